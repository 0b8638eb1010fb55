/- The law UnpackerPlays holds: the walk, then the lift to the given statement. No condition. -/
import Derived.Test.YtllpbfejoahllaaV
import Derived.WalkKit
import Derived.Deep.DeepCutAuto
import Derived.Deep.CutBlock
import Derived.Outline
import Derived.ProofKit
import Derived.OpenShut
import Derived.Lib.Hide
import Derived.ChangeOld
import Derived.Below
import Derived.SizedLaws
namespace Go.Proofs.Ytllpbfejoahllaa.unpackerPlays
open Go.ChangeShapes Go.WideShapes Go.ChangeAt Go.RowKit
set_option linter.unusedVariables false
theorem own : ownKnob Try.prog.godebug = none := by kernel_rfl
theorem laidOut : laidOutB Try.prog = true := by kernel_rfl

set_option maxRecDepth 20000 in
set_option maxHeartbeats 4000000 in
theorem walk {H : Type} {enc : TypeId × Value → H} (v0 : Value) (a1 : Bool) (w : World) {b0 : Nat} {d0 : DataW H} {p0 : List MemPlace} (ok0 : Value.okWide Try.prog w .any b0 27 v0) (tr0 : DataW.Trod enc Try.prog w 0 (fun _ => true) true 27 v0 d0 p0) : Calls Try.prog 5 #[v0, .bool a1] w fun e w' => e = .returned (.bool true) ∧ Below w.heap.size w w' := by
  obtain ⟨L, hL⟩ := arg_fields ok0 tr0
  have HL := Lib.hid hL
  obtain ⟨av, capv, rfl, hcv, -⟩ := id hL
  clear ok0 tr0 hL
  by_cases h60 : 60 < L.length
  · have e1 : (60 : Int) < (L.length : Int) := by omega
    go_enter Try.func5, Try.ntmps5
    go_wp2_with fail
    refine (alive_any _).mono ?_
    rintro e w9 ⟨rfl, hB⟩
    have HB := Lib.hid hB
    clear hB
    go_wp2_with fail
    go_ret
    exact ⟨rfl, HB.out⟩
  · have e1 : ¬ (60 : Int) < (L.length : Int) := by omega
    go_enter Try.func5, Try.ntmps5
    go_wp2_with fail
    refine (new_any _).mono ?_
    rintro e w1 ⟨rfl, hU, hB⟩
    have hs1 := hB.size
    have hl1 := hU.blk.lt
    obtain ⟨w2, hw2⟩ : ∃ w2, w2 = w1.alloc (.cells #[.bool false, .int .i64 0, .int .i64 0, .bool false, .slice none 0 0] 43) := ⟨_, rfl⟩
    have hB2 : Below w1.heap.size w1 w2 := by rw [hw2]; exact al (Below.refl _ _) _
    have HPL : Hid (PL w w2 w1.heap.size 0 w.heap.size US.new none 0 none 0) := Lib.hid ⟨hU.below hB2 (Nat.le_refl _), by rw [hw2]; exact Blk.new w1 43 (rcells US.new none 0), .inl rfl, by simp [US.new], by unfold maxLen; omega, by decide, by decide, by decide, hB.trans (hB2.mono hs1), Nat.le_refl _, hs1, by omega⟩
    obtain ⟨br, hbr⟩ : ∃ br, br = w1.heap.size := ⟨_, rfl⟩
    rw [← hbr] at HPL
    clear hU hB hB2 hl1
    go_wp2_with fail
    rw [← hw2, ← hbr]
    clear hw2 hbr hs1
    go_loopw [5, 7] (fun u i wr => PLR w br L u i wr) (fun _ i _ => L.length - (intOf i).toNat)
    case atStart => exact ⟨0, _, _, _, _, _, _, by omega, rfl, rfl, HPL.out⟩
    case round =>
      obtain ⟨k, bu, st, a, cap, ar, capr, hk, rfl, rfl, hP⟩ := hrel
      have HP := Lib.hid hP
      clear hP
      by_cases hlt : k < L.length
      · obtain ⟨b, off, rfl⟩ : ∃ b off, av = some ⟨b, off, none⟩ := by
          obtain ⟨a', c', e, -, h⟩ := HL.out
          rcases h with h | ⟨b, off, rfl, -⟩
          · rw [h] at hlt; simp at hlt
          · simp only [Value.slice.injEq] at e; exact ⟨b, off, e.1⟩
        obtain ⟨hb, ax, cx, c0, c1, c2, hA, hcx, hmx⟩ := HL.out.get hlt
        obtain ⟨X, hX⟩ : ∃ X, X = L[k] := ⟨_, rfl⟩
        rw [← hX] at c0 c1 c2 hA hcx
        obtain ⟨cn, fs, dt⟩ := X
        clear hX
        dsimp only at c0 c1 c2 hA hcx
        have hwB := HP.out.below
        have d0 : wr.cell? ⟨b, off + k * 3, none⟩ = some (.int .i64 cn) := (hwB.cell (p := ⟨b, off + k * 3, none⟩) hb).trans c0
        have d1 : wr.cell? ⟨b, off + k * 3 + 1, none⟩ = some (.int .i64 fs) := (hwB.cell (p := ⟨b, off + k * 3 + 1, none⟩) hb).trans c1
        have d2 : wr.cell? ⟨b, off + k * 3 + 2, none⟩ = some (.slice ax dt.length cx) := (hwB.cell (p := ⟨b, off + k * 3 + 2, none⟩) hb).trans c2
        have HA := Lib.hid (hA.below hwB (Nat.le_refl _))
        clear c0 c1 c2 hA hwB
        have g1 : (0 : Int) ≤ (k : Int) := by omega
        have g2 : (k : Int) < (L.length : Int) := by omega
        have g3 : (L.length : Int) ≤ 60 := by omega
        obtain ⟨wx, hwx⟩ : ∃ wx, wx = wr.alloc (.cells #[.int .i64 cn, .int .i64 fs, .slice ax dt.length cx] 37) := ⟨_, rfl⟩
        have hBx : Below wr.heap.size wr wx := by rw [hwx]; exact al (Below.refl _ _) _
        have hkx : Blk wx wr.heap.size 37 [.int .i64 cn, .int .i64 fs, .slice ax dt.length cx] := by rw [hwx]; exact Blk.new wr 37 _
        obtain ⟨bx, hbx⟩ : ∃ bx, bx = wr.heap.size := ⟨_, rfl⟩
        rw [← hbx] at hkx
        have HPx := Lib.hid (HP.out.step hBx)
        have HAx := Lib.hid (HA.out.below hBx (Nat.le_refl _))
        have HKX := Lib.hid hkx
        have q0 := hkx.at 0 rfl
        have q1 := hkx.at 1 rfl
        have q2 := hkx.at 2 rfl
        have ql := hkx.lt
        by_cases h11 : 1100 < dt.length
        · have e2 : (1100 : Int) < (dt.length : Int) := by omega
          clear hkx hBx q0 q1 q2 ql
          go_wp2_with fail
          rw [← hwx]
          clear hwx
          refine (alive_any _).mono ?_
          rintro e w9 ⟨rfl, hB⟩
          have HB9 := Lib.hid (HPx.out.below.trans (hB.mono HPx.out.below.size))
          clear hB
          go_wp2_with fail
          go_ret
          exact ⟨rfl, HB9.out⟩
        · have e2 : ¬ (1100 : Int) < (dt.length : Int) := by omega
          clear hkx hBx
          cases a1
          · go_upto_region 15 with fail
            rw [← hwx, ← hbx]
            have hxr := HP.out.u.blk.lt
            have hbn : bu ≠ bx := by omega
            obtain ⟨wy, hwy⟩ : ∃ wy, wy = wx := ⟨wx, rfl⟩
            have HPY : Hid (PL w wy br k bu st a cap ar capr) := Lib.hid (by rw [hwy]; exact HPx.out)
            have HKY : Hid (Blk wy bx 37 [.int .i64 cn, .int .i64 fs, .slice ax dt.length cx]) := Lib.hid (by rw [hwy]; exact HKX.out)
            have HAY : Hid (BAt wy ax dt) := Lib.hid (by rw [hwy]; exact HAx.out)
            rw [← hwy]
            clear hwx hbx q0 q1 q2 ql d0 d1 d2 hxr hwy HP HPx HKX HAx HA
            have y0 := HKY.out.at 0 rfl
            have y1 := HKY.out.at 1 rfl
            have y2 := HKY.out.at 2 rfl
            have yl := HKY.out.lt
            have HST : Hid (0 ≤ st.lost ∧ st.lost ≤ 1000000000) := Lib.hid ⟨HPY.out.l.1, by have := HPY.out.l.2; omega⟩
            go_wp2_with fail
            refine (take_any bu cap cx st a ax cn fs dt _ HPY.out.u HPY.out.n HST.out HPY.out.s HAY.out (by omega) hcx hmx).mono ?_
            rintro e w3 ⟨vo, a3, cap3, rfl, hU3, hS3, hF3, -⟩
            have htb := st.take_bd cn fs dt HPY.out.n HPY.out.l.1 HPY.out.s
            obtain ⟨R, hR⟩ : ∃ R, R = st.take cn fs dt := ⟨_, rfl⟩
            have HRR : Hid (st.take cn fs dt = R) := Lib.hid hR.symm
            rw [← hR] at hU3 hS3 htb
            obtain ⟨st1, outs⟩ := R
            dsimp only at hU3 hS3 htb
            obtain ⟨hn1, hl1, hl2, hs1, -⟩ := htb
            have hk3 := HKY.out.fr hF3 (fun e => hbn e.symm)
            have z0 := hk3.at 0 rfl
            have z1 := hk3.at 1 rfl
            have z2 := hk3.at 2 rfl
            have zl := hk3.lt
            have hr3 := HPY.out.r.fr hF3 (fun e => HPY.out.ne e.symm)
            have t0 := hr3.at 0 rfl
            have t1 := hr3.at 1 rfl
            have t2 := hr3.at 2 rfl
            have t3 := hr3.at 3 rfl
            have t4 := hr3.at 4 rfl
            have tl := hr3.lt
            have HRB : Hid (BAt w3 ar st.rest) := Lib.hid (HPY.out.rb.apart hF3 (fun q hq hne e => blk_apart HPY.out.u.blk HPY.out.rb hne UAt.plain q hq e))
            have HA3 : Hid (BAt w3 ax dt) := Lib.hid (HAY.out.apart hF3 (fun q hq hne e => blk_apart HPY.out.u.blk HAY.out hne UAt.plain q hq e))
            have HU3 := Lib.hid hU3
            have HS3 := Lib.hid hS3
            have HF3 := Lib.hid hF3
            have HR3 := Lib.hid hr3
            have HN1 := Lib.hid hn1
            have HL1 := Lib.hid (And.intro hl1 hl2)
            clear hR hU3 hS3 hF3 hr3 hk3 y0 y1 y2 yl hn1 hl1 hl2
            go_wp2_with fail
            refine (rtake_any st ar ax capr cx cn fs dt _ HRB.out HPY.out.rc HPY.out.rm HPY.out.n HST.out HPY.out.s HA3.out (by omega) hcx hmx).mono ?_
            rintro e w4 ⟨vo4, ar4, cap4, rfl, hb4, hS4, hB4⟩
            rw [HRR.out] at hb4 hS4 ⊢
            dsimp only at hb4 hS4 ⊢
            unfold UV
            have hr4 := HR3.out.below hB4 (Nat.le_refl _)
            have hrl := hr4.lt
            have rf0 := hr4.free 0
            have rf1 := hr4.free 1
            have rf2 := hr4.free 2
            have rf3 := hr4.free 3
            have rf4 := hr4.free 4
            have x0 := hr4.at 0 rfl
            have x1 := hr4.at 1 rfl
            have x2 := hr4.at 2 rfl
            have x3 := hr4.at 3 rfl
            have x4 := hr4.at 4 rfl
            have HR4 := Lib.hid hr4
            have HB4 := Lib.hid hB4
            have HS4 := Lib.hid hS4
            have HBB := Lib.hid hb4
            clear hr4 hB4 hS4 hb4 z0 z1 z2 zl t0 t1 t2 t3 t4 tl
            go_upto_region 18 with fail
            obtain ⟨w5, hw5⟩ : ∃ w5, w5 = (fin5 w4 br (.bool st1.started) (.int .i64 st1.next) (.int .i64 st1.lost) (.bool st1.step) (.slice ar4 st1.rest.length cap4)).alloc (.cells #[.bool st1.started, .int .i64 st1.next, .int .i64 st1.lost, .bool st1.step, .slice ar4 st1.rest.length cap4] 43) := ⟨_, rfl⟩
            have hf5 : Fr (fun k => k = br) w4 w5 := by rw [hw5]; exact (fin5_fr ..).alloc _
            have hk5 : Blk w5 br 43 (rcells st1 ar4 cap4) := by rw [hw5]; exact Blk.cast ((((((HR4.out.setCell 0 _).setCell 1 _).setCell 2 _).setCell 3 _).setCell 4 _).alloc _) rfl
            have HPN := Lib.hid (HPY.out.next HU3.out HF3.out HB4.out HBB.out.1 HBB.out.2.1 HBB.out.2.2 hk5 hf5 HN1.out HL1.out hs1)
            have hry := HPY.out.r.lt
            have HS5 : Hid (SAt w5 (fun k => k < wy.heap.size) vo outs) := Lib.hid ((HS3.out.below HB4.out (Nat.le_refl _)).fr hf5 (fun k hk => .inl (by omega)))
            have hry3 := HR3.out.lt
            have HS6 : Hid (SAt w5 (fun k => k < w3.heap.size) vo4 outs) := Lib.hid (HS4.out.fr hf5 (fun k hk => .inl (by omega)))
            have s2 := hk5.at 2 rfl
            have hl5 := hk5.lt
            unfold fin5 at hw5
            rw [← hw5]
            clear hw5 hf5 hk5 rf0 rf1 rf2 rf3 rf4 x0 x1 x2 x3 x4 hrl HR4 HR3 HB4 HBB HS3 HS4 HF3 HU3 hry hry3
            refine wp_region_held_drew (S := (fun w' => w'.cell? ⟨br, 2, none⟩ = some (.int .i64 st1.lost))) (by kernel_rfl) (by (try dsimp only); first | assumption | go_keep) (fun hHeld => ?_)
            refine wpAnyH_take (i := 0) (oi := (Oper.mk (some 64) (Op.move (Operand.tmp 10)) 22 "law.go:53" #[] none)) (v := ?_) rfl (by kernel_rfl) (by kernel_rfl) (by kernel_rfl) (fun _ _ _ h => h) (Or.inl ⟨by rfl, ?_⟩) (by assumption) ?_
            rotate_left
            · (intro w hSw; (try dsimp only at hSw); go_simp; first | done | with_reducible rfl)
            (try simp only [Act.put, List.setIfInBounds_toArray, List.set_cons_zero, List.set_cons_succ])
            refine wpAnyH_take (i := 1) (oi := (Oper.mk (some 65) (Op.move (Operand.tmp 12)) 22 "law.go:53" #[] none)) (v := ?_) rfl (by kernel_rfl) (by kernel_rfl) (by kernel_rfl) (fun _ _ _ h => h) (Or.inl ⟨by rfl, ?_⟩) (by assumption) ?_
            rotate_left
            · (intro w hSw; (try dsimp only at hSw); go_simp; first | done | with_reducible rfl)
            (try simp only [Act.put, List.setIfInBounds_toArray, List.set_cons_zero, List.set_cons_succ])
            refine wpAnyH_ready (rs := [2]) (by kernel_rfl) (by simp) ?_
            refine AllReadyH.cons (o := (Oper.mk (some 66) (Op.call (Call.mk (Callee.value (Operand.func 13)) #[Operand.tmp 64, Operand.tmp 65] #[22, 22])) 4 "law.go:53" #[Edge.mk 0 Ground.data, Edge.mk 1 Ground.data] none)) rfl (fun K hK => ?_) (AllReadyH.nil)
            go_simp
            (go_at_call 13; refine (same_any _ _ _ _ _ _ w5.drew (HS5.out.below ((Quiet.drewN (Quiet.refl w5) 1).below (B := w5.heap.size)) (Nat.le_refl _)) (HS6.out.below ((Quiet.drewN (Quiet.refl w5) 1).below (B := w5.heap.size)) (Nat.le_refl _))).mono ?_; rintro e z1 ⟨rfl, hq⟩; rw [decide_eq_true (rfl : outs = outs)]; have hbz : Below w5.heap.size w5 z1 := ((Quiet.drewN (Quiet.refl w5) 1).below (B := w5.heap.size)).trans (hq.below (B := w5.heap.size)); have s2z := (hbz.cell (p := ⟨br, 2, none⟩) hl5).trans s2; have HPZ := Lib.hid (HPN.out.step hbz); clear hq hbz s2)
            refine hK.out _ _ (by (try dsimp only); first | assumption | go_keep) (fun hHeld => ?_)
            clear hK K
            (try simp only [Act.put, List.setIfInBounds_toArray, List.set_cons_zero, List.set_cons_succ])
            refine wpAnyH_take (i := 3) (oi := (Oper.mk (some 67) (Op.unOp UnOp.not 4 (Operand.tmp 66)) 4 "law.go:53" #[Edge.mk 2 Ground.data] none)) (v := ?_) rfl (by kernel_rfl) (by kernel_rfl) (by kernel_rfl) (fun _ _ _ h => h) (Or.inl ⟨by rfl, ?_⟩) (by assumption) ?_
            rotate_left
            · (intro w hSw; (try dsimp only at hSw); go_simp; first | done | with_reducible rfl)
            (try simp only [Act.put, List.setIfInBounds_toArray, List.set_cons_zero, List.set_cons_succ])
            refine wpAnyH_take (i := 4) (oi := (Oper.mk (some 68) (Op.move (Operand.tmp 67)) 4 "law.go:53" #[Edge.mk 3 Ground.data, Edge.mk 2 Ground.chain] none)) (v := ?_) rfl (by kernel_rfl) (by kernel_rfl) (by kernel_rfl) (fun _ _ _ h => h) (Or.inl ⟨by rfl, ?_⟩) (by assumption) ?_
            rotate_left
            · (intro w hSw; (try dsimp only at hSw); go_simp; first | done | with_reducible rfl)
            (try simp only [Act.put, List.setIfInBounds_toArray, List.set_cons_zero, List.set_cons_succ])
            refine wpAnyH_take (i := 5) (oi := (Oper.mk (some 69) (Op.move (Operand.tmp 5)) 33 "law.go:53" #[Edge.mk 4 Ground.guard] (some (4, false)))) (v := ?_) rfl (by kernel_rfl) (by kernel_rfl) (by kernel_rfl) (fun _ _ _ h => h) (Or.inl ⟨by rfl, ?_⟩) (by assumption) ?_
            rotate_left
            · (intro w hSw; (try dsimp only at hSw); go_simp; first | done | with_reducible rfl)
            (try simp only [Act.put, List.setIfInBounds_toArray, List.set_cons_zero, List.set_cons_succ])
            refine wpAnyH_take (i := 7) (oi := (Oper.mk (some 71) (Op.fieldAddr 43 (Operand.tmp 6) 2) 0 "law.go:53" #[Edge.mk 4 Ground.guard] (some (4, false)))) (v := ?_) rfl (by kernel_rfl) (by kernel_rfl) (by kernel_rfl) (fun _ _ _ h => h) (Or.inl ⟨by rfl, ?_⟩) (by assumption) ?_
            rotate_left
            · (intro w hSw; (try dsimp only at hSw); go_simp; first | done | with_reducible rfl)
            (try simp only [Act.put, List.setIfInBounds_toArray, List.set_cons_zero, List.set_cons_succ])
            refine wpAnyH_take (i := 8) (oi := (Oper.mk (some 72) (Op.load 3 (Operand.tmp 71)) 3 "law.go:53" #[Edge.mk 7 Ground.data, Edge.mk 4 Ground.guard] (some (4, false)))) (v := ?_) rfl (by kernel_rfl) (by kernel_rfl) (by kernel_rfl) (fun _ _ _ h => h) (Or.inl ⟨by rfl, ?_⟩) (by assumption) ?_
            rotate_left
            · (intro w hSw; (try dsimp only at hSw); go_simp; first | done | with_reducible rfl)
            (try simp only [Act.put, List.setIfInBounds_toArray, List.set_cons_zero, List.set_cons_succ])
            refine wpAnyH_ready (rs := [6]) (by kernel_rfl) (by simp) ?_
            refine AllReadyH.cons (o := (Oper.mk (some 70) (Op.call (Call.mk (Callee.value (Operand.func 14)) #[Operand.tmp 69] #[33])) 3 "law.go:53" #[Edge.mk 5 Ground.data, Edge.mk 4 Ground.chain, Edge.mk 4 Ground.guard] (some (4, false)))) rfl (fun K hK => ?_) (AllReadyH.nil)
            go_simp
            (go_at_call 14; refine (lost_any _ _ _ _ _ HPZ.out.u).mono ?_; rintro e z9 ⟨rfl, hz9⟩; obtain rfl := hz9.symm)
            refine hK.out _ _ (by (try dsimp only); first | assumption | go_keep) (fun hHeld => ?_)
            clear hK K
            (try simp only [Act.put, List.setIfInBounds_toArray, List.set_cons_zero, List.set_cons_succ])
            refine wpAnyH_take (i := 9) (oi := (Oper.mk (some 73) (Op.binOp BinOp.neq 3 (Operand.tmp 70) (Operand.tmp 72) 3) 4 "law.go:53" #[Edge.mk 6 Ground.data, Edge.mk 8 Ground.data, Edge.mk 4 Ground.guard] (some (4, false)))) (v := ?_) rfl (by kernel_rfl) (by kernel_rfl) (by kernel_rfl) (fun _ _ _ h => h) (Or.inl ⟨by rfl, ?_⟩) (by assumption) ?_
            rotate_left
            · (intro w hSw; (try dsimp only at hSw); go_simp; first | done | with_reducible rfl)
            (try simp only [Act.put, List.setIfInBounds_toArray, List.set_cons_zero, List.set_cons_succ])
            refine wpAnyH_take (i := 10) (oi := (Oper.mk (some 74) (Op.pick (Operand.tmp 68) (Operand.const (Value.bool true)) (Operand.tmp 73)) 4 "law.go:53" #[Edge.mk 4 Ground.data, Edge.mk 9 Ground.data] none)) (v := ?_) rfl (by kernel_rfl) (by kernel_rfl) (by kernel_rfl) (fun _ _ _ h => h) (Or.inl ⟨by rfl, ?_⟩) (by assumption) ?_
            rotate_left
            · (intro w hSw; (try dsimp only at hSw); go_simp; first | done | with_reducible rfl)
            (try simp only [Act.put, List.setIfInBounds_toArray, List.set_cons_zero, List.set_cons_succ])
            refine wpAnyH_done (by kernel_rfl) ?_ _
            go_wp2_with fail
            go_roundw
            case rel => exact ⟨k + 1, bu, st1, a3, cap3, ar4, cap4, by omega, by go_num, rfl, HPZ.out⟩
            case measure => simp [intOf]; omega
          · subst hbx
            go_wp2_with fail
            rw [← hwx]
            refine (uclone_any bu cap st a _ HPx.out.u (by have := HPx.out.s; omega)).mono ?_
            rintro e w6 ⟨a6, cap6, rfl, hU6, hN6, hB6⟩
            have HP6 := Lib.hid (HPx.out.step hB6)
            have hk6 := HKX.out.below hB6 (Nat.le_refl _)
            have p0 := hk6.at 0 rfl
            have p1 := hk6.at 1 rfl
            have p2 := hk6.at 2 rfl
            have pl := hk6.lt
            have HK6 := Lib.hid hk6
            have HA6 := Lib.hid (HAx.out.below hB6 (Nat.le_refl _))
            have HU6 := Lib.hid hU6
            have HN6 := Lib.hid hN6
            have HB6 := Lib.hid hB6
            have hxr := HP.out.u.blk.lt
            have hxl := HKX.out.lt
            have hxx : wr.heap.size < wx.heap.size := by omega
            have hbn : bu ≠ wr.heap.size := by omega
            clear hwx hk6 hU6 hN6 hB6 q0 q1 q2 ql
            go_wp2_with fail
            refine (take_any bu cap 3 st a (some ⟨w6.heap.size, 0, none⟩) _ 0 [1, 2, 3] _ (HP6.out.u.below (al (Below.refl _ _) _) (Nat.le_refl _)) HP6.out.n ⟨HP6.out.l.1, by have := HP6.out.l.2; omega⟩ HP6.out.s (lit3 _ _ _ _) (by decide) (by decide) (by unfold maxLen; omega)).mono ?_
            rintro e w7 ⟨vo7, a7, cap7, rfl, hU7, -, hF7, -⟩
            have hB67 := al (Below.refl _ w6) (.cells #[.int .u8 1, .int .u8 2, .int .u8 3] 5)
            have HPY := Lib.hid (HPx.out.swap (HU6.out.below hB67 (Nat.le_refl _)) rfl HN6.out (HB6.out.trans (hB67.mono HB6.out.size)) hU7 hF7)
            have HKY := Lib.hid ((HK6.out.below hB67 (Nat.le_refl _)).fr hF7 (fun e => hbn e.symm))
            have HAY : Hid (BAt w7 ax dt) := Lib.hid ((HA6.out.below hB67 (Nat.le_refl _)).apart hF7 (fun q hq hne e => blk_apart (HP6.out.u.below hB67 (Nat.le_refl _)).blk (HA6.out.below hB67 (Nat.le_refl _)) hne UAt.plain q hq e))
            clear hU7 hF7 hB67 p0 p1 p2 pl HP6 HK6 HA6 HU6 HN6 HB6 d0 d1 d2 hxr hxl hbn HP HPx HKX HAx HA
            go_upto_region 15 with fail
            obtain ⟨wy, hwy⟩ : ∃ wy, wy = w7 := ⟨w7, rfl⟩
            subst hwy
            obtain ⟨bx, hbx⟩ : ∃ bx, bx = wr.heap.size := ⟨_, rfl⟩
            obtain ⟨bc, hbc⟩ : ∃ bc, bc = wx.heap.size := ⟨_, rfl⟩
            have hbn2 : bc ≠ bx := by omega
            rw [← hbx] at HKY
            rw [← hbc] at HPY
            rw [← hbx, ← hbc]
            clear hbx hbc hxx
            have y0 := HKY.out.at 0 rfl
            have y1 := HKY.out.at 1 rfl
            have y2 := HKY.out.at 2 rfl
            have yl := HKY.out.lt
            have HST : Hid (0 ≤ st.lost ∧ st.lost ≤ 1000000000) := Lib.hid ⟨HPY.out.l.1, by have := HPY.out.l.2; omega⟩
            go_wp2_with fail
            refine (take_any bc cap6 cx st a6 ax cn fs dt _ HPY.out.u HPY.out.n HST.out HPY.out.s HAY.out (by omega) hcx hmx).mono ?_
            rintro e w3 ⟨vo, a3, cap3, rfl, hU3, hS3, hF3, -⟩
            have htb := st.take_bd cn fs dt HPY.out.n HPY.out.l.1 HPY.out.s
            obtain ⟨R, hR⟩ : ∃ R, R = st.take cn fs dt := ⟨_, rfl⟩
            have HRR : Hid (st.take cn fs dt = R) := Lib.hid hR.symm
            rw [← hR] at hU3 hS3 htb
            obtain ⟨st1, outs⟩ := R
            dsimp only at hU3 hS3 htb
            obtain ⟨hn1, hl1, hl2, hs1, -⟩ := htb
            have hk3 := HKY.out.fr hF3 (fun e => hbn2 e.symm)
            have z0 := hk3.at 0 rfl
            have z1 := hk3.at 1 rfl
            have z2 := hk3.at 2 rfl
            have zl := hk3.lt
            have hr3 := HPY.out.r.fr hF3 (fun e => HPY.out.ne e.symm)
            have t0 := hr3.at 0 rfl
            have t1 := hr3.at 1 rfl
            have t2 := hr3.at 2 rfl
            have t3 := hr3.at 3 rfl
            have t4 := hr3.at 4 rfl
            have tl := hr3.lt
            have HRB : Hid (BAt w3 ar st.rest) := Lib.hid (HPY.out.rb.apart hF3 (fun q hq hne e => blk_apart HPY.out.u.blk HPY.out.rb hne UAt.plain q hq e))
            have HA3 : Hid (BAt w3 ax dt) := Lib.hid (HAY.out.apart hF3 (fun q hq hne e => blk_apart HPY.out.u.blk HAY.out hne UAt.plain q hq e))
            have HU3 := Lib.hid hU3
            have HS3 := Lib.hid hS3
            have HF3 := Lib.hid hF3
            have HR3 := Lib.hid hr3
            have HN1 := Lib.hid hn1
            have HL1 := Lib.hid (And.intro hl1 hl2)
            clear hR hU3 hS3 hF3 hr3 hk3 y0 y1 y2 yl hn1 hl1 hl2
            go_wp2_with fail
            refine (rtake_any st ar ax capr cx cn fs dt _ HRB.out HPY.out.rc HPY.out.rm HPY.out.n HST.out HPY.out.s HA3.out (by omega) hcx hmx).mono ?_
            rintro e w4 ⟨vo4, ar4, cap4, rfl, hb4, hS4, hB4⟩
            rw [HRR.out] at hb4 hS4 ⊢
            dsimp only at hb4 hS4 ⊢
            unfold UV
            have hr4 := HR3.out.below hB4 (Nat.le_refl _)
            have hrl := hr4.lt
            have rf0 := hr4.free 0
            have rf1 := hr4.free 1
            have rf2 := hr4.free 2
            have rf3 := hr4.free 3
            have rf4 := hr4.free 4
            have x0 := hr4.at 0 rfl
            have x1 := hr4.at 1 rfl
            have x2 := hr4.at 2 rfl
            have x3 := hr4.at 3 rfl
            have x4 := hr4.at 4 rfl
            have HR4 := Lib.hid hr4
            have HB4 := Lib.hid hB4
            have HS4 := Lib.hid hS4
            have HBB := Lib.hid hb4
            clear hr4 hB4 hS4 hb4 z0 z1 z2 zl t0 t1 t2 t3 t4 tl
            go_upto_region 18 with fail
            obtain ⟨w5, hw5⟩ : ∃ w5, w5 = (fin5 w4 br (.bool st1.started) (.int .i64 st1.next) (.int .i64 st1.lost) (.bool st1.step) (.slice ar4 st1.rest.length cap4)).alloc (.cells #[.bool st1.started, .int .i64 st1.next, .int .i64 st1.lost, .bool st1.step, .slice ar4 st1.rest.length cap4] 43) := ⟨_, rfl⟩
            have hf5 : Fr (fun k => k = br) w4 w5 := by rw [hw5]; exact (fin5_fr ..).alloc _
            have hk5 : Blk w5 br 43 (rcells st1 ar4 cap4) := by rw [hw5]; exact Blk.cast ((((((HR4.out.setCell 0 _).setCell 1 _).setCell 2 _).setCell 3 _).setCell 4 _).alloc _) rfl
            have HPN := Lib.hid (HPY.out.next HU3.out HF3.out HB4.out HBB.out.1 HBB.out.2.1 HBB.out.2.2 hk5 hf5 HN1.out HL1.out hs1)
            have hry := HPY.out.r.lt
            have HS5 : Hid (SAt w5 (fun k => k < wy.heap.size) vo outs) := Lib.hid ((HS3.out.below HB4.out (Nat.le_refl _)).fr hf5 (fun k hk => .inl (by omega)))
            have hry3 := HR3.out.lt
            have HS6 : Hid (SAt w5 (fun k => k < w3.heap.size) vo4 outs) := Lib.hid (HS4.out.fr hf5 (fun k hk => .inl (by omega)))
            have s2 := hk5.at 2 rfl
            have hl5 := hk5.lt
            unfold fin5 at hw5
            rw [← hw5]
            clear hw5 hf5 hk5 rf0 rf1 rf2 rf3 rf4 x0 x1 x2 x3 x4 hrl HR4 HR3 HB4 HBB HS3 HS4 HF3 HU3 hry hry3
            refine wp_region_held_drew (S := (fun w' => w'.cell? ⟨br, 2, none⟩ = some (.int .i64 st1.lost))) (by kernel_rfl) (by (try dsimp only); first | assumption | go_keep) (fun hHeld => ?_)
            refine wpAnyH_take (i := 0) (oi := (Oper.mk (some 64) (Op.move (Operand.tmp 10)) 22 "law.go:53" #[] none)) (v := ?_) rfl (by kernel_rfl) (by kernel_rfl) (by kernel_rfl) (fun _ _ _ h => h) (Or.inl ⟨by rfl, ?_⟩) (by assumption) ?_
            rotate_left
            · (intro w hSw; (try dsimp only at hSw); go_simp; first | done | with_reducible rfl)
            (try simp only [Act.put, List.setIfInBounds_toArray, List.set_cons_zero, List.set_cons_succ])
            refine wpAnyH_take (i := 1) (oi := (Oper.mk (some 65) (Op.move (Operand.tmp 12)) 22 "law.go:53" #[] none)) (v := ?_) rfl (by kernel_rfl) (by kernel_rfl) (by kernel_rfl) (fun _ _ _ h => h) (Or.inl ⟨by rfl, ?_⟩) (by assumption) ?_
            rotate_left
            · (intro w hSw; (try dsimp only at hSw); go_simp; first | done | with_reducible rfl)
            (try simp only [Act.put, List.setIfInBounds_toArray, List.set_cons_zero, List.set_cons_succ])
            refine wpAnyH_ready (rs := [2]) (by kernel_rfl) (by simp) ?_
            refine AllReadyH.cons (o := (Oper.mk (some 66) (Op.call (Call.mk (Callee.value (Operand.func 13)) #[Operand.tmp 64, Operand.tmp 65] #[22, 22])) 4 "law.go:53" #[Edge.mk 0 Ground.data, Edge.mk 1 Ground.data] none)) rfl (fun K hK => ?_) (AllReadyH.nil)
            go_simp
            (go_at_call 13; refine (same_any _ _ _ _ _ _ w5.drew (HS5.out.below ((Quiet.drewN (Quiet.refl w5) 1).below (B := w5.heap.size)) (Nat.le_refl _)) (HS6.out.below ((Quiet.drewN (Quiet.refl w5) 1).below (B := w5.heap.size)) (Nat.le_refl _))).mono ?_; rintro e z1 ⟨rfl, hq⟩; rw [decide_eq_true (rfl : outs = outs)]; have hbz : Below w5.heap.size w5 z1 := ((Quiet.drewN (Quiet.refl w5) 1).below (B := w5.heap.size)).trans (hq.below (B := w5.heap.size)); have s2z := (hbz.cell (p := ⟨br, 2, none⟩) hl5).trans s2; have HPZ := Lib.hid (HPN.out.step hbz); clear hq hbz s2)
            refine hK.out _ _ (by (try dsimp only); first | assumption | go_keep) (fun hHeld => ?_)
            clear hK K
            (try simp only [Act.put, List.setIfInBounds_toArray, List.set_cons_zero, List.set_cons_succ])
            refine wpAnyH_take (i := 3) (oi := (Oper.mk (some 67) (Op.unOp UnOp.not 4 (Operand.tmp 66)) 4 "law.go:53" #[Edge.mk 2 Ground.data] none)) (v := ?_) rfl (by kernel_rfl) (by kernel_rfl) (by kernel_rfl) (fun _ _ _ h => h) (Or.inl ⟨by rfl, ?_⟩) (by assumption) ?_
            rotate_left
            · (intro w hSw; (try dsimp only at hSw); go_simp; first | done | with_reducible rfl)
            (try simp only [Act.put, List.setIfInBounds_toArray, List.set_cons_zero, List.set_cons_succ])
            refine wpAnyH_take (i := 4) (oi := (Oper.mk (some 68) (Op.move (Operand.tmp 67)) 4 "law.go:53" #[Edge.mk 3 Ground.data, Edge.mk 2 Ground.chain] none)) (v := ?_) rfl (by kernel_rfl) (by kernel_rfl) (by kernel_rfl) (fun _ _ _ h => h) (Or.inl ⟨by rfl, ?_⟩) (by assumption) ?_
            rotate_left
            · (intro w hSw; (try dsimp only at hSw); go_simp; first | done | with_reducible rfl)
            (try simp only [Act.put, List.setIfInBounds_toArray, List.set_cons_zero, List.set_cons_succ])
            refine wpAnyH_take (i := 5) (oi := (Oper.mk (some 69) (Op.move (Operand.tmp 5)) 33 "law.go:53" #[Edge.mk 4 Ground.guard] (some (4, false)))) (v := ?_) rfl (by kernel_rfl) (by kernel_rfl) (by kernel_rfl) (fun _ _ _ h => h) (Or.inl ⟨by rfl, ?_⟩) (by assumption) ?_
            rotate_left
            · (intro w hSw; (try dsimp only at hSw); go_simp; first | done | with_reducible rfl)
            (try simp only [Act.put, List.setIfInBounds_toArray, List.set_cons_zero, List.set_cons_succ])
            refine wpAnyH_take (i := 7) (oi := (Oper.mk (some 71) (Op.fieldAddr 43 (Operand.tmp 6) 2) 0 "law.go:53" #[Edge.mk 4 Ground.guard] (some (4, false)))) (v := ?_) rfl (by kernel_rfl) (by kernel_rfl) (by kernel_rfl) (fun _ _ _ h => h) (Or.inl ⟨by rfl, ?_⟩) (by assumption) ?_
            rotate_left
            · (intro w hSw; (try dsimp only at hSw); go_simp; first | done | with_reducible rfl)
            (try simp only [Act.put, List.setIfInBounds_toArray, List.set_cons_zero, List.set_cons_succ])
            refine wpAnyH_take (i := 8) (oi := (Oper.mk (some 72) (Op.load 3 (Operand.tmp 71)) 3 "law.go:53" #[Edge.mk 7 Ground.data, Edge.mk 4 Ground.guard] (some (4, false)))) (v := ?_) rfl (by kernel_rfl) (by kernel_rfl) (by kernel_rfl) (fun _ _ _ h => h) (Or.inl ⟨by rfl, ?_⟩) (by assumption) ?_
            rotate_left
            · (intro w hSw; (try dsimp only at hSw); go_simp; first | done | with_reducible rfl)
            (try simp only [Act.put, List.setIfInBounds_toArray, List.set_cons_zero, List.set_cons_succ])
            refine wpAnyH_ready (rs := [6]) (by kernel_rfl) (by simp) ?_
            refine AllReadyH.cons (o := (Oper.mk (some 70) (Op.call (Call.mk (Callee.value (Operand.func 14)) #[Operand.tmp 69] #[33])) 3 "law.go:53" #[Edge.mk 5 Ground.data, Edge.mk 4 Ground.chain, Edge.mk 4 Ground.guard] (some (4, false)))) rfl (fun K hK => ?_) (AllReadyH.nil)
            go_simp
            (go_at_call 14; refine (lost_any _ _ _ _ _ HPZ.out.u).mono ?_; rintro e z9 ⟨rfl, hz9⟩; obtain rfl := hz9.symm)
            refine hK.out _ _ (by (try dsimp only); first | assumption | go_keep) (fun hHeld => ?_)
            clear hK K
            (try simp only [Act.put, List.setIfInBounds_toArray, List.set_cons_zero, List.set_cons_succ])
            refine wpAnyH_take (i := 9) (oi := (Oper.mk (some 73) (Op.binOp BinOp.neq 3 (Operand.tmp 70) (Operand.tmp 72) 3) 4 "law.go:53" #[Edge.mk 6 Ground.data, Edge.mk 8 Ground.data, Edge.mk 4 Ground.guard] (some (4, false)))) (v := ?_) rfl (by kernel_rfl) (by kernel_rfl) (by kernel_rfl) (fun _ _ _ h => h) (Or.inl ⟨by rfl, ?_⟩) (by assumption) ?_
            rotate_left
            · (intro w hSw; (try dsimp only at hSw); go_simp; first | done | with_reducible rfl)
            (try simp only [Act.put, List.setIfInBounds_toArray, List.set_cons_zero, List.set_cons_succ])
            refine wpAnyH_take (i := 10) (oi := (Oper.mk (some 74) (Op.pick (Operand.tmp 68) (Operand.const (Value.bool true)) (Operand.tmp 73)) 4 "law.go:53" #[Edge.mk 4 Ground.data, Edge.mk 9 Ground.data] none)) (v := ?_) rfl (by kernel_rfl) (by kernel_rfl) (by kernel_rfl) (fun _ _ _ h => h) (Or.inl ⟨by rfl, ?_⟩) (by assumption) ?_
            rotate_left
            · (intro w hSw; (try dsimp only at hSw); go_simp; first | done | with_reducible rfl)
            (try simp only [Act.put, List.setIfInBounds_toArray, List.set_cons_zero, List.set_cons_succ])
            refine wpAnyH_done (by kernel_rfl) ?_ _
            go_wp2_with fail
            go_roundw
            case rel => exact ⟨k + 1, bc, st1, a3, cap3, ar4, cap4, by omega, by go_num, rfl, HPZ.out⟩
            case measure => simp [intOf]; omega
      · have g2 : ¬ (k : Int) < (L.length : Int) := by omega
        go_wp2_with fail
        refine (alive_any _).mono ?_
        rintro e w9 ⟨rfl, hB⟩
        have HB9 := Lib.hid (HP.out.below.trans (hB.mono HP.out.below.size))
        clear hB
        go_wp2_with fail
        go_ret
        exact ⟨rfl, HB9.out⟩


set_option maxRecDepth 100000 in
theorem lifted (os : Os) (started : os.Started) (H : Type) (enc : TypeId × Value → H) :
    ReturnsInHanded {} Try.checked os 5 .any (Rows.unpackerPlaysSpec.pre6 enc Try.prog Try.f5 Rows.unpackerPlaysRow.domain false) (Rows.unpackerPlaysSpec.post enc Try.prog Try.f5 false true false false) := by
  refine returnsInHanded_of_change (C := Try.checked) own started (by kernel_rfl) Try.func5
    (ChangeSpec.witness6 (enc := enc) (C := Try.checked) false ⟨#[], #[.slice none 0 0, .bool false], []⟩ 8 (by kernel_rfl) (by kernel_rfl) (by kernel_rfl) (by kernel_rfl)) ?_
  intro W base args ds gs before hval0 hW hcnd _
  have hval : ∀ (j : Nat) t v, Try.f5.params[j]? = some t → args[j]? = some v → Value.okWide Try.prog W .any base t v := hval0
  have hW' := hW
  obtain ⟨p, q, hA0, hV, rfl, hfz, hnd⟩ := hW
  have hA : DataW.TrodAll enc Try.prog W 0 (fun _ => true) true Try.f5.params.toList args.toList ds p := hA0
  rw [Try.params5] at hA hval
  obtain ⟨v0, vs0, d0, ds0, p0, q0, hargs, rfl, rfl, h0, r0⟩ := trodAll_cons hA
  obtain ⟨v1, vs1, d1, ds1, p1, q1, rfl, rfl, rfl, h1, r1⟩ := trodAll_cons r0
  obtain ⟨rfl, rfl, rfl⟩ := trodAll_nil r1
  obtain rfl : args = #[v0, v1] := by cases args; simp_all
  obtain ⟨rfl, rfl⟩ := trodVars_none hV
  have k0 := h0
  have lt0 : ∀ x ∈ p0, x.block < W.heap.size := by obtain ⟨m, hm⟩ := k0; exact DataW.trod_lt m _ _ _ hm
  obtain ⟨a1, rfl, rfl, rfl⟩ := open_bool Try.underlying4 (hval 1 4 v1 rfl rfl) h1
  clear hA0 hval0
  refine (walk v0 a1 W (hval 0 27 v0 rfl rfl) k0).mono fun e W' ⟨he, bel⟩ => ?_
  subst he
  exact ⟨_, rfl, _, _, _, [], _, [], hW', trodAll_mk1 (shut_bool Try.underlying4 _), (trodAll_cons_mk (Below.trod laidOut (by kernel_rfl) (of_decide_eq_true (by kernel_rfl)) k0 bel lt0) (trodAll_cons_mk (shut_bool Try.underlying4 _) trodAll_mk0)), rfl, bel.frame _, fun h => by cases h⟩

theorem over : Rows.unpackerPlaysRow.holds Try.pinned (OpenSpec.ofChange Rows.unpackerPlaysSpec) :=
  OpenClaim.holds_of_wide 5 Try.f5 rfl rfl rfl rfl rfl rfl rfl ⟨rfl, rfl, rfl, rfl, rfl⟩ rfl rfl rfl rfl rfl (by kernel_rfl) Try.func5 (by kernel_rfl)
    (of_decide_eq_true (by kernel_rfl)) (by unfold Func.isWrapper; first | (rw [if_pos (by decide +kernel)]; kernel_rfl) | (rw [if_neg (by decide +kernel)]; exact ⟨rfl, rfl⟩))
    (fun os started H enc _ => lifted os started H enc)

theorem proved : Rows.UnpackerPlaysSaid := over
#print axioms proved
end Go.Proofs.Ytllpbfejoahllaa.unpackerPlays

/- The law PackerPlays holds: the walk, then the lift to the given statement. No condition. -/
import Derived.Test.YtalghcgedmcifaaAF
import Derived.WalkKit
import Derived.ProofKit
import Derived.OpenShut
import Derived.Lib.Hide
import Derived.ChangeOld
import Derived.Below
import Derived.SizedLaws
namespace Go.Proofs.Ytalghcgedmcifaa.packerPlays
open Go.ChangeShapes Go.WideShapes Go.ChangeAt Go.RowKit
set_option linter.unusedVariables false
theorem own : ownKnob Try.prog.godebug = none := by kernel_rfl
theorem laidOut : laidOutB Try.prog = true := by kernel_rfl

theorem fin5_below1 (wx : World) (H : Nat) (x0 x1 x2 x3 x4 : Value) (a : Addr) (ha : a.block ≠ H) (c : Value) (h : wx.cell? a = some c) : (fin5 wx H x0 x1 x2 x3 x4).cell? a = some c :=
  ((fin5_fr wx H x0 x1 x2 x3 x4).cell (World.block_lt_of_cell? wx a h) ha).trans h
theorem ready_dead (w : World) : Calls Try.prog 12 #[.pointer none] w fun e w' => e = .returned (.bool false) ∧ Quiet w w' := by
  go_enter Try.func12, Try.ntmps12
  go_wp2_with (go_quiet ((go_at_call 25; refine Calls.quiet_of_same ((none_dead _ _ rfl).mono fun _ _ h => ⟨h.1, h.2⟩))))
  go_ret
  exact ⟨rfl, ⟨_, rfl⟩⟩
theorem op_of {w : World} {v : Value} {l : List OpP} (h : Opl w v l) {i n : Nat} (hn : n = l.length) (hi : i < n) : ∃ b off cap ps x cp ax cx, v = .slice (some ⟨b, off, none⟩) n cap ∧ b < w.heap.size ∧ n ≤ cap ∧ l[i]? = some ⟨ps, x, cp⟩ ∧
    w.cell? ⟨b, off + i * 3, none⟩ = some (.bool ps) ∧ w.cell? ⟨b, off + i * 3 + 1, none⟩ = some (.slice ax x.length cx) ∧ w.cell? ⟨b, off + i * 3 + 2, none⟩ = some (.bool cp) ∧ BAt w ax x ∧ x.length ≤ cx ∧ cx ≤ maxLen := by
  subst hn
  obtain ⟨a, cap, rfl, hc, hcm, hl⟩ := h
  obtain ⟨b, off, rfl, hb, hcell⟩ := hl.resolve_left (fun e => by rw [e] at hi; simp at hi)
  obtain ⟨ax, cx, k⟩ := hcell i hi
  exact ⟨b, off, cap, l[i].push, l[i].b, l[i].copy, ax, cx, rfl, hb, hc, by rw [List.getElem?_eq_getElem hi], k⟩
set_option maxRecDepth 20000 in
set_option maxHeartbeats 4000000 in
theorem walk {H : Type} {enc : TypeId × Value → H} (a0 a1 : Int) (v2 : Value) (w : World) (w0 : (Lit.int .i64 a0).wf = true) (w1 : (Lit.int .i64 a1).wf = true) {b2 : Nat} {d2 : DataW H} {p2 : List MemPlace} (ok2 : Value.okWide Try.prog w .any b2 39 v2) (tr2 : DataW.Trod enc Try.prog w 0 (fun _ => true) true 39 v2 d2 p2) : Calls Try.prog 6 #[.int .i64 a0, .int .i64 a1, v2] w fun e w' => e = .returned (.bool true) ∧ Below w.heap.size w w' := by
  obtain ⟨l, hl⟩ := arg_ops ok2 tr2
  have HL := Lib.hid hl
  clear ok2 tr2 hl
  cases hr : rightB a0 with
  | false =>
    have HR := Lib.hid hr
    clear w0 w1 hr
    go_enter Try.func6, Try.ntmps6
    go_wp2_with fail
    refine (new_bad a0 a1 w HR.out).mono ?_
    rintro e wq ⟨rfl, hw⟩
    obtain rfl := hw.symm
    go_wp2_with (go_at_call 7; refine (right_any a0 w).mono ?_; rintro e wq ⟨rfl, hw⟩; obtain rfl := hw.symm; rw [HR.out])
    refine (lbytes_any 1 1 w (by omega) (by omega)).mono ?_
    rintro e w3 ⟨vx, rfl, hO, hB⟩
    have HB := Lib.hid hB
    clear hO hB
    go_wp2_with fail
    refine (push_dead vx w3).mono ?_
    rintro e wq ⟨rfl, hw⟩
    obtain rfl := hw.symm
    go_wp2_with fail
    refine (left_dead w3).mono ?_
    rintro e wq ⟨rfl, hw⟩
    obtain rfl := hw.symm
    go_wp2_with fail
    refine (ready_dead w3).mono ?_
    rintro e w4 ⟨rfl, hq⟩
    have HB4 : Hid (Below w.heap.size w w4) := Lib.hid (HB.out.trans hq.below)
    clear hq
    go_wp2_with fail
    refine (clone_dead w4).mono ?_
    rintro e wq ⟨rfl, hw⟩
    obtain rfl := hw.symm
    go_wp2_with fail
    refine (alive_any _).mono ?_
    rintro e w9 ⟨rfl, hB⟩
    have HB9 := Lib.hid (HB4.out.trans (hB.mono HB4.out.size))
    clear hB
    go_wp2_with fail
    go_ret
    exact ⟨rfl, HB9.out⟩
  | true =>
    have hs : 1 ≤ a0 ∧ a0 ≤ 1012 := by unfold rightB at hr; simpa using hr
    obtain ⟨s, rfl⟩ : ∃ s : Nat, a0 = (s : Int) := ⟨a0.toNat, by omega⟩
    have HR := Lib.hid hr
    obtain ⟨p0, hp0⟩ : ∃ p0, p0 = PS.new (s : Int) a1 := ⟨_, rfl⟩
    have HP0 := Lib.hid hp0
    have HOK0 : Hid p0.Ok := Lib.hid (by rw [hp0]; exact PS.ok_new hr)
    have HSV0 : Hid p0.Sv7 := Lib.hid (by rw [hp0]; exact PS.sv_new _ _)
    have HSL := HL
    obtain ⟨av, cap, rfl, hcl, hcm, -⟩ := id HL.out
    obtain ⟨n, hn⟩ : ∃ n, n = l.length := ⟨_, rfl⟩
    have HN := Lib.hid hn
    rw [← hn] at hcl HL ⊢
    clear w0 w1 hr hs hp0 hn HSL
    go_enter Try.func6, Try.ntmps6
    go_wp2_with fail
    refine (new_any (s : Int) a1 w HR.out).mono ?_
    rw [← HP0.out]
    rintro e wa ⟨rfl, hP, hB⟩
    have HPA := Lib.hid hP
    have HBA := Lib.hid hB
    clear hP hB
    go_wp2_with (go_at_call 7; refine (right_any (s : Int) wa).mono ?_; rintro e wq ⟨rfl, hw⟩; obtain rfl := hw.symm; rw [HR.out])
    refine (few_any (.slice av n cap) l wa (HL.out.below HBA.out)).mono ?_
    rintro e w3 ⟨r, rfl, hB3, hfw⟩
    have HB3 := Lib.hid (HBA.out.trans (hB3.mono HBA.out.size))
    have HPB := Lib.hid (HPA.out.below hB3 (Nat.le_refl _))
    clear hB3
    cases r with
    | false =>
      go_wp2_with fail
      refine (alive_any _).mono ?_
      rintro e w9 ⟨rfl, hB⟩
      have HB9 := Lib.hid (HB3.out.trans (hB.mono HB3.out.size))
      clear hB
      go_wp2_with fail
      go_ret
      exact ⟨rfl, HB9.out⟩
    | true =>
      obtain ⟨h100, h20⟩ := hfw rfl
      rw [← HN.out] at h100
      have H20 := Lib.hid h20
      clear hfw h20
      go_wp2_with fail
      refine (rnew_any s a1 w3 HR.out).mono ?_
      rw [← HP0.out]
      rintro e w4 ⟨rfl, hB4⟩
      have HPC := Lib.hid (HPB.out.below hB4 (Nat.le_refl _))
      have HB4 := Lib.hid (HB3.out.trans (hB4.mono HB3.out.size))
      clear hB4
      unfold RPV
      go_upto_region 7 with fail
      obtain ⟨br, hbr⟩ : ∃ br, br = w4.heap.size := ⟨_, rfl⟩
      obtain ⟨w5, hw5⟩ : ∃ w5, w5 = w4.alloc (.cells #[.int .i64 (p0.size : Int), .int .i64 (p0.room : Int), .int .i64 (p0.rest.length : Int), .slice none 0 0, .int .i64 (p0.taken : Int)] 44) := ⟨_, rfl⟩
      rw [← hw5, ← hbr]
      have hB5 : Below w4.heap.size w4 w5 := by rw [hw5]; exact al (Below.refl _ _) _
      have hk5 : Blk w5 br 44 (rpcells p0 (.slice none 0 0)) := by rw [hw5, hbr]; exact Blk.new w4 44 _
      have HM0 : Hid (PM w w5 br w.heap.size p0 p0 (.slice none 0 0) (.slice none 0 0) (.slice none 0 0)) := Lib.hid (by
        have h1 := HB4.out.size
        have h2 := HPC.out.blk.lt
        refine ⟨HPC.out.move (T := fun k => w4.heap.size ≤ k) (Fr.of_below hB5 (Nat.le_refl _)) (by omega) (fun k hk => by simp [Value.ownBlock] at hk) (fun k hk => .inr hk) (fun k hk => ?_) (fun k hk => ?_), hk5, ?_, HOK0.out, HOK0.out, HSV0.out, by omega, fun k hk => by simp [Value.ownBlock] at hk, Nat.le_refl _, by omega, HB4.out.trans (hB5.mono h1)⟩
        · rcases hk with e | e
          · exact .inl e
          · exact .inr (by omega)
        · have := hk5.lt
          rcases hk with e | e <;> omega
        · have e0 : p0.L = [] := by rw [HP0.out]; rfl
          rw [e0]
          exact SAt.nil _ _)
      clear hB5 hk5 hw5 HPC HPB HPA HB4 HB3 HBA hbr
      go_wp2_with fail
      go_loopw [7, 9] (fun v7 v9 wr => ∃ (i b : Nat) (p : PS) (vW vR vL : Value), i ≤ n ∧ v9 = .int .i64 (i : Int) ∧ v7 = .pointer (some ⟨b, 0, none⟩) ∧ Hid (PM w wr br b p p vW vR vL)) (fun _ v9 _ => n - (intOf v9).toNat)
      case atStart => exact ⟨0, _, _, _, _, _, Nat.zero_le _, rfl, rfl, HM0⟩
      case round =>
        clear HM0 HOK0 HSV0 HP0
        obtain ⟨i, b, p, vW, vR, vL, hi, rfl, rfl, HM⟩ := hrel
        by_cases hlt : i < n
        · obtain ⟨bO, oO, cap, ps, x, cp, ax, cx, e, hbO, hcn, hli, k1, k2, k3, k4, k5, k6⟩ := op_of HL.out HN.out hlt
          simp only [Value.slice.injEq] at e
          obtain ⟨rfl, -, rfl⟩ := e
          obtain ⟨m, hm⟩ : ∃ m, m = x.length := ⟨_, rfl⟩
          rw [← hm] at k2 k5
          have hm20 : m ≤ 20000 := by rw [hm]; exact H20.out _ (List.mem_of_getElem? hli)
          have e1 : (i : Int) < (n : Int) := by omega
          have e2 : (0 : Int) ≤ (i : Int) := by omega
          have e3 : (n : Int) ≤ 100 := by omega
          have K1 := Lib.hid k1
          have K2 := Lib.hid k2
          have K3 := Lib.hid k3
          have KA := Lib.hid k4
          have HX := Lib.hid hm
          have hm9 : m ≤ 100000 := by omega
          have c0 : wr.cell? ⟨bO, oO + i * 3, none⟩ = some (.bool ps) := (HM.out.bel.cell (p := ⟨bO, _, none⟩) hbO).trans K1.out
          clear k1 k2 k3 k4 hm hli
          go_upto_if 70 with fail
          go_cut [] (fun wx => ∃ (p' : PS) (vW' vR' vL' : Value), PM w wx br b p' p' vW' vR' vL')
          case first =>
            cases ps with
            | true =>
              clear c0
              have c1 : wr.cell? ⟨bO, oO + i * 3 + 1, none⟩ = some (.slice ax m cx) := (HM.out.bel.cell (p := ⟨bO, _, none⟩) hbO).trans K2.out
              obtain ⟨q, er, hpu⟩ : ∃ q er, p.push x = (q, er) := ⟨_, _, rfl⟩
              have HPU := Lib.hid hpu
              have HOKQ : Hid q.Ok := Lib.hid (by have h := PS.ok_push HM.out.ok x; rwa [hpu] at h)
              have HSVQ : Hid q.Sv7 := Lib.hid (by have h := PS.sv_push HM.out.sv x; rwa [hpu] at h)
              have HKW := Lib.hid (KA.out.below HM.out.bel (Nat.le_refl _))
              clear hpu
              go_wp2_with fail
              refine (push_ex (n := m) HPU.out HM.out.at_ HM.out.okq HKW.out HX.out.symm hm9 k5 k6).mono ?_
              rintro e w1 ⟨vW1, rfl, H1, HR1, -, HC1⟩
              have HM1 : Hid (PM w w1 br b q p vW1 vR vL) := Lib.hid (HM.out.prog H1.out HOKQ.out HR1.out HC1.out)
              have HK1 := Lib.hid (KA.out.below HM1.out.bel (Nat.le_refl _))
              clear H1 HR1 HC1 HKW c1
              go_upto_region 12 with fail
              have c1 : w1.cell? ⟨bO, oO + i * 3 + 1, none⟩ = some (.slice ax m cx) := (HM1.out.bel.cell (p := ⟨bO, _, none⟩) hbO).trans K2.out
              have x0 := HM1.out.ref.at 0 rfl
              have x1 := HM1.out.ref.at 1 rfl
              have x2 := HM1.out.ref.at 2 rfl
              have x3 := HM1.out.ref.at 3 rfl
              have x4 := HM1.out.ref.at 4 rfl
              have xl := HM1.out.ref.lt
              have HZS : Hid (∀ k, Zs w br b vW1 k → k < w1.drew.heap.size) := Lib.hid (fun k hk => by
                show k < w1.heap.size
                have h1 := HM1.out.bel.size
                have h2 := HM1.out.at_.blk.lt
                rcases hk with e | e | e | e
                · omega
                · have := HM1.out.ref.lt; omega
                · omega
                · exact (HM1.out.at_.lt k e).2)
              obtain ⟨WA, hWA⟩ : ∃ WA, WA = w1.alloc (.cells #[.int .i64 0, .int .i64 0, .int .i64 0, .slice none 0 0, .int .i64 0] 44) := ⟨_, rfl⟩
              have HWA := Lib.hid hWA.symm
              have HWB : Hid (Below w1.heap.size w1 WA) := Lib.hid (by rw [hWA]; exact al (Below.refl _ _) _)
              have HWK : Hid (Blk WA w1.heap.size 44 zcells) := Lib.hid (by rw [hWA]; exact Blk.new w1 44 _)
              have HMA := Lib.hid (HM1.out.below HWB.out)
              have HSA : Hid (SAt WA (fun k => Zs w br b vW1 k ∨ k = w1.heap.size) vL p.L) := Lib.hid ((HM1.out.sat.grow (fun k hk => by
                rcases hk with e | e
                · exact .inl e
                · exact .inr (by omega))).below HWB.out (Nat.le_refl _))
              have HKA := Lib.hid (HK1.out.below HWB.out (Nat.le_refl _))
              have HZA : Hid (∀ k, (Zs w br b vW1 k ∨ k = w1.heap.size) → k < WA.drew.heap.size) := Lib.hid (fun k hk => by
                show k < WA.heap.size
                have h1 := HWK.out.lt
                rcases hk with e | e
                · have h9 := HZS.out k e
                  have : w1.drew.heap.size = w1.heap.size := rfl
                  omega
                · omega)
              have hbrn : ¬ br = w1.heap.size := by have := HM1.out.ref.lt; omega
              have hbO1 : bO ≠ w1.heap.size := by have := HM1.out.bel.size; omega
              clear hWA
              refine wp_region_held_drew (S := (fun w' => w'.cell? ⟨br, 0, none⟩ = some (.int .i64 (p.size : Int)) ∧ w'.cell? ⟨br, 1, none⟩ = some (.int .i64 (p.room : Int)) ∧ w'.cell? ⟨br, 2, none⟩ = some (.int .i64 (p.rest.length : Int)) ∧ w'.cell? ⟨br, 3, none⟩ = some vL ∧ w'.cell? ⟨br, 4, none⟩ = some (.int .i64 (p.taken : Int)) ∧ w'.cell? ⟨bO, oO + i * 3 + 1, none⟩ = some (.slice ax m cx))) (by kernel_rfl) (by (try dsimp only); first | exact ⟨by with_reducible assumption, by with_reducible assumption, by with_reducible assumption, by with_reducible assumption, by with_reducible assumption, by with_reducible assumption⟩ | go_keep) (fun hHeld => ?_)
              refine wpAnyH_take (i := 0) (oi := (Oper.mk (some 79) (Op.load 44 (Operand.tmp 8)) 44 "law.go:61" #[] none)) (v := ?_) rfl (by kernel_rfl) (by kernel_rfl) (by kernel_rfl) (fun _ _ _ h => h) (Or.inl ⟨by rfl, ?_⟩) (by assumption) ?_
              rotate_left
              · (intro w hSw; (try dsimp only at hSw); go_simp; first | done | with_reducible rfl)
              (try simp only [Act.put, List.setIfInBounds_toArray, List.set_cons_zero, List.set_cons_succ])
              refine wpAnyH_take (i := 1) (oi := (Oper.mk (some 80) (Op.move (Operand.tmp 2)) 39 "law.go:61" #[] none)) (v := ?_) rfl (by kernel_rfl) (by kernel_rfl) (by kernel_rfl) (fun _ _ _ h => h) (Or.inl ⟨by rfl, ?_⟩) (by assumption) ?_
              rotate_left
              · (intro w hSw; (try dsimp only at hSw); go_simp; first | done | with_reducible rfl)
              (try simp only [Act.put, List.setIfInBounds_toArray, List.set_cons_zero, List.set_cons_succ])
              refine wpAnyH_take (i := 2) (oi := (Oper.mk (some 81) (Op.move (Operand.tmp 9)) 3 "law.go:61" #[] none)) (v := ?_) rfl (by kernel_rfl) (by kernel_rfl) (by kernel_rfl) (fun _ _ _ h => h) (Or.inl ⟨by rfl, ?_⟩) (by assumption) ?_
              rotate_left
              · (intro w hSw; (try dsimp only at hSw); go_simp; first | done | with_reducible rfl)
              (try simp only [Act.put, List.setIfInBounds_toArray, List.set_cons_zero, List.set_cons_succ])
              refine wpAnyH_take (i := 3) (oi := (Oper.mk (some 82) (Op.indexAddr 39 (Operand.tmp 80) (Operand.tmp 81)) 0 "law.go:61" #[Edge.mk 1 Ground.data, Edge.mk 2 Ground.data] none)) (v := ?_) rfl (by kernel_rfl) (by kernel_rfl) (by kernel_rfl) (fun _ _ _ h => h) (Or.inl ⟨by rfl, ?_⟩) (by assumption) ?_
              rotate_left
              · (intro w hSw; (try dsimp only at hSw); go_simp; first | done | with_reducible rfl)
              (try simp only [Act.put, List.setIfInBounds_toArray, List.set_cons_zero, List.set_cons_succ])
              refine wpAnyH_take (i := 4) (oi := (Oper.mk (some 83) (Op.fieldAddr 47 (Operand.tmp 82) 1) 0 "law.go:61" #[Edge.mk 3 Ground.data] none)) (v := ?_) rfl (by kernel_rfl) (by kernel_rfl) (by kernel_rfl) (fun _ _ _ h => h) (Or.inl ⟨by rfl, ?_⟩) (by assumption) ?_
              rotate_left
              · (intro w hSw; (try dsimp only at hSw); go_simp; first | done | with_reducible rfl)
              (try simp only [Act.put, List.setIfInBounds_toArray, List.set_cons_zero, List.set_cons_succ])
              refine wpAnyH_take (i := 5) (oi := (Oper.mk (some 84) (Op.load 22 (Operand.tmp 83)) 22 "law.go:61" #[Edge.mk 4 Ground.data] none)) (v := ?_) rfl (by kernel_rfl) (by kernel_rfl) (by kernel_rfl) (fun _ _ _ h => h) (Or.inl ⟨by rfl, ?_⟩) (by assumption) ?_
              rotate_left
              · (intro w hSw; (try dsimp only at hSw); go_simp; first | done | with_reducible rfl)
              (try simp only [Act.put, List.setIfInBounds_toArray, List.set_cons_zero, List.set_cons_succ])
              refine wpAnyH_ready (rs := [6, 10]) (by kernel_rfl) (by simp) ?_
              refine AllReadyH.cons (o := (Oper.mk (some 85) (Op.call (Call.mk (Callee.value (Operand.func 20)) #[Operand.tmp 79, Operand.tmp 84] #[44, 22])) 48 "law.go:61" #[Edge.mk 0 Ground.data, Edge.mk 5 Ground.data] none)) rfl (fun K hK => ?st6t83d7x7) (AllReadyH.cons (o := (Oper.mk (some 11) (Op.alloc 44) 0 "law.go:61" #[] none)) rfl (fun K hK => ?st10t83d7x7) (AllReadyH.nil))
              case' st6t83d7x7 =>
                go_simp
                (go_at_call 20; refine (rpush_any (Zs w br b vW1) p vL ax cx m x w1.drew HZS.out (show SAt w1.drew (Zs w br b vW1) vL p.L from HM1.out.sat) HM1.out.ok (show BAt w1.drew ax x from HK1.out) HX.out.symm hm9 k5 k6).mono ?_; rw [HPU.out]; rintro e w2 ⟨vL2, rfl, hS2, hB2⟩; obtain ⟨aL2, cL2, rfl, -, -⟩ := hS2.len; have HB2 := Lib.hid (undrew hB2); have HS2 := Lib.hid hS2; have HM2 := Lib.hid (HM1.out.below HB2.out); have y0 := HM2.out.ref.at 0 rfl; have y1 := HM2.out.ref.at 1 rfl; have y2 := HM2.out.ref.at 2 rfl; have y3 := HM2.out.ref.at 3 rfl; have y4 := HM2.out.ref.at 4 rfl; have yl := HM2.out.ref.lt; have y5 : w2.cell? ⟨bO, oO + i * 3 + 1, none⟩ = some (.slice ax m cx) := (HM2.out.bel.cell (p := ⟨bO, _, none⟩) hbO).trans K2.out; unfold RPV; dsimp only; clear hS2 hB2 x0 x1 x2 x3 x4 xl c1)
                refine hK.out _ _ (by (try dsimp only); first | exact ⟨by with_reducible assumption, by with_reducible assumption, by with_reducible assumption, by with_reducible assumption, by with_reducible assumption, by with_reducible assumption⟩ | go_keep) (fun hHeld => ?_)
                clear hK K
                (try simp only [Act.put, List.setIfInBounds_toArray, List.set_cons_zero, List.set_cons_succ])
                refine wpAnyH_take (i := 7) (oi := (Oper.mk (some 78) (Op.move (Operand.tmp 85)) 48 "law.go:61" #[Edge.mk 6 Ground.data] none)) (v := ?_) rfl (by kernel_rfl) (by kernel_rfl) (by kernel_rfl) (fun _ _ _ h => h) (Or.inl ⟨by rfl, ?_⟩) (by assumption) ?_
                rotate_left
                · (intro w hSw; (try dsimp only at hSw); go_simp; first | done | with_reducible rfl)
                (try simp only [Act.put, List.setIfInBounds_toArray, List.set_cons_zero, List.set_cons_succ])
                refine wpAnyH_take (i := 8) (oi := (Oper.mk (some 86) (Op.extract (Operand.tmp 78) 0) 44 "law.go:61" #[Edge.mk 7 Ground.data] none)) (v := ?_) rfl (by kernel_rfl) (by kernel_rfl) (by kernel_rfl) (fun _ _ _ h => h) (Or.inl ⟨by rfl, ?_⟩) (by assumption) ?_
                rotate_left
                · (intro w hSw; (try dsimp only at hSw); go_simp; first | done | with_reducible rfl)
                (try simp only [Act.put, List.setIfInBounds_toArray, List.set_cons_zero, List.set_cons_succ])
                refine wpAnyH_take (i := 9) (oi := (Oper.mk (some 87) (Op.extract (Operand.tmp 78) 1) 28 "law.go:61" #[Edge.mk 7 Ground.data, Edge.mk 11 (Ground.gcOnly Departure.lateStores)] none)) (v := ?_) rfl (by kernel_rfl) (by kernel_rfl) (by kernel_rfl) (fun _ _ _ h => h) (Or.inl ⟨by rfl, ?_⟩) (by assumption) ?_
                rotate_left
                · (intro w hSw; (try dsimp only at hSw); go_simp; first | done | with_reducible rfl)
                (try simp only [Act.put, List.setIfInBounds_toArray, List.set_cons_zero, List.set_cons_succ])
                refine wpAnyH_ready (rs := [10]) (by kernel_rfl) (by simp) ?_
                refine AllReadyH.cons (o := (Oper.mk (some 11) (Op.alloc 44) 0 "law.go:61" #[] none)) rfl (fun K hK => ?_) (AllReadyH.nil)
                go_simp
                skip
                refine hK.out _ _ (by (try dsimp only); first | exact ⟨by with_reducible assumption, by with_reducible assumption, by with_reducible assumption, by with_reducible assumption, by with_reducible assumption, by with_reducible assumption⟩ | go_keep) (fun hHeld => ?_)
                clear hK K
                (try simp only [Act.put, List.setIfInBounds_toArray, List.set_cons_zero, List.set_cons_succ])
                refine wpAnyH_ready (rs := [11]) (by kernel_rfl) (by simp) ?_
                refine AllReadyH.cons (o := (Oper.mk none (Op.store 44 (Operand.tmp 11) (Operand.tmp 86)) 0 "law.go:61" #[Edge.mk 10 Ground.data, Edge.mk 8 Ground.data, Edge.mk 6 Ground.chain, Edge.mk 0 Ground.phase, Edge.mk 1 Ground.phase, Edge.mk 2 Ground.phase, Edge.mk 3 Ground.phase, Edge.mk 4 Ground.phase, Edge.mk 5 Ground.phase, Edge.mk 6 Ground.phase, Edge.mk 7 Ground.phase, Edge.mk 8 Ground.phase, Edge.mk 9 (Ground.textOnly Departure.lateStores), Edge.mk 10 Ground.phase] none)) rfl (fun K hK => ?_) (AllReadyH.nil)
                go_simp
                skip
                refine hK.out _ _ (by (try dsimp only); first | exact ⟨by with_reducible assumption, by with_reducible assumption, by with_reducible assumption, by with_reducible assumption, by with_reducible assumption, by with_reducible assumption⟩ | go_keep) (fun hHeld => ?_)
                clear hK K
                (try simp only [Act.put, List.setIfInBounds_toArray, List.set_cons_zero, List.set_cons_succ])
                refine wpAnyH_take (i := 12) (oi := (Oper.mk (some 12) (Op.assign (Operand.tmp 87)) 28 "law.go:61" #[Edge.mk 9 Ground.data, Edge.mk 11 Ground.chain, Edge.mk 0 Ground.phase, Edge.mk 1 Ground.phase, Edge.mk 2 Ground.phase, Edge.mk 3 Ground.phase, Edge.mk 4 Ground.phase, Edge.mk 5 Ground.phase, Edge.mk 6 Ground.phase, Edge.mk 7 Ground.phase, Edge.mk 8 Ground.phase, Edge.mk 9 Ground.phase, Edge.mk 10 Ground.phase, Edge.mk 11 Ground.phase] none)) (v := ?_) rfl (by kernel_rfl) (by kernel_rfl) (by kernel_rfl) (fun _ _ _ h => h) (Or.inl ⟨by rfl, ?_⟩) (by assumption) ?_
                rotate_left
                · (intro w hSw; (try dsimp only at hSw); go_simp; first | done | with_reducible rfl)
                (try simp only [Act.put, List.setIfInBounds_toArray, List.set_cons_zero, List.set_cons_succ])
                refine wpAnyH_done (by kernel_rfl) ?_ _
              case' st10t83d7x7 =>
                go_simp
                skip
                refine hK.out _ _ (by (try dsimp only); first | exact ⟨by with_reducible assumption, by with_reducible assumption, by with_reducible assumption, by with_reducible assumption, by with_reducible assumption, by with_reducible assumption⟩ | go_keep) (fun hHeld => ?_)
                clear hK K
                (try simp only [Act.put, List.setIfInBounds_toArray, List.set_cons_zero, List.set_cons_succ])
                refine wpAnyH_ready (rs := [6]) (by kernel_rfl) (by simp) ?_
                refine AllReadyH.cons (o := (Oper.mk (some 85) (Op.call (Call.mk (Callee.value (Operand.func 20)) #[Operand.tmp 79, Operand.tmp 84] #[44, 22])) 48 "law.go:61" #[Edge.mk 0 Ground.data, Edge.mk 5 Ground.data] none)) rfl (fun K hK => ?_) (AllReadyH.nil)
                go_simp
                (go_at_call 20; rw [HWA.out]; refine (rpush_any (fun k => Zs w br b vW1 k ∨ k = w1.heap.size) p vL ax cx m x WA.drew HZA.out (show SAt WA.drew _ vL p.L from HSA.out) HM1.out.ok (show BAt WA.drew ax x from HKA.out) HX.out.symm hm9 k5 k6).mono ?_; rw [HPU.out]; rintro e w2 ⟨vL2, rfl, hS2, hB2⟩; obtain ⟨aL2, cL2, rfl, -, -⟩ := hS2.len; have HB2 := Lib.hid (undrew hB2); have HS2 := Lib.hid hS2; have HM2 := Lib.hid (HMA.out.below HB2.out); have HK2 := Lib.hid (HWK.out.below HB2.out (Nat.le_refl _)); have y0 := HM2.out.ref.at 0 rfl; have y1 := HM2.out.ref.at 1 rfl; have y2 := HM2.out.ref.at 2 rfl; have y3 := HM2.out.ref.at 3 rfl; have y4 := HM2.out.ref.at 4 rfl; have yl := HM2.out.ref.lt; have y5 : w2.cell? ⟨bO, oO + i * 3 + 1, none⟩ = some (.slice ax m cx) := (HM2.out.bel.cell (p := ⟨bO, _, none⟩) hbO).trans K2.out; have d0 := HK2.out.at 0 rfl; have d1 := HK2.out.at 1 rfl; have d2 := HK2.out.at 2 rfl; have d3 := HK2.out.at 3 rfl; have d4 := HK2.out.at 4 rfl; have f0 := HK2.out.free 0; have f1 := HK2.out.free 1; have f2 := HK2.out.free 2; have f3 := HK2.out.free 3; have f4 := HK2.out.free 4; have lR := HK2.out.lt; have hkf := HM2.out.ref.fr (fin5_fr w2 w1.heap.size (.int .i64 (q.size : Int)) (.int .i64 (q.room : Int)) (.int .i64 (q.rest.length : Int)) (.slice aL2 q.L.length cL2) (.int .i64 (q.taken : Int))) hbrn; unfold fin5 at hkf; have z0 := hkf.at 0 rfl; have z1 := hkf.at 1 rfl; have z2 := hkf.at 2 rfl; have z3 := hkf.at 3 rfl; have z4 := hkf.at 4 rfl; have hcf := (fin5_below1 w2 w1.heap.size (.int .i64 (q.size : Int)) (.int .i64 (q.room : Int)) (.int .i64 (q.rest.length : Int)) (.slice aL2 q.L.length cL2) (.int .i64 (q.taken : Int)) ⟨bO, oO + i * 3 + 1, none⟩ hbO1 _ y5); unfold fin5 at hcf; clear hkf; unfold RPV; dsimp only; clear hS2 hB2 x0 x1 x2 x3 x4 xl c1)
                refine hK.out _ _ (by (try dsimp only); first | exact ⟨by with_reducible assumption, by with_reducible assumption, by with_reducible assumption, by with_reducible assumption, by with_reducible assumption, by with_reducible assumption⟩ | go_keep) (fun hHeld => ?_)
                clear hK K
                (try simp only [Act.put, List.setIfInBounds_toArray, List.set_cons_zero, List.set_cons_succ])
                refine wpAnyH_take (i := 7) (oi := (Oper.mk (some 78) (Op.move (Operand.tmp 85)) 48 "law.go:61" #[Edge.mk 6 Ground.data] none)) (v := ?_) rfl (by kernel_rfl) (by kernel_rfl) (by kernel_rfl) (fun _ _ _ h => h) (Or.inl ⟨by rfl, ?_⟩) (by assumption) ?_
                rotate_left
                · (intro w hSw; (try dsimp only at hSw); go_simp; first | done | with_reducible rfl)
                (try simp only [Act.put, List.setIfInBounds_toArray, List.set_cons_zero, List.set_cons_succ])
                refine wpAnyH_take (i := 8) (oi := (Oper.mk (some 86) (Op.extract (Operand.tmp 78) 0) 44 "law.go:61" #[Edge.mk 7 Ground.data] none)) (v := ?_) rfl (by kernel_rfl) (by kernel_rfl) (by kernel_rfl) (fun _ _ _ h => h) (Or.inl ⟨by rfl, ?_⟩) (by assumption) ?_
                rotate_left
                · (intro w hSw; (try dsimp only at hSw); go_simp; first | done | with_reducible rfl)
                (try simp only [Act.put, List.setIfInBounds_toArray, List.set_cons_zero, List.set_cons_succ])
                refine wpAnyH_take (i := 9) (oi := (Oper.mk (some 87) (Op.extract (Operand.tmp 78) 1) 28 "law.go:61" #[Edge.mk 7 Ground.data, Edge.mk 11 (Ground.gcOnly Departure.lateStores)] none)) (v := ?_) rfl (by kernel_rfl) (by kernel_rfl) (by kernel_rfl) (fun _ _ _ h => h) (Or.inl ⟨by rfl, ?_⟩) (by assumption) ?_
                rotate_left
                · (intro w hSw; (try dsimp only at hSw); go_simp; first | done | with_reducible rfl)
                (try simp only [Act.put, List.setIfInBounds_toArray, List.set_cons_zero, List.set_cons_succ])
                refine wpAnyH_ready (rs := [11]) (by kernel_rfl) (by simp) ?_
                refine AllReadyH.cons (o := (Oper.mk none (Op.store 44 (Operand.tmp 11) (Operand.tmp 86)) 0 "law.go:61" #[Edge.mk 10 Ground.data, Edge.mk 8 Ground.data, Edge.mk 6 Ground.chain, Edge.mk 0 Ground.phase, Edge.mk 1 Ground.phase, Edge.mk 2 Ground.phase, Edge.mk 3 Ground.phase, Edge.mk 4 Ground.phase, Edge.mk 5 Ground.phase, Edge.mk 6 Ground.phase, Edge.mk 7 Ground.phase, Edge.mk 8 Ground.phase, Edge.mk 9 (Ground.textOnly Departure.lateStores), Edge.mk 10 Ground.phase] none)) rfl (fun K hK => ?_) (AllReadyH.nil)
                go_simp
                skip
                refine hK.out _ _ (by (try dsimp only); first | exact ⟨by with_reducible assumption, by with_reducible assumption, by with_reducible assumption, by with_reducible assumption, by with_reducible assumption, by with_reducible assumption⟩ | go_keep) (fun hHeld => ?_)
                clear hK K
                (try simp only [Act.put, List.setIfInBounds_toArray, List.set_cons_zero, List.set_cons_succ])
                refine wpAnyH_take (i := 12) (oi := (Oper.mk (some 12) (Op.assign (Operand.tmp 87)) 28 "law.go:61" #[Edge.mk 9 Ground.data, Edge.mk 11 Ground.chain, Edge.mk 0 Ground.phase, Edge.mk 1 Ground.phase, Edge.mk 2 Ground.phase, Edge.mk 3 Ground.phase, Edge.mk 4 Ground.phase, Edge.mk 5 Ground.phase, Edge.mk 6 Ground.phase, Edge.mk 7 Ground.phase, Edge.mk 8 Ground.phase, Edge.mk 9 Ground.phase, Edge.mk 10 Ground.phase, Edge.mk 11 Ground.phase] none)) (v := ?_) rfl (by kernel_rfl) (by kernel_rfl) (by kernel_rfl) (fun _ _ _ h => h) (Or.inl ⟨by rfl, ?_⟩) (by assumption) ?_
                rotate_left
                · (intro w hSw; (try dsimp only at hSw); go_simp; first | done | with_reducible rfl)
                (try simp only [Act.put, List.setIfInBounds_toArray, List.set_cons_zero, List.set_cons_succ])
                refine wpAnyH_done (by kernel_rfl) ?_ _
              · have hbn := fin5_blk HK2.out (.int .i64 (q.size : Int)) (.int .i64 (q.room : Int)) (.int .i64 (q.rest.length : Int)) (.slice aL2 q.L.length cL2) (.int .i64 (q.taken : Int))
                have hfn := fin5_fr w2 w1.heap.size (.int .i64 (q.size : Int)) (.int .i64 (q.room : Int)) (.int .i64 (q.rest.length : Int)) (.slice aL2 q.L.length cL2) (.int .i64 (q.taken : Int))
                obtain ⟨wm, hwm⟩ : ∃ wm, wm = fin5 w2 w1.heap.size (.int .i64 (q.size : Int)) (.int .i64 (q.room : Int)) (.int .i64 (q.rest.length : Int)) (.slice aL2 q.L.length cL2) (.int .i64 (q.taken : Int)) := ⟨_, rfl⟩
                rw [← hwm] at hbn hfn
                unfold fin5 at hwm
                rw [← hwm]
                have HKN : Hid (Blk wm w1.heap.size 44 (rpcells q (.slice aL2 q.L.length cL2))) := Lib.hid hbn
                have Hbm : Hid (Below w1.heap.size w1 wm) := Lib.hid ((HWB.out.trans (HB2.out.mono HWB.out.size)).trans (hfn.toBelow (by have := HWB.out.size; have := HB2.out.size; omega) (fun k hk => by omega)))
                have HSM : Hid (SAt wm (Zs w br b vW1) (.slice aL2 q.L.length cL2) q.L) := Lib.hid ((HS2.out.fr hfn (fun k hk => .inl (.inr hk))).grow (fun k hk => .inl (.inl hk)))
                clear hwm hbn hfn y0 y1 y2 y3 y4 yl y5 d0 d1 d2 d3 d4 f0 f1 f2 f3 f4 lR z0 z1 z2 z3 z4 hcf
                have HMm := Lib.hid (HM1.out.below Hbm.out)
                have b0 := HKN.out.at 0 rfl
                have b1 := HKN.out.at 1 rfl
                have b2 := HKN.out.at 2 rfl
                have b3 := HKN.out.at 3 rfl
                have b4 := HKN.out.at 4 rfl
                have bl := HKN.out.lt
                have x0 := HMm.out.ref.at 0 rfl
                have x1 := HMm.out.ref.at 1 rfl
                have x2 := HMm.out.ref.at 2 rfl
                have x3 := HMm.out.ref.at 3 rfl
                have x4 := HMm.out.ref.at 4 rfl
                have f0 := HMm.out.ref.free 0
                have f1 := HMm.out.ref.free 1
                have f2 := HMm.out.ref.free 2
                have f3 := HMm.out.ref.free 3
                have f4 := HMm.out.ref.free 4
                have xl := HMm.out.ref.lt
                go_wp2_with fail
                go_meet
                case rel => exact ⟨q, vW1, vR, .slice aL2 q.L.length cL2, HM1.out.refr Hbm.out HSM.out (fin5_blk HMm.out.ref _ _ _ _ _) (fin5_fr _ _ _ _ _ _ _) HOKQ.out HSVQ.out⟩
              · have hbn : Blk (w2.alloc (.cells #[.int .i64 (q.size : Int), .int .i64 (q.room : Int), .int .i64 (q.rest.length : Int), .slice aL2 q.L.length cL2, .int .i64 (q.taken : Int)] 44)) w2.heap.size 44 (rpcells q (.slice aL2 q.L.length cL2)) := Blk.new w2 44 _
                obtain ⟨wm, hwm⟩ : ∃ wm, wm = w2.alloc (.cells #[.int .i64 (q.size : Int), .int .i64 (q.room : Int), .int .i64 (q.rest.length : Int), .slice aL2 q.L.length cL2, .int .i64 (q.taken : Int)] 44) := ⟨_, rfl⟩
                rw [← hwm] at hbn ⊢
                have HKN := Lib.hid hbn
                have Hbm : Hid (Below w1.heap.size w1 wm) := Lib.hid (by rw [hwm]; exact HB2.out.trans ((al (Below.refl _ w2) _).mono HB2.out.size))
                have HSM : Hid (SAt wm (Zs w br b vW1) (.slice aL2 q.L.length cL2) q.L) := Lib.hid (by rw [hwm]; exact HS2.out.below (al (Below.refl _ w2) _) (Nat.le_refl _))
                clear hwm hbn y0 y1 y2 y3 y4 yl y5
                have HMm := Lib.hid (HM1.out.below Hbm.out)
                have b0 := HKN.out.at 0 rfl
                have b1 := HKN.out.at 1 rfl
                have b2 := HKN.out.at 2 rfl
                have b3 := HKN.out.at 3 rfl
                have b4 := HKN.out.at 4 rfl
                have bl := HKN.out.lt
                have x0 := HMm.out.ref.at 0 rfl
                have x1 := HMm.out.ref.at 1 rfl
                have x2 := HMm.out.ref.at 2 rfl
                have x3 := HMm.out.ref.at 3 rfl
                have x4 := HMm.out.ref.at 4 rfl
                have f0 := HMm.out.ref.free 0
                have f1 := HMm.out.ref.free 1
                have f2 := HMm.out.ref.free 2
                have f3 := HMm.out.ref.free 3
                have f4 := HMm.out.ref.free 4
                have xl := HMm.out.ref.lt
                go_wp2_with fail
                go_meet
                case rel => exact ⟨q, vW1, vR, .slice aL2 q.L.length cL2, HM1.out.refr Hbm.out HSM.out (fin5_blk HMm.out.ref _ _ _ _ _) (fin5_fr _ _ _ _ _ _ _) HOKQ.out HSVQ.out⟩
            | false =>
              clear c0
              obtain ⟨q, o, hpn⟩ : ∃ q o, p.next = (q, o) := ⟨_, _, rfl⟩
              have HPN := Lib.hid hpn
              have HOKQ : Hid q.Ok := Lib.hid (by have h := PS.ok_next HM.out.ok; rwa [hpn] at h)
              have HSVQ : Hid q.Sv7 := Lib.hid (by have h := PS.sv_next HM.out.ok HM.out.sv; rwa [hpn] at h)
              obtain ⟨out, hout⟩ : ∃ out, out = (o.map (·.1)).getD [] := ⟨_, rfl⟩
              obtain ⟨f, hf⟩ : ∃ f, f = (o.map (·.2)).getD 0 := ⟨_, rfl⟩
              obtain ⟨is, his⟩ : ∃ is, is = o.isSome := ⟨_, rfl⟩
              have HRN := Lib.hid (rnext_any (Zs w br b vW) p vL wr HM.out.sat HM.out.ok HM.out.sv)
              have HOUT := Lib.hid hout
              have HF := Lib.hid hf
              have HIS := Lib.hid his
              clear hpn hout hf his
              go_wp2_with fail
              refine (next_ex HPN.out HM.out.at_ HM.out.okq).mono ?_
              rintro e w1 ⟨v1, vW1, vR1, rfl, HO1, H1, HR1, -, HC1, -⟩
              rw [← HOUT.out] at HO1
              rw [← HF.out, ← HIS.out]
              obtain ⟨-, a1', c1', rfl, -, -, -⟩ := BAt.of_row HO1.out
              have HM1 : Hid (PM w w1 br b q p vW1 vR1 vL) := Lib.hid (HM.out.prog (H1.out.less (fun k hk => .inl (.inl hk)) (fun k hk => H1.out.xlt k (.inl hk))) HOKQ.out (HR1.out.wide (fun k hk => .inl (.inl hk))) HC1.out)
              have hs1 := HR1.out.size
              clear H1 HR1 HC1 HRN
              go_upto_region 17 with fail
              have x0 := HM1.out.ref.at 0 rfl
              have x1 := HM1.out.ref.at 1 rfl
              have x2 := HM1.out.ref.at 2 rfl
              have x3 := HM1.out.ref.at 3 rfl
              have x4 := HM1.out.ref.at 4 rfl
              have xl := HM1.out.ref.lt
              go_wp2_with fail
              refine (rnext_any (Zs w br b vW1) p vL w1 HM1.out.sat HM1.out.ok HM1.out.sv).mono ?_
              rw [HPN.out]
              rintro e w2 ⟨vL2, v2, rfl, hS2, hO2, hB2⟩
              dsimp only at hS2 hO2 ⊢
              rw [← HOUT.out] at hO2
              rw [← HF.out, ← HIS.out]
              obtain ⟨aL2, cL2, rfl, -, -⟩ := hS2.len
              obtain ⟨-, a2, c2, rfl, -, -, -⟩ := BAt.of_row hO2
              have HO2 := Lib.hid hO2
              have HS2 := Lib.hid hS2
              have HB2 := Lib.hid hB2
              have HO12 := Lib.hid (own_below HO1.out hB2 (Nat.le_refl _))
              unfold RPV
              clear hS2 hO2 hB2 x0 x1 x2 x3 x4 xl
              go_upto_region 18 with fail
              have hbn : Blk (w2.alloc (.cells #[.int .i64 (q.size : Int), .int .i64 (q.room : Int), .int .i64 (q.rest.length : Int), .slice aL2 q.L.length cL2, .int .i64 (q.taken : Int)] 44)) w2.heap.size 44 (rpcells q (.slice aL2 q.L.length cL2)) := Blk.new w2 44 _
              obtain ⟨wm, hwm⟩ : ∃ wm, wm = w2.alloc (.cells #[.int .i64 (q.size : Int), .int .i64 (q.room : Int), .int .i64 (q.rest.length : Int), .slice aL2 q.L.length cL2, .int .i64 (q.taken : Int)] 44) := ⟨_, rfl⟩
              rw [← hwm] at hbn ⊢
              have HKN := Lib.hid hbn
              have hbw : Below w2.heap.size w2 wm := by rw [hwm]; exact al (Below.refl _ w2) _
              have Hbm : Hid (Below w1.heap.size w1 wm) := Lib.hid (HB2.out.trans (hbw.mono HB2.out.size))
              have HSM : Hid (SAt wm (Zs w br b vW1) (.slice aL2 q.L.length cL2) q.L) := Lib.hid (HS2.out.below hbw (Nat.le_refl _))
              have HOM1 := Lib.hid (own_below HO12.out hbw (Nat.le_refl _))
              have HOM2 := Lib.hid (own_below HO2.out hbw (Nat.le_refl _))
              clear hwm hbn hbw HO12 HO1 HO2
              have HMm := Lib.hid (HM1.out.below Hbm.out)
              have b0 := HKN.out.at 0 rfl
              have b1 := HKN.out.at 1 rfl
              have b2 := HKN.out.at 2 rfl
              have b3 := HKN.out.at 3 rfl
              have b4 := HKN.out.at 4 rfl
              have bl := HKN.out.lt
              have x0 := HMm.out.ref.at 0 rfl
              have x1 := HMm.out.ref.at 1 rfl
              have x2 := HMm.out.ref.at 2 rfl
              have x3 := HMm.out.ref.at 3 rfl
              have x4 := HMm.out.ref.at 4 rfl
              have f0 := HMm.out.ref.free 0
              have f1 := HMm.out.ref.free 1
              have f2 := HMm.out.ref.free 2
              have f3 := HMm.out.ref.free 3
              have f4 := HMm.out.ref.free 4
              have xl := HMm.out.ref.lt
              go_upto_region 19 with fail
              have hfn := fin5_fr wm br (.int .i64 (q.size : Int)) (.int .i64 (q.room : Int)) (.int .i64 (q.rest.length : Int)) (.slice aL2 q.L.length cL2) (.int .i64 (q.taken : Int))
              have hkn := fin5_blk HMm.out.ref (.int .i64 (q.size : Int)) (.int .i64 (q.room : Int)) (.int .i64 (q.rest.length : Int)) (.slice aL2 q.L.length cL2) (.int .i64 (q.taken : Int))
              obtain ⟨wz, hwz⟩ : ∃ wz, wz = fin5 wm br (.int .i64 (q.size : Int)) (.int .i64 (q.room : Int)) (.int .i64 (q.rest.length : Int)) (.slice aL2 q.L.length cL2) (.int .i64 (q.taken : Int)) := ⟨_, rfl⟩
              rw [← hwz] at hfn hkn
              unfold fin5 at hwz
              rw [← hwz]
              have HMZ : Hid (PM w wz br b q q vW1 vR1 (.slice aL2 q.L.length cL2)) := Lib.hid (HM1.out.refr Hbm.out HSM.out hkn hfn HOKQ.out HSVQ.out)
              have hbrr := HM.out.ref.lt
              obtain ⟨-, a8, c8, e8, -, -, hA8⟩ := BAt.of_row (own_fr HOM1.out hfn (fun k hk e => by have := (HOM1.out.lt k hk).1; omega))
              obtain ⟨-, a9, c9, e9, -, -, hA9⟩ := BAt.of_row (own_fr HOM2.out hfn (fun k hk e => by have := (HOM2.out.lt k hk).1; omega))
              simp only [Value.slice.injEq, true_and] at e8 e9
              obtain ⟨rfl, rfl⟩ := e8
              obtain ⟨rfl, rfl⟩ := e9
              obtain ⟨S, hS⟩ : ∃ S : ByteArray, S = ⟨out.toArray⟩ := ⟨_, rfl⟩
              have q1 : Sem.run Try.prog (convert 22 9 (.slice a1' out.length c1')) wz = .ok (.string S) wz := by rw [hS]; exact hA8.str 22 9 5 c1' Try.underlying22 Try.underlying5 Try.underlying9
              have q2 : Sem.run Try.prog (convert 22 9 (.slice a2 out.length c2)) wz = .ok (.string S) wz := by rw [hS]; exact hA9.str 22 9 5 c2 Try.underlying22 Try.underlying5 Try.underlying9
              clear hwz hfn hkn hA8 hA9 hS hbrr x0 x1 x2 x3 x4 f0 f1 f2 f3 f4 xl b0 b1 b2 b3 b4 bl
              go_wp2_with fail
              go_meet
              case rel => exact ⟨q, vW1, vR1, _, HMZ.out⟩
          case rest =>
            clear c0 HM KA K1 K2
            obtain ⟨p', vW', vR', vL', hM⟩ := hcut
            obtain ⟨wx, hwx⟩ : ∃ wx, wx = wc := ⟨wc, rfl⟩
            subst hwx
            obtain ⟨aL, cL, rfl, -, -⟩ := hM.sat.len
            obtain ⟨nl, hnl⟩ : ∃ nl, nl = p'.L.length := ⟨_, rfl⟩
            rw [← hnl] at hM
            have HNL := Lib.hid hnl
            have HMx := Lib.hid hM
            obtain ⟨lf, hlf⟩ : ∃ lf, lf = p'.left := ⟨_, rfl⟩
            have HLF := Lib.hid hlf
            obtain ⟨rd, hrd⟩ : ∃ rd, rd = p'.ready := ⟨_, rfl⟩
            have HRD := Lib.hid hrd
            have HMD : Hid (PM w wx.drew br b p' p' vW' vR' (.slice aL nl cL)) := Lib.hid (hM.below (Quiet.below ⟨1, rfl⟩))
            clear hM hlf hrd hnl
            have x0 := HMx.out.ref.at 0 rfl
            have x1 := HMx.out.ref.at 1 rfl
            have x2 := HMx.out.ref.at 2 rfl
            have x3 := HMx.out.ref.at 3 rfl
            have x4 := HMx.out.ref.at 4 rfl
            have xl := HMx.out.ref.lt
            go_upto_region 21 with fail
            refine wp_region_held_drew (S := (fun w' => w'.cell? ⟨br, 0, none⟩ = some (.int .i64 (p'.size : Int)) ∧ w'.cell? ⟨br, 1, none⟩ = some (.int .i64 (p'.room : Int)) ∧ w'.cell? ⟨br, 2, none⟩ = some (.int .i64 (p'.rest.length : Int)) ∧ w'.cell? ⟨br, 3, none⟩ = some (.slice aL nl cL) ∧ w'.cell? ⟨br, 4, none⟩ = some (.int .i64 (p'.taken : Int)))) (by kernel_rfl) (by (try dsimp only); first | exact ⟨by with_reducible assumption, by with_reducible assumption, by with_reducible assumption, by with_reducible assumption, by with_reducible assumption⟩ | go_keep) (fun hHeld => ?_)
            refine wpAnyH_take (i := 0) (oi := (Oper.mk (some 121) (Op.move (Operand.tmp 7)) 25 "law.go:74" #[] none)) (v := ?_) rfl (by kernel_rfl) (by kernel_rfl) (by kernel_rfl) (fun _ _ _ h => h) (Or.inl ⟨by rfl, ?_⟩) (by assumption) ?_
            rotate_left
            · (intro w hSw; (try dsimp only at hSw); go_simp; first | done | with_reducible rfl)
            (try simp only [Act.put, List.setIfInBounds_toArray, List.set_cons_zero, List.set_cons_succ])
            refine wpAnyH_take (i := 2) (oi := (Oper.mk (some 123) (Op.load 44 (Operand.tmp 8)) 44 "law.go:74" #[] none)) (v := ?_) rfl (by kernel_rfl) (by kernel_rfl) (by kernel_rfl) (fun _ _ _ h => h) (Or.inl ⟨by rfl, ?_⟩) (by assumption) ?_
            rotate_left
            · (intro w hSw; (try dsimp only at hSw); go_simp; first | done | with_reducible rfl)
            (try simp only [Act.put, List.setIfInBounds_toArray, List.set_cons_zero, List.set_cons_succ])
            refine wpAnyH_ready (rs := [1]) (by kernel_rfl) (by simp) ?_
            refine AllReadyH.cons (o := (Oper.mk (some 122) (Op.call (Call.mk (Callee.value (Operand.func 14)) #[Operand.tmp 121] #[25])) 3 "law.go:74" #[Edge.mk 0 Ground.data] none)) rfl (fun K hK => ?_) (AllReadyH.nil)
            go_simp
            (go_at_call 14; refine (left_any wx.drew HMD.out.at_ HMD.out.okq).mono ?_; rintro e wq ⟨rfl, hw⟩; obtain rfl := hw.symm; rw [← HLF.out])
            refine hK.out _ _ (by (try dsimp only); first | exact ⟨by with_reducible assumption, by with_reducible assumption, by with_reducible assumption, by with_reducible assumption, by with_reducible assumption⟩ | go_keep) (fun hHeld => ?_)
            clear hK K
            (try simp only [Act.put, List.setIfInBounds_toArray, List.set_cons_zero, List.set_cons_succ])
            refine wpAnyH_ready (rs := [3]) (by kernel_rfl) (by simp) ?_
            refine AllReadyH.cons (o := (Oper.mk (some 124) (Op.call (Call.mk (Callee.value (Operand.func 22)) #[Operand.tmp 123] #[44])) 3 "law.go:74" #[Edge.mk 2 Ground.data, Edge.mk 1 Ground.chain] none)) rfl (fun K hK => ?_) (AllReadyH.nil)
            go_simp
            (go_at_call 22; refine (rleft_n HLF.out HMD.out.sat HMD.out.ok).mono ?_; rintro e w2 ⟨rfl, hB2⟩; have HM2 := Lib.hid (HMD.out.below hB2); have y0 := HM2.out.ref.at 0 rfl; have y1 := HM2.out.ref.at 1 rfl; have y2 := HM2.out.ref.at 2 rfl; have y3 := HM2.out.ref.at 3 rfl; have y4 := HM2.out.ref.at 4 rfl; have yl := HM2.out.ref.lt; clear hB2 x0 x1 x2 x3 x4 xl)
            refine hK.out _ _ (by (try dsimp only); first | exact ⟨by with_reducible assumption, by with_reducible assumption, by with_reducible assumption, by with_reducible assumption, by with_reducible assumption⟩ | go_keep) (fun hHeld => ?_)
            clear hK K
            (try simp only [Act.put, List.setIfInBounds_toArray, List.set_cons_zero, List.set_cons_succ])
            refine wpAnyH_take (i := 4) (oi := (Oper.mk (some 125) (Op.binOp BinOp.neq 3 (Operand.tmp 122) (Operand.tmp 124) 3) 4 "law.go:74" #[Edge.mk 1 Ground.data, Edge.mk 3 Ground.data] none)) (v := ?_) rfl (by kernel_rfl) (by kernel_rfl) (by kernel_rfl) (fun _ _ _ h => h) (Or.inl ⟨by rfl, ?_⟩) (by assumption) ?_
            rotate_left
            · (intro w hSw; (try dsimp only at hSw); go_simp; first | done | with_reducible rfl)
            (try simp only [Act.put, List.setIfInBounds_toArray, List.set_cons_zero, List.set_cons_succ])
            refine wpAnyH_take (i := 5) (oi := (Oper.mk (some 126) (Op.move (Operand.tmp 125)) 4 "law.go:74" #[Edge.mk 4 Ground.data, Edge.mk 3 Ground.chain] none)) (v := ?_) rfl (by kernel_rfl) (by kernel_rfl) (by kernel_rfl) (fun _ _ _ h => h) (Or.inl ⟨by rfl, ?_⟩) (by assumption) ?_
            rotate_left
            · (intro w hSw; (try dsimp only at hSw); go_simp; first | done | with_reducible rfl)
            (try simp only [Act.put, List.setIfInBounds_toArray, List.set_cons_zero, List.set_cons_succ])
            refine wpAnyH_take (i := 6) (oi := (Oper.mk (some 127) (Op.move (Operand.tmp 7)) 25 "law.go:74" #[Edge.mk 5 Ground.guard] (some (5, false)))) (v := ?_) rfl (by kernel_rfl) (by kernel_rfl) (by kernel_rfl) (fun _ _ _ h => h) (Or.inl ⟨by rfl, ?_⟩) (by assumption) ?_
            rotate_left
            · (intro w hSw; (try dsimp only at hSw); go_simp; first | done | with_reducible rfl)
            (try simp only [Act.put, List.setIfInBounds_toArray, List.set_cons_zero, List.set_cons_succ])
            refine wpAnyH_take (i := 8) (oi := (Oper.mk (some 129) (Op.load 44 (Operand.tmp 8)) 44 "law.go:74" #[Edge.mk 5 Ground.guard] (some (5, false)))) (v := ?_) rfl (by kernel_rfl) (by kernel_rfl) (by kernel_rfl) (fun _ _ _ h => h) (Or.inl ⟨by rfl, ?_⟩) (by assumption) ?_
            rotate_left
            · (intro w hSw; (try dsimp only at hSw); go_simp; first | done | with_reducible rfl)
            (try simp only [Act.put, List.setIfInBounds_toArray, List.set_cons_zero, List.set_cons_succ])
            refine wpAnyH_ready (rs := [7]) (by kernel_rfl) (by simp) ?_
            refine AllReadyH.cons (o := (Oper.mk (some 128) (Op.call (Call.mk (Callee.value (Operand.func 12)) #[Operand.tmp 127] #[25])) 4 "law.go:74" #[Edge.mk 6 Ground.data, Edge.mk 5 Ground.chain, Edge.mk 5 Ground.guard] (some (5, false)))) rfl (fun K hK => ?_) (AllReadyH.nil)
            go_simp
            (go_at_call 12; refine (ready_any w2 HM2.out.at_ HM2.out.okq).mono ?_; rintro e w3 ⟨rfl, hq3⟩; rw [← HRD.out]; have HM3 := Lib.hid (HM2.out.below hq3.below); have z0 := HM3.out.ref.at 0 rfl; have z1 := HM3.out.ref.at 1 rfl; have z2 := HM3.out.ref.at 2 rfl; have z3 := HM3.out.ref.at 3 rfl; have z4 := HM3.out.ref.at 4 rfl; have zl := HM3.out.ref.lt; clear hq3 y0 y1 y2 y3 y4 yl)
            refine hK.out _ _ (by (try dsimp only); first | exact ⟨by with_reducible assumption, by with_reducible assumption, by with_reducible assumption, by with_reducible assumption, by with_reducible assumption⟩ | go_keep) (fun hHeld => ?_)
            clear hK K
            (try simp only [Act.put, List.setIfInBounds_toArray, List.set_cons_zero, List.set_cons_succ])
            refine wpAnyH_ready (rs := [9]) (by kernel_rfl) (by simp) ?_
            refine AllReadyH.cons (o := (Oper.mk (some 130) (Op.call (Call.mk (Callee.value (Operand.func 23)) #[Operand.tmp 129] #[44])) 4 "law.go:74" #[Edge.mk 8 Ground.data, Edge.mk 7 Ground.chain, Edge.mk 5 Ground.guard] (some (5, false)))) rfl (fun K hK => ?_) (AllReadyH.nil)
            go_simp
            (go_at_call 23; refine (rready_any _ p' (.slice aL nl cL) w3 HM3.out.sat HM3.out.ok).mono ?_; rintro e w4 ⟨rfl, hB4⟩; rw [← HRD.out]; have HM4 := Lib.hid (HM3.out.below hB4); have x0 := HM4.out.ref.at 0 rfl; have x1 := HM4.out.ref.at 1 rfl; have x2 := HM4.out.ref.at 2 rfl; have x3 := HM4.out.ref.at 3 rfl; have x4 := HM4.out.ref.at 4 rfl; have xl := HM4.out.ref.lt; clear hB4 z0 z1 z2 z3 z4 zl)
            refine hK.out _ _ (by (try dsimp only); first | exact ⟨by with_reducible assumption, by with_reducible assumption, by with_reducible assumption, by with_reducible assumption, by with_reducible assumption⟩ | go_keep) (fun hHeld => ?_)
            clear hK K
            (try simp only [Act.put, List.setIfInBounds_toArray, List.set_cons_zero, List.set_cons_succ])
            refine wpAnyH_take (i := 10) (oi := (Oper.mk (some 131) (Op.binOp BinOp.neq 4 (Operand.tmp 128) (Operand.tmp 130) 4) 4 "law.go:74" #[Edge.mk 7 Ground.data, Edge.mk 9 Ground.data, Edge.mk 5 Ground.guard] (some (5, false)))) (v := ?_) rfl (by kernel_rfl) (by kernel_rfl) (by kernel_rfl) (fun _ _ _ h => h) (Or.inl ⟨by rfl, ?_⟩) (by assumption) ?_
            rotate_left
            · (intro w hSw; (try dsimp only at hSw); go_simp; first | done | with_reducible rfl)
            (try simp only [Act.put, List.setIfInBounds_toArray, List.set_cons_zero, List.set_cons_succ])
            refine wpAnyH_take (i := 11) (oi := (Oper.mk (some 132) (Op.pick (Operand.tmp 126) (Operand.const (Value.bool true)) (Operand.tmp 131)) 4 "law.go:74" #[Edge.mk 5 Ground.data, Edge.mk 10 Ground.data] none)) (v := ?_) rfl (by kernel_rfl) (by kernel_rfl) (by kernel_rfl) (fun _ _ _ h => h) (Or.inl ⟨by rfl, ?_⟩) (by assumption) ?_
            rotate_left
            · (intro w hSw; (try dsimp only at hSw); go_simp; first | done | with_reducible rfl)
            (try simp only [Act.put, List.setIfInBounds_toArray, List.set_cons_zero, List.set_cons_succ])
            refine wpAnyH_done (by kernel_rfl) ?_ _
            clear x0 x1 x2 x3 x4 xl
            have c3 : w4.cell? ⟨bO, oO + i * 3 + 2, none⟩ = some (.bool cp) := (HM4.out.bel.cell (p := ⟨bO, _, none⟩) hbO).trans K3.out
            cases cp with
            | false =>
              go_wp2_with fail
              go_roundw
              case rel => exact ⟨i + 1, b, p', vW', vR', _, by omega, by go_num, rfl, HM4⟩
              case measure => simp [intOf]; omega
            | true =>
              go_upto_region 24 with fail
              clear c3
              go_wp2_with fail
              refine (clone_any _ b p' vW' vR' w4 HM4.out.at_ HM4.out.okq).mono ?_
              rintro e w5 ⟨vWc, vRc, rfl, hc5, hn5, hB5⟩
              have HC5 := Lib.hid hc5
              have HN5 := Lib.hid hn5
              have HB5 := Lib.hid hB5
              have HO5 := Lib.hid (HM4.out.below hB5)
              clear hc5 hn5 hB5
              go_wp2_with fail
              refine (lbytes_any 3 3 w5 (by omega) (by omega)).mono ?_
              rintro e w6 ⟨vx, rfl, hO, hB6⟩
              obtain ⟨-, ax6, cx6, rfl, hcx6, hmx6, hAx6⟩ := BAt.of_row hO
              have e9 : (pkB 3 3).length = 9 := by rw [pkB_len]
              rw [e9] at hO hcx6 ⊢
              have HA6 := Lib.hid hAx6
              have HO6 := Lib.hid (HO5.out.below hB6)
              have HF6 : Hid (Fr (Mine b vW') w5 w6) := Lib.hid (Fr.below (Fr.refl _ _) hB6 (Nat.le_refl _))
              obtain ⟨qa, ea, hpu⟩ : ∃ q er, p'.push (pkB 3 3) = (q, er) := ⟨_, _, rfl⟩
              have HPU := Lib.hid hpu
              have HOKA : Hid qa.Ok := Lib.hid (by have h := PS.ok_push HO6.out.ok (pkB 3 3); rwa [hpu] at h)
              clear hO hB6 hAx6 hpu
              go_wp2_with fail
              refine (push_ex (n := 9) HPU.out HO6.out.at_ HO6.out.okq HA6.out e9 (by omega) hcx6 hmx6).mono ?_
              rintro e w7 ⟨vW7, rfl, H7, HR7, -, HC7⟩
              go_wp2_with fail
              refine (next_any _ b qa vW7 vR' w7 H7.out HOKA.out).mono ?_
              rintro e w8 ⟨v8, vW8, vR8, rfl, -, -, -, hF8, -⟩
              have HMN : Hid (PM w w8 br w4.heap.size p' p' vWc vRc (.slice aL nl cL)) := Lib.hid (HM4.out.clone HC5.out HN5.out HB5.out ((HF6.out.trans HR7.out).trans (hF8.wide (fun k hk => .inl (.inl hk)))))
              clear hF8
              go_wp2_with fail
              go_roundw
              case rel => exact ⟨i + 1, w4.heap.size, p', vWc, vRc, _, by omega, by go_num, rfl, HMN⟩
              case measure => simp [intOf]; omega
        · have e1 : ¬ (i : Int) < (n : Int) := by omega
          have HB9 : Hid (Below w.heap.size w wr) := Lib.hid HM.out.bel
          go_wp2_with fail
          refine (alive_any _).mono ?_
          rintro e w9 ⟨rfl, hB⟩
          have HB9 := Lib.hid (HB9.out.trans (hB.mono HB9.out.size))
          clear hB
          go_wp2_with fail
          go_ret
          exact ⟨rfl, HB9.out⟩


set_option maxRecDepth 100000 in
theorem lifted (os : Os) (started : os.Started) (H : Type) (enc : TypeId × Value → H) :
    ReturnsInHanded {} Try.checked os 6 .any (Rows.packerPlaysSpec.pre6 enc Try.prog Try.f6 Rows.packerPlaysRow.domain false) (Rows.packerPlaysSpec.post enc Try.prog Try.f6 false true false false) := by
  refine returnsInHanded_of_change (C := Try.checked) own started (by kernel_rfl) Try.func6
    (ChangeSpec.witness6 (enc := enc) (C := Try.checked) false ⟨#[], #[.int .i64 0, .int .i64 0, .slice none 0 0], []⟩ 8 (by kernel_rfl) (by kernel_rfl) (by kernel_rfl) (by kernel_rfl)) ?_
  intro W base args ds gs before hval0 hW hcnd _
  have hval : ∀ (j : Nat) t v, Try.f6.params[j]? = some t → args[j]? = some v → Value.okWide Try.prog W .any base t v := hval0
  have hW' := hW
  obtain ⟨p, q, hA0, hV, rfl, hfz, hnd⟩ := hW
  have hA : DataW.TrodAll enc Try.prog W 0 (fun _ => true) true Try.f6.params.toList args.toList ds p := hA0
  rw [Try.params6] at hA hval
  obtain ⟨v0, vs0, d0, ds0, p0, q0, hargs, rfl, rfl, h0, r0⟩ := trodAll_cons hA
  obtain ⟨v1, vs1, d1, ds1, p1, q1, rfl, rfl, rfl, h1, r1⟩ := trodAll_cons r0
  obtain ⟨v2, vs2, d2, ds2, p2, q2, rfl, rfl, rfl, h2, r2⟩ := trodAll_cons r1
  obtain ⟨rfl, rfl, rfl⟩ := trodAll_nil r2
  obtain rfl : args = #[v0, v1, v2] := by cases args; simp_all
  obtain ⟨rfl, rfl⟩ := trodVars_none hV
  obtain ⟨a0, rfl, rfl, rfl, w0⟩ := open_int Try.underlying3 (hval 0 3 v0 rfl rfl) h0
  obtain ⟨a1, rfl, rfl, rfl, w1⟩ := open_int Try.underlying3 (hval 1 3 v1 rfl rfl) h1
  have k2 := h2
  have lt2 : ∀ x ∈ p2, x.block < W.heap.size := by obtain ⟨m, hm⟩ := k2; exact DataW.trod_lt m _ _ _ hm
  clear hA0 hval0
  refine (walk a0 a1 v2 W w0 w1 (hval 2 39 v2 rfl rfl) k2).mono fun e W' ⟨he, bel⟩ => ?_
  subst he
  exact ⟨_, rfl, _, _, _, [], _, [], hW', trodAll_mk1 (shut_bool Try.underlying4 _), (trodAll_cons_mk (shut_int Try.underlying3 w0) (trodAll_cons_mk (shut_int Try.underlying3 w1) (trodAll_cons_mk (Below.trod laidOut (by kernel_rfl) (of_decide_eq_true (by kernel_rfl)) k2 bel lt2) trodAll_mk0))), rfl, bel.frame _, fun h => by cases h⟩

theorem over : Rows.packerPlaysRow.holds Try.pinned (OpenSpec.ofChange Rows.packerPlaysSpec) :=
  OpenClaim.holds_of_wide 6 Try.f6 rfl rfl rfl rfl rfl rfl rfl ⟨rfl, rfl, rfl, rfl, rfl⟩ rfl rfl rfl rfl rfl (by kernel_rfl) Try.func6 (by kernel_rfl)
    (of_decide_eq_true (by kernel_rfl)) (by unfold Func.isWrapper; first | (rw [if_pos (by decide +kernel)]; kernel_rfl) | (rw [if_neg (by decide +kernel)]; exact ⟨rfl, rfl⟩))
    (fun os started H enc _ => lifted os started H enc)

theorem proved : Rows.PackerPlaysSaid := over
#print axioms proved
end Go.Proofs.Ytalghcgedmcifaa.packerPlays

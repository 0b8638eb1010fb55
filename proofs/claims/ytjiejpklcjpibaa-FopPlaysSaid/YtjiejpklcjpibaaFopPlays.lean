/- The law FopPlays holds: the walk, then the lift to the given statement. No condition. -/
import Derived.Test.YtjiejpklcjpibaaAI
import Derived.WalkKit
import Derived.ProofKit
import Derived.OpenShut
import Derived.Lib.Hide
import Derived.ChangeOld
import Derived.Below
import Derived.SizedLaws
namespace Go.Proofs.Ytjiejpklcjpibaa.fopPlays
open Go.ChangeShapes Go.WideShapes Go.ChangeAt Go.RowKit
set_option linter.unusedVariables false
theorem own : ownKnob Try.prog.godebug = none := by kernel_rfl
theorem laidOut : laidOutB Try.prog = true := by kernel_rfl

set_option maxRecDepth 20000 in
set_option maxHeartbeats 8000000 in
theorem walk {H : Type} {enc : TypeId × Value → H} (v0 v1 : Value) (w : World) {b0 : Nat} {d0 : DataW H} {p0 : List MemPlace} (ok0 : Value.okWide Try.prog w .any b0 50 v0) (tr0 : DataW.Trod enc Try.prog w 0 (fun _ => true) true 50 v0 d0 p0) {b1 : Nat} {d1 : DataW H} {p1 : List MemPlace} (ok1 : Value.okWide Try.prog w .any b1 51 v1) (tr1 : DataW.Trod enc Try.prog w 0 (fun _ => true) true 51 v1 d1 p1) : Calls Try.prog 6 #[v0, v1] w fun e w' => e = .returned (.bool true) ∧ Below w.heap.size w w' := by
  obtain ⟨z0, z1, z2, z3, z4, rfl⟩ := arg_setup ok0 tr0
  obtain ⟨l, hl⟩ := arg_ops ok1 tr1
  have HL := Lib.hid hl
  clear ok0 tr0 ok1 tr1 hl
  obtain ⟨av, cap, rfl, hcl, -⟩ := id HL.out
  obtain ⟨n, hn⟩ : ∃ n, n = l.length := ⟨_, rfl⟩
  have HN := Lib.hid hn
  rw [← hn] at hcl HL ⊢
  clear hn
  by_cases h120 : 120 < n
  · have e1 : (120 : Int) < (n : Int) := by omega
    have HB0 : Hid (Below w.heap.size w (w.alloc (.cells #[.int .i64 z0, .int .i64 z1, .int .i64 z2, .int .i64 z3, .int .i64 z4] 50))) := Lib.hid (al (Below.refl _ _) _)
    go_enter Try.func6, Try.ntmps6
    go_wp2_with fail
    refine (alive_any _).mono ?_
    rintro e w9 ⟨rfl, hB⟩
    have HB9 := Lib.hid (HB0.out.trans (hB.mono HB0.out.size))
    clear hB
    go_wp2_with fail
    go_ret
    exact ⟨rfl, HB9.out⟩
  · have e1 : ¬ (120 : Int) < (n : Int) := by omega
    obtain ⟨p0, hp0⟩ : ∃ p0, p0 = FS.new z0 z1 z2 z3 z4 := ⟨_, rfl⟩
    have HP0 := Lib.hid hp0
    have HOK0 : Hid p0.Ok := Lib.hid (by rw [hp0]; exact FS.ok_new ..)
    obtain ⟨wb, hwb⟩ : ∃ wb, wb = w.alloc (.cells #[.int .i64 z0, .int .i64 z1, .int .i64 z2, .int .i64 z3, .int .i64 z4] 50) := ⟨_, rfl⟩
    have HK0 : Hid (Blk wb w.heap.size 50 [.int .i64 z0, .int .i64 z1, .int .i64 z2, .int .i64 z3, .int .i64 z4]) := Lib.hid (by rw [hwb]; exact Blk.new w 50 _)
    have HB0 : Hid (Below w.heap.size w wb) := Lib.hid (by rw [hwb]; exact al (Below.refl _ _) _)
    clear hp0
    go_enter Try.func6, Try.ntmps6
    go_upto_region 1 with fail
    rw [← hwb]
    clear hwb
    have x0 := HK0.out.at 0 rfl
    have x1 := HK0.out.at 1 rfl
    have x2 := HK0.out.at 2 rfl
    have x3 := HK0.out.at 3 rfl
    have x4 := HK0.out.at 4 rfl
    have xl := HK0.out.lt
    go_wp2_with fail
    refine (new_any z0 z1 z2 z3 z4 wb).mono ?_
    rw [← HP0.out]
    rintro e wa ⟨rfl, hP, hB⟩
    obtain ⟨b, hb⟩ : ∃ b, b = wb.heap.size := ⟨_, rfl⟩
    rw [← hb] at hP ⊢
    have HPA := Lib.hid hP
    have HBA := Lib.hid (HB0.out.trans (hB.mono HB0.out.size))
    have HKA := Lib.hid (HK0.out.below hB (Nat.le_refl _))
    have hwb1 : w.heap.size < b := by omega
    have HBW := Lib.hid hb
    clear hP hB x0 x1 x2 x3 x4 xl hb
    have x0 := HKA.out.at 0 rfl
    have x1 := HKA.out.at 1 rfl
    have x2 := HKA.out.at 2 rfl
    have x3 := HKA.out.at 3 rfl
    have x4 := HKA.out.at 4 rfl
    have xl := HKA.out.lt
    go_wp2_with fail
    refine (rnew_any z0 z1 z2 z3 z4 wa).mono ?_
    rw [← HP0.out]
    rintro e w4 ⟨rfl, hB4⟩
    have HPC := Lib.hid (HPA.out.below hB4 (Nat.le_refl _))
    have HB4 := Lib.hid (HBA.out.trans (hB4.mono HBA.out.size))
    clear hB4 x0 x1 x2 x3 x4 xl
    unfold RFV
    go_upto_region 5 with fail
    obtain ⟨br, hbr⟩ : ∃ br, br = w4.heap.size := ⟨_, rfl⟩
    obtain ⟨w5, hw5⟩ : ∃ w5, w5 = w4.alloc (.cells (rfc p0 (.slice none 0 0) (.slice none 0 0)).toArray 54) := ⟨_, rfl⟩
    have hB5 : Below w4.heap.size w4 w5 := by rw [hw5]; exact al (Below.refl _ _) _
    have hk5 : Blk w5 br 54 (rfc p0 (.slice none 0 0) (.slice none 0 0)) := by rw [hw5, hbr]; exact Blk.new w4 54 _
    have hX : ∀ k, (k < wb.heap.size) → k < b := fun k hk => by have := HBW.out; omega
    have HM0 : Hid (FM w w5 br b p0 p0 (.slice none 0 0) (.slice none 0 0) (.slice none 0 0) (.slice none 0 0)) := Lib.hid (by
      have h1 := HB4.out.size
      have h2 := HPC.out.blk.lt
      have h3 := hk5.lt
      have h4 : FAt w5 (Zx w br) b p0 (.slice none 0 0) (.slice none 0 0) := start_at HPC.out hB5 (by omega) hbr (by omega) h3
      refine ⟨h4, hk5, ?_, ?_, HOK0.out, HOK0.out, by omega, fun k hk => by simp [Value.ownBlock] at hk, by omega, by omega, HB4.out.trans (hB5.mono h1)⟩
      · have e0 : p0.units = [] := by rw [HP0.out]; rfl
        rw [e0]
        exact SAt.nil _ _
      · have e0 : p0.ctls = [] := by rw [HP0.out]; rfl
        rw [e0]
        exact CAt.nil _ _)
    unfold rfc at hw5
    rw [← hw5, ← hbr]
    have HA0 : Hid (p0.acked = 0) := Lib.hid (by rw [HP0.out]; rfl)
    clear hB5 hk5 hw5 HPC HPA HB4 HBA hbr hX HBW HKA HB0 HK0 hwb1
    go_wp2_with fail
    go_loopw [5, 7, 8] (fun v5 v7 v8 wr => ∃ (i b : Nat) (t : Int) (p : FS) (vU vC rU rC : Value), i ≤ n ∧ v8 = .int .i64 (i : Int) ∧ v7 = .int .i64 t ∧ v5 = .pointer (some ⟨b, 0, none⟩) ∧ p.acked ≤ 255 * i ∧ Hid (FM w wr br b p p vU vC rU rC)) (fun _ _ v8 _ => n - (intOf v8).toNat)
    case atStart => exact ⟨0, _, 0, _, _, _, _, _, Nat.zero_le _, rfl, rfl, rfl, by rw [HA0.out]; exact Nat.le_refl _, HM0⟩
    case round =>
      clear HM0 HOK0 HP0 HA0
      obtain ⟨i, b, t, p, vU, vC, rU, rC, hi, rfl, rfl, rfl, hak, HM⟩ := hrel
      obtain ⟨aU, cU, rfl, -, -⟩ := HM.out.un.len
      obtain ⟨aC, cC, rfl, -⟩ := id HM.out.ct
      obtain ⟨nU, hnU⟩ : ∃ k, k = p.units.length := ⟨_, rfl⟩
      obtain ⟨nC, hnC⟩ : ∃ k, k = p.ctls.length := ⟨_, rfl⟩
      rw [← hnU, ← hnC] at HM
      have HNU := Lib.hid hnU
      clear hnU hnC
      by_cases hlt : i < n
      · obtain ⟨bO, oO, cap, o, ax, cx, e, hbO, hcn, hli, hcell, hax⟩ := op_of HL.out HN.out hlt
        simp only [Value.slice.injEq] at e
        obtain ⟨rfl, -, rfl⟩ := e
        obtain ⟨m, hm⟩ : ∃ m, m = o.data.length := ⟨_, rfl⟩
        have e2 : (i : Int) < (n : Int) := by omega
        have e3 : (0 : Int) ≤ (i : Int) := by omega
        have e4 : (n : Int) ≤ 120 := by omega
        have hA : p.acked ≤ 1000000000 := by omega
        have hcw : ∀ j u, ([.int .i64 o.call, .int .i64 o.dt, .slice ax m cx] ++ cwC o.word : List Value)[j]? = some u → wr.cell? ⟨bO, oO + (i * 9 + j), none⟩ = some u := fun j u hj => (HM.out.bel.cell (p := ⟨bO, _, none⟩) hbO).trans (hcell j u (by rw [← hm]; exact hj))
        have c0 := hcw 0 _ rfl
        have c1 := hcw 1 _ rfl
        have c2 := hcw 2 _ rfl
        have c3 := hcw 3 _ rfl
        have c4 := hcw 4 _ rfl
        have c5 := hcw 5 _ rfl
        have c6 := hcw 6 _ rfl
        have c7 := hcw 7 _ rfl
        have c8 := hcw 8 _ rfl
        have HAX := Lib.hid hax
        have HDM := Lib.hid hm
        simp only [Nat.add_zero, ← Nat.add_assoc] at c0 c1 c2 c3 c4 c5 c6 c7 c8
        clear hcell hax hcw hm hli
        go_upto_region 10 with fail
        obtain ⟨bo, hbo⟩ : ∃ bo, bo = wr.heap.size := ⟨_, rfl⟩
        obtain ⟨w6, hw6⟩ : ∃ w6, w6 = wr.alloc (.cells (ofC o ax m cx).toArray 57) := ⟨_, rfl⟩
        have hB6 : Below wr.heap.size wr w6 := by rw [hw6]; exact al (Below.refl _ _) _
        have HO6 : Hid (Blk w6 bo 57 (ofC o ax m cx)) := Lib.hid (by rw [hw6, hbo]; exact Blk.new wr 57 _)
        have HM6 := Lib.hid (HM.out.below hB6)
        have hbo1 : b ≠ bo := by have := HM.out.at_.blk.lt; omega
        have hbo2 : bo ≠ br := by have := HM.out.ref.lt; omega
        have HBO : Hid (∀ k, vU.ownBlock = some k → k ≠ bo) := Lib.hid (fun k hk => by have := (HM.out.at_.row k hk).2; omega)
        unfold ofC at hw6
        rw [← hw6, ← hbo]
        have HAX6 := Lib.hid (HAX.out.below HM6.out.bel (Nat.le_refl _))
        clear hw6 hbo hB6 c0 c1 c2 c3 c4 c5 c6 c7 c8
        have q0 := HO6.out.at 0 rfl
        have q1 := HO6.out.at 1 rfl
        have q2 := HO6.out.at 2 rfl
        have ql := HO6.out.lt
        by_cases hm1 : 1100 < m
        · have e5 : (1100 : Int) < (m : Int) := by omega
          have HB9 : Hid (Below w.heap.size w w6) := Lib.hid HM6.out.bel
          go_wp2_with fail
          refine (alive_any _).mono ?_
          rintro e w9 ⟨rfl, hB⟩
          have HB9 := Lib.hid (HB9.out.trans (hB.mono HB9.out.size))
          clear hB
          go_wp2_with fail
          go_ret
          exact ⟨rfl, HB9.out⟩
        · have e5 : ¬ (1100 : Int) < (m : Int) := by omega
          have hm9 : m ≤ 100000 := by omega
          obtain ⟨t2, ht2⟩ : ∃ t2, t2 = wrap64 (t + o.dt) := ⟨_, rfl⟩
          go_upto_region 13 with fail
          rw [← ht2]
          clear ht2
          go_upto_block 2 with fail
          clear q0 q1
          go_cut [5, 10, 11] (fun v5 v10 v11 wx => ∃ (b' : Nat) (p' : FS) (er : Int) (vU' vC' rU' rC' : Value), v5 = .pointer (some ⟨b', 0, none⟩) ∧ v10 = .int .i64 er ∧ v11 = .int .i64 er ∧ p'.acked ≤ 255 * (i + 1) ∧ FM w wx br b' p' p' vU' vC' rU' rC')
          case first =>
            by_cases h1 : o.call = 1
            · have f1 : (o.call == 1) = true := by rw [h1]; rfl
              clear h1
              obtain ⟨q, er, hpu⟩ : ∃ q er, p.send o.data = (q, er) := ⟨_, _, rfl⟩
              have HPU := Lib.hid hpu
              have HOKQ : Hid q.Ok := Lib.hid (by have h := FS.ok_send HM6.out.ok o.data; rwa [hpu] at h)
              have hqa : q.acked ≤ 255 * (i + 1) := by have h := FS.acked_send p o.data; rw [hpu] at h; dsimp only at h; omega
              clear hpu
              go_wp2_with fail
              refine (send_any (Zx w br) b p vU vC ax cx m o.data w6 HM6.out.at_ HM6.out.okq HAX6.out HDM.out.symm hm9).mono ?_
              rw [HPU.out]
              rintro e w7 ⟨rfl, vU7, h7, hc7, hf7⟩
              have HM7 := Lib.hid (HM6.out.prog h7 HOKQ.out hf7 hc7)
              have HO7 := Lib.hid (HO6.out.fr hf7 (fun e => by
                rcases e with e | e
                · exact hbo1 e.symm
                · exact HBO.out _ e rfl))
              have HAX7 := Lib.hid (HAX.out.below HM7.out.bel (Nat.le_refl _))
              dsimp only
              clear h7 hc7 hf7 q2 ql
              have q2 := HO7.out.at 2 rfl
              have ql := HO7.out.lt
              have HR7 := Lib.hid HM7.out.ref
              have x0 := HR7.out.at 0 rfl
              have x1 := HR7.out.at 1 rfl
              have x2 := HR7.out.at 2 rfl
              have x3 := HR7.out.at 3 rfl
              have x4 := HR7.out.at 4 rfl
              have x5 := HR7.out.at 5 rfl
              have x6 := HR7.out.at 6 rfl
              have x7 := HR7.out.at 7 rfl
              have x8 := HR7.out.at 8 rfl
              have x9 := HR7.out.at 9 rfl
              have x10 := HR7.out.at 10 rfl
              have x11 := HR7.out.at 11 rfl
              have x12 := HR7.out.at 12 rfl
              have x13 := HR7.out.at 13 rfl
              have x14 := HR7.out.lt
              go_wp2_with fail
              refine (rsend_any (Zs w br b vU7) p (.slice aU nU cU) (.slice aC nC cC) ax cx m o.data w7 HM7.out.lt HM7.out.un HM7.out.ct HM7.out.ok HAX7.out HDM.out.symm hm9).mono ?_
              rw [HPU.out]
              rintro e w8 ⟨rU8, rC8, rfl, hS8, hT8, hB8⟩
              dsimp only at hS8 hT8 ⊢
              obtain ⟨aU8, cU8, rfl, -, -⟩ := hS8.len
              obtain ⟨aC8, cC8, rfl, -⟩ := id hT8
              unfold RFV
              have HS8 := Lib.hid hS8
              have HT8 := Lib.hid hT8
              have HB8 := Lib.hid hB8
              have HR8 := Lib.hid (HR7.out.below hB8 (Nat.le_refl _))
              clear hS8 hT8 hB8 x0 x1 x2 x3 x4 x5 x6 x7 x8 x9 x10 x11 x12 x13 x14
              have x0 := HR8.out.at 0 rfl
              have x1 := HR8.out.at 1 rfl
              have x2 := HR8.out.at 2 rfl
              have x3 := HR8.out.at 3 rfl
              have x4 := HR8.out.at 4 rfl
              have x5 := HR8.out.at 5 rfl
              have x6 := HR8.out.at 6 rfl
              have x7 := HR8.out.at 7 rfl
              have x8 := HR8.out.at 8 rfl
              have x9 := HR8.out.at 9 rfl
              have x10 := HR8.out.at 10 rfl
              have x11 := HR8.out.at 11 rfl
              have x12 := HR8.out.at 12 rfl
              have x13 := HR8.out.at 13 rfl
              have y0 := HR8.out.free 0
              have y1 := HR8.out.free 1
              have y2 := HR8.out.free 2
              have y3 := HR8.out.free 3
              have y4 := HR8.out.free 4
              have y5 := HR8.out.free 5
              have y6 := HR8.out.free 6
              have y7 := HR8.out.free 7
              have y8 := HR8.out.free 8
              have y9 := HR8.out.free 9
              have y10 := HR8.out.free 10
              have y11 := HR8.out.free 11
              have y12 := HR8.out.free 12
              have y13 := HR8.out.free 13
              have x14 := HR8.out.lt
              go_wp2_with fail
              go_meet
              case rel => exact ⟨b, q, er, vU7, vC, _, _, rfl, rfl, rfl, hqa, HM7.out.refr HB8.out HS8.out HT8.out (fin14_blk HR8.out rfl (.int .i64 q.craft) (.int .i64 q.chan) (.int .i64 (q.size : Int)) (.int .i64 q.tmo) (.int .i64 (q.ret : Int)) (.int .i64 (q.state : Int)) (.slice aU8 q.units.length cU8) (.int .i64 (q.acked : Int)) (.int .i64 (q.flight : Int)) (.int .i64 (q.front : Int)) (.slice aC8 q.ctls.length cC8) (.int .i64 q.now) (.int .i64 q.timer) (.int .i64 (q.count : Int))) (fin14_fr _ _ _ _ _ _ _ _ _ _ _ _ _ _ _ _) HOKQ.out⟩
            by_cases h3 : o.call = 3
            · have f1 : (o.call == 1) = false := by rw [h3]; rfl
              have f2 : (o.call == 2) = false := by rw [h3]; rfl
              have f3 : (o.call == 3) = true := by rw [h3]; rfl
              clear h1 h3
              obtain ⟨q, er, hpu⟩ : ∃ q er, p.report o.word t2 = (q, er) := ⟨_, _, rfl⟩
              have HPU := Lib.hid hpu
              have HOKQ : Hid q.Ok := Lib.hid (by have h := FS.ok_report HM6.out.ok o.word t2; rwa [hpu] at h)
              have hqa : q.acked ≤ 255 * (i + 1) := by have h := FS.acked_report p o.word t2; rw [hpu] at h; dsimp only at h; omega
              clear hpu
              have r3 := HO6.out.at 3 rfl
              have r4 := HO6.out.at 4 rfl
              have r5 := HO6.out.at 5 rfl
              have r6 := HO6.out.at 6 rfl
              have r7 := HO6.out.at 7 rfl
              have r8 := HO6.out.at 8 rfl
              go_wp2_with fail
              refine (report_any (Zx w br) b p vU vC o.word t2 w6 HM6.out.at_ HM6.out.okq hA).mono ?_
              rw [HPU.out]
              rintro e w7 ⟨vU7, rfl, h7, hc7, hf7⟩
              have HM7 := Lib.hid (HM6.out.prog h7 HOKQ.out (hf7.wide (fun k hk => .inl (.inl hk))) (.inl hc7))
              have HO7 := Lib.hid (HO6.out.fr hf7 (fun e => hbo1 e.symm))
              dsimp only
              clear h7 hc7 hf7 q2 ql r3 r4 r5 r6 r7 r8
              have r3 := HO7.out.at 3 rfl
              have r4 := HO7.out.at 4 rfl
              have r5 := HO7.out.at 5 rfl
              have r6 := HO7.out.at 6 rfl
              have r7 := HO7.out.at 7 rfl
              have r8 := HO7.out.at 8 rfl
              have ql := HO7.out.lt
              have HR7 := Lib.hid HM7.out.ref
              have x0 := HR7.out.at 0 rfl
              have x1 := HR7.out.at 1 rfl
              have x2 := HR7.out.at 2 rfl
              have x3 := HR7.out.at 3 rfl
              have x4 := HR7.out.at 4 rfl
              have x5 := HR7.out.at 5 rfl
              have x6 := HR7.out.at 6 rfl
              have x7 := HR7.out.at 7 rfl
              have x8 := HR7.out.at 8 rfl
              have x9 := HR7.out.at 9 rfl
              have x10 := HR7.out.at 10 rfl
              have x11 := HR7.out.at 11 rfl
              have x12 := HR7.out.at 12 rfl
              have x13 := HR7.out.at 13 rfl
              have x14 := HR7.out.lt
              go_wp2_with fail
              refine (rreport_any (Zs w br b vU7) p (.slice aU nU cU) (.slice aC nC cC) o.word t2 w7 HM7.out.lt HM7.out.un HM7.out.ct HM7.out.ok hA).mono ?_
              rw [HPU.out]
              rintro e w8 ⟨rU8, rC8, rfl, hS8, hT8, hB8⟩
              dsimp only at hS8 hT8 ⊢
              obtain ⟨aU8, cU8, rfl, -, -⟩ := hS8.len
              obtain ⟨aC8, cC8, rfl, -⟩ := id hT8
              unfold RFV
              have HS8 := Lib.hid hS8
              have HT8 := Lib.hid hT8
              have HB8 := Lib.hid hB8
              have HR8 := Lib.hid (HR7.out.below hB8 (Nat.le_refl _))
              clear hS8 hT8 hB8 x0 x1 x2 x3 x4 x5 x6 x7 x8 x9 x10 x11 x12 x13 x14
              have x0 := HR8.out.at 0 rfl
              have x1 := HR8.out.at 1 rfl
              have x2 := HR8.out.at 2 rfl
              have x3 := HR8.out.at 3 rfl
              have x4 := HR8.out.at 4 rfl
              have x5 := HR8.out.at 5 rfl
              have x6 := HR8.out.at 6 rfl
              have x7 := HR8.out.at 7 rfl
              have x8 := HR8.out.at 8 rfl
              have x9 := HR8.out.at 9 rfl
              have x10 := HR8.out.at 10 rfl
              have x11 := HR8.out.at 11 rfl
              have x12 := HR8.out.at 12 rfl
              have x13 := HR8.out.at 13 rfl
              have y0 := HR8.out.free 0
              have y1 := HR8.out.free 1
              have y2 := HR8.out.free 2
              have y3 := HR8.out.free 3
              have y4 := HR8.out.free 4
              have y5 := HR8.out.free 5
              have y6 := HR8.out.free 6
              have y7 := HR8.out.free 7
              have y8 := HR8.out.free 8
              have y9 := HR8.out.free 9
              have y10 := HR8.out.free 10
              have y11 := HR8.out.free 11
              have y12 := HR8.out.free 12
              have y13 := HR8.out.free 13
              have x14 := HR8.out.lt
              go_wp2_with fail
              go_meet
              case rel => exact ⟨b, q, er, vU7, vC, _, _, rfl, rfl, rfl, hqa, HM7.out.refr HB8.out HS8.out HT8.out (fin14_blk HR8.out rfl (.int .i64 q.craft) (.int .i64 q.chan) (.int .i64 (q.size : Int)) (.int .i64 q.tmo) (.int .i64 (q.ret : Int)) (.int .i64 (q.state : Int)) (.slice aU8 q.units.length cU8) (.int .i64 (q.acked : Int)) (.int .i64 (q.flight : Int)) (.int .i64 (q.front : Int)) (.slice aC8 q.ctls.length cC8) (.int .i64 q.now) (.int .i64 q.timer) (.int .i64 (q.count : Int))) (fin14_fr _ _ _ _ _ _ _ _ _ _ _ _ _ _ _ _) HOKQ.out⟩
            by_cases h4 : o.call = 4
            · have f1 : (o.call == 1) = false := by rw [h4]; rfl
              have f2 : (o.call == 2) = false := by rw [h4]; rfl
              have f3 : (o.call == 3) = false := by rw [h4]; rfl
              have f4 : (o.call == 4) = true := by rw [h4]; rfl
              clear h1 h3 h4
              obtain ⟨q, hpu⟩ : ∃ q, p.unlock t2 = q := ⟨_, rfl⟩
              have HPU := Lib.hid hpu
              have HOKQ : Hid q.Ok := Lib.hid (by have h := FS.ok_unlock HM6.out.ok t2; rwa [hpu] at h)
              have hqa : q.acked ≤ 255 * (i + 1) := by have h := FS.acked_unlock p t2; rw [hpu] at h; omega
              clear hpu
              go_wp2_with fail
              refine (unlock_any (Zx w br) b p vU vC t2 w6 HM6.out.at_).mono ?_
              rw [HPU.out]
              rintro e w7 ⟨rfl, vC7, h7, hf7⟩
              have HM7 := Lib.hid (HM6.out.prog h7 HOKQ.out (hf7.wide (fun k hk => .inl (.inl hk))) (.inl rfl))
              clear h7 hf7 q2 ql
              have ql := HM7.out.ref.lt
              have HR7 := Lib.hid HM7.out.ref
              have x0 := HR7.out.at 0 rfl
              have x1 := HR7.out.at 1 rfl
              have x2 := HR7.out.at 2 rfl
              have x3 := HR7.out.at 3 rfl
              have x4 := HR7.out.at 4 rfl
              have x5 := HR7.out.at 5 rfl
              have x6 := HR7.out.at 6 rfl
              have x7 := HR7.out.at 7 rfl
              have x8 := HR7.out.at 8 rfl
              have x9 := HR7.out.at 9 rfl
              have x10 := HR7.out.at 10 rfl
              have x11 := HR7.out.at 11 rfl
              have x12 := HR7.out.at 12 rfl
              have x13 := HR7.out.at 13 rfl
              have x14 := HR7.out.lt
              go_wp2_with fail
              refine (runlock_ref (Zs w br b vU) p (.slice aU nU cU) (.slice aC nC cC) t2 w7 HM7.out.lt HM7.out.un HM7.out.ct).mono ?_
              rw [HPU.out]
              rintro e w8 ⟨rU8, rC8, rfl, hS8, hT8, hB8⟩
              dsimp only at hS8 hT8 ⊢
              obtain ⟨aU8, cU8, rfl, -, -⟩ := hS8.len
              obtain ⟨aC8, cC8, rfl, -⟩ := id hT8
              unfold RFV
              have HS8 := Lib.hid hS8
              have HT8 := Lib.hid hT8
              have HB8 := Lib.hid hB8
              have HR8 := Lib.hid (HR7.out.below hB8 (Nat.le_refl _))
              clear hS8 hT8 hB8 x0 x1 x2 x3 x4 x5 x6 x7 x8 x9 x10 x11 x12 x13 x14
              have x0 := HR8.out.at 0 rfl
              have x1 := HR8.out.at 1 rfl
              have x2 := HR8.out.at 2 rfl
              have x3 := HR8.out.at 3 rfl
              have x4 := HR8.out.at 4 rfl
              have x5 := HR8.out.at 5 rfl
              have x6 := HR8.out.at 6 rfl
              have x7 := HR8.out.at 7 rfl
              have x8 := HR8.out.at 8 rfl
              have x9 := HR8.out.at 9 rfl
              have x10 := HR8.out.at 10 rfl
              have x11 := HR8.out.at 11 rfl
              have x12 := HR8.out.at 12 rfl
              have x13 := HR8.out.at 13 rfl
              have y0 := HR8.out.free 0
              have y1 := HR8.out.free 1
              have y2 := HR8.out.free 2
              have y3 := HR8.out.free 3
              have y4 := HR8.out.free 4
              have y5 := HR8.out.free 5
              have y6 := HR8.out.free 6
              have y7 := HR8.out.free 7
              have y8 := HR8.out.free 8
              have y9 := HR8.out.free 9
              have y10 := HR8.out.free 10
              have y11 := HR8.out.free 11
              have y12 := HR8.out.free 12
              have y13 := HR8.out.free 13
              have x14 := HR8.out.lt
              go_wp2_with fail
              go_meet
              case rel => exact ⟨b, q, 0, vU, vC7, _, _, rfl, rfl, rfl, hqa, HM7.out.refr HB8.out HS8.out HT8.out (fin14_blk HR8.out rfl (.int .i64 q.craft) (.int .i64 q.chan) (.int .i64 (q.size : Int)) (.int .i64 q.tmo) (.int .i64 (q.ret : Int)) (.int .i64 (q.state : Int)) (.slice aU8 q.units.length cU8) (.int .i64 (q.acked : Int)) (.int .i64 (q.flight : Int)) (.int .i64 (q.front : Int)) (.slice aC8 q.ctls.length cC8) (.int .i64 q.now) (.int .i64 q.timer) (.int .i64 (q.count : Int))) (fin14_fr _ _ _ _ _ _ _ _ _ _ _ _ _ _ _ _) HOKQ.out⟩
            by_cases h5 : o.call = 5
            · have f1 : (o.call == 1) = false := by rw [h5]; rfl
              have f2 : (o.call == 2) = false := by rw [h5]; rfl
              have f3 : (o.call == 3) = false := by rw [h5]; rfl
              have f4 : (o.call == 4) = false := by rw [h5]; rfl
              have f5 : (o.call == 5) = true := by rw [h5]; rfl
              clear h1 h3 h4 h5
              have hqa : p.acked ≤ 255 * (i + 1) := by omega
              go_wp2_with fail
              refine (clone_any _ b p vU vC w6 HM6.out.at_ HM6.out.okq).mono ?_
              rintro e w7 ⟨vUc, vCc, rfl, hc7, hn7, hB7⟩
              have HC7 := Lib.hid hc7
              have HN7 := Lib.hid hn7
              have HB7 := Lib.hid hB7
              have HM7 := Lib.hid (HM6.out.below hB7)
              clear hc7 hn7 hB7 q2 ql
              go_wp2_with fail
              have hba : Below w7.heap.size w7 (w7.alloc (.cells #[.int .u8 1] 5)) := al (Below.refl _ _) _
              have hA1 : BAt (w7.alloc (.cells #[.int .u8 1] 5)) (some ⟨w7.heap.size, 0, none⟩) [1] := lit1 w7 1 (0, 0)
              have HM8 := Lib.hid (HM7.out.below hba)
              have hf8 : Fr (Mine b vU) w7 (w7.alloc (.cells #[.int .u8 1] 5)) := (Fr.refl _ _).alloc _
              refine (send_any (Zx w br) b p vU vC _ 1 1 [1] _ HM8.out.at_ HM8.out.okq hA1 rfl (by omega)).mono ?_
              rintro e w9 ⟨rfl, vU9, h9, hc9, hf9⟩
              have H9 := Lib.hid h9
              have HF9 := Lib.hid (hf8.trans hf9)
              clear h9 hc9 hf9 hf8 hA1 hba
              go_wp2_with fail
              refine (unlock_any (Zx w br) b (p.send [1]).1 vU9 vC t2 w9 H9.out).mono ?_
              rintro e w10 ⟨rfl, vC10, -, hf10⟩
              have HMN : Hid (FM w w10 br w6.heap.size p p vUc vCc (.slice aU nU cU) (.slice aC nC cC)) := Lib.hid (HM6.out.clone HC7.out HN7.out HB7.out (HF9.out.trans (hf10.wide (fun k hk => .inl (.inl hk)))))
              clear hf10
              go_wp2_with fail
              go_meet
              case rel => exact ⟨w6.heap.size, p, 0, vUc, vCc, _, _, rfl, rfl, rfl, hqa, HMN.out⟩
            by_cases h2 : o.call = 2
            · have f1 : (o.call == 1) = false := by rw [h2]; rfl
              have f2 : (o.call == 2) = true := by rw [h2]; rfl
              clear h1 h2 h3 h4 h5
              obtain ⟨q, oo, hpn⟩ : ∃ q oo, p.next t2 = (q, oo) := ⟨_, _, rfl⟩
              have HPN := Lib.hid hpn
              have HOKQ : Hid q.Ok := Lib.hid (by have h := FS.ok_next HM6.out.ok t2; rwa [hpn] at h)
              have hqa : q.acked ≤ 255 * (i + 1) := by have h := FS.acked_next p t2; rw [hpn] at h; dsimp only at h; omega
              obtain ⟨x, hx⟩ : ∃ x, x = oo.getD Fm.zero := ⟨_, rfl⟩
              obtain ⟨is, his⟩ : ∃ is, is = oo.isSome := ⟨_, rfl⟩
              have HX := Lib.hid hx
              have HIS := Lib.hid his
              clear hpn hx his
              go_wp2_with fail
              refine (next_any (Zx w br) b p vU vC t2 w6 HM6.out.at_ HM6.out.okq hA).mono ?_
              rw [HPN.out]
              rintro e w7 ⟨v7, vC7, rfl, hO7, h7, hf7⟩
              dsimp only at hO7 h7 ⊢
              rw [← HX.out] at hO7
              rw [← HX.out, ← HIS.out]
              obtain ⟨-, a7, c7, rfl, hc7, hm7, -⟩ := BAt.of_row hO7
              have HM7 := Lib.hid (HM6.out.prog h7 HOKQ.out (hf7.wide (fun k hk => .inl (.inl hk))) (.inl rfl))
              have HO7 := Lib.hid hO7
              obtain ⟨xl, hxl⟩ : ∃ k, k = x.data.length := ⟨_, rfl⟩
              rw [← hxl] at HO7 ⊢
              have HXL := Lib.hid hxl
              have hs7 := hf7.size
              have hbl6 := HM6.out.at_.blk.lt
              have hbr6 := HM6.out.ref.lt
              unfold fmV
              clear hO7 h7 hf7 hc7 hm7 hxl q2 ql
              go_upto_region 21 with fail
              have hfb : Blk (w7.alloc (.cells #[.bool x.byp, .bool x.ctl, .int .i64 x.craft, .int .i64 x.chan, .int .i64 x.seq, .slice a7 xl c7] 33)) w7.heap.size 33 [.bool x.byp, .bool x.ctl, .int .i64 x.craft, .int .i64 x.chan, .int .i64 x.seq, .slice a7 xl c7] := Blk.new w7 33 _
              have hBf : Below w7.heap.size w7 (w7.alloc (.cells #[.bool x.byp, .bool x.ctl, .int .i64 x.craft, .int .i64 x.chan, .int .i64 x.seq, .slice a7 xl c7] 33)) := al (Below.refl _ _) _
              obtain ⟨w8, hw8⟩ : ∃ w8, w8 = w7.alloc (.cells #[.bool x.byp, .bool x.ctl, .int .i64 x.craft, .int .i64 x.chan, .int .i64 x.seq, .slice a7 xl c7] 33) := ⟨_, rfl⟩
              rw [← hw8] at hfb hBf ⊢
              have HM8 := Lib.hid (HM7.out.below hBf)
              have HO8 := Lib.hid (own_below HO7.out hBf (Nat.le_refl _))
              have HF8 := Lib.hid hfb
              obtain ⟨bf, hbf⟩ : ∃ bf, bf = w7.heap.size := ⟨_, rfl⟩
              rw [← hbf] at HF8 ⊢
              have hbf1 : w6.heap.size ≤ bf := by omega
              have hs8 := HF8.out.lt
              have HR7 := Lib.hid HM8.out.ref
              clear hw8 hfb hBf hbf hs7
              have x0 := HR7.out.at 0 rfl
              have x1 := HR7.out.at 1 rfl
              have x2 := HR7.out.at 2 rfl
              have x3 := HR7.out.at 3 rfl
              have x4 := HR7.out.at 4 rfl
              have x5 := HR7.out.at 5 rfl
              have x6 := HR7.out.at 6 rfl
              have x7 := HR7.out.at 7 rfl
              have x8 := HR7.out.at 8 rfl
              have x9 := HR7.out.at 9 rfl
              have x10 := HR7.out.at 10 rfl
              have x11 := HR7.out.at 11 rfl
              have x12 := HR7.out.at 12 rfl
              have x13 := HR7.out.at 13 rfl
              have x14 := HR7.out.lt
              go_wp2_with fail
              refine (rnext_any (Zs w br b vU) p (.slice aU nU cU) (.slice aC nC cC) t2 w8 HM8.out.un HM8.out.ct HM8.out.ok hA).mono ?_
              rw [HPN.out]
              rintro e w9 ⟨rU8, rC8, v8, rfl, hS8, hT8, hv8, hB8⟩
              dsimp only at hS8 hT8 hv8 ⊢
              rw [← HX.out] at hv8
              rw [← HX.out, ← HIS.out]
              obtain ⟨aU8, cU8, rfl, -, -⟩ := hS8.len
              obtain ⟨aC8, cC8, rfl, -⟩ := id hT8
              obtain ⟨a9, c9, rfl, -, -, hA9, hS9⟩ := id hv8
              have HS9 : Hid (∀ k, a9 = some k → x.data ≠ [] → k.block ≠ br) := Lib.hid (fun k hk hne e => hS9 k hk hne (.inr (.inl e)))
              rw [← HXL.out]
              unfold RFV fmV
              have HS8 := Lib.hid hS8
              have HT8 := Lib.hid hT8
              have HB8 := Lib.hid hB8
              have HA9 := Lib.hid hA9
              have HF9 := Lib.hid (HF8.out.below hB8 (Nat.le_refl _))
              have HO9 := Lib.hid (own_below HO8.out hB8 (Nat.le_refl _))
              clear hS8 hT8 hv8 hB8 hA9 hS9 x0 x1 x2 x3 x4 x5 x6 x7 x8 x9 x10 x11 x12 x13 x14
              go_upto_region 22 with fail
              obtain ⟨wm, hwm⟩ : ∃ wm, wm = (w9.alloc (.cells #[.int .i64 q.craft, .int .i64 q.chan, .int .i64 (q.size : Int), .int .i64 q.tmo, .int .i64 (q.ret : Int), .int .i64 (q.state : Int), .slice aU8 q.units.length cU8, .int .i64 (q.acked : Int), .int .i64 (q.flight : Int), .int .i64 (q.front : Int), .slice aC8 q.ctls.length cC8, .int .i64 q.now, .int .i64 q.timer, .int .i64 (q.count : Int)] 54)).alloc (.cells #[.bool x.byp, .bool x.ctl, .int .i64 x.craft, .int .i64 x.chan, .int .i64 x.seq, .slice a9 xl c9] 33) := ⟨_, rfl⟩
              have hbm : Below w9.heap.size w9 wm := by rw [hwm]; exact al (al (Below.refl _ _) _) _
              have HKN : Hid (Blk wm w9.heap.size 54 (rfc q (.slice aU8 q.units.length cU8) (.slice aC8 q.ctls.length cC8))) := Lib.hid (by rw [hwm]; exact (Blk.new w9 54 _).alloc _)
              have HFN : Hid (Blk wm (w9.heap.size + 1) 33 [.bool x.byp, .bool x.ctl, .int .i64 x.craft, .int .i64 x.chan, .int .i64 x.seq, .slice a9 xl c9]) := Lib.hid (by rw [hwm]; exact Blk.newAt (by simp))
              rw [← hwm]
              have HFM := Lib.hid (HF9.out.below hbm (Nat.le_refl _))
              have HBM : Hid (Below w8.heap.size w8 wm) := Lib.hid (HB8.out.trans (hbm.mono HB8.out.size))
              have HMm := Lib.hid (HM8.out.below HBM.out)
              have HSM := Lib.hid (HS8.out.below hbm (Nat.le_refl _))
              have HTM := Lib.hid (HT8.out.below hbm (Nat.le_refl _))
              have HAM := Lib.hid (HA9.out.below hbm (Nat.le_refl _))
              have HOM := Lib.hid (own_below HO9.out hbm (Nat.le_refl _))
              obtain ⟨bk, hbk⟩ : ∃ bk, bk = w9.heap.size := ⟨_, rfl⟩
              have hbk1 : w8.heap.size ≤ bk := by rw [hbk]; exact HB8.out.size
              rw [← hbk] at HKN HFN ⊢
              clear hwm hbm hbk HF9 HS8 HT8 HA9 HO9 HF8 HO8 HO7
              have HRM := Lib.hid HMm.out.ref
              have b0 := HKN.out.at 0 rfl
              have b1 := HKN.out.at 1 rfl
              have b2 := HKN.out.at 2 rfl
              have b3 := HKN.out.at 3 rfl
              have b4 := HKN.out.at 4 rfl
              have b5 := HKN.out.at 5 rfl
              have b6 := HKN.out.at 6 rfl
              have b7 := HKN.out.at 7 rfl
              have b8 := HKN.out.at 8 rfl
              have b9 := HKN.out.at 9 rfl
              have b10 := HKN.out.at 10 rfl
              have b11 := HKN.out.at 11 rfl
              have b12 := HKN.out.at 12 rfl
              have b13 := HKN.out.at 13 rfl
              have b14 := HKN.out.lt
              have x0 := HRM.out.at 0 rfl
              have x1 := HRM.out.at 1 rfl
              have x2 := HRM.out.at 2 rfl
              have x3 := HRM.out.at 3 rfl
              have x4 := HRM.out.at 4 rfl
              have x5 := HRM.out.at 5 rfl
              have x6 := HRM.out.at 6 rfl
              have x7 := HRM.out.at 7 rfl
              have x8 := HRM.out.at 8 rfl
              have x9 := HRM.out.at 9 rfl
              have x10 := HRM.out.at 10 rfl
              have x11 := HRM.out.at 11 rfl
              have x12 := HRM.out.at 12 rfl
              have x13 := HRM.out.at 13 rfl
              have y0 := HRM.out.free 0
              have y1 := HRM.out.free 1
              have y2 := HRM.out.free 2
              have y3 := HRM.out.free 3
              have y4 := HRM.out.free 4
              have y5 := HRM.out.free 5
              have y6 := HRM.out.free 6
              have y7 := HRM.out.free 7
              have y8 := HRM.out.free 8
              have y9 := HRM.out.free 9
              have y10 := HRM.out.free 10
              have y11 := HRM.out.free 11
              have y12 := HRM.out.free 12
              have y13 := HRM.out.free 13
              have x14 := HRM.out.lt
              go_upto_region 23 with fail
              have hfn := fin14_fr wm br (.int .i64 q.craft) (.int .i64 q.chan) (.int .i64 (q.size : Int)) (.int .i64 q.tmo) (.int .i64 (q.ret : Int)) (.int .i64 (q.state : Int)) (.slice aU8 q.units.length cU8) (.int .i64 (q.acked : Int)) (.int .i64 (q.flight : Int)) (.int .i64 (q.front : Int)) (.slice aC8 q.ctls.length cC8) (.int .i64 q.now) (.int .i64 q.timer) (.int .i64 (q.count : Int))
              have hkn := fin14_blk HRM.out rfl (.int .i64 q.craft) (.int .i64 q.chan) (.int .i64 (q.size : Int)) (.int .i64 q.tmo) (.int .i64 (q.ret : Int)) (.int .i64 (q.state : Int)) (.slice aU8 q.units.length cU8) (.int .i64 (q.acked : Int)) (.int .i64 (q.flight : Int)) (.int .i64 (q.front : Int)) (.slice aC8 q.ctls.length cC8) (.int .i64 q.now) (.int .i64 q.timer) (.int .i64 (q.count : Int))
              obtain ⟨wz, hwz⟩ : ∃ wz, wz = fin14 wm br (.int .i64 q.craft) (.int .i64 q.chan) (.int .i64 (q.size : Int)) (.int .i64 q.tmo) (.int .i64 (q.ret : Int)) (.int .i64 (q.state : Int)) (.slice aU8 q.units.length cU8) (.int .i64 (q.acked : Int)) (.int .i64 (q.flight : Int)) (.int .i64 (q.front : Int)) (.slice aC8 q.ctls.length cC8) (.int .i64 q.now) (.int .i64 q.timer) (.int .i64 (q.count : Int)) := ⟨_, rfl⟩
              rw [← hwz] at hfn hkn
              unfold fin14 at hwz
              rw [← hwz]
              have HMZ : Hid (FM w wz br b q q vU vC7 (.slice aU8 q.units.length cU8) (.slice aC8 q.ctls.length cC8)) := Lib.hid (HM8.out.refr HBM.out HSM.out HTM.out hkn hfn HOKQ.out)
              have HF1 := Lib.hid (HFM.out.fr hfn (by omega))
              have HF2 := Lib.hid (HFN.out.fr hfn (by omega))
              obtain ⟨-, a6, c6, e6, -, -, hA6⟩ := BAt.of_row (own_fr HOM.out hfn (fun k hk e => by have := (HOM.out.lt k hk).1; omega))
              simp only [Value.slice.injEq] at e6
              obtain ⟨rfl, -, rfl⟩ := e6
              have HA6 := Lib.hid hA6
              have HA9 : Hid (BAt wz a9 x.data) := Lib.hid (HAM.out.apart hfn (fun k hk hne e => HS9.out k hk hne e))
              clear hwz hfn hkn hA6 x0 x1 x2 x3 x4 x5 x6 x7 x8 x9 x10 x11 x12 x13 x14 y0 y1 y2 y3 y4 y5 y6 y7 y8 y9 y10 y11 y12 y13 b0 b1 b2 b3 b4 b5 b6 b7 b8 b9 b10 b11 b12 b13 b14
              have q0 := HF1.out.at 0 rfl
              have q1 := HF1.out.at 1 rfl
              have q2 := HF1.out.at 2 rfl
              have q3 := HF1.out.at 3 rfl
              have q4 := HF1.out.at 4 rfl
              have q5 := HF1.out.at 5 rfl
              have ql := HF1.out.lt
              have s0 := HF2.out.at 0 rfl
              have s1 := HF2.out.at 1 rfl
              have s2 := HF2.out.at 2 rfl
              have s3 := HF2.out.at 3 rfl
              have s4 := HF2.out.at 4 rfl
              have s5 := HF2.out.at 5 rfl
              have sl := HF2.out.lt
              go_wp2_with fail
              refine (same_eq x a7 a9 c7 c9 xl xl wz HXL.out.symm HXL.out.symm HA6.out HA9.out).mono ?_
              rintro e wy ⟨rfl, hBY⟩
              have HMY := Lib.hid (HMZ.out.below hBY)
              clear hBY
              go_wp2_with fail
              go_meet
              case rel => exact ⟨b, q, 0, vU, vC7, _, _, rfl, rfl, rfl, hqa, HMY.out⟩
            · have f1 : (o.call == 1) = false := by rw [beq_eq_false_iff_ne]; exact h1
              have f2 : (o.call == 2) = false := by rw [beq_eq_false_iff_ne]; exact h2
              have f3 : (o.call == 3) = false := by rw [beq_eq_false_iff_ne]; exact h3
              have f4 : (o.call == 4) = false := by rw [beq_eq_false_iff_ne]; exact h4
              have f5 : (o.call == 5) = false := by rw [beq_eq_false_iff_ne]; exact h5
              clear h1 h2 h3 h4 h5
              go_wp2_with fail
              go_meet
              case rel => exact ⟨b, p, 0, vU, vC, _, _, rfl, rfl, rfl, by omega, HM6.out⟩
          case rest =>
            clear HM HM6 HO6 HAX HAX6 HBO q2 ql
            obtain ⟨b', p', er, vU', vC', rU', rC', rfl, rfl, rfl, hak', hM⟩ := hcut
            obtain ⟨wx, hwx⟩ : ∃ wx, wx = wc := ⟨wc, rfl⟩
            subst hwx
            obtain ⟨aU', cU', rfl, -, -⟩ := hM.un.len
            have HMx := Lib.hid hM
            have HMD : Hid (FM w wx.drew br b' p' p' vU' vC' (.slice aU' p'.units.length cU') rC') := Lib.hid (hM.below (Quiet.below ⟨1, rfl⟩))
            clear hM
            have x5 := HMx.out.ref.at 5 rfl
            have x6 := HMx.out.ref.at 6 rfl
            have x7 := HMx.out.ref.at 7 rfl
            have xl := HMx.out.ref.lt
            go_upto_region 36 with fail
            refine wp_region_held_drew (S := (fun w' => w'.cell? ⟨br, 5, none⟩ = some (.int .i64 (p'.state : Int)) ∧ w'.cell? ⟨br, 6, none⟩ = some (.slice aU' p'.units.length cU') ∧ w'.cell? ⟨br, 7, none⟩ = some (.int .i64 (p'.acked : Int)))) (by kernel_rfl) (by (try dsimp only); first | exact ⟨by with_reducible assumption, by with_reducible assumption, by with_reducible assumption⟩ | go_keep) (fun hHeld => ?_)
            refine wpAnyH_take (i := 0) (oi := (Oper.mk (some 137) (Op.move (Operand.tmp 10)) 27 "law.go:85" #[] none)) (v := ?_) rfl (by kernel_rfl) (by kernel_rfl) (by kernel_rfl) (fun _ _ _ h => h) (Or.inl ⟨by rfl, ?_⟩) (by assumption) ?_
            rotate_left
            · (intro w hSw; (try dsimp only at hSw); go_simp; first | done | with_reducible rfl)
            (try simp only [Act.put, List.setIfInBounds_toArray, List.set_cons_zero, List.set_cons_succ])
            refine wpAnyH_take (i := 1) (oi := (Oper.mk (some 138) (Op.move (Operand.tmp 11)) 27 "law.go:85" #[] none)) (v := ?_) rfl (by kernel_rfl) (by kernel_rfl) (by kernel_rfl) (fun _ _ _ h => h) (Or.inl ⟨by rfl, ?_⟩) (by assumption) ?_
            rotate_left
            · (intro w hSw; (try dsimp only at hSw); go_simp; first | done | with_reducible rfl)
            (try simp only [Act.put, List.setIfInBounds_toArray, List.set_cons_zero, List.set_cons_succ])
            refine wpAnyH_take (i := 2) (oi := (Oper.mk (some 139) (Op.binOp BinOp.neq 27 (Operand.tmp 137) (Operand.tmp 138) 27) 4 "law.go:85" #[Edge.mk 0 Ground.data, Edge.mk 1 Ground.data] none)) (v := ?_) rfl (by kernel_rfl) (by kernel_rfl) (by kernel_rfl) (fun _ _ _ h => h) (Or.inl ⟨by rfl, ?_⟩) (by assumption) ?_
            rotate_left
            · (intro w hSw; (try dsimp only at hSw); go_simp; first | done | with_reducible rfl)
            (try simp only [Act.put, List.setIfInBounds_toArray, List.set_cons_zero, List.set_cons_succ])
            refine wpAnyH_take (i := 3) (oi := (Oper.mk (some 140) (Op.move (Operand.tmp 139)) 4 "law.go:85" #[Edge.mk 2 Ground.data] none)) (v := ?_) rfl (by kernel_rfl) (by kernel_rfl) (by kernel_rfl) (fun _ _ _ h => h) (Or.inl ⟨by rfl, ?_⟩) (by assumption) ?_
            rotate_left
            · (intro w hSw; (try dsimp only at hSw); go_simp; first | done | with_reducible rfl)
            (try simp only [Act.put, List.setIfInBounds_toArray, List.set_cons_zero, List.set_cons_succ])
            refine wpAnyH_take (i := 4) (oi := (Oper.mk (some 141) (Op.move (Operand.tmp 5)) 25 "law.go:85" #[Edge.mk 3 Ground.guard] (some (3, false)))) (v := ?_) rfl (by kernel_rfl) (by kernel_rfl) (by kernel_rfl) (fun _ _ _ h => h) (Or.inl ⟨by rfl, ?_⟩) (by assumption) ?_
            rotate_left
            · (intro w hSw; (try dsimp only at hSw); go_simp; first | done | with_reducible rfl)
            (try simp only [Act.put, List.setIfInBounds_toArray, List.set_cons_zero, List.set_cons_succ])
            refine wpAnyH_take (i := 6) (oi := (Oper.mk (some 143) (Op.fieldAddr 54 (Operand.tmp 6) 5) 0 "law.go:85" #[Edge.mk 3 Ground.guard] (some (3, false)))) (v := ?_) rfl (by kernel_rfl) (by kernel_rfl) (by kernel_rfl) (fun _ _ _ h => h) (Or.inl ⟨by rfl, ?_⟩) (by assumption) ?_
            rotate_left
            · (intro w hSw; (try dsimp only at hSw); go_simp; first | done | with_reducible rfl)
            (try simp only [Act.put, List.setIfInBounds_toArray, List.set_cons_zero, List.set_cons_succ])
            refine wpAnyH_take (i := 7) (oi := (Oper.mk (some 144) (Op.load 3 (Operand.tmp 143)) 3 "law.go:85" #[Edge.mk 6 Ground.data, Edge.mk 3 Ground.guard] (some (3, false)))) (v := ?_) rfl (by kernel_rfl) (by kernel_rfl) (by kernel_rfl) (fun _ _ _ h => h) (Or.inl ⟨by rfl, ?_⟩) (by assumption) ?_
            rotate_left
            · (intro w hSw; (try dsimp only at hSw); go_simp; first | done | with_reducible rfl)
            (try simp only [Act.put, List.setIfInBounds_toArray, List.set_cons_zero, List.set_cons_succ])
            refine wpAnyH_ready (rs := [5]) (by kernel_rfl) (by simp) ?_
            refine AllReadyH.cons (o := (Oper.mk (some 142) (Op.call (Call.mk (Callee.value (Operand.func 17)) #[Operand.tmp 141] #[25])) 3 "law.go:85" #[Edge.mk 4 Ground.data, Edge.mk 3 Ground.chain, Edge.mk 3 Ground.guard] (some (3, false)))) rfl (fun K hK => ?_) (AllReadyH.nil)
            go_simp
            (go_at_call 17; refine (state_any wx.drew HMD.out.at_).mono ?_; rintro e wq ⟨rfl, hw⟩; obtain rfl := hw.symm)
            refine hK.out _ _ (by (try dsimp only); first | exact ⟨by with_reducible assumption, by with_reducible assumption, by with_reducible assumption⟩ | go_keep) (fun hHeld => ?_)
            clear hK K
            (try simp only [Act.put, List.setIfInBounds_toArray, List.set_cons_zero, List.set_cons_succ])
            refine wpAnyH_take (i := 8) (oi := (Oper.mk (some 145) (Op.binOp BinOp.neq 3 (Operand.tmp 142) (Operand.tmp 144) 3) 4 "law.go:85" #[Edge.mk 5 Ground.data, Edge.mk 7 Ground.data, Edge.mk 3 Ground.guard] (some (3, false)))) (v := ?_) rfl (by kernel_rfl) (by kernel_rfl) (by kernel_rfl) (fun _ _ _ h => h) (Or.inl ⟨by rfl, ?_⟩) (by assumption) ?_
            rotate_left
            · (intro w hSw; (try dsimp only at hSw); go_simp; first | done | with_reducible rfl)
            (try simp only [Act.put, List.setIfInBounds_toArray, List.set_cons_zero, List.set_cons_succ])
            refine wpAnyH_take (i := 9) (oi := (Oper.mk (some 146) (Op.pick (Operand.tmp 140) (Operand.const (Value.bool true)) (Operand.tmp 145)) 4 "law.go:85" #[Edge.mk 3 Ground.data, Edge.mk 8 Ground.data] none)) (v := ?_) rfl (by kernel_rfl) (by kernel_rfl) (by kernel_rfl) (fun _ _ _ h => h) (Or.inl ⟨by rfl, ?_⟩) (by assumption) ?_
            rotate_left
            · (intro w hSw; (try dsimp only at hSw); go_simp; first | done | with_reducible rfl)
            (try simp only [Act.put, List.setIfInBounds_toArray, List.set_cons_zero, List.set_cons_succ])
            refine wpAnyH_take (i := 10) (oi := (Oper.mk (some 147) (Op.move (Operand.tmp 146)) 4 "law.go:85" #[Edge.mk 9 Ground.data, Edge.mk 5 Ground.chain] none)) (v := ?_) rfl (by kernel_rfl) (by kernel_rfl) (by kernel_rfl) (fun _ _ _ h => h) (Or.inl ⟨by rfl, ?_⟩) (by assumption) ?_
            rotate_left
            · (intro w hSw; (try dsimp only at hSw); go_simp; first | done | with_reducible rfl)
            (try simp only [Act.put, List.setIfInBounds_toArray, List.set_cons_zero, List.set_cons_succ])
            refine wpAnyH_take (i := 11) (oi := (Oper.mk (some 148) (Op.move (Operand.tmp 5)) 25 "law.go:85" #[Edge.mk 10 Ground.guard] (some (10, false)))) (v := ?_) rfl (by kernel_rfl) (by kernel_rfl) (by kernel_rfl) (fun _ _ _ h => h) (Or.inl ⟨by rfl, ?_⟩) (by assumption) ?_
            rotate_left
            · (intro w hSw; (try dsimp only at hSw); go_simp; first | done | with_reducible rfl)
            (try simp only [Act.put, List.setIfInBounds_toArray, List.set_cons_zero, List.set_cons_succ])
            refine wpAnyH_take (i := 13) (oi := (Oper.mk (some 150) (Op.fieldAddr 54 (Operand.tmp 6) 6) 0 "law.go:85" #[Edge.mk 10 Ground.guard] (some (10, false)))) (v := ?_) rfl (by kernel_rfl) (by kernel_rfl) (by kernel_rfl) (fun _ _ _ h => h) (Or.inl ⟨by rfl, ?_⟩) (by assumption) ?_
            rotate_left
            · (intro w hSw; (try dsimp only at hSw); go_simp; first | done | with_reducible rfl)
            (try simp only [Act.put, List.setIfInBounds_toArray, List.set_cons_zero, List.set_cons_succ])
            refine wpAnyH_take (i := 14) (oi := (Oper.mk (some 151) (Op.load 22 (Operand.tmp 150)) 22 "law.go:85" #[Edge.mk 13 Ground.data, Edge.mk 10 Ground.guard] (some (10, false)))) (v := ?_) rfl (by kernel_rfl) (by kernel_rfl) (by kernel_rfl) (fun _ _ _ h => h) (Or.inl ⟨by rfl, ?_⟩) (by assumption) ?_
            rotate_left
            · (intro w hSw; (try dsimp only at hSw); go_simp; first | done | with_reducible rfl)
            (try simp only [Act.put, List.setIfInBounds_toArray, List.set_cons_zero, List.set_cons_succ])
            refine wpAnyH_take (i := 15) (oi := (Oper.mk (some 152) (Op.call (Call.mk (Callee.builtin Builtin.len) #[Operand.tmp 151] #[22])) 3 "law.go:85" #[Edge.mk 14 Ground.data, Edge.mk 10 Ground.guard] (some (10, false)))) (v := ?_) rfl (by kernel_rfl) (by kernel_rfl) (by kernel_rfl) (fun _ _ _ h => h) (Or.inl ⟨by rfl, ?_⟩) (by assumption) ?_
            rotate_left
            · (intro w hSw; (try dsimp only at hSw); go_simp; first | done | with_reducible rfl)
            (try simp only [Act.put, List.setIfInBounds_toArray, List.set_cons_zero, List.set_cons_succ])
            refine wpAnyH_ready (rs := [12]) (by kernel_rfl) (by simp) ?_
            refine AllReadyH.cons (o := (Oper.mk (some 149) (Op.call (Call.mk (Callee.value (Operand.func 11)) #[Operand.tmp 148] #[25])) 3 "law.go:85" #[Edge.mk 11 Ground.data, Edge.mk 10 Ground.chain, Edge.mk 10 Ground.guard] (some (10, false)))) rfl (fun K hK => ?_) (AllReadyH.nil)
            go_simp
            (go_at_call 11; refine (queued_any wx.drew HMD.out.at_).mono ?_; rintro e wq ⟨rfl, hw⟩; obtain rfl := hw.symm)
            refine hK.out _ _ (by (try dsimp only); first | exact ⟨by with_reducible assumption, by with_reducible assumption, by with_reducible assumption⟩ | go_keep) (fun hHeld => ?_)
            clear hK K
            (try simp only [Act.put, List.setIfInBounds_toArray, List.set_cons_zero, List.set_cons_succ])
            refine wpAnyH_take (i := 16) (oi := (Oper.mk (some 153) (Op.binOp BinOp.neq 3 (Operand.tmp 149) (Operand.tmp 152) 3) 4 "law.go:85" #[Edge.mk 12 Ground.data, Edge.mk 15 Ground.data, Edge.mk 10 Ground.guard] (some (10, false)))) (v := ?_) rfl (by kernel_rfl) (by kernel_rfl) (by kernel_rfl) (fun _ _ _ h => h) (Or.inl ⟨by rfl, ?_⟩) (by assumption) ?_
            rotate_left
            · (intro w hSw; (try dsimp only at hSw); go_simp; first | done | with_reducible rfl)
            (try simp only [Act.put, List.setIfInBounds_toArray, List.set_cons_zero, List.set_cons_succ])
            refine wpAnyH_take (i := 17) (oi := (Oper.mk (some 154) (Op.pick (Operand.tmp 147) (Operand.const (Value.bool true)) (Operand.tmp 153)) 4 "law.go:85" #[Edge.mk 10 Ground.data, Edge.mk 16 Ground.data] none)) (v := ?_) rfl (by kernel_rfl) (by kernel_rfl) (by kernel_rfl) (fun _ _ _ h => h) (Or.inl ⟨by rfl, ?_⟩) (by assumption) ?_
            rotate_left
            · (intro w hSw; (try dsimp only at hSw); go_simp; first | done | with_reducible rfl)
            (try simp only [Act.put, List.setIfInBounds_toArray, List.set_cons_zero, List.set_cons_succ])
            refine wpAnyH_take (i := 18) (oi := (Oper.mk (some 155) (Op.move (Operand.tmp 154)) 4 "law.go:85" #[Edge.mk 17 Ground.data, Edge.mk 12 Ground.chain] none)) (v := ?_) rfl (by kernel_rfl) (by kernel_rfl) (by kernel_rfl) (fun _ _ _ h => h) (Or.inl ⟨by rfl, ?_⟩) (by assumption) ?_
            rotate_left
            · (intro w hSw; (try dsimp only at hSw); go_simp; first | done | with_reducible rfl)
            (try simp only [Act.put, List.setIfInBounds_toArray, List.set_cons_zero, List.set_cons_succ])
            refine wpAnyH_take (i := 19) (oi := (Oper.mk (some 156) (Op.move (Operand.tmp 5)) 25 "law.go:85" #[Edge.mk 18 Ground.guard] (some (18, false)))) (v := ?_) rfl (by kernel_rfl) (by kernel_rfl) (by kernel_rfl) (fun _ _ _ h => h) (Or.inl ⟨by rfl, ?_⟩) (by assumption) ?_
            rotate_left
            · (intro w hSw; (try dsimp only at hSw); go_simp; first | done | with_reducible rfl)
            (try simp only [Act.put, List.setIfInBounds_toArray, List.set_cons_zero, List.set_cons_succ])
            refine wpAnyH_take (i := 21) (oi := (Oper.mk (some 158) (Op.fieldAddr 54 (Operand.tmp 6) 7) 0 "law.go:85" #[Edge.mk 18 Ground.guard] (some (18, false)))) (v := ?_) rfl (by kernel_rfl) (by kernel_rfl) (by kernel_rfl) (fun _ _ _ h => h) (Or.inl ⟨by rfl, ?_⟩) (by assumption) ?_
            rotate_left
            · (intro w hSw; (try dsimp only at hSw); go_simp; first | done | with_reducible rfl)
            (try simp only [Act.put, List.setIfInBounds_toArray, List.set_cons_zero, List.set_cons_succ])
            refine wpAnyH_take (i := 22) (oi := (Oper.mk (some 159) (Op.load 3 (Operand.tmp 158)) 3 "law.go:85" #[Edge.mk 21 Ground.data, Edge.mk 18 Ground.guard] (some (18, false)))) (v := ?_) rfl (by kernel_rfl) (by kernel_rfl) (by kernel_rfl) (fun _ _ _ h => h) (Or.inl ⟨by rfl, ?_⟩) (by assumption) ?_
            rotate_left
            · (intro w hSw; (try dsimp only at hSw); go_simp; first | done | with_reducible rfl)
            (try simp only [Act.put, List.setIfInBounds_toArray, List.set_cons_zero, List.set_cons_succ])
            refine wpAnyH_ready (rs := [20]) (by kernel_rfl) (by simp) ?_
            refine AllReadyH.cons (o := (Oper.mk (some 157) (Op.call (Call.mk (Callee.value (Operand.func 16)) #[Operand.tmp 156] #[25])) 3 "law.go:85" #[Edge.mk 19 Ground.data, Edge.mk 18 Ground.chain, Edge.mk 18 Ground.guard] (some (18, false)))) rfl (fun K hK => ?_) (AllReadyH.nil)
            go_simp
            (go_at_call 16; refine (acked_any wx.drew HMD.out.at_).mono ?_; rintro e wq ⟨rfl, hw⟩; obtain rfl := hw.symm)
            refine hK.out _ _ (by (try dsimp only); first | exact ⟨by with_reducible assumption, by with_reducible assumption, by with_reducible assumption⟩ | go_keep) (fun hHeld => ?_)
            clear hK K
            (try simp only [Act.put, List.setIfInBounds_toArray, List.set_cons_zero, List.set_cons_succ])
            refine wpAnyH_take (i := 23) (oi := (Oper.mk (some 160) (Op.binOp BinOp.neq 3 (Operand.tmp 157) (Operand.tmp 159) 3) 4 "law.go:85" #[Edge.mk 20 Ground.data, Edge.mk 22 Ground.data, Edge.mk 18 Ground.guard] (some (18, false)))) (v := ?_) rfl (by kernel_rfl) (by kernel_rfl) (by kernel_rfl) (fun _ _ _ h => h) (Or.inl ⟨by rfl, ?_⟩) (by assumption) ?_
            rotate_left
            · (intro w hSw; (try dsimp only at hSw); go_simp; first | done | with_reducible rfl)
            (try simp only [Act.put, List.setIfInBounds_toArray, List.set_cons_zero, List.set_cons_succ])
            refine wpAnyH_take (i := 24) (oi := (Oper.mk (some 161) (Op.pick (Operand.tmp 155) (Operand.const (Value.bool true)) (Operand.tmp 160)) 4 "law.go:85" #[Edge.mk 18 Ground.data, Edge.mk 23 Ground.data] none)) (v := ?_) rfl (by kernel_rfl) (by kernel_rfl) (by kernel_rfl) (fun _ _ _ h => h) (Or.inl ⟨by rfl, ?_⟩) (by assumption) ?_
            rotate_left
            · (intro w hSw; (try dsimp only at hSw); go_simp; first | done | with_reducible rfl)
            (try simp only [Act.put, List.setIfInBounds_toArray, List.set_cons_zero, List.set_cons_succ])
            refine wpAnyH_done (by kernel_rfl) ?_ _
            go_wp2_with fail
            go_roundw
            case rel => exact ⟨i + 1, b', t2, p', vU', vC', _, _, by omega, by go_num, rfl, rfl, hak', HMD⟩
            case measure => simp [intOf]; omega
      · have e2 : ¬ (i : Int) < (n : Int) := by omega
        have HB9 : Hid (Below w.heap.size w wr) := Lib.hid HM.out.bel
        go_wp2_with fail
        refine (alive_any _).mono ?_
        rintro e w9 ⟨rfl, hB⟩
        have HB9 := Lib.hid (HB9.out.trans (hB.mono HB9.out.size))
        clear hB
        go_wp2_with fail
        go_ret
        exact ⟨rfl, HB9.out⟩


set_option maxRecDepth 100000 in
theorem lifted (os : Os) (started : os.Started) (H : Type) (enc : TypeId × Value → H) :
    ReturnsInHanded {} Try.checked os 6 .any (Rows.fopPlaysSpec.pre6 enc Try.prog Try.f6 Rows.fopPlaysRow.domain false) (Rows.fopPlaysSpec.post enc Try.prog Try.f6 false true false false) := by
  refine returnsInHanded_of_change (C := Try.checked) own started (by kernel_rfl) Try.func6
    (ChangeSpec.witness6 (enc := enc) (C := Try.checked) false ⟨#[], #[.agg #[.int .i64 0, .int .i64 0, .int .i64 0, .int .i64 0, .int .i64 0], .slice none 0 0], []⟩ 8 (by kernel_rfl) (by kernel_rfl) (by kernel_rfl) (by kernel_rfl)) ?_
  intro W base args ds gs before hval0 hW hcnd _
  have hval : ∀ (j : Nat) t v, Try.f6.params[j]? = some t → args[j]? = some v → Value.okWide Try.prog W .any base t v := hval0
  have hW' := hW
  obtain ⟨p, q, hA0, hV, rfl, hfz, hnd⟩ := hW
  have hA : DataW.TrodAll enc Try.prog W 0 (fun _ => true) true Try.f6.params.toList args.toList ds p := hA0
  rw [Try.params6] at hA hval
  obtain ⟨v0, vs0, d0, ds0, p0, q0, hargs, rfl, rfl, h0, r0⟩ := trodAll_cons hA
  obtain ⟨v1, vs1, d1, ds1, p1, q1, rfl, rfl, rfl, h1, r1⟩ := trodAll_cons r0
  obtain ⟨rfl, rfl, rfl⟩ := trodAll_nil r1
  obtain rfl : args = #[v0, v1] := by cases args; simp_all
  obtain ⟨rfl, rfl⟩ := trodVars_none hV
  have k0 := h0
  have lt0 : ∀ x ∈ p0, x.block < W.heap.size := by obtain ⟨m, hm⟩ := k0; exact DataW.trod_lt m _ _ _ hm
  have k1 := h1
  have lt1 : ∀ x ∈ p1, x.block < W.heap.size := by obtain ⟨m, hm⟩ := k1; exact DataW.trod_lt m _ _ _ hm
  clear hA0 hval0
  refine (walk v0 v1 W (hval 0 50 v0 rfl rfl) k0 (hval 1 51 v1 rfl rfl) k1).mono fun e W' ⟨he, bel⟩ => ?_
  subst he
  exact ⟨_, rfl, _, _, _, [], _, [], hW', trodAll_mk1 (shut_bool Try.underlying4 _), (trodAll_cons_mk (Below.trod laidOut (by kernel_rfl) (of_decide_eq_true (by kernel_rfl)) k0 bel lt0) (trodAll_cons_mk (Below.trod laidOut (by kernel_rfl) (of_decide_eq_true (by kernel_rfl)) k1 bel lt1) trodAll_mk0)), rfl, bel.frame _, fun h => by cases h⟩

theorem over : Rows.fopPlaysRow.holds Try.pinned (OpenSpec.ofChange Rows.fopPlaysSpec) :=
  OpenClaim.holds_of_wide 6 Try.f6 rfl rfl rfl rfl rfl rfl rfl ⟨rfl, rfl, rfl, rfl, rfl⟩ rfl rfl rfl rfl rfl (by kernel_rfl) Try.func6 (by kernel_rfl)
    (of_decide_eq_true (by kernel_rfl)) (by unfold Func.isWrapper; first | (rw [if_pos (by decide +kernel)]; kernel_rfl) | (rw [if_neg (by decide +kernel)]; exact ⟨rfl, rfl⟩))
    (fun os started H enc _ => lifted os started H enc)

theorem proved : Rows.FopPlaysSaid := over
#print axioms proved
end Go.Proofs.Ytjiejpklcjpibaa.fopPlays

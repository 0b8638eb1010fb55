/- The law PartsSplits holds: the walk, then the lift to the given statement. No condition. -/
import Derived.Test.YtdllngedmhihkaaT
import Derived.WalkKit
import Derived.ProofKit
import Derived.OpenShut
import Derived.Lib.Hide
import Derived.ChangeOld
import Derived.Below
import Derived.SizedLaws
namespace Go.Proofs.Ytdllngedmhihkaa.partsSplits
open Go.ChangeShapes Go.WideShapes Go.ChangeAt Go.RowKit
set_option linter.unusedVariables false
theorem own : ownKnob Try.prog.godebug = none := by kernel_rfl
theorem laidOut : laidOutB Try.prog = true := by kernel_rfl

theorem ok_of {ap ct most : Int} {n : Nat} (h : ¬ badB ap ct most n) : okB ap ct = true ∧ 0 < n ∧ ∃ m : Nat, most = (m : Int) ∧ 1 ≤ m ∧ m ≤ 4090 := by
  have h1 : okB ap ct = true := by
    cases e : okB ap ct
    · exact absurd (.inl e) h
    · rfl
  have h2 : ¬ most < 1 := fun e => h (.inr (.inl e))
  have h3 : ¬ 4090 < most := fun e => h (.inr (.inr (.inl e)))
  have h4 : n ≠ 0 := fun e => h (.inr (.inr (.inr e)))
  exact ⟨h1, by omega, most.toNat, by omega, by omega, by omega⟩
theorem split_len (p : PK) (l : List UInt8) (m : Nat) (h1 : l.length ≤ 4000) (h2 : 1 ≤ m) : (splitL p l m).length ≤ 8000 := by
  rw [splitL, List.length_map, List.length_range]
  have h3 : l.length + m - 1 ≤ m * 8000 := by
    have : m * 8000 = m * 4000 + m * 4000 := by omega
    omega
  exact Nat.div_le_of_le_mul h3
set_option maxRecDepth 20000 in
set_option maxHeartbeats 2000000 in
theorem walk {H : Type} {enc : TypeId × Value → H} (v0 v1 : Value) (a2 : Int) (w : World) {b0 : Nat} {d0 : DataW H} {p0 : List MemPlace} (ok0 : Value.okWide Try.prog w .any b0 24 v0) (tr0 : DataW.Trod enc Try.prog w 0 (fun _ => true) true 24 v0 d0 p0)
    {b1 : Nat} {d1 : DataW H} {p1 : List MemPlace} (ok1 : Value.okWide Try.prog w .any b1 22 v1) (tr1 : DataW.Trod enc Try.prog w 0 (fun _ => true) true 22 v1 d1 p1) (w2 : (Lit.int .i64 a2).wf = true) :
    Calls Try.prog 3 #[v0, v1, .int .i64 a2] w fun e w' => e = .returned (.bool true) ∧ Below w.heap.size w w' := by
  obtain ⟨p, pa, pc, rfl, -⟩ := arg_packet ok0 tr0
  obtain ⟨a, cap, l, rfl, hl, hm, hb⟩ := arg_bytes Try.underlying22 Try.underlying5 (by kernel_rfl) ok1 tr1
  clear ok0 tr0 ok1 tr1 w2
  unfold maxLen at hm
  have HB := Lib.hid hb
  clear hb
  by_cases hn : l.length ≤ 3000
  · have hn' : ¬ (3000 : Int) < l.length := by omega
    have hn3 : l.length ≤ 4000 := by omega
    by_cases hbad : badB p.ap p.ct a2 l.length
    · unfold PK.val Pk
      go_enter Try.func3, Try.ntmps3
      go_wp2_with fail
      refine (split_err p.cm p.sc p.ap p.fl p.ct pa _ pc a l.length cap a2 _ (by omega) hbad).mono ?_
      rintro e w1 ⟨rfl, hB1⟩
      have x0 := hB1.cell (p := ⟨w.heap.size, 0, none⟩) (by simp)
      have x1 := hB1.cell (p := ⟨w.heap.size, 1, none⟩) (by simp)
      have x2 := hB1.cell (p := ⟨w.heap.size, 2, none⟩) (by simp)
      have x3 := hB1.cell (p := ⟨w.heap.size, 3, none⟩) (by simp)
      have x4 := hB1.cell (p := ⟨w.heap.size, 4, none⟩) (by simp)
      have x5 := hB1.cell (p := ⟨w.heap.size, 5, none⟩) (by simp)
      simp [go_sem] at x0 x1 x2 x3 x4 x5
      have hs := hB1.size
      simp at hs
      have S1 := Lib.hid ((al (Below.refl _ _) _).trans (hB1.mono (by simp)))
      clear hB1
      go_wp2_with fail
      refine (rsplit_err p.cm p.sc p.ap p.fl p.ct pa _ pc a l.length cap a2 _ (by omega) hbad).mono ?_
      rintro e w2 ⟨rfl, hB2⟩
      have S2 := Lib.hid (below2 S1.out hB2)
      clear hB2 x0 x1 x2 x3 x4 x5
      go_wp2_with fail
      refine wp_loop_rounds 1 ?_
      rw [rounds_succ]
      go_wp2_with fail
      refine (alive_any _).mono ?_
      rintro e w3 ⟨rfl, hB3⟩
      go_wp2_with fail
      go_ret
      exact ⟨rfl, below2 S2.out hB3⟩
    · obtain ⟨hk, hl0, m, rfl, hm1, hm2⟩ := ok_of hbad
      have hne : l ≠ [] := List.length_pos_iff.1 hl0
      clear hbad
      have HNE := Lib.hid hne
      clear hne
      have HSL := Lib.hid (split_len p l m hn3 hm1)
      unfold PK.val Pk
      go_enter Try.func3, Try.ntmps3
      go_wp2_with fail
      refine (split_ok p pa pc a l cap m _ HNE.out hn3 hl (by unfold maxLen; omega) (HB.out.below (al (Below.refl _ _) _) (Nat.le_refl _)) hk hm1 hm2).mono ?_
      rintro e w1 ⟨v, rfl, hP, hB1⟩
      have x0 := hB1.cell (p := ⟨w.heap.size, 0, none⟩) (by simp)
      have x1 := hB1.cell (p := ⟨w.heap.size, 1, none⟩) (by simp)
      have x2 := hB1.cell (p := ⟨w.heap.size, 2, none⟩) (by simp)
      have x3 := hB1.cell (p := ⟨w.heap.size, 3, none⟩) (by simp)
      have x4 := hB1.cell (p := ⟨w.heap.size, 4, none⟩) (by simp)
      have x5 := hB1.cell (p := ⟨w.heap.size, 5, none⟩) (by simp)
      simp [go_sem] at x0 x1 x2 x3 x4 x5
      have hs := hB1.size
      simp at hs
      have S1 := Lib.hid ((al (Below.refl _ _) _).trans (hB1.mono (by simp)))
      have HP := Lib.hid hP
      obtain ⟨-, a1, c1, rfl, hc1, -⟩ := hP
      clear hB1
      go_wp2_with fail
      refine (rsplit_ok p pa pc a l cap m _ HNE.out hn3 hl (by unfold maxLen; omega) (HB.out.below S1.out (Nat.le_refl _)) hk hm1 hm2).mono ?_
      rintro e w2 ⟨v, rfl, hQ, hB2⟩
      have S2 := Lib.hid (below2 S1.out hB2)
      have HP2 := Lib.hid ((HP.out.same (Same.below hB2 (Nat.le_refl _))).mono hB2.size (Nat.le_refl _))
      have HQ2 := Lib.hid hQ
      obtain ⟨-, a3, c3, rfl, hc3, -⟩ := hQ
      clear hB2 x0 x1 x2 x3 x4 x5 HP
      obtain ⟨ps, hps⟩ : ∃ ps, ps = splitL p l m := ⟨_, rfl⟩
      rw [← hps] at HP2 HQ2 HSL hc1 hc3 ⊢
      clear hps
      have hpl := HSL.out
      go_wp2_with fail
      go_loopw [11] (fun i wr => ∃ k : Nat, k ≤ ps.length ∧ i = .int .i64 k ∧ Below w2.heap.size w2 wr) (fun i _ => ps.length - (intOf i).toNat)
      case atStart => exact ⟨0, by omega, rfl, Below.refl _ _⟩
      case round =>
        obtain ⟨k, hk2, rfl, hBr⟩ := hrel
        by_cases hlt : k < ps.length
        · have hP := HP2.out.same (Same.below hBr (Nat.le_refl _))
          have hQ := HQ2.out.same (Same.below hBr (Nat.le_refl _))
          obtain ⟨-, aa, ac, e1, -, hPc⟩ := hP
          obtain ⟨-, ba, bc, e2, -, hQc⟩ := hQ
          obtain ⟨g1, o1, rfl, hP1⟩ := hPc.resolve_left (by intro h; rw [h] at hlt; simp at hlt)
          obtain ⟨g2, o2, rfl, hQ1⟩ := hQc.resolve_left (by intro h; rw [h] at hlt; simp at hlt)
          obtain ⟨rfl, -, rfl⟩ := Value.slice.inj e1
          obtain ⟨rfl, -, rfl⟩ := Value.slice.inj e2
          obtain ⟨y1, t1, z1⟩ := (hP1 k hlt).pa
          obtain ⟨y2, t2, z2⟩ := (hQ1 k hlt).pa
          have Z1 := Lib.hid z1
          have Z2 := Lib.hid z2
          obtain ⟨q0, q1, q2, q3, q4, q5⟩ := z1.walk
          obtain ⟨u0, u1, u2, u3, u4, u5⟩ := z2.walk
          have hg1 := Nat.lt_of_lt_of_le z1.1 hBr.size
          have hg2 := Nat.lt_of_lt_of_le z2.1 hBr.size
          clear e1 e2 hP1 hQ1 hPc hQc z1 z2
          have hki : (0 : Int) ≤ (k : Int) := by omega
          have hki2 : (k : Int) < (ps.length : Int) := by omega
          generalize ps[k] = x at Z1 Z2 q0 q1 q2 q3 q4 q5 u0 u1 u2 u3 u4 u5
          go_wp2_with fail
          go_region_held3 (fun w' => (w'.cell? ⟨g1, o1 + k * 6, none⟩ = some (.bool x.cm) ∧ w'.cell? ⟨g1, o1 + k * 6 + 1, none⟩ = some (.bool x.sc) ∧ w'.cell? ⟨g1, o1 + k * 6 + 2, none⟩ = some (.int .i64 x.ap) ∧ w'.cell? ⟨g1, o1 + k * 6 + 3, none⟩ = some (.int .i64 x.fl) ∧ w'.cell? ⟨g1, o1 + k * 6 + 4, none⟩ = some (.int .i64 x.ct) ∧ w'.cell? ⟨g1, o1 + k * 6 + 5, none⟩ = some (.slice y1 x.dat.length t1)) ∧
            w'.cell? ⟨g2, o2 + k * 6, none⟩ = some (.bool x.cm) ∧ w'.cell? ⟨g2, o2 + k * 6 + 1, none⟩ = some (.bool x.sc) ∧ w'.cell? ⟨g2, o2 + k * 6 + 2, none⟩ = some (.int .i64 x.ap) ∧ w'.cell? ⟨g2, o2 + k * 6 + 3, none⟩ = some (.int .i64 x.fl) ∧ w'.cell? ⟨g2, o2 + k * 6 + 4, none⟩ = some (.int .i64 x.ct) ∧ w'.cell? ⟨g2, o2 + k * 6 + 5, none⟩ = some (.slice y2 x.dat.length t2)) (go_keep)
            ((go_at_call 12; refine (same_any x y1 y2 t1 t2 wr.drew Z1.out.2.2.1 Z2.out.2.2.1).mono ?_; rintro e w5 ⟨rfl, hB5⟩; have hB5 := undrew hB5; have k0 := (hB5.cell (p := ⟨g1, o1 + k * 6, none⟩) hg1).trans q0; have k1 := (hB5.cell (p := ⟨g1, o1 + k * 6 + 1, none⟩) hg1).trans q1; have k2 := (hB5.cell (p := ⟨g1, o1 + k * 6 + 2, none⟩) hg1).trans q2; have k3 := (hB5.cell (p := ⟨g1, o1 + k * 6 + 3, none⟩) hg1).trans q3; have k4 := (hB5.cell (p := ⟨g1, o1 + k * 6 + 4, none⟩) hg1).trans q4; have k5 := (hB5.cell (p := ⟨g1, o1 + k * 6 + 5, none⟩) hg1).trans q5; have l0 := (hB5.cell (p := ⟨g2, o2 + k * 6, none⟩) hg2).trans u0; have l1 := (hB5.cell (p := ⟨g2, o2 + k * 6 + 1, none⟩) hg2).trans u1; have l2 := (hB5.cell (p := ⟨g2, o2 + k * 6 + 2, none⟩) hg2).trans u2; have l3 := (hB5.cell (p := ⟨g2, o2 + k * 6 + 3, none⟩) hg2).trans u3; have l4 := (hB5.cell (p := ⟨g2, o2 + k * 6 + 4, none⟩) hg2).trans u4; have l5 := (hB5.cell (p := ⟨g2, o2 + k * 6 + 5, none⟩) hg2).trans u5))
          go_wp2_with fail
          go_roundw
          case rel => exact ⟨k + 1, by omega, by go_num, hBr.trans (hB5.mono hBr.size)⟩
          case measure => simp [intOf]; omega
        · have hlt' : ¬ (k : Int) < (ps.length : Int) := by omega
          go_wp2_with fail
          refine (alive_any _).mono ?_
          rintro e w3 ⟨rfl, hB3⟩
          go_wp2_with fail
          go_ret
          exact ⟨rfl, below2 (below2 S2.out hBr) hB3⟩
  · have hn' : (3000 : Int) < l.length := by omega
    unfold PK.val Pk
    go_enter Try.func3, Try.ntmps3
    go_wp2_with fail
    refine (alive_any _).mono ?_
    rintro e w2 ⟨rfl, hB2⟩
    go_wp2_with fail
    go_ret
    exact ⟨rfl, below2 (al (Below.refl _ _) _) hB2⟩


set_option maxRecDepth 100000 in
theorem lifted (os : Os) (started : os.Started) (H : Type) (enc : TypeId × Value → H) :
    ReturnsInHanded {} Try.checked os 3 .any (Rows.partsSplitsSpec.pre6 enc Try.prog Try.f3 Rows.partsSplitsRow.domain false) (Rows.partsSplitsSpec.post enc Try.prog Try.f3 false true false false) := by
  refine returnsInHanded_of_change (C := Try.checked) own started (by kernel_rfl) Try.func3
    (ChangeSpec.witness6 (enc := enc) (C := Try.checked) false ⟨#[], #[.agg #[.bool false, .bool false, .int .i64 0, .int .i64 0, .int .i64 0, .slice none 0 0], .slice none 0 0, .int .i64 0], []⟩ 8 (by kernel_rfl) (by kernel_rfl) (by kernel_rfl) (by kernel_rfl)) ?_
  intro W base args ds gs before hval0 hW hcnd _
  have hval : ∀ (j : Nat) t v, Try.f3.params[j]? = some t → args[j]? = some v → Value.okWide Try.prog W .any base t v := hval0
  have hW' := hW
  obtain ⟨p, q, hA0, hV, rfl, hfz, hnd⟩ := hW
  have hA : DataW.TrodAll enc Try.prog W 0 (fun _ => true) true Try.f3.params.toList args.toList ds p := hA0
  rw [Try.params3] at hA hval
  obtain ⟨v0, vs0, d0, ds0, p0, q0, hargs, rfl, rfl, h0, r0⟩ := trodAll_cons hA
  obtain ⟨v1, vs1, d1, ds1, p1, q1, rfl, rfl, rfl, h1, r1⟩ := trodAll_cons r0
  obtain ⟨v2, vs2, d2, ds2, p2, q2, rfl, rfl, rfl, h2, r2⟩ := trodAll_cons r1
  obtain ⟨rfl, rfl, rfl⟩ := trodAll_nil r2
  obtain rfl : args = #[v0, v1, v2] := by cases args; simp_all
  obtain ⟨rfl, rfl⟩ := trodVars_none hV
  have k0 := h0
  have lt0 : ∀ x ∈ p0, x.block < W.heap.size := by obtain ⟨m, hm⟩ := k0; exact DataW.trod_lt m _ _ _ hm
  have k1 := h1
  have lt1 : ∀ x ∈ p1, x.block < W.heap.size := by obtain ⟨m, hm⟩ := k1; exact DataW.trod_lt m _ _ _ hm
  obtain ⟨a2, rfl, rfl, rfl, w2⟩ := open_int Try.underlying3 (hval 2 3 v2 rfl rfl) h2
  clear hA0 hval0
  refine (walk v0 v1 a2 W (hval 0 24 v0 rfl rfl) k0 (hval 1 22 v1 rfl rfl) k1 w2).mono fun e W' ⟨he, bel⟩ => ?_
  subst he
  exact ⟨_, rfl, _, _, _, [], _, [], hW', trodAll_mk1 (shut_bool Try.underlying4 _), (trodAll_cons_mk (Below.trod laidOut (by kernel_rfl) (of_decide_eq_true (by kernel_rfl)) k0 bel lt0) (trodAll_cons_mk (Below.trod laidOut (by kernel_rfl) (of_decide_eq_true (by kernel_rfl)) k1 bel lt1) (trodAll_cons_mk (shut_int Try.underlying3 w2) trodAll_mk0))), rfl, bel.frame _, fun h => by cases h⟩

theorem over : Rows.partsSplitsRow.holds Try.pinned (OpenSpec.ofChange Rows.partsSplitsSpec) :=
  OpenClaim.holds_of_wide 3 Try.f3 rfl rfl rfl rfl rfl rfl rfl ⟨rfl, rfl, rfl, rfl, rfl⟩ rfl rfl rfl rfl rfl (by kernel_rfl) Try.func3 (by kernel_rfl)
    (of_decide_eq_true (by kernel_rfl)) (by unfold Func.isWrapper; first | (rw [if_pos (by decide +kernel)]; kernel_rfl) | (rw [if_neg (by decide +kernel)]; exact ⟨rfl, rfl⟩))
    (fun os started H enc _ => lifted os started H enc)

theorem proved : Rows.PartsSplitsSaid := over
#print axioms proved
end Go.Proofs.Ytdllngedmhihkaa.partsSplits

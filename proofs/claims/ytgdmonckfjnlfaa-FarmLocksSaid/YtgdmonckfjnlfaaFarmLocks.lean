/- The law FarmLocks holds: the walk, then the lift to the given statement. No condition. -/
import Derived.Test.YtgdmonckfjnlfaaI
import Derived.WalkKit
import Derived.ProofKit
import Derived.OpenShut
import Derived.Lib.Hide
import Derived.ChangeOld
import Derived.Below
import Derived.SizedLaws
namespace Go.Proofs.Ytgdmonckfjnlfaa.farmLocks
open Go.ChangeShapes Go.WideShapes Go.ChangeAt Go.RowKit
set_option linter.unusedVariables false
theorem own : ownKnob Try.prog.godebug = none := by kernel_rfl
theorem laidOut : laidOutB Try.prog = true := by kernel_rfl

set_option maxRecDepth 20000 in
set_option maxHeartbeats 4000000 in
theorem walk (a0 a1 : Int) (w : World) (w0 : (Lit.int .i64 a0).wf = true) (w1 : (Lit.int .i64 a1).wf = true) : Calls Try.prog 4 #[.int .i64 a0, .int .i64 a1] w fun e w' => e = .returned (.bool true) ∧ Below w.heap.size w w' := by
  obtain ⟨m0, em0, bm0⟩ := in256 a0
  obtain ⟨m1, em1, bm1⟩ := in256 a1
  have BM0 := Lib.hid bm0
  have BM1 := Lib.hid bm1
  clear bm0 bm1
  go_enter Try.func4, Try.ntmps4
  go_wp2_with fail
  refine (new_ok 7 1 4 _ (by decide)).mono ?_
  rintro e w1 ⟨rfl, hF, hB⟩
  have HF := Lib.hid (show FAt w1 w.heap.size al0 from hF)
  have HB1 := Lib.hid hB
  have hs1 := hB.size
  clear hF hB
  go_wp2_with fail
  refine (data_any 100 _).mono ?_
  rintro e w2 ⟨p2, c2, rfl, hd, hc, hp, hB⟩
  go_wp2_with fail
  refine (take_data HF.out ⟨by decide, by decide⟩ (Nat.le_refl _) hd hc hp hB hs1).mono ?_
  rw [lk_t0]
  rintro e w3 ⟨a3, c3, rfl, hF3, -, -, hB3, -⟩
  have HF3 := Lib.hid hF3
  have HB3 := Lib.hid (HB1.out.trans hB3)
  have hs3 := HB3.out.size
  clear hd hc hp hB hF3 hB3 HF HB1 hs1
  go_wp2_with fail
  refine (data_any m0 _).mono ?_
  rintro e w4 ⟨p2, c2, rfl, hd, hc, hp, hB⟩
  go_wp2_with fail
  refine (take_data HF3.out ⟨by decide, by decide⟩ (Nat.le_refl _) hd hc hp hB hs3).mono ?_
  rw [lk_t1 m0 BM0.out]
  rintro e w5 ⟨a5, c5, rfl, hF5, -, -, hB5, -⟩
  have HF5 := Lib.hid hF5
  have HB5 := Lib.hid (HB3.out.trans hB5)
  have hs5 := HB5.out.size
  clear hd hc hp hB hF5 hB5 HF3 HB3 hs3
  go_wp2_with fail
  refine (take_any w.heap.size ⟨7, 4, 1, true, false, false, 0, 0⟩ ctl0 true (some ⟨w5.heap.size, 0, none⟩) 1 _ (HF5.out.alloc _) ⟨by decide, by decide⟩ (lit1 w5 0 5 (0, 0)) (Nat.le_refl _) (fun p hp => by cases hp; exact Nat.ne_of_gt HF5.out.lt)).mono ?_
  rw [lk_t2]
  intro e w6 hq
  obtain ⟨a6, c6, rfl, hF6, -, hB6⟩ := hq.next (Nat.le_refl _) (by simp; omega)
  have HF6 := Lib.hid hF6
  have HB6 := Lib.hid ((al HB5.out _).trans hB6)
  have hs6 := HB6.out.size
  clear hq hF6 hB6 HF5 HB5 hs5
  go_wp2_with fail
  have k1 := f34_1
  have k4 := f34_4
  refine (report_any _ _ _ HF6.out (by decide)).mono ?_
  rintro e w7 ⟨rfl, hB⟩
  have HF7 := Lib.hid (HF6.out.below hB (Nat.le_refl _))
  have HB7 := Lib.hid (HB6.out.trans (hB.mono hs6))
  have hs7 := HB7.out.size
  clear hB HF6 HB6 hs6
  unfold FS.word
  go_wp2_with fail
  refine (report_any _ _ _ HF7.out (by decide)).mono ?_
  rintro e w8 ⟨rfl, hB⟩
  have HF8 := Lib.hid (HF7.out.below hB (Nat.le_refl _))
  have HB8 := Lib.hid (HB7.out.trans (hB.mono hs7))
  have hs8 := HB8.out.size
  clear hB HF7 HB7 hs7
  unfold FS.word
  go_wp2_with fail
  refine (data_any 0 _).mono ?_
  rintro e w9 ⟨p2, c2, rfl, hd, hc, hp, hB⟩
  go_wp2_with fail
  refine (take_data HF8.out ⟨by decide, by decide⟩ (Nat.le_refl _) hd hc hp hB hs8).mono ?_
  rw [lk_t3]
  rintro e w10 ⟨a10, c10, rfl, hF10, -, -, hB10, -⟩
  have HF10 := Lib.hid hF10
  have HB10 := Lib.hid (HB8.out.trans hB10)
  have hs10 := HB10.out.size
  clear hd hc hp hB hF10 hB10 HF8 HB8 hs8
  go_wp2_with fail
  refine (data_any m1 _).mono ?_
  rintro e w11 ⟨p2, c2, rfl, hd, hc, hp, hB⟩
  go_wp2_with fail
  refine (take_data HF10.out ⟨by decide, by decide⟩ (Nat.le_refl _) hd hc hp hB hs10).mono ?_
  have h4 := lk_t4 m1 BM1.out
  generalize takeF ⟨7, 4, 1, false, false, false, 1, 1⟩ (dataF m1) true = V at h4 ⊢
  obtain ⟨s9, l9, v9⟩ := V
  rintro e w12 ⟨a12, c12, rfl, -, -, -, hB12, -⟩
  have HB12 := Lib.hid (HB10.out.trans hB12)
  have hs12 := HB12.out.size
  simp only at h4 ⊢
  have h5 : ((m1 != 1) == (v9 != 1)) = true := by
    by_cases h : m1 = 1
    · rw [h, h4.2 h]; rfl
    · have h6 : v9 ≠ 1 := fun e => h (h4.1 e)
      rw [bne_iff_ne.2 h, bne_iff_ne.2 h6]; rfl
  clear hd hc hp hB hB12 HF10 HB10 hs10 h4
  go_wp2_with fail
  refine (alive_any _).mono ?_
  rintro e w13 ⟨rfl, hB⟩
  have HB13 := Lib.hid (HB12.out.trans (hB.mono hs12))
  clear hB
  go_wp2_with fail
  go_ret
  exact ⟨rfl, HB13.out⟩


set_option maxRecDepth 100000 in
theorem lifted (os : Os) (started : os.Started) (H : Type) (enc : TypeId × Value → H) :
    ReturnsInHanded {} Try.checked os 4 .any (Rows.farmLocksSpec.pre6 enc Try.prog Try.f4 Rows.farmLocksRow.domain false) (Rows.farmLocksSpec.post enc Try.prog Try.f4 false true false false) := by
  refine returnsInHanded_of_change (C := Try.checked) own started (by kernel_rfl) Try.func4
    (ChangeSpec.witness6 (enc := enc) (C := Try.checked) false ⟨#[], #[.int .i64 0, .int .i64 0], []⟩ 8 (by kernel_rfl) (by kernel_rfl) (by kernel_rfl) (by kernel_rfl)) ?_
  intro W base args ds gs before hval0 hW hcnd _
  have hval : ∀ (j : Nat) t v, Try.f4.params[j]? = some t → args[j]? = some v → Value.okWide Try.prog W .any base t v := hval0
  have hW' := hW
  obtain ⟨p, q, hA0, hV, rfl, hfz, hnd⟩ := hW
  have hA : DataW.TrodAll enc Try.prog W 0 (fun _ => true) true Try.f4.params.toList args.toList ds p := hA0
  rw [Try.params4] at hA hval
  obtain ⟨v0, vs0, d0, ds0, p0, q0, hargs, rfl, rfl, h0, r0⟩ := trodAll_cons hA
  obtain ⟨v1, vs1, d1, ds1, p1, q1, rfl, rfl, rfl, h1, r1⟩ := trodAll_cons r0
  obtain ⟨rfl, rfl, rfl⟩ := trodAll_nil r1
  obtain rfl : args = #[v0, v1] := by cases args; simp_all
  obtain ⟨rfl, rfl⟩ := trodVars_none hV
  obtain ⟨a0, rfl, rfl, rfl, w0⟩ := open_int Try.underlying3 (hval 0 3 v0 rfl rfl) h0
  obtain ⟨a1, rfl, rfl, rfl, w1⟩ := open_int Try.underlying3 (hval 1 3 v1 rfl rfl) h1
  clear hA0 hval0
  refine (walk a0 a1 W w0 w1).mono fun e W' ⟨he, bel⟩ => ?_
  subst he
  exact ⟨_, rfl, _, _, _, [], _, [], hW', trodAll_mk1 (shut_bool Try.underlying4 _), (trodAll_cons_mk (shut_int Try.underlying3 w0) (trodAll_cons_mk (shut_int Try.underlying3 w1) trodAll_mk0)), rfl, bel.frame _, fun h => by cases h⟩

theorem over : Rows.farmLocksRow.holds Try.pinned (OpenSpec.ofChange Rows.farmLocksSpec) :=
  OpenClaim.holds_of_wide 4 Try.f4 rfl rfl rfl rfl rfl rfl rfl ⟨rfl, rfl, rfl, rfl, rfl⟩ rfl rfl rfl rfl rfl (by kernel_rfl) Try.func4 (by kernel_rfl)
    (of_decide_eq_true (by kernel_rfl)) (by unfold Func.isWrapper; first | (rw [if_pos (by decide +kernel)]; kernel_rfl) | (rw [if_neg (by decide +kernel)]; exact ⟨rfl, rfl⟩))
    (fun os started H enc _ => lifted os started H enc)

theorem proved : Rows.FarmLocksSaid := over
#print axioms proved
end Go.Proofs.Ytgdmonckfjnlfaa.farmLocks

/- The law CalibCurves holds: the walk, then the lift to the given statement. No condition. -/
import Derived.Test.YtcgneldccbcidaaM
import Derived.WalkKit
import Derived.ProofKit
import Derived.OpenShut
import Derived.Lib.Hide
import Derived.ChangeOld
import Derived.Below
import Derived.SizedLaws
namespace Go.Proofs.Ytcgneldccbcidaa.calibCurves
open Go.ChangeShapes Go.WideShapes Go.ChangeAt Go.RowKit Go.Deep Calib50
set_option linter.unusedVariables false
theorem own : ownKnob Try.prog.godebug = none := by kernel_rfl
theorem laidOut : laidOutB Try.prog = true := by kernel_rfl

theorem tri {a b c d : World} (h1 : Below a.heap.size a b) (h2 : Below b.heap.size b c) : Below a.heap.size a c := h1.trans (h2.mono h1.size)
theorem walk {H : Type} {enc : TypeId × Value → H} (v0 : Value) (a1 a2 : Int) (w : World) {b0 : Nat} {d0 : DataW H} {p0 : List MemPlace} (ok0 : Value.okWide Try.prog w .any b0 28 v0) (tr0 : DataW.Trod enc Try.prog w 0 (fun _ => true) true 28 v0 d0 p0) (w1 : (Lit.int .i64 a1).wf = true) (w2 : (Lit.int .i64 a2).wf = true) :
    Calls Try.prog 4 #[v0, .int .i64 a1, .int .i64 a2] w fun e w' => e = .returned (.bool true) ∧ Below w.heap.size w w' := by
  obtain ⟨a, n, cap, X, Y, rfl, hl, hm, hI, hwf⟩ := arg_pts ok0 tr0
  have H0 := Lib.hid (hI.le hl)
  clear hI hwf ok0 tr0
  unfold maxLen at hm
  by_cases hn : n ≤ 300
  · have hn' : ¬ (300 : Int) < n := by omega
    go_enter Try.func4, Try.ntmps4
    go_wp2_with fail
    refine (Curve_any _ _ _ X Y a1 _ hl (by omega) H0.out).mono ?_
    rintro e x2 ⟨rfl, hB2⟩
    go_wp2_with fail
    refine (RCurve_any _ _ _ X Y a1 _ hl (by omega) (H0.out.below hB2 (Nat.le_refl _))).mono ?_
    rintro e x3 ⟨rfl, hB3⟩
    have S3 := hB2.trans (hB3.mono hB2.size)
    clear hB2 hB3
    go_wp2_with fail
    refine (Invert_any _ _ _ X Y a2 _ hl (by omega) (H0.out.below S3 (Nat.le_refl _))).mono ?_
    rintro e x4 ⟨rfl, hB4⟩
    have S4 := S3.trans (hB4.mono S3.size)
    clear hB4 S3
    go_wp2_with fail
    refine (RInvert_any _ _ _ X Y a2 _ hl (by omega) (H0.out.below S4 (Nat.le_refl _))).mono ?_
    rintro e x5 ⟨rfl, hB5⟩
    have S5 := S4.trans (hB5.mono S4.size)
    clear hB5 S4
    go_wp2_with fail
    refine (mono_any _ _ _ X Y _ (by omega) (H0.out.below S5 (Nat.le_refl _))).mono ?_
    rintro e x6 ⟨rfl, m6, rfl⟩
    have S6 := S5.trans (Joins.below_draws w.heap.size x5 m6)
    go_wp2_with fail
    refine (rmono_any _ _ _ X Y _ (by omega) (H0.out.below S6 (Nat.le_refl _))).mono ?_
    rintro e x7 ⟨rfl, m7, rfl⟩
    have S7 := S6.trans (Joins.below_draws w.heap.size (x5.drewN m6) m7)
    rw [World.drewN_drewN] at S7
    clear S6 S5
    go_wp2_with fail
    refine (alive_any _).mono ?_
    rintro e x8 ⟨rfl, hB8⟩
    go_wp2_with fail
    go_ret
    exact ⟨rfl, S7.trans (hB8.mono S7.size)⟩
  · have hn' : (300 : Int) < n := by omega
    go_enter Try.func4, Try.ntmps4
    go_wp2_with (go_at_call 9; refine (alive_any _).mono ?_; rintro e w2 ⟨rfl, hB2⟩)
    go_ret
    exact ⟨rfl, hB2⟩


set_option maxRecDepth 100000 in
theorem lifted (os : Os) (started : os.Started) (H : Type) (enc : TypeId × Value → H) :
    ReturnsInHanded {} Try.checked os 4 .any (Rows.calibCurvesSpec.pre6 enc Try.prog Try.f4 Rows.calibCurvesRow.domain false) (Rows.calibCurvesSpec.post enc Try.prog Try.f4 false true false false) := by
  refine returnsInHanded_of_change (C := Try.checked) own started (by kernel_rfl) Try.func4
    (ChangeSpec.witness6 (enc := enc) (C := Try.checked) false ⟨#[], #[.slice none 0 0, .int .i64 0, .int .i64 0], []⟩ 8 (by kernel_rfl) (by kernel_rfl) (by kernel_rfl) (by kernel_rfl)) ?_
  intro W base args ds gs before hval0 hW hcnd _
  have hval : ∀ (j : Nat) t v, Try.f4.params[j]? = some t → args[j]? = some v → Value.okWide Try.prog W .any base t v := hval0
  have hW' := hW
  obtain ⟨p, q, hA0, hV, rfl, hfz, hnd⟩ := hW
  have hA : DataW.TrodAll enc Try.prog W 0 (fun _ => true) true Try.f4.params.toList args.toList ds p := hA0
  rw [Try.params4] at hA hval
  obtain ⟨v0, vs0, d0, ds0, p0, q0, hargs, rfl, rfl, h0, r0⟩ := trodAll_cons hA
  obtain ⟨v1, vs1, d1, ds1, p1, q1, rfl, rfl, rfl, h1, r1⟩ := trodAll_cons r0
  obtain ⟨v2, vs2, d2, ds2, p2, q2, rfl, rfl, rfl, h2, r2⟩ := trodAll_cons r1
  obtain ⟨rfl, rfl, rfl⟩ := trodAll_nil r2
  obtain rfl : args = #[v0, v1, v2] := by cases args; simp_all
  obtain ⟨rfl, rfl⟩ := trodVars_none hV
  have k0 := h0
  have lt0 : ∀ x ∈ p0, x.block < W.heap.size := by obtain ⟨m, hm⟩ := k0; exact DataW.trod_lt m _ _ _ hm
  obtain ⟨a1, rfl, rfl, rfl, w1⟩ := open_int Try.underlying3 (hval 1 3 v1 rfl rfl) h1
  obtain ⟨a2, rfl, rfl, rfl, w2⟩ := open_int Try.underlying3 (hval 2 3 v2 rfl rfl) h2
  clear hA0 hval0
  refine (walk v0 a1 a2 W (hval 0 28 v0 rfl rfl) k0 w1 w2).mono fun e W' ⟨he, bel⟩ => ?_
  subst he
  exact ⟨_, rfl, _, _, _, [], _, [], hW', trodAll_mk1 (shut_bool Try.underlying4 _), (trodAll_cons_mk (Below.trod laidOut (by kernel_rfl) (of_decide_eq_true (by kernel_rfl)) k0 bel lt0) (trodAll_cons_mk (shut_int Try.underlying3 w1) (trodAll_cons_mk (shut_int Try.underlying3 w2) trodAll_mk0))), rfl, bel.frame _, fun h => by cases h⟩

theorem over : Rows.calibCurvesRow.holds Try.pinned (OpenSpec.ofChange Rows.calibCurvesSpec) :=
  OpenClaim.holds_of_wide 4 Try.f4 rfl rfl rfl rfl rfl rfl rfl ⟨rfl, rfl, rfl, rfl, rfl⟩ rfl rfl rfl rfl rfl (by kernel_rfl) Try.func4 (by kernel_rfl)
    (of_decide_eq_true (by kernel_rfl)) (by unfold Func.isWrapper; first | (rw [if_pos (by decide +kernel)]; kernel_rfl) | (rw [if_neg (by decide +kernel)]; exact ⟨rfl, rfl⟩))
    (fun os started H enc _ => lifted os started H enc)

theorem proved : Rows.CalibCurvesSaid := over
#print axioms proved
end Go.Proofs.Ytcgneldccbcidaa.calibCurves

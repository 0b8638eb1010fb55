/- The law ScrambleApplies holds: the walk, then the lift to the given statement. No condition. -/
import Derived.Test.YtbmdjhlanolhbaaE
import Derived.WalkKit
import Derived.ProofKit
import Derived.OpenShut
import Derived.Lib.Hide
import Derived.ChangeOld
import Derived.Below
import Derived.SizedLaws
import Derived.Deep.RegionWith
namespace Go.Proofs.Ytbmdjhlanolhbaa.scrambleApplies
open Go.ChangeShapes Go.WideShapes Go.ChangeAt Go.RowKit Go.Deep Go.Shelf Scr
set_option linter.unusedVariables false
theorem own : ownKnob Try.prog.godebug = none := by kernel_rfl
theorem laidOut : laidOutB Try.prog = true := by kernel_rfl

theorem undrew {w w1 : World} (h : Below w.drew.heap.size w.drew w1) : Below w.heap.size w w1 := ⟨h.os, h.tape, h.output, h.size, h.block⟩
theorem walk {H : Type} {enc : TypeId × Value → H} (v0 : Value) (w : World) {b0 : Nat} {d0 : DataW H} {p0 : List MemPlace} (ok0 : Value.okWide Try.prog w .any b0 23 v0) (tr0 : DataW.Trod enc Try.prog w 0 (fun _ => true) true 23 v0 d0 p0) :
    Calls Try.prog 4 #[v0] w fun e w' => e = .returned (.bool true) ∧ Below w.heap.size w w' := by
  obtain ⟨a, cap, l, rfl, hl, hm, hb⟩ := arg_bytes Try.underlying23 Try.underlying5 (by kernel_rfl) ok0 tr0
  have H := Lib.hid hb
  clear hb ok0 tr0
  unfold maxLen at hm
  by_cases hn : l.length ≤ 2000
  · have hn' : ¬ (2000 : Int) < l.length := by omega
    go_enter Try.func4, Try.ntmps4
    go_wp2_with fail
    go_region_with (first
      | (go_at_call 10; refine (Apply_any _ _ l _ (by omega) (by exact H.out)).mono ?_; intro e w1 h; obtain ⟨a1, cap1, rfl, hcap1, hb1, hB1⟩ := h.take; have hcv1 := hb1.str 23 9 5 cap1 Try.underlying23 Try.underlying5 Try.underlying9; have HB1 := Lib.hid hb1; clear h hb1)
      | (go_at_call 11; refine (RApply_any _ _ l _ (by omega) (H.out.below (undrew hB1) (Nat.le_refl _))).mono ?_; intro e w2 h; obtain ⟨a2, cap2, rfl, hcap2, hb2, hB2⟩ := h.take; have hcv2 := hb2.str 23 9 5 cap2 Try.underlying23 Try.underlying5 Try.underlying9; clear hcv1; have hcv1 := (HB1.out.below hB2 (Nat.le_refl _)).str 23 9 5 cap1 Try.underlying23 Try.underlying5 Try.underlying9; clear h hb2)
      | (go_at_call 7; refine (lives_any _).mono ?_; rintro e w9 ⟨rfl, hB9⟩))
    all_goals
      go_wp2_with fail
      go_ret
      exact ⟨rfl, below2 (below2 (undrew hB1) hB2) hB9⟩
  · have hn' : (2000 : Int) < l.length := by omega
    go_enter Try.func4, Try.ntmps4
    go_wp2_with (go_at_call 7; refine (lives_any _).mono ?_; rintro e w2 ⟨rfl, hB2⟩)
    go_ret
    exact ⟨rfl, hB2⟩


set_option maxRecDepth 100000 in
theorem lifted (os : Os) (started : os.Started) (H : Type) (enc : TypeId × Value → H) :
    ReturnsInHanded {} Try.checked os 4 .any (Rows.scrambleAppliesSpec.pre6 enc Try.prog Try.f4 Rows.scrambleAppliesRow.domain false) (Rows.scrambleAppliesSpec.post enc Try.prog Try.f4 false true false false) := by
  refine returnsInHanded_of_change (C := Try.checked) own started (by kernel_rfl) Try.func4
    (ChangeSpec.witness6 (enc := enc) (C := Try.checked) false ⟨#[], #[.slice none 0 0], []⟩ 8 (by kernel_rfl) (by kernel_rfl) (by kernel_rfl) (by kernel_rfl)) ?_
  intro W base args ds gs before hval0 hW hcnd _
  have hval : ∀ (j : Nat) t v, Try.f4.params[j]? = some t → args[j]? = some v → Value.okWide Try.prog W .any base t v := hval0
  have hW' := hW
  obtain ⟨p, q, hA0, hV, rfl, hfz, hnd⟩ := hW
  have hA : DataW.TrodAll enc Try.prog W 0 (fun _ => true) true Try.f4.params.toList args.toList ds p := hA0
  rw [Try.params4] at hA hval
  obtain ⟨v0, vs0, d0, ds0, p0, q0, hargs, rfl, rfl, h0, r0⟩ := trodAll_cons hA
  obtain ⟨rfl, rfl, rfl⟩ := trodAll_nil r0
  obtain rfl : args = #[v0] := by cases args; simp_all
  obtain ⟨rfl, rfl⟩ := trodVars_none hV
  have k0 := h0
  have lt0 : ∀ x ∈ p0, x.block < W.heap.size := by obtain ⟨m, hm⟩ := k0; exact DataW.trod_lt m _ _ _ hm
  clear hA0 hval0
  refine (walk v0 W (hval 0 23 v0 rfl rfl) k0).mono fun e W' ⟨he, bel⟩ => ?_
  subst he
  exact ⟨_, rfl, _, _, _, [], _, [], hW', trodAll_mk1 (shut_bool Try.underlying4 _), (trodAll_cons_mk (Below.trod laidOut (by kernel_rfl) (of_decide_eq_true (by kernel_rfl)) k0 bel lt0) trodAll_mk0), rfl, bel.frame _, fun h => by cases h⟩

theorem over : Rows.scrambleAppliesRow.holds Try.pinned (OpenSpec.ofChange Rows.scrambleAppliesSpec) :=
  OpenClaim.holds_of_wide 4 Try.f4 rfl rfl rfl rfl rfl rfl rfl ⟨rfl, rfl, rfl, rfl, rfl⟩ rfl rfl rfl rfl rfl (by kernel_rfl) Try.func4 (by kernel_rfl)
    (of_decide_eq_true (by kernel_rfl)) (by unfold Func.isWrapper; first | (rw [if_pos (by decide +kernel)]; kernel_rfl) | (rw [if_neg (by decide +kernel)]; exact ⟨rfl, rfl⟩))
    (fun os started H enc _ => lifted os started H enc)

theorem proved : Rows.ScrambleAppliesSaid := over
#print axioms proved
end Go.Proofs.Ytbmdjhlanolhbaa.scrambleApplies

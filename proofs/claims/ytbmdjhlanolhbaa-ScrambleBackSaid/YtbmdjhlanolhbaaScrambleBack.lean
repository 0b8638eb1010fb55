/- The law ScrambleBack holds: the walk, then the lift to the given statement. No condition. -/
import Derived.Test.YtbmdjhlanolhbaaE
import Derived.WalkKit
import Derived.ProofKit
import Derived.OpenShut
import Derived.Lib.Hide
import Derived.ChangeOld
import Derived.Below
import Derived.SizedLaws
import Derived.Deep.RegionWith
import Derived.Deep.DeepMust
import Derived.Deep.RegionHeld
namespace Go.Proofs.Ytbmdjhlanolhbaa.scrambleBack
open Go.ChangeShapes Go.WideShapes Go.ChangeAt Go.RowKit Go.Deep Go.Shelf Scr
set_option linter.unusedVariables false
theorem own : ownKnob Try.prog.godebug = none := by kernel_rfl
theorem laidOut : laidOutB Try.prog = true := by kernel_rfl

theorem undrew {w w1 : World} (h : Below w.drew.heap.size w.drew w1) : Below w.heap.size w w1 := ⟨h.os, h.tape, h.output, h.size, h.block⟩
theorem app_app (l : List UInt8) : appB (appB l) = l := by
  refine List.ext_getElem (by rw [appB_length, appB_length]) fun i h1 h2 => ?_
  have h3 : i < (appB l).length := by rw [appB_length]; exact h2
  have e1 : ∀ (m : List UInt8) (h : i < m.length) (h' : i < (appB m).length), (appB m)[i] = UInt8.ofNat (st i) ^^^ m[i] := by
    intro m h h'
    simp [appB, mix, h]
  rw [e1 (appB l) h3 h1, e1 l h2 h3, ← UInt8.xor_assoc, UInt8.xor_self, UInt8.zero_xor]
set_option maxHeartbeats 2000000 in
theorem walk {H : Type} {enc : TypeId × Value → H} (v0 : Value) (w : World) {b0 : Nat} {d0 : DataW H} {p0 : List MemPlace} (ok0 : Value.okWide Try.prog w .any b0 23 v0) (tr0 : DataW.Trod enc Try.prog w 0 (fun _ => true) true 23 v0 d0 p0) :
    Calls Try.prog 5 #[v0] w fun e w' => e = .returned (.bool true) ∧ Below w.heap.size w w' := by
  obtain ⟨a, cap, l, rfl, hl, hm, hb⟩ := arg_bytes Try.underlying23 Try.underlying5 (by kernel_rfl) ok0 tr0
  have H := Lib.hid hb
  clear hb ok0 tr0
  unfold maxLen at hm
  by_cases hn : l.length ≤ 20000
  · have hn' : ¬ (20000 : Int) < l.length := by omega
    have hla := Lib.hid (appB_length l)
    have hlb : (((appB l).length : Int) == (l.length : Int)) = true := by rw [hla.out]; simp
    have hlc : (appB l).length ≤ 20000 := by rw [hla.out]; omega
    go_enter Try.func5, Try.ntmps5
    go_wp2_with fail
    refine (Apply_any _ _ l _ (by omega) H.out).mono ?_
    intro e w1 h
    obtain ⟨a1, cap1, rfl, hcap1, hb1, hB1⟩ := h.take
    have HB1 := Lib.hid hb1
    clear h hb1
    go_wp2_with fail
    have hcv0 := (H.out.below hB1.drew (Nat.le_refl _)).str 23 9 5 cap Try.underlying23 Try.underlying5 Try.underlying9
    have HA := Lib.hid (app_app l)
    go_region_held (fun w' => Sem.run Try.prog (convert 23 9 (Value.slice a l.length cap)) w' = .ok (.string ⟨l.toArray⟩) w') (first | assumption) (first
      | (go_at_call 10; refine (Apply_any a1 cap1 (appB l) _ (by omega) (by exact HB1.out)).mono ?_; intro e w2 h; obtain ⟨a2, cap2, rfl, hcap2, hb2, hB2⟩ := h.take; rw [HA.out] at hb2 ⊢; have hcv2 := hb2.str 23 9 5 cap2 Try.underlying23 Try.underlying5 Try.underlying9; have hcv3 := (H.out.below (below2 hB1 (undrew hB2)) (Nat.le_refl _)).str 23 9 5 cap Try.underlying23 Try.underlying5 Try.underlying9; clear h hb2)
      | (go_at_call 7; refine (lives_any _).mono ?_; rintro e w9 ⟨rfl, hB9⟩; have hcv4 := (H.out.below (below2 (below2 hB1 (undrew hB2)) hB9) (Nat.le_refl _)).str 23 9 5 cap Try.underlying23 Try.underlying5 Try.underlying9))
    all_goals
      go_wp2_with fail
      go_ret
      exact ⟨rfl, below2 (below2 hB1 (undrew hB2)) hB9⟩
  · have hn' : (20000 : Int) < l.length := by omega
    go_enter Try.func5, Try.ntmps5
    go_wp2_with (go_at_call 7; refine (lives_any _).mono ?_; rintro e w2 ⟨rfl, hB2⟩)
    go_ret
    exact ⟨rfl, hB2⟩


set_option maxRecDepth 100000 in
theorem lifted (os : Os) (started : os.Started) (H : Type) (enc : TypeId × Value → H) :
    ReturnsInHanded {} Try.checked os 5 .any (Rows.scrambleBackSpec.pre6 enc Try.prog Try.f5 Rows.scrambleBackRow.domain false) (Rows.scrambleBackSpec.post enc Try.prog Try.f5 false true false false) := by
  refine returnsInHanded_of_change (C := Try.checked) own started (by kernel_rfl) Try.func5
    (ChangeSpec.witness6 (enc := enc) (C := Try.checked) false ⟨#[], #[.slice none 0 0], []⟩ 8 (by kernel_rfl) (by kernel_rfl) (by kernel_rfl) (by kernel_rfl)) ?_
  intro W base args ds gs before hval0 hW hcnd _
  have hval : ∀ (j : Nat) t v, Try.f5.params[j]? = some t → args[j]? = some v → Value.okWide Try.prog W .any base t v := hval0
  have hW' := hW
  obtain ⟨p, q, hA0, hV, rfl, hfz, hnd⟩ := hW
  have hA : DataW.TrodAll enc Try.prog W 0 (fun _ => true) true Try.f5.params.toList args.toList ds p := hA0
  rw [Try.params5] at hA hval
  obtain ⟨v0, vs0, d0, ds0, p0, q0, hargs, rfl, rfl, h0, r0⟩ := trodAll_cons hA
  obtain ⟨rfl, rfl, rfl⟩ := trodAll_nil r0
  obtain rfl : args = #[v0] := by cases args; simp_all
  obtain ⟨rfl, rfl⟩ := trodVars_none hV
  have k0 := h0
  have lt0 : ∀ x ∈ p0, x.block < W.heap.size := by obtain ⟨m, hm⟩ := k0; exact DataW.trod_lt m _ _ _ hm
  clear hA0 hval0
  refine (walk v0 W (hval 0 23 v0 rfl rfl) k0).mono fun e W' ⟨he, bel⟩ => ?_
  subst he
  exact ⟨_, rfl, _, _, _, [], _, [], hW', trodAll_mk1 (shut_bool Try.underlying4 _), (trodAll_cons_mk (Below.trod laidOut (by kernel_rfl) (of_decide_eq_true (by kernel_rfl)) k0 bel lt0) trodAll_mk0), rfl, bel.frame _, fun h => by cases h⟩

theorem over : Rows.scrambleBackRow.holds Try.pinned (OpenSpec.ofChange Rows.scrambleBackSpec) :=
  OpenClaim.holds_of_wide 5 Try.f5 rfl rfl rfl rfl rfl rfl rfl ⟨rfl, rfl, rfl, rfl, rfl⟩ rfl rfl rfl rfl rfl (by kernel_rfl) Try.func5 (by kernel_rfl)
    (of_decide_eq_true (by kernel_rfl)) (by unfold Func.isWrapper; first | (rw [if_pos (by decide +kernel)]; kernel_rfl) | (rw [if_neg (by decide +kernel)]; exact ⟨rfl, rfl⟩))
    (fun os started H enc _ => lifted os started H enc)

theorem proved : Rows.ScrambleBackSaid := over
#print axioms proved
end Go.Proofs.Ytbmdjhlanolhbaa.scrambleBack

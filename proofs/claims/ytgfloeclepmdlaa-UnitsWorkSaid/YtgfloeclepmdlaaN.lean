/- The chapter's example. No condition. -/
import Derived.Test.YtgfloeclepmdlaaM
namespace Go.Proofs.Ytgfloeclepmdlaa
open Go.RowKit Go.Deep Go.ChangeShapes Go.WideShapes Go.ChangeAt
set_option linter.unusedVariables false

def al0 : List U := [⟨0, 0, false, false⟩, ⟨5, 0, false, false⟩]
def al1 : List U := [⟨0, 0, false, false⟩, ⟨5, 0, true, false⟩]
def al2 : List U := [⟨0, 0, false, false⟩, ⟨5, 1, true, false⟩]
theorem ok05 : okD [0, 5] := by
  refine ⟨by decide, fun k hk => ?_⟩
  match k, hk with
  | 0, _ => simp [badK]
  | 1, _ => simp [badK]
theorem al_1 : failS al0 5 0 = (al1, 0) := by rfl
theorem al_2 : brokenS al1 = [5] := by rfl
theorem al_3 : switchS al1 5 1 = (al2, 0) := by rfl
theorem al_4 : brokenS al2 = [] := by rfl
theorem al_5 : sidesS al2 = [0, 1] := by rfl
theorem al_6 : switchS al2 5 0 = (al2, 16) := by rfl
theorem sok {us : List U} (h : us.all (fun u => u.side == 0 || u.side == 1) = true) : SideOk us := by
  intro u hu
  have := List.all_eq_true.1 h u hu
  simpa using this
theorem UQ.below {w w' : World} {b g cap hi : Nat} {r : List U × Int} {e : Ending} (h : UQ w b g cap r e w') (hg : hi ≤ g) (hh : hi ≤ w.heap.size) : e = .returned (.int .i64 r.2) ∧ UAt w' b g cap r.1 ∧ Below hi w w' :=
  ⟨h.1, h.2.1, h.2.2.toBelow hh (fun k hk => by subst hk; exact hg)⟩
set_option maxRecDepth 20000 in
set_option maxHeartbeats 4000000 in
theorem alive_any (w : World) : Calls Try.prog 13 #[] w fun e w' => e = .returned (.bool true) ∧ Below w.heap.size w w' := by
  go_enter Try.func13, Try.ntmps13
  go_wp2_with fail
  refine (new_any (ds := [0, 5]) 2 (def_lit w [0, 5] _ _ (by
    intro i hi
    match i, hi with
    | 0, _ => exact ⟨rfl, false, rfl⟩
    | 1, _ => exact ⟨rfl, false, rfl⟩)) (by decide)).mono ?_
  rintro e w1 h
  obtain ⟨-, b, g, cap, rfl, hU, hb, hg, hB⟩ := h.resolve_right (fun h => h.1 ok05)
  have HU := Lib.hid (show UAt w1 b g cap al0 from hU)
  have HB := Lib.hid ((al (Below.refl _ _) _).trans (hB.mono (by simp)))
  have hgw : w.heap.size ≤ g := by simp at hg; omega
  have hs := HB.out.size
  clear hU hB hg h
  go_wp2_with fail
  refine (fail_any 5 0 HU.out).mono ?_
  rw [al_1]
  intro e w2 h
  obtain ⟨rfl, hU, hB⟩ := h.below hgw hs
  have HU2 := Lib.hid hU
  have HB2 := Lib.hid (HB.out.trans hB)
  have hs2 := HB2.out.size
  clear h hU hB HU HB hs
  go_wp2_with fail
  refine (broken_any HU2.out (sok (by rfl))).mono ?_
  rw [al_2]
  intro e w3 h
  obtain ⟨a3, c3, rfl, hV, ha3, hB⟩ := h.list
  have HU3 := Lib.hid (HU2.out.below hB (Nat.le_refl _))
  have HB3 := Lib.hid (HB2.out.trans (hB.mono hs2))
  have HV3 := Lib.hid hV
  have hg3 : Hid (∀ p, a3 = some p → p.block ≠ g) := Lib.hid (fun p hp e => by have := ha3 p hp; have := HU2.out.row.lt; omega)
  have hs3 := HB3.out.size
  clear h hV ha3 hB HU2 HB2 hs2
  go_wp2_with fail
  refine (switch_any 5 1 HU3.out).mono ?_
  rw [al_3]
  rintro e w4 ⟨rfl, hU, hF⟩
  have hB := hF.toBelow (B := w.heap.size) hs3 (fun k hk => by subst hk; exact hgw)
  have HU4 := Lib.hid hU
  have HB4 := Lib.hid (HB3.out.trans hB)
  have HV4 := Lib.hid (HV3.out.fr hF (fun p hp => hg3.out p hp))
  have hs4 := HB4.out.size
  clear hU hB hF HU3 HB3 HV3 hs3 hg3
  go_wp2_with fail
  refine (ints_any (la := [5]) (lb := [5]) c3 1 (HV4.out.below (al (Below.refl _ _) _) (Nat.le_refl _)) (int_lit w4 [5] 3) (by decide)).mono ?_
  rintro e w5 ⟨rfl, hq⟩
  have HU5 := Lib.hid (HU4.out.below ((al (Below.refl _ w4) (.cells #[.int .i64 5] 3)).trans hq.below) (Nat.le_refl _))
  have HB5 := Lib.hid ((al HB4.out (.cells #[.int .i64 5] 3)).trans hq.below)
  have hs5 := HB5.out.size
  clear hq HU4 HB4 HV4 hs4
  go_wp2_with fail
  refine (broken_any HU5.out (sok (by rfl))).mono ?_
  rw [al_4]
  intro e w6 h
  obtain ⟨a6, c6, rfl, -, -, hB⟩ := h.list
  have HU6 := Lib.hid (HU5.out.below hB (Nat.le_refl _))
  have HB6 := Lib.hid (HB5.out.trans (hB.mono hs5))
  have hs6 := HB6.out.size
  clear h hB HU5 HB5 hs5
  go_wp2_with fail
  refine (sides_any HU6.out).mono ?_
  rw [al_5]
  intro e w7 h
  obtain ⟨a7, c7, rfl, hV, -, hB⟩ := h.list
  have HU7 := Lib.hid (HU6.out.below hB (Nat.le_refl _))
  have HB7 := Lib.hid (HB6.out.trans (hB.mono hs6))
  have HV7 := Lib.hid hV
  have hs7 := HB7.out.size
  clear h hB hV HU6 HB6 hs6
  go_wp2_with fail
  refine (ints_any (la := [0, 1]) (lb := [0, 1]) c7 2 (HV7.out.below (al (Below.refl _ _) _) (Nat.le_refl _)) (int_lit w7 [0, 1] 3) (by decide)).mono ?_
  rintro e w8 ⟨rfl, hq⟩
  have HU8 := Lib.hid (HU7.out.below ((al (Below.refl _ w7) (.cells #[.int .i64 0, .int .i64 1] 3)).trans hq.below) (Nat.le_refl _))
  have HB8 := Lib.hid ((al HB7.out (.cells #[.int .i64 0, .int .i64 1] 3)).trans hq.below)
  have hs8 := HB8.out.size
  clear hq HU7 HB7 HV7 hs7
  go_wp2_with fail
  refine (switch_any 5 0 HU8.out).mono ?_
  rw [al_6]
  intro e w9 h
  obtain ⟨rfl, hU, hB⟩ := h.below hgw hs8
  have HB9 := Lib.hid (HB8.out.trans hB)
  clear h hU hB
  go_wp2_with fail
  go_ret
  exact ⟨rfl, HB9.out⟩
end Go.Proofs.Ytgfloeclepmdlaa

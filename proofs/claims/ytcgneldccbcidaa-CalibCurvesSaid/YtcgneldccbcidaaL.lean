/- Contracts: the chapter's examples. No condition. -/
import Derived.Test.YtcgneldccbcidaaH
import Derived.Test.YtcgneldccbcidaaJ
namespace Go.Proofs.Ytcgneldccbcidaa
set_option linter.unusedVariables false
open Go.ChangeShapes Go.WideShapes Go.ChangeAt Go.RowKit Go.Deep Calib50

def X3 (i : Nat) : Int := 10 * i
def Y3 (i : Nat) : Int := if i = 0 then 0 else if i = 1 then 25 else 26
def C2 (i : Nat) : Int := if i = 0 then 500000 else -1500000

def Three (w : World) (e : Ending) (w' : World) : Prop :=
  ∃ b, e = .returned (.slice (some ⟨b, 0, none⟩) 3 3) ∧ Pts w' (some ⟨b, 0, none⟩) 3 X3 Y3 ∧ Below w.heap.size w w'

theorem three_any (w : World) : Calls Try.prog 18 #[] w (Three w) := by
  go_enter Try.func18, Try.ntmps18
  go_wp2_with fail
  go_ret
  refine ⟨w.heap.size, rfl, .inr ⟨_, _, rfl, by simp, fun i hi => ?_⟩, (Below.refl _ _).alloc (Nat.le_refl _) _⟩
  rw [Joins.cell_alloc_mark_at _ _ _ _ _ _ rfl, Joins.cell_alloc_mark_at _ _ _ _ _ _ rfl]
  match i, hi with
  | 0, _ => exact ⟨rfl, rfl⟩
  | 1, _ => exact ⟨rfl, rfl⟩
  | 2, _ => exact ⟨rfl, rfl⟩

theorem two_lit (w : World) (t : TypeId) : Ints (w.alloc (.cells #[.int .i64 500000, .int .i64 (-1500000)] t)) (some ⟨w.heap.size, 0, none⟩) 2 C2 := by
  refine .inr ⟨_, _, rfl, by simp, fun i hi => ?_⟩
  rw [Joins.cell_alloc_mark_at _ _ _ _ _ _ rfl]
  match i, hi with
  | 0, _ => rfl
  | 1, _ => rfl

theorem alive_any (w : World) : Calls Try.prog 9 #[] w fun e w' => e = .returned (.bool true) ∧ Below w.heap.size w w' := by
  have p1 : (poly C2 2 3).1 = -4 := by decide +kernel
  have p2 : (poly C2 2 3).2 = 0 := by decide +kernel
  have p3 : (poly C2 2 4).1 = -6 := by decide +kernel
  have p4 : (poly C2 2 4).2 = 0 := by decide +kernel
  have p5 : (crv X3 Y3 3 1).1 = 3 := by decide +kernel
  have p6 : (crv X3 Y3 3 1).2 = 0 := by decide +kernel
  have p7 : (crv X3 Y3 3 15).1 = 26 := by decide +kernel
  have p8 : (crv X3 Y3 3 15).2 = 0 := by decide +kernel
  have p9 : (inv X3 Y3 3 26).1 = 15 := by decide +kernel
  have p10 : (inv X3 Y3 3 26).2 = 0 := by decide +kernel
  have p11 : (inv X3 Y3 3 3).1 = 1 := by decide +kernel
  have p12 : (inv X3 Y3 3 3).2 = 0 := by decide +kernel
  have p13 : monoB X3 Y3 3 = true := by decide +kernel
  go_enter Try.func9, Try.ntmps9
  go_wp2_with fail
  refine (Poly_any _ _ _ C2 3 _ (by omega) (two_lit _ _)).mono ?_
  rintro e w1 ⟨rfl, hB1⟩
  go_wp2_with fail
  refine (Poly_any _ _ _ C2 4 _ (by omega) (two_lit _ _)).mono ?_
  rintro e w2 ⟨rfl, hB2⟩
  go_wp2_with fail
  have S2 : Below w.heap.size w w2 := by
    have a := ((Below.refl w.heap.size w).alloc (Nat.le_refl _) (.cells #[.int .i64 500000, .int .i64 (-1500000)] 3)).trans (hB1.mono (by simp))
    exact (a.alloc a.size _).trans (hB2.mono (by have := a.size; simp; omega))
  refine (three_any _).mono ?_
  rintro e w3 ⟨b3, rfl, hP3, hB3⟩
  have S3 := S2.trans (hB3.mono S2.size)
  clear hB3 S2
  go_wp2_with fail
  refine (Curve_any _ _ _ X3 Y3 1 _ (by omega) (by omega) hP3).mono ?_
  rintro e w4 ⟨rfl, hB4⟩
  have S4 := S3.trans (hB4.mono S3.size)
  clear hB4 S3 hP3
  go_wp2_with fail
  refine (three_any _).mono ?_
  rintro e w5 ⟨b5, rfl, hP5, hB5⟩
  have S5 := S4.trans (hB5.mono S4.size)
  clear hB5 S4
  go_wp2_with fail
  refine (Curve_any _ _ _ X3 Y3 15 _ (by omega) (by omega) hP5).mono ?_
  rintro e w6 ⟨rfl, hB6⟩
  have S6 := S5.trans (hB6.mono S5.size)
  clear hB6 S5 hP5
  go_wp2_with fail
  refine (three_any _).mono ?_
  rintro e w7 ⟨b7, rfl, hP7, hB7⟩
  have S7 := S6.trans (hB7.mono S6.size)
  clear hB7 S6
  go_wp2_with fail
  refine (Invert_any _ _ _ X3 Y3 26 _ (by omega) (by omega) hP7).mono ?_
  rintro e w8 ⟨rfl, hB8⟩
  have S8 := S7.trans (hB8.mono S7.size)
  clear hB8 S7 hP7
  go_wp2_with fail
  refine (three_any _).mono ?_
  rintro e w9 ⟨b9, rfl, hP9, hB9⟩
  have S9 := S8.trans (hB9.mono S8.size)
  clear hB9 S8
  go_wp2_with fail
  refine (Invert_any _ _ _ X3 Y3 3 _ (by omega) (by omega) hP9).mono ?_
  rintro e w10 ⟨rfl, hB10⟩
  have S10 := S9.trans (hB10.mono S9.size)
  clear hB10 S9 hP9
  go_wp2_with fail
  refine (three_any _).mono ?_
  rintro e w11 ⟨b11, rfl, hP11, hB11⟩
  have S11 := S10.trans (hB11.mono S10.size)
  clear hB11 S10
  go_wp2_with fail
  refine (mono_any _ _ _ X3 Y3 _ (by omega) hP11).mono ?_
  rintro e w12 ⟨rfl, m, rfl⟩
  go_wp2_with fail
  go_ret
  exact ⟨rfl, S11.trans (Joins.below_draws _ _ _)⟩
end Go.Proofs.Ytcgneldccbcidaa

/- Contracts of the serial numbers of eight bits. No condition. -/
import Derived.Test.YtllpbfejoahllaaC
namespace Go.Proofs.Ytllpbfejoahllaa
open Go.RowKit Go.Deep Go.ChangeShapes Go.WideShapes Go.ChangeAt
set_option linter.unusedVariables false

/-- a number of 8 bits -/
def cntB (c : Int) : Bool := decide (0 ≤ c) && decide (c < 256)
theorem Valid_any (c : Int) (w : World) : Calls Try.prog 28 #[.int .i64 c, .int .i64 8] w fun e w' => e = .returned (.bool (cntB c)) ∧ w' = w := by
  by_cases h : 0 ≤ c
  · go_enter Try.func28, Try.ntmps28
    go_wp2
    go_ret
    exact ⟨ret_bool (by simp [cntB, h]), rfl⟩
  · go_enter Try.func28, Try.ntmps28
    go_wp2
    go_ret
    exact ⟨ret_bool (by simp [cntB]; omega), rfl⟩
/-- (a + n) mod 256 where a is a number -/
def addC (a n : Int) : Int := if cntB a then (a + n) % 256 else 0
theorem sum_mod (a n : Int) : wrap64 ((IntKind.u64.wrap (a + IntKind.u64.wrap n)).tmod 256) = (a + n) % 256 := by
  rw [IntKind.wrap_u64, IntKind.wrap_u64]
  have h0 : 0 ≤ (a + n % 18446744073709551616) % 18446744073709551616 := by omega
  rw [Int.tmod_eq_emod_of_nonneg h0, IntWalk.wrap64_in _ ⟨by omega, by omega⟩]
  omega
theorem Add_any (a n : Int) (w : World) : Calls Try.prog 25 #[.int .i64 a, .int .i64 n, .int .i64 8] w fun e w' => e = .returned (.int .i64 (addC a n)) ∧ w' = w := by
  have hs := Lib.hid (sum_mod a n)
  cases h4 : cntB a
  · go_enter Try.func25, Try.ntmps25
    go_wp2_with (go_at_call 28; refine (Valid_any _ _).mono ?_; rintro e w' ⟨rfl, rfl⟩)
    go_ret
    exact ⟨ret_int (by simp [addC, h4]), rfl⟩
  · have h5 : 0 ≤ a ∧ a < 256 := by simpa [cntB] using h4
    obtain ⟨h6, h7⟩ := h5
    go_enter Try.func25, Try.ntmps25
    go_wp2_with (go_at_call 28; refine (Valid_any _ _).mono ?_; rintro e w' ⟨rfl, rfl⟩)
    go_ret
    exact ⟨ret_int (by simp only [addC, h4, if_true]; exact hs.out), rfl⟩
/-- (b - a) mod 256 where both are numbers -/
def distC (a b : Int) : Int := if cntB a && cntB b then (b - a) % 256 else 0
theorem Dist_any (a b : Int) (w : World) : Calls Try.prog 24 #[.int .i64 a, .int .i64 b, .int .i64 8] w fun e w' => e = .returned (.int .i64 (distC a b)) ∧ w' = w := by
  cases h4 : cntB a
  · go_enter Try.func24, Try.ntmps24
    go_wp2_with (go_at_call 28; refine (Valid_any _ _).mono ?_; rintro e w' ⟨rfl, rfl⟩)
    go_ret
    exact ⟨ret_int (by simp [distC, h4]), rfl⟩
  · have h5 : 0 ≤ a ∧ a < 256 := by simpa [cntB] using h4
    obtain ⟨h6, h7⟩ := h5
    cases h8 : cntB b
    · go_enter Try.func24, Try.ntmps24
      go_wp2_with (go_at_call 28; refine (Valid_any _ _).mono ?_; rintro e w' ⟨rfl, rfl⟩)
      go_ret
      exact ⟨ret_int (by simp [distC, h4, h8]), rfl⟩
    · go_enter Try.func24, Try.ntmps24
      go_wp2_with (first
        | (go_at_call 28; refine (Valid_any _ _).mono ?_; rintro e w' ⟨rfl, rfl⟩)
        | (go_at_call 25; refine (Add_any _ _ _).mono ?_; rintro e w' ⟨rfl, rfl⟩))
      go_ret
      exact ⟨ret_int (by simp [distC, addC, h4, h8]; congr 1), rfl⟩
theorem dist_bd (a b : Int) : 0 ≤ distC a b ∧ distC a b < 256 := by
  unfold distC
  split <;> omega
theorem add_bd (a n : Int) : 0 ≤ addC a n ∧ addC a n < 256 := by
  unfold addC
  split <;> omega
end Go.Proofs.Ytllpbfejoahllaa

/- Contracts of the small functions of layer 11: Valid, Add, counted, flags, header. No condition. -/
import Derived.Test.YtdllngedmhihkaaK
namespace Go.Proofs.Ytdllngedmhihkaa
open Go.RowKit Go.Deep Go.ChangeShapes Go.WideShapes Go.ChangeAt
set_option linter.unusedVariables false

/-- a count of 14 bits -/
def cntB (c : Int) : Bool := decide (0 ≤ c) && decide (c < 16384)
theorem Valid_any (c : Int) (w : World) : Calls Try.prog 25 #[.int .i64 c, .int .i64 14] w fun e w' => e = .returned (.bool (cntB c)) ∧ w' = w := by
  by_cases h : 0 ≤ c
  · go_enter Try.func25, Try.ntmps25
    go_wp2
    go_ret
    exact ⟨ret_bool (by simp [cntB, h]), rfl⟩
  · go_enter Try.func25, Try.ntmps25
    go_wp2
    go_ret
    exact ⟨ret_bool (by simp [cntB]; omega), rfl⟩
def okB (a c : Int) : Bool := decide (0 ≤ a) && decide (a ≤ 2046) && cntB c
theorem counted_any (a c : Int) (w : World) : Calls Try.prog 19 #[.int .i64 a, .int .i64 c] w fun e w' => e = .returned (.bool (okB a c)) ∧ w' = w := by
  by_cases h : 0 ≤ a <;> by_cases h2 : a ≤ 2046
  all_goals
    go_enter Try.func19, Try.ntmps19
    go_wp2_with (go_at_call 25; refine (Valid_any c _).mono ?_; rintro e w2 ⟨rfl, rfl⟩)
    go_ret
    exact ⟨ret_bool (by first | (simp [okB, h, h2]; done) | (simp [okB]; omega)), rfl⟩
/-- (a + n) mod 16384 where a is a count -/
def addC (a n : Int) : Int := if cntB a then (a + n) % 16384 else 0
theorem sum_mod (a n : Int) : wrap64 ((IntKind.u64.wrap (a + IntKind.u64.wrap n)).tmod 16384) = (a + n) % 16384 := by
  rw [IntKind.wrap_u64, IntKind.wrap_u64]
  have h0 : 0 ≤ (a + n % 18446744073709551616) % 18446744073709551616 := by omega
  rw [Int.tmod_eq_emod_of_nonneg h0, IntWalk.wrap64_in _ ⟨by omega, by omega⟩]
  omega
theorem Add_any (a n : Int) (w : World) : Calls Try.prog 21 #[.int .i64 a, .int .i64 n, .int .i64 14] w fun e w' => e = .returned (.int .i64 (addC a n)) ∧ w' = w := by
  have hs := Lib.hid (sum_mod a n)
  cases h4 : cntB a
  · go_enter Try.func21, Try.ntmps21
    go_wp2_with (go_at_call 25; refine (Valid_any _ _).mono ?_; rintro e w' ⟨rfl, rfl⟩)
    go_ret
    exact ⟨ret_int (by simp [addC, h4]), rfl⟩
  · have h5 : 0 ≤ a ∧ a < 16384 := by simpa [cntB] using h4
    obtain ⟨h6, h7⟩ := h5
    go_enter Try.func21, Try.ntmps21
    go_wp2_with (go_at_call 25; refine (Valid_any _ _).mono ?_; rintro e w' ⟨rfl, rfl⟩)
    go_ret
    exact ⟨ret_int (by simp only [addC, h4, if_true]; exact hs.out), rfl⟩
/-- the flags of piece i of n -/
def flagZ (i n : Int) : Int := if n = 1 then 3 else if i = 0 then 1 else if i = n - 1 then 2 else 0
theorem flags_any (i n : Int) (w : World) (hn : 0 ≤ n) (hn2 : n ≤ 1000000000) : Calls Try.prog 20 #[.int .i64 i, .int .i64 n] w fun e w' => e = .returned (.int .i64 (flagZ i n)) ∧ w' = w := by
  have e1 : IntKind.i64.wrap (n - 1) = n - 1 := IntWalk.i64_in _ (by omega)
  by_cases h1 : n = 1
  · go_enter Try.func20, Try.ntmps20
    go_wp2
    go_ret
    exact ⟨ret_int (by simp [flagZ, h1]), rfl⟩
  · by_cases h2 : i = 0
    · go_enter Try.func20, Try.ntmps20
      go_wp2
      go_ret
      exact ⟨ret_int (by simp [flagZ, h1, h2]), rfl⟩
    · by_cases h3 : i = n - 1
      · go_enter Try.func20, Try.ntmps20
        go_wp2
        go_ret
        exact ⟨ret_int (by rw [flagZ, if_neg h1, if_neg h2, if_pos h3]), rfl⟩
      · go_enter Try.func20, Try.ntmps20
        go_wp2
        go_ret
        exact ⟨ret_int (by rw [flagZ, if_neg h1, if_neg h2, if_neg h3]), rfl⟩
end Go.Proofs.Ytdllngedmhihkaa

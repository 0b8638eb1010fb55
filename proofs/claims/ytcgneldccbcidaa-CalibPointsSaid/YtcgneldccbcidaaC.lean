/- Contracts: the rounding divisions, the curve tests. No condition. -/
import Derived.Test.YtcgneldccbcidaaB
namespace Go.Proofs.Ytcgneldccbcidaa
open Go.ChangeShapes Go.WideShapes Go.ChangeAt Go.RowKit Go.Deep Calib50

theorem tq_bd (n d : Int) (hd : 1 ≤ d) : (0 ≤ n → 0 ≤ n.tdiv d ∧ n.tdiv d ≤ n ∧ 0 ≤ n.tmod d ∧ n.tmod d < d) ∧ (n ≤ 0 → n ≤ n.tdiv d ∧ n.tdiv d ≤ 0 ∧ -d < n.tmod d ∧ n.tmod d ≤ 0) := by
  have key : ∀ m : Int, 0 ≤ m → 0 ≤ m.tdiv d ∧ m.tdiv d ≤ m ∧ 0 ≤ m.tmod d ∧ m.tmod d < d := by
    intro m hm
    rw [Int.tmod_eq_emod_of_nonneg hm, Int.tdiv_eq_ediv_of_nonneg hm]
    exact ⟨Int.ediv_nonneg hm (by omega), Int.ediv_le_self _ hm, Int.emod_nonneg _ (by omega), Int.emod_lt_of_pos _ (by omega)⟩
  refine ⟨key n, fun h => ?_⟩
  have := key (-n) (by omega)
  rw [Int.neg_tdiv, Int.neg_tmod] at this
  omega


theorem divide_any (n d : Int) (w : World) (hd : 1 ≤ d) (hd2 : d ≤ 1073741824) (hn : -8000000000000000000 ≤ n ∧ n ≤ 8000000000000000000) :
    Calls Try.prog 22 #[.int .i64 n, .int .i64 d] w fun e w' => e = .returned (.int .i64 (divZ n d)) ∧ ∃ m, w' = w.drewN m := by
  have hb := tq_bd n d hd
  have hc := Lib.hid (divZ_code n d (by omega))
  have hr : n.tmod d < d ∧ -d < n.tmod d := by rcases Int.le_total 0 n with h | h <;> omega
  have hq : -8000000000000000000 ≤ n.tdiv d ∧ n.tdiv d ≤ 8000000000000000000 := by rcases Int.le_total 0 n with h | h <;> omega
  clear hb
  by_cases h1 : d - n.tmod d ≤ n.tmod d
  · go_enter Try.func22, Try.ntmps22
    go_wp2
    go_quiet (fail)
    go_wp2
    go_ret
    exact ⟨ret_int (by rw [hc.out, if_pos ⟨h1, by omega⟩]), _, rfl⟩
  · by_cases h3 : d + n.tmod d ≤ - n.tmod d
    · go_enter Try.func22, Try.ntmps22
      go_wp2
      go_quiet (fail)
      go_wp2
      go_ret
      exact ⟨ret_int (by rw [hc.out, if_neg (by omega), if_pos ⟨h3, by omega⟩]), _, rfl⟩
    · go_enter Try.func22, Try.ntmps22
      go_wp2
      go_quiet (fail)
      go_wp2
      go_ret
      exact ⟨ret_int (by rw [hc.out, if_neg (by omega), if_neg (by omega)]), _, rfl⟩

theorem rounded_pos (n d : Int) (w : World) (hd : 1 ≤ d) (hd2 : d ≤ 1073741824) (hn : 0 ≤ n ∧ n ≤ 8000000000000000000) :
    Calls Try.prog 24 #[.int .i64 n, .int .i64 d] w fun e w' => e = .returned (.int .i64 (divZ n d)) ∧ ∃ m, w' = w.drewN m := by
  have hc := Lib.hid (divZ_nonneg n d (by omega) hn.1)
  have hr : 0 ≤ n % d ∧ n % d < d := ⟨Int.emod_nonneg _ (by omega), Int.emod_lt_of_pos _ (by omega)⟩
  have hq : 0 ≤ n / d ∧ n / d ≤ n := ⟨Int.ediv_nonneg (by omega) (by omega), Int.ediv_le_self _ hn.1⟩
  by_cases h1 : d - n % d ≤ n % d
  · go_enter Try.func24, Try.ntmps24
    go_wp2_with fail
    go_quiet (fail)
    go_wp2_with fail
    go_ret
    exact ⟨ret_int (by rw [hc.out, if_pos h1]), _, rfl⟩
  · go_enter Try.func24, Try.ntmps24
    go_wp2_with fail
    go_quiet (fail)
    go_wp2_with fail
    go_ret
    exact ⟨ret_int (by rw [hc.out, if_neg (by omega)]), _, rfl⟩

theorem rounded_any (n d : Int) (w : World) (hd : 1 ≤ d) (hd2 : d ≤ 1073741824) (hn : -8000000000000000000 ≤ n ∧ n ≤ 8000000000000000000) :
    Calls Try.prog 24 #[.int .i64 n, .int .i64 d] w fun e w' => e = .returned (.int .i64 (divZ n d)) ∧ ∃ m, w' = w.drewN m := by
  by_cases h : 0 ≤ n
  · exact rounded_pos n d w hd hd2 ⟨h, hn.2⟩
  · have hc := Lib.hid (divZ_neg n d (by omega))
    have hb := divZ_bd (-n) d 8000000000000000000 (by omega) (by omega) (by omega)
    go_enter Try.func24, Try.ntmps24
    go_wp2_with (go_at_call 24; refine (rounded_pos _ _ _ hd hd2 (by omega)).mono ?_; rintro e w' ⟨rfl, m, rfl⟩)
    go_ret
    exact ⟨ret_int (by rw [hc.out]; omega), _, rfl⟩
end Go.Proofs.Ytcgneldccbcidaa

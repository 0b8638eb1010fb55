/- Helper texts for the laws of layer 4 (serial): plain facts on numbers modulo a power of two, and contracts of the functions. No condition. -/
import Derived.Test.YtpfkodmanangmaaRows
import Derived.WalkKit
import Derived.ProofKit
import Derived.OpenShut
import Derived.Lib.Hide
import Derived.BigQuiet
import Derived.Deep.QuietTactic
namespace Go.Proofs.Ytpfkodmanangmaa
open Go.ChangeShapes Go.WideShapes Go.ChangeAt Go.RowKit

/-- 2 to the bits -/
def pw (bits : Int) : Int := 2 ^ bits.toNat
def vldB (n bits : Int) : Bool := decide (1 ≤ bits ∧ bits ≤ 32 ∧ 0 ≤ n ∧ n < pw bits)
def addZ (a n bits : Int) : Int := if vldB a bits then (a + n) % pw bits else 0
def distZ (a b bits : Int) : Int := if vldB a bits && vldB b bits then (b - a) % pw bits else 0
def befB (a b bits : Int) : Bool := vldB a bits && vldB b bits && decide (1 ≤ distZ a b bits ∧ distZ a b bits < pw (bits - 1))
def withB (n first size bits : Int) : Bool := vldB n bits && vldB first bits && decide (0 ≤ size ∧ size ≤ pw bits ∧ distZ first n bits < size)

theorem pw_nat (bits : Int) : pw bits = ((2 ^ bits.toNat : Nat) : Int) := by unfold pw; simp

theorem pw_bd (bits : Int) (h1 : 1 ≤ bits) (h2 : bits ≤ 32) : 2 ≤ pw bits ∧ pw bits ≤ 4294967296 := by
  obtain ⟨k, rfl⟩ := Int.eq_ofNat_of_zero_le (show 0 ≤ bits by omega)
  rw [pw_nat]
  simp only [Int.toNat_natCast]
  have a : k ≤ 32 := by omega
  have b : 1 ≤ k := by omega
  have h := Nat.pow_le_pow_right (show 0 < 2 by omega) a
  have h' := Nat.pow_le_pow_right (show 0 < 2 by omega) b
  omega

theorem pw_half (bits : Int) (h1 : 1 ≤ bits) : pw bits = 2 * pw (bits - 1) ∧ 1 ≤ pw (bits - 1) := by
  obtain ⟨k, hk⟩ := Int.eq_ofNat_of_zero_le (show 0 ≤ bits - 1 by omega)
  obtain rfl : bits = k + 1 := by omega
  rw [pw_nat, pw_nat]
  have e1 : ((k : Int) + 1).toNat = k + 1 := by omega
  have e2 : ((k : Int) + 1 - 1).toNat = k := by omega
  rw [e1, e2, Nat.pow_succ]
  have := Nat.pow_pos (n := k) (show 0 < 2 by omega)
  omega

theorem pw_dvd (bits : Int) (h1 : 1 ≤ bits) (h2 : bits ≤ 32) : pw bits ∣ 18446744073709551616 := by
  rw [pw_nat]
  have h : (2 ^ bits.toNat : Nat) ∣ 2 ^ 64 := Nat.pow_dvd_pow 2 (by omega)
  exact Int.natCast_dvd_natCast.2 h

theorem wrap_pw (bits : Int) (h1 : 1 ≤ bits) (h2 : bits ≤ 32) : wrap64 (2 ^ bits.toNat) = pw bits := by
  have := pw_bd bits h1 h2
  show wrap64 (pw bits) = _
  exact IntWalk.wrap64_in _ ⟨by omega, by omega⟩

theorem wrapu_pw (bits : Int) (h1 : 1 ≤ bits) (h2 : bits ≤ 32) : IntKind.u64.wrap (2 ^ bits.toNat) = pw bits := by
  have := pw_bd bits h1 h2
  show IntKind.u64.wrap (pw bits) = _
  exact IntWalk.u64_in _ ⟨by omega, by omega⟩

theorem sum_mod (a n p : Int) (hp : 1 ≤ p) (hp' : p ≤ 4294967296) (hd : p ∣ 18446744073709551616) :
    wrap64 ((IntKind.u64.wrap (a + IntKind.u64.wrap n)).tmod p) = (a + n) % p := by
  rw [IntKind.wrap_u64, IntKind.wrap_u64]
  have h0 : 0 ≤ (a + n % 18446744073709551616) % 18446744073709551616 := by omega
  rw [Int.tmod_eq_emod_of_nonneg h0, Int.emod_emod_of_dvd _ hd]
  have e : (a + n % 18446744073709551616) % p = (a + n) % p := by
    rw [Int.add_emod, Int.emod_emod_of_dvd _ hd, ← Int.add_emod]
  rw [e]
  have := Int.emod_nonneg (a + n) (show p ≠ 0 by omega)
  have := Int.emod_lt_of_pos (a + n) (show 0 < p by omega)
  exact IntWalk.wrap64_in _ ⟨by omega, by omega⟩

theorem tmod_bd (n p : Int) (hp : 1 ≤ p) : - p < n.tmod p ∧ n.tmod p < p := by
  have h1 := Int.lt_tmod_of_pos n (show 0 < p by omega)
  have h2 := Int.tmod_lt_of_pos n (show 0 < p by omega)
  exact ⟨h1, h2⟩

theorem rmod_eq (n p : Int) : (n.tmod p + p) % p = n % p := by
  rw [Int.add_emod_right]
  have h3 : n.tmod p = n - p * n.tdiv p := by have := Int.mul_tdiv_add_tmod n p; omega
  rw [h3, Int.sub_mul_emod_self_left]

theorem ret_bool {a b : Bool} (h : a = b) : Ending.returned (.bool a) = .returned (.bool b) := by rw [h]
theorem ret_int {k : IntKind} {a b : Int} (h : a = b) : Ending.returned (.int k a) = .returned (.int k b) := by rw [h]

theorem vldB_true {n bits : Int} (h : vldB n bits = true) : 1 ≤ bits ∧ bits ≤ 32 ∧ 0 ≤ n ∧ n < pw bits := by simpa [vldB] using h

theorem valid_any (n bits : Int) (w : World) :
    Calls Try.prog 7 #[.int .i64 n, .int .i64 bits] w fun e w' => e = .returned (.bool (vldB n bits)) ∧ w = w' := by
  by_cases h1 : 1 ≤ bits
  · by_cases h2 : bits ≤ 32
    · by_cases h3 : 0 ≤ n
      · have hw := Lib.hid (wrap_pw bits h1 h2)
        go_enter Try.func7, Try.ntmps7
        go_wp2
        go_ret
        exact ⟨ret_bool (by rw [hw.out]; simp [vldB, h1, h2, h3]), rfl⟩
      · go_enter Try.func7, Try.ntmps7
        go_wp2
        go_ret
        exact ⟨ret_bool (by simp [vldB]; omega), rfl⟩
    · go_enter Try.func7, Try.ntmps7
      go_wp2
      go_ret
      exact ⟨ret_bool (by simp [vldB]; omega), rfl⟩
  · go_enter Try.func7, Try.ntmps7
    go_wp2
    go_ret
    exact ⟨ret_bool (by simp [vldB]; omega), rfl⟩

theorem rpower_any (bits : Int) (w : World) (h1 : 1 ≤ bits) (h2 : bits ≤ 32) :
    Calls Try.prog 18 #[.int .i64 bits] w fun e w' => e = .returned (.int .i64 (pw bits)) ∧ w = w' := by
  have hw := Lib.hid (wrap_pw bits h1 h2)
  go_enter Try.func18, Try.ntmps18
  go_wp2
  go_ret
  exact ⟨ret_int (by rw [hw.out]), rfl⟩

theorem rvalid_any (n bits : Int) (w : World) :
    Calls Try.prog 8 #[.int .i64 n, .int .i64 bits] w fun e w' => e = .returned (.bool (vldB n bits)) ∧ w = w' := by
  by_cases h1 : 1 ≤ bits
  · by_cases h2 : bits ≤ 32
    · by_cases h3 : 0 ≤ n
      · go_enter Try.func8, Try.ntmps8
        go_wp2_with (go_at_call 18; refine (rpower_any _ _ (by omega) (by omega)).mono ?_; rintro e w' ⟨rfl, rfl⟩)
        go_ret
        exact ⟨ret_bool (by simp [vldB, h1, h2, h3]), rfl⟩
      · go_enter Try.func8, Try.ntmps8
        go_wp2
        go_ret
        exact ⟨ret_bool (by simp [vldB]; omega), rfl⟩
    · go_enter Try.func8, Try.ntmps8
      go_wp2
      go_ret
      exact ⟨ret_bool (by simp [vldB]; omega), rfl⟩
  · go_enter Try.func8, Try.ntmps8
    go_wp2
    go_ret
    exact ⟨ret_bool (by simp [vldB]; omega), rfl⟩

theorem add_any (a n bits : Int) (w : World) :
    Calls Try.prog 9 #[.int .i64 a, .int .i64 n, .int .i64 bits] w fun e w' => e = .returned (.int .i64 (addZ a n bits)) ∧ w = w' := by
  cases h4 : vldB a bits
  · go_enter Try.func9, Try.ntmps9
    go_wp2_with (go_at_call 7; refine (valid_any _ _ _).mono ?_; rintro e w' ⟨rfl, rfl⟩)
    go_ret
    exact ⟨ret_int (by simp [addZ, h4]), rfl⟩
  · obtain ⟨h1, h2, h3, _⟩ := vldB_true h4
    obtain ⟨b1, b2⟩ := pw_bd bits h1 h2
    have hs := Lib.hid (sum_mod a n (pw bits) (by omega) b2 (pw_dvd bits h1 h2))
    have hu := wrapu_pw bits h1 h2
    go_enter Try.func9, Try.ntmps9
    go_wp2_with (go_at_call 7; refine (valid_any _ _ _).mono ?_; rintro e w' ⟨rfl, rfl⟩)
    go_ret
    exact ⟨ret_int (by rw [hs.out]; simp [addZ, h4]), rfl⟩

theorem rmod_any (n m : Int) (w : World) (h1 : 1 ≤ m) (h2 : m ≤ 4294967296) :
    Calls Try.prog 19 #[.int .i64 n, .int .i64 m] w fun e w' => e = .returned (.int .i64 (n % m)) ∧ w = w' := by
  have ⟨b1, b2⟩ := tmod_bd n m h1
  go_enter Try.func19, Try.ntmps19
  go_wp2
  go_ret
  exact ⟨ret_int (rmod_eq n m), rfl⟩

theorem mod_bd (n m : Int) (h : 1 ≤ m) : 0 ≤ n % m ∧ n % m < m := ⟨Int.emod_nonneg _ (by omega), Int.emod_lt_of_pos _ (by omega)⟩

theorem radd_any (a n bits : Int) (w : World) :
    Calls Try.prog 10 #[.int .i64 a, .int .i64 n, .int .i64 bits] w fun e w' => e = .returned (.int .i64 (addZ a n bits)) ∧ w = w' := by
  cases h4 : vldB a bits
  · go_enter Try.func10, Try.ntmps10
    go_wp2_with (go_at_call 8; refine (rvalid_any _ _ _).mono ?_; rintro e w' ⟨rfl, rfl⟩)
    go_ret
    exact ⟨ret_int (by simp [addZ, h4]), rfl⟩
  · obtain ⟨h1, h2, h3, h5⟩ := vldB_true h4
    obtain ⟨b1, b2⟩ := pw_bd bits h1 h2
    have ⟨b3, b4⟩ := mod_bd n (pw bits) (by omega)
    go_enter Try.func10, Try.ntmps10
    go_wp2_with (first | (go_at_call 8; refine (rvalid_any _ _ _).mono ?_; rintro e w' ⟨rfl, rfl⟩) | (go_at_call 18; refine (rpower_any _ _ h1 h2).mono ?_; rintro e w' ⟨rfl, rfl⟩) | (go_at_call 19; refine (rmod_any _ _ _ (by omega) (by omega)).mono ?_; rintro e w' ⟨rfl, rfl⟩))
    go_ret
    exact ⟨ret_int (by simp [addZ, h4]), rfl⟩

theorem neg_dist (a b bits : Int) (ha : vldB a bits = true) (hb : vldB b bits = true) : addZ b (-a) bits = distZ a b bits := by
  simp [addZ, distZ, ha, hb, Int.sub_eq_add_neg]

theorem dist_any (a b bits : Int) (w : World) :
    Calls Try.prog 12 #[.int .i64 a, .int .i64 b, .int .i64 bits] w fun e w' => e = .returned (.int .i64 (distZ a b bits)) ∧ w = w' := by
  cases ha : vldB a bits
  · go_enter Try.func12, Try.ntmps12
    go_wp2_with (go_at_call 7; refine (valid_any _ _ _).mono ?_; rintro e w' ⟨rfl, rfl⟩)
    go_ret
    exact ⟨ret_int (by simp [distZ, ha]), rfl⟩
  · cases hb : vldB b bits
    · go_enter Try.func12, Try.ntmps12
      go_wp2_with (go_at_call 7; refine (valid_any _ _ _).mono ?_; rintro e w' ⟨rfl, rfl⟩)
      go_ret
      exact ⟨ret_int (by simp [distZ, hb]), rfl⟩
    · obtain ⟨h1, h2, h3, h5⟩ := vldB_true ha
      obtain ⟨b1, b2⟩ := pw_bd bits h1 h2
      have hs := Lib.hid (neg_dist a b bits ha hb)
      go_enter Try.func12, Try.ntmps12
      go_wp2_with (first | (go_at_call 7; refine (valid_any _ _ _).mono ?_; rintro e w' ⟨rfl, rfl⟩) | (go_at_call 9; refine (add_any _ _ _ _).mono ?_; rintro e w' ⟨rfl, rfl⟩))
      go_ret
      exact ⟨ret_int (by rw [hs.out]), rfl⟩

theorem rdist_any (a b bits : Int) (w : World) :
    Calls Try.prog 13 #[.int .i64 a, .int .i64 b, .int .i64 bits] w fun e w' => e = .returned (.int .i64 (distZ a b bits)) ∧ w = w' := by
  cases ha : vldB a bits
  · go_enter Try.func13, Try.ntmps13
    go_wp2_with (go_at_call 8; refine (rvalid_any _ _ _).mono ?_; rintro e w' ⟨rfl, rfl⟩)
    go_ret
    exact ⟨ret_int (by simp [distZ, ha]), rfl⟩
  · cases hb : vldB b bits
    · go_enter Try.func13, Try.ntmps13
      go_wp2_with (go_at_call 8; refine (rvalid_any _ _ _).mono ?_; rintro e w' ⟨rfl, rfl⟩)
      go_ret
      exact ⟨ret_int (by simp [distZ, hb]), rfl⟩
    · obtain ⟨h1, h2, h3, h5⟩ := vldB_true ha
      obtain ⟨_, _, h6, h7⟩ := vldB_true hb
      obtain ⟨b1, b2⟩ := pw_bd bits h1 h2
      have hd := Lib.hid (show distZ a b bits = (b - a) % pw bits by simp [distZ, ha, hb])
      go_enter Try.func13, Try.ntmps13
      go_wp2_with (first | (go_at_call 8; refine (rvalid_any _ _ _).mono ?_; rintro e w' ⟨rfl, rfl⟩) | (go_at_call 18; refine (rpower_any _ _ h1 h2).mono ?_; rintro e w' ⟨rfl, rfl⟩) | (go_at_call 19; refine (rmod_any _ _ _ (by omega) (by omega)).mono ?_; rintro e w' ⟨rfl, rfl⟩))
      go_ret
      exact ⟨ret_int (by rw [hd.out]), rfl⟩

theorem dist_bd (a b bits : Int) : 0 ≤ distZ a b bits ∧ distZ a b bits < 4294967296 := by
  unfold distZ
  cases ha : vldB a bits
  · simp
  · obtain ⟨h1, h2, h3, h5⟩ := vldB_true ha
    obtain ⟨b1, b2⟩ := pw_bd bits h1 h2
    have := mod_bd (b - a) (pw bits) (by omega)
    cases vldB b bits
    · simp
    · simp; omega

theorem before_any (a b bits : Int) (w : World) :
    Calls Try.prog 14 #[.int .i64 a, .int .i64 b, .int .i64 bits] w fun e w' => e = .returned (.bool (befB a b bits)) ∧ w = w' := by
  cases ha : vldB a bits
  · go_enter Try.func14, Try.ntmps14
    go_wp2_with (go_at_call 7; refine (valid_any _ _ _).mono ?_; rintro e w' ⟨rfl, rfl⟩)
    go_ret
    exact ⟨ret_bool (by simp [befB, ha]), rfl⟩
  · cases hb : vldB b bits
    · go_enter Try.func14, Try.ntmps14
      go_wp2_with (go_at_call 7; refine (valid_any _ _ _).mono ?_; rintro e w' ⟨rfl, rfl⟩)
      go_ret
      exact ⟨ret_bool (by simp [befB, hb]), rfl⟩
    · obtain ⟨h1, h2, h3, h5⟩ := vldB_true ha
      obtain ⟨b1, b2⟩ := pw_bd bits h1 h2
      obtain ⟨b3, b4⟩ := pw_half bits h1
      have hw : wrap64 (2 ^ (bits.toNat - 1)) = pw (bits - 1) := by
        rw [show bits.toNat - 1 = (bits - 1).toNat by omega]
        show wrap64 (pw (bits - 1)) = _
        exact IntWalk.wrap64_in _ ⟨by omega, by omega⟩
      have b3' := Lib.hid b3
      clear b3
      have hd := dist_bd a b bits
      by_cases hc : 0 < distZ a b bits
      all_goals
        go_enter Try.func14, Try.ntmps14
        go_wp2_with (first | (go_at_call 7; refine (valid_any _ _ _).mono ?_; rintro e w' ⟨rfl, rfl⟩) | (go_at_call 12; refine (dist_any _ _ _ _).mono ?_; rintro e w' ⟨rfl, rfl⟩))
        go_ret
        exact ⟨ret_bool (by rw [befB, ha, hb, Bool.true_and, Bool.true_and]; first | exact decide_eq_decide.2 (by omega) | exact (decide_eq_false (by omega)).symm), rfl⟩

theorem rbefore_any (a b bits : Int) (w : World) :
    Calls Try.prog 15 #[.int .i64 a, .int .i64 b, .int .i64 bits] w fun e w' => e = .returned (.bool (befB a b bits)) ∧ w = w' := by
  have hd := dist_bd a b bits
  cases ha : vldB a bits
  · go_enter Try.func15, Try.ntmps15
    go_wp2_with (first | (go_at_call 8; refine (rvalid_any _ _ _).mono ?_; rintro e w' ⟨rfl, rfl⟩) | (go_at_call 13; refine (rdist_any _ _ _ _).mono ?_; rintro e w' ⟨rfl, rfl⟩))
    go_ret
    exact ⟨ret_bool (by simp [befB, ha]), rfl⟩
  · cases hb : vldB b bits
    · go_enter Try.func15, Try.ntmps15
      go_wp2_with (first | (go_at_call 8; refine (rvalid_any _ _ _).mono ?_; rintro e w' ⟨rfl, rfl⟩) | (go_at_call 13; refine (rdist_any _ _ _ _).mono ?_; rintro e w' ⟨rfl, rfl⟩))
      go_ret
      exact ⟨ret_bool (by simp [befB, hb]), rfl⟩
    · obtain ⟨h1, h2, h3, h5⟩ := vldB_true ha
      obtain ⟨b1, b2⟩ := pw_bd bits h1 h2
      obtain ⟨b3, b4⟩ := pw_half bits h1
      have b3' := Lib.hid b3
      clear b3
      by_cases hc : 1 ≤ distZ a b bits
      all_goals
        go_enter Try.func15, Try.ntmps15
        go_wp2_with (first | (go_at_call 8; refine (rvalid_any _ _ _).mono ?_; rintro e w' ⟨rfl, rfl⟩) | (go_at_call 13; refine (rdist_any _ _ _ _).mono ?_; rintro e w' ⟨rfl, rfl⟩) | (go_at_call 18; refine (rpower_any _ _ h1 h2).mono ?_; rintro e w' ⟨rfl, rfl⟩))
        go_ret
        have b3 := b3'.out
        exact ⟨ret_bool (by rw [befB, ha, hb, Bool.true_and, Bool.true_and]; first | exact decide_eq_decide.2 (by omega) | exact (decide_eq_false (by omega)).symm), rfl⟩

theorem within_any (n first size bits : Int) (w : World) :
    Calls Try.prog 16 #[.int .i64 n, .int .i64 first, .int .i64 size, .int .i64 bits] w fun e w' => e = .returned (.bool (withB n first size bits)) ∧ w = w' := by
  cases ha : vldB n bits
  · go_enter Try.func16, Try.ntmps16
    go_wp2_with (go_at_call 7; refine (valid_any _ _ _).mono ?_; rintro e w' ⟨rfl, rfl⟩)
    go_ret
    exact ⟨ret_bool (by simp [withB, ha]), rfl⟩
  · cases hb : vldB first bits
    · go_enter Try.func16, Try.ntmps16
      go_wp2_with (go_at_call 7; refine (valid_any _ _ _).mono ?_; rintro e w' ⟨rfl, rfl⟩)
      go_ret
      exact ⟨ret_bool (by simp [withB, hb]), rfl⟩
    · obtain ⟨h1, h2, h3, h5⟩ := vldB_true ha
      have hw := wrap_pw bits h1 h2
      by_cases hc : 0 ≤ size
      · by_cases hd : size ≤ pw bits
        all_goals
          go_enter Try.func16, Try.ntmps16
          go_wp2_with (first | (go_at_call 7; refine (valid_any _ _ _).mono ?_; rintro e w' ⟨rfl, rfl⟩) | (go_at_call 12; refine (dist_any _ _ _ _).mono ?_; rintro e w' ⟨rfl, rfl⟩))
          go_ret
          exact ⟨ret_bool (by rw [withB, ha, hb, Bool.true_and, Bool.true_and]; first | exact decide_eq_decide.2 (by omega) | exact (decide_eq_false (by omega)).symm), rfl⟩
      · go_enter Try.func16, Try.ntmps16
        go_wp2_with (first | (go_at_call 7; refine (valid_any _ _ _).mono ?_; rintro e w' ⟨rfl, rfl⟩) | (go_at_call 12; refine (dist_any _ _ _ _).mono ?_; rintro e w' ⟨rfl, rfl⟩))
        go_ret
        exact ⟨ret_bool (by rw [withB, ha, hb, Bool.true_and, Bool.true_and]; first | exact decide_eq_decide.2 (by omega) | exact (decide_eq_false (by omega)).symm), rfl⟩

theorem rwithin_any (n first size bits : Int) (w : World) :
    Calls Try.prog 17 #[.int .i64 n, .int .i64 first, .int .i64 size, .int .i64 bits] w fun e w' => e = .returned (.bool (withB n first size bits)) ∧ w = w' := by
  cases ha : vldB n bits
  · go_enter Try.func17, Try.ntmps17
    go_wp2_with (go_at_call 8; refine (rvalid_any _ _ _).mono ?_; rintro e w' ⟨rfl, rfl⟩)
    go_ret
    exact ⟨ret_bool (by simp [withB, ha]), rfl⟩
  · cases hb : vldB first bits
    · go_enter Try.func17, Try.ntmps17
      go_wp2_with (go_at_call 8; refine (rvalid_any _ _ _).mono ?_; rintro e w' ⟨rfl, rfl⟩)
      go_ret
      exact ⟨ret_bool (by simp [withB, hb]), rfl⟩
    · obtain ⟨h1, h2, h3, h5⟩ := vldB_true ha
      by_cases hc : 0 ≤ size
      · by_cases hd : size ≤ pw bits
        all_goals
          go_enter Try.func17, Try.ntmps17
          go_wp2_with (first | (go_at_call 8; refine (rvalid_any _ _ _).mono ?_; rintro e w' ⟨rfl, rfl⟩) | (go_at_call 13; refine (rdist_any _ _ _ _).mono ?_; rintro e w' ⟨rfl, rfl⟩) | (go_at_call 18; refine (rpower_any _ _ h1 h2).mono ?_; rintro e w' ⟨rfl, rfl⟩))
          go_ret
          exact ⟨ret_bool (by rw [withB, ha, hb, Bool.true_and, Bool.true_and]; first | exact decide_eq_decide.2 (by omega) | exact (decide_eq_false (by omega)).symm), rfl⟩
      · go_enter Try.func17, Try.ntmps17
        go_wp2_with (go_at_call 8; refine (rvalid_any _ _ _).mono ?_; rintro e w' ⟨rfl, rfl⟩)
        go_ret
        exact ⟨ret_bool (by rw [withB, ha, hb, Bool.true_and, Bool.true_and]; exact (decide_eq_false (by omega)).symm), rfl⟩

theorem alive_any (w : World) : Calls Try.prog 11 #[] w fun e w' => e = .returned (.bool true) ∧ w = w' := by
  have e1 : addZ 250 10 8 = 4 := by decide
  have e2 : addZ 3 (-5) 8 = 254 := by decide
  have e3 : distZ 250 4 8 = 10 := by decide
  have e4 : befB 250 4 8 = true := by decide
  have e5 : befB 4 250 8 = false := by decide
  have e6 : withB 2 254 5 8 = true := by decide
  have e7 : withB 3 254 5 8 = false := by decide
  go_enter Try.func11, Try.ntmps11
  go_wp2_with (first | (go_at_call 9; refine (add_any _ _ _ _).mono ?_; rintro e w' ⟨rfl, rfl⟩) | (go_at_call 12; refine (dist_any _ _ _ _).mono ?_; rintro e w' ⟨rfl, rfl⟩) | (go_at_call 14; refine (before_any _ _ _ _).mono ?_; rintro e w' ⟨rfl, rfl⟩) | (go_at_call 16; refine (within_any _ _ _ _ _).mono ?_; rintro e w' ⟨rfl, rfl⟩))
  go_ret
  exact ⟨rfl, rfl⟩
end Go.Proofs.Ytpfkodmanangmaa

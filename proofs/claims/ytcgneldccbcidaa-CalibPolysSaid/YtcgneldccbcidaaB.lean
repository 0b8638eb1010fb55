/- Contracts of calib's functions that only read. No condition. -/
import Derived.Test.YtcgneldccbcidaaK
import Derived.Test.YtcgneldccbcidaaA
namespace Go.Proofs.Ytcgneldccbcidaa
open Go.ChangeShapes Go.WideShapes Go.ChangeAt Go.RowKit Go.Deep Calib50

/-- the points of a slice, by their two numbers -/
def Pts (w : World) (a : Option Addr) (n : Nat) (X Y : Nat → Int) : Prop :=
  n = 0 ∨ ∃ b off, a = some ⟨b, off, none⟩ ∧ b < w.heap.size ∧ ∀ i, i < n → w.cell? ⟨b, off + i * 2, none⟩ = some (.int .i64 (X i)) ∧ w.cell? ⟨b, off + i * 2 + 1, none⟩ = some (.int .i64 (Y i))

theorem within_any (n m : Int) (w : World) (hm : -9223372036854775807 ≤ m ∧ m ≤ 9223372036854775807) :
    Calls Try.prog 19 #[.int .i64 n, .int .i64 m] w fun e w' => e = .returned (.bool (withinB n m)) ∧ w = w' := by
  by_cases h : -m ≤ n
  all_goals
    go_enter Try.func19, Try.ntmps19
    go_wp2
    go_ret
    exact ⟨ret_bool (by unfold withinB; simp; try omega), rfl⟩

theorem rwithin_any (n m : Int) (w : World) (hm : -9223372036854775807 ≤ m ∧ m ≤ 9223372036854775807) :
    Calls Try.prog 23 #[.int .i64 n, .int .i64 m] w fun e w' => e = .returned (.bool (withinB n m)) ∧ w = w' := by
  by_cases h : -m ≤ n
  all_goals
    go_enter Try.func23, Try.ntmps23
    go_wp2
    go_ret
    exact ⟨ret_bool (by unfold withinB; simp; try omega), rfl⟩

theorem sums (k : Nat) (h : k ≤ 9223372036854775806) : IntKind.i64.wrap (k : Int) = k ∧ 0 ≤ (k : Int) + 1 ∧ ((k : Int) + 1).toNat = k + 1 ∧ IntKind.i64.wrap ((k : Int) + 1) = k + 1 :=
  ⟨IntWalk.i64_in _ (by omega), by omega, by omega, IntWalk.i64_in _ (by omega)⟩

theorem mono_step {X Y : Nat → Int} {k : Nat} (h : ∀ i, i < k + 1 → 0 < i → X (i - 1) < X i ∧ Y (i - 1) < Y i) (h1 : X k < X (k + 1)) (h2 : Y k < Y (k + 1)) : ∀ i, i < k + 1 + 1 → 0 < i → X (i - 1) < X i ∧ Y (i - 1) < Y i := by
  intro i hi h0
  rcases Nat.lt_or_ge i (k + 1) with a | a
  · exact h i a h0
  · obtain rfl : i = k + 1 := by omega
    exact ⟨h1, h2⟩

theorem mono_no {X Y : Nat → Int} {n k : Nat} (hk : k + 1 < n) (h : ¬ (X k < X (k + 1) ∧ Y k < Y (k + 1))) : monoB X Y n = false := by
  unfold monoB
  exact decide_eq_false (fun h' => h (h' (k + 1) hk (by omega)))

theorem mono_any (a : Option Addr) (n cap : Nat) (X Y : Nat → Int) (w : World) (hn : n ≤ 4611686018427387904) (hp : Pts w a n X Y) :
    Calls Try.prog 16 #[.slice a n cap] w fun e w' => e = .returned (.bool (monoB X Y n)) ∧ ∃ m, w' = w.drewN m := by
  have H := Lib.hid hp
  clear hp
  go_enter Try.func16, Try.ntmps16
  go_wp2
  go_loopw [3] (fun i wr => ∃ k : Nat, (k + 1 ≤ n ∨ k = 0) ∧ i = .int .i64 (k + 1) ∧ (∃ m, wr = w.drewN m) ∧ Hid (∀ i, i < k + 1 → 0 < i → X (i - 1) < X i ∧ Y (i - 1) < Y i)) (fun i _ => n - (intOf i).toNat)
  case atStart => exact ⟨0, .inr rfl, rfl, ⟨0, rfl⟩, Lib.hid (fun i hi h0 => by omega)⟩
  case round =>
    obtain ⟨k, hk, rfl, ⟨m, rfl⟩, hm⟩ := hrel
    by_cases hlt : k + 1 < n
    · obtain ⟨b, off, rfl, hb, hc⟩ := H.out.resolve_left (by omega)
      have ⟨hx1, hy1⟩ := hc (k + 1) hlt
      have ⟨hx0, hy0⟩ := hc k (by omega)
      clear hc
      have hkn : (k : Int) + 1 < (n : Int) := by omega
      have hkn0 : (k : Int) < (n : Int) := by omega
      by_cases h1 : X k < X (k + 1)
      · by_cases h2 : Y k < Y (k + 1)
        · go_wp2
          obtain ⟨q1, q2, q3, q4⟩ := sums k (by omega)
          go_quiet (fail)
          clear q1 q2 q3 q4
          go_wp2
          go_roundw
          case rel => exact ⟨k + 1, by omega, by go_num, ⟨_, rfl⟩, Lib.hid (mono_step hm.out h1 h2)⟩
          case measure => simp [intOf]; omega
        · go_wp2
          obtain ⟨q1, q2, q3, q4⟩ := sums k (by omega)
          go_quiet (fail)
          clear q1 q2 q3 q4
          go_wp2
          go_ret
          exact ⟨ret_bool (mono_no hlt (by omega)).symm, _, World.drewN_drewN _ _ _⟩
      · go_wp2
        obtain ⟨q1, q2, q3, q4⟩ := sums k (by omega)
        go_quiet (fail)
        clear q1 q2 q3 q4
        go_wp2
        go_ret
        exact ⟨ret_bool (mono_no hlt (by omega)).symm, _, World.drewN_drewN _ _ _⟩
    · go_wp2
      go_ret
      exact ⟨ret_bool (by unfold monoB; exact (decide_eq_true (fun i hi h0 => hm.out i (by omega) h0)).symm), m, rfl⟩
theorem rmono_any (a : Option Addr) (n cap : Nat) (X Y : Nat → Int) (w : World) (hn : n ≤ 4611686018427387904) (hp : Pts w a n X Y) :
    Calls Try.prog 17 #[.slice a n cap] w fun e w' => e = .returned (.bool (monoB X Y n)) ∧ ∃ m, w' = w.drewN m := by
  have H := Lib.hid hp
  clear hp
  go_enter Try.func17, Try.ntmps17
  go_wp2
  go_loopw [3] (fun i wr => ∃ k : Nat, (k + 1 ≤ n ∨ k = 0) ∧ i = .int .i64 (k + 1) ∧ (∃ m, wr = w.drewN m) ∧ Hid (∀ i, i < k + 1 → 0 < i → X (i - 1) < X i ∧ Y (i - 1) < Y i)) (fun i _ => n - (intOf i).toNat)
  case atStart => exact ⟨0, .inr rfl, rfl, ⟨0, rfl⟩, Lib.hid (fun i hi h0 => by omega)⟩
  case round =>
    obtain ⟨k, hk, rfl, ⟨m, rfl⟩, hm⟩ := hrel
    by_cases hlt : k + 1 < n
    · obtain ⟨b, off, rfl, hb, hc⟩ := H.out.resolve_left (by omega)
      have ⟨hx1, hy1⟩ := hc (k + 1) hlt
      have ⟨hx0, hy0⟩ := hc k (by omega)
      clear hc
      have hkn : (k : Int) + 1 < (n : Int) := by omega
      have hkn0 : (k : Int) < (n : Int) := by omega
      by_cases h1 : X k < X (k + 1)
      · by_cases h2 : Y k < Y (k + 1)
        · go_wp2
          obtain ⟨q1, q2, q3, q4⟩ := sums k (by omega)
          go_quiet (fail)
          clear q1 q2 q3 q4
          go_wp2
          go_roundw
          case rel => exact ⟨k + 1, by omega, by go_num, ⟨_, rfl⟩, Lib.hid (mono_step hm.out h1 h2)⟩
          case measure => simp [intOf]; omega
        · go_wp2
          obtain ⟨q1, q2, q3, q4⟩ := sums k (by omega)
          go_quiet (fail)
          clear q1 q2 q3 q4
          go_wp2
          go_ret
          exact ⟨ret_bool (mono_no hlt (by omega)).symm, _, World.drewN_drewN _ _ _⟩
      · go_wp2
        obtain ⟨q1, q2, q3, q4⟩ := sums k (by omega)
        go_quiet (fail)
        clear q1 q2 q3 q4
        go_wp2
        go_ret
        exact ⟨ret_bool (mono_no hlt (by omega)).symm, _, World.drewN_drewN _ _ _⟩
    · go_wp2
      go_ret
      exact ⟨ret_bool (by unfold monoB; exact (decide_eq_true (fun i hi h0 => hm.out i (by omega) h0)).symm), m, rfl⟩
end Go.Proofs.Ytcgneldccbcidaa

/- Contracts: the curve tests. No condition. -/
import Derived.Test.YtcgneldccbcidaaC
namespace Go.Proofs.Ytcgneldccbcidaa
open Go.ChangeShapes Go.WideShapes Go.ChangeAt Go.RowKit Go.Deep Calib50

theorem Pts.below {w w' : World} {a : Option Addr} {n : Nat} {X Y : Nat → Int} (h : Pts w a n X Y) {B : Nat} (hb : Below B w w') (hB : w.heap.size ≤ B) : Pts w' a n X Y := by
  rcases h with h | ⟨b, off, h1, h2, h3⟩
  · exact .inl h
  · refine .inr ⟨b, off, h1, Nat.lt_of_lt_of_le h2 hb.size, fun i hi => ?_⟩
    have := h3 i hi
    exact ⟨(hb.cell (p := ⟨b, _, none⟩) (Nat.lt_of_lt_of_le h2 hB)).trans this.1, (hb.cell (p := ⟨b, _, none⟩) (Nat.lt_of_lt_of_le h2 hB)).trans this.2⟩
theorem Pts.drewN {w : World} {a : Option Addr} {n m : Nat} {X Y : Nat → Int} (h : Pts w a n X Y) : Pts (w.drewN m) a n X Y :=
  h.below (Joins.below_draws w.heap.size w m) (Nat.le_refl _)

/-- the first k points are as a curve asks -/
def pre (X Y : Nat → Int) (k : Nat) : Prop := ∀ i, i < k → (-536870912 ≤ X i ∧ X i ≤ 536870912) ∧ (-2147483648 ≤ Y i ∧ Y i ≤ 2147483648) ∧ (0 < i → X (i - 1) < X i)
theorem pre_step {X Y : Nat → Int} {k : Nat} (h : pre X Y k) (h1 : withinB (X k) 536870912 = true) (h2 : withinB (Y k) 2147483648 = true) (h3 : 0 < k → X (k - 1) < X k) : pre X Y (k + 1) := by
  intro i hi
  rcases Nat.lt_or_ge i k with a | a
  · exact h i a
  · obtain rfl : i = k := by omega
    exact ⟨of_decide_eq_true h1, of_decide_eq_true h2, h3⟩
theorem ok_no {X Y : Nat → Int} {n k : Nat} (hk : k < n) (h : withinB (X k) 536870912 = false ∨ withinB (Y k) 2147483648 = false ∨ (0 < k ∧ ¬ X (k - 1) < X k)) : okB X Y n = false := by
  unfold okB
  refine decide_eq_false ?_
  rintro ⟨_, _, h'⟩
  have := h' k hk
  rcases h with h | h | h
  · exact absurd this.1 (of_decide_eq_false h)
  · exact absurd this.2.1 (of_decide_eq_false h)
  · exact h.2 (this.2.2 h.1)
theorem ok_yes {X Y : Nat → Int} {n : Nat} (h : pre X Y n) : okB X Y n = decide (2 ≤ n ∧ n ≤ 256) := by
  unfold okB
  rw [decide_eq_decide]
  exact ⟨fun ⟨a, b, _⟩ => ⟨a, b⟩, fun ⟨a, b⟩ => ⟨a, b, h⟩⟩

theorem curve_any (a : Option Addr) (n cap : Nat) (X Y : Nat → Int) (w : World) (hn : n ≤ 4611686018427387904) (hp : Pts w a n X Y) :
    Calls Try.prog 25 #[.slice a n cap] w fun e w' => e = .returned (.bool (okB X Y n)) ∧ Below w.heap.size w w' := by
  have H := Lib.hid hp
  clear hp
  go_enter Try.func25, Try.ntmps25
  go_wp2
  go_loopw [7] (fun i wr => ∃ k : Nat, k ≤ n ∧ i = .int .i64 k ∧ Below w.heap.size w wr ∧ pre X Y k) (fun i _ => n - (intOf i).toNat)
  case atStart => exact ⟨0, by omega, rfl, Below.refl _ _, fun i hi => by omega⟩
  case round =>
    obtain ⟨k, hk, rfl, hB, hm⟩ := hrel
    have hm := Lib.hid hm
    by_cases hlt : k < n
    · obtain ⟨b, off, rfl, hb, hc⟩ := (H.out.below hB (Nat.le_refl _)).resolve_left (by omega)
      have ⟨hx1, hy1⟩ := hc k hlt
      have hkn : (k : Int) < (n : Int) := by omega
      cases hw1 : withinB (X k) 536870912
      · clear hc
        go_wp2
        go_quiet ((go_at_call 19; exact Calls.quiet_of_same ((within_any _ _ _ (by omega)).mono fun _ _ h => ⟨h.1, h.2.symm⟩)))
        go_wp2
        go_ret
        exact ⟨ret_bool (ok_no (k := k) hlt (.inl hw1)).symm, (hB.alloc hB.size _).trans (Joins.below_draws _ _ _)⟩
      · cases hw2 : withinB (Y k) 2147483648
        · clear hc
          go_wp2
          go_quiet ((go_at_call 19; exact Calls.quiet_of_same ((within_any _ _ _ (by omega)).mono fun _ _ h => ⟨h.1, h.2.symm⟩)))
          go_wp2
          go_ret
          exact ⟨ret_bool (ok_no (k := k) hlt (.inr (.inl hw2))).symm, (hB.alloc hB.size _).trans (Joins.below_draws _ _ _)⟩
        · by_cases h0 : k = 0
          · subst h0
            simp only [Nat.zero_mul, Nat.add_zero] at hx1 hy1
            clear hc
            go_wp2
            go_quiet ((go_at_call 19; exact Calls.quiet_of_same ((within_any _ _ _ (by omega)).mono fun _ _ h => ⟨h.1, h.2.symm⟩)))
            go_wp2
            go_roundw
            case rel => exact ⟨1, by omega, rfl, (hB.alloc hB.size _).trans (Joins.below_draws _ _ _), pre_step hm.out hw1 hw2 (by omega)⟩
            case measure => simp [intOf]; omega
          · obtain ⟨j, rfl⟩ : ∃ j, k = j + 1 := ⟨k - 1, by omega⟩
            have ⟨hx0, hy0⟩ := hc j (by omega)
            clear hc h0
            by_cases h1 : X j < X (j + 1)
            · go_wp2
              obtain ⟨q1, q2, q3, q4⟩ := sums j (by omega)
              go_quiet ((go_at_call 19; exact Calls.quiet_of_same ((within_any _ _ _ (by omega)).mono fun _ _ h => ⟨h.1, h.2.symm⟩)))
              clear q1 q2 q3 q4
              go_wp2
              go_roundw
              case rel => exact ⟨j + 1 + 1, by omega, by go_num, (hB.alloc hB.size _).trans (Joins.below_draws _ _ _), pre_step hm.out hw1 hw2 (fun _ => h1)⟩
              case measure => simp [intOf]; omega
            · go_wp2
              obtain ⟨q1, q2, q3, q4⟩ := sums j (by omega)
              go_quiet ((go_at_call 19; exact Calls.quiet_of_same ((within_any _ _ _ (by omega)).mono fun _ _ h => ⟨h.1, h.2.symm⟩)))
              clear q1 q2 q3 q4
              go_wp2
              go_ret
              exact ⟨ret_bool (ok_no (k := j + 1) hlt (.inr (.inr ⟨by omega, Int.not_lt.mpr h1⟩))).symm, (hB.alloc hB.size _).trans (Joins.below_draws _ _ _)⟩
    · obtain rfl : k = n := by omega
      have he := Lib.hid (ok_yes hm.out)
      go_wp2
      all_goals
        go_ret
        exact ⟨ret_bool (by rw [he.out]; first | exact (decide_eq_false (by omega)).symm | exact decide_eq_decide.2 (by omega)), hB⟩
end Go.Proofs.Ytcgneldccbcidaa

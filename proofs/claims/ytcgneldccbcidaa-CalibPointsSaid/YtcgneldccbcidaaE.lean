/- Contracts: the reference's curve test, the search in the list of points. No condition. -/
import Derived.Test.YtcgneldccbcidaaD
namespace Go.Proofs.Ytcgneldccbcidaa
open Go.ChangeShapes Go.WideShapes Go.ChangeAt Go.RowKit Go.Deep Calib50

/-- only draws were made -/
def Quiet (w w' : World) : Prop := ∃ m, w' = w.drewN m
theorem Quiet.refl (w : World) : Quiet w w := ⟨0, rfl⟩
theorem Quiet.drewN {w w' : World} (h : Quiet w w') (m : Nat) : Quiet w (w'.drewN m) := by
  obtain ⟨k, rfl⟩ := h
  exact ⟨k + m, World.drewN_drewN _ _ _⟩
theorem Pts.quiet {w w' : World} {a : Option Addr} {n : Nat} {X Y : Nat → Int} (h : Pts w a n X Y) (hq : Quiet w w') : Pts w' a n X Y := by
  obtain ⟨m, rfl⟩ := hq
  exact h.drewN

theorem rcheck_any (a : Option Addr) (n cap : Nat) (X Y : Nat → Int) (w : World) (hn : n ≤ 4611686018427387904) (hp : Pts w a n X Y) :
    Calls Try.prog 27 #[.slice a n cap] w fun e w' => e = .returned (.bool (okB X Y n)) ∧ ∃ m, w' = w.drewN m := by
  by_cases hs : 2 ≤ n ∧ n ≤ 256
  · have H := Lib.hid hp
    clear hp
    obtain ⟨hs1, hs2⟩ := hs
    have e1 : ((n : Int) < 2) = False := by simp; omega
    go_enter Try.func27, Try.ntmps27
    go_wp2
    go_loopw [3] (fun i wr => ∃ k : Nat, k ≤ n ∧ i = .int .i64 k ∧ Quiet w wr ∧ Hid (pre X Y k)) (fun i _ => n - (intOf i).toNat)
    case atStart => exact ⟨0, by omega, rfl, Quiet.refl _, Lib.hid (fun i hi => by omega)⟩
    case round =>
      obtain ⟨k, hk, rfl, hq, hm⟩ := hrel
      by_cases hlt : k < n
      · obtain ⟨b, off, rfl, hb, hc⟩ := (H.out.quiet hq).resolve_left (by omega)
        have ⟨hx1, hy1⟩ := hc k hlt
        have hkn : (k : Int) < (n : Int) := by omega
        cases hw1 : withinB (X k) 536870912
        · clear hc
          go_wp2
          go_quiet ((go_at_call 23; exact Calls.quiet_of_same ((rwithin_any _ _ _ (by omega)).mono fun _ _ h => ⟨h.1, h.2.symm⟩)))
          go_wp2
          go_ret
          exact ⟨ret_bool (ok_no (k := k) hlt (.inl hw1)).symm, hq.drewN _⟩
        · cases hw2 : withinB (Y k) 2147483648
          · clear hc
            go_wp2
            go_quiet ((go_at_call 23; exact Calls.quiet_of_same ((rwithin_any _ _ _ (by omega)).mono fun _ _ h => ⟨h.1, h.2.symm⟩)))
            go_wp2
            go_ret
            exact ⟨ret_bool (ok_no (k := k) hlt (.inr (.inl hw2))).symm, hq.drewN _⟩
          · by_cases h0 : k = 0
            · subst h0
              simp only [Nat.zero_mul, Nat.add_zero] at hx1 hy1
              clear hc
              go_wp2
              go_quiet ((go_at_call 23; exact Calls.quiet_of_same ((rwithin_any _ _ _ (by omega)).mono fun _ _ h => ⟨h.1, h.2.symm⟩)))
              go_wp2
              go_roundw
              case rel => exact ⟨1, by omega, rfl, hq.drewN _, Lib.hid (pre_step hm.out hw1 hw2 (by omega))⟩
              case measure => simp [intOf]; omega
            · obtain ⟨j, rfl⟩ : ∃ j, k = j + 1 := ⟨k - 1, by omega⟩
              have ⟨hx0, hy0⟩ := hc j (by omega)
              clear hc h0
              by_cases h1 : X j < X (j + 1)
              · go_wp2
                obtain ⟨q1, q2, q3, q4⟩ := sums j (by omega)
                go_quiet ((go_at_call 23; exact Calls.quiet_of_same ((rwithin_any _ _ _ (by omega)).mono fun _ _ h => ⟨h.1, h.2.symm⟩)))
                clear q1 q2 q3 q4
                go_wp2
                go_roundw
                case rel => exact ⟨j + 1 + 1, by omega, by go_num, hq.drewN _, Lib.hid (pre_step hm.out hw1 hw2 (fun _ => h1))⟩
                case measure => simp [intOf]; omega
              · go_wp2
                obtain ⟨q1, q2, q3, q4⟩ := sums j (by omega)
                go_quiet ((go_at_call 23; exact Calls.quiet_of_same ((rwithin_any _ _ _ (by omega)).mono fun _ _ h => ⟨h.1, h.2.symm⟩)))
                clear q1 q2 q3 q4
                go_wp2
                go_ret
                exact ⟨ret_bool (ok_no (k := j + 1) hlt (.inr (.inr ⟨by omega, Int.not_lt.mpr h1⟩))).symm, hq.drewN _⟩
      · obtain rfl : k = n := by omega
        have he := Lib.hid (ok_yes hm.out)
        go_wp2
        go_ret
        exact ⟨ret_bool (by rw [he.out]; exact (decide_eq_true ⟨hs1, hs2⟩).symm), hq⟩
  · have he := Lib.hid (show okB X Y n = false by unfold okB; exact decide_eq_false (fun h => hs ⟨h.1, h.2.1⟩))
    by_cases h2 : (n : Int) < 2
    · go_enter Try.func27, Try.ntmps27
      go_wp2
      go_ret
      exact ⟨ret_bool he.out.symm, 0, rfl⟩
    · go_enter Try.func27, Try.ntmps27
      go_wp2
      go_ret
      exact ⟨ret_bool he.out.symm, 0, rfl⟩

theorem cmp_any (x y raw : Int) (w : World) (h1 : -536870912 ≤ x ∧ x ≤ 536870912) (h2 : -536870912 ≤ raw ∧ raw ≤ 536870912) :
    Calls Try.prog 30 #[.agg #[.int .i64 x, .int .i64 y], .int .i64 raw] w fun e w' => e = .returned (.int .i64 (x - raw)) ∧ Below w.heap.size w w' := by
  go_enter Try.func30, Try.ntmps30
  go_wp2
  go_ret
  exact ⟨rfl, (Below.refl _ _).alloc (Nat.le_refl _) _⟩

/-- what the search returns -/
def Found (X : Nat → Int) (n : Nat) (raw : Int) (w : World) (e : Ending) (w' : World) : Prop :=
  ∃ (i : Nat) (b : Bool), e = .returned (.tuple #[.int .i64 i, .bool b]) ∧ i ≤ n ∧ (i = n ∨ raw ≤ X i) ∧ (i = 0 ∨ X (i - 1) < raw) ∧ Below w.heap.size w w'

theorem search_any (a : Option Addr) (n cap : Nat) (X Y : Nat → Int) (raw : Int) (w : World) (hn : n ≤ 4000000000000000000) (hp : Pts w a n X Y)
    (hx : ∀ i, i < n → -536870912 ≤ X i ∧ X i ≤ 536870912) (hr : -536870912 ≤ raw ∧ raw ≤ 536870912) (hm : ∀ i j, i ≤ j → j < n → X i ≤ X j) :
    Calls Try.prog 29 #[.slice a n cap, .int .i64 raw, .func (.func 30) #[] #[]] w (Found X n raw w) := by
  have H := Lib.hid hp
  have HX := Lib.hid hx
  have HM := Lib.hid hm
  clear hp hx hm
  go_enter Try.func29, Try.ntmps29
  go_wp2_with fail
  go_loopw [9, 10] (fun i j wr => ∃ p q : Nat, p ≤ q ∧ q ≤ n ∧ i = .int .i64 p ∧ j = .int .i64 q ∧ Below w.heap.size w wr ∧ Hid ((q = n ∨ raw ≤ X q) ∧ (p = 0 ∨ X (p - 1) < raw))) (fun i j _ => ((intOf j).toNat - (intOf i).toNat))
  case atStart => exact ⟨0, n, by omega, by omega, rfl, rfl, Below.refl _ _, Lib.hid ⟨.inl rfl, .inl rfl⟩⟩
  case round =>
    obtain ⟨p, q, hpq, hqn, rfl, rfl, hB, hI⟩ := hrel
    by_cases hlt : p < q
    · have hh1 : p ≤ (p + q) / 2 ∧ (p + q) / 2 < q := by omega
      obtain ⟨b, off, rfl, hb, hc⟩ := (H.out.below hB (Nat.le_refl _)).resolve_left (by omega)
      have ⟨hx1, hy1⟩ := hc ((p + q) / 2) (by omega)
      have hxb := HX.out ((p + q) / 2) (by omega)
      clear hc
      go_wp2_with fail
      refine (cmp_any _ _ _ _ hxb hr).mono ?_
      rintro e w1 ⟨rfl, hB1⟩
      by_cases ht : X ((p + q) / 2) - raw < 0
      · go_wp2_with fail
        go_roundw
        case rel => exact ⟨(p + q) / 2 + 1, q, by omega, hqn, by go_num, rfl, hB.trans (hB1.mono hB.size), Lib.hid ⟨hI.out.1, .inr (by rw [Nat.add_sub_cancel]; omega)⟩⟩
        case measure => simp [intOf]; omega
      · go_wp2_with fail
        go_roundw
        case rel => exact ⟨p, (p + q) / 2, by omega, by omega, rfl, by go_num, hB.trans (hB1.mono hB.size), Lib.hid ⟨.inr (by omega), hI.out.2⟩⟩
        case measure => simp [intOf]; omega
    · obtain rfl : p = q := by omega
      by_cases hpn : p < n
      · obtain ⟨b, off, rfl, hb, hc⟩ := (H.out.below hB (Nat.le_refl _)).resolve_left (by omega)
        have ⟨hx1, hy1⟩ := hc p (by omega)
        have hxb := HX.out p (by omega)
        clear hc
        have hpn' : (p : Int) < (n : Int) := by omega
        go_wp2_with fail
        refine (cmp_any _ _ _ _ hxb hr).mono ?_
        rintro e w1 ⟨rfl, hB1⟩
        go_wp2_with fail
        go_ret2
        exact ⟨p, _, rfl, hqn, hI.out.1, hI.out.2, hB.trans (hB1.mono hB.size)⟩
      · go_wp2_with fail
        go_ret2
        exact ⟨p, _, rfl, hqn, hI.out.1, hI.out.2, hB⟩
end Go.Proofs.Ytcgneldccbcidaa

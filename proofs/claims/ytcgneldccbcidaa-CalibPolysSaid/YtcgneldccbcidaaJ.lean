/- Contracts: the reference's polynomial. No condition. -/
import Derived.Test.YtcgneldccbcidaaI
namespace Go.Proofs.Ytcgneldccbcidaa
set_option linter.unusedVariables false
open Go.ChangeShapes Go.WideShapes Go.ChangeAt Go.RowKit Go.Deep Calib50

/-- the first test of the reference, after k coefficients -/
def okP (C : Nat → Int) (n : Nat) (raw : Int) (k : Nat) : Bool := decide (1 ≤ n ∧ n ≤ 8) && withinB raw 2147483648 && decide (∀ i, i < k → withinB (C i) 2147483648 = true)
theorem okP_step (C : Nat → Int) (n : Nat) (raw : Int) (k : Nat) : okP C n raw (k + 1) = (okP C n raw k && withinB (C k) 2147483648) := by
  unfold okP
  rw [Bool.and_assoc _ _ (withinB (C k) 2147483648)]
  congr 1
  rw [Bool.eq_iff_iff]
  simp only [decide_eq_true_eq, Bool.and_eq_true]
  constructor
  · intro h; exact ⟨fun i hi => h i (by omega), h k (by omega)⟩
  · rintro ⟨h1, h2⟩ i hi
    rcases Nat.lt_or_ge i k with a | a
    · exact h1 i a
    · rw [show i = k by omega]; exact h2
theorem okP_bad (C : Nat → Int) (n : Nat) (raw : Int) : okP C n raw n = !badB C n raw := by
  rw [Bool.eq_iff_iff]
  unfold okP badB withinB
  simp only [Bool.and_eq_true, decide_eq_true_eq, Bool.not_eq_true', decide_eq_false_iff_not]
  constructor
  · rintro ⟨⟨h1, h2⟩, h3⟩ (h | h | h | ⟨i, h4, h5⟩)
    · omega
    · omega
    · exact h h2
    · exact h5 (h3 i h4)
  · intro h
    refine ⟨⟨?_, ?_⟩, fun i hi => ?_⟩
    · constructor
      · exact Nat.pos_of_ne_zero fun h' => h (.inl h')
      · exact Nat.le_of_not_lt fun h' => h (.inr (.inl h'))
    · exact Decidable.byContradiction fun h' => h (.inr (.inr (.inl h')))
    · exact Decidable.byContradiction fun h' => h (.inr (.inr (.inr ⟨i, hi, h'⟩)))

theorem RPoly_any (a : Option Addr) (n cap : Nat) (C : Nat → Int) (raw : Int) (w : World) (hn : n ≤ 4611686018427387904) (hp : Ints w a n C) :
    Calls Try.prog 11 #[.slice a n cap, .int .i64 raw] w fun e w' => e = .returned (.tuple #[.int .i64 (poly C n raw).1, .int .i64 (poly C n raw).2]) ∧ Below w.heap.size w w' := by
  have H := Lib.hid hp
  by_cases hA : (1 ≤ n ∧ n ≤ 8) ∧ withinB raw 2147483648 = true
  · obtain ⟨⟨hn0, hn8⟩, hB⟩ := hA
    have hr : -2147483648 ≤ raw ∧ raw ≤ 2147483648 := of_decide_eq_true hB
    obtain ⟨b, off, rfl, hb, hc⟩ := hp.resolve_left (by omega)
    have HCELL := Lib.hid hc
    clear hc hp
    have h0 : okP C n raw 0 = true := by unfold okP; rw [hB]; simp; omega
    have H0 := Lib.hid h0
    clear h0
    go_enter Try.func11, Try.ntmps11
    go_wp2_with (go_at_call 23; refine (rwithin_any _ _ _ (by omega)).mono ?_; rintro e w' ⟨rfl, rfl⟩)
    go_loop [6, 7] (fun o i => ∃ k : Nat, k ≤ n ∧ o = .bool (okP C n raw k) ∧ i = .int .i64 k) (fun _ i => n - (intOf i).toNat)
    case atStart => exact ⟨0, by omega, by rw [H0.out], rfl⟩
    case round =>
      obtain ⟨k, hk, rfl, rfl⟩ := hrel
      by_cases hlt : k < n
      · have ck := HCELL.out k hlt
        have HS := Lib.hid (okP_step C n raw k)
        cases hok : okP C n raw k
        · go_wp2_with fail
          go_round
          case rel => exact ⟨k + 1, by omega, by rw [HS.out, hok]; rfl, by go_num⟩
          case measure => simp [intOf]; omega
        · go_wp2_with (go_at_call 23; refine (rwithin_any _ _ _ (by omega)).mono ?_; rintro e w' ⟨rfl, rfl⟩)
          go_round
          case rel => exact ⟨k + 1, by omega, by rw [HS.out, hok]; rfl, by go_num⟩
          case measure => simp [intOf]; omega
      · obtain rfl : k = n := by omega
        have HE := Lib.hid (okP_bad C k raw)
        cases hbad : badB C k raw
        · have hok : okP C k raw k = true := by rw [HE.out, hbad]; rfl
          have hC : ∀ i, i < k → (-2147483648 ≤ C i ∧ C i ≤ 2147483648) := fun i hi => Decidable.byContradiction fun h' => of_decide_eq_false hbad (.inr (.inr (.inr ⟨i, hi, h'⟩)))
          have HB := Lib.hid hbad
          have HC := Lib.hid hC
          have cl := HCELL.out (k - 1) (by omega)
          clear hbad hC
          go_wp2_with fail
          obtain ⟨n, hnk⟩ : ∃ n, n = k := ⟨k, rfl⟩
          subst hnk
          go_loopw [9, 10] (fun x i wr => ∃ (k : Nat) (y : Int), k + 1 ≤ n ∧ x = .int .i64 y ∧ i = .int .i64 (k - 1) ∧ (-4611686018427387904 ≤ y ∧ y ≤ 4611686018427387904) ∧ Quiet w wr ∧ Hid (horner C raw (n - 1) (C (n - 1)) = horner C raw k y)) (fun x i _ => ((intOf i) + 1).toNat)
          case atStart => exact ⟨n - 1, C (n - 1), by omega, rfl, by go_num, by have := HC.out (n - 1) (by omega); omega, Quiet.refl _, Lib.hid rfl⟩
          case round =>
            obtain ⟨k, y, hk, rfl, rfl, hy, hq, hI⟩ := hrel
            rcases Nat.eq_zero_or_pos k with rfl | hkpos
            · have hp := Lib.hid (fin_of HB.out hI.out)
              have hdv := divZ_bd y 1000000 4611686018428 (by omega) (by omega) (by omega)
              cases hw : withinB (divZ y 1000000) 2147483648
              · go_wp2_with (first | (go_at_call 24; refine (rounded_any _ _ _ (by omega) (by omega) (by omega)).mono ?_; rintro e w2 ⟨rfl, m, rfl⟩) | (go_at_call 23; refine (rwithin_any _ _ _ (by omega)).mono ?_; rintro e w' ⟨rfl, rfl⟩))
                go_ret2
                exact ⟨ret_two (by rw [hp.out]; exact if_neg (of_decide_eq_false hw)), (quiet_below hq).trans (Joins.below_draws _ _ _)⟩
              · go_wp2_with (first | (go_at_call 24; refine (rounded_any _ _ _ (by omega) (by omega) (by omega)).mono ?_; rintro e w2 ⟨rfl, m, rfl⟩) | (go_at_call 23; refine (rwithin_any _ _ _ (by omega)).mono ?_; rintro e w' ⟨rfl, rfl⟩))
                go_ret2
                exact ⟨ret_two (by rw [hp.out]; exact if_pos (of_decide_eq_true hw)), (quiet_below hq).trans (Joins.below_draws _ _ _)⟩
            · obtain ⟨j, rfl⟩ : ∃ j, k = j + 1 := ⟨k - 1, by omega⟩
              obtain ⟨b', off', heq, hb', hc'⟩ := (H.out.quiet hq).resolve_left (by omega)
              simp only [Option.some.injEq, Addr.mk.injEq, and_true] at heq
              obtain ⟨rfl, rfl⟩ := heq
              have cj := hc' j (by omega)
              have hCj := HC.out j (by omega)
              clear hc'
              by_cases hz : raw = 0
              · have hzb : (raw != 0) = false := by simp [hz]
                have hpb := prod_bd hy (.inl hz)
                have HZ := Lib.hid hz
                clear hz
                have hpw : withinB (y * raw) 4611686018427387904 = true := decide_eq_true hpb
                cases hw2 : withinB (y * raw + C j) 4611686018427387904
                · go_wp2_with (go_at_call 23; refine (rwithin_any _ _ _ (by omega)).mono ?_; rintro e w' ⟨rfl, rfl⟩)
                  go_ret2
                  exact ⟨ret_two (by rw [fin_of HB.out (hI.out.trans (horner_far2 ((.inl HZ.out)) hw2))]; rfl), quiet_below hq⟩
                · go_wp2_with (go_at_call 23; refine (rwithin_any _ _ _ (by omega)).mono ?_; rintro e w' ⟨rfl, rfl⟩)
                  go_roundw
                  case rel => exact ⟨j, y * raw + C j, by omega, rfl, by go_num, of_decide_eq_true hw2, hq, Lib.hid (hI.out.trans (horner_near ((.inl HZ.out)) hw2))⟩
                  case measure => first | (simp [intOf]; done) | (simp [intOf]; omega)
              · have hzb : (raw != 0) = true := by simp [hz]
                by_cases hpos : 0 < raw
                · have ha := Lib.hid (show absZ raw = raw by unfold absZ; rw [if_neg (by omega)])
                  have hqb : 0 ≤ 4611686018427387904 / raw ∧ 4611686018427387904 / raw ≤ 4611686018427387904 := ⟨Int.ediv_nonneg (by omega) (by omega), Int.ediv_le_self _ (by omega)⟩
                  cases hw1 : withinB y (4611686018427387904 / raw)
                  · go_wp2_with (go_at_call 23; refine (rwithin_any _ _ _ (by omega)).mono ?_; rintro e w' ⟨rfl, rfl⟩)
                    go_ret2
                    exact ⟨ret_two (by rw [fin_of HB.out (hI.out.trans (horner_far hz (by rw [ha.out]; exact hw1)))]; rfl), quiet_below hq⟩
                  · have hn := Lib.hid (show raw = 0 ∨ withinB y (4611686018427387904 / absZ raw) = true by rw [ha.out]; exact .inr hw1)
                    have hpb := prod_bd hy hn.out
                    have hpw : withinB (y * raw) 4611686018427387904 = true := decide_eq_true hpb
                    cases hw2 : withinB (y * raw + C j) 4611686018427387904
                    · go_wp2_with (go_at_call 23; refine (rwithin_any _ _ _ (by omega)).mono ?_; rintro e w' ⟨rfl, rfl⟩)
                      go_ret2
                      exact ⟨ret_two (by rw [fin_of HB.out (hI.out.trans (horner_far2 (hn.out) hw2))]; rfl), quiet_below hq⟩
                    · go_wp2_with (go_at_call 23; refine (rwithin_any _ _ _ (by omega)).mono ?_; rintro e w' ⟨rfl, rfl⟩)
                      go_roundw
                      case rel => exact ⟨j, y * raw + C j, by omega, rfl, by go_num, of_decide_eq_true hw2, hq, Lib.hid (hI.out.trans (horner_near (hn.out) hw2))⟩
                      case measure => first | (simp [intOf]; done) | (simp [intOf]; omega)
                · have ha := Lib.hid (show absZ raw = -raw by unfold absZ; rw [if_pos (by omega)])
                  have hqb0 : 0 ≤ 4611686018427387904 / (-raw) ∧ 4611686018427387904 / (-raw) ≤ 4611686018427387904 := ⟨Int.ediv_nonneg (by omega) (by omega), Int.ediv_le_self _ (by omega)⟩
                  have hwn : wrap64 (-Int.tdiv 4611686018427387904 raw) = 4611686018427387904 / (-raw) := by
                    rw [← Int.tdiv_neg, Int.tdiv_eq_ediv_of_nonneg (by omega)]
                    exact IntWalk.wrap64_in _ ⟨by omega, by omega⟩
                  obtain ⟨q, hq0⟩ : ∃ q, 4611686018427387904 / (-raw) = q := ⟨_, rfl⟩
                  rw [hq0] at hqb0 hwn
                  have HQ0 := Lib.hid hq0
                  clear hq0
                  cases hw1 : withinB y q
                  · go_wp2_with (go_at_call 23; refine (rwithin_any _ _ _ (by omega)).mono ?_; rintro e w' ⟨rfl, rfl⟩)
                    go_ret2
                    exact ⟨ret_two (by rw [fin_of HB.out (hI.out.trans (horner_far hz (by rw [ha.out, HQ0.out]; exact hw1)))]; rfl), quiet_below hq⟩
                  · have hn := Lib.hid (show raw = 0 ∨ withinB y (4611686018427387904 / absZ raw) = true by rw [ha.out, HQ0.out]; exact .inr hw1)
                    have hpb := prod_bd hy hn.out
                    have hpw : withinB (y * raw) 4611686018427387904 = true := decide_eq_true hpb
                    cases hw2 : withinB (y * raw + C j) 4611686018427387904
                    · go_wp2_with (go_at_call 23; refine (rwithin_any _ _ _ (by omega)).mono ?_; rintro e w' ⟨rfl, rfl⟩)
                      go_ret2
                      exact ⟨ret_two (by rw [fin_of HB.out (hI.out.trans (horner_far2 (hn.out) hw2))]; rfl), quiet_below hq⟩
                    · go_wp2_with (go_at_call 23; refine (rwithin_any _ _ _ (by omega)).mono ?_; rintro e w' ⟨rfl, rfl⟩)
                      go_roundw
                      case rel => exact ⟨j, y * raw + C j, by omega, rfl, by go_num, of_decide_eq_true hw2, hq, Lib.hid (hI.out.trans (horner_near (hn.out) hw2))⟩
                      case measure => first | (simp [intOf]; done) | (simp [intOf]; omega)
        · have hok : okP C k raw k = false := by rw [HE.out, hbad]; rfl
          have HB := Lib.hid hbad
          clear hbad
          go_wp2_with fail
          go_ret2
          exact ⟨ret_two (by unfold poly; rw [HB.out]; rfl), Below.refl _ _⟩
  · have hall : ∀ k, okP C n raw k = false := by
      intro k
      unfold okP
      cases hB : withinB raw 2147483648
      · simp
      · have : decide (1 ≤ n ∧ n ≤ 8) = false := decide_eq_false fun h => hA ⟨h, hB⟩
        rw [this]; rfl
    have HB := Lib.hid (show badB C n raw = true by have := okP_bad C n raw; rw [hall] at this; simpa using this.symm)
    clear hall hp
    have hA' : (¬ (1 : Int) ≤ n) ∨ (1 : Int) ≤ n ∧ (¬ (n : Int) ≤ 8) ∨ ((1 : Int) ≤ n ∧ (n : Int) ≤ 8 ∧ withinB raw 2147483648 = false) := by
      cases hB : withinB raw 2147483648
      · simp; omega
      · rw [hB] at hA; simp at hA ⊢; omega
    clear hA
    rcases hA' with hA | ⟨hA1, hA2⟩ | ⟨hA1, hA2, hA3⟩
    all_goals
      go_enter Try.func11, Try.ntmps11
      go_wp2_with (go_at_call 23; refine (rwithin_any _ _ _ (by omega)).mono ?_; rintro e w' ⟨rfl, rfl⟩)
      go_loop [6, 7] (fun o i => ∃ k : Nat, k ≤ n ∧ o = .bool false ∧ i = .int .i64 k) (fun _ i => n - (intOf i).toNat)
      case atStart => exact ⟨0, by omega, rfl, rfl⟩
      case round =>
        obtain ⟨k, hk, rfl, rfl⟩ := hrel
        by_cases hlt : k < n
        · go_wp2_with fail
          go_round
          case rel => exact ⟨k + 1, by omega, rfl, by go_num⟩
          case measure => simp [intOf]; omega
        · go_wp2_with fail
          go_ret2
          exact ⟨ret_two (by unfold poly; rw [HB.out]; rfl), Below.refl _ _⟩
end Go.Proofs.Ytcgneldccbcidaa

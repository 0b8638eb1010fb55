/- Contracts: the polynomials. No condition. -/
import Derived.Test.YtcgneldccbcidaaE
import Derived.Test.YtcgneldccbcidaaG
namespace Go.Proofs.Ytcgneldccbcidaa
set_option linter.unusedVariables false
open Go.ChangeShapes Go.WideShapes Go.ChangeAt Go.RowKit Go.Deep Calib50

/-- the numbers of a slice -/
def Ints (w : World) (a : Option Addr) (n : Nat) (C : Nat → Int) : Prop :=
  n = 0 ∨ ∃ b off, a = some ⟨b, off, none⟩ ∧ b < w.heap.size ∧ ∀ i, i < n → w.cell? ⟨b, off + i, none⟩ = some (.int .i64 (C i))
theorem Ints.below {w w' : World} {a : Option Addr} {n : Nat} {C : Nat → Int} (h : Ints w a n C) {B : Nat} (hb : Below B w w') (hB : w.heap.size ≤ B) : Ints w' a n C := by
  rcases h with h | ⟨b, off, h1, h2, h3⟩
  · exact .inl h
  · exact .inr ⟨b, off, h1, Nat.lt_of_lt_of_le h2 hb.size, fun i hi => (hb.cell (p := ⟨b, _, none⟩) (Nat.lt_of_lt_of_le h2 hB)).trans (h3 i hi)⟩
theorem Ints.quiet {w w' : World} {a : Option Addr} {n : Nat} {C : Nat → Int} (h : Ints w a n C) (hq : Quiet w w') : Ints w' a n C := by
  obtain ⟨m, rfl⟩ := hq
  exact h.below (Joins.below_draws w.heap.size w m) (Nat.le_refl _)

theorem far_any (n : Int) (w : World) : Calls Try.prog 21 #[.int .i64 n] w fun e w' => e = .returned (.bool (!withinB n 2147483648)) ∧ w = w' := by
  go_enter Try.func21, Try.ntmps21
  go_wp2_with (go_at_call 19; refine (within_any _ _ _ (by omega)).mono ?_; rintro e w' ⟨rfl, rfl⟩)
  go_ret
  exact ⟨rfl, rfl⟩

def FarAt (C : Nat → Int) (n : Nat) (w : World) (e : Ending) (w' : World) : Prop := ∃ r : Int, e = .returned (.int .i64 r) ∧ (0 ≤ r ↔ ∃ i, i < n ∧ withinB (C i) 2147483648 = false) ∧ w = w'

theorem index_any (a : Option Addr) (n cap : Nat) (C : Nat → Int) (w : World) (hn : n ≤ 4611686018427387904) (hp : Ints w a n C) :
    Calls Try.prog 28 #[.slice a n cap, .func (.func 21) #[] #[]] w (FarAt C n w) := by
  have H := Lib.hid hp
  clear hp
  go_enter Try.func28, Try.ntmps28
  go_wp2_with fail
  go_loop [8] (fun i => ∃ k : Nat, k ≤ n ∧ i = .int .i64 k ∧ Hid (∀ j, j < k → withinB (C j) 2147483648 = true)) (fun i => n - (intOf i).toNat)
  case atStart => exact ⟨0, by omega, rfl, Lib.hid (fun j hj => by omega)⟩
  case round =>
    obtain ⟨k, hk, rfl, hI⟩ := hrel
    by_cases hlt : k < n
    · obtain ⟨b, off, rfl, hb, hc⟩ := H.out.resolve_left (by omega)
      have ck := hc k hlt
      clear hc
      cases hw : withinB (C k) 2147483648
      · go_wp2_with (go_at_call 21; refine (far_any _ _).mono ?_; rintro e w' ⟨rfl, rfl⟩)
        go_ret
        exact ⟨k, rfl, ⟨fun _ => ⟨k, hlt, hw⟩, fun _ => by omega⟩, rfl⟩
      · go_wp2_with (go_at_call 21; refine (far_any _ _).mono ?_; rintro e w' ⟨rfl, rfl⟩)
        go_round
        case rel => exact ⟨k + 1, by omega, by go_num, Lib.hid (fun j hj => by
          rcases Nat.lt_or_ge j k with h | h
          · exact hI.out j h
          · rw [show j = k by omega]; exact hw)⟩
        case measure => first | (simp [intOf]; done) | (simp [intOf]; omega)
    · go_wp2_with fail
      go_ret
      exact ⟨-1, rfl, ⟨fun h => absurd h (by omega), fun ⟨i, h1, h2⟩ => by
        have := hI.out i (by omega)
        rw [this] at h2
        cases h2⟩, rfl⟩

def anyFar (C : Nat → Int) (n : Nat) : Bool := decide (∃ i, i < n ∧ withinB (C i) 2147483648 = false)

theorem contains_any (a : Option Addr) (n cap : Nat) (C : Nat → Int) (w : World) (hn : n ≤ 4611686018427387904) (hp : Ints w a n C) :
    Calls Try.prog 20 #[.slice a n cap, .func (.func 21) #[] #[]] w fun e w' => e = .returned (.bool (anyFar C n)) ∧ w = w' := by
  go_enter Try.func20, Try.ntmps20
  go_wp2_with fail
  refine (index_any _ _ _ C _ hn hp).mono ?_
  rintro e w1 ⟨r, rfl, hr, rfl⟩
  have HR := Lib.hid hr
  clear hr
  go_wp2_with fail
  go_ret
  exact ⟨ret_bool (by unfold anyFar; exact decide_eq_decide.2 HR.out), rfl⟩

theorem horner_far {C : Nat → Int} {raw y : Int} {j : Nat} (hz : raw ≠ 0) (h : withinB y (4611686018427387904 / absZ raw) = false) : horner C raw (j + 1) y = none := by
  have h' : ¬ (-(big / absZ raw) ≤ y ∧ y ≤ big / absZ raw) := of_decide_eq_false h
  simp only [horner]
  rw [if_pos ⟨hz, h'⟩]
theorem near_of {raw y : Int} (h : raw = 0 ∨ withinB y (4611686018427387904 / absZ raw) = true) : ¬ (raw ≠ 0 ∧ ¬ (-(big / absZ raw) ≤ y ∧ y ≤ big / absZ raw)) := by
  rintro ⟨h1, h2⟩
  exact h2 (of_decide_eq_true (h.resolve_left h1))
theorem horner_far2 {C : Nat → Int} {raw y : Int} {j : Nat} (h : raw = 0 ∨ withinB y (4611686018427387904 / absZ raw) = true) (h2 : withinB (y * raw + C j) 4611686018427387904 = false) : horner C raw (j + 1) y = none := by
  have h2' : ¬ (-big ≤ y * raw + C j ∧ y * raw + C j ≤ big) := of_decide_eq_false h2
  simp only [horner]
  rw [if_neg (near_of h), if_pos h2']
theorem horner_near {C : Nat → Int} {raw y : Int} {j : Nat} (h : raw = 0 ∨ withinB y (4611686018427387904 / absZ raw) = true) (h2 : withinB (y * raw + C j) 4611686018427387904 = true) : horner C raw (j + 1) y = horner C raw j (y * raw + C j) := by
  simp only [horner]
  rw [if_neg (near_of h), if_neg (fun h' => h' (of_decide_eq_true h2))]
theorem prod_bd {raw y : Int} (_hy : -4611686018427387904 ≤ y ∧ y ≤ 4611686018427387904) (h : raw = 0 ∨ withinB y (4611686018427387904 / absZ raw) = true) : -4611686018427387904 ≤ y * raw ∧ y * raw ≤ 4611686018427387904 := by
  by_cases hz : raw = 0
  · subst hz; simp
  · exact fits (by omega) hz (of_decide_eq_true (h.resolve_left hz))
theorem fin_of {C : Nat → Int} {n : Nat} {raw : Int} {o : Option Int} (hb : badB C n raw = false) (h : horner C raw (n - 1) (C (n - 1)) = o) : poly C n raw = fin o := by
  unfold poly
  rw [hb, h]
  rfl
theorem quiet_below {w w' : World} (h : Quiet w w') : Below w.heap.size w w' := by
  obtain ⟨m, rfl⟩ := h
  exact Joins.below_draws _ _ _

theorem Poly_any (a : Option Addr) (n cap : Nat) (C : Nat → Int) (raw : Int) (w : World) (hn : n ≤ 4611686018427387904) (hp : Ints w a n C) :
    Calls Try.prog 10 #[.slice a n cap, .int .i64 raw] w fun e w' => e = .returned (.tuple #[.int .i64 (poly C n raw).1, .int .i64 (poly C n raw).2]) ∧ Below w.heap.size w w' := by
  have H := Lib.hid hp
  cases hbad : badB C n raw
  · have hgood : 0 < n ∧ n ≤ 8 ∧ (-2147483648 ≤ raw ∧ raw ≤ 2147483648) ∧ ∀ i, i < n → (-2147483648 ≤ C i ∧ C i ≤ 2147483648) := by
      have h := of_decide_eq_false hbad
      refine ⟨?_, ?_, ?_, fun i hi => ?_⟩
      · refine Nat.pos_of_ne_zero fun h' => h (.inl h')
      · exact Nat.le_of_not_lt fun h' => h (.inr (.inl h'))
      · exact Decidable.byContradiction fun h' => h (.inr (.inr (.inl h')))
      · exact Decidable.byContradiction fun h' => h (.inr (.inr (.inr ⟨i, hi, h'⟩)))
    obtain ⟨hn0, hn8, hr, hC⟩ := hgood
    have HB := Lib.hid hbad
    have HC := Lib.hid hC
    clear hbad hC
    obtain ⟨b, off, rfl, hb, hc⟩ := hp.resolve_left (by omega)
    have HCELL := Lib.hid hc
    have cl := hc (n - 1) (by omega)
    have hwr : withinB raw 2147483648 = true := decide_eq_true hr
    have hfar : anyFar C n = false := decide_eq_false fun ⟨i, h1, h2⟩ => (of_decide_eq_false h2) (HC.out i h1)
    clear hc
    have e0 : ((n : Int) == 0) = false := by simp; omega
    go_enter Try.func10, Try.ntmps10
    go_wp2_with (first | (go_at_call 19; refine (within_any _ _ _ (by omega)).mono ?_; rintro e w' ⟨rfl, rfl⟩) | (go_at_call 20; refine (contains_any _ _ _ C _ hn H.out).mono ?_; rintro e w' ⟨rfl, rfl⟩))
    go_loopw [6, 7] (fun x i wr => ∃ (k : Nat) (y : Int), k + 1 ≤ n ∧ x = .int .i64 y ∧ i = .int .i64 (k - 1) ∧ (-4611686018427387904 ≤ y ∧ y ≤ 4611686018427387904) ∧ Quiet w wr ∧ Hid (horner C raw (n - 1) (C (n - 1)) = horner C raw k y)) (fun x i _ => ((intOf i) + 1).toNat)
    case atStart => exact ⟨n - 1, C (n - 1), by omega, rfl, by go_num, by have := HC.out (n - 1) (by omega); omega, Quiet.refl _, Lib.hid rfl⟩
    case round =>
      obtain ⟨k, y, hk, rfl, rfl, hy, hq, hI⟩ := hrel
      rcases Nat.eq_zero_or_pos k with rfl | hkpos
      · have hp := Lib.hid (fin_of HB.out hI.out)
        have hdv := divZ_bd y 1000000 4611686018428 (by omega) (by omega) (by omega)
        cases hw : withinB (divZ y 1000000) 2147483648
        · go_wp2_with (first | (go_at_call 22; refine (divide_any _ _ _ (by omega) (by omega) (by omega)).mono ?_; rintro e w2 ⟨rfl, m, rfl⟩) | (go_at_call 19; refine (within_any _ _ _ (by omega)).mono ?_; rintro e w' ⟨rfl, rfl⟩))
          go_ret2
          exact ⟨ret_two (by rw [hp.out]; exact if_neg (of_decide_eq_false hw)), (quiet_below hq).trans (Joins.below_draws _ _ _)⟩
        · go_wp2_with (first | (go_at_call 22; refine (divide_any _ _ _ (by omega) (by omega) (by omega)).mono ?_; rintro e w2 ⟨rfl, m, rfl⟩) | (go_at_call 19; refine (within_any _ _ _ (by omega)).mono ?_; rintro e w' ⟨rfl, rfl⟩))
          go_ret2
          exact ⟨ret_two (by rw [hp.out]; exact if_pos (of_decide_eq_true hw)), (quiet_below hq).trans (Joins.below_draws _ _ _)⟩
      · obtain ⟨j, rfl⟩ : ∃ j, k = j + 1 := ⟨k - 1, by omega⟩
        obtain ⟨b', off', heq, hb', hc'⟩ := (H.out.quiet hq).resolve_left (by omega)
        simp only [Option.some.injEq, Addr.mk.injEq, and_true] at heq
        obtain ⟨rfl, rfl⟩ := heq
        have cj := hc' j (by omega)
        have hCj := HC.out j (by omega)
        clear hc'
        by_cases hz : raw = 0
        · have hzb : (raw != 0) = false := by simp [hz]
          have hpb := prod_bd hy (.inl hz)
          have HZ := Lib.hid hz
          clear hz
          cases hw2 : withinB (y * raw + C j) 4611686018427387904
          · go_wp2_with (go_at_call 19; refine (within_any _ _ _ (by omega)).mono ?_; rintro e w' ⟨rfl, rfl⟩)
            go_ret2
            exact ⟨ret_two (by rw [fin_of HB.out (hI.out.trans (horner_far2 ((.inl HZ.out)) hw2))]; rfl), quiet_below hq⟩
          · go_wp2_with (go_at_call 19; refine (within_any _ _ _ (by omega)).mono ?_; rintro e w' ⟨rfl, rfl⟩)
            go_roundw
            case rel => exact ⟨j, y * raw + C j, by omega, rfl, by go_num, of_decide_eq_true hw2, hq, Lib.hid (hI.out.trans (horner_near ((.inl HZ.out)) hw2))⟩
            case measure => first | (simp [intOf]; done) | (simp [intOf]; omega)
        · have hzb : (raw != 0) = true := by simp [hz]
          by_cases hpos : 0 < raw
          · have ha := Lib.hid (show absZ raw = raw by unfold absZ; rw [if_neg (by omega)])
            have hqb : 0 ≤ 4611686018427387904 / raw ∧ 4611686018427387904 / raw ≤ 4611686018427387904 := ⟨Int.ediv_nonneg (by omega) (by omega), Int.ediv_le_self _ (by omega)⟩
            cases hw1 : withinB y (4611686018427387904 / raw)
            · go_wp2_with (go_at_call 19; refine (within_any _ _ _ (by omega)).mono ?_; rintro e w' ⟨rfl, rfl⟩)
              go_ret2
              exact ⟨ret_two (by rw [fin_of HB.out (hI.out.trans (horner_far hz (by rw [ha.out]; exact hw1)))]; rfl), quiet_below hq⟩
            · have hn := Lib.hid (show raw = 0 ∨ withinB y (4611686018427387904 / absZ raw) = true by rw [ha.out]; exact .inr hw1)
              have hpb := prod_bd hy hn.out
              cases hw2 : withinB (y * raw + C j) 4611686018427387904
              · go_wp2_with (go_at_call 19; refine (within_any _ _ _ (by omega)).mono ?_; rintro e w' ⟨rfl, rfl⟩)
                go_ret2
                exact ⟨ret_two (by rw [fin_of HB.out (hI.out.trans (horner_far2 (hn.out) hw2))]; rfl), quiet_below hq⟩
              · go_wp2_with (go_at_call 19; refine (within_any _ _ _ (by omega)).mono ?_; rintro e w' ⟨rfl, rfl⟩)
                go_roundw
                case rel => exact ⟨j, y * raw + C j, by omega, rfl, by go_num, of_decide_eq_true hw2, hq, Lib.hid (hI.out.trans (horner_near (hn.out) hw2))⟩
                case measure => first | (simp [intOf]; done) | (simp [intOf]; omega)
          · have ha := Lib.hid (show absZ raw = -raw by unfold absZ; rw [if_pos (by omega)])
            have hqb0 : 0 ≤ 4611686018427387904 / (-raw) ∧ 4611686018427387904 / (-raw) ≤ 4611686018427387904 := ⟨Int.ediv_nonneg (by omega) (by omega), Int.ediv_le_self _ (by omega)⟩
            have hwn : wrap64 (-Int.tdiv 4611686018427387904 raw) = 4611686018427387904 / (-raw) := by
              rw [← Int.tdiv_neg, Int.tdiv_eq_ediv_of_nonneg (by omega)]
              exact IntWalk.wrap64_in _ ⟨by omega, by omega⟩
            obtain ⟨q, hq0⟩ : ∃ q, 4611686018427387904 / (-raw) = q := ⟨_, rfl⟩
            rw [hq0] at hqb0 hwn
            have HQ0 := Lib.hid hq0
            clear hq0
            cases hw1 : withinB y q
            · go_wp2_with (go_at_call 19; refine (within_any _ _ _ (by omega)).mono ?_; rintro e w' ⟨rfl, rfl⟩)
              go_ret2
              exact ⟨ret_two (by rw [fin_of HB.out (hI.out.trans (horner_far hz (by rw [ha.out, HQ0.out]; exact hw1)))]; rfl), quiet_below hq⟩
            · have hn := Lib.hid (show raw = 0 ∨ withinB y (4611686018427387904 / absZ raw) = true by rw [ha.out, HQ0.out]; exact .inr hw1)
              have hpb := prod_bd hy hn.out
              cases hw2 : withinB (y * raw + C j) 4611686018427387904
              · go_wp2_with (go_at_call 19; refine (within_any _ _ _ (by omega)).mono ?_; rintro e w' ⟨rfl, rfl⟩)
                go_ret2
                exact ⟨ret_two (by rw [fin_of HB.out (hI.out.trans (horner_far2 (hn.out) hw2))]; rfl), quiet_below hq⟩
              · go_wp2_with (go_at_call 19; refine (within_any _ _ _ (by omega)).mono ?_; rintro e w' ⟨rfl, rfl⟩)
                go_roundw
                case rel => exact ⟨j, y * raw + C j, by omega, rfl, by go_num, of_decide_eq_true hw2, hq, Lib.hid (hI.out.trans (horner_near (hn.out) hw2))⟩
                case measure => first | (simp [intOf]; done) | (simp [intOf]; omega)
  · have HB := Lib.hid hbad
    have hwhy := of_decide_eq_true hbad
    clear hbad hp
    by_cases h1 : n = 0
    · subst h1
      clear hwhy
      go_enter Try.func10, Try.ntmps10
      go_wp2_with (first | (go_at_call 19; refine (within_any _ _ _ (by omega)).mono ?_; rintro e w' ⟨rfl, rfl⟩) | (go_at_call 20; refine (contains_any _ _ _ C _ hn H.out).mono ?_; rintro e w' ⟨rfl, rfl⟩))
      go_ret2
      exact ⟨ret_two (by unfold poly; rw [HB.out]; rfl), Below.refl _ _⟩
    · have e0 : ((n : Int) == 0) = false := by simp; omega
      by_cases h2 : (8 : Int) < (n : Int)
      · clear hwhy
        go_enter Try.func10, Try.ntmps10
        go_wp2_with (first | (go_at_call 19; refine (within_any _ _ _ (by omega)).mono ?_; rintro e w' ⟨rfl, rfl⟩) | (go_at_call 20; refine (contains_any _ _ _ C _ hn H.out).mono ?_; rintro e w' ⟨rfl, rfl⟩))
        go_ret2
        exact ⟨ret_two (by unfold poly; rw [HB.out]; rfl), Below.refl _ _⟩
      · cases h3 : withinB raw 2147483648
        · clear hwhy
          go_enter Try.func10, Try.ntmps10
          go_wp2_with (first | (go_at_call 19; refine (within_any _ _ _ (by omega)).mono ?_; rintro e w' ⟨rfl, rfl⟩) | (go_at_call 20; refine (contains_any _ _ _ C _ hn H.out).mono ?_; rintro e w' ⟨rfl, rfl⟩))
          go_ret2
          exact ⟨ret_two (by unfold poly; rw [HB.out]; rfl), Below.refl _ _⟩
        · have h4 : anyFar C n = true := by
            refine decide_eq_true ?_
            rcases hwhy with h | h | h | ⟨i, h5, h6⟩
            · exact absurd h h1
            · omega
            · exact absurd (of_decide_eq_true h3) h
            · exact ⟨i, h5, decide_eq_false h6⟩
          clear hwhy
          go_enter Try.func10, Try.ntmps10
          go_wp2_with (first | (go_at_call 19; refine (within_any _ _ _ (by omega)).mono ?_; rintro e w' ⟨rfl, rfl⟩) | (go_at_call 20; refine (contains_any _ _ _ C _ hn H.out).mono ?_; rintro e w' ⟨rfl, rfl⟩))
          go_ret2
          exact ⟨ret_two (by unfold poly; rw [HB.out]; rfl), Below.refl _ _⟩

end Go.Proofs.Ytcgneldccbcidaa

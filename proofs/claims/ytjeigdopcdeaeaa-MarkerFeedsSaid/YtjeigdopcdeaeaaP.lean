/- The marker in plain lists: where one begins, the frames of a stream, a stream in pieces. No condition. -/
import Derived.Test.YtjeigdopcdeaeaaSD
import Derived.Test.YtjeigdopcdeaeaaA
namespace Go.Proofs.Ytjeigdopcdeaeaa
open Go.RowKit Go.Deep Scr
set_option linter.unusedVariables false

def mk : List UInt8 := [0x1a, 0xcf, 0xfc, 0x1d]
/-- a marker, or the beginning of one that goes on behind the end, begins here -/
def pre (l : List UInt8) : Bool := l.take 4 == mk.take (min l.length 4)
/-- a whole marker begins here -/
def full (l : List UInt8) : Bool := decide (4 ≤ l.length) && (l.take 4 == mk)
theorem full_pre (l : List UInt8) (h : 4 ≤ l.length) : full l = pre l := by
  unfold full pre
  rw [Nat.min_eq_right h]
  simp [h, mk]
/-- the first index at which one begins -/
def beg : List UInt8 → Nat
  | [] => 0
  | x :: r => if pre (x :: r) then 0 else beg r + 1
theorem beg_le (l : List UInt8) : beg l ≤ l.length := by
  induction l with
  | nil => simp [beg]
  | cons x r ih => unfold beg; split <;> simp <;> omega
theorem beg_pre (l : List UInt8) (h : beg l < l.length) : pre (l.drop (beg l)) = true := by
  induction l with
  | nil => simp at h
  | cons x r ih =>
    unfold beg at h ⊢
    split
    · rename_i e; simpa using e
    · rename_i e
      rw [if_neg e] at h
      simp only [List.length_cons] at h
      rw [List.drop_succ_cons]
      exact ih (by omega)
theorem beg_not (l : List UInt8) : ∀ i, i < beg l → pre (l.drop i) = false := by
  induction l with
  | nil => intro i hi; simp [beg] at hi
  | cons x r ih =>
    intro i hi
    unfold beg at hi
    split at hi
    · omega
    · rename_i e
      cases i with
      | zero => simpa using e
      | succ j => rw [List.drop_succ_cons]; exact ih j (by omega)
/-- what decides beg -/
theorem beg_eq (l : List UInt8) (n : Nat) (hn : n ≤ l.length) (h1 : ∀ i, i < n → pre (l.drop i) = false) (h2 : n = l.length ∨ pre (l.drop n) = true) : beg l = n := by
  rcases Nat.lt_trichotomy (beg l) n with h | h | h
  · have := h1 _ h
    rw [beg_pre l (by omega)] at this
    cases this
  · exact h
  · rcases h2 with h2 | h2
    · have := beg_le l; omega
    · have := beg_not l n h
      rw [h2] at this
      cases this
/-- a beginning stays none whatever follows -/
theorem pre_append (l b : List UInt8) (h : l ≠ []) (hp : pre l = false) : pre (l ++ b) = false := by
  cases e : pre (l ++ b)
  · rfl
  · exfalso
    rw [Bool.eq_false_iff] at hp
    apply hp
    unfold pre at e ⊢
    rw [beq_iff_eq] at e ⊢
    have e2 := congrArg (List.take (min l.length 4)) e
    rw [List.take_take, List.take_take] at e2
    have n1 : min (min l.length 4) 4 = min l.length 4 := by omega
    have n2 : min (min l.length 4) (min (l ++ b).length 4) = min l.length 4 := by simp only [List.length_append]; omega
    rw [n1, n2, List.take_append_of_le_length (by omega)] at e2
    rw [← e2]
    rcases Nat.le_total l.length 4 with h4 | h4
    · rw [Nat.min_eq_left h4, List.take_of_length_le h4, List.take_of_length_le (Nat.le_refl _)]
    · rw [Nat.min_eq_right h4]
theorem pre_full (l b : List UInt8) (h : 4 ≤ l.length) : pre (l ++ b) = pre l := by
  unfold pre
  rw [List.take_append_of_le_length h, List.length_append, Nat.min_eq_right (by omega), Nat.min_eq_right h]
theorem beg_append (x b : List UInt8) : beg (x ++ b) = beg x + beg (x.drop (beg x) ++ b) := by
  have hx := beg_le x
  have hd : (x ++ b).drop (beg x) = x.drop (beg x) ++ b := List.drop_append_of_le_length hx
  refine beg_eq _ _ ?_ ?_ ?_
  · have := beg_le (x.drop (beg x) ++ b)
    simp at this ⊢
    omega
  · intro i hi
    by_cases h : i < beg x
    · rw [List.drop_append_of_le_length (by omega)]
      exact pre_append _ _ (by intro e; have := congrArg List.length e; simp at this; omega) (beg_not x i h)
    · obtain ⟨j, rfl⟩ : ∃ j, i = beg x + j := ⟨i - beg x, by omega⟩
      rw [← List.drop_drop, hd]
      exact beg_not _ j (by omega)
  · rcases Nat.lt_or_ge (beg (x.drop (beg x) ++ b)) (x.drop (beg x) ++ b).length with h | h
    · right
      rw [← List.drop_drop, hd]
      exact beg_pre _ h
    · left
      have := beg_le (x.drop (beg x) ++ b)
      simp at this h ⊢
      omega
theorem beg_full (x b : List UInt8) (h : 4 ≤ (x.drop (beg x)).length) : beg (x ++ b) = beg x := by
  have hx := beg_le x
  have hp : pre (x.drop (beg x)) = true := beg_pre x (by simp at h; omega)
  rw [beg_append, beg_eq (x.drop (beg x) ++ b) 0 (Nat.zero_le _) (fun i hi => absurd hi (Nat.not_lt_zero i)) (.inr (by rw [List.drop_zero, pre_full _ _ h]; exact hp)), Nat.add_zero]

/-- what Feed makes of the bytes that wait: the frames, the number of bytes that are skipped, what waits -/
def feed (size : Nat) (l : List UInt8) : List (List UInt8) × Nat × List UInt8 :=
  if h : (l.drop (beg l)).length < 4 + size then ([], beg l, l.drop (beg l))
  else
    let r := feed size ((l.drop (beg l)).drop (4 + size))
    (appB (((l.drop (beg l)).drop 4).take size) :: r.1, beg l + r.2.1, r.2.2)
  termination_by l.length
  decreasing_by simp at h ⊢; omega
theorem feed_few (size : Nat) (l : List UInt8) (h : (l.drop (beg l)).length < 4 + size) : feed size l = ([], beg l, l.drop (beg l)) := by
  rw [feed, dif_pos h]
theorem feed_more (size : Nat) (l : List UInt8) (h : ¬ (l.drop (beg l)).length < 4 + size) : feed size l =
    (appB (((l.drop (beg l)).drop 4).take size) :: (feed size ((l.drop (beg l)).drop (4 + size))).1, beg l + (feed size ((l.drop (beg l)).drop (4 + size))).2.1, (feed size ((l.drop (beg l)).drop (4 + size))).2.2) := by
  rw [feed, dif_neg h]
/-- a stream in two pieces -/
theorem feed_append (size : Nat) (x b : List UInt8) : feed size (x ++ b) = ((feed size x).1 ++ (feed size ((feed size x).2.2 ++ b)).1, (feed size x).2.1 + (feed size ((feed size x).2.2 ++ b)).2.1, (feed size ((feed size x).2.2 ++ b)).2.2) := by
  induction hn : x.length using Nat.strongRecOn generalizing x with
  | _ n ih =>
    subst hn
    have hx := beg_le x
    by_cases h : (x.drop (beg x)).length < 4 + size
    · rw [feed_few size x h]
      simp only [List.nil_append]
      have hd : (x ++ b).drop (beg (x ++ b)) = (x.drop (beg x) ++ b).drop (beg (x.drop (beg x) ++ b)) := by
        rw [beg_append, ← List.drop_drop, List.drop_append_of_le_length hx]
      by_cases h2 : ((x ++ b).drop (beg (x ++ b))).length < 4 + size
      · rw [feed_few size _ h2, feed_few size (x.drop (beg x) ++ b) (by rw [← hd]; exact h2), hd, beg_append]
      · rw [feed_more size _ h2, feed_more size (x.drop (beg x) ++ b) (by rw [← hd]; exact h2), hd, beg_append x b]
        simp only [Nat.add_assoc]
    · have hbe := beg_full x b (by omega)
      have hd : (x ++ b).drop (beg (x ++ b)) = x.drop (beg x) ++ b := by rw [hbe, List.drop_append_of_le_length hx]
      have h' : ¬ ((x ++ b).drop (beg (x ++ b))).length < 4 + size := by rw [hd, List.length_append]; omega
      have e1 : ((x.drop (beg x) ++ b).drop 4).take size = ((x.drop (beg x)).drop 4).take size := by
        rw [List.drop_append_of_le_length (by omega), List.take_append_of_le_length (by rw [List.length_drop]; omega)]
      have e2 : (x.drop (beg x) ++ b).drop (4 + size) = (x.drop (beg x)).drop (4 + size) ++ b := List.drop_append_of_le_length (by omega)
      have hi := ih ((x.drop (beg x)).drop (4 + size)).length (by simp at h ⊢; omega) _ rfl
      rw [feed_more size _ h', feed_more size x h, hd, e1, e2, hi, hbe]
      simp only [List.cons_append, Nat.add_assoc]
/-- what waits is short -/
theorem feed_rest (size : Nat) (l : List UInt8) : (feed size l).2.2.length < 4 + size := by
  induction hn : l.length using Nat.strongRecOn generalizing l with
  | _ n ih =>
    subst hn
    by_cases h : (l.drop (beg l)).length < 4 + size
    · rw [feed_few size l h]; exact h
    · rw [feed_more size l h]
      exact ih _ (by simp at h ⊢; omega) _ rfl
theorem feed_skip (size : Nat) (l : List UInt8) : (feed size l).2.1 ≤ l.length := by
  induction hn : l.length using Nat.strongRecOn generalizing l with
  | _ n ih =>
    subst hn
    have hl := beg_le l
    by_cases h : (l.drop (beg l)).length < 4 + size
    · rw [feed_few size l h]; exact hl
    · rw [feed_more size l h]
      have := ih ((l.drop (beg l)).drop (4 + size)).length (by simp at h ⊢; omega) _ rfl
      simp at this h ⊢
      omega
theorem feed_nil (size : Nat) : feed size [] = ([], 0, []) := by
  rw [feed_few size [] (by simp [beg]; omega)]
  simp [beg]

/-! ### the reference's way -/
/-- the length of the longest beginning of a marker at the end, shorter than a marker: from k on downwards -/
def tailFrom (l : List UInt8) : Nat → Nat
  | 0 => 0
  | k + 1 => if l.drop (l.length - (k + 1)) == mk.take (k + 1) then k + 1 else tailFrom l k
def tailN (l : List UInt8) : Nat := tailFrom l (min 3 l.length)
theorem pre_short (l : List UInt8) (h : l.length ≤ 4) : pre l = (l == mk.take l.length) := by
  unfold pre
  rw [List.take_of_length_le h, Nat.min_eq_left h]
theorem tailFrom_le (l : List UInt8) (k : Nat) : tailFrom l k ≤ k := by
  induction k with
  | zero => simp [tailFrom]
  | succ k ih => unfold tailFrom; split <;> omega
theorem tailFrom_spec (l : List UInt8) (k : Nat) (hk : k ≤ l.length) (h3 : k ≤ 3) (hp : ∀ i, i < l.length - k → pre (l.drop i) = false) : beg l = l.length - tailFrom l k := by
  induction k with
  | zero =>
    exact beg_eq l _ (by simp [tailFrom]) (fun i hi => hp i (by simpa [tailFrom] using hi)) (.inl (by simp [tailFrom]))
  | succ k ih =>
    have hl : (l.drop (l.length - (k + 1))).length = k + 1 := by simp; omega
    have he : pre (l.drop (l.length - (k + 1))) = (l.drop (l.length - (k + 1)) == mk.take (k + 1)) := by rw [pre_short _ (by omega), hl]
    unfold tailFrom
    by_cases h : (l.drop (l.length - (k + 1)) == mk.take (k + 1)) = true
    · rw [if_pos h]
      exact beg_eq l _ (by omega) (fun i hi => hp i hi) (.inr (by rw [he]; exact h))
    · rw [if_neg h]
      refine ih (by omega) (by omega) (fun i hi => ?_)
      rcases Nat.lt_or_ge i (l.length - (k + 1)) with h1 | h1
      · exact hp i h1
      · obtain rfl : i = l.length - (k + 1) := by omega
        rw [he]; simpa using h
/-- no whole marker: the beginning is that of the tail -/
theorem beg_tail (l : List UInt8) (h : ∀ i, i < l.length → full (l.drop i) = false) : beg l = l.length - tailN l := by
  refine tailFrom_spec l _ (by omega) (by omega) (fun i hi => ?_)
  rw [← full_pre _ (by simp; omega)]
  exact h i (by omega)
theorem feed_tail (size : Nat) (l : List UInt8) (h : ∀ i, i < l.length → full (l.drop i) = false) : (feed size l).1 = [] ∧ (feed size l).2.1 = l.length - tailN l := by
  have hb := beg_tail l h
  have h3 : tailN l ≤ 3 := by have := tailFrom_le l (min 3 l.length); unfold tailN; omega
  rw [feed_few size l (by rw [List.length_drop, hb]; omega)]
  exact ⟨rfl, hb⟩
/-- the first whole marker -/
theorem beg_first (l : List UInt8) (n : Nat) (h : ∀ i, i < n → full (l.drop i) = false) (hn : full (l.drop n) = true) : beg l = n := by
  have h4 : 4 ≤ (l.drop n).length := by unfold full at hn; simp at hn; simp; omega
  simp at h4
  refine beg_eq l n (by omega) (fun i hi => ?_) (.inr ?_)
  · rw [← full_pre _ (by simp; omega)]; exact h i hi
  · rw [← full_pre _ (by simp; omega)]; exact hn
end Go.Proofs.Ytjeigdopcdeaeaa

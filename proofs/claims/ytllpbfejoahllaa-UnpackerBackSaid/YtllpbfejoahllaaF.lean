/- The unpacker in plain lists. No condition. -/
import Derived.Test.YtllpbfejoahllaaE
namespace Go.Proofs.Ytllpbfejoahllaa
open Go.RowKit Go.Deep Go.ChangeShapes Go.WideShapes Go.ChangeAt
set_option linter.unusedVariables false

theorem hdN_ge (l : List UInt8) : 7 ≤ hdN l := by unfold hdN; omega
theorem lenB_le (l : List UInt8) : lenB l ≤ 4096 := by
  unfold lenB
  split
  · rename_i h; simp [hdOk] at h; exact h.2
  · omega
theorem lenB_ge (l : List UInt8) (h : lenB l ≠ 0) : 7 ≤ lenB l := by
  unfold lenB at h ⊢
  split
  · exact hdN_ge l
  · rename_i e; rw [if_neg e] at h; exact absurd rfl h
theorem lenB_ok (l : List UInt8) : hdOk l = decide (lenB l ≠ 0) := by
  unfold lenB
  cases h : hdOk l
  · simp
  · have := hdN_ge l
    simp; omega
/-- the application process of a header -/
def apid (l : List UInt8) : Nat := (l.getD 0 0).toNat % 8 * 256 + (l.getD 1 0).toNat
/-- the packets of bytes: whether it stays in step, the rest, the packets -/
def packs (b : List UInt8) : Bool × List UInt8 × List (List UInt8) :=
  if b.length < 6 then (true, b, [])
  else if h0 : lenB b = 0 then (false, [], [])
  else if b.length < lenB b then (true, b, [])
  else
    let r := packs (b.drop (lenB b))
    (r.1, r.2.1, if apid b = 2047 then r.2.2 else b.take (lenB b) :: r.2.2)
  termination_by b.length
  decreasing_by simp; omega
theorem packs_few (b : List UInt8) (h : b.length < 6) : packs b = (true, b, []) := by rw [packs, if_pos h]
theorem packs_bad (b : List UInt8) (h : ¬ b.length < 6) (h0 : lenB b = 0) : packs b = (false, [], []) := by rw [packs, if_neg h, dif_pos h0]
theorem packs_wait (b : List UInt8) (h : ¬ b.length < 6) (h0 : lenB b ≠ 0) (h1 : b.length < lenB b) : packs b = (true, b, []) := by rw [packs, if_neg h, dif_neg h0, if_pos h1]
theorem packs_more (b : List UInt8) (h : ¬ b.length < 6) (h0 : lenB b ≠ 0) (h1 : ¬ b.length < lenB b) : packs b = ((packs (b.drop (lenB b))).1, (packs (b.drop (lenB b))).2.1, if apid b = 2047 then (packs (b.drop (lenB b))).2.2 else b.take (lenB b) :: (packs (b.drop (lenB b))).2.2) := by
  rw [packs, if_neg h, dif_neg h0, if_neg h1]
theorem packs_rest (b : List UInt8) : (packs b).2.1.length ≤ 4096 ∧ (packs b).2.1.length ≤ b.length ∧ (packs b).2.2.length ≤ b.length := by
  induction hn : b.length using Nat.strongRecOn generalizing b with
  | _ n ih =>
    subst hn
    by_cases h : b.length < 6
    · rw [packs_few b h]; simp; omega
    · by_cases h0 : lenB b = 0
      · rw [packs_bad b h h0]; simp
      · have h7 := lenB_ge b h0
        have h9 := lenB_le b
        by_cases h1 : b.length < lenB b
        · rw [packs_wait b h h0 h1]; simp; omega
        · rw [packs_more b h h0 h1]
          have := ih (b.drop (lenB b)).length (by simp; omega) _ rfl
          simp only [List.length_drop] at this ⊢
          refine ⟨this.1, by omega, ?_⟩
          split
          · omega
          · simp only [List.length_cons]; omega
/-- the fitting pointer, or -1 -/
def fitR (rest data : List UInt8) : Int :=
  if data = [] then 2047 else if rest = [] then 0 else if (rest ++ data).length < 6 then 2047 else if lenB (rest ++ data) = 0 then -1
  else if lenB (rest ++ data) < (rest ++ data).length then (lenB (rest ++ data) : Int) - rest.length else 2047
/-- the same, as the program gives it -/
def fitP (rest data : List UInt8) : Int × Bool :=
  if data = [] then (2047, true) else if rest = [] then (0, true) else if (rest ++ data).length < 6 then (2047, true) else if lenB (rest ++ data) = 0 then (0, false)
  else if lenB (rest ++ data) < (rest ++ data).length then ((lenB (rest ++ data) : Int) - rest.length, true) else (2047, true)
theorem fit_same (rest data : List UInt8) (first : Int) (h : 0 ≤ first) : ((fitP rest data).2 && ((fitP rest data).1 == first)) = decide (first = fitR rest data) := by
  unfold fitP fitR
  repeat' split
  all_goals
    rw [Bool.eq_iff_iff]
    simp
    omega
/-- an unpacker -/
structure US where
  started : Bool
  step : Bool
  next : Int
  lost : Int
  rest : List UInt8
/-- what count does -/
def US.count (u : US) (c : Int) : US :=
  { u with started := true, next := (c + 1) % 256, lost := if u.started then u.lost + (c - u.next) % 256 else u.lost, step := if u.started then u.step && decide ((c - u.next) % 256 = 0) else u.step }
def badT (c f : Int) (data : List UInt8) : Bool := decide (c < 0) || decide (255 < c) || decide (f < 0) || (decide ((data.length : Int) ≤ f) && decide (f ≠ 2047) && decide (f ≠ 2046))
/-- what Take does behind the count -/
def US.eat (u : US) (f : Int) (data : List UInt8) : US × List (List UInt8) :=
  let st := u.step && decide (f = fitR u.rest data)
  if !st && decide (f = 2047) then ({ u with step := false, rest := [] }, [])
  else
    let r := packs (if st then u.rest ++ data else data.drop f.toNat)
    ({ u with step := r.1, rest := r.2.1 }, r.2.2)
def US.take (u : US) (c f : Int) (data : List UInt8) : US × List (List UInt8) :=
  if badT c f data then (u, []) else if f = 2046 then (u.count c, []) else (u.count c).eat f data
theorem US.count_bd (u : US) (c : Int) (h : 0 ≤ u.next ∧ u.next < 256) (hl : 0 ≤ u.lost) : (0 ≤ (u.count c).next ∧ (u.count c).next < 256) ∧ 0 ≤ (u.count c).lost ∧ (u.count c).lost ≤ u.lost + 255 ∧ (u.count c).rest = u.rest := by
  unfold US.count
  refine ⟨⟨by simp; omega, by simp; omega⟩, ?_, ?_, rfl⟩
  · dsimp only; split <;> omega
  · dsimp only; split <;> omega
theorem US.eat_bd (u : US) (f : Int) (data : List UInt8) : (u.eat f data).1.next = u.next ∧ (u.eat f data).1.lost = u.lost ∧ (u.eat f data).1.rest.length ≤ 4096 ∧ (u.eat f data).2.length ≤ u.rest.length + data.length := by
  unfold US.eat
  dsimp only
  split
  · simp
  · refine ⟨rfl, rfl, (packs_rest _).1, ?_⟩
    have := (packs_rest (if (u.step && decide (f = fitR u.rest data)) = true then u.rest ++ data else data.drop f.toNat)).2.2
    refine Nat.le_trans this ?_
    split <;> simp <;> omega
theorem US.take_bd (u : US) (c f : Int) (data : List UInt8) (h : 0 ≤ u.next ∧ u.next < 256) (hl : 0 ≤ u.lost) (hr : u.rest.length ≤ 4096) : (0 ≤ (u.take c f data).1.next ∧ (u.take c f data).1.next < 256) ∧ 0 ≤ (u.take c f data).1.lost ∧ (u.take c f data).1.lost ≤ u.lost + 255 ∧ (u.take c f data).1.rest.length ≤ 4096 ∧ (u.take c f data).2.length ≤ u.rest.length + data.length := by
  obtain ⟨h1, h2, h3, h4⟩ := u.count_bd c h hl
  unfold US.take
  split
  · exact ⟨h, hl, by show u.lost ≤ u.lost + 255; omega, hr, by simp⟩
  · split
    · exact ⟨h1, h2, h3, by rw [h4]; exact hr, by simp⟩
    · obtain ⟨e1, e2, e3, e4⟩ := (u.count c).eat_bd f data
      rw [e1, e2]
      exact ⟨h1, h2, h3, e3, by rw [h4] at e4; exact e4⟩
end Go.Proofs.Ytllpbfejoahllaa

/- Memory of PackerKeeps' loops: the packer beside two rows of bytes. No condition. -/
import Derived.Test.YtalghcgedmcifaaZ
namespace Go.Proofs.Ytalghcgedmcifaa
open Go.RowKit Go.Deep Go.ChangeShapes Go.WideShapes Go.ChangeAt
set_option linter.unusedVariables false

/-- what is no place for the packer's data -/
def Yp (b : Nat) (u v : Value) (k : Nat) : Prop := k < b ∨ u.ownBlock = some k ∨ v.ownBlock = some k
/-- a packer and two rows of bytes of the call's own -/
structure PL2 (w : World) (b : Nat) (p : PS) (u v : Value) (xs ys : List UInt8) : Prop where
  at_ : ∃ vW vR, PAt w (Yp b u v) b p vW vR ∧ ∀ k, vW.ownBlock = some k → u.ownBlock ≠ some k ∧ v.ownBlock ≠ some k
  row1 : w.ownsRow (b + 1) 5 1 u xs.length (encB xs)
  row2 : w.ownsRow (b + 1) 5 1 v ys.length (encB ys)
  diff : ∀ k, u.ownBlock = some k → v.ownBlock ≠ some k
theorem PL2.start {w : World} {b : Nat} {p : PS} (h : PF w b p) : PL2 w b p (.slice none 0 0) (.slice none 0 0) [] [] := by
  obtain ⟨vW, vR, h⟩ := h
  refine ⟨⟨vW, vR, h.less (fun k hk => ?_) (fun k hk => ?_), fun k _ => ⟨fun h9 => by simp [Value.ownBlock] at h9, fun h9 => by simp [Value.ownBlock] at h9⟩⟩, World.ownsRow_nil _ _ _ _, World.ownsRow_nil _ _ _ _, fun k h9 => by simp [Value.ownBlock] at h9⟩
  · rcases hk with h9 | h9 | h9
    · exact .inl h9
    · simp [Value.ownBlock] at h9
    · simp [Value.ownBlock] at h9
  · rcases hk with h9 | h9 | h9
    · exact h.xlt k h9
    · simp [Value.ownBlock] at h9
    · simp [Value.ownBlock] at h9
section
variable {w w' w2 w3 : World} {b : Nat} {p q : PS} {u v o u' v' vW vR vW' vR' : Value} {xs ys zs : List UInt8}
theorem PL2.below (h : PL2 w b p u v xs ys) (hB : Below w.heap.size w w') : PL2 w' b p u v xs ys := by
  obtain ⟨vW, vR, h1, h2⟩ := h.at_
  exact ⟨⟨vW, vR, h1.below hB (Nat.le_refl _), h2⟩, own_below h.row1 hB (Nat.le_refl _), own_below h.row2 hB (Nat.le_refl _), h.diff⟩
theorem PL2.quiet (h : PL2 w b p u v xs ys) (hq : Quiet w w') : PL2 w' b p u v xs ys := h.below hq.below
theorem PL2.lt (h : PL2 w b p u v xs ys) : b < w.heap.size := by
  obtain ⟨vW, vR, h1, h2⟩ := h.at_
  exact h1.blk.lt
/-- append to the first row -/
theorem PL2.app1 (h : PL2 w b p u v xs ys) (how : w3.ownsRow (b + 1) 5 1 u' (xs.length + zs.length) (encB xs ++ encB zs)) (hg : w.grownBy w3 u.ownBlock) (hb : u'.ownBlock = u.ownBlock ∨ u'.ownBlock = some w.heap.size) : PL2 w3 b p u' v (xs ++ zs) ys := by
  obtain ⟨vW, vR, hP, hne⟩ := h.at_
  have hF3 : Fr (fun k => u.ownBlock = some k) w w3 := (Fr.refl _ _).grown hg (fun k hk => .inl hk)
  refine ⟨⟨vW, vR, hP.move hF3 (fun h9 => ?_) (fun k hk h9 => (hne k hk).1 h9) (fun k hk => .inl (.inr (.inl hk))) (fun k hk => ?_) (fun k hk => ?_), fun k hk => ⟨fun h9 => ?_, (hne k hk).2⟩⟩, by rw [List.length_append, encB_append]; exact how, own_fr h.row2 hF3 (fun k hk h9 => h.diff k h9 hk), fun k hk h9 => ?_⟩
  · have := (h.row1.lt b h9).1; omega
  · rcases hk with hk | hk | hk
    · exact .inl (.inl hk)
    · rcases hb with e | e
      · exact .inl (.inr (.inl (by rw [← e]; exact hk)))
      · rw [e] at hk; cases hk; exact .inr (Nat.le_refl _)
    · exact .inl (.inr (.inr hk))
  · rcases hk with hk | hk | hk
    · have := hP.blk.lt; have := hF3.size; omega
    · exact (how.lt k hk).2
    · have := (h.row2.lt k hk).2; have := hF3.size; omega
  · rcases hb with e | e
    · exact (hne k hk).1 (by rw [← e]; exact h9)
    · rw [e] at h9; cases h9
      have := (hP.lt _ hk).2; omega
  · rcases hb with e | e
    · exact h.diff k (by rw [← e]; exact hk) h9
    · rw [e] at hk; cases hk
      have := (h.row2.lt _ h9).2; omega
theorem PL2.push (h1 : w.ownsRow (b + 1) 5 1 u xs.length (encB xs)) (h2 : w.ownsRow (b + 1) 5 1 v ys.length (encB ys)) (hd : ∀ k, u.ownBlock = some k → v.ownBlock ≠ some k) (hne : ∀ k, vW.ownBlock = some k → u.ownBlock ≠ some k ∧ v.ownBlock ≠ some k) (hP : PAt w' (Yp b u v) b q vW' vR) (hF : Fr (Mine b vW) w w') (hC : vW'.ownBlock = vW.ownBlock ∨ ∀ k, vW'.ownBlock = some k → w.heap.size ≤ k) : PL2 w' b q u v xs ys := by
  refine ⟨⟨_, _, hP, fun k hk => ?_⟩, own_fr h1 hF (fun k hk h9 => ?_), own_fr h2 hF (fun k hk h9 => ?_), hd⟩
  · rcases hC with e | e
    · exact hne k (by rw [← e]; exact hk)
    · have h9 := e k hk
      exact ⟨fun h => by have := (h1.lt k h).2; omega, fun h => by have := (h2.lt k h).2; omega⟩
  · rcases h9 with h9 | h9
    · have := (h1.lt k hk).1; omega
    · exact (hne k h9).1 hk
  · rcases h9 with h9 | h9
    · have := (h2.lt k hk).1; omega
    · exact (hne k h9).2 hk
/-- Next, then its bytes are appended to the second row -/
theorem PL2.next (h1 : w.ownsRow (b + 1) 5 1 u xs.length (encB xs)) (h2 : w.ownsRow (b + 1) 5 1 v ys.length (encB ys)) (hd : ∀ k, u.ownBlock = some k → v.ownBlock ≠ some k) (hne : ∀ k, vW.ownBlock = some k → u.ownBlock ≠ some k ∧ v.ownBlock ≠ some k)
    (hP : PAt w2 (Xo (Yp b u v) o) b q vW' vR') (hF : Fr (fun k => k = b) w w2) (hC : vW'.ownBlock = vW.ownBlock ∨ ∀ k, vW'.ownBlock = some k → w.heap.size ≤ k)
    (how : w3.ownsRow (b + 1) 5 1 v' (ys.length + zs.length) (encB ys ++ encB zs)) (hg : w2.grownBy w3 v.ownBlock) (hb : v'.ownBlock = v.ownBlock ∨ v'.ownBlock = some w2.heap.size) : PL2 w3 b q u v' xs (ys ++ zs) := by
  have hs := hF.size
  have hu : ∀ k, vW'.ownBlock = some k → u.ownBlock ≠ some k ∧ v.ownBlock ≠ some k := fun k hk => by
    rcases hC with e | e
    · exact hne k (by rw [← e]; exact hk)
    · have h9 := e k hk
      exact ⟨fun h => by have := (h1.lt k h).2; omega, fun h => by have := (h2.lt k h).2; omega⟩
  have hF3 : Fr (fun k => v.ownBlock = some k) w2 w3 := (Fr.refl _ _).grown hg (fun k hk => .inl hk)
  have hr1 : w2.ownsRow (b + 1) 5 1 u xs.length (encB xs) := own_fr h1 hF (fun k hk h9 => by have := (h1.lt k hk).1; omega)
  refine ⟨⟨vW', vR', hP.move hF3 (fun h9 => ?_) (fun k hk h9 => (hu k hk).2 h9) (fun k hk => .inl (.inl (.inr (.inr hk)))) (fun k hk => ?_) (fun k hk => ?_), fun k hk => ⟨(hu k hk).1, fun h9 => ?_⟩⟩, own_fr hr1 hF3 (fun k hk h9 => hd k hk h9), by rw [List.length_append, encB_append]; exact how, fun k hk h9 => ?_⟩
  · have := (h2.lt b h9).1; omega
  · rcases hk with hk | hk | hk
    · exact .inl (.inl (.inl hk))
    · exact .inl (.inl (.inr (.inl hk)))
    · rcases hb with e | e
      · exact .inl (.inl (.inr (.inr (by rw [← e]; exact hk))))
      · rw [e] at hk; cases hk; exact .inr (Nat.le_refl _)
  · rcases hk with hk | hk | hk
    · have := hP.blk.lt; have := hF3.size; omega
    · have := (hr1.lt k hk).2; have := hF3.size; omega
    · exact (how.lt k hk).2
  · rcases hb with e | e
    · exact (hu k hk).2 (by rw [← e]; exact h9)
    · rw [e] at h9; cases h9
      have := (hP.lt _ hk).2; omega
  · rcases hb with e | e
    · exact hd k hk (by rw [← e]; exact h9)
    · rw [e] at h9; cases h9
      have := (h1.lt _ hk).2; omega
theorem slen_row {w : World} {B n : Nat} {v : Value} {xs : List UInt8} (h : w.ownsRow B 5 1 v n (encB xs)) : slen v = xs.length := by
  obtain ⟨-, a, c, rfl, -⟩ := BAt.of_row h
  rfl
end
end Go.Proofs.Ytalghcgedmcifaa

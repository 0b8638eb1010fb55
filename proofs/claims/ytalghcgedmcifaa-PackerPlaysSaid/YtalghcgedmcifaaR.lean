/- Memory of the laws' loops: the packer beside one row of bytes. No condition. -/
import Derived.Test.YtalghcgedmcifaaP
namespace Go.Proofs.Ytalghcgedmcifaa
open Go.RowKit Go.Deep Go.ChangeShapes Go.WideShapes Go.ChangeAt
set_option linter.unusedVariables false

theorem filled_ok (l : List UInt8) (s i : Nat) (h1 : 1 ≤ s) (h2 : s ≤ 1012) (h : i ≤ 60) : (filled l s i).Ok := by
  have h3 := pks_len l i
  refine ⟨⟨h1, h2⟩, Nat.le_refl _, by unfold filled; simp, by unfold filled; dsimp only; omega, ?_, fun _ => rfl, ?_, by unfold filled; simp⟩
  · intro x xs e
    have hx : x ∈ pks l i := by
      have : (pks l i) = x :: xs := e
      rw [this]; simp
    show 0 < x.length
    have := (pks_good l i x hx).len
    omega
  · intro x hx
    obtain ⟨j, -, rfl⟩ := List.mem_map.1 hx
    have := pkAt_len l j
    omega
/-- a packer, the data in no block ahead of it -/
def PF (w : World) (b : Nat) (p : PS) : Prop := ∃ vW vR, PAt w (fun k => k < b) b p vW vR
theorem PF.below {w w' : World} {b : Nat} {p : PS} (h : PF w b p) (hB : Below w.heap.size w w') : PF w' b p := by
  obtain ⟨vW, vR, h⟩ := h
  exact ⟨_, _, h.below hB (Nat.le_refl _)⟩
/-- what is no place for the packer's data -/
def Yo (b : Nat) (v : Value) (k : Nat) : Prop := k < b ∨ v.ownBlock = some k
/-- a packer and a row of bytes of the call's own -/
structure PL (wr : World) (b : Nat) (p : PS) (v : Value) (all : List UInt8) : Prop where
  at_ : ∃ vW vR, PAt wr (Yo b v) b p vW vR ∧ ∀ k, vW.ownBlock = some k → v.ownBlock ≠ some k
  row : wr.ownsRow (b + 1) 5 1 v all.length (encB all)
theorem PL.start {w : World} {b : Nat} {p : PS} (h : PF w b p) : PL w b p (.slice none 0 0) [] := by
  obtain ⟨vW, vR, h⟩ := h
  refine ⟨⟨vW, vR, h.less (fun k hk => ?_) (fun k hk => ?_), fun k _ h9 => by simp [Value.ownBlock] at h9⟩, World.ownsRow_nil _ _ _ _⟩
  · rcases hk with h9 | h9
    · exact .inl h9
    · simp [Value.ownBlock] at h9
  · rcases hk with h9 | h9
    · exact h.xlt k h9
    · simp [Value.ownBlock] at h9
theorem PL.quiet {w w' : World} {b : Nat} {p : PS} {v : Value} {all : List UInt8} (h : PL w b p v all) (hq : Quiet w w') : PL w' b p v all := by
  obtain ⟨vW, vR, h1, h2⟩ := h.at_
  exact ⟨⟨vW, vR, h1.quiet hq, h2⟩, by obtain ⟨m, rfl⟩ := hq; exact own_drewN h.row m⟩
theorem PL.lt {w : World} {b : Nat} {p : PS} {v : Value} {all : List UInt8} (h : PL w b p v all) : b < w.heap.size := by
  obtain ⟨vW, vR, h1, h2⟩ := h.at_
  exact h1.blk.lt
/-- Next, then its bytes are appended -/
theorem PL.next {wr w2 w3 : World} {b : Nat} {p q : PS} {vW vR vW' vR' v8 v v8' : Value} {all out : List UInt8} (hP : PAt wr (Yo b v8) b p vW vR) (hne : ∀ k, vW.ownBlock = some k → v8.ownBlock ≠ some k) (hrow : wr.ownsRow (b + 1) 5 1 v8 all.length (encB all))
    (h2 : PAt w2 (Xo (Yo b v8) v) b q vW' vR') (hF : Fr (fun k => k = b) wr w2) (hC : vW'.ownBlock = vW.ownBlock ∨ ∀ k, vW'.ownBlock = some k → wr.heap.size ≤ k)
    (how : w3.ownsRow (b + 1) 5 1 v8' (all.length + out.length) (encB all ++ encB out)) (hg : w2.grownBy w3 v8.ownBlock) (hb : v8'.ownBlock = v8.ownBlock ∨ v8'.ownBlock = some w2.heap.size) : PL w3 b q v8' (all ++ out) := by
  have hs := hF.size
  have hu : ∀ k, vW'.ownBlock = some k → v8.ownBlock ≠ some k := fun k hk h9 => by
    rcases hC with e | e
    · exact hne k (by rw [← e]; exact hk) h9
    · have := e k hk
      have := (hrow.lt k h9).2
      omega
  have hF3 : Fr (fun k => v8.ownBlock = some k) w2 w3 := (Fr.refl _ _).grown hg (fun k hk => .inl hk)
  refine ⟨⟨vW', vR', h2.move hF3 (fun h9 => ?_) (fun k hk h9 => hu k hk h9) (fun k hk => .inl (.inl (.inr hk))) (fun k hk => ?_) (fun k hk => ?_), fun k hk h9 => ?_⟩, by rw [List.length_append, encB_append]; exact how⟩
  · have := (hrow.lt b h9).1; omega
  · rcases hk with hk | hk
    · exact .inl (.inl (.inl hk))
    · rcases hb with e | e
      · exact .inl (.inl (.inr (by rw [← e]; exact hk)))
      · rw [e] at hk; cases hk; exact .inr (Nat.le_refl _)
  · rcases hk with hk | hk
    · have := h2.blk.lt; have := hF3.size; omega
    · exact (how.lt k hk).2
  · rcases hb with e | e
    · exact hu k hk (by rw [← e]; exact h9)
    · rw [e] at h9; cases h9
      have := (h2.lt _ hk).2; omega
/-- the row is where it was -/
theorem PL.kept {wr w2 : World} {b : Nat} {v8 : Value} {all : List UInt8} (hrow : wr.ownsRow (b + 1) 5 1 v8 all.length (encB all)) (hF : Fr (fun k => k = b) wr w2) : w2.ownsRow (b + 1) 5 1 v8 all.length (encB all) :=
  own_fr hrow hF (fun k hk h9 => by have := (hrow.lt k hk).1; omega)
end Go.Proofs.Ytalghcgedmcifaa

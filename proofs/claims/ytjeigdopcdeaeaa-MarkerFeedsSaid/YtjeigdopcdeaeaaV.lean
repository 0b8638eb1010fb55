/- The reference's scan of a stream, in plain lists: what a marker at i, and the end, say of feed. No condition. -/
import Derived.Test.YtjeigdopcdeaeaaU
namespace Go.Proofs.Ytjeigdopcdeaeaa
open Go.RowKit Go.Deep Scr
set_option linter.unusedVariables false

/-- no whole marker from f up to i -/
def NoMk (b : List UInt8) (f i : Nat) : Prop := ∀ j, f ≤ j → j < i → full (b.drop j) = false
theorem NoMk.skip {b : List UInt8} {f i : Nat} (h : i < f) : NoMk b f (i + 1) := fun j h1 h2 => by omega
theorem NoMk.step {b : List UInt8} {f i : Nat} (h : NoMk b f i) (hi : full (b.drop i) = false) : NoMk b f (i + 1) := fun j h1 h2 => by
  rcases Nat.lt_or_ge j i with h3 | h3
  · exact h j h1 h3
  · obtain rfl : j = i := by omega
    exact hi
theorem scan_beg {b : List UInt8} {f i : Nat} (hf : f ≤ i) (h : NoMk b f i) (hi : full (b.drop i) = true) : beg (b.drop f) = i - f := by
  refine beg_first _ _ (fun j hj => ?_) ?_
  · rw [List.drop_drop]; exact h _ (by omega) (by omega)
  · rw [List.drop_drop, show f + (i - f) = i by omega]; exact hi
theorem scan_stop {b : List UInt8} {f i : Nat} (size : Nat) (hf : f ≤ i) (h : NoMk b f i) (hi : full (b.drop i) = true) (hl : b.length < i + 4 + size) : (feed size (b.drop f)).1 = [] ∧ (feed size (b.drop f)).2.1 = i - f := by
  have hb := scan_beg hf h hi
  rw [feed_few size _ (by rw [hb, List.drop_drop, List.length_drop]; omega), hb]
  exact ⟨rfl, rfl⟩
theorem scan_more {b : List UInt8} {f i : Nat} (size : Nat) (hf : f ≤ i) (h : NoMk b f i) (hi : full (b.drop i) = true) (hl : i + 4 + size ≤ b.length) :
    (feed size (b.drop f)).1 = appB ((b.drop (i + 4)).take size) :: (feed size (b.drop (i + 4 + size))).1 ∧ (feed size (b.drop f)).2.1 = (i - f) + (feed size (b.drop (i + 4 + size))).2.1 := by
  have hb := scan_beg hf h hi
  have hd : (b.drop f).drop (i - f) = b.drop i := by rw [List.drop_drop, show f + (i - f) = i by omega]
  have hm := feed_more size (b.drop f) (by rw [hb, hd, List.length_drop]; omega)
  rw [hb, hd, List.drop_drop, List.drop_drop, ← Nat.add_assoc] at hm
  rw [hm]
  exact ⟨rfl, rfl⟩
theorem scan_end {b : List UInt8} {f : Nat} (size : Nat) (hf : f ≤ b.length) (h : NoMk b f b.length) : (feed size (b.drop f)).1 = [] ∧ (feed size (b.drop f)).2.1 = (b.length - f) - tailN (b.drop f) := by
  have := feed_tail size (b.drop f) (fun j hj => by rw [List.drop_drop]; simp at hj; exact h _ (by omega) (by omega))
  rw [List.length_drop] at this
  exact this
end Go.Proofs.Ytjeigdopcdeaeaa

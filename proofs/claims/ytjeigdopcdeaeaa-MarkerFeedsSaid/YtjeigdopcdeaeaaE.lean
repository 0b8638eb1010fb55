/- The Finder: what it holds; NewFinder, Skipped. No condition. -/
import Derived.Test.YtjeigdopcdeaeaaD
namespace Go.Proofs.Ytjeigdopcdeaeaa
open Go.RowKit Go.Deep Go.ChangeShapes Go.WideShapes Go.ChangeAt Scr
set_option linter.unusedVariables false

def fcells (size sk : Nat) (v : Value) : List Value := [.int .i64 size, .int .i64 sk, v]
/-- a Finder at block b, between two calls -/
structure FinAt (w : World) (b : Nat) (size sk : Nat) (v : Value) (rest : List UInt8) : Prop where
  blk : Blk w b 41 (fcells size sk v)
  own : w.ownsRow 0 5 1 v rest.length (encB rest)
  ne : v.ownBlock ≠ some b
def FOwn (b : Nat) (v : Value) (k : Nat) : Prop := k = b ∨ v.ownBlock = some k
theorem FinAt.walk {w : World} {b size sk : Nat} {v : Value} {rest : List UInt8} (h : FinAt w b size sk v rest) : b < w.heap.size ∧ w.cell? ⟨b, 0, none⟩ = some (.int .i64 size) ∧ w.cell? ⟨b, 1, none⟩ = some (.int .i64 sk) ∧ w.cell? ⟨b, 2, none⟩ = some v ∧ w.frozen? ⟨b, 1, none⟩ = false ∧ w.frozen? ⟨b, 2, none⟩ = false :=
  ⟨h.blk.lt, h.blk.at 0 rfl, h.blk.at 1 rfl, h.blk.at 2 rfl, h.blk.free 1, h.blk.free 2⟩
theorem FinAt.fr {w w' : World} {b size sk : Nat} {v : Value} {rest : List UInt8} {S : Nat → Prop} (h : FinAt w b size sk v rest) (hf : Fr S w w') (hs : ∀ k, FOwn b v k → ¬ S k) : FinAt w' b size sk v rest :=
  ⟨h.blk.fr hf (hs b (.inl rfl)), own_fr h.own hf (fun k hk => hs k (.inr hk)), h.ne⟩
theorem FinAt.below {w w' : World} {b size sk : Nat} {v : Value} {rest : List UInt8} {B : Nat} (h : FinAt w b size sk v rest) (hf : Below B w w') (hB : w.heap.size ≤ B) : FinAt w' b size sk v rest :=
  ⟨h.blk.below hf hB, own_below h.own hf hB, h.ne⟩
theorem new_ok (size : Nat) (w : World) (h1 : 1 ≤ size) (h2 : size ≤ 1024) : Calls Try.prog 11 #[.int .i64 (size : Int)] w fun e w' => e = .returned (.pointer (some ⟨w.heap.size, 0, none⟩)) ∧ FinAt w' w.heap.size size 0 (.slice none 0 0) [] ∧ Below w.heap.size w w' := by
  have g1 : ¬ (size : Int) < 1 := by omega
  have g2 : ¬ (1024 : Int) < (size : Int) := by omega
  go_enter Try.func11, Try.ntmps11
  go_wp2
  go_ret
  exact ⟨rfl, ⟨Blk.cast (Blk.new w 41 _) rfl, World.ownsRow_nil _ _ _ _, by simp [Value.ownBlock]⟩, al (Below.refl _ _) _⟩
theorem new_bad (size : Int) (w : World) (h : ¬ (1 ≤ size ∧ size ≤ 1024)) : Calls Try.prog 11 #[.int .i64 size] w fun e w' => e = .returned (.pointer none) ∧ w' = w := by
  by_cases h1 : size < 1
  · go_enter Try.func11, Try.ntmps11
    go_wp2
    go_ret
    exact ⟨rfl, rfl⟩
  · have h2 : 1024 < size := by omega
    go_enter Try.func11, Try.ntmps11
    go_wp2
    go_ret
    exact ⟨rfl, rfl⟩
theorem skipped_any (b size sk : Nat) (v : Value) (rest : List UInt8) (w : World) (h : FinAt w b size sk v rest) : Calls Try.prog 13 #[.pointer (some ⟨b, 0, none⟩)] w fun e w' => e = .returned (.int .i64 sk) ∧ w' = w := by
  obtain ⟨hb, c0, c1, c2, f1, f2⟩ := h.walk
  clear h
  go_enter Try.func13, Try.ntmps13
  go_wp2
  go_ret
  exact ⟨rfl, rfl⟩
theorem skipped_nil (w : World) : Calls Try.prog 13 #[.pointer none] w fun e w' => e = .returned (.int .i64 0) ∧ w' = w := by
  go_enter Try.func13, Try.ntmps13
  go_wp2
  go_ret
  exact ⟨rfl, rfl⟩
end Go.Proofs.Ytjeigdopcdeaeaa

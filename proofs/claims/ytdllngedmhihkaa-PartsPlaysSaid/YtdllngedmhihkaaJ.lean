/- Packets in memory; Split. No condition. -/
import Derived.Test.YtdllngedmhihkaaI
namespace Go.Proofs.Ytdllngedmhihkaa
open Go.RowKit Go.Deep Go.ChangeShapes Go.WideShapes Go.ChangeAt
set_option linter.unusedVariables false

/-- a packet -/
structure PK where
  cm : Bool
  sc : Bool
  ap : Int
  fl : Int
  ct : Int
  dat : List UInt8
def PK.val (p : PK) (a : Option Addr) (cap : Nat) : Value := Pk p.cm p.sc p.ap p.fl p.ct a p.dat.length cap
def PK.cell (p : PK) (a : Option Addr) (cap : Nat) (j : Nat) : Option Value := [Value.bool p.cm, .bool p.sc, .int .i64 p.ap, .int .i64 p.fl, .int .i64 p.ct, .slice a p.dat.length cap][j]?
/-- a packet in the cells from ⟨b, off⟩ on, all of it below block hi -/
def PCell (w : World) (hi b off : Nat) (p : PK) : Prop :=
  b < hi ∧ ∃ a cap, (∀ j, j < 6 → w.cell? ⟨b, off + j, none⟩ = p.cell a cap j) ∧ BAt w a p.dat ∧ p.dat.length ≤ cap ∧ ∀ q, a = some q → p.dat ≠ [] → q.block < hi
/-- a slice of packets, all of it below block hi -/
def Pks (w : World) (hi : Nat) (v : Value) (ps : List PK) : Prop :=
  hi ≤ w.heap.size ∧ ∃ a cap, v = .slice a ps.length cap ∧ ps.length ≤ cap ∧ (ps = [] ∨ ∃ b off, a = some ⟨b, off, none⟩ ∧ ∀ i (h : i < ps.length), PCell w hi b (off + i * 6) ps[i])
/-- blocks below hi are as they were -/
def Same (hi : Nat) (w w' : World) : Prop := w.heap.size ≤ w'.heap.size ∧ ∀ k, k < hi → w'.heap[k]? = w.heap[k]?
theorem Same.refl (hi : Nat) (w : World) : Same hi w w := ⟨Nat.le_refl _, fun _ _ => rfl⟩
theorem Same.trans {hi : Nat} {a b c : World} (h : Same hi a b) (k : Same hi b c) : Same hi a c := ⟨Nat.le_trans h.1 k.1, fun i hi => (k.2 i hi).trans (h.2 i hi)⟩
theorem Same.below {hi B : Nat} {w w' : World} (h : Below B w w') (hB : hi ≤ B) : Same hi w w' := ⟨h.size, fun k hk => h.block k (by omega)⟩
theorem Same.fr {hi : Nat} {S : Nat → Prop} {w w' : World} (h : Fr S w w') (hw : hi ≤ w.heap.size) (hS : ∀ k, S k → hi ≤ k) : Same hi w w' := ⟨h.size, fun k hk => h.block k (by omega) (fun hs => by have := hS k hs; omega)⟩
theorem Same.drew {hi : Nat} {w w' : World} (h : Same hi w w') : Same hi w w'.drew := h
theorem Same.mono {hi hi' : Nat} {w w' : World} (h : Same hi w w') (hh : hi' ≤ hi) : Same hi' w w' := ⟨h.1, fun k hk => h.2 k (by omega)⟩
theorem Same.cell {hi : Nat} {w w' : World} (h : Same hi w w') {p : Addr} (hp : p.block < hi) : w'.cell? p = w.cell? p := World.cell?_of_block (w := w) (h.2 p.block hp)
theorem BAt.same {hi : Nat} {w w' : World} {a : Option Addr} {l : List UInt8} (h : BAt w a l) (hs : Same hi w w') (ha : ∀ q, a = some q → l ≠ [] → q.block < hi) : BAt w' a l := by
  by_cases hl : l = []
  · exact .inl hl
  · rcases h with h | ⟨b, off, h1, h2, h3⟩
    · exact .inl h
    · exact .inr ⟨b, off, h1, Nat.lt_of_lt_of_le h2 hs.1, fun i hi2 => (hs.cell (p := ⟨b, off + i, none⟩) (show b < hi from ha ⟨b, off, none⟩ h1 hl)).trans (h3 i hi2)⟩
theorem PCell.same {w w' : World} {hi b off : Nat} {p : PK} (h : PCell w hi b off p) (hs : Same hi w w') : PCell w' hi b off p := by
  obtain ⟨h1, a, cap, h2, h3, h4, h5⟩ := h
  exact ⟨h1, a, cap, fun j hj => (hs.cell (p := ⟨b, off + j, none⟩) h1).trans (h2 j hj), h3.same hs h5, h4, h5⟩
theorem PCell.mono {w : World} {hi hi' b off : Nat} {p : PK} (h : PCell w hi b off p) (hh : hi ≤ hi') : PCell w hi' b off p := by
  obtain ⟨h1, a, cap, h2, h3, h4, h5⟩ := h
  exact ⟨by omega, a, cap, h2, h3, h4, fun q hq hn => by have := h5 q hq hn; omega⟩
theorem Pks.same {w w' : World} {hi : Nat} {v : Value} {ps : List PK} (h : Pks w hi v ps) (hs : Same hi w w') : Pks w' hi v ps := by
  obtain ⟨h0, a, cap, h1, h2, h3⟩ := h
  refine ⟨Nat.le_trans h0 hs.1, a, cap, h1, h2, ?_⟩
  rcases h3 with h3 | ⟨b, off, h3, h4⟩
  · exact .inl h3
  · exact .inr ⟨b, off, h3, fun i hi => (h4 i hi).same hs⟩
theorem Pks.mono {w : World} {hi hi' : Nat} {v : Value} {ps : List PK} (h : Pks w hi v ps) (hh : hi ≤ hi') (hw : hi' ≤ w.heap.size) : Pks w hi' v ps := by
  obtain ⟨h0, a, cap, h1, h2, h3⟩ := h
  refine ⟨hw, a, cap, h1, h2, ?_⟩
  rcases h3 with h3 | ⟨b, off, h3, h4⟩
  · exact .inl h3
  · exact .inr ⟨b, off, h3, fun i hi => (h4 i hi).mono hh⟩

/-- Split may not -/
def badB (ap ct most : Int) (n : Nat) : Prop := okB ap ct = false ∨ most < 1 ∨ 4090 < most ∨ n = 0
theorem split_err (c sc : Bool) (ap fl ct : Int) (pa : Option Addr) (pn pc : Nat) (a : Option Addr) (n cap : Nat) (most : Int) (w : World) (hn : n ≤ 1000000000) (h : badB ap ct most n) :
    Calls Try.prog 10 #[Pk c sc ap fl ct pa pn pc, .slice a n cap, .int .i64 most] w fun e w' => e = .returned (.tuple #[.slice none 0 0, .int .i64 1]) ∧ Below w.heap.size w w' := by
  unfold Pk
  cases hk : okB ap ct
  · go_enter Try.func10, Try.ntmps10
    go_wp2_with (go_at_call 19; refine (counted_any _ _ _).mono ?_; rintro e w2 ⟨rfl, rfl⟩)
    go_ret2
    exact ⟨rfl, al (Below.refl _ _) _⟩
  · by_cases h1 : most < 1
    · go_enter Try.func10, Try.ntmps10
      go_wp2_with (go_at_call 19; refine (counted_any _ _ _).mono ?_; rintro e w2 ⟨rfl, rfl⟩)
      go_ret2
      exact ⟨rfl, al (Below.refl _ _) _⟩
    · by_cases h2 : 4090 < most
      · go_enter Try.func10, Try.ntmps10
        go_wp2_with (go_at_call 19; refine (counted_any _ _ _).mono ?_; rintro e w2 ⟨rfl, rfl⟩)
        go_ret2
        exact ⟨rfl, al (Below.refl _ _) _⟩
      · obtain rfl : n = 0 := by
          rcases h with h | h | h | h
          · rw [hk] at h; cases h
          · exact absurd h h1
          · exact absurd h h2
          · exact h
        go_enter Try.func10, Try.ntmps10
        go_wp2_with (go_at_call 19; refine (counted_any _ _ _).mono ?_; rintro e w2 ⟨rfl, rfl⟩)
        go_ret2
        exact ⟨rfl, al (Below.refl _ _) _⟩
theorem rsplit_err (c sc : Bool) (ap fl ct : Int) (pa : Option Addr) (pn pc : Nat) (a : Option Addr) (n cap : Nat) (most : Int) (w : World) (hn : n ≤ 1000000000) (h : badB ap ct most n) :
    Calls Try.prog 11 #[Pk c sc ap fl ct pa pn pc, .slice a n cap, .int .i64 most] w fun e w' => e = .returned (.tuple #[.slice none 0 0, .int .i64 1]) ∧ Below w.heap.size w w' := by
  unfold Pk
  cases hk : okB ap ct
  · go_enter Try.func11, Try.ntmps11
    go_wp2_with (go_at_call 23; refine (header_at _ _ _ _ _ _ _ _ _).mono ?_; rintro e w2 ⟨rfl, rfl⟩)
    go_ret2
    exact ⟨rfl, al (al (Below.refl _ _) _) _⟩
  · by_cases h1 : most < 1
    · go_enter Try.func11, Try.ntmps11
      go_wp2_with (go_at_call 23; refine (header_at _ _ _ _ _ _ _ _ _).mono ?_; rintro e w2 ⟨rfl, rfl⟩)
      go_ret2
      exact ⟨rfl, al (al (Below.refl _ _) _) _⟩
    · by_cases h2 : 4090 < most
      · go_enter Try.func11, Try.ntmps11
        go_wp2_with (go_at_call 23; refine (header_at _ _ _ _ _ _ _ _ _).mono ?_; rintro e w2 ⟨rfl, rfl⟩)
        go_ret2
        exact ⟨rfl, al (al (Below.refl _ _) _) _⟩
      · obtain rfl : n = 0 := by
          rcases h with h | h | h | h
          · rw [hk] at h; cases h
          · exact absurd h h1
          · exact absurd h h2
          · exact h
        go_enter Try.func11, Try.ntmps11
        go_wp2_with (go_at_call 23; refine (header_at _ _ _ _ _ _ _ _ _).mono ?_; rintro e w2 ⟨rfl, rfl⟩)
        go_ret2
        exact ⟨rfl, al (al (Below.refl _ _) _) _⟩
end Go.Proofs.Ytdllngedmhihkaa

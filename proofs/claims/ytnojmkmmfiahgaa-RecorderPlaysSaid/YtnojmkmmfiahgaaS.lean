/- Helper facts without a program: blocks that are known whole, frames but for some blocks, rows of bytes in them. No condition. -/
import Derived.Test.YtnojmkmmfiahgaaK
import Derived.OneCell
import Derived.Deep.AppendLies
namespace Go.Proofs.Ytnojmkmmfiahgaa
open Go.ChangeShapes Go.WideShapes Go.ChangeAt Go.RowKit Go.Deep

/-- Blocks outside S are as they were; the streams too; no block has gone. -/
structure Fr (S : Nat → Prop) (w w' : World) : Prop where
  os : w'.os = w.os
  tape : w'.tape = w.tape
  output : w'.output = w.output
  size : w.heap.size ≤ w'.heap.size
  block : ∀ k, k < w.heap.size → ¬ S k → w'.heap[k]? = w.heap[k]?
section
variable {S T : Nat → Prop} {a b c w w' : World}
theorem Fr.refl (S : Nat → Prop) (w : World) : Fr S w w := ⟨rfl, rfl, rfl, Nat.le_refl _, fun _ _ _ => rfl⟩
theorem Fr.trans (h : Fr S a b) (k : Fr S b c) : Fr S a c :=
  ⟨k.os.trans h.os, k.tape.trans h.tape, k.output.trans h.output, Nat.le_trans h.size k.size, fun i hi hs => (k.block i (Nat.lt_of_lt_of_le hi h.size) hs).trans (h.block i hi hs)⟩
/-- What the second step may change is what the first may, or is new. -/
theorem Fr.then (h : Fr S a b) (k : Fr T b c) (hT : ∀ i, T i → S i ∨ a.heap.size ≤ i) : Fr S a c :=
  ⟨k.os.trans h.os, k.tape.trans h.tape, k.output.trans h.output, Nat.le_trans h.size k.size, fun i hi hs => (k.block i (Nat.lt_of_lt_of_le hi h.size) (fun ht => by rcases hT i ht with h1 | h1; exact hs h1; omega)).trans (h.block i hi hs)⟩
theorem Fr.wide (h : Fr T a b) (hT : ∀ i, T i → S i ∨ a.heap.size ≤ i) : Fr S a b := (Fr.refl S a).then h hT
theorem Fr.drew (h : Fr S a w) : Fr S a w.drew := ⟨h.os, h.tape, h.output, h.size, h.block⟩
theorem Fr.drewN (h : Fr S a w) (n : Nat) : Fr S a (w.drewN n) := ⟨h.os, h.tape, h.output, h.size, h.block⟩
theorem Fr.alloc (h : Fr S a w) (o : Obj) : Fr S a (w.alloc o) :=
  h.trans ⟨rfl, rfl, rfl, by simp, fun k hk _ => Below.heap_alloc _ _ _ hk⟩
theorem Fr.setCell (h : Fr S a w) {p : Addr} (hp : S p.block ∨ a.heap.size ≤ p.block) (u : Value) : Fr S a (w.setCell p u) :=
  h.then (T := fun k => k = p.block) ⟨rfl, rfl, rfl, by simp [World.setCell], fun k _ hk => Below.heap_setCell _ _ _ _ hk⟩ (fun i hi => by subst hi; exact hp)
theorem Fr.set1 (h : Fr S a w) {b i : Nat} (u : Value) (hp : S b ∨ a.heap.size ≤ b) : Fr S a (w.setCell ⟨b, i, none⟩ u) := h.setCell (p := ⟨b, i, none⟩) hp u
theorem Fr.grown {row : Option Nat} (h : Fr S a w) (hg : w.grownBy w' row) (hr : ∀ k, row = some k → S k ∨ a.heap.size ≤ k) : Fr S a w' :=
  h.then (T := fun k => row = some k) ⟨hg.os, hg.tape, hg.output, hg.size, fun k hk hs => hg.block k hk (fun e => hs e.symm)⟩ hr
theorem Fr.below {B : Nat} (h : Fr S a w) (hb : Below B w w') (hB : w.heap.size ≤ B) : Fr S a w' :=
  h.trans ⟨hb.os, hb.tape, hb.output, hb.size, fun k hk _ => hb.block k (by omega)⟩
theorem Fr.of_below {B : Nat} (hb : Below B w w') (hB : w.heap.size ≤ B) : Fr S w w' := (Fr.refl S w).below hb hB
theorem Fr.toBelow {B : Nat} (h : Fr S a w) (hB : B ≤ a.heap.size) (hS : ∀ k, S k → B ≤ k) : Below B a w :=
  ⟨h.os, h.tape, h.output, h.size, fun k hk => h.block k (by omega) (fun hs => by have := hS k hs; omega)⟩
theorem Fr.cell (h : Fr S w w') {p : Addr} (hp : p.block < w.heap.size) (hs : ¬ S p.block) : w'.cell? p = w.cell? p := World.cell?_of_block (w := w) (h.block p.block hp hs)
theorem Fr.quiet (h : Fr S a w) (hq : Quiet w w') : Fr S a w' := by obtain ⟨m, rfl⟩ := hq; exact h.drewN m
theorem al {a w : World} (h : Below a.heap.size a w) (o : Obj) : Below a.heap.size a (w.alloc o) := h.alloc h.size o
theorem undrew {w w1 : World} (h : Below w.drew.heap.size w.drew w1) : Below w.heap.size w w1 := ⟨h.os, h.tape, h.output, h.size, h.block⟩
theorem undrewN {w w1 : World} {n : Nat} (h : Below (w.drewN n).heap.size (w.drewN n) w1) : Below w.heap.size w w1 := ⟨h.os, h.tape, h.output, h.size, h.block⟩
theorem Fr.undrew (h : Fr S w.drew w') : Fr S w w' := ⟨h.os, h.tape, h.output, h.size, h.block⟩
theorem Fr.undrewN {n : Nat} (h : Fr S (w.drewN n) w') : Fr S w w' := ⟨h.os, h.tape, h.output, h.size, h.block⟩
end

/-- block b holds the cells xs, all of which may be written -/
def Blk (w : World) (b : Nat) (T : TypeId) (xs : List Value) : Prop := w.heap[b]? = some (.cells xs.toArray T (0, 0))
section
variable {w w' : World} {b : Nat} {T : TypeId} {xs ys : List Value}
theorem Blk.lt (h : Blk w b T xs) : b < w.heap.size := lt_of_block h
theorem Blk.cast (h : Blk w b T xs) (e : xs = ys) : Blk w b T ys := e ▸ h
theorem Blk.cell (h : Blk w b T xs) (i : Nat) : w.cell? ⟨b, i, none⟩ = xs[i]? := by
  unfold Blk at h
  simp [World.cell?, h]
theorem Blk.free (h : Blk w b T xs) (i : Nat) : w.frozen? ⟨b, i, none⟩ = false := by
  unfold Blk at h
  simp [World.frozen?, h]
theorem Blk.at (h : Blk w b T xs) (i : Nat) {v : Value} (e : xs[i]? = some v) : w.cell? ⟨b, i, none⟩ = some v := (h.cell i).trans e
theorem Blk.same (h : Blk w b T xs) (e : w'.heap[b]? = w.heap[b]?) : Blk w' b T xs := e.trans h
theorem Blk.alloc (h : Blk w b T xs) (o : Obj) : Blk (w.alloc o) b T xs := h.same (Below.heap_alloc _ _ _ h.lt)
theorem Blk.drew (h : Blk w b T xs) : Blk w.drew b T xs := h
theorem Blk.drewN (h : Blk w b T xs) (n : Nat) : Blk (w.drewN n) b T xs := h
theorem Blk.quiet (h : Blk w b T xs) (hq : Quiet w w') : Blk w' b T xs := by obtain ⟨m, rfl⟩ := hq; exact h
theorem Blk.fr {S : Nat → Prop} (h : Blk w b T xs) (hf : Fr S w w') (hs : ¬ S b) : Blk w' b T xs := h.same (hf.block b h.lt hs)
theorem Blk.below {B : Nat} (h : Blk w b T xs) (hf : Below B w w') (hB : w.heap.size ≤ B) : Blk w' b T xs := h.same (hf.block b (Nat.lt_of_lt_of_le h.lt hB))
theorem Blk.grown {row : Option Nat} (h : Blk w b T xs) (hg : w.grownBy w' row) (hne : row ≠ some b) : Blk w' b T xs := h.same (hg.block b h.lt (fun e => hne e.symm))
theorem Blk.new (w : World) (T : TypeId) (xs : List Value) : Blk (w.alloc (.cells xs.toArray T)) w.heap.size T xs := heap_alloc_new w _
theorem Blk.newAt {n : Nat} (h : w.heap.size = n) : Blk (w.alloc (.cells xs.toArray T)) n T xs := h ▸ Blk.new w T xs
theorem Blk.setCell (h : Blk w b T xs) (i : Nat) (v : Value) : Blk (w.setCell ⟨b, i, none⟩ v) b T (xs.set i v) := by
  have hlt := h.lt
  unfold Blk at h ⊢
  have h' : w.heap[b] = .cells xs.toArray T (0, 0) := by simpa [Array.getElem?_eq_getElem hlt] using h
  show (w.heap.modify b _)[b]? = _
  rw [Array.getElem?_eq_getElem (by simpa using hlt), Array.getElem_modify_self, h']
  simp [Array.setIfInBounds]
  intro hh
  rw [List.set_eq_of_length_le hh]
theorem Blk.setOther (h : Blk w b T xs) {p : Addr} (hp : p.block ≠ b) (v : Value) : Blk (w.setCell p v) b T xs := h.same (Below.heap_setCell _ _ _ _ (fun e => hp e.symm))
end

section
variable {w w' : World} {base : Nat} {e : TypeId} {size : Nat} {v : Value} {n : Nat} {xs : List Value}
theorem own_same (h : w.ownsRow base e size v n xs) (hg : ∀ k, v.ownBlock = some k → w'.heap[k]? = w.heap[k]?) : w'.ownsRow base e size v n xs := by
  refine ⟨h.1, ?_⟩
  rcases h.2 with hn | ⟨g, cap, cur, rfl, hb, hgg, rest⟩
  · exact .inl hn
  · exact .inr ⟨g, cap, cur, rfl, hb, by rw [hg g rfl]; exact hgg, rest⟩
theorem own_fr {S : Nat → Prop} (h : w.ownsRow base e size v n xs) (hf : Fr S w w') (hs : ∀ k, v.ownBlock = some k → ¬ S k) : w'.ownsRow base e size v n xs :=
  own_same h fun k hk => hf.block k (h.lt k hk).2 (hs k hk)
theorem own_below {B : Nat} (h : w.ownsRow base e size v n xs) (hf : Below B w w') (hB : w.heap.size ≤ B) : w'.ownsRow base e size v n xs :=
  own_same h fun k hk => hf.block k (Nat.lt_of_lt_of_le (h.lt k hk).2 hB)
theorem own_drewN (h : w.ownsRow base e size v n xs) (m : Nat) : (w.drewN m).ownsRow base e size v n xs := own_same h fun _ _ => rfl
theorem own_set (h : w.ownsRow base e size v n xs) {p : Addr} (hp : v.ownBlock ≠ some p.block) (u : Value) : (w.setCell p u).ownsRow base e size v n xs := ownsRow_setCell_other h hp u
end
theorem BAt.fr {w w' : World} {a : Option Addr} {l : List UInt8} {S : Nat → Prop} (h : BAt w a l) (hf : Fr S w w') (hs : ∀ p, a = some p → ¬ S p.block) : BAt w' a l := by
  rcases h with h | ⟨b, off, h1, h2, h3⟩
  · exact .inl h
  · exact .inr ⟨b, off, h1, Nat.lt_of_lt_of_le h2 hf.size, fun i hi => (hf.cell (p := ⟨b, off + i, none⟩) h2 (hs ⟨b, off, none⟩ h1)).trans (h3 i hi)⟩
/-- the cells of the bytes, for append -/
theorem BAt.news {w : World} {b off : Nat} {l : List UInt8} (h : ∀ i (h : i < l.length), w.cell? ⟨b, off + i, none⟩ = some (.int .u8 (l[i].toNat : Int))) : ∀ j u, (encB l)[j]? = some u → w.cell? ((⟨b, off, none⟩ : Addr).add j) = some u := by
  intro j u hj
  rw [add_plain]
  obtain ⟨h1, h2⟩ := List.getElem?_eq_some_iff.1 hj
  have hj' : j < l.length := by simpa [encB] using h1
  rw [h j hj', ← h2]
  simp [encB]
end Go.Proofs.Ytnojmkmmfiahgaa

/- UnpackerSizes: what holds in its loops. No condition. -/
import Derived.Test.YtllpbfejoahllaaY
import Derived.Test.YtllpbfejoahllaaR
namespace Go.Proofs.Ytllpbfejoahllaa
open Go.RowKit Go.Deep Go.ChangeShapes Go.WideShapes Go.ChangeAt
set_option linter.unusedVariables false

def SD (w : World) (v1 v2 v3 : Value) (k : Nat) : Prop := k < w.heap.size ∨ v1.ownBlock = some k ∨ v2.ownBlock = some k ∨ v3.ownBlock = some k
def encN (l : List Nat) : List Value := l.map fun (b : Nat) => .int .i64 (b : Int)
/-- three rows of the call's own: packets, bytes, numbers -/
structure S1 (w wr : World) (P : List (List UInt8)) (x : List UInt8) (bs : List Nat) (v1 v2 v3 : Value) (us : List Value) : Prop where
  sent : wr.ownsRow w.heap.size 23 1 v1 P.length us
  sls : Sls wr (SD w v1 v2 v3) us P
  str : wr.ownsRow w.heap.size 5 1 v2 x.length (encB x)
  beg : wr.ownsRow w.heap.size 3 1 v3 bs.length (encN bs)
  d12 : ∀ k, v1.ownBlock = some k → v2.ownBlock ≠ some k
  d13 : ∀ k, v1.ownBlock = some k → v3.ownBlock ≠ some k
  d23 : ∀ k, v2.ownBlock = some k → v3.ownBlock ≠ some k
  below : Below w.heap.size w wr
theorem S1.start (w : World) : S1 w w [] [] [] (.slice none 0 0) (.slice none 0 0) (.slice none 0 0) [] :=
  ⟨World.ownsRow_nil _ _ _ _, Sls.nil, World.ownsRow_nil _ _ _ _, World.ownsRow_nil _ _ _ _, fun k hk => by simp [Value.ownBlock] at hk, fun k hk => by simp [Value.ownBlock] at hk, fun k hk => by simp [Value.ownBlock] at hk, Below.refl _ _⟩
section
variable {w wr w2 w6 w8 : World} {P : List (List UInt8)} {x p : List UInt8} {bs : List Nat} {v1 v2 v3 v8 vx : Value} {us : List Value}
theorem S1.step (h : S1 w wr P x bs v1 v2 v3 us) (hb : Below wr.heap.size wr w2) : S1 w w2 P x bs v1 v2 v3 us :=
  ⟨own_below h.sent hb (Nat.le_refl _), h.sls.below hb (Nat.le_refl _), own_below h.str hb (Nat.le_refl _), own_below h.beg hb (Nat.le_refl _), h.d12, h.d13, h.d23, h.below.trans (hb.mono h.below.size)⟩
theorem S1.lt (h : S1 w wr P x bs v1 v2 v3 us) : (∀ k, v1.ownBlock = some k → w.heap.size ≤ k ∧ k < wr.heap.size) ∧ (∀ k, v2.ownBlock = some k → w.heap.size ≤ k ∧ k < wr.heap.size) ∧ (∀ k, v3.ownBlock = some k → w.heap.size ≤ k ∧ k < wr.heap.size) :=
  ⟨fun k hk => h.sent.lt k hk, fun k hk => h.str.lt k hk, fun k hk => h.beg.lt k hk⟩
/-- one packet more; the world w6 holds it, an array of one element is made, the row grows -/
theorem S1.addP (h : S1 w wr P x bs v1 v2 v3 us) (hx : Sl wr (SD w v1 v2 v3) vx p) (how : w8.ownsRow w.heap.size 23 1 v8 (P.length + 1) (us ++ [vx])) (hg : wr.grownBy w8 v1.ownBlock) (hb : v8.ownBlock = v1.ownBlock ∨ v8.ownBlock = some wr.heap.size) : S1 w w8 (P ++ [p]) x bs v8 v2 v3 (us ++ [vx]) := by
  obtain ⟨l1, l2, l3⟩ := h.lt
  have hfr : Fr (fun k => v1.ownBlock = some k) wr w8 := (Fr.refl _ _).grown hg (fun k hk => .inl hk)
  have hd : ∀ k, v8.ownBlock = some k → v1.ownBlock = some k ∨ k = wr.heap.size := fun k hk => by
    rcases hb with e | e
    · exact .inl (by rw [← e]; exact hk)
    · rw [e] at hk; cases hk; exact .inr rfl
  refine ⟨by rw [List.length_append]; exact how, ?_, own_fr h.str hfr (fun k hk e => h.d12 k e hk), own_fr h.beg hfr (fun k hk e => h.d13 k e hk), fun k hk e => ?_, fun k hk e => ?_, h.d23, h.below.trans (hfr.toBelow h.below.size (fun k hk => (l1 k hk).1))⟩
  · have h1 : Sls wr (fun k => SD w v1 v2 v3 k ∨ SD w v8 v2 v3 k) (us ++ [vx]) (P ++ [p]) := (h.sls.append (Sls.one hx)).grow (fun k hk => by
      rcases hk with hk | hk | hk | hk | hk
      · exact .inl hk
      · exact .inl (.inl hk)
      · rcases hd k hk with e | e
        · exact .inl (.inr (.inl e))
        · exact .inr (by omega)
      · exact .inl (.inr (.inr (.inl hk)))
      · exact .inl (.inr (.inr (.inr hk))))
    exact (h1.fr hfr (fun k hk => .inl (.inl (.inr (.inl hk))))).grow (fun k hk => .inl (.inr hk))
  · rcases hd k hk with e2 | e2
    · exact h.d12 k e2 e
    · have := (l2 k e).2; omega
  · rcases hd k hk with e2 | e2
    · exact h.d13 k e2 e
    · have := (l3 k e).2; omega
theorem S1.addX (h : S1 w wr P x bs v1 v2 v3 us) (how : w8.ownsRow w.heap.size 5 1 v8 (x.length + p.length) (encB x ++ encB p)) (hg : wr.grownBy w8 v2.ownBlock) (hb : v8.ownBlock = v2.ownBlock ∨ v8.ownBlock = some wr.heap.size) : S1 w w8 P (x ++ p) bs v1 v8 v3 us := by
  obtain ⟨l1, l2, l3⟩ := h.lt
  have hfr : Fr (fun k => v2.ownBlock = some k) wr w8 := (Fr.refl _ _).grown hg (fun k hk => .inl hk)
  have hd : ∀ k, v8.ownBlock = some k → v2.ownBlock = some k ∨ k = wr.heap.size := fun k hk => by
    rcases hb with e | e
    · exact .inl (by rw [← e]; exact hk)
    · rw [e] at hk; cases hk; exact .inr rfl
  refine ⟨own_fr h.sent hfr (fun k hk e => h.d12 k hk e), ?_, by rw [List.length_append, encB_append]; exact how, own_fr h.beg hfr (fun k hk e => h.d23 k e hk), fun k hk e => ?_, h.d13, fun k hk e => ?_, h.below.trans (hfr.toBelow h.below.size (fun k hk => (l2 k hk).1))⟩
  · have h1 : Sls wr (fun k => SD w v1 v2 v3 k ∨ SD w v1 v8 v3 k) us P := h.sls.grow (fun k hk => by
      rcases hk with hk | hk | hk | hk | hk
      · exact .inl hk
      · exact .inl (.inl hk)
      · exact .inl (.inr (.inl hk))
      · rcases hd k hk with e | e
        · exact .inl (.inr (.inr (.inl e)))
        · exact .inr (by omega)
      · exact .inl (.inr (.inr (.inr hk))))
    exact (h1.fr hfr (fun k hk => .inl (.inl (.inr (.inr (.inl hk)))))).grow (fun k hk => .inl (.inr hk))
  · rcases hd k e with e2 | e2
    · exact h.d12 k hk e2
    · have := (l1 k hk).2; omega
  · rcases hd k hk with e2 | e2
    · exact h.d23 k e2 e
    · have := (l3 k e).2; omega
theorem S1.addB (h : S1 w wr P x bs v1 v2 v3 us) (b : Nat) (how : w8.ownsRow w.heap.size 3 1 v8 (bs.length + 1) (encN bs ++ [.int .i64 (b : Int)])) (hg : wr.grownBy w8 v3.ownBlock) (hb : v8.ownBlock = v3.ownBlock ∨ v8.ownBlock = some wr.heap.size) : S1 w w8 P x (bs ++ [b]) v1 v2 v8 us := by
  obtain ⟨l1, l2, l3⟩ := h.lt
  have hfr : Fr (fun k => v3.ownBlock = some k) wr w8 := (Fr.refl _ _).grown hg (fun k hk => .inl hk)
  have hd : ∀ k, v8.ownBlock = some k → v3.ownBlock = some k ∨ k = wr.heap.size := fun k hk => by
    rcases hb with e | e
    · exact .inl (by rw [← e]; exact hk)
    · rw [e] at hk; cases hk; exact .inr rfl
  refine ⟨own_fr h.sent hfr (fun k hk e => h.d13 k hk e), ?_, own_fr h.str hfr (fun k hk e => h.d23 k hk e), by rw [List.length_append]; simpa [encN] using how, h.d12, fun k hk e => ?_, fun k hk e => ?_, h.below.trans (hfr.toBelow h.below.size (fun k hk => (l3 k hk).1))⟩
  · have h1 : Sls wr (fun k => SD w v1 v2 v3 k ∨ SD w v1 v2 v8 k) us P := h.sls.grow (fun k hk => by
      rcases hk with hk | hk | hk | hk | hk
      · exact .inl hk
      · exact .inl (.inl hk)
      · exact .inl (.inr (.inl hk))
      · exact .inl (.inr (.inr (.inl hk)))
      · rcases hd k hk with e | e
        · exact .inl (.inr (.inr (.inr e)))
        · exact .inr (by omega))
    exact (h1.fr hfr (fun k hk => .inl (.inl (.inr (.inr (.inr hk)))))).grow (fun k hk => .inl (.inr hk))
  · rcases hd k e with e2 | e2
    · exact h.d13 k hk e2
    · have := (l1 k hk).2; omega
  · rcases hd k e with e2 | e2
    · exact h.d23 k hk e2
    · have := (l2 k hk).2; omega
end
/-- the unpacker, and what it gave -/
structure GF (w2 wr : World) (u : US) (a : Option Addr) (cap : Nat) (fs : List (List UInt8)) (vg : Value) (vs : List Value) : Prop where
  hu : UAt wr w2.heap.size u a cap
  got : wr.ownsRow (w2.heap.size + 1) 23 1 vg fs.length vs
  sls : Sls wr (fun k => k ≤ w2.heap.size ∨ vg.ownBlock = some k) vs fs
  d : ∀ q, a = some q → u.rest ≠ [] → vg.ownBlock ≠ some q.block
  below : Below w2.heap.size w2 wr
theorem GF.start {w2 w3 : World} (h : UAt w3 w2.heap.size US.new none 0) (hb : Below w2.heap.size w2 w3) : GF w2 w3 US.new none 0 [] (.slice none 0 0) [] :=
  ⟨h, World.ownsRow_nil _ _ _ _, Sls.nil, fun q hq => (by cases hq), hb⟩
section
variable {w2 wr w3 w4 : World} {u u' : US} {a a' : Option Addr} {cap cap' : Nat} {fs F : List (List UInt8)} {vg v4 : Value} {vs us : List Value}
theorem GF.step (h : GF w2 wr u a cap fs vg vs) (hb : Below wr.heap.size wr w3) : GF w2 w3 u a cap fs vg vs :=
  ⟨h.hu.below hb (Nat.le_refl _), own_below h.got hb (Nat.le_refl _), h.sls.below hb (Nat.le_refl _), h.d, h.below.trans (hb.mono h.below.size)⟩
theorem GF.fed (h : GF w2 wr u a cap fs vg vs) (hU : UAt w3 w2.heap.size u' a' cap') (hf : Fr (fun k => k = w2.heap.size) wr w3) (hk : Ki wr a u.rest a' u'.rest) : GF w2 w3 u' a' cap' fs vg vs := by
  refine ⟨hU, own_fr h.got hf (fun k hk e => by have := (h.got.lt k hk).1; omega), h.sls.fr hf (fun k hk => .inl (.inl (by omega))), fun q hq hne e => ?_, h.below.trans (hf.toBelow h.below.size (fun k hk => by omega))⟩
  rcases hk with ⟨e1, e2⟩ | hn
  · rw [e1] at hq; rw [e2] at hne
    exact h.d q hq hne e
  · have := hn q hq
    have := (h.got.lt _ e).2
    omega
theorem GF.more (h : GF w2 w3 u a cap fs vg vs) (hs : Sls w3 (fun k => k ≤ w2.heap.size ∨ vg.ownBlock = some k) us F) (how : w4.ownsRow (w2.heap.size + 1) 23 1 v4 (fs.length + F.length) (vs ++ us)) (hg : w3.grownBy w4 vg.ownBlock) (hb : v4.ownBlock = vg.ownBlock ∨ v4.ownBlock = some w3.heap.size) : GF w2 w4 u a cap (fs ++ F) v4 (vs ++ us) := by
  have hlt := fun k hk => h.got.lt k hk
  have hfr : Fr (fun k => vg.ownBlock = some k) w3 w4 := (Fr.refl _ _).grown hg (fun k hk => .inl hk)
  have hd : ∀ k, v4.ownBlock = some k → vg.ownBlock = some k ∨ k = w3.heap.size := fun k hk => by
    rcases hb with e | e
    · exact .inl (by rw [← e]; exact hk)
    · rw [e] at hk; cases hk; exact .inr rfl
  refine ⟨h.hu.fr hfr (fun e => by have := (hlt _ e).1; omega) (fun q hq hne e => h.d q hq hne e), by rw [List.length_append]; exact how, ?_, fun q hq hne e => ?_, h.below.trans (hfr.toBelow h.below.size (fun k hk => by have := (hlt k hk).1; omega))⟩
  · have h1 : Sls w3 (fun k => (k ≤ w2.heap.size ∨ vg.ownBlock = some k) ∨ v4.ownBlock = some k) (vs ++ us) (fs ++ F) := (h.sls.append hs).grow (fun k hk => by
      rcases hk with hk | hk
      · exact .inl hk
      · rcases hd k hk with e | e
        · exact .inl (.inr e)
        · exact .inr (by omega))
    exact (h1.fr hfr (fun k hk => .inl (.inl (.inr hk)))).grow (fun k hk => by
      rcases hk with h | h
      · exact .inl (.inl (.inl h))
      · exact .inl (.inr h))
  · rcases hd _ e with e2 | e2
    · exact h.d q hq hne e2
    · have := h.hu.at_.lt q hq hne
      omega
end
end Go.Proofs.Ytllpbfejoahllaa

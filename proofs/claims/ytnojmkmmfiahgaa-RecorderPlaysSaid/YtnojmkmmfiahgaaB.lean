/- Helper facts without a program: lists of byte strings in memory. No condition. -/
import Derived.Test.YtnojmkmmfiahgaaI
namespace Go.Proofs.Ytnojmkmmfiahgaa
open Go.ChangeShapes Go.WideShapes Go.ChangeAt Go.RowKit Go.Deep
set_option linter.unusedVariables false

theorem BAt.apart {w w' : World} {a : Option Addr} {l : List UInt8} {S : Nat → Prop} (h : BAt w a l) (hf : Fr S w w') (hs : ∀ p, a = some p → l ≠ [] → ¬ S p.block) : BAt w' a l := by
  by_cases hl : l = []
  · exact .inl hl
  · exact h.fr hf (fun p hp => hs p hp hl)
theorem BAt.lt {w : World} {a : Option Addr} {l : List UInt8} (h : BAt w a l) : ∀ p, a = some p → l ≠ [] → p.block < w.heap.size := by
  intro p hp hl
  rcases h with h | ⟨b, off, h1, h2, -⟩
  · exact absurd h hl
  · rw [h1] at hp; cases hp; exact h2
/-- a part of the bytes -/
theorem BAt.sub {w : World} {b off : Nat} {l : List UInt8} (h : BAt w (some ⟨b, off, none⟩) l) (o m : Nat) : BAt w (some ⟨b, off + o, none⟩) ((l.drop o).take m) := by
  rcases h with h | ⟨b', off', h1, h2, h3⟩
  · left; subst h; simp
  · cases h1
    refine .inr ⟨b, off + o, rfl, h2, fun i hi => ?_⟩
    have h1 : o + i < l.length := by simp at hi; omega
    have := h3 (o + i) h1
    rw [Nat.add_assoc, this]
    simp
/-- one slice of bytes: the value of a string, none of it in a block of S -/
def Sl (w : World) (S : Nat → Prop) (v : Value) (l : List UInt8) : Prop :=
  ∃ a cap, v = .slice a l.length cap ∧ l.length ≤ cap ∧ cap ≤ maxLen ∧ BAt w a l ∧ ∀ q, a = some q → l ≠ [] → ¬ S q.block
section
variable {w w' : World} {S T : Nat → Prop} {v : Value} {l : List UInt8} {vs us : List Value} {L M : List (List UInt8)}
theorem Sl.fr (h : Sl w S v l) (hf : Fr T w w') (hT : ∀ k, T k → S k ∨ w.heap.size ≤ k) : Sl w' S v l := by
  obtain ⟨a, cap, h1, h2, h3, h4, h5⟩ := h
  exact ⟨a, cap, h1, h2, h3, h4.apart hf (fun p hp hl ht => by
    rcases hT _ ht with h | h
    · exact h5 p hp hl h
    · have := h4.lt p hp hl; omega), h5⟩
theorem Sl.grow (h : Sl w S v l) (hT : ∀ k, T k → S k ∨ w.heap.size ≤ k) : Sl w T v l := by
  obtain ⟨a, cap, h1, h2, h3, h4, h5⟩ := h
  exact ⟨a, cap, h1, h2, h3, h4, fun p hp hl ht => by
    rcases hT _ ht with h | h
    · exact h5 p hp hl h
    · have := h4.lt p hp hl; omega⟩
theorem Sl.below {B : Nat} (h : Sl w S v l) (hb : Below B w w') (hB : w.heap.size ≤ B) : Sl w' S v l :=
  h.fr (T := fun k => w.heap.size ≤ k) (Fr.of_below hb hB) (fun k hk => .inr hk)
/-- the values are slices that hold the byte strings; nothing of these lies in a block of S -/
def Sls (w : World) (S : Nat → Prop) (vs : List Value) (L : List (List UInt8)) : Prop :=
  vs.length = L.length ∧ ∀ i (h : i < L.length), ∃ v, vs[i]? = some v ∧ Sl w S v L[i]
theorem Sls.nil : Sls w S [] [] := ⟨rfl, fun i hi => by simp at hi⟩
theorem Sls.append (h : Sls w S vs L) (k : Sls w S us M) : Sls w S (vs ++ us) (L ++ M) := by
  refine ⟨by simp [h.1, k.1], fun i hi => ?_⟩
  by_cases hlt : i < L.length
  · obtain ⟨v, h1, h2⟩ := h.2 i hlt
    exact ⟨v, by rw [List.getElem?_append_left (by rw [h.1]; exact hlt)]; exact h1, by rw [List.getElem_append_left hlt]; exact h2⟩
  · have hi' : i - L.length < M.length := by simp at hi; omega
    obtain ⟨v, h1, h2⟩ := k.2 (i - L.length) hi'
    exact ⟨v, by rw [List.getElem?_append_right (by rw [h.1]; omega), h.1]; exact h1, by rw [List.getElem_append_right (by omega)]; exact h2⟩
theorem Sls.one (h : Sl w S v l) : Sls w S [v] [l] := ⟨rfl, fun i hi => by
  obtain rfl : i = 0 := by simp at hi; omega
  exact ⟨v, rfl, h⟩⟩
theorem Sls.fr (h : Sls w S vs L) (hf : Fr T w w') (hT : ∀ k, T k → S k ∨ w.heap.size ≤ k) : Sls w' S vs L :=
  ⟨h.1, fun i hi => by obtain ⟨v, h1, h2⟩ := h.2 i hi; exact ⟨v, h1, h2.fr hf hT⟩⟩
theorem Sls.grow (h : Sls w S vs L) (hT : ∀ k, T k → S k ∨ w.heap.size ≤ k) : Sls w T vs L :=
  ⟨h.1, fun i hi => by obtain ⟨v, h1, h2⟩ := h.2 i hi; exact ⟨v, h1, h2.grow hT⟩⟩
theorem Sls.below {B : Nat} (h : Sls w S vs L) (hb : Below B w w') (hB : w.heap.size ≤ B) : Sls w' S vs L :=
  ⟨h.1, fun i hi => by obtain ⟨v, h1, h2⟩ := h.2 i hi; exact ⟨v, h1, h2.below hb hB⟩⟩
theorem Sls.drop (h : Sls w S vs L) (n : Nat) : Sls w S (vs.drop n) (L.drop n) :=
  ⟨by simp [h.1], fun i hi => by
    obtain ⟨v, h1, h2⟩ := h.2 (n + i) (by simp at hi; omega)
    exact ⟨v, by rw [List.getElem?_drop]; exact h1, by rw [List.getElem_drop]; exact h2⟩⟩
theorem Sls.one_cell (h : Sls w S vs L) : ∀ u ∈ vs, u.oneCell' = true := by
  intro u hu
  obtain ⟨i, hi, rfl⟩ := List.mem_iff_getElem.1 hu
  obtain ⟨v, h1, a, cap, rfl, -⟩ := h.2 i (by rw [← h.1]; exact hi)
  rw [List.getElem?_eq_getElem hi] at h1
  rw [Option.some.inj h1]
  rfl
/-- the cells of a row of the call's own -/
theorem VAt.of_row {base n : Nat} {e : TypeId} (h : w.ownsRow base e 1 v n vs) : n = vs.length ∧ ∃ a cap, v = .slice a vs.length cap ∧ vs.length ≤ cap ∧ cap ≤ maxLen ∧ VAt w a vs ∧ v.ownBlock = a.map (·.block) := by
  obtain ⟨h1, h2⟩ := h
  obtain rfl : n = vs.length := by omega
  refine ⟨rfl, ?_⟩
  rcases h2 with ⟨rfl, h0⟩ | ⟨g, cap, cur, rfl, hb, hg, hnc, hcm, hsz, hxs⟩
  · exact ⟨none, 0, by rw [h0], by omega, Nat.zero_le _, .inl (List.length_eq_zero_iff.1 h0), rfl⟩
  · refine ⟨_, cap, rfl, hnc, hcm, .inr ⟨g, 0, rfl, (Array.getElem?_eq_some_iff.1 hg).1, fun i hi => ?_⟩, rfl⟩
    rw [Joins.cell_of_block hg, Nat.zero_add]
    have e : (cur.toList.take (vs.length * 1))[i]? = vs[i]? := by rw [hxs]
    rw [List.getElem?_take_of_lt (by omega)] at e
    rw [← Array.getElem?_toList, e]
    simp
/-- a slice of byte strings -/
def SAt (w : World) (S : Nat → Prop) (v : Value) (L : List (List UInt8)) : Prop :=
  ∃ a cap vs, v = .slice a L.length cap ∧ L.length ≤ cap ∧ cap ≤ maxLen ∧ VAt w a vs ∧ (∀ q, a = some q → L ≠ [] → ¬ S q.block) ∧ Sls w S vs L
theorem VAt.lt {a : Option Addr} (h : VAt w a vs) : ∀ p, a = some p → vs ≠ [] → p.block < w.heap.size := by
  intro p hp hl
  rcases h with h | ⟨b, off, h1, h2, -⟩
  · exact absurd h hl
  · rw [h1] at hp; cases hp; exact h2
theorem VAt.apart {a : Option Addr} (h : VAt w a vs) (hf : Fr S w w') (hs : ∀ p, a = some p → vs ≠ [] → ¬ S p.block) : VAt w' a vs := by
  by_cases hl : vs = []
  · exact .inl hl
  · exact h.fr hf (fun p hp => hs p hp hl)
theorem SAt.nil (w : World) (S : Nat → Prop) : SAt w S (.slice none 0 0) [] := ⟨none, 0, [], rfl, by simp, Nat.zero_le _, .inl rfl, by simp, Sls.nil⟩
theorem SAt.fr (h : SAt w S v L) (hf : Fr T w w') (hT : ∀ k, T k → S k ∨ w.heap.size ≤ k) : SAt w' S v L := by
  obtain ⟨a, cap, vs, h1, h2, h3, h4, h5, h6⟩ := h
  refine ⟨a, cap, vs, h1, h2, h3, h4.apart hf (fun p hp hl ht => ?_), h5, h6.fr hf hT⟩
  have hL : L ≠ [] := fun e => hl (List.length_eq_zero_iff.1 (by rw [h6.1, e]; rfl))
  rcases hT _ ht with h | h
  · exact h5 p hp hL h
  · have := h4.lt p hp hl; omega
theorem SAt.grow (h : SAt w S v L) (hT : ∀ k, T k → S k ∨ w.heap.size ≤ k) : SAt w T v L := by
  obtain ⟨a, cap, vs, h1, h2, h3, h4, h5, h6⟩ := h
  refine ⟨a, cap, vs, h1, h2, h3, h4, fun p hp hL ht => ?_, h6.grow hT⟩
  have hl : vs ≠ [] := fun e => hL (List.length_eq_zero_iff.1 (by rw [← h6.1, e]; rfl))
  rcases hT _ ht with h | h
  · exact h5 p hp hL h
  · have := h4.lt p hp hl; omega
theorem SAt.below {B : Nat} (h : SAt w S v L) (hb : Below B w w') (hB : w.heap.size ≤ B) : SAt w' S v L :=
  h.fr (T := fun k => w.heap.size ≤ k) (Fr.of_below hb hB) (fun k hk => .inr hk)
/-- a row of the call's own, read as a slice of byte strings -/
theorem SAt.of_row {base n : Nat} {e : TypeId} (h : w.ownsRow base e 1 v n vs) (hs : Sls w S vs L) (ho : ∀ k, v.ownBlock = some k → ¬ S k) : SAt w S v L := by
  obtain ⟨-, a, cap, h1, h2, h3, h4, h5⟩ := VAt.of_row h
  refine ⟨a, cap, vs, by rw [← hs.1]; exact h1, by rw [← hs.1]; exact h2, h3, h4, fun q hq _ => ho q.block (by rw [h5, hq]; rfl), hs⟩
/-- element i -/
theorem SAt.get (h : SAt w S v L) {i : Nat} (hi : i < L.length) : ∃ b off cap a c, v = .slice (some ⟨b, off, none⟩) L.length cap ∧ L.length ≤ cap ∧ cap ≤ maxLen ∧ b < w.heap.size ∧ w.cell? ⟨b, off + i, none⟩ = some (.slice a L[i].length c) ∧ L[i].length ≤ c ∧ c ≤ maxLen ∧ BAt w a L[i] ∧ (∀ q, a = some q → L[i] ≠ [] → ¬ S q.block) := by
  obtain ⟨a, cap, vs, h1, h2, h3, h4, h5, h6⟩ := h
  obtain ⟨b, off, rfl, hb, hc⟩ := h4.get (i := i) (by rw [h6.1]; exact hi)
  obtain ⟨u, k1, a', c', rfl, k2, k3, k4, k5⟩ := h6.2 i hi
  have hiv : i < vs.length := by rw [h6.1]; exact hi
  rw [List.getElem?_eq_getElem hiv] at k1
  exact ⟨b, off, cap, a', c', h1, h2, h3, hb, hc.trans (congrArg some (Option.some.inj k1)), k2, k3, k4, k5⟩
theorem SAt.len (h : SAt w S v L) : ∃ a cap, v = .slice a L.length cap ∧ L.length ≤ cap ∧ cap ≤ maxLen := by
  obtain ⟨a, cap, vs, h1, h2, h3, -⟩ := h
  exact ⟨a, cap, h1, h2, h3⟩
end
section
variable {H : Type} {enc : TypeId × Value → H} {P : Program} {w : World} {base : Nat}
/-- a slice of bytes that came in, from its one cell -/
theorem bytes_trod {t e : TypeId} {n : Nat} {v : Value} {x : DataW H × List MemPlace} (ht : P.underlying t = some (.slice e)) (he : P.underlying e = some (.int .u8)) (hc : P.cellsOf e = 1) (h : DataW.trod enc P w base (fun _ => true) true n t [v] = some x) :
    ∃ (a : Option Addr) (cap : Nat) (l : List UInt8), v = .slice a l.length cap ∧ l.length ≤ cap ∧ cap ≤ maxLen ∧ BAt w a l ∧ ∀ q, a = some q → l ≠ [] → q.block < w.heap.size := by
  rcases open_slice ht h with ⟨hcs, _⟩ | ⟨a, l, cp, m, n', D, Pl, hcs, _, hl, hm, hmm, _, hx⟩
  · simp at hcs
    subst hcs
    exact ⟨none, 0, [], rfl, by simp, by simp, .inl rfl, by simp⟩
  · simp at hcs
    subst hcs
    have hlm : l ≤ m := by rw [hmm]; split <;> omega
    have hx' : ∀ i, i < l → ∃ b : UInt8, w.cell? (a.add i) = some (.int .u8 (b.toNat : Int)) := by
      intro i hi
      obtain ⟨cs', h1, h2⟩ := hx i (by omega)
      rw [hc, Nat.mul_one] at h1
      obtain ⟨_, h3, h4⟩ := World.cells?_some h1
      match cs', h3 with
      | [c], _ =>
        obtain ⟨z, hz, hw⟩ := one_int he h2
        obtain ⟨b, rfl⟩ := wf_u8 hw
        refine ⟨b, ?_⟩
        have := h4 0 (by omega)
        simp only [List.getElem?_cons_zero] at this
        rw [← List.cons.inj hz |>.1, ← this]
        simp [Addr.add]
    obtain ⟨C, hC⟩ := choose_lt hx'
    have hlen : ((List.range l).map C).length = l := by simp
    rcases Nat.eq_zero_or_pos l with h0 | h0
    · subst h0
      exact ⟨some a, cp, [], rfl, by simp, hm, .inl rfl, by simp⟩
    · obtain ⟨b, off, spot⟩ := a
      have h1 := hC 0 h0
      have hspot : spot = none := by
        have : (⟨b, off, spot⟩ : Addr).add 0 = ⟨b, off, spot⟩ := by simp [Addr.add]
        rw [this] at h1
        exact World.cell?_spot h1
      subst hspot
      have hb : b < w.heap.size := by
        rw [add_plain] at h1
        exact World.block_lt_of_cell? w _ h1
      refine ⟨some ⟨b, off, none⟩, cp, (List.range l).map C, by rw [hlen], by rw [hlen]; exact hl, hm, .inr ⟨b, off, rfl, hb, fun i hi => ?_⟩, fun q hq _ => by cases hq; exact hb⟩
      have hi' : i < l := by simpa using hi
      have := hC i hi'
      rw [add_plain] at this
      simpa using this
/-- a slice of byte strings that came in -/
theorem arg_lists {t tb e : TypeId} {r : Reach} {b0 : Nat} {v : Value} {d : DataW H} {ps : List MemPlace} (ht : P.underlying t = some (.slice tb)) (hcb : P.cellsOf tb = 1) (hb : P.underlying tb = some (.slice e)) (he : P.underlying e = some (.int .u8)) (hc : P.cellsOf e = 1)
    (hv : Value.okWide P w r b0 t v) (h : DataW.Trod enc P w base (fun _ => true) true t v d ps) : ∃ L : List (List UInt8), SAt w (fun k => w.heap.size ≤ k) v L := by
  obtain ⟨a, len, cap, m, n, C, rfl, hl, hm, _, _, hlm, _, hC, hcell⟩ := open_rows ht hcb (by omega) hv h
  have h1 : ∀ i, i < len → ∃ l : List UInt8, ∃ u, C i = [u] ∧ Sl w (fun k => w.heap.size ≤ k) u l := fun i hi => by
    obtain ⟨h2, x, hx⟩ := hC i (by omega)
    obtain ⟨u, hu⟩ := List.length_eq_one_iff.1 h2
    rw [hu] at hx
    obtain ⟨a, cap, l, h1, h2, h3, h4, h5⟩ := bytes_trod hb he hc hx
    exact ⟨l, u, hu, a, cap, h1, h2, h3, h4, fun q hq hl => Nat.not_le.2 (h5 q hq hl)⟩
  obtain ⟨L, hL⟩ := choose_lt h1
  obtain ⟨U, hU⟩ := choose_lt hL
  have hlen : ((List.range len).map L).length = len := by simp
  refine ⟨(List.range len).map L, a, cap, (List.range len).map U, by rw [hlen], by rw [hlen]; exact hl, hm, ?_, ?_, by simp, fun i hi => ?_⟩
  · rcases hcell with h0 | ⟨b, off, rfl, hb, hc⟩
    · left
      obtain rfl : len = 0 := by omega
      rfl
    · refine .inr ⟨b, off, rfl, hb, fun i hi => ?_⟩
      have hi' : i < len := by simpa using hi
      have h3 := hc i (by omega) 0 (by omega)
      rw [(hU i hi').1] at h3
      simpa using h3
  · intro q hq hne
    rcases hcell with h0 | ⟨b, off, e, hb, hc⟩
    · obtain rfl : len = 0 := by omega
      exact absurd rfl hne
    · rw [e] at hq; cases hq; exact Nat.not_le.2 hb
  · have hi' : i < len := by simpa using hi
    exact ⟨U i, by simp [hi'], by simpa using (hU i hi').2⟩
end
end Go.Proofs.Ytnojmkmmfiahgaa

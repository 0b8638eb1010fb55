/- MarkerFeeds: what holds between two rounds. No condition. -/
import Derived.Test.YtjeigdopcdeaeaaW
namespace Go.Proofs.Ytjeigdopcdeaeaa
open Go.RowKit Go.Deep Go.ChangeShapes Go.WideShapes Go.ChangeAt Scr
set_option linter.unusedVariables false

def DS (w : World) (v vg va : Value) (k : Nat) : Prop := k ≤ w.heap.size ∨ v.ownBlock = some k ∨ vg.ownBlock = some k ∨ va.ownBlock = some k
/-- between two rounds: the Finder, the frames so far, the bytes so far -/
structure MF (w wr : World) (sz sk : Nat) (rest x : List UInt8) (fs : List (List UInt8)) (vg va v : Value) (vs : List Value) : Prop where
  fin : FinAt wr w.heap.size sz sk v rest
  got : wr.ownsRow (w.heap.size + 1) 22 1 vg fs.length vs
  sls : Sls wr (DS w v vg va) vs fs
  all : wr.ownsRow (w.heap.size + 1) 5 1 va x.length (encB x)
  d1 : ∀ k, v.ownBlock = some k → vg.ownBlock ≠ some k
  d2 : ∀ k, v.ownBlock = some k → va.ownBlock ≠ some k
  d3 : ∀ k, vg.ownBlock = some k → va.ownBlock ≠ some k
  below : Below w.heap.size w wr
theorem MF.start {w w1 : World} {sz : Nat} (h : FinAt w1 w.heap.size sz 0 (.slice none 0 0) []) (hb : Below w.heap.size w w1) : MF w w1 sz 0 [] [] [] (.slice none 0 0) (.slice none 0 0) (.slice none 0 0) [] :=
  ⟨h, World.ownsRow_nil _ _ _ _, Sls.nil, World.ownsRow_nil _ _ _ _, fun k hk => by simp [Value.ownBlock] at hk, fun k hk => by simp [Value.ownBlock] at hk, fun k hk => by simp [Value.ownBlock] at hk, hb⟩
section
variable {w wr w2 w3 w4 w5 : World} {sz sk sk' : Nat} {rest rest' x y : List UInt8} {fs F : List (List UInt8)} {vg va v v' vo v4 v5 : Value} {vs us : List Value}
theorem MF.step (h : MF w wr sz sk rest x fs vg va v vs) (hb : Below wr.heap.size wr w2) : MF w w2 sz sk rest x fs vg va v vs :=
  ⟨h.fin.below hb (Nat.le_refl _), own_below h.got hb (Nat.le_refl _), h.sls.below hb (Nat.le_refl _), own_below h.all hb (Nat.le_refl _), h.d1, h.d2, h.d3, h.below.trans (hb.mono h.below.size)⟩
theorem MF.lt (h : MF w wr sz sk rest x fs vg va v vs) : (∀ k, vg.ownBlock = some k → w.heap.size < k ∧ k < wr.heap.size) ∧ (∀ k, va.ownBlock = some k → w.heap.size < k ∧ k < wr.heap.size) ∧ (∀ k, v.ownBlock = some k → k < wr.heap.size) ∧ w.heap.size < wr.heap.size :=
  ⟨fun k hk => ⟨by have := (h.got.lt k hk).1; omega, (h.got.lt k hk).2⟩, fun k hk => ⟨by have := (h.all.lt k hk).1; omega, (h.all.lt k hk).2⟩, fun k hk => (h.fin.own.lt k hk).2, h.fin.blk.lt⟩
/-- what Feed leaves -/
theorem MF.fed (h : MF w w2 sz sk rest x fs vg va v vs) (hv : ∀ k, v.ownBlock = some k → w.heap.size ≤ k) (hF : FinAt w3 w.heap.size sz sk' v' rest') (hfr : Fr (FOwn w.heap.size v) w2 w3) (hn : ∀ k, v'.ownBlock = some k → w2.heap.size ≤ k) : MF w w3 sz sk' rest' x fs vg va v' vs := by
  obtain ⟨l1, l2, l3, l4⟩ := h.lt
  refine ⟨hF, own_fr h.got hfr (fun k hk e => ?_), ?_, own_fr h.all hfr (fun k hk e => ?_), fun k hk e => ?_, fun k hk e => ?_, h.d3, h.below.trans (hfr.toBelow (by omega) (fun k hk => ?_))⟩
  · rcases e with e | e
    · have := (l1 k hk).1; omega
    · exact h.d1 k e hk
  · have h1 : Sls w2 (fun k => DS w v vg va k ∨ DS w v' vg va k) vs fs := h.sls.grow (fun k hk => by
      rcases hk with hk | hk | hk | hk | hk
      · exact .inl hk
      · exact .inl (.inl hk)
      · exact .inr (hn k hk)
      · exact .inl (.inr (.inr (.inl hk)))
      · exact .inl (.inr (.inr (.inr hk))))
    exact (h1.fr hfr (fun k hk => by
      rcases hk with e | e
      · exact .inl (.inl (.inl (by omega)))
      · exact .inl (.inl (.inr (.inl e))))).grow (fun k hk => .inl (.inr hk))
  · rcases e with e | e
    · have := (l2 k hk).1; omega
    · exact h.d2 k e hk
  · have := (l1 k e).2; have := hn k hk; omega
  · have := (l2 k e).2; have := hn k hk; omega
  · rcases hk with e | e
    · omega
    · exact hv k e
/-- what the append of the frames leaves -/
theorem MF.more (h : MF w w3 sz sk rest x fs vg va v vs) (hs : Sls w3 (DS w v vg va) us F) (how : w4.ownsRow (w.heap.size + 1) 22 1 v4 (fs.length + F.length) (vs ++ us)) (hg : w3.grownBy w4 vg.ownBlock) (hb : v4.ownBlock = vg.ownBlock ∨ v4.ownBlock = some w3.heap.size) : MF w w4 sz sk rest x (fs ++ F) v4 va v (vs ++ us) := by
  obtain ⟨l1, l2, l3, l4⟩ := h.lt
  have hfr : Fr (fun k => vg.ownBlock = some k) w3 w4 := (Fr.refl _ _).grown hg (fun k hk => .inl hk)
  have hd : ∀ k, v4.ownBlock = some k → vg.ownBlock = some k ∨ k = w3.heap.size := fun k hk => by
    rcases hb with e | e
    · exact .inl (by rw [← e]; exact hk)
    · rw [e] at hk; cases hk; exact .inr rfl
  refine ⟨h.fin.fr hfr (fun k hk e => ?_), by rw [List.length_append]; exact how, ?_, own_fr h.all hfr (fun k hk e => h.d3 k e hk), fun k hk e => ?_, h.d2, fun k hk e => ?_, h.below.trans (hfr.toBelow (by omega) (fun k hk => by have := (l1 k hk).1; omega))⟩
  · rcases hk with hk | hk
    · have := (l1 k e).1; omega
    · exact h.d1 k hk e
  · have h1 : Sls w3 (fun k => DS w v vg va k ∨ DS w v v4 va k) (vs ++ us) (fs ++ F) := (h.sls.append hs).grow (fun k hk => by
      rcases hk with hk | hk | hk | hk | hk
      · exact .inl hk
      · exact .inl (.inl hk)
      · exact .inl (.inr (.inl hk))
      · rcases hd k hk with e | e
        · exact .inl (.inr (.inr (.inl e)))
        · exact .inr (by omega)
      · exact .inl (.inr (.inr (.inr hk))))
    exact (h1.fr hfr (fun k hk => .inl (.inl (.inr (.inr (.inl hk)))))).grow (fun k hk => .inl (.inr hk))
  · rcases hd k e with e | e
    · exact h.d1 k hk e
    · have := l3 k hk; omega
  · rcases hd k hk with e2 | e2
    · exact h.d3 k e2 e
    · have := (l2 k e).2; omega
/-- what the append of the bytes leaves -/
theorem MF.bytes (h : MF w w4 sz sk rest x fs vg va v vs) (how : w5.ownsRow (w.heap.size + 1) 5 1 v5 (x.length + y.length) (encB x ++ encB y)) (hg : w4.grownBy w5 va.ownBlock) (hb : v5.ownBlock = va.ownBlock ∨ v5.ownBlock = some w4.heap.size) : MF w w5 sz sk rest (x ++ y) fs vg v5 v vs := by
  obtain ⟨l1, l2, l3, l4⟩ := h.lt
  have hfr : Fr (fun k => va.ownBlock = some k) w4 w5 := (Fr.refl _ _).grown hg (fun k hk => .inl hk)
  have hd : ∀ k, v5.ownBlock = some k → va.ownBlock = some k ∨ k = w4.heap.size := fun k hk => by
    rcases hb with e | e
    · exact .inl (by rw [← e]; exact hk)
    · rw [e] at hk; cases hk; exact .inr rfl
  refine ⟨h.fin.fr hfr (fun k hk e => ?_), own_fr h.got hfr (fun k hk e => h.d3 k hk e), ?_, by rw [List.length_append, encB_append]; exact how, h.d1, fun k hk e => ?_, fun k hk e => ?_, h.below.trans (hfr.toBelow (by omega) (fun k hk => by have := (l2 k hk).1; omega))⟩
  · rcases hk with hk | hk
    · have := (l2 k e).1; omega
    · exact h.d2 k hk e
  · have h1 : Sls w4 (fun k => DS w v vg va k ∨ DS w v vg v5 k) vs fs := h.sls.grow (fun k hk => by
      rcases hk with hk | hk | hk | hk | hk
      · exact .inl hk
      · exact .inl (.inl hk)
      · exact .inl (.inr (.inl hk))
      · exact .inl (.inr (.inr (.inl hk)))
      · rcases hd k hk with e | e
        · exact .inl (.inr (.inr (.inr e)))
        · exact .inr (by omega))
    exact (h1.fr hfr (fun k hk => .inl (.inl (.inr (.inr (.inr hk)))))).grow (fun k hk => .inl (.inr hk))
  · rcases hd k e with e | e
    · exact h.d2 k hk e
    · have := l3 k hk; omega
  · rcases hd k e with e | e
    · exact h.d3 k hk e
    · have := (l1 k hk).2; omega
theorem MF.sat (h : MF w wr sz sk rest x fs vg va v vs) : SAt wr (fun k => k < w.heap.size) vg fs :=
  SAt.of_row h.got (h.sls.grow fun k hk => .inl (.inl (by omega))) (fun k hk e => by have := (h.lt.1 k hk).1; omega)
theorem MF.vge (h : MF w wr sz sk rest x fs vg va v vs) : True := trivial
end
theorem feed_count (size : Nat) (l : List UInt8) : (feed size l).1.length ≤ l.length := by
  induction hn : l.length using Nat.strongRecOn generalizing l with
  | _ n ih =>
    subst hn
    by_cases h : (l.drop (beg l)).length < 4 + size
    · rw [feed_few size l h]; simp
    · rw [feed_more size l h]
      have := ih ((l.drop (beg l)).drop (4 + size)).length (by simp at h ⊢; omega) _ rfl
      simp at this h ⊢
      omega
/-- what the law's loop keeps -/
def MFR (w wr : World) (sz : Nat) (L : List (List UInt8)) (i vg va : Value) : Prop :=
  ∃ (k : Nat) (v : Value) (vs : List Value), k ≤ L.length ∧ i = .int .i64 k ∧ MF w wr sz (feed sz (L.take k).flatten).2.1 (feed sz (L.take k).flatten).2.2 (L.take k).flatten (feed sz (L.take k).flatten).1 vg va v vs ∧ ∀ j, v.ownBlock = some j → w.heap.size ≤ j
theorem flat_len (L : List (List UInt8)) (h : fewB L = true) (k : Nat) : (L.take k).flatten.length ≤ 3000 := by
  have h1 : ∀ M : List (List UInt8), (∀ l ∈ M, l.length ≤ 4000) → M.flatten.length = fewS M := by
    intro M
    induction M with
    | nil => intro _; simp [fewS]
    | cons a r ih =>
      intro hm
      have h2 := ih (fun l hl => hm l (by simp [hl]))
      have h3 := hm a (by simp)
      simp only [fewS, List.flatten_cons, List.length_append, List.map_cons, List.sum_cons] at h2 ⊢
      rw [h2]
      omega
  have h2 := (few_sizes L h).2
  rw [h1 _ (fun l hl => by
    obtain ⟨i, hi, rfl⟩ := List.mem_iff_getElem.1 (List.mem_of_mem_take hl)
    have := h2 i hi
    omega)]
  have h3 := fewS_le L k
  unfold fewB at h
  rw [decide_eq_true_eq] at h
  omega
theorem flat_succ (L : List (List UInt8)) (k : Nat) (h : k < L.length) : (L.take (k + 1)).flatten = (L.take k).flatten ++ L[k] := by
  rw [List.take_succ_eq_append_getElem h, List.flatten_append]
  simp
end Go.Proofs.Ytjeigdopcdeaeaa

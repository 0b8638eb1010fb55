/- Helper facts without a program: a row of the call's own that is read from an offset on, as behind s = s[k:]; append to it. No condition. -/
import Derived.Test.YtnojmkmmfiahgaaA
namespace Go.Proofs.Ytnojmkmmfiahgaa
open Go.ChangeShapes Go.WideShapes Go.ChangeAt Go.RowKit Go.Deep
set_option linter.unusedVariables false

/-- the slice's elements lie in a block of the call's own, from some cell on -/
def OffRow (w : World) (base : Nat) (e : TypeId) (v : Value) (xs : List Value) : Prop :=
  (v = .slice none 0 0 ∧ xs = []) ∨ ∃ g off cap cur, v = .slice (some ⟨g, off, none⟩) xs.length cap ∧ base ≤ g ∧ w.heap[g]? = some (.cells cur e (0, 0)) ∧ xs.length ≤ cap ∧ cap ≤ maxLen ∧ off + cap ≤ cur.size ∧ (cur.toList.drop off).take xs.length = xs
section
variable {w w' : World} {base : Nat} {e : TypeId} {v : Value} {xs : List Value} {S : Nat → Prop}
theorem OffRow.nil (w : World) (base : Nat) (e : TypeId) : OffRow w base e (.slice none 0 0) [] := .inl ⟨rfl, rfl⟩
theorem OffRow.of_own {n : Nat} (h : w.ownsRow base e 1 v n xs) : OffRow w base e v xs := by
  obtain ⟨h1, h2⟩ := h
  obtain rfl : n = xs.length := by omega
  rcases h2 with ⟨rfl, h0⟩ | ⟨g, cap, cur, rfl, hb, hg, hnc, hcm, hsz, hxs⟩
  · exact .inl ⟨by rw [], List.length_eq_zero_iff.1 h0⟩
  · exact .inr ⟨g, 0, cap, cur, rfl, hb, hg, hnc, hcm, by omega, by rw [List.drop_zero]; rw [Nat.mul_one] at hxs; exact hxs⟩
theorem OffRow.same (h : OffRow w base e v xs) (hg : ∀ k, v.ownBlock = some k → w'.heap[k]? = w.heap[k]?) : OffRow w' base e v xs := by
  rcases h with hn | ⟨g, off, cap, cur, rfl, hb, hgg, rest⟩
  · exact .inl hn
  · exact .inr ⟨g, off, cap, cur, rfl, hb, by rw [hg g rfl]; exact hgg, rest⟩
theorem OffRow.lt (h : OffRow w base e v xs) (k : Nat) (hk : v.ownBlock = some k) : base ≤ k ∧ k < w.heap.size := by
  rcases h with ⟨rfl, -⟩ | ⟨g, off, cap, cur, rfl, hb, hgg, rest⟩
  · simp [Value.ownBlock] at hk
  · simp [Value.ownBlock] at hk
    subst hk
    exact ⟨hb, (Array.getElem?_eq_some_iff.1 hgg).1⟩
theorem OffRow.fr (h : OffRow w base e v xs) (hf : Fr S w w') (hs : ∀ k, v.ownBlock = some k → ¬ S k) : OffRow w' base e v xs :=
  h.same fun k hk => hf.block k (h.lt k hk).2 (hs k hk)
theorem OffRow.below {B : Nat} (h : OffRow w base e v xs) (hf : Below B w w') (hB : w.heap.size ≤ B) : OffRow w' base e v xs :=
  h.same fun k hk => hf.block k (Nat.lt_of_lt_of_le (h.lt k hk).2 hB)
theorem OffRow.weaken {B : Nat} (h : OffRow w base e v xs) (hB : B ≤ base) : OffRow w B e v xs := by
  rcases h with hn | ⟨g, off, cap, cur, rfl, hb, rest⟩
  · exact .inl hn
  · exact .inr ⟨g, off, cap, cur, rfl, by omega, rest⟩
theorem OffRow.vat (h : OffRow w base e v xs) : ∃ a cap, v = .slice a xs.length cap ∧ xs.length ≤ cap ∧ cap ≤ maxLen ∧ VAt w a xs ∧ v.ownBlock = a.map (·.block) ∧ (a = none → cap = 0) := by
  rcases h with ⟨rfl, rfl⟩ | ⟨g, off, cap, cur, rfl, hb, hg, hnc, hcm, hsz, hxs⟩
  · exact ⟨none, 0, rfl, by simp, Nat.zero_le _, .inl rfl, rfl, fun _ => rfl⟩
  · refine ⟨_, cap, rfl, hnc, hcm, .inr ⟨g, off, rfl, (Array.getElem?_eq_some_iff.1 hg).1, fun i hi => ?_⟩, rfl, fun h => by cases h⟩
    rw [Joins.cell_of_block hg]
    have e : ((cur.toList.drop off).take xs.length)[i]? = xs[i]? := by rw [hxs]
    rw [List.getElem?_take_of_lt hi, List.getElem?_drop] at e
    rw [← Array.getElem?_toList, e]
    simp [hi]
/-- s[k:], the capacity not all taken -/
theorem OffRow.drop {a : Option Addr} {n cap : Nat} (h : OffRow w base e (.slice a n cap) xs) (k : Nat) (hk : k ≤ n) (hc : k < cap) : ∃ g off, a = some ⟨g, off, none⟩ ∧ OffRow w base e (.slice (some ⟨g, off + k, none⟩) (n - k) (cap - k)) (xs.drop k) := by
  rcases h with ⟨e, -⟩ | ⟨g, off, cap', cur, e, hb, hg, hnc, hcm, hsz, hxs⟩
  · simp only [Value.slice.injEq] at e; omega
  · simp only [Value.slice.injEq] at e
    obtain ⟨rfl, rfl, rfl⟩ := e
    refine ⟨g, off, rfl, .inr ⟨g, off + k, cap - k, cur, by rw [List.length_drop], hb, hg, by rw [List.length_drop]; omega, by omega, by omega, ?_⟩⟩
    conv => rhs; rw [← hxs]
    rw [List.length_drop, List.drop_take, List.drop_drop]
/-- s[k:], all of the capacity taken: the place stays -/
theorem OffRow.drop_all {a : Option Addr} {n cap : Nat} (h : OffRow w base e (.slice a n cap) xs) (hk : cap ≤ n) : OffRow w base e (.slice a 0 0) [] := by
  rcases h with ⟨e, -⟩ | ⟨g, off, cap', cur, e, hb, hg, hnc, hcm, hsz, hxs⟩
  · simp only [Value.slice.injEq] at e
    obtain ⟨rfl, -, -⟩ := e
    exact .inl ⟨rfl, rfl⟩
  · simp only [Value.slice.injEq] at e
    obtain ⟨rfl, rfl, rfl⟩ := e
    exact .inr ⟨g, off, 0, cur, rfl, hb, hg, Nat.le_refl _, Nat.zero_le _, by omega, by simp⟩
end
section
variable {P : Program} (w : World)
theorem run_append_room_off (t ty e : TypeId) (i : TypeInfo) (ht : P.underlying t = some (.slice e)) (hi : P.info? e = some i) (hs : i.size = 1)
    (g off sLen sCap : Nat) (cur : Array Value) (hg : w.heap[g]? = some (.cells cur e (0, 0)))
    (a : Addr) (m c : Nat) (news : List Value) (hl : news.length = m) (hnews : ∀ j u, news[j]? = some u → w.cell? (a.add j) = some u) (h1 : ∀ u ∈ news, u.oneCell' = true)
    (hroom : sLen + m ≤ sCap) (hfit : off + sLen + news.length ≤ cur.size) :
    (Builtin.append_ #[t, t] ty #[.slice (some ⟨g, off, none⟩) sLen sCap, .slice (some a) m c]).run P w =
      .ok (.slice (some ⟨g, off, none⟩) (sLen + m) sCap) (w.setRow g (cur.toList.take (off + sLen) ++ news ++ cur.toList.drop (off + sLen + news.length)).toArray) := by
  have hf := run_firstCells_some (P := P) w i.size m a m c news (by rw [hs]; omega) hnews
  have hst := run_storeCells_at P g (off + sLen) e news 0 cur w hg (by simpa using hfit) h1
  simp only [Nat.add_zero] at hst
  rw [hs] at hf
  simp [Builtin.append_, run_underlying ht, sizeOf, typeInfo, hi, hs, Builtin.lenOf, hroom, hf, Addr.add_lit, hst]
theorem run_append_off (base : Nat) (t ty e : TypeId) (i : TypeInfo) (z : Value) (bytes : Nat) (ht : P.underlying t = some (.slice e)) (hi : P.info? e = some i) (hz : i.zero = some z)
    (hsize : i.size = 1) (hby : i.bytes = bytes) (hzs : z.cells.size = 1) (v : Value) (xs : List Value) (hown : OffRow w base e v xs)
    (A : Option Addr) (m c : Nat) (news : List Value) (hl : news.length = m) (hr : VAt w A news) (h1 : ∀ u ∈ news, u.oneCell' = true) (h63 : xs.length + m ≤ maxLen) (hbytes : (xs.length + m) * bytes ≤ 140737488355328) (hbase : base ≤ w.heap.size) :
    ∃ v' w', (Builtin.append_ #[t, t] ty #[v, .slice A m c]).run P w = .ok v' w' ∧ OffRow w' base e v' (xs ++ news) ∧ w.grownBy w' v.ownBlock ∧ (v'.ownBlock = v.ownBlock ∨ v'.ownBlock = some w.heap.size) := by
  rcases hown with ⟨rfl, rfl⟩ | ⟨g, off, cap, cur, rfl, hb, hg, hnc, hcm, hsz, hxs⟩
  · obtain ⟨v', w', h2, h3, h4, h5⟩ := run_append_src (P := P) w base t ty e i z bytes ht hi hz hsize hby hzs (.slice none 0 0) 0 [] (World.ownsRow_nil _ _ _ _) A m c news hl hr h1 (by simpa using h63) (by simpa using hbytes) hbase
    exact ⟨v', w', h2, OffRow.of_own (by simpa using h3), h4, h5⟩
  · cases A with
    | none =>
      obtain rfl : news = [] := by
        rcases hr with h | ⟨b, off, h, -⟩
        · exact h
        · cases h
      obtain rfl : m = 0 := by simpa using hl.symm
      refine ⟨_, w, ?_, by rw [List.append_nil]; exact .inr ⟨g, off, cap, cur, rfl, hb, hg, hnc, hcm, hsz, hxs⟩, World.grownBy.refl w _, .inl rfl⟩
      simp [Builtin.append_, run_underlying ht, sizeOf, typeInfo, hi, Builtin.lenOf, Builtin.firstCells, hnc, storeCells]
    | some ad =>
      have hnews : ∀ j u, news[j]? = some u → w.cell? (ad.add j) = some u := fun j u hj => by
        rcases hr with h | ⟨b, off, h, -, hc⟩
        · subst h; simp at hj
        · cases h
          obtain ⟨hj1, hj2⟩ := List.getElem?_eq_some_iff.1 hj
          rw [add_plain, hc j hj1, hj2]
      have hlen : (xs ++ news).length = xs.length + m := by rw [List.length_append, hl]
      by_cases hroom : xs.length + m ≤ cap
      · have hfit : off + xs.length + news.length ≤ cur.size := by omega
        have hrun := run_append_room_off (P := P) w t ty e i ht hi hsize g off xs.length cap cur hg ad m c news hl hnews h1 hroom hfit
        refine ⟨_, _, hrun, .inr ⟨g, off, cap, _, by rw [hlen], hb, setRow_heap w g cur _ e _ hg, by rw [hlen]; exact hroom, hcm, ?_, ?_⟩, ⟨rfl, rfl, rfl, by simp, fun k _ hk => setRow_other w g k _ (fun e => hk (by simp [Value.ownBlock, e]))⟩, .inl rfl⟩
        · simp only [List.size_toArray, List.length_append, List.length_take, List.length_drop, Array.length_toList]
          omega
        · have ht1 : (cur.toList.take (off + xs.length)).drop off = xs := by
            rw [List.drop_take, Nat.add_sub_cancel_left]; exact hxs
          have hl1 : off ≤ (cur.toList.take (off + xs.length)).length := by rw [List.length_take]; have : cur.toList.length = cur.size := Array.length_toList; omega
          simp only [List.append_assoc]
          rw [List.drop_append_of_le_length hl1, ht1, ← List.append_assoc, List.take_left]
      · have holds : ∀ j u, xs[j]? = some u → w.cell? ((⟨g, off, none⟩ : Addr).add j) = some u := fun j u hj => by
          obtain ⟨hj1, hj2⟩ := List.getElem?_eq_some_iff.1 hj
          rw [add_plain, Joins.cell_of_block hg]
          have e : ((cur.toList.drop off).take xs.length)[j]? = xs[j]? := by rw [hxs]
          rw [List.getElem?_take_of_lt hj1, List.getElem?_drop] at e
          rw [← Array.getElem?_toList, e, hj]
        have hsmall : xs.length + m ≤ 9223372036854775807 := by simp only [maxLen] at h63; omega
        have hrun := run_append_grow (P := P) w t ty e i z ht hi hz ⟨g, off, none⟩ xs.length cap xs (by rw [hsize, Nat.mul_one]) holds ad m c news (by rw [hsize, Nat.mul_one]; exact hl) hnews (by omega) (by omega) (growslice_fits (by omega) (by rw [hby]; exact hbytes))
        have hge := grownCap_ge w (xs.length + m) cap e
        have hcm' : grownCap w (xs.length + m) cap e ≤ maxLen := grownCap_le_maxLen w (xs.length + m) cap e h63
        refine ⟨_, _, hrun, .inr ⟨w.heap.size, 0, _, _, by rw [hlen], hbase, heap_alloc_new w.drew _, by rw [hlen]; exact hge, hcm', ?_, ?_⟩, ⟨rfl, rfl, rfl, by simp, fun k hk _ => heap_alloc_old w.drew _ hk⟩, .inr rfl⟩
        · simp only [Array.size_append, List.size_toArray, size_zeroCells, hzs, hl, Nat.mul_one]
          omega
        · simp only [Array.toList_append, List.drop_zero, List.append_assoc]
          rw [← List.append_assoc, List.take_left]
theorem wp_append_off {o : Oper} {a : Act} {K : Act → World → Prop} {Q : Exit → Act → World → Prop} (s x : Operand) (t : TypeId)
    (ho : o.op = .call { callee := .builtin .append, args := #[s, x], argTypes := #[t, t] }) (base : Nat) (e : TypeId) (i : TypeInfo) (z : Value) (bytes : Nat) (ht : P.underlying t = some (.slice e)) (hi : P.info? e = some i) (hz : i.zero = some z)
    (hsize : i.size = 1) (hby : i.bytes = bytes) (hzs : z.cells.size = 1) (v : Value) (xs : List Value) (hs : a.eval s = v) (hown : OffRow w base e v xs)
    (A : Option Addr) (m c : Nat) (news : List Value) (hx : a.eval x = .slice A m c) (hl : news.length = m) (hr : VAt w A news) (h1 : ∀ u ∈ news, u.oneCell' = true) (h63 : xs.length + m ≤ maxLen) (hbytes : (xs.length + m) * bytes ≤ 140737488355328) (hbase : base ≤ w.heap.size)
    (h : ∀ v' w', OffRow w' base e v' (xs ++ news) → w.grownBy w' v.ownBlock → (v'.ownBlock = v.ownBlock ∨ v'.ownBlock = some w.heap.size) → K (a.put o.dst v') w') : o.wp P a w K Q := by
  obtain ⟨v', w', hrun, h2, h3, h4⟩ := run_append_off (P := P) w base t o.type e i z bytes ht hi hz hsize hby hzs v xs hown A m c news hl hr h1 h63 hbytes hbase
  unfold Oper.wp execOp
  simp only [ho, resolve, invoke, builtin, Sem.run_bind, Sem.run_pure, Result.andThen_ok, List.map_toArray, List.map_cons, List.map_nil, hs, hx, hrun]
  exact h v' w' h2 h3 h4
theorem wpList_append_off {ops : Array Oper} {rest : List Oper} {o : Oper} {a : Act} {Q : Exit → Act → World → Prop} (hgd : o.guard = none) (s x : Operand) (t : TypeId)
    (ho : o.op = .call { callee := .builtin .append, args := #[s, x], argTypes := #[t, t] }) (base : Nat) (e : TypeId) (i : TypeInfo) (z : Value) (bytes : Nat) (ht : P.underlying t = some (.slice e)) (hi : P.info? e = some i) (hz : i.zero = some z)
    (hsize : i.size = 1) (hby : i.bytes = bytes) (hzs : z.cells.size = 1) (v : Value) (xs : List Value) (hs : a.eval s = v) (hown : OffRow w base e v xs)
    (A : Option Addr) (m c : Nat) (news : List Value) (hx : a.eval x = .slice A m c) (hl : news.length = m) (hr : VAt w A news) (h1 : ∀ u ∈ news, u.oneCell' = true) (h63 : xs.length + m ≤ maxLen) (hbytes : (xs.length + m) * bytes ≤ 140737488355328) (hbase : base ≤ w.heap.size)
    (h : ∀ v' w', OffRow w' base e v' (xs ++ news) → w.grownBy w' v.ownBlock → (v'.ownBlock = v.ownBlock ∨ v'.ownBlock = some w.heap.size) → wpList P ops Q rest (a.put o.dst v') w') : wpList P ops Q (o :: rest) a w :=
  wpList_plain hgd fun _ hK => wp_append_off w s x t ho base e i z bytes ht hi hz hsize hby hzs v xs hs hown A m c news hx hl hr h1 h63 hbytes hbase fun v' w' h2 h3 h4 => hK _ _ (h v' w' h2 h3 h4)
theorem step_append_off {ops : Array Oper} {o : Oper} {a : Act} {K : Act → World → Prop} {Q : Exit → Act → World → Prop} {E : Prop} (hgd : o.guard = none) (s x : Operand) (t : TypeId)
    (ho : o.op = .call { callee := .builtin .append, args := #[s, x], argTypes := #[t, t] }) (base : Nat) (e : TypeId) (i : TypeInfo) (z : Value) (bytes : Nat) (ht : P.underlying t = some (.slice e)) (hi : P.info? e = some i) (hz : i.zero = some z)
    (hsize : i.size = 1) (hby : i.bytes = bytes) (hzs : z.cells.size = 1) (v : Value) (xs : List Value) (hs : a.eval s = v) (hown : OffRow w base e v xs)
    (A : Option Addr) (m c : Nat) (news : List Value) (hx : a.eval x = .slice A m c) (hl : news.length = m) (hr : VAt w A news) (h1 : ∀ u ∈ news, u.oneCell' = true) (h63 : xs.length + m ≤ maxLen) (hbytes : (xs.length + m) * bytes ≤ 140737488355328) (hbase : base ≤ w.heap.size)
    (h : ∀ v' w', OffRow w' base e v' (xs ++ news) → w.grownBy w' v.ownBlock → (v'.ownBlock = v.ownBlock ∨ v'.ownBlock = some w.heap.size) → K (a.put o.dst v') w') :
    if Region.wanted o (yielded ops a.tmps) = true then Oper.wp P o a w K Q else E := by
  have hw : Region.wanted o (yielded ops a.tmps) = true := by simp [Region.wanted, hgd]
  rw [if_pos hw]
  exact wp_append_off w s x t ho base e i z bytes ht hi hz hsize hby hzs v xs hs hown A m c news hx hl hr h1 h63 hbytes hbase h
end
end Go.Proofs.Ytnojmkmmfiahgaa

/- Helper facts without a program: several rows of the call's own beside one another. No condition. -/
import Derived.Test.YtllpbfejoahllaaA
namespace Go.Proofs.Ytllpbfejoahllaa
open Go.ChangeShapes Go.WideShapes Go.ChangeAt Go.RowKit Go.Deep
set_option linter.unusedVariables false

/-- a row: its value, the type of its elements, the cells of one, how many, the cells -/
structure Row where
  v : Value
  ty : TypeId
  sz : Nat
  n : Nat
  xs : List Value
/-- the rows are the call's own, no two share a block -/
def Rows (w : World) (B : Nat) (rs : List Row) : Prop :=
  (∀ (i : Nat) (r : Row), rs[i]? = some r → w.ownsRow B r.ty r.sz r.v r.n r.xs) ∧ (∀ (i j : Nat) (r s : Row), i ≠ j → rs[i]? = some r → rs[j]? = some s → ∀ k, r.v.ownBlock = some k → s.v.ownBlock ≠ some k)
/-- a block of one of the rows -/
def InRows (rs : List Row) (k : Nat) : Prop := ∃ (i : Nat) (r : Row), rs[i]? = some r ∧ r.v.ownBlock = some k
section
variable {w w' : World} {B : Nat} {rs : List Row} {S : Nat → Prop}
theorem Rows.row (h : Rows w B rs) (i : Nat) {r : Row} (hi : rs[i]? = some r) : w.ownsRow B r.ty r.sz r.v r.n r.xs := h.1 i r hi
theorem Rows.lt (h : Rows w B rs) {k : Nat} (hk : InRows rs k) : B ≤ k ∧ k < w.heap.size := by
  obtain ⟨i, r, hi, hk⟩ := hk
  exact (h.1 i r hi).lt k hk
theorem Rows.fr (h : Rows w B rs) (hf : Fr S w w') (hs : ∀ k, InRows rs k → ¬ S k) : Rows w' B rs :=
  ⟨fun i r hi => own_fr (h.1 i r hi) hf (fun k hk => hs k ⟨i, r, hi, hk⟩), h.2⟩
theorem Rows.below {B' : Nat} (h : Rows w B rs) (hb : Below B' w w') (hB : w.heap.size ≤ B') : Rows w' B rs :=
  ⟨fun i r hi => own_below (h.1 i r hi) hb hB, h.2⟩
theorem Rows.base {B' : Nat} (h : Rows w B rs) (hB : B' ≤ B) : Rows w B' rs :=
  ⟨fun i r hi => by
    have h1 := h.1 i r hi
    refine ⟨h1.1, ?_⟩
    rcases h1.2 with hn | ⟨g, cap, cur, e, hb, rest⟩
    · exact .inl hn
    · exact .inr ⟨g, cap, cur, e, Nat.le_trans hB hb, rest⟩, h.2⟩
theorem Rows.nil (w : World) (B : Nat) : Rows w B [] := ⟨fun i r hi => by simp at hi, fun i j r s _ hi => by simp at hi⟩
/-- a row more, that is nil -/
theorem Rows.cons_nil (h : Rows w B rs) (t : TypeId) (k : Nat) : Rows w B (⟨.slice Option.none 0 0, t, k, 0, []⟩ :: rs) := by
  refine ⟨fun i r hi => ?_, fun i j r s hij hi hj k hk => ?_⟩
  · cases i with
    | zero => simp at hi; subst hi; exact World.ownsRow_nil _ _ _ _
    | succ i => exact h.1 i r (by simpa using hi)
  · cases i with
    | zero => simp at hi; subst hi; simp [Value.ownBlock] at hk
    | succ i =>
      cases j with
      | zero => simp at hj; subst hj; simp [Value.ownBlock]
      | succ j => exact h.2 i j r s (by omega) (by simpa using hi) (by simpa using hj) k hk
/-- row i grows: the frame of the step is that of its block -/
theorem Rows.grow (h : Rows w B rs) (i : Nat) {r : Row} (hi : rs[i]? = some r) {v8 : Value} {m : Nat} {ys : List Value} (how : w'.ownsRow B r.ty r.sz v8 m ys) (hg : w.grownBy w' r.v.ownBlock) (hb : v8.ownBlock = r.v.ownBlock ∨ v8.ownBlock = some w.heap.size) : Rows w' B (rs.set i ⟨v8, r.ty, r.sz, m, ys⟩) := by
  have hfr : Fr (fun k => r.v.ownBlock = some k) w w' := (Fr.refl _ _).grown hg (fun k hk => .inl hk)
  have hlen : i < rs.length := (List.getElem?_eq_some_iff.1 hi).1
  have hd : ∀ k, v8.ownBlock = some k → r.v.ownBlock = some k ∨ k = w.heap.size := fun k hk => by
    rcases hb with e | e
    · exact .inl (by rw [← e]; exact hk)
    · rw [e] at hk; cases hk; exact .inr rfl
  refine ⟨fun j s hj => ?_, fun j j' s s' hne hj hj' k hk => ?_⟩
  · by_cases e : i = j
    · subst e
      rw [List.getElem?_set_self hlen] at hj
      cases hj
      exact how
    · rw [List.getElem?_set_ne e] at hj
      exact own_fr (h.1 j s hj) hfr (fun k hk e2 => h.2 i j r s e hi hj k e2 hk)
  · by_cases e : i = j
    · subst e
      rw [List.getElem?_set_self hlen] at hj
      cases hj
      rw [List.getElem?_set_ne hne] at hj'
      intro e2
      rcases hd k hk with e3 | e3
      · exact h.2 i j' r s' hne hi hj' k e3 e2
      · have := ((h.1 j' s' hj').lt k e2).2
        omega
    · rw [List.getElem?_set_ne e] at hj
      by_cases e' : i = j'
      · subst e'
        rw [List.getElem?_set_self hlen] at hj'
        cases hj'
        intro e2
        rcases hd k e2 with e3 | e3
        · exact h.2 i j r s e hi hj k e3 hk
        · have := ((h.1 j s hj).lt k hk).2
          omega
      · rw [List.getElem?_set_ne e'] at hj'
        exact h.2 j j' s s' hne hj hj' k hk
/-- what a grown row changes lies in the rows, or is new -/
theorem Rows.grown_fr (i : Nat) {r : Row} (hi : rs[i]? = some r) (hg : w.grownBy w' r.v.ownBlock) : Fr (InRows rs) w w' :=
  (Fr.refl _ _).grown hg (fun k hk => .inl ⟨i, r, hi, hk⟩)
end
section
variable {P : Program} (w : World)
/-- append of one array's elements, of several cells each -/
theorem wp_append_many {o : Oper} {a : Act} {K : Act → World → Prop} {Q : Exit → Act → World → Prop} (s x : Operand) (t : TypeId)
    (ho : o.op = .call { callee := .builtin .append, args := #[s, x], argTypes := #[t, t] }) (base : Nat) (e : TypeId) (i : TypeInfo) (z : Value) (size bytes : Nat) (ht : P.underlying t = some (.slice e)) (hi : P.info? e = some i) (hz : i.zero = some z)
    (hsize : i.size = size) (hby : i.bytes = bytes) (hzs : z.cells.size = size) (hsz : 0 < size) (v : Value) (n : Nat) (xs : List Value) (hs : a.eval s = v) (hown : w.ownsRow base e size v n xs)
    (A : Addr) (m c : Nat) (news : List Value) (hx : a.eval x = .slice (some A) m c) (hl : news.length = m * size) (hr : ∀ j u, news[j]? = some u → w.cell? (A.add j) = some u) (h1 : ∀ u ∈ news, u.oneCell' = true) (h63 : n + m ≤ maxLen) (hbytes : (n + m) * bytes ≤ 140737488355328) (hbase : base ≤ w.heap.size)
    (h : ∀ v' w', w'.ownsRow base e size v' (n + m) (xs ++ news) → w.grownBy w' v.ownBlock → (v'.ownBlock = v.ownBlock ∨ v'.ownBlock = some w.heap.size) → K (a.put o.dst v') w') : o.wp P a w K Q := by
  obtain ⟨v', w', hrun, h2, h3, -, h4⟩ := run_append_own_at (P := P) w base t o.type e i z size bytes ht hi hz hsize hby hzs hsz v n xs hown A m c news hl hr h1 h63 hbytes hbase
  unfold Oper.wp execOp
  simp only [ho, resolve, invoke, builtin, Sem.run_bind, Sem.run_pure, Result.andThen_ok, List.map_toArray, List.map_cons, List.map_nil, hs, hx, hrun]
  exact h v' w' h2 h3 h4
theorem wpList_append_many {ops : Array Oper} {rest : List Oper} {o : Oper} {a : Act} {Q : Exit → Act → World → Prop} (hgd : o.guard = none) (s x : Operand) (t : TypeId)
    (ho : o.op = .call { callee := .builtin .append, args := #[s, x], argTypes := #[t, t] }) (base : Nat) (e : TypeId) (i : TypeInfo) (z : Value) (size bytes : Nat) (ht : P.underlying t = some (.slice e)) (hi : P.info? e = some i) (hz : i.zero = some z)
    (hsize : i.size = size) (hby : i.bytes = bytes) (hzs : z.cells.size = size) (hsz : 0 < size) (v : Value) (n : Nat) (xs : List Value) (hs : a.eval s = v) (hown : w.ownsRow base e size v n xs)
    (A : Addr) (m c : Nat) (news : List Value) (hx : a.eval x = .slice (some A) m c) (hl : news.length = m * size) (hr : ∀ j u, news[j]? = some u → w.cell? (A.add j) = some u) (h1 : ∀ u ∈ news, u.oneCell' = true) (h63 : n + m ≤ maxLen) (hbytes : (n + m) * bytes ≤ 140737488355328) (hbase : base ≤ w.heap.size)
    (h : ∀ v' w', w'.ownsRow base e size v' (n + m) (xs ++ news) → w.grownBy w' v.ownBlock → (v'.ownBlock = v.ownBlock ∨ v'.ownBlock = some w.heap.size) → wpList P ops Q rest (a.put o.dst v') w') : wpList P ops Q (o :: rest) a w :=
  wpList_plain hgd fun _ hK => wp_append_many w s x t ho base e i z size bytes ht hi hz hsize hby hzs hsz v n xs hs hown A m c news hx hl hr h1 h63 hbytes hbase fun v' w' h2 h3 h4 => hK _ _ (h v' w' h2 h3 h4)
theorem step_append_many {ops : Array Oper} {o : Oper} {a : Act} {K : Act → World → Prop} {Q : Exit → Act → World → Prop} {E : Prop} (hgd : o.guard = none) (s x : Operand) (t : TypeId)
    (ho : o.op = .call { callee := .builtin .append, args := #[s, x], argTypes := #[t, t] }) (base : Nat) (e : TypeId) (i : TypeInfo) (z : Value) (size bytes : Nat) (ht : P.underlying t = some (.slice e)) (hi : P.info? e = some i) (hz : i.zero = some z)
    (hsize : i.size = size) (hby : i.bytes = bytes) (hzs : z.cells.size = size) (hsz : 0 < size) (v : Value) (n : Nat) (xs : List Value) (hs : a.eval s = v) (hown : w.ownsRow base e size v n xs)
    (A : Addr) (m c : Nat) (news : List Value) (hx : a.eval x = .slice (some A) m c) (hl : news.length = m * size) (hr : ∀ j u, news[j]? = some u → w.cell? (A.add j) = some u) (h1 : ∀ u ∈ news, u.oneCell' = true) (h63 : n + m ≤ maxLen) (hbytes : (n + m) * bytes ≤ 140737488355328) (hbase : base ≤ w.heap.size)
    (h : ∀ v' w', w'.ownsRow base e size v' (n + m) (xs ++ news) → w.grownBy w' v.ownBlock → (v'.ownBlock = v.ownBlock ∨ v'.ownBlock = some w.heap.size) → K (a.put o.dst v') w') :
    if Region.wanted o (yielded ops a.tmps) = true then Oper.wp P o a w K Q else E := by
  have hw : Region.wanted o (yielded ops a.tmps) = true := by simp [Region.wanted, hgd]
  rw [if_pos hw]
  exact wp_append_many w s x t ho base e i z size bytes ht hi hz hsize hby hzs hsz v n xs hs hown A m c news hx hl hr h1 h63 hbytes hbase h
end
/-- row i of a struct's rows grows, and the field f of the struct's block takes it -/
theorem Rows.put {w0 w w' : World} {B H bs : Nat} {T : TypeId} {cs : List Value} {rs : List Row} (hk : Blk w bs T cs) (hr : Rows w B rs) (h0 : Below H w0 w) (hB : bs < B) (hH : H ≤ bs) (i : Nat) {r : Row} (hi : rs[i]? = some r) {v8 : Value} {m : Nat} {ys : List Value}
    (how : w'.ownsRow B r.ty r.sz v8 m ys) (hg : w.grownBy w' r.v.ownBlock) (hb : v8.ownBlock = r.v.ownBlock ∨ v8.ownBlock = some w.heap.size) (f : Nat) :
    Blk (w'.setCell ⟨bs, f, Option.none⟩ v8) bs T (cs.set f v8) ∧ Rows (w'.setCell ⟨bs, f, Option.none⟩ v8) B (rs.set i ⟨v8, r.ty, r.sz, m, ys⟩) ∧ Below H w0 (w'.setCell ⟨bs, f, Option.none⟩ v8) := by
  have hr' := hr.grow i hi how hg hb
  have hlt : ∀ k, r.v.ownBlock = some k → B ≤ k := fun k hk => ((hr.row i hi).lt k hk).1
  have hf : Fr (fun k => k = bs) w' (w'.setCell ⟨bs, f, Option.none⟩ v8) := (Fr.refl _ _).set1 _ (by exact .inl rfl)
  have hkw : bs < w.heap.size := hk.lt
  refine ⟨(hk.grown hg (fun e => by have := hlt _ e; omega)).setCell f v8, hr'.fr hf (fun k hk e => by have := (hr'.lt hk).1; omega), ?_⟩
  exact (h0.grown hg (by omega) (fun k hk => by have := hlt k hk; omega)).setCell (p := ⟨bs, f, Option.none⟩) hH v8
end Go.Proofs.Ytllpbfejoahllaa

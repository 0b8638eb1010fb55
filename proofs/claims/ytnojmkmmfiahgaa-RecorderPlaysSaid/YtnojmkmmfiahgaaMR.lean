/- Helper facts: append from a slice that may be nil; packets that are copied. No condition. -/
import Derived.Test.YtnojmkmmfiahgaaMI
namespace Go.Proofs.Ytnojmkmmfiahgaa
open Go.RowKit Go.Deep Go.ChangeShapes Go.WideShapes Go.ChangeAt
set_option linter.unusedVariables false

section
variable {P : Program} (w : World)
theorem run_append_opt (base : Nat) (t ty e : TypeId) (i : TypeInfo) (z : Value) (size bytes : Nat) (ht : P.underlying t = some (.slice e)) (hi : P.info? e = some i) (hz : i.zero = some z)
    (hsize : i.size = size) (hby : i.bytes = bytes) (hzs : z.cells.size = size) (hsz : 0 < size) (v : Value) (n : Nat) (xs : List Value) (hown : w.ownsRow base e size v n xs)
    (A : Option Addr) (m c : Nat) (news : List Value) (hl : news.length = m * size) (hnews : ∀ j u, news[j]? = some u → ∃ ad, A = some ad ∧ w.cell? (ad.add j) = some u) (h1 : ∀ u ∈ news, u.oneCell' = true)
    (h63 : n + m ≤ maxLen) (hbytes : (n + m) * bytes ≤ 140737488355328) (hbase : base ≤ w.heap.size) :
    ∃ v' w', (Builtin.append_ #[t, t] ty #[v, .slice A m c]).run P w = .ok v' w' ∧ w'.ownsRow base e size v' (n + m) (xs ++ news) ∧ w.grownBy w' v.ownBlock ∧ (v'.ownBlock = v.ownBlock ∨ v'.ownBlock = some w.heap.size) := by
  cases A with
  | some ad =>
    obtain ⟨v', w', hrun, h2, h3, -, h4⟩ := run_append_own_at (P := P) w base t ty e i z size bytes ht hi hz hsize hby hzs hsz v n xs hown ad m c news hl (fun j u hj => by
      obtain ⟨_, e, hc⟩ := hnews j u hj
      cases e
      exact hc) h1 h63 hbytes hbase
    exact ⟨v', w', hrun, h2, h3, h4⟩
  | none =>
    have hn : news = [] := by
      cases news with
      | nil => rfl
      | cons x xs =>
        obtain ⟨_, e, _⟩ := hnews 0 x rfl
        cases e
    subst hn
    obtain rfl : m = 0 := by
      rcases Nat.eq_zero_or_pos m with h | h
      · exact h
      · have := Nat.mul_pos h hsz
        simp at hl
        omega
    have hown' := hown
    rcases hown'.2 with ⟨rfl, h0⟩ | ⟨g, cap, cur, rfl, hb, hg, hnc, hcm, hcs, hxs⟩
    · refine ⟨.slice none 0 0, w, ?_, by rw [List.append_nil]; exact hown, World.grownBy.refl w _, .inl rfl⟩
      simp [Builtin.append_, run_underlying ht, sizeOf, typeInfo, hi, Builtin.lenOf, Builtin.firstCells, storeCells]
    · refine ⟨_, w, ?_, by rw [List.append_nil]; exact hown, World.grownBy.refl w _, .inl rfl⟩
      simp [Builtin.append_, run_underlying ht, sizeOf, typeInfo, hi, Builtin.lenOf, Builtin.firstCells, hnc, storeCells]
theorem wp_append_opt {o : Oper} {a : Act} {K : Act → World → Prop} {Q : Exit → Act → World → Prop} (s x : Operand) (t : TypeId)
    (ho : o.op = .call { callee := .builtin .append, args := #[s, x], argTypes := #[t, t] }) (base : Nat) (e : TypeId) (i : TypeInfo) (z : Value) (size bytes : Nat) (ht : P.underlying t = some (.slice e)) (hi : P.info? e = some i) (hz : i.zero = some z)
    (hsize : i.size = size) (hby : i.bytes = bytes) (hzs : z.cells.size = size) (hsz : 0 < size) (v : Value) (n : Nat) (xs : List Value) (hs : a.eval s = v) (hown : w.ownsRow base e size v n xs)
    (A : Option Addr) (m c : Nat) (news : List Value) (hx : a.eval x = .slice A m c) (hl : news.length = m * size) (hr : ∀ j u, news[j]? = some u → ∃ ad, A = some ad ∧ w.cell? (ad.add j) = some u) (h1 : ∀ u ∈ news, u.oneCell' = true) (h63 : n + m ≤ maxLen) (hbytes : (n + m) * bytes ≤ 140737488355328) (hbase : base ≤ w.heap.size)
    (h : ∀ v' w', w'.ownsRow base e size v' (n + m) (xs ++ news) → w.grownBy w' v.ownBlock → (v'.ownBlock = v.ownBlock ∨ v'.ownBlock = some w.heap.size) → K (a.put o.dst v') w') : o.wp P a w K Q := by
  obtain ⟨v', w', hrun, h2, h3, h4⟩ := run_append_opt (P := P) w base t o.type e i z size bytes ht hi hz hsize hby hzs hsz v n xs hown A m c news hl hr h1 h63 hbytes hbase
  unfold Oper.wp execOp
  simp only [ho, resolve, invoke, builtin, Sem.run_bind, Sem.run_pure, Result.andThen_ok, List.map_toArray, List.map_cons, List.map_nil, hs, hx, hrun]
  exact h v' w' h2 h3 h4
theorem wpList_append_opt {ops : Array Oper} {rest : List Oper} {o : Oper} {a : Act} {Q : Exit → Act → World → Prop} (hgd : o.guard = none) (s x : Operand) (t : TypeId)
    (ho : o.op = .call { callee := .builtin .append, args := #[s, x], argTypes := #[t, t] }) (base : Nat) (e : TypeId) (i : TypeInfo) (z : Value) (size bytes : Nat) (ht : P.underlying t = some (.slice e)) (hi : P.info? e = some i) (hz : i.zero = some z)
    (hsize : i.size = size) (hby : i.bytes = bytes) (hzs : z.cells.size = size) (hsz : 0 < size) (v : Value) (n : Nat) (xs : List Value) (hs : a.eval s = v) (hown : w.ownsRow base e size v n xs)
    (A : Option Addr) (m c : Nat) (news : List Value) (hx : a.eval x = .slice A m c) (hl : news.length = m * size) (hr : ∀ j u, news[j]? = some u → ∃ ad, A = some ad ∧ w.cell? (ad.add j) = some u) (h1 : ∀ u ∈ news, u.oneCell' = true) (h63 : n + m ≤ maxLen) (hbytes : (n + m) * bytes ≤ 140737488355328) (hbase : base ≤ w.heap.size)
    (h : ∀ v' w', w'.ownsRow base e size v' (n + m) (xs ++ news) → w.grownBy w' v.ownBlock → (v'.ownBlock = v.ownBlock ∨ v'.ownBlock = some w.heap.size) → wpList P ops Q rest (a.put o.dst v') w') : wpList P ops Q (o :: rest) a w :=
  wpList_plain hgd fun _ hK => wp_append_opt w s x t ho base e i z size bytes ht hi hz hsize hby hzs hsz v n xs hs hown A m c news hx hl hr h1 h63 hbytes hbase fun v' w' h2 h3 h4 => hK _ _ (h v' w' h2 h3 h4)
theorem step_append_opt {ops : Array Oper} {o : Oper} {a : Act} {K : Act → World → Prop} {Q : Exit → Act → World → Prop} {E : Prop} (hgd : o.guard = none) (s x : Operand) (t : TypeId)
    (ho : o.op = .call { callee := .builtin .append, args := #[s, x], argTypes := #[t, t] }) (base : Nat) (e : TypeId) (i : TypeInfo) (z : Value) (size bytes : Nat) (ht : P.underlying t = some (.slice e)) (hi : P.info? e = some i) (hz : i.zero = some z)
    (hsize : i.size = size) (hby : i.bytes = bytes) (hzs : z.cells.size = size) (hsz : 0 < size) (v : Value) (n : Nat) (xs : List Value) (hs : a.eval s = v) (hown : w.ownsRow base e size v n xs)
    (A : Option Addr) (m c : Nat) (news : List Value) (hx : a.eval x = .slice A m c) (hl : news.length = m * size) (hr : ∀ j u, news[j]? = some u → ∃ ad, A = some ad ∧ w.cell? (ad.add j) = some u) (h1 : ∀ u ∈ news, u.oneCell' = true) (h63 : n + m ≤ maxLen) (hbytes : (n + m) * bytes ≤ 140737488355328) (hbase : base ≤ w.heap.size)
    (h : ∀ v' w', w'.ownsRow base e size v' (n + m) (xs ++ news) → w.grownBy w' v.ownBlock → (v'.ownBlock = v.ownBlock ∨ v'.ownBlock = some w.heap.size) → K (a.put o.dst v') w') :
    if Region.wanted o (yielded ops a.tmps) = true then Oper.wp P o a w K Q else E := by
  have hw : Region.wanted o (yielded ops a.tmps) = true := by simp [Region.wanted, hgd]
  rw [if_pos hw]
  exact wp_append_opt w s x t ho base e i z size bytes ht hi hz hsize hby hzs hsz v n xs hs hown A m c news hx hl hr h1 h63 hbytes hbase h
end
/-- packets as cells -/
def PX (w : World) (L : List En) (xs : List Value) : Prop :=
  xs.length = L.length * 3 ∧ ∀ (j : Nat) (e : En), L[j]? = some e → xs[j * 3]? = some (.int .i64 e.time) ∧ (∃ ad cd, xs[j * 3 + 1]? = some (.slice ad e.data.length cd) ∧ e.data.length ≤ cd ∧ cd ≤ maxLen ∧ BX w ad e.data) ∧ xs[j * 3 + 2]? = some (.bool e.want)
theorem PX.x {w w' : World} {L : List En} {xs : List Value} (h : PX w L xs) (hf : XF w w') : PX w' L xs := ⟨h.1, fun j e he => by
  obtain ⟨k1, ⟨ad, cd, k2, k3, k4, k5⟩, k6⟩ := h.2 j e he
  exact ⟨k1, ⟨ad, cd, k2, k3, k4, k5.x hf⟩, k6⟩⟩
theorem PX.of {w : World} {a : Option Addr} {L : List En} (h : PkAt w a L) : ∃ xs, PX w L xs ∧ (∀ j u, xs[j]? = some u → ∃ ad, a = some ad ∧ w.cell? (ad.add j) = some u) ∧ ∀ u ∈ xs, u.oneCell' = true := by
  rcases h with rfl | ⟨b, off, rfl, hb, hk, hc⟩
  · exact ⟨[], ⟨rfl, fun j e he => by simp at he⟩, fun j u hu => by simp at hu, fun u hu => by simp at hu⟩
  · have hq : ∀ q, q < L.length * 3 → ∃ u, w.cell? ⟨b, off + q, none⟩ = some u ∧ u.oneCell' = true := fun q hq => by
      obtain ⟨e, he⟩ : ∃ e, L[q / 3]? = some e := ⟨_, List.getElem?_eq_getElem (by omega)⟩
      obtain ⟨k1, ⟨ad, cd, k2, -⟩, k3⟩ := hc _ e he
      have e9 : q = q / 3 * 3 + q % 3 := by omega
      have hm : q % 3 < 3 := by omega
      generalize q / 3 = g at *
      generalize q % 3 = p at *
      subst e9
      rcases p with _ | _ | _ | p
      · exact ⟨_, k1, rfl⟩
      · exact ⟨_, k2, rfl⟩
      · exact ⟨_, k3, rfl⟩
      · omega
    have hx : ∀ q u, q < L.length * 3 → w.cell? ⟨b, off + q, none⟩ = some u → ((List.range (L.length * 3)).map fun j => (w.cell? ⟨b, off + j, none⟩).getD (.bool false))[q]? = some u := fun q u hq hu => by
      rw [List.getElem?_map, List.getElem?_range hq]
      simp [hu]
    refine ⟨(List.range (L.length * 3)).map fun j => (w.cell? ⟨b, off + j, none⟩).getD (.bool false), ⟨by simp, fun j e he => ?_⟩, fun j u hu => ?_, fun u hu => ?_⟩
    · have hj : j < L.length := (List.getElem?_eq_some_iff.1 he).1
      obtain ⟨k1, ⟨ad, cd, k2, k3, k4, k5⟩, k6⟩ := hc j e he
      exact ⟨hx _ _ (by omega) k1, ⟨ad, cd, hx _ _ (by omega) k2, k3, k4, k5⟩, hx _ _ (by omega) k6⟩
    · have hj : j < L.length * 3 := by
        have h9 := (List.getElem?_eq_some_iff.1 hu).1
        simpa using h9
      obtain ⟨v, hv, -⟩ := hq j hj
      rw [hx j v hj hv] at hu
      cases hu
      exact ⟨_, rfl, by rw [add_plain]; exact hv⟩
    · rw [List.mem_map] at hu
      obtain ⟨j, hj, rfl⟩ := hu
      obtain ⟨v, hv, h9⟩ := hq j (by simpa using hj)
      rw [hv]
      exact h9
theorem PX.snoc {w : World} {L : List En} {xs : List Value} {e : En} {ad : Option Addr} {dl cd : Nat} {tm : Int} {wn : Bool} (h : PX w L xs) (h1 : tm = e.time) (h2 : dl = e.data.length) (h3 : dl ≤ cd) (h4 : cd ≤ maxLen) (h5 : BX w ad e.data) (h6 : wn = e.want) : PX w (L ++ [e]) (xs ++ [.int .i64 tm, .slice ad dl cd, .bool wn]) := by
  subst h1 h2 h6
  have hl := h.1
  refine ⟨by simp only [List.length_append, List.length_cons, List.length_nil]; omega, fun j e' he' => ?_⟩
  by_cases hjk : j < L.length
  · rw [List.getElem?_append_left hjk] at he'
    obtain ⟨k1, ⟨a1, c1, k2, k3⟩, k4⟩ := h.2 j e' he'
    exact ⟨by rw [List.getElem?_append_left (by omega)]; exact k1, ⟨a1, c1, by rw [List.getElem?_append_left (by omega)]; exact k2, k3⟩, by rw [List.getElem?_append_left (by omega)]; exact k4⟩
  · have hj : j < (L ++ [e]).length := (List.getElem?_eq_some_iff.1 he').1
    simp only [List.length_append, List.length_cons, List.length_nil] at hj
    obtain rfl : j = L.length := by omega
    rw [List.getElem?_append_right (Nat.le_refl _), Nat.sub_self] at he'
    cases he'
    refine ⟨?_, ⟨ad, cd, ?_, h3, h4, h5⟩, ?_⟩
    · rw [List.getElem?_append_right (by omega), hl, Nat.sub_self]; rfl
    · rw [List.getElem?_append_right (by omega), hl, Nat.add_sub_cancel_left]; rfl
    · rw [List.getElem?_append_right (by omega), hl, Nat.add_sub_cancel_left]; rfl
/-- the request of one is taken back -/
theorem PX.unwant {w : World} {L : List En} {xs : List Value} {k : Nat} {e : En} (h : PX w L xs) (hk : L[k]? = some e) : PX w (L.set k { e with want := false }) (xs.set (k * 3 + 2) (.bool false)) := by
  have hl := h.1
  have hkl : k < L.length := (List.getElem?_eq_some_iff.1 hk).1
  refine ⟨by rw [List.length_set, List.length_set]; exact hl, fun j e' he' => ?_⟩
  by_cases hjk : j = k
  · subst hjk
    rw [List.getElem?_set_self hkl] at he'
    cases he'
    obtain ⟨k1, ⟨a1, c1, k2, k3⟩, k4⟩ := h.2 j e hk
    exact ⟨by rw [List.getElem?_set_ne (by omega)]; exact k1, ⟨a1, c1, by rw [List.getElem?_set_ne (by omega)]; exact k2, k3⟩, by rw [List.getElem?_set_self (by omega)]⟩
  · rw [List.getElem?_set_ne (fun e => hjk e.symm)] at he'
    obtain ⟨k1, ⟨a1, c1, k2, k3⟩, k4⟩ := h.2 j e' he'
    exact ⟨by rw [List.getElem?_set_ne (by omega)]; exact k1, ⟨a1, c1, by rw [List.getElem?_set_ne (by omega)]; exact k2, k3⟩, by rw [List.getElem?_set_ne (by omega)]; exact k4⟩
/-- they lie in a row -/
theorem PX.at {W : World} {B n a' c' : Nat} {aK : Option Addr} {L : List En} {xs : List Value} (h : PX W L xs) (hl : L.length = n) (how : W.ownsRow B 81 3 (.slice aK a' c') n xs) : a' = n ∧ n ≤ c' ∧ c' ≤ maxLen ∧ PkAt W aK L := by
  rcases how.2 with ⟨e, h0⟩ | ⟨g, cap, cur, e, q1, q2, q3, q4, q5, q6⟩
  · simp only [Value.slice.injEq] at e
    obtain ⟨-, rfl, rfl⟩ := e
    exact ⟨h0.symm, by omega, by unfold maxLen; omega, .inl (List.length_eq_zero_iff.1 (by omega))⟩
  · simp only [Value.slice.injEq] at e
    obtain ⟨rfl, rfl, rfl⟩ := e
    refine ⟨rfl, q3, q4, .inr ⟨g, 0, rfl, (Array.getElem?_eq_some_iff.1 q2).1, fun ⟨cs', t', m', h2, h3⟩ => ?_, fun i e he => ?_⟩⟩
    · rw [q2] at h2
      simp at h2
      obtain ⟨-, rfl, -⟩ := h2
      rcases h3 with (e | e | e | e | e) | e <;> exact absurd e (by decide)
    · have hi : i < a' := by rw [← hl]; exact (List.getElem?_eq_some_iff.1 he).1
      obtain ⟨k1, ⟨a1, c1, k2, k3, k4, k5⟩, k6⟩ := h.2 i e he
      rw [Nat.zero_add]
      exact ⟨(how.cellAt _ (by omega)).trans k1, ⟨a1, c1, (how.cellAt _ (by omega)).trans k2, k3, k4, k5⟩, (how.cellAt _ (by omega)).trans k6⟩
theorem BX.of_row {W : World} {B n a' c' : Nat} {aK : Option Addr} {l : List UInt8} (how : W.ownsRow B 5 1 (.slice aK a' c') n (encB l)) (hl : l.length = n) : a' = n ∧ n ≤ c' ∧ c' ≤ maxLen ∧ BX W aK l := by
  rcases how.2 with ⟨e, h0⟩ | ⟨g, cap, cur, e, q1, q2, q3, q4, q5, q6⟩
  · simp only [Value.slice.injEq] at e
    obtain ⟨-, rfl, rfl⟩ := e
    exact ⟨h0.symm, by omega, by unfold maxLen; omega, .inl (List.length_eq_zero_iff.1 (by omega))⟩
  · simp only [Value.slice.injEq] at e
    obtain ⟨rfl, rfl, rfl⟩ := e
    refine ⟨rfl, q3, q4, .inr ⟨g, 0, rfl, (Array.getElem?_eq_some_iff.1 q2).1, fun ⟨cs', t', m', h2, h3⟩ => ?_, fun i hi => ?_⟩⟩
    · rw [q2] at h2
      simp at h2
      obtain ⟨-, rfl, -⟩ := h2
      rcases h3 with (e | e | e | e | e) | e <;> exact absurd e (by decide)
    · rw [Nat.zero_add]
      refine (how.cellAt _ (by omega)).trans ?_
      simp [encB, hi]
/-- the row stays where it is not written -/
theorem RS.put_self {r : RS} {i : Nat} {s : St} (h : r.stores[i]? = some s) : r.put i s = r := by
  obtain ⟨hlt, rfl⟩ := List.getElem?_eq_some_iff.1 h
  show { r with stores := r.stores.set i r.stores[i] } = r
  rw [List.set_getElem_self]
end Go.Proofs.Ytnojmkmmfiahgaa

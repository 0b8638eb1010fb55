/- Plain law of RecorderRanks. No condition. -/
import Derived.Test.YtnojmkmmfiahgaaUK
namespace Go.Proofs.Ytnojmkmmfiahgaa
open Go.RowKit Go.Deep Go.ChangeShapes Go.WideShapes Go.ChangeAt
set_option linter.unusedVariables false

theorem bestFrom_spec : ∀ (l : List St) (i0 : Nat) (a : Option (Nat × Int)),
    (bestFrom l i0 a = none → a = none ∧ ∀ s ∈ l, s.first = none) ∧
    ∀ q, bestFrom l i0 a = some q → (a = some q ∧ ∀ s ∈ l, s.first.isSome = true → q.2 ≤ s.prio) ∨ ∃ k s, l[k]? = some s ∧ q = (i0 + k, s.prio) ∧ s.first.isSome = true ∧ (∀ a', a = some a' → s.prio < a'.2) ∧ ∀ (j : Nat) (t : St), l[j]? = some t → t.first.isSome = true → (j < k → s.prio < t.prio) ∧ s.prio ≤ t.prio := by
  intro l
  induction l with
  | nil => intro i0 a; exact ⟨fun h => ⟨h, by simp⟩, fun q h => .inl ⟨h, by simp⟩⟩
  | cons x xs ih =>
    intro i0 a
    unfold bestFrom
    by_cases hc : (x.first.isSome && x.beats a) = true
    · rw [if_pos hc]
      obtain ⟨h1, h2⟩ := ih (i0 + 1) (some (i0, x.prio))
      rw [Bool.and_eq_true] at hc
      have hb : ∀ a', a = some a' → x.prio < a'.2 := fun a' e => by
        rw [e] at hc
        exact of_decide_eq_true hc.2
      refine ⟨fun h => absurd (h1 h).1 (by simp), fun q h => .inr ?_⟩
      rcases h2 q h with ⟨e, h3⟩ | ⟨k, s, h3, rfl, h5, h6, h7⟩
      · cases e
        refine ⟨0, x, rfl, rfl, hc.1, hb, fun j t hj ht => ⟨fun h => absurd h (Nat.not_lt_zero _), ?_⟩⟩
        cases j with
        | zero => cases hj; exact Int.le_refl _
        | succ j => exact h3 t (List.mem_of_getElem? (by simpa using hj)) ht
      · have h8 := h6 _ rfl
        dsimp only at h8
        refine ⟨k + 1, s, by simpa using h3, by simp; omega, h5, fun a' e => by have := hb a' e; omega, fun j t hj ht => ?_⟩
        cases j with
        | zero => cases hj; exact ⟨fun _ => h8, by omega⟩
        | succ j => have h9 := h7 j t (by simpa using hj) ht; exact ⟨fun hjk => h9.1 (by omega), h9.2⟩
    · rw [if_neg hc]
      have hx : x.first.isSome = true → ∃ a', a = some a' ∧ a'.2 ≤ x.prio := fun h => by
        rw [h, Bool.true_and] at hc
        cases a with
        | none => exact absurd rfl hc
        | some a' => exact ⟨a', rfl, by simp only [St.beats, decide_eq_true_eq] at hc; omega⟩
      obtain ⟨h1, h2⟩ := ih (i0 + 1) a
      refine ⟨fun h => ⟨(h1 h).1, fun s hs => ?_⟩, fun q h => ?_⟩
      · rcases List.mem_cons.1 hs with rfl | hs
        · cases hf : s.first with
          | none => rfl
          | some k => obtain ⟨a', e, -⟩ := hx (by rw [hf]; rfl); rw [(h1 h).1] at e; cases e
        · exact (h1 h).2 s hs
      · rcases h2 q h with ⟨e, h3⟩ | ⟨k, s, h3, rfl, h5, h6, h7⟩
        · refine .inl ⟨e, fun s hs hf => ?_⟩
          rcases List.mem_cons.1 hs with rfl | hs
          · obtain ⟨a', e', h9⟩ := hx hf; rw [e] at e'; cases e'; exact h9
          · exact h3 s hs hf
        · refine .inr ⟨k + 1, s, by simpa using h3, by simp; omega, h5, h6, fun j t hj ht => ?_⟩
          cases j with
          | zero =>
            cases hj
            obtain ⟨a', e', h9⟩ := hx ht
            have := h6 a' e'
            exact ⟨fun _ => by omega, by omega⟩
          | succ j => have h9 := h7 j t (by simpa using hj) ht; exact ⟨fun hjk => h9.1 (by omega), h9.2⟩
/-! ### the stores -/
section
variable {m : Nat} {pr : Nat → Int} {c : Nat → Nat} {w : Nat → Nat → Bool}
def eR (w : Nat → Nat → Bool) (j k : Nat) : En := ⟨(k : Int), [UInt8.ofNat j, UInt8.ofNat k], w j k⟩
def sR (pr : Nat → Int) (c : Nat → Nat) (w : Nat → Nat → Bool) (j : Nat) : St := ⟨(j : Int), 100, pr j, false, (List.range (c j)).map (eR w j), 0⟩
def rR (now : Int) (m : Nat) (pr : Nat → Int) (c : Nat → Nat) (w : Nat → Nat → Bool) : RS := ⟨now, (List.range m).map (sR pr c w)⟩
theorem rR_get (now : Int) {j : Nat} (hj : j < m) : (rR now m pr c w).stores[j]? = some (sR pr c w j) := by simp [rR, hj]
theorem rR_find (now : Int) {j : Nat} (hj : j < m) : (rR now m pr c w).find (j : Int) = some j := by
  unfold RS.find
  rw [List.findIdx?_eq_some_iff_getElem]
  refine ⟨by simpa [rR] using hj, by simp [rR, sR], fun i hi => ?_⟩
  simp [rR, sR]
  omega
theorem getR {r : RS} {i : Nat} {s : St} (h : r.stores[i]? = some s) : r.stores[i]! = s := by
  obtain ⟨hlt, rfl⟩ := List.getElem?_eq_some_iff.1 h
  simp [hlt]
theorem rR_at (now : Int) {j : Nat} (hj : j < m) : (rR now m pr c w).stores[j]! = sR pr c w j := getR (rR_get now hj)
theorem rR_put (now : Int) {j : Nat} (hj : j < m) {c' : Nat → Nat} {w' : Nat → Nat → Bool} (h : ∀ i, i < m → i ≠ j → sR pr c w i = sR pr c' w' i) : (rR now m pr c w).put j (sR pr c' w' j) = rR now m pr c' w' := by
  unfold RS.put rR
  dsimp only
  congr 1
  refine List.ext_getElem? fun i => ?_
  by_cases e : i = j
  · subst e
    rw [List.getElem?_set_self (by simpa using hj)]
    simp [hj]
  · rw [List.getElem?_set_ne (fun e' => e e'.symm)]
    by_cases hi : i < m
    · simp [hi, h i hi e]
    · simp [hi]
theorem lvl_eR (j : Nat) (ks : List Nat) : lvl (ks.map (eR w j)) = 2 * ks.length := by
  induction ks with
  | nil => rfl
  | cons k ks ih => simp only [List.map_cons, lvl, ih, eR, List.length_cons, List.length_nil]; omega
def no2 : Nat → Nat → Bool := fun _ _ => false
/-- one more in store i -/
def up (c : Nat → Nat) (i : Nat) : Nat → Nat := fun j => if j = i then c j + 1 else c j
theorem ranks_add {i k now : Nat} (hi : i < m) (hc : c i = k) (hk : k ≤ 8) (hn : now ≤ k) : (rR (now : Int) m pr c no2).add (i : Int) (k : Int) [UInt8.ofNat i, UInt8.ofNat k] = (rR (k : Int) m pr (up c i) no2, 0) := by
  have ht : (rR (now : Int) m pr c no2).tick (k : Int) = rR (k : Int) m pr c no2 := by
    unfold RS.tick rR
    dsimp only
    rw [if_pos (by omega), show max (now : Int) (k : Int) = (k : Int) by omega]
  unfold RS.add
  rw [ht, rR_find _ hi]
  dsimp only
  rw [rR_at _ hi]
  have hl : lvl (sR pr c no2 i).L = 2 * k := by
    show lvl ((List.range (c i)).map (eR no2 i)) = _
    rw [lvl_eR, hc]; simp
  have hs : shed 2 100 (sR pr c no2 i).L 0 = ((sR pr c no2 i).L, 0) := shed_stop (by rw [hl]; omega)
  have ha : (sR pr c no2 i).add (rR (k : Int) m pr c no2).now [UInt8.ofNat i, UInt8.ofNat k] = (sR pr (up c i) no2 i, 0) := by
    unfold St.add
    rw [if_neg (by simp), if_neg (by
      rw [hl]
      show ¬ ((100 : Int) < _ ∨ _ ∧ (100 : Int) < _)
      simp only [List.length_cons, List.length_nil]
      omega)]
    show (({ sR pr c no2 i with L := (shed 2 100 (sR pr c no2 i).L 0).1 ++ [_], drop := (shed 2 100 (sR pr c no2 i).L 0).2 } : St), (0 : Int)) = _
    rw [hs]
    unfold sR
    dsimp only
    rw [show up c i i = c i + 1 by simp [up], List.range_succ, List.map_append]
    simp only [List.map_cons, List.map_nil]
    rw [hc]
    rfl
  rw [ha]
  dsimp only
  rw [rR_put _ hi (fun j _ hj => by unfold sR up; rw [if_neg hj])]
/-- stores that have been asked for -/
def wA (i : Nat) : Nat → Nat → Bool := fun j _ => decide (j < i)
theorem ranks_replay {i : Nat} {now : Int} (hi : i < m) (hc : c i ≤ 9) : (rR now m pr c (wA i)).replay (i : Int) 0 9 = (rR now m pr c (wA (i + 1)), 0) := by
  unfold RS.replay
  rw [rR_find _ hi]
  dsimp only
  rw [if_neg (by decide), rR_at _ hi]
  have hm : (sR pr c (wA i) i).mark 0 9 = sR pr c (wA (i + 1)) i := by
    unfold St.mark sR
    dsimp only
    congr 1
    rw [List.map_map]
    refine List.map_congr_left fun k hk => ?_
    have := List.mem_range.1 hk
    unfold eR wA
    simp only [Function.comp]
    rw [show decide ((0 : Int) ≤ (k : Int)) = true from decide_eq_true (by omega), show decide ((k : Int) ≤ 9) = true from decide_eq_true (by omega), show decide (i < i + 1) = true from decide_eq_true (by omega)]
    simp
  rw [hm, rR_put _ hi (fun j _ hj => by unfold sR eR wA; rw [show decide (j < i) = decide (j < i + 1) by simp only [decide_eq_decide]; omega])]
/-- what is left -/
def wU (u : Nat → Nat) : Nat → Nat → Bool := fun j k => decide (u j ≤ k)
theorem wA_all (now : Int) : rR now m pr c (wA m) = rR now m pr c (wU fun _ => 0) := by
  unfold rR
  congr 1
  refine List.map_congr_left fun j hj => ?_
  have := List.mem_range.1 hj
  unfold sR eR wA wU
  rw [show decide (j < m) = true from decide_eq_true this]
  simp
theorem ranks_first (u : Nat → Nat) (j : Nat) : (sR pr c (wU u) j).first = if u j < c j then some (u j) else none := by
  unfold St.first
  split
  · rename_i h
    rw [List.findIdx?_eq_some_iff_getElem]
    refine ⟨by simpa [sR] using h, by simp [sR, eR, wU], fun k hk => ?_⟩
    simp [sR, eR, wU]
    omega
  · rename_i h
    rw [List.findIdx?_eq_none_iff]
    intro x hx
    obtain ⟨k, hk, rfl⟩ := List.mem_map.1 (show x ∈ (List.range (c j)).map (eR (wU u) j) from hx)
    have := List.mem_range.1 hk
    exact decide_eq_false (by omega)
theorem ranks_none {u : Nat → Nat} {now : Int} (h : ∀ j, j < m → ¬ u j < c j) : (rR now m pr c (wU u)).next = (rR now m pr c (wU u), none) := by
  have hb : (rR now m pr c (wU u)).best = none := by
    unfold RS.best
    cases hq : bestFrom (rR now m pr c (wU u)).stores 0 none with
    | none => rfl
    | some q =>
      rcases (bestFrom_spec _ _ _).2 q hq with ⟨e, -⟩ | ⟨k, s, h1, -, h2, -⟩
      · cases e
      · have hk : k < m := by have := (List.getElem?_eq_some_iff.1 h1).1; simpa [rR] using this
        rw [rR_get _ hk] at h1
        cases h1
        rw [ranks_first, if_neg (h k hk)] at h2
        cases h2
  unfold RS.next
  rw [hb]
theorem ranks_some {u : Nat → Nat} {now : Int} (h : ∃ j, j < m ∧ u j < c j) :
    ∃ i, i < m ∧ u i < c i ∧ (∀ j, j < m → u j < c j → j = i ∨ pr i < pr j ∨ pr i = pr j ∧ i < j) ∧ (rR now m pr c (wU u)).next = (rR now m pr c (wU (up u i)), some [UInt8.ofNat i, UInt8.ofNat (u i)]) := by
  cases hq : bestFrom (rR now m pr c (wU u)).stores 0 none with
  | none =>
    obtain ⟨j, hj, hu⟩ := h
    have := ((bestFrom_spec _ _ _).1 hq).2 _ (List.mem_of_getElem? (rR_get now hj))
    rw [ranks_first, if_pos hu] at this
    cases this
  | some q =>
    rcases (bestFrom_spec _ _ _).2 q hq with ⟨e, -⟩ | ⟨k, s, h1, rfl, h2, -, h3⟩
    · cases e
    · have hk : k < m := by have := (List.getElem?_eq_some_iff.1 h1).1; simpa [rR] using this
      rw [rR_get _ hk] at h1
      cases h1
      have hu : u k < c k := by
        by_cases e : u k < c k
        · exact e
        · rw [ranks_first, if_neg e] at h2; cases h2
      refine ⟨k, hk, hu, fun j hj huj => ?_, ?_⟩
      · obtain ⟨a1, a2⟩ := h3 j _ (rR_get now hj) (by rw [ranks_first, if_pos huj]; rfl)
        have a1' : j < k → pr k < pr j := a1
        have a2' : pr k ≤ pr j := a2
        by_cases e : j = k
        · exact .inl e
        · by_cases e2 : j < k
          · exact .inr (.inl (a1' e2))
          · by_cases e3 : pr k = pr j
            · exact .inr (.inr ⟨e3, by omega⟩)
            · exact .inr (.inl (by omega))
      · have hb : (rR now m pr c (wU u)).best = some k := by
          unfold RS.best
          rw [hq]
          simp
        have hg : (sR pr c (wU u) k).L[u k]! = eR (wU u) k (u k) := by
          have : (sR pr c (wU u) k).L[u k]? = some (eR (wU u) k (u k)) := by simp [sR, hu]
          obtain ⟨hlt, e⟩ := List.getElem?_eq_some_iff.1 this
          simp [hlt, e]
        unfold RS.next
        rw [hb]
        dsimp only
        rw [rR_at _ hk, ranks_first, if_pos hu]
        dsimp only
        have ht : (sR pr c (wU u) k).take (u k) = sR pr c (wU (up u k)) k := by
          unfold St.take
          rw [hg]
          unfold sR
          dsimp only
          congr 1
          refine List.ext_getElem? fun j => ?_
          by_cases e : j = u k
          · subst e
            rw [List.getElem?_set_self (by simpa using hu)]
            simp [hu, eR, wU, up]
          · rw [List.getElem?_set_ne (fun e' => e e'.symm)]
            by_cases hj : j < c k
            · simp only [List.getElem?_map, List.getElem?_range hj, Option.map_some]
              unfold eR wU up
              rw [if_pos rfl, show decide (u k ≤ j) = decide (u k + 1 ≤ j) by simp only [decide_eq_decide]; omega]
            · simp [hj]
        rw [ht, hg, rR_put _ hk (fun j _ hj => by unfold sR eR wU up; rw [if_neg hj])]
        rfl
end
/-! ### the count -/
def left (m : Nat) (c u : Nat → Nat) : Nat := ((List.range m).map fun j => c j - u j).sum
theorem left_succ (m : Nat) (c u : Nat → Nat) : left (m + 1) c u = left m c u + (c m - u m) := by
  unfold left
  rw [List.range_succ, List.map_append, List.sum_append]
  simp
theorem left_up {c u : Nat → Nat} {i : Nat} (h : u i < c i) : ∀ m, (i < m → left m c u = left m c (up u i) + 1) ∧ (m ≤ i → left m c u = left m c (up u i))
  | 0 => ⟨fun h => absurd h (Nat.not_lt_zero _), fun _ => rfl⟩
  | m + 1 => by
    obtain ⟨h1, h2⟩ := left_up h m
    rw [left_succ, left_succ]
    constructor
    · intro hi
      by_cases e : i = m
      · subst e
        rw [h2 (Nat.le_refl _), show up u i i = u i + 1 by simp [up]]
        omega
      · rw [h1 (by omega), show up u i m = u m by simp [up]; omega]
        omega
    · intro hi
      rw [h2 (by omega), show up u i m = u m by simp [up]; omega]
theorem left_pos {c u : Nat → Nat} : ∀ m, 0 < left m c u → ∃ j, j < m ∧ u j < c j
  | 0, h => by simp [left] at h
  | m + 1, h => by
    rw [left_succ] at h
    by_cases e : u m < c m
    · exact ⟨m, by omega, e⟩
    · have h0 : c m - u m = 0 := Nat.sub_eq_zero_of_le (Nat.not_lt.1 e)
      rw [h0, Nat.add_zero] at h
      obtain ⟨j, h1, h2⟩ := left_pos m h
      exact ⟨j, by omega, h2⟩
theorem left_zero {c u : Nat → Nat} : ∀ m, left m c u = 0 → ∀ j, j < m → ¬ u j < c j
  | 0, _, j, hj => by omega
  | m + 1, h, j, hj => by
    rw [left_succ] at h
    by_cases e : j = m
    · subst e; omega
    · exact left_zero m (by omega) j (by omega)
/-- the order goes up -/
theorem ranks_up {m i : Nat} {pr : Nat → Int} {c u : Nat → Nat} (hm : m ≤ 10) (hc : ∀ j, j < m → c j ≤ 9) (hi : i < m) (hu : u i < c i) (h : ∀ j, j < m → u j < c j → j = i ∨ pr i < pr j ∨ pr i = pr j ∧ i < j) :
    ∀ j, j < m → up u i j < c j → pr i * 1000 + (i : Int) * 10 + (u i : Int) < pr j * 1000 + (j : Int) * 10 + (up u i j : Int) := by
  intro j hj huj
  have h1 := hc i hi
  by_cases e : j = i
  · subst e
    rw [show up u j j = u j + 1 by simp [up]]
    omega
  · rw [show up u i j = u j by simp [up, e]] at huj ⊢
    rcases h j hj huj with h | h | ⟨h, h2⟩
    · exact absurd h e
    · omega
    · omega
end Go.Proofs.Ytnojmkmmfiahgaa

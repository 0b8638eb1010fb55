/- Plain law of RecorderKeeps. No condition. -/
import Derived.Test.YtnojmkmmfiahgaaU
namespace Go.Proofs.Ytnojmkmmfiahgaa
open Go.RowKit Go.Deep Go.ChangeShapes Go.WideShapes Go.ChangeAt
set_option linter.unusedVariables false

/-- the store that is kept: nothing requested, early times -/
def sK (room : Int) (circ : Bool) (L : List En) (d : Nat) : St := ⟨1, room, 0, circ, L, d⟩
def KL (L : List En) : Prop := ∀ x ∈ L, x.want = false ∧ 0 ≤ x.time ∧ x.time ≤ 100
theorem keeps_tick {now i : Nat} (h : now ≤ i) (h2 : i ≤ 60) : (if (i : Int) ≤ 1099511627776 then max (now : Int) (i : Int) else (now : Int)) = (i : Int) := by
  rw [if_pos (by omega)]; omega
theorem keeps_full {now i d : Nat} {room : Int} {circ : Bool} {L : List En} {b : List UInt8} (h : now ≤ i) (h2 : i ≤ 60) (hb : 1 ≤ b.length) (hb2 : b.length ≤ 20) (hf : room < (b.length : Int) ∨ circ = false ∧ room < (lvl L + b.length : Nat)) :
    (one (now : Int) (sK room circ L d)).add 1 (i : Int) b = (one (i : Int) (sK room circ L d), 7) := by
  refine (one_add (t' := (i : Int)) _ _ (sK room circ L d) b (keeps_tick h h2)).trans ?_
  have : (sK room circ L d).add (i : Int) b = (sK room circ L d, 7) := by
    unfold St.add
    rw [if_neg (by omega), if_pos (show (sK room circ L d).room < (b.length : Int) ∨ (sK room circ L d).circ = false ∧ (sK room circ L d).room < (lvl (sK room circ L d).L + b.length : Nat) from hf)]
  rw [this]
theorem keeps_add {now i d k : Nat} {room : Int} {circ : Bool} {L : List En} {b : List UInt8} (h : now ≤ i) (h2 : i ≤ 60) (hb : 1 ≤ b.length) (hb2 : b.length ≤ 20) (hf : ¬ (room < (b.length : Int) ∨ circ = false ∧ room < (lvl L + b.length : Nat)))
    (hs : shed b.length room L d = (L.drop k, d + k)) :
    (one (now : Int) (sK room circ L d)).add 1 (i : Int) b = (one (i : Int) (sK room circ (L.drop k ++ [⟨(i : Int), b, false⟩]) (d + k)), 0) := by
  refine (one_add (t' := (i : Int)) _ _ (sK room circ L d) b (keeps_tick h h2)).trans ?_
  have : (sK room circ L d).add (i : Int) b = (sK room circ (L.drop k ++ [⟨(i : Int), b, false⟩]) (d + k), 0) := by
    unfold St.add
    rw [if_neg (by omega), if_neg (show ¬ ((sK room circ L d).room < (b.length : Int) ∨ (sK room circ L d).circ = false ∧ (sK room circ L d).room < (lvl (sK room circ L d).L + b.length : Nat)) from hf)]
    show (({ sK room circ L d with L := (shed b.length room L d).1 ++ [_], drop := (shed b.length room L d).2 } : St), (0 : Int)) = _
    rw [hs]
    rfl
  rw [this]
theorem shed_go {n : Nat} {room : Int} {L : List En} {d : Nat} {x : En} {xs : List En} (h : L = x :: xs) (hf : room < (lvl L + n : Nat)) : shed n room L d = shed n room xs (d + 1) := by
  subst h
  rw [shed, if_pos hf]
theorem shed_stop {n : Nat} {room : Int} {L : List En} {d : Nat} (hf : ¬ room < (lvl L + n : Nat)) : shed n room L d = (L, d) := by
  cases L with
  | nil => rfl
  | cons x xs => rw [shed, if_neg hf]
theorem KL.drop {L : List En} (h : KL L) (k : Nat) : KL (L.drop k) := fun x hx => h x (List.mem_of_mem_drop hx)
theorem KL.snoc {L : List En} (h : KL L) {i : Nat} (b : List UInt8) (hi : i ≤ 60) : KL (L ++ [⟨(i : Int), b, false⟩]) := fun x hx => by
  rcases List.mem_append.1 hx with e | e
  · exact h x e
  · rw [List.mem_singleton] at e; subst e; exact ⟨rfl, by dsimp only; omega, by dsimp only; omega⟩
/-- requested from packet i on -/
def wantK (L : List En) (i : Nat) : List En := L.mapIdx fun j x => { x with want := decide (i ≤ j) }
theorem wantK_length (L : List En) (i : Nat) : (wantK L i).length = L.length := by simp [wantK]
theorem wantK_get (L : List En) (i j : Nat) : (wantK L i)[j]? = (L[j]?).map fun x => { x with want := decide (i ≤ j) } := by simp [wantK]
theorem wantK_end {L : List En} (h : KL L) : wantK L L.length = L := by
  refine List.ext_getElem? fun j => ?_
  rw [wantK_get]
  cases e : L[j]? with
  | none => rfl
  | some x =>
    have h1 := (List.getElem?_eq_some_iff.1 e).1
    have h2 := (h x (List.mem_of_getElem? e)).1
    rw [Option.map_some, show decide (L.length ≤ j) = false from decide_eq_false (by omega), ← h2]
theorem lvl_wantK (L : List En) (i : Nat) : lvl (wantK L i) = lvl L := by
  induction L generalizing i with
  | nil => rfl
  | cons x xs ih =>
    have h1 : wantK (x :: xs) i = { x with want := decide (i ≤ 0) } :: wantK xs (i - 1) := by
      unfold wantK
      rw [List.mapIdx_cons]
      congr 1
      refine List.ext_getElem? fun j => ?_
      simp only [List.getElem?_mapIdx]
      rw [show decide (i ≤ j + 1) = decide (i - 1 ≤ j) by simp only [decide_eq_decide]; omega]
    rw [h1]
    simp only [lvl, ih]
theorem keeps_mark {room : Int} {circ : Bool} {L : List En} {d : Nat} (h : KL L) (u : Int) (hu : 100 ≤ u) : (sK room circ L d).mark 0 u = sK room circ (wantK L 0) d := by
  unfold St.mark sK
  dsimp only
  congr 1
  refine List.ext_getElem? fun j => ?_
  rw [wantK_get, List.getElem?_map]
  cases e : L[j]? with
  | none => rfl
  | some x =>
    obtain ⟨h1, h2, h3⟩ := h x (List.mem_of_getElem? e)
    simp only [Option.map_some, h1, Bool.false_or, Nat.zero_le, decide_true]
    rw [show decide ((0 : Int) ≤ x.time) = true from decide_eq_true h2, show decide (x.time ≤ u) = true from decide_eq_true (by omega)]
    rfl
theorem keeps_mark2 {room : Int} {circ : Bool} {L : List En} {d : Nat} (t u : Int) : (sK room circ (wantK L 0) d).mark t u = sK room circ (wantK L 0) d := by
  unfold St.mark sK
  dsimp only
  congr 1
  refine List.ext_getElem? fun j => ?_
  rw [List.getElem?_map, wantK_get]
  cases e : L[j]? with
  | none => rfl
  | some x => simp
theorem keeps_next {now : Int} {room : Int} {circ : Bool} {L : List En} {d i : Nat} {x : En} (hi : L[i]? = some x) :
    (one now (sK room circ (wantK L i) d)).next = (one now (sK room circ (wantK L (i + 1)) d), some x.data) := by
  have hlt := (List.getElem?_eq_some_iff.1 hi).1
  have hg : (wantK L i)[i]? = some { x with want := true } := by rw [wantK_get, hi]; simp
  have hL : (sK room circ (wantK L i) d).L = (wantK L i).take i ++ { x with want := true } :: (wantK L i).drop (i + 1) := by
    show wantK L i = _
    have h1 : i < (wantK L i).length := by rw [wantK_length]; exact hlt
    rw [List.getElem?_eq_getElem h1] at hg
    rw [← Option.some.inj hg, ← List.drop_eq_getElem_cons h1, List.take_append_drop]
  refine (one_next_some now _ _ _ _ hL (fun y hy => ?_) rfl).trans ?_
  · obtain ⟨j, hj⟩ := List.mem_iff_getElem?.1 hy
    have h1 := (List.getElem?_eq_some_iff.1 hj).1
    rw [List.length_take] at h1
    rw [List.getElem?_take_of_lt (by omega), wantK_get] at hj
    obtain ⟨z, -, rfl⟩ := Option.map_eq_some_iff.1 hj
    exact decide_eq_false (by omega)
  · have e : (wantK L i).take i ++ ({ x with want := false } : En) :: (wantK L i).drop (i + 1) = wantK L (i + 1) := by
      refine List.ext_getElem? fun j => ?_
      rw [wantK_get]
      have hl : ((wantK L i).take i).length = i := by rw [List.length_take, wantK_length]; omega
      by_cases h1 : j < i
      · rw [List.getElem?_append_left (by omega), List.getElem?_take_of_lt h1, wantK_get]
        rw [show decide (i ≤ j) = false from decide_eq_false (by omega), show decide (i + 1 ≤ j) = false from decide_eq_false (by omega)]
      · rw [List.getElem?_append_right (by omega), hl]
        by_cases h2 : j = i
        · subst h2
          rw [Nat.sub_self, hi]
          simp
        · rw [show j - i = (j - i - 1) + 1 by omega, List.getElem?_cons_succ, List.getElem?_drop, wantK_get, show i + 1 + (j - i - 1) = j by omega]
          rw [show decide (i ≤ j) = true from decide_eq_true (by omega), show decide (i + 1 ≤ j) = true from decide_eq_true (by omega)]
    show (one now { sK room circ (wantK L i) d with L := _ }, _) = _
    rw [e]
    rfl
theorem keeps_end {now : Int} {room : Int} {circ : Bool} {L : List En} {d : Nat} (h : KL L) : (one now (sK room circ L d)).next = (one now (sK room circ L d), none) :=
  one_next_none now _ (fun x hx => (h x hx).1)
end Go.Proofs.Ytnojmkmmfiahgaa

/- Plain laws of a recorder with one store; times. No condition. -/
import Derived.Test.YtnojmkmmfiahgaaT
namespace Go.Proofs.Ytnojmkmmfiahgaa
open Go.RowKit Go.Deep Go.ChangeShapes Go.WideShapes Go.ChangeAt
set_option linter.unusedVariables false

/-- a recorder with one store -/
def one (now : Int) (s : St) : RS := ⟨now, [s]⟩
theorem one_find (now : Int) (s : St) : (one now s).find s.id = some 0 := by
  unfold RS.find one
  simp
theorem one_put (now : Int) (s t : St) : (one now s).put 0 t = one now t := rfl
theorem one_at (now : Int) (s : St) : (one now s).stores[0]! = s := rfl
theorem one_tick (now t : Int) (s : St) : (one now s).tick t = one (if t ≤ 1099511627776 then max now t else now) s := rfl
theorem one_add (now t : Int) (s : St) (b : List UInt8) {t' : Int} (ht : (if t ≤ 1099511627776 then max now t else now) = t') : (one now s).add s.id t b = (one t' (s.add t' b).1, (s.add t' b).2) := by
  unfold RS.add
  rw [one_tick, ht, one_find]
  rfl
theorem one_replay (now t u : Int) (s : St) (h : ¬ (t < 0 ∨ u < t ∨ 1099511627776 < u)) : (one now s).replay s.id t u = (one now (s.mark t u), 0) := by
  unfold RS.replay
  rw [one_find]
  dsimp only
  rw [if_neg h]
  rfl
theorem one_delete (now t : Int) (s : St) (h : ¬ (t < 0 ∨ 1099511627776 < t)) : (one now s).delete s.id t = (one now (s.cut t), 0) := by
  unfold RS.delete
  rw [one_find]
  dsimp only
  rw [if_neg h]
  rfl
theorem one_level (now : Int) (s : St) : (one now s).level s.id = (lvl s.L : Int) := by
  unfold RS.level
  rw [one_find]
  rfl
theorem one_dropped (now : Int) (s : St) : (one now s).dropped s.id = (s.drop : Int) := by
  unfold RS.dropped
  rw [one_find]
  rfl
theorem one_best (now : Int) (s : St) : (one now s).best = if s.first.isSome = true then some 0 else none := by
  unfold RS.best one
  simp only [bestFrom, St.beats, Bool.and_true]
  split <;> rfl
theorem one_next_none (now : Int) (s : St) (h : ∀ x ∈ s.L, x.want = false) : (one now s).next = (one now s, none) := by
  have hf : s.first = none := by
    unfold St.first
    rw [List.findIdx?_eq_none_iff]
    exact h
  unfold RS.next
  rw [one_best, hf]
  rfl
theorem one_next_some (now : Int) (s : St) (P Q : List En) (x : En) (hL : s.L = P ++ x :: Q) (hP : ∀ y ∈ P, y.want = false) (hx : x.want = true) :
    (one now s).next = (one now { s with L := P ++ { x with want := false } :: Q }, some x.data) := by
  have hf : s.first = some P.length := by
    unfold St.first
    rw [hL, List.findIdx?_append]
    have h1 : P.findIdx? (·.want) = none := by rw [List.findIdx?_eq_none_iff]; exact hP
    rw [h1]
    simp [List.findIdx?_cons, hx]
  have hg : s.L[P.length]! = x := by rw [hL]; simp
  unfold RS.next
  rw [one_best, hf]
  simp only [Option.isSome_some, if_true]
  rw [one_at, hf]
  dsimp only
  rw [hg, one_put]
  unfold St.take
  rw [hg, hL]
  simp
/-! ### RecorderTimes -/
/-- the time behind i steps -/
def tmS (l : List UInt8) (i : Nat) : Nat := ((l.take i).map fun b => b.toNat % 16).sum
theorem tmS_succ {l : List UInt8} {i : Nat} {b : UInt8} (h : l[i]? = some b) : tmS l (i + 1) = tmS l i + b.toNat % 16 := by
  obtain ⟨hlt, rfl⟩ := List.getElem?_eq_some_iff.1 h
  unfold tmS
  rw [List.take_succ_eq_append_getElem hlt, List.map_append, List.sum_append]
  simp
theorem tmS_step (l : List UInt8) (i : Nat) : tmS l i ≤ tmS l (i + 1) ∧ tmS l (i + 1) ≤ tmS l i + 15 := by
  by_cases h : i < l.length
  · have := tmS_succ (List.getElem?_eq_getElem h)
    omega
  · unfold tmS
    rw [List.take_of_length_le (by omega), List.take_of_length_le (by omega)]
    omega
theorem tmS_mono (l : List UInt8) {i j : Nat} (h : i ≤ j) : tmS l i ≤ tmS l j := by
  induction j with
  | zero =>
    have : i = 0 := by omega
    rw [this]
    exact Nat.le_refl _
  | succ j ih =>
    by_cases e : i = j + 1
    · subst e; exact Nat.le_refl _
    · exact Nat.le_trans (ih (by omega)) (tmS_step l j).1
theorem tmS_le (l : List UInt8) (i : Nat) : tmS l i ≤ 15 * i := by
  induction i with
  | zero => simp [tmS]
  | succ i ih => have := (tmS_step l i).2; omega
/-- packet j, from packet i on requested -/
def eT (l : List UInt8) (w : Nat → Bool) (j : Nat) : En := ⟨(tmS l (j + 1) : Int), [UInt8.ofNat j], w j⟩
def sT (l : List UInt8) (w : Nat → Bool) (d n : Nat) : St := ⟨1, 1000, 0, false, (List.range' d (n - d)).map (eT l w), 0⟩
theorem lvl_eT (l : List UInt8) (w : Nat → Bool) (js : List Nat) : lvl (js.map (eT l w)) = js.length := by
  induction js with
  | nil => rfl
  | cons j js ih => simp only [List.map_cons, lvl, ih, eT, List.length_cons, List.length_nil]; omega
def no : Nat → Bool := fun _ => false
theorem times_add {l : List UInt8} {i : Nat} (hi : i < 60) : (one (tmS l i : Int) (sT l no 0 i)).add 1 (tmS l (i + 1) : Int) [UInt8.ofNat i] = (one (tmS l (i + 1) : Int) (sT l no 0 (i + 1)), 0) := by
  have h1 := tmS_le l (i + 1)
  have h2 := (tmS_step l i).1
  refine (one_add (t' := (tmS l (i + 1) : Int)) (tmS l i : Int) (tmS l (i + 1) : Int) (sT l no 0 i) [UInt8.ofNat i] ?_).trans ?_
  · rw [if_pos (by omega)]; omega
  · have hl : lvl (sT l no 0 i).L = i := by
      show lvl ((List.range' 0 (i - 0)).map (eT l no)) = i
      rw [lvl_eT]; simp
    have hs : shed 1 1000 (sT l no 0 i).L 0 = ((sT l no 0 i).L, 0) := by
      obtain ⟨k, -, h3, -⟩ := shed_sub 1 1000 (sT l no 0 i).L 0
      cases h4 : (sT l no 0 i).L with
      | nil => rfl
      | cons x xs => unfold shed; rw [if_neg (by rw [← h4, hl]; omega)]
    have ha : (sT l no 0 i).add (tmS l (i + 1) : Int) [UInt8.ofNat i] = (sT l no 0 (i + 1), 0) := by
      unfold St.add
      rw [if_neg (by simp), if_neg (by
        rw [hl]
        simp only [List.length_cons, List.length_nil]
        show ¬ ((1000 : Int) < _ ∨ _ ∧ (1000 : Int) < _)
        omega)]
      show (({ sT l no 0 i with L := (shed 1 1000 (sT l no 0 i).L 0).1 ++ [_], drop := (shed 1 1000 (sT l no 0 i).L 0).2 } : St), (0 : Int)) = _
      rw [hs]
      unfold sT
      simp only [Nat.sub_zero]
      rw [List.range'_concat, List.map_append]
      simp [eT, no]
    rw [ha]
/-- how many go -/
theorem times_cut (l : List UInt8) (n : Nat) (t : Nat) : ∃ d, d ≤ n ∧ (sT l no 0 n).cut (t : Int) = sT l no d n ∧ (∀ j, j < n → (tmS l (j + 1) < t ↔ j < d)) := by
  obtain ⟨d, h1, h2⟩ := dropWhile_drop (fun x : En => decide (x.time < (t : Int))) (sT l no 0 n).L
  have hlen : (sT l no 0 n).L.length = n := by simp [sT]
  rw [hlen] at h1
  have hget : ∀ j, j < n → (sT l no 0 n).L[j]? = some (eT l no j) := fun j hj => by
    show ((List.range' 0 (n - 0)).map (eT l no))[j]? = _
    rw [List.getElem?_map, List.getElem?_range' (by omega)]
    simp
  refine ⟨d, h1, ?_, fun j hj => ?_⟩
  · unfold St.cut
    rw [h2]
    show ({ sT l no 0 n with L := ((List.range' 0 (n - 0)).map (eT l no)).drop d } : St) = _
    rw [← List.map_drop, List.drop_range']
    unfold sT
    simp
  · have key : ∀ (p : En → Bool) (L : List En) (k : Nat), L.dropWhile p = L.drop k → (∀ e, L[k]? = some e → p e = false) ∧ ∀ j e, j < k → k ≤ L.length → L[j]? = some e → p e = true := by
      intro p L
      induction L with
      | nil => intro k _; exact ⟨by simp, by simp⟩
      | cons x xs ih =>
        intro k hk
        cases k with
        | zero =>
          refine ⟨fun e he => ?_, fun j e hj => by omega⟩
          cases he
          cases hp : p x with
          | false => rfl
          | true =>
            rw [List.dropWhile_cons_of_pos hp] at hk
            have := congrArg List.length hk
            have h9 := (List.dropWhile_sublist p (l := xs)).length_le
            simp at this
            omega
        | succ k =>
          cases hp : p x with
          | false =>
            rw [List.dropWhile_cons_of_neg (by simp [hp])] at hk
            have := congrArg List.length hk
            simp at this
            omega
          | true =>
            rw [List.dropWhile_cons_of_pos hp] at hk
            obtain ⟨a1, a2⟩ := ih k hk
            refine ⟨fun e he => a1 e (by simpa using he), fun j e hj hl he => ?_⟩
            cases j with
            | zero => cases he; exact hp
            | succ j => exact a2 j e (by omega) (by simpa using hl) (by simpa using he)
    obtain ⟨a1, a2⟩ := key _ _ _ h2
    constructor
    · intro hlt
      by_cases hjd : j < d
      · exact hjd
      · exfalso
        have h3 := a1 (eT l no d) (hget d (by omega))
        have h4 := tmS_mono l (i := d + 1) (j := j + 1) (by omega)
        have h5 : ¬ (tmS l (d + 1) : Int) < (t : Int) := of_decide_eq_false h3
        omega
    · intro hjd
      have h3 := a2 j _ hjd (by rw [hlen]; exact h1) (hget j hj)
      have h5 : (tmS l (j + 1) : Int) < (t : Int) := of_decide_eq_true h3
      omega
/-- requested: from packet i on, in the interval -/
def wT (l : List UInt8) (t u : Nat) (i : Nat) : Nat → Bool := fun j => decide (i ≤ j) && (decide (t ≤ tmS l (j + 1)) && decide (tmS l (j + 1) ≤ u))
theorem times_mark (l : List UInt8) (d n t u : Nat) : (sT l no d n).mark (t : Int) (u : Int) = sT l (wT l t u 0) d n := by
  unfold St.mark sT
  simp only [List.map_map]
  congr 1
  refine List.map_congr_left fun j _ => ?_
  simp [eT, no, wT]
theorem times_skip {l : List UInt8} {d n t u i : Nat} (h : i < d ∨ ¬ (t ≤ tmS l (i + 1) ∧ tmS l (i + 1) ≤ u)) : sT l (wT l t u i) d n = sT l (wT l t u (i + 1)) d n := by
  unfold sT
  congr 1
  refine List.map_congr_left fun j hj => ?_
  have hd : d ≤ j := by have := List.mem_range'_1.1 hj; omega
  have : wT l t u i j = wT l t u (i + 1) j := by
    unfold wT
    by_cases e : i = j
    · subst e
      have h2 : ¬ (t ≤ tmS l (i + 1) ∧ tmS l (i + 1) ≤ u) := by rcases h with h | h; omega; exact h
      have h3 : (decide (t ≤ tmS l (i + 1)) && decide (tmS l (i + 1) ≤ u)) = false := by
        rw [← Bool.not_eq_true, Bool.and_eq_true, decide_eq_true_iff, decide_eq_true_iff]
        exact h2
      rw [h3]
      simp
    · rw [show decide (i ≤ j) = decide (i + 1 ≤ j) by simp only [decide_eq_decide]; omega]
  unfold eT
  rw [this]
theorem times_next {l : List UInt8} {d n t u i : Nat} {now : Int} (hd : d ≤ i) (hn : i < n) (h : t ≤ tmS l (i + 1) ∧ tmS l (i + 1) ≤ u) :
    (one now (sT l (wT l t u i) d n)).next = (one now (sT l (wT l t u (i + 1)) d n), some [UInt8.ofNat i]) := by
  have hs : List.range' d (n - d) = List.range' d (i - d) ++ i :: List.range' (i + 1) (n - (i + 1)) := by
    have e1 : n - d = (i - d) + ((n - (i + 1)) + 1) := by omega
    rw [e1, ← List.range'_append_1, show d + (i - d) = i by omega, List.range'_succ]
  have hL : ∀ w, (sT l w d n).L = (List.range' d (i - d)).map (eT l w) ++ eT l w i :: (List.range' (i + 1) (n - (i + 1))).map (eT l w) := fun w => by
    show (List.range' d (n - d)).map (eT l w) = _
    rw [hs, List.map_append, List.map_cons]
  have hx : wT l t u i i = true := by unfold wT; simp [h.1, h.2]
  refine (one_next_some now _ _ _ (eT l (wT l t u i) i) (hL (wT l t u i)) (fun y hy => ?_) hx).trans ?_
  · obtain ⟨j, hj, rfl⟩ := List.mem_map.1 hy
    have := List.mem_range'_1.1 hj
    show wT l t u i j = false
    unfold wT
    rw [show decide (i ≤ j) = false from decide_eq_false (by omega)]
    rfl
  · have e2 : ({ sT l (wT l t u i) d n with L := (List.range' d (i - d)).map (eT l (wT l t u i)) ++ { eT l (wT l t u i) i with want := false } :: (List.range' (i + 1) (n - (i + 1))).map (eT l (wT l t u i)) } : St) = sT l (wT l t u (i + 1)) d n := by
      have h9 := hL (wT l t u (i + 1))
      unfold sT at h9 ⊢
      dsimp only at h9 ⊢
      rw [h9]
      congr 2
      · refine List.map_congr_left fun j hj => ?_
        have := List.mem_range'_1.1 hj
        unfold eT wT
        rw [show decide (i ≤ j) = false from decide_eq_false (by omega), show decide (i + 1 ≤ j) = false from decide_eq_false (by omega)]
      · congr 1
        · unfold eT wT
          rw [show decide (i + 1 ≤ i) = false from decide_eq_false (by omega)]
          rfl
        · refine List.map_congr_left fun j hj => ?_
          have := List.mem_range'_1.1 hj
          unfold eT wT
          rw [show decide (i ≤ j) = true from decide_eq_true (by omega), show decide (i + 1 ≤ j) = true from decide_eq_true (by omega)]
    rw [e2]
    rfl
theorem times_end {l : List UInt8} {d n t u : Nat} {now : Int} : (one now (sT l (wT l t u n) d n)).next = (one now (sT l (wT l t u n) d n), none) := by
  refine one_next_none now _ (fun x hx => ?_)
  obtain ⟨j, hj, rfl⟩ := List.mem_map.1 (show x ∈ (List.range' d (n - d)).map (eT l (wT l t u n)) from hx)
  have := List.mem_range'_1.1 hj
  show wT l t u n j = false
  unfold wT
  rw [show decide (n ≤ j) = false from decide_eq_false (by omega)]
  rfl
theorem times_level {l : List UInt8} {w : Nat → Bool} {d n : Nat} {now : Int} : (one now (sT l w d n)).level 1 = ((n - d : Nat) : Int) := by
  rw [show (1 : Int) = (sT l w d n).id from rfl, one_level]
  show ((lvl ((List.range' d (n - d)).map (eT l w)) : Nat) : Int) = _
  rw [lvl_eT]
  simp
end Go.Proofs.Ytnojmkmmfiahgaa

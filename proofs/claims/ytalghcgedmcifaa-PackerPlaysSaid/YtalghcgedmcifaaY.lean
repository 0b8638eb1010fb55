/- Plain law: a data field is available if and only if a packet waits. No condition. -/
import Derived.Test.YtalghcgedmcifaaX
namespace Go.Proofs.Ytalghcgedmcifaa
open Go.RowKit Go.Deep Go.ChangeShapes Go.WideShapes Go.ChangeAt
set_option linter.unusedVariables false

def one (s n : Nat) : PS := ⟨s, 5000, n + 6, 0, [pkB n 1], []⟩
theorem new_is (s : Nat) : PS.new s 5000 = ⟨s, 5000, 0, 0, [], []⟩ := by unfold PS.new; simp only [Int.toNat_natCast]; congr 1
theorem one_push (s n : Nat) (h1 : 1 ≤ n) (h2 : n ≤ 4000) : (PS.new s 5000).push (pkB n 1) = (one s n, 0) := by
  rw [new_is]
  unfold PS.push
  rw [if_neg (by rw [pkB_fit n 1 h1 h2]; simp), if_neg (by rw [pkB_len]; dsimp only; omega), pkB_len]
  simp [one]
theorem close_full (q : PS) (out : List UInt8) (f : Int) (h : ¬ out.length < q.size) : PS.close (q, out, f) = (q, out, f) := by unfold PS.close; rw [if_neg h]
theorem close_more (q : PS) (out : List UInt8) (f : Int) (h : out.length < q.size) : PS.close (q, out, f) = ({ q with rest := (idleN (q.size - out.length)).drop (q.size - out.length) }, out ++ (idleN (q.size - out.length)).take (q.size - out.length), if f = 2047 then (out.length : Int) else f) := by unfold PS.close; rw [if_pos h]
theorem one_next (s n : Nat) (h0 : 1 ≤ s) (h1 : 1 ≤ n) (h2 : n ≤ 4000) : ∃ q out, (one s n).next = (q, some (out, 0)) ∧ out.length = s ∧ q.left = n + 6 - s := by
  have hl := pkB_len n 1
  have hb : (one s n).begin = one s n := rfl
  have hne : (one s n).L ≠ [] := by simp [one]
  have e0 : PS.fill ((one s n).L.length + 1) (one s n).begin ((one s n).rest.take (min (one s n).rest.length (one s n).size)) 2047 = PS.fill 1 ((one s n).take s).1 ((one s n).take s).2 0 := by
    rw [hb]
    show PS.fill (1 + 1) (one s n) [] 2047 = _
    rw [fill_more _ _ _ _ ⟨by show 0 < s; omega, hne⟩]
    rfl
  have hnx : (one s n).next = ((PS.close (PS.fill 1 ((one s n).take s).1 ((one s n).take s).2 0)).1, some (PS.close (PS.fill 1 ((one s n).take s).1 ((one s n).take s).2 0)).2) := by
    unfold PS.next
    rw [if_neg (by show n + 6 ≠ 0; omega), e0]
  rw [hnx]
  by_cases hlt : s < n + 6
  · have ht : (one s n).take s = (⟨s, 5000, n + 6 - s, 0 + s, [pkB n 1], []⟩, (pkB n 1).take s) := by
      unfold PS.take one
      dsimp only
      rw [if_pos (by rw [hl]; omega)]
      rfl
    have hlen : ((pkB n 1).take s).length = s := by rw [List.length_take, hl]; omega
    rw [ht, fill_done _ _ _ _ (fun h9 => by have h8 : ((pkB n 1).take s).length < s := h9.1; omega), close_full _ _ _ (by show ¬ ((pkB n 1).take s).length < s; omega)]
    exact ⟨_, _, rfl, hlen, rfl⟩
  · have ht : (one s n).take s = (⟨s, 5000, 0, 0, [], []⟩, pkB n 1) := by
      unfold PS.take one
      dsimp only
      rw [if_neg (by rw [hl]; omega)]
      simp [hl]
    rw [ht, fill_done _ _ _ _ (fun h9 => h9.2 rfl)]
    by_cases h6 : (pkB n 1).length < s
    · rw [close_more _ _ _ (by show (pkB n 1).length < s; exact h6)]
      refine ⟨_, _, by rw [if_neg (by decide)], ?_, ?_⟩
      · rw [List.length_append, List.length_take, idleN_len]
        show (pkB n 1).length + min (s - (pkB n 1).length) (max (s - (pkB n 1).length) 7) = s
        omega
      · show 0 = n + 6 - s
        omega
    · rw [close_full _ _ _ (by show ¬ (pkB n 1).length < s; exact h6)]
      exact ⟨_, _, rfl, by show (pkB n 1).length = s; omega, by show 0 = n + 6 - s; omega⟩
theorem one_ready (s n : Nat) : (one s n).ready = decide (s ≤ n + 6) := by
  unfold PS.ready one
  dsimp only
  rw [decide_eq_true (by omega : 0 < n + 6), Bool.true_and, List.length_nil, Nat.zero_add]
theorem new_none (s : Nat) : (PS.new s 5000).next = (PS.new s 5000, none) := by
  rw [new_is]
  unfold PS.next
  rw [if_pos rfl]
end Go.Proofs.Ytalghcgedmcifaa

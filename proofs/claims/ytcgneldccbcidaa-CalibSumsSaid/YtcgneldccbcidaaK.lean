/- Helper facts without a program: how slices of small structs that came in read, and small lemmas on results. No condition. -/
import Derived.Test.YtcgneldccbcidaaRows
import Derived.WalkKit
import Derived.ProofKit
import Derived.OpenShut
import Derived.Lib.Hide
import Derived.Lib.SmallJoins
import Derived.ChangeOld
import Derived.Below
import Derived.SizedLaws
import Derived.Deep.Slices
import Derived.BigQuiet
import Derived.Deep.QuietTactic
namespace Go.Proofs.Ytcgneldccbcidaa
open Go.ChangeShapes Go.WideShapes Go.ChangeAt Go.RowKit Go.Deep

theorem ret_bool {a b : Bool} (h : a = b) : Ending.returned (.bool a) = .returned (.bool b) := by rw [h]
theorem ret_int {k : IntKind} {a b : Int} (h : a = b) : Ending.returned (.int k a) = .returned (.int k b) := by rw [h]

section
variable {H : Type} {enc : TypeId × Value → H} {P : Program} {w : World} {t e : TypeId} {v : Value} {d : DataW H} {ps : List MemPlace} {r : Reach} {b0 base : Nat}

/-- A slice that came in, opened at every index up to its capacity: element i's cells are C i. -/
theorem open_rows {sp : Nat → Bool} (ht : P.underlying t = some (.slice e)) {c : Nat} (hc : P.cellsOf e = c) (hc0 : 0 < c) (hval : Value.okWide P w r b0 t v) (hd : DataW.Trod enc P w base sp true t v d ps) :
    ∃ (a : Option Addr) (len cap m n : Nat) (C : Nat → List Value), v = .slice a len cap ∧ len ≤ cap ∧ cap ≤ maxLen ∧ (a = none → cap = 0) ∧ m ≤ cap ∧ len ≤ m ∧ ((∀ b, sp b = true) → m = cap) ∧
      (∀ i, i < m → (C i).length = c ∧ ∃ x, DataW.trod enc P w base sp true n e (C i) = some x) ∧
      (m = 0 ∨ ∃ b off, a = some ⟨b, off, none⟩ ∧ b < w.heap.size ∧ ∀ i, i < m → ∀ j, j < c → w.cell? ⟨b, off + (i * c + j), none⟩ = (C i)[j]?) := by
  obtain ⟨a0, len, cap, rfl⟩ := okWide_slice ht hval
  obtain ⟨fuel, hf⟩ := hd
  rcases open_slice ht hf with ⟨hcs, _⟩ | ⟨a, l, cp, m, n, D, Pl, hcs, _, hl, hm, hmm, _, hx⟩
  · simp [Value.cells] at hcs
    obtain ⟨rfl, rfl, rfl⟩ := hcs
    exact ⟨none, 0, 0, 0, 0, fun _ => [], rfl, Nat.le_refl _, Nat.zero_le _, fun _ => rfl, Nat.le_refl _, Nat.le_refl _, fun _ => rfl, fun i hi => absurd hi (Nat.not_lt_zero i), .inl rfl⟩
  · simp [Value.cells] at hcs
    obtain ⟨rfl, rfl, rfl⟩ := hcs
    have hx' : ∀ i, i < m → ∃ cs', cs'.length = c ∧ (∀ j, j < c → w.cell? ((a.add (i * c)).add j) = cs'[j]?) ∧ ∃ x, DataW.trod enc P w base sp true n e cs' = some x := by
      intro i hi
      obtain ⟨cs', h1, h2⟩ := hx i hi
      rw [hc] at h1
      obtain ⟨_, h3, h4⟩ := World.cells?_some h1
      exact ⟨cs', h3, h4, _, h2⟩
    obtain ⟨C, hC⟩ := choose_lt hx'
    refine ⟨some a, len, cap, m, n, C, rfl, hl, hm, (fun h => by cases h), (by rw [hmm]; split <;> omega), (by rw [hmm]; split <;> omega), (fun h => by rw [hmm, h]; rfl), fun i hi => ⟨(hC i hi).1, (hC i hi).2.2⟩, ?_⟩
    rcases Nat.eq_zero_or_pos m with h0 | h0
    · exact .inl h0
    · right
      obtain ⟨b, off, spot⟩ := a
      have hlen := (hC 0 h0).1
      have h1 := (hC 0 h0).2.1 0 hc0
      have h2 : w.cell? ⟨b, off, spot⟩ = some ((C 0)[0]'(by omega)) := by
        rw [List.getElem?_eq_getElem (by omega)] at h1
        simpa [Addr.add] using h1
      have hspot : spot = none := World.cell?_spot h2
      subst hspot
      refine ⟨b, off, rfl, World.block_lt_of_cell? w _ h2, fun i hi j hj => ?_⟩
      have := (hC i hi).2.1 j hj
      rw [add_plain, add_plain] at this
      rw [← this, Nat.add_assoc]

/-- one cell of an int kind -/
theorem one_int {k : IntKind} {n : Nat} {sp : Nat → Bool} {cs : List Value} {x : DataW H × List MemPlace} (he : P.underlying e = some (.int k)) (h : DataW.trod enc P w base sp true n e cs = some x) : ∃ z, cs = [.int k z] ∧ (Lit.int k z).wf = true := by
  obtain ⟨z, h1, _, h2⟩ := DataW.trod_int he h
  exact ⟨z, h1, h2⟩
theorem one_bool {n : Nat} {sp : Nat → Bool} {cs : List Value} {x : DataW H × List MemPlace} (he : P.underlying e = some .bool) (h : DataW.trod enc P w base sp true n e cs = some x) : ∃ z, cs = [.bool z] := by
  cases n with
  | zero => simp [DataW.trod] at h
  | succ m =>
    unfold DataW.trod at h
    rw [he] at h
    split at h <;> simp_all
end
end Go.Proofs.Ytcgneldccbcidaa

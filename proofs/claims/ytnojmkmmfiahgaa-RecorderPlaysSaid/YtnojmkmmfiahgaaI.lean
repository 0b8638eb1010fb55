/- Helper facts without a program: rows of ints and of bools that came in. No condition. -/
import Derived.Test.YtnojmkmmfiahgaaS
namespace Go.Proofs.Ytnojmkmmfiahgaa
open Go.ChangeShapes Go.WideShapes Go.ChangeAt Go.RowKit Go.Deep

/-- the values lie at the address -/
def VAt (w : World) (a : Option Addr) (l : List Value) : Prop :=
  l = [] ∨ ∃ b off, a = some ⟨b, off, none⟩ ∧ b < w.heap.size ∧ ∀ i (h : i < l.length), w.cell? ⟨b, off + i, none⟩ = some l[i]
theorem VAt.nil (w : World) (a : Option Addr) : VAt w a [] := .inl rfl
theorem VAt.below {w w' : World} {a : Option Addr} {l : List Value} (h : VAt w a l) {B : Nat} (hb : Below B w w') (hB : w.heap.size ≤ B) : VAt w' a l := by
  rcases h with h | ⟨b, off, h1, h2, h3⟩
  · exact .inl h
  · exact .inr ⟨b, off, h1, Nat.lt_of_lt_of_le h2 hb.size, fun i hi => (hb.cell (p := ⟨b, _, none⟩) (Nat.lt_of_lt_of_le h2 hB)).trans (h3 i hi)⟩
theorem VAt.fr {w w' : World} {a : Option Addr} {l : List Value} {S : Nat → Prop} (h : VAt w a l) (hf : Fr S w w') (hs : ∀ p, a = some p → ¬ S p.block) : VAt w' a l := by
  rcases h with h | ⟨b, off, h1, h2, h3⟩
  · exact .inl h
  · exact .inr ⟨b, off, h1, Nat.lt_of_lt_of_le h2 hf.size, fun i hi => (hf.cell (p := ⟨b, off + i, none⟩) h2 (hs ⟨b, off, none⟩ h1)).trans (h3 i hi)⟩
/-- one of them -/
theorem VAt.get {w : World} {a : Option Addr} {l : List Value} (h : VAt w a l) {i : Nat} (hi : i < l.length) : ∃ b off, a = some ⟨b, off, none⟩ ∧ b < w.heap.size ∧ w.cell? ⟨b, off + i, none⟩ = some l[i] := by
  rcases h with h | ⟨b, off, h1, h2, h3⟩
  · subst h; simp at hi
  · exact ⟨b, off, h1, h2, h3 i hi⟩
/-- bytes do not lie in a block without bytes -/
theorem blk_apart {w : World} {b : Nat} {T : TypeId} {xs : List Value} {a : Option Addr} {l : List UInt8} (h : Blk w b T xs) (hd : BAt w a l) (hl : l ≠ []) (hx : ∀ v ∈ xs, ∀ n, v ≠ .int .u8 n) : ∀ p, a = some p → p.block ≠ b := by
  intro p hp e
  rcases hd with hd | ⟨k, off, rfl, h2, h3⟩
  · exact hl hd
  · cases hp
    subst e
    have h4 := h3 0 (List.length_pos_iff.2 hl)
    have h5 := h.cell (off + 0)
    rw [h4] at h5
    exact hx _ (List.mem_of_getElem? h5.symm) _ rfl
def ivs (l : List Int) : List Value := l.map (.int .i64)
def bvs (l : List Bool) : List Value := l.map .bool
theorem VAt.int {w : World} {a : Option Addr} {l : List Int} (h : VAt w a (ivs l)) {i : Nat} (hi : i < l.length) : ∃ b off, a = some ⟨b, off, none⟩ ∧ b < w.heap.size ∧ w.cell? ⟨b, off + i, none⟩ = some (.int .i64 l[i]) := by
  have h1 := h.get (i := i) (by simpa [ivs] using hi)
  simpa [ivs] using h1
theorem VAt.bool {w : World} {a : Option Addr} {l : List Bool} (h : VAt w a (bvs l)) {i : Nat} (hi : i < l.length) : ∃ b off, a = some ⟨b, off, none⟩ ∧ b < w.heap.size ∧ w.cell? ⟨b, off + i, none⟩ = some (.bool l[i]) := by
  have h1 := h.get (i := i) (by simpa [bvs] using hi)
  simpa [bvs] using h1

section
variable {H : Type} {enc : TypeId × Value → H} {P : Program} {w : World} {t e : TypeId} {v : Value} {d : DataW H} {ps : List MemPlace} {r : Reach} {b0 base : Nat}
theorem arg_ints (ht : P.underlying t = some (.slice e)) (he : P.underlying e = some (.int .i64)) (hc : P.cellsOf e = 1) (hval : Value.okWide P w r b0 t v) (hd : DataW.Trod enc P w base (fun _ => true) true t v d ps) :
    ∃ (a : Option Addr) (cap : Nat) (l : List Int), v = .slice a l.length cap ∧ l.length ≤ cap ∧ cap ≤ maxLen ∧ VAt w a (ivs l) ∧ ∀ z ∈ l, (Lit.int .i64 z).wf = true := by
  obtain ⟨a, len, cap, m, n, Cs, rfl, hl, hm, _, _, _, hmc, hC, hcell⟩ := open_rows ht hc (by omega) hval hd
  obtain rfl := hmc (fun _ => rfl)
  have h1 : ∀ i, i < m → ∃ z : Int, Cs i = [.int .i64 z] ∧ (Lit.int .i64 z).wf = true := fun i hi => by
    obtain ⟨_, x, hx⟩ := hC i hi
    exact one_int he hx
  obtain ⟨C, hCz⟩ := choose_lt h1
  have hlen : ((List.range len).map C).length = len := by simp
  refine ⟨a, m, (List.range len).map C, by rw [hlen], by omega, hm, ?_, fun z hz => ?_⟩
  · rcases hcell with h | ⟨b, off, rfl, hb, hc⟩
    · left
      obtain rfl : len = 0 := by omega
      rfl
    · refine .inr ⟨b, off, rfl, hb, fun i hi => ?_⟩
      have hi' : i < len := by simpa [ivs] using hi
      have := hc i (by omega) 0 (by omega)
      rw [(hCz i (by omega)).1] at this
      simpa [ivs] using this
  · obtain ⟨i, hi, rfl⟩ := List.mem_map.1 hz
    exact (hCz i (by have := List.mem_range.1 hi; omega)).2
theorem arg_bools (ht : P.underlying t = some (.slice e)) (he : P.underlying e = some .bool) (hc : P.cellsOf e = 1) (hval : Value.okWide P w r b0 t v) (hd : DataW.Trod enc P w base (fun _ => true) true t v d ps) :
    ∃ (a : Option Addr) (cap : Nat) (l : List Bool), v = .slice a l.length cap ∧ l.length ≤ cap ∧ cap ≤ maxLen ∧ VAt w a (bvs l) := by
  obtain ⟨a, len, cap, m, n, Cs, rfl, hl, hm, _, _, _, hmc, hC, hcell⟩ := open_rows ht hc (by omega) hval hd
  obtain rfl := hmc (fun _ => rfl)
  have h1 : ∀ i, i < m → ∃ z : Bool, Cs i = [.bool z] := fun i hi => by
    obtain ⟨_, x, hx⟩ := hC i hi
    exact one_bool he hx
  obtain ⟨C, hCz⟩ := choose_lt h1
  have hlen : ((List.range len).map C).length = len := by simp
  refine ⟨a, m, (List.range len).map C, by rw [hlen], by omega, hm, ?_⟩
  rcases hcell with h | ⟨b, off, rfl, hb, hc⟩
  · left
    obtain rfl : len = 0 := by omega
    rfl
  · refine .inr ⟨b, off, rfl, hb, fun i hi => ?_⟩
    have hi' : i < len := by simpa [bvs] using hi
    have := hc i (by omega) 0 (by omega)
    rw [hCz i (by omega)] at this
    simpa [bvs] using this
end
end Go.Proofs.Ytnojmkmmfiahgaa

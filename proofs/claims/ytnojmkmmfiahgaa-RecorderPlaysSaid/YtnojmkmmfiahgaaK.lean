/- Helper facts without a program: how slices of small structs that came in read, and small lemmas on results. No condition. -/
import Derived.Test.YtnojmkmmfiahgaaRows
import Derived.WalkKit
import Derived.ProofKit
import Derived.OpenShut
import Derived.Lib.Hide
import Derived.Lib.SmallJoins
import Derived.ChangeOld
import Derived.Below
import Derived.SizedLaws
import Derived.Deep.Slices
import Derived.Laws.BytesArg
import Derived.Laws.IdiomStrings
import Derived.Laws.AppendOwn
import Derived.BigQuiet
import Derived.Deep.QuietTactic
namespace Go.Proofs.Ytnojmkmmfiahgaa
open Go.ChangeShapes Go.WideShapes Go.ChangeAt Go.RowKit Go.Deep

theorem ret_bool {a b : Bool} (h : a = b) : Ending.returned (.bool a) = .returned (.bool b) := by rw [h]
theorem ret_int {k : IntKind} {a b : Int} (h : a = b) : Ending.returned (.int k a) = .returned (.int k b) := by rw [h]

section
variable {H : Type} {enc : TypeId × Value → H} {P : Program} {w : World} {t e : TypeId} {v : Value} {d : DataW H} {ps : List MemPlace} {r : Reach} {b0 base : Nat}

/-- A slice that came in, opened at every index up to its capacity: element i's cells are C i. -/
theorem open_rows {sp : Nat → Bool} (ht : P.underlying t = some (.slice e)) {c : Nat} (hc : P.cellsOf e = c) (hc0 : 0 < c) (hval : Value.okWide P w r b0 t v) (hd : DataW.Trod enc P w base sp true t v d ps) :
    ∃ (a : Option Addr) (len cap m n : Nat) (C : Nat → List Value), v = .slice a len cap ∧ len ≤ cap ∧ cap ≤ maxLen ∧ (a = none → cap = 0) ∧ m ≤ cap ∧ len ≤ m ∧ ((∀ b, sp b = true) → m = cap) ∧
      (∀ i, i < m → (C i).length = c ∧ ∃ x, DataW.trod enc P w base sp true n e (C i) = some x) ∧
      (m = 0 ∨ ∃ b off, a = some ⟨b, off, none⟩ ∧ b < w.heap.size ∧ ∀ i, i < m → ∀ j, j < c → w.cell? ⟨b, off + (i * c + j), none⟩ = (C i)[j]?) := by
  obtain ⟨a0, len, cap, rfl⟩ := okWide_slice ht hval
  obtain ⟨fuel, hf⟩ := hd
  rcases open_slice ht hf with ⟨hcs, _⟩ | ⟨a, l, cp, m, n, D, Pl, hcs, _, hl, hm, hmm, _, hx⟩
  · simp [Value.cells] at hcs
    obtain ⟨rfl, rfl, rfl⟩ := hcs
    exact ⟨none, 0, 0, 0, 0, fun _ => [], rfl, Nat.le_refl _, Nat.zero_le _, fun _ => rfl, Nat.le_refl _, Nat.le_refl _, fun _ => rfl, fun i hi => absurd hi (Nat.not_lt_zero i), .inl rfl⟩
  · simp [Value.cells] at hcs
    obtain ⟨rfl, rfl, rfl⟩ := hcs
    have hx' : ∀ i, i < m → ∃ cs', cs'.length = c ∧ (∀ j, j < c → w.cell? ((a.add (i * c)).add j) = cs'[j]?) ∧ ∃ x, DataW.trod enc P w base sp true n e cs' = some x := by
      intro i hi
      obtain ⟨cs', h1, h2⟩ := hx i hi
      rw [hc] at h1
      obtain ⟨_, h3, h4⟩ := World.cells?_some h1
      exact ⟨cs', h3, h4, _, h2⟩
    obtain ⟨C, hC⟩ := choose_lt hx'
    refine ⟨some a, len, cap, m, n, C, rfl, hl, hm, (fun h => by cases h), (by rw [hmm]; split <;> omega), (by rw [hmm]; split <;> omega), (fun h => by rw [hmm, h]; rfl), fun i hi => ⟨(hC i hi).1, (hC i hi).2.2⟩, ?_⟩
    rcases Nat.eq_zero_or_pos m with h0 | h0
    · exact .inl h0
    · right
      obtain ⟨b, off, spot⟩ := a
      have hlen := (hC 0 h0).1
      have h1 := (hC 0 h0).2.1 0 hc0
      have h2 : w.cell? ⟨b, off, spot⟩ = some ((C 0)[0]'(by omega)) := by
        rw [List.getElem?_eq_getElem (by omega)] at h1
        simpa [Addr.add] using h1
      have hspot : spot = none := World.cell?_spot h2
      subst hspot
      refine ⟨b, off, rfl, World.block_lt_of_cell? w _ h2, fun i hi j hj => ?_⟩
      have := (hC i hi).2.1 j hj
      rw [add_plain, add_plain] at this
      rw [← this, Nat.add_assoc]

/-- one cell of an int kind -/
theorem one_int {k : IntKind} {n : Nat} {sp : Nat → Bool} {cs : List Value} {x : DataW H × List MemPlace} (he : P.underlying e = some (.int k)) (h : DataW.trod enc P w base sp true n e cs = some x) : ∃ z, cs = [.int k z] ∧ (Lit.int k z).wf = true := by
  obtain ⟨z, h1, _, h2⟩ := DataW.trod_int he h
  exact ⟨z, h1, h2⟩
theorem one_bool {n : Nat} {sp : Nat → Bool} {cs : List Value} {x : DataW H × List MemPlace} (he : P.underlying e = some .bool) (h : DataW.trod enc P w base sp true n e cs = some x) : ∃ z, cs = [.bool z] := by
  cases n with
  | zero => simp [DataW.trod] at h
  | succ m =>
    unfold DataW.trod at h
    rw [he] at h
    split at h <;> simp_all
end

/-- one new cell, at the head of a block just laid: for the law on append of one element -/
theorem one_new (w : World) (x : Value) (t : TypeId) : ∀ j u, [x][j]? = some u → (w.alloc (.cells #[x] t)).cell? ((⟨w.heap.size, 0, none⟩ : Addr).add j) = some u := by
  intro j u hj
  match j, hj with
  | 0, hj =>
    simp at hj
    subst hj
    rw [add_plain, Joins.cell_alloc_mark_at _ _ _ _ _ _ rfl]
    rfl
theorem one_cell {x : Value} (h : x.oneCell' = true) : ∀ u ∈ [x], u.oneCell' = true := by simpa using h

/-- only draws were made -/
def Quiet (w w' : World) : Prop := ∃ m, w' = w.drewN m
theorem Quiet.refl (w : World) : Quiet w w := ⟨0, rfl⟩
theorem Quiet.drewN {w w' : World} (h : Quiet w w') (m : Nat) : Quiet w (w'.drewN m) := by
  obtain ⟨k, rfl⟩ := h
  exact ⟨k + m, World.drewN_drewN _ _ _⟩
theorem Quiet.below {w w' : World} (h : Quiet w w') {B : Nat} : Below B w w' := by
  obtain ⟨m, rfl⟩ := h
  exact Joins.below_draws _ _ _
theorem Quiet.trans {a b c : World} (h : Quiet a b) (k : Quiet b c) : Quiet a c := by
  obtain ⟨m, rfl⟩ := k
  exact h.drewN m
/-- one call after another -/
theorem below2 {a b c : World} (h1 : Below a.heap.size a b) (h2 : Below b.heap.size b c) : Below a.heap.size a c := h1.trans (h2.mono h1.size)
theorem ret_two {a b : Int} {p : Int × Int} (h : p = (a, b)) : Ending.returned (.tuple #[.int .i64 a, .int .i64 b]) = .returned (.tuple #[.int .i64 p.1, .int .i64 p.2]) := by
  rw [h]
theorem sums (k : Nat) (h : k ≤ 9223372036854775806) : IntKind.i64.wrap (k : Int) = k ∧ 0 ≤ (k : Int) + 1 ∧ ((k : Int) + 1).toNat = k + 1 ∧ IntKind.i64.wrap ((k : Int) + 1) = k + 1 :=
  ⟨IntWalk.i64_in _ (by omega), by omega, by omega, IntWalk.i64_in _ (by omega)⟩

/-! ### bytes -/
/-- the cells of bytes -/
def encB (l : List UInt8) : List Value := l.map fun b => .int .u8 (b.toNat : Int)
theorem encB_length (l : List UInt8) : (encB l).length = l.length := by simp [encB]
theorem encB_append (l m : List UInt8) : encB (l ++ m) = encB l ++ encB m := by simp [encB]
theorem encB_one (l : List UInt8) : ∀ u ∈ encB l, u.oneCell' = true := by
  intro u hu
  simp only [encB, List.mem_map] at hu
  obtain ⟨b, _, rfl⟩ := hu
  rfl
/-- the bytes of a slice of length l.length at the address a -/
def BAt (w : World) (a : Option Addr) (l : List UInt8) : Prop :=
  l = [] ∨ ∃ b off, a = some ⟨b, off, none⟩ ∧ b < w.heap.size ∧ ∀ i (h : i < l.length), w.cell? ⟨b, off + i, none⟩ = some (.int .u8 (l[i].toNat : Int))
theorem BAt.nil (w : World) (a : Option Addr) : BAt w a [] := .inl rfl
theorem BAt.below {w w' : World} {a : Option Addr} {l : List UInt8} (h : BAt w a l) {B : Nat} (hb : Below B w w') (hB : w.heap.size ≤ B) : BAt w' a l := by
  rcases h with h | ⟨b, off, h1, h2, h3⟩
  · exact .inl h
  · exact .inr ⟨b, off, h1, Nat.lt_of_lt_of_le h2 hb.size, fun i hi => (hb.cell (p := ⟨b, _, none⟩) (Nat.lt_of_lt_of_le h2 hB)).trans (h3 i hi)⟩
theorem BAt.quiet {w w' : World} {a : Option Addr} {l : List UInt8} (h : BAt w a l) (hq : Quiet w w') : BAt w' a l := h.below (B := w.heap.size) hq.below (Nat.le_refl _)
/-- the bytes of a row of the call's own -/
theorem BAt.of_row {w : World} {base n : Nat} {e : TypeId} {v : Value} {l : List UInt8} (h : w.ownsRow base e 1 v n (encB l)) : n = l.length ∧ ∃ a cap, v = .slice a l.length cap ∧ l.length ≤ cap ∧ cap ≤ maxLen ∧ BAt w a l := by
  obtain ⟨h1, h2⟩ := h
  obtain rfl : n = l.length := by rw [encB_length] at h1; omega
  refine ⟨rfl, ?_⟩
  rcases h2 with ⟨rfl, h0⟩ | ⟨g, cap, cur, rfl, hb, hg, hnc, hcm, hsz, hxs⟩
  · exact ⟨none, 0, by rw [h0], by omega, Nat.zero_le _, .inl (List.length_eq_zero_iff.1 h0)⟩
  · refine ⟨_, cap, rfl, hnc, hcm, .inr ⟨g, 0, rfl, (Array.getElem?_eq_some_iff.1 hg).1, fun i hi => ?_⟩⟩
    rw [Joins.cell_of_block hg, Nat.zero_add]
    have e : (cur.toList.take (l.length * 1))[i]? = (encB l)[i]? := by rw [hxs]
    rw [List.getElem?_take_of_lt (by omega)] at e
    rw [← Array.getElem?_toList, e]
    simp [encB, hi]
theorem xor_u8 (a b : UInt8) : bits .xor .u8 (a.toNat : Int) (b.toNat : Int) = (((a ^^^ b).toNat : Nat) : Int) := by
  have ha := a.toNat_lt
  have hb := b.toNat_lt
  have hx : a.toNat ^^^ b.toNat < 2 ^ 8 := Nat.xor_lt_two_pow ha hb
  have h1 : (BitVec.ofInt 8 (a.toNat : Int)).toNat = a.toNat := by
    rw [BitVec.ofInt_natCast, BitVec.toNat_ofNat]; exact Nat.mod_eq_of_lt (by omega)
  have h2 : (BitVec.ofInt 8 (b.toNat : Int)).toNat = b.toNat := by
    rw [BitVec.ofInt_natCast, BitVec.toNat_ofNat]; exact Nat.mod_eq_of_lt (by omega)
  show IntKind.u8.wrap ((BitVec.ofInt 8 (a.toNat : Int) ^^^ BitVec.ofInt 8 (b.toNat : Int)).toNat : Int) = _
  rw [BitVec.toNat_xor, h1, h2, UInt8.toNat_xor]
  simp [IntKind.wrap, IntKind.bits, IntKind.signed]
  omega
/-- string(b) -/
theorem BAt.str {P : Program} {w : World} {a : Option Addr} {l : List UInt8} (h : BAt w a l) (src dst e : TypeId) (cap : Nat) (hs : P.underlying src = some (.slice e)) (he : P.underlying e = some (.int .u8)) (hd : P.underlying dst = some .string) :
    (convert src dst (.slice a l.length cap)).run P w = .ok (.string ⟨l.toArray⟩) w := by
  rcases h with rfl | ⟨b, off, rfl, hb, hc⟩
  · cases a with
    | none =>
      exact run_convert_bytes_nil (P := P) w src e hs he ([] : List UInt8).length cap dst hd
    | some x => exact run_convert_bytes_back w src dst e x cap [] hs he hd (fun j hj => by simp at hj)
  · exact run_convert_bytes_back w src dst e _ cap l hs he hd (fun j hj => by rw [add_plain]; exact hc j hj)
theorem wf_u8 {z : Int} (h : (Lit.int .u8 z).wf = true) : ∃ b : UInt8, z = (b.toNat : Int) := by
  have := bounds_u8 h
  refine ⟨UInt8.ofNat z.toNat, ?_⟩
  rw [UInt8.toNat_ofNat']
  omega
/-- A slice of bytes that came in. -/
theorem arg_bytes {H : Type} {enc : TypeId × Value → H} {P : Program} {w : World} {t e : TypeId} {v : Value} {d : DataW H} {ps : List MemPlace} {r : Reach} {b0 base : Nat}
    (ht : P.underlying t = some (.slice e)) (he : P.underlying e = some (.int .u8)) (hc : P.cellsOf e = 1) (hval : Value.okWide P w r b0 t v) (hd : DataW.Trod enc P w base (fun _ => true) true t v d ps) :
    ∃ (a : Option Addr) (cap : Nat) (l : List UInt8), v = .slice a l.length cap ∧ l.length ≤ cap ∧ cap ≤ maxLen ∧ BAt w a l := by
  obtain ⟨a, len, cap, m, n, Cs, rfl, hl, hm, _, _, _, hmc, hC, hcell⟩ := open_rows ht hc (by omega) hval hd
  obtain rfl := hmc (fun _ => rfl)
  have h1 : ∀ i, i < m → ∃ b : UInt8, Cs i = [.int .u8 (b.toNat : Int)] := fun i hi => by
    obtain ⟨_, x, hx⟩ := hC i hi
    obtain ⟨z, hz, hw⟩ := one_int he hx
    obtain ⟨b, rfl⟩ := wf_u8 hw
    exact ⟨b, hz⟩
  obtain ⟨C, hCz⟩ := choose_lt h1
  have hlen : ((List.range len).map C).length = len := by simp
  refine ⟨a, m, (List.range len).map C, by rw [hlen], by omega, hm, ?_⟩
  rcases hcell with h | ⟨b, off, rfl, hb, hc⟩
  · left
    obtain rfl : len = 0 := by omega
    rfl
  · refine .inr ⟨b, off, rfl, hb, fun i hi => ?_⟩
    have hi' : i < len := by simpa using hi
    have := hc i (by omega) 0 (by omega)
    rw [hCz i (by omega)] at this
    simpa using this
end Go.Proofs.Ytnojmkmmfiahgaa

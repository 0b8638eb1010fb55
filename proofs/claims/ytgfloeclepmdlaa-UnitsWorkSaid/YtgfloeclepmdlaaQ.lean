/- Definitions and calls that came in. No condition. -/
import Derived.Test.YtgfloeclepmdlaaP
namespace Go.Proofs.Ytgfloeclepmdlaa
open Go.RowKit Go.Deep Go.ChangeShapes Go.WideShapes Go.ChangeAt
set_option linter.unusedVariables false
/-- a call of the law -/
structure OP where
  call : Int
  id : Int
  side : Int
  l : List Int
instance : Inhabited OP := ⟨⟨0, 0, 0, []⟩⟩
section
variable {H : Type} {enc : TypeId × Value → H} {w : World} {base : Nat}
/-- a slice of ints that came in, from its one cell -/
theorem ints_trod {P : Program} {t e : TypeId} {n : Nat} {v : Value} {x : DataW H × List MemPlace} (ht : P.underlying t = some (.slice e)) (he : P.underlying e = some (.int .i64)) (hc : P.cellsOf e = 1) (h : DataW.trod enc P w base (fun _ => true) true n t [v] = some x) :
    ∃ (a : Option Addr) (cap : Nat) (l : List Int), v = .slice a l.length cap ∧ l.length ≤ cap ∧ cap ≤ maxLen ∧ VAt w a (ivs l) ∧ ∀ q, a = some q → l ≠ [] → q.block < w.heap.size := by
  rcases open_slice ht h with ⟨hcs, _⟩ | ⟨a, l, cp, m, n', D, Pl, hcs, _, hl, hm, hmm, _, hx⟩
  · simp at hcs
    subst hcs
    exact ⟨none, 0, [], rfl, by simp, by simp, .inl rfl, by simp⟩
  · simp at hcs
    subst hcs
    have hlm : l ≤ m := by rw [hmm]; split <;> omega
    have hx' : ∀ i, i < l → ∃ z : Int, w.cell? (a.add i) = some (.int .i64 z) := by
      intro i hi
      obtain ⟨cs', h1, h2⟩ := hx i (by omega)
      rw [hc, Nat.mul_one] at h1
      obtain ⟨_, h3, h4⟩ := World.cells?_some h1
      match cs', h3 with
      | [c], _ =>
        obtain ⟨z, hz, hw⟩ := one_int he h2
        refine ⟨z, ?_⟩
        have := h4 0 (by omega)
        simp only [List.getElem?_cons_zero] at this
        rw [← List.cons.inj hz |>.1, ← this]
        simp [Addr.add]
    obtain ⟨C, hC⟩ := choose_lt hx'
    have hlen : ((List.range l).map C).length = l := by simp
    rcases Nat.eq_zero_or_pos l with h0 | h0
    · subst h0
      exact ⟨some a, cp, [], rfl, by simp, hm, .inl rfl, by simp⟩
    · obtain ⟨b, off, spot⟩ := a
      have h1 := hC 0 h0
      have hspot : spot = none := by
        have : (⟨b, off, spot⟩ : Addr).add 0 = ⟨b, off, spot⟩ := by simp [Addr.add]
        rw [this] at h1
        exact World.cell?_spot h1
      subst hspot
      have hb : b < w.heap.size := by
        rw [add_plain] at h1
        exact World.block_lt_of_cell? w _ h1
      refine ⟨some ⟨b, off, none⟩, cp, (List.range l).map C, by rw [hlen], by rw [hlen]; exact hl, hm, .inr ⟨b, off, rfl, hb, fun i hi => ?_⟩, fun q hq _ => by cases hq; exact hb⟩
      have hi' : i < l := by simpa [ivs] using hi
      have := hC i hi'
      rw [add_plain] at this
      simpa [ivs] using this
/-- definitions that came in -/
theorem arg_defs {r : Reach} {b0 : Nat} {v : Value} {d : DataW H} {ps : List MemPlace} (hv : Value.okWide Try.prog w r b0 29 v) (h : DataW.Trod enc Try.prog w base (fun _ => true) true 29 v d ps) :
    ∃ (a : Option Addr) (cap : Nat) (ds : List Int), v = .slice a ds.length cap ∧ DefAt w a ds := by
  obtain ⟨a, len, cap, m, n, C, rfl, hl, hm, _, _, hlm, _, hC, hcell⟩ := open_rows Try.underlying29 (c := 2) (by kernel_rfl) (by omega) hv h
  have h1 : ∀ i, i < len → ∃ z : Int, ∃ t : Bool, C i = [.int .i64 z, .bool t] := fun i hi => by
    obtain ⟨hlc', x, hx⟩ := hC i (by omega)
    obtain ⟨xs, m, _, _, hlc, hlen, hg⟩ := DataW.trod_struct Try.underlying28 hx
    match hcs : C i, hlc' with
    | [c0, c1], _ =>
      rw [hcs] at hg
      match xs, hlen with
      | [x0, x1], _ =>
        obtain ⟨z, h0, -⟩ := one_int Try.underlying3 (hg 0 _ rfl)
        obtain ⟨t, h1⟩ := one_bool Try.underlying4 (hg 1 _ rfl)
        obtain rfl : c0 = .int .i64 z := (List.cons.inj h0).1
        obtain rfl : c1 = .bool t := (List.cons.inj h1).1
        exact ⟨z, t, rfl⟩
  obtain ⟨Z, hZ⟩ := choose_lt h1
  have hlen : ((List.range len).map Z).length = len := by simp
  refine ⟨a, cap, (List.range len).map Z, by rw [hlen], ?_⟩
  rcases hcell with h0 | ⟨b, off, rfl, hb, hc⟩
  · left
    have : len = 0 := by omega
    subst this
    rfl
  · refine .inr ⟨b, off, rfl, hb, fun i hi => ?_⟩
    have hi' : i < len := by simpa using hi
    obtain ⟨t, ht⟩ := hZ i hi'
    have e : ((List.range len).map Z)[i] = Z i := by simp
    rw [e]
    have c0 := hc i (by omega) 0 (by omega)
    have c1 := hc i (by omega) 1 (by omega)
    rw [ht] at c0 c1
    exact ⟨c0, t, by rw [Nat.add_assoc]; exact c1⟩
/-- calls that came in -/
def OpsAt (w : World) (hi : Nat) (a : Option Addr) (ops : List OP) : Prop :=
  ops = [] ∨ ∃ b off, a = some ⟨b, off, none⟩ ∧ b < hi ∧ ∀ i (h : i < ops.length), ∃ (al : Option Addr) (cl : Nat),
    w.cell? ⟨b, off + i * 4, none⟩ = some (.int .i64 ops[i].call) ∧ w.cell? ⟨b, off + i * 4 + 1, none⟩ = some (.int .i64 ops[i].id) ∧ w.cell? ⟨b, off + i * 4 + 2, none⟩ = some (.int .i64 ops[i].side) ∧ w.cell? ⟨b, off + i * 4 + 3, none⟩ = some (.slice al ops[i].l.length cl) ∧
    VAt w al (ivs ops[i].l) ∧ ∀ q, al = some q → ops[i].l ≠ [] → q.block < hi
theorem arg_ops {r : Reach} {b0 : Nat} {v : Value} {d : DataW H} {ps : List MemPlace} (hv : Value.okWide Try.prog w r b0 49 v) (h : DataW.Trod enc Try.prog w base (fun _ => true) true 49 v d ps) :
    ∃ (a : Option Addr) (cap : Nat) (ops : List OP), v = .slice a ops.length cap ∧ OpsAt w w.heap.size a ops := by
  obtain ⟨a, len, cap, m, n, C, rfl, hl, hm, _, _, hlm, _, hC, hcell⟩ := open_rows Try.underlying49 (c := 4) (by kernel_rfl) (by omega) hv h
  have h1 : ∀ i, i < len → ∃ o : OP, ∃ (al : Option Addr) (cl : Nat), C i = [.int .i64 o.call, .int .i64 o.id, .int .i64 o.side, .slice al o.l.length cl] ∧ VAt w al (ivs o.l) ∧ ∀ q, al = some q → o.l ≠ [] → q.block < w.heap.size := fun i hi => by
    obtain ⟨hlc', x, hx⟩ := hC i (by omega)
    obtain ⟨xs, m, _, _, hlc, hlen, hg⟩ := DataW.trod_struct Try.underlying51 hx
    match hcs : C i, hlc' with
    | [c0, c1, c2, c3], _ =>
      rw [hcs] at hg
      match xs, hlen with
      | [x0, x1, x2, x3], _ =>
        obtain ⟨z0, h0, -⟩ := one_int Try.underlying3 (hg 0 _ rfl)
        obtain ⟨z1, h1, -⟩ := one_int Try.underlying3 (hg 1 _ rfl)
        obtain ⟨z2, h2, -⟩ := one_int Try.underlying3 (hg 2 _ rfl)
        obtain ⟨al, cl, l, h3, -, -, h4, h5⟩ := ints_trod Try.underlying30 Try.underlying3 (by kernel_rfl) (hg 3 _ rfl)
        obtain rfl : c0 = .int .i64 z0 := (List.cons.inj h0).1
        obtain rfl : c1 = .int .i64 z1 := (List.cons.inj h1).1
        obtain rfl : c2 = .int .i64 z2 := (List.cons.inj h2).1
        subst h3
        exact ⟨⟨z0, z1, z2, l⟩, al, cl, rfl, h4, h5⟩
  obtain ⟨Z, hZ⟩ := choose_lt h1
  have hlen : ((List.range len).map Z).length = len := by simp
  refine ⟨a, cap, (List.range len).map Z, by rw [hlen], ?_⟩
  rcases hcell with h0 | ⟨b, off, rfl, hb, hc⟩
  · left
    have : len = 0 := by omega
    subst this
    rfl
  · refine .inr ⟨b, off, rfl, hb, fun i hi => ?_⟩
    have hi' : i < len := by simpa using hi
    obtain ⟨al, cl, ht, h4, h5⟩ := hZ i hi'
    have e : ((List.range len).map Z)[i] = Z i := by simp
    rw [e]
    have c0 := hc i (by omega) 0 (by omega)
    have c1 := hc i (by omega) 1 (by omega)
    have c2 := hc i (by omega) 2 (by omega)
    have c3 := hc i (by omega) 3 (by omega)
    rw [ht] at c0 c1 c2 c3
    exact ⟨al, cl, c0, by rw [Nat.add_assoc]; exact c1, by rw [Nat.add_assoc]; exact c2, by rw [Nat.add_assoc]; exact c3, h4, h5⟩
end
end Go.Proofs.Ytgfloeclepmdlaa

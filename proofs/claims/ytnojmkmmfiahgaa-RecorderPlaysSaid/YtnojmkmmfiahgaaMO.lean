/- What came in: definitions of stores, calls. No condition. -/
import Derived.Test.YtnojmkmmfiahgaaMH
namespace Go.Proofs.Ytnojmkmmfiahgaa
open Go.RowKit Go.Deep Go.ChangeShapes Go.WideShapes Go.ChangeAt
set_option linter.unusedVariables false

/-- a call -/
structure OpF where
  call : Int
  store : Int
  frm : Int
  till : Int
  data : List UInt8
instance : Inhabited OpF := ⟨⟨0, 0, 0, 0, []⟩⟩
/-- calls lie there -/
def Opl (w : World) (a : Option Addr) (l : List OpF) : Prop :=
  l = [] ∨ ∃ b off, a = some ⟨b, off, none⟩ ∧ b < w.heap.size ∧ ∀ i (h : i < l.length), w.cell? ⟨b, off + i * 5, none⟩ = some (.int .i64 l[i].call) ∧ w.cell? ⟨b, off + i * 5 + 1, none⟩ = some (.int .i64 l[i].store) ∧ w.cell? ⟨b, off + i * 5 + 2, none⟩ = some (.int .i64 l[i].frm) ∧ w.cell? ⟨b, off + i * 5 + 3, none⟩ = some (.int .i64 l[i].till) ∧
    ∃ a' c', w.cell? ⟨b, off + i * 5 + 4, none⟩ = some (.slice a' l[i].data.length c') ∧ BAt w a' l[i].data ∧ l[i].data.length ≤ c' ∧ c' ≤ maxLen
section
variable {H : Type} {enc : TypeId × Value → H} {w : World} {base : Nat}
theorem op_cells {n : Nat} {cs : List Value} {x : DataW H × List MemPlace} (h : DataW.trod enc Try.prog w base (fun _ => true) true n 49 cs = some x) :
    ∃ (p : OpF) (a : Option Addr) (cap : Nat), cs = [.int .i64 p.call, .int .i64 p.store, .int .i64 p.frm, .int .i64 p.till, .slice a p.data.length cap] ∧ BAt w a p.data ∧ p.data.length ≤ cap ∧ cap ≤ maxLen := by
  obtain ⟨xs, m, _, _, hlc, hlen, hg⟩ := DataW.trod_struct Try.underlying49 h
  have hlc' : cs.length = 5 := hlc.trans (by kernel_rfl)
  match cs, hlc' with
  | [c0, c1, c2, c3, c4], _ =>
    match xs, hlen with
    | [x0, x1, x2, x3, x4], _ =>
      have e0 := hg 0 _ rfl
      have e1 := hg 1 _ rfl
      have e2 := hg 2 _ rfl
      have e3 := hg 3 _ rfl
      have e4 := hg 4 _ rfl
      obtain ⟨z0, h0, _⟩ := one_int Try.underlying3 e0
      obtain ⟨z1, h1, _⟩ := one_int Try.underlying3 e1
      obtain ⟨z2, h2, _⟩ := one_int Try.underlying3 e2
      obtain ⟨z3, h3, _⟩ := one_int Try.underlying3 e3
      obtain ⟨a, cap, l, h4, k1, k2, k3, k4⟩ := bytes_trod Try.underlying31 Try.underlying5 (by kernel_rfl) e4
      obtain rfl : c0 = .int .i64 z0 := (List.cons.inj h0).1
      obtain rfl : c1 = .int .i64 z1 := (List.cons.inj h1).1
      obtain rfl : c2 = .int .i64 z2 := (List.cons.inj h2).1
      obtain rfl : c3 = .int .i64 z3 := (List.cons.inj h3).1
      subst h4
      exact ⟨⟨z0, z1, z2, z3, l⟩, a, cap, rfl, k3, k1, k2⟩
theorem arg_ops {r : Reach} {b0 : Nat} {v : Value} {d : DataW H} {ps : List MemPlace} (hv : Value.okWide Try.prog w r b0 42 v) (h : DataW.Trod enc Try.prog w base (fun _ => true) true 42 v d ps) : ∃ (l : List OpF) (a : Option Addr) (cap : Nat), v = .slice a l.length cap ∧ l.length ≤ cap ∧ cap ≤ maxLen ∧ Opl w a l := by
  obtain ⟨a, len, cap, m, n, C, rfl, hl, hm, _, _, hlm, _, hC, hcell⟩ := open_rows Try.underlying42 (c := 5) (by kernel_rfl) (by omega) hv h
  have h1 : ∀ i, i < len → ∃ p : OpF, ∃ (a : Option Addr) (cap : Nat), C i = [.int .i64 p.call, .int .i64 p.store, .int .i64 p.frm, .int .i64 p.till, .slice a p.data.length cap] ∧ BAt w a p.data ∧ p.data.length ≤ cap ∧ cap ≤ maxLen := fun i hi => by
    obtain ⟨_, x, hx⟩ := hC i (by omega)
    exact op_cells hx
  obtain ⟨P, hP⟩ := choose_lt h1
  have hlen : ((List.range len).map P).length = len := by simp
  refine ⟨(List.range len).map P, a, cap, by rw [hlen], by rw [hlen]; exact hl, hm, ?_⟩
  rcases hcell with h0 | ⟨b, off, rfl, hb, hc⟩
  · left
    have : len = 0 := by omega
    subst this
    rfl
  · refine .inr ⟨b, off, rfl, hb, fun i hi => ?_⟩
    have hi' : i < len := by simpa using hi
    obtain ⟨a', c', h1, h2, h3, h4⟩ := hP i hi'
    have e : ((List.range len).map P)[i] = P i := by simp
    rw [e]
    have hj : ∀ j, j < 5 → _ := fun j hj => hc i (by omega) j hj
    rw [h1] at hj
    exact ⟨hj 0 (by omega), by rw [Nat.add_assoc]; exact hj 1 (by omega), by rw [Nat.add_assoc]; exact hj 2 (by omega), by rw [Nat.add_assoc]; exact hj 3 (by omega), a', c', by rw [Nat.add_assoc]; exact hj 4 (by omega), h2, h3, h4⟩
theorem def_cells {n : Nat} {cs : List Value} {x : DataW H × List MemPlace} (h : DataW.trod enc Try.prog w base (fun _ => true) true n 29 cs = some x) : ∃ p : Df, cs = p.cells := by
  obtain ⟨xs, m, _, _, hlc, hlen, hg⟩ := DataW.trod_struct Try.underlying29 h
  have hlc' : cs.length = 4 := hlc.trans (by kernel_rfl)
  match cs, hlc' with
  | [c0, c1, c2, c3], _ =>
    match xs, hlen with
    | [x0, x1, x2, x3], _ =>
      have e0 := hg 0 _ rfl
      have e1 := hg 1 _ rfl
      have e2 := hg 2 _ rfl
      have e3 := hg 3 _ rfl
      obtain ⟨z0, h0, _⟩ := one_int Try.underlying3 e0
      obtain ⟨z1, h1, _⟩ := one_int Try.underlying3 e1
      obtain ⟨z2, h2, _⟩ := one_int Try.underlying3 e2
      obtain ⟨z3, h3⟩ := one_bool Try.underlying4 e3
      obtain rfl : c0 = .int .i64 z0 := (List.cons.inj h0).1
      obtain rfl : c1 = .int .i64 z1 := (List.cons.inj h1).1
      obtain rfl : c2 = .int .i64 z2 := (List.cons.inj h2).1
      obtain rfl : c3 = .bool z3 := (List.cons.inj h3).1
      exact ⟨⟨z0, z1, z2, z3⟩, rfl⟩
theorem arg_defs {r : Reach} {b0 : Nat} {v : Value} {d : DataW H} {ps : List MemPlace} (hv : Value.okWide Try.prog w r b0 30 v) (h : DataW.Trod enc Try.prog w base (fun _ => true) true 30 v d ps) : ∃ (l : List Df) (a : Option Addr) (cap : Nat), v = .slice a l.length cap ∧ l.length ≤ cap ∧ cap ≤ maxLen ∧ DAt w a l := by
  obtain ⟨a, len, cap, m, n, C, rfl, hl, hm, _, _, hlm, _, hC, hcell⟩ := open_rows Try.underlying30 (c := 4) (by kernel_rfl) (by omega) hv h
  have h1 : ∀ i, i < len → ∃ p : Df, C i = p.cells := fun i hi => by
    obtain ⟨_, x, hx⟩ := hC i (by omega)
    exact def_cells hx
  obtain ⟨P, hP⟩ := choose_lt h1
  have hlen : ((List.range len).map P).length = len := by simp
  refine ⟨(List.range len).map P, a, cap, by rw [hlen], by rw [hlen]; exact hl, hm, ?_⟩
  rcases hcell with h0 | ⟨b, off, rfl, hb, hc⟩
  · left
    have : len = 0 := by omega
    subst this
    rfl
  · refine .inr ⟨b, off, rfl, hb, fun i hi j hj => ?_⟩
    have hi' : i < len := by simpa using hi
    have e : ((List.range len).map P)[i] = P i := by simp
    rw [e, ← hP i hi']
    exact hc i (by omega) j hj
end
end Go.Proofs.Ytnojmkmmfiahgaa

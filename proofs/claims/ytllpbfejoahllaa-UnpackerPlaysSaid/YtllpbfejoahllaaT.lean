/- Data fields that came in. No condition. -/
import Derived.Test.YtllpbfejoahllaaR
namespace Go.Proofs.Ytllpbfejoahllaa
open Go.RowKit Go.Deep Go.ChangeShapes Go.WideShapes Go.ChangeAt
set_option linter.unusedVariables false
/-- a data field -/
structure FL where
  cnt : Int
  fst : Int
  dat : List UInt8
instance : Inhabited FL := ⟨⟨0, 0, []⟩⟩
/-- a slice of data fields -/
def Fls (w : World) (v : Value) (l : List FL) : Prop :=
  ∃ a cap, v = .slice a l.length cap ∧ l.length ≤ cap ∧ (l = [] ∨ ∃ b off, a = some ⟨b, off, none⟩ ∧ b < w.heap.size ∧ ∀ i (h : i < l.length), ∃ a' c', w.cell? ⟨b, off + i * 3, none⟩ = some (.int .i64 l[i].cnt) ∧ w.cell? ⟨b, off + i * 3 + 1, none⟩ = some (.int .i64 l[i].fst) ∧ w.cell? ⟨b, off + i * 3 + 2, none⟩ = some (.slice a' l[i].dat.length c') ∧
    BAt w a' l[i].dat ∧ l[i].dat.length ≤ c' ∧ c' ≤ maxLen)
section
variable {H : Type} {enc : TypeId × Value → H} {w : World} {base : Nat}
theorem field_cells {n : Nat} {cs : List Value} {x : DataW H × List MemPlace} (h : DataW.trod enc Try.prog w base (fun _ => true) true n 37 cs = some x) :
    ∃ (p : FL) (a : Option Addr) (cap : Nat), cs = [.int .i64 p.cnt, .int .i64 p.fst, .slice a p.dat.length cap] ∧ BAt w a p.dat ∧ p.dat.length ≤ cap ∧ cap ≤ maxLen := by
  obtain ⟨xs, m, _, _, hlc, hlen, hg⟩ := DataW.trod_struct Try.underlying37 h
  have hlc' : cs.length = 3 := hlc.trans (by kernel_rfl)
  match cs, hlc' with
  | [c0, c1, c2], _ =>
    match xs, hlen with
    | [x0, x1, x2], _ =>
      have e0 := hg 0 _ rfl
      have e1 := hg 1 _ rfl
      have e2 := hg 2 _ rfl
      obtain ⟨z0, h0, _⟩ := one_int Try.underlying3 e0
      obtain ⟨z1, h1, _⟩ := one_int Try.underlying3 e1
      obtain ⟨a, cap, l, h2, k1, k2, k3, k4⟩ := bytes_trod Try.underlying23 Try.underlying5 (by kernel_rfl) e2
      obtain rfl : c0 = .int .i64 z0 := (List.cons.inj h0).1
      obtain rfl : c1 = .int .i64 z1 := (List.cons.inj h1).1
      subst h2
      exact ⟨⟨z0, z1, l⟩, a, cap, rfl, k3, k1, k2⟩
theorem arg_fields {r : Reach} {b0 : Nat} {v : Value} {d : DataW H} {ps : List MemPlace} (hv : Value.okWide Try.prog w r b0 27 v) (h : DataW.Trod enc Try.prog w base (fun _ => true) true 27 v d ps) : ∃ l : List FL, Fls w v l := by
  obtain ⟨a, len, cap, m, n, C, rfl, hl, hm, _, _, hlm, _, hC, hcell⟩ := open_rows Try.underlying27 (c := 3) (by kernel_rfl) (by omega) hv h
  have h1 : ∀ i, i < len → ∃ p : FL, ∃ (a : Option Addr) (cap : Nat), C i = [.int .i64 p.cnt, .int .i64 p.fst, .slice a p.dat.length cap] ∧ BAt w a p.dat ∧ p.dat.length ≤ cap ∧ cap ≤ maxLen := fun i hi => by
    obtain ⟨_, x, hx⟩ := hC i (by omega)
    exact field_cells hx
  obtain ⟨P, hP⟩ := choose_lt h1
  have hlen : ((List.range len).map P).length = len := by simp
  refine ⟨(List.range len).map P, a, cap, by rw [hlen], by rw [hlen]; exact hl, ?_⟩
  rcases hcell with h0 | ⟨b, off, rfl, hb, hc⟩
  · left
    have : len = 0 := by omega
    subst this
    rfl
  · refine .inr ⟨b, off, rfl, hb, fun i hi => ?_⟩
    have hi' : i < len := by simpa using hi
    obtain ⟨a', c', h1, h2, h3, h4⟩ := hP i hi'
    have e : ((List.range len).map P)[i] = P i := by simp
    rw [e]
    have hj : ∀ j, j < 3 → _ := fun j hj => hc i (by omega) j hj
    rw [h1] at hj
    exact ⟨a', c', hj 0 (by omega), by rw [Nat.add_assoc]; exact hj 1 (by omega), by rw [Nat.add_assoc]; exact hj 2 (by omega), h2, h3, h4⟩
end
end Go.Proofs.Ytllpbfejoahllaa

/- Packets that came in. No condition. -/
import Derived.Test.YtdllngedmhihkaaQ
namespace Go.Proofs.Ytdllngedmhihkaa
open Go.RowKit Go.Deep Go.ChangeShapes Go.WideShapes Go.ChangeAt
set_option linter.unusedVariables false
instance : Inhabited PK := ⟨⟨false, false, 0, 0, 0, []⟩⟩
section
variable {H : Type} {enc : TypeId × Value → H} {w : World} {base : Nat}
/-- a slice of bytes that came in, from its one cell -/
theorem bytes_trod {P : Program} {t e : TypeId} {n : Nat} {v : Value} {x : DataW H × List MemPlace} (ht : P.underlying t = some (.slice e)) (he : P.underlying e = some (.int .u8)) (hc : P.cellsOf e = 1) (h : DataW.trod enc P w base (fun _ => true) true n t [v] = some x) :
    ∃ (a : Option Addr) (cap : Nat) (l : List UInt8), v = .slice a l.length cap ∧ l.length ≤ cap ∧ cap ≤ maxLen ∧ BAt w a l ∧ ∀ q, a = some q → l ≠ [] → q.block < w.heap.size := by
  rcases open_slice ht h with ⟨hcs, _⟩ | ⟨a, l, cp, m, n', D, Pl, hcs, _, hl, hm, hmm, _, hx⟩
  · simp at hcs
    subst hcs
    exact ⟨none, 0, [], rfl, by simp, by simp, .inl rfl, by simp⟩
  · simp at hcs
    subst hcs
    have hlm : l ≤ m := by rw [hmm]; split <;> omega
    have hx' : ∀ i, i < l → ∃ b : UInt8, w.cell? (a.add i) = some (.int .u8 (b.toNat : Int)) := by
      intro i hi
      obtain ⟨cs', h1, h2⟩ := hx i (by omega)
      rw [hc, Nat.mul_one] at h1
      obtain ⟨_, h3, h4⟩ := World.cells?_some h1
      match cs', h3 with
      | [c], _ =>
        obtain ⟨z, hz, hw⟩ := one_int he h2
        obtain ⟨b, rfl⟩ := wf_u8 hw
        refine ⟨b, ?_⟩
        have := h4 0 (by omega)
        simp only [List.getElem?_cons_zero] at this
        rw [← List.cons.inj hz |>.1, ← this]
        simp [Addr.add]
    obtain ⟨C, hC⟩ := choose_lt hx'
    have hlen : ((List.range l).map C).length = l := by simp
    rcases Nat.eq_zero_or_pos l with h0 | h0
    · subst h0
      exact ⟨some a, cp, [], rfl, by simp, hm, .inl rfl, by simp⟩
    · obtain ⟨b, off, spot⟩ := a
      have h1 := hC 0 h0
      have hspot : spot = none := by
        have : (⟨b, off, spot⟩ : Addr).add 0 = ⟨b, off, spot⟩ := by simp [Addr.add]
        rw [this] at h1
        exact World.cell?_spot h1
      subst hspot
      have hb : b < w.heap.size := by
        rw [add_plain] at h1
        exact World.block_lt_of_cell? w _ h1
      refine ⟨some ⟨b, off, none⟩, cp, (List.range l).map C, by rw [hlen], by rw [hlen]; exact hl, hm, .inr ⟨b, off, rfl, hb, fun i hi => ?_⟩, fun q hq _ => by cases hq; exact hb⟩
      have hi' : i < l := by simpa using hi
      have := hC i hi'
      rw [add_plain] at this
      simpa using this

/-- the six cells of a packet that came in -/
theorem packet_cells {n : Nat} {cs : List Value} {x : DataW H × List MemPlace} (h : DataW.trod enc Try.prog w base (fun _ => true) true n 24 cs = some x) :
    ∃ (p : PK) (a : Option Addr) (cap : Nat), cs = [.bool p.cm, .bool p.sc, .int .i64 p.ap, .int .i64 p.fl, .int .i64 p.ct, .slice a p.dat.length cap] ∧ BAt w a p.dat ∧ p.dat.length ≤ cap ∧ cap ≤ maxLen ∧ (∀ q, a = some q → p.dat ≠ [] → q.block < w.heap.size) ∧
      (Lit.int .i64 p.ap).wf = true ∧ (Lit.int .i64 p.fl).wf = true ∧ (Lit.int .i64 p.ct).wf = true := by
  obtain ⟨xs, m, _, _, hlc, hlen, hg⟩ := DataW.trod_struct Try.underlying24 h
  have hlc' : cs.length = 6 := hlc.trans (by kernel_rfl)
  match cs, hlc' with
  | [c0, c1, c2, c3, c4, c5], _ =>
    match xs, hlen with
    | [x0, x1, x2, x3, x4, x5], _ =>
      have e0 := hg 0 _ rfl
      have e1 := hg 1 _ rfl
      have e2 := hg 2 _ rfl
      have e3 := hg 3 _ rfl
      have e4 := hg 4 _ rfl
      have e5 := hg 5 _ rfl
      obtain ⟨b0, h0⟩ := one_bool Try.underlying4 e0
      obtain ⟨b1, h1⟩ := one_bool Try.underlying4 e1
      obtain ⟨z2, h2, w2⟩ := one_int Try.underlying3 e2
      obtain ⟨z3, h3, w3⟩ := one_int Try.underlying3 e3
      obtain ⟨z4, h4, w4⟩ := one_int Try.underlying3 e4
      obtain ⟨a, cap, l, h5, k1, k2, k3, k4⟩ := bytes_trod Try.underlying22 Try.underlying5 (by kernel_rfl) e5
      obtain rfl : c0 = .bool b0 := (List.cons.inj h0).1
      obtain rfl : c1 = .bool b1 := (List.cons.inj h1).1
      obtain rfl : c2 = .int .i64 z2 := (List.cons.inj h2).1
      obtain rfl : c3 = .int .i64 z3 := (List.cons.inj h3).1
      obtain rfl : c4 = .int .i64 z4 := (List.cons.inj h4).1
      subst h5
      exact ⟨⟨b0, b1, z2, z3, z4, l⟩, a, cap, rfl, k3, k1, k2, k4, w2, w3, w4⟩
/-- a packet that came in by value -/
theorem arg_packet {r : Reach} {b0 : Nat} {v : Value} {d : DataW H} {ps : List MemPlace} (hv : Value.okWide Try.prog w r b0 24 v) (h : DataW.Trod enc Try.prog w base (fun _ => true) true 24 v d ps) :
    ∃ (p : PK) (a : Option Addr) (cap : Nat), v = p.val a cap ∧ BAt w a p.dat ∧ p.dat.length ≤ cap ∧ cap ≤ maxLen ∧ (∀ q, a = some q → p.dat ≠ [] → q.block < w.heap.size) ∧
      (Lit.int .i64 p.ap).wf = true ∧ (Lit.int .i64 p.fl).wf = true ∧ (Lit.int .i64 p.ct).wf = true := by
  obtain ⟨⟨l⟩, rfl, hsz⟩ := okWide_struct Try.underlying24 hv
  obtain ⟨fuel, hf⟩ := h
  obtain ⟨p, a, cap, hc, rest⟩ := packet_cells (cs := l) (by simpa [Value.cells] using hf)
  subst hc
  exact ⟨p, a, cap, rfl, rest⟩
/-- packets that came in -/
theorem arg_packets {r : Reach} {b0 : Nat} {v : Value} {d : DataW H} {ps : List MemPlace} (hv : Value.okWide Try.prog w r b0 26 v) (h : DataW.Trod enc Try.prog w base (fun _ => true) true 26 v d ps) :
    ∃ l : List PK, Pks w w.heap.size v l := by
  obtain ⟨a, len, cap, m, n, C, rfl, hl, hm, _, _, hlm, _, hC, hcell⟩ := open_rows Try.underlying26 (c := 6) (by kernel_rfl) (by omega) hv h
  have h1 : ∀ i, i < len → ∃ p : PK, ∃ (a : Option Addr) (cap : Nat), C i = [.bool p.cm, .bool p.sc, .int .i64 p.ap, .int .i64 p.fl, .int .i64 p.ct, .slice a p.dat.length cap] ∧ BAt w a p.dat ∧ p.dat.length ≤ cap ∧ cap ≤ maxLen ∧ (∀ q, a = some q → p.dat ≠ [] → q.block < w.heap.size) := fun i hi => by
    obtain ⟨_, x, hx⟩ := hC i (by omega)
    obtain ⟨p, a, cap, h1, h2, h3, h4, h5, _⟩ := packet_cells hx
    exact ⟨p, a, cap, h1, h2, h3, h4, h5⟩
  obtain ⟨P, hP⟩ := choose_lt h1
  have hlen : ((List.range len).map P).length = len := by simp
  refine ⟨(List.range len).map P, Nat.le_refl _, a, cap, by rw [hlen], by rw [hlen]; exact hl, ?_⟩
  rcases hcell with h0 | ⟨b, off, rfl, hb, hc⟩
  · left
    have : len = 0 := by omega
    subst this
    rfl
  · refine .inr ⟨b, off, rfl, fun i hi => ?_⟩
    have hi' : i < len := by simpa using hi
    obtain ⟨a', c', h1, h2, h3, h4, h5⟩ := hP i hi'
    have e : ((List.range len).map P)[i] = P i := by simp
    rw [e]
    refine ⟨hb, a', c', fun j hj => ?_, h2, h3, h5⟩
    rw [Nat.add_assoc, hc i (by omega) j hj, h1]
    rfl
end
end Go.Proofs.Ytdllngedmhihkaa

/- How the arguments of calib's laws read. No condition. -/
import Derived.Test.YtcgneldccbcidaaL
namespace Go.Proofs.Ytcgneldccbcidaa
set_option linter.unusedVariables false
open Go.ChangeShapes Go.WideShapes Go.ChangeAt Go.RowKit Go.Deep Calib50

theorem cells3 : Try.prog.cellsOf 3 = 1 := by kernel_rfl
theorem cells34 : Try.prog.cellsOf 34 = 2 := by kernel_rfl

section
variable {H : Type} {enc : TypeId × Value → H} {w : World} {v : Value} {d : DataW H} {ps : List MemPlace} {b0 base : Nat}

theorem arg_ints (hval : Value.okWide Try.prog w .any b0 22 v) (hd : DataW.Trod enc Try.prog w base (fun _ => true) true 22 v d ps) :
    ∃ (a : Option Addr) (n cap : Nat) (C : Nat → Int), v = .slice a n cap ∧ n ≤ cap ∧ cap ≤ maxLen ∧ Ints w a cap C ∧ ∀ i, i < cap → (Lit.int .i64 (C i)).wf = true := by
  obtain ⟨a, len, cap, m, n, Cs, rfl, hl, hm, _, _, _, hmc, hC, hcell⟩ := open_rows Try.underlying22 cells3 (by omega) hval hd
  obtain rfl := hmc (fun _ => rfl)
  have h1 : ∀ i, i < m → ∃ z, Cs i = [.int .i64 z] ∧ (Lit.int .i64 z).wf = true := fun i hi => by
    obtain ⟨_, x, hx⟩ := hC i hi
    exact one_int Try.underlying3 hx
  obtain ⟨C, hCz⟩ := choose_lt h1
  refine ⟨a, len, m, C, rfl, hl, hm, ?_, fun i hi => (hCz i hi).2⟩
  rcases hcell with h | ⟨b, off, rfl, hb, hc⟩
  · exact .inl h
  · refine .inr ⟨b, off, rfl, hb, fun i hi => ?_⟩
    have := hc i hi 0 (by omega)
    rw [(hCz i hi).1] at this
    simpa using this

theorem arg_pts (hval : Value.okWide Try.prog w .any b0 28 v) (hd : DataW.Trod enc Try.prog w base (fun _ => true) true 28 v d ps) :
    ∃ (a : Option Addr) (n cap : Nat) (X Y : Nat → Int), v = .slice a n cap ∧ n ≤ cap ∧ cap ≤ maxLen ∧ Pts w a cap X Y ∧ ∀ i, i < cap → (Lit.int .i64 (X i)).wf = true ∧ (Lit.int .i64 (Y i)).wf = true := by
  obtain ⟨a, len, cap, m, n, Cs, rfl, hl, hm, _, _, _, hmc, hC, hcell⟩ := open_rows Try.underlying28 cells34 (by omega) hval hd
  obtain rfl := hmc (fun _ => rfl)
  have h1 : ∀ i, i < m → ∃ z : Int × Int, Cs i = [.int .i64 z.1, .int .i64 z.2] ∧ (Lit.int .i64 z.1).wf = true ∧ (Lit.int .i64 z.2).wf = true := fun i hi => by
    obtain ⟨hl, x, hx⟩ := hC i hi
    have hu := Try.underlying34
    obtain ⟨y0, y1, n', _, _, hy0, hy1⟩ := trod_struct2 hu hx
    obtain ⟨c0, c1, e⟩ : ∃ c0 c1, Cs i = [c0, c1] := by
      match h : Cs i, hl with
      | [c0, c1], _ => exact ⟨c0, c1, rfl⟩
    rw [e] at hy0 hy1
    have k3 : Try.prog.cellsOf 3 = 1 := cells3
    simp only [k3] at hy0 hy1
    obtain ⟨z0, f0, g0⟩ := one_int Try.underlying3 hy0
    obtain ⟨z1, f1, g1⟩ := one_int Try.underlying3 hy1
    simp at f0 f1
    exact ⟨(z0, z1), by rw [e, f0, f1], g0, g1⟩
  obtain ⟨Z, hZ⟩ := choose_lt h1
  refine ⟨a, len, m, fun i => (Z i).1, fun i => (Z i).2, rfl, hl, hm, ?_, fun i hi => (hZ i hi).2⟩
  rcases hcell with h | ⟨b, off, rfl, hb, hc⟩
  · exact .inl h
  · refine .inr ⟨b, off, rfl, hb, fun i hi => ?_⟩
    have c0 := hc i hi 0 (by omega)
    have c1 := hc i hi 1 (by omega)
    rw [(hZ i hi).1] at c0 c1
    exact ⟨by simpa using c0, by simpa [Nat.add_assoc] using c1⟩
end
theorem Pts.le {w : World} {a : Option Addr} {n m : Nat} {X Y : Nat → Int} (h : Pts w a n X Y) (hm : m ≤ n) : Pts w a m X Y := by
  rcases h with h | ⟨b, off, h1, h2, h3⟩
  · exact .inl (by omega)
  · exact .inr ⟨b, off, h1, h2, fun i hi => h3 i (by omega)⟩
theorem Ints.le {w : World} {a : Option Addr} {n m : Nat} {C : Nat → Int} (h : Ints w a n C) (hm : m ≤ n) : Ints w a m C := by
  rcases h with h | ⟨b, off, h1, h2, h3⟩
  · exact .inl (by omega)
  · exact .inr ⟨b, off, h1, h2, fun i hi => h3 i (by omega)⟩
end Go.Proofs.Ytcgneldccbcidaa

/- Arguments that came in. No condition. -/
import Derived.Test.YtjiejpklcjpibaaR
namespace Go.Proofs.Ytjiejpklcjpibaa
open Go.RowKit Go.Deep Go.ChangeShapes Go.WideShapes Go.ChangeAt
set_option linter.unusedVariables false

section
variable {H : Type} {enc : TypeId × Value → H} {w : World} {base : Nat}
/-- the six cells of a control word that came in -/
theorem cw_cells {n : Nat} {cs : List Value} {x : DataW H × List MemPlace} (h : DataW.trod enc Try.prog w base (fun _ => true) true n 40 cs = some x) :
    ∃ c : Cw, cs = cwC c ∧ (Lit.int .i64 c.chan).wf = true ∧ (Lit.int .i64 c.byp).wf = true ∧ (Lit.int .i64 c.next).wf = true := by
  obtain ⟨xs, m, _, _, hlc, hlen, hg⟩ := DataW.trod_struct Try.underlying40 h
  have hlc' : cs.length = 6 := hlc.trans (by kernel_rfl)
  match cs, hlc' with
  | [c0, c1, c2, c3, c4, c5], _ =>
    match xs, hlen with
    | [x0, x1, x2, x3, x4, x5], _ =>
      have e0 := hg 0 _ rfl
      have e1 := hg 1 _ rfl
      have e2 := hg 2 _ rfl
      have e3 := hg 3 _ rfl
      have e4 := hg 4 _ rfl
      have e5 := hg 5 _ rfl
      obtain ⟨z0, h0, w0⟩ := one_int Try.underlying3 e0
      obtain ⟨b1, h1⟩ := one_bool Try.underlying4 e1
      obtain ⟨b2, h2⟩ := one_bool Try.underlying4 e2
      obtain ⟨b3, h3⟩ := one_bool Try.underlying4 e3
      obtain ⟨z4, h4, w4⟩ := one_int Try.underlying3 e4
      obtain ⟨z5, h5, w5⟩ := one_int Try.underlying3 e5
      obtain rfl : c0 = .int .i64 z0 := (List.cons.inj h0).1
      obtain rfl : c1 = .bool b1 := (List.cons.inj h1).1
      obtain rfl : c2 = .bool b2 := (List.cons.inj h2).1
      obtain rfl : c3 = .bool b3 := (List.cons.inj h3).1
      obtain rfl : c4 = .int .i64 z4 := (List.cons.inj h4).1
      obtain rfl : c5 = .int .i64 z5 := (List.cons.inj h5).1
      exact ⟨⟨z0, b1, b2, b3, z4, z5⟩, rfl, w0, w4, w5⟩
theorem arg_cw {r : Reach} {b0 : Nat} {v : Value} {d : DataW H} {ps : List MemPlace} (hv : Value.okWide Try.prog w r b0 40 v) (h : DataW.Trod enc Try.prog w base (fun _ => true) true 40 v d ps) :
    ∃ c : Cw, v = cwV c ∧ (Lit.int .i64 c.chan).wf = true ∧ (Lit.int .i64 c.byp).wf = true ∧ (Lit.int .i64 c.next).wf = true := by
  obtain ⟨⟨l⟩, rfl, hsz⟩ := okWide_struct Try.underlying40 hv
  obtain ⟨fuel, hf⟩ := h
  obtain ⟨c, hc, rest⟩ := cw_cells (cs := l) (by simpa [Value.cells] using hf)
  subst hc
  exact ⟨c, rfl, rest⟩
end
end Go.Proofs.Ytjiejpklcjpibaa

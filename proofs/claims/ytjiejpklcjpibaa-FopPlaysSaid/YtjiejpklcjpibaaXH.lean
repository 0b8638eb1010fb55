/- Helper facts without a program: a region with many operations that draws its order; the side conditions are handed in as facts of their own, so that each is checked by itself. No condition. -/
import Derived.Test.YtjiejpklcjpibaaI
import Derived.Deep.RegionHeld3
namespace Go.Proofs.Ytjiejpklcjpibaa
open Go.RowKit Go.Deep
set_option linter.unusedVariables false

/-- the region of a number -/
def regIn (k : Nat) : Code → Option Code
  | .region n ops d => if n = k then some (.region n ops d) else none
  | .seq a b => match regIn k a with
    | some c => some c
    | none => regIn k b
  | .block _ c => regIn k c
  | .loop c => regIn k c
  | .cond _ a b => match regIn k a with
    | some c => some c
    | none => regIn k b
  | _ => none
def opsIn (k : Nat) (f : Func) : Array Oper := match f.body.bind (regIn k) with
  | some (.region _ o _) => o
  | _ => #[]
theorem put_defers (a : Act) (d : Option Nat) (v : Value) : (a.put d v).defers = a.defers := by cases d <;> rfl
section
variable {P : Program} {ops : Array Oper} {Q : Exit → Act → World → Prop} {S : World → Prop}
/-- an operation that is carried out, by its guard -/
def OnG (ops : Array Oper) (o : Oper) (a : Act) : Prop := o.guard = none ∨ ∃ j oj d b, o.guard = some (j, b) ∧ ops[j]? = some oj ∧ oj.dst = some d ∧ a.tmps[d]? = some (.bool b)
/-- an operation that is not -/
def OffG (ops : Array Oper) (o : Oper) (a : Act) : Prop := ∃ j oj d b v, o.guard = some (j, b) ∧ ops[j]? = some oj ∧ oj.dst = some d ∧ a.tmps[d]? = some v ∧ (v = .bool (!b) ∨ v = undef)
theorem OnG.wanted {o : Oper} {a : Act} (h : OnG ops o a) : Region.wanted o (yielded ops a.tmps) = true := by
  rcases h with h | ⟨j, oj, d, b, h1, h2, h3, h4⟩
  · simp [Region.wanted, h]
  · simp [Region.wanted, h1, yielded, h2, h3, h4]
theorem OffG.wanted {o : Oper} {a : Act} (h : OffG ops o a) : Region.wanted o (yielded ops a.tmps) = false := by
  obtain ⟨j, oj, d, b, v, h1, h2, h3, h4, h5⟩ := h
  rcases h5 with rfl | rfl
  · cases b <;> simp [Region.wanted, h1, yielded, h2, h3, h4]
  · simp [Region.wanted, h1, yielded, h2, h3, h4, undef]
theorem big_start {n id : Nat} {l0 : Array Bool} {a : Act} {w : World} (hn : ops.size = n) (hl : Array.replicate n false = l0) (hm : P.follows .mixedOrders = true) (hS : S w.drew)
    (h : S w.drew → wpAnyH P .any ops Q S n l0 a w.drew) : (Code.region id ops true).wp P Q a w := by
  refine wp_region_held_drew hm hS ?_
  rw [hn, hl]
  exact h
theorem big_take {i : Nat} {oi : Oper} {v : Value} {fuel : Nat} {listed l' : Array Bool} {a : Act} {w : World} (hs : Region.noSelect ops = true) (hi : ops[i]? = some oi)
    (hf : Region.free .any ops listed i = true) (hr : (Region.ready .any ops listed).contains i = true) (hl : listed.setIfInBounds i true = l')
    (hQ : ∀ c a w, Q (.panic c) (a.put oi.dst v) w → Q (.panic c) a w) (hg : OnG ops oi a) (hy : ∀ w, S w → (execOp a.eval oi).run P w = .ok (.value v) w) (hS : S w)
    (h : wpAnyH P .any ops Q S fuel l' (a.put oi.dst v) w) : wpAnyH P .any ops Q S (fuel + 1) listed a w :=
  wpAnyH_take hi hs hf hr hQ (.inl ⟨hg.wanted, hy⟩) hS (by rw [hl]; exact h)
theorem big_off {i : Nat} {oi : Oper} {fuel : Nat} {listed l' : Array Bool} {a : Act} {w : World} (hs : Region.noSelect ops = true) (hi : ops[i]? = some oi)
    (hf : Region.free .any ops listed i = true) (hr : (Region.ready .any ops listed).contains i = true) (hl : listed.setIfInBounds i true = l')
    (hQ : ∀ c a w, Q (.panic c) (a.put oi.dst undef) w → Q (.panic c) a w) (hg : OffG ops oi a) (hS : S w)
    (h : wpAnyH P .any ops Q S fuel l' (a.put oi.dst undef) w) : wpAnyH P .any ops Q S (fuel + 1) listed a w :=
  wpAnyH_take hi hs hf hr hQ (.inr ⟨hg.wanted, rfl⟩) hS (by rw [hl]; exact h)
theorem big_call {i : Nat} {o : Oper} {fuel : Nat} {listed l' : Array Bool} {a : Act} {w : World} (ho : ops[i]? = some o) (hr : Region.ready .any ops listed = [i]) (hl : listed.setIfInBounds i true = l') (hg : OnG ops o a)
    (h : ∀ K' : Act → World → Prop, Shut (∀ a w, S w → (S w → wpAnyH P .any ops Q S fuel l' a w) → K' a w) → Oper.wp P o a w K' Q) : wpAnyH P .any ops Q S (fuel + 1) listed a w := by
  refine wpAnyH_ready hr (by simp) (AllReadyH.cons ho (fun K' hK => ?_) AllReadyH.nil)
  rw [if_pos hg.wanted]
  exact h K' (fun a w hs hw => hK.out a w hs (fun s => by rw [hl]; exact hw s))
end
end Go.Proofs.Ytjiejpklcjpibaa

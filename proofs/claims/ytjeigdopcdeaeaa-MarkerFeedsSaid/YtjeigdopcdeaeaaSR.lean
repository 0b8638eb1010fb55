/- A range over an iterator that has no end of its own, left by a return in the body: one law for the walk, by the library's two laws on a round and on the statement. No condition. -/
import Derived.Test.YtjeigdopcdeaeaaK
import Derived.RangeFuncNested
import Derived.RangeFuncBox
import Derived.RangeFuncBound
import Derived.RangeFuncCalls
import Derived.RangeFuncLeaves
import Derived.Shelf.Abstract
import Derived.Shelf.RegionOpen
import Derived.OwnWalkIn
import Derived.TacticsInMore
import Derived.LoopNIn
import Derived.LoopIn
import Derived.Maps.AppendAt
namespace Go.Proofs.Ytjeigdopcdeaeaa
open Go.RowKit Go.Shelf
set_option linter.unusedVariables false
variable {F : Fence} {n : Nat} {P : Program}

/-- What such an iterator owes: it yields enc 0, enc 1 and so on, and comes back when a round says no more. J k: k rounds are over. That the rounds have an end is the caller's word: J k holds up to M alone. -/
def Endless (F : Fence) (n : Nat) (P : Program) (gf : Nat) (enc : Nat → Value) : Prop :=
  ∀ (l M : Nat) (J : Nat → World → Prop) (Jx : World → Prop) (W : World), (∀ k W1, J k W1 → k ≤ M) →
    (∀ k W1, J k W1 → YieldAt F (n - 1) P l #[enc k] W1 fun e W' => (e = .returned (.bool true) ∧ J (k + 1) W') ∨ (e = .returned (.bool false) ∧ Jx W')) →
    J 0 W → CallsIn F n P gf #[.func (.yield l) #[] #[]] W fun e W' => (∃ v, e = .returned v) ∧ Jx W'

/-- How a round may end: it goes on, or the body returns. -/
def OnOrRet (I Ix : World → Prop) (W : World) : Exit → Act → World → Prop
  | .normal, _, W' => KeepsOthers W W' ∧ I W'
  | .ret, _, W' => KeepsOthers W W' ∧ Ix W'
  | _, _, _ => False

theorem range_endless {g : Operand} {ps : Array Tmp} {assign body : Code} {Q : Exit → Act → World → Prop} {a : Act} {w : World}
    (hro : F.round = none) (h1 : 1 ≤ n) {gf : Nat} (hg : a.eval g = .func (.func gf) #[] #[]) (hFg : F.fn gf) (eg : ∀ args w, (callFunc gf args).run P w = .ok (.enter gf args) w)
    {enc : Nat → Value} (hseq : Endless F (n - 1) P gf enc) (hps : ps.size = 1)
    (M : Nat) (I : Nat → World → Prop) (Ix : World → Prop) (hIM : ∀ k W, I k W → k ≤ M) (hI : OwnFrom w.heap.size I) (hIx : OwnFrom w.heap.size fun (_ : Unit) W => Ix W) (h0 : I 0 w) (a₁ : Nat → Act)
    (hassign : ∀ (l k : Nat) (W : World) (K : Act → World → Prop), K (a₁ k) W →
      assign.wpIn (F.inRound l) (n - 1 - 1) P (Exit.then K (fun _ _ _ => False)) { tmps := (ps.zip #[enc k]).foldl (fun t (p, v) => t.setIfInBounds p v) a.tmps, defers := [] } W)
    (hbody : ∀ (l k : Nat) (W : World), I k W → body.wpIn (F.inRound l) (n - 1 - 1) P (OnOrRet (I (k + 1)) Ix W) (a₁ k) W)
    (hstop : ∀ (D : Nat) (W : World), w.heap.size ≤ D → Ix W → W.heap[D]? = some (.deferred (some [])) → Code.ret.wpIn F n P Q { a with defers := { target := .collected D, args := #[] } :: a.defers } W) :
    (Code.rangeFunc g ps assign body).wpIn F n P Q a w := by
  refine wpIn_rangeFunc fun fn hfn => ?_
  rw [hro]
  -- the record of the loop in its states, and where it and the block of deferred calls lie
  let L : LoopState → Option Code → Obj := fun st pe => .loop { state := st, pending := pe, fn, tmps := a.tmps, params := ps, assign, body, defers := w.heap.size }
  let r := w.heap.size + 1
  let D0 : Obj := .deferred (some [])
  let W1 := (w.alloc D0).alloc (L .ready none)
  have hr1 : W1.heap[r]? = some (L .ready none) := by
    have := World.alloc_heap_new (w.alloc D0) (L .ready none)
    rwa [World.size_alloc] at this
  have hd1 : W1.heap[w.heap.size]? = some D0 := (Below.heap_alloc _ _ _ (by simp)).trans (World.alloc_heap_new w _)
  -- what a step that turns one block which is no cells leaves of the other two
  have keep : ∀ {A B : World} {row : Option Nat} {j : Nat} {o : Obj}, A.grownBy B row → (∀ i, row = some i → j ≠ i) → A.heap[j]? = some o → B.heap[j]? = some o := fun hg hne hj =>
    (hg.block _ (Array.getElem?_eq_some_iff.1 hj).1 (fun e => hne _ e.symm rfl)).trans hj
  refine ⟨r, [{ target := .collected w.heap.size, args := #[] }], W1, { target := .fn (.func gf) #[], args := #[.func (.yield r) #[] #[]] }, W1, gf, #[.func (.yield r) #[] #[]], W1, run_enterLoop_outer _ _ _ _ _, ?_, ?_, ?_, fun _ => h1, ?_⟩
  · simp only [resolve, hg]
    simp [go_sem, r]
  · intro f' hf'
    simp [Target.leads] at hf'
    subst hf'
    exact hFg
  · simp [invoke, go_sem, eg]
  · refine (hseq r M (fun k W => I k W ∧ W.heap[r]? = some (L .ready none) ∧ W.heap[w.heap.size]? = some D0)
      (fun W => Ix W ∧ W.heap[r]? = some (L .done (some .ret)) ∧ W.heap[w.heap.size]? = some D0) W1 (fun k W h => hIM k W h.1) ?_ ⟨hI.alloc _ (hI.alloc _ h0), hr1, hd1⟩).mono ?_
    · rintro k W ⟨hi, hl, hk⟩
      have hlt : r < W.heap.size := (Array.getElem?_eq_some_iff.1 hl).1
      refine ⟨fn, _, assign, body, run_yield hl (by simpa using hps.symm), roundIn_of_wpIn hfn (hassign r k W _ ⟨_, run_beginRound hl rfl, ?_⟩)⟩
      -- the record is busy
      have hl2 : (W.putObj r (L .busy none)).heap[r]? = some (L .busy none) := World.putObj_heap_same hlt
      have hk2 : (W.putObj r (L .busy none)).heap[w.heap.size]? = some D0 := (World.putObj_heap_other (by simp only [r]; omega)).trans hk
      have back : ∀ (W3 : World) (st : LoopState) (pe : Option Code), KeepsOthers (W.putObj r (L .busy none)) W3 →
          W3.heap[r]? = some (L .busy none) ∧ (W3.putObj r (L st pe)).heap[r]? = some (L st pe) ∧ (W3.putObj r (L st pe)).heap[w.heap.size]? = some D0 := fun W3 st pe hk3 => by
        have hl3 := hk3.same _ _ hl2 rfl
        exact ⟨hl3, World.putObj_heap_same (Array.getElem?_eq_some_iff.1 hl3).1, (World.putObj_heap_other (by simp only [r]; omega)).trans (hk3.same _ _ hk2 rfl)⟩
      refine wpIn_mono (hbody r k _ (hI.putObj _ hi (by simp only [r]; omega) hl rfl)) ?_
      rintro e a3 W3 hp
      match e, hp with
      | .normal, hp =>
        obtain ⟨hk3, hi3⟩ := hp
        obtain ⟨b1, b2, b3⟩ := back W3 .ready none hk3
        exact ⟨_, _, run_endRound none b1, .inl ⟨rfl, hI.putObj _ hi3 (by simp only [r]; omega) b1 rfl, b2, b3⟩⟩
      | .ret, hp =>
        obtain ⟨hk3, hi3⟩ := hp
        obtain ⟨b1, b2, b3⟩ := back W3 .done (some .ret) hk3
        exact ⟨_, _, run_endRound (some .ret) b1, .inr ⟨rfl, hIx.putObj (s := ()) _ hi3 (by simp only [r]; omega) b1 rfl, b2, b3⟩⟩
    · rintro e W2 ⟨⟨v, rfl⟩, hi, hl, hk⟩
      exact ⟨some .ret, _, run_endLoop hl (by simp), hstop _ _ (Nat.le_refl _) (hIx.putObj (s := ()) _ hi (by simp only [r]; omega) hl rfl) ((World.putObj_heap_other (by simp only [r]; omega)).trans hk)⟩
end Go.Proofs.Ytjeigdopcdeaeaa

/- PackerPlays: what a round keeps. No condition. -/
import Derived.Test.YtalghcgedmcifaaAE
namespace Go.Proofs.Ytalghcgedmcifaa
open Go.RowKit Go.Deep Go.ChangeShapes Go.WideShapes Go.ChangeAt
set_option linter.unusedVariables false

/-- no place for the packer's data: the arguments and the reference's variable -/
def Zx (w : World) (br k : Nat) : Prop := k < w.heap.size ∨ k = br
/-- no place for the reference's data -/
def Zs (w : World) (br b : Nat) (vW : Value) (k : Nat) : Prop := k < w.heap.size ∨ k = br ∨ k = b ∨ vW.ownBlock = some k
/-- a packer q, and the reference's p -/
structure PM (w wr : World) (br b : Nat) (q p : PS) (vW vR vL : Value) : Prop where
  at_ : PAt wr (Zx w br) b q vW vR
  ref : Blk wr br 44 (rpcells p vL)
  sat : SAt wr (Zs w br b vW) vL p.L
  okq : q.Ok
  ok : p.Ok
  sv : p.Sv7
  ne : b ≠ br
  nw : ∀ k, vW.ownBlock = some k → k ≠ br
  hb : w.heap.size ≤ b
  hr : w.heap.size ≤ br
  bel : Below w.heap.size w wr
section
variable {w wr w1 w2 : World} {br b : Nat} {q p q' p' : PS} {vW vR vL vW' vR' vL' : Value}
theorem PM.below (h : PM w wr br b q p vW vR vL) (hB : Below wr.heap.size wr w1) : PM w w1 br b q p vW vR vL :=
  ⟨h.at_.below hB (Nat.le_refl _), h.ref.below hB (Nat.le_refl _), h.sat.below hB (Nat.le_refl _), h.okq, h.ok, h.sv, h.ne, h.nw, h.hb, h.hr, h.bel.trans (hB.mono h.bel.size)⟩
theorem PM.mine (h : PM w wr br b q p vW vR vL) (hF : Fr (Mine b vW) wr w1) : Below w.heap.size w w1 :=
  h.bel.trans (hF.toBelow h.bel.size (fun k hk => by
    rcases hk with e | e
    · have := h.hb; omega
    · have := (h.at_.lt k e).1; have := h.hb; omega))
/-- a call of the packer -/
theorem PM.prog (h : PM w wr br b q p vW vR vL) (hP : PAt w1 (Zx w br) b q' vW' vR') (ok : q'.Ok) (hF : Fr (Mine b vW) wr w1) (hC : vW'.ownBlock = vW.ownBlock ∨ ∀ k, vW'.ownBlock = some k → wr.heap.size ≤ k) : PM w w1 br b q' p vW' vR' vL := by
  have hr := h.ref.lt
  have hY : ∀ k, (Zs w br b vW k ∨ Zs w br b vW' k) → Zs w br b vW k ∨ wr.heap.size ≤ k := fun k hk => by
    rcases hk with e | e | e | e | e
    · exact .inl e
    · exact .inl (.inl e)
    · exact .inl (.inr (.inl e))
    · exact .inl (.inr (.inr (.inl e)))
    · rcases hC with e9 | e9
      · exact .inl (.inr (.inr (.inr (by rw [← e9]; exact e))))
      · exact .inr (e9 k e)
  refine ⟨hP, h.ref.fr hF (fun e => ?_), ((h.sat.grow hY).fr hF (fun k hk => .inl (.inl ?_))).grow (fun k hk => .inl (.inr hk)), ok, h.ok, h.sv, h.ne, fun k hk => ?_, h.hb, h.hr, h.mine hF⟩
  · rcases e with e | e
    · exact h.ne e.symm
    · exact h.nw _ e rfl
  · rcases hk with e | e
    · exact .inr (.inr (.inl e))
    · exact .inr (.inr (.inr e))
  · rcases hC with e | e
    · exact h.nw k (by rw [← e]; exact hk)
    · have := e k hk; omega
/-- a call of the reference -/
theorem PM.refr (h : PM w wr br b q p vW vR vL) (hB : Below wr.heap.size wr w1) (hS : SAt w1 (Zs w br b vW) vL' p'.L) (hK : Blk w2 br 44 (rpcells p' vL')) (hF : Fr (fun k => k = br) w1 w2) (ok : p'.Ok) (sv : p'.Sv7) : PM w w2 br b q p' vW vR vL' :=
  ⟨(h.at_.below hB (Nat.le_refl _)).fr hF (fun e => h.ne e) (fun k hk => h.nw k hk) (fun k hk => .inl (.inr hk)), hK, hS.fr hF (fun k hk => .inl (.inr (.inl hk))), h.okq, ok, sv, h.ne, h.nw, h.hb, h.hr,
    (h.bel.trans (hB.mono h.bel.size)).trans (hF.toBelow (by have := h.bel.size; have := hB.size; omega) (fun k hk => by have := h.hr; omega))⟩
/-- the packer is replaced by its copy, and the old one is used -/
theorem PM.clone (h : PM w wr br b p p vW vR vL) (hc : PAt w1 (Av (Zx w br) b vW) wr.heap.size p vW' vR') (hw : ∀ k, vW'.ownBlock = some k → wr.heap.size < k) (hB : Below wr.heap.size wr w1) (hF : Fr (Mine b vW) w1 w2) : PM w w2 br wr.heap.size p p vW' vR' vL := by
  have hr := h.ref.lt
  have hb := h.at_.blk.lt
  have hm : ∀ k, Mine b vW k → k < wr.heap.size := fun k hk => by
    rcases hk with e | e
    · omega
    · exact (h.at_.lt k e).2
  have h1 := h.below hB
  have hp : PAt w2 (Av (Zx w br) b vW) wr.heap.size p vW' vR' := hc.fr hF (fun e => by have := hm _ e; omega) (fun k hk e => by have := hm _ e; have := hw k hk; omega) (fun k hk => .inl (by
    rcases hk with e | e
    · exact .inr (.inl e)
    · exact .inr (.inr e)))
  have hs2 := hp.blk.lt
  have hY : ∀ k, (Zs w br b vW k ∨ Zs w br wr.heap.size vW' k) → Zs w br b vW k ∨ wr.heap.size ≤ k := fun k hk => by
    rcases hk with e | e | e | e | e
    · exact .inl e
    · exact .inl (.inl e)
    · exact .inl (.inr (.inl e))
    · exact .inr (by omega)
    · exact .inr (by have := hw k e; omega)
  refine ⟨hp.less (fun k hk => .inl (.inl hk)) (fun k hk => ?_), h1.ref.fr hF (fun e => ?_), (((h.sat.grow hY).below hB (Nat.le_refl _)).fr hF (fun k hk => .inl (.inl ?_))).grow (fun k hk => .inl (.inr hk)), h.ok, h.ok, h.sv, by omega, fun k hk => by have := hw k hk; omega, by have := h.bel.size; omega, h.hr, h1.mine hF⟩
  · rcases hk with e | e
    · have := h.bel.size; omega
    · omega
  · rcases e with e | e
    · exact h.ne e.symm
    · exact h.nw _ e rfl
  · rcases hk with e | e
    · exact .inr (.inr (.inl e))
    · exact .inr (.inr (.inr e))
end
end Go.Proofs.Ytalghcgedmcifaa

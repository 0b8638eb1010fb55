/- What the law FopDelivers keeps in memory. No condition. -/
import Derived.Test.YtjiejpklcjpibaaY
namespace Go.Proofs.Ytjiejpklcjpibaa
open Go.RowKit Go.Deep Go.ChangeShapes Go.WideShapes Go.ChangeAt
set_option linter.unusedVariables false

def Xd (b pe : Nat) (vG : Value) (k : Nat) : Prop := k < b ∨ k = pe ∨ vG.ownBlock = some k
def Sd (b pe : Nat) (vU vG : Value) (k : Nat) : Prop := k = b ∨ k = pe ∨ vU.ownBlock = some k ∨ vG.ownBlock = some k
structure RM (w wr : World) (b pe : Nat) (f : FS) (e : RE) (vU vC vG : Value) : Prop where
  fat : FAt wr (Xd b pe vG) b f vU vC
  blk : Blk wr pe 30 [.int .i64 (e.next : Int), .bool e.again, vG]
  row : ∃ us, wr.ownsRow (pe + 1) 23 1 vG e.got.length us ∧ Sls wr (Sd b pe vU vG) us e.got
  lt : ∀ k, vU.ownBlock = some k → k < pe
  bp : b < pe
  bel : Below b w wr
section
variable {w wr w' : World} {b pe : Nat} {f g : FS} {e : RE} {vU vC vG vU' vC' : Value}
theorem RM.vg (h : RM w wr b pe f e vU vC vG) (k : Nat) (hk : vG.ownBlock = some k) : pe < k ∧ k < wr.heap.size := by
  obtain ⟨us, h1, -⟩ := h.row
  have := h1.lt k hk
  omega
theorem RM.sd (h : RM w wr b pe f e vU vC vG) (k : Nat) (hk : Sd b pe vU vG k) : k < wr.heap.size := by
  rcases hk with h1 | h1 | h1 | h1
  · have := h.fat.blk.lt; omega
  · have := h.blk.lt; omega
  · exact (h.fat.row k h1).2
  · exact (h.vg k h1).2
/-- a call of the sending end -/
theorem RM.call (h : RM w wr b pe f e vU vC vG) (hF : FAt w' (Xd b pe vG) b g vU' vC') (hf : Fr (fun k => k = b) wr w') (hu : vU'.ownBlock = vU.ownBlock) : RM w w' b pe g e vU' vC' vG := by
  obtain ⟨us, h1, h2⟩ := h.row
  have hbp := h.bp
  refine ⟨hF, h.blk.fr hf (by omega), ⟨us, own_fr h1 hf (fun k hk e9 => by have := h.vg k hk; omega), ?_⟩, fun k hk => h.lt k (by rw [← hu]; exact hk), hbp, h.bel.trans (h.fat.mine1 (Nat.le_refl _) hf)⟩
  have h3 := h2.fr hf (fun k hk => .inl (.inl hk))
  refine h3.grow (fun k hk => .inl ?_)
  rcases hk with h9 | h9 | h9 | h9
  · exact .inl h9
  · exact .inr (.inl h9)
  · exact .inr (.inr (.inl (by rw [← hu]; exact h9)))
  · exact .inr (.inr (.inr h9))
theorem RM.below (h : RM w wr b pe f e vU vC vG) (hB : Below wr.heap.size wr w') : RM w w' b pe f e vU vC vG := by
  obtain ⟨us, h1, h2⟩ := h.row
  have hl := Nat.le_refl wr.heap.size
  exact ⟨h.fat.below hB hl, h.blk.below hB hl, ⟨us, own_below h1 hB hl, h2.fr (T := fun k => wr.heap.size ≤ k) (Fr.of_below hB hl) (fun k hk => .inr hk)⟩, h.lt, h.bp, h.bel.trans (hB.mono (Nat.le_of_lt h.fat.blk.lt))⟩
/-- hears, and its result is stored -/
theorem RM.heard {e' : RE} {vG' : Value} {us' : List Value} (h : RM w wr b pe f e vU vC vG) (hO : w'.ownsRow (pe + 1) 23 1 vG' e'.got.length us') (hS : Sls w' (fun k => Sd b pe vU vG k ∨ vG'.ownBlock = some k) us' e'.got) (hb : vG'.ownBlock = vG.ownBlock ∨ ∀ k, vG'.ownBlock = some k → wr.heap.size ≤ k) (hf : Fr (fun k => vG.ownBlock = some k) wr w') :
    RM w (((w'.setCell ⟨pe, 0, none⟩ (.int .i64 (e'.next : Int))).setCell ⟨pe, 1, none⟩ (.bool e'.again)).setCell ⟨pe, 2, none⟩ vG') b pe f e' vU vC vG' := by
  have hbp := h.bp
  have hvg' : ∀ k, vG'.ownBlock = some k → pe < k ∧ k < w'.heap.size := fun k hk => by have := hO.lt k hk; omega
  have hpe : vG'.ownBlock ≠ some pe := fun e9 => by have := hvg' _ e9; omega
  have hf3 : Fr (fun k => k = pe) w' (((w'.setCell ⟨pe, 0, none⟩ (.int .i64 (e'.next : Int))).setCell ⟨pe, 1, none⟩ (.bool e'.again)).setCell ⟨pe, 2, none⟩ vG') := frs (frs (frs (Fr.refl _ _) _ _) _ _) _ _
  have hT : Fr (fun k => vG.ownBlock = some k ∨ k = pe) wr (((w'.setCell ⟨pe, 0, none⟩ (.int .i64 (e'.next : Int))).setCell ⟨pe, 1, none⟩ (.bool e'.again)).setCell ⟨pe, 2, none⟩ vG') := (hf.wide (fun k hk => .inl (.inl hk))).then hf3 (fun k hk => .inl (.inr hk))
  have hs9 := hf3.size
  have hs1 := hf.size
  refine ⟨h.fat.move hT ?_ ?_ ?_ ?_ ?_, Blk.cast ((((h.blk.fr hf (fun e9 => by have := h.vg pe e9; omega)).setCell 0 _).setCell 1 _).setCell 2 _) rfl, ⟨us', own_set (own_set (own_set hO (p := ⟨pe, 0, none⟩) hpe _) (p := ⟨pe, 1, none⟩) hpe _) (p := ⟨pe, 2, none⟩) hpe _, ?_⟩, h.lt, hbp, ?_⟩
  · rintro (h9 | h9)
    · have := h.vg b h9; omega
    · omega
  · rintro k hk (h9 | h9)
    · have := h.vg k h9; have := h.lt k hk; omega
    · have := h.lt k hk; omega
  · rintro k (h9 | h9)
    · exact .inl (.inr (.inr h9))
    · exact .inl (.inr (.inl h9))
  · rintro k (h9 | h9 | h9)
    · exact .inl (.inl h9)
    · exact .inl (.inr (.inl h9))
    · rcases hb with e9 | e9
      · exact .inl (.inr (.inr (by rw [← e9]; exact h9)))
      · exact .inr (e9 k h9)
  · rintro k (h9 | h9 | h9)
    · have := h.fat.blk.lt; omega
    · have := h.blk.lt; omega
    · have := (hvg' k h9).2; omega
  · refine (hS.fr hf3 (fun k hk => .inl (.inl (.inr (.inl hk))))).grow (fun k hk => .inl ?_)
    rcases hk with h9 | h9 | h9 | h9
    · exact .inl (.inl h9)
    · exact .inl (.inr (.inl h9))
    · exact .inl (.inr (.inr (.inl h9)))
    · exact .inr h9
  · refine h.bel.trans (hT.toBelow (Nat.le_of_lt h.fat.blk.lt) ?_)
    rintro k (h9 | h9)
    · have := h.vg k h9; omega
    · omega
theorem RM.start {wo : World} (h : FAt wo (fun k => k < b) b f vU vC) (hB : Below b w wo) : RM w (wo.alloc (.cells #[.int .i64 0, .bool false, .slice none 0 0] 30)) b wo.heap.size f ⟨0, false, []⟩ vU vC (.slice none 0 0) := by
  have hb := h.blk.lt
  have hBa : Below wo.heap.size wo (wo.alloc (.cells #[.int .i64 0, .bool false, .slice none 0 0] 30)) := al (Below.refl _ _) _
  refine ⟨h.move (T := fun k => wo.heap.size ≤ k) (Fr.of_below hBa (Nat.le_refl _)) (by omega) (fun k hk => by have := (h.row k hk).2; omega) (fun k hk => .inr hk) ?_ ?_, Blk.new wo 30 _, ⟨[], World.ownsRow_nil _ _ _ _, Sls.nil⟩, fun k hk => (h.row k hk).2, hb, hB.trans (hBa.mono (Nat.le_of_lt hb))⟩
  · rintro k (h9 | h9 | h9)
    · exact .inl h9
    · exact .inr (by omega)
    · simp [Value.ownBlock] at h9
  · rintro k (h9 | h9 | h9)
    · simp; omega
    · simp; omega
    · simp [Value.ownBlock] at h9
/-- a fresh row is no place of the receiving end -/
theorem RM.fresh {v : Value} {l : List UInt8} (h : RM w wr b pe f e vU vC vG) (hO : w'.ownsRow wr.heap.size 5 1 v l.length (encB l)) : Sl w' (Sd b pe vU vG) v l   := own_sl (w := wr) hO (fun k hk => h.sd k hk)
end
end Go.Proofs.Ytjiejpklcjpibaa

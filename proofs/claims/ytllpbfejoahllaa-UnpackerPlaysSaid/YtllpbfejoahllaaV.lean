/- UnpackerPlays: what holds between two rounds. No condition. -/
import Derived.Test.YtllpbfejoahllaaT
import Derived.Test.YtllpbfejoahllaaO
namespace Go.Proofs.Ytllpbfejoahllaa
open Go.RowKit Go.Deep Go.ChangeShapes Go.WideShapes Go.ChangeAt
set_option linter.unusedVariables false
theorem lit3 (w : World) (x0 x1 x2 : UInt8) : BAt (w.alloc (.cells #[.int .u8 (x0.toNat : Int), .int .u8 (x1.toNat : Int), .int .u8 (x2.toNat : Int)] 5)) (some ⟨w.heap.size, 0, none⟩) [x0, x1, x2] := by
  refine .inr ⟨_, _, rfl, by simp, fun i hi => ?_⟩
  rw [Joins.cell_alloc_mark_at _ _ _ _ _ _ rfl]
  match i, hi with
  | 0, _ => rfl
  | 1, _ => rfl
  | 2, _ => rfl
/-- the two unpackers between two rounds -/
structure PL (w wr : World) (br k bu : Nat) (st : US) (a : Option Addr) (cap : Nat) (ar : Option Addr) (capr : Nat) : Prop where
  u : UAt wr bu st a cap
  r : Blk wr br 43 (rcells st ar capr)
  rb : BAt wr ar st.rest
  rc : st.rest.length ≤ capr
  rm : capr ≤ maxLen
  n : 0 ≤ st.next ∧ st.next < 256
  l : 0 ≤ st.lost ∧ st.lost ≤ 255 * k
  s : st.rest.length ≤ 4096
  below : Below w.heap.size w wr
  hbu : w.heap.size ≤ bu
  hbr : w.heap.size ≤ br
  ne : bu ≠ br
theorem PL.step {w wr w' : World} {br k bu : Nat} {st : US} {a : Option Addr} {cap : Nat} {ar : Option Addr} {capr : Nat} (h : PL w wr br k bu st a cap ar capr) (hb : Below wr.heap.size wr w') : PL w w' br k bu st a cap ar capr :=
  ⟨h.u.below hb (Nat.le_refl _), h.r.below hb (Nat.le_refl _), h.rb.below hb (Nat.le_refl _), h.rc, h.rm, h.n, h.l, h.s, h.below.trans (hb.mono h.below.size), h.hbu, h.hbr, h.ne⟩
/-- another unpacker takes its place -/
theorem PL.swap {w wr w2 w3 : World} {br k bu bc : Nat} {st : US} {a a2 : Option Addr} {cap cap2 : Nat} {ar : Option Addr} {capr : Nat} {u2 : US} {a3 : Option Addr} {cap3 : Nat} (h : PL w wr br k bu st a cap ar capr) (h2 : UAt w2 bc st a2 cap2) (hbc : bc = wr.heap.size) (hn : New wr a2) (hb : Below wr.heap.size wr w2) (hU : UAt w3 bu u2 a3 cap3) (hf : Fr (fun k => k = bu) w2 w3) : PL w w3 br k bc st a2 cap2 ar capr := by
  have hu := h.u.blk.lt
  have hr := h.r.lt
  have h2b := h.step hb
  have hs := h.below.size
  refine ⟨h2.fr hf (by omega) (fun q hq hne e => ?_), h2b.r.fr hf (fun e => h.ne e.symm), h2b.rb.apart hf (fun q hq hne e => blk_apart h2b.u.blk h2b.rb hne UAt.plain q hq e), h.rc, h.rm, h.n, h.l, h.s, h2b.below.trans (hf.toBelow (by have := hb.size; omega) (fun j hj => by have := h.hbu; omega)), by omega, h.hbr, by omega⟩
  have := hn q hq
  omega
/-- what the two Takes leave -/
theorem PL.next {w wr w3 w4 w5 : World} {br k bu : Nat} {st st' : US} {a a3 : Option Addr} {cap cap3 : Nat} {ar ar4 : Option Addr} {capr cap4 : Nat} (h : PL w wr br k bu st a cap ar capr) (hU : UAt w3 bu st' a3 cap3) (hf : Fr (fun k => k = bu) wr w3) (hB4 : Below w3.heap.size w3 w4) (hr4 : BAt w4 ar4 st'.rest) (hc4 : st'.rest.length ≤ cap4) (hm4 : cap4 ≤ maxLen)
    (hk5 : Blk w5 br 43 (rcells st' ar4 cap4)) (hf5 : Fr (fun k => k = br) w4 w5) (hn : 0 ≤ st'.next ∧ st'.next < 256) (hl : 0 ≤ st'.lost ∧ st'.lost ≤ st.lost + 255) (hs : st'.rest.length ≤ 4096) : PL w w5 br (k + 1) bu st' a3 cap3 ar4 cap4 := by
  have hu := h.u.blk.lt
  have hr := h.r.lt
  have hrw : Blk w4 br 43 (rcells st ar capr) := (h.r.fr hf (fun e => h.ne e.symm)).below hB4 (Nat.le_refl _)
  have hU4 := hU.below hB4 (Nat.le_refl _)
  refine ⟨hU4.fr hf5 h.ne (fun q hq hne e => blk_apart hrw hU4.at_ hne rplain q hq e), hk5, hr4.apart hf5 (fun q hq hne e => blk_apart hrw hr4 hne rplain q hq e), hc4, hm4, hn, ⟨hl.1, by have := h.l.2; omega⟩, hs, ?_, h.hbu, h.hbr, h.ne⟩
  have h3 : Below w.heap.size w w3 := h.below.trans (hf.toBelow h.below.size (fun j hj => by have := h.hbu; omega))
  exact (h3.trans (hB4.mono h3.size)).trans (hf5.toBelow (by have := h3.size; have := hB4.size; omega) (fun j hj => by have := h.hbr; omega))
/-- what the law's loop keeps -/
def PLR (w : World) (br : Nat) (L : List FL) (u i : Value) (wr : World) : Prop :=
  ∃ (k bu : Nat) (st : US) (a : Option Addr) (cap : Nat) (ar : Option Addr) (capr : Nat), k ≤ L.length ∧ i = .int .i64 k ∧ u = .pointer (some ⟨bu, 0, none⟩) ∧ PL w wr br k bu st a cap ar capr
theorem Fls.get {w : World} {b off : Nat} {cap : Nat} {l : List FL} (h : Fls w (.slice (some ⟨b, off, none⟩) l.length cap) l) {i : Nat} (hi : i < l.length) : b < w.heap.size ∧ ∃ a' c', w.cell? ⟨b, off + i * 3, none⟩ = some (.int .i64 l[i].cnt) ∧ w.cell? ⟨b, off + i * 3 + 1, none⟩ = some (.int .i64 l[i].fst) ∧ w.cell? ⟨b, off + i * 3 + 2, none⟩ = some (.slice a' l[i].dat.length c') ∧
    BAt w a' l[i].dat ∧ l[i].dat.length ≤ c' ∧ c' ≤ maxLen := by
  obtain ⟨a, c, e, h1, h2⟩ := h
  rcases h2 with h2 | ⟨b', off', rfl, hb, h2⟩
  · subst h2; simp at hi
  · simp only [Value.slice.injEq, Option.some.injEq, Addr.mk.injEq, and_true] at e
    obtain ⟨⟨rfl, rfl⟩, -⟩ := e
    exact ⟨hb, h2 i hi⟩
end Go.Proofs.Ytllpbfejoahllaa

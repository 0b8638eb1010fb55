/- The reference: Take. No condition. -/
import Derived.Test.YtgdmonckfjnlfaaM
namespace Go.Proofs.Ytgdmonckfjnlfaa
open Go.RowKit Go.Deep Go.ChangeShapes Go.WideShapes Go.ChangeAt
set_option linter.unusedVariables false

/-- state and verdict -/
def tv (s : FS) (x : TF) (room : Bool) : FS × Int := if validB x = false ∨ x.craft ≠ s.craft ∨ x.chan ≠ s.chan then (s, 0) else verS s x room
theorem tv_take (s : FS) (x : TF) (room : Bool) : tv s x room = ((takeF s x room).1, (takeF s x room).2.2) := by
  unfold tv takeF
  by_cases h : validB x = false ∨ x.craft ≠ s.craft ∨ x.chan ≠ s.chan
  · rw [if_pos h, if_pos h]
  · rw [if_neg h, if_neg h]
    by_cases h1 : (verS s x room).2 ≠ 1
    · rw [if_pos h1]
    · rw [if_neg h1]
      have h2 : (verS s x room).2 = 1 := by by_cases e : (verS s x room).2 = 1; exact e; exact absurd e h1
      exact Prod.ext rfl h2
theorem tv_data (s : FS) (x : TF) (room : Bool) : (takeF s x room).2.1 = if (tv s x room).2 = 1 then x.dat else [] := by
  unfold tv takeF
  by_cases h : validB x = false ∨ x.craft ≠ s.craft ∨ x.chan ≠ s.chan
  · rw [if_pos h, if_pos h]; rfl
  · rw [if_neg h, if_neg h]
    by_cases h1 : (verS s x room).2 ≠ 1
    · rw [if_pos h1, if_neg h1]
    · rw [if_neg h1, if_pos (by by_cases e : (verS s x room).2 = 1; exact e; exact absurd e h1)]
theorem Below.set8 {B b : Nat} {w wz : World} (h : Below B w wz) (hh : B ≤ b) (v0 v1 v2 v3 v4 v5 v6 v7 : Value) : Below B w ((((((((wz.setCell ⟨b, 0, none⟩ v0).setCell ⟨b, 1, none⟩ v1).setCell ⟨b, 2, none⟩ v2).setCell ⟨b, 3, none⟩ v3).setCell ⟨b, 4, none⟩ v4).setCell ⟨b, 5, none⟩ v5).setCell ⟨b, 6, none⟩ v6).setCell ⟨b, 7, none⟩ v7) :=
  (((((((h.setCell (p := ⟨_, _, none⟩) hh _).setCell (p := ⟨_, _, none⟩) hh _).setCell (p := ⟨_, _, none⟩) hh _).setCell (p := ⟨_, _, none⟩) hh _).setCell (p := ⟨_, _, none⟩) hh _).setCell (p := ⟨_, _, none⟩) hh _).setCell (p := ⟨_, _, none⟩) hh _).setCell (p := ⟨_, _, none⟩) hh _
set_option maxRecDepth 20000 in
set_option maxHeartbeats 4000000 in
theorem rtake_b0 (s : FS) (x : TF) (room : Bool) (a : Option Addr) (cap : Nat) (w : World) (hd : BAt w a x.dat) (hcap : x.dat.length ≤ cap) (ok : s.ok) (hnx : 0 ≤ s.next ∧ s.next ≤ 255) (hv : validB x = false) :
    Calls Try.prog 15 #[s.ref, x.val a cap, .bool room] w (RQ w (tv s x room)) := by
  obtain ⟨⟨k1, k2⟩, b1, b2⟩ := ok
  obtain ⟨n1, n2⟩ := hnx
  have HD := Lib.hid hd
  clear hd
  unfold RQ TF.val FS.ref
  have HF : Hid (tv s x room = (s, 0)) := if_pos (.inl hv)
  have Z_hv := Lib.hid hv
  clear hv
  go_enter Try.func15, Try.ntmps15
  go_wp2_with fail
  have hvv := rvalid_any x a cap ((((w.alloc (.cells #[.int .i64 s.craft, .int .i64 s.win, .int .i64 s.chan, .bool s.lock, .bool s.wait, .bool s.retr, .int .i64 s.byp, .int .i64 s.next] 44)).alloc (.cells #[.bool x.byp, .bool x.ctl, .int .i64 x.craft, .int .i64 x.chan, .int .i64 x.seq, .slice a x.dat.length cap] 31)).alloc (.cells #[.int .i64 0, .int .i64 0, .int .i64 0, .bool false, .bool false, .bool false, .int .i64 0, .int .i64 0] 44)))
  unfold TF.val at hvv
  refine hvv.mono ?_
  rintro e w2 ⟨rfl, hw2⟩
  clear hvv
  have hB : Below ((((w.alloc (.cells #[.int .i64 s.craft, .int .i64 s.win, .int .i64 s.chan, .bool s.lock, .bool s.wait, .bool s.retr, .int .i64 s.byp, .int .i64 s.next] 44)).alloc (.cells #[.bool x.byp, .bool x.ctl, .int .i64 x.craft, .int .i64 x.chan, .int .i64 x.seq, .slice a x.dat.length cap] 31)).alloc (.cells #[.int .i64 0, .int .i64 0, .int .i64 0, .bool false, .bool false, .bool false, .int .i64 0, .int .i64 0] 44))).heap.size ((((w.alloc (.cells #[.int .i64 s.craft, .int .i64 s.win, .int .i64 s.chan, .bool s.lock, .bool s.wait, .bool s.retr, .int .i64 s.byp, .int .i64 s.next] 44)).alloc (.cells #[.bool x.byp, .bool x.ctl, .int .i64 x.craft, .int .i64 x.chan, .int .i64 x.seq, .slice a x.dat.length cap] 31)).alloc (.cells #[.int .i64 0, .int .i64 0, .int .i64 0, .bool false, .bool false, .bool false, .int .i64 0, .int .i64 0] 44))) w2 := by rw [hw2]; exact al (Below.refl _ _) _
  have hb0 : Blk w2 w.heap.size 44 [.int .i64 s.craft, .int .i64 s.win, .int .i64 s.chan, .bool s.lock, .bool s.wait, .bool s.retr, .int .i64 s.byp, .int .i64 s.next] := (((Blk.new w 44 _).alloc _).alloc _).below hB (Nat.le_refl _)
  have hb1 : Blk w2 (w.heap.size + 1) 31 [.bool x.byp, .bool x.ctl, .int .i64 x.craft, .int .i64 x.chan, .int .i64 x.seq, .slice a x.dat.length cap] := ((Blk.newAt (by simp)).alloc _).below hB (Nat.le_refl _)
  have hb2 : Blk w2 (w.heap.size + 1 + 1) 44 zero44 := (Blk.newAt (by simp)).below hB (Nat.le_refl _)
  have HB := Lib.hid ((al (al (al (Below.refl _ w) _) _) _).trans (hB.mono (by simp; omega)))
  clear hw2 hB
  have hsz := HB.out.size
  obtain ⟨c0, c1, c2, c3, c4, c5, c6, c7⟩ : w2.cell? ⟨w.heap.size, 0, none⟩ = some (.int .i64 s.craft) ∧ w2.cell? ⟨w.heap.size, 1, none⟩ = some (.int .i64 s.win) ∧ w2.cell? ⟨w.heap.size, 2, none⟩ = some (.int .i64 s.chan) ∧ w2.cell? ⟨w.heap.size, 3, none⟩ = some (.bool s.lock) ∧ w2.cell? ⟨w.heap.size, 4, none⟩ = some (.bool s.wait) ∧ w2.cell? ⟨w.heap.size, 5, none⟩ = some (.bool s.retr) ∧ w2.cell? ⟨w.heap.size, 6, none⟩ = some (.int .i64 s.byp) ∧ w2.cell? ⟨w.heap.size, 7, none⟩ = some (.int .i64 s.next) := ⟨hb0.at 0 rfl, hb0.at 1 rfl, hb0.at 2 rfl, hb0.at 3 rfl, hb0.at 4 rfl, hb0.at 5 rfl, hb0.at 6 rfl, hb0.at 7 rfl⟩
  obtain ⟨d0, d1, d2, d3, d4, d5⟩ : w2.cell? ⟨w.heap.size + 1, 0, none⟩ = some (.bool x.byp) ∧ w2.cell? ⟨w.heap.size + 1, 1, none⟩ = some (.bool x.ctl) ∧ w2.cell? ⟨w.heap.size + 1, 2, none⟩ = some (.int .i64 x.craft) ∧ w2.cell? ⟨w.heap.size + 1, 3, none⟩ = some (.int .i64 x.chan) ∧ w2.cell? ⟨w.heap.size + 1, 4, none⟩ = some (.int .i64 x.seq) ∧ w2.cell? ⟨w.heap.size + 1, 5, none⟩ = some (.slice a x.dat.length cap) := ⟨hb1.at 0 rfl, hb1.at 1 rfl, hb1.at 2 rfl, hb1.at 3 rfl, hb1.at 4 rfl, hb1.at 5 rfl⟩
  obtain ⟨z0, z1, z2, z3, z4, z5, z6, z7⟩ : w2.cell? ⟨w.heap.size + 1 + 1, 0, none⟩ = some (.int .i64 0) ∧ w2.cell? ⟨w.heap.size + 1 + 1, 1, none⟩ = some (.int .i64 0) ∧ w2.cell? ⟨w.heap.size + 1 + 1, 2, none⟩ = some (.int .i64 0) ∧ w2.cell? ⟨w.heap.size + 1 + 1, 3, none⟩ = some (.bool false) ∧ w2.cell? ⟨w.heap.size + 1 + 1, 4, none⟩ = some (.bool false) ∧ w2.cell? ⟨w.heap.size + 1 + 1, 5, none⟩ = some (.bool false) ∧ w2.cell? ⟨w.heap.size + 1 + 1, 6, none⟩ = some (.int .i64 0) ∧ w2.cell? ⟨w.heap.size + 1 + 1, 7, none⟩ = some (.int .i64 0) := ⟨hb2.at 0 rfl, hb2.at 1 rfl, hb2.at 2 rfl, hb2.at 3 rfl, hb2.at 4 rfl, hb2.at 5 rfl, hb2.at 6 rfl, hb2.at 7 rfl⟩
  obtain ⟨y0, y1, y2, y3, y4, y5, y6, y7⟩ : w2.frozen? ⟨w.heap.size + 1 + 1, 0, none⟩ = false ∧ w2.frozen? ⟨w.heap.size + 1 + 1, 1, none⟩ = false ∧ w2.frozen? ⟨w.heap.size + 1 + 1, 2, none⟩ = false ∧ w2.frozen? ⟨w.heap.size + 1 + 1, 3, none⟩ = false ∧ w2.frozen? ⟨w.heap.size + 1 + 1, 4, none⟩ = false ∧ w2.frozen? ⟨w.heap.size + 1 + 1, 5, none⟩ = false ∧ w2.frozen? ⟨w.heap.size + 1 + 1, 6, none⟩ = false ∧ w2.frozen? ⟨w.heap.size + 1 + 1, 7, none⟩ = false := ⟨hb2.free 0, hb2.free 1, hb2.free 2, hb2.free 3, hb2.free 4, hb2.free 5, hb2.free 6, hb2.free 7⟩
  obtain ⟨u3, u4, u5, u6, u7⟩ : w2.frozen? ⟨w.heap.size, 3, none⟩ = false ∧ w2.frozen? ⟨w.heap.size, 4, none⟩ = false ∧ w2.frozen? ⟨w.heap.size, 5, none⟩ = false ∧ w2.frozen? ⟨w.heap.size, 6, none⟩ = false ∧ w2.frozen? ⟨w.heap.size, 7, none⟩ = false := ⟨hb0.free 3, hb0.free 4, hb0.free 5, hb0.free 6, hb0.free 7⟩
  have l0 := hb0.lt
  have l1 := hb1.lt
  have l2 := hb2.lt
  have l3 : w.heap.size < w.heap.size + 1 + 1 := by omega
  have l4 : w.heap.size + 1 ≠ w.heap.size + 1 + 1 := by omega
  have l5 : w.heap.size ≤ w.heap.size + 1 + 1 := by omega
  have HB2 := Lib.hid hb2
  clear hb0 hb1 hb2
  have hv := Z_hv.out
  rw [hv]
  clear hv
  go_wp2_with fail
  refine bodyPost_ret (v := .tuple #[s.ref, .int .i64 0]) (by simp [results, Try.results15, go_sem, FS.ref, FS.bypass, *]) rfl ?_
  rw [HF.out]
  exact ⟨rfl, Below.set8 (HB.out) l5 _ _ _ _ _ _ _ _⟩
set_option maxRecDepth 20000 in
set_option maxHeartbeats 4000000 in
theorem rtake_b1 (s : FS) (x : TF) (room : Bool) (a : Option Addr) (cap : Nat) (w : World) (hd : BAt w a x.dat) (hcap : x.dat.length ≤ cap) (ok : s.ok) (hnx : 0 ≤ s.next ∧ s.next ≤ 255) (hv : validB x = true) (hc : x.craft ≠ s.craft) :
    Calls Try.prog 15 #[s.ref, x.val a cap, .bool room] w (RQ w (tv s x room)) := by
  obtain ⟨⟨k1, k2⟩, b1, b2⟩ := ok
  obtain ⟨n1, n2⟩ := hnx
  have HD := Lib.hid hd
  clear hd
  unfold RQ TF.val FS.ref
  have HF : Hid (tv s x room = (s, 0)) := if_pos (.inr (.inl hc))
  have e1 : (x.craft != s.craft) = true := bne_iff_ne.2 hc
  have Z_hv := Lib.hid hv
  have Z_hc := Lib.hid hc
  clear hv hc
  go_enter Try.func15, Try.ntmps15
  go_wp2_with fail
  have hvv := rvalid_any x a cap ((((w.alloc (.cells #[.int .i64 s.craft, .int .i64 s.win, .int .i64 s.chan, .bool s.lock, .bool s.wait, .bool s.retr, .int .i64 s.byp, .int .i64 s.next] 44)).alloc (.cells #[.bool x.byp, .bool x.ctl, .int .i64 x.craft, .int .i64 x.chan, .int .i64 x.seq, .slice a x.dat.length cap] 31)).alloc (.cells #[.int .i64 0, .int .i64 0, .int .i64 0, .bool false, .bool false, .bool false, .int .i64 0, .int .i64 0] 44)))
  unfold TF.val at hvv
  refine hvv.mono ?_
  rintro e w2 ⟨rfl, hw2⟩
  clear hvv
  have hB : Below ((((w.alloc (.cells #[.int .i64 s.craft, .int .i64 s.win, .int .i64 s.chan, .bool s.lock, .bool s.wait, .bool s.retr, .int .i64 s.byp, .int .i64 s.next] 44)).alloc (.cells #[.bool x.byp, .bool x.ctl, .int .i64 x.craft, .int .i64 x.chan, .int .i64 x.seq, .slice a x.dat.length cap] 31)).alloc (.cells #[.int .i64 0, .int .i64 0, .int .i64 0, .bool false, .bool false, .bool false, .int .i64 0, .int .i64 0] 44))).heap.size ((((w.alloc (.cells #[.int .i64 s.craft, .int .i64 s.win, .int .i64 s.chan, .bool s.lock, .bool s.wait, .bool s.retr, .int .i64 s.byp, .int .i64 s.next] 44)).alloc (.cells #[.bool x.byp, .bool x.ctl, .int .i64 x.craft, .int .i64 x.chan, .int .i64 x.seq, .slice a x.dat.length cap] 31)).alloc (.cells #[.int .i64 0, .int .i64 0, .int .i64 0, .bool false, .bool false, .bool false, .int .i64 0, .int .i64 0] 44))) w2 := by rw [hw2]; exact al (Below.refl _ _) _
  have hb0 : Blk w2 w.heap.size 44 [.int .i64 s.craft, .int .i64 s.win, .int .i64 s.chan, .bool s.lock, .bool s.wait, .bool s.retr, .int .i64 s.byp, .int .i64 s.next] := (((Blk.new w 44 _).alloc _).alloc _).below hB (Nat.le_refl _)
  have hb1 : Blk w2 (w.heap.size + 1) 31 [.bool x.byp, .bool x.ctl, .int .i64 x.craft, .int .i64 x.chan, .int .i64 x.seq, .slice a x.dat.length cap] := ((Blk.newAt (by simp)).alloc _).below hB (Nat.le_refl _)
  have hb2 : Blk w2 (w.heap.size + 1 + 1) 44 zero44 := (Blk.newAt (by simp)).below hB (Nat.le_refl _)
  have HB := Lib.hid ((al (al (al (Below.refl _ w) _) _) _).trans (hB.mono (by simp; omega)))
  clear hw2 hB
  have hsz := HB.out.size
  obtain ⟨c0, c1, c2, c3, c4, c5, c6, c7⟩ : w2.cell? ⟨w.heap.size, 0, none⟩ = some (.int .i64 s.craft) ∧ w2.cell? ⟨w.heap.size, 1, none⟩ = some (.int .i64 s.win) ∧ w2.cell? ⟨w.heap.size, 2, none⟩ = some (.int .i64 s.chan) ∧ w2.cell? ⟨w.heap.size, 3, none⟩ = some (.bool s.lock) ∧ w2.cell? ⟨w.heap.size, 4, none⟩ = some (.bool s.wait) ∧ w2.cell? ⟨w.heap.size, 5, none⟩ = some (.bool s.retr) ∧ w2.cell? ⟨w.heap.size, 6, none⟩ = some (.int .i64 s.byp) ∧ w2.cell? ⟨w.heap.size, 7, none⟩ = some (.int .i64 s.next) := ⟨hb0.at 0 rfl, hb0.at 1 rfl, hb0.at 2 rfl, hb0.at 3 rfl, hb0.at 4 rfl, hb0.at 5 rfl, hb0.at 6 rfl, hb0.at 7 rfl⟩
  obtain ⟨d0, d1, d2, d3, d4, d5⟩ : w2.cell? ⟨w.heap.size + 1, 0, none⟩ = some (.bool x.byp) ∧ w2.cell? ⟨w.heap.size + 1, 1, none⟩ = some (.bool x.ctl) ∧ w2.cell? ⟨w.heap.size + 1, 2, none⟩ = some (.int .i64 x.craft) ∧ w2.cell? ⟨w.heap.size + 1, 3, none⟩ = some (.int .i64 x.chan) ∧ w2.cell? ⟨w.heap.size + 1, 4, none⟩ = some (.int .i64 x.seq) ∧ w2.cell? ⟨w.heap.size + 1, 5, none⟩ = some (.slice a x.dat.length cap) := ⟨hb1.at 0 rfl, hb1.at 1 rfl, hb1.at 2 rfl, hb1.at 3 rfl, hb1.at 4 rfl, hb1.at 5 rfl⟩
  obtain ⟨z0, z1, z2, z3, z4, z5, z6, z7⟩ : w2.cell? ⟨w.heap.size + 1 + 1, 0, none⟩ = some (.int .i64 0) ∧ w2.cell? ⟨w.heap.size + 1 + 1, 1, none⟩ = some (.int .i64 0) ∧ w2.cell? ⟨w.heap.size + 1 + 1, 2, none⟩ = some (.int .i64 0) ∧ w2.cell? ⟨w.heap.size + 1 + 1, 3, none⟩ = some (.bool false) ∧ w2.cell? ⟨w.heap.size + 1 + 1, 4, none⟩ = some (.bool false) ∧ w2.cell? ⟨w.heap.size + 1 + 1, 5, none⟩ = some (.bool false) ∧ w2.cell? ⟨w.heap.size + 1 + 1, 6, none⟩ = some (.int .i64 0) ∧ w2.cell? ⟨w.heap.size + 1 + 1, 7, none⟩ = some (.int .i64 0) := ⟨hb2.at 0 rfl, hb2.at 1 rfl, hb2.at 2 rfl, hb2.at 3 rfl, hb2.at 4 rfl, hb2.at 5 rfl, hb2.at 6 rfl, hb2.at 7 rfl⟩
  obtain ⟨y0, y1, y2, y3, y4, y5, y6, y7⟩ : w2.frozen? ⟨w.heap.size + 1 + 1, 0, none⟩ = false ∧ w2.frozen? ⟨w.heap.size + 1 + 1, 1, none⟩ = false ∧ w2.frozen? ⟨w.heap.size + 1 + 1, 2, none⟩ = false ∧ w2.frozen? ⟨w.heap.size + 1 + 1, 3, none⟩ = false ∧ w2.frozen? ⟨w.heap.size + 1 + 1, 4, none⟩ = false ∧ w2.frozen? ⟨w.heap.size + 1 + 1, 5, none⟩ = false ∧ w2.frozen? ⟨w.heap.size + 1 + 1, 6, none⟩ = false ∧ w2.frozen? ⟨w.heap.size + 1 + 1, 7, none⟩ = false := ⟨hb2.free 0, hb2.free 1, hb2.free 2, hb2.free 3, hb2.free 4, hb2.free 5, hb2.free 6, hb2.free 7⟩
  obtain ⟨u3, u4, u5, u6, u7⟩ : w2.frozen? ⟨w.heap.size, 3, none⟩ = false ∧ w2.frozen? ⟨w.heap.size, 4, none⟩ = false ∧ w2.frozen? ⟨w.heap.size, 5, none⟩ = false ∧ w2.frozen? ⟨w.heap.size, 6, none⟩ = false ∧ w2.frozen? ⟨w.heap.size, 7, none⟩ = false := ⟨hb0.free 3, hb0.free 4, hb0.free 5, hb0.free 6, hb0.free 7⟩
  have l0 := hb0.lt
  have l1 := hb1.lt
  have l2 := hb2.lt
  have l3 : w.heap.size < w.heap.size + 1 + 1 := by omega
  have l4 : w.heap.size + 1 ≠ w.heap.size + 1 + 1 := by omega
  have l5 : w.heap.size ≤ w.heap.size + 1 + 1 := by omega
  have HB2 := Lib.hid hb2
  clear hb0 hb1 hb2
  have hv := Z_hv.out
  have hc := Z_hc.out
  rw [hv]
  clear hv hc
  go_wp2_with fail
  refine bodyPost_ret (v := .tuple #[s.ref, .int .i64 0]) (by simp [results, Try.results15, go_sem, FS.ref, FS.bypass, *]) rfl ?_
  rw [HF.out]
  exact ⟨rfl, Below.set8 (HB.out) l5 _ _ _ _ _ _ _ _⟩
set_option maxRecDepth 20000 in
set_option maxHeartbeats 4000000 in
theorem rtake_b2 (s : FS) (x : TF) (room : Bool) (a : Option Addr) (cap : Nat) (w : World) (hd : BAt w a x.dat) (hcap : x.dat.length ≤ cap) (ok : s.ok) (hnx : 0 ≤ s.next ∧ s.next ≤ 255) (hv : validB x = true) (hc : x.craft = s.craft) (hch : x.chan ≠ s.chan) :
    Calls Try.prog 15 #[s.ref, x.val a cap, .bool room] w (RQ w (tv s x room)) := by
  obtain ⟨⟨k1, k2⟩, b1, b2⟩ := ok
  obtain ⟨n1, n2⟩ := hnx
  have HD := Lib.hid hd
  clear hd
  unfold RQ TF.val FS.ref
  have HF : Hid (tv s x room = (s, 0)) := if_pos (.inr (.inr hch))
  have e2 : (x.chan != s.chan) = true := bne_iff_ne.2 hch
  have e1 : (s.craft != s.craft) = false := by simp
  have Z_hv := Lib.hid hv
  have Z_hc := Lib.hid hc
  have Z_hch := Lib.hid hch
  clear hv hc hch
  go_enter Try.func15, Try.ntmps15
  go_wp2_with fail
  have hvv := rvalid_any x a cap ((((w.alloc (.cells #[.int .i64 s.craft, .int .i64 s.win, .int .i64 s.chan, .bool s.lock, .bool s.wait, .bool s.retr, .int .i64 s.byp, .int .i64 s.next] 44)).alloc (.cells #[.bool x.byp, .bool x.ctl, .int .i64 x.craft, .int .i64 x.chan, .int .i64 x.seq, .slice a x.dat.length cap] 31)).alloc (.cells #[.int .i64 0, .int .i64 0, .int .i64 0, .bool false, .bool false, .bool false, .int .i64 0, .int .i64 0] 44)))
  unfold TF.val at hvv
  refine hvv.mono ?_
  rintro e w2 ⟨rfl, hw2⟩
  clear hvv
  have hB : Below ((((w.alloc (.cells #[.int .i64 s.craft, .int .i64 s.win, .int .i64 s.chan, .bool s.lock, .bool s.wait, .bool s.retr, .int .i64 s.byp, .int .i64 s.next] 44)).alloc (.cells #[.bool x.byp, .bool x.ctl, .int .i64 x.craft, .int .i64 x.chan, .int .i64 x.seq, .slice a x.dat.length cap] 31)).alloc (.cells #[.int .i64 0, .int .i64 0, .int .i64 0, .bool false, .bool false, .bool false, .int .i64 0, .int .i64 0] 44))).heap.size ((((w.alloc (.cells #[.int .i64 s.craft, .int .i64 s.win, .int .i64 s.chan, .bool s.lock, .bool s.wait, .bool s.retr, .int .i64 s.byp, .int .i64 s.next] 44)).alloc (.cells #[.bool x.byp, .bool x.ctl, .int .i64 x.craft, .int .i64 x.chan, .int .i64 x.seq, .slice a x.dat.length cap] 31)).alloc (.cells #[.int .i64 0, .int .i64 0, .int .i64 0, .bool false, .bool false, .bool false, .int .i64 0, .int .i64 0] 44))) w2 := by rw [hw2]; exact al (Below.refl _ _) _
  have hb0 : Blk w2 w.heap.size 44 [.int .i64 s.craft, .int .i64 s.win, .int .i64 s.chan, .bool s.lock, .bool s.wait, .bool s.retr, .int .i64 s.byp, .int .i64 s.next] := (((Blk.new w 44 _).alloc _).alloc _).below hB (Nat.le_refl _)
  have hb1 : Blk w2 (w.heap.size + 1) 31 [.bool x.byp, .bool x.ctl, .int .i64 x.craft, .int .i64 x.chan, .int .i64 x.seq, .slice a x.dat.length cap] := ((Blk.newAt (by simp)).alloc _).below hB (Nat.le_refl _)
  have hb2 : Blk w2 (w.heap.size + 1 + 1) 44 zero44 := (Blk.newAt (by simp)).below hB (Nat.le_refl _)
  have HB := Lib.hid ((al (al (al (Below.refl _ w) _) _) _).trans (hB.mono (by simp; omega)))
  clear hw2 hB
  have hsz := HB.out.size
  obtain ⟨c0, c1, c2, c3, c4, c5, c6, c7⟩ : w2.cell? ⟨w.heap.size, 0, none⟩ = some (.int .i64 s.craft) ∧ w2.cell? ⟨w.heap.size, 1, none⟩ = some (.int .i64 s.win) ∧ w2.cell? ⟨w.heap.size, 2, none⟩ = some (.int .i64 s.chan) ∧ w2.cell? ⟨w.heap.size, 3, none⟩ = some (.bool s.lock) ∧ w2.cell? ⟨w.heap.size, 4, none⟩ = some (.bool s.wait) ∧ w2.cell? ⟨w.heap.size, 5, none⟩ = some (.bool s.retr) ∧ w2.cell? ⟨w.heap.size, 6, none⟩ = some (.int .i64 s.byp) ∧ w2.cell? ⟨w.heap.size, 7, none⟩ = some (.int .i64 s.next) := ⟨hb0.at 0 rfl, hb0.at 1 rfl, hb0.at 2 rfl, hb0.at 3 rfl, hb0.at 4 rfl, hb0.at 5 rfl, hb0.at 6 rfl, hb0.at 7 rfl⟩
  obtain ⟨d0, d1, d2, d3, d4, d5⟩ : w2.cell? ⟨w.heap.size + 1, 0, none⟩ = some (.bool x.byp) ∧ w2.cell? ⟨w.heap.size + 1, 1, none⟩ = some (.bool x.ctl) ∧ w2.cell? ⟨w.heap.size + 1, 2, none⟩ = some (.int .i64 x.craft) ∧ w2.cell? ⟨w.heap.size + 1, 3, none⟩ = some (.int .i64 x.chan) ∧ w2.cell? ⟨w.heap.size + 1, 4, none⟩ = some (.int .i64 x.seq) ∧ w2.cell? ⟨w.heap.size + 1, 5, none⟩ = some (.slice a x.dat.length cap) := ⟨hb1.at 0 rfl, hb1.at 1 rfl, hb1.at 2 rfl, hb1.at 3 rfl, hb1.at 4 rfl, hb1.at 5 rfl⟩
  obtain ⟨z0, z1, z2, z3, z4, z5, z6, z7⟩ : w2.cell? ⟨w.heap.size + 1 + 1, 0, none⟩ = some (.int .i64 0) ∧ w2.cell? ⟨w.heap.size + 1 + 1, 1, none⟩ = some (.int .i64 0) ∧ w2.cell? ⟨w.heap.size + 1 + 1, 2, none⟩ = some (.int .i64 0) ∧ w2.cell? ⟨w.heap.size + 1 + 1, 3, none⟩ = some (.bool false) ∧ w2.cell? ⟨w.heap.size + 1 + 1, 4, none⟩ = some (.bool false) ∧ w2.cell? ⟨w.heap.size + 1 + 1, 5, none⟩ = some (.bool false) ∧ w2.cell? ⟨w.heap.size + 1 + 1, 6, none⟩ = some (.int .i64 0) ∧ w2.cell? ⟨w.heap.size + 1 + 1, 7, none⟩ = some (.int .i64 0) := ⟨hb2.at 0 rfl, hb2.at 1 rfl, hb2.at 2 rfl, hb2.at 3 rfl, hb2.at 4 rfl, hb2.at 5 rfl, hb2.at 6 rfl, hb2.at 7 rfl⟩
  obtain ⟨y0, y1, y2, y3, y4, y5, y6, y7⟩ : w2.frozen? ⟨w.heap.size + 1 + 1, 0, none⟩ = false ∧ w2.frozen? ⟨w.heap.size + 1 + 1, 1, none⟩ = false ∧ w2.frozen? ⟨w.heap.size + 1 + 1, 2, none⟩ = false ∧ w2.frozen? ⟨w.heap.size + 1 + 1, 3, none⟩ = false ∧ w2.frozen? ⟨w.heap.size + 1 + 1, 4, none⟩ = false ∧ w2.frozen? ⟨w.heap.size + 1 + 1, 5, none⟩ = false ∧ w2.frozen? ⟨w.heap.size + 1 + 1, 6, none⟩ = false ∧ w2.frozen? ⟨w.heap.size + 1 + 1, 7, none⟩ = false := ⟨hb2.free 0, hb2.free 1, hb2.free 2, hb2.free 3, hb2.free 4, hb2.free 5, hb2.free 6, hb2.free 7⟩
  obtain ⟨u3, u4, u5, u6, u7⟩ : w2.frozen? ⟨w.heap.size, 3, none⟩ = false ∧ w2.frozen? ⟨w.heap.size, 4, none⟩ = false ∧ w2.frozen? ⟨w.heap.size, 5, none⟩ = false ∧ w2.frozen? ⟨w.heap.size, 6, none⟩ = false ∧ w2.frozen? ⟨w.heap.size, 7, none⟩ = false := ⟨hb0.free 3, hb0.free 4, hb0.free 5, hb0.free 6, hb0.free 7⟩
  have l0 := hb0.lt
  have l1 := hb1.lt
  have l2 := hb2.lt
  have l3 : w.heap.size < w.heap.size + 1 + 1 := by omega
  have l4 : w.heap.size + 1 ≠ w.heap.size + 1 + 1 := by omega
  have l5 : w.heap.size ≤ w.heap.size + 1 + 1 := by omega
  have HB2 := Lib.hid hb2
  clear hb0 hb1 hb2
  have hv := Z_hv.out
  have hc := Z_hc.out
  have hch := Z_hch.out
  rw [hv]
  rw [hc] at d2
  have HC := Lib.hid hc
  clear hv hch hc
  go_wp2_with fail
  refine bodyPost_ret (v := .tuple #[s.ref, .int .i64 0]) (by simp [results, Try.results15, go_sem, FS.ref, FS.bypass, *]) rfl ?_
  rw [HF.out]
  exact ⟨rfl, Below.set8 (HB.out) l5 _ _ _ _ _ _ _ _⟩
set_option maxRecDepth 20000 in
set_option maxHeartbeats 4000000 in
theorem rtake_c (s : FS) (x : TF) (room : Bool) (a : Option Addr) (cap : Nat) (w : World) (hd : BAt w a x.dat) (hcap : x.dat.length ≤ cap) (ok : s.ok) (hnx : 0 ≤ s.next ∧ s.next ≤ 255) (hv : validB x = true) (hc : x.craft = s.craft) (hch : x.chan = s.chan) (hk : x.ctl = true) :
    Calls Try.prog 15 #[s.ref, x.val a cap, .bool room] w (RQ w (tv s x room)) := by
  obtain ⟨⟨k1, k2⟩, b1, b2⟩ := ok
  obtain ⟨n1, n2⟩ := hnx
  have HD := Lib.hid hd
  clear hd
  unfold RQ TF.val FS.ref
  have HT : Hid (tv s x room = verS s x room) := if_neg (by rw [hv, hc, hch]; simp)
  have e1 : (s.craft != s.craft) = false := by simp
  have e2 : (s.chan != s.chan) = false := by simp
  have hv2 : 0 ≤ x.seq ∧ x.seq ≤ 255 := by have h := hv; unfold validB at h; simp only [Bool.and_eq_true, decide_eq_true_eq] at h; omega
  have hlen : x.dat.length ≤ 1017 := by have h := hv; unfold validB at h; simp only [Bool.and_eq_true, decide_eq_true_eq] at h; omega
  have HF : Hid (tv s x room = ctlS s x) := HT.out.trans (if_pos hk)
  have Z_hv := Lib.hid hv
  have Z_hc := Lib.hid hc
  have Z_hch := Lib.hid hch
  have Z_hk := Lib.hid hk
  clear hv hc hch hk
  go_enter Try.func15, Try.ntmps15
  go_wp2_with fail
  have hvv := rvalid_any x a cap ((((w.alloc (.cells #[.int .i64 s.craft, .int .i64 s.win, .int .i64 s.chan, .bool s.lock, .bool s.wait, .bool s.retr, .int .i64 s.byp, .int .i64 s.next] 44)).alloc (.cells #[.bool x.byp, .bool x.ctl, .int .i64 x.craft, .int .i64 x.chan, .int .i64 x.seq, .slice a x.dat.length cap] 31)).alloc (.cells #[.int .i64 0, .int .i64 0, .int .i64 0, .bool false, .bool false, .bool false, .int .i64 0, .int .i64 0] 44)))
  unfold TF.val at hvv
  refine hvv.mono ?_
  rintro e w2 ⟨rfl, hw2⟩
  clear hvv
  have hB : Below ((((w.alloc (.cells #[.int .i64 s.craft, .int .i64 s.win, .int .i64 s.chan, .bool s.lock, .bool s.wait, .bool s.retr, .int .i64 s.byp, .int .i64 s.next] 44)).alloc (.cells #[.bool x.byp, .bool x.ctl, .int .i64 x.craft, .int .i64 x.chan, .int .i64 x.seq, .slice a x.dat.length cap] 31)).alloc (.cells #[.int .i64 0, .int .i64 0, .int .i64 0, .bool false, .bool false, .bool false, .int .i64 0, .int .i64 0] 44))).heap.size ((((w.alloc (.cells #[.int .i64 s.craft, .int .i64 s.win, .int .i64 s.chan, .bool s.lock, .bool s.wait, .bool s.retr, .int .i64 s.byp, .int .i64 s.next] 44)).alloc (.cells #[.bool x.byp, .bool x.ctl, .int .i64 x.craft, .int .i64 x.chan, .int .i64 x.seq, .slice a x.dat.length cap] 31)).alloc (.cells #[.int .i64 0, .int .i64 0, .int .i64 0, .bool false, .bool false, .bool false, .int .i64 0, .int .i64 0] 44))) w2 := by rw [hw2]; exact al (Below.refl _ _) _
  have hb0 : Blk w2 w.heap.size 44 [.int .i64 s.craft, .int .i64 s.win, .int .i64 s.chan, .bool s.lock, .bool s.wait, .bool s.retr, .int .i64 s.byp, .int .i64 s.next] := (((Blk.new w 44 _).alloc _).alloc _).below hB (Nat.le_refl _)
  have hb1 : Blk w2 (w.heap.size + 1) 31 [.bool x.byp, .bool x.ctl, .int .i64 x.craft, .int .i64 x.chan, .int .i64 x.seq, .slice a x.dat.length cap] := ((Blk.newAt (by simp)).alloc _).below hB (Nat.le_refl _)
  have hb2 : Blk w2 (w.heap.size + 1 + 1) 44 zero44 := (Blk.newAt (by simp)).below hB (Nat.le_refl _)
  have HB := Lib.hid ((al (al (al (Below.refl _ w) _) _) _).trans (hB.mono (by simp; omega)))
  clear hw2 hB
  have hsz := HB.out.size
  obtain ⟨c0, c1, c2, c3, c4, c5, c6, c7⟩ : w2.cell? ⟨w.heap.size, 0, none⟩ = some (.int .i64 s.craft) ∧ w2.cell? ⟨w.heap.size, 1, none⟩ = some (.int .i64 s.win) ∧ w2.cell? ⟨w.heap.size, 2, none⟩ = some (.int .i64 s.chan) ∧ w2.cell? ⟨w.heap.size, 3, none⟩ = some (.bool s.lock) ∧ w2.cell? ⟨w.heap.size, 4, none⟩ = some (.bool s.wait) ∧ w2.cell? ⟨w.heap.size, 5, none⟩ = some (.bool s.retr) ∧ w2.cell? ⟨w.heap.size, 6, none⟩ = some (.int .i64 s.byp) ∧ w2.cell? ⟨w.heap.size, 7, none⟩ = some (.int .i64 s.next) := ⟨hb0.at 0 rfl, hb0.at 1 rfl, hb0.at 2 rfl, hb0.at 3 rfl, hb0.at 4 rfl, hb0.at 5 rfl, hb0.at 6 rfl, hb0.at 7 rfl⟩
  obtain ⟨d0, d1, d2, d3, d4, d5⟩ : w2.cell? ⟨w.heap.size + 1, 0, none⟩ = some (.bool x.byp) ∧ w2.cell? ⟨w.heap.size + 1, 1, none⟩ = some (.bool x.ctl) ∧ w2.cell? ⟨w.heap.size + 1, 2, none⟩ = some (.int .i64 x.craft) ∧ w2.cell? ⟨w.heap.size + 1, 3, none⟩ = some (.int .i64 x.chan) ∧ w2.cell? ⟨w.heap.size + 1, 4, none⟩ = some (.int .i64 x.seq) ∧ w2.cell? ⟨w.heap.size + 1, 5, none⟩ = some (.slice a x.dat.length cap) := ⟨hb1.at 0 rfl, hb1.at 1 rfl, hb1.at 2 rfl, hb1.at 3 rfl, hb1.at 4 rfl, hb1.at 5 rfl⟩
  obtain ⟨z0, z1, z2, z3, z4, z5, z6, z7⟩ : w2.cell? ⟨w.heap.size + 1 + 1, 0, none⟩ = some (.int .i64 0) ∧ w2.cell? ⟨w.heap.size + 1 + 1, 1, none⟩ = some (.int .i64 0) ∧ w2.cell? ⟨w.heap.size + 1 + 1, 2, none⟩ = some (.int .i64 0) ∧ w2.cell? ⟨w.heap.size + 1 + 1, 3, none⟩ = some (.bool false) ∧ w2.cell? ⟨w.heap.size + 1 + 1, 4, none⟩ = some (.bool false) ∧ w2.cell? ⟨w.heap.size + 1 + 1, 5, none⟩ = some (.bool false) ∧ w2.cell? ⟨w.heap.size + 1 + 1, 6, none⟩ = some (.int .i64 0) ∧ w2.cell? ⟨w.heap.size + 1 + 1, 7, none⟩ = some (.int .i64 0) := ⟨hb2.at 0 rfl, hb2.at 1 rfl, hb2.at 2 rfl, hb2.at 3 rfl, hb2.at 4 rfl, hb2.at 5 rfl, hb2.at 6 rfl, hb2.at 7 rfl⟩
  obtain ⟨y0, y1, y2, y3, y4, y5, y6, y7⟩ : w2.frozen? ⟨w.heap.size + 1 + 1, 0, none⟩ = false ∧ w2.frozen? ⟨w.heap.size + 1 + 1, 1, none⟩ = false ∧ w2.frozen? ⟨w.heap.size + 1 + 1, 2, none⟩ = false ∧ w2.frozen? ⟨w.heap.size + 1 + 1, 3, none⟩ = false ∧ w2.frozen? ⟨w.heap.size + 1 + 1, 4, none⟩ = false ∧ w2.frozen? ⟨w.heap.size + 1 + 1, 5, none⟩ = false ∧ w2.frozen? ⟨w.heap.size + 1 + 1, 6, none⟩ = false ∧ w2.frozen? ⟨w.heap.size + 1 + 1, 7, none⟩ = false := ⟨hb2.free 0, hb2.free 1, hb2.free 2, hb2.free 3, hb2.free 4, hb2.free 5, hb2.free 6, hb2.free 7⟩
  obtain ⟨u3, u4, u5, u6, u7⟩ : w2.frozen? ⟨w.heap.size, 3, none⟩ = false ∧ w2.frozen? ⟨w.heap.size, 4, none⟩ = false ∧ w2.frozen? ⟨w.heap.size, 5, none⟩ = false ∧ w2.frozen? ⟨w.heap.size, 6, none⟩ = false ∧ w2.frozen? ⟨w.heap.size, 7, none⟩ = false := ⟨hb0.free 3, hb0.free 4, hb0.free 5, hb0.free 6, hb0.free 7⟩
  have l0 := hb0.lt
  have l1 := hb1.lt
  have l2 := hb2.lt
  have l3 : w.heap.size < w.heap.size + 1 + 1 := by omega
  have l4 : w.heap.size + 1 ≠ w.heap.size + 1 + 1 := by omega
  have l5 : w.heap.size ≤ w.heap.size + 1 + 1 := by omega
  have HB2 := Lib.hid hb2
  clear hb0 hb1 hb2
  have hv := Z_hv.out
  have hc := Z_hc.out
  have hch := Z_hch.out
  have hk := Z_hk.out
  rw [hv]
  rw [hc] at d2
  rw [hch] at d3
  have HC := Lib.hid hc
  have HCH := Lib.hid hch
  have HVV := Lib.hid hv
  clear hc hch hv
  rw [hk] at d1
  have hcc := rcontrol_any s x a cap w2 ⟨b1, b2⟩ (HD.out.below HB.out (Nat.le_refl _)) hcap (by omega)
  unfold TF.val FS.ref at hcc
  rw [hk, HC.out, HCH.out] at hcc
  have HCC := Lib.hid hcc
  clear hk hcc
  go_wp2_with fail
  refine (HCC.out).mono ?_
  unfold RQ
  generalize ctlS s x = V at HF ⊢
  obtain ⟨s', v⟩ := V
  rintro e w3 ⟨rfl, hB3⟩
  unfold FS.ref
  simp only
  have hb3 := HB2.out.below hB3 (Nat.le_refl _)
  have HB3 := Lib.hid (HB.out.trans (hB3.mono hsz))
  clear hB3 z0 z1 z2 z3 z4 z5 z6 z7 y0 y1 y2 y3 y4 y5 y6 y7 c0 c1 c2 c3 c4 c5 c6 c7 d0 d1 d2 d3 d4 d5 u3 u4 u5 u6 u7
  obtain ⟨z0, z1, z2, z3, z4, z5, z6, z7⟩ : w3.cell? ⟨w.heap.size + 1 + 1, 0, none⟩ = some (.int .i64 0) ∧ w3.cell? ⟨w.heap.size + 1 + 1, 1, none⟩ = some (.int .i64 0) ∧ w3.cell? ⟨w.heap.size + 1 + 1, 2, none⟩ = some (.int .i64 0) ∧ w3.cell? ⟨w.heap.size + 1 + 1, 3, none⟩ = some (.bool false) ∧ w3.cell? ⟨w.heap.size + 1 + 1, 4, none⟩ = some (.bool false) ∧ w3.cell? ⟨w.heap.size + 1 + 1, 5, none⟩ = some (.bool false) ∧ w3.cell? ⟨w.heap.size + 1 + 1, 6, none⟩ = some (.int .i64 0) ∧ w3.cell? ⟨w.heap.size + 1 + 1, 7, none⟩ = some (.int .i64 0) := ⟨hb3.at 0 rfl, hb3.at 1 rfl, hb3.at 2 rfl, hb3.at 3 rfl, hb3.at 4 rfl, hb3.at 5 rfl, hb3.at 6 rfl, hb3.at 7 rfl⟩
  obtain ⟨y0, y1, y2, y3, y4, y5, y6, y7⟩ : w3.frozen? ⟨w.heap.size + 1 + 1, 0, none⟩ = false ∧ w3.frozen? ⟨w.heap.size + 1 + 1, 1, none⟩ = false ∧ w3.frozen? ⟨w.heap.size + 1 + 1, 2, none⟩ = false ∧ w3.frozen? ⟨w.heap.size + 1 + 1, 3, none⟩ = false ∧ w3.frozen? ⟨w.heap.size + 1 + 1, 4, none⟩ = false ∧ w3.frozen? ⟨w.heap.size + 1 + 1, 5, none⟩ = false ∧ w3.frozen? ⟨w.heap.size + 1 + 1, 6, none⟩ = false ∧ w3.frozen? ⟨w.heap.size + 1 + 1, 7, none⟩ = false := ⟨hb3.free 0, hb3.free 1, hb3.free 2, hb3.free 3, hb3.free 4, hb3.free 5, hb3.free 6, hb3.free 7⟩
  have l6 := hb3.lt
  clear hb3
  go_wp2_with fail
  refine bodyPost_ret (v := .tuple #[s'.ref, .int .i64 v]) (by simp [results, Try.results15, go_sem, FS.ref, *]) rfl ?_
  rw [HF.out]
  exact ⟨rfl, Below.set8 HB3.out l5 _ _ _ _ _ _ _ _⟩
set_option maxRecDepth 20000 in
set_option maxHeartbeats 4000000 in
theorem rtake_y (s : FS) (x : TF) (room : Bool) (a : Option Addr) (cap : Nat) (w : World) (hd : BAt w a x.dat) (hcap : x.dat.length ≤ cap) (ok : s.ok) (hnx : 0 ≤ s.next ∧ s.next ≤ 255) (hv : validB x = true) (hc : x.craft = s.craft) (hch : x.chan = s.chan) (hk : x.ctl = false) (hy : x.byp = true) :
    Calls Try.prog 15 #[s.ref, x.val a cap, .bool room] w (RQ w (tv s x room)) := by
  obtain ⟨⟨k1, k2⟩, b1, b2⟩ := ok
  obtain ⟨n1, n2⟩ := hnx
  have HD := Lib.hid hd
  clear hd
  unfold RQ TF.val FS.ref
  have HT : Hid (tv s x room = verS s x room) := if_neg (by rw [hv, hc, hch]; simp)
  have e1 : (s.craft != s.craft) = false := by simp
  have e2 : (s.chan != s.chan) = false := by simp
  have hv2 : 0 ≤ x.seq ∧ x.seq ≤ 255 := by have h := hv; unfold validB at h; simp only [Bool.and_eq_true, decide_eq_true_eq] at h; omega
  have hlen : x.dat.length ≤ 1017 := by have h := hv; unfold validB at h; simp only [Bool.and_eq_true, decide_eq_true_eq] at h; omega
  have HF : Hid (tv s x room = (s.bypass, 1)) := HT.out.trans (by unfold verS; rw [if_neg (by rw [hk]; simp), if_pos hy])
  have Z_hv := Lib.hid hv
  have Z_hc := Lib.hid hc
  have Z_hch := Lib.hid hch
  have Z_hk := Lib.hid hk
  have Z_hy := Lib.hid hy
  clear hv hc hch hk hy
  go_enter Try.func15, Try.ntmps15
  go_wp2_with fail
  have hvv := rvalid_any x a cap ((((w.alloc (.cells #[.int .i64 s.craft, .int .i64 s.win, .int .i64 s.chan, .bool s.lock, .bool s.wait, .bool s.retr, .int .i64 s.byp, .int .i64 s.next] 44)).alloc (.cells #[.bool x.byp, .bool x.ctl, .int .i64 x.craft, .int .i64 x.chan, .int .i64 x.seq, .slice a x.dat.length cap] 31)).alloc (.cells #[.int .i64 0, .int .i64 0, .int .i64 0, .bool false, .bool false, .bool false, .int .i64 0, .int .i64 0] 44)))
  unfold TF.val at hvv
  refine hvv.mono ?_
  rintro e w2 ⟨rfl, hw2⟩
  clear hvv
  have hB : Below ((((w.alloc (.cells #[.int .i64 s.craft, .int .i64 s.win, .int .i64 s.chan, .bool s.lock, .bool s.wait, .bool s.retr, .int .i64 s.byp, .int .i64 s.next] 44)).alloc (.cells #[.bool x.byp, .bool x.ctl, .int .i64 x.craft, .int .i64 x.chan, .int .i64 x.seq, .slice a x.dat.length cap] 31)).alloc (.cells #[.int .i64 0, .int .i64 0, .int .i64 0, .bool false, .bool false, .bool false, .int .i64 0, .int .i64 0] 44))).heap.size ((((w.alloc (.cells #[.int .i64 s.craft, .int .i64 s.win, .int .i64 s.chan, .bool s.lock, .bool s.wait, .bool s.retr, .int .i64 s.byp, .int .i64 s.next] 44)).alloc (.cells #[.bool x.byp, .bool x.ctl, .int .i64 x.craft, .int .i64 x.chan, .int .i64 x.seq, .slice a x.dat.length cap] 31)).alloc (.cells #[.int .i64 0, .int .i64 0, .int .i64 0, .bool false, .bool false, .bool false, .int .i64 0, .int .i64 0] 44))) w2 := by rw [hw2]; exact al (Below.refl _ _) _
  have hb0 : Blk w2 w.heap.size 44 [.int .i64 s.craft, .int .i64 s.win, .int .i64 s.chan, .bool s.lock, .bool s.wait, .bool s.retr, .int .i64 s.byp, .int .i64 s.next] := (((Blk.new w 44 _).alloc _).alloc _).below hB (Nat.le_refl _)
  have hb1 : Blk w2 (w.heap.size + 1) 31 [.bool x.byp, .bool x.ctl, .int .i64 x.craft, .int .i64 x.chan, .int .i64 x.seq, .slice a x.dat.length cap] := ((Blk.newAt (by simp)).alloc _).below hB (Nat.le_refl _)
  have hb2 : Blk w2 (w.heap.size + 1 + 1) 44 zero44 := (Blk.newAt (by simp)).below hB (Nat.le_refl _)
  have HB := Lib.hid ((al (al (al (Below.refl _ w) _) _) _).trans (hB.mono (by simp; omega)))
  clear hw2 hB
  have hsz := HB.out.size
  obtain ⟨c0, c1, c2, c3, c4, c5, c6, c7⟩ : w2.cell? ⟨w.heap.size, 0, none⟩ = some (.int .i64 s.craft) ∧ w2.cell? ⟨w.heap.size, 1, none⟩ = some (.int .i64 s.win) ∧ w2.cell? ⟨w.heap.size, 2, none⟩ = some (.int .i64 s.chan) ∧ w2.cell? ⟨w.heap.size, 3, none⟩ = some (.bool s.lock) ∧ w2.cell? ⟨w.heap.size, 4, none⟩ = some (.bool s.wait) ∧ w2.cell? ⟨w.heap.size, 5, none⟩ = some (.bool s.retr) ∧ w2.cell? ⟨w.heap.size, 6, none⟩ = some (.int .i64 s.byp) ∧ w2.cell? ⟨w.heap.size, 7, none⟩ = some (.int .i64 s.next) := ⟨hb0.at 0 rfl, hb0.at 1 rfl, hb0.at 2 rfl, hb0.at 3 rfl, hb0.at 4 rfl, hb0.at 5 rfl, hb0.at 6 rfl, hb0.at 7 rfl⟩
  obtain ⟨d0, d1, d2, d3, d4, d5⟩ : w2.cell? ⟨w.heap.size + 1, 0, none⟩ = some (.bool x.byp) ∧ w2.cell? ⟨w.heap.size + 1, 1, none⟩ = some (.bool x.ctl) ∧ w2.cell? ⟨w.heap.size + 1, 2, none⟩ = some (.int .i64 x.craft) ∧ w2.cell? ⟨w.heap.size + 1, 3, none⟩ = some (.int .i64 x.chan) ∧ w2.cell? ⟨w.heap.size + 1, 4, none⟩ = some (.int .i64 x.seq) ∧ w2.cell? ⟨w.heap.size + 1, 5, none⟩ = some (.slice a x.dat.length cap) := ⟨hb1.at 0 rfl, hb1.at 1 rfl, hb1.at 2 rfl, hb1.at 3 rfl, hb1.at 4 rfl, hb1.at 5 rfl⟩
  obtain ⟨z0, z1, z2, z3, z4, z5, z6, z7⟩ : w2.cell? ⟨w.heap.size + 1 + 1, 0, none⟩ = some (.int .i64 0) ∧ w2.cell? ⟨w.heap.size + 1 + 1, 1, none⟩ = some (.int .i64 0) ∧ w2.cell? ⟨w.heap.size + 1 + 1, 2, none⟩ = some (.int .i64 0) ∧ w2.cell? ⟨w.heap.size + 1 + 1, 3, none⟩ = some (.bool false) ∧ w2.cell? ⟨w.heap.size + 1 + 1, 4, none⟩ = some (.bool false) ∧ w2.cell? ⟨w.heap.size + 1 + 1, 5, none⟩ = some (.bool false) ∧ w2.cell? ⟨w.heap.size + 1 + 1, 6, none⟩ = some (.int .i64 0) ∧ w2.cell? ⟨w.heap.size + 1 + 1, 7, none⟩ = some (.int .i64 0) := ⟨hb2.at 0 rfl, hb2.at 1 rfl, hb2.at 2 rfl, hb2.at 3 rfl, hb2.at 4 rfl, hb2.at 5 rfl, hb2.at 6 rfl, hb2.at 7 rfl⟩
  obtain ⟨y0, y1, y2, y3, y4, y5, y6, y7⟩ : w2.frozen? ⟨w.heap.size + 1 + 1, 0, none⟩ = false ∧ w2.frozen? ⟨w.heap.size + 1 + 1, 1, none⟩ = false ∧ w2.frozen? ⟨w.heap.size + 1 + 1, 2, none⟩ = false ∧ w2.frozen? ⟨w.heap.size + 1 + 1, 3, none⟩ = false ∧ w2.frozen? ⟨w.heap.size + 1 + 1, 4, none⟩ = false ∧ w2.frozen? ⟨w.heap.size + 1 + 1, 5, none⟩ = false ∧ w2.frozen? ⟨w.heap.size + 1 + 1, 6, none⟩ = false ∧ w2.frozen? ⟨w.heap.size + 1 + 1, 7, none⟩ = false := ⟨hb2.free 0, hb2.free 1, hb2.free 2, hb2.free 3, hb2.free 4, hb2.free 5, hb2.free 6, hb2.free 7⟩
  obtain ⟨u3, u4, u5, u6, u7⟩ : w2.frozen? ⟨w.heap.size, 3, none⟩ = false ∧ w2.frozen? ⟨w.heap.size, 4, none⟩ = false ∧ w2.frozen? ⟨w.heap.size, 5, none⟩ = false ∧ w2.frozen? ⟨w.heap.size, 6, none⟩ = false ∧ w2.frozen? ⟨w.heap.size, 7, none⟩ = false := ⟨hb0.free 3, hb0.free 4, hb0.free 5, hb0.free 6, hb0.free 7⟩
  have l0 := hb0.lt
  have l1 := hb1.lt
  have l2 := hb2.lt
  have l3 : w.heap.size < w.heap.size + 1 + 1 := by omega
  have l4 : w.heap.size + 1 ≠ w.heap.size + 1 + 1 := by omega
  have l5 : w.heap.size ≤ w.heap.size + 1 + 1 := by omega
  have HB2 := Lib.hid hb2
  clear hb0 hb1 hb2
  have hv := Z_hv.out
  have hc := Z_hc.out
  have hch := Z_hch.out
  have hk := Z_hk.out
  have hy := Z_hy.out
  rw [hv]
  rw [hc] at d2
  rw [hch] at d3
  have HC := Lib.hid hc
  have HCH := Lib.hid hch
  have HVV := Lib.hid hv
  clear hc hch hv
  rw [hk] at d1
  rw [hy] at d0
  clear hk hy
  go_wp2_with fail
  refine bodyPost_ret (v := .tuple #[s.bypass.ref, .int .i64 1]) (by simp [results, Try.results15, go_sem, FS.ref, FS.bypass, *]) rfl ?_
  rw [HF.out]
  exact ⟨rfl, Below.set8 ((HB.out.setCell (p := ⟨_, _, none⟩) (Nat.le_refl _) _)) l5 _ _ _ _ _ _ _ _⟩
set_option maxRecDepth 20000 in
set_option maxHeartbeats 4000000 in
theorem rtake_l (s : FS) (x : TF) (room : Bool) (a : Option Addr) (cap : Nat) (w : World) (hd : BAt w a x.dat) (hcap : x.dat.length ≤ cap) (ok : s.ok) (hnx : 0 ≤ s.next ∧ s.next ≤ 255) (hv : validB x = true) (hc : x.craft = s.craft) (hch : x.chan = s.chan) (hk : x.ctl = false) (hy : x.byp = false) (hl : s.lock = true) :
    Calls Try.prog 15 #[s.ref, x.val a cap, .bool room] w (RQ w (tv s x room)) := by
  obtain ⟨⟨k1, k2⟩, b1, b2⟩ := ok
  obtain ⟨n1, n2⟩ := hnx
  have HD := Lib.hid hd
  clear hd
  unfold RQ TF.val FS.ref
  have HT : Hid (tv s x room = verS s x room) := if_neg (by rw [hv, hc, hch]; simp)
  have e1 : (s.craft != s.craft) = false := by simp
  have e2 : (s.chan != s.chan) = false := by simp
  have hv2 : 0 ≤ x.seq ∧ x.seq ≤ 255 := by have h := hv; unfold validB at h; simp only [Bool.and_eq_true, decide_eq_true_eq] at h; omega
  have hlen : x.dat.length ≤ 1017 := by have h := hv; unfold validB at h; simp only [Bool.and_eq_true, decide_eq_true_eq] at h; omega
  have HQ : Hid (tv s x room = seqS s x.seq room) := HT.out.trans (by unfold verS; rw [if_neg (by rw [hk]; simp), if_neg (by rw [hy]; simp)])
  have hdd : distC s.next x.seq = (x.seq - s.next) % 256 := by unfold distC; rw [if_pos (by simp [cntB]; omega)]
  have hadd : addC x.seq 1 = (x.seq + 1) % 256 := by unfold addC; rw [if_pos (by simp [cntB]; omega)]
  have HF : Hid (tv s x room = (s, 4)) := HQ.out.trans (if_pos hl)
  have Z_hv := Lib.hid hv
  have Z_hc := Lib.hid hc
  have Z_hch := Lib.hid hch
  have Z_hk := Lib.hid hk
  have Z_hy := Lib.hid hy
  have Z_hl := Lib.hid hl
  clear hv hc hch hk hy hl
  go_enter Try.func15, Try.ntmps15
  go_wp2_with fail
  have hvv := rvalid_any x a cap ((((w.alloc (.cells #[.int .i64 s.craft, .int .i64 s.win, .int .i64 s.chan, .bool s.lock, .bool s.wait, .bool s.retr, .int .i64 s.byp, .int .i64 s.next] 44)).alloc (.cells #[.bool x.byp, .bool x.ctl, .int .i64 x.craft, .int .i64 x.chan, .int .i64 x.seq, .slice a x.dat.length cap] 31)).alloc (.cells #[.int .i64 0, .int .i64 0, .int .i64 0, .bool false, .bool false, .bool false, .int .i64 0, .int .i64 0] 44)))
  unfold TF.val at hvv
  refine hvv.mono ?_
  rintro e w2 ⟨rfl, hw2⟩
  clear hvv
  have hB : Below ((((w.alloc (.cells #[.int .i64 s.craft, .int .i64 s.win, .int .i64 s.chan, .bool s.lock, .bool s.wait, .bool s.retr, .int .i64 s.byp, .int .i64 s.next] 44)).alloc (.cells #[.bool x.byp, .bool x.ctl, .int .i64 x.craft, .int .i64 x.chan, .int .i64 x.seq, .slice a x.dat.length cap] 31)).alloc (.cells #[.int .i64 0, .int .i64 0, .int .i64 0, .bool false, .bool false, .bool false, .int .i64 0, .int .i64 0] 44))).heap.size ((((w.alloc (.cells #[.int .i64 s.craft, .int .i64 s.win, .int .i64 s.chan, .bool s.lock, .bool s.wait, .bool s.retr, .int .i64 s.byp, .int .i64 s.next] 44)).alloc (.cells #[.bool x.byp, .bool x.ctl, .int .i64 x.craft, .int .i64 x.chan, .int .i64 x.seq, .slice a x.dat.length cap] 31)).alloc (.cells #[.int .i64 0, .int .i64 0, .int .i64 0, .bool false, .bool false, .bool false, .int .i64 0, .int .i64 0] 44))) w2 := by rw [hw2]; exact al (Below.refl _ _) _
  have hb0 : Blk w2 w.heap.size 44 [.int .i64 s.craft, .int .i64 s.win, .int .i64 s.chan, .bool s.lock, .bool s.wait, .bool s.retr, .int .i64 s.byp, .int .i64 s.next] := (((Blk.new w 44 _).alloc _).alloc _).below hB (Nat.le_refl _)
  have hb1 : Blk w2 (w.heap.size + 1) 31 [.bool x.byp, .bool x.ctl, .int .i64 x.craft, .int .i64 x.chan, .int .i64 x.seq, .slice a x.dat.length cap] := ((Blk.newAt (by simp)).alloc _).below hB (Nat.le_refl _)
  have hb2 : Blk w2 (w.heap.size + 1 + 1) 44 zero44 := (Blk.newAt (by simp)).below hB (Nat.le_refl _)
  have HB := Lib.hid ((al (al (al (Below.refl _ w) _) _) _).trans (hB.mono (by simp; omega)))
  clear hw2 hB
  have hsz := HB.out.size
  obtain ⟨c0, c1, c2, c3, c4, c5, c6, c7⟩ : w2.cell? ⟨w.heap.size, 0, none⟩ = some (.int .i64 s.craft) ∧ w2.cell? ⟨w.heap.size, 1, none⟩ = some (.int .i64 s.win) ∧ w2.cell? ⟨w.heap.size, 2, none⟩ = some (.int .i64 s.chan) ∧ w2.cell? ⟨w.heap.size, 3, none⟩ = some (.bool s.lock) ∧ w2.cell? ⟨w.heap.size, 4, none⟩ = some (.bool s.wait) ∧ w2.cell? ⟨w.heap.size, 5, none⟩ = some (.bool s.retr) ∧ w2.cell? ⟨w.heap.size, 6, none⟩ = some (.int .i64 s.byp) ∧ w2.cell? ⟨w.heap.size, 7, none⟩ = some (.int .i64 s.next) := ⟨hb0.at 0 rfl, hb0.at 1 rfl, hb0.at 2 rfl, hb0.at 3 rfl, hb0.at 4 rfl, hb0.at 5 rfl, hb0.at 6 rfl, hb0.at 7 rfl⟩
  obtain ⟨d0, d1, d2, d3, d4, d5⟩ : w2.cell? ⟨w.heap.size + 1, 0, none⟩ = some (.bool x.byp) ∧ w2.cell? ⟨w.heap.size + 1, 1, none⟩ = some (.bool x.ctl) ∧ w2.cell? ⟨w.heap.size + 1, 2, none⟩ = some (.int .i64 x.craft) ∧ w2.cell? ⟨w.heap.size + 1, 3, none⟩ = some (.int .i64 x.chan) ∧ w2.cell? ⟨w.heap.size + 1, 4, none⟩ = some (.int .i64 x.seq) ∧ w2.cell? ⟨w.heap.size + 1, 5, none⟩ = some (.slice a x.dat.length cap) := ⟨hb1.at 0 rfl, hb1.at 1 rfl, hb1.at 2 rfl, hb1.at 3 rfl, hb1.at 4 rfl, hb1.at 5 rfl⟩
  obtain ⟨z0, z1, z2, z3, z4, z5, z6, z7⟩ : w2.cell? ⟨w.heap.size + 1 + 1, 0, none⟩ = some (.int .i64 0) ∧ w2.cell? ⟨w.heap.size + 1 + 1, 1, none⟩ = some (.int .i64 0) ∧ w2.cell? ⟨w.heap.size + 1 + 1, 2, none⟩ = some (.int .i64 0) ∧ w2.cell? ⟨w.heap.size + 1 + 1, 3, none⟩ = some (.bool false) ∧ w2.cell? ⟨w.heap.size + 1 + 1, 4, none⟩ = some (.bool false) ∧ w2.cell? ⟨w.heap.size + 1 + 1, 5, none⟩ = some (.bool false) ∧ w2.cell? ⟨w.heap.size + 1 + 1, 6, none⟩ = some (.int .i64 0) ∧ w2.cell? ⟨w.heap.size + 1 + 1, 7, none⟩ = some (.int .i64 0) := ⟨hb2.at 0 rfl, hb2.at 1 rfl, hb2.at 2 rfl, hb2.at 3 rfl, hb2.at 4 rfl, hb2.at 5 rfl, hb2.at 6 rfl, hb2.at 7 rfl⟩
  obtain ⟨y0, y1, y2, y3, y4, y5, y6, y7⟩ : w2.frozen? ⟨w.heap.size + 1 + 1, 0, none⟩ = false ∧ w2.frozen? ⟨w.heap.size + 1 + 1, 1, none⟩ = false ∧ w2.frozen? ⟨w.heap.size + 1 + 1, 2, none⟩ = false ∧ w2.frozen? ⟨w.heap.size + 1 + 1, 3, none⟩ = false ∧ w2.frozen? ⟨w.heap.size + 1 + 1, 4, none⟩ = false ∧ w2.frozen? ⟨w.heap.size + 1 + 1, 5, none⟩ = false ∧ w2.frozen? ⟨w.heap.size + 1 + 1, 6, none⟩ = false ∧ w2.frozen? ⟨w.heap.size + 1 + 1, 7, none⟩ = false := ⟨hb2.free 0, hb2.free 1, hb2.free 2, hb2.free 3, hb2.free 4, hb2.free 5, hb2.free 6, hb2.free 7⟩
  obtain ⟨u3, u4, u5, u6, u7⟩ : w2.frozen? ⟨w.heap.size, 3, none⟩ = false ∧ w2.frozen? ⟨w.heap.size, 4, none⟩ = false ∧ w2.frozen? ⟨w.heap.size, 5, none⟩ = false ∧ w2.frozen? ⟨w.heap.size, 6, none⟩ = false ∧ w2.frozen? ⟨w.heap.size, 7, none⟩ = false := ⟨hb0.free 3, hb0.free 4, hb0.free 5, hb0.free 6, hb0.free 7⟩
  have l0 := hb0.lt
  have l1 := hb1.lt
  have l2 := hb2.lt
  have l3 : w.heap.size < w.heap.size + 1 + 1 := by omega
  have l4 : w.heap.size + 1 ≠ w.heap.size + 1 + 1 := by omega
  have l5 : w.heap.size ≤ w.heap.size + 1 + 1 := by omega
  have HB2 := Lib.hid hb2
  clear hb0 hb1 hb2
  have hv := Z_hv.out
  have hc := Z_hc.out
  have hch := Z_hch.out
  have hk := Z_hk.out
  have hy := Z_hy.out
  have hl := Z_hl.out
  rw [hv]
  rw [hc] at d2
  rw [hch] at d3
  have HC := Lib.hid hc
  have HCH := Lib.hid hch
  have HVV := Lib.hid hv
  clear hc hch hv
  rw [hk] at d1
  rw [hy] at d0
  have HKK := Lib.hid hk
  have HYY := Lib.hid hy
  clear hk hy
  clear hdd hadd
  rw [hl] at c3
  have HL := Lib.hid hl
  clear hl
  go_wp2_with fail
  refine bodyPost_ret (v := .tuple #[FS.ref { s with lock := true }, .int .i64 4]) (by simp [results, Try.results15, go_sem, FS.ref, FS.bypass, *]) rfl ?_
  rw [HF.out]
  exact ⟨by simp only [FS.ref, HL.out], Below.set8 (HB.out) l5 _ _ _ _ _ _ _ _⟩
set_option maxRecDepth 20000 in
set_option maxHeartbeats 4000000 in
theorem rtake_w (s : FS) (x : TF) (room : Bool) (a : Option Addr) (cap : Nat) (w : World) (hd : BAt w a x.dat) (hcap : x.dat.length ≤ cap) (ok : s.ok) (hnx : 0 ≤ s.next ∧ s.next ≤ 255) (hv : validB x = true) (hc : x.craft = s.craft) (hch : x.chan = s.chan) (hk : x.ctl = false) (hy : x.byp = false) (hl : s.lock = false) (hq : x.seq = s.next) (hr : room = false) :
    Calls Try.prog 15 #[s.ref, x.val a cap, .bool room] w (RQ w (tv s x room)) := by
  obtain ⟨⟨k1, k2⟩, b1, b2⟩ := ok
  obtain ⟨n1, n2⟩ := hnx
  have HD := Lib.hid hd
  clear hd
  unfold RQ TF.val FS.ref
  have HT : Hid (tv s x room = verS s x room) := if_neg (by rw [hv, hc, hch]; simp)
  have e1 : (s.craft != s.craft) = false := by simp
  have e2 : (s.chan != s.chan) = false := by simp
  have hv2 : 0 ≤ x.seq ∧ x.seq ≤ 255 := by have h := hv; unfold validB at h; simp only [Bool.and_eq_true, decide_eq_true_eq] at h; omega
  have hlen : x.dat.length ≤ 1017 := by have h := hv; unfold validB at h; simp only [Bool.and_eq_true, decide_eq_true_eq] at h; omega
  have HQ : Hid (tv s x room = seqS s x.seq room) := HT.out.trans (by unfold verS; rw [if_neg (by rw [hk]; simp), if_neg (by rw [hy]; simp)])
  have hdd : distC s.next x.seq = (x.seq - s.next) % 256 := by unfold distC; rw [if_pos (by simp [cntB]; omega)]
  have hadd : addC x.seq 1 = (x.seq + 1) % 256 := by unfold addC; rw [if_pos (by simp [cntB]; omega)]
  have e5 : (s.next == s.next) = true := by simp
  have HF : Hid (tv s x room = ({ s with wait := true, retr := true }, 6)) := HQ.out.trans (by unfold seqS; rw [if_neg (by rw [hl]; simp), if_neg (by rw [hr]; simp), hdd, if_pos (by rw [hq]; simp)])
  have Z_hv := Lib.hid hv
  have Z_hc := Lib.hid hc
  have Z_hch := Lib.hid hch
  have Z_hk := Lib.hid hk
  have Z_hy := Lib.hid hy
  have Z_hl := Lib.hid hl
  have Z_hq := Lib.hid hq
  have Z_hr := Lib.hid hr
  clear hv hc hch hk hy hl hq hr
  go_enter Try.func15, Try.ntmps15
  go_wp2_with fail
  have hvv := rvalid_any x a cap ((((w.alloc (.cells #[.int .i64 s.craft, .int .i64 s.win, .int .i64 s.chan, .bool s.lock, .bool s.wait, .bool s.retr, .int .i64 s.byp, .int .i64 s.next] 44)).alloc (.cells #[.bool x.byp, .bool x.ctl, .int .i64 x.craft, .int .i64 x.chan, .int .i64 x.seq, .slice a x.dat.length cap] 31)).alloc (.cells #[.int .i64 0, .int .i64 0, .int .i64 0, .bool false, .bool false, .bool false, .int .i64 0, .int .i64 0] 44)))
  unfold TF.val at hvv
  refine hvv.mono ?_
  rintro e w2 ⟨rfl, hw2⟩
  clear hvv
  have hB : Below ((((w.alloc (.cells #[.int .i64 s.craft, .int .i64 s.win, .int .i64 s.chan, .bool s.lock, .bool s.wait, .bool s.retr, .int .i64 s.byp, .int .i64 s.next] 44)).alloc (.cells #[.bool x.byp, .bool x.ctl, .int .i64 x.craft, .int .i64 x.chan, .int .i64 x.seq, .slice a x.dat.length cap] 31)).alloc (.cells #[.int .i64 0, .int .i64 0, .int .i64 0, .bool false, .bool false, .bool false, .int .i64 0, .int .i64 0] 44))).heap.size ((((w.alloc (.cells #[.int .i64 s.craft, .int .i64 s.win, .int .i64 s.chan, .bool s.lock, .bool s.wait, .bool s.retr, .int .i64 s.byp, .int .i64 s.next] 44)).alloc (.cells #[.bool x.byp, .bool x.ctl, .int .i64 x.craft, .int .i64 x.chan, .int .i64 x.seq, .slice a x.dat.length cap] 31)).alloc (.cells #[.int .i64 0, .int .i64 0, .int .i64 0, .bool false, .bool false, .bool false, .int .i64 0, .int .i64 0] 44))) w2 := by rw [hw2]; exact al (Below.refl _ _) _
  have hb0 : Blk w2 w.heap.size 44 [.int .i64 s.craft, .int .i64 s.win, .int .i64 s.chan, .bool s.lock, .bool s.wait, .bool s.retr, .int .i64 s.byp, .int .i64 s.next] := (((Blk.new w 44 _).alloc _).alloc _).below hB (Nat.le_refl _)
  have hb1 : Blk w2 (w.heap.size + 1) 31 [.bool x.byp, .bool x.ctl, .int .i64 x.craft, .int .i64 x.chan, .int .i64 x.seq, .slice a x.dat.length cap] := ((Blk.newAt (by simp)).alloc _).below hB (Nat.le_refl _)
  have hb2 : Blk w2 (w.heap.size + 1 + 1) 44 zero44 := (Blk.newAt (by simp)).below hB (Nat.le_refl _)
  have HB := Lib.hid ((al (al (al (Below.refl _ w) _) _) _).trans (hB.mono (by simp; omega)))
  clear hw2 hB
  have hsz := HB.out.size
  obtain ⟨c0, c1, c2, c3, c4, c5, c6, c7⟩ : w2.cell? ⟨w.heap.size, 0, none⟩ = some (.int .i64 s.craft) ∧ w2.cell? ⟨w.heap.size, 1, none⟩ = some (.int .i64 s.win) ∧ w2.cell? ⟨w.heap.size, 2, none⟩ = some (.int .i64 s.chan) ∧ w2.cell? ⟨w.heap.size, 3, none⟩ = some (.bool s.lock) ∧ w2.cell? ⟨w.heap.size, 4, none⟩ = some (.bool s.wait) ∧ w2.cell? ⟨w.heap.size, 5, none⟩ = some (.bool s.retr) ∧ w2.cell? ⟨w.heap.size, 6, none⟩ = some (.int .i64 s.byp) ∧ w2.cell? ⟨w.heap.size, 7, none⟩ = some (.int .i64 s.next) := ⟨hb0.at 0 rfl, hb0.at 1 rfl, hb0.at 2 rfl, hb0.at 3 rfl, hb0.at 4 rfl, hb0.at 5 rfl, hb0.at 6 rfl, hb0.at 7 rfl⟩
  obtain ⟨d0, d1, d2, d3, d4, d5⟩ : w2.cell? ⟨w.heap.size + 1, 0, none⟩ = some (.bool x.byp) ∧ w2.cell? ⟨w.heap.size + 1, 1, none⟩ = some (.bool x.ctl) ∧ w2.cell? ⟨w.heap.size + 1, 2, none⟩ = some (.int .i64 x.craft) ∧ w2.cell? ⟨w.heap.size + 1, 3, none⟩ = some (.int .i64 x.chan) ∧ w2.cell? ⟨w.heap.size + 1, 4, none⟩ = some (.int .i64 x.seq) ∧ w2.cell? ⟨w.heap.size + 1, 5, none⟩ = some (.slice a x.dat.length cap) := ⟨hb1.at 0 rfl, hb1.at 1 rfl, hb1.at 2 rfl, hb1.at 3 rfl, hb1.at 4 rfl, hb1.at 5 rfl⟩
  obtain ⟨z0, z1, z2, z3, z4, z5, z6, z7⟩ : w2.cell? ⟨w.heap.size + 1 + 1, 0, none⟩ = some (.int .i64 0) ∧ w2.cell? ⟨w.heap.size + 1 + 1, 1, none⟩ = some (.int .i64 0) ∧ w2.cell? ⟨w.heap.size + 1 + 1, 2, none⟩ = some (.int .i64 0) ∧ w2.cell? ⟨w.heap.size + 1 + 1, 3, none⟩ = some (.bool false) ∧ w2.cell? ⟨w.heap.size + 1 + 1, 4, none⟩ = some (.bool false) ∧ w2.cell? ⟨w.heap.size + 1 + 1, 5, none⟩ = some (.bool false) ∧ w2.cell? ⟨w.heap.size + 1 + 1, 6, none⟩ = some (.int .i64 0) ∧ w2.cell? ⟨w.heap.size + 1 + 1, 7, none⟩ = some (.int .i64 0) := ⟨hb2.at 0 rfl, hb2.at 1 rfl, hb2.at 2 rfl, hb2.at 3 rfl, hb2.at 4 rfl, hb2.at 5 rfl, hb2.at 6 rfl, hb2.at 7 rfl⟩
  obtain ⟨y0, y1, y2, y3, y4, y5, y6, y7⟩ : w2.frozen? ⟨w.heap.size + 1 + 1, 0, none⟩ = false ∧ w2.frozen? ⟨w.heap.size + 1 + 1, 1, none⟩ = false ∧ w2.frozen? ⟨w.heap.size + 1 + 1, 2, none⟩ = false ∧ w2.frozen? ⟨w.heap.size + 1 + 1, 3, none⟩ = false ∧ w2.frozen? ⟨w.heap.size + 1 + 1, 4, none⟩ = false ∧ w2.frozen? ⟨w.heap.size + 1 + 1, 5, none⟩ = false ∧ w2.frozen? ⟨w.heap.size + 1 + 1, 6, none⟩ = false ∧ w2.frozen? ⟨w.heap.size + 1 + 1, 7, none⟩ = false := ⟨hb2.free 0, hb2.free 1, hb2.free 2, hb2.free 3, hb2.free 4, hb2.free 5, hb2.free 6, hb2.free 7⟩
  obtain ⟨u3, u4, u5, u6, u7⟩ : w2.frozen? ⟨w.heap.size, 3, none⟩ = false ∧ w2.frozen? ⟨w.heap.size, 4, none⟩ = false ∧ w2.frozen? ⟨w.heap.size, 5, none⟩ = false ∧ w2.frozen? ⟨w.heap.size, 6, none⟩ = false ∧ w2.frozen? ⟨w.heap.size, 7, none⟩ = false := ⟨hb0.free 3, hb0.free 4, hb0.free 5, hb0.free 6, hb0.free 7⟩
  have l0 := hb0.lt
  have l1 := hb1.lt
  have l2 := hb2.lt
  have l3 : w.heap.size < w.heap.size + 1 + 1 := by omega
  have l4 : w.heap.size + 1 ≠ w.heap.size + 1 + 1 := by omega
  have l5 : w.heap.size ≤ w.heap.size + 1 + 1 := by omega
  have HB2 := Lib.hid hb2
  clear hb0 hb1 hb2
  have hv := Z_hv.out
  have hc := Z_hc.out
  have hch := Z_hch.out
  have hk := Z_hk.out
  have hy := Z_hy.out
  have hl := Z_hl.out
  have hq := Z_hq.out
  have hr := Z_hr.out
  rw [hv]
  rw [hc] at d2
  rw [hch] at d3
  have HC := Lib.hid hc
  have HCH := Lib.hid hch
  have HVV := Lib.hid hv
  clear hc hch hv
  rw [hk] at d1
  rw [hy] at d0
  have HKK := Lib.hid hk
  have HYY := Lib.hid hy
  clear hk hy
  clear hdd hadd
  rw [hl] at c3
  have HL := Lib.hid hl
  clear hl
  rw [hq] at d4
  have HQQ := Lib.hid hq
  have HRR := Lib.hid hr
  clear hq
  subst hr
  go_wp2_with fail
  refine bodyPost_ret (v := .tuple #[FS.ref { s with lock := false, wait := true, retr := true }, .int .i64 6]) (by simp [results, Try.results15, go_sem, FS.ref, FS.bypass, *]) rfl ?_
  rw [HF.out]
  exact ⟨by simp only [FS.ref, HL.out], Below.set8 (((HB.out.setCell (p := ⟨_, _, none⟩) (Nat.le_refl _) _).setCell (p := ⟨_, _, none⟩) (Nat.le_refl _) _)) l5 _ _ _ _ _ _ _ _⟩
set_option maxRecDepth 20000 in
set_option maxHeartbeats 4000000 in
theorem rtake_d (s : FS) (x : TF) (room : Bool) (a : Option Addr) (cap : Nat) (w : World) (hd : BAt w a x.dat) (hcap : x.dat.length ≤ cap) (ok : s.ok) (hnx : 0 ≤ s.next ∧ s.next ≤ 255) (hv : validB x = true) (hc : x.craft = s.craft) (hch : x.chan = s.chan) (hk : x.ctl = false) (hy : x.byp = false) (hl : s.lock = false) (hq : x.seq = s.next) (hr : room = true) :
    Calls Try.prog 15 #[s.ref, x.val a cap, .bool room] w (RQ w (tv s x room)) := by
  obtain ⟨⟨k1, k2⟩, b1, b2⟩ := ok
  obtain ⟨n1, n2⟩ := hnx
  have HD := Lib.hid hd
  clear hd
  unfold RQ TF.val FS.ref
  have HT : Hid (tv s x room = verS s x room) := if_neg (by rw [hv, hc, hch]; simp)
  have e1 : (s.craft != s.craft) = false := by simp
  have e2 : (s.chan != s.chan) = false := by simp
  have hv2 : 0 ≤ x.seq ∧ x.seq ≤ 255 := by have h := hv; unfold validB at h; simp only [Bool.and_eq_true, decide_eq_true_eq] at h; omega
  have hlen : x.dat.length ≤ 1017 := by have h := hv; unfold validB at h; simp only [Bool.and_eq_true, decide_eq_true_eq] at h; omega
  have HQ : Hid (tv s x room = seqS s x.seq room) := HT.out.trans (by unfold verS; rw [if_neg (by rw [hk]; simp), if_neg (by rw [hy]; simp)])
  have hdd : distC s.next x.seq = (x.seq - s.next) % 256 := by unfold distC; rw [if_pos (by simp [cntB]; omega)]
  have hadd : addC x.seq 1 = (x.seq + 1) % 256 := by unfold addC; rw [if_pos (by simp [cntB]; omega)]
  have e5 : (s.next == s.next) = true := by simp
  have HF : Hid (tv s x room = ({ s with next := (s.next + 1) % 256, wait := false, retr := false }, 1)) := HQ.out.trans (by unfold seqS; rw [if_neg (by rw [hl]; simp), hdd, if_pos ⟨by rw [hq]; simp, hr⟩, hadd, hq])
  have Z_hv := Lib.hid hv
  have Z_hc := Lib.hid hc
  have Z_hch := Lib.hid hch
  have Z_hk := Lib.hid hk
  have Z_hy := Lib.hid hy
  have Z_hl := Lib.hid hl
  have Z_hq := Lib.hid hq
  have Z_hr := Lib.hid hr
  clear hv hc hch hk hy hl hq hr
  go_enter Try.func15, Try.ntmps15
  go_wp2_with fail
  have hvv := rvalid_any x a cap ((((w.alloc (.cells #[.int .i64 s.craft, .int .i64 s.win, .int .i64 s.chan, .bool s.lock, .bool s.wait, .bool s.retr, .int .i64 s.byp, .int .i64 s.next] 44)).alloc (.cells #[.bool x.byp, .bool x.ctl, .int .i64 x.craft, .int .i64 x.chan, .int .i64 x.seq, .slice a x.dat.length cap] 31)).alloc (.cells #[.int .i64 0, .int .i64 0, .int .i64 0, .bool false, .bool false, .bool false, .int .i64 0, .int .i64 0] 44)))
  unfold TF.val at hvv
  refine hvv.mono ?_
  rintro e w2 ⟨rfl, hw2⟩
  clear hvv
  have hB : Below ((((w.alloc (.cells #[.int .i64 s.craft, .int .i64 s.win, .int .i64 s.chan, .bool s.lock, .bool s.wait, .bool s.retr, .int .i64 s.byp, .int .i64 s.next] 44)).alloc (.cells #[.bool x.byp, .bool x.ctl, .int .i64 x.craft, .int .i64 x.chan, .int .i64 x.seq, .slice a x.dat.length cap] 31)).alloc (.cells #[.int .i64 0, .int .i64 0, .int .i64 0, .bool false, .bool false, .bool false, .int .i64 0, .int .i64 0] 44))).heap.size ((((w.alloc (.cells #[.int .i64 s.craft, .int .i64 s.win, .int .i64 s.chan, .bool s.lock, .bool s.wait, .bool s.retr, .int .i64 s.byp, .int .i64 s.next] 44)).alloc (.cells #[.bool x.byp, .bool x.ctl, .int .i64 x.craft, .int .i64 x.chan, .int .i64 x.seq, .slice a x.dat.length cap] 31)).alloc (.cells #[.int .i64 0, .int .i64 0, .int .i64 0, .bool false, .bool false, .bool false, .int .i64 0, .int .i64 0] 44))) w2 := by rw [hw2]; exact al (Below.refl _ _) _
  have hb0 : Blk w2 w.heap.size 44 [.int .i64 s.craft, .int .i64 s.win, .int .i64 s.chan, .bool s.lock, .bool s.wait, .bool s.retr, .int .i64 s.byp, .int .i64 s.next] := (((Blk.new w 44 _).alloc _).alloc _).below hB (Nat.le_refl _)
  have hb1 : Blk w2 (w.heap.size + 1) 31 [.bool x.byp, .bool x.ctl, .int .i64 x.craft, .int .i64 x.chan, .int .i64 x.seq, .slice a x.dat.length cap] := ((Blk.newAt (by simp)).alloc _).below hB (Nat.le_refl _)
  have hb2 : Blk w2 (w.heap.size + 1 + 1) 44 zero44 := (Blk.newAt (by simp)).below hB (Nat.le_refl _)
  have HB := Lib.hid ((al (al (al (Below.refl _ w) _) _) _).trans (hB.mono (by simp; omega)))
  clear hw2 hB
  have hsz := HB.out.size
  obtain ⟨c0, c1, c2, c3, c4, c5, c6, c7⟩ : w2.cell? ⟨w.heap.size, 0, none⟩ = some (.int .i64 s.craft) ∧ w2.cell? ⟨w.heap.size, 1, none⟩ = some (.int .i64 s.win) ∧ w2.cell? ⟨w.heap.size, 2, none⟩ = some (.int .i64 s.chan) ∧ w2.cell? ⟨w.heap.size, 3, none⟩ = some (.bool s.lock) ∧ w2.cell? ⟨w.heap.size, 4, none⟩ = some (.bool s.wait) ∧ w2.cell? ⟨w.heap.size, 5, none⟩ = some (.bool s.retr) ∧ w2.cell? ⟨w.heap.size, 6, none⟩ = some (.int .i64 s.byp) ∧ w2.cell? ⟨w.heap.size, 7, none⟩ = some (.int .i64 s.next) := ⟨hb0.at 0 rfl, hb0.at 1 rfl, hb0.at 2 rfl, hb0.at 3 rfl, hb0.at 4 rfl, hb0.at 5 rfl, hb0.at 6 rfl, hb0.at 7 rfl⟩
  obtain ⟨d0, d1, d2, d3, d4, d5⟩ : w2.cell? ⟨w.heap.size + 1, 0, none⟩ = some (.bool x.byp) ∧ w2.cell? ⟨w.heap.size + 1, 1, none⟩ = some (.bool x.ctl) ∧ w2.cell? ⟨w.heap.size + 1, 2, none⟩ = some (.int .i64 x.craft) ∧ w2.cell? ⟨w.heap.size + 1, 3, none⟩ = some (.int .i64 x.chan) ∧ w2.cell? ⟨w.heap.size + 1, 4, none⟩ = some (.int .i64 x.seq) ∧ w2.cell? ⟨w.heap.size + 1, 5, none⟩ = some (.slice a x.dat.length cap) := ⟨hb1.at 0 rfl, hb1.at 1 rfl, hb1.at 2 rfl, hb1.at 3 rfl, hb1.at 4 rfl, hb1.at 5 rfl⟩
  obtain ⟨z0, z1, z2, z3, z4, z5, z6, z7⟩ : w2.cell? ⟨w.heap.size + 1 + 1, 0, none⟩ = some (.int .i64 0) ∧ w2.cell? ⟨w.heap.size + 1 + 1, 1, none⟩ = some (.int .i64 0) ∧ w2.cell? ⟨w.heap.size + 1 + 1, 2, none⟩ = some (.int .i64 0) ∧ w2.cell? ⟨w.heap.size + 1 + 1, 3, none⟩ = some (.bool false) ∧ w2.cell? ⟨w.heap.size + 1 + 1, 4, none⟩ = some (.bool false) ∧ w2.cell? ⟨w.heap.size + 1 + 1, 5, none⟩ = some (.bool false) ∧ w2.cell? ⟨w.heap.size + 1 + 1, 6, none⟩ = some (.int .i64 0) ∧ w2.cell? ⟨w.heap.size + 1 + 1, 7, none⟩ = some (.int .i64 0) := ⟨hb2.at 0 rfl, hb2.at 1 rfl, hb2.at 2 rfl, hb2.at 3 rfl, hb2.at 4 rfl, hb2.at 5 rfl, hb2.at 6 rfl, hb2.at 7 rfl⟩
  obtain ⟨y0, y1, y2, y3, y4, y5, y6, y7⟩ : w2.frozen? ⟨w.heap.size + 1 + 1, 0, none⟩ = false ∧ w2.frozen? ⟨w.heap.size + 1 + 1, 1, none⟩ = false ∧ w2.frozen? ⟨w.heap.size + 1 + 1, 2, none⟩ = false ∧ w2.frozen? ⟨w.heap.size + 1 + 1, 3, none⟩ = false ∧ w2.frozen? ⟨w.heap.size + 1 + 1, 4, none⟩ = false ∧ w2.frozen? ⟨w.heap.size + 1 + 1, 5, none⟩ = false ∧ w2.frozen? ⟨w.heap.size + 1 + 1, 6, none⟩ = false ∧ w2.frozen? ⟨w.heap.size + 1 + 1, 7, none⟩ = false := ⟨hb2.free 0, hb2.free 1, hb2.free 2, hb2.free 3, hb2.free 4, hb2.free 5, hb2.free 6, hb2.free 7⟩
  obtain ⟨u3, u4, u5, u6, u7⟩ : w2.frozen? ⟨w.heap.size, 3, none⟩ = false ∧ w2.frozen? ⟨w.heap.size, 4, none⟩ = false ∧ w2.frozen? ⟨w.heap.size, 5, none⟩ = false ∧ w2.frozen? ⟨w.heap.size, 6, none⟩ = false ∧ w2.frozen? ⟨w.heap.size, 7, none⟩ = false := ⟨hb0.free 3, hb0.free 4, hb0.free 5, hb0.free 6, hb0.free 7⟩
  have l0 := hb0.lt
  have l1 := hb1.lt
  have l2 := hb2.lt
  have l3 : w.heap.size < w.heap.size + 1 + 1 := by omega
  have l4 : w.heap.size + 1 ≠ w.heap.size + 1 + 1 := by omega
  have l5 : w.heap.size ≤ w.heap.size + 1 + 1 := by omega
  have HB2 := Lib.hid hb2
  clear hb0 hb1 hb2
  have hv := Z_hv.out
  have hc := Z_hc.out
  have hch := Z_hch.out
  have hk := Z_hk.out
  have hy := Z_hy.out
  have hl := Z_hl.out
  have hq := Z_hq.out
  have hr := Z_hr.out
  rw [hv]
  rw [hc] at d2
  rw [hch] at d3
  have HC := Lib.hid hc
  have HCH := Lib.hid hch
  have HVV := Lib.hid hv
  clear hc hch hv
  rw [hk] at d1
  rw [hy] at d0
  have HKK := Lib.hid hk
  have HYY := Lib.hid hy
  clear hk hy
  clear hdd hadd
  rw [hl] at c3
  have HL := Lib.hid hl
  clear hl
  rw [hq] at d4
  have HQQ := Lib.hid hq
  clear hq
  subst hr
  go_wp2_with fail
  refine bodyPost_ret (v := .tuple #[FS.ref { s with lock := false, next := (s.next + 1) % 256, wait := false, retr := false }, .int .i64 1]) (by simp [results, Try.results15, go_sem, FS.ref, FS.bypass, *]) rfl ?_
  rw [HF.out]
  exact ⟨by simp only [FS.ref, HL.out], Below.set8 ((((HB.out.setCell (p := ⟨_, _, none⟩) (Nat.le_refl _) _).setCell (p := ⟨_, _, none⟩) (Nat.le_refl _) _).setCell (p := ⟨_, _, none⟩) (Nat.le_refl _) _)) l5 _ _ _ _ _ _ _ _⟩
set_option maxRecDepth 20000 in
set_option maxHeartbeats 4000000 in
theorem rtake_g (s : FS) (x : TF) (room : Bool) (a : Option Addr) (cap : Nat) (w : World) (hd : BAt w a x.dat) (hcap : x.dat.length ≤ cap) (ok : s.ok) (hnx : 0 ≤ s.next ∧ s.next ≤ 255) (hv : validB x = true) (hc : x.craft = s.craft) (hch : x.chan = s.chan) (hk : x.ctl = false) (hy : x.byp = false) (hl : s.lock = false) (hq : x.seq ≠ s.next) (hg : distC s.next x.seq < s.win) :
    Calls Try.prog 15 #[s.ref, x.val a cap, .bool room] w (RQ w (tv s x room)) := by
  obtain ⟨⟨k1, k2⟩, b1, b2⟩ := ok
  obtain ⟨n1, n2⟩ := hnx
  have HD := Lib.hid hd
  clear hd
  unfold RQ TF.val FS.ref
  have HT : Hid (tv s x room = verS s x room) := if_neg (by rw [hv, hc, hch]; simp)
  have e1 : (s.craft != s.craft) = false := by simp
  have e2 : (s.chan != s.chan) = false := by simp
  have hv2 : 0 ≤ x.seq ∧ x.seq ≤ 255 := by have h := hv; unfold validB at h; simp only [Bool.and_eq_true, decide_eq_true_eq] at h; omega
  have hlen : x.dat.length ≤ 1017 := by have h := hv; unfold validB at h; simp only [Bool.and_eq_true, decide_eq_true_eq] at h; omega
  have HQ : Hid (tv s x room = seqS s x.seq room) := HT.out.trans (by unfold verS; rw [if_neg (by rw [hk]; simp), if_neg (by rw [hy]; simp)])
  have hdd : distC s.next x.seq = (x.seq - s.next) % 256 := by unfold distC; rw [if_pos (by simp [cntB]; omega)]
  have hadd : addC x.seq 1 = (x.seq + 1) % 256 := by unfold addC; rw [if_pos (by simp [cntB]; omega)]
  have e5 : (x.seq == s.next) = false := by rw [beq_eq_false_iff_ne]; exact hq
  have hd0 : distC s.next x.seq ≠ 0 := by rw [hdd]; omega
  have hw1 : withC x.seq ((s.next + 1) % 256) (s.win - 1) = true := by
    have e : distC ((s.next + 1) % 256) x.seq = (x.seq - (s.next + 1) % 256) % 256 := by unfold distC; rw [if_pos (by simp [cntB]; omega)]
    unfold withC
    rw [e]
    simp [cntB]
    omega
  have HW1 := Lib.hid hw1
  have HF : Hid (tv s x room = ({ s with retr := true }, 3)) := HQ.out.trans (by unfold seqS; rw [if_neg (by rw [hl]; simp), if_neg (fun h => hd0 h.1), if_neg hd0, if_pos hg])
  clear hw1
  have Z_hv := Lib.hid hv
  have Z_hc := Lib.hid hc
  have Z_hch := Lib.hid hch
  have Z_hk := Lib.hid hk
  have Z_hy := Lib.hid hy
  have Z_hl := Lib.hid hl
  have Z_hq := Lib.hid hq
  have Z_hg := Lib.hid hg
  clear hv hc hch hk hy hl hq hg
  go_enter Try.func15, Try.ntmps15
  go_wp2_with fail
  have hvv := rvalid_any x a cap ((((w.alloc (.cells #[.int .i64 s.craft, .int .i64 s.win, .int .i64 s.chan, .bool s.lock, .bool s.wait, .bool s.retr, .int .i64 s.byp, .int .i64 s.next] 44)).alloc (.cells #[.bool x.byp, .bool x.ctl, .int .i64 x.craft, .int .i64 x.chan, .int .i64 x.seq, .slice a x.dat.length cap] 31)).alloc (.cells #[.int .i64 0, .int .i64 0, .int .i64 0, .bool false, .bool false, .bool false, .int .i64 0, .int .i64 0] 44)))
  unfold TF.val at hvv
  refine hvv.mono ?_
  rintro e w2 ⟨rfl, hw2⟩
  clear hvv
  have hB : Below ((((w.alloc (.cells #[.int .i64 s.craft, .int .i64 s.win, .int .i64 s.chan, .bool s.lock, .bool s.wait, .bool s.retr, .int .i64 s.byp, .int .i64 s.next] 44)).alloc (.cells #[.bool x.byp, .bool x.ctl, .int .i64 x.craft, .int .i64 x.chan, .int .i64 x.seq, .slice a x.dat.length cap] 31)).alloc (.cells #[.int .i64 0, .int .i64 0, .int .i64 0, .bool false, .bool false, .bool false, .int .i64 0, .int .i64 0] 44))).heap.size ((((w.alloc (.cells #[.int .i64 s.craft, .int .i64 s.win, .int .i64 s.chan, .bool s.lock, .bool s.wait, .bool s.retr, .int .i64 s.byp, .int .i64 s.next] 44)).alloc (.cells #[.bool x.byp, .bool x.ctl, .int .i64 x.craft, .int .i64 x.chan, .int .i64 x.seq, .slice a x.dat.length cap] 31)).alloc (.cells #[.int .i64 0, .int .i64 0, .int .i64 0, .bool false, .bool false, .bool false, .int .i64 0, .int .i64 0] 44))) w2 := by rw [hw2]; exact al (Below.refl _ _) _
  have hb0 : Blk w2 w.heap.size 44 [.int .i64 s.craft, .int .i64 s.win, .int .i64 s.chan, .bool s.lock, .bool s.wait, .bool s.retr, .int .i64 s.byp, .int .i64 s.next] := (((Blk.new w 44 _).alloc _).alloc _).below hB (Nat.le_refl _)
  have hb1 : Blk w2 (w.heap.size + 1) 31 [.bool x.byp, .bool x.ctl, .int .i64 x.craft, .int .i64 x.chan, .int .i64 x.seq, .slice a x.dat.length cap] := ((Blk.newAt (by simp)).alloc _).below hB (Nat.le_refl _)
  have hb2 : Blk w2 (w.heap.size + 1 + 1) 44 zero44 := (Blk.newAt (by simp)).below hB (Nat.le_refl _)
  have HB := Lib.hid ((al (al (al (Below.refl _ w) _) _) _).trans (hB.mono (by simp; omega)))
  clear hw2 hB
  have hsz := HB.out.size
  obtain ⟨c0, c1, c2, c3, c4, c5, c6, c7⟩ : w2.cell? ⟨w.heap.size, 0, none⟩ = some (.int .i64 s.craft) ∧ w2.cell? ⟨w.heap.size, 1, none⟩ = some (.int .i64 s.win) ∧ w2.cell? ⟨w.heap.size, 2, none⟩ = some (.int .i64 s.chan) ∧ w2.cell? ⟨w.heap.size, 3, none⟩ = some (.bool s.lock) ∧ w2.cell? ⟨w.heap.size, 4, none⟩ = some (.bool s.wait) ∧ w2.cell? ⟨w.heap.size, 5, none⟩ = some (.bool s.retr) ∧ w2.cell? ⟨w.heap.size, 6, none⟩ = some (.int .i64 s.byp) ∧ w2.cell? ⟨w.heap.size, 7, none⟩ = some (.int .i64 s.next) := ⟨hb0.at 0 rfl, hb0.at 1 rfl, hb0.at 2 rfl, hb0.at 3 rfl, hb0.at 4 rfl, hb0.at 5 rfl, hb0.at 6 rfl, hb0.at 7 rfl⟩
  obtain ⟨d0, d1, d2, d3, d4, d5⟩ : w2.cell? ⟨w.heap.size + 1, 0, none⟩ = some (.bool x.byp) ∧ w2.cell? ⟨w.heap.size + 1, 1, none⟩ = some (.bool x.ctl) ∧ w2.cell? ⟨w.heap.size + 1, 2, none⟩ = some (.int .i64 x.craft) ∧ w2.cell? ⟨w.heap.size + 1, 3, none⟩ = some (.int .i64 x.chan) ∧ w2.cell? ⟨w.heap.size + 1, 4, none⟩ = some (.int .i64 x.seq) ∧ w2.cell? ⟨w.heap.size + 1, 5, none⟩ = some (.slice a x.dat.length cap) := ⟨hb1.at 0 rfl, hb1.at 1 rfl, hb1.at 2 rfl, hb1.at 3 rfl, hb1.at 4 rfl, hb1.at 5 rfl⟩
  obtain ⟨z0, z1, z2, z3, z4, z5, z6, z7⟩ : w2.cell? ⟨w.heap.size + 1 + 1, 0, none⟩ = some (.int .i64 0) ∧ w2.cell? ⟨w.heap.size + 1 + 1, 1, none⟩ = some (.int .i64 0) ∧ w2.cell? ⟨w.heap.size + 1 + 1, 2, none⟩ = some (.int .i64 0) ∧ w2.cell? ⟨w.heap.size + 1 + 1, 3, none⟩ = some (.bool false) ∧ w2.cell? ⟨w.heap.size + 1 + 1, 4, none⟩ = some (.bool false) ∧ w2.cell? ⟨w.heap.size + 1 + 1, 5, none⟩ = some (.bool false) ∧ w2.cell? ⟨w.heap.size + 1 + 1, 6, none⟩ = some (.int .i64 0) ∧ w2.cell? ⟨w.heap.size + 1 + 1, 7, none⟩ = some (.int .i64 0) := ⟨hb2.at 0 rfl, hb2.at 1 rfl, hb2.at 2 rfl, hb2.at 3 rfl, hb2.at 4 rfl, hb2.at 5 rfl, hb2.at 6 rfl, hb2.at 7 rfl⟩
  obtain ⟨y0, y1, y2, y3, y4, y5, y6, y7⟩ : w2.frozen? ⟨w.heap.size + 1 + 1, 0, none⟩ = false ∧ w2.frozen? ⟨w.heap.size + 1 + 1, 1, none⟩ = false ∧ w2.frozen? ⟨w.heap.size + 1 + 1, 2, none⟩ = false ∧ w2.frozen? ⟨w.heap.size + 1 + 1, 3, none⟩ = false ∧ w2.frozen? ⟨w.heap.size + 1 + 1, 4, none⟩ = false ∧ w2.frozen? ⟨w.heap.size + 1 + 1, 5, none⟩ = false ∧ w2.frozen? ⟨w.heap.size + 1 + 1, 6, none⟩ = false ∧ w2.frozen? ⟨w.heap.size + 1 + 1, 7, none⟩ = false := ⟨hb2.free 0, hb2.free 1, hb2.free 2, hb2.free 3, hb2.free 4, hb2.free 5, hb2.free 6, hb2.free 7⟩
  obtain ⟨u3, u4, u5, u6, u7⟩ : w2.frozen? ⟨w.heap.size, 3, none⟩ = false ∧ w2.frozen? ⟨w.heap.size, 4, none⟩ = false ∧ w2.frozen? ⟨w.heap.size, 5, none⟩ = false ∧ w2.frozen? ⟨w.heap.size, 6, none⟩ = false ∧ w2.frozen? ⟨w.heap.size, 7, none⟩ = false := ⟨hb0.free 3, hb0.free 4, hb0.free 5, hb0.free 6, hb0.free 7⟩
  have l0 := hb0.lt
  have l1 := hb1.lt
  have l2 := hb2.lt
  have l3 : w.heap.size < w.heap.size + 1 + 1 := by omega
  have l4 : w.heap.size + 1 ≠ w.heap.size + 1 + 1 := by omega
  have l5 : w.heap.size ≤ w.heap.size + 1 + 1 := by omega
  have HB2 := Lib.hid hb2
  clear hb0 hb1 hb2
  have hv := Z_hv.out
  have hc := Z_hc.out
  have hch := Z_hch.out
  have hk := Z_hk.out
  have hy := Z_hy.out
  have hl := Z_hl.out
  have hq := Z_hq.out
  have hg := Z_hg.out
  rw [hv]
  rw [hc] at d2
  rw [hch] at d3
  have HC := Lib.hid hc
  have HCH := Lib.hid hch
  have HVV := Lib.hid hv
  clear hc hch hv
  rw [hk] at d1
  rw [hy] at d0
  have HKK := Lib.hid hk
  have HYY := Lib.hid hy
  clear hk hy
  clear hdd hadd hd0 hg
  rw [hl] at c3
  have HL := Lib.hid hl
  clear hl
  have HQQ := Lib.hid hq
  clear hq
  go_wp2_with fail
  refine (rwithin_any x.seq ((s.next + 1) % 256) (s.win - 1) _).mono ?_
  rintro e w3 ⟨rfl, rfl⟩
  rw [HW1.out]
  go_wp2_with fail
  refine bodyPost_ret (v := .tuple #[FS.ref { s with lock := false, retr := true }, .int .i64 3]) (by simp [results, Try.results15, go_sem, FS.ref, FS.bypass, *]) rfl ?_
  rw [HF.out]
  exact ⟨by simp only [FS.ref, HL.out], Below.set8 ((HB.out.setCell (p := ⟨_, _, none⟩) (Nat.le_refl _) _)) l5 _ _ _ _ _ _ _ _⟩
set_option maxRecDepth 20000 in
set_option maxHeartbeats 4000000 in
theorem rtake_r (s : FS) (x : TF) (room : Bool) (a : Option Addr) (cap : Nat) (w : World) (hd : BAt w a x.dat) (hcap : x.dat.length ≤ cap) (ok : s.ok) (hnx : 0 ≤ s.next ∧ s.next ≤ 255) (hv : validB x = true) (hc : x.craft = s.craft) (hch : x.chan = s.chan) (hk : x.ctl = false) (hy : x.byp = false) (hl : s.lock = false) (hq : x.seq ≠ s.next) (hg : ¬ distC s.next x.seq < s.win) (hg2 : 256 - s.win ≤ distC s.next x.seq) :
    Calls Try.prog 15 #[s.ref, x.val a cap, .bool room] w (RQ w (tv s x room)) := by
  obtain ⟨⟨k1, k2⟩, b1, b2⟩ := ok
  obtain ⟨n1, n2⟩ := hnx
  have HD := Lib.hid hd
  clear hd
  unfold RQ TF.val FS.ref
  have HT : Hid (tv s x room = verS s x room) := if_neg (by rw [hv, hc, hch]; simp)
  have e1 : (s.craft != s.craft) = false := by simp
  have e2 : (s.chan != s.chan) = false := by simp
  have hv2 : 0 ≤ x.seq ∧ x.seq ≤ 255 := by have h := hv; unfold validB at h; simp only [Bool.and_eq_true, decide_eq_true_eq] at h; omega
  have hlen : x.dat.length ≤ 1017 := by have h := hv; unfold validB at h; simp only [Bool.and_eq_true, decide_eq_true_eq] at h; omega
  have HQ : Hid (tv s x room = seqS s x.seq room) := HT.out.trans (by unfold verS; rw [if_neg (by rw [hk]; simp), if_neg (by rw [hy]; simp)])
  have hdd : distC s.next x.seq = (x.seq - s.next) % 256 := by unfold distC; rw [if_pos (by simp [cntB]; omega)]
  have hadd : addC x.seq 1 = (x.seq + 1) % 256 := by unfold addC; rw [if_pos (by simp [cntB]; omega)]
  have e5 : (x.seq == s.next) = false := by rw [beq_eq_false_iff_ne]; exact hq
  have hd0 : distC s.next x.seq ≠ 0 := by rw [hdd]; omega
  have hw1 : withC x.seq ((s.next + 1) % 256) (s.win - 1) = false := by
    have e : distC ((s.next + 1) % 256) x.seq = (x.seq - (s.next + 1) % 256) % 256 := by unfold distC; rw [if_pos (by simp [cntB]; omega)]
    unfold withC
    rw [e]
    simp [cntB]
    omega
  have hw2 : withC x.seq ((s.next - s.win) % 256) s.win = true := by
    have e : distC ((s.next - s.win) % 256) x.seq = (x.seq - (s.next - s.win) % 256) % 256 := by unfold distC; rw [if_pos (by simp [cntB]; omega)]
    unfold withC
    rw [e]
    simp [cntB]
    omega
  have HW1 := Lib.hid hw1
  have HW2 := Lib.hid hw2
  have HF : Hid (tv s x room = (s, 2)) := HQ.out.trans (by unfold seqS; rw [if_neg (by rw [hl]; simp), if_neg (fun h => hd0 h.1), if_neg hd0, if_neg hg, if_pos hg2])
  clear hw1 hw2
  have Z_hv := Lib.hid hv
  have Z_hc := Lib.hid hc
  have Z_hch := Lib.hid hch
  have Z_hk := Lib.hid hk
  have Z_hy := Lib.hid hy
  have Z_hl := Lib.hid hl
  have Z_hq := Lib.hid hq
  have Z_hg := Lib.hid hg
  have Z_hg2 := Lib.hid hg2
  clear hv hc hch hk hy hl hq hg hg2
  go_enter Try.func15, Try.ntmps15
  go_wp2_with fail
  have hvv := rvalid_any x a cap ((((w.alloc (.cells #[.int .i64 s.craft, .int .i64 s.win, .int .i64 s.chan, .bool s.lock, .bool s.wait, .bool s.retr, .int .i64 s.byp, .int .i64 s.next] 44)).alloc (.cells #[.bool x.byp, .bool x.ctl, .int .i64 x.craft, .int .i64 x.chan, .int .i64 x.seq, .slice a x.dat.length cap] 31)).alloc (.cells #[.int .i64 0, .int .i64 0, .int .i64 0, .bool false, .bool false, .bool false, .int .i64 0, .int .i64 0] 44)))
  unfold TF.val at hvv
  refine hvv.mono ?_
  rintro e w2 ⟨rfl, hw2⟩
  clear hvv
  have hB : Below ((((w.alloc (.cells #[.int .i64 s.craft, .int .i64 s.win, .int .i64 s.chan, .bool s.lock, .bool s.wait, .bool s.retr, .int .i64 s.byp, .int .i64 s.next] 44)).alloc (.cells #[.bool x.byp, .bool x.ctl, .int .i64 x.craft, .int .i64 x.chan, .int .i64 x.seq, .slice a x.dat.length cap] 31)).alloc (.cells #[.int .i64 0, .int .i64 0, .int .i64 0, .bool false, .bool false, .bool false, .int .i64 0, .int .i64 0] 44))).heap.size ((((w.alloc (.cells #[.int .i64 s.craft, .int .i64 s.win, .int .i64 s.chan, .bool s.lock, .bool s.wait, .bool s.retr, .int .i64 s.byp, .int .i64 s.next] 44)).alloc (.cells #[.bool x.byp, .bool x.ctl, .int .i64 x.craft, .int .i64 x.chan, .int .i64 x.seq, .slice a x.dat.length cap] 31)).alloc (.cells #[.int .i64 0, .int .i64 0, .int .i64 0, .bool false, .bool false, .bool false, .int .i64 0, .int .i64 0] 44))) w2 := by rw [hw2]; exact al (Below.refl _ _) _
  have hb0 : Blk w2 w.heap.size 44 [.int .i64 s.craft, .int .i64 s.win, .int .i64 s.chan, .bool s.lock, .bool s.wait, .bool s.retr, .int .i64 s.byp, .int .i64 s.next] := (((Blk.new w 44 _).alloc _).alloc _).below hB (Nat.le_refl _)
  have hb1 : Blk w2 (w.heap.size + 1) 31 [.bool x.byp, .bool x.ctl, .int .i64 x.craft, .int .i64 x.chan, .int .i64 x.seq, .slice a x.dat.length cap] := ((Blk.newAt (by simp)).alloc _).below hB (Nat.le_refl _)
  have hb2 : Blk w2 (w.heap.size + 1 + 1) 44 zero44 := (Blk.newAt (by simp)).below hB (Nat.le_refl _)
  have HB := Lib.hid ((al (al (al (Below.refl _ w) _) _) _).trans (hB.mono (by simp; omega)))
  clear hw2 hB
  have hsz := HB.out.size
  obtain ⟨c0, c1, c2, c3, c4, c5, c6, c7⟩ : w2.cell? ⟨w.heap.size, 0, none⟩ = some (.int .i64 s.craft) ∧ w2.cell? ⟨w.heap.size, 1, none⟩ = some (.int .i64 s.win) ∧ w2.cell? ⟨w.heap.size, 2, none⟩ = some (.int .i64 s.chan) ∧ w2.cell? ⟨w.heap.size, 3, none⟩ = some (.bool s.lock) ∧ w2.cell? ⟨w.heap.size, 4, none⟩ = some (.bool s.wait) ∧ w2.cell? ⟨w.heap.size, 5, none⟩ = some (.bool s.retr) ∧ w2.cell? ⟨w.heap.size, 6, none⟩ = some (.int .i64 s.byp) ∧ w2.cell? ⟨w.heap.size, 7, none⟩ = some (.int .i64 s.next) := ⟨hb0.at 0 rfl, hb0.at 1 rfl, hb0.at 2 rfl, hb0.at 3 rfl, hb0.at 4 rfl, hb0.at 5 rfl, hb0.at 6 rfl, hb0.at 7 rfl⟩
  obtain ⟨d0, d1, d2, d3, d4, d5⟩ : w2.cell? ⟨w.heap.size + 1, 0, none⟩ = some (.bool x.byp) ∧ w2.cell? ⟨w.heap.size + 1, 1, none⟩ = some (.bool x.ctl) ∧ w2.cell? ⟨w.heap.size + 1, 2, none⟩ = some (.int .i64 x.craft) ∧ w2.cell? ⟨w.heap.size + 1, 3, none⟩ = some (.int .i64 x.chan) ∧ w2.cell? ⟨w.heap.size + 1, 4, none⟩ = some (.int .i64 x.seq) ∧ w2.cell? ⟨w.heap.size + 1, 5, none⟩ = some (.slice a x.dat.length cap) := ⟨hb1.at 0 rfl, hb1.at 1 rfl, hb1.at 2 rfl, hb1.at 3 rfl, hb1.at 4 rfl, hb1.at 5 rfl⟩
  obtain ⟨z0, z1, z2, z3, z4, z5, z6, z7⟩ : w2.cell? ⟨w.heap.size + 1 + 1, 0, none⟩ = some (.int .i64 0) ∧ w2.cell? ⟨w.heap.size + 1 + 1, 1, none⟩ = some (.int .i64 0) ∧ w2.cell? ⟨w.heap.size + 1 + 1, 2, none⟩ = some (.int .i64 0) ∧ w2.cell? ⟨w.heap.size + 1 + 1, 3, none⟩ = some (.bool false) ∧ w2.cell? ⟨w.heap.size + 1 + 1, 4, none⟩ = some (.bool false) ∧ w2.cell? ⟨w.heap.size + 1 + 1, 5, none⟩ = some (.bool false) ∧ w2.cell? ⟨w.heap.size + 1 + 1, 6, none⟩ = some (.int .i64 0) ∧ w2.cell? ⟨w.heap.size + 1 + 1, 7, none⟩ = some (.int .i64 0) := ⟨hb2.at 0 rfl, hb2.at 1 rfl, hb2.at 2 rfl, hb2.at 3 rfl, hb2.at 4 rfl, hb2.at 5 rfl, hb2.at 6 rfl, hb2.at 7 rfl⟩
  obtain ⟨y0, y1, y2, y3, y4, y5, y6, y7⟩ : w2.frozen? ⟨w.heap.size + 1 + 1, 0, none⟩ = false ∧ w2.frozen? ⟨w.heap.size + 1 + 1, 1, none⟩ = false ∧ w2.frozen? ⟨w.heap.size + 1 + 1, 2, none⟩ = false ∧ w2.frozen? ⟨w.heap.size + 1 + 1, 3, none⟩ = false ∧ w2.frozen? ⟨w.heap.size + 1 + 1, 4, none⟩ = false ∧ w2.frozen? ⟨w.heap.size + 1 + 1, 5, none⟩ = false ∧ w2.frozen? ⟨w.heap.size + 1 + 1, 6, none⟩ = false ∧ w2.frozen? ⟨w.heap.size + 1 + 1, 7, none⟩ = false := ⟨hb2.free 0, hb2.free 1, hb2.free 2, hb2.free 3, hb2.free 4, hb2.free 5, hb2.free 6, hb2.free 7⟩
  obtain ⟨u3, u4, u5, u6, u7⟩ : w2.frozen? ⟨w.heap.size, 3, none⟩ = false ∧ w2.frozen? ⟨w.heap.size, 4, none⟩ = false ∧ w2.frozen? ⟨w.heap.size, 5, none⟩ = false ∧ w2.frozen? ⟨w.heap.size, 6, none⟩ = false ∧ w2.frozen? ⟨w.heap.size, 7, none⟩ = false := ⟨hb0.free 3, hb0.free 4, hb0.free 5, hb0.free 6, hb0.free 7⟩
  have l0 := hb0.lt
  have l1 := hb1.lt
  have l2 := hb2.lt
  have l3 : w.heap.size < w.heap.size + 1 + 1 := by omega
  have l4 : w.heap.size + 1 ≠ w.heap.size + 1 + 1 := by omega
  have l5 : w.heap.size ≤ w.heap.size + 1 + 1 := by omega
  have HB2 := Lib.hid hb2
  clear hb0 hb1 hb2
  have hv := Z_hv.out
  have hc := Z_hc.out
  have hch := Z_hch.out
  have hk := Z_hk.out
  have hy := Z_hy.out
  have hl := Z_hl.out
  have hq := Z_hq.out
  have hg := Z_hg.out
  have hg2 := Z_hg2.out
  rw [hv]
  rw [hc] at d2
  rw [hch] at d3
  have HC := Lib.hid hc
  have HCH := Lib.hid hch
  have HVV := Lib.hid hv
  clear hc hch hv
  rw [hk] at d1
  rw [hy] at d0
  have HKK := Lib.hid hk
  have HYY := Lib.hid hy
  clear hk hy
  clear hdd hadd hd0 hg hg2
  rw [hl] at c3
  have HL := Lib.hid hl
  clear hl
  have HQQ := Lib.hid hq
  clear hq
  go_wp2_with fail
  refine (rwithin_any x.seq ((s.next + 1) % 256) (s.win - 1) _).mono ?_
  rintro e w3 ⟨rfl, rfl⟩
  rw [HW1.out]
  go_wp2_with fail
  refine (rwithin_any x.seq ((s.next - s.win) % 256) s.win _).mono ?_
  rintro e w3 ⟨rfl, rfl⟩
  rw [HW2.out]
  go_wp2_with fail
  refine bodyPost_ret (v := .tuple #[FS.ref { s with lock := false }, .int .i64 2]) (by simp [results, Try.results15, go_sem, FS.ref, FS.bypass, *]) rfl ?_
  rw [HF.out]
  exact ⟨by simp only [FS.ref, HL.out], Below.set8 (HB.out) l5 _ _ _ _ _ _ _ _⟩
set_option maxRecDepth 20000 in
set_option maxHeartbeats 4000000 in
theorem rtake_k (s : FS) (x : TF) (room : Bool) (a : Option Addr) (cap : Nat) (w : World) (hd : BAt w a x.dat) (hcap : x.dat.length ≤ cap) (ok : s.ok) (hnx : 0 ≤ s.next ∧ s.next ≤ 255) (hv : validB x = true) (hc : x.craft = s.craft) (hch : x.chan = s.chan) (hk : x.ctl = false) (hy : x.byp = false) (hl : s.lock = false) (hq : x.seq ≠ s.next) (hg : ¬ distC s.next x.seq < s.win) (hg2 : ¬ 256 - s.win ≤ distC s.next x.seq) :
    Calls Try.prog 15 #[s.ref, x.val a cap, .bool room] w (RQ w (tv s x room)) := by
  obtain ⟨⟨k1, k2⟩, b1, b2⟩ := ok
  obtain ⟨n1, n2⟩ := hnx
  have HD := Lib.hid hd
  clear hd
  unfold RQ TF.val FS.ref
  have HT : Hid (tv s x room = verS s x room) := if_neg (by rw [hv, hc, hch]; simp)
  have e1 : (s.craft != s.craft) = false := by simp
  have e2 : (s.chan != s.chan) = false := by simp
  have hv2 : 0 ≤ x.seq ∧ x.seq ≤ 255 := by have h := hv; unfold validB at h; simp only [Bool.and_eq_true, decide_eq_true_eq] at h; omega
  have hlen : x.dat.length ≤ 1017 := by have h := hv; unfold validB at h; simp only [Bool.and_eq_true, decide_eq_true_eq] at h; omega
  have HQ : Hid (tv s x room = seqS s x.seq room) := HT.out.trans (by unfold verS; rw [if_neg (by rw [hk]; simp), if_neg (by rw [hy]; simp)])
  have hdd : distC s.next x.seq = (x.seq - s.next) % 256 := by unfold distC; rw [if_pos (by simp [cntB]; omega)]
  have hadd : addC x.seq 1 = (x.seq + 1) % 256 := by unfold addC; rw [if_pos (by simp [cntB]; omega)]
  have e5 : (x.seq == s.next) = false := by rw [beq_eq_false_iff_ne]; exact hq
  have hd0 : distC s.next x.seq ≠ 0 := by rw [hdd]; omega
  have hw1 : withC x.seq ((s.next + 1) % 256) (s.win - 1) = false := by
    have e : distC ((s.next + 1) % 256) x.seq = (x.seq - (s.next + 1) % 256) % 256 := by unfold distC; rw [if_pos (by simp [cntB]; omega)]
    unfold withC
    rw [e]
    simp [cntB]
    omega
  have hw2 : withC x.seq ((s.next - s.win) % 256) s.win = false := by
    have e : distC ((s.next - s.win) % 256) x.seq = (x.seq - (s.next - s.win) % 256) % 256 := by unfold distC; rw [if_pos (by simp [cntB]; omega)]
    unfold withC
    rw [e]
    simp [cntB]
    omega
  have HW1 := Lib.hid hw1
  have HW2 := Lib.hid hw2
  have HF : Hid (tv s x room = ({ s with lock := true }, 4)) := HQ.out.trans (by unfold seqS; rw [if_neg (by rw [hl]; simp), if_neg (fun h => hd0 h.1), if_neg hd0, if_neg hg, if_neg hg2])
  clear hw1 hw2
  have Z_hv := Lib.hid hv
  have Z_hc := Lib.hid hc
  have Z_hch := Lib.hid hch
  have Z_hk := Lib.hid hk
  have Z_hy := Lib.hid hy
  have Z_hl := Lib.hid hl
  have Z_hq := Lib.hid hq
  have Z_hg := Lib.hid hg
  have Z_hg2 := Lib.hid hg2
  clear hv hc hch hk hy hl hq hg hg2
  go_enter Try.func15, Try.ntmps15
  go_wp2_with fail
  have hvv := rvalid_any x a cap ((((w.alloc (.cells #[.int .i64 s.craft, .int .i64 s.win, .int .i64 s.chan, .bool s.lock, .bool s.wait, .bool s.retr, .int .i64 s.byp, .int .i64 s.next] 44)).alloc (.cells #[.bool x.byp, .bool x.ctl, .int .i64 x.craft, .int .i64 x.chan, .int .i64 x.seq, .slice a x.dat.length cap] 31)).alloc (.cells #[.int .i64 0, .int .i64 0, .int .i64 0, .bool false, .bool false, .bool false, .int .i64 0, .int .i64 0] 44)))
  unfold TF.val at hvv
  refine hvv.mono ?_
  rintro e w2 ⟨rfl, hw2⟩
  clear hvv
  have hB : Below ((((w.alloc (.cells #[.int .i64 s.craft, .int .i64 s.win, .int .i64 s.chan, .bool s.lock, .bool s.wait, .bool s.retr, .int .i64 s.byp, .int .i64 s.next] 44)).alloc (.cells #[.bool x.byp, .bool x.ctl, .int .i64 x.craft, .int .i64 x.chan, .int .i64 x.seq, .slice a x.dat.length cap] 31)).alloc (.cells #[.int .i64 0, .int .i64 0, .int .i64 0, .bool false, .bool false, .bool false, .int .i64 0, .int .i64 0] 44))).heap.size ((((w.alloc (.cells #[.int .i64 s.craft, .int .i64 s.win, .int .i64 s.chan, .bool s.lock, .bool s.wait, .bool s.retr, .int .i64 s.byp, .int .i64 s.next] 44)).alloc (.cells #[.bool x.byp, .bool x.ctl, .int .i64 x.craft, .int .i64 x.chan, .int .i64 x.seq, .slice a x.dat.length cap] 31)).alloc (.cells #[.int .i64 0, .int .i64 0, .int .i64 0, .bool false, .bool false, .bool false, .int .i64 0, .int .i64 0] 44))) w2 := by rw [hw2]; exact al (Below.refl _ _) _
  have hb0 : Blk w2 w.heap.size 44 [.int .i64 s.craft, .int .i64 s.win, .int .i64 s.chan, .bool s.lock, .bool s.wait, .bool s.retr, .int .i64 s.byp, .int .i64 s.next] := (((Blk.new w 44 _).alloc _).alloc _).below hB (Nat.le_refl _)
  have hb1 : Blk w2 (w.heap.size + 1) 31 [.bool x.byp, .bool x.ctl, .int .i64 x.craft, .int .i64 x.chan, .int .i64 x.seq, .slice a x.dat.length cap] := ((Blk.newAt (by simp)).alloc _).below hB (Nat.le_refl _)
  have hb2 : Blk w2 (w.heap.size + 1 + 1) 44 zero44 := (Blk.newAt (by simp)).below hB (Nat.le_refl _)
  have HB := Lib.hid ((al (al (al (Below.refl _ w) _) _) _).trans (hB.mono (by simp; omega)))
  clear hw2 hB
  have hsz := HB.out.size
  obtain ⟨c0, c1, c2, c3, c4, c5, c6, c7⟩ : w2.cell? ⟨w.heap.size, 0, none⟩ = some (.int .i64 s.craft) ∧ w2.cell? ⟨w.heap.size, 1, none⟩ = some (.int .i64 s.win) ∧ w2.cell? ⟨w.heap.size, 2, none⟩ = some (.int .i64 s.chan) ∧ w2.cell? ⟨w.heap.size, 3, none⟩ = some (.bool s.lock) ∧ w2.cell? ⟨w.heap.size, 4, none⟩ = some (.bool s.wait) ∧ w2.cell? ⟨w.heap.size, 5, none⟩ = some (.bool s.retr) ∧ w2.cell? ⟨w.heap.size, 6, none⟩ = some (.int .i64 s.byp) ∧ w2.cell? ⟨w.heap.size, 7, none⟩ = some (.int .i64 s.next) := ⟨hb0.at 0 rfl, hb0.at 1 rfl, hb0.at 2 rfl, hb0.at 3 rfl, hb0.at 4 rfl, hb0.at 5 rfl, hb0.at 6 rfl, hb0.at 7 rfl⟩
  obtain ⟨d0, d1, d2, d3, d4, d5⟩ : w2.cell? ⟨w.heap.size + 1, 0, none⟩ = some (.bool x.byp) ∧ w2.cell? ⟨w.heap.size + 1, 1, none⟩ = some (.bool x.ctl) ∧ w2.cell? ⟨w.heap.size + 1, 2, none⟩ = some (.int .i64 x.craft) ∧ w2.cell? ⟨w.heap.size + 1, 3, none⟩ = some (.int .i64 x.chan) ∧ w2.cell? ⟨w.heap.size + 1, 4, none⟩ = some (.int .i64 x.seq) ∧ w2.cell? ⟨w.heap.size + 1, 5, none⟩ = some (.slice a x.dat.length cap) := ⟨hb1.at 0 rfl, hb1.at 1 rfl, hb1.at 2 rfl, hb1.at 3 rfl, hb1.at 4 rfl, hb1.at 5 rfl⟩
  obtain ⟨z0, z1, z2, z3, z4, z5, z6, z7⟩ : w2.cell? ⟨w.heap.size + 1 + 1, 0, none⟩ = some (.int .i64 0) ∧ w2.cell? ⟨w.heap.size + 1 + 1, 1, none⟩ = some (.int .i64 0) ∧ w2.cell? ⟨w.heap.size + 1 + 1, 2, none⟩ = some (.int .i64 0) ∧ w2.cell? ⟨w.heap.size + 1 + 1, 3, none⟩ = some (.bool false) ∧ w2.cell? ⟨w.heap.size + 1 + 1, 4, none⟩ = some (.bool false) ∧ w2.cell? ⟨w.heap.size + 1 + 1, 5, none⟩ = some (.bool false) ∧ w2.cell? ⟨w.heap.size + 1 + 1, 6, none⟩ = some (.int .i64 0) ∧ w2.cell? ⟨w.heap.size + 1 + 1, 7, none⟩ = some (.int .i64 0) := ⟨hb2.at 0 rfl, hb2.at 1 rfl, hb2.at 2 rfl, hb2.at 3 rfl, hb2.at 4 rfl, hb2.at 5 rfl, hb2.at 6 rfl, hb2.at 7 rfl⟩
  obtain ⟨y0, y1, y2, y3, y4, y5, y6, y7⟩ : w2.frozen? ⟨w.heap.size + 1 + 1, 0, none⟩ = false ∧ w2.frozen? ⟨w.heap.size + 1 + 1, 1, none⟩ = false ∧ w2.frozen? ⟨w.heap.size + 1 + 1, 2, none⟩ = false ∧ w2.frozen? ⟨w.heap.size + 1 + 1, 3, none⟩ = false ∧ w2.frozen? ⟨w.heap.size + 1 + 1, 4, none⟩ = false ∧ w2.frozen? ⟨w.heap.size + 1 + 1, 5, none⟩ = false ∧ w2.frozen? ⟨w.heap.size + 1 + 1, 6, none⟩ = false ∧ w2.frozen? ⟨w.heap.size + 1 + 1, 7, none⟩ = false := ⟨hb2.free 0, hb2.free 1, hb2.free 2, hb2.free 3, hb2.free 4, hb2.free 5, hb2.free 6, hb2.free 7⟩
  obtain ⟨u3, u4, u5, u6, u7⟩ : w2.frozen? ⟨w.heap.size, 3, none⟩ = false ∧ w2.frozen? ⟨w.heap.size, 4, none⟩ = false ∧ w2.frozen? ⟨w.heap.size, 5, none⟩ = false ∧ w2.frozen? ⟨w.heap.size, 6, none⟩ = false ∧ w2.frozen? ⟨w.heap.size, 7, none⟩ = false := ⟨hb0.free 3, hb0.free 4, hb0.free 5, hb0.free 6, hb0.free 7⟩
  have l0 := hb0.lt
  have l1 := hb1.lt
  have l2 := hb2.lt
  have l3 : w.heap.size < w.heap.size + 1 + 1 := by omega
  have l4 : w.heap.size + 1 ≠ w.heap.size + 1 + 1 := by omega
  have l5 : w.heap.size ≤ w.heap.size + 1 + 1 := by omega
  have HB2 := Lib.hid hb2
  clear hb0 hb1 hb2
  have hv := Z_hv.out
  have hc := Z_hc.out
  have hch := Z_hch.out
  have hk := Z_hk.out
  have hy := Z_hy.out
  have hl := Z_hl.out
  have hq := Z_hq.out
  have hg := Z_hg.out
  have hg2 := Z_hg2.out
  rw [hv]
  rw [hc] at d2
  rw [hch] at d3
  have HC := Lib.hid hc
  have HCH := Lib.hid hch
  have HVV := Lib.hid hv
  clear hc hch hv
  rw [hk] at d1
  rw [hy] at d0
  have HKK := Lib.hid hk
  have HYY := Lib.hid hy
  clear hk hy
  clear hdd hadd hd0 hg hg2
  rw [hl] at c3
  have HL := Lib.hid hl
  clear hl
  have HQQ := Lib.hid hq
  clear hq
  go_wp2_with fail
  refine (rwithin_any x.seq ((s.next + 1) % 256) (s.win - 1) _).mono ?_
  rintro e w3 ⟨rfl, rfl⟩
  rw [HW1.out]
  go_wp2_with fail
  refine (rwithin_any x.seq ((s.next - s.win) % 256) s.win _).mono ?_
  rintro e w3 ⟨rfl, rfl⟩
  rw [HW2.out]
  go_wp2_with fail
  refine bodyPost_ret (v := .tuple #[FS.ref { s with lock := true }, .int .i64 4]) (by simp [results, Try.results15, go_sem, FS.ref, FS.bypass, *]) rfl ?_
  rw [HF.out]
  exact ⟨rfl, Below.set8 ((HB.out.setCell (p := ⟨_, _, none⟩) (Nat.le_refl _) _)) l5 _ _ _ _ _ _ _ _⟩
theorem rtake_any (s : FS) (x : TF) (room : Bool) (a : Option Addr) (cap : Nat) (w : World) (hd : BAt w a x.dat) (hcap : x.dat.length ≤ cap) (ok : s.ok) (hnx : 0 ≤ s.next ∧ s.next ≤ 255) :
    Calls Try.prog 15 #[s.ref, x.val a cap, .bool room] w (RQ w (tv s x room)) := by
  have bb : ∀ b : Bool, b = true ∨ b = false := fun b => by cases b <;> simp
  rcases (bb (validB x)).symm with hv | hv
  · exact rtake_b0 s x room a cap w hd hcap ok hnx hv
  · by_cases hc : x.craft = s.craft
    · by_cases hch : x.chan = s.chan
      · rcases bb x.ctl with hk | hk
        · exact rtake_c s x room a cap w hd hcap ok hnx hv hc hch hk
        · rcases bb x.byp with hy | hy
          · exact rtake_y s x room a cap w hd hcap ok hnx hv hc hch hk hy
          · rcases bb s.lock with hl | hl
            · exact rtake_l s x room a cap w hd hcap ok hnx hv hc hch hk hy hl
            · by_cases hq : x.seq = s.next
              · rcases bb room with hr | hr
                · exact rtake_d s x room a cap w hd hcap ok hnx hv hc hch hk hy hl hq hr
                · exact rtake_w s x room a cap w hd hcap ok hnx hv hc hch hk hy hl hq hr
              · by_cases hg : distC s.next x.seq < s.win
                · exact rtake_g s x room a cap w hd hcap ok hnx hv hc hch hk hy hl hq hg
                · by_cases hg2 : 256 - s.win ≤ distC s.next x.seq
                  · exact rtake_r s x room a cap w hd hcap ok hnx hv hc hch hk hy hl hq hg hg2
                  · exact rtake_k s x room a cap w hd hcap ok hnx hv hc hch hk hy hl hq hg hg2
      · exact rtake_b2 s x room a cap w hd hcap ok hnx hv hc hch
    · exact rtake_b1 s x room a cap w hd hcap ok hnx hv hc
end Go.Proofs.Ytgdmonckfjnlfaa

/- The reference: control. No condition. -/
import Derived.Test.YtgdmonckfjnlfaaL
namespace Go.Proofs.Ytgdmonckfjnlfaa
open Go.RowKit Go.Deep Go.ChangeShapes Go.WideShapes Go.ChangeAt
set_option linter.unusedVariables false

/-- what a call of the reference leaves -/
def RQ (w : World) (r : FS × Int) (e : Ending) (w' : World) : Prop := e = .returned (.tuple #[r.1.ref, .int .i64 r.2]) ∧ Below w.heap.size w w'
theorem dir_kind (x : TF) : (dirS x).1 = 0 ∨ (dirS x).1 = 1 := by
  unfold dirS
  repeat' split
  all_goals simp
def zero44 : List Value := [.int .i64 0, .int .i64 0, .int .i64 0, .bool false, .bool false, .bool false, .int .i64 0, .int .i64 0]
set_option maxRecDepth 20000 in
set_option maxHeartbeats 4000000 in
theorem rcontrol_any (s : FS) (x : TF) (a : Option Addr) (cap : Nat) (w : World) (h0 : 0 ≤ s.byp ∧ s.byp ≤ 3) (hx : BAt w a x.dat) (hl : x.dat.length ≤ cap) (hm : x.dat.length ≤ 1000000000) :
    Calls Try.prog 24 #[s.ref, x.val a cap] w (RQ w (ctlS s x)) := by
  have HS : Hid (ctlS s x = if (dirS x).2.2 = false then (s, 0)
    else if (dirS x).1 = 0 then ({ s with lock := false, wait := false, retr := false }.bypass, 5)
    else if s.lock = true then (s, 4)
    else ({ s with next := (dirS x).2.1, wait := false, retr := false }.bypass, 5)) := rfl
  have HX := Lib.hid hx
  have HK := Lib.hid (dir_kind x)
  obtain ⟨h0, h1⟩ := h0
  unfold RQ
  clear hx
  unfold TF.val FS.ref
  go_enter Try.func24, Try.ntmps24
  go_wp2_with fail
  refine (rdir_any x a cap _ (HX.out.below (al (al (al (Below.refl _ _) _) _) _) (Nat.le_refl _)) hl hm).mono ?_
  rintro e w2 ⟨rfl, hB⟩
  have hb0 : Blk w2 w.heap.size 44 [.int .i64 s.craft, .int .i64 s.win, .int .i64 s.chan, .bool s.lock, .bool s.wait, .bool s.retr, .int .i64 s.byp, .int .i64 s.next] := (((Blk.new w 44 _).alloc _).alloc _).below hB (Nat.le_refl _)
  have hb2 : Blk w2 (w.heap.size + 1 + 1) 44 zero44 := (Blk.newAt (by simp)).below hB (Nat.le_refl _)
  have HB := Lib.hid ((al (al (al (Below.refl _ w) _) _) _).trans (hB.mono (by simp; omega)))
  have hsz := HB.out.size
  obtain ⟨c0, c1, c2, c3, c4, c5, c6, c7⟩ : w2.cell? ⟨w.heap.size, 0, none⟩ = some (.int .i64 s.craft) ∧ w2.cell? ⟨w.heap.size, 1, none⟩ = some (.int .i64 s.win) ∧ w2.cell? ⟨w.heap.size, 2, none⟩ = some (.int .i64 s.chan) ∧ w2.cell? ⟨w.heap.size, 3, none⟩ = some (.bool s.lock) ∧ w2.cell? ⟨w.heap.size, 4, none⟩ = some (.bool s.wait) ∧ w2.cell? ⟨w.heap.size, 5, none⟩ = some (.bool s.retr) ∧ w2.cell? ⟨w.heap.size, 6, none⟩ = some (.int .i64 s.byp) ∧ w2.cell? ⟨w.heap.size, 7, none⟩ = some (.int .i64 s.next) := ⟨hb0.at 0 rfl, hb0.at 1 rfl, hb0.at 2 rfl, hb0.at 3 rfl, hb0.at 4 rfl, hb0.at 5 rfl, hb0.at 6 rfl, hb0.at 7 rfl⟩
  obtain ⟨z0, z1, z2, z3, z4, z5, z6, z7⟩ : w2.cell? ⟨w.heap.size + 1 + 1, 0, none⟩ = some (.int .i64 0) ∧ w2.cell? ⟨w.heap.size + 1 + 1, 1, none⟩ = some (.int .i64 0) ∧ w2.cell? ⟨w.heap.size + 1 + 1, 2, none⟩ = some (.int .i64 0) ∧ w2.cell? ⟨w.heap.size + 1 + 1, 3, none⟩ = some (.bool false) ∧ w2.cell? ⟨w.heap.size + 1 + 1, 4, none⟩ = some (.bool false) ∧ w2.cell? ⟨w.heap.size + 1 + 1, 5, none⟩ = some (.bool false) ∧ w2.cell? ⟨w.heap.size + 1 + 1, 6, none⟩ = some (.int .i64 0) ∧ w2.cell? ⟨w.heap.size + 1 + 1, 7, none⟩ = some (.int .i64 0) := ⟨hb2.at 0 rfl, hb2.at 1 rfl, hb2.at 2 rfl, hb2.at 3 rfl, hb2.at 4 rfl, hb2.at 5 rfl, hb2.at 6 rfl, hb2.at 7 rfl⟩
  obtain ⟨y0, y1, y2, y3, y4, y5, y6, y7⟩ : w2.frozen? ⟨w.heap.size + 1 + 1, 0, none⟩ = false ∧ w2.frozen? ⟨w.heap.size + 1 + 1, 1, none⟩ = false ∧ w2.frozen? ⟨w.heap.size + 1 + 1, 2, none⟩ = false ∧ w2.frozen? ⟨w.heap.size + 1 + 1, 3, none⟩ = false ∧ w2.frozen? ⟨w.heap.size + 1 + 1, 4, none⟩ = false ∧ w2.frozen? ⟨w.heap.size + 1 + 1, 5, none⟩ = false ∧ w2.frozen? ⟨w.heap.size + 1 + 1, 6, none⟩ = false ∧ w2.frozen? ⟨w.heap.size + 1 + 1, 7, none⟩ = false := ⟨hb2.free 0, hb2.free 1, hb2.free 2, hb2.free 3, hb2.free 4, hb2.free 5, hb2.free 6, hb2.free 7⟩
  obtain ⟨u3, u4, u5, u6, u7⟩ : w2.frozen? ⟨w.heap.size, 3, none⟩ = false ∧ w2.frozen? ⟨w.heap.size, 4, none⟩ = false ∧ w2.frozen? ⟨w.heap.size, 5, none⟩ = false ∧ w2.frozen? ⟨w.heap.size, 6, none⟩ = false ∧ w2.frozen? ⟨w.heap.size, 7, none⟩ = false := ⟨hb0.free 3, hb0.free 4, hb0.free 5, hb0.free 6, hb0.free 7⟩
  have l0 := hb0.lt
  have l2 := hb2.lt
  have l3 : w.heap.size < w.heap.size + 1 + 1 := by omega
  clear hb0 hb2 hB
  generalize dirS x = D at HS HK ⊢
  obtain ⟨d1, d2, d3⟩ := D
  simp only at HS HK ⊢
  have set8 : ∀ (wz : World) (v0 v1 v2 v3 v4 v5 v6 v7 : Value), Below w.heap.size w wz → Below w.heap.size w ((((((((wz.setCell ⟨w.heap.size + 1 + 1, 0, none⟩ v0).setCell ⟨w.heap.size + 1 + 1, 1, none⟩ v1).setCell ⟨w.heap.size + 1 + 1, 2, none⟩ v2).setCell ⟨w.heap.size + 1 + 1, 3, none⟩ v3).setCell ⟨w.heap.size + 1 + 1, 4, none⟩ v4).setCell ⟨w.heap.size + 1 + 1, 5, none⟩ v5).setCell ⟨w.heap.size + 1 + 1, 6, none⟩ v6).setCell ⟨w.heap.size + 1 + 1, 7, none⟩ v7) := fun wz v0 v1 v2 v3 v4 v5 v6 v7 h => by
    have hh : w.heap.size ≤ w.heap.size + 1 + 1 := by omega
    exact (((((((h.setCell (p := ⟨_, _, none⟩) hh _).setCell (p := ⟨_, _, none⟩) hh _).setCell (p := ⟨_, _, none⟩) hh _).setCell (p := ⟨_, _, none⟩) hh _).setCell (p := ⟨_, _, none⟩) hh _).setCell (p := ⟨_, _, none⟩) hh _).setCell (p := ⟨_, _, none⟩) hh _).setCell (p := ⟨_, _, none⟩) hh _
  have S8 := Lib.hid set8
  clear set8
  cases d3
  · go_wp2_with fail
    refine bodyPost_ret (v := .tuple #[s.ref, .int .i64 0]) (by simp [results, Try.results24, go_sem, FS.ref, *]) rfl ?_
    rw [HS.out, if_pos trivial]
    exact ⟨rfl, S8.out _ _ _ _ _ _ _ _ _ HB.out⟩
  · by_cases hk : d1 = 0
    · have e1 : (d1 == 1) = false := by rw [hk]; rfl
      have HKK := Lib.hid hk
      clear hk
      go_wp2_with fail
      refine bodyPost_ret (v := .tuple #[FS.ref ({ s with lock := false, wait := false, retr := false }.bypass), .int .i64 5]) (by simp [results, Try.results24, go_sem, FS.ref, FS.bypass, *]) rfl ?_
      rw [HS.out, if_neg (by simp), if_pos HKK.out]
      refine ⟨rfl, ?_⟩
      refine S8.out _ _ _ _ _ _ _ _ _ ?_
      exact (((HB.out.setCell (p := ⟨_, _, none⟩) (Nat.le_refl _) _).setCell (p := ⟨_, _, none⟩) (Nat.le_refl _) _).setCell (p := ⟨_, _, none⟩) (Nat.le_refl _) _).setCell (p := ⟨_, _, none⟩) (Nat.le_refl _) _
    · have hk1 : d1 = 1 := HK.out.resolve_left hk
      have e1 : (d1 == 1) = true := by rw [hk1]; rfl
      have HKK := Lib.hid hk
      clear hk hk1
      cases hlk : s.lock
      · rw [hlk] at c3
        have HLK := Lib.hid hlk
        clear hlk
        go_wp2_with fail
        refine bodyPost_ret (v := .tuple #[FS.ref ({ s with lock := false, next := d2, wait := false, retr := false }.bypass), .int .i64 5]) (by simp [results, Try.results24, go_sem, FS.ref, FS.bypass, *]) rfl ?_
        rw [HS.out, if_neg (by simp), if_neg HKK.out, if_neg (by rw [HLK.out]; simp)]
        refine ⟨by simp only [FS.bypass, FS.ref, HLK.out], ?_⟩
        refine S8.out _ _ _ _ _ _ _ _ _ ?_
        exact ((((HB.out.setCell (p := ⟨_, _, none⟩) (Nat.le_refl _) _).setCell (p := ⟨_, _, none⟩) (Nat.le_refl _) _).setCell (p := ⟨_, _, none⟩) (Nat.le_refl _) _).setCell (p := ⟨_, _, none⟩) (Nat.le_refl _) _).setCell (p := ⟨_, _, none⟩) (Nat.le_refl _) _
      · rw [hlk] at c3
        have HLK := Lib.hid hlk
        clear hlk
        go_wp2_with fail
        refine bodyPost_ret (v := .tuple #[FS.ref { s with lock := true }, .int .i64 4]) (by simp [results, Try.results24, go_sem, FS.ref, *]) rfl ?_
        rw [HS.out, if_neg (by simp), if_neg HKK.out, if_pos HLK.out]
        exact ⟨by simp only [FS.ref, HLK.out], S8.out _ _ _ _ _ _ _ _ _ HB.out⟩
end Go.Proofs.Ytgdmonckfjnlfaa

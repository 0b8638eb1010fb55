/- Contracts of Same, and of the reference's control frames. No condition. -/
import Derived.Test.YtjiejpklcjpibaaN
namespace Go.Proofs.Ytjiejpklcjpibaa
open Go.RowKit Go.Deep Go.ChangeShapes Go.WideShapes Go.ChangeAt
set_option linter.unusedVariables false

set_option maxRecDepth 20000 in
set_option maxHeartbeats 2000000 in
/-- like frames -/
theorem same_eq (x : Fm) (ax ay : Option Addr) (cx cy n m : Nat) (w : World) (hn : x.data.length = n) (hm : x.data.length = m) (hx : BAt w ax x.data) (hy : BAt w ay x.data) :
    Calls Try.prog 20 #[fmV x (.slice ax n cx), fmV x (.slice ay m cy)] w fun e w' => e = .returned (.bool true) ∧ Below w.heap.size w w' := by
  unfold fmV
  have HX : Hid (∀ w' : World, Below w.heap.size w w' → (convert 23 9 (.slice ax n cx)).run Try.prog w' = .ok (.string ⟨x.data.toArray⟩) w') := Lib.hid fun w' hb => str_n n cx hn (hx.below hb (Nat.le_refl _))
  have HY : Hid (∀ w' : World, Below w.heap.size w w' → (convert 23 9 (.slice ay m cy)).run Try.prog w' = .ok (.string ⟨x.data.toArray⟩) w') := Lib.hid fun w' hb => str_n m cy hm (hy.below hb (Nat.le_refl _))
  clear hn hm hx hy
  have HB : Hid (Below w.heap.size w ((w.alloc (.cells #[.bool x.byp, .bool x.ctl, .int .i64 x.craft, .int .i64 x.chan, .int .i64 x.seq, .slice ax n cx] 33)).alloc (.cells #[.bool x.byp, .bool x.ctl, .int .i64 x.craft, .int .i64 x.chan, .int .i64 x.seq, .slice ay m cy] 33))) := Lib.hid ((al (Below.refl _ _) _).alloc (by simp) _)
  have e1 := HX.out _ HB.out
  have e2 := HY.out _ HB.out
  go_enter Try.func20, Try.ntmps20
  go_wp2_with fail
  go_ret
  exact ⟨rfl, HB.out⟩
theorem runlock_any (craft chan : Int) (w : World) : Calls Try.prog 21 #[.int .i64 craft, .int .i64 chan] w (FB w (Fm.unlock craft chan)) := by
  go_enter Try.func21, Try.ntmps21
  go_wp2_with fail
  exact bodyPost_ret (v := fmV (Fm.unlock craft chan) (.slice (some ⟨w.heap.size + 1, 0, none⟩) 1 1)) (by simp [results, Try.results21, go_sem, fmV, Fm.unlock]) rfl ⟨_, rfl, fmlit (Below.refl _ _) rfl 1 rfl (by omega), two_alloc (Below.refl _ _)⟩
set_option maxRecDepth 20000 in
set_option maxHeartbeats 2000000 in
theorem rsetnext_any (craft chan : Int) (n : Nat) (hn : n < 256) (w : World) : Calls Try.prog 22 #[.int .i64 craft, .int .i64 chan, .int .i64 (n : Int)] w (FB w (Fm.setNext craft chan n)) := by
  have hu : (UInt8.ofNat n).toNat = n := by rw [UInt8.toNat_ofNat']; omega
  have g1 : ¬ (n : Int) < 0 := by omega
  have g2 : ¬ 255 < (n : Int) := by omega
  have HU : Hid (#[.int .u8 130, .int .u8 0, .int .u8 (n : Int)] = (encB [130, 0, UInt8.ofNat n]).toArray) := Lib.hid (by simp [encB, hu])
  have g3 : (n : Int) < 256 := by omega
  clear hu
  go_enter Try.func22, Try.ntmps22
  go_wp2_with fail
  refine (runlock_any _ _ _).mono ?_
  rintro e w1 ⟨vu, rfl, hO, hB⟩
  dsimp only [fmV, Fm.unlock]
  obtain ⟨a5, n5, c5, rfl⟩ := own_slice hO
  have hk := (Blk.new w 33 [.bool false, .bool false, .int .i64 0, .int .i64 0, .int .i64 0, .slice none 0 0]).below hB (Nat.le_refl _)
  have HK := Lib.hid hk
  have HB1 := Lib.hid ((al (Below.refl w.heap.size w) (.cells #[.bool false, .bool false, .int .i64 0, .int .i64 0, .int .i64 0, .slice none 0 0] 33)).trans (hB.mono (by simp)))
  have hlt := hk.lt
  clear hk hO hB
  go_upto_region 5 with fail
  obtain ⟨w5, hw5⟩ : ∃ w5, w5 = (w1.alloc (.cells #[.bool true, .bool true, .int .i64 craft, .int .i64 chan, .int .i64 0, .slice (some ⟨w1.heap.size + 1, 0, none⟩) 3 3] 33)).alloc (.cells #[.int .u8 130, .int .u8 0, .int .u8 (n : Int)] 5) := ⟨_, rfl⟩
  rw [← hw5]
  have hz : Blk w5 w.heap.size 33 [.bool false, .bool false, .int .i64 0, .int .i64 0, .int .i64 0, .slice none 0 0] := by rw [hw5]; exact (HK.out.alloc _).alloc _
  have hr : Blk w5 w1.heap.size 33 [.bool true, .bool true, .int .i64 craft, .int .i64 chan, .int .i64 0, .slice (some ⟨w1.heap.size + 1, 0, none⟩) 3 3] := by rw [hw5]; exact (Blk.new w1 33 _).alloc _
  have hO5 : w5.ownsRow w1.heap.size 5 1 (.slice (some ⟨w1.heap.size + 1, 0, none⟩) 3 3) 3 (encB [130, 0, UInt8.ofNat n]) := by rw [hw5]; exact fmlit (Below.refl _ _) HU.out 3 rfl (by omega)
  have HB5 : Hid (Below w.heap.size w w5) := Lib.hid (by rw [hw5]; exact ((HB1.out.alloc HB1.out.size _).alloc (by have := HB1.out.size; simp; omega) _))
  have hs1 := HB1.out.size
  have e0 := hr.at 0 rfl
  have e1 := hr.at 1 rfl
  have e2 := hr.at 2 rfl
  have e3 := hr.at 3 rfl
  have e4 := hr.at 4 rfl
  have e5 := hr.at 5 rfl
  have z0 := hz.at 0 rfl
  have z1 := hz.at 1 rfl
  have z2 := hz.at 2 rfl
  have z3 := hz.at 3 rfl
  have z4 := hz.at 4 rfl
  have z5 := hz.at 5 rfl
  have y0 := hz.free 0
  have y1 := hz.free 1
  have y2 := hz.free 2
  have y3 := hz.free 3
  have y4 := hz.free 4
  have y5 := hz.free 5
  have zlt := hz.lt
  have HO5 := Lib.hid hO5
  clear hw5 hz hr hO5
  go_wp2_with fail
  have hB9 := (((((HB5.out.setCell (p := ⟨w.heap.size, 0, none⟩) (Nat.le_refl _) (.bool true)).setCell (p := ⟨w.heap.size, 1, none⟩) (Nat.le_refl _) (.bool true)).setCell (p := ⟨w.heap.size, 2, none⟩) (Nat.le_refl _) (.int .i64 craft)).setCell (p := ⟨w.heap.size, 3, none⟩) (Nat.le_refl _) (.int .i64 chan)).setCell (p := ⟨w.heap.size, 4, none⟩) (Nat.le_refl _) (.int .i64 0)).setCell (p := ⟨w.heap.size, 5, none⟩) (Nat.le_refl _) (.slice (some ⟨w1.heap.size + 1, 0, none⟩) 3 3)
  have hO9 := own_base (own_six HO5.out hlt (.bool true) (.bool true) (.int .i64 craft) (.int .i64 chan) (.int .i64 0) (.slice (some ⟨w1.heap.size + 1, 0, none⟩) 3 3)) hs1
  exact bodyPost_ret (v := fmV (Fm.setNext craft chan n) (.slice (some ⟨w1.heap.size + 1, 0, none⟩) 3 3)) (by simp [results, Try.results22, go_sem, fmV, Fm.setNext, *]) rfl ⟨_, rfl, hO9, hB9⟩
end Go.Proofs.Ytjiejpklcjpibaa

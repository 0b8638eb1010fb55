/- The chapter's examples; the reference's Wrap. No condition. -/
import Derived.Test.YtjeigdopcdeaeaaF
namespace Go.Proofs.Ytjeigdopcdeaeaa
open Go.RowKit Go.Deep Go.ChangeShapes Go.WideShapes Go.ChangeAt Scr
set_option linter.unusedVariables false

def al8 : List UInt8 := [51, 26, 26, 207, 252, 29, 255, 26]
theorem al_feed : feed 1 ([] ++ al8) = ([[0]], 2, [26]) := by
  have e : ([] : List UInt8) ++ al8 = al8 := rfl
  have b0 : beg al8 = 2 := by decide
  have h1 : al8.drop 2 = [26, 207, 252, 29, 255, 26] := rfl
  have h2 : feed 1 [26] = ([], 0, [26]) := by
    have b1 : beg [26] = 0 := by decide
    have := feed_few 1 [26] (by rw [b1]; decide)
    rw [b1] at this
    exact this
  have h3 := feed_more 1 al8 (by rw [b0]; decide)
  rw [b0, h1] at h3
  rw [e, h3]
  have h4 : ([26, 207, 252, 29, 255, 26] : List UInt8).drop (4 + 1) = [26] := rfl
  rw [h4, h2]
  have h5 : appB ((([26, 207, 252, 29, 255, 26] : List UInt8).drop 4).take 1) = [0] := by decide
  rw [h5]
  rfl
theorem al_wrap : wrapB [0] = [26, 207, 252, 29, 255] := by decide
theorem lit8 (w : World) (x0 x1 x2 x3 x4 x5 x6 x7 : UInt8) (t : TypeId) (f : Nat × Nat) : BAt (w.alloc (.cells #[.int .u8 (x0.toNat : Int), .int .u8 (x1.toNat : Int), .int .u8 (x2.toNat : Int), .int .u8 (x3.toNat : Int), .int .u8 (x4.toNat : Int), .int .u8 (x5.toNat : Int), .int .u8 (x6.toNat : Int), .int .u8 (x7.toNat : Int)] t f)) (some ⟨w.heap.size, 0, none⟩) [x0, x1, x2, x3, x4, x5, x6, x7] := by
  refine .inr ⟨_, _, rfl, by simp, fun i hi => ?_⟩
  rw [Joins.cell_alloc_mark_at _ _ _ _ _ _ rfl]
  match i, hi with
  | 0, _ => rfl
  | 1, _ => rfl
  | 2, _ => rfl
  | 3, _ => rfl
  | 4, _ => rfl
  | 5, _ => rfl
  | 6, _ => rfl
  | 7, _ => rfl
theorem lit1 (w : World) (x0 : UInt8) (t : TypeId) (f : Nat × Nat) : BAt (w.alloc (.cells #[.int .u8 (x0.toNat : Int)] t f)) (some ⟨w.heap.size, 0, none⟩) [x0] := by
  refine .inr ⟨_, _, rfl, by simp, fun i hi => ?_⟩
  rw [Joins.cell_alloc_mark_at _ _ _ _ _ _ rfl]
  match i, hi with
  | 0, _ => rfl
set_option maxRecDepth 20000 in
set_option maxHeartbeats 2000000 in
theorem alive_any (w : World) : Calls Try.prog 6 #[] w fun e w' => e = .returned (.bool true) ∧ Below w.heap.size w w' := by
  go_enter Try.func6, Try.ntmps6
  go_wp2_with fail
  refine (new_ok 1 _ (by omega) (by omega)).mono ?_
  rintro e w1 ⟨rfl, hF, hB⟩
  have HF1 := Lib.hid hF
  have HB1 := Lib.hid hB
  have hs1 := hB.size
  have hlt := hF.blk.lt
  clear hF hB
  go_wp2_with fail
  refine (feed_any w.heap.size 1 0 (.slice none 0 0) [] al8 (some ⟨w1.heap.size, 0, none⟩) 8 _ (HF1.out.below (al (Below.refl _ _) _) (Nat.le_refl _)) (by omega) (by omega) (by decide) (by decide) (lit8 _ _ _ _ _ _ _ _ _ _ _) (fun q hq _ h => by
    cases hq
    rcases h with h | h
    · exact absurd h (Nat.ne_of_gt hlt)
    · simp [Value.ownBlock] at h)).mono ?_
  rintro e w2 ⟨vo, v2, rfl, hF, hS, hfr, hnew⟩
  rw [al_feed] at hF hS
  obtain ⟨bo, oo, co, a0, c0, rfl, hco, -, hbo, hcell, hc0, -, hA0, -⟩ := hS.get (i := 0) (by simp)
  have HF2 := Lib.hid hF
  have HB2 : Hid (Below w.heap.size w w2) := Lib.hid ((HB1.out.alloc hs1 _).trans (hfr.toBelow (HB1.out.alloc hs1 _).size (fun k hk => by
    rcases hk with rfl | h
    · exact Nat.le_refl _
    · simp [Value.ownBlock] at h)))
  have HA0 := Lib.hid hA0
  have HC0 := Lib.hid hcell
  have hs2 := HB2.out.size
  clear hF hS hfr hnew hA0 hcell
  go_wp2_with fail
  refine (wrap_any (some ⟨w2.heap.size, 0, none⟩) 1 [0] _ (by decide) (lit1 _ _ _ _)).mono ?_
  rintro e w3 ⟨v3, rfl, hO, hB⟩
  rw [al_wrap] at hO
  have hB23 : Below w2.heap.size w2 w3 := (al (Below.refl _ _) _).trans (hB.mono (by simp))
  have e1 := own_str hO
  have e2 := str_n 1 c0 rfl (HA0.out.below hB23 (Nat.le_refl _))
  have k0 := (hB23.cell (p := ⟨bo, oo + 0, none⟩) hbo).trans HC0.out
  have HF3 := Lib.hid (HF2.out.below hB23 (Nat.le_refl _))
  have HB3 := Lib.hid (HB2.out.trans (hB23.mono hs2))
  clear hO hB hB23
  simp only [Nat.add_zero] at k0
  go_wp2_with (go_at_call 13; refine (skipped_any w.heap.size 1 (0 + 2) v2 [26] _ HF3.out).mono ?_; rintro e w4 ⟨rfl, rfl⟩)
  go_ret
  exact ⟨rfl, HB3.out⟩
set_option maxHeartbeats 1000000 in
theorem rwrap_any (a : Option Addr) (cap : Nat) (l : List UInt8) (w : World) (hl : l.length ≤ 100000) (hb : BAt w a l) : Calls Try.prog 8 #[.slice a l.length cap] w (NB w (wrapB l)) := by
  have HB := Lib.hid hb
  obtain ⟨j0, hj, hy0, hy1, hy2⟩ := info_parts info5
  have HJ := Lib.hid hj
  clear hb hj
  go_enter Try.func8, Try.ntmps8
  go_wp2_with fail
  refine (rmarker_any _).mono ?_
  rintro e w1 ⟨rfl, hw1⟩
  have hm : w1.ownsRow w.heap.size 5 1 (.slice (some ⟨w.heap.size, 0, none⟩) 4 4) 4 (encB mk) := by rw [hw1]; exact mk_own w _ rfl _ (Nat.le_refl _)
  have hB1 : Below w.heap.size w w1 := by rw [hw1]; exact al (Below.refl _ _) _
  have HM := Lib.hid hm
  have HB1 := Lib.hid hB1
  have hs1 := hB1.size
  clear hw1 hm hB1
  go_wp2_with fail
  refine (RApply_any a cap l _ (by omega) (HB.out.below HB1.out (Nat.le_refl _))).mono ?_
  rintro e w2 ⟨v, rfl, hO, -, hB2⟩
  obtain ⟨-, a2, c2, rfl, hc2, hm2, hA2⟩ := BAt.of_row hO
  have HV := Lib.hid hA2.vat
  have HM2 := Lib.hid (own_below HM.out hB2 (Nat.le_refl _))
  have HB2 := Lib.hid (HB1.out.trans (hB2.mono hs1))
  have hs2 := HB2.out.size
  have hal : (appB l).length ≤ 100000 := by rw [appB_length]; exact hl
  clear hO hA2 hB2
  go_wp2_with (at_builtin; refine wpList_append_src _ rfl _ _ 22 rfl w.heap.size 5 j0 (.int .u8 0) 1 Try.underlying22 HJ.out hy0 hy1 hy2 rfl _ 4 (encB mk) rfl HM2.out a2 (appB l).length c2 (encB (appB l)) rfl (by simp [encB]) HV.out (encB_one _) (by unfold maxLen; omega) (by omega) hs2 ?_)
  intro v3 w3 hown hgrow hblk
  have HO : Hid (w3.ownsRow w.heap.size 5 1 v3 (wrapB l).length (encB (wrapB l))) := Lib.hid (by rw [wrapB, encB_append, List.length_append]; exact hown)
  have HB3 := Lib.hid (HB2.out.grown hgrow hs2 (fun k hk => by simp [Value.ownBlock] at hk; omega))
  clear hown hgrow hblk
  go_wp2_with fail
  go_ret
  exact ⟨_, rfl, HO.out, HB3.out⟩
end Go.Proofs.Ytjeigdopcdeaeaa

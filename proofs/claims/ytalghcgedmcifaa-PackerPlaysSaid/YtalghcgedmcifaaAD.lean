/- PackerPlays: Clone, the calls that came in, what a round keeps. No condition. -/
import Derived.Test.YtalghcgedmcifaaAC
namespace Go.Proofs.Ytalghcgedmcifaa
open Go.RowKit Go.Deep Go.ChangeShapes Go.WideShapes Go.ChangeAt
set_option linter.unusedVariables false

theorem rnext_any (S : Nat → Prop) (p : PS) (vL : Value) (w : World) (h : SAt w S vL p.L) (ok : p.Ok) (hsv : p.Sv7) : Calls Try.prog 21 #[RPV p vL] w (RNQ w S p.next) := by
  by_cases h0 : p.left = 0
  · exact rnext_zero S p vL w h ok h0
  · exact rnext_some S p vL w h ok h0 hsv
/-! ### no packer -/
theorem push_dead (v : Value) (w : World) : Calls Try.prog 11 #[.pointer none, v] w fun e w' => e = .returned (.int .i64 2) ∧ w' = w := by
  go_enter Try.func11, Try.ntmps11
  go_wp2_with (go_at_call 25; refine (none_dead _ w rfl).mono ?_; rintro e wq ⟨rfl, hw⟩; obtain rfl := hw.symm)
  go_ret
  exact ⟨rfl, rfl⟩
theorem left_dead (w : World) : Calls Try.prog 14 #[.pointer none] w fun e w' => e = .returned (.int .i64 0) ∧ w' = w := by
  go_enter Try.func14, Try.ntmps14
  go_wp2_with (go_at_call 25; refine (none_dead _ w rfl).mono ?_; rintro e wq ⟨rfl, hw⟩; obtain rfl := hw.symm)
  go_ret
  exact ⟨rfl, rfl⟩
theorem clone_dead (w : World) : Calls Try.prog 17 #[.pointer none] w fun e w' => e = .returned (.pointer none) ∧ w' = w := by
  go_enter Try.func17, Try.ntmps17
  go_wp2_with (go_at_call 25; refine (none_dead _ w rfl).mono ?_; rintro e wq ⟨rfl, hw⟩; obtain rfl := hw.symm)
  go_ret
  exact ⟨rfl, rfl⟩
/-! ### Clone -/
set_option maxRecDepth 20000 in
theorem clone_any (X : Nat → Prop) (b : Nat) (p : PS) (vW vR : Value) (w : World) (h : PAt w X b p vW vR) (ok : p.Ok) : Calls Try.prog 17 #[.pointer (some ⟨b, 0, none⟩)] w fun e w' => ∃ vW' vR', e = .returned (.pointer (some ⟨w.heap.size, 0, none⟩)) ∧ PAt w' (Av X b vW) w.heap.size p vW' vR' ∧ (∀ k, vW'.ownBlock = some k → w.heap.size < k) ∧ Below w.heap.size w w' := by
  obtain ⟨us, hO, hS⟩ := h.row
  obtain ⟨hul, aw, cw, rfl, hcw, hmw, hVW, -⟩ := VAt.of_row hO
  rw [← hul] at hcw h hS ⊢
  obtain ⟨ar, cr, rfl, hcr, hmr, hbr, -⟩ := id h.rest
  obtain ⟨n, hn⟩ : ∃ n, n = p.L.length := ⟨_, rfl⟩
  obtain ⟨rl, hrl⟩ : ∃ n, n = p.rest.length := ⟨_, rfl⟩
  have hfew := ok.few
  have hr6 := ok.rest
  have H1 := Lib.hid hS.one_cell
  rw [← hn] at h hfew hcw hul hS ⊢
  have HAV := Lib.hid h.avlt
  rw [← hrl] at h hr6 hcr
  have H := Lib.hid h
  have HS := Lib.hid hS
  have HU := Lib.hid hul.symm
  have HN := Lib.hid hn
  have HRL := Lib.hid hrl
  have h0 : Hid (aw = none → us = []) := Lib.hid (fun e => by
    subst e
    rcases hVW with h9 | ⟨b9, o9, h9, -⟩
    · exact h9
    · cases h9)
  have h1 : Hid (ar = none ∨ ∃ b off, ar = some ⟨b, off, none⟩) := Lib.hid (by
    rcases h.rsh with h9 | ⟨g, off, n9, c9, h9⟩
    · simp only [Value.slice.injEq] at h9; exact .inl h9.1
    · simp only [Value.slice.injEq] at h9; exact .inr ⟨g, off, h9.1⟩)
  have x0 := h.blk.at 0 rfl
  have x1 := h.blk.at 1 rfl
  have x2 := h.blk.at 2 rfl
  have x3 := h.blk.at 3 rfl
  have x4 := h.blk.at 4 rfl
  have x5 := h.blk.at 5 rfl
  have xl := h.blk.lt
  have HVW := Lib.hid hVW
  have HBR := Lib.hid hbr
  clear hO hS hul hVW hbr h hn hrl
  go_enter Try.func17, Try.ntmps17
  go_upto_region 4 with (go_at_call 25; refine (H.out.live ok).mono ?_; rintro e w2 ⟨rfl, hw⟩; obtain rfl := hw.symm)
  obtain ⟨w1, hw1⟩ : ∃ w1, w1 = w.alloc (.cells #[.int .i64 (p.size : Int), .int .i64 (p.room : Int), .int .i64 (p.left : Int), .int .i64 (p.taken : Int), .slice aw n cw, .slice ar rl cr] 56) := ⟨_, rfl⟩
  rw [← hw1]
  have HK1 : Hid (Blk w1 w.heap.size 56 [.int .i64 (p.size : Int), .int .i64 (p.room : Int), .int .i64 (p.left : Int), .int .i64 (p.taken : Int), .slice aw n cw, .slice ar rl cr]) := Lib.hid (by rw [hw1]; exact Blk.new w 56 _)
  have HB1 : Hid (Below w.heap.size w w1) := Lib.hid (by rw [hw1]; exact al (Below.refl _ _) _)
  have HH1 := Lib.hid (H.out.below HB1.out (Nat.le_refl _))
  have hs1 := HK1.out.lt
  clear hw1 x0 x1 x2 x3 x4 x5 xl
  have x4 := HH1.out.blk.at 4 rfl
  have xl := HH1.out.blk.lt
  go_wp2_with fail
  refine (cloneL_any aw n cw us w1 HU.out hfew (HVW.out.low HB1.out) H1.out h0.out).mono ?_
  rintro e w2 ⟨v2, rfl, hO2, hB2⟩
  obtain ⟨a2, n2, c2, rfl⟩ := own_slice hO2
  have HK2 := Lib.hid (HK1.out.below hB2 (Nat.le_refl _))
  have HB2 := Lib.hid (HB1.out.trans (hB2.mono HB1.out.size))
  have HO2 := Lib.hid hO2
  clear hO2 hB2 x4 xl
  have f4 := HK2.out.free 4
  have z4 := HK2.out.at 4 rfl
  have zl := HK2.out.lt
  go_upto_region 5 with fail
  obtain ⟨w3, hw3⟩ : ∃ w3, w3 = w2.setCell ⟨w.heap.size, 4, none⟩ (.slice a2 n2 c2) := ⟨_, rfl⟩
  rw [← hw3]
  have hF3 : Fr (fun k => k = w.heap.size) w2 w3 := by rw [hw3]; exact (Fr.refl _ _).set1 _ (by exact .inl rfl)
  have HK3 : Hid (Blk w3 w.heap.size 56 [.int .i64 (p.size : Int), .int .i64 (p.room : Int), .int .i64 (p.left : Int), .int .i64 (p.taken : Int), .slice a2 n2 c2, .slice ar rl cr]) := Lib.hid (by rw [hw3]; exact Blk.cast (HK2.out.setCell 4 _) rfl)
  have HB3 : Hid (Below w.heap.size w w3) := Lib.hid (HB2.out.trans (hF3.toBelow HB2.out.size (fun k hk => by omega)))
  have HO3 := Lib.hid (own_fr HO2.out hF3 (fun k hk e => by have := (HO2.out.lt k hk).1; omega))
  have HH3 := Lib.hid (H.out.below HB3.out (Nat.le_refl _))
  clear hw3 hF3 f4 z4 zl
  have x5 := HH3.out.blk.at 5 rfl
  have xl := HH3.out.blk.lt
  go_wp2_with fail
  refine (cloneB_any ar rl cr p.rest w3 HRL.out.symm (by rw [← HRL.out]; omega) (HBR.out.below HB3.out (Nat.le_refl _)) h1.out).mono ?_
  rintro e w4 ⟨v4, rfl, hO4, hB4⟩
  have HK4 := Lib.hid (HK3.out.below hB4 (Nat.le_refl _))
  have HB4 := Lib.hid (HB3.out.trans (hB4.mono HB3.out.size))
  have HO4 := Lib.hid hO4
  obtain ⟨-, a4, c4, rfl, hc4, hm4, hA4⟩ := BAt.of_row hO4
  have HA4 := Lib.hid hA4
  have HOU := Lib.hid (own_below HO3.out hB4 (Nat.le_refl _))
  rw [← HRL.out] at hc4
  clear hO4 hB4 x5 xl hA4
  have f5 := HK4.out.free 5
  have z5 := HK4.out.at 5 rfl
  have zl := HK4.out.lt
  go_wp2_with fail
  go_ret
  have hF5 : Fr (fun k => k = w.heap.size) w4 (w4.setCell ⟨w.heap.size, 5, none⟩ (.slice a4 p.rest.length c4)) := (Fr.refl _ _).set1 _ (by exact .inl rfl)
  have hs3 := HB3.out.size
  have hn2 : ∀ k, (Value.slice a2 n2 c2).ownBlock = some k → w1.heap.size ≤ k ∧ k < w3.heap.size := fun k hk => HO3.out.lt k hk
  have hrl : ∀ k, Av (Av X b (.slice aw n cw)) w.heap.size (.slice a2 n2 c2) k → k < w3.heap.size := fun k hk => by
    rcases hk with h9 | h9 | h9
    · have := HAV.out k h9; omega
    · have := HK3.out.lt; omega
    · exact (hn2 k h9).2
  have hB5 : Below w.heap.size w (w4.setCell ⟨w.heap.size, 5, none⟩ (.slice a4 p.rest.length c4)) := HB4.out.trans (hF5.toBelow HB4.out.size (fun k hk => by omega))
  refine ⟨_, _, rfl, ⟨Blk.cast (HK4.out.setCell 5 _) rfl, ⟨us, ?_, ?_⟩, ⟨a4, c4, rfl, by rw [← HRL.out]; exact hc4, hm4, ?_, fun q hq hne h9 => ?_⟩, fun k hk => ?_, ?_⟩, fun k hk => by have := (hn2 k hk).1; omega, hB5⟩
  · have h9 := own_fr HOU.out hF5 (fun k hk e => by have := (hn2 k hk).1; omega)
    rw [← HN.out]
    exact own_base h9 (by omega)
  · refine (HS.out.grow (fun k hk => ?_)).below hB5 (Nat.le_refl _)
    rcases hk with h9 | h9 | h9
    · exact .inl h9
    · exact .inr (by omega)
    · exact .inr (by have := (hn2 k h9).1; omega)
  · exact HA4.out.fr hF5 (fun q hq e => by have := (HO4.out.lt q.block (by rw [hq]; rfl)).1; have := HK3.out.lt; omega)
  · have h1 := (HO4.out.lt q.block (by rw [hq]; rfl)).1
    have := hrl _ h9
    omega
  · have := HAV.out k hk; have := HB4.out.size; have := hF5.size; omega
  · rcases own_shape HO4.out with ⟨rfl, rfl, h9⟩ | ⟨g, rfl, -⟩
    · left; rw [h9]
    · right; exact ⟨g, 0, _, _, rfl⟩
end Go.Proofs.Ytalghcgedmcifaa

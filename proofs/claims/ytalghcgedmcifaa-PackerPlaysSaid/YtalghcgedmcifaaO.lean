/- Contract of take. No condition. -/
import Derived.Test.YtalghcgedmcifaaN
namespace Go.Proofs.Ytalghcgedmcifaa
open Go.RowKit Go.Deep Go.ChangeShapes Go.WideShapes Go.ChangeAt
set_option linter.unusedVariables false

/-- take gives bytes -/
def TQ (w : World) (X : Nat → Prop) (b : Nat) (vW vR : Value) (r : PS × List UInt8) (e : Ending) (w' : World) : Prop :=
  ∃ v vW', e = .returned v ∧ PAt w' X b r.1 vW' vR ∧ Sl w' (Av X b vW') v r.2 ∧ (vW'.ownBlock = vW.ownBlock ∨ ∀ k, vW'.ownBlock = some k → w.heap.size ≤ k) ∧ Fr (fun k => k = b) w w'
theorem TQ.of {w w' : World} {X : Nat → Prop} {b : Nat} {vW vR v vW' : Value} {r : PS × List UInt8} {q : PS} {l : List UInt8} (hr : r = (q, l)) (h1 : PAt w' X b q vW' vR) (h2 : Sl w' (Av X b vW') v l) (h3 : vW'.ownBlock = vW.ownBlock ∨ ∀ k, vW'.ownBlock = some k → w.heap.size ≤ k) (h4 : Fr (fun k => k = b) w w') : TQ w X b vW vR r (.returned v) w' := by
  subst hr
  exact ⟨v, vW', rfl, h1, h2, h3, h4⟩
theorem Sls.low2 {w w' : World} {S : Nat → Prop} {vs : List Value} {L : List (List UInt8)} (h : Sls w S vs L) (hb : Below w.heap.size w w') : Sls w' S vs L :=
  h.fr (T := fun k => w.heap.size ≤ k) (Fr.of_below hb (Nat.le_refl _)) (fun k hk => .inr hk)
theorem sl_part {w : World} {S : Nat → Prop} {bx ox cx : Nat} {x : List UInt8} (h : BAt w (some ⟨bx, ox, none⟩) x) (hc : x.length ≤ cx) (hm : cx ≤ maxLen) (hs : x ≠ [] → ¬ S bx) (k n : Nat) (hk : k < x.length) (hn : n ≤ x.length - k) : Sl w S (.slice (some ⟨bx, ox + k, none⟩) n (cx - k)) ((x.drop k).take n) := by
  have hl : ((x.drop k).take n).length = n := by rw [List.length_take, List.length_drop]; omega
  refine ⟨some ⟨bx, ox + k, none⟩, cx - k, by rw [hl], by rw [hl]; omega, by omega, ?_, fun q hq _ => by cases hq; exact hs (fun e => by rw [e] at hk; simp at hk)⟩
  rcases h with h | ⟨b', o', h1, h2, h3⟩
  · subst h; simp at hk
  · cases h1
    refine .inr ⟨bx, ox + k, rfl, h2, fun i hi => ?_⟩
    have hi' : k + i < x.length := by rw [hl] at hi; omega
    have := h3 (k + i) hi'
    rw [← Nat.add_assoc] at this
    rw [this]
    simp
set_option maxRecDepth 20000 in
set_option maxHeartbeats 1000000 in
theorem take_any (X : Nat → Prop) (b most : Nat) (p : PS) (vW vR : Value) (w : World) (h : PAt w X b p vW vR) (ok : p.Ok) (hL : p.L ≠ []) (hm1 : most ≤ 10000) :
    Calls Try.prog 28 #[.pointer (some ⟨b, 0, none⟩), .int .i64 (most : Int)] w (TQ w X b vW vR (p.take most)) := by
  obtain ⟨x, xs, e⟩ : ∃ x xs, p.L = x :: xs := by
    cases e : p.L with
    | nil => exact absurd e hL
    | cons x xs => exact ⟨x, xs, rfl⟩
  obtain ⟨g, cap, u, us, ax, cx, rfl, hcap, hcm, hg, rfl, hcx, hcxm, hax, hsx, hcell, hV, hlen, hS, h1c⟩ := h.first e
  have htk := ok.taken x xs e
  have hxl := (ok.each x (by rw [e]; simp)).2
  have hfew := ok.few
  have hxsl : xs.length ≤ 200000 := by have := ok.few; rw [e] at this; simp at this; omega
  have hleft := ok.left
  rw [e, List.flatten_cons, List.length_append] at hleft
  obtain ⟨bx, ox, rfl⟩ : ∃ bx ox, ax = some ⟨bx, ox, none⟩ := by
    rcases hax with h9 | ⟨b9, o9, h9, -⟩
    · rw [h9] at htk; simp at htk
    · exact ⟨b9, o9, h9⟩
  have hne : x ≠ [] := fun e9 => by rw [e9] at htk; simp at htk
  have hsb := hsx _ rfl hne
  have c2 := h.blk.at 2 rfl
  have c3 := h.blk.at 3 rfl
  have c4 := h.blk.at 4 rfl
  have f2 := h.blk.free 2
  have f3 := h.blk.free 3
  have f4 := h.blk.free 4
  have hlt := h.blk.lt
  have hgb : b ≠ g := by have := h.lt g rfl; omega
  have H := Lib.hid h
  have HX := Lib.hid hax
  have HS := Lib.hid hS
  have HV := Lib.hid hV
  have HE := Lib.hid e
  have H1 := Lib.hid h1c
  have HLN := Lib.hid hlen
  have g0 : (0 : Int) ≤ (p.taken : Int) := by omega
  have g1 : (p.taken : Int) ≤ (x.length : Int) := by omega
  have g2 : (0 : Int) < (xs.length : Int) + 1 := by omega
  have g3 : (x.length : Int) ≤ 4096 := by omega
  have g4 : ¬ (cx : Int) = (p.taken : Int) := by omega
  have g5 : ¬ cx = p.taken := by omega
  have g6 : (p.taken : Int) ≤ (cx : Int) := by omega
  obtain ⟨n, hn⟩ : ∃ n, n = x.length - p.taken := ⟨_, rfl⟩
  have HN := Lib.hid hn
  by_cases hm : most < n
  · have e1 : (most : Int) < (n : Int) := by omega
    have HT : Hid (p.take most = ({ p with taken := p.taken + most, left := p.left - most }, (x.drop p.taken).take most)) := Lib.hid (by unfold PS.take; rw [e]; dsimp only; rw [if_pos (by omega)])
    have HL : Hid (((p.left - most : Nat) : Int) = (p.left : Int) - (most : Int)) := Lib.hid (by omega)
    have b1 : (p.left : Int) ≤ 1048576 := by have := ok.most; have := ok.room; omega
    clear h e hax hS hV h1c hlen hL hleft hsx hne
    go_enter Try.func28, Try.ntmps28
    go_wp2_with (go_quiet (fail))
    go_ret
    have hfr : Fr (fun k => k = b) w (((w.drewN nq).setCell ⟨b, 3, none⟩ (.int .i64 ((p.taken : Int) + (most : Int)))).setCell ⟨b, 2, none⟩ (.int .i64 ((p.left : Int) - (most : Int)))) := frs (frs ((Fr.refl _ w).drewN nq) _ _) _ _
    refine TQ.of HT.out (H.out.put (Blk.cast (((H.out.blk.drewN nq).setCell 3 _).setCell 2 _) (by unfold pcells; simp [HL.out])) hfr rfl rfl) ?_ (.inl rfl) hfr
    exact sl_part (HX.out.fr hfr (fun q hq => by cases hq; exact fun e9 => hsb (.inr (.inl e9)))) hcx hcxm (fun _ => hsb) _ _ htk (by omega)
  · have e1 : ¬ (most : Int) < (n : Int) := by omega
    have HT : Hid (p.take most = ({ p with L := xs, taken := 0, left := p.left - n }, x.drop p.taken)) := Lib.hid (by unfold PS.take; rw [e]; dsimp only; rw [if_neg (by omega), hn])
    have HL2 : Hid ((p.left : Int) - ((x.length - p.taken : Nat) : Int) = ((p.left - (x.length - p.taken) : Nat) : Int)) := Lib.hid (by omega)
    have b1 : (p.left : Int) ≤ 1048576 := by have := ok.most; have := ok.room; omega
    have b2 : (n : Int) ≤ 4096 := by omega
    clear h e hax hS hV h1c hlen hL hleft hsx hne ok
    have go1 : ∀ (a : Option Addr) (m c : Nat), (cap = 1 → a = some ⟨g, 0, none⟩) → m = xs.length → VAt w a us → Hid (VAt w a us ∧ us.length = m ∧ m ≤ 200000) := fun a m c _ hm2 hv => Lib.hid ⟨hv, by rw [hm2, HLN.out], by omega⟩
    by_cases hc1 : cap = 1
    · have q1 : xs.length = 0 := by omega
      have HV2 := go1 (some ⟨g, 0, none⟩) 0 0 (fun _ => rfl) q1.symm (.inl (by have := HLN.out; exact List.length_eq_zero_iff.1 (by omega)))
      subst hc1
      rw [q1] at H c4 ⊢
      have HQ1 := Lib.hid q1
      clear go1 q1 g2
      go_enter Try.func28, Try.ntmps28
      go_upto_region 6 with (go_quiet (fail))
      obtain ⟨w6, hw6⟩ : ∃ w6, w6 = w.drewN nq := ⟨_, rfl⟩
      rw [← hw6]
      have H6 : Hid (PAt w6 X b p (.slice (some ⟨g, 0, none⟩) (0 + 1) 1) vR) := Lib.hid (by rw [hw6]; exact H.out.quiet ⟨nq, rfl⟩)
      have HF6 : Hid (Fr (fun k => k = b) w w6) := Lib.hid (by rw [hw6]; exact (Fr.refl _ w).drewN nq)
      have HQ6 : Hid (Below w.heap.size w w6) := Lib.hid (by rw [hw6]; exact Quiet.below ⟨nq, rfl⟩)
      clear c2 c3 c4 f2 f3 f4 hw6 hcell
      have c4 := H6.out.blk.at 4 rfl
      have hlt6 := H6.out.blk.lt
      go_wp2_with fail
      refine (cloneL_any (some ⟨g, 0, none⟩) (0) (0) us w6 HV2.out.2.1 HV2.out.2.2 (HV2.out.1.low HQ6.out) H1.out (fun e9 => by cases e9)).mono ?_
      rintro e w7 ⟨v7, rfl, hO7, hB7⟩
      obtain ⟨a7, m7, c7, rfl⟩ := own_slice hO7
      have H7 := Lib.hid (H6.out.below hB7 (Nat.le_refl _))
      have HO7 := Lib.hid hO7
      have HB7 := Lib.hid hB7
      clear c4 hO7 hB7
      have c2 := H7.out.blk.at 2 rfl
      have c3 := H7.out.blk.at 3 rfl
      have c4 := H7.out.blk.at 4 rfl
      have f2 := H7.out.blk.free 2
      have f3 := H7.out.blk.free 3
      have f4 := H7.out.blk.free 4
      have hlt7 := H7.out.blk.lt
      go_wp2_with fail
      go_ret
      have hf7 : Fr (fun k => k = b) w7 (((w7.setCell ⟨b, 4, none⟩ (.slice a7 m7 c7)).setCell ⟨b, 3, none⟩ (.int .i64 0)).setCell ⟨b, 2, none⟩ (.int .i64 ((p.left : Int) - ((x.length - p.taken : Nat) : Int)))) := frs (frs (frs (Fr.refl _ w7) _ _) _ _) _ _
      have hfr := (HF6.out.below HB7.out (Nat.le_refl _)).trans hf7
      have hbx : bx < w.heap.size := by
        rcases HX.out with h9 | ⟨b9, o9, h9, h8, -⟩
        · rw [h9] at htk; simp at htk
        · cases h9; exact h8
      have hs6 := HQ6.out.size
      have hown := own_low (own_low (own_low HO7.out hlt6 4 (.slice a7 m7 c7)) hlt6 3 (.int .i64 0)) hlt6 2 (.int .i64 ((p.left : Int) - ((x.length - p.taken : Nat) : Int)))
      have hnw : ∀ k, (Value.slice a7 m7 c7).ownBlock = some k → w6.heap.size ≤ k := fun k hk => (HO7.out.lt k hk).1
      refine TQ.of HT.out (H6.out.row_new (us := us) (Blk.cast (((H7.out.blk.setCell 4 _).setCell 3 _).setCell 2 _) (by unfold pcells; simp [HN.out, HL2.out])) (((Fr.of_below HB7.out (Nat.le_refl _)).trans hf7).wide (fun k hk => .inl (.inl hk))) (by have e9 := own_base hown (B' := b + 1) (by omega); rw [show ({ p with L := xs, taken := 0, left := p.left - n } : PS).L.length = 0 from HQ1.out]; exact e9) (HS.out.low2 HQ6.out) rfl (.inr hnw)) ?_ (.inr fun k hk => Nat.le_trans hs6 (hnw k hk)) hfr
      · have h9 := sl_part (S := Av X b (.slice a7 m7 c7)) (HX.out.fr hfr (fun q hq => by cases hq; exact fun e9 => hsb (.inr (.inl e9)))) hcx hcxm (fun _ h8 => by
          rcases h8 with h8 | h8 | h8
          · exact hsb (.inl h8)
          · exact hsb (.inr (.inl h8))
          · have := hnw _ h8; omega) p.taken (x.length - p.taken) htk (Nat.le_refl _)
        rwa [List.take_of_length_le (by simp)] at h9
    · have q2 : ¬ (cap : Int) = 1 := by omega
      have HV2 := go1 (some ⟨g, 0 + 1, none⟩) xs.length (cap - 1) (fun e9 => absurd e9 hc1) rfl HV.out
      have q3 : (1 : Int) ≤ (cap : Int) := by omega
      clear go1
      go_enter Try.func28, Try.ntmps28
      go_upto_region 6 with (go_quiet (fail))
      obtain ⟨w6, hw6⟩ : ∃ w6, w6 = w.drewN nq := ⟨_, rfl⟩
      rw [← hw6]
      have H6 : Hid (PAt w6 X b p (.slice (some ⟨g, 0, none⟩) (xs.length + 1) cap) vR) := Lib.hid (by rw [hw6]; exact H.out.quiet ⟨nq, rfl⟩)
      have HF6 : Hid (Fr (fun k => k = b) w w6) := Lib.hid (by rw [hw6]; exact (Fr.refl _ w).drewN nq)
      have HQ6 : Hid (Below w.heap.size w w6) := Lib.hid (by rw [hw6]; exact Quiet.below ⟨nq, rfl⟩)
      clear c2 c3 c4 f2 f3 f4 hw6 hcell
      have c4 := H6.out.blk.at 4 rfl
      have hlt6 := H6.out.blk.lt
      go_wp2_with fail
      refine (cloneL_any (some ⟨g, 0 + 1, none⟩) (xs.length) (cap - 1) us w6 HV2.out.2.1 HV2.out.2.2 (HV2.out.1.low HQ6.out) H1.out (fun e9 => by cases e9)).mono ?_
      rintro e w7 ⟨v7, rfl, hO7, hB7⟩
      obtain ⟨a7, m7, c7, rfl⟩ := own_slice hO7
      have H7 := Lib.hid (H6.out.below hB7 (Nat.le_refl _))
      have HO7 := Lib.hid hO7
      have HB7 := Lib.hid hB7
      clear c4 hO7 hB7
      have c2 := H7.out.blk.at 2 rfl
      have c3 := H7.out.blk.at 3 rfl
      have c4 := H7.out.blk.at 4 rfl
      have f2 := H7.out.blk.free 2
      have f3 := H7.out.blk.free 3
      have f4 := H7.out.blk.free 4
      have hlt7 := H7.out.blk.lt
      go_wp2_with fail
      go_ret
      have hf7 : Fr (fun k => k = b) w7 (((w7.setCell ⟨b, 4, none⟩ (.slice a7 m7 c7)).setCell ⟨b, 3, none⟩ (.int .i64 0)).setCell ⟨b, 2, none⟩ (.int .i64 ((p.left : Int) - ((x.length - p.taken : Nat) : Int)))) := frs (frs (frs (Fr.refl _ w7) _ _) _ _) _ _
      have hfr := (HF6.out.below HB7.out (Nat.le_refl _)).trans hf7
      have hbx : bx < w.heap.size := by
        rcases HX.out with h9 | ⟨b9, o9, h9, h8, -⟩
        · rw [h9] at htk; simp at htk
        · cases h9; exact h8
      have hs6 := HQ6.out.size
      have hown := own_low (own_low (own_low HO7.out hlt6 4 (.slice a7 m7 c7)) hlt6 3 (.int .i64 0)) hlt6 2 (.int .i64 ((p.left : Int) - ((x.length - p.taken : Nat) : Int)))
      have hnw : ∀ k, (Value.slice a7 m7 c7).ownBlock = some k → w6.heap.size ≤ k := fun k hk => (HO7.out.lt k hk).1
      refine TQ.of HT.out (H6.out.row_new (us := us) (Blk.cast (((H7.out.blk.setCell 4 _).setCell 3 _).setCell 2 _) (by unfold pcells; simp [HN.out, HL2.out])) (((Fr.of_below HB7.out (Nat.le_refl _)).trans hf7).wide (fun k hk => .inl (.inl hk))) (by have e9 := own_base hown (B' := b + 1) (by omega); exact e9) (HS.out.low2 HQ6.out) rfl (.inr hnw)) ?_ (.inr fun k hk => Nat.le_trans hs6 (hnw k hk)) hfr
      · have h9 := sl_part (S := Av X b (.slice a7 m7 c7)) (HX.out.fr hfr (fun q hq => by cases hq; exact fun e9 => hsb (.inr (.inl e9)))) hcx hcxm (fun _ h8 => by
          rcases h8 with h8 | h8 | h8
          · exact hsb (.inl h8)
          · exact hsb (.inr (.inl h8))
          · have := hnw _ h8; omega) p.taken (x.length - p.taken) htk (Nat.le_refl _)
        rwa [List.take_of_length_le (by simp)] at h9
end Go.Proofs.Ytalghcgedmcifaa

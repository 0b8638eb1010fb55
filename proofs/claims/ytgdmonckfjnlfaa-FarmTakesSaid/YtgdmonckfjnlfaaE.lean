/- control and Take of a Farm. No condition. -/
import Derived.Test.YtgdmonckfjnlfaaD
namespace Go.Proofs.Ytgdmonckfjnlfaa
open Go.RowKit Go.Deep Go.ChangeShapes Go.WideShapes Go.ChangeAt
set_option linter.unusedVariables false

theorem dir_any (x : TF) (a : Option Addr) (cap : Nat) (w : World) (hx : BAt w a x.dat) (hl : x.dat.length ≤ cap) (hm : x.dat.length ≤ 1000000000) : Calls Try.prog 26 #[x.val a cap] w (DQ w x a cap (dirS x)) := by
  by_cases h : x.byp = false ∨ x.ctl = false
  · exact dir_no x a cap w h
  · refine dir_yes x a cap w ⟨?_, ?_⟩ hx hl hm
    · cases e : x.byp
      · exact absurd (.inl e) h
      · rfl
    · cases e : x.ctl
      · exact absurd (.inr e) h
      · rfl
/-- what control makes of a frame -/
def ctlS (s : FS) (x : TF) : FS × Int :=
  if (dirS x).2.2 = false then (s, 0)
  else if (dirS x).1 = 0 then ({ s with lock := false, wait := false, retr := false }.bypass, 5)
  else if s.lock = true then (s, 4)
  else ({ s with next := (dirS x).2.1, wait := false, retr := false }.bypass, 5)
theorem control_any (b : Nat) (s : FS) (x : TF) (a : Option Addr) (cap : Nat) (w : World) (h : FAt w b s) (h0 : 0 ≤ s.byp ∧ s.byp ≤ 3) (hx : BAt w a x.dat) (hl : x.dat.length ≤ cap) (hm : x.dat.length ≤ 1000000000) :
    Calls Try.prog 19 #[.pointer (some ⟨b, 0, none⟩), x.val a cap] w (FQ w b (ctlS s x)) := by
  have HS : Hid (ctlS s x = if (dirS x).2.2 = false then (s, 0)
    else if (dirS x).1 = 0 then ({ s with lock := false, wait := false, retr := false }.bypass, 5)
    else if s.lock = true then (s, 4)
    else ({ s with next := (dirS x).2.1, wait := false, retr := false }.bypass, 5)) := rfl
  have H := Lib.hid h
  have HX := Lib.hid hx
  have H0 := Lib.hid h0
  have hb := h.lt
  clear h hx h0
  unfold TF.val
  go_enter Try.func19, Try.ntmps19
  go_wp2_with fail
  refine (dir_any x a cap _ (HX.out.below (al (Below.refl _ _) _) (Nat.le_refl _)) hl hm).mono ?_
  rintro e w2 ⟨rfl, hB⟩
  have hF : FAt w2 b s := Blk.below (Blk.alloc H.out _) hB (Nat.le_refl _)
  have hFr : Fr (fun k => k = b) w w2 := Fr.of_below ((al (Below.refl _ _) _).trans (hB.mono (by simp))) (Nat.le_refl _)
  obtain ⟨hb2, ⟨c0, c1, c2, c3, c4, c5, c6, c7⟩, f3, f4, f5, f6, f7⟩ := hF.walk
  have HFr := Lib.hid hFr
  have HF := Lib.hid hF
  clear hF hFr hB
  generalize dirS x = D at HS ⊢
  obtain ⟨d1, d2, d3⟩ := D
  simp only
  cases d3
  · go_wp2_with fail
    go_ret
    rw [HS.out]
    exact ⟨rfl, HF.out, HFr.out⟩
  · by_cases h1 : d1 = 0
    · have h10 : (d1 == 0) = true := by rw [h1]; rfl
      have HD := Lib.hid h1
      clear h1
      go_wp2_with fail
      refine (bypass_any b ⟨s.craft, s.win, s.chan, false, false, false, s.byp, s.next⟩ _ (Blk.cast (((HF.out.setCell 3 _).setCell 4 _).setCell 5 _) rfl) H0.out).mono ?_
      rintro e w3 ⟨rfl, hF3, hFr3⟩
      have HFr3 := Lib.hid ((((HFr.out.set1 _ (by exact .inl rfl)).set1 _ (by exact .inl rfl)).set1 _ (by exact .inl rfl)).trans hFr3)
      have HF3 := Lib.hid hF3
      clear hF3 hFr3
      go_wp2_with fail
      go_ret
      rw [HS.out, if_neg (by simp), if_pos HD.out]
      exact ⟨rfl, HF3.out, HFr3.out⟩
    · have h10 : (d1 == 0) = false := by rw [beq_eq_false_iff_ne]; exact h1
      have HD := Lib.hid h1
      clear h1
      cases hlk : s.lock
      · rw [hlk] at c3
        go_wp2_with fail
        refine (bypass_any b ⟨s.craft, s.win, s.chan, false, false, false, s.byp, d2⟩ _ (Blk.cast (((HF.out.setCell 7 _).setCell 4 _).setCell 5 _) (by rw [FS.cells, hlk]; rfl)) H0.out).mono ?_
        rintro e w3 ⟨rfl, hF3, hFr3⟩
        have HFr3 := Lib.hid ((((HFr.out.set1 _ (by exact .inl rfl)).set1 _ (by exact .inl rfl)).set1 _ (by exact .inl rfl)).trans hFr3)
        have HF3 := Lib.hid hF3
        have HLK := Lib.hid hlk
        clear hF3 hFr3 hlk
        go_wp2_with fail
        go_ret
        rw [HS.out, if_neg (by simp), if_neg HD.out, if_neg (by rw [HLK.out]; simp)]
        refine ⟨rfl, ?_, HFr3.out⟩
        have := HF3.out
        simpa [FS.bypass, HLK.out] using this
      · rw [hlk] at c3
        have HLK := Lib.hid hlk
        clear hlk
        go_wp2_with fail
        go_ret
        rw [HS.out, if_neg (by simp), if_neg HD.out, if_pos HLK.out]
        exact ⟨rfl, HF.out, HFr.out⟩
end Go.Proofs.Ytgdmonckfjnlfaa

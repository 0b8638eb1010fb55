/- The chapter's example. No condition. -/
import Derived.Test.YtgdmonckfjnlfaaH
namespace Go.Proofs.Ytgdmonckfjnlfaa
open Go.RowKit Go.Deep Go.ChangeShapes Go.WideShapes Go.ChangeAt
set_option linter.unusedVariables false

theorem okw {s : FS} (h1 : s.win = 4) (h2 : s.byp = 0) : s.ok := ⟨by rw [h1]; decide, by rw [h2]; decide⟩
set_option maxRecDepth 20000 in
set_option maxHeartbeats 4000000 in
theorem alive_any (w : World) : Calls Try.prog 7 #[] w fun e w' => e = .returned (.bool true) ∧ Below w.heap.size w w' := by
  go_enter Try.func7, Try.ntmps7
  go_wp2_with fail
  refine (new_ok 7 1 4 _ (by decide)).mono ?_
  rintro e w1 ⟨rfl, hF, hB⟩
  have HF := Lib.hid (show FAt w1 w.heap.size al0 from hF)
  have HB1 := Lib.hid hB
  have hs1 := hB.size
  clear hF hB
  go_wp2_with fail
  refine (data_any 0 _).mono ?_
  rintro e w2 ⟨p2, c2, rfl, hd, hc, hp, hB⟩
  go_wp2_with fail
  refine (take_data HF.out (okw rfl rfl) (Nat.le_refl _) hd hc hp hB hs1).mono ?_
  rw [al_t0]
  rintro e w3 ⟨a3, c3, rfl, hF3, -, -, hB3, -⟩
  have HF3 := Lib.hid hF3
  have HB3 := Lib.hid (HB1.out.trans hB3)
  have hs3 := HB3.out.size
  clear hd hc hp hB hF3 hB3 HF HB1 hs1
  go_wp2_with fail
  refine (data_any 2 _).mono ?_
  rintro e w4 ⟨p2, c2, rfl, hd, hc, hp, hB⟩
  go_wp2_with fail
  refine (take_data HF3.out (okw rfl rfl) (Nat.le_refl _) hd hc hp hB hs3).mono ?_
  rw [al_t1]
  rintro e w5 ⟨a5, c5, rfl, hF5, -, -, hB5, -⟩
  have HF5 := Lib.hid hF5
  have HB5 := Lib.hid (HB3.out.trans hB5)
  have hs5 := HB5.out.size
  clear hd hc hp hB hF5 hB5 HF3 HB3 hs3
  go_wp2_with fail
  refine (data_any 1 _).mono ?_
  rintro e w6 ⟨p2, c2, rfl, hd, hc, hp, hB⟩
  go_wp2_with fail
  refine (take_data HF5.out (okw rfl rfl) (Nat.le_refl _) hd hc hp hB hs5).mono ?_
  rw [al_t2]
  rintro e w7 ⟨a7, c7, rfl, hF7, -, hA7, hB7, -⟩
  have HF7 := Lib.hid hF7
  have HB7 := Lib.hid (HB5.out.trans hB7)
  have HA7 := Lib.hid hA7
  have hs7 := HB7.out.size
  clear hd hc hp hB hF7 hB7 HF5 HB5 hs5 hA7
  go_wp2_with fail
  refine (data_any 0 _).mono ?_
  rintro e w8 ⟨p2, c2, rfl, hd, hc, hp, hB⟩
  go_wp2_with fail
  refine (take_data HF7.out (okw rfl rfl) (Nat.le_refl _) hd hc hp hB hs7).mono ?_
  rw [al_t3]
  rintro e w9 ⟨a9, c9, rfl, hF9, -, -, hB9, hr9⟩
  have HF9 := Lib.hid hF9
  have HB9 := Lib.hid (HB7.out.trans hB9)
  have HA9 := Lib.hid (HF7.out.keep HA7.out hr9)
  have hs9 := HB9.out.size
  clear hd hc hp hB hF9 hB9 HF7 HB7 hs7 hr9 HA7
  go_wp2_with fail
  refine (data_any 9 _).mono ?_
  rintro e w8 ⟨p2, c2, rfl, hd, hc, hp, hB⟩
  go_wp2_with fail
  refine (take_data HF9.out (okw rfl rfl) (Nat.le_refl _) hd hc hp hB hs9).mono ?_
  rw [al_t4]
  rintro e w10 ⟨a10, c10, rfl, hF10, -, -, hB10, hr10⟩
  have HF10 := Lib.hid hF10
  have HB10 := Lib.hid (HB9.out.trans hB10)
  have HA10 := Lib.hid (HF9.out.keep HA9.out hr10)
  have hs10 := HB10.out.size
  clear hd hc hp hB hF10 hB10 HF9 HB9 hs9 hr10 HA9
  have hcv : (convert 27 9 (.slice a7 1 c7)).run Try.prog w10 = .ok (.string ⟨#[1]⟩) w10 := HA10.out.str 27 9 5 c7 Try.underlying27 Try.underlying5 Try.underlying9
  go_wp2_with fail
  refine (report_any _ _ _ HF10.out (by decide)).mono ?_
  rintro e w11 ⟨rfl, hB⟩
  have HB11 := Lib.hid (HB10.out.trans (hB.mono hs10))
  clear hB
  unfold FS.word
  go_wp2_with fail
  go_ret
  exact ⟨rfl, HB11.out⟩
def ctl0 : TF := ⟨true, true, 7, 1, 0, [0]⟩
theorem lk_t0 : takeF al0 (dataF 100) true = (⟨7, 4, 1, true, false, false, 0, 0⟩, [], 4) := by rfl
theorem lk_t1 (n : Int) (h : 0 ≤ n ∧ n ≤ 255) : takeF ⟨7, 4, 1, true, false, false, 0, 0⟩ (dataF n) true = (⟨7, 4, 1, true, false, false, 0, 0⟩, [], 4) := by
  have hv : validB (dataF n) = true := by simp [validB, dataF, h.1, h.2]
  unfold takeF
  rw [if_neg (by rw [hv]; simp [dataF]), if_pos (by simp [verS, dataF, seqS])]
  simp [verS, dataF, seqS]
theorem lk_t2 : takeF ⟨7, 4, 1, true, false, false, 0, 0⟩ ctl0 true = (⟨7, 4, 1, false, false, false, 1, 0⟩, [], 5) := by rfl
theorem lk_t3 : takeF ⟨7, 4, 1, false, false, false, 1, 0⟩ (dataF 0) true = (⟨7, 4, 1, false, false, false, 1, 1⟩, [0], 1) := by rfl
theorem lk_t4 (n : Int) (h : 0 ≤ n ∧ n ≤ 255) : (takeF ⟨7, 4, 1, false, false, false, 1, 1⟩ (dataF n) true).2.2 = 1 ↔ n = 1 := by
  have hv : validB (dataF n) = true := by simp [validB, dataF, h.1, h.2]
  have hd : distC 1 n = (n - 1) % 256 := by
    unfold distC
    rw [if_pos (by simp [cntB]; omega)]
  unfold takeF
  rw [if_neg (by rw [hv]; simp [dataF])]
  by_cases h1 : n = 1
  · subst h1; simp; decide
  · have h2 : (n - 1) % 256 ≠ 0 := by omega
    simp only [verS, dataF, seqS, hd]
    simp [h1, h2]
    repeat' split
    all_goals first
      | (simp; done)
      | (rename_i h9; exact absurd h9 (by simp))
end Go.Proofs.Ytgdmonckfjnlfaa

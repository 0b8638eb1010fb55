/- Contracts of Clone, fitting. No condition. -/
import Derived.Test.YtllpbfejoahllaaG
import Derived.Outline
namespace Go.Proofs.Ytllpbfejoahllaa
open Go.RowKit Go.Deep Go.ChangeShapes Go.WideShapes Go.ChangeAt
set_option linter.unusedVariables false

/-- the rest of an unpacker is new -/
def New (w : World) (a : Option Addr) : Prop := ∀ q, a = some q → w.heap.size ≤ q.block
theorem uclone_any (b cap : Nat) (u : US) (a : Option Addr) (w : World) (h : UAt w b u a cap) (hr : u.rest.length ≤ 100000) : Calls Try.prog 15 #[.pointer (some ⟨b, 0, none⟩)] w fun e w' =>
    ∃ a' cap', e = .returned (.pointer (some ⟨w.heap.size, 0, none⟩)) ∧ UAt w' w.heap.size u a' cap' ∧ New w a' ∧ Below w.heap.size w w' := by
  obtain ⟨started, step, next, lost, rest⟩ := u
  obtain ⟨hb, ⟨c0, c1, c2, c3, c4, c5⟩, -⟩ := h.walk
  have H := Lib.hid h
  simp only at c1 c2 c3 c4 c5 hr
  clear h
  go_enter Try.func15, Try.ntmps15
  go_wp2_with fail
  refine (clone_n a rest.length cap rest _ rfl (by omega) (H.out.at_.below (al (Below.refl _ _) _) (Nat.le_refl _))).mono ?_
  rintro e w2 ⟨v2, rfl, hO, hB⟩
  obtain ⟨-, a2, cp2, rfl, hc2, hm2, hA2⟩ := BAt.of_row hO
  have hsh := own_shape hO
  have hk := (Blk.new w 48 (ucells ⟨started, step, next, lost, rest⟩ a cap)).below hB (Nat.le_refl _)
  have r5 := hk.at 5 rfl
  have rf5 := hk.free 5
  have hl2 := hk.lt
  have HK := Lib.hid hk
  have HA2 := Lib.hid hA2
  have HSH := Lib.hid hsh
  have HB := Lib.hid ((al (Below.refl _ _) _).trans (hB.mono (by simp)))
  clear hk hO hB hA2 hsh
  go_wp2_with fail
  go_ret
  have hn : ∀ q, a2 = some q → w.heap.size + 1 ≤ q.block := fun q hq => by
    rcases HSH.out with ⟨e, -⟩ | ⟨g, e, h1, -⟩
    · rw [e] at hq; cases hq
    · rw [e] at hq; cases hq; simpa using h1
  refine ⟨a2, cp2, rfl, ⟨Blk.cast (HK.out.setCell 5 _) rfl, hc2, hm2, ?_, ?_, fun q hq e => by have := hn q hq; omega⟩, fun q hq => by have := hn q hq; omega, HB.out.setCell (p := ⟨w.heap.size, 5, none⟩) (Nat.le_refl _) _⟩
  · exact HA2.out.fr (S := fun k => k = w.heap.size) ((Fr.refl _ _).set1 _ (by exact .inl rfl)) (fun q hq e => by have := hn q hq; omega)
  · rcases HSH.out with ⟨e1, e2, -⟩ | ⟨g, e, -⟩
    · exact .inl ⟨e1, e2⟩
    · exact .inr ⟨g, 0, e⟩
theorem getD_app6 (rest data : List UInt8) (m : Nat) (hm : m = min data.length 6) (h : 6 ≤ rest.length + data.length) (i : Nat) (hi : i < 6) : (rest ++ data.take m).getD i 0 = (rest ++ data).getD i 0 := by
  subst hm
  rw [List.getD_eq_getElem?_getD, List.getD_eq_getElem?_getD]
  rcases Nat.lt_or_ge i rest.length with h1 | h1
  · rw [List.getElem?_append_left h1, List.getElem?_append_left h1]
  · rw [List.getElem?_append_right h1, List.getElem?_append_right h1, List.getElem?_take_of_lt (by omega)]
theorem hd6 (rest data : List UInt8) (m : Nat) (hm : m = min data.length 6) (h : 6 ≤ rest.length + data.length) : hdN (rest ++ data.take m) = hdN (rest ++ data) ∧ hdOk (rest ++ data.take m) = hdOk (rest ++ data) := by
  have e : ∀ i, i < 6 → _ := fun i hi => getD_app6 rest data m hm h i hi
  unfold hdOk hdN
  rw [e 0 (by omega), e 4 (by omega), e 5 (by omega)]
  exact ⟨rfl, rfl⟩
theorem lenB_hd (l : List UInt8) (h : hdOk l = true) : lenB l = hdN l := by unfold lenB; rw [if_pos h]
set_option maxRecDepth 20000 in
set_option maxHeartbeats 1000000 in
theorem fitting_any (a1 a2 : Option Addr) (c1 c2 : Nat) (rest data : List UInt8) (w : World) (hl1 : rest.length ≤ 100000) (hl2 : data.length ≤ 100000) (hc2 : data.length ≤ c2) (hb1 : BAt w a1 rest) (hb2 : BAt w a2 data) :
    Calls Try.prog 18 #[.slice a1 rest.length c1, .slice a2 data.length c2] w fun e w' => e = .returned (.tuple #[.int .i64 (fitP rest data).1, .bool (fitP rest data).2]) ∧ Below w.heap.size w w' := by
  have HB1 := Lib.hid hb1
  have HB2 := Lib.hid hb2
  clear hb1 hb2
  by_cases h1 : data.length = 0
  · have e1 : ((data.length : Int) == 0) = true := by rw [h1]; rfl
    have HF : Hid (fitP rest data = (2047, true)) := Lib.hid (by rw [fitP, if_pos (List.length_eq_zero_iff.1 h1)])
    clear h1
    go_enter Try.func18, Try.ntmps18
    go_wp2_with fail
    exact bodyPost_ret (v := .tuple #[.int .i64 2047, .bool true]) (by simp [results, Try.results18, go_sem]) rfl ⟨by rw [HF.out], Below.refl _ _⟩
  · have e1 : ((data.length : Int) == 0) = false := by rw [beq_eq_false_iff_ne]; omega
    have hd0 : data ≠ [] := fun e => h1 (by rw [e]; rfl)
    by_cases h2 : rest.length = 0
    · have e2 : ((rest.length : Int) == 0) = true := by rw [h2]; rfl
      have HF : Hid (fitP rest data = (0, true)) := Lib.hid (by rw [fitP, if_neg hd0, if_pos (List.length_eq_zero_iff.1 h2)])
      clear h2 hd0
      go_enter Try.func18, Try.ntmps18
      go_wp2_with fail
      exact bodyPost_ret (v := .tuple #[.int .i64 0, .bool true]) (by simp [results, Try.results18, go_sem]) rfl ⟨by rw [HF.out], Below.refl _ _⟩
    · have e2 : ((rest.length : Int) == 0) = false := by rw [beq_eq_false_iff_ne]; omega
      have hr0 : rest ≠ [] := fun e => h2 (by rw [e]; rfl)
      by_cases h3 : rest.length + data.length < 6
      · have e3 : (rest.length : Int) + (data.length : Int) < 6 := by omega
        have HF : Hid (fitP rest data = (2047, true)) := Lib.hid (by rw [fitP, if_neg hd0, if_neg hr0, if_pos (by rw [List.length_append]; exact h3)])
        clear h2 hd0 hr0 h3
        go_enter Try.func18, Try.ntmps18
        go_wp2_with fail
        exact bodyPost_ret (v := .tuple #[.int .i64 2047, .bool true]) (by simp [results, Try.results18, go_sem]) rfl ⟨by rw [HF.out], Below.refl _ _⟩
      · have e3 : ¬ (rest.length : Int) + (data.length : Int) < 6 := by omega
        obtain ⟨m, hm⟩ : ∃ m, m = min data.length 6 := ⟨_, rfl⟩
        obtain ⟨k1, k2⟩ := hd6 rest data m hm (by omega)
        have hml : m ≤ data.length := by omega
        have em : min (data.length : Int) 6 = (m : Int) := by omega
        have hm6 : 6 ≤ rest.length + m := by omega
        have HP : Hid (fitP rest data = if hdOk (rest ++ data.take m) = true then (if hdN (rest ++ data.take m) < rest.length + data.length then (((hdN (rest ++ data.take m) : Nat) : Int) - rest.length, true) else (2047, true)) else (0, false)) := Lib.hid (by
          rw [fitP, if_neg hd0, if_neg hr0, if_neg (by rw [List.length_append]; exact h3), k2, k1]
          cases hk : hdOk (rest ++ data)
          · rw [if_pos (by unfold lenB; rw [hk]; rfl)]; rfl
          · rw [lenB_hd _ hk, if_neg (by have := hdN_ge (rest ++ data); omega), List.length_append]; rfl)
        have HM := Lib.hid hm
        have h0m : (0 : Int) ≤ (m : Int) := by omega
        have hmc : (m : Int) ≤ (c2 : Int) := by omega
        obtain ⟨L, hL⟩ : ∃ L, L = rest ++ data.take m := ⟨_, rfl⟩
        have hLl : L.length = rest.length + m := by rw [hL]; simp; omega
        rw [← hL] at HP
        have HL := Lib.hid hL
        have HLL := Lib.hid hLl
        have htm : Hid ((data.take m).length = m) := Lib.hid (by simp; omega)
        have g7 := hdN_ge L
        have g8 : hdN L ≤ 70000 := by unfold hdN; have := UInt8.toNat_lt (L.getD 4 0); have := UInt8.toNat_lt (L.getD 5 0); omega
        clear h1 h2 h3 hd0 hr0 k1 k2 hm hL hLl
        rcases (by omega : (m = data.length ∧ data.length ≤ 6) ∨ (m = 6 ∧ ¬ data.length ≤ 6)) with ⟨hme, h66⟩ | ⟨hme, h66⟩
        · subst hme
          have e66 : (data.length : Int) ≤ 6 := by omega
          clear em
          cases hk : hdOk L
          · have HK := Lib.hid hk
            have HF : Hid (fitP rest data = (0, false)) := Lib.hid (by rw [HP.out, hk]; rfl)
            clear hk
            go_enter Try.func18, Try.ntmps18
            go_wp2_with fail
            refine (concat2_any w.heap.size 23 a1 a2 rest.length data.length c1 c2 rest (data.take data.length) _ (Blk.new _ _ _) rfl htm.out (by omega) (by omega) (HB1.out.below (al (Below.refl _ _) _) (Nat.le_refl _)) ((HB2.out.take data.length).below (al (Below.refl _ _) _) (Nat.le_refl _))).mono ?_
            rintro e w3 ⟨v3, rfl, hO3, hB3⟩
            rw [← HL.out] at hO3
            obtain ⟨-, a3, c3, rfl, hc3, hm3, hA3⟩ := BAt.of_row hO3
            have HA3 := Lib.hid hA3
            have HB3 := Lib.hid ((al (Below.refl _ _) _).trans (hB3.mono (by simp)))
            clear hO3 hB3 hA3
            go_wp2_with fail
            refine (length_any a3 L.length c3 L _ rfl (by rw [HLL.out]; exact hm6) (by rw [HLL.out]; omega) HA3.out).mono ?_
            rintro e w4 ⟨rfl, hq4⟩
            rw [HK.out]
            have HB4 : Hid (Below w.heap.size w w4) := Lib.hid (HB3.out.trans hq4.below)
            clear hq4
            go_wp2_with fail
            exact bodyPost_ret (v := .tuple #[.int .i64 0, .bool false]) (by simp [results, Try.results18, go_sem]) rfl ⟨by rw [HF.out], HB4.out⟩
          · have HK := Lib.hid hk
            by_cases h9 : hdN L < rest.length + data.length
            · have e9 : (hdN L : Int) - (rest.length : Int) < (data.length : Int) := by omega
              have HF : Hid (fitP rest data = ((hdN L : Int) - rest.length, true)) := Lib.hid (by rw [HP.out, hk, if_pos rfl, if_pos h9])
              clear hk h9
              go_enter Try.func18, Try.ntmps18
              go_wp2_with fail
              refine (concat2_any w.heap.size 23 a1 a2 rest.length data.length c1 c2 rest (data.take data.length) _ (Blk.new _ _ _) rfl htm.out (by omega) (by omega) (HB1.out.below (al (Below.refl _ _) _) (Nat.le_refl _)) ((HB2.out.take data.length).below (al (Below.refl _ _) _) (Nat.le_refl _))).mono ?_
              rintro e w3 ⟨v3, rfl, hO3, hB3⟩
              rw [← HL.out] at hO3
              obtain ⟨-, a3, c3, rfl, hc3, hm3, hA3⟩ := BAt.of_row hO3
              have HA3 := Lib.hid hA3
              have HB3 := Lib.hid ((al (Below.refl _ _) _).trans (hB3.mono (by simp)))
              clear hO3 hB3 hA3
              go_wp2_with fail
              refine (length_any a3 L.length c3 L _ rfl (by rw [HLL.out]; exact hm6) (by rw [HLL.out]; omega) HA3.out).mono ?_
              rintro e w4 ⟨rfl, hq4⟩
              rw [HK.out]
              have HB4 : Hid (Below w.heap.size w w4) := Lib.hid (HB3.out.trans hq4.below)
              clear hq4
              go_wp2_with fail
              exact bodyPost_ret (v := .tuple #[.int .i64 ((hdN L : Int) - rest.length), .bool true]) (by simp [results, Try.results18, go_sem]) rfl ⟨by rw [HF.out], HB4.out⟩
            · have e9 : ¬ (hdN L : Int) - (rest.length : Int) < (data.length : Int) := by omega
              have HF : Hid (fitP rest data = (2047, true)) := Lib.hid (by rw [HP.out, hk, if_pos rfl, if_neg h9])
              clear hk h9
              go_enter Try.func18, Try.ntmps18
              go_wp2_with fail
              refine (concat2_any w.heap.size 23 a1 a2 rest.length data.length c1 c2 rest (data.take data.length) _ (Blk.new _ _ _) rfl htm.out (by omega) (by omega) (HB1.out.below (al (Below.refl _ _) _) (Nat.le_refl _)) ((HB2.out.take data.length).below (al (Below.refl _ _) _) (Nat.le_refl _))).mono ?_
              rintro e w3 ⟨v3, rfl, hO3, hB3⟩
              rw [← HL.out] at hO3
              obtain ⟨-, a3, c3, rfl, hc3, hm3, hA3⟩ := BAt.of_row hO3
              have HA3 := Lib.hid hA3
              have HB3 := Lib.hid ((al (Below.refl _ _) _).trans (hB3.mono (by simp)))
              clear hO3 hB3 hA3
              go_wp2_with fail
              refine (length_any a3 L.length c3 L _ rfl (by rw [HLL.out]; exact hm6) (by rw [HLL.out]; omega) HA3.out).mono ?_
              rintro e w4 ⟨rfl, hq4⟩
              rw [HK.out]
              have HB4 : Hid (Below w.heap.size w w4) := Lib.hid (HB3.out.trans hq4.below)
              clear hq4
              go_wp2_with fail
              exact bodyPost_ret (v := .tuple #[.int .i64 2047, .bool true]) (by simp [results, Try.results18, go_sem]) rfl ⟨by rw [HF.out], HB4.out⟩
        · subst hme
          have e66 : ¬ (data.length : Int) ≤ 6 := by omega
          have e67 : (6 : Int) ≤ (data.length : Int) := by omega
          have e68 : (6 : Int) ≤ (c2 : Int) := by omega
          clear em
          cases hk : hdOk L
          · have HK := Lib.hid hk
            have HF : Hid (fitP rest data = (0, false)) := Lib.hid (by rw [HP.out, hk]; rfl)
            clear hk
            go_enter Try.func18, Try.ntmps18
            go_wp2_with fail
            refine (concat2_any w.heap.size 23 a1 a2 rest.length 6 c1 c2 rest (data.take 6) _ (Blk.new _ _ _) rfl htm.out (by omega) (by omega) (HB1.out.below (al (Below.refl _ _) _) (Nat.le_refl _)) ((HB2.out.take 6).below (al (Below.refl _ _) _) (Nat.le_refl _))).mono ?_
            rintro e w3 ⟨v3, rfl, hO3, hB3⟩
            rw [← HL.out] at hO3
            obtain ⟨-, a3, c3, rfl, hc3, hm3, hA3⟩ := BAt.of_row hO3
            have HA3 := Lib.hid hA3
            have HB3 := Lib.hid ((al (Below.refl _ _) _).trans (hB3.mono (by simp)))
            clear hO3 hB3 hA3
            go_wp2_with fail
            refine (length_any a3 L.length c3 L _ rfl (by rw [HLL.out]; exact hm6) (by rw [HLL.out]; omega) HA3.out).mono ?_
            rintro e w4 ⟨rfl, hq4⟩
            rw [HK.out]
            have HB4 : Hid (Below w.heap.size w w4) := Lib.hid (HB3.out.trans hq4.below)
            clear hq4
            go_wp2_with fail
            exact bodyPost_ret (v := .tuple #[.int .i64 0, .bool false]) (by simp [results, Try.results18, go_sem]) rfl ⟨by rw [HF.out], HB4.out⟩
          · have HK := Lib.hid hk
            by_cases h9 : hdN L < rest.length + data.length
            · have e9 : (hdN L : Int) - (rest.length : Int) < (data.length : Int) := by omega
              have HF : Hid (fitP rest data = ((hdN L : Int) - rest.length, true)) := Lib.hid (by rw [HP.out, hk, if_pos rfl, if_pos h9])
              clear hk h9
              go_enter Try.func18, Try.ntmps18
              go_wp2_with fail
              refine (concat2_any w.heap.size 23 a1 a2 rest.length 6 c1 c2 rest (data.take 6) _ (Blk.new _ _ _) rfl htm.out (by omega) (by omega) (HB1.out.below (al (Below.refl _ _) _) (Nat.le_refl _)) ((HB2.out.take 6).below (al (Below.refl _ _) _) (Nat.le_refl _))).mono ?_
              rintro e w3 ⟨v3, rfl, hO3, hB3⟩
              rw [← HL.out] at hO3
              obtain ⟨-, a3, c3, rfl, hc3, hm3, hA3⟩ := BAt.of_row hO3
              have HA3 := Lib.hid hA3
              have HB3 := Lib.hid ((al (Below.refl _ _) _).trans (hB3.mono (by simp)))
              clear hO3 hB3 hA3
              go_wp2_with fail
              refine (length_any a3 L.length c3 L _ rfl (by rw [HLL.out]; exact hm6) (by rw [HLL.out]; omega) HA3.out).mono ?_
              rintro e w4 ⟨rfl, hq4⟩
              rw [HK.out]
              have HB4 : Hid (Below w.heap.size w w4) := Lib.hid (HB3.out.trans hq4.below)
              clear hq4
              go_wp2_with fail
              exact bodyPost_ret (v := .tuple #[.int .i64 ((hdN L : Int) - rest.length), .bool true]) (by simp [results, Try.results18, go_sem]) rfl ⟨by rw [HF.out], HB4.out⟩
            · have e9 : ¬ (hdN L : Int) - (rest.length : Int) < (data.length : Int) := by omega
              have HF : Hid (fitP rest data = (2047, true)) := Lib.hid (by rw [HP.out, hk, if_pos rfl, if_neg h9])
              clear hk h9
              go_enter Try.func18, Try.ntmps18
              go_wp2_with fail
              refine (concat2_any w.heap.size 23 a1 a2 rest.length 6 c1 c2 rest (data.take 6) _ (Blk.new _ _ _) rfl htm.out (by omega) (by omega) (HB1.out.below (al (Below.refl _ _) _) (Nat.le_refl _)) ((HB2.out.take 6).below (al (Below.refl _ _) _) (Nat.le_refl _))).mono ?_
              rintro e w3 ⟨v3, rfl, hO3, hB3⟩
              rw [← HL.out] at hO3
              obtain ⟨-, a3, c3, rfl, hc3, hm3, hA3⟩ := BAt.of_row hO3
              have HA3 := Lib.hid hA3
              have HB3 := Lib.hid ((al (Below.refl _ _) _).trans (hB3.mono (by simp)))
              clear hO3 hB3 hA3
              go_wp2_with fail
              refine (length_any a3 L.length c3 L _ rfl (by rw [HLL.out]; exact hm6) (by rw [HLL.out]; omega) HA3.out).mono ?_
              rintro e w4 ⟨rfl, hq4⟩
              rw [HK.out]
              have HB4 : Hid (Below w.heap.size w w4) := Lib.hid (HB3.out.trans hq4.below)
              clear hq4
              go_wp2_with fail
              exact bodyPost_ret (v := .tuple #[.int .i64 2047, .bool true]) (by simp [results, Try.results18, go_sem]) rfl ⟨by rw [HF.out], HB4.out⟩
end Go.Proofs.Ytllpbfejoahllaa

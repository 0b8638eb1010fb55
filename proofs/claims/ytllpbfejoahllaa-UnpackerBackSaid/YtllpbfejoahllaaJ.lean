/- Contract of the reference's fitting. No condition. -/
import Derived.Test.YtllpbfejoahllaaH
import Derived.Outline
namespace Go.Proofs.Ytllpbfejoahllaa
open Go.RowKit Go.Deep Go.ChangeShapes Go.WideShapes Go.ChangeAt
set_option linter.unusedVariables false

set_option maxRecDepth 20000 in
set_option maxHeartbeats 1000000 in
theorem rfitting_any (a1 a2 : Option Addr) (c1 c2 : Nat) (rest data : List UInt8) (w : World) (hl1 : rest.length ≤ 100000) (hl2 : data.length ≤ 100000) (hb1 : BAt w a1 rest) (hb2 : BAt w a2 data) :
    Calls Try.prog 22 #[.slice a1 rest.length c1, .slice a2 data.length c2] w fun e w' => e = .returned (.int .i64 (fitR rest data)) ∧ Below w.heap.size w w' := by
  have HB1 := Lib.hid hb1
  have HB2 := Lib.hid hb2
  clear hb1 hb2
  by_cases h1 : data.length = 0
  · have e1 : ((data.length : Int) == 0) = true := by rw [h1]; rfl
    have HF : Hid (fitR rest data = 2047) := Lib.hid (by rw [fitR, if_pos (List.length_eq_zero_iff.1 h1)])
    clear h1
    go_enter Try.func22, Try.ntmps22
    go_wp2_with fail
    go_ret
    exact ⟨by rw [HF.out]; rfl, Below.refl _ _⟩
  · have e1 : ((data.length : Int) == 0) = false := by rw [beq_eq_false_iff_ne]; omega
    have hd0 : data ≠ [] := fun e => h1 (by rw [e]; rfl)
    by_cases h2 : rest.length = 0
    · have e2 : ((rest.length : Int) == 0) = true := by rw [h2]; rfl
      have HF : Hid (fitR rest data = 0) := Lib.hid (by rw [fitR, if_neg hd0, if_pos (List.length_eq_zero_iff.1 h2)])
      clear h2 hd0
      go_enter Try.func22, Try.ntmps22
      go_wp2_with fail
      go_ret
      exact ⟨by rw [HF.out]; rfl, Below.refl _ _⟩
    · have e2 : ((rest.length : Int) == 0) = false := by rw [beq_eq_false_iff_ne]; omega
      have hr0 : rest ≠ [] := fun e => h2 (by rw [e]; rfl)
      obtain ⟨j0, hj, hy0, hy1, hy2⟩ := info_parts info5
      have HJ := Lib.hid hj
      have HV1 := Lib.hid (HB1.out.below (al (Below.refl _ _) (.cells #[] 5)) (Nat.le_refl _)).vat
      obtain ⟨L, hL⟩ : ∃ L, L = rest ++ data := ⟨_, rfl⟩
      have hLl : L.length = rest.length + data.length := by rw [hL]; simp
      have HP : Hid (fitR rest data = if L.length < 6 then 2047 else if lenB L = 0 then -1 else if lenB L < L.length then (lenB L : Int) - rest.length else 2047) := Lib.hid (by rw [fitR, if_neg hd0, if_neg hr0, hL])
      have HL := Lib.hid hL
      have HLL := Lib.hid hLl
      clear hj h1 h2 hd0 hr0 hL hLl
      go_enter Try.func22, Try.ntmps22
      go_wp2_with (at_builtin; refine wpList_append_src _ rfl (.tmp 13) (.tmp 14) 23 rfl w.heap.size 5 j0 (.int .u8 0) 1 Try.underlying23 HJ.out hy0 hy1 hy2 rfl _ 0 [] rfl (own_empty _ _ w.heap.size rfl _ (Nat.le_refl _)) a1 rest.length c1 (encB rest) rfl (by simp [encB]) HV1.out (encB_one _) (by unfold maxLen; omega) (by omega) (by simp) ?_)
      intro v3 w3 hown3 hgrow3 _
      have HB3 := Lib.hid (((Below.refl w.heap.size w).alloc (Nat.le_refl _) (.cells #[] 5)).grown hgrow3 (by simp) (fun k hk => by simp [Value.ownBlock] at hk; omega))
      have HO3 : Hid (w3.ownsRow w.heap.size 5 1 v3 rest.length (encB rest)) := Lib.hid (by simpa using hown3)
      have HV2 := Lib.hid (HB2.out.below HB3.out (Nat.le_refl _)).vat
      have hs3 := HB3.out.size
      clear hown3 hgrow3 HV1
      go_wp2_with (at_builtin; refine wpList_append_src _ rfl (.tmp 15) (.tmp 16) 23 rfl w.heap.size 5 j0 (.int .u8 0) 1 Try.underlying23 HJ.out hy0 hy1 hy2 rfl _ rest.length (encB rest) rfl HO3.out a2 data.length c2 (encB data) rfl (by simp [encB]) HV2.out (encB_one _) (by unfold maxLen; omega) (by omega) hs3 ?_)
      intro v4 w4 hown4 hgrow4 _
      have HB4 := Lib.hid (HB3.out.grown hgrow4 hs3 (fun k hk => (HO3.out.lt k hk).1))
      have hO4 : w4.ownsRow w.heap.size 5 1 v4 L.length (encB L) := by rw [HLL.out, HL.out, encB_append]; exact hown4
      obtain ⟨-, a4, c4, rfl, hc4, hm4, hA4⟩ := BAt.of_row hO4
      have HA4 := Lib.hid hA4
      clear hown4 hgrow4 hO4 HO3 HV2 hA4
      by_cases h6 : L.length < 6
      · have e6 : (L.length : Int) < 6 := by omega
        have HF : Hid (fitR rest data = 2047) := Lib.hid (by rw [HP.out, if_pos h6])
        clear h6
        go_wp2_with fail
        go_ret
        exact ⟨by rw [HF.out]; rfl, HB4.out⟩
      · have e6 : ¬ (L.length : Int) < 6 := by omega
        have h66 : 6 ≤ L.length := by omega
        go_wp2_with fail
        refine (rlength_any a4 L.length c4 L _ rfl h66 (by have := HLL.out; omega) HA4.out).mono ?_
        rintro e w5 ⟨rfl, hq⟩
        have HB5 : Hid (Below w.heap.size w w5) := Lib.hid (HB4.out.trans hq.below)
        have hl9 := lenB_le L
        obtain ⟨n, hn⟩ : ∃ n, n = lenB L := ⟨_, rfl⟩
        rw [← hn] at hl9 HP
        rw [← hn]
        clear hq hn
        by_cases h7 : n = 0
        · have e7 : ((n : Int) == 0) = true := by rw [h7]; rfl
          have HF : Hid (fitR rest data = -1) := Lib.hid (by rw [HP.out, if_neg h6, if_pos h7])
          clear h7
          go_wp2_with fail
          go_ret
          exact ⟨by rw [HF.out]; rfl, HB5.out⟩
        · have e7 : ((n : Int) == 0) = false := by rw [beq_eq_false_iff_ne]; omega
          by_cases h8 : n < L.length
          · have e8 : (n : Int) < (L.length : Int) := by omega
            have HF : Hid (fitR rest data = (n : Int) - rest.length) := Lib.hid (by rw [HP.out, if_neg h6, if_neg h7, if_pos h8])
            clear h7 h8
            go_wp2_with fail
            go_ret
            exact ⟨by rw [HF.out]; rfl, HB5.out⟩
          · have e8 : ¬ (n : Int) < (L.length : Int) := by omega
            have HF : Hid (fitR rest data = 2047) := Lib.hid (by rw [HP.out, if_neg h6, if_neg h7, if_neg h8])
            clear h7 h8
            go_wp2_with fail
            go_ret
            exact ⟨by rw [HF.out]; rfl, HB5.out⟩
end Go.Proofs.Ytllpbfejoahllaa

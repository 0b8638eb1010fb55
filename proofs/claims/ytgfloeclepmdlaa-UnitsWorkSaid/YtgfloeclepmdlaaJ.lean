/- The reference: Restore. No condition. -/
import Derived.Test.YtgfloeclepmdlaaH
namespace Go.Proofs.Ytgfloeclepmdlaa
open Go.RowKit Go.Deep Go.ChangeShapes Go.WideShapes Go.ChangeAt
set_option linter.unusedVariables false

set_option maxRecDepth 20000 in
set_option maxHeartbeats 2000000 in
theorem rrestore_any {w : World} {a al : Option Addr} {us : List U} (c cl : Nat) (l : List Int) (h : RAt w a us) (hl : VAt w al (ivs l)) (hg : l ≠ [] → ∀ p, al = some p → ¬ rblk a us.length p.block) : Calls Try.prog 23 #[.slice a us.length c, .slice al l.length cl] w (RUQ w a us.length (restoreS us l)) := by
  have H := Lib.hid h
  have HV := Lib.hid hl
  have HG := Lib.hid hg
  have hlen := h.1
  unfold RUQ
  clear h hl hg
  by_cases hn : l.length = us.length
  · have hneq : ((l.length : Int) != (us.length : Int)) = false := by rw [hn]; simp
    have hnl : (us.length : Int) = (l.length : Int) := by omega
    have HN := Lib.hid hn
    clear hn
    go_enter Try.func23, Try.ntmps23
    go_wp2_with fail
    go_loopw [5] (fun i wr => ∃ k : Nat, k ≤ l.length ∧ i = .int .i64 k ∧ wr = w ∧ ∀ j (hj : j < l.length), j < k → sideB l[j] = true) (fun i _ => l.length - (intOf i).toNat)
    case atStart => exact ⟨0, by omega, rfl, rfl, fun j hj h => by omega⟩
    case round =>
      obtain ⟨k, hk, rfl, rfl, hj⟩ := hrel
      have HJ := Lib.hid hj
      clear hj
      by_cases hlt : k < l.length
      · obtain ⟨b, off, rfl, hb, hcell⟩ := HV.out.int hlt
        have hk0 : (0 : Int) ≤ (k : Int) := by omega
        have hk1 : (k : Int) < (l.length : Int) := by omega
        cases hs : sideB l[k]
        · have HP := Lib.hid (badI_some hlt hs (fun j h1 h2 => HJ.out j h1 h2))
          have HRS : Hid (restoreS us l = (us, 1)) := Lib.hid (if_pos (.inr (by rw [HP.out]; rfl)))
          rcases sideB_not hs with h1 | ⟨h1, h2⟩
          all_goals
            clear hs
            go_wp2_with fail
            go_ret
            rw [HRS.out]
            exact ⟨rfl, H.out, Fr.refl _ _⟩
        · have HS := Lib.hid hs
          have h1 : ¬ l[k] < 0 ∧ ¬ 1 < l[k] := by rcases sideB_cases hs with h | h <;> rw [h] <;> decide
          obtain ⟨h1, h2⟩ := h1
          clear hs
          go_wp2_with fail
          go_roundw
          case rel => exact ⟨k + 1, by omega, by go_num, (by first | rfl | trivial), fun j h1 h2 => by
            rcases Nat.lt_or_ge j k with h3 | h3
            · exact HJ.out j h1 h3
            · obtain rfl : j = k := by omega
              exact HS.out⟩
          case measure => simp [intOf]; omega
      · have hk1 : ¬ (k : Int) < (l.length : Int) := by omega
        have HP := Lib.hid (badI_none (fun j h1 => HJ.out j h1 (by omega)))
        have HRS : Hid (restoreS us l = (resU us l l.length, 0)) := Lib.hid (if_neg (by rw [HP.out]; simp [HN.out]))
        obtain ⟨wo, hwo⟩ : ∃ wo, wo = wr := ⟨wr, rfl⟩
        subst hwo
        go_wp2_with fail
        go_loopw [6] (fun i wr => ∃ k : Nat, k ≤ l.length ∧ i = .int .i64 k ∧ RAt wr a (resU us l k) ∧ Fr (rblk a us.length) wo wr) (fun i _ => l.length - (intOf i).toNat)
        case atStart => exact ⟨0, by omega, rfl, by rw [resU_zero]; exact H.out, Fr.refl _ _⟩
        case round =>
          obtain ⟨m, hm, rfl, hU, hF⟩ := hrel
          have HU := Lib.hid hU
          have HF := Lib.hid hF
          clear hU hF
          by_cases hlt : m < l.length
          · obtain ⟨bl, off, rfl, hbl, hcell⟩ := (HV.out.fr HF.out (HG.out (by rintro rfl; simp at hlt))).int hlt
            have hk0 : (0 : Int) ≤ (m : Int) := by omega
            have hk2 : (m : Int) < (l.length : Int) := by omega
            have hmu : m < (resU us l m).length := by rw [resU_length, ← HN.out]; exact hlt
            obtain ⟨g, rfl, hR⟩ := HU.out.get hmu
            have hgd := hR.lt
            obtain ⟨-, r1, -, -⟩ := hR.at (i := m) hmu
            have hfz := hR.free (m * 4 + 1)
            have HS := Lib.hid (RAt.set hR HU.out.1 hmu (j := 1) (by omega) (.int .i64 l[m]) (fun u => { u with side := l[m] }) rfl)
            rw [resU_succ (by rw [← HN.out]; exact hlt) hlt] at HS
            clear hR
            go_wp2_with fail
            go_roundw
            case rel => exact ⟨m + 1, by omega, by go_num, HS.out, HF.out.set1 _ (by exact .inl ⟨by omega, _, rfl, rfl⟩)⟩
            case measure => simp [intOf]; omega
          · obtain rfl : m = l.length := by omega
            go_wp2_with fail
            go_ret
            rw [HRS.out]
            exact ⟨rfl, HU.out, HF.out⟩
  · rw [show restoreS us l = (us, 1) from if_pos (.inl hn)]
    have hneq : ((l.length : Int) != (us.length : Int)) = true := by rw [bne_iff_ne]; omega
    clear hn
    go_enter Try.func23, Try.ntmps23
    go_wp2_with fail
    go_ret
    exact ⟨rfl, H.out, Fr.refl _ _⟩
end Go.Proofs.Ytgfloeclepmdlaa

/- Restore. No condition. -/
import Derived.Test.YtgfloeclepmdlaaD
namespace Go.Proofs.Ytgfloeclepmdlaa
open Go.RowKit Go.Deep Go.ChangeShapes Go.WideShapes Go.ChangeAt
set_option linter.unusedVariables false

theorem clo_any (n : Int) (w : World) : Calls Try.prog 27 #[.int .i64 n] w fun e w' => e = .returned (.bool (!sideB n)) ∧ w' = w := by
  go_enter Try.func27, Try.ntmps27
  go_wp2_with fail
  refine (side_any n _).mono ?_
  rintro e w2 ⟨rfl, rfl⟩
  go_wp2_with fail
  go_ret
  first | exact ⟨rfl, rfl⟩ | exact ⟨trivial, rfl⟩
def badI (l : List Int) : Option Nat := l.findIdx? (fun n => !sideB n)
def idxI : Option Nat → Int | some i => i | none => -1
theorem badI_some {l : List Int} {i : Nat} (hi : i < l.length) (h : sideB l[i] = false) (hj : ∀ j (hj : j < l.length), j < i → sideB l[j] = true) : badI l = some i := by
  unfold badI
  rw [List.findIdx?_eq_some_iff_getElem]
  exact ⟨hi, by simp [h], fun j hji => by simp [hj j (by omega) hji]⟩
theorem badI_none {l : List Int} (h : ∀ j (hj : j < l.length), sideB l[j] = true) : badI l = none := by
  unfold badI
  rw [List.findIdx?_eq_none_iff]
  intro u hu
  obtain ⟨i, hi, rfl⟩ := List.getElem_of_mem hu
  simpa using h i hi
set_option maxRecDepth 20000 in
set_option maxHeartbeats 2000000 in
theorem index_any {w : World} (l : List Int) (a : Option Addr) (c : Nat) (hl : VAt w a (ivs l)) (hn : l.length ≤ 1000000) : Calls Try.prog 33 #[.slice a l.length c, .func (.func 27) #[] #[]] w fun e w' => e = .returned (.int .i64 (idxI (badI l))) ∧ w' = w := by
  have HV := Lib.hid hl
  clear hl
  go_enter Try.func33, Try.ntmps33
  go_wp2_with fail
  go_loopw [8] (fun i wr => ∃ k : Nat, k ≤ l.length ∧ i = .int .i64 k ∧ wr = w ∧ ∀ j (hj : j < l.length), j < k → sideB l[j] = true) (fun i _ => l.length - (intOf i).toNat)
  case atStart => exact ⟨0, by omega, rfl, rfl, fun j hj h => by omega⟩
  case round =>
    obtain ⟨k, hk, rfl, rfl, hj⟩ := hrel
    have HJ := Lib.hid hj
    clear hj
    by_cases hlt : k < l.length
    · obtain ⟨b, off, rfl, hb, hcell⟩ := HV.out.int hlt
      have hk0 : (0 : Int) ≤ (k : Int) := by omega
      have hk1 : (k : Int) < (l.length : Int) := by omega
      go_wp2_with fail
      refine (clo_any _ _).mono ?_
      rintro e w2 ⟨rfl, rfl⟩
      cases hs : sideB l[k]
      · have HP := Lib.hid (badI_some hlt hs (fun j h1 h2 => HJ.out j h1 h2))
        clear hs
        go_wp2_with fail
        go_ret
        rw [HP.out]
        first | exact ⟨rfl, rfl⟩ | exact ⟨trivial, rfl⟩
      · have HS := Lib.hid hs
        clear hs
        go_wp2_with fail
        go_roundw
        case rel => exact ⟨k + 1, by omega, by go_num, (by first | rfl | trivial), fun j h1 h2 => by
          rcases Nat.lt_or_ge j k with h3 | h3
          · exact HJ.out j h1 h3
          · obtain rfl : j = k := by omega
            exact HS.out⟩
        case measure => simp [intOf]; omega
    · have hk1 : ¬ (k : Int) < (l.length : Int) := by omega
      have HP := Lib.hid (badI_none (fun j h1 => HJ.out j h1 (by omega)))
      go_wp2_with fail
      go_ret
      rw [HP.out]
      first | exact ⟨rfl, rfl⟩ | exact ⟨trivial, rfl⟩
theorem contains_any {w : World} (l : List Int) (a : Option Addr) (c : Nat) (hl : VAt w a (ivs l)) (hn : l.length ≤ 1000000) : Calls Try.prog 26 #[.slice a l.length c, .func (.func 27) #[] #[]] w fun e w' => e = .returned (.bool (badI l).isSome) ∧ w' = w := by
  have HV := Lib.hid hl
  clear hl
  cases hp : badI l with
  | none =>
    go_enter Try.func26, Try.ntmps26
    go_wp2_with fail
    refine (index_any l a c HV.out hn).mono ?_
    rintro e w2 ⟨rfl, rfl⟩
    rw [hp]
    unfold idxI
    go_wp2_with fail
    go_ret
    first | exact ⟨rfl, rfl⟩ | exact ⟨trivial, rfl⟩
  | some i =>
    have hi : (0 : Int) ≤ (i : Int) := by omega
    go_enter Try.func26, Try.ntmps26
    go_wp2_with fail
    refine (index_any l a c HV.out hn).mono ?_
    rintro e w2 ⟨rfl, rfl⟩
    rw [hp]
    unfold idxI
    go_wp2_with fail
    go_ret
    first | exact ⟨rfl, rfl⟩ | exact ⟨trivial, rfl⟩
/-- the sides set up to k -/
def resU (us : List U) (l : List Int) (k : Nat) : List U := us.zipIdx.map (fun p => if p.2 < k then { p.1 with side := l[p.2]?.getD 0 } else p.1)
theorem resU_length (us : List U) (l : List Int) (k : Nat) : (resU us l k).length = us.length := by simp [resU]
theorem resU_zero (us : List U) (l : List Int) : resU us l 0 = us := by
  apply List.ext_getElem (resU_length _ _ _)
  intro i h1 h2
  simp [resU]
theorem resU_get (us : List U) (l : List Int) (k : Nat) {i : Nat} (hi : i < us.length) : (resU us l k)[i]'(by rw [resU_length]; exact hi) = if i < k then { us[i] with side := l[i]?.getD 0 } else us[i] := by simp [resU]
theorem resU_succ {us : List U} {l : List Int} {k : Nat} (hk : k < us.length) (hl : k < l.length) : setU (resU us l k) k (fun u => { u with side := l[k] }) = resU us l (k + 1) := by
  rw [setU_lt (by rw [resU_length]; exact hk)]
  apply List.ext_getElem (by simp [resU_length])
  intro i h1 h2
  have hi : i < us.length := by rw [resU_length] at h2; exact h2
  rw [List.getElem_set, resU_get us l (k + 1) hi]
  split
  · rename_i h
    subst h
    rw [resU_get us l k hi, if_neg (by omega), if_pos (by omega)]
    simp [hl]
  · rename_i h
    rw [resU_get us l k hi]
    by_cases h3 : i < k
    · rw [if_pos h3, if_pos (by omega)]
    · rw [if_neg h3, if_neg (by omega)]
def restoreS (us : List U) (l : List Int) : List U × Int := if l.length ≠ us.length ∨ (badI l).isSome = true then (us, 1) else (resU us l l.length, 0)
set_option maxRecDepth 20000 in
set_option maxHeartbeats 2000000 in
theorem restore_any {w : World} {b g cap : Nat} {us : List U} (l : List Int) (a : Option Addr) (c : Nat) (h : UAt w b g cap us) (hl : VAt w a (ivs l)) (hg : l ≠ [] → ∀ p, a = some p → p.block ≠ g) : Calls Try.prog 9 #[.pointer (some ⟨b, 0, none⟩), .slice a l.length c] w (UQ w b g cap (restoreS us l)) := by
  have c0 := h.box.at 0 rfl
  have hb := h.box.lt
  have H := Lib.hid h
  have HV := Lib.hid hl
  have HG := Lib.hid hg
  have hlen := h.len
  unfold UQ
  clear h hl hg
  by_cases hn : l.length = us.length
  · have hneq : ((l.length : Int) != (us.length : Int)) = false := by rw [hn]; simp
    cases hp : (badI l).isSome
    · rw [show restoreS us l = (resU us l l.length, 0) from if_neg (by rw [hp]; simp [hn])]
      have hnl : (us.length : Int) = (l.length : Int) := by omega
      have HN := Lib.hid hn
      rw [← hn] at c0
      clear hn
      go_enter Try.func9, Try.ntmps9
      go_wp2_with fail
      refine (none_any H.out).mono ?_
      rintro e w2 ⟨rfl, rfl⟩
      go_wp2_with fail
      refine (contains_any l a c HV.out (by omega)).mono ?_
      rintro e w2 ⟨rfl, rfl⟩
      go_wp2_with fail
      go_loopw [23] (fun i wr => ∃ k : Nat, k ≤ l.length ∧ i = .int .i64 k ∧ UAt wr b g cap (resU us l k) ∧ Fr (fun k => k = g) w2 wr) (fun i _ => l.length - (intOf i).toNat)
      case atStart => exact ⟨0, by omega, rfl, by rw [resU_zero]; exact H.out, Fr.refl _ _⟩
      case round =>
        obtain ⟨k, hk, rfl, hU, hF⟩ := hrel
        have HU := Lib.hid hU
        have HF := Lib.hid hF
        clear hU hF
        by_cases hlt : k < l.length
        · obtain ⟨bl, off, rfl, hbl, hcell⟩ := (HV.out.fr HF.out (HG.out (by rintro rfl; simp at hlt))).int hlt
          have hk0 : (0 : Int) ≤ (k : Int) := by omega
          have hk1 : (k : Int) < (l.length : Int) := by omega
          have d0 := HU.out.box.at 0 rfl
          rw [resU_length, ← HN.out] at d0
          have hbd := HU.out.box.lt
          have hgd := HU.out.row.lt
          obtain ⟨-, r1, -, -⟩ := HU.out.row.at (i := k) (by rw [resU_length, ← HN.out]; exact hlt)
          have hfz := HU.out.row.free (k * 4 + 1)
          have HS := Lib.hid (HU.out.set (i := k) (by rw [resU_length, ← HN.out]; exact hlt) (j := 1) (by omega) (.int .i64 l[k]) (fun u => { u with side := l[k] }) rfl)
          rw [resU_succ (by rw [← HN.out]; exact hlt) hlt] at HS
          go_wp2_with fail
          go_roundw
          case rel => exact ⟨k + 1, by omega, by go_num, HS.out, HF.out.set1 _ (by exact .inl rfl)⟩
          case measure => simp [intOf]; omega
        · obtain rfl : k = l.length := by omega
          go_wp2_with fail
          go_ret
          exact ⟨rfl, HU.out, HF.out⟩
    · rw [show restoreS us l = (us, 1) from if_pos (.inr hp)]
      have hnl : (us.length : Int) = (l.length : Int) := by omega
      rw [← hn] at c0
      clear hn
      go_enter Try.func9, Try.ntmps9
      go_wp2_with fail
      refine (none_any H.out).mono ?_
      rintro e w2 ⟨rfl, rfl⟩
      go_wp2_with fail
      refine (contains_any l a c HV.out (by omega)).mono ?_
      rintro e w2 ⟨rfl, rfl⟩
      go_wp2_with fail
      go_ret
      exact ⟨rfl, H.out, Fr.refl _ _⟩
  · rw [show restoreS us l = (us, 1) from if_pos (.inl hn)]
    have hneq : ((l.length : Int) != (us.length : Int)) = true := by rw [bne_iff_ne]; omega
    clear hn
    go_enter Try.func9, Try.ntmps9
    go_wp2_with fail
    refine (none_any H.out).mono ?_
    rintro e w2 ⟨rfl, rfl⟩
    go_wp2_with fail
    go_ret
    exact ⟨rfl, H.out, Fr.refl _ _⟩
end Go.Proofs.Ytgfloeclepmdlaa

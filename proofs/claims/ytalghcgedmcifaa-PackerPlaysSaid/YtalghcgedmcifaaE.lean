/- Contracts of Valid on both sides. No condition. -/
import Derived.Test.YtalghcgedmcifaaD
namespace Go.Proofs.Ytalghcgedmcifaa
open Go.RowKit Go.Deep Go.ChangeShapes Go.WideShapes Go.ChangeAt
set_option linter.unusedVariables false

set_option maxHeartbeats 2000000 in
theorem valid_any (p : Pk) (a : Option Addr) (cap : Nat) (w : World) (hl : p.dat.length ≤ maxLen) (hb : BAt w a p.dat) : Calls Try.prog 35 #[p.val a cap] w (BQ w (validB p)) := by
  have HB := Lib.hid hb
  clear hb
  unfold Pk.val
  by_cases c0 : p.apid < 0
  · have HV : Hid (validB p = false) := Lib.hid (by rw [Bool.eq_false_iff, Ne, validB_iff]; omega)
    go_enter Try.func35, Try.ntmps35
    go_wp2
    go_ret
    exact ⟨ret_bool HV.out.symm, al (Below.refl _ _) _⟩
  · skip
    by_cases c1 : 2047 < p.apid
    · have HV : Hid (validB p = false) := Lib.hid (by rw [Bool.eq_false_iff, Ne, validB_iff]; omega)
      go_enter Try.func35, Try.ntmps35
      go_wp2
      go_ret
      exact ⟨ret_bool HV.out.symm, al (Below.refl _ _) _⟩
    · skip
      by_cases c2 : p.flags < 0
      · have HV : Hid (validB p = false) := Lib.hid (by rw [Bool.eq_false_iff, Ne, validB_iff]; omega)
        go_enter Try.func35, Try.ntmps35
        go_wp2
        go_ret
        exact ⟨ret_bool HV.out.symm, al (Below.refl _ _) _⟩
      · skip
        by_cases c3 : 3 < p.flags
        · have HV : Hid (validB p = false) := Lib.hid (by rw [Bool.eq_false_iff, Ne, validB_iff]; omega)
          go_enter Try.func35, Try.ntmps35
          go_wp2
          go_ret
          exact ⟨ret_bool HV.out.symm, al (Below.refl _ _) _⟩
        · skip
          by_cases c4 : p.count < 0
          · have HV : Hid (validB p = false) := Lib.hid (by rw [Bool.eq_false_iff, Ne, validB_iff]; omega)
            go_enter Try.func35, Try.ntmps35
            go_wp2
            go_ret
            exact ⟨ret_bool HV.out.symm, al (Below.refl _ _) _⟩
          · skip
            by_cases c5 : 16383 < p.count
            · have HV : Hid (validB p = false) := Lib.hid (by rw [Bool.eq_false_iff, Ne, validB_iff]; omega)
              go_enter Try.func35, Try.ntmps35
              go_wp2
              go_ret
              exact ⟨ret_bool HV.out.symm, al (Below.refl _ _) _⟩
            · skip
              by_cases c6 : (p.dat.length : Int) < 1
              · have HV : Hid (validB p = false) := Lib.hid (by rw [Bool.eq_false_iff, Ne, validB_iff]; omega)
                go_enter Try.func35, Try.ntmps35
                go_wp2
                go_ret
                exact ⟨ret_bool HV.out.symm, al (Below.refl _ _) _⟩
              · skip
                by_cases c7 : 4090 < (p.dat.length : Int)
                · have HV : Hid (validB p = false) := Lib.hid (by rw [Bool.eq_false_iff, Ne, validB_iff]; omega)
                  go_enter Try.func35, Try.ntmps35
                  go_wp2
                  go_ret
                  exact ⟨ret_bool HV.out.symm, al (Below.refl _ _) _⟩
                · skip
                  have hV : validB p = (decide (p.apid ≠ 2047) || idleB p) := by
                    have hr : rangeB p = true := by unfold rangeB; simp only [Bool.and_eq_true, decide_eq_true_eq]; omega
                    unfold validB; rw [hr, Bool.true_and]
                  by_cases h0 : p.apid = 2047
                  · have HV : Hid (validB p = idleB p) := Lib.hid (by rw [hV, h0]; rfl)
                    have e0 : (p.apid != 2047) = false := by rw [h0]; rfl
                    clear hV h0
                    go_enter Try.func35, Try.ntmps35
                    go_wp2_with fail
                    refine (idle_any p a cap _ (by omega) (HB.out.below (al (Below.refl _ _) _) (Nat.le_refl _))).mono ?_
                    rintro e w2 ⟨rfl, hB⟩
                    have HB2 := Lib.hid ((al (Below.refl _ _) _).trans (hB.mono (by simp)))
                    clear hB
                    go_wp2_with fail
                    go_ret
                    exact ⟨ret_bool HV.out.symm, HB2.out⟩
                  · have HV : Hid (validB p = true) := Lib.hid (by rw [hV, decide_eq_true h0]; rfl)
                    have e0 : (p.apid != 2047) = true := by rw [bne_iff_ne]; exact h0
                    clear hV h0
                    go_enter Try.func35, Try.ntmps35
                    go_wp2_with fail
                    go_ret
                    exact ⟨ret_bool HV.out.symm, al (Below.refl _ _) _⟩
set_option maxHeartbeats 2000000 in
theorem rvalid_any (p : Pk) (a : Option Addr) (cap : Nat) (w : World) (hl : p.dat.length ≤ maxLen) (hb : BAt w a p.dat) : Calls Try.prog 37 #[p.val a cap] w (BQ w (validB p)) := by
  have HB := Lib.hid hb
  clear hb
  unfold Pk.val
  by_cases c0 : p.apid < 0
  · have HV : Hid (validB p = false) := Lib.hid (by rw [Bool.eq_false_iff, Ne, validB_iff]; omega)
    go_enter Try.func37, Try.ntmps37
    go_wp2
    go_ret
    exact ⟨ret_bool HV.out.symm, al (Below.refl _ _) _⟩
  · skip
    by_cases c1 : 2047 < p.apid
    · have HV : Hid (validB p = false) := Lib.hid (by rw [Bool.eq_false_iff, Ne, validB_iff]; omega)
      go_enter Try.func37, Try.ntmps37
      go_wp2
      go_ret
      exact ⟨ret_bool HV.out.symm, al (Below.refl _ _) _⟩
    · skip
      by_cases c2 : p.flags < 0
      · have HV : Hid (validB p = false) := Lib.hid (by rw [Bool.eq_false_iff, Ne, validB_iff]; omega)
        go_enter Try.func37, Try.ntmps37
        go_wp2
        go_ret
        exact ⟨ret_bool HV.out.symm, al (Below.refl _ _) _⟩
      · skip
        by_cases c3 : 3 < p.flags
        · have HV : Hid (validB p = false) := Lib.hid (by rw [Bool.eq_false_iff, Ne, validB_iff]; omega)
          go_enter Try.func37, Try.ntmps37
          go_wp2
          go_ret
          exact ⟨ret_bool HV.out.symm, al (Below.refl _ _) _⟩
        · skip
          by_cases c4 : p.count < 0
          · have HV : Hid (validB p = false) := Lib.hid (by rw [Bool.eq_false_iff, Ne, validB_iff]; omega)
            go_enter Try.func37, Try.ntmps37
            go_wp2
            go_ret
            exact ⟨ret_bool HV.out.symm, al (Below.refl _ _) _⟩
          · skip
            by_cases c5 : 16383 < p.count
            · have HV : Hid (validB p = false) := Lib.hid (by rw [Bool.eq_false_iff, Ne, validB_iff]; omega)
              go_enter Try.func37, Try.ntmps37
              go_wp2
              go_ret
              exact ⟨ret_bool HV.out.symm, al (Below.refl _ _) _⟩
            · skip
              by_cases c6 : (p.dat.length : Int) < 1
              · have HV : Hid (validB p = false) := Lib.hid (by rw [Bool.eq_false_iff, Ne, validB_iff]; omega)
                go_enter Try.func37, Try.ntmps37
                go_wp2
                go_ret
                exact ⟨ret_bool HV.out.symm, al (Below.refl _ _) _⟩
              · skip
                by_cases c7 : 4090 < (p.dat.length : Int)
                · have HV : Hid (validB p = false) := Lib.hid (by rw [Bool.eq_false_iff, Ne, validB_iff]; omega)
                  go_enter Try.func37, Try.ntmps37
                  go_wp2
                  go_ret
                  exact ⟨ret_bool HV.out.symm, al (Below.refl _ _) _⟩
                · skip
                  have hV : validB p = (decide (p.apid ≠ 2047) || idleB p) := by
                    have hr : rangeB p = true := by unfold rangeB; simp only [Bool.and_eq_true, decide_eq_true_eq]; omega
                    unfold validB; rw [hr, Bool.true_and]
                  by_cases h0 : p.apid = 2047
                  · have HV : Hid (validB p = idleB p) := Lib.hid (by rw [hV, h0]; rfl)
                    have e0 : (p.apid != 2047) = false := by rw [h0]; rfl
                    clear hV h0
                    cases hc : p.cmd <;> cases hs : p.sec <;> by_cases hf : p.flags = 3 <;> by_cases hn : p.count = 0
                    all_goals
                      have HI : Hid (idleB p = (!p.cmd && !p.sec && decide (p.flags = 3) && decide (p.count = 0) && zeroB p.dat)) := Lib.hid rfl
                      rw [hc, hs] at HI
                      first | rw [decide_eq_true hf] at HI | rw [decide_eq_false hf] at HI
                      first | rw [decide_eq_true hn] at HI | rw [decide_eq_false hn] at HI
                      have ef : (p.flags == 3) = decide (p.flags = 3) := rfl
                      have en : (p.count == 0) = decide (p.count = 0) := rfl
                      first | rw [decide_eq_true hf] at ef | rw [decide_eq_false hf] at ef
                      first | rw [decide_eq_true hn] at en | rw [decide_eq_false hn] at en
                      obtain ⟨cmd, sec, apid, flags, count, dat⟩ := p
                      simp only at *
                      subst hc hs
                      clear hf hn
                      go_enter Try.func37, Try.ntmps37
                      go_wp2_with (go_at_call 40; refine (zero_any a cap dat _ (by omega) (HB.out.below (al (Below.refl _ _) _) (Nat.le_refl _))).mono ?_; rintro e w2 ⟨rfl, rfl⟩)
                      go_ret
                      exact ⟨ret_bool (by rw [HV.out, HI.out]; simp), al (Below.refl _ _) _⟩
                  · have HV : Hid (validB p = true) := Lib.hid (by rw [hV, decide_eq_true h0]; rfl)
                    have e0 : (p.apid != 2047) = true := by rw [bne_iff_ne]; exact h0
                    clear hV h0
                    go_enter Try.func37, Try.ntmps37
                    go_wp2_with fail
                    go_ret
                    exact ⟨ret_bool HV.out.symm, al (Below.refl _ _) _⟩
end Go.Proofs.Ytalghcgedmcifaa

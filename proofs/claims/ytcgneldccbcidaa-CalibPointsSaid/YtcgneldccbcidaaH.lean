/- Contracts: Invert and the reference's Invert. No condition. -/
import Derived.Test.YtcgneldccbcidaaG
namespace Go.Proofs.Ytcgneldccbcidaa
set_option linter.unusedVariables false
open Go.ChangeShapes Go.WideShapes Go.ChangeAt Go.RowKit Go.Deep Calib50

def inv (X Y : Nat → Int) (n : Nat) (v : Int) : Int × Int := if okB X Y n then (if monoB X Y n then (if v < Y 0 ∨ Y (n - 1) < v then (0, 8) else (srch (val X Y n) v (X 0) (X (n - 1)), 0)) else (0, 12)) else (0, 1)

theorem Invert_any (a : Option Addr) (n cap : Nat) (X Y : Nat → Int) (v : Int) (w : World) (hn : n ≤ cap) (hm : n ≤ 4611686018427387904) (hp : Pts w a n X Y) :
    Calls Try.prog 14 #[.slice a n cap, .int .i64 v] w fun e w' => e = .returned (.tuple #[.int .i64 (inv X Y n v).1, .int .i64 (inv X Y n v).2]) ∧ Below w.heap.size w w' := by
  have H := Lib.hid hp
  cases ho : okB X Y n
  · clear hp
    go_enter Try.func14, Try.ntmps14
    go_wp2_with (go_at_call 25; refine (curve_any _ _ _ X Y _ (by omega) H.out).mono ?_; rintro e w1 ⟨rfl, hB1⟩)
    go_ret2
    exact ⟨ret_two (by simp [inv, ho]), hB1⟩
  · obtain ⟨n2, n256, hall⟩ := ok_of ho
    have HALL := Lib.hid hall
    have HR := Lib.hid (ok_rise ho)
    have HO := Lib.hid ho
    have b0 := (hall 0 (by omega)).1
    have b1 := (hall (n - 1) (by omega)).1
    have hX := rise_le (ok_rise ho) (show 0 ≤ n - 1 by omega) (by omega)
    clear hall
    obtain ⟨b, off, rfl, hb, hc⟩ := hp.resolve_left (by omega)
    have c0 := hc 0 (by omega)
    have c1 := hc (n - 1) (by omega)
    simp only [Nat.zero_mul, Nat.add_zero] at c0
    clear hc hp
    cases hmo : monoB X Y n
    · clear c0 c1
      go_enter Try.func14, Try.ntmps14
      go_wp2_with fail
      refine (curve_any _ _ _ X Y _ (by omega) H.out).mono ?_
      rintro e w1 ⟨rfl, hB1⟩
      go_wp2_with fail
      refine (mono_any _ _ _ X Y _ (by omega) (H.out.below hB1 (Nat.le_refl _))).mono ?_
      rintro e w2 ⟨rfl, m2, rfl⟩
      go_wp2_with fail
      go_ret2
      exact ⟨ret_two (by simp [inv, HO.out, hmo]), hB1.trans (Joins.below_draws _ _ _)⟩
    · have HM := Lib.hid hmo
      go_enter Try.func14, Try.ntmps14
      go_wp2_with fail
      refine (curve_any _ _ _ X Y _ (by omega) H.out).mono ?_
      rintro e w1 ⟨rfl, hB1⟩
      go_wp2_with fail
      refine (mono_any _ _ _ X Y _ (by omega) (H.out.below hB1 (Nat.le_refl _))).mono ?_
      rintro e w2 ⟨rfl, hq⟩
      have hB2 : Below w.heap.size w w2 := by obtain ⟨m, rfl⟩ := hq; exact hB1.trans (Joins.below_draws _ _ _)
      clear hq hB1
      have E0 := Lib.hid (show ∀ o, w2.cell? ⟨b, o, none⟩ = w.cell? ⟨b, o, none⟩ from fun o => hB2.cell (p := ⟨b, o, none⟩) hb)
      have x0 : w2.cell? ⟨b, off, none⟩ = some (.int .i64 (X 0)) := (E0.out _).trans c0.1
      have y0 : w2.cell? ⟨b, off + 1, none⟩ = some (.int .i64 (Y 0)) := (E0.out _).trans c0.2
      have x1 : w2.cell? ⟨b, off + (n - 1) * 2, none⟩ = some (.int .i64 (X (n - 1))) := (E0.out _).trans c1.1
      have y1 : w2.cell? ⟨b, off + (n - 1) * 2 + 1, none⟩ = some (.int .i64 (Y (n - 1))) := (E0.out _).trans c1.2
      clear c0 c1
      have hn0 : (0 : Int) < (n : Int) := by omega
      by_cases h0 : v < Y 0
      · go_wp2_with fail
        go_ret2
        exact ⟨ret_two (by simp [inv, HO.out, HM.out, h0]), hB2⟩
      · by_cases h1 : Y (n - 1) < v
        · go_wp2_with fail
          go_ret2
          exact ⟨ret_two (by simp [inv, HO.out, HM.out, h1]), hB2⟩
        · go_wp2_with fail
          have q1 : IntKind.i64.wrap ((n : Int) - 1) = (n : Int) - 1 := IntWalk.i64_in _ (by omega)
          have q2 : ((n : Int) - 1).toNat = n - 1 := by omega
          have q3 : 0 ≤ (n : Int) - 1 := by omega
          go_quiet (fail)
          go_wp2_with fail
          clear q1 q2 q3 x0 x1 y0 y1 E0 hmo
          go_loopw [6, 7] (fun lo hi wr => ∃ p q : Int, X 0 ≤ p ∧ p ≤ q ∧ q ≤ X (n - 1) ∧ lo = .int .i64 p ∧ hi = .int .i64 q ∧ Below w.heap.size w wr ∧ Hid (srch (val X Y n) v (X 0) (X (n - 1)) = srch (val X Y n) v p q)) (fun lo hi _ => ((intOf hi - intOf lo).toNat))
          case atStart => exact ⟨X 0, X (n - 1), Int.le_refl _, hX, Int.le_refl _, rfl, rfl, hB2.trans (Joins.below_draws _ _ _), Lib.hid rfl⟩
          case round =>
            obtain ⟨p, q, hp0, hpq, hq1, rfl, rfl, hB, hI⟩ := hrel
            by_cases hlt : p < q
            · have hmid : p ≤ p + (q - p) / 2 ∧ p + (q - p) / 2 < q := by omega
              go_wp2_with fail
              refine (at_any _ _ _ X Y (p + (q - p) / 2) _ hn (H.out.below hB (Nat.le_refl _)) HO.out (by omega) (by omega)).mono ?_
              rintro e w3 ⟨rfl, hB3⟩
              by_cases ht : v ≤ val X Y n (p + (q - p) / 2)
              · go_wp2_with fail
                go_roundw
                case rel => exact ⟨p, p + (q - p) / 2, hp0, hmid.1, by omega, rfl, rfl, hB.trans (hB3.mono hB.size), Lib.hid (hI.out.trans (srch_low _ _ _ _ hlt ht))⟩
                case measure => simp [intOf]; omega
              · go_wp2_with fail
                go_roundw
                case rel => exact ⟨p + (q - p) / 2 + 1, q, by omega, by omega, hq1, rfl, rfl, hB.trans (hB3.mono hB.size), Lib.hid (hI.out.trans (srch_high _ _ _ _ hlt (by omega)))⟩
                case measure => simp [intOf]; omega
            · have hfin := Lib.hid (hI.out.trans (srch_stop _ _ _ _ hlt))
              go_wp2_with fail
              go_ret2
              exact ⟨ret_two (by rw [inv, if_pos HO.out, if_pos HM.out, if_neg (by omega), hfin.out]), hB⟩

theorem RInvert_any (a : Option Addr) (n cap : Nat) (X Y : Nat → Int) (v : Int) (w : World) (hn : n ≤ cap) (hm : n ≤ 4611686018427387904) (hp : Pts w a n X Y) :
    Calls Try.prog 15 #[.slice a n cap, .int .i64 v] w fun e w' => e = .returned (.tuple #[.int .i64 (inv X Y n v).1, .int .i64 (inv X Y n v).2]) ∧ Below w.heap.size w w' := by
  have H := Lib.hid hp
  cases ho : okB X Y n
  · clear hp
    go_enter Try.func15, Try.ntmps15
    go_wp2_with (go_at_call 27; refine (rcheck_any _ _ _ X Y _ (by omega) H.out).mono ?_; rintro e w1 ⟨rfl, m, rfl⟩)
    go_ret2
    exact ⟨ret_two (by simp [inv, ho]), Joins.below_draws _ _ _⟩
  · obtain ⟨n2, n256, hall⟩ := ok_of ho
    have HALL := Lib.hid hall
    have HR := Lib.hid (ok_rise ho)
    have HO := Lib.hid ho
    have b0 := (hall 0 (by omega)).1
    have b1 := (hall (n - 1) (by omega)).1
    have hX := rise_le (ok_rise ho) (show 0 ≤ n - 1 by omega) (by omega)
    clear hall
    obtain ⟨b, off, rfl, hb, hc⟩ := hp.resolve_left (by omega)
    have c0 := hc 0 (by omega)
    have c1 := hc (n - 1) (by omega)
    simp only [Nat.zero_mul, Nat.add_zero] at c0
    clear hc hp
    cases hmo : monoB X Y n
    · clear c0 c1
      go_enter Try.func15, Try.ntmps15
      go_wp2_with fail
      refine (rcheck_any _ _ _ X Y _ (by omega) H.out).mono ?_
      rintro e w1 ⟨rfl, hQ1⟩
      have hB1 : Below w.heap.size w w1 := by obtain ⟨m, rfl⟩ := hQ1; exact Joins.below_draws _ _ _
      clear hQ1
      go_wp2_with fail
      refine (rmono_any _ _ _ X Y _ (by omega) (H.out.below hB1 (Nat.le_refl _))).mono ?_
      rintro e w2 ⟨rfl, m2, rfl⟩
      go_wp2_with fail
      go_ret2
      exact ⟨ret_two (by simp [inv, HO.out, hmo]), hB1.trans (Joins.below_draws _ _ _)⟩
    · have HM := Lib.hid hmo
      go_enter Try.func15, Try.ntmps15
      go_wp2_with fail
      refine (rcheck_any _ _ _ X Y _ (by omega) H.out).mono ?_
      rintro e w1 ⟨rfl, hQ1⟩
      have hB1 : Below w.heap.size w w1 := by obtain ⟨m, rfl⟩ := hQ1; exact Joins.below_draws _ _ _
      clear hQ1
      go_wp2_with fail
      refine (rmono_any _ _ _ X Y _ (by omega) (H.out.below hB1 (Nat.le_refl _))).mono ?_
      rintro e w2 ⟨rfl, hq⟩
      have hB2 : Below w.heap.size w w2 := by obtain ⟨m, rfl⟩ := hq; exact hB1.trans (Joins.below_draws _ _ _)
      clear hq hB1
      have E0 := Lib.hid (show ∀ o, w2.cell? ⟨b, o, none⟩ = w.cell? ⟨b, o, none⟩ from fun o => hB2.cell (p := ⟨b, o, none⟩) hb)
      have x0 : w2.cell? ⟨b, off, none⟩ = some (.int .i64 (X 0)) := (E0.out _).trans c0.1
      have y0 : w2.cell? ⟨b, off + 1, none⟩ = some (.int .i64 (Y 0)) := (E0.out _).trans c0.2
      have x1 : w2.cell? ⟨b, off + (n - 1) * 2, none⟩ = some (.int .i64 (X (n - 1))) := (E0.out _).trans c1.1
      have y1 : w2.cell? ⟨b, off + (n - 1) * 2 + 1, none⟩ = some (.int .i64 (Y (n - 1))) := (E0.out _).trans c1.2
      clear c0 c1
      have hn0 : (0 : Int) < (n : Int) := by omega
      by_cases h0 : v < Y 0
      · go_wp2_with fail
        go_ret2
        exact ⟨ret_two (by simp [inv, HO.out, HM.out, h0]), hB2⟩
      · by_cases h1 : Y (n - 1) < v
        · go_wp2_with fail
          go_ret2
          exact ⟨ret_two (by simp [inv, HO.out, HM.out, h1]), hB2⟩
        · go_wp2_with fail
          have q1 : IntKind.i64.wrap ((n : Int) - 1) = (n : Int) - 1 := IntWalk.i64_in _ (by omega)
          have q2 : ((n : Int) - 1).toNat = n - 1 := by omega
          have q3 : 0 ≤ (n : Int) - 1 := by omega
          skip
          clear q1 q2 q3 x0 x1 y0 y1 E0 hmo
          go_loopw [6, 7] (fun lo hi wr => ∃ p q : Int, X 0 ≤ p ∧ p ≤ q ∧ q ≤ X (n - 1) ∧ lo = .int .i64 p ∧ hi = .int .i64 q ∧ Below w.heap.size w wr ∧ Hid (srch (val X Y n) v (X 0) (X (n - 1)) = srch (val X Y n) v p q)) (fun lo hi _ => ((intOf hi - intOf lo).toNat))
          case atStart => exact ⟨X 0, X (n - 1), Int.le_refl _, hX, Int.le_refl _, rfl, rfl, hB2, Lib.hid rfl⟩
          case round =>
            obtain ⟨p, q, hp0, hpq, hq1, rfl, rfl, hB, hI⟩ := hrel
            by_cases hlt : p < q
            · have hmid : p ≤ p + (q - p) / 2 ∧ p + (q - p) / 2 < q := by omega
              go_wp2_with fail
              refine (RCurve_any _ _ _ X Y (p + (q - p) / 2) _ hn hm (H.out.below hB (Nat.le_refl _))).mono ?_
              rintro e w3 ⟨rfl, hB3⟩
              have hcr : (crv X Y n (p + (q - p) / 2)).1 = val X Y n (p + (q - p) / 2) := by rw [crv, if_pos HO.out, if_neg (by omega)]
              by_cases ht : v ≤ val X Y n (p + (q - p) / 2)
              · go_wp2_with fail
                go_roundw
                case rel => exact ⟨p, p + (q - p) / 2, hp0, hmid.1, by omega, rfl, rfl, hB.trans (hB3.mono hB.size), Lib.hid (hI.out.trans (srch_low _ _ _ _ hlt ht))⟩
                case measure => simp [intOf]; omega
              · go_wp2_with fail
                go_roundw
                case rel => exact ⟨p + (q - p) / 2 + 1, q, by omega, by omega, hq1, rfl, rfl, hB.trans (hB3.mono hB.size), Lib.hid (hI.out.trans (srch_high _ _ _ _ hlt (by omega)))⟩
                case measure => simp [intOf]; omega
            · have hfin := Lib.hid (hI.out.trans (srch_stop _ _ _ _ hlt))
              go_wp2_with fail
              go_ret2
              exact ⟨ret_two (by rw [inv, if_pos HO.out, if_pos HM.out, if_neg (by omega), hfin.out]), hB⟩

end Go.Proofs.Ytcgneldccbcidaa

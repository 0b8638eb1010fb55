/- Contracts: Curve and the reference's Curve. No condition. -/
import Derived.Test.YtcgneldccbcidaaF
namespace Go.Proofs.Ytcgneldccbcidaa
set_option linter.unusedVariables false
open Go.ChangeShapes Go.WideShapes Go.ChangeAt Go.RowKit Go.Deep Calib50

def crv (X Y : Nat → Int) (n : Nat) (raw : Int) : Int × Int := if okB X Y n then (if raw < X 0 ∨ X (n - 1) < raw then (0, 8) else (val X Y n raw, 0)) else (0, 1)
theorem ret_two {a b : Int} {p : Int × Int} (h : p = (a, b)) : Ending.returned (.tuple #[.int .i64 a, .int .i64 b]) = .returned (.tuple #[.int .i64 p.1, .int .i64 p.2]) := by
  rw [h]

theorem Curve_any (a : Option Addr) (n cap : Nat) (X Y : Nat → Int) (raw : Int) (w : World) (hn : n ≤ cap) (hm : n ≤ 4611686018427387904) (hp : Pts w a n X Y) :
    Calls Try.prog 12 #[.slice a n cap, .int .i64 raw] w fun e w' => e = .returned (.tuple #[.int .i64 (crv X Y n raw).1, .int .i64 (crv X Y n raw).2]) ∧ Below w.heap.size w w' := by
  have H := Lib.hid hp
  cases ho : okB X Y n
  · clear hp
    go_enter Try.func12, Try.ntmps12
    go_wp2_with (go_at_call 25; refine (curve_any _ _ _ X Y _ (by omega) H.out).mono ?_; rintro e w1 ⟨rfl, hB1⟩)
    go_ret2
    exact ⟨ret_two (by simp [crv, ho]), hB1⟩
  · obtain ⟨n2, n256, hall⟩ := ok_of ho
    have HALL := Lib.hid hall
    have HR := Lib.hid (ok_rise ho)
    have HO := Lib.hid ho
    clear hall
    obtain ⟨b, off, rfl, hb, hc⟩ := hp.resolve_left (by omega)
    have c0 := hc 0 (by omega)
    have c1 := hc (n - 1) (by omega)
    simp only [Nat.zero_mul, Nat.add_zero] at c0
    clear hc
    go_enter Try.func12, Try.ntmps12
    go_wp2_with fail
    refine (curve_any _ _ _ X Y _ (by omega) H.out).mono ?_
    rintro e w1 ⟨rfl, hB1⟩
    have e0 : ∀ o, w1.cell? ⟨b, o, none⟩ = w.cell? ⟨b, o, none⟩ := fun o => hB1.cell (p := ⟨b, o, none⟩) hb
    have x0 : w1.cell? ⟨b, off, none⟩ = some (.int .i64 (X 0)) := (e0 _).trans c0.1
    have x1 : w1.cell? ⟨b, off + (n - 1) * 2, none⟩ = some (.int .i64 (X (n - 1))) := (e0 _).trans c1.1
    clear e0 c0 c1
    have hn0 : (0 : Int) < (n : Int) := by omega
    by_cases h0 : raw < X 0
    · go_wp2_with fail
      go_ret2
      exact ⟨ret_two (by simp [crv, HO.out, h0]), hB1⟩
    · by_cases h1 : X (n - 1) < raw
      · go_wp2_with fail
        go_ret2
        exact ⟨ret_two (by simp [crv, HO.out, h1]), hB1⟩
      · go_wp2_with fail
        refine (at_any _ _ _ X Y raw _ hn (H.out.below hB1 (Nat.le_refl _)) HO.out (by omega) (by omega)).mono ?_
        rintro e w2 ⟨rfl, hB2⟩
        go_wp2_with fail
        go_ret2
        exact ⟨ret_two (by rw [crv, if_pos HO.out, if_neg (by omega)]), hB1.trans (hB2.mono hB1.size)⟩

theorem RCurve_any (a : Option Addr) (n cap : Nat) (X Y : Nat → Int) (raw : Int) (w : World) (hn : n ≤ cap) (hm : n ≤ 4611686018427387904) (hp : Pts w a n X Y) :
    Calls Try.prog 13 #[.slice a n cap, .int .i64 raw] w fun e w' => e = .returned (.tuple #[.int .i64 (crv X Y n raw).1, .int .i64 (crv X Y n raw).2]) ∧ Below w.heap.size w w' := by
  have H := Lib.hid hp
  cases ho : okB X Y n
  · clear hp
    go_enter Try.func13, Try.ntmps13
    go_wp2_with (go_at_call 27; refine (rcheck_any _ _ _ X Y _ (by omega) H.out).mono ?_; rintro e w1 ⟨rfl, m, rfl⟩)
    go_ret2
    exact ⟨ret_two (by simp [crv, ho]), Joins.below_draws _ _ _⟩
  · obtain ⟨n2, n256, hall⟩ := ok_of ho
    have HALL := Lib.hid hall
    have HR := Lib.hid (ok_rise ho)
    have HO := Lib.hid ho
    clear hall
    obtain ⟨b, off, rfl, hb, hc⟩ := hp.resolve_left (by omega)
    have HC := Lib.hid hc
    have c0 := hc 0 (by omega)
    have c1 := hc (n - 1) (by omega)
    simp only [Nat.zero_mul, Nat.add_zero] at c0
    clear hc
    go_enter Try.func13, Try.ntmps13
    go_wp2_with fail
    refine (rcheck_any _ _ _ X Y _ (by omega) H.out).mono ?_
    rintro e w1 ⟨rfl, hq⟩
    have hB1 : Below w.heap.size w w1 := by obtain ⟨m, rfl⟩ := hq; exact Joins.below_draws _ _ _
    have E0 := Lib.hid (show ∀ o, w1.cell? ⟨b, o, none⟩ = w.cell? ⟨b, o, none⟩ from fun o => hB1.cell (p := ⟨b, o, none⟩) hb)
    have x0 : w1.cell? ⟨b, off, none⟩ = some (.int .i64 (X 0)) := (E0.out _).trans c0.1
    have x1 : w1.cell? ⟨b, off + (n - 1) * 2, none⟩ = some (.int .i64 (X (n - 1))) := (E0.out _).trans c1.1
    clear c0 c1 hq
    have hn0 : (0 : Int) < (n : Int) := by omega
    by_cases h0 : raw < X 0
    · go_wp2_with fail
      go_ret2
      exact ⟨ret_two (by simp [crv, HO.out, h0]), hB1⟩
    · by_cases h1 : X (n - 1) < raw
      · go_wp2_with fail
        go_ret2
        exact ⟨ret_two (by simp [crv, HO.out, h1]), hB1⟩
      · go_wp2_with fail
        go_loop [6] (fun i => ∃ k : Nat, k + 1 < n ∧ i = .int .i64 (k + 1) ∧ Hid (k = 0 ∨ X k < raw)) (fun i => n - (intOf i).toNat)
        case atStart => exact ⟨0, by omega, rfl, Lib.hid (.inl rfl)⟩
        case round =>
          obtain ⟨k, hk, rfl, hI⟩ := hrel
          have ck := HC.out k (by omega)
          have ck1 := HC.out (k + 1) hk
          have xk : w1.cell? ⟨b, off + k * 2, none⟩ = some (.int .i64 (X k)) := (E0.out _).trans ck.1
          have yk : w1.cell? ⟨b, off + k * 2 + 1, none⟩ = some (.int .i64 (Y k)) := (E0.out _).trans ck.2
          have xk1 : w1.cell? ⟨b, off + (k + 1) * 2, none⟩ = some (.int .i64 (X (k + 1))) := (E0.out _).trans ck1.1
          have yk1 : w1.cell? ⟨b, off + (k + 1) * 2 + 1, none⟩ = some (.int .i64 (Y (k + 1))) := (E0.out _).trans ck1.2
          clear ck ck1 x0 x1
          by_cases hlt : X (k + 1) < raw
          · have hk2 : k + 1 + 1 < n := by
              rcases Nat.lt_or_ge (k + 1 + 1) n with h | h
              · exact h
              · have e : n - 1 = k + 1 := by omega
                rw [e] at h1
                omega
            go_wp2_with fail
            go_round
            case rel => exact ⟨k + 1, hk2, by go_num, Lib.hid (.inr hlt)⟩
            case measure => simp [intOf]; omega
          · have hat : At X n raw k := ⟨hk, by omega, hI.out⟩
            have hv := Lib.hid (show val X Y n raw = seg X Y k raw by unfold val; rw [idx_eq HR.out hat])
            have hrx : X k ≤ raw := by rcases hI.out with h | h; · subst h; omega
                                       · omega
            have hX0 := (HALL.out k (by omega)).1
            have hX1 := (HALL.out (k + 1) hk).1
            have hY0 := (HALL.out k (by omega)).2.1
            have hY1 := (HALL.out (k + 1) hk).2.1
            have hltx := rise_lt HR.out (show k < k + 1 by omega) hk
            have m1 := mul_bd (A := 2147483648) (B := 1073741824) (a := Y k) (b := X (k + 1) - X k) (by omega) hY0 (by omega)
            have m2 := mul_bd (A := 1073741824) (B := 4294967296) (a := raw - X k) (b := Y (k + 1) - Y k) (by omega) (by omega) (by omega)
            have hb1 : b < w1.heap.size := Nat.lt_of_lt_of_le hb hB1.size
            have hnum := Lib.hid (show num X Y k raw = Y k * (X (k + 1) - X k) + (raw - X k) * (Y (k + 1) - Y k) from rfl)
            clear hat
            go_wp2_with fail
            refine (rounded_any _ _ _ (by omega) (by omega) (by omega)).mono ?_
            rintro e w2 ⟨rfl, m, rfl⟩
            go_wp2_with fail
            go_ret2
            exact ⟨ret_two (by rw [crv, if_pos HO.out, if_neg (by omega), hv.out]; unfold seg; rw [hnum.out]), ((hB1.alloc hB1.size _).alloc (by have := hB1.size; simp; omega) _).trans (Joins.below_draws _ _ _)⟩
end Go.Proofs.Ytcgneldccbcidaa

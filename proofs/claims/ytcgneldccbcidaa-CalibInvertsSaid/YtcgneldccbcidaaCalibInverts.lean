/- The law CalibInverts holds: the walk, then the lift to the given statement. No condition. -/
import Derived.Test.YtcgneldccbcidaaM
import Derived.WalkKit
import Derived.ProofKit
import Derived.OpenShut
import Derived.Lib.Hide
import Derived.ChangeOld
import Derived.Below
import Derived.SizedLaws
namespace Go.Proofs.Ytcgneldccbcidaa.calibInverts
open Go.ChangeShapes Go.WideShapes Go.ChangeAt Go.RowKit Go.Deep Calib50
set_option linter.unusedVariables false
theorem own : ownKnob Try.prog.godebug = none := by kernel_rfl
theorem laidOut : laidOutB Try.prog = true := by kernel_rfl

theorem rng {X Y : Nat → Int} {n : Nat} (ho : okB X Y n = true) (hm : monoB X Y n = true) {raw : Int} (h0 : X 0 ≤ raw) (h1 : raw ≤ X (n - 1)) : Y 0 ≤ val X Y n raw ∧ val X Y n raw ≤ Y (n - 1) := by
  obtain ⟨n2, _, _⟩ := ok_of ho
  have hx := ok_rise ho
  have a := val_mono n2 hm (Int.le_refl (X 0)) h1 h0
  have b := val_mono n2 hm h0 (Int.le_refl (X (n - 1))) h1
  rw [val_point n2 hx (by omega)] at a b
  exact ⟨a, b⟩
theorem crv_in {X Y : Nat → Int} {n : Nat} (ho : okB X Y n = true) {raw : Int} (h0 : X 0 ≤ raw) (h1 : raw ≤ X (n - 1)) : crv X Y n raw = (val X Y n raw, 0) := by
  rw [crv, if_pos ho, if_neg (by omega)]
theorem inverts {X Y : Nat → Int} {n : Nat} (ho : okB X Y n = true) (hm : monoB X Y n = true) {raw : Int} (h0 : X 0 ≤ raw) (h1 : raw ≤ X (n - 1)) :
    ∃ r, inv X Y n (val X Y n raw) = (r, 0) ∧ X 0 ≤ r ∧ r ≤ raw ∧ crv X Y n r = (val X Y n raw, 0) ∧ ((r = X 0 ∧ crv X Y n (r - 1) = (0, 8)) ∨ (crv X Y n (r - 1) = (val X Y n (r - 1), 0) ∧ val X Y n (r - 1) < val X Y n raw)) := by
  obtain ⟨n2, _, _⟩ := ok_of ho
  have hx := ok_rise ho
  have hr := rng ho hm h0 h1
  have hX := rise_le hx (show 0 ≤ n - 1 by omega) (by omega)
  have hb := bs_least (val X Y n) (val X Y n raw) (X 0) (X (n - 1)) (fun a b ha hb hab => val_mono n2 hm ha hb hab) (X (n - 1) - X 0).toNat (X 0) (X (n - 1)) (Nat.le_refl _) (Int.le_refl _) hX (Int.le_refl _) (by rw [val_point n2 hx (by omega)]; exact hr.2) (fun x a b => by omega)
  obtain ⟨r, hr'⟩ : ∃ r, r = bs (val X Y n) (val X Y n raw) (X (n - 1) - X 0).toNat (X 0) (X (n - 1)) := ⟨_, rfl⟩
  rw [← hr'] at hb
  obtain ⟨a1, a2, a3, a4⟩ := hb
  have hle : r ≤ raw := by
    refine Int.not_lt.1 fun h => ?_
    exact absurd (a4 raw h0 h) (by omega)
  have hv : val X Y n r = val X Y n raw := by
    have := val_mono n2 hm a1 h1 hle
    omega
  refine ⟨r, ?_, a1, hle, ?_, ?_⟩
  · rw [inv, if_pos ho, if_pos hm, if_neg (by omega)]
    rw [hr']; rfl
  · rw [crv_in ho a1 a2, hv]
  · by_cases h : r = X 0
    · left
      refine ⟨h, ?_⟩
      rw [crv, if_pos ho, if_pos (by omega)]
    · right
      exact ⟨crv_in ho (by omega) (by omega), a4 (r - 1) (by omega) (by omega)⟩
theorem crv_out {X Y : Nat → Int} {n : Nat} {raw : Int} (h : (crv X Y n raw).2 ≠ 0) : (crv X Y n raw).1 = 0 ∧ ((crv X Y n raw).2 = 1 ∨ (crv X Y n raw).2 = 8) := by
  unfold crv at *
  split <;> (try split) <;> simp_all
theorem walk {H : Type} {enc : TypeId × Value → H} (v0 : Value) (a1 : Int) (w : World) {b0 : Nat} {d0 : DataW H} {p0 : List MemPlace} (ok0 : Value.okWide Try.prog w .any b0 28 v0) (tr0 : DataW.Trod enc Try.prog w 0 (fun _ => true) true 28 v0 d0 p0) (w1 : (Lit.int .i64 a1).wf = true) :
    Calls Try.prog 5 #[v0, .int .i64 a1] w fun e w' => e = .returned (.bool true) ∧ Below w.heap.size w w' := by
  obtain ⟨a, n, cap, X, Y, rfl, hl, hm, hI, hwf⟩ := arg_pts ok0 tr0
  have H0 := Lib.hid (hI.le hl)
  clear hI hwf ok0 tr0
  unfold maxLen at hm
  by_cases hn : n ≤ 300
  · have hn' : ¬ (300 : Int) < n := by omega
    cases hmo : monoB X Y n
    · go_enter Try.func5, Try.ntmps5
      go_wp2_with (first | (go_at_call 16; refine (mono_any _ _ _ X Y _ (by omega) H0.out).mono ?_; rintro e x1 ⟨rfl, m1, rfl⟩) | (go_at_call 9; refine (alive_any _).mono ?_; rintro e x2 ⟨rfl, hB2⟩))
      go_ret
      exact ⟨rfl, (Joins.below_draws w.heap.size w m1).trans hB2⟩
    · have HM := Lib.hid hmo
      by_cases he : (crv X Y n a1).2 = 0
      · have hin : okB X Y n = true ∧ X 0 ≤ a1 ∧ a1 ≤ X (n - 1) := by
          unfold crv at he
          split at he
          · rename_i ho
            refine ⟨ho, ?_⟩
            split at he
            · simp at he
            · omega
          · simp at he
        obtain ⟨ho, h0, h1⟩ := hin
        have HO := Lib.hid ho
        have hc := crv_in ho h0 h1
        have c1 : (crv X Y n a1).1 = val X Y n a1 := by rw [hc]
        have xb := (ok_of ho).2.2 0 (by have := (ok_of ho).1; omega)
        have xb0 := xb.1
        have xb1 := ((ok_of ho).2.2 (n - 1) (by have := (ok_of ho).1; omega)).1
        obtain ⟨r, hi, r0, r1, hr, hu⟩ := inverts ho hmo h0 h1
        have i1 : (inv X Y n (val X Y n a1)).1 = r := by rw [hi]
        have i2 : (inv X Y n (val X Y n a1)).2 = 0 := by rw [hi]
        have d1 : (crv X Y n r).1 = val X Y n a1 := by rw [hr]
        have d2 : (crv X Y n r).2 = 0 := by rw [hr]
        have r1' : ¬ a1 < r := by omega
        have HU := Lib.hid hu
        clear hu hr hi xb hc ho
        go_enter Try.func5, Try.ntmps5
        go_wp2_with fail
        refine (mono_any _ _ _ X Y _ (by omega) H0.out).mono ?_
        rintro e x1 ⟨rfl, m1, rfl⟩
        have S1 := Joins.below_draws w.heap.size w m1
        go_wp2_with fail
        refine (Curve_any _ _ _ X Y a1 _ hl (by omega) (H0.out.below S1 (Nat.le_refl _))).mono ?_
        rintro e x2 ⟨rfl, hB2⟩
        have S2 := S1.trans (hB2.mono S1.size)
        clear hB2 S1
        go_wp2_with fail
        refine (Invert_any _ _ _ X Y _ _ hl (by omega) (H0.out.below S2 (Nat.le_refl _))).mono ?_
        rintro e x3 ⟨rfl, hB3⟩
        have S3 := S2.trans (hB3.mono S2.size)
        clear hB3 S2
        go_wp2_with fail
        refine (Curve_any _ _ _ X Y _ _ hl (by omega) (H0.out.below S3 (Nat.le_refl _))).mono ?_
        rintro e x4 ⟨rfl, hB4⟩
        have S4 := S3.trans (hB4.mono S3.size)
        clear hB4 S3
        go_wp2_with fail
        refine (Curve_any _ _ _ X Y _ _ hl (by omega) (H0.out.below S4 (Nat.le_refl _))).mono ?_
        rintro e x5 ⟨rfl, hB5⟩
        have S5 := S4.trans (hB5.mono S4.size)
        clear hB5 S4
        rcases HU.out with ⟨-, hu⟩ | ⟨hu, hlt⟩
        · have u1 : (crv X Y n (r - 1)).1 = 0 := by rw [hu]
          have u2 : (crv X Y n (r - 1)).2 = 8 := by rw [hu]
          clear hu
          go_wp2_with fail
          refine (alive_any _).mono ?_
          rintro e x6 ⟨rfl, hB6⟩
          go_wp2_with fail
          go_ret
          exact ⟨rfl, S5.trans (hB6.mono S5.size)⟩
        · have u1 : (crv X Y n (r - 1)).1 = val X Y n (r - 1) := by rw [hu]
          have u2 : (crv X Y n (r - 1)).2 = 0 := by rw [hu]
          clear hu
          go_wp2_with fail
          refine (alive_any _).mono ?_
          rintro e x6 ⟨rfl, hB6⟩
          go_wp2_with fail
          go_ret
          exact ⟨rfl, S5.trans (hB6.mono S5.size)⟩
      · obtain ⟨c1, c2⟩ := crv_out he
        have heb : ((crv X Y n a1).2 != 0) = true := by simp [he]
        have C2 := Lib.hid c2
        clear c2 he
        go_enter Try.func5, Try.ntmps5
        go_wp2_with fail
        refine (mono_any _ _ _ X Y _ (by omega) H0.out).mono ?_
        rintro e x1 ⟨rfl, m1, rfl⟩
        have S1 := Joins.below_draws w.heap.size w m1
        go_wp2_with fail
        refine (Curve_any _ _ _ X Y a1 _ hl (by omega) (H0.out.below S1 (Nat.le_refl _))).mono ?_
        rintro e x2 ⟨rfl, hB2⟩
        have S2 := S1.trans (hB2.mono S1.size)
        clear hB2 S1
        go_wp2_with fail
        refine (alive_any _).mono ?_
        rintro e x6 ⟨rfl, hB6⟩
        go_wp2_with fail
        go_ret
        exact ⟨rfl, S2.trans (hB6.mono S2.size)⟩
  · have hn' : (300 : Int) < n := by omega
    go_enter Try.func5, Try.ntmps5
    go_wp2_with (go_at_call 9; refine (alive_any _).mono ?_; rintro e w2 ⟨rfl, hB2⟩)
    go_ret
    exact ⟨rfl, hB2⟩


set_option maxRecDepth 100000 in
theorem lifted (os : Os) (started : os.Started) (H : Type) (enc : TypeId × Value → H) :
    ReturnsInHanded {} Try.checked os 5 .any (Rows.calibInvertsSpec.pre6 enc Try.prog Try.f5 Rows.calibInvertsRow.domain false) (Rows.calibInvertsSpec.post enc Try.prog Try.f5 false true false false) := by
  refine returnsInHanded_of_change (C := Try.checked) own started (by kernel_rfl) Try.func5
    (ChangeSpec.witness6 (enc := enc) (C := Try.checked) false ⟨#[], #[.slice none 0 0, .int .i64 0], []⟩ 8 (by kernel_rfl) (by kernel_rfl) (by kernel_rfl) (by kernel_rfl)) ?_
  intro W base args ds gs before hval0 hW hcnd _
  have hval : ∀ (j : Nat) t v, Try.f5.params[j]? = some t → args[j]? = some v → Value.okWide Try.prog W .any base t v := hval0
  have hW' := hW
  obtain ⟨p, q, hA0, hV, rfl, hfz, hnd⟩ := hW
  have hA : DataW.TrodAll enc Try.prog W 0 (fun _ => true) true Try.f5.params.toList args.toList ds p := hA0
  rw [Try.params5] at hA hval
  obtain ⟨v0, vs0, d0, ds0, p0, q0, hargs, rfl, rfl, h0, r0⟩ := trodAll_cons hA
  obtain ⟨v1, vs1, d1, ds1, p1, q1, rfl, rfl, rfl, h1, r1⟩ := trodAll_cons r0
  obtain ⟨rfl, rfl, rfl⟩ := trodAll_nil r1
  obtain rfl : args = #[v0, v1] := by cases args; simp_all
  obtain ⟨rfl, rfl⟩ := trodVars_none hV
  have k0 := h0
  have lt0 : ∀ x ∈ p0, x.block < W.heap.size := by obtain ⟨m, hm⟩ := k0; exact DataW.trod_lt m _ _ _ hm
  obtain ⟨a1, rfl, rfl, rfl, w1⟩ := open_int Try.underlying3 (hval 1 3 v1 rfl rfl) h1
  clear hA0 hval0
  refine (walk v0 a1 W (hval 0 28 v0 rfl rfl) k0 w1).mono fun e W' ⟨he, bel⟩ => ?_
  subst he
  exact ⟨_, rfl, _, _, _, [], _, [], hW', trodAll_mk1 (shut_bool Try.underlying4 _), (trodAll_cons_mk (Below.trod laidOut (by kernel_rfl) (of_decide_eq_true (by kernel_rfl)) k0 bel lt0) (trodAll_cons_mk (shut_int Try.underlying3 w1) trodAll_mk0)), rfl, bel.frame _, fun h => by cases h⟩

theorem over : Rows.calibInvertsRow.holds Try.pinned (OpenSpec.ofChange Rows.calibInvertsSpec) :=
  OpenClaim.holds_of_wide 5 Try.f5 rfl rfl rfl rfl rfl rfl rfl ⟨rfl, rfl, rfl, rfl, rfl⟩ rfl rfl rfl rfl rfl (by kernel_rfl) Try.func5 (by kernel_rfl)
    (of_decide_eq_true (by kernel_rfl)) (by unfold Func.isWrapper; first | (rw [if_pos (by decide +kernel)]; kernel_rfl) | (rw [if_neg (by decide +kernel)]; exact ⟨rfl, rfl⟩))
    (fun os started H enc _ => lifted os started H enc)

theorem proved : Rows.CalibInvertsSaid := over
#print axioms proved
end Go.Proofs.Ytcgneldccbcidaa.calibInverts

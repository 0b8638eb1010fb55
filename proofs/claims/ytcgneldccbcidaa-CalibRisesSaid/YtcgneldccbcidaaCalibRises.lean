/- The law CalibRises holds: the walk, then the lift to the given statement. No condition. -/
import Derived.Test.YtcgneldccbcidaaM
import Derived.WalkKit
import Derived.ProofKit
import Derived.OpenShut
import Derived.Lib.Hide
import Derived.ChangeOld
import Derived.Below
import Derived.SizedLaws
namespace Go.Proofs.Ytcgneldccbcidaa.calibRises
open Go.ChangeShapes Go.WideShapes Go.ChangeAt Go.RowKit Go.Deep Calib50
set_option linter.unusedVariables false
theorem own : ownKnob Try.prog.godebug = none := by kernel_rfl
theorem laidOut : laidOutB Try.prog = true := by kernel_rfl

theorem rng {X Y : Nat → Int} {n : Nat} (ho : okB X Y n = true) (hm : monoB X Y n = true) {raw : Int} (h0 : X 0 ≤ raw) (h1 : raw ≤ X (n - 1)) : Y 0 ≤ val X Y n raw ∧ val X Y n raw ≤ Y (n - 1) := by
  obtain ⟨n2, _, _⟩ := ok_of ho
  have hx := ok_rise ho
  have a := val_mono n2 hm (Int.le_refl (X 0)) h1 h0
  have b := val_mono n2 hm h0 (Int.le_refl (X (n - 1))) h1
  rw [val_point n2 hx (by omega)] at a b
  exact ⟨a, b⟩
theorem crv_in {X Y : Nat → Int} {n : Nat} (ho : okB X Y n = true) {raw : Int} (h0 : X 0 ≤ raw) (h1 : raw ≤ X (n - 1)) : crv X Y n raw = (val X Y n raw, 0) := by
  rw [crv, if_pos ho, if_neg (by omega)]
theorem crv_zero {X Y : Nat → Int} {n : Nat} {raw : Int} (h : (crv X Y n raw).2 = 0) : okB X Y n = true ∧ X 0 ≤ raw ∧ raw ≤ X (n - 1) := by
  unfold crv at h
  split at h
  · rename_i ho
    refine ⟨ho, ?_⟩
    split at h
    · simp at h
    · omega
  · simp at h
theorem walk {H : Type} {enc : TypeId × Value → H} (v0 : Value) (a1 a2 : Int) (w : World) {b0 : Nat} {d0 : DataW H} {p0 : List MemPlace} (ok0 : Value.okWide Try.prog w .any b0 28 v0) (tr0 : DataW.Trod enc Try.prog w 0 (fun _ => true) true 28 v0 d0 p0) (w1 : (Lit.int .i64 a1).wf = true) (w2 : (Lit.int .i64 a2).wf = true) :
    Calls Try.prog 6 #[v0, .int .i64 a1, .int .i64 a2] w fun e w' => e = .returned (.bool true) ∧ Below w.heap.size w w' := by
  obtain ⟨a, n, cap, X, Y, rfl, hl, hm, hI, hwf⟩ := arg_pts ok0 tr0
  have H0 := Lib.hid (hI.le hl)
  clear hI hwf ok0 tr0
  unfold maxLen at hm
  by_cases hn : n ≤ 300
  · have hn' : ¬ (300 : Int) < n := by omega
    cases hmo : monoB X Y n
    · go_enter Try.func6, Try.ntmps6
      go_wp2_with (first | (go_at_call 16; refine (mono_any _ _ _ X Y _ (by omega) H0.out).mono ?_; rintro e x1 ⟨rfl, m1, rfl⟩) | (go_at_call 9; refine (alive_any _).mono ?_; rintro e x2 ⟨rfl, hB2⟩))
      go_ret
      exact ⟨rfl, (Joins.below_draws w.heap.size w m1).trans hB2⟩
    · have HM := Lib.hid hmo
      cases he1 : ((crv X Y n a1).2 != 0)
      · cases he2 : ((crv X Y n a2).2 != 0)
        · have z1 : (crv X Y n a1).2 = 0 := by simpa using he1
          have z2 : (crv X Y n a2).2 = 0 := by simpa using he2
          obtain ⟨ho, p0, p1⟩ := crv_zero z1
          obtain ⟨_, q0, q1⟩ := crv_zero z2
          have v1 : (crv X Y n a1).1 = val X Y n a1 := by rw [crv_in ho p0 p1]
          have v2 : (crv X Y n a2).1 = val X Y n a2 := by rw [crv_in ho q0 q1]
          have HO := Lib.hid ho
          have HV : a1 ≤ a2 → val X Y n a1 ≤ val X Y n a2 := fun h => val_mono (ok_of ho).1 hmo p0 q1 h
          clear ho
          have HV := Lib.hid HV
          clear z1 z2
          go_enter Try.func6, Try.ntmps6
          go_wp2_with fail
          refine (mono_any _ _ _ X Y _ (by omega) H0.out).mono ?_
          rintro e x1 ⟨rfl, m1, rfl⟩
          have S1 := Joins.below_draws w.heap.size w m1
          go_wp2_with fail
          refine (Curve_any _ _ _ X Y a1 _ hl (by omega) (H0.out.below S1 (Nat.le_refl _))).mono ?_
          rintro e x2 ⟨rfl, hB2⟩
          have S2 := S1.trans (hB2.mono S1.size)
          clear hB2 S1
          go_wp2_with fail
          refine (Curve_any _ _ _ X Y a2 _ hl (by omega) (H0.out.below S2 (Nat.le_refl _))).mono ?_
          rintro e x3 ⟨rfl, hB3⟩
          have S3 := S2.trans (hB3.mono S2.size)
          clear hB3 S2
          go_wp2_with fail
          clear he1 he2 v1 v2 hmo
          go_loopw [11] (fun i wr => ∃ k : Nat, (k + 1 ≤ n ∨ k = 0) ∧ i = .int .i64 (k + 1) ∧ Below w.heap.size w wr) (fun i _ => n - (intOf i).toNat)
          case atStart => exact ⟨0, .inr rfl, rfl, S3⟩
          case round =>
            obtain ⟨k, hk, rfl, hB⟩ := hrel
            by_cases hlt : k + 1 < n
            · obtain ⟨b, off, rfl, hb, hc⟩ := (H0.out.below hB (Nat.le_refl _)).resolve_left (by omega)
              have ⟨hx1, hy1⟩ := hc (k + 1) hlt
              have ⟨hx0, hy0⟩ := hc k (by omega)
              clear hc
              have hkn : (k : Int) + 1 < (n : Int) := by omega
              have hkn0 : (k : Int) < (n : Int) := by omega
              have hbet := val_between HM.out hlt (raw := a1)
              by_cases c1 : X k ≤ a1
              · by_cases c2 : a1 ≤ X (k + 1)
                · obtain ⟨t1, t2⟩ := hbet c1 c2
                  clear hbet
                  go_wp2
                  go_roundw
                  case rel => exact ⟨k + 1, by omega, by go_num, hB⟩
                  case measure => simp [intOf]; omega
                · clear hbet
                  go_wp2
                  go_roundw
                  case rel => exact ⟨k + 1, by omega, by go_num, hB⟩
                  case measure => simp [intOf]; omega
              · clear hbet
                go_wp2
                go_roundw
                case rel => exact ⟨k + 1, by omega, by go_num, hB⟩
                case measure => simp [intOf]; omega
            · by_cases hab : a2 < a1
              · go_wp2_with fail
                refine (alive_any _).mono ?_
                rintro e x6 ⟨rfl, hB6⟩
                go_wp2_with fail
                go_ret
                exact ⟨rfl, hB.trans (hB6.mono hB.size)⟩
              · have hv := HV.out (by omega)
                go_wp2_with fail
                refine (alive_any _).mono ?_
                rintro e x6 ⟨rfl, hB6⟩
                go_wp2_with fail
                go_ret
                exact ⟨rfl, hB.trans (hB6.mono hB.size)⟩
        · have z1 : (crv X Y n a1).2 = 0 := by simpa using he1
          go_enter Try.func6, Try.ntmps6
          go_wp2_with fail
          refine (mono_any _ _ _ X Y _ (by omega) H0.out).mono ?_
          rintro e x1 ⟨rfl, m1, rfl⟩
          have S1 := Joins.below_draws w.heap.size w m1
          go_wp2_with fail
          refine (Curve_any _ _ _ X Y a1 _ hl (by omega) (H0.out.below S1 (Nat.le_refl _))).mono ?_
          rintro e x2 ⟨rfl, hB2⟩
          have S2 := S1.trans (hB2.mono S1.size)
          clear hB2 S1
          go_wp2_with fail
          refine (Curve_any _ _ _ X Y a2 _ hl (by omega) (H0.out.below S2 (Nat.le_refl _))).mono ?_
          rintro e x3 ⟨rfl, hB3⟩
          have S3 := S2.trans (hB3.mono S2.size)
          clear hB3 S2
          go_wp2_with fail
          refine (alive_any _).mono ?_
          rintro e x6 ⟨rfl, hB6⟩
          go_wp2_with fail
          go_ret
          exact ⟨rfl, S3.trans (hB6.mono S3.size)⟩
      · go_enter Try.func6, Try.ntmps6
        go_wp2_with fail
        refine (mono_any _ _ _ X Y _ (by omega) H0.out).mono ?_
        rintro e x1 ⟨rfl, m1, rfl⟩
        have S1 := Joins.below_draws w.heap.size w m1
        go_wp2_with fail
        refine (Curve_any _ _ _ X Y a1 _ hl (by omega) (H0.out.below S1 (Nat.le_refl _))).mono ?_
        rintro e x2 ⟨rfl, hB2⟩
        have S2 := S1.trans (hB2.mono S1.size)
        clear hB2 S1
        go_wp2_with fail
        refine (Curve_any _ _ _ X Y a2 _ hl (by omega) (H0.out.below S2 (Nat.le_refl _))).mono ?_
        rintro e x3 ⟨rfl, hB3⟩
        have S3 := S2.trans (hB3.mono S2.size)
        clear hB3 S2
        go_wp2_with fail
        refine (alive_any _).mono ?_
        rintro e x6 ⟨rfl, hB6⟩
        go_wp2_with fail
        go_ret
        exact ⟨rfl, S3.trans (hB6.mono S3.size)⟩
  · have hn' : (300 : Int) < n := by omega
    go_enter Try.func6, Try.ntmps6
    go_wp2_with (go_at_call 9; refine (alive_any _).mono ?_; rintro e w2 ⟨rfl, hB2⟩)
    go_ret
    exact ⟨rfl, hB2⟩


set_option maxRecDepth 100000 in
theorem lifted (os : Os) (started : os.Started) (H : Type) (enc : TypeId × Value → H) :
    ReturnsInHanded {} Try.checked os 6 .any (Rows.calibRisesSpec.pre6 enc Try.prog Try.f6 Rows.calibRisesRow.domain false) (Rows.calibRisesSpec.post enc Try.prog Try.f6 false true false false) := by
  refine returnsInHanded_of_change (C := Try.checked) own started (by kernel_rfl) Try.func6
    (ChangeSpec.witness6 (enc := enc) (C := Try.checked) false ⟨#[], #[.slice none 0 0, .int .i64 0, .int .i64 0], []⟩ 8 (by kernel_rfl) (by kernel_rfl) (by kernel_rfl) (by kernel_rfl)) ?_
  intro W base args ds gs before hval0 hW hcnd _
  have hval : ∀ (j : Nat) t v, Try.f6.params[j]? = some t → args[j]? = some v → Value.okWide Try.prog W .any base t v := hval0
  have hW' := hW
  obtain ⟨p, q, hA0, hV, rfl, hfz, hnd⟩ := hW
  have hA : DataW.TrodAll enc Try.prog W 0 (fun _ => true) true Try.f6.params.toList args.toList ds p := hA0
  rw [Try.params6] at hA hval
  obtain ⟨v0, vs0, d0, ds0, p0, q0, hargs, rfl, rfl, h0, r0⟩ := trodAll_cons hA
  obtain ⟨v1, vs1, d1, ds1, p1, q1, rfl, rfl, rfl, h1, r1⟩ := trodAll_cons r0
  obtain ⟨v2, vs2, d2, ds2, p2, q2, rfl, rfl, rfl, h2, r2⟩ := trodAll_cons r1
  obtain ⟨rfl, rfl, rfl⟩ := trodAll_nil r2
  obtain rfl : args = #[v0, v1, v2] := by cases args; simp_all
  obtain ⟨rfl, rfl⟩ := trodVars_none hV
  have k0 := h0
  have lt0 : ∀ x ∈ p0, x.block < W.heap.size := by obtain ⟨m, hm⟩ := k0; exact DataW.trod_lt m _ _ _ hm
  obtain ⟨a1, rfl, rfl, rfl, w1⟩ := open_int Try.underlying3 (hval 1 3 v1 rfl rfl) h1
  obtain ⟨a2, rfl, rfl, rfl, w2⟩ := open_int Try.underlying3 (hval 2 3 v2 rfl rfl) h2
  clear hA0 hval0
  refine (walk v0 a1 a2 W (hval 0 28 v0 rfl rfl) k0 w1 w2).mono fun e W' ⟨he, bel⟩ => ?_
  subst he
  exact ⟨_, rfl, _, _, _, [], _, [], hW', trodAll_mk1 (shut_bool Try.underlying4 _), (trodAll_cons_mk (Below.trod laidOut (by kernel_rfl) (of_decide_eq_true (by kernel_rfl)) k0 bel lt0) (trodAll_cons_mk (shut_int Try.underlying3 w1) (trodAll_cons_mk (shut_int Try.underlying3 w2) trodAll_mk0))), rfl, bel.frame _, fun h => by cases h⟩

theorem over : Rows.calibRisesRow.holds Try.pinned (OpenSpec.ofChange Rows.calibRisesSpec) :=
  OpenClaim.holds_of_wide 6 Try.f6 rfl rfl rfl rfl rfl rfl rfl ⟨rfl, rfl, rfl, rfl, rfl⟩ rfl rfl rfl rfl rfl (by kernel_rfl) Try.func6 (by kernel_rfl)
    (of_decide_eq_true (by kernel_rfl)) (by unfold Func.isWrapper; first | (rw [if_pos (by decide +kernel)]; kernel_rfl) | (rw [if_neg (by decide +kernel)]; exact ⟨rfl, rfl⟩))
    (fun os started H enc _ => lifted os started H enc)

theorem proved : Rows.CalibRisesSaid := over
#print axioms proved
end Go.Proofs.Ytcgneldccbcidaa.calibRises

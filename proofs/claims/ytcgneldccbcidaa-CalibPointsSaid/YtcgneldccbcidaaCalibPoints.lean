/- The law CalibPoints holds: the walk, then the lift to the given statement. No condition. -/
import Derived.Test.YtcgneldccbcidaaM
import Derived.WalkKit
import Derived.ProofKit
import Derived.OpenShut
import Derived.Lib.Hide
import Derived.ChangeOld
import Derived.Below
import Derived.SizedLaws
namespace Go.Proofs.Ytcgneldccbcidaa.calibPoints
open Go.ChangeShapes Go.WideShapes Go.ChangeAt Go.RowKit Go.Deep Calib50
set_option linter.unusedVariables false
theorem own : ownKnob Try.prog.godebug = none := by kernel_rfl
theorem laidOut : laidOutB Try.prog = true := by kernel_rfl

theorem crv_at {X Y : Nat → Int} {n : Nat} (ho : okB X Y n = true) {i : Nat} (hi : i < n) : crv X Y n (X i) = (Y i, 0) := by
  obtain ⟨n2, _, _⟩ := ok_of ho
  have hx := ok_rise ho
  rw [crv, if_pos ho, if_neg (by have a := rise_le hx (Nat.zero_le i) hi; have b := rise_le hx (show i ≤ n - 1 by omega) (by omega); omega), val_point n2 hx hi]
theorem walk {H : Type} {enc : TypeId × Value → H} (v0 : Value) (w : World) {b0 : Nat} {d0 : DataW H} {p0 : List MemPlace} (ok0 : Value.okWide Try.prog w .any b0 28 v0) (tr0 : DataW.Trod enc Try.prog w 0 (fun _ => true) true 28 v0 d0 p0) :
    Calls Try.prog 7 #[v0] w fun e w' => e = .returned (.bool true) ∧ Below w.heap.size w w' := by
  obtain ⟨a, n, cap, X, Y, rfl, hl, hm, hI, hwf⟩ := arg_pts ok0 tr0
  have hI' := hI.le hl
  have H0 := Lib.hid hI'
  clear hwf ok0 tr0 hI
  unfold maxLen at hm
  by_cases hn : n ≤ 256 ∧ 2 ≤ n
  · obtain ⟨hn1, hn2⟩ := hn
    have hn' : ¬ (256 : Int) < n := by omega
    have hn'' : ¬ (n : Int) < 2 := by omega
    have hn3 : (0 : Int) < n := by omega
    obtain ⟨b, off, rfl, hb, hc⟩ := hI'.resolve_left (by omega)
    have HC := Lib.hid hc
    have c0 := hc 0 (by omega)
    simp only [Nat.zero_mul, Nat.add_zero] at c0
    obtain ⟨x0, y0⟩ := c0
    clear hc
    cases ho : okB X Y n
    · have z2 : (crv X Y n (X 0)).2 = 1 := by simp [crv, ho]
      clear ho
      go_enter Try.func7, Try.ntmps7
      go_wp2_with fail
      refine (Curve_any _ _ _ X Y _ _ hl (by omega) H0.out).mono ?_
      rintro e w2 ⟨rfl, hB2⟩
      go_wp2_with fail
      refine (alive_any _).mono ?_
      rintro e w3 ⟨rfl, hB3⟩
      go_wp2_with fail
      go_ret
      exact ⟨rfl, hB2.trans (hB3.mono hB2.size)⟩
    · have HO := Lib.hid ho
      have z2 : (crv X Y n (X 0)).2 = 0 := by rw [crv_at ho (by omega)]
      clear ho
      go_enter Try.func7, Try.ntmps7
      go_wp2_with fail
      refine (Curve_any _ _ _ X Y _ _ hl (by omega) H0.out).mono ?_
      rintro e w2 ⟨rfl, hB2⟩
      go_wp2_with fail
      go_loopw [5] (fun i wr => ∃ k : Nat, k ≤ n ∧ i = .int .i64 k ∧ Below w.heap.size w wr) (fun i _ => n - (intOf i).toNat)
      case atStart => exact ⟨0, by omega, rfl, hB2⟩
      case round =>
        obtain ⟨k, hk, rfl, hB⟩ := hrel
        by_cases hlt : k < n
        · have ck := HC.out k hlt
          have hb1 : b < wr.heap.size := Nat.lt_of_lt_of_le hb hB.size
          have xk : wr.cell? ⟨b, off + k * 2, none⟩ = some (.int .i64 (X k)) := (hB.cell (p := ⟨b, _, none⟩) hb).trans ck.1
          have e1 : (crv X Y n (X k)).1 = Y k := by rw [crv_at HO.out hlt]
          have e2 : (crv X Y n (X k)).2 = 0 := by rw [crv_at HO.out hlt]
          clear x0 y0
          go_wp2_with fail
          refine (Curve_any _ _ _ X Y _ _ hl (by omega) (H0.out.below hB (Nat.le_refl _))).mono ?_
          rintro e w4 ⟨rfl, hB4⟩
          have yk : w4.cell? ⟨b, off + k * 2 + 1, none⟩ = some (.int .i64 (Y k)) := (hB4.cell (p := ⟨b, _, none⟩) hb1).trans ((hB.cell (p := ⟨b, _, none⟩) hb).trans ck.2)
          have S4 := hB.trans (hB4.mono hB.size)
          clear ck xk hB4
          go_wp2_with fail
          go_roundw
          case rel => exact ⟨k + 1, by omega, by go_num, S4⟩
          case measure => simp [intOf]; omega
        · go_wp2_with fail
          refine (alive_any _).mono ?_
          rintro e w3 ⟨rfl, hB3⟩
          go_wp2_with fail
          go_ret
          exact ⟨rfl, hB.trans (hB3.mono hB.size)⟩
  · by_cases hb : n ≤ 256
    · have hn' : ¬ (256 : Int) < n := by omega
      have hn'' : (n : Int) < 2 := by omega
      go_enter Try.func7, Try.ntmps7
      go_wp2_with (go_at_call 9; refine (alive_any _).mono ?_; rintro e w2 ⟨rfl, hB2⟩)
      go_ret
      exact ⟨rfl, hB2⟩
    · have hn' : (256 : Int) < n := by omega
      go_enter Try.func7, Try.ntmps7
      go_wp2_with (go_at_call 9; refine (alive_any _).mono ?_; rintro e w2 ⟨rfl, hB2⟩)
      go_ret
      exact ⟨rfl, hB2⟩


set_option maxRecDepth 100000 in
theorem lifted (os : Os) (started : os.Started) (H : Type) (enc : TypeId × Value → H) :
    ReturnsInHanded {} Try.checked os 7 .any (Rows.calibPointsSpec.pre6 enc Try.prog Try.f7 Rows.calibPointsRow.domain false) (Rows.calibPointsSpec.post enc Try.prog Try.f7 false true false false) := by
  refine returnsInHanded_of_change (C := Try.checked) own started (by kernel_rfl) Try.func7
    (ChangeSpec.witness6 (enc := enc) (C := Try.checked) false ⟨#[], #[.slice none 0 0], []⟩ 8 (by kernel_rfl) (by kernel_rfl) (by kernel_rfl) (by kernel_rfl)) ?_
  intro W base args ds gs before hval0 hW hcnd _
  have hval : ∀ (j : Nat) t v, Try.f7.params[j]? = some t → args[j]? = some v → Value.okWide Try.prog W .any base t v := hval0
  have hW' := hW
  obtain ⟨p, q, hA0, hV, rfl, hfz, hnd⟩ := hW
  have hA : DataW.TrodAll enc Try.prog W 0 (fun _ => true) true Try.f7.params.toList args.toList ds p := hA0
  rw [Try.params7] at hA hval
  obtain ⟨v0, vs0, d0, ds0, p0, q0, hargs, rfl, rfl, h0, r0⟩ := trodAll_cons hA
  obtain ⟨rfl, rfl, rfl⟩ := trodAll_nil r0
  obtain rfl : args = #[v0] := by cases args; simp_all
  obtain ⟨rfl, rfl⟩ := trodVars_none hV
  have k0 := h0
  have lt0 : ∀ x ∈ p0, x.block < W.heap.size := by obtain ⟨m, hm⟩ := k0; exact DataW.trod_lt m _ _ _ hm
  clear hA0 hval0
  refine (walk v0 W (hval 0 28 v0 rfl rfl) k0).mono fun e W' ⟨he, bel⟩ => ?_
  subst he
  exact ⟨_, rfl, _, _, _, [], _, [], hW', trodAll_mk1 (shut_bool Try.underlying4 _), (trodAll_cons_mk (Below.trod laidOut (by kernel_rfl) (of_decide_eq_true (by kernel_rfl)) k0 bel lt0) trodAll_mk0), rfl, bel.frame _, fun h => by cases h⟩

theorem over : Rows.calibPointsRow.holds Try.pinned (OpenSpec.ofChange Rows.calibPointsSpec) :=
  OpenClaim.holds_of_wide 7 Try.f7 rfl rfl rfl rfl rfl rfl rfl ⟨rfl, rfl, rfl, rfl, rfl⟩ rfl rfl rfl rfl rfl (by kernel_rfl) Try.func7 (by kernel_rfl)
    (of_decide_eq_true (by kernel_rfl)) (by unfold Func.isWrapper; first | (rw [if_pos (by decide +kernel)]; kernel_rfl) | (rw [if_neg (by decide +kernel)]; exact ⟨rfl, rfl⟩))
    (fun os started H enc _ => lifted os started H enc)

theorem proved : Rows.CalibPointsSaid := over
#print axioms proved
end Go.Proofs.Ytcgneldccbcidaa.calibPoints

/- The law PackerFills holds: the walk, then the lift to the given statement. No condition. -/
import Derived.Test.YtalghcgedmcifaaY
import Derived.WalkKit
import Derived.ProofKit
import Derived.OpenShut
import Derived.Lib.Hide
import Derived.ChangeOld
import Derived.Below
import Derived.SizedLaws
namespace Go.Proofs.Ytalghcgedmcifaa.packerFills
open Go.ChangeShapes Go.WideShapes Go.ChangeAt Go.RowKit
set_option linter.unusedVariables false
theorem own : ownKnob Try.prog.godebug = none := by kernel_rfl
theorem laidOut : laidOutB Try.prog = true := by kernel_rfl

set_option maxRecDepth 20000 in
set_option maxHeartbeats 4000000 in
theorem walk (a0 a1 : Int) (w : World) (w0 : (Lit.int .i64 a0).wf = true) (w1 : (Lit.int .i64 a1).wf = true) : Calls Try.prog 5 #[.int .i64 a0, .int .i64 a1] w fun e w' => e = .returned (.bool true) ∧ Below w.heap.size w w' := by
  by_cases hr : rightB a0 = true
  · by_cases h1 : a1 < 1
    · clear w0 w1
      go_enter Try.func5, Try.ntmps5
      go_wp2_with (go_at_call 7; refine (right_any a0 w).mono ?_; rintro e wq ⟨rfl, hw⟩; obtain rfl := hw.symm; rw [hr])
      refine (alive_any _).mono ?_
      rintro e w9 ⟨rfl, hB⟩
      have HB9 := Lib.hid hB
      clear hB
      go_wp2_with fail
      go_ret
      exact ⟨rfl, HB9.out⟩
    by_cases h2 : 4000 < a1
    · clear w0 w1
      go_enter Try.func5, Try.ntmps5
      go_wp2_with (go_at_call 7; refine (right_any a0 w).mono ?_; rintro e wq ⟨rfl, hw⟩; obtain rfl := hw.symm; rw [hr])
      refine (alive_any _).mono ?_
      rintro e w9 ⟨rfl, hB⟩
      have HB9 := Lib.hid hB
      clear hB
      go_wp2_with fail
      go_ret
      exact ⟨rfl, HB9.out⟩
    · have hs : 1 ≤ a0 ∧ a0 ≤ 1012 := by unfold rightB at hr; simpa using hr
      obtain ⟨s, rfl⟩ : ∃ s : Nat, a0 = (s : Int) := ⟨a0.toNat, by omega⟩
      obtain ⟨n, rfl⟩ : ∃ n : Nat, a1 = (n : Int) := ⟨a1.toNat, by omega⟩
      have hs1 : 1 ≤ s := by omega
      have hs2 : s ≤ 1012 := by omega
      have hn1 : 1 ≤ n := by omega
      have hn2 : n ≤ 4000 := by omega
      obtain ⟨q2, out, hnx, hol, hql⟩ := one_next s n hs1 hn1 hn2
      have HNX := Lib.hid hnx
      have HOL := Lib.hid hol
      have HQL := Lib.hid hql
      have HPU := Lib.hid (one_push s n hn1 hn2)
      have HNN := Lib.hid (new_none s)
      have HRD := Lib.hid (one_ready s n)
      have HR := Lib.hid hr
      have HOK := Lib.hid (PS.ok_new (size := (s : Int)) (room := 5000) hr)
      have e1 : (s : Int) ≤ 1012 := by omega
      have e2 : (n : Int) ≤ 4000 := by omega
      obtain ⟨b, hb⟩ : ∃ b, b = w.heap.size := ⟨_, rfl⟩
      have HBB := Lib.hid hb
      clear w0 w1 hs hnx hol hql
      go_enter Try.func5, Try.ntmps5
      go_upto_region 3 with (go_at_call 7; refine (right_any (s : Int) w).mono ?_; rintro e wq ⟨rfl, hw⟩; obtain rfl := hw.symm; rw [hr])
      clear hr
      go_wp2_with fail
      refine (new_any (s : Int) 5000 w HR.out).mono ?_
      rintro e wa ⟨rfl, hF, hB⟩
      rw [← hb] at hF ⊢
      have H1 : Hid (PAt wa (fun k => k < b) b (PS.new s 5000) (.slice none 0 0) (.slice none 0 0)) := Lib.hid hF
      have HB1 : Hid (Below b w wa) := Lib.hid (by rw [hb]; exact hB)
      clear hF hB hb
      go_wp2_with fail
      refine (next_ex HNN.out H1.out HOK.out).mono ?_
      rintro e w2 ⟨v2, vW2, vR2, rfl, HO2, H2, HR2, HB2, HC2, HN2⟩
      simp only [Option.map_none, Option.getD_none, Option.isSome_none] at HO2 ⊢
      obtain ⟨a2, n2, c2, rfl⟩ := own_slice HO2.out
      go_wp2_with fail
      refine (lbytes_any n 1 w2 hn1 hn2).mono ?_
      rintro e w3 ⟨vx, rfl, hO, hB⟩
      obtain ⟨-, ax, cx, rfl, hcx, hmx, hAx⟩ := BAt.of_row hO
      have hl6 := pkB_len n 1
      have H3 := Lib.hid (H2.out.below hB (Nat.le_refl _))
      have HB3 : Hid (Below b w w3) := Lib.hid ((HB1.out.trans HB2.out).trans (hB.mono (Nat.le_of_lt H2.out.blk.lt)))
      obtain ⟨m, hm⟩ : ∃ m, m = (pkB n 1).length := ⟨_, rfl⟩
      rw [← hm] at hcx ⊢
      have HM := Lib.hid hm
      have hm9 : m ≤ 100000 := by omega
      have HX3 := Lib.hid hAx
      clear hO hB hAx hm hl6
      go_wp2_with fail
      refine (push_ex (n := m) HPU.out H3.out HOK.out HX3.out HM.out.symm hm9 hcx hmx).mono ?_
      rintro e w4 ⟨vW4, rfl, H4, HR4, HB4, HC4⟩
      have HOK2 : Hid (one s n).Ok := Lib.hid (by have := PS.ok_push HOK.out (pkB n 1); rwa [HPU.out] at this)
      go_wp2_with fail
      refine (ready_any w4 H4.out HOK2.out).mono ?_
      rintro e w5 ⟨rfl, hq⟩
      rw [HRD.out]
      have H5 := Lib.hid (H4.out.quiet hq)
      have HB5 : Hid (Below b w w5) := Lib.hid ((HB3.out.trans HB4.out).trans hq.below)
      clear hq
      go_wp2_with fail
      refine (next_ex HNX.out H5.out HOK2.out).mono ?_
      rintro e w6 ⟨v6, vW6, vR6, rfl, HO6, H6, HR6, HB6, HC6, HN6⟩
      simp only [Option.map_some, Option.getD_some, Option.isSome_some] at HO6 ⊢
      obtain ⟨-, a6, c6, rfl, -, -, -⟩ := BAt.of_row HO6.out
      rw [HOL.out] at H6 ⊢
      have HOK3 : Hid q2.Ok := Lib.hid (by have := PS.ok_next HOK2.out; rwa [HNX.out] at this)
      obtain ⟨lf, hlf⟩ : ∃ lf, lf = q2.left := ⟨_, rfl⟩
      have hq9 := HQL.out
      have x1 : max ((n : Int) + 6 - (s : Int)) 0 = (lf : Int) := by omega
      clear hq9
      by_cases hle : s ≤ n + 6
      · have x2 : (s : Int) ≤ (n : Int) + 6 := by omega
        have x3 : decide (s ≤ n + 6) = true := decide_eq_true hle
        go_wp2_with (go_at_call 14; refine (left_any w6 H6.out HOK3.out).mono ?_; rintro e wq ⟨rfl, hw⟩; obtain rfl := hw.symm; rw [← hlf])
        refine (alive_any _).mono ?_
        rintro e w9 ⟨rfl, hB⟩
        have HB9 : Hid (Below w.heap.size w w9) := Lib.hid (by rw [← HBB.out]; exact (HB5.out.trans HB6.out).trans (hB.mono (Nat.le_of_lt H6.out.blk.lt)))
        clear hB
        go_wp2_with fail
        go_ret
        exact ⟨rfl, HB9.out⟩
      · have x2 : ¬ (s : Int) ≤ (n : Int) + 6 := by omega
        have x3 : decide (s ≤ n + 6) = false := decide_eq_false hle
        go_wp2_with (go_at_call 14; refine (left_any w6 H6.out HOK3.out).mono ?_; rintro e wq ⟨rfl, hw⟩; obtain rfl := hw.symm; rw [← hlf])
        refine (alive_any _).mono ?_
        rintro e w9 ⟨rfl, hB⟩
        have HB9 : Hid (Below w.heap.size w w9) := Lib.hid (by rw [← HBB.out]; exact (HB5.out.trans HB6.out).trans (hB.mono (Nat.le_of_lt H6.out.blk.lt)))
        clear hB
        go_wp2_with fail
        go_ret
        exact ⟨rfl, HB9.out⟩
  · have hr : rightB a0 = false := by simpa using hr
    clear w0 w1
    go_enter Try.func5, Try.ntmps5
    go_wp2_with (go_at_call 7; refine (right_any a0 w).mono ?_; rintro e wq ⟨rfl, hw⟩; obtain rfl := hw.symm; rw [hr])
    refine (alive_any _).mono ?_
    rintro e w9 ⟨rfl, hB⟩
    have HB9 := Lib.hid hB
    clear hB
    go_wp2_with fail
    go_ret
    exact ⟨rfl, HB9.out⟩


set_option maxRecDepth 100000 in
theorem lifted (os : Os) (started : os.Started) (H : Type) (enc : TypeId × Value → H) :
    ReturnsInHanded {} Try.checked os 5 .any (Rows.packerFillsSpec.pre6 enc Try.prog Try.f5 Rows.packerFillsRow.domain false) (Rows.packerFillsSpec.post enc Try.prog Try.f5 false true false false) := by
  refine returnsInHanded_of_change (C := Try.checked) own started (by kernel_rfl) Try.func5
    (ChangeSpec.witness6 (enc := enc) (C := Try.checked) false ⟨#[], #[.int .i64 0, .int .i64 0], []⟩ 8 (by kernel_rfl) (by kernel_rfl) (by kernel_rfl) (by kernel_rfl)) ?_
  intro W base args ds gs before hval0 hW hcnd _
  have hval : ∀ (j : Nat) t v, Try.f5.params[j]? = some t → args[j]? = some v → Value.okWide Try.prog W .any base t v := hval0
  have hW' := hW
  obtain ⟨p, q, hA0, hV, rfl, hfz, hnd⟩ := hW
  have hA : DataW.TrodAll enc Try.prog W 0 (fun _ => true) true Try.f5.params.toList args.toList ds p := hA0
  rw [Try.params5] at hA hval
  obtain ⟨v0, vs0, d0, ds0, p0, q0, hargs, rfl, rfl, h0, r0⟩ := trodAll_cons hA
  obtain ⟨v1, vs1, d1, ds1, p1, q1, rfl, rfl, rfl, h1, r1⟩ := trodAll_cons r0
  obtain ⟨rfl, rfl, rfl⟩ := trodAll_nil r1
  obtain rfl : args = #[v0, v1] := by cases args; simp_all
  obtain ⟨rfl, rfl⟩ := trodVars_none hV
  obtain ⟨a0, rfl, rfl, rfl, w0⟩ := open_int Try.underlying3 (hval 0 3 v0 rfl rfl) h0
  obtain ⟨a1, rfl, rfl, rfl, w1⟩ := open_int Try.underlying3 (hval 1 3 v1 rfl rfl) h1
  clear hA0 hval0
  refine (walk a0 a1 W w0 w1).mono fun e W' ⟨he, bel⟩ => ?_
  subst he
  exact ⟨_, rfl, _, _, _, [], _, [], hW', trodAll_mk1 (shut_bool Try.underlying4 _), (trodAll_cons_mk (shut_int Try.underlying3 w0) (trodAll_cons_mk (shut_int Try.underlying3 w1) trodAll_mk0)), rfl, bel.frame _, fun h => by cases h⟩

theorem over : Rows.packerFillsRow.holds Try.pinned (OpenSpec.ofChange Rows.packerFillsSpec) :=
  OpenClaim.holds_of_wide 5 Try.f5 rfl rfl rfl rfl rfl rfl rfl ⟨rfl, rfl, rfl, rfl, rfl⟩ rfl rfl rfl rfl rfl (by kernel_rfl) Try.func5 (by kernel_rfl)
    (of_decide_eq_true (by kernel_rfl)) (by unfold Func.isWrapper; first | (rw [if_pos (by decide +kernel)]; kernel_rfl) | (rw [if_neg (by decide +kernel)]; exact ⟨rfl, rfl⟩))
    (fun os started H enc _ => lifted os started H enc)

theorem proved : Rows.PackerFillsSaid := over
#print axioms proved
end Go.Proofs.Ytalghcgedmcifaa.packerFills

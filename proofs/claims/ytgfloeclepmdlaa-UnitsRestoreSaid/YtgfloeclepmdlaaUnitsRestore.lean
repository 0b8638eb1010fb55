/- The law UnitsRestore holds: the walk, then the lift to the given statement. No condition. -/
import Derived.Test.YtgfloeclepmdlaaQ
import Derived.WalkKit
import Derived.Test.YtgfloeclepmdlaaR
import Derived.ProofKit
import Derived.OpenShut
import Derived.Lib.Hide
import Derived.ChangeOld
import Derived.Below
import Derived.SizedLaws
namespace Go.Proofs.Ytgfloeclepmdlaa.unitsRestore
open Go.ChangeShapes Go.WideShapes Go.ChangeAt Go.RowKit
set_option linter.unusedVariables false
theorem own : ownKnob Try.prog.godebug = none := by kernel_rfl
theorem laidOut : laidOutB Try.prog = true := by kernel_rfl

set_option linter.unusedSimpArgs false in
set_option maxRecDepth 20000 in
set_option maxHeartbeats 4000000 in
theorem walk {H : Type} {enc : TypeId × Value → H} (v0 v1 : Value) (w : World) {b0 : Nat} {d0 : DataW H} {p0 : List MemPlace} (ok0 : Value.okWide Try.prog w .any b0 22 v0) (tr0 : DataW.Trod enc Try.prog w 0 (fun _ => true) true 22 v0 d0 p0)
    {b1 : Nat} {d1 : DataW H} {p1 : List MemPlace} (ok1 : Value.okWide Try.prog w .any b1 22 v1) (tr1 : DataW.Trod enc Try.prog w 0 (fun _ => true) true 22 v1 d1 p1) :
    Calls Try.prog 3 #[v0, v1] w fun e w' => e = .returned (.bool true) ∧ Below w.heap.size w w' := by
  obtain ⟨s0, s1, s2, s3, S, hSe, rfl⟩ := arg_b4 ok0 tr0
  obtain ⟨f0, f1, f2, f3, F, hFe, rfl⟩ := arg_b4 ok1 tr1
  have hS : S.length = 4 := by rw [hSe]; rfl
  have hF : F.length = 4 := by rw [hFe]; rfl
  have HSE := Lib.hid hSe
  have HFE := Lib.hid hFe
  have HS4 := Lib.hid hS
  have HF4 := Lib.hid hF
  clear hSe hFe hS hF
  obtain ⟨i0, hi, hz0, hz1, hz2⟩ := info_parts info3
  clear ok0 tr0 ok1 tr1
  go_enter Try.func3, Try.ntmps3
  go_wp2_with fail
  refine (new_any (ds := [0, 1, 2, 3]) 4 (def_litAt (by simp) [0, 1, 2, 3] [.int .i64 0, .bool false, .int .i64 1, .bool false, .int .i64 2, .bool false, .int .i64 3, .bool false] 28 (by
    intro i hi
    match i, hi with
    | 0, _ => exact ⟨rfl, false, rfl⟩
    | 1, _ => exact ⟨rfl, false, rfl⟩
    | 2, _ => exact ⟨rfl, false, rfl⟩
    | 3, _ => exact ⟨rfl, false, rfl⟩)) (by decide)).mono ?_
  rintro e w1 h
  obtain ⟨-, b, g, cap, rfl, hU, hb, hg, hB⟩ := h.resolve_right (fun h => h.1 ok0123)
  have HR : Hid (Rs w w1.heap.size b g cap S F (usK S F 0) (LK S 0) (BK F 0) (.slice none 0 0) (.slice none 0 0) w1) := by
    refine ⟨by rw [usK_zero]; exact hU, ?_, ?_, World.ownsRow_nil _ _ _ _, World.ownsRow_nil _ _ _ _, (fun p hp => by cases hp), (al (al (al (Below.refl _ _) _) _) _).trans (hB.mono (by simp; omega)), (by simp at hg; omega), hU.row.lt, hU.box.lt, Nat.le_refl _⟩
    · exact ((((Blk.new w 22 [.bool s0, .bool s1, .bool s2, .bool s3]).alloc _).alloc _).below hB (Nat.le_refl _)).cast (by rw [HSE.out]; rfl)
    · exact (((Blk.newAt (xs := [.bool f0, .bool f1, .bool f2, .bool f3]) (by simp)).alloc _).below hB (Nat.le_refl _)).cast (by rw [HFE.out]; rfl)
  clear hU hb hg hB h
  go_wp2_with fail
  go_loopw [7, 8, 9] (fun v7 v8 i wr => ∃ (k : Nat), k ≤ 4 ∧ i = .int .i64 k ∧ Rs w w1.heap.size b g cap S F (usK S F k) (LK S k) (BK F k) v7 v8 wr) (fun _ _ i _ => 4 - (intOf i).toNat)
  case atStart => exact ⟨0, by omega, rfl, HR.out⟩
  case round =>
    obtain ⟨k, hk, rfl, hR⟩ := hrel
    have HR := Lib.hid hR
    by_cases hlt : k < 4
    · have hS := HS4.out
      have hF := HF4.out
      have hk0 : (0 : Int) ≤ (k : Int) := by omega
      have hk1 : (k : Int) < 4 := by omega
      have x1 : wr.cell? ⟨w.heap.size, k, none⟩ = some (.bool (S[k]'(by omega))) := (hR.s.cell k).trans (by unfold bvs; rw [List.getElem?_eq_getElem (by simp; omega)]; simp)
      have x2 : wr.cell? ⟨w.heap.size + 1, k, none⟩ = some (.bool (F[k]'(by omega))) := (hR.f.cell k).trans (by unfold bvs; rw [List.getElem?_eq_getElem (by simp; omega)]; simp)
      have hs1 := hR.s.lt
      have hf1 := hR.f.lt
      have HLS : Hid (LK S (k + 1) = LK S k ++ [sdI (S[k]'(by omega))]) := Lib.hid (LK_snoc (by omega))
      have HBS : Hid (BK F (k + 1) = if F[k]'(by omega) = true then BK F k ++ [(k : Int)] else BK F k) := Lib.hid (BK_snoc (by omega))
      have HST : Hid (F[k]'(by omega) = true → failS (usK S F k) k (sdI (S[k]'(by omega))) = (usK S F (k + 1), 0)) := Lib.hid (usK_step hS hF hlt)
      have HSK : Hid (F[k]'(by omega) = false → usK S F (k + 1) = usK S F k) := Lib.hid (usK_skip hS hF hlt)
      generalize S[k]'(by omega) = sk at x1 HLS HST
      generalize F[k]'(by omega) = fk at x2 HBS HST HSK
      have HLT : Hid (k < 4) := Lib.hid hlt
      have hl4 : (LK S k).length ≤ 4 := by unfold LK; simp; omega
      have hb4 := BK_le F k
      have hB4 := hR.B4
      clear hS hF hR hlt
      cases sk <;> cases fk
      · simp only [sdI, Bool.false_eq_true, if_true, if_false, false_implies, forall_const] at HLS HBS HST HSK
        go_wp2_with (at_builtin; refine wpList_append_lies (o := ⟨some 42, _, _, _, _, _⟩) _ rfl _ _ 30 rfl w1.heap.size 3 i0 (.int .i64 0) 1 8 Try.underlying30 hi hz0 hz1 hz2 rfl (by decide) _ (LK S k).length (ivs (LK S k)) rfl (HR.out.l.alloc _) ⟨wr.heap.size, 0, none⟩ 1 1 [.int .i64 0] rfl rfl (one_new _ _ _) (one_cell rfl) (by omega) (by unfold maxLen; omega) (by omega) (by simp; omega) (wr.heap.size + 1) (by simp) ?_)
        intro g7 c7 w7 hown hgrow hwh _
        have HR7 := Lib.hid (HR.out.app7 hown hgrow hwh)
        clear hown hgrow hwh
        rw [← HLS.out, ← HBS.out, ← HSK.out] at HR7
        go_wp2_with fail
        go_roundw
        case rel => exact ⟨k + 1, by have := HLT.out; omega, by go_num, HR7.out⟩
        case measure => simp [intOf]; have := HLT.out; omega
      · simp only [sdI, Bool.false_eq_true, if_true, if_false, false_implies, forall_const] at HLS HBS HST HSK
        go_wp2_with fail
        refine (fail_any (k : Int) 0 HR.out.u).mono ?_
        rw [HST.out]
        rintro e wf ⟨rfl, hU, hF⟩
        have HRf := Lib.hid (HR.out.fail hU hF)
        have hBf := HRf.out.B4
        clear hU hF x1 x2
        go_wp2_with (at_builtin; refine wpList_append_lies (o := ⟨some 38, _, _, _, _, _⟩) _ rfl _ _ 30 rfl w1.heap.size 3 i0 (.int .i64 0) 1 8 Try.underlying30 hi hz0 hz1 hz2 rfl (by decide) _ (BK F k).length (ivs (BK F k)) rfl (HRf.out.r.alloc _) ⟨wf.heap.size, 0, none⟩ 1 1 [.int .i64 k] rfl rfl (one_new _ _ _) (one_cell rfl) (by omega) (by unfold maxLen; omega) (by omega) (by simp; omega) (wf.heap.size + 1) (by simp) ?_)
        intro g8 c8 w8 hown hgrow hwh _
        have HR8 := Lib.hid (HRf.out.app8 hown hgrow hwh)
        have hB8 := HR8.out.B4
        clear hown hgrow hwh
        go_wp2_with (at_builtin; refine wpList_append_lies (o := ⟨some 42, _, _, _, _, _⟩) _ rfl _ _ 30 rfl w1.heap.size 3 i0 (.int .i64 0) 1 8 Try.underlying30 hi hz0 hz1 hz2 rfl (by decide) _ (LK S k).length (ivs (LK S k)) rfl (HR8.out.l.alloc _) ⟨w8.heap.size, 0, none⟩ 1 1 [.int .i64 0] rfl rfl (one_new _ _ _) (one_cell rfl) (by omega) (by unfold maxLen; omega) (by omega) (by simp; omega) (w8.heap.size + 1) (by simp) ?_)
        intro g7 c7 w7 hown hgrow hwh _
        have HR7 := Lib.hid (HR8.out.app7 hown hgrow hwh)
        clear hown hgrow hwh
        rw [← HLS.out, ← HBS.out] at HR7
        go_wp2_with fail
        go_roundw
        case rel => exact ⟨k + 1, by have := HLT.out; omega, by go_num, HR7.out⟩
        case measure => simp [intOf]; have := HLT.out; omega
      · simp only [sdI, Bool.false_eq_true, if_true, if_false, false_implies, forall_const] at HLS HBS HST HSK
        go_wp2_with (at_builtin; refine wpList_append_lies (o := ⟨some 42, _, _, _, _, _⟩) _ rfl _ _ 30 rfl w1.heap.size 3 i0 (.int .i64 0) 1 8 Try.underlying30 hi hz0 hz1 hz2 rfl (by decide) _ (LK S k).length (ivs (LK S k)) rfl (HR.out.l.alloc _) ⟨wr.heap.size, 0, none⟩ 1 1 [.int .i64 1] rfl rfl (one_new _ _ _) (one_cell rfl) (by omega) (by unfold maxLen; omega) (by omega) (by simp; omega) (wr.heap.size + 1) (by simp) ?_)
        intro g7 c7 w7 hown hgrow hwh _
        have HR7 := Lib.hid (HR.out.app7 hown hgrow hwh)
        clear hown hgrow hwh
        rw [← HLS.out, ← HBS.out, ← HSK.out] at HR7
        go_wp2_with fail
        go_roundw
        case rel => exact ⟨k + 1, by have := HLT.out; omega, by go_num, HR7.out⟩
        case measure => simp [intOf]; have := HLT.out; omega
      · simp only [sdI, Bool.false_eq_true, if_true, if_false, false_implies, forall_const] at HLS HBS HST HSK
        go_wp2_with fail
        refine (fail_any (k : Int) 1 HR.out.u).mono ?_
        rw [HST.out]
        rintro e wf ⟨rfl, hU, hF⟩
        have HRf := Lib.hid (HR.out.fail hU hF)
        have hBf := HRf.out.B4
        clear hU hF x1 x2
        go_wp2_with (at_builtin; refine wpList_append_lies (o := ⟨some 38, _, _, _, _, _⟩) _ rfl _ _ 30 rfl w1.heap.size 3 i0 (.int .i64 0) 1 8 Try.underlying30 hi hz0 hz1 hz2 rfl (by decide) _ (BK F k).length (ivs (BK F k)) rfl (HRf.out.r.alloc _) ⟨wf.heap.size, 0, none⟩ 1 1 [.int .i64 k] rfl rfl (one_new _ _ _) (one_cell rfl) (by omega) (by unfold maxLen; omega) (by omega) (by simp; omega) (wf.heap.size + 1) (by simp) ?_)
        intro g8 c8 w8 hown hgrow hwh _
        have HR8 := Lib.hid (HRf.out.app8 hown hgrow hwh)
        have hB8 := HR8.out.B4
        clear hown hgrow hwh
        go_wp2_with (at_builtin; refine wpList_append_lies (o := ⟨some 42, _, _, _, _, _⟩) _ rfl _ _ 30 rfl w1.heap.size 3 i0 (.int .i64 0) 1 8 Try.underlying30 hi hz0 hz1 hz2 rfl (by decide) _ (LK S k).length (ivs (LK S k)) rfl (HR8.out.l.alloc _) ⟨w8.heap.size, 0, none⟩ 1 1 [.int .i64 1] rfl rfl (one_new _ _ _) (one_cell rfl) (by omega) (by unfold maxLen; omega) (by omega) (by simp; omega) (w8.heap.size + 1) (by simp) ?_)
        intro g7 c7 w7 hown hgrow hwh _
        have HR7 := Lib.hid (HR8.out.app7 hown hgrow hwh)
        clear hown hgrow hwh
        rw [← HLS.out, ← HBS.out] at HR7
        go_wp2_with fail
        go_roundw
        case rel => exact ⟨k + 1, by have := HLT.out; omega, by go_num, HR7.out⟩
        case measure => simp [intOf]; have := HLT.out; omega
    · obtain rfl : k = 4 := by omega
      obtain ⟨us, hr, hsd, hbr, ok, hul⟩ := usR HS4.out HF4.out
      obtain ⟨a7, c7, rfl, hc7, hv7, hb7⟩ := own_list hR.l
      obtain ⟨a8, c8, rfl, hc8, hv8, hb8⟩ := own_list hR.r
      have hl7 : (LK S 4).length = 4 := by unfold LK; rw [List.length_map, List.length_take, HS4.out]; rfl
      have HV7 := Lib.hid hv7
      have HV8 := Lib.hid hv8
      have hB1 := hR.B1
      have hB2 := hR.B2
      have hgw : w.heap.size ≤ g := by omega
      have H7 : Hid (∀ p, a7 = some p → p.block ≠ g) := Lib.hid (fun p hp e => by have := hb7 p hp; omega)
      have H8 : Hid (∀ p, a8 = some p → p.block ≠ g) := Lib.hid (fun p hp e => by have := hb8 p hp; omega)
      have hc3 : (3 : Int) ≤ (c7 : Int) := by omega
      have hc4 : 3 ≤ c7 := by omega
      have hbl : (BK F 4).length ≤ 4 := BK_le F 4
      have hsz := hR.bl.size
      have HL7 := Lib.hid hl7
      have HBR := Lib.hid hbr
      have HSD := Lib.hid hsd
      have OK := Lib.hid ok
      have HUL := Lib.hid hul
      clear hR hv7 hv8 hb7 hb8 hbr hsd ok hul
      rw [hl7]
      clear hl7 hc7
      go_wp2_with fail
      have hra := restore_any (LK S 4) a7 c7 HR.out.u HV7.out (fun _ => H7.out)
      rw [hr, HL7.out] at hra
      refine hra.mono ?_
      rintro e wa ⟨rfl, hU, hF⟩
      have HU := Lib.hid hU
      have HBa := Lib.hid (HR.out.bl.trans (hF.toBelow hsz (fun k hk => by subst hk; exact hgw)))
      have HV7a := Lib.hid (HV7.out.fr hF (fun p hp => H7.out p hp))
      have HV8a := Lib.hid (HV8.out.fr hF (fun p hp => H8.out p hp))
      have hsa := HBa.out.size
      clear hU hF hra
      go_wp2_with fail
      refine (sides_any HU.out).mono ?_
      intro e wb h
      obtain ⟨a9, c9, rfl, hV9, -, hB⟩ := h.list
      have HUb := Lib.hid (HU.out.below hB (Nat.le_refl _))
      have HBb := Lib.hid (HBa.out.trans (hB.mono hsa))
      have HV7b := Lib.hid (HV7a.out.below hB (Nat.le_refl _))
      have HV8b := Lib.hid (HV8a.out.below hB (Nat.le_refl _))
      rw [HSD.out] at hV9 ⊢
      rw [HL7.out]
      have HV9 := Lib.hid hV9
      have hsb := HBb.out.size
      clear h hB hV9
      go_wp2_with fail
      have hi1 := ints_any (la := LK S 4) (lb := LK S 4) c9 c7 HV9.out HV7b.out (by rw [HL7.out]; decide)
      rw [HL7.out, decide_eq_true rfl] at hi1
      refine hi1.mono ?_
      rintro e wd ⟨rfl, hq⟩
      have HUd := Lib.hid (HUb.out.below hq.below (Nat.le_refl _))
      have HBd := Lib.hid (HBb.out.trans hq.below)
      have HV7d := Lib.hid (HV7b.out.below hq.below (Nat.le_refl _))
      have HV8d := Lib.hid (HV8b.out.below hq.below (Nat.le_refl _))
      have hsd := HBd.out.size
      clear hq hi1
      go_wp2_with fail
      refine (broken_any HUd.out OK.out).mono ?_
      intro e we h
      obtain ⟨a9, c9, rfl, hV9, -, hB⟩ := h.list
      have HUe := Lib.hid (HUd.out.below hB (Nat.le_refl _))
      have HBe := Lib.hid (HBd.out.trans (hB.mono hsd))
      have HV7e := Lib.hid (HV7d.out.below hB (Nat.le_refl _))
      have HV8e := Lib.hid (HV8d.out.below hB (Nat.le_refl _))
      rw [HBR.out] at hV9 ⊢
      have HV9e := Lib.hid hV9
      have hse := HBe.out.size
      clear h hB hV9
      go_wp2_with fail
      have hi2 := ints_any (la := BK F 4) (lb := BK F 4) c9 c8 HV9e.out HV8e.out (by omega)
      rw [decide_eq_true rfl] at hi2
      refine hi2.mono ?_
      rintro e wf ⟨rfl, hq⟩
      have HUf := Lib.hid (HUe.out.below hq.below (Nat.le_refl _))
      have HBf := Lib.hid (HBe.out.trans hq.below)
      have HV7f := Lib.hid (HV7e.out.below hq.below (Nat.le_refl _))
      have hsf := HBf.out.size
      clear hq hi2
      go_wp2_with fail
      have hl3 : ((LK S 4).take 3).length = 3 := by rw [List.length_take, HL7.out]; rfl
      have hr2 := restore_any ((LK S 4).take 3) a7 c7 HUf.out (HV7f.out.take 3) (fun _ => H7.out)
      rw [show restoreS us ((LK S 4).take 3) = (us, 1) from if_pos (.inl (by rw [hl3, HUL.out]; decide)), hl3] at hr2
      refine hr2.mono ?_
      rintro e wg ⟨rfl, hU, hF⟩
      have HBg := Lib.hid (HBf.out.trans (hF.toBelow hsf (fun k hk => by subst hk; exact hgw)))
      have hsg := HBg.out.size
      clear hU hF hr2 hl3
      go_wp2_with fail
      refine (alive_any _).mono ?_
      rintro e wh ⟨rfl, hB⟩
      have HBh := Lib.hid (HBg.out.trans (hB.mono hsg))
      clear hB
      go_wp2_with fail
      go_ret
      exact ⟨rfl, HBh.out⟩


set_option maxRecDepth 100000 in
theorem lifted (os : Os) (started : os.Started) (H : Type) (enc : TypeId × Value → H) :
    ReturnsInHanded {} Try.checked os 3 .any (Rows.unitsRestoreSpec.pre6 enc Try.prog Try.f3 Rows.unitsRestoreRow.domain false) (Rows.unitsRestoreSpec.post enc Try.prog Try.f3 false true false false) := by
  refine returnsInHanded_of_change (C := Try.checked) own started (by kernel_rfl) Try.func3
    (ChangeSpec.witness6 (enc := enc) (C := Try.checked) false ⟨#[], #[.agg #[.bool false, .bool false, .bool false, .bool false], .agg #[.bool false, .bool false, .bool false, .bool false]], []⟩ 8 (by kernel_rfl) (by kernel_rfl) (by kernel_rfl) (by kernel_rfl)) ?_
  intro W base args ds gs before hval0 hW hcnd _
  have hval : ∀ (j : Nat) t v, Try.f3.params[j]? = some t → args[j]? = some v → Value.okWide Try.prog W .any base t v := hval0
  have hW' := hW
  obtain ⟨p, q, hA0, hV, rfl, hfz, hnd⟩ := hW
  have hA : DataW.TrodAll enc Try.prog W 0 (fun _ => true) true Try.f3.params.toList args.toList ds p := hA0
  rw [Try.params3] at hA hval
  obtain ⟨v0, vs0, d0, ds0, p0, q0, hargs, rfl, rfl, h0, r0⟩ := trodAll_cons hA
  obtain ⟨v1, vs1, d1, ds1, p1, q1, rfl, rfl, rfl, h1, r1⟩ := trodAll_cons r0
  obtain ⟨rfl, rfl, rfl⟩ := trodAll_nil r1
  obtain rfl : args = #[v0, v1] := by cases args; simp_all
  obtain ⟨rfl, rfl⟩ := trodVars_none hV
  have k0 := h0
  have lt0 : ∀ x ∈ p0, x.block < W.heap.size := by obtain ⟨m, hm⟩ := k0; exact DataW.trod_lt m _ _ _ hm
  have k1 := h1
  have lt1 : ∀ x ∈ p1, x.block < W.heap.size := by obtain ⟨m, hm⟩ := k1; exact DataW.trod_lt m _ _ _ hm
  clear hA0 hval0
  refine (walk v0 v1 W (hval 0 22 v0 rfl rfl) k0 (hval 1 22 v1 rfl rfl) k1).mono fun e W' ⟨he, bel⟩ => ?_
  subst he
  exact ⟨_, rfl, _, _, _, [], _, [], hW', trodAll_mk1 (shut_bool Try.underlying4 _), (trodAll_cons_mk (Below.trod laidOut (by kernel_rfl) (of_decide_eq_true (by kernel_rfl)) k0 bel lt0) (trodAll_cons_mk (Below.trod laidOut (by kernel_rfl) (of_decide_eq_true (by kernel_rfl)) k1 bel lt1) trodAll_mk0)), rfl, bel.frame _, fun h => by cases h⟩

theorem over : Rows.unitsRestoreRow.holds Try.pinned (OpenSpec.ofChange Rows.unitsRestoreSpec) :=
  OpenClaim.holds_of_wide 3 Try.f3 rfl rfl rfl rfl rfl rfl rfl ⟨rfl, rfl, rfl, rfl, rfl⟩ rfl rfl rfl rfl rfl (by kernel_rfl) Try.func3 (by kernel_rfl)
    (of_decide_eq_true (by kernel_rfl)) (by unfold Func.isWrapper; first | (rw [if_pos (by decide +kernel)]; kernel_rfl) | (rw [if_neg (by decide +kernel)]; exact ⟨rfl, rfl⟩))
    (fun os started H enc _ => lifted os started H enc)

theorem proved : Rows.UnitsRestoreSaid := over
#print axioms proved
end Go.Proofs.Ytgfloeclepmdlaa.unitsRestore

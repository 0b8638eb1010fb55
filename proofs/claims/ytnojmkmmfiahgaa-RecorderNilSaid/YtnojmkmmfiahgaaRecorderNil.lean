/- The law RecorderNil holds: the walk, then the lift to the given statement. No condition. -/
import Derived.Test.YtnojmkmmfiahgaaT
import Derived.WalkKit
import Derived.ProofKit
import Derived.OpenShut
import Derived.Lib.Hide
import Derived.ChangeOld
import Derived.Below
import Derived.SizedLaws
namespace Go.Proofs.Ytnojmkmmfiahgaa.recorderNil
open Go.ChangeShapes Go.WideShapes Go.ChangeAt Go.RowKit
set_option linter.unusedVariables false
theorem own : ownKnob Try.prog.godebug = none := by kernel_rfl
theorem laidOut : laidOutB Try.prog = true := by kernel_rfl

set_option maxRecDepth 20000 in
set_option maxHeartbeats 1000000 in
theorem walk {H : Type} {enc : TypeId × Value → H} (a0 a1 : Int) (v2 : Value) (w : World) (w0 : (Lit.int .i64 a0).wf = true) (w1 : (Lit.int .i64 a1).wf = true) {b2 : Nat} {d2 : DataW H} {p2 : List MemPlace} (ok2 : Value.okWide Try.prog w .any b2 31 v2) (tr2 : DataW.Trod enc Try.prog w 0 (fun _ => true) true 31 v2 d2 p2) : Calls Try.prog 7 #[.int .i64 a0, .int .i64 a1, v2] w fun e w' => e = .returned (.bool true) ∧ Below w.heap.size w w' := by
  obtain ⟨a, cap, l, rfl, hc, hm, hb⟩ := arg_bytes Try.underlying31 Try.underlying5 (by kernel_rfl) ok2 tr2
  clear w0 w1 ok2 tr2 hb
  by_cases hl : 4200 < l.length
  · have e1 : (4200 : Int) < (l.length : Int) := by omega
    go_enter Try.func7, Try.ntmps7
    go_wp2_with fail
    refine (alive_any _).mono ?_
    rintro e w9 ⟨rfl, hB⟩
    have HB := Lib.hid hB
    clear hB
    go_wp2_with fail
    go_ret
    exact ⟨rfl, HB.out⟩
  · have e1 : ¬ (4200 : Int) < (l.length : Int) := by omega
    go_enter Try.func7, Try.ntmps7
    go_upto_region 5 with fail
    obtain ⟨wz, hwz⟩ : ∃ wz, wz = w.alloc (.cells #[.bool false, .int .i64 0, .slice none 0 0] 60) := ⟨_, rfl⟩
    rw [← hwz]
    have HBz : Hid (Below w.heap.size w wz) := Lib.hid (by rw [hwz]; exact al (Below.refl _ _) _)
    have HB0 : Hid (Below wz.heap.size wz wz) := Lib.hid (Below.refl _ _)
    have HDz : Hid (Dead wz (some ⟨w.heap.size, 0, none⟩)) := Lib.hid (.inr ⟨_, rfl, by rw [hwz]; exact (Blk.new w 60 [.bool false, .int .i64 0, .slice none 0 0]).at 0 rfl⟩)
    have HD0 := HDz
    clear hwz
    go_wp2_with fail
    refine (next_dead (w := wz) (.inl rfl)).mono ?_
    rintro e w1 ⟨rfl, hB⟩
    have HB1 : Hid (Below wz.heap.size wz w1) := Lib.hid (HB0.out.trans (hB.mono HB0.out.size))
    have HD1 : Hid (Dead w1 (some ⟨w.heap.size, 0, none⟩)) := Lib.hid (HDz.out.low HB1.out)
    clear hB
    go_wp2_with fail
    refine (next_dead HD1.out).mono ?_
    rintro e w2 ⟨rfl, hB⟩
    have HB2 : Hid (Below wz.heap.size wz w2) := Lib.hid (HB1.out.trans (hB.mono HB1.out.size))
    have HD2 : Hid (Dead w2 (some ⟨w.heap.size, 0, none⟩)) := Lib.hid (HDz.out.low HB2.out)
    clear hB
    go_wp2_with fail
    refine (add_dead (w := w2) a0 a1 _ (.inl rfl)).mono ?_
    rintro e w3 ⟨rfl, hB⟩
    have HB3 : Hid (Below wz.heap.size wz w3) := Lib.hid (HB2.out.trans (hB.mono HB2.out.size))
    have HD3 : Hid (Dead w3 (some ⟨w.heap.size, 0, none⟩)) := Lib.hid (HDz.out.low HB3.out)
    clear hB
    go_wp2_with fail
    refine (add_dead a0 a1 _ HD3.out).mono ?_
    rintro e w4 ⟨rfl, hB⟩
    have HB4 : Hid (Below wz.heap.size wz w4) := Lib.hid (HB3.out.trans (hB.mono HB3.out.size))
    have HD4 : Hid (Dead w4 (some ⟨w.heap.size, 0, none⟩)) := Lib.hid (HDz.out.low HB4.out)
    clear hB
    go_wp2_with fail
    refine (replay_dead (w := w4) a0 a1 a1 (.inl rfl)).mono ?_
    rintro e w5 ⟨rfl, hB⟩
    have HB5 : Hid (Below wz.heap.size wz w5) := Lib.hid (HB4.out.trans (hB.mono HB4.out.size))
    have HD5 : Hid (Dead w5 (some ⟨w.heap.size, 0, none⟩)) := Lib.hid (HDz.out.low HB5.out)
    clear hB
    go_wp2_with fail
    refine (delete_dead a0 a1 HD5.out).mono ?_
    rintro e w6 ⟨rfl, hB⟩
    have HB6 : Hid (Below wz.heap.size wz w6) := Lib.hid (HB5.out.trans (hB.mono HB5.out.size))
    have HD6 : Hid (Dead w6 (some ⟨w.heap.size, 0, none⟩)) := Lib.hid (HDz.out.low HB6.out)
    clear hB
    go_wp2_with fail
    refine (level_dead (w := w6) a0 (.inl rfl)).mono ?_
    rintro e w7 ⟨rfl, hB⟩
    have HB7 : Hid (Below wz.heap.size wz w7) := Lib.hid (HB6.out.trans (hB.mono HB6.out.size))
    have HD7 : Hid (Dead w7 (some ⟨w.heap.size, 0, none⟩)) := Lib.hid (HDz.out.low HB7.out)
    clear hB
    go_wp2_with fail
    refine (dropped_dead a0 HD7.out).mono ?_
    rintro e w8 ⟨rfl, hB⟩
    have HB8 : Hid (Below wz.heap.size wz w8) := Lib.hid (HB7.out.trans (hB.mono HB7.out.size))
    have HD8 : Hid (Dead w8 (some ⟨w.heap.size, 0, none⟩)) := Lib.hid (HDz.out.low HB8.out)
    clear hB
    go_wp2_with fail
    refine (cloneR_dead (w := w8) (.inl rfl)).mono ?_
    rintro e w9 ⟨rfl, hB⟩
    have HB9 : Hid (Below wz.heap.size wz w9) := Lib.hid (HB8.out.trans (hB.mono HB8.out.size))
    have HD9 : Hid (Dead w9 (some ⟨w.heap.size, 0, none⟩)) := Lib.hid (HDz.out.low HB9.out)
    clear hB
    go_wp2_with fail
    refine (cloneR_dead HD9.out).mono ?_
    rintro e w10 ⟨rfl, hB⟩
    have HB10 : Hid (Below wz.heap.size wz w10) := Lib.hid (HB9.out.trans (hB.mono HB9.out.size))
    have HD10 : Hid (Dead w10 (some ⟨w.heap.size, 0, none⟩)) := Lib.hid (HDz.out.low HB10.out)
    clear hB
    go_wp2_with fail
    refine (alive_any w10).mono ?_
    rintro e w11 ⟨rfl, hB⟩
    have HB11 : Hid (Below wz.heap.size wz w11) := Lib.hid (HB10.out.trans (hB.mono HB10.out.size))
    have HD11 : Hid (Dead w11 (some ⟨w.heap.size, 0, none⟩)) := Lib.hid (HDz.out.low HB11.out)
    clear hB
    go_wp2_with fail
    go_ret
    exact ⟨rfl, HBz.out.trans (HB11.out.mono HBz.out.size)⟩


set_option maxRecDepth 100000 in
theorem lifted (os : Os) (started : os.Started) (H : Type) (enc : TypeId × Value → H) :
    ReturnsInHanded {} Try.checked os 7 .any (Rows.recorderNilSpec.pre6 enc Try.prog Try.f7 Rows.recorderNilRow.domain false) (Rows.recorderNilSpec.post enc Try.prog Try.f7 false true false false) := by
  refine returnsInHanded_of_change (C := Try.checked) own started (by kernel_rfl) Try.func7
    (ChangeSpec.witness6 (enc := enc) (C := Try.checked) false ⟨#[], #[.int .i64 0, .int .i64 0, .slice none 0 0], []⟩ 8 (by kernel_rfl) (by kernel_rfl) (by kernel_rfl) (by kernel_rfl)) ?_
  intro W base args ds gs before hval0 hW hcnd _
  have hval : ∀ (j : Nat) t v, Try.f7.params[j]? = some t → args[j]? = some v → Value.okWide Try.prog W .any base t v := hval0
  have hW' := hW
  obtain ⟨p, q, hA0, hV, rfl, hfz, hnd⟩ := hW
  have hA : DataW.TrodAll enc Try.prog W 0 (fun _ => true) true Try.f7.params.toList args.toList ds p := hA0
  rw [Try.params7] at hA hval
  obtain ⟨v0, vs0, d0, ds0, p0, q0, hargs, rfl, rfl, h0, r0⟩ := trodAll_cons hA
  obtain ⟨v1, vs1, d1, ds1, p1, q1, rfl, rfl, rfl, h1, r1⟩ := trodAll_cons r0
  obtain ⟨v2, vs2, d2, ds2, p2, q2, rfl, rfl, rfl, h2, r2⟩ := trodAll_cons r1
  obtain ⟨rfl, rfl, rfl⟩ := trodAll_nil r2
  obtain rfl : args = #[v0, v1, v2] := by cases args; simp_all
  obtain ⟨rfl, rfl⟩ := trodVars_none hV
  obtain ⟨a0, rfl, rfl, rfl, w0⟩ := open_int Try.underlying3 (hval 0 3 v0 rfl rfl) h0
  obtain ⟨a1, rfl, rfl, rfl, w1⟩ := open_int Try.underlying3 (hval 1 3 v1 rfl rfl) h1
  have k2 := h2
  have lt2 : ∀ x ∈ p2, x.block < W.heap.size := by obtain ⟨m, hm⟩ := k2; exact DataW.trod_lt m _ _ _ hm
  clear hA0 hval0
  refine (walk a0 a1 v2 W w0 w1 (hval 2 31 v2 rfl rfl) k2).mono fun e W' ⟨he, bel⟩ => ?_
  subst he
  exact ⟨_, rfl, _, _, _, [], _, [], hW', trodAll_mk1 (shut_bool Try.underlying4 _), (trodAll_cons_mk (shut_int Try.underlying3 w0) (trodAll_cons_mk (shut_int Try.underlying3 w1) (trodAll_cons_mk (Below.trod laidOut (by kernel_rfl) (of_decide_eq_true (by kernel_rfl)) k2 bel lt2) trodAll_mk0))), rfl, bel.frame _, fun h => by cases h⟩

theorem over : Rows.recorderNilRow.holds Try.pinned (OpenSpec.ofChange Rows.recorderNilSpec) :=
  OpenClaim.holds_of_wide 7 Try.f7 rfl rfl rfl rfl rfl rfl rfl ⟨rfl, rfl, rfl, rfl, rfl⟩ rfl rfl rfl rfl rfl (by kernel_rfl) Try.func7 (by kernel_rfl)
    (of_decide_eq_true (by kernel_rfl)) (by unfold Func.isWrapper; first | (rw [if_pos (by decide +kernel)]; kernel_rfl) | (rw [if_neg (by decide +kernel)]; exact ⟨rfl, rfl⟩))
    (fun os started H enc _ => lifted os started H enc)

theorem proved : Rows.RecorderNilSaid := over
#print axioms proved
end Go.Proofs.Ytnojmkmmfiahgaa.recorderNil

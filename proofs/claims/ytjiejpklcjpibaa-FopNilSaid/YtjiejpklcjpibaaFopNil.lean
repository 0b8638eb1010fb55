/- The law FopNil holds: the walk, then the lift to the given statement. No condition. -/
import Derived.Test.YtjiejpklcjpibaaT
import Derived.WalkKit
import Derived.ProofKit
import Derived.OpenShut
import Derived.Lib.Hide
import Derived.ChangeOld
import Derived.Below
import Derived.SizedLaws
namespace Go.Proofs.Ytjiejpklcjpibaa.fopNil
open Go.ChangeShapes Go.WideShapes Go.ChangeAt Go.RowKit
set_option linter.unusedVariables false
theorem own : ownKnob Try.prog.godebug = none := by kernel_rfl
theorem laidOut : laidOutB Try.prog = true := by kernel_rfl

set_option maxRecDepth 20000 in
set_option maxHeartbeats 1000000 in
theorem walk {H : Type} {enc : TypeId × Value → H} (v0 v1 : Value) (a2 : Int) (w : World) {b0 : Nat} {d0 : DataW H} {p0 : List MemPlace} (ok0 : Value.okWide Try.prog w .any b0 23 v0) (tr0 : DataW.Trod enc Try.prog w 0 (fun _ => true) true 23 v0 d0 p0) {b1 : Nat} {d1 : DataW H} {p1 : List MemPlace} (ok1 : Value.okWide Try.prog w .any b1 40 v1) (tr1 : DataW.Trod enc Try.prog w 0 (fun _ => true) true 40 v1 d1 p1) (w2 : (Lit.int .i64 a2).wf = true) : Calls Try.prog 7 #[v0, v1, .int .i64 a2] w fun e w' => e = .returned (.bool true) ∧ Below w.heap.size w w' := by
  obtain ⟨a, cap, l, rfl, hc, hm, hb⟩ := arg_bytes Try.underlying23 Try.underlying5 (by kernel_rfl) ok0 tr0
  obtain ⟨c, rfl, -⟩ := arg_cw ok1 tr1
  clear w2 ok0 tr0 ok1 tr1 hb
  unfold cwV
  by_cases hl : 1100 < l.length
  · have e1 : (1100 : Int) < (l.length : Int) := by omega
    go_enter Try.func7, Try.ntmps7
    go_wp2_with fail
    refine (alive_any _).mono ?_
    rintro e w9 ⟨rfl, hB⟩
    have HB := Lib.hid ((al (Below.refl w.heap.size w) (.cells #[.int .i64 c.chan, .bool c.lock, .bool c.wait, .bool c.retr, .int .i64 c.byp, .int .i64 c.next] 40)).trans (hB.mono (by simp)))
    clear hB
    go_wp2_with fail
    go_ret
    exact ⟨rfl, HB.out⟩
  · have e1 : ¬ (1100 : Int) < (l.length : Int) := by omega
    go_enter Try.func7, Try.ntmps7
    go_upto_region 5 with fail
    obtain ⟨wz, hwz⟩ : ∃ wz, wz = (w.alloc (.cells #[.int .i64 c.chan, .bool c.lock, .bool c.wait, .bool c.retr, .int .i64 c.byp, .int .i64 c.next] 40)).alloc (.cells #[.int .i64 0, .slice none 0 0, .int .i64 0, .int .i64 0, .int .i64 0, .bool false, .int .i64 0, .int .i64 0, .int .i64 0, .int .i64 0, .int .i64 0, .slice none 0 0, .int .i64 0, .int .i64 0, .int .i64 0] 69) := ⟨_, rfl⟩
    rw [← hwz]
    have HBz : Hid (Below w.heap.size w wz) := Lib.hid (by rw [hwz]; exact al (al (Below.refl _ _) _) _)
    have hkc : Blk wz w.heap.size 40 (cwC c) := by rw [hwz]; exact (Blk.new w 40 (cwC c)).alloc _
    have HDz : Hid (wz.cell? ⟨w.heap.size + 1, 5, none⟩ = some (.bool false)) := Lib.hid (by rw [hwz]; exact (Blk.newAt (n := w.heap.size + 1) (by simp)).at 5 rfl)
    have HL := Lib.hid (World.block_lt_of_cell? wz _ HDz.out)
    have HK := Lib.hid hkc
    clear hwz hkc
    go_wp2_with fail
    refine (next_dead none a2 wz (.inl rfl)).mono ?_
    rintro e w5 ⟨rfl, hB⟩
    have HB5 : Hid (Below wz.heap.size wz w5) := Lib.hid hB
    clear hB
    unfold fmV Fm.zero
    go_upto_region 6 with fail
    obtain ⟨w6, hw6⟩ : ∃ w6, w6 = w5.alloc (.cells #[.bool false, .bool false, .int .i64 0, .int .i64 0, .int .i64 0, .slice none 0 0] 33) := ⟨_, rfl⟩
    rw [← hw6]
    have HB6 : Hid (Below wz.heap.size wz w6) := Lib.hid (by rw [hw6]; exact al HB5.out _)
    have HD6 : Hid (Dead w6 (some ⟨w.heap.size + 1, 0, none⟩)) := Lib.hid (.inr ⟨_, rfl, (HB6.out.cell (p := ⟨w.heap.size + 1, 5, none⟩) HL.out).trans HDz.out⟩)
    clear hw6
    go_wp2_with fail
    refine (next_dead (some ⟨w.heap.size + 1, 0, none⟩) a2 w6 HD6.out).mono ?_
    rintro e w7 ⟨rfl, hB⟩
    have HB7 : Hid (Below wz.heap.size wz w7) := Lib.hid (HB6.out.trans (hB.mono HB6.out.size))
    clear hB
    unfold fmV Fm.zero
    go_upto_region 7 with fail
    obtain ⟨w8, hw8⟩ : ∃ w8, w8 = w7.alloc (.cells #[.bool false, .bool false, .int .i64 0, .int .i64 0, .int .i64 0, .slice none 0 0] 33) := ⟨_, rfl⟩
    rw [← hw8]
    have HB8 : Hid (Below wz.heap.size wz w8) := Lib.hid (by rw [hw8]; exact al HB7.out _)
    have HD8 : Hid (Dead w8 (some ⟨w.heap.size + 1, 0, none⟩)) := Lib.hid (.inr ⟨_, rfl, (HB8.out.cell (p := ⟨w.heap.size + 1, 5, none⟩) HL.out).trans HDz.out⟩)
    have hk := HK.out.below HB8.out (Nat.le_refl _)
    have s0 := hk.at 0 rfl
    have s1 := hk.at 1 rfl
    have s2 := hk.at 2 rfl
    have s3 := hk.at 3 rfl
    have s4 := hk.at 4 rfl
    have s5 := hk.at 5 rfl
    clear hw8 hk
    go_wp2_with fail
    refine (send_dead none _ _ (.inl rfl)).mono ?_
    rintro e wx ⟨rfl, hw⟩
    obtain rfl := hw.symm
    go_wp2_with fail
    refine (send_dead (some ⟨w.heap.size + 1, 0, none⟩) _ _ HD8.out).mono ?_
    rintro e wx ⟨rfl, hw⟩
    obtain rfl := hw.symm
    go_wp2_with fail
    refine (report_dead none c a2 _ (.inl rfl)).mono ?_
    rintro e w9 ⟨rfl, hB⟩
    have HB9 : Hid (Below wz.heap.size wz w9) := Lib.hid (HB8.out.trans (hB.mono HB8.out.size))
    have HD9 : Hid (Dead w9 (some ⟨w.heap.size + 1, 0, none⟩)) := Lib.hid (.inr ⟨_, rfl, (HB9.out.cell (p := ⟨w.heap.size + 1, 5, none⟩) HL.out).trans HDz.out⟩)
    clear hB s0 s1 s2 s3 s4 s5
    go_wp2_with fail
    refine (unlock_dead (some ⟨w.heap.size + 1, 0, none⟩) _ _ HD9.out).mono ?_
    rintro e wx ⟨rfl, hw⟩
    obtain rfl := hw.symm
    go_wp2_with fail
    refine (state_dead none _ (.inl rfl)).mono ?_
    rintro e wx ⟨rfl, hw⟩
    obtain rfl := hw.symm
    go_wp2_with fail
    refine (state_dead (some ⟨w.heap.size + 1, 0, none⟩) _ HD9.out).mono ?_
    rintro e wx ⟨rfl, hw⟩
    obtain rfl := hw.symm
    go_wp2_with fail
    refine (queued_dead none _ (.inl rfl)).mono ?_
    rintro e wx ⟨rfl, hw⟩
    obtain rfl := hw.symm
    go_wp2_with fail
    refine (acked_dead (some ⟨w.heap.size + 1, 0, none⟩) _ HD9.out).mono ?_
    rintro e wx ⟨rfl, hw⟩
    obtain rfl := hw.symm
    go_wp2_with fail
    refine (clone_dead none _ (.inl rfl)).mono ?_
    rintro e wx ⟨rfl, hw⟩
    obtain rfl := hw.symm
    go_wp2_with fail
    refine (clone_dead (some ⟨w.heap.size + 1, 0, none⟩) _ HD9.out).mono ?_
    rintro e wx ⟨rfl, hw⟩
    obtain rfl := hw.symm
    go_wp2_with fail
    refine (alive_any _).mono ?_
    rintro e w10 ⟨rfl, hB⟩
    have HB10 : Hid (Below w.heap.size w w10) := Lib.hid (HBz.out.trans ((HB9.out.trans (hB.mono HB9.out.size)).mono HBz.out.size))
    clear hB
    go_wp2_with fail
    go_ret
    exact ⟨rfl, HB10.out⟩


set_option maxRecDepth 100000 in
theorem lifted (os : Os) (started : os.Started) (H : Type) (enc : TypeId × Value → H) :
    ReturnsInHanded {} Try.checked os 7 .any (Rows.fopNilSpec.pre6 enc Try.prog Try.f7 Rows.fopNilRow.domain false) (Rows.fopNilSpec.post enc Try.prog Try.f7 false true false false) := by
  refine returnsInHanded_of_change (C := Try.checked) own started (by kernel_rfl) Try.func7
    (ChangeSpec.witness6 (enc := enc) (C := Try.checked) false ⟨#[], #[.slice none 0 0, .agg #[.int .i64 0, .bool false, .bool false, .bool false, .int .i64 0, .int .i64 0], .int .i64 0], []⟩ 8 (by kernel_rfl) (by kernel_rfl) (by kernel_rfl) (by kernel_rfl)) ?_
  intro W base args ds gs before hval0 hW hcnd _
  have hval : ∀ (j : Nat) t v, Try.f7.params[j]? = some t → args[j]? = some v → Value.okWide Try.prog W .any base t v := hval0
  have hW' := hW
  obtain ⟨p, q, hA0, hV, rfl, hfz, hnd⟩ := hW
  have hA : DataW.TrodAll enc Try.prog W 0 (fun _ => true) true Try.f7.params.toList args.toList ds p := hA0
  rw [Try.params7] at hA hval
  obtain ⟨v0, vs0, d0, ds0, p0, q0, hargs, rfl, rfl, h0, r0⟩ := trodAll_cons hA
  obtain ⟨v1, vs1, d1, ds1, p1, q1, rfl, rfl, rfl, h1, r1⟩ := trodAll_cons r0
  obtain ⟨v2, vs2, d2, ds2, p2, q2, rfl, rfl, rfl, h2, r2⟩ := trodAll_cons r1
  obtain ⟨rfl, rfl, rfl⟩ := trodAll_nil r2
  obtain rfl : args = #[v0, v1, v2] := by cases args; simp_all
  obtain ⟨rfl, rfl⟩ := trodVars_none hV
  have k0 := h0
  have lt0 : ∀ x ∈ p0, x.block < W.heap.size := by obtain ⟨m, hm⟩ := k0; exact DataW.trod_lt m _ _ _ hm
  have k1 := h1
  have lt1 : ∀ x ∈ p1, x.block < W.heap.size := by obtain ⟨m, hm⟩ := k1; exact DataW.trod_lt m _ _ _ hm
  obtain ⟨a2, rfl, rfl, rfl, w2⟩ := open_int Try.underlying3 (hval 2 3 v2 rfl rfl) h2
  clear hA0 hval0
  refine (walk v0 v1 a2 W (hval 0 23 v0 rfl rfl) k0 (hval 1 40 v1 rfl rfl) k1 w2).mono fun e W' ⟨he, bel⟩ => ?_
  subst he
  exact ⟨_, rfl, _, _, _, [], _, [], hW', trodAll_mk1 (shut_bool Try.underlying4 _), (trodAll_cons_mk (Below.trod laidOut (by kernel_rfl) (of_decide_eq_true (by kernel_rfl)) k0 bel lt0) (trodAll_cons_mk (Below.trod laidOut (by kernel_rfl) (of_decide_eq_true (by kernel_rfl)) k1 bel lt1) (trodAll_cons_mk (shut_int Try.underlying3 w2) trodAll_mk0))), rfl, bel.frame _, fun h => by cases h⟩

theorem over : Rows.fopNilRow.holds Try.pinned (OpenSpec.ofChange Rows.fopNilSpec) :=
  OpenClaim.holds_of_wide 7 Try.f7 rfl rfl rfl rfl rfl rfl rfl ⟨rfl, rfl, rfl, rfl, rfl⟩ rfl rfl rfl rfl rfl (by kernel_rfl) Try.func7 (by kernel_rfl)
    (of_decide_eq_true (by kernel_rfl)) (by unfold Func.isWrapper; first | (rw [if_pos (by decide +kernel)]; kernel_rfl) | (rw [if_neg (by decide +kernel)]; exact ⟨rfl, rfl⟩))
    (fun os started H enc _ => lifted os started H enc)

theorem proved : Rows.FopNilSaid := over
#print axioms proved
end Go.Proofs.Ytjiejpklcjpibaa.fopNil

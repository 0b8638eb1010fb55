/- The law PacketDecodes holds: the walk, then the lift to the given statement. No condition. -/
import Derived.Test.YtelbfohiadklgaaL
import Derived.WalkKit
import Derived.ProofKit
import Derived.OpenShut
import Derived.Lib.Hide
import Derived.ChangeOld
import Derived.Below
import Derived.SizedLaws
namespace Go.Proofs.Ytelbfohiadklgaa.packetDecodes
open Go.ChangeShapes Go.WideShapes Go.ChangeAt Go.RowKit
set_option linter.unusedVariables false
theorem own : ownKnob Try.prog.godebug = none := by kernel_rfl
theorem laidOut : laidOutB Try.prog = true := by kernel_rfl

set_option maxRecDepth 20000 in
set_option maxHeartbeats 1000000 in
theorem walk {H : Type} {enc : TypeId × Value → H} (v0 : Value) (w : World) {b0 : Nat} {d0 : DataW H} {p0 : List MemPlace} (ok0 : Value.okWide Try.prog w .any b0 22 v0) (tr0 : DataW.Trod enc Try.prog w 0 (fun _ => true) true 22 v0 d0 p0) : Calls Try.prog 5 #[v0] w fun e w' => e = .returned (.bool true) ∧ Below w.heap.size w w' := by
  obtain ⟨a, cap, l, rfl, hl, hcm, hb⟩ := arg_bytes Try.underlying22 Try.underlying5 (by kernel_rfl) ok0 tr0
  have HBA := Lib.hid hb
  have HL := Lib.hid (Nat.le_trans hl hcm)
  have HCM := Lib.hid hcm
  clear hb ok0 tr0 hcm
  go_enter Try.func5, Try.ntmps5
  go_wp2_with fail
  refine (size_any a cap l _ HL.out hl HCM.out HBA.out).mono ?_
  rintro e w1 ⟨rfl, hq⟩
  have HB1 := Lib.hid (hq.below (B := w.heap.size))
  clear hq
  go_wp2_with fail
  refine (rsize_any a cap l _ HL.out hl HCM.out (HBA.out.below HB1.out (Nat.le_refl _))).mono ?_
  rintro e w2 ⟨rfl, hq⟩
  have HB2 := Lib.hid (HB1.out.trans (hq.below (B := w.heap.size)))
  have hs2 := HB2.out.size
  clear hq
  go_wp2_with fail
  refine (decode_any a cap l _ HL.out hl HCM.out (HBA.out.below HB2.out (Nat.le_refl _))).mono ?_
  rintro e w3 ⟨a3, c3, rfl, hA, hlc, hm, hB⟩
  have HA3 := Lib.hid hA
  have HB3 := Lib.hid (HB2.out.trans (hB.mono hs2))
  have hs3 := HB3.out.size
  unfold Pk.val
  clear hA hB hm hlc
  go_wp2_with fail
  have hW4 := (al (Below.refl _ w3) (.cells #[.bool (decP l).1.cmd, .bool (decP l).1.sec, .int .i64 (decP l).1.apid, .int .i64 (decP l).1.flags, .int .i64 (decP l).1.count, .slice a3 (decP l).1.dat.length c3] 24))
  have HB4 := Lib.hid (HB3.out.trans (hW4.mono hs3))
  refine (rdecode_any a cap l _ HL.out hl HCM.out (HBA.out.below HB4.out (Nat.le_refl _))).mono ?_
  rintro e w5 ⟨a5, c5, rfl, hA, hlc, hm, hB⟩
  have HA5 := Lib.hid hA
  have HA35 := Lib.hid ((HA3.out.below hW4 (Nat.le_refl _)).below hB (Nat.le_refl _))
  have hk := (Blk.new w3 24 [.bool (decP l).1.cmd, .bool (decP l).1.sec, .int .i64 (decP l).1.apid, .int .i64 (decP l).1.flags, .int .i64 (decP l).1.count, .slice a3 (decP l).1.dat.length c3]).below hB (Nat.le_refl _)
  have q0 := hk.at 0 rfl
  have q1 := hk.at 1 rfl
  have q2 := hk.at 2 rfl
  have q3 := hk.at 3 rfl
  have q4 := hk.at 4 rfl
  have q5 := hk.at 5 rfl
  have hlk := hk.lt
  have HB5 := Lib.hid (HB4.out.trans (hB.mono HB4.out.size))
  have hs5 := HB5.out.size
  unfold Pk.val
  clear hA hB hm hlc hW4 hk
  go_wp2_with fail
  refine (same_any (decP l).1 a3 a5 c3 c5 _ (HA35.out.below (al (Below.refl _ _) _) (Nat.le_refl _)) (HA5.out.below (al (Below.refl _ _) _) (Nat.le_refl _))).mono ?_
  rintro e w6 ⟨rfl, hB⟩
  have HB6 := Lib.hid (HB5.out.trans (((al (Below.refl _ w5) _).trans (hB.mono (by simp))).mono hs5))
  clear hB
  go_wp2_with fail
  refine (alive_any _).mono ?_
  rintro e w7 ⟨rfl, hB⟩
  have HB7 := Lib.hid (HB6.out.trans (hB.mono HB6.out.size))
  clear hB
  go_wp2_with fail
  go_ret
  exact ⟨rfl, HB7.out⟩


set_option maxRecDepth 100000 in
theorem lifted (os : Os) (started : os.Started) (H : Type) (enc : TypeId × Value → H) :
    ReturnsInHanded {} Try.checked os 5 .any (Rows.packetDecodesSpec.pre6 enc Try.prog Try.f5 Rows.packetDecodesRow.domain false) (Rows.packetDecodesSpec.post enc Try.prog Try.f5 false true false false) := by
  refine returnsInHanded_of_change (C := Try.checked) own started (by kernel_rfl) Try.func5
    (ChangeSpec.witness6 (enc := enc) (C := Try.checked) false ⟨#[], #[.slice none 0 0], []⟩ 8 (by kernel_rfl) (by kernel_rfl) (by kernel_rfl) (by kernel_rfl)) ?_
  intro W base args ds gs before hval0 hW hcnd _
  have hval : ∀ (j : Nat) t v, Try.f5.params[j]? = some t → args[j]? = some v → Value.okWide Try.prog W .any base t v := hval0
  have hW' := hW
  obtain ⟨p, q, hA0, hV, rfl, hfz, hnd⟩ := hW
  have hA : DataW.TrodAll enc Try.prog W 0 (fun _ => true) true Try.f5.params.toList args.toList ds p := hA0
  rw [Try.params5] at hA hval
  obtain ⟨v0, vs0, d0, ds0, p0, q0, hargs, rfl, rfl, h0, r0⟩ := trodAll_cons hA
  obtain ⟨rfl, rfl, rfl⟩ := trodAll_nil r0
  obtain rfl : args = #[v0] := by cases args; simp_all
  obtain ⟨rfl, rfl⟩ := trodVars_none hV
  have k0 := h0
  have lt0 : ∀ x ∈ p0, x.block < W.heap.size := by obtain ⟨m, hm⟩ := k0; exact DataW.trod_lt m _ _ _ hm
  clear hA0 hval0
  refine (walk v0 W (hval 0 22 v0 rfl rfl) k0).mono fun e W' ⟨he, bel⟩ => ?_
  subst he
  exact ⟨_, rfl, _, _, _, [], _, [], hW', trodAll_mk1 (shut_bool Try.underlying4 _), (trodAll_cons_mk (Below.trod laidOut (by kernel_rfl) (of_decide_eq_true (by kernel_rfl)) k0 bel lt0) trodAll_mk0), rfl, bel.frame _, fun h => by cases h⟩

theorem over : Rows.packetDecodesRow.holds Try.pinned (OpenSpec.ofChange Rows.packetDecodesSpec) :=
  OpenClaim.holds_of_wide 5 Try.f5 rfl rfl rfl rfl rfl rfl rfl ⟨rfl, rfl, rfl, rfl, rfl⟩ rfl rfl rfl rfl rfl (by kernel_rfl) Try.func5 (by kernel_rfl)
    (of_decide_eq_true (by kernel_rfl)) (by unfold Func.isWrapper; first | (rw [if_pos (by decide +kernel)]; kernel_rfl) | (rw [if_neg (by decide +kernel)]; exact ⟨rfl, rfl⟩))
    (fun os started H enc _ => lifted os started H enc)

theorem proved : Rows.PacketDecodesSaid := over
#print axioms proved
end Go.Proofs.Ytelbfohiadklgaa.packetDecodes

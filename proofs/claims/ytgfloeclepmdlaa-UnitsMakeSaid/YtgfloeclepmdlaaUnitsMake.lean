/- The law UnitsMake holds: the walk, then the lift to the given statement. No condition. -/
import Derived.Test.YtgfloeclepmdlaaQ
import Derived.WalkKit
import Derived.ProofKit
import Derived.OpenShut
import Derived.Lib.Hide
import Derived.ChangeOld
import Derived.Below
import Derived.SizedLaws
namespace Go.Proofs.Ytgfloeclepmdlaa.unitsMake
open Go.ChangeShapes Go.WideShapes Go.ChangeAt Go.RowKit
set_option linter.unusedVariables false
theorem own : ownKnob Try.prog.godebug = none := by kernel_rfl
theorem laidOut : laidOutB Try.prog = true := by kernel_rfl

theorem fresh_ok (ds : List Int) : SideOk (ds.map fresh) := by
  intro u hu
  obtain ⟨d, -, rfl⟩ := List.mem_map.1 hu
  exact .inl rfl
set_option maxRecDepth 20000 in
set_option maxHeartbeats 4000000 in
theorem walk {H : Type} {enc : TypeId × Value → H} (v0 : Value) (a1 : Int) (w : World) {b0 : Nat} {d0 : DataW H} {p0 : List MemPlace} (ok0 : Value.okWide Try.prog w .any b0 29 v0) (tr0 : DataW.Trod enc Try.prog w 0 (fun _ => true) true 29 v0 d0 p0) (w1 : (Lit.int .i64 a1).wf = true) :
    Calls Try.prog 5 #[v0, .int .i64 a1] w fun e w' => e = .returned (.bool true) ∧ Below w.heap.size w w' := by
  obtain ⟨a, cap, ds, rfl, hd⟩ := arg_defs ok0 tr0
  have HD := Lib.hid hd
  clear ok0 tr0 hd w1
  by_cases hn : ds.length ≤ 300
  · have hn' : ¬ (300 : Int) < ds.length := by omega
    go_enter Try.func5, Try.ntmps5
    go_wp2_with fail
    refine (new_any cap HD.out (by omega)).mono ?_
    rintro e w1 (⟨hok, b, g, c1, rfl, hU, hb, hg, hB⟩ | ⟨hok, rfl, hB⟩)
    · have HU := Lib.hid hU
      have HB := Lib.hid hB
      have HG := Lib.hid hg
      have OK := Lib.hid hok
      have hs1 := hB.size
      clear hU hB hg hb hok
      go_wp2_with fail
      refine (rnew_any cap (HD.out.below HB.out (Nat.le_refl _)) (by omega)).mono ?_
      rintro e w2 h
      obtain ⟨-, a2, c2, rfl, hR, -, hB⟩ := h.resolve_right (fun h => h.1 OK.out)
      have HR := Lib.hid hR
      have HU2 := Lib.hid (HU.out.below hB (Nat.le_refl _))
      have HB2 := Lib.hid (HB.out.trans (hB.mono hs1))
      have hs2 := HB2.out.size
      have hl : (ds.map fresh).length = ds.length := by simp
      clear hR hB h HU HB hs1
      go_wp2_with fail
      have ha := agree_any c2 a1 HU2.out HR.out (fresh_ok ds)
      rw [hl] at ha
      refine ha.mono ?_
      rintro e w3 ⟨rfl, hB⟩
      have HB3 := Lib.hid (HB2.out.trans (hB.mono hs2))
      have hs3 := HB3.out.size
      clear hB ha
      go_wp2_with fail
      refine (alive_any _).mono ?_
      rintro e w4 ⟨rfl, hB⟩
      have HB4 := Lib.hid (HB3.out.trans (hB.mono hs3))
      clear hB
      go_wp2_with fail
      go_ret
      exact ⟨rfl, HB4.out⟩
    · have HB := Lib.hid hB
      have OK := Lib.hid hok
      have hs1 := hB.size
      clear hB hok
      go_wp2_with fail
      refine (rnew_any cap (HD.out.below HB.out (Nat.le_refl _)) (by omega)).mono ?_
      rintro e w2 h
      obtain ⟨-, rfl, hB⟩ := h.resolve_left (fun h => OK.out h.1)
      have HB2 := Lib.hid (HB.out.trans (hB.mono hs1))
      have hs2 := HB2.out.size
      clear hB h HB hs1
      go_wp2_with fail
      refine (active_nil _ a1).mono ?_
      rintro e w' ⟨rfl, rfl⟩
      go_wp2_with fail
      refine (switch_nil _ a1 0).mono ?_
      rintro e w' ⟨rfl, rfl⟩
      go_wp2_with fail
      refine (fail_nil _ a1 0).mono ?_
      rintro e w' ⟨rfl, rfl⟩
      go_wp2_with fail
      refine (working_nil _ a1).mono ?_
      rintro e w3 ⟨rfl, hq⟩
      have HB3 := Lib.hid (HB2.out.trans hq.below)
      have hs3 := HB3.out.size
      clear hq
      go_wp2_with fail
      refine (broken_nil _).mono ?_
      rintro e w' ⟨rfl, rfl⟩
      go_wp2_with fail
      refine (sides_nil _).mono ?_
      rintro e w' ⟨rfl, rfl⟩
      go_wp2_with fail
      refine (restore_nil _ _).mono ?_
      rintro e w' ⟨rfl, rfl⟩
      go_wp2_with fail
      refine (clone_nil _).mono ?_
      rintro e w' ⟨rfl, rfl⟩
      go_wp2_with fail
      refine (alive_any _).mono ?_
      rintro e w4 ⟨rfl, hB⟩
      have HB4 := Lib.hid (HB3.out.trans (hB.mono hs3))
      clear hB
      go_wp2_with fail
      go_ret
      exact ⟨rfl, HB4.out⟩
  · have hn' : (300 : Int) < ds.length := by omega
    go_enter Try.func5, Try.ntmps5
    go_wp2_with fail
    refine (alive_any _).mono ?_
    rintro e w2 ⟨rfl, hB2⟩
    go_wp2_with fail
    go_ret
    exact ⟨rfl, hB2⟩


set_option maxRecDepth 100000 in
theorem lifted (os : Os) (started : os.Started) (H : Type) (enc : TypeId × Value → H) :
    ReturnsInHanded {} Try.checked os 5 .any (Rows.unitsMakeSpec.pre6 enc Try.prog Try.f5 Rows.unitsMakeRow.domain false) (Rows.unitsMakeSpec.post enc Try.prog Try.f5 false true false false) := by
  refine returnsInHanded_of_change (C := Try.checked) own started (by kernel_rfl) Try.func5
    (ChangeSpec.witness6 (enc := enc) (C := Try.checked) false ⟨#[], #[.slice none 0 0, .int .i64 0], []⟩ 8 (by kernel_rfl) (by kernel_rfl) (by kernel_rfl) (by kernel_rfl)) ?_
  intro W base args ds gs before hval0 hW hcnd _
  have hval : ∀ (j : Nat) t v, Try.f5.params[j]? = some t → args[j]? = some v → Value.okWide Try.prog W .any base t v := hval0
  have hW' := hW
  obtain ⟨p, q, hA0, hV, rfl, hfz, hnd⟩ := hW
  have hA : DataW.TrodAll enc Try.prog W 0 (fun _ => true) true Try.f5.params.toList args.toList ds p := hA0
  rw [Try.params5] at hA hval
  obtain ⟨v0, vs0, d0, ds0, p0, q0, hargs, rfl, rfl, h0, r0⟩ := trodAll_cons hA
  obtain ⟨v1, vs1, d1, ds1, p1, q1, rfl, rfl, rfl, h1, r1⟩ := trodAll_cons r0
  obtain ⟨rfl, rfl, rfl⟩ := trodAll_nil r1
  obtain rfl : args = #[v0, v1] := by cases args; simp_all
  obtain ⟨rfl, rfl⟩ := trodVars_none hV
  have k0 := h0
  have lt0 : ∀ x ∈ p0, x.block < W.heap.size := by obtain ⟨m, hm⟩ := k0; exact DataW.trod_lt m _ _ _ hm
  obtain ⟨a1, rfl, rfl, rfl, w1⟩ := open_int Try.underlying3 (hval 1 3 v1 rfl rfl) h1
  clear hA0 hval0
  refine (walk v0 a1 W (hval 0 29 v0 rfl rfl) k0 w1).mono fun e W' ⟨he, bel⟩ => ?_
  subst he
  exact ⟨_, rfl, _, _, _, [], _, [], hW', trodAll_mk1 (shut_bool Try.underlying4 _), (trodAll_cons_mk (Below.trod laidOut (by kernel_rfl) (of_decide_eq_true (by kernel_rfl)) k0 bel lt0) (trodAll_cons_mk (shut_int Try.underlying3 w1) trodAll_mk0)), rfl, bel.frame _, fun h => by cases h⟩

theorem over : Rows.unitsMakeRow.holds Try.pinned (OpenSpec.ofChange Rows.unitsMakeSpec) :=
  OpenClaim.holds_of_wide 5 Try.f5 rfl rfl rfl rfl rfl rfl rfl ⟨rfl, rfl, rfl, rfl, rfl⟩ rfl rfl rfl rfl rfl (by kernel_rfl) Try.func5 (by kernel_rfl)
    (of_decide_eq_true (by kernel_rfl)) (by unfold Func.isWrapper; first | (rw [if_pos (by decide +kernel)]; kernel_rfl) | (rw [if_neg (by decide +kernel)]; exact ⟨rfl, rfl⟩))
    (fun os started H enc _ => lifted os started H enc)

theorem proved : Rows.UnitsMakeSaid := over
#print axioms proved
end Go.Proofs.Ytgfloeclepmdlaa.unitsMake

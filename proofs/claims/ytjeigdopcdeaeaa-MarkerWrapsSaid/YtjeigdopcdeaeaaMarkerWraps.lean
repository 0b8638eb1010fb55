/- The law MarkerWraps holds: the walk, then the lift to the given statement. No condition. -/
import Derived.Test.YtjeigdopcdeaeaaG
import Derived.WalkKit
import Derived.ProofKit
import Derived.OpenShut
import Derived.Lib.Hide
import Derived.ChangeOld
import Derived.Below
import Derived.SizedLaws
namespace Go.Proofs.Ytjeigdopcdeaeaa.markerWraps
open Go.ChangeShapes Go.WideShapes Go.ChangeAt Go.RowKit
set_option linter.unusedVariables false
theorem own : ownKnob Try.prog.godebug = none := by kernel_rfl
theorem laidOut : laidOutB Try.prog = true := by kernel_rfl

set_option maxRecDepth 20000 in
set_option maxHeartbeats 2000000 in
theorem walk {H : Type} {enc : TypeId × Value → H} (v0 : Value) (w : World) {b0 : Nat} {d0 : DataW H} {p0 : List MemPlace} (ok0 : Value.okWide Try.prog w .any b0 22 v0) (tr0 : DataW.Trod enc Try.prog w 0 (fun _ => true) true 22 v0 d0 p0) : Calls Try.prog 3 #[v0] w fun e w' => e = .returned (.bool true) ∧ Below w.heap.size w w' := by
  obtain ⟨a, cap, l, rfl, hl, hcm, hb⟩ := arg_bytes Try.underlying22 Try.underlying5 (by kernel_rfl) ok0 tr0
  have HBA := Lib.hid hb
  have HB0 : Hid (BAt w.drew a l) := Lib.hid hb
  clear hb ok0 tr0 hcm
  by_cases h3 : 3000 < l.length
  · have h3' : (3000 : Int) < (l.length : Int) := by omega
    go_enter Try.func3, Try.ntmps3
    go_wp2_with fail
    refine (alive_any _).mono ?_
    rintro e w3 ⟨rfl, hB⟩
    go_wp2_with fail
    go_ret
    exact ⟨rfl, hB⟩
  · have h3' : ¬ (3000 : Int) < (l.length : Int) := by omega
    go_enter Try.func3, Try.ntmps3
    go_wp2_with fail
    refine wp_region_held_drew (S := (fun w' => True)) (by kernel_rfl) (by (try dsimp only); all_goals trivial) (fun hHeld => ?_)
    refine wpAnyH_take (i := 0) (oi := (Oper.mk (some 7) (Op.move (Operand.tmp 0)) 22 "law.go:30" #[] none)) (v := ?_) rfl (by kernel_rfl) (by kernel_rfl) (by kernel_rfl) (fun _ _ _ h => h) (Or.inl ⟨by rfl, ?_⟩) (by assumption) ?_
    rotate_left
    · (intro w hSw; (try dsimp only at hSw); go_simp; first | done | with_reducible rfl)
    (try simp only [Act.put, List.setIfInBounds_toArray, List.set_cons_zero, List.set_cons_succ])
    refine wpAnyH_take (i := 3) (oi := (Oper.mk (some 10) (Op.move (Operand.tmp 0)) 22 "law.go:30" #[] none)) (v := ?_) rfl (by kernel_rfl) (by kernel_rfl) (by kernel_rfl) (fun _ _ _ h => h) (Or.inl ⟨by rfl, ?_⟩) (by assumption) ?_
    rotate_left
    · (intro w hSw; (try dsimp only at hSw); go_simp; first | done | with_reducible rfl)
    (try simp only [Act.put, List.setIfInBounds_toArray, List.set_cons_zero, List.set_cons_succ])
    refine wpAnyH_ready (rs := [1]) (by kernel_rfl) (by simp) ?_
    refine AllReadyH.cons (o := (Oper.mk (some 8) (Op.call (Call.mk (Callee.value (Operand.func 7)) #[Operand.tmp 7] #[22])) 22 "law.go:30" #[Edge.mk 0 Ground.data] none)) rfl (fun K hK => ?_) (AllReadyH.nil)
    go_simp
    (go_at_call 7; refine (wrap_any a cap l _ (by omega) HB0.out).mono ?_; rintro e w1 ⟨v1, rfl, hO1, hB1⟩; have hB1 := undrew hB1; have s1 := own_str hO1; have HO1 := Lib.hid hO1; have HB1 := Lib.hid hB1; clear hO1 hB1)
    refine hK.out _ _ (by (try dsimp only); all_goals trivial) (fun hHeld => ?_)
    clear hK K
    (try simp only [Act.put, List.setIfInBounds_toArray, List.set_cons_zero, List.set_cons_succ])
    refine wpAnyH_ready (rs := [2, 4]) (by kernel_rfl) (by simp) ?_
    refine AllReadyH.cons (o := (Oper.mk (some 9) (Op.convert 22 9 (Operand.tmp 8)) 9 "law.go:30" #[Edge.mk 1 Ground.data] none)) rfl (fun K hK => ?st2teddfx4) (AllReadyH.cons (o := (Oper.mk (some 11) (Op.call (Call.mk (Callee.value (Operand.func 8)) #[Operand.tmp 10] #[22])) 22 "law.go:30" #[Edge.mk 3 Ground.data, Edge.mk 1 Ground.chain] none)) rfl (fun K hK => ?st4teddfx4) (AllReadyH.nil))
    case' st2teddfx4 =>
      go_simp
      skip
      refine hK.out _ _ (by (try dsimp only); all_goals trivial) (fun hHeld => ?_)
      clear hK K
      (try simp only [Act.put, List.setIfInBounds_toArray, List.set_cons_zero, List.set_cons_succ])
      refine wpAnyH_ready (rs := [4]) (by kernel_rfl) (by simp) ?_
      refine AllReadyH.cons (o := (Oper.mk (some 11) (Op.call (Call.mk (Callee.value (Operand.func 8)) #[Operand.tmp 10] #[22])) 22 "law.go:30" #[Edge.mk 3 Ground.data, Edge.mk 1 Ground.chain] none)) rfl (fun K hK => ?_) (AllReadyH.nil)
      go_simp
      (go_at_call 8; refine (rwrap_any a cap l _ (by omega) (HBA.out.below HB1.out (Nat.le_refl _))).mono ?_; rintro e w2 ⟨v2, rfl, hO2, hB2⟩; have s2 := own_str hO2; have s12 := own_str (own_below HO1.out hB2 (Nat.le_refl _)); have HB2 := Lib.hid (HB1.out.trans (hB2.mono HB1.out.size)); clear hO2 hB2)
      refine hK.out _ _ (by (try dsimp only); all_goals trivial) (fun hHeld => ?_)
      clear hK K
      (try simp only [Act.put, List.setIfInBounds_toArray, List.set_cons_zero, List.set_cons_succ])
      refine wpAnyH_ready (rs := [5]) (by kernel_rfl) (by simp) ?_
      refine AllReadyH.cons (o := (Oper.mk (some 12) (Op.convert 22 9 (Operand.tmp 11)) 9 "law.go:30" #[Edge.mk 4 Ground.data] none)) rfl (fun K hK => ?_) (AllReadyH.nil)
      go_simp
      skip
      refine hK.out _ _ (by (try dsimp only); all_goals trivial) (fun hHeld => ?_)
      clear hK K
      (try simp only [Act.put, List.setIfInBounds_toArray, List.set_cons_zero, List.set_cons_succ])
      refine wpAnyH_take (i := 6) (oi := (Oper.mk (some 13) (Op.binOp BinOp.eql 9 (Operand.tmp 9) (Operand.tmp 12) 9) 4 "law.go:30" #[Edge.mk 2 Ground.data, Edge.mk 5 Ground.data] none)) (v := ?_) rfl (by kernel_rfl) (by kernel_rfl) (by kernel_rfl) (fun _ _ _ h => h) (Or.inl ⟨by rfl, ?_⟩) (by assumption) ?_
      rotate_left
      · (intro w hSw; (try dsimp only at hSw); go_simp; first | done | with_reducible rfl)
      (try simp only [Act.put, List.setIfInBounds_toArray, List.set_cons_zero, List.set_cons_succ])
      refine wpAnyH_take (i := 7) (oi := (Oper.mk (some 14) (Op.move (Operand.tmp 13)) 4 "law.go:30" #[Edge.mk 6 Ground.data, Edge.mk 4 Ground.chain] none)) (v := ?_) rfl (by kernel_rfl) (by kernel_rfl) (by kernel_rfl) (fun _ _ _ h => h) (Or.inl ⟨by rfl, ?_⟩) (by assumption) ?_
      rotate_left
      · (intro w hSw; (try dsimp only at hSw); go_simp; first | done | with_reducible rfl)
      (try simp only [Act.put, List.setIfInBounds_toArray, List.set_cons_zero, List.set_cons_succ])
      refine wpAnyH_ready (rs := [8]) (by kernel_rfl) (by simp) ?_
      refine AllReadyH.cons (o := (Oper.mk (some 15) (Op.call (Call.mk (Callee.value (Operand.func 6)) #[] #[])) 4 "law.go:30" #[Edge.mk 7 Ground.chain, Edge.mk 7 Ground.guard] (some (7, true)))) rfl (fun K hK => ?_) (AllReadyH.nil)
      go_simp
      (go_at_call 6; refine (alive_any _).mono ?_; rintro e w3 ⟨rfl, hB3⟩; have HB3 := Lib.hid (HB2.out.trans (hB3.mono HB2.out.size)); clear hB3)
      refine hK.out _ _ (by (try dsimp only); all_goals trivial) (fun hHeld => ?_)
      clear hK K
      (try simp only [Act.put, List.setIfInBounds_toArray, List.set_cons_zero, List.set_cons_succ])
      refine wpAnyH_take (i := 9) (oi := (Oper.mk (some 16) (Op.pick (Operand.tmp 14) (Operand.tmp 15) (Operand.const (Value.bool false))) 4 "law.go:30" #[Edge.mk 7 Ground.data, Edge.mk 8 Ground.data] none)) (v := ?_) rfl (by kernel_rfl) (by kernel_rfl) (by kernel_rfl) (fun _ _ _ h => h) (Or.inl ⟨by rfl, ?_⟩) (by assumption) ?_
      rotate_left
      · (intro w hSw; (try dsimp only at hSw); go_simp; first | done | with_reducible rfl)
      (try simp only [Act.put, List.setIfInBounds_toArray, List.set_cons_zero, List.set_cons_succ])
      refine wpAnyH_take (i := 10) (oi := (Oper.mk (some 2) (Op.assign (Operand.tmp 16)) 4 "law.go:30" #[Edge.mk 9 Ground.data, Edge.mk 8 Ground.chain, Edge.mk 0 Ground.phase, Edge.mk 1 Ground.phase, Edge.mk 2 Ground.phase, Edge.mk 3 Ground.phase, Edge.mk 4 Ground.phase, Edge.mk 5 Ground.phase, Edge.mk 6 Ground.phase, Edge.mk 7 Ground.phase, Edge.mk 8 Ground.phase, Edge.mk 9 Ground.phase] none)) (v := ?_) rfl (by kernel_rfl) (by kernel_rfl) (by kernel_rfl) (fun _ _ _ h => h) (Or.inl ⟨by rfl, ?_⟩) (by assumption) ?_
      rotate_left
      · (intro w hSw; (try dsimp only at hSw); go_simp; first | done | with_reducible rfl)
      (try simp only [Act.put, List.setIfInBounds_toArray, List.set_cons_zero, List.set_cons_succ])
      refine wpAnyH_done (by kernel_rfl) ?_ _
    case' st4teddfx4 =>
      go_simp
      (go_at_call 8; refine (rwrap_any a cap l _ (by omega) (HBA.out.below HB1.out (Nat.le_refl _))).mono ?_; rintro e w2 ⟨v2, rfl, hO2, hB2⟩; have s2 := own_str hO2; have s12 := own_str (own_below HO1.out hB2 (Nat.le_refl _)); have HB2 := Lib.hid (HB1.out.trans (hB2.mono HB1.out.size)); clear hO2 hB2)
      refine hK.out _ _ (by (try dsimp only); all_goals trivial) (fun hHeld => ?_)
      clear hK K
      (try simp only [Act.put, List.setIfInBounds_toArray, List.set_cons_zero, List.set_cons_succ])
      refine wpAnyH_ready (rs := [2, 5]) (by kernel_rfl) (by simp) ?_
      refine AllReadyH.cons (o := (Oper.mk (some 9) (Op.convert 22 9 (Operand.tmp 8)) 9 "law.go:30" #[Edge.mk 1 Ground.data] none)) rfl (fun K hK => ?st2teddfx12) (AllReadyH.cons (o := (Oper.mk (some 12) (Op.convert 22 9 (Operand.tmp 11)) 9 "law.go:30" #[Edge.mk 4 Ground.data] none)) rfl (fun K hK => ?st5teddfx12) (AllReadyH.nil))
      case' st2teddfx12 =>
        go_simp
        skip
        refine hK.out _ _ (by (try dsimp only); all_goals trivial) (fun hHeld => ?_)
        clear hK K
        (try simp only [Act.put, List.setIfInBounds_toArray, List.set_cons_zero, List.set_cons_succ])
        refine wpAnyH_ready (rs := [5]) (by kernel_rfl) (by simp) ?_
        refine AllReadyH.cons (o := (Oper.mk (some 12) (Op.convert 22 9 (Operand.tmp 11)) 9 "law.go:30" #[Edge.mk 4 Ground.data] none)) rfl (fun K hK => ?_) (AllReadyH.nil)
        go_simp
        skip
        refine hK.out _ _ (by (try dsimp only); all_goals trivial) (fun hHeld => ?_)
        clear hK K
        (try simp only [Act.put, List.setIfInBounds_toArray, List.set_cons_zero, List.set_cons_succ])
        refine wpAnyH_take (i := 6) (oi := (Oper.mk (some 13) (Op.binOp BinOp.eql 9 (Operand.tmp 9) (Operand.tmp 12) 9) 4 "law.go:30" #[Edge.mk 2 Ground.data, Edge.mk 5 Ground.data] none)) (v := ?_) rfl (by kernel_rfl) (by kernel_rfl) (by kernel_rfl) (fun _ _ _ h => h) (Or.inl ⟨by rfl, ?_⟩) (by assumption) ?_
        rotate_left
        · (intro w hSw; (try dsimp only at hSw); go_simp; first | done | with_reducible rfl)
        (try simp only [Act.put, List.setIfInBounds_toArray, List.set_cons_zero, List.set_cons_succ])
        refine wpAnyH_take (i := 7) (oi := (Oper.mk (some 14) (Op.move (Operand.tmp 13)) 4 "law.go:30" #[Edge.mk 6 Ground.data, Edge.mk 4 Ground.chain] none)) (v := ?_) rfl (by kernel_rfl) (by kernel_rfl) (by kernel_rfl) (fun _ _ _ h => h) (Or.inl ⟨by rfl, ?_⟩) (by assumption) ?_
        rotate_left
        · (intro w hSw; (try dsimp only at hSw); go_simp; first | done | with_reducible rfl)
        (try simp only [Act.put, List.setIfInBounds_toArray, List.set_cons_zero, List.set_cons_succ])
        refine wpAnyH_ready (rs := [8]) (by kernel_rfl) (by simp) ?_
        refine AllReadyH.cons (o := (Oper.mk (some 15) (Op.call (Call.mk (Callee.value (Operand.func 6)) #[] #[])) 4 "law.go:30" #[Edge.mk 7 Ground.chain, Edge.mk 7 Ground.guard] (some (7, true)))) rfl (fun K hK => ?_) (AllReadyH.nil)
        go_simp
        (go_at_call 6; refine (alive_any _).mono ?_; rintro e w3 ⟨rfl, hB3⟩; have HB3 := Lib.hid (HB2.out.trans (hB3.mono HB2.out.size)); clear hB3)
        refine hK.out _ _ (by (try dsimp only); all_goals trivial) (fun hHeld => ?_)
        clear hK K
        (try simp only [Act.put, List.setIfInBounds_toArray, List.set_cons_zero, List.set_cons_succ])
        refine wpAnyH_take (i := 9) (oi := (Oper.mk (some 16) (Op.pick (Operand.tmp 14) (Operand.tmp 15) (Operand.const (Value.bool false))) 4 "law.go:30" #[Edge.mk 7 Ground.data, Edge.mk 8 Ground.data] none)) (v := ?_) rfl (by kernel_rfl) (by kernel_rfl) (by kernel_rfl) (fun _ _ _ h => h) (Or.inl ⟨by rfl, ?_⟩) (by assumption) ?_
        rotate_left
        · (intro w hSw; (try dsimp only at hSw); go_simp; first | done | with_reducible rfl)
        (try simp only [Act.put, List.setIfInBounds_toArray, List.set_cons_zero, List.set_cons_succ])
        refine wpAnyH_take (i := 10) (oi := (Oper.mk (some 2) (Op.assign (Operand.tmp 16)) 4 "law.go:30" #[Edge.mk 9 Ground.data, Edge.mk 8 Ground.chain, Edge.mk 0 Ground.phase, Edge.mk 1 Ground.phase, Edge.mk 2 Ground.phase, Edge.mk 3 Ground.phase, Edge.mk 4 Ground.phase, Edge.mk 5 Ground.phase, Edge.mk 6 Ground.phase, Edge.mk 7 Ground.phase, Edge.mk 8 Ground.phase, Edge.mk 9 Ground.phase] none)) (v := ?_) rfl (by kernel_rfl) (by kernel_rfl) (by kernel_rfl) (fun _ _ _ h => h) (Or.inl ⟨by rfl, ?_⟩) (by assumption) ?_
        rotate_left
        · (intro w hSw; (try dsimp only at hSw); go_simp; first | done | with_reducible rfl)
        (try simp only [Act.put, List.setIfInBounds_toArray, List.set_cons_zero, List.set_cons_succ])
        refine wpAnyH_done (by kernel_rfl) ?_ _
      case' st5teddfx12 =>
        go_simp
        skip
        refine hK.out _ _ (by (try dsimp only); all_goals trivial) (fun hHeld => ?_)
        clear hK K
        (try simp only [Act.put, List.setIfInBounds_toArray, List.set_cons_zero, List.set_cons_succ])
        refine wpAnyH_ready (rs := [2]) (by kernel_rfl) (by simp) ?_
        refine AllReadyH.cons (o := (Oper.mk (some 9) (Op.convert 22 9 (Operand.tmp 8)) 9 "law.go:30" #[Edge.mk 1 Ground.data] none)) rfl (fun K hK => ?_) (AllReadyH.nil)
        go_simp
        skip
        refine hK.out _ _ (by (try dsimp only); all_goals trivial) (fun hHeld => ?_)
        clear hK K
        (try simp only [Act.put, List.setIfInBounds_toArray, List.set_cons_zero, List.set_cons_succ])
        refine wpAnyH_take (i := 6) (oi := (Oper.mk (some 13) (Op.binOp BinOp.eql 9 (Operand.tmp 9) (Operand.tmp 12) 9) 4 "law.go:30" #[Edge.mk 2 Ground.data, Edge.mk 5 Ground.data] none)) (v := ?_) rfl (by kernel_rfl) (by kernel_rfl) (by kernel_rfl) (fun _ _ _ h => h) (Or.inl ⟨by rfl, ?_⟩) (by assumption) ?_
        rotate_left
        · (intro w hSw; (try dsimp only at hSw); go_simp; first | done | with_reducible rfl)
        (try simp only [Act.put, List.setIfInBounds_toArray, List.set_cons_zero, List.set_cons_succ])
        refine wpAnyH_take (i := 7) (oi := (Oper.mk (some 14) (Op.move (Operand.tmp 13)) 4 "law.go:30" #[Edge.mk 6 Ground.data, Edge.mk 4 Ground.chain] none)) (v := ?_) rfl (by kernel_rfl) (by kernel_rfl) (by kernel_rfl) (fun _ _ _ h => h) (Or.inl ⟨by rfl, ?_⟩) (by assumption) ?_
        rotate_left
        · (intro w hSw; (try dsimp only at hSw); go_simp; first | done | with_reducible rfl)
        (try simp only [Act.put, List.setIfInBounds_toArray, List.set_cons_zero, List.set_cons_succ])
        refine wpAnyH_ready (rs := [8]) (by kernel_rfl) (by simp) ?_
        refine AllReadyH.cons (o := (Oper.mk (some 15) (Op.call (Call.mk (Callee.value (Operand.func 6)) #[] #[])) 4 "law.go:30" #[Edge.mk 7 Ground.chain, Edge.mk 7 Ground.guard] (some (7, true)))) rfl (fun K hK => ?_) (AllReadyH.nil)
        go_simp
        (go_at_call 6; refine (alive_any _).mono ?_; rintro e w3 ⟨rfl, hB3⟩; have HB3 := Lib.hid (HB2.out.trans (hB3.mono HB2.out.size)); clear hB3)
        refine hK.out _ _ (by (try dsimp only); all_goals trivial) (fun hHeld => ?_)
        clear hK K
        (try simp only [Act.put, List.setIfInBounds_toArray, List.set_cons_zero, List.set_cons_succ])
        refine wpAnyH_take (i := 9) (oi := (Oper.mk (some 16) (Op.pick (Operand.tmp 14) (Operand.tmp 15) (Operand.const (Value.bool false))) 4 "law.go:30" #[Edge.mk 7 Ground.data, Edge.mk 8 Ground.data] none)) (v := ?_) rfl (by kernel_rfl) (by kernel_rfl) (by kernel_rfl) (fun _ _ _ h => h) (Or.inl ⟨by rfl, ?_⟩) (by assumption) ?_
        rotate_left
        · (intro w hSw; (try dsimp only at hSw); go_simp; first | done | with_reducible rfl)
        (try simp only [Act.put, List.setIfInBounds_toArray, List.set_cons_zero, List.set_cons_succ])
        refine wpAnyH_take (i := 10) (oi := (Oper.mk (some 2) (Op.assign (Operand.tmp 16)) 4 "law.go:30" #[Edge.mk 9 Ground.data, Edge.mk 8 Ground.chain, Edge.mk 0 Ground.phase, Edge.mk 1 Ground.phase, Edge.mk 2 Ground.phase, Edge.mk 3 Ground.phase, Edge.mk 4 Ground.phase, Edge.mk 5 Ground.phase, Edge.mk 6 Ground.phase, Edge.mk 7 Ground.phase, Edge.mk 8 Ground.phase, Edge.mk 9 Ground.phase] none)) (v := ?_) rfl (by kernel_rfl) (by kernel_rfl) (by kernel_rfl) (fun _ _ _ h => h) (Or.inl ⟨by rfl, ?_⟩) (by assumption) ?_
        rotate_left
        · (intro w hSw; (try dsimp only at hSw); go_simp; first | done | with_reducible rfl)
        (try simp only [Act.put, List.setIfInBounds_toArray, List.set_cons_zero, List.set_cons_succ])
        refine wpAnyH_done (by kernel_rfl) ?_ _
    all_goals
      go_wp2_with fail
      go_ret
      exact ⟨rfl, HB3.out⟩


set_option maxRecDepth 100000 in
theorem lifted (os : Os) (started : os.Started) (H : Type) (enc : TypeId × Value → H) :
    ReturnsInHanded {} Try.checked os 3 .any (Rows.markerWrapsSpec.pre6 enc Try.prog Try.f3 Rows.markerWrapsRow.domain false) (Rows.markerWrapsSpec.post enc Try.prog Try.f3 false true false false) := by
  refine returnsInHanded_of_change (C := Try.checked) own started (by kernel_rfl) Try.func3
    (ChangeSpec.witness6 (enc := enc) (C := Try.checked) false ⟨#[], #[.slice none 0 0], []⟩ 8 (by kernel_rfl) (by kernel_rfl) (by kernel_rfl) (by kernel_rfl)) ?_
  intro W base args ds gs before hval0 hW hcnd _
  have hval : ∀ (j : Nat) t v, Try.f3.params[j]? = some t → args[j]? = some v → Value.okWide Try.prog W .any base t v := hval0
  have hW' := hW
  obtain ⟨p, q, hA0, hV, rfl, hfz, hnd⟩ := hW
  have hA : DataW.TrodAll enc Try.prog W 0 (fun _ => true) true Try.f3.params.toList args.toList ds p := hA0
  rw [Try.params3] at hA hval
  obtain ⟨v0, vs0, d0, ds0, p0, q0, hargs, rfl, rfl, h0, r0⟩ := trodAll_cons hA
  obtain ⟨rfl, rfl, rfl⟩ := trodAll_nil r0
  obtain rfl : args = #[v0] := by cases args; simp_all
  obtain ⟨rfl, rfl⟩ := trodVars_none hV
  have k0 := h0
  have lt0 : ∀ x ∈ p0, x.block < W.heap.size := by obtain ⟨m, hm⟩ := k0; exact DataW.trod_lt m _ _ _ hm
  clear hA0 hval0
  refine (walk v0 W (hval 0 22 v0 rfl rfl) k0).mono fun e W' ⟨he, bel⟩ => ?_
  subst he
  exact ⟨_, rfl, _, _, _, [], _, [], hW', trodAll_mk1 (shut_bool Try.underlying4 _), (trodAll_cons_mk (Below.trod laidOut (by kernel_rfl) (of_decide_eq_true (by kernel_rfl)) k0 bel lt0) trodAll_mk0), rfl, bel.frame _, fun h => by cases h⟩

theorem over : Rows.markerWrapsRow.holds Try.pinned (OpenSpec.ofChange Rows.markerWrapsSpec) :=
  OpenClaim.holds_of_wide 3 Try.f3 rfl rfl rfl rfl rfl rfl rfl ⟨rfl, rfl, rfl, rfl, rfl⟩ rfl rfl rfl rfl rfl (by kernel_rfl) Try.func3 (by kernel_rfl)
    (of_decide_eq_true (by kernel_rfl)) (by unfold Func.isWrapper; first | (rw [if_pos (by decide +kernel)]; kernel_rfl) | (rw [if_neg (by decide +kernel)]; exact ⟨rfl, rfl⟩))
    (fun os started H enc _ => lifted os started H enc)

theorem proved : Rows.MarkerWrapsSaid := over
#print axioms proved
end Go.Proofs.Ytjeigdopcdeaeaa.markerWraps

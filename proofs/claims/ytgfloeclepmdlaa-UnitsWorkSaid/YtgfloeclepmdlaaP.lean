/- agree. No condition. -/
import Derived.Test.YtgfloeclepmdlaaN
namespace Go.Proofs.Ytgfloeclepmdlaa
open Go.RowKit Go.Deep Go.ChangeShapes Go.WideShapes Go.ChangeAt
set_option linter.unusedVariables false

/-- both ends at a world of a call that began at w0 -/
structure Ag (w0 w : World) (b g cap : Nat) (a : Option Addr) (us : List U) : Prop where
  u : UAt w b g cap us
  r : RAt w a us
  b : Below w0.heap.size w0 w
theorem Ag.below {w0 w w' : World} {b g cap : Nat} {a : Option Addr} {us : List U} (h : Ag w0 w b g cap a us) (hB : Below w.heap.size w w') : Ag w0 w' b g cap a us :=
  ⟨h.u.below hB (Nat.le_refl _), h.r.below hB (Nat.le_refl _), h.b.trans (hB.mono h.b.size)⟩
theorem Ag.quiet {w0 w w' : World} {b g cap : Nat} {a : Option Addr} {us : List U} (h : Ag w0 w b g cap a us) (hq : Quiet w w') : Ag w0 w' b g cap a us := h.below hq.below
theorem Ag.row {w0 w : World} {b g cap gr : Nat} {us : List U} (h : Ag w0 w b g cap (some ⟨gr, 0, none⟩) us) {i : Nat} (hi : i < us.length) : RowB w gr 67 us := by
  obtain ⟨g', e, h⟩ := h.r.get hi
  cases e
  exact h
set_option maxRecDepth 20000 in
set_option maxHeartbeats 4000000 in
theorem agree_any {w : World} {b g cap : Nat} {a : Option Addr} {us : List U} (c : Nat) (id : Int) (hU : UAt w b g cap us) (hR : RAt w a us) (ok : SideOk us) : Calls Try.prog 19 #[.pointer (some ⟨b, 0, none⟩), .slice a us.length c, .int .i64 id] w fun e w' => e = .returned (.bool true) ∧ Below w.heap.size w w' := by
  have H0 : Hid (Ag w w b g cap a us) := ⟨hU, hR, Below.refl _ _⟩
  have OK := Lib.hid ok
  have hbl : (brokenS us).length ≤ 1000000 := by have h1 := broken_le us us.length; rw [List.take_length] at h1; have := hU.len; omega
  have hsl : (sidesS us).length ≤ 1000000 := by simp [sidesS]; have := hU.len; omega
  have hlen := hU.len
  clear hU hR ok
  cases hp : pos us id with
  | none =>
    have HA : Hid (activeS us id = (0, 8)) := Lib.hid (by simp [activeS, hp])
    have HW : Hid (workS us id = false) := Lib.hid (by simp [workS, hp])
    go_enter Try.func19, Try.ntmps19
    go_wp2_with fail
    refine (active_any id H0.out.u).mono ?_
    rintro e w2 ⟨rfl, rfl⟩
    rw [HA.out]
    go_wp2_with fail
    refine (rfind_any c id H0.out.r).mono ?_
    rintro e w2 ⟨rfl, rfl⟩
    rw [hp]
    simp only [idxI]
    go_wp2_with fail
    refine (working_any id H0.out.u OK.out).mono ?_
    rintro e w1 ⟨rfl, hq⟩
    rw [HW.out]
    have H1 := Lib.hid (H0.out.quiet hq)
    clear hq
    go_wp2_with fail
    refine (broken_any H1.out.u OK.out).mono ?_
    intro e w2 h
    obtain ⟨a2, c2, rfl, hV, -, hB⟩ := h.list
    have H2 := Lib.hid (H1.out.below hB)
    have V2 := Lib.hid hV
    clear h hV hB
    go_wp2_with fail
    refine (rbroken_any c H2.out.r OK.out).mono ?_
    intro e w3 h
    obtain ⟨a3, c3, rfl, hV, -, hB⟩ := h.list
    have H3 := Lib.hid (H2.out.below hB)
    have V3 := Lib.hid hV
    have V2 := Lib.hid (V2.out.below hB (Nat.le_refl _))
    clear h hV hB
    go_wp2_with fail
    refine (ints_any (la := brokenS us) (lb := brokenS us) c2 c3 V2.out V3.out hbl).mono ?_
    rintro e w4 ⟨rfl, hq⟩
    rw [decide_eq_true (rfl : brokenS us = brokenS us)]
    have H4 := Lib.hid (H3.out.quiet hq)
    clear hq
    go_wp2_with fail
    refine (sides_any H4.out.u).mono ?_
    intro e w5 h
    obtain ⟨a5, c5, rfl, hV, -, hB⟩ := h.list
    have H5 := Lib.hid (H4.out.below hB)
    have V5 := Lib.hid hV
    clear h hV hB
    go_wp2_with fail
    refine (rsides_any c H5.out.r).mono ?_
    intro e w6 h
    obtain ⟨a6, c6, rfl, hV, -, hB⟩ := h.list
    have H6 := Lib.hid (H5.out.below hB)
    have V6 := Lib.hid hV
    have V5 := Lib.hid (V5.out.below hB (Nat.le_refl _))
    clear h hV hB
    go_wp2_with fail
    refine (ints_any (la := sidesS us) (lb := sidesS us) c5 c6 V5.out V6.out hsl).mono ?_
    rintro e w7 ⟨rfl, hq⟩
    rw [decide_eq_true (rfl : sidesS us = sidesS us)]
    have H7 := Lib.hid (H6.out.quiet hq)
    clear hq
    go_wp2_with fail
    go_ret
    exact ⟨rfl, H7.out.b⟩
  | some k =>
    have hk := pos_lt hp
    have hs := OK.out _ (List.getElem_mem hk)
    obtain ⟨gr, rfl, -⟩ := H0.out.r.get hk
    have HA : Hid (activeS us id = (us[k].side, 0)) := Lib.hid (by simp [activeS, hp, hk])
    have HW : Hid (workS us id = !(us[k].dead)) := Lib.hid (by simp [workS, hp, hk])
    have hk0 : (0 : Int) ≤ (k : Int) := by omega
    have hk1 : (k : Int) < (us.length : Int) := by omega
    have hk2 : ¬ (k : Int) < 0 := by omega
    rcases hs with hs | hs
    · have hd : us[k].dead = us[k].f0 := by simp [U.dead, hs]
      rw [hs] at HA
      rw [hd] at HW
      generalize hf : us[k].f0 = d at HW
      clear hd
      go_enter Try.func19, Try.ntmps19
      go_wp2_with fail
      refine (active_any id H0.out.u).mono ?_
      rintro e w0 ⟨rfl, rfl⟩
      rw [HA.out]
      go_wp2_with fail
      refine (rfind_any c id H0.out.r).mono ?_
      rintro e w' ⟨rfl, rfl⟩
      rw [hp]
      simp only [idxI]
      have HF := Lib.hid hf
      have HS := Lib.hid hs
      clear hp hf hs
      go_wp2_with fail
      have H0 := Lib.hid (show Ag w' w'.drew b g cap (some ⟨gr, 0, none⟩) us from H0.out.quiet ⟨1, rfl⟩)
      have hR := H0.out.row hk
      obtain ⟨-, s1, s2, s3⟩ := hR.at hk
      have hgl := hR.lt
      rw [HS.out] at s1
      rw [HF.out] at s2
      clear hR
      refine wp_region_held_drew (S := (fun w' => w'.cell? ⟨gr, k * 4 + 1, none⟩ = some (.int .i64 0) ∧ w'.cell? ⟨gr, k * 4 + 2, none⟩ = some (.bool d))) (by kernel_rfl) (by (try dsimp only); first | exact ⟨by assumption, by assumption⟩ | go_keep) (fun hHeld => ?_)
      refine wpAnyH_take (i := 0) (oi := (Oper.mk (some 47) (Op.move (Operand.tmp 7)) 3 "law.go:32" #[] none)) (v := ?v0tcf22) rfl (by kernel_rfl) (by kernel_rfl) (by kernel_rfl) (fun _ _ _ h => h) (Or.inl ⟨by rfl, ?hy0tcf22⟩) (by assumption) ?rest0tcf22
      case hy0tcf22 => (intro w hSw; (try dsimp only at hSw); go_simp; first | done | with_reducible rfl)
      (try simp only [Act.put, List.setIfInBounds_toArray, List.set_cons_zero, List.set_cons_succ])
      refine wpAnyH_take (i := 1) (oi := (Oper.mk (some 48) (Op.move (Operand.tmp 1)) 43 "law.go:32" #[] none)) (v := ?v1tcf22) rfl (by kernel_rfl) (by kernel_rfl) (by kernel_rfl) (fun _ _ _ h => h) (Or.inl ⟨by rfl, ?hy1tcf22⟩) (by assumption) ?rest1tcf22
      case hy1tcf22 => (intro w hSw; (try dsimp only at hSw); go_simp; first | done | with_reducible rfl)
      (try simp only [Act.put, List.setIfInBounds_toArray, List.set_cons_zero, List.set_cons_succ])
      refine wpAnyH_take (i := 2) (oi := (Oper.mk (some 49) (Op.move (Operand.tmp 9)) 3 "law.go:32" #[] none)) (v := ?v2tcf22) rfl (by kernel_rfl) (by kernel_rfl) (by kernel_rfl) (fun _ _ _ h => h) (Or.inl ⟨by rfl, ?hy2tcf22⟩) (by assumption) ?rest2tcf22
      case hy2tcf22 => (intro w hSw; (try dsimp only at hSw); go_simp; first | done | with_reducible rfl)
      (try simp only [Act.put, List.setIfInBounds_toArray, List.set_cons_zero, List.set_cons_succ])
      refine wpAnyH_take (i := 3) (oi := (Oper.mk (some 50) (Op.indexAddr 43 (Operand.tmp 48) (Operand.tmp 49)) 0 "law.go:32" #[Edge.mk 1 Ground.data, Edge.mk 2 Ground.data] none)) (v := ?v3tcf22) rfl (by kernel_rfl) (by kernel_rfl) (by kernel_rfl) (fun _ _ _ h => h) (Or.inl ⟨by rfl, ?hy3tcf22⟩) (by assumption) ?rest3tcf22
      case hy3tcf22 => (intro w hSw; (try dsimp only at hSw); go_simp; first | done | with_reducible rfl)
      (try simp only [Act.put, List.setIfInBounds_toArray, List.set_cons_zero, List.set_cons_succ])
      refine wpAnyH_take (i := 4) (oi := (Oper.mk (some 51) (Op.fieldAddr 67 (Operand.tmp 50) 1) 0 "law.go:32" #[Edge.mk 3 Ground.data] none)) (v := ?v4tcf22) rfl (by kernel_rfl) (by kernel_rfl) (by kernel_rfl) (fun _ _ _ h => h) (Or.inl ⟨by rfl, ?hy4tcf22⟩) (by assumption) ?rest4tcf22
      case hy4tcf22 => (intro w hSw; (try dsimp only at hSw); go_simp; first | done | with_reducible rfl)
      (try simp only [Act.put, List.setIfInBounds_toArray, List.set_cons_zero, List.set_cons_succ])
      refine wpAnyH_take (i := 5) (oi := (Oper.mk (some 52) (Op.load 3 (Operand.tmp 51)) 3 "law.go:32" #[Edge.mk 4 Ground.data] none)) (v := ?v5tcf22) rfl (by kernel_rfl) (by kernel_rfl) (by kernel_rfl) (fun _ _ _ h => h) (Or.inl ⟨by rfl, ?hy5tcf22⟩) (by assumption) ?rest5tcf22
      case hy5tcf22 => (intro w hSw; (try dsimp only at hSw); go_simp; first | done | with_reducible rfl)
      (try simp only [Act.put, List.setIfInBounds_toArray, List.set_cons_zero, List.set_cons_succ])
      refine wpAnyH_take (i := 6) (oi := (Oper.mk (some 53) (Op.binOp BinOp.eql 3 (Operand.tmp 47) (Operand.tmp 52) 3) 4 "law.go:32" #[Edge.mk 0 Ground.data, Edge.mk 5 Ground.data] none)) (v := ?v6tcf22) rfl (by kernel_rfl) (by kernel_rfl) (by kernel_rfl) (fun _ _ _ h => h) (Or.inl ⟨by rfl, ?hy6tcf22⟩) (by assumption) ?rest6tcf22
      case hy6tcf22 => (intro w hSw; (try dsimp only at hSw); go_simp; first | done | with_reducible rfl)
      (try simp only [Act.put, List.setIfInBounds_toArray, List.set_cons_zero, List.set_cons_succ])
      refine wpAnyH_take (i := 7) (oi := (Oper.mk (some 54) (Op.move (Operand.tmp 53)) 4 "law.go:32" #[Edge.mk 6 Ground.data] none)) (v := ?v7tcf22) rfl (by kernel_rfl) (by kernel_rfl) (by kernel_rfl) (fun _ _ _ h => h) (Or.inl ⟨by rfl, ?hy7tcf22⟩) (by assumption) ?rest7tcf22
      case hy7tcf22 => (intro w hSw; (try dsimp only at hSw); go_simp; first | done | with_reducible rfl)
      (try simp only [Act.put, List.setIfInBounds_toArray, List.set_cons_zero, List.set_cons_succ])
      refine wpAnyH_take (i := 8) (oi := (Oper.mk (some 55) (Op.move (Operand.tmp 8)) 24 "law.go:32" #[Edge.mk 7 Ground.guard] (some (7, true)))) (v := ?v8tcf22) rfl (by kernel_rfl) (by kernel_rfl) (by kernel_rfl) (fun _ _ _ h => h) (Or.inl ⟨by rfl, ?hy8tcf22⟩) (by assumption) ?rest8tcf22
      case hy8tcf22 => (intro w hSw; (try dsimp only at hSw); go_simp; first | done | with_reducible rfl)
      (try simp only [Act.put, List.setIfInBounds_toArray, List.set_cons_zero, List.set_cons_succ])
      refine wpAnyH_take (i := 9) (oi := (Oper.mk (some 56) (Op.binOp BinOp.eql 24 (Operand.tmp 55) (Operand.const (Value.int IntKind.i64 0)) 24) 4 "law.go:32" #[Edge.mk 8 Ground.data, Edge.mk 7 Ground.guard] (some (7, true)))) (v := ?v9tcf22) rfl (by kernel_rfl) (by kernel_rfl) (by kernel_rfl) (fun _ _ _ h => h) (Or.inl ⟨by rfl, ?hy9tcf22⟩) (by assumption) ?rest9tcf22
      case hy9tcf22 => (intro w hSw; (try dsimp only at hSw); go_simp; first | done | with_reducible rfl)
      (try simp only [Act.put, List.setIfInBounds_toArray, List.set_cons_zero, List.set_cons_succ])
      refine wpAnyH_take (i := 10) (oi := (Oper.mk (some 57) (Op.pick (Operand.tmp 54) (Operand.tmp 56) (Operand.const (Value.bool false))) 4 "law.go:32" #[Edge.mk 7 Ground.data, Edge.mk 9 Ground.data] none)) (v := ?v10tcf22) rfl (by kernel_rfl) (by kernel_rfl) (by kernel_rfl) (fun _ _ _ h => h) (Or.inl ⟨by rfl, ?hy10tcf22⟩) (by assumption) ?rest10tcf22
      case hy10tcf22 => (intro w hSw; (try dsimp only at hSw); go_simp; first | done | with_reducible rfl)
      (try simp only [Act.put, List.setIfInBounds_toArray, List.set_cons_zero, List.set_cons_succ])
      refine wpAnyH_take (i := 11) (oi := (Oper.mk (some 58) (Op.move (Operand.tmp 57)) 4 "law.go:32" #[Edge.mk 10 Ground.data, Edge.mk 7 Ground.chain] none)) (v := ?v11tcf22) rfl (by kernel_rfl) (by kernel_rfl) (by kernel_rfl) (fun _ _ _ h => h) (Or.inl ⟨by rfl, ?hy11tcf22⟩) (by assumption) ?rest11tcf22
      case hy11tcf22 => (intro w hSw; (try dsimp only at hSw); go_simp; first | done | with_reducible rfl)
      (try simp only [Act.put, List.setIfInBounds_toArray, List.set_cons_zero, List.set_cons_succ])
      refine wpAnyH_take (i := 12) (oi := (Oper.mk (some 59) (Op.move (Operand.tmp 0)) 23 "law.go:32" #[Edge.mk 11 Ground.guard] (some (11, true)))) (v := ?v12tcf22) rfl (by kernel_rfl) (by kernel_rfl) (by kernel_rfl) (fun _ _ _ h => h) (Or.inl ⟨by rfl, ?hy12tcf22⟩) (by assumption) ?rest12tcf22
      case hy12tcf22 => (intro w hSw; (try dsimp only at hSw); go_simp; first | done | with_reducible rfl)
      (try simp only [Act.put, List.setIfInBounds_toArray, List.set_cons_zero, List.set_cons_succ])
      refine wpAnyH_take (i := 13) (oi := (Oper.mk (some 60) (Op.move (Operand.tmp 2)) 3 "law.go:32" #[Edge.mk 11 Ground.guard] (some (11, true)))) (v := ?v13tcf22) rfl (by kernel_rfl) (by kernel_rfl) (by kernel_rfl) (fun _ _ _ h => h) (Or.inl ⟨by rfl, ?hy13tcf22⟩) (by assumption) ?rest13tcf22
      case hy13tcf22 => (intro w hSw; (try dsimp only at hSw); go_simp; first | done | with_reducible rfl)
      (try simp only [Act.put, List.setIfInBounds_toArray, List.set_cons_zero, List.set_cons_succ])
      refine wpAnyH_take (i := 15) (oi := (Oper.mk (some 62) (Op.move (Operand.tmp 1)) 43 "law.go:32" #[Edge.mk 11 Ground.guard] (some (11, true)))) (v := ?v15tcf22) rfl (by kernel_rfl) (by kernel_rfl) (by kernel_rfl) (fun _ _ _ h => h) (Or.inl ⟨by rfl, ?hy15tcf22⟩) (by assumption) ?rest15tcf22
      case hy15tcf22 => (intro w hSw; (try dsimp only at hSw); go_simp; first | done | with_reducible rfl)
      (try simp only [Act.put, List.setIfInBounds_toArray, List.set_cons_zero, List.set_cons_succ])
      refine wpAnyH_take (i := 16) (oi := (Oper.mk (some 63) (Op.move (Operand.tmp 9)) 3 "law.go:32" #[Edge.mk 11 Ground.guard] (some (11, true)))) (v := ?v16tcf22) rfl (by kernel_rfl) (by kernel_rfl) (by kernel_rfl) (fun _ _ _ h => h) (Or.inl ⟨by rfl, ?hy16tcf22⟩) (by assumption) ?rest16tcf22
      case hy16tcf22 => (intro w hSw; (try dsimp only at hSw); go_simp; first | done | with_reducible rfl)
      (try simp only [Act.put, List.setIfInBounds_toArray, List.set_cons_zero, List.set_cons_succ])
      refine wpAnyH_take (i := 17) (oi := (Oper.mk (some 64) (Op.move (Operand.tmp 1)) 43 "law.go:32" #[Edge.mk 11 Ground.guard] (some (11, true)))) (v := ?v17tcf22) rfl (by kernel_rfl) (by kernel_rfl) (by kernel_rfl) (fun _ _ _ h => h) (Or.inl ⟨by rfl, ?hy17tcf22⟩) (by assumption) ?rest17tcf22
      case hy17tcf22 => (intro w hSw; (try dsimp only at hSw); go_simp; first | done | with_reducible rfl)
      (try simp only [Act.put, List.setIfInBounds_toArray, List.set_cons_zero, List.set_cons_succ])
      refine wpAnyH_take (i := 18) (oi := (Oper.mk (some 65) (Op.move (Operand.tmp 9)) 3 "law.go:32" #[Edge.mk 11 Ground.guard] (some (11, true)))) (v := ?v18tcf22) rfl (by kernel_rfl) (by kernel_rfl) (by kernel_rfl) (fun _ _ _ h => h) (Or.inl ⟨by rfl, ?hy18tcf22⟩) (by assumption) ?rest18tcf22
      case hy18tcf22 => (intro w hSw; (try dsimp only at hSw); go_simp; first | done | with_reducible rfl)
      (try simp only [Act.put, List.setIfInBounds_toArray, List.set_cons_zero, List.set_cons_succ])
      refine wpAnyH_take (i := 19) (oi := (Oper.mk (some 66) (Op.indexAddr 43 (Operand.tmp 64) (Operand.tmp 65)) 0 "law.go:32" #[Edge.mk 17 Ground.data, Edge.mk 18 Ground.data, Edge.mk 11 Ground.guard] (some (11, true)))) (v := ?v19tcf22) rfl (by kernel_rfl) (by kernel_rfl) (by kernel_rfl) (fun _ _ _ h => h) (Or.inl ⟨by rfl, ?hy19tcf22⟩) (by assumption) ?rest19tcf22
      case hy19tcf22 => (intro w hSw; (try dsimp only at hSw); go_simp; first | done | with_reducible rfl)
      (try simp only [Act.put, List.setIfInBounds_toArray, List.set_cons_zero, List.set_cons_succ])
      refine wpAnyH_take (i := 20) (oi := (Oper.mk (some 67) (Op.fieldAddr 67 (Operand.tmp 66) 1) 0 "law.go:32" #[Edge.mk 19 Ground.data, Edge.mk 11 Ground.guard] (some (11, true)))) (v := ?v20tcf22) rfl (by kernel_rfl) (by kernel_rfl) (by kernel_rfl) (fun _ _ _ h => h) (Or.inl ⟨by rfl, ?hy20tcf22⟩) (by assumption) ?rest20tcf22
      case hy20tcf22 => (intro w hSw; (try dsimp only at hSw); go_simp; first | done | with_reducible rfl)
      (try simp only [Act.put, List.setIfInBounds_toArray, List.set_cons_zero, List.set_cons_succ])
      refine wpAnyH_take (i := 21) (oi := (Oper.mk (some 68) (Op.load 3 (Operand.tmp 67)) 3 "law.go:32" #[Edge.mk 20 Ground.data, Edge.mk 11 Ground.guard] (some (11, true)))) (v := ?v21tcf22) rfl (by kernel_rfl) (by kernel_rfl) (by kernel_rfl) (fun _ _ _ h => h) (Or.inl ⟨by rfl, ?hy21tcf22⟩) (by assumption) ?rest21tcf22
      case hy21tcf22 => (intro w hSw; (try dsimp only at hSw); go_simp; first | done | with_reducible rfl)
      (try simp only [Act.put, List.setIfInBounds_toArray, List.set_cons_zero, List.set_cons_succ])
      refine wpAnyH_take (i := 22) (oi := (Oper.mk (some 69) (Op.indexAddr 43 (Operand.tmp 62) (Operand.tmp 63)) 0 "law.go:32" #[Edge.mk 15 Ground.data, Edge.mk 16 Ground.data, Edge.mk 11 Ground.guard] (some (11, true)))) (v := ?v22tcf22) rfl (by kernel_rfl) (by kernel_rfl) (by kernel_rfl) (fun _ _ _ h => h) (Or.inl ⟨by rfl, ?hy22tcf22⟩) (by assumption) ?rest22tcf22
      case hy22tcf22 => (intro w hSw; (try dsimp only at hSw); go_simp; first | done | with_reducible rfl)
      (try simp only [Act.put, List.setIfInBounds_toArray, List.set_cons_zero, List.set_cons_succ])
      refine wpAnyH_take (i := 23) (oi := (Oper.mk (some 70) (Op.fieldAddr 67 (Operand.tmp 69) 2) 0 "law.go:32" #[Edge.mk 22 Ground.data, Edge.mk 11 Ground.guard] (some (11, true)))) (v := ?v23tcf22) rfl (by kernel_rfl) (by kernel_rfl) (by kernel_rfl) (fun _ _ _ h => h) (Or.inl ⟨by rfl, ?hy23tcf22⟩) (by assumption) ?rest23tcf22
      case hy23tcf22 => (intro w hSw; (try dsimp only at hSw); go_simp; first | done | with_reducible rfl)
      (try simp only [Act.put, List.setIfInBounds_toArray, List.set_cons_zero, List.set_cons_succ])
      refine wpAnyH_take (i := 24) (oi := (Oper.mk (some 71) (Op.indexAddr 58 (Operand.tmp 70) (Operand.tmp 68)) 0 "law.go:32" #[Edge.mk 23 Ground.data, Edge.mk 21 Ground.data, Edge.mk 11 Ground.guard] (some (11, true)))) (v := ?v24tcf22) rfl (by kernel_rfl) (by kernel_rfl) (by kernel_rfl) (fun _ _ _ h => h) (Or.inl ⟨by rfl, ?hy24tcf22⟩) (by assumption) ?rest24tcf22
      case hy24tcf22 => (intro w hSw; (try dsimp only at hSw); go_simp; first | done | with_reducible rfl)
      (try simp only [Act.put, List.setIfInBounds_toArray, List.set_cons_zero, List.set_cons_succ])
      refine wpAnyH_take (i := 25) (oi := (Oper.mk (some 72) (Op.load 4 (Operand.tmp 71)) 4 "law.go:32" #[Edge.mk 24 Ground.data, Edge.mk 11 Ground.guard] (some (11, true)))) (v := ?v25tcf22) rfl (by kernel_rfl) (by kernel_rfl) (by kernel_rfl) (fun _ _ _ h => h) (Or.inl ⟨by rfl, ?hy25tcf22⟩) (by assumption) ?rest25tcf22
      case hy25tcf22 => (intro w hSw; (try dsimp only at hSw); go_simp; first | done | with_reducible rfl)
      (try simp only [Act.put, List.setIfInBounds_toArray, List.set_cons_zero, List.set_cons_succ])
      refine wpAnyH_take (i := 26) (oi := (Oper.mk (some 73) (Op.unOp UnOp.not 4 (Operand.tmp 72)) 4 "law.go:32" #[Edge.mk 25 Ground.data, Edge.mk 11 Ground.guard] (some (11, true)))) (v := ?v26tcf22) rfl (by kernel_rfl) (by kernel_rfl) (by kernel_rfl) (fun _ _ _ h => h) (Or.inl ⟨by rfl, ?hy26tcf22⟩) (by assumption) ?rest26tcf22
      case hy26tcf22 => (intro w hSw; (try dsimp only at hSw); go_simp; first | done | with_reducible rfl)
      (try simp only [Act.put, List.setIfInBounds_toArray, List.set_cons_zero, List.set_cons_succ])
      refine wpAnyH_ready (rs := [14]) (by kernel_rfl) (by simp) ?_
      refine AllReadyH.cons (o := (Oper.mk (some 61) (Op.call (Call.mk (Callee.value (Operand.func 16)) #[Operand.tmp 59, Operand.tmp 60] #[23, 3])) 4 "law.go:32" #[Edge.mk 12 Ground.data, Edge.mk 13 Ground.data, Edge.mk 11 Ground.chain, Edge.mk 11 Ground.guard] (some (11, true)))) rfl (fun K hK => ?_) AllReadyH.nil
      go_simp
      (go_at_call 16; refine (working_any id H0.out.u OK.out).mono ?_; rintro e w1 ⟨rfl, hq⟩; rw [HW.out]; have H1 := Lib.hid (H0.out.quiet hq); clear hq; have hR := H1.out.row hk; obtain ⟨-, t1, t2, t3⟩ := hR.at hk; rw [HS.out] at t1; rw [HF.out] at t2; clear hR)
      refine hK.out _ _ (by (try dsimp only); first | exact ⟨by assumption, by assumption⟩ | go_keep) (fun hHeld => ?_)
      clear hK K
      (try simp only [Act.put, List.setIfInBounds_toArray, List.set_cons_zero, List.set_cons_succ])
      refine wpAnyH_take (i := 27) (oi := (Oper.mk (some 74) (Op.binOp BinOp.eql 4 (Operand.tmp 61) (Operand.tmp 73) 4) 4 "law.go:32" #[Edge.mk 14 Ground.data, Edge.mk 26 Ground.data, Edge.mk 11 Ground.guard] (some (11, true)))) (v := ?v27tcf22) rfl (by kernel_rfl) (by kernel_rfl) (by kernel_rfl) (fun _ _ _ h => h) (Or.inl ⟨by rfl, ?hy27tcf22⟩) (by assumption) ?rest27tcf22
      case hy27tcf22 => (intro w hSw; (try dsimp only at hSw); go_simp; first | done | with_reducible rfl)
      (try simp only [Act.put, List.setIfInBounds_toArray, List.set_cons_zero, List.set_cons_succ])
      refine wpAnyH_take (i := 28) (oi := (Oper.mk (some 75) (Op.pick (Operand.tmp 58) (Operand.tmp 74) (Operand.const (Value.bool false))) 4 "law.go:32" #[Edge.mk 11 Ground.data, Edge.mk 27 Ground.data] none)) (v := ?v28tcf22) rfl (by kernel_rfl) (by kernel_rfl) (by kernel_rfl) (fun _ _ _ h => h) (Or.inl ⟨by rfl, ?hy28tcf22⟩) (by assumption) ?rest28tcf22
      case hy28tcf22 => (intro w hSw; (try dsimp only at hSw); go_simp; first | done | with_reducible rfl)
      (try simp only [Act.put, List.setIfInBounds_toArray, List.set_cons_zero, List.set_cons_succ])
      refine wpAnyH_take (i := 29) (oi := (Oper.mk (some 76) (Op.move (Operand.tmp 75)) 4 "law.go:32" #[Edge.mk 28 Ground.data, Edge.mk 14 Ground.chain] none)) (v := ?v29tcf22) rfl (by kernel_rfl) (by kernel_rfl) (by kernel_rfl) (fun _ _ _ h => h) (Or.inl ⟨by rfl, ?hy29tcf22⟩) (by assumption) ?rest29tcf22
      case hy29tcf22 => (intro w hSw; (try dsimp only at hSw); go_simp; first | done | with_reducible rfl)
      (try simp only [Act.put, List.setIfInBounds_toArray, List.set_cons_zero, List.set_cons_succ])
      refine wpAnyH_take (i := 30) (oi := (Oper.mk (some 77) (Op.move (Operand.tmp 0)) 23 "law.go:32" #[Edge.mk 29 Ground.guard] (some (29, true)))) (v := ?v30tcf22) rfl (by kernel_rfl) (by kernel_rfl) (by kernel_rfl) (fun _ _ _ h => h) (Or.inl ⟨by rfl, ?hy30tcf22⟩) (by assumption) ?rest30tcf22
      case hy30tcf22 => (intro w hSw; (try dsimp only at hSw); go_simp; first | done | with_reducible rfl)
      (try simp only [Act.put, List.setIfInBounds_toArray, List.set_cons_zero, List.set_cons_succ])
      refine wpAnyH_take (i := 32) (oi := (Oper.mk (some 79) (Op.move (Operand.tmp 1)) 43 "law.go:32" #[Edge.mk 29 Ground.guard] (some (29, true)))) (v := ?v32tcf22) rfl (by kernel_rfl) (by kernel_rfl) (by kernel_rfl) (fun _ _ _ h => h) (Or.inl ⟨by rfl, ?hy32tcf22⟩) (by assumption) ?rest32tcf22
      case hy32tcf22 => (intro w hSw; (try dsimp only at hSw); go_simp; first | done | with_reducible rfl)
      (try simp only [Act.put, List.setIfInBounds_toArray, List.set_cons_zero, List.set_cons_succ])
      refine wpAnyH_ready (rs := [31]) (by kernel_rfl) (by simp) ?_
      refine AllReadyH.cons (o := (Oper.mk (some 78) (Op.call (Call.mk (Callee.value (Operand.func 12)) #[Operand.tmp 77] #[23])) 30 "law.go:32" #[Edge.mk 30 Ground.data, Edge.mk 29 Ground.chain, Edge.mk 29 Ground.guard] (some (29, true)))) rfl (fun K hK => ?_) AllReadyH.nil
      go_simp
      (go_at_call 12; refine (broken_any H1.out.u OK.out).mono ?_; intro e w2 h; obtain ⟨a2, c2, rfl, hV, -, hB⟩ := h.list; have H2 := Lib.hid (H1.out.below hB); have V2 := Lib.hid hV; clear h hV hB; have hR := H2.out.row hk; obtain ⟨-, t1, t2, t3⟩ := hR.at hk; rw [HS.out] at t1; rw [HF.out] at t2; clear hR)
      refine hK.out _ _ (by (try dsimp only); first | exact ⟨by assumption, by assumption⟩ | go_keep) (fun hHeld => ?_)
      clear hK K
      (try simp only [Act.put, List.setIfInBounds_toArray, List.set_cons_zero, List.set_cons_succ])
      refine wpAnyH_ready (rs := [33]) (by kernel_rfl) (by simp) ?_
      refine AllReadyH.cons (o := (Oper.mk (some 80) (Op.call (Call.mk (Callee.value (Operand.func 31)) #[Operand.tmp 79] #[43])) 30 "law.go:32" #[Edge.mk 32 Ground.data, Edge.mk 31 Ground.chain, Edge.mk 29 Ground.guard] (some (29, true)))) rfl (fun K hK => ?_) AllReadyH.nil
      go_simp
      (go_at_call 31; refine (rbroken_any c H2.out.r OK.out).mono ?_; intro e w3 h; obtain ⟨a3, c3, rfl, hV, -, hB⟩ := h.list; have H3 := Lib.hid (H2.out.below hB); have V3 := Lib.hid hV; have V2 := Lib.hid (V2.out.below hB (Nat.le_refl _)); clear h hV hB; have hR := H3.out.row hk; obtain ⟨-, t1, t2, t3⟩ := hR.at hk; rw [HS.out] at t1; rw [HF.out] at t2; clear hR)
      refine hK.out _ _ (by (try dsimp only); first | exact ⟨by assumption, by assumption⟩ | go_keep) (fun hHeld => ?_)
      clear hK K
      (try simp only [Act.put, List.setIfInBounds_toArray, List.set_cons_zero, List.set_cons_succ])
      refine wpAnyH_ready (rs := [34]) (by kernel_rfl) (by simp) ?_
      refine AllReadyH.cons (o := (Oper.mk (some 81) (Op.call (Call.mk (Callee.value (Operand.func 10)) #[Operand.tmp 78, Operand.tmp 80] #[30, 30])) 4 "law.go:32" #[Edge.mk 31 Ground.data, Edge.mk 33 Ground.data, Edge.mk 33 Ground.chain, Edge.mk 29 Ground.guard] (some (29, true)))) rfl (fun K hK => ?_) AllReadyH.nil
      go_simp
      (go_at_call 10; refine (ints_any (la := brokenS us) (lb := brokenS us) c2 c3 V2.out V3.out hbl).mono ?_; rintro e w4 ⟨rfl, hq⟩; rw [decide_eq_true (rfl : brokenS us = brokenS us)]; have H4 := Lib.hid (H3.out.quiet hq); clear hq; have hR := H4.out.row hk; obtain ⟨-, t1, t2, t3⟩ := hR.at hk; rw [HS.out] at t1; rw [HF.out] at t2; clear hR)
      refine hK.out _ _ (by (try dsimp only); first | exact ⟨by assumption, by assumption⟩ | go_keep) (fun hHeld => ?_)
      clear hK K
      (try simp only [Act.put, List.setIfInBounds_toArray, List.set_cons_zero, List.set_cons_succ])
      refine wpAnyH_take (i := 35) (oi := (Oper.mk (some 82) (Op.pick (Operand.tmp 76) (Operand.tmp 81) (Operand.const (Value.bool false))) 4 "law.go:32" #[Edge.mk 29 Ground.data, Edge.mk 34 Ground.data] none)) (v := ?v35tcf22) rfl (by kernel_rfl) (by kernel_rfl) (by kernel_rfl) (fun _ _ _ h => h) (Or.inl ⟨by rfl, ?hy35tcf22⟩) (by assumption) ?rest35tcf22
      case hy35tcf22 => (intro w hSw; (try dsimp only at hSw); go_simp; first | done | with_reducible rfl)
      (try simp only [Act.put, List.setIfInBounds_toArray, List.set_cons_zero, List.set_cons_succ])
      refine wpAnyH_take (i := 36) (oi := (Oper.mk (some 83) (Op.move (Operand.tmp 82)) 4 "law.go:32" #[Edge.mk 35 Ground.data, Edge.mk 34 Ground.chain] none)) (v := ?v36tcf22) rfl (by kernel_rfl) (by kernel_rfl) (by kernel_rfl) (fun _ _ _ h => h) (Or.inl ⟨by rfl, ?hy36tcf22⟩) (by assumption) ?rest36tcf22
      case hy36tcf22 => (intro w hSw; (try dsimp only at hSw); go_simp; first | done | with_reducible rfl)
      (try simp only [Act.put, List.setIfInBounds_toArray, List.set_cons_zero, List.set_cons_succ])
      refine wpAnyH_take (i := 37) (oi := (Oper.mk (some 84) (Op.move (Operand.tmp 0)) 23 "law.go:32" #[Edge.mk 36 Ground.guard] (some (36, true)))) (v := ?v37tcf22) rfl (by kernel_rfl) (by kernel_rfl) (by kernel_rfl) (fun _ _ _ h => h) (Or.inl ⟨by rfl, ?hy37tcf22⟩) (by assumption) ?rest37tcf22
      case hy37tcf22 => (intro w hSw; (try dsimp only at hSw); go_simp; first | done | with_reducible rfl)
      (try simp only [Act.put, List.setIfInBounds_toArray, List.set_cons_zero, List.set_cons_succ])
      refine wpAnyH_take (i := 39) (oi := (Oper.mk (some 86) (Op.move (Operand.tmp 1)) 43 "law.go:32" #[Edge.mk 36 Ground.guard] (some (36, true)))) (v := ?v39tcf22) rfl (by kernel_rfl) (by kernel_rfl) (by kernel_rfl) (fun _ _ _ h => h) (Or.inl ⟨by rfl, ?hy39tcf22⟩) (by assumption) ?rest39tcf22
      case hy39tcf22 => (intro w hSw; (try dsimp only at hSw); go_simp; first | done | with_reducible rfl)
      (try simp only [Act.put, List.setIfInBounds_toArray, List.set_cons_zero, List.set_cons_succ])
      refine wpAnyH_ready (rs := [38]) (by kernel_rfl) (by simp) ?_
      refine AllReadyH.cons (o := (Oper.mk (some 85) (Op.call (Call.mk (Callee.value (Operand.func 11)) #[Operand.tmp 84] #[23])) 30 "law.go:32" #[Edge.mk 37 Ground.data, Edge.mk 36 Ground.chain, Edge.mk 36 Ground.guard] (some (36, true)))) rfl (fun K hK => ?_) AllReadyH.nil
      go_simp
      (go_at_call 11; refine (sides_any H4.out.u).mono ?_; intro e w5 h; obtain ⟨a5, c5, rfl, hV, -, hB⟩ := h.list; have H5 := Lib.hid (H4.out.below hB); have V5 := Lib.hid hV; clear h hV hB; have hR := H5.out.row hk; obtain ⟨-, t1, t2, t3⟩ := hR.at hk; rw [HS.out] at t1; rw [HF.out] at t2; clear hR)
      refine hK.out _ _ (by (try dsimp only); first | exact ⟨by assumption, by assumption⟩ | go_keep) (fun hHeld => ?_)
      clear hK K
      (try simp only [Act.put, List.setIfInBounds_toArray, List.set_cons_zero, List.set_cons_succ])
      refine wpAnyH_ready (rs := [40]) (by kernel_rfl) (by simp) ?_
      refine AllReadyH.cons (o := (Oper.mk (some 87) (Op.call (Call.mk (Callee.value (Operand.func 32)) #[Operand.tmp 86] #[43])) 30 "law.go:32" #[Edge.mk 39 Ground.data, Edge.mk 38 Ground.chain, Edge.mk 36 Ground.guard] (some (36, true)))) rfl (fun K hK => ?_) AllReadyH.nil
      go_simp
      (go_at_call 32; refine (rsides_any c H5.out.r).mono ?_; intro e w6 h; obtain ⟨a6, c6, rfl, hV, -, hB⟩ := h.list; have H6 := Lib.hid (H5.out.below hB); have V6 := Lib.hid hV; have V5 := Lib.hid (V5.out.below hB (Nat.le_refl _)); clear h hV hB; have hR := H6.out.row hk; obtain ⟨-, t1, t2, t3⟩ := hR.at hk; rw [HS.out] at t1; rw [HF.out] at t2; clear hR)
      refine hK.out _ _ (by (try dsimp only); first | exact ⟨by assumption, by assumption⟩ | go_keep) (fun hHeld => ?_)
      clear hK K
      (try simp only [Act.put, List.setIfInBounds_toArray, List.set_cons_zero, List.set_cons_succ])
      refine wpAnyH_ready (rs := [41]) (by kernel_rfl) (by simp) ?_
      refine AllReadyH.cons (o := (Oper.mk (some 88) (Op.call (Call.mk (Callee.value (Operand.func 10)) #[Operand.tmp 85, Operand.tmp 87] #[30, 30])) 4 "law.go:32" #[Edge.mk 38 Ground.data, Edge.mk 40 Ground.data, Edge.mk 40 Ground.chain, Edge.mk 36 Ground.guard] (some (36, true)))) rfl (fun K hK => ?_) AllReadyH.nil
      go_simp
      (go_at_call 10; refine (ints_any (la := sidesS us) (lb := sidesS us) c5 c6 V5.out V6.out hsl).mono ?_; rintro e w7 ⟨rfl, hq⟩; rw [decide_eq_true (rfl : sidesS us = sidesS us)]; have H7 := Lib.hid (H6.out.quiet hq); clear hq; have hR := H7.out.row hk; obtain ⟨-, t1, t2, t3⟩ := hR.at hk; rw [HS.out] at t1; rw [HF.out] at t2; clear hR)
      refine hK.out _ _ (by (try dsimp only); first | exact ⟨by assumption, by assumption⟩ | go_keep) (fun hHeld => ?_)
      clear hK K
      (try simp only [Act.put, List.setIfInBounds_toArray, List.set_cons_zero, List.set_cons_succ])
      refine wpAnyH_take (i := 42) (oi := (Oper.mk (some 89) (Op.pick (Operand.tmp 83) (Operand.tmp 88) (Operand.const (Value.bool false))) 4 "law.go:32" #[Edge.mk 36 Ground.data, Edge.mk 41 Ground.data] none)) (v := ?v42tcf22) rfl (by kernel_rfl) (by kernel_rfl) (by kernel_rfl) (fun _ _ _ h => h) (Or.inl ⟨by rfl, ?hy42tcf22⟩) (by assumption) ?rest42tcf22
      case hy42tcf22 => (intro w hSw; (try dsimp only at hSw); go_simp; first | done | with_reducible rfl)
      (try simp only [Act.put, List.setIfInBounds_toArray, List.set_cons_zero, List.set_cons_succ])
      refine wpAnyH_take (i := 43) (oi := (Oper.mk (some 6) (Op.assign (Operand.tmp 89)) 4 "law.go:32" #[Edge.mk 42 Ground.data, Edge.mk 41 Ground.chain, Edge.mk 0 Ground.phase, Edge.mk 1 Ground.phase, Edge.mk 2 Ground.phase, Edge.mk 3 Ground.phase, Edge.mk 4 Ground.phase, Edge.mk 5 Ground.phase, Edge.mk 6 Ground.phase, Edge.mk 7 Ground.phase, Edge.mk 8 Ground.phase, Edge.mk 9 Ground.phase, Edge.mk 10 Ground.phase, Edge.mk 11 Ground.phase, Edge.mk 12 Ground.phase, Edge.mk 13 Ground.phase, Edge.mk 14 Ground.phase, Edge.mk 15 Ground.phase, Edge.mk 16 Ground.phase, Edge.mk 17 Ground.phase, Edge.mk 18 Ground.phase, Edge.mk 19 Ground.phase, Edge.mk 20 Ground.phase, Edge.mk 21 Ground.phase, Edge.mk 22 Ground.phase, Edge.mk 23 Ground.phase, Edge.mk 24 Ground.phase, Edge.mk 25 Ground.phase, Edge.mk 26 Ground.phase, Edge.mk 27 Ground.phase, Edge.mk 28 Ground.phase, Edge.mk 29 Ground.phase, Edge.mk 30 Ground.phase, Edge.mk 31 Ground.phase, Edge.mk 32 Ground.phase, Edge.mk 33 Ground.phase, Edge.mk 34 Ground.phase, Edge.mk 35 Ground.phase, Edge.mk 36 Ground.phase, Edge.mk 37 Ground.phase, Edge.mk 38 Ground.phase, Edge.mk 39 Ground.phase, Edge.mk 40 Ground.phase, Edge.mk 41 Ground.phase, Edge.mk 42 Ground.phase] none)) (v := ?v43tcf22) rfl (by kernel_rfl) (by kernel_rfl) (by kernel_rfl) (fun _ _ _ h => h) (Or.inl ⟨by rfl, ?hy43tcf22⟩) (by assumption) ?rest43tcf22
      case hy43tcf22 => (intro w hSw; (try dsimp only at hSw); go_simp; first | done | with_reducible rfl)
      (try simp only [Act.put, List.setIfInBounds_toArray, List.set_cons_zero, List.set_cons_succ])
      refine wpAnyH_done (by kernel_rfl) ?_ _
      go_wp2_with fail
      go_ret
      exact ⟨rfl, H7.out.b⟩
    · have hd : us[k].dead = us[k].f1 := by simp [U.dead, hs]
      rw [hs] at HA
      rw [hd] at HW
      generalize hf : us[k].f1 = d at HW
      clear hd
      go_enter Try.func19, Try.ntmps19
      go_wp2_with fail
      refine (active_any id H0.out.u).mono ?_
      rintro e w0 ⟨rfl, rfl⟩
      rw [HA.out]
      go_wp2_with fail
      refine (rfind_any c id H0.out.r).mono ?_
      rintro e w' ⟨rfl, rfl⟩
      rw [hp]
      simp only [idxI]
      have HF := Lib.hid hf
      have HS := Lib.hid hs
      clear hp hf hs
      go_wp2_with fail
      have H0 := Lib.hid (show Ag w' w'.drew b g cap (some ⟨gr, 0, none⟩) us from H0.out.quiet ⟨1, rfl⟩)
      have hR := H0.out.row hk
      obtain ⟨-, s1, s2, s3⟩ := hR.at hk
      have hgl := hR.lt
      rw [HS.out] at s1
      rw [HF.out] at s3
      clear hR
      refine wp_region_held_drew (S := (fun w' => w'.cell? ⟨gr, k * 4 + 1, none⟩ = some (.int .i64 1) ∧ w'.cell? ⟨gr, k * 4 + 3, none⟩ = some (.bool d))) (by kernel_rfl) (by (try dsimp only); first | exact ⟨by assumption, by assumption⟩ | go_keep) (fun hHeld => ?_)
      refine wpAnyH_take (i := 0) (oi := (Oper.mk (some 47) (Op.move (Operand.tmp 7)) 3 "law.go:32" #[] none)) (v := ?v0t3bdb) rfl (by kernel_rfl) (by kernel_rfl) (by kernel_rfl) (fun _ _ _ h => h) (Or.inl ⟨by rfl, ?hy0t3bdb⟩) (by assumption) ?rest0t3bdb
      case hy0t3bdb => (intro w hSw; (try dsimp only at hSw); go_simp; first | done | with_reducible rfl)
      (try simp only [Act.put, List.setIfInBounds_toArray, List.set_cons_zero, List.set_cons_succ])
      refine wpAnyH_take (i := 1) (oi := (Oper.mk (some 48) (Op.move (Operand.tmp 1)) 43 "law.go:32" #[] none)) (v := ?v1t3bdb) rfl (by kernel_rfl) (by kernel_rfl) (by kernel_rfl) (fun _ _ _ h => h) (Or.inl ⟨by rfl, ?hy1t3bdb⟩) (by assumption) ?rest1t3bdb
      case hy1t3bdb => (intro w hSw; (try dsimp only at hSw); go_simp; first | done | with_reducible rfl)
      (try simp only [Act.put, List.setIfInBounds_toArray, List.set_cons_zero, List.set_cons_succ])
      refine wpAnyH_take (i := 2) (oi := (Oper.mk (some 49) (Op.move (Operand.tmp 9)) 3 "law.go:32" #[] none)) (v := ?v2t3bdb) rfl (by kernel_rfl) (by kernel_rfl) (by kernel_rfl) (fun _ _ _ h => h) (Or.inl ⟨by rfl, ?hy2t3bdb⟩) (by assumption) ?rest2t3bdb
      case hy2t3bdb => (intro w hSw; (try dsimp only at hSw); go_simp; first | done | with_reducible rfl)
      (try simp only [Act.put, List.setIfInBounds_toArray, List.set_cons_zero, List.set_cons_succ])
      refine wpAnyH_take (i := 3) (oi := (Oper.mk (some 50) (Op.indexAddr 43 (Operand.tmp 48) (Operand.tmp 49)) 0 "law.go:32" #[Edge.mk 1 Ground.data, Edge.mk 2 Ground.data] none)) (v := ?v3t3bdb) rfl (by kernel_rfl) (by kernel_rfl) (by kernel_rfl) (fun _ _ _ h => h) (Or.inl ⟨by rfl, ?hy3t3bdb⟩) (by assumption) ?rest3t3bdb
      case hy3t3bdb => (intro w hSw; (try dsimp only at hSw); go_simp; first | done | with_reducible rfl)
      (try simp only [Act.put, List.setIfInBounds_toArray, List.set_cons_zero, List.set_cons_succ])
      refine wpAnyH_take (i := 4) (oi := (Oper.mk (some 51) (Op.fieldAddr 67 (Operand.tmp 50) 1) 0 "law.go:32" #[Edge.mk 3 Ground.data] none)) (v := ?v4t3bdb) rfl (by kernel_rfl) (by kernel_rfl) (by kernel_rfl) (fun _ _ _ h => h) (Or.inl ⟨by rfl, ?hy4t3bdb⟩) (by assumption) ?rest4t3bdb
      case hy4t3bdb => (intro w hSw; (try dsimp only at hSw); go_simp; first | done | with_reducible rfl)
      (try simp only [Act.put, List.setIfInBounds_toArray, List.set_cons_zero, List.set_cons_succ])
      refine wpAnyH_take (i := 5) (oi := (Oper.mk (some 52) (Op.load 3 (Operand.tmp 51)) 3 "law.go:32" #[Edge.mk 4 Ground.data] none)) (v := ?v5t3bdb) rfl (by kernel_rfl) (by kernel_rfl) (by kernel_rfl) (fun _ _ _ h => h) (Or.inl ⟨by rfl, ?hy5t3bdb⟩) (by assumption) ?rest5t3bdb
      case hy5t3bdb => (intro w hSw; (try dsimp only at hSw); go_simp; first | done | with_reducible rfl)
      (try simp only [Act.put, List.setIfInBounds_toArray, List.set_cons_zero, List.set_cons_succ])
      refine wpAnyH_take (i := 6) (oi := (Oper.mk (some 53) (Op.binOp BinOp.eql 3 (Operand.tmp 47) (Operand.tmp 52) 3) 4 "law.go:32" #[Edge.mk 0 Ground.data, Edge.mk 5 Ground.data] none)) (v := ?v6t3bdb) rfl (by kernel_rfl) (by kernel_rfl) (by kernel_rfl) (fun _ _ _ h => h) (Or.inl ⟨by rfl, ?hy6t3bdb⟩) (by assumption) ?rest6t3bdb
      case hy6t3bdb => (intro w hSw; (try dsimp only at hSw); go_simp; first | done | with_reducible rfl)
      (try simp only [Act.put, List.setIfInBounds_toArray, List.set_cons_zero, List.set_cons_succ])
      refine wpAnyH_take (i := 7) (oi := (Oper.mk (some 54) (Op.move (Operand.tmp 53)) 4 "law.go:32" #[Edge.mk 6 Ground.data] none)) (v := ?v7t3bdb) rfl (by kernel_rfl) (by kernel_rfl) (by kernel_rfl) (fun _ _ _ h => h) (Or.inl ⟨by rfl, ?hy7t3bdb⟩) (by assumption) ?rest7t3bdb
      case hy7t3bdb => (intro w hSw; (try dsimp only at hSw); go_simp; first | done | with_reducible rfl)
      (try simp only [Act.put, List.setIfInBounds_toArray, List.set_cons_zero, List.set_cons_succ])
      refine wpAnyH_take (i := 8) (oi := (Oper.mk (some 55) (Op.move (Operand.tmp 8)) 24 "law.go:32" #[Edge.mk 7 Ground.guard] (some (7, true)))) (v := ?v8t3bdb) rfl (by kernel_rfl) (by kernel_rfl) (by kernel_rfl) (fun _ _ _ h => h) (Or.inl ⟨by rfl, ?hy8t3bdb⟩) (by assumption) ?rest8t3bdb
      case hy8t3bdb => (intro w hSw; (try dsimp only at hSw); go_simp; first | done | with_reducible rfl)
      (try simp only [Act.put, List.setIfInBounds_toArray, List.set_cons_zero, List.set_cons_succ])
      refine wpAnyH_take (i := 9) (oi := (Oper.mk (some 56) (Op.binOp BinOp.eql 24 (Operand.tmp 55) (Operand.const (Value.int IntKind.i64 0)) 24) 4 "law.go:32" #[Edge.mk 8 Ground.data, Edge.mk 7 Ground.guard] (some (7, true)))) (v := ?v9t3bdb) rfl (by kernel_rfl) (by kernel_rfl) (by kernel_rfl) (fun _ _ _ h => h) (Or.inl ⟨by rfl, ?hy9t3bdb⟩) (by assumption) ?rest9t3bdb
      case hy9t3bdb => (intro w hSw; (try dsimp only at hSw); go_simp; first | done | with_reducible rfl)
      (try simp only [Act.put, List.setIfInBounds_toArray, List.set_cons_zero, List.set_cons_succ])
      refine wpAnyH_take (i := 10) (oi := (Oper.mk (some 57) (Op.pick (Operand.tmp 54) (Operand.tmp 56) (Operand.const (Value.bool false))) 4 "law.go:32" #[Edge.mk 7 Ground.data, Edge.mk 9 Ground.data] none)) (v := ?v10t3bdb) rfl (by kernel_rfl) (by kernel_rfl) (by kernel_rfl) (fun _ _ _ h => h) (Or.inl ⟨by rfl, ?hy10t3bdb⟩) (by assumption) ?rest10t3bdb
      case hy10t3bdb => (intro w hSw; (try dsimp only at hSw); go_simp; first | done | with_reducible rfl)
      (try simp only [Act.put, List.setIfInBounds_toArray, List.set_cons_zero, List.set_cons_succ])
      refine wpAnyH_take (i := 11) (oi := (Oper.mk (some 58) (Op.move (Operand.tmp 57)) 4 "law.go:32" #[Edge.mk 10 Ground.data, Edge.mk 7 Ground.chain] none)) (v := ?v11t3bdb) rfl (by kernel_rfl) (by kernel_rfl) (by kernel_rfl) (fun _ _ _ h => h) (Or.inl ⟨by rfl, ?hy11t3bdb⟩) (by assumption) ?rest11t3bdb
      case hy11t3bdb => (intro w hSw; (try dsimp only at hSw); go_simp; first | done | with_reducible rfl)
      (try simp only [Act.put, List.setIfInBounds_toArray, List.set_cons_zero, List.set_cons_succ])
      refine wpAnyH_take (i := 12) (oi := (Oper.mk (some 59) (Op.move (Operand.tmp 0)) 23 "law.go:32" #[Edge.mk 11 Ground.guard] (some (11, true)))) (v := ?v12t3bdb) rfl (by kernel_rfl) (by kernel_rfl) (by kernel_rfl) (fun _ _ _ h => h) (Or.inl ⟨by rfl, ?hy12t3bdb⟩) (by assumption) ?rest12t3bdb
      case hy12t3bdb => (intro w hSw; (try dsimp only at hSw); go_simp; first | done | with_reducible rfl)
      (try simp only [Act.put, List.setIfInBounds_toArray, List.set_cons_zero, List.set_cons_succ])
      refine wpAnyH_take (i := 13) (oi := (Oper.mk (some 60) (Op.move (Operand.tmp 2)) 3 "law.go:32" #[Edge.mk 11 Ground.guard] (some (11, true)))) (v := ?v13t3bdb) rfl (by kernel_rfl) (by kernel_rfl) (by kernel_rfl) (fun _ _ _ h => h) (Or.inl ⟨by rfl, ?hy13t3bdb⟩) (by assumption) ?rest13t3bdb
      case hy13t3bdb => (intro w hSw; (try dsimp only at hSw); go_simp; first | done | with_reducible rfl)
      (try simp only [Act.put, List.setIfInBounds_toArray, List.set_cons_zero, List.set_cons_succ])
      refine wpAnyH_take (i := 15) (oi := (Oper.mk (some 62) (Op.move (Operand.tmp 1)) 43 "law.go:32" #[Edge.mk 11 Ground.guard] (some (11, true)))) (v := ?v15t3bdb) rfl (by kernel_rfl) (by kernel_rfl) (by kernel_rfl) (fun _ _ _ h => h) (Or.inl ⟨by rfl, ?hy15t3bdb⟩) (by assumption) ?rest15t3bdb
      case hy15t3bdb => (intro w hSw; (try dsimp only at hSw); go_simp; first | done | with_reducible rfl)
      (try simp only [Act.put, List.setIfInBounds_toArray, List.set_cons_zero, List.set_cons_succ])
      refine wpAnyH_take (i := 16) (oi := (Oper.mk (some 63) (Op.move (Operand.tmp 9)) 3 "law.go:32" #[Edge.mk 11 Ground.guard] (some (11, true)))) (v := ?v16t3bdb) rfl (by kernel_rfl) (by kernel_rfl) (by kernel_rfl) (fun _ _ _ h => h) (Or.inl ⟨by rfl, ?hy16t3bdb⟩) (by assumption) ?rest16t3bdb
      case hy16t3bdb => (intro w hSw; (try dsimp only at hSw); go_simp; first | done | with_reducible rfl)
      (try simp only [Act.put, List.setIfInBounds_toArray, List.set_cons_zero, List.set_cons_succ])
      refine wpAnyH_take (i := 17) (oi := (Oper.mk (some 64) (Op.move (Operand.tmp 1)) 43 "law.go:32" #[Edge.mk 11 Ground.guard] (some (11, true)))) (v := ?v17t3bdb) rfl (by kernel_rfl) (by kernel_rfl) (by kernel_rfl) (fun _ _ _ h => h) (Or.inl ⟨by rfl, ?hy17t3bdb⟩) (by assumption) ?rest17t3bdb
      case hy17t3bdb => (intro w hSw; (try dsimp only at hSw); go_simp; first | done | with_reducible rfl)
      (try simp only [Act.put, List.setIfInBounds_toArray, List.set_cons_zero, List.set_cons_succ])
      refine wpAnyH_take (i := 18) (oi := (Oper.mk (some 65) (Op.move (Operand.tmp 9)) 3 "law.go:32" #[Edge.mk 11 Ground.guard] (some (11, true)))) (v := ?v18t3bdb) rfl (by kernel_rfl) (by kernel_rfl) (by kernel_rfl) (fun _ _ _ h => h) (Or.inl ⟨by rfl, ?hy18t3bdb⟩) (by assumption) ?rest18t3bdb
      case hy18t3bdb => (intro w hSw; (try dsimp only at hSw); go_simp; first | done | with_reducible rfl)
      (try simp only [Act.put, List.setIfInBounds_toArray, List.set_cons_zero, List.set_cons_succ])
      refine wpAnyH_take (i := 19) (oi := (Oper.mk (some 66) (Op.indexAddr 43 (Operand.tmp 64) (Operand.tmp 65)) 0 "law.go:32" #[Edge.mk 17 Ground.data, Edge.mk 18 Ground.data, Edge.mk 11 Ground.guard] (some (11, true)))) (v := ?v19t3bdb) rfl (by kernel_rfl) (by kernel_rfl) (by kernel_rfl) (fun _ _ _ h => h) (Or.inl ⟨by rfl, ?hy19t3bdb⟩) (by assumption) ?rest19t3bdb
      case hy19t3bdb => (intro w hSw; (try dsimp only at hSw); go_simp; first | done | with_reducible rfl)
      (try simp only [Act.put, List.setIfInBounds_toArray, List.set_cons_zero, List.set_cons_succ])
      refine wpAnyH_take (i := 20) (oi := (Oper.mk (some 67) (Op.fieldAddr 67 (Operand.tmp 66) 1) 0 "law.go:32" #[Edge.mk 19 Ground.data, Edge.mk 11 Ground.guard] (some (11, true)))) (v := ?v20t3bdb) rfl (by kernel_rfl) (by kernel_rfl) (by kernel_rfl) (fun _ _ _ h => h) (Or.inl ⟨by rfl, ?hy20t3bdb⟩) (by assumption) ?rest20t3bdb
      case hy20t3bdb => (intro w hSw; (try dsimp only at hSw); go_simp; first | done | with_reducible rfl)
      (try simp only [Act.put, List.setIfInBounds_toArray, List.set_cons_zero, List.set_cons_succ])
      refine wpAnyH_take (i := 21) (oi := (Oper.mk (some 68) (Op.load 3 (Operand.tmp 67)) 3 "law.go:32" #[Edge.mk 20 Ground.data, Edge.mk 11 Ground.guard] (some (11, true)))) (v := ?v21t3bdb) rfl (by kernel_rfl) (by kernel_rfl) (by kernel_rfl) (fun _ _ _ h => h) (Or.inl ⟨by rfl, ?hy21t3bdb⟩) (by assumption) ?rest21t3bdb
      case hy21t3bdb => (intro w hSw; (try dsimp only at hSw); go_simp; first | done | with_reducible rfl)
      (try simp only [Act.put, List.setIfInBounds_toArray, List.set_cons_zero, List.set_cons_succ])
      refine wpAnyH_take (i := 22) (oi := (Oper.mk (some 69) (Op.indexAddr 43 (Operand.tmp 62) (Operand.tmp 63)) 0 "law.go:32" #[Edge.mk 15 Ground.data, Edge.mk 16 Ground.data, Edge.mk 11 Ground.guard] (some (11, true)))) (v := ?v22t3bdb) rfl (by kernel_rfl) (by kernel_rfl) (by kernel_rfl) (fun _ _ _ h => h) (Or.inl ⟨by rfl, ?hy22t3bdb⟩) (by assumption) ?rest22t3bdb
      case hy22t3bdb => (intro w hSw; (try dsimp only at hSw); go_simp; first | done | with_reducible rfl)
      (try simp only [Act.put, List.setIfInBounds_toArray, List.set_cons_zero, List.set_cons_succ])
      refine wpAnyH_take (i := 23) (oi := (Oper.mk (some 70) (Op.fieldAddr 67 (Operand.tmp 69) 2) 0 "law.go:32" #[Edge.mk 22 Ground.data, Edge.mk 11 Ground.guard] (some (11, true)))) (v := ?v23t3bdb) rfl (by kernel_rfl) (by kernel_rfl) (by kernel_rfl) (fun _ _ _ h => h) (Or.inl ⟨by rfl, ?hy23t3bdb⟩) (by assumption) ?rest23t3bdb
      case hy23t3bdb => (intro w hSw; (try dsimp only at hSw); go_simp; first | done | with_reducible rfl)
      (try simp only [Act.put, List.setIfInBounds_toArray, List.set_cons_zero, List.set_cons_succ])
      refine wpAnyH_take (i := 24) (oi := (Oper.mk (some 71) (Op.indexAddr 58 (Operand.tmp 70) (Operand.tmp 68)) 0 "law.go:32" #[Edge.mk 23 Ground.data, Edge.mk 21 Ground.data, Edge.mk 11 Ground.guard] (some (11, true)))) (v := ?v24t3bdb) rfl (by kernel_rfl) (by kernel_rfl) (by kernel_rfl) (fun _ _ _ h => h) (Or.inl ⟨by rfl, ?hy24t3bdb⟩) (by assumption) ?rest24t3bdb
      case hy24t3bdb => (intro w hSw; (try dsimp only at hSw); go_simp; first | done | with_reducible rfl)
      (try simp only [Act.put, List.setIfInBounds_toArray, List.set_cons_zero, List.set_cons_succ])
      refine wpAnyH_take (i := 25) (oi := (Oper.mk (some 72) (Op.load 4 (Operand.tmp 71)) 4 "law.go:32" #[Edge.mk 24 Ground.data, Edge.mk 11 Ground.guard] (some (11, true)))) (v := ?v25t3bdb) rfl (by kernel_rfl) (by kernel_rfl) (by kernel_rfl) (fun _ _ _ h => h) (Or.inl ⟨by rfl, ?hy25t3bdb⟩) (by assumption) ?rest25t3bdb
      case hy25t3bdb => (intro w hSw; (try dsimp only at hSw); go_simp; first | done | with_reducible rfl)
      (try simp only [Act.put, List.setIfInBounds_toArray, List.set_cons_zero, List.set_cons_succ])
      refine wpAnyH_take (i := 26) (oi := (Oper.mk (some 73) (Op.unOp UnOp.not 4 (Operand.tmp 72)) 4 "law.go:32" #[Edge.mk 25 Ground.data, Edge.mk 11 Ground.guard] (some (11, true)))) (v := ?v26t3bdb) rfl (by kernel_rfl) (by kernel_rfl) (by kernel_rfl) (fun _ _ _ h => h) (Or.inl ⟨by rfl, ?hy26t3bdb⟩) (by assumption) ?rest26t3bdb
      case hy26t3bdb => (intro w hSw; (try dsimp only at hSw); go_simp; first | done | with_reducible rfl)
      (try simp only [Act.put, List.setIfInBounds_toArray, List.set_cons_zero, List.set_cons_succ])
      refine wpAnyH_ready (rs := [14]) (by kernel_rfl) (by simp) ?_
      refine AllReadyH.cons (o := (Oper.mk (some 61) (Op.call (Call.mk (Callee.value (Operand.func 16)) #[Operand.tmp 59, Operand.tmp 60] #[23, 3])) 4 "law.go:32" #[Edge.mk 12 Ground.data, Edge.mk 13 Ground.data, Edge.mk 11 Ground.chain, Edge.mk 11 Ground.guard] (some (11, true)))) rfl (fun K hK => ?_) AllReadyH.nil
      go_simp
      (go_at_call 16; refine (working_any id H0.out.u OK.out).mono ?_; rintro e w1 ⟨rfl, hq⟩; rw [HW.out]; have H1 := Lib.hid (H0.out.quiet hq); clear hq; have hR := H1.out.row hk; obtain ⟨-, t1, t2, t3⟩ := hR.at hk; rw [HS.out] at t1; rw [HF.out] at t3; clear hR)
      refine hK.out _ _ (by (try dsimp only); first | exact ⟨by assumption, by assumption⟩ | go_keep) (fun hHeld => ?_)
      clear hK K
      (try simp only [Act.put, List.setIfInBounds_toArray, List.set_cons_zero, List.set_cons_succ])
      refine wpAnyH_take (i := 27) (oi := (Oper.mk (some 74) (Op.binOp BinOp.eql 4 (Operand.tmp 61) (Operand.tmp 73) 4) 4 "law.go:32" #[Edge.mk 14 Ground.data, Edge.mk 26 Ground.data, Edge.mk 11 Ground.guard] (some (11, true)))) (v := ?v27t3bdb) rfl (by kernel_rfl) (by kernel_rfl) (by kernel_rfl) (fun _ _ _ h => h) (Or.inl ⟨by rfl, ?hy27t3bdb⟩) (by assumption) ?rest27t3bdb
      case hy27t3bdb => (intro w hSw; (try dsimp only at hSw); go_simp; first | done | with_reducible rfl)
      (try simp only [Act.put, List.setIfInBounds_toArray, List.set_cons_zero, List.set_cons_succ])
      refine wpAnyH_take (i := 28) (oi := (Oper.mk (some 75) (Op.pick (Operand.tmp 58) (Operand.tmp 74) (Operand.const (Value.bool false))) 4 "law.go:32" #[Edge.mk 11 Ground.data, Edge.mk 27 Ground.data] none)) (v := ?v28t3bdb) rfl (by kernel_rfl) (by kernel_rfl) (by kernel_rfl) (fun _ _ _ h => h) (Or.inl ⟨by rfl, ?hy28t3bdb⟩) (by assumption) ?rest28t3bdb
      case hy28t3bdb => (intro w hSw; (try dsimp only at hSw); go_simp; first | done | with_reducible rfl)
      (try simp only [Act.put, List.setIfInBounds_toArray, List.set_cons_zero, List.set_cons_succ])
      refine wpAnyH_take (i := 29) (oi := (Oper.mk (some 76) (Op.move (Operand.tmp 75)) 4 "law.go:32" #[Edge.mk 28 Ground.data, Edge.mk 14 Ground.chain] none)) (v := ?v29t3bdb) rfl (by kernel_rfl) (by kernel_rfl) (by kernel_rfl) (fun _ _ _ h => h) (Or.inl ⟨by rfl, ?hy29t3bdb⟩) (by assumption) ?rest29t3bdb
      case hy29t3bdb => (intro w hSw; (try dsimp only at hSw); go_simp; first | done | with_reducible rfl)
      (try simp only [Act.put, List.setIfInBounds_toArray, List.set_cons_zero, List.set_cons_succ])
      refine wpAnyH_take (i := 30) (oi := (Oper.mk (some 77) (Op.move (Operand.tmp 0)) 23 "law.go:32" #[Edge.mk 29 Ground.guard] (some (29, true)))) (v := ?v30t3bdb) rfl (by kernel_rfl) (by kernel_rfl) (by kernel_rfl) (fun _ _ _ h => h) (Or.inl ⟨by rfl, ?hy30t3bdb⟩) (by assumption) ?rest30t3bdb
      case hy30t3bdb => (intro w hSw; (try dsimp only at hSw); go_simp; first | done | with_reducible rfl)
      (try simp only [Act.put, List.setIfInBounds_toArray, List.set_cons_zero, List.set_cons_succ])
      refine wpAnyH_take (i := 32) (oi := (Oper.mk (some 79) (Op.move (Operand.tmp 1)) 43 "law.go:32" #[Edge.mk 29 Ground.guard] (some (29, true)))) (v := ?v32t3bdb) rfl (by kernel_rfl) (by kernel_rfl) (by kernel_rfl) (fun _ _ _ h => h) (Or.inl ⟨by rfl, ?hy32t3bdb⟩) (by assumption) ?rest32t3bdb
      case hy32t3bdb => (intro w hSw; (try dsimp only at hSw); go_simp; first | done | with_reducible rfl)
      (try simp only [Act.put, List.setIfInBounds_toArray, List.set_cons_zero, List.set_cons_succ])
      refine wpAnyH_ready (rs := [31]) (by kernel_rfl) (by simp) ?_
      refine AllReadyH.cons (o := (Oper.mk (some 78) (Op.call (Call.mk (Callee.value (Operand.func 12)) #[Operand.tmp 77] #[23])) 30 "law.go:32" #[Edge.mk 30 Ground.data, Edge.mk 29 Ground.chain, Edge.mk 29 Ground.guard] (some (29, true)))) rfl (fun K hK => ?_) AllReadyH.nil
      go_simp
      (go_at_call 12; refine (broken_any H1.out.u OK.out).mono ?_; intro e w2 h; obtain ⟨a2, c2, rfl, hV, -, hB⟩ := h.list; have H2 := Lib.hid (H1.out.below hB); have V2 := Lib.hid hV; clear h hV hB; have hR := H2.out.row hk; obtain ⟨-, t1, t2, t3⟩ := hR.at hk; rw [HS.out] at t1; rw [HF.out] at t3; clear hR)
      refine hK.out _ _ (by (try dsimp only); first | exact ⟨by assumption, by assumption⟩ | go_keep) (fun hHeld => ?_)
      clear hK K
      (try simp only [Act.put, List.setIfInBounds_toArray, List.set_cons_zero, List.set_cons_succ])
      refine wpAnyH_ready (rs := [33]) (by kernel_rfl) (by simp) ?_
      refine AllReadyH.cons (o := (Oper.mk (some 80) (Op.call (Call.mk (Callee.value (Operand.func 31)) #[Operand.tmp 79] #[43])) 30 "law.go:32" #[Edge.mk 32 Ground.data, Edge.mk 31 Ground.chain, Edge.mk 29 Ground.guard] (some (29, true)))) rfl (fun K hK => ?_) AllReadyH.nil
      go_simp
      (go_at_call 31; refine (rbroken_any c H2.out.r OK.out).mono ?_; intro e w3 h; obtain ⟨a3, c3, rfl, hV, -, hB⟩ := h.list; have H3 := Lib.hid (H2.out.below hB); have V3 := Lib.hid hV; have V2 := Lib.hid (V2.out.below hB (Nat.le_refl _)); clear h hV hB; have hR := H3.out.row hk; obtain ⟨-, t1, t2, t3⟩ := hR.at hk; rw [HS.out] at t1; rw [HF.out] at t3; clear hR)
      refine hK.out _ _ (by (try dsimp only); first | exact ⟨by assumption, by assumption⟩ | go_keep) (fun hHeld => ?_)
      clear hK K
      (try simp only [Act.put, List.setIfInBounds_toArray, List.set_cons_zero, List.set_cons_succ])
      refine wpAnyH_ready (rs := [34]) (by kernel_rfl) (by simp) ?_
      refine AllReadyH.cons (o := (Oper.mk (some 81) (Op.call (Call.mk (Callee.value (Operand.func 10)) #[Operand.tmp 78, Operand.tmp 80] #[30, 30])) 4 "law.go:32" #[Edge.mk 31 Ground.data, Edge.mk 33 Ground.data, Edge.mk 33 Ground.chain, Edge.mk 29 Ground.guard] (some (29, true)))) rfl (fun K hK => ?_) AllReadyH.nil
      go_simp
      (go_at_call 10; refine (ints_any (la := brokenS us) (lb := brokenS us) c2 c3 V2.out V3.out hbl).mono ?_; rintro e w4 ⟨rfl, hq⟩; rw [decide_eq_true (rfl : brokenS us = brokenS us)]; have H4 := Lib.hid (H3.out.quiet hq); clear hq; have hR := H4.out.row hk; obtain ⟨-, t1, t2, t3⟩ := hR.at hk; rw [HS.out] at t1; rw [HF.out] at t3; clear hR)
      refine hK.out _ _ (by (try dsimp only); first | exact ⟨by assumption, by assumption⟩ | go_keep) (fun hHeld => ?_)
      clear hK K
      (try simp only [Act.put, List.setIfInBounds_toArray, List.set_cons_zero, List.set_cons_succ])
      refine wpAnyH_take (i := 35) (oi := (Oper.mk (some 82) (Op.pick (Operand.tmp 76) (Operand.tmp 81) (Operand.const (Value.bool false))) 4 "law.go:32" #[Edge.mk 29 Ground.data, Edge.mk 34 Ground.data] none)) (v := ?v35t3bdb) rfl (by kernel_rfl) (by kernel_rfl) (by kernel_rfl) (fun _ _ _ h => h) (Or.inl ⟨by rfl, ?hy35t3bdb⟩) (by assumption) ?rest35t3bdb
      case hy35t3bdb => (intro w hSw; (try dsimp only at hSw); go_simp; first | done | with_reducible rfl)
      (try simp only [Act.put, List.setIfInBounds_toArray, List.set_cons_zero, List.set_cons_succ])
      refine wpAnyH_take (i := 36) (oi := (Oper.mk (some 83) (Op.move (Operand.tmp 82)) 4 "law.go:32" #[Edge.mk 35 Ground.data, Edge.mk 34 Ground.chain] none)) (v := ?v36t3bdb) rfl (by kernel_rfl) (by kernel_rfl) (by kernel_rfl) (fun _ _ _ h => h) (Or.inl ⟨by rfl, ?hy36t3bdb⟩) (by assumption) ?rest36t3bdb
      case hy36t3bdb => (intro w hSw; (try dsimp only at hSw); go_simp; first | done | with_reducible rfl)
      (try simp only [Act.put, List.setIfInBounds_toArray, List.set_cons_zero, List.set_cons_succ])
      refine wpAnyH_take (i := 37) (oi := (Oper.mk (some 84) (Op.move (Operand.tmp 0)) 23 "law.go:32" #[Edge.mk 36 Ground.guard] (some (36, true)))) (v := ?v37t3bdb) rfl (by kernel_rfl) (by kernel_rfl) (by kernel_rfl) (fun _ _ _ h => h) (Or.inl ⟨by rfl, ?hy37t3bdb⟩) (by assumption) ?rest37t3bdb
      case hy37t3bdb => (intro w hSw; (try dsimp only at hSw); go_simp; first | done | with_reducible rfl)
      (try simp only [Act.put, List.setIfInBounds_toArray, List.set_cons_zero, List.set_cons_succ])
      refine wpAnyH_take (i := 39) (oi := (Oper.mk (some 86) (Op.move (Operand.tmp 1)) 43 "law.go:32" #[Edge.mk 36 Ground.guard] (some (36, true)))) (v := ?v39t3bdb) rfl (by kernel_rfl) (by kernel_rfl) (by kernel_rfl) (fun _ _ _ h => h) (Or.inl ⟨by rfl, ?hy39t3bdb⟩) (by assumption) ?rest39t3bdb
      case hy39t3bdb => (intro w hSw; (try dsimp only at hSw); go_simp; first | done | with_reducible rfl)
      (try simp only [Act.put, List.setIfInBounds_toArray, List.set_cons_zero, List.set_cons_succ])
      refine wpAnyH_ready (rs := [38]) (by kernel_rfl) (by simp) ?_
      refine AllReadyH.cons (o := (Oper.mk (some 85) (Op.call (Call.mk (Callee.value (Operand.func 11)) #[Operand.tmp 84] #[23])) 30 "law.go:32" #[Edge.mk 37 Ground.data, Edge.mk 36 Ground.chain, Edge.mk 36 Ground.guard] (some (36, true)))) rfl (fun K hK => ?_) AllReadyH.nil
      go_simp
      (go_at_call 11; refine (sides_any H4.out.u).mono ?_; intro e w5 h; obtain ⟨a5, c5, rfl, hV, -, hB⟩ := h.list; have H5 := Lib.hid (H4.out.below hB); have V5 := Lib.hid hV; clear h hV hB; have hR := H5.out.row hk; obtain ⟨-, t1, t2, t3⟩ := hR.at hk; rw [HS.out] at t1; rw [HF.out] at t3; clear hR)
      refine hK.out _ _ (by (try dsimp only); first | exact ⟨by assumption, by assumption⟩ | go_keep) (fun hHeld => ?_)
      clear hK K
      (try simp only [Act.put, List.setIfInBounds_toArray, List.set_cons_zero, List.set_cons_succ])
      refine wpAnyH_ready (rs := [40]) (by kernel_rfl) (by simp) ?_
      refine AllReadyH.cons (o := (Oper.mk (some 87) (Op.call (Call.mk (Callee.value (Operand.func 32)) #[Operand.tmp 86] #[43])) 30 "law.go:32" #[Edge.mk 39 Ground.data, Edge.mk 38 Ground.chain, Edge.mk 36 Ground.guard] (some (36, true)))) rfl (fun K hK => ?_) AllReadyH.nil
      go_simp
      (go_at_call 32; refine (rsides_any c H5.out.r).mono ?_; intro e w6 h; obtain ⟨a6, c6, rfl, hV, -, hB⟩ := h.list; have H6 := Lib.hid (H5.out.below hB); have V6 := Lib.hid hV; have V5 := Lib.hid (V5.out.below hB (Nat.le_refl _)); clear h hV hB; have hR := H6.out.row hk; obtain ⟨-, t1, t2, t3⟩ := hR.at hk; rw [HS.out] at t1; rw [HF.out] at t3; clear hR)
      refine hK.out _ _ (by (try dsimp only); first | exact ⟨by assumption, by assumption⟩ | go_keep) (fun hHeld => ?_)
      clear hK K
      (try simp only [Act.put, List.setIfInBounds_toArray, List.set_cons_zero, List.set_cons_succ])
      refine wpAnyH_ready (rs := [41]) (by kernel_rfl) (by simp) ?_
      refine AllReadyH.cons (o := (Oper.mk (some 88) (Op.call (Call.mk (Callee.value (Operand.func 10)) #[Operand.tmp 85, Operand.tmp 87] #[30, 30])) 4 "law.go:32" #[Edge.mk 38 Ground.data, Edge.mk 40 Ground.data, Edge.mk 40 Ground.chain, Edge.mk 36 Ground.guard] (some (36, true)))) rfl (fun K hK => ?_) AllReadyH.nil
      go_simp
      (go_at_call 10; refine (ints_any (la := sidesS us) (lb := sidesS us) c5 c6 V5.out V6.out hsl).mono ?_; rintro e w7 ⟨rfl, hq⟩; rw [decide_eq_true (rfl : sidesS us = sidesS us)]; have H7 := Lib.hid (H6.out.quiet hq); clear hq; have hR := H7.out.row hk; obtain ⟨-, t1, t2, t3⟩ := hR.at hk; rw [HS.out] at t1; rw [HF.out] at t3; clear hR)
      refine hK.out _ _ (by (try dsimp only); first | exact ⟨by assumption, by assumption⟩ | go_keep) (fun hHeld => ?_)
      clear hK K
      (try simp only [Act.put, List.setIfInBounds_toArray, List.set_cons_zero, List.set_cons_succ])
      refine wpAnyH_take (i := 42) (oi := (Oper.mk (some 89) (Op.pick (Operand.tmp 83) (Operand.tmp 88) (Operand.const (Value.bool false))) 4 "law.go:32" #[Edge.mk 36 Ground.data, Edge.mk 41 Ground.data] none)) (v := ?v42t3bdb) rfl (by kernel_rfl) (by kernel_rfl) (by kernel_rfl) (fun _ _ _ h => h) (Or.inl ⟨by rfl, ?hy42t3bdb⟩) (by assumption) ?rest42t3bdb
      case hy42t3bdb => (intro w hSw; (try dsimp only at hSw); go_simp; first | done | with_reducible rfl)
      (try simp only [Act.put, List.setIfInBounds_toArray, List.set_cons_zero, List.set_cons_succ])
      refine wpAnyH_take (i := 43) (oi := (Oper.mk (some 6) (Op.assign (Operand.tmp 89)) 4 "law.go:32" #[Edge.mk 42 Ground.data, Edge.mk 41 Ground.chain, Edge.mk 0 Ground.phase, Edge.mk 1 Ground.phase, Edge.mk 2 Ground.phase, Edge.mk 3 Ground.phase, Edge.mk 4 Ground.phase, Edge.mk 5 Ground.phase, Edge.mk 6 Ground.phase, Edge.mk 7 Ground.phase, Edge.mk 8 Ground.phase, Edge.mk 9 Ground.phase, Edge.mk 10 Ground.phase, Edge.mk 11 Ground.phase, Edge.mk 12 Ground.phase, Edge.mk 13 Ground.phase, Edge.mk 14 Ground.phase, Edge.mk 15 Ground.phase, Edge.mk 16 Ground.phase, Edge.mk 17 Ground.phase, Edge.mk 18 Ground.phase, Edge.mk 19 Ground.phase, Edge.mk 20 Ground.phase, Edge.mk 21 Ground.phase, Edge.mk 22 Ground.phase, Edge.mk 23 Ground.phase, Edge.mk 24 Ground.phase, Edge.mk 25 Ground.phase, Edge.mk 26 Ground.phase, Edge.mk 27 Ground.phase, Edge.mk 28 Ground.phase, Edge.mk 29 Ground.phase, Edge.mk 30 Ground.phase, Edge.mk 31 Ground.phase, Edge.mk 32 Ground.phase, Edge.mk 33 Ground.phase, Edge.mk 34 Ground.phase, Edge.mk 35 Ground.phase, Edge.mk 36 Ground.phase, Edge.mk 37 Ground.phase, Edge.mk 38 Ground.phase, Edge.mk 39 Ground.phase, Edge.mk 40 Ground.phase, Edge.mk 41 Ground.phase, Edge.mk 42 Ground.phase] none)) (v := ?v43t3bdb) rfl (by kernel_rfl) (by kernel_rfl) (by kernel_rfl) (fun _ _ _ h => h) (Or.inl ⟨by rfl, ?hy43t3bdb⟩) (by assumption) ?rest43t3bdb
      case hy43t3bdb => (intro w hSw; (try dsimp only at hSw); go_simp; first | done | with_reducible rfl)
      (try simp only [Act.put, List.setIfInBounds_toArray, List.set_cons_zero, List.set_cons_succ])
      refine wpAnyH_done (by kernel_rfl) ?_ _
      go_wp2_with fail
      go_ret
      exact ⟨rfl, H7.out.b⟩
end Go.Proofs.Ytgfloeclepmdlaa

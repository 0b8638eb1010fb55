/- The law UnitsWork holds: the walk, then the lift to the given statement. No condition. -/
import Derived.Test.YtgfloeclepmdlaaQ
import Derived.WalkKit
import Derived.Test.YtgfloeclepmdlaaT
import Derived.ProofKit
import Derived.OpenShut
import Derived.Lib.Hide
import Derived.ChangeOld
import Derived.Below
import Derived.SizedLaws
namespace Go.Proofs.Ytgfloeclepmdlaa.unitsWork
open Go.ChangeShapes Go.WideShapes Go.ChangeAt Go.RowKit
set_option linter.unusedVariables false
theorem own : ownKnob Try.prog.godebug = none := by kernel_rfl
theorem laidOut : laidOutB Try.prog = true := by kernel_rfl

def dC (k : Nat) : List Value := (List.range k).flatMap (fun (i : Nat) => [.int .i64 (i : Int), .bool false])
theorem dC_length (k : Nat) : (dC k).length = k * 2 := by
  induction k with
  | zero => rfl
  | succ k ih => unfold dC at ih ⊢; rw [List.range_succ, List.flatMap_append, List.length_append, ih]; simp; omega
theorem dC_succ (k : Nat) : dC (k + 1) = dC k ++ [.int .i64 (k : Int), .bool false] := by
  unfold dC; rw [List.range_succ, List.flatMap_append]; rfl
theorem info28 : (Try.prog.info? 28).map (fun i => (i.zero, i.size, i.bytes)) = some (some (.agg #[.int .i64 0, .bool false]), 2, 16) := by kernel_rfl
theorem two_one (a : Int) (d : Bool) : ∀ u ∈ [Value.int .i64 a, .bool d], u.oneCell' = true := by
  intro u hu
  simp only [List.mem_cons, List.not_mem_nil, or_false] at hu
  rcases hu with rfl | rfl <;> rfl
theorem def8 {w : World} {B : Nat} {v : Value} (h1 : w.ownsRow B 28 2 v 8 (dC 8)) : ∃ a c, v = .slice a 8 c ∧ DefAt w a [0, 1, 2, 3, 4, 5, 6, 7] := by
  rcases h1.2 with ⟨h3, h4⟩ | ⟨g, cap, cur, h3, h4, h5, h6, h7, h8, h9⟩
  · omega
  · refine ⟨some ⟨g, 0, none⟩, cap, h3, .inr ⟨g, 0, rfl, lt_of_block h5, fun i hi => ?_⟩⟩
    have hb : Blk w g 28 cur.toList := by unfold Blk; rw [h5]
    have hc : ∀ j, j < 16 → w.cell? ⟨g, j, none⟩ = (dC 8)[j]? := fun j hj => by
      rw [hb.cell, ← h9, List.getElem?_take, if_pos (by omega)]
    have hi' : i < 8 := hi
    rw [Nat.zero_add, hc _ (by omega), hc _ (by omega)]
    match i, hi' with
    | 0, _ => exact ⟨rfl, false, rfl⟩
    | 1, _ => exact ⟨rfl, false, rfl⟩
    | 2, _ => exact ⟨rfl, false, rfl⟩
    | 3, _ => exact ⟨rfl, false, rfl⟩
    | 4, _ => exact ⟨rfl, false, rfl⟩
    | 5, _ => exact ⟨rfl, false, rfl⟩
    | 6, _ => exact ⟨rfl, false, rfl⟩
    | 7, _ => exact ⟨rfl, false, rfl⟩
/-- what the law holds once the units are made -/
structure Wk (w : World) (b g cap : Nat) (sd : Nat → Int) (fl : Nat → Bool) (wr : World) : Prop where
  u : UAt wr b g cap (usG sd fl)
  s : ∀ j, sd j = 0 ∨ sd j = 1
  g : w.heap.size ≤ g
  bl : Below w.heap.size w wr
theorem Wk.below {w wx wy : World} {b g cap : Nat} {sd : Nat → Int} {fl : Nat → Bool} (h : Wk w b g cap sd fl wx) (hB : Below wx.heap.size wx wy) : Wk w b g cap sd fl wy :=
  ⟨h.u.below hB (Nat.le_refl _), h.s, h.g, h.bl.trans (hB.mono h.bl.size)⟩
set_option maxRecDepth 20000 in
set_option maxHeartbeats 8000000 in
theorem walk {H : Type} {enc : TypeId × Value → H} (v0 v1 : Value) (w : World) {b0 : Nat} {d0 : DataW H} {p0 : List MemPlace} (ok0 : Value.okWide Try.prog w .any b0 37 v0) (tr0 : DataW.Trod enc Try.prog w 0 (fun _ => true) true 37 v0 d0 p0)
    {b1 : Nat} {d1 : DataW H} {p1 : List MemPlace} (ok1 : Value.okWide Try.prog w .any b1 37 v1) (tr1 : DataW.Trod enc Try.prog w 0 (fun _ => true) true 37 v1 d1 p1) :
    Calls Try.prog 4 #[v0, v1] w fun e w' => e = .returned (.bool true) ∧ Below w.heap.size w w' := by
  obtain ⟨a, cap0, l, rfl, -, -, hb⟩ := arg_bytes Try.underlying37 Try.underlying5 (by kernel_rfl) ok0 tr0
  obtain ⟨a2, cap2, l2, rfl, -, -, hb2⟩ := arg_bytes Try.underlying37 Try.underlying5 (by kernel_rfl) ok1 tr1
  have HL := Lib.hid hb
  have HL2 := Lib.hid hb2
  clear ok0 tr0 ok1 tr1 hb hb2
  obtain ⟨i0, hi, hz0, hz1, hz2⟩ := info_parts info28
  by_cases hn : l.length ≤ 40
  · have hn' : ¬ (40 : Int) < l.length := by omega
    by_cases hn2 : l2.length ≤ 40
    · have hn2' : ¬ (40 : Int) < l2.length := by omega
      go_enter Try.func4, Try.ntmps4
      go_wp2_with fail
      go_loopw [5, 6] (fun v i wr => ∃ (k : Nat), k ≤ 8 ∧ i = .int .i64 k ∧ wr.ownsRow w.heap.size 28 2 v k (dC k) ∧ Below w.heap.size w wr) (fun _ i _ => 8 - (intOf i).toNat)
      case atStart => exact ⟨0, by omega, rfl, World.ownsRow_nil _ _ _ _, Below.refl _ _⟩
      case round =>
        obtain ⟨k, hk, rfl, hO, hB⟩ := hrel
        have HO := Lib.hid hO
        have HB := Lib.hid hB
        have hsz := hB.size
        clear hO hB
        by_cases hlt : k < 8
        · have hk1 : (k : Int) < 8 := by omega
          go_wp2_with (at_builtin; refine wpList_append_own _ rfl _ _ 29 rfl w.heap.size 28 i0 _ 2 16 Try.underlying29 hi hz0 hz1 hz2 rfl (by decide) _ k (dC k) rfl (HO.out.alloc _) ⟨wr.heap.size, 0, none⟩ 1 1 [.int .i64 (k : Int), .bool false] rfl rfl (four_new wr _ _) (two_one _ _) (by unfold maxLen; omega) (by omega) (by simp; omega) ?_)
          intro v' w1' hown' hgrow _
          have HB1 := Lib.hid ((al HB.out _).grown hgrow (by simp; omega) (fun r hr => (HO.out.lt r hr).1))
          have HO1 : Hid (w1'.ownsRow w.heap.size 28 2 v' (k + 1) (dC (k + 1))) := Lib.hid (by rw [dC_succ]; exact hown')
          clear hown' hgrow
          go_wp2_with fail
          go_roundw
          case rel => exact ⟨k + 1, by omega, by go_num, HO1.out, HB1.out⟩
          case measure => simp [intOf]; omega
        · obtain rfl : k = 8 := by omega
          obtain ⟨ad, cd, rfl, hD⟩ := def8 HO.out
          have HD := Lib.hid hD
          clear hD
          go_wp2_with fail
          refine (new_any (ds := [0, 1, 2, 3, 4, 5, 6, 7]) cd HD.out (by decide)).mono ?_
          rintro e w1 h
          obtain ⟨-, b, g, cap, rfl, hU, -, hg, hB⟩ := h.resolve_right (fun h => h.1 ok8)
          have HW : Hid (Wk w b g cap (fun _ => 0) (flK l 0) w1) := Lib.hid ⟨hU, fun _ => .inl rfl, by omega, HB.out.trans (hB.mono hsz)⟩
          clear hU hg hB h
          go_wp2_with fail
          go_loopw [9] (fun i wr => ∃ (k : Nat), k ≤ l.length ∧ i = .int .i64 k ∧ Wk w b g cap (fun _ => 0) (flK l k) wr) (fun i _ => l.length - (intOf i).toNat)
          case atStart => exact ⟨0, by omega, rfl, HW.out⟩
          case round =>
            obtain ⟨k, hk, rfl, hW⟩ := hrel
            have HWr := Lib.hid hW
            have hsr := hW.bl.size
            clear hW
            by_cases hlt : k < l.length
            · obtain ⟨bo, off, rfl, hbo, hcell⟩ := HL.out.resolve_left (fun e => by rw [e] at hlt; simp at hlt)
              have x0 := (HWr.out.bl.cell (p := ⟨bo, off + k, none⟩) hbo).trans (hcell k hlt)
              have hk0 : (0 : Int) ≤ (k : Int) := by omega
              have hk1 : (k : Int) < (l.length : Int) := by omega
              obtain ⟨u, n, hu, hn3, h16, qe1, qe2, -, -⟩ := split16 l[k]
              have hfa := fail_any (u : Int) (n : Int) (show UAt wr.drew b g cap (usG (fun _ => 0) (flK l k)) from HWr.out.u.below (Quiet.below ⟨1, rfl⟩) (Nat.le_refl _))
              rw [usG_fail _ _ hu hn3, h16, ← flK_succ hlt] at hfa
              have HFA := Lib.hid hfa
              have hbg : ¬ bo = g := by have := HWr.out.g; omega
              have hbr : bo < wr.drew.heap.size := by show bo < wr.heap.size; omega
              have HLT := Lib.hid hlt
              have hgw := HWr.out.g
              clear hfa h16 hu hn3
              generalize l[k] = f at x0 qe1 qe2
              clear hlt
              clear hcell
              go_wp2_with fail
              refine wp_region_held_drew (S := (fun w' => w'.cell? ⟨bo, off + k, none⟩ = some (.int .u8 (f.toNat : Int)))) (by kernel_rfl) (by (try dsimp only); first | assumption | go_keep) (fun hHeld => ?_)
              refine wpAnyH_take (i := 0) (oi := (Oper.mk (some 49) (Op.move (Operand.tmp 7)) 23 "law.go:100" #[] none)) (v := ?v0tabfe) rfl (by kernel_rfl) (by kernel_rfl) (by kernel_rfl) (fun _ _ _ h => h) (Or.inl ⟨by rfl, ?hy0tabfe⟩) (by assumption) ?rest0tabfe
              case hy0tabfe => (intro w hSw; (try dsimp only at hSw); go_simp; first | done | with_reducible rfl)
              (try simp only [Act.put, List.setIfInBounds_toArray, List.set_cons_zero, List.set_cons_succ])
              refine wpAnyH_take (i := 1) (oi := (Oper.mk (some 50) (Op.move (Operand.tmp 0)) 37 "law.go:100" #[] none)) (v := ?v1tabfe) rfl (by kernel_rfl) (by kernel_rfl) (by kernel_rfl) (fun _ _ _ h => h) (Or.inl ⟨by rfl, ?hy1tabfe⟩) (by assumption) ?rest1tabfe
              case hy1tabfe => (intro w hSw; (try dsimp only at hSw); go_simp; first | done | with_reducible rfl)
              (try simp only [Act.put, List.setIfInBounds_toArray, List.set_cons_zero, List.set_cons_succ])
              refine wpAnyH_take (i := 2) (oi := (Oper.mk (some 51) (Op.move (Operand.tmp 9)) 3 "law.go:100" #[] none)) (v := ?v2tabfe) rfl (by kernel_rfl) (by kernel_rfl) (by kernel_rfl) (fun _ _ _ h => h) (Or.inl ⟨by rfl, ?hy2tabfe⟩) (by assumption) ?rest2tabfe
              case hy2tabfe => (intro w hSw; (try dsimp only at hSw); go_simp; first | done | with_reducible rfl)
              (try simp only [Act.put, List.setIfInBounds_toArray, List.set_cons_zero, List.set_cons_succ])
              refine wpAnyH_take (i := 3) (oi := (Oper.mk (some 52) (Op.indexAddr 37 (Operand.tmp 50) (Operand.tmp 51)) 0 "law.go:100" #[Edge.mk 1 Ground.data, Edge.mk 2 Ground.data] none)) (v := ?v3tabfe) rfl (by kernel_rfl) (by kernel_rfl) (by kernel_rfl) (fun _ _ _ h => h) (Or.inl ⟨by rfl, ?hy3tabfe⟩) (by assumption) ?rest3tabfe
              case hy3tabfe => (intro w hSw; (try dsimp only at hSw); go_simp; first | done | with_reducible rfl)
              (try simp only [Act.put, List.setIfInBounds_toArray, List.set_cons_zero, List.set_cons_succ])
              refine wpAnyH_take (i := 4) (oi := (Oper.mk (some 53) (Op.load 5 (Operand.tmp 52)) 5 "law.go:100" #[Edge.mk 3 Ground.data] none)) (v := ?v4tabfe) rfl (by kernel_rfl) (by kernel_rfl) (by kernel_rfl) (fun _ _ _ h => h) (Or.inl ⟨by rfl, ?hy4tabfe⟩) (by assumption) ?rest4tabfe
              case hy4tabfe => (intro w hSw; (try dsimp only at hSw); go_simp; first | done | with_reducible rfl)
              (try simp only [Act.put, List.setIfInBounds_toArray, List.set_cons_zero, List.set_cons_succ])
              refine wpAnyH_take (i := 5) (oi := (Oper.mk (some 54) (Op.binOp BinOp.rem 5 (Operand.tmp 53) (Operand.const (Value.int IntKind.u8 16)) 5) 5 "law.go:100" #[Edge.mk 4 Ground.data] none)) (v := ?v5tabfe) rfl (by kernel_rfl) (by kernel_rfl) (by kernel_rfl) (fun _ _ _ h => h) (Or.inl ⟨by rfl, ?hy5tabfe⟩) (by assumption) ?rest5tabfe
              case hy5tabfe => (intro w hSw; (try dsimp only at hSw); go_simp; first | done | with_reducible rfl)
              (try simp only [Act.put, List.setIfInBounds_toArray, List.set_cons_zero, List.set_cons_succ])
              refine wpAnyH_take (i := 6) (oi := (Oper.mk (some 55) (Op.convert 5 3 (Operand.tmp 54)) 3 "law.go:100" #[Edge.mk 5 Ground.data] none)) (v := ?v6tabfe) rfl (by kernel_rfl) (by kernel_rfl) (by kernel_rfl) (fun _ _ _ h => h) (Or.inl ⟨by rfl, ?hy6tabfe⟩) (by assumption) ?rest6tabfe
              case hy6tabfe => (intro w hSw; (try dsimp only at hSw); go_simp; first | done | with_reducible rfl)
              (try simp only [Act.put, List.setIfInBounds_toArray, List.set_cons_zero, List.set_cons_succ])
              refine wpAnyH_take (i := 7) (oi := (Oper.mk (some 56) (Op.binOp BinOp.quo 3 (Operand.tmp 55) (Operand.const (Value.int IntKind.i64 2)) 3) 3 "law.go:100" #[Edge.mk 6 Ground.data] none)) (v := ?v7tabfe) rfl (by kernel_rfl) (by kernel_rfl) (by kernel_rfl) (fun _ _ _ h => h) (Or.inl ⟨by rfl, ?hy7tabfe⟩) (by assumption) ?rest7tabfe
              case hy7tabfe => (intro w hSw; (try dsimp only at hSw); go_simp; first | done | with_reducible rfl)
              (try simp only [Act.put, List.setIfInBounds_toArray, List.set_cons_zero, List.set_cons_succ])
              refine wpAnyH_take (i := 8) (oi := (Oper.mk (some 57) (Op.move (Operand.tmp 0)) 37 "law.go:100" #[] none)) (v := ?v8tabfe) rfl (by kernel_rfl) (by kernel_rfl) (by kernel_rfl) (fun _ _ _ h => h) (Or.inl ⟨by rfl, ?hy8tabfe⟩) (by assumption) ?rest8tabfe
              case hy8tabfe => (intro w hSw; (try dsimp only at hSw); go_simp; first | done | with_reducible rfl)
              (try simp only [Act.put, List.setIfInBounds_toArray, List.set_cons_zero, List.set_cons_succ])
              refine wpAnyH_take (i := 9) (oi := (Oper.mk (some 58) (Op.move (Operand.tmp 9)) 3 "law.go:100" #[] none)) (v := ?v9tabfe) rfl (by kernel_rfl) (by kernel_rfl) (by kernel_rfl) (fun _ _ _ h => h) (Or.inl ⟨by rfl, ?hy9tabfe⟩) (by assumption) ?rest9tabfe
              case hy9tabfe => (intro w hSw; (try dsimp only at hSw); go_simp; first | done | with_reducible rfl)
              (try simp only [Act.put, List.setIfInBounds_toArray, List.set_cons_zero, List.set_cons_succ])
              refine wpAnyH_take (i := 10) (oi := (Oper.mk (some 59) (Op.indexAddr 37 (Operand.tmp 57) (Operand.tmp 58)) 0 "law.go:100" #[Edge.mk 8 Ground.data, Edge.mk 9 Ground.data] none)) (v := ?v10tabfe) rfl (by kernel_rfl) (by kernel_rfl) (by kernel_rfl) (fun _ _ _ h => h) (Or.inl ⟨by rfl, ?hy10tabfe⟩) (by assumption) ?rest10tabfe
              case hy10tabfe => (intro w hSw; (try dsimp only at hSw); go_simp; first | done | with_reducible rfl)
              (try simp only [Act.put, List.setIfInBounds_toArray, List.set_cons_zero, List.set_cons_succ])
              refine wpAnyH_take (i := 11) (oi := (Oper.mk (some 60) (Op.load 5 (Operand.tmp 59)) 5 "law.go:100" #[Edge.mk 10 Ground.data] none)) (v := ?v11tabfe) rfl (by kernel_rfl) (by kernel_rfl) (by kernel_rfl) (fun _ _ _ h => h) (Or.inl ⟨by rfl, ?hy11tabfe⟩) (by assumption) ?rest11tabfe
              case hy11tabfe => (intro w hSw; (try dsimp only at hSw); go_simp; first | done | with_reducible rfl)
              (try simp only [Act.put, List.setIfInBounds_toArray, List.set_cons_zero, List.set_cons_succ])
              refine wpAnyH_take (i := 12) (oi := (Oper.mk (some 61) (Op.binOp BinOp.rem 5 (Operand.tmp 60) (Operand.const (Value.int IntKind.u8 2)) 5) 5 "law.go:100" #[Edge.mk 11 Ground.data] none)) (v := ?v12tabfe) rfl (by kernel_rfl) (by kernel_rfl) (by kernel_rfl) (fun _ _ _ h => h) (Or.inl ⟨by rfl, ?hy12tabfe⟩) (by assumption) ?rest12tabfe
              case hy12tabfe => (intro w hSw; (try dsimp only at hSw); go_simp; first | done | with_reducible rfl)
              (try simp only [Act.put, List.setIfInBounds_toArray, List.set_cons_zero, List.set_cons_succ])
              refine wpAnyH_take (i := 13) (oi := (Oper.mk (some 62) (Op.convert 5 3 (Operand.tmp 61)) 3 "law.go:100" #[Edge.mk 12 Ground.data] none)) (v := ?v13tabfe) rfl (by kernel_rfl) (by kernel_rfl) (by kernel_rfl) (fun _ _ _ h => h) (Or.inl ⟨by rfl, ?hy13tabfe⟩) (by assumption) ?rest13tabfe
              case hy13tabfe => (intro w hSw; (try dsimp only at hSw); go_simp; first | done | with_reducible rfl)
              (try simp only [Act.put, List.setIfInBounds_toArray, List.set_cons_zero, List.set_cons_succ])
              refine wpAnyH_ready (rs := [14]) (by kernel_rfl) (by simp) ?_
              refine AllReadyH.cons (o := (Oper.mk (some 63) (Op.call (Call.mk (Callee.value (Operand.func 8)) #[Operand.tmp 49, Operand.tmp 56, Operand.tmp 62] #[23, 3, 3])) 24 "law.go:100" #[Edge.mk 0 Ground.data, Edge.mk 7 Ground.data, Edge.mk 13 Ground.data] none)) rfl (fun K hK => ?_) AllReadyH.nil
              go_simp
              (go_at_call 8; refine (HFA.out).mono ?_; rintro e w3 ⟨rfl, hU, hF⟩; have x3 := (hF.cell (p := ⟨bo, off + k, none⟩) hbr hbg).trans x0; have HU := Lib.hid hU; have HF := Lib.hid hF; clear hU hF)
              refine hK.out _ _ (by (try dsimp only); first | assumption | go_keep) (fun hHeld => ?_)
              clear hK K
              (try simp only [Act.put, List.setIfInBounds_toArray, List.set_cons_zero, List.set_cons_succ])
              refine wpAnyH_done (by kernel_rfl) ?_ _
              go_wp2_with fail
              go_roundw
              case rel => exact ⟨k + 1, HLT.out, by go_num, HU.out, fun _ => .inl rfl, hgw, HWr.out.bl.drew.trans (HF.out.toBelow (show w.heap.size ≤ wr.heap.size from hsr) (fun k hk => by subst hk; exact hgw))⟩
              case measure => simp [intOf]; have := HLT.out; omega
            · obtain rfl : k = l.length := by omega
              clear hsr hlt
              go_wp2_with fail
              go_loopw [10] (fun i wt => ∃ (k : Nat) (sd : Nat → Int), k ≤ l2.length ∧ i = .int .i64 k ∧ Wk w b g cap sd (flK l l.length) wt) (fun i _ => l2.length - (intOf i).toNat)
              case atStart => exact ⟨0, _, by omega, rfl, HWr.out⟩
              case round =>
                obtain ⟨k, sd, hk2, rfl, hW⟩ := hrel
                clear HWr
                generalize hwq : wr = wo at *
                have HWt := Lib.hid hW
                have hst := hW.bl.size
                clear hW
                by_cases hlt : k < l2.length
                · obtain ⟨bt, offt, rfl, hbt, hcellt⟩ := HL2.out.resolve_left (fun e => by rw [e] at hlt; simp at hlt)
                  have y0 := (HWt.out.bl.cell (p := ⟨bt, offt + k, none⟩) hbt).trans (hcellt k hlt)
                  obtain ⟨u, n, hu, hn3, h16, qe1, qe2, qe3, qe4⟩ := split16 l2[k]
                  have hk0 : (0 : Int) ≤ (k : Int) := by omega
                  have hk1 : (k : Int) < (l2.length : Int) := by omega
                  have HLT2 := Lib.hid (show k + 1 ≤ l2.length from hlt)
                  have H16 := Lib.hid h16
                  have HU8 := Lib.hid hu
                  have HN2 := Lib.hid hn3
                  have HT16 := Lib.hid (fun f => tmod16 f l2[k])
                  have hbto : bt < wo.heap.size := by omega
                  clear hcellt h16 hu hn3
                  generalize l2[k] = t at y0 qe1 qe2 qe3 qe4 H16 HT16
                  clear hlt
                  go_wp2_with fail
                  go_loopw [13, 14] (fun s13 i wx => ∃ (m : Nat), m ≤ l.length ∧ s13 = .bool (flK l m (t.toNat % 16)) ∧ i = .int .i64 m ∧ Quiet wo wx) (fun _ i _ => l.length - (intOf i).toNat)
                  case atStart => exact ⟨0, by omega, rfl, rfl, ⟨0, rfl⟩⟩
                  case round =>
                    obtain ⟨m, hm, rfl, rfl, hq⟩ := hrel
                    have HQ := Lib.hid hq
                    clear hq
                    by_cases hlm : m < l.length
                    · obtain ⟨bo, off, rfl, hbo, hcell⟩ := HL.out.resolve_left (fun e => by rw [e] at hlm; simp at hlm)
                      have x0 := ((HWt.out.bl.trans (HQ.out.below (B := w.heap.size))).cell (p := ⟨bo, off + m, none⟩) hbo).trans (hcell m hlm)
                      have y1 := ((HQ.out.below (B := wo.heap.size)).cell (p := ⟨bt, offt + k, none⟩) hbto).trans y0
                      have hm0 : (0 : Int) ≤ (m : Int) := by omega
                      have hm1 : (m : Int) < (l.length : Int) := by omega
                      have HOR := Lib.hid (flK_or hlm (t.toNat % 16))
                      have he := HT16.out l[m]
                      have HLM := Lib.hid (show m + 1 ≤ l.length from hlm)
                      generalize l[m] = f at x0 HOR he
                      clear hcell hlm
                      cases hd : flK l m (t.toNat % 16)
                      · rw [hd, Bool.false_or] at HOR
                        rw [← HOR.out] at he
                        clear hd
                        go_wp2_with fail
                        refine wp_region_held_drew (S := (fun w' => w'.cell? ⟨bo, off + m, none⟩ = some (.int .u8 (f.toNat : Int)) ∧ w'.cell? ⟨bt, offt + k, none⟩ = some (.int .u8 (t.toNat : Int)))) (by kernel_rfl) (by (try dsimp only); first | exact ⟨by assumption, by assumption⟩ | go_keep) (fun hHeld => ?_)
                        refine wpAnyH_take (i := 0) (oi := (Oper.mk (some 89) (Op.move (Operand.tmp 13)) 4 "law.go:107" #[] none)) (v := ?v0t5772) rfl (by kernel_rfl) (by kernel_rfl) (by kernel_rfl) (fun _ _ _ h => h) (Or.inl ⟨by rfl, ?hy0t5772⟩) (by assumption) ?rest0t5772
                        case hy0t5772 => (intro w hSw; (try dsimp only at hSw); go_simp; first | done | with_reducible rfl)
                        (try simp only [Act.put, List.setIfInBounds_toArray, List.set_cons_zero, List.set_cons_succ])
                        refine wpAnyH_take (i := 1) (oi := (Oper.mk (some 90) (Op.move (Operand.tmp 89)) 4 "law.go:107" #[Edge.mk 0 Ground.data] none)) (v := ?v1t5772) rfl (by kernel_rfl) (by kernel_rfl) (by kernel_rfl) (fun _ _ _ h => h) (Or.inl ⟨by rfl, ?hy1t5772⟩) (by assumption) ?rest1t5772
                        case hy1t5772 => (intro w hSw; (try dsimp only at hSw); go_simp; first | done | with_reducible rfl)
                        (try simp only [Act.put, List.setIfInBounds_toArray, List.set_cons_zero, List.set_cons_succ])
                        refine wpAnyH_take (i := 2) (oi := (Oper.mk (some 91) (Op.move (Operand.tmp 0)) 37 "law.go:107" #[Edge.mk 1 Ground.guard] (some (1, false)))) (v := ?v2t5772) rfl (by kernel_rfl) (by kernel_rfl) (by kernel_rfl) (fun _ _ _ h => h) (Or.inl ⟨by rfl, ?hy2t5772⟩) (by assumption) ?rest2t5772
                        case hy2t5772 => (intro w hSw; (try dsimp only at hSw); go_simp; first | done | with_reducible rfl)
                        (try simp only [Act.put, List.setIfInBounds_toArray, List.set_cons_zero, List.set_cons_succ])
                        refine wpAnyH_take (i := 3) (oi := (Oper.mk (some 92) (Op.move (Operand.tmp 14)) 3 "law.go:107" #[Edge.mk 1 Ground.guard] (some (1, false)))) (v := ?v3t5772) rfl (by kernel_rfl) (by kernel_rfl) (by kernel_rfl) (fun _ _ _ h => h) (Or.inl ⟨by rfl, ?hy3t5772⟩) (by assumption) ?rest3t5772
                        case hy3t5772 => (intro w hSw; (try dsimp only at hSw); go_simp; first | done | with_reducible rfl)
                        (try simp only [Act.put, List.setIfInBounds_toArray, List.set_cons_zero, List.set_cons_succ])
                        refine wpAnyH_take (i := 4) (oi := (Oper.mk (some 93) (Op.indexAddr 37 (Operand.tmp 91) (Operand.tmp 92)) 0 "law.go:107" #[Edge.mk 2 Ground.data, Edge.mk 3 Ground.data, Edge.mk 1 Ground.guard] (some (1, false)))) (v := ?v4t5772) rfl (by kernel_rfl) (by kernel_rfl) (by kernel_rfl) (fun _ _ _ h => h) (Or.inl ⟨by rfl, ?hy4t5772⟩) (by assumption) ?rest4t5772
                        case hy4t5772 => (intro w hSw; (try dsimp only at hSw); go_simp; first | done | with_reducible rfl)
                        (try simp only [Act.put, List.setIfInBounds_toArray, List.set_cons_zero, List.set_cons_succ])
                        refine wpAnyH_take (i := 5) (oi := (Oper.mk (some 94) (Op.load 5 (Operand.tmp 93)) 5 "law.go:107" #[Edge.mk 4 Ground.data, Edge.mk 1 Ground.guard] (some (1, false)))) (v := ?v5t5772) rfl (by kernel_rfl) (by kernel_rfl) (by kernel_rfl) (fun _ _ _ h => h) (Or.inl ⟨by rfl, ?hy5t5772⟩) (by assumption) ?rest5t5772
                        case hy5t5772 => (intro w hSw; (try dsimp only at hSw); go_simp; first | done | with_reducible rfl)
                        (try simp only [Act.put, List.setIfInBounds_toArray, List.set_cons_zero, List.set_cons_succ])
                        refine wpAnyH_take (i := 6) (oi := (Oper.mk (some 95) (Op.binOp BinOp.rem 5 (Operand.tmp 94) (Operand.const (Value.int IntKind.u8 16)) 5) 5 "law.go:107" #[Edge.mk 5 Ground.data, Edge.mk 1 Ground.guard] (some (1, false)))) (v := ?v6t5772) rfl (by kernel_rfl) (by kernel_rfl) (by kernel_rfl) (fun _ _ _ h => h) (Or.inl ⟨by rfl, ?hy6t5772⟩) (by assumption) ?rest6t5772
                        case hy6t5772 => (intro w hSw; (try dsimp only at hSw); go_simp; first | done | with_reducible rfl)
                        (try simp only [Act.put, List.setIfInBounds_toArray, List.set_cons_zero, List.set_cons_succ])
                        refine wpAnyH_take (i := 7) (oi := (Oper.mk (some 96) (Op.move (Operand.tmp 1)) 37 "law.go:107" #[Edge.mk 1 Ground.guard] (some (1, false)))) (v := ?v7t5772) rfl (by kernel_rfl) (by kernel_rfl) (by kernel_rfl) (fun _ _ _ h => h) (Or.inl ⟨by rfl, ?hy7t5772⟩) (by assumption) ?rest7t5772
                        case hy7t5772 => (intro w hSw; (try dsimp only at hSw); go_simp; first | done | with_reducible rfl)
                        (try simp only [Act.put, List.setIfInBounds_toArray, List.set_cons_zero, List.set_cons_succ])
                        refine wpAnyH_take (i := 8) (oi := (Oper.mk (some 97) (Op.move (Operand.tmp 10)) 3 "law.go:107" #[Edge.mk 1 Ground.guard] (some (1, false)))) (v := ?v8t5772) rfl (by kernel_rfl) (by kernel_rfl) (by kernel_rfl) (fun _ _ _ h => h) (Or.inl ⟨by rfl, ?hy8t5772⟩) (by assumption) ?rest8t5772
                        case hy8t5772 => (intro w hSw; (try dsimp only at hSw); go_simp; first | done | with_reducible rfl)
                        (try simp only [Act.put, List.setIfInBounds_toArray, List.set_cons_zero, List.set_cons_succ])
                        refine wpAnyH_take (i := 9) (oi := (Oper.mk (some 98) (Op.indexAddr 37 (Operand.tmp 96) (Operand.tmp 97)) 0 "law.go:107" #[Edge.mk 7 Ground.data, Edge.mk 8 Ground.data, Edge.mk 1 Ground.guard] (some (1, false)))) (v := ?v9t5772) rfl (by kernel_rfl) (by kernel_rfl) (by kernel_rfl) (fun _ _ _ h => h) (Or.inl ⟨by rfl, ?hy9t5772⟩) (by assumption) ?rest9t5772
                        case hy9t5772 => (intro w hSw; (try dsimp only at hSw); go_simp; first | done | with_reducible rfl)
                        (try simp only [Act.put, List.setIfInBounds_toArray, List.set_cons_zero, List.set_cons_succ])
                        refine wpAnyH_take (i := 10) (oi := (Oper.mk (some 99) (Op.load 5 (Operand.tmp 98)) 5 "law.go:107" #[Edge.mk 9 Ground.data, Edge.mk 1 Ground.guard] (some (1, false)))) (v := ?v10t5772) rfl (by kernel_rfl) (by kernel_rfl) (by kernel_rfl) (fun _ _ _ h => h) (Or.inl ⟨by rfl, ?hy10t5772⟩) (by assumption) ?rest10t5772
                        case hy10t5772 => (intro w hSw; (try dsimp only at hSw); go_simp; first | done | with_reducible rfl)
                        (try simp only [Act.put, List.setIfInBounds_toArray, List.set_cons_zero, List.set_cons_succ])
                        refine wpAnyH_take (i := 11) (oi := (Oper.mk (some 100) (Op.binOp BinOp.rem 5 (Operand.tmp 99) (Operand.const (Value.int IntKind.u8 16)) 5) 5 "law.go:107" #[Edge.mk 10 Ground.data, Edge.mk 1 Ground.guard] (some (1, false)))) (v := ?v11t5772) rfl (by kernel_rfl) (by kernel_rfl) (by kernel_rfl) (fun _ _ _ h => h) (Or.inl ⟨by rfl, ?hy11t5772⟩) (by assumption) ?rest11t5772
                        case hy11t5772 => (intro w hSw; (try dsimp only at hSw); go_simp; first | done | with_reducible rfl)
                        (try simp only [Act.put, List.setIfInBounds_toArray, List.set_cons_zero, List.set_cons_succ])
                        refine wpAnyH_take (i := 12) (oi := (Oper.mk (some 101) (Op.binOp BinOp.eql 5 (Operand.tmp 95) (Operand.tmp 100) 5) 4 "law.go:107" #[Edge.mk 6 Ground.data, Edge.mk 11 Ground.data, Edge.mk 1 Ground.guard] (some (1, false)))) (v := ?v12t5772) rfl (by kernel_rfl) (by kernel_rfl) (by kernel_rfl) (fun _ _ _ h => h) (Or.inl ⟨by rfl, ?hy12t5772⟩) (by assumption) ?rest12t5772
                        case hy12t5772 => (intro w hSw; (try dsimp only at hSw); go_simp; first | done | with_reducible rfl)
                        (try simp only [Act.put, List.setIfInBounds_toArray, List.set_cons_zero, List.set_cons_succ])
                        refine wpAnyH_take (i := 13) (oi := (Oper.mk (some 102) (Op.pick (Operand.tmp 90) (Operand.const (Value.bool true)) (Operand.tmp 101)) 4 "law.go:107" #[Edge.mk 1 Ground.data, Edge.mk 12 Ground.data] none)) (v := ?v13t5772) rfl (by kernel_rfl) (by kernel_rfl) (by kernel_rfl) (fun _ _ _ h => h) (Or.inl ⟨by rfl, ?hy13t5772⟩) (by assumption) ?rest13t5772
                        case hy13t5772 => (intro w hSw; (try dsimp only at hSw); go_simp; first | done | with_reducible rfl)
                        (try simp only [Act.put, List.setIfInBounds_toArray, List.set_cons_zero, List.set_cons_succ])
                        refine wpAnyH_take (i := 14) (oi := (Oper.mk (some 13) (Op.assign (Operand.tmp 102)) 4 "law.go:107" #[Edge.mk 13 Ground.data, Edge.mk 1 Ground.chain, Edge.mk 0 Ground.phase, Edge.mk 1 Ground.phase, Edge.mk 2 Ground.phase, Edge.mk 3 Ground.phase, Edge.mk 4 Ground.phase, Edge.mk 5 Ground.phase, Edge.mk 6 Ground.phase, Edge.mk 7 Ground.phase, Edge.mk 8 Ground.phase, Edge.mk 9 Ground.phase, Edge.mk 10 Ground.phase, Edge.mk 11 Ground.phase, Edge.mk 12 Ground.phase, Edge.mk 13 Ground.phase] none)) (v := ?v14t5772) rfl (by kernel_rfl) (by kernel_rfl) (by kernel_rfl) (fun _ _ _ h => h) (Or.inl ⟨by rfl, ?hy14t5772⟩) (by assumption) ?rest14t5772
                        case hy14t5772 => (intro w hSw; (try dsimp only at hSw); go_simp; first | done | with_reducible rfl)
                        (try simp only [Act.put, List.setIfInBounds_toArray, List.set_cons_zero, List.set_cons_succ])
                        refine wpAnyH_done (by kernel_rfl) ?_ _
                        go_wp2_with fail
                        go_roundw
                        case rel => exact ⟨m + 1, HLM.out, (by first | rfl | simp), by go_num, HQ.out.trans ⟨1, rfl⟩⟩
                        case measure => simp [intOf]; have := HLM.out; omega
                      · rw [hd, Bool.true_or] at HOR
                        clear hd
                        go_wp2_with fail
                        refine wp_region_held_drew (S := (fun _ => True)) (by kernel_rfl) (by (try dsimp only); all_goals trivial) (fun hHeld => ?_)
                        refine wpAnyH_take (i := 0) (oi := (Oper.mk (some 89) (Op.move (Operand.tmp 13)) 4 "law.go:107" #[] none)) (v := ?v0t8524) rfl (by kernel_rfl) (by kernel_rfl) (by kernel_rfl) (fun _ _ _ h => h) (Or.inl ⟨by rfl, ?hy0t8524⟩) (by assumption) ?rest0t8524
                        case hy0t8524 => (intro w hSw; (try dsimp only at hSw); go_simp; first | done | with_reducible rfl)
                        (try simp only [Act.put, List.setIfInBounds_toArray, List.set_cons_zero, List.set_cons_succ])
                        refine wpAnyH_take (i := 1) (oi := (Oper.mk (some 90) (Op.move (Operand.tmp 89)) 4 "law.go:107" #[Edge.mk 0 Ground.data] none)) (v := ?v1t8524) rfl (by kernel_rfl) (by kernel_rfl) (by kernel_rfl) (fun _ _ _ h => h) (Or.inl ⟨by rfl, ?hy1t8524⟩) (by assumption) ?rest1t8524
                        case hy1t8524 => (intro w hSw; (try dsimp only at hSw); go_simp; first | done | with_reducible rfl)
                        (try simp only [Act.put, List.setIfInBounds_toArray, List.set_cons_zero, List.set_cons_succ])
                        refine wpAnyH_take (i := 2) (oi := (Oper.mk (some 91) (Op.move (Operand.tmp 0)) 37 "law.go:107" #[Edge.mk 1 Ground.guard] (some (1, false)))) (v := undef) rfl (by kernel_rfl) (by kernel_rfl) (by kernel_rfl) (fun _ _ _ h => h) (Or.inr ⟨by rfl, rfl⟩) (by assumption) ?_
                        (try simp only [Act.put, List.setIfInBounds_toArray, List.set_cons_zero, List.set_cons_succ])
                        refine wpAnyH_take (i := 3) (oi := (Oper.mk (some 92) (Op.move (Operand.tmp 14)) 3 "law.go:107" #[Edge.mk 1 Ground.guard] (some (1, false)))) (v := undef) rfl (by kernel_rfl) (by kernel_rfl) (by kernel_rfl) (fun _ _ _ h => h) (Or.inr ⟨by rfl, rfl⟩) (by assumption) ?_
                        (try simp only [Act.put, List.setIfInBounds_toArray, List.set_cons_zero, List.set_cons_succ])
                        refine wpAnyH_take (i := 4) (oi := (Oper.mk (some 93) (Op.indexAddr 37 (Operand.tmp 91) (Operand.tmp 92)) 0 "law.go:107" #[Edge.mk 2 Ground.data, Edge.mk 3 Ground.data, Edge.mk 1 Ground.guard] (some (1, false)))) (v := undef) rfl (by kernel_rfl) (by kernel_rfl) (by kernel_rfl) (fun _ _ _ h => h) (Or.inr ⟨by rfl, rfl⟩) (by assumption) ?_
                        (try simp only [Act.put, List.setIfInBounds_toArray, List.set_cons_zero, List.set_cons_succ])
                        refine wpAnyH_take (i := 5) (oi := (Oper.mk (some 94) (Op.load 5 (Operand.tmp 93)) 5 "law.go:107" #[Edge.mk 4 Ground.data, Edge.mk 1 Ground.guard] (some (1, false)))) (v := undef) rfl (by kernel_rfl) (by kernel_rfl) (by kernel_rfl) (fun _ _ _ h => h) (Or.inr ⟨by rfl, rfl⟩) (by assumption) ?_
                        (try simp only [Act.put, List.setIfInBounds_toArray, List.set_cons_zero, List.set_cons_succ])
                        refine wpAnyH_take (i := 6) (oi := (Oper.mk (some 95) (Op.binOp BinOp.rem 5 (Operand.tmp 94) (Operand.const (Value.int IntKind.u8 16)) 5) 5 "law.go:107" #[Edge.mk 5 Ground.data, Edge.mk 1 Ground.guard] (some (1, false)))) (v := undef) rfl (by kernel_rfl) (by kernel_rfl) (by kernel_rfl) (fun _ _ _ h => h) (Or.inr ⟨by rfl, rfl⟩) (by assumption) ?_
                        (try simp only [Act.put, List.setIfInBounds_toArray, List.set_cons_zero, List.set_cons_succ])
                        refine wpAnyH_take (i := 7) (oi := (Oper.mk (some 96) (Op.move (Operand.tmp 1)) 37 "law.go:107" #[Edge.mk 1 Ground.guard] (some (1, false)))) (v := undef) rfl (by kernel_rfl) (by kernel_rfl) (by kernel_rfl) (fun _ _ _ h => h) (Or.inr ⟨by rfl, rfl⟩) (by assumption) ?_
                        (try simp only [Act.put, List.setIfInBounds_toArray, List.set_cons_zero, List.set_cons_succ])
                        refine wpAnyH_take (i := 8) (oi := (Oper.mk (some 97) (Op.move (Operand.tmp 10)) 3 "law.go:107" #[Edge.mk 1 Ground.guard] (some (1, false)))) (v := undef) rfl (by kernel_rfl) (by kernel_rfl) (by kernel_rfl) (fun _ _ _ h => h) (Or.inr ⟨by rfl, rfl⟩) (by assumption) ?_
                        (try simp only [Act.put, List.setIfInBounds_toArray, List.set_cons_zero, List.set_cons_succ])
                        refine wpAnyH_take (i := 9) (oi := (Oper.mk (some 98) (Op.indexAddr 37 (Operand.tmp 96) (Operand.tmp 97)) 0 "law.go:107" #[Edge.mk 7 Ground.data, Edge.mk 8 Ground.data, Edge.mk 1 Ground.guard] (some (1, false)))) (v := undef) rfl (by kernel_rfl) (by kernel_rfl) (by kernel_rfl) (fun _ _ _ h => h) (Or.inr ⟨by rfl, rfl⟩) (by assumption) ?_
                        (try simp only [Act.put, List.setIfInBounds_toArray, List.set_cons_zero, List.set_cons_succ])
                        refine wpAnyH_take (i := 10) (oi := (Oper.mk (some 99) (Op.load 5 (Operand.tmp 98)) 5 "law.go:107" #[Edge.mk 9 Ground.data, Edge.mk 1 Ground.guard] (some (1, false)))) (v := undef) rfl (by kernel_rfl) (by kernel_rfl) (by kernel_rfl) (fun _ _ _ h => h) (Or.inr ⟨by rfl, rfl⟩) (by assumption) ?_
                        (try simp only [Act.put, List.setIfInBounds_toArray, List.set_cons_zero, List.set_cons_succ])
                        refine wpAnyH_take (i := 11) (oi := (Oper.mk (some 100) (Op.binOp BinOp.rem 5 (Operand.tmp 99) (Operand.const (Value.int IntKind.u8 16)) 5) 5 "law.go:107" #[Edge.mk 10 Ground.data, Edge.mk 1 Ground.guard] (some (1, false)))) (v := undef) rfl (by kernel_rfl) (by kernel_rfl) (by kernel_rfl) (fun _ _ _ h => h) (Or.inr ⟨by rfl, rfl⟩) (by assumption) ?_
                        (try simp only [Act.put, List.setIfInBounds_toArray, List.set_cons_zero, List.set_cons_succ])
                        refine wpAnyH_take (i := 12) (oi := (Oper.mk (some 101) (Op.binOp BinOp.eql 5 (Operand.tmp 95) (Operand.tmp 100) 5) 4 "law.go:107" #[Edge.mk 6 Ground.data, Edge.mk 11 Ground.data, Edge.mk 1 Ground.guard] (some (1, false)))) (v := undef) rfl (by kernel_rfl) (by kernel_rfl) (by kernel_rfl) (fun _ _ _ h => h) (Or.inr ⟨by rfl, rfl⟩) (by assumption) ?_
                        (try simp only [Act.put, List.setIfInBounds_toArray, List.set_cons_zero, List.set_cons_succ])
                        refine wpAnyH_take (i := 13) (oi := (Oper.mk (some 102) (Op.pick (Operand.tmp 90) (Operand.const (Value.bool true)) (Operand.tmp 101)) 4 "law.go:107" #[Edge.mk 1 Ground.data, Edge.mk 12 Ground.data] none)) (v := ?v13t8524) rfl (by kernel_rfl) (by kernel_rfl) (by kernel_rfl) (fun _ _ _ h => h) (Or.inl ⟨by rfl, ?hy13t8524⟩) (by assumption) ?rest13t8524
                        case hy13t8524 => (intro w hSw; (try dsimp only at hSw); go_simp; first | done | with_reducible rfl)
                        (try simp only [Act.put, List.setIfInBounds_toArray, List.set_cons_zero, List.set_cons_succ])
                        refine wpAnyH_take (i := 14) (oi := (Oper.mk (some 13) (Op.assign (Operand.tmp 102)) 4 "law.go:107" #[Edge.mk 13 Ground.data, Edge.mk 1 Ground.chain, Edge.mk 0 Ground.phase, Edge.mk 1 Ground.phase, Edge.mk 2 Ground.phase, Edge.mk 3 Ground.phase, Edge.mk 4 Ground.phase, Edge.mk 5 Ground.phase, Edge.mk 6 Ground.phase, Edge.mk 7 Ground.phase, Edge.mk 8 Ground.phase, Edge.mk 9 Ground.phase, Edge.mk 10 Ground.phase, Edge.mk 11 Ground.phase, Edge.mk 12 Ground.phase, Edge.mk 13 Ground.phase] none)) (v := ?v14t8524) rfl (by kernel_rfl) (by kernel_rfl) (by kernel_rfl) (fun _ _ _ h => h) (Or.inl ⟨by rfl, ?hy14t8524⟩) (by assumption) ?rest14t8524
                        case hy14t8524 => (intro w hSw; (try dsimp only at hSw); go_simp; first | done | with_reducible rfl)
                        (try simp only [Act.put, List.setIfInBounds_toArray, List.set_cons_zero, List.set_cons_succ])
                        refine wpAnyH_done (by kernel_rfl) ?_ _
                        go_wp2_with fail
                        go_roundw
                        case rel => exact ⟨m + 1, HLM.out, (by rw [HOR.out]), by go_num, HQ.out.trans ⟨1, rfl⟩⟩
                        case measure => simp [intOf]; have := HLM.out; omega
                    · obtain rfl : m = l.length := by omega
                      have HWx := Lib.hid (HWt.out.below (HQ.out.below (B := wo.heap.size)))
                      have hsx := HWx.out.bl.size
                      clear hlm
                      have hsw := switch_any (u : Int) (n : Int) HWx.out.u
                      rw [usG_switch _ _ HU8.out HN2.out, H16.out] at hsw
                      have hs' : ∀ j, upN sd u (n : Int) j = 0 ∨ upN sd u (n : Int) j = 1 := fun j => by
                        unfold upN
                        split
                        · have := HN2.out; omega
                        · exact HWt.out.s j
                      have HS' := Lib.hid hs'
                      clear hs'
                      cases hd : flK l l.length (t.toNat % 16)
                      · rw [hd, if_neg (by simp)] at hsw
                        have HSW := Lib.hid hsw
                        have HDD := Lib.hid hd
                        clear hsw hd
                        go_wp2_with fail
                        refine (HSW.out).mono ?_
                        rintro e w5 ⟨rfl, hU, hF⟩
                        have HW5 : Hid (Wk w b g cap (upN sd u (n : Int)) (flK l l.length) w5) := Lib.hid ⟨hU, HS'.out, HWt.out.g, HWx.out.bl.trans (hF.toBelow hsx (fun k hk => by subst hk; exact HWt.out.g))⟩
                        clear hU hF
                        go_wp2_with fail
                        refine (active_any (u : Int) HW5.out.u).mono ?_
                        rintro e w6 ⟨rfl, rfl⟩
                        rw [usG_active _ _ HU8.out, show upN sd u (n : Int) u = n from if_pos rfl]
                        go_wp2_with fail
                        refine (working_any (u : Int) HW5.out.u (usG_ok _ HS'.out)).mono ?_
                        rintro e w7 ⟨rfl, hq⟩
                        rw [usG_work2 _ _ HU8.out HN2.out (by rw [H16.out]; exact HDD.out)]
                        have HQ7 := Lib.hid hq
                        clear hq
                        go_wp2_with fail
                        go_roundw
                        case rel => exact ⟨k + 1, upN sd u (n : Int), HLT2.out, by go_num, HW5.out.below HQ7.out.below⟩
                        case measure => simp [intOf]; have := HLT2.out; omega
                      · rw [hd, if_pos rfl] at hsw
                        have HSW := Lib.hid hsw
                        clear hsw hd
                        go_wp2_with fail
                        refine (HSW.out).mono ?_
                        rintro e w5 ⟨rfl, hU, hF⟩
                        have HW5 : Hid (Wk w b g cap sd (flK l l.length) w5) := Lib.hid ⟨hU, HWt.out.s, HWt.out.g, HWx.out.bl.trans (hF.toBelow hsx (fun k hk => by subst hk; exact HWt.out.g))⟩
                        clear hU hF
                        go_wp2_with fail
                        refine (active_any (u : Int) HW5.out.u).mono ?_
                        rintro e w6 ⟨rfl, rfl⟩
                        rw [usG_active _ _ HU8.out]
                        go_wp2_with fail
                        go_roundw
                        case rel => exact ⟨k + 1, sd, HLT2.out, by go_num, HW5.out⟩
                        case measure => simp [intOf]; have := HLT2.out; omega
                · obtain rfl : k = l2.length := by omega
                  clear hlt
                  go_wp2_with fail
                  refine (broken_any HWt.out.u (usG_ok _ HWt.out.s)).mono ?_
                  intro e w5 h
                  obtain ⟨ab, cb, rfl, hV, hab, hB⟩ := h.list
                  have HAB : Hid (∀ p, ab = some p → p.block ≠ g) := Lib.hid (fun p hp e => by have h1 := hab p hp; have h2 := HWt.out.u.row.lt; omega)
                  have HW5 := Lib.hid (HWt.out.below hB)
                  have HV5 := Lib.hid hV
                  have OKU := Lib.hid (usG_ok (flK l l.length) HWt.out.s)
                  have hbl5 : (brokenS (usG sd (flK l l.length))).length ≤ 1000000 := by
                    have h1 := broken_le (usG sd (flK l l.length)) (usG sd (flK l l.length)).length
                    rw [List.take_length] at h1
                    have h2 : (usG sd (flK l l.length)).length = 8 := by simp [usG]
                    omega
                  clear h hV hB hab
                  go_wp2_with fail
                  go_loopw [19] (fun i wx => ∃ (j : Nat), j ≤ 8 ∧ i = .int .i64 j ∧ Quiet w5 wx) (fun i _ => 8 - (intOf i).toNat)
                  case atStart => exact ⟨0, by omega, rfl, ⟨0, rfl⟩⟩
                  case round =>
                    obtain ⟨j, hj, rfl, hq⟩ := hrel
                    have HQ := Lib.hid hq
                    have HWj := Lib.hid (HW5.out.below hq.below)
                    have HVj := Lib.hid (HV5.out.below hq.below (Nat.le_refl _))
                    clear hq
                    by_cases hltj : j < 8
                    · have hj1 : (j : Int) < 8 := by omega
                      have HIN := Lib.hid (usG_in sd (flK l l.length) hltj)
                      have HLJ := Lib.hid (show j + 1 ≤ 8 from hltj)
                      clear hltj
                      go_wp2_with fail
                      refine (working_any (j : Int) HWj.out.u OKU.out).mono ?_
                      rintro e wk ⟨rfl, hq2⟩
                      have HQ2 := Lib.hid (HQ.out.trans hq2)
                      have HVk := Lib.hid (HVj.out.below hq2.below (Nat.le_refl _))
                      clear hq2
                      go_wp2_with fail
                      refine (in_any (j : Int) cb HVk.out hbl5).mono ?_
                      rintro e w' ⟨rfl, rfl⟩
                      rw [HIN.out]
                      cases hw : workS (usG sd (flK l l.length)) j
                      all_goals
                        clear hw
                        go_wp2_with fail
                        go_roundw
                        case rel => exact ⟨j + 1, HLJ.out, by go_num, HQ2.out⟩
                        case measure => simp [intOf]; have := HLJ.out; omega
                    · obtain rfl : j = 8 := by omega
                      go_wp2_with fail
                      refine (sides_any HWj.out.u).mono ?_
                      intro e w6 h
                      obtain ⟨asx, cs, rfl, hV6, ha6, hB6⟩ := h.list
                      have HW6 := Lib.hid (HWj.out.below hB6)
                      have HV6 := Lib.hid hV6
                      have HB6 := Lib.hid (HVj.out.below hB6 (Nat.le_refl _))
                      have hne6 : Hid (∀ p, asx = some p → p.block ≠ g) := Lib.hid (fun p hp e => by have h1 := ha6 p hp; have h2 := HWj.out.u.row.lt; omega)
                      have hs6 := HW6.out.bl.size
                      clear h hV6 ha6 hB6
                      go_wp2_with fail
                      have hra := restore_any (sidesS (usG sd (flK l l.length))) asx cs HW6.out.u HV6.out (fun _ => hne6.out)
                      rw [restore_same OKU.out] at hra
                      refine hra.mono ?_
                      rintro e w7 ⟨rfl, hU7, hF7⟩
                      have HU7 := Lib.hid hU7
                      have HB7 := Lib.hid (HW6.out.bl.trans (hF7.toBelow hs6 (fun k hk => by subst hk; exact HW6.out.g)))
                      have hs7 := HB7.out.size
                      have HV7 : Hid (VAt w7 ab (ivs (brokenS (usG sd (flK l l.length))))) := Lib.hid (HB6.out.fr hF7 (fun p hp => HAB.out p hp))
                      clear hU7 hF7 hra
                      go_wp2_with fail
                      refine (broken_any HU7.out OKU.out).mono ?_
                      intro e w8 h
                      obtain ⟨a8, c8, rfl, hV8, -, hB8⟩ := h.list
                      have HV8 := Lib.hid hV8
                      have HV78 := Lib.hid (HV7.out.below hB8 (Nat.le_refl _))
                      have HB8 := Lib.hid (HB7.out.trans (hB8.mono hs7))
                      have hs8 := HB8.out.size
                      clear h hV8 hB8
                      go_wp2_with fail
                      have hin := ints_any (la := brokenS (usG sd (flK l l.length))) (lb := brokenS (usG sd (flK l l.length))) c8 cb HV8.out HV78.out hbl5
                      rw [decide_eq_true rfl] at hin
                      refine hin.mono ?_
                      rintro e w9 ⟨rfl, hq⟩
                      have HB9 := Lib.hid (HB8.out.trans hq.below)
                      have hs9 := HB9.out.size
                      clear hq hin
                      go_wp2_with fail
                      refine (alive_any _).mono ?_
                      rintro e w10 ⟨rfl, hB⟩
                      have HB10 := Lib.hid (HB9.out.trans (hB.mono hs9))
                      clear hB
                      go_wp2_with fail
                      go_ret
                      exact ⟨rfl, HB10.out⟩
    · have hn2' : (40 : Int) < l2.length := by omega
      go_enter Try.func4, Try.ntmps4
      go_wp2_with fail
      refine (alive_any _).mono ?_
      rintro e w2 ⟨rfl, hB2⟩
      go_wp2_with fail
      go_ret
      exact ⟨rfl, hB2⟩
  · have hn' : (40 : Int) < l.length := by omega
    go_enter Try.func4, Try.ntmps4
    go_wp2_with fail
    refine (alive_any _).mono ?_
    rintro e w2 ⟨rfl, hB2⟩
    go_wp2_with fail
    go_ret
    exact ⟨rfl, hB2⟩


set_option maxRecDepth 100000 in
theorem lifted (os : Os) (started : os.Started) (H : Type) (enc : TypeId × Value → H) :
    ReturnsInHanded {} Try.checked os 4 .any (Rows.unitsWorkSpec.pre6 enc Try.prog Try.f4 Rows.unitsWorkRow.domain false) (Rows.unitsWorkSpec.post enc Try.prog Try.f4 false true false false) := by
  refine returnsInHanded_of_change (C := Try.checked) own started (by kernel_rfl) Try.func4
    (ChangeSpec.witness6 (enc := enc) (C := Try.checked) false ⟨#[], #[.slice none 0 0, .slice none 0 0], []⟩ 8 (by kernel_rfl) (by kernel_rfl) (by kernel_rfl) (by kernel_rfl)) ?_
  intro W base args ds gs before hval0 hW hcnd _
  have hval : ∀ (j : Nat) t v, Try.f4.params[j]? = some t → args[j]? = some v → Value.okWide Try.prog W .any base t v := hval0
  have hW' := hW
  obtain ⟨p, q, hA0, hV, rfl, hfz, hnd⟩ := hW
  have hA : DataW.TrodAll enc Try.prog W 0 (fun _ => true) true Try.f4.params.toList args.toList ds p := hA0
  rw [Try.params4] at hA hval
  obtain ⟨v0, vs0, d0, ds0, p0, q0, hargs, rfl, rfl, h0, r0⟩ := trodAll_cons hA
  obtain ⟨v1, vs1, d1, ds1, p1, q1, rfl, rfl, rfl, h1, r1⟩ := trodAll_cons r0
  obtain ⟨rfl, rfl, rfl⟩ := trodAll_nil r1
  obtain rfl : args = #[v0, v1] := by cases args; simp_all
  obtain ⟨rfl, rfl⟩ := trodVars_none hV
  have k0 := h0
  have lt0 : ∀ x ∈ p0, x.block < W.heap.size := by obtain ⟨m, hm⟩ := k0; exact DataW.trod_lt m _ _ _ hm
  have k1 := h1
  have lt1 : ∀ x ∈ p1, x.block < W.heap.size := by obtain ⟨m, hm⟩ := k1; exact DataW.trod_lt m _ _ _ hm
  clear hA0 hval0
  refine (walk v0 v1 W (hval 0 37 v0 rfl rfl) k0 (hval 1 37 v1 rfl rfl) k1).mono fun e W' ⟨he, bel⟩ => ?_
  subst he
  exact ⟨_, rfl, _, _, _, [], _, [], hW', trodAll_mk1 (shut_bool Try.underlying4 _), (trodAll_cons_mk (Below.trod laidOut (by kernel_rfl) (of_decide_eq_true (by kernel_rfl)) k0 bel lt0) (trodAll_cons_mk (Below.trod laidOut (by kernel_rfl) (of_decide_eq_true (by kernel_rfl)) k1 bel lt1) trodAll_mk0)), rfl, bel.frame _, fun h => by cases h⟩

theorem over : Rows.unitsWorkRow.holds Try.pinned (OpenSpec.ofChange Rows.unitsWorkSpec) :=
  OpenClaim.holds_of_wide 4 Try.f4 rfl rfl rfl rfl rfl rfl rfl ⟨rfl, rfl, rfl, rfl, rfl⟩ rfl rfl rfl rfl rfl (by kernel_rfl) Try.func4 (by kernel_rfl)
    (of_decide_eq_true (by kernel_rfl)) (by unfold Func.isWrapper; first | (rw [if_pos (by decide +kernel)]; kernel_rfl) | (rw [if_neg (by decide +kernel)]; exact ⟨rfl, rfl⟩))
    (fun os started H enc _ => lifted os started H enc)

theorem proved : Rows.UnitsWorkSaid := over
#print axioms proved
end Go.Proofs.Ytgfloeclepmdlaa.unitsWork

/- The law PacketEncodes holds: the walk, then the lift to the given statement. No condition. -/
import Derived.Test.YtelbfohiadklgaaL
import Derived.WalkKit
import Derived.ProofKit
import Derived.OpenShut
import Derived.Lib.Hide
import Derived.ChangeOld
import Derived.Below
import Derived.SizedLaws
namespace Go.Proofs.Ytelbfohiadklgaa.packetEncodes
open Go.ChangeShapes Go.WideShapes Go.ChangeAt Go.RowKit
set_option linter.unusedVariables false
theorem own : ownKnob Try.prog.godebug = none := by kernel_rfl
theorem laidOut : laidOutB Try.prog = true := by kernel_rfl

set_option maxRecDepth 20000 in
set_option maxHeartbeats 2000000 in
theorem walk {H : Type} {enc : TypeId × Value → H} (v0 : Value) (w : World) {b0 : Nat} {d0 : DataW H} {p0 : List MemPlace} (ok0 : Value.okWide Try.prog w .any b0 24 v0) (tr0 : DataW.Trod enc Try.prog w 0 (fun _ => true) true 24 v0 d0 p0) : Calls Try.prog 3 #[v0] w fun e w' => e = .returned (.bool true) ∧ Below w.heap.size w w' := by
  obtain ⟨p, a, cap, rfl, hb, hl, hcm⟩ := arg_packet ok0 tr0
  have HBA := Lib.hid hb
  have HL := Lib.hid (Nat.le_trans hl hcm)
  clear hb ok0 tr0 hcm hl
  unfold Pk.val
  go_enter Try.func3, Try.ntmps3
  go_wp2_with fail
  have HB1 := Lib.hid (al (Below.refl _ w) (.cells #[.bool p.cmd, .bool p.sec, .int .i64 p.apid, .int .i64 p.flags, .int .i64 p.count, .slice a p.dat.length cap] 24))
  refine (encode_any p a cap _ HL.out (HBA.out.below HB1.out (Nat.le_refl _))).mono ?_
  rintro e w2 ⟨v1, rfl, hO, hB⟩
  have hk := (Blk.new w 24 [.bool p.cmd, .bool p.sec, .int .i64 p.apid, .int .i64 p.flags, .int .i64 p.count, .slice a p.dat.length cap]).below hB (Nat.le_refl _)
  have l0 := hk.at 0 rfl
  have l1 := hk.at 1 rfl
  have l2 := hk.at 2 rfl
  have l3 := hk.at 3 rfl
  have l4 := hk.at 4 rfl
  have l5 := hk.at 5 rfl
  have hlw2 := hk.lt
  have HB2 := Lib.hid (HB1.out.trans (hB.mono (by simp)))
  have HO := Lib.hid hO
  clear hO hB hk
  go_wp2_with fail
  refine (rencode_any p a cap _ HL.out (HBA.out.below HB2.out (Nat.le_refl _))).mono ?_
  rintro e w3 ⟨v2, rfl, O2w3, hB⟩
  have O1w3 := own_below HO.out hB (Nat.le_refl _)
  have s1 := own_str (w := w3.drew) O1w3
  have s2 := own_str (w := w3.drew) O2w3
  have HB3 := Lib.hid (HB2.out.trans (hB.mono HB2.out.size))
  have m0 := (hB.cell (p := ⟨w.heap.size, 0, none⟩) hlw2).trans l0
  have m1 := (hB.cell (p := ⟨w.heap.size, 1, none⟩) hlw2).trans l1
  have m2 := (hB.cell (p := ⟨w.heap.size, 2, none⟩) hlw2).trans l2
  have m3 := (hB.cell (p := ⟨w.heap.size, 3, none⟩) hlw2).trans l3
  have m4 := (hB.cell (p := ⟨w.heap.size, 4, none⟩) hlw2).trans l4
  have m5 := (hB.cell (p := ⟨w.heap.size, 5, none⟩) hlw2).trans l5
  have hlw3 := Nat.lt_of_lt_of_le hlw2 hB.size
  clear hB HO l0 l1 l2 l3 l4 l5
  go_wp2_with fail
  refine wp_region_held_drew (S := (fun w' => w'.cell? ⟨w.heap.size, 0, none⟩ = some (.bool p.cmd) ∧ w'.cell? ⟨w.heap.size, 1, none⟩ = some (.bool p.sec) ∧ w'.cell? ⟨w.heap.size, 2, none⟩ = some (.int .i64 p.apid) ∧ w'.cell? ⟨w.heap.size, 3, none⟩ = some (.int .i64 p.flags) ∧ w'.cell? ⟨w.heap.size, 4, none⟩ = some (.int .i64 p.count) ∧ w'.cell? ⟨w.heap.size, 5, none⟩ = some (.slice a p.dat.length cap) ∧ (convert 22 9 v1).run Try.prog w' = .ok (.string ⟨(encP p).1.toArray⟩) w' ∧ (convert 22 9 v2).run Try.prog w' = .ok (.string ⟨(encP p).1.toArray⟩) w')) (by kernel_rfl) (by (try dsimp only); first | exact ⟨by assumption, by assumption, by assumption, by assumption, by assumption, by assumption, by assumption, by assumption⟩ | go_keep) (fun hHeld => ?_)
  refine wpAnyH_take (i := 0) (oi := (Oper.mk (some 17) (Op.load 24 (Operand.tmp 1)) 24 "law.go:22" #[] none)) (v := ?v0t5a93x1) rfl (by kernel_rfl) (by kernel_rfl) (by kernel_rfl) (fun _ _ _ h => h) (Or.inl ⟨by rfl, ?hy0t5a93x1⟩) (by assumption) ?rest0t5a93x1
  case hy0t5a93x1 => (intro w hSw; (try dsimp only at hSw); go_simp; first | done | with_reducible rfl)
  (try simp only [Act.put, List.setIfInBounds_toArray, List.set_cons_zero, List.set_cons_succ])
  refine wpAnyH_take (i := 2) (oi := (Oper.mk (some 19) (Op.load 24 (Operand.tmp 1)) 24 "law.go:22" #[] none)) (v := ?v2t5a93x2) rfl (by kernel_rfl) (by kernel_rfl) (by kernel_rfl) (fun _ _ _ h => h) (Or.inl ⟨by rfl, ?hy2t5a93x2⟩) (by assumption) ?rest2t5a93x2
  case hy2t5a93x2 => (intro w hSw; (try dsimp only at hSw); go_simp; first | done | with_reducible rfl)
  (try simp only [Act.put, List.setIfInBounds_toArray, List.set_cons_zero, List.set_cons_succ])
  refine wpAnyH_ready (rs := [1]) (by kernel_rfl) (by simp) ?_
  refine AllReadyH.cons (o := (Oper.mk (some 18) (Op.call (Call.mk (Callee.value (Operand.func 9)) #[Operand.tmp 17] #[24])) 4 "law.go:22" #[Edge.mk 0 Ground.data] none)) rfl (fun K hK => ?_) (AllReadyH.nil)
  go_simp
  (go_at_call 9; refine (valid_any p a cap _ HL.out (HBA.out.below HB3.out.drew (Nat.le_refl _))).mono ?_; rintro e w4 ⟨rfl, hBw4⟩; have hBw4 := undrew hBw4; have HB4 := Lib.hid (HB3.out.trans (hBw4.mono HB3.out.size)); have n0 := (hBw4.cell (p := ⟨w.heap.size, 0, none⟩) hlw3).trans m0; have n1 := (hBw4.cell (p := ⟨w.heap.size, 1, none⟩) hlw3).trans m1; have n2 := (hBw4.cell (p := ⟨w.heap.size, 2, none⟩) hlw3).trans m2; have n3 := (hBw4.cell (p := ⟨w.heap.size, 3, none⟩) hlw3).trans m3; have n4 := (hBw4.cell (p := ⟨w.heap.size, 4, none⟩) hlw3).trans m4; have n5 := (hBw4.cell (p := ⟨w.heap.size, 5, none⟩) hlw3).trans m5; have hlw4 := Nat.lt_of_lt_of_le hlw3 hBw4.size; have O1w4 := own_below O1w3 hBw4 (Nat.le_refl _); have O2w4 := own_below O2w3 hBw4 (Nat.le_refl _); have s1w4 := own_str O1w4; have s2w4 := own_str O2w4; clear hBw4)
  refine hK.out _ _ (by (try dsimp only); first | exact ⟨by assumption, by assumption, by assumption, by assumption, by assumption, by assumption, by assumption, by assumption⟩ | go_keep) (fun hHeld => ?_)
  clear hK K
  (try simp only [Act.put, List.setIfInBounds_toArray, List.set_cons_zero, List.set_cons_succ])
  refine wpAnyH_ready (rs := [3]) (by kernel_rfl) (by simp) ?_
  refine AllReadyH.cons (o := (Oper.mk (some 20) (Op.call (Call.mk (Callee.value (Operand.func 10)) #[Operand.tmp 19] #[24])) 4 "law.go:22" #[Edge.mk 2 Ground.data, Edge.mk 1 Ground.chain] none)) rfl (fun K hK => ?_) (AllReadyH.nil)
  go_simp
  (go_at_call 10; refine (rvalid_any p a cap _ HL.out (HBA.out.below HB4.out (Nat.le_refl _))).mono ?_; rintro e w5 ⟨rfl, hBw5⟩; have HB5 := Lib.hid (HB4.out.trans (hBw5.mono HB4.out.size)); have o0 := (hBw5.cell (p := ⟨w.heap.size, 0, none⟩) hlw4).trans n0; have o1 := (hBw5.cell (p := ⟨w.heap.size, 1, none⟩) hlw4).trans n1; have o2 := (hBw5.cell (p := ⟨w.heap.size, 2, none⟩) hlw4).trans n2; have o3 := (hBw5.cell (p := ⟨w.heap.size, 3, none⟩) hlw4).trans n3; have o4 := (hBw5.cell (p := ⟨w.heap.size, 4, none⟩) hlw4).trans n4; have o5 := (hBw5.cell (p := ⟨w.heap.size, 5, none⟩) hlw4).trans n5; have hlw5 := Nat.lt_of_lt_of_le hlw4 hBw5.size; have O1w5 := own_below O1w4 hBw5 (Nat.le_refl _); have O2w5 := own_below O2w4 hBw5 (Nat.le_refl _); have s1w5 := own_str O1w5; have s2w5 := own_str O2w5; clear hBw5)
  refine hK.out _ _ (by (try dsimp only); first | exact ⟨by assumption, by assumption, by assumption, by assumption, by assumption, by assumption, by assumption, by assumption⟩ | go_keep) (fun hHeld => ?_)
  clear hK K
  (try simp only [Act.put, List.setIfInBounds_toArray, List.set_cons_zero, List.set_cons_succ])
  refine wpAnyH_take (i := 4) (oi := (Oper.mk (some 21) (Op.binOp BinOp.eql 4 (Operand.tmp 18) (Operand.tmp 20) 4) 4 "law.go:22" #[Edge.mk 1 Ground.data, Edge.mk 3 Ground.data] none)) (v := ?v4t5a93x3) rfl (by kernel_rfl) (by kernel_rfl) (by kernel_rfl) (fun _ _ _ h => h) (Or.inl ⟨by rfl, ?hy4t5a93x3⟩) (by assumption) ?rest4t5a93x3
  case hy4t5a93x3 => (intro w hSw; (try dsimp only at hSw); go_simp; first | done | with_reducible rfl)
  (try simp only [Act.put, List.setIfInBounds_toArray, List.set_cons_zero, List.set_cons_succ])
  refine wpAnyH_take (i := 5) (oi := (Oper.mk (some 22) (Op.move (Operand.tmp 21)) 4 "law.go:22" #[Edge.mk 4 Ground.data, Edge.mk 3 Ground.chain] none)) (v := ?v5t5a93x4) rfl (by kernel_rfl) (by kernel_rfl) (by kernel_rfl) (fun _ _ _ h => h) (Or.inl ⟨by rfl, ?hy5t5a93x4⟩) (by assumption) ?rest5t5a93x4
  case hy5t5a93x4 => (intro w hSw; (try dsimp only at hSw); go_simp; first | done | with_reducible rfl)
  (try simp only [Act.put, List.setIfInBounds_toArray, List.set_cons_zero, List.set_cons_succ])
  refine wpAnyH_take (i := 6) (oi := (Oper.mk (some 23) (Op.move (Operand.tmp 3)) 22 "law.go:22" #[Edge.mk 5 Ground.guard] (some (5, true)))) (v := ?v6t5a93x5) rfl (by kernel_rfl) (by kernel_rfl) (by kernel_rfl) (fun _ _ _ h => h) (Or.inl ⟨by rfl, ?hy6t5a93x5⟩) (by assumption) ?rest6t5a93x5
  case hy6t5a93x5 => (intro w hSw; (try dsimp only at hSw); go_simp; first | done | with_reducible rfl)
  (try simp only [Act.put, List.setIfInBounds_toArray, List.set_cons_zero, List.set_cons_succ])
  refine wpAnyH_take (i := 7) (oi := (Oper.mk (some 24) (Op.convert 22 9 (Operand.tmp 23)) 9 "law.go:22" #[Edge.mk 6 Ground.data, Edge.mk 5 Ground.guard] (some (5, true)))) (v := ?v7t5a93x6) rfl (by kernel_rfl) (by kernel_rfl) (by kernel_rfl) (fun _ _ _ h => h) (Or.inl ⟨by rfl, ?hy7t5a93x6⟩) (by assumption) ?rest7t5a93x6
  case hy7t5a93x6 => (intro w hSw; (try dsimp only at hSw); go_simp; first | done | with_reducible rfl)
  (try simp only [Act.put, List.setIfInBounds_toArray, List.set_cons_zero, List.set_cons_succ])
  refine wpAnyH_take (i := 8) (oi := (Oper.mk (some 25) (Op.move (Operand.tmp 5)) 22 "law.go:22" #[Edge.mk 5 Ground.guard] (some (5, true)))) (v := ?v8t5a93x7) rfl (by kernel_rfl) (by kernel_rfl) (by kernel_rfl) (fun _ _ _ h => h) (Or.inl ⟨by rfl, ?hy8t5a93x7⟩) (by assumption) ?rest8t5a93x7
  case hy8t5a93x7 => (intro w hSw; (try dsimp only at hSw); go_simp; first | done | with_reducible rfl)
  (try simp only [Act.put, List.setIfInBounds_toArray, List.set_cons_zero, List.set_cons_succ])
  refine wpAnyH_take (i := 9) (oi := (Oper.mk (some 26) (Op.convert 22 9 (Operand.tmp 25)) 9 "law.go:22" #[Edge.mk 8 Ground.data, Edge.mk 5 Ground.guard] (some (5, true)))) (v := ?v9t5a93x8) rfl (by kernel_rfl) (by kernel_rfl) (by kernel_rfl) (fun _ _ _ h => h) (Or.inl ⟨by rfl, ?hy9t5a93x8⟩) (by assumption) ?rest9t5a93x8
  case hy9t5a93x8 => (intro w hSw; (try dsimp only at hSw); go_simp; first | done | with_reducible rfl)
  (try simp only [Act.put, List.setIfInBounds_toArray, List.set_cons_zero, List.set_cons_succ])
  refine wpAnyH_take (i := 10) (oi := (Oper.mk (some 27) (Op.binOp BinOp.eql 9 (Operand.tmp 24) (Operand.tmp 26) 9) 4 "law.go:22" #[Edge.mk 7 Ground.data, Edge.mk 9 Ground.data, Edge.mk 5 Ground.guard] (some (5, true)))) (v := ?v10t5a93x9) rfl (by kernel_rfl) (by kernel_rfl) (by kernel_rfl) (fun _ _ _ h => h) (Or.inl ⟨by rfl, ?hy10t5a93x9⟩) (by assumption) ?rest10t5a93x9
  case hy10t5a93x9 => (intro w hSw; (try dsimp only at hSw); go_simp; first | done | with_reducible rfl)
  (try simp only [Act.put, List.setIfInBounds_toArray, List.set_cons_zero, List.set_cons_succ])
  refine wpAnyH_take (i := 11) (oi := (Oper.mk (some 28) (Op.pick (Operand.tmp 22) (Operand.tmp 27) (Operand.const (Value.bool false))) 4 "law.go:22" #[Edge.mk 5 Ground.data, Edge.mk 10 Ground.data] none)) (v := ?v11t5a93x10) rfl (by kernel_rfl) (by kernel_rfl) (by kernel_rfl) (fun _ _ _ h => h) (Or.inl ⟨by rfl, ?hy11t5a93x10⟩) (by assumption) ?rest11t5a93x10
  case hy11t5a93x10 => (intro w hSw; (try dsimp only at hSw); go_simp; first | done | with_reducible rfl)
  (try simp only [Act.put, List.setIfInBounds_toArray, List.set_cons_zero, List.set_cons_succ])
  refine wpAnyH_take (i := 12) (oi := (Oper.mk (some 29) (Op.move (Operand.tmp 28)) 4 "law.go:22" #[Edge.mk 11 Ground.data, Edge.mk 5 Ground.chain] none)) (v := ?v12t5a93x11) rfl (by kernel_rfl) (by kernel_rfl) (by kernel_rfl) (fun _ _ _ h => h) (Or.inl ⟨by rfl, ?hy12t5a93x11⟩) (by assumption) ?rest12t5a93x11
  case hy12t5a93x11 => (intro w hSw; (try dsimp only at hSw); go_simp; first | done | with_reducible rfl)
  (try simp only [Act.put, List.setIfInBounds_toArray, List.set_cons_zero, List.set_cons_succ])
  refine wpAnyH_take (i := 13) (oi := (Oper.mk (some 30) (Op.move (Operand.tmp 4)) 25 "law.go:22" #[Edge.mk 12 Ground.guard] (some (12, true)))) (v := ?v13t5a93x12) rfl (by kernel_rfl) (by kernel_rfl) (by kernel_rfl) (fun _ _ _ h => h) (Or.inl ⟨by rfl, ?hy13t5a93x12⟩) (by assumption) ?rest13t5a93x12
  case hy13t5a93x12 => (intro w hSw; (try dsimp only at hSw); go_simp; first | done | with_reducible rfl)
  (try simp only [Act.put, List.setIfInBounds_toArray, List.set_cons_zero, List.set_cons_succ])
  refine wpAnyH_take (i := 14) (oi := (Oper.mk (some 31) (Op.move (Operand.tmp 6)) 25 "law.go:22" #[Edge.mk 12 Ground.guard] (some (12, true)))) (v := ?v14t5a93x13) rfl (by kernel_rfl) (by kernel_rfl) (by kernel_rfl) (fun _ _ _ h => h) (Or.inl ⟨by rfl, ?hy14t5a93x13⟩) (by assumption) ?rest14t5a93x13
  case hy14t5a93x13 => (intro w hSw; (try dsimp only at hSw); go_simp; first | done | with_reducible rfl)
  (try simp only [Act.put, List.setIfInBounds_toArray, List.set_cons_zero, List.set_cons_succ])
  refine wpAnyH_take (i := 15) (oi := (Oper.mk (some 32) (Op.binOp BinOp.eql 25 (Operand.tmp 30) (Operand.tmp 31) 25) 4 "law.go:22" #[Edge.mk 13 Ground.data, Edge.mk 14 Ground.data, Edge.mk 12 Ground.guard] (some (12, true)))) (v := ?v15t5a93x14) rfl (by kernel_rfl) (by kernel_rfl) (by kernel_rfl) (fun _ _ _ h => h) (Or.inl ⟨by rfl, ?hy15t5a93x14⟩) (by assumption) ?rest15t5a93x14
  case hy15t5a93x14 => (intro w hSw; (try dsimp only at hSw); go_simp; first | done | with_reducible rfl)
  (try simp only [Act.put, List.setIfInBounds_toArray, List.set_cons_zero, List.set_cons_succ])
  refine wpAnyH_take (i := 16) (oi := (Oper.mk (some 33) (Op.pick (Operand.tmp 29) (Operand.tmp 32) (Operand.const (Value.bool false))) 4 "law.go:22" #[Edge.mk 12 Ground.data, Edge.mk 15 Ground.data] none)) (v := ?v16t5a93x15) rfl (by kernel_rfl) (by kernel_rfl) (by kernel_rfl) (fun _ _ _ h => h) (Or.inl ⟨by rfl, ?hy16t5a93x15⟩) (by assumption) ?rest16t5a93x15
  case hy16t5a93x15 => (intro w hSw; (try dsimp only at hSw); go_simp; first | done | with_reducible rfl)
  (try simp only [Act.put, List.setIfInBounds_toArray, List.set_cons_zero, List.set_cons_succ])
  refine wpAnyH_take (i := 17) (oi := (Oper.mk (some 34) (Op.move (Operand.tmp 33)) 4 "law.go:22" #[Edge.mk 16 Ground.data, Edge.mk 12 Ground.chain] none)) (v := ?v17t5a93x16) rfl (by kernel_rfl) (by kernel_rfl) (by kernel_rfl) (fun _ _ _ h => h) (Or.inl ⟨by rfl, ?hy17t5a93x16⟩) (by assumption) ?rest17t5a93x16
  case hy17t5a93x16 => (intro w hSw; (try dsimp only at hSw); go_simp; first | done | with_reducible rfl)
  (try simp only [Act.put, List.setIfInBounds_toArray, List.set_cons_zero, List.set_cons_succ])
  refine wpAnyH_ready (rs := [18]) (by kernel_rfl) (by simp) ?_
  refine AllReadyH.cons (o := (Oper.mk (some 35) (Op.call (Call.mk (Callee.value (Operand.func 11)) #[] #[])) 4 "law.go:22" #[Edge.mk 17 Ground.chain, Edge.mk 17 Ground.guard] (some (17, true)))) rfl (fun K hK => ?_) (AllReadyH.nil)
  go_simp
  (go_at_call 11; refine (alive_any _).mono ?_; rintro e w6 ⟨rfl, hBw6⟩; have HB6 := Lib.hid (HB5.out.trans (hBw6.mono HB5.out.size)); have o0 := (hBw6.cell (p := ⟨w.heap.size, 0, none⟩) hlw5).trans o0; have o1 := (hBw6.cell (p := ⟨w.heap.size, 1, none⟩) hlw5).trans o1; have o2 := (hBw6.cell (p := ⟨w.heap.size, 2, none⟩) hlw5).trans o2; have o3 := (hBw6.cell (p := ⟨w.heap.size, 3, none⟩) hlw5).trans o3; have o4 := (hBw6.cell (p := ⟨w.heap.size, 4, none⟩) hlw5).trans o4; have o5 := (hBw6.cell (p := ⟨w.heap.size, 5, none⟩) hlw5).trans o5; have O1w6 := own_below O1w5 hBw6 (Nat.le_refl _); have O2w6 := own_below O2w5 hBw6 (Nat.le_refl _); have s1w6 := own_str O1w6; have s2w6 := own_str O2w6; clear hBw6)
  refine hK.out _ _ (by (try dsimp only); first | exact ⟨by assumption, by assumption, by assumption, by assumption, by assumption, by assumption, by assumption, by assumption⟩ | go_keep) (fun hHeld => ?_)
  clear hK K
  (try simp only [Act.put, List.setIfInBounds_toArray, List.set_cons_zero, List.set_cons_succ])
  refine wpAnyH_take (i := 19) (oi := (Oper.mk (some 36) (Op.pick (Operand.tmp 34) (Operand.tmp 35) (Operand.const (Value.bool false))) 4 "law.go:22" #[Edge.mk 17 Ground.data, Edge.mk 18 Ground.data] none)) (v := ?v19t5a93x17) rfl (by kernel_rfl) (by kernel_rfl) (by kernel_rfl) (fun _ _ _ h => h) (Or.inl ⟨by rfl, ?hy19t5a93x17⟩) (by assumption) ?rest19t5a93x17
  case hy19t5a93x17 => (intro w hSw; (try dsimp only at hSw); go_simp; first | done | with_reducible rfl)
  (try simp only [Act.put, List.setIfInBounds_toArray, List.set_cons_zero, List.set_cons_succ])
  refine wpAnyH_take (i := 20) (oi := (Oper.mk (some 2) (Op.assign (Operand.tmp 36)) 4 "law.go:22" #[Edge.mk 19 Ground.data, Edge.mk 18 Ground.chain, Edge.mk 0 Ground.phase, Edge.mk 1 Ground.phase, Edge.mk 2 Ground.phase, Edge.mk 3 Ground.phase, Edge.mk 4 Ground.phase, Edge.mk 5 Ground.phase, Edge.mk 6 Ground.phase, Edge.mk 7 Ground.phase, Edge.mk 8 Ground.phase, Edge.mk 9 Ground.phase, Edge.mk 10 Ground.phase, Edge.mk 11 Ground.phase, Edge.mk 12 Ground.phase, Edge.mk 13 Ground.phase, Edge.mk 14 Ground.phase, Edge.mk 15 Ground.phase, Edge.mk 16 Ground.phase, Edge.mk 17 Ground.phase, Edge.mk 18 Ground.phase, Edge.mk 19 Ground.phase] none)) (v := ?v20t5a93x18) rfl (by kernel_rfl) (by kernel_rfl) (by kernel_rfl) (fun _ _ _ h => h) (Or.inl ⟨by rfl, ?hy20t5a93x18⟩) (by assumption) ?rest20t5a93x18
  case hy20t5a93x18 => (intro w hSw; (try dsimp only at hSw); go_simp; first | done | with_reducible rfl)
  (try simp only [Act.put, List.setIfInBounds_toArray, List.set_cons_zero, List.set_cons_succ])
  refine wpAnyH_done (by kernel_rfl) ?_ _
  go_wp2_with fail
  go_ret
  exact ⟨rfl, HB6.out⟩


set_option maxRecDepth 100000 in
theorem lifted (os : Os) (started : os.Started) (H : Type) (enc : TypeId × Value → H) :
    ReturnsInHanded {} Try.checked os 3 .any (Rows.packetEncodesSpec.pre6 enc Try.prog Try.f3 Rows.packetEncodesRow.domain false) (Rows.packetEncodesSpec.post enc Try.prog Try.f3 false true false false) := by
  refine returnsInHanded_of_change (C := Try.checked) own started (by kernel_rfl) Try.func3
    (ChangeSpec.witness6 (enc := enc) (C := Try.checked) false ⟨#[], #[.agg #[.bool false, .bool false, .int .i64 0, .int .i64 0, .int .i64 0, .slice none 0 0]], []⟩ 8 (by kernel_rfl) (by kernel_rfl) (by kernel_rfl) (by kernel_rfl)) ?_
  intro W base args ds gs before hval0 hW hcnd _
  have hval : ∀ (j : Nat) t v, Try.f3.params[j]? = some t → args[j]? = some v → Value.okWide Try.prog W .any base t v := hval0
  have hW' := hW
  obtain ⟨p, q, hA0, hV, rfl, hfz, hnd⟩ := hW
  have hA : DataW.TrodAll enc Try.prog W 0 (fun _ => true) true Try.f3.params.toList args.toList ds p := hA0
  rw [Try.params3] at hA hval
  obtain ⟨v0, vs0, d0, ds0, p0, q0, hargs, rfl, rfl, h0, r0⟩ := trodAll_cons hA
  obtain ⟨rfl, rfl, rfl⟩ := trodAll_nil r0
  obtain rfl : args = #[v0] := by cases args; simp_all
  obtain ⟨rfl, rfl⟩ := trodVars_none hV
  have k0 := h0
  have lt0 : ∀ x ∈ p0, x.block < W.heap.size := by obtain ⟨m, hm⟩ := k0; exact DataW.trod_lt m _ _ _ hm
  clear hA0 hval0
  refine (walk v0 W (hval 0 24 v0 rfl rfl) k0).mono fun e W' ⟨he, bel⟩ => ?_
  subst he
  exact ⟨_, rfl, _, _, _, [], _, [], hW', trodAll_mk1 (shut_bool Try.underlying4 _), (trodAll_cons_mk (Below.trod laidOut (by kernel_rfl) (of_decide_eq_true (by kernel_rfl)) k0 bel lt0) trodAll_mk0), rfl, bel.frame _, fun h => by cases h⟩

theorem over : Rows.packetEncodesRow.holds Try.pinned (OpenSpec.ofChange Rows.packetEncodesSpec) :=
  OpenClaim.holds_of_wide 3 Try.f3 rfl rfl rfl rfl rfl rfl rfl ⟨rfl, rfl, rfl, rfl, rfl⟩ rfl rfl rfl rfl rfl (by kernel_rfl) Try.func3 (by kernel_rfl)
    (of_decide_eq_true (by kernel_rfl)) (by unfold Func.isWrapper; first | (rw [if_pos (by decide +kernel)]; kernel_rfl) | (rw [if_neg (by decide +kernel)]; exact ⟨rfl, rfl⟩))
    (fun os started H enc _ => lifted os started H enc)

theorem proved : Rows.PacketEncodesSaid := over
#print axioms proved
end Go.Proofs.Ytelbfohiadklgaa.packetEncodes

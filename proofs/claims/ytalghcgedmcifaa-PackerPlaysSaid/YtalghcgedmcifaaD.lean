/- Contracts of idle, Valid of both sides. No condition. -/
import Derived.Test.YtalghcgedmcifaaC
import Derived.Deep.RegionHeld3
namespace Go.Proofs.Ytalghcgedmcifaa
open Go.RowKit Go.Deep Go.ChangeShapes Go.WideShapes Go.ChangeAt
set_option linter.unusedVariables false
set_option linter.unusedSimpArgs false

def Pk.cells (p : Pk) (a : Option Addr) (cap : Nat) : List Value := [.bool p.cmd, .bool p.sec, .int .i64 p.apid, .int .i64 p.flags, .int .i64 p.count, .slice a p.dat.length cap]
def Pk.val (p : Pk) (a : Option Addr) (cap : Nat) : Value := .agg #[.bool p.cmd, .bool p.sec, .int .i64 p.apid, .int .i64 p.flags, .int .i64 p.count, .slice a p.dat.length cap]
def Pk.box (p : Pk) (a : Option Addr) (cap : Nat) : Obj := .cells #[.bool p.cmd, .bool p.sec, .int .i64 p.apid, .int .i64 p.flags, .int .i64 p.count, .slice a p.dat.length cap] 59
/-- a call gives a bool and leaves what lay -/
def BQ (w : World) (r : Bool) (e : Ending) (w' : World) : Prop := e = .returned (.bool r) ∧ Below w.heap.size w w'

set_option maxRecDepth 20000 in
set_option maxHeartbeats 2000000 in
theorem idle_cmd (p : Pk) (a : Option Addr) (cap : Nat) (w : World) (hl : p.dat.length ≤ 1000000000) (hb : BAt w a p.dat) (h0 : p.cmd = true) : Calls Try.prog 38 #[p.val a cap] w (BQ w (idleB p)) := by
  have HV : Hid (idleB p = false) := Lib.hid (by unfold idleB; rw [h0]; simp)
  clear hb
  obtain ⟨cmd, sec, apid, flags, count, dat⟩ := p
  unfold Pk.val
  simp only at hl h0 ⊢
  subst h0
  go_enter Try.func38, Try.ntmps38
  go_wp2_with fail
  refine wp_region_held_drew (S := (fun w' => w'.cell? ⟨w.heap.size, 0, none⟩ = some (.bool true) ∧ w'.cell? ⟨w.heap.size, 1, none⟩ = some (.bool sec) ∧ w'.cell? ⟨w.heap.size, 3, none⟩ = some (.int .i64 flags) ∧ w'.cell? ⟨w.heap.size, 4, none⟩ = some (.int .i64 count) ∧ w'.cell? ⟨w.heap.size, 5, none⟩ = some (.slice a dat.length cap))) (by kernel_rfl) (by (try dsimp only); go_keep) (fun hHeld => ?_)
  refine wpAnyH_take (i := 0) (oi := (Oper.mk (some 3) (Op.fieldAddr 59 (Operand.tmp 1) 0) 0 "packet.go:15" #[] none)) (v := ?v0t4c02x1) rfl (by kernel_rfl) (by kernel_rfl) (by kernel_rfl) (fun _ _ _ h => h) (Or.inl ⟨by rfl, ?hy0t4c02x1⟩) (by assumption) ?rest0t4c02x1
  case hy0t4c02x1 => (intro w hSw; (try dsimp only at hSw); go_simp; first | done | with_reducible rfl)
  (try simp only [Act.put, List.setIfInBounds_toArray, List.set_cons_zero, List.set_cons_succ])
  refine wpAnyH_take (i := 1) (oi := (Oper.mk (some 4) (Op.load 4 (Operand.tmp 3)) 4 "packet.go:15" #[Edge.mk 0 Ground.data] none)) (v := ?v1t4c02x2) rfl (by kernel_rfl) (by kernel_rfl) (by kernel_rfl) (fun _ _ _ h => h) (Or.inl ⟨by rfl, ?hy1t4c02x2⟩) (by assumption) ?rest1t4c02x2
  case hy1t4c02x2 => (intro w hSw; (try dsimp only at hSw); go_simp; first | done | with_reducible rfl)
  (try simp only [Act.put, List.setIfInBounds_toArray, List.set_cons_zero, List.set_cons_succ])
  refine wpAnyH_take (i := 2) (oi := (Oper.mk (some 5) (Op.unOp UnOp.not 4 (Operand.tmp 4)) 4 "packet.go:15" #[Edge.mk 1 Ground.data] none)) (v := ?v2t4c02x3) rfl (by kernel_rfl) (by kernel_rfl) (by kernel_rfl) (fun _ _ _ h => h) (Or.inl ⟨by rfl, ?hy2t4c02x3⟩) (by assumption) ?rest2t4c02x3
  case hy2t4c02x3 => (intro w hSw; (try dsimp only at hSw); go_simp; first | done | with_reducible rfl)
  (try simp only [Act.put, List.setIfInBounds_toArray, List.set_cons_zero, List.set_cons_succ])
  refine wpAnyH_take (i := 3) (oi := (Oper.mk (some 6) (Op.move (Operand.tmp 5)) 4 "packet.go:15" #[Edge.mk 2 Ground.data] none)) (v := ?v3t4c02x4) rfl (by kernel_rfl) (by kernel_rfl) (by kernel_rfl) (fun _ _ _ h => h) (Or.inl ⟨by rfl, ?hy3t4c02x4⟩) (by assumption) ?rest3t4c02x4
  case hy3t4c02x4 => (intro w hSw; (try dsimp only at hSw); go_simp; first | done | with_reducible rfl)
  (try simp only [Act.put, List.setIfInBounds_toArray, List.set_cons_zero, List.set_cons_succ])
  refine wpAnyH_take (i := 4) (oi := (Oper.mk (some 7) (Op.fieldAddr 59 (Operand.tmp 1) 1) 0 "packet.go:15" #[Edge.mk 3 Ground.guard] (some (3, true)))) (v := undef) rfl (by kernel_rfl) (by kernel_rfl) (by kernel_rfl) (fun _ _ _ h => h) (Or.inr ⟨by rfl, rfl⟩) (by assumption) ?_
  (try simp only [Act.put, List.setIfInBounds_toArray, List.set_cons_zero, List.set_cons_succ])
  refine wpAnyH_take (i := 5) (oi := (Oper.mk (some 8) (Op.load 4 (Operand.tmp 7)) 4 "packet.go:15" #[Edge.mk 4 Ground.data, Edge.mk 3 Ground.guard] (some (3, true)))) (v := undef) rfl (by kernel_rfl) (by kernel_rfl) (by kernel_rfl) (fun _ _ _ h => h) (Or.inr ⟨by rfl, rfl⟩) (by assumption) ?_
  (try simp only [Act.put, List.setIfInBounds_toArray, List.set_cons_zero, List.set_cons_succ])
  refine wpAnyH_take (i := 6) (oi := (Oper.mk (some 9) (Op.unOp UnOp.not 4 (Operand.tmp 8)) 4 "packet.go:15" #[Edge.mk 5 Ground.data, Edge.mk 3 Ground.guard] (some (3, true)))) (v := undef) rfl (by kernel_rfl) (by kernel_rfl) (by kernel_rfl) (fun _ _ _ h => h) (Or.inr ⟨by rfl, rfl⟩) (by assumption) ?_
  (try simp only [Act.put, List.setIfInBounds_toArray, List.set_cons_zero, List.set_cons_succ])
  refine wpAnyH_take (i := 7) (oi := (Oper.mk (some 10) (Op.pick (Operand.tmp 6) (Operand.tmp 9) (Operand.const (Value.bool false))) 4 "packet.go:15" #[Edge.mk 3 Ground.data, Edge.mk 6 Ground.data] none)) (v := ?v7t4c02x8) rfl (by kernel_rfl) (by kernel_rfl) (by kernel_rfl) (fun _ _ _ h => h) (Or.inl ⟨by rfl, ?hy7t4c02x8⟩) (by assumption) ?rest7t4c02x8
  case hy7t4c02x8 => (intro w hSw; (try dsimp only at hSw); go_simp; first | done | with_reducible rfl)
  (try simp only [Act.put, List.setIfInBounds_toArray, List.set_cons_zero, List.set_cons_succ])
  refine wpAnyH_take (i := 8) (oi := (Oper.mk (some 11) (Op.move (Operand.tmp 10)) 4 "packet.go:15" #[Edge.mk 7 Ground.data, Edge.mk 3 Ground.chain] none)) (v := ?v8t4c02x9) rfl (by kernel_rfl) (by kernel_rfl) (by kernel_rfl) (fun _ _ _ h => h) (Or.inl ⟨by rfl, ?hy8t4c02x9⟩) (by assumption) ?rest8t4c02x9
  case hy8t4c02x9 => (intro w hSw; (try dsimp only at hSw); go_simp; first | done | with_reducible rfl)
  (try simp only [Act.put, List.setIfInBounds_toArray, List.set_cons_zero, List.set_cons_succ])
  refine wpAnyH_take (i := 9) (oi := (Oper.mk (some 12) (Op.fieldAddr 59 (Operand.tmp 1) 3) 0 "packet.go:15" #[Edge.mk 8 Ground.guard] (some (8, true)))) (v := undef) rfl (by kernel_rfl) (by kernel_rfl) (by kernel_rfl) (fun _ _ _ h => h) (Or.inr ⟨by rfl, rfl⟩) (by assumption) ?_
  (try simp only [Act.put, List.setIfInBounds_toArray, List.set_cons_zero, List.set_cons_succ])
  refine wpAnyH_take (i := 10) (oi := (Oper.mk (some 13) (Op.load 3 (Operand.tmp 12)) 3 "packet.go:15" #[Edge.mk 9 Ground.data, Edge.mk 8 Ground.guard] (some (8, true)))) (v := undef) rfl (by kernel_rfl) (by kernel_rfl) (by kernel_rfl) (fun _ _ _ h => h) (Or.inr ⟨by rfl, rfl⟩) (by assumption) ?_
  (try simp only [Act.put, List.setIfInBounds_toArray, List.set_cons_zero, List.set_cons_succ])
  refine wpAnyH_take (i := 11) (oi := (Oper.mk (some 14) (Op.binOp BinOp.eql 3 (Operand.tmp 13) (Operand.const (Value.int IntKind.i64 3)) 3) 4 "packet.go:15" #[Edge.mk 10 Ground.data, Edge.mk 8 Ground.guard] (some (8, true)))) (v := undef) rfl (by kernel_rfl) (by kernel_rfl) (by kernel_rfl) (fun _ _ _ h => h) (Or.inr ⟨by rfl, rfl⟩) (by assumption) ?_
  (try simp only [Act.put, List.setIfInBounds_toArray, List.set_cons_zero, List.set_cons_succ])
  refine wpAnyH_take (i := 12) (oi := (Oper.mk (some 15) (Op.pick (Operand.tmp 11) (Operand.tmp 14) (Operand.const (Value.bool false))) 4 "packet.go:15" #[Edge.mk 8 Ground.data, Edge.mk 11 Ground.data] none)) (v := ?v12t4c02x13) rfl (by kernel_rfl) (by kernel_rfl) (by kernel_rfl) (fun _ _ _ h => h) (Or.inl ⟨by rfl, ?hy12t4c02x13⟩) (by assumption) ?rest12t4c02x13
  case hy12t4c02x13 => (intro w hSw; (try dsimp only at hSw); go_simp; first | done | with_reducible rfl)
  (try simp only [Act.put, List.setIfInBounds_toArray, List.set_cons_zero, List.set_cons_succ])
  refine wpAnyH_take (i := 13) (oi := (Oper.mk (some 16) (Op.move (Operand.tmp 15)) 4 "packet.go:15" #[Edge.mk 12 Ground.data, Edge.mk 8 Ground.chain] none)) (v := ?v13t4c02x14) rfl (by kernel_rfl) (by kernel_rfl) (by kernel_rfl) (fun _ _ _ h => h) (Or.inl ⟨by rfl, ?hy13t4c02x14⟩) (by assumption) ?rest13t4c02x14
  case hy13t4c02x14 => (intro w hSw; (try dsimp only at hSw); go_simp; first | done | with_reducible rfl)
  (try simp only [Act.put, List.setIfInBounds_toArray, List.set_cons_zero, List.set_cons_succ])
  refine wpAnyH_take (i := 14) (oi := (Oper.mk (some 17) (Op.fieldAddr 59 (Operand.tmp 1) 4) 0 "packet.go:15" #[Edge.mk 13 Ground.guard] (some (13, true)))) (v := undef) rfl (by kernel_rfl) (by kernel_rfl) (by kernel_rfl) (fun _ _ _ h => h) (Or.inr ⟨by rfl, rfl⟩) (by assumption) ?_
  (try simp only [Act.put, List.setIfInBounds_toArray, List.set_cons_zero, List.set_cons_succ])
  refine wpAnyH_take (i := 15) (oi := (Oper.mk (some 18) (Op.load 3 (Operand.tmp 17)) 3 "packet.go:15" #[Edge.mk 14 Ground.data, Edge.mk 13 Ground.guard] (some (13, true)))) (v := undef) rfl (by kernel_rfl) (by kernel_rfl) (by kernel_rfl) (fun _ _ _ h => h) (Or.inr ⟨by rfl, rfl⟩) (by assumption) ?_
  (try simp only [Act.put, List.setIfInBounds_toArray, List.set_cons_zero, List.set_cons_succ])
  refine wpAnyH_take (i := 16) (oi := (Oper.mk (some 19) (Op.binOp BinOp.eql 3 (Operand.tmp 18) (Operand.const (Value.int IntKind.i64 0)) 3) 4 "packet.go:15" #[Edge.mk 15 Ground.data, Edge.mk 13 Ground.guard] (some (13, true)))) (v := undef) rfl (by kernel_rfl) (by kernel_rfl) (by kernel_rfl) (fun _ _ _ h => h) (Or.inr ⟨by rfl, rfl⟩) (by assumption) ?_
  (try simp only [Act.put, List.setIfInBounds_toArray, List.set_cons_zero, List.set_cons_succ])
  refine wpAnyH_take (i := 17) (oi := (Oper.mk (some 20) (Op.pick (Operand.tmp 16) (Operand.tmp 19) (Operand.const (Value.bool false))) 4 "packet.go:15" #[Edge.mk 13 Ground.data, Edge.mk 16 Ground.data] none)) (v := ?v17t4c02x18) rfl (by kernel_rfl) (by kernel_rfl) (by kernel_rfl) (fun _ _ _ h => h) (Or.inl ⟨by rfl, ?hy17t4c02x18⟩) (by assumption) ?rest17t4c02x18
  case hy17t4c02x18 => (intro w hSw; (try dsimp only at hSw); go_simp; first | done | with_reducible rfl)
  (try simp only [Act.put, List.setIfInBounds_toArray, List.set_cons_zero, List.set_cons_succ])
  refine wpAnyH_take (i := 18) (oi := (Oper.mk (some 21) (Op.move (Operand.tmp 20)) 4 "packet.go:15" #[Edge.mk 17 Ground.data, Edge.mk 13 Ground.chain] none)) (v := ?v18t4c02x19) rfl (by kernel_rfl) (by kernel_rfl) (by kernel_rfl) (fun _ _ _ h => h) (Or.inl ⟨by rfl, ?hy18t4c02x19⟩) (by assumption) ?rest18t4c02x19
  case hy18t4c02x19 => (intro w hSw; (try dsimp only at hSw); go_simp; first | done | with_reducible rfl)
  (try simp only [Act.put, List.setIfInBounds_toArray, List.set_cons_zero, List.set_cons_succ])
  refine wpAnyH_take (i := 19) (oi := (Oper.mk (some 22) (Op.fieldAddr 59 (Operand.tmp 1) 5) 0 "packet.go:15" #[Edge.mk 18 Ground.guard] (some (18, true)))) (v := undef) rfl (by kernel_rfl) (by kernel_rfl) (by kernel_rfl) (fun _ _ _ h => h) (Or.inr ⟨by rfl, rfl⟩) (by assumption) ?_
  (try simp only [Act.put, List.setIfInBounds_toArray, List.set_cons_zero, List.set_cons_succ])
  refine wpAnyH_take (i := 20) (oi := (Oper.mk (some 23) (Op.load 22 (Operand.tmp 22)) 22 "packet.go:15" #[Edge.mk 19 Ground.data, Edge.mk 18 Ground.guard] (some (18, true)))) (v := undef) rfl (by kernel_rfl) (by kernel_rfl) (by kernel_rfl) (fun _ _ _ h => h) (Or.inr ⟨by rfl, rfl⟩) (by assumption) ?_
  (try simp only [Act.put, List.setIfInBounds_toArray, List.set_cons_zero, List.set_cons_succ])
  refine wpAnyH_take (i := 21) (oi := (Oper.mk (some 24) (Op.buildSlice 22 1 #[(0, Operand.const (Value.int IntKind.u8 0))]) 22 "packet.go:15" #[Edge.mk 18 Ground.guard] (some (18, true)))) (v := undef) rfl (by kernel_rfl) (by kernel_rfl) (by kernel_rfl) (fun _ _ _ h => h) (Or.inr ⟨by rfl, rfl⟩) (by assumption) ?_
  (try simp only [Act.put, List.setIfInBounds_toArray, List.set_cons_zero, List.set_cons_succ])
  refine wpAnyH_take (i := 22) (oi := (Oper.mk (some 25) (Op.call (Call.mk (Callee.value (Operand.func 41)) #[Operand.tmp 23, Operand.tmp 24] #[22, 22])) 3 "packet.go:15" #[Edge.mk 20 Ground.data, Edge.mk 21 Ground.data, Edge.mk 18 Ground.chain, Edge.mk 18 Ground.guard] (some (18, true)))) (v := undef) rfl (by kernel_rfl) (by kernel_rfl) (by kernel_rfl) (fun _ _ _ h => h) (Or.inr ⟨by rfl, rfl⟩) (by assumption) ?_
  (try simp only [Act.put, List.setIfInBounds_toArray, List.set_cons_zero, List.set_cons_succ])
  refine wpAnyH_take (i := 23) (oi := (Oper.mk (some 26) (Op.fieldAddr 59 (Operand.tmp 1) 5) 0 "packet.go:15" #[Edge.mk 18 Ground.guard] (some (18, true)))) (v := undef) rfl (by kernel_rfl) (by kernel_rfl) (by kernel_rfl) (fun _ _ _ h => h) (Or.inr ⟨by rfl, rfl⟩) (by assumption) ?_
  (try simp only [Act.put, List.setIfInBounds_toArray, List.set_cons_zero, List.set_cons_succ])
  refine wpAnyH_take (i := 24) (oi := (Oper.mk (some 27) (Op.load 22 (Operand.tmp 26)) 22 "packet.go:15" #[Edge.mk 23 Ground.data, Edge.mk 18 Ground.guard] (some (18, true)))) (v := undef) rfl (by kernel_rfl) (by kernel_rfl) (by kernel_rfl) (fun _ _ _ h => h) (Or.inr ⟨by rfl, rfl⟩) (by assumption) ?_
  (try simp only [Act.put, List.setIfInBounds_toArray, List.set_cons_zero, List.set_cons_succ])
  refine wpAnyH_take (i := 25) (oi := (Oper.mk (some 28) (Op.call (Call.mk (Callee.builtin Builtin.len) #[Operand.tmp 27] #[22])) 3 "packet.go:15" #[Edge.mk 24 Ground.data, Edge.mk 18 Ground.guard] (some (18, true)))) (v := undef) rfl (by kernel_rfl) (by kernel_rfl) (by kernel_rfl) (fun _ _ _ h => h) (Or.inr ⟨by rfl, rfl⟩) (by assumption) ?_
  (try simp only [Act.put, List.setIfInBounds_toArray, List.set_cons_zero, List.set_cons_succ])
  refine wpAnyH_take (i := 26) (oi := (Oper.mk (some 29) (Op.binOp BinOp.eql 3 (Operand.tmp 25) (Operand.tmp 28) 3) 4 "packet.go:15" #[Edge.mk 22 Ground.data, Edge.mk 25 Ground.data, Edge.mk 18 Ground.guard] (some (18, true)))) (v := undef) rfl (by kernel_rfl) (by kernel_rfl) (by kernel_rfl) (fun _ _ _ h => h) (Or.inr ⟨by rfl, rfl⟩) (by assumption) ?_
  (try simp only [Act.put, List.setIfInBounds_toArray, List.set_cons_zero, List.set_cons_succ])
  refine wpAnyH_take (i := 27) (oi := (Oper.mk (some 30) (Op.pick (Operand.tmp 21) (Operand.tmp 29) (Operand.const (Value.bool false))) 4 "packet.go:15" #[Edge.mk 18 Ground.data, Edge.mk 26 Ground.data] none)) (v := ?v27t4c02x28) rfl (by kernel_rfl) (by kernel_rfl) (by kernel_rfl) (fun _ _ _ h => h) (Or.inl ⟨by rfl, ?hy27t4c02x28⟩) (by assumption) ?rest27t4c02x28
  case hy27t4c02x28 => (intro w hSw; (try dsimp only at hSw); go_simp; first | done | with_reducible rfl)
  (try simp only [Act.put, List.setIfInBounds_toArray, List.set_cons_zero, List.set_cons_succ])
  refine wpAnyH_take (i := 28) (oi := (Oper.mk (some 2) (Op.assign (Operand.tmp 30)) 4 "packet.go:15" #[Edge.mk 27 Ground.data, Edge.mk 22 Ground.chain, Edge.mk 0 Ground.phase, Edge.mk 1 Ground.phase, Edge.mk 2 Ground.phase, Edge.mk 3 Ground.phase, Edge.mk 4 Ground.phase, Edge.mk 5 Ground.phase, Edge.mk 6 Ground.phase, Edge.mk 7 Ground.phase, Edge.mk 8 Ground.phase, Edge.mk 9 Ground.phase, Edge.mk 10 Ground.phase, Edge.mk 11 Ground.phase, Edge.mk 12 Ground.phase, Edge.mk 13 Ground.phase, Edge.mk 14 Ground.phase, Edge.mk 15 Ground.phase, Edge.mk 16 Ground.phase, Edge.mk 17 Ground.phase, Edge.mk 18 Ground.phase, Edge.mk 19 Ground.phase, Edge.mk 20 Ground.phase, Edge.mk 21 Ground.phase, Edge.mk 22 Ground.phase, Edge.mk 23 Ground.phase, Edge.mk 24 Ground.phase, Edge.mk 25 Ground.phase, Edge.mk 26 Ground.phase, Edge.mk 27 Ground.phase] none)) (v := ?v28t4c02x29) rfl (by kernel_rfl) (by kernel_rfl) (by kernel_rfl) (fun _ _ _ h => h) (Or.inl ⟨by rfl, ?hy28t4c02x29⟩) (by assumption) ?rest28t4c02x29
  case hy28t4c02x29 => (intro w hSw; (try dsimp only at hSw); go_simp; first | done | with_reducible rfl)
  (try simp only [Act.put, List.setIfInBounds_toArray, List.set_cons_zero, List.set_cons_succ])
  refine wpAnyH_done (by kernel_rfl) ?_ _
  go_wp2_with fail
  go_ret
  exact ⟨ret_bool HV.out.symm, (al (Below.refl _ _) _).drew⟩
set_option maxRecDepth 20000 in
set_option maxHeartbeats 2000000 in
theorem idle_sec (p : Pk) (a : Option Addr) (cap : Nat) (w : World) (hl : p.dat.length ≤ 1000000000) (hb : BAt w a p.dat) (h0 : p.cmd = false) (h1 : p.sec = true) : Calls Try.prog 38 #[p.val a cap] w (BQ w (idleB p)) := by
  have HV : Hid (idleB p = false) := Lib.hid (by unfold idleB; rw [h0, h1]; simp)
  clear hb
  obtain ⟨cmd, sec, apid, flags, count, dat⟩ := p
  unfold Pk.val
  simp only at hl h0 h1 ⊢
  subst h0 h1
  go_enter Try.func38, Try.ntmps38
  go_wp2_with fail
  refine wp_region_held_drew (S := (fun w' => w'.cell? ⟨w.heap.size, 0, none⟩ = some (.bool false) ∧ w'.cell? ⟨w.heap.size, 1, none⟩ = some (.bool true) ∧ w'.cell? ⟨w.heap.size, 3, none⟩ = some (.int .i64 flags) ∧ w'.cell? ⟨w.heap.size, 4, none⟩ = some (.int .i64 count) ∧ w'.cell? ⟨w.heap.size, 5, none⟩ = some (.slice a dat.length cap))) (by kernel_rfl) (by (try dsimp only); go_keep) (fun hHeld => ?_)
  refine wpAnyH_take (i := 0) (oi := (Oper.mk (some 3) (Op.fieldAddr 59 (Operand.tmp 1) 0) 0 "packet.go:15" #[] none)) (v := ?v0t10bfx1) rfl (by kernel_rfl) (by kernel_rfl) (by kernel_rfl) (fun _ _ _ h => h) (Or.inl ⟨by rfl, ?hy0t10bfx1⟩) (by assumption) ?rest0t10bfx1
  case hy0t10bfx1 => (intro w hSw; (try dsimp only at hSw); go_simp; first | done | with_reducible rfl)
  (try simp only [Act.put, List.setIfInBounds_toArray, List.set_cons_zero, List.set_cons_succ])
  refine wpAnyH_take (i := 1) (oi := (Oper.mk (some 4) (Op.load 4 (Operand.tmp 3)) 4 "packet.go:15" #[Edge.mk 0 Ground.data] none)) (v := ?v1t10bfx2) rfl (by kernel_rfl) (by kernel_rfl) (by kernel_rfl) (fun _ _ _ h => h) (Or.inl ⟨by rfl, ?hy1t10bfx2⟩) (by assumption) ?rest1t10bfx2
  case hy1t10bfx2 => (intro w hSw; (try dsimp only at hSw); go_simp; first | done | with_reducible rfl)
  (try simp only [Act.put, List.setIfInBounds_toArray, List.set_cons_zero, List.set_cons_succ])
  refine wpAnyH_take (i := 2) (oi := (Oper.mk (some 5) (Op.unOp UnOp.not 4 (Operand.tmp 4)) 4 "packet.go:15" #[Edge.mk 1 Ground.data] none)) (v := ?v2t10bfx3) rfl (by kernel_rfl) (by kernel_rfl) (by kernel_rfl) (fun _ _ _ h => h) (Or.inl ⟨by rfl, ?hy2t10bfx3⟩) (by assumption) ?rest2t10bfx3
  case hy2t10bfx3 => (intro w hSw; (try dsimp only at hSw); go_simp; first | done | with_reducible rfl)
  (try simp only [Act.put, List.setIfInBounds_toArray, List.set_cons_zero, List.set_cons_succ])
  refine wpAnyH_take (i := 3) (oi := (Oper.mk (some 6) (Op.move (Operand.tmp 5)) 4 "packet.go:15" #[Edge.mk 2 Ground.data] none)) (v := ?v3t10bfx4) rfl (by kernel_rfl) (by kernel_rfl) (by kernel_rfl) (fun _ _ _ h => h) (Or.inl ⟨by rfl, ?hy3t10bfx4⟩) (by assumption) ?rest3t10bfx4
  case hy3t10bfx4 => (intro w hSw; (try dsimp only at hSw); go_simp; first | done | with_reducible rfl)
  (try simp only [Act.put, List.setIfInBounds_toArray, List.set_cons_zero, List.set_cons_succ])
  refine wpAnyH_take (i := 4) (oi := (Oper.mk (some 7) (Op.fieldAddr 59 (Operand.tmp 1) 1) 0 "packet.go:15" #[Edge.mk 3 Ground.guard] (some (3, true)))) (v := ?v4t10bfx5) rfl (by kernel_rfl) (by kernel_rfl) (by kernel_rfl) (fun _ _ _ h => h) (Or.inl ⟨by rfl, ?hy4t10bfx5⟩) (by assumption) ?rest4t10bfx5
  case hy4t10bfx5 => (intro w hSw; (try dsimp only at hSw); go_simp; first | done | with_reducible rfl)
  (try simp only [Act.put, List.setIfInBounds_toArray, List.set_cons_zero, List.set_cons_succ])
  refine wpAnyH_take (i := 5) (oi := (Oper.mk (some 8) (Op.load 4 (Operand.tmp 7)) 4 "packet.go:15" #[Edge.mk 4 Ground.data, Edge.mk 3 Ground.guard] (some (3, true)))) (v := ?v5t10bfx6) rfl (by kernel_rfl) (by kernel_rfl) (by kernel_rfl) (fun _ _ _ h => h) (Or.inl ⟨by rfl, ?hy5t10bfx6⟩) (by assumption) ?rest5t10bfx6
  case hy5t10bfx6 => (intro w hSw; (try dsimp only at hSw); go_simp; first | done | with_reducible rfl)
  (try simp only [Act.put, List.setIfInBounds_toArray, List.set_cons_zero, List.set_cons_succ])
  refine wpAnyH_take (i := 6) (oi := (Oper.mk (some 9) (Op.unOp UnOp.not 4 (Operand.tmp 8)) 4 "packet.go:15" #[Edge.mk 5 Ground.data, Edge.mk 3 Ground.guard] (some (3, true)))) (v := ?v6t10bfx7) rfl (by kernel_rfl) (by kernel_rfl) (by kernel_rfl) (fun _ _ _ h => h) (Or.inl ⟨by rfl, ?hy6t10bfx7⟩) (by assumption) ?rest6t10bfx7
  case hy6t10bfx7 => (intro w hSw; (try dsimp only at hSw); go_simp; first | done | with_reducible rfl)
  (try simp only [Act.put, List.setIfInBounds_toArray, List.set_cons_zero, List.set_cons_succ])
  refine wpAnyH_take (i := 7) (oi := (Oper.mk (some 10) (Op.pick (Operand.tmp 6) (Operand.tmp 9) (Operand.const (Value.bool false))) 4 "packet.go:15" #[Edge.mk 3 Ground.data, Edge.mk 6 Ground.data] none)) (v := ?v7t10bfx8) rfl (by kernel_rfl) (by kernel_rfl) (by kernel_rfl) (fun _ _ _ h => h) (Or.inl ⟨by rfl, ?hy7t10bfx8⟩) (by assumption) ?rest7t10bfx8
  case hy7t10bfx8 => (intro w hSw; (try dsimp only at hSw); go_simp; first | done | with_reducible rfl)
  (try simp only [Act.put, List.setIfInBounds_toArray, List.set_cons_zero, List.set_cons_succ])
  refine wpAnyH_take (i := 8) (oi := (Oper.mk (some 11) (Op.move (Operand.tmp 10)) 4 "packet.go:15" #[Edge.mk 7 Ground.data, Edge.mk 3 Ground.chain] none)) (v := ?v8t10bfx9) rfl (by kernel_rfl) (by kernel_rfl) (by kernel_rfl) (fun _ _ _ h => h) (Or.inl ⟨by rfl, ?hy8t10bfx9⟩) (by assumption) ?rest8t10bfx9
  case hy8t10bfx9 => (intro w hSw; (try dsimp only at hSw); go_simp; first | done | with_reducible rfl)
  (try simp only [Act.put, List.setIfInBounds_toArray, List.set_cons_zero, List.set_cons_succ])
  refine wpAnyH_take (i := 9) (oi := (Oper.mk (some 12) (Op.fieldAddr 59 (Operand.tmp 1) 3) 0 "packet.go:15" #[Edge.mk 8 Ground.guard] (some (8, true)))) (v := undef) rfl (by kernel_rfl) (by kernel_rfl) (by kernel_rfl) (fun _ _ _ h => h) (Or.inr ⟨by rfl, rfl⟩) (by assumption) ?_
  (try simp only [Act.put, List.setIfInBounds_toArray, List.set_cons_zero, List.set_cons_succ])
  refine wpAnyH_take (i := 10) (oi := (Oper.mk (some 13) (Op.load 3 (Operand.tmp 12)) 3 "packet.go:15" #[Edge.mk 9 Ground.data, Edge.mk 8 Ground.guard] (some (8, true)))) (v := undef) rfl (by kernel_rfl) (by kernel_rfl) (by kernel_rfl) (fun _ _ _ h => h) (Or.inr ⟨by rfl, rfl⟩) (by assumption) ?_
  (try simp only [Act.put, List.setIfInBounds_toArray, List.set_cons_zero, List.set_cons_succ])
  refine wpAnyH_take (i := 11) (oi := (Oper.mk (some 14) (Op.binOp BinOp.eql 3 (Operand.tmp 13) (Operand.const (Value.int IntKind.i64 3)) 3) 4 "packet.go:15" #[Edge.mk 10 Ground.data, Edge.mk 8 Ground.guard] (some (8, true)))) (v := undef) rfl (by kernel_rfl) (by kernel_rfl) (by kernel_rfl) (fun _ _ _ h => h) (Or.inr ⟨by rfl, rfl⟩) (by assumption) ?_
  (try simp only [Act.put, List.setIfInBounds_toArray, List.set_cons_zero, List.set_cons_succ])
  refine wpAnyH_take (i := 12) (oi := (Oper.mk (some 15) (Op.pick (Operand.tmp 11) (Operand.tmp 14) (Operand.const (Value.bool false))) 4 "packet.go:15" #[Edge.mk 8 Ground.data, Edge.mk 11 Ground.data] none)) (v := ?v12t10bfx13) rfl (by kernel_rfl) (by kernel_rfl) (by kernel_rfl) (fun _ _ _ h => h) (Or.inl ⟨by rfl, ?hy12t10bfx13⟩) (by assumption) ?rest12t10bfx13
  case hy12t10bfx13 => (intro w hSw; (try dsimp only at hSw); go_simp; first | done | with_reducible rfl)
  (try simp only [Act.put, List.setIfInBounds_toArray, List.set_cons_zero, List.set_cons_succ])
  refine wpAnyH_take (i := 13) (oi := (Oper.mk (some 16) (Op.move (Operand.tmp 15)) 4 "packet.go:15" #[Edge.mk 12 Ground.data, Edge.mk 8 Ground.chain] none)) (v := ?v13t10bfx14) rfl (by kernel_rfl) (by kernel_rfl) (by kernel_rfl) (fun _ _ _ h => h) (Or.inl ⟨by rfl, ?hy13t10bfx14⟩) (by assumption) ?rest13t10bfx14
  case hy13t10bfx14 => (intro w hSw; (try dsimp only at hSw); go_simp; first | done | with_reducible rfl)
  (try simp only [Act.put, List.setIfInBounds_toArray, List.set_cons_zero, List.set_cons_succ])
  refine wpAnyH_take (i := 14) (oi := (Oper.mk (some 17) (Op.fieldAddr 59 (Operand.tmp 1) 4) 0 "packet.go:15" #[Edge.mk 13 Ground.guard] (some (13, true)))) (v := undef) rfl (by kernel_rfl) (by kernel_rfl) (by kernel_rfl) (fun _ _ _ h => h) (Or.inr ⟨by rfl, rfl⟩) (by assumption) ?_
  (try simp only [Act.put, List.setIfInBounds_toArray, List.set_cons_zero, List.set_cons_succ])
  refine wpAnyH_take (i := 15) (oi := (Oper.mk (some 18) (Op.load 3 (Operand.tmp 17)) 3 "packet.go:15" #[Edge.mk 14 Ground.data, Edge.mk 13 Ground.guard] (some (13, true)))) (v := undef) rfl (by kernel_rfl) (by kernel_rfl) (by kernel_rfl) (fun _ _ _ h => h) (Or.inr ⟨by rfl, rfl⟩) (by assumption) ?_
  (try simp only [Act.put, List.setIfInBounds_toArray, List.set_cons_zero, List.set_cons_succ])
  refine wpAnyH_take (i := 16) (oi := (Oper.mk (some 19) (Op.binOp BinOp.eql 3 (Operand.tmp 18) (Operand.const (Value.int IntKind.i64 0)) 3) 4 "packet.go:15" #[Edge.mk 15 Ground.data, Edge.mk 13 Ground.guard] (some (13, true)))) (v := undef) rfl (by kernel_rfl) (by kernel_rfl) (by kernel_rfl) (fun _ _ _ h => h) (Or.inr ⟨by rfl, rfl⟩) (by assumption) ?_
  (try simp only [Act.put, List.setIfInBounds_toArray, List.set_cons_zero, List.set_cons_succ])
  refine wpAnyH_take (i := 17) (oi := (Oper.mk (some 20) (Op.pick (Operand.tmp 16) (Operand.tmp 19) (Operand.const (Value.bool false))) 4 "packet.go:15" #[Edge.mk 13 Ground.data, Edge.mk 16 Ground.data] none)) (v := ?v17t10bfx18) rfl (by kernel_rfl) (by kernel_rfl) (by kernel_rfl) (fun _ _ _ h => h) (Or.inl ⟨by rfl, ?hy17t10bfx18⟩) (by assumption) ?rest17t10bfx18
  case hy17t10bfx18 => (intro w hSw; (try dsimp only at hSw); go_simp; first | done | with_reducible rfl)
  (try simp only [Act.put, List.setIfInBounds_toArray, List.set_cons_zero, List.set_cons_succ])
  refine wpAnyH_take (i := 18) (oi := (Oper.mk (some 21) (Op.move (Operand.tmp 20)) 4 "packet.go:15" #[Edge.mk 17 Ground.data, Edge.mk 13 Ground.chain] none)) (v := ?v18t10bfx19) rfl (by kernel_rfl) (by kernel_rfl) (by kernel_rfl) (fun _ _ _ h => h) (Or.inl ⟨by rfl, ?hy18t10bfx19⟩) (by assumption) ?rest18t10bfx19
  case hy18t10bfx19 => (intro w hSw; (try dsimp only at hSw); go_simp; first | done | with_reducible rfl)
  (try simp only [Act.put, List.setIfInBounds_toArray, List.set_cons_zero, List.set_cons_succ])
  refine wpAnyH_take (i := 19) (oi := (Oper.mk (some 22) (Op.fieldAddr 59 (Operand.tmp 1) 5) 0 "packet.go:15" #[Edge.mk 18 Ground.guard] (some (18, true)))) (v := undef) rfl (by kernel_rfl) (by kernel_rfl) (by kernel_rfl) (fun _ _ _ h => h) (Or.inr ⟨by rfl, rfl⟩) (by assumption) ?_
  (try simp only [Act.put, List.setIfInBounds_toArray, List.set_cons_zero, List.set_cons_succ])
  refine wpAnyH_take (i := 20) (oi := (Oper.mk (some 23) (Op.load 22 (Operand.tmp 22)) 22 "packet.go:15" #[Edge.mk 19 Ground.data, Edge.mk 18 Ground.guard] (some (18, true)))) (v := undef) rfl (by kernel_rfl) (by kernel_rfl) (by kernel_rfl) (fun _ _ _ h => h) (Or.inr ⟨by rfl, rfl⟩) (by assumption) ?_
  (try simp only [Act.put, List.setIfInBounds_toArray, List.set_cons_zero, List.set_cons_succ])
  refine wpAnyH_take (i := 21) (oi := (Oper.mk (some 24) (Op.buildSlice 22 1 #[(0, Operand.const (Value.int IntKind.u8 0))]) 22 "packet.go:15" #[Edge.mk 18 Ground.guard] (some (18, true)))) (v := undef) rfl (by kernel_rfl) (by kernel_rfl) (by kernel_rfl) (fun _ _ _ h => h) (Or.inr ⟨by rfl, rfl⟩) (by assumption) ?_
  (try simp only [Act.put, List.setIfInBounds_toArray, List.set_cons_zero, List.set_cons_succ])
  refine wpAnyH_take (i := 22) (oi := (Oper.mk (some 25) (Op.call (Call.mk (Callee.value (Operand.func 41)) #[Operand.tmp 23, Operand.tmp 24] #[22, 22])) 3 "packet.go:15" #[Edge.mk 20 Ground.data, Edge.mk 21 Ground.data, Edge.mk 18 Ground.chain, Edge.mk 18 Ground.guard] (some (18, true)))) (v := undef) rfl (by kernel_rfl) (by kernel_rfl) (by kernel_rfl) (fun _ _ _ h => h) (Or.inr ⟨by rfl, rfl⟩) (by assumption) ?_
  (try simp only [Act.put, List.setIfInBounds_toArray, List.set_cons_zero, List.set_cons_succ])
  refine wpAnyH_take (i := 23) (oi := (Oper.mk (some 26) (Op.fieldAddr 59 (Operand.tmp 1) 5) 0 "packet.go:15" #[Edge.mk 18 Ground.guard] (some (18, true)))) (v := undef) rfl (by kernel_rfl) (by kernel_rfl) (by kernel_rfl) (fun _ _ _ h => h) (Or.inr ⟨by rfl, rfl⟩) (by assumption) ?_
  (try simp only [Act.put, List.setIfInBounds_toArray, List.set_cons_zero, List.set_cons_succ])
  refine wpAnyH_take (i := 24) (oi := (Oper.mk (some 27) (Op.load 22 (Operand.tmp 26)) 22 "packet.go:15" #[Edge.mk 23 Ground.data, Edge.mk 18 Ground.guard] (some (18, true)))) (v := undef) rfl (by kernel_rfl) (by kernel_rfl) (by kernel_rfl) (fun _ _ _ h => h) (Or.inr ⟨by rfl, rfl⟩) (by assumption) ?_
  (try simp only [Act.put, List.setIfInBounds_toArray, List.set_cons_zero, List.set_cons_succ])
  refine wpAnyH_take (i := 25) (oi := (Oper.mk (some 28) (Op.call (Call.mk (Callee.builtin Builtin.len) #[Operand.tmp 27] #[22])) 3 "packet.go:15" #[Edge.mk 24 Ground.data, Edge.mk 18 Ground.guard] (some (18, true)))) (v := undef) rfl (by kernel_rfl) (by kernel_rfl) (by kernel_rfl) (fun _ _ _ h => h) (Or.inr ⟨by rfl, rfl⟩) (by assumption) ?_
  (try simp only [Act.put, List.setIfInBounds_toArray, List.set_cons_zero, List.set_cons_succ])
  refine wpAnyH_take (i := 26) (oi := (Oper.mk (some 29) (Op.binOp BinOp.eql 3 (Operand.tmp 25) (Operand.tmp 28) 3) 4 "packet.go:15" #[Edge.mk 22 Ground.data, Edge.mk 25 Ground.data, Edge.mk 18 Ground.guard] (some (18, true)))) (v := undef) rfl (by kernel_rfl) (by kernel_rfl) (by kernel_rfl) (fun _ _ _ h => h) (Or.inr ⟨by rfl, rfl⟩) (by assumption) ?_
  (try simp only [Act.put, List.setIfInBounds_toArray, List.set_cons_zero, List.set_cons_succ])
  refine wpAnyH_take (i := 27) (oi := (Oper.mk (some 30) (Op.pick (Operand.tmp 21) (Operand.tmp 29) (Operand.const (Value.bool false))) 4 "packet.go:15" #[Edge.mk 18 Ground.data, Edge.mk 26 Ground.data] none)) (v := ?v27t10bfx28) rfl (by kernel_rfl) (by kernel_rfl) (by kernel_rfl) (fun _ _ _ h => h) (Or.inl ⟨by rfl, ?hy27t10bfx28⟩) (by assumption) ?rest27t10bfx28
  case hy27t10bfx28 => (intro w hSw; (try dsimp only at hSw); go_simp; first | done | with_reducible rfl)
  (try simp only [Act.put, List.setIfInBounds_toArray, List.set_cons_zero, List.set_cons_succ])
  refine wpAnyH_take (i := 28) (oi := (Oper.mk (some 2) (Op.assign (Operand.tmp 30)) 4 "packet.go:15" #[Edge.mk 27 Ground.data, Edge.mk 22 Ground.chain, Edge.mk 0 Ground.phase, Edge.mk 1 Ground.phase, Edge.mk 2 Ground.phase, Edge.mk 3 Ground.phase, Edge.mk 4 Ground.phase, Edge.mk 5 Ground.phase, Edge.mk 6 Ground.phase, Edge.mk 7 Ground.phase, Edge.mk 8 Ground.phase, Edge.mk 9 Ground.phase, Edge.mk 10 Ground.phase, Edge.mk 11 Ground.phase, Edge.mk 12 Ground.phase, Edge.mk 13 Ground.phase, Edge.mk 14 Ground.phase, Edge.mk 15 Ground.phase, Edge.mk 16 Ground.phase, Edge.mk 17 Ground.phase, Edge.mk 18 Ground.phase, Edge.mk 19 Ground.phase, Edge.mk 20 Ground.phase, Edge.mk 21 Ground.phase, Edge.mk 22 Ground.phase, Edge.mk 23 Ground.phase, Edge.mk 24 Ground.phase, Edge.mk 25 Ground.phase, Edge.mk 26 Ground.phase, Edge.mk 27 Ground.phase] none)) (v := ?v28t10bfx29) rfl (by kernel_rfl) (by kernel_rfl) (by kernel_rfl) (fun _ _ _ h => h) (Or.inl ⟨by rfl, ?hy28t10bfx29⟩) (by assumption) ?rest28t10bfx29
  case hy28t10bfx29 => (intro w hSw; (try dsimp only at hSw); go_simp; first | done | with_reducible rfl)
  (try simp only [Act.put, List.setIfInBounds_toArray, List.set_cons_zero, List.set_cons_succ])
  refine wpAnyH_done (by kernel_rfl) ?_ _
  go_wp2_with fail
  go_ret
  exact ⟨ret_bool HV.out.symm, (al (Below.refl _ _) _).drew⟩
set_option maxRecDepth 20000 in
set_option maxHeartbeats 2000000 in
theorem idle_flags (p : Pk) (a : Option Addr) (cap : Nat) (w : World) (hl : p.dat.length ≤ 1000000000) (hb : BAt w a p.dat) (h0 : p.cmd = false) (h1 : p.sec = false) (h2 : p.flags ≠ 3) : Calls Try.prog 38 #[p.val a cap] w (BQ w (idleB p)) := by
  have HV : Hid (idleB p = false) := Lib.hid (by unfold idleB; rw [h0, h1, decide_eq_false h2]; simp)
  clear hb
  have e2 : (p.flags == 3) = false := by rw [beq_eq_false_iff_ne]; exact h2
  obtain ⟨cmd, sec, apid, flags, count, dat⟩ := p
  unfold Pk.val
  simp only at hl h0 h1 e2 ⊢
  subst h0 h1
  clear h2
  go_enter Try.func38, Try.ntmps38
  go_wp2_with fail
  refine wp_region_held_drew (S := (fun w' => w'.cell? ⟨w.heap.size, 0, none⟩ = some (.bool false) ∧ w'.cell? ⟨w.heap.size, 1, none⟩ = some (.bool false) ∧ w'.cell? ⟨w.heap.size, 3, none⟩ = some (.int .i64 flags) ∧ w'.cell? ⟨w.heap.size, 4, none⟩ = some (.int .i64 count) ∧ w'.cell? ⟨w.heap.size, 5, none⟩ = some (.slice a dat.length cap))) (by kernel_rfl) (by (try dsimp only); go_keep) (fun hHeld => ?_)
  refine wpAnyH_take (i := 0) (oi := (Oper.mk (some 3) (Op.fieldAddr 59 (Operand.tmp 1) 0) 0 "packet.go:15" #[] none)) (v := ?v0t34cfx1) rfl (by kernel_rfl) (by kernel_rfl) (by kernel_rfl) (fun _ _ _ h => h) (Or.inl ⟨by rfl, ?hy0t34cfx1⟩) (by assumption) ?rest0t34cfx1
  case hy0t34cfx1 => (intro w hSw; (try dsimp only at hSw); go_simp; first | done | with_reducible rfl)
  (try simp only [Act.put, List.setIfInBounds_toArray, List.set_cons_zero, List.set_cons_succ])
  refine wpAnyH_take (i := 1) (oi := (Oper.mk (some 4) (Op.load 4 (Operand.tmp 3)) 4 "packet.go:15" #[Edge.mk 0 Ground.data] none)) (v := ?v1t34cfx2) rfl (by kernel_rfl) (by kernel_rfl) (by kernel_rfl) (fun _ _ _ h => h) (Or.inl ⟨by rfl, ?hy1t34cfx2⟩) (by assumption) ?rest1t34cfx2
  case hy1t34cfx2 => (intro w hSw; (try dsimp only at hSw); go_simp; first | done | with_reducible rfl)
  (try simp only [Act.put, List.setIfInBounds_toArray, List.set_cons_zero, List.set_cons_succ])
  refine wpAnyH_take (i := 2) (oi := (Oper.mk (some 5) (Op.unOp UnOp.not 4 (Operand.tmp 4)) 4 "packet.go:15" #[Edge.mk 1 Ground.data] none)) (v := ?v2t34cfx3) rfl (by kernel_rfl) (by kernel_rfl) (by kernel_rfl) (fun _ _ _ h => h) (Or.inl ⟨by rfl, ?hy2t34cfx3⟩) (by assumption) ?rest2t34cfx3
  case hy2t34cfx3 => (intro w hSw; (try dsimp only at hSw); go_simp; first | done | with_reducible rfl)
  (try simp only [Act.put, List.setIfInBounds_toArray, List.set_cons_zero, List.set_cons_succ])
  refine wpAnyH_take (i := 3) (oi := (Oper.mk (some 6) (Op.move (Operand.tmp 5)) 4 "packet.go:15" #[Edge.mk 2 Ground.data] none)) (v := ?v3t34cfx4) rfl (by kernel_rfl) (by kernel_rfl) (by kernel_rfl) (fun _ _ _ h => h) (Or.inl ⟨by rfl, ?hy3t34cfx4⟩) (by assumption) ?rest3t34cfx4
  case hy3t34cfx4 => (intro w hSw; (try dsimp only at hSw); go_simp; first | done | with_reducible rfl)
  (try simp only [Act.put, List.setIfInBounds_toArray, List.set_cons_zero, List.set_cons_succ])
  refine wpAnyH_take (i := 4) (oi := (Oper.mk (some 7) (Op.fieldAddr 59 (Operand.tmp 1) 1) 0 "packet.go:15" #[Edge.mk 3 Ground.guard] (some (3, true)))) (v := ?v4t34cfx5) rfl (by kernel_rfl) (by kernel_rfl) (by kernel_rfl) (fun _ _ _ h => h) (Or.inl ⟨by rfl, ?hy4t34cfx5⟩) (by assumption) ?rest4t34cfx5
  case hy4t34cfx5 => (intro w hSw; (try dsimp only at hSw); go_simp; first | done | with_reducible rfl)
  (try simp only [Act.put, List.setIfInBounds_toArray, List.set_cons_zero, List.set_cons_succ])
  refine wpAnyH_take (i := 5) (oi := (Oper.mk (some 8) (Op.load 4 (Operand.tmp 7)) 4 "packet.go:15" #[Edge.mk 4 Ground.data, Edge.mk 3 Ground.guard] (some (3, true)))) (v := ?v5t34cfx6) rfl (by kernel_rfl) (by kernel_rfl) (by kernel_rfl) (fun _ _ _ h => h) (Or.inl ⟨by rfl, ?hy5t34cfx6⟩) (by assumption) ?rest5t34cfx6
  case hy5t34cfx6 => (intro w hSw; (try dsimp only at hSw); go_simp; first | done | with_reducible rfl)
  (try simp only [Act.put, List.setIfInBounds_toArray, List.set_cons_zero, List.set_cons_succ])
  refine wpAnyH_take (i := 6) (oi := (Oper.mk (some 9) (Op.unOp UnOp.not 4 (Operand.tmp 8)) 4 "packet.go:15" #[Edge.mk 5 Ground.data, Edge.mk 3 Ground.guard] (some (3, true)))) (v := ?v6t34cfx7) rfl (by kernel_rfl) (by kernel_rfl) (by kernel_rfl) (fun _ _ _ h => h) (Or.inl ⟨by rfl, ?hy6t34cfx7⟩) (by assumption) ?rest6t34cfx7
  case hy6t34cfx7 => (intro w hSw; (try dsimp only at hSw); go_simp; first | done | with_reducible rfl)
  (try simp only [Act.put, List.setIfInBounds_toArray, List.set_cons_zero, List.set_cons_succ])
  refine wpAnyH_take (i := 7) (oi := (Oper.mk (some 10) (Op.pick (Operand.tmp 6) (Operand.tmp 9) (Operand.const (Value.bool false))) 4 "packet.go:15" #[Edge.mk 3 Ground.data, Edge.mk 6 Ground.data] none)) (v := ?v7t34cfx8) rfl (by kernel_rfl) (by kernel_rfl) (by kernel_rfl) (fun _ _ _ h => h) (Or.inl ⟨by rfl, ?hy7t34cfx8⟩) (by assumption) ?rest7t34cfx8
  case hy7t34cfx8 => (intro w hSw; (try dsimp only at hSw); go_simp; first | done | with_reducible rfl)
  (try simp only [Act.put, List.setIfInBounds_toArray, List.set_cons_zero, List.set_cons_succ])
  refine wpAnyH_take (i := 8) (oi := (Oper.mk (some 11) (Op.move (Operand.tmp 10)) 4 "packet.go:15" #[Edge.mk 7 Ground.data, Edge.mk 3 Ground.chain] none)) (v := ?v8t34cfx9) rfl (by kernel_rfl) (by kernel_rfl) (by kernel_rfl) (fun _ _ _ h => h) (Or.inl ⟨by rfl, ?hy8t34cfx9⟩) (by assumption) ?rest8t34cfx9
  case hy8t34cfx9 => (intro w hSw; (try dsimp only at hSw); go_simp; first | done | with_reducible rfl)
  (try simp only [Act.put, List.setIfInBounds_toArray, List.set_cons_zero, List.set_cons_succ])
  refine wpAnyH_take (i := 9) (oi := (Oper.mk (some 12) (Op.fieldAddr 59 (Operand.tmp 1) 3) 0 "packet.go:15" #[Edge.mk 8 Ground.guard] (some (8, true)))) (v := ?v9t34cfx10) rfl (by kernel_rfl) (by kernel_rfl) (by kernel_rfl) (fun _ _ _ h => h) (Or.inl ⟨by rfl, ?hy9t34cfx10⟩) (by assumption) ?rest9t34cfx10
  case hy9t34cfx10 => (intro w hSw; (try dsimp only at hSw); go_simp; first | done | with_reducible rfl)
  (try simp only [Act.put, List.setIfInBounds_toArray, List.set_cons_zero, List.set_cons_succ])
  refine wpAnyH_take (i := 10) (oi := (Oper.mk (some 13) (Op.load 3 (Operand.tmp 12)) 3 "packet.go:15" #[Edge.mk 9 Ground.data, Edge.mk 8 Ground.guard] (some (8, true)))) (v := ?v10t34cfx11) rfl (by kernel_rfl) (by kernel_rfl) (by kernel_rfl) (fun _ _ _ h => h) (Or.inl ⟨by rfl, ?hy10t34cfx11⟩) (by assumption) ?rest10t34cfx11
  case hy10t34cfx11 => (intro w hSw; (try dsimp only at hSw); go_simp; first | done | with_reducible rfl)
  (try simp only [Act.put, List.setIfInBounds_toArray, List.set_cons_zero, List.set_cons_succ])
  refine wpAnyH_take (i := 11) (oi := (Oper.mk (some 14) (Op.binOp BinOp.eql 3 (Operand.tmp 13) (Operand.const (Value.int IntKind.i64 3)) 3) 4 "packet.go:15" #[Edge.mk 10 Ground.data, Edge.mk 8 Ground.guard] (some (8, true)))) (v := ?v11t34cfx12) rfl (by kernel_rfl) (by kernel_rfl) (by kernel_rfl) (fun _ _ _ h => h) (Or.inl ⟨by rfl, ?hy11t34cfx12⟩) (by assumption) ?rest11t34cfx12
  case hy11t34cfx12 => (intro w hSw; (try dsimp only at hSw); go_simp; first | done | with_reducible rfl)
  (try simp only [Act.put, List.setIfInBounds_toArray, List.set_cons_zero, List.set_cons_succ])
  refine wpAnyH_take (i := 12) (oi := (Oper.mk (some 15) (Op.pick (Operand.tmp 11) (Operand.tmp 14) (Operand.const (Value.bool false))) 4 "packet.go:15" #[Edge.mk 8 Ground.data, Edge.mk 11 Ground.data] none)) (v := ?v12t34cfx13) rfl (by kernel_rfl) (by kernel_rfl) (by kernel_rfl) (fun _ _ _ h => h) (Or.inl ⟨by rfl, ?hy12t34cfx13⟩) (by assumption) ?rest12t34cfx13
  case hy12t34cfx13 => (intro w hSw; (try dsimp only at hSw); go_simp; first | done | with_reducible rfl)
  (try simp only [Act.put, List.setIfInBounds_toArray, List.set_cons_zero, List.set_cons_succ])
  refine wpAnyH_take (i := 13) (oi := (Oper.mk (some 16) (Op.move (Operand.tmp 15)) 4 "packet.go:15" #[Edge.mk 12 Ground.data, Edge.mk 8 Ground.chain] none)) (v := ?v13t34cfx14) rfl (by kernel_rfl) (by kernel_rfl) (by kernel_rfl) (fun _ _ _ h => h) (Or.inl ⟨by rfl, ?hy13t34cfx14⟩) (by assumption) ?rest13t34cfx14
  case hy13t34cfx14 => (intro w hSw; (try dsimp only at hSw); go_simp; first | done | with_reducible rfl)
  (try simp only [Act.put, List.setIfInBounds_toArray, List.set_cons_zero, List.set_cons_succ])
  refine wpAnyH_take (i := 14) (oi := (Oper.mk (some 17) (Op.fieldAddr 59 (Operand.tmp 1) 4) 0 "packet.go:15" #[Edge.mk 13 Ground.guard] (some (13, true)))) (v := undef) rfl (by kernel_rfl) (by kernel_rfl) (by kernel_rfl) (fun _ _ _ h => h) (Or.inr ⟨by rfl, rfl⟩) (by assumption) ?_
  (try simp only [Act.put, List.setIfInBounds_toArray, List.set_cons_zero, List.set_cons_succ])
  refine wpAnyH_take (i := 15) (oi := (Oper.mk (some 18) (Op.load 3 (Operand.tmp 17)) 3 "packet.go:15" #[Edge.mk 14 Ground.data, Edge.mk 13 Ground.guard] (some (13, true)))) (v := undef) rfl (by kernel_rfl) (by kernel_rfl) (by kernel_rfl) (fun _ _ _ h => h) (Or.inr ⟨by rfl, rfl⟩) (by assumption) ?_
  (try simp only [Act.put, List.setIfInBounds_toArray, List.set_cons_zero, List.set_cons_succ])
  refine wpAnyH_take (i := 16) (oi := (Oper.mk (some 19) (Op.binOp BinOp.eql 3 (Operand.tmp 18) (Operand.const (Value.int IntKind.i64 0)) 3) 4 "packet.go:15" #[Edge.mk 15 Ground.data, Edge.mk 13 Ground.guard] (some (13, true)))) (v := undef) rfl (by kernel_rfl) (by kernel_rfl) (by kernel_rfl) (fun _ _ _ h => h) (Or.inr ⟨by rfl, rfl⟩) (by assumption) ?_
  (try simp only [Act.put, List.setIfInBounds_toArray, List.set_cons_zero, List.set_cons_succ])
  refine wpAnyH_take (i := 17) (oi := (Oper.mk (some 20) (Op.pick (Operand.tmp 16) (Operand.tmp 19) (Operand.const (Value.bool false))) 4 "packet.go:15" #[Edge.mk 13 Ground.data, Edge.mk 16 Ground.data] none)) (v := ?v17t34cfx18) rfl (by kernel_rfl) (by kernel_rfl) (by kernel_rfl) (fun _ _ _ h => h) (Or.inl ⟨by rfl, ?hy17t34cfx18⟩) (by assumption) ?rest17t34cfx18
  case hy17t34cfx18 => (intro w hSw; (try dsimp only at hSw); go_simp; first | done | with_reducible rfl)
  (try simp only [Act.put, List.setIfInBounds_toArray, List.set_cons_zero, List.set_cons_succ])
  refine wpAnyH_take (i := 18) (oi := (Oper.mk (some 21) (Op.move (Operand.tmp 20)) 4 "packet.go:15" #[Edge.mk 17 Ground.data, Edge.mk 13 Ground.chain] none)) (v := ?v18t34cfx19) rfl (by kernel_rfl) (by kernel_rfl) (by kernel_rfl) (fun _ _ _ h => h) (Or.inl ⟨by rfl, ?hy18t34cfx19⟩) (by assumption) ?rest18t34cfx19
  case hy18t34cfx19 => (intro w hSw; (try dsimp only at hSw); go_simp; first | done | with_reducible rfl)
  (try simp only [Act.put, List.setIfInBounds_toArray, List.set_cons_zero, List.set_cons_succ])
  refine wpAnyH_take (i := 19) (oi := (Oper.mk (some 22) (Op.fieldAddr 59 (Operand.tmp 1) 5) 0 "packet.go:15" #[Edge.mk 18 Ground.guard] (some (18, true)))) (v := undef) rfl (by kernel_rfl) (by kernel_rfl) (by kernel_rfl) (fun _ _ _ h => h) (Or.inr ⟨by rfl, rfl⟩) (by assumption) ?_
  (try simp only [Act.put, List.setIfInBounds_toArray, List.set_cons_zero, List.set_cons_succ])
  refine wpAnyH_take (i := 20) (oi := (Oper.mk (some 23) (Op.load 22 (Operand.tmp 22)) 22 "packet.go:15" #[Edge.mk 19 Ground.data, Edge.mk 18 Ground.guard] (some (18, true)))) (v := undef) rfl (by kernel_rfl) (by kernel_rfl) (by kernel_rfl) (fun _ _ _ h => h) (Or.inr ⟨by rfl, rfl⟩) (by assumption) ?_
  (try simp only [Act.put, List.setIfInBounds_toArray, List.set_cons_zero, List.set_cons_succ])
  refine wpAnyH_take (i := 21) (oi := (Oper.mk (some 24) (Op.buildSlice 22 1 #[(0, Operand.const (Value.int IntKind.u8 0))]) 22 "packet.go:15" #[Edge.mk 18 Ground.guard] (some (18, true)))) (v := undef) rfl (by kernel_rfl) (by kernel_rfl) (by kernel_rfl) (fun _ _ _ h => h) (Or.inr ⟨by rfl, rfl⟩) (by assumption) ?_
  (try simp only [Act.put, List.setIfInBounds_toArray, List.set_cons_zero, List.set_cons_succ])
  refine wpAnyH_take (i := 22) (oi := (Oper.mk (some 25) (Op.call (Call.mk (Callee.value (Operand.func 41)) #[Operand.tmp 23, Operand.tmp 24] #[22, 22])) 3 "packet.go:15" #[Edge.mk 20 Ground.data, Edge.mk 21 Ground.data, Edge.mk 18 Ground.chain, Edge.mk 18 Ground.guard] (some (18, true)))) (v := undef) rfl (by kernel_rfl) (by kernel_rfl) (by kernel_rfl) (fun _ _ _ h => h) (Or.inr ⟨by rfl, rfl⟩) (by assumption) ?_
  (try simp only [Act.put, List.setIfInBounds_toArray, List.set_cons_zero, List.set_cons_succ])
  refine wpAnyH_take (i := 23) (oi := (Oper.mk (some 26) (Op.fieldAddr 59 (Operand.tmp 1) 5) 0 "packet.go:15" #[Edge.mk 18 Ground.guard] (some (18, true)))) (v := undef) rfl (by kernel_rfl) (by kernel_rfl) (by kernel_rfl) (fun _ _ _ h => h) (Or.inr ⟨by rfl, rfl⟩) (by assumption) ?_
  (try simp only [Act.put, List.setIfInBounds_toArray, List.set_cons_zero, List.set_cons_succ])
  refine wpAnyH_take (i := 24) (oi := (Oper.mk (some 27) (Op.load 22 (Operand.tmp 26)) 22 "packet.go:15" #[Edge.mk 23 Ground.data, Edge.mk 18 Ground.guard] (some (18, true)))) (v := undef) rfl (by kernel_rfl) (by kernel_rfl) (by kernel_rfl) (fun _ _ _ h => h) (Or.inr ⟨by rfl, rfl⟩) (by assumption) ?_
  (try simp only [Act.put, List.setIfInBounds_toArray, List.set_cons_zero, List.set_cons_succ])
  refine wpAnyH_take (i := 25) (oi := (Oper.mk (some 28) (Op.call (Call.mk (Callee.builtin Builtin.len) #[Operand.tmp 27] #[22])) 3 "packet.go:15" #[Edge.mk 24 Ground.data, Edge.mk 18 Ground.guard] (some (18, true)))) (v := undef) rfl (by kernel_rfl) (by kernel_rfl) (by kernel_rfl) (fun _ _ _ h => h) (Or.inr ⟨by rfl, rfl⟩) (by assumption) ?_
  (try simp only [Act.put, List.setIfInBounds_toArray, List.set_cons_zero, List.set_cons_succ])
  refine wpAnyH_take (i := 26) (oi := (Oper.mk (some 29) (Op.binOp BinOp.eql 3 (Operand.tmp 25) (Operand.tmp 28) 3) 4 "packet.go:15" #[Edge.mk 22 Ground.data, Edge.mk 25 Ground.data, Edge.mk 18 Ground.guard] (some (18, true)))) (v := undef) rfl (by kernel_rfl) (by kernel_rfl) (by kernel_rfl) (fun _ _ _ h => h) (Or.inr ⟨by rfl, rfl⟩) (by assumption) ?_
  (try simp only [Act.put, List.setIfInBounds_toArray, List.set_cons_zero, List.set_cons_succ])
  refine wpAnyH_take (i := 27) (oi := (Oper.mk (some 30) (Op.pick (Operand.tmp 21) (Operand.tmp 29) (Operand.const (Value.bool false))) 4 "packet.go:15" #[Edge.mk 18 Ground.data, Edge.mk 26 Ground.data] none)) (v := ?v27t34cfx28) rfl (by kernel_rfl) (by kernel_rfl) (by kernel_rfl) (fun _ _ _ h => h) (Or.inl ⟨by rfl, ?hy27t34cfx28⟩) (by assumption) ?rest27t34cfx28
  case hy27t34cfx28 => (intro w hSw; (try dsimp only at hSw); go_simp; first | done | with_reducible rfl)
  (try simp only [Act.put, List.setIfInBounds_toArray, List.set_cons_zero, List.set_cons_succ])
  refine wpAnyH_take (i := 28) (oi := (Oper.mk (some 2) (Op.assign (Operand.tmp 30)) 4 "packet.go:15" #[Edge.mk 27 Ground.data, Edge.mk 22 Ground.chain, Edge.mk 0 Ground.phase, Edge.mk 1 Ground.phase, Edge.mk 2 Ground.phase, Edge.mk 3 Ground.phase, Edge.mk 4 Ground.phase, Edge.mk 5 Ground.phase, Edge.mk 6 Ground.phase, Edge.mk 7 Ground.phase, Edge.mk 8 Ground.phase, Edge.mk 9 Ground.phase, Edge.mk 10 Ground.phase, Edge.mk 11 Ground.phase, Edge.mk 12 Ground.phase, Edge.mk 13 Ground.phase, Edge.mk 14 Ground.phase, Edge.mk 15 Ground.phase, Edge.mk 16 Ground.phase, Edge.mk 17 Ground.phase, Edge.mk 18 Ground.phase, Edge.mk 19 Ground.phase, Edge.mk 20 Ground.phase, Edge.mk 21 Ground.phase, Edge.mk 22 Ground.phase, Edge.mk 23 Ground.phase, Edge.mk 24 Ground.phase, Edge.mk 25 Ground.phase, Edge.mk 26 Ground.phase, Edge.mk 27 Ground.phase] none)) (v := ?v28t34cfx29) rfl (by kernel_rfl) (by kernel_rfl) (by kernel_rfl) (fun _ _ _ h => h) (Or.inl ⟨by rfl, ?hy28t34cfx29⟩) (by assumption) ?rest28t34cfx29
  case hy28t34cfx29 => (intro w hSw; (try dsimp only at hSw); go_simp; first | done | with_reducible rfl)
  (try simp only [Act.put, List.setIfInBounds_toArray, List.set_cons_zero, List.set_cons_succ])
  refine wpAnyH_done (by kernel_rfl) ?_ _
  go_wp2_with fail
  go_ret
  exact ⟨ret_bool HV.out.symm, (al (Below.refl _ _) _).drew⟩
set_option maxRecDepth 20000 in
set_option maxHeartbeats 2000000 in
theorem idle_count (p : Pk) (a : Option Addr) (cap : Nat) (w : World) (hl : p.dat.length ≤ 1000000000) (hb : BAt w a p.dat) (h0 : p.cmd = false) (h1 : p.sec = false) (h2 : p.flags = 3) (h3 : p.count ≠ 0) : Calls Try.prog 38 #[p.val a cap] w (BQ w (idleB p)) := by
  have HV : Hid (idleB p = false) := Lib.hid (by unfold idleB; rw [h0, h1, decide_eq_false h3]; simp)
  clear hb
  have e2 : (p.flags == 3) = true := by rw [h2]; rfl
  have e3 : (p.count == 0) = false := by rw [beq_eq_false_iff_ne]; exact h3
  obtain ⟨cmd, sec, apid, flags, count, dat⟩ := p
  unfold Pk.val
  simp only at hl h0 h1 e2 e3 ⊢
  subst h0 h1
  clear h2
  clear h3
  go_enter Try.func38, Try.ntmps38
  go_wp2_with fail
  refine wp_region_held_drew (S := (fun w' => w'.cell? ⟨w.heap.size, 0, none⟩ = some (.bool false) ∧ w'.cell? ⟨w.heap.size, 1, none⟩ = some (.bool false) ∧ w'.cell? ⟨w.heap.size, 3, none⟩ = some (.int .i64 flags) ∧ w'.cell? ⟨w.heap.size, 4, none⟩ = some (.int .i64 count) ∧ w'.cell? ⟨w.heap.size, 5, none⟩ = some (.slice a dat.length cap))) (by kernel_rfl) (by (try dsimp only); go_keep) (fun hHeld => ?_)
  refine wpAnyH_take (i := 0) (oi := (Oper.mk (some 3) (Op.fieldAddr 59 (Operand.tmp 1) 0) 0 "packet.go:15" #[] none)) (v := ?v0t9612x1) rfl (by kernel_rfl) (by kernel_rfl) (by kernel_rfl) (fun _ _ _ h => h) (Or.inl ⟨by rfl, ?hy0t9612x1⟩) (by assumption) ?rest0t9612x1
  case hy0t9612x1 => (intro w hSw; (try dsimp only at hSw); go_simp; first | done | with_reducible rfl)
  (try simp only [Act.put, List.setIfInBounds_toArray, List.set_cons_zero, List.set_cons_succ])
  refine wpAnyH_take (i := 1) (oi := (Oper.mk (some 4) (Op.load 4 (Operand.tmp 3)) 4 "packet.go:15" #[Edge.mk 0 Ground.data] none)) (v := ?v1t9612x2) rfl (by kernel_rfl) (by kernel_rfl) (by kernel_rfl) (fun _ _ _ h => h) (Or.inl ⟨by rfl, ?hy1t9612x2⟩) (by assumption) ?rest1t9612x2
  case hy1t9612x2 => (intro w hSw; (try dsimp only at hSw); go_simp; first | done | with_reducible rfl)
  (try simp only [Act.put, List.setIfInBounds_toArray, List.set_cons_zero, List.set_cons_succ])
  refine wpAnyH_take (i := 2) (oi := (Oper.mk (some 5) (Op.unOp UnOp.not 4 (Operand.tmp 4)) 4 "packet.go:15" #[Edge.mk 1 Ground.data] none)) (v := ?v2t9612x3) rfl (by kernel_rfl) (by kernel_rfl) (by kernel_rfl) (fun _ _ _ h => h) (Or.inl ⟨by rfl, ?hy2t9612x3⟩) (by assumption) ?rest2t9612x3
  case hy2t9612x3 => (intro w hSw; (try dsimp only at hSw); go_simp; first | done | with_reducible rfl)
  (try simp only [Act.put, List.setIfInBounds_toArray, List.set_cons_zero, List.set_cons_succ])
  refine wpAnyH_take (i := 3) (oi := (Oper.mk (some 6) (Op.move (Operand.tmp 5)) 4 "packet.go:15" #[Edge.mk 2 Ground.data] none)) (v := ?v3t9612x4) rfl (by kernel_rfl) (by kernel_rfl) (by kernel_rfl) (fun _ _ _ h => h) (Or.inl ⟨by rfl, ?hy3t9612x4⟩) (by assumption) ?rest3t9612x4
  case hy3t9612x4 => (intro w hSw; (try dsimp only at hSw); go_simp; first | done | with_reducible rfl)
  (try simp only [Act.put, List.setIfInBounds_toArray, List.set_cons_zero, List.set_cons_succ])
  refine wpAnyH_take (i := 4) (oi := (Oper.mk (some 7) (Op.fieldAddr 59 (Operand.tmp 1) 1) 0 "packet.go:15" #[Edge.mk 3 Ground.guard] (some (3, true)))) (v := ?v4t9612x5) rfl (by kernel_rfl) (by kernel_rfl) (by kernel_rfl) (fun _ _ _ h => h) (Or.inl ⟨by rfl, ?hy4t9612x5⟩) (by assumption) ?rest4t9612x5
  case hy4t9612x5 => (intro w hSw; (try dsimp only at hSw); go_simp; first | done | with_reducible rfl)
  (try simp only [Act.put, List.setIfInBounds_toArray, List.set_cons_zero, List.set_cons_succ])
  refine wpAnyH_take (i := 5) (oi := (Oper.mk (some 8) (Op.load 4 (Operand.tmp 7)) 4 "packet.go:15" #[Edge.mk 4 Ground.data, Edge.mk 3 Ground.guard] (some (3, true)))) (v := ?v5t9612x6) rfl (by kernel_rfl) (by kernel_rfl) (by kernel_rfl) (fun _ _ _ h => h) (Or.inl ⟨by rfl, ?hy5t9612x6⟩) (by assumption) ?rest5t9612x6
  case hy5t9612x6 => (intro w hSw; (try dsimp only at hSw); go_simp; first | done | with_reducible rfl)
  (try simp only [Act.put, List.setIfInBounds_toArray, List.set_cons_zero, List.set_cons_succ])
  refine wpAnyH_take (i := 6) (oi := (Oper.mk (some 9) (Op.unOp UnOp.not 4 (Operand.tmp 8)) 4 "packet.go:15" #[Edge.mk 5 Ground.data, Edge.mk 3 Ground.guard] (some (3, true)))) (v := ?v6t9612x7) rfl (by kernel_rfl) (by kernel_rfl) (by kernel_rfl) (fun _ _ _ h => h) (Or.inl ⟨by rfl, ?hy6t9612x7⟩) (by assumption) ?rest6t9612x7
  case hy6t9612x7 => (intro w hSw; (try dsimp only at hSw); go_simp; first | done | with_reducible rfl)
  (try simp only [Act.put, List.setIfInBounds_toArray, List.set_cons_zero, List.set_cons_succ])
  refine wpAnyH_take (i := 7) (oi := (Oper.mk (some 10) (Op.pick (Operand.tmp 6) (Operand.tmp 9) (Operand.const (Value.bool false))) 4 "packet.go:15" #[Edge.mk 3 Ground.data, Edge.mk 6 Ground.data] none)) (v := ?v7t9612x8) rfl (by kernel_rfl) (by kernel_rfl) (by kernel_rfl) (fun _ _ _ h => h) (Or.inl ⟨by rfl, ?hy7t9612x8⟩) (by assumption) ?rest7t9612x8
  case hy7t9612x8 => (intro w hSw; (try dsimp only at hSw); go_simp; first | done | with_reducible rfl)
  (try simp only [Act.put, List.setIfInBounds_toArray, List.set_cons_zero, List.set_cons_succ])
  refine wpAnyH_take (i := 8) (oi := (Oper.mk (some 11) (Op.move (Operand.tmp 10)) 4 "packet.go:15" #[Edge.mk 7 Ground.data, Edge.mk 3 Ground.chain] none)) (v := ?v8t9612x9) rfl (by kernel_rfl) (by kernel_rfl) (by kernel_rfl) (fun _ _ _ h => h) (Or.inl ⟨by rfl, ?hy8t9612x9⟩) (by assumption) ?rest8t9612x9
  case hy8t9612x9 => (intro w hSw; (try dsimp only at hSw); go_simp; first | done | with_reducible rfl)
  (try simp only [Act.put, List.setIfInBounds_toArray, List.set_cons_zero, List.set_cons_succ])
  refine wpAnyH_take (i := 9) (oi := (Oper.mk (some 12) (Op.fieldAddr 59 (Operand.tmp 1) 3) 0 "packet.go:15" #[Edge.mk 8 Ground.guard] (some (8, true)))) (v := ?v9t9612x10) rfl (by kernel_rfl) (by kernel_rfl) (by kernel_rfl) (fun _ _ _ h => h) (Or.inl ⟨by rfl, ?hy9t9612x10⟩) (by assumption) ?rest9t9612x10
  case hy9t9612x10 => (intro w hSw; (try dsimp only at hSw); go_simp; first | done | with_reducible rfl)
  (try simp only [Act.put, List.setIfInBounds_toArray, List.set_cons_zero, List.set_cons_succ])
  refine wpAnyH_take (i := 10) (oi := (Oper.mk (some 13) (Op.load 3 (Operand.tmp 12)) 3 "packet.go:15" #[Edge.mk 9 Ground.data, Edge.mk 8 Ground.guard] (some (8, true)))) (v := ?v10t9612x11) rfl (by kernel_rfl) (by kernel_rfl) (by kernel_rfl) (fun _ _ _ h => h) (Or.inl ⟨by rfl, ?hy10t9612x11⟩) (by assumption) ?rest10t9612x11
  case hy10t9612x11 => (intro w hSw; (try dsimp only at hSw); go_simp; first | done | with_reducible rfl)
  (try simp only [Act.put, List.setIfInBounds_toArray, List.set_cons_zero, List.set_cons_succ])
  refine wpAnyH_take (i := 11) (oi := (Oper.mk (some 14) (Op.binOp BinOp.eql 3 (Operand.tmp 13) (Operand.const (Value.int IntKind.i64 3)) 3) 4 "packet.go:15" #[Edge.mk 10 Ground.data, Edge.mk 8 Ground.guard] (some (8, true)))) (v := ?v11t9612x12) rfl (by kernel_rfl) (by kernel_rfl) (by kernel_rfl) (fun _ _ _ h => h) (Or.inl ⟨by rfl, ?hy11t9612x12⟩) (by assumption) ?rest11t9612x12
  case hy11t9612x12 => (intro w hSw; (try dsimp only at hSw); go_simp; first | done | with_reducible rfl)
  (try simp only [Act.put, List.setIfInBounds_toArray, List.set_cons_zero, List.set_cons_succ])
  refine wpAnyH_take (i := 12) (oi := (Oper.mk (some 15) (Op.pick (Operand.tmp 11) (Operand.tmp 14) (Operand.const (Value.bool false))) 4 "packet.go:15" #[Edge.mk 8 Ground.data, Edge.mk 11 Ground.data] none)) (v := ?v12t9612x13) rfl (by kernel_rfl) (by kernel_rfl) (by kernel_rfl) (fun _ _ _ h => h) (Or.inl ⟨by rfl, ?hy12t9612x13⟩) (by assumption) ?rest12t9612x13
  case hy12t9612x13 => (intro w hSw; (try dsimp only at hSw); go_simp; first | done | with_reducible rfl)
  (try simp only [Act.put, List.setIfInBounds_toArray, List.set_cons_zero, List.set_cons_succ])
  refine wpAnyH_take (i := 13) (oi := (Oper.mk (some 16) (Op.move (Operand.tmp 15)) 4 "packet.go:15" #[Edge.mk 12 Ground.data, Edge.mk 8 Ground.chain] none)) (v := ?v13t9612x14) rfl (by kernel_rfl) (by kernel_rfl) (by kernel_rfl) (fun _ _ _ h => h) (Or.inl ⟨by rfl, ?hy13t9612x14⟩) (by assumption) ?rest13t9612x14
  case hy13t9612x14 => (intro w hSw; (try dsimp only at hSw); go_simp; first | done | with_reducible rfl)
  (try simp only [Act.put, List.setIfInBounds_toArray, List.set_cons_zero, List.set_cons_succ])
  refine wpAnyH_take (i := 14) (oi := (Oper.mk (some 17) (Op.fieldAddr 59 (Operand.tmp 1) 4) 0 "packet.go:15" #[Edge.mk 13 Ground.guard] (some (13, true)))) (v := ?v14t9612x15) rfl (by kernel_rfl) (by kernel_rfl) (by kernel_rfl) (fun _ _ _ h => h) (Or.inl ⟨by rfl, ?hy14t9612x15⟩) (by assumption) ?rest14t9612x15
  case hy14t9612x15 => (intro w hSw; (try dsimp only at hSw); go_simp; first | done | with_reducible rfl)
  (try simp only [Act.put, List.setIfInBounds_toArray, List.set_cons_zero, List.set_cons_succ])
  refine wpAnyH_take (i := 15) (oi := (Oper.mk (some 18) (Op.load 3 (Operand.tmp 17)) 3 "packet.go:15" #[Edge.mk 14 Ground.data, Edge.mk 13 Ground.guard] (some (13, true)))) (v := ?v15t9612x16) rfl (by kernel_rfl) (by kernel_rfl) (by kernel_rfl) (fun _ _ _ h => h) (Or.inl ⟨by rfl, ?hy15t9612x16⟩) (by assumption) ?rest15t9612x16
  case hy15t9612x16 => (intro w hSw; (try dsimp only at hSw); go_simp; first | done | with_reducible rfl)
  (try simp only [Act.put, List.setIfInBounds_toArray, List.set_cons_zero, List.set_cons_succ])
  refine wpAnyH_take (i := 16) (oi := (Oper.mk (some 19) (Op.binOp BinOp.eql 3 (Operand.tmp 18) (Operand.const (Value.int IntKind.i64 0)) 3) 4 "packet.go:15" #[Edge.mk 15 Ground.data, Edge.mk 13 Ground.guard] (some (13, true)))) (v := ?v16t9612x17) rfl (by kernel_rfl) (by kernel_rfl) (by kernel_rfl) (fun _ _ _ h => h) (Or.inl ⟨by rfl, ?hy16t9612x17⟩) (by assumption) ?rest16t9612x17
  case hy16t9612x17 => (intro w hSw; (try dsimp only at hSw); go_simp; first | done | with_reducible rfl)
  (try simp only [Act.put, List.setIfInBounds_toArray, List.set_cons_zero, List.set_cons_succ])
  refine wpAnyH_take (i := 17) (oi := (Oper.mk (some 20) (Op.pick (Operand.tmp 16) (Operand.tmp 19) (Operand.const (Value.bool false))) 4 "packet.go:15" #[Edge.mk 13 Ground.data, Edge.mk 16 Ground.data] none)) (v := ?v17t9612x18) rfl (by kernel_rfl) (by kernel_rfl) (by kernel_rfl) (fun _ _ _ h => h) (Or.inl ⟨by rfl, ?hy17t9612x18⟩) (by assumption) ?rest17t9612x18
  case hy17t9612x18 => (intro w hSw; (try dsimp only at hSw); go_simp; first | done | with_reducible rfl)
  (try simp only [Act.put, List.setIfInBounds_toArray, List.set_cons_zero, List.set_cons_succ])
  refine wpAnyH_take (i := 18) (oi := (Oper.mk (some 21) (Op.move (Operand.tmp 20)) 4 "packet.go:15" #[Edge.mk 17 Ground.data, Edge.mk 13 Ground.chain] none)) (v := ?v18t9612x19) rfl (by kernel_rfl) (by kernel_rfl) (by kernel_rfl) (fun _ _ _ h => h) (Or.inl ⟨by rfl, ?hy18t9612x19⟩) (by assumption) ?rest18t9612x19
  case hy18t9612x19 => (intro w hSw; (try dsimp only at hSw); go_simp; first | done | with_reducible rfl)
  (try simp only [Act.put, List.setIfInBounds_toArray, List.set_cons_zero, List.set_cons_succ])
  refine wpAnyH_take (i := 19) (oi := (Oper.mk (some 22) (Op.fieldAddr 59 (Operand.tmp 1) 5) 0 "packet.go:15" #[Edge.mk 18 Ground.guard] (some (18, true)))) (v := undef) rfl (by kernel_rfl) (by kernel_rfl) (by kernel_rfl) (fun _ _ _ h => h) (Or.inr ⟨by rfl, rfl⟩) (by assumption) ?_
  (try simp only [Act.put, List.setIfInBounds_toArray, List.set_cons_zero, List.set_cons_succ])
  refine wpAnyH_take (i := 20) (oi := (Oper.mk (some 23) (Op.load 22 (Operand.tmp 22)) 22 "packet.go:15" #[Edge.mk 19 Ground.data, Edge.mk 18 Ground.guard] (some (18, true)))) (v := undef) rfl (by kernel_rfl) (by kernel_rfl) (by kernel_rfl) (fun _ _ _ h => h) (Or.inr ⟨by rfl, rfl⟩) (by assumption) ?_
  (try simp only [Act.put, List.setIfInBounds_toArray, List.set_cons_zero, List.set_cons_succ])
  refine wpAnyH_take (i := 21) (oi := (Oper.mk (some 24) (Op.buildSlice 22 1 #[(0, Operand.const (Value.int IntKind.u8 0))]) 22 "packet.go:15" #[Edge.mk 18 Ground.guard] (some (18, true)))) (v := undef) rfl (by kernel_rfl) (by kernel_rfl) (by kernel_rfl) (fun _ _ _ h => h) (Or.inr ⟨by rfl, rfl⟩) (by assumption) ?_
  (try simp only [Act.put, List.setIfInBounds_toArray, List.set_cons_zero, List.set_cons_succ])
  refine wpAnyH_take (i := 22) (oi := (Oper.mk (some 25) (Op.call (Call.mk (Callee.value (Operand.func 41)) #[Operand.tmp 23, Operand.tmp 24] #[22, 22])) 3 "packet.go:15" #[Edge.mk 20 Ground.data, Edge.mk 21 Ground.data, Edge.mk 18 Ground.chain, Edge.mk 18 Ground.guard] (some (18, true)))) (v := undef) rfl (by kernel_rfl) (by kernel_rfl) (by kernel_rfl) (fun _ _ _ h => h) (Or.inr ⟨by rfl, rfl⟩) (by assumption) ?_
  (try simp only [Act.put, List.setIfInBounds_toArray, List.set_cons_zero, List.set_cons_succ])
  refine wpAnyH_take (i := 23) (oi := (Oper.mk (some 26) (Op.fieldAddr 59 (Operand.tmp 1) 5) 0 "packet.go:15" #[Edge.mk 18 Ground.guard] (some (18, true)))) (v := undef) rfl (by kernel_rfl) (by kernel_rfl) (by kernel_rfl) (fun _ _ _ h => h) (Or.inr ⟨by rfl, rfl⟩) (by assumption) ?_
  (try simp only [Act.put, List.setIfInBounds_toArray, List.set_cons_zero, List.set_cons_succ])
  refine wpAnyH_take (i := 24) (oi := (Oper.mk (some 27) (Op.load 22 (Operand.tmp 26)) 22 "packet.go:15" #[Edge.mk 23 Ground.data, Edge.mk 18 Ground.guard] (some (18, true)))) (v := undef) rfl (by kernel_rfl) (by kernel_rfl) (by kernel_rfl) (fun _ _ _ h => h) (Or.inr ⟨by rfl, rfl⟩) (by assumption) ?_
  (try simp only [Act.put, List.setIfInBounds_toArray, List.set_cons_zero, List.set_cons_succ])
  refine wpAnyH_take (i := 25) (oi := (Oper.mk (some 28) (Op.call (Call.mk (Callee.builtin Builtin.len) #[Operand.tmp 27] #[22])) 3 "packet.go:15" #[Edge.mk 24 Ground.data, Edge.mk 18 Ground.guard] (some (18, true)))) (v := undef) rfl (by kernel_rfl) (by kernel_rfl) (by kernel_rfl) (fun _ _ _ h => h) (Or.inr ⟨by rfl, rfl⟩) (by assumption) ?_
  (try simp only [Act.put, List.setIfInBounds_toArray, List.set_cons_zero, List.set_cons_succ])
  refine wpAnyH_take (i := 26) (oi := (Oper.mk (some 29) (Op.binOp BinOp.eql 3 (Operand.tmp 25) (Operand.tmp 28) 3) 4 "packet.go:15" #[Edge.mk 22 Ground.data, Edge.mk 25 Ground.data, Edge.mk 18 Ground.guard] (some (18, true)))) (v := undef) rfl (by kernel_rfl) (by kernel_rfl) (by kernel_rfl) (fun _ _ _ h => h) (Or.inr ⟨by rfl, rfl⟩) (by assumption) ?_
  (try simp only [Act.put, List.setIfInBounds_toArray, List.set_cons_zero, List.set_cons_succ])
  refine wpAnyH_take (i := 27) (oi := (Oper.mk (some 30) (Op.pick (Operand.tmp 21) (Operand.tmp 29) (Operand.const (Value.bool false))) 4 "packet.go:15" #[Edge.mk 18 Ground.data, Edge.mk 26 Ground.data] none)) (v := ?v27t9612x28) rfl (by kernel_rfl) (by kernel_rfl) (by kernel_rfl) (fun _ _ _ h => h) (Or.inl ⟨by rfl, ?hy27t9612x28⟩) (by assumption) ?rest27t9612x28
  case hy27t9612x28 => (intro w hSw; (try dsimp only at hSw); go_simp; first | done | with_reducible rfl)
  (try simp only [Act.put, List.setIfInBounds_toArray, List.set_cons_zero, List.set_cons_succ])
  refine wpAnyH_take (i := 28) (oi := (Oper.mk (some 2) (Op.assign (Operand.tmp 30)) 4 "packet.go:15" #[Edge.mk 27 Ground.data, Edge.mk 22 Ground.chain, Edge.mk 0 Ground.phase, Edge.mk 1 Ground.phase, Edge.mk 2 Ground.phase, Edge.mk 3 Ground.phase, Edge.mk 4 Ground.phase, Edge.mk 5 Ground.phase, Edge.mk 6 Ground.phase, Edge.mk 7 Ground.phase, Edge.mk 8 Ground.phase, Edge.mk 9 Ground.phase, Edge.mk 10 Ground.phase, Edge.mk 11 Ground.phase, Edge.mk 12 Ground.phase, Edge.mk 13 Ground.phase, Edge.mk 14 Ground.phase, Edge.mk 15 Ground.phase, Edge.mk 16 Ground.phase, Edge.mk 17 Ground.phase, Edge.mk 18 Ground.phase, Edge.mk 19 Ground.phase, Edge.mk 20 Ground.phase, Edge.mk 21 Ground.phase, Edge.mk 22 Ground.phase, Edge.mk 23 Ground.phase, Edge.mk 24 Ground.phase, Edge.mk 25 Ground.phase, Edge.mk 26 Ground.phase, Edge.mk 27 Ground.phase] none)) (v := ?v28t9612x29) rfl (by kernel_rfl) (by kernel_rfl) (by kernel_rfl) (fun _ _ _ h => h) (Or.inl ⟨by rfl, ?hy28t9612x29⟩) (by assumption) ?rest28t9612x29
  case hy28t9612x29 => (intro w hSw; (try dsimp only at hSw); go_simp; first | done | with_reducible rfl)
  (try simp only [Act.put, List.setIfInBounds_toArray, List.set_cons_zero, List.set_cons_succ])
  refine wpAnyH_done (by kernel_rfl) ?_ _
  go_wp2_with fail
  go_ret
  exact ⟨ret_bool HV.out.symm, (al (Below.refl _ _) _).drew⟩
set_option maxRecDepth 20000 in
set_option maxHeartbeats 2000000 in
theorem idle_all (p : Pk) (a : Option Addr) (cap : Nat) (w : World) (hl : p.dat.length ≤ 1000000000) (hb : BAt w a p.dat) (h0 : p.cmd = false) (h1 : p.sec = false) (h2 : p.flags = 3) (h3 : p.count = 0) : Calls Try.prog 38 #[p.val a cap] w (BQ w (idleB p)) := by
  have HV : Hid (idleB p = decide (p.dat.count 0 = p.dat.length)) := Lib.hid (by unfold idleB; rw [h0, h1, h2, h3, zero_count]; simp)
  have HB := Lib.hid hb
  have hcb : ∀ (o : Obj) (o2 : Obj), BAt ((w.alloc o).alloc o2).drew a p.dat := fun o o2 => HB.out.below (al (al (Below.refl _ w) o) o2).drew (Nat.le_refl _)
  have HCB := Lib.hid hcb
  have hcc : ∀ (o : Obj), ((w.alloc o).alloc (.cells #[.int .u8 0] 5)).drew.cell? ⟨w.heap.size + 1, 0, none⟩ = some (.int .u8 0) := fun o => (Blk.newAt (xs := [.int .u8 0]) (by simp)).at 0 rfl
  have HCC := Lib.hid hcc
  clear hcb hcc
  clear hb
  have e2 : (p.flags == 3) = true := by rw [h2]; rfl
  have e3 : (p.count == 0) = true := by rw [h3]; rfl
  obtain ⟨cmd, sec, apid, flags, count, dat⟩ := p
  unfold Pk.val
  simp only at hl h0 h1 e2 e3 ⊢
  subst h0 h1
  clear h2
  clear h3
  go_enter Try.func38, Try.ntmps38
  go_wp2_with fail
  refine wp_region_held_drew (S := (fun w' => w'.cell? ⟨w.heap.size, 0, none⟩ = some (.bool false) ∧ w'.cell? ⟨w.heap.size, 1, none⟩ = some (.bool false) ∧ w'.cell? ⟨w.heap.size, 3, none⟩ = some (.int .i64 flags) ∧ w'.cell? ⟨w.heap.size, 4, none⟩ = some (.int .i64 count) ∧ w'.cell? ⟨w.heap.size, 5, none⟩ = some (.slice a dat.length cap))) (by kernel_rfl) (by (try dsimp only); go_keep) (fun hHeld => ?_)
  refine wpAnyH_take (i := 0) (oi := (Oper.mk (some 3) (Op.fieldAddr 59 (Operand.tmp 1) 0) 0 "packet.go:15" #[] none)) (v := ?v0t16c7x1) rfl (by kernel_rfl) (by kernel_rfl) (by kernel_rfl) (fun _ _ _ h => h) (Or.inl ⟨by rfl, ?hy0t16c7x1⟩) (by assumption) ?rest0t16c7x1
  case hy0t16c7x1 => (intro w hSw; (try dsimp only at hSw); go_simp; first | done | with_reducible rfl)
  (try simp only [Act.put, List.setIfInBounds_toArray, List.set_cons_zero, List.set_cons_succ])
  refine wpAnyH_take (i := 1) (oi := (Oper.mk (some 4) (Op.load 4 (Operand.tmp 3)) 4 "packet.go:15" #[Edge.mk 0 Ground.data] none)) (v := ?v1t16c7x2) rfl (by kernel_rfl) (by kernel_rfl) (by kernel_rfl) (fun _ _ _ h => h) (Or.inl ⟨by rfl, ?hy1t16c7x2⟩) (by assumption) ?rest1t16c7x2
  case hy1t16c7x2 => (intro w hSw; (try dsimp only at hSw); go_simp; first | done | with_reducible rfl)
  (try simp only [Act.put, List.setIfInBounds_toArray, List.set_cons_zero, List.set_cons_succ])
  refine wpAnyH_take (i := 2) (oi := (Oper.mk (some 5) (Op.unOp UnOp.not 4 (Operand.tmp 4)) 4 "packet.go:15" #[Edge.mk 1 Ground.data] none)) (v := ?v2t16c7x3) rfl (by kernel_rfl) (by kernel_rfl) (by kernel_rfl) (fun _ _ _ h => h) (Or.inl ⟨by rfl, ?hy2t16c7x3⟩) (by assumption) ?rest2t16c7x3
  case hy2t16c7x3 => (intro w hSw; (try dsimp only at hSw); go_simp; first | done | with_reducible rfl)
  (try simp only [Act.put, List.setIfInBounds_toArray, List.set_cons_zero, List.set_cons_succ])
  refine wpAnyH_take (i := 3) (oi := (Oper.mk (some 6) (Op.move (Operand.tmp 5)) 4 "packet.go:15" #[Edge.mk 2 Ground.data] none)) (v := ?v3t16c7x4) rfl (by kernel_rfl) (by kernel_rfl) (by kernel_rfl) (fun _ _ _ h => h) (Or.inl ⟨by rfl, ?hy3t16c7x4⟩) (by assumption) ?rest3t16c7x4
  case hy3t16c7x4 => (intro w hSw; (try dsimp only at hSw); go_simp; first | done | with_reducible rfl)
  (try simp only [Act.put, List.setIfInBounds_toArray, List.set_cons_zero, List.set_cons_succ])
  refine wpAnyH_take (i := 4) (oi := (Oper.mk (some 7) (Op.fieldAddr 59 (Operand.tmp 1) 1) 0 "packet.go:15" #[Edge.mk 3 Ground.guard] (some (3, true)))) (v := ?v4t16c7x5) rfl (by kernel_rfl) (by kernel_rfl) (by kernel_rfl) (fun _ _ _ h => h) (Or.inl ⟨by rfl, ?hy4t16c7x5⟩) (by assumption) ?rest4t16c7x5
  case hy4t16c7x5 => (intro w hSw; (try dsimp only at hSw); go_simp; first | done | with_reducible rfl)
  (try simp only [Act.put, List.setIfInBounds_toArray, List.set_cons_zero, List.set_cons_succ])
  refine wpAnyH_take (i := 5) (oi := (Oper.mk (some 8) (Op.load 4 (Operand.tmp 7)) 4 "packet.go:15" #[Edge.mk 4 Ground.data, Edge.mk 3 Ground.guard] (some (3, true)))) (v := ?v5t16c7x6) rfl (by kernel_rfl) (by kernel_rfl) (by kernel_rfl) (fun _ _ _ h => h) (Or.inl ⟨by rfl, ?hy5t16c7x6⟩) (by assumption) ?rest5t16c7x6
  case hy5t16c7x6 => (intro w hSw; (try dsimp only at hSw); go_simp; first | done | with_reducible rfl)
  (try simp only [Act.put, List.setIfInBounds_toArray, List.set_cons_zero, List.set_cons_succ])
  refine wpAnyH_take (i := 6) (oi := (Oper.mk (some 9) (Op.unOp UnOp.not 4 (Operand.tmp 8)) 4 "packet.go:15" #[Edge.mk 5 Ground.data, Edge.mk 3 Ground.guard] (some (3, true)))) (v := ?v6t16c7x7) rfl (by kernel_rfl) (by kernel_rfl) (by kernel_rfl) (fun _ _ _ h => h) (Or.inl ⟨by rfl, ?hy6t16c7x7⟩) (by assumption) ?rest6t16c7x7
  case hy6t16c7x7 => (intro w hSw; (try dsimp only at hSw); go_simp; first | done | with_reducible rfl)
  (try simp only [Act.put, List.setIfInBounds_toArray, List.set_cons_zero, List.set_cons_succ])
  refine wpAnyH_take (i := 7) (oi := (Oper.mk (some 10) (Op.pick (Operand.tmp 6) (Operand.tmp 9) (Operand.const (Value.bool false))) 4 "packet.go:15" #[Edge.mk 3 Ground.data, Edge.mk 6 Ground.data] none)) (v := ?v7t16c7x8) rfl (by kernel_rfl) (by kernel_rfl) (by kernel_rfl) (fun _ _ _ h => h) (Or.inl ⟨by rfl, ?hy7t16c7x8⟩) (by assumption) ?rest7t16c7x8
  case hy7t16c7x8 => (intro w hSw; (try dsimp only at hSw); go_simp; first | done | with_reducible rfl)
  (try simp only [Act.put, List.setIfInBounds_toArray, List.set_cons_zero, List.set_cons_succ])
  refine wpAnyH_take (i := 8) (oi := (Oper.mk (some 11) (Op.move (Operand.tmp 10)) 4 "packet.go:15" #[Edge.mk 7 Ground.data, Edge.mk 3 Ground.chain] none)) (v := ?v8t16c7x9) rfl (by kernel_rfl) (by kernel_rfl) (by kernel_rfl) (fun _ _ _ h => h) (Or.inl ⟨by rfl, ?hy8t16c7x9⟩) (by assumption) ?rest8t16c7x9
  case hy8t16c7x9 => (intro w hSw; (try dsimp only at hSw); go_simp; first | done | with_reducible rfl)
  (try simp only [Act.put, List.setIfInBounds_toArray, List.set_cons_zero, List.set_cons_succ])
  refine wpAnyH_take (i := 9) (oi := (Oper.mk (some 12) (Op.fieldAddr 59 (Operand.tmp 1) 3) 0 "packet.go:15" #[Edge.mk 8 Ground.guard] (some (8, true)))) (v := ?v9t16c7x10) rfl (by kernel_rfl) (by kernel_rfl) (by kernel_rfl) (fun _ _ _ h => h) (Or.inl ⟨by rfl, ?hy9t16c7x10⟩) (by assumption) ?rest9t16c7x10
  case hy9t16c7x10 => (intro w hSw; (try dsimp only at hSw); go_simp; first | done | with_reducible rfl)
  (try simp only [Act.put, List.setIfInBounds_toArray, List.set_cons_zero, List.set_cons_succ])
  refine wpAnyH_take (i := 10) (oi := (Oper.mk (some 13) (Op.load 3 (Operand.tmp 12)) 3 "packet.go:15" #[Edge.mk 9 Ground.data, Edge.mk 8 Ground.guard] (some (8, true)))) (v := ?v10t16c7x11) rfl (by kernel_rfl) (by kernel_rfl) (by kernel_rfl) (fun _ _ _ h => h) (Or.inl ⟨by rfl, ?hy10t16c7x11⟩) (by assumption) ?rest10t16c7x11
  case hy10t16c7x11 => (intro w hSw; (try dsimp only at hSw); go_simp; first | done | with_reducible rfl)
  (try simp only [Act.put, List.setIfInBounds_toArray, List.set_cons_zero, List.set_cons_succ])
  refine wpAnyH_take (i := 11) (oi := (Oper.mk (some 14) (Op.binOp BinOp.eql 3 (Operand.tmp 13) (Operand.const (Value.int IntKind.i64 3)) 3) 4 "packet.go:15" #[Edge.mk 10 Ground.data, Edge.mk 8 Ground.guard] (some (8, true)))) (v := ?v11t16c7x12) rfl (by kernel_rfl) (by kernel_rfl) (by kernel_rfl) (fun _ _ _ h => h) (Or.inl ⟨by rfl, ?hy11t16c7x12⟩) (by assumption) ?rest11t16c7x12
  case hy11t16c7x12 => (intro w hSw; (try dsimp only at hSw); go_simp; first | done | with_reducible rfl)
  (try simp only [Act.put, List.setIfInBounds_toArray, List.set_cons_zero, List.set_cons_succ])
  refine wpAnyH_take (i := 12) (oi := (Oper.mk (some 15) (Op.pick (Operand.tmp 11) (Operand.tmp 14) (Operand.const (Value.bool false))) 4 "packet.go:15" #[Edge.mk 8 Ground.data, Edge.mk 11 Ground.data] none)) (v := ?v12t16c7x13) rfl (by kernel_rfl) (by kernel_rfl) (by kernel_rfl) (fun _ _ _ h => h) (Or.inl ⟨by rfl, ?hy12t16c7x13⟩) (by assumption) ?rest12t16c7x13
  case hy12t16c7x13 => (intro w hSw; (try dsimp only at hSw); go_simp; first | done | with_reducible rfl)
  (try simp only [Act.put, List.setIfInBounds_toArray, List.set_cons_zero, List.set_cons_succ])
  refine wpAnyH_take (i := 13) (oi := (Oper.mk (some 16) (Op.move (Operand.tmp 15)) 4 "packet.go:15" #[Edge.mk 12 Ground.data, Edge.mk 8 Ground.chain] none)) (v := ?v13t16c7x14) rfl (by kernel_rfl) (by kernel_rfl) (by kernel_rfl) (fun _ _ _ h => h) (Or.inl ⟨by rfl, ?hy13t16c7x14⟩) (by assumption) ?rest13t16c7x14
  case hy13t16c7x14 => (intro w hSw; (try dsimp only at hSw); go_simp; first | done | with_reducible rfl)
  (try simp only [Act.put, List.setIfInBounds_toArray, List.set_cons_zero, List.set_cons_succ])
  refine wpAnyH_take (i := 14) (oi := (Oper.mk (some 17) (Op.fieldAddr 59 (Operand.tmp 1) 4) 0 "packet.go:15" #[Edge.mk 13 Ground.guard] (some (13, true)))) (v := ?v14t16c7x15) rfl (by kernel_rfl) (by kernel_rfl) (by kernel_rfl) (fun _ _ _ h => h) (Or.inl ⟨by rfl, ?hy14t16c7x15⟩) (by assumption) ?rest14t16c7x15
  case hy14t16c7x15 => (intro w hSw; (try dsimp only at hSw); go_simp; first | done | with_reducible rfl)
  (try simp only [Act.put, List.setIfInBounds_toArray, List.set_cons_zero, List.set_cons_succ])
  refine wpAnyH_take (i := 15) (oi := (Oper.mk (some 18) (Op.load 3 (Operand.tmp 17)) 3 "packet.go:15" #[Edge.mk 14 Ground.data, Edge.mk 13 Ground.guard] (some (13, true)))) (v := ?v15t16c7x16) rfl (by kernel_rfl) (by kernel_rfl) (by kernel_rfl) (fun _ _ _ h => h) (Or.inl ⟨by rfl, ?hy15t16c7x16⟩) (by assumption) ?rest15t16c7x16
  case hy15t16c7x16 => (intro w hSw; (try dsimp only at hSw); go_simp; first | done | with_reducible rfl)
  (try simp only [Act.put, List.setIfInBounds_toArray, List.set_cons_zero, List.set_cons_succ])
  refine wpAnyH_take (i := 16) (oi := (Oper.mk (some 19) (Op.binOp BinOp.eql 3 (Operand.tmp 18) (Operand.const (Value.int IntKind.i64 0)) 3) 4 "packet.go:15" #[Edge.mk 15 Ground.data, Edge.mk 13 Ground.guard] (some (13, true)))) (v := ?v16t16c7x17) rfl (by kernel_rfl) (by kernel_rfl) (by kernel_rfl) (fun _ _ _ h => h) (Or.inl ⟨by rfl, ?hy16t16c7x17⟩) (by assumption) ?rest16t16c7x17
  case hy16t16c7x17 => (intro w hSw; (try dsimp only at hSw); go_simp; first | done | with_reducible rfl)
  (try simp only [Act.put, List.setIfInBounds_toArray, List.set_cons_zero, List.set_cons_succ])
  refine wpAnyH_take (i := 17) (oi := (Oper.mk (some 20) (Op.pick (Operand.tmp 16) (Operand.tmp 19) (Operand.const (Value.bool false))) 4 "packet.go:15" #[Edge.mk 13 Ground.data, Edge.mk 16 Ground.data] none)) (v := ?v17t16c7x18) rfl (by kernel_rfl) (by kernel_rfl) (by kernel_rfl) (fun _ _ _ h => h) (Or.inl ⟨by rfl, ?hy17t16c7x18⟩) (by assumption) ?rest17t16c7x18
  case hy17t16c7x18 => (intro w hSw; (try dsimp only at hSw); go_simp; first | done | with_reducible rfl)
  (try simp only [Act.put, List.setIfInBounds_toArray, List.set_cons_zero, List.set_cons_succ])
  refine wpAnyH_take (i := 18) (oi := (Oper.mk (some 21) (Op.move (Operand.tmp 20)) 4 "packet.go:15" #[Edge.mk 17 Ground.data, Edge.mk 13 Ground.chain] none)) (v := ?v18t16c7x19) rfl (by kernel_rfl) (by kernel_rfl) (by kernel_rfl) (fun _ _ _ h => h) (Or.inl ⟨by rfl, ?hy18t16c7x19⟩) (by assumption) ?rest18t16c7x19
  case hy18t16c7x19 => (intro w hSw; (try dsimp only at hSw); go_simp; first | done | with_reducible rfl)
  (try simp only [Act.put, List.setIfInBounds_toArray, List.set_cons_zero, List.set_cons_succ])
  refine wpAnyH_take (i := 19) (oi := (Oper.mk (some 22) (Op.fieldAddr 59 (Operand.tmp 1) 5) 0 "packet.go:15" #[Edge.mk 18 Ground.guard] (some (18, true)))) (v := ?v19t16c7x20) rfl (by kernel_rfl) (by kernel_rfl) (by kernel_rfl) (fun _ _ _ h => h) (Or.inl ⟨by rfl, ?hy19t16c7x20⟩) (by assumption) ?rest19t16c7x20
  case hy19t16c7x20 => (intro w hSw; (try dsimp only at hSw); go_simp; first | done | with_reducible rfl)
  (try simp only [Act.put, List.setIfInBounds_toArray, List.set_cons_zero, List.set_cons_succ])
  refine wpAnyH_take (i := 20) (oi := (Oper.mk (some 23) (Op.load 22 (Operand.tmp 22)) 22 "packet.go:15" #[Edge.mk 19 Ground.data, Edge.mk 18 Ground.guard] (some (18, true)))) (v := ?v20t16c7x21) rfl (by kernel_rfl) (by kernel_rfl) (by kernel_rfl) (fun _ _ _ h => h) (Or.inl ⟨by rfl, ?hy20t16c7x21⟩) (by assumption) ?rest20t16c7x21
  case hy20t16c7x21 => (intro w hSw; (try dsimp only at hSw); go_simp; first | done | with_reducible rfl)
  (try simp only [Act.put, List.setIfInBounds_toArray, List.set_cons_zero, List.set_cons_succ])
  refine wpAnyH_take (i := 23) (oi := (Oper.mk (some 26) (Op.fieldAddr 59 (Operand.tmp 1) 5) 0 "packet.go:15" #[Edge.mk 18 Ground.guard] (some (18, true)))) (v := ?v23t16c7x22) rfl (by kernel_rfl) (by kernel_rfl) (by kernel_rfl) (fun _ _ _ h => h) (Or.inl ⟨by rfl, ?hy23t16c7x22⟩) (by assumption) ?rest23t16c7x22
  case hy23t16c7x22 => (intro w hSw; (try dsimp only at hSw); go_simp; first | done | with_reducible rfl)
  (try simp only [Act.put, List.setIfInBounds_toArray, List.set_cons_zero, List.set_cons_succ])
  refine wpAnyH_take (i := 24) (oi := (Oper.mk (some 27) (Op.load 22 (Operand.tmp 26)) 22 "packet.go:15" #[Edge.mk 23 Ground.data, Edge.mk 18 Ground.guard] (some (18, true)))) (v := ?v24t16c7x23) rfl (by kernel_rfl) (by kernel_rfl) (by kernel_rfl) (fun _ _ _ h => h) (Or.inl ⟨by rfl, ?hy24t16c7x23⟩) (by assumption) ?rest24t16c7x23
  case hy24t16c7x23 => (intro w hSw; (try dsimp only at hSw); go_simp; first | done | with_reducible rfl)
  (try simp only [Act.put, List.setIfInBounds_toArray, List.set_cons_zero, List.set_cons_succ])
  refine wpAnyH_take (i := 25) (oi := (Oper.mk (some 28) (Op.call (Call.mk (Callee.builtin Builtin.len) #[Operand.tmp 27] #[22])) 3 "packet.go:15" #[Edge.mk 24 Ground.data, Edge.mk 18 Ground.guard] (some (18, true)))) (v := ?v25t16c7x24) rfl (by kernel_rfl) (by kernel_rfl) (by kernel_rfl) (fun _ _ _ h => h) (Or.inl ⟨by rfl, ?hy25t16c7x24⟩) (by assumption) ?rest25t16c7x24
  case hy25t16c7x24 => (intro w hSw; (try dsimp only at hSw); go_simp; first | done | with_reducible rfl)
  (try simp only [Act.put, List.setIfInBounds_toArray, List.set_cons_zero, List.set_cons_succ])
  refine wpAnyH_ready (rs := [21]) (by kernel_rfl) (by simp) ?_
  refine AllReadyH.cons (o := (Oper.mk (some 24) (Op.buildSlice 22 1 #[(0, Operand.const (Value.int IntKind.u8 0))]) 22 "packet.go:15" #[Edge.mk 18 Ground.guard] (some (18, true)))) rfl (fun K hK => ?_) (AllReadyH.nil)
  go_simp
  skip
  refine hK.out _ _ (by (try dsimp only); go_keep) (fun hHeld => ?_)
  clear hK K
  (try simp only [Act.put, List.setIfInBounds_toArray, List.set_cons_zero, List.set_cons_succ])
  refine wpAnyH_ready (rs := [22]) (by kernel_rfl) (by simp) ?_
  refine AllReadyH.cons (o := (Oper.mk (some 25) (Op.call (Call.mk (Callee.value (Operand.func 41)) #[Operand.tmp 23, Operand.tmp 24] #[22, 22])) 3 "packet.go:15" #[Edge.mk 20 Ground.data, Edge.mk 21 Ground.data, Edge.mk 18 Ground.chain, Edge.mk 18 Ground.guard] (some (18, true)))) rfl (fun K hK => ?_) (AllReadyH.nil)
  go_simp
  (go_at_call 41; refine (count_any a cap dat (w.heap.size + 1) 0 1 _ (HCB.out _ _) (HCC.out _)).mono ?_; rintro e w2 ⟨rfl, rfl⟩)
  refine hK.out _ _ (by (try dsimp only); go_keep) (fun hHeld => ?_)
  clear hK K
  (try simp only [Act.put, List.setIfInBounds_toArray, List.set_cons_zero, List.set_cons_succ])
  refine wpAnyH_take (i := 26) (oi := (Oper.mk (some 29) (Op.binOp BinOp.eql 3 (Operand.tmp 25) (Operand.tmp 28) 3) 4 "packet.go:15" #[Edge.mk 22 Ground.data, Edge.mk 25 Ground.data, Edge.mk 18 Ground.guard] (some (18, true)))) (v := ?v26t16c7x25) rfl (by kernel_rfl) (by kernel_rfl) (by kernel_rfl) (fun _ _ _ h => h) (Or.inl ⟨by rfl, ?hy26t16c7x25⟩) (by assumption) ?rest26t16c7x25
  case hy26t16c7x25 => (intro w hSw; (try dsimp only at hSw); go_simp; first | done | with_reducible rfl)
  (try simp only [Act.put, List.setIfInBounds_toArray, List.set_cons_zero, List.set_cons_succ])
  refine wpAnyH_take (i := 27) (oi := (Oper.mk (some 30) (Op.pick (Operand.tmp 21) (Operand.tmp 29) (Operand.const (Value.bool false))) 4 "packet.go:15" #[Edge.mk 18 Ground.data, Edge.mk 26 Ground.data] none)) (v := ?v27t16c7x26) rfl (by kernel_rfl) (by kernel_rfl) (by kernel_rfl) (fun _ _ _ h => h) (Or.inl ⟨by rfl, ?hy27t16c7x26⟩) (by assumption) ?rest27t16c7x26
  case hy27t16c7x26 => (intro w hSw; (try dsimp only at hSw); go_simp; first | done | with_reducible rfl)
  (try simp only [Act.put, List.setIfInBounds_toArray, List.set_cons_zero, List.set_cons_succ])
  refine wpAnyH_take (i := 28) (oi := (Oper.mk (some 2) (Op.assign (Operand.tmp 30)) 4 "packet.go:15" #[Edge.mk 27 Ground.data, Edge.mk 22 Ground.chain, Edge.mk 0 Ground.phase, Edge.mk 1 Ground.phase, Edge.mk 2 Ground.phase, Edge.mk 3 Ground.phase, Edge.mk 4 Ground.phase, Edge.mk 5 Ground.phase, Edge.mk 6 Ground.phase, Edge.mk 7 Ground.phase, Edge.mk 8 Ground.phase, Edge.mk 9 Ground.phase, Edge.mk 10 Ground.phase, Edge.mk 11 Ground.phase, Edge.mk 12 Ground.phase, Edge.mk 13 Ground.phase, Edge.mk 14 Ground.phase, Edge.mk 15 Ground.phase, Edge.mk 16 Ground.phase, Edge.mk 17 Ground.phase, Edge.mk 18 Ground.phase, Edge.mk 19 Ground.phase, Edge.mk 20 Ground.phase, Edge.mk 21 Ground.phase, Edge.mk 22 Ground.phase, Edge.mk 23 Ground.phase, Edge.mk 24 Ground.phase, Edge.mk 25 Ground.phase, Edge.mk 26 Ground.phase, Edge.mk 27 Ground.phase] none)) (v := ?v28t16c7x27) rfl (by kernel_rfl) (by kernel_rfl) (by kernel_rfl) (fun _ _ _ h => h) (Or.inl ⟨by rfl, ?hy28t16c7x27⟩) (by assumption) ?rest28t16c7x27
  case hy28t16c7x27 => (intro w hSw; (try dsimp only at hSw); go_simp; first | done | with_reducible rfl)
  (try simp only [Act.put, List.setIfInBounds_toArray, List.set_cons_zero, List.set_cons_succ])
  refine wpAnyH_done (by kernel_rfl) ?_ _
  go_wp2_with fail
  go_ret
  exact ⟨ret_bool (by rw [HV.out, Bool.eq_iff_iff]; simp; omega), (al (al (Below.refl _ _) _).drew _)⟩
theorem idle_any (p : Pk) (a : Option Addr) (cap : Nat) (w : World) (hl : p.dat.length ≤ 1000000000) (hb : BAt w a p.dat) : Calls Try.prog 38 #[p.val a cap] w (BQ w (idleB p)) := by
  cases h0 : p.cmd
  · cases h1 : p.sec
    · by_cases h2 : p.flags = 3
      · by_cases h3 : p.count = 0
        · exact idle_all p a cap w hl hb h0 h1 h2 h3
        · exact idle_count p a cap w hl hb h0 h1 h2 h3
      · exact idle_flags p a cap w hl hb h0 h1 h2
    · exact idle_sec p a cap w hl hb h0 h1
  · exact idle_cmd p a cap w hl hb h0
end Go.Proofs.Ytalghcgedmcifaa

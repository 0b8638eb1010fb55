/- at, tail of the reference. No condition. -/
import Derived.Test.YtjeigdopcdeaeaaQ
namespace Go.Proofs.Ytjeigdopcdeaeaa
open Go.RowKit Go.Deep Go.ChangeShapes Go.WideShapes Go.ChangeAt Scr
set_option linter.unusedVariables false

set_option maxRecDepth 20000 in
set_option maxHeartbeats 2000000 in
theorem at_any (a : Option Addr) (cap i : Nat) (l : List UInt8) (wr : World) (hi : i ≤ l.length) (hl : l.length ≤ 100000) (hcap : l.length ≤ cap) (hb : BAt wr a l) : Calls Try.prog 23 #[.slice a l.length cap, .int .i64 (i : Int)] wr fun e w' => e = .returned (.bool (full (l.drop i))) ∧ Below wr.heap.size wr w' := by
  by_cases h4 : i + 4 ≤ l.length
  · obtain ⟨b, off, rfl, hbl, -⟩ := hb.resolve_left (fun e => by rw [e] at h4; simp at h4)
    obtain ⟨F, hF⟩ : ∃ F, F = (l.drop i).take 4 := ⟨_, rfl⟩
    have hFl : F.length = 4 := by rw [hF]; simp; omega
    have hs1 : ∀ w2, Below wr.drew.heap.size wr.drew w2 → (convert 22 9 (.slice (some ⟨b, off + i, none⟩) 4 (cap - i))).run Try.prog w2 = .ok (.string ⟨F.toArray⟩) w2 := fun w2 h => str_n (l := F) 4 (cap - i) hFl (by rw [hF]; exact BAt.sub ((show BAt wr.drew (some ⟨b, off, none⟩) l from hb).below h (Nat.le_refl _)) i 4)
    have s1 := hs1 wr.drew (Below.refl _ _)
    have HS1 := Lib.hid hs1
    have HFU : Hid (full (l.drop i) = (F == mk)) := Lib.hid (by unfold full; rw [hF, decide_eq_true (by simp; omega), Bool.true_and])
    have g1 : (0 : Int) ≤ (i : Int) := by omega
    have g2 : (i : Int) + 4 ≤ (l.length : Int) := by omega
    have g3 : (i : Int) + 4 ≤ (cap : Int) := by omega
    have g4 : ¬ cap = i := by omega
    have g5 : ((i : Int) + 4).toNat = i + 4 := by omega
    have g6 : IntKind.i64.wrap ((i : Int) + 4) = (i : Int) + 4 := IntWalk.i64_in _ (by omega)
    have g7 : i + 4 - i = 4 := by omega
    have g8 : i ≤ i + 4 := by omega
    have g9 : (0 : Int) ≤ (i : Int) + 4 := by omega
    have g10 : (i : Int) ≤ (i : Int) + 4 := by omega
    have g11 : decide ((i : Int) + 4 ≤ (l.length : Int)) = true := decide_eq_true g2
    clear hF hFl hs1 hb
    go_enter Try.func23, Try.ntmps23
    go_wp2_with fail
    refine wp_region_held_drew (S := (fun w' => (convert 22 9 (.slice (some ⟨b, off + i, none⟩) 4 (cap - i))).run Try.prog w' = .ok (.string ⟨F.toArray⟩) w')) (by kernel_rfl) (by (try dsimp only); first | assumption | go_keep) (fun hHeld => ?_)
    refine wpAnyH_take (i := 0) (oi := (Oper.mk (some 5) (Op.move (Operand.tmp 1)) 3 "ref.go:20" #[] none)) (v := ?_) rfl (by kernel_rfl) (by kernel_rfl) (by kernel_rfl) (fun _ _ _ h => h) (Or.inl ⟨by rfl, ?_⟩) (by assumption) ?_
    rotate_left
    · (intro w hSw; (try dsimp only at hSw); go_simp; first | done | with_reducible rfl)
    (try simp only [Act.put, List.setIfInBounds_toArray, List.set_cons_zero, List.set_cons_succ])
    refine wpAnyH_take (i := 1) (oi := (Oper.mk (some 6) (Op.binOp BinOp.add 3 (Operand.tmp 5) (Operand.const (Value.int IntKind.i64 4)) 3) 3 "ref.go:20" #[Edge.mk 0 Ground.data] none)) (v := ?_) rfl (by kernel_rfl) (by kernel_rfl) (by kernel_rfl) (fun _ _ _ h => h) (Or.inl ⟨by rfl, ?_⟩) (by assumption) ?_
    rotate_left
    · (intro w hSw; (try dsimp only at hSw); go_simp; first | done | with_reducible rfl)
    (try simp only [Act.put, List.setIfInBounds_toArray, List.set_cons_zero, List.set_cons_succ])
    refine wpAnyH_take (i := 2) (oi := (Oper.mk (some 7) (Op.move (Operand.tmp 0)) 22 "ref.go:20" #[] none)) (v := ?_) rfl (by kernel_rfl) (by kernel_rfl) (by kernel_rfl) (fun _ _ _ h => h) (Or.inl ⟨by rfl, ?_⟩) (by assumption) ?_
    rotate_left
    · (intro w hSw; (try dsimp only at hSw); go_simp; first | done | with_reducible rfl)
    (try simp only [Act.put, List.setIfInBounds_toArray, List.set_cons_zero, List.set_cons_succ])
    refine wpAnyH_take (i := 3) (oi := (Oper.mk (some 8) (Op.call (Call.mk (Callee.builtin Builtin.len) #[Operand.tmp 7] #[22])) 3 "ref.go:20" #[Edge.mk 2 Ground.data] none)) (v := ?_) rfl (by kernel_rfl) (by kernel_rfl) (by kernel_rfl) (fun _ _ _ h => h) (Or.inl ⟨by rfl, ?_⟩) (by assumption) ?_
    rotate_left
    · (intro w hSw; (try dsimp only at hSw); go_simp; first | done | with_reducible rfl)
    (try simp only [Act.put, List.setIfInBounds_toArray, List.set_cons_zero, List.set_cons_succ])
    refine wpAnyH_take (i := 4) (oi := (Oper.mk (some 9) (Op.binOp BinOp.leq 3 (Operand.tmp 6) (Operand.tmp 8) 3) 4 "ref.go:20" #[Edge.mk 1 Ground.data, Edge.mk 3 Ground.data] none)) (v := ?_) rfl (by kernel_rfl) (by kernel_rfl) (by kernel_rfl) (fun _ _ _ h => h) (Or.inl ⟨by rfl, ?_⟩) (by assumption) ?_
    rotate_left
    · (intro w hSw; (try dsimp only at hSw); go_simp; first | done | with_reducible rfl)
    (try simp only [Act.put, List.setIfInBounds_toArray, List.set_cons_zero, List.set_cons_succ])
    refine wpAnyH_take (i := 5) (oi := (Oper.mk (some 10) (Op.move (Operand.tmp 9)) 4 "ref.go:20" #[Edge.mk 4 Ground.data] none)) (v := ?_) rfl (by kernel_rfl) (by kernel_rfl) (by kernel_rfl) (fun _ _ _ h => h) (Or.inl ⟨by rfl, ?_⟩) (by assumption) ?_
    rotate_left
    · (intro w hSw; (try dsimp only at hSw); go_simp; first | done | with_reducible rfl)
    (try simp only [Act.put, List.setIfInBounds_toArray, List.set_cons_zero, List.set_cons_succ])
    refine wpAnyH_take (i := 6) (oi := (Oper.mk (some 11) (Op.move (Operand.tmp 0)) 22 "ref.go:20" #[Edge.mk 5 Ground.guard] (some (5, true)))) (v := ?_) rfl (by kernel_rfl) (by kernel_rfl) (by kernel_rfl) (fun _ _ _ h => h) (Or.inl ⟨by rfl, ?_⟩) (by assumption) ?_
    rotate_left
    · (intro w hSw; (try dsimp only at hSw); go_simp; first | done | with_reducible rfl)
    (try simp only [Act.put, List.setIfInBounds_toArray, List.set_cons_zero, List.set_cons_succ])
    refine wpAnyH_take (i := 7) (oi := (Oper.mk (some 12) (Op.move (Operand.tmp 1)) 3 "ref.go:20" #[Edge.mk 5 Ground.guard] (some (5, true)))) (v := ?_) rfl (by kernel_rfl) (by kernel_rfl) (by kernel_rfl) (fun _ _ _ h => h) (Or.inl ⟨by rfl, ?_⟩) (by assumption) ?_
    rotate_left
    · (intro w hSw; (try dsimp only at hSw); go_simp; first | done | with_reducible rfl)
    (try simp only [Act.put, List.setIfInBounds_toArray, List.set_cons_zero, List.set_cons_succ])
    refine wpAnyH_take (i := 8) (oi := (Oper.mk (some 13) (Op.move (Operand.tmp 1)) 3 "ref.go:20" #[Edge.mk 5 Ground.guard] (some (5, true)))) (v := ?_) rfl (by kernel_rfl) (by kernel_rfl) (by kernel_rfl) (fun _ _ _ h => h) (Or.inl ⟨by rfl, ?_⟩) (by assumption) ?_
    rotate_left
    · (intro w hSw; (try dsimp only at hSw); go_simp; first | done | with_reducible rfl)
    (try simp only [Act.put, List.setIfInBounds_toArray, List.set_cons_zero, List.set_cons_succ])
    refine wpAnyH_take (i := 9) (oi := (Oper.mk (some 14) (Op.binOp BinOp.add 3 (Operand.tmp 13) (Operand.const (Value.int IntKind.i64 4)) 3) 3 "ref.go:20" #[Edge.mk 8 Ground.data, Edge.mk 5 Ground.guard] (some (5, true)))) (v := ?_) rfl (by kernel_rfl) (by kernel_rfl) (by kernel_rfl) (fun _ _ _ h => h) (Or.inl ⟨by rfl, ?_⟩) (by assumption) ?_
    rotate_left
    · (intro w hSw; (try dsimp only at hSw); go_simp; first | done | with_reducible rfl)
    (try simp only [Act.put, List.setIfInBounds_toArray, List.set_cons_zero, List.set_cons_succ])
    refine wpAnyH_take (i := 10) (oi := (Oper.mk (some 15) (Op.slice 22 (Operand.tmp 11) (some (Operand.tmp 12)) (some (Operand.tmp 14)) none) 22 "ref.go:20" #[Edge.mk 6 Ground.data, Edge.mk 7 Ground.data, Edge.mk 9 Ground.data, Edge.mk 5 Ground.guard] (some (5, true)))) (v := ?_) rfl (by kernel_rfl) (by kernel_rfl) (by kernel_rfl) (fun _ _ _ h => h) (Or.inl ⟨by rfl, ?_⟩) (by assumption) ?_
    rotate_left
    · (intro w hSw; (try dsimp only at hSw); go_simp; first | done | with_reducible rfl)
    (try simp only [Act.put, List.setIfInBounds_toArray, List.set_cons_zero, List.set_cons_succ])
    refine wpAnyH_take (i := 11) (oi := (Oper.mk (some 16) (Op.convert 22 9 (Operand.tmp 15)) 9 "ref.go:20" #[Edge.mk 10 Ground.data, Edge.mk 5 Ground.guard] (some (5, true)))) (v := ?_) rfl (by kernel_rfl) (by kernel_rfl) (by kernel_rfl) (fun _ _ _ h => h) (Or.inl ⟨by rfl, ?_⟩) (by assumption) ?_
    rotate_left
    · (intro w hSw; (try dsimp only at hSw); go_simp; first | done | with_reducible rfl)
    (try simp only [Act.put, List.setIfInBounds_toArray, List.set_cons_zero, List.set_cons_succ])
    refine wpAnyH_ready (rs := [12]) (by kernel_rfl) (by simp) ?_
    refine AllReadyH.cons (o := (Oper.mk (some 17) (Op.call (Call.mk (Callee.value (Operand.func 19)) #[] #[])) 22 "ref.go:20" #[Edge.mk 5 Ground.chain, Edge.mk 5 Ground.guard] (some (5, true)))) rfl (fun K hK => ?_) (AllReadyH.nil)
    go_simp
    (go_at_call 19; refine (rmarker_any _).mono ?_; rintro e w2 ⟨rfl, hw2⟩; have hB2 : Below wr.drew.heap.size wr.drew w2 := (by rw [hw2]; exact al (Below.refl _ _) _); have hM2 := own_str (show w2.ownsRow wr.heap.size 5 1 (.slice (some ⟨wr.heap.size, 0, none⟩) 4 4) 4 (encB mk) from (by rw [hw2]; exact mk_own wr.drew _ rfl _ (Nat.le_refl _))); have s2 := HS1.out w2 hB2; have HB2 := Lib.hid hB2; clear hw2 hB2)
    refine hK.out _ _ (by (try dsimp only); first | assumption | go_keep) (fun hHeld => ?_)
    clear hK K
    (try simp only [Act.put, List.setIfInBounds_toArray, List.set_cons_zero, List.set_cons_succ])
    refine wpAnyH_ready (rs := [13]) (by kernel_rfl) (by simp) ?_
    refine AllReadyH.cons (o := (Oper.mk (some 18) (Op.convert 22 9 (Operand.tmp 17)) 9 "ref.go:20" #[Edge.mk 12 Ground.data, Edge.mk 5 Ground.guard] (some (5, true)))) rfl (fun K hK => ?_) (AllReadyH.nil)
    go_simp
    skip
    refine hK.out _ _ (by (try dsimp only); first | assumption | go_keep) (fun hHeld => ?_)
    clear hK K
    (try simp only [Act.put, List.setIfInBounds_toArray, List.set_cons_zero, List.set_cons_succ])
    refine wpAnyH_take (i := 14) (oi := (Oper.mk (some 19) (Op.binOp BinOp.eql 9 (Operand.tmp 16) (Operand.tmp 18) 9) 4 "ref.go:20" #[Edge.mk 11 Ground.data, Edge.mk 13 Ground.data, Edge.mk 5 Ground.guard] (some (5, true)))) (v := ?_) rfl (by kernel_rfl) (by kernel_rfl) (by kernel_rfl) (fun _ _ _ h => h) (Or.inl ⟨by rfl, ?_⟩) (by assumption) ?_
    rotate_left
    · (intro w hSw; (try dsimp only at hSw); go_simp; first | done | with_reducible rfl)
    (try simp only [Act.put, List.setIfInBounds_toArray, List.set_cons_zero, List.set_cons_succ])
    refine wpAnyH_take (i := 15) (oi := (Oper.mk (some 20) (Op.pick (Operand.tmp 10) (Operand.tmp 19) (Operand.const (Value.bool false))) 4 "ref.go:20" #[Edge.mk 5 Ground.data, Edge.mk 14 Ground.data] none)) (v := ?_) rfl (by kernel_rfl) (by kernel_rfl) (by kernel_rfl) (fun _ _ _ h => h) (Or.inl ⟨by rfl, ?_⟩) (by assumption) ?_
    rotate_left
    · (intro w hSw; (try dsimp only at hSw); go_simp; first | done | with_reducible rfl)
    (try simp only [Act.put, List.setIfInBounds_toArray, List.set_cons_zero, List.set_cons_succ])
    refine wpAnyH_take (i := 16) (oi := (Oper.mk (some 4) (Op.assign (Operand.tmp 20)) 4 "ref.go:20" #[Edge.mk 15 Ground.data, Edge.mk 12 Ground.chain, Edge.mk 0 Ground.phase, Edge.mk 1 Ground.phase, Edge.mk 2 Ground.phase, Edge.mk 3 Ground.phase, Edge.mk 4 Ground.phase, Edge.mk 5 Ground.phase, Edge.mk 6 Ground.phase, Edge.mk 7 Ground.phase, Edge.mk 8 Ground.phase, Edge.mk 9 Ground.phase, Edge.mk 10 Ground.phase, Edge.mk 11 Ground.phase, Edge.mk 12 Ground.phase, Edge.mk 13 Ground.phase, Edge.mk 14 Ground.phase, Edge.mk 15 Ground.phase] none)) (v := ?_) rfl (by kernel_rfl) (by kernel_rfl) (by kernel_rfl) (fun _ _ _ h => h) (Or.inl ⟨by rfl, ?_⟩) (by assumption) ?_
    rotate_left
    · (intro w hSw; (try dsimp only at hSw); go_simp; first | done | with_reducible rfl)
    (try simp only [Act.put, List.setIfInBounds_toArray, List.set_cons_zero, List.set_cons_succ])
    refine wpAnyH_done (by kernel_rfl) ?_ _
    all_goals
      go_wp2_with fail
      go_ret
      exact ⟨ret_bool HFU.out.symm, undrew HB2.out⟩
  · have HFU : Hid (full (l.drop i) = false) := Lib.hid (by unfold full; rw [decide_eq_false (by simp; omega), Bool.false_and])
    have g1 : (0 : Int) ≤ (i : Int) := by omega
    have g2 : ¬ (i : Int) + 4 ≤ (l.length : Int) := by omega
    have g6 : IntKind.i64.wrap ((i : Int) + 4) = (i : Int) + 4 := IntWalk.i64_in _ (by omega)
    have g11 : decide ((i : Int) + 4 ≤ (l.length : Int)) = false := decide_eq_false g2
    clear hb
    go_enter Try.func23, Try.ntmps23
    go_wp2_with fail
    refine wp_region_held_drew (S := (fun w' => True)) (by kernel_rfl) (by (try dsimp only); all_goals trivial) (fun hHeld => ?_)
    refine wpAnyH_take (i := 0) (oi := (Oper.mk (some 5) (Op.move (Operand.tmp 1)) 3 "ref.go:20" #[] none)) (v := ?_) rfl (by kernel_rfl) (by kernel_rfl) (by kernel_rfl) (fun _ _ _ h => h) (Or.inl ⟨by rfl, ?_⟩) (by assumption) ?_
    rotate_left
    · (intro w hSw; (try dsimp only at hSw); go_simp; first | done | with_reducible rfl)
    (try simp only [Act.put, List.setIfInBounds_toArray, List.set_cons_zero, List.set_cons_succ])
    refine wpAnyH_take (i := 1) (oi := (Oper.mk (some 6) (Op.binOp BinOp.add 3 (Operand.tmp 5) (Operand.const (Value.int IntKind.i64 4)) 3) 3 "ref.go:20" #[Edge.mk 0 Ground.data] none)) (v := ?_) rfl (by kernel_rfl) (by kernel_rfl) (by kernel_rfl) (fun _ _ _ h => h) (Or.inl ⟨by rfl, ?_⟩) (by assumption) ?_
    rotate_left
    · (intro w hSw; (try dsimp only at hSw); go_simp; first | done | with_reducible rfl)
    (try simp only [Act.put, List.setIfInBounds_toArray, List.set_cons_zero, List.set_cons_succ])
    refine wpAnyH_take (i := 2) (oi := (Oper.mk (some 7) (Op.move (Operand.tmp 0)) 22 "ref.go:20" #[] none)) (v := ?_) rfl (by kernel_rfl) (by kernel_rfl) (by kernel_rfl) (fun _ _ _ h => h) (Or.inl ⟨by rfl, ?_⟩) (by assumption) ?_
    rotate_left
    · (intro w hSw; (try dsimp only at hSw); go_simp; first | done | with_reducible rfl)
    (try simp only [Act.put, List.setIfInBounds_toArray, List.set_cons_zero, List.set_cons_succ])
    refine wpAnyH_take (i := 3) (oi := (Oper.mk (some 8) (Op.call (Call.mk (Callee.builtin Builtin.len) #[Operand.tmp 7] #[22])) 3 "ref.go:20" #[Edge.mk 2 Ground.data] none)) (v := ?_) rfl (by kernel_rfl) (by kernel_rfl) (by kernel_rfl) (fun _ _ _ h => h) (Or.inl ⟨by rfl, ?_⟩) (by assumption) ?_
    rotate_left
    · (intro w hSw; (try dsimp only at hSw); go_simp; first | done | with_reducible rfl)
    (try simp only [Act.put, List.setIfInBounds_toArray, List.set_cons_zero, List.set_cons_succ])
    refine wpAnyH_take (i := 4) (oi := (Oper.mk (some 9) (Op.binOp BinOp.leq 3 (Operand.tmp 6) (Operand.tmp 8) 3) 4 "ref.go:20" #[Edge.mk 1 Ground.data, Edge.mk 3 Ground.data] none)) (v := ?_) rfl (by kernel_rfl) (by kernel_rfl) (by kernel_rfl) (fun _ _ _ h => h) (Or.inl ⟨by rfl, ?_⟩) (by assumption) ?_
    rotate_left
    · (intro w hSw; (try dsimp only at hSw); go_simp; first | done | with_reducible rfl)
    (try simp only [Act.put, List.setIfInBounds_toArray, List.set_cons_zero, List.set_cons_succ])
    refine wpAnyH_take (i := 5) (oi := (Oper.mk (some 10) (Op.move (Operand.tmp 9)) 4 "ref.go:20" #[Edge.mk 4 Ground.data] none)) (v := ?_) rfl (by kernel_rfl) (by kernel_rfl) (by kernel_rfl) (fun _ _ _ h => h) (Or.inl ⟨by rfl, ?_⟩) (by assumption) ?_
    rotate_left
    · (intro w hSw; (try dsimp only at hSw); go_simp; first | done | with_reducible rfl)
    (try simp only [Act.put, List.setIfInBounds_toArray, List.set_cons_zero, List.set_cons_succ])
    refine wpAnyH_take (i := 6) (oi := (Oper.mk (some 11) (Op.move (Operand.tmp 0)) 22 "ref.go:20" #[Edge.mk 5 Ground.guard] (some (5, true)))) (v := undef) rfl (by kernel_rfl) (by kernel_rfl) (by kernel_rfl) (fun _ _ _ h => h) (Or.inr ⟨by rfl, rfl⟩) (by assumption) ?_
    (try simp only [Act.put, List.setIfInBounds_toArray, List.set_cons_zero, List.set_cons_succ])
    refine wpAnyH_take (i := 7) (oi := (Oper.mk (some 12) (Op.move (Operand.tmp 1)) 3 "ref.go:20" #[Edge.mk 5 Ground.guard] (some (5, true)))) (v := undef) rfl (by kernel_rfl) (by kernel_rfl) (by kernel_rfl) (fun _ _ _ h => h) (Or.inr ⟨by rfl, rfl⟩) (by assumption) ?_
    (try simp only [Act.put, List.setIfInBounds_toArray, List.set_cons_zero, List.set_cons_succ])
    refine wpAnyH_take (i := 8) (oi := (Oper.mk (some 13) (Op.move (Operand.tmp 1)) 3 "ref.go:20" #[Edge.mk 5 Ground.guard] (some (5, true)))) (v := undef) rfl (by kernel_rfl) (by kernel_rfl) (by kernel_rfl) (fun _ _ _ h => h) (Or.inr ⟨by rfl, rfl⟩) (by assumption) ?_
    (try simp only [Act.put, List.setIfInBounds_toArray, List.set_cons_zero, List.set_cons_succ])
    refine wpAnyH_take (i := 9) (oi := (Oper.mk (some 14) (Op.binOp BinOp.add 3 (Operand.tmp 13) (Operand.const (Value.int IntKind.i64 4)) 3) 3 "ref.go:20" #[Edge.mk 8 Ground.data, Edge.mk 5 Ground.guard] (some (5, true)))) (v := undef) rfl (by kernel_rfl) (by kernel_rfl) (by kernel_rfl) (fun _ _ _ h => h) (Or.inr ⟨by rfl, rfl⟩) (by assumption) ?_
    (try simp only [Act.put, List.setIfInBounds_toArray, List.set_cons_zero, List.set_cons_succ])
    refine wpAnyH_take (i := 10) (oi := (Oper.mk (some 15) (Op.slice 22 (Operand.tmp 11) (some (Operand.tmp 12)) (some (Operand.tmp 14)) none) 22 "ref.go:20" #[Edge.mk 6 Ground.data, Edge.mk 7 Ground.data, Edge.mk 9 Ground.data, Edge.mk 5 Ground.guard] (some (5, true)))) (v := undef) rfl (by kernel_rfl) (by kernel_rfl) (by kernel_rfl) (fun _ _ _ h => h) (Or.inr ⟨by rfl, rfl⟩) (by assumption) ?_
    (try simp only [Act.put, List.setIfInBounds_toArray, List.set_cons_zero, List.set_cons_succ])
    refine wpAnyH_take (i := 11) (oi := (Oper.mk (some 16) (Op.convert 22 9 (Operand.tmp 15)) 9 "ref.go:20" #[Edge.mk 10 Ground.data, Edge.mk 5 Ground.guard] (some (5, true)))) (v := undef) rfl (by kernel_rfl) (by kernel_rfl) (by kernel_rfl) (fun _ _ _ h => h) (Or.inr ⟨by rfl, rfl⟩) (by assumption) ?_
    (try simp only [Act.put, List.setIfInBounds_toArray, List.set_cons_zero, List.set_cons_succ])
    refine wpAnyH_take (i := 12) (oi := (Oper.mk (some 17) (Op.call (Call.mk (Callee.value (Operand.func 19)) #[] #[])) 22 "ref.go:20" #[Edge.mk 5 Ground.chain, Edge.mk 5 Ground.guard] (some (5, true)))) (v := undef) rfl (by kernel_rfl) (by kernel_rfl) (by kernel_rfl) (fun _ _ _ h => h) (Or.inr ⟨by rfl, rfl⟩) (by assumption) ?_
    (try simp only [Act.put, List.setIfInBounds_toArray, List.set_cons_zero, List.set_cons_succ])
    refine wpAnyH_take (i := 13) (oi := (Oper.mk (some 18) (Op.convert 22 9 (Operand.tmp 17)) 9 "ref.go:20" #[Edge.mk 12 Ground.data, Edge.mk 5 Ground.guard] (some (5, true)))) (v := undef) rfl (by kernel_rfl) (by kernel_rfl) (by kernel_rfl) (fun _ _ _ h => h) (Or.inr ⟨by rfl, rfl⟩) (by assumption) ?_
    (try simp only [Act.put, List.setIfInBounds_toArray, List.set_cons_zero, List.set_cons_succ])
    refine wpAnyH_take (i := 14) (oi := (Oper.mk (some 19) (Op.binOp BinOp.eql 9 (Operand.tmp 16) (Operand.tmp 18) 9) 4 "ref.go:20" #[Edge.mk 11 Ground.data, Edge.mk 13 Ground.data, Edge.mk 5 Ground.guard] (some (5, true)))) (v := undef) rfl (by kernel_rfl) (by kernel_rfl) (by kernel_rfl) (fun _ _ _ h => h) (Or.inr ⟨by rfl, rfl⟩) (by assumption) ?_
    (try simp only [Act.put, List.setIfInBounds_toArray, List.set_cons_zero, List.set_cons_succ])
    refine wpAnyH_take (i := 15) (oi := (Oper.mk (some 20) (Op.pick (Operand.tmp 10) (Operand.tmp 19) (Operand.const (Value.bool false))) 4 "ref.go:20" #[Edge.mk 5 Ground.data, Edge.mk 14 Ground.data] none)) (v := ?_) rfl (by kernel_rfl) (by kernel_rfl) (by kernel_rfl) (fun _ _ _ h => h) (Or.inl ⟨by rfl, ?_⟩) (by assumption) ?_
    rotate_left
    · (intro w hSw; (try dsimp only at hSw); go_simp; first | done | with_reducible rfl)
    (try simp only [Act.put, List.setIfInBounds_toArray, List.set_cons_zero, List.set_cons_succ])
    refine wpAnyH_take (i := 16) (oi := (Oper.mk (some 4) (Op.assign (Operand.tmp 20)) 4 "ref.go:20" #[Edge.mk 15 Ground.data, Edge.mk 12 Ground.chain, Edge.mk 0 Ground.phase, Edge.mk 1 Ground.phase, Edge.mk 2 Ground.phase, Edge.mk 3 Ground.phase, Edge.mk 4 Ground.phase, Edge.mk 5 Ground.phase, Edge.mk 6 Ground.phase, Edge.mk 7 Ground.phase, Edge.mk 8 Ground.phase, Edge.mk 9 Ground.phase, Edge.mk 10 Ground.phase, Edge.mk 11 Ground.phase, Edge.mk 12 Ground.phase, Edge.mk 13 Ground.phase, Edge.mk 14 Ground.phase, Edge.mk 15 Ground.phase] none)) (v := ?_) rfl (by kernel_rfl) (by kernel_rfl) (by kernel_rfl) (fun _ _ _ h => h) (Or.inl ⟨by rfl, ?_⟩) (by assumption) ?_
    rotate_left
    · (intro w hSw; (try dsimp only at hSw); go_simp; first | done | with_reducible rfl)
    (try simp only [Act.put, List.setIfInBounds_toArray, List.set_cons_zero, List.set_cons_succ])
    refine wpAnyH_done (by kernel_rfl) ?_ _
    go_wp2_with fail
    go_ret
    exact ⟨ret_bool HFU.out.symm, (Below.refl _ _).drew⟩
end Go.Proofs.Ytjeigdopcdeaeaa

/- tail of the reference. No condition. -/
import Derived.Test.YtjeigdopcdeaeaaR
namespace Go.Proofs.Ytjeigdopcdeaeaa
open Go.RowKit Go.Deep Go.ChangeShapes Go.WideShapes Go.ChangeAt Scr
set_option linter.unusedVariables false

theorem mk_take (w : World) (H : Nat) (hH : w.heap.size = H) (k : Nat) : BAt (w.alloc (.cells #[.int .u8 26, .int .u8 207, .int .u8 252, .int .u8 29] 5)) (some ⟨H, 0, none⟩) (mk.take k) := by
  obtain ⟨-, a', c', h1, -, -, h2⟩ := BAt.of_row (mk_own w H hH H (Nat.le_refl _))
  cases h1
  exact BAt.take h2 k
set_option maxRecDepth 20000 in
set_option maxHeartbeats 2000000 in
theorem tail_any (a : Option Addr) (cap : Nat) (l : List UInt8) (w : World) (hl : l.length ≤ 100000) (hcap : l.length ≤ cap) (hb : BAt w a l) : Calls Try.prog 24 #[.slice a l.length cap] w fun e w' => e = .returned (.int .i64 (tailN l : Nat)) ∧ Below w.heap.size w w' := by
  have HB := Lib.hid hb
  clear hb
  obtain ⟨m, hm⟩ : ∃ m : Nat, m = min 3 l.length := ⟨_, rfl⟩
  have htn : Hid (tailFrom l m = tailN l) := Lib.hid (by rw [hm]; rfl)
  have hm3 : m ≤ 3 := by omega
  have hml : m ≤ l.length := by omega
  have hmin : min (3 : Int) (l.length : Int) = (m : Int) := by omega
  by_cases h3 : 3 ≤ l.length
  all_goals
    first | (have h3' : (3 : Int) ≤ (l.length : Int) := by omega) | skip
    have HMM := Lib.hid hm
    clear hm
    go_enter Try.func24, Try.ntmps24
    go_wp2_with fail
    go_loopw [3] (fun i wr => ∃ k : Nat, k ≤ m ∧ i = .int .i64 k ∧ tailFrom l k = tailN l ∧ Below w.heap.size w wr) (fun i _ => (intOf i).toNat)
    case atStart => exact ⟨m, by omega, congrArg (Value.int .i64) (by have := HMM.out; omega), htn.out, Below.refl _ _⟩
    case round =>
      obtain ⟨k, hk, rfl, htk, hB⟩ := hrel
      have HT := Lib.hid htk
      have HBr := Lib.hid hB
      have hsr := hB.size
      clear htk hB
      by_cases hk0 : 0 < k
      · obtain ⟨b, off, rfl, hbl, -⟩ := HB.out.resolve_left (fun e => by rw [e] at hml; simp at hml; omega)
        obtain ⟨p, hp⟩ : ∃ p, p + k = l.length := ⟨l.length - k, by omega⟩
        obtain ⟨F, hF⟩ : ∃ F, F = l.drop p := ⟨_, rfl⟩
        have hFl : F.length = k := by rw [hF]; simp; omega
        have HML : Hid ((mk.take k).length = k) := Lib.hid (by simp [mk]; omega)
        have hs1 : ∀ w2, Below wr.drew.heap.size wr.drew w2 → (convert 22 9 (.slice (some ⟨b, off + p, none⟩) k (cap - p))).run Try.prog w2 = .ok (.string ⟨F.toArray⟩) w2 := fun w2 h => str_n (l := F) k (cap - p) hFl (by
          have h1 := BAt.sub ((show BAt wr.drew (some ⟨b, off, none⟩) l from HB.out.below HBr.out.drew (Nat.le_refl _)).below h (Nat.le_refl _)) p l.length
          rw [List.take_of_length_le (by simp)] at h1
          rw [hF]; exact h1)
        have s1 := hs1 wr.drew (Below.refl _ _)
        have HS1 := Lib.hid hs1
        have htf : tailFrom l k = if F == mk.take k then k else tailFrom l (k - 1) := by
          obtain ⟨j, rfl⟩ : ∃ j, k = j + 1 := ⟨k - 1, by omega⟩
          rw [hF, show p = l.length - (j + 1) by omega]
          rfl
        have HTF := Lib.hid htf
        have e0 : (k : Int) - 1 = ((k - 1 : Nat) : Int) := by omega
        have e1 : (l.length : Int) - (k : Int) = (p : Int) := by omega
        have e2 : l.length - p = k := by omega
        have g0 : (0 : Int) < (k : Int) := by omega
        have g1 : (0 : Int) ≤ (k : Int) := by omega
        have g2 : (k : Int) ≤ 4 := by omega
        have g3 : (0 : Int) ≤ (p : Int) := by omega
        have g4 : (p : Int) ≤ (l.length : Int) := by omega
        have g5 : ¬ cap = p := by omega
        have g6 : (l.length : Int) ≤ (cap : Int) := by omega
        have g7 : IntKind.i64.wrap (p : Int) = (p : Int) := IntWalk.i64_in _ (by omega)
        have HPK := Lib.hid hp
        clear hF hFl hs1 htf hp
        cases hc : (F == mk.take k)
        · have HCC := Lib.hid hc
          have hcn : (mk.take k == F) = false := by rw [beq_eq_false_iff_ne] at hc ⊢; exact fun e => hc e.symm
          go_wp2_with fail
          refine wp_region_held_drew (S := (fun w' => (convert 22 9 (.slice (some ⟨b, off + p, none⟩) k (cap - p))).run Try.prog w' = .ok (.string ⟨F.toArray⟩) w')) (by kernel_rfl) (by (try dsimp only); first | assumption | go_keep) (fun hHeld => ?_)
          refine wpAnyH_take (i := 0) (oi := (Oper.mk (some 11) (Op.move (Operand.tmp 0)) 22 "ref.go:26" #[] none)) (v := ?_) rfl (by kernel_rfl) (by kernel_rfl) (by kernel_rfl) (fun _ _ _ h => h) (Or.inl ⟨by rfl, ?_⟩) (by assumption) ?_
          rotate_left
          · (intro w hSw; (try dsimp only at hSw); go_simp; first | done | with_reducible rfl)
          (try simp only [Act.put, List.setIfInBounds_toArray, List.set_cons_zero, List.set_cons_succ])
          refine wpAnyH_take (i := 1) (oi := (Oper.mk (some 12) (Op.move (Operand.tmp 0)) 22 "ref.go:26" #[] none)) (v := ?_) rfl (by kernel_rfl) (by kernel_rfl) (by kernel_rfl) (fun _ _ _ h => h) (Or.inl ⟨by rfl, ?_⟩) (by assumption) ?_
          rotate_left
          · (intro w hSw; (try dsimp only at hSw); go_simp; first | done | with_reducible rfl)
          (try simp only [Act.put, List.setIfInBounds_toArray, List.set_cons_zero, List.set_cons_succ])
          refine wpAnyH_take (i := 2) (oi := (Oper.mk (some 13) (Op.call (Call.mk (Callee.builtin Builtin.len) #[Operand.tmp 12] #[22])) 3 "ref.go:26" #[Edge.mk 1 Ground.data] none)) (v := ?_) rfl (by kernel_rfl) (by kernel_rfl) (by kernel_rfl) (fun _ _ _ h => h) (Or.inl ⟨by rfl, ?_⟩) (by assumption) ?_
          rotate_left
          · (intro w hSw; (try dsimp only at hSw); go_simp; first | done | with_reducible rfl)
          (try simp only [Act.put, List.setIfInBounds_toArray, List.set_cons_zero, List.set_cons_succ])
          refine wpAnyH_take (i := 3) (oi := (Oper.mk (some 14) (Op.move (Operand.tmp 3)) 3 "ref.go:26" #[] none)) (v := ?_) rfl (by kernel_rfl) (by kernel_rfl) (by kernel_rfl) (fun _ _ _ h => h) (Or.inl ⟨by rfl, ?_⟩) (by assumption) ?_
          rotate_left
          · (intro w hSw; (try dsimp only at hSw); go_simp; first | done | with_reducible rfl)
          (try simp only [Act.put, List.setIfInBounds_toArray, List.set_cons_zero, List.set_cons_succ])
          refine wpAnyH_take (i := 4) (oi := (Oper.mk (some 15) (Op.binOp BinOp.sub 3 (Operand.tmp 13) (Operand.tmp 14) 3) 3 "ref.go:26" #[Edge.mk 2 Ground.data, Edge.mk 3 Ground.data] none)) (v := ?_) rfl (by kernel_rfl) (by kernel_rfl) (by kernel_rfl) (fun _ _ _ h => h) (Or.inl ⟨by rfl, ?_⟩) (by assumption) ?_
          rotate_left
          · (intro w hSw; (try dsimp only at hSw); go_simp; first | done | with_reducible rfl)
          (try simp only [Act.put, List.setIfInBounds_toArray, List.set_cons_zero, List.set_cons_succ])
          refine wpAnyH_take (i := 5) (oi := (Oper.mk (some 16) (Op.slice 22 (Operand.tmp 11) (some (Operand.tmp 15)) none none) 22 "ref.go:26" #[Edge.mk 0 Ground.data, Edge.mk 4 Ground.data] none)) (v := ?_) rfl (by kernel_rfl) (by kernel_rfl) (by kernel_rfl) (fun _ _ _ h => h) (Or.inl ⟨by rfl, ?_⟩) (by assumption) ?_
          rotate_left
          · (intro w hSw; (try dsimp only at hSw); go_simp; first | done | with_reducible rfl)
          (try simp only [Act.put, List.setIfInBounds_toArray, List.set_cons_zero, List.set_cons_succ])
          refine wpAnyH_take (i := 6) (oi := (Oper.mk (some 17) (Op.convert 22 9 (Operand.tmp 16)) 9 "ref.go:26" #[Edge.mk 5 Ground.data] none)) (v := ?_) rfl (by kernel_rfl) (by kernel_rfl) (by kernel_rfl) (fun _ _ _ h => h) (Or.inl ⟨by rfl, ?_⟩) (by assumption) ?_
          rotate_left
          · (intro w hSw; (try dsimp only at hSw); go_simp; first | done | with_reducible rfl)
          (try simp only [Act.put, List.setIfInBounds_toArray, List.set_cons_zero, List.set_cons_succ])
          refine wpAnyH_take (i := 8) (oi := (Oper.mk (some 19) (Op.move (Operand.tmp 3)) 3 "ref.go:26" #[] none)) (v := ?_) rfl (by kernel_rfl) (by kernel_rfl) (by kernel_rfl) (fun _ _ _ h => h) (Or.inl ⟨by rfl, ?_⟩) (by assumption) ?_
          rotate_left
          · (intro w hSw; (try dsimp only at hSw); go_simp; first | done | with_reducible rfl)
          (try simp only [Act.put, List.setIfInBounds_toArray, List.set_cons_zero, List.set_cons_succ])
          refine wpAnyH_ready (rs := [7]) (by kernel_rfl) (by simp) ?_
          refine AllReadyH.cons (o := (Oper.mk (some 18) (Op.call (Call.mk (Callee.value (Operand.func 19)) #[] #[])) 22 "ref.go:26" #[] none)) rfl (fun K hK => ?_) (AllReadyH.nil)
          go_simp
          (go_at_call 19; refine (rmarker_any _).mono ?_; rintro e w2 ⟨rfl, hw2⟩; have hB2 : Below wr.drew.heap.size wr.drew w2 := (by rw [hw2]; exact al (Below.refl _ _) _); have hM2 := str_n (w := w2) (a := some ⟨wr.heap.size, 0, none⟩) (l := mk.take k) k 4 HML.out (by rw [hw2]; exact mk_take wr.drew wr.heap.size rfl k); have s2 := HS1.out w2 hB2; have HB2 := Lib.hid hB2; clear hw2 hB2)
          refine hK.out _ _ (by (try dsimp only); first | assumption | go_keep) (fun hHeld => ?_)
          clear hK K
          (try simp only [Act.put, List.setIfInBounds_toArray, List.set_cons_zero, List.set_cons_succ])
          refine wpAnyH_take (i := 9) (oi := (Oper.mk (some 20) (Op.slice 22 (Operand.tmp 18) none (some (Operand.tmp 19)) none) 22 "ref.go:26" #[Edge.mk 7 Ground.data, Edge.mk 8 Ground.data] none)) (v := ?_) rfl (by kernel_rfl) (by kernel_rfl) (by kernel_rfl) (fun _ _ _ h => h) (Or.inl ⟨by rfl, ?_⟩) (by assumption) ?_
          rotate_left
          · (intro w hSw; (try dsimp only at hSw); go_simp; first | done | with_reducible rfl)
          (try simp only [Act.put, List.setIfInBounds_toArray, List.set_cons_zero, List.set_cons_succ])
          refine wpAnyH_ready (rs := [10]) (by kernel_rfl) (by simp) ?_
          refine AllReadyH.cons (o := (Oper.mk (some 21) (Op.convert 22 9 (Operand.tmp 20)) 9 "ref.go:26" #[Edge.mk 9 Ground.data] none)) rfl (fun K hK => ?_) (AllReadyH.nil)
          go_simp
          skip
          refine hK.out _ _ (by (try dsimp only); first | assumption | go_keep) (fun hHeld => ?_)
          clear hK K
          (try simp only [Act.put, List.setIfInBounds_toArray, List.set_cons_zero, List.set_cons_succ])
          refine wpAnyH_take (i := 11) (oi := (Oper.mk (some 22) (Op.binOp BinOp.eql 9 (Operand.tmp 17) (Operand.tmp 21) 9) 4 "ref.go:26" #[Edge.mk 6 Ground.data, Edge.mk 10 Ground.data] none)) (v := ?_) rfl (by kernel_rfl) (by kernel_rfl) (by kernel_rfl) (fun _ _ _ h => h) (Or.inl ⟨by rfl, ?_⟩) (by assumption) ?_
          rotate_left
          · (intro w hSw; (try dsimp only at hSw); go_simp; first | done | with_reducible rfl)
          (try simp only [Act.put, List.setIfInBounds_toArray, List.set_cons_zero, List.set_cons_succ])
          refine wpAnyH_done (by kernel_rfl) ?_ _
          all_goals
            go_wp2_with fail
            go_roundw
            case rel => exact ⟨k - 1, by omega, rfl, by rw [← HT.out, HTF.out, HCC.out]; rfl, HBr.out.trans ((undrew HB2.out).mono hsr)⟩
            case measure => simp [intOf]; omega
        · have HCC := Lib.hid hc
          go_wp2_with fail
          refine wp_region_held_drew (S := (fun w' => (convert 22 9 (.slice (some ⟨b, off + p, none⟩) k (cap - p))).run Try.prog w' = .ok (.string ⟨F.toArray⟩) w')) (by kernel_rfl) (by (try dsimp only); first | assumption | go_keep) (fun hHeld => ?_)
          refine wpAnyH_take (i := 0) (oi := (Oper.mk (some 11) (Op.move (Operand.tmp 0)) 22 "ref.go:26" #[] none)) (v := ?_) rfl (by kernel_rfl) (by kernel_rfl) (by kernel_rfl) (fun _ _ _ h => h) (Or.inl ⟨by rfl, ?_⟩) (by assumption) ?_
          rotate_left
          · (intro w hSw; (try dsimp only at hSw); go_simp; first | done | with_reducible rfl)
          (try simp only [Act.put, List.setIfInBounds_toArray, List.set_cons_zero, List.set_cons_succ])
          refine wpAnyH_take (i := 1) (oi := (Oper.mk (some 12) (Op.move (Operand.tmp 0)) 22 "ref.go:26" #[] none)) (v := ?_) rfl (by kernel_rfl) (by kernel_rfl) (by kernel_rfl) (fun _ _ _ h => h) (Or.inl ⟨by rfl, ?_⟩) (by assumption) ?_
          rotate_left
          · (intro w hSw; (try dsimp only at hSw); go_simp; first | done | with_reducible rfl)
          (try simp only [Act.put, List.setIfInBounds_toArray, List.set_cons_zero, List.set_cons_succ])
          refine wpAnyH_take (i := 2) (oi := (Oper.mk (some 13) (Op.call (Call.mk (Callee.builtin Builtin.len) #[Operand.tmp 12] #[22])) 3 "ref.go:26" #[Edge.mk 1 Ground.data] none)) (v := ?_) rfl (by kernel_rfl) (by kernel_rfl) (by kernel_rfl) (fun _ _ _ h => h) (Or.inl ⟨by rfl, ?_⟩) (by assumption) ?_
          rotate_left
          · (intro w hSw; (try dsimp only at hSw); go_simp; first | done | with_reducible rfl)
          (try simp only [Act.put, List.setIfInBounds_toArray, List.set_cons_zero, List.set_cons_succ])
          refine wpAnyH_take (i := 3) (oi := (Oper.mk (some 14) (Op.move (Operand.tmp 3)) 3 "ref.go:26" #[] none)) (v := ?_) rfl (by kernel_rfl) (by kernel_rfl) (by kernel_rfl) (fun _ _ _ h => h) (Or.inl ⟨by rfl, ?_⟩) (by assumption) ?_
          rotate_left
          · (intro w hSw; (try dsimp only at hSw); go_simp; first | done | with_reducible rfl)
          (try simp only [Act.put, List.setIfInBounds_toArray, List.set_cons_zero, List.set_cons_succ])
          refine wpAnyH_take (i := 4) (oi := (Oper.mk (some 15) (Op.binOp BinOp.sub 3 (Operand.tmp 13) (Operand.tmp 14) 3) 3 "ref.go:26" #[Edge.mk 2 Ground.data, Edge.mk 3 Ground.data] none)) (v := ?_) rfl (by kernel_rfl) (by kernel_rfl) (by kernel_rfl) (fun _ _ _ h => h) (Or.inl ⟨by rfl, ?_⟩) (by assumption) ?_
          rotate_left
          · (intro w hSw; (try dsimp only at hSw); go_simp; first | done | with_reducible rfl)
          (try simp only [Act.put, List.setIfInBounds_toArray, List.set_cons_zero, List.set_cons_succ])
          refine wpAnyH_take (i := 5) (oi := (Oper.mk (some 16) (Op.slice 22 (Operand.tmp 11) (some (Operand.tmp 15)) none none) 22 "ref.go:26" #[Edge.mk 0 Ground.data, Edge.mk 4 Ground.data] none)) (v := ?_) rfl (by kernel_rfl) (by kernel_rfl) (by kernel_rfl) (fun _ _ _ h => h) (Or.inl ⟨by rfl, ?_⟩) (by assumption) ?_
          rotate_left
          · (intro w hSw; (try dsimp only at hSw); go_simp; first | done | with_reducible rfl)
          (try simp only [Act.put, List.setIfInBounds_toArray, List.set_cons_zero, List.set_cons_succ])
          refine wpAnyH_take (i := 6) (oi := (Oper.mk (some 17) (Op.convert 22 9 (Operand.tmp 16)) 9 "ref.go:26" #[Edge.mk 5 Ground.data] none)) (v := ?_) rfl (by kernel_rfl) (by kernel_rfl) (by kernel_rfl) (fun _ _ _ h => h) (Or.inl ⟨by rfl, ?_⟩) (by assumption) ?_
          rotate_left
          · (intro w hSw; (try dsimp only at hSw); go_simp; first | done | with_reducible rfl)
          (try simp only [Act.put, List.setIfInBounds_toArray, List.set_cons_zero, List.set_cons_succ])
          refine wpAnyH_take (i := 8) (oi := (Oper.mk (some 19) (Op.move (Operand.tmp 3)) 3 "ref.go:26" #[] none)) (v := ?_) rfl (by kernel_rfl) (by kernel_rfl) (by kernel_rfl) (fun _ _ _ h => h) (Or.inl ⟨by rfl, ?_⟩) (by assumption) ?_
          rotate_left
          · (intro w hSw; (try dsimp only at hSw); go_simp; first | done | with_reducible rfl)
          (try simp only [Act.put, List.setIfInBounds_toArray, List.set_cons_zero, List.set_cons_succ])
          refine wpAnyH_ready (rs := [7]) (by kernel_rfl) (by simp) ?_
          refine AllReadyH.cons (o := (Oper.mk (some 18) (Op.call (Call.mk (Callee.value (Operand.func 19)) #[] #[])) 22 "ref.go:26" #[] none)) rfl (fun K hK => ?_) (AllReadyH.nil)
          go_simp
          (go_at_call 19; refine (rmarker_any _).mono ?_; rintro e w2 ⟨rfl, hw2⟩; have hB2 : Below wr.drew.heap.size wr.drew w2 := (by rw [hw2]; exact al (Below.refl _ _) _); have hM2 := str_n (w := w2) (a := some ⟨wr.heap.size, 0, none⟩) (l := mk.take k) k 4 HML.out (by rw [hw2]; exact mk_take wr.drew wr.heap.size rfl k); have s2 := HS1.out w2 hB2; have HB2 := Lib.hid hB2; clear hw2 hB2)
          refine hK.out _ _ (by (try dsimp only); first | assumption | go_keep) (fun hHeld => ?_)
          clear hK K
          (try simp only [Act.put, List.setIfInBounds_toArray, List.set_cons_zero, List.set_cons_succ])
          refine wpAnyH_take (i := 9) (oi := (Oper.mk (some 20) (Op.slice 22 (Operand.tmp 18) none (some (Operand.tmp 19)) none) 22 "ref.go:26" #[Edge.mk 7 Ground.data, Edge.mk 8 Ground.data] none)) (v := ?_) rfl (by kernel_rfl) (by kernel_rfl) (by kernel_rfl) (fun _ _ _ h => h) (Or.inl ⟨by rfl, ?_⟩) (by assumption) ?_
          rotate_left
          · (intro w hSw; (try dsimp only at hSw); go_simp; first | done | with_reducible rfl)
          (try simp only [Act.put, List.setIfInBounds_toArray, List.set_cons_zero, List.set_cons_succ])
          refine wpAnyH_ready (rs := [10]) (by kernel_rfl) (by simp) ?_
          refine AllReadyH.cons (o := (Oper.mk (some 21) (Op.convert 22 9 (Operand.tmp 20)) 9 "ref.go:26" #[Edge.mk 9 Ground.data] none)) rfl (fun K hK => ?_) (AllReadyH.nil)
          go_simp
          skip
          refine hK.out _ _ (by (try dsimp only); first | assumption | go_keep) (fun hHeld => ?_)
          clear hK K
          (try simp only [Act.put, List.setIfInBounds_toArray, List.set_cons_zero, List.set_cons_succ])
          refine wpAnyH_take (i := 11) (oi := (Oper.mk (some 22) (Op.binOp BinOp.eql 9 (Operand.tmp 17) (Operand.tmp 21) 9) 4 "ref.go:26" #[Edge.mk 6 Ground.data, Edge.mk 10 Ground.data] none)) (v := ?_) rfl (by kernel_rfl) (by kernel_rfl) (by kernel_rfl) (fun _ _ _ h => h) (Or.inl ⟨by rfl, ?_⟩) (by assumption) ?_
          rotate_left
          · (intro w hSw; (try dsimp only at hSw); go_simp; first | done | with_reducible rfl)
          (try simp only [Act.put, List.setIfInBounds_toArray, List.set_cons_zero, List.set_cons_succ])
          refine wpAnyH_done (by kernel_rfl) ?_ _
          all_goals
            go_wp2_with fail
            go_ret
            exact ⟨ret_int (by rw [← HT.out, HTF.out, HCC.out]; rfl), HBr.out.trans ((undrew HB2.out).mono hsr)⟩
      · obtain rfl : k = 0 := by omega
        go_wp2_with fail
        go_ret
        exact ⟨ret_int (by rw [← HT.out]; rfl), HBr.out⟩
end Go.Proofs.Ytjeigdopcdeaeaa

/- Same of the reference. No condition. -/
import Derived.Test.YtllpbfejoahllaaJ
namespace Go.Proofs.Ytllpbfejoahllaa
open Go.RowKit Go.Deep Go.ChangeShapes Go.WideShapes Go.ChangeAt
set_option linter.unusedVariables false

theorem take_eq {α : Type} (L1 L2 : List α) (k : Nat) (h1 : k < L1.length) (h2 : k < L2.length) (h : L1.take k = L2.take k) (he : L1[k] = L2[k]) : L1.take (k + 1) = L2.take (k + 1) := by
  rw [List.take_succ_eq_append_getElem h1, List.take_succ_eq_append_getElem h2, h, he]
set_option maxRecDepth 20000 in
set_option maxHeartbeats 2000000 in
theorem same_any (S1 S2 : Nat → Prop) (v1 v2 : Value) (L1 L2 : List (List UInt8)) (w : World) (h1 : SAt w S1 v1 L1) (h2 : SAt w S2 v2 L2) : Calls Try.prog 13 #[v1, v2] w fun e w' => e = .returned (.bool (decide (L1 = L2))) ∧ Quiet w w' := by
  have H1 := Lib.hid h1
  have H2 := Lib.hid h2
  obtain ⟨a1, c1, rfl, hc1, hm1⟩ := h1.len
  obtain ⟨a2, c2, rfl, hc2, hm2⟩ := h2.len
  clear h1 h2
  unfold maxLen at hm1 hm2
  by_cases hlen : L1.length = L2.length
  · have e1 : ((L1.length : Int) != (L2.length : Int)) = false := by rw [hlen]; simp
    have HL := Lib.hid hlen
    have hl2 : L1.length ≤ L2.length := by omega
    clear hlen
    go_enter Try.func13, Try.ntmps13
    go_wp2_with fail
    go_loopw [5] (fun i wr => ∃ k : Nat, k ≤ L1.length ∧ i = .int .i64 k ∧ L1.take k = L2.take k ∧ Quiet w wr) (fun i _ => L1.length - (intOf i).toNat)
    case atStart => exact ⟨0, by omega, rfl, rfl, Quiet.refl _⟩
    case round =>
      obtain ⟨k, hk, rfl, htk, hq⟩ := hrel
      have HT := Lib.hid htk
      have HQ := Lib.hid hq
      clear htk hq
      by_cases hlt : k < L1.length
      · have hlt2 : k < L2.length := by omega
        obtain ⟨b1, o1, cp1, ae1, ce1, e, -, -, hb1, k1, -, -, hA1, -⟩ := H1.out.get hlt
        simp only [Value.slice.injEq, true_and] at e
        obtain ⟨rfl, rfl⟩ := e
        obtain ⟨b2, o2, cp2, ae2, ce2, e, -, -, hb2, k2, -, -, hA2, -⟩ := H2.out.get hlt2
        simp only [Value.slice.injEq, true_and] at e
        obtain ⟨rfl, rfl⟩ := e
        obtain ⟨x1, hx1⟩ : ∃ x1, x1 = L1[k] := ⟨_, rfl⟩
        obtain ⟨x2, hx2⟩ : ∃ x2, x2 = L2[k] := ⟨_, rfl⟩
        rw [← hx1] at k1 hA1
        rw [← hx2] at k2 hA2
        have g1 : (0 : Int) ≤ (k : Int) := by omega
        have g2 : (k : Int) < (L1.length : Int) := by omega
        have g3 : (k : Int) < (L2.length : Int) := by omega
        have c0 : wr.cell? ⟨b1, o1 + k, none⟩ = some (.slice ae1 x1.length ce1) := by obtain ⟨m, rfl⟩ := HQ.out; exact k1
        have c1 : wr.cell? ⟨b2, o2 + k, none⟩ = some (.slice ae2 x2.length ce2) := by obtain ⟨m, rfl⟩ := HQ.out; exact k2
        have s1 := str_n (w := wr.drew) x1.length ce1 rfl (hA1.quiet (HQ.out.drewN 1))
        have s2 := str_n (w := wr.drew) x2.length ce2 rfl (hA2.quiet (HQ.out.drewN 1))
        have HX1 := Lib.hid hx1
        have HX2 := Lib.hid hx2
        clear k1 k2 hA1 hA2 hx1 hx2
        by_cases hx : x2 = x1
        · subst hx
          go_wp2_with fail
          refine wp_region_held_drew (S := (fun w' => w'.cell? ⟨b1, o1 + k, none⟩ = some (.slice ae1 x2.length ce1) ∧ w'.cell? ⟨b2, o2 + k, none⟩ = some (.slice ae2 x2.length ce2) ∧ (convert 23 9 (.slice ae1 x2.length ce1)).run Try.prog w' = .ok (.string ⟨x2.toArray⟩) w' ∧ (convert 23 9 (.slice ae2 x2.length ce2)).run Try.prog w' = .ok (.string ⟨x2.toArray⟩) w')) (by kernel_rfl) (by (try dsimp only); first | exact ⟨by assumption, by assumption, by assumption, by assumption⟩ | go_keep) (fun hHeld => ?_)
          refine wpAnyH_take (i := 0) (oi := (Oper.mk (some 17) (Op.move (Operand.tmp 0)) 22 "ref.go:106" #[] none)) (v := ?_) rfl (by kernel_rfl) (by kernel_rfl) (by kernel_rfl) (fun _ _ _ h => h) (Or.inl ⟨by rfl, ?_⟩) (by assumption) ?_
          rotate_left
          · (intro w hSw; (try dsimp only at hSw); go_simp; first | done | with_reducible rfl)
          (try simp only [Act.put, List.setIfInBounds_toArray, List.set_cons_zero, List.set_cons_succ])
          refine wpAnyH_take (i := 1) (oi := (Oper.mk (some 18) (Op.move (Operand.tmp 5)) 3 "ref.go:106" #[] none)) (v := ?_) rfl (by kernel_rfl) (by kernel_rfl) (by kernel_rfl) (fun _ _ _ h => h) (Or.inl ⟨by rfl, ?_⟩) (by assumption) ?_
          rotate_left
          · (intro w hSw; (try dsimp only at hSw); go_simp; first | done | with_reducible rfl)
          (try simp only [Act.put, List.setIfInBounds_toArray, List.set_cons_zero, List.set_cons_succ])
          refine wpAnyH_take (i := 2) (oi := (Oper.mk (some 19) (Op.indexAddr 22 (Operand.tmp 17) (Operand.tmp 18)) 0 "ref.go:106" #[Edge.mk 0 Ground.data, Edge.mk 1 Ground.data] none)) (v := ?_) rfl (by kernel_rfl) (by kernel_rfl) (by kernel_rfl) (fun _ _ _ h => h) (Or.inl ⟨by rfl, ?_⟩) (by assumption) ?_
          rotate_left
          · (intro w hSw; (try dsimp only at hSw); go_simp; first | done | with_reducible rfl)
          (try simp only [Act.put, List.setIfInBounds_toArray, List.set_cons_zero, List.set_cons_succ])
          refine wpAnyH_take (i := 3) (oi := (Oper.mk (some 20) (Op.load 23 (Operand.tmp 19)) 23 "ref.go:106" #[Edge.mk 2 Ground.data] none)) (v := ?_) rfl (by kernel_rfl) (by kernel_rfl) (by kernel_rfl) (fun _ _ _ h => h) (Or.inl ⟨by rfl, ?_⟩) (by assumption) ?_
          rotate_left
          · (intro w hSw; (try dsimp only at hSw); go_simp; first | done | with_reducible rfl)
          (try simp only [Act.put, List.setIfInBounds_toArray, List.set_cons_zero, List.set_cons_succ])
          refine wpAnyH_take (i := 4) (oi := (Oper.mk (some 21) (Op.convert 23 9 (Operand.tmp 20)) 9 "ref.go:106" #[Edge.mk 3 Ground.data] none)) (v := ?_) rfl (by kernel_rfl) (by kernel_rfl) (by kernel_rfl) (fun _ _ _ h => h) (Or.inl ⟨by rfl, ?_⟩) (by assumption) ?_
          rotate_left
          · (intro w hSw; (try dsimp only at hSw); go_simp; first | done | with_reducible rfl)
          (try simp only [Act.put, List.setIfInBounds_toArray, List.set_cons_zero, List.set_cons_succ])
          refine wpAnyH_take (i := 5) (oi := (Oper.mk (some 22) (Op.move (Operand.tmp 1)) 22 "ref.go:106" #[] none)) (v := ?_) rfl (by kernel_rfl) (by kernel_rfl) (by kernel_rfl) (fun _ _ _ h => h) (Or.inl ⟨by rfl, ?_⟩) (by assumption) ?_
          rotate_left
          · (intro w hSw; (try dsimp only at hSw); go_simp; first | done | with_reducible rfl)
          (try simp only [Act.put, List.setIfInBounds_toArray, List.set_cons_zero, List.set_cons_succ])
          refine wpAnyH_take (i := 6) (oi := (Oper.mk (some 23) (Op.move (Operand.tmp 5)) 3 "ref.go:106" #[] none)) (v := ?_) rfl (by kernel_rfl) (by kernel_rfl) (by kernel_rfl) (fun _ _ _ h => h) (Or.inl ⟨by rfl, ?_⟩) (by assumption) ?_
          rotate_left
          · (intro w hSw; (try dsimp only at hSw); go_simp; first | done | with_reducible rfl)
          (try simp only [Act.put, List.setIfInBounds_toArray, List.set_cons_zero, List.set_cons_succ])
          refine wpAnyH_take (i := 7) (oi := (Oper.mk (some 24) (Op.indexAddr 22 (Operand.tmp 22) (Operand.tmp 23)) 0 "ref.go:106" #[Edge.mk 5 Ground.data, Edge.mk 6 Ground.data] none)) (v := ?_) rfl (by kernel_rfl) (by kernel_rfl) (by kernel_rfl) (fun _ _ _ h => h) (Or.inl ⟨by rfl, ?_⟩) (by assumption) ?_
          rotate_left
          · (intro w hSw; (try dsimp only at hSw); go_simp; first | done | with_reducible rfl)
          (try simp only [Act.put, List.setIfInBounds_toArray, List.set_cons_zero, List.set_cons_succ])
          refine wpAnyH_take (i := 8) (oi := (Oper.mk (some 25) (Op.load 23 (Operand.tmp 24)) 23 "ref.go:106" #[Edge.mk 7 Ground.data] none)) (v := ?_) rfl (by kernel_rfl) (by kernel_rfl) (by kernel_rfl) (fun _ _ _ h => h) (Or.inl ⟨by rfl, ?_⟩) (by assumption) ?_
          rotate_left
          · (intro w hSw; (try dsimp only at hSw); go_simp; first | done | with_reducible rfl)
          (try simp only [Act.put, List.setIfInBounds_toArray, List.set_cons_zero, List.set_cons_succ])
          refine wpAnyH_take (i := 9) (oi := (Oper.mk (some 26) (Op.convert 23 9 (Operand.tmp 25)) 9 "ref.go:106" #[Edge.mk 8 Ground.data] none)) (v := ?_) rfl (by kernel_rfl) (by kernel_rfl) (by kernel_rfl) (fun _ _ _ h => h) (Or.inl ⟨by rfl, ?_⟩) (by assumption) ?_
          rotate_left
          · (intro w hSw; (try dsimp only at hSw); go_simp; first | done | with_reducible rfl)
          (try simp only [Act.put, List.setIfInBounds_toArray, List.set_cons_zero, List.set_cons_succ])
          refine wpAnyH_take (i := 10) (oi := (Oper.mk (some 27) (Op.binOp BinOp.neq 9 (Operand.tmp 21) (Operand.tmp 26) 9) 4 "ref.go:106" #[Edge.mk 4 Ground.data, Edge.mk 9 Ground.data] none)) (v := ?_) rfl (by kernel_rfl) (by kernel_rfl) (by kernel_rfl) (fun _ _ _ h => h) (Or.inl ⟨by rfl, ?_⟩) (by assumption) ?_
          rotate_left
          · (intro w hSw; (try dsimp only at hSw); go_simp; first | done | with_reducible rfl)
          (try simp only [Act.put, List.setIfInBounds_toArray, List.set_cons_zero, List.set_cons_succ])
          refine wpAnyH_done (by kernel_rfl) ?_ _
          go_wp2_with fail
          go_roundw
          case rel => exact ⟨k + 1, by omega, by go_num, take_eq L1 L2 k hlt hlt2 HT.out (by rw [← HX1.out, ← HX2.out]), HQ.out.drewN 1⟩
          case measure => simp [intOf]; omega
        · have e2 : (x1 == x2) = false := by rw [beq_eq_false_iff_ne]; exact fun e => hx e.symm
          have e3 : (x1 != x2) = true := by rw [bne_iff_ne]; exact fun e => hx e.symm
          have HXN := Lib.hid hx
          clear hx
          go_wp2_with fail
          refine wp_region_held_drew (S := (fun w' => w'.cell? ⟨b1, o1 + k, none⟩ = some (.slice ae1 x1.length ce1) ∧ w'.cell? ⟨b2, o2 + k, none⟩ = some (.slice ae2 x2.length ce2) ∧ (convert 23 9 (.slice ae1 x1.length ce1)).run Try.prog w' = .ok (.string ⟨x1.toArray⟩) w' ∧ (convert 23 9 (.slice ae2 x2.length ce2)).run Try.prog w' = .ok (.string ⟨x2.toArray⟩) w')) (by kernel_rfl) (by (try dsimp only); first | exact ⟨by assumption, by assumption, by assumption, by assumption⟩ | go_keep) (fun hHeld => ?_)
          refine wpAnyH_take (i := 0) (oi := (Oper.mk (some 17) (Op.move (Operand.tmp 0)) 22 "ref.go:106" #[] none)) (v := ?_) rfl (by kernel_rfl) (by kernel_rfl) (by kernel_rfl) (fun _ _ _ h => h) (Or.inl ⟨by rfl, ?_⟩) (by assumption) ?_
          rotate_left
          · (intro w hSw; (try dsimp only at hSw); go_simp; first | done | with_reducible rfl)
          (try simp only [Act.put, List.setIfInBounds_toArray, List.set_cons_zero, List.set_cons_succ])
          refine wpAnyH_take (i := 1) (oi := (Oper.mk (some 18) (Op.move (Operand.tmp 5)) 3 "ref.go:106" #[] none)) (v := ?_) rfl (by kernel_rfl) (by kernel_rfl) (by kernel_rfl) (fun _ _ _ h => h) (Or.inl ⟨by rfl, ?_⟩) (by assumption) ?_
          rotate_left
          · (intro w hSw; (try dsimp only at hSw); go_simp; first | done | with_reducible rfl)
          (try simp only [Act.put, List.setIfInBounds_toArray, List.set_cons_zero, List.set_cons_succ])
          refine wpAnyH_take (i := 2) (oi := (Oper.mk (some 19) (Op.indexAddr 22 (Operand.tmp 17) (Operand.tmp 18)) 0 "ref.go:106" #[Edge.mk 0 Ground.data, Edge.mk 1 Ground.data] none)) (v := ?_) rfl (by kernel_rfl) (by kernel_rfl) (by kernel_rfl) (fun _ _ _ h => h) (Or.inl ⟨by rfl, ?_⟩) (by assumption) ?_
          rotate_left
          · (intro w hSw; (try dsimp only at hSw); go_simp; first | done | with_reducible rfl)
          (try simp only [Act.put, List.setIfInBounds_toArray, List.set_cons_zero, List.set_cons_succ])
          refine wpAnyH_take (i := 3) (oi := (Oper.mk (some 20) (Op.load 23 (Operand.tmp 19)) 23 "ref.go:106" #[Edge.mk 2 Ground.data] none)) (v := ?_) rfl (by kernel_rfl) (by kernel_rfl) (by kernel_rfl) (fun _ _ _ h => h) (Or.inl ⟨by rfl, ?_⟩) (by assumption) ?_
          rotate_left
          · (intro w hSw; (try dsimp only at hSw); go_simp; first | done | with_reducible rfl)
          (try simp only [Act.put, List.setIfInBounds_toArray, List.set_cons_zero, List.set_cons_succ])
          refine wpAnyH_take (i := 4) (oi := (Oper.mk (some 21) (Op.convert 23 9 (Operand.tmp 20)) 9 "ref.go:106" #[Edge.mk 3 Ground.data] none)) (v := ?_) rfl (by kernel_rfl) (by kernel_rfl) (by kernel_rfl) (fun _ _ _ h => h) (Or.inl ⟨by rfl, ?_⟩) (by assumption) ?_
          rotate_left
          · (intro w hSw; (try dsimp only at hSw); go_simp; first | done | with_reducible rfl)
          (try simp only [Act.put, List.setIfInBounds_toArray, List.set_cons_zero, List.set_cons_succ])
          refine wpAnyH_take (i := 5) (oi := (Oper.mk (some 22) (Op.move (Operand.tmp 1)) 22 "ref.go:106" #[] none)) (v := ?_) rfl (by kernel_rfl) (by kernel_rfl) (by kernel_rfl) (fun _ _ _ h => h) (Or.inl ⟨by rfl, ?_⟩) (by assumption) ?_
          rotate_left
          · (intro w hSw; (try dsimp only at hSw); go_simp; first | done | with_reducible rfl)
          (try simp only [Act.put, List.setIfInBounds_toArray, List.set_cons_zero, List.set_cons_succ])
          refine wpAnyH_take (i := 6) (oi := (Oper.mk (some 23) (Op.move (Operand.tmp 5)) 3 "ref.go:106" #[] none)) (v := ?_) rfl (by kernel_rfl) (by kernel_rfl) (by kernel_rfl) (fun _ _ _ h => h) (Or.inl ⟨by rfl, ?_⟩) (by assumption) ?_
          rotate_left
          · (intro w hSw; (try dsimp only at hSw); go_simp; first | done | with_reducible rfl)
          (try simp only [Act.put, List.setIfInBounds_toArray, List.set_cons_zero, List.set_cons_succ])
          refine wpAnyH_take (i := 7) (oi := (Oper.mk (some 24) (Op.indexAddr 22 (Operand.tmp 22) (Operand.tmp 23)) 0 "ref.go:106" #[Edge.mk 5 Ground.data, Edge.mk 6 Ground.data] none)) (v := ?_) rfl (by kernel_rfl) (by kernel_rfl) (by kernel_rfl) (fun _ _ _ h => h) (Or.inl ⟨by rfl, ?_⟩) (by assumption) ?_
          rotate_left
          · (intro w hSw; (try dsimp only at hSw); go_simp; first | done | with_reducible rfl)
          (try simp only [Act.put, List.setIfInBounds_toArray, List.set_cons_zero, List.set_cons_succ])
          refine wpAnyH_take (i := 8) (oi := (Oper.mk (some 25) (Op.load 23 (Operand.tmp 24)) 23 "ref.go:106" #[Edge.mk 7 Ground.data] none)) (v := ?_) rfl (by kernel_rfl) (by kernel_rfl) (by kernel_rfl) (fun _ _ _ h => h) (Or.inl ⟨by rfl, ?_⟩) (by assumption) ?_
          rotate_left
          · (intro w hSw; (try dsimp only at hSw); go_simp; first | done | with_reducible rfl)
          (try simp only [Act.put, List.setIfInBounds_toArray, List.set_cons_zero, List.set_cons_succ])
          refine wpAnyH_take (i := 9) (oi := (Oper.mk (some 26) (Op.convert 23 9 (Operand.tmp 25)) 9 "ref.go:106" #[Edge.mk 8 Ground.data] none)) (v := ?_) rfl (by kernel_rfl) (by kernel_rfl) (by kernel_rfl) (fun _ _ _ h => h) (Or.inl ⟨by rfl, ?_⟩) (by assumption) ?_
          rotate_left
          · (intro w hSw; (try dsimp only at hSw); go_simp; first | done | with_reducible rfl)
          (try simp only [Act.put, List.setIfInBounds_toArray, List.set_cons_zero, List.set_cons_succ])
          refine wpAnyH_take (i := 10) (oi := (Oper.mk (some 27) (Op.binOp BinOp.neq 9 (Operand.tmp 21) (Operand.tmp 26) 9) 4 "ref.go:106" #[Edge.mk 4 Ground.data, Edge.mk 9 Ground.data] none)) (v := ?_) rfl (by kernel_rfl) (by kernel_rfl) (by kernel_rfl) (fun _ _ _ h => h) (Or.inl ⟨by rfl, ?_⟩) (by assumption) ?_
          rotate_left
          · (intro w hSw; (try dsimp only at hSw); go_simp; first | done | with_reducible rfl)
          (try simp only [Act.put, List.setIfInBounds_toArray, List.set_cons_zero, List.set_cons_succ])
          refine wpAnyH_done (by kernel_rfl) ?_ _
          go_wp2_with fail
          go_ret
          refine ⟨ret_bool ?_, HQ.out.drewN 1⟩
          rw [decide_eq_false]
          intro e
          apply HXN.out
          rw [HX1.out, HX2.out]
          simp only [e]
      · obtain rfl : k = L1.length := by omega
        have g2 : ¬ (L1.length : Int) < (L1.length : Int) := by omega
        go_wp2_with fail
        go_ret
        refine ⟨ret_bool ?_, HQ.out⟩
        have ht := HT.out
        rw [List.take_length, HL.out, List.take_length] at ht
        rw [decide_eq_true ht]
  · have e1 : ((L1.length : Int) != (L2.length : Int)) = true := by rw [bne_iff_ne]; omega
    have HL := Lib.hid hlen
    clear hlen
    go_enter Try.func13, Try.ntmps13
    go_wp2_with fail
    go_ret
    exact ⟨ret_bool (by rw [decide_eq_false]; intro e; exact HL.out (by rw [e])), Quiet.refl _⟩
end Go.Proofs.Ytllpbfejoahllaa

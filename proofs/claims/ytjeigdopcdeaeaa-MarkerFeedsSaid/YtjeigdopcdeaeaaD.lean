/- Contract of begin. No condition. -/
import Derived.Test.YtjeigdopcdeaeaaC
namespace Go.Proofs.Ytjeigdopcdeaeaa
open Go.RowKit Go.Deep Go.ChangeShapes Go.WideShapes Go.ChangeAt Scr
set_option linter.unusedVariables false
theorem BAt.take {w : World} {a : Option Addr} {l : List UInt8} (h : BAt w a l) (n : Nat) : BAt w a (l.take n) := by
  rcases h with h | ⟨b, off, h1, h2, h3⟩
  · left; subst h; simp
  · exact .inr ⟨b, off, h1, h2, fun i hi => by
      have hi' : i < l.length := by simp at hi; omega
      rw [h3 i hi']; simp⟩
theorem pre_step {P : Nat → Prop} {k : Nat} (h : ∀ j, j < k → P j) (hk : P k) : ∀ j, j < k + 1 → P j := by
  intro j hj
  rcases Nat.lt_or_ge j k with h1 | h1
  · exact h j h1
  · obtain rfl : j = k := by omega
    exact hk
theorem pre_take (l : List UInt8) (m : Nat) (hm : m = min l.length 4) : (l.take m == mk.take m) = pre l := by
  subst hm
  unfold pre
  congr 1
  rcases Nat.le_total l.length 4 with h | h
  · rw [Nat.min_eq_left h, List.take_of_length_le h, List.take_of_length_le (Nat.le_refl _)]
  · rw [Nat.min_eq_right h]
set_option maxHeartbeats 2000000 in
theorem begin_any (a : Option Addr) (cap : Nat) (l : List UInt8) (w : World) (hl : l.length ≤ 1000000) (hcap : l.length ≤ cap) (hb : BAt w a l) : Calls Try.prog 21 #[.slice a l.length cap] w fun e w' => e = .returned (.int .i64 (beg l : Nat)) ∧ Below w.heap.size w w' := by
  have HB := Lib.hid hb
  clear hb
  go_enter Try.func21, Try.ntmps21
  go_wp2_with fail
  refine (marker_any _).mono ?_
  rintro e w1 ⟨rfl, hw1⟩
  have hB1 : Below w.heap.size w w1 := by rw [hw1]; exact al (Below.refl _ _) _
  have hM : BAt w1 (some ⟨w.heap.size, 0, none⟩) mk := by
    have := BAt.of_row (mk_own w _ rfl w.heap.size (Nat.le_refl _))
    obtain ⟨-, a', c', h1, -, -, h2⟩ := this
    cases h1
    rw [hw1]; exact h2
  have HB1 := Lib.hid hB1
  have HM := Lib.hid hM
  clear hw1 hB1 hM
  go_wp2_with fail
  go_loopw [9] (fun i wr => ∃ k : Nat, k ≤ l.length ∧ i = .int .i64 k ∧ (∀ j, j < k → pre (l.drop j) = false) ∧ Quiet w1 wr) (fun i _ => l.length - (intOf i).toNat)
  case atStart => exact ⟨0, by omega, rfl, fun j hj => absurd hj (Nat.not_lt_zero j), Quiet.refl _⟩
  case round =>
    obtain ⟨k, hk, rfl, hpre, hq⟩ := hrel
    have HP := Lib.hid hpre
    have HQ := Lib.hid hq
    clear hpre hq
    by_cases hlt : k < l.length
    · obtain ⟨b, off, rfl, hbl, -⟩ := HB.out.resolve_left (fun e => by rw [e] at hlt; simp at hlt)
      have hS1 : ∀ m, BAt wr.drew (some ⟨b, off + k, none⟩) ((l.drop k).take m) := fun m => BAt.sub (show BAt wr.drew (some ⟨b, off, none⟩) l from (HB.out.below HB1.out (Nat.le_refl _)).quiet (HQ.out.drewN 1)) k m
      have hS2 : ∀ m, BAt wr.drew (some ⟨w.heap.size, 0, none⟩) (mk.take m) := fun m => BAt.take (show BAt wr.drew _ mk from HM.out.quiet (HQ.out.drewN 1)) m
      have HS1 := Lib.hid hS1
      have HS2 := Lib.hid hS2
      have g1 : (0 : Int) ≤ (k : Int) := by omega
      have g2 : (k : Int) < (l.length : Int) := by omega
      have g3 : (l.length : Int) ≤ (cap : Int) := by omega
      clear hS1 hS2
      by_cases h4 : l.length - k ≤ 4
      · obtain ⟨m, hm⟩ : ∃ m : Nat, m = l.length - k := ⟨_, rfl⟩
        have e3 : m = min (l.drop k).length 4 := by rw [List.length_drop]; omega
        have hpt := pre_take (l.drop k) m e3
        have e1 : (l.length : Int) - (k : Int) = (m : Int) := by omega
        have e2 : (m : Int) ≤ 4 := by omega
        have e5 : (0 : Int) ≤ (m : Int) := by omega
        have hkm : k + m ≤ l.length := by omega
        have hm4 : m ≤ 4 := by omega
        have hl1 : ((l.drop k).take m).length = m := by simp; omega
        have hl2 : (mk.take m).length = m := by simp [mk]; omega
        have e4 : (k : Int) + (m : Int) ≤ (cap : Int) := by omega
        have e8 : k + m - k = m := by omega
        have e9 : k ≤ k + m := by omega
        have e10 : (0 : Int) ≤ (k : Int) + (m : Int) := by omega
        have hck : ¬ cap = k := by omega
        have e7 : ((k : Int) + (m : Int)).toNat = k + m := by omega
        have e6 : IntKind.i64.wrap ((k : Int) + (m : Int)) = (k : Int) + (m : Int) := IntWalk.i64_in _ (by omega)
        have HL1 := Lib.hid hl1
        have HL2 := Lib.hid hl2
        clear e3 hl1 hl2 hm
        cases hp : pre (l.drop k)
        · rw [hp] at hpt
          have HPT := Lib.hid hpt
          have HPP := Lib.hid hp
          clear hpt hp
          go_wp2_with fail
          refine wp_region_held_drew (S := (fun w' => True)) (by kernel_rfl) (by (try dsimp only); all_goals trivial) (fun hHeld => ?_)
          refine wpAnyH_take (i := 0) (oi := (Oper.mk (some 17) (Op.move (Operand.tmp 0)) 22 "marker.go:39" #[] none)) (v := ?v0t385ex1) rfl (by kernel_rfl) (by kernel_rfl) (by kernel_rfl) (fun _ _ _ h => h) (Or.inl ⟨by rfl, ?hy0t385ex1⟩) (by assumption) ?rest0t385ex1
          case hy0t385ex1 => (intro w hSw; (try dsimp only at hSw); go_simp; first | done | with_reducible rfl)
          (try simp only [Act.put, List.setIfInBounds_toArray, List.set_cons_zero, List.set_cons_succ])
          refine wpAnyH_take (i := 1) (oi := (Oper.mk (some 18) (Op.move (Operand.tmp 4)) 3 "marker.go:39" #[] none)) (v := ?v1t385ex2) rfl (by kernel_rfl) (by kernel_rfl) (by kernel_rfl) (fun _ _ _ h => h) (Or.inl ⟨by rfl, ?hy1t385ex2⟩) (by assumption) ?rest1t385ex2
          case hy1t385ex2 => (intro w hSw; (try dsimp only at hSw); go_simp; first | done | with_reducible rfl)
          (try simp only [Act.put, List.setIfInBounds_toArray, List.set_cons_zero, List.set_cons_succ])
          refine wpAnyH_take (i := 2) (oi := (Oper.mk (some 19) (Op.move (Operand.tmp 4)) 3 "marker.go:39" #[] none)) (v := ?v2t385ex3) rfl (by kernel_rfl) (by kernel_rfl) (by kernel_rfl) (fun _ _ _ h => h) (Or.inl ⟨by rfl, ?hy2t385ex3⟩) (by assumption) ?rest2t385ex3
          case hy2t385ex3 => (intro w hSw; (try dsimp only at hSw); go_simp; first | done | with_reducible rfl)
          (try simp only [Act.put, List.setIfInBounds_toArray, List.set_cons_zero, List.set_cons_succ])
          refine wpAnyH_take (i := 3) (oi := (Oper.mk (some 20) (Op.move (Operand.tmp 5)) 3 "marker.go:39" #[] none)) (v := ?v3t385ex4) rfl (by kernel_rfl) (by kernel_rfl) (by kernel_rfl) (fun _ _ _ h => h) (Or.inl ⟨by rfl, ?hy3t385ex4⟩) (by assumption) ?rest3t385ex4
          case hy3t385ex4 => (intro w hSw; (try dsimp only at hSw); go_simp; first | done | with_reducible rfl)
          (try simp only [Act.put, List.setIfInBounds_toArray, List.set_cons_zero, List.set_cons_succ])
          refine wpAnyH_take (i := 4) (oi := (Oper.mk (some 21) (Op.binOp BinOp.add 3 (Operand.tmp 19) (Operand.tmp 20) 3) 3 "marker.go:39" #[Edge.mk 2 Ground.data, Edge.mk 3 Ground.data] none)) (v := ?v4t385ex5) rfl (by kernel_rfl) (by kernel_rfl) (by kernel_rfl) (fun _ _ _ h => h) (Or.inl ⟨by rfl, ?hy4t385ex5⟩) (by assumption) ?rest4t385ex5
          case hy4t385ex5 => (intro w hSw; (try dsimp only at hSw); go_simp; first | done | with_reducible rfl)
          (try simp only [Act.put, List.setIfInBounds_toArray, List.set_cons_zero, List.set_cons_succ])
          refine wpAnyH_take (i := 5) (oi := (Oper.mk (some 22) (Op.slice 22 (Operand.tmp 17) (some (Operand.tmp 18)) (some (Operand.tmp 21)) none) 22 "marker.go:39" #[Edge.mk 0 Ground.data, Edge.mk 1 Ground.data, Edge.mk 4 Ground.data] none)) (v := ?v5t385ex6) rfl (by kernel_rfl) (by kernel_rfl) (by kernel_rfl) (fun _ _ _ h => h) (Or.inl ⟨by rfl, ?hy5t385ex6⟩) (by assumption) ?rest5t385ex6
          case hy5t385ex6 => (intro w hSw; (try dsimp only at hSw); go_simp; first | done | with_reducible rfl)
          (try simp only [Act.put, List.setIfInBounds_toArray, List.set_cons_zero, List.set_cons_succ])
          refine wpAnyH_take (i := 6) (oi := (Oper.mk (some 23) (Op.move (Operand.tmp 3)) 22 "marker.go:39" #[] none)) (v := ?v6t385ex7) rfl (by kernel_rfl) (by kernel_rfl) (by kernel_rfl) (fun _ _ _ h => h) (Or.inl ⟨by rfl, ?hy6t385ex7⟩) (by assumption) ?rest6t385ex7
          case hy6t385ex7 => (intro w hSw; (try dsimp only at hSw); go_simp; first | done | with_reducible rfl)
          (try simp only [Act.put, List.setIfInBounds_toArray, List.set_cons_zero, List.set_cons_succ])
          refine wpAnyH_take (i := 7) (oi := (Oper.mk (some 24) (Op.move (Operand.tmp 5)) 3 "marker.go:39" #[] none)) (v := ?v7t385ex8) rfl (by kernel_rfl) (by kernel_rfl) (by kernel_rfl) (fun _ _ _ h => h) (Or.inl ⟨by rfl, ?hy7t385ex8⟩) (by assumption) ?rest7t385ex8
          case hy7t385ex8 => (intro w hSw; (try dsimp only at hSw); go_simp; first | done | with_reducible rfl)
          (try simp only [Act.put, List.setIfInBounds_toArray, List.set_cons_zero, List.set_cons_succ])
          refine wpAnyH_take (i := 8) (oi := (Oper.mk (some 25) (Op.slice 22 (Operand.tmp 23) none (some (Operand.tmp 24)) none) 22 "marker.go:39" #[Edge.mk 6 Ground.data, Edge.mk 7 Ground.data] none)) (v := ?v8t385ex9) rfl (by kernel_rfl) (by kernel_rfl) (by kernel_rfl) (fun _ _ _ h => h) (Or.inl ⟨by rfl, ?hy8t385ex9⟩) (by assumption) ?rest8t385ex9
          case hy8t385ex9 => (intro w hSw; (try dsimp only at hSw); go_simp; first | done | with_reducible rfl)
          (try simp only [Act.put, List.setIfInBounds_toArray, List.set_cons_zero, List.set_cons_succ])
          refine wpAnyH_ready (rs := [9]) (by kernel_rfl) (by simp) ?_
          refine AllReadyH.cons (o := (Oper.mk (some 26) (Op.call (Call.mk (Callee.value (Operand.func 27)) #[Operand.tmp 22, Operand.tmp 25] #[22, 22])) 4 "marker.go:39" #[Edge.mk 5 Ground.data, Edge.mk 8 Ground.data] none)) rfl (fun K hK => ?_) (AllReadyH.nil)
          go_simp
          (go_at_call 27; refine (equal_n _ _ _ _ _ _ ((l.drop k).take m) (mk.take m) _ (by exact HL1.out) (by exact HL2.out) (HS1.out m) (HS2.out m)).mono ?_; rintro e w2 ⟨rfl, rfl⟩; rw [HPT.out])
          refine hK.out _ _ (by (try dsimp only); all_goals trivial) (fun hHeld => ?_)
          clear hK K
          (try simp only [Act.put, List.setIfInBounds_toArray, List.set_cons_zero, List.set_cons_succ])
          refine wpAnyH_done (by kernel_rfl) ?_ _
          go_wp2_with fail
          go_roundw
          case rel => exact ⟨k + 1, by omega, by go_num, pre_step HP.out HPP.out, HQ.out.drewN 1⟩
          case measure => simp [intOf]; omega
        · rw [hp] at hpt
          have HPT := Lib.hid hpt
          have HPP := Lib.hid hp
          clear hpt hp
          go_wp2_with fail
          refine wp_region_held_drew (S := (fun w' => True)) (by kernel_rfl) (by (try dsimp only); all_goals trivial) (fun hHeld => ?_)
          refine wpAnyH_take (i := 0) (oi := (Oper.mk (some 17) (Op.move (Operand.tmp 0)) 22 "marker.go:39" #[] none)) (v := ?v0t320cx1) rfl (by kernel_rfl) (by kernel_rfl) (by kernel_rfl) (fun _ _ _ h => h) (Or.inl ⟨by rfl, ?hy0t320cx1⟩) (by assumption) ?rest0t320cx1
          case hy0t320cx1 => (intro w hSw; (try dsimp only at hSw); go_simp; first | done | with_reducible rfl)
          (try simp only [Act.put, List.setIfInBounds_toArray, List.set_cons_zero, List.set_cons_succ])
          refine wpAnyH_take (i := 1) (oi := (Oper.mk (some 18) (Op.move (Operand.tmp 4)) 3 "marker.go:39" #[] none)) (v := ?v1t320cx2) rfl (by kernel_rfl) (by kernel_rfl) (by kernel_rfl) (fun _ _ _ h => h) (Or.inl ⟨by rfl, ?hy1t320cx2⟩) (by assumption) ?rest1t320cx2
          case hy1t320cx2 => (intro w hSw; (try dsimp only at hSw); go_simp; first | done | with_reducible rfl)
          (try simp only [Act.put, List.setIfInBounds_toArray, List.set_cons_zero, List.set_cons_succ])
          refine wpAnyH_take (i := 2) (oi := (Oper.mk (some 19) (Op.move (Operand.tmp 4)) 3 "marker.go:39" #[] none)) (v := ?v2t320cx3) rfl (by kernel_rfl) (by kernel_rfl) (by kernel_rfl) (fun _ _ _ h => h) (Or.inl ⟨by rfl, ?hy2t320cx3⟩) (by assumption) ?rest2t320cx3
          case hy2t320cx3 => (intro w hSw; (try dsimp only at hSw); go_simp; first | done | with_reducible rfl)
          (try simp only [Act.put, List.setIfInBounds_toArray, List.set_cons_zero, List.set_cons_succ])
          refine wpAnyH_take (i := 3) (oi := (Oper.mk (some 20) (Op.move (Operand.tmp 5)) 3 "marker.go:39" #[] none)) (v := ?v3t320cx4) rfl (by kernel_rfl) (by kernel_rfl) (by kernel_rfl) (fun _ _ _ h => h) (Or.inl ⟨by rfl, ?hy3t320cx4⟩) (by assumption) ?rest3t320cx4
          case hy3t320cx4 => (intro w hSw; (try dsimp only at hSw); go_simp; first | done | with_reducible rfl)
          (try simp only [Act.put, List.setIfInBounds_toArray, List.set_cons_zero, List.set_cons_succ])
          refine wpAnyH_take (i := 4) (oi := (Oper.mk (some 21) (Op.binOp BinOp.add 3 (Operand.tmp 19) (Operand.tmp 20) 3) 3 "marker.go:39" #[Edge.mk 2 Ground.data, Edge.mk 3 Ground.data] none)) (v := ?v4t320cx5) rfl (by kernel_rfl) (by kernel_rfl) (by kernel_rfl) (fun _ _ _ h => h) (Or.inl ⟨by rfl, ?hy4t320cx5⟩) (by assumption) ?rest4t320cx5
          case hy4t320cx5 => (intro w hSw; (try dsimp only at hSw); go_simp; first | done | with_reducible rfl)
          (try simp only [Act.put, List.setIfInBounds_toArray, List.set_cons_zero, List.set_cons_succ])
          refine wpAnyH_take (i := 5) (oi := (Oper.mk (some 22) (Op.slice 22 (Operand.tmp 17) (some (Operand.tmp 18)) (some (Operand.tmp 21)) none) 22 "marker.go:39" #[Edge.mk 0 Ground.data, Edge.mk 1 Ground.data, Edge.mk 4 Ground.data] none)) (v := ?v5t320cx6) rfl (by kernel_rfl) (by kernel_rfl) (by kernel_rfl) (fun _ _ _ h => h) (Or.inl ⟨by rfl, ?hy5t320cx6⟩) (by assumption) ?rest5t320cx6
          case hy5t320cx6 => (intro w hSw; (try dsimp only at hSw); go_simp; first | done | with_reducible rfl)
          (try simp only [Act.put, List.setIfInBounds_toArray, List.set_cons_zero, List.set_cons_succ])
          refine wpAnyH_take (i := 6) (oi := (Oper.mk (some 23) (Op.move (Operand.tmp 3)) 22 "marker.go:39" #[] none)) (v := ?v6t320cx7) rfl (by kernel_rfl) (by kernel_rfl) (by kernel_rfl) (fun _ _ _ h => h) (Or.inl ⟨by rfl, ?hy6t320cx7⟩) (by assumption) ?rest6t320cx7
          case hy6t320cx7 => (intro w hSw; (try dsimp only at hSw); go_simp; first | done | with_reducible rfl)
          (try simp only [Act.put, List.setIfInBounds_toArray, List.set_cons_zero, List.set_cons_succ])
          refine wpAnyH_take (i := 7) (oi := (Oper.mk (some 24) (Op.move (Operand.tmp 5)) 3 "marker.go:39" #[] none)) (v := ?v7t320cx8) rfl (by kernel_rfl) (by kernel_rfl) (by kernel_rfl) (fun _ _ _ h => h) (Or.inl ⟨by rfl, ?hy7t320cx8⟩) (by assumption) ?rest7t320cx8
          case hy7t320cx8 => (intro w hSw; (try dsimp only at hSw); go_simp; first | done | with_reducible rfl)
          (try simp only [Act.put, List.setIfInBounds_toArray, List.set_cons_zero, List.set_cons_succ])
          refine wpAnyH_take (i := 8) (oi := (Oper.mk (some 25) (Op.slice 22 (Operand.tmp 23) none (some (Operand.tmp 24)) none) 22 "marker.go:39" #[Edge.mk 6 Ground.data, Edge.mk 7 Ground.data] none)) (v := ?v8t320cx9) rfl (by kernel_rfl) (by kernel_rfl) (by kernel_rfl) (fun _ _ _ h => h) (Or.inl ⟨by rfl, ?hy8t320cx9⟩) (by assumption) ?rest8t320cx9
          case hy8t320cx9 => (intro w hSw; (try dsimp only at hSw); go_simp; first | done | with_reducible rfl)
          (try simp only [Act.put, List.setIfInBounds_toArray, List.set_cons_zero, List.set_cons_succ])
          refine wpAnyH_ready (rs := [9]) (by kernel_rfl) (by simp) ?_
          refine AllReadyH.cons (o := (Oper.mk (some 26) (Op.call (Call.mk (Callee.value (Operand.func 27)) #[Operand.tmp 22, Operand.tmp 25] #[22, 22])) 4 "marker.go:39" #[Edge.mk 5 Ground.data, Edge.mk 8 Ground.data] none)) rfl (fun K hK => ?_) (AllReadyH.nil)
          go_simp
          (go_at_call 27; refine (equal_n _ _ _ _ _ _ ((l.drop k).take m) (mk.take m) _ (by exact HL1.out) (by exact HL2.out) (HS1.out m) (HS2.out m)).mono ?_; rintro e w2 ⟨rfl, rfl⟩; rw [HPT.out])
          refine hK.out _ _ (by (try dsimp only); all_goals trivial) (fun hHeld => ?_)
          clear hK K
          (try simp only [Act.put, List.setIfInBounds_toArray, List.set_cons_zero, List.set_cons_succ])
          refine wpAnyH_done (by kernel_rfl) ?_ _
          go_wp2_with fail
          go_ret
          exact ⟨ret_int (by rw [beg_eq l k hk HP.out (.inr HPP.out)]), HB1.out.trans (HQ.out.drewN 1).below⟩
      · obtain ⟨m, hm⟩ : ∃ m : Nat, m = 4 := ⟨_, rfl⟩
        have e3 : m = min (l.drop k).length 4 := by rw [List.length_drop]; omega
        have hpt := pre_take (l.drop k) m e3
        subst hm
        have e2 : ¬ (l.length : Int) - (k : Int) ≤ 4 := by omega
        have hl1 : ((l.drop k).take 4).length = 4 := by simp; omega
        have hl2 : (mk.take 4).length = 4 := by simp [mk]
        have e4 : (k : Int) + 4 ≤ (cap : Int) := by omega
        have e8 : k + 4 - k = 4 := by omega
        have e9 : k ≤ k + 4 := by omega
        have e10 : (0 : Int) ≤ (k : Int) + 4 := by omega
        have hck : ¬ cap = k := by omega
        have e7 : ((k : Int) + 4).toNat = k + 4 := by omega
        have e6 : IntKind.i64.wrap ((k : Int) + 4) = (k : Int) + 4 := IntWalk.i64_in _ (by omega)
        have HL1 := Lib.hid hl1
        have HL2 := Lib.hid hl2
        clear e3 hl1 hl2
        cases hp : pre (l.drop k)
        · rw [hp] at hpt
          have HPT := Lib.hid hpt
          have HPP := Lib.hid hp
          clear hpt hp
          go_wp2_with fail
          refine wp_region_held_drew (S := (fun w' => True)) (by kernel_rfl) (by (try dsimp only); all_goals trivial) (fun hHeld => ?_)
          refine wpAnyH_take (i := 0) (oi := (Oper.mk (some 17) (Op.move (Operand.tmp 0)) 22 "marker.go:39" #[] none)) (v := ?v0t0b20x1) rfl (by kernel_rfl) (by kernel_rfl) (by kernel_rfl) (fun _ _ _ h => h) (Or.inl ⟨by rfl, ?hy0t0b20x1⟩) (by assumption) ?rest0t0b20x1
          case hy0t0b20x1 => (intro w hSw; (try dsimp only at hSw); go_simp; first | done | with_reducible rfl)
          (try simp only [Act.put, List.setIfInBounds_toArray, List.set_cons_zero, List.set_cons_succ])
          refine wpAnyH_take (i := 1) (oi := (Oper.mk (some 18) (Op.move (Operand.tmp 4)) 3 "marker.go:39" #[] none)) (v := ?v1t0b20x2) rfl (by kernel_rfl) (by kernel_rfl) (by kernel_rfl) (fun _ _ _ h => h) (Or.inl ⟨by rfl, ?hy1t0b20x2⟩) (by assumption) ?rest1t0b20x2
          case hy1t0b20x2 => (intro w hSw; (try dsimp only at hSw); go_simp; first | done | with_reducible rfl)
          (try simp only [Act.put, List.setIfInBounds_toArray, List.set_cons_zero, List.set_cons_succ])
          refine wpAnyH_take (i := 2) (oi := (Oper.mk (some 19) (Op.move (Operand.tmp 4)) 3 "marker.go:39" #[] none)) (v := ?v2t0b20x3) rfl (by kernel_rfl) (by kernel_rfl) (by kernel_rfl) (fun _ _ _ h => h) (Or.inl ⟨by rfl, ?hy2t0b20x3⟩) (by assumption) ?rest2t0b20x3
          case hy2t0b20x3 => (intro w hSw; (try dsimp only at hSw); go_simp; first | done | with_reducible rfl)
          (try simp only [Act.put, List.setIfInBounds_toArray, List.set_cons_zero, List.set_cons_succ])
          refine wpAnyH_take (i := 3) (oi := (Oper.mk (some 20) (Op.move (Operand.tmp 5)) 3 "marker.go:39" #[] none)) (v := ?v3t0b20x4) rfl (by kernel_rfl) (by kernel_rfl) (by kernel_rfl) (fun _ _ _ h => h) (Or.inl ⟨by rfl, ?hy3t0b20x4⟩) (by assumption) ?rest3t0b20x4
          case hy3t0b20x4 => (intro w hSw; (try dsimp only at hSw); go_simp; first | done | with_reducible rfl)
          (try simp only [Act.put, List.setIfInBounds_toArray, List.set_cons_zero, List.set_cons_succ])
          refine wpAnyH_take (i := 4) (oi := (Oper.mk (some 21) (Op.binOp BinOp.add 3 (Operand.tmp 19) (Operand.tmp 20) 3) 3 "marker.go:39" #[Edge.mk 2 Ground.data, Edge.mk 3 Ground.data] none)) (v := ?v4t0b20x5) rfl (by kernel_rfl) (by kernel_rfl) (by kernel_rfl) (fun _ _ _ h => h) (Or.inl ⟨by rfl, ?hy4t0b20x5⟩) (by assumption) ?rest4t0b20x5
          case hy4t0b20x5 => (intro w hSw; (try dsimp only at hSw); go_simp; first | done | with_reducible rfl)
          (try simp only [Act.put, List.setIfInBounds_toArray, List.set_cons_zero, List.set_cons_succ])
          refine wpAnyH_take (i := 5) (oi := (Oper.mk (some 22) (Op.slice 22 (Operand.tmp 17) (some (Operand.tmp 18)) (some (Operand.tmp 21)) none) 22 "marker.go:39" #[Edge.mk 0 Ground.data, Edge.mk 1 Ground.data, Edge.mk 4 Ground.data] none)) (v := ?v5t0b20x6) rfl (by kernel_rfl) (by kernel_rfl) (by kernel_rfl) (fun _ _ _ h => h) (Or.inl ⟨by rfl, ?hy5t0b20x6⟩) (by assumption) ?rest5t0b20x6
          case hy5t0b20x6 => (intro w hSw; (try dsimp only at hSw); go_simp; first | done | with_reducible rfl)
          (try simp only [Act.put, List.setIfInBounds_toArray, List.set_cons_zero, List.set_cons_succ])
          refine wpAnyH_take (i := 6) (oi := (Oper.mk (some 23) (Op.move (Operand.tmp 3)) 22 "marker.go:39" #[] none)) (v := ?v6t0b20x7) rfl (by kernel_rfl) (by kernel_rfl) (by kernel_rfl) (fun _ _ _ h => h) (Or.inl ⟨by rfl, ?hy6t0b20x7⟩) (by assumption) ?rest6t0b20x7
          case hy6t0b20x7 => (intro w hSw; (try dsimp only at hSw); go_simp; first | done | with_reducible rfl)
          (try simp only [Act.put, List.setIfInBounds_toArray, List.set_cons_zero, List.set_cons_succ])
          refine wpAnyH_take (i := 7) (oi := (Oper.mk (some 24) (Op.move (Operand.tmp 5)) 3 "marker.go:39" #[] none)) (v := ?v7t0b20x8) rfl (by kernel_rfl) (by kernel_rfl) (by kernel_rfl) (fun _ _ _ h => h) (Or.inl ⟨by rfl, ?hy7t0b20x8⟩) (by assumption) ?rest7t0b20x8
          case hy7t0b20x8 => (intro w hSw; (try dsimp only at hSw); go_simp; first | done | with_reducible rfl)
          (try simp only [Act.put, List.setIfInBounds_toArray, List.set_cons_zero, List.set_cons_succ])
          refine wpAnyH_take (i := 8) (oi := (Oper.mk (some 25) (Op.slice 22 (Operand.tmp 23) none (some (Operand.tmp 24)) none) 22 "marker.go:39" #[Edge.mk 6 Ground.data, Edge.mk 7 Ground.data] none)) (v := ?v8t0b20x9) rfl (by kernel_rfl) (by kernel_rfl) (by kernel_rfl) (fun _ _ _ h => h) (Or.inl ⟨by rfl, ?hy8t0b20x9⟩) (by assumption) ?rest8t0b20x9
          case hy8t0b20x9 => (intro w hSw; (try dsimp only at hSw); go_simp; first | done | with_reducible rfl)
          (try simp only [Act.put, List.setIfInBounds_toArray, List.set_cons_zero, List.set_cons_succ])
          refine wpAnyH_ready (rs := [9]) (by kernel_rfl) (by simp) ?_
          refine AllReadyH.cons (o := (Oper.mk (some 26) (Op.call (Call.mk (Callee.value (Operand.func 27)) #[Operand.tmp 22, Operand.tmp 25] #[22, 22])) 4 "marker.go:39" #[Edge.mk 5 Ground.data, Edge.mk 8 Ground.data] none)) rfl (fun K hK => ?_) (AllReadyH.nil)
          go_simp
          (go_at_call 27; refine (equal_n _ _ _ _ _ _ ((l.drop k).take 4) (mk.take 4) _ (by exact HL1.out) (by exact HL2.out) (HS1.out 4) (HS2.out 4)).mono ?_; rintro e w2 ⟨rfl, rfl⟩; rw [HPT.out])
          refine hK.out _ _ (by (try dsimp only); all_goals trivial) (fun hHeld => ?_)
          clear hK K
          (try simp only [Act.put, List.setIfInBounds_toArray, List.set_cons_zero, List.set_cons_succ])
          refine wpAnyH_done (by kernel_rfl) ?_ _
          go_wp2_with fail
          go_roundw
          case rel => exact ⟨k + 1, by omega, by go_num, pre_step HP.out HPP.out, HQ.out.drewN 1⟩
          case measure => simp [intOf]; omega
        · rw [hp] at hpt
          have HPT := Lib.hid hpt
          have HPP := Lib.hid hp
          clear hpt hp
          go_wp2_with fail
          refine wp_region_held_drew (S := (fun w' => True)) (by kernel_rfl) (by (try dsimp only); all_goals trivial) (fun hHeld => ?_)
          refine wpAnyH_take (i := 0) (oi := (Oper.mk (some 17) (Op.move (Operand.tmp 0)) 22 "marker.go:39" #[] none)) (v := ?v0tb79ax1) rfl (by kernel_rfl) (by kernel_rfl) (by kernel_rfl) (fun _ _ _ h => h) (Or.inl ⟨by rfl, ?hy0tb79ax1⟩) (by assumption) ?rest0tb79ax1
          case hy0tb79ax1 => (intro w hSw; (try dsimp only at hSw); go_simp; first | done | with_reducible rfl)
          (try simp only [Act.put, List.setIfInBounds_toArray, List.set_cons_zero, List.set_cons_succ])
          refine wpAnyH_take (i := 1) (oi := (Oper.mk (some 18) (Op.move (Operand.tmp 4)) 3 "marker.go:39" #[] none)) (v := ?v1tb79ax2) rfl (by kernel_rfl) (by kernel_rfl) (by kernel_rfl) (fun _ _ _ h => h) (Or.inl ⟨by rfl, ?hy1tb79ax2⟩) (by assumption) ?rest1tb79ax2
          case hy1tb79ax2 => (intro w hSw; (try dsimp only at hSw); go_simp; first | done | with_reducible rfl)
          (try simp only [Act.put, List.setIfInBounds_toArray, List.set_cons_zero, List.set_cons_succ])
          refine wpAnyH_take (i := 2) (oi := (Oper.mk (some 19) (Op.move (Operand.tmp 4)) 3 "marker.go:39" #[] none)) (v := ?v2tb79ax3) rfl (by kernel_rfl) (by kernel_rfl) (by kernel_rfl) (fun _ _ _ h => h) (Or.inl ⟨by rfl, ?hy2tb79ax3⟩) (by assumption) ?rest2tb79ax3
          case hy2tb79ax3 => (intro w hSw; (try dsimp only at hSw); go_simp; first | done | with_reducible rfl)
          (try simp only [Act.put, List.setIfInBounds_toArray, List.set_cons_zero, List.set_cons_succ])
          refine wpAnyH_take (i := 3) (oi := (Oper.mk (some 20) (Op.move (Operand.tmp 5)) 3 "marker.go:39" #[] none)) (v := ?v3tb79ax4) rfl (by kernel_rfl) (by kernel_rfl) (by kernel_rfl) (fun _ _ _ h => h) (Or.inl ⟨by rfl, ?hy3tb79ax4⟩) (by assumption) ?rest3tb79ax4
          case hy3tb79ax4 => (intro w hSw; (try dsimp only at hSw); go_simp; first | done | with_reducible rfl)
          (try simp only [Act.put, List.setIfInBounds_toArray, List.set_cons_zero, List.set_cons_succ])
          refine wpAnyH_take (i := 4) (oi := (Oper.mk (some 21) (Op.binOp BinOp.add 3 (Operand.tmp 19) (Operand.tmp 20) 3) 3 "marker.go:39" #[Edge.mk 2 Ground.data, Edge.mk 3 Ground.data] none)) (v := ?v4tb79ax5) rfl (by kernel_rfl) (by kernel_rfl) (by kernel_rfl) (fun _ _ _ h => h) (Or.inl ⟨by rfl, ?hy4tb79ax5⟩) (by assumption) ?rest4tb79ax5
          case hy4tb79ax5 => (intro w hSw; (try dsimp only at hSw); go_simp; first | done | with_reducible rfl)
          (try simp only [Act.put, List.setIfInBounds_toArray, List.set_cons_zero, List.set_cons_succ])
          refine wpAnyH_take (i := 5) (oi := (Oper.mk (some 22) (Op.slice 22 (Operand.tmp 17) (some (Operand.tmp 18)) (some (Operand.tmp 21)) none) 22 "marker.go:39" #[Edge.mk 0 Ground.data, Edge.mk 1 Ground.data, Edge.mk 4 Ground.data] none)) (v := ?v5tb79ax6) rfl (by kernel_rfl) (by kernel_rfl) (by kernel_rfl) (fun _ _ _ h => h) (Or.inl ⟨by rfl, ?hy5tb79ax6⟩) (by assumption) ?rest5tb79ax6
          case hy5tb79ax6 => (intro w hSw; (try dsimp only at hSw); go_simp; first | done | with_reducible rfl)
          (try simp only [Act.put, List.setIfInBounds_toArray, List.set_cons_zero, List.set_cons_succ])
          refine wpAnyH_take (i := 6) (oi := (Oper.mk (some 23) (Op.move (Operand.tmp 3)) 22 "marker.go:39" #[] none)) (v := ?v6tb79ax7) rfl (by kernel_rfl) (by kernel_rfl) (by kernel_rfl) (fun _ _ _ h => h) (Or.inl ⟨by rfl, ?hy6tb79ax7⟩) (by assumption) ?rest6tb79ax7
          case hy6tb79ax7 => (intro w hSw; (try dsimp only at hSw); go_simp; first | done | with_reducible rfl)
          (try simp only [Act.put, List.setIfInBounds_toArray, List.set_cons_zero, List.set_cons_succ])
          refine wpAnyH_take (i := 7) (oi := (Oper.mk (some 24) (Op.move (Operand.tmp 5)) 3 "marker.go:39" #[] none)) (v := ?v7tb79ax8) rfl (by kernel_rfl) (by kernel_rfl) (by kernel_rfl) (fun _ _ _ h => h) (Or.inl ⟨by rfl, ?hy7tb79ax8⟩) (by assumption) ?rest7tb79ax8
          case hy7tb79ax8 => (intro w hSw; (try dsimp only at hSw); go_simp; first | done | with_reducible rfl)
          (try simp only [Act.put, List.setIfInBounds_toArray, List.set_cons_zero, List.set_cons_succ])
          refine wpAnyH_take (i := 8) (oi := (Oper.mk (some 25) (Op.slice 22 (Operand.tmp 23) none (some (Operand.tmp 24)) none) 22 "marker.go:39" #[Edge.mk 6 Ground.data, Edge.mk 7 Ground.data] none)) (v := ?v8tb79ax9) rfl (by kernel_rfl) (by kernel_rfl) (by kernel_rfl) (fun _ _ _ h => h) (Or.inl ⟨by rfl, ?hy8tb79ax9⟩) (by assumption) ?rest8tb79ax9
          case hy8tb79ax9 => (intro w hSw; (try dsimp only at hSw); go_simp; first | done | with_reducible rfl)
          (try simp only [Act.put, List.setIfInBounds_toArray, List.set_cons_zero, List.set_cons_succ])
          refine wpAnyH_ready (rs := [9]) (by kernel_rfl) (by simp) ?_
          refine AllReadyH.cons (o := (Oper.mk (some 26) (Op.call (Call.mk (Callee.value (Operand.func 27)) #[Operand.tmp 22, Operand.tmp 25] #[22, 22])) 4 "marker.go:39" #[Edge.mk 5 Ground.data, Edge.mk 8 Ground.data] none)) rfl (fun K hK => ?_) (AllReadyH.nil)
          go_simp
          (go_at_call 27; refine (equal_n _ _ _ _ _ _ ((l.drop k).take 4) (mk.take 4) _ (by exact HL1.out) (by exact HL2.out) (HS1.out 4) (HS2.out 4)).mono ?_; rintro e w2 ⟨rfl, rfl⟩; rw [HPT.out])
          refine hK.out _ _ (by (try dsimp only); all_goals trivial) (fun hHeld => ?_)
          clear hK K
          (try simp only [Act.put, List.setIfInBounds_toArray, List.set_cons_zero, List.set_cons_succ])
          refine wpAnyH_done (by kernel_rfl) ?_ _
          go_wp2_with fail
          go_ret
          exact ⟨ret_int (by rw [beg_eq l k hk HP.out (.inr HPP.out)]), HB1.out.trans (HQ.out.drewN 1).below⟩
    · obtain rfl : k = l.length := by omega
      go_wp2_with fail
      go_ret
      have hbe := beg_eq l l.length (Nat.le_refl _) HP.out (.inl rfl)
      exact ⟨ret_int (by rw [hbe]), HB1.out.trans (HQ.out.below)⟩
end Go.Proofs.Ytjeigdopcdeaeaa

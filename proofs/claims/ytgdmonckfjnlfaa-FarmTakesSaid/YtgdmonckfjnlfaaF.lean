/- Take of a Farm. No condition. -/
import Derived.Test.YtgdmonckfjnlfaaE
import Derived.Deep.RegionWith
import Derived.Deep.RegionHeld3
import Derived.Outline
namespace Go.Proofs.Ytgdmonckfjnlfaa
open Go.RowKit Go.Deep Go.ChangeShapes Go.WideShapes Go.ChangeAt
set_option linter.unusedVariables false

/-- the verdict on a frame for this end, and the state after it -/
def verS (s : FS) (x : TF) (room : Bool) : FS × Int := if x.ctl = true then ctlS s x else if x.byp = true then (s.bypass, 1) else seqS s x.seq room
/-- what Take makes of a frame -/
def takeF (s : FS) (x : TF) (room : Bool) : FS × List UInt8 × Int :=
  if validB x = false ∨ x.craft ≠ s.craft ∨ x.chan ≠ s.chan then (s, [], 0)
  else if (verS s x room).2 ≠ 1 then ((verS s x room).1, [], (verS s x room).2) else ((verS s x room).1, x.dat, 1)
def TQ (w : World) (b : Nat) (r : FS × List UInt8 × Int) (e : Ending) (w' : World) : Prop :=
  ∃ a' cap', e = .returned (.tuple #[.slice a' r.2.1.length cap', .int .i64 r.2.2]) ∧ FAt w' b r.1 ∧ BAt w' a' r.2.1 ∧ Fr (fun k => k = b) w w'
set_option maxRecDepth 20000 in
set_option maxHeartbeats 2000000 in
theorem take_bad (b : Nat) (s : FS) (x : TF) (room : Bool) (a : Option Addr) (cap : Nat) (w : World) (h : FAt w b s) (hw : 1 ≤ s.win) (hx : validB x = false ∨ x.craft ≠ s.craft ∨ x.chan ≠ s.chan) :
    Calls Try.prog 9 #[.pointer (some ⟨b, 0, none⟩), x.val a cap, .bool room] w (TQ w b (takeF s x room)) := by
  have HF : Hid (takeF s x room = (s, [], 0)) := if_pos hx
  have H := Lib.hid h
  have HX := Lib.hid hx
  obtain ⟨hb, ⟨c0, c1, c2, c3, c4, c5, c6, c7⟩, -⟩ := h.walk
  have fin : ∀ w', Below w.heap.size w w' → TQ w b (takeF s x room) (.returned (.tuple #[.slice none 0 0, .int .i64 0])) w' := fun w' hB => by
    rw [HF.out]; exact ⟨none, 0, rfl, H.out.below hB (Nat.le_refl _), BAt.nil _ _, Fr.of_below hB (Nat.le_refl _)⟩
  have FIN := Lib.hid fin
  clear h hx fin c1 c3 c4 c5 c6 c7
  unfold TF.val
  have HN := Lib.hid (none_any b s (w.alloc (x.box a cap)).drew (H.out.alloc _) hw)
  have HV := Lib.hid (valid_any x a cap (w.alloc (x.box a cap)).drew)
  unfold TF.box at HN HV
  unfold TF.val at HV
  by_cases hv : validB x = true
  · rw [hv] at HV
    by_cases hc : x.craft = s.craft
    · have hc' : x.chan ≠ s.chan := by
        rcases HX.out with h | h | h
        · rw [hv] at h; cases h
        · exact absurd hc h
        · exact h
      have e1 : (s.craft != s.craft) = false := by simp
      have e2 : (x.chan != s.chan) = true := by rw [bne_iff_ne]; exact hc'
      have HC := Lib.hid hc'
      clear hc' hv
      rw [← hc] at c0 e1
      have HCC := Lib.hid hc
      clear hc
      go_enter Try.func9, Try.ntmps9
      go_wp2_with fail
      go_region_held3 (fun w' => w'.cell? ⟨b, 0, none⟩ = some (.int .i64 x.craft) ∧ w'.cell? ⟨b, 2, none⟩ = some (.int .i64 s.chan) ∧ w'.cell? ⟨w.heap.size, 0, none⟩ = some (.bool x.byp) ∧ w'.cell? ⟨w.heap.size, 1, none⟩ = some (.bool x.ctl) ∧ w'.cell? ⟨w.heap.size, 2, none⟩ = some (.int .i64 x.craft) ∧ w'.cell? ⟨w.heap.size, 3, none⟩ = some (.int .i64 x.chan) ∧ w'.cell? ⟨w.heap.size, 4, none⟩ = some (.int .i64 x.seq) ∧ w'.cell? ⟨w.heap.size, 5, none⟩ = some (.slice a x.dat.length cap)) (go_keep)
        (first
          | (go_at_call 17; refine (HN.out).mono ?_; rintro e w2 ⟨rfl, rfl⟩)
          | (go_at_call 18; refine (HV.out).mono ?_; rintro e w2 ⟨rfl, rfl⟩))
      all_goals
        go_wp2_with fail
        go_ret2
        exact FIN.out _ (al (al (Below.refl _ _) _).drew _)
    · have e1 : (x.craft != s.craft) = true := by rw [bne_iff_ne]; exact hc
      have HC := Lib.hid hc
      clear hc hv
      go_enter Try.func9, Try.ntmps9
      go_wp2_with fail
      refine wp_region_held_drew (S := (fun w' => w'.cell? ⟨b, 0, none⟩ = some (.int .i64 s.craft) ∧ w'.cell? ⟨w.heap.size, 0, none⟩ = some (.bool x.byp) ∧ w'.cell? ⟨w.heap.size, 1, none⟩ = some (.bool x.ctl) ∧ w'.cell? ⟨w.heap.size, 2, none⟩ = some (.int .i64 x.craft) ∧ w'.cell? ⟨w.heap.size, 3, none⟩ = some (.int .i64 x.chan) ∧ w'.cell? ⟨w.heap.size, 4, none⟩ = some (.int .i64 x.seq) ∧ w'.cell? ⟨w.heap.size, 5, none⟩ = some (.slice a x.dat.length cap))) (by kernel_rfl) (by (try dsimp only); go_keep) (fun hHeld => ?_)
      refine wpAnyH_take (i := 0) (oi := (Oper.mk (some 9) (Op.move (Operand.tmp 0)) 25 "farm.go:42" #[] none)) (v := ?v0t7173) rfl (by kernel_rfl) (by kernel_rfl) (by kernel_rfl) (fun _ _ _ h => h) (Or.inl ⟨by rfl, ?hy0t7173⟩) (by assumption) ?rest0t7173
      case hy0t7173 => (intro w hSw; (try dsimp only at hSw); go_simp; first | done | with_reducible rfl)
      (try simp only [Act.put, List.setIfInBounds_toArray, List.set_cons_zero, List.set_cons_succ])
      refine wpAnyH_ready (rs := [1]) (by kernel_rfl) (by simp) ?_
      refine AllReadyH.cons (o := (Oper.mk (some 10) (Op.call (Call.mk (Callee.value (Operand.func 17)) #[Operand.tmp 9] #[25])) 4 "farm.go:42" #[Edge.mk 0 Ground.data] none)) rfl (fun K hK => ?_) AllReadyH.nil
      go_simp
      (go_at_call 17; refine (HN.out).mono ?_; rintro e w2 ⟨rfl, rfl⟩)
      refine hK.out _ _ (by (try dsimp only); go_keep) (fun hHeld => ?_)
      clear hK K
      (try simp only [Act.put, List.setIfInBounds_toArray, List.set_cons_zero, List.set_cons_succ])
      refine wpAnyH_take (i := 2) (oi := (Oper.mk (some 11) (Op.move (Operand.tmp 10)) 4 "farm.go:42" #[Edge.mk 1 Ground.data, Edge.mk 1 Ground.chain] none)) (v := ?v2t7173) rfl (by kernel_rfl) (by kernel_rfl) (by kernel_rfl) (fun _ _ _ h => h) (Or.inl ⟨by rfl, ?hy2t7173⟩) (by assumption) ?rest2t7173
      case hy2t7173 => (intro w hSw; (try dsimp only at hSw); go_simp; first | done | with_reducible rfl)
      (try simp only [Act.put, List.setIfInBounds_toArray, List.set_cons_zero, List.set_cons_succ])
      refine wpAnyH_take (i := 3) (oi := (Oper.mk (some 12) (Op.load 31 (Operand.tmp 4)) 31 "farm.go:42" #[Edge.mk 2 Ground.guard] (some (2, false)))) (v := ?v3t7173) rfl (by kernel_rfl) (by kernel_rfl) (by kernel_rfl) (fun _ _ _ h => h) (Or.inl ⟨by rfl, ?hy3t7173⟩) (by assumption) ?rest3t7173
      case hy3t7173 => (intro w hSw; (try dsimp only at hSw); go_simp; first | done | with_reducible rfl)
      (try simp only [Act.put, List.setIfInBounds_toArray, List.set_cons_zero, List.set_cons_succ])
      refine wpAnyH_ready (rs := [4]) (by kernel_rfl) (by simp) ?_
      refine AllReadyH.cons (o := (Oper.mk (some 13) (Op.call (Call.mk (Callee.value (Operand.func 18)) #[Operand.tmp 12] #[31])) 4 "farm.go:42" #[Edge.mk 3 Ground.data, Edge.mk 2 Ground.chain, Edge.mk 2 Ground.guard] (some (2, false)))) rfl (fun K hK => ?_) AllReadyH.nil
      go_simp
      (go_at_call 18; refine (HV.out).mono ?_; rintro e w2 ⟨rfl, rfl⟩)
      refine hK.out _ _ (by (try dsimp only); go_keep) (fun hHeld => ?_)
      clear hK K
      (try simp only [Act.put, List.setIfInBounds_toArray, List.set_cons_zero, List.set_cons_succ])
      refine wpAnyH_take (i := 5) (oi := (Oper.mk (some 14) (Op.unOp UnOp.not 4 (Operand.tmp 13)) 4 "farm.go:42" #[Edge.mk 4 Ground.data, Edge.mk 2 Ground.guard] (some (2, false)))) (v := ?v5t7173) rfl (by kernel_rfl) (by kernel_rfl) (by kernel_rfl) (fun _ _ _ h => h) (Or.inl ⟨by rfl, ?hy5t7173⟩) (by assumption) ?rest5t7173
      case hy5t7173 => (intro w hSw; (try dsimp only at hSw); go_simp; first | done | with_reducible rfl)
      (try simp only [Act.put, List.setIfInBounds_toArray, List.set_cons_zero, List.set_cons_succ])
      refine wpAnyH_take (i := 6) (oi := (Oper.mk (some 15) (Op.pick (Operand.tmp 11) (Operand.const (Value.bool true)) (Operand.tmp 14)) 4 "farm.go:42" #[Edge.mk 2 Ground.data, Edge.mk 5 Ground.data] none)) (v := ?v6t7173) rfl (by kernel_rfl) (by kernel_rfl) (by kernel_rfl) (fun _ _ _ h => h) (Or.inl ⟨by rfl, ?hy6t7173⟩) (by assumption) ?rest6t7173
      case hy6t7173 => (intro w hSw; (try dsimp only at hSw); go_simp; first | done | with_reducible rfl)
      (try simp only [Act.put, List.setIfInBounds_toArray, List.set_cons_zero, List.set_cons_succ])
      refine wpAnyH_take (i := 7) (oi := (Oper.mk (some 16) (Op.move (Operand.tmp 15)) 4 "farm.go:42" #[Edge.mk 6 Ground.data, Edge.mk 4 Ground.chain] none)) (v := ?v7t7173) rfl (by kernel_rfl) (by kernel_rfl) (by kernel_rfl) (fun _ _ _ h => h) (Or.inl ⟨by rfl, ?hy7t7173⟩) (by assumption) ?rest7t7173
      case hy7t7173 => (intro w hSw; (try dsimp only at hSw); go_simp; first | done | with_reducible rfl)
      (try simp only [Act.put, List.setIfInBounds_toArray, List.set_cons_zero, List.set_cons_succ])
      refine wpAnyH_take (i := 8) (oi := (Oper.mk (some 17) (Op.fieldAddr 31 (Operand.tmp 4) 2) 0 "farm.go:42" #[Edge.mk 7 Ground.guard] (some (7, false)))) (v := ?v8t7173) rfl (by kernel_rfl) (by kernel_rfl) (by kernel_rfl) (fun _ _ _ h => h) (Or.inl ⟨by rfl, ?hy8t7173⟩) (by assumption) ?rest8t7173
      case hy8t7173 => (intro w hSw; (try dsimp only at hSw); go_simp; first | done | with_reducible rfl)
      (try simp only [Act.put, List.setIfInBounds_toArray, List.set_cons_zero, List.set_cons_succ])
      refine wpAnyH_take (i := 9) (oi := (Oper.mk (some 18) (Op.load 3 (Operand.tmp 17)) 3 "farm.go:42" #[Edge.mk 8 Ground.data, Edge.mk 7 Ground.guard] (some (7, false)))) (v := ?v9t7173) rfl (by kernel_rfl) (by kernel_rfl) (by kernel_rfl) (fun _ _ _ h => h) (Or.inl ⟨by rfl, ?hy9t7173⟩) (by assumption) ?rest9t7173
      case hy9t7173 => (intro w hSw; (try dsimp only at hSw); go_simp; first | done | with_reducible rfl)
      (try simp only [Act.put, List.setIfInBounds_toArray, List.set_cons_zero, List.set_cons_succ])
      refine wpAnyH_take (i := 10) (oi := (Oper.mk (some 19) (Op.move (Operand.tmp 0)) 25 "farm.go:42" #[Edge.mk 7 Ground.guard] (some (7, false)))) (v := ?v10t7173) rfl (by kernel_rfl) (by kernel_rfl) (by kernel_rfl) (fun _ _ _ h => h) (Or.inl ⟨by rfl, ?hy10t7173⟩) (by assumption) ?rest10t7173
      case hy10t7173 => (intro w hSw; (try dsimp only at hSw); go_simp; first | done | with_reducible rfl)
      (try simp only [Act.put, List.setIfInBounds_toArray, List.set_cons_zero, List.set_cons_succ])
      refine wpAnyH_take (i := 11) (oi := (Oper.mk (some 20) (Op.nilCheck (Operand.tmp 19)) 0 "farm.go:42" #[Edge.mk 10 Ground.data, Edge.mk 7 Ground.guard] (some (7, false)))) (v := ?v11t7173) rfl (by kernel_rfl) (by kernel_rfl) (by kernel_rfl) (fun _ _ _ h => h) (Or.inl ⟨by rfl, ?hy11t7173⟩) (by assumption) ?rest11t7173
      case hy11t7173 => (intro w hSw; (try dsimp only at hSw); go_simp; first | done | with_reducible rfl)
      (try simp only [Act.put, List.setIfInBounds_toArray, List.set_cons_zero, List.set_cons_succ])
      refine wpAnyH_take (i := 12) (oi := (Oper.mk (some 21) (Op.fieldAddr 53 (Operand.tmp 20) 0) 0 "farm.go:42" #[Edge.mk 11 Ground.data, Edge.mk 7 Ground.guard] (some (7, false)))) (v := ?v12t7173) rfl (by kernel_rfl) (by kernel_rfl) (by kernel_rfl) (fun _ _ _ h => h) (Or.inl ⟨by rfl, ?hy12t7173⟩) (by assumption) ?rest12t7173
      case hy12t7173 => (intro w hSw; (try dsimp only at hSw); go_simp; first | done | with_reducible rfl)
      (try simp only [Act.put, List.setIfInBounds_toArray, List.set_cons_zero, List.set_cons_succ])
      refine wpAnyH_take (i := 13) (oi := (Oper.mk (some 22) (Op.load 3 (Operand.tmp 21)) 3 "farm.go:42" #[Edge.mk 12 Ground.data, Edge.mk 7 Ground.guard] (some (7, false)))) (v := ?v13t7173) rfl (by kernel_rfl) (by kernel_rfl) (by kernel_rfl) (fun _ _ _ h => h) (Or.inl ⟨by rfl, ?hy13t7173⟩) (by assumption) ?rest13t7173
      case hy13t7173 => (intro w hSw; (try dsimp only at hSw); go_simp; first | done | with_reducible rfl)
      (try simp only [Act.put, List.setIfInBounds_toArray, List.set_cons_zero, List.set_cons_succ])
      refine wpAnyH_take (i := 14) (oi := (Oper.mk (some 23) (Op.binOp BinOp.neq 3 (Operand.tmp 18) (Operand.tmp 22) 3) 4 "farm.go:42" #[Edge.mk 9 Ground.data, Edge.mk 13 Ground.data, Edge.mk 7 Ground.guard] (some (7, false)))) (v := ?v14t7173) rfl (by kernel_rfl) (by kernel_rfl) (by kernel_rfl) (fun _ _ _ h => h) (Or.inl ⟨by rfl, ?hy14t7173⟩) (by assumption) ?rest14t7173
      case hy14t7173 => (intro w hSw; (try dsimp only at hSw); go_simp; first | done | with_reducible rfl)
      (try simp only [Act.put, List.setIfInBounds_toArray, List.set_cons_zero, List.set_cons_succ])
      refine wpAnyH_take (i := 15) (oi := (Oper.mk (some 24) (Op.pick (Operand.tmp 16) (Operand.const (Value.bool true)) (Operand.tmp 23)) 4 "farm.go:42" #[Edge.mk 7 Ground.data, Edge.mk 14 Ground.data] none)) (v := ?v15t7173) rfl (by kernel_rfl) (by kernel_rfl) (by kernel_rfl) (fun _ _ _ h => h) (Or.inl ⟨by rfl, ?hy15t7173⟩) (by assumption) ?rest15t7173
      case hy15t7173 => (intro w hSw; (try dsimp only at hSw); go_simp; first | done | with_reducible rfl)
      (try simp only [Act.put, List.setIfInBounds_toArray, List.set_cons_zero, List.set_cons_succ])
      refine wpAnyH_take (i := 16) (oi := (Oper.mk (some 25) (Op.move (Operand.tmp 24)) 4 "farm.go:42" #[Edge.mk 15 Ground.data, Edge.mk 7 Ground.chain] none)) (v := ?v16t7173) rfl (by kernel_rfl) (by kernel_rfl) (by kernel_rfl) (fun _ _ _ h => h) (Or.inl ⟨by rfl, ?hy16t7173⟩) (by assumption) ?rest16t7173
      case hy16t7173 => (intro w hSw; (try dsimp only at hSw); go_simp; first | done | with_reducible rfl)
      (try simp only [Act.put, List.setIfInBounds_toArray, List.set_cons_zero, List.set_cons_succ])
      refine wpAnyH_take (i := 17) (oi := (Oper.mk (some 26) (Op.fieldAddr 31 (Operand.tmp 4) 3) 0 "farm.go:42" #[Edge.mk 16 Ground.guard] (some (16, false)))) (v := undef) rfl (by kernel_rfl) (by kernel_rfl) (by kernel_rfl) (fun _ _ _ h => h) (Or.inr ⟨by rfl, rfl⟩) (by assumption) ?_
      (try simp only [Act.put, List.setIfInBounds_toArray, List.set_cons_zero, List.set_cons_succ])
      refine wpAnyH_take (i := 18) (oi := (Oper.mk (some 27) (Op.load 3 (Operand.tmp 26)) 3 "farm.go:42" #[Edge.mk 17 Ground.data, Edge.mk 16 Ground.guard] (some (16, false)))) (v := undef) rfl (by kernel_rfl) (by kernel_rfl) (by kernel_rfl) (fun _ _ _ h => h) (Or.inr ⟨by rfl, rfl⟩) (by assumption) ?_
      (try simp only [Act.put, List.setIfInBounds_toArray, List.set_cons_zero, List.set_cons_succ])
      refine wpAnyH_take (i := 19) (oi := (Oper.mk (some 28) (Op.move (Operand.tmp 0)) 25 "farm.go:42" #[Edge.mk 16 Ground.guard] (some (16, false)))) (v := undef) rfl (by kernel_rfl) (by kernel_rfl) (by kernel_rfl) (fun _ _ _ h => h) (Or.inr ⟨by rfl, rfl⟩) (by assumption) ?_
      (try simp only [Act.put, List.setIfInBounds_toArray, List.set_cons_zero, List.set_cons_succ])
      refine wpAnyH_take (i := 20) (oi := (Oper.mk (some 29) (Op.nilCheck (Operand.tmp 28)) 0 "farm.go:42" #[Edge.mk 19 Ground.data, Edge.mk 16 Ground.guard] (some (16, false)))) (v := undef) rfl (by kernel_rfl) (by kernel_rfl) (by kernel_rfl) (fun _ _ _ h => h) (Or.inr ⟨by rfl, rfl⟩) (by assumption) ?_
      (try simp only [Act.put, List.setIfInBounds_toArray, List.set_cons_zero, List.set_cons_succ])
      refine wpAnyH_take (i := 21) (oi := (Oper.mk (some 30) (Op.fieldAddr 53 (Operand.tmp 29) 2) 0 "farm.go:42" #[Edge.mk 20 Ground.data, Edge.mk 16 Ground.guard] (some (16, false)))) (v := undef) rfl (by kernel_rfl) (by kernel_rfl) (by kernel_rfl) (fun _ _ _ h => h) (Or.inr ⟨by rfl, rfl⟩) (by assumption) ?_
      (try simp only [Act.put, List.setIfInBounds_toArray, List.set_cons_zero, List.set_cons_succ])
      refine wpAnyH_take (i := 22) (oi := (Oper.mk (some 31) (Op.fieldAddr 34 (Operand.tmp 30) 0) 0 "farm.go:42" #[Edge.mk 21 Ground.data, Edge.mk 16 Ground.guard] (some (16, false)))) (v := undef) rfl (by kernel_rfl) (by kernel_rfl) (by kernel_rfl) (fun _ _ _ h => h) (Or.inr ⟨by rfl, rfl⟩) (by assumption) ?_
      (try simp only [Act.put, List.setIfInBounds_toArray, List.set_cons_zero, List.set_cons_succ])
      refine wpAnyH_take (i := 23) (oi := (Oper.mk (some 32) (Op.load 3 (Operand.tmp 31)) 3 "farm.go:42" #[Edge.mk 22 Ground.data, Edge.mk 16 Ground.guard] (some (16, false)))) (v := undef) rfl (by kernel_rfl) (by kernel_rfl) (by kernel_rfl) (fun _ _ _ h => h) (Or.inr ⟨by rfl, rfl⟩) (by assumption) ?_
      (try simp only [Act.put, List.setIfInBounds_toArray, List.set_cons_zero, List.set_cons_succ])
      refine wpAnyH_take (i := 24) (oi := (Oper.mk (some 33) (Op.binOp BinOp.neq 3 (Operand.tmp 27) (Operand.tmp 32) 3) 4 "farm.go:42" #[Edge.mk 18 Ground.data, Edge.mk 23 Ground.data, Edge.mk 16 Ground.guard] (some (16, false)))) (v := undef) rfl (by kernel_rfl) (by kernel_rfl) (by kernel_rfl) (fun _ _ _ h => h) (Or.inr ⟨by rfl, rfl⟩) (by assumption) ?_
      (try simp only [Act.put, List.setIfInBounds_toArray, List.set_cons_zero, List.set_cons_succ])
      refine wpAnyH_take (i := 25) (oi := (Oper.mk (some 34) (Op.pick (Operand.tmp 25) (Operand.const (Value.bool true)) (Operand.tmp 33)) 4 "farm.go:42" #[Edge.mk 16 Ground.data, Edge.mk 24 Ground.data] none)) (v := ?v25t7173) rfl (by kernel_rfl) (by kernel_rfl) (by kernel_rfl) (fun _ _ _ h => h) (Or.inl ⟨by rfl, ?hy25t7173⟩) (by assumption) ?rest25t7173
      case hy25t7173 => (intro w hSw; (try dsimp only at hSw); go_simp; first | done | with_reducible rfl)
      (try simp only [Act.put, List.setIfInBounds_toArray, List.set_cons_zero, List.set_cons_succ])
      refine wpAnyH_done (by kernel_rfl) ?_ _
      all_goals
        go_wp2_with fail
        go_ret2
        exact FIN.out _ (al (al (Below.refl _ _) _).drew _)
  · have hv' : validB x = false := by
      cases e : validB x
      · rfl
      · exact absurd e hv
    rw [hv'] at HV
    clear hv hv'
    go_enter Try.func9, Try.ntmps9
    go_wp2_with fail
    refine wp_region_held_drew (S := (fun w' => w'.cell? ⟨w.heap.size, 0, none⟩ = some (.bool x.byp) ∧ w'.cell? ⟨w.heap.size, 1, none⟩ = some (.bool x.ctl) ∧ w'.cell? ⟨w.heap.size, 2, none⟩ = some (.int .i64 x.craft) ∧ w'.cell? ⟨w.heap.size, 3, none⟩ = some (.int .i64 x.chan) ∧ w'.cell? ⟨w.heap.size, 4, none⟩ = some (.int .i64 x.seq) ∧ w'.cell? ⟨w.heap.size, 5, none⟩ = some (.slice a x.dat.length cap))) (by kernel_rfl) (by (try dsimp only); go_keep) (fun hHeld => ?_)
    refine wpAnyH_take (i := 0) (oi := (Oper.mk (some 9) (Op.move (Operand.tmp 0)) 25 "farm.go:42" #[] none)) (v := ?v0t0cf1) rfl (by kernel_rfl) (by kernel_rfl) (by kernel_rfl) (fun _ _ _ h => h) (Or.inl ⟨by rfl, ?hy0t0cf1⟩) (by assumption) ?rest0t0cf1
    case hy0t0cf1 => (intro w hSw; (try dsimp only at hSw); go_simp; first | done | with_reducible rfl)
    (try simp only [Act.put, List.setIfInBounds_toArray, List.set_cons_zero, List.set_cons_succ])
    refine wpAnyH_ready (rs := [1]) (by kernel_rfl) (by simp) ?_
    refine AllReadyH.cons (o := (Oper.mk (some 10) (Op.call (Call.mk (Callee.value (Operand.func 17)) #[Operand.tmp 9] #[25])) 4 "farm.go:42" #[Edge.mk 0 Ground.data] none)) rfl (fun K hK => ?_) AllReadyH.nil
    go_simp
    (go_at_call 17; refine (HN.out).mono ?_; rintro e w2 ⟨rfl, rfl⟩)
    refine hK.out _ _ (by (try dsimp only); go_keep) (fun hHeld => ?_)
    clear hK K
    (try simp only [Act.put, List.setIfInBounds_toArray, List.set_cons_zero, List.set_cons_succ])
    refine wpAnyH_take (i := 2) (oi := (Oper.mk (some 11) (Op.move (Operand.tmp 10)) 4 "farm.go:42" #[Edge.mk 1 Ground.data, Edge.mk 1 Ground.chain] none)) (v := ?v2t0cf1) rfl (by kernel_rfl) (by kernel_rfl) (by kernel_rfl) (fun _ _ _ h => h) (Or.inl ⟨by rfl, ?hy2t0cf1⟩) (by assumption) ?rest2t0cf1
    case hy2t0cf1 => (intro w hSw; (try dsimp only at hSw); go_simp; first | done | with_reducible rfl)
    (try simp only [Act.put, List.setIfInBounds_toArray, List.set_cons_zero, List.set_cons_succ])
    refine wpAnyH_take (i := 3) (oi := (Oper.mk (some 12) (Op.load 31 (Operand.tmp 4)) 31 "farm.go:42" #[Edge.mk 2 Ground.guard] (some (2, false)))) (v := ?v3t0cf1) rfl (by kernel_rfl) (by kernel_rfl) (by kernel_rfl) (fun _ _ _ h => h) (Or.inl ⟨by rfl, ?hy3t0cf1⟩) (by assumption) ?rest3t0cf1
    case hy3t0cf1 => (intro w hSw; (try dsimp only at hSw); go_simp; first | done | with_reducible rfl)
    (try simp only [Act.put, List.setIfInBounds_toArray, List.set_cons_zero, List.set_cons_succ])
    refine wpAnyH_ready (rs := [4]) (by kernel_rfl) (by simp) ?_
    refine AllReadyH.cons (o := (Oper.mk (some 13) (Op.call (Call.mk (Callee.value (Operand.func 18)) #[Operand.tmp 12] #[31])) 4 "farm.go:42" #[Edge.mk 3 Ground.data, Edge.mk 2 Ground.chain, Edge.mk 2 Ground.guard] (some (2, false)))) rfl (fun K hK => ?_) AllReadyH.nil
    go_simp
    (go_at_call 18; refine (HV.out).mono ?_; rintro e w2 ⟨rfl, rfl⟩)
    refine hK.out _ _ (by (try dsimp only); go_keep) (fun hHeld => ?_)
    clear hK K
    (try simp only [Act.put, List.setIfInBounds_toArray, List.set_cons_zero, List.set_cons_succ])
    refine wpAnyH_take (i := 5) (oi := (Oper.mk (some 14) (Op.unOp UnOp.not 4 (Operand.tmp 13)) 4 "farm.go:42" #[Edge.mk 4 Ground.data, Edge.mk 2 Ground.guard] (some (2, false)))) (v := ?v5t0cf1) rfl (by kernel_rfl) (by kernel_rfl) (by kernel_rfl) (fun _ _ _ h => h) (Or.inl ⟨by rfl, ?hy5t0cf1⟩) (by assumption) ?rest5t0cf1
    case hy5t0cf1 => (intro w hSw; (try dsimp only at hSw); go_simp; first | done | with_reducible rfl)
    (try simp only [Act.put, List.setIfInBounds_toArray, List.set_cons_zero, List.set_cons_succ])
    refine wpAnyH_take (i := 6) (oi := (Oper.mk (some 15) (Op.pick (Operand.tmp 11) (Operand.const (Value.bool true)) (Operand.tmp 14)) 4 "farm.go:42" #[Edge.mk 2 Ground.data, Edge.mk 5 Ground.data] none)) (v := ?v6t0cf1) rfl (by kernel_rfl) (by kernel_rfl) (by kernel_rfl) (fun _ _ _ h => h) (Or.inl ⟨by rfl, ?hy6t0cf1⟩) (by assumption) ?rest6t0cf1
    case hy6t0cf1 => (intro w hSw; (try dsimp only at hSw); go_simp; first | done | with_reducible rfl)
    (try simp only [Act.put, List.setIfInBounds_toArray, List.set_cons_zero, List.set_cons_succ])
    refine wpAnyH_take (i := 7) (oi := (Oper.mk (some 16) (Op.move (Operand.tmp 15)) 4 "farm.go:42" #[Edge.mk 6 Ground.data, Edge.mk 4 Ground.chain] none)) (v := ?v7t0cf1) rfl (by kernel_rfl) (by kernel_rfl) (by kernel_rfl) (fun _ _ _ h => h) (Or.inl ⟨by rfl, ?hy7t0cf1⟩) (by assumption) ?rest7t0cf1
    case hy7t0cf1 => (intro w hSw; (try dsimp only at hSw); go_simp; first | done | with_reducible rfl)
    (try simp only [Act.put, List.setIfInBounds_toArray, List.set_cons_zero, List.set_cons_succ])
    refine wpAnyH_take (i := 8) (oi := (Oper.mk (some 17) (Op.fieldAddr 31 (Operand.tmp 4) 2) 0 "farm.go:42" #[Edge.mk 7 Ground.guard] (some (7, false)))) (v := undef) rfl (by kernel_rfl) (by kernel_rfl) (by kernel_rfl) (fun _ _ _ h => h) (Or.inr ⟨by rfl, rfl⟩) (by assumption) ?_
    (try simp only [Act.put, List.setIfInBounds_toArray, List.set_cons_zero, List.set_cons_succ])
    refine wpAnyH_take (i := 9) (oi := (Oper.mk (some 18) (Op.load 3 (Operand.tmp 17)) 3 "farm.go:42" #[Edge.mk 8 Ground.data, Edge.mk 7 Ground.guard] (some (7, false)))) (v := undef) rfl (by kernel_rfl) (by kernel_rfl) (by kernel_rfl) (fun _ _ _ h => h) (Or.inr ⟨by rfl, rfl⟩) (by assumption) ?_
    (try simp only [Act.put, List.setIfInBounds_toArray, List.set_cons_zero, List.set_cons_succ])
    refine wpAnyH_take (i := 10) (oi := (Oper.mk (some 19) (Op.move (Operand.tmp 0)) 25 "farm.go:42" #[Edge.mk 7 Ground.guard] (some (7, false)))) (v := undef) rfl (by kernel_rfl) (by kernel_rfl) (by kernel_rfl) (fun _ _ _ h => h) (Or.inr ⟨by rfl, rfl⟩) (by assumption) ?_
    (try simp only [Act.put, List.setIfInBounds_toArray, List.set_cons_zero, List.set_cons_succ])
    refine wpAnyH_take (i := 11) (oi := (Oper.mk (some 20) (Op.nilCheck (Operand.tmp 19)) 0 "farm.go:42" #[Edge.mk 10 Ground.data, Edge.mk 7 Ground.guard] (some (7, false)))) (v := undef) rfl (by kernel_rfl) (by kernel_rfl) (by kernel_rfl) (fun _ _ _ h => h) (Or.inr ⟨by rfl, rfl⟩) (by assumption) ?_
    (try simp only [Act.put, List.setIfInBounds_toArray, List.set_cons_zero, List.set_cons_succ])
    refine wpAnyH_take (i := 12) (oi := (Oper.mk (some 21) (Op.fieldAddr 53 (Operand.tmp 20) 0) 0 "farm.go:42" #[Edge.mk 11 Ground.data, Edge.mk 7 Ground.guard] (some (7, false)))) (v := undef) rfl (by kernel_rfl) (by kernel_rfl) (by kernel_rfl) (fun _ _ _ h => h) (Or.inr ⟨by rfl, rfl⟩) (by assumption) ?_
    (try simp only [Act.put, List.setIfInBounds_toArray, List.set_cons_zero, List.set_cons_succ])
    refine wpAnyH_take (i := 13) (oi := (Oper.mk (some 22) (Op.load 3 (Operand.tmp 21)) 3 "farm.go:42" #[Edge.mk 12 Ground.data, Edge.mk 7 Ground.guard] (some (7, false)))) (v := undef) rfl (by kernel_rfl) (by kernel_rfl) (by kernel_rfl) (fun _ _ _ h => h) (Or.inr ⟨by rfl, rfl⟩) (by assumption) ?_
    (try simp only [Act.put, List.setIfInBounds_toArray, List.set_cons_zero, List.set_cons_succ])
    refine wpAnyH_take (i := 14) (oi := (Oper.mk (some 23) (Op.binOp BinOp.neq 3 (Operand.tmp 18) (Operand.tmp 22) 3) 4 "farm.go:42" #[Edge.mk 9 Ground.data, Edge.mk 13 Ground.data, Edge.mk 7 Ground.guard] (some (7, false)))) (v := undef) rfl (by kernel_rfl) (by kernel_rfl) (by kernel_rfl) (fun _ _ _ h => h) (Or.inr ⟨by rfl, rfl⟩) (by assumption) ?_
    (try simp only [Act.put, List.setIfInBounds_toArray, List.set_cons_zero, List.set_cons_succ])
    refine wpAnyH_take (i := 15) (oi := (Oper.mk (some 24) (Op.pick (Operand.tmp 16) (Operand.const (Value.bool true)) (Operand.tmp 23)) 4 "farm.go:42" #[Edge.mk 7 Ground.data, Edge.mk 14 Ground.data] none)) (v := ?v15t0cf1) rfl (by kernel_rfl) (by kernel_rfl) (by kernel_rfl) (fun _ _ _ h => h) (Or.inl ⟨by rfl, ?hy15t0cf1⟩) (by assumption) ?rest15t0cf1
    case hy15t0cf1 => (intro w hSw; (try dsimp only at hSw); go_simp; first | done | with_reducible rfl)
    (try simp only [Act.put, List.setIfInBounds_toArray, List.set_cons_zero, List.set_cons_succ])
    refine wpAnyH_take (i := 16) (oi := (Oper.mk (some 25) (Op.move (Operand.tmp 24)) 4 "farm.go:42" #[Edge.mk 15 Ground.data, Edge.mk 7 Ground.chain] none)) (v := ?v16t0cf1) rfl (by kernel_rfl) (by kernel_rfl) (by kernel_rfl) (fun _ _ _ h => h) (Or.inl ⟨by rfl, ?hy16t0cf1⟩) (by assumption) ?rest16t0cf1
    case hy16t0cf1 => (intro w hSw; (try dsimp only at hSw); go_simp; first | done | with_reducible rfl)
    (try simp only [Act.put, List.setIfInBounds_toArray, List.set_cons_zero, List.set_cons_succ])
    refine wpAnyH_take (i := 17) (oi := (Oper.mk (some 26) (Op.fieldAddr 31 (Operand.tmp 4) 3) 0 "farm.go:42" #[Edge.mk 16 Ground.guard] (some (16, false)))) (v := undef) rfl (by kernel_rfl) (by kernel_rfl) (by kernel_rfl) (fun _ _ _ h => h) (Or.inr ⟨by rfl, rfl⟩) (by assumption) ?_
    (try simp only [Act.put, List.setIfInBounds_toArray, List.set_cons_zero, List.set_cons_succ])
    refine wpAnyH_take (i := 18) (oi := (Oper.mk (some 27) (Op.load 3 (Operand.tmp 26)) 3 "farm.go:42" #[Edge.mk 17 Ground.data, Edge.mk 16 Ground.guard] (some (16, false)))) (v := undef) rfl (by kernel_rfl) (by kernel_rfl) (by kernel_rfl) (fun _ _ _ h => h) (Or.inr ⟨by rfl, rfl⟩) (by assumption) ?_
    (try simp only [Act.put, List.setIfInBounds_toArray, List.set_cons_zero, List.set_cons_succ])
    refine wpAnyH_take (i := 19) (oi := (Oper.mk (some 28) (Op.move (Operand.tmp 0)) 25 "farm.go:42" #[Edge.mk 16 Ground.guard] (some (16, false)))) (v := undef) rfl (by kernel_rfl) (by kernel_rfl) (by kernel_rfl) (fun _ _ _ h => h) (Or.inr ⟨by rfl, rfl⟩) (by assumption) ?_
    (try simp only [Act.put, List.setIfInBounds_toArray, List.set_cons_zero, List.set_cons_succ])
    refine wpAnyH_take (i := 20) (oi := (Oper.mk (some 29) (Op.nilCheck (Operand.tmp 28)) 0 "farm.go:42" #[Edge.mk 19 Ground.data, Edge.mk 16 Ground.guard] (some (16, false)))) (v := undef) rfl (by kernel_rfl) (by kernel_rfl) (by kernel_rfl) (fun _ _ _ h => h) (Or.inr ⟨by rfl, rfl⟩) (by assumption) ?_
    (try simp only [Act.put, List.setIfInBounds_toArray, List.set_cons_zero, List.set_cons_succ])
    refine wpAnyH_take (i := 21) (oi := (Oper.mk (some 30) (Op.fieldAddr 53 (Operand.tmp 29) 2) 0 "farm.go:42" #[Edge.mk 20 Ground.data, Edge.mk 16 Ground.guard] (some (16, false)))) (v := undef) rfl (by kernel_rfl) (by kernel_rfl) (by kernel_rfl) (fun _ _ _ h => h) (Or.inr ⟨by rfl, rfl⟩) (by assumption) ?_
    (try simp only [Act.put, List.setIfInBounds_toArray, List.set_cons_zero, List.set_cons_succ])
    refine wpAnyH_take (i := 22) (oi := (Oper.mk (some 31) (Op.fieldAddr 34 (Operand.tmp 30) 0) 0 "farm.go:42" #[Edge.mk 21 Ground.data, Edge.mk 16 Ground.guard] (some (16, false)))) (v := undef) rfl (by kernel_rfl) (by kernel_rfl) (by kernel_rfl) (fun _ _ _ h => h) (Or.inr ⟨by rfl, rfl⟩) (by assumption) ?_
    (try simp only [Act.put, List.setIfInBounds_toArray, List.set_cons_zero, List.set_cons_succ])
    refine wpAnyH_take (i := 23) (oi := (Oper.mk (some 32) (Op.load 3 (Operand.tmp 31)) 3 "farm.go:42" #[Edge.mk 22 Ground.data, Edge.mk 16 Ground.guard] (some (16, false)))) (v := undef) rfl (by kernel_rfl) (by kernel_rfl) (by kernel_rfl) (fun _ _ _ h => h) (Or.inr ⟨by rfl, rfl⟩) (by assumption) ?_
    (try simp only [Act.put, List.setIfInBounds_toArray, List.set_cons_zero, List.set_cons_succ])
    refine wpAnyH_take (i := 24) (oi := (Oper.mk (some 33) (Op.binOp BinOp.neq 3 (Operand.tmp 27) (Operand.tmp 32) 3) 4 "farm.go:42" #[Edge.mk 18 Ground.data, Edge.mk 23 Ground.data, Edge.mk 16 Ground.guard] (some (16, false)))) (v := undef) rfl (by kernel_rfl) (by kernel_rfl) (by kernel_rfl) (fun _ _ _ h => h) (Or.inr ⟨by rfl, rfl⟩) (by assumption) ?_
    (try simp only [Act.put, List.setIfInBounds_toArray, List.set_cons_zero, List.set_cons_succ])
    refine wpAnyH_take (i := 25) (oi := (Oper.mk (some 34) (Op.pick (Operand.tmp 25) (Operand.const (Value.bool true)) (Operand.tmp 33)) 4 "farm.go:42" #[Edge.mk 16 Ground.data, Edge.mk 24 Ground.data] none)) (v := ?v25t0cf1) rfl (by kernel_rfl) (by kernel_rfl) (by kernel_rfl) (fun _ _ _ h => h) (Or.inl ⟨by rfl, ?hy25t0cf1⟩) (by assumption) ?rest25t0cf1
    case hy25t0cf1 => (intro w hSw; (try dsimp only at hSw); go_simp; first | done | with_reducible rfl)
    (try simp only [Act.put, List.setIfInBounds_toArray, List.set_cons_zero, List.set_cons_succ])
    refine wpAnyH_done (by kernel_rfl) ?_ _
    all_goals
      go_wp2_with fail
      go_ret2
      exact FIN.out _ (al (al (Below.refl _ _) _).drew _)
end Go.Proofs.Ytgdmonckfjnlfaa

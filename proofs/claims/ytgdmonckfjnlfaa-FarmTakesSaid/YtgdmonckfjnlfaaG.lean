/- Take of a Farm where the frame is for it. No condition. -/
import Derived.Test.YtgdmonckfjnlfaaF
import Derived.Deep.DeepCutAuto
import Derived.Deep.CutBlock
namespace Go.Proofs.Ytgdmonckfjnlfaa
open Go.RowKit Go.Deep Go.ChangeShapes Go.WideShapes Go.ChangeAt
set_option linter.unusedVariables false

/-- what Take holds on its way -/
def TMid (w : World) (b : Nat) (s : FS) (x : TF) (a : Option Addr) (cap : Nat) (wx : World) : Prop :=
  FAt wx b s ∧ Blk wx w.heap.size 31 [.bool x.byp, .bool x.ctl, .int .i64 x.craft, .int .i64 x.chan, .int .i64 x.seq, .slice a x.dat.length cap] ∧ BAt wx a x.dat ∧ Fr (fun k => k = b) w wx
set_option maxRecDepth 20000 in
set_option maxHeartbeats 2000000 in
theorem take_good (b : Nat) (s : FS) (x : TF) (room : Bool) (a : Option Addr) (cap : Nat) (w : World) (h : FAt w b s) (hw : 1 ≤ s.win ∧ s.win ≤ 127) (h0 : 0 ≤ s.byp ∧ s.byp ≤ 3) (hx : validB x = true) (hc : x.craft = s.craft) (hch : x.chan = s.chan) (hd : BAt w a x.dat) (hcap : x.dat.length ≤ cap) (hne : ∀ p, a = some p → p.block ≠ b) :
    Calls Try.prog 9 #[.pointer (some ⟨b, 0, none⟩), x.val a cap, .bool room] w (TQ w b (takeF s x room)) := by
  have HF : Hid (takeF s x room = if (verS s x room).2 ≠ 1 then ((verS s x room).1, [], (verS s x room).2) else ((verS s x room).1, x.dat, 1)) := by
    show takeF s x room = _
    unfold takeF
    rw [if_neg (by rw [hx]; rintro (h | h | h); cases h; exact h hc; exact h hch)]
  have hlen : 1 ≤ x.dat.length ∧ x.dat.length ≤ 1017 := by
    have h := hx
    unfold validB at h
    simp only [Bool.and_eq_true, decide_eq_true_eq] at h
    omega
  have H := Lib.hid h
  have HD := Lib.hid hd
  have HL := Lib.hid hlen
  have HNE := Lib.hid hne
  have HW := Lib.hid hw
  have H0 := Lib.hid h0
  obtain ⟨hb, ⟨c0, c1, c2, c3, c4, c5, c6, c7⟩, -⟩ := h.walk
  clear h c1 c3 c4 c5 c6 c7 hd hne h0
  unfold TF.val
  have HN := Lib.hid (none_any b s (w.alloc (x.box a cap)).drew (H.out.alloc _) hw.1)
  have HV := Lib.hid (valid_any x a cap (w.alloc (x.box a cap)).drew)
  unfold TF.box at HN HV
  unfold TF.val at HV
  rw [hx] at HV
  have e1 : (x.craft != x.craft) = false := by simp
  have e2 : (x.chan != x.chan) = false := by simp
  rw [← hc] at c0
  rw [← hch] at c2
  have HC := Lib.hid hc
  have HCH := Lib.hid hch
  clear hc hch hw hlen hx
  go_enter Try.func9, Try.ntmps9
  go_wp2_with fail
  refine wp_region_held_drew (S := (fun w' => w'.cell? ⟨b, 0, none⟩ = some (.int .i64 x.craft) ∧ w'.cell? ⟨b, 2, none⟩ = some (.int .i64 x.chan) ∧ w'.cell? ⟨w.heap.size, 0, none⟩ = some (.bool x.byp) ∧ w'.cell? ⟨w.heap.size, 1, none⟩ = some (.bool x.ctl) ∧ w'.cell? ⟨w.heap.size, 2, none⟩ = some (.int .i64 x.craft) ∧ w'.cell? ⟨w.heap.size, 3, none⟩ = some (.int .i64 x.chan) ∧ w'.cell? ⟨w.heap.size, 4, none⟩ = some (.int .i64 x.seq) ∧ w'.cell? ⟨w.heap.size, 5, none⟩ = some (.slice a x.dat.length cap))) (by kernel_rfl) (by (try dsimp only); go_keep) (fun hHeld => ?_)
  refine wpAnyH_take (i := 0) (oi := (Oper.mk (some 9) (Op.move (Operand.tmp 0)) 25 "farm.go:42" #[] none)) (v := ?v0t16c7) rfl (by kernel_rfl) (by kernel_rfl) (by kernel_rfl) (fun _ _ _ h => h) (Or.inl ⟨by rfl, ?hy0t16c7⟩) (by assumption) ?rest0t16c7
  case hy0t16c7 => (intro w hSw; (try dsimp only at hSw); go_simp; first | done | with_reducible rfl)
  (try simp only [Act.put, List.setIfInBounds_toArray, List.set_cons_zero, List.set_cons_succ])
  refine wpAnyH_ready (rs := [1]) (by kernel_rfl) (by simp) ?_
  refine AllReadyH.cons (o := (Oper.mk (some 10) (Op.call (Call.mk (Callee.value (Operand.func 17)) #[Operand.tmp 9] #[25])) 4 "farm.go:42" #[Edge.mk 0 Ground.data] none)) rfl (fun K hK => ?_) AllReadyH.nil
  go_simp
  (go_at_call 17; refine (HN.out).mono ?_; rintro e w2 ⟨rfl, rfl⟩)
  refine hK.out _ _ (by (try dsimp only); go_keep) (fun hHeld => ?_)
  clear hK K
  (try simp only [Act.put, List.setIfInBounds_toArray, List.set_cons_zero, List.set_cons_succ])
  refine wpAnyH_take (i := 2) (oi := (Oper.mk (some 11) (Op.move (Operand.tmp 10)) 4 "farm.go:42" #[Edge.mk 1 Ground.data, Edge.mk 1 Ground.chain] none)) (v := ?v2t16c7) rfl (by kernel_rfl) (by kernel_rfl) (by kernel_rfl) (fun _ _ _ h => h) (Or.inl ⟨by rfl, ?hy2t16c7⟩) (by assumption) ?rest2t16c7
  case hy2t16c7 => (intro w hSw; (try dsimp only at hSw); go_simp; first | done | with_reducible rfl)
  (try simp only [Act.put, List.setIfInBounds_toArray, List.set_cons_zero, List.set_cons_succ])
  refine wpAnyH_take (i := 3) (oi := (Oper.mk (some 12) (Op.load 31 (Operand.tmp 4)) 31 "farm.go:42" #[Edge.mk 2 Ground.guard] (some (2, false)))) (v := ?v3t16c7) rfl (by kernel_rfl) (by kernel_rfl) (by kernel_rfl) (fun _ _ _ h => h) (Or.inl ⟨by rfl, ?hy3t16c7⟩) (by assumption) ?rest3t16c7
  case hy3t16c7 => (intro w hSw; (try dsimp only at hSw); go_simp; first | done | with_reducible rfl)
  (try simp only [Act.put, List.setIfInBounds_toArray, List.set_cons_zero, List.set_cons_succ])
  refine wpAnyH_ready (rs := [4]) (by kernel_rfl) (by simp) ?_
  refine AllReadyH.cons (o := (Oper.mk (some 13) (Op.call (Call.mk (Callee.value (Operand.func 18)) #[Operand.tmp 12] #[31])) 4 "farm.go:42" #[Edge.mk 3 Ground.data, Edge.mk 2 Ground.chain, Edge.mk 2 Ground.guard] (some (2, false)))) rfl (fun K hK => ?_) AllReadyH.nil
  go_simp
  (go_at_call 18; refine (HV.out).mono ?_; rintro e w2 ⟨rfl, rfl⟩)
  refine hK.out _ _ (by (try dsimp only); go_keep) (fun hHeld => ?_)
  clear hK K
  (try simp only [Act.put, List.setIfInBounds_toArray, List.set_cons_zero, List.set_cons_succ])
  refine wpAnyH_take (i := 5) (oi := (Oper.mk (some 14) (Op.unOp UnOp.not 4 (Operand.tmp 13)) 4 "farm.go:42" #[Edge.mk 4 Ground.data, Edge.mk 2 Ground.guard] (some (2, false)))) (v := ?v5t16c7) rfl (by kernel_rfl) (by kernel_rfl) (by kernel_rfl) (fun _ _ _ h => h) (Or.inl ⟨by rfl, ?hy5t16c7⟩) (by assumption) ?rest5t16c7
  case hy5t16c7 => (intro w hSw; (try dsimp only at hSw); go_simp; first | done | with_reducible rfl)
  (try simp only [Act.put, List.setIfInBounds_toArray, List.set_cons_zero, List.set_cons_succ])
  refine wpAnyH_take (i := 6) (oi := (Oper.mk (some 15) (Op.pick (Operand.tmp 11) (Operand.const (Value.bool true)) (Operand.tmp 14)) 4 "farm.go:42" #[Edge.mk 2 Ground.data, Edge.mk 5 Ground.data] none)) (v := ?v6t16c7) rfl (by kernel_rfl) (by kernel_rfl) (by kernel_rfl) (fun _ _ _ h => h) (Or.inl ⟨by rfl, ?hy6t16c7⟩) (by assumption) ?rest6t16c7
  case hy6t16c7 => (intro w hSw; (try dsimp only at hSw); go_simp; first | done | with_reducible rfl)
  (try simp only [Act.put, List.setIfInBounds_toArray, List.set_cons_zero, List.set_cons_succ])
  refine wpAnyH_take (i := 7) (oi := (Oper.mk (some 16) (Op.move (Operand.tmp 15)) 4 "farm.go:42" #[Edge.mk 6 Ground.data, Edge.mk 4 Ground.chain] none)) (v := ?v7t16c7) rfl (by kernel_rfl) (by kernel_rfl) (by kernel_rfl) (fun _ _ _ h => h) (Or.inl ⟨by rfl, ?hy7t16c7⟩) (by assumption) ?rest7t16c7
  case hy7t16c7 => (intro w hSw; (try dsimp only at hSw); go_simp; first | done | with_reducible rfl)
  (try simp only [Act.put, List.setIfInBounds_toArray, List.set_cons_zero, List.set_cons_succ])
  refine wpAnyH_take (i := 8) (oi := (Oper.mk (some 17) (Op.fieldAddr 31 (Operand.tmp 4) 2) 0 "farm.go:42" #[Edge.mk 7 Ground.guard] (some (7, false)))) (v := ?v8t16c7) rfl (by kernel_rfl) (by kernel_rfl) (by kernel_rfl) (fun _ _ _ h => h) (Or.inl ⟨by rfl, ?hy8t16c7⟩) (by assumption) ?rest8t16c7
  case hy8t16c7 => (intro w hSw; (try dsimp only at hSw); go_simp; first | done | with_reducible rfl)
  (try simp only [Act.put, List.setIfInBounds_toArray, List.set_cons_zero, List.set_cons_succ])
  refine wpAnyH_take (i := 9) (oi := (Oper.mk (some 18) (Op.load 3 (Operand.tmp 17)) 3 "farm.go:42" #[Edge.mk 8 Ground.data, Edge.mk 7 Ground.guard] (some (7, false)))) (v := ?v9t16c7) rfl (by kernel_rfl) (by kernel_rfl) (by kernel_rfl) (fun _ _ _ h => h) (Or.inl ⟨by rfl, ?hy9t16c7⟩) (by assumption) ?rest9t16c7
  case hy9t16c7 => (intro w hSw; (try dsimp only at hSw); go_simp; first | done | with_reducible rfl)
  (try simp only [Act.put, List.setIfInBounds_toArray, List.set_cons_zero, List.set_cons_succ])
  refine wpAnyH_take (i := 10) (oi := (Oper.mk (some 19) (Op.move (Operand.tmp 0)) 25 "farm.go:42" #[Edge.mk 7 Ground.guard] (some (7, false)))) (v := ?v10t16c7) rfl (by kernel_rfl) (by kernel_rfl) (by kernel_rfl) (fun _ _ _ h => h) (Or.inl ⟨by rfl, ?hy10t16c7⟩) (by assumption) ?rest10t16c7
  case hy10t16c7 => (intro w hSw; (try dsimp only at hSw); go_simp; first | done | with_reducible rfl)
  (try simp only [Act.put, List.setIfInBounds_toArray, List.set_cons_zero, List.set_cons_succ])
  refine wpAnyH_take (i := 11) (oi := (Oper.mk (some 20) (Op.nilCheck (Operand.tmp 19)) 0 "farm.go:42" #[Edge.mk 10 Ground.data, Edge.mk 7 Ground.guard] (some (7, false)))) (v := ?v11t16c7) rfl (by kernel_rfl) (by kernel_rfl) (by kernel_rfl) (fun _ _ _ h => h) (Or.inl ⟨by rfl, ?hy11t16c7⟩) (by assumption) ?rest11t16c7
  case hy11t16c7 => (intro w hSw; (try dsimp only at hSw); go_simp; first | done | with_reducible rfl)
  (try simp only [Act.put, List.setIfInBounds_toArray, List.set_cons_zero, List.set_cons_succ])
  refine wpAnyH_take (i := 12) (oi := (Oper.mk (some 21) (Op.fieldAddr 53 (Operand.tmp 20) 0) 0 "farm.go:42" #[Edge.mk 11 Ground.data, Edge.mk 7 Ground.guard] (some (7, false)))) (v := ?v12t16c7) rfl (by kernel_rfl) (by kernel_rfl) (by kernel_rfl) (fun _ _ _ h => h) (Or.inl ⟨by rfl, ?hy12t16c7⟩) (by assumption) ?rest12t16c7
  case hy12t16c7 => (intro w hSw; (try dsimp only at hSw); go_simp; first | done | with_reducible rfl)
  (try simp only [Act.put, List.setIfInBounds_toArray, List.set_cons_zero, List.set_cons_succ])
  refine wpAnyH_take (i := 13) (oi := (Oper.mk (some 22) (Op.load 3 (Operand.tmp 21)) 3 "farm.go:42" #[Edge.mk 12 Ground.data, Edge.mk 7 Ground.guard] (some (7, false)))) (v := ?v13t16c7) rfl (by kernel_rfl) (by kernel_rfl) (by kernel_rfl) (fun _ _ _ h => h) (Or.inl ⟨by rfl, ?hy13t16c7⟩) (by assumption) ?rest13t16c7
  case hy13t16c7 => (intro w hSw; (try dsimp only at hSw); go_simp; first | done | with_reducible rfl)
  (try simp only [Act.put, List.setIfInBounds_toArray, List.set_cons_zero, List.set_cons_succ])
  refine wpAnyH_take (i := 14) (oi := (Oper.mk (some 23) (Op.binOp BinOp.neq 3 (Operand.tmp 18) (Operand.tmp 22) 3) 4 "farm.go:42" #[Edge.mk 9 Ground.data, Edge.mk 13 Ground.data, Edge.mk 7 Ground.guard] (some (7, false)))) (v := ?v14t16c7) rfl (by kernel_rfl) (by kernel_rfl) (by kernel_rfl) (fun _ _ _ h => h) (Or.inl ⟨by rfl, ?hy14t16c7⟩) (by assumption) ?rest14t16c7
  case hy14t16c7 => (intro w hSw; (try dsimp only at hSw); go_simp; first | done | with_reducible rfl)
  (try simp only [Act.put, List.setIfInBounds_toArray, List.set_cons_zero, List.set_cons_succ])
  refine wpAnyH_take (i := 15) (oi := (Oper.mk (some 24) (Op.pick (Operand.tmp 16) (Operand.const (Value.bool true)) (Operand.tmp 23)) 4 "farm.go:42" #[Edge.mk 7 Ground.data, Edge.mk 14 Ground.data] none)) (v := ?v15t16c7) rfl (by kernel_rfl) (by kernel_rfl) (by kernel_rfl) (fun _ _ _ h => h) (Or.inl ⟨by rfl, ?hy15t16c7⟩) (by assumption) ?rest15t16c7
  case hy15t16c7 => (intro w hSw; (try dsimp only at hSw); go_simp; first | done | with_reducible rfl)
  (try simp only [Act.put, List.setIfInBounds_toArray, List.set_cons_zero, List.set_cons_succ])
  refine wpAnyH_take (i := 16) (oi := (Oper.mk (some 25) (Op.move (Operand.tmp 24)) 4 "farm.go:42" #[Edge.mk 15 Ground.data, Edge.mk 7 Ground.chain] none)) (v := ?v16t16c7) rfl (by kernel_rfl) (by kernel_rfl) (by kernel_rfl) (fun _ _ _ h => h) (Or.inl ⟨by rfl, ?hy16t16c7⟩) (by assumption) ?rest16t16c7
  case hy16t16c7 => (intro w hSw; (try dsimp only at hSw); go_simp; first | done | with_reducible rfl)
  (try simp only [Act.put, List.setIfInBounds_toArray, List.set_cons_zero, List.set_cons_succ])
  refine wpAnyH_take (i := 17) (oi := (Oper.mk (some 26) (Op.fieldAddr 31 (Operand.tmp 4) 3) 0 "farm.go:42" #[Edge.mk 16 Ground.guard] (some (16, false)))) (v := ?v17t16c7) rfl (by kernel_rfl) (by kernel_rfl) (by kernel_rfl) (fun _ _ _ h => h) (Or.inl ⟨by rfl, ?hy17t16c7⟩) (by assumption) ?rest17t16c7
  case hy17t16c7 => (intro w hSw; (try dsimp only at hSw); go_simp; first | done | with_reducible rfl)
  (try simp only [Act.put, List.setIfInBounds_toArray, List.set_cons_zero, List.set_cons_succ])
  refine wpAnyH_take (i := 18) (oi := (Oper.mk (some 27) (Op.load 3 (Operand.tmp 26)) 3 "farm.go:42" #[Edge.mk 17 Ground.data, Edge.mk 16 Ground.guard] (some (16, false)))) (v := ?v18t16c7) rfl (by kernel_rfl) (by kernel_rfl) (by kernel_rfl) (fun _ _ _ h => h) (Or.inl ⟨by rfl, ?hy18t16c7⟩) (by assumption) ?rest18t16c7
  case hy18t16c7 => (intro w hSw; (try dsimp only at hSw); go_simp; first | done | with_reducible rfl)
  (try simp only [Act.put, List.setIfInBounds_toArray, List.set_cons_zero, List.set_cons_succ])
  refine wpAnyH_take (i := 19) (oi := (Oper.mk (some 28) (Op.move (Operand.tmp 0)) 25 "farm.go:42" #[Edge.mk 16 Ground.guard] (some (16, false)))) (v := ?v19t16c7) rfl (by kernel_rfl) (by kernel_rfl) (by kernel_rfl) (fun _ _ _ h => h) (Or.inl ⟨by rfl, ?hy19t16c7⟩) (by assumption) ?rest19t16c7
  case hy19t16c7 => (intro w hSw; (try dsimp only at hSw); go_simp; first | done | with_reducible rfl)
  (try simp only [Act.put, List.setIfInBounds_toArray, List.set_cons_zero, List.set_cons_succ])
  refine wpAnyH_take (i := 20) (oi := (Oper.mk (some 29) (Op.nilCheck (Operand.tmp 28)) 0 "farm.go:42" #[Edge.mk 19 Ground.data, Edge.mk 16 Ground.guard] (some (16, false)))) (v := ?v20t16c7) rfl (by kernel_rfl) (by kernel_rfl) (by kernel_rfl) (fun _ _ _ h => h) (Or.inl ⟨by rfl, ?hy20t16c7⟩) (by assumption) ?rest20t16c7
  case hy20t16c7 => (intro w hSw; (try dsimp only at hSw); go_simp; first | done | with_reducible rfl)
  (try simp only [Act.put, List.setIfInBounds_toArray, List.set_cons_zero, List.set_cons_succ])
  refine wpAnyH_take (i := 21) (oi := (Oper.mk (some 30) (Op.fieldAddr 53 (Operand.tmp 29) 2) 0 "farm.go:42" #[Edge.mk 20 Ground.data, Edge.mk 16 Ground.guard] (some (16, false)))) (v := ?v21t16c7) rfl (by kernel_rfl) (by kernel_rfl) (by kernel_rfl) (fun _ _ _ h => h) (Or.inl ⟨by rfl, ?hy21t16c7⟩) (by assumption) ?rest21t16c7
  case hy21t16c7 => (intro w hSw; (try dsimp only at hSw); go_simp; first | done | with_reducible rfl)
  (try simp only [Act.put, List.setIfInBounds_toArray, List.set_cons_zero, List.set_cons_succ])
  refine wpAnyH_take (i := 22) (oi := (Oper.mk (some 31) (Op.fieldAddr 34 (Operand.tmp 30) 0) 0 "farm.go:42" #[Edge.mk 21 Ground.data, Edge.mk 16 Ground.guard] (some (16, false)))) (v := ?v22t16c7) rfl (by kernel_rfl) (by kernel_rfl) (by kernel_rfl) (fun _ _ _ h => h) (Or.inl ⟨by rfl, ?hy22t16c7⟩) (by assumption) ?rest22t16c7
  case hy22t16c7 => (intro w hSw; (try dsimp only at hSw); go_simp; first | done | with_reducible rfl)
  (try simp only [Act.put, List.setIfInBounds_toArray, List.set_cons_zero, List.set_cons_succ])
  refine wpAnyH_take (i := 23) (oi := (Oper.mk (some 32) (Op.load 3 (Operand.tmp 31)) 3 "farm.go:42" #[Edge.mk 22 Ground.data, Edge.mk 16 Ground.guard] (some (16, false)))) (v := ?v23t16c7) rfl (by kernel_rfl) (by kernel_rfl) (by kernel_rfl) (fun _ _ _ h => h) (Or.inl ⟨by rfl, ?hy23t16c7⟩) (by assumption) ?rest23t16c7
  case hy23t16c7 => (intro w hSw; (try dsimp only at hSw); go_simp; first | done | with_reducible rfl)
  (try simp only [Act.put, List.setIfInBounds_toArray, List.set_cons_zero, List.set_cons_succ])
  refine wpAnyH_take (i := 24) (oi := (Oper.mk (some 33) (Op.binOp BinOp.neq 3 (Operand.tmp 27) (Operand.tmp 32) 3) 4 "farm.go:42" #[Edge.mk 18 Ground.data, Edge.mk 23 Ground.data, Edge.mk 16 Ground.guard] (some (16, false)))) (v := ?v24t16c7) rfl (by kernel_rfl) (by kernel_rfl) (by kernel_rfl) (fun _ _ _ h => h) (Or.inl ⟨by rfl, ?hy24t16c7⟩) (by assumption) ?rest24t16c7
  case hy24t16c7 => (intro w hSw; (try dsimp only at hSw); go_simp; first | done | with_reducible rfl)
  (try simp only [Act.put, List.setIfInBounds_toArray, List.set_cons_zero, List.set_cons_succ])
  refine wpAnyH_take (i := 25) (oi := (Oper.mk (some 34) (Op.pick (Operand.tmp 25) (Operand.const (Value.bool true)) (Operand.tmp 33)) 4 "farm.go:42" #[Edge.mk 16 Ground.data, Edge.mk 24 Ground.data] none)) (v := ?v25t16c7) rfl (by kernel_rfl) (by kernel_rfl) (by kernel_rfl) (fun _ _ _ h => h) (Or.inl ⟨by rfl, ?hy25t16c7⟩) (by assumption) ?rest25t16c7
  case hy25t16c7 => (intro w hSw; (try dsimp only at hSw); go_simp; first | done | with_reducible rfl)
  (try simp only [Act.put, List.setIfInBounds_toArray, List.set_cons_zero, List.set_cons_succ])
  refine wpAnyH_done (by kernel_rfl) ?_ _
  go_upto_if 34 with (fail)
  go_cut [] (fun wx => TMid w b s x a cap wx)
  case first =>
    go_wp2_with fail
    go_meet
    case rel =>
      have hB : Below w.heap.size w _ := al (al (Below.refl _ w) (x.box a cap)).drew (x.box a cap)
      exact ⟨H.out.below hB (Nat.le_refl _), ((Blk.new w 31 _).drew).alloc _, HD.out.below hB (Nat.le_refl _), Fr.of_below hB (Nat.le_refl _)⟩
  case rest =>
    obtain ⟨wo, hwo⟩ : ∃ wo, wo = wc := ⟨wc, rfl⟩
    subst hwo
    obtain ⟨hF, hX, hA, hFr⟩ := hcut
    have d0 := hX.at 0 rfl
    have d1 := hX.at 1 rfl
    have d2 := hX.at 2 rfl
    have d3 := hX.at 3 rfl
    have d4 := hX.at 4 rfl
    have d5 := hX.at 5 rfl
    have hbx := hX.lt
    have hsz := hFr.size
    have HF1 := Lib.hid hF
    have HX := Lib.hid hX
    have HA := Lib.hid hA
    have HFr := Lib.hid hFr
    clear hF hX hA hFr c0 c2 HN HV e1 e2
    go_upto_block 0 with (fail)
    go_cut [8] (fun s8 wx => s8 = .int .i64 (verS s x room).2 ∧ TMid w b (verS s x room).1 x a cap wx)
    case first =>
      by_cases hctl : x.ctl = true
      · rw [hctl] at d1
        have HCTL := Lib.hid hctl
        have HCC := Lib.hid (control_any b s x a cap wo HF1.out H0.out HA.out hcap (by have := HL.out; omega))
        unfold TF.val at HCC
        rw [hctl] at HCC
        clear hctl
        go_wp2_with fail
        refine (HCC.out).mono ?_
        rintro e w2 ⟨rfl, hF2, hFr2⟩
        have HF2 := Lib.hid hF2
        have HFr2 := Lib.hid hFr2
        clear hF2 hFr2
        go_wp2_with fail
        go_meet
        case rel =>
          unfold verS
          rw [if_pos HCTL.out]
          exact ⟨rfl, HF2.out, HX.out.fr HFr2.out (by omega), HA.out.fr HFr2.out HNE.out, HFr.out.trans HFr2.out⟩
      · have hctl' : x.ctl = false := by cases e : x.ctl; rfl; exact absurd e hctl
        rw [hctl'] at d1
        have HCTL := Lib.hid hctl'
        clear hctl hctl'
        by_cases hbyp : x.byp = true
        · rw [hbyp] at d0
          have HBYP := Lib.hid hbyp
          clear hbyp
          go_wp2_with fail
          refine (bypass_any b s wo HF1.out H0.out).mono ?_
          rintro e w2 ⟨rfl, hF2, hFr2⟩
          have HF2 := Lib.hid hF2
          have HFr2 := Lib.hid hFr2
          clear hF2 hFr2
          go_wp2_with fail
          go_meet
          case rel =>
            unfold verS
            rw [if_neg (by rw [HCTL.out]; simp), if_pos HBYP.out]
            exact ⟨rfl, HF2.out, HX.out.fr HFr2.out (by omega), HA.out.fr HFr2.out HNE.out, HFr.out.trans HFr2.out⟩
        · have hbyp' : x.byp = false := by cases e : x.byp; rfl; exact absurd e hbyp
          rw [hbyp'] at d0
          have HBYP := Lib.hid hbyp'
          clear hbyp hbyp'
          go_wp2_with fail
          refine (seq_any b s x.seq room wo HF1.out HW.out).mono ?_
          rintro e w2 ⟨rfl, hF2, hFr2⟩
          have HF2 := Lib.hid hF2
          have HFr2 := Lib.hid hFr2
          clear hF2 hFr2
          go_wp2_with fail
          go_meet
          case rel =>
            unfold verS
            rw [if_neg (by rw [HCTL.out]; simp), if_neg (by rw [HBYP.out]; simp)]
            exact ⟨rfl, HF2.out, HX.out.fr HFr2.out (by omega), HA.out.fr HFr2.out HNE.out, HFr.out.trans HFr2.out⟩
    case rest =>
      obtain ⟨rfl, hF, hX, hA, hFr⟩ := hcut
      generalize verS s x room = V at *
      obtain ⟨s', v⟩ := V
      simp only at hF ⊢
      have d5 := hX.at 5 rfl
      have hbx := hX.lt
      have HF1 := Lib.hid hF
      have HA := Lib.hid hA
      have HFr := Lib.hid hFr
      clear hF hX hA hFr d0 d1 d2 d3 d4
      by_cases hv : v = 1
      · have hv1 : (v != 1) = false := by rw [hv]; rfl
        have HV := Lib.hid hv
        clear hv
        go_wp2_with fail
        refine (clone_bytes a cap x.dat wc (by have := HL.out; omega) (by intro h; have := HL.out; rw [h] at this; simp at this) HA.out).mono ?_
        rintro e w3 ⟨v9, rfl, hO, hB⟩
        obtain ⟨-, a9, cap9, rfl, -, -, hA9⟩ := BAt.of_row hO
        have HB := Lib.hid hB
        have HA9 := Lib.hid hA9
        clear hB hA9 hO
        go_wp2_with fail
        go_ret2
        rw [HF.out, if_neg (by rw [HV.out]; simp)]
        exact ⟨a9, cap9, rfl, HF1.out.below HB.out (Nat.le_refl _), HA9.out, HFr.out.below HB.out (Nat.le_refl _)⟩
      · have hv1 : (v != 1) = true := by rw [bne_iff_ne]; exact hv
        have HV := Lib.hid hv
        clear hv
        go_wp2_with fail
        go_ret2
        rw [HF.out, if_pos HV.out]
        exact ⟨none, 0, rfl, HF1.out, BAt.nil _ _, HFr.out⟩
end Go.Proofs.Ytgdmonckfjnlfaa

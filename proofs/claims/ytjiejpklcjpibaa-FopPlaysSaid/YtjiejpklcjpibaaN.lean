/- Contracts of Unlock and of Clone. No condition. -/
import Derived.Test.YtjiejpklcjpibaaM
namespace Go.Proofs.Ytjiejpklcjpibaa
open Go.RowKit Go.Deep Go.ChangeShapes Go.WideShapes Go.ChangeAt
set_option linter.unusedVariables false

/-- bytes of the call's own, behind a world -/
theorem own_sl {w wz : World} {X : Nat → Prop} {v : Value} {l : List UInt8} {B : Nat} (hO : wz.ownsRow B 5 1 v l.length (encB l)) (hX : ∀ k, X k → k < B) : Sl wz X v l := by
  obtain ⟨-, a1, c1, rfl, hc, hm, hA⟩ := BAt.of_row hO
  exact ⟨a1, c1, rfl, hc, hm, hA, fun q hq hl hx => by
    have h1 := (hO.lt q.block (by rw [hq]; rfl)).1
    have := hX _ hx
    omega⟩
theorem FAt.avlt {w : World} {X : Nat → Prop} {b : Nat} {f : FS} {vU vC : Value} (h : FAt w X b f vU vC) : ∀ k, Av X b vU k → k < w.heap.size := fun k hk => by
  rcases hk with h1 | h1 | h1
  · exact h.xlt k h1
  · rw [h1]; exact h.blk.lt
  · exact (h.row k h1).2
/-- the two control frames of Unlock -/
theorem unl_ctl {w wz : World} {X : Nat → Prop} {b : Nat} {g : FS} {vU vC : Value} {a5 a6 : Option Addr} {n5 c5 n6 c6 : Nat} (h : FAt w X b g vU vC) (hB : Below w.heap.size w wz)
    (hu : wz.ownsRow w.heap.size 5 1 (.slice a5 n5 c5) 1 (encB [0])) (hs : wz.ownsRow w.heap.size 5 1 (.slice a6 n6 c6) 3 (encB [130, 0, UInt8.ofNat (g.acked % 256)])) :
    CAt ((wz.alloc (.cells #[.bool true, .bool true, .int .i64 g.craft, .int .i64 g.chan, .int .i64 0, .slice a5 n5 c5, .bool true, .bool true, .int .i64 g.craft, .int .i64 g.chan, .int .i64 0, .slice a6 n6 c6] 33)).setCell ⟨b, 11, none⟩ (.slice (some ⟨wz.heap.size, 0, none⟩) 2 2)) (Av X b vU) (.slice (some ⟨wz.heap.size, 0, none⟩) 2 2) [Fm.unlock g.craft g.chan, Fm.setNext g.craft g.chan (g.acked % 256)] := by
  have hlt := h.avlt
  have hs1 := hB.size
  have hblt := h.blk.lt
  have hBa : Below wz.heap.size wz (wz.alloc (.cells #[.bool true, .bool true, .int .i64 g.craft, .int .i64 g.chan, .int .i64 0, .slice a5 n5 c5, .bool true, .bool true, .int .i64 g.craft, .int .i64 g.chan, .int .i64 0, .slice a6 n6 c6] 33)) := al (Below.refl _ _) _
  have hfr : Fr (fun k => k = b) (wz.alloc (.cells #[.bool true, .bool true, .int .i64 g.craft, .int .i64 g.chan, .int .i64 0, .slice a5 n5 c5, .bool true, .bool true, .int .i64 g.craft, .int .i64 g.chan, .int .i64 0, .slice a6 n6 c6] 33)) ((wz.alloc (.cells #[.bool true, .bool true, .int .i64 g.craft, .int .i64 g.chan, .int .i64 0, .slice a5 n5 c5, .bool true, .bool true, .int .i64 g.craft, .int .i64 g.chan, .int .i64 0, .slice a6 n6 c6] 33)).setCell ⟨b, 11, none⟩ (.slice (some ⟨wz.heap.size, 0, none⟩) 2 2)) := frs (Fr.refl _ _) _ _
  have hT : ∀ k, k = b → Av X b vU k ∨ (wz.alloc (.cells #[.bool true, .bool true, .int .i64 g.craft, .int .i64 g.chan, .int .i64 0, .slice a5 n5 c5, .bool true, .bool true, .int .i64 g.craft, .int .i64 g.chan, .int .i64 0, .slice a6 n6 c6] 33)).heap.size ≤ k := fun k hk => .inl (.inr (.inl hk))
  have s5 := ((own_sl (w := w) (l := [0]) hu hlt).below hBa (Nat.le_refl _)).fr hfr hT
  have s6 := ((own_sl (w := w) (l := [130, 0, UInt8.ofNat (g.acked % 256)]) hs hlt).below hBa (Nat.le_refl _)).fr hfr hT
  have hk : Blk ((wz.alloc (.cells #[.bool true, .bool true, .int .i64 g.craft, .int .i64 g.chan, .int .i64 0, .slice a5 n5 c5, .bool true, .bool true, .int .i64 g.craft, .int .i64 g.chan, .int .i64 0, .slice a6 n6 c6] 33)).setCell ⟨b, 11, none⟩ (.slice (some ⟨wz.heap.size, 0, none⟩) 2 2)) wz.heap.size 33 [.bool true, .bool true, .int .i64 g.craft, .int .i64 g.chan, .int .i64 0, .slice a5 n5 c5, .bool true, .bool true, .int .i64 g.craft, .int .i64 g.chan, .int .i64 0, .slice a6 n6 c6] := (Blk.new wz 33 _).setOther (by show b ≠ _; omega) _
  refine ⟨_, 2, rfl, Nat.le_refl _, by unfold maxLen; omega, .inr ⟨_, 0, rfl, hk.lt, fun hx => by have := hlt _ hx; omega, fun i hi => ?_⟩⟩
  match i, hi with
  | 0, _ => exact ⟨hk.at 0 rfl, hk.at 1 rfl, hk.at 2 rfl, hk.at 3 rfl, hk.at 4 rfl, _, hk.at 5 rfl, s5⟩
  | 1, _ => exact ⟨hk.at 6 rfl, hk.at 7 rfl, hk.at 8 rfl, hk.at 9 rfl, hk.at 10 rfl, _, hk.at 11 rfl, s6⟩
set_option maxRecDepth 20000 in
set_option maxHeartbeats 2000000 in
theorem unlock_any (X : Nat → Prop) (b : Nat) (f : FS) (vU vC : Value) (t : Int) (w : World) (h : FAt w X b f vU vC) :
    Calls Try.prog 19 #[.pointer (some ⟨b, 0, none⟩), .int .i64 t] w fun e w' => e = .returned (.int .i64 0) ∧ ∃ vC', FAt w' X b (f.unlock t) vU vC' ∧ Fr (fun k => k = b) w w' := by
  obtain ⟨g, hg⟩ : ∃ g, g = f.clock t := ⟨_, rfl⟩
  have hnx : f.unlock t = g.unlk := by rw [hg]; rfl
  rw [hnx]
  obtain ⟨us, hO, hS⟩ := h.units
  obtain ⟨au, cu, rfl, -, -, -, -, -⟩ := hO.vat
  have c5 := h.blk.at 5 rfl
  have hlt := h.blk.lt
  have H := Lib.hid h
  have HG := Lib.hid hg
  clear h hO hS hnx hg
  go_enter Try.func19, Try.ntmps19
  go_wp2_with fail
  refine (usable_any b _ c5).mono ?_
  rintro e w2 ⟨rfl, hw⟩
  obtain rfl := hw.symm
  clear c5
  go_wp2_with fail
  refine (clock_any b f _ _ t _ H.out.blk).mono ?_
  rintro e w3 ⟨rfl, hk, hf⟩
  rw [← HG.out] at hk
  have HF3 := Lib.hid hf
  have H3 := Lib.hid (show FAt w3 X b g _ _ by rw [HG.out]; exact FAt.put (f := f) H.out (by rw [← HG.out]; exact hk) hf rfl rfl)
  have c2 := H3.out.blk.at 2 rfl
  have c6 := H3.out.blk.at 6 rfl
  have c7 := H3.out.blk.at 7 rfl
  have hlt3 := H3.out.blk.lt
  have EM : Hid ((g.acked : Int).tmod 256 = ((g.acked % 256 : Nat) : Int)) := Lib.hid (by rw [Int.tmod_eq_emod_of_nonneg (by omega)]; omega)
  have hm : g.acked % 256 < 256 := Nat.mod_lt _ (by omega)
  clear hk hf
  go_upto_region 4 with fail
  refine wp_region_held_drew (S := (fun w' => w'.cell? ⟨b, 2, none⟩ = some (.int .i64 (g.acked : Int)) ∧ w'.cell? ⟨b, 6, none⟩ = some (.int .i64 g.craft) ∧ w'.cell? ⟨b, 7, none⟩ = some (.int .i64 g.chan))) (by kernel_rfl) (by (try dsimp only); first | with_reducible exact ⟨by with_reducible assumption, by with_reducible assumption, by with_reducible assumption⟩ | go_keep) (fun hHeld => ?_)
  refine wpAnyH_take (i := 0) (oi := (Oper.mk (some 11) (Op.move (Operand.tmp 0)) 25 "fop.go:168" #[] none)) (v := ?_) rfl (by kernel_rfl) (by kernel_rfl) (by kernel_rfl) (fun _ _ _ h => h) (Or.inl ⟨by rfl, ?_⟩) (by assumption) ?_
  rotate_left
  · (intro w hSw; (try dsimp only at hSw); go_simp; first | done | with_reducible rfl)
  (try simp only [Act.put, List.setIfInBounds_toArray, List.set_cons_zero, List.set_cons_succ])
  refine wpAnyH_take (i := 1) (oi := (Oper.mk (some 12) (Op.move (Operand.tmp 0)) 25 "fop.go:168" #[] none)) (v := ?_) rfl (by kernel_rfl) (by kernel_rfl) (by kernel_rfl) (fun _ _ _ h => h) (Or.inl ⟨by rfl, ?_⟩) (by assumption) ?_
  rotate_left
  · (intro w hSw; (try dsimp only at hSw); go_simp; first | done | with_reducible rfl)
  (try simp only [Act.put, List.setIfInBounds_toArray, List.set_cons_zero, List.set_cons_succ])
  refine wpAnyH_take (i := 2) (oi := (Oper.mk (some 13) (Op.nilCheck (Operand.tmp 12)) 0 "fop.go:168" #[Edge.mk 1 Ground.data] none)) (v := ?_) rfl (by kernel_rfl) (by kernel_rfl) (by kernel_rfl) (fun _ _ _ h => h) (Or.inl ⟨by rfl, ?_⟩) (by assumption) ?_
  rotate_left
  · (intro w hSw; (try dsimp only at hSw); go_simp; first | done | with_reducible rfl)
  (try simp only [Act.put, List.setIfInBounds_toArray, List.set_cons_zero, List.set_cons_succ])
  refine wpAnyH_take (i := 3) (oi := (Oper.mk (some 14) (Op.fieldAddr 69 (Operand.tmp 13) 2) 0 "fop.go:168" #[Edge.mk 2 Ground.data] none)) (v := ?_) rfl (by kernel_rfl) (by kernel_rfl) (by kernel_rfl) (fun _ _ _ h => h) (Or.inl ⟨by rfl, ?_⟩) (by assumption) ?_
  rotate_left
  · (intro w hSw; (try dsimp only at hSw); go_simp; first | done | with_reducible rfl)
  (try simp only [Act.put, List.setIfInBounds_toArray, List.set_cons_zero, List.set_cons_succ])
  refine wpAnyH_take (i := 4) (oi := (Oper.mk (some 15) (Op.load 3 (Operand.tmp 14)) 3 "fop.go:168" #[Edge.mk 3 Ground.data] none)) (v := ?_) rfl (by kernel_rfl) (by kernel_rfl) (by kernel_rfl) (fun _ _ _ h => h) (Or.inl ⟨by rfl, ?_⟩) (by assumption) ?_
  rotate_left
  · (intro w hSw; (try dsimp only at hSw); go_simp; first | done | with_reducible rfl)
  (try simp only [Act.put, List.setIfInBounds_toArray, List.set_cons_zero, List.set_cons_succ])
  refine wpAnyH_take (i := 5) (oi := (Oper.mk (some 16) (Op.move (Operand.tmp 0)) 25 "fop.go:168" #[] none)) (v := ?_) rfl (by kernel_rfl) (by kernel_rfl) (by kernel_rfl) (fun _ _ _ h => h) (Or.inl ⟨by rfl, ?_⟩) (by assumption) ?_
  rotate_left
  · (intro w hSw; (try dsimp only at hSw); go_simp; first | done | with_reducible rfl)
  (try simp only [Act.put, List.setIfInBounds_toArray, List.set_cons_zero, List.set_cons_succ])
  refine wpAnyH_take (i := 6) (oi := (Oper.mk (some 17) (Op.nilCheck (Operand.tmp 16)) 0 "fop.go:168" #[Edge.mk 5 Ground.data] none)) (v := ?_) rfl (by kernel_rfl) (by kernel_rfl) (by kernel_rfl) (fun _ _ _ h => h) (Or.inl ⟨by rfl, ?_⟩) (by assumption) ?_
  rotate_left
  · (intro w hSw; (try dsimp only at hSw); go_simp; first | done | with_reducible rfl)
  (try simp only [Act.put, List.setIfInBounds_toArray, List.set_cons_zero, List.set_cons_succ])
  refine wpAnyH_take (i := 7) (oi := (Oper.mk (some 18) (Op.fieldAddr 69 (Operand.tmp 17) 3) 0 "fop.go:168" #[Edge.mk 6 Ground.data] none)) (v := ?_) rfl (by kernel_rfl) (by kernel_rfl) (by kernel_rfl) (fun _ _ _ h => h) (Or.inl ⟨by rfl, ?_⟩) (by assumption) ?_
  rotate_left
  · (intro w hSw; (try dsimp only at hSw); go_simp; first | done | with_reducible rfl)
  (try simp only [Act.put, List.setIfInBounds_toArray, List.set_cons_zero, List.set_cons_succ])
  refine wpAnyH_take (i := 8) (oi := (Oper.mk (some 19) (Op.load 3 (Operand.tmp 18)) 3 "fop.go:168" #[Edge.mk 7 Ground.data] none)) (v := ?_) rfl (by kernel_rfl) (by kernel_rfl) (by kernel_rfl) (fun _ _ _ h => h) (Or.inl ⟨by rfl, ?_⟩) (by assumption) ?_
  rotate_left
  · (intro w hSw; (try dsimp only at hSw); go_simp; first | done | with_reducible rfl)
  (try simp only [Act.put, List.setIfInBounds_toArray, List.set_cons_zero, List.set_cons_succ])
  refine wpAnyH_take (i := 10) (oi := (Oper.mk (some 21) (Op.move (Operand.tmp 0)) 25 "fop.go:168" #[] none)) (v := ?_) rfl (by kernel_rfl) (by kernel_rfl) (by kernel_rfl) (fun _ _ _ h => h) (Or.inl ⟨by rfl, ?_⟩) (by assumption) ?_
  rotate_left
  · (intro w hSw; (try dsimp only at hSw); go_simp; first | done | with_reducible rfl)
  (try simp only [Act.put, List.setIfInBounds_toArray, List.set_cons_zero, List.set_cons_succ])
  refine wpAnyH_take (i := 11) (oi := (Oper.mk (some 22) (Op.nilCheck (Operand.tmp 21)) 0 "fop.go:168" #[Edge.mk 10 Ground.data] none)) (v := ?_) rfl (by kernel_rfl) (by kernel_rfl) (by kernel_rfl) (fun _ _ _ h => h) (Or.inl ⟨by rfl, ?_⟩) (by assumption) ?_
  rotate_left
  · (intro w hSw; (try dsimp only at hSw); go_simp; first | done | with_reducible rfl)
  (try simp only [Act.put, List.setIfInBounds_toArray, List.set_cons_zero, List.set_cons_succ])
  refine wpAnyH_take (i := 12) (oi := (Oper.mk (some 23) (Op.fieldAddr 69 (Operand.tmp 22) 2) 0 "fop.go:168" #[Edge.mk 11 Ground.data] none)) (v := ?_) rfl (by kernel_rfl) (by kernel_rfl) (by kernel_rfl) (fun _ _ _ h => h) (Or.inl ⟨by rfl, ?_⟩) (by assumption) ?_
  rotate_left
  · (intro w hSw; (try dsimp only at hSw); go_simp; first | done | with_reducible rfl)
  (try simp only [Act.put, List.setIfInBounds_toArray, List.set_cons_zero, List.set_cons_succ])
  refine wpAnyH_take (i := 13) (oi := (Oper.mk (some 24) (Op.load 3 (Operand.tmp 23)) 3 "fop.go:168" #[Edge.mk 12 Ground.data] none)) (v := ?_) rfl (by kernel_rfl) (by kernel_rfl) (by kernel_rfl) (fun _ _ _ h => h) (Or.inl ⟨by rfl, ?_⟩) (by assumption) ?_
  rotate_left
  · (intro w hSw; (try dsimp only at hSw); go_simp; first | done | with_reducible rfl)
  (try simp only [Act.put, List.setIfInBounds_toArray, List.set_cons_zero, List.set_cons_succ])
  refine wpAnyH_take (i := 14) (oi := (Oper.mk (some 25) (Op.move (Operand.tmp 0)) 25 "fop.go:168" #[] none)) (v := ?_) rfl (by kernel_rfl) (by kernel_rfl) (by kernel_rfl) (fun _ _ _ h => h) (Or.inl ⟨by rfl, ?_⟩) (by assumption) ?_
  rotate_left
  · (intro w hSw; (try dsimp only at hSw); go_simp; first | done | with_reducible rfl)
  (try simp only [Act.put, List.setIfInBounds_toArray, List.set_cons_zero, List.set_cons_succ])
  refine wpAnyH_take (i := 15) (oi := (Oper.mk (some 26) (Op.nilCheck (Operand.tmp 25)) 0 "fop.go:168" #[Edge.mk 14 Ground.data] none)) (v := ?_) rfl (by kernel_rfl) (by kernel_rfl) (by kernel_rfl) (fun _ _ _ h => h) (Or.inl ⟨by rfl, ?_⟩) (by assumption) ?_
  rotate_left
  · (intro w hSw; (try dsimp only at hSw); go_simp; first | done | with_reducible rfl)
  (try simp only [Act.put, List.setIfInBounds_toArray, List.set_cons_zero, List.set_cons_succ])
  refine wpAnyH_take (i := 16) (oi := (Oper.mk (some 27) (Op.fieldAddr 69 (Operand.tmp 26) 3) 0 "fop.go:168" #[Edge.mk 15 Ground.data] none)) (v := ?_) rfl (by kernel_rfl) (by kernel_rfl) (by kernel_rfl) (fun _ _ _ h => h) (Or.inl ⟨by rfl, ?_⟩) (by assumption) ?_
  rotate_left
  · (intro w hSw; (try dsimp only at hSw); go_simp; first | done | with_reducible rfl)
  (try simp only [Act.put, List.setIfInBounds_toArray, List.set_cons_zero, List.set_cons_succ])
  refine wpAnyH_take (i := 17) (oi := (Oper.mk (some 28) (Op.load 3 (Operand.tmp 27)) 3 "fop.go:168" #[Edge.mk 16 Ground.data] none)) (v := ?_) rfl (by kernel_rfl) (by kernel_rfl) (by kernel_rfl) (fun _ _ _ h => h) (Or.inl ⟨by rfl, ?_⟩) (by assumption) ?_
  rotate_left
  · (intro w hSw; (try dsimp only at hSw); go_simp; first | done | with_reducible rfl)
  (try simp only [Act.put, List.setIfInBounds_toArray, List.set_cons_zero, List.set_cons_succ])
  refine wpAnyH_take (i := 18) (oi := (Oper.mk (some 29) (Op.move (Operand.tmp 0)) 25 "fop.go:168" #[] none)) (v := ?_) rfl (by kernel_rfl) (by kernel_rfl) (by kernel_rfl) (fun _ _ _ h => h) (Or.inl ⟨by rfl, ?_⟩) (by assumption) ?_
  rotate_left
  · (intro w hSw; (try dsimp only at hSw); go_simp; first | done | with_reducible rfl)
  (try simp only [Act.put, List.setIfInBounds_toArray, List.set_cons_zero, List.set_cons_succ])
  refine wpAnyH_take (i := 19) (oi := (Oper.mk (some 30) (Op.nilCheck (Operand.tmp 29)) 0 "fop.go:168" #[Edge.mk 18 Ground.data] none)) (v := ?_) rfl (by kernel_rfl) (by kernel_rfl) (by kernel_rfl) (fun _ _ _ h => h) (Or.inl ⟨by rfl, ?_⟩) (by assumption) ?_
  rotate_left
  · (intro w hSw; (try dsimp only at hSw); go_simp; first | done | with_reducible rfl)
  (try simp only [Act.put, List.setIfInBounds_toArray, List.set_cons_zero, List.set_cons_succ])
  refine wpAnyH_take (i := 20) (oi := (Oper.mk (some 31) (Op.fieldAddr 69 (Operand.tmp 30) 0) 0 "fop.go:168" #[Edge.mk 19 Ground.data] none)) (v := ?_) rfl (by kernel_rfl) (by kernel_rfl) (by kernel_rfl) (fun _ _ _ h => h) (Or.inl ⟨by rfl, ?_⟩) (by assumption) ?_
  rotate_left
  · (intro w hSw; (try dsimp only at hSw); go_simp; first | done | with_reducible rfl)
  (try simp only [Act.put, List.setIfInBounds_toArray, List.set_cons_zero, List.set_cons_succ])
  refine wpAnyH_take (i := 21) (oi := (Oper.mk (some 32) (Op.fieldAddr 67 (Operand.tmp 31) 2) 0 "fop.go:168" #[Edge.mk 20 Ground.data] none)) (v := ?_) rfl (by kernel_rfl) (by kernel_rfl) (by kernel_rfl) (fun _ _ _ h => h) (Or.inl ⟨by rfl, ?_⟩) (by assumption) ?_
  rotate_left
  · (intro w hSw; (try dsimp only at hSw); go_simp; first | done | with_reducible rfl)
  (try simp only [Act.put, List.setIfInBounds_toArray, List.set_cons_zero, List.set_cons_succ])
  refine wpAnyH_take (i := 22) (oi := (Oper.mk (some 33) (Op.load 3 (Operand.tmp 32)) 3 "fop.go:168" #[Edge.mk 21 Ground.data] none)) (v := ?_) rfl (by kernel_rfl) (by kernel_rfl) (by kernel_rfl) (fun _ _ _ h => h) (Or.inl ⟨by rfl, ?_⟩) (by assumption) ?_
  rotate_left
  · (intro w hSw; (try dsimp only at hSw); go_simp; first | done | with_reducible rfl)
  (try simp only [Act.put, List.setIfInBounds_toArray, List.set_cons_zero, List.set_cons_succ])
  refine wpAnyH_take (i := 23) (oi := (Oper.mk (some 34) (Op.binOp BinOp.rem 3 (Operand.tmp 33) (Operand.const (Value.int IntKind.i64 256)) 3) 3 "fop.go:168" #[Edge.mk 22 Ground.data] none)) (v := ?_) rfl (by kernel_rfl) (by kernel_rfl) (by kernel_rfl) (fun _ _ _ h => h) (Or.inl ⟨by rfl, ?_⟩) (by assumption) ?_
  rotate_left
  · (intro w hSw; (try dsimp only at hSw); go_simp; first | done | with_reducible rfl)
  (try simp only [Act.put, List.setIfInBounds_toArray, List.set_cons_zero, List.set_cons_succ])
  refine wpAnyH_ready (rs := [9]) (by kernel_rfl) (by simp) ?_
  refine AllReadyH.cons (o := (Oper.mk (some 20) (Op.call (Call.mk (Callee.value (Operand.func 39)) #[Operand.tmp 15, Operand.tmp 19] #[3, 3])) 33 "fop.go:168" #[Edge.mk 4 Ground.data, Edge.mk 8 Ground.data] none)) rfl (fun K hK => ?_) (AllReadyH.nil)
  go_simp
  (go_at_call 39; refine (tunlock_any _ _ _).mono ?_; rintro e w5 ⟨vu, rfl, hO5, hB5⟩; dsimp only [fmV, Fm.unlock]; obtain ⟨a5, n5, c5', rfl⟩ := own_slice hO5; have hB := undrew hB5; have c2 := (H3.out.below hB (Nat.le_refl _)).blk.at 2 rfl; have c6 := (H3.out.below hB (Nat.le_refl _)).blk.at 6 rfl; have c7 := (H3.out.below hB (Nat.le_refl _)).blk.at 7 rfl; have HB5 := Lib.hid hB; have HU5 := Lib.hid hO5; clear hO5 hB5 hB)
  refine hK.out _ _ (by (try dsimp only); first | with_reducible exact ⟨by with_reducible assumption, by with_reducible assumption, by with_reducible assumption⟩ | go_keep) (fun hHeld => ?_)
  clear hK K
  (try simp only [Act.put, List.setIfInBounds_toArray, List.set_cons_zero, List.set_cons_succ])
  refine wpAnyH_ready (rs := [24]) (by kernel_rfl) (by simp) ?_
  refine AllReadyH.cons (o := (Oper.mk (some 35) (Op.call (Call.mk (Callee.value (Operand.func 40)) #[Operand.tmp 24, Operand.tmp 28, Operand.tmp 34] #[3, 3, 3])) 33 "fop.go:168" #[Edge.mk 13 Ground.data, Edge.mk 17 Ground.data, Edge.mk 23 Ground.data, Edge.mk 9 Ground.chain] none)) rfl (fun K hK => ?_) (AllReadyH.nil)
  go_simp
  (go_at_call 40; rw [EM.out]; refine (tsetnext_any _ _ _ hm _).mono ?_; rintro e wz ⟨vs, rfl, hO6, hB6⟩; dsimp only [fmV, Fm.setNext]; obtain ⟨a6, n6, c6', rfl⟩ := own_slice hO6; have hB := HB5.out.trans (hB6.mono HB5.out.size); have c2 := (H3.out.below hB (Nat.le_refl _)).blk.at 2 rfl; have c6 := (H3.out.below hB (Nat.le_refl _)).blk.at 6 rfl; have c7 := (H3.out.below hB (Nat.le_refl _)).blk.at 7 rfl; have HBZ := Lib.hid hB; have HU : Hid (wz.ownsRow w3.heap.size 5 1 (.slice a5 n5 c5') 1 (encB [0])) := Lib.hid (own_below HU5.out hB6 (Nat.le_refl _)); have HS : Hid (wz.ownsRow w3.heap.size 5 1 (.slice a6 n6 c6') 3 (encB [130, 0, UInt8.ofNat (g.acked % 256)])) := Lib.hid (own_base hO6 HB5.out.size); clear hO6 hB6 hB)
  refine hK.out _ _ (by (try dsimp only); first | with_reducible exact ⟨by with_reducible assumption, by with_reducible assumption, by with_reducible assumption⟩ | go_keep) (fun hHeld => ?_)
  clear hK K
  (try simp only [Act.put, List.setIfInBounds_toArray, List.set_cons_zero, List.set_cons_succ])
  refine wpAnyH_ready (rs := [25]) (by kernel_rfl) (by simp) ?_
  refine AllReadyH.cons (o := (Oper.mk (some 36) (Op.buildSlice 52 2 #[(0, Operand.tmp 20), (1, Operand.tmp 35)]) 52 "fop.go:168" #[Edge.mk 9 Ground.data, Edge.mk 24 Ground.data] none)) rfl (fun K hK => ?_) (AllReadyH.nil)
  go_simp
  (have k25 : Blk (wz.alloc (.cells #[.bool true, .bool true, .int .i64 g.craft, .int .i64 g.chan, .int .i64 0, .slice a5 n5 c5', .bool true, .bool true, .int .i64 g.craft, .int .i64 g.chan, .int .i64 0, .slice a6 n6 c6'] 33)) b 69 _ := (H3.out.below HBZ.out (Nat.le_refl _)).blk.alloc (.cells #[.bool true, .bool true, .int .i64 g.craft, .int .i64 g.chan, .int .i64 0, .slice a5 n5 c5', .bool true, .bool true, .int .i64 g.craft, .int .i64 g.chan, .int .i64 0, .slice a6 n6 c6'] 33); have f11 := k25.free 11; have c11 := k25.at 11 rfl; have hltz := k25.lt; have c2 := k25.at 2 rfl; have c6 := k25.at 6 rfl; have c7 := k25.at 7 rfl; have K25 := Lib.hid k25; clear k25)
  refine hK.out _ _ (by (try dsimp only); first | with_reducible exact ⟨by with_reducible assumption, by with_reducible assumption, by with_reducible assumption⟩ | go_keep) (fun hHeld => ?_)
  clear hK K
  (try simp only [Act.put, List.setIfInBounds_toArray, List.set_cons_zero, List.set_cons_succ])
  refine wpAnyH_take (i := 26) (oi := (Oper.mk (some 37) (Op.nilCheck (Operand.tmp 11)) 0 "fop.go:168" #[Edge.mk 0 Ground.data, Edge.mk 0 Ground.phase, Edge.mk 1 Ground.phase, Edge.mk 2 Ground.phase, Edge.mk 3 Ground.phase, Edge.mk 4 Ground.phase, Edge.mk 5 Ground.phase, Edge.mk 6 Ground.phase, Edge.mk 7 Ground.phase, Edge.mk 8 Ground.phase, Edge.mk 9 Ground.phase, Edge.mk 10 Ground.phase, Edge.mk 11 Ground.phase, Edge.mk 12 Ground.phase, Edge.mk 13 Ground.phase, Edge.mk 14 Ground.phase, Edge.mk 15 Ground.phase, Edge.mk 16 Ground.phase, Edge.mk 17 Ground.phase, Edge.mk 18 Ground.phase, Edge.mk 19 Ground.phase, Edge.mk 20 Ground.phase, Edge.mk 21 Ground.phase, Edge.mk 22 Ground.phase, Edge.mk 23 Ground.phase, Edge.mk 24 Ground.phase, Edge.mk 25 Ground.phase] none)) (v := ?_) rfl (by kernel_rfl) (by kernel_rfl) (by kernel_rfl) (fun _ _ _ h => h) (Or.inl ⟨by rfl, ?_⟩) (by assumption) ?_
  rotate_left
  · (intro w hSw; (try dsimp only at hSw); go_simp; first | done | with_reducible rfl)
  (try simp only [Act.put, List.setIfInBounds_toArray, List.set_cons_zero, List.set_cons_succ])
  refine wpAnyH_take (i := 27) (oi := (Oper.mk (some 38) (Op.fieldAddr 69 (Operand.tmp 37) 7) 0 "fop.go:168" #[Edge.mk 26 Ground.data, Edge.mk 0 Ground.phase, Edge.mk 1 Ground.phase, Edge.mk 2 Ground.phase, Edge.mk 3 Ground.phase, Edge.mk 4 Ground.phase, Edge.mk 5 Ground.phase, Edge.mk 6 Ground.phase, Edge.mk 7 Ground.phase, Edge.mk 8 Ground.phase, Edge.mk 9 Ground.phase, Edge.mk 10 Ground.phase, Edge.mk 11 Ground.phase, Edge.mk 12 Ground.phase, Edge.mk 13 Ground.phase, Edge.mk 14 Ground.phase, Edge.mk 15 Ground.phase, Edge.mk 16 Ground.phase, Edge.mk 17 Ground.phase, Edge.mk 18 Ground.phase, Edge.mk 19 Ground.phase, Edge.mk 20 Ground.phase, Edge.mk 21 Ground.phase, Edge.mk 22 Ground.phase, Edge.mk 23 Ground.phase, Edge.mk 24 Ground.phase, Edge.mk 25 Ground.phase] none)) (v := ?_) rfl (by kernel_rfl) (by kernel_rfl) (by kernel_rfl) (fun _ _ _ h => h) (Or.inl ⟨by rfl, ?_⟩) (by assumption) ?_
  rotate_left
  · (intro w hSw; (try dsimp only at hSw); go_simp; first | done | with_reducible rfl)
  (try simp only [Act.put, List.setIfInBounds_toArray, List.set_cons_zero, List.set_cons_succ])
  refine wpAnyH_ready (rs := [28]) (by kernel_rfl) (by simp) ?_
  refine AllReadyH.cons (o := (Oper.mk none (Op.store 52 (Operand.tmp 38) (Operand.tmp 36)) 0 "fop.go:168" #[Edge.mk 27 Ground.data, Edge.mk 25 Ground.data, Edge.mk 24 Ground.chain, Edge.mk 0 Ground.phase, Edge.mk 1 Ground.phase, Edge.mk 2 Ground.phase, Edge.mk 3 Ground.phase, Edge.mk 4 Ground.phase, Edge.mk 5 Ground.phase, Edge.mk 6 Ground.phase, Edge.mk 7 Ground.phase, Edge.mk 8 Ground.phase, Edge.mk 9 Ground.phase, Edge.mk 10 Ground.phase, Edge.mk 11 Ground.phase, Edge.mk 12 Ground.phase, Edge.mk 13 Ground.phase, Edge.mk 14 Ground.phase, Edge.mk 15 Ground.phase, Edge.mk 16 Ground.phase, Edge.mk 17 Ground.phase, Edge.mk 18 Ground.phase, Edge.mk 19 Ground.phase, Edge.mk 20 Ground.phase, Edge.mk 21 Ground.phase, Edge.mk 22 Ground.phase, Edge.mk 23 Ground.phase, Edge.mk 24 Ground.phase, Edge.mk 25 Ground.phase] none)) rfl (fun K hK => ?_) (AllReadyH.nil)
  go_simp
  (have k28 := K25.out.setCell 11 (.slice (some ⟨wz.heap.size, 0, none⟩) 2 2); have c2 := k28.at 2 rfl; have c6 := k28.at 6 rfl; have c7 := k28.at 7 rfl; have K28 := Lib.hid k28; clear k28)
  refine hK.out _ _ (by (try dsimp only); first | with_reducible exact ⟨by with_reducible assumption, by with_reducible assumption, by with_reducible assumption⟩ | go_keep) (fun hHeld => ?_)
  clear hK K
  (try simp only [Act.put, List.setIfInBounds_toArray, List.set_cons_zero, List.set_cons_succ])
  refine wpAnyH_done (by kernel_rfl) ?_ _
  obtain ⟨w8, hw8⟩ : ∃ w8, w8 = (wz.alloc (.cells #[.bool true, .bool true, .int .i64 g.craft, .int .i64 g.chan, .int .i64 0, .slice a5 n5 c5', .bool true, .bool true, .int .i64 g.craft, .int .i64 g.chan, .int .i64 0, .slice a6 n6 c6'] 33)).setCell ⟨b, 11, none⟩ (.slice (some ⟨wz.heap.size, 0, none⟩) 2 2) := ⟨_, rfl⟩
  rw [← hw8]
  obtain ⟨g8, hg8⟩ : ∃ g8, g8 = { g with ctls := [Fm.unlock g.craft g.chan, Fm.setNext g.craft g.chan (g.acked % 256)] } := ⟨_, rfl⟩
  have hcz : CAt w8 (Av X b (.slice au us.length cu)) (.slice (some ⟨wz.heap.size, 0, none⟩) 2 2) g8.ctls := by rw [hw8, hg8]; exact unl_ctl H3.out HBZ.out HU.out HS.out
  have hk8 : Blk w8 b 69 (fcells g8 (.slice au us.length cu) (.slice (some ⟨wz.heap.size, 0, none⟩) 2 2)) := by rw [hw8, hg8]; exact Blk.cast K28.out rfl
  have hfz : Fr (fun k => k = b) (wz.alloc (.cells #[.bool true, .bool true, .int .i64 g.craft, .int .i64 g.chan, .int .i64 0, .slice a5 n5 c5', .bool true, .bool true, .int .i64 g.craft, .int .i64 g.chan, .int .i64 0, .slice a6 n6 c6'] 33)) w8 := by rw [hw8]; exact frs (Fr.refl _ _) _ _
  have HBA : Below wz.heap.size wz (wz.alloc (.cells #[.bool true, .bool true, .int .i64 g.craft, .int .i64 g.chan, .int .i64 0, .slice a5 n5 c5', .bool true, .bool true, .int .i64 g.craft, .int .i64 g.chan, .int .i64 0, .slice a6 n6 c6'] 33)) := al (Below.refl _ _) _
  have H8 : Hid (FAt w8 X b g8 (.slice au us.length cu) (.slice (some ⟨wz.heap.size, 0, none⟩) 2 2)) := Lib.hid (((H3.out.below HBZ.out (Nat.le_refl _)).below HBA (Nat.le_refl _)).ctl_new hk8 hfz (by rw [hg8]) hcz)
  have HF8 : Hid (Fr (fun k => k = b) w w8) := Lib.hid (((HF3.out.below HBZ.out (Nat.le_refl _)).below HBA (Nat.le_refl _)).trans hfz)
  have HG8 := Lib.hid hg8
  have ev : (Value.slice (some ⟨wz.heap.size, 0, none⟩) 2 2) = (Value.slice (some ⟨wz.heap.size, 0, none⟩) 2 2) := rfl
  obtain ⟨zs, hzs⟩ : ∃ zs, zs = wz.heap.size := ⟨_, rfl⟩
  rw [← hzs] at H8
  rw [← hzs]
  clear hw8 hg8 hcz hk8 hfz HBA K28 K25 HU HS HBZ hzs ev HB5 HU5 c2 c6 c7 f11 c11 hltz
  go_wp2_with fail
  refine (repeat_any b g8 _ _ _ H8.out.blk).mono ?_
  rintro e w9 ⟨rfl, hk9, hf9⟩
  have H9 : Hid (FAt w9 X b { g8 with flight := 0 } _ _) := Lib.hid (H8.out.put hk9 hf9 rfl rfl)
  have HF9 := Lib.hid (HF8.out.trans hf9)
  have d4 := hk9.at 4 rfl
  have d10 := hk9.at 10 rfl
  have d12 := hk9.at 12 rfl
  have d13 := hk9.at 13 rfl
  have d14 := hk9.at 14 rfl
  have f4 := hk9.free 4
  have f10 := hk9.free 10
  have f13 := hk9.free 13
  have f14 := hk9.free 14
  have hlt9 := hk9.lt
  clear hk9 hf9
  go_wp2_with (go_region)
  go_ret
  have hfr : Fr (fun k => k = b) w9 ((((w9.setCell ⟨b, 4, none⟩ (.int .i64 0)).setCell ⟨b, 14, none⟩ (.int .i64 0)).setCell ⟨b, 13, none⟩ (.int .i64 g8.now)).setCell ⟨b, 10, none⟩ (.int .i64 1)) := frs (frs (frs (frs (Fr.refl _ _) _ _) _ _) _ _) _ _
  refine ⟨rfl, _, H9.out.put (Blk.cast ((((H9.out.blk.setCell 4 _).setCell 14 _).setCell 13 _).setCell 10 _) ?_) hfr ?_ ?_, HF9.out.trans hfr⟩
  all_goals (rw [HG8.out]; rfl)
/-! ### sending ends that were not made by New -/
theorem Dead.below {w w' : World} {p : Option Addr} {B : Nat} (h : Dead w p) (hb : Below B w w') (hl : ∀ a, p = some a → a.block < B) : Dead w' p := by
  rcases h with h | ⟨b, h1, h2⟩
  · exact .inl h
  · exact .inr ⟨b, h1, by rw [hb.cell (p := ⟨b, 5, none⟩) (hl ⟨b, 0, none⟩ h1)]; exact h2⟩
theorem send_dead (p : Option Addr) (v : Value) (w : World) (h : Dead w p) : Calls Try.prog 10 #[.pointer p, v] w fun e w' => e = .returned (.int .i64 2) ∧ w' = w := by
  have H := Lib.hid h
  clear h
  go_enter Try.func10, Try.ntmps10
  go_wp2_with (go_at_call 30; refine (usable_dead p w H.out).mono ?_; rintro e w2 ⟨rfl, hw⟩; obtain rfl := hw.symm)
  go_ret
  exact ⟨rfl, rfl⟩
theorem report_dead (p : Option Addr) (c : Cw) (t : Int) (w : World) (h : Dead w p) : Calls Try.prog 15 #[.pointer p, cwV c, .int .i64 t] w fun e w' => e = .returned (.int .i64 2) ∧ Below w.heap.size w w' := by
  have hd : Dead (w.alloc (.cells #[.int .i64 c.chan, .bool c.lock, .bool c.wait, .bool c.retr, .int .i64 c.byp, .int .i64 c.next] 40)) p := by
    rcases h with h | ⟨b, h1, h2⟩
    · exact .inl h
    · exact .inr ⟨b, h1, by rw [World.cell?_alloc_some _ _ _ (by rw [h2]; rfl)]; exact h2⟩
  have H := Lib.hid hd
  unfold cwV
  clear h hd
  go_enter Try.func15, Try.ntmps15
  go_wp2_with (go_at_call 30; refine (usable_dead p _ H.out).mono ?_; rintro e w2 ⟨rfl, hw⟩; obtain rfl := hw)
  go_ret
  exact ⟨rfl, al (Below.refl _ _) _⟩
theorem unlock_dead (p : Option Addr) (t : Int) (w : World) (h : Dead w p) : Calls Try.prog 19 #[.pointer p, .int .i64 t] w fun e w' => e = .returned (.int .i64 2) ∧ w' = w := by
  have H := Lib.hid h
  clear h
  go_enter Try.func19, Try.ntmps19
  go_wp2_with (go_at_call 30; refine (usable_dead p w H.out).mono ?_; rintro e w2 ⟨rfl, hw⟩; obtain rfl := hw.symm)
  go_ret
  exact ⟨rfl, rfl⟩
theorem state_dead (p : Option Addr) (w : World) (h : Dead w p) : Calls Try.prog 17 #[.pointer p] w fun e w' => e = .returned (.int .i64 0) ∧ w' = w := by
  have H := Lib.hid h
  clear h
  go_enter Try.func17, Try.ntmps17
  go_wp2_with (go_at_call 30; refine (usable_dead p w H.out).mono ?_; rintro e w2 ⟨rfl, hw⟩; obtain rfl := hw.symm)
  go_ret
  exact ⟨rfl, rfl⟩
theorem queued_dead (p : Option Addr) (w : World) (h : Dead w p) : Calls Try.prog 11 #[.pointer p] w fun e w' => e = .returned (.int .i64 0) ∧ w' = w := by
  have H := Lib.hid h
  clear h
  go_enter Try.func11, Try.ntmps11
  go_wp2_with (go_at_call 30; refine (usable_dead p w H.out).mono ?_; rintro e w2 ⟨rfl, hw⟩; obtain rfl := hw.symm)
  go_ret
  exact ⟨rfl, rfl⟩
theorem acked_dead (p : Option Addr) (w : World) (h : Dead w p) : Calls Try.prog 16 #[.pointer p] w fun e w' => e = .returned (.int .i64 0) ∧ w' = w := by
  have H := Lib.hid h
  clear h
  go_enter Try.func16, Try.ntmps16
  go_wp2_with (go_at_call 30; refine (usable_dead p w H.out).mono ?_; rintro e w2 ⟨rfl, hw⟩; obtain rfl := hw.symm)
  go_ret
  exact ⟨rfl, rfl⟩
theorem clone_dead (p : Option Addr) (w : World) (h : Dead w p) : Calls Try.prog 28 #[.pointer p] w fun e w' => e = .returned (.pointer none) ∧ w' = w := by
  have H := Lib.hid h
  clear h
  go_enter Try.func28, Try.ntmps28
  go_wp2_with (go_at_call 30; refine (usable_dead p w H.out).mono ?_; rintro e w2 ⟨rfl, hw⟩; obtain rfl := hw.symm)
  go_ret
  exact ⟨rfl, rfl⟩
theorem next_dead (p : Option Addr) (t : Int) (w : World) (h : Dead w p) : Calls Try.prog 12 #[.pointer p, .int .i64 t] w fun e w' => e = .returned (.tuple #[fmV Fm.zero (.slice none 0 0), .bool false]) ∧ Below w.heap.size w w' := by
  have hd : Dead (w.alloc (.cells #[.bool false, .bool false, .int .i64 0, .int .i64 0, .int .i64 0, .slice none 0 0] 33)) p := by
    rcases h with h | ⟨b, h1, h2⟩
    · exact .inl h
    · exact .inr ⟨b, h1, by rw [World.cell?_alloc_some _ _ _ (by rw [h2]; rfl)]; exact h2⟩
  have H := Lib.hid hd
  clear h hd
  go_enter Try.func12, Try.ntmps12
  go_wp2_with (go_at_call 30; refine (usable_dead p _ H.out).mono ?_; rintro e w2 ⟨rfl, hw⟩; obtain rfl := hw)
  exact bodyPost_ret (v := .tuple #[fmV Fm.zero (.slice none 0 0), .bool false]) (by simp [results, Try.results12, go_sem, fmV, Fm.zero]) rfl ⟨rfl, al (Below.refl _ _) _⟩
end Go.Proofs.Ytjiejpklcjpibaa

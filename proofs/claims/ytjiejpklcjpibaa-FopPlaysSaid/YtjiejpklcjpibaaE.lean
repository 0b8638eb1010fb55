/- The sending end in memory; contracts of its small functions. No condition. -/
import Derived.Test.YtjiejpklcjpibaaP
import Derived.Test.YtjiejpklcjpibaaO
import Derived.Outline
namespace Go.Proofs.Ytjiejpklcjpibaa
open Go.RowKit Go.Deep Go.ChangeShapes Go.WideShapes Go.ChangeAt
set_option linter.unusedVariables false

theorem clamp1_any (n lo hi : Int) (w : World) : Calls Try.prog 29 #[.int .i64 n, .int .i64 lo, .int .i64 hi] w fun e w' => e = .returned (.int .i64 (clampI n lo hi)) ∧ w' = w := by
  go_enter Try.func29, Try.ntmps29
  go_wp2
  all_goals
    go_ret
    exact ⟨ret_int (by unfold clampI; omega), rfl⟩
theorem frs {a w : World} {b : Nat} (h : Fr (fun k => k = b) a w) (i : Nat) (u : Value) : Fr (fun k => k = b) a (w.setCell ⟨b, i, none⟩ u) := h.set1 u (.inl rfl)
theorem own_low {w : World} {base n s b : Nat} {e : TypeId} {v : Value} {xs : List Value} (h : w.ownsRow base e s v n xs) (hb : b < base) (i : Nat) (u : Value) : (w.setCell ⟨b, i, none⟩ u).ownsRow base e s v n xs :=
  own_set h (fun e => by have := (h.lt b e).1; omega) u
def fcells (f : FS) (vU vC : Value) : List Value := [.int .i64 (f.size : Int), vU, .int .i64 (f.acked : Int), .int .i64 (f.flight : Int), .int .i64 (f.front : Int), .bool true, .int .i64 f.craft, .int .i64 f.chan, .int .i64 f.tmo, .int .i64 (f.ret : Int), .int .i64 (f.state : Int), vC, .int .i64 f.now, .int .i64 f.timer, .int .i64 (f.count : Int)]
/-- a sending end that was not made by New -/
def Dead (w : World) (p : Option Addr) : Prop := p = none ∨ ∃ b, p = some ⟨b, 0, none⟩ ∧ w.cell? ⟨b, 5, none⟩ = some (.bool false)
theorem usable_any (b : Nat) (w : World) (h : w.cell? ⟨b, 5, none⟩ = some (.bool true)) : Calls Try.prog 30 #[.pointer (some ⟨b, 0, none⟩)] w fun e w' => e = .returned (.bool true) ∧ w' = w := by
  go_enter Try.func30, Try.ntmps30
  go_wp2
  go_ret
  exact ⟨rfl, rfl⟩
theorem usable_dead (p : Option Addr) (w : World) (h : Dead w p) : Calls Try.prog 30 #[.pointer p] w fun e w' => e = .returned (.bool false) ∧ w' = w := by
  rcases h with rfl | ⟨b, rfl, h⟩
  · go_enter Try.func30, Try.ntmps30
    go_wp2
    go_ret
    exact ⟨rfl, rfl⟩
  · go_enter Try.func30, Try.ntmps30
    go_wp2
    go_ret
    exact ⟨rfl, rfl⟩
theorem clock_any (b : Nat) (f : FS) (vU vC : Value) (t : Int) (w : World) (h : Blk w b 69 (fcells f vU vC)) : Calls Try.prog 32 #[.pointer (some ⟨b, 0, none⟩), .int .i64 t] w fun e w' => e = .returned (.tuple #[]) ∧ Blk w' b 69 (fcells (f.clock t) vU vC) ∧ Fr (fun k => k = b) w w' := by
  have c12 := h.at 12 rfl
  have f12 := h.free 12
  have hlt := h.lt
  have H := Lib.hid h
  clear h
  by_cases ht : t ≤ 1099511627776
  · by_cases hm : f.now < t
    · have HF : Hid (f.clock t = { f with now := t }) := Lib.hid (by unfold FS.clock; rw [if_pos ht, Int.max_eq_right (by omega)])
      go_enter Try.func32, Try.ntmps32
      go_wp2_with fail
      go_end0
      exact ⟨rfl, by rw [HF.out]; exact H.out.setCell 12 _, (Fr.refl _ _).set1 _ (by exact .inl rfl)⟩
    · have HF : Hid (f.clock t = f) := Lib.hid (by unfold FS.clock; rw [if_pos ht, Int.max_eq_left (by omega)])
      go_enter Try.func32, Try.ntmps32
      go_wp2_with fail
      go_end0
      exact ⟨rfl, by rw [HF.out]; exact H.out.setCell 12 _, (Fr.refl _ _).set1 _ (by exact .inl rfl)⟩
  · have HF : Hid (f.clock t = f) := Lib.hid (by unfold FS.clock; rw [if_neg ht])
    go_enter Try.func32, Try.ntmps32
    go_wp2_with fail
    go_end0
    exact ⟨rfl, by rw [HF.out]; exact H.out, Fr.refl _ _⟩
theorem repeat_any (b : Nat) (f : FS) (vU vC : Value) (w : World) (h : Blk w b 69 (fcells f vU vC)) : Calls Try.prog 34 #[.pointer (some ⟨b, 0, none⟩)] w fun e w' => e = .returned (.tuple #[]) ∧ Blk w' b 69 (fcells { f with flight := 0 } vU vC) ∧ Fr (fun k => k = b) w w' := by
  have c3 := h.at 3 rfl
  have f3 := h.free 3
  have hlt := h.lt
  have H := Lib.hid h
  clear h
  go_enter Try.func34, Try.ntmps34
  go_wp2_with fail
  go_end0
  exact ⟨rfl, H.out.setCell 3 _, (Fr.refl _ _).set1 _ (by exact .inl rfl)⟩
theorem waiting_any (b : Nat) (f : FS) (a : Option Addr) (cap : Nat) (vC : Value) (w : World) (h : Blk w b 69 (fcells f (.slice a f.units.length cap) vC)) : Calls Try.prog 33 #[.pointer (some ⟨b, 0, none⟩)] w fun e w' => e = .returned (.bool (decide (f.flight < min f.size f.units.length))) ∧ Quiet w w' := by
  have c0 := h.at 0 rfl
  have c1 := h.at 1 rfl
  have c3 := h.at 3 rfl
  have hlt := h.lt
  clear h
  go_enter Try.func33, Try.ntmps33
  go_wp2_with (go_quiet (fail))
  all_goals
    go_ret
    refine ⟨ret_bool ?_, ⟨_, rfl⟩⟩
    rw [Bool.eq_iff_iff]
    simp only [decide_eq_true_eq]
    omega
/-- take, where a unit is due -/
theorem take_any (b : Nat) (f : FS) (vC : Value) (a : Option Addr) (cap : Nat) (us : List Value) (X : Nat → Prop) (w : World) (h : Blk w b 69 (fcells f (.slice a f.units.length cap) vC)) (hu : VAt w a us) (hs : Sls w X us f.units) (ok : f.Ok) (hA : f.acked ≤ 1000000000) (hd : f.flight < f.units.length) :
    Calls Try.prog 35 #[.pointer (some ⟨b, 0, none⟩)] w fun e w' => ∃ v, e = .returned (.tuple #[.int .i64 (((f.acked + f.flight) % 256 : Nat) : Int), v]) ∧ Blk w' b 69 (fcells { f with flight := f.flight + 1, front := max f.front (f.flight + 1) } (.slice a f.units.length cap) vC) ∧ w'.ownsRow w.heap.size 5 1 v (f.units.getD f.flight []).length (encB (f.units.getD f.flight [])) ∧ Fr (fun k => k = b) w w' := by
  have c1 := h.at 1 rfl
  have c2 := h.at 2 rfl
  have c3 := h.at 3 rfl
  have c4 := h.at 4 rfl
  have f3 := h.free 3
  have f4 := h.free 4
  have hlt := h.lt
  have H := Lib.hid h
  have h1 := ok.flight
  have h2 := ok.front
  have h3 := ok.size
  obtain ⟨u, hu1, hu2⟩ := hs.2 f.flight hd
  obtain ⟨ob, oo, rfl, hob, hoc⟩ := hu.get (i := f.flight) (by rw [hs.1]; exact hd)
  rw [List.getElem?_eq_getElem (by rw [hs.1]; exact hd)] at hu1
  rw [Option.some.inj hu1] at hoc
  obtain ⟨au, cu, rfl, hcu, hmu, hbu, -⟩ := hu2
  obtain ⟨x, hx⟩ : ∃ x, x = f.units[f.flight] := ⟨_, rfl⟩
  have hxl : x.length ≤ 1017 := by rw [hx]; exact (ok.len _ (List.getElem_mem hd)).2
  rw [show f.units.getD f.flight [] = x by rw [hx]; simp [hd]]
  rw [← hx] at hoc hcu hbu
  have HBU := Lib.hid hbu
  clear h hu1 hu hs hbu hx
  obtain ⟨q, hq⟩ : ∃ q, q = (f.acked + f.flight) % 256 := ⟨_, rfl⟩
  have eq1 : (IntKind.i64.wrap ((f.acked : Int) + (f.flight : Int))).tmod 256 = (q : Int) := by rw [IntWalk.i64_in _ (by omega), Int.tmod_eq_emod_of_nonneg (by omega)]; omega
  have HQ := Lib.hid hq
  rw [← hq]
  clear hq
  go_enter Try.func35, Try.ntmps35
  go_wp2_with fail
  refine wp_region_held_drew (S := (fun w' => w'.cell? ⟨b, 1, none⟩ = some (.slice (some ⟨ob, oo, none⟩) f.units.length cap) ∧ w'.cell? ⟨b, 2, none⟩ = some (.int .i64 (f.acked : Int)) ∧ w'.cell? ⟨b, 3, none⟩ = some (.int .i64 (f.flight : Int)) ∧ w'.cell? ⟨ob, oo + f.flight, none⟩ = some (.slice au x.length cu))) (by kernel_rfl) (by (try dsimp only); first | exact ⟨by assumption, by assumption, by assumption, by assumption⟩ | go_keep) (fun hHeld => ?_)
  refine wpAnyH_take (i := 0) (oi := (Oper.mk (some 4) (Op.move (Operand.tmp 0)) 79 "fop.go:34" #[] none)) (v := ?_) rfl (by kernel_rfl) (by kernel_rfl) (by kernel_rfl) (fun _ _ _ h => h) (Or.inl ⟨by rfl, ?_⟩) (by assumption) ?_
  rotate_left
  · (intro w hSw; (try dsimp only at hSw); go_simp; first | done | with_reducible rfl)
  (try simp only [Act.put, List.setIfInBounds_toArray, List.set_cons_zero, List.set_cons_succ])
  refine wpAnyH_take (i := 1) (oi := (Oper.mk (some 5) (Op.nilCheck (Operand.tmp 4)) 0 "fop.go:34" #[Edge.mk 0 Ground.data] none)) (v := ?_) rfl (by kernel_rfl) (by kernel_rfl) (by kernel_rfl) (fun _ _ _ h => h) (Or.inl ⟨by rfl, ?_⟩) (by assumption) ?_
  rotate_left
  · (intro w hSw; (try dsimp only at hSw); go_simp; first | done | with_reducible rfl)
  (try simp only [Act.put, List.setIfInBounds_toArray, List.set_cons_zero, List.set_cons_succ])
  refine wpAnyH_take (i := 2) (oi := (Oper.mk (some 6) (Op.fieldAddr 67 (Operand.tmp 5) 2) 0 "fop.go:34" #[Edge.mk 1 Ground.data] none)) (v := ?_) rfl (by kernel_rfl) (by kernel_rfl) (by kernel_rfl) (fun _ _ _ h => h) (Or.inl ⟨by rfl, ?_⟩) (by assumption) ?_
  rotate_left
  · (intro w hSw; (try dsimp only at hSw); go_simp; first | done | with_reducible rfl)
  (try simp only [Act.put, List.setIfInBounds_toArray, List.set_cons_zero, List.set_cons_succ])
  refine wpAnyH_take (i := 3) (oi := (Oper.mk (some 7) (Op.load 3 (Operand.tmp 6)) 3 "fop.go:34" #[Edge.mk 2 Ground.data] none)) (v := ?_) rfl (by kernel_rfl) (by kernel_rfl) (by kernel_rfl) (fun _ _ _ h => h) (Or.inl ⟨by rfl, ?_⟩) (by assumption) ?_
  rotate_left
  · (intro w hSw; (try dsimp only at hSw); go_simp; first | done | with_reducible rfl)
  (try simp only [Act.put, List.setIfInBounds_toArray, List.set_cons_zero, List.set_cons_succ])
  refine wpAnyH_take (i := 4) (oi := (Oper.mk (some 8) (Op.move (Operand.tmp 0)) 79 "fop.go:34" #[] none)) (v := ?_) rfl (by kernel_rfl) (by kernel_rfl) (by kernel_rfl) (fun _ _ _ h => h) (Or.inl ⟨by rfl, ?_⟩) (by assumption) ?_
  rotate_left
  · (intro w hSw; (try dsimp only at hSw); go_simp; first | done | with_reducible rfl)
  (try simp only [Act.put, List.setIfInBounds_toArray, List.set_cons_zero, List.set_cons_succ])
  refine wpAnyH_take (i := 5) (oi := (Oper.mk (some 9) (Op.nilCheck (Operand.tmp 8)) 0 "fop.go:34" #[Edge.mk 4 Ground.data] none)) (v := ?_) rfl (by kernel_rfl) (by kernel_rfl) (by kernel_rfl) (fun _ _ _ h => h) (Or.inl ⟨by rfl, ?_⟩) (by assumption) ?_
  rotate_left
  · (intro w hSw; (try dsimp only at hSw); go_simp; first | done | with_reducible rfl)
  (try simp only [Act.put, List.setIfInBounds_toArray, List.set_cons_zero, List.set_cons_succ])
  refine wpAnyH_take (i := 6) (oi := (Oper.mk (some 10) (Op.fieldAddr 67 (Operand.tmp 9) 3) 0 "fop.go:34" #[Edge.mk 5 Ground.data] none)) (v := ?_) rfl (by kernel_rfl) (by kernel_rfl) (by kernel_rfl) (fun _ _ _ h => h) (Or.inl ⟨by rfl, ?_⟩) (by assumption) ?_
  rotate_left
  · (intro w hSw; (try dsimp only at hSw); go_simp; first | done | with_reducible rfl)
  (try simp only [Act.put, List.setIfInBounds_toArray, List.set_cons_zero, List.set_cons_succ])
  refine wpAnyH_take (i := 7) (oi := (Oper.mk (some 11) (Op.load 3 (Operand.tmp 10)) 3 "fop.go:34" #[Edge.mk 6 Ground.data] none)) (v := ?_) rfl (by kernel_rfl) (by kernel_rfl) (by kernel_rfl) (fun _ _ _ h => h) (Or.inl ⟨by rfl, ?_⟩) (by assumption) ?_
  rotate_left
  · (intro w hSw; (try dsimp only at hSw); go_simp; first | done | with_reducible rfl)
  (try simp only [Act.put, List.setIfInBounds_toArray, List.set_cons_zero, List.set_cons_succ])
  refine wpAnyH_take (i := 8) (oi := (Oper.mk (some 12) (Op.binOp BinOp.add 3 (Operand.tmp 7) (Operand.tmp 11) 3) 3 "fop.go:34" #[Edge.mk 3 Ground.data, Edge.mk 7 Ground.data] none)) (v := ?_) rfl (by kernel_rfl) (by kernel_rfl) (by kernel_rfl) (fun _ _ _ h => h) (Or.inl ⟨by rfl, ?_⟩) (by assumption) ?_
  rotate_left
  · (intro w hSw; (try dsimp only at hSw); go_simp; first | done | with_reducible rfl)
  (try simp only [Act.put, List.setIfInBounds_toArray, List.set_cons_zero, List.set_cons_succ])
  refine wpAnyH_take (i := 9) (oi := (Oper.mk (some 13) (Op.binOp BinOp.rem 3 (Operand.tmp 12) (Operand.const (Value.int IntKind.i64 256)) 3) 3 "fop.go:34" #[Edge.mk 8 Ground.data] none)) (v := ?_) rfl (by kernel_rfl) (by kernel_rfl) (by kernel_rfl) (fun _ _ _ h => h) (Or.inl ⟨by rfl, ?_⟩) (by assumption) ?_
  rotate_left
  · (intro w hSw; (try dsimp only at hSw); go_simp; first | done | with_reducible rfl)
  (try simp only [Act.put, List.setIfInBounds_toArray, List.set_cons_zero, List.set_cons_succ])
  refine wpAnyH_take (i := 10) (oi := (Oper.mk (some 14) (Op.move (Operand.tmp 0)) 79 "fop.go:34" #[] none)) (v := ?_) rfl (by kernel_rfl) (by kernel_rfl) (by kernel_rfl) (fun _ _ _ h => h) (Or.inl ⟨by rfl, ?_⟩) (by assumption) ?_
  rotate_left
  · (intro w hSw; (try dsimp only at hSw); go_simp; first | done | with_reducible rfl)
  (try simp only [Act.put, List.setIfInBounds_toArray, List.set_cons_zero, List.set_cons_succ])
  refine wpAnyH_take (i := 11) (oi := (Oper.mk (some 15) (Op.nilCheck (Operand.tmp 14)) 0 "fop.go:34" #[Edge.mk 10 Ground.data] none)) (v := ?_) rfl (by kernel_rfl) (by kernel_rfl) (by kernel_rfl) (fun _ _ _ h => h) (Or.inl ⟨by rfl, ?_⟩) (by assumption) ?_
  rotate_left
  · (intro w hSw; (try dsimp only at hSw); go_simp; first | done | with_reducible rfl)
  (try simp only [Act.put, List.setIfInBounds_toArray, List.set_cons_zero, List.set_cons_succ])
  refine wpAnyH_take (i := 12) (oi := (Oper.mk (some 16) (Op.fieldAddr 67 (Operand.tmp 15) 1) 0 "fop.go:34" #[Edge.mk 11 Ground.data] none)) (v := ?_) rfl (by kernel_rfl) (by kernel_rfl) (by kernel_rfl) (fun _ _ _ h => h) (Or.inl ⟨by rfl, ?_⟩) (by assumption) ?_
  rotate_left
  · (intro w hSw; (try dsimp only at hSw); go_simp; first | done | with_reducible rfl)
  (try simp only [Act.put, List.setIfInBounds_toArray, List.set_cons_zero, List.set_cons_succ])
  refine wpAnyH_take (i := 13) (oi := (Oper.mk (some 17) (Op.load 22 (Operand.tmp 16)) 22 "fop.go:34" #[Edge.mk 12 Ground.data] none)) (v := ?_) rfl (by kernel_rfl) (by kernel_rfl) (by kernel_rfl) (fun _ _ _ h => h) (Or.inl ⟨by rfl, ?_⟩) (by assumption) ?_
  rotate_left
  · (intro w hSw; (try dsimp only at hSw); go_simp; first | done | with_reducible rfl)
  (try simp only [Act.put, List.setIfInBounds_toArray, List.set_cons_zero, List.set_cons_succ])
  refine wpAnyH_take (i := 14) (oi := (Oper.mk (some 18) (Op.move (Operand.tmp 0)) 79 "fop.go:34" #[] none)) (v := ?_) rfl (by kernel_rfl) (by kernel_rfl) (by kernel_rfl) (fun _ _ _ h => h) (Or.inl ⟨by rfl, ?_⟩) (by assumption) ?_
  rotate_left
  · (intro w hSw; (try dsimp only at hSw); go_simp; first | done | with_reducible rfl)
  (try simp only [Act.put, List.setIfInBounds_toArray, List.set_cons_zero, List.set_cons_succ])
  refine wpAnyH_take (i := 15) (oi := (Oper.mk (some 19) (Op.nilCheck (Operand.tmp 18)) 0 "fop.go:34" #[Edge.mk 14 Ground.data] none)) (v := ?_) rfl (by kernel_rfl) (by kernel_rfl) (by kernel_rfl) (fun _ _ _ h => h) (Or.inl ⟨by rfl, ?_⟩) (by assumption) ?_
  rotate_left
  · (intro w hSw; (try dsimp only at hSw); go_simp; first | done | with_reducible rfl)
  (try simp only [Act.put, List.setIfInBounds_toArray, List.set_cons_zero, List.set_cons_succ])
  refine wpAnyH_take (i := 16) (oi := (Oper.mk (some 20) (Op.fieldAddr 67 (Operand.tmp 19) 3) 0 "fop.go:34" #[Edge.mk 15 Ground.data] none)) (v := ?_) rfl (by kernel_rfl) (by kernel_rfl) (by kernel_rfl) (fun _ _ _ h => h) (Or.inl ⟨by rfl, ?_⟩) (by assumption) ?_
  rotate_left
  · (intro w hSw; (try dsimp only at hSw); go_simp; first | done | with_reducible rfl)
  (try simp only [Act.put, List.setIfInBounds_toArray, List.set_cons_zero, List.set_cons_succ])
  refine wpAnyH_take (i := 17) (oi := (Oper.mk (some 21) (Op.load 3 (Operand.tmp 20)) 3 "fop.go:34" #[Edge.mk 16 Ground.data] none)) (v := ?_) rfl (by kernel_rfl) (by kernel_rfl) (by kernel_rfl) (fun _ _ _ h => h) (Or.inl ⟨by rfl, ?_⟩) (by assumption) ?_
  rotate_left
  · (intro w hSw; (try dsimp only at hSw); go_simp; first | done | with_reducible rfl)
  (try simp only [Act.put, List.setIfInBounds_toArray, List.set_cons_zero, List.set_cons_succ])
  refine wpAnyH_take (i := 18) (oi := (Oper.mk (some 22) (Op.indexAddr 22 (Operand.tmp 17) (Operand.tmp 21)) 0 "fop.go:34" #[Edge.mk 13 Ground.data, Edge.mk 17 Ground.data] none)) (v := ?_) rfl (by kernel_rfl) (by kernel_rfl) (by kernel_rfl) (fun _ _ _ h => h) (Or.inl ⟨by rfl, ?_⟩) (by assumption) ?_
  rotate_left
  · (intro w hSw; (try dsimp only at hSw); go_simp; first | done | with_reducible rfl)
  (try simp only [Act.put, List.setIfInBounds_toArray, List.set_cons_zero, List.set_cons_succ])
  refine wpAnyH_take (i := 19) (oi := (Oper.mk (some 23) (Op.load 23 (Operand.tmp 22)) 23 "fop.go:34" #[Edge.mk 18 Ground.data] none)) (v := ?_) rfl (by kernel_rfl) (by kernel_rfl) (by kernel_rfl) (fun _ _ _ h => h) (Or.inl ⟨by rfl, ?_⟩) (by assumption) ?_
  rotate_left
  · (intro w hSw; (try dsimp only at hSw); go_simp; first | done | with_reducible rfl)
  (try simp only [Act.put, List.setIfInBounds_toArray, List.set_cons_zero, List.set_cons_succ])
  refine wpAnyH_ready (rs := [20]) (by kernel_rfl) (by simp) ?_
  refine AllReadyH.cons (o := (Oper.mk (some 24) (Op.call (Call.mk (Callee.value (Operand.func 31)) #[Operand.tmp 23] #[23])) 23 "fop.go:34" #[Edge.mk 19 Ground.data] none)) rfl (fun K hK => ?_) (AllReadyH.nil)
  go_simp
  (go_at_call 31; refine (clone_n au x.length cu x w.drew rfl (by omega) (show BAt w.drew au x from HBU.out)).mono ?_; rintro e w1 ⟨v1, rfl, hO, hB⟩; have hB' := undrew hB; have c1 := (hB'.cell (p := ⟨b, 1, none⟩) hlt).trans c1; have c2 := (hB'.cell (p := ⟨b, 2, none⟩) hlt).trans c2; have c3 := (hB'.cell (p := ⟨b, 3, none⟩) hlt).trans c3; have hoc := (hB'.cell (p := ⟨ob, oo + f.flight, none⟩) hob).trans hoc; have c4 := (hB'.cell (p := ⟨b, 4, none⟩) hlt).trans c4; have hk := H.out.below hB' (Nat.le_refl _); have f3 := hk.free 3; have f4 := hk.free 4; have hlt := hk.lt; have HK := Lib.hid hk; have HO := Lib.hid hO; have HB := Lib.hid hB'; clear hO hB hB' hk)
  refine hK.out _ _ (by (try dsimp only); first | exact ⟨by assumption, by assumption, by assumption, by assumption⟩ | go_keep) (fun hHeld => ?_)
  clear hK K
  (try simp only [Act.put, List.setIfInBounds_toArray, List.set_cons_zero, List.set_cons_succ])
  refine wpAnyH_take (i := 21) (oi := (Oper.mk (some 2) (Op.assign (Operand.tmp 13)) 3 "fop.go:34" #[Edge.mk 9 Ground.data, Edge.mk 20 Ground.chain, Edge.mk 0 Ground.phase, Edge.mk 1 Ground.phase, Edge.mk 2 Ground.phase, Edge.mk 3 Ground.phase, Edge.mk 4 Ground.phase, Edge.mk 5 Ground.phase, Edge.mk 6 Ground.phase, Edge.mk 7 Ground.phase, Edge.mk 8 Ground.phase, Edge.mk 9 Ground.phase, Edge.mk 10 (Ground.textOnly Departure.lateStores), Edge.mk 11 (Ground.textOnly Departure.lateStores), Edge.mk 12 (Ground.textOnly Departure.lateStores), Edge.mk 13 (Ground.textOnly Departure.lateStores), Edge.mk 14 (Ground.textOnly Departure.lateStores), Edge.mk 15 (Ground.textOnly Departure.lateStores), Edge.mk 16 (Ground.textOnly Departure.lateStores), Edge.mk 17 (Ground.textOnly Departure.lateStores), Edge.mk 18 (Ground.textOnly Departure.lateStores), Edge.mk 19 (Ground.textOnly Departure.lateStores), Edge.mk 20 (Ground.textOnly Departure.lateStoresUnsure)] none)) (v := ?_) rfl (by kernel_rfl) (by kernel_rfl) (by kernel_rfl) (fun _ _ _ h => h) (Or.inl ⟨by rfl, ?_⟩) (by assumption) ?_
  rotate_left
  · (intro w hSw; (try dsimp only at hSw); go_simp; first | done | with_reducible rfl)
  (try simp only [Act.put, List.setIfInBounds_toArray, List.set_cons_zero, List.set_cons_succ])
  refine wpAnyH_take (i := 22) (oi := (Oper.mk (some 3) (Op.assign (Operand.tmp 24)) 23 "fop.go:34" #[Edge.mk 20 Ground.data, Edge.mk 21 Ground.chain, Edge.mk 0 Ground.phase, Edge.mk 1 Ground.phase, Edge.mk 2 Ground.phase, Edge.mk 3 Ground.phase, Edge.mk 4 Ground.phase, Edge.mk 5 Ground.phase, Edge.mk 6 Ground.phase, Edge.mk 7 Ground.phase, Edge.mk 8 Ground.phase, Edge.mk 9 Ground.phase, Edge.mk 10 Ground.phase, Edge.mk 11 Ground.phase, Edge.mk 12 Ground.phase, Edge.mk 13 Ground.phase, Edge.mk 14 Ground.phase, Edge.mk 15 Ground.phase, Edge.mk 16 Ground.phase, Edge.mk 17 Ground.phase, Edge.mk 18 Ground.phase, Edge.mk 19 Ground.phase, Edge.mk 20 Ground.phase, Edge.mk 21 Ground.phase] none)) (v := ?_) rfl (by kernel_rfl) (by kernel_rfl) (by kernel_rfl) (fun _ _ _ h => h) (Or.inl ⟨by rfl, ?_⟩) (by assumption) ?_
  rotate_left
  · (intro w hSw; (try dsimp only at hSw); go_simp; first | done | with_reducible rfl)
  (try simp only [Act.put, List.setIfInBounds_toArray, List.set_cons_zero, List.set_cons_succ])
  refine wpAnyH_done (by kernel_rfl) ?_ _
  by_cases hm : f.front < f.flight + 1
  · have em : (f.front : Int) < (f.flight : Int) + 1 := by omega
    have HM : Hid (max f.front (f.flight + 1) = f.flight + 1) := Lib.hid (by omega)
    clear hm
    go_wp2_with (go_region)
    exact bodyPost_ret (v := .tuple #[.int .i64 (q : Int), v1]) (by simp [results, Try.results35, go_sem]) rfl ⟨v1, rfl, (by rw [HM.out]; exact Blk.cast ((HK.out.setCell 3 _).setCell 4 _) rfl), own_low (own_low HO.out (show b < w.heap.size from H.out.lt) _ _) (show b < w.heap.size from H.out.lt) _ _, (frs (frs (Fr.of_below HB.out (Nat.le_refl _)) _ _) _ _).drew⟩
  · have em : ¬ (f.front : Int) < (f.flight : Int) + 1 := by omega
    have HM : Hid (max f.front (f.flight + 1) = f.front) := Lib.hid (by omega)
    clear hm
    go_wp2_with (go_region)
    exact bodyPost_ret (v := .tuple #[.int .i64 (q : Int), v1]) (by simp [results, Try.results35, go_sem]) rfl ⟨v1, rfl, (by rw [HM.out]; exact Blk.cast ((HK.out.setCell 3 _).setCell 4 _) rfl), own_low (own_low HO.out (show b < w.heap.size from H.out.lt) _ _) (show b < w.heap.size from H.out.lt) _ _, (frs (frs (Fr.of_below HB.out (Nat.le_refl _)) _ _) _ _).drew⟩
end Go.Proofs.Ytjiejpklcjpibaa

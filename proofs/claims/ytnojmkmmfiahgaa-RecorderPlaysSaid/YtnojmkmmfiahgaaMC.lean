/- Next under the mirror frame. No condition. -/
import Derived.Test.YtnojmkmmfiahgaaMB
namespace Go.Proofs.Ytnojmkmmfiahgaa
open Go.RowKit Go.Shelf Go.Deep Go.ChangeShapes Go.WideShapes Go.ChangeAt
set_option linter.unusedVariables false
def NZ (Z B b : Nat) (vS : Value) (w : World) (q : RS × Option (List UInt8)) (e : Ending) (w' : World) : Prop :=
  (match q.2 with
    | none => e = .returned (.tuple #[.slice none 0 0, .bool false])
    | some l => ∃ v, e = .returned (.tuple #[v, .bool true]) ∧ w'.ownsRow w.heap.size 5 1 v l.length (encB l)) ∧ RZ Z B w w' ∧ ∃ Y, RAt w' B b q.1 vS Y ∧ LoZ Z Y
theorem LoZ.set {Z i : Nat} {Y : List SM} {y : SM} (h : LoZ Z Y) (hi : Y[i]? = some y) : LoZ Z (Y.set i y) := by
  obtain ⟨hlt, rfl⟩ := List.getElem?_eq_some_iff.1 hi
  rw [List.set_getElem_self]
  exact h
set_option maxRecDepth 20000 in
set_option maxHeartbeats 4000000 in
theorem next_z {w : World} {Z B b : Nat} {r : RS} {vS : Value} {Y : List SM} (h : RAt w B b r vS Y) (ok : r.Ok) (hz : LoZ Z Y) : Calls Try.prog 13 #[.pointer (some ⟨b, 0, none⟩)] w (NZ Z B b vS w r.next) := by
  have hn : Y.length ≤ 1000 := by rw [h.yl]; have := ok.few; omega
  have OK := Lib.hid ok
  have HZ := Lib.hid hz
  clear hz
  obtain ⟨hml, aS, cS, rfl, hcS, hmS, hV, -⟩ := VAt.of_row h.row
  rw [← hml] at hcS h ⊢
  obtain ⟨n, hnY⟩ : ∃ n, n = Y.length := ⟨_, rfl⟩
  rw [← hnY] at hcS hn h ⊢
  have H := Lib.hid h
  have c0 := h.blk.at 0 rfl
  have c2 := h.blk.at 2 rfl
  have cl := h.blk.lt
  have HN := Lib.hid hnY
  have HV := Lib.hid hV
  clear h ok hnY hV hml
  go_enter Try.func13, Try.ntmps13
  go_wp2_with fail
  go_loopg [4, 22] (n + 1) (fun gk v4 v22 wr => ∃ (k : Nat) (at_ : Option (Nat × Int)), k ≤ n ∧ n - k < gk ∧ v22 = .int .i64 (k : Int) ∧ Hid (BestV r Y at_ v4) ∧ Hid (Below w.heap.size w wr) ∧ Hid (bestFrom r.stores 0 none = bestFrom (r.stores.drop k) k at_))
  case atStart => exact ⟨0, none, Nat.zero_le _, by omega, rfl, Lib.hid rfl, Lib.hid (Below.refl _ _), Lib.hid rfl⟩
  case round =>
    obtain ⟨k, at_, hk, hgk, rfl, HBV, HB, HBF⟩ := hrel
    by_cases hlt : k < n
    · have hkY : k < Y.length := by rw [← HN.out]; exact hlt
      obtain ⟨y, hy⟩ : ∃ y, Y[k]? = some y := ⟨_, List.getElem?_eq_getElem hkY⟩
      obtain ⟨s, hs, hst⟩ := H.out.at hy
      obtain ⟨bS, oS, rfl, hbS, hcell⟩ := HV.out.get (i := k) (by simpa using hkY)
      have hyy : Y[k] = y := (List.getElem?_eq_some_iff.1 hy).2
      have c1 : wr.cell? ⟨bS, oS + k, none⟩ = some (.pointer (some ⟨y.s, 0, none⟩)) := (HB.out.cell (p := ⟨bS, _, none⟩) hbS).trans (by rw [hcell]; simp [hyy]; rfl)
      have e1 : (k : Int) < (n : Int) := by omega
      have HY := Lib.hid hy
      have HS := Lib.hid hs
      have HST := Lib.hid (hst.below HB.out (Nat.le_refl _))
      clear hy hs hst hcell hyy
      have HSTd : Hid (StAt wr.drew B s y) := Lib.hid (HST.out.below (Quiet.below (w := wr) ⟨1, rfl⟩) (Nat.le_refl _))
      have c3 := HST.out.blk.at 2 rfl
      have cl3 := HST.out.blk.lt
      obtain ⟨pr, hpr⟩ : ∃ pr, pr = s.prio := ⟨_, rfl⟩
      have HPR := Lib.hid hpr
      rw [← hpr] at c3
      clear hpr
      have HST2 := Lib.hid (hn)
      cases hat : at_ with
      | none =>
        subst hat
        obtain rfl : u4 = .pointer none := HBV.out
        cases hf : s.first with
        | none =>
          have HF := Lib.hid hf
          clear hf
          go_upto_region 7 with fail
          refine wp_region_held_drew (S := (fun w' => w'.cell? ⟨y.s, 2, none⟩ = some (.int .i64 pr))) (by kernel_rfl) (by (try dsimp only); (first | assumption | go_keep)) (fun hHeld => ?_)
          refine wpAnyH_take (i := 0) (oi := (Oper.mk (some 26) (Op.move (Operand.tmp 4)) 62 "recorder.go:134" #[] none)) (v := ?_) rfl (by kernel_rfl) (by kernel_rfl) (by kernel_rfl) (fun _ _ _ h => h) (Or.inl ⟨by rfl, ?_⟩) (by assumption) ?_
          rotate_left
          · (intro w hSw; (try dsimp only at hSw); go_simp; first | done | with_reducible rfl)
          (try simp only [Act.put, List.setIfInBounds_toArray, List.set_cons_zero, List.set_cons_succ])
          refine wpAnyH_take (i := 1) (oi := (Oper.mk (some 27) (Op.binOp BinOp.eql 62 (Operand.tmp 26) (Operand.const (Value.pointer none)) 62) 4 "recorder.go:134" #[Edge.mk 0 Ground.data] none)) (v := ?_) rfl (by kernel_rfl) (by kernel_rfl) (by kernel_rfl) (fun _ _ _ h => h) (Or.inl ⟨by rfl, ?_⟩) (by assumption) ?_
          rotate_left
          · (intro w hSw; (try dsimp only at hSw); go_simp; first | done | with_reducible rfl)
          (try simp only [Act.put, List.setIfInBounds_toArray, List.set_cons_zero, List.set_cons_succ])
          refine wpAnyH_take (i := 2) (oi := (Oper.mk (some 28) (Op.move (Operand.tmp 27)) 4 "recorder.go:134" #[Edge.mk 1 Ground.data] none)) (v := ?_) rfl (by kernel_rfl) (by kernel_rfl) (by kernel_rfl) (fun _ _ _ h => h) (Or.inl ⟨by rfl, ?_⟩) (by assumption) ?_
          rotate_left
          · (intro w hSw; (try dsimp only at hSw); go_simp; first | done | with_reducible rfl)
          (try simp only [Act.put, List.setIfInBounds_toArray, List.set_cons_zero, List.set_cons_succ])
          refine wpAnyH_take (i := 3) (oi := (Oper.mk (some 29) (Op.move (Operand.tmp 6)) 62 "recorder.go:134" #[Edge.mk 2 Ground.guard] (some (2, false)))) (v := undef) rfl (by kernel_rfl) (by kernel_rfl) (by kernel_rfl) (fun _ _ _ h => h) (Or.inr ⟨by rfl, rfl⟩) (by assumption) ?_
          (try simp only [Act.put, List.setIfInBounds_toArray, List.set_cons_zero, List.set_cons_succ])
          refine wpAnyH_take (i := 4) (oi := (Oper.mk (some 30) (Op.nilCheck (Operand.tmp 29)) 0 "recorder.go:134" #[Edge.mk 3 Ground.data, Edge.mk 2 Ground.guard] (some (2, false)))) (v := undef) rfl (by kernel_rfl) (by kernel_rfl) (by kernel_rfl) (fun _ _ _ h => h) (Or.inr ⟨by rfl, rfl⟩) (by assumption) ?_
          (try simp only [Act.put, List.setIfInBounds_toArray, List.set_cons_zero, List.set_cons_succ])
          refine wpAnyH_take (i := 5) (oi := (Oper.mk (some 31) (Op.fieldAddr 65 (Operand.tmp 30) 0) 0 "recorder.go:134" #[Edge.mk 4 Ground.data, Edge.mk 2 Ground.guard] (some (2, false)))) (v := undef) rfl (by kernel_rfl) (by kernel_rfl) (by kernel_rfl) (fun _ _ _ h => h) (Or.inr ⟨by rfl, rfl⟩) (by assumption) ?_
          (try simp only [Act.put, List.setIfInBounds_toArray, List.set_cons_zero, List.set_cons_succ])
          refine wpAnyH_take (i := 6) (oi := (Oper.mk (some 32) (Op.fieldAddr 29 (Operand.tmp 31) 2) 0 "recorder.go:134" #[Edge.mk 5 Ground.data, Edge.mk 2 Ground.guard] (some (2, false)))) (v := undef) rfl (by kernel_rfl) (by kernel_rfl) (by kernel_rfl) (fun _ _ _ h => h) (Or.inr ⟨by rfl, rfl⟩) (by assumption) ?_
          (try simp only [Act.put, List.setIfInBounds_toArray, List.set_cons_zero, List.set_cons_succ])
          refine wpAnyH_take (i := 7) (oi := (Oper.mk (some 33) (Op.load 3 (Operand.tmp 32)) 3 "recorder.go:134" #[Edge.mk 6 Ground.data, Edge.mk 2 Ground.guard] (some (2, false)))) (v := undef) rfl (by kernel_rfl) (by kernel_rfl) (by kernel_rfl) (fun _ _ _ h => h) (Or.inr ⟨by rfl, rfl⟩) (by assumption) ?_
          (try simp only [Act.put, List.setIfInBounds_toArray, List.set_cons_zero, List.set_cons_succ])
          refine wpAnyH_take (i := 8) (oi := (Oper.mk (some 34) (Op.move (Operand.tmp 4)) 62 "recorder.go:134" #[Edge.mk 2 Ground.guard] (some (2, false)))) (v := undef) rfl (by kernel_rfl) (by kernel_rfl) (by kernel_rfl) (fun _ _ _ h => h) (Or.inr ⟨by rfl, rfl⟩) (by assumption) ?_
          (try simp only [Act.put, List.setIfInBounds_toArray, List.set_cons_zero, List.set_cons_succ])
          refine wpAnyH_take (i := 9) (oi := (Oper.mk (some 35) (Op.nilCheck (Operand.tmp 34)) 0 "recorder.go:134" #[Edge.mk 8 Ground.data, Edge.mk 2 Ground.guard] (some (2, false)))) (v := undef) rfl (by kernel_rfl) (by kernel_rfl) (by kernel_rfl) (fun _ _ _ h => h) (Or.inr ⟨by rfl, rfl⟩) (by assumption) ?_
          (try simp only [Act.put, List.setIfInBounds_toArray, List.set_cons_zero, List.set_cons_succ])
          refine wpAnyH_take (i := 10) (oi := (Oper.mk (some 36) (Op.fieldAddr 65 (Operand.tmp 35) 0) 0 "recorder.go:134" #[Edge.mk 9 Ground.data, Edge.mk 2 Ground.guard] (some (2, false)))) (v := undef) rfl (by kernel_rfl) (by kernel_rfl) (by kernel_rfl) (fun _ _ _ h => h) (Or.inr ⟨by rfl, rfl⟩) (by assumption) ?_
          (try simp only [Act.put, List.setIfInBounds_toArray, List.set_cons_zero, List.set_cons_succ])
          refine wpAnyH_take (i := 11) (oi := (Oper.mk (some 37) (Op.fieldAddr 29 (Operand.tmp 36) 2) 0 "recorder.go:134" #[Edge.mk 10 Ground.data, Edge.mk 2 Ground.guard] (some (2, false)))) (v := undef) rfl (by kernel_rfl) (by kernel_rfl) (by kernel_rfl) (fun _ _ _ h => h) (Or.inr ⟨by rfl, rfl⟩) (by assumption) ?_
          (try simp only [Act.put, List.setIfInBounds_toArray, List.set_cons_zero, List.set_cons_succ])
          refine wpAnyH_take (i := 12) (oi := (Oper.mk (some 38) (Op.load 3 (Operand.tmp 37)) 3 "recorder.go:134" #[Edge.mk 11 Ground.data, Edge.mk 2 Ground.guard] (some (2, false)))) (v := undef) rfl (by kernel_rfl) (by kernel_rfl) (by kernel_rfl) (fun _ _ _ h => h) (Or.inr ⟨by rfl, rfl⟩) (by assumption) ?_
          (try simp only [Act.put, List.setIfInBounds_toArray, List.set_cons_zero, List.set_cons_succ])
          refine wpAnyH_take (i := 13) (oi := (Oper.mk (some 39) (Op.binOp BinOp.lss 3 (Operand.tmp 33) (Operand.tmp 38) 3) 4 "recorder.go:134" #[Edge.mk 7 Ground.data, Edge.mk 12 Ground.data, Edge.mk 2 Ground.guard] (some (2, false)))) (v := undef) rfl (by kernel_rfl) (by kernel_rfl) (by kernel_rfl) (fun _ _ _ h => h) (Or.inr ⟨by rfl, rfl⟩) (by assumption) ?_
          (try simp only [Act.put, List.setIfInBounds_toArray, List.set_cons_zero, List.set_cons_succ])
          refine wpAnyH_take (i := 14) (oi := (Oper.mk (some 40) (Op.pick (Operand.tmp 28) (Operand.const (Value.bool true)) (Operand.tmp 39)) 4 "recorder.go:134" #[Edge.mk 2 Ground.data, Edge.mk 13 Ground.data] none)) (v := ?_) rfl (by kernel_rfl) (by kernel_rfl) (by kernel_rfl) (fun _ _ _ h => h) (Or.inl ⟨by rfl, ?_⟩) (by assumption) ?_
          rotate_left
          · (intro w hSw; (try dsimp only at hSw); go_simp; first | done | with_reducible rfl)
          (try simp only [Act.put, List.setIfInBounds_toArray, List.set_cons_zero, List.set_cons_succ])
          refine wpAnyH_take (i := 15) (oi := (Oper.mk (some 41) (Op.move (Operand.tmp 40)) 4 "recorder.go:134" #[Edge.mk 14 Ground.data, Edge.mk 2 Ground.chain] none)) (v := ?_) rfl (by kernel_rfl) (by kernel_rfl) (by kernel_rfl) (fun _ _ _ h => h) (Or.inl ⟨by rfl, ?_⟩) (by assumption) ?_
          rotate_left
          · (intro w hSw; (try dsimp only at hSw); go_simp; first | done | with_reducible rfl)
          (try simp only [Act.put, List.setIfInBounds_toArray, List.set_cons_zero, List.set_cons_succ])
          refine wpAnyH_take (i := 16) (oi := (Oper.mk (some 42) (Op.move (Operand.tmp 6)) 62 "recorder.go:134" #[Edge.mk 15 Ground.guard] (some (15, true)))) (v := ?_) rfl (by kernel_rfl) (by kernel_rfl) (by kernel_rfl) (fun _ _ _ h => h) (Or.inl ⟨by rfl, ?_⟩) (by assumption) ?_
          rotate_left
          · (intro w hSw; (try dsimp only at hSw); go_simp; first | done | with_reducible rfl)
          (try simp only [Act.put, List.setIfInBounds_toArray, List.set_cons_zero, List.set_cons_succ])
          refine wpAnyH_ready (rs := [17]) (by kernel_rfl) (by simp) ?_
          refine AllReadyH.cons (o := (Oper.mk (some 43) (Op.call (Call.mk (Callee.value (Operand.func 28)) #[Operand.tmp 42] #[62])) 68 "recorder.go:134" #[Edge.mk 16 Ground.data, Edge.mk 15 Ground.chain, Edge.mk 15 Ground.guard] (some (15, true)))) rfl (fun K hK => ?_) (AllReadyH.nil)
          go_simp
          (go_at_call 28; refine (requested_any HSTd.out).mono ?_; intro e w3 hq; obtain ⟨rfl, hB3⟩ := RQ.no hq HF.out; have HB3 := Lib.hid (undrew hB3); have c4 := (HB3.out.cell (p := ⟨y.s, 2, none⟩) cl3).trans c3; clear hq hB3)
          refine hK.out _ _ (by (try dsimp only); (first | assumption | go_keep)) (fun hHeld => ?_)
          clear hK K
          (try simp only [Act.put, List.setIfInBounds_toArray, List.set_cons_zero, List.set_cons_succ])
          refine wpAnyH_take (i := 18) (oi := (Oper.mk (some 44) (Op.binOp BinOp.neq 68 (Operand.tmp 43) (Operand.const (Value.pointer none)) 68) 4 "recorder.go:134" #[Edge.mk 17 Ground.data, Edge.mk 15 Ground.guard] (some (15, true)))) (v := ?_) rfl (by kernel_rfl) (by kernel_rfl) (by kernel_rfl) (fun _ _ _ h => h) (Or.inl ⟨by rfl, ?_⟩) (by assumption) ?_
          rotate_left
          · (intro w hSw; (try dsimp only at hSw); go_simp; first | done | with_reducible rfl)
          (try simp only [Act.put, List.setIfInBounds_toArray, List.set_cons_zero, List.set_cons_succ])
          refine wpAnyH_take (i := 19) (oi := (Oper.mk (some 45) (Op.pick (Operand.tmp 41) (Operand.tmp 44) (Operand.const (Value.bool false))) 4 "recorder.go:134" #[Edge.mk 15 Ground.data, Edge.mk 18 Ground.data] none)) (v := ?_) rfl (by kernel_rfl) (by kernel_rfl) (by kernel_rfl) (fun _ _ _ h => h) (Or.inl ⟨by rfl, ?_⟩) (by assumption) ?_
          rotate_left
          · (intro w hSw; (try dsimp only at hSw); go_simp; first | done | with_reducible rfl)
          (try simp only [Act.put, List.setIfInBounds_toArray, List.set_cons_zero, List.set_cons_succ])
          refine wpAnyH_done (by kernel_rfl) ?_ _
          go_wp2_with fail
          go_roundg (gk - 1)
          case rel => exact ⟨k + 1, none, by omega, by omega, by go_num, Lib.hid rfl, Lib.hid (HB.out.trans (HB3.out.mono HB.out.size)), Lib.hid (by have h9 := best_step HS.out _ HBF.out; rw [if_neg (by rw [HF.out]; simp)] at h9; exact h9)⟩
          case measure => omega
        | some kf =>
          obtain ⟨gf, hgf⟩ : ∃ g, y.gs[kf]? = some g := ⟨_, List.getElem?_eq_getElem (by rw [HST.out.gl]; exact St.first_lt hf)⟩
          have HGF := Lib.hid hgf
          have HF := Lib.hid hf
          clear hf hgf
          go_upto_region 7 with fail
          refine wp_region_held_drew (S := (fun w' => w'.cell? ⟨y.s, 2, none⟩ = some (.int .i64 pr))) (by kernel_rfl) (by (try dsimp only); (first | assumption | go_keep)) (fun hHeld => ?_)
          refine wpAnyH_take (i := 0) (oi := (Oper.mk (some 26) (Op.move (Operand.tmp 4)) 62 "recorder.go:134" #[] none)) (v := ?_) rfl (by kernel_rfl) (by kernel_rfl) (by kernel_rfl) (fun _ _ _ h => h) (Or.inl ⟨by rfl, ?_⟩) (by assumption) ?_
          rotate_left
          · (intro w hSw; (try dsimp only at hSw); go_simp; first | done | with_reducible rfl)
          (try simp only [Act.put, List.setIfInBounds_toArray, List.set_cons_zero, List.set_cons_succ])
          refine wpAnyH_take (i := 1) (oi := (Oper.mk (some 27) (Op.binOp BinOp.eql 62 (Operand.tmp 26) (Operand.const (Value.pointer none)) 62) 4 "recorder.go:134" #[Edge.mk 0 Ground.data] none)) (v := ?_) rfl (by kernel_rfl) (by kernel_rfl) (by kernel_rfl) (fun _ _ _ h => h) (Or.inl ⟨by rfl, ?_⟩) (by assumption) ?_
          rotate_left
          · (intro w hSw; (try dsimp only at hSw); go_simp; first | done | with_reducible rfl)
          (try simp only [Act.put, List.setIfInBounds_toArray, List.set_cons_zero, List.set_cons_succ])
          refine wpAnyH_take (i := 2) (oi := (Oper.mk (some 28) (Op.move (Operand.tmp 27)) 4 "recorder.go:134" #[Edge.mk 1 Ground.data] none)) (v := ?_) rfl (by kernel_rfl) (by kernel_rfl) (by kernel_rfl) (fun _ _ _ h => h) (Or.inl ⟨by rfl, ?_⟩) (by assumption) ?_
          rotate_left
          · (intro w hSw; (try dsimp only at hSw); go_simp; first | done | with_reducible rfl)
          (try simp only [Act.put, List.setIfInBounds_toArray, List.set_cons_zero, List.set_cons_succ])
          refine wpAnyH_take (i := 3) (oi := (Oper.mk (some 29) (Op.move (Operand.tmp 6)) 62 "recorder.go:134" #[Edge.mk 2 Ground.guard] (some (2, false)))) (v := undef) rfl (by kernel_rfl) (by kernel_rfl) (by kernel_rfl) (fun _ _ _ h => h) (Or.inr ⟨by rfl, rfl⟩) (by assumption) ?_
          (try simp only [Act.put, List.setIfInBounds_toArray, List.set_cons_zero, List.set_cons_succ])
          refine wpAnyH_take (i := 4) (oi := (Oper.mk (some 30) (Op.nilCheck (Operand.tmp 29)) 0 "recorder.go:134" #[Edge.mk 3 Ground.data, Edge.mk 2 Ground.guard] (some (2, false)))) (v := undef) rfl (by kernel_rfl) (by kernel_rfl) (by kernel_rfl) (fun _ _ _ h => h) (Or.inr ⟨by rfl, rfl⟩) (by assumption) ?_
          (try simp only [Act.put, List.setIfInBounds_toArray, List.set_cons_zero, List.set_cons_succ])
          refine wpAnyH_take (i := 5) (oi := (Oper.mk (some 31) (Op.fieldAddr 65 (Operand.tmp 30) 0) 0 "recorder.go:134" #[Edge.mk 4 Ground.data, Edge.mk 2 Ground.guard] (some (2, false)))) (v := undef) rfl (by kernel_rfl) (by kernel_rfl) (by kernel_rfl) (fun _ _ _ h => h) (Or.inr ⟨by rfl, rfl⟩) (by assumption) ?_
          (try simp only [Act.put, List.setIfInBounds_toArray, List.set_cons_zero, List.set_cons_succ])
          refine wpAnyH_take (i := 6) (oi := (Oper.mk (some 32) (Op.fieldAddr 29 (Operand.tmp 31) 2) 0 "recorder.go:134" #[Edge.mk 5 Ground.data, Edge.mk 2 Ground.guard] (some (2, false)))) (v := undef) rfl (by kernel_rfl) (by kernel_rfl) (by kernel_rfl) (fun _ _ _ h => h) (Or.inr ⟨by rfl, rfl⟩) (by assumption) ?_
          (try simp only [Act.put, List.setIfInBounds_toArray, List.set_cons_zero, List.set_cons_succ])
          refine wpAnyH_take (i := 7) (oi := (Oper.mk (some 33) (Op.load 3 (Operand.tmp 32)) 3 "recorder.go:134" #[Edge.mk 6 Ground.data, Edge.mk 2 Ground.guard] (some (2, false)))) (v := undef) rfl (by kernel_rfl) (by kernel_rfl) (by kernel_rfl) (fun _ _ _ h => h) (Or.inr ⟨by rfl, rfl⟩) (by assumption) ?_
          (try simp only [Act.put, List.setIfInBounds_toArray, List.set_cons_zero, List.set_cons_succ])
          refine wpAnyH_take (i := 8) (oi := (Oper.mk (some 34) (Op.move (Operand.tmp 4)) 62 "recorder.go:134" #[Edge.mk 2 Ground.guard] (some (2, false)))) (v := undef) rfl (by kernel_rfl) (by kernel_rfl) (by kernel_rfl) (fun _ _ _ h => h) (Or.inr ⟨by rfl, rfl⟩) (by assumption) ?_
          (try simp only [Act.put, List.setIfInBounds_toArray, List.set_cons_zero, List.set_cons_succ])
          refine wpAnyH_take (i := 9) (oi := (Oper.mk (some 35) (Op.nilCheck (Operand.tmp 34)) 0 "recorder.go:134" #[Edge.mk 8 Ground.data, Edge.mk 2 Ground.guard] (some (2, false)))) (v := undef) rfl (by kernel_rfl) (by kernel_rfl) (by kernel_rfl) (fun _ _ _ h => h) (Or.inr ⟨by rfl, rfl⟩) (by assumption) ?_
          (try simp only [Act.put, List.setIfInBounds_toArray, List.set_cons_zero, List.set_cons_succ])
          refine wpAnyH_take (i := 10) (oi := (Oper.mk (some 36) (Op.fieldAddr 65 (Operand.tmp 35) 0) 0 "recorder.go:134" #[Edge.mk 9 Ground.data, Edge.mk 2 Ground.guard] (some (2, false)))) (v := undef) rfl (by kernel_rfl) (by kernel_rfl) (by kernel_rfl) (fun _ _ _ h => h) (Or.inr ⟨by rfl, rfl⟩) (by assumption) ?_
          (try simp only [Act.put, List.setIfInBounds_toArray, List.set_cons_zero, List.set_cons_succ])
          refine wpAnyH_take (i := 11) (oi := (Oper.mk (some 37) (Op.fieldAddr 29 (Operand.tmp 36) 2) 0 "recorder.go:134" #[Edge.mk 10 Ground.data, Edge.mk 2 Ground.guard] (some (2, false)))) (v := undef) rfl (by kernel_rfl) (by kernel_rfl) (by kernel_rfl) (fun _ _ _ h => h) (Or.inr ⟨by rfl, rfl⟩) (by assumption) ?_
          (try simp only [Act.put, List.setIfInBounds_toArray, List.set_cons_zero, List.set_cons_succ])
          refine wpAnyH_take (i := 12) (oi := (Oper.mk (some 38) (Op.load 3 (Operand.tmp 37)) 3 "recorder.go:134" #[Edge.mk 11 Ground.data, Edge.mk 2 Ground.guard] (some (2, false)))) (v := undef) rfl (by kernel_rfl) (by kernel_rfl) (by kernel_rfl) (fun _ _ _ h => h) (Or.inr ⟨by rfl, rfl⟩) (by assumption) ?_
          (try simp only [Act.put, List.setIfInBounds_toArray, List.set_cons_zero, List.set_cons_succ])
          refine wpAnyH_take (i := 13) (oi := (Oper.mk (some 39) (Op.binOp BinOp.lss 3 (Operand.tmp 33) (Operand.tmp 38) 3) 4 "recorder.go:134" #[Edge.mk 7 Ground.data, Edge.mk 12 Ground.data, Edge.mk 2 Ground.guard] (some (2, false)))) (v := undef) rfl (by kernel_rfl) (by kernel_rfl) (by kernel_rfl) (fun _ _ _ h => h) (Or.inr ⟨by rfl, rfl⟩) (by assumption) ?_
          (try simp only [Act.put, List.setIfInBounds_toArray, List.set_cons_zero, List.set_cons_succ])
          refine wpAnyH_take (i := 14) (oi := (Oper.mk (some 40) (Op.pick (Operand.tmp 28) (Operand.const (Value.bool true)) (Operand.tmp 39)) 4 "recorder.go:134" #[Edge.mk 2 Ground.data, Edge.mk 13 Ground.data] none)) (v := ?_) rfl (by kernel_rfl) (by kernel_rfl) (by kernel_rfl) (fun _ _ _ h => h) (Or.inl ⟨by rfl, ?_⟩) (by assumption) ?_
          rotate_left
          · (intro w hSw; (try dsimp only at hSw); go_simp; first | done | with_reducible rfl)
          (try simp only [Act.put, List.setIfInBounds_toArray, List.set_cons_zero, List.set_cons_succ])
          refine wpAnyH_take (i := 15) (oi := (Oper.mk (some 41) (Op.move (Operand.tmp 40)) 4 "recorder.go:134" #[Edge.mk 14 Ground.data, Edge.mk 2 Ground.chain] none)) (v := ?_) rfl (by kernel_rfl) (by kernel_rfl) (by kernel_rfl) (fun _ _ _ h => h) (Or.inl ⟨by rfl, ?_⟩) (by assumption) ?_
          rotate_left
          · (intro w hSw; (try dsimp only at hSw); go_simp; first | done | with_reducible rfl)
          (try simp only [Act.put, List.setIfInBounds_toArray, List.set_cons_zero, List.set_cons_succ])
          refine wpAnyH_take (i := 16) (oi := (Oper.mk (some 42) (Op.move (Operand.tmp 6)) 62 "recorder.go:134" #[Edge.mk 15 Ground.guard] (some (15, true)))) (v := ?_) rfl (by kernel_rfl) (by kernel_rfl) (by kernel_rfl) (fun _ _ _ h => h) (Or.inl ⟨by rfl, ?_⟩) (by assumption) ?_
          rotate_left
          · (intro w hSw; (try dsimp only at hSw); go_simp; first | done | with_reducible rfl)
          (try simp only [Act.put, List.setIfInBounds_toArray, List.set_cons_zero, List.set_cons_succ])
          refine wpAnyH_ready (rs := [17]) (by kernel_rfl) (by simp) ?_
          refine AllReadyH.cons (o := (Oper.mk (some 43) (Op.call (Call.mk (Callee.value (Operand.func 28)) #[Operand.tmp 42] #[62])) 68 "recorder.go:134" #[Edge.mk 16 Ground.data, Edge.mk 15 Ground.chain, Edge.mk 15 Ground.guard] (some (15, true)))) rfl (fun K hK => ?_) (AllReadyH.nil)
          go_simp
          (go_at_call 28; refine (requested_any HSTd.out).mono ?_; intro e w3 hq; obtain ⟨rfl, hB3⟩ := RQ.yes hq HF.out HGF.out; have HB3 := Lib.hid (undrew hB3); have c4 := (HB3.out.cell (p := ⟨y.s, 2, none⟩) cl3).trans c3; clear hq hB3)
          refine hK.out _ _ (by (try dsimp only); (first | assumption | go_keep)) (fun hHeld => ?_)
          clear hK K
          (try simp only [Act.put, List.setIfInBounds_toArray, List.set_cons_zero, List.set_cons_succ])
          refine wpAnyH_take (i := 18) (oi := (Oper.mk (some 44) (Op.binOp BinOp.neq 68 (Operand.tmp 43) (Operand.const (Value.pointer none)) 68) 4 "recorder.go:134" #[Edge.mk 17 Ground.data, Edge.mk 15 Ground.guard] (some (15, true)))) (v := ?_) rfl (by kernel_rfl) (by kernel_rfl) (by kernel_rfl) (fun _ _ _ h => h) (Or.inl ⟨by rfl, ?_⟩) (by assumption) ?_
          rotate_left
          · (intro w hSw; (try dsimp only at hSw); go_simp; first | done | with_reducible rfl)
          (try simp only [Act.put, List.setIfInBounds_toArray, List.set_cons_zero, List.set_cons_succ])
          refine wpAnyH_take (i := 19) (oi := (Oper.mk (some 45) (Op.pick (Operand.tmp 41) (Operand.tmp 44) (Operand.const (Value.bool false))) 4 "recorder.go:134" #[Edge.mk 15 Ground.data, Edge.mk 18 Ground.data] none)) (v := ?_) rfl (by kernel_rfl) (by kernel_rfl) (by kernel_rfl) (fun _ _ _ h => h) (Or.inl ⟨by rfl, ?_⟩) (by assumption) ?_
          rotate_left
          · (intro w hSw; (try dsimp only at hSw); go_simp; first | done | with_reducible rfl)
          (try simp only [Act.put, List.setIfInBounds_toArray, List.set_cons_zero, List.set_cons_succ])
          refine wpAnyH_done (by kernel_rfl) ?_ _
          go_wp2_with fail
          go_roundg (gk - 1)
          case rel => exact ⟨k + 1, (some (k, s.prio)), by omega, by omega, by go_num, Lib.hid ⟨y, s, HY.out, HS.out, rfl, by rw [HF.out]; rfl, rfl⟩, Lib.hid (HB.out.trans (HB3.out.mono HB.out.size)), Lib.hid (by have h9 := best_step HS.out _ HBF.out; rw [if_pos (by rw [HF.out]; rfl)] at h9; exact h9)⟩
          case measure => omega
      | some q =>
        subst hat
        obtain ⟨yb, sb, hyb, hsb, hpq, hfb, rfl⟩ := HBV.out
        have HYB := Lib.hid hyb
        have HSB := Lib.hid hsb
        have HFB := Lib.hid hfb
        have HPQ0 := Lib.hid hpq
        have HSTB : Hid (StAt wr B sb yb) := Lib.hid (by
          obtain ⟨sx, hsx, hst⟩ := H.out.at hyb
          rw [hsb] at hsx
          cases hsx
          exact hst.below HB.out (Nat.le_refl _))
        have c5 := HSTB.out.blk.at 2 rfl
        have cl5 := HSTB.out.blk.lt
        obtain ⟨pq, hpq2⟩ : ∃ pq, pq = sb.prio := ⟨_, rfl⟩
        have HPQ := Lib.hid hpq2
        rw [← hpq2] at c5
        clear hpq2 hyb hsb hfb hpq
        by_cases hlt2 : pr < pq
        · have dlt : decide (pr < pq) = true := decide_eq_true hlt2
          have HLT : Hid (s.prio < q.2) := Lib.hid (by rw [← HPQ0.out, ← HPQ.out, ← HPR.out]; exact hlt2)
          clear hlt2
          cases hf : s.first with
          | none =>
            have HF := Lib.hid hf
            clear hf
            go_upto_region 7 with fail
            refine wp_region_held_drew (S := (fun w' => w'.cell? ⟨y.s, 2, none⟩ = some (.int .i64 pr) ∧ w'.cell? ⟨yb.s, 2, none⟩ = some (.int .i64 pq))) (by kernel_rfl) (by (try dsimp only); (first | exact ⟨by assumption, by assumption⟩ | go_keep)) (fun hHeld => ?_)
            refine wpAnyH_take (i := 0) (oi := (Oper.mk (some 26) (Op.move (Operand.tmp 4)) 62 "recorder.go:134" #[] none)) (v := ?_) rfl (by kernel_rfl) (by kernel_rfl) (by kernel_rfl) (fun _ _ _ h => h) (Or.inl ⟨by rfl, ?_⟩) (by assumption) ?_
            rotate_left
            · (intro w hSw; (try dsimp only at hSw); go_simp; first | done | with_reducible rfl)
            (try simp only [Act.put, List.setIfInBounds_toArray, List.set_cons_zero, List.set_cons_succ])
            refine wpAnyH_take (i := 1) (oi := (Oper.mk (some 27) (Op.binOp BinOp.eql 62 (Operand.tmp 26) (Operand.const (Value.pointer none)) 62) 4 "recorder.go:134" #[Edge.mk 0 Ground.data] none)) (v := ?_) rfl (by kernel_rfl) (by kernel_rfl) (by kernel_rfl) (fun _ _ _ h => h) (Or.inl ⟨by rfl, ?_⟩) (by assumption) ?_
            rotate_left
            · (intro w hSw; (try dsimp only at hSw); go_simp; first | done | with_reducible rfl)
            (try simp only [Act.put, List.setIfInBounds_toArray, List.set_cons_zero, List.set_cons_succ])
            refine wpAnyH_take (i := 2) (oi := (Oper.mk (some 28) (Op.move (Operand.tmp 27)) 4 "recorder.go:134" #[Edge.mk 1 Ground.data] none)) (v := ?_) rfl (by kernel_rfl) (by kernel_rfl) (by kernel_rfl) (fun _ _ _ h => h) (Or.inl ⟨by rfl, ?_⟩) (by assumption) ?_
            rotate_left
            · (intro w hSw; (try dsimp only at hSw); go_simp; first | done | with_reducible rfl)
            (try simp only [Act.put, List.setIfInBounds_toArray, List.set_cons_zero, List.set_cons_succ])
            refine wpAnyH_take (i := 3) (oi := (Oper.mk (some 29) (Op.move (Operand.tmp 6)) 62 "recorder.go:134" #[Edge.mk 2 Ground.guard] (some (2, false)))) (v := ?_) rfl (by kernel_rfl) (by kernel_rfl) (by kernel_rfl) (fun _ _ _ h => h) (Or.inl ⟨by rfl, ?_⟩) (by assumption) ?_
            rotate_left
            · (intro w hSw; (try dsimp only at hSw); go_simp; first | done | with_reducible rfl)
            (try simp only [Act.put, List.setIfInBounds_toArray, List.set_cons_zero, List.set_cons_succ])
            refine wpAnyH_take (i := 4) (oi := (Oper.mk (some 30) (Op.nilCheck (Operand.tmp 29)) 0 "recorder.go:134" #[Edge.mk 3 Ground.data, Edge.mk 2 Ground.guard] (some (2, false)))) (v := ?_) rfl (by kernel_rfl) (by kernel_rfl) (by kernel_rfl) (fun _ _ _ h => h) (Or.inl ⟨by rfl, ?_⟩) (by assumption) ?_
            rotate_left
            · (intro w hSw; (try dsimp only at hSw); go_simp; first | done | with_reducible rfl)
            (try simp only [Act.put, List.setIfInBounds_toArray, List.set_cons_zero, List.set_cons_succ])
            refine wpAnyH_take (i := 5) (oi := (Oper.mk (some 31) (Op.fieldAddr 65 (Operand.tmp 30) 0) 0 "recorder.go:134" #[Edge.mk 4 Ground.data, Edge.mk 2 Ground.guard] (some (2, false)))) (v := ?_) rfl (by kernel_rfl) (by kernel_rfl) (by kernel_rfl) (fun _ _ _ h => h) (Or.inl ⟨by rfl, ?_⟩) (by assumption) ?_
            rotate_left
            · (intro w hSw; (try dsimp only at hSw); go_simp; first | done | with_reducible rfl)
            (try simp only [Act.put, List.setIfInBounds_toArray, List.set_cons_zero, List.set_cons_succ])
            refine wpAnyH_take (i := 6) (oi := (Oper.mk (some 32) (Op.fieldAddr 29 (Operand.tmp 31) 2) 0 "recorder.go:134" #[Edge.mk 5 Ground.data, Edge.mk 2 Ground.guard] (some (2, false)))) (v := ?_) rfl (by kernel_rfl) (by kernel_rfl) (by kernel_rfl) (fun _ _ _ h => h) (Or.inl ⟨by rfl, ?_⟩) (by assumption) ?_
            rotate_left
            · (intro w hSw; (try dsimp only at hSw); go_simp; first | done | with_reducible rfl)
            (try simp only [Act.put, List.setIfInBounds_toArray, List.set_cons_zero, List.set_cons_succ])
            refine wpAnyH_take (i := 7) (oi := (Oper.mk (some 33) (Op.load 3 (Operand.tmp 32)) 3 "recorder.go:134" #[Edge.mk 6 Ground.data, Edge.mk 2 Ground.guard] (some (2, false)))) (v := ?_) rfl (by kernel_rfl) (by kernel_rfl) (by kernel_rfl) (fun _ _ _ h => h) (Or.inl ⟨by rfl, ?_⟩) (by assumption) ?_
            rotate_left
            · (intro w hSw; (try dsimp only at hSw); go_simp; first | done | with_reducible rfl)
            (try simp only [Act.put, List.setIfInBounds_toArray, List.set_cons_zero, List.set_cons_succ])
            refine wpAnyH_take (i := 8) (oi := (Oper.mk (some 34) (Op.move (Operand.tmp 4)) 62 "recorder.go:134" #[Edge.mk 2 Ground.guard] (some (2, false)))) (v := ?_) rfl (by kernel_rfl) (by kernel_rfl) (by kernel_rfl) (fun _ _ _ h => h) (Or.inl ⟨by rfl, ?_⟩) (by assumption) ?_
            rotate_left
            · (intro w hSw; (try dsimp only at hSw); go_simp; first | done | with_reducible rfl)
            (try simp only [Act.put, List.setIfInBounds_toArray, List.set_cons_zero, List.set_cons_succ])
            refine wpAnyH_take (i := 9) (oi := (Oper.mk (some 35) (Op.nilCheck (Operand.tmp 34)) 0 "recorder.go:134" #[Edge.mk 8 Ground.data, Edge.mk 2 Ground.guard] (some (2, false)))) (v := ?_) rfl (by kernel_rfl) (by kernel_rfl) (by kernel_rfl) (fun _ _ _ h => h) (Or.inl ⟨by rfl, ?_⟩) (by assumption) ?_
            rotate_left
            · (intro w hSw; (try dsimp only at hSw); go_simp; first | done | with_reducible rfl)
            (try simp only [Act.put, List.setIfInBounds_toArray, List.set_cons_zero, List.set_cons_succ])
            refine wpAnyH_take (i := 10) (oi := (Oper.mk (some 36) (Op.fieldAddr 65 (Operand.tmp 35) 0) 0 "recorder.go:134" #[Edge.mk 9 Ground.data, Edge.mk 2 Ground.guard] (some (2, false)))) (v := ?_) rfl (by kernel_rfl) (by kernel_rfl) (by kernel_rfl) (fun _ _ _ h => h) (Or.inl ⟨by rfl, ?_⟩) (by assumption) ?_
            rotate_left
            · (intro w hSw; (try dsimp only at hSw); go_simp; first | done | with_reducible rfl)
            (try simp only [Act.put, List.setIfInBounds_toArray, List.set_cons_zero, List.set_cons_succ])
            refine wpAnyH_take (i := 11) (oi := (Oper.mk (some 37) (Op.fieldAddr 29 (Operand.tmp 36) 2) 0 "recorder.go:134" #[Edge.mk 10 Ground.data, Edge.mk 2 Ground.guard] (some (2, false)))) (v := ?_) rfl (by kernel_rfl) (by kernel_rfl) (by kernel_rfl) (fun _ _ _ h => h) (Or.inl ⟨by rfl, ?_⟩) (by assumption) ?_
            rotate_left
            · (intro w hSw; (try dsimp only at hSw); go_simp; first | done | with_reducible rfl)
            (try simp only [Act.put, List.setIfInBounds_toArray, List.set_cons_zero, List.set_cons_succ])
            refine wpAnyH_take (i := 12) (oi := (Oper.mk (some 38) (Op.load 3 (Operand.tmp 37)) 3 "recorder.go:134" #[Edge.mk 11 Ground.data, Edge.mk 2 Ground.guard] (some (2, false)))) (v := ?_) rfl (by kernel_rfl) (by kernel_rfl) (by kernel_rfl) (fun _ _ _ h => h) (Or.inl ⟨by rfl, ?_⟩) (by assumption) ?_
            rotate_left
            · (intro w hSw; (try dsimp only at hSw); go_simp; first | done | with_reducible rfl)
            (try simp only [Act.put, List.setIfInBounds_toArray, List.set_cons_zero, List.set_cons_succ])
            refine wpAnyH_take (i := 13) (oi := (Oper.mk (some 39) (Op.binOp BinOp.lss 3 (Operand.tmp 33) (Operand.tmp 38) 3) 4 "recorder.go:134" #[Edge.mk 7 Ground.data, Edge.mk 12 Ground.data, Edge.mk 2 Ground.guard] (some (2, false)))) (v := ?_) rfl (by kernel_rfl) (by kernel_rfl) (by kernel_rfl) (fun _ _ _ h => h) (Or.inl ⟨by rfl, ?_⟩) (by assumption) ?_
            rotate_left
            · (intro w hSw; (try dsimp only at hSw); go_simp; first | done | with_reducible rfl)
            (try simp only [Act.put, List.setIfInBounds_toArray, List.set_cons_zero, List.set_cons_succ])
            refine wpAnyH_take (i := 14) (oi := (Oper.mk (some 40) (Op.pick (Operand.tmp 28) (Operand.const (Value.bool true)) (Operand.tmp 39)) 4 "recorder.go:134" #[Edge.mk 2 Ground.data, Edge.mk 13 Ground.data] none)) (v := ?_) rfl (by kernel_rfl) (by kernel_rfl) (by kernel_rfl) (fun _ _ _ h => h) (Or.inl ⟨by rfl, ?_⟩) (by assumption) ?_
            rotate_left
            · (intro w hSw; (try dsimp only at hSw); go_simp; first | done | with_reducible rfl)
            (try simp only [Act.put, List.setIfInBounds_toArray, List.set_cons_zero, List.set_cons_succ])
            refine wpAnyH_take (i := 15) (oi := (Oper.mk (some 41) (Op.move (Operand.tmp 40)) 4 "recorder.go:134" #[Edge.mk 14 Ground.data, Edge.mk 2 Ground.chain] none)) (v := ?_) rfl (by kernel_rfl) (by kernel_rfl) (by kernel_rfl) (fun _ _ _ h => h) (Or.inl ⟨by rfl, ?_⟩) (by assumption) ?_
            rotate_left
            · (intro w hSw; (try dsimp only at hSw); go_simp; first | done | with_reducible rfl)
            (try simp only [Act.put, List.setIfInBounds_toArray, List.set_cons_zero, List.set_cons_succ])
            refine wpAnyH_take (i := 16) (oi := (Oper.mk (some 42) (Op.move (Operand.tmp 6)) 62 "recorder.go:134" #[Edge.mk 15 Ground.guard] (some (15, true)))) (v := ?_) rfl (by kernel_rfl) (by kernel_rfl) (by kernel_rfl) (fun _ _ _ h => h) (Or.inl ⟨by rfl, ?_⟩) (by assumption) ?_
            rotate_left
            · (intro w hSw; (try dsimp only at hSw); go_simp; first | done | with_reducible rfl)
            (try simp only [Act.put, List.setIfInBounds_toArray, List.set_cons_zero, List.set_cons_succ])
            refine wpAnyH_ready (rs := [17]) (by kernel_rfl) (by simp) ?_
            refine AllReadyH.cons (o := (Oper.mk (some 43) (Op.call (Call.mk (Callee.value (Operand.func 28)) #[Operand.tmp 42] #[62])) 68 "recorder.go:134" #[Edge.mk 16 Ground.data, Edge.mk 15 Ground.chain, Edge.mk 15 Ground.guard] (some (15, true)))) rfl (fun K hK => ?_) (AllReadyH.nil)
            go_simp
            (go_at_call 28; refine (requested_any HSTd.out).mono ?_; intro e w3 hq; obtain ⟨rfl, hB3⟩ := RQ.no hq HF.out; have HB3 := Lib.hid (undrew hB3); have c4 := (HB3.out.cell (p := ⟨y.s, 2, none⟩) cl3).trans c3; have c6 := (HB3.out.cell (p := ⟨yb.s, 2, none⟩) cl5).trans c5; clear hq hB3)
            refine hK.out _ _ (by (try dsimp only); (first | exact ⟨by assumption, by assumption⟩ | go_keep)) (fun hHeld => ?_)
            clear hK K
            (try simp only [Act.put, List.setIfInBounds_toArray, List.set_cons_zero, List.set_cons_succ])
            refine wpAnyH_take (i := 18) (oi := (Oper.mk (some 44) (Op.binOp BinOp.neq 68 (Operand.tmp 43) (Operand.const (Value.pointer none)) 68) 4 "recorder.go:134" #[Edge.mk 17 Ground.data, Edge.mk 15 Ground.guard] (some (15, true)))) (v := ?_) rfl (by kernel_rfl) (by kernel_rfl) (by kernel_rfl) (fun _ _ _ h => h) (Or.inl ⟨by rfl, ?_⟩) (by assumption) ?_
            rotate_left
            · (intro w hSw; (try dsimp only at hSw); go_simp; first | done | with_reducible rfl)
            (try simp only [Act.put, List.setIfInBounds_toArray, List.set_cons_zero, List.set_cons_succ])
            refine wpAnyH_take (i := 19) (oi := (Oper.mk (some 45) (Op.pick (Operand.tmp 41) (Operand.tmp 44) (Operand.const (Value.bool false))) 4 "recorder.go:134" #[Edge.mk 15 Ground.data, Edge.mk 18 Ground.data] none)) (v := ?_) rfl (by kernel_rfl) (by kernel_rfl) (by kernel_rfl) (fun _ _ _ h => h) (Or.inl ⟨by rfl, ?_⟩) (by assumption) ?_
            rotate_left
            · (intro w hSw; (try dsimp only at hSw); go_simp; first | done | with_reducible rfl)
            (try simp only [Act.put, List.setIfInBounds_toArray, List.set_cons_zero, List.set_cons_succ])
            refine wpAnyH_done (by kernel_rfl) ?_ _
            go_wp2_with fail
            go_roundg (gk - 1)
            case rel => exact ⟨k + 1, (some q), by omega, by omega, by go_num, Lib.hid ⟨yb, sb, HYB.out, HSB.out, HPQ0.out, HFB.out, rfl⟩, Lib.hid (HB.out.trans (HB3.out.mono HB.out.size)), Lib.hid (by have h9 := best_step HS.out _ HBF.out; rw [if_neg (by rw [HF.out]; simp)] at h9; exact h9)⟩
            case measure => omega
          | some kf =>
            obtain ⟨gf, hgf⟩ : ∃ g, y.gs[kf]? = some g := ⟨_, List.getElem?_eq_getElem (by rw [HST.out.gl]; exact St.first_lt hf)⟩
            have HGF := Lib.hid hgf
            have HF := Lib.hid hf
            clear hf hgf
            go_upto_region 7 with fail
            refine wp_region_held_drew (S := (fun w' => w'.cell? ⟨y.s, 2, none⟩ = some (.int .i64 pr) ∧ w'.cell? ⟨yb.s, 2, none⟩ = some (.int .i64 pq))) (by kernel_rfl) (by (try dsimp only); (first | exact ⟨by assumption, by assumption⟩ | go_keep)) (fun hHeld => ?_)
            refine wpAnyH_take (i := 0) (oi := (Oper.mk (some 26) (Op.move (Operand.tmp 4)) 62 "recorder.go:134" #[] none)) (v := ?_) rfl (by kernel_rfl) (by kernel_rfl) (by kernel_rfl) (fun _ _ _ h => h) (Or.inl ⟨by rfl, ?_⟩) (by assumption) ?_
            rotate_left
            · (intro w hSw; (try dsimp only at hSw); go_simp; first | done | with_reducible rfl)
            (try simp only [Act.put, List.setIfInBounds_toArray, List.set_cons_zero, List.set_cons_succ])
            refine wpAnyH_take (i := 1) (oi := (Oper.mk (some 27) (Op.binOp BinOp.eql 62 (Operand.tmp 26) (Operand.const (Value.pointer none)) 62) 4 "recorder.go:134" #[Edge.mk 0 Ground.data] none)) (v := ?_) rfl (by kernel_rfl) (by kernel_rfl) (by kernel_rfl) (fun _ _ _ h => h) (Or.inl ⟨by rfl, ?_⟩) (by assumption) ?_
            rotate_left
            · (intro w hSw; (try dsimp only at hSw); go_simp; first | done | with_reducible rfl)
            (try simp only [Act.put, List.setIfInBounds_toArray, List.set_cons_zero, List.set_cons_succ])
            refine wpAnyH_take (i := 2) (oi := (Oper.mk (some 28) (Op.move (Operand.tmp 27)) 4 "recorder.go:134" #[Edge.mk 1 Ground.data] none)) (v := ?_) rfl (by kernel_rfl) (by kernel_rfl) (by kernel_rfl) (fun _ _ _ h => h) (Or.inl ⟨by rfl, ?_⟩) (by assumption) ?_
            rotate_left
            · (intro w hSw; (try dsimp only at hSw); go_simp; first | done | with_reducible rfl)
            (try simp only [Act.put, List.setIfInBounds_toArray, List.set_cons_zero, List.set_cons_succ])
            refine wpAnyH_take (i := 3) (oi := (Oper.mk (some 29) (Op.move (Operand.tmp 6)) 62 "recorder.go:134" #[Edge.mk 2 Ground.guard] (some (2, false)))) (v := ?_) rfl (by kernel_rfl) (by kernel_rfl) (by kernel_rfl) (fun _ _ _ h => h) (Or.inl ⟨by rfl, ?_⟩) (by assumption) ?_
            rotate_left
            · (intro w hSw; (try dsimp only at hSw); go_simp; first | done | with_reducible rfl)
            (try simp only [Act.put, List.setIfInBounds_toArray, List.set_cons_zero, List.set_cons_succ])
            refine wpAnyH_take (i := 4) (oi := (Oper.mk (some 30) (Op.nilCheck (Operand.tmp 29)) 0 "recorder.go:134" #[Edge.mk 3 Ground.data, Edge.mk 2 Ground.guard] (some (2, false)))) (v := ?_) rfl (by kernel_rfl) (by kernel_rfl) (by kernel_rfl) (fun _ _ _ h => h) (Or.inl ⟨by rfl, ?_⟩) (by assumption) ?_
            rotate_left
            · (intro w hSw; (try dsimp only at hSw); go_simp; first | done | with_reducible rfl)
            (try simp only [Act.put, List.setIfInBounds_toArray, List.set_cons_zero, List.set_cons_succ])
            refine wpAnyH_take (i := 5) (oi := (Oper.mk (some 31) (Op.fieldAddr 65 (Operand.tmp 30) 0) 0 "recorder.go:134" #[Edge.mk 4 Ground.data, Edge.mk 2 Ground.guard] (some (2, false)))) (v := ?_) rfl (by kernel_rfl) (by kernel_rfl) (by kernel_rfl) (fun _ _ _ h => h) (Or.inl ⟨by rfl, ?_⟩) (by assumption) ?_
            rotate_left
            · (intro w hSw; (try dsimp only at hSw); go_simp; first | done | with_reducible rfl)
            (try simp only [Act.put, List.setIfInBounds_toArray, List.set_cons_zero, List.set_cons_succ])
            refine wpAnyH_take (i := 6) (oi := (Oper.mk (some 32) (Op.fieldAddr 29 (Operand.tmp 31) 2) 0 "recorder.go:134" #[Edge.mk 5 Ground.data, Edge.mk 2 Ground.guard] (some (2, false)))) (v := ?_) rfl (by kernel_rfl) (by kernel_rfl) (by kernel_rfl) (fun _ _ _ h => h) (Or.inl ⟨by rfl, ?_⟩) (by assumption) ?_
            rotate_left
            · (intro w hSw; (try dsimp only at hSw); go_simp; first | done | with_reducible rfl)
            (try simp only [Act.put, List.setIfInBounds_toArray, List.set_cons_zero, List.set_cons_succ])
            refine wpAnyH_take (i := 7) (oi := (Oper.mk (some 33) (Op.load 3 (Operand.tmp 32)) 3 "recorder.go:134" #[Edge.mk 6 Ground.data, Edge.mk 2 Ground.guard] (some (2, false)))) (v := ?_) rfl (by kernel_rfl) (by kernel_rfl) (by kernel_rfl) (fun _ _ _ h => h) (Or.inl ⟨by rfl, ?_⟩) (by assumption) ?_
            rotate_left
            · (intro w hSw; (try dsimp only at hSw); go_simp; first | done | with_reducible rfl)
            (try simp only [Act.put, List.setIfInBounds_toArray, List.set_cons_zero, List.set_cons_succ])
            refine wpAnyH_take (i := 8) (oi := (Oper.mk (some 34) (Op.move (Operand.tmp 4)) 62 "recorder.go:134" #[Edge.mk 2 Ground.guard] (some (2, false)))) (v := ?_) rfl (by kernel_rfl) (by kernel_rfl) (by kernel_rfl) (fun _ _ _ h => h) (Or.inl ⟨by rfl, ?_⟩) (by assumption) ?_
            rotate_left
            · (intro w hSw; (try dsimp only at hSw); go_simp; first | done | with_reducible rfl)
            (try simp only [Act.put, List.setIfInBounds_toArray, List.set_cons_zero, List.set_cons_succ])
            refine wpAnyH_take (i := 9) (oi := (Oper.mk (some 35) (Op.nilCheck (Operand.tmp 34)) 0 "recorder.go:134" #[Edge.mk 8 Ground.data, Edge.mk 2 Ground.guard] (some (2, false)))) (v := ?_) rfl (by kernel_rfl) (by kernel_rfl) (by kernel_rfl) (fun _ _ _ h => h) (Or.inl ⟨by rfl, ?_⟩) (by assumption) ?_
            rotate_left
            · (intro w hSw; (try dsimp only at hSw); go_simp; first | done | with_reducible rfl)
            (try simp only [Act.put, List.setIfInBounds_toArray, List.set_cons_zero, List.set_cons_succ])
            refine wpAnyH_take (i := 10) (oi := (Oper.mk (some 36) (Op.fieldAddr 65 (Operand.tmp 35) 0) 0 "recorder.go:134" #[Edge.mk 9 Ground.data, Edge.mk 2 Ground.guard] (some (2, false)))) (v := ?_) rfl (by kernel_rfl) (by kernel_rfl) (by kernel_rfl) (fun _ _ _ h => h) (Or.inl ⟨by rfl, ?_⟩) (by assumption) ?_
            rotate_left
            · (intro w hSw; (try dsimp only at hSw); go_simp; first | done | with_reducible rfl)
            (try simp only [Act.put, List.setIfInBounds_toArray, List.set_cons_zero, List.set_cons_succ])
            refine wpAnyH_take (i := 11) (oi := (Oper.mk (some 37) (Op.fieldAddr 29 (Operand.tmp 36) 2) 0 "recorder.go:134" #[Edge.mk 10 Ground.data, Edge.mk 2 Ground.guard] (some (2, false)))) (v := ?_) rfl (by kernel_rfl) (by kernel_rfl) (by kernel_rfl) (fun _ _ _ h => h) (Or.inl ⟨by rfl, ?_⟩) (by assumption) ?_
            rotate_left
            · (intro w hSw; (try dsimp only at hSw); go_simp; first | done | with_reducible rfl)
            (try simp only [Act.put, List.setIfInBounds_toArray, List.set_cons_zero, List.set_cons_succ])
            refine wpAnyH_take (i := 12) (oi := (Oper.mk (some 38) (Op.load 3 (Operand.tmp 37)) 3 "recorder.go:134" #[Edge.mk 11 Ground.data, Edge.mk 2 Ground.guard] (some (2, false)))) (v := ?_) rfl (by kernel_rfl) (by kernel_rfl) (by kernel_rfl) (fun _ _ _ h => h) (Or.inl ⟨by rfl, ?_⟩) (by assumption) ?_
            rotate_left
            · (intro w hSw; (try dsimp only at hSw); go_simp; first | done | with_reducible rfl)
            (try simp only [Act.put, List.setIfInBounds_toArray, List.set_cons_zero, List.set_cons_succ])
            refine wpAnyH_take (i := 13) (oi := (Oper.mk (some 39) (Op.binOp BinOp.lss 3 (Operand.tmp 33) (Operand.tmp 38) 3) 4 "recorder.go:134" #[Edge.mk 7 Ground.data, Edge.mk 12 Ground.data, Edge.mk 2 Ground.guard] (some (2, false)))) (v := ?_) rfl (by kernel_rfl) (by kernel_rfl) (by kernel_rfl) (fun _ _ _ h => h) (Or.inl ⟨by rfl, ?_⟩) (by assumption) ?_
            rotate_left
            · (intro w hSw; (try dsimp only at hSw); go_simp; first | done | with_reducible rfl)
            (try simp only [Act.put, List.setIfInBounds_toArray, List.set_cons_zero, List.set_cons_succ])
            refine wpAnyH_take (i := 14) (oi := (Oper.mk (some 40) (Op.pick (Operand.tmp 28) (Operand.const (Value.bool true)) (Operand.tmp 39)) 4 "recorder.go:134" #[Edge.mk 2 Ground.data, Edge.mk 13 Ground.data] none)) (v := ?_) rfl (by kernel_rfl) (by kernel_rfl) (by kernel_rfl) (fun _ _ _ h => h) (Or.inl ⟨by rfl, ?_⟩) (by assumption) ?_
            rotate_left
            · (intro w hSw; (try dsimp only at hSw); go_simp; first | done | with_reducible rfl)
            (try simp only [Act.put, List.setIfInBounds_toArray, List.set_cons_zero, List.set_cons_succ])
            refine wpAnyH_take (i := 15) (oi := (Oper.mk (some 41) (Op.move (Operand.tmp 40)) 4 "recorder.go:134" #[Edge.mk 14 Ground.data, Edge.mk 2 Ground.chain] none)) (v := ?_) rfl (by kernel_rfl) (by kernel_rfl) (by kernel_rfl) (fun _ _ _ h => h) (Or.inl ⟨by rfl, ?_⟩) (by assumption) ?_
            rotate_left
            · (intro w hSw; (try dsimp only at hSw); go_simp; first | done | with_reducible rfl)
            (try simp only [Act.put, List.setIfInBounds_toArray, List.set_cons_zero, List.set_cons_succ])
            refine wpAnyH_take (i := 16) (oi := (Oper.mk (some 42) (Op.move (Operand.tmp 6)) 62 "recorder.go:134" #[Edge.mk 15 Ground.guard] (some (15, true)))) (v := ?_) rfl (by kernel_rfl) (by kernel_rfl) (by kernel_rfl) (fun _ _ _ h => h) (Or.inl ⟨by rfl, ?_⟩) (by assumption) ?_
            rotate_left
            · (intro w hSw; (try dsimp only at hSw); go_simp; first | done | with_reducible rfl)
            (try simp only [Act.put, List.setIfInBounds_toArray, List.set_cons_zero, List.set_cons_succ])
            refine wpAnyH_ready (rs := [17]) (by kernel_rfl) (by simp) ?_
            refine AllReadyH.cons (o := (Oper.mk (some 43) (Op.call (Call.mk (Callee.value (Operand.func 28)) #[Operand.tmp 42] #[62])) 68 "recorder.go:134" #[Edge.mk 16 Ground.data, Edge.mk 15 Ground.chain, Edge.mk 15 Ground.guard] (some (15, true)))) rfl (fun K hK => ?_) (AllReadyH.nil)
            go_simp
            (go_at_call 28; refine (requested_any HSTd.out).mono ?_; intro e w3 hq; obtain ⟨rfl, hB3⟩ := RQ.yes hq HF.out HGF.out; have HB3 := Lib.hid (undrew hB3); have c4 := (HB3.out.cell (p := ⟨y.s, 2, none⟩) cl3).trans c3; have c6 := (HB3.out.cell (p := ⟨yb.s, 2, none⟩) cl5).trans c5; clear hq hB3)
            refine hK.out _ _ (by (try dsimp only); (first | exact ⟨by assumption, by assumption⟩ | go_keep)) (fun hHeld => ?_)
            clear hK K
            (try simp only [Act.put, List.setIfInBounds_toArray, List.set_cons_zero, List.set_cons_succ])
            refine wpAnyH_take (i := 18) (oi := (Oper.mk (some 44) (Op.binOp BinOp.neq 68 (Operand.tmp 43) (Operand.const (Value.pointer none)) 68) 4 "recorder.go:134" #[Edge.mk 17 Ground.data, Edge.mk 15 Ground.guard] (some (15, true)))) (v := ?_) rfl (by kernel_rfl) (by kernel_rfl) (by kernel_rfl) (fun _ _ _ h => h) (Or.inl ⟨by rfl, ?_⟩) (by assumption) ?_
            rotate_left
            · (intro w hSw; (try dsimp only at hSw); go_simp; first | done | with_reducible rfl)
            (try simp only [Act.put, List.setIfInBounds_toArray, List.set_cons_zero, List.set_cons_succ])
            refine wpAnyH_take (i := 19) (oi := (Oper.mk (some 45) (Op.pick (Operand.tmp 41) (Operand.tmp 44) (Operand.const (Value.bool false))) 4 "recorder.go:134" #[Edge.mk 15 Ground.data, Edge.mk 18 Ground.data] none)) (v := ?_) rfl (by kernel_rfl) (by kernel_rfl) (by kernel_rfl) (fun _ _ _ h => h) (Or.inl ⟨by rfl, ?_⟩) (by assumption) ?_
            rotate_left
            · (intro w hSw; (try dsimp only at hSw); go_simp; first | done | with_reducible rfl)
            (try simp only [Act.put, List.setIfInBounds_toArray, List.set_cons_zero, List.set_cons_succ])
            refine wpAnyH_done (by kernel_rfl) ?_ _
            go_wp2_with fail
            go_roundg (gk - 1)
            case rel => exact ⟨k + 1, (some (k, s.prio)), by omega, by omega, by go_num, Lib.hid ⟨y, s, HY.out, HS.out, rfl, by rw [HF.out]; rfl, rfl⟩, Lib.hid (HB.out.trans (HB3.out.mono HB.out.size)), Lib.hid (by have h9 := best_step HS.out _ HBF.out; rw [if_pos (by rw [HF.out]; simp only [St.beats, Option.isSome_some, Bool.true_and]; exact decide_eq_true HLT.out)] at h9; exact h9)⟩
            case measure => omega
        · have dlt : decide (pr < pq) = false := decide_eq_false hlt2
          have HLT : Hid (decide (s.prio < q.2) = false) := Lib.hid (decide_eq_false (by rw [← HPQ0.out, ← HPQ.out, ← HPR.out]; exact hlt2))
          clear hlt2
          go_wp2_with (go_quiet (fail))
          go_roundg (gk - 1)
          case rel => exact ⟨k + 1, some q, by omega, by omega, by go_num, Lib.hid ⟨yb, sb, HYB.out, HSB.out, HPQ0.out, HFB.out, rfl⟩, Lib.hid (HB.out.trans (Quiet.below ⟨_, rfl⟩)), Lib.hid (by have h9 := best_step HS.out _ HBF.out; rw [if_neg (by simp only [St.beats]; rw [HLT.out]; simp)] at h9; exact h9)⟩
          case measure => omega
    · have e1 : ¬ (k : Int) < (n : Int) := by omega
      have HBN : Hid (r.best = at_.map (·.1)) := Lib.hid (by
        have h9 := HBF.out
        rw [List.drop_of_length_le (by rw [← H.out.yl, ← HN.out]; omega)] at h9
        unfold RS.best
        rw [h9]
        rfl)
      cases hat : at_ with
      | none =>
        subst hat
        obtain rfl : u4 = .pointer none := HBV.out
        have HP : Hid (r.next = (r, none)) := Lib.hid (by unfold RS.next; rw [HBN.out]; rfl)
        go_wp2_with fail
        exact bodyPost_ret (v := .tuple #[.slice none 0 0, .bool false]) (by simp [results, Try.results13, go_sem]) rfl ⟨by rw [HP.out], RZ.of_below HB.out, Y, by rw [HP.out]; exact ⟨H.out.below HB.out (Nat.le_refl _), HZ.out⟩⟩
      | some q =>
        subst hat
        obtain ⟨yb, sb, hyb, hsb, hpq, hfb, rfl⟩ := HBV.out
        obtain ⟨kf, hf⟩ := Option.isSome_iff_exists.1 hfb
        have HY := Lib.hid hyb
        have HS := Lib.hid hsb
        have HF := Lib.hid hf
        have HST : Hid (StAt wr B sb yb) := Lib.hid (by
          obtain ⟨sx, hsx, hst⟩ := H.out.at hyb
          rw [hsb] at hsx
          cases hsx
          exact hst.below HB.out (Nat.le_refl _))
        obtain ⟨x, hx⟩ : ∃ x, sb.L[kf]? = some x := ⟨_, List.getElem?_eq_getElem (St.first_lt hf)⟩
        have HX := Lib.hid hx
        have HP : Hid (r.next = (r.put q.1 { sb with L := sb.L.set kf { x with want := false } }, some x.data)) := Lib.hid (by
          unfold RS.next
          rw [HBN.out]
          dsimp only [Option.map_some]
          rw [get_of hsb, hf]
          unfold St.take
          dsimp only
          rw [get_en hx])
        have HXD : Hid (x.data.length ≤ 4096) := Lib.hid (((OK.out.each sb (List.mem_of_getElem? hsb)).each x (List.mem_of_getElem? hx)).2)
        obtain ⟨gf, vd, hgf, hvd, hen⟩ := HST.out.en kf x hx
        have HGF := Lib.hid hgf
        have HVD := Lib.hid hvd
        have HR := Lib.hid (H.out.below HB.out (Nat.le_refl _))
        clear hyb hsb hpq hfb hf hx hgf hvd hen
        go_wp2_with fail
        refine (requested_any HST.out).mono ?_
        intro e w3 hq
        obtain ⟨rfl, hB3⟩ := RQ.yes hq HF.out HGF.out
        have HR3 := Lib.hid (HR.out.below hB3 (Nat.le_refl _))
        have hst3 := HST.out.below hB3 (Nat.le_refl _)
        have HST3 := Lib.hid hst3
        have HB03 := Lib.hid (HB.out.trans (hB3.mono HB.out.size))
        obtain ⟨gf', vd', h1, h2, hen⟩ := hst3.en kf x HX.out
        rw [HGF.out] at h1
        cases h1
        rw [HVD.out] at h2
        cases h2
        obtain ⟨hml, ad, cd, rfl, hcd, hmd, hbd⟩ := BAt.of_row hen.dat
        obtain ⟨m, hm⟩ : ∃ m, m = x.data.length := ⟨_, rfl⟩
        have HM := Lib.hid hm.symm
        have ce := hen.blk.at 1 rfl
        have cw := hen.blk.at 2 rfl
        have cf := hen.blk.free 2
        have cl := hen.blk.lt
        have HEN := Lib.hid hen
        obtain ⟨wn, hwn⟩ : ∃ wn, wn = x.want := ⟨_, rfl⟩
        rw [← hwn] at cw
        rw [← hm] at ce
        clear hq hB3 hst3 hen hml hbd hm hwn hcd
        go_upto_region 14 with fail
        obtain ⟨w4, hw4⟩ : ∃ w4, w4 = w3.setCell ⟨gf, 2, none⟩ (.bool false) := ⟨_, rfl⟩
        have hFg : Fr (fun k => k = gf) w3 w4 := by rw [hw4]; exact (Fr.refl _ _).set1 _ (by exact .inl rfl)
        have hset := HR3.out.setE (c := false) HY.out HST3.out HGF.out HX.out HVD.out hFg (by
          rw [hw4]
          exact Blk.cast (HEN.out.blk.setCell 2 (.bool false)) rfl)
        have hdat := own_fr HEN.out.dat hFg (fun k hk' e9 => by obtain ⟨cs, hc⟩ := own_ty HEN.out.dat hk'; subst e9; exact absurd (HEN.out.blk.kind hc) (by decide))
        obtain ⟨-, ad', cd', hve, hcd, -, hbd⟩ := BAt.of_row hdat
        rw [HM.out] at hve
        simp only [Value.slice.injEq, true_and] at hve
        obtain ⟨rfl, rfl⟩ := hve
        have HSET := Lib.hid hset.1
        have HFG : Hid (RZ Z B w3 w4) := Lib.hid (hFg.wide fun k hk => by subst hk; exact .inl ⟨⟨_, TE, _, HEN.out.blk, .inl rfl⟩, (HZ.out _ (List.mem_of_getElem? HY.out)).2 _ (List.mem_of_getElem? HGF.out), HEN.out.lo⟩)
        have HBD := Lib.hid hbd
        have ce4 : w4.cell? ⟨gf, 1, none⟩ = some (.slice ad m cd) := by rw [hw4, ← HM.out]; exact (HEN.out.blk.setCell 2 (.bool false)).at 1 rfl
        have cl4 : gf < w4.heap.size := Nat.lt_of_lt_of_le cl hFg.size
        have HSZ : Hid (w.heap.size ≤ w4.heap.size) := Lib.hid (Nat.le_trans HB03.out.size hFg.size)
        rw [← hw4]
        clear hw4 hFg hset hdat hbd ce cw cf cl hcd
        go_wp2_with fail
        refine (clone_n ad m cd x.data w4 HM.out (by have := HXD.out; omega) HBD.out).mono ?_
        rintro e w5 ⟨v5, rfl, hO, hB5⟩
        obtain ⟨a5, m5, c5, rfl⟩ := own_slice hO
        have HO := Lib.hid hO
        have HB5 := Lib.hid hB5
        clear hO hB5 ce4 cl4
        go_wp2_with fail
        exact bodyPost_ret (v := .tuple #[.slice a5 m5 c5, .bool true]) (by simp [results, Try.results13, go_sem]) rfl ⟨by rw [HP.out]; exact ⟨_, rfl, own_base HO.out HSZ.out⟩, ((RZ.of_below HB03.out).trans HFG.out).trans (RZ.of_below HB5.out), _, by rw [HP.out]; exact ⟨HSET.out.below HB5.out (Nat.le_refl _), LoZ.set HZ.out HY.out⟩⟩
end Go.Proofs.Ytnojmkmmfiahgaa

/- The reference: New. No condition. -/
import Derived.Test.YtgfloeclepmdlaaJ
import Derived.Lib.SmallJoins
namespace Go.Proofs.Ytgfloeclepmdlaa
open Go.RowKit Go.Deep Go.ChangeShapes Go.WideShapes Go.ChangeAt
set_option linter.unusedVariables false

theorem info67 : (Try.prog.info? 67).map (fun i => (i.zero, i.size, i.bytes)) = some (some (.agg #[.int .i64 0, .int .i64 0, .bool false, .bool false]), 4, 24) := by kernel_rfl
set_option maxRecDepth 20000 in
set_option maxHeartbeats 4000000 in
theorem rnew_any {w : World} {a : Option Addr} {ds : List Int} (c : Nat) (h : DefAt w a ds) (hm : ds.length ≤ 1000000) : Calls Try.prog 18 #[.slice a ds.length c] w fun e w' =>
    (okD ds ∧ ∃ a' c', e = .returned (.tuple #[.slice a' ds.length c', .int .i64 0]) ∧ RAt w' a' (ds.map fresh) ∧ (∀ k, rblk a' ds.length k → w.heap.size ≤ k) ∧ Below w.heap.size w w') ∨ (¬ okD ds ∧ e = .returned (.tuple #[.slice none 0 0, .int .i64 1]) ∧ Below w.heap.size w w') := by
  have H := Lib.hid h
  clear h
  by_cases hn : ds.length ≤ 256
  · have hn' : ¬ (256 : Int) < ds.length := by omega
    go_enter Try.func18, Try.ntmps18
    go_wp2_with fail
    go_loopw [4, 5] (fun v i wr => ∃ (k : Nat), k ≤ ds.length ∧ i = .int .i64 k ∧ wr.ownsRow w.heap.size 67 4 v k (rowC ((ds.take k).map fresh)) ∧ Below w.heap.size w wr ∧ ∀ j, j < k → ¬ badK ds j) (fun _ i _ => ds.length - (intOf i).toNat)
    case atStart => exact ⟨0, by omega, rfl, World.ownsRow_nil _ _ _ _, Below.refl _ _, fun j h => by omega⟩
    case round =>
      obtain ⟨k, hk, rfl, hO, hB, hj⟩ := hrel
      have HO := Lib.hid hO
      have HB := Lib.hid hB
      have HJ := Lib.hid hj
      clear hO hB hj
      by_cases hlt : k < ds.length
      · obtain ⟨bd, off, rfl, hbd, hcs⟩ := (H.out.below HB.out (Nat.le_refl _)).resolve_left (fun e => by rw [e] at hlt; simp at hlt)
        obtain ⟨r0, tt, r1⟩ := hcs k hlt
        have hk0 : (0 : Int) ≤ (k : Int) := by omega
        have hk1 : (k : Int) < (ds.length : Int) := by omega
        have hsz := HB.out.size
        have hx : badK ds k ∧ (ds[k] < 0 ∨ ¬ ds[k] < 0 ∧ 65535 < ds[k] ∨ ¬ ds[k] < 0 ∧ ¬ 65535 < ds[k] ∧ ∃ m y, k = m + 1 ∧ ds[k] ≤ y ∧ wr.cell? ⟨bd, off + m * 2, none⟩ = some (.int .i64 y)) ∨
            ¬ badK ds k ∧ ¬ ds[k] < 0 ∧ ¬ 65535 < ds[k] ∧ (k = 0 ∨ ∃ m y, k = m + 1 ∧ ¬ ds[k] ≤ y ∧ wr.cell? ⟨bd, off + m * 2, none⟩ = some (.int .i64 y)) := by
          have e : ds[k]?.getD 0 = ds[k] := by simp [hlt]
          by_cases h1 : ds[k] < 0
          · exact .inl ⟨.inl (by rw [e]; exact h1), .inl h1⟩
          · by_cases h2 : 65535 < ds[k]
            · exact .inl ⟨.inr (.inl (by rw [e]; exact h2)), .inr (.inl ⟨h1, h2⟩)⟩
            · rcases Nat.eq_zero_or_pos k with h3 | h3
              · exact .inr ⟨fun hb => by rcases hb with hb | hb | hb; rw [e] at hb; exact h1 hb; rw [e] at hb; exact h2 hb; omega, h1, h2, .inl h3⟩
              · obtain ⟨m, rfl⟩ : ∃ m, k = m + 1 := ⟨k - 1, by omega⟩
                have e2 : ds[m + 1 - 1]?.getD 0 = ds[m] := by simp [show m < ds.length by omega]
                have hc := (hcs m (by omega)).1
                by_cases h4 : ds[m + 1] ≤ ds[m]
                · exact .inl ⟨.inr (.inr ⟨by omega, by rw [e, e2]; exact h4⟩), .inr (.inr ⟨h1, h2, m, ds[m], rfl, h4, hc⟩)⟩
                · exact .inr ⟨fun hb => by rcases hb with hb | hb | hb; rw [e] at hb; exact h1 hb; rw [e] at hb; exact h2 hb; rw [e, e2] at hb; exact h4 hb.2, h1, h2, .inr ⟨m, ds[m], rfl, h4, hc⟩⟩
        clear hcs
        have HLT := Lib.hid hlt
        have HTF := Lib.hid (take_fresh ds hlt)
        generalize ds[k] = x at r0 hx HTF
        clear hlt
        rcases hx with ⟨hbad, hx | ⟨hx1, hx2⟩ | ⟨hx1, hx2, m, y, hkm, hxy, hy⟩⟩ | ⟨hbad, hx1, hx2, hx3⟩
        · have HBAD := Lib.hid hbad
          clear hbad
          go_wp2_with fail
          refine wp_region_held_drew (S := (fun w' => w'.cell? ⟨bd, off + k * 2, none⟩ = some (.int .i64 x))) (by kernel_rfl) (by (try dsimp only); go_keep) (fun hHeld => ?_)
          refine wpAnyH_take (i := 0) (oi := (Oper.mk (some 15) (Op.move (Operand.tmp 0)) 29 "ref.go:22" #[] none)) (v := ?v0tee80) rfl (by kernel_rfl) (by kernel_rfl) (by kernel_rfl) (fun _ _ _ h => h) (Or.inl ⟨by rfl, ?hy0tee80⟩) (by assumption) ?rest0tee80
          case hy0tee80 => (intro w hSw; (try dsimp only at hSw); go_simp; first | done | with_reducible rfl)
          (try simp only [Act.put, List.setIfInBounds_toArray, List.set_cons_zero, List.set_cons_succ])
          refine wpAnyH_take (i := 1) (oi := (Oper.mk (some 16) (Op.move (Operand.tmp 5)) 3 "ref.go:22" #[] none)) (v := ?v1tee80) rfl (by kernel_rfl) (by kernel_rfl) (by kernel_rfl) (fun _ _ _ h => h) (Or.inl ⟨by rfl, ?hy1tee80⟩) (by assumption) ?rest1tee80
          case hy1tee80 => (intro w hSw; (try dsimp only at hSw); go_simp; first | done | with_reducible rfl)
          (try simp only [Act.put, List.setIfInBounds_toArray, List.set_cons_zero, List.set_cons_succ])
          refine wpAnyH_take (i := 2) (oi := (Oper.mk (some 17) (Op.indexAddr 29 (Operand.tmp 15) (Operand.tmp 16)) 0 "ref.go:22" #[Edge.mk 0 Ground.data, Edge.mk 1 Ground.data] none)) (v := ?v2tee80) rfl (by kernel_rfl) (by kernel_rfl) (by kernel_rfl) (fun _ _ _ h => h) (Or.inl ⟨by rfl, ?hy2tee80⟩) (by assumption) ?rest2tee80
          case hy2tee80 => (intro w hSw; (try dsimp only at hSw); go_simp; first | done | with_reducible rfl)
          (try simp only [Act.put, List.setIfInBounds_toArray, List.set_cons_zero, List.set_cons_succ])
          refine wpAnyH_take (i := 3) (oi := (Oper.mk (some 18) (Op.fieldAddr 28 (Operand.tmp 17) 0) 0 "ref.go:22" #[Edge.mk 2 Ground.data] none)) (v := ?v3tee80) rfl (by kernel_rfl) (by kernel_rfl) (by kernel_rfl) (fun _ _ _ h => h) (Or.inl ⟨by rfl, ?hy3tee80⟩) (by assumption) ?rest3tee80
          case hy3tee80 => (intro w hSw; (try dsimp only at hSw); go_simp; first | done | with_reducible rfl)
          (try simp only [Act.put, List.setIfInBounds_toArray, List.set_cons_zero, List.set_cons_succ])
          refine wpAnyH_take (i := 4) (oi := (Oper.mk (some 19) (Op.load 3 (Operand.tmp 18)) 3 "ref.go:22" #[Edge.mk 3 Ground.data] none)) (v := ?v4tee80) rfl (by kernel_rfl) (by kernel_rfl) (by kernel_rfl) (fun _ _ _ h => h) (Or.inl ⟨by rfl, ?hy4tee80⟩) (by assumption) ?rest4tee80
          case hy4tee80 => (intro w hSw; (try dsimp only at hSw); go_simp; first | done | with_reducible rfl)
          (try simp only [Act.put, List.setIfInBounds_toArray, List.set_cons_zero, List.set_cons_succ])
          refine wpAnyH_take (i := 5) (oi := (Oper.mk (some 20) (Op.binOp BinOp.lss 3 (Operand.tmp 19) (Operand.const (Value.int IntKind.i64 0)) 3) 4 "ref.go:22" #[Edge.mk 4 Ground.data] none)) (v := ?v5tee80) rfl (by kernel_rfl) (by kernel_rfl) (by kernel_rfl) (fun _ _ _ h => h) (Or.inl ⟨by rfl, ?hy5tee80⟩) (by assumption) ?rest5tee80
          case hy5tee80 => (intro w hSw; (try dsimp only at hSw); go_simp; first | done | with_reducible rfl)
          (try simp only [Act.put, List.setIfInBounds_toArray, List.set_cons_zero, List.set_cons_succ])
          refine wpAnyH_take (i := 6) (oi := (Oper.mk (some 21) (Op.move (Operand.tmp 20)) 4 "ref.go:22" #[Edge.mk 5 Ground.data] none)) (v := ?v6tee80) rfl (by kernel_rfl) (by kernel_rfl) (by kernel_rfl) (fun _ _ _ h => h) (Or.inl ⟨by rfl, ?hy6tee80⟩) (by assumption) ?rest6tee80
          case hy6tee80 => (intro w hSw; (try dsimp only at hSw); go_simp; first | done | with_reducible rfl)
          (try simp only [Act.put, List.setIfInBounds_toArray, List.set_cons_zero, List.set_cons_succ])
          refine wpAnyH_take (i := 7) (oi := (Oper.mk (some 22) (Op.move (Operand.tmp 0)) 29 "ref.go:22" #[Edge.mk 6 Ground.guard] (some (6, false)))) (v := undef) rfl (by kernel_rfl) (by kernel_rfl) (by kernel_rfl) (fun _ _ _ h => h) (Or.inr ⟨by rfl, rfl⟩) (by assumption) ?_
          (try simp only [Act.put, List.setIfInBounds_toArray, List.set_cons_zero, List.set_cons_succ])
          refine wpAnyH_take (i := 8) (oi := (Oper.mk (some 23) (Op.move (Operand.tmp 5)) 3 "ref.go:22" #[Edge.mk 6 Ground.guard] (some (6, false)))) (v := undef) rfl (by kernel_rfl) (by kernel_rfl) (by kernel_rfl) (fun _ _ _ h => h) (Or.inr ⟨by rfl, rfl⟩) (by assumption) ?_
          (try simp only [Act.put, List.setIfInBounds_toArray, List.set_cons_zero, List.set_cons_succ])
          refine wpAnyH_take (i := 9) (oi := (Oper.mk (some 24) (Op.indexAddr 29 (Operand.tmp 22) (Operand.tmp 23)) 0 "ref.go:22" #[Edge.mk 7 Ground.data, Edge.mk 8 Ground.data, Edge.mk 6 Ground.guard] (some (6, false)))) (v := undef) rfl (by kernel_rfl) (by kernel_rfl) (by kernel_rfl) (fun _ _ _ h => h) (Or.inr ⟨by rfl, rfl⟩) (by assumption) ?_
          (try simp only [Act.put, List.setIfInBounds_toArray, List.set_cons_zero, List.set_cons_succ])
          refine wpAnyH_take (i := 10) (oi := (Oper.mk (some 25) (Op.fieldAddr 28 (Operand.tmp 24) 0) 0 "ref.go:22" #[Edge.mk 9 Ground.data, Edge.mk 6 Ground.guard] (some (6, false)))) (v := undef) rfl (by kernel_rfl) (by kernel_rfl) (by kernel_rfl) (fun _ _ _ h => h) (Or.inr ⟨by rfl, rfl⟩) (by assumption) ?_
          (try simp only [Act.put, List.setIfInBounds_toArray, List.set_cons_zero, List.set_cons_succ])
          refine wpAnyH_take (i := 11) (oi := (Oper.mk (some 26) (Op.load 3 (Operand.tmp 25)) 3 "ref.go:22" #[Edge.mk 10 Ground.data, Edge.mk 6 Ground.guard] (some (6, false)))) (v := undef) rfl (by kernel_rfl) (by kernel_rfl) (by kernel_rfl) (fun _ _ _ h => h) (Or.inr ⟨by rfl, rfl⟩) (by assumption) ?_
          (try simp only [Act.put, List.setIfInBounds_toArray, List.set_cons_zero, List.set_cons_succ])
          refine wpAnyH_take (i := 12) (oi := (Oper.mk (some 27) (Op.binOp BinOp.gtr 3 (Operand.tmp 26) (Operand.const (Value.int IntKind.i64 65535)) 3) 4 "ref.go:22" #[Edge.mk 11 Ground.data, Edge.mk 6 Ground.guard] (some (6, false)))) (v := undef) rfl (by kernel_rfl) (by kernel_rfl) (by kernel_rfl) (fun _ _ _ h => h) (Or.inr ⟨by rfl, rfl⟩) (by assumption) ?_
          (try simp only [Act.put, List.setIfInBounds_toArray, List.set_cons_zero, List.set_cons_succ])
          refine wpAnyH_take (i := 13) (oi := (Oper.mk (some 28) (Op.pick (Operand.tmp 21) (Operand.const (Value.bool true)) (Operand.tmp 27)) 4 "ref.go:22" #[Edge.mk 6 Ground.data, Edge.mk 12 Ground.data] none)) (v := ?v13tee80) rfl (by kernel_rfl) (by kernel_rfl) (by kernel_rfl) (fun _ _ _ h => h) (Or.inl ⟨by rfl, ?hy13tee80⟩) (by assumption) ?rest13tee80
          case hy13tee80 => (intro w hSw; (try dsimp only at hSw); go_simp; first | done | with_reducible rfl)
          (try simp only [Act.put, List.setIfInBounds_toArray, List.set_cons_zero, List.set_cons_succ])
          refine wpAnyH_take (i := 14) (oi := (Oper.mk (some 29) (Op.move (Operand.tmp 28)) 4 "ref.go:22" #[Edge.mk 13 Ground.data, Edge.mk 6 Ground.chain] none)) (v := ?v14tee80) rfl (by kernel_rfl) (by kernel_rfl) (by kernel_rfl) (fun _ _ _ h => h) (Or.inl ⟨by rfl, ?hy14tee80⟩) (by assumption) ?rest14tee80
          case hy14tee80 => (intro w hSw; (try dsimp only at hSw); go_simp; first | done | with_reducible rfl)
          (try simp only [Act.put, List.setIfInBounds_toArray, List.set_cons_zero, List.set_cons_succ])
          refine wpAnyH_take (i := 15) (oi := (Oper.mk (some 30) (Op.move (Operand.tmp 5)) 3 "ref.go:22" #[Edge.mk 14 Ground.guard] (some (14, false)))) (v := undef) rfl (by kernel_rfl) (by kernel_rfl) (by kernel_rfl) (fun _ _ _ h => h) (Or.inr ⟨by rfl, rfl⟩) (by assumption) ?_
          (try simp only [Act.put, List.setIfInBounds_toArray, List.set_cons_zero, List.set_cons_succ])
          refine wpAnyH_take (i := 16) (oi := (Oper.mk (some 31) (Op.binOp BinOp.gtr 3 (Operand.tmp 30) (Operand.const (Value.int IntKind.i64 0)) 3) 4 "ref.go:22" #[Edge.mk 15 Ground.data, Edge.mk 14 Ground.guard] (some (14, false)))) (v := undef) rfl (by kernel_rfl) (by kernel_rfl) (by kernel_rfl) (fun _ _ _ h => h) (Or.inr ⟨by rfl, rfl⟩) (by assumption) ?_
          (try simp only [Act.put, List.setIfInBounds_toArray, List.set_cons_zero, List.set_cons_succ])
          refine wpAnyH_take (i := 17) (oi := (Oper.mk (some 32) (Op.move (Operand.tmp 31)) 4 "ref.go:22" #[Edge.mk 16 Ground.data, Edge.mk 14 Ground.chain, Edge.mk 14 Ground.guard] (some (14, false)))) (v := undef) rfl (by kernel_rfl) (by kernel_rfl) (by kernel_rfl) (fun _ _ _ h => h) (Or.inr ⟨by rfl, rfl⟩) (by assumption) ?_
          (try simp only [Act.put, List.setIfInBounds_toArray, List.set_cons_zero, List.set_cons_succ])
          refine wpAnyH_take (i := 18) (oi := (Oper.mk (some 33) (Op.move (Operand.tmp 0)) 29 "ref.go:22" #[Edge.mk 17 Ground.guard] (some (17, true)))) (v := undef) rfl (by kernel_rfl) (by kernel_rfl) (by kernel_rfl) (fun _ _ _ h => h) (Or.inr ⟨by rfl, rfl⟩) (by assumption) ?_
          (try simp only [Act.put, List.setIfInBounds_toArray, List.set_cons_zero, List.set_cons_succ])
          refine wpAnyH_take (i := 19) (oi := (Oper.mk (some 34) (Op.move (Operand.tmp 5)) 3 "ref.go:22" #[Edge.mk 17 Ground.guard] (some (17, true)))) (v := undef) rfl (by kernel_rfl) (by kernel_rfl) (by kernel_rfl) (fun _ _ _ h => h) (Or.inr ⟨by rfl, rfl⟩) (by assumption) ?_
          (try simp only [Act.put, List.setIfInBounds_toArray, List.set_cons_zero, List.set_cons_succ])
          refine wpAnyH_take (i := 20) (oi := (Oper.mk (some 35) (Op.indexAddr 29 (Operand.tmp 33) (Operand.tmp 34)) 0 "ref.go:22" #[Edge.mk 18 Ground.data, Edge.mk 19 Ground.data, Edge.mk 17 Ground.guard] (some (17, true)))) (v := undef) rfl (by kernel_rfl) (by kernel_rfl) (by kernel_rfl) (fun _ _ _ h => h) (Or.inr ⟨by rfl, rfl⟩) (by assumption) ?_
          (try simp only [Act.put, List.setIfInBounds_toArray, List.set_cons_zero, List.set_cons_succ])
          refine wpAnyH_take (i := 21) (oi := (Oper.mk (some 36) (Op.fieldAddr 28 (Operand.tmp 35) 0) 0 "ref.go:22" #[Edge.mk 20 Ground.data, Edge.mk 17 Ground.guard] (some (17, true)))) (v := undef) rfl (by kernel_rfl) (by kernel_rfl) (by kernel_rfl) (fun _ _ _ h => h) (Or.inr ⟨by rfl, rfl⟩) (by assumption) ?_
          (try simp only [Act.put, List.setIfInBounds_toArray, List.set_cons_zero, List.set_cons_succ])
          refine wpAnyH_take (i := 22) (oi := (Oper.mk (some 37) (Op.load 3 (Operand.tmp 36)) 3 "ref.go:22" #[Edge.mk 21 Ground.data, Edge.mk 17 Ground.guard] (some (17, true)))) (v := undef) rfl (by kernel_rfl) (by kernel_rfl) (by kernel_rfl) (fun _ _ _ h => h) (Or.inr ⟨by rfl, rfl⟩) (by assumption) ?_
          (try simp only [Act.put, List.setIfInBounds_toArray, List.set_cons_zero, List.set_cons_succ])
          refine wpAnyH_take (i := 23) (oi := (Oper.mk (some 38) (Op.move (Operand.tmp 0)) 29 "ref.go:22" #[Edge.mk 17 Ground.guard] (some (17, true)))) (v := undef) rfl (by kernel_rfl) (by kernel_rfl) (by kernel_rfl) (fun _ _ _ h => h) (Or.inr ⟨by rfl, rfl⟩) (by assumption) ?_
          (try simp only [Act.put, List.setIfInBounds_toArray, List.set_cons_zero, List.set_cons_succ])
          refine wpAnyH_take (i := 24) (oi := (Oper.mk (some 39) (Op.move (Operand.tmp 5)) 3 "ref.go:22" #[Edge.mk 17 Ground.guard] (some (17, true)))) (v := undef) rfl (by kernel_rfl) (by kernel_rfl) (by kernel_rfl) (fun _ _ _ h => h) (Or.inr ⟨by rfl, rfl⟩) (by assumption) ?_
          (try simp only [Act.put, List.setIfInBounds_toArray, List.set_cons_zero, List.set_cons_succ])
          refine wpAnyH_take (i := 25) (oi := (Oper.mk (some 40) (Op.binOp BinOp.sub 3 (Operand.tmp 39) (Operand.const (Value.int IntKind.i64 1)) 3) 3 "ref.go:22" #[Edge.mk 24 Ground.data, Edge.mk 17 Ground.guard] (some (17, true)))) (v := undef) rfl (by kernel_rfl) (by kernel_rfl) (by kernel_rfl) (fun _ _ _ h => h) (Or.inr ⟨by rfl, rfl⟩) (by assumption) ?_
          (try simp only [Act.put, List.setIfInBounds_toArray, List.set_cons_zero, List.set_cons_succ])
          refine wpAnyH_take (i := 26) (oi := (Oper.mk (some 41) (Op.indexAddr 29 (Operand.tmp 38) (Operand.tmp 40)) 0 "ref.go:22" #[Edge.mk 23 Ground.data, Edge.mk 25 Ground.data, Edge.mk 17 Ground.guard] (some (17, true)))) (v := undef) rfl (by kernel_rfl) (by kernel_rfl) (by kernel_rfl) (fun _ _ _ h => h) (Or.inr ⟨by rfl, rfl⟩) (by assumption) ?_
          (try simp only [Act.put, List.setIfInBounds_toArray, List.set_cons_zero, List.set_cons_succ])
          refine wpAnyH_take (i := 27) (oi := (Oper.mk (some 42) (Op.fieldAddr 28 (Operand.tmp 41) 0) 0 "ref.go:22" #[Edge.mk 26 Ground.data, Edge.mk 17 Ground.guard] (some (17, true)))) (v := undef) rfl (by kernel_rfl) (by kernel_rfl) (by kernel_rfl) (fun _ _ _ h => h) (Or.inr ⟨by rfl, rfl⟩) (by assumption) ?_
          (try simp only [Act.put, List.setIfInBounds_toArray, List.set_cons_zero, List.set_cons_succ])
          refine wpAnyH_take (i := 28) (oi := (Oper.mk (some 43) (Op.load 3 (Operand.tmp 42)) 3 "ref.go:22" #[Edge.mk 27 Ground.data, Edge.mk 17 Ground.guard] (some (17, true)))) (v := undef) rfl (by kernel_rfl) (by kernel_rfl) (by kernel_rfl) (fun _ _ _ h => h) (Or.inr ⟨by rfl, rfl⟩) (by assumption) ?_
          (try simp only [Act.put, List.setIfInBounds_toArray, List.set_cons_zero, List.set_cons_succ])
          refine wpAnyH_take (i := 29) (oi := (Oper.mk (some 44) (Op.binOp BinOp.leq 3 (Operand.tmp 37) (Operand.tmp 43) 3) 4 "ref.go:22" #[Edge.mk 22 Ground.data, Edge.mk 28 Ground.data, Edge.mk 17 Ground.guard] (some (17, true)))) (v := undef) rfl (by kernel_rfl) (by kernel_rfl) (by kernel_rfl) (fun _ _ _ h => h) (Or.inr ⟨by rfl, rfl⟩) (by assumption) ?_
          (try simp only [Act.put, List.setIfInBounds_toArray, List.set_cons_zero, List.set_cons_succ])
          refine wpAnyH_take (i := 30) (oi := (Oper.mk (some 45) (Op.pick (Operand.tmp 32) (Operand.tmp 44) (Operand.const (Value.bool false))) 4 "ref.go:22" #[Edge.mk 17 Ground.data, Edge.mk 29 Ground.data, Edge.mk 14 Ground.guard] (some (14, false)))) (v := undef) rfl (by kernel_rfl) (by kernel_rfl) (by kernel_rfl) (fun _ _ _ h => h) (Or.inr ⟨by rfl, rfl⟩) (by assumption) ?_
          (try simp only [Act.put, List.setIfInBounds_toArray, List.set_cons_zero, List.set_cons_succ])
          refine wpAnyH_take (i := 31) (oi := (Oper.mk (some 46) (Op.pick (Operand.tmp 29) (Operand.const (Value.bool true)) (Operand.tmp 45)) 4 "ref.go:22" #[Edge.mk 14 Ground.data, Edge.mk 30 Ground.data] none)) (v := ?v31tee80) rfl (by kernel_rfl) (by kernel_rfl) (by kernel_rfl) (fun _ _ _ h => h) (Or.inl ⟨by rfl, ?hy31tee80⟩) (by assumption) ?rest31tee80
          case hy31tee80 => (intro w hSw; (try dsimp only at hSw); go_simp; first | done | with_reducible rfl)
          (try simp only [Act.put, List.setIfInBounds_toArray, List.set_cons_zero, List.set_cons_succ])
          refine wpAnyH_done (by kernel_rfl) ?_ _
          go_wp2_with fail
          go_ret2
          exact .inr ⟨fun h => h.2 k HLT.out HBAD.out, rfl, HB.out.drew⟩
        · have HBAD := Lib.hid hbad
          have b1 : decide (x < 0) = false := decide_eq_false hx1
          have b2 : decide (65535 < x) = true := decide_eq_true hx2
          clear hx1 hx2
          clear hbad
          go_wp2_with fail
          refine wp_region_held_drew (S := (fun w' => w'.cell? ⟨bd, off + k * 2, none⟩ = some (.int .i64 x))) (by kernel_rfl) (by (try dsimp only); go_keep) (fun hHeld => ?_)
          refine wpAnyH_take (i := 0) (oi := (Oper.mk (some 15) (Op.move (Operand.tmp 0)) 29 "ref.go:22" #[] none)) (v := ?v0t667d) rfl (by kernel_rfl) (by kernel_rfl) (by kernel_rfl) (fun _ _ _ h => h) (Or.inl ⟨by rfl, ?hy0t667d⟩) (by assumption) ?rest0t667d
          case hy0t667d => (intro w hSw; (try dsimp only at hSw); go_simp; first | done | with_reducible rfl)
          (try simp only [Act.put, List.setIfInBounds_toArray, List.set_cons_zero, List.set_cons_succ])
          refine wpAnyH_take (i := 1) (oi := (Oper.mk (some 16) (Op.move (Operand.tmp 5)) 3 "ref.go:22" #[] none)) (v := ?v1t667d) rfl (by kernel_rfl) (by kernel_rfl) (by kernel_rfl) (fun _ _ _ h => h) (Or.inl ⟨by rfl, ?hy1t667d⟩) (by assumption) ?rest1t667d
          case hy1t667d => (intro w hSw; (try dsimp only at hSw); go_simp; first | done | with_reducible rfl)
          (try simp only [Act.put, List.setIfInBounds_toArray, List.set_cons_zero, List.set_cons_succ])
          refine wpAnyH_take (i := 2) (oi := (Oper.mk (some 17) (Op.indexAddr 29 (Operand.tmp 15) (Operand.tmp 16)) 0 "ref.go:22" #[Edge.mk 0 Ground.data, Edge.mk 1 Ground.data] none)) (v := ?v2t667d) rfl (by kernel_rfl) (by kernel_rfl) (by kernel_rfl) (fun _ _ _ h => h) (Or.inl ⟨by rfl, ?hy2t667d⟩) (by assumption) ?rest2t667d
          case hy2t667d => (intro w hSw; (try dsimp only at hSw); go_simp; first | done | with_reducible rfl)
          (try simp only [Act.put, List.setIfInBounds_toArray, List.set_cons_zero, List.set_cons_succ])
          refine wpAnyH_take (i := 3) (oi := (Oper.mk (some 18) (Op.fieldAddr 28 (Operand.tmp 17) 0) 0 "ref.go:22" #[Edge.mk 2 Ground.data] none)) (v := ?v3t667d) rfl (by kernel_rfl) (by kernel_rfl) (by kernel_rfl) (fun _ _ _ h => h) (Or.inl ⟨by rfl, ?hy3t667d⟩) (by assumption) ?rest3t667d
          case hy3t667d => (intro w hSw; (try dsimp only at hSw); go_simp; first | done | with_reducible rfl)
          (try simp only [Act.put, List.setIfInBounds_toArray, List.set_cons_zero, List.set_cons_succ])
          refine wpAnyH_take (i := 4) (oi := (Oper.mk (some 19) (Op.load 3 (Operand.tmp 18)) 3 "ref.go:22" #[Edge.mk 3 Ground.data] none)) (v := ?v4t667d) rfl (by kernel_rfl) (by kernel_rfl) (by kernel_rfl) (fun _ _ _ h => h) (Or.inl ⟨by rfl, ?hy4t667d⟩) (by assumption) ?rest4t667d
          case hy4t667d => (intro w hSw; (try dsimp only at hSw); go_simp; first | done | with_reducible rfl)
          (try simp only [Act.put, List.setIfInBounds_toArray, List.set_cons_zero, List.set_cons_succ])
          refine wpAnyH_take (i := 5) (oi := (Oper.mk (some 20) (Op.binOp BinOp.lss 3 (Operand.tmp 19) (Operand.const (Value.int IntKind.i64 0)) 3) 4 "ref.go:22" #[Edge.mk 4 Ground.data] none)) (v := ?v5t667d) rfl (by kernel_rfl) (by kernel_rfl) (by kernel_rfl) (fun _ _ _ h => h) (Or.inl ⟨by rfl, ?hy5t667d⟩) (by assumption) ?rest5t667d
          case hy5t667d => (intro w hSw; (try dsimp only at hSw); go_simp; first | done | with_reducible rfl)
          (try simp only [Act.put, List.setIfInBounds_toArray, List.set_cons_zero, List.set_cons_succ])
          refine wpAnyH_take (i := 6) (oi := (Oper.mk (some 21) (Op.move (Operand.tmp 20)) 4 "ref.go:22" #[Edge.mk 5 Ground.data] none)) (v := ?v6t667d) rfl (by kernel_rfl) (by kernel_rfl) (by kernel_rfl) (fun _ _ _ h => h) (Or.inl ⟨by rfl, ?hy6t667d⟩) (by assumption) ?rest6t667d
          case hy6t667d => (intro w hSw; (try dsimp only at hSw); go_simp; first | done | with_reducible rfl)
          (try simp only [Act.put, List.setIfInBounds_toArray, List.set_cons_zero, List.set_cons_succ])
          refine wpAnyH_take (i := 7) (oi := (Oper.mk (some 22) (Op.move (Operand.tmp 0)) 29 "ref.go:22" #[Edge.mk 6 Ground.guard] (some (6, false)))) (v := ?v7t667d) rfl (by kernel_rfl) (by kernel_rfl) (by kernel_rfl) (fun _ _ _ h => h) (Or.inl ⟨by rfl, ?hy7t667d⟩) (by assumption) ?rest7t667d
          case hy7t667d => (intro w hSw; (try dsimp only at hSw); go_simp; first | done | with_reducible rfl)
          (try simp only [Act.put, List.setIfInBounds_toArray, List.set_cons_zero, List.set_cons_succ])
          refine wpAnyH_take (i := 8) (oi := (Oper.mk (some 23) (Op.move (Operand.tmp 5)) 3 "ref.go:22" #[Edge.mk 6 Ground.guard] (some (6, false)))) (v := ?v8t667d) rfl (by kernel_rfl) (by kernel_rfl) (by kernel_rfl) (fun _ _ _ h => h) (Or.inl ⟨by rfl, ?hy8t667d⟩) (by assumption) ?rest8t667d
          case hy8t667d => (intro w hSw; (try dsimp only at hSw); go_simp; first | done | with_reducible rfl)
          (try simp only [Act.put, List.setIfInBounds_toArray, List.set_cons_zero, List.set_cons_succ])
          refine wpAnyH_take (i := 9) (oi := (Oper.mk (some 24) (Op.indexAddr 29 (Operand.tmp 22) (Operand.tmp 23)) 0 "ref.go:22" #[Edge.mk 7 Ground.data, Edge.mk 8 Ground.data, Edge.mk 6 Ground.guard] (some (6, false)))) (v := ?v9t667d) rfl (by kernel_rfl) (by kernel_rfl) (by kernel_rfl) (fun _ _ _ h => h) (Or.inl ⟨by rfl, ?hy9t667d⟩) (by assumption) ?rest9t667d
          case hy9t667d => (intro w hSw; (try dsimp only at hSw); go_simp; first | done | with_reducible rfl)
          (try simp only [Act.put, List.setIfInBounds_toArray, List.set_cons_zero, List.set_cons_succ])
          refine wpAnyH_take (i := 10) (oi := (Oper.mk (some 25) (Op.fieldAddr 28 (Operand.tmp 24) 0) 0 "ref.go:22" #[Edge.mk 9 Ground.data, Edge.mk 6 Ground.guard] (some (6, false)))) (v := ?v10t667d) rfl (by kernel_rfl) (by kernel_rfl) (by kernel_rfl) (fun _ _ _ h => h) (Or.inl ⟨by rfl, ?hy10t667d⟩) (by assumption) ?rest10t667d
          case hy10t667d => (intro w hSw; (try dsimp only at hSw); go_simp; first | done | with_reducible rfl)
          (try simp only [Act.put, List.setIfInBounds_toArray, List.set_cons_zero, List.set_cons_succ])
          refine wpAnyH_take (i := 11) (oi := (Oper.mk (some 26) (Op.load 3 (Operand.tmp 25)) 3 "ref.go:22" #[Edge.mk 10 Ground.data, Edge.mk 6 Ground.guard] (some (6, false)))) (v := ?v11t667d) rfl (by kernel_rfl) (by kernel_rfl) (by kernel_rfl) (fun _ _ _ h => h) (Or.inl ⟨by rfl, ?hy11t667d⟩) (by assumption) ?rest11t667d
          case hy11t667d => (intro w hSw; (try dsimp only at hSw); go_simp; first | done | with_reducible rfl)
          (try simp only [Act.put, List.setIfInBounds_toArray, List.set_cons_zero, List.set_cons_succ])
          refine wpAnyH_take (i := 12) (oi := (Oper.mk (some 27) (Op.binOp BinOp.gtr 3 (Operand.tmp 26) (Operand.const (Value.int IntKind.i64 65535)) 3) 4 "ref.go:22" #[Edge.mk 11 Ground.data, Edge.mk 6 Ground.guard] (some (6, false)))) (v := ?v12t667d) rfl (by kernel_rfl) (by kernel_rfl) (by kernel_rfl) (fun _ _ _ h => h) (Or.inl ⟨by rfl, ?hy12t667d⟩) (by assumption) ?rest12t667d
          case hy12t667d => (intro w hSw; (try dsimp only at hSw); go_simp; first | done | with_reducible rfl)
          (try simp only [Act.put, List.setIfInBounds_toArray, List.set_cons_zero, List.set_cons_succ])
          refine wpAnyH_take (i := 13) (oi := (Oper.mk (some 28) (Op.pick (Operand.tmp 21) (Operand.const (Value.bool true)) (Operand.tmp 27)) 4 "ref.go:22" #[Edge.mk 6 Ground.data, Edge.mk 12 Ground.data] none)) (v := ?v13t667d) rfl (by kernel_rfl) (by kernel_rfl) (by kernel_rfl) (fun _ _ _ h => h) (Or.inl ⟨by rfl, ?hy13t667d⟩) (by assumption) ?rest13t667d
          case hy13t667d => (intro w hSw; (try dsimp only at hSw); go_simp; first | done | with_reducible rfl)
          (try simp only [Act.put, List.setIfInBounds_toArray, List.set_cons_zero, List.set_cons_succ])
          refine wpAnyH_take (i := 14) (oi := (Oper.mk (some 29) (Op.move (Operand.tmp 28)) 4 "ref.go:22" #[Edge.mk 13 Ground.data, Edge.mk 6 Ground.chain] none)) (v := ?v14t667d) rfl (by kernel_rfl) (by kernel_rfl) (by kernel_rfl) (fun _ _ _ h => h) (Or.inl ⟨by rfl, ?hy14t667d⟩) (by assumption) ?rest14t667d
          case hy14t667d => (intro w hSw; (try dsimp only at hSw); go_simp; first | done | with_reducible rfl)
          (try simp only [Act.put, List.setIfInBounds_toArray, List.set_cons_zero, List.set_cons_succ])
          refine wpAnyH_take (i := 15) (oi := (Oper.mk (some 30) (Op.move (Operand.tmp 5)) 3 "ref.go:22" #[Edge.mk 14 Ground.guard] (some (14, false)))) (v := undef) rfl (by kernel_rfl) (by kernel_rfl) (by kernel_rfl) (fun _ _ _ h => h) (Or.inr ⟨by rfl, rfl⟩) (by assumption) ?_
          (try simp only [Act.put, List.setIfInBounds_toArray, List.set_cons_zero, List.set_cons_succ])
          refine wpAnyH_take (i := 16) (oi := (Oper.mk (some 31) (Op.binOp BinOp.gtr 3 (Operand.tmp 30) (Operand.const (Value.int IntKind.i64 0)) 3) 4 "ref.go:22" #[Edge.mk 15 Ground.data, Edge.mk 14 Ground.guard] (some (14, false)))) (v := undef) rfl (by kernel_rfl) (by kernel_rfl) (by kernel_rfl) (fun _ _ _ h => h) (Or.inr ⟨by rfl, rfl⟩) (by assumption) ?_
          (try simp only [Act.put, List.setIfInBounds_toArray, List.set_cons_zero, List.set_cons_succ])
          refine wpAnyH_take (i := 17) (oi := (Oper.mk (some 32) (Op.move (Operand.tmp 31)) 4 "ref.go:22" #[Edge.mk 16 Ground.data, Edge.mk 14 Ground.chain, Edge.mk 14 Ground.guard] (some (14, false)))) (v := undef) rfl (by kernel_rfl) (by kernel_rfl) (by kernel_rfl) (fun _ _ _ h => h) (Or.inr ⟨by rfl, rfl⟩) (by assumption) ?_
          (try simp only [Act.put, List.setIfInBounds_toArray, List.set_cons_zero, List.set_cons_succ])
          refine wpAnyH_take (i := 18) (oi := (Oper.mk (some 33) (Op.move (Operand.tmp 0)) 29 "ref.go:22" #[Edge.mk 17 Ground.guard] (some (17, true)))) (v := undef) rfl (by kernel_rfl) (by kernel_rfl) (by kernel_rfl) (fun _ _ _ h => h) (Or.inr ⟨by rfl, rfl⟩) (by assumption) ?_
          (try simp only [Act.put, List.setIfInBounds_toArray, List.set_cons_zero, List.set_cons_succ])
          refine wpAnyH_take (i := 19) (oi := (Oper.mk (some 34) (Op.move (Operand.tmp 5)) 3 "ref.go:22" #[Edge.mk 17 Ground.guard] (some (17, true)))) (v := undef) rfl (by kernel_rfl) (by kernel_rfl) (by kernel_rfl) (fun _ _ _ h => h) (Or.inr ⟨by rfl, rfl⟩) (by assumption) ?_
          (try simp only [Act.put, List.setIfInBounds_toArray, List.set_cons_zero, List.set_cons_succ])
          refine wpAnyH_take (i := 20) (oi := (Oper.mk (some 35) (Op.indexAddr 29 (Operand.tmp 33) (Operand.tmp 34)) 0 "ref.go:22" #[Edge.mk 18 Ground.data, Edge.mk 19 Ground.data, Edge.mk 17 Ground.guard] (some (17, true)))) (v := undef) rfl (by kernel_rfl) (by kernel_rfl) (by kernel_rfl) (fun _ _ _ h => h) (Or.inr ⟨by rfl, rfl⟩) (by assumption) ?_
          (try simp only [Act.put, List.setIfInBounds_toArray, List.set_cons_zero, List.set_cons_succ])
          refine wpAnyH_take (i := 21) (oi := (Oper.mk (some 36) (Op.fieldAddr 28 (Operand.tmp 35) 0) 0 "ref.go:22" #[Edge.mk 20 Ground.data, Edge.mk 17 Ground.guard] (some (17, true)))) (v := undef) rfl (by kernel_rfl) (by kernel_rfl) (by kernel_rfl) (fun _ _ _ h => h) (Or.inr ⟨by rfl, rfl⟩) (by assumption) ?_
          (try simp only [Act.put, List.setIfInBounds_toArray, List.set_cons_zero, List.set_cons_succ])
          refine wpAnyH_take (i := 22) (oi := (Oper.mk (some 37) (Op.load 3 (Operand.tmp 36)) 3 "ref.go:22" #[Edge.mk 21 Ground.data, Edge.mk 17 Ground.guard] (some (17, true)))) (v := undef) rfl (by kernel_rfl) (by kernel_rfl) (by kernel_rfl) (fun _ _ _ h => h) (Or.inr ⟨by rfl, rfl⟩) (by assumption) ?_
          (try simp only [Act.put, List.setIfInBounds_toArray, List.set_cons_zero, List.set_cons_succ])
          refine wpAnyH_take (i := 23) (oi := (Oper.mk (some 38) (Op.move (Operand.tmp 0)) 29 "ref.go:22" #[Edge.mk 17 Ground.guard] (some (17, true)))) (v := undef) rfl (by kernel_rfl) (by kernel_rfl) (by kernel_rfl) (fun _ _ _ h => h) (Or.inr ⟨by rfl, rfl⟩) (by assumption) ?_
          (try simp only [Act.put, List.setIfInBounds_toArray, List.set_cons_zero, List.set_cons_succ])
          refine wpAnyH_take (i := 24) (oi := (Oper.mk (some 39) (Op.move (Operand.tmp 5)) 3 "ref.go:22" #[Edge.mk 17 Ground.guard] (some (17, true)))) (v := undef) rfl (by kernel_rfl) (by kernel_rfl) (by kernel_rfl) (fun _ _ _ h => h) (Or.inr ⟨by rfl, rfl⟩) (by assumption) ?_
          (try simp only [Act.put, List.setIfInBounds_toArray, List.set_cons_zero, List.set_cons_succ])
          refine wpAnyH_take (i := 25) (oi := (Oper.mk (some 40) (Op.binOp BinOp.sub 3 (Operand.tmp 39) (Operand.const (Value.int IntKind.i64 1)) 3) 3 "ref.go:22" #[Edge.mk 24 Ground.data, Edge.mk 17 Ground.guard] (some (17, true)))) (v := undef) rfl (by kernel_rfl) (by kernel_rfl) (by kernel_rfl) (fun _ _ _ h => h) (Or.inr ⟨by rfl, rfl⟩) (by assumption) ?_
          (try simp only [Act.put, List.setIfInBounds_toArray, List.set_cons_zero, List.set_cons_succ])
          refine wpAnyH_take (i := 26) (oi := (Oper.mk (some 41) (Op.indexAddr 29 (Operand.tmp 38) (Operand.tmp 40)) 0 "ref.go:22" #[Edge.mk 23 Ground.data, Edge.mk 25 Ground.data, Edge.mk 17 Ground.guard] (some (17, true)))) (v := undef) rfl (by kernel_rfl) (by kernel_rfl) (by kernel_rfl) (fun _ _ _ h => h) (Or.inr ⟨by rfl, rfl⟩) (by assumption) ?_
          (try simp only [Act.put, List.setIfInBounds_toArray, List.set_cons_zero, List.set_cons_succ])
          refine wpAnyH_take (i := 27) (oi := (Oper.mk (some 42) (Op.fieldAddr 28 (Operand.tmp 41) 0) 0 "ref.go:22" #[Edge.mk 26 Ground.data, Edge.mk 17 Ground.guard] (some (17, true)))) (v := undef) rfl (by kernel_rfl) (by kernel_rfl) (by kernel_rfl) (fun _ _ _ h => h) (Or.inr ⟨by rfl, rfl⟩) (by assumption) ?_
          (try simp only [Act.put, List.setIfInBounds_toArray, List.set_cons_zero, List.set_cons_succ])
          refine wpAnyH_take (i := 28) (oi := (Oper.mk (some 43) (Op.load 3 (Operand.tmp 42)) 3 "ref.go:22" #[Edge.mk 27 Ground.data, Edge.mk 17 Ground.guard] (some (17, true)))) (v := undef) rfl (by kernel_rfl) (by kernel_rfl) (by kernel_rfl) (fun _ _ _ h => h) (Or.inr ⟨by rfl, rfl⟩) (by assumption) ?_
          (try simp only [Act.put, List.setIfInBounds_toArray, List.set_cons_zero, List.set_cons_succ])
          refine wpAnyH_take (i := 29) (oi := (Oper.mk (some 44) (Op.binOp BinOp.leq 3 (Operand.tmp 37) (Operand.tmp 43) 3) 4 "ref.go:22" #[Edge.mk 22 Ground.data, Edge.mk 28 Ground.data, Edge.mk 17 Ground.guard] (some (17, true)))) (v := undef) rfl (by kernel_rfl) (by kernel_rfl) (by kernel_rfl) (fun _ _ _ h => h) (Or.inr ⟨by rfl, rfl⟩) (by assumption) ?_
          (try simp only [Act.put, List.setIfInBounds_toArray, List.set_cons_zero, List.set_cons_succ])
          refine wpAnyH_take (i := 30) (oi := (Oper.mk (some 45) (Op.pick (Operand.tmp 32) (Operand.tmp 44) (Operand.const (Value.bool false))) 4 "ref.go:22" #[Edge.mk 17 Ground.data, Edge.mk 29 Ground.data, Edge.mk 14 Ground.guard] (some (14, false)))) (v := undef) rfl (by kernel_rfl) (by kernel_rfl) (by kernel_rfl) (fun _ _ _ h => h) (Or.inr ⟨by rfl, rfl⟩) (by assumption) ?_
          (try simp only [Act.put, List.setIfInBounds_toArray, List.set_cons_zero, List.set_cons_succ])
          refine wpAnyH_take (i := 31) (oi := (Oper.mk (some 46) (Op.pick (Operand.tmp 29) (Operand.const (Value.bool true)) (Operand.tmp 45)) 4 "ref.go:22" #[Edge.mk 14 Ground.data, Edge.mk 30 Ground.data] none)) (v := ?v31t667d) rfl (by kernel_rfl) (by kernel_rfl) (by kernel_rfl) (fun _ _ _ h => h) (Or.inl ⟨by rfl, ?hy31t667d⟩) (by assumption) ?rest31t667d
          case hy31t667d => (intro w hSw; (try dsimp only at hSw); go_simp; first | done | with_reducible rfl)
          (try simp only [Act.put, List.setIfInBounds_toArray, List.set_cons_zero, List.set_cons_succ])
          refine wpAnyH_done (by kernel_rfl) ?_ _
          go_wp2_with fail
          go_ret2
          exact .inr ⟨fun h => h.2 k HLT.out HBAD.out, rfl, HB.out.drew⟩
        · have HBAD := Lib.hid hbad
          clear hbad
          have q5 : IntKind.i64.wrap ((k : Int) - 1) = m := by rw [IntWalk.i64_in _ (by omega)]; omega
          have hk2 : (0 : Int) < (k : Int) := by omega
          have hm1 : (m : Int) < (ds.length : Int) := by omega
          have hm0 : (0 : Int) ≤ (m : Int) := by omega
          have b1 : decide (x < 0) = false := decide_eq_false hx1
          have b2 : decide (65535 < x) = false := decide_eq_false hx2
          have b3 : decide ((0 : Int) < (k : Int)) = true := decide_eq_true hk2
          have b5 : decide (0 < k) = true := decide_eq_true (by omega)
          have b4 : decide (x ≤ y) = true := decide_eq_true hxy
          have HKM := Lib.hid hkm
          clear hkm hx1 hx2 hk2 hxy
          go_wp2_with fail
          refine wp_region_held_drew (S := (fun w' => w'.cell? ⟨bd, off + k * 2, none⟩ = some (.int .i64 x) ∧ w'.cell? ⟨bd, off + m * 2, none⟩ = some (.int .i64 y))) (by kernel_rfl) (by (try dsimp only); go_keep) (fun hHeld => ?_)
          refine wpAnyH_take (i := 0) (oi := (Oper.mk (some 15) (Op.move (Operand.tmp 0)) 29 "ref.go:22" #[] none)) (v := ?v0t2b8e) rfl (by kernel_rfl) (by kernel_rfl) (by kernel_rfl) (fun _ _ _ h => h) (Or.inl ⟨by rfl, ?hy0t2b8e⟩) (by assumption) ?rest0t2b8e
          case hy0t2b8e => (intro w hSw; (try dsimp only at hSw); go_simp; first | done | with_reducible rfl)
          (try simp only [Act.put, List.setIfInBounds_toArray, List.set_cons_zero, List.set_cons_succ])
          refine wpAnyH_take (i := 1) (oi := (Oper.mk (some 16) (Op.move (Operand.tmp 5)) 3 "ref.go:22" #[] none)) (v := ?v1t2b8e) rfl (by kernel_rfl) (by kernel_rfl) (by kernel_rfl) (fun _ _ _ h => h) (Or.inl ⟨by rfl, ?hy1t2b8e⟩) (by assumption) ?rest1t2b8e
          case hy1t2b8e => (intro w hSw; (try dsimp only at hSw); go_simp; first | done | with_reducible rfl)
          (try simp only [Act.put, List.setIfInBounds_toArray, List.set_cons_zero, List.set_cons_succ])
          refine wpAnyH_take (i := 2) (oi := (Oper.mk (some 17) (Op.indexAddr 29 (Operand.tmp 15) (Operand.tmp 16)) 0 "ref.go:22" #[Edge.mk 0 Ground.data, Edge.mk 1 Ground.data] none)) (v := ?v2t2b8e) rfl (by kernel_rfl) (by kernel_rfl) (by kernel_rfl) (fun _ _ _ h => h) (Or.inl ⟨by rfl, ?hy2t2b8e⟩) (by assumption) ?rest2t2b8e
          case hy2t2b8e => (intro w hSw; (try dsimp only at hSw); go_simp; first | done | with_reducible rfl)
          (try simp only [Act.put, List.setIfInBounds_toArray, List.set_cons_zero, List.set_cons_succ])
          refine wpAnyH_take (i := 3) (oi := (Oper.mk (some 18) (Op.fieldAddr 28 (Operand.tmp 17) 0) 0 "ref.go:22" #[Edge.mk 2 Ground.data] none)) (v := ?v3t2b8e) rfl (by kernel_rfl) (by kernel_rfl) (by kernel_rfl) (fun _ _ _ h => h) (Or.inl ⟨by rfl, ?hy3t2b8e⟩) (by assumption) ?rest3t2b8e
          case hy3t2b8e => (intro w hSw; (try dsimp only at hSw); go_simp; first | done | with_reducible rfl)
          (try simp only [Act.put, List.setIfInBounds_toArray, List.set_cons_zero, List.set_cons_succ])
          refine wpAnyH_take (i := 4) (oi := (Oper.mk (some 19) (Op.load 3 (Operand.tmp 18)) 3 "ref.go:22" #[Edge.mk 3 Ground.data] none)) (v := ?v4t2b8e) rfl (by kernel_rfl) (by kernel_rfl) (by kernel_rfl) (fun _ _ _ h => h) (Or.inl ⟨by rfl, ?hy4t2b8e⟩) (by assumption) ?rest4t2b8e
          case hy4t2b8e => (intro w hSw; (try dsimp only at hSw); go_simp; first | done | with_reducible rfl)
          (try simp only [Act.put, List.setIfInBounds_toArray, List.set_cons_zero, List.set_cons_succ])
          refine wpAnyH_take (i := 5) (oi := (Oper.mk (some 20) (Op.binOp BinOp.lss 3 (Operand.tmp 19) (Operand.const (Value.int IntKind.i64 0)) 3) 4 "ref.go:22" #[Edge.mk 4 Ground.data] none)) (v := ?v5t2b8e) rfl (by kernel_rfl) (by kernel_rfl) (by kernel_rfl) (fun _ _ _ h => h) (Or.inl ⟨by rfl, ?hy5t2b8e⟩) (by assumption) ?rest5t2b8e
          case hy5t2b8e => (intro w hSw; (try dsimp only at hSw); go_simp; first | done | with_reducible rfl)
          (try simp only [Act.put, List.setIfInBounds_toArray, List.set_cons_zero, List.set_cons_succ])
          refine wpAnyH_take (i := 6) (oi := (Oper.mk (some 21) (Op.move (Operand.tmp 20)) 4 "ref.go:22" #[Edge.mk 5 Ground.data] none)) (v := ?v6t2b8e) rfl (by kernel_rfl) (by kernel_rfl) (by kernel_rfl) (fun _ _ _ h => h) (Or.inl ⟨by rfl, ?hy6t2b8e⟩) (by assumption) ?rest6t2b8e
          case hy6t2b8e => (intro w hSw; (try dsimp only at hSw); go_simp; first | done | with_reducible rfl)
          (try simp only [Act.put, List.setIfInBounds_toArray, List.set_cons_zero, List.set_cons_succ])
          refine wpAnyH_take (i := 7) (oi := (Oper.mk (some 22) (Op.move (Operand.tmp 0)) 29 "ref.go:22" #[Edge.mk 6 Ground.guard] (some (6, false)))) (v := ?v7t2b8e) rfl (by kernel_rfl) (by kernel_rfl) (by kernel_rfl) (fun _ _ _ h => h) (Or.inl ⟨by rfl, ?hy7t2b8e⟩) (by assumption) ?rest7t2b8e
          case hy7t2b8e => (intro w hSw; (try dsimp only at hSw); go_simp; first | done | with_reducible rfl)
          (try simp only [Act.put, List.setIfInBounds_toArray, List.set_cons_zero, List.set_cons_succ])
          refine wpAnyH_take (i := 8) (oi := (Oper.mk (some 23) (Op.move (Operand.tmp 5)) 3 "ref.go:22" #[Edge.mk 6 Ground.guard] (some (6, false)))) (v := ?v8t2b8e) rfl (by kernel_rfl) (by kernel_rfl) (by kernel_rfl) (fun _ _ _ h => h) (Or.inl ⟨by rfl, ?hy8t2b8e⟩) (by assumption) ?rest8t2b8e
          case hy8t2b8e => (intro w hSw; (try dsimp only at hSw); go_simp; first | done | with_reducible rfl)
          (try simp only [Act.put, List.setIfInBounds_toArray, List.set_cons_zero, List.set_cons_succ])
          refine wpAnyH_take (i := 9) (oi := (Oper.mk (some 24) (Op.indexAddr 29 (Operand.tmp 22) (Operand.tmp 23)) 0 "ref.go:22" #[Edge.mk 7 Ground.data, Edge.mk 8 Ground.data, Edge.mk 6 Ground.guard] (some (6, false)))) (v := ?v9t2b8e) rfl (by kernel_rfl) (by kernel_rfl) (by kernel_rfl) (fun _ _ _ h => h) (Or.inl ⟨by rfl, ?hy9t2b8e⟩) (by assumption) ?rest9t2b8e
          case hy9t2b8e => (intro w hSw; (try dsimp only at hSw); go_simp; first | done | with_reducible rfl)
          (try simp only [Act.put, List.setIfInBounds_toArray, List.set_cons_zero, List.set_cons_succ])
          refine wpAnyH_take (i := 10) (oi := (Oper.mk (some 25) (Op.fieldAddr 28 (Operand.tmp 24) 0) 0 "ref.go:22" #[Edge.mk 9 Ground.data, Edge.mk 6 Ground.guard] (some (6, false)))) (v := ?v10t2b8e) rfl (by kernel_rfl) (by kernel_rfl) (by kernel_rfl) (fun _ _ _ h => h) (Or.inl ⟨by rfl, ?hy10t2b8e⟩) (by assumption) ?rest10t2b8e
          case hy10t2b8e => (intro w hSw; (try dsimp only at hSw); go_simp; first | done | with_reducible rfl)
          (try simp only [Act.put, List.setIfInBounds_toArray, List.set_cons_zero, List.set_cons_succ])
          refine wpAnyH_take (i := 11) (oi := (Oper.mk (some 26) (Op.load 3 (Operand.tmp 25)) 3 "ref.go:22" #[Edge.mk 10 Ground.data, Edge.mk 6 Ground.guard] (some (6, false)))) (v := ?v11t2b8e) rfl (by kernel_rfl) (by kernel_rfl) (by kernel_rfl) (fun _ _ _ h => h) (Or.inl ⟨by rfl, ?hy11t2b8e⟩) (by assumption) ?rest11t2b8e
          case hy11t2b8e => (intro w hSw; (try dsimp only at hSw); go_simp; first | done | with_reducible rfl)
          (try simp only [Act.put, List.setIfInBounds_toArray, List.set_cons_zero, List.set_cons_succ])
          refine wpAnyH_take (i := 12) (oi := (Oper.mk (some 27) (Op.binOp BinOp.gtr 3 (Operand.tmp 26) (Operand.const (Value.int IntKind.i64 65535)) 3) 4 "ref.go:22" #[Edge.mk 11 Ground.data, Edge.mk 6 Ground.guard] (some (6, false)))) (v := ?v12t2b8e) rfl (by kernel_rfl) (by kernel_rfl) (by kernel_rfl) (fun _ _ _ h => h) (Or.inl ⟨by rfl, ?hy12t2b8e⟩) (by assumption) ?rest12t2b8e
          case hy12t2b8e => (intro w hSw; (try dsimp only at hSw); go_simp; first | done | with_reducible rfl)
          (try simp only [Act.put, List.setIfInBounds_toArray, List.set_cons_zero, List.set_cons_succ])
          refine wpAnyH_take (i := 13) (oi := (Oper.mk (some 28) (Op.pick (Operand.tmp 21) (Operand.const (Value.bool true)) (Operand.tmp 27)) 4 "ref.go:22" #[Edge.mk 6 Ground.data, Edge.mk 12 Ground.data] none)) (v := ?v13t2b8e) rfl (by kernel_rfl) (by kernel_rfl) (by kernel_rfl) (fun _ _ _ h => h) (Or.inl ⟨by rfl, ?hy13t2b8e⟩) (by assumption) ?rest13t2b8e
          case hy13t2b8e => (intro w hSw; (try dsimp only at hSw); go_simp; first | done | with_reducible rfl)
          (try simp only [Act.put, List.setIfInBounds_toArray, List.set_cons_zero, List.set_cons_succ])
          refine wpAnyH_take (i := 14) (oi := (Oper.mk (some 29) (Op.move (Operand.tmp 28)) 4 "ref.go:22" #[Edge.mk 13 Ground.data, Edge.mk 6 Ground.chain] none)) (v := ?v14t2b8e) rfl (by kernel_rfl) (by kernel_rfl) (by kernel_rfl) (fun _ _ _ h => h) (Or.inl ⟨by rfl, ?hy14t2b8e⟩) (by assumption) ?rest14t2b8e
          case hy14t2b8e => (intro w hSw; (try dsimp only at hSw); go_simp; first | done | with_reducible rfl)
          (try simp only [Act.put, List.setIfInBounds_toArray, List.set_cons_zero, List.set_cons_succ])
          refine wpAnyH_take (i := 15) (oi := (Oper.mk (some 30) (Op.move (Operand.tmp 5)) 3 "ref.go:22" #[Edge.mk 14 Ground.guard] (some (14, false)))) (v := ?v15t2b8e) rfl (by kernel_rfl) (by kernel_rfl) (by kernel_rfl) (fun _ _ _ h => h) (Or.inl ⟨by rfl, ?hy15t2b8e⟩) (by assumption) ?rest15t2b8e
          case hy15t2b8e => (intro w hSw; (try dsimp only at hSw); go_simp; first | done | with_reducible rfl)
          (try simp only [Act.put, List.setIfInBounds_toArray, List.set_cons_zero, List.set_cons_succ])
          refine wpAnyH_take (i := 16) (oi := (Oper.mk (some 31) (Op.binOp BinOp.gtr 3 (Operand.tmp 30) (Operand.const (Value.int IntKind.i64 0)) 3) 4 "ref.go:22" #[Edge.mk 15 Ground.data, Edge.mk 14 Ground.guard] (some (14, false)))) (v := ?v16t2b8e) rfl (by kernel_rfl) (by kernel_rfl) (by kernel_rfl) (fun _ _ _ h => h) (Or.inl ⟨by rfl, ?hy16t2b8e⟩) (by assumption) ?rest16t2b8e
          case hy16t2b8e => (intro w hSw; (try dsimp only at hSw); go_simp; first | done | with_reducible rfl)
          (try simp only [Act.put, List.setIfInBounds_toArray, List.set_cons_zero, List.set_cons_succ])
          refine wpAnyH_take (i := 17) (oi := (Oper.mk (some 32) (Op.move (Operand.tmp 31)) 4 "ref.go:22" #[Edge.mk 16 Ground.data, Edge.mk 14 Ground.chain, Edge.mk 14 Ground.guard] (some (14, false)))) (v := ?v17t2b8e) rfl (by kernel_rfl) (by kernel_rfl) (by kernel_rfl) (fun _ _ _ h => h) (Or.inl ⟨by rfl, ?hy17t2b8e⟩) (by assumption) ?rest17t2b8e
          case hy17t2b8e => (intro w hSw; (try dsimp only at hSw); go_simp; first | done | with_reducible rfl)
          (try simp only [Act.put, List.setIfInBounds_toArray, List.set_cons_zero, List.set_cons_succ])
          refine wpAnyH_take (i := 18) (oi := (Oper.mk (some 33) (Op.move (Operand.tmp 0)) 29 "ref.go:22" #[Edge.mk 17 Ground.guard] (some (17, true)))) (v := ?v18t2b8e) rfl (by kernel_rfl) (by kernel_rfl) (by kernel_rfl) (fun _ _ _ h => h) (Or.inl ⟨by rfl, ?hy18t2b8e⟩) (by assumption) ?rest18t2b8e
          case hy18t2b8e => (intro w hSw; (try dsimp only at hSw); go_simp; first | done | with_reducible rfl)
          (try simp only [Act.put, List.setIfInBounds_toArray, List.set_cons_zero, List.set_cons_succ])
          refine wpAnyH_take (i := 19) (oi := (Oper.mk (some 34) (Op.move (Operand.tmp 5)) 3 "ref.go:22" #[Edge.mk 17 Ground.guard] (some (17, true)))) (v := ?v19t2b8e) rfl (by kernel_rfl) (by kernel_rfl) (by kernel_rfl) (fun _ _ _ h => h) (Or.inl ⟨by rfl, ?hy19t2b8e⟩) (by assumption) ?rest19t2b8e
          case hy19t2b8e => (intro w hSw; (try dsimp only at hSw); go_simp; first | done | with_reducible rfl)
          (try simp only [Act.put, List.setIfInBounds_toArray, List.set_cons_zero, List.set_cons_succ])
          refine wpAnyH_take (i := 20) (oi := (Oper.mk (some 35) (Op.indexAddr 29 (Operand.tmp 33) (Operand.tmp 34)) 0 "ref.go:22" #[Edge.mk 18 Ground.data, Edge.mk 19 Ground.data, Edge.mk 17 Ground.guard] (some (17, true)))) (v := ?v20t2b8e) rfl (by kernel_rfl) (by kernel_rfl) (by kernel_rfl) (fun _ _ _ h => h) (Or.inl ⟨by rfl, ?hy20t2b8e⟩) (by assumption) ?rest20t2b8e
          case hy20t2b8e => (intro w hSw; (try dsimp only at hSw); go_simp; first | done | with_reducible rfl)
          (try simp only [Act.put, List.setIfInBounds_toArray, List.set_cons_zero, List.set_cons_succ])
          refine wpAnyH_take (i := 21) (oi := (Oper.mk (some 36) (Op.fieldAddr 28 (Operand.tmp 35) 0) 0 "ref.go:22" #[Edge.mk 20 Ground.data, Edge.mk 17 Ground.guard] (some (17, true)))) (v := ?v21t2b8e) rfl (by kernel_rfl) (by kernel_rfl) (by kernel_rfl) (fun _ _ _ h => h) (Or.inl ⟨by rfl, ?hy21t2b8e⟩) (by assumption) ?rest21t2b8e
          case hy21t2b8e => (intro w hSw; (try dsimp only at hSw); go_simp; first | done | with_reducible rfl)
          (try simp only [Act.put, List.setIfInBounds_toArray, List.set_cons_zero, List.set_cons_succ])
          refine wpAnyH_take (i := 22) (oi := (Oper.mk (some 37) (Op.load 3 (Operand.tmp 36)) 3 "ref.go:22" #[Edge.mk 21 Ground.data, Edge.mk 17 Ground.guard] (some (17, true)))) (v := ?v22t2b8e) rfl (by kernel_rfl) (by kernel_rfl) (by kernel_rfl) (fun _ _ _ h => h) (Or.inl ⟨by rfl, ?hy22t2b8e⟩) (by assumption) ?rest22t2b8e
          case hy22t2b8e => (intro w hSw; (try dsimp only at hSw); go_simp; first | done | with_reducible rfl)
          (try simp only [Act.put, List.setIfInBounds_toArray, List.set_cons_zero, List.set_cons_succ])
          refine wpAnyH_take (i := 23) (oi := (Oper.mk (some 38) (Op.move (Operand.tmp 0)) 29 "ref.go:22" #[Edge.mk 17 Ground.guard] (some (17, true)))) (v := ?v23t2b8e) rfl (by kernel_rfl) (by kernel_rfl) (by kernel_rfl) (fun _ _ _ h => h) (Or.inl ⟨by rfl, ?hy23t2b8e⟩) (by assumption) ?rest23t2b8e
          case hy23t2b8e => (intro w hSw; (try dsimp only at hSw); go_simp; first | done | with_reducible rfl)
          (try simp only [Act.put, List.setIfInBounds_toArray, List.set_cons_zero, List.set_cons_succ])
          refine wpAnyH_take (i := 24) (oi := (Oper.mk (some 39) (Op.move (Operand.tmp 5)) 3 "ref.go:22" #[Edge.mk 17 Ground.guard] (some (17, true)))) (v := ?v24t2b8e) rfl (by kernel_rfl) (by kernel_rfl) (by kernel_rfl) (fun _ _ _ h => h) (Or.inl ⟨by rfl, ?hy24t2b8e⟩) (by assumption) ?rest24t2b8e
          case hy24t2b8e => (intro w hSw; (try dsimp only at hSw); go_simp; first | done | with_reducible rfl)
          (try simp only [Act.put, List.setIfInBounds_toArray, List.set_cons_zero, List.set_cons_succ])
          refine wpAnyH_take (i := 25) (oi := (Oper.mk (some 40) (Op.binOp BinOp.sub 3 (Operand.tmp 39) (Operand.const (Value.int IntKind.i64 1)) 3) 3 "ref.go:22" #[Edge.mk 24 Ground.data, Edge.mk 17 Ground.guard] (some (17, true)))) (v := ?v25t2b8e) rfl (by kernel_rfl) (by kernel_rfl) (by kernel_rfl) (fun _ _ _ h => h) (Or.inl ⟨by rfl, ?hy25t2b8e⟩) (by assumption) ?rest25t2b8e
          case hy25t2b8e => (intro w hSw; (try dsimp only at hSw); go_simp; first | done | with_reducible rfl)
          (try simp only [Act.put, List.setIfInBounds_toArray, List.set_cons_zero, List.set_cons_succ])
          refine wpAnyH_take (i := 26) (oi := (Oper.mk (some 41) (Op.indexAddr 29 (Operand.tmp 38) (Operand.tmp 40)) 0 "ref.go:22" #[Edge.mk 23 Ground.data, Edge.mk 25 Ground.data, Edge.mk 17 Ground.guard] (some (17, true)))) (v := ?v26t2b8e) rfl (by kernel_rfl) (by kernel_rfl) (by kernel_rfl) (fun _ _ _ h => h) (Or.inl ⟨by rfl, ?hy26t2b8e⟩) (by assumption) ?rest26t2b8e
          case hy26t2b8e => (intro w hSw; (try dsimp only at hSw); go_simp; first | done | with_reducible rfl)
          (try simp only [Act.put, List.setIfInBounds_toArray, List.set_cons_zero, List.set_cons_succ])
          refine wpAnyH_take (i := 27) (oi := (Oper.mk (some 42) (Op.fieldAddr 28 (Operand.tmp 41) 0) 0 "ref.go:22" #[Edge.mk 26 Ground.data, Edge.mk 17 Ground.guard] (some (17, true)))) (v := ?v27t2b8e) rfl (by kernel_rfl) (by kernel_rfl) (by kernel_rfl) (fun _ _ _ h => h) (Or.inl ⟨by rfl, ?hy27t2b8e⟩) (by assumption) ?rest27t2b8e
          case hy27t2b8e => (intro w hSw; (try dsimp only at hSw); go_simp; first | done | with_reducible rfl)
          (try simp only [Act.put, List.setIfInBounds_toArray, List.set_cons_zero, List.set_cons_succ])
          refine wpAnyH_take (i := 28) (oi := (Oper.mk (some 43) (Op.load 3 (Operand.tmp 42)) 3 "ref.go:22" #[Edge.mk 27 Ground.data, Edge.mk 17 Ground.guard] (some (17, true)))) (v := ?v28t2b8e) rfl (by kernel_rfl) (by kernel_rfl) (by kernel_rfl) (fun _ _ _ h => h) (Or.inl ⟨by rfl, ?hy28t2b8e⟩) (by assumption) ?rest28t2b8e
          case hy28t2b8e => (intro w hSw; (try dsimp only at hSw); go_simp; first | done | with_reducible rfl)
          (try simp only [Act.put, List.setIfInBounds_toArray, List.set_cons_zero, List.set_cons_succ])
          refine wpAnyH_take (i := 29) (oi := (Oper.mk (some 44) (Op.binOp BinOp.leq 3 (Operand.tmp 37) (Operand.tmp 43) 3) 4 "ref.go:22" #[Edge.mk 22 Ground.data, Edge.mk 28 Ground.data, Edge.mk 17 Ground.guard] (some (17, true)))) (v := ?v29t2b8e) rfl (by kernel_rfl) (by kernel_rfl) (by kernel_rfl) (fun _ _ _ h => h) (Or.inl ⟨by rfl, ?hy29t2b8e⟩) (by assumption) ?rest29t2b8e
          case hy29t2b8e => (intro w hSw; (try dsimp only at hSw); go_simp; first | done | with_reducible rfl)
          (try simp only [Act.put, List.setIfInBounds_toArray, List.set_cons_zero, List.set_cons_succ])
          refine wpAnyH_take (i := 30) (oi := (Oper.mk (some 45) (Op.pick (Operand.tmp 32) (Operand.tmp 44) (Operand.const (Value.bool false))) 4 "ref.go:22" #[Edge.mk 17 Ground.data, Edge.mk 29 Ground.data, Edge.mk 14 Ground.guard] (some (14, false)))) (v := ?v30t2b8e) rfl (by kernel_rfl) (by kernel_rfl) (by kernel_rfl) (fun _ _ _ h => h) (Or.inl ⟨by rfl, ?hy30t2b8e⟩) (by assumption) ?rest30t2b8e
          case hy30t2b8e => (intro w hSw; (try dsimp only at hSw); go_simp; first | done | with_reducible rfl)
          (try simp only [Act.put, List.setIfInBounds_toArray, List.set_cons_zero, List.set_cons_succ])
          refine wpAnyH_take (i := 31) (oi := (Oper.mk (some 46) (Op.pick (Operand.tmp 29) (Operand.const (Value.bool true)) (Operand.tmp 45)) 4 "ref.go:22" #[Edge.mk 14 Ground.data, Edge.mk 30 Ground.data] none)) (v := ?v31t2b8e) rfl (by kernel_rfl) (by kernel_rfl) (by kernel_rfl) (fun _ _ _ h => h) (Or.inl ⟨by rfl, ?hy31t2b8e⟩) (by assumption) ?rest31t2b8e
          case hy31t2b8e => (intro w hSw; (try dsimp only at hSw); go_simp; first | done | with_reducible rfl)
          (try simp only [Act.put, List.setIfInBounds_toArray, List.set_cons_zero, List.set_cons_succ])
          refine wpAnyH_done (by kernel_rfl) ?_ _
          go_wp2_with fail
          go_ret2
          exact .inr ⟨fun h => h.2 k HLT.out HBAD.out, rfl, HB.out.drew⟩
        · have HBAD := Lib.hid hbad
          clear hbad
          obtain ⟨i0, hi, hz0, hz1, hz2⟩ := info_parts info67
          rcases hx3 with hx3 | ⟨m, y, hkm, hxy, hy⟩
          · have HK := Lib.hid hx3
            have hk2 : ¬ (0 : Int) < (k : Int) := by omega
            have b1 : decide (x < 0) = false := decide_eq_false hx1
            have b2 : decide (65535 < x) = false := decide_eq_false hx2
            have b3 : decide ((0 : Int) < (k : Int)) = false := decide_eq_false hk2
            have b5 : decide (0 < k) = false := decide_eq_false (by omega)
            clear hx3 hx1 hx2 hk2
            go_wp2_with fail
            refine wp_region_held_drew (S := (fun w' => w'.cell? ⟨bd, off + k * 2, none⟩ = some (.int .i64 x))) (by kernel_rfl) (by (try dsimp only); go_keep) (fun hHeld => ?_)
            refine wpAnyH_take (i := 0) (oi := (Oper.mk (some 15) (Op.move (Operand.tmp 0)) 29 "ref.go:22" #[] none)) (v := ?v0t4a8a) rfl (by kernel_rfl) (by kernel_rfl) (by kernel_rfl) (fun _ _ _ h => h) (Or.inl ⟨by rfl, ?hy0t4a8a⟩) (by assumption) ?rest0t4a8a
            case hy0t4a8a => (intro w hSw; (try dsimp only at hSw); go_simp; first | done | with_reducible rfl)
            (try simp only [Act.put, List.setIfInBounds_toArray, List.set_cons_zero, List.set_cons_succ])
            refine wpAnyH_take (i := 1) (oi := (Oper.mk (some 16) (Op.move (Operand.tmp 5)) 3 "ref.go:22" #[] none)) (v := ?v1t4a8a) rfl (by kernel_rfl) (by kernel_rfl) (by kernel_rfl) (fun _ _ _ h => h) (Or.inl ⟨by rfl, ?hy1t4a8a⟩) (by assumption) ?rest1t4a8a
            case hy1t4a8a => (intro w hSw; (try dsimp only at hSw); go_simp; first | done | with_reducible rfl)
            (try simp only [Act.put, List.setIfInBounds_toArray, List.set_cons_zero, List.set_cons_succ])
            refine wpAnyH_take (i := 2) (oi := (Oper.mk (some 17) (Op.indexAddr 29 (Operand.tmp 15) (Operand.tmp 16)) 0 "ref.go:22" #[Edge.mk 0 Ground.data, Edge.mk 1 Ground.data] none)) (v := ?v2t4a8a) rfl (by kernel_rfl) (by kernel_rfl) (by kernel_rfl) (fun _ _ _ h => h) (Or.inl ⟨by rfl, ?hy2t4a8a⟩) (by assumption) ?rest2t4a8a
            case hy2t4a8a => (intro w hSw; (try dsimp only at hSw); go_simp; first | done | with_reducible rfl)
            (try simp only [Act.put, List.setIfInBounds_toArray, List.set_cons_zero, List.set_cons_succ])
            refine wpAnyH_take (i := 3) (oi := (Oper.mk (some 18) (Op.fieldAddr 28 (Operand.tmp 17) 0) 0 "ref.go:22" #[Edge.mk 2 Ground.data] none)) (v := ?v3t4a8a) rfl (by kernel_rfl) (by kernel_rfl) (by kernel_rfl) (fun _ _ _ h => h) (Or.inl ⟨by rfl, ?hy3t4a8a⟩) (by assumption) ?rest3t4a8a
            case hy3t4a8a => (intro w hSw; (try dsimp only at hSw); go_simp; first | done | with_reducible rfl)
            (try simp only [Act.put, List.setIfInBounds_toArray, List.set_cons_zero, List.set_cons_succ])
            refine wpAnyH_take (i := 4) (oi := (Oper.mk (some 19) (Op.load 3 (Operand.tmp 18)) 3 "ref.go:22" #[Edge.mk 3 Ground.data] none)) (v := ?v4t4a8a) rfl (by kernel_rfl) (by kernel_rfl) (by kernel_rfl) (fun _ _ _ h => h) (Or.inl ⟨by rfl, ?hy4t4a8a⟩) (by assumption) ?rest4t4a8a
            case hy4t4a8a => (intro w hSw; (try dsimp only at hSw); go_simp; first | done | with_reducible rfl)
            (try simp only [Act.put, List.setIfInBounds_toArray, List.set_cons_zero, List.set_cons_succ])
            refine wpAnyH_take (i := 5) (oi := (Oper.mk (some 20) (Op.binOp BinOp.lss 3 (Operand.tmp 19) (Operand.const (Value.int IntKind.i64 0)) 3) 4 "ref.go:22" #[Edge.mk 4 Ground.data] none)) (v := ?v5t4a8a) rfl (by kernel_rfl) (by kernel_rfl) (by kernel_rfl) (fun _ _ _ h => h) (Or.inl ⟨by rfl, ?hy5t4a8a⟩) (by assumption) ?rest5t4a8a
            case hy5t4a8a => (intro w hSw; (try dsimp only at hSw); go_simp; first | done | with_reducible rfl)
            (try simp only [Act.put, List.setIfInBounds_toArray, List.set_cons_zero, List.set_cons_succ])
            refine wpAnyH_take (i := 6) (oi := (Oper.mk (some 21) (Op.move (Operand.tmp 20)) 4 "ref.go:22" #[Edge.mk 5 Ground.data] none)) (v := ?v6t4a8a) rfl (by kernel_rfl) (by kernel_rfl) (by kernel_rfl) (fun _ _ _ h => h) (Or.inl ⟨by rfl, ?hy6t4a8a⟩) (by assumption) ?rest6t4a8a
            case hy6t4a8a => (intro w hSw; (try dsimp only at hSw); go_simp; first | done | with_reducible rfl)
            (try simp only [Act.put, List.setIfInBounds_toArray, List.set_cons_zero, List.set_cons_succ])
            refine wpAnyH_take (i := 7) (oi := (Oper.mk (some 22) (Op.move (Operand.tmp 0)) 29 "ref.go:22" #[Edge.mk 6 Ground.guard] (some (6, false)))) (v := ?v7t4a8a) rfl (by kernel_rfl) (by kernel_rfl) (by kernel_rfl) (fun _ _ _ h => h) (Or.inl ⟨by rfl, ?hy7t4a8a⟩) (by assumption) ?rest7t4a8a
            case hy7t4a8a => (intro w hSw; (try dsimp only at hSw); go_simp; first | done | with_reducible rfl)
            (try simp only [Act.put, List.setIfInBounds_toArray, List.set_cons_zero, List.set_cons_succ])
            refine wpAnyH_take (i := 8) (oi := (Oper.mk (some 23) (Op.move (Operand.tmp 5)) 3 "ref.go:22" #[Edge.mk 6 Ground.guard] (some (6, false)))) (v := ?v8t4a8a) rfl (by kernel_rfl) (by kernel_rfl) (by kernel_rfl) (fun _ _ _ h => h) (Or.inl ⟨by rfl, ?hy8t4a8a⟩) (by assumption) ?rest8t4a8a
            case hy8t4a8a => (intro w hSw; (try dsimp only at hSw); go_simp; first | done | with_reducible rfl)
            (try simp only [Act.put, List.setIfInBounds_toArray, List.set_cons_zero, List.set_cons_succ])
            refine wpAnyH_take (i := 9) (oi := (Oper.mk (some 24) (Op.indexAddr 29 (Operand.tmp 22) (Operand.tmp 23)) 0 "ref.go:22" #[Edge.mk 7 Ground.data, Edge.mk 8 Ground.data, Edge.mk 6 Ground.guard] (some (6, false)))) (v := ?v9t4a8a) rfl (by kernel_rfl) (by kernel_rfl) (by kernel_rfl) (fun _ _ _ h => h) (Or.inl ⟨by rfl, ?hy9t4a8a⟩) (by assumption) ?rest9t4a8a
            case hy9t4a8a => (intro w hSw; (try dsimp only at hSw); go_simp; first | done | with_reducible rfl)
            (try simp only [Act.put, List.setIfInBounds_toArray, List.set_cons_zero, List.set_cons_succ])
            refine wpAnyH_take (i := 10) (oi := (Oper.mk (some 25) (Op.fieldAddr 28 (Operand.tmp 24) 0) 0 "ref.go:22" #[Edge.mk 9 Ground.data, Edge.mk 6 Ground.guard] (some (6, false)))) (v := ?v10t4a8a) rfl (by kernel_rfl) (by kernel_rfl) (by kernel_rfl) (fun _ _ _ h => h) (Or.inl ⟨by rfl, ?hy10t4a8a⟩) (by assumption) ?rest10t4a8a
            case hy10t4a8a => (intro w hSw; (try dsimp only at hSw); go_simp; first | done | with_reducible rfl)
            (try simp only [Act.put, List.setIfInBounds_toArray, List.set_cons_zero, List.set_cons_succ])
            refine wpAnyH_take (i := 11) (oi := (Oper.mk (some 26) (Op.load 3 (Operand.tmp 25)) 3 "ref.go:22" #[Edge.mk 10 Ground.data, Edge.mk 6 Ground.guard] (some (6, false)))) (v := ?v11t4a8a) rfl (by kernel_rfl) (by kernel_rfl) (by kernel_rfl) (fun _ _ _ h => h) (Or.inl ⟨by rfl, ?hy11t4a8a⟩) (by assumption) ?rest11t4a8a
            case hy11t4a8a => (intro w hSw; (try dsimp only at hSw); go_simp; first | done | with_reducible rfl)
            (try simp only [Act.put, List.setIfInBounds_toArray, List.set_cons_zero, List.set_cons_succ])
            refine wpAnyH_take (i := 12) (oi := (Oper.mk (some 27) (Op.binOp BinOp.gtr 3 (Operand.tmp 26) (Operand.const (Value.int IntKind.i64 65535)) 3) 4 "ref.go:22" #[Edge.mk 11 Ground.data, Edge.mk 6 Ground.guard] (some (6, false)))) (v := ?v12t4a8a) rfl (by kernel_rfl) (by kernel_rfl) (by kernel_rfl) (fun _ _ _ h => h) (Or.inl ⟨by rfl, ?hy12t4a8a⟩) (by assumption) ?rest12t4a8a
            case hy12t4a8a => (intro w hSw; (try dsimp only at hSw); go_simp; first | done | with_reducible rfl)
            (try simp only [Act.put, List.setIfInBounds_toArray, List.set_cons_zero, List.set_cons_succ])
            refine wpAnyH_take (i := 13) (oi := (Oper.mk (some 28) (Op.pick (Operand.tmp 21) (Operand.const (Value.bool true)) (Operand.tmp 27)) 4 "ref.go:22" #[Edge.mk 6 Ground.data, Edge.mk 12 Ground.data] none)) (v := ?v13t4a8a) rfl (by kernel_rfl) (by kernel_rfl) (by kernel_rfl) (fun _ _ _ h => h) (Or.inl ⟨by rfl, ?hy13t4a8a⟩) (by assumption) ?rest13t4a8a
            case hy13t4a8a => (intro w hSw; (try dsimp only at hSw); go_simp; first | done | with_reducible rfl)
            (try simp only [Act.put, List.setIfInBounds_toArray, List.set_cons_zero, List.set_cons_succ])
            refine wpAnyH_take (i := 14) (oi := (Oper.mk (some 29) (Op.move (Operand.tmp 28)) 4 "ref.go:22" #[Edge.mk 13 Ground.data, Edge.mk 6 Ground.chain] none)) (v := ?v14t4a8a) rfl (by kernel_rfl) (by kernel_rfl) (by kernel_rfl) (fun _ _ _ h => h) (Or.inl ⟨by rfl, ?hy14t4a8a⟩) (by assumption) ?rest14t4a8a
            case hy14t4a8a => (intro w hSw; (try dsimp only at hSw); go_simp; first | done | with_reducible rfl)
            (try simp only [Act.put, List.setIfInBounds_toArray, List.set_cons_zero, List.set_cons_succ])
            refine wpAnyH_take (i := 15) (oi := (Oper.mk (some 30) (Op.move (Operand.tmp 5)) 3 "ref.go:22" #[Edge.mk 14 Ground.guard] (some (14, false)))) (v := ?v15t4a8a) rfl (by kernel_rfl) (by kernel_rfl) (by kernel_rfl) (fun _ _ _ h => h) (Or.inl ⟨by rfl, ?hy15t4a8a⟩) (by assumption) ?rest15t4a8a
            case hy15t4a8a => (intro w hSw; (try dsimp only at hSw); go_simp; first | done | with_reducible rfl)
            (try simp only [Act.put, List.setIfInBounds_toArray, List.set_cons_zero, List.set_cons_succ])
            refine wpAnyH_take (i := 16) (oi := (Oper.mk (some 31) (Op.binOp BinOp.gtr 3 (Operand.tmp 30) (Operand.const (Value.int IntKind.i64 0)) 3) 4 "ref.go:22" #[Edge.mk 15 Ground.data, Edge.mk 14 Ground.guard] (some (14, false)))) (v := ?v16t4a8a) rfl (by kernel_rfl) (by kernel_rfl) (by kernel_rfl) (fun _ _ _ h => h) (Or.inl ⟨by rfl, ?hy16t4a8a⟩) (by assumption) ?rest16t4a8a
            case hy16t4a8a => (intro w hSw; (try dsimp only at hSw); go_simp; first | done | with_reducible rfl)
            (try simp only [Act.put, List.setIfInBounds_toArray, List.set_cons_zero, List.set_cons_succ])
            refine wpAnyH_take (i := 17) (oi := (Oper.mk (some 32) (Op.move (Operand.tmp 31)) 4 "ref.go:22" #[Edge.mk 16 Ground.data, Edge.mk 14 Ground.chain, Edge.mk 14 Ground.guard] (some (14, false)))) (v := ?v17t4a8a) rfl (by kernel_rfl) (by kernel_rfl) (by kernel_rfl) (fun _ _ _ h => h) (Or.inl ⟨by rfl, ?hy17t4a8a⟩) (by assumption) ?rest17t4a8a
            case hy17t4a8a => (intro w hSw; (try dsimp only at hSw); go_simp; first | done | with_reducible rfl)
            (try simp only [Act.put, List.setIfInBounds_toArray, List.set_cons_zero, List.set_cons_succ])
            refine wpAnyH_take (i := 18) (oi := (Oper.mk (some 33) (Op.move (Operand.tmp 0)) 29 "ref.go:22" #[Edge.mk 17 Ground.guard] (some (17, true)))) (v := undef) rfl (by kernel_rfl) (by kernel_rfl) (by kernel_rfl) (fun _ _ _ h => h) (Or.inr ⟨by rfl, rfl⟩) (by assumption) ?_
            (try simp only [Act.put, List.setIfInBounds_toArray, List.set_cons_zero, List.set_cons_succ])
            refine wpAnyH_take (i := 19) (oi := (Oper.mk (some 34) (Op.move (Operand.tmp 5)) 3 "ref.go:22" #[Edge.mk 17 Ground.guard] (some (17, true)))) (v := undef) rfl (by kernel_rfl) (by kernel_rfl) (by kernel_rfl) (fun _ _ _ h => h) (Or.inr ⟨by rfl, rfl⟩) (by assumption) ?_
            (try simp only [Act.put, List.setIfInBounds_toArray, List.set_cons_zero, List.set_cons_succ])
            refine wpAnyH_take (i := 20) (oi := (Oper.mk (some 35) (Op.indexAddr 29 (Operand.tmp 33) (Operand.tmp 34)) 0 "ref.go:22" #[Edge.mk 18 Ground.data, Edge.mk 19 Ground.data, Edge.mk 17 Ground.guard] (some (17, true)))) (v := undef) rfl (by kernel_rfl) (by kernel_rfl) (by kernel_rfl) (fun _ _ _ h => h) (Or.inr ⟨by rfl, rfl⟩) (by assumption) ?_
            (try simp only [Act.put, List.setIfInBounds_toArray, List.set_cons_zero, List.set_cons_succ])
            refine wpAnyH_take (i := 21) (oi := (Oper.mk (some 36) (Op.fieldAddr 28 (Operand.tmp 35) 0) 0 "ref.go:22" #[Edge.mk 20 Ground.data, Edge.mk 17 Ground.guard] (some (17, true)))) (v := undef) rfl (by kernel_rfl) (by kernel_rfl) (by kernel_rfl) (fun _ _ _ h => h) (Or.inr ⟨by rfl, rfl⟩) (by assumption) ?_
            (try simp only [Act.put, List.setIfInBounds_toArray, List.set_cons_zero, List.set_cons_succ])
            refine wpAnyH_take (i := 22) (oi := (Oper.mk (some 37) (Op.load 3 (Operand.tmp 36)) 3 "ref.go:22" #[Edge.mk 21 Ground.data, Edge.mk 17 Ground.guard] (some (17, true)))) (v := undef) rfl (by kernel_rfl) (by kernel_rfl) (by kernel_rfl) (fun _ _ _ h => h) (Or.inr ⟨by rfl, rfl⟩) (by assumption) ?_
            (try simp only [Act.put, List.setIfInBounds_toArray, List.set_cons_zero, List.set_cons_succ])
            refine wpAnyH_take (i := 23) (oi := (Oper.mk (some 38) (Op.move (Operand.tmp 0)) 29 "ref.go:22" #[Edge.mk 17 Ground.guard] (some (17, true)))) (v := undef) rfl (by kernel_rfl) (by kernel_rfl) (by kernel_rfl) (fun _ _ _ h => h) (Or.inr ⟨by rfl, rfl⟩) (by assumption) ?_
            (try simp only [Act.put, List.setIfInBounds_toArray, List.set_cons_zero, List.set_cons_succ])
            refine wpAnyH_take (i := 24) (oi := (Oper.mk (some 39) (Op.move (Operand.tmp 5)) 3 "ref.go:22" #[Edge.mk 17 Ground.guard] (some (17, true)))) (v := undef) rfl (by kernel_rfl) (by kernel_rfl) (by kernel_rfl) (fun _ _ _ h => h) (Or.inr ⟨by rfl, rfl⟩) (by assumption) ?_
            (try simp only [Act.put, List.setIfInBounds_toArray, List.set_cons_zero, List.set_cons_succ])
            refine wpAnyH_take (i := 25) (oi := (Oper.mk (some 40) (Op.binOp BinOp.sub 3 (Operand.tmp 39) (Operand.const (Value.int IntKind.i64 1)) 3) 3 "ref.go:22" #[Edge.mk 24 Ground.data, Edge.mk 17 Ground.guard] (some (17, true)))) (v := undef) rfl (by kernel_rfl) (by kernel_rfl) (by kernel_rfl) (fun _ _ _ h => h) (Or.inr ⟨by rfl, rfl⟩) (by assumption) ?_
            (try simp only [Act.put, List.setIfInBounds_toArray, List.set_cons_zero, List.set_cons_succ])
            refine wpAnyH_take (i := 26) (oi := (Oper.mk (some 41) (Op.indexAddr 29 (Operand.tmp 38) (Operand.tmp 40)) 0 "ref.go:22" #[Edge.mk 23 Ground.data, Edge.mk 25 Ground.data, Edge.mk 17 Ground.guard] (some (17, true)))) (v := undef) rfl (by kernel_rfl) (by kernel_rfl) (by kernel_rfl) (fun _ _ _ h => h) (Or.inr ⟨by rfl, rfl⟩) (by assumption) ?_
            (try simp only [Act.put, List.setIfInBounds_toArray, List.set_cons_zero, List.set_cons_succ])
            refine wpAnyH_take (i := 27) (oi := (Oper.mk (some 42) (Op.fieldAddr 28 (Operand.tmp 41) 0) 0 "ref.go:22" #[Edge.mk 26 Ground.data, Edge.mk 17 Ground.guard] (some (17, true)))) (v := undef) rfl (by kernel_rfl) (by kernel_rfl) (by kernel_rfl) (fun _ _ _ h => h) (Or.inr ⟨by rfl, rfl⟩) (by assumption) ?_
            (try simp only [Act.put, List.setIfInBounds_toArray, List.set_cons_zero, List.set_cons_succ])
            refine wpAnyH_take (i := 28) (oi := (Oper.mk (some 43) (Op.load 3 (Operand.tmp 42)) 3 "ref.go:22" #[Edge.mk 27 Ground.data, Edge.mk 17 Ground.guard] (some (17, true)))) (v := undef) rfl (by kernel_rfl) (by kernel_rfl) (by kernel_rfl) (fun _ _ _ h => h) (Or.inr ⟨by rfl, rfl⟩) (by assumption) ?_
            (try simp only [Act.put, List.setIfInBounds_toArray, List.set_cons_zero, List.set_cons_succ])
            refine wpAnyH_take (i := 29) (oi := (Oper.mk (some 44) (Op.binOp BinOp.leq 3 (Operand.tmp 37) (Operand.tmp 43) 3) 4 "ref.go:22" #[Edge.mk 22 Ground.data, Edge.mk 28 Ground.data, Edge.mk 17 Ground.guard] (some (17, true)))) (v := undef) rfl (by kernel_rfl) (by kernel_rfl) (by kernel_rfl) (fun _ _ _ h => h) (Or.inr ⟨by rfl, rfl⟩) (by assumption) ?_
            (try simp only [Act.put, List.setIfInBounds_toArray, List.set_cons_zero, List.set_cons_succ])
            refine wpAnyH_take (i := 30) (oi := (Oper.mk (some 45) (Op.pick (Operand.tmp 32) (Operand.tmp 44) (Operand.const (Value.bool false))) 4 "ref.go:22" #[Edge.mk 17 Ground.data, Edge.mk 29 Ground.data, Edge.mk 14 Ground.guard] (some (14, false)))) (v := ?v30t4a8a) rfl (by kernel_rfl) (by kernel_rfl) (by kernel_rfl) (fun _ _ _ h => h) (Or.inl ⟨by rfl, ?hy30t4a8a⟩) (by assumption) ?rest30t4a8a
            case hy30t4a8a => (intro w hSw; (try dsimp only at hSw); go_simp; first | done | with_reducible rfl)
            (try simp only [Act.put, List.setIfInBounds_toArray, List.set_cons_zero, List.set_cons_succ])
            refine wpAnyH_take (i := 31) (oi := (Oper.mk (some 46) (Op.pick (Operand.tmp 29) (Operand.const (Value.bool true)) (Operand.tmp 45)) 4 "ref.go:22" #[Edge.mk 14 Ground.data, Edge.mk 30 Ground.data] none)) (v := ?v31t4a8a) rfl (by kernel_rfl) (by kernel_rfl) (by kernel_rfl) (fun _ _ _ h => h) (Or.inl ⟨by rfl, ?hy31t4a8a⟩) (by assumption) ?rest31t4a8a
            case hy31t4a8a => (intro w hSw; (try dsimp only at hSw); go_simp; first | done | with_reducible rfl)
            (try simp only [Act.put, List.setIfInBounds_toArray, List.set_cons_zero, List.set_cons_succ])
            refine wpAnyH_done (by kernel_rfl) ?_ _
            have hO5 : wr.drew.ownsRow w.heap.size 67 4 u4 k (rowC ((ds.take k).map fresh)) := HO.out
            have HO5 := Lib.hid hO5
            clear hO5
            go_wp2_with (at_builtin; refine wpList_append_own _ rfl _ _ 43 rfl w.heap.size 67 i0 _ 4 24 Try.underlying43 hi hz0 hz1 hz2 rfl (by decide) _ _ _ rfl (HO5.out.alloc _) ⟨wr.heap.size, 0, none⟩ 1 1 [.int .i64 x, .int .i64 0, .bool false, .bool false] rfl rfl (four_new wr.drew _ _) (four_one _ _ _ _) (by unfold maxLen; omega) (by omega) (by simp; omega) ?_)
            intro v' w1' hown' hgrow _
            have HB1 := Lib.hid ((al HB.out.drew _).grown hgrow (by simp; omega) (fun r hr => (HO.out.lt r hr).1))
            have HO1 : Hid (w1'.ownsRow w.heap.size 67 4 v' (k + 1) (rowC ((ds.map fresh).take k) ++ [.int .i64 x, .int .i64 0, .bool false, .bool false])) := Lib.hid (by simpa using hown')
            clear hown' hgrow
            go_wp2_with fail
            go_roundw
            case rel => exact ⟨k + 1, by have := HLT.out; omega, by go_num, (by rw [HTF.out, List.map_take]; exact HO1.out), HB1.out, fun j h1 => by
              rcases Nat.lt_or_ge j k with h2 | h2
              · exact HJ.out j h2
              · obtain rfl : j = k := by omega
                exact HBAD.out⟩
            case measure => simp [intOf]; have := HLT.out; omega
          · have q5 : IntKind.i64.wrap ((k : Int) - 1) = m := by rw [IntWalk.i64_in _ (by omega)]; omega
            have hk2 : (0 : Int) < (k : Int) := by omega
            have hm1 : (m : Int) < (ds.length : Int) := by omega
            have hm0 : (0 : Int) ≤ (m : Int) := by omega
            have b1 : decide (x < 0) = false := decide_eq_false hx1
            have b2 : decide (65535 < x) = false := decide_eq_false hx2
            have b3 : decide ((0 : Int) < (k : Int)) = true := decide_eq_true hk2
            have b5 : decide (0 < k) = true := decide_eq_true (by omega)
            have b4 : decide (x ≤ y) = false := decide_eq_false hxy
            have HKM := Lib.hid hkm
            clear hkm hx1 hx2 hk2 hxy
            go_wp2_with fail
            refine wp_region_held_drew (S := (fun w' => w'.cell? ⟨bd, off + k * 2, none⟩ = some (.int .i64 x) ∧ w'.cell? ⟨bd, off + m * 2, none⟩ = some (.int .i64 y))) (by kernel_rfl) (by (try dsimp only); go_keep) (fun hHeld => ?_)
            refine wpAnyH_take (i := 0) (oi := (Oper.mk (some 15) (Op.move (Operand.tmp 0)) 29 "ref.go:22" #[] none)) (v := ?v0t52fe) rfl (by kernel_rfl) (by kernel_rfl) (by kernel_rfl) (fun _ _ _ h => h) (Or.inl ⟨by rfl, ?hy0t52fe⟩) (by assumption) ?rest0t52fe
            case hy0t52fe => (intro w hSw; (try dsimp only at hSw); go_simp; first | done | with_reducible rfl)
            (try simp only [Act.put, List.setIfInBounds_toArray, List.set_cons_zero, List.set_cons_succ])
            refine wpAnyH_take (i := 1) (oi := (Oper.mk (some 16) (Op.move (Operand.tmp 5)) 3 "ref.go:22" #[] none)) (v := ?v1t52fe) rfl (by kernel_rfl) (by kernel_rfl) (by kernel_rfl) (fun _ _ _ h => h) (Or.inl ⟨by rfl, ?hy1t52fe⟩) (by assumption) ?rest1t52fe
            case hy1t52fe => (intro w hSw; (try dsimp only at hSw); go_simp; first | done | with_reducible rfl)
            (try simp only [Act.put, List.setIfInBounds_toArray, List.set_cons_zero, List.set_cons_succ])
            refine wpAnyH_take (i := 2) (oi := (Oper.mk (some 17) (Op.indexAddr 29 (Operand.tmp 15) (Operand.tmp 16)) 0 "ref.go:22" #[Edge.mk 0 Ground.data, Edge.mk 1 Ground.data] none)) (v := ?v2t52fe) rfl (by kernel_rfl) (by kernel_rfl) (by kernel_rfl) (fun _ _ _ h => h) (Or.inl ⟨by rfl, ?hy2t52fe⟩) (by assumption) ?rest2t52fe
            case hy2t52fe => (intro w hSw; (try dsimp only at hSw); go_simp; first | done | with_reducible rfl)
            (try simp only [Act.put, List.setIfInBounds_toArray, List.set_cons_zero, List.set_cons_succ])
            refine wpAnyH_take (i := 3) (oi := (Oper.mk (some 18) (Op.fieldAddr 28 (Operand.tmp 17) 0) 0 "ref.go:22" #[Edge.mk 2 Ground.data] none)) (v := ?v3t52fe) rfl (by kernel_rfl) (by kernel_rfl) (by kernel_rfl) (fun _ _ _ h => h) (Or.inl ⟨by rfl, ?hy3t52fe⟩) (by assumption) ?rest3t52fe
            case hy3t52fe => (intro w hSw; (try dsimp only at hSw); go_simp; first | done | with_reducible rfl)
            (try simp only [Act.put, List.setIfInBounds_toArray, List.set_cons_zero, List.set_cons_succ])
            refine wpAnyH_take (i := 4) (oi := (Oper.mk (some 19) (Op.load 3 (Operand.tmp 18)) 3 "ref.go:22" #[Edge.mk 3 Ground.data] none)) (v := ?v4t52fe) rfl (by kernel_rfl) (by kernel_rfl) (by kernel_rfl) (fun _ _ _ h => h) (Or.inl ⟨by rfl, ?hy4t52fe⟩) (by assumption) ?rest4t52fe
            case hy4t52fe => (intro w hSw; (try dsimp only at hSw); go_simp; first | done | with_reducible rfl)
            (try simp only [Act.put, List.setIfInBounds_toArray, List.set_cons_zero, List.set_cons_succ])
            refine wpAnyH_take (i := 5) (oi := (Oper.mk (some 20) (Op.binOp BinOp.lss 3 (Operand.tmp 19) (Operand.const (Value.int IntKind.i64 0)) 3) 4 "ref.go:22" #[Edge.mk 4 Ground.data] none)) (v := ?v5t52fe) rfl (by kernel_rfl) (by kernel_rfl) (by kernel_rfl) (fun _ _ _ h => h) (Or.inl ⟨by rfl, ?hy5t52fe⟩) (by assumption) ?rest5t52fe
            case hy5t52fe => (intro w hSw; (try dsimp only at hSw); go_simp; first | done | with_reducible rfl)
            (try simp only [Act.put, List.setIfInBounds_toArray, List.set_cons_zero, List.set_cons_succ])
            refine wpAnyH_take (i := 6) (oi := (Oper.mk (some 21) (Op.move (Operand.tmp 20)) 4 "ref.go:22" #[Edge.mk 5 Ground.data] none)) (v := ?v6t52fe) rfl (by kernel_rfl) (by kernel_rfl) (by kernel_rfl) (fun _ _ _ h => h) (Or.inl ⟨by rfl, ?hy6t52fe⟩) (by assumption) ?rest6t52fe
            case hy6t52fe => (intro w hSw; (try dsimp only at hSw); go_simp; first | done | with_reducible rfl)
            (try simp only [Act.put, List.setIfInBounds_toArray, List.set_cons_zero, List.set_cons_succ])
            refine wpAnyH_take (i := 7) (oi := (Oper.mk (some 22) (Op.move (Operand.tmp 0)) 29 "ref.go:22" #[Edge.mk 6 Ground.guard] (some (6, false)))) (v := ?v7t52fe) rfl (by kernel_rfl) (by kernel_rfl) (by kernel_rfl) (fun _ _ _ h => h) (Or.inl ⟨by rfl, ?hy7t52fe⟩) (by assumption) ?rest7t52fe
            case hy7t52fe => (intro w hSw; (try dsimp only at hSw); go_simp; first | done | with_reducible rfl)
            (try simp only [Act.put, List.setIfInBounds_toArray, List.set_cons_zero, List.set_cons_succ])
            refine wpAnyH_take (i := 8) (oi := (Oper.mk (some 23) (Op.move (Operand.tmp 5)) 3 "ref.go:22" #[Edge.mk 6 Ground.guard] (some (6, false)))) (v := ?v8t52fe) rfl (by kernel_rfl) (by kernel_rfl) (by kernel_rfl) (fun _ _ _ h => h) (Or.inl ⟨by rfl, ?hy8t52fe⟩) (by assumption) ?rest8t52fe
            case hy8t52fe => (intro w hSw; (try dsimp only at hSw); go_simp; first | done | with_reducible rfl)
            (try simp only [Act.put, List.setIfInBounds_toArray, List.set_cons_zero, List.set_cons_succ])
            refine wpAnyH_take (i := 9) (oi := (Oper.mk (some 24) (Op.indexAddr 29 (Operand.tmp 22) (Operand.tmp 23)) 0 "ref.go:22" #[Edge.mk 7 Ground.data, Edge.mk 8 Ground.data, Edge.mk 6 Ground.guard] (some (6, false)))) (v := ?v9t52fe) rfl (by kernel_rfl) (by kernel_rfl) (by kernel_rfl) (fun _ _ _ h => h) (Or.inl ⟨by rfl, ?hy9t52fe⟩) (by assumption) ?rest9t52fe
            case hy9t52fe => (intro w hSw; (try dsimp only at hSw); go_simp; first | done | with_reducible rfl)
            (try simp only [Act.put, List.setIfInBounds_toArray, List.set_cons_zero, List.set_cons_succ])
            refine wpAnyH_take (i := 10) (oi := (Oper.mk (some 25) (Op.fieldAddr 28 (Operand.tmp 24) 0) 0 "ref.go:22" #[Edge.mk 9 Ground.data, Edge.mk 6 Ground.guard] (some (6, false)))) (v := ?v10t52fe) rfl (by kernel_rfl) (by kernel_rfl) (by kernel_rfl) (fun _ _ _ h => h) (Or.inl ⟨by rfl, ?hy10t52fe⟩) (by assumption) ?rest10t52fe
            case hy10t52fe => (intro w hSw; (try dsimp only at hSw); go_simp; first | done | with_reducible rfl)
            (try simp only [Act.put, List.setIfInBounds_toArray, List.set_cons_zero, List.set_cons_succ])
            refine wpAnyH_take (i := 11) (oi := (Oper.mk (some 26) (Op.load 3 (Operand.tmp 25)) 3 "ref.go:22" #[Edge.mk 10 Ground.data, Edge.mk 6 Ground.guard] (some (6, false)))) (v := ?v11t52fe) rfl (by kernel_rfl) (by kernel_rfl) (by kernel_rfl) (fun _ _ _ h => h) (Or.inl ⟨by rfl, ?hy11t52fe⟩) (by assumption) ?rest11t52fe
            case hy11t52fe => (intro w hSw; (try dsimp only at hSw); go_simp; first | done | with_reducible rfl)
            (try simp only [Act.put, List.setIfInBounds_toArray, List.set_cons_zero, List.set_cons_succ])
            refine wpAnyH_take (i := 12) (oi := (Oper.mk (some 27) (Op.binOp BinOp.gtr 3 (Operand.tmp 26) (Operand.const (Value.int IntKind.i64 65535)) 3) 4 "ref.go:22" #[Edge.mk 11 Ground.data, Edge.mk 6 Ground.guard] (some (6, false)))) (v := ?v12t52fe) rfl (by kernel_rfl) (by kernel_rfl) (by kernel_rfl) (fun _ _ _ h => h) (Or.inl ⟨by rfl, ?hy12t52fe⟩) (by assumption) ?rest12t52fe
            case hy12t52fe => (intro w hSw; (try dsimp only at hSw); go_simp; first | done | with_reducible rfl)
            (try simp only [Act.put, List.setIfInBounds_toArray, List.set_cons_zero, List.set_cons_succ])
            refine wpAnyH_take (i := 13) (oi := (Oper.mk (some 28) (Op.pick (Operand.tmp 21) (Operand.const (Value.bool true)) (Operand.tmp 27)) 4 "ref.go:22" #[Edge.mk 6 Ground.data, Edge.mk 12 Ground.data] none)) (v := ?v13t52fe) rfl (by kernel_rfl) (by kernel_rfl) (by kernel_rfl) (fun _ _ _ h => h) (Or.inl ⟨by rfl, ?hy13t52fe⟩) (by assumption) ?rest13t52fe
            case hy13t52fe => (intro w hSw; (try dsimp only at hSw); go_simp; first | done | with_reducible rfl)
            (try simp only [Act.put, List.setIfInBounds_toArray, List.set_cons_zero, List.set_cons_succ])
            refine wpAnyH_take (i := 14) (oi := (Oper.mk (some 29) (Op.move (Operand.tmp 28)) 4 "ref.go:22" #[Edge.mk 13 Ground.data, Edge.mk 6 Ground.chain] none)) (v := ?v14t52fe) rfl (by kernel_rfl) (by kernel_rfl) (by kernel_rfl) (fun _ _ _ h => h) (Or.inl ⟨by rfl, ?hy14t52fe⟩) (by assumption) ?rest14t52fe
            case hy14t52fe => (intro w hSw; (try dsimp only at hSw); go_simp; first | done | with_reducible rfl)
            (try simp only [Act.put, List.setIfInBounds_toArray, List.set_cons_zero, List.set_cons_succ])
            refine wpAnyH_take (i := 15) (oi := (Oper.mk (some 30) (Op.move (Operand.tmp 5)) 3 "ref.go:22" #[Edge.mk 14 Ground.guard] (some (14, false)))) (v := ?v15t52fe) rfl (by kernel_rfl) (by kernel_rfl) (by kernel_rfl) (fun _ _ _ h => h) (Or.inl ⟨by rfl, ?hy15t52fe⟩) (by assumption) ?rest15t52fe
            case hy15t52fe => (intro w hSw; (try dsimp only at hSw); go_simp; first | done | with_reducible rfl)
            (try simp only [Act.put, List.setIfInBounds_toArray, List.set_cons_zero, List.set_cons_succ])
            refine wpAnyH_take (i := 16) (oi := (Oper.mk (some 31) (Op.binOp BinOp.gtr 3 (Operand.tmp 30) (Operand.const (Value.int IntKind.i64 0)) 3) 4 "ref.go:22" #[Edge.mk 15 Ground.data, Edge.mk 14 Ground.guard] (some (14, false)))) (v := ?v16t52fe) rfl (by kernel_rfl) (by kernel_rfl) (by kernel_rfl) (fun _ _ _ h => h) (Or.inl ⟨by rfl, ?hy16t52fe⟩) (by assumption) ?rest16t52fe
            case hy16t52fe => (intro w hSw; (try dsimp only at hSw); go_simp; first | done | with_reducible rfl)
            (try simp only [Act.put, List.setIfInBounds_toArray, List.set_cons_zero, List.set_cons_succ])
            refine wpAnyH_take (i := 17) (oi := (Oper.mk (some 32) (Op.move (Operand.tmp 31)) 4 "ref.go:22" #[Edge.mk 16 Ground.data, Edge.mk 14 Ground.chain, Edge.mk 14 Ground.guard] (some (14, false)))) (v := ?v17t52fe) rfl (by kernel_rfl) (by kernel_rfl) (by kernel_rfl) (fun _ _ _ h => h) (Or.inl ⟨by rfl, ?hy17t52fe⟩) (by assumption) ?rest17t52fe
            case hy17t52fe => (intro w hSw; (try dsimp only at hSw); go_simp; first | done | with_reducible rfl)
            (try simp only [Act.put, List.setIfInBounds_toArray, List.set_cons_zero, List.set_cons_succ])
            refine wpAnyH_take (i := 18) (oi := (Oper.mk (some 33) (Op.move (Operand.tmp 0)) 29 "ref.go:22" #[Edge.mk 17 Ground.guard] (some (17, true)))) (v := ?v18t52fe) rfl (by kernel_rfl) (by kernel_rfl) (by kernel_rfl) (fun _ _ _ h => h) (Or.inl ⟨by rfl, ?hy18t52fe⟩) (by assumption) ?rest18t52fe
            case hy18t52fe => (intro w hSw; (try dsimp only at hSw); go_simp; first | done | with_reducible rfl)
            (try simp only [Act.put, List.setIfInBounds_toArray, List.set_cons_zero, List.set_cons_succ])
            refine wpAnyH_take (i := 19) (oi := (Oper.mk (some 34) (Op.move (Operand.tmp 5)) 3 "ref.go:22" #[Edge.mk 17 Ground.guard] (some (17, true)))) (v := ?v19t52fe) rfl (by kernel_rfl) (by kernel_rfl) (by kernel_rfl) (fun _ _ _ h => h) (Or.inl ⟨by rfl, ?hy19t52fe⟩) (by assumption) ?rest19t52fe
            case hy19t52fe => (intro w hSw; (try dsimp only at hSw); go_simp; first | done | with_reducible rfl)
            (try simp only [Act.put, List.setIfInBounds_toArray, List.set_cons_zero, List.set_cons_succ])
            refine wpAnyH_take (i := 20) (oi := (Oper.mk (some 35) (Op.indexAddr 29 (Operand.tmp 33) (Operand.tmp 34)) 0 "ref.go:22" #[Edge.mk 18 Ground.data, Edge.mk 19 Ground.data, Edge.mk 17 Ground.guard] (some (17, true)))) (v := ?v20t52fe) rfl (by kernel_rfl) (by kernel_rfl) (by kernel_rfl) (fun _ _ _ h => h) (Or.inl ⟨by rfl, ?hy20t52fe⟩) (by assumption) ?rest20t52fe
            case hy20t52fe => (intro w hSw; (try dsimp only at hSw); go_simp; first | done | with_reducible rfl)
            (try simp only [Act.put, List.setIfInBounds_toArray, List.set_cons_zero, List.set_cons_succ])
            refine wpAnyH_take (i := 21) (oi := (Oper.mk (some 36) (Op.fieldAddr 28 (Operand.tmp 35) 0) 0 "ref.go:22" #[Edge.mk 20 Ground.data, Edge.mk 17 Ground.guard] (some (17, true)))) (v := ?v21t52fe) rfl (by kernel_rfl) (by kernel_rfl) (by kernel_rfl) (fun _ _ _ h => h) (Or.inl ⟨by rfl, ?hy21t52fe⟩) (by assumption) ?rest21t52fe
            case hy21t52fe => (intro w hSw; (try dsimp only at hSw); go_simp; first | done | with_reducible rfl)
            (try simp only [Act.put, List.setIfInBounds_toArray, List.set_cons_zero, List.set_cons_succ])
            refine wpAnyH_take (i := 22) (oi := (Oper.mk (some 37) (Op.load 3 (Operand.tmp 36)) 3 "ref.go:22" #[Edge.mk 21 Ground.data, Edge.mk 17 Ground.guard] (some (17, true)))) (v := ?v22t52fe) rfl (by kernel_rfl) (by kernel_rfl) (by kernel_rfl) (fun _ _ _ h => h) (Or.inl ⟨by rfl, ?hy22t52fe⟩) (by assumption) ?rest22t52fe
            case hy22t52fe => (intro w hSw; (try dsimp only at hSw); go_simp; first | done | with_reducible rfl)
            (try simp only [Act.put, List.setIfInBounds_toArray, List.set_cons_zero, List.set_cons_succ])
            refine wpAnyH_take (i := 23) (oi := (Oper.mk (some 38) (Op.move (Operand.tmp 0)) 29 "ref.go:22" #[Edge.mk 17 Ground.guard] (some (17, true)))) (v := ?v23t52fe) rfl (by kernel_rfl) (by kernel_rfl) (by kernel_rfl) (fun _ _ _ h => h) (Or.inl ⟨by rfl, ?hy23t52fe⟩) (by assumption) ?rest23t52fe
            case hy23t52fe => (intro w hSw; (try dsimp only at hSw); go_simp; first | done | with_reducible rfl)
            (try simp only [Act.put, List.setIfInBounds_toArray, List.set_cons_zero, List.set_cons_succ])
            refine wpAnyH_take (i := 24) (oi := (Oper.mk (some 39) (Op.move (Operand.tmp 5)) 3 "ref.go:22" #[Edge.mk 17 Ground.guard] (some (17, true)))) (v := ?v24t52fe) rfl (by kernel_rfl) (by kernel_rfl) (by kernel_rfl) (fun _ _ _ h => h) (Or.inl ⟨by rfl, ?hy24t52fe⟩) (by assumption) ?rest24t52fe
            case hy24t52fe => (intro w hSw; (try dsimp only at hSw); go_simp; first | done | with_reducible rfl)
            (try simp only [Act.put, List.setIfInBounds_toArray, List.set_cons_zero, List.set_cons_succ])
            refine wpAnyH_take (i := 25) (oi := (Oper.mk (some 40) (Op.binOp BinOp.sub 3 (Operand.tmp 39) (Operand.const (Value.int IntKind.i64 1)) 3) 3 "ref.go:22" #[Edge.mk 24 Ground.data, Edge.mk 17 Ground.guard] (some (17, true)))) (v := ?v25t52fe) rfl (by kernel_rfl) (by kernel_rfl) (by kernel_rfl) (fun _ _ _ h => h) (Or.inl ⟨by rfl, ?hy25t52fe⟩) (by assumption) ?rest25t52fe
            case hy25t52fe => (intro w hSw; (try dsimp only at hSw); go_simp; first | done | with_reducible rfl)
            (try simp only [Act.put, List.setIfInBounds_toArray, List.set_cons_zero, List.set_cons_succ])
            refine wpAnyH_take (i := 26) (oi := (Oper.mk (some 41) (Op.indexAddr 29 (Operand.tmp 38) (Operand.tmp 40)) 0 "ref.go:22" #[Edge.mk 23 Ground.data, Edge.mk 25 Ground.data, Edge.mk 17 Ground.guard] (some (17, true)))) (v := ?v26t52fe) rfl (by kernel_rfl) (by kernel_rfl) (by kernel_rfl) (fun _ _ _ h => h) (Or.inl ⟨by rfl, ?hy26t52fe⟩) (by assumption) ?rest26t52fe
            case hy26t52fe => (intro w hSw; (try dsimp only at hSw); go_simp; first | done | with_reducible rfl)
            (try simp only [Act.put, List.setIfInBounds_toArray, List.set_cons_zero, List.set_cons_succ])
            refine wpAnyH_take (i := 27) (oi := (Oper.mk (some 42) (Op.fieldAddr 28 (Operand.tmp 41) 0) 0 "ref.go:22" #[Edge.mk 26 Ground.data, Edge.mk 17 Ground.guard] (some (17, true)))) (v := ?v27t52fe) rfl (by kernel_rfl) (by kernel_rfl) (by kernel_rfl) (fun _ _ _ h => h) (Or.inl ⟨by rfl, ?hy27t52fe⟩) (by assumption) ?rest27t52fe
            case hy27t52fe => (intro w hSw; (try dsimp only at hSw); go_simp; first | done | with_reducible rfl)
            (try simp only [Act.put, List.setIfInBounds_toArray, List.set_cons_zero, List.set_cons_succ])
            refine wpAnyH_take (i := 28) (oi := (Oper.mk (some 43) (Op.load 3 (Operand.tmp 42)) 3 "ref.go:22" #[Edge.mk 27 Ground.data, Edge.mk 17 Ground.guard] (some (17, true)))) (v := ?v28t52fe) rfl (by kernel_rfl) (by kernel_rfl) (by kernel_rfl) (fun _ _ _ h => h) (Or.inl ⟨by rfl, ?hy28t52fe⟩) (by assumption) ?rest28t52fe
            case hy28t52fe => (intro w hSw; (try dsimp only at hSw); go_simp; first | done | with_reducible rfl)
            (try simp only [Act.put, List.setIfInBounds_toArray, List.set_cons_zero, List.set_cons_succ])
            refine wpAnyH_take (i := 29) (oi := (Oper.mk (some 44) (Op.binOp BinOp.leq 3 (Operand.tmp 37) (Operand.tmp 43) 3) 4 "ref.go:22" #[Edge.mk 22 Ground.data, Edge.mk 28 Ground.data, Edge.mk 17 Ground.guard] (some (17, true)))) (v := ?v29t52fe) rfl (by kernel_rfl) (by kernel_rfl) (by kernel_rfl) (fun _ _ _ h => h) (Or.inl ⟨by rfl, ?hy29t52fe⟩) (by assumption) ?rest29t52fe
            case hy29t52fe => (intro w hSw; (try dsimp only at hSw); go_simp; first | done | with_reducible rfl)
            (try simp only [Act.put, List.setIfInBounds_toArray, List.set_cons_zero, List.set_cons_succ])
            refine wpAnyH_take (i := 30) (oi := (Oper.mk (some 45) (Op.pick (Operand.tmp 32) (Operand.tmp 44) (Operand.const (Value.bool false))) 4 "ref.go:22" #[Edge.mk 17 Ground.data, Edge.mk 29 Ground.data, Edge.mk 14 Ground.guard] (some (14, false)))) (v := ?v30t52fe) rfl (by kernel_rfl) (by kernel_rfl) (by kernel_rfl) (fun _ _ _ h => h) (Or.inl ⟨by rfl, ?hy30t52fe⟩) (by assumption) ?rest30t52fe
            case hy30t52fe => (intro w hSw; (try dsimp only at hSw); go_simp; first | done | with_reducible rfl)
            (try simp only [Act.put, List.setIfInBounds_toArray, List.set_cons_zero, List.set_cons_succ])
            refine wpAnyH_take (i := 31) (oi := (Oper.mk (some 46) (Op.pick (Operand.tmp 29) (Operand.const (Value.bool true)) (Operand.tmp 45)) 4 "ref.go:22" #[Edge.mk 14 Ground.data, Edge.mk 30 Ground.data] none)) (v := ?v31t52fe) rfl (by kernel_rfl) (by kernel_rfl) (by kernel_rfl) (fun _ _ _ h => h) (Or.inl ⟨by rfl, ?hy31t52fe⟩) (by assumption) ?rest31t52fe
            case hy31t52fe => (intro w hSw; (try dsimp only at hSw); go_simp; first | done | with_reducible rfl)
            (try simp only [Act.put, List.setIfInBounds_toArray, List.set_cons_zero, List.set_cons_succ])
            refine wpAnyH_done (by kernel_rfl) ?_ _
            have hO5 : wr.drew.ownsRow w.heap.size 67 4 u4 k (rowC ((ds.take k).map fresh)) := HO.out
            have HO5 := Lib.hid hO5
            clear hO5
            go_wp2_with (at_builtin; refine wpList_append_own _ rfl _ _ 43 rfl w.heap.size 67 i0 _ 4 24 Try.underlying43 hi hz0 hz1 hz2 rfl (by decide) _ _ _ rfl (HO5.out.alloc _) ⟨wr.heap.size, 0, none⟩ 1 1 [.int .i64 x, .int .i64 0, .bool false, .bool false] rfl rfl (four_new wr.drew _ _) (four_one _ _ _ _) (by unfold maxLen; omega) (by omega) (by simp; omega) ?_)
            intro v' w1' hown' hgrow _
            have HB1 := Lib.hid ((al HB.out.drew _).grown hgrow (by simp; omega) (fun r hr => (HO.out.lt r hr).1))
            have HO1 : Hid (w1'.ownsRow w.heap.size 67 4 v' (k + 1) (rowC ((ds.map fresh).take k) ++ [.int .i64 x, .int .i64 0, .bool false, .bool false])) := Lib.hid (by simpa using hown')
            clear hown' hgrow
            go_wp2_with fail
            go_roundw
            case rel => exact ⟨k + 1, by have := HLT.out; omega, by go_num, (by rw [HTF.out, List.map_take]; exact HO1.out), HB1.out, fun j h1 => by
              rcases Nat.lt_or_ge j k with h2 | h2
              · exact HJ.out j h2
              · obtain rfl : j = k := by omega
                exact HBAD.out⟩
            case measure => simp [intOf]; have := HLT.out; omega
      · obtain rfl : k = ds.length := by omega
        rw [List.take_length] at HO
        have hv : ∃ a' c', u4 = .slice a' ds.length c' ∧ RAt wr a' (ds.map fresh) ∧ ∀ k, rblk a' ds.length k → w.heap.size ≤ k := by
          rcases Joins.ownsRow_forms HO.out with ⟨h1, h2⟩ | ⟨g, cap, h1⟩
          · exact ⟨none, 0, by rw [h1, h2], ⟨by simpa using hn, .inl (by simpa using List.length_eq_zero_iff.1 h2)⟩, fun k hk => by obtain ⟨-, p, hp, -⟩ := hk; cases hp⟩
          · have h3 := HO.out
            rw [h1] at h3
            exact ⟨_, _, h1, ⟨by simpa using hn, .inr ⟨g, rfl, RowB.of_own (by simpa using h3)⟩⟩, fun k hk => by obtain ⟨-, p, hp, rfl⟩ := hk; cases hp; exact (h3.lt g rfl).1⟩
        obtain ⟨a', c', rfl, hR, hw⟩ := hv
        have HR := Lib.hid hR
        have HW := Lib.hid hw
        clear hR hw
        go_wp2_with fail
        go_ret2
        left
        exact ⟨⟨hn, HJ.out⟩, a', c', rfl, HR.out, HW.out, HB.out⟩
  · have hn' : (256 : Int) < ds.length := by omega
    go_enter Try.func18, Try.ntmps18
    go_wp2_with fail
    go_ret2
    right
    exact ⟨fun h => hn h.1, rfl, Below.refl _ _⟩
end Go.Proofs.Ytgfloeclepmdlaa

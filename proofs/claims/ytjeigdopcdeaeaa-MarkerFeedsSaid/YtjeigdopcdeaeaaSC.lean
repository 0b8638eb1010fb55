/- Contract of the reference's Sequence. No condition. -/
import Derived.Test.YtjeigdopcdeaeaaSB
namespace Go.Proofs.Ytjeigdopcdeaeaa
open Go.RowKit Go.Shelf Go.Deep Scr
set_option linter.unusedVariables false

theorem info3 : (Try.prog.info? 3).map (fun i => (i.zero, i.size, i.bytes)) = some (some (.int .i64 0), 1, 8) := by kernel_rfl
/-- the first k bits -/
def bitsTo (k : Nat) : List Value := (List.range k).map fun i => .int .i64 (bit i)
theorem bitsTo_succ (k : Nat) : bitsTo (k + 1) = bitsTo k ++ [.int .i64 (bit k)] := by simp [bitsTo, List.range_succ]
theorem bitsTo_length (k : Nat) : (bitsTo k).length = k := by simp [bitsTo]
theorem bitsTo_at (k i : Nat) (h : i < k) : (bitsTo k)[i]? = some (.int .i64 (bit i)) := by simp [bitsTo, h]
theorem xor2 : ∀ a b : Fin 2, bits .xor .i64 (a.val : Int) (b.val : Int) = (((a.val + b.val) % 2 : Nat) : Int) := by decide +kernel
theorem xor2_nat {a b : Nat} (ha : a < 2) (hb : b < 2) : bits .xor .i64 (a : Int) (b : Int) = (((a + b) % 2 : Nat) : Int) := xor2 ⟨a, ha⟩ ⟨b, hb⟩
theorem xor4 (j : Nat) : bits .xor .i64 (bits .xor .i64 (bits .xor .i64 (bit (j + 7)) (bit (j + 5))) (bit (j + 3))) (bit j) = (bit (j + 8) : Int) := by
  rw [xor2_nat (bit_lt _) (bit_lt _), xor2_nat (Nat.mod_lt _ (by omega)) (bit_lt _), xor2_nat (Nat.mod_lt _ (by omega)) (bit_lt _), bit_rule]
  congr 1
  omega

/-- the number of the first t bits of byte i -/
def par (i : Nat) : Nat → Nat
  | 0 => 0
  | t + 1 => 2 * par i t + bit (8 * i + t)
theorem par_lt (i t : Nat) (h : t ≤ 8) : par i t < 256 := by
  have key : ∀ t, par i t < 2 ^ t := by
    intro t
    induction t with
    | zero => simp [par]
    | succ t ih => have := bit_lt (8 * i + t); rw [par, Nat.pow_succ]; omega
  exact Nat.lt_of_lt_of_le (key t) (by have := Nat.pow_le_pow_right (show 0 < 2 by omega) h; omega)
theorem par_8 (i : Nat) : (par i 8 : Int) = (st i : Int) := by
  have h := byte_bits (8 * i)
  unfold st
  rw [h]
  simp only [par]
  push_cast
  simp only [Nat.add_zero]
  omega

theorem addc (j c : Nat) (h : j ≤ 1000000000) (hc : c ≤ 1000000000) : IntKind.i64.wrap ((j : Int) + (c : Nat)) = (j : Int) + (c : Nat) ∧ 0 ≤ (j : Int) + (c : Nat) ∧ ((j : Int) + (c : Nat)).toNat = j + c :=
  ⟨IntWalk.i64_in _ (by omega), by omega, by omega⟩

theorem RSeq_any (N : Int) (hN : N ≤ 1000000) (w : World) : Calls Try.prog 26 #[.int .i64 N] w (Gives (seqB N.toNat) w) := by
  by_cases h1 : N < 1
  · have h0 : N.toNat = 0 := by omega
    have H0 := Lib.hid h0
    clear h0
    go_enter Try.func26, Try.ntmps26
    go_wp2_with fail
    go_ret
    exact ⟨_, rfl, by rw [H0.out]; exact World.ownsRow_nil _ _ _ _, by rw [H0.out]; simp [seqB], Below.refl _ _⟩
  · obtain ⟨n, rfl⟩ : ∃ n : Nat, N = n := ⟨N.toNat, by omega⟩
    rw [Int.toNat_natCast]
    obtain ⟨i0, hi, hz0, hz1, hz2⟩ := info_parts info3
    go_enter Try.func26, Try.ntmps26
    go_wp2_with fail
    go_loopw [3, 4] (fun v i wr => ∃ k : Nat, k ≤ 8 * n ∧ i = .int .i64 k ∧ wr.ownsRow w.heap.size 3 1 v k (bitsTo k) ∧ Below w.heap.size w wr) (fun _ i _ => 8 * n - (intOf i).toNat)
    case atStart => exact ⟨0, by omega, rfl, World.ownsRow_nil _ _ _ _, Below.refl _ _⟩
    case round =>
      obtain ⟨k, hk, rfl, hown, hB⟩ := hrel
      by_cases hlt : k < 8 * n
      · by_cases h8 : k < 8
        · have hb1 := Lib.hid (bit_first k h8)
          go_wp2_with (at_builtin; refine wpList_append_own _ rfl _ _ 49 rfl w.heap.size 3 i0 (.int .i64 0) 1 8 Try.underlying49 hi hz0 hz1 hz2 rfl (by decide) _ _ _ rfl (hown.alloc _) ⟨wr.heap.size, 0, none⟩ 1 1 [.int .i64 1] rfl rfl (one_new _ _ _) (one_cell rfl) (by unfold maxLen; omega) (by omega) (by have := hB.size; simp; omega) ?_)
          intro v' w1 hown' hgrow _
          have hB' : Below w.heap.size w w1 := (hB.alloc hB.size _).grown hgrow (by have := hB.size; simp; omega) (fun r hr => (hown.lt r hr).1)
          have hown2 : w1.ownsRow w.heap.size 3 1 v' (k + 1) (bitsTo (k + 1)) := by rw [bitsTo_succ, hb1.out]; exact hown'
          clear hown' hgrow hown hB
          go_wp2
          go_roundw
          case rel => exact ⟨k + 1, by omega, by go_num, hown2, hB'⟩
          case measure => simp [intOf]; omega
        · obtain ⟨j, rfl⟩ : ∃ j, k = j + 8 := ⟨k - 8, by omega⟩
          obtain ⟨g, cap', rfl⟩ : ∃ g cap', u3 = .slice (some ⟨g, 0, none⟩) (j + 8) cap' := by
            rcases hown.2 with ⟨_, h⟩ | ⟨g, cap', cur, rfl, _⟩
            · omega
            · exact ⟨g, cap', rfl⟩
          have c7 : wr.cell? ⟨g, j + 7, none⟩ = some (.int .i64 (bit (j + 7))) := (hown.cellAt _ (by omega)).trans (bitsTo_at _ _ (by omega))
          have c5 : wr.cell? ⟨g, j + 5, none⟩ = some (.int .i64 (bit (j + 5))) := (hown.cellAt _ (by omega)).trans (bitsTo_at _ _ (by omega))
          have c3 : wr.cell? ⟨g, j + 3, none⟩ = some (.int .i64 (bit (j + 3))) := (hown.cellAt _ (by omega)).trans (bitsTo_at _ _ (by omega))
          have c0 : wr.cell? ⟨g, j, none⟩ = some (.int .i64 (bit j)) := (hown.cellAt _ (by omega)).trans (bitsTo_at _ _ (by omega))
          have HX := Lib.hid (xor4 j)
          have f7 := addc j 7 (by omega) (by omega)
          have f5 := addc j 5 (by omega) (by omega)
          have f3 := addc j 3 (by omega) (by omega)
          have f0 : IntKind.i64.wrap (j : Int) = j := IntWalk.i64_in _ (by omega)
          obtain ⟨f71, f72, f73⟩ := f7
          obtain ⟨f51, f52, f53⟩ := f5
          obtain ⟨f31, f32, f33⟩ := f3
          have l7 : (j : Int) + 7 < ((j : Int) + 8) := by omega
          have l5 : (j : Int) + 5 < ((j : Int) + 8) := by omega
          have l3 : (j : Int) + 3 < ((j : Int) + 8) := by omega
          have l0 : (j : Int) < ((j : Int) + 8) := by omega
          go_wp2_with fail
          go_quiet (fail)
          have hownq : (wr.drewN nq).ownsRow w.heap.size 3 1 (.slice (some ⟨g, 0, none⟩) (j + 8) cap') (j + 8) (bitsTo (j + 8)) := hown
          have hBq : Below w.heap.size w (wr.drewN nq) := hB.trans (Joins.below_draws _ _ _)
          rw [HX.out]
          clear hown hB c7 c5 c3 c0 f71 f72 f73 f51 f52 f53 f31 f32 f33 f0 l7 l5 l3 l0
          generalize wr.drewN nq = wq at hownq hBq ⊢
          go_wp2_with (at_builtin; refine wpList_append_own _ rfl _ _ 49 rfl w.heap.size 3 i0 (.int .i64 0) 1 8 Try.underlying49 hi hz0 hz1 hz2 rfl (by decide) _ _ _ rfl (hownq.alloc _) ⟨wq.heap.size, 0, none⟩ 1 1 [.int .i64 (bit (j + 8))] rfl rfl (one_new _ _ _) (one_cell rfl) (by unfold maxLen; omega) (by omega) (by have := hBq.size; simp; omega) ?_)
          intro v' w1 hown' hgrow _
          have hB' : Below w.heap.size w w1 := (hBq.alloc hBq.size _).grown hgrow (by have := hBq.size; simp; omega) (fun r hr => (hownq.lt r hr).1)
          have hown2 : w1.ownsRow w.heap.size 3 1 v' (j + 8 + 1) (bitsTo (j + 8 + 1)) := by rw [bitsTo_succ]; exact hown'
          clear hown' hgrow hownq hBq
          go_wp2
          go_roundw
          case rel => exact ⟨j + 8 + 1, by omega, by go_num, hown2, hB'⟩
          case measure => simp [intOf]; omega
      · obtain rfl : k = 8 * n := by omega
        obtain ⟨g, cap', rfl⟩ : ∃ g cap', u3 = .slice (some ⟨g, 0, none⟩) (8 * n) cap' := by
          rcases hown.2 with ⟨_, h⟩ | ⟨g, cap', cur, rfl, _⟩
          · omega
          · exact ⟨g, cap', rfl⟩
        have HC := Lib.hid (show ∀ i, i < 8 * n → wr.cell? ⟨g, i, none⟩ = some (.int .i64 (bit i)) from fun i hi => (hown.cellAt i (by omega)).trans (bitsTo_at _ _ hi))
        have hg := (hown.lt g rfl).2
        clear hown
        obtain ⟨j0, hj, hy0, hy1, hy2⟩ := info_parts info5
        go_wp2_with fail
        obtain ⟨wo, hwo⟩ : ∃ wo : World, wo = wr := ⟨wr, rfl⟩
        subst hwo
        go_loopw [6, 7] (fun v i wr => ∃ k : Nat, k ≤ n ∧ i = .int .i64 k ∧ wr.ownsRow wo.heap.size 5 1 v k (encB (seqB k)) ∧ Below wo.heap.size wo wr) (fun _ i _ => n - (intOf i).toNat)
        case atStart => exact ⟨0, by omega, rfl, World.ownsRow_nil _ _ _ _, Below.refl _ _⟩
        case round =>
          obtain ⟨k, hk, rfl, hrow, hBo⟩ := hrel
          by_cases hlt : k < n
          · go_wp2_with fail
            obtain ⟨wp, hwp⟩ : ∃ wp : World, wp = wr := ⟨wr, rfl⟩
            subst hwp
            go_loop [8, 9] (fun x t => ∃ m : Nat, m ≤ 8 ∧ x = .int .i64 (par k m) ∧ t = .int .i64 m) (fun _ t => 8 - (intOf t).toNat)
            case atStart => exact ⟨0, by omega, rfl, rfl⟩
            case round =>
              obtain ⟨m, hm, rfl, rfl⟩ := hrel
              have hpl := par_lt k m hm
              by_cases hlt8 : m < 8
              · have cm : wp.cell? ⟨g, 8 * k + m, none⟩ = some (.int .i64 (bit (8 * k + m))) := (hBo.cell (p := ⟨g, _, none⟩) hg).trans (HC.out (8 * k + m) (by omega))
                have hbl := bit_lt (8 * k + m)
                have hidx : (8 * (k : Int) + (m : Int)) < 8 * (n : Int) := by omega
                go_wp2_with fail
                go_round
                case rel => exact ⟨m + 1, by omega, by rw [par]; go_num, by go_num⟩
                case measure => simp [intOf]; omega
              · obtain rfl : m = 8 := by omega
                have hp8 := Lib.hid (par_8 k)
                have hst := st_lt k
                rw [hp8.out]
                go_wp2_with (at_builtin; refine wpList_append_own _ rfl _ _ 22 rfl wo.heap.size 5 j0 (.int .u8 0) 1 1 Try.underlying22 hj hy0 hy1 hy2 rfl (by decide) _ _ _ rfl (hrow.alloc _) ⟨wp.heap.size, 0, none⟩ 1 1 [.int .u8 (st k)] rfl rfl (one_new _ _ _) (one_cell rfl) (by unfold maxLen; omega) (by omega) (by have := hBo.size; simp; omega) ?_)
                intro v' w1 hown' hgrow _
                have hB' : Below wo.heap.size wo w1 := (hBo.alloc hBo.size _).grown hgrow (by have := hBo.size; simp; omega) (fun r hr => (hrow.lt r hr).1)
                have hown2 : w1.ownsRow wo.heap.size 5 1 v' (k + 1) (encB (seqB (k + 1))) := by rw [← bytesTo_enc, bytesTo_succ, bytesTo_enc]; exact hown'
                clear hown' hgrow hrow hBo
                go_wp2
                go_roundw
                case rel =>
                  (repeat apply Exists.intro)
                  exact ⟨⟨k + 1, by omega, by go_num, hown2, hB'⟩, rfl⟩
                case measure => simp [intOf]; omega
          · obtain rfl : k = n := by omega
            go_wp2_with fail
            go_ret
            refine ⟨_, rfl, ?_, ?_, hB.trans (hBo.mono hB.size)⟩
            · rw [seqB_length]; exact Joins.ownsRow_le hrow hB.size
            · rcases hrow.2 with ⟨_, h⟩ | ⟨g', cap'', cur, rfl, _⟩
              · omega
              · exact ⟨fun h => by simp at h, fun h => absurd (congrArg List.length h) (by rw [seqB_length, List.length_nil]; omega)⟩
end Go.Proofs.Ytjeigdopcdeaeaa

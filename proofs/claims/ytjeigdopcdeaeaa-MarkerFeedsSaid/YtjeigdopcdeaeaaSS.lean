/- The iterator of scramble: its contract. No condition. -/
import Derived.Test.YtjeigdopcdeaeaaSR
import Derived.Test.YtjeigdopcdeaeaaSA
import Derived.Sort.LoopGhostIn
namespace Go.Proofs.Ytjeigdopcdeaeaa
open Go.RowKit Go.Shelf Scr
set_option linter.unusedVariables false
attribute [local go_sem] Oper.semAt_some

set_option maxRecDepth 100000 in
theorem all_endless (F : Fence) (n : Nat) (h13 : F.fn 29) (hro : F.round = none) (hn : 1 ≤ n) : Endless F n Try.prog 29 (fun k => Value.int .u8 (st k)) := by
  intro l M J Jx W hM hY h0
  refine callsIn_of_wp Try.func29 rfl h13 ?_ hro
  simp only [Try.ntmps29, List.size_toArray, List.length_cons, List.length_nil, Nat.reduceAdd, Nat.reduceSub, Array.replicate_succ, Array.replicate_zero, List.push_toArray, List.append_toArray, List.nil_append, List.cons_append]
  gi_wp2
  gi_loopg [2] (M + 1) (fun gk s wr => ∃ k : Nat, s = .int .u8 (st k) ∧ k + gk = M + 1 ∧ J k wr)
  case atStart => exact ⟨0, rfl, by omega, h0⟩
  case round =>
    obtain ⟨k, rfl, hgk, hJ⟩ := hrel
    obtain ⟨fn, tmps, assign, body, hy, hR⟩ := hY k wr hJ
    have hkM := hM k wr hJ
    gi_wp2
    refine hR.mono ?_
    rintro e W3 (⟨rfl, hJ3⟩ | ⟨rfl, hJx3⟩)
    · clear hy
      gi_wp2
      obtain ⟨wo, rfl⟩ : ∃ wo : World, wo = wr := ⟨_, rfl⟩
      obtain ⟨go, hgo⟩ : ∃ go : Nat, go = gk := ⟨_, rfl⟩
      have HG := Lib.hid hgo
      clear hgo
      gi_loopg [2, 7] 8 (fun gk s i w4 => w4 = W3 ∧ ∃ (j x : Nat), j + gk = 8 ∧ s = .int .u8 x ∧ i = .int .i64 j ∧ x < 256 ∧ Hid (x = T (8 * k + j)))
      case atStart => exact ⟨rfl, 0, st k, rfl, rfl, rfl, st_lt k, Lib.hid rfl⟩
      case round =>
        obtain ⟨rfl, j, x, hj, rfl, rfl, hx, hT⟩ := hrel
        by_cases hj8 : j < 8
        · have hs := Lib.hid (step1_nat x hx)
          gi_wp2
          gi_roundg (gk - 1)
          case measure => omega
          case rel => exact ⟨rfl, j + 1, nx x, by omega, congrArg (Value.int .u8) hs.out, by go_num, nx_lt _, Lib.hid (by rw [hT.out]; rfl)⟩
        · obtain rfl : j = 8 := by omega
          gi_wp2
          have hgo := HG.out
          gi_roundg (go - 1)
          case measure => omega
          case rel => exact ⟨k + 1, by rw [hT.out]; rfl, by omega, hJ3⟩
    · gi_wp2
      go_end0
      exact ⟨⟨_, rfl⟩, hJx3⟩
end Go.Proofs.Ytjeigdopcdeaeaa

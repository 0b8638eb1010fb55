/- Contract of lost. No condition. -/
import Derived.Test.YtllpbfejoahllaaY
import Derived.Outline
namespace Go.Proofs.Ytllpbfejoahllaa
open Go.RowKit Go.Deep Go.ChangeShapes Go.WideShapes Go.ChangeAt
set_option linter.unusedVariables false

def lostB (l : List UInt8) (i : Nat) : Bool := decide (i / 8 < l.length) && decide ((l.getD (i / 8) 0).toNat / 2 ^ (i % 8) % 2 = 1)
set_option maxRecDepth 20000 in
set_option maxHeartbeats 1000000 in
theorem lostf_any (a : Option Addr) (cap : Nat) (l : List UInt8) (i : Nat) (w : World) (hi : i ≤ 100000) (hl : l.length ≤ 100000) (hb : BAt w a l) : Calls Try.prog 10 #[.slice a l.length cap, .int .i64 (i : Int)] w fun e w' => e = .returned (.bool (lostB l i)) ∧ w' = w := by
  obtain ⟨q, hq⟩ : ∃ q, q = i / 8 := ⟨_, rfl⟩
  obtain ⟨r, hr⟩ : ∃ r, r = i % 8 := ⟨_, rfl⟩
  have eq1 : (i : Int) / 8 = (q : Int) := by omega
  have er1 : (i : Int) % 8 = (r : Int) := by omega
  have g0 : (0 : Int) ≤ (i : Int) := by omega
  have hr8 : r < 8 := by omega
  have HL : Hid (lostB l i = (decide (q < l.length) && decide ((l.getD q 0).toNat / 2 ^ r % 2 = 1))) := Lib.hid (by rw [lostB, hq, hr])
  clear hq hr
  by_cases hlt : q < l.length
  · obtain ⟨b, off, rfl, hbl, -⟩ := id (hb.resolve_left (fun e => by rw [e] at hlt; simp at hlt))
    have c0 := cell_getD hb q hlt
    obtain ⟨x, hx⟩ : ∃ x, x = (l.getD q 0).toNat := ⟨_, rfl⟩
    rw [← hx] at c0 HL
    have hx9 : x < 256 := by rw [hx]; exact UInt8.toNat_lt _
    have g1 : (q : Int) < (l.length : Int) := by omega
    have g2 : (0 : Int) ≤ (q : Int) := by omega
    have g3 : (0 : Int) ≤ (r : Int) := by omega
    have g4 : (r : Int) < 8 := by omega
    have HLT := Lib.hid hlt
    clear hb hx hlt
    go_enter Try.func10, Try.ntmps10
    go_wp2_with fail
    go_ret
    refine ⟨ret_bool ?_, rfl⟩
    rw [HL.out, decide_eq_true HLT.out, Bool.true_and]
    obtain ⟨y, hy⟩ : ∃ y, y = x / 2 ^ r := ⟨_, rfl⟩
    have h1 : ((x : Int) / 2 ^ r) = (y : Int) := by rw [hy]; simp
    rw [h1, ← hy, Int.tmod_eq_emod_of_nonneg (by omega), Bool.eq_iff_iff]
    simp only [beq_iff_eq, decide_eq_true_eq]
    omega
  · have g1 : ¬ (q : Int) < (l.length : Int) := by omega
    have HLT := Lib.hid hlt
    clear hb hlt
    go_enter Try.func10, Try.ntmps10
    go_wp2_with fail
    go_ret
    exact ⟨ret_bool (by rw [HL.out, decide_eq_false HLT.out]; rfl), rfl⟩
end Go.Proofs.Ytllpbfejoahllaa

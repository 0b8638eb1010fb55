/- Contract of the chapter's examples. No condition. -/
import Derived.Test.YtbmdjhlanolhbaaD
namespace Go.Proofs.Ytbmdjhlanolhbaa
open Go.RowKit Go.Shelf Go.Deep Scr
set_option linter.unusedVariables false

theorem seq5 : seqB 5 = [255, 72, 14, 192, 154] := by decide +kernel
theorem app2 : appB [255, 73] = [0, 1] := by decide +kernel
theorem Gives.take {l : List UInt8} {w : World} {e : Ending} {w' : World} (h : Gives l w e w') : ∃ a cap, e = .returned (.slice a l.length cap) ∧ l.length ≤ cap ∧ BAt w' a l ∧ Below w.heap.size w w' := by
  obtain ⟨v, rfl, h1, _, h3⟩ := h
  obtain ⟨_, a, cap, rfl, h4, _, h5⟩ := BAt.of_row h1
  exact ⟨a, cap, rfl, h4, h5, h3⟩
theorem lit2 (w : World) (x y : UInt8) (t : TypeId) : BAt (w.alloc (.cells #[.int .u8 (x.toNat : Int), .int .u8 (y.toNat : Int)] t)) (some ⟨w.heap.size, 0, none⟩) [x, y] := by
  refine .inr ⟨_, _, rfl, by simp, fun i hi => ?_⟩
  rw [Joins.cell_alloc_mark_at _ _ _ _ _ _ rfl]
  match i, hi with
  | 0, _ => rfl
  | 1, _ => rfl

theorem lives_any (w : World) : Calls Try.prog 7 #[] w fun e w' => e = .returned (.bool true) ∧ Below w.heap.size w w' := by
  go_enter Try.func7, Try.ntmps7
  go_wp2_with fail
  refine (Seq_any 5 (by omega) _).mono ?_
  intro e w1 h
  obtain ⟨a, cap, rfl, hcap, hb, hB1⟩ := h.take
  clear h
  have hcv : (convert 23 9 (.slice a 5 cap)).run Try.prog w1 = .ok (.string ⟨#[255, 72, 14, 192, 154]⟩) w1 := by
    have := hb.str 23 9 5 cap Try.underlying23 Try.underlying5 Try.underlying9
    rw [show (5 : Int).toNat = 5 from rfl, seq5] at this
    exact this
  rw [show (5 : Int).toNat = 5 from rfl, seqB_length]
  clear hb
  go_wp2_with fail
  refine (Seq_any (-1) (by omega) _).mono ?_
  intro e w2 h
  obtain ⟨a2, cap2, rfl, hcap2, _, hB2⟩ := h.take
  rw [show (-1 : Int).toNat = 0 from rfl, seqB_length]
  have S2 := hB1.trans (hB2.mono hB1.size)
  clear h hcv hB1 hB2 hcap
  go_wp2_with fail
  refine (Apply_any _ _ [255, 73] _ (by simp) (lit2 _ _ _ _)).mono ?_
  intro e w3 h
  obtain ⟨a3, cap3, rfl, hcap3, hb3, hB3⟩ := h.take
  have hcv3 : (convert 23 9 (.slice a3 2 cap3)).run Try.prog w3 = .ok (.string ⟨#[0, 1]⟩) w3 := by
    have := hb3.str 23 9 5 cap3 Try.underlying23 Try.underlying5 Try.underlying9
    rw [app2] at this
    exact this
  rw [app2]
  have S3 := (S2.alloc S2.size _).trans (hB3.mono (by have := S2.size; simp; omega))
  clear h hb3 hB3 S2
  go_wp2_with fail
  go_ret
  exact ⟨rfl, S3⟩
end Go.Proofs.Ytbmdjhlanolhbaa

/- Contracts of flag, word, zero, bytes.Count, bytes.Clone. No condition. -/
import Derived.Test.YtalghcgedmcifaaA
import Derived.Test.YtalghcgedmcifaaB
import Derived.Shelf.Bytes.SlCountOne
import Derived.Lib.SliceRun
namespace Go.Proofs.Ytalghcgedmcifaa
open Go.RowKit Go.Deep Go.ChangeShapes Go.WideShapes Go.ChangeAt
set_option linter.unusedVariables false

theorem flag_any (on : Bool) (v : Int) (w : World) : Calls Try.prog 39 #[.bool on, .int .i64 v] w fun e w' => e = .returned (.int .i64 (if on then v else 0)) ∧ w' = w := by
  cases on
  all_goals
    go_enter Try.func39, Try.ntmps39
    go_wp2
    go_ret
    exact ⟨rfl, rfl⟩
theorem word_bits (x0 x1 : UInt8) : bits .or .i64 ((x0.toNat : Int) * 256) (x1.toNat : Int) = 256 * (x0.toNat : Int) + (x1.toNat : Int) := by
  have h0 := x0.toNat_lt
  have h1 := x1.toNat_lt
  rw [or_add _ _ 8 (by omega) (by omega) (by omega) (by omega)]
  omega
theorem word_any (b off n cap : Nat) (x0 x1 : UInt8) (w : World) (hn : 2 ≤ n) (c0 : w.cell? ⟨b, off, none⟩ = some (.int .u8 (x0.toNat : Int))) (c1 : w.cell? ⟨b, off + 1, none⟩ = some (.int .u8 (x1.toNat : Int))) :
    Calls Try.prog 34 #[.slice (some ⟨b, off, none⟩) n cap] w fun e w' => e = .returned (.int .i64 (256 * (x0.toNat : Int) + (x1.toNat : Int))) ∧ Quiet w w' := by
  have h0 := x0.toNat_lt
  have h1 := x1.toNat_lt
  have hb := word_bits x0 x1
  have n0 : (0 : Int) < n := by omega
  have n1 : (1 : Int) < n := by omega
  go_enter Try.func34, Try.ntmps34
  go_wp2_with fail
  go_quiet (fail)
  go_wp2_with fail
  go_ret
  exact ⟨rfl, _, rfl⟩
theorem zero_any (a : Option Addr) (cap : Nat) (l : List UInt8) (w : World) (hl : l.length ≤ 1000000000) (hb : BAt w a l) : Calls Try.prog 40 #[.slice a l.length cap] w fun e w' => e = .returned (.bool (zeroB l)) ∧ w' = w := by
  have HB := Lib.hid hb
  clear hb
  go_enter Try.func40, Try.ntmps40
  go_wp2
  go_loop [3] (fun i => ∃ k : Nat, k ≤ l.length ∧ i = .int .i64 k ∧ zeroB (l.take k) = true) (fun i => l.length - (intOf i).toNat)
  case atStart => exact ⟨0, by omega, rfl, rfl⟩
  case round =>
    obtain ⟨k, hk, rfl, hz⟩ := hrel
    have HZ := Lib.hid hz
    clear hz
    by_cases hlt : k < l.length
    · obtain ⟨b, off, rfl, -, hc⟩ := HB.out.resolve_left (fun e => by rw [e] at hlt; simp at hlt)
      have c0 := hc k hlt
      have hs : Hid (zeroB (l.take (k + 1)) = (zeroB (l.take k) && (l[k] == 0))) := Lib.hid (by
        rw [List.take_succ_eq_append_getElem hlt, zeroB, List.all_append]; simp [zeroB])
      have hall : Hid (¬ l[k] = 0 → zeroB l = false) := Lib.hid (fun h => by
        rw [Bool.eq_false_iff]; intro h2
        unfold zeroB at h2
        rw [List.all_eq_true] at h2
        have := h2 l[k] (List.getElem_mem hlt)
        exact h (by simpa using this))
      clear hc
      by_cases h0 : l[k] = 0
      · have e0 : ((l[k].toNat : Int) != 0) = false := by rw [h0]; rfl
        have H0 := Lib.hid h0
        clear h0
        go_wp2
        go_round
        case rel => exact ⟨k + 1, by omega, by go_num, by rw [hs.out, HZ.out, H0.out]; rfl⟩
        case measure => simp [intOf]; omega
      · have e0 : ((l[k].toNat : Int) != 0) = true := by
          rw [bne_iff_ne]; intro h; exact h0 (UInt8.toNat_inj.1 (by simpa using h))
        have H0 := Lib.hid h0
        clear h0
        go_wp2
        go_ret
        exact ⟨ret_bool (hall.out H0.out).symm, rfl⟩
    · obtain rfl : k = l.length := by omega
      go_wp2
      go_ret
      have hz := HZ.out
      rw [List.take_length] at hz
      exact ⟨ret_bool hz.symm, rfl⟩
theorem bytesOf_nat (l : List UInt8) : Lib.bytesOf (l.map fun x => (x.toNat : Int)) = l := by
  rw [Lib.bytesOf, List.map_map]
  conv => rhs; rw [← List.map_id l]
  refine List.map_congr_left fun x _ => ?_
  simp
set_option maxRecDepth 100000 in
theorem count_any (a : Option Addr) (cap : Nat) (l : List UInt8) (b2 o2 d : Nat) (w : World) (hb : BAt w a l) (hc2 : w.cell? ⟨b2, o2, none⟩ = some (.int .u8 0)) :
    Calls Try.prog 41 #[.slice a l.length cap, .slice (some ⟨b2, o2, none⟩) 1 d] w fun e w' => e = .returned (.int .i64 (l.count 0 : Nat)) ∧ w' = w := by
  have hrun : (Extern.BytealgCount.count #[.slice a l.length cap, .int .u8 0]).run Try.prog w = .ok (.int .i64 (l.count 0 : Nat)) w := by
    cases a with
    | none =>
      rcases hb with rfl | ⟨b, off, h, -⟩
      · exact Lib.run_countNil w _ _ _
      · cases h
    | some a =>
      have hrun := Lib.run_countAt (P := Try.prog) w a l.length cap (l.map fun x => (x.toNat : Int)) (by simp) (fun i hi => by
        rcases hb with rfl | ⟨b, off, h, -, h3⟩
        · simp at hi
        · cases h
          rw [add_plain, h3 i hi]
          simp [hi]) 0
      rw [bytesOf_nat] at hrun
      exact hrun
  clear hb
  go_enter Try.func41, Try.ntmps41
  go_wp2
  rw [run_callFunc_extern Try.func43 (by kernel_rfl) (by kernel_rfl) (by kernel_rfl) (e := Extern.BytealgCount.count) (by kernel_rfl), hrun]
  simp only [Result.andThen]
  rw [Oper.upon_value]
  go_wp2
  go_ret
  exact ⟨rfl, rfl⟩
theorem zero_count (l : List UInt8) : zeroB l = decide (l.count 0 = l.length) := by
  rw [Bool.eq_iff_iff]
  unfold zeroB
  rw [List.all_eq_true, decide_eq_true_eq, List.count_eq_length]
  constructor
  · intro h b hb; have := h b hb; simp at this; exact this.symm
  · intro h b hb; have := h b hb; simp [← this]
end Go.Proofs.Ytalghcgedmcifaa

/- Nil units; the chapter's example; in. No condition. -/
import Derived.Test.YtgfloeclepmdlaaL
namespace Go.Proofs.Ytgfloeclepmdlaa
open Go.RowKit Go.Deep Go.ChangeShapes Go.WideShapes Go.ChangeAt
set_option linter.unusedVariables false

theorem find_nil (w : World) (id : Int) : Calls Try.prog 29 #[.pointer none, .int .i64 id] w fun e w' => e = .returned (.pointer none) ∧ w' = w := by
  go_enter Try.func29, Try.ntmps29
  go_wp2_with fail
  refine (none_nil _).mono ?_
  rintro e w2 ⟨rfl, rfl⟩
  go_wp2_with fail
  go_ret
  exact ⟨rfl, rfl⟩
theorem check_nil (w : World) (id n : Int) : Calls Try.prog 24 #[.pointer none, .int .i64 id, .int .i64 n] w fun e w' => e = .returned (.tuple #[.pointer none, .int .i64 2]) ∧ w' = w := by
  go_enter Try.func24, Try.ntmps24
  go_wp2_with fail
  refine (find_nil _ id).mono ?_
  rintro e w2 ⟨rfl, rfl⟩
  go_wp2_with fail
  refine (none_nil _).mono ?_
  rintro e w2 ⟨rfl, rfl⟩
  go_wp2_with fail
  go_ret2
  exact ⟨rfl, rfl⟩
theorem switch_nil (w : World) (id n : Int) : Calls Try.prog 14 #[.pointer none, .int .i64 id, .int .i64 n] w fun e w' => e = .returned (.int .i64 2) ∧ w' = w := by
  go_enter Try.func14, Try.ntmps14
  go_wp2_with fail
  refine (check_nil _ id n).mono ?_
  rintro e w2 ⟨rfl, rfl⟩
  go_wp2_with fail
  go_ret
  exact ⟨rfl, rfl⟩
theorem fail_nil (w : World) (id n : Int) : Calls Try.prog 8 #[.pointer none, .int .i64 id, .int .i64 n] w fun e w' => e = .returned (.int .i64 2) ∧ w' = w := by
  go_enter Try.func8, Try.ntmps8
  go_wp2_with fail
  refine (check_nil _ id n).mono ?_
  rintro e w2 ⟨rfl, rfl⟩
  go_wp2_with fail
  go_ret
  exact ⟨rfl, rfl⟩
theorem active_nil (w : World) (id : Int) : Calls Try.prog 15 #[.pointer none, .int .i64 id] w fun e w' => e = .returned (.tuple #[.int .i64 0, .int .i64 2]) ∧ w' = w := by
  go_enter Try.func15, Try.ntmps15
  go_wp2_with fail
  refine (check_nil _ id 0).mono ?_
  rintro e w2 ⟨rfl, rfl⟩
  go_wp2_with fail
  go_ret2
  exact ⟨rfl, rfl⟩
theorem broken_nil (w : World) : Calls Try.prog 12 #[.pointer none] w fun e w' => e = .returned (.slice none 0 0) ∧ w' = w := by
  go_enter Try.func12, Try.ntmps12
  go_wp2_with fail
  refine (none_nil _).mono ?_
  rintro e w2 ⟨rfl, rfl⟩
  go_wp2_with fail
  go_ret
  exact ⟨rfl, rfl⟩
theorem sides_nil (w : World) : Calls Try.prog 11 #[.pointer none] w fun e w' => e = .returned (.slice none 0 0) ∧ w' = w := by
  go_enter Try.func11, Try.ntmps11
  go_wp2_with fail
  refine (none_nil _).mono ?_
  rintro e w2 ⟨rfl, rfl⟩
  go_wp2_with fail
  go_ret
  exact ⟨rfl, rfl⟩
theorem restore_nil (w : World) (v : Value) : Calls Try.prog 9 #[.pointer none, v] w fun e w' => e = .returned (.int .i64 2) ∧ w' = w := by
  go_enter Try.func9, Try.ntmps9
  go_wp2_with fail
  refine (none_nil _).mono ?_
  rintro e w2 ⟨rfl, rfl⟩
  go_wp2_with fail
  go_ret
  exact ⟨rfl, rfl⟩
theorem clone_nil (w : World) : Calls Try.prog 20 #[.pointer none] w fun e w' => e = .returned (.pointer none) ∧ w' = w := by
  go_enter Try.func20, Try.ntmps20
  go_wp2_with fail
  refine (none_nil _).mono ?_
  rintro e w2 ⟨rfl, rfl⟩
  go_wp2_with fail
  go_ret
  exact ⟨rfl, rfl⟩
theorem working_nil (w : World) (id : Int) : Calls Try.prog 16 #[.pointer none, .int .i64 id] w fun e w' => e = .returned (.bool false) ∧ Quiet w w' := by
  go_enter Try.func16, Try.ntmps16
  go_wp2_with fail
  refine (find_nil _ id).mono ?_
  rintro e w2 ⟨rfl, rfl⟩
  go_wp2_with fail
  obtain ⟨q1, q2, q3, q4⟩ := sums 0 (by omega)
  go_quiet (fail)
  go_wp2_with fail
  go_ret
  exact ⟨rfl, _, rfl⟩
def inB (l : List Int) (n : Int) : Bool := l.any (fun z => z == n)
theorem inB_true {l : List Int} {n : Int} {k : Nat} (hk : k < l.length) (h : l[k] = n) : inB l n = true := by
  unfold inB
  rw [List.any_eq_true]
  exact ⟨l[k], List.getElem_mem hk, by simp [h]⟩
theorem inB_false {l : List Int} {n : Int} (h : ∀ j (hj : j < l.length), l[j] ≠ n) : inB l n = false := by
  unfold inB
  rw [List.any_eq_false]
  intro z hz
  obtain ⟨j, hj, rfl⟩ := List.getElem_of_mem hz
  simpa using h j hj
theorem in_any {w : World} {a : Option Addr} {l : List Int} (n : Int) (c : Nat) (h : VAt w a (ivs l)) (hm : l.length ≤ 1000000) : Calls Try.prog 17 #[.slice a l.length c, .int .i64 n] w fun e w' => e = .returned (.bool (inB l n)) ∧ w' = w := by
  have H := Lib.hid h
  clear h
  go_enter Try.func17, Try.ntmps17
  go_wp2_with fail
  go_loopw [5] (fun i wr => ∃ k : Nat, k ≤ l.length ∧ i = .int .i64 k ∧ wr = w ∧ ∀ j (hj : j < l.length), j < k → l[j] ≠ n) (fun i _ => l.length - (intOf i).toNat)
  case atStart => exact ⟨0, by omega, rfl, rfl, fun j hj h => by omega⟩
  case round =>
    obtain ⟨k, hk, rfl, rfl, hj⟩ := hrel
    have HJ := Lib.hid hj
    clear hj
    by_cases hlt : k < l.length
    · obtain ⟨b, off, rfl, hb, hcell⟩ := H.out.int hlt
      have hk0 : (0 : Int) ≤ (k : Int) := by omega
      have hk1 : (k : Int) < (l.length : Int) := by omega
      by_cases he : l[k] = n
      · have HP := Lib.hid (inB_true hlt he)
        rw [he] at hcell
        clear he
        go_wp2_with fail
        go_ret
        rw [HP.out]
        first | exact ⟨rfl, rfl⟩ | exact ⟨trivial, rfl⟩
      · have e0 : (l[k] == n) = false := by rw [beq_eq_false_iff_ne]; exact he
        have HI := Lib.hid he
        clear he
        go_wp2_with fail
        go_roundw
        case rel => exact ⟨k + 1, by omega, by go_num, (by first | rfl | trivial), fun j h1 h2 => by
          rcases Nat.lt_or_ge j k with h3 | h3
          · exact HJ.out j h1 h3
          · obtain rfl : j = k := by omega
            exact HI.out⟩
        case measure => simp [intOf]; omega
    · have hk1 : ¬ (k : Int) < (l.length : Int) := by omega
      have HP := Lib.hid (inB_false (fun j h1 => HJ.out j h1 (by omega)))
      go_wp2_with fail
      go_ret
      rw [HP.out]
      first | exact ⟨rfl, rfl⟩ | exact ⟨trivial, rfl⟩
/-- literals -/
theorem def_lit (w : World) (ds : List Int) (xs : List Value) (T : TypeId) (hx : ∀ i (h : i < ds.length), xs[i * 2]? = some (.int .i64 ds[i]) ∧ ∃ t : Bool, xs[i * 2 + 1]? = some (.bool t)) : DefAt (w.alloc (.cells xs.toArray T)) (some ⟨w.heap.size, 0, none⟩) ds :=
  .inr ⟨_, 0, rfl, by simp, fun i hi => by
    rw [Nat.zero_add, (Blk.new w T xs).cell, (Blk.new w T xs).cell]
    exact hx i hi⟩
theorem int_lit (w : World) (l : List Int) (T : TypeId) : VAt (w.alloc (.cells (ivs l).toArray T)) (some ⟨w.heap.size, 0, none⟩) (ivs l) :=
  .inr ⟨_, 0, rfl, by simp, fun i hi => by
    rw [Nat.zero_add, (Blk.new w T (ivs l)).cell]
    exact List.getElem?_eq_getElem hi⟩
/-- a list that a call has made -/
theorem IQ.list {w w' : World} {l : List Int} {e : Ending} (h : IQ w l e w') : ∃ a c, e = .returned (.slice a l.length c) ∧ VAt w' a (ivs l) ∧ (∀ p, a = some p → w.heap.size ≤ p.block) ∧ Below w.heap.size w w' := by
  obtain ⟨v, rfl, h1, h2⟩ := h
  rcases h1.2 with ⟨h3, h4⟩ | ⟨g, cap, cur, h3, h4, h5, h6, h7, h8, h9⟩
  · exact ⟨none, 0, by rw [h3, h4], .inl (by rw [List.length_eq_zero_iff.1 h4]; rfl), (fun p hp => by cases hp), h2⟩
  · refine ⟨some ⟨g, 0, none⟩, cap, by rw [h3], .inr ⟨g, 0, rfl, lt_of_block h5, fun i hi => ?_⟩, (fun p hp => by cases hp; exact h4), h2⟩
    rw [Nat.zero_add, ← List.getElem?_eq_getElem hi, ← h9]
    have hb : Blk w' g 3 cur.toList := by unfold Blk; rw [h5]
    rw [hb.cell, List.getElem?_take, if_pos (by have : (ivs l).length = l.length := by simp [ivs]
                                                omega)]
end Go.Proofs.Ytgfloeclepmdlaa

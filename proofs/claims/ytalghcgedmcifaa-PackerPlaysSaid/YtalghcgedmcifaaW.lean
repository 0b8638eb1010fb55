/- Contracts of the law's small functions. No condition. -/
import Derived.Test.YtalghcgedmcifaaV
namespace Go.Proofs.Ytalghcgedmcifaa
open Go.RowKit Go.Deep Go.ChangeShapes Go.WideShapes Go.ChangeAt
set_option linter.unusedVariables false

theorem right_any (size : Int) (w : World) : Calls Try.prog 7 #[.int .i64 size] w fun e w' => e = .returned (.bool (rightB size)) ∧ w' = w := by
  go_enter Try.func7, Try.ntmps7
  go_wp2
  all_goals
    go_ret
    exact ⟨ret_bool (by unfold rightB; rw [Bool.eq_iff_iff]; simp; omega), rfl⟩
/-- the packet of n bytes x -/
def pkB (n : Nat) (x : UInt8) : List UInt8 := bytesP ⟨false, false, 1, 3, 0, List.replicate n x⟩
theorem pkB_valid (n : Nat) (x : UInt8) (h1 : 1 ≤ n) (h2 : n ≤ 4000) : validB ⟨false, false, 1, 3, 0, List.replicate n x⟩ = true := by
  rw [validB_iff]
  refine ⟨⟨by simp, by simp, by simp, by simp, by simp, by simp, ?_, ?_⟩, fun h => by simp at h⟩
  · simp; omega
  · simp; omega
theorem pkB_len (n : Nat) (x : UInt8) : (pkB n x).length = n + 6 := by unfold pkB; rw [bytesP_length]; simp; omega
theorem pkB_fit (n : Nat) (x : UInt8) (h1 : 1 ≤ n) (h2 : n ≤ 4000) : fitB (pkB n x) = true := by
  have h := dec_enc ⟨false, false, 1, 3, 0, List.replicate n x⟩ [] (pkB_valid n x h1 h2)
  rw [List.append_nil] at h
  unfold fitB
  show (decide ((decP (bytesP ⟨false, false, 1, 3, 0, List.replicate n x⟩)).2.2 = 0) && _ && _) = true
  unfold pkB
  rw [h]
  simp
theorem rep_set (n i : Nat) (x : UInt8) (h : i < n) : (encB (List.replicate i x ++ List.replicate (n - i) 0)).set i (.int .u8 (x.toNat : Int)) = encB (List.replicate (i + 1) x ++ List.replicate (n - (i + 1)) 0) := by
  obtain ⟨k, hk⟩ : ∃ k, n - i = k + 1 := ⟨n - i - 1, by omega⟩
  rw [hk, show n - (i + 1) = k by omega, encB_append, encB_append, List.set_append_right _ _ (by rw [encB_length]; simp), encB_length]
  rw [List.replicate_succ (n := k), List.replicate_succ' (n := i)]
  simp [encB]
theorem lbytes_any (n : Nat) (x : UInt8) (w : World) (h1 : 1 ≤ n) (h2 : n ≤ 4000) : Calls Try.prog 10 #[.int .i64 (n : Int), .int .u8 (x.toNat : Int)] w (NB w (pkB n x)) := by
  have hmk := run_zeros n (by omega)
  have hv := Lib.hid (pkB_valid n x h1 h2)
  obtain ⟨pd, hpd⟩ : ∃ pd, pd = w.heap.size := ⟨_, rfl⟩
  have HPD := Lib.hid hpd
  have hk0 : Hid (Blk (w.alloc (.cells (encB (List.replicate n 0)).toArray 5)) pd 5 (encB (List.replicate 0 x ++ List.replicate (n - 0) 0))) := Lib.hid (by rw [hpd]; simpa using Blk.new w 5 (encB (List.replicate n 0)))
  have n0 : (n : Int) ≤ 4000 := by omega
  go_enter Try.func10, Try.ntmps10
  go_upto_region 2 with fail
  rw [← hpd]
  obtain ⟨w1, hw1⟩ : ∃ w1, w1 = w.alloc (.cells (encB (List.replicate n 0)).toArray 5) := ⟨_, rfl⟩
  rw [← hw1] at hk0
  rw [← hw1]
  have HB1 : Hid (Below w.heap.size w w1) := Lib.hid (by rw [hw1]; exact al (Below.refl _ _) _)
  clear hw1 hmk hpd
  go_wp2_with fail
  go_loopw [6] (fun v6 wr => ∃ i : Nat, i ≤ n ∧ v6 = .int .i64 (i : Int) ∧ Hid (Blk wr pd 5 (encB (List.replicate i x ++ List.replicate (n - i) 0))) ∧ Hid (Below w.heap.size w wr)) (fun v6 _ => n - (intOf v6).toNat)
  case atStart => exact ⟨0, Nat.zero_le _, rfl, hk0, HB1⟩
  case round =>
    obtain ⟨i, hi, rfl, HK, HB⟩ := hrel
    by_cases hlt : i < n
    · have e3 : (i : Int) < (n : Int) := by omega
      have e4 : (0 : Int) ≤ (i : Int) := by omega
      have c0 : wr.cell? ⟨pd, i, none⟩ = some (.int .u8 0) := by
        rw [HK.out.cell, encB_append, List.getElem?_append_right (by rw [encB_length]; simp), encB_length]
        have : 0 < n - i := by omega
        simp [encB, this]
      have f0 := HK.out.free i
      have hl := HK.out.lt
      go_wp2_with fail
      go_roundw
      case rel => exact ⟨i + 1, by omega, by go_num, Lib.hid (Blk.cast (HK.out.setCell i _) (rep_set n i x hlt)), Lib.hid (HB.out.setCell (p := ⟨pd, i, none⟩) (by rw [HPD.out]; exact Nat.le_refl _) _)⟩
      case measure => simp [intOf]; omega
    · obtain rfl : i = n := by omega
      have e3 : ¬ (i : Int) < (i : Int) := by omega
      have hba : Hid (BAt wr (some ⟨pd, 0, none⟩) (List.replicate i x)) := Lib.hid (by
        have := HK.out
        rw [Nat.sub_self, List.replicate_zero, List.append_nil] at this
        exact BAt.of_blk this)
      go_wp2_with fail
      refine (bytes_n ⟨false, false, 1, 3, 0, List.replicate i x⟩ i (by simp) _ _ _ hba.out hv.out).mono ?_
      rintro e w3 ⟨v, rfl, hO, hB⟩
      have HO := Lib.hid hO
      have HB3 := Lib.hid hB
      clear hO hB
      go_wp2_with fail
      go_ret
      exact ⟨_, rfl, own_base HO.out HB.out.size, HB.out.trans (HB3.out.mono HB.out.size)⟩
end Go.Proofs.Ytalghcgedmcifaa

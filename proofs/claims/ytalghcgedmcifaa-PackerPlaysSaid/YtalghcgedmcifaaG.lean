/- Contracts of Idle on both sides. No condition. -/
import Derived.Test.YtalghcgedmcifaaF
import Derived.Laws.MakeOwn
import Derived.Laws.OwnMore
namespace Go.Proofs.Ytalghcgedmcifaa
open Go.RowKit Go.Deep Go.ChangeShapes Go.WideShapes Go.ChangeAt
set_option linter.unusedVariables false

theorem BAt.of_blk {w : World} {b : Nat} {T : TypeId} {l : List UInt8} (h : Blk w b T (encB l)) : BAt w (some ⟨b, 0, none⟩) l :=
  .inr ⟨b, 0, rfl, h.lt, fun i hi => (h.cell (0 + i)).trans (by simp [encB, hi])⟩
theorem zeros_made (n : Nat) : madeCells #[.int .u8 0] n = (encB (List.replicate n 0)).toArray := by
  rw [← Array.toList_inj, toList_madeCells_one]
  simp [encB]
theorem run_zeros (n : Nat) (hn : n ≤ 1000000000) (w : World) : (Instr.makeSlice 22 (.int .i64 (n : Int)) (.int .i64 (n : Int))).run Try.prog w = .ok (.slice (some ⟨w.heap.size, 0, none⟩) n n) (w.alloc (.cells (encB (List.replicate n 0)).toArray 5)) := by
  obtain ⟨i0, hi, hz0, hz1, hz2⟩ := info_parts info5
  have h := run_make (P := Try.prog) w 22 5 i0 _ Try.underlying22 hi hz0 .i64 .i64 n n (by omega) (Int.le_refl _) (by rw [hz2]; omega) (by omega)
  simp only [Int.toNat_natCast, hz1, Nat.mul_one] at h
  rw [← zeros_made]
  exact h
theorem encode_n (p : Pk) (n : Nat) (hn : p.dat.length = n) (a : Option Addr) (cap : Nat) (w : World) (hl : p.dat.length ≤ maxLen) (hb : BAt w a p.dat) :
    Calls Try.prog 36 #[.agg #[.bool p.cmd, .bool p.sec, .int .i64 p.apid, .int .i64 p.flags, .int .i64 p.count, .slice a n cap]] w (EQ w (encP p)) := by
  subst hn; exact encode_any p a cap w hl hb
theorem bytes_n (p : Pk) (n : Nat) (hn : p.dat.length = n) (a : Option Addr) (cap : Nat) (w : World) (hb : BAt w a p.dat) (hv : validB p = true) :
    Calls Try.prog 24 #[.agg #[.bool p.cmd, .bool p.sec, .int .i64 p.apid, .int .i64 p.flags, .int .i64 p.count, .slice a n cap]] w (NB w (bytesP p)) := by
  subst hn; exact bytes_any p a cap w hb hv
theorem idleP_bad (size : Int) (h : ¬ (7 ≤ size ∧ size ≤ 4096)) : idleP size = ([], 1) := if_neg h
theorem idleP_ok (n : Nat) (h1 : 1 ≤ n) (h2 : n ≤ 4090) : idleP ((n : Int) + 6) = (bytesP (idlePk n), 0) := by
  have : ((n : Int) + 6 - 6).toNat = n := by omega
  rw [idleP, if_pos (by omega), this]
theorem idle_call (size : Int) (w : World) : Calls Try.prog 29 #[.int .i64 size] w (EQ w (idleP size)) := by
  by_cases h6 : size ≤ 6
  · have HF := Lib.hid (idleP_bad size (by omega))
    go_enter Try.func29, Try.ntmps29
    go_wp2
    go_ret2
    rw [HF.out]
    exact ⟨_, rfl, World.ownsRow_nil _ _ _ _, Below.refl _ _⟩
  · by_cases h7 : 4096 < size
    · have HF := Lib.hid (idleP_bad size (by omega))
      go_enter Try.func29, Try.ntmps29
      go_wp2
      go_ret2
      rw [HF.out]
      exact ⟨_, rfl, World.ownsRow_nil _ _ _ _, Below.refl _ _⟩
    · obtain ⟨n, rfl⟩ : ∃ n : Nat, size = (n : Int) + 6 := ⟨(size - 6).toNat, by omega⟩
      have h1 : 1 ≤ n := by omega
      have h2 : n ≤ 4090 := by omega
      have HF := Lib.hid (idleP_ok n h1 h2)
      have HV := Lib.hid (idle_valid n h1 h2)
      have hmk := run_zeros n (by omega)
      go_enter Try.func29, Try.ntmps29
      go_wp2_with fail
      refine (encode_n (idlePk n) n (by simp [idlePk]) _ _ _ (by simp [idlePk]; unfold maxLen; omega) (BAt.of_blk (Blk.new w 5 _))).mono ?_
      rintro e w2 ⟨v, rfl, hO, hB⟩
      have hs : w.heap.size ≤ (w.alloc (.cells (encB (List.replicate n 0)).toArray 5)).heap.size := by simp
      have HO := Lib.hid (own_base hO hs)
      have HB := Lib.hid ((al (Below.refl _ _) _).trans (hB.mono hs))
      clear hO hB hmk hs
      have he : Hid (encP (idlePk n) = (bytesP (idlePk n), 0)) := Lib.hid (if_pos HV.out)
      rw [he.out] at HO
      rw [he.out]
      go_wp2_with fail
      go_ret2
      rw [HF.out]
      exact ⟨v, rfl, HO.out, HB.out⟩
theorem ridle_call (size : Int) (w : World) : Calls Try.prog 32 #[.int .i64 size] w (EQ w (idleP size)) := by
  by_cases h6 : size < 7
  · have HF := Lib.hid (idleP_bad size (by omega))
    go_enter Try.func32, Try.ntmps32
    go_wp2
    go_ret2
    rw [HF.out]
    exact ⟨_, rfl, World.ownsRow_nil _ _ _ _, Below.refl _ _⟩
  · by_cases h7 : 4096 < size
    · have HF := Lib.hid (idleP_bad size (by omega))
      go_enter Try.func32, Try.ntmps32
      go_wp2
      go_ret2
      rw [HF.out]
      exact ⟨_, rfl, World.ownsRow_nil _ _ _ _, Below.refl _ _⟩
    · obtain ⟨n, rfl⟩ : ∃ n : Nat, size = (n : Int) + 6 := ⟨(size - 6).toNat, by omega⟩
      have h1 : 1 ≤ n := by omega
      have h2 : n ≤ 4090 := by omega
      have HF := Lib.hid (idleP_ok n h1 h2)
      have HV := Lib.hid (idle_valid n h1 h2)
      have hmk := run_zeros n (by omega)
      go_enter Try.func32, Try.ntmps32
      go_wp2_with fail
      refine (bytes_n (idlePk n) n (by simp [idlePk]) _ _ _ (BAt.of_blk (Blk.new w 5 _)) HV.out).mono ?_
      rintro e w2 ⟨v, rfl, hO, hB⟩
      have hs : w.heap.size ≤ (w.alloc (.cells (encB (List.replicate n 0)).toArray 5)).heap.size := by simp
      have HO := Lib.hid (own_base hO hs)
      have HB := Lib.hid ((al (Below.refl _ _) _).trans (hB.mono hs))
      clear hO hB hmk hs
      go_wp2_with fail
      go_ret2
      rw [HF.out]
      exact ⟨v, rfl, HO.out, HB.out⟩
end Go.Proofs.Ytalghcgedmcifaa

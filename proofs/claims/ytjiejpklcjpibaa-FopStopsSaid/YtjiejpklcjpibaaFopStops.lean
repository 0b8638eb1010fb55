/- The law FopStops holds: the walk, then the lift to the given statement. No condition. -/
import Derived.Test.YtjiejpklcjpibaaW
import Derived.WalkKit
import Derived.ProofKit
import Derived.OpenShut
import Derived.Lib.Hide
import Derived.ChangeOld
import Derived.Below
import Derived.SizedLaws
namespace Go.Proofs.Ytjiejpklcjpibaa.fopStops
open Go.ChangeShapes Go.WideShapes Go.ChangeAt Go.RowKit
set_option linter.unusedVariables false
theorem own : ownKnob Try.prog.godebug = none := by kernel_rfl
theorem laidOut : laidOutB Try.prog = true := by kernel_rfl

theorem litN (w : World) (i : Nat) (hi : i < 256) (m : Nat × Nat) : BAt (w.alloc (.cells #[.int .u8 (i : Int)] 5 m)) (some ⟨w.heap.size, 0, none⟩) [UInt8.ofNat i] := by
  have h := lit1 w (UInt8.ofNat i) m
  rw [show (UInt8.ofNat i).toNat = i by rw [UInt8.toNat_ofNat']; omega] at h
  exact h
set_option maxRecDepth 20000 in
set_option maxHeartbeats 4000000 in
theorem walk (a0 a1 a2 : Int) (w : World) (w0 : (Lit.int .u8 a0).wf = true) (w1 : (Lit.int .u8 a1).wf = true) (w2 : (Lit.int .u8 a2).wf = true) : Calls Try.prog 5 #[.int .u8 a0, .int .u8 a1, .int .u8 a2] w fun e w' => e = .returned (.bool true) ∧ Below w.heap.size w w' := by
  obtain ⟨x0, rfl⟩ := wf_u8 w0
  obtain ⟨x1, rfl⟩ := wf_u8 w1
  obtain ⟨x2, rfl⟩ := wf_u8 w2
  clear w0 w1 w2
  obtain ⟨b, hb⟩ : ∃ b, b = w.heap.size := ⟨_, rfl⟩
  have HBB := Lib.hid hb
  obtain ⟨n, hn⟩ : ∃ n, n = x0.toNat % 5 + 1 := ⟨_, rfl⟩
  obtain ⟨k, hk⟩ : ∃ k, k = x1.toNat % 6 := ⟨_, rfl⟩
  obtain ⟨t, ht⟩ : ∃ t, t = x2.toNat % 7 + 1 := ⟨_, rfl⟩
  have hn5 : 1 ≤ n ∧ n ≤ 5 := by omega
  have hk5 : k ≤ 5 := by omega
  have ht7 : 1 ≤ t ∧ t ≤ 7 := by omega
  have HCK := Lib.hid (stops_ok hn5 hk5 ht7)
  have en : (x0.toNat : Int).tmod 5 + 1 = (n : Int) := by rw [Int.tmod_eq_emod_of_nonneg (by omega)]; omega
  have en2 : (x0.toNat : Int) % 5 + 1 = (n : Int) := by omega
  have ek : (x1.toNat : Int).tmod 6 = (k : Int) := by rw [Int.tmod_eq_emod_of_nonneg (by omega)]; omega
  have ek2 : (x1.toNat : Int) % 6 = (k : Int) := by omega
  have et : (x2.toNat : Int).tmod 7 + 1 = (t : Int) := by rw [Int.tmod_eq_emod_of_nonneg (by omega)]; omega
  have et2 : (x2.toNat : Int) % 7 + 1 = (t : Int) := by omega
  have b0 : (x0.toNat : Int) < 256 := by have := x0.toNat_lt; omega
  have b1 : (x1.toNat : Int) < 256 := by have := x1.toNat_lt; omega
  have b2 : (x2.toNat : Int) < 256 := by have := x2.toNat_lt; omega
  obtain ⟨k2, hk2⟩ : ∃ k2, k2 = k + 2 := ⟨_, rfl⟩
  obtain ⟨tn, htn⟩ : ∃ tn, tn = t + n := ⟨_, rfl⟩
  obtain ⟨tn1, htn1⟩ : ∃ tn1, tn1 = tn + 1 := ⟨_, rfl⟩
  obtain ⟨bd, hbd⟩ : ∃ bd, bd = k2 * tn1 := ⟨_, rfl⟩
  have hbd9 : bd ≤ 91 := by rw [hbd]; exact Nat.mul_le_mul (show k2 ≤ 7 by omega) (show tn1 ≤ 13 by omega)
  have HBD : Hid ((k + 2) * (t + n + 1) = bd) := Lib.hid (by rw [hbd, hk2, htn1, htn])
  have m1 : (k : Int) + 2 = (k2 : Int) := by omega
  have m2 : (t : Int) + (n : Int) = (tn : Int) := by omega
  have m3 : (tn : Int) + 1 = (tn1 : Int) := by omega
  have m4 : (k2 : Int) * (tn1 : Int) = (bd : Int) := by rw [hbd]; simp
  have m5 : (k2 : Int) ≤ 7 := by omega
  have m6 : (tn : Int) ≤ 12 := by omega
  have m7 : (tn1 : Int) ≤ 13 := by omega
  have m8 : (bd : Int) ≤ 91 := by omega
  have m9 : (n : Int) ≤ 5 := by omega
  have m10 : (k : Int) ≤ 5 := by omega
  have m11 : (t : Int) ≤ 7 := by omega
  have m12 : ¬ (n : Int) = 0 := by omega
  clear hn hk ht hk2 htn htn1 hbd
  go_enter Try.func5, Try.ntmps5
  go_wp2_with fail
  refine (new_any 5 1 9 t k w).mono ?_
  rintro e wa ⟨rfl, hF, hB⟩
  rw [← hb] at hF ⊢
  have HF1 : Hid (FAt wa (fun k => k < b) b (fsN 0 9 t k) (.slice none 0 0) (.slice none 0 0)) := Lib.hid hF
  have HB1 : Hid (Below b w wa) := Lib.hid (by rw [hb]; exact hB)
  clear hF hB hb
  go_wp2_with fail
  go_loopw [11] (fun v11 wr => ∃ (i : Nat) (vU : Value), i ≤ n ∧ v11 = .int .i64 (i : Int) ∧ Hid (FAt wr (fun k => k < b) b (fsN i 9 t k) vU (.slice none 0 0)) ∧ Hid (Below b w wr)) (fun v11 _ => n - (intOf v11).toNat)
  case atStart => exact ⟨0, _, Nat.zero_le _, rfl, HF1, HB1⟩
  case round =>
    obtain ⟨i, vU, hi, rfl, HF, HB⟩ := hrel
    have hbl := HF.out.blk.lt
    by_cases hlt : i < n
    · have e3 : (i : Int) < (n : Int) := by omega
      have e4 : (i : Int) < 256 := by omega
      have hle : b ≤ wr.heap.size := by omega
      go_wp2_with fail
      refine (send_ex (n := 1) (fsN_send i (by omega) _ _ _) (HF.out.below (al (Below.refl _ _) _) (Nat.le_refl _)) (fsN_ok i (by omega) _ _ _) (litN _ i (by omega) _) rfl (by omega)).mono ?_
      rintro e w3 ⟨rfl, vU3, hF, hB⟩
      have HF3 := Lib.hid hF
      have HB3 : Hid (Below b w w3) := Lib.hid ((HB.out.alloc hle _).trans hB)
      clear hF hB
      go_wp2_with fail
      go_roundw
      case rel => exact ⟨i + 1, vU3, by omega, by go_num, HF3, HB3⟩
      case measure => simp [intOf]; omega
    · obtain rfl : i = n := by omega
      have e3 : ¬ (i : Int) < (i : Int) := by omega
      clear hlt
      obtain ⟨wo, hwo⟩ : ∃ wo, wo = wr := ⟨wr, rfl⟩
      subst hwo
      go_wp2_with fail
      go_loopw [12, 13] (fun v12 v13 wr => ∃ (now many fu : Nat) (f : FS) (vU vC : Value), now + fu = 100 ∧ many ≤ now ∧ v13 = .int .i64 (now : Int) ∧ v12 = .int .i64 (many : Int) ∧ Hid (stopsC i k t fu now f many = true ∧ f.Ok ∧ f.acked ≤ 100) ∧ Hid (FAt wr (fun k => k < b) b f vU vC) ∧ Hid (Below b w wr)) (fun _ v13 _ => 100 - (intOf v13).toNat)
      case atStart => exact ⟨0, 0, 100, fsN i 9 t k, vU, _, rfl, Nat.le_refl _, rfl, rfl, Lib.hid ⟨HCK.out, fsN_ok i (by omega) _ _ _, Nat.zero_le _⟩, HF, HB⟩
      case round =>
        obtain ⟨now, many, fu, f, vU2, vC, hnf, hmn, rfl, rfl, HC, HF2, HB2⟩ := hrel
        obtain ⟨fu, rfl⟩ : ∃ m, fu = m + 1 := by
          cases fu with
          | zero => have := HC.out.1; simp [stopsC] at this
          | succ m => exact ⟨m, rfl⟩
        have hc := HC.out.1
        rw [stopsC, HBD.out] at hc
        have c1 : (now : Int) ≤ 100 := by omega
        have c2 : (many : Int) ≤ 100 := by omega
        obtain ⟨r, hr⟩ : ∃ r, r = many % i := ⟨_, rfl⟩
        have hr1 : (many : Int).tmod (i : Int) = (r : Int) := by rw [Int.tmod_eq_emod_of_nonneg (by omega), hr]; rfl
        have hr2 : (many : Int) % (i : Int) = (r : Int) := by rw [hr]; rfl
        rw [← hr] at hc
        clear hr
        by_cases hlt : now < bd
        · have d1 : (now : Int) < (bd : Int) := by omega
          by_cases hst : f.state = 1
          · have d2 : (f.state : Int) = 1 := by omega
            rw [if_pos ⟨hlt, hst⟩] at hc
            have hokn := FS.ok_next HC.out.2.1 (now : Int)
            have hack := FS.acked_next f (now : Int)
            cases hnx : f.next (now : Int) with
            | mk g o =>
              rw [hnx] at hc hokn hack
              have ha := HC.out.2.2
              cases o with
              | some x =>
                obtain ⟨x1, x2, x3, x4, x5, x6⟩ := x
                simp only [Bool.and_eq_true, decide_eq_true_eq] at hc
                obtain ⟨hseq, hc⟩ := hc
                subst hseq
                have HC2 := Lib.hid (show stopsC i k t fu (now + 1) g (many + 1) = true ∧ g.Ok ∧ g.acked ≤ 100 from ⟨hc, hokn, by dsimp only at hack; omega⟩)
                have HNX := Lib.hid hnx
                clear hc hnx hokn hack
                go_wp2_with (go_at_call 17; refine (state_any _ HF2.out).mono ?_; rintro e wq ⟨rfl, hw⟩; obtain rfl := hw.symm)
                refine (next_ex (n := x6.length) HNX.out HF2.out HC.out.2.1 (by have := HC.out.2.2; omega) rfl).mono ?_
                rintro e wr3 ⟨a3, c3, vC3, rfl, hO3, hF3, hR3, hB3⟩
                go_upto_region 14 with fail
                obtain ⟨w3, hw3⟩ : ∃ w', w' = wr3.alloc (.cells #[.bool x1, .bool x2, .int .i64 x3, .int .i64 x4, .int .i64 (r : Int), .slice a3 x6.length c3] 33) := ⟨_, rfl⟩
                rw [← hw3]
                have HF3 : Hid (FAt w3 (fun k => k < b) b g vU2 vC3) := Lib.hid (by rw [hw3]; exact hF3.out.below (al (Below.refl _ _) _) (Nat.le_refl _))
                have HB3 : Hid (Below b w w3) := Lib.hid (by rw [hw3]; exact (HB2.out.trans hB3.out).alloc (Nat.le_of_lt hF3.out.blk.lt) _)
                have HK3 : Hid (Blk w3 wr3.heap.size 33 [.bool x1, .bool x2, .int .i64 x3, .int .i64 x4, .int .i64 (r : Int), .slice a3 x6.length c3]) := Lib.hid (by rw [hw3]; exact Blk.new wr3 33 _)
                have HL3 : Hid (b < wr3.heap.size) := Lib.hid hF3.out.blk.lt
                have HS3 : Hid (Fr (fun k => k = b) wr w3) := Lib.hid (by rw [hw3]; exact hR3.out.alloc _)
                have s4 := HK3.out.at 4 rfl
                clear hw3 hF3 hR3 hB3 hO3
                go_wp2_with (go_quiet (fail))
                go_roundw
                case rel => exact ⟨now + 1, many + 1, fu, g, _, _, by omega, by omega, by go_num, by go_num, HC2, Lib.hid (HF3.out.quiet ⟨_, rfl⟩), Lib.hid (HB3.out.trans (Quiet.below ⟨_, rfl⟩))⟩
                case measure => simp [intOf]; omega
              | none =>
                have HC2 := Lib.hid (show stopsC i k t fu (now + 1) g many = true ∧ g.Ok ∧ g.acked ≤ 100 from ⟨hc, hokn, by dsimp only at hack; omega⟩)
                have HNX := Lib.hid hnx
                clear hc hnx hokn hack
                go_wp2_with (go_at_call 17; refine (state_any _ HF2.out).mono ?_; rintro e wq ⟨rfl, hw⟩; obtain rfl := hw.symm)
                refine (next_no HNX.out HF2.out HC.out.2.1 (by have := HC.out.2.2; omega)).mono ?_
                rintro e wr3 ⟨a3, c3, vC3, rfl, hF3, hR3, hB3⟩
                go_upto_region 14 with fail
                obtain ⟨w3, hw3⟩ : ∃ w', w' = wr3.alloc (.cells #[.bool false, .bool false, .int .i64 0, .int .i64 0, .int .i64 0, .slice a3 0 c3] 33) := ⟨_, rfl⟩
                rw [← hw3]
                have HF3 : Hid (FAt w3 (fun k => k < b) b g vU2 vC3) := Lib.hid (by rw [hw3]; exact hF3.out.below (al (Below.refl _ _) _) (Nat.le_refl _))
                have HB3 : Hid (Below b w w3) := Lib.hid (by rw [hw3]; exact (HB2.out.trans hB3.out).alloc (Nat.le_of_lt hF3.out.blk.lt) _)
                have HK3 : Hid (Blk w3 wr3.heap.size 33 [.bool false, .bool false, .int .i64 0, .int .i64 0, .int .i64 0, .slice a3 0 c3]) := Lib.hid (by rw [hw3]; exact Blk.new wr3 33 _)
                have HL3 : Hid (b < wr3.heap.size) := Lib.hid hF3.out.blk.lt
                have HS3 : Hid (Fr (fun k => k = b) wr w3) := Lib.hid (by rw [hw3]; exact hR3.out.alloc _)
                clear hw3 hF3 hR3 hB3
                go_wp2_with fail
                go_roundw
                case rel => exact ⟨now + 1, many, fu, g, _, _, by omega, by omega, by go_num, by go_num, HC2, HF3, HB3⟩
                case measure => simp [intOf]; omega
          · have d2 : ¬ (f.state : Int) = 1 := by omega
            have d2b : ((f.state : Int) == 1) = false := by rw [beq_eq_false_iff_ne]; omega
            rw [if_neg (fun h => hst h.2)] at hc
            simp only [Bool.and_eq_true, decide_eq_true_eq, List.isEmpty_iff] at hc
            obtain ⟨⟨⟨⟨⟨⟨q1, q2⟩, q3⟩, q4⟩, q5⟩, q6⟩, q7⟩ := hc
            obtain ⟨g1, g2, g3, g4, g5, dd, r1, r2, r3, r4, r5, o2, o3, o4, ka2, ka3, ka4, s5⟩ := fin_plain HC.out.2.1 q1 q3 q4 q5 (by omega) q7
            obtain ⟨k1, hk1⟩ : ∃ k1, k1 = k + 1 := ⟨_, rfl⟩
            have z1 : (k : Int) + 1 = (k1 : Int) := by omega
            have z2 : (i : Int) * (k1 : Int) = (many : Int) := by rw [q2, hk1]; simp
            have z3 : (f.state : Int) = 4 := by omega
            have z4 : ((f.state : Int) != 4) = false := by simp; omega
            have z5 : (k1 : Int) ≤ 6 := by omega
            have HR1 := Lib.hid r1
            have HR2 := Lib.hid r2
            have HR3 := Lib.hid r3
            have HR4 := Lib.hid r4
            have HR5 := Lib.hid r5
            have HA := Lib.hid (show g2.Ok ∧ g3.Ok ∧ g4.Ok ∧ g2.acked = 0 ∧ g3.acked = 0 ∧ g4.acked = 0 ∧ g5.state = 1 from ⟨o2, o3, o4, ka2, ka3, ka4, s5⟩)
            clear q1 q2 q3 q4 q5 q6 q7 r1 r2 r3 r4 r5 o2 o3 o4 ka2 ka3 ka4 s5 hk1
            go_upto_region 20 with (go_at_call 17; refine (state_any _ HF2.out).mono ?_; rintro e wq ⟨rfl, hw⟩; obtain rfl := hw.symm)
            go_wp2_with fail
            refine (next_no HR1.out HF2.out HC.out.2.1 (by have := HC.out.2.2; omega)).mono ?_
            rintro e wr3 ⟨a3, c3, vC3, rfl, hF3, hR3, hB3⟩
            go_upto_region 21 with fail
            obtain ⟨w3, hw3⟩ : ∃ w', w' = wr3.alloc (.cells #[.bool false, .bool false, .int .i64 0, .int .i64 0, .int .i64 0, .slice a3 0 c3] 33) := ⟨_, rfl⟩
            rw [← hw3]
            have HF3 : Hid (FAt w3 (fun k => k < b) b g1 vU2 vC3) := Lib.hid (by rw [hw3]; exact hF3.out.below (al (Below.refl _ _) _) (Nat.le_refl _))
            have HB3 : Hid (Below b w w3) := Lib.hid (by rw [hw3]; exact (HB2.out.trans hB3.out).alloc (Nat.le_of_lt hF3.out.blk.lt) _)
            have HK3 : Hid (Blk w3 wr3.heap.size 33 [.bool false, .bool false, .int .i64 0, .int .i64 0, .int .i64 0, .slice a3 0 c3]) := Lib.hid (by rw [hw3]; exact Blk.new wr3 33 _)
            have HL3 : Hid (b < wr3.heap.size) := Lib.hid hF3.out.blk.lt
            have HS3 : Hid (Fr (fun k => k = b) wr w3) := Lib.hid (by rw [hw3]; exact hR3.out.alloc _)
            clear hw3 hF3 hR3 hB3
            go_wp2_with fail
            refine (unlock_ex HR2.out HF3.out).mono ?_
            rintro e w4 ⟨vC4, rfl, hF, hR, hB⟩
            have HF4 := Lib.hid hF.out
            have HB4 : Hid (Below b w w4) := Lib.hid (HB3.out.trans hB.out)
            clear hF hR hB
            go_wp2_with fail
            refine (next_ex (n := 1) HR3.out HF4.out HA.out.1 (by have := HA.out; omega) rfl).mono ?_
            rintro e wr5 ⟨a5, c5, vC5, rfl, hO5, hF5, hR5, hB5⟩
            go_upto_region 23 with fail
            obtain ⟨w5, hw5⟩ : ∃ w', w' = wr5.alloc (.cells #[.bool true, .bool true, .int .i64 5, .int .i64 1, .int .i64 0, .slice a5 1 c5] 33) := ⟨_, rfl⟩
            rw [← hw5]
            have HF5 : Hid (FAt w5 (fun k => k < b) b g3 vU2 vC5) := Lib.hid (by rw [hw5]; exact hF5.out.below (al (Below.refl _ _) _) (Nat.le_refl _))
            have HB5 : Hid (Below b w w5) := Lib.hid (by rw [hw5]; exact (HB4.out.trans hB5.out).alloc (Nat.le_of_lt hF5.out.blk.lt) _)
            have HK5 : Hid (Blk w5 wr5.heap.size 33 [.bool true, .bool true, .int .i64 5, .int .i64 1, .int .i64 0, .slice a5 1 c5]) := Lib.hid (by rw [hw5]; exact Blk.new wr5 33 _)
            have HL5 : Hid (b < wr5.heap.size) := Lib.hid hF5.out.blk.lt
            have HS5 : Hid (Fr (fun k => k = b) w4 w5) := Lib.hid (by rw [hw5]; exact hR5.out.alloc _)
            have HD5 : Hid (BAt w5 a5 [0] ∧ ∀ q, a5 = some q → b < q.block) := Lib.hid (by
              obtain ⟨-, a, c, e, hc9, hm9, hA⟩ := BAt.of_row (l := [0]) hO5.out
              simp only [Value.slice.injEq] at e
              obtain ⟨rfl, -, -⟩ := e
              refine ⟨by rw [hw5]; exact hA.below (al (Below.refl _ _) _) (Nat.le_refl _), fun q hq => ?_⟩
              have h1 := (hO5.out.lt q.block (by rw [hq]; rfl)).1
              have h2 := HF4.out.blk.lt
              omega)
            obtain ⟨p5, hp5⟩ : ∃ p, p = wr5.heap.size := ⟨_, rfl⟩
            rw [← hp5] at HK5 HL5
            rw [← hp5]
            clear hw5 hO5 hF5 hR5 hB5 hp5
            go_wp2_with fail
            refine (next_ex (n := 3) HR4.out HF5.out HA.out.2.1 (by have := HA.out; omega) rfl).mono ?_
            rintro e wr6 ⟨a6, c6, vC6, rfl, hO6, hF6, hR6, hB6⟩
            go_upto_region 24 with fail
            obtain ⟨w6, hw6⟩ : ∃ w', w' = wr6.alloc (.cells #[.bool true, .bool true, .int .i64 5, .int .i64 1, .int .i64 0, .slice a6 3 c6] 33) := ⟨_, rfl⟩
            rw [← hw6]
            have HF6 : Hid (FAt w6 (fun k => k < b) b g4 vU2 vC6) := Lib.hid (by rw [hw6]; exact hF6.out.below (al (Below.refl _ _) _) (Nat.le_refl _))
            have HB6 : Hid (Below b w w6) := Lib.hid (by rw [hw6]; exact (HB5.out.trans hB6.out).alloc (Nat.le_of_lt hF6.out.blk.lt) _)
            have HK6 : Hid (Blk w6 wr6.heap.size 33 [.bool true, .bool true, .int .i64 5, .int .i64 1, .int .i64 0, .slice a6 3 c6]) := Lib.hid (by rw [hw6]; exact Blk.new wr6 33 _)
            have HL6 : Hid (b < wr6.heap.size) := Lib.hid hF6.out.blk.lt
            have HS6 : Hid (Fr (fun k => k = b) w5 w6) := Lib.hid (by rw [hw6]; exact hR6.out.alloc _)
            have HD6 : Hid (BAt w6 a6 [130, 0, 0] ∧ ∀ q, a6 = some q → b < q.block) := Lib.hid (by
              obtain ⟨-, a, c, e, hc9, hm9, hA⟩ := BAt.of_row (l := [130, 0, 0]) hO6.out
              simp only [Value.slice.injEq] at e
              obtain ⟨rfl, -, -⟩ := e
              refine ⟨by rw [hw6]; exact hA.below (al (Below.refl _ _) _) (Nat.le_refl _), fun q hq => ?_⟩
              have h1 := (hO6.out.lt q.block (by rw [hq]; rfl)).1
              have h2 := HF5.out.blk.lt
              omega)
            obtain ⟨p6, hp6⟩ : ∃ p, p = wr6.heap.size := ⟨_, rfl⟩
            rw [← hp6] at HK6 HL6
            rw [← hp6]
            clear hw6 hO6 hF6 hR6 hB6 hp6
            go_wp2_with fail
            refine (next_ex (n := dd.length) HR5.out HF6.out HA.out.2.2.1 (by have := HA.out; omega) rfl).mono ?_
            rintro e wr7 ⟨a7, c7, vC7, rfl, hO7, hF7, hR7, hB7⟩
            go_upto_region 25 with fail
            obtain ⟨w7, hw7⟩ : ∃ w', w' = wr7.alloc (.cells #[.bool false, .bool false, .int .i64 5, .int .i64 1, .int .i64 0, .slice a7 dd.length c7] 33) := ⟨_, rfl⟩
            rw [← hw7]
            have HF7 : Hid (FAt w7 (fun k => k < b) b g5 vU2 vC7) := Lib.hid (by rw [hw7]; exact hF7.out.below (al (Below.refl _ _) _) (Nat.le_refl _))
            have HB7 : Hid (Below b w w7) := Lib.hid (by rw [hw7]; exact (HB6.out.trans hB7.out).alloc (Nat.le_of_lt hF7.out.blk.lt) _)
            have HK7 : Hid (Blk w7 wr7.heap.size 33 [.bool false, .bool false, .int .i64 5, .int .i64 1, .int .i64 0, .slice a7 dd.length c7]) := Lib.hid (by rw [hw7]; exact Blk.new wr7 33 _)
            have HL7 : Hid (b < wr7.heap.size) := Lib.hid hF7.out.blk.lt
            have HS7 : Hid (Fr (fun k => k = b) w6 w7) := Lib.hid (by rw [hw7]; exact hR7.out.alloc _)
            obtain ⟨p7, hp7⟩ : ∃ p, p = wr7.heap.size := ⟨_, rfl⟩
            rw [← hp7] at HK7 HL7
            rw [← hp7]
            clear hw7 hO7 hF7 hR7 hB7 hp7
            have E : EndT w7 p5 p6 p7 a5 a6 a7 c5 c6 c7 dd.length := ⟨HK5.out.fr (HS6.out.trans HS7.out) (by have := HL5.out; omega), HK6.out.fr HS7.out (by have := HL6.out; omega), HK7.out, HD5.out.1.fr (HS6.out.trans HS7.out) (fun q hq => by have := HD5.out.2 q hq; omega), HD6.out.1.fr HS7.out (fun q hq => by have := HD6.out.2 q hq; omega)⟩
            refine stops_tail w w7 b p5 p6 p7 a5 a6 a7 c5 c6 c7 dd.length g5 _ _ _ _ _ _ _ _ _ _ _ _ _ _ _ _ _ _ _ _ _ _ _ _ _ _ _ _ _ _ _ _ _ _ _ _ _ _ _ _ _ _ _ _ _ _ _ _ _ _ _ _ _ _ _ _ _ _ _ _ _ _ _ _ _ _ _ _ _ _ _ _ _ _ _ _ _ _ _ _ _ _ _ _ _ _ _ _ _ _ _ _ _ _ _ _ _ _ _ _ _ _ _ _ _ _ E HF7 HB7 HA.out.2.2.2.2.2.2 (Lib.hid (fun c a d v w h => by simp (config := { zetaDelta := true }) only [bodyPost, put_defers] at h ⊢; exact h)) ?_
            intro x113 x114 x115 x116 x117 x118 x119 x120 x121 x122 x123 x124 x125 x126 x127 x128 x129 x130 x131 x132 x133 x134 x135 x136 x137 x138 x139 x140 x141 x142 x143 x144 x145 x146 x147 x148 x149 x150 x151 x152 x153 x154 x155 w8 hB8
            have HB8 := Lib.hid hB8
            clear E hB8
            go_wp2_with fail
            go_ret
            exact ⟨rfl, by rw [← HBB.out]; exact HB8.out⟩
        · have d1 : ¬ (now : Int) < (bd : Int) := by omega
          rw [if_neg (fun h => hlt h.1)] at hc
          simp only [Bool.and_eq_true, decide_eq_true_eq, List.isEmpty_iff] at hc
          obtain ⟨⟨⟨⟨⟨⟨q1, q2⟩, q3⟩, q4⟩, q5⟩, q6⟩, q7⟩ := hc
          obtain ⟨g1, g2, g3, g4, g5, dd, r1, r2, r3, r4, r5, o2, o3, o4, ka2, ka3, ka4, s5⟩ := fin_plain HC.out.2.1 q1 q3 q4 q5 (by omega) q7
          obtain ⟨k1, hk1⟩ : ∃ k1, k1 = k + 1 := ⟨_, rfl⟩
          have z1 : (k : Int) + 1 = (k1 : Int) := by omega
          have z2 : (i : Int) * (k1 : Int) = (many : Int) := by rw [q2, hk1]; simp
          have z3 : (f.state : Int) = 4 := by omega
          have z4 : ((f.state : Int) != 4) = false := by simp; omega
          have z5 : (k1 : Int) ≤ 6 := by omega
          have HR1 := Lib.hid r1
          have HR2 := Lib.hid r2
          have HR3 := Lib.hid r3
          have HR4 := Lib.hid r4
          have HR5 := Lib.hid r5
          have HA := Lib.hid (show g2.Ok ∧ g3.Ok ∧ g4.Ok ∧ g2.acked = 0 ∧ g3.acked = 0 ∧ g4.acked = 0 ∧ g5.state = 1 from ⟨o2, o3, o4, ka2, ka3, ka4, s5⟩)
          clear q1 q2 q3 q4 q5 q6 q7 r1 r2 r3 r4 r5 o2 o3 o4 ka2 ka3 ka4 s5 hk1
          go_upto_region 20 with (go_at_call 17; refine (state_any _ HF2.out).mono ?_; rintro e wq ⟨rfl, hw⟩; obtain rfl := hw.symm)
          go_wp2_with fail
          refine (next_no HR1.out HF2.out HC.out.2.1 (by have := HC.out.2.2; omega)).mono ?_
          rintro e wr3 ⟨a3, c3, vC3, rfl, hF3, hR3, hB3⟩
          go_upto_region 21 with fail
          obtain ⟨w3, hw3⟩ : ∃ w', w' = wr3.alloc (.cells #[.bool false, .bool false, .int .i64 0, .int .i64 0, .int .i64 0, .slice a3 0 c3] 33) := ⟨_, rfl⟩
          rw [← hw3]
          have HF3 : Hid (FAt w3 (fun k => k < b) b g1 vU2 vC3) := Lib.hid (by rw [hw3]; exact hF3.out.below (al (Below.refl _ _) _) (Nat.le_refl _))
          have HB3 : Hid (Below b w w3) := Lib.hid (by rw [hw3]; exact (HB2.out.trans hB3.out).alloc (Nat.le_of_lt hF3.out.blk.lt) _)
          have HK3 : Hid (Blk w3 wr3.heap.size 33 [.bool false, .bool false, .int .i64 0, .int .i64 0, .int .i64 0, .slice a3 0 c3]) := Lib.hid (by rw [hw3]; exact Blk.new wr3 33 _)
          have HL3 : Hid (b < wr3.heap.size) := Lib.hid hF3.out.blk.lt
          have HS3 : Hid (Fr (fun k => k = b) wr w3) := Lib.hid (by rw [hw3]; exact hR3.out.alloc _)
          clear hw3 hF3 hR3 hB3
          go_wp2_with fail
          refine (unlock_ex HR2.out HF3.out).mono ?_
          rintro e w4 ⟨vC4, rfl, hF, hR, hB⟩
          have HF4 := Lib.hid hF.out
          have HB4 : Hid (Below b w w4) := Lib.hid (HB3.out.trans hB.out)
          clear hF hR hB
          go_wp2_with fail
          refine (next_ex (n := 1) HR3.out HF4.out HA.out.1 (by have := HA.out; omega) rfl).mono ?_
          rintro e wr5 ⟨a5, c5, vC5, rfl, hO5, hF5, hR5, hB5⟩
          go_upto_region 23 with fail
          obtain ⟨w5, hw5⟩ : ∃ w', w' = wr5.alloc (.cells #[.bool true, .bool true, .int .i64 5, .int .i64 1, .int .i64 0, .slice a5 1 c5] 33) := ⟨_, rfl⟩
          rw [← hw5]
          have HF5 : Hid (FAt w5 (fun k => k < b) b g3 vU2 vC5) := Lib.hid (by rw [hw5]; exact hF5.out.below (al (Below.refl _ _) _) (Nat.le_refl _))
          have HB5 : Hid (Below b w w5) := Lib.hid (by rw [hw5]; exact (HB4.out.trans hB5.out).alloc (Nat.le_of_lt hF5.out.blk.lt) _)
          have HK5 : Hid (Blk w5 wr5.heap.size 33 [.bool true, .bool true, .int .i64 5, .int .i64 1, .int .i64 0, .slice a5 1 c5]) := Lib.hid (by rw [hw5]; exact Blk.new wr5 33 _)
          have HL5 : Hid (b < wr5.heap.size) := Lib.hid hF5.out.blk.lt
          have HS5 : Hid (Fr (fun k => k = b) w4 w5) := Lib.hid (by rw [hw5]; exact hR5.out.alloc _)
          have HD5 : Hid (BAt w5 a5 [0] ∧ ∀ q, a5 = some q → b < q.block) := Lib.hid (by
            obtain ⟨-, a, c, e, hc9, hm9, hA⟩ := BAt.of_row (l := [0]) hO5.out
            simp only [Value.slice.injEq] at e
            obtain ⟨rfl, -, -⟩ := e
            refine ⟨by rw [hw5]; exact hA.below (al (Below.refl _ _) _) (Nat.le_refl _), fun q hq => ?_⟩
            have h1 := (hO5.out.lt q.block (by rw [hq]; rfl)).1
            have h2 := HF4.out.blk.lt
            omega)
          obtain ⟨p5, hp5⟩ : ∃ p, p = wr5.heap.size := ⟨_, rfl⟩
          rw [← hp5] at HK5 HL5
          rw [← hp5]
          clear hw5 hO5 hF5 hR5 hB5 hp5
          go_wp2_with fail
          refine (next_ex (n := 3) HR4.out HF5.out HA.out.2.1 (by have := HA.out; omega) rfl).mono ?_
          rintro e wr6 ⟨a6, c6, vC6, rfl, hO6, hF6, hR6, hB6⟩
          go_upto_region 24 with fail
          obtain ⟨w6, hw6⟩ : ∃ w', w' = wr6.alloc (.cells #[.bool true, .bool true, .int .i64 5, .int .i64 1, .int .i64 0, .slice a6 3 c6] 33) := ⟨_, rfl⟩
          rw [← hw6]
          have HF6 : Hid (FAt w6 (fun k => k < b) b g4 vU2 vC6) := Lib.hid (by rw [hw6]; exact hF6.out.below (al (Below.refl _ _) _) (Nat.le_refl _))
          have HB6 : Hid (Below b w w6) := Lib.hid (by rw [hw6]; exact (HB5.out.trans hB6.out).alloc (Nat.le_of_lt hF6.out.blk.lt) _)
          have HK6 : Hid (Blk w6 wr6.heap.size 33 [.bool true, .bool true, .int .i64 5, .int .i64 1, .int .i64 0, .slice a6 3 c6]) := Lib.hid (by rw [hw6]; exact Blk.new wr6 33 _)
          have HL6 : Hid (b < wr6.heap.size) := Lib.hid hF6.out.blk.lt
          have HS6 : Hid (Fr (fun k => k = b) w5 w6) := Lib.hid (by rw [hw6]; exact hR6.out.alloc _)
          have HD6 : Hid (BAt w6 a6 [130, 0, 0] ∧ ∀ q, a6 = some q → b < q.block) := Lib.hid (by
            obtain ⟨-, a, c, e, hc9, hm9, hA⟩ := BAt.of_row (l := [130, 0, 0]) hO6.out
            simp only [Value.slice.injEq] at e
            obtain ⟨rfl, -, -⟩ := e
            refine ⟨by rw [hw6]; exact hA.below (al (Below.refl _ _) _) (Nat.le_refl _), fun q hq => ?_⟩
            have h1 := (hO6.out.lt q.block (by rw [hq]; rfl)).1
            have h2 := HF5.out.blk.lt
            omega)
          obtain ⟨p6, hp6⟩ : ∃ p, p = wr6.heap.size := ⟨_, rfl⟩
          rw [← hp6] at HK6 HL6
          rw [← hp6]
          clear hw6 hO6 hF6 hR6 hB6 hp6
          go_wp2_with fail
          refine (next_ex (n := dd.length) HR5.out HF6.out HA.out.2.2.1 (by have := HA.out; omega) rfl).mono ?_
          rintro e wr7 ⟨a7, c7, vC7, rfl, hO7, hF7, hR7, hB7⟩
          go_upto_region 25 with fail
          obtain ⟨w7, hw7⟩ : ∃ w', w' = wr7.alloc (.cells #[.bool false, .bool false, .int .i64 5, .int .i64 1, .int .i64 0, .slice a7 dd.length c7] 33) := ⟨_, rfl⟩
          rw [← hw7]
          have HF7 : Hid (FAt w7 (fun k => k < b) b g5 vU2 vC7) := Lib.hid (by rw [hw7]; exact hF7.out.below (al (Below.refl _ _) _) (Nat.le_refl _))
          have HB7 : Hid (Below b w w7) := Lib.hid (by rw [hw7]; exact (HB6.out.trans hB7.out).alloc (Nat.le_of_lt hF7.out.blk.lt) _)
          have HK7 : Hid (Blk w7 wr7.heap.size 33 [.bool false, .bool false, .int .i64 5, .int .i64 1, .int .i64 0, .slice a7 dd.length c7]) := Lib.hid (by rw [hw7]; exact Blk.new wr7 33 _)
          have HL7 : Hid (b < wr7.heap.size) := Lib.hid hF7.out.blk.lt
          have HS7 : Hid (Fr (fun k => k = b) w6 w7) := Lib.hid (by rw [hw7]; exact hR7.out.alloc _)
          obtain ⟨p7, hp7⟩ : ∃ p, p = wr7.heap.size := ⟨_, rfl⟩
          rw [← hp7] at HK7 HL7
          rw [← hp7]
          clear hw7 hO7 hF7 hR7 hB7 hp7
          have E : EndT w7 p5 p6 p7 a5 a6 a7 c5 c6 c7 dd.length := ⟨HK5.out.fr (HS6.out.trans HS7.out) (by have := HL5.out; omega), HK6.out.fr HS7.out (by have := HL6.out; omega), HK7.out, HD5.out.1.fr (HS6.out.trans HS7.out) (fun q hq => by have := HD5.out.2 q hq; omega), HD6.out.1.fr HS7.out (fun q hq => by have := HD6.out.2 q hq; omega)⟩
          refine stops_tail w w7 b p5 p6 p7 a5 a6 a7 c5 c6 c7 dd.length g5 _ _ _ _ _ _ _ _ _ _ _ _ _ _ _ _ _ _ _ _ _ _ _ _ _ _ _ _ _ _ _ _ _ _ _ _ _ _ _ _ _ _ _ _ _ _ _ _ _ _ _ _ _ _ _ _ _ _ _ _ _ _ _ _ _ _ _ _ _ _ _ _ _ _ _ _ _ _ _ _ _ _ _ _ _ _ _ _ _ _ _ _ _ _ _ _ _ _ _ _ _ _ _ _ _ _ E HF7 HB7 HA.out.2.2.2.2.2.2 (Lib.hid (fun c a d v w h => by simp (config := { zetaDelta := true }) only [bodyPost, put_defers] at h ⊢; exact h)) ?_
          intro x113 x114 x115 x116 x117 x118 x119 x120 x121 x122 x123 x124 x125 x126 x127 x128 x129 x130 x131 x132 x133 x134 x135 x136 x137 x138 x139 x140 x141 x142 x143 x144 x145 x146 x147 x148 x149 x150 x151 x152 x153 x154 x155 w8 hB8
          have HB8 := Lib.hid hB8
          clear E hB8
          go_wp2_with fail
          go_ret
          exact ⟨rfl, by rw [← HBB.out]; exact HB8.out⟩


set_option maxRecDepth 100000 in
theorem lifted (os : Os) (started : os.Started) (H : Type) (enc : TypeId × Value → H) :
    ReturnsInHanded {} Try.checked os 5 .any (Rows.fopStopsSpec.pre6 enc Try.prog Try.f5 Rows.fopStopsRow.domain false) (Rows.fopStopsSpec.post enc Try.prog Try.f5 false true false false) := by
  refine returnsInHanded_of_change (C := Try.checked) own started (by kernel_rfl) Try.func5
    (ChangeSpec.witness6 (enc := enc) (C := Try.checked) false ⟨#[], #[.int .u8 0, .int .u8 0, .int .u8 0], []⟩ 8 (by kernel_rfl) (by kernel_rfl) (by kernel_rfl) (by kernel_rfl)) ?_
  intro W base args ds gs before hval0 hW hcnd _
  have hval : ∀ (j : Nat) t v, Try.f5.params[j]? = some t → args[j]? = some v → Value.okWide Try.prog W .any base t v := hval0
  have hW' := hW
  obtain ⟨p, q, hA0, hV, rfl, hfz, hnd⟩ := hW
  have hA : DataW.TrodAll enc Try.prog W 0 (fun _ => true) true Try.f5.params.toList args.toList ds p := hA0
  rw [Try.params5] at hA hval
  obtain ⟨v0, vs0, d0, ds0, p0, q0, hargs, rfl, rfl, h0, r0⟩ := trodAll_cons hA
  obtain ⟨v1, vs1, d1, ds1, p1, q1, rfl, rfl, rfl, h1, r1⟩ := trodAll_cons r0
  obtain ⟨v2, vs2, d2, ds2, p2, q2, rfl, rfl, rfl, h2, r2⟩ := trodAll_cons r1
  obtain ⟨rfl, rfl, rfl⟩ := trodAll_nil r2
  obtain rfl : args = #[v0, v1, v2] := by cases args; simp_all
  obtain ⟨rfl, rfl⟩ := trodVars_none hV
  obtain ⟨a0, rfl, rfl, rfl, w0⟩ := open_int Try.underlying5 (hval 0 5 v0 rfl rfl) h0
  obtain ⟨a1, rfl, rfl, rfl, w1⟩ := open_int Try.underlying5 (hval 1 5 v1 rfl rfl) h1
  obtain ⟨a2, rfl, rfl, rfl, w2⟩ := open_int Try.underlying5 (hval 2 5 v2 rfl rfl) h2
  clear hA0 hval0
  refine (walk a0 a1 a2 W w0 w1 w2).mono fun e W' ⟨he, bel⟩ => ?_
  subst he
  exact ⟨_, rfl, _, _, _, [], _, [], hW', trodAll_mk1 (shut_bool Try.underlying4 _), (trodAll_cons_mk (shut_int Try.underlying5 w0) (trodAll_cons_mk (shut_int Try.underlying5 w1) (trodAll_cons_mk (shut_int Try.underlying5 w2) trodAll_mk0))), rfl, bel.frame _, fun h => by cases h⟩

theorem over : Rows.fopStopsRow.holds Try.pinned (OpenSpec.ofChange Rows.fopStopsSpec) :=
  OpenClaim.holds_of_wide 5 Try.f5 rfl rfl rfl rfl rfl rfl rfl ⟨rfl, rfl, rfl, rfl, rfl⟩ rfl rfl rfl rfl rfl (by kernel_rfl) Try.func5 (by kernel_rfl)
    (of_decide_eq_true (by kernel_rfl)) (by unfold Func.isWrapper; first | (rw [if_pos (by decide +kernel)]; kernel_rfl) | (rw [if_neg (by decide +kernel)]; exact ⟨rfl, rfl⟩))
    (fun os started H enc _ => lifted os started H enc)

theorem proved : Rows.FopStopsSaid := over
#print axioms proved
end Go.Proofs.Ytjiejpklcjpibaa.fopStops

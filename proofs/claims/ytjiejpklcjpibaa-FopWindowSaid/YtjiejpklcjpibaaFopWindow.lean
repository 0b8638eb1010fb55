/- The law FopWindow holds: the walk, then the lift to the given statement. No condition. -/
import Derived.Test.YtjiejpklcjpibaaT
import Derived.Test.YtjiejpklcjpibaaU
import Derived.WalkKit
import Derived.ProofKit
import Derived.OpenShut
import Derived.Lib.Hide
import Derived.ChangeOld
import Derived.Below
import Derived.SizedLaws
namespace Go.Proofs.Ytjiejpklcjpibaa.fopWindow
open Go.ChangeShapes Go.WideShapes Go.ChangeAt Go.RowKit
set_option linter.unusedVariables false
theorem own : ownKnob Try.prog.godebug = none := by kernel_rfl
theorem laidOut : laidOutB Try.prog = true := by kernel_rfl

theorem cell_getD {w : World} {b off : Nat} {l : List UInt8} (h : BAt w (some ⟨b, off, none⟩) l) (i : Nat) (hi : i < l.length) : w.cell? ⟨b, off + i, none⟩ = some (.int .u8 ((l.getD i 0).toNat : Int)) := by
  rcases h with h | ⟨b', off', h1, h2, h3⟩
  · subst h; simp at hi
  · cases h1
    rw [h3 i hi, List.getD_eq_getElem?_getD, List.getElem?_eq_getElem hi]
    rfl
theorem litN (w : World) (i : Nat) (hi : i < 256) (m : Nat × Nat) : BAt (w.alloc (.cells #[.int .u8 (i : Int)] 5 m)) (some ⟨w.heap.size, 0, none⟩) [UInt8.ofNat i] := by
  have h := lit1 w (UInt8.ofNat i) m
  rw [show (UInt8.ofNat i).toNat = i by rw [UInt8.toNat_ofNat']; omega] at h
  exact h
set_option maxRecDepth 20000 in
set_option maxHeartbeats 4000000 in
theorem walk {H : Type} {enc : TypeId × Value → H} (a0 a1 : Int) (v2 : Value) (w : World) (w0 : (Lit.int .u8 a0).wf = true) (w1 : (Lit.int .u8 a1).wf = true) {b2 : Nat} {d2 : DataW H} {p2 : List MemPlace} (ok2 : Value.okWide Try.prog w .any b2 23 v2) (tr2 : DataW.Trod enc Try.prog w 0 (fun _ => true) true 23 v2 d2 p2) : Calls Try.prog 4 #[.int .u8 a0, .int .u8 a1, v2] w fun e w' => e = .returned (.bool true) ∧ Below w.heap.size w w' := by
  obtain ⟨az, cz, Z, rfl, hzc, hzm, hzb⟩ := arg_bytes Try.underlying23 Try.underlying5 (by kernel_rfl) ok2 tr2
  obtain ⟨x0, rfl⟩ := wf_u8 w0
  obtain ⟨x1, rfl⟩ := wf_u8 w1
  have HZB := Lib.hid hzb
  clear ok2 tr2 w0 w1 hzb
  by_cases h200 : 200 < Z.length
  · have e1 : (200 : Int) < (Z.length : Int) := by omega
    go_enter Try.func4, Try.ntmps4
    go_wp2_with fail
    refine (alive_any _).mono ?_
    rintro e w9 ⟨rfl, hB⟩
    have HB := Lib.hid hB
    clear hB
    go_wp2_with fail
    go_ret
    exact ⟨rfl, HB.out⟩
  · have e1 : ¬ (200 : Int) < (Z.length : Int) := by omega
    obtain ⟨b, hb⟩ : ∃ b, b = w.heap.size := ⟨_, rfl⟩
    have HBB := Lib.hid hb
    obtain ⟨n, hn⟩ : ∃ n, n = x1.toNat % 61 := ⟨_, rfl⟩
    obtain ⟨s, hs⟩ : ∃ s, s = x0.toNat % 127 + 1 := ⟨_, rfl⟩
    have hn60 : n ≤ 60 := by omega
    have hs127 : 1 ≤ s ∧ s ≤ 127 := by omega
    have en : (x1.toNat : Int).tmod 61 = (n : Int) := by rw [Int.tmod_eq_emod_of_nonneg (by omega)]; omega
    have en2 : (x1.toNat : Int) % 61 = (n : Int) := by omega
    have es : (x0.toNat : Int).tmod 127 + 1 = (s : Int) := by rw [Int.tmod_eq_emod_of_nonneg (by omega)]; omega
    have es2 : (x0.toNat : Int) % 127 + 1 = (s : Int) := by omega
    have b0 : (x0.toNat : Int) < 256 := by have := x0.toNat_lt; omega
    have b1 : (x1.toNat : Int) < 256 := by have := x1.toNat_lt; omega
    clear hn hs
    go_enter Try.func4, Try.ntmps4
    go_wp2_with fail
    refine (new_any 5 1 s 3 255 w).mono ?_
    rintro e wa ⟨rfl, hF, hB⟩
    rw [← hb] at hF ⊢
    have HF1 : Hid (FAt wa (fun k => k < b) b (fsN 0 s 3 255) (.slice none 0 0) (.slice none 0 0)) := Lib.hid hF
    have HB1 : Hid (Below b w wa) := Lib.hid (by rw [hb]; exact hB)
    clear hF hB hb
    go_wp2_with fail
    go_loopw [10] (fun v10 wr => ∃ (i : Nat) (vU : Value), i ≤ n ∧ v10 = .int .i64 (i : Int) ∧ Hid (FAt wr (fun k => k < b) b (fsN i s 3 255) vU (.slice none 0 0)) ∧ Hid (Below b w wr)) (fun v10 _ => n - (intOf v10).toNat)
    case atStart => exact ⟨0, _, Nat.zero_le _, rfl, HF1, HB1⟩
    case round =>
      obtain ⟨i, vU, hi, rfl, HF, HB⟩ := hrel
      have hbl := HF.out.blk.lt
      by_cases hlt : i < n
      · have e3 : (i : Int) < (n : Int) := by omega
        have e4 : (i : Int) < 256 := by omega
        have hle : b ≤ wr.heap.size := by omega
        go_wp2_with fail
        refine (send_ex (n := 1) (fsN_send i (by omega) _ _ _) (HF.out.below (al (Below.refl _ _) _) (Nat.le_refl _)) (fsN_ok i (by omega) _ _ _) (litN _ i (by omega) _) rfl (by omega)).mono ?_
        rintro e w3 ⟨rfl, vU3, hF, hB⟩
        have HF3 := Lib.hid hF
        have HB3 : Hid (Below b w w3) := Lib.hid ((HB.out.alloc hle _).trans hB)
        clear hF hB
        go_wp2_with fail
        go_roundw
        case rel => exact ⟨i + 1, vU3, by omega, by go_num, HF3, HB3⟩
        case measure => simp [intOf]; omega
      · obtain rfl : i = n := by omega
        have e3 : ¬ (i : Int) < (i : Int) := by omega
        clear hlt
        obtain ⟨wo, hwo⟩ : ∃ wo, wo = wr := ⟨wr, rfl⟩
        subst hwo
        go_wp2_with fail
        go_loopw [11, 12] (fun v11 v12 wr => ∃ (j : Nat) (f : FS) (vU vC : Value), j ≤ Z.length ∧ v12 = .int .i64 (j : Int) ∧ v11 = .int .i64 ((f.acked + f.front : Nat) : Int) ∧ Hid (Win i s f j) ∧ Hid (FAt wr (fun k => k < b) b f vU vC) ∧ Hid (Below b w wr)) (fun _ v12 _ => Z.length - (intOf v12).toNat)
        case atStart => exact ⟨0, fsN i s 3 255, vU, _, Nat.zero_le _, rfl, rfl, Lib.hid (win_start i s hn60 hs127), HF, HB⟩
        case round =>
          obtain ⟨j, f, vU2, vC, hj, rfl, rfl, HW, HF2, HB2⟩ := hrel
          by_cases hlt : j < Z.length
          · have e4 : (j : Int) < (Z.length : Int) := by omega
            obtain ⟨hv, hhv⟩ : ∃ hv, hv = f.acked + f.front := ⟨_, rfl⟩
            rw [← hhv]
            obtain ⟨bz, oz, rfl, hbz', -⟩ := HZB.out.resolve_left (fun e => by rw [e] at hlt; simp at hlt)
            obtain ⟨z, hz⟩ : ∃ z, z = (Z.getD j 0).toNat := ⟨_, rfl⟩
            have hz9 : z < 256 := by rw [hz]; exact UInt8.toNat_lt _
            have HZC : Hid (w.cell? ⟨bz, oz + j, none⟩ = some (.int .u8 (z : Int))) := Lib.hid (by rw [hz]; exact cell_getD HZB.out j hlt)
            have hbz : bz < b := by rw [HBB.out]; exact hbz'
            have j0 : (0 : Int) ≤ (j : Int) := by omega
            have zz0 : (0 : Int) ≤ (z : Int) := by omega
            have zz1 : (z : Int) < 256 := by omega
            clear hz
            go_wp2_with fail
            refine (next_any _ b f vU2 vC (j : Int) _ HF2.out HW.out.ok (by have := HW.out.le; omega)).mono ?_
            rintro e wx ⟨v, vC3, rfl, hO, hF, hR⟩
            have HBx : Hid (Below b w wx) := Lib.hid (HB2.out.trans (HF2.out.mine1 (Nat.le_refl _) hR))
            have hwn := win_next HW.out (by omega) hn60 (j : Int)
            obtain ⟨g, hg⟩ : ∃ g, g = (f.next (j : Int)).1 := ⟨_, rfl⟩
            obtain ⟨o, ho⟩ : ∃ o, o = (f.next (j : Int)).2 := ⟨_, rfl⟩
            rw [← hg, ← ho] at hwn
            rw [← hg] at hF
            rw [← ho] at hO ⊢
            obtain ⟨hW, hack, hcase⟩ := hwn
            have HFx := Lib.hid hF
            have HW4 := Lib.hid hW
            clear hg ho hF hR hW
            rcases hcase with ⟨rfl, hfr⟩ | ⟨q, rfl, hq, hfr⟩
            · obtain ⟨av, nv, cv, rfl⟩ := own_slice hO
              have HH : Hid (hv = g.acked + g.front) := Lib.hid (by rw [hack, hfr, hhv])
              simp only [Option.getD_none, Option.isSome_none, fmV, Fm.zero]
              clear hO hack hfr hhv
              go_upto_region 21 with fail
              obtain ⟨w4, hw4⟩ : ∃ w4, w4 = wx.alloc (.cells #[.bool false, .bool false, .int .i64 0, .int .i64 0, .int .i64 0, .slice av nv cv] 33) := ⟨_, rfl⟩
              rw [← hw4]
              have HF4 : Hid (FAt w4 (fun k => k < b) b g vU2 vC3) := Lib.hid (by rw [hw4]; exact HFx.out.below (al (Below.refl _ _) _) (Nat.le_refl _))
              have HB4 : Hid (Below b w w4) := Lib.hid (by rw [hw4]; exact HBx.out.alloc (Nat.le_of_lt HFx.out.blk.lt) _)
              have hk : Blk w4 wx.heap.size 33 [.bool false, .bool false, .int .i64 0, .int .i64 0, .int .i64 0, .slice av nv cv] := by rw [hw4]; exact Blk.new wx 33 _
              have HX4 : Hid (BAt wx av [] → BAt w4 av []) := Lib.hid (fun h => by rw [hw4]; exact h.below (al (Below.refl _ _) _) (Nat.le_refl _))
              clear hw4
              clear hk HX4
              have zc : w4.cell? ⟨bz, oz + j, none⟩ = some (.int .u8 (z : Int)) := (HB4.out.cell (p := ⟨bz, oz + j, none⟩) hbz).trans HZC.out
              by_cases hz4 : z % 4 = 0
              · have z1 : ((z : Int) % 4 == 0) = true := by rw [beq_iff_eq]; omega
                have z2 : (z : Int) % 4 = 0 := by omega
                by_cases hfg : 0 < g.front
                · have z3 : (g.acked : Int) < (hv : Int) := by have := HH.out; omega
                  have z4 : (g.acked : Int) ≤ 60 := by have := HW4.out.le; omega
                  have hr := win_report HW4.out hn60 hfg (j : Int)
                  rw [show ((g.acked + 1 : Nat) : Int) = (g.acked : Int) + 1 by omega] at hr
                  obtain ⟨g5, hg5⟩ : ∃ g5, g5 = (g.report ⟨1, false, false, false, 0, (g.acked : Int) + 1⟩ (j : Int)).1 := ⟨_, rfl⟩
                  rw [← hg5] at hr
                  obtain ⟨r1, r2, r3, r4⟩ := hr
                  have HR := Lib.hid (show g.report ⟨1, false, false, false, 0, (g.acked : Int) + 1⟩ (j : Int) = (g5, 0) from Prod.ext hg5.symm r1)
                  have HW5 := Lib.hid r2
                  have HH5 : Hid (hv = g5.acked + g5.front) := Lib.hid (by have := HH.out; omega)
                  clear r1 r2 r3 r4 hg5
                  go_wp2_with fail
                  refine (acked_any _ HF4.out).mono ?_
                  rintro e wq ⟨rfl, hw⟩
                  obtain rfl := hw.symm
                  go_wp2_with fail
                  refine (acked_any _ HF4.out).mono ?_
                  rintro e wq ⟨rfl, hw⟩
                  obtain rfl := hw.symm
                  go_wp2_with fail
                  refine (word_any _ _).mono ?_
                  rintro e w5 ⟨rfl, hB⟩
                  unfold cwV
                  have HF5 := Lib.hid (HF4.out.below hB (Nat.le_refl _))
                  have HB5 := Lib.hid (HB4.out.trans (hB.mono (Nat.le_of_lt HF4.out.blk.lt)))
                  clear hB zc
                  go_wp2_with fail
                  refine (report_ex (c := ⟨1, false, false, false, 0, (g.acked : Int) + 1⟩) HR.out HF5.out HW4.out.ok (by have := HW4.out.le; omega)).mono ?_
                  rintro e w6 ⟨vU6, rfl, HF6, -, hB⟩
                  have HB6 := Lib.hid (HB5.out.trans hB.out)
                  clear hB
                  have hq := HW5.out.len
                  have hle := HW5.out.le
                  have hst := HW5.out.st
                  have q1 : ((g5.units.length : Int) + (g5.acked : Int) != (i : Int)) = false := by simp; omega
                  have q2 : (g5.state : Int) = 1 := by omega
                  have q4 : (g5.units.length : Int) ≤ 60 := by omega
                  have q5 : (g5.acked : Int) ≤ 60 := by omega
                  have q6 : (g5.units.length : Int) + (g5.acked : Int) = (i : Int) := by omega
                  have q3 : ((g5.state : Int) != 1) = false := by simp; omega
                  clear hst hq
                  go_wp2_with fail
                  refine (queued_any _ HF6.out).mono ?_
                  rintro e wq ⟨rfl, hw⟩
                  obtain rfl := hw.symm
                  go_wp2_with fail
                  refine (acked_any _ HF6.out).mono ?_
                  rintro e wq ⟨rfl, hw⟩
                  obtain rfl := hw.symm
                  go_wp2_with fail
                  refine (state_any _ HF6.out).mono ?_
                  rintro e wq ⟨rfl, hw⟩
                  obtain rfl := hw.symm
                  go_wp2_with fail
                  go_roundw
                  case rel => exact ⟨j + 1, g5, _, _, by omega, by go_num, (by rw [HH5.out]), HW5, HF6, HB6⟩
                  case measure => simp [intOf]; omega
                · skip
                  have z3 : ¬ (g.acked : Int) < (hv : Int) := by have := HH.out; omega
                  go_wp2_with fail
                  refine (acked_any _ HF4.out).mono ?_
                  rintro e wq ⟨rfl, hw⟩
                  obtain rfl := hw.symm
                  have hq := HW4.out.len
                  have hle := HW4.out.le
                  have hst := HW4.out.st
                  have q1 : ((g.units.length : Int) + (g.acked : Int) != (i : Int)) = false := by simp; omega
                  have q2 : (g.state : Int) = 1 := by omega
                  have q4 : (g.units.length : Int) ≤ 60 := by omega
                  have q5 : (g.acked : Int) ≤ 60 := by omega
                  have q6 : (g.units.length : Int) + (g.acked : Int) = (i : Int) := by omega
                  have q3 : ((g.state : Int) != 1) = false := by simp; omega
                  clear hst hq
                  go_wp2_with fail
                  refine (queued_any _ HF4.out).mono ?_
                  rintro e wq ⟨rfl, hw⟩
                  obtain rfl := hw.symm
                  go_wp2_with fail
                  refine (acked_any _ HF4.out).mono ?_
                  rintro e wq ⟨rfl, hw⟩
                  obtain rfl := hw.symm
                  go_wp2_with fail
                  refine (state_any _ HF4.out).mono ?_
                  rintro e wq ⟨rfl, hw⟩
                  obtain rfl := hw.symm
                  go_wp2_with fail
                  go_roundw
                  case rel => exact ⟨j + 1, g, _, _, by omega, by go_num, (by rw [HH.out]), HW4, HF4, HB4⟩
                  case measure => simp [intOf]; omega
              · have z1 : ((z : Int) % 4 == 0) = false := by rw [beq_eq_false_iff_ne]; omega
                have z2 : ¬ (z : Int) % 4 = 0 := by omega
                have hq := HW4.out.len
                have hle := HW4.out.le
                have hst := HW4.out.st
                have q1 : ((g.units.length : Int) + (g.acked : Int) != (i : Int)) = false := by simp; omega
                have q2 : (g.state : Int) = 1 := by omega
                have q4 : (g.units.length : Int) ≤ 60 := by omega
                have q5 : (g.acked : Int) ≤ 60 := by omega
                have q6 : (g.units.length : Int) + (g.acked : Int) = (i : Int) := by omega
                have q3 : ((g.state : Int) != 1) = false := by simp; omega
                clear hst hq
                go_wp2_with fail
                refine (queued_any _ HF4.out).mono ?_
                rintro e wq ⟨rfl, hw⟩
                obtain rfl := hw.symm
                go_wp2_with fail
                refine (acked_any _ HF4.out).mono ?_
                rintro e wq ⟨rfl, hw⟩
                obtain rfl := hw.symm
                go_wp2_with fail
                refine (state_any _ HF4.out).mono ?_
                rintro e wq ⟨rfl, hw⟩
                obtain rfl := hw.symm
                go_wp2_with fail
                go_roundw
                case rel => exact ⟨j + 1, g, _, _, by omega, by go_num, (by rw [HH.out]), HW4, HF4, HB4⟩
                case measure => simp [intOf]; omega
            · obtain ⟨-, av, cv, rfl, hcv, hmv, hA⟩ := BAt.of_row (l := [UInt8.ofNat (f.acked + q)]) hO
              simp only [Option.getD_some, Option.isSome_some, fmV, List.length_cons, List.length_nil, Nat.zero_add]
              obtain ⟨p, hp⟩ : ∃ p, p = f.acked + q := ⟨_, rfl⟩
              rw [← hp] at hA hO ⊢
              have hpq : p = g.acked + q := by omega
              have hpi : p < i := by have := HW4.out.le; omega
              have hp60 : p ≤ 60 := by omega
              have k1 : (p : Int) - (g.acked : Int) = (q : Int) := by omega
              have k2 : decide ((q : Int) < 0) = false := decide_eq_false (by omega)
              have k3 : (p : Int) ≤ 60 := by omega
              have k4 : (g.acked : Int) ≤ 60 := by omega
              have k5 : (q : Int) < (s : Int) := by omega
              obtain ⟨d, hd⟩ : ∃ d : Nat, d = i - g.acked := ⟨_, rfl⟩
              have kd : (i : Int) - (g.acked : Int) = (d : Int) := by have := HW4.out.le; omega
              have kw : IntKind.i64.wrap (d : Int) = (d : Int) := IntWalk.i64_in _ (by omega)
              have kd6 : (d : Int) ≤ 60 := by omega
              have k5' : decide ((s : Int) ≤ (q : Int)) = false := decide_eq_false (by omega)
              have k6 : decide ((d : Int) ≤ (q : Int)) = false := decide_eq_false (by omega)
              have k5n : decide (s ≤ q) = false := decide_eq_false (by omega)
              have k6n : decide (d ≤ q) = false := decide_eq_false (by omega)
              clear hd
              by_cases hmin : d < s
              · have k7 : (d : Int) < (s : Int) := by omega
                have HFR : Hid (hv ≤ hv ∧ g.front = max f.front (q + 1) ∧ hv = f.acked + f.front ∧ g.acked = f.acked ∧ p = g.acked + q) := Lib.hid ⟨Nat.le_refl _, hfr, hhv, hack, hpq⟩
                clear hp hpq hack hfr hhv hq
                go_upto_region 16 with fail
                obtain ⟨w4, hw4⟩ : ∃ w4, w4 = wx.alloc (.cells #[.bool false, .bool false, .int .i64 5, .int .i64 1, .int .i64 (p : Int), .slice av 1 cv] 33) := ⟨_, rfl⟩
                rw [← hw4]
                have HF4 : Hid (FAt w4 (fun k => k < b) b g vU2 vC3) := Lib.hid (by rw [hw4]; exact HFx.out.below (al (Below.refl _ _) _) (Nat.le_refl _))
                have HB4 : Hid (Below b w w4) := Lib.hid (by rw [hw4]; exact HBx.out.alloc (Nat.le_of_lt HFx.out.blk.lt) _)
                have hk : Blk w4 wx.heap.size 33 [.bool false, .bool false, .int .i64 5, .int .i64 1, .int .i64 (p : Int), .slice av 1 cv] := by rw [hw4]; exact Blk.new wx 33 _
                have HX4 : Hid (BAt wx av [UInt8.ofNat p] → BAt w4 av [UInt8.ofNat p]) := Lib.hid (fun h => by rw [hw4]; exact h.below (al (Below.refl _ _) _) (Nat.le_refl _))
                clear hw4
                have hA4 := HX4.out hA
                obtain ⟨ba, oa, rfl, hba, hca⟩ := hA4.resolve_left (by simp)
                have hc0 := hca 0 (by simp)
                obtain ⟨px, hpx⟩ : ∃ px, px = wx.heap.size := ⟨_, rfl⟩
                rw [← hpx] at hk
                rw [← hpx]
                have HK4 := Lib.hid hk
                have HD4 : Hid (w4.cell? ⟨ba, oa, none⟩ = some (.int .u8 (p : Int))) := Lib.hid (by
                  have h9 : ((UInt8.ofNat p).toNat : Int) = (p : Int) := by rw [UInt8.toNat_ofNat']; omega
                  rw [← h9]; exact hc0)
                have s0 := HK4.out.at 0 rfl
                have s1 := HK4.out.at 1 rfl
                have s2 := HK4.out.at 2 rfl
                have s3 := HK4.out.at 3 rfl
                have s4 := HK4.out.at 4 rfl
                have s5 := HK4.out.at 5 rfl
                have s6 := HD4.out
                clear hA hO hA4 hca hc0 hk HX4 hpx hba
                go_upto_region 18 with (go_quiet ((go_at_call 16; refine Calls.quiet_of_same ((acked_any _ (HF4.out.quiet ?_)).mono fun _ _ h => ⟨h.1, h.2⟩); first | exact ⟨_, rfl⟩ | exact ⟨1, rfl⟩ | exact ⟨0, rfl⟩)))
                clear s0 s1 s2 s3 s4 s5 s6
                obtain ⟨w5, hw5⟩ : ∃ w', w' = w4.drewN nq := ⟨_, rfl⟩
                rw [← hw5]
                have HF5 : Hid (FAt w5 (fun k => k < b) b g vU2 vC3) := Lib.hid (by rw [hw5]; exact HF4.out.quiet ⟨_, rfl⟩)
                have HB5 : Hid (Below b w w5) := Lib.hid (by rw [hw5]; exact HB4.out.trans (Quiet.below ⟨_, rfl⟩))
                have HK5 : Hid (Blk w5 px 33 [.bool false, .bool false, .int .i64 5, .int .i64 1, .int .i64 (p : Int), .slice (some ⟨ba, oa, none⟩) 1 cv]) := Lib.hid (by rw [hw5]; exact HK4.out.drewN nq)
                have HD5 : Hid (w5.cell? ⟨ba, oa, none⟩ = some (.int .u8 (p : Int))) := Lib.hid (by rw [hw5]; exact HD4.out)
                clear hw5
                have s0 := HK5.out.at 0 rfl
                have s1 := HK5.out.at 1 rfl
                have s2 := HK5.out.at 2 rfl
                have s3 := HK5.out.at 3 rfl
                have s4 := HK5.out.at 4 rfl
                have s5 := HK5.out.at 5 rfl
                have s6 := HD5.out
                go_upto_region 20 with (go_quiet ((go_at_call 16; refine Calls.quiet_of_same ((acked_any _ (HF5.out.quiet ?_)).mono fun _ _ h => ⟨h.1, h.2⟩); first | exact ⟨_, rfl⟩ | exact ⟨1, rfl⟩ | exact ⟨0, rfl⟩)))
                clear s0 s1 s2 s3 s4 s5 s6
                obtain ⟨w6, hw6⟩ : ∃ w', w' = w5.drewN nq := ⟨_, rfl⟩
                rw [← hw6]
                have HF6 : Hid (FAt w6 (fun k => k < b) b g vU2 vC3) := Lib.hid (by rw [hw6]; exact HF5.out.quiet ⟨_, rfl⟩)
                have HB6 : Hid (Below b w w6) := Lib.hid (by rw [hw6]; exact HB5.out.trans (Quiet.below ⟨_, rfl⟩))
                have HK6 : Hid (Blk w6 px 33 [.bool false, .bool false, .int .i64 5, .int .i64 1, .int .i64 (p : Int), .slice (some ⟨ba, oa, none⟩) 1 cv]) := Lib.hid (by rw [hw6]; exact HK5.out.drewN nq)
                have HD6 : Hid (w6.cell? ⟨ba, oa, none⟩ = some (.int .u8 (p : Int))) := Lib.hid (by rw [hw6]; exact HD5.out)
                clear hw6
                have s0 := HK6.out.at 0 rfl
                have s1 := HK6.out.at 1 rfl
                have s2 := HK6.out.at 2 rfl
                have s3 := HK6.out.at 3 rfl
                have s4 := HK6.out.at 4 rfl
                have s5 := HK6.out.at 5 rfl
                have s6 := HD6.out
                have s7 : (p : Int) ≤ 60 := k3
                by_cases hmx : hv < p + 1
                · have s8 : (hv : Int) < (p : Int) + 1 := by omega
                  obtain ⟨hx, hhx⟩ : ∃ hx : Nat, (p : Int) + 1 = (hx : Int) := ⟨p + 1, by omega⟩
                  have HH : Hid (hx = g.acked + g.front) := Lib.hid (by have := HFR.out; omega)
                  go_upto_region 21 with fail
                  clear s0 s1 s2 s3 s4 s5 s6 s8 hhx
                  have zc : w6.cell? ⟨bz, oz + j, none⟩ = some (.int .u8 (z : Int)) := (HB6.out.cell (p := ⟨bz, oz + j, none⟩) hbz).trans HZC.out
                  by_cases hz4 : z % 4 = 0
                  · have z1 : ((z : Int) % 4 == 0) = true := by rw [beq_iff_eq]; omega
                    have z2 : (z : Int) % 4 = 0 := by omega
                    by_cases hfg : 0 < g.front
                    · have z3 : (g.acked : Int) < (hx : Int) := by have := HH.out; omega
                      have z4 : (g.acked : Int) ≤ 60 := by have := HW4.out.le; omega
                      have hr := win_report HW4.out hn60 hfg (j : Int)
                      rw [show ((g.acked + 1 : Nat) : Int) = (g.acked : Int) + 1 by omega] at hr
                      obtain ⟨g5, hg5⟩ : ∃ g5, g5 = (g.report ⟨1, false, false, false, 0, (g.acked : Int) + 1⟩ (j : Int)).1 := ⟨_, rfl⟩
                      rw [← hg5] at hr
                      obtain ⟨r1, r2, r3, r4⟩ := hr
                      have HR := Lib.hid (show g.report ⟨1, false, false, false, 0, (g.acked : Int) + 1⟩ (j : Int) = (g5, 0) from Prod.ext hg5.symm r1)
                      have HW5 := Lib.hid r2
                      have HH5 : Hid (hx = g5.acked + g5.front) := Lib.hid (by have := HH.out; omega)
                      clear r1 r2 r3 r4 hg5
                      go_wp2_with fail
                      refine (acked_any _ HF6.out).mono ?_
                      rintro e wq ⟨rfl, hw⟩
                      obtain rfl := hw.symm
                      go_wp2_with fail
                      refine (acked_any _ HF6.out).mono ?_
                      rintro e wq ⟨rfl, hw⟩
                      obtain rfl := hw.symm
                      go_wp2_with fail
                      refine (word_any _ _).mono ?_
                      rintro e w5 ⟨rfl, hB⟩
                      unfold cwV
                      have HF5 := Lib.hid (HF6.out.below hB (Nat.le_refl _))
                      have HB5 := Lib.hid (HB6.out.trans (hB.mono (Nat.le_of_lt HF6.out.blk.lt)))
                      clear hB zc
                      go_wp2_with fail
                      refine (report_ex (c := ⟨1, false, false, false, 0, (g.acked : Int) + 1⟩) HR.out HF5.out HW4.out.ok (by have := HW4.out.le; omega)).mono ?_
                      rintro e w6 ⟨vU6, rfl, HF6, -, hB⟩
                      have HB6 := Lib.hid (HB5.out.trans hB.out)
                      clear hB
                      have hq := HW5.out.len
                      have hle := HW5.out.le
                      have hst := HW5.out.st
                      have q1 : ((g5.units.length : Int) + (g5.acked : Int) != (i : Int)) = false := by simp; omega
                      have q2 : (g5.state : Int) = 1 := by omega
                      have q4 : (g5.units.length : Int) ≤ 60 := by omega
                      have q5 : (g5.acked : Int) ≤ 60 := by omega
                      have q6 : (g5.units.length : Int) + (g5.acked : Int) = (i : Int) := by omega
                      have q3 : ((g5.state : Int) != 1) = false := by simp; omega
                      clear hst hq
                      go_wp2_with fail
                      refine (queued_any _ HF6.out).mono ?_
                      rintro e wq ⟨rfl, hw⟩
                      obtain rfl := hw.symm
                      go_wp2_with fail
                      refine (acked_any _ HF6.out).mono ?_
                      rintro e wq ⟨rfl, hw⟩
                      obtain rfl := hw.symm
                      go_wp2_with fail
                      refine (state_any _ HF6.out).mono ?_
                      rintro e wq ⟨rfl, hw⟩
                      obtain rfl := hw.symm
                      go_wp2_with fail
                      go_roundw
                      case rel => exact ⟨j + 1, g5, _, _, by omega, by go_num, (by rw [HH5.out]), HW5, HF6, HB6⟩
                      case measure => simp [intOf]; omega
                    · skip
                      exact absurd (show 0 < g.front by have := HFR.out; omega) hfg
                  · have z1 : ((z : Int) % 4 == 0) = false := by rw [beq_eq_false_iff_ne]; omega
                    have z2 : ¬ (z : Int) % 4 = 0 := by omega
                    have hq := HW4.out.len
                    have hle := HW4.out.le
                    have hst := HW4.out.st
                    have q1 : ((g.units.length : Int) + (g.acked : Int) != (i : Int)) = false := by simp; omega
                    have q2 : (g.state : Int) = 1 := by omega
                    have q4 : (g.units.length : Int) ≤ 60 := by omega
                    have q5 : (g.acked : Int) ≤ 60 := by omega
                    have q6 : (g.units.length : Int) + (g.acked : Int) = (i : Int) := by omega
                    have q3 : ((g.state : Int) != 1) = false := by simp; omega
                    clear hst hq
                    go_wp2_with fail
                    refine (queued_any _ HF6.out).mono ?_
                    rintro e wq ⟨rfl, hw⟩
                    obtain rfl := hw.symm
                    go_wp2_with fail
                    refine (acked_any _ HF6.out).mono ?_
                    rintro e wq ⟨rfl, hw⟩
                    obtain rfl := hw.symm
                    go_wp2_with fail
                    refine (state_any _ HF6.out).mono ?_
                    rintro e wq ⟨rfl, hw⟩
                    obtain rfl := hw.symm
                    go_wp2_with fail
                    go_roundw
                    case rel => exact ⟨j + 1, g, _, _, by omega, by go_num, (by rw [HH.out]), HW4, HF6, HB6⟩
                    case measure => simp [intOf]; omega
                · have s8 : ¬ (hv : Int) < (p : Int) + 1 := by omega
                  have HH : Hid (hv = g.acked + g.front) := Lib.hid (by have := HFR.out; omega)
                  go_upto_region 21 with fail
                  clear s0 s1 s2 s3 s4 s5 s6 s8
                  have zc : w6.cell? ⟨bz, oz + j, none⟩ = some (.int .u8 (z : Int)) := (HB6.out.cell (p := ⟨bz, oz + j, none⟩) hbz).trans HZC.out
                  by_cases hz4 : z % 4 = 0
                  · have z1 : ((z : Int) % 4 == 0) = true := by rw [beq_iff_eq]; omega
                    have z2 : (z : Int) % 4 = 0 := by omega
                    by_cases hfg : 0 < g.front
                    · have z3 : (g.acked : Int) < (hv : Int) := by have := HH.out; omega
                      have z4 : (g.acked : Int) ≤ 60 := by have := HW4.out.le; omega
                      have hr := win_report HW4.out hn60 hfg (j : Int)
                      rw [show ((g.acked + 1 : Nat) : Int) = (g.acked : Int) + 1 by omega] at hr
                      obtain ⟨g5, hg5⟩ : ∃ g5, g5 = (g.report ⟨1, false, false, false, 0, (g.acked : Int) + 1⟩ (j : Int)).1 := ⟨_, rfl⟩
                      rw [← hg5] at hr
                      obtain ⟨r1, r2, r3, r4⟩ := hr
                      have HR := Lib.hid (show g.report ⟨1, false, false, false, 0, (g.acked : Int) + 1⟩ (j : Int) = (g5, 0) from Prod.ext hg5.symm r1)
                      have HW5 := Lib.hid r2
                      have HH5 : Hid (hv = g5.acked + g5.front) := Lib.hid (by have := HH.out; omega)
                      clear r1 r2 r3 r4 hg5
                      go_wp2_with fail
                      refine (acked_any _ HF6.out).mono ?_
                      rintro e wq ⟨rfl, hw⟩
                      obtain rfl := hw.symm
                      go_wp2_with fail
                      refine (acked_any _ HF6.out).mono ?_
                      rintro e wq ⟨rfl, hw⟩
                      obtain rfl := hw.symm
                      go_wp2_with fail
                      refine (word_any _ _).mono ?_
                      rintro e w5 ⟨rfl, hB⟩
                      unfold cwV
                      have HF5 := Lib.hid (HF6.out.below hB (Nat.le_refl _))
                      have HB5 := Lib.hid (HB6.out.trans (hB.mono (Nat.le_of_lt HF6.out.blk.lt)))
                      clear hB zc
                      go_wp2_with fail
                      refine (report_ex (c := ⟨1, false, false, false, 0, (g.acked : Int) + 1⟩) HR.out HF5.out HW4.out.ok (by have := HW4.out.le; omega)).mono ?_
                      rintro e w6 ⟨vU6, rfl, HF6, -, hB⟩
                      have HB6 := Lib.hid (HB5.out.trans hB.out)
                      clear hB
                      have hq := HW5.out.len
                      have hle := HW5.out.le
                      have hst := HW5.out.st
                      have q1 : ((g5.units.length : Int) + (g5.acked : Int) != (i : Int)) = false := by simp; omega
                      have q2 : (g5.state : Int) = 1 := by omega
                      have q4 : (g5.units.length : Int) ≤ 60 := by omega
                      have q5 : (g5.acked : Int) ≤ 60 := by omega
                      have q6 : (g5.units.length : Int) + (g5.acked : Int) = (i : Int) := by omega
                      have q3 : ((g5.state : Int) != 1) = false := by simp; omega
                      clear hst hq
                      go_wp2_with fail
                      refine (queued_any _ HF6.out).mono ?_
                      rintro e wq ⟨rfl, hw⟩
                      obtain rfl := hw.symm
                      go_wp2_with fail
                      refine (acked_any _ HF6.out).mono ?_
                      rintro e wq ⟨rfl, hw⟩
                      obtain rfl := hw.symm
                      go_wp2_with fail
                      refine (state_any _ HF6.out).mono ?_
                      rintro e wq ⟨rfl, hw⟩
                      obtain rfl := hw.symm
                      go_wp2_with fail
                      go_roundw
                      case rel => exact ⟨j + 1, g5, _, _, by omega, by go_num, (by rw [HH5.out]), HW5, HF6, HB6⟩
                      case measure => simp [intOf]; omega
                    · skip
                      exact absurd (show 0 < g.front by have := HFR.out; omega) hfg
                  · have z1 : ((z : Int) % 4 == 0) = false := by rw [beq_eq_false_iff_ne]; omega
                    have z2 : ¬ (z : Int) % 4 = 0 := by omega
                    have hq := HW4.out.len
                    have hle := HW4.out.le
                    have hst := HW4.out.st
                    have q1 : ((g.units.length : Int) + (g.acked : Int) != (i : Int)) = false := by simp; omega
                    have q2 : (g.state : Int) = 1 := by omega
                    have q4 : (g.units.length : Int) ≤ 60 := by omega
                    have q5 : (g.acked : Int) ≤ 60 := by omega
                    have q6 : (g.units.length : Int) + (g.acked : Int) = (i : Int) := by omega
                    have q3 : ((g.state : Int) != 1) = false := by simp; omega
                    clear hst hq
                    go_wp2_with fail
                    refine (queued_any _ HF6.out).mono ?_
                    rintro e wq ⟨rfl, hw⟩
                    obtain rfl := hw.symm
                    go_wp2_with fail
                    refine (acked_any _ HF6.out).mono ?_
                    rintro e wq ⟨rfl, hw⟩
                    obtain rfl := hw.symm
                    go_wp2_with fail
                    refine (state_any _ HF6.out).mono ?_
                    rintro e wq ⟨rfl, hw⟩
                    obtain rfl := hw.symm
                    go_wp2_with fail
                    go_roundw
                    case rel => exact ⟨j + 1, g, _, _, by omega, by go_num, (by rw [HH.out]), HW4, HF6, HB6⟩
                    case measure => simp [intOf]; omega
              · have k7 : ¬ (d : Int) < (s : Int) := by omega
                have HFR : Hid (hv ≤ hv ∧ g.front = max f.front (q + 1) ∧ hv = f.acked + f.front ∧ g.acked = f.acked ∧ p = g.acked + q) := Lib.hid ⟨Nat.le_refl _, hfr, hhv, hack, hpq⟩
                clear hp hpq hack hfr hhv hq
                go_upto_region 16 with fail
                obtain ⟨w4, hw4⟩ : ∃ w4, w4 = wx.alloc (.cells #[.bool false, .bool false, .int .i64 5, .int .i64 1, .int .i64 (p : Int), .slice av 1 cv] 33) := ⟨_, rfl⟩
                rw [← hw4]
                have HF4 : Hid (FAt w4 (fun k => k < b) b g vU2 vC3) := Lib.hid (by rw [hw4]; exact HFx.out.below (al (Below.refl _ _) _) (Nat.le_refl _))
                have HB4 : Hid (Below b w w4) := Lib.hid (by rw [hw4]; exact HBx.out.alloc (Nat.le_of_lt HFx.out.blk.lt) _)
                have hk : Blk w4 wx.heap.size 33 [.bool false, .bool false, .int .i64 5, .int .i64 1, .int .i64 (p : Int), .slice av 1 cv] := by rw [hw4]; exact Blk.new wx 33 _
                have HX4 : Hid (BAt wx av [UInt8.ofNat p] → BAt w4 av [UInt8.ofNat p]) := Lib.hid (fun h => by rw [hw4]; exact h.below (al (Below.refl _ _) _) (Nat.le_refl _))
                clear hw4
                have hA4 := HX4.out hA
                obtain ⟨ba, oa, rfl, hba, hca⟩ := hA4.resolve_left (by simp)
                have hc0 := hca 0 (by simp)
                obtain ⟨px, hpx⟩ : ∃ px, px = wx.heap.size := ⟨_, rfl⟩
                rw [← hpx] at hk
                rw [← hpx]
                have HK4 := Lib.hid hk
                have HD4 : Hid (w4.cell? ⟨ba, oa, none⟩ = some (.int .u8 (p : Int))) := Lib.hid (by
                  have h9 : ((UInt8.ofNat p).toNat : Int) = (p : Int) := by rw [UInt8.toNat_ofNat']; omega
                  rw [← h9]; exact hc0)
                have s0 := HK4.out.at 0 rfl
                have s1 := HK4.out.at 1 rfl
                have s2 := HK4.out.at 2 rfl
                have s3 := HK4.out.at 3 rfl
                have s4 := HK4.out.at 4 rfl
                have s5 := HK4.out.at 5 rfl
                have s6 := HD4.out
                clear hA hO hA4 hca hc0 hk HX4 hpx hba
                go_upto_region 18 with (go_quiet ((go_at_call 16; refine Calls.quiet_of_same ((acked_any _ (HF4.out.quiet ?_)).mono fun _ _ h => ⟨h.1, h.2⟩); first | exact ⟨_, rfl⟩ | exact ⟨1, rfl⟩ | exact ⟨0, rfl⟩)))
                clear s0 s1 s2 s3 s4 s5 s6
                obtain ⟨w5, hw5⟩ : ∃ w', w' = w4.drewN nq := ⟨_, rfl⟩
                rw [← hw5]
                have HF5 : Hid (FAt w5 (fun k => k < b) b g vU2 vC3) := Lib.hid (by rw [hw5]; exact HF4.out.quiet ⟨_, rfl⟩)
                have HB5 : Hid (Below b w w5) := Lib.hid (by rw [hw5]; exact HB4.out.trans (Quiet.below ⟨_, rfl⟩))
                have HK5 : Hid (Blk w5 px 33 [.bool false, .bool false, .int .i64 5, .int .i64 1, .int .i64 (p : Int), .slice (some ⟨ba, oa, none⟩) 1 cv]) := Lib.hid (by rw [hw5]; exact HK4.out.drewN nq)
                have HD5 : Hid (w5.cell? ⟨ba, oa, none⟩ = some (.int .u8 (p : Int))) := Lib.hid (by rw [hw5]; exact HD4.out)
                clear hw5
                have s0 := HK5.out.at 0 rfl
                have s1 := HK5.out.at 1 rfl
                have s2 := HK5.out.at 2 rfl
                have s3 := HK5.out.at 3 rfl
                have s4 := HK5.out.at 4 rfl
                have s5 := HK5.out.at 5 rfl
                have s6 := HD5.out
                go_upto_region 20 with (go_quiet ((go_at_call 16; refine Calls.quiet_of_same ((acked_any _ (HF5.out.quiet ?_)).mono fun _ _ h => ⟨h.1, h.2⟩); first | exact ⟨_, rfl⟩ | exact ⟨1, rfl⟩ | exact ⟨0, rfl⟩)))
                clear s0 s1 s2 s3 s4 s5 s6
                obtain ⟨w6, hw6⟩ : ∃ w', w' = w5.drewN nq := ⟨_, rfl⟩
                rw [← hw6]
                have HF6 : Hid (FAt w6 (fun k => k < b) b g vU2 vC3) := Lib.hid (by rw [hw6]; exact HF5.out.quiet ⟨_, rfl⟩)
                have HB6 : Hid (Below b w w6) := Lib.hid (by rw [hw6]; exact HB5.out.trans (Quiet.below ⟨_, rfl⟩))
                have HK6 : Hid (Blk w6 px 33 [.bool false, .bool false, .int .i64 5, .int .i64 1, .int .i64 (p : Int), .slice (some ⟨ba, oa, none⟩) 1 cv]) := Lib.hid (by rw [hw6]; exact HK5.out.drewN nq)
                have HD6 : Hid (w6.cell? ⟨ba, oa, none⟩ = some (.int .u8 (p : Int))) := Lib.hid (by rw [hw6]; exact HD5.out)
                clear hw6
                have s0 := HK6.out.at 0 rfl
                have s1 := HK6.out.at 1 rfl
                have s2 := HK6.out.at 2 rfl
                have s3 := HK6.out.at 3 rfl
                have s4 := HK6.out.at 4 rfl
                have s5 := HK6.out.at 5 rfl
                have s6 := HD6.out
                have s7 : (p : Int) ≤ 60 := k3
                by_cases hmx : hv < p + 1
                · have s8 : (hv : Int) < (p : Int) + 1 := by omega
                  obtain ⟨hx, hhx⟩ : ∃ hx : Nat, (p : Int) + 1 = (hx : Int) := ⟨p + 1, by omega⟩
                  have HH : Hid (hx = g.acked + g.front) := Lib.hid (by have := HFR.out; omega)
                  go_upto_region 21 with fail
                  clear s0 s1 s2 s3 s4 s5 s6 s8 hhx
                  have zc : w6.cell? ⟨bz, oz + j, none⟩ = some (.int .u8 (z : Int)) := (HB6.out.cell (p := ⟨bz, oz + j, none⟩) hbz).trans HZC.out
                  by_cases hz4 : z % 4 = 0
                  · have z1 : ((z : Int) % 4 == 0) = true := by rw [beq_iff_eq]; omega
                    have z2 : (z : Int) % 4 = 0 := by omega
                    by_cases hfg : 0 < g.front
                    · have z3 : (g.acked : Int) < (hx : Int) := by have := HH.out; omega
                      have z4 : (g.acked : Int) ≤ 60 := by have := HW4.out.le; omega
                      have hr := win_report HW4.out hn60 hfg (j : Int)
                      rw [show ((g.acked + 1 : Nat) : Int) = (g.acked : Int) + 1 by omega] at hr
                      obtain ⟨g5, hg5⟩ : ∃ g5, g5 = (g.report ⟨1, false, false, false, 0, (g.acked : Int) + 1⟩ (j : Int)).1 := ⟨_, rfl⟩
                      rw [← hg5] at hr
                      obtain ⟨r1, r2, r3, r4⟩ := hr
                      have HR := Lib.hid (show g.report ⟨1, false, false, false, 0, (g.acked : Int) + 1⟩ (j : Int) = (g5, 0) from Prod.ext hg5.symm r1)
                      have HW5 := Lib.hid r2
                      have HH5 : Hid (hx = g5.acked + g5.front) := Lib.hid (by have := HH.out; omega)
                      clear r1 r2 r3 r4 hg5
                      go_wp2_with fail
                      refine (acked_any _ HF6.out).mono ?_
                      rintro e wq ⟨rfl, hw⟩
                      obtain rfl := hw.symm
                      go_wp2_with fail
                      refine (acked_any _ HF6.out).mono ?_
                      rintro e wq ⟨rfl, hw⟩
                      obtain rfl := hw.symm
                      go_wp2_with fail
                      refine (word_any _ _).mono ?_
                      rintro e w5 ⟨rfl, hB⟩
                      unfold cwV
                      have HF5 := Lib.hid (HF6.out.below hB (Nat.le_refl _))
                      have HB5 := Lib.hid (HB6.out.trans (hB.mono (Nat.le_of_lt HF6.out.blk.lt)))
                      clear hB zc
                      go_wp2_with fail
                      refine (report_ex (c := ⟨1, false, false, false, 0, (g.acked : Int) + 1⟩) HR.out HF5.out HW4.out.ok (by have := HW4.out.le; omega)).mono ?_
                      rintro e w6 ⟨vU6, rfl, HF6, -, hB⟩
                      have HB6 := Lib.hid (HB5.out.trans hB.out)
                      clear hB
                      have hq := HW5.out.len
                      have hle := HW5.out.le
                      have hst := HW5.out.st
                      have q1 : ((g5.units.length : Int) + (g5.acked : Int) != (i : Int)) = false := by simp; omega
                      have q2 : (g5.state : Int) = 1 := by omega
                      have q4 : (g5.units.length : Int) ≤ 60 := by omega
                      have q5 : (g5.acked : Int) ≤ 60 := by omega
                      have q6 : (g5.units.length : Int) + (g5.acked : Int) = (i : Int) := by omega
                      have q3 : ((g5.state : Int) != 1) = false := by simp; omega
                      clear hst hq
                      go_wp2_with fail
                      refine (queued_any _ HF6.out).mono ?_
                      rintro e wq ⟨rfl, hw⟩
                      obtain rfl := hw.symm
                      go_wp2_with fail
                      refine (acked_any _ HF6.out).mono ?_
                      rintro e wq ⟨rfl, hw⟩
                      obtain rfl := hw.symm
                      go_wp2_with fail
                      refine (state_any _ HF6.out).mono ?_
                      rintro e wq ⟨rfl, hw⟩
                      obtain rfl := hw.symm
                      go_wp2_with fail
                      go_roundw
                      case rel => exact ⟨j + 1, g5, _, _, by omega, by go_num, (by rw [HH5.out]), HW5, HF6, HB6⟩
                      case measure => simp [intOf]; omega
                    · skip
                      exact absurd (show 0 < g.front by have := HFR.out; omega) hfg
                  · have z1 : ((z : Int) % 4 == 0) = false := by rw [beq_eq_false_iff_ne]; omega
                    have z2 : ¬ (z : Int) % 4 = 0 := by omega
                    have hq := HW4.out.len
                    have hle := HW4.out.le
                    have hst := HW4.out.st
                    have q1 : ((g.units.length : Int) + (g.acked : Int) != (i : Int)) = false := by simp; omega
                    have q2 : (g.state : Int) = 1 := by omega
                    have q4 : (g.units.length : Int) ≤ 60 := by omega
                    have q5 : (g.acked : Int) ≤ 60 := by omega
                    have q6 : (g.units.length : Int) + (g.acked : Int) = (i : Int) := by omega
                    have q3 : ((g.state : Int) != 1) = false := by simp; omega
                    clear hst hq
                    go_wp2_with fail
                    refine (queued_any _ HF6.out).mono ?_
                    rintro e wq ⟨rfl, hw⟩
                    obtain rfl := hw.symm
                    go_wp2_with fail
                    refine (acked_any _ HF6.out).mono ?_
                    rintro e wq ⟨rfl, hw⟩
                    obtain rfl := hw.symm
                    go_wp2_with fail
                    refine (state_any _ HF6.out).mono ?_
                    rintro e wq ⟨rfl, hw⟩
                    obtain rfl := hw.symm
                    go_wp2_with fail
                    go_roundw
                    case rel => exact ⟨j + 1, g, _, _, by omega, by go_num, (by rw [HH.out]), HW4, HF6, HB6⟩
                    case measure => simp [intOf]; omega
                · have s8 : ¬ (hv : Int) < (p : Int) + 1 := by omega
                  have HH : Hid (hv = g.acked + g.front) := Lib.hid (by have := HFR.out; omega)
                  go_upto_region 21 with fail
                  clear s0 s1 s2 s3 s4 s5 s6 s8
                  have zc : w6.cell? ⟨bz, oz + j, none⟩ = some (.int .u8 (z : Int)) := (HB6.out.cell (p := ⟨bz, oz + j, none⟩) hbz).trans HZC.out
                  by_cases hz4 : z % 4 = 0
                  · have z1 : ((z : Int) % 4 == 0) = true := by rw [beq_iff_eq]; omega
                    have z2 : (z : Int) % 4 = 0 := by omega
                    by_cases hfg : 0 < g.front
                    · have z3 : (g.acked : Int) < (hv : Int) := by have := HH.out; omega
                      have z4 : (g.acked : Int) ≤ 60 := by have := HW4.out.le; omega
                      have hr := win_report HW4.out hn60 hfg (j : Int)
                      rw [show ((g.acked + 1 : Nat) : Int) = (g.acked : Int) + 1 by omega] at hr
                      obtain ⟨g5, hg5⟩ : ∃ g5, g5 = (g.report ⟨1, false, false, false, 0, (g.acked : Int) + 1⟩ (j : Int)).1 := ⟨_, rfl⟩
                      rw [← hg5] at hr
                      obtain ⟨r1, r2, r3, r4⟩ := hr
                      have HR := Lib.hid (show g.report ⟨1, false, false, false, 0, (g.acked : Int) + 1⟩ (j : Int) = (g5, 0) from Prod.ext hg5.symm r1)
                      have HW5 := Lib.hid r2
                      have HH5 : Hid (hv = g5.acked + g5.front) := Lib.hid (by have := HH.out; omega)
                      clear r1 r2 r3 r4 hg5
                      go_wp2_with fail
                      refine (acked_any _ HF6.out).mono ?_
                      rintro e wq ⟨rfl, hw⟩
                      obtain rfl := hw.symm
                      go_wp2_with fail
                      refine (acked_any _ HF6.out).mono ?_
                      rintro e wq ⟨rfl, hw⟩
                      obtain rfl := hw.symm
                      go_wp2_with fail
                      refine (word_any _ _).mono ?_
                      rintro e w5 ⟨rfl, hB⟩
                      unfold cwV
                      have HF5 := Lib.hid (HF6.out.below hB (Nat.le_refl _))
                      have HB5 := Lib.hid (HB6.out.trans (hB.mono (Nat.le_of_lt HF6.out.blk.lt)))
                      clear hB zc
                      go_wp2_with fail
                      refine (report_ex (c := ⟨1, false, false, false, 0, (g.acked : Int) + 1⟩) HR.out HF5.out HW4.out.ok (by have := HW4.out.le; omega)).mono ?_
                      rintro e w6 ⟨vU6, rfl, HF6, -, hB⟩
                      have HB6 := Lib.hid (HB5.out.trans hB.out)
                      clear hB
                      have hq := HW5.out.len
                      have hle := HW5.out.le
                      have hst := HW5.out.st
                      have q1 : ((g5.units.length : Int) + (g5.acked : Int) != (i : Int)) = false := by simp; omega
                      have q2 : (g5.state : Int) = 1 := by omega
                      have q4 : (g5.units.length : Int) ≤ 60 := by omega
                      have q5 : (g5.acked : Int) ≤ 60 := by omega
                      have q6 : (g5.units.length : Int) + (g5.acked : Int) = (i : Int) := by omega
                      have q3 : ((g5.state : Int) != 1) = false := by simp; omega
                      clear hst hq
                      go_wp2_with fail
                      refine (queued_any _ HF6.out).mono ?_
                      rintro e wq ⟨rfl, hw⟩
                      obtain rfl := hw.symm
                      go_wp2_with fail
                      refine (acked_any _ HF6.out).mono ?_
                      rintro e wq ⟨rfl, hw⟩
                      obtain rfl := hw.symm
                      go_wp2_with fail
                      refine (state_any _ HF6.out).mono ?_
                      rintro e wq ⟨rfl, hw⟩
                      obtain rfl := hw.symm
                      go_wp2_with fail
                      go_roundw
                      case rel => exact ⟨j + 1, g5, _, _, by omega, by go_num, (by rw [HH5.out]), HW5, HF6, HB6⟩
                      case measure => simp [intOf]; omega
                    · skip
                      exact absurd (show 0 < g.front by have := HFR.out; omega) hfg
                  · have z1 : ((z : Int) % 4 == 0) = false := by rw [beq_eq_false_iff_ne]; omega
                    have z2 : ¬ (z : Int) % 4 = 0 := by omega
                    have hq := HW4.out.len
                    have hle := HW4.out.le
                    have hst := HW4.out.st
                    have q1 : ((g.units.length : Int) + (g.acked : Int) != (i : Int)) = false := by simp; omega
                    have q2 : (g.state : Int) = 1 := by omega
                    have q4 : (g.units.length : Int) ≤ 60 := by omega
                    have q5 : (g.acked : Int) ≤ 60 := by omega
                    have q6 : (g.units.length : Int) + (g.acked : Int) = (i : Int) := by omega
                    have q3 : ((g.state : Int) != 1) = false := by simp; omega
                    clear hst hq
                    go_wp2_with fail
                    refine (queued_any _ HF6.out).mono ?_
                    rintro e wq ⟨rfl, hw⟩
                    obtain rfl := hw.symm
                    go_wp2_with fail
                    refine (acked_any _ HF6.out).mono ?_
                    rintro e wq ⟨rfl, hw⟩
                    obtain rfl := hw.symm
                    go_wp2_with fail
                    refine (state_any _ HF6.out).mono ?_
                    rintro e wq ⟨rfl, hw⟩
                    obtain rfl := hw.symm
                    go_wp2_with fail
                    go_roundw
                    case rel => exact ⟨j + 1, g, _, _, by omega, by go_num, (by rw [HH.out]), HW4, HF6, HB6⟩
                    case measure => simp [intOf]; omega
          · have e4 : ¬ (j : Int) < (Z.length : Int) := by omega
            go_wp2_with fail
            refine (alive_any _).mono ?_
            rintro e w9 ⟨rfl, hB⟩
            have HB9 : Hid (Below w.heap.size w w9) := Lib.hid (by rw [← HBB.out]; exact HB2.out.trans (hB.mono (Nat.le_of_lt HF2.out.blk.lt)))
            clear hB
            go_wp2_with fail
            go_ret
            exact ⟨rfl, HB9.out⟩


set_option maxRecDepth 100000 in
theorem lifted (os : Os) (started : os.Started) (H : Type) (enc : TypeId × Value → H) :
    ReturnsInHanded {} Try.checked os 4 .any (Rows.fopWindowSpec.pre6 enc Try.prog Try.f4 Rows.fopWindowRow.domain false) (Rows.fopWindowSpec.post enc Try.prog Try.f4 false true false false) := by
  refine returnsInHanded_of_change (C := Try.checked) own started (by kernel_rfl) Try.func4
    (ChangeSpec.witness6 (enc := enc) (C := Try.checked) false ⟨#[], #[.int .u8 0, .int .u8 0, .slice none 0 0], []⟩ 8 (by kernel_rfl) (by kernel_rfl) (by kernel_rfl) (by kernel_rfl)) ?_
  intro W base args ds gs before hval0 hW hcnd _
  have hval : ∀ (j : Nat) t v, Try.f4.params[j]? = some t → args[j]? = some v → Value.okWide Try.prog W .any base t v := hval0
  have hW' := hW
  obtain ⟨p, q, hA0, hV, rfl, hfz, hnd⟩ := hW
  have hA : DataW.TrodAll enc Try.prog W 0 (fun _ => true) true Try.f4.params.toList args.toList ds p := hA0
  rw [Try.params4] at hA hval
  obtain ⟨v0, vs0, d0, ds0, p0, q0, hargs, rfl, rfl, h0, r0⟩ := trodAll_cons hA
  obtain ⟨v1, vs1, d1, ds1, p1, q1, rfl, rfl, rfl, h1, r1⟩ := trodAll_cons r0
  obtain ⟨v2, vs2, d2, ds2, p2, q2, rfl, rfl, rfl, h2, r2⟩ := trodAll_cons r1
  obtain ⟨rfl, rfl, rfl⟩ := trodAll_nil r2
  obtain rfl : args = #[v0, v1, v2] := by cases args; simp_all
  obtain ⟨rfl, rfl⟩ := trodVars_none hV
  obtain ⟨a0, rfl, rfl, rfl, w0⟩ := open_int Try.underlying5 (hval 0 5 v0 rfl rfl) h0
  obtain ⟨a1, rfl, rfl, rfl, w1⟩ := open_int Try.underlying5 (hval 1 5 v1 rfl rfl) h1
  have k2 := h2
  have lt2 : ∀ x ∈ p2, x.block < W.heap.size := by obtain ⟨m, hm⟩ := k2; exact DataW.trod_lt m _ _ _ hm
  clear hA0 hval0
  refine (walk a0 a1 v2 W w0 w1 (hval 2 23 v2 rfl rfl) k2).mono fun e W' ⟨he, bel⟩ => ?_
  subst he
  exact ⟨_, rfl, _, _, _, [], _, [], hW', trodAll_mk1 (shut_bool Try.underlying4 _), (trodAll_cons_mk (shut_int Try.underlying5 w0) (trodAll_cons_mk (shut_int Try.underlying5 w1) (trodAll_cons_mk (Below.trod laidOut (by kernel_rfl) (of_decide_eq_true (by kernel_rfl)) k2 bel lt2) trodAll_mk0))), rfl, bel.frame _, fun h => by cases h⟩

theorem over : Rows.fopWindowRow.holds Try.pinned (OpenSpec.ofChange Rows.fopWindowSpec) :=
  OpenClaim.holds_of_wide 4 Try.f4 rfl rfl rfl rfl rfl rfl rfl ⟨rfl, rfl, rfl, rfl, rfl⟩ rfl rfl rfl rfl rfl (by kernel_rfl) Try.func4 (by kernel_rfl)
    (of_decide_eq_true (by kernel_rfl)) (by unfold Func.isWrapper; first | (rw [if_pos (by decide +kernel)]; kernel_rfl) | (rw [if_neg (by decide +kernel)]; exact ⟨rfl, rfl⟩))
    (fun os started H enc _ => lifted os started H enc)

theorem proved : Rows.FopWindowSaid := over
#print axioms proved
end Go.Proofs.Ytjiejpklcjpibaa.fopWindow

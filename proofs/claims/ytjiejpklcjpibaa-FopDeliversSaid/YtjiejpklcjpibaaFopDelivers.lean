/- The law FopDelivers holds: the walk, then the lift to the given statement. No condition. -/
import Derived.Test.YtjiejpklcjpibaaZ
import Derived.WalkKit
import Derived.ProofKit
import Derived.OpenShut
import Derived.Lib.Hide
import Derived.ChangeOld
import Derived.Below
import Derived.SizedLaws
namespace Go.Proofs.Ytjiejpklcjpibaa.fopDelivers
open Go.ChangeShapes Go.WideShapes Go.ChangeAt Go.RowKit
set_option linter.unusedVariables false
theorem own : ownKnob Try.prog.godebug = none := by kernel_rfl
theorem laidOut : laidOutB Try.prog = true := by kernel_rfl

set_option maxRecDepth 20000 in
set_option maxHeartbeats 4000000 in
theorem walk {H : Type} {enc : TypeId × Value → H} (a0 a1 : Int) (v2 v3 v4 : Value) (w : World) (w0 : (Lit.int .u8 a0).wf = true) (w1 : (Lit.int .u8 a1).wf = true) {b2 : Nat} {d2 : DataW H} {p2 : List MemPlace} (ok2 : Value.okWide Try.prog w .any b2 22 v2) (tr2 : DataW.Trod enc Try.prog w 0 (fun _ => true) true 22 v2 d2 p2) {b3 : Nat} {d3 : DataW H} {p3 : List MemPlace} (ok3 : Value.okWide Try.prog w .any b3 23 v3) (tr3 : DataW.Trod enc Try.prog w 0 (fun _ => true) true 23 v3 d3 p3) {b4 : Nat} {d4 : DataW H} {p4 : List MemPlace} (ok4 : Value.okWide Try.prog w .any b4 23 v4) (tr4 : DataW.Trod enc Try.prog w 0 (fun _ => true) true 23 v4 d4 p4) :
    Calls Try.prog 3 #[.int .u8 a0, .int .u8 a1, v2, v3, v4] w fun e w' => e = .returned (.bool true) ∧ Below w.heap.size w w' := by
  obtain ⟨L, hS⟩ := arg_lists Try.underlying22 (by kernel_rfl) Try.underlying23 Try.underlying5 (by kernel_rfl) ok2 tr2
  obtain ⟨au, cu, UP, rfl, huc, hum, hub⟩ := arg_bytes Try.underlying23 Try.underlying5 (by kernel_rfl) ok3 tr3
  obtain ⟨ad, cd, DN, rfl, hdc, hdm, hdb⟩ := arg_bytes Try.underlying23 Try.underlying5 (by kernel_rfl) ok4 tr4
  obtain ⟨x0, rfl⟩ := wf_u8 w0
  obtain ⟨x1, rfl⟩ := wf_u8 w1
  have HS := Lib.hid hS
  have HUB := Lib.hid hub
  have HDB := Lib.hid hdb
  obtain ⟨av, capv, rfl, hcv, hmv⟩ := HS.out.len
  clear ok2 tr2 ok3 tr3 ok4 tr4 w0 w1 hS hub hdb
  by_cases h40 : 40 < L.length
  · have e1 : (40 : Int) < (L.length : Int) := by omega
    go_enter Try.func3, Try.ntmps3
    go_wp2_with fail
    refine (alive_any _).mono ?_
    rintro e w9 ⟨rfl, hB⟩
    have HB9 : Hid (Below w.heap.size w w9) := Lib.hid (hB)
    clear hB
    go_wp2_with fail
    go_ret
    exact ⟨rfl, HB9.out⟩
  by_cases h10 : 10 < UP.length
  · have e1 : ¬ (40 : Int) < (L.length : Int) := by omega
    have e2 : (10 : Int) < (UP.length : Int) := by omega
    go_enter Try.func3, Try.ntmps3
    go_wp2_with fail
    refine (alive_any _).mono ?_
    rintro e w9 ⟨rfl, hB⟩
    have HB9 : Hid (Below w.heap.size w w9) := Lib.hid (hB)
    clear hB
    go_wp2_with fail
    go_ret
    exact ⟨rfl, HB9.out⟩
  by_cases h11 : 10 < DN.length
  · have e1 : ¬ (40 : Int) < (L.length : Int) := by omega
    have e2 : ¬ (10 : Int) < (UP.length : Int) := by omega
    have e3 : (10 : Int) < (DN.length : Int) := by omega
    go_enter Try.func3, Try.ntmps3
    go_wp2_with fail
    refine (alive_any _).mono ?_
    rintro e w9 ⟨rfl, hB⟩
    have HB9 : Hid (Below w.heap.size w w9) := Lib.hid (hB)
    clear hB
    go_wp2_with fail
    go_ret
    exact ⟨rfl, HB9.out⟩
  have e1 : ¬ (40 : Int) < (L.length : Int) := by omega
  have e2 : ¬ (10 : Int) < (UP.length : Int) := by omega
  have e3 : ¬ (10 : Int) < (DN.length : Int) := by omega
  have hL : L.length ≤ 40 := by omega
  have hU : UP.length ≤ 10 := by omega
  have hD : DN.length ≤ 10 := by omega
  obtain ⟨b, hb⟩ : ∃ b, b = w.heap.size := ⟨_, rfl⟩
  have HBB := Lib.hid hb
  obtain ⟨s, hs⟩ : ∃ s, s = x0.toNat % 127 + 1 := ⟨_, rfl⟩
  obtain ⟨t, ht⟩ : ∃ t, t = x1.toNat % 9 := ⟨_, rfl⟩
  have hs127 : 1 ≤ s ∧ s ≤ 127 := by omega
  have ht8 : t ≤ 8 := by omega
  have es : (x0.toNat : Int).tmod 127 + 1 = (s : Int) := by rw [Int.tmod_eq_emod_of_nonneg (by omega)]; omega
  have es2 : (x0.toNat : Int) % 127 + 1 = (s : Int) := by omega
  have et : (x1.toNat : Int).tmod 9 = (t : Int) := by rw [Int.tmod_eq_emod_of_nonneg (by omega)]; omega
  have et2 : (x1.toNat : Int) % 9 = (t : Int) := by omega
  have b0 : (x0.toNat : Int) < 256 := by have := x0.toNat_lt; omega
  have b1 : (x1.toNat : Int) < 256 := by have := x1.toNat_lt; omega
  have l40 : (L.length : Int) ≤ 40 := by omega
  clear hs ht h40 h10 h11
  go_enter Try.func3, Try.ntmps3
  go_wp2_with fail
  refine (new_any 5 1 s t 255 w).mono ?_
  rintro e wa ⟨rfl, hF, hB⟩
  rw [← hb] at hF ⊢
  have HF1 : Hid (FAt wa (fun k => k < b) b (fsL (L.take 0) s t) (.slice none 0 0) (.slice none 0 0)) := Lib.hid hF
  have HB1 : Hid (Below b w wa) := Lib.hid (by rw [hb]; exact hB)
  clear hF hB hb
  go_wp2_with fail
  go_loopw [13] (fun v13 wr => ∃ (k : Nat) (vU : Value), k ≤ L.length ∧ v13 = .int .i64 (k : Int) ∧ Hid (∀ u ∈ L.take k, 1 ≤ u.length ∧ u.length ≤ 20) ∧ Hid (FAt wr (fun k => k < b) b (fsL (L.take k) s t) vU (.slice none 0 0)) ∧ Hid (Below b w wr)) (fun v13 _ => L.length - (intOf v13).toNat)
  case atStart => exact ⟨0, _, Nat.zero_le _, rfl, Lib.hid (fun u hu => by simp at hu), HF1, HB1⟩
  case round =>
    obtain ⟨k, vU, hk, rfl, HFT, HF, HB⟩ := hrel
    have hbl := HF.out.blk.lt
    by_cases hlt : k < L.length
    · obtain ⟨bb, off, cp, ae, ce, e, -, -, hbb, hcell, hce, hcm, hA, -⟩ := HS.out.get hlt
      simp only [Value.slice.injEq, true_and] at e
      obtain ⟨rfl, rfl⟩ := e
      obtain ⟨y, hy⟩ : ∃ y, y = L[k] := ⟨_, rfl⟩
      rw [← hy] at hcell hce hA
      have HY := Lib.hid hy
      have hbw : b = w.heap.size := HBB.out
      have HA := Lib.hid (hA.below (HB.out) (Nat.le_of_eq hbw.symm))
      have c0 : wr.cell? ⟨bb, off + k, none⟩ = some (.slice ae y.length ce) := (HB.out.cell (p := ⟨bb, off + k, none⟩) (by rw [hbw]; exact hbb)).trans hcell
      have g1 : (0 : Int) ≤ (k : Int) := by omega
      have g2 : (k : Int) < (L.length : Int) := by omega
      clear hcell hA hy hbw
      by_cases hy1 : y.length < 1
      · have e5 : (y.length : Int) < 1 := by omega
        go_wp2_with fail
        refine (alive_any _).mono ?_
        rintro e w9 ⟨rfl, hB⟩
        have HB9 : Hid (Below w.heap.size w w9) := Lib.hid (by rw [← HBB.out]; exact HB.out.trans (hB.mono (Nat.le_of_lt hbl)))
        clear hB
        go_wp2_with fail
        go_ret
        exact ⟨rfl, HB9.out⟩
      by_cases hy20 : 20 < y.length
      · have e4 : ¬ (y.length : Int) < 1 := by omega
        have e5 : (20 : Int) < (y.length : Int) := by omega
        go_wp2_with fail
        refine (alive_any _).mono ?_
        rintro e w9 ⟨rfl, hB⟩
        have HB9 : Hid (Below w.heap.size w w9) := Lib.hid (by rw [← HBB.out]; exact HB.out.trans (hB.mono (Nat.le_of_lt hbl)))
        clear hB
        go_wp2_with fail
        go_ret
        exact ⟨rfl, HB9.out⟩
      · have e4 : ¬ (y.length : Int) < 1 := by omega
        have e5 : ¬ (20 : Int) < (y.length : Int) := by omega
        have HFT2 : Hid (∀ u ∈ L.take (k + 1), 1 ≤ u.length ∧ u.length ≤ 20) := Lib.hid (fun u hu => by
          rw [List.take_succ_eq_append_getElem hlt, List.mem_append, List.mem_singleton] at hu
          rcases hu with hu | hu
          · exact HFT.out u hu
          · rw [hu, ← HY.out]; omega)
        have hsend := fsL_send L k hlt hL s t (by rw [← HY.out]; omega)
        rw [← HY.out] at hsend
        have HSE := Lib.hid hsend
        have HTK := Lib.hid (show (L.take k).length ≤ 40 by simp; omega)
        clear hsend
        go_wp2_with fail
        refine (send_ex (n := y.length) HSE.out HF.out (fsL_ok _ _ _ HTK.out HFT.out) HA.out rfl (by omega)).mono ?_
        rintro e w3 ⟨rfl, vU3, hF, hB⟩
        have HF3 := Lib.hid hF
        have HB3 : Hid (Below b w w3) := Lib.hid (HB.out.trans hB)
        clear hF hB
        go_wp2_with fail
        go_roundw
        case rel => exact ⟨k + 1, vU3, by omega, by go_num, HFT2, HF3, HB3⟩
        case measure => simp [intOf]; omega
    · obtain rfl : k = L.length := by omega
      have e4 : ¬ (L.length : Int) < (L.length : Int) := by omega
      clear hlt
      rw [List.take_length] at HFT HF
      obtain ⟨wo, hwo⟩ : ∃ wo, wo = wr := ⟨wr, rfl⟩
      subst hwo
      obtain ⟨pe, hpe⟩ : ∃ pe, pe = wo.heap.size := ⟨_, rfl⟩
      have HM0 : Hid (RM w (wo.alloc (.cells #[.int .i64 0, .bool false, .slice none 0 0] 30)) b pe (fsL L s t) ⟨0, false, []⟩ vU (.slice none 0 0) (.slice none 0 0)) := Lib.hid (by rw [hpe]; exact RM.start HF.out HB.out)
      go_upto_region 13 with fail
      rw [← hpe]
      clear hpe
      go_wp2_with fail
      go_loopw [15] (fun v15 wr => ∃ (now : Nat) (f : FS) (e : RE) (vU vC vG : Value), now ≤ 1000 ∧ v15 = .int .i64 (now : Int) ∧ Hid (Tk L s f e now) ∧ Hid (RM w wr b pe f e vU vC vG)) (fun v15 _ => 1000 - (intOf v15).toNat)
      case atStart => exact ⟨0, fsL L s t, ⟨0, false, []⟩, vU, _, _, by omega, rfl, Lib.hid (fsL_start L s t hL HFT.out hs127 ht8), HM0⟩
      case round =>
        obtain ⟨now, f, e, vU2, vC, vG, hn, rfl, HT, HM⟩ := hrel
        have n0 : (now : Int) ≤ 1000 := by omega
        by_cases hq : 0 < f.units.length
        · have hsn := HT.out.soon hq
          have n1 : (now : Int) < 1000 := by omega
          have n2 : (0 : Int) < (f.units.length : Int) := by omega
          go_wp2_with (go_at_call 11; refine (queued_any _ HM.out.fat).mono ?_; rintro e9 wq ⟨rfl, hw⟩; obtain rfl := hw.symm)
          have hc255 : f.count < 255 := by
            by_cases h80 : now ≤ 80
            · have := HT.out.early h80; omega
            · have := (HT.out.late (by omega)).2.1; omega
          have hdn := HT.out.dl.next hL hc255 now HT.out.nw (by omega)
          have htick := fun up down hld => HT.out.tick hL hs127.2 hq hsn up down hld
          refine (next_any _ b f vU2 vC (now : Int) _ HM.out.fat HT.out.dl.ok (by have := HT.out.dl.le; omega)).mono ?_
          rintro e9 wx ⟨v3, vC3, rfl, hO3, hF3, hR3⟩
          have hMx := RM.call HM.out hF3 hR3 rfl
          obtain ⟨g, hg⟩ : ∃ g, g = (f.next (now : Int)).1 := ⟨_, rfl⟩
          obtain ⟨o, ho⟩ : ∃ o, o = (f.next (now : Int)).2 := ⟨_, rfl⟩
          rw [← hg, ← ho] at hdn
          rw [← hg] at hMx
          rw [← ho] at hO3 ⊢
          have htick2 : ∀ up down : Bool, (80 ≤ now → up = false ∧ down = false) → Dl L s g (e.after o up s) ∧ (down = true → Tk L s g (e.after o up s) (now + 1)) ∧ (down = false → (g.report (e.after o up s).word (now : Int)).2 = 0 ∧ Tk L s (g.report (e.after o up s).word (now : Int)).1 (e.after o up s) (now + 1)) := by rw [hg, ho]; exact htick
          obtain ⟨hdl, -, -, hga, hgu, -, hcase⟩ := hdn
          have HMx := Lib.hid hMx
          clear hF3 hR3 hg ho htick hMx hc255
          rcases hcase with ⟨rfl, -⟩ | ⟨q, rfl, hq1, hq2, -⟩
          · have HTICK := Lib.hid htick2
            obtain ⟨a3, n3, c3, rfl⟩ := own_slice hO3
            simp only [Option.getD_none, Option.isSome_none, fmV, Fm.zero]
            clear hO3 htick2 hdl hga hgu
            go_upto_region 17 with fail
            obtain ⟨w4, hw4⟩ : ∃ w4, w4 = wx.alloc (.cells #[.bool false, .bool false, .int .i64 0, .int .i64 0, .int .i64 0, .slice a3 n3 c3] 33) := ⟨_, rfl⟩
            rw [← hw4]
            have HM4 : Hid (RM w w4 b pe g e vU2 vC3 vG) := Lib.hid (by rw [hw4]; exact RM.below HMx.out (al (Below.refl _ _) _))
            clear hw4
            go_upto_region 19 with fail
            have k0 := HM4.out.blk.at 0 rfl
            have k1 := HM4.out.blk.at 1 rfl
            have kl := HM4.out.blk.lt
            have HDW : Hid (BAt w4 ad DN) := Lib.hid (HDB.out.below HM4.out.bel (Nat.le_of_eq HBB.out.symm))
            go_wp2_with fail
            refine (lost_any ad cd now DN w4 HDW.out hD (by omega)).mono ?_
            rintro e9 wq ⟨r2, rfl, hlate2, hw⟩
            obtain rfl := hw.symm
            cases r2
            · obtain ⟨q1, -, q3⟩ := HTICK.out false false (fun h9 => ⟨rfl, rfl⟩)
              obtain ⟨q4, q5⟩ := q3 rfl
              have hq4 : (g.report (RE.word e) (now : Int)).2 = 0 := q4
              have hq5 : Hid (Tk L s (g.report (RE.word e) (now : Int)).1 e (now + 1)) := Lib.hid q5
              have hq1 := Lib.hid q1.ok
              have hq6 := Lib.hid q1.le
              clear q1 q3 q4 q5 hw
              go_wp2_with fail
              refine (report_any (Xd b pe vG) b g vU2 vC3 (RE.word e) (now : Int) w4 HM4.out.fat hq1.out (by have := hq6.out; omega)).mono ?_
              rintro e9 w9 ⟨vU9, rfl, hF9, hu9, hR9⟩
              rw [hq4]
              have HM9 := Lib.hid (RM.call HM4.out hF9 hR9 hu9)
              clear hF9 hu9 hR9 hq4
              go_wp2_with fail
              go_roundw
              case rel => exact ⟨now + 1, _, e, vU9, vC3, vG, by omega, by go_num, hq5, HM9⟩
              case measure => simp [intOf]; omega
            · obtain ⟨-, q2, -⟩ := HTICK.out false true (fun h9 => absurd (hlate2 h9) (by simp))
              have hq5 : Hid (Tk L s g e (now + 1)) := Lib.hid (q2 rfl)
              clear q2 hw
              go_wp2_with fail
              go_roundw
              case rel => exact ⟨now + 1, g, e, vU2, vC3, vG, by omega, by go_num, hq5, HM4⟩
              case measure => simp [intOf]; omega
          · have HTICK := Lib.hid htick2
            have hq9 : q < 40 := by
              have h1 := hdl.ok.units
              have h2 := hdl.len
              have h3 := hdl.le
              omega
            have hnx9 := HT.out.dl.nx
            have hgl9 := HT.out.dl.gle
            obtain ⟨y, hy⟩ : ∃ y, y = L.getD q [] := ⟨_, rfl⟩
            rw [← hy] at hO3 HTICK ⊢
            simp only [Option.getD_some] at hO3
            have hSl := RM.fresh HM.out hO3
            obtain ⟨-, a3, c3, rfl, -, -, -⟩ := BAt.of_row hO3
            simp only [Option.getD_some, Option.isSome_some, fmV]
            obtain ⟨n3, hn3⟩ : ∃ n3, n3 = y.length := ⟨_, rfl⟩
            rw [← hn3] at hSl ⊢
            have HSX := Lib.hid hSl
            have e256 : e.next < 256 := by omega
            have el100 : e.got.length ≤ 100 := by omega
            clear hO3 htick2 hdl hga hgu hq1 hq2 hy hSl hn3 hnx9 hgl9
            go_upto_region 17 with fail
            obtain ⟨w4, hw4⟩ : ∃ w4, w4 = wx.alloc (.cells #[.bool false, .bool false, .int .i64 5, .int .i64 1, .int .i64 (q : Int), .slice a3 n3 c3] 33) := ⟨_, rfl⟩
            rw [← hw4]
            have HM4 : Hid (RM w w4 b pe g e vU2 vC3 vG) := Lib.hid (by rw [hw4]; exact RM.below HMx.out (al (Below.refl _ _) _))
            have hkx : Blk w4 wx.heap.size 33 [.bool false, .bool false, .int .i64 5, .int .i64 1, .int .i64 (q : Int), .slice a3 n3 c3] := by rw [hw4]; exact Blk.new wx 33 _
            have HS4 : Hid (Sl w4 (Sd b pe vU2 vG) (.slice a3 n3 c3) y) := Lib.hid (by rw [hw4]; exact HSX.out.fr (T := fun k => wx.heap.size ≤ k) (Fr.of_below (al (Below.refl _ _) _) (Nat.le_refl _)) (fun k hk => .inr hk))
            have HKX := Lib.hid hkx
            have HUW : Hid (BAt w4 au UP) := Lib.hid (HUB.out.below HM4.out.bel (Nat.le_of_eq HBB.out.symm))
            clear hw4 hkx
            go_wp2_with fail
            refine (lost_any au cu now UP w4 HUW.out hU (by omega)).mono ?_
            rintro e9 wq ⟨r1, rfl, hlate1, hw⟩
            obtain rfl := hw.symm
            cases r1
            · obtain ⟨us, hrow, hsls⟩ := HM4.out.row
              have m0 := HM4.out.blk.at 0 rfl
              have m1 := HM4.out.blk.at 1 rfl
              have m2 := HM4.out.blk.at 2 rfl
              have ml := HM4.out.blk.lt
              have z0 := HKX.out.at 0 rfl
              have z1 := HKX.out.at 1 rfl
              have z2 := HKX.out.at 2 rfl
              have z3 := HKX.out.at 3 rfl
              have z4 := HKX.out.at 4 rfl
              have z5 := HKX.out.at 5 rfl
              have zl := HKX.out.lt
              have HRW := Lib.hid hrow
              have HSLS := Lib.hid hsls
              clear hrow hsls hw
              go_wp2_with fail
              refine (hears_any (pe + 1) (Sd b pe vU2 vG) e q s c3 n3 false false 5 1 y vG a3 us w4 HRW.out HSLS.out HS4.out (by omega) el100 e256 (by omega) hs127.2 (fun k9 h9 => HM4.out.sd k9 h9) (fun k9 h9 => .inr (.inr (.inr h9)))).mono ?_
              rintro e9 w5 ⟨vG5, us5, rfl, hO5, hS5, hb5, hf5⟩
              obtain ⟨e5, he5⟩ : ∃ e5, e5 = e.hears q y s := ⟨_, rfl⟩
              have HE5 := Lib.hid he5
              rw [← he5] at hO5 hS5 ⊢
              have hblk5 := HM4.out.blk.fr hf5 (fun e9 => by have := HM4.out.vg pe e9; omega)
              obtain ⟨aG, nG, cG, rfl⟩ := own_slice hO5
              have HM6 := Lib.hid (RM.heard HM4.out hO5 hS5 hb5 hf5)
              have t0 := hblk5.at 0 rfl
              have t1 := hblk5.at 1 rfl
              have t2 := hblk5.at 2 rfl
              have u0 := hblk5.free 0
              have u1 := hblk5.free 1
              have u2 := hblk5.free 2
              have tl := hblk5.lt
              unfold reV
              clear m0 m1 m2 z0 z1 z2 z3 z4 z5 hO5 hS5 hb5 hf5 he5 hblk5
              go_upto_region 19 with fail
              obtain ⟨w6, hw6⟩ : ∃ w6, w6 = ((w5.setCell ⟨pe, 0, none⟩ (.int .i64 (e5.next : Int))).setCell ⟨pe, 1, none⟩ (.bool e5.again)).setCell ⟨pe, 2, none⟩ (.slice aG nG cG) := ⟨_, rfl⟩
              rw [← hw6] at HM6
              rw [← hw6]
              have HTICK : Hid (∀ up down : Bool, (80 ≤ now → up = false ∧ down = false) → Dl L s g e5 ∧ (down = true → Tk L s g e5 (now + 1)) ∧ (down = false → (g.report e5.word (now : Int)).2 = 0 ∧ Tk L s (g.report e5.word (now : Int)).1 e5 (now + 1))) := Lib.hid (fun up down h8 => by
                have := HTICK.out false down (fun h9 => ⟨rfl, (h8 h9).2⟩)
                rw [HE5.out]
                exact this)
              clear hw6 t0 t1 t2 u0 u1 u2
              have k0 := HM6.out.blk.at 0 rfl
              have k1 := HM6.out.blk.at 1 rfl
              have kl := HM6.out.blk.lt
              have HDW : Hid (BAt w6 ad DN) := Lib.hid (HDB.out.below HM6.out.bel (Nat.le_of_eq HBB.out.symm))
              go_wp2_with fail
              refine (lost_any ad cd now DN w6 HDW.out hD (by omega)).mono ?_
              rintro e9 wq ⟨r2, rfl, hlate2, hw⟩
              obtain rfl := hw.symm
              cases r2
              · obtain ⟨q1, -, q3⟩ := HTICK.out false false (fun h9 => ⟨rfl, rfl⟩)
                obtain ⟨q4, q5⟩ := q3 rfl
                have hq4 : (g.report (RE.word e5) (now : Int)).2 = 0 := q4
                have hq5 : Hid (Tk L s (g.report (RE.word e5) (now : Int)).1 e5 (now + 1)) := Lib.hid q5
                have hq1 := Lib.hid q1.ok
                have hq6 := Lib.hid q1.le
                clear q1 q3 q4 q5 hw
                go_wp2_with fail
                refine (report_any (Xd b pe (.slice aG nG cG)) b g vU2 vC3 (RE.word e5) (now : Int) w6 HM6.out.fat hq1.out (by have := hq6.out; omega)).mono ?_
                rintro e9 w9 ⟨vU9, rfl, hF9, hu9, hR9⟩
                rw [hq4]
                have HM9 := Lib.hid (RM.call HM6.out hF9 hR9 hu9)
                clear hF9 hu9 hR9 hq4
                go_wp2_with fail
                go_roundw
                case rel => exact ⟨now + 1, _, e5, vU9, vC3, (.slice aG nG cG), by omega, by go_num, hq5, HM9⟩
                case measure => simp [intOf]; omega
              · obtain ⟨-, q2, -⟩ := HTICK.out false true (fun h9 => absurd (hlate2 h9) (by simp))
                have hq5 : Hid (Tk L s g e5 (now + 1)) := Lib.hid (q2 rfl)
                clear q2 hw
                go_wp2_with fail
                go_roundw
                case rel => exact ⟨now + 1, g, e5, vU2, vC3, (.slice aG nG cG), by omega, by go_num, hq5, HM6⟩
                case measure => simp [intOf]; omega
            · go_upto_region 19 with fail
              have k0 := HM4.out.blk.at 0 rfl
              have k1 := HM4.out.blk.at 1 rfl
              have kl := HM4.out.blk.lt
              have HDW : Hid (BAt w4 ad DN) := Lib.hid (HDB.out.below HM4.out.bel (Nat.le_of_eq HBB.out.symm))
              go_wp2_with fail
              refine (lost_any ad cd now DN w4 HDW.out hD (by omega)).mono ?_
              rintro e9 wq ⟨r2, rfl, hlate2, hw⟩
              obtain rfl := hw.symm
              cases r2
              · obtain ⟨q1, -, q3⟩ := HTICK.out true false (fun h9 => ⟨absurd (hlate1 h9) (by simp), rfl⟩)
                obtain ⟨q4, q5⟩ := q3 rfl
                have hq4 : (g.report (RE.word e) (now : Int)).2 = 0 := q4
                have hq5 : Hid (Tk L s (g.report (RE.word e) (now : Int)).1 e (now + 1)) := Lib.hid q5
                have hq1 := Lib.hid q1.ok
                have hq6 := Lib.hid q1.le
                clear q1 q3 q4 q5 hw
                go_wp2_with fail
                refine (report_any (Xd b pe vG) b g vU2 vC3 (RE.word e) (now : Int) w4 HM4.out.fat hq1.out (by have := hq6.out; omega)).mono ?_
                rintro e9 w9 ⟨vU9, rfl, hF9, hu9, hR9⟩
                rw [hq4]
                have HM9 := Lib.hid (RM.call HM4.out hF9 hR9 hu9)
                clear hF9 hu9 hR9 hq4
                go_wp2_with fail
                go_roundw
                case rel => exact ⟨now + 1, _, e, vU9, vC3, vG, by omega, by go_num, hq5, HM9⟩
                case measure => simp [intOf]; omega
              · obtain ⟨-, q2, -⟩ := HTICK.out true true (fun h9 => absurd (hlate2 h9) (by simp))
                have hq5 : Hid (Tk L s g e (now + 1)) := Lib.hid (q2 rfl)
                clear q2 hw
                go_wp2_with fail
                go_roundw
                case rel => exact ⟨now + 1, g, e, vU2, vC3, vG, by omega, by go_num, hq5, HM4⟩
                case measure => simp [intOf]; omega
        · have n2 : ¬ (0 : Int) < (f.units.length : Int) := by omega
          by_cases hn9 : now < 1000
          · have n1 : (now : Int) < 1000 := by omega
            go_upto_region 21 with (go_at_call 11; refine (queued_any _ HM.out.fat).mono ?_; rintro e9 wq ⟨rfl, hw⟩; obtain rfl := hw.symm)
            obtain ⟨hd1, hd2, hd3⟩ := HT.out.done (by omega)
            obtain ⟨us, hrow, hsls⟩ := HM.out.row
            rw [hd2] at hrow hsls
            obtain ⟨hnu, ag, cg, rfl, hcg, hmg, hVG, -⟩ := VAt.of_row hrow
            rw [← hnu] at HM
            have p2 := HM.out.blk.at 2 rfl
            have a1 : (f.units.length : Int) = 0 := by omega
            have a2 : (f.acked : Int) = (L.length : Int) := by omega
            have a3 : (f.state : Int) = 1 := by omega
            have HV := Lib.hid hVG
            have HSL := Lib.hid hsls
            have HNU := Lib.hid hnu
            have hpl := HM.out.blk.lt
            clear hrow hsls hVG hd1 hd2 hd3 hnu
            go_wp2_with (first | (go_at_call 11; refine (queued_any _ HM.out.fat).mono ?_; rintro e9 wq ⟨rfl, hw⟩; obtain rfl := hw.symm) | (go_at_call 16; refine (acked_any _ HM.out.fat).mono ?_; rintro e9 wq ⟨rfl, hw⟩; obtain rfl := hw.symm) | (go_at_call 17; refine (state_any _ HM.out.fat).mono ?_; rintro e9 wq ⟨rfl, hw⟩; obtain rfl := hw.symm))
            obtain ⟨w2, hw2⟩ : ∃ w2, w2 = wr := ⟨wr, rfl⟩
            subst hw2
            go_loopw [18] (fun v18 wr' => ∃ i : Nat, i ≤ L.length ∧ v18 = .int .i64 (i : Int) ∧ Hid (Quiet w2 wr')) (fun v18 _ => L.length - (intOf v18).toNat)
            case atStart => exact ⟨0, Nat.zero_le _, rfl, Lib.hid (Quiet.refl _)⟩
            case round =>
              obtain ⟨i, hi, rfl, HQ⟩ := hrel
              by_cases hlt : i < L.length
              · obtain ⟨bb, off, cp, ae, ce, e9, -, -, hbb, hcell, hce, hcm, hA, -⟩ := HS.out.get hlt
                simp only [Value.slice.injEq, true_and] at e9
                obtain ⟨rfl, rfl⟩ := e9
                obtain ⟨v9, hv1, a9, c9, rfl, -, -, hA9, -⟩ := HSL.out.2 i hlt
                obtain ⟨bg, og, rfl, hbg, hcg9⟩ := HV.out.resolve_left (fun e9 => by have h9 := HNU.out; rw [e9, List.length_nil] at h9; omega)
                have hiu : i < us.length := by have := HNU.out; omega
                have hcg0 := hcg9 i hiu
                rw [List.getElem?_eq_getElem hiu] at hv1
                rw [Option.some.inj hv1] at hcg0
                obtain ⟨y, hy⟩ : ∃ y, y = L[i] := ⟨_, rfl⟩
                rw [← hy] at hcell hce hA hcg0 hA9
                have hbw : b = w.heap.size := HBB.out
                have hw9 : Below b w wr := HM.out.bel.trans HQ.out.below
                have q0 : wr.drew.cell? ⟨pe, 2, none⟩ = some (.slice (some ⟨bg, og, none⟩) L.length cg) := HM.out.blk.quiet HQ.out |>.at 2 rfl
                have q1 : wr.drew.cell? ⟨bg, og + i, none⟩ = some (.slice a9 y.length c9) := (HQ.out.below (B := w2.heap.size) |>.cell (p := ⟨bg, og + i, none⟩) hbg).trans hcg0
                have q2 : wr.drew.cell? ⟨bb, off + i, none⟩ = some (.slice ae y.length ce) := (hw9.cell (p := ⟨bb, off + i, none⟩) (by rw [hbw]; exact hbb)).trans hcell
                have hA9r : BAt wr a9 y := hA9.quiet HQ.out
                have hAr : BAt wr ae y := hA.below hw9 (Nat.le_of_eq hbw.symm)
                have q3 : Sem.run Try.prog (convert 23 9 (.slice a9 y.length c9)) wr.drew = .ok (.string ⟨y.toArray⟩) wr.drew := str_n _ _ rfl (show BAt wr.drew a9 y from hA9r)
                have q4 : Sem.run Try.prog (convert 23 9 (.slice ae y.length ce)) wr.drew = .ok (.string ⟨y.toArray⟩) wr.drew := str_n _ _ rfl (show BAt wr.drew ae y from hAr)
                have g1 : (0 : Int) ≤ (i : Int) := by omega
                have g2 : (i : Int) < (L.length : Int) := by omega
                clear hcell hA hy hbw hw9 hv1 hA9 hA9r hAr hcg0 hcg9 hiu hbb hbg p2
                go_upto_region 26 with fail
                refine wp_region_held_drew (S := (fun w' => w'.cell? ⟨pe, 2, none⟩ = some (.slice (some ⟨bg, og, none⟩) L.length cg) ∧ w'.cell? ⟨bg, og + i, none⟩ = some (.slice a9 y.length c9) ∧ w'.cell? ⟨bb, off + i, none⟩ = some (.slice ae y.length ce) ∧ Sem.run Try.prog (convert 23 9 (.slice a9 y.length c9)) w' = .ok (.string ⟨y.toArray⟩) w' ∧ Sem.run Try.prog (convert 23 9 (.slice ae y.length ce)) w' = .ok (.string ⟨y.toArray⟩) w')) (by kernel_rfl) (by (try dsimp only); exact ⟨by assumption, by assumption, by assumption, by assumption, by assumption⟩) (fun hHeld => ?_)
                refine wpAnyH_take (i := 0) (oi := (Oper.mk (some 140) (Op.fieldAddr 30 (Operand.tmp 14) 2) 0 "law.go:144" #[] none)) (v := ?_) rfl (by kernel_rfl) (by kernel_rfl) (by kernel_rfl) (fun _ _ _ h => h) (Or.inl ⟨by rfl, ?_⟩) (by assumption) ?_
                rotate_left
                · (intro w hSw; (try dsimp only at hSw); go_simp; first | done | with_reducible rfl)
                (try simp only [Act.put, List.setIfInBounds_toArray, List.set_cons_zero, List.set_cons_succ])
                refine wpAnyH_take (i := 1) (oi := (Oper.mk (some 141) (Op.load 22 (Operand.tmp 140)) 22 "law.go:144" #[Edge.mk 0 Ground.data] none)) (v := ?_) rfl (by kernel_rfl) (by kernel_rfl) (by kernel_rfl) (fun _ _ _ h => h) (Or.inl ⟨by rfl, ?_⟩) (by assumption) ?_
                rotate_left
                · (intro w hSw; (try dsimp only at hSw); go_simp; first | done | with_reducible rfl)
                (try simp only [Act.put, List.setIfInBounds_toArray, List.set_cons_zero, List.set_cons_succ])
                refine wpAnyH_take (i := 2) (oi := (Oper.mk (some 142) (Op.move (Operand.tmp 18)) 3 "law.go:144" #[] none)) (v := ?_) rfl (by kernel_rfl) (by kernel_rfl) (by kernel_rfl) (fun _ _ _ h => h) (Or.inl ⟨by rfl, ?_⟩) (by assumption) ?_
                rotate_left
                · (intro w hSw; (try dsimp only at hSw); go_simp; first | done | with_reducible rfl)
                (try simp only [Act.put, List.setIfInBounds_toArray, List.set_cons_zero, List.set_cons_succ])
                refine wpAnyH_take (i := 3) (oi := (Oper.mk (some 143) (Op.indexAddr 22 (Operand.tmp 141) (Operand.tmp 142)) 0 "law.go:144" #[Edge.mk 1 Ground.data, Edge.mk 2 Ground.data] none)) (v := ?_) rfl (by kernel_rfl) (by kernel_rfl) (by kernel_rfl) (fun _ _ _ h => h) (Or.inl ⟨by rfl, ?_⟩) (by assumption) ?_
                rotate_left
                · (intro w hSw; (try dsimp only at hSw); go_simp; first | done | with_reducible rfl)
                (try simp only [Act.put, List.setIfInBounds_toArray, List.set_cons_zero, List.set_cons_succ])
                refine wpAnyH_take (i := 4) (oi := (Oper.mk (some 144) (Op.load 23 (Operand.tmp 143)) 23 "law.go:144" #[Edge.mk 3 Ground.data] none)) (v := ?_) rfl (by kernel_rfl) (by kernel_rfl) (by kernel_rfl) (fun _ _ _ h => h) (Or.inl ⟨by rfl, ?_⟩) (by assumption) ?_
                rotate_left
                · (intro w hSw; (try dsimp only at hSw); go_simp; first | done | with_reducible rfl)
                (try simp only [Act.put, List.setIfInBounds_toArray, List.set_cons_zero, List.set_cons_succ])
                refine wpAnyH_take (i := 5) (oi := (Oper.mk (some 145) (Op.convert 23 9 (Operand.tmp 144)) 9 "law.go:144" #[Edge.mk 4 Ground.data] none)) (v := ?_) rfl (by kernel_rfl) (by kernel_rfl) (by kernel_rfl) (fun _ _ _ h => h) (Or.inl ⟨by rfl, ?_⟩) (by assumption) ?_
                rotate_left
                · (intro w hSw; (try dsimp only at hSw); go_simp; first | done | with_reducible rfl)
                (try simp only [Act.put, List.setIfInBounds_toArray, List.set_cons_zero, List.set_cons_succ])
                refine wpAnyH_take (i := 6) (oi := (Oper.mk (some 146) (Op.move (Operand.tmp 2)) 22 "law.go:144" #[] none)) (v := ?_) rfl (by kernel_rfl) (by kernel_rfl) (by kernel_rfl) (fun _ _ _ h => h) (Or.inl ⟨by rfl, ?_⟩) (by assumption) ?_
                rotate_left
                · (intro w hSw; (try dsimp only at hSw); go_simp; first | done | with_reducible rfl)
                (try simp only [Act.put, List.setIfInBounds_toArray, List.set_cons_zero, List.set_cons_succ])
                refine wpAnyH_take (i := 7) (oi := (Oper.mk (some 147) (Op.move (Operand.tmp 18)) 3 "law.go:144" #[] none)) (v := ?_) rfl (by kernel_rfl) (by kernel_rfl) (by kernel_rfl) (fun _ _ _ h => h) (Or.inl ⟨by rfl, ?_⟩) (by assumption) ?_
                rotate_left
                · (intro w hSw; (try dsimp only at hSw); go_simp; first | done | with_reducible rfl)
                (try simp only [Act.put, List.setIfInBounds_toArray, List.set_cons_zero, List.set_cons_succ])
                refine wpAnyH_take (i := 8) (oi := (Oper.mk (some 148) (Op.indexAddr 22 (Operand.tmp 146) (Operand.tmp 147)) 0 "law.go:144" #[Edge.mk 6 Ground.data, Edge.mk 7 Ground.data] none)) (v := ?_) rfl (by kernel_rfl) (by kernel_rfl) (by kernel_rfl) (fun _ _ _ h => h) (Or.inl ⟨by rfl, ?_⟩) (by assumption) ?_
                rotate_left
                · (intro w hSw; (try dsimp only at hSw); go_simp; first | done | with_reducible rfl)
                (try simp only [Act.put, List.setIfInBounds_toArray, List.set_cons_zero, List.set_cons_succ])
                refine wpAnyH_take (i := 9) (oi := (Oper.mk (some 149) (Op.load 23 (Operand.tmp 148)) 23 "law.go:144" #[Edge.mk 8 Ground.data] none)) (v := ?_) rfl (by kernel_rfl) (by kernel_rfl) (by kernel_rfl) (fun _ _ _ h => h) (Or.inl ⟨by rfl, ?_⟩) (by assumption) ?_
                rotate_left
                · (intro w hSw; (try dsimp only at hSw); go_simp; first | done | with_reducible rfl)
                (try simp only [Act.put, List.setIfInBounds_toArray, List.set_cons_zero, List.set_cons_succ])
                refine wpAnyH_take (i := 10) (oi := (Oper.mk (some 150) (Op.convert 23 9 (Operand.tmp 149)) 9 "law.go:144" #[Edge.mk 9 Ground.data] none)) (v := ?_) rfl (by kernel_rfl) (by kernel_rfl) (by kernel_rfl) (fun _ _ _ h => h) (Or.inl ⟨by rfl, ?_⟩) (by assumption) ?_
                rotate_left
                · (intro w hSw; (try dsimp only at hSw); go_simp; first | done | with_reducible rfl)
                (try simp only [Act.put, List.setIfInBounds_toArray, List.set_cons_zero, List.set_cons_succ])
                refine wpAnyH_take (i := 11) (oi := (Oper.mk (some 151) (Op.binOp BinOp.neq 9 (Operand.tmp 145) (Operand.tmp 150) 9) 4 "law.go:144" #[Edge.mk 5 Ground.data, Edge.mk 10 Ground.data] none)) (v := ?_) rfl (by kernel_rfl) (by kernel_rfl) (by kernel_rfl) (fun _ _ _ h => h) (Or.inl ⟨by rfl, ?_⟩) (by assumption) ?_
                rotate_left
                · (intro w hSw; (try dsimp only at hSw); go_simp; first | done | with_reducible rfl)
                (try simp only [Act.put, List.setIfInBounds_toArray, List.set_cons_zero, List.set_cons_succ])
                refine wpAnyH_done (by kernel_rfl) ?_ _
                go_wp2_with fail
                go_roundw
                case rel => exact ⟨i + 1, by omega, by go_num, Lib.hid (HQ.out.trans ⟨1, rfl⟩)⟩
                case measure => simp [intOf]; omega
              · obtain rfl : i = L.length := by omega
                have e4 : ¬ (L.length : Int) < (L.length : Int) := by omega
                go_wp2_with fail
                refine (alive_any _).mono ?_
                rintro e w9 ⟨rfl, hB⟩
                have HB9 : Hid (Below w.heap.size w w9) := Lib.hid (by rw [← HBB.out]; exact HM.out.bel.trans ((HQ.out.below (B := b)).trans (hB.mono (Nat.le_trans (Nat.le_of_lt HM.out.fat.blk.lt) (HQ.out.below (B := b)).size))))
                clear hB
                go_wp2_with fail
                go_ret
                exact ⟨rfl, HB9.out⟩
          · have n1 : ¬ (now : Int) < 1000 := by omega
            go_upto_region 21 with fail
            obtain ⟨hd1, hd2, hd3⟩ := HT.out.done (by omega)
            obtain ⟨us, hrow, hsls⟩ := HM.out.row
            rw [hd2] at hrow hsls
            obtain ⟨hnu, ag, cg, rfl, hcg, hmg, hVG, -⟩ := VAt.of_row hrow
            rw [← hnu] at HM
            have p2 := HM.out.blk.at 2 rfl
            have a1 : (f.units.length : Int) = 0 := by omega
            have a2 : (f.acked : Int) = (L.length : Int) := by omega
            have a3 : (f.state : Int) = 1 := by omega
            have HV := Lib.hid hVG
            have HSL := Lib.hid hsls
            have HNU := Lib.hid hnu
            have hpl := HM.out.blk.lt
            clear hrow hsls hVG hd1 hd2 hd3 hnu
            go_wp2_with (first | (go_at_call 11; refine (queued_any _ HM.out.fat).mono ?_; rintro e9 wq ⟨rfl, hw⟩; obtain rfl := hw.symm) | (go_at_call 16; refine (acked_any _ HM.out.fat).mono ?_; rintro e9 wq ⟨rfl, hw⟩; obtain rfl := hw.symm) | (go_at_call 17; refine (state_any _ HM.out.fat).mono ?_; rintro e9 wq ⟨rfl, hw⟩; obtain rfl := hw.symm))
            obtain ⟨w2, hw2⟩ : ∃ w2, w2 = wr := ⟨wr, rfl⟩
            subst hw2
            go_loopw [18] (fun v18 wr' => ∃ i : Nat, i ≤ L.length ∧ v18 = .int .i64 (i : Int) ∧ Hid (Quiet w2 wr')) (fun v18 _ => L.length - (intOf v18).toNat)
            case atStart => exact ⟨0, Nat.zero_le _, rfl, Lib.hid (Quiet.refl _)⟩
            case round =>
              obtain ⟨i, hi, rfl, HQ⟩ := hrel
              by_cases hlt : i < L.length
              · obtain ⟨bb, off, cp, ae, ce, e9, -, -, hbb, hcell, hce, hcm, hA, -⟩ := HS.out.get hlt
                simp only [Value.slice.injEq, true_and] at e9
                obtain ⟨rfl, rfl⟩ := e9
                obtain ⟨v9, hv1, a9, c9, rfl, -, -, hA9, -⟩ := HSL.out.2 i hlt
                obtain ⟨bg, og, rfl, hbg, hcg9⟩ := HV.out.resolve_left (fun e9 => by have h9 := HNU.out; rw [e9, List.length_nil] at h9; omega)
                have hiu : i < us.length := by have := HNU.out; omega
                have hcg0 := hcg9 i hiu
                rw [List.getElem?_eq_getElem hiu] at hv1
                rw [Option.some.inj hv1] at hcg0
                obtain ⟨y, hy⟩ : ∃ y, y = L[i] := ⟨_, rfl⟩
                rw [← hy] at hcell hce hA hcg0 hA9
                have hbw : b = w.heap.size := HBB.out
                have hw9 : Below b w wr := HM.out.bel.trans HQ.out.below
                have q0 : wr.drew.cell? ⟨pe, 2, none⟩ = some (.slice (some ⟨bg, og, none⟩) L.length cg) := HM.out.blk.quiet HQ.out |>.at 2 rfl
                have q1 : wr.drew.cell? ⟨bg, og + i, none⟩ = some (.slice a9 y.length c9) := (HQ.out.below (B := w2.heap.size) |>.cell (p := ⟨bg, og + i, none⟩) hbg).trans hcg0
                have q2 : wr.drew.cell? ⟨bb, off + i, none⟩ = some (.slice ae y.length ce) := (hw9.cell (p := ⟨bb, off + i, none⟩) (by rw [hbw]; exact hbb)).trans hcell
                have hA9r : BAt wr a9 y := hA9.quiet HQ.out
                have hAr : BAt wr ae y := hA.below hw9 (Nat.le_of_eq hbw.symm)
                have q3 : Sem.run Try.prog (convert 23 9 (.slice a9 y.length c9)) wr.drew = .ok (.string ⟨y.toArray⟩) wr.drew := str_n _ _ rfl (show BAt wr.drew a9 y from hA9r)
                have q4 : Sem.run Try.prog (convert 23 9 (.slice ae y.length ce)) wr.drew = .ok (.string ⟨y.toArray⟩) wr.drew := str_n _ _ rfl (show BAt wr.drew ae y from hAr)
                have g1 : (0 : Int) ≤ (i : Int) := by omega
                have g2 : (i : Int) < (L.length : Int) := by omega
                clear hcell hA hy hbw hw9 hv1 hA9 hA9r hAr hcg0 hcg9 hiu hbb hbg p2
                go_upto_region 26 with fail
                refine wp_region_held_drew (S := (fun w' => w'.cell? ⟨pe, 2, none⟩ = some (.slice (some ⟨bg, og, none⟩) L.length cg) ∧ w'.cell? ⟨bg, og + i, none⟩ = some (.slice a9 y.length c9) ∧ w'.cell? ⟨bb, off + i, none⟩ = some (.slice ae y.length ce) ∧ Sem.run Try.prog (convert 23 9 (.slice a9 y.length c9)) w' = .ok (.string ⟨y.toArray⟩) w' ∧ Sem.run Try.prog (convert 23 9 (.slice ae y.length ce)) w' = .ok (.string ⟨y.toArray⟩) w')) (by kernel_rfl) (by (try dsimp only); exact ⟨by assumption, by assumption, by assumption, by assumption, by assumption⟩) (fun hHeld => ?_)
                refine wpAnyH_take (i := 0) (oi := (Oper.mk (some 140) (Op.fieldAddr 30 (Operand.tmp 14) 2) 0 "law.go:144" #[] none)) (v := ?_) rfl (by kernel_rfl) (by kernel_rfl) (by kernel_rfl) (fun _ _ _ h => h) (Or.inl ⟨by rfl, ?_⟩) (by assumption) ?_
                rotate_left
                · (intro w hSw; (try dsimp only at hSw); go_simp; first | done | with_reducible rfl)
                (try simp only [Act.put, List.setIfInBounds_toArray, List.set_cons_zero, List.set_cons_succ])
                refine wpAnyH_take (i := 1) (oi := (Oper.mk (some 141) (Op.load 22 (Operand.tmp 140)) 22 "law.go:144" #[Edge.mk 0 Ground.data] none)) (v := ?_) rfl (by kernel_rfl) (by kernel_rfl) (by kernel_rfl) (fun _ _ _ h => h) (Or.inl ⟨by rfl, ?_⟩) (by assumption) ?_
                rotate_left
                · (intro w hSw; (try dsimp only at hSw); go_simp; first | done | with_reducible rfl)
                (try simp only [Act.put, List.setIfInBounds_toArray, List.set_cons_zero, List.set_cons_succ])
                refine wpAnyH_take (i := 2) (oi := (Oper.mk (some 142) (Op.move (Operand.tmp 18)) 3 "law.go:144" #[] none)) (v := ?_) rfl (by kernel_rfl) (by kernel_rfl) (by kernel_rfl) (fun _ _ _ h => h) (Or.inl ⟨by rfl, ?_⟩) (by assumption) ?_
                rotate_left
                · (intro w hSw; (try dsimp only at hSw); go_simp; first | done | with_reducible rfl)
                (try simp only [Act.put, List.setIfInBounds_toArray, List.set_cons_zero, List.set_cons_succ])
                refine wpAnyH_take (i := 3) (oi := (Oper.mk (some 143) (Op.indexAddr 22 (Operand.tmp 141) (Operand.tmp 142)) 0 "law.go:144" #[Edge.mk 1 Ground.data, Edge.mk 2 Ground.data] none)) (v := ?_) rfl (by kernel_rfl) (by kernel_rfl) (by kernel_rfl) (fun _ _ _ h => h) (Or.inl ⟨by rfl, ?_⟩) (by assumption) ?_
                rotate_left
                · (intro w hSw; (try dsimp only at hSw); go_simp; first | done | with_reducible rfl)
                (try simp only [Act.put, List.setIfInBounds_toArray, List.set_cons_zero, List.set_cons_succ])
                refine wpAnyH_take (i := 4) (oi := (Oper.mk (some 144) (Op.load 23 (Operand.tmp 143)) 23 "law.go:144" #[Edge.mk 3 Ground.data] none)) (v := ?_) rfl (by kernel_rfl) (by kernel_rfl) (by kernel_rfl) (fun _ _ _ h => h) (Or.inl ⟨by rfl, ?_⟩) (by assumption) ?_
                rotate_left
                · (intro w hSw; (try dsimp only at hSw); go_simp; first | done | with_reducible rfl)
                (try simp only [Act.put, List.setIfInBounds_toArray, List.set_cons_zero, List.set_cons_succ])
                refine wpAnyH_take (i := 5) (oi := (Oper.mk (some 145) (Op.convert 23 9 (Operand.tmp 144)) 9 "law.go:144" #[Edge.mk 4 Ground.data] none)) (v := ?_) rfl (by kernel_rfl) (by kernel_rfl) (by kernel_rfl) (fun _ _ _ h => h) (Or.inl ⟨by rfl, ?_⟩) (by assumption) ?_
                rotate_left
                · (intro w hSw; (try dsimp only at hSw); go_simp; first | done | with_reducible rfl)
                (try simp only [Act.put, List.setIfInBounds_toArray, List.set_cons_zero, List.set_cons_succ])
                refine wpAnyH_take (i := 6) (oi := (Oper.mk (some 146) (Op.move (Operand.tmp 2)) 22 "law.go:144" #[] none)) (v := ?_) rfl (by kernel_rfl) (by kernel_rfl) (by kernel_rfl) (fun _ _ _ h => h) (Or.inl ⟨by rfl, ?_⟩) (by assumption) ?_
                rotate_left
                · (intro w hSw; (try dsimp only at hSw); go_simp; first | done | with_reducible rfl)
                (try simp only [Act.put, List.setIfInBounds_toArray, List.set_cons_zero, List.set_cons_succ])
                refine wpAnyH_take (i := 7) (oi := (Oper.mk (some 147) (Op.move (Operand.tmp 18)) 3 "law.go:144" #[] none)) (v := ?_) rfl (by kernel_rfl) (by kernel_rfl) (by kernel_rfl) (fun _ _ _ h => h) (Or.inl ⟨by rfl, ?_⟩) (by assumption) ?_
                rotate_left
                · (intro w hSw; (try dsimp only at hSw); go_simp; first | done | with_reducible rfl)
                (try simp only [Act.put, List.setIfInBounds_toArray, List.set_cons_zero, List.set_cons_succ])
                refine wpAnyH_take (i := 8) (oi := (Oper.mk (some 148) (Op.indexAddr 22 (Operand.tmp 146) (Operand.tmp 147)) 0 "law.go:144" #[Edge.mk 6 Ground.data, Edge.mk 7 Ground.data] none)) (v := ?_) rfl (by kernel_rfl) (by kernel_rfl) (by kernel_rfl) (fun _ _ _ h => h) (Or.inl ⟨by rfl, ?_⟩) (by assumption) ?_
                rotate_left
                · (intro w hSw; (try dsimp only at hSw); go_simp; first | done | with_reducible rfl)
                (try simp only [Act.put, List.setIfInBounds_toArray, List.set_cons_zero, List.set_cons_succ])
                refine wpAnyH_take (i := 9) (oi := (Oper.mk (some 149) (Op.load 23 (Operand.tmp 148)) 23 "law.go:144" #[Edge.mk 8 Ground.data] none)) (v := ?_) rfl (by kernel_rfl) (by kernel_rfl) (by kernel_rfl) (fun _ _ _ h => h) (Or.inl ⟨by rfl, ?_⟩) (by assumption) ?_
                rotate_left
                · (intro w hSw; (try dsimp only at hSw); go_simp; first | done | with_reducible rfl)
                (try simp only [Act.put, List.setIfInBounds_toArray, List.set_cons_zero, List.set_cons_succ])
                refine wpAnyH_take (i := 10) (oi := (Oper.mk (some 150) (Op.convert 23 9 (Operand.tmp 149)) 9 "law.go:144" #[Edge.mk 9 Ground.data] none)) (v := ?_) rfl (by kernel_rfl) (by kernel_rfl) (by kernel_rfl) (fun _ _ _ h => h) (Or.inl ⟨by rfl, ?_⟩) (by assumption) ?_
                rotate_left
                · (intro w hSw; (try dsimp only at hSw); go_simp; first | done | with_reducible rfl)
                (try simp only [Act.put, List.setIfInBounds_toArray, List.set_cons_zero, List.set_cons_succ])
                refine wpAnyH_take (i := 11) (oi := (Oper.mk (some 151) (Op.binOp BinOp.neq 9 (Operand.tmp 145) (Operand.tmp 150) 9) 4 "law.go:144" #[Edge.mk 5 Ground.data, Edge.mk 10 Ground.data] none)) (v := ?_) rfl (by kernel_rfl) (by kernel_rfl) (by kernel_rfl) (fun _ _ _ h => h) (Or.inl ⟨by rfl, ?_⟩) (by assumption) ?_
                rotate_left
                · (intro w hSw; (try dsimp only at hSw); go_simp; first | done | with_reducible rfl)
                (try simp only [Act.put, List.setIfInBounds_toArray, List.set_cons_zero, List.set_cons_succ])
                refine wpAnyH_done (by kernel_rfl) ?_ _
                go_wp2_with fail
                go_roundw
                case rel => exact ⟨i + 1, by omega, by go_num, Lib.hid (HQ.out.trans ⟨1, rfl⟩)⟩
                case measure => simp [intOf]; omega
              · obtain rfl : i = L.length := by omega
                have e4 : ¬ (L.length : Int) < (L.length : Int) := by omega
                go_wp2_with fail
                refine (alive_any _).mono ?_
                rintro e w9 ⟨rfl, hB⟩
                have HB9 : Hid (Below w.heap.size w w9) := Lib.hid (by rw [← HBB.out]; exact HM.out.bel.trans ((HQ.out.below (B := b)).trans (hB.mono (Nat.le_trans (Nat.le_of_lt HM.out.fat.blk.lt) (HQ.out.below (B := b)).size))))
                clear hB
                go_wp2_with fail
                go_ret
                exact ⟨rfl, HB9.out⟩


set_option maxRecDepth 100000 in
theorem lifted (os : Os) (started : os.Started) (H : Type) (enc : TypeId × Value → H) :
    ReturnsInHanded {} Try.checked os 3 .any (Rows.fopDeliversSpec.pre6 enc Try.prog Try.f3 Rows.fopDeliversRow.domain false) (Rows.fopDeliversSpec.post enc Try.prog Try.f3 false true false false) := by
  refine returnsInHanded_of_change (C := Try.checked) own started (by kernel_rfl) Try.func3
    (ChangeSpec.witness6 (enc := enc) (C := Try.checked) false ⟨#[], #[.int .u8 0, .int .u8 0, .slice none 0 0, .slice none 0 0, .slice none 0 0], []⟩ 8 (by kernel_rfl) (by kernel_rfl) (by kernel_rfl) (by kernel_rfl)) ?_
  intro W base args ds gs before hval0 hW hcnd _
  have hval : ∀ (j : Nat) t v, Try.f3.params[j]? = some t → args[j]? = some v → Value.okWide Try.prog W .any base t v := hval0
  have hW' := hW
  obtain ⟨p, q, hA0, hV, rfl, hfz, hnd⟩ := hW
  have hA : DataW.TrodAll enc Try.prog W 0 (fun _ => true) true Try.f3.params.toList args.toList ds p := hA0
  rw [Try.params3] at hA hval
  obtain ⟨v0, vs0, d0, ds0, p0, q0, hargs, rfl, rfl, h0, r0⟩ := trodAll_cons hA
  obtain ⟨v1, vs1, d1, ds1, p1, q1, rfl, rfl, rfl, h1, r1⟩ := trodAll_cons r0
  obtain ⟨v2, vs2, d2, ds2, p2, q2, rfl, rfl, rfl, h2, r2⟩ := trodAll_cons r1
  obtain ⟨v3, vs3, d3, ds3, p3, q3, rfl, rfl, rfl, h3, r3⟩ := trodAll_cons r2
  obtain ⟨v4, vs4, d4, ds4, p4, q4, rfl, rfl, rfl, h4, r4⟩ := trodAll_cons r3
  obtain ⟨rfl, rfl, rfl⟩ := trodAll_nil r4
  obtain rfl : args = #[v0, v1, v2, v3, v4] := by cases args; simp_all
  obtain ⟨rfl, rfl⟩ := trodVars_none hV
  obtain ⟨a0, rfl, rfl, rfl, w0⟩ := open_int Try.underlying5 (hval 0 5 v0 rfl rfl) h0
  obtain ⟨a1, rfl, rfl, rfl, w1⟩ := open_int Try.underlying5 (hval 1 5 v1 rfl rfl) h1
  have k2 := h2
  have lt2 : ∀ x ∈ p2, x.block < W.heap.size := by obtain ⟨m, hm⟩ := k2; exact DataW.trod_lt m _ _ _ hm
  have k3 := h3
  have lt3 : ∀ x ∈ p3, x.block < W.heap.size := by obtain ⟨m, hm⟩ := k3; exact DataW.trod_lt m _ _ _ hm
  have k4 := h4
  have lt4 : ∀ x ∈ p4, x.block < W.heap.size := by obtain ⟨m, hm⟩ := k4; exact DataW.trod_lt m _ _ _ hm
  clear hA0 hval0
  refine (walk a0 a1 v2 v3 v4 W w0 w1 (hval 2 22 v2 rfl rfl) k2 (hval 3 23 v3 rfl rfl) k3 (hval 4 23 v4 rfl rfl) k4).mono fun e W' ⟨he, bel⟩ => ?_
  subst he
  exact ⟨_, rfl, _, _, _, [], _, [], hW', trodAll_mk1 (shut_bool Try.underlying4 _), (trodAll_cons_mk (shut_int Try.underlying5 w0) (trodAll_cons_mk (shut_int Try.underlying5 w1) (trodAll_cons_mk (Below.trod laidOut (by kernel_rfl) (of_decide_eq_true (by kernel_rfl)) k2 bel lt2) (trodAll_cons_mk (Below.trod laidOut (by kernel_rfl) (of_decide_eq_true (by kernel_rfl)) k3 bel lt3) (trodAll_cons_mk (Below.trod laidOut (by kernel_rfl) (of_decide_eq_true (by kernel_rfl)) k4 bel lt4) trodAll_mk0))))), rfl, bel.frame _, fun h => by cases h⟩

theorem over : Rows.fopDeliversRow.holds Try.pinned (OpenSpec.ofChange Rows.fopDeliversSpec) :=
  OpenClaim.holds_of_wide 3 Try.f3 rfl rfl rfl rfl rfl rfl rfl ⟨rfl, rfl, rfl, rfl, rfl⟩ rfl rfl rfl rfl rfl (by kernel_rfl) Try.func3 (by kernel_rfl)
    (of_decide_eq_true (by kernel_rfl)) (by unfold Func.isWrapper; first | (rw [if_pos (by decide +kernel)]; kernel_rfl) | (rw [if_neg (by decide +kernel)]; exact ⟨rfl, rfl⟩))
    (fun os started H enc _ => lifted os started H enc)

theorem proved : Rows.FopDeliversSaid := over
#print axioms proved
end Go.Proofs.Ytjiejpklcjpibaa.fopDelivers

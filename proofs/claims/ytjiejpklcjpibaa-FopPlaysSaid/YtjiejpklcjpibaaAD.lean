/- The reference's Report. No condition. -/
import Derived.Test.YtjiejpklcjpibaaAC
namespace Go.Proofs.Ytjiejpklcjpibaa
open Go.RowKit Go.Deep Go.ChangeShapes Go.WideShapes Go.ChangeAt
set_option linter.unusedVariables false

theorem SAt.drop {w : World} {S : Nat → Prop} {a : Option Addr} {n c : Nat} {L : List (List UInt8)} (h : SAt w S (.slice a n c) L) (d : Nat) (hd : d ≤ n) : SAt w S (.slice (if c = d then a else Option.map (fun x => x.add d) a) (n - d) (c - d)) (L.drop d) := by
  obtain ⟨a', cap, vs, e, h1, h2, h3, h4, h5⟩ := h
  simp only [Value.slice.injEq] at e
  obtain ⟨rfl, rfl, rfl⟩ := e
  rcases Nat.eq_or_lt_of_le hd with e | hlt
  · have e2 : L.drop d = [] := List.drop_eq_nil_of_le (by omega)
    rw [e2]
    exact ⟨_, _, [], by rw [show L.length - d = 0 by omega]; rfl, by simp, by omega, .inl rfl, fun _ _ h => absurd rfl h, Sls.nil⟩
  · rw [if_neg (by omega)]
    rcases h3 with h3 | ⟨b, off, rfl, hb, hc⟩
    · have := h5.1; rw [h3] at this; simp at this; omega
    · refine ⟨some ⟨b, off + d, none⟩, c - d, vs.drop d, by rw [List.length_drop]; show Value.slice (some ((⟨b, off, none⟩ : Addr).add d)) _ _ = _; rw [add_plain], by rw [List.length_drop]; omega, by omega, .inr ⟨b, off + d, rfl, hb, fun i hi => ?_⟩, fun q hq hl => ?_, h5.drop d⟩
      · have := hc (d + i) (by simp at hi; omega)
        rw [← Nat.add_assoc] at this
        rw [this]
        simp
      · cases hq
        exact h4 ⟨b, off, none⟩ rfl (fun e => by rw [e] at hlt; simp at hlt)
set_option maxRecDepth 20000 in
set_option maxHeartbeats 4000000 in
theorem rreport_any (S : Nat → Prop) (f : FS) (vU vC : Value) (c : Cw) (t : Int) (w : World) (hS : ∀ k, S k → k < w.heap.size) (hu : SAt w S vU f.units) (hc : CAt w S vC f.ctls) (ok : f.Ok) (hA : f.acked ≤ 1000000000) :
    Calls Try.prog 26 #[RFV f vU vC, cwV c, .int .i64 t] w (RSQ S w (f.report c t)) := by
  obtain ⟨aU, cU, rfl, -, -⟩ := hu.len
  obtain ⟨aC, cC, rfl, -⟩ := id hc
  obtain ⟨nU, hnU⟩ : ∃ n, n = f.units.length := ⟨_, rfl⟩
  obtain ⟨nC, hnC⟩ : ∃ n, n = f.ctls.length := ⟨_, rfl⟩
  rw [← hnU] at hu ⊢
  rw [← hnC] at hc ⊢
  obtain ⟨wb, hwb⟩ : ∃ wb, wb = ((w.alloc (.cells (rfc f (.slice aU nU cU) (.slice aC nC cC)).toArray 54)).alloc (.cells (cwC c).toArray 40)).alloc (.cells z14.toArray 54) := ⟨_, rfl⟩
  have HM : Hid (RM 3 S w wb w.heap.size (w.heap.size + 2) f (.slice aU nU cU) (.slice aC nC cC)) := Lib.hid (RM.start (N := 3) hu hc (by rw [hwb]; exact al (al (al (Below.refl _ _) _) _) _) (by rw [hwb]; exact ((Blk.new w 54 _).alloc _).alloc _) (by rw [hwb]; exact Blk.newAt (by simp)) (by omega) (by omega) (by omega))
  have HW : Hid (Blk wb (w.heap.size + 1) 40 (cwC c)) := Lib.hid (by rw [hwb]; exact (Blk.newAt (by simp)).alloc _)
  have HK := Lib.hid HM.out.blk
  have HR := Lib.hid HM.out.res
  have HNU := Lib.hid hnU
  have HNC := Lib.hid hnC
  obtain ⟨g, hg⟩ : ∃ g, g = f.clock t := ⟨_, rfl⟩
  have HG := Lib.hid hg
  unfold rfc z14 cwC at hwb
  clear hu hc hnU hnC hg
  have hnx : f.report c t = g.heed c := by rw [HG.out]; rfl
  have hokg : g.Ok := by rw [HG.out]; exact FS.ok_clock ok t
  have hAg : g.acked ≤ 1000000000 := by rw [HG.out]; exact hA
  rw [hnx]
  clear hS hnx ok hA
  unfold RFV cwV
  go_enter Try.func26, Try.ntmps26
  go_upto_region 1 with fail
  rw [← hwb]
  clear hwb
  have x0 := HK.out.at 0 rfl
  have x1 := HK.out.at 1 rfl
  have x2 := HK.out.at 2 rfl
  have x3 := HK.out.at 3 rfl
  have x4 := HK.out.at 4 rfl
  have x5 := HK.out.at 5 rfl
  have x6 := HK.out.at 6 rfl
  have x7 := HK.out.at 7 rfl
  have x8 := HK.out.at 8 rfl
  have x9 := HK.out.at 9 rfl
  have x10 := HK.out.at 10 rfl
  have x11 := HK.out.at 11 rfl
  have x12 := HK.out.at 12 rfl
  have x13 := HK.out.at 13 rfl
  have x14 := HK.out.lt
  go_wp2_with fail
  refine (rat_any f aU nU cU aC nC cC t wb).mono ?_
  rw [← HG.out]
  rintro e w2 ⟨rfl, hB2⟩
  unfold RFV
  have HM2 := Lib.hid (HM.out.below hB2)
  have HB2 := Lib.hid hB2
  clear x0 x1 x2 x3 x4 x5 x6 x7 x8 x9 x10 x11 x12 x13 x14 hB2
  have HK2 := Lib.hid HM2.out.blk
  have x0 := HK2.out.at 0 rfl
  have x1 := HK2.out.at 1 rfl
  have x2 := HK2.out.at 2 rfl
  have x3 := HK2.out.at 3 rfl
  have x4 := HK2.out.at 4 rfl
  have x5 := HK2.out.at 5 rfl
  have x6 := HK2.out.at 6 rfl
  have x7 := HK2.out.at 7 rfl
  have x8 := HK2.out.at 8 rfl
  have x9 := HK2.out.at 9 rfl
  have x10 := HK2.out.at 10 rfl
  have x11 := HK2.out.at 11 rfl
  have x12 := HK2.out.at 12 rfl
  have x13 := HK2.out.at 13 rfl
  have y0 := HK2.out.free 0
  have y1 := HK2.out.free 1
  have y2 := HK2.out.free 2
  have y3 := HK2.out.free 3
  have y4 := HK2.out.free 4
  have y5 := HK2.out.free 5
  have y6 := HK2.out.free 6
  have y7 := HK2.out.free 7
  have y8 := HK2.out.free 8
  have y9 := HK2.out.free 9
  have y10 := HK2.out.free 10
  have y11 := HK2.out.free 11
  have y12 := HK2.out.free 12
  have y13 := HK2.out.free 13
  have x14 := HK2.out.lt
  go_upto_region 2 with fail
  have hF := fin14_fr w2 w.heap.size (.int .i64 g.craft) (.int .i64 g.chan) (.int .i64 (g.size : Int)) (.int .i64 g.tmo) (.int .i64 (g.ret : Int)) (.int .i64 (g.state : Int)) (.slice aU nU cU) (.int .i64 (g.acked : Int)) (.int .i64 (g.flight : Int)) (.int .i64 (g.front : Int)) (.slice aC nC cC) (.int .i64 g.now) (.int .i64 g.timer) (.int .i64 (g.count : Int))
  have hK := fin14_blk HK2.out rfl (.int .i64 g.craft) (.int .i64 g.chan) (.int .i64 (g.size : Int)) (.int .i64 g.tmo) (.int .i64 (g.ret : Int)) (.int .i64 (g.state : Int)) (.slice aU nU cU) (.int .i64 (g.acked : Int)) (.int .i64 (g.flight : Int)) (.int .i64 (g.front : Int)) (.slice aC nC cC) (.int .i64 g.now) (.int .i64 g.timer) (.int .i64 (g.count : Int))
  obtain ⟨wC, hwC⟩ : ∃ wC, wC = fin14 w2 w.heap.size (.int .i64 g.craft) (.int .i64 g.chan) (.int .i64 (g.size : Int)) (.int .i64 g.tmo) (.int .i64 (g.ret : Int)) (.int .i64 (g.state : Int)) (.slice aU nU cU) (.int .i64 (g.acked : Int)) (.int .i64 (g.flight : Int)) (.int .i64 (g.front : Int)) (.slice aC nC cC) (.int .i64 g.now) (.int .i64 g.timer) (.int .i64 (g.count : Int)) := ⟨_, rfl⟩
  rw [← hwC] at hF hK
  unfold fin14 at hwC
  rw [← hwC]
  have HMC : Hid (RM 3 S w wC w.heap.size (w.heap.size + 2) g (.slice aU nU cU) (.slice aC nC cC)) := Lib.hid (HM2.out.num hF hK (by rw [HG.out]; rfl) (by rw [HG.out]; rfl))
  have HFC := Lib.hid hF
  clear hF hK hwC x0 x1 x2 x3 x4 x5 x6 x7 x8 x9 x10 x11 x12 x13 x14 y0 y1 y2 y3 y4 y5 y6 y7 y8 y9 y10 y11 y12 y13
  have HWC := Lib.hid ((HW.out.below HB2.out (Nat.le_refl _)).fr HFC.out (by omega))
  have q0 := HWC.out.at 0 rfl
  have q1 := HWC.out.at 1 rfl
  have q2 := HWC.out.at 2 rfl
  have q3 := HWC.out.at 3 rfl
  have q4 := HWC.out.at 4 rfl
  have q5 := HWC.out.at 5 rfl
  have ql := HWC.out.lt
  have x1 := HMC.out.blk.at 1 rfl
  have xl := HMC.out.blk.lt
  go_wp2_with fail
  refine (rvalid_any c wC).mono ?_
  rintro e w3 ⟨rfl, hB3⟩
  have HM3 := Lib.hid (HMC.out.below hB3)
  have HW3 := Lib.hid (HWC.out.below hB3 (Nat.le_refl _))
  clear hB3 q0 q1 q2 q3 q4 q5 ql x1 xl
  have HOK := Lib.hid hokg
  have q0 := HW3.out.at 0 rfl
  have q1 := HW3.out.at 1 rfl
  have q2 := HW3.out.at 2 rfl
  have q3 := HW3.out.at 3 rfl
  have q5 := HW3.out.at 5 rfl
  have ql := HW3.out.lt
  have x1 := HM3.out.blk.at 1 rfl
  have xl := HM3.out.blk.lt
  cases hv : c.valid with
  | false =>
    have HP : Hid (g.heed c = (g, 1)) := Lib.hid (by unfold FS.heed; rw [if_pos (.inl hv)])
    go_upto_region 3 with fail
    have HM := HM3
    have HKN := Lib.hid HM3.out.blk
    have HRN := Lib.hid HM3.out.res
    clear q0 q1 q2 q3 q5 ql x1 xl
    have x0 := HKN.out.at 0 rfl
    have x1 := HKN.out.at 1 rfl
    have x2 := HKN.out.at 2 rfl
    have x3 := HKN.out.at 3 rfl
    have x4 := HKN.out.at 4 rfl
    have x5 := HKN.out.at 5 rfl
    have x6 := HKN.out.at 6 rfl
    have x7 := HKN.out.at 7 rfl
    have x8 := HKN.out.at 8 rfl
    have x9 := HKN.out.at 9 rfl
    have x10 := HKN.out.at 10 rfl
    have x11 := HKN.out.at 11 rfl
    have x12 := HKN.out.at 12 rfl
    have x13 := HKN.out.at 13 rfl
    have x14 := HKN.out.lt
    have d0 := HRN.out.at 0 rfl
    have d1 := HRN.out.at 1 rfl
    have d2 := HRN.out.at 2 rfl
    have d3 := HRN.out.at 3 rfl
    have d4 := HRN.out.at 4 rfl
    have d5 := HRN.out.at 5 rfl
    have d6 := HRN.out.at 6 rfl
    have d7 := HRN.out.at 7 rfl
    have d8 := HRN.out.at 8 rfl
    have d9 := HRN.out.at 9 rfl
    have d10 := HRN.out.at 10 rfl
    have d11 := HRN.out.at 11 rfl
    have d12 := HRN.out.at 12 rfl
    have d13 := HRN.out.at 13 rfl
    have e0 := HRN.out.free 0
    have e1 := HRN.out.free 1
    have e2 := HRN.out.free 2
    have e3 := HRN.out.free 3
    have e4 := HRN.out.free 4
    have e5 := HRN.out.free 5
    have e6 := HRN.out.free 6
    have e7 := HRN.out.free 7
    have e8 := HRN.out.free 8
    have e9 := HRN.out.free 9
    have e10 := HRN.out.free 10
    have e11 := HRN.out.free 11
    have e12 := HRN.out.free 12
    have e13 := HRN.out.free 13
    have d14 := HRN.out.lt
    go_wp2_with fail
    have hb := fin14_blk HRN.out rfl (.int .i64 g.craft) (.int .i64 g.chan) (.int .i64 (g.size : Int)) (.int .i64 g.tmo) (.int .i64 (g.ret : Int)) (.int .i64 (g.state : Int)) (.slice aU nU cU) (.int .i64 (g.acked : Int)) (.int .i64 (g.flight : Int)) (.int .i64 (g.front : Int)) (.slice aC nC cC) (.int .i64 g.now) (.int .i64 g.timer) (.int .i64 (g.count : Int))
    unfold fin14 at hb
    have HRR := Lib.hid hb
    clear hb
    have b0 := HRR.out.at 0 rfl
    have b1 := HRR.out.at 1 rfl
    have b2 := HRR.out.at 2 rfl
    have b3 := HRR.out.at 3 rfl
    have b4 := HRR.out.at 4 rfl
    have b5 := HRR.out.at 5 rfl
    have b6 := HRR.out.at 6 rfl
    have b7 := HRR.out.at 7 rfl
    have b8 := HRR.out.at 8 rfl
    have b9 := HRR.out.at 9 rfl
    have b10 := HRR.out.at 10 rfl
    have b11 := HRR.out.at 11 rfl
    have b12 := HRR.out.at 12 rfl
    have b13 := HRR.out.at 13 rfl
    refine bodyPost_ret (v := .tuple #[.agg #[.int .i64 g.craft, .int .i64 g.chan, .int .i64 (g.size : Int), .int .i64 g.tmo, .int .i64 (g.ret : Int), .int .i64 (g.state : Int), (.slice aU nU cU), .int .i64 (g.acked : Int), .int .i64 (g.flight : Int), .int .i64 (g.front : Int), (.slice aC nC cC), .int .i64 g.now, .int .i64 g.timer, .int .i64 (g.count : Int)], .int .i64 1]) (by simp [results, Try.results26, go_sem, b0, b1, b2, b3, b4, b5, b6, b7, b8, b9, b10, b11, b12, b13]) rfl ?_
    exact RM.leave HM.out HP.out _ _ _ _ _ _ _ _ _ _ _ _ _ _
  | true =>
    by_cases hch : c.chan = g.chan
    · have HCH := Lib.hid hch
      have HV := Lib.hid hv
      have e1 : (c.chan == g.chan) = true := by rw [hch]; simp
      cases hlk : c.lock with
      | true =>
        have HP0 : Hid (g.heed c = ({ g with state := 3 }, 14)) := Lib.hid (by unfold FS.heed; rw [if_neg (by rw [hv, hch]; simp), if_pos hlk])
        rw [hlk] at q1
        clear hch hv hlk
        have x5 := HM3.out.blk.at 5 rfl
        have y5 := HM3.out.blk.free 5
        go_upto_region 6 with fail
        obtain ⟨g1, hg1⟩ : ∃ g1, g1 = { g with state := 3 } := ⟨_, rfl⟩
        obtain ⟨w5, hw5⟩ : ∃ w5, w5 = w3.setCell ⟨w.heap.size, 5, none⟩ (.int .i64 3) := ⟨_, rfl⟩
        rw [← hw5]
        have hF5 : Fr (fun k => k = w.heap.size) w3 w5 := by rw [hw5]; exact frs (Fr.refl _ _) _ _
        have HM : Hid (RM 3 S w w5 w.heap.size (w.heap.size + 2) g1 (.slice aU nU cU) (.slice aC nC cC)) := Lib.hid (HM3.out.num hF5 (by rw [hw5, hg1]; exact Blk.cast (HM3.out.blk.setCell 5 _) rfl) (by rw [hg1]) (by rw [hg1]))
        have HP : Hid (g.heed c = (g1, 14)) := Lib.hid (by rw [HP0.out, hg1])
        have HKN := Lib.hid HM.out.blk
        have HRN := Lib.hid HM.out.res
        clear hg1 hw5 hF5
        clear q0 q1 q2 q3 q5 ql x1 xl x5 y5
        have x0 := HKN.out.at 0 rfl
        have x1 := HKN.out.at 1 rfl
        have x2 := HKN.out.at 2 rfl
        have x3 := HKN.out.at 3 rfl
        have x4 := HKN.out.at 4 rfl
        have x5 := HKN.out.at 5 rfl
        have x6 := HKN.out.at 6 rfl
        have x7 := HKN.out.at 7 rfl
        have x8 := HKN.out.at 8 rfl
        have x9 := HKN.out.at 9 rfl
        have x10 := HKN.out.at 10 rfl
        have x11 := HKN.out.at 11 rfl
        have x12 := HKN.out.at 12 rfl
        have x13 := HKN.out.at 13 rfl
        have x14 := HKN.out.lt
        have d0 := HRN.out.at 0 rfl
        have d1 := HRN.out.at 1 rfl
        have d2 := HRN.out.at 2 rfl
        have d3 := HRN.out.at 3 rfl
        have d4 := HRN.out.at 4 rfl
        have d5 := HRN.out.at 5 rfl
        have d6 := HRN.out.at 6 rfl
        have d7 := HRN.out.at 7 rfl
        have d8 := HRN.out.at 8 rfl
        have d9 := HRN.out.at 9 rfl
        have d10 := HRN.out.at 10 rfl
        have d11 := HRN.out.at 11 rfl
        have d12 := HRN.out.at 12 rfl
        have d13 := HRN.out.at 13 rfl
        have e0 := HRN.out.free 0
        have e1 := HRN.out.free 1
        have e2 := HRN.out.free 2
        have e3 := HRN.out.free 3
        have e4 := HRN.out.free 4
        have e5 := HRN.out.free 5
        have e6 := HRN.out.free 6
        have e7 := HRN.out.free 7
        have e8 := HRN.out.free 8
        have e9 := HRN.out.free 9
        have e10 := HRN.out.free 10
        have e11 := HRN.out.free 11
        have e12 := HRN.out.free 12
        have e13 := HRN.out.free 13
        have d14 := HRN.out.lt
        go_wp2_with fail
        have hb := fin14_blk HRN.out rfl (.int .i64 g1.craft) (.int .i64 g1.chan) (.int .i64 (g1.size : Int)) (.int .i64 g1.tmo) (.int .i64 (g1.ret : Int)) (.int .i64 (g1.state : Int)) (.slice aU nU cU) (.int .i64 (g1.acked : Int)) (.int .i64 (g1.flight : Int)) (.int .i64 (g1.front : Int)) (.slice aC nC cC) (.int .i64 g1.now) (.int .i64 g1.timer) (.int .i64 (g1.count : Int))
        unfold fin14 at hb
        have HRR := Lib.hid hb
        clear hb
        have b0 := HRR.out.at 0 rfl
        have b1 := HRR.out.at 1 rfl
        have b2 := HRR.out.at 2 rfl
        have b3 := HRR.out.at 3 rfl
        have b4 := HRR.out.at 4 rfl
        have b5 := HRR.out.at 5 rfl
        have b6 := HRR.out.at 6 rfl
        have b7 := HRR.out.at 7 rfl
        have b8 := HRR.out.at 8 rfl
        have b9 := HRR.out.at 9 rfl
        have b10 := HRR.out.at 10 rfl
        have b11 := HRR.out.at 11 rfl
        have b12 := HRR.out.at 12 rfl
        have b13 := HRR.out.at 13 rfl
        refine bodyPost_ret (v := .tuple #[.agg #[.int .i64 g1.craft, .int .i64 g1.chan, .int .i64 (g1.size : Int), .int .i64 g1.tmo, .int .i64 (g1.ret : Int), .int .i64 (g1.state : Int), (.slice aU nU cU), .int .i64 (g1.acked : Int), .int .i64 (g1.flight : Int), .int .i64 (g1.front : Int), (.slice aC nC cC), .int .i64 g1.now, .int .i64 g1.timer, .int .i64 (g1.count : Int)], .int .i64 14]) (by simp [results, Try.results26, go_sem, b0, b1, b2, b3, b4, b5, b6, b7, b8, b9, b10, b11, b12, b13]) rfl ?_
        exact RM.leave HM.out HP.out _ _ _ _ _ _ _ _ _ _ _ _ _ _
      | false =>
        have hvv : 0 ≤ c.next ∧ c.next ≤ 255 := by
          have h9 := hv
          unfold Cw.valid at h9
          simp only [Bool.and_eq_true, decide_eq_true_eq] at h9
          omega
        have HLK := Lib.hid hlk
        rw [hlk] at q1
        obtain ⟨d, hd⟩ : ∃ d, d = g.dist c.next := ⟨_, rfl⟩
        have hd9 : d < 256 := by rw [hd]; exact g.dist_le _
        have hdi : (c.next + 256 - (g.acked : Int) % 256) % 256 = (d : Int) := by rw [hd]; unfold FS.dist; omega
        have HD := Lib.hid hd
        have i1 : 0 ≤ c.next + 256 - (g.acked : Int) % 256 := by omega
        have i2 : (g.acked : Int) ≤ 1000000000 := by omega
        have x7 := HM3.out.blk.at 7 rfl
        have x9 := HM3.out.blk.at 9 rfl
        obtain ⟨hv1, hv2⟩ := hvv
        clear hch hv hlk hd
        go_upto_region 8 with fail
        rw [hdi]
        clear hdi i1 q1
        by_cases hdf : g.front < d
        · have HP0 : Hid (g.heed c = ({ g with state := 4 }, 12)) := Lib.hid (by unfold FS.heed; rw [if_neg (by rw [HV.out, HCH.out]; simp), if_neg (by rw [HLK.out]; simp), if_pos (by rw [← HD.out]; exact hdf)])
          have e2 : (g.front : Int) < (d : Int) := by omega
          have x5 := HM3.out.blk.at 5 rfl
          have y5 := HM3.out.blk.free 5
          go_upto_region 10 with fail
          obtain ⟨g1, hg1⟩ : ∃ g1, g1 = { g with state := 4 } := ⟨_, rfl⟩
          obtain ⟨w5, hw5⟩ : ∃ w5, w5 = w3.setCell ⟨w.heap.size, 5, none⟩ (.int .i64 4) := ⟨_, rfl⟩
          rw [← hw5]
          have hF5 : Fr (fun k => k = w.heap.size) w3 w5 := by rw [hw5]; exact frs (Fr.refl _ _) _ _
          have HM : Hid (RM 3 S w w5 w.heap.size (w.heap.size + 2) g1 (.slice aU nU cU) (.slice aC nC cC)) := Lib.hid (HM3.out.num hF5 (by rw [hw5, hg1]; exact Blk.cast (HM3.out.blk.setCell 5 _) rfl) (by rw [hg1]) (by rw [hg1]))
          have HP : Hid (g.heed c = (g1, 12)) := Lib.hid (by rw [HP0.out, hg1])
          have HKN := Lib.hid HM.out.blk
          have HRN := Lib.hid HM.out.res
          clear hg1 hw5 hF5
          clear q0 q2 q3 q5 ql x1 xl x5 y5 x7 x9
          have x0 := HKN.out.at 0 rfl
          have x1 := HKN.out.at 1 rfl
          have x2 := HKN.out.at 2 rfl
          have x3 := HKN.out.at 3 rfl
          have x4 := HKN.out.at 4 rfl
          have x5 := HKN.out.at 5 rfl
          have x6 := HKN.out.at 6 rfl
          have x7 := HKN.out.at 7 rfl
          have x8 := HKN.out.at 8 rfl
          have x9 := HKN.out.at 9 rfl
          have x10 := HKN.out.at 10 rfl
          have x11 := HKN.out.at 11 rfl
          have x12 := HKN.out.at 12 rfl
          have x13 := HKN.out.at 13 rfl
          have x14 := HKN.out.lt
          have d0 := HRN.out.at 0 rfl
          have d1 := HRN.out.at 1 rfl
          have d2 := HRN.out.at 2 rfl
          have d3 := HRN.out.at 3 rfl
          have d4 := HRN.out.at 4 rfl
          have d5 := HRN.out.at 5 rfl
          have d6 := HRN.out.at 6 rfl
          have d7 := HRN.out.at 7 rfl
          have d8 := HRN.out.at 8 rfl
          have d9 := HRN.out.at 9 rfl
          have d10 := HRN.out.at 10 rfl
          have d11 := HRN.out.at 11 rfl
          have d12 := HRN.out.at 12 rfl
          have d13 := HRN.out.at 13 rfl
          have e0 := HRN.out.free 0
          have e1 := HRN.out.free 1
          have e2 := HRN.out.free 2
          have e3 := HRN.out.free 3
          have e4 := HRN.out.free 4
          have e5 := HRN.out.free 5
          have e6 := HRN.out.free 6
          have e7 := HRN.out.free 7
          have e8 := HRN.out.free 8
          have e9 := HRN.out.free 9
          have e10 := HRN.out.free 10
          have e11 := HRN.out.free 11
          have e12 := HRN.out.free 12
          have e13 := HRN.out.free 13
          have d14 := HRN.out.lt
          go_wp2_with fail
          have hb := fin14_blk HRN.out rfl (.int .i64 g1.craft) (.int .i64 g1.chan) (.int .i64 (g1.size : Int)) (.int .i64 g1.tmo) (.int .i64 (g1.ret : Int)) (.int .i64 (g1.state : Int)) (.slice aU nU cU) (.int .i64 (g1.acked : Int)) (.int .i64 (g1.flight : Int)) (.int .i64 (g1.front : Int)) (.slice aC nC cC) (.int .i64 g1.now) (.int .i64 g1.timer) (.int .i64 (g1.count : Int))
          unfold fin14 at hb
          have HRR := Lib.hid hb
          clear hb
          have b0 := HRR.out.at 0 rfl
          have b1 := HRR.out.at 1 rfl
          have b2 := HRR.out.at 2 rfl
          have b3 := HRR.out.at 3 rfl
          have b4 := HRR.out.at 4 rfl
          have b5 := HRR.out.at 5 rfl
          have b6 := HRR.out.at 6 rfl
          have b7 := HRR.out.at 7 rfl
          have b8 := HRR.out.at 8 rfl
          have b9 := HRR.out.at 9 rfl
          have b10 := HRR.out.at 10 rfl
          have b11 := HRR.out.at 11 rfl
          have b12 := HRR.out.at 12 rfl
          have b13 := HRR.out.at 13 rfl
          refine bodyPost_ret (v := .tuple #[.agg #[.int .i64 g1.craft, .int .i64 g1.chan, .int .i64 (g1.size : Int), .int .i64 g1.tmo, .int .i64 (g1.ret : Int), .int .i64 (g1.state : Int), (.slice aU nU cU), .int .i64 (g1.acked : Int), .int .i64 (g1.flight : Int), .int .i64 (g1.front : Int), (.slice aC nC cC), .int .i64 g1.now, .int .i64 g1.timer, .int .i64 (g1.count : Int)], .int .i64 12]) (by simp [results, Try.results26, go_sem, b0, b1, b2, b3, b4, b5, b6, b7, b8, b9, b10, b11, b12, b13]) rfl ?_
          exact RM.leave HM.out HP.out _ _ _ _ _ _ _ _ _ _ _ _ _ _
        · have HP0 : Hid (g.heed c = ((((g.ack d).reset (decide (0 < d))).again c.retr).hold c.wait, 0)) := Lib.hid (by unfold FS.heed; rw [if_neg (by rw [HV.out, HCH.out]; simp), if_neg (by rw [HLK.out]; simp), if_neg (by rw [← HD.out]; exact hdf), HD.out])
          have e2 : ¬ (g.front : Int) < (d : Int) := by omega
          have hsz := HOK.out.size
          have hfr := HOK.out.front
          have hfl := HOK.out.flight
          have hun := HOK.out.units
          have hgu : g.units = f.units := by rw [HG.out]; rfl
          have hdn : d ≤ nU := by rw [HNU.out, ← hgu]; omega
          obtain ⟨ak, hak⟩ : ∃ k, k = g.acked + d := ⟨_, rfl⟩
          obtain ⟨fr, hfr2⟩ : ∃ k, k = g.front - d := ⟨_, rfl⟩
          obtain ⟨fl, hfl2⟩ : ∃ k, k = g.flight - d := ⟨_, rfl⟩
          obtain ⟨n1, hn1⟩ : ∃ k, k = nU - d := ⟨_, rfl⟩
          obtain ⟨c1, hc1⟩ : ∃ k, k = cU - d := ⟨_, rfl⟩
          have j1 : (g.acked : Int) + (d : Int) = (ak : Int) := by omega
          have j2 : (g.front : Int) - (d : Int) = (fr : Int) := by omega
          have j3 : max ((g.flight : Int) - (d : Int)) 0 = (fl : Int) := by omega
          obtain ⟨-, cu', e9, hcu, hcm⟩ : ∃ (_ : True) (c' : Nat), c' = cU ∧ nU ≤ c' ∧ c' ≤ maxLen := by
            obtain ⟨a', c', e, h1, h2⟩ := HM3.out.un.len
            simp only [Value.slice.injEq] at e
            exact ⟨trivial, c', e.2.2.symm, by rw [e.2.1]; exact h1, h2⟩
          subst e9
          have j4 : (d : Int) ≤ (cu' : Int) := by omega
          have j5 : (0 : Int) ≤ (d : Int) := by omega
          have j6 : (g.front : Int) ≤ 127 := by omega
          have j7 : (g.flight : Int) ≤ 127 := by omega
          obtain ⟨g1, hg1⟩ : ∃ g1, g1 = { g with units := g.units.drop d, acked := ak, front := fr, flight := fl } := ⟨_, rfl⟩
          have HACK : Hid (g.ack d = g1) := Lib.hid (by rw [hg1, hak, hfr2, hfl2]; rfl)
          have HUD := Lib.hid (HM3.out.un.drop d hdn)
          rw [← hn1, ← hc1] at HUD
          have HN1 := Lib.hid hn1
          have HC1 := Lib.hid hc1
          have HDN := Lib.hid hdn
          clear hak hfr2 hfl2 hgu hsz hfr hfl hun hn1 hc1
          have x6 := HM3.out.blk.at 6 rfl
          have x8 := HM3.out.blk.at 8 rfl
          have y6 := HM3.out.blk.free 6
          have y7 := HM3.out.blk.free 7
          have y8 := HM3.out.blk.free 8
          have y9 := HM3.out.blk.free 9
          go_upto_region 15 with fail
          obtain ⟨A1, hA1⟩ : ∃ A, (if cu' = d then aU else Option.map (fun x => x.add d) aU) = A := ⟨_, rfl⟩
          rw [hA1] at HUD
          rw [hA1, ← HN1.out, ← HC1.out]
          obtain ⟨w5, hw5⟩ : ∃ w5, w5 = (((w3.setCell ⟨w.heap.size, 6, none⟩ (.slice A1 n1 c1)).setCell ⟨w.heap.size, 7, none⟩ (.int .i64 (ak : Int))).setCell ⟨w.heap.size, 9, none⟩ (.int .i64 (fr : Int))).setCell ⟨w.heap.size, 8, none⟩ (.int .i64 (fl : Int)) := ⟨_, rfl⟩
          rw [← hw5]
          have hF5 : Fr (fun k => k = w.heap.size) w3 w5 := by rw [hw5]; exact frs (frs (frs (frs (Fr.refl _ _) _ _) _ _) _ _) _ _
          have hk5 : Blk w5 w.heap.size 54 (rfc g1 (.slice A1 n1 c1) (.slice aC nC cC)) := by rw [hw5, hg1]; exact Blk.cast ((((HM3.out.blk.setCell 6 _).setCell 7 _).setCell 9 _).setCell 8 _) rfl
          have HM5 : Hid (RM 3 S w w5 w.heap.size (w.heap.size + 2) g1 (.slice A1 n1 c1) (.slice aC nC cC)) := Lib.hid (HM3.out.put hF5 hk5 (by rw [hg1]; exact HUD.out.fr hF5 (fun k hk => .inl (.inr (by omega)))) (by rw [hg1]; exact HM3.out.ct.fr hF5 (fun k hk => .inl (.inr (by omega)))))
          have HW5 := Lib.hid (HW3.out.fr hF5 (by omega))
          clear hA1 hw5 hF5 hk5 hg1 x1 xl x6 x7 x8 x9 y6 y7 y8 y9 q0 q2 q3 q5 ql j1 j2 j3 j4
          obtain ⟨g2, hg2⟩ : ∃ g2, g2 = g1.reset (decide (0 < d)) := ⟨_, rfl⟩
          have HG2 := Lib.hid hg2
          clear hg2
          go_upto_if 63 with fail
          go_cut [] (fun wx => RM 3 S w wx w.heap.size (w.heap.size + 2) g2 (.slice A1 n1 c1) (.slice aC nC cC) ∧ Blk wx (w.heap.size + 1) 40 (cwC c))
          case first =>
            by_cases hd0 : 0 < d
            · have e3 : (0 : Int) < (d : Int) := by omega
              have HGG : Hid (g2 = { g1 with count := 0, timer := g1.now }) := Lib.hid (by rw [HG2.out, decide_eq_true hd0]; rfl)
              have x11 := HM5.out.blk.at 11 rfl
              have x12 := HM5.out.blk.at 12 rfl
              have x13 := HM5.out.blk.at 13 rfl
              have y12 := HM5.out.blk.free 12
              have y13 := HM5.out.blk.free 13
              have xl := HM5.out.blk.lt
              clear hd0
              go_wp2_with fail
              go_meet
              case rel =>
                have hF : Fr (fun k => k = w.heap.size) w5 ((w5.setCell ⟨w.heap.size, 13, none⟩ (.int .i64 0)).setCell ⟨w.heap.size, 12, none⟩ (.int .i64 g1.now)) := frs (frs (Fr.refl _ _) _ _) _ _
                exact ⟨HM5.out.num hF (by rw [HGG.out]; exact Blk.cast ((HM5.out.blk.setCell 13 _).setCell 12 _) rfl) (by rw [HGG.out]) (by rw [HGG.out]), HW5.out.fr hF (by omega)⟩
            · have e3 : ¬ (0 : Int) < (d : Int) := by omega
              have HGG : Hid (g2 = g1) := Lib.hid (by rw [HG2.out, decide_eq_false hd0]; rfl)
              clear hd0
              go_wp2_with fail
              go_meet
              case rel => exact ⟨by rw [HGG.out]; exact HM5.out, HW5.out⟩
          case rest =>
            obtain ⟨hc1', hc2'⟩ := hcut
            obtain ⟨w7, hw7⟩ : ∃ w7, w7 = wc := ⟨wc, rfl⟩
            subst hw7
            have HM7 := Lib.hid hc1'
            have HW7 := Lib.hid hc2'
            obtain ⟨rt, hrt⟩ : ∃ rt, rt = c.retr := ⟨_, rfl⟩
            have q3 : w7.cell? ⟨w.heap.size + 1, 3, none⟩ = some (.bool rt) := hc2'.at 3 (by rw [hrt]; rfl)
            have ql := hc2'.lt
            have HRT := Lib.hid hrt
            obtain ⟨g3, hg3⟩ : ∃ g3, g3 = g2.again rt := ⟨_, rfl⟩
            have HG3 := Lib.hid hg3
            have x8 := HM7.out.blk.at 8 rfl
            have y8 := HM7.out.blk.free 8
            have xl := HM7.out.blk.lt
            clear hg3 hrt hc1' hc2'
            go_upto_if 69 with fail
            go_cut [] (fun wx => RM 3 S w wx w.heap.size (w.heap.size + 2) g3 (.slice A1 n1 c1) (.slice aC nC cC) ∧ Blk wx (w.heap.size + 1) 40 (cwC c))
            case first =>
              cases rt with
              | true =>
                have HGG : Hid (g3 = { g2 with flight := 0 }) := Lib.hid (by rw [HG3.out]; rfl)
                go_wp2_with fail
                go_meet
                case rel =>
                  have hF : Fr (fun k => k = w.heap.size) w7 (w7.setCell ⟨w.heap.size, 8, none⟩ (.int .i64 0)) := frs (Fr.refl _ _) _ _
                  exact ⟨HM7.out.num hF (by rw [HGG.out]; exact Blk.cast (HM7.out.blk.setCell 8 _) rfl) (by rw [HGG.out]) (by rw [HGG.out]), HW7.out.fr hF (by omega)⟩
              | false =>
                have HGG : Hid (g3 = g2) := Lib.hid (by rw [HG3.out]; rfl)
                go_wp2_with fail
                go_meet
                case rel => exact ⟨by rw [HGG.out]; exact HM7.out, HW7.out⟩
            case rest =>
              clear q3 ql x8 y8 xl
              obtain ⟨hc1', hc2'⟩ := hcut
              obtain ⟨w8, hw8⟩ : ∃ w8, w8 = wc := ⟨wc, rfl⟩
              subst hw8
              have HM8 := Lib.hid hc1'
              have HW8 := Lib.hid hc2'
              obtain ⟨wt, hwt⟩ : ∃ wt, wt = c.wait := ⟨_, rfl⟩
              have q2 : w8.cell? ⟨w.heap.size + 1, 2, none⟩ = some (.bool wt) := hc2'.at 2 (by rw [hwt]; rfl)
              have ql := hc2'.lt
              obtain ⟨g4, hg4⟩ : ∃ g4, g4 = g3.hold wt := ⟨_, rfl⟩
              have HG4 := Lib.hid hg4
              have HP : Hid (g.heed c = (g4, 0)) := Lib.hid (by rw [HP0.out, HG4.out, HACK.out, ← HG2.out, ← HRT.out, ← HG3.out, hwt])
              obtain ⟨st, hst⟩ : ∃ st, st = g3.state := ⟨_, rfl⟩
              have HST := Lib.hid hst
              have x5 : w8.cell? ⟨w.heap.size, 5, none⟩ = some (.int .i64 (st : Int)) := by rw [hst]; exact HM8.out.blk.at 5 rfl
              have y5 := HM8.out.blk.free 5
              have xl := HM8.out.blk.lt
              clear hg4 hwt hc1' hc2' hst
              obtain ⟨hb, hhb⟩ : ∃ hb, hb = (decide (st = 1) || decide (st = 2)) := ⟨_, rfl⟩
              have HHB := Lib.hid hhb
              have HBT : Hid (hb = true → g3.state = 1 ∨ g3.state = 2) := Lib.hid (fun h => by rw [hhb, HST.out] at h; simpa using h)
              have HBF : Hid (hb = false → ¬ (g3.state = 1 ∨ g3.state = 2)) := Lib.hid (fun h => by rw [hhb, HST.out] at h; simpa using h)
              clear hhb
              go_upto_region 20 with fail
              go_cut [78] (fun v78 wx => v78 = .bool hb ∧ wx = w8)
              case first =>
                by_cases hs1 : st = 1
                · have e5 : ((st : Int) == 1) = true := by rw [hs1]; rfl
                  have e7 : hb = true := by rw [HHB.out, hs1]; rfl
                  go_wp2_with fail
                  go_meet
                  case rel => exact ⟨by rw [e7], rfl⟩
                by_cases hs2 : st = 2
                · have e5 : ((st : Int) == 1) = false := by rw [beq_eq_false_iff_ne]; omega
                  have e6 : ((st : Int) == 2) = true := by rw [hs2]; rfl
                  have e7 : hb = true := by rw [HHB.out, hs2]; rfl
                  go_wp2_with fail
                  go_meet
                  case rel => exact ⟨by rw [e7], rfl⟩
                · have e5 : ((st : Int) == 1) = false := by rw [beq_eq_false_iff_ne]; omega
                  have e6 : ((st : Int) == 2) = false := by rw [beq_eq_false_iff_ne]; omega
                  have e7 : hb = false := by rw [HHB.out, decide_eq_false hs1, decide_eq_false hs2]; rfl
                  go_wp2_with fail
                  go_meet
                  case rel => exact ⟨by rw [e7], rfl⟩
              case rest =>
                obtain ⟨rfl, hwc⟩ := hcut
                obtain rfl := hwc.symm
                go_upto_if 78 with fail
                go_cut [] (fun wx => RM 3 S w wx w.heap.size (w.heap.size + 2) g4 (.slice A1 n1 c1) (.slice aC nC cC))
                case first =>
                  cases hb with
                  | true =>
                    have HOR := Lib.hid (HBT.out rfl)
                    cases wt with
                    | true =>
                      have HG : Hid (g4 = { g3 with state := 2 }) := Lib.hid (by rw [HG4.out]; unfold FS.hold; rw [if_pos HOR.out]; rfl)
                      go_wp2_with fail
                      go_meet
                      case rel =>
                        have hF : Fr (fun k => k = w.heap.size) w8 ((w8.setCell ⟨w.heap.size, 5, none⟩ (.int .i64 1)).setCell ⟨w.heap.size, 5, none⟩ (.int .i64 2)) := frs (frs (Fr.refl _ _) _ _) _ _
                        exact HM8.out.num hF (by rw [HG.out]; exact Blk.cast ((HM8.out.blk.setCell 5 _).setCell 5 _) rfl) (by rw [HG.out]) (by rw [HG.out])
                    | false =>
                      have HG : Hid (g4 = { g3 with state := 1 }) := Lib.hid (by rw [HG4.out]; unfold FS.hold; rw [if_pos HOR.out]; rfl)
                      go_wp2_with fail
                      go_meet
                      case rel =>
                        have hF : Fr (fun k => k = w.heap.size) w8 (w8.setCell ⟨w.heap.size, 5, none⟩ (.int .i64 1)) := frs (Fr.refl _ _) _ _
                        exact HM8.out.num hF (by rw [HG.out]; exact Blk.cast (HM8.out.blk.setCell 5 _) rfl) (by rw [HG.out]) (by rw [HG.out])
                  | false =>
                    have HG : Hid (g4 = g3) := Lib.hid (by rw [HG4.out]; unfold FS.hold; rw [if_neg (HBF.out rfl)])
                    go_wp2_with fail
                    go_meet
                    case rel => rw [HG.out]; exact HM8.out
                case rest =>
                  clear q2 ql x5 y5 xl
                  have HM := Lib.hid hcut
                  have HKN := Lib.hid HM.out.blk
                  have HRN := Lib.hid HM.out.res
                  clear hcut
                  go_upto_region 24 with fail
                  have x0 := HKN.out.at 0 rfl
                  have x1 := HKN.out.at 1 rfl
                  have x2 := HKN.out.at 2 rfl
                  have x3 := HKN.out.at 3 rfl
                  have x4 := HKN.out.at 4 rfl
                  have x5 := HKN.out.at 5 rfl
                  have x6 := HKN.out.at 6 rfl
                  have x7 := HKN.out.at 7 rfl
                  have x8 := HKN.out.at 8 rfl
                  have x9 := HKN.out.at 9 rfl
                  have x10 := HKN.out.at 10 rfl
                  have x11 := HKN.out.at 11 rfl
                  have x12 := HKN.out.at 12 rfl
                  have x13 := HKN.out.at 13 rfl
                  have x14 := HKN.out.lt
                  have d0 := HRN.out.at 0 rfl
                  have d1 := HRN.out.at 1 rfl
                  have d2 := HRN.out.at 2 rfl
                  have d3 := HRN.out.at 3 rfl
                  have d4 := HRN.out.at 4 rfl
                  have d5 := HRN.out.at 5 rfl
                  have d6 := HRN.out.at 6 rfl
                  have d7 := HRN.out.at 7 rfl
                  have d8 := HRN.out.at 8 rfl
                  have d9 := HRN.out.at 9 rfl
                  have d10 := HRN.out.at 10 rfl
                  have d11 := HRN.out.at 11 rfl
                  have d12 := HRN.out.at 12 rfl
                  have d13 := HRN.out.at 13 rfl
                  have e0 := HRN.out.free 0
                  have e1 := HRN.out.free 1
                  have e2 := HRN.out.free 2
                  have e3 := HRN.out.free 3
                  have e4 := HRN.out.free 4
                  have e5 := HRN.out.free 5
                  have e6 := HRN.out.free 6
                  have e7 := HRN.out.free 7
                  have e8 := HRN.out.free 8
                  have e9 := HRN.out.free 9
                  have e10 := HRN.out.free 10
                  have e11 := HRN.out.free 11
                  have e12 := HRN.out.free 12
                  have e13 := HRN.out.free 13
                  have d14 := HRN.out.lt
                  go_wp2_with fail
                  have hb := fin14_blk HRN.out rfl (.int .i64 g4.craft) (.int .i64 g4.chan) (.int .i64 (g4.size : Int)) (.int .i64 g4.tmo) (.int .i64 (g4.ret : Int)) (.int .i64 (g4.state : Int)) (.slice A1 n1 c1) (.int .i64 (g4.acked : Int)) (.int .i64 (g4.flight : Int)) (.int .i64 (g4.front : Int)) (.slice aC nC cC) (.int .i64 g4.now) (.int .i64 g4.timer) (.int .i64 (g4.count : Int))
                  unfold fin14 at hb
                  have HRR := Lib.hid hb
                  clear hb
                  have b0 := HRR.out.at 0 rfl
                  have b1 := HRR.out.at 1 rfl
                  have b2 := HRR.out.at 2 rfl
                  have b3 := HRR.out.at 3 rfl
                  have b4 := HRR.out.at 4 rfl
                  have b5 := HRR.out.at 5 rfl
                  have b6 := HRR.out.at 6 rfl
                  have b7 := HRR.out.at 7 rfl
                  have b8 := HRR.out.at 8 rfl
                  have b9 := HRR.out.at 9 rfl
                  have b10 := HRR.out.at 10 rfl
                  have b11 := HRR.out.at 11 rfl
                  have b12 := HRR.out.at 12 rfl
                  have b13 := HRR.out.at 13 rfl
                  refine bodyPost_ret (v := .tuple #[.agg #[.int .i64 g4.craft, .int .i64 g4.chan, .int .i64 (g4.size : Int), .int .i64 g4.tmo, .int .i64 (g4.ret : Int), .int .i64 (g4.state : Int), (.slice A1 n1 c1), .int .i64 (g4.acked : Int), .int .i64 (g4.flight : Int), .int .i64 (g4.front : Int), (.slice aC nC cC), .int .i64 g4.now, .int .i64 g4.timer, .int .i64 (g4.count : Int)], .int .i64 0]) (by simp [results, Try.results26, go_sem, b0, b1, b2, b3, b4, b5, b6, b7, b8, b9, b10, b11, b12, b13]) rfl ?_
                  exact RM.leave HM.out HP.out _ _ _ _ _ _ _ _ _ _ _ _ _ _
    · have HP : Hid (g.heed c = (g, 1)) := Lib.hid (by unfold FS.heed; rw [if_pos (.inr hch)])
      have e1 : (c.chan == g.chan) = false := by rw [beq_eq_false_iff_ne]; exact hch
      go_upto_region 3 with fail
      have HM := HM3
      have HKN := Lib.hid HM3.out.blk
      have HRN := Lib.hid HM3.out.res
      clear q0 q1 q2 q3 q5 ql x1 xl
      have x0 := HKN.out.at 0 rfl
      have x1 := HKN.out.at 1 rfl
      have x2 := HKN.out.at 2 rfl
      have x3 := HKN.out.at 3 rfl
      have x4 := HKN.out.at 4 rfl
      have x5 := HKN.out.at 5 rfl
      have x6 := HKN.out.at 6 rfl
      have x7 := HKN.out.at 7 rfl
      have x8 := HKN.out.at 8 rfl
      have x9 := HKN.out.at 9 rfl
      have x10 := HKN.out.at 10 rfl
      have x11 := HKN.out.at 11 rfl
      have x12 := HKN.out.at 12 rfl
      have x13 := HKN.out.at 13 rfl
      have x14 := HKN.out.lt
      have d0 := HRN.out.at 0 rfl
      have d1 := HRN.out.at 1 rfl
      have d2 := HRN.out.at 2 rfl
      have d3 := HRN.out.at 3 rfl
      have d4 := HRN.out.at 4 rfl
      have d5 := HRN.out.at 5 rfl
      have d6 := HRN.out.at 6 rfl
      have d7 := HRN.out.at 7 rfl
      have d8 := HRN.out.at 8 rfl
      have d9 := HRN.out.at 9 rfl
      have d10 := HRN.out.at 10 rfl
      have d11 := HRN.out.at 11 rfl
      have d12 := HRN.out.at 12 rfl
      have d13 := HRN.out.at 13 rfl
      have e0 := HRN.out.free 0
      have e1 := HRN.out.free 1
      have e2 := HRN.out.free 2
      have e3 := HRN.out.free 3
      have e4 := HRN.out.free 4
      have e5 := HRN.out.free 5
      have e6 := HRN.out.free 6
      have e7 := HRN.out.free 7
      have e8 := HRN.out.free 8
      have e9 := HRN.out.free 9
      have e10 := HRN.out.free 10
      have e11 := HRN.out.free 11
      have e12 := HRN.out.free 12
      have e13 := HRN.out.free 13
      have d14 := HRN.out.lt
      go_wp2_with fail
      have hb := fin14_blk HRN.out rfl (.int .i64 g.craft) (.int .i64 g.chan) (.int .i64 (g.size : Int)) (.int .i64 g.tmo) (.int .i64 (g.ret : Int)) (.int .i64 (g.state : Int)) (.slice aU nU cU) (.int .i64 (g.acked : Int)) (.int .i64 (g.flight : Int)) (.int .i64 (g.front : Int)) (.slice aC nC cC) (.int .i64 g.now) (.int .i64 g.timer) (.int .i64 (g.count : Int))
      unfold fin14 at hb
      have HRR := Lib.hid hb
      clear hb
      have b0 := HRR.out.at 0 rfl
      have b1 := HRR.out.at 1 rfl
      have b2 := HRR.out.at 2 rfl
      have b3 := HRR.out.at 3 rfl
      have b4 := HRR.out.at 4 rfl
      have b5 := HRR.out.at 5 rfl
      have b6 := HRR.out.at 6 rfl
      have b7 := HRR.out.at 7 rfl
      have b8 := HRR.out.at 8 rfl
      have b9 := HRR.out.at 9 rfl
      have b10 := HRR.out.at 10 rfl
      have b11 := HRR.out.at 11 rfl
      have b12 := HRR.out.at 12 rfl
      have b13 := HRR.out.at 13 rfl
      refine bodyPost_ret (v := .tuple #[.agg #[.int .i64 g.craft, .int .i64 g.chan, .int .i64 (g.size : Int), .int .i64 g.tmo, .int .i64 (g.ret : Int), .int .i64 (g.state : Int), (.slice aU nU cU), .int .i64 (g.acked : Int), .int .i64 (g.flight : Int), .int .i64 (g.front : Int), (.slice aC nC cC), .int .i64 g.now, .int .i64 g.timer, .int .i64 (g.count : Int)], .int .i64 1]) (by simp [results, Try.results26, go_sem, b0, b1, b2, b3, b4, b5, b6, b7, b8, b9, b10, b11, b12, b13]) rfl ?_
      exact RM.leave HM.out HP.out _ _ _ _ _ _ _ _ _ _ _ _ _ _
end Go.Proofs.Ytjiejpklcjpibaa

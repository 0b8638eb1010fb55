/- The reference's Next. No condition. -/
import Derived.Test.YtjiejpklcjpibaaAD
namespace Go.Proofs.Ytjiejpklcjpibaa
open Go.RowKit Go.Deep Go.ChangeShapes Go.WideShapes Go.ChangeAt
set_option linter.unusedVariables false

def z6 : List Value := [.bool false, .bool false, .int .i64 0, .int .i64 0, .int .i64 0, .slice none 0 0]
/-- what the reference's Next gives -/
def RNX (S : Nat → Prop) (w : World) (r : FS × Option Fm) (e : Ending) (w' : World) : Prop :=
  ∃ vU vC v, e = .returned (.tuple #[RFV r.1 vU vC, fmV (r.2.getD Fm.zero) v, .bool r.2.isSome]) ∧ SAt w' S vU r.1.units ∧ CAt w' S vC r.1.ctls ∧ Sl w' S v (r.2.getD Fm.zero).data ∧ Below w.heap.size w w'
theorem six_blk {w : World} {b : Nat} {T : TypeId} {xs : List Value} (h : Blk w b T xs) (hl : xs.length = 6) (x0 x1 x2 x3 x4 x5 : Value) : Blk (six w b x0 x1 x2 x3 x4 x5) b T [x0, x1, x2, x3, x4, x5] := by
  match xs, hl with
  | [c0, c1, c2, c3, c4, c5], _ =>
    exact Blk.cast ((((((h.setCell 0 x0).setCell 1 x1).setCell 2 x2).setCell 3 x3).setCell 4 x4).setCell 5 x5) rfl
theorem RM.leave3 {S : Nat → Prop} {w wx : World} {b br : Nat} {g : FS} {vU vC v : Value} {r : FS × Option Fm} {q : Option Fm} (h : RM 3 S w wx b br g vU vC) (hr : r = (g, q)) (hv : Sl wx (Sv 3 w S) v (q.getD Fm.zero).data) (x0 x1 x2 x3 x4 x5 x6 x7 x8 x9 x10 x11 x12 x13 u0 u1 u2 u3 u4 u5 : Value) :
    RNX S w r (.returned (.tuple #[RFV g vU vC, fmV (q.getD Fm.zero) v, .bool q.isSome])) (six (fin14 wx br x0 x1 x2 x3 x4 x5 x6 x7 x8 x9 x10 x11 x12 x13) (w.heap.size + 2) u0 u1 u2 u3 u4 u5) := by
  subst hr
  have hf := fin14_fr wx br x0 x1 x2 x3 x4 x5 x6 x7 x8 x9 x10 x11 x12 x13
  have hf2 := fr_six (fin14 wx br x0 x1 x2 x3 x4 x5 x6 x7 x8 x9 x10 x11 x12 x13) (w.heap.size + 2) u0 u1 u2 u3 u4 u5
  have h3 := h.hr
  have hff : Fr (fun k => k = br ∨ k = w.heap.size + 2) wx (six (fin14 wx br x0 x1 x2 x3 x4 x5 x6 x7 x8 x9 x10 x11 x12 x13) (w.heap.size + 2) u0 u1 u2 u3 u4 u5) := (hf.wide (fun k hk => .inl (.inl hk))).trans (hf2.wide (fun k hk => .inl (.inr hk)))
  have hT : ∀ k, (k = br ∨ k = w.heap.size + 2) → Sv 3 w S k ∨ wx.heap.size ≤ k := fun k hk => .inl (.inr (by omega))
  exact ⟨vU, vC, v, rfl, (h.un.fr hff hT).grow (fun k hk => .inl (.inl hk)), (h.ct.fr hff hT).grow (fun k hk => .inl (.inl hk)), (hv.fr hff hT).grow (fun k hk => .inl (.inl hk)), h.bel.trans (hff.toBelow h.bel.size (fun k hk => by omega))⟩
theorem sl_nil (w : World) (S : Nat → Prop) : Sl w S (.slice none 0 0) [] := ⟨none, 0, rfl, Nat.le_refl _, Nat.zero_le _, .inl rfl, fun _ h => by cases h⟩
set_option maxRecDepth 20000 in
set_option maxHeartbeats 4000000 in
/-- nothing to transmit: not active, or no unit -/
theorem rnext_idle (S : Nat → Prop) (f : FS) (vU vC : Value) (t : Int) (w : World) (hu : SAt w S vU f.units) (hc : CAt w S vC f.ctls) (hct : f.ctls = []) (hn : f.state ≠ 1 ∨ f.units = []) :
    Calls Try.prog 25 #[RFV f vU vC, .int .i64 t] w (RNX S w (f.next t)) := by
  obtain ⟨aU, cU, rfl, -, -⟩ := hu.len
  obtain ⟨aC, cC, rfl, -⟩ := id hc
  obtain ⟨nU, hnU⟩ : ∃ n, n = f.units.length := ⟨_, rfl⟩
  obtain ⟨nC, hnC⟩ : ∃ n, n = f.ctls.length := ⟨_, rfl⟩
  rw [← hnU] at hu ⊢
  rw [← hnC] at hc ⊢
  obtain ⟨wb, hwb⟩ : ∃ wb, wb = ((w.alloc (.cells (rfc f (.slice aU nU cU) (.slice aC nC cC)).toArray 54)).alloc (.cells z14.toArray 54)).alloc (.cells z6.toArray 33) := ⟨_, rfl⟩
  have HM : Hid (RM 3 S w wb w.heap.size (w.heap.size + 1) f (.slice aU nU cU) (.slice aC nC cC)) := Lib.hid (RM.start (N := 3) hu hc (by rw [hwb]; exact al (al (al (Below.refl _ _) _) _) _) (by rw [hwb]; exact ((Blk.new w 54 _).alloc _).alloc _) (by rw [hwb]; exact (Blk.newAt (by simp)).alloc _) (by omega) (by omega) (by omega))
  have HZ : Hid (Blk wb (w.heap.size + 2) 33 z6) := Lib.hid (by rw [hwb]; exact Blk.newAt (by simp))
  have HK := Lib.hid HM.out.blk
  have HR := Lib.hid HM.out.res
  have HNU := Lib.hid hnU
  have HNC := Lib.hid hnC
  obtain ⟨g, hg⟩ : ∃ g, g = f.clock t := ⟨_, rfl⟩
  have HG := Lib.hid hg
  have HST : Hid (g.step = f.next t) := Lib.hid (by rw [hg]; rfl)
  unfold rfc z14 z6 at hwb
  clear hu hc hnU hnC hg
  have HP : Hid (f.next t = (g, none)) := Lib.hid (by rw [← HST.out]; unfold FS.step; rw [show g.ctls = [] by rw [HG.out]; exact hct]; dsimp only; rw [if_pos (by rw [HG.out]; exact hn)])
  have HGU : Hid (g.state = f.state) := Lib.hid (by rw [HG.out]; rfl)
  unfold RFV
  go_enter Try.func25, Try.ntmps25
  go_upto_region 1 with fail
  rw [← hwb]
  clear hwb
  have x0 := HK.out.at 0 rfl
  have x1 := HK.out.at 1 rfl
  have x2 := HK.out.at 2 rfl
  have x3 := HK.out.at 3 rfl
  have x4 := HK.out.at 4 rfl
  have x5 := HK.out.at 5 rfl
  have x6 := HK.out.at 6 rfl
  have x7 := HK.out.at 7 rfl
  have x8 := HK.out.at 8 rfl
  have x9 := HK.out.at 9 rfl
  have x10 := HK.out.at 10 rfl
  have x11 := HK.out.at 11 rfl
  have x12 := HK.out.at 12 rfl
  have x13 := HK.out.at 13 rfl
  have x14 := HK.out.lt
  go_wp2_with fail
  refine (rat_any f aU nU cU aC nC cC t wb).mono ?_
  rw [← HG.out]
  rintro e w2 ⟨rfl, hB2⟩
  unfold RFV
  have HM2 := Lib.hid (HM.out.below hB2)
  have HB2 := Lib.hid hB2
  clear x0 x1 x2 x3 x4 x5 x6 x7 x8 x9 x10 x11 x12 x13 x14 hB2
  have HK2 := Lib.hid HM2.out.blk
  have x0 := HK2.out.at 0 rfl
  have x1 := HK2.out.at 1 rfl
  have x2 := HK2.out.at 2 rfl
  have x3 := HK2.out.at 3 rfl
  have x4 := HK2.out.at 4 rfl
  have x5 := HK2.out.at 5 rfl
  have x6 := HK2.out.at 6 rfl
  have x7 := HK2.out.at 7 rfl
  have x8 := HK2.out.at 8 rfl
  have x9 := HK2.out.at 9 rfl
  have x10 := HK2.out.at 10 rfl
  have x11 := HK2.out.at 11 rfl
  have x12 := HK2.out.at 12 rfl
  have x13 := HK2.out.at 13 rfl
  have y0 := HK2.out.free 0
  have y1 := HK2.out.free 1
  have y2 := HK2.out.free 2
  have y3 := HK2.out.free 3
  have y4 := HK2.out.free 4
  have y5 := HK2.out.free 5
  have y6 := HK2.out.free 6
  have y7 := HK2.out.free 7
  have y8 := HK2.out.free 8
  have y9 := HK2.out.free 9
  have y10 := HK2.out.free 10
  have y11 := HK2.out.free 11
  have y12 := HK2.out.free 12
  have y13 := HK2.out.free 13
  have x14 := HK2.out.lt
  go_upto_region 2 with fail
  have hF := fin14_fr w2 w.heap.size (.int .i64 g.craft) (.int .i64 g.chan) (.int .i64 (g.size : Int)) (.int .i64 g.tmo) (.int .i64 (g.ret : Int)) (.int .i64 (g.state : Int)) (.slice aU nU cU) (.int .i64 (g.acked : Int)) (.int .i64 (g.flight : Int)) (.int .i64 (g.front : Int)) (.slice aC nC cC) (.int .i64 g.now) (.int .i64 g.timer) (.int .i64 (g.count : Int))
  have hK := fin14_blk HK2.out rfl (.int .i64 g.craft) (.int .i64 g.chan) (.int .i64 (g.size : Int)) (.int .i64 g.tmo) (.int .i64 (g.ret : Int)) (.int .i64 (g.state : Int)) (.slice aU nU cU) (.int .i64 (g.acked : Int)) (.int .i64 (g.flight : Int)) (.int .i64 (g.front : Int)) (.slice aC nC cC) (.int .i64 g.now) (.int .i64 g.timer) (.int .i64 (g.count : Int))
  obtain ⟨wC, hwC⟩ : ∃ wC, wC = fin14 w2 w.heap.size (.int .i64 g.craft) (.int .i64 g.chan) (.int .i64 (g.size : Int)) (.int .i64 g.tmo) (.int .i64 (g.ret : Int)) (.int .i64 (g.state : Int)) (.slice aU nU cU) (.int .i64 (g.acked : Int)) (.int .i64 (g.flight : Int)) (.int .i64 (g.front : Int)) (.slice aC nC cC) (.int .i64 g.now) (.int .i64 g.timer) (.int .i64 (g.count : Int)) := ⟨_, rfl⟩
  rw [← hwC] at hF hK
  unfold fin14 at hwC
  rw [← hwC]
  have HMC : Hid (RM 3 S w wC w.heap.size (w.heap.size + 1) g (.slice aU nU cU) (.slice aC nC cC)) := Lib.hid (HM2.out.num hF hK (by rw [HG.out]; rfl) (by rw [HG.out]; rfl))
  have HFC := Lib.hid hF
  clear hF hK hwC x0 x1 x2 x3 x4 x5 x6 x7 x8 x9 x10 x11 x12 x13 x14 y0 y1 y2 y3 y4 y5 y6 y7 y8 y9 y10 y11 y12 y13
  have HZC := Lib.hid ((HZ.out.below HB2.out (Nat.le_refl _)).fr HFC.out (by omega))
  have hn0 : nC = 0 := by rw [HNC.out, hct]; rfl
  subst hn0
  by_cases hs : g.state = 1
  · have hu0 : nU = 0 := by
      rcases hn with e | e
      · exact absurd (by rw [← HGU.out]; exact hs) e
      · rw [HNU.out, e]; rfl
    have e1 : ((g.state : Int) != 1) = false := by rw [hs]; rfl
    have e2 : ((g.state : Int) == 1) = true := by rw [hs]; rfl
    subst hu0
    clear hs hn hct
    have HKN := Lib.hid HMC.out.blk
    have HRN := Lib.hid HMC.out.res
    have HMN := HMC
    have x0 := HKN.out.at 0 rfl
    have x1 := HKN.out.at 1 rfl
    have x2 := HKN.out.at 2 rfl
    have x3 := HKN.out.at 3 rfl
    have x4 := HKN.out.at 4 rfl
    have x5 := HKN.out.at 5 rfl
    have x6 := HKN.out.at 6 rfl
    have x7 := HKN.out.at 7 rfl
    have x8 := HKN.out.at 8 rfl
    have x9 := HKN.out.at 9 rfl
    have x10 := HKN.out.at 10 rfl
    have x11 := HKN.out.at 11 rfl
    have x12 := HKN.out.at 12 rfl
    have x13 := HKN.out.at 13 rfl
    have x14 := HKN.out.lt
    have d0 := HRN.out.at 0 rfl
    have d1 := HRN.out.at 1 rfl
    have d2 := HRN.out.at 2 rfl
    have d3 := HRN.out.at 3 rfl
    have d4 := HRN.out.at 4 rfl
    have d5 := HRN.out.at 5 rfl
    have d6 := HRN.out.at 6 rfl
    have d7 := HRN.out.at 7 rfl
    have d8 := HRN.out.at 8 rfl
    have d9 := HRN.out.at 9 rfl
    have d10 := HRN.out.at 10 rfl
    have d11 := HRN.out.at 11 rfl
    have d12 := HRN.out.at 12 rfl
    have d13 := HRN.out.at 13 rfl
    have e0 := HRN.out.free 0
    have e1 := HRN.out.free 1
    have e2 := HRN.out.free 2
    have e3 := HRN.out.free 3
    have e4 := HRN.out.free 4
    have e5 := HRN.out.free 5
    have e6 := HRN.out.free 6
    have e7 := HRN.out.free 7
    have e8 := HRN.out.free 8
    have e9 := HRN.out.free 9
    have e10 := HRN.out.free 10
    have e11 := HRN.out.free 11
    have e12 := HRN.out.free 12
    have e13 := HRN.out.free 13
    have d14 := HRN.out.lt
    have hzf := HZC.out.fr (fin14_fr wC (w.heap.size + 1) (.int .i64 g.craft) (.int .i64 g.chan) (.int .i64 (g.size : Int)) (.int .i64 g.tmo) (.int .i64 (g.ret : Int)) (.int .i64 (g.state : Int)) (.slice aU 0 cU) (.int .i64 (g.acked : Int)) (.int .i64 (g.flight : Int)) (.int .i64 (g.front : Int)) (.slice aC 0 cC) (.int .i64 g.now) (.int .i64 g.timer) (.int .i64 (g.count : Int))) (by omega)
    unfold fin14 at hzf
    have HZF := Lib.hid hzf
    clear hzf
    have z0 := HZF.out.at 0 rfl
    have z1 := HZF.out.at 1 rfl
    have z2 := HZF.out.at 2 rfl
    have z3 := HZF.out.at 3 rfl
    have z4 := HZF.out.at 4 rfl
    have z5 := HZF.out.at 5 rfl
    have y0 := HZF.out.free 0
    have y1 := HZF.out.free 1
    have y2 := HZF.out.free 2
    have y3 := HZF.out.free 3
    have y4 := HZF.out.free 4
    have y5 := HZF.out.free 5
    have zl := HZC.out.lt
    go_wp2_with fail
    clear z0 z1 z2 z3 z4 z5 y0 y1 y2 y3 y4 y5 zl
    have hb := (fin14_blk HRN.out rfl (.int .i64 g.craft) (.int .i64 g.chan) (.int .i64 (g.size : Int)) (.int .i64 g.tmo) (.int .i64 (g.ret : Int)) (.int .i64 (g.state : Int)) (.slice aU 0 cU) (.int .i64 (g.acked : Int)) (.int .i64 (g.flight : Int)) (.int .i64 (g.front : Int)) (.slice aC 0 cC) (.int .i64 g.now) (.int .i64 g.timer) (.int .i64 (g.count : Int))).fr (fr_six _ (w.heap.size + 2) (.bool false) (.bool false) (.int .i64 0) (.int .i64 0) (.int .i64 0) (.slice none 0 0)) (by omega)
    have hz := six_blk HZF.out rfl (.bool false) (.bool false) (.int .i64 0) (.int .i64 0) (.int .i64 0) (.slice none 0 0)
    unfold fin14 at hb
    have HRR := Lib.hid hb
    have HZZ := Lib.hid hz
    clear hb hz
    have b0 := HRR.out.at 0 rfl
    have b1 := HRR.out.at 1 rfl
    have b2 := HRR.out.at 2 rfl
    have b3 := HRR.out.at 3 rfl
    have b4 := HRR.out.at 4 rfl
    have b5 := HRR.out.at 5 rfl
    have b6 := HRR.out.at 6 rfl
    have b7 := HRR.out.at 7 rfl
    have b8 := HRR.out.at 8 rfl
    have b9 := HRR.out.at 9 rfl
    have b10 := HRR.out.at 10 rfl
    have b11 := HRR.out.at 11 rfl
    have b12 := HRR.out.at 12 rfl
    have b13 := HRR.out.at 13 rfl
    have z0 := HZZ.out.at 0 rfl
    have z1 := HZZ.out.at 1 rfl
    have z2 := HZZ.out.at 2 rfl
    have z3 := HZZ.out.at 3 rfl
    have z4 := HZZ.out.at 4 rfl
    have z5 := HZZ.out.at 5 rfl
    refine bodyPost_ret (v := .tuple #[.agg #[.int .i64 g.craft, .int .i64 g.chan, .int .i64 (g.size : Int), .int .i64 g.tmo, .int .i64 (g.ret : Int), .int .i64 (g.state : Int), (.slice aU 0 cU), .int .i64 (g.acked : Int), .int .i64 (g.flight : Int), .int .i64 (g.front : Int), (.slice aC 0 cC), .int .i64 g.now, .int .i64 g.timer, .int .i64 (g.count : Int)], .agg #[.bool false, .bool false, .int .i64 0, .int .i64 0, .int .i64 0, .slice none 0 0], .bool false]) (by simp [results, Try.results25, go_sem, b0, b1, b2, b3, b4, b5, b6, b7, b8, b9, b10, b11, b12, b13, z0, z1, z2, z3, z4, z5]) rfl ?_
    exact RM.leave3 HMN.out HP.out (sl_nil _ _) _ _ _ _ _ _ _ _ _ _ _ _ _ _ _ _ _ _ _ _
  · have e1 : ((g.state : Int) != 1) = true := by simp only [bne_iff_ne, ne_eq]; omega
    have e2 : ((g.state : Int) == 1) = false := by rw [beq_eq_false_iff_ne]; omega
    clear hs hn hct
    have HKN := Lib.hid HMC.out.blk
    have HRN := Lib.hid HMC.out.res
    have HMN := HMC
    have x0 := HKN.out.at 0 rfl
    have x1 := HKN.out.at 1 rfl
    have x2 := HKN.out.at 2 rfl
    have x3 := HKN.out.at 3 rfl
    have x4 := HKN.out.at 4 rfl
    have x5 := HKN.out.at 5 rfl
    have x6 := HKN.out.at 6 rfl
    have x7 := HKN.out.at 7 rfl
    have x8 := HKN.out.at 8 rfl
    have x9 := HKN.out.at 9 rfl
    have x10 := HKN.out.at 10 rfl
    have x11 := HKN.out.at 11 rfl
    have x12 := HKN.out.at 12 rfl
    have x13 := HKN.out.at 13 rfl
    have x14 := HKN.out.lt
    have d0 := HRN.out.at 0 rfl
    have d1 := HRN.out.at 1 rfl
    have d2 := HRN.out.at 2 rfl
    have d3 := HRN.out.at 3 rfl
    have d4 := HRN.out.at 4 rfl
    have d5 := HRN.out.at 5 rfl
    have d6 := HRN.out.at 6 rfl
    have d7 := HRN.out.at 7 rfl
    have d8 := HRN.out.at 8 rfl
    have d9 := HRN.out.at 9 rfl
    have d10 := HRN.out.at 10 rfl
    have d11 := HRN.out.at 11 rfl
    have d12 := HRN.out.at 12 rfl
    have d13 := HRN.out.at 13 rfl
    have e0 := HRN.out.free 0
    have e1 := HRN.out.free 1
    have e2 := HRN.out.free 2
    have e3 := HRN.out.free 3
    have e4 := HRN.out.free 4
    have e5 := HRN.out.free 5
    have e6 := HRN.out.free 6
    have e7 := HRN.out.free 7
    have e8 := HRN.out.free 8
    have e9 := HRN.out.free 9
    have e10 := HRN.out.free 10
    have e11 := HRN.out.free 11
    have e12 := HRN.out.free 12
    have e13 := HRN.out.free 13
    have d14 := HRN.out.lt
    have hzf := HZC.out.fr (fin14_fr wC (w.heap.size + 1) (.int .i64 g.craft) (.int .i64 g.chan) (.int .i64 (g.size : Int)) (.int .i64 g.tmo) (.int .i64 (g.ret : Int)) (.int .i64 (g.state : Int)) (.slice aU nU cU) (.int .i64 (g.acked : Int)) (.int .i64 (g.flight : Int)) (.int .i64 (g.front : Int)) (.slice aC 0 cC) (.int .i64 g.now) (.int .i64 g.timer) (.int .i64 (g.count : Int))) (by omega)
    unfold fin14 at hzf
    have HZF := Lib.hid hzf
    clear hzf
    have z0 := HZF.out.at 0 rfl
    have z1 := HZF.out.at 1 rfl
    have z2 := HZF.out.at 2 rfl
    have z3 := HZF.out.at 3 rfl
    have z4 := HZF.out.at 4 rfl
    have z5 := HZF.out.at 5 rfl
    have y0 := HZF.out.free 0
    have y1 := HZF.out.free 1
    have y2 := HZF.out.free 2
    have y3 := HZF.out.free 3
    have y4 := HZF.out.free 4
    have y5 := HZF.out.free 5
    have zl := HZC.out.lt
    go_wp2_with fail
    clear z0 z1 z2 z3 z4 z5 y0 y1 y2 y3 y4 y5 zl
    have hb := (fin14_blk HRN.out rfl (.int .i64 g.craft) (.int .i64 g.chan) (.int .i64 (g.size : Int)) (.int .i64 g.tmo) (.int .i64 (g.ret : Int)) (.int .i64 (g.state : Int)) (.slice aU nU cU) (.int .i64 (g.acked : Int)) (.int .i64 (g.flight : Int)) (.int .i64 (g.front : Int)) (.slice aC 0 cC) (.int .i64 g.now) (.int .i64 g.timer) (.int .i64 (g.count : Int))).fr (fr_six _ (w.heap.size + 2) (.bool false) (.bool false) (.int .i64 0) (.int .i64 0) (.int .i64 0) (.slice none 0 0)) (by omega)
    have hz := six_blk HZF.out rfl (.bool false) (.bool false) (.int .i64 0) (.int .i64 0) (.int .i64 0) (.slice none 0 0)
    unfold fin14 at hb
    have HRR := Lib.hid hb
    have HZZ := Lib.hid hz
    clear hb hz
    have b0 := HRR.out.at 0 rfl
    have b1 := HRR.out.at 1 rfl
    have b2 := HRR.out.at 2 rfl
    have b3 := HRR.out.at 3 rfl
    have b4 := HRR.out.at 4 rfl
    have b5 := HRR.out.at 5 rfl
    have b6 := HRR.out.at 6 rfl
    have b7 := HRR.out.at 7 rfl
    have b8 := HRR.out.at 8 rfl
    have b9 := HRR.out.at 9 rfl
    have b10 := HRR.out.at 10 rfl
    have b11 := HRR.out.at 11 rfl
    have b12 := HRR.out.at 12 rfl
    have b13 := HRR.out.at 13 rfl
    have z0 := HZZ.out.at 0 rfl
    have z1 := HZZ.out.at 1 rfl
    have z2 := HZZ.out.at 2 rfl
    have z3 := HZZ.out.at 3 rfl
    have z4 := HZZ.out.at 4 rfl
    have z5 := HZZ.out.at 5 rfl
    refine bodyPost_ret (v := .tuple #[.agg #[.int .i64 g.craft, .int .i64 g.chan, .int .i64 (g.size : Int), .int .i64 g.tmo, .int .i64 (g.ret : Int), .int .i64 (g.state : Int), (.slice aU nU cU), .int .i64 (g.acked : Int), .int .i64 (g.flight : Int), .int .i64 (g.front : Int), (.slice aC 0 cC), .int .i64 g.now, .int .i64 g.timer, .int .i64 (g.count : Int)], .agg #[.bool false, .bool false, .int .i64 0, .int .i64 0, .int .i64 0, .slice none 0 0], .bool false]) (by simp [results, Try.results25, go_sem, b0, b1, b2, b3, b4, b5, b6, b7, b8, b9, b10, b11, b12, b13, z0, z1, z2, z3, z4, z5]) rfl ?_
    exact RM.leave3 HMN.out HP.out (sl_nil _ _) _ _ _ _ _ _ _ _ _ _ _ _ _ _ _ _ _ _ _ _
set_option maxRecDepth 20000 in
set_option maxHeartbeats 4000000 in
/-- all units of the window are in flight -/
theorem rnext_wait (S : Nat → Prop) (f : FS) (vU vC : Value) (t : Int) (w : World) (hu : SAt w S vU f.units) (hc : CAt w S vC f.ctls) (ok : f.Ok) (hct : f.ctls = []) (hs : f.state = 1) (hne : f.units ≠ []) (hfl : ¬ f.flight < min f.size f.units.length) (hw : (f.clock t).now < f.timer + f.tmo ∨ f.count = f.ret) :
    Calls Try.prog 25 #[RFV f vU vC, .int .i64 t] w (RNX S w (f.next t)) := by
  obtain ⟨aU, cU, rfl, -, -⟩ := hu.len
  obtain ⟨aC, cC, rfl, -⟩ := id hc
  obtain ⟨nU, hnU⟩ : ∃ n, n = f.units.length := ⟨_, rfl⟩
  obtain ⟨nC, hnC⟩ : ∃ n, n = f.ctls.length := ⟨_, rfl⟩
  rw [← hnU] at hu ⊢
  rw [← hnC] at hc ⊢
  obtain ⟨wb, hwb⟩ : ∃ wb, wb = ((w.alloc (.cells (rfc f (.slice aU nU cU) (.slice aC nC cC)).toArray 54)).alloc (.cells z14.toArray 54)).alloc (.cells z6.toArray 33) := ⟨_, rfl⟩
  have HM : Hid (RM 3 S w wb w.heap.size (w.heap.size + 1) f (.slice aU nU cU) (.slice aC nC cC)) := Lib.hid (RM.start (N := 3) hu hc (by rw [hwb]; exact al (al (al (Below.refl _ _) _) _) _) (by rw [hwb]; exact ((Blk.new w 54 _).alloc _).alloc _) (by rw [hwb]; exact (Blk.newAt (by simp)).alloc _) (by omega) (by omega) (by omega))
  have HZ : Hid (Blk wb (w.heap.size + 2) 33 z6) := Lib.hid (by rw [hwb]; exact Blk.newAt (by simp))
  have HK := Lib.hid HM.out.blk
  have HR := Lib.hid HM.out.res
  have HNU := Lib.hid hnU
  have HNC := Lib.hid hnC
  obtain ⟨g, hg⟩ : ∃ g, g = f.clock t := ⟨_, rfl⟩
  have HG := Lib.hid hg
  have HST : Hid (g.step = f.next t) := Lib.hid (by rw [hg]; rfl)
  unfold rfc z14 z6 at hwb
  clear hu hc hnU hnC hg
  have HCT : Hid (g.ctls = []) := Lib.hid (by rw [HG.out]; exact hct)
  have HS1 : Hid (g.state = 1) := Lib.hid (by rw [HG.out]; exact hs)
  have HNE : Hid (g.units ≠ []) := Lib.hid (by rw [HG.out]; exact hne)
  have HFL : Hid (¬ g.flight < min g.size g.units.length) := Lib.hid (by rw [HG.out]; exact hfl)
  have HGU : Hid (g.units.length = nU) := Lib.hid (by rw [HNU.out, HG.out]; rfl)
  have HWT : Hid (g.now < g.timer + g.tmo ∨ g.count = g.ret) := Lib.hid (by rw [HG.out]; exact hw)
  have hok : g.Ok := by rw [HG.out]; exact FS.ok_clock ok t
  clear hs hne hfl hw ok
  unfold RFV
  go_enter Try.func25, Try.ntmps25
  go_upto_region 1 with fail
  rw [← hwb]
  clear hwb
  have x0 := HK.out.at 0 rfl
  have x1 := HK.out.at 1 rfl
  have x2 := HK.out.at 2 rfl
  have x3 := HK.out.at 3 rfl
  have x4 := HK.out.at 4 rfl
  have x5 := HK.out.at 5 rfl
  have x6 := HK.out.at 6 rfl
  have x7 := HK.out.at 7 rfl
  have x8 := HK.out.at 8 rfl
  have x9 := HK.out.at 9 rfl
  have x10 := HK.out.at 10 rfl
  have x11 := HK.out.at 11 rfl
  have x12 := HK.out.at 12 rfl
  have x13 := HK.out.at 13 rfl
  have x14 := HK.out.lt
  go_wp2_with fail
  refine (rat_any f aU nU cU aC nC cC t wb).mono ?_
  rw [← HG.out]
  rintro e w2 ⟨rfl, hB2⟩
  unfold RFV
  have HM2 := Lib.hid (HM.out.below hB2)
  have HB2 := Lib.hid hB2
  clear x0 x1 x2 x3 x4 x5 x6 x7 x8 x9 x10 x11 x12 x13 x14 hB2
  have HK2 := Lib.hid HM2.out.blk
  have x0 := HK2.out.at 0 rfl
  have x1 := HK2.out.at 1 rfl
  have x2 := HK2.out.at 2 rfl
  have x3 := HK2.out.at 3 rfl
  have x4 := HK2.out.at 4 rfl
  have x5 := HK2.out.at 5 rfl
  have x6 := HK2.out.at 6 rfl
  have x7 := HK2.out.at 7 rfl
  have x8 := HK2.out.at 8 rfl
  have x9 := HK2.out.at 9 rfl
  have x10 := HK2.out.at 10 rfl
  have x11 := HK2.out.at 11 rfl
  have x12 := HK2.out.at 12 rfl
  have x13 := HK2.out.at 13 rfl
  have y0 := HK2.out.free 0
  have y1 := HK2.out.free 1
  have y2 := HK2.out.free 2
  have y3 := HK2.out.free 3
  have y4 := HK2.out.free 4
  have y5 := HK2.out.free 5
  have y6 := HK2.out.free 6
  have y7 := HK2.out.free 7
  have y8 := HK2.out.free 8
  have y9 := HK2.out.free 9
  have y10 := HK2.out.free 10
  have y11 := HK2.out.free 11
  have y12 := HK2.out.free 12
  have y13 := HK2.out.free 13
  have x14 := HK2.out.lt
  go_upto_region 2 with fail
  have hF := fin14_fr w2 w.heap.size (.int .i64 g.craft) (.int .i64 g.chan) (.int .i64 (g.size : Int)) (.int .i64 g.tmo) (.int .i64 (g.ret : Int)) (.int .i64 (g.state : Int)) (.slice aU nU cU) (.int .i64 (g.acked : Int)) (.int .i64 (g.flight : Int)) (.int .i64 (g.front : Int)) (.slice aC nC cC) (.int .i64 g.now) (.int .i64 g.timer) (.int .i64 (g.count : Int))
  have hK := fin14_blk HK2.out rfl (.int .i64 g.craft) (.int .i64 g.chan) (.int .i64 (g.size : Int)) (.int .i64 g.tmo) (.int .i64 (g.ret : Int)) (.int .i64 (g.state : Int)) (.slice aU nU cU) (.int .i64 (g.acked : Int)) (.int .i64 (g.flight : Int)) (.int .i64 (g.front : Int)) (.slice aC nC cC) (.int .i64 g.now) (.int .i64 g.timer) (.int .i64 (g.count : Int))
  obtain ⟨wC, hwC⟩ : ∃ wC, wC = fin14 w2 w.heap.size (.int .i64 g.craft) (.int .i64 g.chan) (.int .i64 (g.size : Int)) (.int .i64 g.tmo) (.int .i64 (g.ret : Int)) (.int .i64 (g.state : Int)) (.slice aU nU cU) (.int .i64 (g.acked : Int)) (.int .i64 (g.flight : Int)) (.int .i64 (g.front : Int)) (.slice aC nC cC) (.int .i64 g.now) (.int .i64 g.timer) (.int .i64 (g.count : Int)) := ⟨_, rfl⟩
  rw [← hwC] at hF hK
  unfold fin14 at hwC
  rw [← hwC]
  have HMC : Hid (RM 3 S w wC w.heap.size (w.heap.size + 1) g (.slice aU nU cU) (.slice aC nC cC)) := Lib.hid (HM2.out.num hF hK (by rw [HG.out]; rfl) (by rw [HG.out]; rfl))
  have HFC := Lib.hid hF
  clear hF hK hwC x0 x1 x2 x3 x4 x5 x6 x7 x8 x9 x10 x11 x12 x13 x14 y0 y1 y2 y3 y4 y5 y6 y7 y8 y9 y10 y11 y12 y13
  have HZC := Lib.hid ((HZ.out.below HB2.out (Nat.le_refl _)).fr HFC.out (by omega))
  have hn0 : nC = 0 := by rw [HNC.out, hct]; rfl
  subst hn0
  obtain ⟨mn, hmn⟩ : ∃ m, m = min nU g.size := ⟨_, rfl⟩
  have hm9 : min (nU : Int) (g.size : Int) = (mn : Int) := by omega
  have HMN0 := Lib.hid hmn
  clear hmn
  have e1 : ((g.state : Int) != 1) = false := by rw [HS1.out]; rfl
  have e2 : ((g.state : Int) == 1) = true := by rw [HS1.out]; rfl
  have hu0 : nU ≠ 0 := by rw [← HGU.out]; intro e; exact HNE.out (List.length_eq_zero_iff.1 e)
  have e3 : ((nU : Int) == 0) = false := by rw [beq_eq_false_iff_ne]; omega
  have e4 : (nU == 0) = false := by rw [beq_eq_false_iff_ne]; exact hu0
  have hmf : (mn : Int) ≤ (g.flight : Int) := by have := HFL.out; rw [HGU.out] at this; have := HMN0.out; omega
  obtain ⟨h1, h1'⟩ := hok.timer
  obtain ⟨h2, h2'⟩ := hok.tmo
  have h3 := hok.ret
  have h4 := hok.count
  clear hct hok hu0
  have HK := Lib.hid HMC.out.blk
  by_cases hw : g.now < g.timer + g.tmo
  · have HP : Hid (f.next t = (g, none)) := Lib.hid (by rw [← HST.out]; unfold FS.step; rw [HCT.out]; dsimp only; rw [if_neg (by rw [HS1.out]; simp [HNE.out]), if_neg HFL.out, if_pos hw])
    have HKN := Lib.hid HMC.out.blk
    have HRN := Lib.hid HMC.out.res
    have HMN := HMC
    have x0 := HKN.out.at 0 rfl
    have x1 := HKN.out.at 1 rfl
    have x2 := HKN.out.at 2 rfl
    have x3 := HKN.out.at 3 rfl
    have x4 := HKN.out.at 4 rfl
    have x5 := HKN.out.at 5 rfl
    have x6 := HKN.out.at 6 rfl
    have x7 := HKN.out.at 7 rfl
    have x8 := HKN.out.at 8 rfl
    have x9 := HKN.out.at 9 rfl
    have x10 := HKN.out.at 10 rfl
    have x11 := HKN.out.at 11 rfl
    have x12 := HKN.out.at 12 rfl
    have x13 := HKN.out.at 13 rfl
    have x14 := HKN.out.lt
    have d0 := HRN.out.at 0 rfl
    have d1 := HRN.out.at 1 rfl
    have d2 := HRN.out.at 2 rfl
    have d3 := HRN.out.at 3 rfl
    have d4 := HRN.out.at 4 rfl
    have d5 := HRN.out.at 5 rfl
    have d6 := HRN.out.at 6 rfl
    have d7 := HRN.out.at 7 rfl
    have d8 := HRN.out.at 8 rfl
    have d9 := HRN.out.at 9 rfl
    have d10 := HRN.out.at 10 rfl
    have d11 := HRN.out.at 11 rfl
    have d12 := HRN.out.at 12 rfl
    have d13 := HRN.out.at 13 rfl
    have e0 := HRN.out.free 0
    have e1 := HRN.out.free 1
    have e2 := HRN.out.free 2
    have e3 := HRN.out.free 3
    have e4 := HRN.out.free 4
    have e5 := HRN.out.free 5
    have e6 := HRN.out.free 6
    have e7 := HRN.out.free 7
    have e8 := HRN.out.free 8
    have e9 := HRN.out.free 9
    have e10 := HRN.out.free 10
    have e11 := HRN.out.free 11
    have e12 := HRN.out.free 12
    have e13 := HRN.out.free 13
    have d14 := HRN.out.lt
    have hzf := HZC.out.fr (fin14_fr wC (w.heap.size + 1) (.int .i64 g.craft) (.int .i64 g.chan) (.int .i64 (g.size : Int)) (.int .i64 g.tmo) (.int .i64 (g.ret : Int)) (.int .i64 (g.state : Int)) (.slice aU nU cU) (.int .i64 (g.acked : Int)) (.int .i64 (g.flight : Int)) (.int .i64 (g.front : Int)) (.slice aC 0 cC) (.int .i64 g.now) (.int .i64 g.timer) (.int .i64 (g.count : Int))) (by omega)
    unfold fin14 at hzf
    have HZF := Lib.hid hzf
    clear hzf
    have z0 := HZF.out.at 0 rfl
    have z1 := HZF.out.at 1 rfl
    have z2 := HZF.out.at 2 rfl
    have z3 := HZF.out.at 3 rfl
    have z4 := HZF.out.at 4 rfl
    have z5 := HZF.out.at 5 rfl
    have y0 := HZF.out.free 0
    have y1 := HZF.out.free 1
    have y2 := HZF.out.free 2
    have y3 := HZF.out.free 3
    have y4 := HZF.out.free 4
    have y5 := HZF.out.free 5
    have zl := HZC.out.lt
    go_wp2_with fail
    clear z0 z1 z2 z3 z4 z5 y0 y1 y2 y3 y4 y5 zl
    have hb := (fin14_blk HRN.out rfl (.int .i64 g.craft) (.int .i64 g.chan) (.int .i64 (g.size : Int)) (.int .i64 g.tmo) (.int .i64 (g.ret : Int)) (.int .i64 (g.state : Int)) (.slice aU nU cU) (.int .i64 (g.acked : Int)) (.int .i64 (g.flight : Int)) (.int .i64 (g.front : Int)) (.slice aC 0 cC) (.int .i64 g.now) (.int .i64 g.timer) (.int .i64 (g.count : Int))).fr (fr_six _ (w.heap.size + 2) (.bool false) (.bool false) (.int .i64 0) (.int .i64 0) (.int .i64 0) (.slice none 0 0)) (by omega)
    have hz := six_blk HZF.out rfl (.bool false) (.bool false) (.int .i64 0) (.int .i64 0) (.int .i64 0) (.slice none 0 0)
    unfold fin14 at hb
    have HRR := Lib.hid hb
    have HZZ := Lib.hid hz
    clear hb hz
    have b0 := HRR.out.at 0 rfl
    have b1 := HRR.out.at 1 rfl
    have b2 := HRR.out.at 2 rfl
    have b3 := HRR.out.at 3 rfl
    have b4 := HRR.out.at 4 rfl
    have b5 := HRR.out.at 5 rfl
    have b6 := HRR.out.at 6 rfl
    have b7 := HRR.out.at 7 rfl
    have b8 := HRR.out.at 8 rfl
    have b9 := HRR.out.at 9 rfl
    have b10 := HRR.out.at 10 rfl
    have b11 := HRR.out.at 11 rfl
    have b12 := HRR.out.at 12 rfl
    have b13 := HRR.out.at 13 rfl
    have z0 := HZZ.out.at 0 rfl
    have z1 := HZZ.out.at 1 rfl
    have z2 := HZZ.out.at 2 rfl
    have z3 := HZZ.out.at 3 rfl
    have z4 := HZZ.out.at 4 rfl
    have z5 := HZZ.out.at 5 rfl
    refine bodyPost_ret (v := .tuple #[.agg #[.int .i64 g.craft, .int .i64 g.chan, .int .i64 (g.size : Int), .int .i64 g.tmo, .int .i64 (g.ret : Int), .int .i64 (g.state : Int), (.slice aU nU cU), .int .i64 (g.acked : Int), .int .i64 (g.flight : Int), .int .i64 (g.front : Int), (.slice aC 0 cC), .int .i64 g.now, .int .i64 g.timer, .int .i64 (g.count : Int)], .agg #[.bool false, .bool false, .int .i64 0, .int .i64 0, .int .i64 0, .slice none 0 0], .bool false]) (by simp [results, Try.results25, go_sem, b0, b1, b2, b3, b4, b5, b6, b7, b8, b9, b10, b11, b12, b13, z0, z1, z2, z3, z4, z5]) rfl ?_
    exact RM.leave3 HMN.out HP.out (sl_nil _ _) _ _ _ _ _ _ _ _ _ _ _ _ _ _ _ _ _ _ _ _
  · have hcr : g.count = g.ret := HWT.out.resolve_left hw
    obtain ⟨g4, hg4⟩ : ∃ g4, g4 = { g with state := 4 } := ⟨_, rfl⟩
    have HP : Hid (f.next t = (g4, none)) := Lib.hid (by rw [← HST.out]; unfold FS.step; rw [HCT.out]; dsimp only; rw [if_neg (by rw [HS1.out]; simp [HNE.out]), if_neg HFL.out, if_neg hw, if_pos hcr, hg4, HCT.out])
    have e9 : (g.ret : Int) ≤ (g.count : Int) := by omega
    have x0 := HK.out.at 0 rfl
    have x1 := HK.out.at 1 rfl
    have x2 := HK.out.at 2 rfl
    have x3 := HK.out.at 3 rfl
    have x4 := HK.out.at 4 rfl
    have x5 := HK.out.at 5 rfl
    have x6 := HK.out.at 6 rfl
    have x7 := HK.out.at 7 rfl
    have x8 := HK.out.at 8 rfl
    have x9 := HK.out.at 9 rfl
    have x10 := HK.out.at 10 rfl
    have x11 := HK.out.at 11 rfl
    have x12 := HK.out.at 12 rfl
    have x13 := HK.out.at 13 rfl
    have x14 := HK.out.lt
    have y5 := HK.out.free 5
    go_upto_region 13 with fail
    obtain ⟨w4, hw4⟩ : ∃ w4, w4 = wC.setCell ⟨w.heap.size, 5, none⟩ (.int .i64 4) := ⟨_, rfl⟩
    rw [← hw4]
    have hF : Fr (fun k => k = w.heap.size) wC w4 := by rw [hw4]; exact frs (Fr.refl _ _) _ _
    have HMN : Hid (RM 3 S w w4 w.heap.size (w.heap.size + 1) g4 (.slice aU nU cU) (.slice aC 0 cC)) := Lib.hid (HMC.out.num hF (by rw [hw4, hg4]; exact Blk.cast (HMC.out.blk.setCell 5 _) rfl) (by rw [hg4]) (by rw [hg4]))
    have HZ4 := Lib.hid (HZC.out.fr hF (by omega))
    clear HZC
    have HZC := HZ4
    have HKN := Lib.hid HMN.out.blk
    have HRN := Lib.hid HMN.out.res
    clear hw4 hg4 hF x0 x1 x2 x3 x4 x5 x6 x7 x8 x9 x10 x11 x12 x13 x14 y5
    have x0 := HKN.out.at 0 rfl
    have x1 := HKN.out.at 1 rfl
    have x2 := HKN.out.at 2 rfl
    have x3 := HKN.out.at 3 rfl
    have x4 := HKN.out.at 4 rfl
    have x5 := HKN.out.at 5 rfl
    have x6 := HKN.out.at 6 rfl
    have x7 := HKN.out.at 7 rfl
    have x8 := HKN.out.at 8 rfl
    have x9 := HKN.out.at 9 rfl
    have x10 := HKN.out.at 10 rfl
    have x11 := HKN.out.at 11 rfl
    have x12 := HKN.out.at 12 rfl
    have x13 := HKN.out.at 13 rfl
    have x14 := HKN.out.lt
    have d0 := HRN.out.at 0 rfl
    have d1 := HRN.out.at 1 rfl
    have d2 := HRN.out.at 2 rfl
    have d3 := HRN.out.at 3 rfl
    have d4 := HRN.out.at 4 rfl
    have d5 := HRN.out.at 5 rfl
    have d6 := HRN.out.at 6 rfl
    have d7 := HRN.out.at 7 rfl
    have d8 := HRN.out.at 8 rfl
    have d9 := HRN.out.at 9 rfl
    have d10 := HRN.out.at 10 rfl
    have d11 := HRN.out.at 11 rfl
    have d12 := HRN.out.at 12 rfl
    have d13 := HRN.out.at 13 rfl
    have e0 := HRN.out.free 0
    have e1 := HRN.out.free 1
    have e2 := HRN.out.free 2
    have e3 := HRN.out.free 3
    have e4 := HRN.out.free 4
    have e5 := HRN.out.free 5
    have e6 := HRN.out.free 6
    have e7 := HRN.out.free 7
    have e8 := HRN.out.free 8
    have e9 := HRN.out.free 9
    have e10 := HRN.out.free 10
    have e11 := HRN.out.free 11
    have e12 := HRN.out.free 12
    have e13 := HRN.out.free 13
    have d14 := HRN.out.lt
    have hzf := HZC.out.fr (fin14_fr w4 (w.heap.size + 1) (.int .i64 g4.craft) (.int .i64 g4.chan) (.int .i64 (g4.size : Int)) (.int .i64 g4.tmo) (.int .i64 (g4.ret : Int)) (.int .i64 (g4.state : Int)) (.slice aU nU cU) (.int .i64 (g4.acked : Int)) (.int .i64 (g4.flight : Int)) (.int .i64 (g4.front : Int)) (.slice aC 0 cC) (.int .i64 g4.now) (.int .i64 g4.timer) (.int .i64 (g4.count : Int))) (by omega)
    unfold fin14 at hzf
    have HZF := Lib.hid hzf
    clear hzf
    have z0 := HZF.out.at 0 rfl
    have z1 := HZF.out.at 1 rfl
    have z2 := HZF.out.at 2 rfl
    have z3 := HZF.out.at 3 rfl
    have z4 := HZF.out.at 4 rfl
    have z5 := HZF.out.at 5 rfl
    have y0 := HZF.out.free 0
    have y1 := HZF.out.free 1
    have y2 := HZF.out.free 2
    have y3 := HZF.out.free 3
    have y4 := HZF.out.free 4
    have y5 := HZF.out.free 5
    have zl := HZC.out.lt
    go_wp2_with fail
    clear z0 z1 z2 z3 z4 z5 y0 y1 y2 y3 y4 y5 zl
    have hb := (fin14_blk HRN.out rfl (.int .i64 g4.craft) (.int .i64 g4.chan) (.int .i64 (g4.size : Int)) (.int .i64 g4.tmo) (.int .i64 (g4.ret : Int)) (.int .i64 (g4.state : Int)) (.slice aU nU cU) (.int .i64 (g4.acked : Int)) (.int .i64 (g4.flight : Int)) (.int .i64 (g4.front : Int)) (.slice aC 0 cC) (.int .i64 g4.now) (.int .i64 g4.timer) (.int .i64 (g4.count : Int))).fr (fr_six _ (w.heap.size + 2) (.bool false) (.bool false) (.int .i64 0) (.int .i64 0) (.int .i64 0) (.slice none 0 0)) (by omega)
    have hz := six_blk HZF.out rfl (.bool false) (.bool false) (.int .i64 0) (.int .i64 0) (.int .i64 0) (.slice none 0 0)
    unfold fin14 at hb
    have HRR := Lib.hid hb
    have HZZ := Lib.hid hz
    clear hb hz
    have b0 := HRR.out.at 0 rfl
    have b1 := HRR.out.at 1 rfl
    have b2 := HRR.out.at 2 rfl
    have b3 := HRR.out.at 3 rfl
    have b4 := HRR.out.at 4 rfl
    have b5 := HRR.out.at 5 rfl
    have b6 := HRR.out.at 6 rfl
    have b7 := HRR.out.at 7 rfl
    have b8 := HRR.out.at 8 rfl
    have b9 := HRR.out.at 9 rfl
    have b10 := HRR.out.at 10 rfl
    have b11 := HRR.out.at 11 rfl
    have b12 := HRR.out.at 12 rfl
    have b13 := HRR.out.at 13 rfl
    have z0 := HZZ.out.at 0 rfl
    have z1 := HZZ.out.at 1 rfl
    have z2 := HZZ.out.at 2 rfl
    have z3 := HZZ.out.at 3 rfl
    have z4 := HZZ.out.at 4 rfl
    have z5 := HZZ.out.at 5 rfl
    refine bodyPost_ret (v := .tuple #[.agg #[.int .i64 g4.craft, .int .i64 g4.chan, .int .i64 (g4.size : Int), .int .i64 g4.tmo, .int .i64 (g4.ret : Int), .int .i64 (g4.state : Int), (.slice aU nU cU), .int .i64 (g4.acked : Int), .int .i64 (g4.flight : Int), .int .i64 (g4.front : Int), (.slice aC 0 cC), .int .i64 g4.now, .int .i64 g4.timer, .int .i64 (g4.count : Int)], .agg #[.bool false, .bool false, .int .i64 0, .int .i64 0, .int .i64 0, .slice none 0 0], .bool false]) (by simp [results, Try.results25, go_sem, b0, b1, b2, b3, b4, b5, b6, b7, b8, b9, b10, b11, b12, b13, z0, z1, z2, z3, z4, z5]) rfl ?_
    exact RM.leave3 HMN.out HP.out (sl_nil _ _) _ _ _ _ _ _ _ _ _ _ _ _ _ _ _ _ _ _ _ _
end Go.Proofs.Ytjiejpklcjpibaa

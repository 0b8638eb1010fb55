/- The reference's Next: a control frame waits. No condition. -/
import Derived.Test.YtjiejpklcjpibaaAF
namespace Go.Proofs.Ytjiejpklcjpibaa
open Go.RowKit Go.Deep Go.ChangeShapes Go.WideShapes Go.ChangeAt
set_option linter.unusedVariables false

set_option maxRecDepth 20000 in
set_option maxHeartbeats 4000000 in
/-- a control frame waits -/
theorem rnext_ctl (S : Nat → Prop) (f : FS) (vU vC : Value) (t : Int) (w : World) (x : Fm) (xs : List Fm) (hu : SAt w S vU f.units) (hc : CAt w S vC f.ctls) (ok : f.Ok) (hct : f.ctls = x :: xs) :
    Calls Try.prog 25 #[RFV f vU vC, .int .i64 t] w (RNX S w (f.next t)) := by
  obtain ⟨aU, cU, rfl, -, -⟩ := hu.len
  obtain ⟨aC, cC, rfl, -⟩ := id hc
  obtain ⟨nU, hnU⟩ : ∃ n, n = f.units.length := ⟨_, rfl⟩
  obtain ⟨nC, hnC⟩ : ∃ n, n = f.ctls.length := ⟨_, rfl⟩
  rw [← hnU] at hu ⊢
  rw [← hnC] at hc ⊢
  obtain ⟨wb, hwb⟩ : ∃ wb, wb = ((w.alloc (.cells (rfc f (.slice aU nU cU) (.slice aC nC cC)).toArray 54)).alloc (.cells z14.toArray 54)).alloc (.cells z6.toArray 33) := ⟨_, rfl⟩
  have HM : Hid (RM 3 S w wb w.heap.size (w.heap.size + 1) f (.slice aU nU cU) (.slice aC nC cC)) := Lib.hid (RM.start (N := 3) hu hc (by rw [hwb]; exact al (al (al (Below.refl _ _) _) _) _) (by rw [hwb]; exact ((Blk.new w 54 _).alloc _).alloc _) (by rw [hwb]; exact (Blk.newAt (by simp)).alloc _) (by omega) (by omega) (by omega))
  have HZ : Hid (Blk wb (w.heap.size + 2) 33 z6) := Lib.hid (by rw [hwb]; exact Blk.newAt (by simp))
  have HK := Lib.hid HM.out.blk
  have HR := Lib.hid HM.out.res
  have HNU := Lib.hid hnU
  have HNC := Lib.hid hnC
  obtain ⟨g, hg⟩ : ∃ g, g = f.clock t := ⟨_, rfl⟩
  have HG := Lib.hid hg
  have HST : Hid (g.step = f.next t) := Lib.hid (by rw [hg]; rfl)
  unfold rfc z14 z6 at hwb
  clear hu hc hnU hnC hg
  have HCT : Hid (g.ctls = x :: xs) := Lib.hid (by rw [HG.out]; exact hct)
  have hl1 : xs.length ≤ 1 := by have := ok.ctls.1; rw [hct] at this; simpa using this
  have hcn : nC = xs.length + 1 := by rw [HNC.out, hct]; rfl
  have HCN := Lib.hid hcn
  have hn1 : 1 ≤ nC := by omega
  have hn2 : nC ≤ 2 := by omega
  clear hct hcn ok
  unfold RFV
  go_enter Try.func25, Try.ntmps25
  go_upto_region 1 with fail
  rw [← hwb]
  clear hwb
  have x0 := HK.out.at 0 rfl
  have x1 := HK.out.at 1 rfl
  have x2 := HK.out.at 2 rfl
  have x3 := HK.out.at 3 rfl
  have x4 := HK.out.at 4 rfl
  have x5 := HK.out.at 5 rfl
  have x6 := HK.out.at 6 rfl
  have x7 := HK.out.at 7 rfl
  have x8 := HK.out.at 8 rfl
  have x9 := HK.out.at 9 rfl
  have x10 := HK.out.at 10 rfl
  have x11 := HK.out.at 11 rfl
  have x12 := HK.out.at 12 rfl
  have x13 := HK.out.at 13 rfl
  have x14 := HK.out.lt
  go_wp2_with fail
  refine (rat_any f aU nU cU aC nC cC t wb).mono ?_
  rw [← HG.out]
  rintro e w2 ⟨rfl, hB2⟩
  unfold RFV
  have HM2 := Lib.hid (HM.out.below hB2)
  have HB2 := Lib.hid hB2
  clear x0 x1 x2 x3 x4 x5 x6 x7 x8 x9 x10 x11 x12 x13 x14 hB2
  have HK2 := Lib.hid HM2.out.blk
  have x0 := HK2.out.at 0 rfl
  have x1 := HK2.out.at 1 rfl
  have x2 := HK2.out.at 2 rfl
  have x3 := HK2.out.at 3 rfl
  have x4 := HK2.out.at 4 rfl
  have x5 := HK2.out.at 5 rfl
  have x6 := HK2.out.at 6 rfl
  have x7 := HK2.out.at 7 rfl
  have x8 := HK2.out.at 8 rfl
  have x9 := HK2.out.at 9 rfl
  have x10 := HK2.out.at 10 rfl
  have x11 := HK2.out.at 11 rfl
  have x12 := HK2.out.at 12 rfl
  have x13 := HK2.out.at 13 rfl
  have y0 := HK2.out.free 0
  have y1 := HK2.out.free 1
  have y2 := HK2.out.free 2
  have y3 := HK2.out.free 3
  have y4 := HK2.out.free 4
  have y5 := HK2.out.free 5
  have y6 := HK2.out.free 6
  have y7 := HK2.out.free 7
  have y8 := HK2.out.free 8
  have y9 := HK2.out.free 9
  have y10 := HK2.out.free 10
  have y11 := HK2.out.free 11
  have y12 := HK2.out.free 12
  have y13 := HK2.out.free 13
  have x14 := HK2.out.lt
  go_upto_region 2 with fail
  have hF := fin14_fr w2 w.heap.size (.int .i64 g.craft) (.int .i64 g.chan) (.int .i64 (g.size : Int)) (.int .i64 g.tmo) (.int .i64 (g.ret : Int)) (.int .i64 (g.state : Int)) (.slice aU nU cU) (.int .i64 (g.acked : Int)) (.int .i64 (g.flight : Int)) (.int .i64 (g.front : Int)) (.slice aC nC cC) (.int .i64 g.now) (.int .i64 g.timer) (.int .i64 (g.count : Int))
  have hK := fin14_blk HK2.out rfl (.int .i64 g.craft) (.int .i64 g.chan) (.int .i64 (g.size : Int)) (.int .i64 g.tmo) (.int .i64 (g.ret : Int)) (.int .i64 (g.state : Int)) (.slice aU nU cU) (.int .i64 (g.acked : Int)) (.int .i64 (g.flight : Int)) (.int .i64 (g.front : Int)) (.slice aC nC cC) (.int .i64 g.now) (.int .i64 g.timer) (.int .i64 (g.count : Int))
  obtain ⟨wC, hwC⟩ : ∃ wC, wC = fin14 w2 w.heap.size (.int .i64 g.craft) (.int .i64 g.chan) (.int .i64 (g.size : Int)) (.int .i64 g.tmo) (.int .i64 (g.ret : Int)) (.int .i64 (g.state : Int)) (.slice aU nU cU) (.int .i64 (g.acked : Int)) (.int .i64 (g.flight : Int)) (.int .i64 (g.front : Int)) (.slice aC nC cC) (.int .i64 g.now) (.int .i64 g.timer) (.int .i64 (g.count : Int)) := ⟨_, rfl⟩
  rw [← hwC] at hF hK
  unfold fin14 at hwC
  rw [← hwC]
  have HMC : Hid (RM 3 S w wC w.heap.size (w.heap.size + 1) g (.slice aU nU cU) (.slice aC nC cC)) := Lib.hid (HM2.out.num hF hK (by rw [HG.out]; rfl) (by rw [HG.out]; rfl))
  have HFC := Lib.hid hF
  clear hF hK hwC x0 x1 x2 x3 x4 x5 x6 x7 x8 x9 x10 x11 x12 x13 x14 y0 y1 y2 y3 y4 y5 y6 y7 y8 y9 y10 y11 y12 y13
  have HZC := Lib.hid ((HZ.out.below HB2.out (Nat.le_refl _)).fr HFC.out (by omega))
  have hca := HMC.out.ct
  rw [HCT.out] at hca
  obtain ⟨gb, oc, cc, e9, hcc, hcm, hgl, hgs, hfm, hrest⟩ := ctl_some hca
  simp only [Value.slice.injEq] at e9
  obtain ⟨rfl, -, rfl⟩ := e9
  rw [← HCN.out] at hcc
  have HFM := Lib.hid hfm
  have HRS := Lib.hid hrest
  have HGS := Lib.hid hgs
  obtain ⟨k0, k1, k2, k3, k4, vd, k5, k6⟩ := hfm
  obtain ⟨ad, cd, rfl, -, -, -⟩ := id k6
  obtain ⟨xl, hxl⟩ : ∃ k, k = x.data.length := ⟨_, rfl⟩
  rw [← hxl] at k5 k6
  have HV6 := Lib.hid k6
  have hn0 : (0 : Int) < (nC : Int) := by omega
  have hn3 : (1 : Int) ≤ (nC : Int) := by omega
  have hn4 : (1 : Int) ≤ (cC : Int) := by omega
  have x10 := HMC.out.blk.at 10 rfl
  have y10 := HMC.out.blk.free 10
  have xl0 := HMC.out.blk.lt
  clear hca hrest hgs k6 hxl
  go_upto_region 5 with fail
  obtain ⟨A, hA⟩ : ∃ A, (if cC = 1 then some (⟨gb, oc, none⟩ : Addr) else some ⟨gb, oc + 6, none⟩) = A := ⟨_, rfl⟩
  obtain ⟨n1, hn1'⟩ : ∃ k, k = nC - 1 := ⟨_, rfl⟩
  obtain ⟨c1, hc1'⟩ : ∃ k, k = cC - 1 := ⟨_, rfl⟩
  have HRA : Hid (CAt wC (Sv 3 w S) (.slice A n1 c1) xs) := Lib.hid (by
    have h9 := HRS.out
    rw [show xs.length = n1 by have := HCN.out; omega, ← hc1', show (some (⟨gb, if cC = 1 then oc else oc + 6, none⟩ : Addr)) = A by rw [← hA]; split <;> rfl] at h9
    exact h9)
  rw [hA, ← hn1', ← hc1']
  obtain ⟨g3, hg3⟩ : ∃ g3, g3 = { g with ctls := xs } := ⟨_, rfl⟩
  have HP : Hid (f.next t = (g3, some x)) := Lib.hid (by rw [← HST.out]; unfold FS.step; rw [HCT.out]; dsimp only; rw [hg3])
  obtain ⟨w6, hw6⟩ : ∃ w6, w6 = wC.setCell ⟨w.heap.size, 10, none⟩ (.slice A n1 c1) := ⟨_, rfl⟩
  rw [← hw6]
  have hs6 : w6.heap.size = wC.heap.size := by rw [hw6]; simp
  have hF6 : Fr (fun k => k = w.heap.size) wC w6 := by rw [hw6]; exact frs (Fr.refl _ _) _ _
  have hM6 : RM 3 S w w6 w.heap.size (w.heap.size + 1) g3 (.slice aU nU cU) (.slice A n1 c1) := HMC.out.put hF6 (by rw [hw6, hg3]; exact Blk.cast (HMC.out.blk.setCell 10 _) rfl) (by rw [hg3]; exact HMC.out.un.fr hF6 (fun k hk => .inl (.inr (by omega)))) (by rw [hg3]; exact HRA.out.fr hF6 (fun k hk => .inl (.inr (by omega))))
  have hZ6 := HZC.out.fr hF6 (by omega)
  have hV6 := HV6.out.fr hF6 (fun k hk => .inl (.inr (by omega)))
  have hfb : Blk (w6.alloc (.cells #[.bool x.byp, .bool x.ctl, .int .i64 x.craft, .int .i64 x.chan, .int .i64 x.seq, .slice ad xl cd] 33)) wC.heap.size 33 [.bool x.byp, .bool x.ctl, .int .i64 x.craft, .int .i64 x.chan, .int .i64 x.seq, .slice ad xl cd] := Blk.newAt hs6
  have hB7 : Below w6.heap.size w6 (w6.alloc (.cells #[.bool x.byp, .bool x.ctl, .int .i64 x.craft, .int .i64 x.chan, .int .i64 x.seq, .slice ad xl cd] 33)) := al (Below.refl _ _) _
  obtain ⟨w7, hw7⟩ : ∃ w7, w7 = w6.alloc (.cells #[.bool x.byp, .bool x.ctl, .int .i64 x.craft, .int .i64 x.chan, .int .i64 x.seq, .slice ad xl cd] 33) := ⟨_, rfl⟩
  rw [← hw7] at hfb hB7 ⊢
  obtain ⟨fb, hfbq⟩ : ∃ fb, fb = wC.heap.size := ⟨_, rfl⟩
  rw [← hfbq] at hfb ⊢
  have hfb1 : w.heap.size + 2 < fb := by have := HZC.out.lt; omega
  have HM7 : Hid (RM 3 S w w7 w.heap.size (w.heap.size + 1) g3 (.slice aU nU cU) (.slice A n1 c1)) := Lib.hid (hM6.below hB7)
  have HZ7 := Lib.hid (hZ6.below hB7 (Nat.le_refl _))
  have HF7 := Lib.hid hfb
  have HV7 : Hid (Sl w7 (Sv 3 w S) (.slice ad xl cd) x.data) := Lib.hid (hV6.below hB7 (Nat.le_refl _))
  clear hA hn1' hc1' hfb hw6 hw7 hfbq hg3 hF6 hM6 hZ6 hV6 hB7 hs6 x10 y10 xl0 k0 k1 k2 k3 k4 k5
  have HKN : Hid (Blk w7 w.heap.size 54 (rfc g3 (.slice aU nU cU) (.slice A n1 c1))) := Lib.hid HM7.out.blk
  have HRN : Hid (Blk w7 (w.heap.size + 1) 54 z14) := Lib.hid HM7.out.res
  have HZN : Hid (Blk w7 (w.heap.size + 2) 33 z6) := Lib.hid HZ7.out
  have HFN : Hid (Blk w7 fb 33 [.bool x.byp, .bool x.ctl, .int .i64 x.craft, .int .i64 x.chan, .int .i64 x.seq, .slice ad xl cd]) := Lib.hid HF7.out
  have x0 := HKN.out.at 0 rfl
  have x1 := HKN.out.at 1 rfl
  have x2 := HKN.out.at 2 rfl
  have x3 := HKN.out.at 3 rfl
  have x4 := HKN.out.at 4 rfl
  have x5 := HKN.out.at 5 rfl
  have x6 := HKN.out.at 6 rfl
  have x7 := HKN.out.at 7 rfl
  have x8 := HKN.out.at 8 rfl
  have x9 := HKN.out.at 9 rfl
  have x10 := HKN.out.at 10 rfl
  have x11 := HKN.out.at 11 rfl
  have x12 := HKN.out.at 12 rfl
  have x13 := HKN.out.at 13 rfl
  have x14 := HKN.out.lt
  have d0 := HRN.out.at 0 rfl
  have d1 := HRN.out.at 1 rfl
  have d2 := HRN.out.at 2 rfl
  have d3 := HRN.out.at 3 rfl
  have d4 := HRN.out.at 4 rfl
  have d5 := HRN.out.at 5 rfl
  have d6 := HRN.out.at 6 rfl
  have d7 := HRN.out.at 7 rfl
  have d8 := HRN.out.at 8 rfl
  have d9 := HRN.out.at 9 rfl
  have d10 := HRN.out.at 10 rfl
  have d11 := HRN.out.at 11 rfl
  have d12 := HRN.out.at 12 rfl
  have d13 := HRN.out.at 13 rfl
  have e0 := HRN.out.free 0
  have e1 := HRN.out.free 1
  have e2 := HRN.out.free 2
  have e3 := HRN.out.free 3
  have e4 := HRN.out.free 4
  have e5 := HRN.out.free 5
  have e6 := HRN.out.free 6
  have e7 := HRN.out.free 7
  have e8 := HRN.out.free 8
  have e9 := HRN.out.free 9
  have e10 := HRN.out.free 10
  have e11 := HRN.out.free 11
  have e12 := HRN.out.free 12
  have e13 := HRN.out.free 13
  have d14 := HRN.out.lt
  have q0 := HFN.out.at 0 rfl
  have q1 := HFN.out.at 1 rfl
  have q2 := HFN.out.at 2 rfl
  have q3 := HFN.out.at 3 rfl
  have q4 := HFN.out.at 4 rfl
  have q5 := HFN.out.at 5 rfl
  have ql := HFN.out.lt
  have zl := HZN.out.lt
  refine wp_region_held_drew (S := (fun w' => w'.cell? ⟨w.heap.size, 0, none⟩ = some (.int .i64 g3.craft) ∧ w'.cell? ⟨w.heap.size, 1, none⟩ = some (.int .i64 g3.chan) ∧ w'.cell? ⟨w.heap.size, 2, none⟩ = some (.int .i64 (g3.size : Int)) ∧ w'.cell? ⟨w.heap.size, 3, none⟩ = some (.int .i64 g3.tmo) ∧ w'.cell? ⟨w.heap.size, 4, none⟩ = some (.int .i64 (g3.ret : Int)) ∧ w'.cell? ⟨w.heap.size, 5, none⟩ = some (.int .i64 (g3.state : Int)) ∧ w'.cell? ⟨w.heap.size, 6, none⟩ = some ((.slice aU nU cU)) ∧ w'.cell? ⟨w.heap.size, 7, none⟩ = some (.int .i64 (g3.acked : Int)) ∧ w'.cell? ⟨w.heap.size, 8, none⟩ = some (.int .i64 (g3.flight : Int)) ∧ w'.cell? ⟨w.heap.size, 9, none⟩ = some (.int .i64 (g3.front : Int)) ∧ w'.cell? ⟨w.heap.size, 10, none⟩ = some ((.slice A n1 c1)) ∧ w'.cell? ⟨w.heap.size, 11, none⟩ = some (.int .i64 g3.now) ∧ w'.cell? ⟨w.heap.size, 12, none⟩ = some (.int .i64 g3.timer) ∧ w'.cell? ⟨w.heap.size, 13, none⟩ = some (.int .i64 (g3.count : Int)) ∧ w'.cell? ⟨fb, 0, none⟩ = some (.bool x.byp) ∧ w'.cell? ⟨fb, 1, none⟩ = some (.bool x.ctl) ∧ w'.cell? ⟨fb, 2, none⟩ = some (.int .i64 x.craft) ∧ w'.cell? ⟨fb, 3, none⟩ = some (.int .i64 x.chan) ∧ w'.cell? ⟨fb, 4, none⟩ = some (.int .i64 x.seq) ∧ w'.cell? ⟨fb, 5, none⟩ = some (.slice ad xl cd))) (by kernel_rfl) (by (try dsimp only); first | exact ⟨by with_reducible assumption, by with_reducible assumption, by with_reducible assumption, by with_reducible assumption, by with_reducible assumption, by with_reducible assumption, by with_reducible assumption, by with_reducible assumption, by with_reducible assumption, by with_reducible assumption, by with_reducible assumption, by with_reducible assumption, by with_reducible assumption, by with_reducible assumption, by with_reducible assumption, by with_reducible assumption, by with_reducible assumption, by with_reducible assumption, by with_reducible assumption, by with_reducible assumption⟩ | go_keep) (fun hHeld => ?_)
  refine wpAnyH_take (i := 0) (oi := (Oper.mk (some 24) (Op.load 54 (Operand.tmp 2)) 54 "ref.go:62" #[] none)) (v := ?_) rfl (by kernel_rfl) (by kernel_rfl) (by kernel_rfl) (fun _ _ _ h => h) (Or.inl ⟨by rfl, ?_⟩) (by assumption) ?_
  rotate_left
  · (intro w hSw; (try dsimp only at hSw); go_simp; first | done | with_reducible rfl)
  (try simp only [Act.put, List.setIfInBounds_toArray, List.set_cons_zero, List.set_cons_succ])
  refine wpAnyH_take (i := 1) (oi := (Oper.mk (some 25) (Op.load 33 (Operand.tmp 7)) 33 "ref.go:62" #[Edge.mk 2 (Ground.gcOnly Departure.lateStores)] none)) (v := ?_) rfl (by kernel_rfl) (by kernel_rfl) (by kernel_rfl) (fun _ _ _ h => h) (Or.inl ⟨by rfl, ?_⟩) (by assumption) ?_
  rotate_left
  · (intro w hSw; (try dsimp only at hSw); go_simp; first | done | with_reducible rfl)
  (try simp only [Act.put, List.setIfInBounds_toArray, List.set_cons_zero, List.set_cons_succ])
  refine wpAnyH_ready (rs := [2]) (by kernel_rfl) (by simp) ?_
  refine AllReadyH.cons (o := (Oper.mk none (Op.store 54 (Operand.tmp 4) (Operand.tmp 24)) 0 "ref.go:62" #[Edge.mk 0 Ground.data, Edge.mk 0 Ground.phase, Edge.mk 1 (Ground.textOnly Departure.lateStores)] none)) rfl (fun K hK => ?_) (AllReadyH.nil)
  go_simp
  (have hx := HKN.out.fr (fin14_fr w7 (w.heap.size + 1) (.int .i64 g3.craft) (.int .i64 g3.chan) (.int .i64 (g3.size : Int)) (.int .i64 g3.tmo) (.int .i64 (g3.ret : Int)) (.int .i64 (g3.state : Int)) (.slice aU nU cU) (.int .i64 (g3.acked : Int)) (.int .i64 (g3.flight : Int)) (.int .i64 (g3.front : Int)) (.slice A n1 c1) (.int .i64 g3.now) (.int .i64 g3.timer) (.int .i64 (g3.count : Int))) (by omega); have hq := HFN.out.fr (fin14_fr w7 (w.heap.size + 1) (.int .i64 g3.craft) (.int .i64 g3.chan) (.int .i64 (g3.size : Int)) (.int .i64 g3.tmo) (.int .i64 (g3.ret : Int)) (.int .i64 (g3.state : Int)) (.slice aU nU cU) (.int .i64 (g3.acked : Int)) (.int .i64 (g3.flight : Int)) (.int .i64 (g3.front : Int)) (.slice A n1 c1) (.int .i64 g3.now) (.int .i64 g3.timer) (.int .i64 (g3.count : Int))) (by omega); have hz := HZN.out.fr (fin14_fr w7 (w.heap.size + 1) (.int .i64 g3.craft) (.int .i64 g3.chan) (.int .i64 (g3.size : Int)) (.int .i64 g3.tmo) (.int .i64 (g3.ret : Int)) (.int .i64 (g3.state : Int)) (.slice aU nU cU) (.int .i64 (g3.acked : Int)) (.int .i64 (g3.flight : Int)) (.int .i64 (g3.front : Int)) (.slice A n1 c1) (.int .i64 g3.now) (.int .i64 g3.timer) (.int .i64 (g3.count : Int))) (by omega); unfold fin14 at hx hq hz; have HX := Lib.hid hx; have HQ := Lib.hid hq; have HZF := Lib.hid hz; clear hx hq hz; have x0 := HX.out.at 0 rfl; have x1 := HX.out.at 1 rfl; have x2 := HX.out.at 2 rfl; have x3 := HX.out.at 3 rfl; have x4 := HX.out.at 4 rfl; have x5 := HX.out.at 5 rfl; have x6 := HX.out.at 6 rfl; have x7 := HX.out.at 7 rfl; have x8 := HX.out.at 8 rfl; have x9 := HX.out.at 9 rfl; have x10 := HX.out.at 10 rfl; have x11 := HX.out.at 11 rfl; have x12 := HX.out.at 12 rfl; have x13 := HX.out.at 13 rfl; have q0 := HQ.out.at 0 rfl; have q1 := HQ.out.at 1 rfl; have q2 := HQ.out.at 2 rfl; have q3 := HQ.out.at 3 rfl; have q4 := HQ.out.at 4 rfl; have q5 := HQ.out.at 5 rfl; have z0 := HZF.out.at 0 rfl; have z1 := HZF.out.at 1 rfl; have z2 := HZF.out.at 2 rfl; have z3 := HZF.out.at 3 rfl; have z4 := HZF.out.at 4 rfl; have z5 := HZF.out.at 5 rfl; have y0 := HZF.out.free 0; have y1 := HZF.out.free 1; have y2 := HZF.out.free 2; have y3 := HZF.out.free 3; have y4 := HZF.out.free 4; have y5 := HZF.out.free 5)
  refine hK.out _ _ (by (try dsimp only); first | exact ⟨by with_reducible assumption, by with_reducible assumption, by with_reducible assumption, by with_reducible assumption, by with_reducible assumption, by with_reducible assumption, by with_reducible assumption, by with_reducible assumption, by with_reducible assumption, by with_reducible assumption, by with_reducible assumption, by with_reducible assumption, by with_reducible assumption, by with_reducible assumption, by with_reducible assumption, by with_reducible assumption, by with_reducible assumption, by with_reducible assumption, by with_reducible assumption, by with_reducible assumption⟩ | go_keep) (fun hHeld => ?_)
  clear hK K
  (try simp only [Act.put, List.setIfInBounds_toArray, List.set_cons_zero, List.set_cons_succ])
  refine wpAnyH_ready (rs := [3]) (by kernel_rfl) (by simp) ?_
  refine AllReadyH.cons (o := (Oper.mk none (Op.store 33 (Operand.tmp 5) (Operand.tmp 25)) 0 "ref.go:62" #[Edge.mk 1 Ground.data, Edge.mk 2 Ground.chain, Edge.mk 0 Ground.phase, Edge.mk 1 Ground.phase, Edge.mk 2 Ground.phase] none)) rfl (fun K hK => ?_) (AllReadyH.nil)
  go_simp
  (have hx := HX.out.fr (fr_six _ (w.heap.size + 2) (.bool x.byp) (.bool x.ctl) (.int .i64 x.craft) (.int .i64 x.chan) (.int .i64 x.seq) (.slice ad xl cd)) (by omega); have hq := HQ.out.fr (fr_six _ (w.heap.size + 2) (.bool x.byp) (.bool x.ctl) (.int .i64 x.craft) (.int .i64 x.chan) (.int .i64 x.seq) (.slice ad xl cd)) (by omega); have x0 := hx.at 0 rfl; have x1 := hx.at 1 rfl; have x2 := hx.at 2 rfl; have x3 := hx.at 3 rfl; have x4 := hx.at 4 rfl; have x5 := hx.at 5 rfl; have x6 := hx.at 6 rfl; have x7 := hx.at 7 rfl; have x8 := hx.at 8 rfl; have x9 := hx.at 9 rfl; have x10 := hx.at 10 rfl; have x11 := hx.at 11 rfl; have x12 := hx.at 12 rfl; have x13 := hx.at 13 rfl; have q0 := hq.at 0 rfl; have q1 := hq.at 1 rfl; have q2 := hq.at 2 rfl; have q3 := hq.at 3 rfl; have q4 := hq.at 4 rfl; have q5 := hq.at 5 rfl; clear hx hq)
  refine hK.out _ _ (by (try dsimp only); first | exact ⟨by with_reducible assumption, by with_reducible assumption, by with_reducible assumption, by with_reducible assumption, by with_reducible assumption, by with_reducible assumption, by with_reducible assumption, by with_reducible assumption, by with_reducible assumption, by with_reducible assumption, by with_reducible assumption, by with_reducible assumption, by with_reducible assumption, by with_reducible assumption, by with_reducible assumption, by with_reducible assumption, by with_reducible assumption, by with_reducible assumption, by with_reducible assumption, by with_reducible assumption⟩ | go_keep) (fun hHeld => ?_)
  clear hK K
  (try simp only [Act.put, List.setIfInBounds_toArray, List.set_cons_zero, List.set_cons_succ])
  refine wpAnyH_take (i := 4) (oi := (Oper.mk (some 6) (Op.assign (Operand.const (Value.bool true))) 4 "ref.go:62" #[Edge.mk 3 Ground.chain, Edge.mk 0 Ground.phase, Edge.mk 1 Ground.phase, Edge.mk 2 Ground.phase, Edge.mk 3 Ground.phase] none)) (v := ?_) rfl (by kernel_rfl) (by kernel_rfl) (by kernel_rfl) (fun _ _ _ h => h) (Or.inl ⟨by rfl, ?_⟩) (by assumption) ?_
  rotate_left
  · (intro w hSw; (try dsimp only at hSw); go_simp; first | done | with_reducible rfl)
  (try simp only [Act.put, List.setIfInBounds_toArray, List.set_cons_zero, List.set_cons_succ])
  refine wpAnyH_done (by kernel_rfl) ?_ _
  go_wp2_with fail
  have HMN := HM7
  have hb := (fin14_blk HRN.out rfl (.int .i64 g3.craft) (.int .i64 g3.chan) (.int .i64 (g3.size : Int)) (.int .i64 g3.tmo) (.int .i64 (g3.ret : Int)) (.int .i64 (g3.state : Int)) (.slice aU nU cU) (.int .i64 (g3.acked : Int)) (.int .i64 (g3.flight : Int)) (.int .i64 (g3.front : Int)) (.slice A n1 c1) (.int .i64 g3.now) (.int .i64 g3.timer) (.int .i64 (g3.count : Int))).fr (fr_six _ (w.heap.size + 2) (.bool x.byp) (.bool x.ctl) (.int .i64 x.craft) (.int .i64 x.chan) (.int .i64 x.seq) (.slice ad xl cd)) (by omega)
  have hz := six_blk HZF.out rfl (.bool x.byp) (.bool x.ctl) (.int .i64 x.craft) (.int .i64 x.chan) (.int .i64 x.seq) (.slice ad xl cd)
  unfold fin14 at hb
  have HRR := Lib.hid hb
  have HZZ := Lib.hid hz
  clear hb hz
  have b0 := HRR.out.at 0 rfl
  have b1 := HRR.out.at 1 rfl
  have b2 := HRR.out.at 2 rfl
  have b3 := HRR.out.at 3 rfl
  have b4 := HRR.out.at 4 rfl
  have b5 := HRR.out.at 5 rfl
  have b6 := HRR.out.at 6 rfl
  have b7 := HRR.out.at 7 rfl
  have b8 := HRR.out.at 8 rfl
  have b9 := HRR.out.at 9 rfl
  have b10 := HRR.out.at 10 rfl
  have b11 := HRR.out.at 11 rfl
  have b12 := HRR.out.at 12 rfl
  have b13 := HRR.out.at 13 rfl
  have z0 := HZZ.out.at 0 rfl
  have z1 := HZZ.out.at 1 rfl
  have z2 := HZZ.out.at 2 rfl
  have z3 := HZZ.out.at 3 rfl
  have z4 := HZZ.out.at 4 rfl
  have z5 := HZZ.out.at 5 rfl
  refine bodyPost_ret (v := .tuple #[.agg #[.int .i64 g3.craft, .int .i64 g3.chan, .int .i64 (g3.size : Int), .int .i64 g3.tmo, .int .i64 (g3.ret : Int), .int .i64 (g3.state : Int), (.slice aU nU cU), .int .i64 (g3.acked : Int), .int .i64 (g3.flight : Int), .int .i64 (g3.front : Int), (.slice A n1 c1), .int .i64 g3.now, .int .i64 g3.timer, .int .i64 (g3.count : Int)], .agg #[.bool x.byp, .bool x.ctl, .int .i64 x.craft, .int .i64 x.chan, .int .i64 x.seq, .slice ad xl cd], .bool true]) (by simp [results, Try.results25, go_sem, b0, b1, b2, b3, b4, b5, b6, b7, b8, b9, b10, b11, b12, b13, z0, z1, z2, z3, z4, z5]) rfl ?_
  exact (RM.leave3 HMN.out HP.out HV7.out _ _ _ _ _ _ _ _ _ _ _ _ _ _ _ _ _ _ _ _).drew
theorem rnext_any (S : Nat → Prop) (f : FS) (vU vC : Value) (t : Int) (w : World) (hu : SAt w S vU f.units) (hc : CAt w S vC f.ctls) (ok : f.Ok) (hA : f.acked ≤ 1000000000) :
    Calls Try.prog 25 #[RFV f vU vC, .int .i64 t] w (RNX S w (f.next t)) := by
  cases hct : f.ctls with
  | cons x xs => exact rnext_ctl S f vU vC t w x xs hu hc ok hct
  | nil =>
    by_cases hn : f.state ≠ 1 ∨ f.units = []
    · exact rnext_idle S f vU vC t w hu hc hct hn
    · have hs : f.state = 1 := Decidable.not_not.1 fun h => hn (.inl h)
      have hne : f.units ≠ [] := fun h => hn (.inr h)
      by_cases hfl : f.flight < min f.size f.units.length
      · exact rnext_take S f vU vC t w hu hc ok hA hct hs hne (.inl hfl)
      · by_cases hw : (f.clock t).now < f.timer + f.tmo ∨ f.count = f.ret
        · exact rnext_wait S f vU vC t w hu hc ok hct hs hne hfl hw
        · exact rnext_take S f vU vC t w hu hc ok hA hct hs hne (.inr ⟨fun h => hw (.inl h), fun h => hw (.inr h)⟩)
end Go.Proofs.Ytjiejpklcjpibaa

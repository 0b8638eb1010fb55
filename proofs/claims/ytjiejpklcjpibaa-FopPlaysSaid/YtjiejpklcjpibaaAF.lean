/- The reference's Next: a unit is transmitted. No condition. -/
import Derived.Test.YtjiejpklcjpibaaAE
namespace Go.Proofs.Ytjiejpklcjpibaa
open Go.RowKit Go.Deep Go.ChangeShapes Go.WideShapes Go.ChangeAt
set_option linter.unusedVariables false

theorem RNX.drew {S : Nat → Prop} {w w' : World} {r : FS × Option Fm} {e : Ending} (h : RNX S w r e w') : RNX S w r e w'.drew := by
  obtain ⟨vU, vC, v, h1, h2, h3, h4, h5⟩ := h
  have hB : Below w'.heap.size w' w'.drew := Quiet.below ⟨1, rfl⟩
  exact ⟨vU, vC, v, h1, h2.below hB (Nat.le_refl _), h3.below hB (Nat.le_refl _), h4.below hB (Nat.le_refl _), h5.trans (hB.mono h5.size)⟩
set_option maxRecDepth 20000 in
set_option maxHeartbeats 4000000 in
theorem rnext_take (S : Nat → Prop) (f : FS) (vU vC : Value) (t : Int) (w : World) (hu : SAt w S vU f.units) (hc : CAt w S vC f.ctls) (ok : f.Ok) (hA : f.acked ≤ 1000000000) (hct : f.ctls = []) (hs : f.state = 1) (hne : f.units ≠ []) (hw : f.flight < min f.size f.units.length ∨ ¬ (f.clock t).now < f.timer + f.tmo ∧ f.count ≠ f.ret) :
    Calls Try.prog 25 #[RFV f vU vC, .int .i64 t] w (RNX S w (f.next t)) := by
  obtain ⟨aU, cU, rfl, -, -⟩ := hu.len
  obtain ⟨aC, cC, rfl, -⟩ := id hc
  obtain ⟨nU, hnU⟩ : ∃ n, n = f.units.length := ⟨_, rfl⟩
  obtain ⟨nC, hnC⟩ : ∃ n, n = f.ctls.length := ⟨_, rfl⟩
  rw [← hnU] at hu ⊢
  rw [← hnC] at hc ⊢
  obtain ⟨wb, hwb⟩ : ∃ wb, wb = ((w.alloc (.cells (rfc f (.slice aU nU cU) (.slice aC nC cC)).toArray 54)).alloc (.cells z14.toArray 54)).alloc (.cells z6.toArray 33) := ⟨_, rfl⟩
  have HM : Hid (RM 3 S w wb w.heap.size (w.heap.size + 1) f (.slice aU nU cU) (.slice aC nC cC)) := Lib.hid (RM.start (N := 3) hu hc (by rw [hwb]; exact al (al (al (Below.refl _ _) _) _) _) (by rw [hwb]; exact ((Blk.new w 54 _).alloc _).alloc _) (by rw [hwb]; exact (Blk.newAt (by simp)).alloc _) (by omega) (by omega) (by omega))
  have HZ : Hid (Blk wb (w.heap.size + 2) 33 z6) := Lib.hid (by rw [hwb]; exact Blk.newAt (by simp))
  have HK := Lib.hid HM.out.blk
  have HR := Lib.hid HM.out.res
  have HNU := Lib.hid hnU
  have HNC := Lib.hid hnC
  obtain ⟨g, hg⟩ : ∃ g, g = f.clock t := ⟨_, rfl⟩
  have HG := Lib.hid hg
  have HST : Hid (g.step = f.next t) := Lib.hid (by rw [hg]; rfl)
  unfold rfc z14 z6 at hwb
  clear hu hc hnU hnC hg
  have HCT : Hid (g.ctls = []) := Lib.hid (by rw [HG.out]; exact hct)
  have HS1 : Hid (g.state = 1) := Lib.hid (by rw [HG.out]; exact hs)
  have HNE : Hid (g.units ≠ []) := Lib.hid (by rw [HG.out]; exact hne)
  have HGU : Hid (g.units.length = nU) := Lib.hid (by rw [HNU.out, HG.out]; rfl)
  have HWT : Hid (g.flight < min g.size g.units.length ∨ ¬ g.now < g.timer + g.tmo ∧ g.count ≠ g.ret) := Lib.hid (by rw [HG.out]; exact hw)
  have hok : g.Ok := by rw [HG.out]; exact FS.ok_clock ok t
  have hAg : g.acked ≤ 1000000000 := by rw [HG.out]; exact hA
  clear hs hne hw ok hA
  unfold RFV
  go_enter Try.func25, Try.ntmps25
  go_upto_region 1 with fail
  rw [← hwb]
  clear hwb
  have x0 := HK.out.at 0 rfl
  have x1 := HK.out.at 1 rfl
  have x2 := HK.out.at 2 rfl
  have x3 := HK.out.at 3 rfl
  have x4 := HK.out.at 4 rfl
  have x5 := HK.out.at 5 rfl
  have x6 := HK.out.at 6 rfl
  have x7 := HK.out.at 7 rfl
  have x8 := HK.out.at 8 rfl
  have x9 := HK.out.at 9 rfl
  have x10 := HK.out.at 10 rfl
  have x11 := HK.out.at 11 rfl
  have x12 := HK.out.at 12 rfl
  have x13 := HK.out.at 13 rfl
  have x14 := HK.out.lt
  go_wp2_with fail
  refine (rat_any f aU nU cU aC nC cC t wb).mono ?_
  rw [← HG.out]
  rintro e w2 ⟨rfl, hB2⟩
  unfold RFV
  have HM2 := Lib.hid (HM.out.below hB2)
  have HB2 := Lib.hid hB2
  clear x0 x1 x2 x3 x4 x5 x6 x7 x8 x9 x10 x11 x12 x13 x14 hB2
  have HK2 := Lib.hid HM2.out.blk
  have x0 := HK2.out.at 0 rfl
  have x1 := HK2.out.at 1 rfl
  have x2 := HK2.out.at 2 rfl
  have x3 := HK2.out.at 3 rfl
  have x4 := HK2.out.at 4 rfl
  have x5 := HK2.out.at 5 rfl
  have x6 := HK2.out.at 6 rfl
  have x7 := HK2.out.at 7 rfl
  have x8 := HK2.out.at 8 rfl
  have x9 := HK2.out.at 9 rfl
  have x10 := HK2.out.at 10 rfl
  have x11 := HK2.out.at 11 rfl
  have x12 := HK2.out.at 12 rfl
  have x13 := HK2.out.at 13 rfl
  have y0 := HK2.out.free 0
  have y1 := HK2.out.free 1
  have y2 := HK2.out.free 2
  have y3 := HK2.out.free 3
  have y4 := HK2.out.free 4
  have y5 := HK2.out.free 5
  have y6 := HK2.out.free 6
  have y7 := HK2.out.free 7
  have y8 := HK2.out.free 8
  have y9 := HK2.out.free 9
  have y10 := HK2.out.free 10
  have y11 := HK2.out.free 11
  have y12 := HK2.out.free 12
  have y13 := HK2.out.free 13
  have x14 := HK2.out.lt
  go_upto_region 2 with fail
  have hF := fin14_fr w2 w.heap.size (.int .i64 g.craft) (.int .i64 g.chan) (.int .i64 (g.size : Int)) (.int .i64 g.tmo) (.int .i64 (g.ret : Int)) (.int .i64 (g.state : Int)) (.slice aU nU cU) (.int .i64 (g.acked : Int)) (.int .i64 (g.flight : Int)) (.int .i64 (g.front : Int)) (.slice aC nC cC) (.int .i64 g.now) (.int .i64 g.timer) (.int .i64 (g.count : Int))
  have hK := fin14_blk HK2.out rfl (.int .i64 g.craft) (.int .i64 g.chan) (.int .i64 (g.size : Int)) (.int .i64 g.tmo) (.int .i64 (g.ret : Int)) (.int .i64 (g.state : Int)) (.slice aU nU cU) (.int .i64 (g.acked : Int)) (.int .i64 (g.flight : Int)) (.int .i64 (g.front : Int)) (.slice aC nC cC) (.int .i64 g.now) (.int .i64 g.timer) (.int .i64 (g.count : Int))
  obtain ⟨wC, hwC⟩ : ∃ wC, wC = fin14 w2 w.heap.size (.int .i64 g.craft) (.int .i64 g.chan) (.int .i64 (g.size : Int)) (.int .i64 g.tmo) (.int .i64 (g.ret : Int)) (.int .i64 (g.state : Int)) (.slice aU nU cU) (.int .i64 (g.acked : Int)) (.int .i64 (g.flight : Int)) (.int .i64 (g.front : Int)) (.slice aC nC cC) (.int .i64 g.now) (.int .i64 g.timer) (.int .i64 (g.count : Int)) := ⟨_, rfl⟩
  rw [← hwC] at hF hK
  unfold fin14 at hwC
  rw [← hwC]
  have HMC : Hid (RM 3 S w wC w.heap.size (w.heap.size + 1) g (.slice aU nU cU) (.slice aC nC cC)) := Lib.hid (HM2.out.num hF hK (by rw [HG.out]; rfl) (by rw [HG.out]; rfl))
  have HFC := Lib.hid hF
  clear hF hK hwC x0 x1 x2 x3 x4 x5 x6 x7 x8 x9 x10 x11 x12 x13 x14 y0 y1 y2 y3 y4 y5 y6 y7 y8 y9 y10 y11 y12 y13
  have HZC := Lib.hid ((HZ.out.below HB2.out (Nat.le_refl _)).fr HFC.out (by omega))
  have hn0 : nC = 0 := by rw [HNC.out, hct]; rfl
  subst hn0
  obtain ⟨mn, hmn⟩ : ∃ m, m = min nU g.size := ⟨_, rfl⟩
  have hm9 : min (nU : Int) (g.size : Int) = (mn : Int) := by omega
  have HMN0 := Lib.hid hmn
  clear hmn
  have e1 : ((g.state : Int) != 1) = false := by rw [HS1.out]; rfl
  have e2 : ((g.state : Int) == 1) = true := by rw [HS1.out]; rfl
  have hu0 : nU ≠ 0 := by rw [← HGU.out]; intro e; exact HNE.out (List.length_eq_zero_iff.1 e)
  have e3 : ((nU : Int) == 0) = false := by rw [beq_eq_false_iff_ne]; omega
  have e4 : (nU == 0) = false := by rw [beq_eq_false_iff_ne]; exact hu0
  obtain ⟨h1, h1'⟩ := hok.timer
  obtain ⟨h2, h2'⟩ := hok.tmo
  have h3 := hok.ret
  have h4 := hok.count
  have h5 := hok.front
  have h6 := hok.flight
  have h7 := hok.size.1
  have h8 := hok.size.2
  have h9 := hok.units
  have HOK := Lib.hid hok
  have HU0 := Lib.hid hu0
  clear hct hok hu0
  have HKC := Lib.hid HMC.out.blk
  obtain ⟨g2, hg2⟩ : ∃ g2, g2 = (if g.flight < min g.size g.units.length then g else { g with count := g.count + 1, flight := 0 }) := ⟨_, rfl⟩
  have HG2 := Lib.hid hg2
  clear hg2
  have x0 := HKC.out.at 0 rfl
  have x1 := HKC.out.at 1 rfl
  have x2 := HKC.out.at 2 rfl
  have x3 := HKC.out.at 3 rfl
  have x4 := HKC.out.at 4 rfl
  have x5 := HKC.out.at 5 rfl
  have x6 := HKC.out.at 6 rfl
  have x7 := HKC.out.at 7 rfl
  have x8 := HKC.out.at 8 rfl
  have x9 := HKC.out.at 9 rfl
  have x10 := HKC.out.at 10 rfl
  have x11 := HKC.out.at 11 rfl
  have x12 := HKC.out.at 12 rfl
  have x13 := HKC.out.at 13 rfl
  have x14 := HKC.out.lt
  have y8 := HKC.out.free 8
  have y13 := HKC.out.free 13
  go_upto_if 45 with fail
  go_cut [] (fun wx => RM 3 S w wx w.heap.size (w.heap.size + 1) g2 (.slice aU nU cU) (.slice aC 0 cC) ∧ Blk wx (w.heap.size + 2) 33 z6)
  case first =>
    by_cases hf : g.flight < min g.size g.units.length
    · have e9 : ¬ (mn : Int) ≤ (g.flight : Int) := by have := HMN0.out; rw [HGU.out] at hf; omega
      have HGG : Hid (g2 = g) := Lib.hid (by rw [HG2.out, if_pos hf])
      clear hf
      go_wp2_with fail
      go_meet
      case rel => exact ⟨by rw [HGG.out]; exact HMC.out, HZC.out⟩
    · obtain ⟨hw1, hw2⟩ := HWT.out.resolve_left hf
      have e9 : (mn : Int) ≤ (g.flight : Int) := by have := HMN0.out; rw [HGU.out] at hf; omega
      have e10 : ¬ (g.ret : Int) ≤ (g.count : Int) := by omega
      obtain ⟨ct, hct⟩ : ∃ k, k = g.count + 1 := ⟨_, rfl⟩
      have j1 : (g.count : Int) + 1 = (ct : Int) := by omega
      have HGG : Hid (g2 = { g with count := ct, flight := 0 }) := Lib.hid (by rw [HG2.out, if_neg hf, hct])
      clear hf hw2 hct
      go_wp2_with fail
      go_meet
      case rel =>
        have hF : Fr (fun k => k = w.heap.size) wC ((wC.setCell ⟨w.heap.size, 13, none⟩ (.int .i64 (ct : Int))).setCell ⟨w.heap.size, 8, none⟩ (.int .i64 0)) := frs (frs (Fr.refl _ _) _ _) _ _
        exact ⟨HMC.out.num hF (by rw [HGG.out]; exact Blk.cast ((HMC.out.blk.setCell 13 _).setCell 8 _) rfl) (by rw [HGG.out]) (by rw [HGG.out]), HZC.out.fr hF (by omega)⟩
  case rest =>
    clear x0 x1 x2 x3 x4 x5 x6 x7 x8 x9 x10 x11 x12 x13 x14 y8 y13
    obtain ⟨hc1, hc2⟩ := hcut
    obtain ⟨w5, hw5⟩ : ∃ w5, w5 = wc := ⟨wc, rfl⟩
    subst hw5
    have HM5 := Lib.hid hc1
    have HZ5 := Lib.hid hc2
    have HUU : Hid (g2.units = g.units) := Lib.hid (by rw [HG2.out]; split <;> rfl)
    have hfl : g2.flight < nU := by
      rw [← HGU.out]
      rw [HG2.out]
      split
      · omega
      · have := HU0.out; rw [← HGU.out] at this; show 0 < g.units.length; omega
    have hfl2 : g2.flight ≤ 127 := by rw [HG2.out]; split <;> first | omega | exact Nat.zero_le _
    have hfr2 : g2.front ≤ 127 := by rw [HG2.out]; split <;> (show g.front ≤ 127; omega)
    have hak2 : g2.acked ≤ 1000000000 := by rw [HG2.out]; split <;> exact hAg
    have HTK : Hid (f.next t = FS.some g2.take) := Lib.hid (by
      rw [← HST.out]
      unfold FS.step
      rw [HCT.out]
      dsimp only
      rw [if_neg (by rw [HS1.out]; simp [HNE.out]), HG2.out]
      split
      · rfl
      · rename_i hnf
        obtain ⟨hw1, hw2⟩ := HWT.out.resolve_left hnf
        rw [if_neg (by omega), if_neg hw2, HCT.out])
    clear hc1 hc2 h1 h1' h2 h2' h3 h4 h5 h6 h7 h8 h9 hm9 e1 e2 e3 e4 hAg
    obtain ⟨x, hx⟩ : ∃ x, x = g2.units.getD g2.flight [] := ⟨_, rfl⟩
    have HSU := HM5.out.un
    have hulen : g2.units.length = nU := by rw [HUU.out, HGU.out]
    obtain ⟨bU, oU, cpU, ax, cx, eU, hcU, hcm, hbU, hcell, hcx, hcxm, hax, hsx⟩ := HSU.get (i := g2.flight) (by rw [hulen]; exact hfl)
    simp only [Value.slice.injEq] at eU
    obtain ⟨rfl, -, rfl⟩ := eU
    have hgx : g2.units[g2.flight]'(by rw [hulen]; exact hfl) = x := by rw [hx]; simp [hulen, hfl]
    rw [hgx] at hcell hcx hax hsx
    rw [hulen] at hcU
    have HV0 : Hid (Sl w5 (Sv 3 w S) (.slice ax x.length cx) x) := Lib.hid ⟨ax, cx, rfl, hcx, hcxm, hax, hsx⟩
    obtain ⟨xl, hxl⟩ : ∃ k, k = x.length := ⟨_, rfl⟩
    rw [← hxl] at hcell HV0
    have HX := Lib.hid hx
    have HXL := Lib.hid hxl
    obtain ⟨sq, hsq⟩ : ∃ k, k = (g2.acked + g2.flight) % 256 := ⟨_, rfl⟩
    have HSQ := Lib.hid hsq
    have hwp : IntKind.i64.wrap ((g2.acked : Int) + (g2.flight : Int)) = (g2.acked : Int) + (g2.flight : Int) := IntWalk.i64_in _ (by omega)
    have htm : ((g2.acked : Int) + (g2.flight : Int)).tmod 256 = (sq : Int) := by rw [Int.tmod_eq_emod_of_nonneg (by omega)]; omega
    have i1 : (g2.flight : Int) < (nU : Int) := by omega
    have i2 : (0 : Int) ≤ (g2.flight : Int) := by omega
    clear HSU hx hxl hsq hgx hcx hcxm hax hsx hulen
    have x0 := HM5.out.blk.at 0 rfl
    have x1 := HM5.out.blk.at 1 rfl
    have x6 := HM5.out.blk.at 6 rfl
    have x7 := HM5.out.blk.at 7 rfl
    have x8 := HM5.out.blk.at 8 rfl
    have x14 := HM5.out.blk.lt
    go_upto_region 16 with fail
    refine wp_region_held_drew (S := (fun w' => w'.cell? ⟨w.heap.size, 0, none⟩ = some (.int .i64 g2.craft) ∧ w'.cell? ⟨w.heap.size, 1, none⟩ = some (.int .i64 g2.chan) ∧ w'.cell? ⟨w.heap.size, 6, none⟩ = some (.slice (some ⟨bU, oU, none⟩) nU cU) ∧ w'.cell? ⟨w.heap.size, 7, none⟩ = some (.int .i64 (g2.acked : Int)) ∧ w'.cell? ⟨w.heap.size, 8, none⟩ = some (.int .i64 (g2.flight : Int)) ∧ w'.cell? ⟨bU, oU + g2.flight, none⟩ = some (.slice ax xl cx))) (by kernel_rfl) (by (try dsimp only); first | exact ⟨by with_reducible assumption, by with_reducible assumption, by with_reducible assumption, by with_reducible assumption, by with_reducible assumption, by with_reducible assumption⟩ | go_keep) (fun hHeld => ?_)
    refine wpAnyH_take (i := 0) (oi := (Oper.mk (some 69) (Op.fieldAddr 54 (Operand.tmp 2) 0) 0 "ref.go:78" #[] none)) (v := ?_) rfl (by kernel_rfl) (by kernel_rfl) (by kernel_rfl) (fun _ _ _ h => h) (Or.inl ⟨by rfl, ?_⟩) (by assumption) ?_
    rotate_left
    · (intro w hSw; (try dsimp only at hSw); go_simp; first | done | with_reducible rfl)
    (try simp only [Act.put, List.setIfInBounds_toArray, List.set_cons_zero, List.set_cons_succ])
    refine wpAnyH_take (i := 1) (oi := (Oper.mk (some 70) (Op.load 3 (Operand.tmp 69)) 3 "ref.go:78" #[Edge.mk 0 Ground.data] none)) (v := ?_) rfl (by kernel_rfl) (by kernel_rfl) (by kernel_rfl) (fun _ _ _ h => h) (Or.inl ⟨by rfl, ?_⟩) (by assumption) ?_
    rotate_left
    · (intro w hSw; (try dsimp only at hSw); go_simp; first | done | with_reducible rfl)
    (try simp only [Act.put, List.setIfInBounds_toArray, List.set_cons_zero, List.set_cons_succ])
    refine wpAnyH_take (i := 2) (oi := (Oper.mk (some 71) (Op.fieldAddr 54 (Operand.tmp 2) 1) 0 "ref.go:78" #[] none)) (v := ?_) rfl (by kernel_rfl) (by kernel_rfl) (by kernel_rfl) (fun _ _ _ h => h) (Or.inl ⟨by rfl, ?_⟩) (by assumption) ?_
    rotate_left
    · (intro w hSw; (try dsimp only at hSw); go_simp; first | done | with_reducible rfl)
    (try simp only [Act.put, List.setIfInBounds_toArray, List.set_cons_zero, List.set_cons_succ])
    refine wpAnyH_take (i := 3) (oi := (Oper.mk (some 72) (Op.load 3 (Operand.tmp 71)) 3 "ref.go:78" #[Edge.mk 2 Ground.data] none)) (v := ?_) rfl (by kernel_rfl) (by kernel_rfl) (by kernel_rfl) (fun _ _ _ h => h) (Or.inl ⟨by rfl, ?_⟩) (by assumption) ?_
    rotate_left
    · (intro w hSw; (try dsimp only at hSw); go_simp; first | done | with_reducible rfl)
    (try simp only [Act.put, List.setIfInBounds_toArray, List.set_cons_zero, List.set_cons_succ])
    refine wpAnyH_take (i := 4) (oi := (Oper.mk (some 73) (Op.fieldAddr 54 (Operand.tmp 2) 7) 0 "ref.go:78" #[] none)) (v := ?_) rfl (by kernel_rfl) (by kernel_rfl) (by kernel_rfl) (fun _ _ _ h => h) (Or.inl ⟨by rfl, ?_⟩) (by assumption) ?_
    rotate_left
    · (intro w hSw; (try dsimp only at hSw); go_simp; first | done | with_reducible rfl)
    (try simp only [Act.put, List.setIfInBounds_toArray, List.set_cons_zero, List.set_cons_succ])
    refine wpAnyH_take (i := 5) (oi := (Oper.mk (some 74) (Op.load 3 (Operand.tmp 73)) 3 "ref.go:78" #[Edge.mk 4 Ground.data] none)) (v := ?_) rfl (by kernel_rfl) (by kernel_rfl) (by kernel_rfl) (fun _ _ _ h => h) (Or.inl ⟨by rfl, ?_⟩) (by assumption) ?_
    rotate_left
    · (intro w hSw; (try dsimp only at hSw); go_simp; first | done | with_reducible rfl)
    (try simp only [Act.put, List.setIfInBounds_toArray, List.set_cons_zero, List.set_cons_succ])
    refine wpAnyH_take (i := 6) (oi := (Oper.mk (some 75) (Op.fieldAddr 54 (Operand.tmp 2) 8) 0 "ref.go:78" #[] none)) (v := ?_) rfl (by kernel_rfl) (by kernel_rfl) (by kernel_rfl) (fun _ _ _ h => h) (Or.inl ⟨by rfl, ?_⟩) (by assumption) ?_
    rotate_left
    · (intro w hSw; (try dsimp only at hSw); go_simp; first | done | with_reducible rfl)
    (try simp only [Act.put, List.setIfInBounds_toArray, List.set_cons_zero, List.set_cons_succ])
    refine wpAnyH_take (i := 7) (oi := (Oper.mk (some 76) (Op.load 3 (Operand.tmp 75)) 3 "ref.go:78" #[Edge.mk 6 Ground.data] none)) (v := ?_) rfl (by kernel_rfl) (by kernel_rfl) (by kernel_rfl) (fun _ _ _ h => h) (Or.inl ⟨by rfl, ?_⟩) (by assumption) ?_
    rotate_left
    · (intro w hSw; (try dsimp only at hSw); go_simp; first | done | with_reducible rfl)
    (try simp only [Act.put, List.setIfInBounds_toArray, List.set_cons_zero, List.set_cons_succ])
    refine wpAnyH_take (i := 8) (oi := (Oper.mk (some 77) (Op.binOp BinOp.add 3 (Operand.tmp 74) (Operand.tmp 76) 3) 3 "ref.go:78" #[Edge.mk 5 Ground.data, Edge.mk 7 Ground.data] none)) (v := ?_) rfl (by kernel_rfl) (by kernel_rfl) (by kernel_rfl) (fun _ _ _ h => h) (Or.inl ⟨by rfl, ?_⟩) (by assumption) ?_
    rotate_left
    · (intro w hSw; (try dsimp only at hSw); go_simp; first | done | with_reducible rfl)
    (try simp only [Act.put, List.setIfInBounds_toArray, List.set_cons_zero, List.set_cons_succ])
    refine wpAnyH_take (i := 9) (oi := (Oper.mk (some 78) (Op.binOp BinOp.rem 3 (Operand.tmp 77) (Operand.const (Value.int IntKind.i64 256)) 3) 3 "ref.go:78" #[Edge.mk 8 Ground.data] none)) (v := ?_) rfl (by kernel_rfl) (by kernel_rfl) (by kernel_rfl) (fun _ _ _ h => h) (Or.inl ⟨by rfl, ?_⟩) (by assumption) ?_
    rotate_left
    · (intro w hSw; (try dsimp only at hSw); go_simp; first | done | with_reducible rfl)
    (try simp only [Act.put, List.setIfInBounds_toArray, List.set_cons_zero, List.set_cons_succ])
    refine wpAnyH_take (i := 10) (oi := (Oper.mk (some 79) (Op.fieldAddr 54 (Operand.tmp 2) 6) 0 "ref.go:78" #[] none)) (v := ?_) rfl (by kernel_rfl) (by kernel_rfl) (by kernel_rfl) (fun _ _ _ h => h) (Or.inl ⟨by rfl, ?_⟩) (by assumption) ?_
    rotate_left
    · (intro w hSw; (try dsimp only at hSw); go_simp; first | done | with_reducible rfl)
    (try simp only [Act.put, List.setIfInBounds_toArray, List.set_cons_zero, List.set_cons_succ])
    refine wpAnyH_take (i := 11) (oi := (Oper.mk (some 80) (Op.load 22 (Operand.tmp 79)) 22 "ref.go:78" #[Edge.mk 10 Ground.data] none)) (v := ?_) rfl (by kernel_rfl) (by kernel_rfl) (by kernel_rfl) (fun _ _ _ h => h) (Or.inl ⟨by rfl, ?_⟩) (by assumption) ?_
    rotate_left
    · (intro w hSw; (try dsimp only at hSw); go_simp; first | done | with_reducible rfl)
    (try simp only [Act.put, List.setIfInBounds_toArray, List.set_cons_zero, List.set_cons_succ])
    refine wpAnyH_take (i := 12) (oi := (Oper.mk (some 81) (Op.fieldAddr 54 (Operand.tmp 2) 8) 0 "ref.go:78" #[] none)) (v := ?_) rfl (by kernel_rfl) (by kernel_rfl) (by kernel_rfl) (fun _ _ _ h => h) (Or.inl ⟨by rfl, ?_⟩) (by assumption) ?_
    rotate_left
    · (intro w hSw; (try dsimp only at hSw); go_simp; first | done | with_reducible rfl)
    (try simp only [Act.put, List.setIfInBounds_toArray, List.set_cons_zero, List.set_cons_succ])
    refine wpAnyH_take (i := 13) (oi := (Oper.mk (some 82) (Op.load 3 (Operand.tmp 81)) 3 "ref.go:78" #[Edge.mk 12 Ground.data] none)) (v := ?_) rfl (by kernel_rfl) (by kernel_rfl) (by kernel_rfl) (fun _ _ _ h => h) (Or.inl ⟨by rfl, ?_⟩) (by assumption) ?_
    rotate_left
    · (intro w hSw; (try dsimp only at hSw); go_simp; first | done | with_reducible rfl)
    (try simp only [Act.put, List.setIfInBounds_toArray, List.set_cons_zero, List.set_cons_succ])
    refine wpAnyH_take (i := 14) (oi := (Oper.mk (some 83) (Op.indexAddr 22 (Operand.tmp 80) (Operand.tmp 82)) 0 "ref.go:78" #[Edge.mk 11 Ground.data, Edge.mk 13 Ground.data] none)) (v := ?_) rfl (by kernel_rfl) (by kernel_rfl) (by kernel_rfl) (fun _ _ _ h => h) (Or.inl ⟨by rfl, ?_⟩) (by assumption) ?_
    rotate_left
    · (intro w hSw; (try dsimp only at hSw); go_simp; first | done | with_reducible rfl)
    (try simp only [Act.put, List.setIfInBounds_toArray, List.set_cons_zero, List.set_cons_succ])
    refine wpAnyH_take (i := 15) (oi := (Oper.mk (some 84) (Op.load 23 (Operand.tmp 83)) 23 "ref.go:78" #[Edge.mk 14 Ground.data] none)) (v := ?_) rfl (by kernel_rfl) (by kernel_rfl) (by kernel_rfl) (fun _ _ _ h => h) (Or.inl ⟨by rfl, ?_⟩) (by assumption) ?_
    rotate_left
    · (intro w hSw; (try dsimp only at hSw); go_simp; first | done | with_reducible rfl)
    (try simp only [Act.put, List.setIfInBounds_toArray, List.set_cons_zero, List.set_cons_succ])
    refine wpAnyH_take (i := 16) (oi := (Oper.mk (some 85) (Op.build 33 #[(2, Operand.tmp 70), (3, Operand.tmp 72), (4, Operand.tmp 78), (5, Operand.tmp 84)]) 33 "ref.go:78" #[Edge.mk 1 Ground.data, Edge.mk 3 Ground.data, Edge.mk 9 Ground.data, Edge.mk 15 Ground.data] none)) (v := ?_) rfl (by kernel_rfl) (by kernel_rfl) (by kernel_rfl) (fun _ _ _ h => h) (Or.inl ⟨by rfl, ?_⟩) (by assumption) ?_
    rotate_left
    · (intro w hSw; (try dsimp only at hSw); go_simp; first | done | with_reducible rfl)
    (try simp only [Act.put, List.setIfInBounds_toArray, List.set_cons_zero, List.set_cons_succ])
    refine wpAnyH_ready (rs := [17]) (by kernel_rfl) (by simp) ?_
    refine AllReadyH.cons (o := (Oper.mk (some 8) (Op.alloc 33) 0 "ref.go:78" #[] none)) rfl (fun K hK => ?_) (AllReadyH.nil)
    go_simp
    skip
    refine hK.out _ _ (by (try dsimp only); first | exact ⟨by with_reducible assumption, by with_reducible assumption, by with_reducible assumption, by with_reducible assumption, by with_reducible assumption, by with_reducible assumption⟩ | go_keep) (fun hHeld => ?_)
    clear hK K
    (try simp only [Act.put, List.setIfInBounds_toArray, List.set_cons_zero, List.set_cons_succ])
    refine wpAnyH_ready (rs := [18]) (by kernel_rfl) (by simp) ?_
    refine AllReadyH.cons (o := (Oper.mk none (Op.store 33 (Operand.tmp 8) (Operand.tmp 85)) 0 "ref.go:78" #[Edge.mk 17 Ground.data, Edge.mk 16 Ground.data, Edge.mk 0 Ground.phase, Edge.mk 1 Ground.phase, Edge.mk 2 Ground.phase, Edge.mk 3 Ground.phase, Edge.mk 4 Ground.phase, Edge.mk 5 Ground.phase, Edge.mk 6 Ground.phase, Edge.mk 7 Ground.phase, Edge.mk 8 Ground.phase, Edge.mk 9 Ground.phase, Edge.mk 10 Ground.phase, Edge.mk 11 Ground.phase, Edge.mk 12 Ground.phase, Edge.mk 13 Ground.phase, Edge.mk 14 Ground.phase, Edge.mk 15 Ground.phase, Edge.mk 16 Ground.phase, Edge.mk 17 Ground.phase] none)) rfl (fun K hK => ?_) (AllReadyH.nil)
    go_simp
    skip
    refine hK.out _ _ (by (try dsimp only); first | exact ⟨by with_reducible assumption, by with_reducible assumption, by with_reducible assumption, by with_reducible assumption, by with_reducible assumption, by with_reducible assumption⟩ | go_keep) (fun hHeld => ?_)
    clear hK K
    (try simp only [Act.put, List.setIfInBounds_toArray, List.set_cons_zero, List.set_cons_succ])
    refine wpAnyH_done (by kernel_rfl) ?_ _
    have hfb : Blk (w5.alloc (.cells #[.bool false, .bool false, .int .i64 g2.craft, .int .i64 g2.chan, .int .i64 (sq : Int), .slice ax xl cx] 33)) w5.heap.size 33 [.bool false, .bool false, .int .i64 g2.craft, .int .i64 g2.chan, .int .i64 (sq : Int), .slice ax xl cx] := Blk.new w5 33 _
    have hB6 : Below w5.heap.size w5 (w5.alloc (.cells #[.bool false, .bool false, .int .i64 g2.craft, .int .i64 g2.chan, .int .i64 (sq : Int), .slice ax xl cx] 33)).drew := (al (Below.refl _ _) _).drew
    obtain ⟨w6, hw6⟩ : ∃ w6, w6 = (w5.alloc (.cells #[.bool false, .bool false, .int .i64 g2.craft, .int .i64 g2.chan, .int .i64 (sq : Int), .slice ax xl cx] 33)).drew := ⟨_, rfl⟩
    have HF6 : Hid (Blk w6 w5.heap.size 33 [.bool false, .bool false, .int .i64 g2.craft, .int .i64 g2.chan, .int .i64 (sq : Int), .slice ax xl cx]) := Lib.hid (by rw [hw6]; exact hfb)
    rw [← hw6] at hB6 ⊢
    have HM6 := Lib.hid (HM5.out.below hB6)
    have HZ6 := Lib.hid (HZ5.out.below hB6 (Nat.le_refl _))
    have HV6 := Lib.hid (HV0.out.below hB6 (Nat.le_refl _))
    obtain ⟨fb, hfbq⟩ : ∃ fb, fb = w5.heap.size := ⟨_, rfl⟩
    rw [← hfbq] at HF6 ⊢
    have hfb1 : w.heap.size + 2 < fb := by have := HZ5.out.lt; omega
    clear hfb hB6 hw6 hfbq x0 x1 x6 x7 x8 x14 hwp htm HM5 HZ5 HV0 i1 i2 hcell hbU
    have x8 := HM6.out.blk.at 8 rfl
    have x9 := HM6.out.blk.at 9 rfl
    have x11 := HM6.out.blk.at 11 rfl
    have x12 := HM6.out.blk.at 12 rfl
    have y8 := HM6.out.blk.free 8
    have y9 := HM6.out.blk.free 9
    have y12 := HM6.out.blk.free 12
    have xl6 := HM6.out.blk.lt
    obtain ⟨fl1, hfl1⟩ : ∃ k, k = g2.flight + 1 := ⟨_, rfl⟩
    obtain ⟨mx, hmx⟩ : ∃ k, k = max g2.front (g2.flight + 1) := ⟨_, rfl⟩
    have j1 : (g2.flight : Int) + 1 = (fl1 : Int) := by omega
    have j2 : max (g2.front : Int) (fl1 : Int) = (mx : Int) := by omega
    obtain ⟨g3, hg3⟩ : ∃ g3, g3 = { g2 with flight := fl1, front := mx, timer := g2.now } := ⟨_, rfl⟩
    have HP : Hid (f.next t = (g3, some ⟨false, false, g2.craft, g2.chan, (sq : Int), x⟩)) := Lib.hid (by rw [HTK.out, hg3, hfl1, hmx, HSQ.out, HX.out]; rfl)
    clear hfl1 hmx
    go_upto_region 20 with fail
    obtain ⟨w7, hw7⟩ : ∃ w7, w7 = ((w6.setCell ⟨w.heap.size, 8, none⟩ (.int .i64 (fl1 : Int))).setCell ⟨w.heap.size, 9, none⟩ (.int .i64 (mx : Int))).setCell ⟨w.heap.size, 12, none⟩ (.int .i64 g2.now) := ⟨_, rfl⟩
    rw [← hw7]
    have hF7 : Fr (fun k => k = w.heap.size) w6 w7 := by rw [hw7]; exact frs (frs (frs (Fr.refl _ _) _ _) _ _) _ _
    have HM7 : Hid (RM 3 S w w7 w.heap.size (w.heap.size + 1) g3 (.slice (some ⟨bU, oU, none⟩) nU cU) (.slice aC 0 cC)) := Lib.hid (HM6.out.num hF7 (by rw [hw7, hg3]; exact Blk.cast (((HM6.out.blk.setCell 8 _).setCell 9 _).setCell 12 _) rfl) (by rw [hg3]) (by rw [hg3]))
    have HZ7 := Lib.hid (HZ6.out.fr hF7 (by omega))
    have HF7 := Lib.hid (HF6.out.fr hF7 (by omega))
    have HV7 : Hid (Sl w7 (Sv 3 w S) (.slice ax xl cx) x) := Lib.hid (HV6.out.fr hF7 (fun k hk => .inl (.inr (by omega))))
    clear hw7 hg3 hF7 x8 x9 x11 x12 y8 y9 y12 xl6 j1 j2
    have HKN : Hid (Blk w7 w.heap.size 54 (rfc g3 (.slice (some ⟨bU, oU, none⟩) nU cU) (.slice aC 0 cC))) := Lib.hid HM7.out.blk
    have HRN : Hid (Blk w7 (w.heap.size + 1) 54 z14) := Lib.hid HM7.out.res
    have HZN : Hid (Blk w7 (w.heap.size + 2) 33 z6) := Lib.hid HZ7.out
    have HFN : Hid (Blk w7 fb 33 [.bool false, .bool false, .int .i64 g2.craft, .int .i64 g2.chan, .int .i64 (sq : Int), .slice ax xl cx]) := Lib.hid HF7.out
    have x0 := HKN.out.at 0 rfl
    have x1 := HKN.out.at 1 rfl
    have x2 := HKN.out.at 2 rfl
    have x3 := HKN.out.at 3 rfl
    have x4 := HKN.out.at 4 rfl
    have x5 := HKN.out.at 5 rfl
    have x6 := HKN.out.at 6 rfl
    have x7 := HKN.out.at 7 rfl
    have x8 := HKN.out.at 8 rfl
    have x9 := HKN.out.at 9 rfl
    have x10 := HKN.out.at 10 rfl
    have x11 := HKN.out.at 11 rfl
    have x12 := HKN.out.at 12 rfl
    have x13 := HKN.out.at 13 rfl
    have x14 := HKN.out.lt
    have d0 := HRN.out.at 0 rfl
    have d1 := HRN.out.at 1 rfl
    have d2 := HRN.out.at 2 rfl
    have d3 := HRN.out.at 3 rfl
    have d4 := HRN.out.at 4 rfl
    have d5 := HRN.out.at 5 rfl
    have d6 := HRN.out.at 6 rfl
    have d7 := HRN.out.at 7 rfl
    have d8 := HRN.out.at 8 rfl
    have d9 := HRN.out.at 9 rfl
    have d10 := HRN.out.at 10 rfl
    have d11 := HRN.out.at 11 rfl
    have d12 := HRN.out.at 12 rfl
    have d13 := HRN.out.at 13 rfl
    have e0 := HRN.out.free 0
    have e1 := HRN.out.free 1
    have e2 := HRN.out.free 2
    have e3 := HRN.out.free 3
    have e4 := HRN.out.free 4
    have e5 := HRN.out.free 5
    have e6 := HRN.out.free 6
    have e7 := HRN.out.free 7
    have e8 := HRN.out.free 8
    have e9 := HRN.out.free 9
    have e10 := HRN.out.free 10
    have e11 := HRN.out.free 11
    have e12 := HRN.out.free 12
    have e13 := HRN.out.free 13
    have d14 := HRN.out.lt
    have q0 := HFN.out.at 0 rfl
    have q1 := HFN.out.at 1 rfl
    have q2 := HFN.out.at 2 rfl
    have q3 := HFN.out.at 3 rfl
    have q4 := HFN.out.at 4 rfl
    have q5 := HFN.out.at 5 rfl
    have ql := HFN.out.lt
    have zl := HZN.out.lt
    refine wp_region_held_drew (S := (fun w' => w'.cell? ⟨w.heap.size, 0, none⟩ = some (.int .i64 g3.craft) ∧ w'.cell? ⟨w.heap.size, 1, none⟩ = some (.int .i64 g3.chan) ∧ w'.cell? ⟨w.heap.size, 2, none⟩ = some (.int .i64 (g3.size : Int)) ∧ w'.cell? ⟨w.heap.size, 3, none⟩ = some (.int .i64 g3.tmo) ∧ w'.cell? ⟨w.heap.size, 4, none⟩ = some (.int .i64 (g3.ret : Int)) ∧ w'.cell? ⟨w.heap.size, 5, none⟩ = some (.int .i64 (g3.state : Int)) ∧ w'.cell? ⟨w.heap.size, 6, none⟩ = some ((.slice (some ⟨bU, oU, none⟩) nU cU)) ∧ w'.cell? ⟨w.heap.size, 7, none⟩ = some (.int .i64 (g3.acked : Int)) ∧ w'.cell? ⟨w.heap.size, 8, none⟩ = some (.int .i64 (g3.flight : Int)) ∧ w'.cell? ⟨w.heap.size, 9, none⟩ = some (.int .i64 (g3.front : Int)) ∧ w'.cell? ⟨w.heap.size, 10, none⟩ = some ((.slice aC 0 cC)) ∧ w'.cell? ⟨w.heap.size, 11, none⟩ = some (.int .i64 g3.now) ∧ w'.cell? ⟨w.heap.size, 12, none⟩ = some (.int .i64 g3.timer) ∧ w'.cell? ⟨w.heap.size, 13, none⟩ = some (.int .i64 (g3.count : Int)) ∧ w'.cell? ⟨fb, 0, none⟩ = some (.bool false) ∧ w'.cell? ⟨fb, 1, none⟩ = some (.bool false) ∧ w'.cell? ⟨fb, 2, none⟩ = some (.int .i64 g2.craft) ∧ w'.cell? ⟨fb, 3, none⟩ = some (.int .i64 g2.chan) ∧ w'.cell? ⟨fb, 4, none⟩ = some (.int .i64 (sq : Int)) ∧ w'.cell? ⟨fb, 5, none⟩ = some (.slice ax xl cx))) (by kernel_rfl) (by (try dsimp only); first | exact ⟨by with_reducible assumption, by with_reducible assumption, by with_reducible assumption, by with_reducible assumption, by with_reducible assumption, by with_reducible assumption, by with_reducible assumption, by with_reducible assumption, by with_reducible assumption, by with_reducible assumption, by with_reducible assumption, by with_reducible assumption, by with_reducible assumption, by with_reducible assumption, by with_reducible assumption, by with_reducible assumption, by with_reducible assumption, by with_reducible assumption, by with_reducible assumption, by with_reducible assumption⟩ | go_keep) (fun hHeld => ?_)
    refine wpAnyH_take (i := 0) (oi := (Oper.mk (some 99) (Op.load 54 (Operand.tmp 2)) 54 "ref.go:82" #[] none)) (v := ?_) rfl (by kernel_rfl) (by kernel_rfl) (by kernel_rfl) (fun _ _ _ h => h) (Or.inl ⟨by rfl, ?_⟩) (by assumption) ?_
    rotate_left
    · (intro w hSw; (try dsimp only at hSw); go_simp; first | done | with_reducible rfl)
    (try simp only [Act.put, List.setIfInBounds_toArray, List.set_cons_zero, List.set_cons_succ])
    refine wpAnyH_take (i := 1) (oi := (Oper.mk (some 100) (Op.load 33 (Operand.tmp 8)) 33 "ref.go:82" #[Edge.mk 2 (Ground.gcOnly Departure.lateStores)] none)) (v := ?_) rfl (by kernel_rfl) (by kernel_rfl) (by kernel_rfl) (fun _ _ _ h => h) (Or.inl ⟨by rfl, ?_⟩) (by assumption) ?_
    rotate_left
    · (intro w hSw; (try dsimp only at hSw); go_simp; first | done | with_reducible rfl)
    (try simp only [Act.put, List.setIfInBounds_toArray, List.set_cons_zero, List.set_cons_succ])
    refine wpAnyH_ready (rs := [2]) (by kernel_rfl) (by simp) ?_
    refine AllReadyH.cons (o := (Oper.mk none (Op.store 54 (Operand.tmp 4) (Operand.tmp 99)) 0 "ref.go:82" #[Edge.mk 0 Ground.data, Edge.mk 0 Ground.phase, Edge.mk 1 (Ground.textOnly Departure.lateStores)] none)) rfl (fun K hK => ?_) (AllReadyH.nil)
    go_simp
    (have hx := HKN.out.fr (fin14_fr w7 (w.heap.size + 1) (.int .i64 g3.craft) (.int .i64 g3.chan) (.int .i64 (g3.size : Int)) (.int .i64 g3.tmo) (.int .i64 (g3.ret : Int)) (.int .i64 (g3.state : Int)) (.slice (some ⟨bU, oU, none⟩) nU cU) (.int .i64 (g3.acked : Int)) (.int .i64 (g3.flight : Int)) (.int .i64 (g3.front : Int)) (.slice aC 0 cC) (.int .i64 g3.now) (.int .i64 g3.timer) (.int .i64 (g3.count : Int))) (by omega); have hq := HFN.out.fr (fin14_fr w7 (w.heap.size + 1) (.int .i64 g3.craft) (.int .i64 g3.chan) (.int .i64 (g3.size : Int)) (.int .i64 g3.tmo) (.int .i64 (g3.ret : Int)) (.int .i64 (g3.state : Int)) (.slice (some ⟨bU, oU, none⟩) nU cU) (.int .i64 (g3.acked : Int)) (.int .i64 (g3.flight : Int)) (.int .i64 (g3.front : Int)) (.slice aC 0 cC) (.int .i64 g3.now) (.int .i64 g3.timer) (.int .i64 (g3.count : Int))) (by omega); have hz := HZN.out.fr (fin14_fr w7 (w.heap.size + 1) (.int .i64 g3.craft) (.int .i64 g3.chan) (.int .i64 (g3.size : Int)) (.int .i64 g3.tmo) (.int .i64 (g3.ret : Int)) (.int .i64 (g3.state : Int)) (.slice (some ⟨bU, oU, none⟩) nU cU) (.int .i64 (g3.acked : Int)) (.int .i64 (g3.flight : Int)) (.int .i64 (g3.front : Int)) (.slice aC 0 cC) (.int .i64 g3.now) (.int .i64 g3.timer) (.int .i64 (g3.count : Int))) (by omega); unfold fin14 at hx hq hz; have HX := Lib.hid hx; have HQ := Lib.hid hq; have HZF := Lib.hid hz; clear hx hq hz; have x0 := HX.out.at 0 rfl; have x1 := HX.out.at 1 rfl; have x2 := HX.out.at 2 rfl; have x3 := HX.out.at 3 rfl; have x4 := HX.out.at 4 rfl; have x5 := HX.out.at 5 rfl; have x6 := HX.out.at 6 rfl; have x7 := HX.out.at 7 rfl; have x8 := HX.out.at 8 rfl; have x9 := HX.out.at 9 rfl; have x10 := HX.out.at 10 rfl; have x11 := HX.out.at 11 rfl; have x12 := HX.out.at 12 rfl; have x13 := HX.out.at 13 rfl; have q0 := HQ.out.at 0 rfl; have q1 := HQ.out.at 1 rfl; have q2 := HQ.out.at 2 rfl; have q3 := HQ.out.at 3 rfl; have q4 := HQ.out.at 4 rfl; have q5 := HQ.out.at 5 rfl; have z0 := HZF.out.at 0 rfl; have z1 := HZF.out.at 1 rfl; have z2 := HZF.out.at 2 rfl; have z3 := HZF.out.at 3 rfl; have z4 := HZF.out.at 4 rfl; have z5 := HZF.out.at 5 rfl; have y0 := HZF.out.free 0; have y1 := HZF.out.free 1; have y2 := HZF.out.free 2; have y3 := HZF.out.free 3; have y4 := HZF.out.free 4; have y5 := HZF.out.free 5)
    refine hK.out _ _ (by (try dsimp only); first | exact ⟨by with_reducible assumption, by with_reducible assumption, by with_reducible assumption, by with_reducible assumption, by with_reducible assumption, by with_reducible assumption, by with_reducible assumption, by with_reducible assumption, by with_reducible assumption, by with_reducible assumption, by with_reducible assumption, by with_reducible assumption, by with_reducible assumption, by with_reducible assumption, by with_reducible assumption, by with_reducible assumption, by with_reducible assumption, by with_reducible assumption, by with_reducible assumption, by with_reducible assumption⟩ | go_keep) (fun hHeld => ?_)
    clear hK K
    (try simp only [Act.put, List.setIfInBounds_toArray, List.set_cons_zero, List.set_cons_succ])
    refine wpAnyH_ready (rs := [3]) (by kernel_rfl) (by simp) ?_
    refine AllReadyH.cons (o := (Oper.mk none (Op.store 33 (Operand.tmp 5) (Operand.tmp 100)) 0 "ref.go:82" #[Edge.mk 1 Ground.data, Edge.mk 2 Ground.chain, Edge.mk 0 Ground.phase, Edge.mk 1 Ground.phase, Edge.mk 2 Ground.phase] none)) rfl (fun K hK => ?_) (AllReadyH.nil)
    go_simp
    (have hx := HX.out.fr (fr_six _ (w.heap.size + 2) (.bool false) (.bool false) (.int .i64 g2.craft) (.int .i64 g2.chan) (.int .i64 (sq : Int)) (.slice ax xl cx)) (by omega); have hq := HQ.out.fr (fr_six _ (w.heap.size + 2) (.bool false) (.bool false) (.int .i64 g2.craft) (.int .i64 g2.chan) (.int .i64 (sq : Int)) (.slice ax xl cx)) (by omega); have x0 := hx.at 0 rfl; have x1 := hx.at 1 rfl; have x2 := hx.at 2 rfl; have x3 := hx.at 3 rfl; have x4 := hx.at 4 rfl; have x5 := hx.at 5 rfl; have x6 := hx.at 6 rfl; have x7 := hx.at 7 rfl; have x8 := hx.at 8 rfl; have x9 := hx.at 9 rfl; have x10 := hx.at 10 rfl; have x11 := hx.at 11 rfl; have x12 := hx.at 12 rfl; have x13 := hx.at 13 rfl; have q0 := hq.at 0 rfl; have q1 := hq.at 1 rfl; have q2 := hq.at 2 rfl; have q3 := hq.at 3 rfl; have q4 := hq.at 4 rfl; have q5 := hq.at 5 rfl; clear hx hq)
    refine hK.out _ _ (by (try dsimp only); first | exact ⟨by with_reducible assumption, by with_reducible assumption, by with_reducible assumption, by with_reducible assumption, by with_reducible assumption, by with_reducible assumption, by with_reducible assumption, by with_reducible assumption, by with_reducible assumption, by with_reducible assumption, by with_reducible assumption, by with_reducible assumption, by with_reducible assumption, by with_reducible assumption, by with_reducible assumption, by with_reducible assumption, by with_reducible assumption, by with_reducible assumption, by with_reducible assumption, by with_reducible assumption⟩ | go_keep) (fun hHeld => ?_)
    clear hK K
    (try simp only [Act.put, List.setIfInBounds_toArray, List.set_cons_zero, List.set_cons_succ])
    refine wpAnyH_take (i := 4) (oi := (Oper.mk (some 6) (Op.assign (Operand.const (Value.bool true))) 4 "ref.go:82" #[Edge.mk 3 Ground.chain, Edge.mk 0 Ground.phase, Edge.mk 1 Ground.phase, Edge.mk 2 Ground.phase, Edge.mk 3 Ground.phase] none)) (v := ?_) rfl (by kernel_rfl) (by kernel_rfl) (by kernel_rfl) (fun _ _ _ h => h) (Or.inl ⟨by rfl, ?_⟩) (by assumption) ?_
    rotate_left
    · (intro w hSw; (try dsimp only at hSw); go_simp; first | done | with_reducible rfl)
    (try simp only [Act.put, List.setIfInBounds_toArray, List.set_cons_zero, List.set_cons_succ])
    refine wpAnyH_done (by kernel_rfl) ?_ _
    go_wp2_with fail
    have HMN := HM7
    have hb := (fin14_blk HRN.out rfl (.int .i64 g3.craft) (.int .i64 g3.chan) (.int .i64 (g3.size : Int)) (.int .i64 g3.tmo) (.int .i64 (g3.ret : Int)) (.int .i64 (g3.state : Int)) (.slice (some ⟨bU, oU, none⟩) nU cU) (.int .i64 (g3.acked : Int)) (.int .i64 (g3.flight : Int)) (.int .i64 (g3.front : Int)) (.slice aC 0 cC) (.int .i64 g3.now) (.int .i64 g3.timer) (.int .i64 (g3.count : Int))).fr (fr_six _ (w.heap.size + 2) (.bool false) (.bool false) (.int .i64 g2.craft) (.int .i64 g2.chan) (.int .i64 (sq : Int)) (.slice ax xl cx)) (by omega)
    have hz := six_blk HZF.out rfl (.bool false) (.bool false) (.int .i64 g2.craft) (.int .i64 g2.chan) (.int .i64 (sq : Int)) (.slice ax xl cx)
    unfold fin14 at hb
    have HRR := Lib.hid hb
    have HZZ := Lib.hid hz
    clear hb hz
    have b0 := HRR.out.at 0 rfl
    have b1 := HRR.out.at 1 rfl
    have b2 := HRR.out.at 2 rfl
    have b3 := HRR.out.at 3 rfl
    have b4 := HRR.out.at 4 rfl
    have b5 := HRR.out.at 5 rfl
    have b6 := HRR.out.at 6 rfl
    have b7 := HRR.out.at 7 rfl
    have b8 := HRR.out.at 8 rfl
    have b9 := HRR.out.at 9 rfl
    have b10 := HRR.out.at 10 rfl
    have b11 := HRR.out.at 11 rfl
    have b12 := HRR.out.at 12 rfl
    have b13 := HRR.out.at 13 rfl
    have z0 := HZZ.out.at 0 rfl
    have z1 := HZZ.out.at 1 rfl
    have z2 := HZZ.out.at 2 rfl
    have z3 := HZZ.out.at 3 rfl
    have z4 := HZZ.out.at 4 rfl
    have z5 := HZZ.out.at 5 rfl
    refine bodyPost_ret (v := .tuple #[.agg #[.int .i64 g3.craft, .int .i64 g3.chan, .int .i64 (g3.size : Int), .int .i64 g3.tmo, .int .i64 (g3.ret : Int), .int .i64 (g3.state : Int), (.slice (some ⟨bU, oU, none⟩) nU cU), .int .i64 (g3.acked : Int), .int .i64 (g3.flight : Int), .int .i64 (g3.front : Int), (.slice aC 0 cC), .int .i64 g3.now, .int .i64 g3.timer, .int .i64 (g3.count : Int)], .agg #[.bool false, .bool false, .int .i64 g2.craft, .int .i64 g2.chan, .int .i64 (sq : Int), .slice ax xl cx], .bool true]) (by simp [results, Try.results25, go_sem, b0, b1, b2, b3, b4, b5, b6, b7, b8, b9, b10, b11, b12, b13, z0, z1, z2, z3, z4, z5]) rfl ?_
    exact (RM.leave3 HMN.out HP.out HV7.out _ _ _ _ _ _ _ _ _ _ _ _ _ _ _ _ _ _ _ _).drew
end Go.Proofs.Ytjiejpklcjpibaa

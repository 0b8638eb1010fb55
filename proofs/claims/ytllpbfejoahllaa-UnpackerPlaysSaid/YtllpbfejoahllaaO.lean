/- Contract of the reference's Take. No condition. -/
import Derived.Test.YtllpbfejoahllaaN
import Derived.Deep.LoopGhost
namespace Go.Proofs.Ytllpbfejoahllaa
open Go.RowKit Go.Deep Go.ChangeShapes Go.WideShapes Go.ChangeAt
set_option linter.unusedVariables false

set_option maxRecDepth 20000 in
set_option maxHeartbeats 20000000 in
theorem rtake_any (u : US) (a ad : Option Addr) (cap cd : Nat) (c f : Int) (data : List UInt8) (w : World) (ha : BAt w a u.rest) (hac : u.rest.length ≤ cap) (ham : cap ≤ maxLen) (h1 : 0 ≤ u.next ∧ u.next < 256) (h2 : 0 ≤ u.lost ∧ u.lost ≤ 1000000000) (hr : u.rest.length ≤ 4096) (hd : BAt w ad data) (hl : data.length ≤ 2000) (hcd : data.length ≤ cd) (hcm : cd ≤ maxLen) :
    Calls Try.prog 16 #[UV u a cap, .int .i64 c, .int .i64 f, .slice ad data.length cd] w (RTQ w (u.take c f data)) := by
  have HA := Lib.hid ha
  have HD := Lib.hid hd
  have HHM := Lib.hid ham
  obtain ⟨started, step, next, lost, rest⟩ := u
  obtain ⟨h1a, h1b⟩ := h1
  obtain ⟨h2a, h2b⟩ := h2
  simp only at h1a h1b h2a h2b hr hac
  unfold maxLen at hcm ham
  unfold UV
  clear ha hd
  simp only
  by_cases k1 : c < 0
  · have HB : Hid (badT c f data = true) := Lib.hid (by simp [badT, k1])
    go_enter Try.func16, Try.ntmps16
    go_wp2_with fail
    refine bodyPost_ret (v := .tuple #[UV ⟨started, step, next, lost, rest⟩ a cap, .slice none 0 0]) (by simp [results, Try.results16, go_sem, UV]) rfl ?_
    rw [take_bad HB.out]
    exact rt_bad (al (al (Below.refl _ _) _) _) HA.out hac HHM.out
  by_cases k2 : 255 < c
  · have HB : Hid (badT c f data = true) := Lib.hid (by simp [badT, k2])
    go_enter Try.func16, Try.ntmps16
    go_wp2_with fail
    refine bodyPost_ret (v := .tuple #[UV ⟨started, step, next, lost, rest⟩ a cap, .slice none 0 0]) (by simp [results, Try.results16, go_sem, UV]) rfl ?_
    rw [take_bad HB.out]
    exact rt_bad (al (al (Below.refl _ _) _) _) HA.out hac HHM.out
  cases hbad : badT c f data
  · have HB := Lib.hid hbad
    have hf0 : ¬ f < 0 := by intro e; simp [badT, e] at hbad
    have hf1 : f < data.length ∨ f = 2047 ∨ f = 2046 := by
      simp [badT, k1, k2, hf0] at hbad
      omega
    clear hbad
    obtain ⟨u1, hu1⟩ : ∃ u1, u1 = US.count ⟨started, step, next, lost, rest⟩ c := ⟨_, rfl⟩
    obtain ⟨st1, sp1, nx1, ls1, rs1⟩ := u1
    have HU1 := Lib.hid hu1
    simp only [US.count, US.mk.injEq] at hu1
    obtain ⟨rfl, hsp, hnx, hls, hrs⟩ := hu1
    obtain rfl := hrs.symm
    subst hnx
    have HSP := Lib.hid hsp
    have HLS := Lib.hid hls
    clear hsp hls
    have HHA : Hid (rest.length ≤ 100000) := Lib.hid (by omega)
    obtain ⟨j0, hj, hy0, hy1, hy2⟩ := info_parts info5
    have HJ := Lib.hid hj
    obtain ⟨j1, hj1, hz0, hz1, hz2⟩ := info_parts info23
    have HJ1 := Lib.hid hj1
    clear hj hj1
    rcases (by omega : f < data.length ∨ (f = 2047 ∧ (data.length : Int) ≤ f) ∨ (f = 2046 ∧ (data.length : Int) ≤ f)) with g0 | ⟨rfl, g0⟩ | ⟨rfl, g0⟩
    · have e0 : ¬ (data.length : Int) ≤ f := by omega
      have e46 : (f == 2046) = false := by rw [beq_eq_false_iff_ne]; omega
      have e47 : (f == 2047) = false := by rw [beq_eq_false_iff_ne]; omega
      obtain ⟨fn, rfl⟩ : ∃ fn : Nat, f = (fn : Int) := ⟨f.toNat, by omega⟩
      have hfn : fn < data.length := by omega
      have HTE : Hid (US.take ⟨started, step, next, lost, rest⟩ c (fn : Int) data = US.eat ⟨true, sp1, (c + 1) % 256, ls1, rest⟩ (fn : Int) data) := Lib.hid (by rw [HU1.out]; exact take_eat HB.out (by simpa using e46))
      obtain ⟨gd, od, rfl, -, -⟩ := HD.out.resolve_left (fun e => by rw [e] at hfn; simp at hfn)
      go_enter Try.func16, Try.ntmps16
      go_upto_if 40 with fail
      go_cut [] (fun wx => RM w ⟨started, sp1, next, ls1, rest⟩ a cap wx)
      case first =>
        cases started
        · have e1 := HLS.out
          have e2 := HSP.out
          simp only [Bool.false_eq_true, if_false] at e1 e2
          subst e1 e2
          go_wp2_with fail
          go_meet
          case rel => exact ⟨.alloc (Blk.newAt rfl) _, Blk.newAt (by simp), al (al (Below.refl _ _) _) _⟩
        · have e1 := HLS.out
          have e2 := HSP.out
          simp only [if_true] at e1 e2
          have ed : (c - next) % 256 = (c + 256 - next) % 256 := by omega
          obtain ⟨d, hd⟩ : ∃ d, d = (c + 256 - next) % 256 := ⟨_, rfl⟩
          rw [ed, ← hd] at e1 e2
          have hdd := hd.symm
          have d1 : 0 ≤ d := by omega
          have d2 : d < 256 := by omega
          have i1 : 0 ≤ c + 256 - next := by omega
          clear ed hd
          cases step
          · simp only [Bool.false_and] at e2
            subst e1 e2
            go_wp2_with fail
            go_meet
            case rel => exact ⟨.alloc (Blk.newAt rfl) _, Blk.newAt (by simp), al (al (Below.refl _ _) _) _⟩
          · by_cases hd0 : d = 0
            · have ez : (d == 0) = true := by rw [hd0]; rfl
              rw [decide_eq_true hd0] at e2
              simp only [Bool.and_true] at e2
              subst e1 e2
              clear hd0
              go_wp2_with fail
              go_meet
              case rel => exact ⟨.alloc (Blk.newAt rfl) _, Blk.newAt (by simp), al (al (Below.refl _ _) _) _⟩
            · have ez : (d == 0) = false := by rw [beq_eq_false_iff_ne]; exact hd0
              rw [decide_eq_false hd0] at e2
              simp only [Bool.and_false] at e2
              subst e1 e2
              clear hd0
              go_wp2_with fail
              go_meet
              case rel => exact ⟨.alloc (Blk.newAt rfl) _, Blk.newAt (by simp), al (al (Below.refl _ _) _) _⟩
      case rest =>
        have q0 := hcut.box.at 0 rfl
        have q1 := hcut.box.at 1 rfl
        have q2 := hcut.box.at 2 rfl
        have q3 := hcut.box.at 3 rfl
        have q4 := hcut.box.at 4 rfl
        have qf0 := hcut.box.free 0
        have qf1 := hcut.box.free 1
        have ql := hcut.box.lt
        have HCUT := Lib.hid hcut
        clear hcut
        go_upto_if 65 with fail
        obtain ⟨wA, hwA⟩ : ∃ wA, wA = (wc.setCell ⟨w.heap.size, 0, none⟩ (.bool true)).setCell ⟨w.heap.size, 1, none⟩ (.int .i64 ((c + 1) % 256)) := ⟨_, rfl⟩
        have hRA : RM w ⟨true, sp1, (c + 1) % 256, ls1, rest⟩ a cap wA := by
          rw [hwA]
          have hne : (⟨w.heap.size, 0, none⟩ : Addr).block ≠ w.heap.size + 1 := by simp
          exact ⟨Blk.cast ((HCUT.out.box.setCell 0 _).setCell 1 _) rfl, (HCUT.out.res.setOther (p := ⟨w.heap.size, 0, none⟩) (by simp) _).setOther (p := ⟨w.heap.size, 1, none⟩) (by simp) _, (HCUT.out.below.setCell (p := ⟨w.heap.size, 0, none⟩) (Nat.le_refl _) _).setCell (p := ⟨w.heap.size, 1, none⟩) (Nat.le_refl _) _⟩
        rw [← hwA]
        clear q0 q1 q2 q3 q4 qf0 qf1 ql hwA
        cases sp1
        · have HST : Hid (((false : Bool) && decide ((fn : Int) = fitR rest data)) = false) := Lib.hid rfl
          have s3A := hRA.box.at 3 rfl
          have slA := hRA.box.lt
          go_upto_region 13 with fail
          obtain ⟨wB, hwB⟩ : ∃ wB, wB = wA := ⟨_, rfl⟩
          have hRB : RM w ⟨true, false, (c + 1) % 256, ls1, rest⟩ a cap wB := by rw [hwB]; exact hRA
          rw [← hwB]
          clear hwB hRA s3A slA
          have s3 := hRB.box.at 3 rfl
          have s4 := hRB.box.at 4 rfl
          have sl := hRB.box.lt
          have hHB := hRB.below.size
          have HV1 := Lib.hid ((HA.out.below hRB.below (Nat.le_refl _)).below (al (Below.refl _ wB) (.cells #[] 5)) (Nat.le_refl _)).vat
          have HRB := Lib.hid hRB
          clear hRB
          go_wp2_with (at_builtin; refine wpList_append_src _ rfl (.tmp 78) (.tmp 80) 23 rfl wB.heap.size 5 j0 (.int .u8 0) 1 Try.underlying23 HJ.out hy0 hy1 hy2 rfl _ 0 [] rfl (own_empty _ _ wB.heap.size rfl _ (Nat.le_refl _)) a rest.length cap (encB rest) rfl (by simp [encB]) HV1.out (encB_one _) (by unfold maxLen; omega) (by omega) (by simp) ?_)
          intro v3 w3 hown3 hgrow3 _
          have HB3 := Lib.hid (((Below.refl wB.heap.size wB).alloc (Nat.le_refl _) (.cells #[] 5)).grown hgrow3 (by simp) (fun k hk => by simp [Value.ownBlock] at hk; omega))
          have HO3 : Hid (w3.ownsRow wB.heap.size 5 1 v3 rest.length (encB rest)) := Lib.hid (by simpa using hown3)
          have HV2 := Lib.hid ((HD.out.below HRB.out.below (Nat.le_refl _)).below HB3.out (Nat.le_refl _)).vat
          have hs3 := HB3.out.size
          clear hown3 hgrow3 HV1 s3 s4 sl
          go_wp2_with (at_builtin; refine wpList_append_src _ rfl (.tmp 81) (.tmp 82) 23 rfl wB.heap.size 5 j0 (.int .u8 0) 1 Try.underlying23 HJ.out hy0 hy1 hy2 rfl _ rest.length (encB rest) rfl HO3.out (some ⟨gd, od, none⟩) data.length cd (encB data) rfl (by simp [encB]) HV2.out (encB_one _) (by unfold maxLen; omega) (by omega) hs3 ?_)
          intro v4 w4 hown4 hgrow4 _
          have HB4 := Lib.hid (HB3.out.grown hgrow4 hs3 (fun k hk => (HO3.out.lt k hk).1))
          obtain ⟨L, hL⟩ : ∃ L, L = rest ++ data := ⟨_, rfl⟩
          have HLL : Hid (L.length = rest.length + data.length) := Lib.hid (by rw [hL]; simp)
          have hO4 : w4.ownsRow wB.heap.size 5 1 v4 L.length (encB L) := by rw [HLL.out, hL, encB_append]; exact hown4
          have HL := Lib.hid hL
          obtain ⟨-, a4, c4, rfl, hc4, hm4, hA4⟩ := BAt.of_row hO4
          have hsh4 := own_shape hO4
          have HSH4 : Hid ((a4 = none ∧ c4 = 0) ∨ ∃ g off, a4 = some ⟨g, off, none⟩) := Lib.hid (by
            rcases hsh4 with ⟨e1, e2, -⟩ | ⟨g, e, -⟩
            · exact .inl ⟨e1, e2⟩
            · exact .inr ⟨g, 0, e⟩)
          have HA4 := Lib.hid hA4
          have hR4 := HRB.out.step HB4.out (Nat.le_refl _)
          have t3 := hR4.box.at 3 rfl
          have t4 := hR4.box.at 4 rfl
          have tf3 := hR4.box.free 3
          have tf4 := hR4.box.free 4
          have tl := hR4.box.lt
          have hs4 := HB4.out.size
          have HR4 := Lib.hid hR4
          clear hown4 hgrow4 hO4 hsh4 hA4 hR4 HO3 HV2 HB3 hs3 hL
          obtain ⟨D, hD⟩ : ∃ D, D = data.drop fn := ⟨_, rfl⟩
          have HDL : Hid (D.length = data.length - fn) := Lib.hid (by rw [hD]; simp)
          have HEND : Hid (US.take ⟨started, step, next, lost, rest⟩ c (fn : Int) data = (⟨true, (packs D).1, (c + 1) % 256, ls1, (packs D).2.1⟩, (packs D).2.2)) := Lib.hid (by rw [HTE.out, eat_new HST.out (by omega), Int.toNat_natCast, ← hD])
          have HDD := Lib.hid hD
          clear hD
          go_wp2_with fail
          obtain ⟨wL, hwL⟩ : ∃ wL, wL = w4.setCell ⟨w.heap.size, 3, none⟩ (.bool true) := ⟨_, rfl⟩
          have HRL : Hid (RM w ⟨true, true, (c + 1) % 256, ls1, rest⟩ a cap wL) := Lib.hid (by rw [hwL]; exact ⟨Blk.cast (HR4.out.box.setCell 3 _) rfl, HR4.out.res.setOther (p := ⟨w.heap.size, 3, none⟩) (by simp) _, HR4.out.below.setCell (p := ⟨w.heap.size, 3, none⟩) (Nat.le_refl _) _⟩)
          have hfL : Fr (fun k => k = w.heap.size) w4 wL := by rw [hwL]; exact (Fr.refl _ _).set1 _ (by exact .inl rfl)
          have hLs : wL.heap.size = w4.heap.size := by rw [hwL]; simp [World.setCell]
          have hB2 : w.heap.size + 2 ≤ w4.heap.size := by have := HR4.out.res.lt; omega
          have hss : D.length ≤ cd - fn ∧ cd - fn ≤ maxLen ∧ BAt wL (some ⟨gd, od + fn, none⟩) D ∧ ((((some ⟨gd, od + fn, none⟩ : Option Addr) = none ∧ cd - fn = 0)) ∨ ∃ g off, (some ⟨gd, od + fn, none⟩ : Option Addr) = some ⟨g, off, none⟩) ∧ (∀ q, (some ⟨gd, od + fn, none⟩ : Option Addr) = some q → D ≠ [] → q.block < w4.heap.size) := by
            have hbd := HD.out.below HR4.out.below (Nat.le_refl _)
            have hb2 : BAt w4 (some ⟨gd, od + fn, none⟩) D := by rw [HDD.out]; exact bat_drop hbd
            have hlt : ∀ q, (some ⟨gd, od + fn, none⟩ : Option Addr) = some q → D ≠ [] → q.block < w.heap.size := fun q hq hne => by
              cases hq
              exact HD.out.lt ⟨gd, od, none⟩ rfl (fun e => hne (by rw [HDD.out, e]; simp))
            exact ⟨by rw [HDL.out]; omega, by unfold maxLen; omega, hb2.apart hfL (fun q hq hne e => by have := hlt q hq hne; omega), .inr ⟨_, _, rfl⟩, fun q hq hne => by have := hlt q hq hne; omega⟩
          have HSS := Lib.hid hss
          rw [← hwL]
          clear hwL hfL hss t3 t4 tf3 tf4 tl
          go_loopg [11, 12] (D.length + 1) (fun gk bv vo wr => RPR w w4.heap.size ⟨true, true, (c + 1) % 256, ls1, rest⟩ a cap D gk bv vo wr)
          case atStart => exact ⟨D, some ⟨gd, od + fn, none⟩, cd - fn, [], [], true, ⟨by rw [HDL.out], HSS.out⟩, ⟨HRL.out, by omega⟩, ⟨World.ownsRow_nil _ _ _ _, Sls.nil⟩, .inl ⟨rfl, by simp⟩, ⟨by omega, by have := HDL.out; omega, by have := HDL.out; simp; omega⟩⟩
          case round =>
            obtain ⟨bb, ab, cb, fs, vs, st, ⟨rfl, hbc, hbm, hbA, hbS, hbO⟩, ⟨hR, hBw⟩, ⟨how, hsl⟩, hE, hgk, hbl, hfl⟩ := hrel
            have HBA := Lib.hid hbA
            have HBO := Lib.hid hbO
            have HBS := Lib.hid hbS
            have HRR := Lib.hid hR
            have HOW := Lib.hid how
            have HSL := Lib.hid hsl
            have HBM := Lib.hid hbm
            have r3 := hR.box.at 3 rfl
            have rf3 := hR.box.free 3
            have rl := hR.box.lt
            clear hbA hbO hbS hR how hsl hbm
            simp only at r3
            cases st
            · obtain ⟨rfl, hP⟩ : bb = [] ∧ packs D = (false, [], fs) := by simpa using hE
              have HPK := hP
              clear hE hP
              have HPK := Lib.hid HPK
              have HVB : Hid (VAt (wr.alloc (.cells #[] 5)) ab (encB [])) := Lib.hid (HBA.out.below (al (Below.refl _ wr) (.cells #[] 5)) (Nat.le_refl _)).vat
              go_wp2_with (at_builtin; refine wpList_append_src _ rfl (.tmp 134) (.tmp 135) 23 rfl wr.heap.size 5 j0 (.int .u8 0) 1 Try.underlying23 HJ.out hy0 hy1 hy2 rfl _ 0 [] rfl (own_empty _ _ wr.heap.size rfl _ (Nat.le_refl _)) ab 0 cb (encB []) rfl (by simp [encB]) HVB.out (encB_one _) (by unfold maxLen; omega) (by omega) (by simp) ?_)
              intro v9 w9 hown9 hgrow9 _
              have HB9 := Lib.hid (((Below.refl wr.heap.size wr).alloc (Nat.le_refl _) (.cells #[] 5)).grown hgrow9 (by simp) (fun k hk => by simp [Value.ownBlock] at hk; omega))
              have hO9 : w9.ownsRow wr.heap.size 5 1 v9 0 (encB []) := by simpa using hown9
              obtain ⟨-, a9, c9, rfl, -, -, -⟩ := BAt.of_row hO9
              have HO9 := Lib.hid hO9
              have hR9 := HRR.out.step HB9.out (Nat.le_refl _)
              have y0 := hR9.box.at 0 rfl
              have y1 := hR9.box.at 1 rfl
              have y2 := hR9.box.at 2 rfl
              have y3 := hR9.box.at 3 rfl
              have y4 := hR9.box.at 4 rfl
              have yf4 := hR9.box.free 4
              have yl := hR9.box.lt
              have z0 := hR9.res.at 0 rfl
              have z1 := hR9.res.at 1 rfl
              have z2 := hR9.res.at 2 rfl
              have z3 := hR9.res.at 3 rfl
              have z4 := hR9.res.at 4 rfl
              have zf0 := hR9.res.free 0
              have zf1 := hR9.res.free 1
              have zf2 := hR9.res.free 2
              have zf3 := hR9.res.free 3
              have zf4 := hR9.res.free 4
              have zl := hR9.res.lt
              clear hown9 hgrow9 hO9 hR9 HVB r3 rf3 rl
              simp only at y0 y1 y2 y3 y4
              go_wp2_with fail
              refine bodyPost_ret (v := .tuple #[UV ⟨true, false, (c + 1) % 256, ls1, []⟩ a9 c9, u12]) (by simp [results, Try.results16, go_sem, UV, *]) rfl ?_
              rw [HEND.out, HPK.out]
              exact rt_end (u := ⟨true, false, (c + 1) % 256, ls1, rest⟩) HRR.out HOW.out hB2 HSL.out HB9.out HO9.out _ _ _ _ _
            · have hP : packs D = ((packs bb).1, (packs bb).2.1, fs ++ (packs bb).2.2) := by simpa using hE
              have HP := Lib.hid hP
              clear hE hP
              by_cases h6 : bb.length < 6
              · have HPK : Hid (packs D = (true, bb, fs)) := Lib.hid (by rw [HP.out, packs_few bb h6]; simp)
                have e6 : ¬ (6 : Int) ≤ (bb.length : Int) := by omega
                clear h6
                have HVB : Hid (VAt (wr.alloc (.cells #[] 5)) ab (encB bb)) := Lib.hid (HBA.out.below (al (Below.refl _ wr) (.cells #[] 5)) (Nat.le_refl _)).vat
                go_wp2_with (at_builtin; refine wpList_append_src _ rfl (.tmp 134) (.tmp 135) 23 rfl wr.heap.size 5 j0 (.int .u8 0) 1 Try.underlying23 HJ.out hy0 hy1 hy2 rfl _ 0 [] rfl (own_empty _ _ wr.heap.size rfl _ (Nat.le_refl _)) ab bb.length cb (encB bb) rfl (by simp [encB]) HVB.out (encB_one _) (by unfold maxLen; omega) (by omega) (by simp) ?_)
                intro v9 w9 hown9 hgrow9 _
                have HB9 := Lib.hid (((Below.refl wr.heap.size wr).alloc (Nat.le_refl _) (.cells #[] 5)).grown hgrow9 (by simp) (fun k hk => by simp [Value.ownBlock] at hk; omega))
                have hO9 : w9.ownsRow wr.heap.size 5 1 v9 bb.length (encB bb) := by simpa using hown9
                obtain ⟨-, a9, c9, rfl, -, -, -⟩ := BAt.of_row hO9
                have HO9 := Lib.hid hO9
                have hR9 := HRR.out.step HB9.out (Nat.le_refl _)
                have y0 := hR9.box.at 0 rfl
                have y1 := hR9.box.at 1 rfl
                have y2 := hR9.box.at 2 rfl
                have y3 := hR9.box.at 3 rfl
                have y4 := hR9.box.at 4 rfl
                have yf4 := hR9.box.free 4
                have yl := hR9.box.lt
                have z0 := hR9.res.at 0 rfl
                have z1 := hR9.res.at 1 rfl
                have z2 := hR9.res.at 2 rfl
                have z3 := hR9.res.at 3 rfl
                have z4 := hR9.res.at 4 rfl
                have zf0 := hR9.res.free 0
                have zf1 := hR9.res.free 1
                have zf2 := hR9.res.free 2
                have zf3 := hR9.res.free 3
                have zf4 := hR9.res.free 4
                have zl := hR9.res.lt
                clear hown9 hgrow9 hO9 hR9 HVB r3 rf3 rl
                simp only at y0 y1 y2 y3 y4
                go_wp2_with fail
                refine bodyPost_ret (v := .tuple #[UV ⟨true, true, (c + 1) % 256, ls1, bb⟩ a9 c9, u12]) (by simp [results, Try.results16, go_sem, UV, *]) rfl ?_
                rw [HEND.out, HPK.out]
                exact rt_end (u := ⟨true, true, (c + 1) % 256, ls1, rest⟩) HRR.out HOW.out hB2 HSL.out HB9.out HO9.out _ _ _ _ _
              · have e6 : (6 : Int) ≤ (bb.length : Int) := by omega
                have h66 : 6 ≤ bb.length := by omega
                go_wp2_with fail
                refine (rlength_any ab bb.length cb bb _ rfl h66 (by omega) HBA.out).mono ?_
                rintro e w5 ⟨rfl, hq⟩
                have hbq := hq.below (B := wr.heap.size)
                have hs5 := hbq.size
                have HBA := Lib.hid (HBA.out.below hbq (Nat.le_refl _))
                have hR5 := HRR.out.step hbq (Nat.le_refl _)
                have HOW := Lib.hid (own_below HOW.out hbq (Nat.le_refl _))
                have HSL := Lib.hid (HSL.out.below hbq (Nat.le_refl _))
                clear r3 rf3 rl
                have r3 := hR5.box.at 3 rfl
                have rf3 := hR5.box.free 3
                have rl := hR5.box.lt
                have HRR := Lib.hid hR5
                have hB5 : w4.heap.size ≤ w5.heap.size := by omega
                have hB5q : ∀ nq, Below w5.heap.size w5 (w5.drewN nq) := fun nq => (Quiet.drewN (Quiet.refl w5) nq).below
                have HB5Q := Lib.hid hB5q
                clear hB5q
                clear hq hbq hR5
                simp only at r3
                have hn9 := lenB_le bb
                have hn7 := lenB_ge bb
                obtain ⟨n, hn⟩ : ∃ n, n = lenB bb := ⟨_, rfl⟩
                rw [← hn] at hn9 hn7
                rw [← hn]
                by_cases h0 : n = 0
                · have HPK : Hid (packs D = (false, [], fs)) := Lib.hid (by rw [HP.out, packs_bad bb h6 (by omega)]; simp)
                  have e0 : ((n : Int) == 0) = true := by rw [h0]; rfl
                  clear h0 hn7 hn h6
                  go_wp2_with fail
                  go_roundg (gk - 1)
                  case rel =>
                    obtain ⟨h1, h2⟩ := rp_bad HRR.out hB2 hB5 HOW.out HSL.out false
                    exact ⟨[], none, 0, fs, vs, false, ⟨rfl, by simp, by unfold maxLen; omega, .inl rfl, .inl ⟨rfl, rfl⟩, fun q hq => by cases hq⟩, h1, h2, .inr ⟨rfl, rfl, HPK.out⟩, ⟨by simp; omega, by simp, by simp; omega⟩⟩
                  case measure => omega
                · have e0 : ((n : Int) == 0) = false := by rw [beq_eq_false_iff_ne]; omega
                  have h7 : 7 ≤ n := hn7 h0
                  by_cases h1 : bb.length < n
                  · have HPK : Hid (packs D = (true, bb, fs)) := Lib.hid (by rw [HP.out, packs_wait bb h6 (by omega) (by omega)]; simp)
                    have e1 : (bb.length : Int) < (n : Int) := by omega
                    clear h0 hn7 hn h6 h1
                    have HVB : Hid (VAt (w5.alloc (.cells #[] 5)) ab (encB bb)) := Lib.hid (HBA.out.below (al (Below.refl _ w5) (.cells #[] 5)) (Nat.le_refl _)).vat
                    go_wp2_with (at_builtin; refine wpList_append_src _ rfl (.tmp 134) (.tmp 135) 23 rfl w5.heap.size 5 j0 (.int .u8 0) 1 Try.underlying23 HJ.out hy0 hy1 hy2 rfl _ 0 [] rfl (own_empty _ _ w5.heap.size rfl _ (Nat.le_refl _)) ab bb.length cb (encB bb) rfl (by simp [encB]) HVB.out (encB_one _) (by unfold maxLen; omega) (by omega) (by simp) ?_)
                    intro v9 w9 hown9 hgrow9 _
                    have HB9 := Lib.hid (((Below.refl w5.heap.size w5).alloc (Nat.le_refl _) (.cells #[] 5)).grown hgrow9 (by simp) (fun k hk => by simp [Value.ownBlock] at hk; omega))
                    have hO9 : w9.ownsRow w5.heap.size 5 1 v9 bb.length (encB bb) := by simpa using hown9
                    obtain ⟨-, a9, c9, rfl, -, -, -⟩ := BAt.of_row hO9
                    have HO9 := Lib.hid hO9
                    have hR9 := HRR.out.step HB9.out (Nat.le_refl _)
                    have y0 := hR9.box.at 0 rfl
                    have y1 := hR9.box.at 1 rfl
                    have y2 := hR9.box.at 2 rfl
                    have y3 := hR9.box.at 3 rfl
                    have y4 := hR9.box.at 4 rfl
                    have yf4 := hR9.box.free 4
                    have yl := hR9.box.lt
                    have z0 := hR9.res.at 0 rfl
                    have z1 := hR9.res.at 1 rfl
                    have z2 := hR9.res.at 2 rfl
                    have z3 := hR9.res.at 3 rfl
                    have z4 := hR9.res.at 4 rfl
                    have zf0 := hR9.res.free 0
                    have zf1 := hR9.res.free 1
                    have zf2 := hR9.res.free 2
                    have zf3 := hR9.res.free 3
                    have zf4 := hR9.res.free 4
                    have zl := hR9.res.lt
                    clear hown9 hgrow9 hO9 hR9 HVB r3 rf3 rl
                    simp only at y0 y1 y2 y3 y4
                    go_wp2_with fail
                    refine bodyPost_ret (v := .tuple #[UV ⟨true, true, (c + 1) % 256, ls1, bb⟩ a9 c9, u12]) (by simp [results, Try.results16, go_sem, UV, *]) rfl ?_
                    rw [HEND.out, HPK.out]
                    exact rt_end (u := ⟨true, true, (c + 1) % 256, ls1, rest⟩) HRR.out HOW.out hB2 HSL.out HB9.out HO9.out _ _ _ _ _
                  · have e1 : ¬ (bb.length : Int) < (n : Int) := by omega
                    have HPM := Lib.hid (packs_more bb h6 (by omega) (by omega))
                    rw [← hn] at HPM
                    have hnl : n ≤ bb.length := by omega
                    obtain ⟨g, off, rfl⟩ := HBS.out.resolve_left (fun e => by omega)
                    have hgB : bb ≠ [] → g < w4.heap.size := fun hne => HBO.out ⟨g, off, none⟩ rfl hne
                    have HGB := Lib.hid hgB
                    have p0 := cell_getD HBA.out 0 (by omega)
                    have p1 := cell_getD HBA.out 1 (by omega)
                    simp only [Nat.add_zero] at p0
                    obtain ⟨x0, hx0⟩ : ∃ x, x = bb.getD 0 0 := ⟨_, rfl⟩
                    obtain ⟨x1, hx1⟩ : ∃ x, x = bb.getD 1 0 := ⟨_, rfl⟩
                    rw [← hx0] at p0
                    rw [← hx1] at p1
                    have hap : apid bb = x0.toNat % 8 * 256 + x1.toNat := by rw [hx0, hx1]; rfl
                    have hcd := apid_rem x0 x1 _ hap
                    have b0 := UInt8.toNat_lt x0
                    have b1 := UInt8.toNat_lt x1
                    have g8 : (1 : Int) < (bb.length : Int) := by omega
                    have g9 : (0 : Int) < (bb.length : Int) := by omega
                    have i1 : (n : Int) ≤ (bb.length : Int) := by omega
                    have i2 : (bb.length : Int) ≤ (cb : Int) := by omega
                    have i3 : (0 : Int) ≤ (n : Int) := by omega
                    clear h0 hn7 hn h6 h1 hx0 hx1 hap hgB
                    by_cases h20 : apid bb = 2047
                    · rw [decide_eq_true h20] at hcd
                      simp only [Bool.not_true] at hcd
                      have HP2 : Hid (packs bb = ((packs (bb.drop n)).1, (packs (bb.drop n)).2.1, (packs (bb.drop n)).2.2)) := Lib.hid (by rw [HPM.out, if_pos h20])
                      clear h20 HPM
                      by_cases hcn : cb = n
                      · obtain rfl : bb.length = n := by omega
                        obtain rfl : cb = bb.length := hcn
                        go_wp2_with fail
                        go_quiet (fail)
                        have hRq := HRR.out.step (HB5Q.out nq) (Nat.le_refl _)
                        go_wp2_with fail
                        go_roundg (gk - 1)
                        case rel =>
                          have hnx := rp_next (n := bb.length) (A5 := some ⟨g, off, none⟩) (C5 := 0) HBA.out (by omega) HBM.out (by omega) HGB.out (.inr ⟨rfl, rfl, rfl⟩)
                          have e3 := HP.out
                          rw [HP2.out] at e3
                          exact ⟨bb.drop bb.length, some ⟨g, off, none⟩, 0, fs, vs, true, ⟨by rw [List.length_drop, Nat.sub_self], hnx.1, hnx.2.1, hnx.2.2.1.quiet ⟨nq, rfl⟩, hnx.2.2.2.1, hnx.2.2.2.2⟩, ⟨hRq, hB5⟩, ⟨own_drewN HOW.out nq, HSL.out.below (HB5Q.out nq) (Nat.le_refl _)⟩, .inl ⟨rfl, e3⟩, ⟨by rw [List.length_drop]; omega, by rw [List.length_drop]; omega, by rw [List.length_drop]; omega⟩⟩
                        case measure => omega
                      · have hcn' : ¬ cb = n := hcn
                        clear hcn
                        go_wp2_with fail
                        go_quiet (fail)
                        have hRq := HRR.out.step (HB5Q.out nq) (Nat.le_refl _)
                        go_wp2_with fail
                        go_roundg (gk - 1)
                        case rel =>
                          have hnx := rp_next (n := n) (A5 := some ⟨g, off + n, none⟩) (C5 := cb - n) HBA.out (by omega) HBM.out (by omega) HGB.out (.inl ⟨rfl, rfl⟩)
                          have e3 := HP.out
                          rw [HP2.out] at e3
                          exact ⟨bb.drop n, some ⟨g, off + n, none⟩, cb - n, fs, vs, true, ⟨by rw [List.length_drop], hnx.1, hnx.2.1, hnx.2.2.1.quiet ⟨nq, rfl⟩, hnx.2.2.2.1, hnx.2.2.2.2⟩, ⟨hRq, hB5⟩, ⟨own_drewN HOW.out nq, HSL.out.below (HB5Q.out nq) (Nat.le_refl _)⟩, .inl ⟨rfl, e3⟩, ⟨by rw [List.length_drop]; omega, by rw [List.length_drop]; omega, by rw [List.length_drop]; omega⟩⟩
                        case measure => omega
                    · rw [decide_eq_false h20] at hcd
                      simp only [Bool.not_false] at hcd
                      have HP2 : Hid (packs bb = ((packs (bb.drop n)).1, (packs (bb.drop n)).2.1, bb.take n :: (packs (bb.drop n)).2.2)) := Lib.hid (by rw [HPM.out, if_neg h20])
                      clear h20 HPM
                      by_cases hcn : cb = n
                      · obtain rfl : bb.length = n := by omega
                        obtain rfl : cb = bb.length := hcn
                        obtain ⟨F, hF⟩ : ∃ F, F = bb.take bb.length := ⟨_, rfl⟩
                        have HFL : Hid (F.length = bb.length) := Lib.hid (by rw [hF]; simp)
                        rw [← hF] at HP2
                        have HF := Lib.hid hF
                        clear hF
                        go_wp2_with fail
                        go_quiet (fail)
                        have hRq := HRR.out.step (HB5Q.out nq) (Nat.le_refl _)
                        have hwq := own_drewN HOW.out nq
                        have hsq := HSL.out.below (HB5Q.out nq) (Nat.le_refl _)
                        have haq : BAt (w5.drewN nq) (some ⟨g, off, none⟩) bb := HBA.out.quiet ⟨nq, rfl⟩
                        have hBq : w4.heap.size ≤ (w5.drewN nq).heap.size := hB5
                        clear p0 p1 r3 rf3 rl
                        generalize w5.drewN nq = wq at hRq hwq hsq haq hBq ⊢
                        have HRq := Lib.hid hRq
                        have HWq := Lib.hid hwq
                        have HSq := Lib.hid hsq
                        have HAq := Lib.hid haq
                        have HVF : Hid (VAt (wq.alloc (.cells #[] 5)) (some ⟨g, off, none⟩) (encB F)) := Lib.hid (by rw [HF.out]; exact ((haq.take _).below (al (Below.refl _ wq) (.cells #[] 5)) (Nat.le_refl _)).vat)
                        clear hRq hwq hsq haq
                        go_wp2_with (at_builtin; refine wpList_append_src _ rfl (.tmp 124) (.tmp 127) 23 rfl wq.heap.size 5 j0 (.int .u8 0) 1 Try.underlying23 HJ.out hy0 hy1 hy2 rfl _ 0 [] rfl (own_empty _ _ wq.heap.size rfl _ (Nat.le_refl _)) (some ⟨g, off, none⟩) bb.length bb.length (encB F) rfl (by rw [encB_length, HFL.out]) HVF.out (encB_one _) (by unfold maxLen; omega) (by omega) (by simp) ?_)
                        intro v6 w6 hown6 hgrow6 _
                        have HB6 := Lib.hid (((Below.refl wq.heap.size wq).alloc (Nat.le_refl _) (.cells #[] 5)).grown hgrow6 (by simp) (fun k hk => by simp [Value.ownBlock] at hk; omega))
                        have hO6 : w6.ownsRow wq.heap.size 5 1 v6 F.length (encB F) := by rw [HFL.out]; simpa using hown6
                        obtain ⟨-, a6, c6, rfl, -, -, -⟩ := BAt.of_row hO6
                        have HO6 := Lib.hid hO6
                        have HW7 := Lib.hid (fun o => own_below (own_below HWq.out HB6.out (Nat.le_refl _)) (al (Below.refl _ w6) o) (Nat.le_refl _))
                        have HX := Lib.hid (one_vat w6 (.slice a6 F.length c6) 23)
                        have hs6 := HB6.out.size
                        clear hown6 hgrow6 hO6 HVF
                        go_wp2_with (at_builtin; refine wpList_append_src _ rfl (.tmp 123) (.tmp 129) 22 rfl w4.heap.size 23 j1 (.slice none 0 0) 24 Try.underlying22 HJ1.out hz0 hz1 hz2 (by rfl) _ fs.length vs rfl (HW7.out _) (some ⟨w6.heap.size, 0, none⟩) 1 1 [.slice a6 F.length c6] rfl (by rfl) HX.out (by simp [Value.oneCell']) (by unfold maxLen; omega) (by omega) (by simp; omega) ?_)
                        intro v8 w8 hown8 hgrow8 hblk8
                        have hap := rp_app HRq.out hB2 hBq HWq.out HSq.out HB6.out HO6.out hown8 hgrow8 hblk8
                        have HAP := Lib.hid hap
                        have HO8 := Lib.hid hown8
                        clear hap hown8 hgrow8 hblk8
                        go_wp2_with fail
                        go_roundg (gk - 1)
                        case rel =>
                          obtain ⟨q1, q2, q3, q4⟩ := HAP.out
                          have hnx := rp_next (n := bb.length) (A5 := some ⟨g, off, none⟩) (C5 := 0) HAq.out (by omega) HBM.out (by omega) HGB.out (.inr ⟨rfl, rfl, rfl⟩)
                          have e3 := HP.out
                          rw [HP2.out] at e3
                          exact ⟨bb.drop bb.length, some ⟨g, off, none⟩, 0, fs ++ [F], vs ++ [.slice a6 F.length c6], true, ⟨by rw [List.length_drop, Nat.sub_self], hnx.1, hnx.2.1, q3 _ _ hnx.2.2.1 hnx.2.2.2.2, hnx.2.2.2.1, hnx.2.2.2.2⟩, ⟨q1, q4⟩, ⟨by rw [List.length_append]; exact HO8.out, q2⟩, .inl ⟨rfl, by rw [e3]; simp⟩, ⟨by rw [List.length_drop]; omega, by rw [List.length_drop]; omega, by simp only [List.length_drop, List.length_append, List.length_cons, List.length_nil]; omega⟩⟩
                        case measure => omega
                      · have hcn' : ¬ cb = n := hcn
                        clear hcn
                        obtain ⟨F, hF⟩ : ∃ F, F = bb.take n := ⟨_, rfl⟩
                        have HFL : Hid (F.length = n) := Lib.hid (by rw [hF]; simp; omega)
                        rw [← hF] at HP2
                        have HF := Lib.hid hF
                        clear hF
                        go_wp2_with fail
                        go_quiet (fail)
                        have hRq := HRR.out.step (HB5Q.out nq) (Nat.le_refl _)
                        have hwq := own_drewN HOW.out nq
                        have hsq := HSL.out.below (HB5Q.out nq) (Nat.le_refl _)
                        have haq : BAt (w5.drewN nq) (some ⟨g, off, none⟩) bb := HBA.out.quiet ⟨nq, rfl⟩
                        have hBq : w4.heap.size ≤ (w5.drewN nq).heap.size := hB5
                        clear p0 p1 r3 rf3 rl
                        generalize w5.drewN nq = wq at hRq hwq hsq haq hBq ⊢
                        have HRq := Lib.hid hRq
                        have HWq := Lib.hid hwq
                        have HSq := Lib.hid hsq
                        have HAq := Lib.hid haq
                        have HVF : Hid (VAt (wq.alloc (.cells #[] 5)) (some ⟨g, off, none⟩) (encB F)) := Lib.hid (by rw [HF.out]; exact ((haq.take _).below (al (Below.refl _ wq) (.cells #[] 5)) (Nat.le_refl _)).vat)
                        clear hRq hwq hsq haq
                        go_wp2_with (at_builtin; refine wpList_append_src _ rfl (.tmp 124) (.tmp 127) 23 rfl wq.heap.size 5 j0 (.int .u8 0) 1 Try.underlying23 HJ.out hy0 hy1 hy2 rfl _ 0 [] rfl (own_empty _ _ wq.heap.size rfl _ (Nat.le_refl _)) (some ⟨g, off, none⟩) n cb (encB F) rfl (by rw [encB_length, HFL.out]) HVF.out (encB_one _) (by unfold maxLen; omega) (by omega) (by simp) ?_)
                        intro v6 w6 hown6 hgrow6 _
                        have HB6 := Lib.hid (((Below.refl wq.heap.size wq).alloc (Nat.le_refl _) (.cells #[] 5)).grown hgrow6 (by simp) (fun k hk => by simp [Value.ownBlock] at hk; omega))
                        have hO6 : w6.ownsRow wq.heap.size 5 1 v6 F.length (encB F) := by rw [HFL.out]; simpa using hown6
                        obtain ⟨-, a6, c6, rfl, -, -, -⟩ := BAt.of_row hO6
                        have HO6 := Lib.hid hO6
                        have HW7 := Lib.hid (fun o => own_below (own_below HWq.out HB6.out (Nat.le_refl _)) (al (Below.refl _ w6) o) (Nat.le_refl _))
                        have HX := Lib.hid (one_vat w6 (.slice a6 F.length c6) 23)
                        have hs6 := HB6.out.size
                        clear hown6 hgrow6 hO6 HVF
                        go_wp2_with (at_builtin; refine wpList_append_src _ rfl (.tmp 123) (.tmp 129) 22 rfl w4.heap.size 23 j1 (.slice none 0 0) 24 Try.underlying22 HJ1.out hz0 hz1 hz2 (by rfl) _ fs.length vs rfl (HW7.out _) (some ⟨w6.heap.size, 0, none⟩) 1 1 [.slice a6 F.length c6] rfl (by rfl) HX.out (by simp [Value.oneCell']) (by unfold maxLen; omega) (by omega) (by simp; omega) ?_)
                        intro v8 w8 hown8 hgrow8 hblk8
                        have hap := rp_app HRq.out hB2 hBq HWq.out HSq.out HB6.out HO6.out hown8 hgrow8 hblk8
                        have HAP := Lib.hid hap
                        have HO8 := Lib.hid hown8
                        clear hap hown8 hgrow8 hblk8
                        go_wp2_with fail
                        go_roundg (gk - 1)
                        case rel =>
                          obtain ⟨q1, q2, q3, q4⟩ := HAP.out
                          have hnx := rp_next (n := n) (A5 := some ⟨g, off + n, none⟩) (C5 := cb - n) HAq.out (by omega) HBM.out (by omega) HGB.out (.inl ⟨rfl, rfl⟩)
                          have e3 := HP.out
                          rw [HP2.out] at e3
                          exact ⟨bb.drop n, some ⟨g, off + n, none⟩, cb - n, fs ++ [F], vs ++ [.slice a6 F.length c6], true, ⟨by rw [List.length_drop], hnx.1, hnx.2.1, q3 _ _ hnx.2.2.1 hnx.2.2.2.2, hnx.2.2.2.1, hnx.2.2.2.2⟩, ⟨q1, q4⟩, ⟨by rw [List.length_append]; exact HO8.out, q2⟩, .inl ⟨rfl, by rw [e3]; simp⟩, ⟨by rw [List.length_drop]; omega, by rw [List.length_drop]; omega, by simp only [List.length_drop, List.length_append, List.length_cons, List.length_nil]; omega⟩⟩
                        case measure => omega
        · obtain ⟨ft, hft⟩ : ∃ ft, ft = fitR rest data := ⟨_, rfl⟩
          have s3 := hRA.box.at 3 rfl
          have s4 := hRA.box.at 4 rfl
          have sl := hRA.box.lt
          have hsA := hRA.below.size
          have HRA := Lib.hid hRA
          clear hRA
          go_wp2_with fail
          refine (rfitting_any a (some ⟨gd, od, none⟩) cap cd rest data _ HHA.out (by omega) (HA.out.below HRA.out.below (Nat.le_refl _)) (HD.out.below HRA.out.below (Nat.le_refl _))).mono ?_
          rintro e wF ⟨rfl, hBF⟩
          rw [← hft]
          have HFT := Lib.hid hft
          have hRF := HRA.out.step hBF (Nat.le_refl _)
          have s3F := hRF.box.at 3 rfl
          have sfF := hRF.box.free 3
          have slF := hRF.box.lt
          have HRF := Lib.hid hRF
          clear hft hBF hRF s3 s4 sl
          by_cases hq : (fn : Int) = ft
          · have HFR : Hid ((fn : Int) = fitR rest data) := Lib.hid (hq.trans HFT.out)
            have eq1 : ((fn : Int) != ft) = false := by rw [bne_eq_false_iff_eq]; exact hq
            clear hq
            go_upto_region 13 with fail
            obtain ⟨wB, hwB⟩ : ∃ wB, wB = wF := ⟨_, rfl⟩
            have hRB : RM w ⟨true, true, (c + 1) % 256, ls1, rest⟩ a cap wB := by rw [hwB]; exact HRF.out
            rw [← hwB]
            clear hwB s3F sfF slF
            have s3 := hRB.box.at 3 rfl
            have s4 := hRB.box.at 4 rfl
            have sl := hRB.box.lt
            have hHB := hRB.below.size
            have HV1 := Lib.hid ((HA.out.below hRB.below (Nat.le_refl _)).below (al (Below.refl _ wB) (.cells #[] 5)) (Nat.le_refl _)).vat
            have HRB := Lib.hid hRB
            clear hRB
            go_wp2_with (at_builtin; refine wpList_append_src _ rfl (.tmp 78) (.tmp 80) 23 rfl wB.heap.size 5 j0 (.int .u8 0) 1 Try.underlying23 HJ.out hy0 hy1 hy2 rfl _ 0 [] rfl (own_empty _ _ wB.heap.size rfl _ (Nat.le_refl _)) a rest.length cap (encB rest) rfl (by simp [encB]) HV1.out (encB_one _) (by unfold maxLen; omega) (by omega) (by simp) ?_)
            intro v3 w3 hown3 hgrow3 _
            have HB3 := Lib.hid (((Below.refl wB.heap.size wB).alloc (Nat.le_refl _) (.cells #[] 5)).grown hgrow3 (by simp) (fun k hk => by simp [Value.ownBlock] at hk; omega))
            have HO3 : Hid (w3.ownsRow wB.heap.size 5 1 v3 rest.length (encB rest)) := Lib.hid (by simpa using hown3)
            have HV2 := Lib.hid ((HD.out.below HRB.out.below (Nat.le_refl _)).below HB3.out (Nat.le_refl _)).vat
            have hs3 := HB3.out.size
            clear hown3 hgrow3 HV1 s3 s4 sl
            go_wp2_with (at_builtin; refine wpList_append_src _ rfl (.tmp 81) (.tmp 82) 23 rfl wB.heap.size 5 j0 (.int .u8 0) 1 Try.underlying23 HJ.out hy0 hy1 hy2 rfl _ rest.length (encB rest) rfl HO3.out (some ⟨gd, od, none⟩) data.length cd (encB data) rfl (by simp [encB]) HV2.out (encB_one _) (by unfold maxLen; omega) (by omega) hs3 ?_)
            intro v4 w4 hown4 hgrow4 _
            have HB4 := Lib.hid (HB3.out.grown hgrow4 hs3 (fun k hk => (HO3.out.lt k hk).1))
            obtain ⟨L, hL⟩ : ∃ L, L = rest ++ data := ⟨_, rfl⟩
            have HLL : Hid (L.length = rest.length + data.length) := Lib.hid (by rw [hL]; simp)
            have hO4 : w4.ownsRow wB.heap.size 5 1 v4 L.length (encB L) := by rw [HLL.out, hL, encB_append]; exact hown4
            have HL := Lib.hid hL
            obtain ⟨-, a4, c4, rfl, hc4, hm4, hA4⟩ := BAt.of_row hO4
            have hsh4 := own_shape hO4
            have HSH4 : Hid ((a4 = none ∧ c4 = 0) ∨ ∃ g off, a4 = some ⟨g, off, none⟩) := Lib.hid (by
              rcases hsh4 with ⟨e1, e2, -⟩ | ⟨g, e, -⟩
              · exact .inl ⟨e1, e2⟩
              · exact .inr ⟨g, 0, e⟩)
            have HA4 := Lib.hid hA4
            have hR4 := HRB.out.step HB4.out (Nat.le_refl _)
            have t3 := hR4.box.at 3 rfl
            have t4 := hR4.box.at 4 rfl
            have tf3 := hR4.box.free 3
            have tf4 := hR4.box.free 4
            have tl := hR4.box.lt
            have hs4 := HB4.out.size
            have HR4 := Lib.hid hR4
            clear hown4 hgrow4 hO4 hsh4 hA4 hR4 HO3 HV2 HB3 hs3 hL
            have HEND : Hid (US.take ⟨started, step, next, lost, rest⟩ c (fn : Int) data = (⟨true, (packs L).1, (c + 1) % 256, ls1, (packs L).2.1⟩, (packs L).2.2)) := Lib.hid (by rw [HTE.out, eat_in rfl HFR.out, ← HL.out])
            obtain ⟨D, hD⟩ : ∃ D, D = L := ⟨_, rfl⟩
            subst hD
            have HDL := HLL
            go_wp2_with fail
            obtain ⟨wL, hwL⟩ : ∃ wL, wL = w4.setCell ⟨w.heap.size, 3, none⟩ (.bool true) := ⟨_, rfl⟩
            have HRL : Hid (RM w ⟨true, true, (c + 1) % 256, ls1, rest⟩ a cap wL) := Lib.hid (by rw [hwL]; exact ⟨Blk.cast (HR4.out.box.setCell 3 _) rfl, HR4.out.res.setOther (p := ⟨w.heap.size, 3, none⟩) (by simp) _, HR4.out.below.setCell (p := ⟨w.heap.size, 3, none⟩) (Nat.le_refl _) _⟩)
            have hfL : Fr (fun k => k = w.heap.size) w4 wL := by rw [hwL]; exact (Fr.refl _ _).set1 _ (by exact .inl rfl)
            have hLs : wL.heap.size = w4.heap.size := by rw [hwL]; simp [World.setCell]
            have hB2 : w.heap.size + 2 ≤ w4.heap.size := by have := HR4.out.res.lt; omega
            have hss : D.length ≤ c4 ∧ c4 ≤ maxLen ∧ BAt wL a4 D ∧ ((a4 = none ∧ c4 = 0) ∨ ∃ g off, a4 = some ⟨g, off, none⟩) ∧ (∀ q, a4 = some q → D ≠ [] → q.block < w4.heap.size) := 
              ⟨hc4, hm4, HA4.out.apart hfL (fun q hq hne e => by have := blk_apart HR4.out.box HA4.out hne rplain q hq; exact this e), HSH4.out, fun q hq hne => HA4.out.lt q hq hne⟩
            have HSS := Lib.hid hss
            rw [← hwL]
            clear hwL hfL hss t3 t4 tf3 tf4 tl
            go_loopg [11, 12] (D.length + 1) (fun gk bv vo wr => RPR w w4.heap.size ⟨true, true, (c + 1) % 256, ls1, rest⟩ a cap D gk bv vo wr)
            case atStart => exact ⟨D, a4, c4, [], [], true, ⟨rfl, HSS.out⟩, ⟨HRL.out, by omega⟩, ⟨World.ownsRow_nil _ _ _ _, Sls.nil⟩, .inl ⟨rfl, by simp⟩, ⟨by omega, by have := HDL.out; omega, by have := HDL.out; simp; omega⟩⟩
            case round =>
              obtain ⟨bb, ab, cb, fs, vs, st, ⟨rfl, hbc, hbm, hbA, hbS, hbO⟩, ⟨hR, hBw⟩, ⟨how, hsl⟩, hE, hgk, hbl, hfl⟩ := hrel
              have HBA := Lib.hid hbA
              have HBO := Lib.hid hbO
              have HBS := Lib.hid hbS
              have HRR := Lib.hid hR
              have HOW := Lib.hid how
              have HSL := Lib.hid hsl
              have HBM := Lib.hid hbm
              have r3 := hR.box.at 3 rfl
              have rf3 := hR.box.free 3
              have rl := hR.box.lt
              clear hbA hbO hbS hR how hsl hbm
              simp only at r3
              cases st
              · obtain ⟨rfl, hP⟩ : bb = [] ∧ packs D = (false, [], fs) := by simpa using hE
                have HPK := hP
                clear hE hP
                have HPK := Lib.hid HPK
                have HVB : Hid (VAt (wr.alloc (.cells #[] 5)) ab (encB [])) := Lib.hid (HBA.out.below (al (Below.refl _ wr) (.cells #[] 5)) (Nat.le_refl _)).vat
                go_wp2_with (at_builtin; refine wpList_append_src _ rfl (.tmp 134) (.tmp 135) 23 rfl wr.heap.size 5 j0 (.int .u8 0) 1 Try.underlying23 HJ.out hy0 hy1 hy2 rfl _ 0 [] rfl (own_empty _ _ wr.heap.size rfl _ (Nat.le_refl _)) ab 0 cb (encB []) rfl (by simp [encB]) HVB.out (encB_one _) (by unfold maxLen; omega) (by omega) (by simp) ?_)
                intro v9 w9 hown9 hgrow9 _
                have HB9 := Lib.hid (((Below.refl wr.heap.size wr).alloc (Nat.le_refl _) (.cells #[] 5)).grown hgrow9 (by simp) (fun k hk => by simp [Value.ownBlock] at hk; omega))
                have hO9 : w9.ownsRow wr.heap.size 5 1 v9 0 (encB []) := by simpa using hown9
                obtain ⟨-, a9, c9, rfl, -, -, -⟩ := BAt.of_row hO9
                have HO9 := Lib.hid hO9
                have hR9 := HRR.out.step HB9.out (Nat.le_refl _)
                have y0 := hR9.box.at 0 rfl
                have y1 := hR9.box.at 1 rfl
                have y2 := hR9.box.at 2 rfl
                have y3 := hR9.box.at 3 rfl
                have y4 := hR9.box.at 4 rfl
                have yf4 := hR9.box.free 4
                have yl := hR9.box.lt
                have z0 := hR9.res.at 0 rfl
                have z1 := hR9.res.at 1 rfl
                have z2 := hR9.res.at 2 rfl
                have z3 := hR9.res.at 3 rfl
                have z4 := hR9.res.at 4 rfl
                have zf0 := hR9.res.free 0
                have zf1 := hR9.res.free 1
                have zf2 := hR9.res.free 2
                have zf3 := hR9.res.free 3
                have zf4 := hR9.res.free 4
                have zl := hR9.res.lt
                clear hown9 hgrow9 hO9 hR9 HVB r3 rf3 rl
                simp only at y0 y1 y2 y3 y4
                go_wp2_with fail
                refine bodyPost_ret (v := .tuple #[UV ⟨true, false, (c + 1) % 256, ls1, []⟩ a9 c9, u12]) (by simp [results, Try.results16, go_sem, UV, *]) rfl ?_
                rw [HEND.out, HPK.out]
                exact rt_end (u := ⟨true, false, (c + 1) % 256, ls1, rest⟩) HRR.out HOW.out hB2 HSL.out HB9.out HO9.out _ _ _ _ _
              · have hP : packs D = ((packs bb).1, (packs bb).2.1, fs ++ (packs bb).2.2) := by simpa using hE
                have HP := Lib.hid hP
                clear hE hP
                by_cases h6 : bb.length < 6
                · have HPK : Hid (packs D = (true, bb, fs)) := Lib.hid (by rw [HP.out, packs_few bb h6]; simp)
                  have e6 : ¬ (6 : Int) ≤ (bb.length : Int) := by omega
                  clear h6
                  have HVB : Hid (VAt (wr.alloc (.cells #[] 5)) ab (encB bb)) := Lib.hid (HBA.out.below (al (Below.refl _ wr) (.cells #[] 5)) (Nat.le_refl _)).vat
                  go_wp2_with (at_builtin; refine wpList_append_src _ rfl (.tmp 134) (.tmp 135) 23 rfl wr.heap.size 5 j0 (.int .u8 0) 1 Try.underlying23 HJ.out hy0 hy1 hy2 rfl _ 0 [] rfl (own_empty _ _ wr.heap.size rfl _ (Nat.le_refl _)) ab bb.length cb (encB bb) rfl (by simp [encB]) HVB.out (encB_one _) (by unfold maxLen; omega) (by omega) (by simp) ?_)
                  intro v9 w9 hown9 hgrow9 _
                  have HB9 := Lib.hid (((Below.refl wr.heap.size wr).alloc (Nat.le_refl _) (.cells #[] 5)).grown hgrow9 (by simp) (fun k hk => by simp [Value.ownBlock] at hk; omega))
                  have hO9 : w9.ownsRow wr.heap.size 5 1 v9 bb.length (encB bb) := by simpa using hown9
                  obtain ⟨-, a9, c9, rfl, -, -, -⟩ := BAt.of_row hO9
                  have HO9 := Lib.hid hO9
                  have hR9 := HRR.out.step HB9.out (Nat.le_refl _)
                  have y0 := hR9.box.at 0 rfl
                  have y1 := hR9.box.at 1 rfl
                  have y2 := hR9.box.at 2 rfl
                  have y3 := hR9.box.at 3 rfl
                  have y4 := hR9.box.at 4 rfl
                  have yf4 := hR9.box.free 4
                  have yl := hR9.box.lt
                  have z0 := hR9.res.at 0 rfl
                  have z1 := hR9.res.at 1 rfl
                  have z2 := hR9.res.at 2 rfl
                  have z3 := hR9.res.at 3 rfl
                  have z4 := hR9.res.at 4 rfl
                  have zf0 := hR9.res.free 0
                  have zf1 := hR9.res.free 1
                  have zf2 := hR9.res.free 2
                  have zf3 := hR9.res.free 3
                  have zf4 := hR9.res.free 4
                  have zl := hR9.res.lt
                  clear hown9 hgrow9 hO9 hR9 HVB r3 rf3 rl
                  simp only at y0 y1 y2 y3 y4
                  go_wp2_with fail
                  refine bodyPost_ret (v := .tuple #[UV ⟨true, true, (c + 1) % 256, ls1, bb⟩ a9 c9, u12]) (by simp [results, Try.results16, go_sem, UV, *]) rfl ?_
                  rw [HEND.out, HPK.out]
                  exact rt_end (u := ⟨true, true, (c + 1) % 256, ls1, rest⟩) HRR.out HOW.out hB2 HSL.out HB9.out HO9.out _ _ _ _ _
                · have e6 : (6 : Int) ≤ (bb.length : Int) := by omega
                  have h66 : 6 ≤ bb.length := by omega
                  go_wp2_with fail
                  refine (rlength_any ab bb.length cb bb _ rfl h66 (by omega) HBA.out).mono ?_
                  rintro e w5 ⟨rfl, hq⟩
                  have hbq := hq.below (B := wr.heap.size)
                  have hs5 := hbq.size
                  have HBA := Lib.hid (HBA.out.below hbq (Nat.le_refl _))
                  have hR5 := HRR.out.step hbq (Nat.le_refl _)
                  have HOW := Lib.hid (own_below HOW.out hbq (Nat.le_refl _))
                  have HSL := Lib.hid (HSL.out.below hbq (Nat.le_refl _))
                  clear r3 rf3 rl
                  have r3 := hR5.box.at 3 rfl
                  have rf3 := hR5.box.free 3
                  have rl := hR5.box.lt
                  have HRR := Lib.hid hR5
                  have hB5 : w4.heap.size ≤ w5.heap.size := by omega
                  have hB5q : ∀ nq, Below w5.heap.size w5 (w5.drewN nq) := fun nq => (Quiet.drewN (Quiet.refl w5) nq).below
                  have HB5Q := Lib.hid hB5q
                  clear hB5q
                  clear hq hbq hR5
                  simp only at r3
                  have hn9 := lenB_le bb
                  have hn7 := lenB_ge bb
                  obtain ⟨n, hn⟩ : ∃ n, n = lenB bb := ⟨_, rfl⟩
                  rw [← hn] at hn9 hn7
                  rw [← hn]
                  by_cases h0 : n = 0
                  · have HPK : Hid (packs D = (false, [], fs)) := Lib.hid (by rw [HP.out, packs_bad bb h6 (by omega)]; simp)
                    have e0 : ((n : Int) == 0) = true := by rw [h0]; rfl
                    clear h0 hn7 hn h6
                    go_wp2_with fail
                    go_roundg (gk - 1)
                    case rel =>
                      obtain ⟨h1, h2⟩ := rp_bad HRR.out hB2 hB5 HOW.out HSL.out false
                      exact ⟨[], none, 0, fs, vs, false, ⟨rfl, by simp, by unfold maxLen; omega, .inl rfl, .inl ⟨rfl, rfl⟩, fun q hq => by cases hq⟩, h1, h2, .inr ⟨rfl, rfl, HPK.out⟩, ⟨by simp; omega, by simp, by simp; omega⟩⟩
                    case measure => omega
                  · have e0 : ((n : Int) == 0) = false := by rw [beq_eq_false_iff_ne]; omega
                    have h7 : 7 ≤ n := hn7 h0
                    by_cases h1 : bb.length < n
                    · have HPK : Hid (packs D = (true, bb, fs)) := Lib.hid (by rw [HP.out, packs_wait bb h6 (by omega) (by omega)]; simp)
                      have e1 : (bb.length : Int) < (n : Int) := by omega
                      clear h0 hn7 hn h6 h1
                      have HVB : Hid (VAt (w5.alloc (.cells #[] 5)) ab (encB bb)) := Lib.hid (HBA.out.below (al (Below.refl _ w5) (.cells #[] 5)) (Nat.le_refl _)).vat
                      go_wp2_with (at_builtin; refine wpList_append_src _ rfl (.tmp 134) (.tmp 135) 23 rfl w5.heap.size 5 j0 (.int .u8 0) 1 Try.underlying23 HJ.out hy0 hy1 hy2 rfl _ 0 [] rfl (own_empty _ _ w5.heap.size rfl _ (Nat.le_refl _)) ab bb.length cb (encB bb) rfl (by simp [encB]) HVB.out (encB_one _) (by unfold maxLen; omega) (by omega) (by simp) ?_)
                      intro v9 w9 hown9 hgrow9 _
                      have HB9 := Lib.hid (((Below.refl w5.heap.size w5).alloc (Nat.le_refl _) (.cells #[] 5)).grown hgrow9 (by simp) (fun k hk => by simp [Value.ownBlock] at hk; omega))
                      have hO9 : w9.ownsRow w5.heap.size 5 1 v9 bb.length (encB bb) := by simpa using hown9
                      obtain ⟨-, a9, c9, rfl, -, -, -⟩ := BAt.of_row hO9
                      have HO9 := Lib.hid hO9
                      have hR9 := HRR.out.step HB9.out (Nat.le_refl _)
                      have y0 := hR9.box.at 0 rfl
                      have y1 := hR9.box.at 1 rfl
                      have y2 := hR9.box.at 2 rfl
                      have y3 := hR9.box.at 3 rfl
                      have y4 := hR9.box.at 4 rfl
                      have yf4 := hR9.box.free 4
                      have yl := hR9.box.lt
                      have z0 := hR9.res.at 0 rfl
                      have z1 := hR9.res.at 1 rfl
                      have z2 := hR9.res.at 2 rfl
                      have z3 := hR9.res.at 3 rfl
                      have z4 := hR9.res.at 4 rfl
                      have zf0 := hR9.res.free 0
                      have zf1 := hR9.res.free 1
                      have zf2 := hR9.res.free 2
                      have zf3 := hR9.res.free 3
                      have zf4 := hR9.res.free 4
                      have zl := hR9.res.lt
                      clear hown9 hgrow9 hO9 hR9 HVB r3 rf3 rl
                      simp only at y0 y1 y2 y3 y4
                      go_wp2_with fail
                      refine bodyPost_ret (v := .tuple #[UV ⟨true, true, (c + 1) % 256, ls1, bb⟩ a9 c9, u12]) (by simp [results, Try.results16, go_sem, UV, *]) rfl ?_
                      rw [HEND.out, HPK.out]
                      exact rt_end (u := ⟨true, true, (c + 1) % 256, ls1, rest⟩) HRR.out HOW.out hB2 HSL.out HB9.out HO9.out _ _ _ _ _
                    · have e1 : ¬ (bb.length : Int) < (n : Int) := by omega
                      have HPM := Lib.hid (packs_more bb h6 (by omega) (by omega))
                      rw [← hn] at HPM
                      have hnl : n ≤ bb.length := by omega
                      obtain ⟨g, off, rfl⟩ := HBS.out.resolve_left (fun e => by omega)
                      have hgB : bb ≠ [] → g < w4.heap.size := fun hne => HBO.out ⟨g, off, none⟩ rfl hne
                      have HGB := Lib.hid hgB
                      have p0 := cell_getD HBA.out 0 (by omega)
                      have p1 := cell_getD HBA.out 1 (by omega)
                      simp only [Nat.add_zero] at p0
                      obtain ⟨x0, hx0⟩ : ∃ x, x = bb.getD 0 0 := ⟨_, rfl⟩
                      obtain ⟨x1, hx1⟩ : ∃ x, x = bb.getD 1 0 := ⟨_, rfl⟩
                      rw [← hx0] at p0
                      rw [← hx1] at p1
                      have hap : apid bb = x0.toNat % 8 * 256 + x1.toNat := by rw [hx0, hx1]; rfl
                      have hcd := apid_rem x0 x1 _ hap
                      have b0 := UInt8.toNat_lt x0
                      have b1 := UInt8.toNat_lt x1
                      have g8 : (1 : Int) < (bb.length : Int) := by omega
                      have g9 : (0 : Int) < (bb.length : Int) := by omega
                      have i1 : (n : Int) ≤ (bb.length : Int) := by omega
                      have i2 : (bb.length : Int) ≤ (cb : Int) := by omega
                      have i3 : (0 : Int) ≤ (n : Int) := by omega
                      clear h0 hn7 hn h6 h1 hx0 hx1 hap hgB
                      by_cases h20 : apid bb = 2047
                      · rw [decide_eq_true h20] at hcd
                        simp only [Bool.not_true] at hcd
                        have HP2 : Hid (packs bb = ((packs (bb.drop n)).1, (packs (bb.drop n)).2.1, (packs (bb.drop n)).2.2)) := Lib.hid (by rw [HPM.out, if_pos h20])
                        clear h20 HPM
                        by_cases hcn : cb = n
                        · obtain rfl : bb.length = n := by omega
                          obtain rfl : cb = bb.length := hcn
                          go_wp2_with fail
                          go_quiet (fail)
                          have hRq := HRR.out.step (HB5Q.out nq) (Nat.le_refl _)
                          go_wp2_with fail
                          go_roundg (gk - 1)
                          case rel =>
                            have hnx := rp_next (n := bb.length) (A5 := some ⟨g, off, none⟩) (C5 := 0) HBA.out (by omega) HBM.out (by omega) HGB.out (.inr ⟨rfl, rfl, rfl⟩)
                            have e3 := HP.out
                            rw [HP2.out] at e3
                            exact ⟨bb.drop bb.length, some ⟨g, off, none⟩, 0, fs, vs, true, ⟨by rw [List.length_drop, Nat.sub_self], hnx.1, hnx.2.1, hnx.2.2.1.quiet ⟨nq, rfl⟩, hnx.2.2.2.1, hnx.2.2.2.2⟩, ⟨hRq, hB5⟩, ⟨own_drewN HOW.out nq, HSL.out.below (HB5Q.out nq) (Nat.le_refl _)⟩, .inl ⟨rfl, e3⟩, ⟨by rw [List.length_drop]; omega, by rw [List.length_drop]; omega, by rw [List.length_drop]; omega⟩⟩
                          case measure => omega
                        · have hcn' : ¬ cb = n := hcn
                          clear hcn
                          go_wp2_with fail
                          go_quiet (fail)
                          have hRq := HRR.out.step (HB5Q.out nq) (Nat.le_refl _)
                          go_wp2_with fail
                          go_roundg (gk - 1)
                          case rel =>
                            have hnx := rp_next (n := n) (A5 := some ⟨g, off + n, none⟩) (C5 := cb - n) HBA.out (by omega) HBM.out (by omega) HGB.out (.inl ⟨rfl, rfl⟩)
                            have e3 := HP.out
                            rw [HP2.out] at e3
                            exact ⟨bb.drop n, some ⟨g, off + n, none⟩, cb - n, fs, vs, true, ⟨by rw [List.length_drop], hnx.1, hnx.2.1, hnx.2.2.1.quiet ⟨nq, rfl⟩, hnx.2.2.2.1, hnx.2.2.2.2⟩, ⟨hRq, hB5⟩, ⟨own_drewN HOW.out nq, HSL.out.below (HB5Q.out nq) (Nat.le_refl _)⟩, .inl ⟨rfl, e3⟩, ⟨by rw [List.length_drop]; omega, by rw [List.length_drop]; omega, by rw [List.length_drop]; omega⟩⟩
                          case measure => omega
                      · rw [decide_eq_false h20] at hcd
                        simp only [Bool.not_false] at hcd
                        have HP2 : Hid (packs bb = ((packs (bb.drop n)).1, (packs (bb.drop n)).2.1, bb.take n :: (packs (bb.drop n)).2.2)) := Lib.hid (by rw [HPM.out, if_neg h20])
                        clear h20 HPM
                        by_cases hcn : cb = n
                        · obtain rfl : bb.length = n := by omega
                          obtain rfl : cb = bb.length := hcn
                          obtain ⟨F, hF⟩ : ∃ F, F = bb.take bb.length := ⟨_, rfl⟩
                          have HFL : Hid (F.length = bb.length) := Lib.hid (by rw [hF]; simp)
                          rw [← hF] at HP2
                          have HF := Lib.hid hF
                          clear hF
                          go_wp2_with fail
                          go_quiet (fail)
                          have hRq := HRR.out.step (HB5Q.out nq) (Nat.le_refl _)
                          have hwq := own_drewN HOW.out nq
                          have hsq := HSL.out.below (HB5Q.out nq) (Nat.le_refl _)
                          have haq : BAt (w5.drewN nq) (some ⟨g, off, none⟩) bb := HBA.out.quiet ⟨nq, rfl⟩
                          have hBq : w4.heap.size ≤ (w5.drewN nq).heap.size := hB5
                          clear p0 p1 r3 rf3 rl
                          generalize w5.drewN nq = wq at hRq hwq hsq haq hBq ⊢
                          have HRq := Lib.hid hRq
                          have HWq := Lib.hid hwq
                          have HSq := Lib.hid hsq
                          have HAq := Lib.hid haq
                          have HVF : Hid (VAt (wq.alloc (.cells #[] 5)) (some ⟨g, off, none⟩) (encB F)) := Lib.hid (by rw [HF.out]; exact ((haq.take _).below (al (Below.refl _ wq) (.cells #[] 5)) (Nat.le_refl _)).vat)
                          clear hRq hwq hsq haq
                          go_wp2_with (at_builtin; refine wpList_append_src _ rfl (.tmp 124) (.tmp 127) 23 rfl wq.heap.size 5 j0 (.int .u8 0) 1 Try.underlying23 HJ.out hy0 hy1 hy2 rfl _ 0 [] rfl (own_empty _ _ wq.heap.size rfl _ (Nat.le_refl _)) (some ⟨g, off, none⟩) bb.length bb.length (encB F) rfl (by rw [encB_length, HFL.out]) HVF.out (encB_one _) (by unfold maxLen; omega) (by omega) (by simp) ?_)
                          intro v6 w6 hown6 hgrow6 _
                          have HB6 := Lib.hid (((Below.refl wq.heap.size wq).alloc (Nat.le_refl _) (.cells #[] 5)).grown hgrow6 (by simp) (fun k hk => by simp [Value.ownBlock] at hk; omega))
                          have hO6 : w6.ownsRow wq.heap.size 5 1 v6 F.length (encB F) := by rw [HFL.out]; simpa using hown6
                          obtain ⟨-, a6, c6, rfl, -, -, -⟩ := BAt.of_row hO6
                          have HO6 := Lib.hid hO6
                          have HW7 := Lib.hid (fun o => own_below (own_below HWq.out HB6.out (Nat.le_refl _)) (al (Below.refl _ w6) o) (Nat.le_refl _))
                          have HX := Lib.hid (one_vat w6 (.slice a6 F.length c6) 23)
                          have hs6 := HB6.out.size
                          clear hown6 hgrow6 hO6 HVF
                          go_wp2_with (at_builtin; refine wpList_append_src _ rfl (.tmp 123) (.tmp 129) 22 rfl w4.heap.size 23 j1 (.slice none 0 0) 24 Try.underlying22 HJ1.out hz0 hz1 hz2 (by rfl) _ fs.length vs rfl (HW7.out _) (some ⟨w6.heap.size, 0, none⟩) 1 1 [.slice a6 F.length c6] rfl (by rfl) HX.out (by simp [Value.oneCell']) (by unfold maxLen; omega) (by omega) (by simp; omega) ?_)
                          intro v8 w8 hown8 hgrow8 hblk8
                          have hap := rp_app HRq.out hB2 hBq HWq.out HSq.out HB6.out HO6.out hown8 hgrow8 hblk8
                          have HAP := Lib.hid hap
                          have HO8 := Lib.hid hown8
                          clear hap hown8 hgrow8 hblk8
                          go_wp2_with fail
                          go_roundg (gk - 1)
                          case rel =>
                            obtain ⟨q1, q2, q3, q4⟩ := HAP.out
                            have hnx := rp_next (n := bb.length) (A5 := some ⟨g, off, none⟩) (C5 := 0) HAq.out (by omega) HBM.out (by omega) HGB.out (.inr ⟨rfl, rfl, rfl⟩)
                            have e3 := HP.out
                            rw [HP2.out] at e3
                            exact ⟨bb.drop bb.length, some ⟨g, off, none⟩, 0, fs ++ [F], vs ++ [.slice a6 F.length c6], true, ⟨by rw [List.length_drop, Nat.sub_self], hnx.1, hnx.2.1, q3 _ _ hnx.2.2.1 hnx.2.2.2.2, hnx.2.2.2.1, hnx.2.2.2.2⟩, ⟨q1, q4⟩, ⟨by rw [List.length_append]; exact HO8.out, q2⟩, .inl ⟨rfl, by rw [e3]; simp⟩, ⟨by rw [List.length_drop]; omega, by rw [List.length_drop]; omega, by simp only [List.length_drop, List.length_append, List.length_cons, List.length_nil]; omega⟩⟩
                          case measure => omega
                        · have hcn' : ¬ cb = n := hcn
                          clear hcn
                          obtain ⟨F, hF⟩ : ∃ F, F = bb.take n := ⟨_, rfl⟩
                          have HFL : Hid (F.length = n) := Lib.hid (by rw [hF]; simp; omega)
                          rw [← hF] at HP2
                          have HF := Lib.hid hF
                          clear hF
                          go_wp2_with fail
                          go_quiet (fail)
                          have hRq := HRR.out.step (HB5Q.out nq) (Nat.le_refl _)
                          have hwq := own_drewN HOW.out nq
                          have hsq := HSL.out.below (HB5Q.out nq) (Nat.le_refl _)
                          have haq : BAt (w5.drewN nq) (some ⟨g, off, none⟩) bb := HBA.out.quiet ⟨nq, rfl⟩
                          have hBq : w4.heap.size ≤ (w5.drewN nq).heap.size := hB5
                          clear p0 p1 r3 rf3 rl
                          generalize w5.drewN nq = wq at hRq hwq hsq haq hBq ⊢
                          have HRq := Lib.hid hRq
                          have HWq := Lib.hid hwq
                          have HSq := Lib.hid hsq
                          have HAq := Lib.hid haq
                          have HVF : Hid (VAt (wq.alloc (.cells #[] 5)) (some ⟨g, off, none⟩) (encB F)) := Lib.hid (by rw [HF.out]; exact ((haq.take _).below (al (Below.refl _ wq) (.cells #[] 5)) (Nat.le_refl _)).vat)
                          clear hRq hwq hsq haq
                          go_wp2_with (at_builtin; refine wpList_append_src _ rfl (.tmp 124) (.tmp 127) 23 rfl wq.heap.size 5 j0 (.int .u8 0) 1 Try.underlying23 HJ.out hy0 hy1 hy2 rfl _ 0 [] rfl (own_empty _ _ wq.heap.size rfl _ (Nat.le_refl _)) (some ⟨g, off, none⟩) n cb (encB F) rfl (by rw [encB_length, HFL.out]) HVF.out (encB_one _) (by unfold maxLen; omega) (by omega) (by simp) ?_)
                          intro v6 w6 hown6 hgrow6 _
                          have HB6 := Lib.hid (((Below.refl wq.heap.size wq).alloc (Nat.le_refl _) (.cells #[] 5)).grown hgrow6 (by simp) (fun k hk => by simp [Value.ownBlock] at hk; omega))
                          have hO6 : w6.ownsRow wq.heap.size 5 1 v6 F.length (encB F) := by rw [HFL.out]; simpa using hown6
                          obtain ⟨-, a6, c6, rfl, -, -, -⟩ := BAt.of_row hO6
                          have HO6 := Lib.hid hO6
                          have HW7 := Lib.hid (fun o => own_below (own_below HWq.out HB6.out (Nat.le_refl _)) (al (Below.refl _ w6) o) (Nat.le_refl _))
                          have HX := Lib.hid (one_vat w6 (.slice a6 F.length c6) 23)
                          have hs6 := HB6.out.size
                          clear hown6 hgrow6 hO6 HVF
                          go_wp2_with (at_builtin; refine wpList_append_src _ rfl (.tmp 123) (.tmp 129) 22 rfl w4.heap.size 23 j1 (.slice none 0 0) 24 Try.underlying22 HJ1.out hz0 hz1 hz2 (by rfl) _ fs.length vs rfl (HW7.out _) (some ⟨w6.heap.size, 0, none⟩) 1 1 [.slice a6 F.length c6] rfl (by rfl) HX.out (by simp [Value.oneCell']) (by unfold maxLen; omega) (by omega) (by simp; omega) ?_)
                          intro v8 w8 hown8 hgrow8 hblk8
                          have hap := rp_app HRq.out hB2 hBq HWq.out HSq.out HB6.out HO6.out hown8 hgrow8 hblk8
                          have HAP := Lib.hid hap
                          have HO8 := Lib.hid hown8
                          clear hap hown8 hgrow8 hblk8
                          go_wp2_with fail
                          go_roundg (gk - 1)
                          case rel =>
                            obtain ⟨q1, q2, q3, q4⟩ := HAP.out
                            have hnx := rp_next (n := n) (A5 := some ⟨g, off + n, none⟩) (C5 := cb - n) HAq.out (by omega) HBM.out (by omega) HGB.out (.inl ⟨rfl, rfl⟩)
                            have e3 := HP.out
                            rw [HP2.out] at e3
                            exact ⟨bb.drop n, some ⟨g, off + n, none⟩, cb - n, fs ++ [F], vs ++ [.slice a6 F.length c6], true, ⟨by rw [List.length_drop], hnx.1, hnx.2.1, q3 _ _ hnx.2.2.1 hnx.2.2.2.2, hnx.2.2.2.1, hnx.2.2.2.2⟩, ⟨q1, q4⟩, ⟨by rw [List.length_append]; exact HO8.out, q2⟩, .inl ⟨rfl, by rw [e3]; simp⟩, ⟨by rw [List.length_drop]; omega, by rw [List.length_drop]; omega, by simp only [List.length_drop, List.length_append, List.length_cons, List.length_nil]; omega⟩⟩
                          case measure => omega
          · have HST : Hid (((true : Bool) && decide ((fn : Int) = fitR rest data)) = false) := Lib.hid (by rw [Bool.true_and, decide_eq_false]; rw [← HFT.out]; exact hq)
            have eq1 : ((fn : Int) != ft) = true := by rw [bne_iff_ne]; exact hq
            clear hq
            go_upto_region 13 with fail
            obtain ⟨wB, hwB⟩ : ∃ wB, wB = wF.setCell ⟨w.heap.size, 3, none⟩ (.bool false) := ⟨_, rfl⟩
            have hRB : RM w ⟨true, false, (c + 1) % 256, ls1, rest⟩ a cap wB := by rw [hwB]; exact ⟨Blk.cast (HRF.out.box.setCell 3 _) rfl, HRF.out.res.setOther (p := ⟨w.heap.size, 3, none⟩) (by simp) _, HRF.out.below.setCell (p := ⟨w.heap.size, 3, none⟩) (Nat.le_refl _) _⟩
            rw [← hwB]
            clear hwB s3F sfF slF
            have s3 := hRB.box.at 3 rfl
            have s4 := hRB.box.at 4 rfl
            have sl := hRB.box.lt
            have hHB := hRB.below.size
            have HV1 := Lib.hid ((HA.out.below hRB.below (Nat.le_refl _)).below (al (Below.refl _ wB) (.cells #[] 5)) (Nat.le_refl _)).vat
            have HRB := Lib.hid hRB
            clear hRB
            go_wp2_with (at_builtin; refine wpList_append_src _ rfl (.tmp 78) (.tmp 80) 23 rfl wB.heap.size 5 j0 (.int .u8 0) 1 Try.underlying23 HJ.out hy0 hy1 hy2 rfl _ 0 [] rfl (own_empty _ _ wB.heap.size rfl _ (Nat.le_refl _)) a rest.length cap (encB rest) rfl (by simp [encB]) HV1.out (encB_one _) (by unfold maxLen; omega) (by omega) (by simp) ?_)
            intro v3 w3 hown3 hgrow3 _
            have HB3 := Lib.hid (((Below.refl wB.heap.size wB).alloc (Nat.le_refl _) (.cells #[] 5)).grown hgrow3 (by simp) (fun k hk => by simp [Value.ownBlock] at hk; omega))
            have HO3 : Hid (w3.ownsRow wB.heap.size 5 1 v3 rest.length (encB rest)) := Lib.hid (by simpa using hown3)
            have HV2 := Lib.hid ((HD.out.below HRB.out.below (Nat.le_refl _)).below HB3.out (Nat.le_refl _)).vat
            have hs3 := HB3.out.size
            clear hown3 hgrow3 HV1 s3 s4 sl
            go_wp2_with (at_builtin; refine wpList_append_src _ rfl (.tmp 81) (.tmp 82) 23 rfl wB.heap.size 5 j0 (.int .u8 0) 1 Try.underlying23 HJ.out hy0 hy1 hy2 rfl _ rest.length (encB rest) rfl HO3.out (some ⟨gd, od, none⟩) data.length cd (encB data) rfl (by simp [encB]) HV2.out (encB_one _) (by unfold maxLen; omega) (by omega) hs3 ?_)
            intro v4 w4 hown4 hgrow4 _
            have HB4 := Lib.hid (HB3.out.grown hgrow4 hs3 (fun k hk => (HO3.out.lt k hk).1))
            obtain ⟨L, hL⟩ : ∃ L, L = rest ++ data := ⟨_, rfl⟩
            have HLL : Hid (L.length = rest.length + data.length) := Lib.hid (by rw [hL]; simp)
            have hO4 : w4.ownsRow wB.heap.size 5 1 v4 L.length (encB L) := by rw [HLL.out, hL, encB_append]; exact hown4
            have HL := Lib.hid hL
            obtain ⟨-, a4, c4, rfl, hc4, hm4, hA4⟩ := BAt.of_row hO4
            have hsh4 := own_shape hO4
            have HSH4 : Hid ((a4 = none ∧ c4 = 0) ∨ ∃ g off, a4 = some ⟨g, off, none⟩) := Lib.hid (by
              rcases hsh4 with ⟨e1, e2, -⟩ | ⟨g, e, -⟩
              · exact .inl ⟨e1, e2⟩
              · exact .inr ⟨g, 0, e⟩)
            have HA4 := Lib.hid hA4
            have hR4 := HRB.out.step HB4.out (Nat.le_refl _)
            have t3 := hR4.box.at 3 rfl
            have t4 := hR4.box.at 4 rfl
            have tf3 := hR4.box.free 3
            have tf4 := hR4.box.free 4
            have tl := hR4.box.lt
            have hs4 := HB4.out.size
            have HR4 := Lib.hid hR4
            clear hown4 hgrow4 hO4 hsh4 hA4 hR4 HO3 HV2 HB3 hs3 hL
            obtain ⟨D, hD⟩ : ∃ D, D = data.drop fn := ⟨_, rfl⟩
            have HDL : Hid (D.length = data.length - fn) := Lib.hid (by rw [hD]; simp)
            have HEND : Hid (US.take ⟨started, step, next, lost, rest⟩ c (fn : Int) data = (⟨true, (packs D).1, (c + 1) % 256, ls1, (packs D).2.1⟩, (packs D).2.2)) := Lib.hid (by rw [HTE.out, eat_new HST.out (by omega), Int.toNat_natCast, ← hD])
            have HDD := Lib.hid hD
            clear hD
            go_wp2_with fail
            obtain ⟨wL, hwL⟩ : ∃ wL, wL = w4.setCell ⟨w.heap.size, 3, none⟩ (.bool true) := ⟨_, rfl⟩
            have HRL : Hid (RM w ⟨true, true, (c + 1) % 256, ls1, rest⟩ a cap wL) := Lib.hid (by rw [hwL]; exact ⟨Blk.cast (HR4.out.box.setCell 3 _) rfl, HR4.out.res.setOther (p := ⟨w.heap.size, 3, none⟩) (by simp) _, HR4.out.below.setCell (p := ⟨w.heap.size, 3, none⟩) (Nat.le_refl _) _⟩)
            have hfL : Fr (fun k => k = w.heap.size) w4 wL := by rw [hwL]; exact (Fr.refl _ _).set1 _ (by exact .inl rfl)
            have hLs : wL.heap.size = w4.heap.size := by rw [hwL]; simp [World.setCell]
            have hB2 : w.heap.size + 2 ≤ w4.heap.size := by have := HR4.out.res.lt; omega
            have hss : D.length ≤ cd - fn ∧ cd - fn ≤ maxLen ∧ BAt wL (some ⟨gd, od + fn, none⟩) D ∧ ((((some ⟨gd, od + fn, none⟩ : Option Addr) = none ∧ cd - fn = 0)) ∨ ∃ g off, (some ⟨gd, od + fn, none⟩ : Option Addr) = some ⟨g, off, none⟩) ∧ (∀ q, (some ⟨gd, od + fn, none⟩ : Option Addr) = some q → D ≠ [] → q.block < w4.heap.size) := by
              have hbd := HD.out.below HR4.out.below (Nat.le_refl _)
              have hb2 : BAt w4 (some ⟨gd, od + fn, none⟩) D := by rw [HDD.out]; exact bat_drop hbd
              have hlt : ∀ q, (some ⟨gd, od + fn, none⟩ : Option Addr) = some q → D ≠ [] → q.block < w.heap.size := fun q hq hne => by
                cases hq
                exact HD.out.lt ⟨gd, od, none⟩ rfl (fun e => hne (by rw [HDD.out, e]; simp))
              exact ⟨by rw [HDL.out]; omega, by unfold maxLen; omega, hb2.apart hfL (fun q hq hne e => by have := hlt q hq hne; omega), .inr ⟨_, _, rfl⟩, fun q hq hne => by have := hlt q hq hne; omega⟩
            have HSS := Lib.hid hss
            rw [← hwL]
            clear hwL hfL hss t3 t4 tf3 tf4 tl
            go_loopg [11, 12] (D.length + 1) (fun gk bv vo wr => RPR w w4.heap.size ⟨true, true, (c + 1) % 256, ls1, rest⟩ a cap D gk bv vo wr)
            case atStart => exact ⟨D, some ⟨gd, od + fn, none⟩, cd - fn, [], [], true, ⟨by rw [HDL.out], HSS.out⟩, ⟨HRL.out, by omega⟩, ⟨World.ownsRow_nil _ _ _ _, Sls.nil⟩, .inl ⟨rfl, by simp⟩, ⟨by omega, by have := HDL.out; omega, by have := HDL.out; simp; omega⟩⟩
            case round =>
              obtain ⟨bb, ab, cb, fs, vs, st, ⟨rfl, hbc, hbm, hbA, hbS, hbO⟩, ⟨hR, hBw⟩, ⟨how, hsl⟩, hE, hgk, hbl, hfl⟩ := hrel
              have HBA := Lib.hid hbA
              have HBO := Lib.hid hbO
              have HBS := Lib.hid hbS
              have HRR := Lib.hid hR
              have HOW := Lib.hid how
              have HSL := Lib.hid hsl
              have HBM := Lib.hid hbm
              have r3 := hR.box.at 3 rfl
              have rf3 := hR.box.free 3
              have rl := hR.box.lt
              clear hbA hbO hbS hR how hsl hbm
              simp only at r3
              cases st
              · obtain ⟨rfl, hP⟩ : bb = [] ∧ packs D = (false, [], fs) := by simpa using hE
                have HPK := hP
                clear hE hP
                have HPK := Lib.hid HPK
                have HVB : Hid (VAt (wr.alloc (.cells #[] 5)) ab (encB [])) := Lib.hid (HBA.out.below (al (Below.refl _ wr) (.cells #[] 5)) (Nat.le_refl _)).vat
                go_wp2_with (at_builtin; refine wpList_append_src _ rfl (.tmp 134) (.tmp 135) 23 rfl wr.heap.size 5 j0 (.int .u8 0) 1 Try.underlying23 HJ.out hy0 hy1 hy2 rfl _ 0 [] rfl (own_empty _ _ wr.heap.size rfl _ (Nat.le_refl _)) ab 0 cb (encB []) rfl (by simp [encB]) HVB.out (encB_one _) (by unfold maxLen; omega) (by omega) (by simp) ?_)
                intro v9 w9 hown9 hgrow9 _
                have HB9 := Lib.hid (((Below.refl wr.heap.size wr).alloc (Nat.le_refl _) (.cells #[] 5)).grown hgrow9 (by simp) (fun k hk => by simp [Value.ownBlock] at hk; omega))
                have hO9 : w9.ownsRow wr.heap.size 5 1 v9 0 (encB []) := by simpa using hown9
                obtain ⟨-, a9, c9, rfl, -, -, -⟩ := BAt.of_row hO9
                have HO9 := Lib.hid hO9
                have hR9 := HRR.out.step HB9.out (Nat.le_refl _)
                have y0 := hR9.box.at 0 rfl
                have y1 := hR9.box.at 1 rfl
                have y2 := hR9.box.at 2 rfl
                have y3 := hR9.box.at 3 rfl
                have y4 := hR9.box.at 4 rfl
                have yf4 := hR9.box.free 4
                have yl := hR9.box.lt
                have z0 := hR9.res.at 0 rfl
                have z1 := hR9.res.at 1 rfl
                have z2 := hR9.res.at 2 rfl
                have z3 := hR9.res.at 3 rfl
                have z4 := hR9.res.at 4 rfl
                have zf0 := hR9.res.free 0
                have zf1 := hR9.res.free 1
                have zf2 := hR9.res.free 2
                have zf3 := hR9.res.free 3
                have zf4 := hR9.res.free 4
                have zl := hR9.res.lt
                clear hown9 hgrow9 hO9 hR9 HVB r3 rf3 rl
                simp only at y0 y1 y2 y3 y4
                go_wp2_with fail
                refine bodyPost_ret (v := .tuple #[UV ⟨true, false, (c + 1) % 256, ls1, []⟩ a9 c9, u12]) (by simp [results, Try.results16, go_sem, UV, *]) rfl ?_
                rw [HEND.out, HPK.out]
                exact rt_end (u := ⟨true, false, (c + 1) % 256, ls1, rest⟩) HRR.out HOW.out hB2 HSL.out HB9.out HO9.out _ _ _ _ _
              · have hP : packs D = ((packs bb).1, (packs bb).2.1, fs ++ (packs bb).2.2) := by simpa using hE
                have HP := Lib.hid hP
                clear hE hP
                by_cases h6 : bb.length < 6
                · have HPK : Hid (packs D = (true, bb, fs)) := Lib.hid (by rw [HP.out, packs_few bb h6]; simp)
                  have e6 : ¬ (6 : Int) ≤ (bb.length : Int) := by omega
                  clear h6
                  have HVB : Hid (VAt (wr.alloc (.cells #[] 5)) ab (encB bb)) := Lib.hid (HBA.out.below (al (Below.refl _ wr) (.cells #[] 5)) (Nat.le_refl _)).vat
                  go_wp2_with (at_builtin; refine wpList_append_src _ rfl (.tmp 134) (.tmp 135) 23 rfl wr.heap.size 5 j0 (.int .u8 0) 1 Try.underlying23 HJ.out hy0 hy1 hy2 rfl _ 0 [] rfl (own_empty _ _ wr.heap.size rfl _ (Nat.le_refl _)) ab bb.length cb (encB bb) rfl (by simp [encB]) HVB.out (encB_one _) (by unfold maxLen; omega) (by omega) (by simp) ?_)
                  intro v9 w9 hown9 hgrow9 _
                  have HB9 := Lib.hid (((Below.refl wr.heap.size wr).alloc (Nat.le_refl _) (.cells #[] 5)).grown hgrow9 (by simp) (fun k hk => by simp [Value.ownBlock] at hk; omega))
                  have hO9 : w9.ownsRow wr.heap.size 5 1 v9 bb.length (encB bb) := by simpa using hown9
                  obtain ⟨-, a9, c9, rfl, -, -, -⟩ := BAt.of_row hO9
                  have HO9 := Lib.hid hO9
                  have hR9 := HRR.out.step HB9.out (Nat.le_refl _)
                  have y0 := hR9.box.at 0 rfl
                  have y1 := hR9.box.at 1 rfl
                  have y2 := hR9.box.at 2 rfl
                  have y3 := hR9.box.at 3 rfl
                  have y4 := hR9.box.at 4 rfl
                  have yf4 := hR9.box.free 4
                  have yl := hR9.box.lt
                  have z0 := hR9.res.at 0 rfl
                  have z1 := hR9.res.at 1 rfl
                  have z2 := hR9.res.at 2 rfl
                  have z3 := hR9.res.at 3 rfl
                  have z4 := hR9.res.at 4 rfl
                  have zf0 := hR9.res.free 0
                  have zf1 := hR9.res.free 1
                  have zf2 := hR9.res.free 2
                  have zf3 := hR9.res.free 3
                  have zf4 := hR9.res.free 4
                  have zl := hR9.res.lt
                  clear hown9 hgrow9 hO9 hR9 HVB r3 rf3 rl
                  simp only at y0 y1 y2 y3 y4
                  go_wp2_with fail
                  refine bodyPost_ret (v := .tuple #[UV ⟨true, true, (c + 1) % 256, ls1, bb⟩ a9 c9, u12]) (by simp [results, Try.results16, go_sem, UV, *]) rfl ?_
                  rw [HEND.out, HPK.out]
                  exact rt_end (u := ⟨true, true, (c + 1) % 256, ls1, rest⟩) HRR.out HOW.out hB2 HSL.out HB9.out HO9.out _ _ _ _ _
                · have e6 : (6 : Int) ≤ (bb.length : Int) := by omega
                  have h66 : 6 ≤ bb.length := by omega
                  go_wp2_with fail
                  refine (rlength_any ab bb.length cb bb _ rfl h66 (by omega) HBA.out).mono ?_
                  rintro e w5 ⟨rfl, hq⟩
                  have hbq := hq.below (B := wr.heap.size)
                  have hs5 := hbq.size
                  have HBA := Lib.hid (HBA.out.below hbq (Nat.le_refl _))
                  have hR5 := HRR.out.step hbq (Nat.le_refl _)
                  have HOW := Lib.hid (own_below HOW.out hbq (Nat.le_refl _))
                  have HSL := Lib.hid (HSL.out.below hbq (Nat.le_refl _))
                  clear r3 rf3 rl
                  have r3 := hR5.box.at 3 rfl
                  have rf3 := hR5.box.free 3
                  have rl := hR5.box.lt
                  have HRR := Lib.hid hR5
                  have hB5 : w4.heap.size ≤ w5.heap.size := by omega
                  have hB5q : ∀ nq, Below w5.heap.size w5 (w5.drewN nq) := fun nq => (Quiet.drewN (Quiet.refl w5) nq).below
                  have HB5Q := Lib.hid hB5q
                  clear hB5q
                  clear hq hbq hR5
                  simp only at r3
                  have hn9 := lenB_le bb
                  have hn7 := lenB_ge bb
                  obtain ⟨n, hn⟩ : ∃ n, n = lenB bb := ⟨_, rfl⟩
                  rw [← hn] at hn9 hn7
                  rw [← hn]
                  by_cases h0 : n = 0
                  · have HPK : Hid (packs D = (false, [], fs)) := Lib.hid (by rw [HP.out, packs_bad bb h6 (by omega)]; simp)
                    have e0 : ((n : Int) == 0) = true := by rw [h0]; rfl
                    clear h0 hn7 hn h6
                    go_wp2_with fail
                    go_roundg (gk - 1)
                    case rel =>
                      obtain ⟨h1, h2⟩ := rp_bad HRR.out hB2 hB5 HOW.out HSL.out false
                      exact ⟨[], none, 0, fs, vs, false, ⟨rfl, by simp, by unfold maxLen; omega, .inl rfl, .inl ⟨rfl, rfl⟩, fun q hq => by cases hq⟩, h1, h2, .inr ⟨rfl, rfl, HPK.out⟩, ⟨by simp; omega, by simp, by simp; omega⟩⟩
                    case measure => omega
                  · have e0 : ((n : Int) == 0) = false := by rw [beq_eq_false_iff_ne]; omega
                    have h7 : 7 ≤ n := hn7 h0
                    by_cases h1 : bb.length < n
                    · have HPK : Hid (packs D = (true, bb, fs)) := Lib.hid (by rw [HP.out, packs_wait bb h6 (by omega) (by omega)]; simp)
                      have e1 : (bb.length : Int) < (n : Int) := by omega
                      clear h0 hn7 hn h6 h1
                      have HVB : Hid (VAt (w5.alloc (.cells #[] 5)) ab (encB bb)) := Lib.hid (HBA.out.below (al (Below.refl _ w5) (.cells #[] 5)) (Nat.le_refl _)).vat
                      go_wp2_with (at_builtin; refine wpList_append_src _ rfl (.tmp 134) (.tmp 135) 23 rfl w5.heap.size 5 j0 (.int .u8 0) 1 Try.underlying23 HJ.out hy0 hy1 hy2 rfl _ 0 [] rfl (own_empty _ _ w5.heap.size rfl _ (Nat.le_refl _)) ab bb.length cb (encB bb) rfl (by simp [encB]) HVB.out (encB_one _) (by unfold maxLen; omega) (by omega) (by simp) ?_)
                      intro v9 w9 hown9 hgrow9 _
                      have HB9 := Lib.hid (((Below.refl w5.heap.size w5).alloc (Nat.le_refl _) (.cells #[] 5)).grown hgrow9 (by simp) (fun k hk => by simp [Value.ownBlock] at hk; omega))
                      have hO9 : w9.ownsRow w5.heap.size 5 1 v9 bb.length (encB bb) := by simpa using hown9
                      obtain ⟨-, a9, c9, rfl, -, -, -⟩ := BAt.of_row hO9
                      have HO9 := Lib.hid hO9
                      have hR9 := HRR.out.step HB9.out (Nat.le_refl _)
                      have y0 := hR9.box.at 0 rfl
                      have y1 := hR9.box.at 1 rfl
                      have y2 := hR9.box.at 2 rfl
                      have y3 := hR9.box.at 3 rfl
                      have y4 := hR9.box.at 4 rfl
                      have yf4 := hR9.box.free 4
                      have yl := hR9.box.lt
                      have z0 := hR9.res.at 0 rfl
                      have z1 := hR9.res.at 1 rfl
                      have z2 := hR9.res.at 2 rfl
                      have z3 := hR9.res.at 3 rfl
                      have z4 := hR9.res.at 4 rfl
                      have zf0 := hR9.res.free 0
                      have zf1 := hR9.res.free 1
                      have zf2 := hR9.res.free 2
                      have zf3 := hR9.res.free 3
                      have zf4 := hR9.res.free 4
                      have zl := hR9.res.lt
                      clear hown9 hgrow9 hO9 hR9 HVB r3 rf3 rl
                      simp only at y0 y1 y2 y3 y4
                      go_wp2_with fail
                      refine bodyPost_ret (v := .tuple #[UV ⟨true, true, (c + 1) % 256, ls1, bb⟩ a9 c9, u12]) (by simp [results, Try.results16, go_sem, UV, *]) rfl ?_
                      rw [HEND.out, HPK.out]
                      exact rt_end (u := ⟨true, true, (c + 1) % 256, ls1, rest⟩) HRR.out HOW.out hB2 HSL.out HB9.out HO9.out _ _ _ _ _
                    · have e1 : ¬ (bb.length : Int) < (n : Int) := by omega
                      have HPM := Lib.hid (packs_more bb h6 (by omega) (by omega))
                      rw [← hn] at HPM
                      have hnl : n ≤ bb.length := by omega
                      obtain ⟨g, off, rfl⟩ := HBS.out.resolve_left (fun e => by omega)
                      have hgB : bb ≠ [] → g < w4.heap.size := fun hne => HBO.out ⟨g, off, none⟩ rfl hne
                      have HGB := Lib.hid hgB
                      have p0 := cell_getD HBA.out 0 (by omega)
                      have p1 := cell_getD HBA.out 1 (by omega)
                      simp only [Nat.add_zero] at p0
                      obtain ⟨x0, hx0⟩ : ∃ x, x = bb.getD 0 0 := ⟨_, rfl⟩
                      obtain ⟨x1, hx1⟩ : ∃ x, x = bb.getD 1 0 := ⟨_, rfl⟩
                      rw [← hx0] at p0
                      rw [← hx1] at p1
                      have hap : apid bb = x0.toNat % 8 * 256 + x1.toNat := by rw [hx0, hx1]; rfl
                      have hcd := apid_rem x0 x1 _ hap
                      have b0 := UInt8.toNat_lt x0
                      have b1 := UInt8.toNat_lt x1
                      have g8 : (1 : Int) < (bb.length : Int) := by omega
                      have g9 : (0 : Int) < (bb.length : Int) := by omega
                      have i1 : (n : Int) ≤ (bb.length : Int) := by omega
                      have i2 : (bb.length : Int) ≤ (cb : Int) := by omega
                      have i3 : (0 : Int) ≤ (n : Int) := by omega
                      clear h0 hn7 hn h6 h1 hx0 hx1 hap hgB
                      by_cases h20 : apid bb = 2047
                      · rw [decide_eq_true h20] at hcd
                        simp only [Bool.not_true] at hcd
                        have HP2 : Hid (packs bb = ((packs (bb.drop n)).1, (packs (bb.drop n)).2.1, (packs (bb.drop n)).2.2)) := Lib.hid (by rw [HPM.out, if_pos h20])
                        clear h20 HPM
                        by_cases hcn : cb = n
                        · obtain rfl : bb.length = n := by omega
                          obtain rfl : cb = bb.length := hcn
                          go_wp2_with fail
                          go_quiet (fail)
                          have hRq := HRR.out.step (HB5Q.out nq) (Nat.le_refl _)
                          go_wp2_with fail
                          go_roundg (gk - 1)
                          case rel =>
                            have hnx := rp_next (n := bb.length) (A5 := some ⟨g, off, none⟩) (C5 := 0) HBA.out (by omega) HBM.out (by omega) HGB.out (.inr ⟨rfl, rfl, rfl⟩)
                            have e3 := HP.out
                            rw [HP2.out] at e3
                            exact ⟨bb.drop bb.length, some ⟨g, off, none⟩, 0, fs, vs, true, ⟨by rw [List.length_drop, Nat.sub_self], hnx.1, hnx.2.1, hnx.2.2.1.quiet ⟨nq, rfl⟩, hnx.2.2.2.1, hnx.2.2.2.2⟩, ⟨hRq, hB5⟩, ⟨own_drewN HOW.out nq, HSL.out.below (HB5Q.out nq) (Nat.le_refl _)⟩, .inl ⟨rfl, e3⟩, ⟨by rw [List.length_drop]; omega, by rw [List.length_drop]; omega, by rw [List.length_drop]; omega⟩⟩
                          case measure => omega
                        · have hcn' : ¬ cb = n := hcn
                          clear hcn
                          go_wp2_with fail
                          go_quiet (fail)
                          have hRq := HRR.out.step (HB5Q.out nq) (Nat.le_refl _)
                          go_wp2_with fail
                          go_roundg (gk - 1)
                          case rel =>
                            have hnx := rp_next (n := n) (A5 := some ⟨g, off + n, none⟩) (C5 := cb - n) HBA.out (by omega) HBM.out (by omega) HGB.out (.inl ⟨rfl, rfl⟩)
                            have e3 := HP.out
                            rw [HP2.out] at e3
                            exact ⟨bb.drop n, some ⟨g, off + n, none⟩, cb - n, fs, vs, true, ⟨by rw [List.length_drop], hnx.1, hnx.2.1, hnx.2.2.1.quiet ⟨nq, rfl⟩, hnx.2.2.2.1, hnx.2.2.2.2⟩, ⟨hRq, hB5⟩, ⟨own_drewN HOW.out nq, HSL.out.below (HB5Q.out nq) (Nat.le_refl _)⟩, .inl ⟨rfl, e3⟩, ⟨by rw [List.length_drop]; omega, by rw [List.length_drop]; omega, by rw [List.length_drop]; omega⟩⟩
                          case measure => omega
                      · rw [decide_eq_false h20] at hcd
                        simp only [Bool.not_false] at hcd
                        have HP2 : Hid (packs bb = ((packs (bb.drop n)).1, (packs (bb.drop n)).2.1, bb.take n :: (packs (bb.drop n)).2.2)) := Lib.hid (by rw [HPM.out, if_neg h20])
                        clear h20 HPM
                        by_cases hcn : cb = n
                        · obtain rfl : bb.length = n := by omega
                          obtain rfl : cb = bb.length := hcn
                          obtain ⟨F, hF⟩ : ∃ F, F = bb.take bb.length := ⟨_, rfl⟩
                          have HFL : Hid (F.length = bb.length) := Lib.hid (by rw [hF]; simp)
                          rw [← hF] at HP2
                          have HF := Lib.hid hF
                          clear hF
                          go_wp2_with fail
                          go_quiet (fail)
                          have hRq := HRR.out.step (HB5Q.out nq) (Nat.le_refl _)
                          have hwq := own_drewN HOW.out nq
                          have hsq := HSL.out.below (HB5Q.out nq) (Nat.le_refl _)
                          have haq : BAt (w5.drewN nq) (some ⟨g, off, none⟩) bb := HBA.out.quiet ⟨nq, rfl⟩
                          have hBq : w4.heap.size ≤ (w5.drewN nq).heap.size := hB5
                          clear p0 p1 r3 rf3 rl
                          generalize w5.drewN nq = wq at hRq hwq hsq haq hBq ⊢
                          have HRq := Lib.hid hRq
                          have HWq := Lib.hid hwq
                          have HSq := Lib.hid hsq
                          have HAq := Lib.hid haq
                          have HVF : Hid (VAt (wq.alloc (.cells #[] 5)) (some ⟨g, off, none⟩) (encB F)) := Lib.hid (by rw [HF.out]; exact ((haq.take _).below (al (Below.refl _ wq) (.cells #[] 5)) (Nat.le_refl _)).vat)
                          clear hRq hwq hsq haq
                          go_wp2_with (at_builtin; refine wpList_append_src _ rfl (.tmp 124) (.tmp 127) 23 rfl wq.heap.size 5 j0 (.int .u8 0) 1 Try.underlying23 HJ.out hy0 hy1 hy2 rfl _ 0 [] rfl (own_empty _ _ wq.heap.size rfl _ (Nat.le_refl _)) (some ⟨g, off, none⟩) bb.length bb.length (encB F) rfl (by rw [encB_length, HFL.out]) HVF.out (encB_one _) (by unfold maxLen; omega) (by omega) (by simp) ?_)
                          intro v6 w6 hown6 hgrow6 _
                          have HB6 := Lib.hid (((Below.refl wq.heap.size wq).alloc (Nat.le_refl _) (.cells #[] 5)).grown hgrow6 (by simp) (fun k hk => by simp [Value.ownBlock] at hk; omega))
                          have hO6 : w6.ownsRow wq.heap.size 5 1 v6 F.length (encB F) := by rw [HFL.out]; simpa using hown6
                          obtain ⟨-, a6, c6, rfl, -, -, -⟩ := BAt.of_row hO6
                          have HO6 := Lib.hid hO6
                          have HW7 := Lib.hid (fun o => own_below (own_below HWq.out HB6.out (Nat.le_refl _)) (al (Below.refl _ w6) o) (Nat.le_refl _))
                          have HX := Lib.hid (one_vat w6 (.slice a6 F.length c6) 23)
                          have hs6 := HB6.out.size
                          clear hown6 hgrow6 hO6 HVF
                          go_wp2_with (at_builtin; refine wpList_append_src _ rfl (.tmp 123) (.tmp 129) 22 rfl w4.heap.size 23 j1 (.slice none 0 0) 24 Try.underlying22 HJ1.out hz0 hz1 hz2 (by rfl) _ fs.length vs rfl (HW7.out _) (some ⟨w6.heap.size, 0, none⟩) 1 1 [.slice a6 F.length c6] rfl (by rfl) HX.out (by simp [Value.oneCell']) (by unfold maxLen; omega) (by omega) (by simp; omega) ?_)
                          intro v8 w8 hown8 hgrow8 hblk8
                          have hap := rp_app HRq.out hB2 hBq HWq.out HSq.out HB6.out HO6.out hown8 hgrow8 hblk8
                          have HAP := Lib.hid hap
                          have HO8 := Lib.hid hown8
                          clear hap hown8 hgrow8 hblk8
                          go_wp2_with fail
                          go_roundg (gk - 1)
                          case rel =>
                            obtain ⟨q1, q2, q3, q4⟩ := HAP.out
                            have hnx := rp_next (n := bb.length) (A5 := some ⟨g, off, none⟩) (C5 := 0) HAq.out (by omega) HBM.out (by omega) HGB.out (.inr ⟨rfl, rfl, rfl⟩)
                            have e3 := HP.out
                            rw [HP2.out] at e3
                            exact ⟨bb.drop bb.length, some ⟨g, off, none⟩, 0, fs ++ [F], vs ++ [.slice a6 F.length c6], true, ⟨by rw [List.length_drop, Nat.sub_self], hnx.1, hnx.2.1, q3 _ _ hnx.2.2.1 hnx.2.2.2.2, hnx.2.2.2.1, hnx.2.2.2.2⟩, ⟨q1, q4⟩, ⟨by rw [List.length_append]; exact HO8.out, q2⟩, .inl ⟨rfl, by rw [e3]; simp⟩, ⟨by rw [List.length_drop]; omega, by rw [List.length_drop]; omega, by simp only [List.length_drop, List.length_append, List.length_cons, List.length_nil]; omega⟩⟩
                          case measure => omega
                        · have hcn' : ¬ cb = n := hcn
                          clear hcn
                          obtain ⟨F, hF⟩ : ∃ F, F = bb.take n := ⟨_, rfl⟩
                          have HFL : Hid (F.length = n) := Lib.hid (by rw [hF]; simp; omega)
                          rw [← hF] at HP2
                          have HF := Lib.hid hF
                          clear hF
                          go_wp2_with fail
                          go_quiet (fail)
                          have hRq := HRR.out.step (HB5Q.out nq) (Nat.le_refl _)
                          have hwq := own_drewN HOW.out nq
                          have hsq := HSL.out.below (HB5Q.out nq) (Nat.le_refl _)
                          have haq : BAt (w5.drewN nq) (some ⟨g, off, none⟩) bb := HBA.out.quiet ⟨nq, rfl⟩
                          have hBq : w4.heap.size ≤ (w5.drewN nq).heap.size := hB5
                          clear p0 p1 r3 rf3 rl
                          generalize w5.drewN nq = wq at hRq hwq hsq haq hBq ⊢
                          have HRq := Lib.hid hRq
                          have HWq := Lib.hid hwq
                          have HSq := Lib.hid hsq
                          have HAq := Lib.hid haq
                          have HVF : Hid (VAt (wq.alloc (.cells #[] 5)) (some ⟨g, off, none⟩) (encB F)) := Lib.hid (by rw [HF.out]; exact ((haq.take _).below (al (Below.refl _ wq) (.cells #[] 5)) (Nat.le_refl _)).vat)
                          clear hRq hwq hsq haq
                          go_wp2_with (at_builtin; refine wpList_append_src _ rfl (.tmp 124) (.tmp 127) 23 rfl wq.heap.size 5 j0 (.int .u8 0) 1 Try.underlying23 HJ.out hy0 hy1 hy2 rfl _ 0 [] rfl (own_empty _ _ wq.heap.size rfl _ (Nat.le_refl _)) (some ⟨g, off, none⟩) n cb (encB F) rfl (by rw [encB_length, HFL.out]) HVF.out (encB_one _) (by unfold maxLen; omega) (by omega) (by simp) ?_)
                          intro v6 w6 hown6 hgrow6 _
                          have HB6 := Lib.hid (((Below.refl wq.heap.size wq).alloc (Nat.le_refl _) (.cells #[] 5)).grown hgrow6 (by simp) (fun k hk => by simp [Value.ownBlock] at hk; omega))
                          have hO6 : w6.ownsRow wq.heap.size 5 1 v6 F.length (encB F) := by rw [HFL.out]; simpa using hown6
                          obtain ⟨-, a6, c6, rfl, -, -, -⟩ := BAt.of_row hO6
                          have HO6 := Lib.hid hO6
                          have HW7 := Lib.hid (fun o => own_below (own_below HWq.out HB6.out (Nat.le_refl _)) (al (Below.refl _ w6) o) (Nat.le_refl _))
                          have HX := Lib.hid (one_vat w6 (.slice a6 F.length c6) 23)
                          have hs6 := HB6.out.size
                          clear hown6 hgrow6 hO6 HVF
                          go_wp2_with (at_builtin; refine wpList_append_src _ rfl (.tmp 123) (.tmp 129) 22 rfl w4.heap.size 23 j1 (.slice none 0 0) 24 Try.underlying22 HJ1.out hz0 hz1 hz2 (by rfl) _ fs.length vs rfl (HW7.out _) (some ⟨w6.heap.size, 0, none⟩) 1 1 [.slice a6 F.length c6] rfl (by rfl) HX.out (by simp [Value.oneCell']) (by unfold maxLen; omega) (by omega) (by simp; omega) ?_)
                          intro v8 w8 hown8 hgrow8 hblk8
                          have hap := rp_app HRq.out hB2 hBq HWq.out HSq.out HB6.out HO6.out hown8 hgrow8 hblk8
                          have HAP := Lib.hid hap
                          have HO8 := Lib.hid hown8
                          clear hap hown8 hgrow8 hblk8
                          go_wp2_with fail
                          go_roundg (gk - 1)
                          case rel =>
                            obtain ⟨q1, q2, q3, q4⟩ := HAP.out
                            have hnx := rp_next (n := n) (A5 := some ⟨g, off + n, none⟩) (C5 := cb - n) HAq.out (by omega) HBM.out (by omega) HGB.out (.inl ⟨rfl, rfl⟩)
                            have e3 := HP.out
                            rw [HP2.out] at e3
                            exact ⟨bb.drop n, some ⟨g, off + n, none⟩, cb - n, fs ++ [F], vs ++ [.slice a6 F.length c6], true, ⟨by rw [List.length_drop], hnx.1, hnx.2.1, q3 _ _ hnx.2.2.1 hnx.2.2.2.2, hnx.2.2.2.1, hnx.2.2.2.2⟩, ⟨q1, q4⟩, ⟨by rw [List.length_append]; exact HO8.out, q2⟩, .inl ⟨rfl, by rw [e3]; simp⟩, ⟨by rw [List.length_drop]; omega, by rw [List.length_drop]; omega, by simp only [List.length_drop, List.length_append, List.length_cons, List.length_nil]; omega⟩⟩
                          case measure => omega
    · have HTE : Hid (US.take ⟨started, step, next, lost, rest⟩ c 2047 data = US.eat ⟨true, sp1, (c + 1) % 256, ls1, rest⟩ 2047 data) := Lib.hid (by rw [HU1.out]; exact take_eat HB.out (by omega))
      go_enter Try.func16, Try.ntmps16
      go_upto_if 40 with fail
      go_cut [] (fun wx => RM w ⟨started, sp1, next, ls1, rest⟩ a cap wx)
      case first =>
        cases started
        · have e1 := HLS.out
          have e2 := HSP.out
          simp only [Bool.false_eq_true, if_false] at e1 e2
          subst e1 e2
          go_wp2_with fail
          go_meet
          case rel => exact ⟨.alloc (Blk.newAt rfl) _, Blk.newAt (by simp), al (al (Below.refl _ _) _) _⟩
        · have e1 := HLS.out
          have e2 := HSP.out
          simp only [if_true] at e1 e2
          have ed : (c - next) % 256 = (c + 256 - next) % 256 := by omega
          obtain ⟨d, hd⟩ : ∃ d, d = (c + 256 - next) % 256 := ⟨_, rfl⟩
          rw [ed, ← hd] at e1 e2
          have hdd := hd.symm
          have d1 : 0 ≤ d := by omega
          have d2 : d < 256 := by omega
          have i1 : 0 ≤ c + 256 - next := by omega
          clear ed hd
          cases step
          · simp only [Bool.false_and] at e2
            subst e1 e2
            go_wp2_with fail
            go_meet
            case rel => exact ⟨.alloc (Blk.newAt rfl) _, Blk.newAt (by simp), al (al (Below.refl _ _) _) _⟩
          · by_cases hd0 : d = 0
            · have ez : (d == 0) = true := by rw [hd0]; rfl
              rw [decide_eq_true hd0] at e2
              simp only [Bool.and_true] at e2
              subst e1 e2
              clear hd0
              go_wp2_with fail
              go_meet
              case rel => exact ⟨.alloc (Blk.newAt rfl) _, Blk.newAt (by simp), al (al (Below.refl _ _) _) _⟩
            · have ez : (d == 0) = false := by rw [beq_eq_false_iff_ne]; exact hd0
              rw [decide_eq_false hd0] at e2
              simp only [Bool.and_false] at e2
              subst e1 e2
              clear hd0
              go_wp2_with fail
              go_meet
              case rel => exact ⟨.alloc (Blk.newAt rfl) _, Blk.newAt (by simp), al (al (Below.refl _ _) _) _⟩
      case rest =>
        have q0 := hcut.box.at 0 rfl
        have q1 := hcut.box.at 1 rfl
        have q2 := hcut.box.at 2 rfl
        have q3 := hcut.box.at 3 rfl
        have q4 := hcut.box.at 4 rfl
        have qf0 := hcut.box.free 0
        have qf1 := hcut.box.free 1
        have ql := hcut.box.lt
        have HCUT := Lib.hid hcut
        clear hcut
        go_upto_if 65 with fail
        obtain ⟨wA, hwA⟩ : ∃ wA, wA = (wc.setCell ⟨w.heap.size, 0, none⟩ (.bool true)).setCell ⟨w.heap.size, 1, none⟩ (.int .i64 ((c + 1) % 256)) := ⟨_, rfl⟩
        have hRA : RM w ⟨true, sp1, (c + 1) % 256, ls1, rest⟩ a cap wA := by
          rw [hwA]
          have hne : (⟨w.heap.size, 0, none⟩ : Addr).block ≠ w.heap.size + 1 := by simp
          exact ⟨Blk.cast ((HCUT.out.box.setCell 0 _).setCell 1 _) rfl, (HCUT.out.res.setOther (p := ⟨w.heap.size, 0, none⟩) (by simp) _).setOther (p := ⟨w.heap.size, 1, none⟩) (by simp) _, (HCUT.out.below.setCell (p := ⟨w.heap.size, 0, none⟩) (Nat.le_refl _) _).setCell (p := ⟨w.heap.size, 1, none⟩) (Nat.le_refl _) _⟩
        rw [← hwA]
        clear q0 q1 q2 q3 q4 qf0 qf1 ql hwA
        cases sp1
        · have HST : Hid (((false : Bool) && decide ((2047 : Int) = fitR rest data)) = false) := Lib.hid rfl
          have s3A := hRA.box.at 3 rfl
          have slA := hRA.box.lt
          go_upto_region 13 with fail
          obtain ⟨wB, hwB⟩ : ∃ wB, wB = wA := ⟨_, rfl⟩
          have hRB : RM w ⟨true, false, (c + 1) % 256, ls1, rest⟩ a cap wB := by rw [hwB]; exact hRA
          rw [← hwB]
          clear hwB hRA s3A slA
          have s3 := hRB.box.at 3 rfl
          have s4 := hRB.box.at 4 rfl
          have sl := hRB.box.lt
          have hHB := hRB.below.size
          have HV1 := Lib.hid ((HA.out.below hRB.below (Nat.le_refl _)).below (al (Below.refl _ wB) (.cells #[] 5)) (Nat.le_refl _)).vat
          have HRB := Lib.hid hRB
          clear hRB
          go_wp2_with (at_builtin; refine wpList_append_src _ rfl (.tmp 78) (.tmp 80) 23 rfl wB.heap.size 5 j0 (.int .u8 0) 1 Try.underlying23 HJ.out hy0 hy1 hy2 rfl _ 0 [] rfl (own_empty _ _ wB.heap.size rfl _ (Nat.le_refl _)) a rest.length cap (encB rest) rfl (by simp [encB]) HV1.out (encB_one _) (by unfold maxLen; omega) (by omega) (by simp) ?_)
          intro v3 w3 hown3 hgrow3 _
          have HB3 := Lib.hid (((Below.refl wB.heap.size wB).alloc (Nat.le_refl _) (.cells #[] 5)).grown hgrow3 (by simp) (fun k hk => by simp [Value.ownBlock] at hk; omega))
          have HO3 : Hid (w3.ownsRow wB.heap.size 5 1 v3 rest.length (encB rest)) := Lib.hid (by simpa using hown3)
          have HV2 := Lib.hid ((HD.out.below HRB.out.below (Nat.le_refl _)).below HB3.out (Nat.le_refl _)).vat
          have hs3 := HB3.out.size
          clear hown3 hgrow3 HV1 s3 s4 sl
          go_wp2_with (at_builtin; refine wpList_append_src _ rfl (.tmp 81) (.tmp 82) 23 rfl wB.heap.size 5 j0 (.int .u8 0) 1 Try.underlying23 HJ.out hy0 hy1 hy2 rfl _ rest.length (encB rest) rfl HO3.out ad data.length cd (encB data) rfl (by simp [encB]) HV2.out (encB_one _) (by unfold maxLen; omega) (by omega) hs3 ?_)
          intro v4 w4 hown4 hgrow4 _
          have HB4 := Lib.hid (HB3.out.grown hgrow4 hs3 (fun k hk => (HO3.out.lt k hk).1))
          obtain ⟨L, hL⟩ : ∃ L, L = rest ++ data := ⟨_, rfl⟩
          have HLL : Hid (L.length = rest.length + data.length) := Lib.hid (by rw [hL]; simp)
          have hO4 : w4.ownsRow wB.heap.size 5 1 v4 L.length (encB L) := by rw [HLL.out, hL, encB_append]; exact hown4
          have HL := Lib.hid hL
          obtain ⟨-, a4, c4, rfl, hc4, hm4, hA4⟩ := BAt.of_row hO4
          have hsh4 := own_shape hO4
          have HSH4 : Hid ((a4 = none ∧ c4 = 0) ∨ ∃ g off, a4 = some ⟨g, off, none⟩) := Lib.hid (by
            rcases hsh4 with ⟨e1, e2, -⟩ | ⟨g, e, -⟩
            · exact .inl ⟨e1, e2⟩
            · exact .inr ⟨g, 0, e⟩)
          have HA4 := Lib.hid hA4
          have hR4 := HRB.out.step HB4.out (Nat.le_refl _)
          have t3 := hR4.box.at 3 rfl
          have t4 := hR4.box.at 4 rfl
          have tf3 := hR4.box.free 3
          have tf4 := hR4.box.free 4
          have tl := hR4.box.lt
          have hs4 := HB4.out.size
          have HR4 := Lib.hid hR4
          clear hown4 hgrow4 hO4 hsh4 hA4 hR4 HO3 HV2 HB3 hs3 hL
          have z0 := HR4.out.res.at 0 rfl
          have z1 := HR4.out.res.at 1 rfl
          have z2 := HR4.out.res.at 2 rfl
          have z3 := HR4.out.res.at 3 rfl
          have z4 := HR4.out.res.at 4 rfl
          have zf0 := HR4.out.res.free 0
          have zf1 := HR4.out.res.free 1
          have zf2 := HR4.out.res.free 2
          have zf3 := HR4.out.res.free 3
          have zf4 := HR4.out.res.free 4
          have zl := HR4.out.res.lt
          have t0 := HR4.out.box.at 0 rfl
          have t1 := HR4.out.box.at 1 rfl
          have t2 := HR4.out.box.at 2 rfl
          go_wp2_with fail
          refine bodyPost_ret (v := .tuple #[UV ⟨true, false, (c + 1) % 256, ls1, []⟩ none 0, .slice none 0 0]) (by simp [results, Try.results16, go_sem, UV, *]) rfl ?_
          rw [HTE.out, eat_none HST.out rfl]
          exact rt_none (u := ⟨true, false, (c + 1) % 256, ls1, []⟩) (wx := w4.setCell ⟨w.heap.size, 4, none⟩ (.slice none 0 0)) (HR4.out.below.setCell (p := ⟨w.heap.size, 4, none⟩) (Nat.le_refl _) _) (.inl rfl) (fun q hq => by cases hq) (by simp) (by unfold maxLen; omega) _ _ _ _ _
        · obtain ⟨ft, hft⟩ : ∃ ft, ft = fitR rest data := ⟨_, rfl⟩
          have s3 := hRA.box.at 3 rfl
          have s4 := hRA.box.at 4 rfl
          have sl := hRA.box.lt
          have hsA := hRA.below.size
          have HRA := Lib.hid hRA
          clear hRA
          go_wp2_with fail
          refine (rfitting_any a ad cap cd rest data _ HHA.out (by omega) (HA.out.below HRA.out.below (Nat.le_refl _)) (HD.out.below HRA.out.below (Nat.le_refl _))).mono ?_
          rintro e wF ⟨rfl, hBF⟩
          rw [← hft]
          have HFT := Lib.hid hft
          have hRF := HRA.out.step hBF (Nat.le_refl _)
          have s3F := hRF.box.at 3 rfl
          have sfF := hRF.box.free 3
          have slF := hRF.box.lt
          have HRF := Lib.hid hRF
          clear hft hBF hRF s3 s4 sl
          by_cases hq : (2047 : Int) = ft
          · have HFR : Hid ((2047 : Int) = fitR rest data) := Lib.hid (hq.trans HFT.out)
            have eq1 : ((2047 : Int) != ft) = false := by rw [bne_eq_false_iff_eq]; exact hq
            clear hq
            go_upto_region 13 with fail
            obtain ⟨wB, hwB⟩ : ∃ wB, wB = wF := ⟨_, rfl⟩
            have hRB : RM w ⟨true, true, (c + 1) % 256, ls1, rest⟩ a cap wB := by rw [hwB]; exact HRF.out
            rw [← hwB]
            clear hwB s3F sfF slF
            have s3 := hRB.box.at 3 rfl
            have s4 := hRB.box.at 4 rfl
            have sl := hRB.box.lt
            have hHB := hRB.below.size
            have HV1 := Lib.hid ((HA.out.below hRB.below (Nat.le_refl _)).below (al (Below.refl _ wB) (.cells #[] 5)) (Nat.le_refl _)).vat
            have HRB := Lib.hid hRB
            clear hRB
            go_wp2_with (at_builtin; refine wpList_append_src _ rfl (.tmp 78) (.tmp 80) 23 rfl wB.heap.size 5 j0 (.int .u8 0) 1 Try.underlying23 HJ.out hy0 hy1 hy2 rfl _ 0 [] rfl (own_empty _ _ wB.heap.size rfl _ (Nat.le_refl _)) a rest.length cap (encB rest) rfl (by simp [encB]) HV1.out (encB_one _) (by unfold maxLen; omega) (by omega) (by simp) ?_)
            intro v3 w3 hown3 hgrow3 _
            have HB3 := Lib.hid (((Below.refl wB.heap.size wB).alloc (Nat.le_refl _) (.cells #[] 5)).grown hgrow3 (by simp) (fun k hk => by simp [Value.ownBlock] at hk; omega))
            have HO3 : Hid (w3.ownsRow wB.heap.size 5 1 v3 rest.length (encB rest)) := Lib.hid (by simpa using hown3)
            have HV2 := Lib.hid ((HD.out.below HRB.out.below (Nat.le_refl _)).below HB3.out (Nat.le_refl _)).vat
            have hs3 := HB3.out.size
            clear hown3 hgrow3 HV1 s3 s4 sl
            go_wp2_with (at_builtin; refine wpList_append_src _ rfl (.tmp 81) (.tmp 82) 23 rfl wB.heap.size 5 j0 (.int .u8 0) 1 Try.underlying23 HJ.out hy0 hy1 hy2 rfl _ rest.length (encB rest) rfl HO3.out ad data.length cd (encB data) rfl (by simp [encB]) HV2.out (encB_one _) (by unfold maxLen; omega) (by omega) hs3 ?_)
            intro v4 w4 hown4 hgrow4 _
            have HB4 := Lib.hid (HB3.out.grown hgrow4 hs3 (fun k hk => (HO3.out.lt k hk).1))
            obtain ⟨L, hL⟩ : ∃ L, L = rest ++ data := ⟨_, rfl⟩
            have HLL : Hid (L.length = rest.length + data.length) := Lib.hid (by rw [hL]; simp)
            have hO4 : w4.ownsRow wB.heap.size 5 1 v4 L.length (encB L) := by rw [HLL.out, hL, encB_append]; exact hown4
            have HL := Lib.hid hL
            obtain ⟨-, a4, c4, rfl, hc4, hm4, hA4⟩ := BAt.of_row hO4
            have hsh4 := own_shape hO4
            have HSH4 : Hid ((a4 = none ∧ c4 = 0) ∨ ∃ g off, a4 = some ⟨g, off, none⟩) := Lib.hid (by
              rcases hsh4 with ⟨e1, e2, -⟩ | ⟨g, e, -⟩
              · exact .inl ⟨e1, e2⟩
              · exact .inr ⟨g, 0, e⟩)
            have HA4 := Lib.hid hA4
            have hR4 := HRB.out.step HB4.out (Nat.le_refl _)
            have t3 := hR4.box.at 3 rfl
            have t4 := hR4.box.at 4 rfl
            have tf3 := hR4.box.free 3
            have tf4 := hR4.box.free 4
            have tl := hR4.box.lt
            have hs4 := HB4.out.size
            have HR4 := Lib.hid hR4
            clear hown4 hgrow4 hO4 hsh4 hA4 hR4 HO3 HV2 HB3 hs3 hL
            have HEND : Hid (US.take ⟨started, step, next, lost, rest⟩ c 2047 data = (⟨true, (packs L).1, (c + 1) % 256, ls1, (packs L).2.1⟩, (packs L).2.2)) := Lib.hid (by rw [HTE.out, eat_in rfl HFR.out, ← HL.out])
            obtain ⟨D, hD⟩ : ∃ D, D = L := ⟨_, rfl⟩
            subst hD
            have HDL := HLL
            go_wp2_with fail
            obtain ⟨wL, hwL⟩ : ∃ wL, wL = w4.setCell ⟨w.heap.size, 3, none⟩ (.bool true) := ⟨_, rfl⟩
            have HRL : Hid (RM w ⟨true, true, (c + 1) % 256, ls1, rest⟩ a cap wL) := Lib.hid (by rw [hwL]; exact ⟨Blk.cast (HR4.out.box.setCell 3 _) rfl, HR4.out.res.setOther (p := ⟨w.heap.size, 3, none⟩) (by simp) _, HR4.out.below.setCell (p := ⟨w.heap.size, 3, none⟩) (Nat.le_refl _) _⟩)
            have hfL : Fr (fun k => k = w.heap.size) w4 wL := by rw [hwL]; exact (Fr.refl _ _).set1 _ (by exact .inl rfl)
            have hLs : wL.heap.size = w4.heap.size := by rw [hwL]; simp [World.setCell]
            have hB2 : w.heap.size + 2 ≤ w4.heap.size := by have := HR4.out.res.lt; omega
            have hss : D.length ≤ c4 ∧ c4 ≤ maxLen ∧ BAt wL a4 D ∧ ((a4 = none ∧ c4 = 0) ∨ ∃ g off, a4 = some ⟨g, off, none⟩) ∧ (∀ q, a4 = some q → D ≠ [] → q.block < w4.heap.size) := 
              ⟨hc4, hm4, HA4.out.apart hfL (fun q hq hne e => by have := blk_apart HR4.out.box HA4.out hne rplain q hq; exact this e), HSH4.out, fun q hq hne => HA4.out.lt q hq hne⟩
            have HSS := Lib.hid hss
            rw [← hwL]
            clear hwL hfL hss t3 t4 tf3 tf4 tl
            go_loopg [11, 12] (D.length + 1) (fun gk bv vo wr => RPR w w4.heap.size ⟨true, true, (c + 1) % 256, ls1, rest⟩ a cap D gk bv vo wr)
            case atStart => exact ⟨D, a4, c4, [], [], true, ⟨rfl, HSS.out⟩, ⟨HRL.out, by omega⟩, ⟨World.ownsRow_nil _ _ _ _, Sls.nil⟩, .inl ⟨rfl, by simp⟩, ⟨by omega, by have := HDL.out; omega, by have := HDL.out; simp; omega⟩⟩
            case round =>
              obtain ⟨bb, ab, cb, fs, vs, st, ⟨rfl, hbc, hbm, hbA, hbS, hbO⟩, ⟨hR, hBw⟩, ⟨how, hsl⟩, hE, hgk, hbl, hfl⟩ := hrel
              have HBA := Lib.hid hbA
              have HBO := Lib.hid hbO
              have HBS := Lib.hid hbS
              have HRR := Lib.hid hR
              have HOW := Lib.hid how
              have HSL := Lib.hid hsl
              have HBM := Lib.hid hbm
              have r3 := hR.box.at 3 rfl
              have rf3 := hR.box.free 3
              have rl := hR.box.lt
              clear hbA hbO hbS hR how hsl hbm
              simp only at r3
              cases st
              · obtain ⟨rfl, hP⟩ : bb = [] ∧ packs D = (false, [], fs) := by simpa using hE
                have HPK := hP
                clear hE hP
                have HPK := Lib.hid HPK
                have HVB : Hid (VAt (wr.alloc (.cells #[] 5)) ab (encB [])) := Lib.hid (HBA.out.below (al (Below.refl _ wr) (.cells #[] 5)) (Nat.le_refl _)).vat
                go_wp2_with (at_builtin; refine wpList_append_src _ rfl (.tmp 134) (.tmp 135) 23 rfl wr.heap.size 5 j0 (.int .u8 0) 1 Try.underlying23 HJ.out hy0 hy1 hy2 rfl _ 0 [] rfl (own_empty _ _ wr.heap.size rfl _ (Nat.le_refl _)) ab 0 cb (encB []) rfl (by simp [encB]) HVB.out (encB_one _) (by unfold maxLen; omega) (by omega) (by simp) ?_)
                intro v9 w9 hown9 hgrow9 _
                have HB9 := Lib.hid (((Below.refl wr.heap.size wr).alloc (Nat.le_refl _) (.cells #[] 5)).grown hgrow9 (by simp) (fun k hk => by simp [Value.ownBlock] at hk; omega))
                have hO9 : w9.ownsRow wr.heap.size 5 1 v9 0 (encB []) := by simpa using hown9
                obtain ⟨-, a9, c9, rfl, -, -, -⟩ := BAt.of_row hO9
                have HO9 := Lib.hid hO9
                have hR9 := HRR.out.step HB9.out (Nat.le_refl _)
                have y0 := hR9.box.at 0 rfl
                have y1 := hR9.box.at 1 rfl
                have y2 := hR9.box.at 2 rfl
                have y3 := hR9.box.at 3 rfl
                have y4 := hR9.box.at 4 rfl
                have yf4 := hR9.box.free 4
                have yl := hR9.box.lt
                have z0 := hR9.res.at 0 rfl
                have z1 := hR9.res.at 1 rfl
                have z2 := hR9.res.at 2 rfl
                have z3 := hR9.res.at 3 rfl
                have z4 := hR9.res.at 4 rfl
                have zf0 := hR9.res.free 0
                have zf1 := hR9.res.free 1
                have zf2 := hR9.res.free 2
                have zf3 := hR9.res.free 3
                have zf4 := hR9.res.free 4
                have zl := hR9.res.lt
                clear hown9 hgrow9 hO9 hR9 HVB r3 rf3 rl
                simp only at y0 y1 y2 y3 y4
                go_wp2_with fail
                refine bodyPost_ret (v := .tuple #[UV ⟨true, false, (c + 1) % 256, ls1, []⟩ a9 c9, u12]) (by simp [results, Try.results16, go_sem, UV, *]) rfl ?_
                rw [HEND.out, HPK.out]
                exact rt_end (u := ⟨true, false, (c + 1) % 256, ls1, rest⟩) HRR.out HOW.out hB2 HSL.out HB9.out HO9.out _ _ _ _ _
              · have hP : packs D = ((packs bb).1, (packs bb).2.1, fs ++ (packs bb).2.2) := by simpa using hE
                have HP := Lib.hid hP
                clear hE hP
                by_cases h6 : bb.length < 6
                · have HPK : Hid (packs D = (true, bb, fs)) := Lib.hid (by rw [HP.out, packs_few bb h6]; simp)
                  have e6 : ¬ (6 : Int) ≤ (bb.length : Int) := by omega
                  clear h6
                  have HVB : Hid (VAt (wr.alloc (.cells #[] 5)) ab (encB bb)) := Lib.hid (HBA.out.below (al (Below.refl _ wr) (.cells #[] 5)) (Nat.le_refl _)).vat
                  go_wp2_with (at_builtin; refine wpList_append_src _ rfl (.tmp 134) (.tmp 135) 23 rfl wr.heap.size 5 j0 (.int .u8 0) 1 Try.underlying23 HJ.out hy0 hy1 hy2 rfl _ 0 [] rfl (own_empty _ _ wr.heap.size rfl _ (Nat.le_refl _)) ab bb.length cb (encB bb) rfl (by simp [encB]) HVB.out (encB_one _) (by unfold maxLen; omega) (by omega) (by simp) ?_)
                  intro v9 w9 hown9 hgrow9 _
                  have HB9 := Lib.hid (((Below.refl wr.heap.size wr).alloc (Nat.le_refl _) (.cells #[] 5)).grown hgrow9 (by simp) (fun k hk => by simp [Value.ownBlock] at hk; omega))
                  have hO9 : w9.ownsRow wr.heap.size 5 1 v9 bb.length (encB bb) := by simpa using hown9
                  obtain ⟨-, a9, c9, rfl, -, -, -⟩ := BAt.of_row hO9
                  have HO9 := Lib.hid hO9
                  have hR9 := HRR.out.step HB9.out (Nat.le_refl _)
                  have y0 := hR9.box.at 0 rfl
                  have y1 := hR9.box.at 1 rfl
                  have y2 := hR9.box.at 2 rfl
                  have y3 := hR9.box.at 3 rfl
                  have y4 := hR9.box.at 4 rfl
                  have yf4 := hR9.box.free 4
                  have yl := hR9.box.lt
                  have z0 := hR9.res.at 0 rfl
                  have z1 := hR9.res.at 1 rfl
                  have z2 := hR9.res.at 2 rfl
                  have z3 := hR9.res.at 3 rfl
                  have z4 := hR9.res.at 4 rfl
                  have zf0 := hR9.res.free 0
                  have zf1 := hR9.res.free 1
                  have zf2 := hR9.res.free 2
                  have zf3 := hR9.res.free 3
                  have zf4 := hR9.res.free 4
                  have zl := hR9.res.lt
                  clear hown9 hgrow9 hO9 hR9 HVB r3 rf3 rl
                  simp only at y0 y1 y2 y3 y4
                  go_wp2_with fail
                  refine bodyPost_ret (v := .tuple #[UV ⟨true, true, (c + 1) % 256, ls1, bb⟩ a9 c9, u12]) (by simp [results, Try.results16, go_sem, UV, *]) rfl ?_
                  rw [HEND.out, HPK.out]
                  exact rt_end (u := ⟨true, true, (c + 1) % 256, ls1, rest⟩) HRR.out HOW.out hB2 HSL.out HB9.out HO9.out _ _ _ _ _
                · have e6 : (6 : Int) ≤ (bb.length : Int) := by omega
                  have h66 : 6 ≤ bb.length := by omega
                  go_wp2_with fail
                  refine (rlength_any ab bb.length cb bb _ rfl h66 (by omega) HBA.out).mono ?_
                  rintro e w5 ⟨rfl, hq⟩
                  have hbq := hq.below (B := wr.heap.size)
                  have hs5 := hbq.size
                  have HBA := Lib.hid (HBA.out.below hbq (Nat.le_refl _))
                  have hR5 := HRR.out.step hbq (Nat.le_refl _)
                  have HOW := Lib.hid (own_below HOW.out hbq (Nat.le_refl _))
                  have HSL := Lib.hid (HSL.out.below hbq (Nat.le_refl _))
                  clear r3 rf3 rl
                  have r3 := hR5.box.at 3 rfl
                  have rf3 := hR5.box.free 3
                  have rl := hR5.box.lt
                  have HRR := Lib.hid hR5
                  have hB5 : w4.heap.size ≤ w5.heap.size := by omega
                  have hB5q : ∀ nq, Below w5.heap.size w5 (w5.drewN nq) := fun nq => (Quiet.drewN (Quiet.refl w5) nq).below
                  have HB5Q := Lib.hid hB5q
                  clear hB5q
                  clear hq hbq hR5
                  simp only at r3
                  have hn9 := lenB_le bb
                  have hn7 := lenB_ge bb
                  obtain ⟨n, hn⟩ : ∃ n, n = lenB bb := ⟨_, rfl⟩
                  rw [← hn] at hn9 hn7
                  rw [← hn]
                  by_cases h0 : n = 0
                  · have HPK : Hid (packs D = (false, [], fs)) := Lib.hid (by rw [HP.out, packs_bad bb h6 (by omega)]; simp)
                    have e0 : ((n : Int) == 0) = true := by rw [h0]; rfl
                    clear h0 hn7 hn h6
                    go_wp2_with fail
                    go_roundg (gk - 1)
                    case rel =>
                      obtain ⟨h1, h2⟩ := rp_bad HRR.out hB2 hB5 HOW.out HSL.out false
                      exact ⟨[], none, 0, fs, vs, false, ⟨rfl, by simp, by unfold maxLen; omega, .inl rfl, .inl ⟨rfl, rfl⟩, fun q hq => by cases hq⟩, h1, h2, .inr ⟨rfl, rfl, HPK.out⟩, ⟨by simp; omega, by simp, by simp; omega⟩⟩
                    case measure => omega
                  · have e0 : ((n : Int) == 0) = false := by rw [beq_eq_false_iff_ne]; omega
                    have h7 : 7 ≤ n := hn7 h0
                    by_cases h1 : bb.length < n
                    · have HPK : Hid (packs D = (true, bb, fs)) := Lib.hid (by rw [HP.out, packs_wait bb h6 (by omega) (by omega)]; simp)
                      have e1 : (bb.length : Int) < (n : Int) := by omega
                      clear h0 hn7 hn h6 h1
                      have HVB : Hid (VAt (w5.alloc (.cells #[] 5)) ab (encB bb)) := Lib.hid (HBA.out.below (al (Below.refl _ w5) (.cells #[] 5)) (Nat.le_refl _)).vat
                      go_wp2_with (at_builtin; refine wpList_append_src _ rfl (.tmp 134) (.tmp 135) 23 rfl w5.heap.size 5 j0 (.int .u8 0) 1 Try.underlying23 HJ.out hy0 hy1 hy2 rfl _ 0 [] rfl (own_empty _ _ w5.heap.size rfl _ (Nat.le_refl _)) ab bb.length cb (encB bb) rfl (by simp [encB]) HVB.out (encB_one _) (by unfold maxLen; omega) (by omega) (by simp) ?_)
                      intro v9 w9 hown9 hgrow9 _
                      have HB9 := Lib.hid (((Below.refl w5.heap.size w5).alloc (Nat.le_refl _) (.cells #[] 5)).grown hgrow9 (by simp) (fun k hk => by simp [Value.ownBlock] at hk; omega))
                      have hO9 : w9.ownsRow w5.heap.size 5 1 v9 bb.length (encB bb) := by simpa using hown9
                      obtain ⟨-, a9, c9, rfl, -, -, -⟩ := BAt.of_row hO9
                      have HO9 := Lib.hid hO9
                      have hR9 := HRR.out.step HB9.out (Nat.le_refl _)
                      have y0 := hR9.box.at 0 rfl
                      have y1 := hR9.box.at 1 rfl
                      have y2 := hR9.box.at 2 rfl
                      have y3 := hR9.box.at 3 rfl
                      have y4 := hR9.box.at 4 rfl
                      have yf4 := hR9.box.free 4
                      have yl := hR9.box.lt
                      have z0 := hR9.res.at 0 rfl
                      have z1 := hR9.res.at 1 rfl
                      have z2 := hR9.res.at 2 rfl
                      have z3 := hR9.res.at 3 rfl
                      have z4 := hR9.res.at 4 rfl
                      have zf0 := hR9.res.free 0
                      have zf1 := hR9.res.free 1
                      have zf2 := hR9.res.free 2
                      have zf3 := hR9.res.free 3
                      have zf4 := hR9.res.free 4
                      have zl := hR9.res.lt
                      clear hown9 hgrow9 hO9 hR9 HVB r3 rf3 rl
                      simp only at y0 y1 y2 y3 y4
                      go_wp2_with fail
                      refine bodyPost_ret (v := .tuple #[UV ⟨true, true, (c + 1) % 256, ls1, bb⟩ a9 c9, u12]) (by simp [results, Try.results16, go_sem, UV, *]) rfl ?_
                      rw [HEND.out, HPK.out]
                      exact rt_end (u := ⟨true, true, (c + 1) % 256, ls1, rest⟩) HRR.out HOW.out hB2 HSL.out HB9.out HO9.out _ _ _ _ _
                    · have e1 : ¬ (bb.length : Int) < (n : Int) := by omega
                      have HPM := Lib.hid (packs_more bb h6 (by omega) (by omega))
                      rw [← hn] at HPM
                      have hnl : n ≤ bb.length := by omega
                      obtain ⟨g, off, rfl⟩ := HBS.out.resolve_left (fun e => by omega)
                      have hgB : bb ≠ [] → g < w4.heap.size := fun hne => HBO.out ⟨g, off, none⟩ rfl hne
                      have HGB := Lib.hid hgB
                      have p0 := cell_getD HBA.out 0 (by omega)
                      have p1 := cell_getD HBA.out 1 (by omega)
                      simp only [Nat.add_zero] at p0
                      obtain ⟨x0, hx0⟩ : ∃ x, x = bb.getD 0 0 := ⟨_, rfl⟩
                      obtain ⟨x1, hx1⟩ : ∃ x, x = bb.getD 1 0 := ⟨_, rfl⟩
                      rw [← hx0] at p0
                      rw [← hx1] at p1
                      have hap : apid bb = x0.toNat % 8 * 256 + x1.toNat := by rw [hx0, hx1]; rfl
                      have hcd := apid_rem x0 x1 _ hap
                      have b0 := UInt8.toNat_lt x0
                      have b1 := UInt8.toNat_lt x1
                      have g8 : (1 : Int) < (bb.length : Int) := by omega
                      have g9 : (0 : Int) < (bb.length : Int) := by omega
                      have i1 : (n : Int) ≤ (bb.length : Int) := by omega
                      have i2 : (bb.length : Int) ≤ (cb : Int) := by omega
                      have i3 : (0 : Int) ≤ (n : Int) := by omega
                      clear h0 hn7 hn h6 h1 hx0 hx1 hap hgB
                      by_cases h20 : apid bb = 2047
                      · rw [decide_eq_true h20] at hcd
                        simp only [Bool.not_true] at hcd
                        have HP2 : Hid (packs bb = ((packs (bb.drop n)).1, (packs (bb.drop n)).2.1, (packs (bb.drop n)).2.2)) := Lib.hid (by rw [HPM.out, if_pos h20])
                        clear h20 HPM
                        by_cases hcn : cb = n
                        · obtain rfl : bb.length = n := by omega
                          obtain rfl : cb = bb.length := hcn
                          go_wp2_with fail
                          go_quiet (fail)
                          have hRq := HRR.out.step (HB5Q.out nq) (Nat.le_refl _)
                          go_wp2_with fail
                          go_roundg (gk - 1)
                          case rel =>
                            have hnx := rp_next (n := bb.length) (A5 := some ⟨g, off, none⟩) (C5 := 0) HBA.out (by omega) HBM.out (by omega) HGB.out (.inr ⟨rfl, rfl, rfl⟩)
                            have e3 := HP.out
                            rw [HP2.out] at e3
                            exact ⟨bb.drop bb.length, some ⟨g, off, none⟩, 0, fs, vs, true, ⟨by rw [List.length_drop, Nat.sub_self], hnx.1, hnx.2.1, hnx.2.2.1.quiet ⟨nq, rfl⟩, hnx.2.2.2.1, hnx.2.2.2.2⟩, ⟨hRq, hB5⟩, ⟨own_drewN HOW.out nq, HSL.out.below (HB5Q.out nq) (Nat.le_refl _)⟩, .inl ⟨rfl, e3⟩, ⟨by rw [List.length_drop]; omega, by rw [List.length_drop]; omega, by rw [List.length_drop]; omega⟩⟩
                          case measure => omega
                        · have hcn' : ¬ cb = n := hcn
                          clear hcn
                          go_wp2_with fail
                          go_quiet (fail)
                          have hRq := HRR.out.step (HB5Q.out nq) (Nat.le_refl _)
                          go_wp2_with fail
                          go_roundg (gk - 1)
                          case rel =>
                            have hnx := rp_next (n := n) (A5 := some ⟨g, off + n, none⟩) (C5 := cb - n) HBA.out (by omega) HBM.out (by omega) HGB.out (.inl ⟨rfl, rfl⟩)
                            have e3 := HP.out
                            rw [HP2.out] at e3
                            exact ⟨bb.drop n, some ⟨g, off + n, none⟩, cb - n, fs, vs, true, ⟨by rw [List.length_drop], hnx.1, hnx.2.1, hnx.2.2.1.quiet ⟨nq, rfl⟩, hnx.2.2.2.1, hnx.2.2.2.2⟩, ⟨hRq, hB5⟩, ⟨own_drewN HOW.out nq, HSL.out.below (HB5Q.out nq) (Nat.le_refl _)⟩, .inl ⟨rfl, e3⟩, ⟨by rw [List.length_drop]; omega, by rw [List.length_drop]; omega, by rw [List.length_drop]; omega⟩⟩
                          case measure => omega
                      · rw [decide_eq_false h20] at hcd
                        simp only [Bool.not_false] at hcd
                        have HP2 : Hid (packs bb = ((packs (bb.drop n)).1, (packs (bb.drop n)).2.1, bb.take n :: (packs (bb.drop n)).2.2)) := Lib.hid (by rw [HPM.out, if_neg h20])
                        clear h20 HPM
                        by_cases hcn : cb = n
                        · obtain rfl : bb.length = n := by omega
                          obtain rfl : cb = bb.length := hcn
                          obtain ⟨F, hF⟩ : ∃ F, F = bb.take bb.length := ⟨_, rfl⟩
                          have HFL : Hid (F.length = bb.length) := Lib.hid (by rw [hF]; simp)
                          rw [← hF] at HP2
                          have HF := Lib.hid hF
                          clear hF
                          go_wp2_with fail
                          go_quiet (fail)
                          have hRq := HRR.out.step (HB5Q.out nq) (Nat.le_refl _)
                          have hwq := own_drewN HOW.out nq
                          have hsq := HSL.out.below (HB5Q.out nq) (Nat.le_refl _)
                          have haq : BAt (w5.drewN nq) (some ⟨g, off, none⟩) bb := HBA.out.quiet ⟨nq, rfl⟩
                          have hBq : w4.heap.size ≤ (w5.drewN nq).heap.size := hB5
                          clear p0 p1 r3 rf3 rl
                          generalize w5.drewN nq = wq at hRq hwq hsq haq hBq ⊢
                          have HRq := Lib.hid hRq
                          have HWq := Lib.hid hwq
                          have HSq := Lib.hid hsq
                          have HAq := Lib.hid haq
                          have HVF : Hid (VAt (wq.alloc (.cells #[] 5)) (some ⟨g, off, none⟩) (encB F)) := Lib.hid (by rw [HF.out]; exact ((haq.take _).below (al (Below.refl _ wq) (.cells #[] 5)) (Nat.le_refl _)).vat)
                          clear hRq hwq hsq haq
                          go_wp2_with (at_builtin; refine wpList_append_src _ rfl (.tmp 124) (.tmp 127) 23 rfl wq.heap.size 5 j0 (.int .u8 0) 1 Try.underlying23 HJ.out hy0 hy1 hy2 rfl _ 0 [] rfl (own_empty _ _ wq.heap.size rfl _ (Nat.le_refl _)) (some ⟨g, off, none⟩) bb.length bb.length (encB F) rfl (by rw [encB_length, HFL.out]) HVF.out (encB_one _) (by unfold maxLen; omega) (by omega) (by simp) ?_)
                          intro v6 w6 hown6 hgrow6 _
                          have HB6 := Lib.hid (((Below.refl wq.heap.size wq).alloc (Nat.le_refl _) (.cells #[] 5)).grown hgrow6 (by simp) (fun k hk => by simp [Value.ownBlock] at hk; omega))
                          have hO6 : w6.ownsRow wq.heap.size 5 1 v6 F.length (encB F) := by rw [HFL.out]; simpa using hown6
                          obtain ⟨-, a6, c6, rfl, -, -, -⟩ := BAt.of_row hO6
                          have HO6 := Lib.hid hO6
                          have HW7 := Lib.hid (fun o => own_below (own_below HWq.out HB6.out (Nat.le_refl _)) (al (Below.refl _ w6) o) (Nat.le_refl _))
                          have HX := Lib.hid (one_vat w6 (.slice a6 F.length c6) 23)
                          have hs6 := HB6.out.size
                          clear hown6 hgrow6 hO6 HVF
                          go_wp2_with (at_builtin; refine wpList_append_src _ rfl (.tmp 123) (.tmp 129) 22 rfl w4.heap.size 23 j1 (.slice none 0 0) 24 Try.underlying22 HJ1.out hz0 hz1 hz2 (by rfl) _ fs.length vs rfl (HW7.out _) (some ⟨w6.heap.size, 0, none⟩) 1 1 [.slice a6 F.length c6] rfl (by rfl) HX.out (by simp [Value.oneCell']) (by unfold maxLen; omega) (by omega) (by simp; omega) ?_)
                          intro v8 w8 hown8 hgrow8 hblk8
                          have hap := rp_app HRq.out hB2 hBq HWq.out HSq.out HB6.out HO6.out hown8 hgrow8 hblk8
                          have HAP := Lib.hid hap
                          have HO8 := Lib.hid hown8
                          clear hap hown8 hgrow8 hblk8
                          go_wp2_with fail
                          go_roundg (gk - 1)
                          case rel =>
                            obtain ⟨q1, q2, q3, q4⟩ := HAP.out
                            have hnx := rp_next (n := bb.length) (A5 := some ⟨g, off, none⟩) (C5 := 0) HAq.out (by omega) HBM.out (by omega) HGB.out (.inr ⟨rfl, rfl, rfl⟩)
                            have e3 := HP.out
                            rw [HP2.out] at e3
                            exact ⟨bb.drop bb.length, some ⟨g, off, none⟩, 0, fs ++ [F], vs ++ [.slice a6 F.length c6], true, ⟨by rw [List.length_drop, Nat.sub_self], hnx.1, hnx.2.1, q3 _ _ hnx.2.2.1 hnx.2.2.2.2, hnx.2.2.2.1, hnx.2.2.2.2⟩, ⟨q1, q4⟩, ⟨by rw [List.length_append]; exact HO8.out, q2⟩, .inl ⟨rfl, by rw [e3]; simp⟩, ⟨by rw [List.length_drop]; omega, by rw [List.length_drop]; omega, by simp only [List.length_drop, List.length_append, List.length_cons, List.length_nil]; omega⟩⟩
                          case measure => omega
                        · have hcn' : ¬ cb = n := hcn
                          clear hcn
                          obtain ⟨F, hF⟩ : ∃ F, F = bb.take n := ⟨_, rfl⟩
                          have HFL : Hid (F.length = n) := Lib.hid (by rw [hF]; simp; omega)
                          rw [← hF] at HP2
                          have HF := Lib.hid hF
                          clear hF
                          go_wp2_with fail
                          go_quiet (fail)
                          have hRq := HRR.out.step (HB5Q.out nq) (Nat.le_refl _)
                          have hwq := own_drewN HOW.out nq
                          have hsq := HSL.out.below (HB5Q.out nq) (Nat.le_refl _)
                          have haq : BAt (w5.drewN nq) (some ⟨g, off, none⟩) bb := HBA.out.quiet ⟨nq, rfl⟩
                          have hBq : w4.heap.size ≤ (w5.drewN nq).heap.size := hB5
                          clear p0 p1 r3 rf3 rl
                          generalize w5.drewN nq = wq at hRq hwq hsq haq hBq ⊢
                          have HRq := Lib.hid hRq
                          have HWq := Lib.hid hwq
                          have HSq := Lib.hid hsq
                          have HAq := Lib.hid haq
                          have HVF : Hid (VAt (wq.alloc (.cells #[] 5)) (some ⟨g, off, none⟩) (encB F)) := Lib.hid (by rw [HF.out]; exact ((haq.take _).below (al (Below.refl _ wq) (.cells #[] 5)) (Nat.le_refl _)).vat)
                          clear hRq hwq hsq haq
                          go_wp2_with (at_builtin; refine wpList_append_src _ rfl (.tmp 124) (.tmp 127) 23 rfl wq.heap.size 5 j0 (.int .u8 0) 1 Try.underlying23 HJ.out hy0 hy1 hy2 rfl _ 0 [] rfl (own_empty _ _ wq.heap.size rfl _ (Nat.le_refl _)) (some ⟨g, off, none⟩) n cb (encB F) rfl (by rw [encB_length, HFL.out]) HVF.out (encB_one _) (by unfold maxLen; omega) (by omega) (by simp) ?_)
                          intro v6 w6 hown6 hgrow6 _
                          have HB6 := Lib.hid (((Below.refl wq.heap.size wq).alloc (Nat.le_refl _) (.cells #[] 5)).grown hgrow6 (by simp) (fun k hk => by simp [Value.ownBlock] at hk; omega))
                          have hO6 : w6.ownsRow wq.heap.size 5 1 v6 F.length (encB F) := by rw [HFL.out]; simpa using hown6
                          obtain ⟨-, a6, c6, rfl, -, -, -⟩ := BAt.of_row hO6
                          have HO6 := Lib.hid hO6
                          have HW7 := Lib.hid (fun o => own_below (own_below HWq.out HB6.out (Nat.le_refl _)) (al (Below.refl _ w6) o) (Nat.le_refl _))
                          have HX := Lib.hid (one_vat w6 (.slice a6 F.length c6) 23)
                          have hs6 := HB6.out.size
                          clear hown6 hgrow6 hO6 HVF
                          go_wp2_with (at_builtin; refine wpList_append_src _ rfl (.tmp 123) (.tmp 129) 22 rfl w4.heap.size 23 j1 (.slice none 0 0) 24 Try.underlying22 HJ1.out hz0 hz1 hz2 (by rfl) _ fs.length vs rfl (HW7.out _) (some ⟨w6.heap.size, 0, none⟩) 1 1 [.slice a6 F.length c6] rfl (by rfl) HX.out (by simp [Value.oneCell']) (by unfold maxLen; omega) (by omega) (by simp; omega) ?_)
                          intro v8 w8 hown8 hgrow8 hblk8
                          have hap := rp_app HRq.out hB2 hBq HWq.out HSq.out HB6.out HO6.out hown8 hgrow8 hblk8
                          have HAP := Lib.hid hap
                          have HO8 := Lib.hid hown8
                          clear hap hown8 hgrow8 hblk8
                          go_wp2_with fail
                          go_roundg (gk - 1)
                          case rel =>
                            obtain ⟨q1, q2, q3, q4⟩ := HAP.out
                            have hnx := rp_next (n := n) (A5 := some ⟨g, off + n, none⟩) (C5 := cb - n) HAq.out (by omega) HBM.out (by omega) HGB.out (.inl ⟨rfl, rfl⟩)
                            have e3 := HP.out
                            rw [HP2.out] at e3
                            exact ⟨bb.drop n, some ⟨g, off + n, none⟩, cb - n, fs ++ [F], vs ++ [.slice a6 F.length c6], true, ⟨by rw [List.length_drop], hnx.1, hnx.2.1, q3 _ _ hnx.2.2.1 hnx.2.2.2.2, hnx.2.2.2.1, hnx.2.2.2.2⟩, ⟨q1, q4⟩, ⟨by rw [List.length_append]; exact HO8.out, q2⟩, .inl ⟨rfl, by rw [e3]; simp⟩, ⟨by rw [List.length_drop]; omega, by rw [List.length_drop]; omega, by simp only [List.length_drop, List.length_append, List.length_cons, List.length_nil]; omega⟩⟩
                          case measure => omega
          · have HST : Hid (((true : Bool) && decide ((2047 : Int) = fitR rest data)) = false) := Lib.hid (by rw [Bool.true_and, decide_eq_false]; rw [← HFT.out]; exact hq)
            have eq1 : ((2047 : Int) != ft) = true := by rw [bne_iff_ne]; exact hq
            clear hq
            go_upto_region 13 with fail
            obtain ⟨wB, hwB⟩ : ∃ wB, wB = wF.setCell ⟨w.heap.size, 3, none⟩ (.bool false) := ⟨_, rfl⟩
            have hRB : RM w ⟨true, false, (c + 1) % 256, ls1, rest⟩ a cap wB := by rw [hwB]; exact ⟨Blk.cast (HRF.out.box.setCell 3 _) rfl, HRF.out.res.setOther (p := ⟨w.heap.size, 3, none⟩) (by simp) _, HRF.out.below.setCell (p := ⟨w.heap.size, 3, none⟩) (Nat.le_refl _) _⟩
            rw [← hwB]
            clear hwB s3F sfF slF
            have s3 := hRB.box.at 3 rfl
            have s4 := hRB.box.at 4 rfl
            have sl := hRB.box.lt
            have hHB := hRB.below.size
            have HV1 := Lib.hid ((HA.out.below hRB.below (Nat.le_refl _)).below (al (Below.refl _ wB) (.cells #[] 5)) (Nat.le_refl _)).vat
            have HRB := Lib.hid hRB
            clear hRB
            go_wp2_with (at_builtin; refine wpList_append_src _ rfl (.tmp 78) (.tmp 80) 23 rfl wB.heap.size 5 j0 (.int .u8 0) 1 Try.underlying23 HJ.out hy0 hy1 hy2 rfl _ 0 [] rfl (own_empty _ _ wB.heap.size rfl _ (Nat.le_refl _)) a rest.length cap (encB rest) rfl (by simp [encB]) HV1.out (encB_one _) (by unfold maxLen; omega) (by omega) (by simp) ?_)
            intro v3 w3 hown3 hgrow3 _
            have HB3 := Lib.hid (((Below.refl wB.heap.size wB).alloc (Nat.le_refl _) (.cells #[] 5)).grown hgrow3 (by simp) (fun k hk => by simp [Value.ownBlock] at hk; omega))
            have HO3 : Hid (w3.ownsRow wB.heap.size 5 1 v3 rest.length (encB rest)) := Lib.hid (by simpa using hown3)
            have HV2 := Lib.hid ((HD.out.below HRB.out.below (Nat.le_refl _)).below HB3.out (Nat.le_refl _)).vat
            have hs3 := HB3.out.size
            clear hown3 hgrow3 HV1 s3 s4 sl
            go_wp2_with (at_builtin; refine wpList_append_src _ rfl (.tmp 81) (.tmp 82) 23 rfl wB.heap.size 5 j0 (.int .u8 0) 1 Try.underlying23 HJ.out hy0 hy1 hy2 rfl _ rest.length (encB rest) rfl HO3.out ad data.length cd (encB data) rfl (by simp [encB]) HV2.out (encB_one _) (by unfold maxLen; omega) (by omega) hs3 ?_)
            intro v4 w4 hown4 hgrow4 _
            have HB4 := Lib.hid (HB3.out.grown hgrow4 hs3 (fun k hk => (HO3.out.lt k hk).1))
            obtain ⟨L, hL⟩ : ∃ L, L = rest ++ data := ⟨_, rfl⟩
            have HLL : Hid (L.length = rest.length + data.length) := Lib.hid (by rw [hL]; simp)
            have hO4 : w4.ownsRow wB.heap.size 5 1 v4 L.length (encB L) := by rw [HLL.out, hL, encB_append]; exact hown4
            have HL := Lib.hid hL
            obtain ⟨-, a4, c4, rfl, hc4, hm4, hA4⟩ := BAt.of_row hO4
            have hsh4 := own_shape hO4
            have HSH4 : Hid ((a4 = none ∧ c4 = 0) ∨ ∃ g off, a4 = some ⟨g, off, none⟩) := Lib.hid (by
              rcases hsh4 with ⟨e1, e2, -⟩ | ⟨g, e, -⟩
              · exact .inl ⟨e1, e2⟩
              · exact .inr ⟨g, 0, e⟩)
            have HA4 := Lib.hid hA4
            have hR4 := HRB.out.step HB4.out (Nat.le_refl _)
            have t3 := hR4.box.at 3 rfl
            have t4 := hR4.box.at 4 rfl
            have tf3 := hR4.box.free 3
            have tf4 := hR4.box.free 4
            have tl := hR4.box.lt
            have hs4 := HB4.out.size
            have HR4 := Lib.hid hR4
            clear hown4 hgrow4 hO4 hsh4 hA4 hR4 HO3 HV2 HB3 hs3 hL
            have z0 := HR4.out.res.at 0 rfl
            have z1 := HR4.out.res.at 1 rfl
            have z2 := HR4.out.res.at 2 rfl
            have z3 := HR4.out.res.at 3 rfl
            have z4 := HR4.out.res.at 4 rfl
            have zf0 := HR4.out.res.free 0
            have zf1 := HR4.out.res.free 1
            have zf2 := HR4.out.res.free 2
            have zf3 := HR4.out.res.free 3
            have zf4 := HR4.out.res.free 4
            have zl := HR4.out.res.lt
            have t0 := HR4.out.box.at 0 rfl
            have t1 := HR4.out.box.at 1 rfl
            have t2 := HR4.out.box.at 2 rfl
            go_wp2_with fail
            refine bodyPost_ret (v := .tuple #[UV ⟨true, false, (c + 1) % 256, ls1, []⟩ none 0, .slice none 0 0]) (by simp [results, Try.results16, go_sem, UV, *]) rfl ?_
            rw [HTE.out, eat_none HST.out rfl]
            exact rt_none (u := ⟨true, false, (c + 1) % 256, ls1, []⟩) (wx := w4.setCell ⟨w.heap.size, 4, none⟩ (.slice none 0 0)) (HR4.out.below.setCell (p := ⟨w.heap.size, 4, none⟩) (Nat.le_refl _) _) (.inl rfl) (fun q hq => by cases hq) (by simp) (by unfold maxLen; omega) _ _ _ _ _
    · go_enter Try.func16, Try.ntmps16
      go_upto_if 40 with fail
      go_cut [] (fun wx => RM w ⟨started, sp1, next, ls1, rest⟩ a cap wx)
      case first =>
        cases started
        · have e1 := HLS.out
          have e2 := HSP.out
          simp only [Bool.false_eq_true, if_false] at e1 e2
          subst e1 e2
          go_wp2_with fail
          go_meet
          case rel => exact ⟨.alloc (Blk.newAt rfl) _, Blk.newAt (by simp), al (al (Below.refl _ _) _) _⟩
        · have e1 := HLS.out
          have e2 := HSP.out
          simp only [if_true] at e1 e2
          have ed : (c - next) % 256 = (c + 256 - next) % 256 := by omega
          obtain ⟨d, hd⟩ : ∃ d, d = (c + 256 - next) % 256 := ⟨_, rfl⟩
          rw [ed, ← hd] at e1 e2
          have hdd := hd.symm
          have d1 : 0 ≤ d := by omega
          have d2 : d < 256 := by omega
          have i1 : 0 ≤ c + 256 - next := by omega
          clear ed hd
          cases step
          · simp only [Bool.false_and] at e2
            subst e1 e2
            go_wp2_with fail
            go_meet
            case rel => exact ⟨.alloc (Blk.newAt rfl) _, Blk.newAt (by simp), al (al (Below.refl _ _) _) _⟩
          · by_cases hd0 : d = 0
            · have ez : (d == 0) = true := by rw [hd0]; rfl
              rw [decide_eq_true hd0] at e2
              simp only [Bool.and_true] at e2
              subst e1 e2
              clear hd0
              go_wp2_with fail
              go_meet
              case rel => exact ⟨.alloc (Blk.newAt rfl) _, Blk.newAt (by simp), al (al (Below.refl _ _) _) _⟩
            · have ez : (d == 0) = false := by rw [beq_eq_false_iff_ne]; exact hd0
              rw [decide_eq_false hd0] at e2
              simp only [Bool.and_false] at e2
              subst e1 e2
              clear hd0
              go_wp2_with fail
              go_meet
              case rel => exact ⟨.alloc (Blk.newAt rfl) _, Blk.newAt (by simp), al (al (Below.refl _ _) _) _⟩
      case rest =>
        have q0 := hcut.box.at 0 rfl
        have q1 := hcut.box.at 1 rfl
        have q2 := hcut.box.at 2 rfl
        have q3 := hcut.box.at 3 rfl
        have q4 := hcut.box.at 4 rfl
        have qf0 := hcut.box.free 0
        have qf1 := hcut.box.free 1
        have ql := hcut.box.lt
        have HCUT := Lib.hid hcut
        clear hcut
        go_upto_if 65 with fail
        obtain ⟨wA, hwA⟩ : ∃ wA, wA = (wc.setCell ⟨w.heap.size, 0, none⟩ (.bool true)).setCell ⟨w.heap.size, 1, none⟩ (.int .i64 ((c + 1) % 256)) := ⟨_, rfl⟩
        have hRA : RM w ⟨true, sp1, (c + 1) % 256, ls1, rest⟩ a cap wA := by
          rw [hwA]
          have hne : (⟨w.heap.size, 0, none⟩ : Addr).block ≠ w.heap.size + 1 := by simp
          exact ⟨Blk.cast ((HCUT.out.box.setCell 0 _).setCell 1 _) rfl, (HCUT.out.res.setOther (p := ⟨w.heap.size, 0, none⟩) (by simp) _).setOther (p := ⟨w.heap.size, 1, none⟩) (by simp) _, (HCUT.out.below.setCell (p := ⟨w.heap.size, 0, none⟩) (Nat.le_refl _) _).setCell (p := ⟨w.heap.size, 1, none⟩) (Nat.le_refl _) _⟩
        rw [← hwA]
        clear q0 q1 q2 q3 q4 qf0 qf1 ql hwA
        have s0 := hRA.box.at 0 rfl
        have s1 := hRA.box.at 1 rfl
        have s2 := hRA.box.at 2 rfl
        have s3 := hRA.box.at 3 rfl
        have s4 := hRA.box.at 4 rfl
        have z0 := hRA.res.at 0 rfl
        have z1 := hRA.res.at 1 rfl
        have z2 := hRA.res.at 2 rfl
        have z3 := hRA.res.at 3 rfl
        have z4 := hRA.res.at 4 rfl
        have zf0 := hRA.res.free 0
        have zf1 := hRA.res.free 1
        have zf2 := hRA.res.free 2
        have zf3 := hRA.res.free 3
        have zf4 := hRA.res.free 4
        have zl := hRA.res.lt
        have HRA := Lib.hid hRA
        clear hRA
        go_wp2_with fail
        refine bodyPost_ret (v := .tuple #[UV ⟨true, sp1, (c + 1) % 256, ls1, rest⟩ a cap, .slice none 0 0]) (by simp [results, Try.results16, go_sem, UV, *]) rfl ?_
        rw [take_idle HB.out rfl, ← HU1.out]
        exact rt_none (u := ⟨true, sp1, (c + 1) % 256, ls1, rest⟩) HRA.out.below (HA.out.below HRA.out.below (Nat.le_refl _)) (bat_old HA.out 1) hac HHM.out _ _ _ _ _
  · have HB := Lib.hid hbad
    simp [badT, k1, k2] at hbad
    by_cases hf : f < 0
    · clear hbad
      go_enter Try.func16, Try.ntmps16
      go_wp2_with fail
      refine bodyPost_ret (v := .tuple #[UV ⟨started, step, next, lost, rest⟩ a cap, .slice none 0 0]) (by simp [results, Try.results16, go_sem, UV]) rfl ?_
      rw [take_bad HB.out]
      exact rt_bad (al (al (Below.refl _ _) _) _) HA.out hac HHM.out
    · obtain ⟨⟨hb1, hb2⟩, hb3⟩ := hbad.resolve_left hf
      have e3 : (f != 2047) = true := by simp [hb2]
      have e4 : (f != 2046) = true := by simp [hb3]
      go_enter Try.func16, Try.ntmps16
      go_wp2_with fail
      refine bodyPost_ret (v := .tuple #[UV ⟨started, step, next, lost, rest⟩ a cap, .slice none 0 0]) (by simp [results, Try.results16, go_sem, UV]) rfl ?_
      rw [take_bad HB.out]
      exact rt_bad (al (al (Below.refl _ _) _) _) HA.out hac HHM.out
end Go.Proofs.Ytllpbfejoahllaa

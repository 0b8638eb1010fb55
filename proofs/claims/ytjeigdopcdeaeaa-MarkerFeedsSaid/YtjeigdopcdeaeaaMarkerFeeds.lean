/- The law MarkerFeeds holds: the walk, then the lift to the given statement. No condition. -/
import Derived.Test.YtjeigdopcdeaeaaX
import Derived.WalkKit
import Derived.ProofKit
import Derived.OpenShut
import Derived.Lib.Hide
import Derived.ChangeOld
import Derived.Below
import Derived.SizedLaws
namespace Go.Proofs.Ytjeigdopcdeaeaa.markerFeeds
open Go.ChangeShapes Go.WideShapes Go.ChangeAt Go.RowKit
set_option linter.unusedVariables false
theorem own : ownKnob Try.prog.godebug = none := by kernel_rfl
theorem laidOut : laidOutB Try.prog = true := by kernel_rfl

theorem lit3 (w : World) (x0 x1 x2 : UInt8) : BAt (w.alloc (.cells #[.int .u8 (x0.toNat : Int), .int .u8 (x1.toNat : Int), .int .u8 (x2.toNat : Int)] 5)) (some ⟨w.heap.size, 0, none⟩) [x0, x1, x2] := by
  refine .inr ⟨_, _, rfl, by simp, fun i hi => ?_⟩
  rw [Joins.cell_alloc_mark_at _ _ _ _ _ _ rfl]
  match i, hi with
  | 0, _ => rfl
  | 1, _ => rfl
  | 2, _ => rfl
set_option maxRecDepth 20000 in
set_option maxHeartbeats 2000000 in
theorem walk {H : Type} {enc : TypeId × Value → H} (a0 : Int) (v1 : Value) (w : World) (w0 : (Lit.int .i64 a0).wf = true) {b1 : Nat} {d1 : DataW H} {p1 : List MemPlace} (ok1 : Value.okWide Try.prog w .any b1 26 v1) (tr1 : DataW.Trod enc Try.prog w 0 (fun _ => true) true 26 v1 d1 p1) : Calls Try.prog 5 #[.int .i64 a0, v1] w fun e w' => e = .returned (.bool true) ∧ Below w.heap.size w w' := by
  obtain ⟨L, hS⟩ := arg_lists Try.underlying26 (by kernel_rfl) Try.underlying22 Try.underlying5 (by kernel_rfl) ok1 tr1
  have HS := Lib.hid hS
  clear w0 ok1 tr1 hS
  cases hr : rightB a0
  · have HR := Lib.hid hr
    have hn : ¬ (1 ≤ a0 ∧ a0 ≤ 1024) := by simpa [rightB] using hr
    have HN := Lib.hid hn
    clear hr hn
    go_enter Try.func5, Try.ntmps5
    go_wp2_with fail
    refine (new_bad a0 _ HN.out).mono ?_
    rintro e w9 ⟨rfl, hw9⟩
    obtain rfl := hw9.symm
    go_wp2_with fail
    refine (right_any a0 _).mono ?_
    rintro e w9 ⟨rfl, hw9⟩
    obtain rfl := hw9.symm
    rw [HR.out]
    go_wp2_with fail
    refine (feed_nil_any none 0 0 _).mono ?_
    rintro e w9 ⟨rfl, hw9⟩
    obtain rfl := hw9.symm
    go_wp2_with fail
    refine (skipped_nil _).mono ?_
    rintro e w9 ⟨rfl, hw9⟩
    obtain rfl := hw9.symm
    go_wp2_with fail
    refine (fclone_nil _).mono ?_
    rintro e w9 ⟨rfl, hw9⟩
    obtain rfl := hw9.symm
    go_wp2_with fail
    refine (alive_any _).mono ?_
    rintro e w9 ⟨rfl, hB⟩
    go_wp2_with fail
    go_ret
    exact ⟨rfl, hB⟩
  · have HR := Lib.hid hr
    have hr2 : 1 ≤ a0 ∧ a0 ≤ 1024 := by simpa [rightB] using hr
    obtain ⟨sz, rfl⟩ : ∃ sz : Nat, a0 = (sz : Int) := ⟨a0.toNat, by omega⟩
    have hz1 : 1 ≤ sz := by omega
    have hz2 : sz ≤ 1024 := by omega
    clear hr hr2
    cases hf : fewB L
    · have HF := Lib.hid hf
      clear hf
      go_enter Try.func5, Try.ntmps5
      go_wp2_with fail
      refine (new_ok sz _ hz1 hz2).mono ?_
      rintro e w1 ⟨rfl, hFi, hB⟩
      have HB := Lib.hid hB
      clear hFi hB
      go_wp2_with fail
      refine (right_any _ _).mono ?_
      rintro e w9 ⟨rfl, hw9⟩
      obtain rfl := hw9.symm
      rw [HR.out]
      go_wp2_with fail
      refine (few_any _ _ L _ (HS.out.below HB.out (Nat.le_refl _))).mono ?_
      rintro e w9 ⟨rfl, hw9⟩
      obtain rfl := hw9.symm
      rw [HF.out]
      go_wp2_with fail
      refine (alive_any _).mono ?_
      rintro e w9 ⟨rfl, hB⟩
      have HB9 := Lib.hid (HB.out.trans (hB.mono HB.out.size))
      clear hB
      go_wp2_with fail
      go_ret
      exact ⟨rfl, HB9.out⟩
    · have HF := Lib.hid hf
      obtain ⟨hLn, hLs⟩ := few_sizes L hf
      have HLS := Lib.hid hLs
      have HLF := Lib.hid (flat_len L hf)
      clear hf hLs
      obtain ⟨j0, hj, hy0, hy1, hy2⟩ := info_parts info5
      have HJ := Lib.hid hj
      obtain ⟨j1, hj1, hz0, hzz1, hzz2⟩ := info_parts info22
      have HJ1 := Lib.hid hj1
      clear hj hj1
      obtain ⟨av, capv, rfl, hcv, hmv⟩ := HS.out.len
      go_enter Try.func5, Try.ntmps5
      go_wp2_with fail
      refine (new_ok sz _ hz1 hz2).mono ?_
      rintro e w1 ⟨rfl, hFi, hB⟩
      have HM0 := Lib.hid (MF.start hFi hB)
      have HB := Lib.hid hB
      clear hFi hB
      go_wp2_with fail
      refine (right_any _ _).mono ?_
      rintro e w9 ⟨rfl, hw9⟩
      obtain rfl := hw9.symm
      rw [HR.out]
      go_wp2_with fail
      refine (few_any _ _ L _ (HS.out.below HB.out (Nat.le_refl _))).mono ?_
      rintro e w9 ⟨rfl, hw9⟩
      obtain rfl := hw9.symm
      rw [HF.out]
      go_wp2_with fail
      go_loopw [6, 7, 8] (fun va vg i wr => MFR w wr sz L i vg va) (fun _ _ i _ => L.length - (intOf i).toNat)
      case atStart => exact ⟨0, .slice none 0 0, [], by omega, rfl, by rw [List.take_zero, List.flatten_nil, feed_nil]; exact HM0.out, fun j hj => by simp [Value.ownBlock] at hj⟩
      case round =>
        obtain ⟨k, v, vs, hk, rfl, hM, hvn⟩ := hrel
        obtain ⟨x, hx⟩ : ∃ x, x = (L.take k).flatten := ⟨_, rfl⟩
        rw [← hx] at hM
        have hxl := HLF.out k
        rw [← hx] at hxl
        have HX := Lib.hid hx
        have HM := Lib.hid hM
        have HVN := Lib.hid hvn
        obtain ⟨l1, l2, l3, l4⟩ := hM.lt
        clear hM hvn hx l1 l2 l3
        by_cases hlt : k < L.length
        · obtain ⟨b, off, cp, ae, ce, e, -, -, hb, hcell, hce, hcm, hA, -⟩ := HS.out.get hlt
          simp only [Value.slice.injEq, true_and] at e
          obtain ⟨rfl, rfl⟩ := e
          have hfs := HLS.out k hlt
          have hfl := HLF.out (k + 1)
          obtain ⟨y, hy⟩ : ∃ y, y = L[k] := ⟨_, rfl⟩
          have hflat := flat_succ L k hlt
          rw [← hy] at hcell hce hA hfs hflat
          rw [hflat, ← HX.out] at hfl
          have HFL := Lib.hid hflat
          have HA := Lib.hid hA
          have HC := Lib.hid hcell
          obtain ⟨sk, hsk⟩ : ∃ sk, sk = (feed sz x).2.1 := ⟨_, rfl⟩
          obtain ⟨rest, hrest⟩ : ∃ rest, rest = (feed sz x).2.2 := ⟨_, rfl⟩
          obtain ⟨fs, hfs'⟩ : ∃ fs, fs = (feed sz x).1 := ⟨_, rfl⟩
          have HSK := Lib.hid hsk
          have HRE := Lib.hid hrest
          have HFS := Lib.hid hfs'
          have hskl : sk ≤ 3000 := by rw [hsk]; exact Nat.le_trans (feed_skip sz x) hxl
          have hrl : rest.length ≤ 1100 := by rw [hrest]; have := feed_rest sz x; omega
          rw [← hsk, ← hrest, ← hfs'] at HM
          clear hcell hA hy hsk hrest hfs' hflat
          have g1 : (0 : Int) ≤ (k : Int) := by omega
          have g2 : (k : Int) < (L.length : Int) := by omega
          have g3 : (L.length : Int) ≤ 3000 := by omega
          go_wp2_with fail
          refine (fclone_any _ sz sk v rest _ HM.out.fin hz1 (by omega)).mono ?_
          rintro e w2 ⟨v2, rfl, hF2, hn2, hB2⟩
          have HF2 := Lib.hid hF2
          have HN2 := Lib.hid hn2
          have HB2 := Lib.hid hB2
          have hs2 := hB2.size
          have hl2 := hF2.blk.lt
          clear hF2 hn2 hB2
          go_wp2_with fail
          refine (feed_any _ sz sk v2 rest [1, 2, 3] (some ⟨w2.heap.size, 0, none⟩) 3 _ (HF2.out.below (al (Below.refl _ _) _) (Nat.le_refl _)) hz1 hz2 (by simp; omega) (by simp; omega) (lit3 _ _ _ _) (fun q hq _ h => by
            cases hq
            rcases h with h | h
            · exact absurd h (Nat.ne_of_gt hl2)
            · exact absurd (HF2.out.own.lt _ h).2 (Nat.lt_irrefl _))).mono ?_
          rintro e w3 ⟨vo3, v3, rfl, -, -, hfr3, -⟩
          have hB3 : Below wr.heap.size wr w3 := ((HB2.out.trans ((al (Below.refl _ w2) _).mono hs2))).trans (hfr3.toBelow (by simp; omega) (fun j hj => by
            rcases hj with e | e
            · omega
            · exact HN2.out j e))
          have HM3 := Lib.hid (HM.out.step hB3)
          have HVL : Hid (∀ j, v.ownBlock = some j → w.heap.size ≤ j) := HVN
          have hs3 := HM3.out.below.size
          have c3 : w3.cell? ⟨b, off + k, none⟩ = some (.slice ae y.length ce) := (HM3.out.below.cell (p := ⟨b, off + k, none⟩) hb).trans HC.out
          clear hfr3 hB3 HB2 HN2 HF2 hl2 hs2
          go_wp2_with fail
          refine (feed_any _ sz sk v rest y ae ce _ HM3.out.fin hz1 hz2 (by omega) (by omega) (HA.out.below HM3.out.below (Nat.le_refl _)) (fun q hq hne h => by
            have := HA.out.lt q hq hne
            rcases h with h | h
            · omega
            · have := HVL.out _ h; omega)).mono ?_
          rintro e w4 ⟨vo4, v4, rfl, hF4, hS4, hfr4, hn4⟩
          have hM4 := HM3.out.fed HVL.out hF4 hfr4 hn4
          obtain ⟨l1, l2, l3, l5⟩ := HM3.out.lt
          have hS4' : SAt w4 (DS w v4 u7 u6) vo4 (feed sz (rest ++ y)).1 := hS4.grow (fun j hj => by
            rcases hj with h | h | h | h
            · exact .inl (.inl (by omega))
            · exact .inl (.inr h)
            · exact .inl (.inl (l1 j h).2)
            · exact .inl (.inl (l2 j h).2))
          obtain ⟨a4, c4, us, rfl, hc4, hm4, hV4, -, hsl4⟩ := hS4'
          have hus := hsl4.1
          have h1c := hsl4.one_cell
          have HM4 := Lib.hid hM4
          have HV4 := Lib.hid hV4
          have HSL4 := Lib.hid hsl4
          have H1C := Lib.hid h1c
          have HN4 : Hid (∀ j, v4.ownBlock = some j → w.heap.size ≤ j) := Lib.hid (fun j hj => by have := hn4 j hj; omega)
          have hs4 := HM4.out.below.size
          have hl4 := HM4.out.lt.2.2.2
          have hcnt := feed_count sz (rest ++ y)
          have hcf : fs.length ≤ 3000 := by rw [HFS.out]; exact Nat.le_trans (feed_count sz x) hxl
          rw [List.length_append] at hcnt
          clear hM4 hF4 hS4 hfr4 hn4 l1 l2 l3 l5 hus h1c hV4 hsl4 c3
          go_wp2_with (at_builtin; refine wpList_append_src _ rfl _ _ 26 rfl (w.heap.size + 1) 22 j1 (.slice none 0 0) 24 Try.underlying26 HJ1.out hz0 hzz1 hzz2 rfl _ fs.length vs rfl HM4.out.got a4 _ c4 us rfl HSL4.out.1 HV4.out H1C.out (by unfold maxLen; omega) (by omega) (by omega) ?_)
          intro v5 w5 hown5 hgrow5 hblk5
          have hM5 := HM4.out.more HSL4.out hown5 hgrow5 hblk5
          have HM5 := Lib.hid hM5
          have hs5 := hM5.below.size
          have hl5 := hM5.lt.2.2.2
          have c5 : w5.cell? ⟨b, off + k, none⟩ = some (.slice ae y.length ce) := (hM5.below.cell (p := ⟨b, off + k, none⟩) hb).trans HC.out
          have HV5 := Lib.hid (HA.out.below hM5.below (Nat.le_refl _)).vat
          clear hM5 hown5 hgrow5 hblk5
          go_wp2_with (at_builtin; refine wpList_append_src _ rfl _ _ 22 rfl (w.heap.size + 1) 5 j0 (.int .u8 0) 1 Try.underlying22 HJ.out hy0 hy1 hy2 rfl _ x.length (encB x) rfl HM5.out.all ae y.length ce (encB y) rfl (by simp [encB]) HV5.out (encB_one _) (by unfold maxLen; omega) (by omega) (by omega) ?_)
          intro v6 w6 hown6 hgrow6 hblk6
          have hM6 := HM5.out.bytes hown6 hgrow6 hblk6
          obtain ⟨z, hz⟩ : ∃ z, z = x ++ y := ⟨_, rfl⟩
          have hxy : z.length ≤ 10000 := by rw [hz, List.length_append]; simp at hfl; omega
          rw [← hz] at hM6
          have HZ := Lib.hid hz
          clear hz
          have HM6 := Lib.hid hM6
          obtain ⟨-, a6, c6, rfl, hc6, hm6, hA6⟩ := BAt.of_row hM6.all
          have ha6 : (a6 = none ∧ c6 = 0) ∨ ∃ g off, a6 = some ⟨g, off, none⟩ := by
            rcases hM6.all.2 with ⟨e, -⟩ | ⟨g, cp, cur, e, -⟩
            · simp only [Value.slice.injEq] at e; exact .inl ⟨e.1, e.2.2⟩
            · simp only [Value.slice.injEq] at e; exact .inr ⟨_, _, e.1⟩
          have HA6 := Lib.hid hA6
          have HAF := Lib.hid ha6
          clear hM6 hown6 hgrow6 hblk6 hA6 ha6 c5 HV5
          go_wp2_with fail
          refine (frames_any a6 c6 sz z _ hxy hz1 hz2 hc6 hm6 HA6.out HAF.out).mono ?_
          rintro e w7 ⟨v7, rfl, hS7, hB7⟩
          have HM7 := Lib.hid (HM6.out.step hB7)
          have hfa := feed_append sz x y
          rw [← HRE.out, ← HSK.out, ← HFS.out, ← HZ.out] at hfa
          obtain ⟨fr, hfr⟩ : ∃ fr, fr = feed sz (rest ++ y) := ⟨_, rfl⟩
          rw [← hfr] at hfa
          have hM7 := HM7.out
          rw [← hfr] at hM7
          obtain ⟨sn, hsn⟩ : ∃ sn, sn = sk + fr.2.1 := ⟨_, rfl⟩
          rw [← hsn] at hfa hM7
          rw [hfa] at hS7
          rw [hfa]
          have HE := Lib.hid hfa
          have HM7 := Lib.hid hM7
          have HS7 := Lib.hid hS7
          clear hsn hM7 hB7 hfa hS7 hfr HM6 HAF HA6
          go_wp2_with fail
          refine (same_any _ _ _ _ _ _ _ HM7.out.sat HS7.out).mono ?_
          rintro e w8 ⟨rfl, hq8⟩
          rw [decide_eq_true rfl]
          have HM8 := Lib.hid (HM7.out.step hq8.below)
          clear hq8
          go_wp2_with fail
          refine (skipped_any _ sz _ _ _ _ HM8.out.fin).mono ?_
          rintro e w9 ⟨rfl, hw9⟩
          obtain rfl := hw9.symm
          go_wp2_with fail
          go_roundw
          case rel =>
            refine ⟨k + 1, v4, vs ++ us, by omega, by go_num, ?_, HN4.out⟩
            rw [HFL.out, ← HX.out, ← HZ.out, HE.out]
            exact HM8.out
          case measure => simp [intOf]; omega
        · have g2 : ¬ (k : Int) < (L.length : Int) := by omega
          go_wp2_with fail
          refine (alive_any _).mono ?_
          rintro e w9 ⟨rfl, hB⟩
          have HB9 := Lib.hid (HM.out.below.trans (hB.mono HM.out.below.size))
          clear hB
          go_wp2_with fail
          go_ret
          exact ⟨rfl, HB9.out⟩


set_option maxRecDepth 100000 in
theorem lifted (os : Os) (started : os.Started) (H : Type) (enc : TypeId × Value → H) :
    ReturnsInHanded {} Try.checked os 5 .any (Rows.markerFeedsSpec.pre6 enc Try.prog Try.f5 Rows.markerFeedsRow.domain false) (Rows.markerFeedsSpec.post enc Try.prog Try.f5 false true false false) := by
  refine returnsInHanded_of_change (C := Try.checked) own started (by kernel_rfl) Try.func5
    (ChangeSpec.witness6 (enc := enc) (C := Try.checked) false ⟨#[], #[.int .i64 0, .slice none 0 0], []⟩ 8 (by kernel_rfl) (by kernel_rfl) (by kernel_rfl) (by kernel_rfl)) ?_
  intro W base args ds gs before hval0 hW hcnd _
  have hval : ∀ (j : Nat) t v, Try.f5.params[j]? = some t → args[j]? = some v → Value.okWide Try.prog W .any base t v := hval0
  have hW' := hW
  obtain ⟨p, q, hA0, hV, rfl, hfz, hnd⟩ := hW
  have hA : DataW.TrodAll enc Try.prog W 0 (fun _ => true) true Try.f5.params.toList args.toList ds p := hA0
  rw [Try.params5] at hA hval
  obtain ⟨v0, vs0, d0, ds0, p0, q0, hargs, rfl, rfl, h0, r0⟩ := trodAll_cons hA
  obtain ⟨v1, vs1, d1, ds1, p1, q1, rfl, rfl, rfl, h1, r1⟩ := trodAll_cons r0
  obtain ⟨rfl, rfl, rfl⟩ := trodAll_nil r1
  obtain rfl : args = #[v0, v1] := by cases args; simp_all
  obtain ⟨rfl, rfl⟩ := trodVars_none hV
  obtain ⟨a0, rfl, rfl, rfl, w0⟩ := open_int Try.underlying3 (hval 0 3 v0 rfl rfl) h0
  have k1 := h1
  have lt1 : ∀ x ∈ p1, x.block < W.heap.size := by obtain ⟨m, hm⟩ := k1; exact DataW.trod_lt m _ _ _ hm
  clear hA0 hval0
  refine (walk a0 v1 W w0 (hval 1 26 v1 rfl rfl) k1).mono fun e W' ⟨he, bel⟩ => ?_
  subst he
  exact ⟨_, rfl, _, _, _, [], _, [], hW', trodAll_mk1 (shut_bool Try.underlying4 _), (trodAll_cons_mk (shut_int Try.underlying3 w0) (trodAll_cons_mk (Below.trod laidOut (by kernel_rfl) (of_decide_eq_true (by kernel_rfl)) k1 bel lt1) trodAll_mk0)), rfl, bel.frame _, fun h => by cases h⟩

theorem over : Rows.markerFeedsRow.holds Try.pinned (OpenSpec.ofChange Rows.markerFeedsSpec) :=
  OpenClaim.holds_of_wide 5 Try.f5 rfl rfl rfl rfl rfl rfl rfl ⟨rfl, rfl, rfl, rfl, rfl⟩ rfl rfl rfl rfl rfl (by kernel_rfl) Try.func5 (by kernel_rfl)
    (of_decide_eq_true (by kernel_rfl)) (by unfold Func.isWrapper; first | (rw [if_pos (by decide +kernel)]; kernel_rfl) | (rw [if_neg (by decide +kernel)]; exact ⟨rfl, rfl⟩))
    (fun os started H enc _ => lifted os started H enc)

theorem proved : Rows.MarkerFeedsSaid := over
#print axioms proved
end Go.Proofs.Ytjeigdopcdeaeaa.markerFeeds

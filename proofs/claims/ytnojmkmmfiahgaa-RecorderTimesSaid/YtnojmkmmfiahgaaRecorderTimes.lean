/- The law RecorderTimes holds: the walk, then the lift to the given statement. No condition. -/
import Derived.Test.YtnojmkmmfiahgaaV
import Derived.WalkKit
import Derived.ProofKit
import Derived.OpenShut
import Derived.Lib.Hide
import Derived.ChangeOld
import Derived.Below
import Derived.SizedLaws
namespace Go.Proofs.Ytnojmkmmfiahgaa.recorderTimes
open Go.ChangeShapes Go.WideShapes Go.ChangeAt Go.RowKit
set_option linter.unusedVariables false
theorem own : ownKnob Try.prog.godebug = none := by kernel_rfl
theorem laidOut : laidOutB Try.prog = true := by kernel_rfl

set_option maxRecDepth 20000 in
set_option maxHeartbeats 4000000 in
theorem walk {H : Type} {enc : TypeId × Value → H} (v0 : Value) (a1 a2 a3 : Int) (w : World) {b0 : Nat} {d0 : DataW H} {p0 : List MemPlace} (ok0 : Value.okWide Try.prog w .any b0 31 v0) (tr0 : DataW.Trod enc Try.prog w 0 (fun _ => true) true 31 v0 d0 p0) (w1 : (Lit.int .u8 a1).wf = true) (w2 : (Lit.int .u8 a2).wf = true) (w3 : (Lit.int .u8 a3).wf = true) : Calls Try.prog 4 #[v0, .int .u8 a1, .int .u8 a2, .int .u8 a3] w fun e w' => e = .returned (.bool true) ∧ Below w.heap.size w w' := by
  obtain ⟨a, cap, l, rfl, hc, hm, hb⟩ := arg_bytes Try.underlying31 Try.underlying5 (by kernel_rfl) ok0 tr0
  obtain ⟨f, rfl⟩ := wf_u8 w1
  obtain ⟨u, rfl⟩ := wf_u8 w2
  obtain ⟨bf, rfl⟩ := wf_u8 w3
  have HB := Lib.hid hb
  clear w1 w2 w3 ok0 tr0 hb
  obtain ⟨n, hn⟩ : ∃ n, n = l.length := ⟨_, rfl⟩
  rw [← hn] at hc ⊢
  by_cases hl : 60 < n
  · have e1 : (60 : Int) < (n : Int) := by omega
    clear hn
    go_enter Try.func4, Try.ntmps4
    go_wp2_with fail
    refine (alive_any _).mono ?_
    rintro e w9 ⟨rfl, hB⟩
    have HB9 := Lib.hid hB
    clear hB
    go_wp2_with fail
    go_ret
    exact ⟨rfl, HB9.out⟩
  have e1 : ¬ (60 : Int) < (n : Int) := by omega
  by_cases hfu : u.toNat < f.toNat
  · have e2 : (u.toNat : Int) < (f.toNat : Int) := by omega
    clear hn
    go_enter Try.func4, Try.ntmps4
    go_wp2_with fail
    refine (alive_any _).mono ?_
    rintro e w9 ⟨rfl, hB⟩
    have HB9 := Lib.hid hB
    clear hB
    go_wp2_with fail
    go_ret
    exact ⟨rfl, HB9.out⟩
  have e2 : ¬ (u.toNat : Int) < (f.toNat : Int) := by omega
  have HN := Lib.hid hn
  clear hn
  obtain ⟨j0, hj0, hz0, hz1, hz2⟩ := info_parts info3
  have HJ0 := Lib.hid hj0
  clear hj0
  obtain ⟨b, hbb⟩ : ∃ b, b = w.heap.size + 1 := ⟨_, rfl⟩
  have HBB := Lib.hid hbb
  clear hbb
  go_enter Try.func4, Try.ntmps4
  go_wp2_with fail
  refine (new_ok (ds := [⟨1, 1000, 0, false⟩]) (.inr ⟨_, _, rfl, by simp, fun i hi j hj => ?_⟩) rfl (by decide) (by decide) (fun i h => ?_)).mono ?_
  · obtain rfl : i = 0 := by simp at hi; omega
    have h9 := (Blk.new w 29 [.int .i64 1, .int .i64 1000, .int .i64 0, .bool false]).cell j
    rw [show 0 + (0 * 4 + j) = j by omega]
    exact h9
  · obtain ⟨d, h1, h2⟩ := h
    obtain rfl : i = 0 := by have := (List.getElem?_eq_some_iff.1 h1).1; simp at this; omega
    simp at h1
    subst h1
    simp at h2
  rintro e w0 ⟨rb, vS, Y0, rfl, hR, hB⟩
  rw [show (w.alloc (.cells #[.int .i64 1, .int .i64 1000, .int .i64 0, .bool false] 29)).heap.size = b by rw [HBB.out]; simp] at hR hB
  have HR0 : Hid (RAt w0 b rb (one (tmS l 0 : Int) (sT l no 0 0)) vS Y0) := Lib.hid hR
  have HB0 : Hid (Below w.heap.size w w0) := Lib.hid ((al (Below.refl _ _) _).trans (hB.mono (by rw [HBB.out]; omega)))
  have HBW : Hid (w.heap.size ≤ b) := Lib.hid (by rw [HBB.out]; omega)
  clear hR hB
  go_wp2_with fail
  go_loopw [11, 12, 13] (fun v11 v12 v13 wr => ∃ (i : Nat) (Y : List SM), i ≤ n ∧ v12 = .int .i64 (tmS l i : Int) ∧ v13 = .int .i64 (i : Int) ∧ Hid (wr.ownsRow b 3 1 v11 i (tms l i)) ∧ Hid (RAt wr b rb (one (tmS l i : Int) (sT l no 0 i)) vS Y) ∧ Hid (Below w.heap.size w wr)) (fun _ _ v13 _ => n - (intOf v13).toNat)
  case atStart => exact ⟨0, Y0, Nat.zero_le _, rfl, rfl, Lib.hid (World.ownsRow_nil _ _ _ _), HR0, HB0⟩
  case round =>
    obtain ⟨i, Y, hi, rfl, rfl, HO, HR, HW⟩ := hrel
    by_cases hlt : i < n
    · obtain ⟨x, hx⟩ : ∃ x, l[i]? = some x := ⟨_, List.getElem?_eq_getElem (by rw [← HN.out]; exact hlt)⟩
      obtain ⟨bA, oA, rfl, hbA, hcell⟩ : ∃ b off, a = some ⟨b, off, none⟩ ∧ b < w.heap.size ∧ ∀ i (h : i < l.length), w.cell? ⟨b, off + i, none⟩ = some (.int .u8 (l[i].toNat : Int)) := by
        rcases HB.out with h | h
        · rw [h] at hx; cases hx
        · exact h
      have c1 : wr.cell? ⟨bA, oA + i, none⟩ = some (.int .u8 (x.toNat : Int)) := (HW.out.cell (p := ⟨bA, _, none⟩) hbA).trans (by rw [hcell i (by rw [← HN.out]; exact hlt), (List.getElem?_eq_some_iff.1 hx).2])
      have g1 : (i : Int) < (n : Int) := by omega
      obtain ⟨t0, ht0⟩ : ∃ t, t = tmS l i := ⟨_, rfl⟩
      obtain ⟨t1, ht1⟩ : ∃ t, t = tmS l (i + 1) := ⟨_, rfl⟩
      have HT0 := Lib.hid ht0
      have HT1 := Lib.hid ht1
      have h01 := tmS_succ hx
      rw [← ht0, ← ht1] at h01
      have h02 := tmS_le l (i + 1)
      rw [← ht1] at h02
      rw [← ht0]
      clear ht0 ht1 hcell
      obtain ⟨v11, hv11⟩ : ∃ v, v = u11 := ⟨_, rfl⟩
      have hx2 := x.toNat_lt
      have j1 : (t0 : Int) + (x.toNat : Int) % 16 = (t1 : Int) := by omega
      have j2 : IntKind.i64.wrap (t1 : Int) = (t1 : Int) := IntWalk.i64_in _ (by omega)
      have HX := Lib.hid hx
      have hi60 : i ≤ 60 := by omega
      clear hx hv11
      have ew := tm_step h01 hx2 h02 hi60
      have EW := Lib.hid ew
      have HSB : Hid (b ≤ wr.heap.size) := Lib.hid (Nat.le_trans HR.out.lo (Nat.le_of_lt HR.out.blk.lt))
      have hs1 : b ≤ (wr.alloc (.cells #[.int .i64 (t1 : Int)] 3)).heap.size := Nat.le_trans HSB.out (al (Below.refl _ _) _).size
      clear ew j1 j2 h01 h02 hx2
      go_upto_region 12 with fail
      rw [EW.out]
      go_wp2_with (at_builtin; refine wpList_append_src _ rfl (.tmp 51) (.tmp 53) 38 rfl b 3 j0 (.int .i64 0) 8 Try.underlying38 HJ0.out hz0 hz1 hz2 (by rfl) _ i (tms l i) rfl (own_below HO.out (al (Below.refl _ _) _) (Nat.le_refl _)) (some ⟨wr.heap.size, 0, none⟩) 1 1 [.int .i64 (t1 : Int)] rfl (by rfl) (one_vat wr _ 3) (by simp [Value.oneCell']) (by unfold maxLen; omega) (by omega) hs1 ?_)
      intro v6 w6 hown6 hgrow6 hblk6
      obtain ⟨v6a, n6, c6, rfl⟩ := own_slice hown6
      have HO6 : Hid (w6.ownsRow b 3 1 (.slice v6a n6 c6) (i + 1) (tms l (i + 1))) := Lib.hid (by rw [tms_succ, ← HT1.out]; exact hown6)
      have hal : Below wr.heap.size wr (wr.alloc (.cells #[.int .i64 (t1 : Int)] 3)) := al (Below.refl _ _) _
      have hR6 := (HR.out.below hal (Nat.le_refl _)).aside (own_below HO.out hal (Nat.le_refl _)) (by decide) hgrow6
      have HR6 := Lib.hid hR6
      have HW6 : Hid (Below w.heap.size w w6) := Lib.hid ((HW.out.trans (hal.mono HW.out.size)).grown hgrow6 (Nat.le_trans HW.out.size hal.size) (fun k hk => Nat.le_trans HBW.out (HO.out.lt k hk).1))
      clear hown6 hgrow6 hblk6 hal hR6
      go_wp2_with fail
      refine (add_ex (r' := one (t1 : Int) (sT l no 0 (i + 1))) (by rw [HT1.out]; exact times_add (by omega)) (HR6.out.below (al (Below.refl _ _) _) (Nat.le_refl _)) (rT_ok hi60 hi60) (lit1n b w6 _ (by omega)) rfl (show 1 ≤ 100000 by decide) rT_drop).mono ?_
      rintro e w7 ⟨Y7, rfl, HR7, HF7⟩
      have HO7 : Hid (w7.ownsRow b 3 1 (.slice v6a n6 c6) (i + 1) (tms l (i + 1))) := Lib.hid (HF7.out.own (own_below HO6.out (al (Below.refl _ _) _) (Nat.le_refl _)) (by decide))
      have HW7 : Hid (Below w.heap.size w w7) := Lib.hid (HW6.out.trans (((al (Below.refl w6.heap.size w6) (.cells #[.int .u8 (i : Int)] 5)).mono HW6.out.size).trans ((HF7.out.toBelow (Nat.le_trans HR6.out.hi (al (Below.refl w6.heap.size w6) _).size)).mono HBW.out)))
      go_wp2_with fail
      go_roundw
      case rel => exact ⟨i + 1, Y7, by omega, by rw [← HT1.out], by go_num, HO7, by rw [← HT1.out]; exact HR7, HW7⟩
      case measure => simp [intOf]; omega
    · obtain rfl : n = i := by omega
      have g1 : ¬ (n : Int) < (n : Int) := by omega
      obtain ⟨d, hd, hcut, hiff⟩ := times_cut l n bf.toNat
      have HCUT := Lib.hid hcut
      have HIFF := Lib.hid hiff
      have hbf := bf.toNat_lt
      have hut := u.toNat_lt
      have hi60 : n ≤ 60 := by omega
      clear hcut hiff
      obtain ⟨vta, nT, cT, rfl⟩ := own_slice HO.out
      obtain ⟨hl3, aT, cT', he, hcT, hmT, hV, -⟩ := VAt.of_row HO.out
      simp only [Value.slice.injEq] at he
      obtain ⟨rfl, rfl, rfl⟩ := he
      rw [← hl3] at HO hcT ⊢
      clear hV hl3
      go_wp2_with fail
      refine (del_ex (times_delete (by omega) HCUT.out) HR.out (rT_ok hi60 hi60)).mono ?_
      rintro e w1 ⟨Y1, rfl, HR1, HF1⟩
      have HO1 : Hid (w1.ownsRow b 3 1 (.slice vta n cT) n (tms l n)) := Lib.hid (HF1.out.own HO.out (by decide))
      have HW1 : Hid (Below w.heap.size w w1) := Lib.hid (HW.out.trans ((HF1.out.toBelow HR.out.hi).mono HBW.out))
      go_wp2_with fail
      refine (rep_ex (times_replay (by omega) (by omega)) HR1.out (rT_ok hi60 hi60)).mono ?_
      rintro e w2 ⟨Y2, rfl, HR2, HF2⟩
      have HO2 : Hid (w2.ownsRow b 3 1 (.slice vta n cT) n (tms l n)) := Lib.hid (HF2.out.own HO1.out (by decide))
      have HW2 : Hid (Below w.heap.size w w2) := Lib.hid (HW1.out.trans ((HF2.out.toBelow HR1.out.hi).mono HBW.out))
      obtain ⟨ft, hft⟩ : ∃ t, t = f.toNat := ⟨_, rfl⟩
      obtain ⟨ut, hut2⟩ : ∃ t, t = u.toNat := ⟨_, rfl⟩
      obtain ⟨bt, hbt⟩ : ∃ t, t = bf.toNat := ⟨_, rfl⟩
      obtain ⟨now, hnow⟩ : ∃ t, t = (tmS l n : Int) := ⟨_, rfl⟩
      have HNOW := Lib.hid hnow
      rw [← hft, ← hut2, ← hnow] at HR2
      rw [← hbt] at HIFF
      rw [← hft, ← hut2, ← hbt]
      have hok : ∀ w, (one now (sT l w d n)).Ok := fun w => by rw [hnow]; exact rT_ok hi60 hi60
      have HOK := Lib.hid hok
      have hft8 : ft < 256 := by omega
      have hut8 : ut < 256 := by omega
      have hbt8 : bt < 256 := by omega
      clear hft hut2 hbt hnow hok hbf hut e2 hfu
      go_wp2_with fail
      go_loopw [14, 15] (fun v14 v15 wr => ∃ (i : Nat) (Y : List SM), i ≤ n ∧ v14 = .int .i64 ((i - d : Nat) : Int) ∧ v15 = .int .i64 (i : Int) ∧ Hid (wr.ownsRow b 3 1 (.slice vta n cT) n (tms l n)) ∧ Hid (RAt wr b rb (one now (sT l (wT l ft ut i) d n)) vS Y) ∧ Hid (Below w.heap.size w wr)) (fun _ v15 _ => n - (intOf v15).toNat)
      case atStart => exact ⟨0, Y2, Nat.zero_le _, by rw [Nat.zero_sub]; rfl, rfl, HO2, HR2, HW2⟩
      case round =>
        clear HO HR HW HO1 HO2 HR1 HR2 HF1 HF2 HW1 HW2
        obtain ⟨i, Y, hi, rfl, rfl, HO, HR, HW⟩ := hrel
        by_cases hlt : i < n
        · obtain ⟨hl3, aT, cT', he, -, hmT, hV, -⟩ := VAt.of_row HO.out
          simp only [Value.slice.injEq] at he
          obtain ⟨rfl, -, rfl⟩ := he
          obtain ⟨bT, oT, rfl, hbT, hcell⟩ := hV.get (i := i) (by simp [tms]; exact hlt)
          obtain ⟨t1, ht1⟩ : ∃ t, t = tmS l (i + 1) := ⟨_, rfl⟩
          have c1 : wr.cell? ⟨bT, oT + i, none⟩ = some (.int .i64 (t1 : Int)) := by rw [hcell, ht1]; simp [tms]
          have g1 : (i : Int) < (n : Int) := by omega
          have h1 := HIFF.out i hlt
          rw [← ht1] at h1
          have HT1 := Lib.hid ht1
          clear hcell hV hl3 ht1
          obtain ⟨ld, hld⟩ : ∃ x, x = i - d := ⟨_, rfl⟩
          rw [← hld]
          by_cases ht : t1 < bt
          · have k1 : (t1 : Int) < (bt : Int) := by omega
            have hid : i < d := h1.1 ht
            clear h1
            go_wp2_with fail
            go_roundw
            case rel => exact ⟨i + 1, Y, by omega, by rw [show i + 1 - d = ld by omega], by go_num, HO, by rw [← times_skip (.inl hid)]; exact HR, HW⟩
            case measure => simp [intOf]; omega
          · have k1 : ¬ (t1 : Int) < (bt : Int) := by omega
            have hid : ¬ i < d := fun h => ht (h1.2 h)
            have hld2 : i + 1 - d = ld + 1 := by omega
            have kl : (ld : Int) + 1 = ((ld + 1 : Nat) : Int) := by omega
            have HLD := Lib.hid hld2
            have hldn : ld ≤ 60 := by omega
            clear h1 hld hld2 kl
            by_cases hin : ft ≤ t1 ∧ t1 ≤ ut
            · have k2 : ¬ (t1 : Int) < (ft : Int) := by omega
              have k3 : ¬ (ut : Int) < (t1 : Int) := by omega
              go_wp2_with fail
              refine (next_byte (times_next (by omega) hlt (by rw [← HT1.out]; exact hin)) HR.out (HOK.out _)).mono ?_
              rintro e w3 ⟨g, off, c, Y3, rfl, hc1, hcb, HR3, HF3⟩
              have HO3 : Hid (w3.ownsRow b 3 1 (.slice (some ⟨bT, oT, none⟩) n cT) n (tms l n)) := Lib.hid (HF3.out.own HO.out (by decide))
              have HW3 : Hid (Below w.heap.size w w3) := Lib.hid (HW.out.trans ((HF3.out.toBelow HR.out.hi).mono HBW.out))
              rw [UInt8.toNat_ofNat', Nat.mod_eq_of_lt (show i < 2 ^ 8 by omega)] at hcb
              go_wp2_with fail
              go_roundw
              case rel => exact ⟨i + 1, Y3, by omega, by rw [HLD.out]; go_num, by go_num, HO3, HR3, HW3⟩
              case measure => simp [intOf]; omega
            · by_cases hft : t1 < ft
              · have k2 : (t1 : Int) < (ft : Int) := by omega
                go_wp2_with fail
                go_roundw
                case rel => exact ⟨i + 1, Y, by omega, by rw [HLD.out]; go_num, by go_num, HO, by rw [← times_skip (.inr (by rw [← HT1.out]; exact hin))]; exact HR, HW⟩
                case measure => simp [intOf]; omega
              · have k2 : ¬ (t1 : Int) < (ft : Int) := by omega
                have k3 : (ut : Int) < (t1 : Int) := by omega
                go_wp2_with fail
                go_roundw
                case rel => exact ⟨i + 1, Y, by omega, by rw [HLD.out]; go_num, by go_num, HO, by rw [← times_skip (.inr (by rw [← HT1.out]; exact hin))]; exact HR, HW⟩
                case measure => simp [intOf]; omega
        · obtain rfl : n = i := by omega
          have g1 : ¬ (n : Int) < (n : Int) := by omega
          go_wp2_with fail
          refine (next_no times_end HR.out (HOK.out _)).mono ?_
          rintro e w3 ⟨Y3, rfl, HR3, HF3⟩
          have HW3 : Hid (Below w.heap.size w w3) := Lib.hid (HW.out.trans ((HF3.out.toBelow HR.out.hi).mono HBW.out))
          go_wp2_with fail
          refine (level_ex times_level HR3.out (yl_of HR3.out (HOK.out _))).mono ?_
          rintro e w4 ⟨rfl, hB⟩
          have HR4 := Lib.hid (HR3.out.below hB (Nat.le_refl _))
          have HW4 : Hid (Below w.heap.size w w4) := Lib.hid (HW3.out.trans (hB.mono HW3.out.size))
          clear hB
          go_wp2_with fail
          refine (dropped_ex (one_dropped now (sT l (wT l ft ut n) d n)) HR4.out (yl_of HR4.out (HOK.out _))).mono ?_
          rintro e w5 ⟨rfl, hB⟩
          have HW5 : Hid (Below w.heap.size w w5) := Lib.hid (HW4.out.trans (hB.mono HW4.out.size))
          clear hB
          go_wp2_with fail
          refine (alive_any _).mono ?_
          rintro e w6 ⟨rfl, hB⟩
          have HW6 : Hid (Below w.heap.size w w6) := Lib.hid (HW5.out.trans (hB.mono HW5.out.size))
          clear hB
          go_wp2_with fail
          go_ret
          exact ⟨rfl, HW6.out⟩


set_option maxRecDepth 100000 in
theorem lifted (os : Os) (started : os.Started) (H : Type) (enc : TypeId × Value → H) :
    ReturnsInHanded {} Try.checked os 4 .any (Rows.recorderTimesSpec.pre6 enc Try.prog Try.f4 Rows.recorderTimesRow.domain false) (Rows.recorderTimesSpec.post enc Try.prog Try.f4 false true false false) := by
  refine returnsInHanded_of_change (C := Try.checked) own started (by kernel_rfl) Try.func4
    (ChangeSpec.witness6 (enc := enc) (C := Try.checked) false ⟨#[], #[.slice none 0 0, .int .u8 0, .int .u8 0, .int .u8 0], []⟩ 8 (by kernel_rfl) (by kernel_rfl) (by kernel_rfl) (by kernel_rfl)) ?_
  intro W base args ds gs before hval0 hW hcnd _
  have hval : ∀ (j : Nat) t v, Try.f4.params[j]? = some t → args[j]? = some v → Value.okWide Try.prog W .any base t v := hval0
  have hW' := hW
  obtain ⟨p, q, hA0, hV, rfl, hfz, hnd⟩ := hW
  have hA : DataW.TrodAll enc Try.prog W 0 (fun _ => true) true Try.f4.params.toList args.toList ds p := hA0
  rw [Try.params4] at hA hval
  obtain ⟨v0, vs0, d0, ds0, p0, q0, hargs, rfl, rfl, h0, r0⟩ := trodAll_cons hA
  obtain ⟨v1, vs1, d1, ds1, p1, q1, rfl, rfl, rfl, h1, r1⟩ := trodAll_cons r0
  obtain ⟨v2, vs2, d2, ds2, p2, q2, rfl, rfl, rfl, h2, r2⟩ := trodAll_cons r1
  obtain ⟨v3, vs3, d3, ds3, p3, q3, rfl, rfl, rfl, h3, r3⟩ := trodAll_cons r2
  obtain ⟨rfl, rfl, rfl⟩ := trodAll_nil r3
  obtain rfl : args = #[v0, v1, v2, v3] := by cases args; simp_all
  obtain ⟨rfl, rfl⟩ := trodVars_none hV
  have k0 := h0
  have lt0 : ∀ x ∈ p0, x.block < W.heap.size := by obtain ⟨m, hm⟩ := k0; exact DataW.trod_lt m _ _ _ hm
  obtain ⟨a1, rfl, rfl, rfl, w1⟩ := open_int Try.underlying5 (hval 1 5 v1 rfl rfl) h1
  obtain ⟨a2, rfl, rfl, rfl, w2⟩ := open_int Try.underlying5 (hval 2 5 v2 rfl rfl) h2
  obtain ⟨a3, rfl, rfl, rfl, w3⟩ := open_int Try.underlying5 (hval 3 5 v3 rfl rfl) h3
  clear hA0 hval0
  refine (walk v0 a1 a2 a3 W (hval 0 31 v0 rfl rfl) k0 w1 w2 w3).mono fun e W' ⟨he, bel⟩ => ?_
  subst he
  exact ⟨_, rfl, _, _, _, [], _, [], hW', trodAll_mk1 (shut_bool Try.underlying4 _), (trodAll_cons_mk (Below.trod laidOut (by kernel_rfl) (of_decide_eq_true (by kernel_rfl)) k0 bel lt0) (trodAll_cons_mk (shut_int Try.underlying5 w1) (trodAll_cons_mk (shut_int Try.underlying5 w2) (trodAll_cons_mk (shut_int Try.underlying5 w3) trodAll_mk0)))), rfl, bel.frame _, fun h => by cases h⟩

theorem over : Rows.recorderTimesRow.holds Try.pinned (OpenSpec.ofChange Rows.recorderTimesSpec) :=
  OpenClaim.holds_of_wide 4 Try.f4 rfl rfl rfl rfl rfl rfl rfl ⟨rfl, rfl, rfl, rfl, rfl⟩ rfl rfl rfl rfl rfl (by kernel_rfl) Try.func4 (by kernel_rfl)
    (of_decide_eq_true (by kernel_rfl)) (by unfold Func.isWrapper; first | (rw [if_pos (by decide +kernel)]; kernel_rfl) | (rw [if_neg (by decide +kernel)]; exact ⟨rfl, rfl⟩))
    (fun os started H enc _ => lifted os started H enc)

theorem proved : Rows.RecorderTimesSaid := over
#print axioms proved
end Go.Proofs.Ytnojmkmmfiahgaa.recorderTimes

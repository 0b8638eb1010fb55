/- The law RecorderKeeps holds: the walk, then the lift to the given statement. No condition. -/
import Derived.Test.YtnojmkmmfiahgaaW
import Derived.WalkKit
import Derived.ProofKit
import Derived.OpenShut
import Derived.Lib.Hide
import Derived.ChangeOld
import Derived.Below
import Derived.SizedLaws
namespace Go.Proofs.Ytnojmkmmfiahgaa.recorderKeeps
open Go.ChangeShapes Go.WideShapes Go.ChangeAt Go.RowKit
set_option linter.unusedVariables false
theorem own : ownKnob Try.prog.godebug = none := by kernel_rfl
theorem laidOut : laidOutB Try.prog = true := by kernel_rfl

theorem keeps_f {rm m lv : Nat} {circ : Bool} {X : List En} {x : List UInt8} (hF : rm < m ∨ circ = false ∧ rm < lv + m) (hm : m = x.length) (hl : lv = lvl X) : (rm : Int) < (x.length : Int) ∨ circ = false ∧ (rm : Int) < (lvl X + x.length : Nat) := by
  subst hm hl
  rcases hF with h | ⟨h, h2⟩
  · exact .inl (by omega)
  · exact .inr ⟨h, by omega⟩
theorem keeps_nf {rm m lv : Nat} {circ : Bool} {X : List En} {x : List UInt8} (hF : ¬ (rm < m ∨ circ = false ∧ rm < lv + m)) (hm : m = x.length) (hl : lv = lvl X) : ¬ ((rm : Int) < (x.length : Int) ∨ circ = false ∧ (rm : Int) < (lvl X + x.length : Nat)) := by
  subst hm hl
  rintro (h | ⟨h, h2⟩)
  · exact hF (.inl (by omega))
  · exact hF (.inr ⟨h, by omega⟩)
set_option maxRecDepth 20000 in
set_option maxHeartbeats 4000000 in
theorem walk {H : Type} {enc : TypeId × Value → H} (a0 : Int) (circ : Bool) (v2 : Value) (w : World) (w0 : (Lit.int .u8 a0).wf = true) {b2 : Nat} {d2 : DataW H} {p2 : List MemPlace} (ok2 : Value.okWide Try.prog w .any b2 22 v2) (tr2 : DataW.Trod enc Try.prog w 0 (fun _ => true) true 22 v2 d2 p2) : Calls Try.prog 3 #[.int .u8 a0, .bool circ, v2] w fun e w' => e = .returned (.bool true) ∧ Below w.heap.size w w' := by
  obtain ⟨L, hL⟩ := arg_lists Try.underlying22 (by kernel_rfl) Try.underlying31 Try.underlying5 (by kernel_rfl) ok2 tr2
  obtain ⟨rx, rfl⟩ := wf_u8 w0
  have hr8 := rx.toNat_lt
  obtain ⟨rm, hrm⟩ : ∃ rm, rm = rx.toNat := ⟨_, rfl⟩
  rw [← hrm] at hr8 ⊢
  clear w0 ok2 tr2 hrm
  obtain ⟨a, cap, rfl, hc, hm⟩ := hL.len
  have HL := Lib.hid hL
  clear hL
  obtain ⟨n, hn⟩ : ∃ n, n = L.length := ⟨_, rfl⟩
  rw [← hn] at hc HL ⊢
  by_cases hl : 60 < n
  · have e1 : (60 : Int) < (n : Int) := by omega
    clear hn
    go_enter Try.func3, Try.ntmps3
    go_wp2_with fail
    refine (alive_any _).mono ?_
    rintro e w9 ⟨rfl, hB⟩
    have HB9 := Lib.hid hB
    clear hB
    go_wp2_with fail
    go_ret
    exact ⟨rfl, HB9.out⟩
  have e1 : ¬ (60 : Int) < (n : Int) := by omega
  have HN := Lib.hid hn
  clear hn
  obtain ⟨j0, hj0, hz0, hz1, hz2⟩ := info_parts info31
  have HJ0 := Lib.hid hj0
  clear hj0
  obtain ⟨b, hbb⟩ : ∃ b, b = w.heap.size + 1 := ⟨_, rfl⟩
  have HBB := Lib.hid hbb
  clear hbb
  go_enter Try.func3, Try.ntmps3
  go_wp2_with fail
  refine (new_ok (ds := [⟨1, (rm : Int), 0, circ⟩]) (.inr ⟨_, _, rfl, by simp, fun i hi j hj => ?_⟩) rfl (Nat.le_refl _) (show 1 ≤ maxLen by decide) (fun i h => ?_) (show 1 ≤ 256 by decide)).mono ?_
  · obtain rfl : i = 0 := by simp at hi; omega
    have h9 := (Blk.new w 29 [.int .i64 1, .int .i64 (rm : Int), .int .i64 0, .bool circ]).cell j
    rw [show 0 + (0 * 4 + j) = j by omega]
    exact h9
  · obtain ⟨d, h1, h2⟩ := h
    obtain rfl : i = 0 := by have := (List.getElem?_eq_some_iff.1 h1).1; simp at this; omega
    simp at h1
    subst h1
    simp at h2
    omega
  rintro e w0 ⟨rb, vS, Y0, rfl, hR, hB⟩
  rw [show (w.alloc (.cells #[.int .i64 1, .int .i64 (rm : Int), .int .i64 0, .bool circ] 29)).heap.size = b by rw [HBB.out]; simp] at hR hB
  have HR0 : Hid (RAt w0 b rb (one ((0 : Nat) : Int) (sK (rm : Int) circ [] 0)) vS Y0) := Lib.hid hR
  have HB0 : Hid (Below w.heap.size w w0) := Lib.hid ((al (Below.refl _ _) _).trans (hB.mono (by rw [HBB.out]; omega)))
  have HBW : Hid (w.heap.size ≤ b) := Lib.hid (by rw [HBB.out]; omega)
  clear hR hB
  have hrr : (0 : Int) ≤ (rm : Int) ∧ (rm : Int) ≤ 255 := by omega
  go_wp2_with fail
  go_loopw [10, 11, 12, 13] (fun v10 v11 v12 v13 wr => ∃ (i now d : Nat) (X : List En) (us : List Value) (Y : List SM), i ≤ n ∧ now ≤ i ∧ d + X.length ≤ i ∧ v11 = .int .i64 (lvl X : Int) ∧ v12 = .int .i64 (d : Int) ∧ v13 = .int .i64 (i : Int) ∧ Hid (lvl X ≤ rm) ∧ Hid (KL X) ∧ Hid (∀ x ∈ X, 1 ≤ x.data.length ∧ x.data.length ≤ 20) ∧ Hid (OffRow wr b 31 v10 us) ∧ Hid (Sls w (fun k => w.heap.size ≤ k) us (X.map (·.data))) ∧ Hid (RAt wr b rb (one (now : Int) (sK (rm : Int) circ X d)) vS Y) ∧ Hid (Below w.heap.size w wr)) (fun _ _ _ v13 _ => n - (intOf v13).toNat)
  case atStart => exact ⟨0, 0, 0, [], [], Y0, Nat.zero_le _, Nat.zero_le _, Nat.le_refl _, rfl, rfl, rfl, Lib.hid (Nat.zero_le _), Lib.hid (fun x hx => by simp at hx), Lib.hid (fun x hx => by simp at hx), Lib.hid (.nil _ _ _), Lib.hid .nil, HR0, HB0⟩
  case round =>
    obtain ⟨i, now, d, X, us, Y, hi, hnow, hdX, rfl, rfl, rfl, HLV, HK, HE, HO, HU, HR, HW⟩ := hrel
    obtain ⟨lv, hlv⟩ : ∃ lv, lv = lvl X := ⟨_, rfl⟩
    have HLVL := Lib.hid hlv
    rw [← hlv]
    have hlr : lv ≤ rm := by rw [hlv]; exact HLV.out
    clear hlv
    obtain ⟨ak, ck, rfl, hck, hmk, hVk, -, -⟩ := HO.out.vat
    have hul : us.length = X.length := by have h9 := HU.out.1; rw [List.length_map] at h9; exact h9
    obtain ⟨nk, hnk⟩ : ∃ nk, nk = us.length := ⟨_, rfl⟩
    rw [← hnk] at HO hck ⊢
    have HNK := Lib.hid hnk
    have hnkX : nk = X.length := by omega
    have HNX := Lib.hid hnkX
    have hdn : d + nk ≤ i := by omega
    clear hVk hnk hul hnkX
    by_cases hlt : i < n
    · obtain ⟨bL, oL, cL, ax, cx, he, -, -, hbL, hcell, hxc, hxm, hxA, hxS⟩ := HL.out.get (i := i) (by rw [← HN.out]; exact hlt)
      simp only [Value.slice.injEq] at he
      obtain ⟨rfl, -, rfl⟩ := he
      obtain ⟨x, hx⟩ : ∃ x, x = L[i]'(by rw [← HN.out]; exact hlt) := ⟨_, rfl⟩
      rw [← hx] at hcell hxc hxA hxS
      obtain ⟨m, hmx⟩ : ∃ m, m = x.length := ⟨_, rfl⟩
      rw [← hmx] at hcell hxc
      have c1 : wr.cell? ⟨bL, oL + i, none⟩ = some (.slice ax m cx) := (HW.out.cell (p := ⟨bL, _, none⟩) hbL).trans hcell
      have g1 : (i : Int) < (n : Int) := by omega
      have HMX := Lib.hid hmx
      have HXA := Lib.hid hxA
      have HXS := Lib.hid hxS
      have HXC := Lib.hid hcell
      clear hcell hx hmx hxA hxS
      by_cases hm1 : m < 1
      · have k1 : (m : Int) < 1 := by omega
        go_wp2_with fail
        refine (alive_any _).mono ?_
        rintro e w9 ⟨rfl, hB⟩
        have HB9 := Lib.hid hB
        clear hB
        go_wp2_with fail
        go_ret
        exact ⟨rfl, HW.out.trans (HB9.out.mono HW.out.size)⟩
      by_cases hm2 : 20 < m
      · have k1 : ¬ (m : Int) < 1 := by omega
        have k2 : (20 : Int) < (m : Int) := by omega
        go_wp2_with fail
        refine (alive_any _).mono ?_
        rintro e w9 ⟨rfl, hB⟩
        have HB9 := Lib.hid hB
        clear hB
        go_wp2_with fail
        go_ret
        exact ⟨rfl, HW.out.trans (HB9.out.mono HW.out.size)⟩
      have k1 : ¬ (m : Int) < 1 := by omega
      have k2 : ¬ (20 : Int) < (m : Int) := by omega
      have HAB : Hid (AB b wr ax x) := Lib.hid ⟨HXA.out.below HW.out (Nat.le_refl _), fun q hq hne hk => HXS.out q hq hne (Nat.le_trans HBW.out hk.2)⟩
      have hi60 : i ≤ 60 := by omega
      have HRO : Hid ((one (now : Int) (sK (rm : Int) circ X d)).Ok) := Lib.hid (rK_ok (by omega) hrr HK.out (by have := HLV.out; omega) HE.out)
      obtain ⟨wo, hwo⟩ : ∃ wo, wo = wr := ⟨wr, rfl⟩
      subst hwo
      by_cases hF : rm < m ∨ circ = false ∧ rm < lv + m
      · have HFF := Lib.hid hF
        clear hF
        go_wp2_with fail
        refine (add_ex (keeps_full hnow hi60 (by rw [← HMX.out]; omega) (by rw [← HMX.out]; omega) (keeps_f HFF.out HMX.out HLVL.out)) HR.out HRO.out HAB.out HMX.out.symm (by omega) (sK_drop (by omega))).mono ?_
        rintro e w3 ⟨Y3, rfl, HR3, HF3⟩
        have HO3 : Hid (OffRow w3 b 31 (.slice ak nk ck) us) := Lib.hid (HF3.out.off HO.out (by decide))
        have HW3 : Hid (Below w.heap.size w w3) := Lib.hid (HW.out.trans ((HF3.out.toBelow HR.out.hi).mono HBW.out))
        have c3 : w3.cell? ⟨bL, oL + i, none⟩ = some (.slice ax m cx) := (HW3.out.cell (p := ⟨bL, _, none⟩) hbL).trans HXC.out
        go_wp2_with fail
        go_loopw [10, 11, 12] (fun v10 v11 v12 wr2 => v10 = .slice ak nk ck ∧ v11 = .int .i64 (lv : Int) ∧ v12 = .int .i64 (d : Int) ∧ Hid (wr2 = w3)) (fun _ _ _ _ => 0)
        case atStart => exact ⟨rfl, rfl, rfl, Lib.hid rfl⟩
        case round =>
          obtain ⟨rfl, rfl, rfl, hwr⟩ := hrel
          obtain rfl := hwr.out
          cases circ with
          | true =>
            have hrm : rm < m := by have := HFF.out; simp at this; exact this
            have q3 : (rm : Int) < (lv : Int) + (m : Int) := by omega
            by_cases h0 : nk = 0
            · have q1 : decide ((0 : Int) < (nk : Int)) = false := decide_eq_false (by omega)
              go_wp2_with fail
              go_roundw
              case rel => exact ⟨i + 1, i, d, X, us, Y3, by omega, by omega, by have := HNX.out; omega, by rw [← HLVL.out], rfl, by go_num, HLV, HK, HE, HO3, HU, HR3, HW3⟩
              case measure => simp [intOf]; omega
            · have q1 : decide ((0 : Int) < (nk : Int)) = true := decide_eq_true (by omega)
              have q2 : decide ((m : Int) ≤ (rm : Int)) = false := decide_eq_false (by omega)
              go_wp2_with fail
              go_roundw
              case rel => exact ⟨i + 1, i, d, X, us, Y3, by omega, by omega, by have := HNX.out; omega, by rw [← HLVL.out], rfl, by go_num, HLV, HK, HE, HO3, HU, HR3, HW3⟩
              case measure => simp [intOf]; omega
          | false =>
            have q3 : (rm : Int) < (lv : Int) + (m : Int) := by have := HFF.out; omega
            go_wp2_with fail
            go_roundw
            case rel => exact ⟨i + 1, i, d, X, us, Y3, by omega, by omega, by have := HNX.out; omega, by rw [← HLVL.out], rfl, by go_num, HLV, HK, HE, HO3, HU, HR3, HW3⟩
            case measure => simp [intOf]; omega
      · have HFF := Lib.hid hF
        have hmr : m ≤ rm := by omega
        obtain ⟨k, hkX, hsh, -⟩ := shed_sub x.length (rm : Int) X d
        have HSH := Lib.hid hsh
        have hkn : k ≤ nk := by rw [HNX.out]; exact hkX
        clear hF hsh hkX
        go_wp2_with fail
        refine (add_ex (keeps_add hnow hi60 (by rw [← HMX.out]; omega) (by rw [← HMX.out]; omega) (keeps_nf HFF.out HMX.out HLVL.out) HSH.out) HR.out HRO.out HAB.out HMX.out.symm (by omega) (sK_drop (by omega))).mono ?_
        rintro e w3 ⟨Y3, rfl, HR3, HF3⟩
        have HO3 : Hid (OffRow w3 b 31 (.slice ak nk ck) us) := Lib.hid (HF3.out.off HO.out (by decide))
        have HW3 : Hid (Below w.heap.size w w3) := Lib.hid (HW.out.trans ((HF3.out.toBelow HR.out.hi).mono HBW.out))
        have c3 : w3.cell? ⟨bL, oL + i, none⟩ = some (.slice ax m cx) := (HW3.out.cell (p := ⟨bL, _, none⟩) hbL).trans HXC.out
        go_wp2_with fail
        go_loopw [10, 11, 12] (fun v10 v11 v12 wr2 => ∃ j : Nat, j ≤ nk ∧ v11 = .int .i64 (lvl (X.drop j) : Int) ∧ v12 = .int .i64 ((d + j : Nat) : Int) ∧ Hid (OffRow wr2 b 31 v10 (us.drop j)) ∧ Hid (shed x.length (rm : Int) X d = shed x.length (rm : Int) (X.drop j) (d + j)) ∧ Hid (wr2 = w3)) (fun _ _ v12 _ => d + nk - (intOf v12).toNat)
        case atStart => exact ⟨0, Nat.zero_le _, by rw [HLVL.out]; rfl, rfl, HO3, Lib.hid rfl, Lib.hid rfl⟩
        case round =>
          obtain ⟨j, hj, rfl, rfl, HOj, HSj, hwr⟩ := hrel
          obtain rfl := hwr.out
          clear HO3 hwr
          obtain ⟨lj, hlj⟩ : ∃ l, l = lvl (X.drop j) := ⟨_, rfl⟩
          have hljv : lj ≤ lv := by rw [hlj, HLVL.out]; exact lvl_drop X j
          rw [← hlj]
          have HLJ := Lib.hid hlj
          obtain ⟨dj, hdj⟩ : ∃ x, x = d + j := ⟨_, rfl⟩
          rw [← hdj]
          have HDJ := Lib.hid hdj
          have hdj60 : dj ≤ 60 := by omega
          obtain ⟨aj, cj, rfl, hcj, hmj, hVj, -, -⟩ := HOj.out.vat
          have hnj0 : (us.drop j).length = nk - j := by rw [List.length_drop, ← HNK.out]
          obtain ⟨nj, hnj⟩ : ∃ x, x = nk - j := ⟨_, rfl⟩
          rw [hnj0, ← hnj] at HOj hcj ⊢
          have HVJ := Lib.hid hVj
          have HNJ := Lib.hid hnj
          clear hlj hdj hVj
          by_cases hov : rm < lj + m
          · have hct : circ = true := by
              cases circ with
              | true => rfl
              | false => exact absurd (.inr ⟨rfl, by omega⟩) HFF.out
            subst hct
            have hjn : j < X.length := by
              rw [← HNX.out]
              by_cases e : j < nk
              · exact e
              · exfalso
                have h9 := HLJ.out
                rw [List.drop_of_length_le (by rw [← HNX.out]; omega)] at h9
                simp only [lvl] at h9
                omega
            obtain ⟨x0, hx0⟩ : ∃ x, X[j]? = some x := ⟨_, List.getElem?_eq_getElem hjn⟩
            have hh := lvl_head hx0
            have hjk : j < nk := by rw [HNX.out]; exact hjn
            have hdc : X.drop j = x0 :: X.drop (j + 1) := by
              obtain ⟨_, rfl⟩ := List.getElem?_eq_some_iff.1 hx0
              exact List.drop_eq_getElem_cons hjn
            obtain ⟨u0, hu0, a0, c0, rfl, -, -, -, -⟩ := HU.out.2 j (by rw [List.length_map]; exact hjn)
            have hml : (X.map (·.data))[j]'(by rw [List.length_map]; exact hjn) = x0.data := by rw [List.getElem_map, (List.getElem?_eq_some_iff.1 hx0).2]
            rw [hml] at hu0
            obtain ⟨m0, hm0⟩ : ∃ x, x = x0.data.length := ⟨_, rfl⟩
            obtain ⟨l1, hl1⟩ : ∃ x, x = lvl (X.drop (j + 1)) := ⟨_, rfl⟩
            rw [← hm0] at hu0 hh
            rw [← hl1, ← HLJ.out] at hh
            have hjl : j < us.length := (List.getElem?_eq_some_iff.1 hu0).1
            have hud : us.drop j = .slice a0 m0 c0 :: us.drop (j + 1) := by
              rw [← (List.getElem?_eq_some_iff.1 hu0).2]
              exact List.drop_eq_getElem_cons hjl
            obtain ⟨gE, oE, rfl, hgE, hcell⟩ := HVJ.out.get (i := 0) (by rw [hnj0]; exact Nat.sub_pos_of_lt hjk)
            have cg : wr.cell? ⟨gE, oE, none⟩ = some (.slice a0 m0 c0) := by rw [Nat.add_zero] at hcell; rw [hcell]; simp [hud]
            have htl := HOj.out
            rw [hud] at htl
            obtain ⟨ht, hn1, hnc⟩ := OffRow.tail htl
            have HT := Lib.hid ht
            have HSN : Hid (shed x.length (rm : Int) X d = shed x.length (rm : Int) (X.drop (j + 1)) (d + (j + 1))) := Lib.hid (by
              rw [HSj.out, shed_go hdc (by rw [← HLJ.out, ← HMX.out]; omega)]
              rfl)
            have HL1 := Lib.hid hl1
            have hdj1 : dj + 1 = d + (j + 1) := by rw [HDJ.out]; omega
            have HDJ1 := Lib.hid hdj1
            have q1 : decide ((0 : Int) < (nj : Int)) = true := decide_eq_true (by omega)
            have q2 : decide ((m : Int) ≤ (rm : Int)) = true := decide_eq_true (by omega)
            have q3 : (rm : Int) < (lj : Int) + (m : Int) := by omega
            have i1 : (0 : Int) < (nj : Int) := by omega
            have i2 : (1 : Int) ≤ (nj : Int) := by omega
            have i3 : (1 : Int) ≤ (cj : Int) := by omega
            have jl : (lj : Int) - (m0 : Int) = (l1 : Int) := by omega
            have hjn2 : j + 1 ≤ nk := by omega
            have hl1b : l1 ≤ 255 := by omega
            clear hh hx0 hdc hu0 hml hm0 hud hcell htl ht hn1 hl1 hdj1 hjl hjn hnj0 hnj
            by_cases hc1 : cj = 1
            · have p1 : (cj : Int) = 1 := by omega
              subst hc1
              have hn1 : nj = 1 := by omega
              subst hn1
              have HT2 : Hid (OffRow wr b 31 (.slice (some ⟨gE, oE, none⟩) 0 0) (us.drop (j + 1))) := Lib.hid (by have h9 := HT.out; rw [if_pos rfl] at h9; exact h9)
              go_wp2_with fail
              go_roundw
              case rel => exact ⟨j + 1, hjn2, by rw [← HL1.out], by rw [← HDJ1.out]; go_num, HT2, HSN, (by first | exact Lib.hid rfl | exact Lib.hid trivial)⟩
              case measure => have h8 := HDJ.out; have h7 := HNJ.out; simp [intOf]; omega
            · have p1 : ¬ (cj : Int) = 1 := by omega
              have HT2 : Hid (OffRow wr b 31 (.slice (some ⟨gE, oE + 1, none⟩) (nj - 1) (cj - 1)) (us.drop (j + 1))) := Lib.hid (by have h9 := HT.out; rw [if_neg hc1] at h9; exact h9)
              go_wp2_with fail
              go_roundw
              case rel => exact ⟨j + 1, hjn2, by rw [← HL1.out], by rw [← HDJ1.out]; go_num, HT2, HSN, (by first | exact Lib.hid rfl | exact Lib.hid trivial)⟩
              case measure => have h8 := HDJ.out; have h7 := HNJ.out; simp [intOf]; omega
          · have hjk : k = j := by
              have h9 := HSH.out
              rw [HSj.out, shed_stop (by rw [← HLJ.out, ← HMX.out]; omega)] at h9
              have := congrArg Prod.snd h9
              dsimp only at this
              omega
            subst hjk
            have q3 : ¬ (rm : Int) < (lj : Int) + (m : Int) := by omega
            have hsz : b ≤ (wr.alloc (.cells #[.slice ax m cx] 31)).heap.size := Nat.le_trans HR3.out.hi (al (Below.refl _ _) _).size
            have hnb : (us.drop k).length ≤ 60 := by rw [hnj0]; omega
            clear hnj0 hnj
            cases circ with
            | true =>
              by_cases h0 : nj = 0
              · subst h0
                go_wp2_with (at_builtin; refine wpList_append_off _ rfl (.tmp 112) (.tmp 117) 22 rfl b 31 j0 (.slice none 0 0) 24 Try.underlying22 HJ0.out hz0 hz1 hz2 (by rfl) _ (us.drop k) rfl (HOj.out.below (al (Below.refl _ _) _) (Nat.le_refl _)) (some ⟨wr.heap.size, 0, none⟩) 1 1 [.slice ax m cx] rfl (by rfl) (one_vat wr _ 31) (by simp [Value.oneCell']) (by unfold maxLen; omega) (by omega) hsz ?_)
                intro v8 w8 hown8 hgrow8 hblk8
                obtain ⟨a8, n8, c8, rfl⟩ := off_slice hown8
                have hal : Below wr.heap.size wr (wr.alloc (.cells #[.slice ax m cx] 31)) := al (Below.refl _ _) _
                have HR8 := Lib.hid ((HR3.out.below hal (Nat.le_refl _)).asideO (HOj.out.below hal (Nat.le_refl _)) (by decide) hgrow8)
                have HO8 := Lib.hid hown8
                have HW8 : Hid (Below w.heap.size w w8) := Lib.hid ((HW3.out.trans (hal.mono HW3.out.size)).grown hgrow8 (Nat.le_trans HW3.out.size hal.size) (fun q hq => Nat.le_trans HBW.out (HOj.out.lt q hq).1))
                have c8 : w8.cell? ⟨bL, oL + i, none⟩ = some (.slice ax m cx) := (HW8.out.cell (p := ⟨bL, _, none⟩) hbL).trans HXC.out
                have HE8 : Hid (∀ y ∈ X.drop k ++ [(⟨(i : Int), x, false⟩ : En)], 1 ≤ y.data.length ∧ y.data.length ≤ 20) := Lib.hid (fun y hy => by
                  rcases List.mem_append.1 hy with e | e
                  · exact HE.out y (List.mem_of_mem_drop e)
                  · rw [List.mem_singleton] at e; subst e; rw [← HMX.out]; omega)
                have HL8 : Hid (lvl (X.drop k ++ [(⟨(i : Int), x, false⟩ : En)]) = lj + m) := Lib.hid (by rw [lvl_append, ← HLJ.out, HMX.out]; rfl)
                have HK8 : Hid (KL (X.drop k ++ [(⟨(i : Int), x, false⟩ : En)])) := Lib.hid ((HK.out.drop k).snoc x hi60)
                have HU8 : Hid (Sls w (fun k => w.heap.size ≤ k) (us.drop k ++ [.slice ax m cx]) ((X.drop k ++ [(⟨(i : Int), x, false⟩ : En)]).map (·.data))) := Lib.hid (by
                  rw [List.map_append, keeps_bytes]
                  exact (HU.out.drop k).append (Sls.one ⟨ax, cx, by rw [HMX.out], by rw [← HMX.out]; exact hxc, hxm, HXA.out, HXS.out⟩))
                have hlv8 : (one (i : Int) (sK (rm : Int) true (X.drop k ++ [(⟨(i : Int), x, false⟩ : En)]) (d + k))).level 1 = (lj : Int) + (m : Int) := (one_level _ _).trans (by
                  show ((lvl (X.drop k ++ [(⟨(i : Int), x, false⟩ : En)]) : Nat) : Int) = _
                  rw [HL8.out]; omega)
                have HLV8 := Lib.hid hlv8
                have HRK8 := Lib.hid (yl_of HR8.out (rK_ok (by omega) hrr HK8.out (by rw [HL8.out]; omega) HE8.out))
                clear hown8 hgrow8 hblk8 hal hlv8 q3
                go_wp2_with fail
                refine (level_ex HLV8.out HR8.out HRK8.out).mono ?_
                rintro e w9 ⟨rfl, hB⟩
                have HR9 := Lib.hid (HR8.out.below hB (Nat.le_refl _))
                have HO9 := Lib.hid (HO8.out.below hB (Nat.le_refl _))
                have HW9 : Hid (Below w.heap.size w w9) := Lib.hid (HW8.out.trans (hB.mono HW8.out.size))
                clear hB
                go_wp2_with fail
                go_roundw
                case rel => exact ⟨i + 1, i, d + k, _, _, _, by omega, by omega, by rw [List.length_append, List.length_drop, ← HNX.out]; simp; omega, by rw [HL8.out]; go_num, by rw [← HDJ.out], by go_num, Lib.hid (by rw [HL8.out]; omega), HK8, HE8, HO9, HU8, HR9, HW9⟩
                case measure => simp [intOf]; omega
              · have q1 : decide ((0 : Int) < (nj : Int)) = true := decide_eq_true (by omega)
                have q2 : decide ((m : Int) ≤ (rm : Int)) = true := decide_eq_true (by omega)
                go_wp2_with (at_builtin; refine wpList_append_off _ rfl (.tmp 112) (.tmp 117) 22 rfl b 31 j0 (.slice none 0 0) 24 Try.underlying22 HJ0.out hz0 hz1 hz2 (by rfl) _ (us.drop k) rfl (HOj.out.below (al (Below.refl _ _) _) (Nat.le_refl _)) (some ⟨wr.heap.size, 0, none⟩) 1 1 [.slice ax m cx] rfl (by rfl) (one_vat wr _ 31) (by simp [Value.oneCell']) (by unfold maxLen; omega) (by omega) hsz ?_)
                intro v8 w8 hown8 hgrow8 hblk8
                obtain ⟨a8, n8, c8, rfl⟩ := off_slice hown8
                have hal : Below wr.heap.size wr (wr.alloc (.cells #[.slice ax m cx] 31)) := al (Below.refl _ _) _
                have HR8 := Lib.hid ((HR3.out.below hal (Nat.le_refl _)).asideO (HOj.out.below hal (Nat.le_refl _)) (by decide) hgrow8)
                have HO8 := Lib.hid hown8
                have HW8 : Hid (Below w.heap.size w w8) := Lib.hid ((HW3.out.trans (hal.mono HW3.out.size)).grown hgrow8 (Nat.le_trans HW3.out.size hal.size) (fun q hq => Nat.le_trans HBW.out (HOj.out.lt q hq).1))
                have c8 : w8.cell? ⟨bL, oL + i, none⟩ = some (.slice ax m cx) := (HW8.out.cell (p := ⟨bL, _, none⟩) hbL).trans HXC.out
                have HE8 : Hid (∀ y ∈ X.drop k ++ [(⟨(i : Int), x, false⟩ : En)], 1 ≤ y.data.length ∧ y.data.length ≤ 20) := Lib.hid (fun y hy => by
                  rcases List.mem_append.1 hy with e | e
                  · exact HE.out y (List.mem_of_mem_drop e)
                  · rw [List.mem_singleton] at e; subst e; rw [← HMX.out]; omega)
                have HL8 : Hid (lvl (X.drop k ++ [(⟨(i : Int), x, false⟩ : En)]) = lj + m) := Lib.hid (by rw [lvl_append, ← HLJ.out, HMX.out]; rfl)
                have HK8 : Hid (KL (X.drop k ++ [(⟨(i : Int), x, false⟩ : En)])) := Lib.hid ((HK.out.drop k).snoc x hi60)
                have HU8 : Hid (Sls w (fun k => w.heap.size ≤ k) (us.drop k ++ [.slice ax m cx]) ((X.drop k ++ [(⟨(i : Int), x, false⟩ : En)]).map (·.data))) := Lib.hid (by
                  rw [List.map_append, keeps_bytes]
                  exact (HU.out.drop k).append (Sls.one ⟨ax, cx, by rw [HMX.out], by rw [← HMX.out]; exact hxc, hxm, HXA.out, HXS.out⟩))
                have hlv8 : (one (i : Int) (sK (rm : Int) true (X.drop k ++ [(⟨(i : Int), x, false⟩ : En)]) (d + k))).level 1 = (lj : Int) + (m : Int) := (one_level _ _).trans (by
                  show ((lvl (X.drop k ++ [(⟨(i : Int), x, false⟩ : En)]) : Nat) : Int) = _
                  rw [HL8.out]; omega)
                have HLV8 := Lib.hid hlv8
                have HRK8 := Lib.hid (yl_of HR8.out (rK_ok (by omega) hrr HK8.out (by rw [HL8.out]; omega) HE8.out))
                clear hown8 hgrow8 hblk8 hal hlv8 q3
                go_wp2_with fail
                refine (level_ex HLV8.out HR8.out HRK8.out).mono ?_
                rintro e w9 ⟨rfl, hB⟩
                have HR9 := Lib.hid (HR8.out.below hB (Nat.le_refl _))
                have HO9 := Lib.hid (HO8.out.below hB (Nat.le_refl _))
                have HW9 : Hid (Below w.heap.size w w9) := Lib.hid (HW8.out.trans (hB.mono HW8.out.size))
                clear hB
                go_wp2_with fail
                go_roundw
                case rel => exact ⟨i + 1, i, d + k, _, _, _, by omega, by omega, by rw [List.length_append, List.length_drop, ← HNX.out]; simp; omega, by rw [HL8.out]; go_num, by rw [← HDJ.out], by go_num, Lib.hid (by rw [HL8.out]; omega), HK8, HE8, HO9, HU8, HR9, HW9⟩
                case measure => simp [intOf]; omega
            | false =>
              go_wp2_with (at_builtin; refine wpList_append_off _ rfl (.tmp 112) (.tmp 117) 22 rfl b 31 j0 (.slice none 0 0) 24 Try.underlying22 HJ0.out hz0 hz1 hz2 (by rfl) _ (us.drop k) rfl (HOj.out.below (al (Below.refl _ _) _) (Nat.le_refl _)) (some ⟨wr.heap.size, 0, none⟩) 1 1 [.slice ax m cx] rfl (by rfl) (one_vat wr _ 31) (by simp [Value.oneCell']) (by unfold maxLen; omega) (by omega) hsz ?_)
              intro v8 w8 hown8 hgrow8 hblk8
              obtain ⟨a8, n8, c8, rfl⟩ := off_slice hown8
              have hal : Below wr.heap.size wr (wr.alloc (.cells #[.slice ax m cx] 31)) := al (Below.refl _ _) _
              have HR8 := Lib.hid ((HR3.out.below hal (Nat.le_refl _)).asideO (HOj.out.below hal (Nat.le_refl _)) (by decide) hgrow8)
              have HO8 := Lib.hid hown8
              have HW8 : Hid (Below w.heap.size w w8) := Lib.hid ((HW3.out.trans (hal.mono HW3.out.size)).grown hgrow8 (Nat.le_trans HW3.out.size hal.size) (fun q hq => Nat.le_trans HBW.out (HOj.out.lt q hq).1))
              have c8 : w8.cell? ⟨bL, oL + i, none⟩ = some (.slice ax m cx) := (HW8.out.cell (p := ⟨bL, _, none⟩) hbL).trans HXC.out
              have HE8 : Hid (∀ y ∈ X.drop k ++ [(⟨(i : Int), x, false⟩ : En)], 1 ≤ y.data.length ∧ y.data.length ≤ 20) := Lib.hid (fun y hy => by
                rcases List.mem_append.1 hy with e | e
                · exact HE.out y (List.mem_of_mem_drop e)
                · rw [List.mem_singleton] at e; subst e; rw [← HMX.out]; omega)
              have HL8 : Hid (lvl (X.drop k ++ [(⟨(i : Int), x, false⟩ : En)]) = lj + m) := Lib.hid (by rw [lvl_append, ← HLJ.out, HMX.out]; rfl)
              have HK8 : Hid (KL (X.drop k ++ [(⟨(i : Int), x, false⟩ : En)])) := Lib.hid ((HK.out.drop k).snoc x hi60)
              have HU8 : Hid (Sls w (fun k => w.heap.size ≤ k) (us.drop k ++ [.slice ax m cx]) ((X.drop k ++ [(⟨(i : Int), x, false⟩ : En)]).map (·.data))) := Lib.hid (by
                rw [List.map_append, keeps_bytes]
                exact (HU.out.drop k).append (Sls.one ⟨ax, cx, by rw [HMX.out], by rw [← HMX.out]; exact hxc, hxm, HXA.out, HXS.out⟩))
              have hlv8 : (one (i : Int) (sK (rm : Int) false (X.drop k ++ [(⟨(i : Int), x, false⟩ : En)]) (d + k))).level 1 = (lj : Int) + (m : Int) := (one_level _ _).trans (by
                show ((lvl (X.drop k ++ [(⟨(i : Int), x, false⟩ : En)]) : Nat) : Int) = _
                rw [HL8.out]; omega)
              have HLV8 := Lib.hid hlv8
              have HRK8 := Lib.hid (yl_of HR8.out (rK_ok (by omega) hrr HK8.out (by rw [HL8.out]; omega) HE8.out))
              clear hown8 hgrow8 hblk8 hal hlv8 q3
              go_wp2_with fail
              refine (level_ex HLV8.out HR8.out HRK8.out).mono ?_
              rintro e w9 ⟨rfl, hB⟩
              have HR9 := Lib.hid (HR8.out.below hB (Nat.le_refl _))
              have HO9 := Lib.hid (HO8.out.below hB (Nat.le_refl _))
              have HW9 : Hid (Below w.heap.size w w9) := Lib.hid (HW8.out.trans (hB.mono HW8.out.size))
              clear hB
              go_wp2_with fail
              go_roundw
              case rel => exact ⟨i + 1, i, d + k, _, _, _, by omega, by omega, by rw [List.length_append, List.length_drop, ← HNX.out]; simp; omega, by rw [HL8.out]; go_num, by rw [← HDJ.out], by go_num, Lib.hid (by rw [HL8.out]; omega), HK8, HE8, HO9, HU8, HR9, HW9⟩
              case measure => simp [intOf]; omega
    · obtain rfl : n = i := by omega
      have g1 : ¬ (n : Int) < (n : Int) := by omega
      have HRO : ∀ X' : List En, X' = X ∨ (∃ i, X' = wantK X i) → (one (now : Int) (sK (rm : Int) circ X' d)).Ok := fun X' h => by
        rcases h with h | ⟨i, h⟩
        · subst h; exact rK_ok (by omega) hrr HK.out (by rw [← HLVL.out]; omega) HE.out
        · subst h; exact wK_ok (by omega) hrr HK.out (by rw [← HLVL.out]; omega) HE.out
      have HOK := Lib.hid HRO
      obtain ⟨ni, hni⟩ : ∃ x : Int, x = (now : Int) := ⟨_, rfl⟩
      rw [← hni] at HR HOK
      clear HRO hni
      go_wp2_with fail
      go_loopw [15] (fun v15 wr2 => ∃ (g : Nat) (Y : List SM), g ≤ 2 ∧ v15 = .int .i64 (g : Int) ∧ Hid (OffRow wr2 b 31 (.slice ak nk ck) us) ∧ Hid (RAt wr2 b rb (one ni (sK (rm : Int) circ X d)) vS Y) ∧ Hid (Below w.heap.size w wr2)) (fun v15 _ => 2 - (intOf v15).toNat)
      case atStart => exact ⟨0, Y, by omega, rfl, HO, HR, HW⟩
      case round =>
        clear HO HR HW
        obtain ⟨g, Y, hg, rfl, HO, HR, HW⟩ := hrel
        by_cases hg2 : g < 2
        · have g2 : (g : Int) < 2 := by omega
          go_wp2_with fail
          refine (rep_ex (keeps_rep (now := ni) (u := 100) HK.out (by decide) (by decide)) HR.out (HOK.out _ (.inl rfl))).mono ?_
          rintro e w1 ⟨Y1, rfl, HR1, HF1⟩
          have HO1 := Lib.hid (HF1.out.off HO.out (by decide))
          have HW1 : Hid (Below w.heap.size w w1) := Lib.hid (HW.out.trans ((HF1.out.toBelow HR.out.hi).mono HBW.out))
          go_wp2_with fail
          refine (rep_ex (keeps_rep2 (now := ni) (u := 1099511627776) (by decide) (by decide)) HR1.out (HOK.out _ (.inr ⟨_, rfl⟩))).mono ?_
          rintro e w2 ⟨Y2, rfl, HR2, HF2⟩
          have HO2 := Lib.hid (HF2.out.off HO1.out (by decide))
          have HW2 : Hid (Below w.heap.size w w2) := Lib.hid (HW1.out.trans ((HF2.out.toBelow HR1.out.hi).mono HBW.out))
          obtain ⟨wo, hwo⟩ : ∃ wo, wo = wr := ⟨wr, rfl⟩
          subst hwo
          go_wp2_with fail
          go_loopw [16] (fun v16 wr2 => ∃ (q : Nat) (Y : List SM), q ≤ nk ∧ v16 = .int .i64 (q : Int) ∧ Hid (OffRow wr2 b 31 (.slice ak nk ck) us) ∧ Hid (RAt wr2 b rb (one ni (sK (rm : Int) circ (wantK X q) d)) vS Y) ∧ Hid (Below w.heap.size w wr2)) (fun v16 _ => nk - (intOf v16).toNat)
          case atStart => exact ⟨0, Y2, by omega, rfl, HO2, HR2, HW2⟩
          case round =>
            clear HO HR HW HO1 HR1 HW1 HO2 HR2 HW2 HF1 HF2
            obtain ⟨q, Y, hq, rfl, HO, HR, HW⟩ := hrel
            by_cases hqn : q < nk
            · have g3 : (q : Int) < (nk : Int) := by omega
              obtain ⟨x0, hx0⟩ : ∃ x, X[q]? = some x := ⟨_, List.getElem?_eq_getElem (by rw [← HNX.out]; exact hqn)⟩
              have HX0 := Lib.hid hx0
              clear hx0
              go_wp2_with fail
              refine (next_ex (keeps_next HX0.out) HR.out (HOK.out _ (.inr ⟨_, rfl⟩))).mono ?_
              rintro e w1 ⟨a1, m1, c1, Y1, rfl, HOW1, HR1, HF1⟩
              have HO1 := Lib.hid (HF1.out.off HO.out (by decide))
              have HW1 : Hid (Below w.heap.size w w1) := Lib.hid (HW.out.trans ((HF1.out.toBelow HR.out.hi).mono HBW.out))
              obtain ⟨u0, hu0, a0, c0, rfl, -, -, hxb, -⟩ := HU.out.2 q (by rw [List.length_map, ← HNX.out]; exact hqn)
              have hml : (X.map (·.data))[q]'(by rw [List.length_map, ← HNX.out]; exact hqn) = x0.data := by rw [List.getElem_map, (List.getElem?_eq_some_iff.1 HX0.out).2]
              rw [hml] at hu0 hxb
              have hxb1 := hxb.below HW1.out (Nat.le_refl _)
              obtain ⟨aK, cK, he, -, -, hVk, -, -⟩ := HO1.out.vat
              simp only [Value.slice.injEq] at he
              obtain ⟨rfl, -, rfl⟩ := he
              obtain ⟨gE, oE, rfl, hgE, hcell⟩ := hVk.get (i := q) (by rw [← HNK.out]; exact hqn)
              have cg : w1.cell? ⟨gE, oE + q, none⟩ = some (.slice a0 x0.data.length c0) := by
                rw [hcell, (List.getElem?_eq_some_iff.1 hu0).2]
              have HOWd : Hid (w1.drew.ownsRow wr.heap.size 5 1 (.slice a1 m1 c1) x0.data.length (encB x0.data)) := HOW1
              have hbd : BAt w1.drew a0 x0.data := hxb1
              have s1 := own_str HOW1.out
              have s2 := str_n x0.data.length c0 rfl hxb1
              have s3 := own_str HOWd.out
              have s4 := str_n x0.data.length c0 rfl hbd
              obtain ⟨m0, hm0⟩ : ∃ x, x = x0.data.length := ⟨_, rfl⟩
              obtain ⟨ss, hss⟩ : ∃ x, x = (⟨x0.data.toArray⟩ : ByteArray) := ⟨_, rfl⟩
              rw [← hm0] at cg s2 s4
              rw [← hss] at s1 s2 s3 s4
              clear hu0 hml hxb hxb1 hVk hcell hbd hm0 hss
              go_upto_region 36 with fail
              refine wp_region_held_drew (S := (fun w' => (convert 31 9 (.slice a1 m1 c1)).run Try.prog w' = .ok (.string ss) w' ∧ (convert 31 9 (.slice a0 m0 c0)).run Try.prog w' = .ok (.string ss) w' ∧ w'.cell? ⟨gE, oE + q, none⟩ = some (.slice a0 m0 c0))) (by kernel_rfl) (by (try dsimp only); (first | exact ⟨by assumption, by assumption, by assumption⟩ | go_keep)) (fun hHeld => ?_)
              refine wpAnyH_take (i := 0) (oi := (Oper.mk (some 157) (Op.move (Operand.tmp 18)) 4 "law.go:124" #[] none)) (v := ?_) rfl (by kernel_rfl) (by kernel_rfl) (by kernel_rfl) (fun _ _ _ h => h) (Or.inl ⟨by rfl, ?_⟩) (by assumption) ?_
              rotate_left
              · (intro w hSw; (try dsimp only at hSw); go_simp; first | done | with_reducible rfl)
              (try simp only [Act.put, List.setIfInBounds_toArray, List.set_cons_zero, List.set_cons_succ])
              refine wpAnyH_take (i := 1) (oi := (Oper.mk (some 158) (Op.unOp UnOp.not 4 (Operand.tmp 157)) 4 "law.go:124" #[Edge.mk 0 Ground.data] none)) (v := ?_) rfl (by kernel_rfl) (by kernel_rfl) (by kernel_rfl) (fun _ _ _ h => h) (Or.inl ⟨by rfl, ?_⟩) (by assumption) ?_
              rotate_left
              · (intro w hSw; (try dsimp only at hSw); go_simp; first | done | with_reducible rfl)
              (try simp only [Act.put, List.setIfInBounds_toArray, List.set_cons_zero, List.set_cons_succ])
              refine wpAnyH_take (i := 2) (oi := (Oper.mk (some 159) (Op.move (Operand.tmp 158)) 4 "law.go:124" #[Edge.mk 1 Ground.data] none)) (v := ?_) rfl (by kernel_rfl) (by kernel_rfl) (by kernel_rfl) (fun _ _ _ h => h) (Or.inl ⟨by rfl, ?_⟩) (by assumption) ?_
              rotate_left
              · (intro w hSw; (try dsimp only at hSw); go_simp; first | done | with_reducible rfl)
              (try simp only [Act.put, List.setIfInBounds_toArray, List.set_cons_zero, List.set_cons_succ])
              refine wpAnyH_take (i := 3) (oi := (Oper.mk (some 160) (Op.move (Operand.tmp 17)) 31 "law.go:124" #[Edge.mk 2 Ground.guard] (some (2, false)))) (v := ?_) rfl (by kernel_rfl) (by kernel_rfl) (by kernel_rfl) (fun _ _ _ h => h) (Or.inl ⟨by rfl, ?_⟩) (by assumption) ?_
              rotate_left
              · (intro w hSw; (try dsimp only at hSw); go_simp; first | done | with_reducible rfl)
              (try simp only [Act.put, List.setIfInBounds_toArray, List.set_cons_zero, List.set_cons_succ])
              refine wpAnyH_take (i := 4) (oi := (Oper.mk (some 161) (Op.convert 31 9 (Operand.tmp 160)) 9 "law.go:124" #[Edge.mk 3 Ground.data, Edge.mk 2 Ground.guard] (some (2, false)))) (v := ?_) rfl (by kernel_rfl) (by kernel_rfl) (by kernel_rfl) (fun _ _ _ h => h) (Or.inl ⟨by rfl, ?_⟩) (by assumption) ?_
              rotate_left
              · (intro w hSw; (try dsimp only at hSw); go_simp; first | done | with_reducible rfl)
              (try simp only [Act.put, List.setIfInBounds_toArray, List.set_cons_zero, List.set_cons_succ])
              refine wpAnyH_take (i := 5) (oi := (Oper.mk (some 162) (Op.move (Operand.tmp 10)) 22 "law.go:124" #[Edge.mk 2 Ground.guard] (some (2, false)))) (v := ?_) rfl (by kernel_rfl) (by kernel_rfl) (by kernel_rfl) (fun _ _ _ h => h) (Or.inl ⟨by rfl, ?_⟩) (by assumption) ?_
              rotate_left
              · (intro w hSw; (try dsimp only at hSw); go_simp; first | done | with_reducible rfl)
              (try simp only [Act.put, List.setIfInBounds_toArray, List.set_cons_zero, List.set_cons_succ])
              refine wpAnyH_take (i := 6) (oi := (Oper.mk (some 163) (Op.move (Operand.tmp 16)) 3 "law.go:124" #[Edge.mk 2 Ground.guard] (some (2, false)))) (v := ?_) rfl (by kernel_rfl) (by kernel_rfl) (by kernel_rfl) (fun _ _ _ h => h) (Or.inl ⟨by rfl, ?_⟩) (by assumption) ?_
              rotate_left
              · (intro w hSw; (try dsimp only at hSw); go_simp; first | done | with_reducible rfl)
              (try simp only [Act.put, List.setIfInBounds_toArray, List.set_cons_zero, List.set_cons_succ])
              refine wpAnyH_take (i := 7) (oi := (Oper.mk (some 164) (Op.indexAddr 22 (Operand.tmp 162) (Operand.tmp 163)) 0 "law.go:124" #[Edge.mk 5 Ground.data, Edge.mk 6 Ground.data, Edge.mk 2 Ground.guard] (some (2, false)))) (v := ?_) rfl (by kernel_rfl) (by kernel_rfl) (by kernel_rfl) (fun _ _ _ h => h) (Or.inl ⟨by rfl, ?_⟩) (by assumption) ?_
              rotate_left
              · (intro w hSw; (try dsimp only at hSw); go_simp; first | done | with_reducible rfl)
              (try simp only [Act.put, List.setIfInBounds_toArray, List.set_cons_zero, List.set_cons_succ])
              refine wpAnyH_take (i := 8) (oi := (Oper.mk (some 165) (Op.load 31 (Operand.tmp 164)) 31 "law.go:124" #[Edge.mk 7 Ground.data, Edge.mk 2 Ground.guard] (some (2, false)))) (v := ?_) rfl (by kernel_rfl) (by kernel_rfl) (by kernel_rfl) (fun _ _ _ h => h) (Or.inl ⟨by rfl, ?_⟩) (by assumption) ?_
              rotate_left
              · (intro w hSw; (try dsimp only at hSw); go_simp; first | done | with_reducible rfl)
              (try simp only [Act.put, List.setIfInBounds_toArray, List.set_cons_zero, List.set_cons_succ])
              refine wpAnyH_take (i := 9) (oi := (Oper.mk (some 166) (Op.convert 31 9 (Operand.tmp 165)) 9 "law.go:124" #[Edge.mk 8 Ground.data, Edge.mk 2 Ground.guard] (some (2, false)))) (v := ?_) rfl (by kernel_rfl) (by kernel_rfl) (by kernel_rfl) (fun _ _ _ h => h) (Or.inl ⟨by rfl, ?_⟩) (by assumption) ?_
              rotate_left
              · (intro w hSw; (try dsimp only at hSw); go_simp; first | done | with_reducible rfl)
              (try simp only [Act.put, List.setIfInBounds_toArray, List.set_cons_zero, List.set_cons_succ])
              refine wpAnyH_take (i := 10) (oi := (Oper.mk (some 167) (Op.binOp BinOp.neq 9 (Operand.tmp 161) (Operand.tmp 166) 9) 4 "law.go:124" #[Edge.mk 4 Ground.data, Edge.mk 9 Ground.data, Edge.mk 2 Ground.guard] (some (2, false)))) (v := ?_) rfl (by kernel_rfl) (by kernel_rfl) (by kernel_rfl) (fun _ _ _ h => h) (Or.inl ⟨by rfl, ?_⟩) (by assumption) ?_
              rotate_left
              · (intro w hSw; (try dsimp only at hSw); go_simp; first | done | with_reducible rfl)
              (try simp only [Act.put, List.setIfInBounds_toArray, List.set_cons_zero, List.set_cons_succ])
              refine wpAnyH_take (i := 11) (oi := (Oper.mk (some 168) (Op.pick (Operand.tmp 159) (Operand.const (Value.bool true)) (Operand.tmp 167)) 4 "law.go:124" #[Edge.mk 2 Ground.data, Edge.mk 10 Ground.data] none)) (v := ?_) rfl (by kernel_rfl) (by kernel_rfl) (by kernel_rfl) (fun _ _ _ h => h) (Or.inl ⟨by rfl, ?_⟩) (by assumption) ?_
              rotate_left
              · (intro w hSw; (try dsimp only at hSw); go_simp; first | done | with_reducible rfl)
              (try simp only [Act.put, List.setIfInBounds_toArray, List.set_cons_zero, List.set_cons_succ])
              refine wpAnyH_done (by kernel_rfl) ?_ _
              have hq1 : Below w1.heap.size w1 w1.drew := Quiet.below ⟨1, rfl⟩
              have HO2 := Lib.hid (HO1.out.below hq1 (Nat.le_refl _))
              have HR2 : Hid (RAt w1.drew b rb _ vS Y1) := Lib.hid (HR1.out.below hq1 (Nat.le_refl _))
              have HW2 : Hid (Below w.heap.size w w1.drew) := Lib.hid (HW1.out.trans (hq1.mono HW1.out.size))
              clear hq1 s1 s2 s3 s4 cg hHeld
              go_wp2_with fail
              go_roundw
              case rel => exact ⟨q + 1, Y1, by omega, by go_num, HO2, HR2, HW2⟩
              case measure => simp [intOf]; omega
            · obtain rfl : nk = q := by omega
              have g3 : ¬ (nk : Int) < (nk : Int) := by omega
              have hwk : wantK X nk = X := by rw [HNX.out]; exact wantK_end HK.out
              rw [hwk] at HR
              clear hwk
              go_wp2_with fail
              refine (next_no (keeps_end HK.out) HR.out (HOK.out _ (.inl rfl))).mono ?_
              rintro e w1 ⟨Y1, rfl, HR1, HF1⟩
              have HO1 := Lib.hid (HF1.out.off HO.out (by decide))
              have HW1 : Hid (Below w.heap.size w w1) := Lib.hid (HW.out.trans ((HF1.out.toBelow HR.out.hi).mono HBW.out))
              go_wp2_with fail
              go_roundw
              case rel => exact ⟨g + 1, Y1, by omega, by go_num, HO1, HR1, HW1⟩
              case measure => simp [intOf]; omega
        · have g2 : ¬ (g : Int) < 2 := by omega
          have hlvX : (one ni (sK (rm : Int) circ X d)).level 1 = (lv : Int) := (one_level _ _).trans (by rw [HLVL.out]; rfl)
          have HLX := Lib.hid hlvX
          clear hlvX
          go_wp2_with fail
          refine (level_ex HLX.out HR.out (yl_of HR.out (HOK.out _ (.inl rfl)))).mono ?_
          rintro e w4 ⟨rfl, hB⟩
          have HR4 := Lib.hid (HR.out.below hB (Nat.le_refl _))
          have HW4 : Hid (Below w.heap.size w w4) := Lib.hid (HW.out.trans (hB.mono HW.out.size))
          clear hB
          go_wp2_with fail
          refine (dropped_ex (one_dropped ni (sK (rm : Int) circ X d)) HR4.out (yl_of HR4.out (HOK.out _ (.inl rfl)))).mono ?_
          rintro e w5 ⟨rfl, hB⟩
          have HW5 : Hid (Below w.heap.size w w5) := Lib.hid (HW4.out.trans (hB.mono HW4.out.size))
          clear hB
          go_wp2_with fail
          refine (alive_any _).mono ?_
          rintro e w6 ⟨rfl, hB⟩
          have HW6 : Hid (Below w.heap.size w w6) := Lib.hid (HW5.out.trans (hB.mono HW5.out.size))
          clear hB
          go_wp2_with fail
          go_ret
          exact ⟨rfl, HW6.out⟩


set_option maxRecDepth 100000 in
theorem lifted (os : Os) (started : os.Started) (H : Type) (enc : TypeId × Value → H) :
    ReturnsInHanded {} Try.checked os 3 .any (Rows.recorderKeepsSpec.pre6 enc Try.prog Try.f3 Rows.recorderKeepsRow.domain false) (Rows.recorderKeepsSpec.post enc Try.prog Try.f3 false true false false) := by
  refine returnsInHanded_of_change (C := Try.checked) own started (by kernel_rfl) Try.func3
    (ChangeSpec.witness6 (enc := enc) (C := Try.checked) false ⟨#[], #[.int .u8 0, .bool false, .slice none 0 0], []⟩ 8 (by kernel_rfl) (by kernel_rfl) (by kernel_rfl) (by kernel_rfl)) ?_
  intro W base args ds gs before hval0 hW hcnd _
  have hval : ∀ (j : Nat) t v, Try.f3.params[j]? = some t → args[j]? = some v → Value.okWide Try.prog W .any base t v := hval0
  have hW' := hW
  obtain ⟨p, q, hA0, hV, rfl, hfz, hnd⟩ := hW
  have hA : DataW.TrodAll enc Try.prog W 0 (fun _ => true) true Try.f3.params.toList args.toList ds p := hA0
  rw [Try.params3] at hA hval
  obtain ⟨v0, vs0, d0, ds0, p0, q0, hargs, rfl, rfl, h0, r0⟩ := trodAll_cons hA
  obtain ⟨v1, vs1, d1, ds1, p1, q1, rfl, rfl, rfl, h1, r1⟩ := trodAll_cons r0
  obtain ⟨v2, vs2, d2, ds2, p2, q2, rfl, rfl, rfl, h2, r2⟩ := trodAll_cons r1
  obtain ⟨rfl, rfl, rfl⟩ := trodAll_nil r2
  obtain rfl : args = #[v0, v1, v2] := by cases args; simp_all
  obtain ⟨rfl, rfl⟩ := trodVars_none hV
  obtain ⟨a0, rfl, rfl, rfl, w0⟩ := open_int Try.underlying5 (hval 0 5 v0 rfl rfl) h0
  obtain ⟨a1, rfl, rfl, rfl⟩ := open_bool Try.underlying4 (hval 1 4 v1 rfl rfl) h1
  have k2 := h2
  have lt2 : ∀ x ∈ p2, x.block < W.heap.size := by obtain ⟨m, hm⟩ := k2; exact DataW.trod_lt m _ _ _ hm
  clear hA0 hval0
  refine (walk a0 a1 v2 W w0 (hval 2 22 v2 rfl rfl) k2).mono fun e W' ⟨he, bel⟩ => ?_
  subst he
  exact ⟨_, rfl, _, _, _, [], _, [], hW', trodAll_mk1 (shut_bool Try.underlying4 _), (trodAll_cons_mk (shut_int Try.underlying5 w0) (trodAll_cons_mk (shut_bool Try.underlying4 _) (trodAll_cons_mk (Below.trod laidOut (by kernel_rfl) (of_decide_eq_true (by kernel_rfl)) k2 bel lt2) trodAll_mk0))), rfl, bel.frame _, fun h => by cases h⟩

theorem over : Rows.recorderKeepsRow.holds Try.pinned (OpenSpec.ofChange Rows.recorderKeepsSpec) :=
  OpenClaim.holds_of_wide 3 Try.f3 rfl rfl rfl rfl rfl rfl rfl ⟨rfl, rfl, rfl, rfl, rfl⟩ rfl rfl rfl rfl rfl (by kernel_rfl) Try.func3 (by kernel_rfl)
    (of_decide_eq_true (by kernel_rfl)) (by unfold Func.isWrapper; first | (rw [if_pos (by decide +kernel)]; kernel_rfl) | (rw [if_neg (by decide +kernel)]; exact ⟨rfl, rfl⟩))
    (fun os started H enc _ => lifted os started H enc)

theorem proved : Rows.RecorderKeepsSaid := over
#print axioms proved
end Go.Proofs.Ytnojmkmmfiahgaa.recorderKeeps

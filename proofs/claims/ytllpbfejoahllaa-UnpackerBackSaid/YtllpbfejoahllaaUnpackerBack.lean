/- The law UnpackerBack holds: the walk, then the lift to the given statement. No condition. -/
import Derived.Test.YtllpbfejoahllaaCX
import Derived.WalkKit
import Derived.ProofKit
import Derived.OpenShut
import Derived.Lib.Hide
import Derived.ChangeOld
import Derived.Below
import Derived.SizedLaws
namespace Go.Proofs.Ytllpbfejoahllaa.unpackerBack
open Go.ChangeShapes Go.WideShapes Go.ChangeAt Go.RowKit
set_option linter.unusedVariables false
theorem own : ownKnob Try.prog.godebug = none := by kernel_rfl
theorem laidOut : laidOutB Try.prog = true := by kernel_rfl

set_option maxRecDepth 20000 in
set_option maxHeartbeats 4000000 in
theorem walk {H : Type} {enc : TypeId × Value → H} (v0 v1 : Value) (a2 a3 : Int) (v4 : Value) (w : World) {b0 : Nat} {d0 : DataW H} {p0 : List MemPlace} (ok0 : Value.okWide Try.prog w .any b0 22 v0) (tr0 : DataW.Trod enc Try.prog w 0 (fun _ => true) true 22 v0 d0 p0) {b1 : Nat} {d1 : DataW H} {p1 : List MemPlace} (ok1 : Value.okWide Try.prog w .any b1 23 v1) (tr1 : DataW.Trod enc Try.prog w 0 (fun _ => true) true 23 v1 d1 p1) (w2 : (Lit.int .u8 a2).wf = true) (w3 : (Lit.int .u8 a3).wf = true) {b4 : Nat} {d4 : DataW H} {p4 : List MemPlace} (ok4 : Value.okWide Try.prog w .any b4 23 v4) (tr4 : DataW.Trod enc Try.prog w 0 (fun _ => true) true 23 v4 d4 p4) : Calls Try.prog 3 #[v0, v1, .int .u8 a2, .int .u8 a3, v4] w fun e w' => e = .returned (.bool true) ∧ Below w.heap.size w w' := by
  obtain ⟨L, hL⟩ := arg_lists Try.underlying22 (by kernel_rfl) Try.underlying23 Try.underlying5 (by kernel_rfl) ok0 tr0
  obtain ⟨aA, capA, A, rfl, hcA, hmA, hbA⟩ := arg_bytes Try.underlying23 Try.underlying5 (by kernel_rfl) ok1 tr1
  obtain ⟨aP, capP, pt, rfl, hcP, hmP, hbP⟩ := arg_bytes Try.underlying23 Try.underlying5 (by kernel_rfl) ok4 tr4
  obtain ⟨sx, rfl⟩ := wf_u8 w2
  obtain ⟨st, rfl⟩ := wf_u8 w3
  have hs8 := sx.toNat_lt
  have ht8 := st.toNat_lt
  obtain ⟨si, hsi⟩ : ∃ s, s = sx.toNat := ⟨_, rfl⟩
  obtain ⟨ti, hti⟩ : ∃ s, s = st.toNat := ⟨_, rfl⟩
  rw [← hsi] at hs8 ⊢
  rw [← hti] at ht8 ⊢
  clear w2 w3 ok0 tr0 ok1 tr1 ok4 tr4 hsi hti
  obtain ⟨a, cap, rfl, hc, hm⟩ := hL.len
  have HS := Lib.hid hL
  have HAA := Lib.hid hbA
  have HPA := Lib.hid hbP
  obtain ⟨np, hnp⟩ : ∃ n, n = pt.length := ⟨_, rfl⟩
  obtain ⟨na, hna⟩ : ∃ n, n = A.length := ⟨_, rfl⟩
  obtain ⟨n, hn⟩ : ∃ n, n = L.length := ⟨_, rfl⟩
  rw [← hnp] at hcP ⊢
  rw [← hna] at hcA ⊢
  rw [← hn] at hc HS ⊢
  clear hL hbA hbP
  by_cases hl : 40 < n
  · have e1 : (40 : Int) < (n : Int) := by omega
    clear hn hna hnp
    go_enter Try.func3, Try.ntmps3
    go_wp2_with fail
    refine (alive_any _).mono ?_
    rintro e w9 ⟨rfl, hB⟩
    have HB9 := Lib.hid hB
    clear hB
    go_wp2_with fail
    go_ret
    exact ⟨rfl, HB9.out⟩
  have e1 : ¬ (40 : Int) < (n : Int) := by omega
  by_cases hl2 : 30 < np
  · have e2 : (30 : Int) < (np : Int) := by omega
    clear hn hna hnp
    go_enter Try.func3, Try.ntmps3
    go_wp2_with fail
    refine (alive_any _).mono ?_
    rintro e w9 ⟨rfl, hB⟩
    have HB9 := Lib.hid hB
    clear hB
    go_wp2_with fail
    go_ret
    exact ⟨rfl, HB9.out⟩
  have e2 : ¬ (30 : Int) < (np : Int) := by omega
  have HN := Lib.hid hn
  have HNA := Lib.hid hna
  have HNPT := Lib.hid hnp
  obtain ⟨j1, hj1, hz0, hz1, hz2⟩ := info_parts info23
  have HJ1 := Lib.hid hj1
  obtain ⟨j4, hj4, hi0, hi1, hi2⟩ := info_parts info4
  have HJ4 := Lib.hid hj4
  clear hj1 hj4 hn hna hnp
  go_enter Try.func3, Try.ntmps3
  go_wp2_with fail
  go_loopw [11, 12, 13] (fun v11 v12 v13 wr => ∃ (k : Nat) (us : List Value), k ≤ n ∧ v13 = .int .i64 k ∧ Hid (Fit L k) ∧ Hid (S2 w wr (sentB L A k) (idsB A k) v11 v12 us)) (fun _ _ v13 _ => n - (intOf v13).toNat)
  case atStart => exact ⟨0, [], by omega, rfl, Lib.hid (fun i hi => absurd hi (Nat.not_lt_zero _)), Lib.hid (S2.start w)⟩
  case round =>
    obtain ⟨k, us, hk, rfl, HF, HS2⟩ := hrel
    obtain ⟨a11, n11, c11, rfl⟩ := own_sliceC HS2.out.sent
    obtain ⟨a12, n12, c12, rfl⟩ := own_sliceC HS2.out.idl
    by_cases hlt : k < n
    · have hkl : k < L.length := by rw [← HN.out]; exact hlt
      obtain ⟨b, off, cp, ae, ce, e, -, -, hb, hcell, hce, hcm, hA, -⟩ := HS.out.get hkl
      simp only [Value.slice.injEq] at e
      obtain ⟨rfl, -, rfl⟩ := e
      have HFS : Hid (1 ≤ L[k].length → L[k].length ≤ 60 → Fit L (k + 1)) := Lib.hid (fun h1 h2 i hi hh => by
        by_cases e : i = k
        · subst e; exact ⟨h1, h2⟩
        · exact HF.out i (by omega) hh)
      obtain ⟨y, hy⟩ : ∃ y, y = L[k] := ⟨_, rfl⟩
      obtain ⟨m, hm9⟩ : ∃ m, m = y.length := ⟨_, rfl⟩
      rw [← hy] at hcell hce hA HFS
      rw [← hm9] at hcell hce HFS
      have HA := Lib.hid hA
      have HYY := Lib.hid hy
      have HM := Lib.hid hm9
      have c0 : wr.cell? ⟨b, off + k, none⟩ = some (.slice ae m ce) := (HS2.out.below.cell (p := ⟨b, off + k, none⟩) hb).trans hcell
      have HCL := Lib.hid hcell
      have g2 : (k : Int) < (n : Int) := by omega
      clear hcell hA hy hm9
      by_cases hy1 : m < 1
      · have e5 : (m : Int) < 1 := by omega
        go_wp2_with fail
        refine (alive_any _).mono ?_
        rintro e w9 ⟨rfl, hB⟩
        have HB9 := Lib.hid hB
        clear hB
        go_wp2_with fail
        go_ret
        exact ⟨rfl, HS2.out.below.trans (HB9.out.mono HS2.out.below.size)⟩
      by_cases hy2 : 60 < m
      · have e4 : ¬ (m : Int) < 1 := by omega
        have e5 : (60 : Int) < (m : Int) := by omega
        go_wp2_with fail
        refine (alive_any _).mono ?_
        rintro e w9 ⟨rfl, hB⟩
        have HB9 := Lib.hid hB
        clear hB
        go_wp2_with fail
        go_ret
        exact ⟨rfl, HS2.out.below.trans (HB9.out.mono HS2.out.below.size)⟩
      have e4 : ¬ (m : Int) < 1 := by omega
      have e5 : ¬ (60 : Int) < (m : Int) := by omega
      have hk40 : k ≤ 40 := by omega
      obtain ⟨id, hid⟩ : ∃ id, id = idB A k := ⟨_, rfl⟩
      have HID := Lib.hid hid
      have hs0 := HS2.out.below.size
      have hs1 : w.heap.size ≤ (wr.alloc (.cells #[.bool id] 4)).heap.size := Nat.le_trans hs0 (al (Below.refl _ _) _).size
      by_cases hka : k < na
      · have g3 : (k : Int) < (na : Int) := by omega
        obtain ⟨z, hz⟩ : ∃ z, A[k]? = some z := ⟨_, List.getElem?_eq_getElem (by rw [← HNA.out]; exact hka)⟩
        obtain ⟨bA, oA, rfl, hbA, hcl⟩ := HAA.out.resolve_left (fun e => by rw [e] at hz; cases hz)
        have cz : wr.cell? ⟨bA, oA + k, none⟩ = some (.int .u8 (z.toNat : Int)) := (HS2.out.below.cell (p := ⟨bA, _, none⟩) hbA).trans (by rw [hcl k (by rw [← HNA.out]; exact hka), (List.getElem?_eq_some_iff.1 hz).2])
        have hz8 := z.toNat_lt
        have hzd : A.getD k 0 = z := by rw [List.getD_eq_getElem?_getD, hz]; rfl
        have hid2 : idB A k = decide (z.toNat % 4 = 0) := by
          unfold idB
          rw [hzd, decide_eq_true (show k < A.length by rw [← HNA.out]; exact hka), Bool.true_and]
        rw [hid2] at hid
        clear hz hcl hzd hid2
        obtain ⟨r4, hr4⟩ : ∃ r, r = z.toNat % 4 := ⟨_, rfl⟩
        have er : ((z.toNat : Nat) : Int).tmod 4 = (r4 : Int) := by rw [hr4]; rfl
        have er2 : ((z.toNat : Nat) : Int) % 4 = (r4 : Int) := by rw [hr4]; rfl
        rw [← hr4] at hid
        clear hr4
        by_cases h0 : r4 = 0
        · have hq0 : ((r4 : Int) == 0) = true := by rw [beq_iff_eq]; omega
          obtain rfl : id = true := by rw [hid]; exact decide_eq_true h0
          clear hid
          have HI2 := Lib.hid (S2own HS2.out.idl (idsB_len A k))
          go_wp2_with (at_builtin; refine wpList_append_src _ rfl (.tmp 67) (.tmp 69) 25 rfl w.heap.size 4 j4 (.bool false) 1 Try.underlying25 HJ4.out hi0 hi1 hi2 (by rfl) _ k (bvs (idsB A k)) rfl (own_below HI2.out (al (Below.refl _ _) _) (Nat.le_refl _)) (some ⟨wr.heap.size, 0, none⟩) 1 1 [.bool true] rfl (by rfl) (one_vat wr _ 4) (by simp [Value.oneCell']) (by unfold maxLen; omega) (by omega) hs1 ?_)
          intro v6 w6 hown6 hgrow6 hblk6
          obtain ⟨a6, n6, c6, rfl⟩ := own_sliceC hown6
          have hS6 := (HS2.out.step (al (Below.refl _ wr) _)).addI true (by rw [idsB_len]; exact hown6) hgrow6 (by simpa using hblk6)
          rw [show idsB A k ++ [true] = idsB A (k + 1) by rw [HID.out]; unfold idsB; rw [List.range_succ, List.map_append]; rfl] at hS6
          have HS6 := Lib.hid hS6
          have HA6 := Lib.hid (HA.out.below hS6.below (Nat.le_refl _))
          have c1 : w6.cell? ⟨b, off + k, none⟩ = some (.slice ae m ce) := (hS6.below.cell (p := ⟨b, off + k, none⟩) hb).trans HCL.out
          clear hown6 hgrow6 hblk6 hS6
          go_wp2_with fail
          refine (wrap_n (a := 2047) (by first | rfl | (push_cast; rfl)) ae ce y _ HM.out (by omega) (by omega) (by omega) HA6.out).mono ?_
          rintro e w3 ⟨vx, rfl, hO3, hB3⟩
          obtain ⟨p, hp⟩ : ∃ p, p = wrapP (2047) y := ⟨_, rfl⟩
          rw [← hp] at hO3
          have hpB : p = pkB L A k := by rw [hp, pkB_at (by rw [← HN.out]; exact hlt), ← HID.out, HYY.out]; rfl
          have hpl : p.length ≤ 66 := by rw [hp, wrapP_len, ← HM.out]; omega
          obtain ⟨-, a3, c3, rfl, hc3, hm3, hA3⟩ := BAt.of_row hO3
          have hpb : ∀ q, a3 = some q → w6.heap.size ≤ q.block := fun q hq => (hO3.lt q.block (by rw [hq]; rfl)).1
          obtain ⟨pl, hpl2⟩ : ∃ x, x = p.length := ⟨_, rfl⟩
          have hX3 : ∀ o, Sl (w3.alloc o) (fun q => q < w.heap.size ∨ (Value.slice a11 n11 c11).ownBlock = some q ∨ (Value.slice a6 n6 c6).ownBlock = some q) (.slice a3 p.length c3) p := fun o => ⟨a3, c3, rfl, hc3, hm3, hA3.below (al (Below.refl _ w3) o) (Nat.le_refl _), fun q hq _ h => by
            have h1 := hpb q hq
            obtain ⟨l1, l2⟩ := HS6.out.lt
            have := HS6.out.below.size
            rcases h with h | h | h
            · omega
            · have := (l1 _ h).2; omega
            · have := (l2 _ h).2; omega⟩
          have HX3 := Lib.hid hX3
          have HS3 := Lib.hid (HS6.out.step hB3)
          have HPB := Lib.hid hpB
          have HPL2 := Lib.hid hpl2
          have hs3 := HS3.out.below.size
          have hs4 : w.heap.size ≤ (w3.alloc (.cells #[.slice a3 pl c3] 23)).heap.size := Nat.le_trans hs3 (al (Below.refl _ _) _).size
          rw [← hpl2] at hX3 HX3
          rw [← hpl2]
          have HSS := Lib.hid (S2own HS3.out.sent (sentB_len L A k))
          clear hO3 hB3 hA3 hpb hX3 hp hpB hpl2 hc3
          go_wp2_with (at_builtin; refine wpList_append_src _ rfl (.tmp 72) (.tmp 78) 22 rfl w.heap.size 23 j1 (.slice none 0 0) 24 Try.underlying22 HJ1.out hz0 hz1 hz2 (by rfl) _ k us rfl (own_below HSS.out (al (Below.refl _ _) _) (Nat.le_refl _)) (some ⟨w3.heap.size, 0, none⟩) 1 1 [.slice a3 pl c3] rfl (by rfl) (one_vat w3 _ 23) (by simp [Value.oneCell']) (by unfold maxLen; omega) (by omega) hs4 ?_)
          intro v7 w7 hown7 hgrow7 hblk7
          have hS7 := (HS3.out.step (al (Below.refl _ w3) _)).addP (HX3.out _) (by rw [sentB_len]; exact hown7) hgrow7 (by simpa using hblk7)
          rw [HPB.out, ← sentB_succ] at hS7
          have HS7 := Lib.hid hS7
          obtain ⟨a7, n7, c7, rfl⟩ := own_sliceC hown7
          clear hown7 hgrow7 hblk7 hS7
          go_wp2_with fail
          go_roundw
          case rel => exact ⟨k + 1, _, by omega, by go_num, Lib.hid (HFS.out (by omega) (by omega)), HS7⟩
          case measure => simp [intOf]; omega
        · have hq0 : ((r4 : Int) == 0) = false := by rw [beq_eq_false_iff_ne]; omega
          obtain rfl : id = false := by rw [hid]; exact decide_eq_false h0
          clear hid
          have HI2 := Lib.hid (S2own HS2.out.idl (idsB_len A k))
          go_wp2_with (at_builtin; refine wpList_append_src _ rfl (.tmp 67) (.tmp 69) 25 rfl w.heap.size 4 j4 (.bool false) 1 Try.underlying25 HJ4.out hi0 hi1 hi2 (by rfl) _ k (bvs (idsB A k)) rfl (own_below HI2.out (al (Below.refl _ _) _) (Nat.le_refl _)) (some ⟨wr.heap.size, 0, none⟩) 1 1 [.bool false] rfl (by rfl) (one_vat wr _ 4) (by simp [Value.oneCell']) (by unfold maxLen; omega) (by omega) hs1 ?_)
          intro v6 w6 hown6 hgrow6 hblk6
          obtain ⟨a6, n6, c6, rfl⟩ := own_sliceC hown6
          have hS6 := (HS2.out.step (al (Below.refl _ wr) _)).addI false (by rw [idsB_len]; exact hown6) hgrow6 (by simpa using hblk6)
          rw [show idsB A k ++ [false] = idsB A (k + 1) by rw [HID.out]; unfold idsB; rw [List.range_succ, List.map_append]; rfl] at hS6
          have HS6 := Lib.hid hS6
          have HA6 := Lib.hid (HA.out.below hS6.below (Nat.le_refl _))
          have c1 : w6.cell? ⟨b, off + k, none⟩ = some (.slice ae m ce) := (hS6.below.cell (p := ⟨b, off + k, none⟩) hb).trans HCL.out
          clear hown6 hgrow6 hblk6 hS6
          go_wp2_with fail
          refine (wrap_n (a := 100 + k) (by first | rfl | (push_cast; rfl)) ae ce y _ HM.out (by omega) (by omega) (by omega) HA6.out).mono ?_
          rintro e w3 ⟨vx, rfl, hO3, hB3⟩
          obtain ⟨p, hp⟩ : ∃ p, p = wrapP (100 + k) y := ⟨_, rfl⟩
          rw [← hp] at hO3
          have hpB : p = pkB L A k := by rw [hp, pkB_at (by rw [← HN.out]; exact hlt), ← HID.out, HYY.out]; rfl
          have hpl : p.length ≤ 66 := by rw [hp, wrapP_len, ← HM.out]; omega
          obtain ⟨-, a3, c3, rfl, hc3, hm3, hA3⟩ := BAt.of_row hO3
          have hpb : ∀ q, a3 = some q → w6.heap.size ≤ q.block := fun q hq => (hO3.lt q.block (by rw [hq]; rfl)).1
          obtain ⟨pl, hpl2⟩ : ∃ x, x = p.length := ⟨_, rfl⟩
          have hX3 : ∀ o, Sl (w3.alloc o) (fun q => q < w.heap.size ∨ (Value.slice a11 n11 c11).ownBlock = some q ∨ (Value.slice a6 n6 c6).ownBlock = some q) (.slice a3 p.length c3) p := fun o => ⟨a3, c3, rfl, hc3, hm3, hA3.below (al (Below.refl _ w3) o) (Nat.le_refl _), fun q hq _ h => by
            have h1 := hpb q hq
            obtain ⟨l1, l2⟩ := HS6.out.lt
            have := HS6.out.below.size
            rcases h with h | h | h
            · omega
            · have := (l1 _ h).2; omega
            · have := (l2 _ h).2; omega⟩
          have HX3 := Lib.hid hX3
          have HS3 := Lib.hid (HS6.out.step hB3)
          have HPB := Lib.hid hpB
          have HPL2 := Lib.hid hpl2
          have hs3 := HS3.out.below.size
          have hs4 : w.heap.size ≤ (w3.alloc (.cells #[.slice a3 pl c3] 23)).heap.size := Nat.le_trans hs3 (al (Below.refl _ _) _).size
          rw [← hpl2] at hX3 HX3
          rw [← hpl2]
          have HSS := Lib.hid (S2own HS3.out.sent (sentB_len L A k))
          clear hO3 hB3 hA3 hpb hX3 hp hpB hpl2 hc3
          go_wp2_with (at_builtin; refine wpList_append_src _ rfl (.tmp 80) (.tmp 88) 22 rfl w.heap.size 23 j1 (.slice none 0 0) 24 Try.underlying22 HJ1.out hz0 hz1 hz2 (by rfl) _ k us rfl (own_below HSS.out (al (Below.refl _ _) _) (Nat.le_refl _)) (some ⟨w3.heap.size, 0, none⟩) 1 1 [.slice a3 pl c3] rfl (by rfl) (one_vat w3 _ 23) (by simp [Value.oneCell']) (by unfold maxLen; omega) (by omega) hs4 ?_)
          intro v7 w7 hown7 hgrow7 hblk7
          have hS7 := (HS3.out.step (al (Below.refl _ w3) _)).addP (HX3.out _) (by rw [sentB_len]; exact hown7) hgrow7 (by simpa using hblk7)
          rw [HPB.out, ← sentB_succ] at hS7
          have HS7 := Lib.hid hS7
          obtain ⟨a7, n7, c7, rfl⟩ := own_sliceC hown7
          clear hown7 hgrow7 hblk7 hS7
          go_wp2_with fail
          go_roundw
          case rel => exact ⟨k + 1, _, by omega, by go_num, Lib.hid (HFS.out (by omega) (by omega)), HS7⟩
          case measure => simp [intOf]; omega
      · have g3 : ¬ (k : Int) < (na : Int) := by omega
        obtain rfl : id = false := by
          rw [hid]
          unfold idB
          rw [decide_eq_false (show ¬ k < A.length by rw [← HNA.out]; exact hka)]
          rfl
        clear hid
        have HI2 := Lib.hid (S2own HS2.out.idl (idsB_len A k))
        go_wp2_with (at_builtin; refine wpList_append_src _ rfl (.tmp 67) (.tmp 69) 25 rfl w.heap.size 4 j4 (.bool false) 1 Try.underlying25 HJ4.out hi0 hi1 hi2 (by rfl) _ k (bvs (idsB A k)) rfl (own_below HI2.out (al (Below.refl _ _) _) (Nat.le_refl _)) (some ⟨wr.heap.size, 0, none⟩) 1 1 [.bool false] rfl (by rfl) (one_vat wr _ 4) (by simp [Value.oneCell']) (by unfold maxLen; omega) (by omega) hs1 ?_)
        intro v6 w6 hown6 hgrow6 hblk6
        obtain ⟨a6, n6, c6, rfl⟩ := own_sliceC hown6
        have hS6 := (HS2.out.step (al (Below.refl _ wr) _)).addI false (by rw [idsB_len]; exact hown6) hgrow6 (by simpa using hblk6)
        rw [show idsB A k ++ [false] = idsB A (k + 1) by rw [HID.out]; unfold idsB; rw [List.range_succ, List.map_append]; rfl] at hS6
        have HS6 := Lib.hid hS6
        have HA6 := Lib.hid (HA.out.below hS6.below (Nat.le_refl _))
        have c1 : w6.cell? ⟨b, off + k, none⟩ = some (.slice ae m ce) := (hS6.below.cell (p := ⟨b, off + k, none⟩) hb).trans HCL.out
        clear hown6 hgrow6 hblk6 hS6
        go_wp2_with fail
        refine (wrap_n (a := 100 + k) (by first | rfl | (push_cast; rfl)) ae ce y _ HM.out (by omega) (by omega) (by omega) HA6.out).mono ?_
        rintro e w3 ⟨vx, rfl, hO3, hB3⟩
        obtain ⟨p, hp⟩ : ∃ p, p = wrapP (100 + k) y := ⟨_, rfl⟩
        rw [← hp] at hO3
        have hpB : p = pkB L A k := by rw [hp, pkB_at (by rw [← HN.out]; exact hlt), ← HID.out, HYY.out]; rfl
        have hpl : p.length ≤ 66 := by rw [hp, wrapP_len, ← HM.out]; omega
        obtain ⟨-, a3, c3, rfl, hc3, hm3, hA3⟩ := BAt.of_row hO3
        have hpb : ∀ q, a3 = some q → w6.heap.size ≤ q.block := fun q hq => (hO3.lt q.block (by rw [hq]; rfl)).1
        obtain ⟨pl, hpl2⟩ : ∃ x, x = p.length := ⟨_, rfl⟩
        have hX3 : ∀ o, Sl (w3.alloc o) (fun q => q < w.heap.size ∨ (Value.slice a11 n11 c11).ownBlock = some q ∨ (Value.slice a6 n6 c6).ownBlock = some q) (.slice a3 p.length c3) p := fun o => ⟨a3, c3, rfl, hc3, hm3, hA3.below (al (Below.refl _ w3) o) (Nat.le_refl _), fun q hq _ h => by
          have h1 := hpb q hq
          obtain ⟨l1, l2⟩ := HS6.out.lt
          have := HS6.out.below.size
          rcases h with h | h | h
          · omega
          · have := (l1 _ h).2; omega
          · have := (l2 _ h).2; omega⟩
        have HX3 := Lib.hid hX3
        have HS3 := Lib.hid (HS6.out.step hB3)
        have HPB := Lib.hid hpB
        have HPL2 := Lib.hid hpl2
        have hs3 := HS3.out.below.size
        have hs4 : w.heap.size ≤ (w3.alloc (.cells #[.slice a3 pl c3] 23)).heap.size := Nat.le_trans hs3 (al (Below.refl _ _) _).size
        rw [← hpl2] at hX3 HX3
        rw [← hpl2]
        have HSS := Lib.hid (S2own HS3.out.sent (sentB_len L A k))
        clear hO3 hB3 hA3 hpb hX3 hp hpB hpl2 hc3
        go_wp2_with (at_builtin; refine wpList_append_src _ rfl (.tmp 80) (.tmp 88) 22 rfl w.heap.size 23 j1 (.slice none 0 0) 24 Try.underlying22 HJ1.out hz0 hz1 hz2 (by rfl) _ k us rfl (own_below HSS.out (al (Below.refl _ _) _) (Nat.le_refl _)) (some ⟨w3.heap.size, 0, none⟩) 1 1 [.slice a3 pl c3] rfl (by rfl) (one_vat w3 _ 23) (by simp [Value.oneCell']) (by unfold maxLen; omega) (by omega) hs4 ?_)
        intro v7 w7 hown7 hgrow7 hblk7
        have hS7 := (HS3.out.step (al (Below.refl _ w3) _)).addP (HX3.out _) (by rw [sentB_len]; exact hown7) hgrow7 (by simpa using hblk7)
        rw [HPB.out, ← sentB_succ] at hS7
        have HS7 := Lib.hid hS7
        obtain ⟨a7, n7, c7, rfl⟩ := own_sliceC hown7
        clear hown7 hgrow7 hblk7 hS7
        go_wp2_with fail
        go_roundw
        case rel => exact ⟨k + 1, _, by omega, by go_num, Lib.hid (HFS.out (by omega) (by omega)), HS7⟩
        case measure => simp [intOf]; omega
    · obtain rfl : n = k := by omega
      have g2 : ¬ (n : Int) < (n : Int) := by omega
      obtain ⟨P, hP⟩ : ∃ P, P = sentB L A n := ⟨_, rfl⟩
      obtain ⟨I, hI⟩ : ∃ I, I = idsB A n := ⟨_, rfl⟩
      have hPl : P.length = n := by rw [hP, sentB_len]
      have hIl : I.length = n := by rw [hI, idsB_len]
      have hwf : ∀ p ∈ P, WF p ∧ 7 ≤ p.length ∧ p.length ≤ 66 := by
        have h9 := HF.out
        rw [HN.out] at h9
        rw [hP, HN.out]
        exact sentB_wf h9 (by rw [← HN.out]; omega)
      rw [← hP, ← hI] at HS2
      have HSA := HS2.out.sat
      obtain ⟨a11', c11', he, hc11, hm11⟩ := HSA.len
      simp only [Value.slice.injEq] at he
      obtain ⟨rfl, hn11, rfl⟩ := he
      rw [hPl] at hn11 hc11
      obtain rfl := hn11.symm
      have hIr := HS2.out.idl
      rw [hIl] at hIr
      have HP := Lib.hid hP
      have HII := Lib.hid hI
      have HPL := Lib.hid hPl
      have HIL := Lib.hid hIl
      have HWF := Lib.hid hwf
      have HSAT := Lib.hid HSA
      have HIR := Lib.hid hIr
      clear hP hI hPl hIl hwf HSA hIr
      obtain ⟨sz, hsz⟩ : ∃ x, x = si % 60 + 1 := ⟨_, rfl⟩
      have hzI : (si : Int) % 60 + 1 = (sz : Int) := by omega
      have hszA : 1 ≤ sz := by omega
      have hszB : sz ≤ 60 := by omega
      clear hsz
      go_wp2_with fail
      have hcut := cut_any (fun q => wr.heap.size ≤ q) (.slice a11 n c11) P sz ti wr HSAT.out (by rw [HPL.out]; omega) (fun p hp => by have := (HWF.out p hp).2.2; omega) (fun p hp => (HWF.out p hp).2.1) hszA hszB (by omega)
      refine hcut.mono ?_
      clear hcut hzI
      rintro e w3 ⟨aF, nF, cF, aT, nT, cT, aE, nE, cE, aS, cS, aB, cB, nf, gS, rfl, HRW, HBW, hnf1, hnf2, hgS, hcS, hcm⟩
      obtain ⟨hnE, -⟩ := own_many (HRW.out.row 0 rfl)
      have hnE' : nE = nf := hnE
      clear hnE
      subst hnE'
      obtain ⟨tl, htl⟩ : ∃ x, x = P.flatten.length := ⟨_, rfl⟩
      rw [← htl] at HRW hnf1 hnf2 hgS hcS
      rw [← htl, HPL.out]
      have HTL := Lib.hid htl
      clear htl
      go_upto_region 16 with fail
      obtain ⟨bp, hbp⟩ : ∃ x, x = w3.heap.size := ⟨_, rfl⟩
      obtain ⟨wZ, hwZ⟩ : ∃ x, x = w3.alloc (.cells #[.slice aE nE cE, .slice aF nF cF, .slice aT nT cT, .slice a11 n c11, .slice aS tl cS, .slice aB n cB] 30) := ⟨_, rfl⟩
      have hB3 : Below w3.heap.size w3 wZ := by rw [hwZ]; exact al (Below.refl _ _) _
      have HKZ : Hid (Blk wZ bp 30 [.slice aE nE cE, .slice aF nF cF, .slice aT nT cT, .slice a11 n c11, .slice aS tl cS, .slice aB n cB]) := Lib.hid (by rw [hwZ, hbp]; exact Blk.new w3 30 _)
      have HRZ := Lib.hid (HRW.out.below hB3 (Nat.le_refl _))
      have HSZ := Lib.hid (HS2.out.step (HBW.out.trans (hB3.mono HBW.out.size)))
      rw [← hwZ, ← hbp]
      clear hwZ hbp hB3
      have c0 := HKZ.out.at 0 rfl
      have cl := HKZ.out.lt
      by_cases hnf : 200 < nE
      · have g3 : (200 : Int) < (nE : Int) := by omega
        go_wp2_with fail
        refine (alive_any _).mono ?_
        rintro e w9 ⟨rfl, hB⟩
        have HB9 := Lib.hid hB
        clear hB
        go_wp2_with fail
        go_ret
        exact ⟨rfl, HSZ.out.below.trans (HB9.out.mono HSZ.out.below.size)⟩
      have g3 : ¬ (200 : Int) < (nE : Int) := by omega
      obtain ⟨Z, hZ⟩ : ∃ Z, Z = wZ.heap.size := ⟨_, rfl⟩
      have hclZ : bp < Z := by rw [hZ]; exact cl
      have HZZ := Lib.hid hZ
      have HSAZ : Hid (SAt wZ (fun q => Z ≤ q) (.slice a11 n c11) P) := Lib.hid (by rw [hZ]; exact HSZ.out.sat)
      have hwZ9 : w.heap.size ≤ Z := by rw [hZ]; exact HSZ.out.below.size
      have hal40 : n ≤ 40 := by omega
      have htl28 : tl ≤ 2800 := by
        have h9 := flat_take_le (P := P) (fun p hp => by have := (HWF.out p hp).2.2; omega) n
        rw [List.take_of_length_le (by rw [HPL.out]; exact Nat.le_refl _), ← HTL.out] at h9
        omega
      clear hZ
      go_wp2_with fail
      go_loopw [16, 18] (fun v16 v18 wr2 => ∃ (i : Nat) (us : List Value), i ≤ n ∧ v18 = .int .i64 (i : Int) ∧ Hid (wr2.ownsRow Z 23 1 v16 (want (lostB pt) sz 0 (P.take i)).length us) ∧ Hid (Sls wZ (fun q => Z ≤ q) us (want (lostB pt) sz 0 (P.take i))) ∧ Hid (Below Z wZ wr2)) (fun _ v18 _ => n - (intOf v18).toNat)
      case atStart => exact ⟨0, [], by omega, rfl, Lib.hid (World.ownsRow_nil _ _ _ _), Lib.hid Sls.nil, Lib.hid (Below.refl _ _)⟩
      case round =>
        obtain ⟨i, us, hi, rfl, HWR, HWS, HBZ⟩ := hrel
        obtain ⟨aW, nW, cW, rfl⟩ := own_sliceC HWR.out
        have hzs : Z ≤ wr.heap.size := by have := HBZ.out.size; rw [← HZZ.out] at this; exact this
        by_cases hlt : i < n
        · have g4 : (i : Int) < (n : Int) := by omega
          have hpi : i < P.length := by rw [HPL.out]; exact hlt
          obtain ⟨p, hp⟩ : ∃ p, P[i]? = some p := ⟨_, List.getElem?_eq_getElem hpi⟩
          have hpe : P[i] = p := (List.getElem?_eq_some_iff.1 hp).2
          obtain ⟨pos, hpos⟩ : ∃ x, x = (P.take i).flatten.length := ⟨_, rfl⟩
          obtain ⟨fr, hfr⟩ : ∃ x, x = pos / sz := ⟨_, rfl⟩
          obtain ⟨tt, htt⟩ : ∃ x, x = (pos + p.length - 1) / sz := ⟨_, rfl⟩
          have hpw := HWF.out p (List.mem_of_getElem? hp)
          have hpos28 : pos ≤ 2800 := by
            have h9 := flat_take_le (P := P) (fun p hp => by have := (HWF.out p hp).2.2; omega) i
            omega
          have hft : fr ≤ tt := by rw [hfr, htt]; exact Nat.div_le_div_right (by omega)
          have htt28 : tt ≤ 3000 := by rw [htt]; exact Nat.le_trans (Nat.div_le_self _ _) (by omega)
          have hsg : (fromL sz P)[i]? = some fr := by
            unfold fromL
            rw [List.getElem?_map, starts_get P 0 i hpi]
            simp [hfr, hpos]
          have htg : (toL sz P)[i]? = some tt := by
            unfold toL
            rw [List.getElem?_map, ends_get P 0 i hpi]
            simp [htt, hpos, hpe]
          have HRr := HRZ.out.below HBZ.out (by rw [← HZZ.out]; exact Nat.le_refl _)
          obtain ⟨hnF, -, bF, oF, rfl, cF2⟩ := nat_row (HRr.row 1 rfl) hsg
          obtain ⟨hnT, -, bT, oT, rfl, cT2⟩ := nat_row (HRr.row 2 rfl) htg
          have hnF' : nF = n := (show nF = P.length from hnF).trans HPL.out
          have hnT' : nT = n := (show nT = P.length from hnT).trans HPL.out
          have gF : (i : Int) < (nF : Int) := by omega
          have gT : (i : Int) < (nT : Int) := by omega
          clear hnF hnT hnF' hnT'
          have hKr := HKZ.out.below HBZ.out (by rw [← HZZ.out]; exact Nat.le_refl _)
          have k1 := hKr.at 1 rfl
          have k2 := hKr.at 2 rfl
          have kl := hKr.lt
          have hIrr := own_below HSZ.out.idl HBZ.out (by rw [← HZZ.out]; exact Nat.le_refl _)
          obtain ⟨hil, aI, cI, he, -, -, hVI, -⟩ := VAt.of_row hIrr
          simp only [Value.slice.injEq] at he
          obtain ⟨rfl, hnI, rfl⟩ := he
          have hiI : i < I.length := by rw [HIL.out]; exact hlt
          obtain ⟨bI, oI, rfl, -, cI2⟩ := hVI.bool hiI
          have hnI2 : n12 = n := by rw [hnI]; simp [bvs, HIL.out]
          obtain ⟨id, hid⟩ : ∃ id, id = idB A i := ⟨_, rfl⟩
          have hIi : I[i] = id := by
            have h9 : I[i]? = some (idB A i) := by rw [HII.out]; simp [idsB, hlt]
            rw [hid]
            exact (List.getElem?_eq_some_iff.1 h9).2
          rw [hIi] at cI2
          have hnI3 : (i : Int) < (n12 : Int) := by omega
          have HPA2 := Lib.hid (HPA.out.below (HSZ.out.below.trans (HBZ.out.mono hwZ9)) (Nat.le_refl _))
          have hpa : apid p ≠ 2047 ↔ id = false := by
            have h9 : P[i]? = some (pkB L A i) := by rw [HP.out]; exact sentB_get hlt
            rw [hp] at h9
            cases h9
            have hfit := HF.out i (by omega) (by rw [← HN.out]; exact hlt)
            rw [hid]
            exact (pkB_wf (by rw [← HN.out]; exact hlt) (by omega) hfit.1 hfit.2).2.2
          have HID := Lib.hid hid
          have HPAP := Lib.hid hpa
          have HPI := Lib.hid hp
          have HPOS := Lib.hid hpos
          have HFR := Lib.hid hfr
          have HTT := Lib.hid htt
          have HPW := Lib.hid hpw
          have hp1 : 1 ≤ p.length := by omega
          clear hIrr hil hnI hVI hIi hid hpa hp hpe hpos hfr htt hpw hsg htg HRr hKr hpi hnI2 hiI
          go_wp2_with fail
          go_loop [19, 20] (fun v19 v20 => ∃ (q : Nat) (wh : Bool), fr ≤ q ∧ q ≤ tt + 1 ∧ v20 = .int .i64 (q : Int) ∧ v19 = .bool wh ∧ Hid (wh = true ↔ (id = false ∧ ∀ r, fr ≤ r → r < q → lostB pt r = false))) (fun _ v20 => tt + 1 - (intOf v20).toNat)
          case atStart => exact ⟨fr, !id, Nat.le_refl _, by omega, rfl, rfl, Lib.hid (by cases id <;> simp <;> omega)⟩
          case round =>
            obtain ⟨q, wh, hq1, hq2, rfl, rfl, HWH⟩ := hrel
            by_cases hqt : q ≤ tt
            · have g5 : (q : Int) ≤ (tt : Int) := by omega
              cases wh with
              | false =>
                go_wp2_with fail
                go_round
                case rel => exact ⟨q + 1, false, by omega, by omega, by go_num, rfl, Lib.hid (by
                  constructor
                  · intro h; cases h
                  · intro h; exact HWH.out.2 ⟨h.1, fun r h1 h2 => h.2 r h1 (by omega)⟩)⟩
                case measure => simp [intOf]; omega
              | true =>
                go_wp2_with fail
                refine (lost_n capP pt q _ HNPT.out (by omega) (by omega) HPA2.out).mono ?_
                rintro e wx ⟨rfl, hw⟩
                obtain rfl := hw.symm
                obtain ⟨lb, hlb⟩ : ∃ x, x = lostB pt q := ⟨_, rfl⟩
                rw [← hlb]
                have HLB := Lib.hid hlb
                clear hlb
                go_wp2_with fail
                go_round
                case rel => exact ⟨q + 1, !lb, by omega, by omega, by go_num, rfl, Lib.hid (by
                  obtain ⟨h1, h2⟩ := HWH.out.1 (by simp)
                  constructor
                  · intro h
                    refine ⟨h1, fun r h3 h4 => ?_⟩
                    by_cases e : r < q
                    · exact h2 r h3 e
                    · obtain rfl : r = q := by omega
                      rw [← HLB.out]
                      simpa using h
                  · intro h
                    have := h.2 q hq1 (by omega)
                    rw [← HLB.out] at this
                    rw [this]
                    rfl)⟩
                case measure => simp [intOf]; omega
            · have g5 : ¬ (q : Int) ≤ (tt : Int) := by omega
              have hqe : q = tt + 1 := by omega
              have hwant : Hid (want (lostB pt) sz 0 (P.take (i + 1)) = want (lostB pt) sz 0 (P.take i) ++ (if wh = true then [p] else [])) := Lib.hid (by
                obtain ⟨hpl, hpe⟩ := List.getElem?_eq_some_iff.1 HPI.out
                rw [List.take_succ_eq_append_getElem hpl, hpe, want_snoc, ← HPOS.out]
                have hc : (decide (apid p ≠ 2047) && seen (lostB pt) sz pos p.length) = wh := by
                  rw [Bool.eq_iff_iff, Bool.and_eq_true, decide_eq_true_iff, seen_iff, HWH.out, HPAP.out]
                  constructor
                  · rintro ⟨h1, h2⟩
                    exact ⟨h1, fun r h3 h4 => h2 r (by rw [← HFR.out]; exact h3) (by rw [← HTT.out]; omega)⟩
                  · rintro ⟨h1, h2⟩
                    exact ⟨h1, fun r h3 h4 => h2 r (by rw [HFR.out]; exact h3) (by rw [← HTT.out] at h4; omega)⟩
                rw [hc])
              cases wh with
              | false =>
                have hw2 : Hid (want (lostB pt) sz 0 (P.take (i + 1)) = want (lostB pt) sz 0 (P.take i)) := Lib.hid (by rw [hwant.out]; simp)
                go_wp2_with fail
                go_roundw
                case rel => exact ⟨i + 1, us, by omega, by go_num, by rw [hw2.out]; exact HWR, by rw [hw2.out]; exact HWS, HBZ⟩
                case measure => simp [intOf]; omega
              | true =>
                have hw2 : Hid (want (lostB pt) sz 0 (P.take (i + 1)) = want (lostB pt) sz 0 (P.take i) ++ [p]) := Lib.hid (by rw [hwant.out]; simp)
                obtain ⟨bP, oP, cP, ap, cp2, he, -, -, hbP, hcell, hpc, hpm, hpA, hpS⟩ := HSAZ.out.get (i := i) (by rw [HPL.out]; exact hlt)
                simp only [Value.slice.injEq] at he
                obtain ⟨rfl, -, rfl⟩ := he
                have hpe : P[i]'(by rw [HPL.out]; exact hlt) = p := (List.getElem?_eq_some_iff.1 HPI.out).2
                rw [hpe] at hcell hpc hpA hpS
                obtain ⟨pl, hpl⟩ : ∃ x, x = p.length := ⟨_, rfl⟩
                have HX3 : Hid (Sl wZ (fun q => Z ≤ q) (.slice ap pl cp2) p) := Lib.hid ⟨ap, cp2, by rw [hpl], hpc, hpm, hpA, hpS⟩
                rw [← hpl] at hcell
                have cS2 : wr.cell? ⟨bP, oP + i, none⟩ = some (.slice ap pl cp2) := (HBZ.out.cell (p := ⟨bP, _, none⟩) (by rw [HZZ.out]; exact hbP)).trans hcell
                obtain ⟨wn, hwn⟩ : ∃ x, x = (want (lostB pt) sz 0 (P.take i)).length := ⟨_, rfl⟩
                have hwn40 : wn ≤ 40 := by
                  have h9 := want_len (lostB pt) sz (P.take i) 0
                  rw [List.length_take] at h9
                  omega
                have HWN := Lib.hid hwn
                rw [← hwn] at HWR
                have hs1 : Z ≤ (wr.alloc (.cells #[.slice ap pl cp2] 23)).heap.size := Nat.le_trans hzs (al (Below.refl _ _) _).size
                clear hpe hcell hpc hpA hpS hpl hwn
                go_wp2_with (at_builtin; refine wpList_append_src _ rfl (.tmp 136) (.tmp 141) 22 rfl Z 23 j1 (.slice none 0 0) 24 Try.underlying22 HJ1.out hz0 hz1 hz2 (by rfl) _ wn us rfl (own_below HWR.out (al (Below.refl _ _) _) (Nat.le_refl _)) (some ⟨wr.heap.size, 0, none⟩) 1 1 [.slice ap pl cp2] rfl (by rfl) (one_vat wr _ 23) (by simp [Value.oneCell']) (by unfold maxLen; omega) (by omega) hs1 ?_)
                intro v7 w7 hown7 hgrow7 hblk7
                obtain ⟨a7, n7, c7, rfl⟩ := own_sliceC hown7
                have hal7 : Below wr.heap.size wr (wr.alloc (.cells #[.slice ap pl cp2] 23)) := al (Below.refl _ _) _
                have HBZ7 : Hid (Below Z wZ w7) := Lib.hid ((HBZ.out.trans (hal7.mono hzs)).grown hgrow7 hs1 (fun q hq => (HWR.out.lt q hq).1))
                have HW7 : Hid (w7.ownsRow Z 23 1 (.slice a7 n7 c7) (want (lostB pt) sz 0 (P.take (i + 1))).length (us ++ [.slice ap pl cp2])) := Lib.hid (by rw [hw2.out, List.length_append, ← HWN.out]; exact hown7)
                have HS7 : Hid (Sls wZ (fun q => Z ≤ q) (us ++ [.slice ap pl cp2]) (want (lostB pt) sz 0 (P.take (i + 1)))) := Lib.hid (by rw [hw2.out]; exact HWS.out.append (Sls.one HX3.out))
                clear hown7 hgrow7 hblk7 hal7
                go_wp2_with fail
                go_roundw
                case rel => exact ⟨i + 1, _, by omega, by go_num, HW7, HS7, HBZ7⟩
                case measure => simp [intOf]; omega
        · obtain rfl : n = i := by omega
          have g4 : ¬ (n : Int) < (n : Int) := by omega
          have hta : P.take n = P := List.take_of_length_le (by rw [HPL.out]; exact Nat.le_refl _)
          rw [hta] at HWR HWS
          clear hta
          obtain ⟨wo, hwo⟩ : ∃ wo, wo = wr := ⟨wr, rfl⟩
          subst hwo
          have hKo := HKZ.out.below HBZ.out (by rw [← HZZ.out]; exact Nat.le_refl _)
          have HRo := Lib.hid (HRZ.out.below HBZ.out (by rw [← HZZ.out]; exact Nat.le_refl _))
          have HKo := Lib.hid hKo
          have HBo : Hid (Below w.heap.size w wo) := Lib.hid (HSZ.out.below.trans (HBZ.out.mono hwZ9))
          have hbo : bp < wo.heap.size := by omega
          have hwfo : ∀ p ∈ P, WF p := fun p hp => (HWF.out p hp).1
          have HWO := Lib.hid hwfo
          have htp : tl = P.flatten.length := HTL.out
          have HTP := Lib.hid htp
          clear hKo hwfo htp c0 cl
          go_wp2_with fail
          refine (new_any _).mono ?_
          rintro e w3 ⟨rfl, hU, hB⟩
          have HG := Lib.hid (GF.start hU hB)
          clear hU hB
          go_wp2_with fail
          go_loopw [17, 22, 23, 24] (fun vg vb vm vk wr2 => ∃ (k : Nat) (u : US) (au : Option Addr) (cap : Nat) (fs : List (List UInt8)) (vs : List Value) (bef : Option Nat) (miss : Nat) (done qs : List (List UInt8)) (o : Nat), k ≤ nE ∧ vk = .int .i64 (k : Int) ∧ vb = .int .i64 (befI bef) ∧ vm = .int .i64 (miss : Int) ∧ Hid (GF wo wr2 u au cap fs vg vs) ∧ Hid (Inv (lostB pt) sz ti P k u bef fs miss done qs o) ∧ Hid ((0 ≤ u.next ∧ u.next < 256) ∧ u.rest.length ≤ 4096) ∧ Hid (∀ j, bef = some j → miss ≤ j ∧ j < k)) (fun _ _ _ vk _ => nE - (intOf vk).toNat)
          case atStart => exact ⟨0, US.new, none, 0, [], [], none, 0, [], P, 0, Nat.zero_le _, rfl, rfl, rfl, HG, Lib.hid (inv_start _ _ _ _), Lib.hid ⟨by decide, by decide⟩, Lib.hid (fun j h => by cases h)⟩
          case round =>
            obtain ⟨k, u, au, cap2, fs, vs, bef, miss, done, qs, o, hk, rfl, rfl, rfl, HGk, HI, HNR, HMB⟩ := hrel
            obtain ⟨aG, nG, cG, rfl⟩ := own_sliceC HGk.out.got
            have hszr := HGk.out.below.size
            have hKr := HKo.out.below HGk.out.below (Nat.le_refl _)
            have c0 := hKr.at 0 rfl
            have cl := hKr.lt
            have HKr := Lib.hid hKr
            clear hKr
            by_cases hlt : k < nE
            · have g5 : (k : Int) < (nE : Int) := by omega
              have hksz : k * sz < P.flatten.length := by
                rw [← HTP.out]
                rcases hnf2 with h | h
                · omega
                · exact Nat.lt_of_le_of_lt (Nat.mul_le_mul_right sz (by omega)) h
              have HKSZ := Lib.hid hksz
              have HPA2 := Lib.hid (HPA.out.below (HBo.out.trans (HGk.out.below.mono HBo.out.size)) (Nat.le_refl _))
              have hnp : np ≤ 100000 := by omega
              have hk2 : k ≤ 100000 := by omega
              clear hksz
              cases hlb : lostB pt k with
              | true =>
                have HLB := Lib.hid hlb
                go_wp2_with fail
                refine (lost_n capP pt k _ HNPT.out hk2 hnp HPA2.out).mono ?_
                rw [hlb]
                rintro e wx ⟨rfl, hw⟩
                obtain rfl := hw.symm
                go_wp2_with fail
                go_roundw
                case rel => exact ⟨k + 1, u, au, cap2, fs, vs, bef, miss, _, _, _, by omega, by go_num, rfl, rfl, HGk, Lib.hid (inv_lost HWO.out HI.out hszA HKSZ.out HLB.out), HNR, Lib.hid (fun j h => by have := HMB.out j h; omega)⟩
                case measure => simp [intOf]; omega
              | false =>
                have HLB := Lib.hid hlb
                obtain ⟨m, hmm⟩ : ∃ m, m = flen sz P.flatten.length k := ⟨_, rfl⟩
                obtain ⟨hf1, hf2, hf3⟩ := inv_field HI.out HWO.out hszA HKSZ.out
                have hrv := inv_recv HWO.out HI.out hszA HKSZ.out HLB.out (by omega) (by have : flen sz P.flatten.length k ≤ sz := Nat.min_le_left _ _; omega)
                rw [← hmm] at hf1 hf2 hf3 hrv
                obtain ⟨D, hD⟩ : ∃ D, D = (qs.flatten.drop o).take m := ⟨_, rfl⟩
                obtain ⟨ff, hff⟩ : ∃ f, f = fp qs o m := ⟨_, rfl⟩
                obtain ⟨cc, hcc⟩ : ∃ c, c = (ti + k) % 256 := ⟨_, rfl⟩
                rw [← hD] at hf2 hf3 hrv
                rw [← hff] at hf1 hrv
                rw [← hcc] at hrv
                obtain ⟨R, hR⟩ : ∃ R, R = u.take (cc : Int) ff D := ⟨_, rfl⟩
                rw [← hR] at hrv
                obtain ⟨u', outs⟩ := R
                dsimp only at hrv
                have HR := Lib.hid hR.symm
                have HRV := Lib.hid hrv
                have hmsz : m ≤ 60 := by rw [hmm]; have : flen sz P.flatten.length k ≤ sz := Nat.min_le_left _ _; omega
                obtain ⟨at_, hat⟩ : ∃ x, x = k * sz := ⟨_, rfl⟩
                have hm9 : min sz (tl - k * sz) = m := by rw [hmm, HTP.out]; rfl
                have hRr := HRo.out.below HGk.out.below (Nat.le_refl _)
                obtain ⟨-, hro⟩ := own_many (HRo.out.row 0 rfl)
                have hro2 := hro.resolve_left (by dsimp only; omega)
                obtain ⟨gE, rfl, -, hgE, hcells⟩ := hro2
                have hce : ∀ i, i < 3 → wr.cell? ⟨gE, k * 3 + i, none⟩ = (fcell gS cS sz ti tl (starts 0 P) k)[i]? := fun i hi => by
                  rw [HGk.out.below.cell (p := ⟨gE, k * 3 + i, none⟩) hgE, hcells (k * 3 + i) (by dsimp only; omega)]
                  dsimp only
                  rw [HTP.out]
                  exact fcells_get _ _ _ _ _ _ _ _ _ hlt hi
                have d0 : wr.cell? ⟨gE, k * 3, none⟩ = some (.int .i64 (cc : Int)) := (hce 0 (by omega)).trans (by rw [hcc]; rfl)
                have d1 : wr.cell? ⟨gE, k * 3 + 1, none⟩ = some (.int .i64 ff) := (hce 1 (by omega)).trans (by rw [← hf1]; rfl)
                have d2 : wr.cell? ⟨gE, k * 3 + 2, none⟩ = some (.slice (some ⟨gS, at_, none⟩) m (cS - at_)) := (hce 2 (by omega)).trans (by rw [← hm9, hat]; rfl)
                have htl0 : aS = some ⟨gS, 0, none⟩ := hgS.resolve_left (by have := HKSZ.out; have := HTP.out; omega)
                subst htl0
                obtain ⟨-, a9, c9, he9, -, -, hba⟩ := BAt.of_row (hRr.row 3 rfl)
                simp only [Value.slice.injEq] at he9
                obtain ⟨rfl, -, rfl⟩ := he9
                have HDA : Hid (BAt wr (some ⟨gS, at_, none⟩) D) := Lib.hid (by
                  have h9 := hba.sub at_ m
                  rw [Nat.zero_add, hat, hf2] at h9
                  rw [hat]
                  exact h9)
                have HDL := Lib.hid hf3
                have hcd : m ≤ cS - at_ := by
                  have h8 := HKSZ.out
                  have h7 := HTP.out
                  rw [← hm9, hat]
                  omega
                have hcm9 : cS - at_ ≤ maxLen := by omega
                have HCM := Lib.hid hcm9
                have HAT := Lib.hid hat
                have hlen : fs.length + outs.length ≤ n := by
                  obtain ⟨_, _, _, h⟩ := HRV.out
                  have h9 := inv_len h
                  rw [List.length_append, HPL.out] at h9
                  exact h9
                have hbnd := inv_bound HI.out HMB.out (by omega)
                have HBND := Lib.hid hbnd
                have hq1 : Below wr.heap.size wr wr.drew := Quiet.below ⟨1, rfl⟩
                have HGd : Hid (GF wo wr.drew u au cap2 fs _ vs) := Lib.hid (HGk.out.step hq1)
                have HDAd : Hid (BAt wr.drew (some ⟨gS, at_, none⟩) D) := Lib.hid (HDA.out.below hq1 (Nat.le_refl _))
                have hfl40 : fs.length ≤ 40 := by omega
                have hol40 : outs.length ≤ 40 := by omega
                clear hlb hmm hf1 hf2 hf3 hrv hD hff hcc hR hat hm9 hRr hro hcells hce hba hcm9 hbnd hq1
                obtain ⟨done', qs', o', hI'⟩ := HRV.out
                have HI' := Lib.hid hI'
                clear hI'
                cases bef with
                | none =>
                  have hms0 : miss = 0 := by
                    rcases HI.out.cnt with ⟨-, -, -, -, h⟩ | ⟨j, h, -⟩
                    · exact h
                    · cases h
                  subst hms0
                  rw [show befI none = (-1 : Int) from rfl]
                  have HMS : Hid (∀ j, some k = some j → 0 + gap none k ≤ j ∧ j < k + 1) := Lib.hid (fun j h => by cases h; exact ⟨Nat.zero_le _, Nat.lt_succ_self _⟩)
                  go_wp2_with fail
                  refine (lost_n capP pt k _ HNPT.out hk2 hnp HPA2.out).mono ?_
                  rw [HLB.out]
                  rintro e wx ⟨rfl, hw⟩
                  obtain rfl := hw.symm
                  go_upto_region 39 with fail
                  refine wp_region_held_drew (S := (fun w' => w'.cell? ⟨bp, 0, none⟩ = some (.slice (some ⟨gE, 0, none⟩) nE cE) ∧ w'.cell? ⟨gE, k * 3, none⟩ = some (.int .i64 (cc : Int)) ∧ w'.cell? ⟨gE, k * 3 + 1, none⟩ = some (.int .i64 ff) ∧ w'.cell? ⟨gE, k * 3 + 2, none⟩ = some (.slice (some ⟨gS, at_, none⟩) m (cS - at_)))) (by kernel_rfl) (by (try dsimp only); (first | exact ⟨by assumption, by assumption, by assumption, by assumption⟩ | go_keep)) (fun hHeld => ?_)
                  refine wpAnyH_take (i := 0) (oi := (Oper.mk (some 163) (Op.move (Operand.tmp 17)) 22 "law.go:144" #[] none)) (v := ?_) rfl (by kernel_rfl) (by kernel_rfl) (by kernel_rfl) (fun _ _ _ h => h) (Or.inl ⟨by rfl, ?_⟩) (by assumption) ?_
                  rotate_left
                  · (intro w hSw; (try dsimp only at hSw); go_simp; first | done | with_reducible rfl)
                  (try simp only [Act.put, List.setIfInBounds_toArray, List.set_cons_zero, List.set_cons_succ])
                  refine wpAnyH_take (i := 1) (oi := (Oper.mk (some 164) (Op.move (Operand.tmp 21)) 33 "law.go:144" #[] none)) (v := ?_) rfl (by kernel_rfl) (by kernel_rfl) (by kernel_rfl) (fun _ _ _ h => h) (Or.inl ⟨by rfl, ?_⟩) (by assumption) ?_
                  rotate_left
                  · (intro w hSw; (try dsimp only at hSw); go_simp; first | done | with_reducible rfl)
                  (try simp only [Act.put, List.setIfInBounds_toArray, List.set_cons_zero, List.set_cons_succ])
                  refine wpAnyH_take (i := 2) (oi := (Oper.mk (some 165) (Op.fieldAddr 30 (Operand.tmp 15) 0) 0 "law.go:144" #[] none)) (v := ?_) rfl (by kernel_rfl) (by kernel_rfl) (by kernel_rfl) (fun _ _ _ h => h) (Or.inl ⟨by rfl, ?_⟩) (by assumption) ?_
                  rotate_left
                  · (intro w hSw; (try dsimp only at hSw); go_simp; first | done | with_reducible rfl)
                  (try simp only [Act.put, List.setIfInBounds_toArray, List.set_cons_zero, List.set_cons_succ])
                  refine wpAnyH_take (i := 3) (oi := (Oper.mk (some 166) (Op.load 27 (Operand.tmp 165)) 27 "law.go:144" #[Edge.mk 2 Ground.data] none)) (v := ?_) rfl (by kernel_rfl) (by kernel_rfl) (by kernel_rfl) (fun _ _ _ h => h) (Or.inl ⟨by rfl, ?_⟩) (by assumption) ?_
                  rotate_left
                  · (intro w hSw; (try dsimp only at hSw); go_simp; first | done | with_reducible rfl)
                  (try simp only [Act.put, List.setIfInBounds_toArray, List.set_cons_zero, List.set_cons_succ])
                  refine wpAnyH_take (i := 4) (oi := (Oper.mk (some 167) (Op.move (Operand.tmp 24)) 3 "law.go:144" #[] none)) (v := ?_) rfl (by kernel_rfl) (by kernel_rfl) (by kernel_rfl) (fun _ _ _ h => h) (Or.inl ⟨by rfl, ?_⟩) (by assumption) ?_
                  rotate_left
                  · (intro w hSw; (try dsimp only at hSw); go_simp; first | done | with_reducible rfl)
                  (try simp only [Act.put, List.setIfInBounds_toArray, List.set_cons_zero, List.set_cons_succ])
                  refine wpAnyH_take (i := 5) (oi := (Oper.mk (some 168) (Op.indexAddr 27 (Operand.tmp 166) (Operand.tmp 167)) 0 "law.go:144" #[Edge.mk 3 Ground.data, Edge.mk 4 Ground.data] none)) (v := ?_) rfl (by kernel_rfl) (by kernel_rfl) (by kernel_rfl) (fun _ _ _ h => h) (Or.inl ⟨by rfl, ?_⟩) (by assumption) ?_
                  rotate_left
                  · (intro w hSw; (try dsimp only at hSw); go_simp; first | done | with_reducible rfl)
                  (try simp only [Act.put, List.setIfInBounds_toArray, List.set_cons_zero, List.set_cons_succ])
                  refine wpAnyH_take (i := 6) (oi := (Oper.mk (some 169) (Op.fieldAddr 37 (Operand.tmp 168) 0) 0 "law.go:144" #[Edge.mk 5 Ground.data] none)) (v := ?_) rfl (by kernel_rfl) (by kernel_rfl) (by kernel_rfl) (fun _ _ _ h => h) (Or.inl ⟨by rfl, ?_⟩) (by assumption) ?_
                  rotate_left
                  · (intro w hSw; (try dsimp only at hSw); go_simp; first | done | with_reducible rfl)
                  (try simp only [Act.put, List.setIfInBounds_toArray, List.set_cons_zero, List.set_cons_succ])
                  refine wpAnyH_take (i := 7) (oi := (Oper.mk (some 170) (Op.load 3 (Operand.tmp 169)) 3 "law.go:144" #[Edge.mk 6 Ground.data] none)) (v := ?_) rfl (by kernel_rfl) (by kernel_rfl) (by kernel_rfl) (fun _ _ _ h => h) (Or.inl ⟨by rfl, ?_⟩) (by assumption) ?_
                  rotate_left
                  · (intro w hSw; (try dsimp only at hSw); go_simp; first | done | with_reducible rfl)
                  (try simp only [Act.put, List.setIfInBounds_toArray, List.set_cons_zero, List.set_cons_succ])
                  refine wpAnyH_take (i := 8) (oi := (Oper.mk (some 171) (Op.fieldAddr 30 (Operand.tmp 15) 0) 0 "law.go:144" #[] none)) (v := ?_) rfl (by kernel_rfl) (by kernel_rfl) (by kernel_rfl) (fun _ _ _ h => h) (Or.inl ⟨by rfl, ?_⟩) (by assumption) ?_
                  rotate_left
                  · (intro w hSw; (try dsimp only at hSw); go_simp; first | done | with_reducible rfl)
                  (try simp only [Act.put, List.setIfInBounds_toArray, List.set_cons_zero, List.set_cons_succ])
                  refine wpAnyH_take (i := 9) (oi := (Oper.mk (some 172) (Op.load 27 (Operand.tmp 171)) 27 "law.go:144" #[Edge.mk 8 Ground.data] none)) (v := ?_) rfl (by kernel_rfl) (by kernel_rfl) (by kernel_rfl) (fun _ _ _ h => h) (Or.inl ⟨by rfl, ?_⟩) (by assumption) ?_
                  rotate_left
                  · (intro w hSw; (try dsimp only at hSw); go_simp; first | done | with_reducible rfl)
                  (try simp only [Act.put, List.setIfInBounds_toArray, List.set_cons_zero, List.set_cons_succ])
                  refine wpAnyH_take (i := 10) (oi := (Oper.mk (some 173) (Op.move (Operand.tmp 24)) 3 "law.go:144" #[] none)) (v := ?_) rfl (by kernel_rfl) (by kernel_rfl) (by kernel_rfl) (fun _ _ _ h => h) (Or.inl ⟨by rfl, ?_⟩) (by assumption) ?_
                  rotate_left
                  · (intro w hSw; (try dsimp only at hSw); go_simp; first | done | with_reducible rfl)
                  (try simp only [Act.put, List.setIfInBounds_toArray, List.set_cons_zero, List.set_cons_succ])
                  refine wpAnyH_take (i := 11) (oi := (Oper.mk (some 174) (Op.indexAddr 27 (Operand.tmp 172) (Operand.tmp 173)) 0 "law.go:144" #[Edge.mk 9 Ground.data, Edge.mk 10 Ground.data] none)) (v := ?_) rfl (by kernel_rfl) (by kernel_rfl) (by kernel_rfl) (fun _ _ _ h => h) (Or.inl ⟨by rfl, ?_⟩) (by assumption) ?_
                  rotate_left
                  · (intro w hSw; (try dsimp only at hSw); go_simp; first | done | with_reducible rfl)
                  (try simp only [Act.put, List.setIfInBounds_toArray, List.set_cons_zero, List.set_cons_succ])
                  refine wpAnyH_take (i := 12) (oi := (Oper.mk (some 175) (Op.fieldAddr 37 (Operand.tmp 174) 1) 0 "law.go:144" #[Edge.mk 11 Ground.data] none)) (v := ?_) rfl (by kernel_rfl) (by kernel_rfl) (by kernel_rfl) (fun _ _ _ h => h) (Or.inl ⟨by rfl, ?_⟩) (by assumption) ?_
                  rotate_left
                  · (intro w hSw; (try dsimp only at hSw); go_simp; first | done | with_reducible rfl)
                  (try simp only [Act.put, List.setIfInBounds_toArray, List.set_cons_zero, List.set_cons_succ])
                  refine wpAnyH_take (i := 13) (oi := (Oper.mk (some 176) (Op.load 3 (Operand.tmp 175)) 3 "law.go:144" #[Edge.mk 12 Ground.data] none)) (v := ?_) rfl (by kernel_rfl) (by kernel_rfl) (by kernel_rfl) (fun _ _ _ h => h) (Or.inl ⟨by rfl, ?_⟩) (by assumption) ?_
                  rotate_left
                  · (intro w hSw; (try dsimp only at hSw); go_simp; first | done | with_reducible rfl)
                  (try simp only [Act.put, List.setIfInBounds_toArray, List.set_cons_zero, List.set_cons_succ])
                  refine wpAnyH_take (i := 14) (oi := (Oper.mk (some 177) (Op.fieldAddr 30 (Operand.tmp 15) 0) 0 "law.go:144" #[] none)) (v := ?_) rfl (by kernel_rfl) (by kernel_rfl) (by kernel_rfl) (fun _ _ _ h => h) (Or.inl ⟨by rfl, ?_⟩) (by assumption) ?_
                  rotate_left
                  · (intro w hSw; (try dsimp only at hSw); go_simp; first | done | with_reducible rfl)
                  (try simp only [Act.put, List.setIfInBounds_toArray, List.set_cons_zero, List.set_cons_succ])
                  refine wpAnyH_take (i := 15) (oi := (Oper.mk (some 178) (Op.load 27 (Operand.tmp 177)) 27 "law.go:144" #[Edge.mk 14 Ground.data] none)) (v := ?_) rfl (by kernel_rfl) (by kernel_rfl) (by kernel_rfl) (fun _ _ _ h => h) (Or.inl ⟨by rfl, ?_⟩) (by assumption) ?_
                  rotate_left
                  · (intro w hSw; (try dsimp only at hSw); go_simp; first | done | with_reducible rfl)
                  (try simp only [Act.put, List.setIfInBounds_toArray, List.set_cons_zero, List.set_cons_succ])
                  refine wpAnyH_take (i := 16) (oi := (Oper.mk (some 179) (Op.move (Operand.tmp 24)) 3 "law.go:144" #[] none)) (v := ?_) rfl (by kernel_rfl) (by kernel_rfl) (by kernel_rfl) (fun _ _ _ h => h) (Or.inl ⟨by rfl, ?_⟩) (by assumption) ?_
                  rotate_left
                  · (intro w hSw; (try dsimp only at hSw); go_simp; first | done | with_reducible rfl)
                  (try simp only [Act.put, List.setIfInBounds_toArray, List.set_cons_zero, List.set_cons_succ])
                  refine wpAnyH_take (i := 17) (oi := (Oper.mk (some 180) (Op.indexAddr 27 (Operand.tmp 178) (Operand.tmp 179)) 0 "law.go:144" #[Edge.mk 15 Ground.data, Edge.mk 16 Ground.data] none)) (v := ?_) rfl (by kernel_rfl) (by kernel_rfl) (by kernel_rfl) (fun _ _ _ h => h) (Or.inl ⟨by rfl, ?_⟩) (by assumption) ?_
                  rotate_left
                  · (intro w hSw; (try dsimp only at hSw); go_simp; first | done | with_reducible rfl)
                  (try simp only [Act.put, List.setIfInBounds_toArray, List.set_cons_zero, List.set_cons_succ])
                  refine wpAnyH_take (i := 18) (oi := (Oper.mk (some 181) (Op.fieldAddr 37 (Operand.tmp 180) 2) 0 "law.go:144" #[Edge.mk 17 Ground.data] none)) (v := ?_) rfl (by kernel_rfl) (by kernel_rfl) (by kernel_rfl) (fun _ _ _ h => h) (Or.inl ⟨by rfl, ?_⟩) (by assumption) ?_
                  rotate_left
                  · (intro w hSw; (try dsimp only at hSw); go_simp; first | done | with_reducible rfl)
                  (try simp only [Act.put, List.setIfInBounds_toArray, List.set_cons_zero, List.set_cons_succ])
                  refine wpAnyH_take (i := 19) (oi := (Oper.mk (some 182) (Op.load 23 (Operand.tmp 181)) 23 "law.go:144" #[Edge.mk 18 Ground.data] none)) (v := ?_) rfl (by kernel_rfl) (by kernel_rfl) (by kernel_rfl) (fun _ _ _ h => h) (Or.inl ⟨by rfl, ?_⟩) (by assumption) ?_
                  rotate_left
                  · (intro w hSw; (try dsimp only at hSw); go_simp; first | done | with_reducible rfl)
                  (try simp only [Act.put, List.setIfInBounds_toArray, List.set_cons_zero, List.set_cons_succ])
                  refine wpAnyH_ready (rs := [20]) (by kernel_rfl) (by simp) ?_
                  refine AllReadyH.cons (o := (Oper.mk (some 183) (Op.call (Call.mk (Callee.value (Operand.func 12)) #[Operand.tmp 164, Operand.tmp 170, Operand.tmp 176, Operand.tmp 182] #[33, 3, 3, 23])) 22 "law.go:144" #[Edge.mk 1 Ground.data, Edge.mk 7 Ground.data, Edge.mk 13 Ground.data, Edge.mk 19 Ground.data] none)) rfl (fun K hK => ?_) (AllReadyH.nil)
                  go_simp
                  (go_at_call 12; refine (take_back HR.out HGd.out HNR.out.1 HBND.out HNR.out.2 HDAd.out HDL.out (by omega) hcd HCM.out).mono ?_; rintro e w4 ⟨a5, c5, us5, a4, cap4, rfl, HG4, HV5, HSL5, HCELL, HSZ4, HNR4⟩; have x0 := (HCELL.out bp 0 hbo).trans c0; have x1 := (HCELL.out gE (k * 3) hgE).trans d0; have x2 := (HCELL.out gE (k * 3 + 1) hgE).trans d1; have x3 := (HCELL.out gE (k * 3 + 2) hgE).trans d2)
                  refine hK.out _ _ (by (try dsimp only); (first | exact ⟨by assumption, by assumption, by assumption, by assumption⟩ | go_keep)) (fun hHeld => ?_)
                  clear hK K
                  (try simp only [Act.put, List.setIfInBounds_toArray, List.set_cons_zero, List.set_cons_succ])
                  refine wpAnyH_ready (rs := [21]) (by kernel_rfl) (by simp) ?_
                  refine AllReadyH.cons (o := (Oper.mk (some 184) (Op.call (Call.mk (Callee.builtin Builtin.append) #[Operand.tmp 163, Operand.tmp 183] #[22, 22])) 22 "law.go:144" #[Edge.mk 0 Ground.data, Edge.mk 20 Ground.data, Edge.mk 20 Ground.chain] none)) rfl (fun K hK => ?_) (AllReadyH.nil)
                  (refine step_append_src _ (by rfl) (.tmp 163) (.tmp 183) 22 (by rfl) (wo.heap.size + 1) 23 j1 (.slice none 0 0) 24 Try.underlying22 HJ1.out hz0 hz1 hz2 (by rfl) _ fs.length vs (by rfl) HG4.out.got a5 outs.length c5 us5 (by rfl) HSL5.out.1 HV5.out HSL5.out.one_cell (by unfold maxLen; omega) (by omega) HSZ4.out ?_; intro v6 w6 hown6 hgrow6 hblk6; have HG6 := Lib.hid (HG4.out.more HSL5.out hown6 hgrow6 hblk6); obtain ⟨a6, n6, c6, rfl⟩ := own_sliceC hown6; have y0 := (HG6.out.below.cell (p := ⟨bp, 0, none⟩) hbo).trans ((HGk.out.below.cell (p := ⟨bp, 0, none⟩) hbo).symm.trans c0); have y1 := (HG6.out.below.cell (p := ⟨gE, k * 3, none⟩) hgE).trans ((HGk.out.below.cell (p := ⟨gE, k * 3, none⟩) hgE).symm.trans d0); have y2 := (HG6.out.below.cell (p := ⟨gE, k * 3 + 1, none⟩) hgE).trans ((HGk.out.below.cell (p := ⟨gE, k * 3 + 1, none⟩) hgE).symm.trans d1); have y3 := (HG6.out.below.cell (p := ⟨gE, k * 3 + 2, none⟩) hgE).trans ((HGk.out.below.cell (p := ⟨gE, k * 3 + 2, none⟩) hgE).symm.trans d2); clear hown6 hgrow6 hblk6)
                  refine hK.out _ _ (by (try dsimp only); (first | exact ⟨by assumption, by assumption, by assumption, by assumption⟩ | go_keep)) (fun hHeld => ?_)
                  clear hK K
                  (try simp only [Act.put, List.setIfInBounds_toArray, List.set_cons_zero, List.set_cons_succ])
                  refine wpAnyH_take (i := 22) (oi := (Oper.mk (some 17) (Op.assign (Operand.tmp 184)) 22 "law.go:144" #[Edge.mk 21 Ground.data, Edge.mk 21 Ground.chain, Edge.mk 0 Ground.phase, Edge.mk 1 Ground.phase, Edge.mk 2 Ground.phase, Edge.mk 3 Ground.phase, Edge.mk 4 Ground.phase, Edge.mk 5 Ground.phase, Edge.mk 6 Ground.phase, Edge.mk 7 Ground.phase, Edge.mk 8 Ground.phase, Edge.mk 9 Ground.phase, Edge.mk 10 Ground.phase, Edge.mk 11 Ground.phase, Edge.mk 12 Ground.phase, Edge.mk 13 Ground.phase, Edge.mk 14 Ground.phase, Edge.mk 15 Ground.phase, Edge.mk 16 Ground.phase, Edge.mk 17 Ground.phase, Edge.mk 18 Ground.phase, Edge.mk 19 Ground.phase, Edge.mk 20 Ground.phase, Edge.mk 21 Ground.phase] none)) (v := ?_) rfl (by kernel_rfl) (by kernel_rfl) (by kernel_rfl) (fun _ _ _ h => h) (Or.inl ⟨by rfl, ?_⟩) (by assumption) ?_
                  rotate_left
                  · (intro w hSw; (try dsimp only at hSw); go_simp; first | done | with_reducible rfl)
                  (try simp only [Act.put, List.setIfInBounds_toArray, List.set_cons_zero, List.set_cons_succ])
                  refine wpAnyH_done (by kernel_rfl) ?_ _
                  all_goals
                    go_wp2_with fail
                    go_roundw
                    case rel => exact ⟨k + 1, u', a4, cap4, fs ++ outs, vs ++ us5, some k, (0 + gap none k), done', qs', o', by omega, by go_num, rfl, rfl, HG6, HI', HNR4, HMS⟩
                    case measure => simp [intOf]; omega
                | some j =>
                  have hj := HMB.out j rfl
                  rw [show befI (some j) = (j : Int) from rfl]
                  have g6 : (0 : Int) ≤ (j : Int) := by omega
                  have HMS : Hid (∀ i, some k = some i → miss + gap (some j) k ≤ i ∧ i < k + 1) := Lib.hid (fun i h => by cases h; show miss + (k - j - 1) ≤ k ∧ k < k + 1; omega)
                  go_wp2_with fail
                  refine (lost_n capP pt k _ HNPT.out hk2 hnp HPA2.out).mono ?_
                  rw [HLB.out]
                  rintro e wx ⟨rfl, hw⟩
                  obtain rfl := hw.symm
                  go_upto_region 39 with fail
                  refine wp_region_held_drew (S := (fun w' => w'.cell? ⟨bp, 0, none⟩ = some (.slice (some ⟨gE, 0, none⟩) nE cE) ∧ w'.cell? ⟨gE, k * 3, none⟩ = some (.int .i64 (cc : Int)) ∧ w'.cell? ⟨gE, k * 3 + 1, none⟩ = some (.int .i64 ff) ∧ w'.cell? ⟨gE, k * 3 + 2, none⟩ = some (.slice (some ⟨gS, at_, none⟩) m (cS - at_)))) (by kernel_rfl) (by (try dsimp only); (first | exact ⟨by assumption, by assumption, by assumption, by assumption⟩ | go_keep)) (fun hHeld => ?_)
                  refine wpAnyH_take (i := 0) (oi := (Oper.mk (some 163) (Op.move (Operand.tmp 17)) 22 "law.go:144" #[] none)) (v := ?_) rfl (by kernel_rfl) (by kernel_rfl) (by kernel_rfl) (fun _ _ _ h => h) (Or.inl ⟨by rfl, ?_⟩) (by assumption) ?_
                  rotate_left
                  · (intro w hSw; (try dsimp only at hSw); go_simp; first | done | with_reducible rfl)
                  (try simp only [Act.put, List.setIfInBounds_toArray, List.set_cons_zero, List.set_cons_succ])
                  refine wpAnyH_take (i := 1) (oi := (Oper.mk (some 164) (Op.move (Operand.tmp 21)) 33 "law.go:144" #[] none)) (v := ?_) rfl (by kernel_rfl) (by kernel_rfl) (by kernel_rfl) (fun _ _ _ h => h) (Or.inl ⟨by rfl, ?_⟩) (by assumption) ?_
                  rotate_left
                  · (intro w hSw; (try dsimp only at hSw); go_simp; first | done | with_reducible rfl)
                  (try simp only [Act.put, List.setIfInBounds_toArray, List.set_cons_zero, List.set_cons_succ])
                  refine wpAnyH_take (i := 2) (oi := (Oper.mk (some 165) (Op.fieldAddr 30 (Operand.tmp 15) 0) 0 "law.go:144" #[] none)) (v := ?_) rfl (by kernel_rfl) (by kernel_rfl) (by kernel_rfl) (fun _ _ _ h => h) (Or.inl ⟨by rfl, ?_⟩) (by assumption) ?_
                  rotate_left
                  · (intro w hSw; (try dsimp only at hSw); go_simp; first | done | with_reducible rfl)
                  (try simp only [Act.put, List.setIfInBounds_toArray, List.set_cons_zero, List.set_cons_succ])
                  refine wpAnyH_take (i := 3) (oi := (Oper.mk (some 166) (Op.load 27 (Operand.tmp 165)) 27 "law.go:144" #[Edge.mk 2 Ground.data] none)) (v := ?_) rfl (by kernel_rfl) (by kernel_rfl) (by kernel_rfl) (fun _ _ _ h => h) (Or.inl ⟨by rfl, ?_⟩) (by assumption) ?_
                  rotate_left
                  · (intro w hSw; (try dsimp only at hSw); go_simp; first | done | with_reducible rfl)
                  (try simp only [Act.put, List.setIfInBounds_toArray, List.set_cons_zero, List.set_cons_succ])
                  refine wpAnyH_take (i := 4) (oi := (Oper.mk (some 167) (Op.move (Operand.tmp 24)) 3 "law.go:144" #[] none)) (v := ?_) rfl (by kernel_rfl) (by kernel_rfl) (by kernel_rfl) (fun _ _ _ h => h) (Or.inl ⟨by rfl, ?_⟩) (by assumption) ?_
                  rotate_left
                  · (intro w hSw; (try dsimp only at hSw); go_simp; first | done | with_reducible rfl)
                  (try simp only [Act.put, List.setIfInBounds_toArray, List.set_cons_zero, List.set_cons_succ])
                  refine wpAnyH_take (i := 5) (oi := (Oper.mk (some 168) (Op.indexAddr 27 (Operand.tmp 166) (Operand.tmp 167)) 0 "law.go:144" #[Edge.mk 3 Ground.data, Edge.mk 4 Ground.data] none)) (v := ?_) rfl (by kernel_rfl) (by kernel_rfl) (by kernel_rfl) (fun _ _ _ h => h) (Or.inl ⟨by rfl, ?_⟩) (by assumption) ?_
                  rotate_left
                  · (intro w hSw; (try dsimp only at hSw); go_simp; first | done | with_reducible rfl)
                  (try simp only [Act.put, List.setIfInBounds_toArray, List.set_cons_zero, List.set_cons_succ])
                  refine wpAnyH_take (i := 6) (oi := (Oper.mk (some 169) (Op.fieldAddr 37 (Operand.tmp 168) 0) 0 "law.go:144" #[Edge.mk 5 Ground.data] none)) (v := ?_) rfl (by kernel_rfl) (by kernel_rfl) (by kernel_rfl) (fun _ _ _ h => h) (Or.inl ⟨by rfl, ?_⟩) (by assumption) ?_
                  rotate_left
                  · (intro w hSw; (try dsimp only at hSw); go_simp; first | done | with_reducible rfl)
                  (try simp only [Act.put, List.setIfInBounds_toArray, List.set_cons_zero, List.set_cons_succ])
                  refine wpAnyH_take (i := 7) (oi := (Oper.mk (some 170) (Op.load 3 (Operand.tmp 169)) 3 "law.go:144" #[Edge.mk 6 Ground.data] none)) (v := ?_) rfl (by kernel_rfl) (by kernel_rfl) (by kernel_rfl) (fun _ _ _ h => h) (Or.inl ⟨by rfl, ?_⟩) (by assumption) ?_
                  rotate_left
                  · (intro w hSw; (try dsimp only at hSw); go_simp; first | done | with_reducible rfl)
                  (try simp only [Act.put, List.setIfInBounds_toArray, List.set_cons_zero, List.set_cons_succ])
                  refine wpAnyH_take (i := 8) (oi := (Oper.mk (some 171) (Op.fieldAddr 30 (Operand.tmp 15) 0) 0 "law.go:144" #[] none)) (v := ?_) rfl (by kernel_rfl) (by kernel_rfl) (by kernel_rfl) (fun _ _ _ h => h) (Or.inl ⟨by rfl, ?_⟩) (by assumption) ?_
                  rotate_left
                  · (intro w hSw; (try dsimp only at hSw); go_simp; first | done | with_reducible rfl)
                  (try simp only [Act.put, List.setIfInBounds_toArray, List.set_cons_zero, List.set_cons_succ])
                  refine wpAnyH_take (i := 9) (oi := (Oper.mk (some 172) (Op.load 27 (Operand.tmp 171)) 27 "law.go:144" #[Edge.mk 8 Ground.data] none)) (v := ?_) rfl (by kernel_rfl) (by kernel_rfl) (by kernel_rfl) (fun _ _ _ h => h) (Or.inl ⟨by rfl, ?_⟩) (by assumption) ?_
                  rotate_left
                  · (intro w hSw; (try dsimp only at hSw); go_simp; first | done | with_reducible rfl)
                  (try simp only [Act.put, List.setIfInBounds_toArray, List.set_cons_zero, List.set_cons_succ])
                  refine wpAnyH_take (i := 10) (oi := (Oper.mk (some 173) (Op.move (Operand.tmp 24)) 3 "law.go:144" #[] none)) (v := ?_) rfl (by kernel_rfl) (by kernel_rfl) (by kernel_rfl) (fun _ _ _ h => h) (Or.inl ⟨by rfl, ?_⟩) (by assumption) ?_
                  rotate_left
                  · (intro w hSw; (try dsimp only at hSw); go_simp; first | done | with_reducible rfl)
                  (try simp only [Act.put, List.setIfInBounds_toArray, List.set_cons_zero, List.set_cons_succ])
                  refine wpAnyH_take (i := 11) (oi := (Oper.mk (some 174) (Op.indexAddr 27 (Operand.tmp 172) (Operand.tmp 173)) 0 "law.go:144" #[Edge.mk 9 Ground.data, Edge.mk 10 Ground.data] none)) (v := ?_) rfl (by kernel_rfl) (by kernel_rfl) (by kernel_rfl) (fun _ _ _ h => h) (Or.inl ⟨by rfl, ?_⟩) (by assumption) ?_
                  rotate_left
                  · (intro w hSw; (try dsimp only at hSw); go_simp; first | done | with_reducible rfl)
                  (try simp only [Act.put, List.setIfInBounds_toArray, List.set_cons_zero, List.set_cons_succ])
                  refine wpAnyH_take (i := 12) (oi := (Oper.mk (some 175) (Op.fieldAddr 37 (Operand.tmp 174) 1) 0 "law.go:144" #[Edge.mk 11 Ground.data] none)) (v := ?_) rfl (by kernel_rfl) (by kernel_rfl) (by kernel_rfl) (fun _ _ _ h => h) (Or.inl ⟨by rfl, ?_⟩) (by assumption) ?_
                  rotate_left
                  · (intro w hSw; (try dsimp only at hSw); go_simp; first | done | with_reducible rfl)
                  (try simp only [Act.put, List.setIfInBounds_toArray, List.set_cons_zero, List.set_cons_succ])
                  refine wpAnyH_take (i := 13) (oi := (Oper.mk (some 176) (Op.load 3 (Operand.tmp 175)) 3 "law.go:144" #[Edge.mk 12 Ground.data] none)) (v := ?_) rfl (by kernel_rfl) (by kernel_rfl) (by kernel_rfl) (fun _ _ _ h => h) (Or.inl ⟨by rfl, ?_⟩) (by assumption) ?_
                  rotate_left
                  · (intro w hSw; (try dsimp only at hSw); go_simp; first | done | with_reducible rfl)
                  (try simp only [Act.put, List.setIfInBounds_toArray, List.set_cons_zero, List.set_cons_succ])
                  refine wpAnyH_take (i := 14) (oi := (Oper.mk (some 177) (Op.fieldAddr 30 (Operand.tmp 15) 0) 0 "law.go:144" #[] none)) (v := ?_) rfl (by kernel_rfl) (by kernel_rfl) (by kernel_rfl) (fun _ _ _ h => h) (Or.inl ⟨by rfl, ?_⟩) (by assumption) ?_
                  rotate_left
                  · (intro w hSw; (try dsimp only at hSw); go_simp; first | done | with_reducible rfl)
                  (try simp only [Act.put, List.setIfInBounds_toArray, List.set_cons_zero, List.set_cons_succ])
                  refine wpAnyH_take (i := 15) (oi := (Oper.mk (some 178) (Op.load 27 (Operand.tmp 177)) 27 "law.go:144" #[Edge.mk 14 Ground.data] none)) (v := ?_) rfl (by kernel_rfl) (by kernel_rfl) (by kernel_rfl) (fun _ _ _ h => h) (Or.inl ⟨by rfl, ?_⟩) (by assumption) ?_
                  rotate_left
                  · (intro w hSw; (try dsimp only at hSw); go_simp; first | done | with_reducible rfl)
                  (try simp only [Act.put, List.setIfInBounds_toArray, List.set_cons_zero, List.set_cons_succ])
                  refine wpAnyH_take (i := 16) (oi := (Oper.mk (some 179) (Op.move (Operand.tmp 24)) 3 "law.go:144" #[] none)) (v := ?_) rfl (by kernel_rfl) (by kernel_rfl) (by kernel_rfl) (fun _ _ _ h => h) (Or.inl ⟨by rfl, ?_⟩) (by assumption) ?_
                  rotate_left
                  · (intro w hSw; (try dsimp only at hSw); go_simp; first | done | with_reducible rfl)
                  (try simp only [Act.put, List.setIfInBounds_toArray, List.set_cons_zero, List.set_cons_succ])
                  refine wpAnyH_take (i := 17) (oi := (Oper.mk (some 180) (Op.indexAddr 27 (Operand.tmp 178) (Operand.tmp 179)) 0 "law.go:144" #[Edge.mk 15 Ground.data, Edge.mk 16 Ground.data] none)) (v := ?_) rfl (by kernel_rfl) (by kernel_rfl) (by kernel_rfl) (fun _ _ _ h => h) (Or.inl ⟨by rfl, ?_⟩) (by assumption) ?_
                  rotate_left
                  · (intro w hSw; (try dsimp only at hSw); go_simp; first | done | with_reducible rfl)
                  (try simp only [Act.put, List.setIfInBounds_toArray, List.set_cons_zero, List.set_cons_succ])
                  refine wpAnyH_take (i := 18) (oi := (Oper.mk (some 181) (Op.fieldAddr 37 (Operand.tmp 180) 2) 0 "law.go:144" #[Edge.mk 17 Ground.data] none)) (v := ?_) rfl (by kernel_rfl) (by kernel_rfl) (by kernel_rfl) (fun _ _ _ h => h) (Or.inl ⟨by rfl, ?_⟩) (by assumption) ?_
                  rotate_left
                  · (intro w hSw; (try dsimp only at hSw); go_simp; first | done | with_reducible rfl)
                  (try simp only [Act.put, List.setIfInBounds_toArray, List.set_cons_zero, List.set_cons_succ])
                  refine wpAnyH_take (i := 19) (oi := (Oper.mk (some 182) (Op.load 23 (Operand.tmp 181)) 23 "law.go:144" #[Edge.mk 18 Ground.data] none)) (v := ?_) rfl (by kernel_rfl) (by kernel_rfl) (by kernel_rfl) (fun _ _ _ h => h) (Or.inl ⟨by rfl, ?_⟩) (by assumption) ?_
                  rotate_left
                  · (intro w hSw; (try dsimp only at hSw); go_simp; first | done | with_reducible rfl)
                  (try simp only [Act.put, List.setIfInBounds_toArray, List.set_cons_zero, List.set_cons_succ])
                  refine wpAnyH_ready (rs := [20]) (by kernel_rfl) (by simp) ?_
                  refine AllReadyH.cons (o := (Oper.mk (some 183) (Op.call (Call.mk (Callee.value (Operand.func 12)) #[Operand.tmp 164, Operand.tmp 170, Operand.tmp 176, Operand.tmp 182] #[33, 3, 3, 23])) 22 "law.go:144" #[Edge.mk 1 Ground.data, Edge.mk 7 Ground.data, Edge.mk 13 Ground.data, Edge.mk 19 Ground.data] none)) rfl (fun K hK => ?_) (AllReadyH.nil)
                  go_simp
                  (go_at_call 12; refine (take_back HR.out HGd.out HNR.out.1 HBND.out HNR.out.2 HDAd.out HDL.out (by omega) hcd HCM.out).mono ?_; rintro e w4 ⟨a5, c5, us5, a4, cap4, rfl, HG4, HV5, HSL5, HCELL, HSZ4, HNR4⟩; have x0 := (HCELL.out bp 0 hbo).trans c0; have x1 := (HCELL.out gE (k * 3) hgE).trans d0; have x2 := (HCELL.out gE (k * 3 + 1) hgE).trans d1; have x3 := (HCELL.out gE (k * 3 + 2) hgE).trans d2)
                  refine hK.out _ _ (by (try dsimp only); (first | exact ⟨by assumption, by assumption, by assumption, by assumption⟩ | go_keep)) (fun hHeld => ?_)
                  clear hK K
                  (try simp only [Act.put, List.setIfInBounds_toArray, List.set_cons_zero, List.set_cons_succ])
                  refine wpAnyH_ready (rs := [21]) (by kernel_rfl) (by simp) ?_
                  refine AllReadyH.cons (o := (Oper.mk (some 184) (Op.call (Call.mk (Callee.builtin Builtin.append) #[Operand.tmp 163, Operand.tmp 183] #[22, 22])) 22 "law.go:144" #[Edge.mk 0 Ground.data, Edge.mk 20 Ground.data, Edge.mk 20 Ground.chain] none)) rfl (fun K hK => ?_) (AllReadyH.nil)
                  (refine step_append_src _ (by rfl) (.tmp 163) (.tmp 183) 22 (by rfl) (wo.heap.size + 1) 23 j1 (.slice none 0 0) 24 Try.underlying22 HJ1.out hz0 hz1 hz2 (by rfl) _ fs.length vs (by rfl) HG4.out.got a5 outs.length c5 us5 (by rfl) HSL5.out.1 HV5.out HSL5.out.one_cell (by unfold maxLen; omega) (by omega) HSZ4.out ?_; intro v6 w6 hown6 hgrow6 hblk6; have HG6 := Lib.hid (HG4.out.more HSL5.out hown6 hgrow6 hblk6); obtain ⟨a6, n6, c6, rfl⟩ := own_sliceC hown6; have y0 := (HG6.out.below.cell (p := ⟨bp, 0, none⟩) hbo).trans ((HGk.out.below.cell (p := ⟨bp, 0, none⟩) hbo).symm.trans c0); have y1 := (HG6.out.below.cell (p := ⟨gE, k * 3, none⟩) hgE).trans ((HGk.out.below.cell (p := ⟨gE, k * 3, none⟩) hgE).symm.trans d0); have y2 := (HG6.out.below.cell (p := ⟨gE, k * 3 + 1, none⟩) hgE).trans ((HGk.out.below.cell (p := ⟨gE, k * 3 + 1, none⟩) hgE).symm.trans d1); have y3 := (HG6.out.below.cell (p := ⟨gE, k * 3 + 2, none⟩) hgE).trans ((HGk.out.below.cell (p := ⟨gE, k * 3 + 2, none⟩) hgE).symm.trans d2); clear hown6 hgrow6 hblk6)
                  refine hK.out _ _ (by (try dsimp only); (first | exact ⟨by assumption, by assumption, by assumption, by assumption⟩ | go_keep)) (fun hHeld => ?_)
                  clear hK K
                  (try simp only [Act.put, List.setIfInBounds_toArray, List.set_cons_zero, List.set_cons_succ])
                  refine wpAnyH_take (i := 22) (oi := (Oper.mk (some 17) (Op.assign (Operand.tmp 184)) 22 "law.go:144" #[Edge.mk 21 Ground.data, Edge.mk 21 Ground.chain, Edge.mk 0 Ground.phase, Edge.mk 1 Ground.phase, Edge.mk 2 Ground.phase, Edge.mk 3 Ground.phase, Edge.mk 4 Ground.phase, Edge.mk 5 Ground.phase, Edge.mk 6 Ground.phase, Edge.mk 7 Ground.phase, Edge.mk 8 Ground.phase, Edge.mk 9 Ground.phase, Edge.mk 10 Ground.phase, Edge.mk 11 Ground.phase, Edge.mk 12 Ground.phase, Edge.mk 13 Ground.phase, Edge.mk 14 Ground.phase, Edge.mk 15 Ground.phase, Edge.mk 16 Ground.phase, Edge.mk 17 Ground.phase, Edge.mk 18 Ground.phase, Edge.mk 19 Ground.phase, Edge.mk 20 Ground.phase, Edge.mk 21 Ground.phase] none)) (v := ?_) rfl (by kernel_rfl) (by kernel_rfl) (by kernel_rfl) (fun _ _ _ h => h) (Or.inl ⟨by rfl, ?_⟩) (by assumption) ?_
                  rotate_left
                  · (intro w hSw; (try dsimp only at hSw); go_simp; first | done | with_reducible rfl)
                  (try simp only [Act.put, List.setIfInBounds_toArray, List.set_cons_zero, List.set_cons_succ])
                  refine wpAnyH_done (by kernel_rfl) ?_ _
                  all_goals
                    go_wp2_with fail
                    go_roundw
                    case rel => exact ⟨k + 1, u', a4, cap4, fs ++ outs, vs ++ us5, some k, (miss + gap (some j) k), done', qs', o', by omega, by go_num, rfl, (congrArg (Value.int .i64) (by show _ = ((miss + (k - j - 1) : Nat) : Int); omega)), HG6, HI', HNR4, HMS⟩
                    case measure => simp [intOf]; omega
            · obtain rfl : nE = k := by omega
              have g5 : ¬ (nE : Int) < (nE : Int) := by omega
              obtain ⟨hge, hls⟩ := inv_end HI.out HWO.out (by rw [← HTP.out]; exact hnf1)
              have HLS := Lib.hid hls
              have HS1 : Hid (SAt wr (fun q => q ≤ wo.heap.size) (.slice aG nG cG) fs) := Lib.hid (SAt.of_row HGk.out.got (HGk.out.sls.grow fun q hq => .inl (.inl hq)) (fun q hq e => by have := (HGk.out.got.lt q hq).1; omega))
              have hww : SAt wr (fun q => False) (.slice aW nW cW) (want (lostB pt) sz 0 P) := by
                have h1 : Sls wo (fun q => False) us (want (lostB pt) sz 0 P) := (HWS.out.below HBZ.out (by rw [← HZZ.out]; exact Nat.le_refl _)).grow (fun q hq => hq.elim)
                exact (SAt.of_row HWR.out h1 (fun q _ e => e)).below HGk.out.below (Nat.le_refl _)
              have HWW := Lib.hid hww
              have HGE := Lib.hid hge
              clear hge hls hww
              go_wp2_with fail
              refine (same_any _ _ _ _ _ _ _ HS1.out HWW.out).mono ?_
              rw [decide_eq_true HGE.out]
              rintro e w4 ⟨rfl, hq⟩
              have HG4 := Lib.hid (HGk.out.step (hq.below (B := wr.heap.size)))
              clear hq
              go_wp2_with fail
              refine (lost_any _ _ _ _ _ HG4.out.hu).mono ?_
              rw [HLS.out]
              rintro e w9 ⟨rfl, hw9⟩
              obtain rfl := hw9.symm
              go_wp2_with fail
              refine (alive_any _).mono ?_
              rintro e w9 ⟨rfl, hB⟩
              have HB9 := Lib.hid ((HBo.out.trans (HG4.out.below.mono HBo.out.size)).trans (hB.mono (Nat.le_trans HBo.out.size HG4.out.below.size)))
              clear hB
              go_wp2_with fail
              go_ret
              exact ⟨rfl, HB9.out⟩


set_option maxRecDepth 100000 in
theorem lifted (os : Os) (started : os.Started) (H : Type) (enc : TypeId × Value → H) :
    ReturnsInHanded {} Try.checked os 3 .any (Rows.unpackerBackSpec.pre6 enc Try.prog Try.f3 Rows.unpackerBackRow.domain false) (Rows.unpackerBackSpec.post enc Try.prog Try.f3 false true false false) := by
  refine returnsInHanded_of_change (C := Try.checked) own started (by kernel_rfl) Try.func3
    (ChangeSpec.witness6 (enc := enc) (C := Try.checked) false ⟨#[], #[.slice none 0 0, .slice none 0 0, .int .u8 0, .int .u8 0, .slice none 0 0], []⟩ 8 (by kernel_rfl) (by kernel_rfl) (by kernel_rfl) (by kernel_rfl)) ?_
  intro W base args ds gs before hval0 hW hcnd _
  have hval : ∀ (j : Nat) t v, Try.f3.params[j]? = some t → args[j]? = some v → Value.okWide Try.prog W .any base t v := hval0
  have hW' := hW
  obtain ⟨p, q, hA0, hV, rfl, hfz, hnd⟩ := hW
  have hA : DataW.TrodAll enc Try.prog W 0 (fun _ => true) true Try.f3.params.toList args.toList ds p := hA0
  rw [Try.params3] at hA hval
  obtain ⟨v0, vs0, d0, ds0, p0, q0, hargs, rfl, rfl, h0, r0⟩ := trodAll_cons hA
  obtain ⟨v1, vs1, d1, ds1, p1, q1, rfl, rfl, rfl, h1, r1⟩ := trodAll_cons r0
  obtain ⟨v2, vs2, d2, ds2, p2, q2, rfl, rfl, rfl, h2, r2⟩ := trodAll_cons r1
  obtain ⟨v3, vs3, d3, ds3, p3, q3, rfl, rfl, rfl, h3, r3⟩ := trodAll_cons r2
  obtain ⟨v4, vs4, d4, ds4, p4, q4, rfl, rfl, rfl, h4, r4⟩ := trodAll_cons r3
  obtain ⟨rfl, rfl, rfl⟩ := trodAll_nil r4
  obtain rfl : args = #[v0, v1, v2, v3, v4] := by cases args; simp_all
  obtain ⟨rfl, rfl⟩ := trodVars_none hV
  have k0 := h0
  have lt0 : ∀ x ∈ p0, x.block < W.heap.size := by obtain ⟨m, hm⟩ := k0; exact DataW.trod_lt m _ _ _ hm
  have k1 := h1
  have lt1 : ∀ x ∈ p1, x.block < W.heap.size := by obtain ⟨m, hm⟩ := k1; exact DataW.trod_lt m _ _ _ hm
  obtain ⟨a2, rfl, rfl, rfl, w2⟩ := open_int Try.underlying5 (hval 2 5 v2 rfl rfl) h2
  obtain ⟨a3, rfl, rfl, rfl, w3⟩ := open_int Try.underlying5 (hval 3 5 v3 rfl rfl) h3
  have k4 := h4
  have lt4 : ∀ x ∈ p4, x.block < W.heap.size := by obtain ⟨m, hm⟩ := k4; exact DataW.trod_lt m _ _ _ hm
  clear hA0 hval0
  refine (walk v0 v1 a2 a3 v4 W (hval 0 22 v0 rfl rfl) k0 (hval 1 23 v1 rfl rfl) k1 w2 w3 (hval 4 23 v4 rfl rfl) k4).mono fun e W' ⟨he, bel⟩ => ?_
  subst he
  exact ⟨_, rfl, _, _, _, [], _, [], hW', trodAll_mk1 (shut_bool Try.underlying4 _), (trodAll_cons_mk (Below.trod laidOut (by kernel_rfl) (of_decide_eq_true (by kernel_rfl)) k0 bel lt0) (trodAll_cons_mk (Below.trod laidOut (by kernel_rfl) (of_decide_eq_true (by kernel_rfl)) k1 bel lt1) (trodAll_cons_mk (shut_int Try.underlying5 w2) (trodAll_cons_mk (shut_int Try.underlying5 w3) (trodAll_cons_mk (Below.trod laidOut (by kernel_rfl) (of_decide_eq_true (by kernel_rfl)) k4 bel lt4) trodAll_mk0))))), rfl, bel.frame _, fun h => by cases h⟩

theorem over : Rows.unpackerBackRow.holds Try.pinned (OpenSpec.ofChange Rows.unpackerBackSpec) :=
  OpenClaim.holds_of_wide 3 Try.f3 rfl rfl rfl rfl rfl rfl rfl ⟨rfl, rfl, rfl, rfl, rfl⟩ rfl rfl rfl rfl rfl (by kernel_rfl) Try.func3 (by kernel_rfl)
    (of_decide_eq_true (by kernel_rfl)) (by unfold Func.isWrapper; first | (rw [if_pos (by decide +kernel)]; kernel_rfl) | (rw [if_neg (by decide +kernel)]; exact ⟨rfl, rfl⟩))
    (fun os started H enc _ => lifted os started H enc)

theorem proved : Rows.UnpackerBackSaid := over
#print axioms proved
end Go.Proofs.Ytllpbfejoahllaa.unpackerBack

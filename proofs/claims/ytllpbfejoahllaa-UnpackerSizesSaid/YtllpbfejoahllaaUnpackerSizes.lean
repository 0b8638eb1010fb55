/- The law UnpackerSizes holds: the walk, then the lift to the given statement. No condition. -/
import Derived.Test.YtllpbfejoahllaaW
import Derived.WalkKit
import Derived.Deep.DeepCutAuto
import Derived.Deep.CutBlock
import Derived.Outline
import Derived.ProofKit
import Derived.OpenShut
import Derived.Lib.Hide
import Derived.ChangeOld
import Derived.Below
import Derived.SizedLaws
namespace Go.Proofs.Ytllpbfejoahllaa.unpackerSizes
open Go.ChangeShapes Go.WideShapes Go.ChangeAt Go.RowKit
set_option linter.unusedVariables false
theorem own : ownKnob Try.prog.godebug = none := by kernel_rfl
theorem laidOut : laidOutB Try.prog = true := by kernel_rfl

set_option maxRecDepth 20000 in
set_option maxHeartbeats 4000000 in
theorem walk {H : Type} {enc : TypeId × Value → H} (v0 v1 : Value) (w : World) {b0 : Nat} {d0 : DataW H} {p0 : List MemPlace} (ok0 : Value.okWide Try.prog w .any b0 22 v0) (tr0 : DataW.Trod enc Try.prog w 0 (fun _ => true) true 22 v0 d0 p0)
    {b1 : Nat} {d1 : DataW H} {p1 : List MemPlace} (ok1 : Value.okWide Try.prog w .any b1 23 v1) (tr1 : DataW.Trod enc Try.prog w 0 (fun _ => true) true 23 v1 d1 p1) : Calls Try.prog 4 #[v0, v1] w fun e w' => e = .returned (.bool true) ∧ Below w.heap.size w w' := by
  obtain ⟨L, hS⟩ := arg_lists Try.underlying22 (by kernel_rfl) Try.underlying23 Try.underlying5 (by kernel_rfl) ok0 tr0
  obtain ⟨az, cz, Z, rfl, hzc, hzm, hzb⟩ := arg_bytes Try.underlying23 Try.underlying5 (by kernel_rfl) ok1 tr1
  have HS := Lib.hid hS
  have HZB := Lib.hid hzb
  clear ok0 tr0 ok1 tr1 hS hzb
  obtain ⟨av, capv, rfl, hcv, hmv⟩ := HS.out.len
  by_cases h40 : 40 < L.length
  · have e1 : (40 : Int) < (L.length : Int) := by omega
    go_enter Try.func4, Try.ntmps4
    go_wp2_with fail
    refine (alive_any _).mono ?_
    rintro e w9 ⟨rfl, hB⟩
    have HB := Lib.hid hB
    clear hB
    go_wp2_with fail
    go_ret
    exact ⟨rfl, HB.out⟩
  by_cases h60 : 60 < Z.length
  · have e1 : ¬ (40 : Int) < (L.length : Int) := by omega
    have e2 : (60 : Int) < (Z.length : Int) := by omega
    go_enter Try.func4, Try.ntmps4
    go_wp2_with fail
    refine (alive_any _).mono ?_
    rintro e w9 ⟨rfl, hB⟩
    have HB := Lib.hid hB
    clear hB
    go_wp2_with fail
    go_ret
    exact ⟨rfl, HB.out⟩
  by_cases h0 : Z.length = 0
  · have e1 : ¬ (40 : Int) < (L.length : Int) := by omega
    have e2 : ¬ (60 : Int) < (Z.length : Int) := by omega
    have e3 : ((Z.length : Int) == 0) = true := by rw [h0]; rfl
    clear h0
    go_enter Try.func4, Try.ntmps4
    go_wp2_with fail
    refine (alive_any _).mono ?_
    rintro e w9 ⟨rfl, hB⟩
    have HB := Lib.hid hB
    clear hB
    go_wp2_with fail
    go_ret
    exact ⟨rfl, HB.out⟩
  · have e1 : ¬ (40 : Int) < (L.length : Int) := by omega
    have e2 : ¬ (60 : Int) < (Z.length : Int) := by omega
    have e3 : ((Z.length : Int) == 0) = false := by rw [beq_eq_false_iff_ne]; omega
    obtain ⟨j0, hj, hy0, hy1, hy2⟩ := info_parts info5
    have HJ := Lib.hid hj
    obtain ⟨j1, hj1, hz0, hz1, hz2⟩ := info_parts info23
    have HJ1 := Lib.hid hj1
    obtain ⟨j3, hj3, hi0, hi1, hi2⟩ := info_parts info3
    have HJ3 := Lib.hid hj3
    clear hj hj1 hj3
    go_enter Try.func4, Try.ntmps4
    go_wp2_with fail
    go_loopw [5, 6, 7, 8] (fun v1 v2 v3 i wr => Z1 w wr L v1 v2 v3 i) (fun _ _ _ i _ => L.length - (intOf i).toNat)
    case atStart => exact ⟨0, [], by omega, rfl, fun i hi => by omega, S1.start w⟩
    case round =>
      obtain ⟨k, us, hk, rfl, hfit, hS1⟩ := hrel
      have HF := Lib.hid hfit
      have HS1 := Lib.hid hS1
      have hfl := sentP_flat L k hk hfit
      clear hfit hS1
      by_cases hlt : k < L.length
      · obtain ⟨b, off, cp, ae, ce, e, -, -, hb, hcell, hce, hcm, hA, -⟩ := HS.out.get hlt
        simp only [Value.slice.injEq, true_and] at e
        obtain ⟨rfl, rfl⟩ := e
        have hsucc := sentP_succ L k hlt
        have HFS : Hid (1 ≤ L[k].length → L[k].length ≤ 60 → Fit L (k + 1)) := Lib.hid (fun h1 h2 i hi hh => by
          by_cases e : i = k
          · subst e; exact ⟨h1, h2⟩
          · exact HF.out i (by omega) hh)
        obtain ⟨y, hy⟩ : ∃ y, y = L[k] := ⟨_, rfl⟩
        rw [← hy] at hcell hce hA hsucc HFS
        have HA := Lib.hid (hA.below HS1.out.below (Nat.le_refl _))
        have HSU := Lib.hid hsucc
        have c0 : wr.cell? ⟨b, off + k, none⟩ = some (.slice ae y.length ce) := (HS1.out.below.cell (p := ⟨b, off + k, none⟩) hb).trans hcell
        have g1 : (0 : Int) ≤ (k : Int) := by omega
        have g2 : (k : Int) < (L.length : Int) := by omega
        clear hcell hA hy hsucc
        by_cases hy1' : y.length < 1
        · have e5 : (y.length : Int) < 1 := by omega
          go_wp2_with fail
          refine (alive_any _).mono ?_
          rintro e w9 ⟨rfl, hB⟩
          have HB9 := Lib.hid (HS1.out.below.trans (hB.mono HS1.out.below.size))
          clear hB
          go_wp2_with fail
          go_ret
          exact ⟨rfl, HB9.out⟩
        by_cases hy60 : 60 < y.length
        · have e4 : ¬ (y.length : Int) < 1 := by omega
          have e5 : (60 : Int) < (y.length : Int) := by omega
          go_wp2_with fail
          refine (alive_any _).mono ?_
          rintro e w9 ⟨rfl, hB⟩
          have HB9 := Lib.hid (HS1.out.below.trans (hB.mono HS1.out.below.size))
          clear hB
          go_wp2_with fail
          go_ret
          exact ⟨rfl, HB9.out⟩
        · have e4 : ¬ (y.length : Int) < 1 := by omega
          have e5 : ¬ (60 : Int) < (y.length : Int) := by omega
          obtain ⟨P, hP⟩ : ∃ P, P = sentP L k := ⟨_, rfl⟩
          have hPl : P.length = k := by rw [hP, sentP_len]
          rw [← hP] at HS1 hfl HSU
          have HPP := Lib.hid hP
          have HPL := Lib.hid hPl
          clear hP hPl
          go_wp2_with fail
          refine (wrap_any k ae ce y _ (by omega) (by omega) (by omega) HA.out).mono ?_
          rintro e w3 ⟨vx, rfl, hO3, hB3⟩
          obtain ⟨p, hp⟩ : ∃ p, p = wrapP k y := ⟨_, rfl⟩
          rw [← hp] at hO3 HSU
          have hpl : p.length ≤ 66 := by rw [hp, wrapP_len]; omega
          obtain ⟨-, a3, c3, rfl, hc3, hm3, hA3⟩ := BAt.of_row hO3
          have hpb : ∀ q, a3 = some q → wr.heap.size ≤ q.block := fun q hq => (hO3.lt q.block (by rw [hq]; rfl)).1
          obtain ⟨ob, hob⟩ : ∃ ob, ob = Obj.cells #[.slice a3 p.length c3] 23 := ⟨_, rfl⟩
          have hS3 := (HS1.out.step hB3).step (al (Below.refl _ w3) ob)
          have hX3 : Sl (w3.alloc ob) (SD w u5 u6 u7) (.slice a3 p.length c3) p := ⟨a3, c3, rfl, hc3, hm3, hA3.below (al (Below.refl _ w3) ob) (Nat.le_refl _), fun q hq _ h => by
            have h1 := hpb q hq
            obtain ⟨l1, l2, l3⟩ := HS1.out.lt
            have := HS1.out.below.size
            rcases h with h | h | h | h
            · omega
            · have := (l1 _ h).2; omega
            · have := (l2 _ h).2; omega
            · have := (l3 _ h).2; omega⟩
          have HS3 := Lib.hid hS3
          have HX3 := Lib.hid hX3
          have HX := Lib.hid (one_vat w3 (.slice a3 p.length c3) 23)
          have HPW := Lib.hid hp
          have hs3 := hS3.below.size
          have hPc : P.length ≤ 40 := by have := HPL.out; omega
          rw [hob] at HS3 HX3 hs3
          clear hO3 hB3 hA3 hpb hS3 hX3 hp hob
          go_wp2_with (at_builtin; refine wpList_append_src _ rfl (.tmp 51) (.tmp 58) 22 rfl w.heap.size 23 j1 (.slice none 0 0) 24 Try.underlying22 HJ1.out hz0 hz1 hz2 (by rfl) _ P.length us rfl HS3.out.sent (some ⟨w3.heap.size, 0, none⟩) 1 1 [.slice a3 p.length c3] rfl (by rfl) HX.out (by simp [Value.oneCell']) (by unfold maxLen; omega) (by omega) hs3 ?_)
          intro v4 w4 hown4 hgrow4 hblk4
          have hS4 := HS3.out.addP HX3.out hown4 hgrow4 (by simpa using hblk4)
          have HS4 := Lib.hid hS4
          have hs4 := hS4.below.size
          clear hown4 hgrow4 hblk4 hS4 HX HS3 HX3 HA
          obtain ⟨n, hn⟩ : ∃ n, n = P.flatten.length := ⟨_, rfl⟩
          have HNN := Lib.hid hn
          have hn9 : n ≤ 3000 := by omega
          obtain ⟨x, hx⟩ : ∃ x, x = P.flatten := ⟨_, rfl⟩
          rw [← hx] at hn HS4
          have hxl : x.length ≤ 3000 := by omega
          have HXX := Lib.hid hx
          have hx2 : u6 = u6 := rfl
          obtain ⟨-, ax, cx, ex, hxc, hxm, hxA⟩ := BAt.of_row HS4.out.str
          obtain ⟨bs, hbs⟩ : ∃ bs, bs = starts 0 P := ⟨_, rfl⟩
          rw [← hbs] at HS4
          have HBS := Lib.hid hbs
          have hbl : bs.length = P.length := by rw [hbs, starts_len]
          have hbl2 : bs.length ≤ 40 := by omega
          subst ex
          have HXA := Lib.hid hxA
          obtain ⟨oi, hoi⟩ : ∃ oi, oi = Obj.cells #[.int .i64 (x.length : Int)] 3 := ⟨_, rfl⟩
          have hS5 := HS4.out.step (al (Below.refl _ w4) oi)
          have HS5 := Lib.hid hS5
          have hs5 := hS5.below.size
          rw [hoi] at HS5 hs5
          have HXI := Lib.hid (one_vat w4 (.int .i64 (x.length : Int)) 3)
          clear hxA hx hbs hbl hS5 hoi hn
          go_wp2_with (at_builtin; refine wpList_append_src _ rfl (.tmp 60) (.tmp 63) 28 rfl w.heap.size 3 j3 (.int .i64 0) 8 Try.underlying28 HJ3.out hi0 hi1 hi2 (by rfl) _ bs.length (encN bs) rfl HS5.out.beg (some ⟨w4.heap.size, 0, none⟩) 1 1 [.int .i64 (x.length : Int)] rfl (by rfl) HXI.out (by simp [Value.oneCell']) (by unfold maxLen; omega) (by omega) hs5 ?_)
          intro v6 w6 hown6 hgrow6 hblk6
          have hS6 := HS5.out.addB x.length hown6 hgrow6 (by simpa using hblk6)
          obtain ⟨Q, hQ⟩ : ∃ Q, Q = P ++ [p] := ⟨_, rfl⟩
          rw [← hQ] at hS6
          have hQl : k < Q.length := by rw [hQ, List.length_append, HPL.out]; simp
          have eP : Q[k] = p := by
            subst hQ
            rw [List.getElem_append_right (by rw [HPL.out]; omega)]
            simp
          have HQQ := Lib.hid hQ
          have HS6 := Lib.hid hS6
          have hs6 := hS6.below.size
          obtain ⟨b6, o6, cp6, a6, c6, rfl, -, -, hb6, hc6, -, -, hA6, -⟩ := hS6.sat.get hQl
          rw [eP] at hc6 hA6
          have HA6 := Lib.hid hA6.vat
          have g7 : (k : Int) < (Q.length : Int) := by omega
          clear hQ
          clear hown6 hgrow6 hblk6 hS6 HXI HS5 hA6 eP
          go_wp2_with (at_builtin; refine wpList_append_src _ rfl (.tmp 65) (.tmp 69) 23 rfl w.heap.size 5 j0 (.int .u8 0) 1 Try.underlying23 HJ.out hy0 hy1 hy2 rfl _ x.length (encB x) rfl HS6.out.str a6 p.length c6 (encB p) rfl (by simp [encB]) HA6.out (encB_one _) (by unfold maxLen; omega) (by omega) hs6 ?_)
          intro v7 w7 hown7 hgrow7 hblk7
          have hS7 := HS6.out.addX hown7 hgrow7 hblk7
          have HS7 := Lib.hid hS7
          clear hown7 hgrow7 hblk7 hS7
          go_wp2_with fail
          go_roundw
          case rel =>
            refine ⟨k + 1, us ++ [.slice a3 p.length c3], by omega, by go_num, HFS.out (by omega) (by omega), ?_⟩
            have e1 := HSU.out
            have e2 : (P ++ [p]).flatten = x ++ p := by rw [List.flatten_append, HXX.out]; simp
            have e3 : starts 0 (P ++ [p]) = bs ++ [x.length] := by rw [starts_succ, HBS.out, HXX.out]
            rw [e1, e2, e3, ← HQQ.out]
            exact HS7.out
          case measure => simp [intOf]; omega
      · obtain rfl : k = L.length := by omega
        clear hlt
        obtain ⟨sent, hsent⟩ : ∃ P, P = sentP L L.length := ⟨_, rfl⟩
        have hwf := sentP_wf L L.length (Nat.le_refl _) (by omega) HF.out
        rw [← hsent] at hwf HS1 hfl
        have HWF := Lib.hid hwf
        obtain ⟨wo, hwo⟩ : ∃ wo, wo = wr := ⟨wr, rfl⟩
        subst hwo
        obtain ⟨x, hx⟩ : ∃ x, x = sent.flatten := ⟨_, rfl⟩
        obtain ⟨bs, hbs⟩ : ∃ bs, bs = starts 0 sent := ⟨_, rfl⟩
        rw [← hx, ← hbs] at HS1
        have HXX := Lib.hid hx
        have HBS := Lib.hid hbs
        have hsn : sent.length ≤ 40 := by rw [hsent, sentP_len]; omega
        have hbl : bs.length ≤ 40 := by rw [hbs, starts_len, hsent, sentP_len]; omega
        have hxl : x.length ≤ 3000 := by rw [hx]; omega
        obtain ⟨-, ax, cx, rfl, hxc, hxm, hxA⟩ := BAt.of_row HS1.out.str
        have hxs := own_shape HS1.out.str
        obtain ⟨hbl', ab, cb, rfl, hbc, hbm, hbA, -⟩ := VAt.of_row HS1.out.beg
        have HXA := Lib.hid hxA
        have HXS := Lib.hid hxs
        have HBA := Lib.hid hbA
        obtain ⟨nb, hnb⟩ : ∃ nb, nb = (encN bs).length := ⟨_, rfl⟩
        have hnbl : nb = bs.length := by rw [hnb]; simp [encN]
        rw [← hnb] at HS1 hbc
        rw [← hnb]
        have HNBL := Lib.hid hnbl
        have hnb40 : nb ≤ 40 := by omega
        clear hsent hx hbs hxA hbA hwf hxs hbl' hnb hnbl
        go_wp2_with fail
        refine (new_any _).mono ?_
        rintro e w3 ⟨rfl, hU, hB⟩
        have HG := Lib.hid (GF.start hU hB)
        clear hU hB
        go_wp2_with fail
        go_loopw [10, 11, 12] (fun vg at_ k wr => Z2 wo wr sent x vg at_ k) (fun _ at_ _ _ => x.length - (intOf at_).toNat)
        case atStart =>
          exact ⟨0, 0, US.new, none, 0, [], [], sent, 0, [], by omega, by omega, rfl, rfl, HG.out, invS_start sent, by decide, by decide, by simp⟩
        case round =>
          obtain ⟨k, a', u, au, cap, fs, done, qs, o, vs, ha', hka, rfl, rfl, hG, hI, hn, hr4, hfsl⟩ := hrel
          have HG := Lib.hid hG
          have HI := Lib.hid hI
          have HNB := Lib.hid hn
          have hwoS := HS1.out.below
          have hBw : Below w.heap.size w wr := hwoS.trans (hG.below.mono hwoS.size)
          have HBW := Lib.hid hBw
          have HAXr : Hid (BAt wr ax x) := Lib.hid (HXA.out.below hG.below (Nat.le_refl _))
          have HABr : Hid (VAt wr ab (encN bs)) := Lib.hid (HBA.out.below hG.below (Nat.le_refl _))
          have hlost := hI.lost
          have HLO := Lib.hid hlost
          clear hG hI hn hwoS hlost
          by_cases hlt : a' < x.length
          · obtain ⟨r, hr⟩ : ∃ r, r = k % Z.length := ⟨_, rfl⟩
            have hrl : r < Z.length := by rw [hr]; exact Nat.mod_lt _ (by omega)
            have er : (k : Int) % (Z.length : Int) = (r : Int) := by rw [hr]; rfl
            obtain ⟨bz, oz, rfl, hbz, -⟩ := HZB.out.resolve_left (fun e => by rw [e] at hrl; simp at hrl)
            have zc0 := cell_getD HZB.out r hrl
            obtain ⟨zi, hzi⟩ : ∃ z, z = (Z.getD r 0).toNat := ⟨_, rfl⟩
            rw [← hzi] at zc0
            have hz9 : zi < 256 := by rw [hzi]; exact UInt8.toNat_lt _
            have zc : wr.cell? ⟨bz, oz + r, none⟩ = some (.int .u8 (zi : Int)) := (HBW.out.cell (p := ⟨bz, oz + r, none⟩) hbz).trans zc0
            obtain ⟨gx, rfl⟩ : ∃ gx, ax = some ⟨gx, 0, none⟩ := by
              rcases HXS.out with ⟨-, -, e⟩ | ⟨g, e, -⟩
              · omega
              · exact ⟨g, e⟩
            have g0 : (0 : Int) ≤ (k : Int) := by omega
            have g1 : (a' : Int) < (x.length : Int) := by omega
            have g2 : (x.length : Int) ≤ 3000 := by omega
            have g3 : (0 : Int) ≤ (r : Int) := by omega
            have g4 : (r : Int) < (Z.length : Int) := by omega
            have g5 : (Z.length : Int) ≤ 60 := by omega
            have g6 : (0 : Int) ≤ (zi : Int) := by omega
            have g7 : (zi : Int) < 256 := by omega
            have g8 : (k : Int) ≤ 3000 := by omega
            have g9 : ((Z.length : Int) == 0) = false := e3
            clear hr zc0 hzi
            by_cases hmin : a' + zi + 1 ≤ x.length
            · have h66 : (a' : Int) + (zi : Int) + 1 ≤ (x.length : Int) := by omega
              obtain ⟨ee, hee⟩ : ∃ ee, ee = a' + zi + 1 := ⟨_, rfl⟩
              have hev : (a' : Int) + (zi : Int) + 1 = (ee : Int) := by omega
              have he1 : a' < ee := by omega
              have he2 : ee ≤ x.length := by omega
              have hmz : ee ≤ a' + zi + 1 := by omega
              clear hee hmin
              go_upto_region 21 with fail
              clear h66 hev
              obtain ⟨m, hm⟩ : ∃ m, m = ee - a' := ⟨_, rfl⟩
              have hI := HI.out
              have hat := hI.at_
              have hsp := hI.split
              have hxl2 : sent.flatten.length = done.flatten.length + qs.flatten.length := by rw [hsp, List.flatten_append, List.length_append]
              have hxe : x.length = sent.flatten.length := by rw [HXX.out]
              have hfp : firstL bs a' ee = fp qs o m := by
                have h1 := first_fp done qs o m ee (by rw [← hsp]; exact fun p hp => (HWF.out p hp).1) hI.ho (by omega) (by omega) (.inl (by omega))
                rw [← hsp, ← HBS.out, hat] at h1
                exact h1
              have hdat : (x.drop a').take m = (qs.flatten.drop o).take m := by
                have h1 := data_cut done qs o m
                rw [← hsp, ← HXX.out, hat] at h1
                exact h1
              have HRV := Lib.hid (invS_recv (m := m) (fun p hp => (HWF.out p hp).1) hI (by omega) (by omega) (by omega))
              obtain ⟨D, hD⟩ : ∃ D, D = (qs.flatten.drop o).take m := ⟨_, rfl⟩
              rw [← hD] at HRV hdat
              have HDL : Hid (D.length = m) := Lib.hid (by rw [← hdat, List.length_take, List.length_drop]; omega)
              have HFP := Lib.hid hfp
              have HDA : Hid (BAt wr (some ⟨gx, a', none⟩) D) := Lib.hid (by
                have := BAt.sub HAXr.out a' m
                rw [Nat.zero_add, hdat] at this
                exact this)
              have HM := Lib.hid hm
              have hml : m ≤ 3000 := by omega
              have i1 : (nb : Int) = (bs.length : Int) := by have := HNBL.out; omega
              have hbl9 : bs.length ≤ 40 := hbl
              clear hI hat hsp hxl2 hxe hfp hdat hD hm zc
              go_wp2_with fail
              go_loop [14, 15] (fun f i => ∃ j : Nat, j ≤ bs.length ∧ i = .int .i64 ((j : Int) - 1) ∧ f = .int .i64 (firstL (bs.drop j) a' ee)) (fun _ i => (intOf i + 1).toNat)
              case atStart => exact ⟨bs.length, Nat.le_refl _, by first | rfl | (congr), by rw [List.drop_length]; rfl⟩
              case round =>
                obtain ⟨j, hj, rfl, rfl⟩ := hrel
                by_cases hj0 : 0 < j
                · obtain ⟨jj, rfl⟩ : ∃ jj, j = jj + 1 := ⟨j - 1, by omega⟩
                  have hjl : jj < bs.length := by omega
                  have ejj : ((jj + 1 : Nat) : Int) - 1 = (jj : Int) := by omega
                  obtain ⟨bb, obb, hab, hcj⟩ := HABr.out.nat hjl
                  have hfc := firstL_cons bs[jj] (bs.drop (jj + 1)) a' (ee)
                  rw [← drop_cons hjl] at hfc
                  obtain ⟨bj, hbj⟩ : ∃ bj, bj = bs[jj] := ⟨_, rfl⟩
                  rw [← hbj] at hcj hfc
                  obtain ⟨fo, hfo⟩ : ∃ fo, fo = firstL (bs.drop (jj + 1)) a' (ee) := ⟨_, rfl⟩
                  rw [← hfo] at hfc
                  rw [ejj, ← hfo]
                  have HFC := Lib.hid hfc
                  have k1 : (0 : Int) ≤ (jj : Int) := by omega
                  have k2 : (jj : Int) < (nb : Int) := by omega
                  have k3 : (jj : Int) ≤ 40 := by omega
                  clear hfc hfo hbj ejj
                  subst hab
                  by_cases q1 : a' ≤ bj
                  · have i2 : (a' : Int) ≤ (bj : Int) := by omega
                    by_cases q2 : bj < ee
                    · have i3 : (bj : Int) < ((ee : Nat) : Int) := by omega
                      go_wp2_with fail
                      go_round
                      case rel => exact ⟨jj, by omega, rfl, by rw [HFC.out, if_pos ⟨q1, q2⟩]; exact congrArg (Value.int .i64) (by omega)⟩
                      case measure => simp [intOf] <;> omega
                    · have i3 : ¬ (bj : Int) < ((ee : Nat) : Int) := by omega
                      go_wp2_with fail
                      go_round
                      case rel => exact ⟨jj, by omega, rfl, by rw [HFC.out, if_neg (fun h => q2 h.2)]⟩
                      case measure => simp [intOf] <;> omega
                  · have i2 : ¬ (a' : Int) ≤ (bj : Int) := by omega
                    go_wp2_with fail
                    go_round
                    case rel => exact ⟨jj, by omega, rfl, by rw [HFC.out, if_neg (fun h => q1 h.1)]⟩
                    case measure => simp [intOf] <;> omega
                · obtain rfl : j = 0 := by omega
                  rw [List.drop_zero, HFP.out]
                  have ecx : ¬ cx = a' := by omega
                  have hcx9 : cx ≤ 9223372036854775807 := hxm
                  have i4 : (a' : Int) ≤ ((ee : Nat) : Int) := by omega
                  have i5 : ((ee : Nat) : Int) ≤ (cx : Int) := by omega
                  have em : ee - a' = m := HM.out.symm
                  obtain ⟨ff, hff⟩ : ∃ ff, ff = fp qs o m := ⟨_, rfl⟩
                  rw [← hff] at HRV ⊢
                  clear hff HFP
                  go_wp2_with fail
                  refine (take_n HG.out.hu HNB.out ⟨by rw [HLO.out]; omega, by rw [HLO.out]; omega⟩ hr4 HDA.out HDL.out (by omega) (by omega) (by unfold maxLen; omega)).mono ?_
                  rintro e w4 ⟨vo, a4, cap4, rfl, hU4, hS4, hF4, hK4⟩
                  have htb := u.take_bd ((k : Int) % 256) ff D HNB.out (by rw [HLO.out]; omega) hr4
                  obtain ⟨R, hR⟩ : ∃ R, R = u.take ((k : Int) % 256) ff D := ⟨_, rfl⟩
                  have hrv := HRV.out
                  rw [← hR] at hU4 hS4 hK4 htb hrv
                  obtain ⟨u', outs⟩ := R
                  dsimp only at hU4 hS4 hK4 htb hrv
                  obtain ⟨hn1, -, -, hs1, -⟩ := htb
                  have hG4 := HG.out.fed hU4 hF4 hK4
                  have hBsz := HG.out.below.size
                  have hgl := fun k hk => HG.out.got.lt k hk
                  have hulr := HG.out.hu.blk.lt
                  have hS4' : SAt w4 (fun k => k ≤ wo.heap.size ∨ u10.ownBlock = some k) vo outs := hS4.grow (fun j hj => .inl (by
                    rcases hj with h | h
                    · omega
                    · exact (hgl j h).2))
                  obtain ⟨a5, c5, us, rfl, hc5, hm5, hV5, -, hsl5⟩ := hS4'
                  have hlen : fs.length + outs.length ≤ sent.length := by
                    obtain ⟨_, _, _, h⟩ := hrv
                    have := invS_len h
                    rwa [List.length_append] at this
                  have HG4 := Lib.hid hG4
                  have HV5 := Lib.hid hV5
                  have HSL5 := Lib.hid hsl5
                  have H1C := Lib.hid hsl5.one_cell
                  have HRV4 := Lib.hid hrv
                  have HN1 := Lib.hid hn1
                  have hs4 := hG4.below.size
                  have hl4 := hG4.hu.blk.lt
                  clear hU4 hS4 hF4 hK4 hR hrv hG4 hV5 hsl5 hn1 hgl hulr em
                  go_wp2_with (at_builtin; refine wpList_append_src _ rfl (.tmp 119) (.tmp 128) 22 rfl (wo.heap.size + 1) 23 j1 (.slice none 0 0) 24 Try.underlying22 HJ1.out hz0 hz1 hz2 (by rfl) _ fs.length vs rfl HG4.out.got a5 outs.length c5 us rfl HSL5.out.1 HV5.out H1C.out (by unfold maxLen; omega) (by omega) (by omega) ?_)
                  intro v6 w6 hown6 hgrow6 hblk6
                  have hG6 := HG4.out.more HSL5.out hown6 hgrow6 hblk6
                  have HG6 := Lib.hid hG6
                  clear hown6 hgrow6 hblk6 hG6
                  go_wp2_with fail
                  go_roundw
                  case rel =>
                    obtain ⟨done', qs', o', hI'⟩ := HRV4.out
                    have em : a' + m = ee := by have := HM.out; omega
                    rw [em] at hI'
                    exact ⟨k + 1, ee, u', a4, cap4, fs ++ outs, done', qs', o', vs ++ us, by omega, by omega, rfl, by go_num, HG6.out, hI', HN1.out, hs1, invS_len hI'⟩
                  case measure => simp [intOf]; omega
            · have h66 : ¬ (a' : Int) + (zi : Int) + 1 ≤ (x.length : Int) := by omega
              have he1 : a' < x.length := hlt
              have he2 : x.length ≤ x.length := Nat.le_refl _
              have hmz : x.length ≤ a' + zi + 1 := by omega
              clear hmin
              go_upto_region 21 with fail
              clear h66
              obtain ⟨m, hm⟩ : ∃ m, m = x.length - a' := ⟨_, rfl⟩
              have hI := HI.out
              have hat := hI.at_
              have hsp := hI.split
              have hxl2 : sent.flatten.length = done.flatten.length + qs.flatten.length := by rw [hsp, List.flatten_append, List.length_append]
              have hxe : x.length = sent.flatten.length := by rw [HXX.out]
              have hfp : firstL bs a' x.length = fp qs o m := by
                have h1 := first_fp done qs o m x.length (by rw [← hsp]; exact fun p hp => (HWF.out p hp).1) hI.ho (by omega) (by omega) (.inl (by omega))
                rw [← hsp, ← HBS.out, hat] at h1
                exact h1
              have hdat : (x.drop a').take m = (qs.flatten.drop o).take m := by
                have h1 := data_cut done qs o m
                rw [← hsp, ← HXX.out, hat] at h1
                exact h1
              have HRV := Lib.hid (invS_recv (m := m) (fun p hp => (HWF.out p hp).1) hI (by omega) (by omega) (by omega))
              obtain ⟨D, hD⟩ : ∃ D, D = (qs.flatten.drop o).take m := ⟨_, rfl⟩
              rw [← hD] at HRV hdat
              have HDL : Hid (D.length = m) := Lib.hid (by rw [← hdat, List.length_take, List.length_drop]; omega)
              have HFP := Lib.hid hfp
              have HDA : Hid (BAt wr (some ⟨gx, a', none⟩) D) := Lib.hid (by
                have := BAt.sub HAXr.out a' m
                rw [Nat.zero_add, hdat] at this
                exact this)
              have HM := Lib.hid hm
              have hml : m ≤ 3000 := by omega
              have i1 : (nb : Int) = (bs.length : Int) := by have := HNBL.out; omega
              have hbl9 : bs.length ≤ 40 := hbl
              clear hI hat hsp hxl2 hxe hfp hdat hD hm zc
              go_wp2_with fail
              go_loop [14, 15] (fun f i => ∃ j : Nat, j ≤ bs.length ∧ i = .int .i64 ((j : Int) - 1) ∧ f = .int .i64 (firstL (bs.drop j) a' x.length)) (fun _ i => (intOf i + 1).toNat)
              case atStart => exact ⟨bs.length, Nat.le_refl _, by first | rfl | (congr), by rw [List.drop_length]; rfl⟩
              case round =>
                obtain ⟨j, hj, rfl, rfl⟩ := hrel
                by_cases hj0 : 0 < j
                · obtain ⟨jj, rfl⟩ : ∃ jj, j = jj + 1 := ⟨j - 1, by omega⟩
                  have hjl : jj < bs.length := by omega
                  have ejj : ((jj + 1 : Nat) : Int) - 1 = (jj : Int) := by omega
                  obtain ⟨bb, obb, hab, hcj⟩ := HABr.out.nat hjl
                  have hfc := firstL_cons bs[jj] (bs.drop (jj + 1)) a' (x.length)
                  rw [← drop_cons hjl] at hfc
                  obtain ⟨bj, hbj⟩ : ∃ bj, bj = bs[jj] := ⟨_, rfl⟩
                  rw [← hbj] at hcj hfc
                  obtain ⟨fo, hfo⟩ : ∃ fo, fo = firstL (bs.drop (jj + 1)) a' (x.length) := ⟨_, rfl⟩
                  rw [← hfo] at hfc
                  rw [ejj, ← hfo]
                  have HFC := Lib.hid hfc
                  have k1 : (0 : Int) ≤ (jj : Int) := by omega
                  have k2 : (jj : Int) < (nb : Int) := by omega
                  have k3 : (jj : Int) ≤ 40 := by omega
                  clear hfc hfo hbj ejj
                  subst hab
                  by_cases q1 : a' ≤ bj
                  · have i2 : (a' : Int) ≤ (bj : Int) := by omega
                    by_cases q2 : bj < x.length
                    · have i3 : (bj : Int) < ((x.length : Nat) : Int) := by omega
                      go_wp2_with fail
                      go_round
                      case rel => exact ⟨jj, by omega, rfl, by rw [HFC.out, if_pos ⟨q1, q2⟩]; exact congrArg (Value.int .i64) (by omega)⟩
                      case measure => simp [intOf] <;> omega
                    · have i3 : ¬ (bj : Int) < ((x.length : Nat) : Int) := by omega
                      go_wp2_with fail
                      go_round
                      case rel => exact ⟨jj, by omega, rfl, by rw [HFC.out, if_neg (fun h => q2 h.2)]⟩
                      case measure => simp [intOf] <;> omega
                  · have i2 : ¬ (a' : Int) ≤ (bj : Int) := by omega
                    go_wp2_with fail
                    go_round
                    case rel => exact ⟨jj, by omega, rfl, by rw [HFC.out, if_neg (fun h => q1 h.1)]⟩
                    case measure => simp [intOf] <;> omega
                · obtain rfl : j = 0 := by omega
                  rw [List.drop_zero, HFP.out]
                  have ecx : ¬ cx = a' := by omega
                  have hcx9 : cx ≤ 9223372036854775807 := hxm
                  have i4 : (a' : Int) ≤ ((x.length : Nat) : Int) := by omega
                  have i5 : ((x.length : Nat) : Int) ≤ (cx : Int) := by omega
                  have em : x.length - a' = m := HM.out.symm
                  obtain ⟨ff, hff⟩ : ∃ ff, ff = fp qs o m := ⟨_, rfl⟩
                  rw [← hff] at HRV ⊢
                  clear hff HFP
                  go_wp2_with fail
                  refine (take_n HG.out.hu HNB.out ⟨by rw [HLO.out]; omega, by rw [HLO.out]; omega⟩ hr4 HDA.out HDL.out (by omega) (by omega) (by unfold maxLen; omega)).mono ?_
                  rintro e w4 ⟨vo, a4, cap4, rfl, hU4, hS4, hF4, hK4⟩
                  have htb := u.take_bd ((k : Int) % 256) ff D HNB.out (by rw [HLO.out]; omega) hr4
                  obtain ⟨R, hR⟩ : ∃ R, R = u.take ((k : Int) % 256) ff D := ⟨_, rfl⟩
                  have hrv := HRV.out
                  rw [← hR] at hU4 hS4 hK4 htb hrv
                  obtain ⟨u', outs⟩ := R
                  dsimp only at hU4 hS4 hK4 htb hrv
                  obtain ⟨hn1, -, -, hs1, -⟩ := htb
                  have hG4 := HG.out.fed hU4 hF4 hK4
                  have hBsz := HG.out.below.size
                  have hgl := fun k hk => HG.out.got.lt k hk
                  have hulr := HG.out.hu.blk.lt
                  have hS4' : SAt w4 (fun k => k ≤ wo.heap.size ∨ u10.ownBlock = some k) vo outs := hS4.grow (fun j hj => .inl (by
                    rcases hj with h | h
                    · omega
                    · exact (hgl j h).2))
                  obtain ⟨a5, c5, us, rfl, hc5, hm5, hV5, -, hsl5⟩ := hS4'
                  have hlen : fs.length + outs.length ≤ sent.length := by
                    obtain ⟨_, _, _, h⟩ := hrv
                    have := invS_len h
                    rwa [List.length_append] at this
                  have HG4 := Lib.hid hG4
                  have HV5 := Lib.hid hV5
                  have HSL5 := Lib.hid hsl5
                  have H1C := Lib.hid hsl5.one_cell
                  have HRV4 := Lib.hid hrv
                  have HN1 := Lib.hid hn1
                  have hs4 := hG4.below.size
                  have hl4 := hG4.hu.blk.lt
                  clear hU4 hS4 hF4 hK4 hR hrv hG4 hV5 hsl5 hn1 hgl hulr em
                  go_wp2_with (at_builtin; refine wpList_append_src _ rfl (.tmp 119) (.tmp 128) 22 rfl (wo.heap.size + 1) 23 j1 (.slice none 0 0) 24 Try.underlying22 HJ1.out hz0 hz1 hz2 (by rfl) _ fs.length vs rfl HG4.out.got a5 outs.length c5 us rfl HSL5.out.1 HV5.out H1C.out (by unfold maxLen; omega) (by omega) (by omega) ?_)
                  intro v6 w6 hown6 hgrow6 hblk6
                  have hG6 := HG4.out.more HSL5.out hown6 hgrow6 hblk6
                  have HG6 := Lib.hid hG6
                  clear hown6 hgrow6 hblk6 hG6
                  go_wp2_with fail
                  go_roundw
                  case rel =>
                    obtain ⟨done', qs', o', hI'⟩ := HRV4.out
                    have em : a' + m = x.length := by have := HM.out; omega
                    rw [em] at hI'
                    exact ⟨k + 1, x.length, u', a4, cap4, fs ++ outs, done', qs', o', vs ++ us, by omega, by omega, rfl, by go_num, HG6.out, hI', HN1.out, hs1, invS_len hI'⟩
                  case measure => simp [intOf]; omega
          · obtain rfl : a' = x.length := by omega
            clear hlt
            have hend := HI.out
            rw [HXX.out] at hend
            have hge := invS_end (fun p hp => (HWF.out p hp).1) hend (fun p hp => (HWF.out p hp).2)
            subst hge
            go_wp2_with fail
            refine (same_any _ _ _ _ _ _ _ (SAt.of_row (S := fun k => k ≤ wo.heap.size) HG.out.got (HG.out.sls.grow fun k hk => .inl (.inl hk)) (fun k hk e => by have := (HG.out.got.lt k hk).1; omega)) (HS1.out.sat.below HG.out.below (Nat.le_refl _))).mono ?_
            rintro e w4 ⟨rfl, hq⟩
            rw [decide_eq_true (rfl : fs = fs)]
            have HG4 := Lib.hid (HG.out.step (hq.below (B := wr.heap.size)))
            have HB4 := Lib.hid (HBW.out.trans (hq.below (B := w.heap.size)))
            clear hq
            go_wp2_with fail
            refine (lost_any _ _ _ _ _ HG4.out.hu).mono ?_
            rintro e w9 ⟨rfl, hw9⟩
            obtain rfl := hw9.symm
            rw [HLO.out]
            go_wp2_with fail
            refine (alive_any _).mono ?_
            rintro e w9 ⟨rfl, hB⟩
            have HB9 := Lib.hid (HB4.out.trans (hB.mono HB4.out.size))
            clear hB
            go_wp2_with fail
            go_ret
            exact ⟨rfl, HB9.out⟩


set_option maxRecDepth 100000 in
theorem lifted (os : Os) (started : os.Started) (H : Type) (enc : TypeId × Value → H) :
    ReturnsInHanded {} Try.checked os 4 .any (Rows.unpackerSizesSpec.pre6 enc Try.prog Try.f4 Rows.unpackerSizesRow.domain false) (Rows.unpackerSizesSpec.post enc Try.prog Try.f4 false true false false) := by
  refine returnsInHanded_of_change (C := Try.checked) own started (by kernel_rfl) Try.func4
    (ChangeSpec.witness6 (enc := enc) (C := Try.checked) false ⟨#[], #[.slice none 0 0, .slice none 0 0], []⟩ 8 (by kernel_rfl) (by kernel_rfl) (by kernel_rfl) (by kernel_rfl)) ?_
  intro W base args ds gs before hval0 hW hcnd _
  have hval : ∀ (j : Nat) t v, Try.f4.params[j]? = some t → args[j]? = some v → Value.okWide Try.prog W .any base t v := hval0
  have hW' := hW
  obtain ⟨p, q, hA0, hV, rfl, hfz, hnd⟩ := hW
  have hA : DataW.TrodAll enc Try.prog W 0 (fun _ => true) true Try.f4.params.toList args.toList ds p := hA0
  rw [Try.params4] at hA hval
  obtain ⟨v0, vs0, d0, ds0, p0, q0, hargs, rfl, rfl, h0, r0⟩ := trodAll_cons hA
  obtain ⟨v1, vs1, d1, ds1, p1, q1, rfl, rfl, rfl, h1, r1⟩ := trodAll_cons r0
  obtain ⟨rfl, rfl, rfl⟩ := trodAll_nil r1
  obtain rfl : args = #[v0, v1] := by cases args; simp_all
  obtain ⟨rfl, rfl⟩ := trodVars_none hV
  have k0 := h0
  have lt0 : ∀ x ∈ p0, x.block < W.heap.size := by obtain ⟨m, hm⟩ := k0; exact DataW.trod_lt m _ _ _ hm
  have k1 := h1
  have lt1 : ∀ x ∈ p1, x.block < W.heap.size := by obtain ⟨m, hm⟩ := k1; exact DataW.trod_lt m _ _ _ hm
  clear hA0 hval0
  refine (walk v0 v1 W (hval 0 22 v0 rfl rfl) k0 (hval 1 23 v1 rfl rfl) k1).mono fun e W' ⟨he, bel⟩ => ?_
  subst he
  exact ⟨_, rfl, _, _, _, [], _, [], hW', trodAll_mk1 (shut_bool Try.underlying4 _), (trodAll_cons_mk (Below.trod laidOut (by kernel_rfl) (of_decide_eq_true (by kernel_rfl)) k0 bel lt0) (trodAll_cons_mk (Below.trod laidOut (by kernel_rfl) (of_decide_eq_true (by kernel_rfl)) k1 bel lt1) trodAll_mk0)), rfl, bel.frame _, fun h => by cases h⟩

theorem over : Rows.unpackerSizesRow.holds Try.pinned (OpenSpec.ofChange Rows.unpackerSizesSpec) :=
  OpenClaim.holds_of_wide 4 Try.f4 rfl rfl rfl rfl rfl rfl rfl ⟨rfl, rfl, rfl, rfl, rfl⟩ rfl rfl rfl rfl rfl (by kernel_rfl) Try.func4 (by kernel_rfl)
    (of_decide_eq_true (by kernel_rfl)) (by unfold Func.isWrapper; first | (rw [if_pos (by decide +kernel)]; kernel_rfl) | (rw [if_neg (by decide +kernel)]; exact ⟨rfl, rfl⟩))
    (fun os started H enc _ => lifted os started H enc)

theorem proved : Rows.UnpackerSizesSaid := over
#print axioms proved
end Go.Proofs.Ytllpbfejoahllaa.unpackerSizes

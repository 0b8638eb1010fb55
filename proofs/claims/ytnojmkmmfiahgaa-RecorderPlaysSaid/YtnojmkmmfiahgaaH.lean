/- Contract of Add. No condition. -/
import Derived.Test.YtnojmkmmfiahgaaHA
namespace Go.Proofs.Ytnojmkmmfiahgaa
open Go.RowKit Go.Deep Go.ChangeShapes Go.WideShapes Go.ChangeAt
set_option linter.unusedVariables false

set_option maxRecDepth 20000 in
set_option maxHeartbeats 2000000 in
theorem add_any {w : World} {B b m cap : Nat} {r : RS} {vS : Value} {Y : List SM} {a : Option Addr} {l : List UInt8} (id now : Int) (h : RAt w B b r vS Y) (ok : r.Ok) (hb : AB B w a l) (hm : l.length = m) (hl : m ≤ 100000) (hdrop : ∀ (i : Nat) (s : St), r.stores[i]? = some s → s.drop ≤ 4000000000000000000) : Calls Try.prog 10 #[.pointer (some ⟨b, 0, none⟩), .int .i64 id, .int .i64 now, .slice a m cap] w (DQ B b vS w (r.add id now l)) := by
  have hn : Y.length ≤ 1000 := by rw [h.yl]; have := ok.few; omega
  have H := Lib.hid h
  have OK := Lib.hid ok
  have HAB := Lib.hid hb
  have HM := Lib.hid hm
  obtain ⟨er, her⟩ : ∃ er : Int, er = (match r.find id with | none => 8 | some _ => 0) := ⟨_, rfl⟩
  have HER := Lib.hid her
  have her2 : (er != 2) = true := by rw [her]; split <;> rfl
  clear h ok hb hm
  go_enter Try.func10, Try.ntmps10
  go_wp2_with fail
  refine (find_any id H.out hn).mono ?_
  rintro e w2 ⟨hm, hB⟩
  obtain ⟨ps, hps, rfl⟩ : ∃ ps : Value, (match r.find id with | none => ps = .pointer none | some i => ∃ y, Y[i]? = some y ∧ ps = ptr y.s) ∧ e = .returned (.tuple #[ps, .int .i64 er]) := by
    rw [her]
    cases hf : r.find id with
    | none => rw [hf] at hm; exact ⟨_, rfl, hm⟩
    | some i => rw [hf] at hm; obtain ⟨y, hy, rfl⟩ := hm; exact ⟨_, ⟨y, hy, rfl⟩, rfl⟩
  have H2 := Lib.hid (H.out.below hB (Nat.le_refl _))
  have HF2 : Hid (RF B w w2) := Lib.hid (RF.of_below hB)
  have HAB2 := Lib.hid (HAB.out.rf HF2.out)
  have HPS := Lib.hid hps
  clear hB hm hps her
  obtain ⟨r1, hr1⟩ : ∃ r1, r1 = r.tick now := ⟨_, rfl⟩
  have HR1 := Lib.hid hr1
  have c1 := H2.out.blk.at 1 rfl
  have f1 := H2.out.blk.free 1
  have cl := H2.out.blk.lt
  clear hr1
  go_upto_if 22 with fail
  go_cut [] (fun wx => RAt wx B b r1 vS Y ∧ RF B w wx)
  case first =>
    by_cases hnow : now ≤ 1099511627776
    · have hr1 : Hid (r1 = { r with now := max r.now now }) := Lib.hid (by rw [HR1.out]; unfold RS.tick; rw [if_pos hnow])
      go_wp2_with fail
      go_meet
      case rel =>
        have hF : Fr (fun k => k = b) w2 (w2.setCell ⟨b, 1, none⟩ (.int .i64 (max r.now now))) := (Fr.refl _ _).set1 _ (by exact .inl rfl)
        exact ⟨by rw [hr1.out]; exact H2.out.tick hF (Blk.cast (H2.out.blk.setCell 1 _) rfl), HF2.out.trans (RF.of_b H2.out hF)⟩
    · have hr1 : Hid (r1 = r) := Lib.hid (by rw [HR1.out]; unfold RS.tick; rw [if_neg hnow])
      go_wp2_with fail
      go_meet
      case rel => exact ⟨by rw [hr1.out]; exact H2.out, HF2.out⟩
  case rest =>
    obtain ⟨hc1, hc2⟩ := hcut
    obtain ⟨w3, hw3⟩ : ∃ w3, w3 = wc := ⟨wc, rfl⟩
    subst hw3
    have H3 := Lib.hid hc1
    have HF3 := Lib.hid hc2
    have HAB3 := Lib.hid (HAB.out.rf hc2)
    clear hc1 hc2 c1 f1 cl her2
    have HFD : Hid (r1.find id = r.find id) := Lib.hid (by rw [HR1.out]; rfl)
    have HOK1 : Hid r1.Ok := Lib.hid (by rw [HR1.out]; exact RS.ok_tick OK.out now)
    cases hf : r.find id with
    | none =>
      have HP : Hid (r.add id now l = (r1, 8)) := Lib.hid (by unfold RS.add; rw [← HR1.out, HFD.out, hf])
      have her : er = 8 := by rw [HER.out, hf]
      subst her
      clear hf
      go_wp2_with fail
      go_ret
      exact ⟨ret_int (by rw [HP.out]), HF3.out, Y, by rw [HP.out]; exact H3.out⟩
    | some i =>
      have her : er = 0 := by rw [HER.out, hf]
      subst her
      have hps := HPS.out
      rw [hf] at hps
      obtain ⟨y, hy, rfl⟩ := hps
      obtain ⟨s, hs, hst⟩ := H3.out.at hy
      have HS := Lib.hid hs
      have HST := Lib.hid hst
      have HY := Lib.hid hy
      have HSO : Hid s.Ok := Lib.hid (HOK1.out.each s (List.mem_of_getElem? hs))
      have HADD : Hid (r.add id now l = (r1.put i (s.add r1.now l).1, (s.add r1.now l).2)) := Lib.hid (by unfold RS.add; rw [← HR1.out, HFD.out, hf]; dsimp only; rw [get_of hs])
      have HDR : Hid (s.drop ≤ 4000000000000000000) := Lib.hid (hdrop i s (by rw [← HS.out, HR1.out]; rfl))
      have HLN : Hid (s.L.length ≤ 2147483648) := Lib.hid (by have h1 := lvl_len HSO.out.each; have h2 := HSO.out.lvl; have h3 := HSO.out.room; omega)
      have HPP : Hid (r1.put i s = r1) := Lib.hid (by
        unfold RS.put
        obtain ⟨hlt, rfl⟩ := List.getElem?_eq_some_iff.1 hs
        rw [List.set_getElem_self])
      clear hf hst hs hy
      unfold ptr
      by_cases hm1 : m < 1
      · have e1 : (m : Int) < 1 := by omega
        have HP : Hid (r.add id now l = (r1, 1)) := Lib.hid (by rw [HADD.out]; unfold St.add; rw [if_pos (by rw [HM.out]; exact .inl hm1)]; dsimp only; rw [HPP.out])
        go_wp2_with fail
        go_ret
        exact ⟨ret_int (by rw [HP.out]), HF3.out, Y, by rw [HP.out]; exact H3.out⟩
      by_cases hm2 : 4096 < m
      · have e1 : ¬ (m : Int) < 1 := by omega
        have e2 : 4096 < (m : Int) := by omega
        have HP : Hid (r.add id now l = (r1, 1)) := Lib.hid (by rw [HADD.out]; unfold St.add; rw [if_pos (by rw [HM.out]; exact .inr hm2)]; dsimp only; rw [HPP.out])
        go_wp2_with fail
        go_ret
        exact ⟨ret_int (by rw [HP.out]), HF3.out, Y, by rw [HP.out]; exact H3.out⟩
      have e1 : ¬ (m : Int) < 1 := by omega
      have e2 : ¬ 4096 < (m : Int) := by omega
      obtain ⟨lv, hlv⟩ : ∃ lv, lv = lvl s.L := ⟨_, rfl⟩
      have HLV := Lib.hid hlv
      have c1 := HST.out.blk.at 1 rfl
      have c3 := HST.out.blk.at 3 rfl
      have c5 : w3.cell? ⟨y.s, 5, none⟩ = some (.int .i64 (lv : Int)) := by rw [hlv]; exact HST.out.blk.at 5 rfl
      have cl := HST.out.blk.lt
      have hro := HSO.out.room
      have hlr := HSO.out.lvl
      rw [← hlv] at hlr
      clear hlv
      by_cases hA : s.room < (m : Int)
      · have dA : decide (s.room < (m : Int)) = true := decide_eq_true hA
        have HP : Hid (r.add id now l = (r1, 7)) := Lib.hid (by rw [HADD.out]; unfold St.add; rw [if_neg (by rw [HM.out]; omega), if_pos (by rw [HM.out]; exact .inl hA)]; dsimp only; rw [HPP.out])
        clear hA
        go_wp2_with (go_quiet (fail))
        go_ret
        exact ⟨ret_int (by rw [HP.out]), HF3.out.trans (RF.of_below (Quiet.below ⟨_, rfl⟩)), Y, by rw [HP.out]; exact H3.out.quiet ⟨_, rfl⟩⟩
      have dA : decide (s.room < (m : Int)) = false := decide_eq_false hA
      have e3 : IntKind.i64.wrap ((lv : Int) + (m : Int)) = (lv : Int) + (m : Int) := IntWalk.i64_in _ (by omega)
      cases hci : s.circ with
      | false =>
        rw [hci] at c3
        by_cases hB : s.room < (lv : Int) + (m : Int)
        · have dB : decide (s.room < (lv : Int) + (m : Int)) = true := decide_eq_true hB
          have HP : Hid (r.add id now l = (r1, 7)) := Lib.hid (by rw [HADD.out]; unfold St.add; rw [if_neg (by rw [HM.out]; omega), if_pos (by rw [HM.out, ← HLV.out]; right; exact ⟨hci, by omega⟩)]; dsimp only; rw [HPP.out])
          clear hA hB hci
          go_wp2_with (go_quiet (fail))
          go_ret
          exact ⟨ret_int (by rw [HP.out]), HF3.out.trans (RF.of_below (Quiet.below ⟨_, rfl⟩)), Y, by rw [HP.out]; exact H3.out.quiet ⟨_, rfl⟩⟩
        · have dB : decide (s.room < (lv : Int) + (m : Int)) = false := decide_eq_false hB
          have HP : Hid (r.add id now l = (r1.put i { s with L := (shed m s.room s.L s.drop).1 ++ [⟨r1.now, l, false⟩], drop := (shed m s.room s.L s.drop).2 }, 0)) := Lib.hid (by rw [HADD.out]; unfold St.add; rw [if_neg (by rw [HM.out]; omega), if_neg (by rw [HM.out, ← HLV.out]; intro e; rcases e with e | ⟨-, e⟩ <;> omega), HM.out])
          clear hB hci
          have hmr : (m : Int) ≤ s.room := by omega
          go_wp2_with (go_quiet (fail))
          obtain ⟨w4, hw4⟩ : ∃ w4, w4 = w3.drewN nq := ⟨_, rfl⟩
          rw [← hw4]
          have hq4 : Quiet w3 w4 := by rw [hw4]; exact ⟨_, rfl⟩
          have H4 := Lib.hid (H3.out.quiet hq4)
          have HF4 := Lib.hid (HF3.out.trans (RF.of_below hq4.below))
          have HST4 := Lib.hid (HST.out.below hq4.below (Nat.le_refl _))
          obtain ⟨ys, hys⟩ : ∃ ys, ys = y.s := ⟨_, rfl⟩
          have HYS := Lib.hid hys
          rw [← hys]
          clear hw4 hq4 hys c1 c3 c5 cl dA e3 hA
          go_loopg [] (s.L.length + 1) (fun gk wr => ∃ (k : Nat) (Yk : List SM) (yk : SM), k ≤ s.L.length ∧ s.L.length - k < gk ∧ Hid (RAt wr B b (r1.put i { s with L := s.L.drop k, drop := s.drop + k }) vS Yk) ∧ Hid (Yk[i]? = some yk) ∧ Hid (StAt wr B { s with L := s.L.drop k, drop := s.drop + k } yk) ∧ Hid (yk.s = ys) ∧ Hid (RF B w wr) ∧ Hid (shed m s.room s.L s.drop = shed m s.room (s.L.drop k) (s.drop + k)))
          case atStart => exact ⟨0, Y, y, Nat.zero_le _, by omega, Lib.hid (by show RAt w4 B b (r1.put i s) vS Y; rw [HPP.out]; exact H4.out), HY, HST4, Lib.hid HYS.out.symm, HF4, Lib.hid rfl⟩
          case round =>
            obtain ⟨k, Yk, yk, hk, hgk, HR, HYk, HSk, HYS2, HFk, HTk⟩ := hrel
            obtain ⟨lk, hlk⟩ : ∃ lk, lk = lvl (s.L.drop k) := ⟨_, rfl⟩
            have hlkb : lk ≤ 2147483648 := by have h8 := lvl_drop s.L k; have h9 := HSO.out.lvl; have h7 := HSO.out.room; omega
            have c1 : wr.cell? ⟨ys, 1, none⟩ = some (.int .i64 s.room) := by rw [← HYS2.out]; exact HSk.out.blk.at 1 rfl
            have c5 : wr.cell? ⟨ys, 5, none⟩ = some (.int .i64 (lk : Int)) := by rw [← HYS2.out, hlk]; exact HSk.out.blk.at 5 rfl
            have cl : ys < wr.heap.size := by rw [← HYS2.out]; exact HSk.out.blk.lt
            have HLK := Lib.hid hlk
            have e3 : IntKind.i64.wrap ((lk : Int) + (m : Int)) = (lk : Int) + (m : Int) := IntWalk.i64_in _ (by omega)
            clear hlk
            by_cases hlt : s.room < (lk : Int) + (m : Int)
            · have dL : decide (s.room < (lk : Int) + (m : Int)) = true := decide_eq_true hlt
              obtain ⟨x, xs, hL⟩ : ∃ x xs, s.L.drop k = x :: xs := by
                cases e : s.L.drop k with
                | nil => have h9 := HLK.out; rw [e] at h9; simp only [lvl] at h9; omega
                | cons x xs => exact ⟨x, xs, rfl⟩
              have hkl : k < s.L.length := by
                have h9 := congrArg List.length hL
                rw [List.length_drop] at h9
                simp at h9
                omega
              have hxs : xs = s.L.drop (k + 1) := by
                have h9 := congrArg List.tail hL
                rw [List.tail_drop] at h9
                exact h9.symm
              have HSH : Hid (shed m s.room s.L s.drop = shed m s.room (s.L.drop (k + 1)) (s.drop + (k + 1))) := Lib.hid (by
                rw [HTk.out, hL]
                conv => lhs; unfold shed
                rw [← hL, ← HLK.out, if_pos (by omega), ← hxs]
                rfl)
              have HLL := Lib.hid hL
              have HXS := Lib.hid hxs
              have HLKB := Lib.hid hlkb
              clear hL hxs hlt
              go_upto_region 11 with (go_quiet (fail))
              obtain ⟨w5, hw5⟩ : ∃ w5, w5 = wr.drewN nq := ⟨_, rfl⟩
              rw [← hw5]
              have hq5 : Quiet wr w5 := by rw [hw5]; exact ⟨_, rfl⟩
              have HR5 := Lib.hid (HR.out.quiet hq5)
              have HF5 := Lib.hid (HFk.out.trans (RF.of_below hq5.below))
              have HS5 := Lib.hid (HSk.out.below hq5.below (Nat.le_refl _))
              clear hw5 hq5 c1 c5 cl dL e3 hlkb
              go_wp2_with fail
              have hpop := pop_any HR5.out HYk.out HS5.out HLL.out (by show lvl (s.L.drop k) ≤ _; rw [← HLK.out]; exact HLKB.out)
              rw [HYS2.out] at hpop
              refine hpop.mono ?_
              rintro e w6 ⟨rfl, vE', h6, hs6, hf6⟩
              rw [RS.put_put] at h6
              have HR6 := Lib.hid h6
              have HS6 := Lib.hid hs6
              have HF6 := Lib.hid (HF5.out.trans (RF.of_s HS5.out (by rw [HYS2.out]; exact hf6)))
              have HY6 : Hid ((Yk.set i ⟨ys, vE', yk.gs.tail, yk.vds.tail⟩)[i]? = some ⟨ys, vE', yk.gs.tail, yk.vds.tail⟩) := Lib.hid (set_len _ HYk.out)
              obtain ⟨dk, hdk⟩ : ∃ dk, dk = s.drop + k := ⟨_, rfl⟩
              have c6 : w6.cell? ⟨ys, 6, none⟩ = some (.int .i64 (dk : Int)) := by rw [hdk]; exact hs6.blk.at 6 rfl
              have f6 := hs6.blk.free 6
              have cl := hs6.blk.lt
              have HDK := Lib.hid hdk
              have hdb := HDR.out
              have hkb : k ≤ s.L.length := hk
              obtain ⟨d1, hd1⟩ : ∃ d1, d1 = dk + 1 := ⟨_, rfl⟩
              have j1 : (dk : Int) + 1 = (d1 : Int) := by omega
              have HD1 := Lib.hid hd1
              clear hd1
              have hd9 : dk ≤ 4611686018427387904 := by rw [hdk]; have := HLN.out; omega
              dsimp only at f6 cl
              clear h6 hs6 hf6 hpop hdk
              go_wp2_with fail
              have hF : Fr (fun j => j = ys) w6 (w6.setCell ⟨ys, 6, none⟩ (.int .i64 (d1 : Int))) := (Fr.refl _ _).set1 _ (by exact .inl rfl)
              have hset := HR6.out.setS (s' := { s with L := s.L.drop (k + 1), drop := s.drop + (k + 1) }) (n := 0) (vE' := vE') HY6.out HS6.out hF (by show s.L.drop (k + 1) = xs.drop 0; rw [HXS.out]; simp) (by
                have h9 := HS6.out.blk.setCell 6 (.int .i64 (d1 : Int))
                dsimp only
                rw [← HXS.out, show s.drop + (k + 1) = d1 by have := HDK.out; have := HD1.out; omega]
                exact Blk.cast h9 rfl) (by
                have h9 := HS6.out.row.fr hF (fun j hj e => by
                  obtain ⟨cs, hc⟩ := off_ty HS6.out.row hj
                  subst e
                  exact absurd (HS6.out.blk.kind hc) (by decide))
                simpa using h9) (fun j hj => hj)
              rw [RS.put_put] at hset
              have HRN := Lib.hid hset.1
              have HSN := Lib.hid hset.2
              have HFN := Lib.hid (HF6.out.trans (RF.of_s HS6.out hF))
              have HYN := Lib.hid (set_len (⟨ys, vE', yk.gs.tail.drop 0, yk.vds.tail.drop 0⟩ : SM) HY6.out)
              clear hset hF
              go_roundg (gk - 1)
              case rel => exact ⟨k + 1, _, _, by omega, by omega, HRN, HYN, HSN, Lib.hid rfl, HFN, HSH⟩
              case measure => omega
            · have dL : decide (s.room < (lk : Int) + (m : Int)) = false := decide_eq_false hlt
              have HSE : Hid (shed m s.room s.L s.drop = (s.L.drop k, s.drop + k)) := Lib.hid (by
                rw [HTk.out]
                cases e : s.L.drop k with
                | nil => rfl
                | cons x xs => unfold shed; rw [← e, ← HLK.out, if_neg (by omega), e])
              clear hlt
              go_upto_region 13 with (go_quiet (fail))
              obtain ⟨w5, hw5⟩ : ∃ w5, w5 = wr.drewN nq := ⟨_, rfl⟩
              rw [← hw5]
              have hq5 : Quiet wr w5 := by rw [hw5]; exact ⟨_, rfl⟩
              have HR5 := Lib.hid (HR.out.quiet hq5)
              have HF5 := Lib.hid (HFk.out.trans (RF.of_below hq5.below))
              have HS5 := Lib.hid (HSk.out.below hq5.below (Nat.le_refl _))
              have HAB5 := Lib.hid (HAB.out.rf HF5.out)
              clear hw5 hq5 c1 c5 cl dL e3
              obtain ⟨aE, cE, hvE, hcE, hmE, hV, hob, hnE⟩ := HS5.out.row.vat
              obtain ⟨n, hnn⟩ : ∃ n, n = (yk.gs.map ptr).length := ⟨_, rfl⟩
              rw [← hnn] at hvE hcE
              have hnb : n ≤ 2147483648 := by rw [hnn, List.length_map, HS5.out.gl]; show (s.L.drop k).length ≤ _; rw [List.length_drop]; have := HLN.out; omega
              have c4 : w5.cell? ⟨ys, 4, none⟩ = some (.slice aE n cE) := by rw [← hvE, ← HYS2.out]; exact HS5.out.blk.at 4 rfl
              have c1 : w5.cell? ⟨b, 1, none⟩ = some (.int .i64 r1.now) := HR5.out.blk.at 1 (v := .int .i64 r1.now) rfl
              have cl : ys < w5.heap.size := by rw [← HYS2.out]; exact HS5.out.blk.lt
              have bl := HR5.out.blk.lt
              have hne : ys ≠ b := by rw [← HYS2.out]; exact fun e => absurd ((e ▸ HS5.out.blk : Blk w5 b TS _).ty HR5.out.blk) (by decide)
              have hne' := hne.symm
              have HVE := Lib.hid hvE
              have HLKB := Lib.hid hlkb
              obtain ⟨j1, hj1, hz0, hz1, hz2⟩ := info_parts info68
              have HJ1 := Lib.hid hj1
              obtain ⟨ln, hln⟩ : ∃ ln, ln = lk + m := ⟨_, rfl⟩
              have HLN2 := Lib.hid hln
              have HNN := Lib.hid hnn
              have HGL : Hid (yk.gs.length ≤ 2147483648) := Lib.hid (by rw [hnn, List.length_map] at hnb; exact hnb)
              have HLM : Hid (l.length ≤ 1000000) := Lib.hid (by have := HM.out; omega)
              have jj : (lk : Int) + (m : Int) = (ln : Int) := by omega
              have e3 : IntKind.i64.wrap ((lk : Int) + (m : Int)) = (ln : Int) := by rw [jj]; exact IntWalk.i64_in _ (by omega)
              clear hvE hV hnn hj1 hob hnE hln hlkb jj
              refine wp_region_held_drew (S := (fun w' => w'.cell? ⟨b, 1, none⟩ = some (.int .i64 r1.now))) (by kernel_rfl) (by (try dsimp only); (first | assumption | go_keep)) (fun hHeld => ?_)
              refine wpAnyH_take (i := 0) (oi := (Oper.mk (some 99) (Op.move (Operand.tmp 9)) 62 "recorder.go:105" #[] none)) (v := ?_) rfl (by kernel_rfl) (by kernel_rfl) (by kernel_rfl) (fun _ _ _ h => h) (Or.inl ⟨by rfl, ?_⟩) (by assumption) ?_
              rotate_left
              · (intro w hSw; (try dsimp only at hSw); go_simp; first | done | with_reducible rfl)
              (try simp only [Act.put, List.setIfInBounds_toArray, List.set_cons_zero, List.set_cons_succ])
              refine wpAnyH_take (i := 1) (oi := (Oper.mk (some 100) (Op.move (Operand.tmp 9)) 62 "recorder.go:105" #[] none)) (v := ?_) rfl (by kernel_rfl) (by kernel_rfl) (by kernel_rfl) (fun _ _ _ h => h) (Or.inl ⟨by rfl, ?_⟩) (by assumption) ?_
              rotate_left
              · (intro w hSw; (try dsimp only at hSw); go_simp; first | done | with_reducible rfl)
              (try simp only [Act.put, List.setIfInBounds_toArray, List.set_cons_zero, List.set_cons_succ])
              refine wpAnyH_take (i := 2) (oi := (Oper.mk (some 101) (Op.nilCheck (Operand.tmp 100)) 0 "recorder.go:105" #[Edge.mk 1 Ground.data] none)) (v := ?_) rfl (by kernel_rfl) (by kernel_rfl) (by kernel_rfl) (fun _ _ _ h => h) (Or.inl ⟨by rfl, ?_⟩) (by assumption) ?_
              rotate_left
              · (intro w hSw; (try dsimp only at hSw); go_simp; first | done | with_reducible rfl)
              (try simp only [Act.put, List.setIfInBounds_toArray, List.set_cons_zero, List.set_cons_succ])
              refine wpAnyH_take (i := 3) (oi := (Oper.mk (some 102) (Op.fieldAddr 65 (Operand.tmp 101) 1) 0 "recorder.go:105" #[Edge.mk 2 Ground.data] none)) (v := ?_) rfl (by kernel_rfl) (by kernel_rfl) (by kernel_rfl) (fun _ _ _ h => h) (Or.inl ⟨by rfl, ?_⟩) (by assumption) ?_
              rotate_left
              · (intro w hSw; (try dsimp only at hSw); go_simp; first | done | with_reducible rfl)
              (try simp only [Act.put, List.setIfInBounds_toArray, List.set_cons_zero, List.set_cons_succ])
              refine wpAnyH_take (i := 5) (oi := (Oper.mk (some 104) (Op.move (Operand.tmp 0)) 24 "recorder.go:105" #[] none)) (v := ?_) rfl (by kernel_rfl) (by kernel_rfl) (by kernel_rfl) (fun _ _ _ h => h) (Or.inl ⟨by rfl, ?_⟩) (by assumption) ?_
              rotate_left
              · (intro w hSw; (try dsimp only at hSw); go_simp; first | done | with_reducible rfl)
              (try simp only [Act.put, List.setIfInBounds_toArray, List.set_cons_zero, List.set_cons_succ])
              refine wpAnyH_take (i := 6) (oi := (Oper.mk (some 105) (Op.nilCheck (Operand.tmp 104)) 0 "recorder.go:105" #[Edge.mk 5 Ground.data] none)) (v := ?_) rfl (by kernel_rfl) (by kernel_rfl) (by kernel_rfl) (fun _ _ _ h => h) (Or.inl ⟨by rfl, ?_⟩) (by assumption) ?_
              rotate_left
              · (intro w hSw; (try dsimp only at hSw); go_simp; first | done | with_reducible rfl)
              (try simp only [Act.put, List.setIfInBounds_toArray, List.set_cons_zero, List.set_cons_succ])
              refine wpAnyH_take (i := 7) (oi := (Oper.mk (some 106) (Op.fieldAddr 60 (Operand.tmp 105) 1) 0 "recorder.go:105" #[Edge.mk 6 Ground.data] none)) (v := ?_) rfl (by kernel_rfl) (by kernel_rfl) (by kernel_rfl) (fun _ _ _ h => h) (Or.inl ⟨by rfl, ?_⟩) (by assumption) ?_
              rotate_left
              · (intro w hSw; (try dsimp only at hSw); go_simp; first | done | with_reducible rfl)
              (try simp only [Act.put, List.setIfInBounds_toArray, List.set_cons_zero, List.set_cons_succ])
              refine wpAnyH_take (i := 8) (oi := (Oper.mk (some 107) (Op.load 3 (Operand.tmp 106)) 3 "recorder.go:105" #[Edge.mk 7 Ground.data] none)) (v := ?_) rfl (by kernel_rfl) (by kernel_rfl) (by kernel_rfl) (fun _ _ _ h => h) (Or.inl ⟨by rfl, ?_⟩) (by assumption) ?_
              rotate_left
              · (intro w hSw; (try dsimp only at hSw); go_simp; first | done | with_reducible rfl)
              (try simp only [Act.put, List.setIfInBounds_toArray, List.set_cons_zero, List.set_cons_succ])
              refine wpAnyH_take (i := 9) (oi := (Oper.mk (some 108) (Op.move (Operand.tmp 3)) 31 "recorder.go:105" #[] none)) (v := ?_) rfl (by kernel_rfl) (by kernel_rfl) (by kernel_rfl) (fun _ _ _ h => h) (Or.inl ⟨by rfl, ?_⟩) (by assumption) ?_
              rotate_left
              · (intro w hSw; (try dsimp only at hSw); go_simp; first | done | with_reducible rfl)
              (try simp only [Act.put, List.setIfInBounds_toArray, List.set_cons_zero, List.set_cons_succ])
              refine wpAnyH_ready (rs := [4, 10]) (by kernel_rfl) (by simp) ?_
              refine AllReadyH.cons (o := (Oper.mk (some 103) (Op.load 63 (Operand.tmp 102)) 63 "recorder.go:105" #[Edge.mk 3 Ground.data] none)) rfl (fun K hK => ?st4t8fb4x10) (AllReadyH.cons (o := (Oper.mk (some 109) (Op.call (Call.mk (Callee.value (Operand.func 26)) #[Operand.tmp 108] #[31])) 31 "recorder.go:105" #[Edge.mk 9 Ground.data] none)) rfl (fun K hK => ?st10t8fb4x10) (AllReadyH.nil))
              case' st4t8fb4x10 =>
                go_simp
                skip
                refine hK.out _ _ (by (try dsimp only); (first | assumption | go_keep)) (fun hHeld => ?_)
                clear hK K
                (try simp only [Act.put, List.setIfInBounds_toArray, List.set_cons_zero, List.set_cons_succ])
                refine wpAnyH_ready (rs := [10]) (by kernel_rfl) (by simp) ?_
                refine AllReadyH.cons (o := (Oper.mk (some 109) (Op.call (Call.mk (Callee.value (Operand.func 26)) #[Operand.tmp 108] #[31])) 31 "recorder.go:105" #[Edge.mk 9 Ground.data] none)) rfl (fun K hK => ?_) (AllReadyH.nil)
                go_simp
                (go_at_call 26; refine (clone_n a m cap l w5.drew HM.out HLM.out (show BAt w5.drew _ l from HAB5.out.1)).mono ?_; rintro e w6 ⟨vd, rfl, hO6, hB6⟩; obtain ⟨av, mv, cv, rfl⟩ := own_slice hO6; obtain ⟨c1, c4, cl, bl, HO6, HB6⟩ := addA HR5.out HYk.out HS5.out (undrew hB6) hO6 (show _ = r1.now from rfl); rw [HYS2.out] at c4 cl; rw [HVE.out] at c4; clear hO6 hB6)
                refine hK.out _ _ (by (try dsimp only); (first | assumption | go_keep)) (fun hHeld => ?_)
                clear hK K
                (try simp only [Act.put, List.setIfInBounds_toArray, List.set_cons_zero, List.set_cons_succ])
                refine wpAnyH_take (i := 11) (oi := (Oper.mk (some 110) (Op.build 71 #[(0, Operand.tmp 107), (1, Operand.tmp 109)]) 71 "recorder.go:105" #[Edge.mk 8 Ground.data, Edge.mk 10 Ground.data] none)) (v := ?_) rfl (by kernel_rfl) (by kernel_rfl) (by kernel_rfl) (fun _ _ _ h => h) (Or.inl ⟨by rfl, ?_⟩) (by assumption) ?_
                rotate_left
                · (intro w hSw; (try dsimp only at hSw); go_simp; first | done | with_reducible rfl)
                (try simp only [Act.put, List.setIfInBounds_toArray, List.set_cons_zero, List.set_cons_succ])
                refine wpAnyH_ready (rs := [12]) (by kernel_rfl) (by simp) ?_
                refine AllReadyH.cons (o := (Oper.mk (some 111) (Op.box 71 (Operand.tmp 110)) 68 "recorder.go:105" #[Edge.mk 11 Ground.data] none)) rfl (fun K hK => ?_) (AllReadyH.nil)
                go_simp
                skip
                refine hK.out _ _ (by (try dsimp only); (first | assumption | go_keep)) (fun hHeld => ?_)
                clear hK K
                (try simp only [Act.put, List.setIfInBounds_toArray, List.set_cons_zero, List.set_cons_succ])
                refine wpAnyH_ready (rs := [13]) (by kernel_rfl) (by simp) ?_
                refine AllReadyH.cons (o := (Oper.mk (some 112) (Op.buildSlice 63 1 #[(0, Operand.tmp 111)]) 63 "recorder.go:105" #[Edge.mk 12 Ground.data] none)) rfl (fun K hK => ?_) (AllReadyH.nil)
                go_simp
                skip
                refine hK.out _ _ (by (try dsimp only); (first | assumption | go_keep)) (fun hHeld => ?_)
                clear hK K
                (try simp only [Act.put, List.setIfInBounds_toArray, List.set_cons_zero, List.set_cons_succ])
                refine wpAnyH_ready (rs := [14]) (by kernel_rfl) (by simp) ?_
                refine AllReadyH.cons (o := (Oper.mk (some 113) (Op.call (Call.mk (Callee.builtin Builtin.append) #[Operand.tmp 103, Operand.tmp 112] #[63, 63])) 63 "recorder.go:105" #[Edge.mk 4 Ground.data, Edge.mk 13 Ground.data, Edge.mk 10 Ground.chain] none)) rfl (fun K hK => ?_) (AllReadyH.nil)
                (refine step_append_off _ (by rfl) (.tmp 103) (.tmp 112) 63 (by rfl) B 68 j1 (.pointer none) 8 Try.underlying63 HJ1.out hz0 hz1 hz2 (by rfl) _ (yk.gs.map ptr) (by rfl) (by rw [← HVE.out]; exact HS5.out.row.below (al (al HB6.out _) _) (Nat.le_refl _)) (some ⟨w6.heap.size + 1, 0, none⟩) 1 1 [ptr w6.heap.size] (by rfl) (by rfl) (one_vat2 w6 _ _ 68) (by intro u hu; rw [List.mem_singleton] at hu; subst hu; rfl) (by have h9 := HGL.out; simp only [List.length_map]; unfold maxLen; omega) (by have h9 := HGL.out; simp only [List.length_map]; omega) (Nat.le_trans (Nat.le_trans HR5.out.lo (Nat.le_of_lt HR5.out.blk.lt)) (al (al HB6.out _) _).size) ?_; intro v8 w8 hown8 hgrow8 hblk8; obtain ⟨a8, n8, c8, rfl⟩ := off_slice hown8; rw [← HVE.out] at hgrow8 hblk8; obtain ⟨c5, c4, f4, f5, cl, c1, bl, HR9, HF9⟩ := addB HR5.out HYk.out HS5.out HB6.out HO6.out (show ln = lvl (s.L.drop k) + l.length by rw [HLN2.out, HLK.out, HM.out]) (show _ = r1.now from rfl) hown8 hgrow8 hblk8; rw [HYS2.out] at c5 c4 f4 f5 cl HR9 HF9; rw [HVE.out] at c4; rw [← HLK.out] at c5; clear hown8 hgrow8 hblk8)
                refine hK.out _ _ (by (try dsimp only); (first | assumption | go_keep)) (fun hHeld => ?_)
                clear hK K
                (try simp only [Act.put, List.setIfInBounds_toArray, List.set_cons_zero, List.set_cons_succ])
                refine wpAnyH_take (i := 15) (oi := (Oper.mk (some 114) (Op.nilCheck (Operand.tmp 99)) 0 "recorder.go:105" #[Edge.mk 0 Ground.data, Edge.mk 0 Ground.phase, Edge.mk 1 Ground.phase, Edge.mk 2 Ground.phase, Edge.mk 3 Ground.phase, Edge.mk 4 Ground.phase, Edge.mk 5 Ground.phase, Edge.mk 6 Ground.phase, Edge.mk 7 Ground.phase, Edge.mk 8 Ground.phase, Edge.mk 9 Ground.phase, Edge.mk 10 Ground.phase, Edge.mk 11 Ground.phase, Edge.mk 12 Ground.phase, Edge.mk 13 Ground.phase, Edge.mk 14 Ground.phase] none)) (v := ?_) rfl (by kernel_rfl) (by kernel_rfl) (by kernel_rfl) (fun _ _ _ h => h) (Or.inl ⟨by rfl, ?_⟩) (by assumption) ?_
                rotate_left
                · (intro w hSw; (try dsimp only at hSw); go_simp; first | done | with_reducible rfl)
                (try simp only [Act.put, List.setIfInBounds_toArray, List.set_cons_zero, List.set_cons_succ])
                refine wpAnyH_take (i := 16) (oi := (Oper.mk (some 115) (Op.fieldAddr 65 (Operand.tmp 114) 1) 0 "recorder.go:105" #[Edge.mk 15 Ground.data, Edge.mk 0 Ground.phase, Edge.mk 1 Ground.phase, Edge.mk 2 Ground.phase, Edge.mk 3 Ground.phase, Edge.mk 4 Ground.phase, Edge.mk 5 Ground.phase, Edge.mk 6 Ground.phase, Edge.mk 7 Ground.phase, Edge.mk 8 Ground.phase, Edge.mk 9 Ground.phase, Edge.mk 10 Ground.phase, Edge.mk 11 Ground.phase, Edge.mk 12 Ground.phase, Edge.mk 13 Ground.phase, Edge.mk 14 Ground.phase] none)) (v := ?_) rfl (by kernel_rfl) (by kernel_rfl) (by kernel_rfl) (fun _ _ _ h => h) (Or.inl ⟨by rfl, ?_⟩) (by assumption) ?_
                rotate_left
                · (intro w hSw; (try dsimp only at hSw); go_simp; first | done | with_reducible rfl)
                (try simp only [Act.put, List.setIfInBounds_toArray, List.set_cons_zero, List.set_cons_succ])
                refine wpAnyH_ready (rs := [17]) (by kernel_rfl) (by simp) ?_
                refine AllReadyH.cons (o := (Oper.mk none (Op.store 63 (Operand.tmp 115) (Operand.tmp 113)) 0 "recorder.go:105" #[Edge.mk 16 Ground.data, Edge.mk 14 Ground.data, Edge.mk 14 Ground.chain, Edge.mk 0 Ground.phase, Edge.mk 1 Ground.phase, Edge.mk 2 Ground.phase, Edge.mk 3 Ground.phase, Edge.mk 4 Ground.phase, Edge.mk 5 Ground.phase, Edge.mk 6 Ground.phase, Edge.mk 7 Ground.phase, Edge.mk 8 Ground.phase, Edge.mk 9 Ground.phase, Edge.mk 10 Ground.phase, Edge.mk 11 Ground.phase, Edge.mk 12 Ground.phase, Edge.mk 13 Ground.phase, Edge.mk 14 Ground.phase] none)) rfl (fun K hK => ?_) (AllReadyH.nil)
                go_simp
                skip
                refine hK.out _ _ (by (try dsimp only); (first | assumption | go_keep)) (fun hHeld => ?_)
                clear hK K
                (try simp only [Act.put, List.setIfInBounds_toArray, List.set_cons_zero, List.set_cons_succ])
                refine wpAnyH_done (by kernel_rfl) ?_ _
              case' st10t8fb4x10 =>
                go_simp
                (go_at_call 26; refine (clone_n a m cap l w5.drew HM.out HLM.out (show BAt w5.drew _ l from HAB5.out.1)).mono ?_; rintro e w6 ⟨vd, rfl, hO6, hB6⟩; obtain ⟨av, mv, cv, rfl⟩ := own_slice hO6; obtain ⟨c1, c4, cl, bl, HO6, HB6⟩ := addA HR5.out HYk.out HS5.out (undrew hB6) hO6 (show _ = r1.now from rfl); rw [HYS2.out] at c4 cl; rw [HVE.out] at c4; clear hO6 hB6)
                refine hK.out _ _ (by (try dsimp only); (first | assumption | go_keep)) (fun hHeld => ?_)
                clear hK K
                (try simp only [Act.put, List.setIfInBounds_toArray, List.set_cons_zero, List.set_cons_succ])
                refine wpAnyH_take (i := 11) (oi := (Oper.mk (some 110) (Op.build 71 #[(0, Operand.tmp 107), (1, Operand.tmp 109)]) 71 "recorder.go:105" #[Edge.mk 8 Ground.data, Edge.mk 10 Ground.data] none)) (v := ?_) rfl (by kernel_rfl) (by kernel_rfl) (by kernel_rfl) (fun _ _ _ h => h) (Or.inl ⟨by rfl, ?_⟩) (by assumption) ?_
                rotate_left
                · (intro w hSw; (try dsimp only at hSw); go_simp; first | done | with_reducible rfl)
                (try simp only [Act.put, List.setIfInBounds_toArray, List.set_cons_zero, List.set_cons_succ])
                refine wpAnyH_ready (rs := [4, 12]) (by kernel_rfl) (by simp) ?_
                refine AllReadyH.cons (o := (Oper.mk (some 103) (Op.load 63 (Operand.tmp 102)) 63 "recorder.go:105" #[Edge.mk 3 Ground.data] none)) rfl (fun K hK => ?st4t8fb4x20) (AllReadyH.cons (o := (Oper.mk (some 111) (Op.box 71 (Operand.tmp 110)) 68 "recorder.go:105" #[Edge.mk 11 Ground.data] none)) rfl (fun K hK => ?st12t8fb4x20) (AllReadyH.nil))
                case' st4t8fb4x20 =>
                  go_simp
                  skip
                  refine hK.out _ _ (by (try dsimp only); (first | assumption | go_keep)) (fun hHeld => ?_)
                  clear hK K
                  (try simp only [Act.put, List.setIfInBounds_toArray, List.set_cons_zero, List.set_cons_succ])
                  refine wpAnyH_ready (rs := [12]) (by kernel_rfl) (by simp) ?_
                  refine AllReadyH.cons (o := (Oper.mk (some 111) (Op.box 71 (Operand.tmp 110)) 68 "recorder.go:105" #[Edge.mk 11 Ground.data] none)) rfl (fun K hK => ?_) (AllReadyH.nil)
                  go_simp
                  skip
                  refine hK.out _ _ (by (try dsimp only); (first | assumption | go_keep)) (fun hHeld => ?_)
                  clear hK K
                  (try simp only [Act.put, List.setIfInBounds_toArray, List.set_cons_zero, List.set_cons_succ])
                  refine wpAnyH_ready (rs := [13]) (by kernel_rfl) (by simp) ?_
                  refine AllReadyH.cons (o := (Oper.mk (some 112) (Op.buildSlice 63 1 #[(0, Operand.tmp 111)]) 63 "recorder.go:105" #[Edge.mk 12 Ground.data] none)) rfl (fun K hK => ?_) (AllReadyH.nil)
                  go_simp
                  skip
                  refine hK.out _ _ (by (try dsimp only); (first | assumption | go_keep)) (fun hHeld => ?_)
                  clear hK K
                  (try simp only [Act.put, List.setIfInBounds_toArray, List.set_cons_zero, List.set_cons_succ])
                  refine wpAnyH_ready (rs := [14]) (by kernel_rfl) (by simp) ?_
                  refine AllReadyH.cons (o := (Oper.mk (some 113) (Op.call (Call.mk (Callee.builtin Builtin.append) #[Operand.tmp 103, Operand.tmp 112] #[63, 63])) 63 "recorder.go:105" #[Edge.mk 4 Ground.data, Edge.mk 13 Ground.data, Edge.mk 10 Ground.chain] none)) rfl (fun K hK => ?_) (AllReadyH.nil)
                  (refine step_append_off _ (by rfl) (.tmp 103) (.tmp 112) 63 (by rfl) B 68 j1 (.pointer none) 8 Try.underlying63 HJ1.out hz0 hz1 hz2 (by rfl) _ (yk.gs.map ptr) (by rfl) (by rw [← HVE.out]; exact HS5.out.row.below (al (al HB6.out _) _) (Nat.le_refl _)) (some ⟨w6.heap.size + 1, 0, none⟩) 1 1 [ptr w6.heap.size] (by rfl) (by rfl) (one_vat2 w6 _ _ 68) (by intro u hu; rw [List.mem_singleton] at hu; subst hu; rfl) (by have h9 := HGL.out; simp only [List.length_map]; unfold maxLen; omega) (by have h9 := HGL.out; simp only [List.length_map]; omega) (Nat.le_trans (Nat.le_trans HR5.out.lo (Nat.le_of_lt HR5.out.blk.lt)) (al (al HB6.out _) _).size) ?_; intro v8 w8 hown8 hgrow8 hblk8; obtain ⟨a8, n8, c8, rfl⟩ := off_slice hown8; rw [← HVE.out] at hgrow8 hblk8; obtain ⟨c5, c4, f4, f5, cl, c1, bl, HR9, HF9⟩ := addB HR5.out HYk.out HS5.out HB6.out HO6.out (show ln = lvl (s.L.drop k) + l.length by rw [HLN2.out, HLK.out, HM.out]) (show _ = r1.now from rfl) hown8 hgrow8 hblk8; rw [HYS2.out] at c5 c4 f4 f5 cl HR9 HF9; rw [HVE.out] at c4; rw [← HLK.out] at c5; clear hown8 hgrow8 hblk8)
                  refine hK.out _ _ (by (try dsimp only); (first | assumption | go_keep)) (fun hHeld => ?_)
                  clear hK K
                  (try simp only [Act.put, List.setIfInBounds_toArray, List.set_cons_zero, List.set_cons_succ])
                  refine wpAnyH_take (i := 15) (oi := (Oper.mk (some 114) (Op.nilCheck (Operand.tmp 99)) 0 "recorder.go:105" #[Edge.mk 0 Ground.data, Edge.mk 0 Ground.phase, Edge.mk 1 Ground.phase, Edge.mk 2 Ground.phase, Edge.mk 3 Ground.phase, Edge.mk 4 Ground.phase, Edge.mk 5 Ground.phase, Edge.mk 6 Ground.phase, Edge.mk 7 Ground.phase, Edge.mk 8 Ground.phase, Edge.mk 9 Ground.phase, Edge.mk 10 Ground.phase, Edge.mk 11 Ground.phase, Edge.mk 12 Ground.phase, Edge.mk 13 Ground.phase, Edge.mk 14 Ground.phase] none)) (v := ?_) rfl (by kernel_rfl) (by kernel_rfl) (by kernel_rfl) (fun _ _ _ h => h) (Or.inl ⟨by rfl, ?_⟩) (by assumption) ?_
                  rotate_left
                  · (intro w hSw; (try dsimp only at hSw); go_simp; first | done | with_reducible rfl)
                  (try simp only [Act.put, List.setIfInBounds_toArray, List.set_cons_zero, List.set_cons_succ])
                  refine wpAnyH_take (i := 16) (oi := (Oper.mk (some 115) (Op.fieldAddr 65 (Operand.tmp 114) 1) 0 "recorder.go:105" #[Edge.mk 15 Ground.data, Edge.mk 0 Ground.phase, Edge.mk 1 Ground.phase, Edge.mk 2 Ground.phase, Edge.mk 3 Ground.phase, Edge.mk 4 Ground.phase, Edge.mk 5 Ground.phase, Edge.mk 6 Ground.phase, Edge.mk 7 Ground.phase, Edge.mk 8 Ground.phase, Edge.mk 9 Ground.phase, Edge.mk 10 Ground.phase, Edge.mk 11 Ground.phase, Edge.mk 12 Ground.phase, Edge.mk 13 Ground.phase, Edge.mk 14 Ground.phase] none)) (v := ?_) rfl (by kernel_rfl) (by kernel_rfl) (by kernel_rfl) (fun _ _ _ h => h) (Or.inl ⟨by rfl, ?_⟩) (by assumption) ?_
                  rotate_left
                  · (intro w hSw; (try dsimp only at hSw); go_simp; first | done | with_reducible rfl)
                  (try simp only [Act.put, List.setIfInBounds_toArray, List.set_cons_zero, List.set_cons_succ])
                  refine wpAnyH_ready (rs := [17]) (by kernel_rfl) (by simp) ?_
                  refine AllReadyH.cons (o := (Oper.mk none (Op.store 63 (Operand.tmp 115) (Operand.tmp 113)) 0 "recorder.go:105" #[Edge.mk 16 Ground.data, Edge.mk 14 Ground.data, Edge.mk 14 Ground.chain, Edge.mk 0 Ground.phase, Edge.mk 1 Ground.phase, Edge.mk 2 Ground.phase, Edge.mk 3 Ground.phase, Edge.mk 4 Ground.phase, Edge.mk 5 Ground.phase, Edge.mk 6 Ground.phase, Edge.mk 7 Ground.phase, Edge.mk 8 Ground.phase, Edge.mk 9 Ground.phase, Edge.mk 10 Ground.phase, Edge.mk 11 Ground.phase, Edge.mk 12 Ground.phase, Edge.mk 13 Ground.phase, Edge.mk 14 Ground.phase] none)) rfl (fun K hK => ?_) (AllReadyH.nil)
                  go_simp
                  skip
                  refine hK.out _ _ (by (try dsimp only); (first | assumption | go_keep)) (fun hHeld => ?_)
                  clear hK K
                  (try simp only [Act.put, List.setIfInBounds_toArray, List.set_cons_zero, List.set_cons_succ])
                  refine wpAnyH_done (by kernel_rfl) ?_ _
                case' st12t8fb4x20 =>
                  go_simp
                  skip
                  refine hK.out _ _ (by (try dsimp only); (first | assumption | go_keep)) (fun hHeld => ?_)
                  clear hK K
                  (try simp only [Act.put, List.setIfInBounds_toArray, List.set_cons_zero, List.set_cons_succ])
                  refine wpAnyH_ready (rs := [4, 13]) (by kernel_rfl) (by simp) ?_
                  refine AllReadyH.cons (o := (Oper.mk (some 103) (Op.load 63 (Operand.tmp 102)) 63 "recorder.go:105" #[Edge.mk 3 Ground.data] none)) rfl (fun K hK => ?st4t8fb4x27) (AllReadyH.cons (o := (Oper.mk (some 112) (Op.buildSlice 63 1 #[(0, Operand.tmp 111)]) 63 "recorder.go:105" #[Edge.mk 12 Ground.data] none)) rfl (fun K hK => ?st13t8fb4x27) (AllReadyH.nil))
                  case' st4t8fb4x27 =>
                    go_simp
                    skip
                    refine hK.out _ _ (by (try dsimp only); (first | assumption | go_keep)) (fun hHeld => ?_)
                    clear hK K
                    (try simp only [Act.put, List.setIfInBounds_toArray, List.set_cons_zero, List.set_cons_succ])
                    refine wpAnyH_ready (rs := [13]) (by kernel_rfl) (by simp) ?_
                    refine AllReadyH.cons (o := (Oper.mk (some 112) (Op.buildSlice 63 1 #[(0, Operand.tmp 111)]) 63 "recorder.go:105" #[Edge.mk 12 Ground.data] none)) rfl (fun K hK => ?_) (AllReadyH.nil)
                    go_simp
                    skip
                    refine hK.out _ _ (by (try dsimp only); (first | assumption | go_keep)) (fun hHeld => ?_)
                    clear hK K
                    (try simp only [Act.put, List.setIfInBounds_toArray, List.set_cons_zero, List.set_cons_succ])
                    refine wpAnyH_ready (rs := [14]) (by kernel_rfl) (by simp) ?_
                    refine AllReadyH.cons (o := (Oper.mk (some 113) (Op.call (Call.mk (Callee.builtin Builtin.append) #[Operand.tmp 103, Operand.tmp 112] #[63, 63])) 63 "recorder.go:105" #[Edge.mk 4 Ground.data, Edge.mk 13 Ground.data, Edge.mk 10 Ground.chain] none)) rfl (fun K hK => ?_) (AllReadyH.nil)
                    (refine step_append_off _ (by rfl) (.tmp 103) (.tmp 112) 63 (by rfl) B 68 j1 (.pointer none) 8 Try.underlying63 HJ1.out hz0 hz1 hz2 (by rfl) _ (yk.gs.map ptr) (by rfl) (by rw [← HVE.out]; exact HS5.out.row.below (al (al HB6.out _) _) (Nat.le_refl _)) (some ⟨w6.heap.size + 1, 0, none⟩) 1 1 [ptr w6.heap.size] (by rfl) (by rfl) (one_vat2 w6 _ _ 68) (by intro u hu; rw [List.mem_singleton] at hu; subst hu; rfl) (by have h9 := HGL.out; simp only [List.length_map]; unfold maxLen; omega) (by have h9 := HGL.out; simp only [List.length_map]; omega) (Nat.le_trans (Nat.le_trans HR5.out.lo (Nat.le_of_lt HR5.out.blk.lt)) (al (al HB6.out _) _).size) ?_; intro v8 w8 hown8 hgrow8 hblk8; obtain ⟨a8, n8, c8, rfl⟩ := off_slice hown8; rw [← HVE.out] at hgrow8 hblk8; obtain ⟨c5, c4, f4, f5, cl, c1, bl, HR9, HF9⟩ := addB HR5.out HYk.out HS5.out HB6.out HO6.out (show ln = lvl (s.L.drop k) + l.length by rw [HLN2.out, HLK.out, HM.out]) (show _ = r1.now from rfl) hown8 hgrow8 hblk8; rw [HYS2.out] at c5 c4 f4 f5 cl HR9 HF9; rw [HVE.out] at c4; rw [← HLK.out] at c5; clear hown8 hgrow8 hblk8)
                    refine hK.out _ _ (by (try dsimp only); (first | assumption | go_keep)) (fun hHeld => ?_)
                    clear hK K
                    (try simp only [Act.put, List.setIfInBounds_toArray, List.set_cons_zero, List.set_cons_succ])
                    refine wpAnyH_take (i := 15) (oi := (Oper.mk (some 114) (Op.nilCheck (Operand.tmp 99)) 0 "recorder.go:105" #[Edge.mk 0 Ground.data, Edge.mk 0 Ground.phase, Edge.mk 1 Ground.phase, Edge.mk 2 Ground.phase, Edge.mk 3 Ground.phase, Edge.mk 4 Ground.phase, Edge.mk 5 Ground.phase, Edge.mk 6 Ground.phase, Edge.mk 7 Ground.phase, Edge.mk 8 Ground.phase, Edge.mk 9 Ground.phase, Edge.mk 10 Ground.phase, Edge.mk 11 Ground.phase, Edge.mk 12 Ground.phase, Edge.mk 13 Ground.phase, Edge.mk 14 Ground.phase] none)) (v := ?_) rfl (by kernel_rfl) (by kernel_rfl) (by kernel_rfl) (fun _ _ _ h => h) (Or.inl ⟨by rfl, ?_⟩) (by assumption) ?_
                    rotate_left
                    · (intro w hSw; (try dsimp only at hSw); go_simp; first | done | with_reducible rfl)
                    (try simp only [Act.put, List.setIfInBounds_toArray, List.set_cons_zero, List.set_cons_succ])
                    refine wpAnyH_take (i := 16) (oi := (Oper.mk (some 115) (Op.fieldAddr 65 (Operand.tmp 114) 1) 0 "recorder.go:105" #[Edge.mk 15 Ground.data, Edge.mk 0 Ground.phase, Edge.mk 1 Ground.phase, Edge.mk 2 Ground.phase, Edge.mk 3 Ground.phase, Edge.mk 4 Ground.phase, Edge.mk 5 Ground.phase, Edge.mk 6 Ground.phase, Edge.mk 7 Ground.phase, Edge.mk 8 Ground.phase, Edge.mk 9 Ground.phase, Edge.mk 10 Ground.phase, Edge.mk 11 Ground.phase, Edge.mk 12 Ground.phase, Edge.mk 13 Ground.phase, Edge.mk 14 Ground.phase] none)) (v := ?_) rfl (by kernel_rfl) (by kernel_rfl) (by kernel_rfl) (fun _ _ _ h => h) (Or.inl ⟨by rfl, ?_⟩) (by assumption) ?_
                    rotate_left
                    · (intro w hSw; (try dsimp only at hSw); go_simp; first | done | with_reducible rfl)
                    (try simp only [Act.put, List.setIfInBounds_toArray, List.set_cons_zero, List.set_cons_succ])
                    refine wpAnyH_ready (rs := [17]) (by kernel_rfl) (by simp) ?_
                    refine AllReadyH.cons (o := (Oper.mk none (Op.store 63 (Operand.tmp 115) (Operand.tmp 113)) 0 "recorder.go:105" #[Edge.mk 16 Ground.data, Edge.mk 14 Ground.data, Edge.mk 14 Ground.chain, Edge.mk 0 Ground.phase, Edge.mk 1 Ground.phase, Edge.mk 2 Ground.phase, Edge.mk 3 Ground.phase, Edge.mk 4 Ground.phase, Edge.mk 5 Ground.phase, Edge.mk 6 Ground.phase, Edge.mk 7 Ground.phase, Edge.mk 8 Ground.phase, Edge.mk 9 Ground.phase, Edge.mk 10 Ground.phase, Edge.mk 11 Ground.phase, Edge.mk 12 Ground.phase, Edge.mk 13 Ground.phase, Edge.mk 14 Ground.phase] none)) rfl (fun K hK => ?_) (AllReadyH.nil)
                    go_simp
                    skip
                    refine hK.out _ _ (by (try dsimp only); (first | assumption | go_keep)) (fun hHeld => ?_)
                    clear hK K
                    (try simp only [Act.put, List.setIfInBounds_toArray, List.set_cons_zero, List.set_cons_succ])
                    refine wpAnyH_done (by kernel_rfl) ?_ _
                  case' st13t8fb4x27 =>
                    go_simp
                    skip
                    refine hK.out _ _ (by (try dsimp only); (first | assumption | go_keep)) (fun hHeld => ?_)
                    clear hK K
                    (try simp only [Act.put, List.setIfInBounds_toArray, List.set_cons_zero, List.set_cons_succ])
                    refine wpAnyH_ready (rs := [4]) (by kernel_rfl) (by simp) ?_
                    refine AllReadyH.cons (o := (Oper.mk (some 103) (Op.load 63 (Operand.tmp 102)) 63 "recorder.go:105" #[Edge.mk 3 Ground.data] none)) rfl (fun K hK => ?_) (AllReadyH.nil)
                    go_simp
                    skip
                    refine hK.out _ _ (by (try dsimp only); (first | assumption | go_keep)) (fun hHeld => ?_)
                    clear hK K
                    (try simp only [Act.put, List.setIfInBounds_toArray, List.set_cons_zero, List.set_cons_succ])
                    refine wpAnyH_ready (rs := [14]) (by kernel_rfl) (by simp) ?_
                    refine AllReadyH.cons (o := (Oper.mk (some 113) (Op.call (Call.mk (Callee.builtin Builtin.append) #[Operand.tmp 103, Operand.tmp 112] #[63, 63])) 63 "recorder.go:105" #[Edge.mk 4 Ground.data, Edge.mk 13 Ground.data, Edge.mk 10 Ground.chain] none)) rfl (fun K hK => ?_) (AllReadyH.nil)
                    (refine step_append_off _ (by rfl) (.tmp 103) (.tmp 112) 63 (by rfl) B 68 j1 (.pointer none) 8 Try.underlying63 HJ1.out hz0 hz1 hz2 (by rfl) _ (yk.gs.map ptr) (by rfl) (by rw [← HVE.out]; exact HS5.out.row.below (al (al HB6.out _) _) (Nat.le_refl _)) (some ⟨w6.heap.size + 1, 0, none⟩) 1 1 [ptr w6.heap.size] (by rfl) (by rfl) (one_vat2 w6 _ _ 68) (by intro u hu; rw [List.mem_singleton] at hu; subst hu; rfl) (by have h9 := HGL.out; simp only [List.length_map]; unfold maxLen; omega) (by have h9 := HGL.out; simp only [List.length_map]; omega) (Nat.le_trans (Nat.le_trans HR5.out.lo (Nat.le_of_lt HR5.out.blk.lt)) (al (al HB6.out _) _).size) ?_; intro v8 w8 hown8 hgrow8 hblk8; obtain ⟨a8, n8, c8, rfl⟩ := off_slice hown8; rw [← HVE.out] at hgrow8 hblk8; obtain ⟨c5, c4, f4, f5, cl, c1, bl, HR9, HF9⟩ := addB HR5.out HYk.out HS5.out HB6.out HO6.out (show ln = lvl (s.L.drop k) + l.length by rw [HLN2.out, HLK.out, HM.out]) (show _ = r1.now from rfl) hown8 hgrow8 hblk8; rw [HYS2.out] at c5 c4 f4 f5 cl HR9 HF9; rw [HVE.out] at c4; rw [← HLK.out] at c5; clear hown8 hgrow8 hblk8)
                    refine hK.out _ _ (by (try dsimp only); (first | assumption | go_keep)) (fun hHeld => ?_)
                    clear hK K
                    (try simp only [Act.put, List.setIfInBounds_toArray, List.set_cons_zero, List.set_cons_succ])
                    refine wpAnyH_take (i := 15) (oi := (Oper.mk (some 114) (Op.nilCheck (Operand.tmp 99)) 0 "recorder.go:105" #[Edge.mk 0 Ground.data, Edge.mk 0 Ground.phase, Edge.mk 1 Ground.phase, Edge.mk 2 Ground.phase, Edge.mk 3 Ground.phase, Edge.mk 4 Ground.phase, Edge.mk 5 Ground.phase, Edge.mk 6 Ground.phase, Edge.mk 7 Ground.phase, Edge.mk 8 Ground.phase, Edge.mk 9 Ground.phase, Edge.mk 10 Ground.phase, Edge.mk 11 Ground.phase, Edge.mk 12 Ground.phase, Edge.mk 13 Ground.phase, Edge.mk 14 Ground.phase] none)) (v := ?_) rfl (by kernel_rfl) (by kernel_rfl) (by kernel_rfl) (fun _ _ _ h => h) (Or.inl ⟨by rfl, ?_⟩) (by assumption) ?_
                    rotate_left
                    · (intro w hSw; (try dsimp only at hSw); go_simp; first | done | with_reducible rfl)
                    (try simp only [Act.put, List.setIfInBounds_toArray, List.set_cons_zero, List.set_cons_succ])
                    refine wpAnyH_take (i := 16) (oi := (Oper.mk (some 115) (Op.fieldAddr 65 (Operand.tmp 114) 1) 0 "recorder.go:105" #[Edge.mk 15 Ground.data, Edge.mk 0 Ground.phase, Edge.mk 1 Ground.phase, Edge.mk 2 Ground.phase, Edge.mk 3 Ground.phase, Edge.mk 4 Ground.phase, Edge.mk 5 Ground.phase, Edge.mk 6 Ground.phase, Edge.mk 7 Ground.phase, Edge.mk 8 Ground.phase, Edge.mk 9 Ground.phase, Edge.mk 10 Ground.phase, Edge.mk 11 Ground.phase, Edge.mk 12 Ground.phase, Edge.mk 13 Ground.phase, Edge.mk 14 Ground.phase] none)) (v := ?_) rfl (by kernel_rfl) (by kernel_rfl) (by kernel_rfl) (fun _ _ _ h => h) (Or.inl ⟨by rfl, ?_⟩) (by assumption) ?_
                    rotate_left
                    · (intro w hSw; (try dsimp only at hSw); go_simp; first | done | with_reducible rfl)
                    (try simp only [Act.put, List.setIfInBounds_toArray, List.set_cons_zero, List.set_cons_succ])
                    refine wpAnyH_ready (rs := [17]) (by kernel_rfl) (by simp) ?_
                    refine AllReadyH.cons (o := (Oper.mk none (Op.store 63 (Operand.tmp 115) (Operand.tmp 113)) 0 "recorder.go:105" #[Edge.mk 16 Ground.data, Edge.mk 14 Ground.data, Edge.mk 14 Ground.chain, Edge.mk 0 Ground.phase, Edge.mk 1 Ground.phase, Edge.mk 2 Ground.phase, Edge.mk 3 Ground.phase, Edge.mk 4 Ground.phase, Edge.mk 5 Ground.phase, Edge.mk 6 Ground.phase, Edge.mk 7 Ground.phase, Edge.mk 8 Ground.phase, Edge.mk 9 Ground.phase, Edge.mk 10 Ground.phase, Edge.mk 11 Ground.phase, Edge.mk 12 Ground.phase, Edge.mk 13 Ground.phase, Edge.mk 14 Ground.phase] none)) rfl (fun K hK => ?_) (AllReadyH.nil)
                    go_simp
                    skip
                    refine hK.out _ _ (by (try dsimp only); (first | assumption | go_keep)) (fun hHeld => ?_)
                    clear hK K
                    (try simp only [Act.put, List.setIfInBounds_toArray, List.set_cons_zero, List.set_cons_succ])
                    refine wpAnyH_done (by kernel_rfl) ?_ _
              all_goals
                go_wp2_with fail
                go_ret
                obtain ⟨Y', hY⟩ := HR9.out
                rw [RS.put_put] at hY
                exact ⟨ret_int (by rw [HP.out]), HF5.out.trans HF9.out, Y', by rw [HP.out, HSE.out]; exact hY⟩
      | true =>
        rw [hci] at c3
        have HP : Hid (r.add id now l = (r1.put i { s with L := (shed m s.room s.L s.drop).1 ++ [⟨r1.now, l, false⟩], drop := (shed m s.room s.L s.drop).2 }, 0)) := Lib.hid (by rw [HADD.out]; unfold St.add; rw [if_neg (by rw [HM.out]; omega), if_neg (by rw [HM.out, hci]; exact fun e => e.elim (fun e => hA e) (fun e => by cases e.1)), HM.out])
        clear hci
        have hmr : (m : Int) ≤ s.room := by omega
        go_wp2_with (go_quiet (fail))
        obtain ⟨w4, hw4⟩ : ∃ w4, w4 = w3.drewN nq := ⟨_, rfl⟩
        rw [← hw4]
        have hq4 : Quiet w3 w4 := by rw [hw4]; exact ⟨_, rfl⟩
        have H4 := Lib.hid (H3.out.quiet hq4)
        have HF4 := Lib.hid (HF3.out.trans (RF.of_below hq4.below))
        have HST4 := Lib.hid (HST.out.below hq4.below (Nat.le_refl _))
        obtain ⟨ys, hys⟩ : ∃ ys, ys = y.s := ⟨_, rfl⟩
        have HYS := Lib.hid hys
        rw [← hys]
        clear hw4 hq4 hys c1 c3 c5 cl dA e3 hA
        go_loopg [] (s.L.length + 1) (fun gk wr => ∃ (k : Nat) (Yk : List SM) (yk : SM), k ≤ s.L.length ∧ s.L.length - k < gk ∧ Hid (RAt wr B b (r1.put i { s with L := s.L.drop k, drop := s.drop + k }) vS Yk) ∧ Hid (Yk[i]? = some yk) ∧ Hid (StAt wr B { s with L := s.L.drop k, drop := s.drop + k } yk) ∧ Hid (yk.s = ys) ∧ Hid (RF B w wr) ∧ Hid (shed m s.room s.L s.drop = shed m s.room (s.L.drop k) (s.drop + k)))
        case atStart => exact ⟨0, Y, y, Nat.zero_le _, by omega, Lib.hid (by show RAt w4 B b (r1.put i s) vS Y; rw [HPP.out]; exact H4.out), HY, HST4, Lib.hid HYS.out.symm, HF4, Lib.hid rfl⟩
        case round =>
          obtain ⟨k, Yk, yk, hk, hgk, HR, HYk, HSk, HYS2, HFk, HTk⟩ := hrel
          obtain ⟨lk, hlk⟩ : ∃ lk, lk = lvl (s.L.drop k) := ⟨_, rfl⟩
          have hlkb : lk ≤ 2147483648 := by have h8 := lvl_drop s.L k; have h9 := HSO.out.lvl; have h7 := HSO.out.room; omega
          have c1 : wr.cell? ⟨ys, 1, none⟩ = some (.int .i64 s.room) := by rw [← HYS2.out]; exact HSk.out.blk.at 1 rfl
          have c5 : wr.cell? ⟨ys, 5, none⟩ = some (.int .i64 (lk : Int)) := by rw [← HYS2.out, hlk]; exact HSk.out.blk.at 5 rfl
          have cl : ys < wr.heap.size := by rw [← HYS2.out]; exact HSk.out.blk.lt
          have HLK := Lib.hid hlk
          have e3 : IntKind.i64.wrap ((lk : Int) + (m : Int)) = (lk : Int) + (m : Int) := IntWalk.i64_in _ (by omega)
          clear hlk
          by_cases hlt : s.room < (lk : Int) + (m : Int)
          · have dL : decide (s.room < (lk : Int) + (m : Int)) = true := decide_eq_true hlt
            obtain ⟨x, xs, hL⟩ : ∃ x xs, s.L.drop k = x :: xs := by
              cases e : s.L.drop k with
              | nil => have h9 := HLK.out; rw [e] at h9; simp only [lvl] at h9; omega
              | cons x xs => exact ⟨x, xs, rfl⟩
            have hkl : k < s.L.length := by
              have h9 := congrArg List.length hL
              rw [List.length_drop] at h9
              simp at h9
              omega
            have hxs : xs = s.L.drop (k + 1) := by
              have h9 := congrArg List.tail hL
              rw [List.tail_drop] at h9
              exact h9.symm
            have HSH : Hid (shed m s.room s.L s.drop = shed m s.room (s.L.drop (k + 1)) (s.drop + (k + 1))) := Lib.hid (by
              rw [HTk.out, hL]
              conv => lhs; unfold shed
              rw [← hL, ← HLK.out, if_pos (by omega), ← hxs]
              rfl)
            have HLL := Lib.hid hL
            have HXS := Lib.hid hxs
            have HLKB := Lib.hid hlkb
            clear hL hxs hlt
            go_upto_region 11 with (go_quiet (fail))
            obtain ⟨w5, hw5⟩ : ∃ w5, w5 = wr.drewN nq := ⟨_, rfl⟩
            rw [← hw5]
            have hq5 : Quiet wr w5 := by rw [hw5]; exact ⟨_, rfl⟩
            have HR5 := Lib.hid (HR.out.quiet hq5)
            have HF5 := Lib.hid (HFk.out.trans (RF.of_below hq5.below))
            have HS5 := Lib.hid (HSk.out.below hq5.below (Nat.le_refl _))
            clear hw5 hq5 c1 c5 cl dL e3 hlkb
            go_wp2_with fail
            have hpop := pop_any HR5.out HYk.out HS5.out HLL.out (by show lvl (s.L.drop k) ≤ _; rw [← HLK.out]; exact HLKB.out)
            rw [HYS2.out] at hpop
            refine hpop.mono ?_
            rintro e w6 ⟨rfl, vE', h6, hs6, hf6⟩
            rw [RS.put_put] at h6
            have HR6 := Lib.hid h6
            have HS6 := Lib.hid hs6
            have HF6 := Lib.hid (HF5.out.trans (RF.of_s HS5.out (by rw [HYS2.out]; exact hf6)))
            have HY6 : Hid ((Yk.set i ⟨ys, vE', yk.gs.tail, yk.vds.tail⟩)[i]? = some ⟨ys, vE', yk.gs.tail, yk.vds.tail⟩) := Lib.hid (set_len _ HYk.out)
            obtain ⟨dk, hdk⟩ : ∃ dk, dk = s.drop + k := ⟨_, rfl⟩
            have c6 : w6.cell? ⟨ys, 6, none⟩ = some (.int .i64 (dk : Int)) := by rw [hdk]; exact hs6.blk.at 6 rfl
            have f6 := hs6.blk.free 6
            have cl := hs6.blk.lt
            have HDK := Lib.hid hdk
            have hdb := HDR.out
            have hkb : k ≤ s.L.length := hk
            obtain ⟨d1, hd1⟩ : ∃ d1, d1 = dk + 1 := ⟨_, rfl⟩
            have j1 : (dk : Int) + 1 = (d1 : Int) := by omega
            have HD1 := Lib.hid hd1
            clear hd1
            have hd9 : dk ≤ 4611686018427387904 := by rw [hdk]; have := HLN.out; omega
            dsimp only at f6 cl
            clear h6 hs6 hf6 hpop hdk
            go_wp2_with fail
            have hF : Fr (fun j => j = ys) w6 (w6.setCell ⟨ys, 6, none⟩ (.int .i64 (d1 : Int))) := (Fr.refl _ _).set1 _ (by exact .inl rfl)
            have hset := HR6.out.setS (s' := { s with L := s.L.drop (k + 1), drop := s.drop + (k + 1) }) (n := 0) (vE' := vE') HY6.out HS6.out hF (by show s.L.drop (k + 1) = xs.drop 0; rw [HXS.out]; simp) (by
              have h9 := HS6.out.blk.setCell 6 (.int .i64 (d1 : Int))
              dsimp only
              rw [← HXS.out, show s.drop + (k + 1) = d1 by have := HDK.out; have := HD1.out; omega]
              exact Blk.cast h9 rfl) (by
              have h9 := HS6.out.row.fr hF (fun j hj e => by
                obtain ⟨cs, hc⟩ := off_ty HS6.out.row hj
                subst e
                exact absurd (HS6.out.blk.kind hc) (by decide))
              simpa using h9) (fun j hj => hj)
            rw [RS.put_put] at hset
            have HRN := Lib.hid hset.1
            have HSN := Lib.hid hset.2
            have HFN := Lib.hid (HF6.out.trans (RF.of_s HS6.out hF))
            have HYN := Lib.hid (set_len (⟨ys, vE', yk.gs.tail.drop 0, yk.vds.tail.drop 0⟩ : SM) HY6.out)
            clear hset hF
            go_roundg (gk - 1)
            case rel => exact ⟨k + 1, _, _, by omega, by omega, HRN, HYN, HSN, Lib.hid rfl, HFN, HSH⟩
            case measure => omega
          · have dL : decide (s.room < (lk : Int) + (m : Int)) = false := decide_eq_false hlt
            have HSE : Hid (shed m s.room s.L s.drop = (s.L.drop k, s.drop + k)) := Lib.hid (by
              rw [HTk.out]
              cases e : s.L.drop k with
              | nil => rfl
              | cons x xs => unfold shed; rw [← e, ← HLK.out, if_neg (by omega), e])
            clear hlt
            go_upto_region 13 with (go_quiet (fail))
            obtain ⟨w5, hw5⟩ : ∃ w5, w5 = wr.drewN nq := ⟨_, rfl⟩
            rw [← hw5]
            have hq5 : Quiet wr w5 := by rw [hw5]; exact ⟨_, rfl⟩
            have HR5 := Lib.hid (HR.out.quiet hq5)
            have HF5 := Lib.hid (HFk.out.trans (RF.of_below hq5.below))
            have HS5 := Lib.hid (HSk.out.below hq5.below (Nat.le_refl _))
            have HAB5 := Lib.hid (HAB.out.rf HF5.out)
            clear hw5 hq5 c1 c5 cl dL e3
            obtain ⟨aE, cE, hvE, hcE, hmE, hV, hob, hnE⟩ := HS5.out.row.vat
            obtain ⟨n, hnn⟩ : ∃ n, n = (yk.gs.map ptr).length := ⟨_, rfl⟩
            rw [← hnn] at hvE hcE
            have hnb : n ≤ 2147483648 := by rw [hnn, List.length_map, HS5.out.gl]; show (s.L.drop k).length ≤ _; rw [List.length_drop]; have := HLN.out; omega
            have c4 : w5.cell? ⟨ys, 4, none⟩ = some (.slice aE n cE) := by rw [← hvE, ← HYS2.out]; exact HS5.out.blk.at 4 rfl
            have c1 : w5.cell? ⟨b, 1, none⟩ = some (.int .i64 r1.now) := HR5.out.blk.at 1 (v := .int .i64 r1.now) rfl
            have cl : ys < w5.heap.size := by rw [← HYS2.out]; exact HS5.out.blk.lt
            have bl := HR5.out.blk.lt
            have hne : ys ≠ b := by rw [← HYS2.out]; exact fun e => absurd ((e ▸ HS5.out.blk : Blk w5 b TS _).ty HR5.out.blk) (by decide)
            have hne' := hne.symm
            have HVE := Lib.hid hvE
            have HLKB := Lib.hid hlkb
            obtain ⟨j1, hj1, hz0, hz1, hz2⟩ := info_parts info68
            have HJ1 := Lib.hid hj1
            obtain ⟨ln, hln⟩ : ∃ ln, ln = lk + m := ⟨_, rfl⟩
            have HLN2 := Lib.hid hln
            have HNN := Lib.hid hnn
            have HGL : Hid (yk.gs.length ≤ 2147483648) := Lib.hid (by rw [hnn, List.length_map] at hnb; exact hnb)
            have HLM : Hid (l.length ≤ 1000000) := Lib.hid (by have := HM.out; omega)
            have jj : (lk : Int) + (m : Int) = (ln : Int) := by omega
            have e3 : IntKind.i64.wrap ((lk : Int) + (m : Int)) = (ln : Int) := by rw [jj]; exact IntWalk.i64_in _ (by omega)
            clear hvE hV hnn hj1 hob hnE hln hlkb jj
            refine wp_region_held_drew (S := (fun w' => w'.cell? ⟨b, 1, none⟩ = some (.int .i64 r1.now))) (by kernel_rfl) (by (try dsimp only); (first | assumption | go_keep)) (fun hHeld => ?_)
            refine wpAnyH_take (i := 0) (oi := (Oper.mk (some 99) (Op.move (Operand.tmp 9)) 62 "recorder.go:105" #[] none)) (v := ?_) rfl (by kernel_rfl) (by kernel_rfl) (by kernel_rfl) (fun _ _ _ h => h) (Or.inl ⟨by rfl, ?_⟩) (by assumption) ?_
            rotate_left
            · (intro w hSw; (try dsimp only at hSw); go_simp; first | done | with_reducible rfl)
            (try simp only [Act.put, List.setIfInBounds_toArray, List.set_cons_zero, List.set_cons_succ])
            refine wpAnyH_take (i := 1) (oi := (Oper.mk (some 100) (Op.move (Operand.tmp 9)) 62 "recorder.go:105" #[] none)) (v := ?_) rfl (by kernel_rfl) (by kernel_rfl) (by kernel_rfl) (fun _ _ _ h => h) (Or.inl ⟨by rfl, ?_⟩) (by assumption) ?_
            rotate_left
            · (intro w hSw; (try dsimp only at hSw); go_simp; first | done | with_reducible rfl)
            (try simp only [Act.put, List.setIfInBounds_toArray, List.set_cons_zero, List.set_cons_succ])
            refine wpAnyH_take (i := 2) (oi := (Oper.mk (some 101) (Op.nilCheck (Operand.tmp 100)) 0 "recorder.go:105" #[Edge.mk 1 Ground.data] none)) (v := ?_) rfl (by kernel_rfl) (by kernel_rfl) (by kernel_rfl) (fun _ _ _ h => h) (Or.inl ⟨by rfl, ?_⟩) (by assumption) ?_
            rotate_left
            · (intro w hSw; (try dsimp only at hSw); go_simp; first | done | with_reducible rfl)
            (try simp only [Act.put, List.setIfInBounds_toArray, List.set_cons_zero, List.set_cons_succ])
            refine wpAnyH_take (i := 3) (oi := (Oper.mk (some 102) (Op.fieldAddr 65 (Operand.tmp 101) 1) 0 "recorder.go:105" #[Edge.mk 2 Ground.data] none)) (v := ?_) rfl (by kernel_rfl) (by kernel_rfl) (by kernel_rfl) (fun _ _ _ h => h) (Or.inl ⟨by rfl, ?_⟩) (by assumption) ?_
            rotate_left
            · (intro w hSw; (try dsimp only at hSw); go_simp; first | done | with_reducible rfl)
            (try simp only [Act.put, List.setIfInBounds_toArray, List.set_cons_zero, List.set_cons_succ])
            refine wpAnyH_take (i := 5) (oi := (Oper.mk (some 104) (Op.move (Operand.tmp 0)) 24 "recorder.go:105" #[] none)) (v := ?_) rfl (by kernel_rfl) (by kernel_rfl) (by kernel_rfl) (fun _ _ _ h => h) (Or.inl ⟨by rfl, ?_⟩) (by assumption) ?_
            rotate_left
            · (intro w hSw; (try dsimp only at hSw); go_simp; first | done | with_reducible rfl)
            (try simp only [Act.put, List.setIfInBounds_toArray, List.set_cons_zero, List.set_cons_succ])
            refine wpAnyH_take (i := 6) (oi := (Oper.mk (some 105) (Op.nilCheck (Operand.tmp 104)) 0 "recorder.go:105" #[Edge.mk 5 Ground.data] none)) (v := ?_) rfl (by kernel_rfl) (by kernel_rfl) (by kernel_rfl) (fun _ _ _ h => h) (Or.inl ⟨by rfl, ?_⟩) (by assumption) ?_
            rotate_left
            · (intro w hSw; (try dsimp only at hSw); go_simp; first | done | with_reducible rfl)
            (try simp only [Act.put, List.setIfInBounds_toArray, List.set_cons_zero, List.set_cons_succ])
            refine wpAnyH_take (i := 7) (oi := (Oper.mk (some 106) (Op.fieldAddr 60 (Operand.tmp 105) 1) 0 "recorder.go:105" #[Edge.mk 6 Ground.data] none)) (v := ?_) rfl (by kernel_rfl) (by kernel_rfl) (by kernel_rfl) (fun _ _ _ h => h) (Or.inl ⟨by rfl, ?_⟩) (by assumption) ?_
            rotate_left
            · (intro w hSw; (try dsimp only at hSw); go_simp; first | done | with_reducible rfl)
            (try simp only [Act.put, List.setIfInBounds_toArray, List.set_cons_zero, List.set_cons_succ])
            refine wpAnyH_take (i := 8) (oi := (Oper.mk (some 107) (Op.load 3 (Operand.tmp 106)) 3 "recorder.go:105" #[Edge.mk 7 Ground.data] none)) (v := ?_) rfl (by kernel_rfl) (by kernel_rfl) (by kernel_rfl) (fun _ _ _ h => h) (Or.inl ⟨by rfl, ?_⟩) (by assumption) ?_
            rotate_left
            · (intro w hSw; (try dsimp only at hSw); go_simp; first | done | with_reducible rfl)
            (try simp only [Act.put, List.setIfInBounds_toArray, List.set_cons_zero, List.set_cons_succ])
            refine wpAnyH_take (i := 9) (oi := (Oper.mk (some 108) (Op.move (Operand.tmp 3)) 31 "recorder.go:105" #[] none)) (v := ?_) rfl (by kernel_rfl) (by kernel_rfl) (by kernel_rfl) (fun _ _ _ h => h) (Or.inl ⟨by rfl, ?_⟩) (by assumption) ?_
            rotate_left
            · (intro w hSw; (try dsimp only at hSw); go_simp; first | done | with_reducible rfl)
            (try simp only [Act.put, List.setIfInBounds_toArray, List.set_cons_zero, List.set_cons_succ])
            refine wpAnyH_ready (rs := [4, 10]) (by kernel_rfl) (by simp) ?_
            refine AllReadyH.cons (o := (Oper.mk (some 103) (Op.load 63 (Operand.tmp 102)) 63 "recorder.go:105" #[Edge.mk 3 Ground.data] none)) rfl (fun K hK => ?st4t4997x10) (AllReadyH.cons (o := (Oper.mk (some 109) (Op.call (Call.mk (Callee.value (Operand.func 26)) #[Operand.tmp 108] #[31])) 31 "recorder.go:105" #[Edge.mk 9 Ground.data] none)) rfl (fun K hK => ?st10t4997x10) (AllReadyH.nil))
            case' st4t4997x10 =>
              go_simp
              skip
              refine hK.out _ _ (by (try dsimp only); (first | assumption | go_keep)) (fun hHeld => ?_)
              clear hK K
              (try simp only [Act.put, List.setIfInBounds_toArray, List.set_cons_zero, List.set_cons_succ])
              refine wpAnyH_ready (rs := [10]) (by kernel_rfl) (by simp) ?_
              refine AllReadyH.cons (o := (Oper.mk (some 109) (Op.call (Call.mk (Callee.value (Operand.func 26)) #[Operand.tmp 108] #[31])) 31 "recorder.go:105" #[Edge.mk 9 Ground.data] none)) rfl (fun K hK => ?_) (AllReadyH.nil)
              go_simp
              (go_at_call 26; refine (clone_n a m cap l w5.drew HM.out HLM.out (show BAt w5.drew _ l from HAB5.out.1)).mono ?_; rintro e w6 ⟨vd, rfl, hO6, hB6⟩; obtain ⟨av, mv, cv, rfl⟩ := own_slice hO6; obtain ⟨c1, c4, cl, bl, HO6, HB6⟩ := addA HR5.out HYk.out HS5.out (undrew hB6) hO6 (show _ = r1.now from rfl); rw [HYS2.out] at c4 cl; rw [HVE.out] at c4; clear hO6 hB6)
              refine hK.out _ _ (by (try dsimp only); (first | assumption | go_keep)) (fun hHeld => ?_)
              clear hK K
              (try simp only [Act.put, List.setIfInBounds_toArray, List.set_cons_zero, List.set_cons_succ])
              refine wpAnyH_take (i := 11) (oi := (Oper.mk (some 110) (Op.build 71 #[(0, Operand.tmp 107), (1, Operand.tmp 109)]) 71 "recorder.go:105" #[Edge.mk 8 Ground.data, Edge.mk 10 Ground.data] none)) (v := ?_) rfl (by kernel_rfl) (by kernel_rfl) (by kernel_rfl) (fun _ _ _ h => h) (Or.inl ⟨by rfl, ?_⟩) (by assumption) ?_
              rotate_left
              · (intro w hSw; (try dsimp only at hSw); go_simp; first | done | with_reducible rfl)
              (try simp only [Act.put, List.setIfInBounds_toArray, List.set_cons_zero, List.set_cons_succ])
              refine wpAnyH_ready (rs := [12]) (by kernel_rfl) (by simp) ?_
              refine AllReadyH.cons (o := (Oper.mk (some 111) (Op.box 71 (Operand.tmp 110)) 68 "recorder.go:105" #[Edge.mk 11 Ground.data] none)) rfl (fun K hK => ?_) (AllReadyH.nil)
              go_simp
              skip
              refine hK.out _ _ (by (try dsimp only); (first | assumption | go_keep)) (fun hHeld => ?_)
              clear hK K
              (try simp only [Act.put, List.setIfInBounds_toArray, List.set_cons_zero, List.set_cons_succ])
              refine wpAnyH_ready (rs := [13]) (by kernel_rfl) (by simp) ?_
              refine AllReadyH.cons (o := (Oper.mk (some 112) (Op.buildSlice 63 1 #[(0, Operand.tmp 111)]) 63 "recorder.go:105" #[Edge.mk 12 Ground.data] none)) rfl (fun K hK => ?_) (AllReadyH.nil)
              go_simp
              skip
              refine hK.out _ _ (by (try dsimp only); (first | assumption | go_keep)) (fun hHeld => ?_)
              clear hK K
              (try simp only [Act.put, List.setIfInBounds_toArray, List.set_cons_zero, List.set_cons_succ])
              refine wpAnyH_ready (rs := [14]) (by kernel_rfl) (by simp) ?_
              refine AllReadyH.cons (o := (Oper.mk (some 113) (Op.call (Call.mk (Callee.builtin Builtin.append) #[Operand.tmp 103, Operand.tmp 112] #[63, 63])) 63 "recorder.go:105" #[Edge.mk 4 Ground.data, Edge.mk 13 Ground.data, Edge.mk 10 Ground.chain] none)) rfl (fun K hK => ?_) (AllReadyH.nil)
              (refine step_append_off _ (by rfl) (.tmp 103) (.tmp 112) 63 (by rfl) B 68 j1 (.pointer none) 8 Try.underlying63 HJ1.out hz0 hz1 hz2 (by rfl) _ (yk.gs.map ptr) (by rfl) (by rw [← HVE.out]; exact HS5.out.row.below (al (al HB6.out _) _) (Nat.le_refl _)) (some ⟨w6.heap.size + 1, 0, none⟩) 1 1 [ptr w6.heap.size] (by rfl) (by rfl) (one_vat2 w6 _ _ 68) (by intro u hu; rw [List.mem_singleton] at hu; subst hu; rfl) (by have h9 := HGL.out; simp only [List.length_map]; unfold maxLen; omega) (by have h9 := HGL.out; simp only [List.length_map]; omega) (Nat.le_trans (Nat.le_trans HR5.out.lo (Nat.le_of_lt HR5.out.blk.lt)) (al (al HB6.out _) _).size) ?_; intro v8 w8 hown8 hgrow8 hblk8; obtain ⟨a8, n8, c8, rfl⟩ := off_slice hown8; rw [← HVE.out] at hgrow8 hblk8; obtain ⟨c5, c4, f4, f5, cl, c1, bl, HR9, HF9⟩ := addB HR5.out HYk.out HS5.out HB6.out HO6.out (show ln = lvl (s.L.drop k) + l.length by rw [HLN2.out, HLK.out, HM.out]) (show _ = r1.now from rfl) hown8 hgrow8 hblk8; rw [HYS2.out] at c5 c4 f4 f5 cl HR9 HF9; rw [HVE.out] at c4; rw [← HLK.out] at c5; clear hown8 hgrow8 hblk8)
              refine hK.out _ _ (by (try dsimp only); (first | assumption | go_keep)) (fun hHeld => ?_)
              clear hK K
              (try simp only [Act.put, List.setIfInBounds_toArray, List.set_cons_zero, List.set_cons_succ])
              refine wpAnyH_take (i := 15) (oi := (Oper.mk (some 114) (Op.nilCheck (Operand.tmp 99)) 0 "recorder.go:105" #[Edge.mk 0 Ground.data, Edge.mk 0 Ground.phase, Edge.mk 1 Ground.phase, Edge.mk 2 Ground.phase, Edge.mk 3 Ground.phase, Edge.mk 4 Ground.phase, Edge.mk 5 Ground.phase, Edge.mk 6 Ground.phase, Edge.mk 7 Ground.phase, Edge.mk 8 Ground.phase, Edge.mk 9 Ground.phase, Edge.mk 10 Ground.phase, Edge.mk 11 Ground.phase, Edge.mk 12 Ground.phase, Edge.mk 13 Ground.phase, Edge.mk 14 Ground.phase] none)) (v := ?_) rfl (by kernel_rfl) (by kernel_rfl) (by kernel_rfl) (fun _ _ _ h => h) (Or.inl ⟨by rfl, ?_⟩) (by assumption) ?_
              rotate_left
              · (intro w hSw; (try dsimp only at hSw); go_simp; first | done | with_reducible rfl)
              (try simp only [Act.put, List.setIfInBounds_toArray, List.set_cons_zero, List.set_cons_succ])
              refine wpAnyH_take (i := 16) (oi := (Oper.mk (some 115) (Op.fieldAddr 65 (Operand.tmp 114) 1) 0 "recorder.go:105" #[Edge.mk 15 Ground.data, Edge.mk 0 Ground.phase, Edge.mk 1 Ground.phase, Edge.mk 2 Ground.phase, Edge.mk 3 Ground.phase, Edge.mk 4 Ground.phase, Edge.mk 5 Ground.phase, Edge.mk 6 Ground.phase, Edge.mk 7 Ground.phase, Edge.mk 8 Ground.phase, Edge.mk 9 Ground.phase, Edge.mk 10 Ground.phase, Edge.mk 11 Ground.phase, Edge.mk 12 Ground.phase, Edge.mk 13 Ground.phase, Edge.mk 14 Ground.phase] none)) (v := ?_) rfl (by kernel_rfl) (by kernel_rfl) (by kernel_rfl) (fun _ _ _ h => h) (Or.inl ⟨by rfl, ?_⟩) (by assumption) ?_
              rotate_left
              · (intro w hSw; (try dsimp only at hSw); go_simp; first | done | with_reducible rfl)
              (try simp only [Act.put, List.setIfInBounds_toArray, List.set_cons_zero, List.set_cons_succ])
              refine wpAnyH_ready (rs := [17]) (by kernel_rfl) (by simp) ?_
              refine AllReadyH.cons (o := (Oper.mk none (Op.store 63 (Operand.tmp 115) (Operand.tmp 113)) 0 "recorder.go:105" #[Edge.mk 16 Ground.data, Edge.mk 14 Ground.data, Edge.mk 14 Ground.chain, Edge.mk 0 Ground.phase, Edge.mk 1 Ground.phase, Edge.mk 2 Ground.phase, Edge.mk 3 Ground.phase, Edge.mk 4 Ground.phase, Edge.mk 5 Ground.phase, Edge.mk 6 Ground.phase, Edge.mk 7 Ground.phase, Edge.mk 8 Ground.phase, Edge.mk 9 Ground.phase, Edge.mk 10 Ground.phase, Edge.mk 11 Ground.phase, Edge.mk 12 Ground.phase, Edge.mk 13 Ground.phase, Edge.mk 14 Ground.phase] none)) rfl (fun K hK => ?_) (AllReadyH.nil)
              go_simp
              skip
              refine hK.out _ _ (by (try dsimp only); (first | assumption | go_keep)) (fun hHeld => ?_)
              clear hK K
              (try simp only [Act.put, List.setIfInBounds_toArray, List.set_cons_zero, List.set_cons_succ])
              refine wpAnyH_done (by kernel_rfl) ?_ _
            case' st10t4997x10 =>
              go_simp
              (go_at_call 26; refine (clone_n a m cap l w5.drew HM.out HLM.out (show BAt w5.drew _ l from HAB5.out.1)).mono ?_; rintro e w6 ⟨vd, rfl, hO6, hB6⟩; obtain ⟨av, mv, cv, rfl⟩ := own_slice hO6; obtain ⟨c1, c4, cl, bl, HO6, HB6⟩ := addA HR5.out HYk.out HS5.out (undrew hB6) hO6 (show _ = r1.now from rfl); rw [HYS2.out] at c4 cl; rw [HVE.out] at c4; clear hO6 hB6)
              refine hK.out _ _ (by (try dsimp only); (first | assumption | go_keep)) (fun hHeld => ?_)
              clear hK K
              (try simp only [Act.put, List.setIfInBounds_toArray, List.set_cons_zero, List.set_cons_succ])
              refine wpAnyH_take (i := 11) (oi := (Oper.mk (some 110) (Op.build 71 #[(0, Operand.tmp 107), (1, Operand.tmp 109)]) 71 "recorder.go:105" #[Edge.mk 8 Ground.data, Edge.mk 10 Ground.data] none)) (v := ?_) rfl (by kernel_rfl) (by kernel_rfl) (by kernel_rfl) (fun _ _ _ h => h) (Or.inl ⟨by rfl, ?_⟩) (by assumption) ?_
              rotate_left
              · (intro w hSw; (try dsimp only at hSw); go_simp; first | done | with_reducible rfl)
              (try simp only [Act.put, List.setIfInBounds_toArray, List.set_cons_zero, List.set_cons_succ])
              refine wpAnyH_ready (rs := [4, 12]) (by kernel_rfl) (by simp) ?_
              refine AllReadyH.cons (o := (Oper.mk (some 103) (Op.load 63 (Operand.tmp 102)) 63 "recorder.go:105" #[Edge.mk 3 Ground.data] none)) rfl (fun K hK => ?st4t4997x20) (AllReadyH.cons (o := (Oper.mk (some 111) (Op.box 71 (Operand.tmp 110)) 68 "recorder.go:105" #[Edge.mk 11 Ground.data] none)) rfl (fun K hK => ?st12t4997x20) (AllReadyH.nil))
              case' st4t4997x20 =>
                go_simp
                skip
                refine hK.out _ _ (by (try dsimp only); (first | assumption | go_keep)) (fun hHeld => ?_)
                clear hK K
                (try simp only [Act.put, List.setIfInBounds_toArray, List.set_cons_zero, List.set_cons_succ])
                refine wpAnyH_ready (rs := [12]) (by kernel_rfl) (by simp) ?_
                refine AllReadyH.cons (o := (Oper.mk (some 111) (Op.box 71 (Operand.tmp 110)) 68 "recorder.go:105" #[Edge.mk 11 Ground.data] none)) rfl (fun K hK => ?_) (AllReadyH.nil)
                go_simp
                skip
                refine hK.out _ _ (by (try dsimp only); (first | assumption | go_keep)) (fun hHeld => ?_)
                clear hK K
                (try simp only [Act.put, List.setIfInBounds_toArray, List.set_cons_zero, List.set_cons_succ])
                refine wpAnyH_ready (rs := [13]) (by kernel_rfl) (by simp) ?_
                refine AllReadyH.cons (o := (Oper.mk (some 112) (Op.buildSlice 63 1 #[(0, Operand.tmp 111)]) 63 "recorder.go:105" #[Edge.mk 12 Ground.data] none)) rfl (fun K hK => ?_) (AllReadyH.nil)
                go_simp
                skip
                refine hK.out _ _ (by (try dsimp only); (first | assumption | go_keep)) (fun hHeld => ?_)
                clear hK K
                (try simp only [Act.put, List.setIfInBounds_toArray, List.set_cons_zero, List.set_cons_succ])
                refine wpAnyH_ready (rs := [14]) (by kernel_rfl) (by simp) ?_
                refine AllReadyH.cons (o := (Oper.mk (some 113) (Op.call (Call.mk (Callee.builtin Builtin.append) #[Operand.tmp 103, Operand.tmp 112] #[63, 63])) 63 "recorder.go:105" #[Edge.mk 4 Ground.data, Edge.mk 13 Ground.data, Edge.mk 10 Ground.chain] none)) rfl (fun K hK => ?_) (AllReadyH.nil)
                (refine step_append_off _ (by rfl) (.tmp 103) (.tmp 112) 63 (by rfl) B 68 j1 (.pointer none) 8 Try.underlying63 HJ1.out hz0 hz1 hz2 (by rfl) _ (yk.gs.map ptr) (by rfl) (by rw [← HVE.out]; exact HS5.out.row.below (al (al HB6.out _) _) (Nat.le_refl _)) (some ⟨w6.heap.size + 1, 0, none⟩) 1 1 [ptr w6.heap.size] (by rfl) (by rfl) (one_vat2 w6 _ _ 68) (by intro u hu; rw [List.mem_singleton] at hu; subst hu; rfl) (by have h9 := HGL.out; simp only [List.length_map]; unfold maxLen; omega) (by have h9 := HGL.out; simp only [List.length_map]; omega) (Nat.le_trans (Nat.le_trans HR5.out.lo (Nat.le_of_lt HR5.out.blk.lt)) (al (al HB6.out _) _).size) ?_; intro v8 w8 hown8 hgrow8 hblk8; obtain ⟨a8, n8, c8, rfl⟩ := off_slice hown8; rw [← HVE.out] at hgrow8 hblk8; obtain ⟨c5, c4, f4, f5, cl, c1, bl, HR9, HF9⟩ := addB HR5.out HYk.out HS5.out HB6.out HO6.out (show ln = lvl (s.L.drop k) + l.length by rw [HLN2.out, HLK.out, HM.out]) (show _ = r1.now from rfl) hown8 hgrow8 hblk8; rw [HYS2.out] at c5 c4 f4 f5 cl HR9 HF9; rw [HVE.out] at c4; rw [← HLK.out] at c5; clear hown8 hgrow8 hblk8)
                refine hK.out _ _ (by (try dsimp only); (first | assumption | go_keep)) (fun hHeld => ?_)
                clear hK K
                (try simp only [Act.put, List.setIfInBounds_toArray, List.set_cons_zero, List.set_cons_succ])
                refine wpAnyH_take (i := 15) (oi := (Oper.mk (some 114) (Op.nilCheck (Operand.tmp 99)) 0 "recorder.go:105" #[Edge.mk 0 Ground.data, Edge.mk 0 Ground.phase, Edge.mk 1 Ground.phase, Edge.mk 2 Ground.phase, Edge.mk 3 Ground.phase, Edge.mk 4 Ground.phase, Edge.mk 5 Ground.phase, Edge.mk 6 Ground.phase, Edge.mk 7 Ground.phase, Edge.mk 8 Ground.phase, Edge.mk 9 Ground.phase, Edge.mk 10 Ground.phase, Edge.mk 11 Ground.phase, Edge.mk 12 Ground.phase, Edge.mk 13 Ground.phase, Edge.mk 14 Ground.phase] none)) (v := ?_) rfl (by kernel_rfl) (by kernel_rfl) (by kernel_rfl) (fun _ _ _ h => h) (Or.inl ⟨by rfl, ?_⟩) (by assumption) ?_
                rotate_left
                · (intro w hSw; (try dsimp only at hSw); go_simp; first | done | with_reducible rfl)
                (try simp only [Act.put, List.setIfInBounds_toArray, List.set_cons_zero, List.set_cons_succ])
                refine wpAnyH_take (i := 16) (oi := (Oper.mk (some 115) (Op.fieldAddr 65 (Operand.tmp 114) 1) 0 "recorder.go:105" #[Edge.mk 15 Ground.data, Edge.mk 0 Ground.phase, Edge.mk 1 Ground.phase, Edge.mk 2 Ground.phase, Edge.mk 3 Ground.phase, Edge.mk 4 Ground.phase, Edge.mk 5 Ground.phase, Edge.mk 6 Ground.phase, Edge.mk 7 Ground.phase, Edge.mk 8 Ground.phase, Edge.mk 9 Ground.phase, Edge.mk 10 Ground.phase, Edge.mk 11 Ground.phase, Edge.mk 12 Ground.phase, Edge.mk 13 Ground.phase, Edge.mk 14 Ground.phase] none)) (v := ?_) rfl (by kernel_rfl) (by kernel_rfl) (by kernel_rfl) (fun _ _ _ h => h) (Or.inl ⟨by rfl, ?_⟩) (by assumption) ?_
                rotate_left
                · (intro w hSw; (try dsimp only at hSw); go_simp; first | done | with_reducible rfl)
                (try simp only [Act.put, List.setIfInBounds_toArray, List.set_cons_zero, List.set_cons_succ])
                refine wpAnyH_ready (rs := [17]) (by kernel_rfl) (by simp) ?_
                refine AllReadyH.cons (o := (Oper.mk none (Op.store 63 (Operand.tmp 115) (Operand.tmp 113)) 0 "recorder.go:105" #[Edge.mk 16 Ground.data, Edge.mk 14 Ground.data, Edge.mk 14 Ground.chain, Edge.mk 0 Ground.phase, Edge.mk 1 Ground.phase, Edge.mk 2 Ground.phase, Edge.mk 3 Ground.phase, Edge.mk 4 Ground.phase, Edge.mk 5 Ground.phase, Edge.mk 6 Ground.phase, Edge.mk 7 Ground.phase, Edge.mk 8 Ground.phase, Edge.mk 9 Ground.phase, Edge.mk 10 Ground.phase, Edge.mk 11 Ground.phase, Edge.mk 12 Ground.phase, Edge.mk 13 Ground.phase, Edge.mk 14 Ground.phase] none)) rfl (fun K hK => ?_) (AllReadyH.nil)
                go_simp
                skip
                refine hK.out _ _ (by (try dsimp only); (first | assumption | go_keep)) (fun hHeld => ?_)
                clear hK K
                (try simp only [Act.put, List.setIfInBounds_toArray, List.set_cons_zero, List.set_cons_succ])
                refine wpAnyH_done (by kernel_rfl) ?_ _
              case' st12t4997x20 =>
                go_simp
                skip
                refine hK.out _ _ (by (try dsimp only); (first | assumption | go_keep)) (fun hHeld => ?_)
                clear hK K
                (try simp only [Act.put, List.setIfInBounds_toArray, List.set_cons_zero, List.set_cons_succ])
                refine wpAnyH_ready (rs := [4, 13]) (by kernel_rfl) (by simp) ?_
                refine AllReadyH.cons (o := (Oper.mk (some 103) (Op.load 63 (Operand.tmp 102)) 63 "recorder.go:105" #[Edge.mk 3 Ground.data] none)) rfl (fun K hK => ?st4t4997x27) (AllReadyH.cons (o := (Oper.mk (some 112) (Op.buildSlice 63 1 #[(0, Operand.tmp 111)]) 63 "recorder.go:105" #[Edge.mk 12 Ground.data] none)) rfl (fun K hK => ?st13t4997x27) (AllReadyH.nil))
                case' st4t4997x27 =>
                  go_simp
                  skip
                  refine hK.out _ _ (by (try dsimp only); (first | assumption | go_keep)) (fun hHeld => ?_)
                  clear hK K
                  (try simp only [Act.put, List.setIfInBounds_toArray, List.set_cons_zero, List.set_cons_succ])
                  refine wpAnyH_ready (rs := [13]) (by kernel_rfl) (by simp) ?_
                  refine AllReadyH.cons (o := (Oper.mk (some 112) (Op.buildSlice 63 1 #[(0, Operand.tmp 111)]) 63 "recorder.go:105" #[Edge.mk 12 Ground.data] none)) rfl (fun K hK => ?_) (AllReadyH.nil)
                  go_simp
                  skip
                  refine hK.out _ _ (by (try dsimp only); (first | assumption | go_keep)) (fun hHeld => ?_)
                  clear hK K
                  (try simp only [Act.put, List.setIfInBounds_toArray, List.set_cons_zero, List.set_cons_succ])
                  refine wpAnyH_ready (rs := [14]) (by kernel_rfl) (by simp) ?_
                  refine AllReadyH.cons (o := (Oper.mk (some 113) (Op.call (Call.mk (Callee.builtin Builtin.append) #[Operand.tmp 103, Operand.tmp 112] #[63, 63])) 63 "recorder.go:105" #[Edge.mk 4 Ground.data, Edge.mk 13 Ground.data, Edge.mk 10 Ground.chain] none)) rfl (fun K hK => ?_) (AllReadyH.nil)
                  (refine step_append_off _ (by rfl) (.tmp 103) (.tmp 112) 63 (by rfl) B 68 j1 (.pointer none) 8 Try.underlying63 HJ1.out hz0 hz1 hz2 (by rfl) _ (yk.gs.map ptr) (by rfl) (by rw [← HVE.out]; exact HS5.out.row.below (al (al HB6.out _) _) (Nat.le_refl _)) (some ⟨w6.heap.size + 1, 0, none⟩) 1 1 [ptr w6.heap.size] (by rfl) (by rfl) (one_vat2 w6 _ _ 68) (by intro u hu; rw [List.mem_singleton] at hu; subst hu; rfl) (by have h9 := HGL.out; simp only [List.length_map]; unfold maxLen; omega) (by have h9 := HGL.out; simp only [List.length_map]; omega) (Nat.le_trans (Nat.le_trans HR5.out.lo (Nat.le_of_lt HR5.out.blk.lt)) (al (al HB6.out _) _).size) ?_; intro v8 w8 hown8 hgrow8 hblk8; obtain ⟨a8, n8, c8, rfl⟩ := off_slice hown8; rw [← HVE.out] at hgrow8 hblk8; obtain ⟨c5, c4, f4, f5, cl, c1, bl, HR9, HF9⟩ := addB HR5.out HYk.out HS5.out HB6.out HO6.out (show ln = lvl (s.L.drop k) + l.length by rw [HLN2.out, HLK.out, HM.out]) (show _ = r1.now from rfl) hown8 hgrow8 hblk8; rw [HYS2.out] at c5 c4 f4 f5 cl HR9 HF9; rw [HVE.out] at c4; rw [← HLK.out] at c5; clear hown8 hgrow8 hblk8)
                  refine hK.out _ _ (by (try dsimp only); (first | assumption | go_keep)) (fun hHeld => ?_)
                  clear hK K
                  (try simp only [Act.put, List.setIfInBounds_toArray, List.set_cons_zero, List.set_cons_succ])
                  refine wpAnyH_take (i := 15) (oi := (Oper.mk (some 114) (Op.nilCheck (Operand.tmp 99)) 0 "recorder.go:105" #[Edge.mk 0 Ground.data, Edge.mk 0 Ground.phase, Edge.mk 1 Ground.phase, Edge.mk 2 Ground.phase, Edge.mk 3 Ground.phase, Edge.mk 4 Ground.phase, Edge.mk 5 Ground.phase, Edge.mk 6 Ground.phase, Edge.mk 7 Ground.phase, Edge.mk 8 Ground.phase, Edge.mk 9 Ground.phase, Edge.mk 10 Ground.phase, Edge.mk 11 Ground.phase, Edge.mk 12 Ground.phase, Edge.mk 13 Ground.phase, Edge.mk 14 Ground.phase] none)) (v := ?_) rfl (by kernel_rfl) (by kernel_rfl) (by kernel_rfl) (fun _ _ _ h => h) (Or.inl ⟨by rfl, ?_⟩) (by assumption) ?_
                  rotate_left
                  · (intro w hSw; (try dsimp only at hSw); go_simp; first | done | with_reducible rfl)
                  (try simp only [Act.put, List.setIfInBounds_toArray, List.set_cons_zero, List.set_cons_succ])
                  refine wpAnyH_take (i := 16) (oi := (Oper.mk (some 115) (Op.fieldAddr 65 (Operand.tmp 114) 1) 0 "recorder.go:105" #[Edge.mk 15 Ground.data, Edge.mk 0 Ground.phase, Edge.mk 1 Ground.phase, Edge.mk 2 Ground.phase, Edge.mk 3 Ground.phase, Edge.mk 4 Ground.phase, Edge.mk 5 Ground.phase, Edge.mk 6 Ground.phase, Edge.mk 7 Ground.phase, Edge.mk 8 Ground.phase, Edge.mk 9 Ground.phase, Edge.mk 10 Ground.phase, Edge.mk 11 Ground.phase, Edge.mk 12 Ground.phase, Edge.mk 13 Ground.phase, Edge.mk 14 Ground.phase] none)) (v := ?_) rfl (by kernel_rfl) (by kernel_rfl) (by kernel_rfl) (fun _ _ _ h => h) (Or.inl ⟨by rfl, ?_⟩) (by assumption) ?_
                  rotate_left
                  · (intro w hSw; (try dsimp only at hSw); go_simp; first | done | with_reducible rfl)
                  (try simp only [Act.put, List.setIfInBounds_toArray, List.set_cons_zero, List.set_cons_succ])
                  refine wpAnyH_ready (rs := [17]) (by kernel_rfl) (by simp) ?_
                  refine AllReadyH.cons (o := (Oper.mk none (Op.store 63 (Operand.tmp 115) (Operand.tmp 113)) 0 "recorder.go:105" #[Edge.mk 16 Ground.data, Edge.mk 14 Ground.data, Edge.mk 14 Ground.chain, Edge.mk 0 Ground.phase, Edge.mk 1 Ground.phase, Edge.mk 2 Ground.phase, Edge.mk 3 Ground.phase, Edge.mk 4 Ground.phase, Edge.mk 5 Ground.phase, Edge.mk 6 Ground.phase, Edge.mk 7 Ground.phase, Edge.mk 8 Ground.phase, Edge.mk 9 Ground.phase, Edge.mk 10 Ground.phase, Edge.mk 11 Ground.phase, Edge.mk 12 Ground.phase, Edge.mk 13 Ground.phase, Edge.mk 14 Ground.phase] none)) rfl (fun K hK => ?_) (AllReadyH.nil)
                  go_simp
                  skip
                  refine hK.out _ _ (by (try dsimp only); (first | assumption | go_keep)) (fun hHeld => ?_)
                  clear hK K
                  (try simp only [Act.put, List.setIfInBounds_toArray, List.set_cons_zero, List.set_cons_succ])
                  refine wpAnyH_done (by kernel_rfl) ?_ _
                case' st13t4997x27 =>
                  go_simp
                  skip
                  refine hK.out _ _ (by (try dsimp only); (first | assumption | go_keep)) (fun hHeld => ?_)
                  clear hK K
                  (try simp only [Act.put, List.setIfInBounds_toArray, List.set_cons_zero, List.set_cons_succ])
                  refine wpAnyH_ready (rs := [4]) (by kernel_rfl) (by simp) ?_
                  refine AllReadyH.cons (o := (Oper.mk (some 103) (Op.load 63 (Operand.tmp 102)) 63 "recorder.go:105" #[Edge.mk 3 Ground.data] none)) rfl (fun K hK => ?_) (AllReadyH.nil)
                  go_simp
                  skip
                  refine hK.out _ _ (by (try dsimp only); (first | assumption | go_keep)) (fun hHeld => ?_)
                  clear hK K
                  (try simp only [Act.put, List.setIfInBounds_toArray, List.set_cons_zero, List.set_cons_succ])
                  refine wpAnyH_ready (rs := [14]) (by kernel_rfl) (by simp) ?_
                  refine AllReadyH.cons (o := (Oper.mk (some 113) (Op.call (Call.mk (Callee.builtin Builtin.append) #[Operand.tmp 103, Operand.tmp 112] #[63, 63])) 63 "recorder.go:105" #[Edge.mk 4 Ground.data, Edge.mk 13 Ground.data, Edge.mk 10 Ground.chain] none)) rfl (fun K hK => ?_) (AllReadyH.nil)
                  (refine step_append_off _ (by rfl) (.tmp 103) (.tmp 112) 63 (by rfl) B 68 j1 (.pointer none) 8 Try.underlying63 HJ1.out hz0 hz1 hz2 (by rfl) _ (yk.gs.map ptr) (by rfl) (by rw [← HVE.out]; exact HS5.out.row.below (al (al HB6.out _) _) (Nat.le_refl _)) (some ⟨w6.heap.size + 1, 0, none⟩) 1 1 [ptr w6.heap.size] (by rfl) (by rfl) (one_vat2 w6 _ _ 68) (by intro u hu; rw [List.mem_singleton] at hu; subst hu; rfl) (by have h9 := HGL.out; simp only [List.length_map]; unfold maxLen; omega) (by have h9 := HGL.out; simp only [List.length_map]; omega) (Nat.le_trans (Nat.le_trans HR5.out.lo (Nat.le_of_lt HR5.out.blk.lt)) (al (al HB6.out _) _).size) ?_; intro v8 w8 hown8 hgrow8 hblk8; obtain ⟨a8, n8, c8, rfl⟩ := off_slice hown8; rw [← HVE.out] at hgrow8 hblk8; obtain ⟨c5, c4, f4, f5, cl, c1, bl, HR9, HF9⟩ := addB HR5.out HYk.out HS5.out HB6.out HO6.out (show ln = lvl (s.L.drop k) + l.length by rw [HLN2.out, HLK.out, HM.out]) (show _ = r1.now from rfl) hown8 hgrow8 hblk8; rw [HYS2.out] at c5 c4 f4 f5 cl HR9 HF9; rw [HVE.out] at c4; rw [← HLK.out] at c5; clear hown8 hgrow8 hblk8)
                  refine hK.out _ _ (by (try dsimp only); (first | assumption | go_keep)) (fun hHeld => ?_)
                  clear hK K
                  (try simp only [Act.put, List.setIfInBounds_toArray, List.set_cons_zero, List.set_cons_succ])
                  refine wpAnyH_take (i := 15) (oi := (Oper.mk (some 114) (Op.nilCheck (Operand.tmp 99)) 0 "recorder.go:105" #[Edge.mk 0 Ground.data, Edge.mk 0 Ground.phase, Edge.mk 1 Ground.phase, Edge.mk 2 Ground.phase, Edge.mk 3 Ground.phase, Edge.mk 4 Ground.phase, Edge.mk 5 Ground.phase, Edge.mk 6 Ground.phase, Edge.mk 7 Ground.phase, Edge.mk 8 Ground.phase, Edge.mk 9 Ground.phase, Edge.mk 10 Ground.phase, Edge.mk 11 Ground.phase, Edge.mk 12 Ground.phase, Edge.mk 13 Ground.phase, Edge.mk 14 Ground.phase] none)) (v := ?_) rfl (by kernel_rfl) (by kernel_rfl) (by kernel_rfl) (fun _ _ _ h => h) (Or.inl ⟨by rfl, ?_⟩) (by assumption) ?_
                  rotate_left
                  · (intro w hSw; (try dsimp only at hSw); go_simp; first | done | with_reducible rfl)
                  (try simp only [Act.put, List.setIfInBounds_toArray, List.set_cons_zero, List.set_cons_succ])
                  refine wpAnyH_take (i := 16) (oi := (Oper.mk (some 115) (Op.fieldAddr 65 (Operand.tmp 114) 1) 0 "recorder.go:105" #[Edge.mk 15 Ground.data, Edge.mk 0 Ground.phase, Edge.mk 1 Ground.phase, Edge.mk 2 Ground.phase, Edge.mk 3 Ground.phase, Edge.mk 4 Ground.phase, Edge.mk 5 Ground.phase, Edge.mk 6 Ground.phase, Edge.mk 7 Ground.phase, Edge.mk 8 Ground.phase, Edge.mk 9 Ground.phase, Edge.mk 10 Ground.phase, Edge.mk 11 Ground.phase, Edge.mk 12 Ground.phase, Edge.mk 13 Ground.phase, Edge.mk 14 Ground.phase] none)) (v := ?_) rfl (by kernel_rfl) (by kernel_rfl) (by kernel_rfl) (fun _ _ _ h => h) (Or.inl ⟨by rfl, ?_⟩) (by assumption) ?_
                  rotate_left
                  · (intro w hSw; (try dsimp only at hSw); go_simp; first | done | with_reducible rfl)
                  (try simp only [Act.put, List.setIfInBounds_toArray, List.set_cons_zero, List.set_cons_succ])
                  refine wpAnyH_ready (rs := [17]) (by kernel_rfl) (by simp) ?_
                  refine AllReadyH.cons (o := (Oper.mk none (Op.store 63 (Operand.tmp 115) (Operand.tmp 113)) 0 "recorder.go:105" #[Edge.mk 16 Ground.data, Edge.mk 14 Ground.data, Edge.mk 14 Ground.chain, Edge.mk 0 Ground.phase, Edge.mk 1 Ground.phase, Edge.mk 2 Ground.phase, Edge.mk 3 Ground.phase, Edge.mk 4 Ground.phase, Edge.mk 5 Ground.phase, Edge.mk 6 Ground.phase, Edge.mk 7 Ground.phase, Edge.mk 8 Ground.phase, Edge.mk 9 Ground.phase, Edge.mk 10 Ground.phase, Edge.mk 11 Ground.phase, Edge.mk 12 Ground.phase, Edge.mk 13 Ground.phase, Edge.mk 14 Ground.phase] none)) rfl (fun K hK => ?_) (AllReadyH.nil)
                  go_simp
                  skip
                  refine hK.out _ _ (by (try dsimp only); (first | assumption | go_keep)) (fun hHeld => ?_)
                  clear hK K
                  (try simp only [Act.put, List.setIfInBounds_toArray, List.set_cons_zero, List.set_cons_succ])
                  refine wpAnyH_done (by kernel_rfl) ?_ _
            all_goals
              go_wp2_with fail
              go_ret
              obtain ⟨Y', hY⟩ := HR9.out
              rw [RS.put_put] at hY
              exact ⟨ret_int (by rw [HP.out]), HF5.out.trans HF9.out, Y', by rw [HP.out, HSE.out]; exact hY⟩
end Go.Proofs.Ytnojmkmmfiahgaa

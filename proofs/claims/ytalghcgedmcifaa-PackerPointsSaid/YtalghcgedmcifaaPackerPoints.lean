/- The law PackerPoints holds: the walk, then the lift to the given statement. No condition. -/
import Derived.Test.YtalghcgedmcifaaR
import Derived.WalkKit
import Derived.ProofKit
import Derived.OpenShut
import Derived.Lib.Hide
import Derived.ChangeOld
import Derived.Below
import Derived.SizedLaws
namespace Go.Proofs.Ytalghcgedmcifaa.packerPoints
open Go.ChangeShapes Go.WideShapes Go.ChangeAt Go.RowKit
set_option linter.unusedVariables false
theorem own : ownKnob Try.prog.godebug = none := by kernel_rfl
theorem laidOut : laidOutB Try.prog = true := by kernel_rfl

set_option maxRecDepth 20000 in
set_option maxHeartbeats 4000000 in
theorem walk {H : Type} {enc : TypeId × Value → H} (a0 : Int) (v1 : Value) (w : World) (w0 : (Lit.int .i64 a0).wf = true) {b1 : Nat} {d1 : DataW H} {p1 : List MemPlace} (ok1 : Value.okWide Try.prog w .any b1 22 v1) (tr1 : DataW.Trod enc Try.prog w 0 (fun _ => true) true 22 v1 d1 p1) : Calls Try.prog 4 #[.int .i64 a0, v1] w fun e w' => e = .returned (.bool true) ∧ Below w.heap.size w w' := by
  obtain ⟨az, cz, l, rfl, hzc, hzm, hzb⟩ := arg_bytes Try.underlying22 Try.underlying5 (by kernel_rfl) ok1 tr1
  have HZB := Lib.hid hzb
  clear ok1 tr1 hzb
  by_cases hr : rightB a0 = true
  · by_cases h60 : 60 < l.length
    · have e1 : (60 : Int) < (l.length : Int) := by omega
      go_enter Try.func4, Try.ntmps4
      go_wp2_with (go_at_call 7; refine (right_any a0 w).mono ?_; rintro e wq ⟨rfl, hw⟩; obtain rfl := hw.symm; rw [hr])
      refine (alive_any _).mono ?_
      rintro e w9 ⟨rfl, hB⟩
      have HB9 := Lib.hid hB
      clear hB
      go_wp2_with fail
      go_ret
      exact ⟨rfl, HB9.out⟩
    · have hs : 1 ≤ a0 ∧ a0 ≤ 1012 := by unfold rightB at hr; simpa using hr
      obtain ⟨s, rfl⟩ : ∃ s : Nat, a0 = (s : Int) := ⟨a0.toNat, by omega⟩
      have hs1 : 1 ≤ s := by omega
      have hs2 : s ≤ 1012 := by omega
      have e1 : ¬ (60 : Int) < (l.length : Int) := by omega
      have e2 : (s : Int) ≤ 1012 := by omega
      have HR := Lib.hid hr
      have HOK := Lib.hid (PS.ok_new (size := (s : Int)) (room := 1048576) hr)
      obtain ⟨b, hb⟩ : ∃ b, b = w.heap.size := ⟨_, rfl⟩
      have HBB := Lib.hid hb
      clear w0 hs
      go_enter Try.func4, Try.ntmps4
      go_upto_region 3 with (go_at_call 7; refine (right_any (s : Int) w).mono ?_; rintro e wq ⟨rfl, hw⟩; obtain rfl := hw.symm; rw [hr])
      clear hr
      go_wp2_with fail
      refine (new_any (s : Int) 1048576 w HR.out).mono ?_
      rintro e wa ⟨rfl, hF, hB⟩
      rw [← hb] at hF ⊢
      rw [filled_zero] at hF
      have H1 : Hid (PF wa b (filled l s 0)) := Lib.hid ⟨_, _, hF⟩
      have HB1 : Hid (Below b w wa) := Lib.hid (by rw [hb]; exact hB)
      clear hF hB hb
      go_wp2_with fail
      go_loopw [6] (fun v6 wr => ∃ i : Nat, i ≤ l.length ∧ v6 = .int .i64 (i : Int) ∧ Hid (PF wr b (filled l s i)) ∧ Hid (Below b w wr)) (fun v6 _ => l.length - (intOf v6).toNat)
      case atStart => exact ⟨0, Nat.zero_le _, rfl, H1, HB1⟩
      case round =>
        obtain ⟨i, hi, rfl, HP, HB⟩ := hrel
        by_cases hlt : i < l.length
        · obtain ⟨bz, oz, rfl, hbz, hcz⟩ := HZB.out.resolve_left (fun e => by rw [e] at hlt; simp at hlt)
          have e3 : (i : Int) < (l.length : Int) := by omega
          have e4 : (0 : Int) ≤ (i : Int) := by omega
          have zc : wr.cell? ⟨bz, oz + i, none⟩ = some (.int .u8 ((l[i].toNat : Nat) : Int)) := (HB.out.cell (p := ⟨bz, oz + i, none⟩) (by rw [HBB.out]; exact hbz)).trans (hcz i hlt)
          have hgd : l.getD i 0 = l[i] := by simp [hlt]
          obtain ⟨z, hz⟩ : ∃ z, z = l[i].toNat := ⟨_, rfl⟩
          rw [← hz] at zc
          have hz9 : z < 256 := by rw [hz]; exact UInt8.toNat_lt _
          have hpk : pkAt l i = pkB (z + 1) (UInt8.ofNat i) := by unfold pkAt; rw [hgd, hz]
          have hpl := (pkAt_len l i)
          have HPK := Lib.hid hpk
          have g6 : (0 : Int) ≤ (z : Int) := by omega
          have g7 : (z : Int) < 256 := by omega
          have HPU := Lib.hid (filled_push l s i (by omega))
          have hoki := filled_ok l s i hs1 hs2 (by omega)
          have HOKI := Lib.hid hoki
          clear hcz hgd hz hpk hoki
          go_wp2_with fail
          refine (lbytes_i z i wr hz9 (by omega)).mono ?_
          rintro e w3 ⟨vx, rfl, hO, hB⟩
          rw [← HPK.out] at hO
          obtain ⟨-, ax, cx, rfl, hcx, hmx, hAx⟩ := BAt.of_row hO
          obtain ⟨vW, vR, hP⟩ := HP.out
          have H3 := Lib.hid (hP.below hB (Nat.le_refl _))
          have HB3 : Hid (Below b w w3) := Lib.hid (HB.out.trans (hB.mono (Nat.le_of_lt hP.blk.lt)))
          obtain ⟨m, hm⟩ : ∃ m, m = (pkAt l i).length := ⟨_, rfl⟩
          rw [← hm] at hcx ⊢
          have HM := Lib.hid hm
          have hm9 : m ≤ 100000 := by omega
          have HX3 := Lib.hid hAx
          clear hO hB hAx hm hP
          go_wp2_with fail
          refine (push_ex (n := m) HPU.out H3.out HOKI.out HX3.out HM.out.symm hm9 hcx hmx).mono ?_
          rintro e w4 ⟨vW4, rfl, H4, HR4, HB4, HC4⟩
          go_wp2_with fail
          go_roundw
          case rel => exact ⟨i + 1, by omega, by go_num, Lib.hid ⟨_, _, H4.out⟩, Lib.hid (HB3.out.trans HB4.out)⟩
          case measure => simp [intOf]; omega
        · obtain rfl : i = l.length := by omega
          have e3 : ¬ (l.length : Int) < (l.length : Int) := by omega
          have HOKN := Lib.hid (filled_ok l s l.length hs1 hs2 (by omega))
          obtain ⟨j0, hj, hy0, hy1, hy2⟩ := info_parts info5
          have HJ := Lib.hid hj
          clear hlt hj
          go_wp2_with fail
          go_loopw [7, 8, 9] (fun v7 v8 v9 wr => ∃ (n : Nat) (p : PS) (all : List UInt8) (E E1 E2 : List (List UInt8)), n ≤ 20000 ∧ v9 = .int .i64 (n : Int) ∧ v7 = .int .i64 (E1.flatten.length : Int) ∧ Hid (PL wr b p v8 all) ∧ Hid (Below b w wr) ∧ Hid p.Ok ∧ Hid (Pts p E all) ∧ Hid (E = E1 ++ E2) ∧ Hid (p.size = s) ∧ Hid (all.length = n * s)) (fun _ _ v9 _ => 20000 - (intOf v9).toNat)
          case atStart => exact ⟨0, filled l s l.length, [], [], [], [], by omega, rfl, rfl, Lib.hid (PL.start HP.out), HB, HOKN, Lib.hid (filled_pts l s l.length), Lib.hid rfl, Lib.hid rfl, Lib.hid (by simp)⟩
          case round =>
            clear HP HB HOKN
            obtain ⟨n, p, all, E, E1, E2, hn, rfl, rfl, HL, HB, HOKP, HPT, HEE, HSZ, HLN⟩ := hrel
            obtain ⟨vW, vR, hP, hne⟩ := HL.out.at_
            have HP := Lib.hid hP
            have HNX := Lib.hid hne
            obtain ⟨lf, hlf⟩ : ∃ lf, lf = p.left := ⟨_, rfl⟩
            have HLF := Lib.hid hlf
            obtain ⟨-, a8, c8, rfl, hc8, hm8, -⟩ := BAt.of_row HL.out.row
            obtain ⟨st, hst⟩ : ∃ st, st = E1.flatten.length := ⟨_, rfl⟩
            have HST := Lib.hid hst
            obtain ⟨N, hN⟩ : ∃ N, N = all.length := ⟨_, rfl⟩
            have hN9 : N ≤ 20240000 := by
              have := HLN.out
              have h1 : n * s ≤ 20000 * 1012 := Nat.mul_le_mul hn hs2
              omega
            rw [← hN] at hc8 HP HNX
            rw [← hst, ← hN]
            have HN := Lib.hid hN
            have HRW : Hid (wr.ownsRow (b + 1) 5 1 (.slice a8 N c8) N (encB all)) := Lib.hid (by rw [hN]; exact HL.out.row)
            clear hP hne hst hN
            by_cases hl0 : lf = 0
            · have e5 : ¬ (0 : Int) < (lf : Int) := by omega
              clear hlf
              go_wp2_with (go_at_call 14; refine (left_any wr HP.out HOKP.out).mono ?_; rintro e wq ⟨rfl, hw⟩; obtain rfl := hw.symm; rw [← HLF.out])
              refine (alive_any _).mono ?_
              rintro e w9 ⟨rfl, hB⟩
              have HB9 : Hid (Below w.heap.size w w9) := Lib.hid (by rw [← HBB.out]; exact HB.out.trans (hB.mono (Nat.le_of_lt HL.out.lt)))
              clear hB
              go_wp2_with fail
              go_ret
              exact ⟨rfl, HB9.out⟩
            have e5 : (0 : Int) < (lf : Int) := by omega
            have d5 : 0 < lf := by omega
            have HL0 := Lib.hid hl0
            clear hl0
            by_cases hn2 : n = 20000
            · subst hn2
              clear hlf
              go_wp2_with (go_at_call 14; refine (left_any wr HP.out HOKP.out).mono ?_; rintro e wq ⟨rfl, hw⟩; obtain rfl := hw.symm; rw [← HLF.out])
              refine (alive_any _).mono ?_
              rintro e w9 ⟨rfl, hB⟩
              have HB9 : Hid (Below w.heap.size w w9) := Lib.hid (by rw [← HBB.out]; exact HB.out.trans (hB.mono (Nat.le_of_lt HL.out.lt)))
              clear hB
              go_wp2_with fail
              go_ret
              exact ⟨rfl, HB9.out⟩
            have d6 : n < 20000 := by omega
            have e6 : (n : Int) < 20000 := by omega
            clear hn2
            have e7 : (0 : Int) ≤ (n : Int) := by omega
            obtain ⟨q, out, f, E', hnx, hne⟩ := next_E p HOKP.out (by rw [← hlf]; exact HL0.out)
            have HNXT := Lib.hid hnx
            have HNE := Lib.hid hne
            have HOKQ : Hid q.Ok := Lib.hid (by have := PS.ok_next HOKP.out; rwa [hnx] at this)
            have HOL : Hid (out.length = s) := Lib.hid (by rw [hne.len, HSZ.out])
            obtain ⟨pd, hpd⟩ : ∃ pd, pd = p.pend.length := ⟨_, rfl⟩
            have hpd9 : pd ≤ 4102 := by rw [hpd]; exact pend_len HOKP.out
            have HPD := Lib.hid hpd
            have HFF : Hid (f = if pd < s then (pd : Int) else 2047) := Lib.hid (by rw [hne.first, HSZ.out, hpd])
            have HTOT : Hid (E.flatten.length = N + pd) := Lib.hid (by rw [HPT.out.eq, List.length_append, hpd, HN.out])
            clear hnx hne hlf hpd
            go_wp2_with (go_at_call 14; refine (left_any wr HP.out HOKP.out).mono ?_; rintro e wq ⟨rfl, hw⟩; obtain rfl := hw.symm; rw [← HLF.out])
            refine (next_ex HNXT.out HP.out HOKP.out).mono ?_
            rintro e w2 ⟨v2, vW2, vR2, rfl, HO2, H2, HR2, HB2, HC2, HN2⟩
            simp only [Option.map_some, Option.getD_some, Option.isSome_some] at HO2 ⊢
            obtain ⟨-, a2, c2, rfl, hc2, hm2, hA2⟩ := BAt.of_row HO2.out
            rw [HOL.out] at H2 HN2 hc2 ⊢
            have HA2 := Lib.hid hA2.vat
            have HRW2 : Hid (w2.ownsRow (b + 1) 5 1 (.slice a8 N c8) N (encB all)) := Lib.hid (own_fr HRW.out HR2.out (fun k hk h9 => by have := (HRW.out.lt k hk).1; omega))
            have hb2 : b + 1 ≤ w2.heap.size := by have := HL.out.lt; have := HR2.out.size; omega
            have he2 : Hid ((encB out).length = s) := Lib.hid (by rw [encB_length, HOL.out])
            clear hA2
            go_wp2_with (at_builtin; refine wpList_append_src _ rfl (.tmp 66) (.tmp 67) 22 rfl (b + 1) 5 j0 (.int .u8 0) 1 Try.underlying22 HJ.out hy0 hy1 hy2 rfl _ N (encB all) rfl HRW2.out a2 s c2 (encB out) rfl he2.out HA2.out (encB_one _) (by unfold maxLen; omega) (by omega) hb2 ?_)
            intro v8 w3 hown hgrow hblk
            have HL3 : Hid (PL w3 b q v8 (all ++ out)) := Lib.hid (PL.next HP.out HNX.out (by rw [← HN.out]; exact HRW.out) H2.out HR2.out HC2.out (by rw [← HN.out, HOL.out]; exact hown) hgrow hblk)
            have HB3 : Hid (Below b w w3) := Lib.hid ((HB.out.trans HB2.out).grown hgrow (by omega) (fun k hk => by have := (HRW.out.lt k hk).1; omega))
            clear hown hgrow hblk
            obtain ⟨M, hM⟩ : ∃ M, M = N + s := ⟨_, rfl⟩
            have HM := Lib.hid hM
            have hM9 : M ≤ 20250000 := by omega
            have hall : (all ++ out).length = M := by rw [List.length_append, HOL.out, ← HN.out, hM]
            obtain ⟨-, a9, c9, rfl, hc9, hm9, hA9⟩ := BAt.of_row HL3.out.row
            have hsh := own_shape HL3.out.row
            rw [hall] at hc9 HL3 hsh ⊢
            have HALL := Lib.hid hall
            have HA9 := Lib.hid hA9
            obtain ⟨g9, rfl⟩ : ∃ g, a9 = some ⟨g, 0, none⟩ := by
              rcases hsh with ⟨-, -, h⟩ | ⟨g, h, -⟩
              · omega
              · exact ⟨g, h⟩
            clear hall hA9 hsh hM
            go_wp2_with fail
            go_loopw [7] (fun v7 wr => ∃ (F1 F2 : List (List UInt8)), v7 = .int .i64 (F1.flatten.length : Int) ∧ Hid (E = F1 ++ F2) ∧ Hid (Quiet w3 wr)) (fun v7 _ => N + pd - (intOf v7).toNat)
            case atStart => exact ⟨E1, E2, by rw [HST.out], HEE, Lib.hid (Quiet.refl _)⟩
            case round =>
              obtain ⟨F1, F2, rfl, HEF, HQ⟩ := hrel
              obtain ⟨sf, hsf⟩ : ∃ sf, sf = F1.flatten.length := ⟨_, rfl⟩
              have HSF := Lib.hid hsf
              cases F2 with
              | nil =>
                have hv : sf = N + pd := by rw [hsf, ← HTOT.out, HEF.out, List.append_nil]
                rw [← hsf]
                have hM := HM.out
                have i1 : ¬ (sf : Int) < (N : Int) := by omega
                have i2 : (N : Int) ≤ (sf : Int) := by omega
                have j1 : ¬ sf < N := by omega
                have j2 : N ≤ sf := by omega
                have i3 : (sf : Int) - (N : Int) = (pd : Int) := by omega
                by_cases hps : pd < s
                · have i4 : (sf : Int) < (M : Int) := by omega
                  have j4 : sf < M := by omega
                  have hf : f = (pd : Int) := by rw [HFF.out, if_pos hps]
                  subst hf
                  clear hsf hv hM
                  go_wp2_with fail
                  go_roundw
                  case rel => exact ⟨n + 1, q, all ++ out, E ++ E', F1, [] ++ E', by omega, by go_num, by rw [← HSF.out], Lib.hid (HL3.out.quiet HQ.out), Lib.hid (HB3.out.trans HQ.out.below), HOKQ, Lib.hid (HPT.out.step HNE.out), Lib.hid (by rw [HEF.out, List.append_assoc]), Lib.hid (by rw [HNE.out.size, HSZ.out]), Lib.hid (by rw [List.length_append, HLN.out, HNE.out.len, HSZ.out, Nat.succ_mul])⟩
                  case measure => simp [intOf]; omega
                · have i4 : ¬ (sf : Int) < (M : Int) := by omega
                  have j4 : ¬ sf < M := by omega
                  have hf : f = 2047 := by rw [HFF.out, if_neg hps]
                  subst hf
                  clear hsf hv hM
                  go_wp2_with fail
                  go_roundw
                  case rel => exact ⟨n + 1, q, all ++ out, E ++ E', F1, [] ++ E', by omega, by go_num, by rw [← HSF.out], Lib.hid (HL3.out.quiet HQ.out), Lib.hid (HB3.out.trans HQ.out.below), HOKQ, Lib.hid (HPT.out.step HNE.out), Lib.hid (by rw [HEF.out, List.append_assoc]), Lib.hid (by rw [HNE.out.size, HSZ.out]), Lib.hid (by rw [List.length_append, HLN.out, HNE.out.len, HSZ.out, Nat.succ_mul])⟩
                  case measure => simp [intOf]; omega
              | cons y F2 =>
                obtain ⟨k1, k2, k3, k4⟩ := HPT.out.at (HPT.out.step HNE.out) HEF.out
                rw [← hsf] at k1 k2 k4 ⊢
                rw [← HN.out] at k1 k2
                rw [← HPD.out] at k2
                have hM := HM.out
                have hlen : ((all ++ out).drop sf).length = M - sf := by rw [List.length_drop, HALL.out]
                have HLEN := Lib.hid hlen
                have HSP := Lib.hid (show M - sf < 6 → (sizeP ((all ++ out).drop sf)).2 ≠ 0 from fun h => sizeP_short _ (by rw [hlen]; exact h))
                rw [hlen] at k4
                have HK4 := Lib.hid k4
                have HBA : Hid (BAt wr (some ⟨g9, 0 + sf, none⟩) ((all ++ out).drop sf)) := Lib.hid (by
                  have := (HA9.out.quiet HQ.out).sub sf (M - sf)
                  rwa [List.take_of_length_le (by rw [hlen]; exact Nat.le_refl _)] at this)
                have i1 : (sf : Int) < (N : Int) := by omega
                have i2 : (sf : Int) ≤ (M : Int) := by omega
                have i3 : (0 : Int) ≤ (sf : Int) := by omega
                have i4 : ¬ c9 = sf := by omega
                have i5 : (M : Int) ≤ (c9 : Int) := by omega
                have hc9' : c9 ≤ 9223372036854775807 := hm9
                have hM1 : N < M := by omega
                clear hsf hlen k4 hM
                go_wp2_with fail
                obtain ⟨X, hX⟩ : ∃ X, X = (all ++ out).drop sf := ⟨_, rfl⟩
                rw [← hX] at HLEN HSP HK4 HBA
                have HBA' : Hid (BAt wr (some ⟨g9, sf, none⟩) X) := Lib.hid (by have := HBA.out; rwa [Nat.zero_add] at this)
                clear hX HBA
                refine (rsize_n HLEN.out (by unfold maxLen; omega) (by omega) (by omega) HBA'.out).mono ?_
                rintro e w5 ⟨rfl, hq⟩
                have HQ5 := Lib.hid (HQ.out.trans hq)
                clear hq
                by_cases h6 : M - sf < 6
                · have hz := HSP.out h6
                  have j1 : sf < N := by omega
                  have j3 : ¬ pd < s := by have := HM.out; omega
                  have hf : f = 2047 := by rw [HFF.out, if_neg j3]
                  obtain ⟨sz, hsz⟩ : ∃ sz, sz = sizeP X := ⟨_, rfl⟩
                  rw [← hsz] at hz ⊢
                  obtain ⟨sa, se⟩ := sz
                  dsimp only at hz ⊢
                  have hz2 : (se != 0) = true := by simpa using hz
                  have j5 : ¬ N ≤ sf := by omega
                  have i5 : ¬ (N : Int) ≤ (sf : Int) := by omega
                  subst hf
                  clear hsz hz h6 j3
                  go_wp2_with fail
                  go_roundw
                  case rel => exact ⟨n + 1, q, all ++ out, E ++ E', F1, (y :: F2) ++ E', by omega, by go_num, by rw [← HSF.out], Lib.hid (HL3.out.quiet HQ5.out), Lib.hid (HB3.out.trans HQ5.out.below), HOKQ, Lib.hid (HPT.out.step HNE.out), Lib.hid (by rw [HEF.out, List.append_assoc]), Lib.hid (by rw [HNE.out.size, HSZ.out]), Lib.hid (by rw [List.length_append, HLN.out, HNE.out.len, HSZ.out, Nat.succ_mul])⟩
                  case measure => simp [intOf]; omega
                · have hz := HK4.out (by have := HM.out; omega)
                  rw [hz]
                  dsimp only
                  obtain ⟨yl, hyl⟩ : ∃ yl, yl = y.length := ⟨_, rfl⟩
                  rw [← hyl] at k2 k3 ⊢
                  have HYL := Lib.hid hyl
                  clear hz hyl h6
                  go_wp2_with fail
                  go_roundw
                  case rel => exact ⟨F1 ++ [y], F2, by rw [List.flatten_append, List.length_append, ← HSF.out]; simp only [List.flatten_cons, List.flatten_nil, List.append_nil]; rw [← HYL.out]; go_num, Lib.hid (by rw [HEF.out]; simp), HQ5⟩
                  case measure => simp [intOf]; omega
  · have hr : rightB a0 = false := by simpa using hr
    clear w0
    go_enter Try.func4, Try.ntmps4
    go_wp2_with (go_at_call 7; refine (right_any a0 w).mono ?_; rintro e wq ⟨rfl, hw⟩; obtain rfl := hw.symm; rw [hr])
    refine (alive_any _).mono ?_
    rintro e w9 ⟨rfl, hB⟩
    have HB9 := Lib.hid hB
    clear hB
    go_wp2_with fail
    go_ret
    exact ⟨rfl, HB9.out⟩


set_option maxRecDepth 100000 in
theorem lifted (os : Os) (started : os.Started) (H : Type) (enc : TypeId × Value → H) :
    ReturnsInHanded {} Try.checked os 4 .any (Rows.packerPointsSpec.pre6 enc Try.prog Try.f4 Rows.packerPointsRow.domain false) (Rows.packerPointsSpec.post enc Try.prog Try.f4 false true false false) := by
  refine returnsInHanded_of_change (C := Try.checked) own started (by kernel_rfl) Try.func4
    (ChangeSpec.witness6 (enc := enc) (C := Try.checked) false ⟨#[], #[.int .i64 0, .slice none 0 0], []⟩ 8 (by kernel_rfl) (by kernel_rfl) (by kernel_rfl) (by kernel_rfl)) ?_
  intro W base args ds gs before hval0 hW hcnd _
  have hval : ∀ (j : Nat) t v, Try.f4.params[j]? = some t → args[j]? = some v → Value.okWide Try.prog W .any base t v := hval0
  have hW' := hW
  obtain ⟨p, q, hA0, hV, rfl, hfz, hnd⟩ := hW
  have hA : DataW.TrodAll enc Try.prog W 0 (fun _ => true) true Try.f4.params.toList args.toList ds p := hA0
  rw [Try.params4] at hA hval
  obtain ⟨v0, vs0, d0, ds0, p0, q0, hargs, rfl, rfl, h0, r0⟩ := trodAll_cons hA
  obtain ⟨v1, vs1, d1, ds1, p1, q1, rfl, rfl, rfl, h1, r1⟩ := trodAll_cons r0
  obtain ⟨rfl, rfl, rfl⟩ := trodAll_nil r1
  obtain rfl : args = #[v0, v1] := by cases args; simp_all
  obtain ⟨rfl, rfl⟩ := trodVars_none hV
  obtain ⟨a0, rfl, rfl, rfl, w0⟩ := open_int Try.underlying3 (hval 0 3 v0 rfl rfl) h0
  have k1 := h1
  have lt1 : ∀ x ∈ p1, x.block < W.heap.size := by obtain ⟨m, hm⟩ := k1; exact DataW.trod_lt m _ _ _ hm
  clear hA0 hval0
  refine (walk a0 v1 W w0 (hval 1 22 v1 rfl rfl) k1).mono fun e W' ⟨he, bel⟩ => ?_
  subst he
  exact ⟨_, rfl, _, _, _, [], _, [], hW', trodAll_mk1 (shut_bool Try.underlying4 _), (trodAll_cons_mk (shut_int Try.underlying3 w0) (trodAll_cons_mk (Below.trod laidOut (by kernel_rfl) (of_decide_eq_true (by kernel_rfl)) k1 bel lt1) trodAll_mk0)), rfl, bel.frame _, fun h => by cases h⟩

theorem over : Rows.packerPointsRow.holds Try.pinned (OpenSpec.ofChange Rows.packerPointsSpec) :=
  OpenClaim.holds_of_wide 4 Try.f4 rfl rfl rfl rfl rfl rfl rfl ⟨rfl, rfl, rfl, rfl, rfl⟩ rfl rfl rfl rfl rfl (by kernel_rfl) Try.func4 (by kernel_rfl)
    (of_decide_eq_true (by kernel_rfl)) (by unfold Func.isWrapper; first | (rw [if_pos (by decide +kernel)]; kernel_rfl) | (rw [if_neg (by decide +kernel)]; exact ⟨rfl, rfl⟩))
    (fun os started H enc _ => lifted os started H enc)

theorem proved : Rows.PackerPointsSaid := over
#print axioms proved
end Go.Proofs.Ytalghcgedmcifaa.packerPoints

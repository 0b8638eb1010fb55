/- The law PackerKeeps holds: the walk, then the lift to the given statement. No condition. -/
import Derived.Test.YtalghcgedmcifaaU
import Derived.WalkKit
import Derived.ProofKit
import Derived.OpenShut
import Derived.Lib.Hide
import Derived.ChangeOld
import Derived.Below
import Derived.SizedLaws
namespace Go.Proofs.Ytalghcgedmcifaa.packerKeeps
open Go.ChangeShapes Go.WideShapes Go.ChangeAt Go.RowKit
set_option linter.unusedVariables false
theorem own : ownKnob Try.prog.godebug = none := by kernel_rfl
theorem laidOut : laidOutB Try.prog = true := by kernel_rfl

set_option maxRecDepth 20000 in
set_option maxHeartbeats 4000000 in
theorem walk {H : Type} {enc : TypeId × Value → H} (a0 : Int) (v1 : Value) (w : World) (w0 : (Lit.int .i64 a0).wf = true) {b1 : Nat} {d1 : DataW H} {p1 : List MemPlace} (ok1 : Value.okWide Try.prog w .any b1 22 v1) (tr1 : DataW.Trod enc Try.prog w 0 (fun _ => true) true 22 v1 d1 p1) : Calls Try.prog 3 #[.int .i64 a0, v1] w fun e w' => e = .returned (.bool true) ∧ Below w.heap.size w w' := by
  obtain ⟨az, cz, l, rfl, hzc, hzm, hzb⟩ := arg_bytes Try.underlying22 Try.underlying5 (by kernel_rfl) ok1 tr1
  have HZB := Lib.hid hzb
  clear ok1 tr1 hzb
  by_cases hr : rightB a0 = true
  · by_cases h60 : 60 < l.length
    · have e1 : (60 : Int) < (l.length : Int) := by omega
      go_enter Try.func3, Try.ntmps3
      go_wp2_with (go_at_call 7; refine (right_any a0 w).mono ?_; rintro e wq ⟨rfl, hw⟩; obtain rfl := hw.symm; rw [hr])
      refine (alive_any _).mono ?_
      rintro e w9 ⟨rfl, hB⟩
      have HB9 := Lib.hid hB
      clear hB
      go_wp2_with fail
      go_ret
      exact ⟨rfl, HB9.out⟩
    · have hs : 1 ≤ a0 ∧ a0 ≤ 1012 := by unfold rightB at hr; simpa using hr
      obtain ⟨s, rfl⟩ : ∃ s : Nat, a0 = (s : Int) := ⟨a0.toNat, by omega⟩
      have hs1 : 1 ≤ s := by omega
      have hs2 : s ≤ 1012 := by omega
      have e1 : ¬ (60 : Int) < (l.length : Int) := by omega
      have e2 : (s : Int) ≤ 1012 := by omega
      have HR := Lib.hid hr
      obtain ⟨b, hb⟩ : ∃ b, b = w.heap.size := ⟨_, rfl⟩
      have HBB := Lib.hid hb
      obtain ⟨j0, hj, hy0, hy1, hy2⟩ := info_parts info5
      have HJ := Lib.hid hj
      clear w0 hs hj
      go_enter Try.func3, Try.ntmps3
      go_upto_region 3 with (go_at_call 7; refine (right_any (s : Int) w).mono ?_; rintro e wq ⟨rfl, hw⟩; obtain rfl := hw.symm; rw [hr])
      clear hr
      go_wp2_with fail
      refine (new_any (s : Int) 1048576 w HR.out).mono ?_
      rintro e wa ⟨rfl, hF, hB⟩
      rw [← hb] at hF ⊢
      have H1 : Hid (PF wa b (PS.new s 1048576)) := Lib.hid ⟨_, _, hF⟩
      have HB1 : Hid (Below b w wa) := Lib.hid (by rw [hb]; exact hB)
      clear hF hB hb
      go_wp2_with fail
      go_loopw [6, 7, 8] (fun v6 v7 v8 wr => ∃ (i : Nat) (p : PS) (out : List UInt8), i ≤ l.length ∧ v8 = .int .i64 (i : Int) ∧ Hid (PL2 wr b p v6 v7 (pks l i).flatten out) ∧ Hid (Kp l s i p out) ∧ Hid (Below b w wr)) (fun _ _ v8 _ => l.length - (intOf v8).toNat)
      case atStart => exact ⟨0, _, [], Nat.zero_le _, rfl, Lib.hid (PL2.start H1.out), Lib.hid (Kp.start l s hs1 hs2), HB1⟩
      case round =>
        clear H1 HB1
        obtain ⟨i, p, out, hi, rfl, HL, HK, HB⟩ := hrel
        obtain ⟨N, hN⟩ : ∃ N, N = out.length := ⟨_, rfl⟩
        have HN := Lib.hid hN
        obtain ⟨I, hI⟩ : ∃ I, I = (pks l i).flatten := ⟨_, rfl⟩
        have HI := Lib.hid hI
        have hIl : I.length ≤ 15720 := by have := (HK.out.len).2; rw [← hI] at this; omega
        have hN9 : N ≤ 15720 := by have := (HK.out.len).1; rw [← hI, ← hN] at this; omega
        rw [← hI] at HL
        obtain ⟨-, a7, c7, rfl, hc7, hm7, -⟩ := BAt.of_row HL.out.row2
        rw [← hN] at hc7 HL
        rw [← hN]
        clear hN hI
        by_cases hlt : i < l.length
        · obtain ⟨bz, oz, rfl, hbz, hcz⟩ := HZB.out.resolve_left (fun e => by rw [e] at hlt; simp at hlt)
          have e3 : (i : Int) < (l.length : Int) := by omega
          have e4 : (0 : Int) ≤ (i : Int) := by omega
          have zc : wr.cell? ⟨bz, oz + i, none⟩ = some (.int .u8 ((l[i].toNat : Nat) : Int)) := (HB.out.cell (p := ⟨bz, oz + i, none⟩) (by rw [HBB.out]; exact hbz)).trans (hcz i hlt)
          have hgd : l.getD i 0 = l[i] := by simp [hlt]
          obtain ⟨z, hz⟩ : ∃ z, z = l[i].toNat := ⟨_, rfl⟩
          rw [← hz] at zc
          have hz9 : z < 256 := by rw [hz]; exact UInt8.toNat_lt _
          have hpk : pkAt l i = pkB (z + 1) (UInt8.ofNat i) := by unfold pkAt; rw [hgd, hz]
          have hpl := (pkAt_len l i)
          have HPK := Lib.hid hpk
          have g6 : (0 : Int) ≤ (z : Int) := by omega
          have g7 : (z : Int) < 256 := by omega
          obtain ⟨q, hpu, hkq⟩ := HK.out.push (by omega)
          have HPU := Lib.hid hpu
          have HKQ := Lib.hid hkq
          clear hcz hgd hz hpk hpu hkq
          go_wp2_with fail
          refine (lbytes_i z i wr hz9 (by omega)).mono ?_
          rintro e w3 ⟨vx, rfl, hO, hB⟩
          rw [← HPK.out] at hO
          obtain ⟨-, ax, cx, rfl, hcx, hmx, hAx⟩ := BAt.of_row hO
          have HL3 := Lib.hid (HL.out.below hB)
          have HB3 : Hid (Below b w w3) := Lib.hid (HB.out.trans (hB.mono (Nat.le_of_lt HL.out.lt)))
          obtain ⟨x, hx⟩ : ∃ x, x = pkAt l i := ⟨_, rfl⟩
          rw [← hx] at hO hcx hAx hpl HPU ⊢
          have HX := Lib.hid hx
          obtain ⟨m, hm⟩ : ∃ m, m = x.length := ⟨_, rfl⟩
          rw [← hm] at hO hcx hpl ⊢
          have HM := Lib.hid hm
          have hm9 : m ≤ 100000 := by omega
          have HXO := Lib.hid hO
          have HX3 := Lib.hid hAx
          have HXV := Lib.hid hAx.vat
          have he2 : Hid ((encB x).length = m) := Lib.hid (by rw [encB_length, hm])
          have hb3 : b + 1 ≤ w3.heap.size := by have := HL3.out.lt; omega
          clear hO hB hAx hm hx
          go_wp2_with (at_builtin; refine wpList_append_src _ rfl (.tmp 44) (.tmp 45) 22 rfl (b + 1) 5 j0 (.int .u8 0) 1 Try.underlying22 HJ.out hy0 hy1 hy2 rfl _ I.length (encB I) rfl HL3.out.row1 ax m cx (encB x) rfl he2.out HXV.out (encB_one _) (by unfold maxLen; omega) (by omega) hb3 ?_)
          intro v6 w4 hown hgrow hblk
          have HL4 : Hid (PL2 w4 b p v6 (.slice a7 N c7) (I ++ x) out) := Lib.hid (HL3.out.app1 (by rw [← HM.out]; exact hown) hgrow hblk)
          have HB4 : Hid (Below b w w4) := Lib.hid (HB3.out.grown hgrow (by omega) (fun k hk => by have := (HL3.out.row1.lt k hk).1; omega))
          have HX4 : Hid (BAt w4 ax x) := Lib.hid (HX3.out.fr ((Fr.refl (fun k => u6.ownBlock = some k) _).grown hgrow (fun k hk => .inl hk)) (fun q hq h9 => by
            have h1 := (HXO.out.lt q.block (by rw [hq]; rfl)).1
            have h2 := (HL.out.row1.lt _ h9).2
            omega))
          have hix : I ++ x = (pks l (i + 1)).flatten := by rw [pks_succ, HI.out, HX.out, List.flatten_append]; simp
          rw [hix] at HL4
          clear hown hgrow hblk HX3 HXO HXV HL3 HB3 HL hix
          obtain ⟨vW, vR, hP, hne⟩ := HL4.out.at_
          have HP := Lib.hid hP
          have HNX := Lib.hid hne
          clear hP hne
          go_wp2_with fail
          refine (push_ex (n := m) HPU.out HP.out HK.out.ok HX4.out HM.out.symm hm9 hcx hmx).mono ?_
          rintro e w5 ⟨vW5, rfl, H5, HR5, HB5, HC5⟩
          have HL5 : Hid (PL2 w5 b q v6 (.slice a7 N c7) (pks l (i + 1)).flatten out) := Lib.hid (PL2.push HL4.out.row1 HL4.out.row2 HL4.out.diff HNX.out H5.out HR5.out HC5.out)
          have HB5' : Hid (Below b w w5) := Lib.hid (HB4.out.trans HB5.out)
          clear HP HNX HPU H5 HR5 HB5 HC5 HL4 HB4 HX4
          go_wp2_with fail
          go_loopw [7] (fun v7 wr => ∃ (p : PS) (out : List UInt8), Hid (PL2 wr b p v6 v7 (pks l (i + 1)).flatten out) ∧ Hid (Kp l s (i + 1) p out) ∧ Hid (Below b w wr)) (fun v7 _ => 20000 - slen v7)
          case atStart => exact ⟨q, out, HL5, HKQ, HB5'⟩
          case round =>
            clear HL5 HKQ HB5' HK HN
            obtain ⟨p, out, HL, HK, HB⟩ := hrel
            obtain ⟨M, hM⟩ : ∃ M, M = out.length := ⟨_, rfl⟩
            have HM := Lib.hid hM
            have hM9 : M ≤ 15720 := by have h9 := HK.out.len; rw [← hM] at h9; omega
            obtain ⟨-, a8, c8, rfl, hc8, hm8, -⟩ := BAt.of_row HL.out.row2
            rw [← hM] at hc8 HL
            rw [← hM]
            obtain ⟨vW, vR, hP, hne⟩ := HL.out.at_
            have HP := Lib.hid hP
            have HNX := Lib.hid hne
            clear hM hP hne
            cases hr : p.ready with
            | false =>
              go_wp2_with (go_at_call 12; refine (ready_any _ HP.out HK.out.ok).mono ?_; rintro e wq ⟨rfl, hq⟩; have HQ := Lib.hid hq; clear hq; rw [hr])
              go_roundw
              case rel => exact ⟨i + 1, p, out, by omega, by go_num, Lib.hid (HL.out.quiet HQ.out), HK, Lib.hid (HB.out.trans HQ.out.below)⟩
              case measure => simp [intOf]; omega
            | true =>
              obtain ⟨q, o, f, hnx, hol, hkq⟩ := HK.out.ready hr
              have HNXT := Lib.hid hnx
              have HOL := Lib.hid hol
              have HKQ := Lib.hid hkq
              have e8 : (M : Int) < 200000 := by omega
              have e9 : M < 200000 := by omega
              clear hnx hol hkq
              go_wp2_with (go_at_call 12; refine (ready_any _ HP.out HK.out.ok).mono ?_; rintro e wq ⟨rfl, hq⟩; have HQ := Lib.hid hq; clear hq; rw [hr])
              have HOKP := Lib.hid HK.out.ok
              have HP2 := Lib.hid (HP.out.quiet HQ.out)
              have HLq := Lib.hid (HL.out.quiet HQ.out)
              refine (next_ex HNXT.out HP2.out HOKP.out).mono ?_
              rintro e w2 ⟨v2, vW2, vR2, rfl, HO2, H2, HR2, HB2, HC2, HN2⟩
              simp only [Option.map_some, Option.getD_some, Option.isSome_some] at HO2 ⊢
              obtain ⟨-, a2, c2, rfl, hc2, hm2, hA2⟩ := BAt.of_row HO2.out
              rw [HOL.out] at H2 HN2 hc2 ⊢
              have HA2 := Lib.hid hA2.vat
              have hrw := HLq.out.row2
              rw [← HM.out] at hrw
              have HRW2 : Hid (w2.ownsRow (b + 1) 5 1 (.slice a8 M c8) M (encB out)) := Lib.hid (own_fr hrw HR2.out (fun k hk h9 => by have := (hrw.lt k hk).1; omega))
              have hb2 : b + 1 ≤ w2.heap.size := by have := HLq.out.lt; have := HR2.out.size; omega
              have he2 : Hid ((encB o).length = s) := Lib.hid (by rw [encB_length, HOL.out])
              clear hA2 hrw
              go_wp2_with (at_builtin; refine wpList_append_src _ rfl (.tmp 63) (.tmp 64) 22 rfl (b + 1) 5 j0 (.int .u8 0) 1 Try.underlying22 HJ.out hy0 hy1 hy2 rfl _ M (encB out) rfl HRW2.out a2 s c2 (encB o) rfl he2.out HA2.out (encB_one _) (by unfold maxLen; omega) (by omega) hb2 ?_)
              intro v8 w3 hown hgrow hblk
              have HL3 : Hid (PL2 w3 b q v6 v8 (pks l (i + 1)).flatten (out ++ o)) := Lib.hid (PL2.next HLq.out.row1 HLq.out.row2 HLq.out.diff HNX.out H2.out HR2.out HC2.out (by rw [← HM.out, HOL.out]; exact hown) hgrow hblk)
              have HB3 : Hid (Below b w w3) := Lib.hid (((HB.out.trans HQ.out.below).trans HB2.out).grown hgrow (by omega) (fun k hk => by have := (HRW2.out.lt k hk).1; omega))
              have hsl : slen v8 = M + s := by rw [slen_row HL3.out.row2, List.length_append, ← HM.out, HOL.out]
              clear hown hgrow hblk
              go_wp2_with fail
              go_roundw
              case rel => exact ⟨q, out ++ o, HL3, HKQ, HB3⟩
              case measure => simp only [slen] at hsl ⊢; simp [hsl]; omega
        · obtain rfl : i = l.length := by omega
          have e3 : ¬ (l.length : Int) < (l.length : Int) := by omega
          have HKE : Hid (Kend l s l.length p out) := Lib.hid ⟨HK.out.ok, .inl HK.out⟩
          clear hlt
          go_wp2_with fail
          go_loopw [7] (fun v7 wr => ∃ (p : PS) (out : List UInt8), Hid (PL2 wr b p u6 v7 I out) ∧ Hid (Kend l s l.length p out) ∧ Hid (Below b w wr)) (fun v7 _ => 30000 - slen v7)
          case atStart => exact ⟨p, out, HL, HKE, HB⟩
          case round =>
            clear HL HKE HB HK HN hc7 hm7 hN9
            obtain ⟨p, out, HL, HK, HB⟩ := hrel
            obtain ⟨M, hM⟩ : ∃ M, M = out.length := ⟨_, rfl⟩
            have HM := Lib.hid hM
            have hM9 : M ≤ 20000 := by have h9 := HK.out.len (by omega); rw [← hM] at h9; omega
            obtain ⟨-, a8, c8, rfl, hc8, hm8, hA8⟩ := BAt.of_row HL.out.row2
            rw [← hM] at hc8 HL
            rw [← hM]
            obtain ⟨vW, vR, hP, hne⟩ := HL.out.at_
            have HP := Lib.hid hP
            have HNX := Lib.hid hne
            have HA8 := Lib.hid hA8
            have HOKP := Lib.hid HK.out.1
            obtain ⟨lf, hlf⟩ : ∃ lf, lf = p.left := ⟨_, rfl⟩
            have HLF := Lib.hid hlf
            clear hM hP hne hA8
            by_cases hl0 : lf = 0
            · obtain ⟨m, hm, hout⟩ := HK.out.done (by rw [← hlf]; exact hl0)
              subst hl0
              have HOUT := Lib.hid hout
              clear hout hlf
              go_wp2_with (go_at_call 14; refine (left_any wr HP.out HOKP.out).mono ?_; rintro e wq ⟨rfl, hw⟩; obtain rfl := hw.symm; rw [← HLF.out])
              refine (packets_any (pks l l.length) m (pks_real l l.length) hm a8 c8 M out wr HOUT.out HM.out.symm (by omega) HA8.out hc8 hm8).mono ?_
              rintro e w5 ⟨vg, rfl, hO, hB⟩
              rw [← HI.out] at hO
              obtain ⟨-, a5, c5, rfl, hc5, hm5, hA5⟩ := BAt.of_row hO
              have hI5 := own_below HL.out.row1 hB (Nat.le_refl _)
              obtain ⟨-, a6, c6, rfl, hc6, hm6, hA6⟩ := BAt.of_row hI5
              have HB5 : Hid (Below b w w5) := Lib.hid (HB.out.trans (hB.mono (Nat.le_of_lt HL.out.lt)))
              obtain ⟨S, hS⟩ : ∃ S : ByteArray, S = ⟨I.toArray⟩ := ⟨_, rfl⟩
              have q1 : Sem.run Try.prog (convert 22 9 (.slice a5 I.length c5)) w5 = .ok (.string S) w5 := by rw [hS]; exact hA5.str 22 9 5 c5 Try.underlying22 Try.underlying5 Try.underlying9
              have q2 : Sem.run Try.prog (convert 22 9 (.slice a6 I.length c6)) w5 = .ok (.string S) w5 := by rw [hS]; exact hA6.str 22 9 5 c6 Try.underlying22 Try.underlying5 Try.underlying9
              have hbs : b ≤ w5.heap.size := by have h1 := HL.out.lt; have h2 := hB.size; omega
              clear hO hB hI5 hA5 hA6 hS
              go_wp2_with fail
              refine (alive_any _).mono ?_
              rintro e w9 ⟨rfl, hB⟩
              have HB9 : Hid (Below w.heap.size w w9) := Lib.hid (by rw [← HBB.out]; exact HB5.out.trans (hB.mono hbs))
              clear hB
              go_wp2_with fail
              go_ret
              exact ⟨rfl, HB9.out⟩
            · have e5 : (0 : Int) < (lf : Int) := by omega
              have d5 : 0 < lf := by omega
              obtain ⟨q, o, f, hnx, hol, hkq⟩ := HK.out.next (by rw [← hlf]; exact hl0)
              have HNXT := Lib.hid hnx
              have HOL := Lib.hid hol
              have HKQ := Lib.hid hkq
              have e8 : (M : Int) < 200000 := by omega
              have e9 : M < 200000 := by omega
              have HQ : Hid (Quiet wr wr) := Lib.hid (Quiet.refl _)
              clear hnx hol hkq hlf hl0
              go_wp2_with (go_at_call 14; refine (left_any wr HP.out HOKP.out).mono ?_; rintro e wq ⟨rfl, hw⟩; obtain rfl := hw.symm; rw [← HLF.out])
              have HP2 := Lib.hid (HP.out.quiet HQ.out)
              have HLq := Lib.hid (HL.out.quiet HQ.out)
              refine (next_ex HNXT.out HP2.out HOKP.out).mono ?_
              rintro e w2 ⟨v2, vW2, vR2, rfl, HO2, H2, HR2, HB2, HC2, HN2⟩
              simp only [Option.map_some, Option.getD_some, Option.isSome_some] at HO2 ⊢
              obtain ⟨-, a2, c2, rfl, hc2, hm2, hA2⟩ := BAt.of_row HO2.out
              rw [HOL.out] at H2 HN2 hc2 ⊢
              have HA2 := Lib.hid hA2.vat
              have hrw := HLq.out.row2
              rw [← HM.out] at hrw
              have HRW2 : Hid (w2.ownsRow (b + 1) 5 1 (.slice a8 M c8) M (encB out)) := Lib.hid (own_fr hrw HR2.out (fun k hk h9 => by have := (hrw.lt k hk).1; omega))
              have hb2 : b + 1 ≤ w2.heap.size := by have := HLq.out.lt; have := HR2.out.size; omega
              have he2 : Hid ((encB o).length = s) := Lib.hid (by rw [encB_length, HOL.out])
              clear hA2 hrw
              go_wp2_with (at_builtin; refine wpList_append_src _ rfl (.tmp 84) (.tmp 85) 22 rfl (b + 1) 5 j0 (.int .u8 0) 1 Try.underlying22 HJ.out hy0 hy1 hy2 rfl _ M (encB out) rfl HRW2.out a2 s c2 (encB o) rfl he2.out HA2.out (encB_one _) (by unfold maxLen; omega) (by omega) hb2 ?_)
              intro v8 w3 hown hgrow hblk
              have HL3 : Hid (PL2 w3 b q u6 v8 I (out ++ o)) := Lib.hid (PL2.next HLq.out.row1 HLq.out.row2 HLq.out.diff HNX.out H2.out HR2.out HC2.out (by rw [← HM.out, HOL.out]; exact hown) hgrow hblk)
              have HB3 : Hid (Below b w w3) := Lib.hid (((HB.out.trans HQ.out.below).trans HB2.out).grown hgrow (by omega) (fun k hk => by have := (HRW2.out.lt k hk).1; omega))
              have hsl : slen v8 = M + s := by rw [slen_row HL3.out.row2, List.length_append, ← HM.out, HOL.out]
              clear hown hgrow hblk
              go_wp2_with fail
              go_roundw
              case rel => exact ⟨q, out ++ o, HL3, HKQ, HB3⟩
              case measure => simp only [slen] at hsl ⊢; simp [hsl]; omega
  · have hr : rightB a0 = false := by simpa using hr
    clear w0
    go_enter Try.func3, Try.ntmps3
    go_wp2_with (go_at_call 7; refine (right_any a0 w).mono ?_; rintro e wq ⟨rfl, hw⟩; obtain rfl := hw.symm; rw [hr])
    refine (alive_any _).mono ?_
    rintro e w9 ⟨rfl, hB⟩
    have HB9 := Lib.hid hB
    clear hB
    go_wp2_with fail
    go_ret
    exact ⟨rfl, HB9.out⟩


set_option maxRecDepth 100000 in
theorem lifted (os : Os) (started : os.Started) (H : Type) (enc : TypeId × Value → H) :
    ReturnsInHanded {} Try.checked os 3 .any (Rows.packerKeepsSpec.pre6 enc Try.prog Try.f3 Rows.packerKeepsRow.domain false) (Rows.packerKeepsSpec.post enc Try.prog Try.f3 false true false false) := by
  refine returnsInHanded_of_change (C := Try.checked) own started (by kernel_rfl) Try.func3
    (ChangeSpec.witness6 (enc := enc) (C := Try.checked) false ⟨#[], #[.int .i64 0, .slice none 0 0], []⟩ 8 (by kernel_rfl) (by kernel_rfl) (by kernel_rfl) (by kernel_rfl)) ?_
  intro W base args ds gs before hval0 hW hcnd _
  have hval : ∀ (j : Nat) t v, Try.f3.params[j]? = some t → args[j]? = some v → Value.okWide Try.prog W .any base t v := hval0
  have hW' := hW
  obtain ⟨p, q, hA0, hV, rfl, hfz, hnd⟩ := hW
  have hA : DataW.TrodAll enc Try.prog W 0 (fun _ => true) true Try.f3.params.toList args.toList ds p := hA0
  rw [Try.params3] at hA hval
  obtain ⟨v0, vs0, d0, ds0, p0, q0, hargs, rfl, rfl, h0, r0⟩ := trodAll_cons hA
  obtain ⟨v1, vs1, d1, ds1, p1, q1, rfl, rfl, rfl, h1, r1⟩ := trodAll_cons r0
  obtain ⟨rfl, rfl, rfl⟩ := trodAll_nil r1
  obtain rfl : args = #[v0, v1] := by cases args; simp_all
  obtain ⟨rfl, rfl⟩ := trodVars_none hV
  obtain ⟨a0, rfl, rfl, rfl, w0⟩ := open_int Try.underlying3 (hval 0 3 v0 rfl rfl) h0
  have k1 := h1
  have lt1 : ∀ x ∈ p1, x.block < W.heap.size := by obtain ⟨m, hm⟩ := k1; exact DataW.trod_lt m _ _ _ hm
  clear hA0 hval0
  refine (walk a0 v1 W w0 (hval 1 22 v1 rfl rfl) k1).mono fun e W' ⟨he, bel⟩ => ?_
  subst he
  exact ⟨_, rfl, _, _, _, [], _, [], hW', trodAll_mk1 (shut_bool Try.underlying4 _), (trodAll_cons_mk (shut_int Try.underlying3 w0) (trodAll_cons_mk (Below.trod laidOut (by kernel_rfl) (of_decide_eq_true (by kernel_rfl)) k1 bel lt1) trodAll_mk0)), rfl, bel.frame _, fun h => by cases h⟩

theorem over : Rows.packerKeepsRow.holds Try.pinned (OpenSpec.ofChange Rows.packerKeepsSpec) :=
  OpenClaim.holds_of_wide 3 Try.f3 rfl rfl rfl rfl rfl rfl rfl ⟨rfl, rfl, rfl, rfl, rfl⟩ rfl rfl rfl rfl rfl (by kernel_rfl) Try.func3 (by kernel_rfl)
    (of_decide_eq_true (by kernel_rfl)) (by unfold Func.isWrapper; first | (rw [if_pos (by decide +kernel)]; kernel_rfl) | (rw [if_neg (by decide +kernel)]; exact ⟨rfl, rfl⟩))
    (fun os started H enc _ => lifted os started H enc)

theorem proved : Rows.PackerKeepsSaid := over
#print axioms proved
end Go.Proofs.Ytalghcgedmcifaa.packerKeeps

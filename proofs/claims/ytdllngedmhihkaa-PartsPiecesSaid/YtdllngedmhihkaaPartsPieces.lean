/- The law PartsPieces holds: the walk, then the lift to the given statement. No condition. -/
import Derived.Test.YtdllngedmhihkaaV
import Derived.WalkKit
import Derived.ProofKit
import Derived.OpenShut
import Derived.Lib.Hide
import Derived.ChangeOld
import Derived.Below
import Derived.SizedLaws
namespace Go.Proofs.Ytdllngedmhihkaa.partsPieces
open Go.ChangeShapes Go.WideShapes Go.ChangeAt Go.RowKit
set_option linter.unusedVariables false
theorem own : ownKnob Try.prog.godebug = none := by kernel_rfl
theorem laidOut : laidOutB Try.prog = true := by kernel_rfl

theorem ok_of {ap ct most : Int} {n : Nat} (h : ¬ badB ap ct most n) : okB ap ct = true ∧ 0 < n ∧ ∃ m : Nat, most = (m : Int) ∧ 1 ≤ m ∧ m ≤ 4090 := by
  have h1 : okB ap ct = true := by
    cases e : okB ap ct
    · exact absurd (.inl e) h
    · rfl
  have h2 : ¬ most < 1 := fun e => h (.inr (.inl e))
  have h3 : ¬ 4090 < most := fun e => h (.inr (.inr (.inl e)))
  have h4 : n ≠ 0 := fun e => h (.inr (.inr (.inr e)))
  exact ⟨h1, by omega, most.toNat, by omega, by omega, by omega⟩
theorem pcs_le {l : List UInt8} {m : Nat} (h1 : l.length ≤ 4000) (h2 : 1 ≤ m) : pcs l m ≤ 8000 := by
  have h3 : l.length + m - 1 ≤ m * 8000 := by
    have : m * 8000 = m * 4000 + m * 4000 := by omega
    omega
  exact Nat.div_le_of_le_mul h3
theorem bytes_app (a b c : List UInt8) (h : a ++ b = c) : Value.string ((⟨a.toArray⟩ : ByteArray) ++ ⟨b.toArray⟩) = .string ⟨c.toArray⟩ := by
  congr 1
  apply ByteArray.ext
  rw [ByteArray.data_append, ← h]
  simp
set_option maxRecDepth 20000 in
set_option maxHeartbeats 4000000 in
theorem walk {H : Type} {enc : TypeId × Value → H} (v0 v1 : Value) (a2 : Int) (w : World) {b0 : Nat} {d0 : DataW H} {p0 : List MemPlace} (ok0 : Value.okWide Try.prog w .any b0 24 v0) (tr0 : DataW.Trod enc Try.prog w 0 (fun _ => true) true 24 v0 d0 p0)
    {b1 : Nat} {d1 : DataW H} {p1 : List MemPlace} (ok1 : Value.okWide Try.prog w .any b1 22 v1) (tr1 : DataW.Trod enc Try.prog w 0 (fun _ => true) true 22 v1 d1 p1) (w2 : (Lit.int .i64 a2).wf = true) :
    Calls Try.prog 6 #[v0, v1, .int .i64 a2] w fun e w' => e = .returned (.bool true) ∧ Below w.heap.size w w' := by
  obtain ⟨p, pa, pc, rfl, -⟩ := arg_packet ok0 tr0
  obtain ⟨a, cap, l, rfl, hl, hm, hb⟩ := arg_bytes Try.underlying22 Try.underlying5 (by kernel_rfl) ok1 tr1
  clear ok0 tr0 ok1 tr1 w2
  unfold maxLen at hm
  have HB := Lib.hid hb
  clear hb
  by_cases hn1 : l.length ≤ 2000
  · have hn' : ¬ (2000 : Int) < l.length := by omega
    have hn3 : l.length ≤ 4000 := by omega
    by_cases hbad : badB p.ap p.ct a2 l.length
    · have HBAD := Lib.hid hbad
      clear hbad
      unfold PK.val Pk
      by_cases c1 : l.length = 0
      · have d1 : ((l.length : Int) == 0) = true := by rw [c1]; rfl
        have C1 := Lib.hid c1
        clear c1
        go_enter Try.func6, Try.ntmps6
        go_wp2_with fail
        refine (split_err p.cm p.sc p.ap p.fl p.ct pa _ pc a l.length cap a2 _ (by omega) HBAD.out).mono ?_
        rintro e w1 ⟨rfl, hB1⟩
        have x0 := hB1.cell (p := ⟨w.heap.size, 0, none⟩) (by simp)
        have x1 := hB1.cell (p := ⟨w.heap.size, 1, none⟩) (by simp)
        have x2 := hB1.cell (p := ⟨w.heap.size, 2, none⟩) (by simp)
        have x3 := hB1.cell (p := ⟨w.heap.size, 3, none⟩) (by simp)
        have x4 := hB1.cell (p := ⟨w.heap.size, 4, none⟩) (by simp)
        have x5 := hB1.cell (p := ⟨w.heap.size, 5, none⟩) (by simp)
        simp [go_sem] at x0 x1 x2 x3 x4 x5
        have hs := hB1.size
        simp at hs
        have S1 := Lib.hid ((al (Below.refl _ _) _).trans (hB1.mono (by simp)))
        clear hB1
        go_wp2_with fail
        refine (alive_any _).mono ?_
        rintro e w3 ⟨rfl, hB3⟩
        go_wp2_with fail
        go_ret
        exact ⟨rfl, below2 S1.out hB3⟩
      · have d1 : ((l.length : Int) == 0) = false := by rw [beq_eq_false_iff_ne]; omega
        by_cases c2 : a2 < 1
        · go_enter Try.func6, Try.ntmps6
          go_wp2_with fail
          refine (split_err p.cm p.sc p.ap p.fl p.ct pa _ pc a l.length cap a2 _ (by omega) HBAD.out).mono ?_
          rintro e w1 ⟨rfl, hB1⟩
          have x0 := hB1.cell (p := ⟨w.heap.size, 0, none⟩) (by simp)
          have x1 := hB1.cell (p := ⟨w.heap.size, 1, none⟩) (by simp)
          have x2 := hB1.cell (p := ⟨w.heap.size, 2, none⟩) (by simp)
          have x3 := hB1.cell (p := ⟨w.heap.size, 3, none⟩) (by simp)
          have x4 := hB1.cell (p := ⟨w.heap.size, 4, none⟩) (by simp)
          have x5 := hB1.cell (p := ⟨w.heap.size, 5, none⟩) (by simp)
          simp [go_sem] at x0 x1 x2 x3 x4 x5
          have hs := hB1.size
          simp at hs
          have S1 := Lib.hid ((al (Below.refl _ _) _).trans (hB1.mono (by simp)))
          clear hB1
          go_wp2_with fail
          refine (alive_any _).mono ?_
          rintro e w3 ⟨rfl, hB3⟩
          go_wp2_with fail
          go_ret
          exact ⟨rfl, below2 S1.out hB3⟩
        · skip
          by_cases c3 : 4090 < a2
          · go_enter Try.func6, Try.ntmps6
            go_wp2_with fail
            refine (split_err p.cm p.sc p.ap p.fl p.ct pa _ pc a l.length cap a2 _ (by omega) HBAD.out).mono ?_
            rintro e w1 ⟨rfl, hB1⟩
            have x0 := hB1.cell (p := ⟨w.heap.size, 0, none⟩) (by simp)
            have x1 := hB1.cell (p := ⟨w.heap.size, 1, none⟩) (by simp)
            have x2 := hB1.cell (p := ⟨w.heap.size, 2, none⟩) (by simp)
            have x3 := hB1.cell (p := ⟨w.heap.size, 3, none⟩) (by simp)
            have x4 := hB1.cell (p := ⟨w.heap.size, 4, none⟩) (by simp)
            have x5 := hB1.cell (p := ⟨w.heap.size, 5, none⟩) (by simp)
            simp [go_sem] at x0 x1 x2 x3 x4 x5
            have hs := hB1.size
            simp at hs
            have S1 := Lib.hid ((al (Below.refl _ _) _).trans (hB1.mono (by simp)))
            clear hB1
            go_wp2_with fail
            refine (alive_any _).mono ?_
            rintro e w3 ⟨rfl, hB3⟩
            go_wp2_with fail
            go_ret
            exact ⟨rfl, below2 S1.out hB3⟩
          · skip
            by_cases c4 : p.ap < 0
            · go_enter Try.func6, Try.ntmps6
              go_wp2_with fail
              refine (split_err p.cm p.sc p.ap p.fl p.ct pa _ pc a l.length cap a2 _ (by omega) HBAD.out).mono ?_
              rintro e w1 ⟨rfl, hB1⟩
              have x0 := hB1.cell (p := ⟨w.heap.size, 0, none⟩) (by simp)
              have x1 := hB1.cell (p := ⟨w.heap.size, 1, none⟩) (by simp)
              have x2 := hB1.cell (p := ⟨w.heap.size, 2, none⟩) (by simp)
              have x3 := hB1.cell (p := ⟨w.heap.size, 3, none⟩) (by simp)
              have x4 := hB1.cell (p := ⟨w.heap.size, 4, none⟩) (by simp)
              have x5 := hB1.cell (p := ⟨w.heap.size, 5, none⟩) (by simp)
              simp [go_sem] at x0 x1 x2 x3 x4 x5
              have hs := hB1.size
              simp at hs
              have S1 := Lib.hid ((al (Below.refl _ _) _).trans (hB1.mono (by simp)))
              clear hB1
              go_wp2_with fail
              refine (alive_any _).mono ?_
              rintro e w3 ⟨rfl, hB3⟩
              go_wp2_with fail
              go_ret
              exact ⟨rfl, below2 S1.out hB3⟩
            · skip
              by_cases c5 : 2046 < p.ap
              · go_enter Try.func6, Try.ntmps6
                go_wp2_with fail
                refine (split_err p.cm p.sc p.ap p.fl p.ct pa _ pc a l.length cap a2 _ (by omega) HBAD.out).mono ?_
                rintro e w1 ⟨rfl, hB1⟩
                have x0 := hB1.cell (p := ⟨w.heap.size, 0, none⟩) (by simp)
                have x1 := hB1.cell (p := ⟨w.heap.size, 1, none⟩) (by simp)
                have x2 := hB1.cell (p := ⟨w.heap.size, 2, none⟩) (by simp)
                have x3 := hB1.cell (p := ⟨w.heap.size, 3, none⟩) (by simp)
                have x4 := hB1.cell (p := ⟨w.heap.size, 4, none⟩) (by simp)
                have x5 := hB1.cell (p := ⟨w.heap.size, 5, none⟩) (by simp)
                simp [go_sem] at x0 x1 x2 x3 x4 x5
                have hs := hB1.size
                simp at hs
                have S1 := Lib.hid ((al (Below.refl _ _) _).trans (hB1.mono (by simp)))
                clear hB1
                go_wp2_with fail
                refine (alive_any _).mono ?_
                rintro e w3 ⟨rfl, hB3⟩
                go_wp2_with fail
                go_ret
                exact ⟨rfl, below2 S1.out hB3⟩
              · skip
                by_cases c6 : p.ct < 0
                · go_enter Try.func6, Try.ntmps6
                  go_wp2_with fail
                  refine (split_err p.cm p.sc p.ap p.fl p.ct pa _ pc a l.length cap a2 _ (by omega) HBAD.out).mono ?_
                  rintro e w1 ⟨rfl, hB1⟩
                  have x0 := hB1.cell (p := ⟨w.heap.size, 0, none⟩) (by simp)
                  have x1 := hB1.cell (p := ⟨w.heap.size, 1, none⟩) (by simp)
                  have x2 := hB1.cell (p := ⟨w.heap.size, 2, none⟩) (by simp)
                  have x3 := hB1.cell (p := ⟨w.heap.size, 3, none⟩) (by simp)
                  have x4 := hB1.cell (p := ⟨w.heap.size, 4, none⟩) (by simp)
                  have x5 := hB1.cell (p := ⟨w.heap.size, 5, none⟩) (by simp)
                  simp [go_sem] at x0 x1 x2 x3 x4 x5
                  have hs := hB1.size
                  simp at hs
                  have S1 := Lib.hid ((al (Below.refl _ _) _).trans (hB1.mono (by simp)))
                  clear hB1
                  go_wp2_with fail
                  refine (alive_any _).mono ?_
                  rintro e w3 ⟨rfl, hB3⟩
                  go_wp2_with fail
                  go_ret
                  exact ⟨rfl, below2 S1.out hB3⟩
                · skip
                  have c7 : 16383 < p.ct := by
                    by_cases h7 : 16383 < p.ct
                    · exact h7
                    · exfalso
                      rcases HBAD.out with h | h | h | h
                      · have : okB p.ap p.ct = true := by simp [okB, cntB]; omega
                        rw [this] at h; cases h
                      all_goals omega
                  go_enter Try.func6, Try.ntmps6
                  go_wp2_with fail
                  refine (split_err p.cm p.sc p.ap p.fl p.ct pa _ pc a l.length cap a2 _ (by omega) HBAD.out).mono ?_
                  rintro e w1 ⟨rfl, hB1⟩
                  have x0 := hB1.cell (p := ⟨w.heap.size, 0, none⟩) (by simp)
                  have x1 := hB1.cell (p := ⟨w.heap.size, 1, none⟩) (by simp)
                  have x2 := hB1.cell (p := ⟨w.heap.size, 2, none⟩) (by simp)
                  have x3 := hB1.cell (p := ⟨w.heap.size, 3, none⟩) (by simp)
                  have x4 := hB1.cell (p := ⟨w.heap.size, 4, none⟩) (by simp)
                  have x5 := hB1.cell (p := ⟨w.heap.size, 5, none⟩) (by simp)
                  simp [go_sem] at x0 x1 x2 x3 x4 x5
                  have hs := hB1.size
                  simp at hs
                  have S1 := Lib.hid ((al (Below.refl _ _) _).trans (hB1.mono (by simp)))
                  clear hB1
                  go_wp2_with fail
                  refine (alive_any _).mono ?_
                  rintro e w3 ⟨rfl, hB3⟩
                  go_wp2_with fail
                  go_ret
                  exact ⟨rfl, below2 S1.out hB3⟩
    · obtain ⟨hk, hl0, m, rfl, hm1, hm2⟩ := ok_of hbad
      have hne : l ≠ [] := List.length_pos_iff.1 hl0
      have HNE := Lib.hid hne
      have hN1 := pcs_pos hne hm1
      have hN2 := pcs_le hn3 hm1
      have hct : 0 ≤ p.ct ∧ p.ct < 16384 := by have := okB_cnt hk; simpa [cntB] using this
      obtain ⟨hct0, hct1⟩ := hct
      clear hbad hne
      unfold PK.val Pk
      go_enter Try.func6, Try.ntmps6
      go_wp2_with fail
      refine (split_ok p pa pc a l cap m _ HNE.out hn3 hl (by unfold maxLen; omega) (HB.out.below (al (Below.refl _ _) _) (Nat.le_refl _)) hk hm1 hm2).mono ?_
      rintro e w1 ⟨v, rfl, hP, hB1⟩
      have HX := Lib.hid ((Blk.new w 24 [.bool p.cm, .bool p.sc, .int .i64 p.ap, .int .i64 p.fl, .int .i64 p.ct, .slice pa p.dat.length pc]).below hB1 (Nat.le_refl _))
      have S1 := Lib.hid ((al (Below.refl _ _) _).trans (hB1.mono (by simp)))
      have HP := Lib.hid hP
      obtain ⟨-, a1, c1, rfl, hc1, -⟩ := hP
      have HSL := splitL_length p l m
      rw [HSL] at hc1 ⊢
      clear hB1 HSL
      go_wp2_with fail
      go_loopw [9, 10] (fun s i wr => ∃ k : Nat, k ≤ pcs l m ∧ i = .int .i64 k ∧ s = .string ⟨(l.take (k * m)).toArray⟩ ∧ Below w1.heap.size w1 wr) (fun _ i _ => pcs l m - (intOf i).toNat)
      case atStart => exact ⟨0, by omega, rfl, by simp, Below.refl _ _⟩
      case round =>
        obtain ⟨i, hk2, rfl, rfl, hBr⟩ := hrel
        by_cases hlt : i < pcs l m
        · have hP := HP.out.same (Same.below hBr (Nat.le_refl _))
          obtain ⟨-, aa, ac, e1, -, hPc⟩ := hP
          have hlt2 : i < (splitL p l m).length := by rw [splitL_length]; exact hlt
          obtain ⟨g1, o1, rfl, hP1⟩ := hPc.resolve_left (by intro h; rw [h] at hlt2; simp at hlt2)
          obtain ⟨rfl, -, rfl⟩ := Value.slice.inj e1
          obtain ⟨y1, t1, z1⟩ := (hP1 i hlt2).pa
          rw [splitL_get] at z1
          obtain ⟨q, hq⟩ : ∃ q, q = (pieceOf p l m (pcs l m) i).dat := ⟨_, rfl⟩
          obtain ⟨q0, q1, q2, q3, q4, q5⟩ := z1.walk
          replace q0 : wr.cell? ⟨g1, o1 + i * 6, none⟩ = some (.bool p.cm) := q0
          replace q1 : wr.cell? ⟨g1, o1 + i * 6 + 1, none⟩ = some (.bool p.sc) := q1
          replace q2 : wr.cell? ⟨g1, o1 + i * 6 + 2, none⟩ = some (.int .i64 p.ap) := q2
          replace q4 : wr.cell? ⟨g1, o1 + i * 6 + 4, none⟩ = some (.int .i64 ((p.ct + (i : Int)) % 16384)) := q4
          replace q3 : wr.cell? ⟨g1, o1 + i * 6 + 3, none⟩ = some (.int .i64 (flagZ i (pcs l m))) := q3
          rw [← hq] at q5
          have hql : q.length = min m (l.length - i * m) := by rw [hq]; exact piece_len l m i
          have hqt : l.take (i * m) ++ q = l.take ((i + 1) * m) := by rw [hq]; exact take_step l m i
          have hpl := pcs_lt (l := l) hm1 hlt
          have hq1 : 1 ≤ q.length := by omega
          have hq2 : q.length ≤ m := by omega
          have hq3 : i + 1 < pcs l m → q.length = m := fun h => by
            have := pcs_lt (l := l) hm1 h
            rw [Nat.add_mul, Nat.one_mul] at this
            omega
          have hbq : BAt wr y1 q := by rw [hq]; exact z1.2.2.1
          have HQT := Lib.hid hqt
          have hg1 := Nat.lt_of_lt_of_le z1.1 hBr.size
          have hX := HX.out.below hBr (Nat.le_refl _)
          have x0 := hX.at 0 rfl
          have x1 := hX.at 1 rfl
          have x2 := hX.at 2 rfl
          have x4 := hX.at 4 rfl
          have hxl := hX.lt
          have hcv : ∀ X : Obj, (convert 22 9 (.slice y1 q.length t1)).run Try.prog (wr.alloc X) = .ok (.string ⟨q.toArray⟩) (wr.alloc X) := fun X => (hbq.below (al (Below.refl _ _) X) (Nat.le_refl _)).str 22 9 5 t1 Try.underlying22 Try.underlying5 Try.underlying9
          have HBR := Lib.hid hBr
          have hdec : (q.length = m ∨ i + 1 = pcs l m) := by
            rcases Nat.lt_or_ge (i + 1) (pcs l m) with h | h
            · exact .inl (hq3 h)
            · exact .inr (by omega)
          clear e1 hP1 hPc z1 hlt2 hql hqt hpl hq3 hq hbq hX hBr
          have hki : (0 : Int) ≤ (i : Int) := by omega
          have hki2 : (i : Int) < (pcs l m : Int) := by omega
          have b1 : (p.ap != p.ap) = false := by simp
          have b2 : ((p.ct + (i : Int)) % 16384 != (p.ct + (i : Int)) % 16384) = false := by simp
          rcases hdec with hdec | hdec
          · have hd1 : ¬ (q.length : Int) < (m : Int) := by omega
            have hd2 : ¬ (m : Int) < (q.length : Int) := by omega
            have HD := Lib.hid hdec
            clear hdec
            go_wp2_with fail
            go_roundw
            case rel => exact ⟨i + 1, by omega, by go_num, bytes_app _ _ _ HQT.out, (HBR.out.alloc HBR.out.size _)⟩
            case measure => simp [intOf]; omega
          · have hd1 : ¬ (i : Int) < (pcs l m : Int) - 1 := by omega
            have hd2 : ¬ (m : Int) < (q.length : Int) := by omega
            have HD := Lib.hid hdec
            clear hdec
            go_wp2_with fail
            all_goals
              go_roundw
              case rel => exact ⟨i + 1, by omega, by go_num, bytes_app _ _ _ HQT.out, (HBR.out.alloc HBR.out.size _)⟩
              case measure => simp [intOf]; omega
        · have hlt' : ¬ (i : Int) < (pcs l m : Int) := by omega
          have hi : i = pcs l m := by omega
          have he : l.take (i * m) = l := List.take_of_length_le (by rw [hi]; exact pcs_ge hm1)
          rw [he]
          have HBR := Lib.hid hBr
          have hcv := (HB.out.below (S1.out.trans (hBr.mono S1.out.size)) (Nat.le_refl _)).str 22 9 5 cap Try.underlying22 Try.underlying5 Try.underlying9
          clear hi he hBr
          go_wp2_with fail
          refine (alive_any _).mono ?_
          rintro e w9 ⟨rfl, hB9⟩
          go_wp2_with fail
          go_ret
          exact ⟨rfl, below2 (S1.out.trans (HBR.out.mono S1.out.size)) hB9⟩
  · unfold PK.val Pk
    have hn' : (2000 : Int) < l.length := by omega
    go_enter Try.func6, Try.ntmps6
    go_wp2_with fail
    refine (alive_any _).mono ?_
    rintro e w2 ⟨rfl, hB2⟩
    go_wp2_with fail
    go_ret
    exact ⟨rfl, below2 (al (Below.refl _ _) _) hB2⟩


set_option maxRecDepth 100000 in
theorem lifted (os : Os) (started : os.Started) (H : Type) (enc : TypeId × Value → H) :
    ReturnsInHanded {} Try.checked os 6 .any (Rows.partsPiecesSpec.pre6 enc Try.prog Try.f6 Rows.partsPiecesRow.domain false) (Rows.partsPiecesSpec.post enc Try.prog Try.f6 false true false false) := by
  refine returnsInHanded_of_change (C := Try.checked) own started (by kernel_rfl) Try.func6
    (ChangeSpec.witness6 (enc := enc) (C := Try.checked) false ⟨#[], #[.agg #[.bool false, .bool false, .int .i64 0, .int .i64 0, .int .i64 0, .slice none 0 0], .slice none 0 0, .int .i64 0], []⟩ 8 (by kernel_rfl) (by kernel_rfl) (by kernel_rfl) (by kernel_rfl)) ?_
  intro W base args ds gs before hval0 hW hcnd _
  have hval : ∀ (j : Nat) t v, Try.f6.params[j]? = some t → args[j]? = some v → Value.okWide Try.prog W .any base t v := hval0
  have hW' := hW
  obtain ⟨p, q, hA0, hV, rfl, hfz, hnd⟩ := hW
  have hA : DataW.TrodAll enc Try.prog W 0 (fun _ => true) true Try.f6.params.toList args.toList ds p := hA0
  rw [Try.params6] at hA hval
  obtain ⟨v0, vs0, d0, ds0, p0, q0, hargs, rfl, rfl, h0, r0⟩ := trodAll_cons hA
  obtain ⟨v1, vs1, d1, ds1, p1, q1, rfl, rfl, rfl, h1, r1⟩ := trodAll_cons r0
  obtain ⟨v2, vs2, d2, ds2, p2, q2, rfl, rfl, rfl, h2, r2⟩ := trodAll_cons r1
  obtain ⟨rfl, rfl, rfl⟩ := trodAll_nil r2
  obtain rfl : args = #[v0, v1, v2] := by cases args; simp_all
  obtain ⟨rfl, rfl⟩ := trodVars_none hV
  have k0 := h0
  have lt0 : ∀ x ∈ p0, x.block < W.heap.size := by obtain ⟨m, hm⟩ := k0; exact DataW.trod_lt m _ _ _ hm
  have k1 := h1
  have lt1 : ∀ x ∈ p1, x.block < W.heap.size := by obtain ⟨m, hm⟩ := k1; exact DataW.trod_lt m _ _ _ hm
  obtain ⟨a2, rfl, rfl, rfl, w2⟩ := open_int Try.underlying3 (hval 2 3 v2 rfl rfl) h2
  clear hA0 hval0
  refine (walk v0 v1 a2 W (hval 0 24 v0 rfl rfl) k0 (hval 1 22 v1 rfl rfl) k1 w2).mono fun e W' ⟨he, bel⟩ => ?_
  subst he
  exact ⟨_, rfl, _, _, _, [], _, [], hW', trodAll_mk1 (shut_bool Try.underlying4 _), (trodAll_cons_mk (Below.trod laidOut (by kernel_rfl) (of_decide_eq_true (by kernel_rfl)) k0 bel lt0) (trodAll_cons_mk (Below.trod laidOut (by kernel_rfl) (of_decide_eq_true (by kernel_rfl)) k1 bel lt1) (trodAll_cons_mk (shut_int Try.underlying3 w2) trodAll_mk0))), rfl, bel.frame _, fun h => by cases h⟩

theorem over : Rows.partsPiecesRow.holds Try.pinned (OpenSpec.ofChange Rows.partsPiecesSpec) :=
  OpenClaim.holds_of_wide 6 Try.f6 rfl rfl rfl rfl rfl rfl rfl ⟨rfl, rfl, rfl, rfl, rfl⟩ rfl rfl rfl rfl rfl (by kernel_rfl) Try.func6 (by kernel_rfl)
    (of_decide_eq_true (by kernel_rfl)) (by unfold Func.isWrapper; first | (rw [if_pos (by decide +kernel)]; kernel_rfl) | (rw [if_neg (by decide +kernel)]; exact ⟨rfl, rfl⟩))
    (fun os started H enc _ => lifted os started H enc)

theorem proved : Rows.PartsPiecesSaid := over
#print axioms proved
end Go.Proofs.Ytdllngedmhihkaa.partsPieces

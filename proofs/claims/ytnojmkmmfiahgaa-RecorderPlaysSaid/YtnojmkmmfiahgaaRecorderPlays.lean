/- The law RecorderPlays holds: the walk, then the lift to the given statement. No condition. -/
import Derived.Test.YtnojmkmmfiahgaaMP
import Derived.WalkKit
import Derived.ProofKit
import Derived.OpenShut
import Derived.Lib.Hide
import Derived.ChangeOld
import Derived.Below
import Derived.SizedLaws
namespace Go.Proofs.Ytnojmkmmfiahgaa.recorderPlays
open Go.ChangeShapes Go.WideShapes Go.ChangeAt Go.RowKit
set_option linter.unusedVariables false
theorem own : ownKnob Try.prog.godebug = none := by kernel_rfl
theorem laidOut : laidOutB Try.prog = true := by kernel_rfl

set_option maxRecDepth 20000 in
set_option maxHeartbeats 8000000 in
theorem walk {H : Type} {enc : TypeId × Value → H} (v0 v1 : Value) (w : World) {b0 : Nat} {d0 : DataW H} {p0 : List MemPlace} (ok0 : Value.okWide Try.prog w .any b0 30 v0) (tr0 : DataW.Trod enc Try.prog w 0 (fun _ => true) true 30 v0 d0 p0) {b1 : Nat} {d1 : DataW H} {p1 : List MemPlace} (ok1 : Value.okWide Try.prog w .any b1 42 v1) (tr1 : DataW.Trod enc Try.prog w 0 (fun _ => true) true 42 v1 d1 p1) : Calls Try.prog 6 #[v0, v1] w fun e w' => e = .returned (.bool true) ∧ Below w.heap.size w w' := by
  obtain ⟨ds, aD, cD, rfl, hcD, hmD, hD⟩ := arg_defs ok0 tr0
  obtain ⟨l, aO, cO, rfl, hcO, hmO, hO⟩ := arg_ops ok1 tr1
  obtain ⟨nd, hnd⟩ : ∃ x, x = ds.length := ⟨_, rfl⟩
  obtain ⟨no, hno⟩ : ∃ x, x = l.length := ⟨_, rfl⟩
  rw [← hnd] at hcD ⊢
  rw [← hno] at hcO ⊢
  have HD := Lib.hid hD
  have HO := Lib.hid hO
  have HND := Lib.hid hnd.symm
  have HNO := Lib.hid hno.symm
  clear ok0 tr0 ok1 tr1 hD hO hnd hno
  by_cases h1 : 300 < nd
  · have e1 : (300 : Int) < (nd : Int) := by omega
    go_enter Try.func6, Try.ntmps6
    go_wp2_with fail
    refine (alive_any _).mono ?_
    rintro e w9 ⟨rfl, hB⟩
    have HB9 := Lib.hid hB
    clear hB
    go_wp2_with fail
    go_ret
    exact ⟨rfl, HB9.out⟩
  have e1 : ¬ (300 : Int) < (nd : Int) := by omega
  by_cases h2 : 80 < no
  · have e2 : (80 : Int) < (no : Int) := by omega
    go_enter Try.func6, Try.ntmps6
    go_wp2_with fail
    refine (alive_any _).mono ?_
    rintro e w9 ⟨rfl, hB⟩
    have HB9 := Lib.hid hB
    clear hB
    go_wp2_with fail
    go_ret
    exact ⟨rfl, HB9.out⟩
  have e2 : ¬ (80 : Int) < (no : Int) := by omega
  go_enter Try.func6, Try.ntmps6
  go_wp2_with fail
  refine (new_any HD.out HND.out hcD hmD).mono ?_
  rintro e w2 ⟨hq, hB2⟩
  have HB2 := Lib.hid hB2
  have HD2 := Lib.hid (HD.out.low hB2)
  clear hB2
  rcases hq with ⟨h5, rfl⟩ | ⟨h5, h6, rfl⟩ | ⟨h5, h6, b, vS, Y, rfl, hR⟩
  · have H5 := Lib.hid h5
    clear h5
    go_wp2_with fail
    refine (rnew_any HD2.out HND.out hcD hmD).mono ?_
    rintro e w3 ⟨hq, hB3⟩
    have HB3 := Lib.hid (HB2.out.trans (hB3.mono HB2.out.size))
    have H6 := Lib.hid hB3
    clear hB3
    rcases hq with ⟨g5, rfl⟩ | ⟨g5, g6, rfl⟩ | ⟨g5, g6, a, n, c, rfl, hV⟩
    · clear g5
      go_upto_region 5 with fail
      obtain ⟨w4, hw4⟩ : ∃ x, x = w3.alloc (.cells #[.int .i64 0, .slice none 0 0] 45) := ⟨_, rfl⟩
      have HB4 : Hid (Below w.heap.size w w4) := Lib.hid (by rw [hw4]; exact HB3.out.trans ((al (Below.refl _ _) _).mono HB3.out.size))
      rw [← hw4]
      clear hw4
      go_wp2_with fail
      refine (alive_any _).mono ?_
      rintro e w9 ⟨rfl, hB⟩
      have HB9 := Lib.hid (HB4.out.trans (hB.mono HB4.out.size))
      clear hB
      go_wp2_with fail
      go_ret
      exact ⟨rfl, HB9.out⟩
    · exact absurd H5.out (by omega)
    · exact absurd H5.out (by omega)
  · have H5 := Lib.hid h5
    have H7 := Lib.hid h6
    clear h5 h6
    go_wp2_with fail
    refine (rnew_any HD2.out HND.out hcD hmD).mono ?_
    rintro e w3 ⟨hq, hB3⟩
    have HB3 := Lib.hid (HB2.out.trans (hB3.mono HB2.out.size))
    clear hB3
    rcases hq with ⟨g5, rfl⟩ | ⟨g5, g6, rfl⟩ | ⟨g5, g6, a, n, c, rfl, hV⟩
    · exact absurd H5.out (by omega)
    · clear g5 g6
      go_upto_region 5 with fail
      obtain ⟨w4, hw4⟩ : ∃ x, x = w3.alloc (.cells #[.int .i64 0, .slice none 0 0] 45) := ⟨_, rfl⟩
      have HB4 : Hid (Below w.heap.size w w4) := Lib.hid (by rw [hw4]; exact HB3.out.trans ((al (Below.refl _ _) _).mono HB3.out.size))
      rw [← hw4]
      clear hw4
      go_wp2_with fail
      refine (alive_any _).mono ?_
      rintro e w9 ⟨rfl, hB⟩
      have HB9 := Lib.hid (HB4.out.trans (hB.mono HB4.out.size))
      clear hB
      go_wp2_with fail
      go_ret
      exact ⟨rfl, HB9.out⟩
    · obtain ⟨i, hi⟩ := H7.out
      exact absurd hi (g6 i)
  · have H5 := Lib.hid h5
    have H7 := Lib.hid h6
    have HR2 := Lib.hid hR
    clear h5 h6 hR
    go_wp2_with fail
    refine (rnew_any HD2.out HND.out hcD hmD).mono ?_
    rintro e w3 ⟨hq, hB3⟩
    have HB3 := Lib.hid (HB2.out.trans (hB3.mono HB2.out.size))
    have HR3 := Lib.hid (HR2.out.below hB3 (Nat.le_refl _))
    clear hB3
    rcases hq with ⟨g5, rfl⟩ | ⟨g5, g6, rfl⟩ | ⟨g5, g6, a, n, c, rfl, hV⟩
    · exact absurd H5.out (by omega)
    · obtain ⟨i, hi⟩ := g6
      exact absurd hi (H7.out i)
    · have HV3 := Lib.hid hV
      clear g5 g6 hV
      go_upto_region 5 with fail
      obtain ⟨bq, hbq⟩ : ∃ x, x = w3.heap.size := ⟨_, rfl⟩
      obtain ⟨w4, hw4⟩ : ∃ x, x = w3.alloc (.cells #[.int .i64 0, .slice a n c] 45) := ⟨_, rfl⟩
      have hB4 : Below w3.heap.size w3 w4 := by rw [hw4]; exact al (Below.refl _ _) _
      obtain ⟨st0, hst0⟩ : ∃ x : RS, x = ⟨0, ds.map Df.st⟩ := ⟨_, rfl⟩
      have HM0 : Hid (PM w w4 bq b st0 st0 vS Y a n c) := Lib.hid (by
        have hok : st0.Ok := by rw [hst0]; exact defs_ok H5.out H7.out
        have hr3 := HR3.out
        have hv3 := HV3.out
        rw [← hst0] at hr3 hv3
        exact ⟨hr3.below hB4 (Nat.le_refl _), hok, hok, hv3.low hB4, by rw [hw4, hbq, hst0]; exact Blk.new w3 45 _, by rw [hbq]; exact HB3.out.size, HB3.out.trans (hB4.mono HB3.out.size)⟩)
      have HF0 : Hid (Few 0 st0) := Lib.hid (by rw [hst0]; exact Few.zero _)
      rw [← hw4, ← hbq]
      clear hw4 hbq hB4 hst0 HR2 HR3 HV3 H5 H7 HB2 HB3 HD2
      go_wp2_with fail
      go_loopg [5, 9] (no + 1) (fun gk v5 v9 wr => ∃ (k b : Nat) (st : RS) (vS : Value) (Y : List SM) (a : Option Addr) (n c : Nat), k ≤ no ∧ no - k < gk ∧ v9 = .int .i64 (k : Int) ∧ v5 = .pointer (some ⟨b, 0, none⟩) ∧ Hid (PM w wr bq b st st vS Y a n c) ∧ Hid (Few k st))
      case atStart => exact ⟨0, b, st0, vS, Y, a, n, c, Nat.zero_le _, by omega, rfl, rfl, HM0, HF0⟩
      case round =>
        clear HM0 HF0
        obtain ⟨k, b, st, vS, Y, a, n, c, hk, hgk, rfl, rfl, HM, HFW⟩ := hrel
        by_cases hlt : k < no
        · obtain ⟨o, bO, oO, ax, cx, hlo, rfl, hbO, x0, x1, x2, x3, x4, hax, hcx, hmx⟩ := op_of HO.out HNO.out hlt
          obtain ⟨ml, hml⟩ : ∃ x, x = o.data.length := ⟨_, rfl⟩
          rw [← hml] at x4 hcx
          obtain ⟨ca, hca⟩ : ∃ x, x = o.call := ⟨_, rfl⟩
          obtain ⟨sid, hsid⟩ : ∃ x, x = o.store := ⟨_, rfl⟩
          obtain ⟨fr, hfr⟩ : ∃ x, x = o.frm := ⟨_, rfl⟩
          obtain ⟨ti, hti⟩ : ∃ x, x = o.till := ⟨_, rfl⟩
          obtain ⟨data, hdata⟩ : ∃ x, x = o.data := ⟨_, rfl⟩
          rw [← hca] at x0
          rw [← hsid] at x1
          rw [← hfr] at x2
          rw [← hti] at x3
          rw [← hdata] at hax hml
          have c0 := (HM.out.bel.cell (p := ⟨bO, _, none⟩) hbO).trans x0
          have c1 := (HM.out.bel.cell (p := ⟨bO, _, none⟩) hbO).trans x1
          have c2 := (HM.out.bel.cell (p := ⟨bO, _, none⟩) hbO).trans x2
          have c3 := (HM.out.bel.cell (p := ⟨bO, _, none⟩) hbO).trans x3
          have c4 := (HM.out.bel.cell (p := ⟨bO, _, none⟩) hbO).trans x4
          have HAX := Lib.hid hax
          have HML := Lib.hid hml.symm
          have e3 : (k : Int) < (no : Int) := by omega
          clear hlo x0 x1 x2 x3 x4 hax hml hca hsid hfr hti hdata
          go_upto_region 13 with fail
          obtain ⟨bx, hbx⟩ : ∃ x, x = wr.heap.size := ⟨_, rfl⟩
          obtain ⟨w6, hw6⟩ : ∃ x, x = wr.alloc (.cells #[.int .i64 ca, .int .i64 sid, .int .i64 fr, .int .i64 ti, .slice ax ml cx] 49) := ⟨_, rfl⟩
          have hB6 : Below wr.heap.size wr w6 := by rw [hw6]; exact al (Below.refl _ _) _
          have HX6 : Hid (Blk w6 bx 49 [.int .i64 ca, .int .i64 sid, .int .i64 fr, .int .i64 ti, .slice ax ml cx]) := Lib.hid (by rw [hw6, hbx]; exact Blk.new wr 49 _)
          have HM6 := Lib.hid (HM.out.below hB6)
          have HNX : Hid (bq ≠ bx) := Lib.hid (by have := HM.out.box.lt; omega)
          obtain ⟨sb, hsb⟩ : ∃ x : Bool, x = ((decide (200 < ml) && decide (ml ≤ 4096)) || decide (4200 < ml)) := ⟨_, rfl⟩
          have HSB := Lib.hid hsb
          rw [← hw6, ← hbx]
          clear hw6 hbx hB6 hsb c0 c1 c2 c3 c4
          have q0 := HX6.out.at 0 rfl
          have q1 := HX6.out.at 1 rfl
          have q2 := HX6.out.at 2 rfl
          have q3 := HX6.out.at 3 rfl
          have q4 := HX6.out.at 4 rfl
          have ql := HX6.out.lt
          go_cut [73] (fun v73 wx => v73 = .bool sb ∧ w6 = wx)
          case first =>
            by_cases g1 : 200 < ml
            · by_cases g2 : ml ≤ 4096
              · have p1 : (200 : Int) < (ml : Int) := by omega
                have p2 : (ml : Int) ≤ 4096 := by omega
                have HT : Hid (sb = true) := Lib.hid (by rw [HSB.out, decide_eq_true g1, decide_eq_true g2]; rfl)
                go_wp2_with fail
                go_meet
                exact ⟨congrArg Value.bool HT.out.symm, rfl⟩
              · by_cases g3 : 4200 < ml
                · have p1 : (200 : Int) < (ml : Int) := by omega
                  have p2 : ¬ (ml : Int) ≤ 4096 := by omega
                  have p3 : (4200 : Int) < (ml : Int) := by omega
                  have HT : Hid (sb = true) := Lib.hid (by rw [HSB.out, decide_eq_true g3, Bool.or_true])
                  go_wp2_with fail
                  go_meet
                  exact ⟨congrArg Value.bool HT.out.symm, rfl⟩
                · have p1 : (200 : Int) < (ml : Int) := by omega
                  have p2 : ¬ (ml : Int) ≤ 4096 := by omega
                  have p3 : ¬ (4200 : Int) < (ml : Int) := by omega
                  have HT : Hid (sb = false) := Lib.hid (by rw [HSB.out, decide_eq_false g2, decide_eq_false g3, Bool.and_false]; rfl)
                  go_wp2_with fail
                  go_meet
                  exact ⟨congrArg Value.bool HT.out.symm, rfl⟩
            · have p1 : ¬ (200 : Int) < (ml : Int) := by omega
              have p3 : ¬ (4200 : Int) < (ml : Int) := by omega
              have g3 : ¬ 4200 < ml := by omega
              have HT : Hid (sb = false) := Lib.hid (by rw [HSB.out, decide_eq_false g1, decide_eq_false g3]; rfl)
              go_wp2_with fail
              go_meet
              exact ⟨congrArg Value.bool HT.out.symm, rfl⟩
          case rest =>
            obtain ⟨rfl, rfl⟩ := hcut
            cases sb with
            | true =>
              have HB6 : Hid (Below w.heap.size w w6) := Lib.hid HM6.out.bel
              go_wp2_with fail
              refine (alive_any _).mono ?_
              rintro e w9 ⟨rfl, hB⟩
              have HB9 := Lib.hid (HB6.out.trans (hB.mono HB6.out.size))
              clear hB
              go_wp2_with fail
              go_ret
              exact ⟨rfl, HB9.out⟩
            | false =>
              have hml5 : ml ≤ 100000 := by
                have h9 := HSB.out.symm
                rw [Bool.or_eq_false_iff] at h9
                have := of_decide_eq_false h9.2
                omega
              go_upto_block 2 with fail
              go_cut [5, 11, 12] (fun v5 v11 v12 wx => ∃ (b' : Nat) (st' : RS) (er : Int) (vS' : Value) (Y' : List SM) (a' : Option Addr) (n' c' : Nat), v5 = .pointer (some ⟨b', 0, none⟩) ∧ v11 = .int .i64 er ∧ v12 = .int .i64 er ∧ Hid (PM w wx bq b' st' st' vS' Y' a' n' c') ∧ Hid (Few (k + 1) st') ∧ Hid (Blk wx bx 49 [.int .i64 ca, .int .i64 sid, .int .i64 fr, .int .i64 ti, .slice ax ml cx]))
              case first =>
                by_cases k1 : ca = 1
                · have f1 : (ca == 1) = true := by rw [k1]; rfl
                  clear k1
                  obtain ⟨st', er, hadd⟩ : ∃ st' er, st.add sid fr data = (st', er) := ⟨_, _, rfl⟩
                  have HADD := Lib.hid hadd
                  have HOK' : Hid st'.Ok := Lib.hid (by have h := RS.ok_add HM6.out.okp sid fr data; rwa [hadd] at h)
                  have HFW' : Hid (Few (k + 1) st') := Lib.hid (by have h := HFW.out.add sid fr data; rwa [hadd] at h)
                  clear hadd
                  go_wp2_with fail
                  refine (add_any (B := w.heap.size) sid fr HM6.out.at_ HM6.out.okp (AB.old HAX.out HM6.out.bel) HML.out hml5 (HFW.out.drop (by omega))).mono ?_
                  rw [HADD.out]
                  rintro e w7 ⟨rfl, hF7, Y7, h7⟩
                  dsimp only at h7 ⊢
                  have HM7 := Lib.hid (HM6.out.prog h7 HOK'.out hF7)
                  have HX7 := Lib.hid (HX6.out.rf hF7 (by decide))
                  clear h7 hF7 q0 q1 q2 q3 q4 ql
                  have z0 := HM7.out.box.at 0 rfl
                  have z1 := HM7.out.box.at 1 rfl
                  have zl := HM7.out.box.lt
                  have q1 := HX7.out.at 1 rfl
                  have q2 := HX7.out.at 2 rfl
                  have q3 := HX7.out.at 3 rfl
                  have q4 := HX7.out.at 4 rfl
                  have ql := HX7.out.lt
                  go_wp2_with fail
                  refine (rAdd_any sid fr HM7.out.ref HM7.out.okq (HAX.out.below HM7.out.bel (Nat.le_refl _)) HML.out hcx hmx hml5 (HFW.out.drop (by omega))).mono ?_
                  rw [HADD.out]
                  rintro e w8 ⟨a8, n8, c8, rfl, hv8, hB8⟩
                  dsimp only at hv8 ⊢
                  have HMN := Lib.hid (HM7.out.refr hB8 hv8 HOK'.out)
                  have HBQ8 := Lib.hid (HM7.out.box.below hB8 (Nat.le_refl _))
                  have HXN : Hid (Blk ((w8.setCell ⟨bq, 0, none⟩ (.int .i64 st'.now)).setCell ⟨bq, 1, none⟩ (.slice a8 n8 c8)) bx 49 [.int .i64 ca, .int .i64 sid, .int .i64 fr, .int .i64 ti, .slice ax ml cx]) := Lib.hid (((HX7.out.below hB8 (Nat.le_refl _)).setOther (p := ⟨bq, 0, none⟩) HNX.out _).setOther (p := ⟨bq, 1, none⟩) HNX.out _)
                  clear hB8 hv8 z0 z1 zl q1 q2 q3 q4 ql
                  have t0 := HBQ8.out.at 0 rfl
                  have t1 := HBQ8.out.at 1 rfl
                  have tf0 := HBQ8.out.free 0
                  have tf1 := HBQ8.out.free 1
                  have tl := HBQ8.out.lt
                  go_wp2_with fail
                  go_meet
                  exact ⟨b, st', er, vS, Y7, a8, n8, c8, rfl, rfl, rfl, HMN, HFW', HXN⟩
                by_cases k2 : ca = 2
                · have f1 : (ca == 1) = false := by rw [k2]; rfl
                  have f2 : (ca == 2) = true := by rw [k2]; rfl
                  clear k1 k2
                  obtain ⟨st', er, hadd⟩ : ∃ st' er, st.replay sid fr ti = (st', er) := ⟨_, _, rfl⟩
                  have HADD := Lib.hid hadd
                  have HOK' : Hid st'.Ok := Lib.hid (by have h := RS.ok_replay HM6.out.okp sid fr ti; rwa [hadd] at h)
                  have HFW' : Hid (Few (k + 1) st') := Lib.hid (by have h := (HFW.out.replay sid fr ti).mono (Nat.le_succ k); rwa [hadd] at h)
                  have HNW : Hid (st.now = st'.now) := Lib.hid (by have h := replay_now st sid fr ti; rw [hadd] at h; exact h.symm)
                  clear hadd
                  go_wp2_with fail
                  refine (replay_any (B := w.heap.size) sid fr ti HM6.out.at_ HM6.out.okp).mono ?_
                  rw [HADD.out]
                  rintro e w7 ⟨rfl, hF7, Y7, h7⟩
                  dsimp only at h7 ⊢
                  have HM7 := Lib.hid (HM6.out.prog h7 HOK'.out hF7)
                  have HX7 := Lib.hid (HX6.out.rf hF7 (by decide))
                  clear h7 hF7 q0 q1 q2 q3 q4 ql
                  have z0 := HM7.out.box.at 0 rfl
                  have z1 := HM7.out.box.at 1 rfl
                  have zl := HM7.out.box.lt
                  have q1 := HX7.out.at 1 rfl
                  have q2 := HX7.out.at 2 rfl
                  have q3 := HX7.out.at 3 rfl
                  have q4 := HX7.out.at 4 rfl
                  have ql := HX7.out.lt
                  go_wp2_with fail
                  refine (rReplay_any sid fr ti HM7.out.ref HM7.out.okq).mono ?_
                  rw [HADD.out, HNW.out]
                  rintro e w8 ⟨a8, n8, c8, rfl, hv8, hB8⟩
                  dsimp only at hv8 ⊢
                  have HMN := Lib.hid (HM7.out.refr hB8 hv8 HOK'.out)
                  have HBQ8 := Lib.hid (HM7.out.box.below hB8 (Nat.le_refl _))
                  have HXN : Hid (Blk ((w8.setCell ⟨bq, 0, none⟩ (.int .i64 st'.now)).setCell ⟨bq, 1, none⟩ (.slice a8 n8 c8)) bx 49 [.int .i64 ca, .int .i64 sid, .int .i64 fr, .int .i64 ti, .slice ax ml cx]) := Lib.hid (((HX7.out.below hB8 (Nat.le_refl _)).setOther (p := ⟨bq, 0, none⟩) HNX.out _).setOther (p := ⟨bq, 1, none⟩) HNX.out _)
                  clear hB8 hv8 z0 z1 zl q1 q2 q3 q4 ql
                  have t0 := HBQ8.out.at 0 rfl
                  have t1 := HBQ8.out.at 1 rfl
                  have tf0 := HBQ8.out.free 0
                  have tf1 := HBQ8.out.free 1
                  have tl := HBQ8.out.lt
                  go_wp2_with fail
                  go_meet
                  exact ⟨b, st', er, vS, Y7, a8, n8, c8, rfl, rfl, rfl, HMN, HFW', HXN⟩
                by_cases k4 : ca = 4
                · have f1 : (ca == 1) = false := by rw [k4]; rfl
                  have f2 : (ca == 2) = false := by rw [k4]; rfl
                  have f3 : (ca == 3) = false := by rw [k4]; rfl
                  have f4 : (ca == 4) = true := by rw [k4]; rfl
                  clear k1 k2 k4
                  obtain ⟨st', er, hadd⟩ : ∃ st' er, st.delete sid fr = (st', er) := ⟨_, _, rfl⟩
                  have HADD := Lib.hid hadd
                  have HOK' : Hid st'.Ok := Lib.hid (by have h := RS.ok_delete HM6.out.okp sid fr; rwa [hadd] at h)
                  have HFW' : Hid (Few (k + 1) st') := Lib.hid (by have h := (HFW.out.delete sid fr).mono (Nat.le_succ k); rwa [hadd] at h)
                  have HNW : Hid (st.now = st'.now) := Lib.hid (by have h := delete_now st sid fr; rw [hadd] at h; exact h.symm)
                  clear hadd
                  go_wp2_with fail
                  refine (delete_any (B := w.heap.size) sid fr HM6.out.at_ HM6.out.okp).mono ?_
                  rw [HADD.out]
                  rintro e w7 ⟨rfl, hF7, Y7, h7⟩
                  dsimp only at h7 ⊢
                  have HM7 := Lib.hid (HM6.out.prog h7 HOK'.out hF7)
                  have HX7 := Lib.hid (HX6.out.rf hF7 (by decide))
                  clear h7 hF7 q0 q1 q2 q3 q4 ql
                  have z0 := HM7.out.box.at 0 rfl
                  have z1 := HM7.out.box.at 1 rfl
                  have zl := HM7.out.box.lt
                  have q1 := HX7.out.at 1 rfl
                  have q2 := HX7.out.at 2 rfl
                  have q3 := HX7.out.at 3 rfl
                  have q4 := HX7.out.at 4 rfl
                  have ql := HX7.out.lt
                  go_wp2_with fail
                  refine (rDelete_any sid fr HM7.out.ref HM7.out.okq).mono ?_
                  rw [HADD.out, HNW.out]
                  rintro e w8 ⟨a8, n8, c8, rfl, hv8, hB8⟩
                  dsimp only at hv8 ⊢
                  have HMN := Lib.hid (HM7.out.refr hB8 hv8 HOK'.out)
                  have HBQ8 := Lib.hid (HM7.out.box.below hB8 (Nat.le_refl _))
                  have HXN : Hid (Blk ((w8.setCell ⟨bq, 0, none⟩ (.int .i64 st'.now)).setCell ⟨bq, 1, none⟩ (.slice a8 n8 c8)) bx 49 [.int .i64 ca, .int .i64 sid, .int .i64 fr, .int .i64 ti, .slice ax ml cx]) := Lib.hid (((HX7.out.below hB8 (Nat.le_refl _)).setOther (p := ⟨bq, 0, none⟩) HNX.out _).setOther (p := ⟨bq, 1, none⟩) HNX.out _)
                  clear hB8 hv8 z0 z1 zl q1 q2 q3 q4 ql
                  have t0 := HBQ8.out.at 0 rfl
                  have t1 := HBQ8.out.at 1 rfl
                  have tf0 := HBQ8.out.free 0
                  have tf1 := HBQ8.out.free 1
                  have tl := HBQ8.out.lt
                  go_wp2_with fail
                  go_meet
                  exact ⟨b, st', er, vS, Y7, a8, n8, c8, rfl, rfl, rfl, HMN, HFW', HXN⟩
                by_cases k5 : ca = 5
                · have f1 : (ca == 1) = false := by rw [k5]; rfl
                  have f2 : (ca == 2) = false := by rw [k5]; rfl
                  have f3 : (ca == 3) = false := by rw [k5]; rfl
                  have f4 : (ca == 4) = false := by rw [k5]; rfl
                  have f5 : (ca == 5) = true := by rw [k5]; rfl
                  clear k1 k2 k4 k5
                  have HLZ := Lib.hid (LoZ.of HM6.out.at_)
                  go_wp2_with fail
                  refine (clone_any HM6.out.at_ HM6.out.okp).mono ?_
                  rintro e w7 ⟨cb, vC, YC, rfl, hc7, hg7, hB7⟩
                  have HC7 := Lib.hid hc7
                  have HG7 := Lib.hid hg7
                  have HB7 := Lib.hid hB7
                  have HM7 := Lib.hid (HM6.out.below hB7)
                  have HX7 := Lib.hid (HX6.out.below hB7 (Nat.le_refl _))
                  clear hc7 hg7 hB7 q0 q1 q2 q3 q4 ql
                  have q1 := HX7.out.at 1 rfl
                  have ql := HX7.out.lt
                  go_wp2_with fail
                  refine (replay_z (Z := w6.heap.size) sid 0 1099511627776 HM7.out.at_ HM7.out.okp HLZ.out).mono ?_
                  rintro e w8 ⟨rfl, hz8, Y8, h8, hl8⟩
                  have HZ8 := Lib.hid hz8
                  have HR8 := Lib.hid h8
                  have HL8 := Lib.hid hl8
                  have HO8 := Lib.hid (RS.ok_replay HM7.out.okp sid 0 1099511627776)
                  have HX8 := Lib.hid (HX7.out.rz hz8 (by decide))
                  clear hz8 h8 hl8 q1 ql
                  have q1 := HX8.out.at 1 rfl
                  have ql := HX8.out.lt
                  go_wp2_with fail
                  refine (next_z HR8.out HO8.out HL8.out).mono ?_
                  rintro e w9 ⟨he, hz9, Y9, h9, hl9⟩
                  have HZ9 := Lib.hid hz9
                  have HR9 := Lib.hid h9
                  have HL9 := Lib.hid hl9
                  have HO9 := Lib.hid (RS.ok_next HO8.out)
                  have HX9 := Lib.hid (HX8.out.rz hz9 (by decide))
                  obtain ⟨v9, rfl⟩ : ∃ v, e = .returned v := by
                    revert he
                    cases (st.replay sid 0 1099511627776).1.next.2 with
                    | none => exact fun he => ⟨_, he⟩
                    | some l9 => exact fun ⟨v, he, _⟩ => ⟨_, he⟩
                  clear he hz9 h9 hl9 q1 ql
                  have q1 := HX9.out.at 1 rfl
                  have ql := HX9.out.lt
                  go_wp2_with fail
                  refine (delete_z (Z := w6.heap.size) sid 1099511627776 HR9.out HO9.out HL9.out).mono ?_
                  rintro e w10 ⟨rfl, hz10, Y10, h10⟩
                  have HMN := Lib.hid (HM6.out.clone HC7.out HG7.out HB7.out ((HZ8.out.trans HZ9.out).trans hz10))
                  have HXN := Lib.hid (HX9.out.rz hz10 (by decide))
                  clear hz10 h10 q1 ql
                  go_wp2_with fail
                  go_meet
                  exact ⟨cb, st, 0, vC, YC, a, n, c, rfl, rfl, rfl, HMN, Lib.hid (HFW.out.mono (Nat.le_succ k)), HXN⟩
                by_cases k3 : ca = 3
                · have f1 : (ca == 1) = false := by rw [k3]; rfl
                  have f2 : (ca == 2) = false := by rw [k3]; rfl
                  have f3 : (ca == 3) = true := by rw [k3]; rfl
                  clear k1 k2 k3 k4 k5
                  obtain ⟨st', ro, hadd⟩ : ∃ st' ro, st.next = (st', ro) := ⟨_, _, rfl⟩
                  have HADD := Lib.hid hadd
                  have HOK' : Hid st'.Ok := Lib.hid (by have h := RS.ok_next HM6.out.okp; rwa [hadd] at h)
                  have HFW' : Hid (Few (k + 1) st') := Lib.hid (by have h := HFW.out.next.mono (Nat.le_succ k); rwa [hadd] at h)
                  have HNW : Hid (st.now = st'.now) := Lib.hid (by have h := next_now st; rw [hadd] at h; exact h.symm)
                  clear hadd
                  cases ro with
                  | none =>
                    go_wp2_with fail
                    refine (next_any (B := w.heap.size) HM6.out.at_ HM6.out.okp).mono ?_
                    rw [HADD.out]
                    rintro e w7 ⟨he, hF7, Y7, h7⟩
                    obtain rfl : e = .returned (.tuple #[.slice none 0 0, .bool false]) := he
                    dsimp only at h7
                    have HM7 := Lib.hid (HM6.out.prog h7 HOK'.out hF7)
                    have HX7 := Lib.hid (HX6.out.rf hF7 (by decide))
                    clear h7 hF7 q0 q1 q2 q3 q4 ql
                    have z0 := HM7.out.box.at 0 rfl
                    have z1 := HM7.out.box.at 1 rfl
                    have zl := HM7.out.box.lt
                    have q1 := HX7.out.at 1 rfl
                    have q2 := HX7.out.at 2 rfl
                    have q3 := HX7.out.at 3 rfl
                    have q4 := HX7.out.at 4 rfl
                    have ql := HX7.out.lt
                    go_wp2_with fail
                    refine (rNext_any HM7.out.ref HM7.out.okq).mono ?_
                    rw [HADD.out, HNW.out]
                    rintro e w8 ⟨a8, n8, c8, he, hv8, hB8⟩
                    obtain rfl : e = .returned (.tuple #[.agg #[.int .i64 st'.now, .slice a8 n8 c8], .slice none 0 0, .bool false]) := he
                    dsimp only at hv8
                    go_upto_region 27 with fail
                    obtain ⟨bp, hbp⟩ : ∃ x, x = w8.heap.size := ⟨_, rfl⟩
                    obtain ⟨w9, hw9⟩ : ∃ x, x = w8.alloc (.cells #[.int .i64 st'.now, .slice a8 n8 c8] 45) := ⟨_, rfl⟩
                    have hB9 : Below w8.heap.size w8 w9 := by rw [hw9]; exact al (Below.refl _ _) _
                    have HK9 : Hid (Blk w9 bp 45 [.int .i64 st'.now, .slice a8 n8 c8]) := Lib.hid (by rw [hw9, hbp]; exact Blk.new w8 45 _)
                    have HB9 := Lib.hid hB9
                    have hB89 := hB8.trans (hB9.mono hB8.size)
                    have HMN0 := Lib.hid (HM7.out.refr hB89 (hv8.low hB9) HOK'.out)
                    have HBQ9 := Lib.hid (HM7.out.box.below hB89 (Nat.le_refl _))
                    have HXN0 : Hid (Blk ((w9.setCell ⟨bq, 0, none⟩ (.int .i64 st'.now)).setCell ⟨bq, 1, none⟩ (.slice a8 n8 c8)) bx 49 [.int .i64 ca, .int .i64 sid, .int .i64 fr, .int .i64 ti, .slice ax ml cx]) := Lib.hid (((HX7.out.below hB89 (Nat.le_refl _)).setOther (p := ⟨bq, 0, none⟩) HNX.out _).setOther (p := ⟨bq, 1, none⟩) HNX.out _)
                    rw [← hw9, ← hbp]
                    clear hB8 hv8 hB9 hB89 hw9 hbp z0 z1 zl q1 q2 q3 q4 ql
                    have z0 := HK9.out.at 0 rfl
                    have z1 := HK9.out.at 1 rfl
                    have zl := HK9.out.lt
                    have t0 := HBQ9.out.at 0 rfl
                    have t1 := HBQ9.out.at 1 rfl
                    have tf0 := HBQ9.out.free 0
                    have tf1 := HBQ9.out.free 1
                    have tl := HBQ9.out.lt
                    go_upto_region 28 with fail
                    obtain ⟨wn, hwn⟩ : ∃ x, x = (w9.setCell ⟨bq, 0, none⟩ (.int .i64 st'.now)).setCell ⟨bq, 1, none⟩ (.slice a8 n8 c8) := ⟨_, rfl⟩
                    have HMN : Hid (PM w wn bq b st' st' vS Y7 a8 n8 c8) := Lib.hid (by rw [hwn]; exact HMN0.out)
                    have HXN : Hid (Blk wn bx 49 [.int .i64 ca, .int .i64 sid, .int .i64 fr, .int .i64 ti, .slice ax ml cx]) := Lib.hid (by rw [hwn]; exact HXN0.out)
                    have HWN := Lib.hid hwn
                    rw [← hwn]
                    clear hwn z0 z1 zl t0 t1 tf0 tf1 tl
                    have cv1 : (convert 31 9 (.slice none 0 0)).run Try.prog wn = .ok (.string ⟨([] : List UInt8).toArray⟩) wn := str_n 0 0 rfl (.inl rfl)
                    go_wp2_with fail
                    go_meet
                    exact ⟨b, st', 0, vS, Y7, a8, n8, c8, rfl, rfl, rfl, HMN, HFW', HXN⟩
                  | some dt =>
                    obtain ⟨ln, hln⟩ : ∃ x, x = dt.length := ⟨_, rfl⟩
                    have HLN := Lib.hid hln.symm
                    clear hln
                    go_wp2_with fail
                    refine (next_any (B := w.heap.size) HM6.out.at_ HM6.out.okp).mono ?_
                    rw [HADD.out]
                    rintro e w7 ⟨⟨v7, rfl, hO7⟩, hF7, Y7, h7⟩
                    dsimp only at h7
                    obtain ⟨a7, m7, c7, rfl⟩ := own_slice hO7
                    have HO7 := Lib.hid hO7
                    clear hO7
                    have HM7 := Lib.hid (HM6.out.prog h7 HOK'.out hF7)
                    have HX7 := Lib.hid (HX6.out.rf hF7 (by decide))
                    clear h7 hF7 q0 q1 q2 q3 q4 ql
                    have z0 := HM7.out.box.at 0 rfl
                    have z1 := HM7.out.box.at 1 rfl
                    have zl := HM7.out.box.lt
                    have q1 := HX7.out.at 1 rfl
                    have q2 := HX7.out.at 2 rfl
                    have q3 := HX7.out.at 3 rfl
                    have q4 := HX7.out.at 4 rfl
                    have ql := HX7.out.lt
                    go_wp2_with fail
                    refine (rNext_any HM7.out.ref HM7.out.okq).mono ?_
                    rw [HADD.out, HNW.out]
                    rintro e w8 ⟨a8, n8, c8, ⟨ar9, cl, he, hbx⟩, hv8, hB8⟩
                    rw [HLN.out] at he
                    obtain rfl : e = .returned (.tuple #[.agg #[.int .i64 st'.now, .slice a8 n8 c8], .slice ar9 ln cl, .bool true]) := he
                    dsimp only at hv8
                    have HBX8 := Lib.hid hbx
                    have HO8 := Lib.hid (own_below HO7.out hB8 (Nat.le_refl _))
                    clear hbx
                    go_upto_region 27 with fail
                    obtain ⟨bp, hbp⟩ : ∃ x, x = w8.heap.size := ⟨_, rfl⟩
                    obtain ⟨w9, hw9⟩ : ∃ x, x = w8.alloc (.cells #[.int .i64 st'.now, .slice a8 n8 c8] 45) := ⟨_, rfl⟩
                    have hB9 : Below w8.heap.size w8 w9 := by rw [hw9]; exact al (Below.refl _ _) _
                    have HK9 : Hid (Blk w9 bp 45 [.int .i64 st'.now, .slice a8 n8 c8]) := Lib.hid (by rw [hw9, hbp]; exact Blk.new w8 45 _)
                    have HB9 := Lib.hid hB9
                    have hB89 := hB8.trans (hB9.mono hB8.size)
                    have HMN0 := Lib.hid (HM7.out.refr hB89 (hv8.low hB9) HOK'.out)
                    have HBQ9 := Lib.hid (HM7.out.box.below hB89 (Nat.le_refl _))
                    have HXN0 : Hid (Blk ((w9.setCell ⟨bq, 0, none⟩ (.int .i64 st'.now)).setCell ⟨bq, 1, none⟩ (.slice a8 n8 c8)) bx 49 [.int .i64 ca, .int .i64 sid, .int .i64 fr, .int .i64 ti, .slice ax ml cx]) := Lib.hid (((HX7.out.below hB89 (Nat.le_refl _)).setOther (p := ⟨bq, 0, none⟩) HNX.out _).setOther (p := ⟨bq, 1, none⟩) HNX.out _)
                    rw [← hw9, ← hbp]
                    clear hB8 hv8 hB9 hB89 hw9 hbp z0 z1 zl q1 q2 q3 q4 ql
                    have z0 := HK9.out.at 0 rfl
                    have z1 := HK9.out.at 1 rfl
                    have zl := HK9.out.lt
                    have t0 := HBQ9.out.at 0 rfl
                    have t1 := HBQ9.out.at 1 rfl
                    have tf0 := HBQ9.out.free 0
                    have tf1 := HBQ9.out.free 1
                    have tl := HBQ9.out.lt
                    go_upto_region 28 with fail
                    obtain ⟨wn, hwn⟩ : ∃ x, x = (w9.setCell ⟨bq, 0, none⟩ (.int .i64 st'.now)).setCell ⟨bq, 1, none⟩ (.slice a8 n8 c8) := ⟨_, rfl⟩
                    have HMN : Hid (PM w wn bq b st' st' vS Y7 a8 n8 c8) := Lib.hid (by rw [hwn]; exact HMN0.out)
                    have HXN : Hid (Blk wn bx 49 [.int .i64 ca, .int .i64 sid, .int .i64 fr, .int .i64 ti, .slice ax ml cx]) := Lib.hid (by rw [hwn]; exact HXN0.out)
                    have HWN := Lib.hid hwn
                    rw [← hwn]
                    clear hwn z0 z1 zl t0 t1 tf0 tf1 tl
                    have cv1 : (convert 31 9 (.slice a7 m7 c7)).run Try.prog wn = .ok (.string ⟨dt.toArray⟩) wn := own_str (own_box (own_below HO8.out HB9.out (Nat.le_refl _)) HBQ9.out HWN.out)
                    have cv2 : (convert 31 9 (.slice ar9 ln cl)).run Try.prog wn = .ok (.string ⟨dt.toArray⟩) wn := str_n ln cl HLN.out ((HBX8.out.x ((XF.of_below HB9.out).trans (by rw [HWN.out]; exact (XF.box HBQ9.out).trans (XF.box (HBQ9.out.setCell 0 _))))).bat)
                    go_wp2_with fail
                    go_meet
                    exact ⟨b, st', 0, vS, Y7, a8, n8, c8, rfl, rfl, rfl, HMN, HFW', HXN⟩
                have f1 : (ca == 1) = false := by simpa using k1
                have f2 : (ca == 2) = false := by simpa using k2
                have f3 : (ca == 3) = false := by simpa using k3
                have f4 : (ca == 4) = false := by simpa using k4
                have f5 : (ca == 5) = false := by simpa using k5
                clear k1 k2 k3 k4 k5
                go_wp2_with fail
                go_meet
                exact ⟨b, st, 0, vS, Y, a, n, c, rfl, rfl, rfl, HM6, Lib.hid (HFW.out.mono (Nat.le_succ k)), HX6⟩
              case rest =>
                clear HM6 HX6 HM HFW q0 q1 q2 q3 q4 ql
                obtain ⟨b', st', er, vS', Y', a', n', c', rfl, rfl, rfl, HMc0, HFc, HXc0⟩ := hcut
                obtain ⟨wv, hwv⟩ : ∃ x, x = wc := ⟨wc, rfl⟩
                subst hwv
                have HMc : Hid (PM w wv.drew bq b' st' st' vS' Y' a' n' c') := Lib.hid (HMc0.out.below (Quiet.below (w := wv) ⟨1, rfl⟩))
                have HXc : Hid (Blk wv.drew bx 49 [.int .i64 ca, .int .i64 sid, .int .i64 fr, .int .i64 ti, .slice ax ml cx]) := Lib.hid HXc0.out.drew
                have hYn : Y'.length ≤ 1000 := by rw [HMc0.out.at_.yl]; have := HMc0.out.okp.few; omega
                obtain ⟨lv, hlv⟩ : ∃ x, x = st'.level sid := ⟨_, rfl⟩
                obtain ⟨dv, hdv⟩ : ∃ x, x = st'.dropped sid := ⟨_, rfl⟩
                have HLV := Lib.hid hlv.symm
                have HDV := Lib.hid hdv.symm
                clear hlv hdv
                have s1 := HXc0.out.at 1 rfl
                have s2 := HMc0.out.box.at 0 rfl
                have s3 := HMc0.out.box.at 1 rfl
                have sx := HXc0.out.lt
                have sy := HMc0.out.box.lt
                go_upto_region 39 with fail
                refine wp_region_held_drew (S := (fun w' => w'.cell? ⟨bx, 1, none⟩ = some (.int .i64 sid) ∧ w'.cell? ⟨bq, 0, none⟩ = some (.int .i64 st'.now) ∧ w'.cell? ⟨bq, 1, none⟩ = some (.slice a' n' c'))) (by kernel_rfl) (by (try dsimp only); (first | exact ⟨by assumption, by assumption, by assumption⟩ | go_keep)) (fun hHeld => ?_)
                refine wpAnyH_take (i := 0) (oi := (Oper.mk (some 175) (Op.move (Operand.tmp 11)) 25 "law.go:76" #[] none)) (v := ?_) rfl (by kernel_rfl) (by kernel_rfl) (by kernel_rfl) (fun _ _ _ h => h) (Or.inl ⟨by rfl, ?_⟩) (by assumption) ?_
                rotate_left
                · (intro w hSw; (try dsimp only at hSw); go_simp; first | done | with_reducible rfl)
                (try simp only [Act.put, List.setIfInBounds_toArray, List.set_cons_zero, List.set_cons_succ])
                refine wpAnyH_take (i := 1) (oi := (Oper.mk (some 176) (Op.move (Operand.tmp 12)) 25 "law.go:76" #[] none)) (v := ?_) rfl (by kernel_rfl) (by kernel_rfl) (by kernel_rfl) (fun _ _ _ h => h) (Or.inl ⟨by rfl, ?_⟩) (by assumption) ?_
                rotate_left
                · (intro w hSw; (try dsimp only at hSw); go_simp; first | done | with_reducible rfl)
                (try simp only [Act.put, List.setIfInBounds_toArray, List.set_cons_zero, List.set_cons_succ])
                refine wpAnyH_take (i := 2) (oi := (Oper.mk (some 177) (Op.binOp BinOp.neq 25 (Operand.tmp 175) (Operand.tmp 176) 25) 4 "law.go:76" #[Edge.mk 0 Ground.data, Edge.mk 1 Ground.data] none)) (v := ?_) rfl (by kernel_rfl) (by kernel_rfl) (by kernel_rfl) (fun _ _ _ h => h) (Or.inl ⟨by rfl, ?_⟩) (by assumption) ?_
                rotate_left
                · (intro w hSw; (try dsimp only at hSw); go_simp; first | done | with_reducible rfl)
                (try simp only [Act.put, List.setIfInBounds_toArray, List.set_cons_zero, List.set_cons_succ])
                refine wpAnyH_take (i := 3) (oi := (Oper.mk (some 178) (Op.move (Operand.tmp 177)) 4 "law.go:76" #[Edge.mk 2 Ground.data] none)) (v := ?_) rfl (by kernel_rfl) (by kernel_rfl) (by kernel_rfl) (fun _ _ _ h => h) (Or.inl ⟨by rfl, ?_⟩) (by assumption) ?_
                rotate_left
                · (intro w hSw; (try dsimp only at hSw); go_simp; first | done | with_reducible rfl)
                (try simp only [Act.put, List.setIfInBounds_toArray, List.set_cons_zero, List.set_cons_succ])
                refine wpAnyH_take (i := 4) (oi := (Oper.mk (some 179) (Op.move (Operand.tmp 5)) 24 "law.go:76" #[Edge.mk 3 Ground.guard] (some (3, false)))) (v := ?_) rfl (by kernel_rfl) (by kernel_rfl) (by kernel_rfl) (fun _ _ _ h => h) (Or.inl ⟨by rfl, ?_⟩) (by assumption) ?_
                rotate_left
                · (intro w hSw; (try dsimp only at hSw); go_simp; first | done | with_reducible rfl)
                (try simp only [Act.put, List.setIfInBounds_toArray, List.set_cons_zero, List.set_cons_succ])
                refine wpAnyH_take (i := 5) (oi := (Oper.mk (some 180) (Op.fieldAddr 49 (Operand.tmp 10) 1) 0 "law.go:76" #[Edge.mk 3 Ground.guard] (some (3, false)))) (v := ?_) rfl (by kernel_rfl) (by kernel_rfl) (by kernel_rfl) (fun _ _ _ h => h) (Or.inl ⟨by rfl, ?_⟩) (by assumption) ?_
                rotate_left
                · (intro w hSw; (try dsimp only at hSw); go_simp; first | done | with_reducible rfl)
                (try simp only [Act.put, List.setIfInBounds_toArray, List.set_cons_zero, List.set_cons_succ])
                refine wpAnyH_take (i := 6) (oi := (Oper.mk (some 181) (Op.load 3 (Operand.tmp 180)) 3 "law.go:76" #[Edge.mk 5 Ground.data, Edge.mk 3 Ground.guard] (some (3, false)))) (v := ?_) rfl (by kernel_rfl) (by kernel_rfl) (by kernel_rfl) (fun _ _ _ h => h) (Or.inl ⟨by rfl, ?_⟩) (by assumption) ?_
                rotate_left
                · (intro w hSw; (try dsimp only at hSw); go_simp; first | done | with_reducible rfl)
                (try simp only [Act.put, List.setIfInBounds_toArray, List.set_cons_zero, List.set_cons_succ])
                refine wpAnyH_take (i := 8) (oi := (Oper.mk (some 183) (Op.load 45 (Operand.tmp 7)) 45 "law.go:76" #[Edge.mk 3 Ground.guard] (some (3, false)))) (v := ?_) rfl (by kernel_rfl) (by kernel_rfl) (by kernel_rfl) (fun _ _ _ h => h) (Or.inl ⟨by rfl, ?_⟩) (by assumption) ?_
                rotate_left
                · (intro w hSw; (try dsimp only at hSw); go_simp; first | done | with_reducible rfl)
                (try simp only [Act.put, List.setIfInBounds_toArray, List.set_cons_zero, List.set_cons_succ])
                refine wpAnyH_take (i := 9) (oi := (Oper.mk (some 184) (Op.fieldAddr 49 (Operand.tmp 10) 1) 0 "law.go:76" #[Edge.mk 3 Ground.guard] (some (3, false)))) (v := ?_) rfl (by kernel_rfl) (by kernel_rfl) (by kernel_rfl) (fun _ _ _ h => h) (Or.inl ⟨by rfl, ?_⟩) (by assumption) ?_
                rotate_left
                · (intro w hSw; (try dsimp only at hSw); go_simp; first | done | with_reducible rfl)
                (try simp only [Act.put, List.setIfInBounds_toArray, List.set_cons_zero, List.set_cons_succ])
                refine wpAnyH_take (i := 10) (oi := (Oper.mk (some 185) (Op.load 3 (Operand.tmp 184)) 3 "law.go:76" #[Edge.mk 9 Ground.data, Edge.mk 3 Ground.guard] (some (3, false)))) (v := ?_) rfl (by kernel_rfl) (by kernel_rfl) (by kernel_rfl) (fun _ _ _ h => h) (Or.inl ⟨by rfl, ?_⟩) (by assumption) ?_
                rotate_left
                · (intro w hSw; (try dsimp only at hSw); go_simp; first | done | with_reducible rfl)
                (try simp only [Act.put, List.setIfInBounds_toArray, List.set_cons_zero, List.set_cons_succ])
                refine wpAnyH_ready (rs := [7]) (by kernel_rfl) (by simp) ?_
                refine AllReadyH.cons (o := (Oper.mk (some 182) (Op.call (Call.mk (Callee.value (Operand.func 11)) #[Operand.tmp 179, Operand.tmp 181] #[24, 3])) 3 "law.go:76" #[Edge.mk 4 Ground.data, Edge.mk 6 Ground.data, Edge.mk 3 Ground.chain, Edge.mk 3 Ground.guard] (some (3, false)))) rfl (fun K hK => ?_) (AllReadyH.nil)
                go_simp
                (go_at_call 11; refine (level_any sid HMc.out.at_ hYn).mono ?_; rintro e w5 ⟨he, hB5⟩; rw [HLV.out] at he; subst he; have HMc := Lib.hid (HMc.out.below hB5); have HXc := Lib.hid (HXc.out.below hB5 (Nat.le_refl _)); have s1 := HXc.out.at 1 rfl; have s2 := HMc.out.box.at 0 rfl; have s3 := HMc.out.box.at 1 rfl; have sx := HXc.out.lt; have sy := HMc.out.box.lt; clear hB5)
                refine hK.out _ _ (by (try dsimp only); (first | exact ⟨by assumption, by assumption, by assumption⟩ | go_keep)) (fun hHeld => ?_)
                clear hK K
                (try simp only [Act.put, List.setIfInBounds_toArray, List.set_cons_zero, List.set_cons_succ])
                refine wpAnyH_ready (rs := [11]) (by kernel_rfl) (by simp) ?_
                refine AllReadyH.cons (o := (Oper.mk (some 186) (Op.call (Call.mk (Callee.value (Operand.func 22)) #[Operand.tmp 183, Operand.tmp 185] #[45, 3])) 3 "law.go:76" #[Edge.mk 8 Ground.data, Edge.mk 10 Ground.data, Edge.mk 7 Ground.chain, Edge.mk 3 Ground.guard] (some (3, false)))) rfl (fun K hK => ?_) (AllReadyH.nil)
                go_simp
                (go_at_call 22; refine (rLevel_any sid st'.now HMc.out.ref HMc.out.okq).mono ?_; rintro e w5 ⟨he, hB5⟩; rw [HLV.out] at he; subst he; have HMc := Lib.hid (HMc.out.below hB5); have HXc := Lib.hid (HXc.out.below hB5 (Nat.le_refl _)); have s1 := HXc.out.at 1 rfl; have s2 := HMc.out.box.at 0 rfl; have s3 := HMc.out.box.at 1 rfl; have sx := HXc.out.lt; have sy := HMc.out.box.lt; clear hB5)
                refine hK.out _ _ (by (try dsimp only); (first | exact ⟨by assumption, by assumption, by assumption⟩ | go_keep)) (fun hHeld => ?_)
                clear hK K
                (try simp only [Act.put, List.setIfInBounds_toArray, List.set_cons_zero, List.set_cons_succ])
                refine wpAnyH_take (i := 12) (oi := (Oper.mk (some 187) (Op.binOp BinOp.neq 3 (Operand.tmp 182) (Operand.tmp 186) 3) 4 "law.go:76" #[Edge.mk 7 Ground.data, Edge.mk 11 Ground.data, Edge.mk 3 Ground.guard] (some (3, false)))) (v := ?_) rfl (by kernel_rfl) (by kernel_rfl) (by kernel_rfl) (fun _ _ _ h => h) (Or.inl ⟨by rfl, ?_⟩) (by assumption) ?_
                rotate_left
                · (intro w hSw; (try dsimp only at hSw); go_simp; first | done | with_reducible rfl)
                (try simp only [Act.put, List.setIfInBounds_toArray, List.set_cons_zero, List.set_cons_succ])
                refine wpAnyH_take (i := 13) (oi := (Oper.mk (some 188) (Op.pick (Operand.tmp 178) (Operand.const (Value.bool true)) (Operand.tmp 187)) 4 "law.go:76" #[Edge.mk 3 Ground.data, Edge.mk 12 Ground.data] none)) (v := ?_) rfl (by kernel_rfl) (by kernel_rfl) (by kernel_rfl) (fun _ _ _ h => h) (Or.inl ⟨by rfl, ?_⟩) (by assumption) ?_
                rotate_left
                · (intro w hSw; (try dsimp only at hSw); go_simp; first | done | with_reducible rfl)
                (try simp only [Act.put, List.setIfInBounds_toArray, List.set_cons_zero, List.set_cons_succ])
                refine wpAnyH_take (i := 14) (oi := (Oper.mk (some 189) (Op.move (Operand.tmp 188)) 4 "law.go:76" #[Edge.mk 13 Ground.data, Edge.mk 11 Ground.chain] none)) (v := ?_) rfl (by kernel_rfl) (by kernel_rfl) (by kernel_rfl) (fun _ _ _ h => h) (Or.inl ⟨by rfl, ?_⟩) (by assumption) ?_
                rotate_left
                · (intro w hSw; (try dsimp only at hSw); go_simp; first | done | with_reducible rfl)
                (try simp only [Act.put, List.setIfInBounds_toArray, List.set_cons_zero, List.set_cons_succ])
                refine wpAnyH_take (i := 15) (oi := (Oper.mk (some 190) (Op.move (Operand.tmp 5)) 24 "law.go:76" #[Edge.mk 14 Ground.guard] (some (14, false)))) (v := ?_) rfl (by kernel_rfl) (by kernel_rfl) (by kernel_rfl) (fun _ _ _ h => h) (Or.inl ⟨by rfl, ?_⟩) (by assumption) ?_
                rotate_left
                · (intro w hSw; (try dsimp only at hSw); go_simp; first | done | with_reducible rfl)
                (try simp only [Act.put, List.setIfInBounds_toArray, List.set_cons_zero, List.set_cons_succ])
                refine wpAnyH_take (i := 16) (oi := (Oper.mk (some 191) (Op.fieldAddr 49 (Operand.tmp 10) 1) 0 "law.go:76" #[Edge.mk 14 Ground.guard] (some (14, false)))) (v := ?_) rfl (by kernel_rfl) (by kernel_rfl) (by kernel_rfl) (fun _ _ _ h => h) (Or.inl ⟨by rfl, ?_⟩) (by assumption) ?_
                rotate_left
                · (intro w hSw; (try dsimp only at hSw); go_simp; first | done | with_reducible rfl)
                (try simp only [Act.put, List.setIfInBounds_toArray, List.set_cons_zero, List.set_cons_succ])
                refine wpAnyH_take (i := 17) (oi := (Oper.mk (some 192) (Op.load 3 (Operand.tmp 191)) 3 "law.go:76" #[Edge.mk 16 Ground.data, Edge.mk 14 Ground.guard] (some (14, false)))) (v := ?_) rfl (by kernel_rfl) (by kernel_rfl) (by kernel_rfl) (fun _ _ _ h => h) (Or.inl ⟨by rfl, ?_⟩) (by assumption) ?_
                rotate_left
                · (intro w hSw; (try dsimp only at hSw); go_simp; first | done | with_reducible rfl)
                (try simp only [Act.put, List.setIfInBounds_toArray, List.set_cons_zero, List.set_cons_succ])
                refine wpAnyH_take (i := 19) (oi := (Oper.mk (some 194) (Op.load 45 (Operand.tmp 7)) 45 "law.go:76" #[Edge.mk 14 Ground.guard] (some (14, false)))) (v := ?_) rfl (by kernel_rfl) (by kernel_rfl) (by kernel_rfl) (fun _ _ _ h => h) (Or.inl ⟨by rfl, ?_⟩) (by assumption) ?_
                rotate_left
                · (intro w hSw; (try dsimp only at hSw); go_simp; first | done | with_reducible rfl)
                (try simp only [Act.put, List.setIfInBounds_toArray, List.set_cons_zero, List.set_cons_succ])
                refine wpAnyH_take (i := 20) (oi := (Oper.mk (some 195) (Op.fieldAddr 49 (Operand.tmp 10) 1) 0 "law.go:76" #[Edge.mk 14 Ground.guard] (some (14, false)))) (v := ?_) rfl (by kernel_rfl) (by kernel_rfl) (by kernel_rfl) (fun _ _ _ h => h) (Or.inl ⟨by rfl, ?_⟩) (by assumption) ?_
                rotate_left
                · (intro w hSw; (try dsimp only at hSw); go_simp; first | done | with_reducible rfl)
                (try simp only [Act.put, List.setIfInBounds_toArray, List.set_cons_zero, List.set_cons_succ])
                refine wpAnyH_take (i := 21) (oi := (Oper.mk (some 196) (Op.load 3 (Operand.tmp 195)) 3 "law.go:76" #[Edge.mk 20 Ground.data, Edge.mk 14 Ground.guard] (some (14, false)))) (v := ?_) rfl (by kernel_rfl) (by kernel_rfl) (by kernel_rfl) (fun _ _ _ h => h) (Or.inl ⟨by rfl, ?_⟩) (by assumption) ?_
                rotate_left
                · (intro w hSw; (try dsimp only at hSw); go_simp; first | done | with_reducible rfl)
                (try simp only [Act.put, List.setIfInBounds_toArray, List.set_cons_zero, List.set_cons_succ])
                refine wpAnyH_ready (rs := [18]) (by kernel_rfl) (by simp) ?_
                refine AllReadyH.cons (o := (Oper.mk (some 193) (Op.call (Call.mk (Callee.value (Operand.func 14)) #[Operand.tmp 190, Operand.tmp 192] #[24, 3])) 3 "law.go:76" #[Edge.mk 15 Ground.data, Edge.mk 17 Ground.data, Edge.mk 14 Ground.chain, Edge.mk 14 Ground.guard] (some (14, false)))) rfl (fun K hK => ?_) (AllReadyH.nil)
                go_simp
                (go_at_call 14; refine (dropped_any sid HMc.out.at_ hYn).mono ?_; rintro e w5 ⟨he, hB5⟩; rw [HDV.out] at he; subst he; have HMc := Lib.hid (HMc.out.below hB5); have HXc := Lib.hid (HXc.out.below hB5 (Nat.le_refl _)); have s1 := HXc.out.at 1 rfl; have s2 := HMc.out.box.at 0 rfl; have s3 := HMc.out.box.at 1 rfl; have sx := HXc.out.lt; have sy := HMc.out.box.lt; clear hB5)
                refine hK.out _ _ (by (try dsimp only); (first | exact ⟨by assumption, by assumption, by assumption⟩ | go_keep)) (fun hHeld => ?_)
                clear hK K
                (try simp only [Act.put, List.setIfInBounds_toArray, List.set_cons_zero, List.set_cons_succ])
                refine wpAnyH_ready (rs := [22]) (by kernel_rfl) (by simp) ?_
                refine AllReadyH.cons (o := (Oper.mk (some 197) (Op.call (Call.mk (Callee.value (Operand.func 23)) #[Operand.tmp 194, Operand.tmp 196] #[45, 3])) 3 "law.go:76" #[Edge.mk 19 Ground.data, Edge.mk 21 Ground.data, Edge.mk 18 Ground.chain, Edge.mk 14 Ground.guard] (some (14, false)))) rfl (fun K hK => ?_) (AllReadyH.nil)
                go_simp
                (go_at_call 23; refine (rDropped_any sid st'.now HMc.out.ref HMc.out.okq).mono ?_; rintro e w5 ⟨he, hB5⟩; rw [HDV.out] at he; subst he; have HMc := Lib.hid (HMc.out.below hB5); have HXc := Lib.hid (HXc.out.below hB5 (Nat.le_refl _)); have s1 := HXc.out.at 1 rfl; have s2 := HMc.out.box.at 0 rfl; have s3 := HMc.out.box.at 1 rfl; have sx := HXc.out.lt; have sy := HMc.out.box.lt; clear hB5)
                refine hK.out _ _ (by (try dsimp only); (first | exact ⟨by assumption, by assumption, by assumption⟩ | go_keep)) (fun hHeld => ?_)
                clear hK K
                (try simp only [Act.put, List.setIfInBounds_toArray, List.set_cons_zero, List.set_cons_succ])
                refine wpAnyH_take (i := 23) (oi := (Oper.mk (some 198) (Op.binOp BinOp.neq 3 (Operand.tmp 193) (Operand.tmp 197) 3) 4 "law.go:76" #[Edge.mk 18 Ground.data, Edge.mk 22 Ground.data, Edge.mk 14 Ground.guard] (some (14, false)))) (v := ?_) rfl (by kernel_rfl) (by kernel_rfl) (by kernel_rfl) (fun _ _ _ h => h) (Or.inl ⟨by rfl, ?_⟩) (by assumption) ?_
                rotate_left
                · (intro w hSw; (try dsimp only at hSw); go_simp; first | done | with_reducible rfl)
                (try simp only [Act.put, List.setIfInBounds_toArray, List.set_cons_zero, List.set_cons_succ])
                refine wpAnyH_take (i := 24) (oi := (Oper.mk (some 199) (Op.pick (Operand.tmp 189) (Operand.const (Value.bool true)) (Operand.tmp 198)) 4 "law.go:76" #[Edge.mk 14 Ground.data, Edge.mk 23 Ground.data] none)) (v := ?_) rfl (by kernel_rfl) (by kernel_rfl) (by kernel_rfl) (fun _ _ _ h => h) (Or.inl ⟨by rfl, ?_⟩) (by assumption) ?_
                rotate_left
                · (intro w hSw; (try dsimp only at hSw); go_simp; first | done | with_reducible rfl)
                (try simp only [Act.put, List.setIfInBounds_toArray, List.set_cons_zero, List.set_cons_succ])
                refine wpAnyH_done (by kernel_rfl) ?_ _
                all_goals
                  go_wp2_with fail
                  go_roundg (gk - 1)
                  case rel => exact ⟨k + 1, b', st', vS', Y', a', n', c', by omega, by omega, by go_num, rfl, HMc, HFc⟩
                  case measure => omega
        · have e3 : ¬ (k : Int) < (no : Int) := by omega
          have HB6 : Hid (Below w.heap.size w wr) := Lib.hid HM.out.bel
          go_wp2_with fail
          refine (alive_any _).mono ?_
          rintro e w9 ⟨rfl, hB⟩
          have HB9 := Lib.hid (HB6.out.trans (hB.mono HB6.out.size))
          clear hB
          go_wp2_with fail
          go_ret
          exact ⟨rfl, HB9.out⟩


set_option maxRecDepth 100000 in
theorem lifted (os : Os) (started : os.Started) (H : Type) (enc : TypeId × Value → H) :
    ReturnsInHanded {} Try.checked os 6 .any (Rows.recorderPlaysSpec.pre6 enc Try.prog Try.f6 Rows.recorderPlaysRow.domain false) (Rows.recorderPlaysSpec.post enc Try.prog Try.f6 false true false false) := by
  refine returnsInHanded_of_change (C := Try.checked) own started (by kernel_rfl) Try.func6
    (ChangeSpec.witness6 (enc := enc) (C := Try.checked) false ⟨#[], #[.slice none 0 0, .slice none 0 0], []⟩ 8 (by kernel_rfl) (by kernel_rfl) (by kernel_rfl) (by kernel_rfl)) ?_
  intro W base args ds gs before hval0 hW hcnd _
  have hval : ∀ (j : Nat) t v, Try.f6.params[j]? = some t → args[j]? = some v → Value.okWide Try.prog W .any base t v := hval0
  have hW' := hW
  obtain ⟨p, q, hA0, hV, rfl, hfz, hnd⟩ := hW
  have hA : DataW.TrodAll enc Try.prog W 0 (fun _ => true) true Try.f6.params.toList args.toList ds p := hA0
  rw [Try.params6] at hA hval
  obtain ⟨v0, vs0, d0, ds0, p0, q0, hargs, rfl, rfl, h0, r0⟩ := trodAll_cons hA
  obtain ⟨v1, vs1, d1, ds1, p1, q1, rfl, rfl, rfl, h1, r1⟩ := trodAll_cons r0
  obtain ⟨rfl, rfl, rfl⟩ := trodAll_nil r1
  obtain rfl : args = #[v0, v1] := by cases args; simp_all
  obtain ⟨rfl, rfl⟩ := trodVars_none hV
  have k0 := h0
  have lt0 : ∀ x ∈ p0, x.block < W.heap.size := by obtain ⟨m, hm⟩ := k0; exact DataW.trod_lt m _ _ _ hm
  have k1 := h1
  have lt1 : ∀ x ∈ p1, x.block < W.heap.size := by obtain ⟨m, hm⟩ := k1; exact DataW.trod_lt m _ _ _ hm
  clear hA0 hval0
  refine (walk v0 v1 W (hval 0 30 v0 rfl rfl) k0 (hval 1 42 v1 rfl rfl) k1).mono fun e W' ⟨he, bel⟩ => ?_
  subst he
  exact ⟨_, rfl, _, _, _, [], _, [], hW', trodAll_mk1 (shut_bool Try.underlying4 _), (trodAll_cons_mk (Below.trod laidOut (by kernel_rfl) (of_decide_eq_true (by kernel_rfl)) k0 bel lt0) (trodAll_cons_mk (Below.trod laidOut (by kernel_rfl) (of_decide_eq_true (by kernel_rfl)) k1 bel lt1) trodAll_mk0)), rfl, bel.frame _, fun h => by cases h⟩

theorem over : Rows.recorderPlaysRow.holds Try.pinned (OpenSpec.ofChange Rows.recorderPlaysSpec) :=
  OpenClaim.holds_of_wide 6 Try.f6 rfl rfl rfl rfl rfl rfl rfl ⟨rfl, rfl, rfl, rfl, rfl⟩ rfl rfl rfl rfl rfl (by kernel_rfl) Try.func6 (by kernel_rfl)
    (of_decide_eq_true (by kernel_rfl)) (by unfold Func.isWrapper; first | (rw [if_pos (by decide +kernel)]; kernel_rfl) | (rw [if_neg (by decide +kernel)]; exact ⟨rfl, rfl⟩))
    (fun os started H enc _ => lifted os started H enc)

theorem proved : Rows.RecorderPlaysSaid := over
#print axioms proved
end Go.Proofs.Ytnojmkmmfiahgaa.recorderPlays

/- The law PartsBack holds: the walk, then the lift to the given statement. No condition. -/
import Derived.Test.YtdllngedmhihkaaV
import Derived.WalkKit
import Derived.ProofKit
import Derived.OpenShut
import Derived.Lib.Hide
import Derived.ChangeOld
import Derived.Below
import Derived.SizedLaws
namespace Go.Proofs.Ytdllngedmhihkaa.partsBack
open Go.ChangeShapes Go.WideShapes Go.ChangeAt Go.RowKit
set_option linter.unusedVariables false
theorem own : ownKnob Try.prog.godebug = none := by kernel_rfl
theorem laidOut : laidOutB Try.prog = true := by kernel_rfl

theorem ok_of {ap ct most : Int} {n : Nat} (h : ¬ badB ap ct most n) : okB ap ct = true ∧ 0 < n ∧ ∃ m : Nat, most = (m : Int) ∧ 1 ≤ m ∧ m ≤ 4090 := by
  have h1 : okB ap ct = true := by
    cases e : okB ap ct
    · exact absurd (.inl e) h
    · rfl
  have h2 : ¬ most < 1 := fun e => h (.inr (.inl e))
  have h3 : ¬ 4090 < most := fun e => h (.inr (.inr (.inl e)))
  have h4 : n ≠ 0 := fun e => h (.inr (.inr (.inr e)))
  exact ⟨h1, by omega, most.toNat, by omega, by omega, by omega⟩
theorem pcs_le {l : List UInt8} {m : Nat} (h1 : l.length ≤ 4000) (h2 : 1 ≤ m) : pcs l m ≤ 8000 := by
  have h3 : l.length + m - 1 ≤ m * 8000 := by
    have : m * 8000 = m * 4000 + m * 4000 := by omega
    omega
  exact Nat.div_le_of_le_mul h3
/-- the Joiner of this law -/
def Held (wr : World) (jb : Nat) (L : Nat) (v : Value) (s : JS) : Prop := JAt wr jb v s ∧ (∀ n, JOwn jb v n → jb ≤ n) ∧ s.most = L ∧ (s.dat.length : Int) ≤ L
theorem Held.take {w w' : World} {jb L g off : Nat} {v : Value} {s : JS} {p : PK} {a : Option Addr} {cap : Nat} (h : Held w jb L v s) (hp : PA w jb g off p a cap) (hl : p.dat.length ≤ 1000000000) (hL : L ≤ 1000000) :
    Calls Try.prog 14 #[.pointer (some ⟨jb, 0, none⟩), p.val a cap] w fun e w' => ∃ v' a' cap', e = .returned (.tuple #[.slice a' (takeS s p.ap p.fl p.ct p.dat).2.1.length cap', .bool (takeS s p.ap p.fl p.ct p.dat).2.2.1, .int .i64 (takeS s p.ap p.fl p.ct p.dat).2.2.2]) ∧ Held w' jb L v' (takeS s p.ap p.fl p.ct p.dat).1 ∧ BAt w' a' (takeS s p.ap p.fl p.ct p.dat).2.1 ∧ Below jb w w' := by
  obtain ⟨h1, h2, h3, h4⟩ := h
  refine (take_pa h1 hp h2 hl (by omega) (by omega) (by omega)).mono ?_
  intro e w2 hq
  obtain ⟨v', a', cap', e1, e2, e3, e4, e5⟩ := hq.next h2 (Nat.le_of_lt h1.1.lt)
  have hi := takeS_inv s p.ap p.fl p.ct p.dat (by omega)
  exact ⟨v', a', cap', e1, ⟨e2, e4, by rw [hi.1, h3], by rw [← h3]; exact hi.2⟩, e3, e5⟩
set_option maxRecDepth 20000 in
set_option maxHeartbeats 4000000 in
theorem walk {H : Type} {enc : TypeId × Value → H} (v0 v1 : Value) (a2 : Int) (v3 : Value) (w : World) {b0 : Nat} {d0 : DataW H} {p0 : List MemPlace} (ok0 : Value.okWide Try.prog w .any b0 24 v0) (tr0 : DataW.Trod enc Try.prog w 0 (fun _ => true) true 24 v0 d0 p0)
    {b1 : Nat} {d1 : DataW H} {p1 : List MemPlace} (ok1 : Value.okWide Try.prog w .any b1 22 v1) (tr1 : DataW.Trod enc Try.prog w 0 (fun _ => true) true 22 v1 d1 p1) (w2 : (Lit.int .i64 a2).wf = true)
    {b3 : Nat} {d3 : DataW H} {p3 : List MemPlace} (ok3 : Value.okWide Try.prog w .any b3 26 v3) (tr3 : DataW.Trod enc Try.prog w 0 (fun _ => true) true 26 v3 d3 p3) :
    Calls Try.prog 4 #[v0, v1, .int .i64 a2, v3] w fun e w' => e = .returned (.bool true) ∧ Below w.heap.size w w' := by
  obtain ⟨p, pa, pc, rfl, -⟩ := arg_packet ok0 tr0
  obtain ⟨a, cap, l, rfl, hl, hm, hb⟩ := arg_bytes Try.underlying22 Try.underlying5 (by kernel_rfl) ok1 tr1
  obtain ⟨bs, hbs⟩ := arg_packets ok3 tr3
  clear ok0 tr0 ok1 tr1 w2 ok3 tr3
  unfold maxLen at hm
  have HB := Lib.hid hb
  have HBS := Lib.hid hbs
  obtain ⟨-, sa, sc, rfl, -, -⟩ := hbs
  clear hb
  by_cases hn : l.length ≤ 2000 ∧ bs.length ≤ 20
  · obtain ⟨hn1, hn2⟩ := hn
    have hn' : ¬ (2000 : Int) < l.length := by omega
    have hn3 : l.length ≤ 4000 := by omega
    have hn4 : ¬ (20 : Int) < bs.length := by omega
    by_cases hbad : badB p.ap p.ct a2 l.length
    · unfold PK.val Pk
      go_enter Try.func4, Try.ntmps4
      go_wp2_with fail
      refine (split_err p.cm p.sc p.ap p.fl p.ct pa _ pc a l.length cap a2 _ (by omega) hbad).mono ?_
      rintro e w1 ⟨rfl, hB1⟩
      have S1 := Lib.hid ((al (Below.refl _ _) _).trans (hB1.mono (by simp)))
      clear hB1
      go_wp2_with fail
      refine (alive_any _).mono ?_
      rintro e w3 ⟨rfl, hB3⟩
      go_wp2_with fail
      go_ret
      exact ⟨rfl, below2 S1.out hB3⟩
    · obtain ⟨hk, hl0, m, rfl, hm1, hm2⟩ := ok_of hbad
      have hne : l ≠ [] := List.length_pos_iff.1 hl0
      have HNE := Lib.hid hne
      have hN1 := pcs_pos hne hm1
      have hN2 := pcs_le hn3 hm1
      clear hbad hne
      unfold PK.val Pk
      go_enter Try.func4, Try.ntmps4
      go_wp2_with fail
      refine (split_ok p pa pc a l cap m _ HNE.out hn3 hl (by unfold maxLen; omega) (HB.out.below (al (Below.refl _ _) _) (Nat.le_refl _)) hk hm1 hm2).mono ?_
      rintro e w1 ⟨v, rfl, hP, hB1⟩
      have S1 := Lib.hid ((al (Below.refl _ _) _).trans (hB1.mono (by simp)))
      have HP := Lib.hid hP
      obtain ⟨-, a1, c1, rfl, hc1, -⟩ := hP
      have HSL := splitL_length p l m
      rw [HSL] at hc1 ⊢
      clear hB1 HSL
      go_wp2_with fail
      refine (new_any l.length _).mono ?_
      rintro e w2 ⟨rfl, hJ, hB⟩
      have S2 := Lib.hid (below2 S1.out hB)
      have HJ : Hid (Held w2 w1.heap.size l.length (.slice none 0 0) ⟨false, max l.length 0, 0, 0, []⟩) := ⟨hJ, fun n hn => by rcases hn with h | h; omega; simp [Value.ownBlock] at h, by simp, by simp⟩
      have HP2 := Lib.hid (HP.out.same (Same.below hB (Nat.le_refl _)))
      have HBS2 := Lib.hid (HBS.out.same (Same.below S2.out (Nat.le_refl _)))
      have hjw : w1.heap.size ≤ w2.heap.size := hB.size
      have hww : w.heap.size ≤ w1.heap.size := S1.out.size
      clear hJ hB HP HBS
      go_wp2_with fail
      go_loopw [12] (fun i wr => ∃ (k : Nat) (v : Value) (s : JS), k ≤ bs.length ∧ i = .int .i64 k ∧ Held wr w1.heap.size l.length v s ∧ Below w1.heap.size w2 wr) (fun i _ => bs.length - (intOf i).toNat)
      case atStart => exact ⟨0, _, _, by omega, rfl, HJ.out, Below.refl _ _⟩
      case round =>
        obtain ⟨k, v, s, hk2, rfl, hH, hBr⟩ := hrel
        by_cases hlt : k < bs.length
        · obtain ⟨-, aa, ac, e1, -, hPc⟩ := HBS2.out.same (Same.below hBr hww)
          obtain ⟨g1, o1, rfl, hP1⟩ := hPc.resolve_left (by intro h; rw [h] at hlt; simp at hlt)
          obtain ⟨rfl, -, rfl⟩ := Value.slice.inj e1
          obtain ⟨y1, t1, z1⟩ := ((hP1 k hlt).mono hww).pa
          have Z1 := Lib.hid z1
          obtain ⟨q0, q1, q2, q3, q4, q5⟩ := z1.walk
          have hg1 := Nat.lt_of_lt_of_le z1.1 (Nat.le_trans hjw hBr.size)
          clear e1 hP1 hPc z1
          have hki : (0 : Int) ≤ (k : Int) := by omega
          have hki2 : (k : Int) < (bs.length : Int) := by omega
          have HH := Lib.hid hH
          have HBR := Lib.hid hBr
          clear hH hBr
          generalize bs[k] = x at Z1 q0 q1 q2 q3 q4 q5
          by_cases hx : x.dat.length ≤ 4100
          · have hx2 : ¬ (4100 : Int) < x.dat.length := by omega
            go_wp2_with fail
            refine (Held.take (w' := wr) HH.out Z1.out (by omega) (by omega)).mono ?_
            rintro e w3 ⟨v', a', cap', rfl, hH3, -, hB3⟩
            have HH3 := Lib.hid hH3
            have HB3 := Lib.hid hB3
            clear hH3 hB3
            go_wp2_with fail
            go_roundw
            case rel => exact ⟨k + 1, _, _, by omega, by go_num, HH3.out, HBR.out.trans HB3.out⟩
            case measure => simp [intOf]; omega
          · have hx2 : (4100 : Int) < x.dat.length := by omega
            go_wp2_with fail
            refine (alive_any _).mono ?_
            rintro e w3 ⟨rfl, hB3⟩
            go_wp2_with fail
            go_ret
            exact ⟨rfl, below2 (S2.out.trans (HBR.out.mono hww)) hB3⟩
        · have hlt' : ¬ (k : Int) < (bs.length : Int) := by omega
          have HH := Lib.hid hH
          have HBo := Lib.hid hBr
          obtain ⟨wo, hwo⟩ : ∃ wo, wo = wr := ⟨wr, rfl⟩
          subst hwo
          have hjw2 : w1.heap.size ≤ wo.heap.size := Nat.le_trans hjw hBr.size
          clear hH hlt hBr
          go_wp2_with fail
          go_loopw [13] (fun i wr => ∃ (k : Nat) (v : Value) (s : JS), k ≤ pcs l m ∧ i = .int .i64 k ∧ Held wr w1.heap.size l.length v s ∧ Below w1.heap.size wo wr ∧ (1 ≤ k → k < pcs l m → s = before p l m l.length k) ∧ (k = pcs l m → s.dat = [])) (fun i _ => pcs l m - (intOf i).toNat)
          case atStart => exact ⟨0, _, _, by omega, rfl, HH.out, Below.refl _ _, fun h => by omega, fun h => by omega⟩
          case round =>
            obtain ⟨i, v, s, hk2, rfl, hH, hBr, hS, hE⟩ := hrel
            by_cases hlt : i < pcs l m
            · have hP := HP2.out.same (Same.below (HBo.out.trans hBr) (Nat.le_refl _))
              obtain ⟨-, aa, ac, e1, -, hPc⟩ := hP
              have hlt2 : i < (splitL p l m).length := by rw [splitL_length]; exact hlt
              obtain ⟨g1, o1, rfl, hP1⟩ := hPc.resolve_left (by intro h; rw [h] at hlt2; simp at hlt2)
              obtain ⟨rfl, -, rfl⟩ := Value.slice.inj e1
              obtain ⟨y1, t1, z1⟩ := (hP1 i hlt2).pa
              rw [splitL_get] at z1
              have Z1 := Lib.hid z1
              obtain ⟨q0, q1, q2, q3, q4, q5⟩ := z1.walk
              have hg1 := Nat.lt_of_lt_of_le z1.1 (Nat.le_trans hjw2 hBr.size)
              have hxl : (pieceOf p l m (pcs l m) i).dat.length ≤ 1000000000 := by
                have : (pieceOf p l m (pcs l m) i).dat.length = min m (l.length - i * m) := piece_len l m i
                omega
              have HR : Hid (takeS s (pieceOf p l m (pcs l m) i).ap (pieceOf p l m (pcs l m) i).fl (pieceOf p l m (pcs l m) i).ct (pieceOf p l m (pcs l m) i).dat = if i + 1 = pcs l m then (⟨false, l.length, p.ap, (p.ct + (i : Int)) % 16384, []⟩, l, true, 0) else (before p l m l.length (i + 1), [], false, 0)) := by
                have hHm := hH.2.2.1
                rcases Nat.eq_zero_or_pos i with h0 | h0
                · subst h0
                  have := take_first hk HNE.out hm1 s (by rw [hHm]; simp; omega)
                  rw [this, hHm]
                  by_cases h1 : pcs l m = 1
                  · rw [if_pos h1, if_pos (by omega)]; rfl
                  · rw [if_neg h1, if_neg (by omega)]; rfl
                · have e := hS h0 hlt
                  rw [e]
                  exact take_next hk HNE.out hm1 l.length h0 hlt (by simp; omega)
              clear e1 hP1 hPc z1 hlt2 hS hE
              have HH := Lib.hid hH
              have HBR := Lib.hid hBr
              clear hH hBr
              have hki : (0 : Int) ≤ (i : Int) := by omega
              have hki2 : (i : Int) < (pcs l m : Int) := by omega
              generalize hx : pieceOf p l m (pcs l m) i = x at Z1 q0 q1 q2 q3 q4 q5 hxl HR
              clear hx
              go_wp2_with fail
              refine (Held.take (w' := wr) HH.out Z1.out hxl (by omega)).mono ?_
              rintro e w3 ⟨v', a', cap', rfl, hH3, hA3, hB3⟩
              rw [HR.out] at hH3 hA3 ⊢
              have HB3 := Lib.hid hB3
              clear hB3 q0 q1 q2 q3 q4 q5
              by_cases hlast : i + 1 = pcs l m
              · rw [if_pos hlast] at hH3 hA3 ⊢
                have HH3 := Lib.hid hH3
                have hcv1 := hA3.str 22 9 5 cap' Try.underlying22 Try.underlying5 Try.underlying9
                have hcv2 := (HB.out.below (S2.out.trans (((HBo.out.trans HBR.out).trans HB3.out).mono hww)) (Nat.le_refl _)).str 22 9 5 cap Try.underlying22 Try.underlying5 Try.underlying9
                have hil : ((i : Int) == (pcs l m : Int) - 1) = true := by rw [beq_iff_eq]; omega
                clear hH3 hA3
                go_wp2_with fail
                go_roundw
                case rel => exact ⟨i + 1, _, _, by omega, by go_num, HH3.out, HBR.out.trans HB3.out, fun _ h => by omega, fun _ => rfl⟩
                case measure => simp [intOf]; omega
              · rw [if_neg hlast] at hH3 hA3 ⊢
                have HH3 := Lib.hid hH3
                have hil : ((i : Int) == (pcs l m : Int) - 1) = false := by rw [beq_eq_false_iff_ne]; omega
                clear hH3 hA3
                go_wp2_with fail
                go_roundw
                case rel => exact ⟨i + 1, _, _, by omega, by go_num, HH3.out, HBR.out.trans HB3.out, fun _ _ => rfl, fun h => by omega⟩
                case measure => simp [intOf]; omega
            · have hlt' : ¬ (i : Int) < (pcs l m : Int) := by omega
              have he := hE (by omega)
              have HE := Lib.hid he
              have HH := Lib.hid hH
              have HBR := Lib.hid hBr
              clear hH hBr hE he hS
              go_wp2_with fail
              refine (pend_any _ _ _ _ HH.out.1).mono ?_
              rintro e w' ⟨rfl, rfl⟩
              rw [HE.out]
              go_wp2_with fail
              refine (alive_any _).mono ?_
              rintro e w3 ⟨rfl, hB3⟩
              go_wp2_with fail
              go_ret
              exact ⟨rfl, below2 (S2.out.trans ((HBo.out.trans HBR.out).mono hww)) hB3⟩
  · unfold PK.val Pk
    by_cases hn1 : l.length ≤ 2000
    · have hn' : ¬ (2000 : Int) < l.length := by omega
      have hn4 : (20 : Int) < bs.length := by omega
      go_enter Try.func4, Try.ntmps4
      go_wp2_with fail
      refine (alive_any _).mono ?_
      rintro e w2 ⟨rfl, hB2⟩
      go_wp2_with fail
      go_ret
      exact ⟨rfl, below2 (al (Below.refl _ _) _) hB2⟩
    · have hn' : (2000 : Int) < l.length := by omega
      go_enter Try.func4, Try.ntmps4
      go_wp2_with fail
      refine (alive_any _).mono ?_
      rintro e w2 ⟨rfl, hB2⟩
      go_wp2_with fail
      go_ret
      exact ⟨rfl, below2 (al (Below.refl _ _) _) hB2⟩


set_option maxRecDepth 100000 in
theorem lifted (os : Os) (started : os.Started) (H : Type) (enc : TypeId × Value → H) :
    ReturnsInHanded {} Try.checked os 4 .any (Rows.partsBackSpec.pre6 enc Try.prog Try.f4 Rows.partsBackRow.domain false) (Rows.partsBackSpec.post enc Try.prog Try.f4 false true false false) := by
  refine returnsInHanded_of_change (C := Try.checked) own started (by kernel_rfl) Try.func4
    (ChangeSpec.witness6 (enc := enc) (C := Try.checked) false ⟨#[], #[.agg #[.bool false, .bool false, .int .i64 0, .int .i64 0, .int .i64 0, .slice none 0 0], .slice none 0 0, .int .i64 0, .slice none 0 0], []⟩ 8 (by kernel_rfl) (by kernel_rfl) (by kernel_rfl) (by kernel_rfl)) ?_
  intro W base args ds gs before hval0 hW hcnd _
  have hval : ∀ (j : Nat) t v, Try.f4.params[j]? = some t → args[j]? = some v → Value.okWide Try.prog W .any base t v := hval0
  have hW' := hW
  obtain ⟨p, q, hA0, hV, rfl, hfz, hnd⟩ := hW
  have hA : DataW.TrodAll enc Try.prog W 0 (fun _ => true) true Try.f4.params.toList args.toList ds p := hA0
  rw [Try.params4] at hA hval
  obtain ⟨v0, vs0, d0, ds0, p0, q0, hargs, rfl, rfl, h0, r0⟩ := trodAll_cons hA
  obtain ⟨v1, vs1, d1, ds1, p1, q1, rfl, rfl, rfl, h1, r1⟩ := trodAll_cons r0
  obtain ⟨v2, vs2, d2, ds2, p2, q2, rfl, rfl, rfl, h2, r2⟩ := trodAll_cons r1
  obtain ⟨v3, vs3, d3, ds3, p3, q3, rfl, rfl, rfl, h3, r3⟩ := trodAll_cons r2
  obtain ⟨rfl, rfl, rfl⟩ := trodAll_nil r3
  obtain rfl : args = #[v0, v1, v2, v3] := by cases args; simp_all
  obtain ⟨rfl, rfl⟩ := trodVars_none hV
  have k0 := h0
  have lt0 : ∀ x ∈ p0, x.block < W.heap.size := by obtain ⟨m, hm⟩ := k0; exact DataW.trod_lt m _ _ _ hm
  have k1 := h1
  have lt1 : ∀ x ∈ p1, x.block < W.heap.size := by obtain ⟨m, hm⟩ := k1; exact DataW.trod_lt m _ _ _ hm
  obtain ⟨a2, rfl, rfl, rfl, w2⟩ := open_int Try.underlying3 (hval 2 3 v2 rfl rfl) h2
  have k3 := h3
  have lt3 : ∀ x ∈ p3, x.block < W.heap.size := by obtain ⟨m, hm⟩ := k3; exact DataW.trod_lt m _ _ _ hm
  clear hA0 hval0
  refine (walk v0 v1 a2 v3 W (hval 0 24 v0 rfl rfl) k0 (hval 1 22 v1 rfl rfl) k1 w2 (hval 3 26 v3 rfl rfl) k3).mono fun e W' ⟨he, bel⟩ => ?_
  subst he
  exact ⟨_, rfl, _, _, _, [], _, [], hW', trodAll_mk1 (shut_bool Try.underlying4 _), (trodAll_cons_mk (Below.trod laidOut (by kernel_rfl) (of_decide_eq_true (by kernel_rfl)) k0 bel lt0) (trodAll_cons_mk (Below.trod laidOut (by kernel_rfl) (of_decide_eq_true (by kernel_rfl)) k1 bel lt1) (trodAll_cons_mk (shut_int Try.underlying3 w2) (trodAll_cons_mk (Below.trod laidOut (by kernel_rfl) (of_decide_eq_true (by kernel_rfl)) k3 bel lt3) trodAll_mk0)))), rfl, bel.frame _, fun h => by cases h⟩

theorem over : Rows.partsBackRow.holds Try.pinned (OpenSpec.ofChange Rows.partsBackSpec) :=
  OpenClaim.holds_of_wide 4 Try.f4 rfl rfl rfl rfl rfl rfl rfl ⟨rfl, rfl, rfl, rfl, rfl⟩ rfl rfl rfl rfl rfl (by kernel_rfl) Try.func4 (by kernel_rfl)
    (of_decide_eq_true (by kernel_rfl)) (by unfold Func.isWrapper; first | (rw [if_pos (by decide +kernel)]; kernel_rfl) | (rw [if_neg (by decide +kernel)]; exact ⟨rfl, rfl⟩))
    (fun os started H enc _ => lifted os started H enc)

theorem proved : Rows.PartsBackSaid := over
#print axioms proved
end Go.Proofs.Ytdllngedmhihkaa.partsBack

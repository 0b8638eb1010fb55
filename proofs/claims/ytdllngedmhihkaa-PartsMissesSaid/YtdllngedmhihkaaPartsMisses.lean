/- The law PartsMisses holds: the walk, then the lift to the given statement. No condition. -/
import Derived.Test.YtdllngedmhihkaaV
import Derived.WalkKit
import Derived.ProofKit
import Derived.OpenShut
import Derived.Lib.Hide
import Derived.ChangeOld
import Derived.Below
import Derived.SizedLaws
namespace Go.Proofs.Ytdllngedmhihkaa.partsMisses
open Go.ChangeShapes Go.WideShapes Go.ChangeAt Go.RowKit
set_option linter.unusedVariables false
theorem own : ownKnob Try.prog.godebug = none := by kernel_rfl
theorem laidOut : laidOutB Try.prog = true := by kernel_rfl

theorem ok_of {ap ct most : Int} {n : Nat} (h : ¬ badB ap ct most n) : okB ap ct = true ∧ 0 < n ∧ ∃ m : Nat, most = (m : Int) ∧ 1 ≤ m ∧ m ≤ 4090 := by
  have h1 : okB ap ct = true := by
    cases e : okB ap ct
    · exact absurd (.inl e) h
    · rfl
  have h2 : ¬ most < 1 := fun e => h (.inr (.inl e))
  have h3 : ¬ 4090 < most := fun e => h (.inr (.inr (.inl e)))
  have h4 : n ≠ 0 := fun e => h (.inr (.inr (.inr e)))
  exact ⟨h1, by omega, most.toNat, by omega, by omega, by omega⟩
theorem pcs_le {l : List UInt8} {m : Nat} (h1 : l.length ≤ 4000) (h2 : 1 ≤ m) : pcs l m ≤ 8000 := by
  have h3 : l.length + m - 1 ≤ m * 8000 := by
    have : m * 8000 = m * 4000 + m * 4000 := by omega
    omega
  exact Nat.div_le_of_le_mul h3
/-- a Joiner of this law -/
def One (w : World) (b hi : Nat) (v : Value) (s : JS) (M : Int) : Prop := JAt w b v s ∧ (∀ n, JOwn b v n → hi ≤ n) ∧ s.most = M ∧ (s.dat.length : Int) ≤ M
theorem two_take {w : World} {b b2 hi g off : Nat} {v v2 : Value} {s s2 : JS} {M M2 : Int} {p : PK} {a : Option Addr} {cap : Nat} (hA : One w b hi v s M) (hB : One w b2 hi v2 s2 M2) (hd : ∀ n, JOwn b v n → ¬ JOwn b2 v2 n) (hp : PA w hi g off p a cap) (hh : hi ≤ w.heap.size) (hl : p.dat.length ≤ 1000000000) (hM : M ≤ 1000000) :
    Calls Try.prog 14 #[.pointer (some ⟨b, 0, none⟩), p.val a cap] w fun e w' => ∃ v' a' cap', e = .returned (.tuple #[.slice a' (takeS s p.ap p.fl p.ct p.dat).2.1.length cap', .bool (takeS s p.ap p.fl p.ct p.dat).2.2.1, .int .i64 (takeS s p.ap p.fl p.ct p.dat).2.2.2]) ∧ One w' b hi v' (takeS s p.ap p.fl p.ct p.dat).1 M ∧ One w' b2 hi v2 s2 M2 ∧ (∀ n, JOwn b v' n → ¬ JOwn b2 v2 n) ∧ Below hi w w' := by
  obtain ⟨h1, h2, h3, h4⟩ := hA
  refine (take_pa h1 hp h2 hl (by omega) (by omega) (by omega)).mono ?_
  intro e w2 hq
  obtain ⟨v', a', cap', e1, e2, e3, e4, e5, e6⟩ := hq
  have hi1 := takeS_inv s p.ap p.fl p.ct p.dat (by omega)
  refine ⟨v', a', cap', e1, ⟨e2, fun n hn => ?_, by rw [hi1.1, h3], by rw [← h3]; exact hi1.2⟩, ⟨hB.1.fr e5 (fun n hn hn2 => hd n hn2 hn), hB.2⟩, fun n hn hn2 => ?_, e5.toBelow hh h2⟩
  · rcases hn with hn | hn
    · exact h2 n (.inl hn)
    · rcases e6 n hn with h | h
      · exact h2 n (.inr h)
      · omega
  · rcases hn with hn | hn
    · exact hd n (.inl hn) hn2
    · rcases e6 n hn with h | h
      · exact hd n (.inr h) hn2
      · rcases hn2 with hn2 | hn2
        · have := hB.1.1.lt; omega
        · have := (hB.1.2.1.lt n hn2).2; omega
/-- the Joiner j of this law before piece i, where piece q is left out -/
def JInv (p : PK) (l : List UInt8) (m q i : Nat) (s : JS) : Prop :=
  (i = 0 → s.op = false) ∧ (1 ≤ i → i ≤ q → s = before p l m l.length i) ∧ (i = q + 1 → (q = 0 → s.op = false) ∧ (1 ≤ q → s = before p l m l.length q)) ∧ (q + 1 < i → s.op = false)
theorem JInv.skip {p : PK} {l : List UInt8} {m q : Nat} {s : JS} (h : JInv p l m q q s) : JInv p l m q (q + 1) s :=
  ⟨fun h' => by omega, fun _ h' => by omega, fun _ => ⟨h.1, fun h1 => h.2.1 h1 (Nat.le_refl _)⟩, fun h' => by omega⟩
theorem JInv.step {p : PK} {l : List UInt8} {m : Nat} (hk : okB p.ap p.ct = true) (hl : l ≠ []) (hm : 1 ≤ m) (hN : 2 ≤ pcs l m) {q i : Nat} {s : JS} (h : JInv p l m q i s) (hs : s.most = l.length) (hi : i < pcs l m) (hq : q < pcs l m) (hne : i ≠ q) :
    JInv p l m q (i + 1) (takeS s (pieceOf p l m (pcs l m) i).ap (pieceOf p l m (pcs l m) i).fl (pieceOf p l m (pcs l m) i).ct (pieceOf p l m (pcs l m) i).dat).1 ∧ (takeS s (pieceOf p l m (pcs l m) i).ap (pieceOf p l m (pcs l m) i).fl (pieceOf p l m (pcs l m) i).ct (pieceOf p l m (pcs l m) i).dat).2.2.1 = false := by
  obtain ⟨h1, h2, h3, h4⟩ := h
  rcases Nat.lt_or_ge i q with hlt | hge
  · rcases Nat.eq_zero_or_pos i with h0 | h0
    · subst h0
      have e := take_first hk hl hm s (by rw [hs]; simp; omega)
      rw [if_neg (by omega), hs] at e
      rw [e]
      exact ⟨⟨fun h => by omega, fun _ _ => rfl, fun h => by omega, fun h => by omega⟩, rfl⟩
    · have e0 := h2 h0 (by omega)
      have e := take_next hk hl hm (l.length : Int) h0 hi (by simp; omega)
      rw [if_neg (by omega)] at e
      rw [e0, e]
      exact ⟨⟨fun h => by omega, fun _ _ => rfl, fun h => by omega, fun h => by omega⟩, rfl⟩
  · have e := take_stray hk hl hm s (i := i) (by omega) hi (fun hop => by
      rcases Nat.lt_or_ge (q + 1) i with h5 | h5
      · rw [h4 h5] at hop; cases hop
      · have h6 : i = q + 1 := by omega
        obtain ⟨h7, h8⟩ := h3 h6
        rcases Nat.eq_zero_or_pos q with h0 | h0
        · rw [h7 h0] at hop; cases hop
        · rw [h8 h0]
          refine ⟨?_, cnt_mod _⟩
          simp only [before]
          omega)
    rw [e]
    exact ⟨⟨fun h => by omega, fun _ h => by omega, fun h => by omega, fun _ => rfl⟩, rfl⟩
theorem kstep {p : PK} {l : List UInt8} {m : Nat} (hk : okB p.ap p.ct = true) (hl : l ≠ []) (hm : 1 ≤ m) (hN : 2 ≤ pcs l m) {i : Nat} {s : JS} (h : 1 ≤ i → s = before p l m ((l.length : Int) - 1) i) (hs : s.most = (l.length : Int) - 1) (hi : i < pcs l m) :
    (i + 1 < pcs l m → (takeS s (pieceOf p l m (pcs l m) i).ap (pieceOf p l m (pcs l m) i).fl (pieceOf p l m (pcs l m) i).ct (pieceOf p l m (pcs l m) i).dat).1 = before p l m ((l.length : Int) - 1) (i + 1)) ∧ (takeS s (pieceOf p l m (pcs l m) i).ap (pieceOf p l m (pcs l m) i).fl (pieceOf p l m (pcs l m) i).ct (pieceOf p l m (pcs l m) i).dat).2.2.1 = false ∧
    (i + 1 = pcs l m → (takeS s (pieceOf p l m (pcs l m) i).ap (pieceOf p l m (pcs l m) i).fl (pieceOf p l m (pcs l m) i).ct (pieceOf p l m (pcs l m) i).dat).2.2.2 = 6) := by
  rcases Nat.eq_zero_or_pos i with h0 | h0
  · subst h0
    have h1 := pcs_lt (l := l) hm (show 1 < pcs l m by omega)
    have e := take_first hk hl hm s (by rw [hs]; simp; omega)
    rw [if_neg (by omega), hs] at e
    rw [e]
    exact ⟨fun _ => rfl, rfl, fun h => by omega⟩
  · rw [h h0]
    rcases Nat.lt_or_ge (i + 1) (pcs l m) with h1 | h1
    · have h2 := pcs_lt (l := l) hm h1
      have e := take_next hk hl hm ((l.length : Int) - 1) h0 hi (by simp; omega)
      rw [if_neg (by omega)] at e
      rw [e]
      exact ⟨fun _ => rfl, rfl, fun h => by omega⟩
    · have e := take_long hk hl hm ((l.length : Int) - 1) h0 (by omega) (by omega)
      rw [e]
      exact ⟨fun h => by omega, rfl, fun _ => rfl⟩
set_option maxRecDepth 20000 in
set_option maxHeartbeats 4000000 in
theorem walk {H : Type} {enc : TypeId × Value → H} (v0 v1 : Value) (a2 : Int) (a3 : Int) (w : World) {b0 : Nat} {d0 : DataW H} {p0 : List MemPlace} (ok0 : Value.okWide Try.prog w .any b0 24 v0) (tr0 : DataW.Trod enc Try.prog w 0 (fun _ => true) true 24 v0 d0 p0)
    {b1 : Nat} {d1 : DataW H} {p1 : List MemPlace} (ok1 : Value.okWide Try.prog w .any b1 22 v1) (tr1 : DataW.Trod enc Try.prog w 0 (fun _ => true) true 22 v1 d1 p1) (w2 : (Lit.int .i64 a2).wf = true) (w3 : (Lit.int .u16 a3).wf = true) :
    Calls Try.prog 5 #[v0, v1, .int .i64 a2, .int .u16 a3] w fun e w' => e = .returned (.bool true) ∧ Below w.heap.size w w' := by
  obtain ⟨p, pa, pc, rfl, -⟩ := arg_packet ok0 tr0
  obtain ⟨a, cap, l, rfl, hl, hm, hb⟩ := arg_bytes Try.underlying22 Try.underlying5 (by kernel_rfl) ok1 tr1
  obtain ⟨ms, rfl, hms⟩ : ∃ ms : Nat, a3 = (ms : Int) ∧ ms < 65536 := by
    have := bounds_u16 w3
    exact ⟨a3.toNat, by omega, by omega⟩
  clear ok0 tr0 ok1 tr1 w2 w3
  unfold maxLen at hm
  have HB := Lib.hid hb
  clear hb
  by_cases hn1 : l.length ≤ 2000
  · have hn' : ¬ (2000 : Int) < l.length := by omega
    have hn3 : l.length ≤ 4000 := by omega
    by_cases hbad : badB p.ap p.ct a2 l.length
    · unfold PK.val Pk
      go_enter Try.func5, Try.ntmps5
      go_wp2_with fail
      refine (split_err p.cm p.sc p.ap p.fl p.ct pa _ pc a l.length cap a2 _ (by omega) hbad).mono ?_
      rintro e w1 ⟨rfl, hB1⟩
      have S1 := Lib.hid ((al (Below.refl _ _) _).trans (hB1.mono (by simp)))
      clear hB1
      go_wp2_with fail
      refine (alive_any _).mono ?_
      rintro e w3 ⟨rfl, hB3⟩
      go_wp2_with fail
      go_ret
      exact ⟨rfl, below2 S1.out hB3⟩
    · obtain ⟨hk, hl0, m, rfl, hm1, hm2⟩ := ok_of hbad
      have hne : l ≠ [] := List.length_pos_iff.1 hl0
      have HNE := Lib.hid hne
      have hN1 := pcs_pos hne hm1
      have hN2 := pcs_le hn3 hm1
      clear hbad hne
      unfold PK.val Pk
      go_enter Try.func5, Try.ntmps5
      go_wp2_with fail
      refine (split_ok p pa pc a l cap m _ HNE.out hn3 hl (by unfold maxLen; omega) (HB.out.below (al (Below.refl _ _) _) (Nat.le_refl _)) hk hm1 hm2).mono ?_
      rintro e w1 ⟨v, rfl, hP, hB1⟩
      have S1 := Lib.hid ((al (Below.refl _ _) _).trans (hB1.mono (by simp)))
      have HP := Lib.hid hP
      obtain ⟨-, a1, c1, rfl, hc1, -⟩ := hP
      have HSL := splitL_length p l m
      rw [HSL] at hc1 ⊢
      clear hB1 HSL
      by_cases hN : 2 ≤ pcs l m
      · have hNi : ¬ (pcs l m : Int) < 2 := by omega
        go_wp2_with fail
        refine (new_any l.length _).mono ?_
        rintro e w2 ⟨rfl, hJ, hB⟩
        have S2 := Lib.hid (below2 S1.out hB)
        have HJ := Lib.hid hJ
        have HP2 := Lib.hid (HP.out.same (Same.below hB (Nat.le_refl _)))
        have hjw : w1.heap.size ≤ w2.heap.size := hB.size
        have hjw' : w1.heap.size < w2.heap.size := hJ.1.lt
        have hww : w.heap.size ≤ w1.heap.size := S1.out.size
        clear hJ hB HP
        go_wp2_with fail
        refine (new_any ((l.length : Int) - 1) _).mono ?_
        rintro e w3 ⟨rfl, hK, hB⟩
        have S3 := Lib.hid (below2 S2.out hB)
        have HA : Hid (One w3 w1.heap.size w1.heap.size (.slice none 0 0) ⟨false, max (l.length : Int) 0, 0, 0, []⟩ l.length) := ⟨HJ.out.below hB (Nat.le_refl _), fun n hn => by rcases hn with h | h; omega; simp [Value.ownBlock] at h, by simp, by simp⟩
        have HK : Hid (One w3 w2.heap.size w1.heap.size (.slice none 0 0) ⟨false, max ((l.length : Int) - 1) 0, 0, 0, []⟩ ((l.length : Int) - 1)) := ⟨hK, fun n hn => by rcases hn with h | h; omega; simp [Value.ownBlock] at h, by simp; omega, by simp; omega⟩
        have HP3 := Lib.hid (HP2.out.same (Same.below hB hjw))
        have hjw3 : w1.heap.size ≤ w3.heap.size := by have := hB.size; omega
        clear hK hB HP2 HJ
        obtain ⟨q, hq, hqN⟩ : ∃ q : Nat, (ms : Int) % (pcs l m : Int) = (q : Int) ∧ q < pcs l m := ⟨ms % pcs l m, by simp, Nat.mod_lt _ (by omega)⟩
        go_wp2_with fail
        go_loopw [13] (fun i wr => ∃ (k : Nat) (vj : Value) (sj : JS) (vk : Value) (sk : JS), k ≤ pcs l m ∧ i = .int .i64 k ∧ One wr w1.heap.size w1.heap.size vj sj l.length ∧ One wr w2.heap.size w1.heap.size vk sk ((l.length : Int) - 1) ∧ (∀ n, JOwn w1.heap.size vj n → ¬ JOwn w2.heap.size vk n) ∧ Below w1.heap.size w3 wr ∧ JInv p l m q k sj ∧ (1 ≤ k → k < pcs l m → sk = before p l m ((l.length : Int) - 1) k)) (fun i _ => pcs l m - (intOf i).toNat)
        case atStart => exact ⟨0, _, _, _, _, by omega, rfl, HA.out, HK.out, fun n hn hn2 => by
            rcases hn with h | h
            · rcases hn2 with h2 | h2
              · omega
              · simp [Value.ownBlock] at h2
            · simp [Value.ownBlock] at h, Below.refl _ _, ⟨fun _ => rfl, fun h => by omega, fun h => by omega, fun h => by omega⟩, fun h => by omega⟩
        case round =>
          obtain ⟨i, vj, sj, vk, sk, hk2, rfl, hA, hK, hD, hBr, hJI, hKI⟩ := hrel
          by_cases hlt : i < pcs l m
          · have hP := HP3.out.same (Same.below hBr (Nat.le_refl _))
            obtain ⟨-, aa, ac, e1, -, hPc⟩ := hP
            have hlt2 : i < (splitL p l m).length := by rw [splitL_length]; exact hlt
            obtain ⟨g1, o1, rfl, hP1⟩ := hPc.resolve_left (by intro h; rw [h] at hlt2; simp at hlt2)
            obtain ⟨rfl, -, rfl⟩ := Value.slice.inj e1
            obtain ⟨y1, t1, z1⟩ := (hP1 i hlt2).pa
            rw [splitL_get] at z1
            have Z1 := Lib.hid z1
            obtain ⟨q0, q1, q2, q3, q4, q5⟩ := z1.walk
            have hg1 := Nat.lt_of_lt_of_le z1.1 (Nat.le_trans hjw3 hBr.size)
            have hxl : (pieceOf p l m (pcs l m) i).dat.length ≤ 1000000000 := by
              have : (pieceOf p l m (pcs l m) i).dat.length = min m (l.length - i * m) := piece_len l m i
              omega
            have hks := kstep hk HNE.out hm1 hN (s := sk) (i := i) (fun h => hKI h hlt) hK.2.2.1 hlt
            have hjs : i ≠ q → _ := fun h => hJI.step hk HNE.out hm1 hN hA.2.2.1 hlt hqN h
            have hjq : i = q → JInv p l m q (i + 1) sj := fun h => by subst h; exact hJI.skip
            have HKS := Lib.hid hks
            have HJS := Lib.hid hjs
            have HJQ := Lib.hid hjq
            clear e1 hP1 hPc z1 hlt2 hKI hJI hks hjs hjq
            have HA := Lib.hid hA
            have HK := Lib.hid hK
            have HD := Lib.hid hD
            have HBR := Lib.hid hBr
            have hwr : w1.heap.size ≤ wr.heap.size := Nat.le_trans hjw3 hBr.size
            clear hA hK hD hBr
            have hki : (0 : Int) ≤ (i : Int) := by omega
            have hki2 : (i : Int) < (pcs l m : Int) := by omega
            generalize hx : pieceOf p l m (pcs l m) i = x at Z1 q0 q1 q2 q3 q4 q5 hxl HKS HJS
            clear hx
            go_wp2_with fail
            refine (two_take HK.out HA.out (fun n h1 h2 => HD.out n h2 h1) Z1.out hwr hxl (by omega)).mono ?_
            rintro e w4 ⟨vk', a', cap', rfl, hK4, hA4, hD4, hB4⟩
            rw [HKS.out.2.1]
            have HK4 := Lib.hid hK4
            have HA4 := Lib.hid hA4
            have HD4 := Lib.hid hD4
            have HB4 := Lib.hid hB4
            have z4 := Z1.out.same (Same.below hB4 (Nat.le_refl _))
            have Z4 := Lib.hid z4
            have hw4 : w1.heap.size ≤ w4.heap.size := Nat.le_trans hwr hB4.size
            have hg4 : g1 < w4.heap.size := Nat.lt_of_lt_of_le hg1 hB4.size
            clear q0 q1 q2 q3 q4 q5 hK4 hA4 hD4 hB4
            obtain ⟨q0, q1, q2, q3, q4, q5⟩ := z4.walk
            clear z4
            have fin : ∀ (vj' : Value) (sj' : JS) (w' : World), One w' w1.heap.size w1.heap.size vj' sj' l.length → One w' w2.heap.size w1.heap.size vk' (takeS sk x.ap x.fl x.ct x.dat).1 ((l.length : Int) - 1) → (∀ n, JOwn w1.heap.size vj' n → ¬ JOwn w2.heap.size vk' n) → Below w1.heap.size w4 w' → JInv p l m q (i + 1) sj' →
                ∃ (k : Nat) (vj : Value) (sj : JS) (vk : Value) (sk : JS), k ≤ pcs l m ∧ Value.int .i64 ((i : Int) + 1) = .int .i64 k ∧ One w' w1.heap.size w1.heap.size vj sj l.length ∧ One w' w2.heap.size w1.heap.size vk sk ((l.length : Int) - 1) ∧ (∀ n, JOwn w1.heap.size vj n → ¬ JOwn w2.heap.size vk n) ∧ Below w1.heap.size w3 w' ∧ JInv p l m q k sj ∧ (1 ≤ k → k < pcs l m → sk = before p l m ((l.length : Int) - 1) k) := fun vj' sj' w' h1 h2 h3 h4 h5 =>
              ⟨i + 1, vj', sj', vk', _, by omega, by go_num, h1, h2, h3, (HBR.out.trans HB4.out).trans h4, h5, fun _ h => HKS.out.1 h⟩
            have FIN := Lib.hid fin
            clear fin
            have hif : i + 1 = pcs l m ∧ ((i : Int) == (pcs l m : Int) - 1) = true ∧ (takeS sk x.ap x.fl x.ct x.dat).2.2.2 = 6 ∨ ((i : Int) == (pcs l m : Int) - 1) = false := by
              by_cases h : i + 1 = pcs l m
              · exact .inl ⟨h, by rw [beq_iff_eq]; omega, HKS.out.2.2 h⟩
              · exact .inr (by rw [beq_eq_false_iff_ne]; omega)
            by_cases hiq : i = q
            · have hqb : ((i : Int) == (q : Int)) = true := by rw [beq_iff_eq]; omega
              have HQ := Lib.hid (HJQ.out hiq)
              clear hiq
              rcases hif with ⟨h1, h2, h3⟩ | h2
              · rw [h3]
                have H3 := Lib.hid h3
                clear h1 h3
                go_wp2_with fail
                go_roundw
                case rel => exact FIN.out _ _ _ HA4.out HK4.out (fun n h1 h2 => HD4.out n h2 h1) (Below.refl _ _) HQ.out
                case measure => simp [intOf]; omega
              · go_wp2_with fail
                go_roundw
                case rel => exact FIN.out _ _ _ HA4.out HK4.out (fun n h1 h2 => HD4.out n h2 h1) (Below.refl _ _) HQ.out
                case measure => simp [intOf]; omega
            · have hqb : ((i : Int) == (q : Int)) = false := by rw [beq_eq_false_iff_ne]; omega
              have HQ := Lib.hid (HJS.out hiq)
              clear hiq
              rcases hif with ⟨h1, h2, h3⟩ | h2
              all_goals
                try rw [h3]
                try (have H3 := Lib.hid h3; clear h1 h3)
                go_wp2_with fail
                refine (two_take HA4.out HK4.out (fun n h1 h2 => HD4.out n h2 h1) Z4.out hw4 hxl (by omega)).mono ?_
                rintro e w5 ⟨vj', a5, cap5, rfl, hA5, hK5, hD5, hB5⟩
                rw [HQ.out.2]
                have HA5 := Lib.hid hA5
                have HK5 := Lib.hid hK5
                have HD5 := Lib.hid hD5
                have HB5 := Lib.hid hB5
                clear hA5 hK5 hD5 hB5 q0 q1 q2 q3 q4 q5
                go_wp2_with fail
                go_roundw
                case rel => exact FIN.out _ _ _ HA5.out HK5.out HD5.out HB5.out HQ.out.1
                case measure => simp [intOf]; omega
          · have hlt' : ¬ (i : Int) < (pcs l m : Int) := by omega
            have HBR := Lib.hid hBr
            clear hA hK hD hBr hJI hKI
            go_wp2_with fail
            refine (alive_any _).mono ?_
            rintro e w9 ⟨rfl, hB9⟩
            go_wp2_with fail
            go_ret
            exact ⟨rfl, below2 (S3.out.trans (HBR.out.mono hww)) hB9⟩
      · have hNi : (pcs l m : Int) < 2 := by omega
        go_wp2_with fail
        refine (alive_any _).mono ?_
        rintro e w9 ⟨rfl, hB9⟩
        go_wp2_with fail
        go_ret
        exact ⟨rfl, below2 S1.out hB9⟩
  · unfold PK.val Pk
    have hn' : (2000 : Int) < l.length := by omega
    go_enter Try.func5, Try.ntmps5
    go_wp2_with fail
    refine (alive_any _).mono ?_
    rintro e w2 ⟨rfl, hB2⟩
    go_wp2_with fail
    go_ret
    exact ⟨rfl, below2 (al (Below.refl _ _) _) hB2⟩


set_option maxRecDepth 100000 in
theorem lifted (os : Os) (started : os.Started) (H : Type) (enc : TypeId × Value → H) :
    ReturnsInHanded {} Try.checked os 5 .any (Rows.partsMissesSpec.pre6 enc Try.prog Try.f5 Rows.partsMissesRow.domain false) (Rows.partsMissesSpec.post enc Try.prog Try.f5 false true false false) := by
  refine returnsInHanded_of_change (C := Try.checked) own started (by kernel_rfl) Try.func5
    (ChangeSpec.witness6 (enc := enc) (C := Try.checked) false ⟨#[], #[.agg #[.bool false, .bool false, .int .i64 0, .int .i64 0, .int .i64 0, .slice none 0 0], .slice none 0 0, .int .i64 0, .int .u16 0], []⟩ 8 (by kernel_rfl) (by kernel_rfl) (by kernel_rfl) (by kernel_rfl)) ?_
  intro W base args ds gs before hval0 hW hcnd _
  have hval : ∀ (j : Nat) t v, Try.f5.params[j]? = some t → args[j]? = some v → Value.okWide Try.prog W .any base t v := hval0
  have hW' := hW
  obtain ⟨p, q, hA0, hV, rfl, hfz, hnd⟩ := hW
  have hA : DataW.TrodAll enc Try.prog W 0 (fun _ => true) true Try.f5.params.toList args.toList ds p := hA0
  rw [Try.params5] at hA hval
  obtain ⟨v0, vs0, d0, ds0, p0, q0, hargs, rfl, rfl, h0, r0⟩ := trodAll_cons hA
  obtain ⟨v1, vs1, d1, ds1, p1, q1, rfl, rfl, rfl, h1, r1⟩ := trodAll_cons r0
  obtain ⟨v2, vs2, d2, ds2, p2, q2, rfl, rfl, rfl, h2, r2⟩ := trodAll_cons r1
  obtain ⟨v3, vs3, d3, ds3, p3, q3, rfl, rfl, rfl, h3, r3⟩ := trodAll_cons r2
  obtain ⟨rfl, rfl, rfl⟩ := trodAll_nil r3
  obtain rfl : args = #[v0, v1, v2, v3] := by cases args; simp_all
  obtain ⟨rfl, rfl⟩ := trodVars_none hV
  have k0 := h0
  have lt0 : ∀ x ∈ p0, x.block < W.heap.size := by obtain ⟨m, hm⟩ := k0; exact DataW.trod_lt m _ _ _ hm
  have k1 := h1
  have lt1 : ∀ x ∈ p1, x.block < W.heap.size := by obtain ⟨m, hm⟩ := k1; exact DataW.trod_lt m _ _ _ hm
  obtain ⟨a2, rfl, rfl, rfl, w2⟩ := open_int Try.underlying3 (hval 2 3 v2 rfl rfl) h2
  obtain ⟨a3, rfl, rfl, rfl, w3⟩ := open_int Try.underlying38 (hval 3 38 v3 rfl rfl) h3
  clear hA0 hval0
  refine (walk v0 v1 a2 a3 W (hval 0 24 v0 rfl rfl) k0 (hval 1 22 v1 rfl rfl) k1 w2 w3).mono fun e W' ⟨he, bel⟩ => ?_
  subst he
  exact ⟨_, rfl, _, _, _, [], _, [], hW', trodAll_mk1 (shut_bool Try.underlying4 _), (trodAll_cons_mk (Below.trod laidOut (by kernel_rfl) (of_decide_eq_true (by kernel_rfl)) k0 bel lt0) (trodAll_cons_mk (Below.trod laidOut (by kernel_rfl) (of_decide_eq_true (by kernel_rfl)) k1 bel lt1) (trodAll_cons_mk (shut_int Try.underlying3 w2) (trodAll_cons_mk (shut_int Try.underlying38 w3) trodAll_mk0)))), rfl, bel.frame _, fun h => by cases h⟩

theorem over : Rows.partsMissesRow.holds Try.pinned (OpenSpec.ofChange Rows.partsMissesSpec) :=
  OpenClaim.holds_of_wide 5 Try.f5 rfl rfl rfl rfl rfl rfl rfl ⟨rfl, rfl, rfl, rfl, rfl⟩ rfl rfl rfl rfl rfl (by kernel_rfl) Try.func5 (by kernel_rfl)
    (of_decide_eq_true (by kernel_rfl)) (by unfold Func.isWrapper; first | (rw [if_pos (by decide +kernel)]; kernel_rfl) | (rw [if_neg (by decide +kernel)]; exact ⟨rfl, rfl⟩))
    (fun os started H enc _ => lifted os started H enc)

theorem proved : Rows.PartsMissesSaid := over
#print axioms proved
end Go.Proofs.Ytdllngedmhihkaa.partsMisses

/- What PartsPlays' code answers. No condition. -/
import Derived.Test.YtdllngedmhihkaaV
import Derived.Deep.RegionWith
import Derived.Deep.RegionHeld3
import Derived.Deep.DeepCutAuto
import Derived.Outline
namespace Go.Proofs.Ytdllngedmhihkaa
open Go.ChangeShapes Go.WideShapes Go.ChangeAt Go.RowKit Go.Deep
set_option linter.unusedVariables false
/-- what the reference holds in this law, beside the Joiner at jb -/
def PlR (w : World) (hi R0 jb : Nat) (v : Value) (r : JS) (ra : Option Addr) (rc : Nat) : Prop :=
  Blk w R0 41 [.int .i64 r.most, .bool r.op, .int .i64 r.apid, .int .i64 r.last, .slice ra r.dat.length rc] ∧ ¬ JOwn jb v R0 ∧ hi ≤ R0 ∧ BAt w ra r.dat ∧ (r.dat = [] → ra = none ∧ rc = 0) ∧
  (∀ q, ra = some q → r.dat ≠ [] → q.block < w.heap.size ∧ q.block ≠ R0 ∧ ¬ JOwn jb v q.block)
theorem PlR.step {w w' : World} {hi R0 jb jb' : Nat} {v v' : Value} {r : JS} {ra : Option Addr} {rc : Nat} (h : PlR w hi R0 jb v r ra rc) (hF : Fr (JOwn jb v) w w') (ho : ∀ n, JOwn jb' v' n → JOwn jb v n ∨ w.heap.size ≤ n) : PlR w' hi R0 jb' v' r ra rc := by
  obtain ⟨h1, h2, h3, h4, h5, h6⟩ := h
  refine ⟨h1.fr hF h2, fun hn => ?_, h3, ?_, h5, fun q hq hne => ?_⟩
  · rcases ho R0 hn with h | h
    · exact h2 h
    · have := h1.lt; omega
  · by_cases hne : r.dat = []
    · exact .inl hne
    · exact h4.fr hF (fun p hp => (h6 p hp hne).2.2)
  · obtain ⟨k1, k2, k3⟩ := h6 q hq hne
    refine ⟨Nat.lt_of_lt_of_le k1 hF.size, k2, fun hn => ?_⟩
    rcases ho _ hn with h | h
    · exact k3 h
    · omega
/-- bytes do not lie in the reference's block -/
theorem apart41 {w : World} {R0 : Nat} {r : JS} {ra : Option Addr} {rc : Nat} (h : Blk w R0 41 [.int .i64 r.most, .bool r.op, .int .i64 r.apid, .int .i64 r.last, .slice ra r.dat.length rc]) {a : Option Addr} {l : List UInt8} (hb : BAt w a l) : l = [] ∨ ∀ p, a = some p → p.block ≠ R0 := by
  rcases hb with hb | ⟨b, off, h1, h2, h3⟩
  · exact .inl hb
  · by_cases hl : l = []
    · exact .inl hl
    · refine .inr fun p hp e => ?_
      rw [h1] at hp
      cases hp
      simp only at e
      subst e
      have := h3 0 (List.length_pos_iff.2 hl)
      rw [Nat.add_zero, h.cell off] at this
      match off with
      | 0 | 1 | 2 | 3 | 4 => simp at this
      | n + 5 => simp at this
theorem BAt.apart {w w' : World} {a : Option Addr} {l : List UInt8} {R0 : Nat} (h : BAt w a l) (hf : Fr (fun k => k = R0) w w') (ha : l = [] ∨ ∀ p, a = some p → p.block ≠ R0) : BAt w' a l := by
  rcases ha with ha | ha
  · exact .inl ha
  · exact h.fr hf ha
/-- the reference's block is written anew -/
theorem PlR.next {w w5 w6 : World} {hi R0 jb : Nat} {v : Value} {r r' : JS} {ra a1 : Option Addr} {rc c1 : Nat} {S : Nat → Prop} (h : PlR w hi R0 jb v r ra rc) (hJ : ∀ n, JOwn jb v n → n < w.heap.size) (hB : Below w.heap.size w w5) (hb : BAt w5 a1 r'.dat) (hn : r'.dat = [] → a1 = none ∧ c1 = 0) (ha : r'.dat ≠ [] → a1 = ra ∨ ∀ q, a1 = some q → w.heap.size ≤ q.block)
    (hF : Fr S w5 w6) (hSR : S R0) (hS : r'.dat = [] ∨ ∀ p, a1 = some p → ¬ S p.block) (hblk : Blk w6 R0 41 [.int .i64 r'.most, .bool r'.op, .int .i64 r'.apid, .int .i64 r'.last, .slice a1 r'.dat.length c1]) : PlR w6 hi R0 jb v r' a1 c1 := by
  obtain ⟨h1, h2, h3, h4, h5, h6⟩ := h
  have hb6 : BAt w6 a1 r'.dat := by
    rcases hS with e | e
    · exact .inl e
    · exact hb.fr hF e
  refine ⟨hblk, h2, h3, hb6, hn, fun q hq hne => ?_⟩
  have hq5 : q.block < w5.heap.size := by
    rcases hb with e | ⟨b, off, e, e2, _⟩
    · exact absurd e hne
    · rw [e] at hq; cases hq; exact e2
  refine ⟨Nat.lt_of_lt_of_le hq5 hF.size, fun e => (hS.resolve_left hne) q hq (by rw [e]; exact hSR), fun hj => ?_⟩
  rcases ha hne with e | e
  · have hrd : r.dat ≠ [] := by
      intro e0
      rw [e, (h5 e0).1] at hq
      cases hq
    rw [e] at hq
    exact (h6 q hq hrd).2.2 hj
  · have := e q hq
    have := hJ _ hj
    omega
theorem lit1 (w : World) (x : UInt8) (t : TypeId) : BAt (w.alloc (.cells #[.int .u8 (x.toNat : Int)] t)) (some ⟨w.heap.size, 0, none⟩) [x] := by
  refine .inr ⟨_, _, rfl, by simp, fun i hi => ?_⟩
  rw [Joins.cell_alloc_mark_at _ _ _ _ _ _ rfl]
  match i, hi with
  | 0, _ => rfl
theorem rel_len {s r : JS} (h : Rel s r) : r.dat.length = s.dat.length := by rw [h.2.2.1]
theorem JAt.own_lt {w : World} {b : Nat} {v : Value} {s : JS} (h : JAt w b v s) : ∀ n, JOwn b v n → n < w.heap.size := fun n hn => by
  rcases hn with h1 | h1
  · have := h.1.lt; omega
  · exact (h.2.1.lt n h1).2
theorem takeS_len (s : JS) (ap fl ct : Int) (l : List UInt8) : (takeS s ap fl ct l).1.dat.length ≤ s.dat.length + l.length := by
  have hd : ∀ s : JS, s.drop.dat.length = 0 := fun s => rfl
  unfold takeS
  split
  · simp only; omega
  · split
    · have := hd s; simp only; omega
    · have key : ∀ s1 : JS, s1.dat.length ≤ s.dat.length →
          (if s1.most - (s1.dat.length : Int) < l.length then (s1.drop, [], false, 6) else if fl = 1 ∨ fl = 0 then ((⟨true, s1.most, ap, ct, s1.dat ++ l⟩ : JS), [], false, 0) else ((⟨true, s1.most, ap, ct, s1.dat ++ l⟩ : JS).drop, s1.dat ++ l, true, 0) : JS × List UInt8 × Bool × Int).1.dat.length ≤ s.dat.length + l.length := by
        intro s1 h1
        have := hd s1
        by_cases h3 : s1.most - (s1.dat.length : Int) < l.length
        · rw [if_pos h3]
          simp only; omega
        · rw [if_neg h3]
          by_cases h4 : fl = 1 ∨ fl = 0
          · rw [if_pos h4]
            simp only [List.length_append]
            omega
          · rw [if_neg h4]
            have := hd ⟨true, s1.most, ap, ct, s1.dat ++ l⟩
            simp only; omega
      by_cases h5 : fl = 1 ∨ fl = 3
      · simp only [if_pos h5]
        exact key s.drop (by have := hd s; omega)
      · simp only [if_neg h5]
        exact key s (Nat.le_refl _)
theorem takeS_most (s : JS) (ap fl ct : Int) (l : List UInt8) : (takeS s ap fl ct l).1.most = s.most := by
  unfold takeS
  split
  · rfl
  · split
    · rfl
    · by_cases h5 : fl = 1 ∨ fl = 3
      · simp only [if_pos h5]
        split
        · rfl
        · split <;> rfl
      · simp only [if_neg h5]
        split
        · rfl
        · split <;> rfl
theorem rel_last {s r : JS} (h : Rel s r) : 0 ≤ r.last ∧ r.last < 16384 := by
  cases ho : s.op
  · rw [h.2.2.2.2.2 ho]; omega
  · obtain ⟨_, h2, h3⟩ := h.2.2.2.1 ho
    rw [h2]
    simpa [cntB] using h3
set_option maxRecDepth 20000 in
set_option maxHeartbeats 4000000 in
theorem walkF (a0 : Int) (v1 : Value) (w : World) (h0 : -9223372036854775808 ≤ a0 ∧ a0 ≤ 9223372036854775807) (l : List PK) (hl : Pks w w.heap.size v1 l) :
    Calls Try.prog 7 #[.int .i64 a0, v1, .bool false] w fun e w' => e = .returned (.bool true) ∧ Below w.heap.size w w' := by
  have HL := Lib.hid hl
  obtain ⟨-, sa, sc, rfl, -, -⟩ := hl
  obtain ⟨h01, h02⟩ := h0
  by_cases hn : l.length ≤ 60
  · have hn' : ¬ (60 : Int) < l.length := by omega
    go_enter Try.func7, Try.ntmps7
    go_wp2_with fail
    refine (new_any a0 _).mono ?_
    rintro e w1 ⟨rfl, hJ, hB1⟩
    have HJ1 := Lib.hid hJ
    have HB1 := Lib.hid hB1
    have hz1 : w.heap.size < w1.heap.size := hJ.1.lt
    clear hJ hB1
    go_wp2_with fail
    refine (rnew_any a0 _).mono ?_
    rintro e w2 ⟨rfl, hB2⟩
    unfold RV
    obtain ⟨w1s, hw1s⟩ : ∃ n, n = w.heap.size := ⟨_, rfl⟩
    have HJ : Hid (JAt (w2.alloc (.cells #[.int .i64 (max a0 0), .bool false, .int .i64 0, .int .i64 0, .slice none 0 0] 41)) w1s (.slice none 0 0) ⟨false, max a0 0, 0, 0, []⟩) := by
      subst hw1s; exact (HJ1.out.below hB2 (Nat.le_refl _)).below (al (Below.refl _ _) _) (Nat.le_refl _)
    have HO : Hid (∀ n, JOwn w1s (.slice none 0 0) n → w.heap.size ≤ n) := fun n hn => by
      rcases hn with h | h
      · omega
      · simp [Value.ownBlock] at h
    have hz2 := hB2.size
    have HPL : Hid (PlR (w2.alloc (.cells #[.int .i64 (max a0 0), .bool false, .int .i64 0, .int .i64 0, .slice none 0 0] 41)) w.heap.size w2.heap.size w1s (.slice none 0 0) ⟨false, max a0 0, 0, 0, []⟩ none 0) :=
      ⟨Blk.newAt rfl, fun hn => by rcases hn with h | h; omega; simp [Value.ownBlock] at h, by omega, BAt.nil _ _, fun _ => ⟨rfl, rfl⟩, fun q hq => by cases hq⟩
    have S3 : Hid (Below w.heap.size w (w2.alloc (.cells #[.int .i64 (max a0 0), .bool false, .int .i64 0, .int .i64 0, .slice none 0 0] 41))) := al (below2 HB1.out hB2) _
    have e1 : w.heap.size = w1s := hw1s.symm
    rw [show (Value.pointer (some ⟨w.heap.size, 0, none⟩)) = .pointer (some ⟨w1s, 0, none⟩) by rw [e1]]
    have E1 := Lib.hid e1
    clear e1 hw1s hB2
    go_wp2_with fail
    go_loopw [7, 9] (fun j i wr => ∃ (k jb : Nat) (v : Value) (s r : JS) (ra : Option Addr) (rc : Nat), k ≤ l.length ∧ i = .int .i64 k ∧ j = .pointer (some ⟨jb, 0, none⟩) ∧ JAt wr jb v s ∧ (∀ n, JOwn jb v n → w.heap.size ≤ n) ∧ PlR wr w.heap.size (w2.heap.size) jb v r ra rc ∧ Rel s r ∧ s.most = max a0 0 ∧ s.dat.length ≤ k * 100 ∧ Below w.heap.size w wr) (fun _ i _ => l.length - (intOf i).toNat)
    case atStart => exact ⟨0, w1s, .slice none 0 0, ⟨false, max a0 0, 0, 0, []⟩, ⟨false, max a0 0, 0, 0, []⟩, none, 0, by omega, rfl, rfl, HJ.out, HO.out, HPL.out, ⟨rfl, rfl, rfl, (fun h => by cases h), fun _ => rfl, fun _ => rfl⟩, rfl, by simp, S3.out⟩
    case round =>
      obtain ⟨k, jb, v, s, r, ra, rc, hk2, rfl, rfl, hJ, hO, hPl, hRel, hmo, hdl, hBr⟩ := hrel
      by_cases hlt : k < l.length
      · obtain ⟨-, aa, ac, e1, -, hPc⟩ := HL.out.same (Same.below hBr (Nat.le_refl _))
        obtain ⟨g1, o1, rfl, hP1⟩ := hPc.resolve_left (by intro h; rw [h] at hlt; simp at hlt)
        obtain ⟨rfl, -, rfl⟩ := Value.slice.inj e1
        obtain ⟨y1, t1, z1⟩ := (hP1 k hlt).pa
        have Z1 := Lib.hid z1
        obtain ⟨q0, q1, q2, q3, q4, q5⟩ := z1.walk
        have hg1 := Nat.lt_of_lt_of_le z1.1 hBr.size
        have hgw := z1.1
        clear e1 hP1 hPc z1
        have hki : (0 : Int) ≤ (k : Int) := by omega
        have hki2 : (k : Int) < (l.length : Int) := by omega
        have HJ := Lib.hid hJ
        have HO := Lib.hid hO
        have HPL := Lib.hid hPl
        have HREL := Lib.hid hRel
        have HMO := Lib.hid hmo
        have HBR := Lib.hid hBr
        have hww : w.heap.size ≤ wr.heap.size := hBr.size
        have hsd : s.dat.length ≤ 6000 := by omega
        clear hJ hO hPl hRel hmo hBr
        generalize l[k] = x at Z1 q0 q1 q2 q3 q4 q5
        by_cases hx : x.dat.length ≤ 100
        · have hx2 : ¬ (100 : Int) < x.dat.length := by omega
          go_wp2_with fail
          have hw5 := hww
          refine (take_pa (s := s) HJ.out Z1.out HO.out (by omega) (by omega) (by rw [HMO.out]; omega) (by rw [HMO.out]; omega)).mono ?_
          intro e w6 hq
          obtain ⟨v6, a6, c6, rfl, hJ6, hA6, -, hF6, hO6⟩ := hq
          have HP6 := Lib.hid (PlR.step (jb' := jb) (v' := v6) HPL.out hF6 (fun n hn => by
            rcases hn with h | h
            · exact .inl (.inl h)
            · rcases hO6 n h with h | h
              · exact .inl (.inr h)
              · exact .inr h))
          have HO6 := Lib.hid (show ∀ n, JOwn jb v6 n → w.heap.size ≤ n from fun n hn => by
            rcases hn with h | h
            · exact HO.out n (.inl h)
            · rcases hO6 n h with h | h
              · exact HO.out n (.inr h)
              · omega)
          have HB6 := Lib.hid (HBR.out.trans (hF6.toBelow hw5 HO.out))
          have z6 := Z1.out.same (Same.fr hF6 hw5 HO.out)
          have Z6 := Lib.hid z6
          have hw6 : w.heap.size ≤ w6.heap.size := Nat.le_trans hw5 hF6.size
          have hg6 : g1 < w6.heap.size := by omega
          have HJ6 := Lib.hid hJ6
          have HA6 := Lib.hid hA6
          clear q0 q1 q2 q3 q4 q5 hJ6 hA6 hF6 hO6
          obtain ⟨q0, q1, q2, q3, q4, q5⟩ := z6.walk
          have c0 := HP6.out.1.at 0 rfl
          have c1 := HP6.out.1.at 1 rfl
          have c2 := HP6.out.1.at 2 rfl
          have c3 := HP6.out.1.at 3 rfl
          have c4 := HP6.out.1.at 4 rfl
          have hR6 := HP6.out.1.lt
          clear z6
          go_wp2_with fail
          have hrl := rel_len HREL.out
          have hll := rel_last HREL.out
          have hrm : r.most = s.most := HREL.out.1
          have HRT : ∀ W : World, Below w6.heap.size w6 W → _ := fun W hW => RTake_any r ra rc x.cm x.sc x.ap x.fl x.ct y1 x.dat t1 W (HP6.out.2.2.2.1.below hW (Nat.le_refl _)) HP6.out.2.2.2.2.1 (Z6.out.2.2.1.below hW (Nat.le_refl _)) (by omega) (by omega) (by rw [hrm, HMO.out]; omega) (by rw [hrm, HMO.out]; omega) hll
          have HRT := Lib.hid HRT
          have n1 : w6.heap.size ≠ w2.heap.size := by omega
          have n2 : w6.heap.size ≠ g1 := by omega
          have n3 : w2.heap.size ≠ w6.heap.size := by omega
          have n4 : g1 ≠ w6.heap.size := by omega
          clear hrl hll hrm
          go_region_held3 (fun w' => (w'.cell? ⟨w2.heap.size, 0, none⟩ = some (.int .i64 r.most) ∧ w'.cell? ⟨w2.heap.size, 1, none⟩ = some (.bool r.op) ∧ w'.cell? ⟨w2.heap.size, 2, none⟩ = some (.int .i64 r.apid) ∧ w'.cell? ⟨w2.heap.size, 3, none⟩ = some (.int .i64 r.last) ∧ w'.cell? ⟨w2.heap.size, 4, none⟩ = some (.slice ra r.dat.length rc)) ∧
            w'.cell? ⟨g1, o1 + k * 6, none⟩ = some (.bool x.cm) ∧ w'.cell? ⟨g1, o1 + k * 6 + 1, none⟩ = some (.bool x.sc) ∧ w'.cell? ⟨g1, o1 + k * 6 + 2, none⟩ = some (.int .i64 x.ap) ∧ w'.cell? ⟨g1, o1 + k * 6 + 3, none⟩ = some (.int .i64 x.fl) ∧ w'.cell? ⟨g1, o1 + k * 6 + 4, none⟩ = some (.int .i64 x.ct) ∧ w'.cell? ⟨g1, o1 + k * 6 + 5, none⟩ = some (.slice y1 x.dat.length t1)) (go_keep)
            (first
              | (go_at_call 18; refine (HRT.out w6.drew (Below.refl _ _).drew).mono ?_; intro e w7 hq; obtain ⟨a7, c7, b7, d7, he, hb1, hn1, hb2, hB7, hf7⟩ := hq; unfold RV at he; subst he; have hB7 := undrew hB7; have hW6 := Nat.le_refl w6.heap.size; have HB7 := Lib.hid hB7; have HBB1 := Lib.hid hb1; have HN1 := Lib.hid hn1; have HBB2 := Lib.hid hb2; have HF7 := Lib.hid (show (takeR r x.ap x.fl x.ct x.dat).1.dat ≠ [] → a7 = ra ∨ ∀ q, a7 = some q → w6.heap.size ≤ q.block from fun h => (hf7 h).imp id (fun f q hq => Nat.le_trans (by first | exact Nat.le_refl _ | simp) (f q hq))); have HR7 := Lib.hid (HP6.out.1.below hB7 (Nat.le_refl _)); have r0 := HR7.out.at 0 rfl; have r1 := HR7.out.at 1 rfl; have r2 := HR7.out.at 2 rfl; have r3 := HR7.out.at 3 rfl; have r4 := HR7.out.at 4 rfl; have f0 := HR7.out.free 0; have f1 := HR7.out.free 1; have f2 := HR7.out.free 2; have f3 := HR7.out.free 3; have f4 := HR7.out.free 4; have hR7 := HR7.out.lt; have k0 := (hB7.cell (p := ⟨g1, o1 + k * 6, none⟩) hg6).trans q0; have k1 := (hB7.cell (p := ⟨g1, o1 + k * 6 + 1, none⟩) hg6).trans q1; have k2 := (hB7.cell (p := ⟨g1, o1 + k * 6 + 2, none⟩) hg6).trans q2; have k3 := (hB7.cell (p := ⟨g1, o1 + k * 6 + 3, none⟩) hg6).trans q3; have k4 := (hB7.cell (p := ⟨g1, o1 + k * 6 + 4, none⟩) hg6).trans q4; have k5 := (hB7.cell (p := ⟨g1, o1 + k * 6 + 5, none⟩) hg6).trans q5; have hg7 := Nat.lt_of_lt_of_le hg6 hB7.size; clear hb1 hn1 hb2 hf7 hB7)
              | (go_at_call 18; refine (HRT.out (w6.alloc (.cells #[.int .i64 0, .bool false, .int .i64 0, .int .i64 0, .slice none 0 0] 41)).drew (al (Below.refl _ _) _).drew).mono ?_; intro e w7 hq; obtain ⟨a7, c7, b7, d7, he, hb1, hn1, hb2, hB7, hf7⟩ := hq; unfold RV at he; subst he; have hB7 := undrew hB7; have HZ7 := Lib.hid ((Blk.new w6 41 [.int .i64 0, .bool false, .int .i64 0, .int .i64 0, .slice none 0 0]).below hB7 (Nat.le_refl _)); have s0 := HZ7.out.at 0 rfl; have s1 := HZ7.out.at 1 rfl; have s2 := HZ7.out.at 2 rfl; have s3 := HZ7.out.at 3 rfl; have s4 := HZ7.out.at 4 rfl; have t0 := HZ7.out.free 0; have tt1 := HZ7.out.free 1; have t2 := HZ7.out.free 2; have t3 := HZ7.out.free 3; have t4 := HZ7.out.free 4; have hZ7 := HZ7.out.lt; have hB7 := (al (Below.refl _ w6) _).trans (hB7.mono (by simp)); have HB7 := Lib.hid hB7; have HBB1 := Lib.hid hb1; have HN1 := Lib.hid hn1; have HBB2 := Lib.hid hb2; have HF7 := Lib.hid (show (takeR r x.ap x.fl x.ct x.dat).1.dat ≠ [] → a7 = ra ∨ ∀ q, a7 = some q → w6.heap.size ≤ q.block from fun h => (hf7 h).imp id (fun f q hq => Nat.le_trans (by first | exact Nat.le_refl _ | simp) (f q hq))); have HR7 := Lib.hid (HP6.out.1.below hB7 (Nat.le_refl _)); have r0 := HR7.out.at 0 rfl; have r1 := HR7.out.at 1 rfl; have r2 := HR7.out.at 2 rfl; have r3 := HR7.out.at 3 rfl; have r4 := HR7.out.at 4 rfl; have f0 := HR7.out.free 0; have f1 := HR7.out.free 1; have f2 := HR7.out.free 2; have f3 := HR7.out.free 3; have f4 := HR7.out.free 4; have hR7 := HR7.out.lt; have k0 := (hB7.cell (p := ⟨g1, o1 + k * 6, none⟩) hg6).trans q0; have k1 := (hB7.cell (p := ⟨g1, o1 + k * 6 + 1, none⟩) hg6).trans q1; have k2 := (hB7.cell (p := ⟨g1, o1 + k * 6 + 2, none⟩) hg6).trans q2; have k3 := (hB7.cell (p := ⟨g1, o1 + k * 6 + 3, none⟩) hg6).trans q3; have k4 := (hB7.cell (p := ⟨g1, o1 + k * 6 + 4, none⟩) hg6).trans q4; have k5 := (hB7.cell (p := ⟨g1, o1 + k * 6 + 5, none⟩) hg6).trans q5; have hg7 := Nat.lt_of_lt_of_le hg6 hB7.size; clear hb1 hn1 hb2 hf7 hB7))
          · have FIN := Lib.hid (show ∀ (S : Nat → Prop) (W : World), Fr S w7 W → S w2.heap.size → (∀ n, S n → n = w2.heap.size ∨ w6.heap.size ≤ n) → (∀ a l, BAt w7 a l → l = [] ∨ ∀ p, a = some p → ¬ S p.block) → Blk W w2.heap.size 41 [.int .i64 (takeR r x.ap x.fl x.ct x.dat).1.most, .bool (takeR r x.ap x.fl x.ct x.dat).1.op, .int .i64 (takeR r x.ap x.fl x.ct x.dat).1.apid, .int .i64 (takeR r x.ap x.fl x.ct x.dat).1.last, .slice a7 (takeR r x.ap x.fl x.ct x.dat).1.dat.length c7] → (PlR W w.heap.size w2.heap.size jb v6 (takeR r x.ap x.fl x.ct x.dat).1 a7 c7 ∧ JAt W jb v6 (takeS s x.ap x.fl x.ct x.dat).1 ∧ BAt W a6 (takeS s x.ap x.fl x.ct x.dat).2.1 ∧ BAt W b7 (takeR r x.ap x.fl x.ct x.dat).2.1 ∧ Below w.heap.size w W) by
              intro S W hF hS1 hS2 hS3 hblk
              have hJl := HJ6.out.own_lt
              have hb6 := HA6.out
              have bt : ∀ a l, BAt w7 a l → BAt W a l := fun a l hb => by
                rcases hS3 a l hb with e | e
                · exact .inl e
                · exact hb.fr hF e
              refine ⟨PlR.next HP6.out hJl HB7.out HBB1.out HN1.out HF7.out hF hS1 (hS3 _ _ HBB1.out) hblk, (HJ6.out.below HB7.out (Nat.le_refl _)).fr hF (fun n hn hs => ?_), bt _ _ (hb6.below HB7.out (Nat.le_refl _)), bt _ _ HBB2.out, (HB6.out.trans (HB7.out.mono hw6)).trans (hF.toBelow (Nat.le_trans hw6 HB7.out.size) (fun n hn => ?_))⟩
              · rcases hS2 n hs with e | e
                · subst e; exact HP6.out.2.1 hn
                · have := hJl n hn; omega
              · rcases hS2 n hn with e | e
                · have := HP6.out.2.2.1; omega
                · omega)
            go_upto_region 16 with fail
            go_cut [] (fun wx => PlR wx w.heap.size w2.heap.size jb v6 (takeR r x.ap x.fl x.ct x.dat).1 a7 c7 ∧ JAt wx jb v6 (takeS s x.ap x.fl x.ct x.dat).1 ∧ BAt wx a6 (takeS s x.ap x.fl x.ct x.dat).2.1 ∧ BAt wx b7 (takeR r x.ap x.fl x.ct x.dat).2.1 ∧ Below w.heap.size w wx)
            case first =>
              go_wp2_with fail
              go_meet
              case rel => exact FIN.out (fun n => n = w2.heap.size) _ (((((((Fr.refl _ w7).set1 _ (by exact .inl rfl)).set1 _ (by exact .inl rfl)).set1 _ (by exact .inl rfl)).set1 _ (by exact .inl rfl)).set1 _ (by exact .inl rfl)).alloc _) rfl (fun n hn => .inl hn) (fun a l hb => apart41 HR7.out hb) ((Blk.cast (((((HR7.out.setCell 0 _).setCell 1 _).setCell 2 _).setCell 3 _).setCell 4 _) rfl).alloc _)
            case rest =>
              obtain ⟨hP8, hJ8, hA8, hC8, hB8⟩ := hcut
              obtain ⟨hrt1, hrt2⟩ := rel_take HREL.out x.ap x.fl x.ct x.dat
              rw [hrt2] at hC8 ⊢
              have hlen := rel_len hrt1
              have d4 := hP8.1.at 4 rfl
              rw [hlen] at d4
              have hR8 := hP8.1.lt
              have hcv1 : ∀ n, (convert 22 9 (.slice a6 (takeS s x.ap x.fl x.ct x.dat).2.1.length c6)).run Try.prog (wc.drewN n) = .ok (.string ⟨(takeS s x.ap x.fl x.ct x.dat).2.1.toArray⟩) (wc.drewN n) := fun n => (show BAt (wc.drewN n) a6 _ from hA8).str 22 9 5 c6 Try.underlying22 Try.underlying5 Try.underlying9
              have hcv2 : ∀ n, (convert 22 9 (.slice b7 (takeS s x.ap x.fl x.ct x.dat).2.1.length d7)).run Try.prog (wc.drewN n) = .ok (.string ⟨(takeS s x.ap x.fl x.ct x.dat).2.1.toArray⟩) (wc.drewN n) := fun n => (show BAt (wc.drewN n) b7 _ from hC8).str 22 9 5 d7 Try.underlying22 Try.underlying5 Try.underlying9
              have hml : (takeS s x.ap x.fl x.ct x.dat).1.most = max a0 0 := by rw [takeS_most, HMO.out]
              have hdl2 : (takeS s x.ap x.fl x.ct x.dat).1.dat.length ≤ (k + 1) * 100 := by have := takeS_len s x.ap x.fl x.ct x.dat; omega
              have HML := Lib.hid hml
              have HP8 := Lib.hid hP8
              have HJ8 := Lib.hid hJ8
              have HB8 := Lib.hid hB8
              have HRT1 := Lib.hid hrt1
              clear hP8 hJ8 hA8 hC8 hB8 hrt1 hrt2 hlen hml r0 r1 r2 r3 r4 f0 f1 f2 f3 f4 k0 k1 k2 k3 k4 k5 q0 q1 q2 q3 q4 q5 c0 c1 c2 c3 c4 n1 n2 n3 n4
              have HC1 := Lib.hid (hcv1 1)
              have HC2 := Lib.hid (hcv2 1)
              clear hcv1 hcv2
              go_wp2_with fail
              go_region_held3 (fun w' => Sem.run Try.prog (convert 22 9 (.slice a6 (takeS s x.ap x.fl x.ct x.dat).2.1.length c6)) w' = .ok (.string ⟨(takeS s x.ap x.fl x.ct x.dat).2.1.toArray⟩) w' ∧ Sem.run Try.prog (convert 22 9 (.slice b7 (takeS s x.ap x.fl x.ct x.dat).2.1.length d7)) w' = .ok (.string ⟨(takeS s x.ap x.fl x.ct x.dat).2.1.toArray⟩) w' ∧ w'.cell? ⟨w2.heap.size, 4, none⟩ = some (.slice a7 (takeS s x.ap x.fl x.ct x.dat).1.dat.length c7)) (first | exact ⟨HC1.out, HC2.out, d4⟩ | go_keep) ((go_at_call 15; refine (pend_any jb v6 (takeS s x.ap x.fl x.ct x.dat).1 wc.drew HJ8.out).mono ?_; rintro e w' ⟨rfl, rfl⟩))
              all_goals
                go_wp2_with fail
                go_roundw
                case rel => exact ⟨k + 1, jb, v6, _, _, a7, c7, by omega, by go_num, rfl, HJ8.out, HO6.out, HP8.out, HRT1.out, HML.out, hdl2, HB8.out.drew⟩
                case measure => simp [intOf]; omega
          · have FIN := Lib.hid (show ∀ (S : Nat → Prop) (W : World), Fr S w7 W → S w2.heap.size → (∀ n, S n → n = w2.heap.size ∨ w6.heap.size ≤ n) → (∀ a l, BAt w7 a l → l = [] ∨ ∀ p, a = some p → ¬ S p.block) → Blk W w2.heap.size 41 [.int .i64 (takeR r x.ap x.fl x.ct x.dat).1.most, .bool (takeR r x.ap x.fl x.ct x.dat).1.op, .int .i64 (takeR r x.ap x.fl x.ct x.dat).1.apid, .int .i64 (takeR r x.ap x.fl x.ct x.dat).1.last, .slice a7 (takeR r x.ap x.fl x.ct x.dat).1.dat.length c7] → (PlR W w.heap.size w2.heap.size jb v6 (takeR r x.ap x.fl x.ct x.dat).1 a7 c7 ∧ JAt W jb v6 (takeS s x.ap x.fl x.ct x.dat).1 ∧ BAt W a6 (takeS s x.ap x.fl x.ct x.dat).2.1 ∧ BAt W b7 (takeR r x.ap x.fl x.ct x.dat).2.1 ∧ Below w.heap.size w W) by
              intro S W hF hS1 hS2 hS3 hblk
              have hJl := HJ6.out.own_lt
              have hb6 := HA6.out
              have bt : ∀ a l, BAt w7 a l → BAt W a l := fun a l hb => by
                rcases hS3 a l hb with e | e
                · exact .inl e
                · exact hb.fr hF e
              refine ⟨PlR.next HP6.out hJl HB7.out HBB1.out HN1.out HF7.out hF hS1 (hS3 _ _ HBB1.out) hblk, (HJ6.out.below HB7.out (Nat.le_refl _)).fr hF (fun n hn hs => ?_), bt _ _ (hb6.below HB7.out (Nat.le_refl _)), bt _ _ HBB2.out, (HB6.out.trans (HB7.out.mono hw6)).trans (hF.toBelow (Nat.le_trans hw6 HB7.out.size) (fun n hn => ?_))⟩
              · rcases hS2 n hs with e | e
                · subst e; exact HP6.out.2.1 hn
                · have := hJl n hn; omega
              · rcases hS2 n hn with e | e
                · have := HP6.out.2.2.1; omega
                · omega)
            go_upto_region 16 with fail
            go_cut [] (fun wx => PlR wx w.heap.size w2.heap.size jb v6 (takeR r x.ap x.fl x.ct x.dat).1 a7 c7 ∧ JAt wx jb v6 (takeS s x.ap x.fl x.ct x.dat).1 ∧ BAt wx a6 (takeS s x.ap x.fl x.ct x.dat).2.1 ∧ BAt wx b7 (takeR r x.ap x.fl x.ct x.dat).2.1 ∧ Below w.heap.size w wx)
            case first =>
              go_wp2_with fail
              go_meet
              case rel => exact FIN.out (fun n => n = w2.heap.size ∨ n = w6.heap.size) _ ((Fr.refl _ w7).set1 _ (by exact .inl (.inr rfl)) |>.set1 _ (by exact .inl (.inr rfl)) |>.set1 _ (by exact .inl (.inr rfl)) |>.set1 _ (by exact .inl (.inr rfl)) |>.set1 _ (by exact .inl (.inr rfl)) |>.set1 _ (by exact .inl (.inl rfl)) |>.set1 _ (by exact .inl (.inl rfl)) |>.set1 _ (by exact .inl (.inl rfl)) |>.set1 _ (by exact .inl (.inl rfl)) |>.set1 _ (by exact .inl (.inl rfl))) (.inl rfl) (fun n hn => hn.imp id (fun e => by omega)) (fun a l hb => by
                rcases apart41 HR7.out hb with e | e
                · exact .inl e
                · rcases apart41 (r := ⟨false, 0, 0, 0, []⟩) (ra := none) (rc := 0) HZ7.out hb with e2 | e2
                  · exact .inl e2
                  · exact .inr fun p hp h => by
                      rcases h with h | h
                      · exact e p hp h
                      · exact e2 p hp h) (Blk.cast (HR7.out.setOther (by exact n1) _ |>.setOther (by exact n1) _ |>.setOther (by exact n1) _ |>.setOther (by exact n1) _ |>.setOther (by exact n1) _ |>.setCell 0 _ |>.setCell 1 _ |>.setCell 2 _ |>.setCell 3 _ |>.setCell 4 _) rfl)
            case rest =>
              obtain ⟨hP8, hJ8, hA8, hC8, hB8⟩ := hcut
              obtain ⟨hrt1, hrt2⟩ := rel_take HREL.out x.ap x.fl x.ct x.dat
              rw [hrt2] at hC8 ⊢
              have hlen := rel_len hrt1
              have d4 := hP8.1.at 4 rfl
              rw [hlen] at d4
              have hR8 := hP8.1.lt
              have hcv1 : ∀ n, (convert 22 9 (.slice a6 (takeS s x.ap x.fl x.ct x.dat).2.1.length c6)).run Try.prog (wc.drewN n) = .ok (.string ⟨(takeS s x.ap x.fl x.ct x.dat).2.1.toArray⟩) (wc.drewN n) := fun n => (show BAt (wc.drewN n) a6 _ from hA8).str 22 9 5 c6 Try.underlying22 Try.underlying5 Try.underlying9
              have hcv2 : ∀ n, (convert 22 9 (.slice b7 (takeS s x.ap x.fl x.ct x.dat).2.1.length d7)).run Try.prog (wc.drewN n) = .ok (.string ⟨(takeS s x.ap x.fl x.ct x.dat).2.1.toArray⟩) (wc.drewN n) := fun n => (show BAt (wc.drewN n) b7 _ from hC8).str 22 9 5 d7 Try.underlying22 Try.underlying5 Try.underlying9
              have hml : (takeS s x.ap x.fl x.ct x.dat).1.most = max a0 0 := by rw [takeS_most, HMO.out]
              have hdl2 : (takeS s x.ap x.fl x.ct x.dat).1.dat.length ≤ (k + 1) * 100 := by have := takeS_len s x.ap x.fl x.ct x.dat; omega
              have HML := Lib.hid hml
              have HP8 := Lib.hid hP8
              have HJ8 := Lib.hid hJ8
              have HB8 := Lib.hid hB8
              have HRT1 := Lib.hid hrt1
              clear hP8 hJ8 hA8 hC8 hB8 hrt1 hrt2 hlen hml r0 r1 r2 r3 r4 f0 f1 f2 f3 f4 k0 k1 k2 k3 k4 k5 q0 q1 q2 q3 q4 q5 c0 c1 c2 c3 c4 n1 n2 n3 n4
              have HC1 := Lib.hid (hcv1 1)
              have HC2 := Lib.hid (hcv2 1)
              clear hcv1 hcv2
              go_wp2_with fail
              go_region_held3 (fun w' => Sem.run Try.prog (convert 22 9 (.slice a6 (takeS s x.ap x.fl x.ct x.dat).2.1.length c6)) w' = .ok (.string ⟨(takeS s x.ap x.fl x.ct x.dat).2.1.toArray⟩) w' ∧ Sem.run Try.prog (convert 22 9 (.slice b7 (takeS s x.ap x.fl x.ct x.dat).2.1.length d7)) w' = .ok (.string ⟨(takeS s x.ap x.fl x.ct x.dat).2.1.toArray⟩) w' ∧ w'.cell? ⟨w2.heap.size, 4, none⟩ = some (.slice a7 (takeS s x.ap x.fl x.ct x.dat).1.dat.length c7)) (first | exact ⟨HC1.out, HC2.out, d4⟩ | go_keep) ((go_at_call 15; refine (pend_any jb v6 (takeS s x.ap x.fl x.ct x.dat).1 wc.drew HJ8.out).mono ?_; rintro e w' ⟨rfl, rfl⟩))
              all_goals
                go_wp2_with fail
                go_roundw
                case rel => exact ⟨k + 1, jb, v6, _, _, a7, c7, by omega, by go_num, rfl, HJ8.out, HO6.out, HP8.out, HRT1.out, HML.out, hdl2, HB8.out.drew⟩
                case measure => simp [intOf]; omega
        · have hx2 : (100 : Int) < x.dat.length := by omega
          go_wp2_with fail
          refine (alive_any _).mono ?_
          rintro e w9 ⟨rfl, hB9⟩
          go_wp2_with fail
          go_ret
          exact ⟨rfl, below2 HBR.out hB9⟩
      · have hlt' : ¬ (k : Int) < (l.length : Int) := by omega
        have HBR := Lib.hid hBr
        clear hJ hO hPl hRel hmo hBr
        go_wp2_with fail
        refine (alive_any _).mono ?_
        rintro e w9 ⟨rfl, hB9⟩
        go_wp2_with fail
        go_ret
        exact ⟨rfl, below2 HBR.out hB9⟩
  · have hn' : (60 : Int) < l.length := by omega
    go_enter Try.func7, Try.ntmps7
    go_wp2_with fail
    refine (alive_any _).mono ?_
    rintro e w2 ⟨rfl, hB2⟩
    go_wp2_with fail
    go_ret
    exact ⟨rfl, hB2⟩
set_option maxRecDepth 20000 in
set_option maxHeartbeats 4000000 in
theorem walkT (a0 : Int) (v1 : Value) (w : World) (h0 : -9223372036854775808 ≤ a0 ∧ a0 ≤ 9223372036854775807) (l : List PK) (hl : Pks w w.heap.size v1 l) :
    Calls Try.prog 7 #[.int .i64 a0, v1, .bool true] w fun e w' => e = .returned (.bool true) ∧ Below w.heap.size w w' := by
  have HL := Lib.hid hl
  obtain ⟨-, sa, sc, rfl, -, -⟩ := hl
  obtain ⟨h01, h02⟩ := h0
  by_cases hn : l.length ≤ 60
  · have hn' : ¬ (60 : Int) < l.length := by omega
    go_enter Try.func7, Try.ntmps7
    go_wp2_with fail
    refine (new_any a0 _).mono ?_
    rintro e w1 ⟨rfl, hJ, hB1⟩
    have HJ1 := Lib.hid hJ
    have HB1 := Lib.hid hB1
    have hz1 : w.heap.size < w1.heap.size := hJ.1.lt
    clear hJ hB1
    go_wp2_with fail
    refine (rnew_any a0 _).mono ?_
    rintro e w2 ⟨rfl, hB2⟩
    unfold RV
    obtain ⟨w1s, hw1s⟩ : ∃ n, n = w.heap.size := ⟨_, rfl⟩
    have HJ : Hid (JAt (w2.alloc (.cells #[.int .i64 (max a0 0), .bool false, .int .i64 0, .int .i64 0, .slice none 0 0] 41)) w1s (.slice none 0 0) ⟨false, max a0 0, 0, 0, []⟩) := by
      subst hw1s; exact (HJ1.out.below hB2 (Nat.le_refl _)).below (al (Below.refl _ _) _) (Nat.le_refl _)
    have HO : Hid (∀ n, JOwn w1s (.slice none 0 0) n → w.heap.size ≤ n) := fun n hn => by
      rcases hn with h | h
      · omega
      · simp [Value.ownBlock] at h
    have hz2 := hB2.size
    have HPL : Hid (PlR (w2.alloc (.cells #[.int .i64 (max a0 0), .bool false, .int .i64 0, .int .i64 0, .slice none 0 0] 41)) w.heap.size w2.heap.size w1s (.slice none 0 0) ⟨false, max a0 0, 0, 0, []⟩ none 0) :=
      ⟨Blk.newAt rfl, fun hn => by rcases hn with h | h; omega; simp [Value.ownBlock] at h, by omega, BAt.nil _ _, fun _ => ⟨rfl, rfl⟩, fun q hq => by cases hq⟩
    have S3 : Hid (Below w.heap.size w (w2.alloc (.cells #[.int .i64 (max a0 0), .bool false, .int .i64 0, .int .i64 0, .slice none 0 0] 41))) := al (below2 HB1.out hB2) _
    have e1 : w.heap.size = w1s := hw1s.symm
    rw [show (Value.pointer (some ⟨w.heap.size, 0, none⟩)) = .pointer (some ⟨w1s, 0, none⟩) by rw [e1]]
    have E1 := Lib.hid e1
    clear e1 hw1s hB2
    go_wp2_with fail
    go_loopw [7, 9] (fun j i wr => ∃ (k jb : Nat) (v : Value) (s r : JS) (ra : Option Addr) (rc : Nat), k ≤ l.length ∧ i = .int .i64 k ∧ j = .pointer (some ⟨jb, 0, none⟩) ∧ JAt wr jb v s ∧ (∀ n, JOwn jb v n → w.heap.size ≤ n) ∧ PlR wr w.heap.size (w2.heap.size) jb v r ra rc ∧ Rel s r ∧ s.most = max a0 0 ∧ s.dat.length ≤ k * 100 ∧ Below w.heap.size w wr) (fun _ i _ => l.length - (intOf i).toNat)
    case atStart => exact ⟨0, w1s, .slice none 0 0, ⟨false, max a0 0, 0, 0, []⟩, ⟨false, max a0 0, 0, 0, []⟩, none, 0, by omega, rfl, rfl, HJ.out, HO.out, HPL.out, ⟨rfl, rfl, rfl, (fun h => by cases h), fun _ => rfl, fun _ => rfl⟩, rfl, by simp, S3.out⟩
    case round =>
      obtain ⟨k, jb, v, s, r, ra, rc, hk2, rfl, rfl, hJ, hO, hPl, hRel, hmo, hdl, hBr⟩ := hrel
      by_cases hlt : k < l.length
      · obtain ⟨-, aa, ac, e1, -, hPc⟩ := HL.out.same (Same.below hBr (Nat.le_refl _))
        obtain ⟨g1, o1, rfl, hP1⟩ := hPc.resolve_left (by intro h; rw [h] at hlt; simp at hlt)
        obtain ⟨rfl, -, rfl⟩ := Value.slice.inj e1
        obtain ⟨y1, t1, z1⟩ := (hP1 k hlt).pa
        have Z1 := Lib.hid z1
        obtain ⟨q0, q1, q2, q3, q4, q5⟩ := z1.walk
        have hg1 := Nat.lt_of_lt_of_le z1.1 hBr.size
        have hgw := z1.1
        clear e1 hP1 hPc z1
        have hki : (0 : Int) ≤ (k : Int) := by omega
        have hki2 : (k : Int) < (l.length : Int) := by omega
        have HJ := Lib.hid hJ
        have HO := Lib.hid hO
        have HPL := Lib.hid hPl
        have HREL := Lib.hid hRel
        have HMO := Lib.hid hmo
        have HBR := Lib.hid hBr
        have hww : w.heap.size ≤ wr.heap.size := hBr.size
        have hsd : s.dat.length ≤ 6000 := by omega
        clear hJ hO hPl hRel hmo hBr
        generalize l[k] = x at Z1 q0 q1 q2 q3 q4 q5
        by_cases hx : x.dat.length ≤ 100
        · have hx2 : ¬ (100 : Int) < x.dat.length := by omega
          go_wp2_with fail
          refine (clone_any jb v s _ HJ.out (by omega)).mono ?_
          rintro e w4 ⟨v4, rfl, hJ4, hO4, hB4⟩
          have HJ4 := Lib.hid hJ4
          have HO4 := Lib.hid hO4
          have HB4 := Lib.hid hB4
          have HJo := Lib.hid (HJ.out.below hB4 (Nat.le_refl _))
          have hz4 := hB4.size
          clear hJ4 hO4 hB4
          go_wp2_with fail
          refine (Take_any jb v s false false 0 1 0 _ [1] 1 _ (HJo.out.below (al (Below.refl _ _) _) (Nat.le_refl _)) (by simp) (by omega) (by rw [HMO.out]; omega) (by rw [HMO.out]; omega) (lit1 _ _ _) (fun _ p hp e => by cases hp; have := (HJo.out.2.1.lt _ e).2; simp at this)).mono ?_
          intro e w5 hq
          obtain ⟨vq, aq, cq, rfl, -, -, -, hF5, -⟩ := hq
          have HF5 := Lib.hid (((Fr.refl (JOwn jb v) w4).alloc _).then hF5 (fun n hn => .inl hn))
          have HF := Lib.hid ((Fr.of_below (S := JOwn jb v) HB4.out (Nat.le_refl _)).trans HF5.out)
          have hjn := HJ.out.own_lt
          have hjw : ∀ n, JOwn wr.heap.size v4 n → wr.heap.size ≤ n := fun n hn => by
            rcases hn with h | h
            · omega
            · exact HO4.out n h
          have HJ5 := Lib.hid (HJ4.out.fr HF5.out (fun n hn hn2 => by have := hjn n hn2; have := hjw n hn; omega))
          have HP5 := Lib.hid (PlR.step (jb' := wr.heap.size) (v' := v4) HPL.out HF.out (fun n hn => .inr (hjw n hn)))
          have HO5 := Lib.hid (show ∀ n, JOwn wr.heap.size v4 n → w.heap.size ≤ n from fun n hn => by have := hjw n hn; omega)
          have HB5 := Lib.hid (HBR.out.trans (HF.out.toBelow hww HO.out))
          have z5 := Z1.out.same (Same.fr HF.out hww HO.out)
          have Z5 := Lib.hid z5
          have hg5 : g1 < w5.heap.size := Nat.lt_of_lt_of_le hg1 HF.out.size
          have hw5 : w.heap.size ≤ w5.heap.size := Nat.le_trans hww HF.out.size
          clear hF5 hjn hjw q0 q1 q2 q3 q4 q5 hg1 hz4
          obtain ⟨q0, q1, q2, q3, q4, q5⟩ := z5.walk
          clear z5
          go_wp2_with fail
          refine (take_pa (s := s) HJ5.out Z5.out HO5.out (by omega) (by omega) (by rw [HMO.out]; omega) (by rw [HMO.out]; omega)).mono ?_
          intro e w6 hq
          obtain ⟨v6, a6, c6, rfl, hJ6, hA6, -, hF6, hO6⟩ := hq
          have HP6 := Lib.hid (PlR.step (jb' := wr.heap.size) (v' := v6) HP5.out hF6 (fun n hn => by
            rcases hn with h | h
            · exact .inl (.inl h)
            · rcases hO6 n h with h | h
              · exact .inl (.inr h)
              · exact .inr h))
          have HO6 := Lib.hid (show ∀ n, JOwn wr.heap.size v6 n → w.heap.size ≤ n from fun n hn => by
            rcases hn with h | h
            · exact HO5.out n (.inl h)
            · rcases hO6 n h with h | h
              · exact HO5.out n (.inr h)
              · omega)
          have HB6 := Lib.hid (HB5.out.trans (hF6.toBelow hw5 HO5.out))
          have z6 := Z5.out.same (Same.fr hF6 hw5 HO5.out)
          have Z6 := Lib.hid z6
          have hw6 : w.heap.size ≤ w6.heap.size := Nat.le_trans hw5 hF6.size
          have hg6 : g1 < w6.heap.size := by omega
          have HJ6 := Lib.hid hJ6
          have HA6 := Lib.hid hA6
          clear q0 q1 q2 q3 q4 q5 hJ6 hA6 hF6 hO6
          obtain ⟨q0, q1, q2, q3, q4, q5⟩ := z6.walk
          have c0 := HP6.out.1.at 0 rfl
          have c1 := HP6.out.1.at 1 rfl
          have c2 := HP6.out.1.at 2 rfl
          have c3 := HP6.out.1.at 3 rfl
          have c4 := HP6.out.1.at 4 rfl
          have hR6 := HP6.out.1.lt
          clear z6
          go_wp2_with fail
          have hrl := rel_len HREL.out
          have hll := rel_last HREL.out
          have hrm : r.most = s.most := HREL.out.1
          have HRT : ∀ W : World, Below w6.heap.size w6 W → _ := fun W hW => RTake_any r ra rc x.cm x.sc x.ap x.fl x.ct y1 x.dat t1 W (HP6.out.2.2.2.1.below hW (Nat.le_refl _)) HP6.out.2.2.2.2.1 (Z6.out.2.2.1.below hW (Nat.le_refl _)) (by omega) (by omega) (by rw [hrm, HMO.out]; omega) (by rw [hrm, HMO.out]; omega) hll
          have HRT := Lib.hid HRT
          have n1 : w6.heap.size ≠ w2.heap.size := by omega
          have n2 : w6.heap.size ≠ g1 := by omega
          have n3 : w2.heap.size ≠ w6.heap.size := by omega
          have n4 : g1 ≠ w6.heap.size := by omega
          clear hrl hll hrm
          go_region_held3 (fun w' => (w'.cell? ⟨w2.heap.size, 0, none⟩ = some (.int .i64 r.most) ∧ w'.cell? ⟨w2.heap.size, 1, none⟩ = some (.bool r.op) ∧ w'.cell? ⟨w2.heap.size, 2, none⟩ = some (.int .i64 r.apid) ∧ w'.cell? ⟨w2.heap.size, 3, none⟩ = some (.int .i64 r.last) ∧ w'.cell? ⟨w2.heap.size, 4, none⟩ = some (.slice ra r.dat.length rc)) ∧
            w'.cell? ⟨g1, o1 + k * 6, none⟩ = some (.bool x.cm) ∧ w'.cell? ⟨g1, o1 + k * 6 + 1, none⟩ = some (.bool x.sc) ∧ w'.cell? ⟨g1, o1 + k * 6 + 2, none⟩ = some (.int .i64 x.ap) ∧ w'.cell? ⟨g1, o1 + k * 6 + 3, none⟩ = some (.int .i64 x.fl) ∧ w'.cell? ⟨g1, o1 + k * 6 + 4, none⟩ = some (.int .i64 x.ct) ∧ w'.cell? ⟨g1, o1 + k * 6 + 5, none⟩ = some (.slice y1 x.dat.length t1)) (go_keep)
            (first
              | (go_at_call 18; refine (HRT.out w6.drew (Below.refl _ _).drew).mono ?_; intro e w7 hq; obtain ⟨a7, c7, b7, d7, he, hb1, hn1, hb2, hB7, hf7⟩ := hq; unfold RV at he; subst he; have hB7 := undrew hB7; have hW6 := Nat.le_refl w6.heap.size; have HB7 := Lib.hid hB7; have HBB1 := Lib.hid hb1; have HN1 := Lib.hid hn1; have HBB2 := Lib.hid hb2; have HF7 := Lib.hid (show (takeR r x.ap x.fl x.ct x.dat).1.dat ≠ [] → a7 = ra ∨ ∀ q, a7 = some q → w6.heap.size ≤ q.block from fun h => (hf7 h).imp id (fun f q hq => Nat.le_trans (by first | exact Nat.le_refl _ | simp) (f q hq))); have HR7 := Lib.hid (HP6.out.1.below hB7 (Nat.le_refl _)); have r0 := HR7.out.at 0 rfl; have r1 := HR7.out.at 1 rfl; have r2 := HR7.out.at 2 rfl; have r3 := HR7.out.at 3 rfl; have r4 := HR7.out.at 4 rfl; have f0 := HR7.out.free 0; have f1 := HR7.out.free 1; have f2 := HR7.out.free 2; have f3 := HR7.out.free 3; have f4 := HR7.out.free 4; have hR7 := HR7.out.lt; have k0 := (hB7.cell (p := ⟨g1, o1 + k * 6, none⟩) hg6).trans q0; have k1 := (hB7.cell (p := ⟨g1, o1 + k * 6 + 1, none⟩) hg6).trans q1; have k2 := (hB7.cell (p := ⟨g1, o1 + k * 6 + 2, none⟩) hg6).trans q2; have k3 := (hB7.cell (p := ⟨g1, o1 + k * 6 + 3, none⟩) hg6).trans q3; have k4 := (hB7.cell (p := ⟨g1, o1 + k * 6 + 4, none⟩) hg6).trans q4; have k5 := (hB7.cell (p := ⟨g1, o1 + k * 6 + 5, none⟩) hg6).trans q5; have hg7 := Nat.lt_of_lt_of_le hg6 hB7.size; clear hb1 hn1 hb2 hf7 hB7)
              | (go_at_call 18; refine (HRT.out (w6.alloc (.cells #[.int .i64 0, .bool false, .int .i64 0, .int .i64 0, .slice none 0 0] 41)).drew (al (Below.refl _ _) _).drew).mono ?_; intro e w7 hq; obtain ⟨a7, c7, b7, d7, he, hb1, hn1, hb2, hB7, hf7⟩ := hq; unfold RV at he; subst he; have hB7 := undrew hB7; have HZ7 := Lib.hid ((Blk.new w6 41 [.int .i64 0, .bool false, .int .i64 0, .int .i64 0, .slice none 0 0]).below hB7 (Nat.le_refl _)); have s0 := HZ7.out.at 0 rfl; have s1 := HZ7.out.at 1 rfl; have s2 := HZ7.out.at 2 rfl; have s3 := HZ7.out.at 3 rfl; have s4 := HZ7.out.at 4 rfl; have t0 := HZ7.out.free 0; have tt1 := HZ7.out.free 1; have t2 := HZ7.out.free 2; have t3 := HZ7.out.free 3; have t4 := HZ7.out.free 4; have hZ7 := HZ7.out.lt; have hB7 := (al (Below.refl _ w6) _).trans (hB7.mono (by simp)); have HB7 := Lib.hid hB7; have HBB1 := Lib.hid hb1; have HN1 := Lib.hid hn1; have HBB2 := Lib.hid hb2; have HF7 := Lib.hid (show (takeR r x.ap x.fl x.ct x.dat).1.dat ≠ [] → a7 = ra ∨ ∀ q, a7 = some q → w6.heap.size ≤ q.block from fun h => (hf7 h).imp id (fun f q hq => Nat.le_trans (by first | exact Nat.le_refl _ | simp) (f q hq))); have HR7 := Lib.hid (HP6.out.1.below hB7 (Nat.le_refl _)); have r0 := HR7.out.at 0 rfl; have r1 := HR7.out.at 1 rfl; have r2 := HR7.out.at 2 rfl; have r3 := HR7.out.at 3 rfl; have r4 := HR7.out.at 4 rfl; have f0 := HR7.out.free 0; have f1 := HR7.out.free 1; have f2 := HR7.out.free 2; have f3 := HR7.out.free 3; have f4 := HR7.out.free 4; have hR7 := HR7.out.lt; have k0 := (hB7.cell (p := ⟨g1, o1 + k * 6, none⟩) hg6).trans q0; have k1 := (hB7.cell (p := ⟨g1, o1 + k * 6 + 1, none⟩) hg6).trans q1; have k2 := (hB7.cell (p := ⟨g1, o1 + k * 6 + 2, none⟩) hg6).trans q2; have k3 := (hB7.cell (p := ⟨g1, o1 + k * 6 + 3, none⟩) hg6).trans q3; have k4 := (hB7.cell (p := ⟨g1, o1 + k * 6 + 4, none⟩) hg6).trans q4; have k5 := (hB7.cell (p := ⟨g1, o1 + k * 6 + 5, none⟩) hg6).trans q5; have hg7 := Nat.lt_of_lt_of_le hg6 hB7.size; clear hb1 hn1 hb2 hf7 hB7))
          · have FIN := Lib.hid (show ∀ (S : Nat → Prop) (W : World), Fr S w7 W → S w2.heap.size → (∀ n, S n → n = w2.heap.size ∨ w6.heap.size ≤ n) → (∀ a l, BAt w7 a l → l = [] ∨ ∀ p, a = some p → ¬ S p.block) → Blk W w2.heap.size 41 [.int .i64 (takeR r x.ap x.fl x.ct x.dat).1.most, .bool (takeR r x.ap x.fl x.ct x.dat).1.op, .int .i64 (takeR r x.ap x.fl x.ct x.dat).1.apid, .int .i64 (takeR r x.ap x.fl x.ct x.dat).1.last, .slice a7 (takeR r x.ap x.fl x.ct x.dat).1.dat.length c7] → (PlR W w.heap.size w2.heap.size wr.heap.size v6 (takeR r x.ap x.fl x.ct x.dat).1 a7 c7 ∧ JAt W wr.heap.size v6 (takeS s x.ap x.fl x.ct x.dat).1 ∧ BAt W a6 (takeS s x.ap x.fl x.ct x.dat).2.1 ∧ BAt W b7 (takeR r x.ap x.fl x.ct x.dat).2.1 ∧ Below w.heap.size w W) by
              intro S W hF hS1 hS2 hS3 hblk
              have hJl := HJ6.out.own_lt
              have hb6 := HA6.out
              have bt : ∀ a l, BAt w7 a l → BAt W a l := fun a l hb => by
                rcases hS3 a l hb with e | e
                · exact .inl e
                · exact hb.fr hF e
              refine ⟨PlR.next HP6.out hJl HB7.out HBB1.out HN1.out HF7.out hF hS1 (hS3 _ _ HBB1.out) hblk, (HJ6.out.below HB7.out (Nat.le_refl _)).fr hF (fun n hn hs => ?_), bt _ _ (hb6.below HB7.out (Nat.le_refl _)), bt _ _ HBB2.out, (HB6.out.trans (HB7.out.mono hw6)).trans (hF.toBelow (Nat.le_trans hw6 HB7.out.size) (fun n hn => ?_))⟩
              · rcases hS2 n hs with e | e
                · subst e; exact HP6.out.2.1 hn
                · have := hJl n hn; omega
              · rcases hS2 n hn with e | e
                · have := HP6.out.2.2.1; omega
                · omega)
            go_upto_region 16 with fail
            go_cut [] (fun wx => PlR wx w.heap.size w2.heap.size wr.heap.size v6 (takeR r x.ap x.fl x.ct x.dat).1 a7 c7 ∧ JAt wx wr.heap.size v6 (takeS s x.ap x.fl x.ct x.dat).1 ∧ BAt wx a6 (takeS s x.ap x.fl x.ct x.dat).2.1 ∧ BAt wx b7 (takeR r x.ap x.fl x.ct x.dat).2.1 ∧ Below w.heap.size w wx)
            case first =>
              go_wp2_with fail
              go_meet
              case rel => exact FIN.out (fun n => n = w2.heap.size) _ (((((((Fr.refl _ w7).set1 _ (by exact .inl rfl)).set1 _ (by exact .inl rfl)).set1 _ (by exact .inl rfl)).set1 _ (by exact .inl rfl)).set1 _ (by exact .inl rfl)).alloc _) rfl (fun n hn => .inl hn) (fun a l hb => apart41 HR7.out hb) ((Blk.cast (((((HR7.out.setCell 0 _).setCell 1 _).setCell 2 _).setCell 3 _).setCell 4 _) rfl).alloc _)
            case rest =>
              obtain ⟨hP8, hJ8, hA8, hC8, hB8⟩ := hcut
              obtain ⟨hrt1, hrt2⟩ := rel_take HREL.out x.ap x.fl x.ct x.dat
              rw [hrt2] at hC8 ⊢
              have hlen := rel_len hrt1
              have d4 := hP8.1.at 4 rfl
              rw [hlen] at d4
              have hR8 := hP8.1.lt
              have hcv1 : ∀ n, (convert 22 9 (.slice a6 (takeS s x.ap x.fl x.ct x.dat).2.1.length c6)).run Try.prog (wc.drewN n) = .ok (.string ⟨(takeS s x.ap x.fl x.ct x.dat).2.1.toArray⟩) (wc.drewN n) := fun n => (show BAt (wc.drewN n) a6 _ from hA8).str 22 9 5 c6 Try.underlying22 Try.underlying5 Try.underlying9
              have hcv2 : ∀ n, (convert 22 9 (.slice b7 (takeS s x.ap x.fl x.ct x.dat).2.1.length d7)).run Try.prog (wc.drewN n) = .ok (.string ⟨(takeS s x.ap x.fl x.ct x.dat).2.1.toArray⟩) (wc.drewN n) := fun n => (show BAt (wc.drewN n) b7 _ from hC8).str 22 9 5 d7 Try.underlying22 Try.underlying5 Try.underlying9
              have hml : (takeS s x.ap x.fl x.ct x.dat).1.most = max a0 0 := by rw [takeS_most, HMO.out]
              have hdl2 : (takeS s x.ap x.fl x.ct x.dat).1.dat.length ≤ (k + 1) * 100 := by have := takeS_len s x.ap x.fl x.ct x.dat; omega
              have HML := Lib.hid hml
              have HP8 := Lib.hid hP8
              have HJ8 := Lib.hid hJ8
              have HB8 := Lib.hid hB8
              have HRT1 := Lib.hid hrt1
              clear hP8 hJ8 hA8 hC8 hB8 hrt1 hrt2 hlen hml r0 r1 r2 r3 r4 f0 f1 f2 f3 f4 k0 k1 k2 k3 k4 k5 q0 q1 q2 q3 q4 q5 c0 c1 c2 c3 c4 n1 n2 n3 n4
              have HC1 := Lib.hid (hcv1 1)
              have HC2 := Lib.hid (hcv2 1)
              clear hcv1 hcv2
              go_wp2_with fail
              go_region_held3 (fun w' => Sem.run Try.prog (convert 22 9 (.slice a6 (takeS s x.ap x.fl x.ct x.dat).2.1.length c6)) w' = .ok (.string ⟨(takeS s x.ap x.fl x.ct x.dat).2.1.toArray⟩) w' ∧ Sem.run Try.prog (convert 22 9 (.slice b7 (takeS s x.ap x.fl x.ct x.dat).2.1.length d7)) w' = .ok (.string ⟨(takeS s x.ap x.fl x.ct x.dat).2.1.toArray⟩) w' ∧ w'.cell? ⟨w2.heap.size, 4, none⟩ = some (.slice a7 (takeS s x.ap x.fl x.ct x.dat).1.dat.length c7)) (first | exact ⟨HC1.out, HC2.out, d4⟩ | go_keep) ((go_at_call 15; refine (pend_any wr.heap.size v6 (takeS s x.ap x.fl x.ct x.dat).1 wc.drew HJ8.out).mono ?_; rintro e w' ⟨rfl, rfl⟩))
              all_goals
                go_wp2_with fail
                go_roundw
                case rel => exact ⟨k + 1, wr.heap.size, v6, _, _, a7, c7, by omega, by go_num, rfl, HJ8.out, HO6.out, HP8.out, HRT1.out, HML.out, hdl2, HB8.out.drew⟩
                case measure => simp [intOf]; omega
          · have FIN := Lib.hid (show ∀ (S : Nat → Prop) (W : World), Fr S w7 W → S w2.heap.size → (∀ n, S n → n = w2.heap.size ∨ w6.heap.size ≤ n) → (∀ a l, BAt w7 a l → l = [] ∨ ∀ p, a = some p → ¬ S p.block) → Blk W w2.heap.size 41 [.int .i64 (takeR r x.ap x.fl x.ct x.dat).1.most, .bool (takeR r x.ap x.fl x.ct x.dat).1.op, .int .i64 (takeR r x.ap x.fl x.ct x.dat).1.apid, .int .i64 (takeR r x.ap x.fl x.ct x.dat).1.last, .slice a7 (takeR r x.ap x.fl x.ct x.dat).1.dat.length c7] → (PlR W w.heap.size w2.heap.size wr.heap.size v6 (takeR r x.ap x.fl x.ct x.dat).1 a7 c7 ∧ JAt W wr.heap.size v6 (takeS s x.ap x.fl x.ct x.dat).1 ∧ BAt W a6 (takeS s x.ap x.fl x.ct x.dat).2.1 ∧ BAt W b7 (takeR r x.ap x.fl x.ct x.dat).2.1 ∧ Below w.heap.size w W) by
              intro S W hF hS1 hS2 hS3 hblk
              have hJl := HJ6.out.own_lt
              have hb6 := HA6.out
              have bt : ∀ a l, BAt w7 a l → BAt W a l := fun a l hb => by
                rcases hS3 a l hb with e | e
                · exact .inl e
                · exact hb.fr hF e
              refine ⟨PlR.next HP6.out hJl HB7.out HBB1.out HN1.out HF7.out hF hS1 (hS3 _ _ HBB1.out) hblk, (HJ6.out.below HB7.out (Nat.le_refl _)).fr hF (fun n hn hs => ?_), bt _ _ (hb6.below HB7.out (Nat.le_refl _)), bt _ _ HBB2.out, (HB6.out.trans (HB7.out.mono hw6)).trans (hF.toBelow (Nat.le_trans hw6 HB7.out.size) (fun n hn => ?_))⟩
              · rcases hS2 n hs with e | e
                · subst e; exact HP6.out.2.1 hn
                · have := hJl n hn; omega
              · rcases hS2 n hn with e | e
                · have := HP6.out.2.2.1; omega
                · omega)
            go_upto_region 16 with fail
            go_cut [] (fun wx => PlR wx w.heap.size w2.heap.size wr.heap.size v6 (takeR r x.ap x.fl x.ct x.dat).1 a7 c7 ∧ JAt wx wr.heap.size v6 (takeS s x.ap x.fl x.ct x.dat).1 ∧ BAt wx a6 (takeS s x.ap x.fl x.ct x.dat).2.1 ∧ BAt wx b7 (takeR r x.ap x.fl x.ct x.dat).2.1 ∧ Below w.heap.size w wx)
            case first =>
              go_wp2_with fail
              go_meet
              case rel => exact FIN.out (fun n => n = w2.heap.size ∨ n = w6.heap.size) _ ((Fr.refl _ w7).set1 _ (by exact .inl (.inr rfl)) |>.set1 _ (by exact .inl (.inr rfl)) |>.set1 _ (by exact .inl (.inr rfl)) |>.set1 _ (by exact .inl (.inr rfl)) |>.set1 _ (by exact .inl (.inr rfl)) |>.set1 _ (by exact .inl (.inl rfl)) |>.set1 _ (by exact .inl (.inl rfl)) |>.set1 _ (by exact .inl (.inl rfl)) |>.set1 _ (by exact .inl (.inl rfl)) |>.set1 _ (by exact .inl (.inl rfl))) (.inl rfl) (fun n hn => hn.imp id (fun e => by omega)) (fun a l hb => by
                rcases apart41 HR7.out hb with e | e
                · exact .inl e
                · rcases apart41 (r := ⟨false, 0, 0, 0, []⟩) (ra := none) (rc := 0) HZ7.out hb with e2 | e2
                  · exact .inl e2
                  · exact .inr fun p hp h => by
                      rcases h with h | h
                      · exact e p hp h
                      · exact e2 p hp h) (Blk.cast (HR7.out.setOther (by exact n1) _ |>.setOther (by exact n1) _ |>.setOther (by exact n1) _ |>.setOther (by exact n1) _ |>.setOther (by exact n1) _ |>.setCell 0 _ |>.setCell 1 _ |>.setCell 2 _ |>.setCell 3 _ |>.setCell 4 _) rfl)
            case rest =>
              obtain ⟨hP8, hJ8, hA8, hC8, hB8⟩ := hcut
              obtain ⟨hrt1, hrt2⟩ := rel_take HREL.out x.ap x.fl x.ct x.dat
              rw [hrt2] at hC8 ⊢
              have hlen := rel_len hrt1
              have d4 := hP8.1.at 4 rfl
              rw [hlen] at d4
              have hR8 := hP8.1.lt
              have hcv1 : ∀ n, (convert 22 9 (.slice a6 (takeS s x.ap x.fl x.ct x.dat).2.1.length c6)).run Try.prog (wc.drewN n) = .ok (.string ⟨(takeS s x.ap x.fl x.ct x.dat).2.1.toArray⟩) (wc.drewN n) := fun n => (show BAt (wc.drewN n) a6 _ from hA8).str 22 9 5 c6 Try.underlying22 Try.underlying5 Try.underlying9
              have hcv2 : ∀ n, (convert 22 9 (.slice b7 (takeS s x.ap x.fl x.ct x.dat).2.1.length d7)).run Try.prog (wc.drewN n) = .ok (.string ⟨(takeS s x.ap x.fl x.ct x.dat).2.1.toArray⟩) (wc.drewN n) := fun n => (show BAt (wc.drewN n) b7 _ from hC8).str 22 9 5 d7 Try.underlying22 Try.underlying5 Try.underlying9
              have hml : (takeS s x.ap x.fl x.ct x.dat).1.most = max a0 0 := by rw [takeS_most, HMO.out]
              have hdl2 : (takeS s x.ap x.fl x.ct x.dat).1.dat.length ≤ (k + 1) * 100 := by have := takeS_len s x.ap x.fl x.ct x.dat; omega
              have HML := Lib.hid hml
              have HP8 := Lib.hid hP8
              have HJ8 := Lib.hid hJ8
              have HB8 := Lib.hid hB8
              have HRT1 := Lib.hid hrt1
              clear hP8 hJ8 hA8 hC8 hB8 hrt1 hrt2 hlen hml r0 r1 r2 r3 r4 f0 f1 f2 f3 f4 k0 k1 k2 k3 k4 k5 q0 q1 q2 q3 q4 q5 c0 c1 c2 c3 c4 n1 n2 n3 n4
              have HC1 := Lib.hid (hcv1 1)
              have HC2 := Lib.hid (hcv2 1)
              clear hcv1 hcv2
              go_wp2_with fail
              go_region_held3 (fun w' => Sem.run Try.prog (convert 22 9 (.slice a6 (takeS s x.ap x.fl x.ct x.dat).2.1.length c6)) w' = .ok (.string ⟨(takeS s x.ap x.fl x.ct x.dat).2.1.toArray⟩) w' ∧ Sem.run Try.prog (convert 22 9 (.slice b7 (takeS s x.ap x.fl x.ct x.dat).2.1.length d7)) w' = .ok (.string ⟨(takeS s x.ap x.fl x.ct x.dat).2.1.toArray⟩) w' ∧ w'.cell? ⟨w2.heap.size, 4, none⟩ = some (.slice a7 (takeS s x.ap x.fl x.ct x.dat).1.dat.length c7)) (first | exact ⟨HC1.out, HC2.out, d4⟩ | go_keep) ((go_at_call 15; refine (pend_any wr.heap.size v6 (takeS s x.ap x.fl x.ct x.dat).1 wc.drew HJ8.out).mono ?_; rintro e w' ⟨rfl, rfl⟩))
              all_goals
                go_wp2_with fail
                go_roundw
                case rel => exact ⟨k + 1, wr.heap.size, v6, _, _, a7, c7, by omega, by go_num, rfl, HJ8.out, HO6.out, HP8.out, HRT1.out, HML.out, hdl2, HB8.out.drew⟩
                case measure => simp [intOf]; omega
        · have hx2 : (100 : Int) < x.dat.length := by omega
          go_wp2_with fail
          refine (alive_any _).mono ?_
          rintro e w9 ⟨rfl, hB9⟩
          go_wp2_with fail
          go_ret
          exact ⟨rfl, below2 HBR.out hB9⟩
      · have hlt' : ¬ (k : Int) < (l.length : Int) := by omega
        have HBR := Lib.hid hBr
        clear hJ hO hPl hRel hmo hBr
        go_wp2_with fail
        refine (alive_any _).mono ?_
        rintro e w9 ⟨rfl, hB9⟩
        go_wp2_with fail
        go_ret
        exact ⟨rfl, below2 HBR.out hB9⟩
  · have hn' : (60 : Int) < l.length := by omega
    go_enter Try.func7, Try.ntmps7
    go_wp2_with fail
    refine (alive_any _).mono ?_
    rintro e w2 ⟨rfl, hB2⟩
    go_wp2_with fail
    go_ret
    exact ⟨rfl, hB2⟩
end Go.Proofs.Ytdllngedmhihkaa

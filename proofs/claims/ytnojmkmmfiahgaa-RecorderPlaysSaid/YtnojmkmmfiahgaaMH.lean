/- The reference's Delete. No condition. -/
import Derived.Test.YtnojmkmmfiahgaaMG
namespace Go.Proofs.Ytnojmkmmfiahgaa
open Go.RowKit Go.Deep Go.ChangeShapes Go.WideShapes Go.ChangeAt
set_option linter.unusedVariables false

/-- what a call of the reference gives: the new recorder and a number -/
def RQ2 (now : Int) (w : World) (q : RS × Int) (e : Ending) (w' : World) : Prop :=
  ∃ a n c, e = .returned (.tuple #[.agg #[.int .i64 now, .slice a n c], .int .i64 q.2]) ∧ RV w' q.1 a n c ∧ Below w.heap.size w w'
theorem PkAt.tail {w : World} {b off : Nat} {x : En} {xs : List En} (h : PkAt w (some ⟨b, off, none⟩) (x :: xs)) : PkAt w (some ⟨b, off + 3, none⟩) xs := by
  rcases h with h | ⟨b', off', e, h1, h2, h3⟩
  · cases h
  · cases e
    refine .inr ⟨b, off + 3, rfl, h1, h2, fun i e he => ?_⟩
    have h9 := h3 (i + 1) e (by simpa using he)
    rw [show off + (i + 1) * 3 = off + 3 + i * 3 by omega] at h9
    exact h9
set_option maxRecDepth 20000 in
set_option maxHeartbeats 2000000 in
theorem rDelete_any {w : World} {a : Option Addr} {n c : Nat} {r : RS} (id t : Int) (h : RV w r a n c) (ok : r.Ok) : Calls Try.prog 20 #[.agg #[.int .i64 r.now, .slice a n c], .int .i64 id, .int .i64 t] w (RQ2 r.now w (r.delete id t)) := by
  have hn : n ≤ 1000 := by rw [← h.len]; have := ok.few; omega
  have hc := h.le
  have hm := h.max
  obtain ⟨now, hnow⟩ : ∃ x, x = r.now := ⟨_, rfl⟩
  rw [← hnow]
  have HNOW := Lib.hid hnow
  have H := Lib.hid h
  have OK := Lib.hid ok
  clear h ok hnow
  go_enter Try.func20, Try.ntmps20
  go_upto_region 1 with fail
  obtain ⟨b3, hb3⟩ : ∃ x, x = w.heap.size := ⟨_, rfl⟩
  obtain ⟨w1, hw1⟩ : ∃ w1, w1 = (w.alloc (.cells #[.int .i64 now, .slice a n c] 45)).alloc (.cells #[.int .i64 0, .slice none 0 0] 45) := ⟨_, rfl⟩
  have HB := Lib.hid (show Below w.heap.size w w1 by rw [hw1]; exact al (al (Below.refl _ _) _) _)
  have hk : Blk w1 b3 45 [.int .i64 now, .slice a n c] := by rw [hw1, hb3]; exact (Blk.new w 45 _).alloc _
  have h6 : Blk w1 (b3 + 1) 45 [.int .i64 0, .slice none 0 0] := by rw [hw1, hb3]; exact Blk.newAt (xs := [.int .i64 0, .slice none 0 0]) (T := 45) (n := w.heap.size + 1) (by simp)
  have c0 := hk.at 0 rfl
  have c1 := hk.at 1 rfl
  have cl := hk.lt
  have HB3 := Lib.hid hb3
  have HK := Lib.hid hk
  have HK6 := Lib.hid h6
  have H1 := Lib.hid (H.out.low HB.out)
  rw [← hw1, ← hb3]
  clear hw1 hb3 hk h6
  cases hf : r.find id with
  | none =>
    have HF : Hid (r.delete id t = (r, 8)) := Lib.hid (by unfold RS.delete; rw [hf])
    have HFI := Lib.hid hf
    clear hf
    go_wp2_with fail
    refine (rfind_any id now H1.out.at_ H1.out.len hn hc hm).mono ?_
    rintro e w2 ⟨he, hB2⟩
    rw [HFI.out] at he
    subst he
    have HB2 := Lib.hid (HB.out.trans (hB2.mono HB.out.size))
    have H2 := Lib.hid (H1.out.low hB2)
    have k3 := HK.out.below hB2 (Nat.le_refl _)
    have k6 := HK6.out.below hB2 (Nat.le_refl _)
    have d0 := k3.at 0 rfl
    have d1 := k3.at 1 rfl
    have dl := k3.lt
    have t0 := k6.at 0 rfl
    have t1 := k6.at 1 rfl
    have tf0 := k6.free 0
    have tf1 := k6.free 1
    have tl := k6.lt
    have K6 := Lib.hid k6
    clear c0 c1 cl hB2 k3 k6
    unfold idxI
    dsimp only
    go_wp2_with fail
    obtain ⟨wb, hwb⟩ : ∃ x, x = (w2.setCell ⟨b3 + 1, 0, none⟩ (.int .i64 now)).setCell ⟨b3 + 1, 1, none⟩ (.slice a n c) := ⟨_, rfl⟩
    have hBb : Below w.heap.size w wb := by
      rw [hwb]
      exact (HB2.out.setCell (p := ⟨b3 + 1, 0, none⟩) (by show w.heap.size ≤ b3 + 1; rw [HB3.out]; omega) _).setCell (p := ⟨b3 + 1, 1, none⟩) (by show w.heap.size ≤ b3 + 1; rw [HB3.out]; omega) _
    have h6b : Blk wb (b3 + 1) 45 [.int .i64 now, .slice a n c] := by
      rw [hwb]
      exact Blk.cast ((K6.out.setCell 0 (.int .i64 now)).setCell 1 (.slice a n c)) rfl
    have r0 := h6b.at 0 rfl
    have r1 := h6b.at 1 rfl
    rw [← hwb]
    exact bodyPost_ret (v := .tuple #[.agg #[.int .i64 now, .slice a n c], .int .i64 8]) (by simp [results, Try.f20, go_sem, r0, r1]) rfl ⟨a, n, c, by rw [HF.out], by rw [HF.out]; exact H.out.low hBb, hBb⟩
  | some i =>
    have hil := RS.find_lt hf
    obtain ⟨s, hs⟩ : ∃ s, r.stores[i]? = some s := ⟨_, List.getElem?_eq_getElem hil⟩
    have HFI := Lib.hid hf
    have HS := Lib.hid hs
    have HIL : Hid (i < n) := Lib.hid (by rw [← H.out.len]; exact hil)
    have HSO := Lib.hid (OK.out.each s (List.mem_of_getElem? hs))
    by_cases ht : t < 0 ∨ 1099511627776 < t
    · have HF : Hid (r.delete id t = (r, 10)) := Lib.hid (by unfold RS.delete; rw [hf]; dsimp only; rw [if_pos ht])
      have e2 : ¬ (i : Int) < 0 := by omega
      clear hf hs hil
      rcases Int.lt_or_le t 0 with h0 | h0
      · clear ht
        go_wp2_with fail
        refine (rfind_any id now H1.out.at_ H1.out.len hn hc hm).mono ?_
        rintro e w2 ⟨he, hB2⟩
        rw [HFI.out] at he
        subst he
        have HB2 := Lib.hid (HB.out.trans (hB2.mono HB.out.size))
        have k3 := HK.out.below hB2 (Nat.le_refl _)
        have k6 := HK6.out.below hB2 (Nat.le_refl _)
        have d0 := k3.at 0 rfl
        have d1 := k3.at 1 rfl
        have dl := k3.lt
        have t0 := k6.at 0 rfl
        have t1 := k6.at 1 rfl
        have tf0 := k6.free 0
        have tf1 := k6.free 1
        have tl := k6.lt
        have K6 := Lib.hid k6
        clear c0 c1 cl hB2 k3 k6
        unfold idxI
        dsimp only
        go_wp2_with fail
        obtain ⟨wb, hwb⟩ : ∃ x, x = (w2.setCell ⟨b3 + 1, 0, none⟩ (.int .i64 now)).setCell ⟨b3 + 1, 1, none⟩ (.slice a n c) := ⟨_, rfl⟩
        have hBb : Below w.heap.size w wb := by
          rw [hwb]
          exact (HB2.out.setCell (p := ⟨b3 + 1, 0, none⟩) (by show w.heap.size ≤ b3 + 1; rw [HB3.out]; omega) _).setCell (p := ⟨b3 + 1, 1, none⟩) (by show w.heap.size ≤ b3 + 1; rw [HB3.out]; omega) _
        have h6b : Blk wb (b3 + 1) 45 [.int .i64 now, .slice a n c] := by
          rw [hwb]
          exact Blk.cast ((K6.out.setCell 0 (.int .i64 now)).setCell 1 (.slice a n c)) rfl
        have r0 := h6b.at 0 rfl
        have r1 := h6b.at 1 rfl
        rw [← hwb]
        exact bodyPost_ret (v := .tuple #[.agg #[.int .i64 now, .slice a n c], .int .i64 10]) (by simp [results, Try.f20, go_sem, r0, r1]) rfl ⟨a, n, c, by rw [HF.out], by rw [HF.out]; exact H.out.low hBb, hBb⟩
      · have h1 : 1099511627776 < t := by omega
        have h2 : ¬ t < 0 := by omega
        clear ht h0
        go_wp2_with fail
        refine (rfind_any id now H1.out.at_ H1.out.len hn hc hm).mono ?_
        rintro e w2 ⟨he, hB2⟩
        rw [HFI.out] at he
        subst he
        have HB2 := Lib.hid (HB.out.trans (hB2.mono HB.out.size))
        have k3 := HK.out.below hB2 (Nat.le_refl _)
        have k6 := HK6.out.below hB2 (Nat.le_refl _)
        have d0 := k3.at 0 rfl
        have d1 := k3.at 1 rfl
        have dl := k3.lt
        have t0 := k6.at 0 rfl
        have t1 := k6.at 1 rfl
        have tf0 := k6.free 0
        have tf1 := k6.free 1
        have tl := k6.lt
        have K6 := Lib.hid k6
        clear c0 c1 cl hB2 k3 k6
        unfold idxI
        dsimp only
        go_wp2_with fail
        obtain ⟨wb, hwb⟩ : ∃ x, x = (w2.setCell ⟨b3 + 1, 0, none⟩ (.int .i64 now)).setCell ⟨b3 + 1, 1, none⟩ (.slice a n c) := ⟨_, rfl⟩
        have hBb : Below w.heap.size w wb := by
          rw [hwb]
          exact (HB2.out.setCell (p := ⟨b3 + 1, 0, none⟩) (by show w.heap.size ≤ b3 + 1; rw [HB3.out]; omega) _).setCell (p := ⟨b3 + 1, 1, none⟩) (by show w.heap.size ≤ b3 + 1; rw [HB3.out]; omega) _
        have h6b : Blk wb (b3 + 1) 45 [.int .i64 now, .slice a n c] := by
          rw [hwb]
          exact Blk.cast ((K6.out.setCell 0 (.int .i64 now)).setCell 1 (.slice a n c)) rfl
        have r0 := h6b.at 0 rfl
        have r1 := h6b.at 1 rfl
        rw [← hwb]
        exact bodyPost_ret (v := .tuple #[.agg #[.int .i64 now, .slice a n c], .int .i64 10]) (by simp [results, Try.f20, go_sem, r0, r1]) rfl ⟨a, n, c, by rw [HF.out], by rw [HF.out]; exact H.out.low hBb, hBb⟩
    · have HF : Hid (r.delete id t = (r.put i (s.cut t), 0)) := Lib.hid (by unfold RS.delete; rw [hf]; dsimp only; rw [if_neg ht, get_of hs])
      have h0 : ¬ t < 0 := fun e => ht (.inl e)
      have h1 : ¬ 1099511627776 < t := fun e => ht (.inr e)
      have e1 : (i : Int) < (n : Int) := by have := HIL.out; omega
      have e2 : ¬ (i : Int) < 0 := by omega
      clear hf hs hil ht
      go_wp2_with fail
      refine (rfind_any id now H1.out.at_ H1.out.len hn hc hm).mono ?_
      rintro e w2 ⟨he, hB2⟩
      rw [HFI.out] at he
      subst he
      have HB2 := Lib.hid (HB.out.trans (hB2.mono HB.out.size))
      have k3 := HK.out.below hB2 (Nat.le_refl _)
      have k6 := HK6.out.below hB2 (Nat.le_refl _)
      obtain ⟨bR, oR, rfl, hbR, -, q0, q1, q2, q3, ⟨aL, cL, q4, q5, q6, q7⟩, q8⟩ := H.out.at HS.out
      obtain ⟨m, hm9⟩ : ∃ x, x = s.L.length := ⟨_, rfl⟩
      rw [← hm9] at q4 q5
      have HM := Lib.hid hm9.symm
      have HPK := Lib.hid q7
      have k0 := (HB2.out.cell (p := ⟨bR, _, none⟩) hbR).trans q0
      have k1 := (HB2.out.cell (p := ⟨bR, _, none⟩) hbR).trans q1
      have k2 := (HB2.out.cell (p := ⟨bR, _, none⟩) hbR).trans q2
      have k33 := (HB2.out.cell (p := ⟨bR, _, none⟩) hbR).trans q3
      have k4 := (HB2.out.cell (p := ⟨bR, _, none⟩) hbR).trans q4
      have k5 := (HB2.out.cell (p := ⟨bR, _, none⟩) hbR).trans q8
      obtain ⟨i1, hi1⟩ : ∃ x, x = s.id := ⟨_, rfl⟩
      obtain ⟨i2, hi2⟩ : ∃ x, x = s.room := ⟨_, rfl⟩
      obtain ⟨i3, hi3⟩ : ∃ x, x = s.prio := ⟨_, rfl⟩
      obtain ⟨i4, hi4⟩ : ∃ x, x = s.circ := ⟨_, rfl⟩
      obtain ⟨i5, hi5⟩ : ∃ x, x = (s.drop : Int) := ⟨_, rfl⟩
      rw [← hi1] at k0
      rw [← hi2] at k1
      rw [← hi3] at k2
      rw [← hi4] at k33
      rw [← hi5] at k5
      have HI : Hid (i1 = s.id ∧ i2 = s.room ∧ i3 = s.prio ∧ i4 = s.circ ∧ i5 = (s.drop : Int)) := Lib.hid ⟨hi1, hi2, hi3, hi4, hi5⟩
      have d1 := k3.at 1 rfl
      have dl := k3.lt
      have K3 := Lib.hid k3
      have K6 := Lib.hid k6
      clear hi1 hi2 hi3 hi4 hi5 q0 q1 q2 q3 q4 q7 q8 hm9 c0 c1 cl hB2 k3 k6
      unfold idxI
      dsimp only
      go_wp2_with fail
      obtain ⟨b9, hb9⟩ : ∃ x, x = w2.heap.size := ⟨_, rfl⟩
      obtain ⟨w3, hw3⟩ : ∃ x, x = w2.alloc (.cells #[.int .i64 i1, .int .i64 i2, .int .i64 i3, .bool i4, .slice aL m cL, .int .i64 i5] 78) := ⟨_, rfl⟩
      have hB3 : Below w2.heap.size w2 w3 := by rw [hw3]; exact al (Below.refl _ _) _
      have K9 : Hid (Blk w3 b9 78 [.int .i64 i1, .int .i64 i2, .int .i64 i3, .bool i4, .slice aL m cL, .int .i64 i5]) := Lib.hid (by rw [hw3, hb9]; exact Blk.new w2 78 _)
      have K33 := Lib.hid (K3.out.below hB3 (Nat.le_refl _))
      have K63 := Lib.hid (K6.out.below hB3 (Nat.le_refl _))
      have HBB := Lib.hid (HB2.out.trans (hB3.mono HB2.out.size))
      have HN3 : Hid (b3 ≠ b9 ∧ b3 + 1 ≠ b9 ∧ w.heap.size ≤ b9) := Lib.hid (by have := K6.out.lt; have := HB2.out.size; omega)
      have HTK : Hid (s.L.drop 0 = s.L) := Lib.hid rfl
      rw [← hw3, ← hb9]
      clear hw3 hb9 hB3 k0 k1 k2 k33 k4 k5 d1 dl e1 e2
      go_loopg [] (m + 1) (fun gk wr => ∃ (k mk : Nat) (aK : Option Addr) (cK : Nat), k + mk = m ∧ mk < gk ∧ mk ≤ cK ∧ cK ≤ maxLen ∧ Hid (PkAt w aK (s.L.drop k)) ∧ Hid (Blk wr b9 78 [.int .i64 i1, .int .i64 i2, .int .i64 i3, .bool i4, .slice aK mk cK, .int .i64 i5]) ∧ Hid (Blk wr b3 45 [.int .i64 now, .slice (some ⟨bR, oR, none⟩) n c]) ∧ Hid (Blk wr (b3 + 1) 45 [.int .i64 0, .slice none 0 0]) ∧ Hid (Below w.heap.size w wr) ∧ Hid (∀ (j : Nat) (e : En), j < k → s.L[j]? = some e → e.time < t))
      case atStart => exact ⟨0, m, aL, cL, by omega, by omega, q5, q6, HPK, K9, K33, K63, HBB, Lib.hid (fun j e hj => absurd hj (Nat.not_lt_zero _))⟩
      case round =>
        obtain ⟨k, mk, aK, cK, hkm, hgk, hcK, hmK, HPk, J9, J3, J6, JB, HT⟩ := hrel
        have c4 := J9.out.at 4 rfl
        have fr4 := J9.out.free 4
        have l9 := J9.out.lt
        by_cases hlt : 0 < mk
        · obtain ⟨x, hx⟩ : ∃ x, s.L[k]? = some x := ⟨_, List.getElem?_eq_getElem (by rw [HM.out]; omega)⟩
          have hL : s.L.drop k = x :: s.L.drop (k + 1) := by
            obtain ⟨_, rfl⟩ := List.getElem?_eq_some_iff.1 hx
            exact List.drop_eq_getElem_cons (by rw [HM.out]; omega)
          have hpk := HPk.out
          rw [hL] at hpk
          obtain ⟨bP, oP, rfl, hbP, ctm⟩ : ∃ b off, aK = some ⟨b, off, none⟩ ∧ b < w.heap.size ∧ w.cell? ⟨b, off, none⟩ = some (.int .i64 x.time) := by
            rcases hpk with h | ⟨b, off, h1, h2, -, h3⟩
            · cases h
            · exact ⟨b, off, h1, h2, by have h9 := (h3 0 x rfl).1; simpa using h9⟩
          have HPT := Lib.hid hpk.tail
          have ct := (JB.out.cell (p := ⟨bP, _, none⟩) hbP).trans ctm
          obtain ⟨tm, htm⟩ : ∃ x9, x9 = x.time := ⟨_, rfl⟩
          rw [← htm] at ct
          have HTM := Lib.hid htm
          have HX := Lib.hid hx
          have i1' : (0 : Int) < (mk : Int) := by omega
          clear hx hL hpk ctm htm
          by_cases hlt2 : tm < t
          · have HW9 : Hid (∀ v, Blk (wr.setCell ⟨b9, 4, none⟩ v) b9 78 [.int .i64 i1, .int .i64 i2, .int .i64 i3, .bool i4, v, .int .i64 i5] ∧ Blk (wr.setCell ⟨b9, 4, none⟩ v) b3 45 [.int .i64 now, .slice (some ⟨bR, oR, none⟩) n c] ∧ Blk (wr.setCell ⟨b9, 4, none⟩ v) (b3 + 1) 45 [.int .i64 0, .slice none 0 0] ∧ Below w.heap.size w (wr.setCell ⟨b9, 4, none⟩ v)) := Lib.hid (fun v => ⟨Blk.cast (J9.out.setCell 4 v) rfl, J3.out.setOther (p := ⟨b9, 4, none⟩) (fun e => HN3.out.1 e.symm) v, J6.out.setOther (p := ⟨b9, 4, none⟩) (fun e => HN3.out.2.1 e.symm) v, JB.out.setCell (p := ⟨b9, 4, none⟩) HN3.out.2.2 v⟩)
            have HT2 : Hid (∀ (j : Nat) (e : En), j < k + 1 → s.L[j]? = some e → e.time < t) := Lib.hid (fun j e hj he => by
              by_cases hjk : j < k
              · exact HT.out j e hjk he
              · obtain rfl : j = k := by omega
                rw [HX.out] at he
                cases he
                rw [← HTM.out]
                exact hlt2)
            go_wp2_with fail
            · have hd : Hid (s.L.drop (k + 1) = []) := Lib.hid (List.drop_of_length_le (by rw [HM.out]; omega))
              go_roundg (gk - 1)
              case rel => exact ⟨k + 1, mk - 1, _, _, by omega, by omega, by omega, by unfold maxLen; omega, Lib.hid (.inl hd.out), Lib.hid (HW9.out _).1, Lib.hid (HW9.out _).2.1, Lib.hid (HW9.out _).2.2.1, Lib.hid (HW9.out _).2.2.2, HT2⟩
              case measure => omega
            · go_roundg (gk - 1)
              case rel => exact ⟨k + 1, mk - 1, _, _, by omega, by omega, by omega, by omega, HPT, Lib.hid (HW9.out _).1, Lib.hid (HW9.out _).2.1, Lib.hid (HW9.out _).2.2.1, Lib.hid (HW9.out _).2.2.2, HT2⟩
              case measure => omega
          · have HCUT : Hid (s.cut t = { s with L := s.L.drop k }) := Lib.hid (by
              unfold St.cut
              rw [dropWhile_at _ s.L k (by rw [HM.out]; omega) (fun j e hj he => decide_eq_true (HT.out j e hj he)) (fun e he => by
                rw [HX.out] at he
                cases he
                rw [← HTM.out]
                exact decide_eq_false hlt2)])
            have g0 := J9.out.at 0 rfl
            have g1 := J9.out.at 1 rfl
            have g2 := J9.out.at 2 rfl
            have g3 := J9.out.at 3 rfl
            have g5 := J9.out.at 5 rfl
            have v0 := J3.out.at 0 rfl
            have v1 := J3.out.at 1 rfl
            have vl := J3.out.lt
            have HLK : Hid ((s.L.drop k).length = mk) := Lib.hid (by rw [List.length_drop, HM.out]; omega)
            go_wp2_with fail
            obtain ⟨z1, z2, z3, z4, z5⟩ := HI.out
            subst z1 z2 z3 z4 z5
            refine (rwith_any (s := { s with L := s.L.drop k }) now (H.out.low JB.out) hn HIL.out (HPk.out.low JB.out) HLK.out hcK hmK).mono ?_
            rintro e w5 ⟨a5, c5, rfl, hrv, hB5⟩
            have HRV := Lib.hid hrv
            have HB5 := Lib.hid (JB.out.trans (hB5.mono JB.out.size))
            have k6 := J6.out.below hB5 (Nat.le_refl _)
            have t0 := k6.at 0 rfl
            have t1 := k6.at 1 rfl
            have tf0 := k6.free 0
            have tf1 := k6.free 1
            have tl := k6.lt
            have K6' := Lib.hid k6
            clear hrv hB5 k6 g0 g1 g2 g3 g5 v0 v1 vl c4 fr4 l9
            go_wp2_with fail
            obtain ⟨wb, hwb⟩ : ∃ x, x = (w5.setCell ⟨b3 + 1, 0, none⟩ (.int .i64 now)).setCell ⟨b3 + 1, 1, none⟩ (.slice a5 n c5) := ⟨_, rfl⟩
            have hBb : Below w.heap.size w wb := by
              rw [hwb]
              exact (HB5.out.setCell (p := ⟨b3 + 1, 0, none⟩) (by show w.heap.size ≤ b3 + 1; rw [HB3.out]; omega) _).setCell (p := ⟨b3 + 1, 1, none⟩) (by show w.heap.size ≤ b3 + 1; rw [HB3.out]; omega) _
            have h6b : Blk wb (b3 + 1) 45 [.int .i64 now, .slice a5 n c5] := by
              rw [hwb]
              exact Blk.cast ((K6'.out.setCell 0 (.int .i64 now)).setCell 1 (.slice a5 n c5)) rfl
            have hX : XF w5 wb := by
              rw [hwb]
              exact (XF.box K6'.out).trans (XF.box (K6'.out.setCell 0 (.int .i64 now)))
            have r0 := h6b.at 0 rfl
            have r1 := h6b.at 1 rfl
            rw [← hwb]
            exact bodyPost_ret (v := .tuple #[.agg #[.int .i64 now, .slice a5 n c5], .int .i64 0]) (by simp [results, Try.f20, go_sem, r0, r1]) rfl ⟨a5, n, c5, by rw [HF.out], by rw [HF.out, HCUT.out]; exact HRV.out.x hX, hBb⟩
        · have hm0 : mk = 0 := by omega
          subst hm0
          have HCUT : Hid (s.cut t = { s with L := s.L.drop k }) := Lib.hid (by
            unfold St.cut
            rw [dropWhile_at _ s.L k (by rw [HM.out]; omega) (fun j e hj he => decide_eq_true (HT.out j e hj he)) (fun e he => by
              have := (List.getElem?_eq_some_iff.1 he).1
              rw [HM.out] at this
              omega)])
          have g0 := J9.out.at 0 rfl
          have g1 := J9.out.at 1 rfl
          have g2 := J9.out.at 2 rfl
          have g3 := J9.out.at 3 rfl
          have g5 := J9.out.at 5 rfl
          have v0 := J3.out.at 0 rfl
          have v1 := J3.out.at 1 rfl
          have vl := J3.out.lt
          have HLK : Hid ((s.L.drop k).length = 0) := Lib.hid (by rw [List.length_drop, HM.out]; omega)
          go_wp2_with fail
          obtain ⟨z1, z2, z3, z4, z5⟩ := HI.out
          subst z1 z2 z3 z4 z5
          refine (rwith_any (s := { s with L := s.L.drop k }) now (H.out.low JB.out) hn HIL.out (HPk.out.low JB.out) HLK.out hcK hmK).mono ?_
          rintro e w5 ⟨a5, c5, rfl, hrv, hB5⟩
          have HRV := Lib.hid hrv
          have HB5 := Lib.hid (JB.out.trans (hB5.mono JB.out.size))
          have k6 := J6.out.below hB5 (Nat.le_refl _)
          have t0 := k6.at 0 rfl
          have t1 := k6.at 1 rfl
          have tf0 := k6.free 0
          have tf1 := k6.free 1
          have tl := k6.lt
          have K6' := Lib.hid k6
          clear hrv hB5 k6 g0 g1 g2 g3 g5 v0 v1 vl c4 fr4 l9
          go_wp2_with fail
          obtain ⟨wb, hwb⟩ : ∃ x, x = (w5.setCell ⟨b3 + 1, 0, none⟩ (.int .i64 now)).setCell ⟨b3 + 1, 1, none⟩ (.slice a5 n c5) := ⟨_, rfl⟩
          have hBb : Below w.heap.size w wb := by
            rw [hwb]
            exact (HB5.out.setCell (p := ⟨b3 + 1, 0, none⟩) (by show w.heap.size ≤ b3 + 1; rw [HB3.out]; omega) _).setCell (p := ⟨b3 + 1, 1, none⟩) (by show w.heap.size ≤ b3 + 1; rw [HB3.out]; omega) _
          have h6b : Blk wb (b3 + 1) 45 [.int .i64 now, .slice a5 n c5] := by
            rw [hwb]
            exact Blk.cast ((K6'.out.setCell 0 (.int .i64 now)).setCell 1 (.slice a5 n c5)) rfl
          have hX : XF w5 wb := by
            rw [hwb]
            exact (XF.box K6'.out).trans (XF.box (K6'.out.setCell 0 (.int .i64 now)))
          have r0 := h6b.at 0 rfl
          have r1 := h6b.at 1 rfl
          rw [← hwb]
          exact bodyPost_ret (v := .tuple #[.agg #[.int .i64 now, .slice a5 n c5], .int .i64 0]) (by simp [results, Try.f20, go_sem, r0, r1]) rfl ⟨a5, n, c5, by rw [HF.out], by rw [HF.out, HCUT.out]; exact HRV.out.x hX, hBb⟩
end Go.Proofs.Ytnojmkmmfiahgaa

/- The reference's Replay. No condition. -/
import Derived.Test.YtnojmkmmfiahgaaMH
namespace Go.Proofs.Ytnojmkmmfiahgaa
open Go.RowKit Go.Deep Go.ChangeShapes Go.WideShapes Go.ChangeAt
set_option linter.unusedVariables false

theorem info81 : (Try.prog.info? 81).map (fun i => (i.zero, i.size, i.bytes)) = some (some (.agg #[.int .i64 0, .slice none 0 0, .bool false]), 3, 40) := by kernel_rfl
/-- the packets that are copied -/
def MK (t u : Int) (w : World) (L : List En) (k : Nat) (xs : List Value) : Prop :=
  xs.length = k * 3 ∧ ∀ (j : Nat) (e : En), j < k → L[j]? = some e → xs[j * 3]? = some (.int .i64 e.time) ∧ (∃ ad cd, xs[j * 3 + 1]? = some (.slice ad e.data.length cd) ∧ e.data.length ≤ cd ∧ cd ≤ maxLen ∧ BX w ad e.data) ∧ xs[j * 3 + 2]? = some (.bool (wantIf t u e).want)
theorem MK.nil (t u : Int) (w : World) (L : List En) : MK t u w L 0 [] := ⟨rfl, fun j e hj => absurd hj (Nat.not_lt_zero _)⟩
theorem MK.snoc {t u : Int} {w : World} {L : List En} {k : Nat} {xs : List Value} {e : En} {ad : Option Addr} {dl cd : Nat} {tm : Int} {wn : Bool} (h : MK t u w L k xs) (he : L[k]? = some e) (h1 : tm = e.time) (h2 : dl = e.data.length) (h3 : dl ≤ cd) (h4 : cd ≤ maxLen) (h5 : BX w ad e.data) (h6 : wn = (wantIf t u e).want) : MK t u w L (k + 1) (xs ++ [.int .i64 tm, .slice ad dl cd, .bool wn]) := by
  subst h1 h2 h6
  refine ⟨by rw [List.length_append, h.1]; simp; omega, fun j e' hj he' => ?_⟩
  by_cases hjk : j < k
  · obtain ⟨k1, ⟨a1, c1, k2, k3⟩, k4⟩ := h.2 j e' hjk he'
    have hl := h.1
    exact ⟨by rw [List.getElem?_append_left (by omega)]; exact k1, ⟨a1, c1, by rw [List.getElem?_append_left (by omega)]; exact k2, k3⟩, by rw [List.getElem?_append_left (by omega)]; exact k4⟩
  · obtain rfl : j = k := by omega
    rw [he] at he'
    cases he'
    have hl := h.1
    refine ⟨?_, ⟨ad, cd, ?_, h3, h4, h5⟩, ?_⟩
    · rw [List.getElem?_append_right (by omega), hl, Nat.sub_self]; rfl
    · rw [List.getElem?_append_right (by omega), hl, Nat.add_sub_cancel_left]; rfl
    · rw [List.getElem?_append_right (by omega), hl, Nat.add_sub_cancel_left]; rfl
/-- they lie there -/
theorem MK.at {t u : Int} {w W : World} {m a' c' : Nat} {aK : Option Addr} {s : St} {xs : List Value} (hL : s.L.length = m) (h : MK t u w s.L m xs) (how : W.ownsRow w.heap.size 81 3 (.slice aK a' c') m xs) (hB : Below w.heap.size w W) : a' = m ∧ m ≤ c' ∧ c' ≤ maxLen ∧ PkAt W aK (s.mark t u).L := by
  rcases how.2 with ⟨e, h0⟩ | ⟨g, cap, cur, e, q1, q2, q3, q4, q5, q6⟩
  · simp only [Value.slice.injEq] at e
    obtain ⟨-, rfl, rfl⟩ := e
    exact ⟨h0.symm, by omega, by unfold maxLen; omega, .inl (by
      have h9 : s.L = [] := List.length_eq_zero_iff.1 (by omega)
      show s.L.map _ = []
      rw [h9]
      rfl)⟩
  · simp only [Value.slice.injEq] at e
    obtain ⟨rfl, rfl, rfl⟩ := e
    refine ⟨rfl, q3, q4, .inr ⟨g, 0, rfl, (Array.getElem?_eq_some_iff.1 q2).1, fun ⟨cs', t', m', h2, h3⟩ => ?_, fun i e he => ?_⟩⟩
    · rw [q2] at h2
      simp at h2
      obtain ⟨-, rfl, -⟩ := h2
      rcases h3 with (e | e | e | e | e) | e <;> exact absurd e (by decide)
    · have he2 : (s.L.map fun x => ({ x with want := x.want || (decide (t ≤ x.time) && decide (x.time ≤ u)) } : En))[i]? = some e := he
      rw [List.getElem?_map] at he2
      obtain ⟨e0, h7, rfl⟩ := Option.map_eq_some_iff.1 he2
      have hi : i < a' := by rw [← hL]; exact (List.getElem?_eq_some_iff.1 h7).1
      obtain ⟨k1, ⟨a1, c1, k2, k3, k4, k5⟩, k6⟩ := h.2 i e0 hi h7
      rw [Nat.zero_add]
      exact ⟨(how.cellAt _ (by omega)).trans k1, ⟨a1, c1, (how.cellAt _ (by omega)).trans k2, k3, k4, k5.x (XF.of_below hB)⟩, (how.cellAt _ (by omega)).trans k6⟩
/-- a new row's cells -/
theorem row_new {w : World} {n : Nat} (h : w.heap.size = n) (xs : List Value) (t : TypeId) : ∀ j u, xs[j]? = some u → (w.alloc (.cells xs.toArray t)).cell? ((⟨n, 0, none⟩ : Addr).add j) = some u := fun j u hj => by
  have e9 : ((⟨n, 0, none⟩ : Addr).add j) = ⟨n, j, none⟩ := by rw [add_plain, Nat.zero_add]
  rw [e9]
  exact (Blk.newAt (xs := xs) (T := t) h).at j hj
theorem own_ne {w : World} {B t z n k T : Nat} {v : Value} {xs ys : List Value} (h : w.ownsRow B t z v n xs) (hk : Blk w k T ys) (hT : T ≠ t) : v.ownBlock ≠ some k := fun e => by
  obtain ⟨cs', hc'⟩ := own_ty h e
  rw [show w.heap[k]? = _ from hk] at hc'
  simp at hc'
  exact hT hc'.2
/-- a block of another kind stays -/
theorem rows_keep {w w0 w8 : World} {B t z n k T : Nat} {v : Value} {xs ys : List Value} (h : w.ownsRow B t z v n xs) (hk : Blk w k T ys) (hT : T ≠ t) (h0 : Below w.heap.size w w0) (hg : w0.grownBy w8 v.ownBlock) : Blk w8 k T ys :=
  (hk.below h0 (Nat.le_refl _)).grown hg (own_ne h hk hT)
set_option maxRecDepth 20000 in
set_option maxHeartbeats 2000000 in
theorem rReplay_any {w : World} {a : Option Addr} {n c : Nat} {r : RS} (id t u : Int) (h : RV w r a n c) (ok : r.Ok) : Calls Try.prog 18 #[.agg #[.int .i64 r.now, .slice a n c], .int .i64 id, .int .i64 t, .int .i64 u] w (RQ2 r.now w (r.replay id t u)) := by
  have hn : n ≤ 1000 := by rw [← h.len]; have := ok.few; omega
  have hc := h.le
  have hm := h.max
  obtain ⟨now, hnow⟩ : ∃ x, x = r.now := ⟨_, rfl⟩
  rw [← hnow]
  have HNOW := Lib.hid hnow
  have H := Lib.hid h
  have OK := Lib.hid ok
  clear h ok hnow
  go_enter Try.func18, Try.ntmps18
  go_upto_region 1 with fail
  obtain ⟨b3, hb3⟩ : ∃ x, x = w.heap.size := ⟨_, rfl⟩
  obtain ⟨w1, hw1⟩ : ∃ w1, w1 = (w.alloc (.cells #[.int .i64 now, .slice a n c] 45)).alloc (.cells #[.int .i64 0, .slice none 0 0] 45) := ⟨_, rfl⟩
  have HB := Lib.hid (show Below w.heap.size w w1 by rw [hw1]; exact al (al (Below.refl _ _) _) _)
  have hk : Blk w1 b3 45 [.int .i64 now, .slice a n c] := by rw [hw1, hb3]; exact (Blk.new w 45 _).alloc _
  have h6 : Blk w1 (b3 + 1) 45 [.int .i64 0, .slice none 0 0] := by rw [hw1, hb3]; exact Blk.newAt (xs := [.int .i64 0, .slice none 0 0]) (T := 45) (n := w.heap.size + 1) (by simp)
  have c0 := hk.at 0 rfl
  have c1 := hk.at 1 rfl
  have cl := hk.lt
  have HB3 := Lib.hid hb3
  have HK := Lib.hid hk
  have HK6 := Lib.hid h6
  have H1 := Lib.hid (H.out.low HB.out)
  rw [← hw1, ← hb3]
  clear hw1 hb3 hk h6
  cases hf : r.find id with
  | none =>
    have HF : Hid (r.replay id t u = (r, 8)) := Lib.hid (by unfold RS.replay; rw [hf])
    have HFI := Lib.hid hf
    clear hf
    go_wp2_with fail
    refine (rfind_any id now H1.out.at_ H1.out.len hn hc hm).mono ?_
    rintro e w2 ⟨he, hB2⟩
    rw [HFI.out] at he
    subst he
    have HB2 := Lib.hid (HB.out.trans (hB2.mono HB.out.size))
    have H2 := Lib.hid (H1.out.low hB2)
    have k3 := HK.out.below hB2 (Nat.le_refl _)
    have k6 := HK6.out.below hB2 (Nat.le_refl _)
    have d0 := k3.at 0 rfl
    have d1 := k3.at 1 rfl
    have dl := k3.lt
    have t0 := k6.at 0 rfl
    have t1 := k6.at 1 rfl
    have tf0 := k6.free 0
    have tf1 := k6.free 1
    have tl := k6.lt
    have K6 := Lib.hid k6
    clear c0 c1 cl hB2 k3 k6
    unfold idxI
    dsimp only
    go_wp2_with fail
    obtain ⟨wb, hwb⟩ : ∃ x, x = (w2.setCell ⟨b3 + 1, 0, none⟩ (.int .i64 now)).setCell ⟨b3 + 1, 1, none⟩ (.slice a n c) := ⟨_, rfl⟩
    have hBb : Below w.heap.size w wb := by
      rw [hwb]
      exact (HB2.out.setCell (p := ⟨b3 + 1, 0, none⟩) (by show w.heap.size ≤ b3 + 1; rw [HB3.out]; omega) _).setCell (p := ⟨b3 + 1, 1, none⟩) (by show w.heap.size ≤ b3 + 1; rw [HB3.out]; omega) _
    have h6b : Blk wb (b3 + 1) 45 [.int .i64 now, .slice a n c] := by
      rw [hwb]
      exact Blk.cast ((K6.out.setCell 0 (.int .i64 now)).setCell 1 (.slice a n c)) rfl
    have r0 := h6b.at 0 rfl
    have r1 := h6b.at 1 rfl
    rw [← hwb]
    exact bodyPost_ret (v := .tuple #[.agg #[.int .i64 now, .slice a n c], .int .i64 8]) (by simp [results, Try.f18, go_sem, r0, r1]) rfl ⟨a, n, c, by rw [HF.out], by rw [HF.out]; exact H.out.low hBb, hBb⟩
  | some i =>
    have hil := RS.find_lt hf
    obtain ⟨s, hs⟩ : ∃ s, r.stores[i]? = some s := ⟨_, List.getElem?_eq_getElem hil⟩
    have HFI := Lib.hid hf
    have HS := Lib.hid hs
    have HIL : Hid (i < n) := Lib.hid (by rw [← H.out.len]; exact hil)
    have HSO := Lib.hid (OK.out.each s (List.mem_of_getElem? hs))
    by_cases ht : t < 0 ∨ u < t ∨ 1099511627776 < u
    · have HF : Hid (r.replay id t u = (r, 10)) := Lib.hid (by unfold RS.replay; rw [hf]; dsimp only; rw [if_pos ht])
      have e2 : ¬ (i : Int) < 0 := by omega
      clear hf hs hil
      by_cases h0 : t < 0
      · clear ht
        go_wp2_with fail
        refine (rfind_any id now H1.out.at_ H1.out.len hn hc hm).mono ?_
        rintro e w2 ⟨he, hB2⟩
        rw [HFI.out] at he
        subst he
        have HB2 := Lib.hid (HB.out.trans (hB2.mono HB.out.size))
        have k3 := HK.out.below hB2 (Nat.le_refl _)
        have k6 := HK6.out.below hB2 (Nat.le_refl _)
        have d0 := k3.at 0 rfl
        have d1 := k3.at 1 rfl
        have dl := k3.lt
        have t0 := k6.at 0 rfl
        have t1 := k6.at 1 rfl
        have tf0 := k6.free 0
        have tf1 := k6.free 1
        have tl := k6.lt
        have K6 := Lib.hid k6
        clear c0 c1 cl hB2 k3 k6
        unfold idxI
        dsimp only
        go_wp2_with fail
        obtain ⟨wb, hwb⟩ : ∃ x, x = (w2.setCell ⟨b3 + 1, 0, none⟩ (.int .i64 now)).setCell ⟨b3 + 1, 1, none⟩ (.slice a n c) := ⟨_, rfl⟩
        have hBb : Below w.heap.size w wb := by
          rw [hwb]
          exact (HB2.out.setCell (p := ⟨b3 + 1, 0, none⟩) (by show w.heap.size ≤ b3 + 1; rw [HB3.out]; omega) _).setCell (p := ⟨b3 + 1, 1, none⟩) (by show w.heap.size ≤ b3 + 1; rw [HB3.out]; omega) _
        have h6b : Blk wb (b3 + 1) 45 [.int .i64 now, .slice a n c] := by
          rw [hwb]
          exact Blk.cast ((K6.out.setCell 0 (.int .i64 now)).setCell 1 (.slice a n c)) rfl
        have r0 := h6b.at 0 rfl
        have r1 := h6b.at 1 rfl
        rw [← hwb]
        exact bodyPost_ret (v := .tuple #[.agg #[.int .i64 now, .slice a n c], .int .i64 10]) (by simp [results, Try.f18, go_sem, r0, r1]) rfl ⟨a, n, c, by rw [HF.out], by rw [HF.out]; exact H.out.low hBb, hBb⟩
      · by_cases h1 : u < t
        · clear ht
          go_wp2_with fail
          refine (rfind_any id now H1.out.at_ H1.out.len hn hc hm).mono ?_
          rintro e w2 ⟨he, hB2⟩
          rw [HFI.out] at he
          subst he
          have HB2 := Lib.hid (HB.out.trans (hB2.mono HB.out.size))
          have k3 := HK.out.below hB2 (Nat.le_refl _)
          have k6 := HK6.out.below hB2 (Nat.le_refl _)
          have d0 := k3.at 0 rfl
          have d1 := k3.at 1 rfl
          have dl := k3.lt
          have t0 := k6.at 0 rfl
          have t1 := k6.at 1 rfl
          have tf0 := k6.free 0
          have tf1 := k6.free 1
          have tl := k6.lt
          have K6 := Lib.hid k6
          clear c0 c1 cl hB2 k3 k6
          unfold idxI
          dsimp only
          go_wp2_with fail
          obtain ⟨wb, hwb⟩ : ∃ x, x = (w2.setCell ⟨b3 + 1, 0, none⟩ (.int .i64 now)).setCell ⟨b3 + 1, 1, none⟩ (.slice a n c) := ⟨_, rfl⟩
          have hBb : Below w.heap.size w wb := by
            rw [hwb]
            exact (HB2.out.setCell (p := ⟨b3 + 1, 0, none⟩) (by show w.heap.size ≤ b3 + 1; rw [HB3.out]; omega) _).setCell (p := ⟨b3 + 1, 1, none⟩) (by show w.heap.size ≤ b3 + 1; rw [HB3.out]; omega) _
          have h6b : Blk wb (b3 + 1) 45 [.int .i64 now, .slice a n c] := by
            rw [hwb]
            exact Blk.cast ((K6.out.setCell 0 (.int .i64 now)).setCell 1 (.slice a n c)) rfl
          have r0 := h6b.at 0 rfl
          have r1 := h6b.at 1 rfl
          rw [← hwb]
          exact bodyPost_ret (v := .tuple #[.agg #[.int .i64 now, .slice a n c], .int .i64 10]) (by simp [results, Try.f18, go_sem, r0, r1]) rfl ⟨a, n, c, by rw [HF.out], by rw [HF.out]; exact H.out.low hBb, hBb⟩
        · have h2 : 1099511627776 < u := by omega
          clear ht
          go_wp2_with fail
          refine (rfind_any id now H1.out.at_ H1.out.len hn hc hm).mono ?_
          rintro e w2 ⟨he, hB2⟩
          rw [HFI.out] at he
          subst he
          have HB2 := Lib.hid (HB.out.trans (hB2.mono HB.out.size))
          have k3 := HK.out.below hB2 (Nat.le_refl _)
          have k6 := HK6.out.below hB2 (Nat.le_refl _)
          have d0 := k3.at 0 rfl
          have d1 := k3.at 1 rfl
          have dl := k3.lt
          have t0 := k6.at 0 rfl
          have t1 := k6.at 1 rfl
          have tf0 := k6.free 0
          have tf1 := k6.free 1
          have tl := k6.lt
          have K6 := Lib.hid k6
          clear c0 c1 cl hB2 k3 k6
          unfold idxI
          dsimp only
          go_wp2_with fail
          obtain ⟨wb, hwb⟩ : ∃ x, x = (w2.setCell ⟨b3 + 1, 0, none⟩ (.int .i64 now)).setCell ⟨b3 + 1, 1, none⟩ (.slice a n c) := ⟨_, rfl⟩
          have hBb : Below w.heap.size w wb := by
            rw [hwb]
            exact (HB2.out.setCell (p := ⟨b3 + 1, 0, none⟩) (by show w.heap.size ≤ b3 + 1; rw [HB3.out]; omega) _).setCell (p := ⟨b3 + 1, 1, none⟩) (by show w.heap.size ≤ b3 + 1; rw [HB3.out]; omega) _
          have h6b : Blk wb (b3 + 1) 45 [.int .i64 now, .slice a n c] := by
            rw [hwb]
            exact Blk.cast ((K6.out.setCell 0 (.int .i64 now)).setCell 1 (.slice a n c)) rfl
          have r0 := h6b.at 0 rfl
          have r1 := h6b.at 1 rfl
          rw [← hwb]
          exact bodyPost_ret (v := .tuple #[.agg #[.int .i64 now, .slice a n c], .int .i64 10]) (by simp [results, Try.f18, go_sem, r0, r1]) rfl ⟨a, n, c, by rw [HF.out], by rw [HF.out]; exact H.out.low hBb, hBb⟩
    · have HF : Hid (r.replay id t u = (r.put i (s.mark t u), 0)) := Lib.hid (by unfold RS.replay; rw [hf]; dsimp only; rw [if_neg ht, get_of hs])
      have h0 : ¬ t < 0 := fun e => ht (.inl e)
      have h1 : ¬ u < t := fun e => ht (.inr (.inl e))
      have h2 : ¬ 1099511627776 < u := fun e => ht (.inr (.inr e))
      have e1 : (i : Int) < (n : Int) := by have := HIL.out; omega
      have e2 : ¬ (i : Int) < 0 := by omega
      clear hf hs hil ht
      go_wp2_with fail
      refine (rfind_any id now H1.out.at_ H1.out.len hn hc hm).mono ?_
      rintro e w2 ⟨he, hB2⟩
      rw [HFI.out] at he
      subst he
      have HB2 := Lib.hid (HB.out.trans (hB2.mono HB.out.size))
      have k3 := HK.out.below hB2 (Nat.le_refl _)
      have k6 := HK6.out.below hB2 (Nat.le_refl _)
      obtain ⟨bR, oR, rfl, hbR, -, q0, q1, q2, q3, ⟨aL, cL, q4, q5, q6, q7⟩, q8⟩ := H.out.at HS.out
      obtain ⟨m, hm9⟩ : ∃ x, x = s.L.length := ⟨_, rfl⟩
      rw [← hm9] at q4 q5
      have HM := Lib.hid hm9.symm
      have HPK := Lib.hid q7
      have k0 := (HB2.out.cell (p := ⟨bR, _, none⟩) hbR).trans q0
      have k1 := (HB2.out.cell (p := ⟨bR, _, none⟩) hbR).trans q1
      have k2 := (HB2.out.cell (p := ⟨bR, _, none⟩) hbR).trans q2
      have k33 := (HB2.out.cell (p := ⟨bR, _, none⟩) hbR).trans q3
      have k4 := (HB2.out.cell (p := ⟨bR, _, none⟩) hbR).trans q4
      have k5 := (HB2.out.cell (p := ⟨bR, _, none⟩) hbR).trans q8
      obtain ⟨i1, hi1⟩ : ∃ x, x = s.id := ⟨_, rfl⟩
      obtain ⟨i2, hi2⟩ : ∃ x, x = s.room := ⟨_, rfl⟩
      obtain ⟨i3, hi3⟩ : ∃ x, x = s.prio := ⟨_, rfl⟩
      obtain ⟨i4, hi4⟩ : ∃ x, x = s.circ := ⟨_, rfl⟩
      obtain ⟨i5, hi5⟩ : ∃ x, x = (s.drop : Int) := ⟨_, rfl⟩
      rw [← hi1] at k0
      rw [← hi2] at k1
      rw [← hi3] at k2
      rw [← hi4] at k33
      rw [← hi5] at k5
      have HI : Hid (i1 = s.id ∧ i2 = s.room ∧ i3 = s.prio ∧ i4 = s.circ ∧ i5 = (s.drop : Int)) := Lib.hid ⟨hi1, hi2, hi3, hi4, hi5⟩
      have d1 := k3.at 1 rfl
      have dl := k3.lt
      have K3 := Lib.hid k3
      have K6 := Lib.hid k6
      clear hi1 hi2 hi3 hi4 hi5 q0 q1 q2 q3 q4 q7 q8 hm9 c0 c1 cl hB2 k3 k6
      unfold idxI
      dsimp only
      go_wp2_with fail
      obtain ⟨b9, hb9⟩ : ∃ x, x = w2.heap.size := ⟨_, rfl⟩
      obtain ⟨w3, hw3⟩ : ∃ x, x = w2.alloc (.cells #[.int .i64 i1, .int .i64 i2, .int .i64 i3, .bool i4, .slice aL m cL, .int .i64 i5] 78) := ⟨_, rfl⟩
      have hB3 : Below w2.heap.size w2 w3 := by rw [hw3]; exact al (Below.refl _ _) _
      have K9 : Hid (Blk w3 b9 78 [.int .i64 i1, .int .i64 i2, .int .i64 i3, .bool i4, .slice aL m cL, .int .i64 i5]) := Lib.hid (by rw [hw3, hb9]; exact Blk.new w2 78 _)
      have K33 := Lib.hid (K3.out.below hB3 (Nat.le_refl _))
      have K63 := Lib.hid (K6.out.below hB3 (Nat.le_refl _))
      have HBB := Lib.hid (HB2.out.trans (hB3.mono HB2.out.size))
      have HN3 : Hid (b3 ≠ b9 ∧ b3 + 1 ≠ b9 ∧ w.heap.size ≤ b9) := Lib.hid (by have := K6.out.lt; have := HB2.out.size; omega)
      have HTK : Hid (s.L.drop 0 = s.L) := Lib.hid rfl
      rw [← hw3, ← hb9]
      clear hw3 hb9 hB3 k0 k1 k2 k33 k4 k5 d1 dl e1 e2
      obtain ⟨j1, hj1, hz0, hz1, hz2⟩ := info_parts info81
      have HJ1 := Lib.hid hj1
      have HSM : Hid (m ≤ 2147483648) := Lib.hid (by rw [← HM.out]; exact len_room HSO.out)
      clear hj1
      go_loopg [12, 13] (m + 1) (fun gk v12 v13 wr => ∃ (k : Nat) (xs : List Value), k ≤ m ∧ m - k < gk ∧ v13 = .int .i64 (k : Int) ∧ Hid (wr.ownsRow w.heap.size 81 3 v12 k xs) ∧ Hid (MK t u w s.L k xs) ∧ Hid (Blk wr b9 78 [.int .i64 i1, .int .i64 i2, .int .i64 i3, .bool i4, .slice aL m cL, .int .i64 i5]) ∧ Hid (Blk wr b3 45 [.int .i64 now, .slice (some ⟨bR, oR, none⟩) n c]) ∧ Hid (Blk wr (b3 + 1) 45 [.int .i64 0, .slice none 0 0]) ∧ Hid (Below w.heap.size w wr))
      case atStart => exact ⟨0, [], Nat.zero_le _, by omega, rfl, Lib.hid (World.ownsRow_nil _ _ _ _), Lib.hid (MK.nil _ _ _ _), K9, K33, K63, HBB⟩
      case round =>
        obtain ⟨k, xs, hk, hgk, rfl, HO, HX, J9, J3, J6, JB⟩ := hrel
        have c4 := J9.out.at 4 rfl
        have l9 := J9.out.lt
        have hsm := HSM.out
        by_cases hlt : k < m
        · obtain ⟨x, hx⟩ : ∃ x, s.L[k]? = some x := ⟨_, List.getElem?_eq_getElem (by rw [HM.out]; exact hlt)⟩
          obtain ⟨bP, oP, rfl, hbP, p0, ⟨ad, cd, p1, p2, p3, p4⟩, p5⟩ : ∃ b off, aL = some ⟨b, off, none⟩ ∧ b < w.heap.size ∧ w.cell? ⟨b, off + k * 3, none⟩ = some (.int .i64 x.time) ∧ (∃ ad cd, w.cell? ⟨b, off + k * 3 + 1, none⟩ = some (.slice ad x.data.length cd) ∧ x.data.length ≤ cd ∧ cd ≤ maxLen ∧ BX w ad x.data) ∧ w.cell? ⟨b, off + k * 3 + 2, none⟩ = some (.bool x.want) := by
            rcases HPK.out with h | ⟨b, off, h1, h2, -, h3⟩
            · rw [h] at hx; cases hx
            · exact ⟨b, off, h1, h2, h3 k x hx⟩
          have r0 := (JB.out.cell (p := ⟨bP, _, none⟩) hbP).trans p0
          have r1 := (JB.out.cell (p := ⟨bP, _, none⟩) hbP).trans p1
          have r2 := (JB.out.cell (p := ⟨bP, _, none⟩) hbP).trans p5
          obtain ⟨tm, htm⟩ : ∃ x9, x9 = x.time := ⟨_, rfl⟩
          obtain ⟨dl, hdl⟩ : ∃ x9, x9 = x.data.length := ⟨_, rfl⟩
          obtain ⟨wn, hwn⟩ : ∃ x9, x9 = x.want := ⟨_, rfl⟩
          rw [← htm] at r0
          rw [← hdl] at r1 p2
          rw [← hwn] at r2
          have HTM := Lib.hid htm
          have HDL := Lib.hid hdl
          have HWN := Lib.hid hwn
          have HE := Lib.hid hx
          have HP4 := Lib.hid p4
          have e1 : (k : Int) < (m : Int) := by omega
          clear hx p0 p1 p4 p5 htm hdl hwn
          cases wn with
          | true =>
            have HWV : Hid (true = (wantIf t u x).want) := Lib.hid (by show _ = (x.want || (decide (t ≤ x.time) && decide (x.time ≤ u))); rw [← HWN.out]; rfl)
            go_wp2_with (at_builtin; refine wpList_append_own_at _ rfl (.tmp 65) (.tmp 67) 76 rfl w.heap.size 81 j1 _ 3 40 Try.underlying76 HJ1.out hz0 hz1 hz2 rfl (by decide) _ k xs rfl (own_below HO.out (al (al (Below.refl _ _) _) _) (Nat.le_refl _)) ⟨wr.heap.size + 1, 0, none⟩ 1 1 [.int .i64 tm, .slice ad dl cd, .bool true] rfl rfl (row_new (by simp) _ 81) (by intro v hv; simp at hv; rcases hv with rfl | rfl | rfl <;> rfl) (by have := HSM.out; unfold maxLen; omega) (by have := HSM.out; omega) (Nat.le_trans JB.out.size (al (al (Below.refl wr.heap.size wr) _) _).size) ?_; intro v8 w8 hown8 hgrow8 hblk8 hob8; have HO8 := Lib.hid hown8; have K9' := Lib.hid (rows_keep HO.out J9.out (by decide) (al (al (Below.refl _ _) _) _) hgrow8); have K3' := Lib.hid (rows_keep HO.out J3.out (by decide) (al (al (Below.refl _ _) _) _) hgrow8); have K6' := Lib.hid (rows_keep HO.out J6.out (by decide) (al (al (Below.refl _ _) _) _) hgrow8); have HB8 : Hid (Below w.heap.size w w8) := Lib.hid ((JB.out.trans ((al (al (Below.refl wr.heap.size wr) _) _).mono JB.out.size)).grown hgrow8 (Nat.le_trans JB.out.size (al (al (Below.refl wr.heap.size wr) _) _).size) (fun k e => (HO.out.lt k e).1)); clear hown8 hgrow8 hblk8 hob8 c4 l9 r0 r1 r2)
            go_roundg (gk - 1)
            case rel => exact ⟨k + 1, _, by omega, by omega, by go_num, HO8, Lib.hid (HX.out.snoc HE.out HTM.out HDL.out p2 p3 HP4.out HWV.out), K9', K3', K6', HB8⟩
            case measure => omega
          | false =>
            by_cases hta : t ≤ tm
            · have HWV : Hid (decide (tm ≤ u) = (wantIf t u x).want) := Lib.hid (by show _ = (x.want || (decide (t ≤ x.time) && decide (x.time ≤ u))); rw [← HWN.out, ← HTM.out, decide_eq_true hta]; rfl)
              go_wp2_with (at_builtin; refine wpList_append_own_at _ rfl (.tmp 65) (.tmp 67) 76 rfl w.heap.size 81 j1 _ 3 40 Try.underlying76 HJ1.out hz0 hz1 hz2 rfl (by decide) _ k xs rfl (own_below HO.out (al (al (Below.refl _ _) _) _) (Nat.le_refl _)) ⟨wr.heap.size + 1, 0, none⟩ 1 1 [.int .i64 tm, .slice ad dl cd, .bool (decide (tm ≤ u))] rfl rfl (row_new (by simp) _ 81) (by intro v hv; simp at hv; rcases hv with rfl | rfl | rfl <;> rfl) (by have := HSM.out; unfold maxLen; omega) (by have := HSM.out; omega) (Nat.le_trans JB.out.size (al (al (Below.refl wr.heap.size wr) _) _).size) ?_; intro v8 w8 hown8 hgrow8 hblk8 hob8; have HO8 := Lib.hid hown8; have K9' := Lib.hid (rows_keep HO.out J9.out (by decide) (al (al (Below.refl _ _) _) _) hgrow8); have K3' := Lib.hid (rows_keep HO.out J3.out (by decide) (al (al (Below.refl _ _) _) _) hgrow8); have K6' := Lib.hid (rows_keep HO.out J6.out (by decide) (al (al (Below.refl _ _) _) _) hgrow8); have HB8 : Hid (Below w.heap.size w w8) := Lib.hid ((JB.out.trans ((al (al (Below.refl wr.heap.size wr) _) _).mono JB.out.size)).grown hgrow8 (Nat.le_trans JB.out.size (al (al (Below.refl wr.heap.size wr) _) _).size) (fun k e => (HO.out.lt k e).1)); clear hown8 hgrow8 hblk8 hob8 c4 l9 r0 r1 r2)
              go_roundg (gk - 1)
              case rel => exact ⟨k + 1, _, by omega, by omega, by go_num, HO8, Lib.hid (HX.out.snoc HE.out HTM.out HDL.out p2 p3 HP4.out HWV.out), K9', K3', K6', HB8⟩
              case measure => omega
            · have HWV : Hid (false = (wantIf t u x).want) := Lib.hid (by show _ = (x.want || (decide (t ≤ x.time) && decide (x.time ≤ u))); rw [← HWN.out, ← HTM.out, decide_eq_false hta]; rfl)
              go_wp2_with (at_builtin; refine wpList_append_own_at _ rfl (.tmp 65) (.tmp 67) 76 rfl w.heap.size 81 j1 _ 3 40 Try.underlying76 HJ1.out hz0 hz1 hz2 rfl (by decide) _ k xs rfl (own_below HO.out (al (al (Below.refl _ _) _) _) (Nat.le_refl _)) ⟨wr.heap.size + 1, 0, none⟩ 1 1 [.int .i64 tm, .slice ad dl cd, .bool false] rfl rfl (row_new (by simp) _ 81) (by intro v hv; simp at hv; rcases hv with rfl | rfl | rfl <;> rfl) (by have := HSM.out; unfold maxLen; omega) (by have := HSM.out; omega) (Nat.le_trans JB.out.size (al (al (Below.refl wr.heap.size wr) _) _).size) ?_; intro v8 w8 hown8 hgrow8 hblk8 hob8; have HO8 := Lib.hid hown8; have K9' := Lib.hid (rows_keep HO.out J9.out (by decide) (al (al (Below.refl _ _) _) _) hgrow8); have K3' := Lib.hid (rows_keep HO.out J3.out (by decide) (al (al (Below.refl _ _) _) _) hgrow8); have K6' := Lib.hid (rows_keep HO.out J6.out (by decide) (al (al (Below.refl _ _) _) _) hgrow8); have HB8 : Hid (Below w.heap.size w w8) := Lib.hid ((JB.out.trans ((al (al (Below.refl wr.heap.size wr) _) _).mono JB.out.size)).grown hgrow8 (Nat.le_trans JB.out.size (al (al (Below.refl wr.heap.size wr) _) _).size) (fun k e => (HO.out.lt k e).1)); clear hown8 hgrow8 hblk8 hob8 c4 l9 r0 r1 r2)
              go_roundg (gk - 1)
              case rel => exact ⟨k + 1, _, by omega, by omega, by go_num, HO8, Lib.hid (HX.out.snoc HE.out HTM.out HDL.out p2 p3 HP4.out HWV.out), K9', K3', K6', HB8⟩
              case measure => omega
        · have hkm : m = k := by omega
          subst hkm
          obtain ⟨a6, m6, c6, rfl⟩ := own_slice HO.out
          obtain ⟨he6, hcK, hmK, -⟩ := HX.out.at HM.out HO.out JB.out
          have he7 := he6.symm
          subst he7
          have HLM : Hid ((s.mark t u).L.length = m) := Lib.hid (by rw [← HM.out]; exact List.length_map ..)
          have fr4 := J9.out.free 4
          have e1 : ¬ (m : Int) < (m : Int) := by omega
          clear he6
          go_upto_region 15 with fail
          obtain ⟨wS, hwS⟩ : ∃ x, x = wr.setCell ⟨b9, 4, none⟩ (.slice a6 m c6) := ⟨_, rfl⟩
          have J9' : Hid (Blk wS b9 78 [.int .i64 i1, .int .i64 i2, .int .i64 i3, .bool i4, .slice a6 m c6, .int .i64 i5]) := Lib.hid (by rw [hwS]; exact Blk.cast (J9.out.setCell 4 _) rfl)
          have J3' : Hid (Blk wS b3 45 [.int .i64 now, .slice (some ⟨bR, oR, none⟩) n c]) := Lib.hid (by rw [hwS]; exact J3.out.setOther (p := ⟨b9, 4, none⟩) (fun e => HN3.out.1 e.symm) _)
          have J6' : Hid (Blk wS (b3 + 1) 45 [.int .i64 0, .slice none 0 0]) := Lib.hid (by rw [hwS]; exact J6.out.setOther (p := ⟨b9, 4, none⟩) (fun e => HN3.out.2.1 e.symm) _)
          have JB' : Hid (Below w.heap.size w wS) := Lib.hid (by rw [hwS]; exact JB.out.setCell (p := ⟨b9, 4, none⟩) HN3.out.2.2 _)
          have HPk' : Hid (PkAt wS a6 (s.mark t u).L) := Lib.hid (HX.out.at HM.out (by rw [hwS]; exact own_set HO.out (own_ne HO.out J9.out (by decide)) _) JB'.out).2.2.2
          rw [← hwS]
          clear hwS c4 fr4 l9
          have g0 := J9'.out.at 0 rfl
          have g1 := J9'.out.at 1 rfl
          have g2 := J9'.out.at 2 rfl
          have g3 := J9'.out.at 3 rfl
          have g4 := J9'.out.at 4 rfl
          have g5 := J9'.out.at 5 rfl
          have l9 := J9'.out.lt
          have v0 := J3'.out.at 0 rfl
          have v1 := J3'.out.at 1 rfl
          have vl := J3'.out.lt
          go_wp2_with fail
          obtain ⟨z1, z2, z3, z4, z5⟩ := HI.out
          subst z1 z2 z3 z4 z5
          refine (rwith_any (s := s.mark t u) now (H.out.low JB'.out) hn HIL.out HPk'.out HLM.out hcK hmK).mono ?_
          rintro e w5 ⟨a5, c5, rfl, hrv, hB5⟩
          have HRV := Lib.hid hrv
          have HB5 := Lib.hid (JB'.out.trans (hB5.mono JB'.out.size))
          have k6 := J6'.out.below hB5 (Nat.le_refl _)
          have t0 := k6.at 0 rfl
          have t1 := k6.at 1 rfl
          have tf0 := k6.free 0
          have tf1 := k6.free 1
          have tl := k6.lt
          have K6' := Lib.hid k6
          clear hrv hB5 k6 g0 g1 g2 g3 g4 g5 v0 v1 vl l9
          go_wp2_with fail
          obtain ⟨wb, hwb⟩ : ∃ x, x = (w5.setCell ⟨b3 + 1, 0, none⟩ (.int .i64 now)).setCell ⟨b3 + 1, 1, none⟩ (.slice a5 n c5) := ⟨_, rfl⟩
          have hBb : Below w.heap.size w wb := by
            rw [hwb]
            exact (HB5.out.setCell (p := ⟨b3 + 1, 0, none⟩) (by show w.heap.size ≤ b3 + 1; rw [HB3.out]; omega) _).setCell (p := ⟨b3 + 1, 1, none⟩) (by show w.heap.size ≤ b3 + 1; rw [HB3.out]; omega) _
          have h6b : Blk wb (b3 + 1) 45 [.int .i64 now, .slice a5 n c5] := by
            rw [hwb]
            exact Blk.cast ((K6'.out.setCell 0 (.int .i64 now)).setCell 1 (.slice a5 n c5)) rfl
          have hX : XF w5 wb := by
            rw [hwb]
            exact (XF.box K6'.out).trans (XF.box (K6'.out.setCell 0 (.int .i64 now)))
          have r0 := h6b.at 0 rfl
          have r1 := h6b.at 1 rfl
          rw [← hwb]
          exact bodyPost_ret (v := .tuple #[.agg #[.int .i64 now, .slice a5 n c5], .int .i64 0]) (by simp [results, Try.f18, go_sem, r0, r1]) rfl ⟨a5, n, c5, by rw [HF.out], by rw [HF.out]; exact HRV.out.x hX, hBb⟩
end Go.Proofs.Ytnojmkmmfiahgaa

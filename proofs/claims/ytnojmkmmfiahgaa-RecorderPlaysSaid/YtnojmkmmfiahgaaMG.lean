/- The reference's with. No condition. -/
import Derived.Test.YtnojmkmmfiahgaaMF
import Derived.Maps.AppendAt
namespace Go.Proofs.Ytnojmkmmfiahgaa
open Go.RowKit Go.Deep Go.ChangeShapes Go.WideShapes Go.ChangeAt
set_option linter.unusedVariables false

theorem info78 : (Try.prog.info? 78).map (fun i => (i.zero, i.size, i.bytes)) = some (some (.agg #[.int .i64 0, .int .i64 0, .int .i64 0, .bool false, .slice none 0 0, .int .i64 0]), 6, 64) := by kernel_rfl
/-- all cells of the stores -/
theorem rcells {w : World} {b off : Nat} {l : List St} (h : ∀ (i : Nat) (s : St), l[i]? = some s → SkAt w b (off + i * 6) s) : ∃ news : List Value, news.length = l.length * 6 ∧ (∀ j u, news[j]? = some u → w.cell? ((⟨b, off, none⟩ : Addr).add j) = some u) ∧ ∀ u ∈ news, u.oneCell' = true := by
  have hc : ∀ j, j < l.length * 6 → ∃ u, w.cell? ⟨b, off + j, none⟩ = some u ∧ u.oneCell' = true := fun j hj => by
    obtain ⟨s, hs⟩ : ∃ s, l[j / 6]? = some s := ⟨_, List.getElem?_eq_getElem (by omega)⟩
    obtain ⟨k0, k1, k2, k3, ⟨aL, cL, k4, -⟩, k5⟩ := h _ s hs
    have e : j = j / 6 * 6 + j % 6 := by omega
    have hm : j % 6 < 6 := by omega
    generalize j / 6 = q at *
    generalize j % 6 = p at *
    subst e
    rcases p with _ | _ | _ | _ | _ | _ | p
    · exact ⟨_, k0, rfl⟩
    · exact ⟨_, k1, rfl⟩
    · exact ⟨_, k2, rfl⟩
    · exact ⟨_, k3, rfl⟩
    · exact ⟨_, k4, rfl⟩
    · exact ⟨_, k5, rfl⟩
    · omega
  refine ⟨(List.range (l.length * 6)).map fun j => (w.cell? ⟨b, off + j, none⟩).getD (.bool false), by simp, fun j u hu => ?_, fun u hu => ?_⟩
  · rw [List.getElem?_map] at hu
    have hj : j < l.length * 6 := by
      by_cases hj : j < l.length * 6
      · exact hj
      · rw [List.getElem?_eq_none (by simpa using hj)] at hu
        cases hu
    obtain ⟨x, hx, -⟩ := hc j hj
    rw [List.getElem?_range hj] at hu
    simp only [Option.map_some, hx, Option.getD_some, Option.some.injEq] at hu
    subst hu
    have e9 : ((⟨b, off, none⟩ : Addr).add j) = ⟨b, off + j, none⟩ := by simp [Addr.add]
    rw [e9]
    exact hx
  · rw [List.mem_map] at hu
    obtain ⟨j, hj, rfl⟩ := hu
    obtain ⟨x, hx, hy⟩ := hc j (by simpa using hj)
    rw [hx]
    exact hy
/-- behind the append and the store of the row -/
theorem with_row {w1 w8 : World} {b3 n c i m cL : Nat} {a aL : Option Addr} {now i1 i2 i3 i5 : Int} {i4 : Bool} {v8 : Value} {news : List Value} (h3 : Blk w1 b3 45 [.int .i64 now, .slice a n c]) (h5 : Blk w1 (b3 + 1) 78 [.int .i64 i1, .int .i64 i2, .int .i64 i3, .bool i4, .slice aL m cL, .int .i64 i5]) (h6 : Blk w1 (b3 + 1 + 1) 45 [.int .i64 0, .slice none 0 0]) (hi : i < n)
    (how : w8.ownsRow w1.heap.size 78 6 v8 (0 + n) ([] ++ news)) (hg : (w1.alloc (.cells #[] 78)).grownBy w8 (Value.slice (some ⟨w1.heap.size, 0, none⟩) 0 0).ownBlock) :
    ∃ g c8 cs, v8 = .slice (some ⟨g, 0, none⟩) n c8 ∧ n ≤ c8 ∧ c8 ≤ maxLen ∧ (w8.cell? ⟨b3, 1, none⟩ = some (.slice a n c) ∧ w8.frozen? ⟨b3, 1, none⟩ = false ∧ b3 < w8.heap.size) ∧ (Blk (w8.setCell ⟨b3, 1, none⟩ v8) b3 45 [.int .i64 now, v8] ∧ Blk (w8.setCell ⟨b3, 1, none⟩ v8) (b3 + 1) 78 [.int .i64 i1, .int .i64 i2, .int .i64 i3, .bool i4, .slice aL m cL, .int .i64 i5] ∧ Blk (w8.setCell ⟨b3, 1, none⟩ v8) (b3 + 1 + 1) 45 [.int .i64 0, .slice none 0 0]) ∧ Below b3 w1 (w8.setCell ⟨b3, 1, none⟩ v8) ∧
      (w1.heap.size ≤ g ∧ Blk (w8.setCell ⟨b3, 1, none⟩ v8) g 78 cs ∧ ∀ j, j < n * 6 → cs[j]? = news[j]?) := by
  have hl := how.1
  have hB : Below w1.heap.size w1 w8 := (al (Below.refl _ _) _).grown hg (by simp) (fun k e => by simp [Value.ownBlock] at e; omega)
  have e3 := h3.below hB (Nat.le_refl _)
  have e5 := h5.below hB (Nat.le_refl _)
  have e6 := h6.below hB (Nat.le_refl _)
  have hlt := h3.lt
  rcases how.2 with ⟨-, h0⟩ | ⟨g, cap, cur, rfl, q1, q2, q3, q4, q5, q6⟩
  · omega
  · simp only [List.nil_append, Nat.zero_add] at how hl q3 q6 ⊢
    have hcur : Blk w8 g 78 cur.toList := by unfold Blk; rw [q2]
    exact ⟨g, cap, cur.toList, rfl, q3, q4, ⟨e3.at 1 rfl, e3.free 1, e3.lt⟩, ⟨Blk.cast (e3.setCell 1 _) rfl, e5.setOther (p := ⟨b3, 1, none⟩) (by show b3 ≠ b3 + 1; omega) _, e6.setOther (p := ⟨b3, 1, none⟩) (by show b3 ≠ b3 + 1 + 1; omega) _⟩, (hB.mono (Nat.le_of_lt hlt)).setCell (p := ⟨b3, 1, none⟩) (Nat.le_refl _) _, q1, hcur.setOther (p := ⟨b3, 1, none⟩) (by show b3 ≠ g; omega) _, fun j hj => by
      rw [← q6, List.getElem?_take_of_lt hj]⟩
/-- the row with one store changed -/
theorem with_done {w W : World} {bR oR g n c8 i m cL : Nat} {aL : Option Addr} {r : RS} {s : St} {cs news : List Value} (hsk : ∀ (i : Nat) (s : St), r.stores[i]? = some s → SkAt w bR (oR + i * 6) s) (hnc : ∀ (j : Nat) (u : Value), news[j]? = some u → w.cell? ((⟨bR, oR, none⟩ : Addr).add j) = some u) (hnl : news.length = n * 6) (hlen : r.stores.length = n) (hcs : ∀ j, j < n * 6 → cs[j]? = news[j]?) (hB : Below w.heap.size w W)
    (hg : Blk W g 78 ((((((cs.set (i * 6) (.int .i64 s.id)).set (i * 6 + 1) (.int .i64 s.room)).set (i * 6 + 2) (.int .i64 s.prio)).set (i * 6 + 3) (.bool s.circ)).set (i * 6 + 4) (.slice aL m cL)).set (i * 6 + 5) (.int .i64 (s.drop : Int)))) (hP : PkAt w aL s.L) (hl : s.L.length = m) (hc : m ≤ cL) (hm : cL ≤ maxLen) (hi : i < n) (hle : n ≤ c8) (hmx : c8 ≤ maxLen) : RV W (r.put i s) (some ⟨g, 0, none⟩) n c8 := by
  subst hl
  have hcl : n * 6 ≤ cs.length := by
    refine Nat.not_lt.1 fun hlt => ?_
    have h9 := hcs (n * 6 - 1) (by omega)
    rw [List.getElem?_eq_none (by omega), List.getElem?_eq_getElem (by rw [hnl]; omega)] at h9
    cases h9
  have hold : ∀ (q j : Nat) (v : Value), q ≠ i → q < n → j < 6 → w.cell? ⟨bR, oR + q * 6 + j, none⟩ = some v → W.cell? ⟨g, 0 + q * 6 + j, none⟩ = some v := fun q j v hq hqn hj hv => by
    have e9 : ((⟨bR, oR, none⟩ : Addr).add (q * 6 + j)) = ⟨bR, oR + q * 6 + j, none⟩ := by simp [Addr.add, Nat.add_assoc]
    obtain ⟨u, hu⟩ : ∃ u, news[q * 6 + j]? = some u := ⟨_, List.getElem?_eq_getElem (by rw [hnl]; omega)⟩
    have h9 := hnc _ u hu
    rw [e9, hv] at h9
    cases h9
    rw [Nat.zero_add]
    refine hg.at _ ?_
    rw [List.getElem?_set_ne (by omega), List.getElem?_set_ne (by omega), List.getElem?_set_ne (by omega), List.getElem?_set_ne (by omega), List.getElem?_set_ne (by omega), List.getElem?_set_ne (by omega), hcs _ (by omega)]
    exact hu
  refine ⟨.inr ⟨g, 0, rfl, hg.lt, fun ⟨cs', t, m', h2, h3⟩ => ?_, fun q t ht => ?_⟩, by show (r.stores.set i s).length = n; rw [List.length_set]; exact hlen, hle, hmx⟩
  · rw [show W.heap[g]? = _ from hg] at h2
    simp at h2
    obtain ⟨-, rfl, -⟩ := h2
    rcases h3 with (e | e | e | e | e) | e <;> exact absurd e (by decide)
  · have ht2 : (r.stores.set i s)[q]? = some t := ht
    by_cases e : q = i
    · subst e
      rw [List.getElem?_set_self (by omega)] at ht2
      cases ht2
      rw [Nat.zero_add]
      refine ⟨hg.at _ ?_, hg.at _ ?_, hg.at _ ?_, hg.at _ ?_, ⟨aL, cL, hg.at _ ?_, hc, hm, hP.low hB⟩, hg.at _ ?_⟩
      · simp only [List.getElem?_set, List.length_set]; simp; omega
      · simp only [List.getElem?_set, List.length_set]; simp; omega
      · simp only [List.getElem?_set, List.length_set]; simp; omega
      · simp only [List.getElem?_set, List.length_set]; simp; omega
      · simp only [List.getElem?_set, List.length_set]; simp; omega
      · simp only [List.getElem?_set, List.length_set]; simp; omega
    · rw [List.getElem?_set_ne (fun h => e h.symm)] at ht2
      have hqn : q < n := by rw [← hlen]; exact (List.getElem?_eq_some_iff.1 ht2).1
      obtain ⟨k0, k1, k2, k3, ⟨aq, cq, k4, k5, k6, k7⟩, k8⟩ := hsk q t ht2
      exact ⟨hold q 0 _ e hqn (by omega) k0, hold q 1 _ e hqn (by omega) k1, hold q 2 _ e hqn (by omega) k2, hold q 3 _ e hqn (by omega) k3, ⟨aq, cq, hold q 4 _ e hqn (by omega) k4, k5, k6, k7.low hB⟩, hold q 5 _ e hqn (by omega) k8⟩
set_option maxRecDepth 20000 in
theorem rwith_any {w : World} {a aL : Option Addr} {n c m cL i : Nat} {r : RS} {s : St} (now : Int) (h : RV w r a n c) (hn : n ≤ 1000) (hi : i < n) (hP : PkAt w aL s.L) (hl : s.L.length = m) (hc : m ≤ cL) (hm : cL ≤ maxLen) : Calls Try.prog 31 #[.agg #[.int .i64 now, .slice a n c], .int .i64 (i : Int), skv s aL m cL] w fun e w' => ∃ a' c', e = .returned (.agg #[.int .i64 now, .slice a' n c']) ∧ RV w' (r.put i s) a' n c' ∧ Below w.heap.size w w' := by
  obtain ⟨bR, oR, rfl, hbR, hbK, hsk⟩ : ∃ b off, a = some ⟨b, off, none⟩ ∧ b < w.heap.size ∧ ¬ RkX w b ∧ ∀ (i : Nat) (s : St), r.stores[i]? = some s → SkAt w b (off + i * 6) s := by
    rcases h.at_ with h1 | h1
    · have := h.len; rw [h1] at this; simp at this; omega
    · exact h1
  obtain ⟨news, hnl, hnc, hn1⟩ := rcells hsk
  have H := Lib.hid h
  have HP := Lib.hid hP
  have HL := Lib.hid hl
  have HSK := Lib.hid hsk
  have HNW := Lib.hid hnc
  clear h hP hl hsk
  unfold skv
  go_enter Try.func31, Try.ntmps31
  go_upto_region 1 with fail
  obtain ⟨b3, hb3⟩ : ∃ x, x = w.heap.size := ⟨_, rfl⟩
  obtain ⟨w1, hw1⟩ : ∃ w1, w1 = ((w.alloc (.cells #[.int .i64 now, .slice (some ⟨bR, oR, none⟩) n c] 45)).alloc (.cells #[.int .i64 s.id, .int .i64 s.room, .int .i64 s.prio, .bool s.circ, .slice aL m cL, .int .i64 (s.drop : Int)] 78)).alloc (.cells #[.int .i64 0, .slice none 0 0] 45) := ⟨_, rfl⟩
  have hB1 : Below w.heap.size w w1 := by rw [hw1]; exact al (al (al (Below.refl _ _) _) _) _
  have h3 : Blk w1 b3 45 [.int .i64 now, .slice (some ⟨bR, oR, none⟩) n c] := by rw [hw1, hb3]; exact ((Blk.new w 45 _).alloc _).alloc _
  have h5 : Blk w1 (b3 + 1) 78 [.int .i64 s.id, .int .i64 s.room, .int .i64 s.prio, .bool s.circ, .slice aL m cL, .int .i64 (s.drop : Int)] := by rw [hw1, hb3]; exact (Blk.newAt (xs := [.int .i64 s.id, .int .i64 s.room, .int .i64 s.prio, .bool s.circ, .slice aL m cL, .int .i64 (s.drop : Int)]) (T := 78) (w := w.alloc (.cells #[.int .i64 now, .slice (some ⟨bR, oR, none⟩) n c] 45)) (n := w.heap.size + 1) (by simp)).alloc _
  have h6 : Blk w1 (b3 + 1 + 1) 45 [.int .i64 0, .slice none 0 0] := by rw [hw1, hb3]; exact Blk.newAt (xs := [.int .i64 0, .slice none 0 0]) (T := 45) (n := w.heap.size + 1 + 1) (by simp)
  have H1 := Lib.hid (H.out.low hB1)
  have HB1 := Lib.hid hB1
  have HB3 := Lib.hid hb3
  have HNC : Hid (∀ (j : Nat) (u : Value), news[j]? = some u → w1.cell? ((⟨bR, oR, none⟩ : Addr).add j) = some u) := Lib.hid (fun j u hj => by
    have e9 : ((⟨bR, oR, none⟩ : Addr).add j) = ⟨bR, oR + j, none⟩ := by simp [Addr.add]
    have h9 := hnc j u hj
    rw [e9] at h9 ⊢
    exact (hB1.cell (p := ⟨bR, _, none⟩) hbR).trans h9)
  have HN1 := Lib.hid hn1
  have HNL : Hid (news.length = n * 6) := Lib.hid (by rw [hnl, H.out.len])
  have d0 := h3.at 0 rfl
  have d1 := h3.at 1 rfl
  have dl := h3.lt
  have k3 := Lib.hid h3
  have k5 := Lib.hid h5
  have k6 := Lib.hid h6
  obtain ⟨j1, hj1, hz0, hz1, hz2⟩ := info_parts info78
  have HJ1 := Lib.hid hj1
  rw [← hw1, ← hb3]
  clear hw1 hb3 hB1 h3 h5 h6 hnc hn1 hnl hj1
  have HS1 : Hid (w.heap.size ≤ w1.heap.size) := Lib.hid HB1.out.size
  go_upto_region 2 with (at_builtin; refine wpList_append_own_at _ rfl (.tmp 7) (.tmp 9) 43 rfl w1.heap.size 78 j1 _ 6 64 Try.underlying43 HJ1.out hz0 hz1 hz2 rfl (by decide) _ 0 [] rfl (World.ownsRow_made _ #[] 0 (Nat.le_refl _) (by unfold maxLen; omega) rfl) ⟨bR, oR, none⟩ n c news rfl HNL.out (fun j u hj => by have h9 := HNC.out j u hj; have e9 : ((⟨bR, oR, none⟩ : Addr).add j) = ⟨bR, oR + j, none⟩ := (by simp [Addr.add]); rw [e9] at h9 ⊢; exact ((al (Below.refl w1.heap.size w1) (.cells #[] 78)).cell (p := ⟨bR, _, none⟩) (World.block_lt_of_cell? w1 _ h9)).trans h9) HN1.out (by unfold maxLen; omega) (by omega) (al (Below.refl w1.heap.size w1) (.cells #[] 78)).size ?_; intro v8 w8 hown8 hgrow8 hblk8 hob8; obtain ⟨g, c8, cs, rfl, q1, q2, ⟨f1, f2, f3⟩, q5, q6, q8⟩ := with_row k3.out k5.out k6.out hi hown8 hgrow8; have K8 := Lib.hid q5; have HB8 := Lib.hid q6; have HQ8 := Lib.hid q8; clear hown8 hgrow8 hblk8 hob8 q5 q6 q8)
  obtain ⟨w9, hw9⟩ : ∃ x, x = w8.setCell ⟨b3, 1, none⟩ (.slice (some ⟨g, 0, none⟩) n c8) := ⟨_, rfl⟩
  rw [← hw9] at K8 HB8 HQ8 ⊢
  clear hw9 f1 f2 f3 d0 d1 dl
  have d1 := K8.out.1.at 1 rfl
  have dl := K8.out.1.lt
  have s0 := K8.out.2.1.at 0 rfl
  have s1 := K8.out.2.1.at 1 rfl
  have s2 := K8.out.2.1.at 2 rfl
  have s3 := K8.out.2.1.at 3 rfl
  have s4 := K8.out.2.1.at 4 rfl
  have s5 := K8.out.2.1.at 5 rfl
  have sl := K8.out.2.1.lt
  have hcl : n * 6 ≤ cs.length := by
    refine Nat.not_lt.1 fun hlt => ?_
    have h9 := HQ8.out.2.2 (n * 6 - 1) (by omega)
    rw [List.getElem?_eq_none (by omega), List.getElem?_eq_getElem (by rw [HNL.out]; omega)] at h9
    cases h9
  have hx : ∀ j, j < n * 6 → ∃ x, cs[j]? = some x := fun j hj => ⟨_, List.getElem?_eq_getElem (by omega)⟩
  obtain ⟨x0, z0⟩ := hx (i * 6) (by omega)
  obtain ⟨x1, z1⟩ := hx (i * 6 + 1) (by omega)
  obtain ⟨x2, z2⟩ := hx (i * 6 + 2) (by omega)
  obtain ⟨x3, z3⟩ := hx (i * 6 + 3) (by omega)
  obtain ⟨x4, z4⟩ := hx (i * 6 + 4) (by omega)
  obtain ⟨x5, z5⟩ := hx (i * 6 + 5) (by omega)
  have y0 := HQ8.out.2.1.at _ z0
  have y1 := HQ8.out.2.1.at _ z1
  have y2 := HQ8.out.2.1.at _ z2
  have y3 := HQ8.out.2.1.at _ z3
  have y4 := HQ8.out.2.1.at _ z4
  have y5 := HQ8.out.2.1.at _ z5
  have f0 := HQ8.out.2.1.free (i * 6)
  have f1 := HQ8.out.2.1.free (i * 6 + 1)
  have f2 := HQ8.out.2.1.free (i * 6 + 2)
  have f3 := HQ8.out.2.1.free (i * 6 + 3)
  have f4 := HQ8.out.2.1.free (i * 6 + 4)
  have f5 := HQ8.out.2.1.free (i * 6 + 5)
  have gl := HQ8.out.2.1.lt
  have e1 : (i : Int) < (n : Int) := by omega
  clear hx z0 z1 z2 z3 z4 z5 hcl
  go_upto_region 3 with fail
  obtain ⟨wa, hwa⟩ : ∃ x, x = (((((w9.setCell ⟨g, i * 6, none⟩ (.int .i64 s.id)).setCell ⟨g, i * 6 + 1, none⟩ (.int .i64 s.room)).setCell ⟨g, i * 6 + 2, none⟩ (.int .i64 s.prio)).setCell ⟨g, i * 6 + 3, none⟩ (.bool s.circ)).setCell ⟨g, i * 6 + 4, none⟩ (.slice aL m cL)).setCell ⟨g, i * 6 + 5, none⟩ (.int .i64 (s.drop : Int)) := ⟨_, rfl⟩
  have hgb : w1.heap.size ≤ g := HQ8.out.1
  have hbl : b3 < w1.heap.size := k3.out.lt
  have hbl2 : b3 + 1 + 1 < w1.heap.size := k6.out.lt
  have m3 : Blk wa b3 45 [.int .i64 now, .slice (some ⟨g, 0, none⟩) n c8] := by
    rw [hwa]
    exact (((((K8.out.1.setOther (by show g ≠ b3; omega) _).setOther (by show g ≠ b3; omega) _).setOther (by show g ≠ b3; omega) _).setOther (by show g ≠ b3; omega) _).setOther (by show g ≠ b3; omega) _).setOther (by show g ≠ b3; omega) _
  have m6 : Blk wa (b3 + 1 + 1) 45 [.int .i64 0, .slice none 0 0] := by
    rw [hwa]
    exact (((((K8.out.2.2.setOther (by show g ≠ b3 + 1 + 1; omega) _).setOther (by show g ≠ b3 + 1 + 1; omega) _).setOther (by show g ≠ b3 + 1 + 1; omega) _).setOther (by show g ≠ b3 + 1 + 1; omega) _).setOther (by show g ≠ b3 + 1 + 1; omega) _).setOther (by show g ≠ b3 + 1 + 1; omega) _
  have mg : Blk wa g 78 ((((((cs.set (i * 6) (.int .i64 s.id)).set (i * 6 + 1) (.int .i64 s.room)).set (i * 6 + 2) (.int .i64 s.prio)).set (i * 6 + 3) (.bool s.circ)).set (i * 6 + 4) (.slice aL m cL)).set (i * 6 + 5) (.int .i64 (s.drop : Int))) := by
    rw [hwa]
    exact (((((HQ8.out.2.1.setCell (i * 6) _).setCell (i * 6 + 1) _).setCell (i * 6 + 2) _).setCell (i * 6 + 3) _).setCell (i * 6 + 4) _).setCell (i * 6 + 5) _
  have hBa : Below b3 w1 wa := by
    rw [hwa]
    exact (((((HB8.out.setCell (p := ⟨g, _, none⟩) (by show b3 ≤ g; omega) _).setCell (p := ⟨g, _, none⟩) (by show b3 ≤ g; omega) _).setCell (p := ⟨g, _, none⟩) (by show b3 ≤ g; omega) _).setCell (p := ⟨g, _, none⟩) (by show b3 ≤ g; omega) _).setCell (p := ⟨g, _, none⟩) (by show b3 ≤ g; omega) _).setCell (p := ⟨g, _, none⟩) (by show b3 ≤ g; omega) _
  have HCS := Lib.hid HQ8.out.2.2
  have MG := Lib.hid mg
  have M6 := Lib.hid m6
  have HBA := Lib.hid hBa
  have HGB := Lib.hid hgb
  have HBL := Lib.hid hbl2
  rw [← hwa]
  clear hwa mg hBa hgb hbl hbl2 y0 y1 y2 y3 y4 y5 f0 f1 f2 f3 f4 f5 gl s0 s1 s2 s3 s4 s5 sl d1 dl
  have d0 := m3.at 0 rfl
  have d1 := m3.at 1 rfl
  have dl := m3.lt
  have t0 := m6.at 0 rfl
  have t1 := m6.at 1 rfl
  have tf0 := m6.free 0
  have tf1 := m6.free 1
  have tl := m6.lt
  clear m3 m6
  go_wp2_with fail
  obtain ⟨wb, hwb⟩ : ∃ x, x = (wa.setCell ⟨b3 + 1 + 1, 0, none⟩ (.int .i64 now)).setCell ⟨b3 + 1 + 1, 1, none⟩ (.slice (some ⟨g, 0, none⟩) n c8) := ⟨_, rfl⟩
  have h6b : Blk wb (b3 + 1 + 1) 45 [.int .i64 now, .slice (some ⟨g, 0, none⟩) n c8] := by
    rw [hwb]
    exact Blk.cast ((M6.out.setCell 0 (.int .i64 now)).setCell 1 (.slice (some ⟨g, 0, none⟩) n c8)) rfl
  have r0 := h6b.at 0 rfl
  have r1 := h6b.at 1 rfl
  have hgne : b3 + 1 + 1 ≠ g := by have h1 := HGB.out; have h2 := HBL.out; omega
  have hgb := (MG.out.setOther (p := ⟨b3 + 1 + 1, 0, none⟩) hgne (.int .i64 now)).setOther (p := ⟨b3 + 1 + 1, 1, none⟩) hgne (.slice (some ⟨g, 0, none⟩) n c8)
  have hBb : Below b3 w1 wb := by
    rw [hwb]
    exact (HBA.out.setCell (p := ⟨b3 + 1 + 1, 0, none⟩) (by show b3 ≤ b3 + 1 + 1; omega) _).setCell (p := ⟨b3 + 1 + 1, 1, none⟩) (by show b3 ≤ b3 + 1 + 1; omega) _
  have hBw : Below w.heap.size w wb := HB1.out.trans (hBb.mono (Nat.le_of_eq HB3.out.symm))
  rw [← hwb] at hgb ⊢
  exact bodyPost_ret (v := .agg #[.int .i64 now, .slice (some ⟨g, 0, none⟩) n c8]) (by simp [results, Try.f31, go_sem, r0, r1]) rfl ⟨_, _, rfl, with_done HSK.out HNW.out HNL.out H.out.len HCS.out hBw hgb HP.out HL.out hc hm hi q1 q2, hBw⟩
end Go.Proofs.Ytnojmkmmfiahgaa

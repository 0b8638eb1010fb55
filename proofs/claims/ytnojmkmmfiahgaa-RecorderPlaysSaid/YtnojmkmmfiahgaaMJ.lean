/- The reference's New. No condition. -/
import Derived.Test.YtnojmkmmfiahgaaMI
namespace Go.Proofs.Ytnojmkmmfiahgaa
open Go.RowKit Go.Deep Go.ChangeShapes Go.WideShapes Go.ChangeAt
set_option linter.unusedVariables false

def Df.six (d : Df) : List Value := [.int .i64 d.id, .int .i64 d.room, .int .i64 d.prio, .bool d.circ, .slice none 0 0, .int .i64 0]
/-- the stores that are made -/
def NK (ds : List Df) (k : Nat) (xs : List Value) : Prop :=
  xs.length = k * 6 ∧ ∀ (j : Nat) (d : Df), j < k → ds[j]? = some d → ∀ (q : Nat) (u : Value), d.six[q]? = some u → xs[j * 6 + q]? = some u
theorem NK.nil (ds : List Df) : NK ds 0 [] := ⟨rfl, fun j d hj => absurd hj (Nat.not_lt_zero _)⟩
theorem NK.snoc {ds : List Df} {k : Nat} {xs : List Value} {d : Df} (h : NK ds k xs) (hd : ds[k]? = some d) : NK ds (k + 1) (xs ++ d.six) := by
  have h6 : d.six.length = 6 := rfl
  have hl := h.1
  refine ⟨by rw [List.length_append, hl, h6]; omega, fun j d' hj hd' q u hu => ?_⟩
  have hq : q < 6 := (List.getElem?_eq_some_iff.1 hu).1
  by_cases hjk : j < k
  · rw [List.getElem?_append_left (by omega)]
    exact h.2 j d' hjk hd' q u hu
  · obtain rfl : j = k := by omega
    rw [hd] at hd'
    cases hd'
    rw [List.getElem?_append_right (by omega), hl, Nat.add_sub_cancel_left]
    exact hu
/-- they lie there -/
theorem NK.at {W : World} {B n m a' c' : Nat} {aK : Option Addr} {xs : List Value} {ds : List Df} (hl : ds.length = n) (h : NK ds n xs) (how : W.ownsRow B 78 6 (.slice aK a' c') n xs) : a' = n ∧ RV W ⟨0, ds.map Df.st⟩ aK n c' := by
  have hl2 : (ds.map Df.st).length = n := by rw [List.length_map]; exact hl
  rcases how.2 with ⟨e, h0⟩ | ⟨g, cap, cur, e, q1, q2, q3, q4, q5, q6⟩
  · simp only [Value.slice.injEq] at e
    obtain ⟨-, rfl, rfl⟩ := e
    have h9 : ds = [] := List.length_eq_zero_iff.1 (by omega)
    exact ⟨h0.symm, .inl (by rw [h9]; rfl), hl2, by omega, by unfold maxLen; omega⟩
  · simp only [Value.slice.injEq] at e
    obtain ⟨rfl, rfl, rfl⟩ := e
    refine ⟨rfl, .inr ⟨g, 0, rfl, (Array.getElem?_eq_some_iff.1 q2).1, fun ⟨cs', t', m', h2, h3⟩ => ?_, fun i s hs => ?_⟩, hl2, q3, q4⟩
    · rw [q2] at h2
      simp at h2
      obtain ⟨-, rfl, -⟩ := h2
      rcases h3 with (e | e | e | e | e) | e <;> exact absurd e (by decide)
    · have hs2 : (ds.map Df.st)[i]? = some s := hs
      rw [List.getElem?_map] at hs2
      obtain ⟨d, h7, rfl⟩ := Option.map_eq_some_iff.1 hs2
      have hi : i < a' := by rw [← hl]; exact (List.getElem?_eq_some_iff.1 h7).1
      have hx := h.2 i d hi h7
      rw [Nat.zero_add]
      exact ⟨(how.cellAt _ (by omega)).trans (hx 0 _ rfl), (how.cellAt _ (by omega)).trans (hx 1 _ rfl), (how.cellAt _ (by omega)).trans (hx 2 _ rfl), (how.cellAt _ (by omega)).trans (hx 3 _ rfl), ⟨none, 0, (how.cellAt _ (by omega)).trans (hx 4 _ rfl), Nat.le_refl _, by unfold maxLen; omega, .inl rfl⟩, (how.cellAt _ (by omega)).trans (hx 5 _ rfl)⟩
/-- what the reference's New gives -/
def RNQ (ds : List Df) (w : World) (e : Ending) (w' : World) : Prop :=
  ((256 < ds.length ∧ e = .returned (.tuple #[.agg #[.int .i64 0, .slice none 0 0], .int .i64 6])) ∨
   (ds.length ≤ 256 ∧ (∃ i, badD ds i) ∧ e = .returned (.tuple #[.agg #[.int .i64 0, .slice none 0 0], .int .i64 1])) ∨
   (ds.length ≤ 256 ∧ (∀ i, ¬ badD ds i) ∧ ∃ a n c, e = .returned (.tuple #[.agg #[.int .i64 0, .slice a n c], .int .i64 0]) ∧ RV w' ⟨0, ds.map Df.st⟩ a n c)) ∧ Below w.heap.size w w'
/-- behind the append -/
theorem newR {w w8 : World} {B b2 b4 k : Nat} {vS v8 : Value} {xs ys : List Value} (h4 : Blk w b4 45 [.int .i64 0, vS]) (h2 : Blk w b2 45 [.int .i64 0, .slice none 0 0]) (hne : b4 ≠ b2) (hO : w.ownsRow B 78 6 vS k xs) (how : w8.ownsRow B 78 6 v8 (k + 1) (xs ++ ys)) (hg : (w.alloc (.cells ys.toArray 78)).grownBy w8 vS.ownBlock) (hBb : B ≤ b4) (hBw : B ≤ w.heap.size) :
    w8.cell? ⟨b4, 1, none⟩ = some vS ∧ w8.frozen? ⟨b4, 1, none⟩ = false ∧ b4 < w8.heap.size ∧ Hid (Blk (w8.setCell ⟨b4, 1, none⟩ v8) b4 45 [.int .i64 0, v8]) ∧ Hid (Blk (w8.setCell ⟨b4, 1, none⟩ v8) b2 45 [.int .i64 0, .slice none 0 0]) ∧ Hid ((w8.setCell ⟨b4, 1, none⟩ v8).ownsRow B 78 6 v8 (k + 1) (xs ++ ys)) ∧ Hid (Below B w (w8.setCell ⟨b4, 1, none⟩ v8)) := by
  have hb := al (Below.refl w.heap.size w) (.cells ys.toArray 78)
  have k4 := rows_keep hO h4 (by decide) hb hg
  have k2 := rows_keep hO h2 (by decide) hb hg
  exact ⟨k4.at 1 rfl, k4.free 1, k4.lt, Lib.hid (Blk.cast (k4.setCell 1 v8) rfl), Lib.hid (k2.setOther (p := ⟨b4, 1, none⟩) hne v8), Lib.hid (own_set how (own_ne how k4 (by decide)) v8), Lib.hid (((hb.mono hBw).grown hg (Nat.le_trans hBw hb.size) (fun k e => (hO.lt k e).1)).setCell (p := ⟨b4, 1, none⟩) hBb _)⟩
set_option maxRecDepth 20000 in
set_option maxHeartbeats 4000000 in
theorem rnew_any {w : World} {a : Option Addr} {n cap : Nat} {ds : List Df} (hD : DAt w a ds) (hn : ds.length = n) (hc : n ≤ cap) (hm : cap ≤ maxLen) : Calls Try.prog 16 #[.slice a n cap] w (RNQ ds w) := by
  have HD := Lib.hid hD
  have HN := Lib.hid hn
  clear hD hn
  go_enter Try.func16, Try.ntmps16
  go_upto_region 1 with fail
  obtain ⟨b2, hb2⟩ : ∃ x, x = w.heap.size := ⟨_, rfl⟩
  obtain ⟨w1, hw1⟩ : ∃ x, x = w.alloc (.cells #[.int .i64 0, .slice none 0 0] 45) := ⟨_, rfl⟩
  have HB1 : Hid (Below w.heap.size w w1) := Lib.hid (by rw [hw1]; exact al (Below.refl _ _) _)
  have k2 : Blk w1 b2 45 [.int .i64 0, .slice none 0 0] := by rw [hw1, hb2]; exact Blk.new w 45 _
  have HBE := Lib.hid hb2
  rw [← hw1, ← hb2]
  clear hw1 hb2
  by_cases hn : 256 < n
  · have e1 : (256 : Int) < (n : Int) := by omega
    have t0 := k2.at 0 rfl
    have t1 := k2.at 1 rfl
    have tf0 := k2.free 0
    have tf1 := k2.free 1
    have tl := k2.lt
    have KK := Lib.hid k2
    clear k2
    go_wp2_with fail
    obtain ⟨wb, hwb⟩ : ∃ x, x = (w1.setCell ⟨b2, 0, none⟩ (.int .i64 0)).setCell ⟨b2, 1, none⟩ (.slice none 0 0) := ⟨_, rfl⟩
    have hBb : Below w.heap.size w wb := by
      rw [hwb]
      exact (HB1.out.setCell (p := ⟨b2, 0, none⟩) (by show w.heap.size ≤ b2; rw [HBE.out]; exact Nat.le_refl _) _).setCell (p := ⟨b2, 1, none⟩) (by show w.heap.size ≤ b2; rw [HBE.out]; exact Nat.le_refl _) _
    have h6b : Blk wb b2 45 [.int .i64 0, .slice none 0 0] := by
      rw [hwb]
      exact Blk.cast ((KK.out.setCell 0 (.int .i64 0)).setCell 1 (.slice none 0 0)) rfl
    have r0 := h6b.at 0 rfl
    have r1 := h6b.at 1 rfl
    rw [← hwb]
    exact bodyPost_ret (v := .tuple #[.agg #[.int .i64 0, .slice none 0 0], .int .i64 6]) (by simp [results, Try.f16, go_sem, r0, r1]) rfl ⟨(.inl ⟨by rw [HN.out]; exact hn, rfl⟩), hBb⟩
  · have e1 : ¬ (256 : Int) < (n : Int) := by omega
    have J2' := Lib.hid k2
    clear k2
    go_upto_region 4 with fail
    obtain ⟨b4, hb4⟩ : ∃ x, x = w1.heap.size := ⟨_, rfl⟩
    obtain ⟨w0, hw0⟩ : ∃ x, x = w1.alloc (.cells #[.int .i64 0, .slice none 0 0] 45) := ⟨_, rfl⟩
    have hB0 : Below w1.heap.size w1 w0 := by rw [hw0]; exact al (Below.refl _ _) _
    have HB0 : Hid (Below w.heap.size w w0) := Lib.hid (HB1.out.trans (hB0.mono HB1.out.size))
    have K2 := Lib.hid (J2'.out.below hB0 (Nat.le_refl _))
    have K4 : Hid (Blk w0 b4 45 [.int .i64 0, .slice none 0 0]) := Lib.hid (by rw [hw0, hb4]; exact Blk.new w1 45 _)
    have HNE : Hid (b4 ≠ b2 ∧ w.heap.size ≤ b4) := Lib.hid ⟨by have := J2'.out.lt; omega, by rw [hb4]; exact HB1.out.size⟩
    have HD1 := Lib.hid (HD.out.low HB0.out)
    obtain ⟨ji, hj1, hz0, hz1, hz2⟩ := info_parts info78
    have HJ1 := Lib.hid hj1
    rw [← hw0, ← hb4]
    clear hw0 hb4 hB0 hj1
    go_wp2_with fail
    go_loopg [5] (n + 1) (fun gk v5 wr => ∃ (k : Nat) (vS : Value) (xs : List Value), k ≤ n ∧ n - k < gk ∧ v5 = .int .i64 (k : Int) ∧ Hid (wr.ownsRow w.heap.size 78 6 vS k xs) ∧ Hid (NK ds k xs) ∧ Hid (Blk wr b4 45 [.int .i64 0, vS]) ∧ Hid (Blk wr b2 45 [.int .i64 0, .slice none 0 0]) ∧ Hid (Below w.heap.size w wr) ∧ Hid (∀ i, i < k → ¬ badD ds i))
    case atStart => exact ⟨0, _, _, Nat.zero_le _, by omega, rfl, Lib.hid (World.ownsRow_nil _ _ _ _), Lib.hid (NK.nil _), K4, K2, HB0, Lib.hid (fun i hi => absurd hi (Nat.not_lt_zero _))⟩
    case round =>
      obtain ⟨k, vS, xs, hk, hgk, rfl, HO, HX, J4, J2, HB, HG⟩ := hrel
      by_cases hlt : k < n
      · obtain ⟨d, hd⟩ : ∃ d, ds[k]? = some d := ⟨_, List.getElem?_eq_getElem (by rw [HN.out]; exact hlt)⟩
        obtain ⟨bD, oD, rfl, hbD, hcell⟩ : ∃ b off, a = some ⟨b, off, none⟩ ∧ b < w.heap.size ∧ ∀ i (h : i < ds.length), ∀ j, j < 4 → w.cell? ⟨b, off + (i * 4 + j), none⟩ = ds[i].cells[j]? := by
          rcases HD.out with h | h
          · rw [h] at hd; cases hd
          · exact h
        have hkl : k < ds.length := (List.getElem?_eq_some_iff.1 hd).1
        have hde : ds[k] = d := (List.getElem?_eq_some_iff.1 hd).2
        have hg : ∀ j, j < 4 → wr.cell? ⟨bD, oD + (k * 4 + j), none⟩ = d.cells[j]? := fun j hj => (HB.out.cell (p := ⟨bD, _, none⟩) hbD).trans (by rw [hcell k hkl j hj, hde])
        obtain ⟨di, hdi⟩ : ∃ x, x = d.id := ⟨_, rfl⟩
        obtain ⟨dr, hdr⟩ : ∃ x, x = d.room := ⟨_, rfl⟩
        obtain ⟨dp, hdp⟩ : ∃ x, x = d.prio := ⟨_, rfl⟩
        obtain ⟨dc, hdc⟩ : ∃ x, x = d.circ := ⟨_, rfl⟩
        have c0 : wr.cell? ⟨bD, oD + k * 4, none⟩ = some (.int .i64 di) := (hg 0 (by omega)).trans (by rw [hdi]; rfl)
        have c1 : wr.cell? ⟨bD, oD + k * 4 + 1, none⟩ = some (.int .i64 dr) := by rw [hdr, Nat.add_assoc]; exact hg 1 (by omega)
        have c2 : wr.cell? ⟨bD, oD + k * 4 + 2, none⟩ = some (.int .i64 dp) := by rw [hdp, Nat.add_assoc]; exact hg 2 (by omega)
        have c3 : wr.cell? ⟨bD, oD + k * 4 + 3, none⟩ = some (.bool dc) := by rw [hdc, Nat.add_assoc]; exact hg 3 (by omega)
        have HCL := Lib.hid hcell
        have HD0 := Lib.hid hd
        have HDI := Lib.hid hdi
        have HDR := Lib.hid hdr
        have HDP := Lib.hid hdp
        have HDC := Lib.hid hdc
        have e2 : (k : Int) < (n : Int) := by omega
        clear hcell hkl hde hg hd hdi hdr hdp hdc
        go_upto_region 8 with fail
        obtain ⟨db, hdb⟩ : ∃ x, x = wr.heap.size := ⟨_, rfl⟩
        obtain ⟨w2, hw2⟩ : ∃ x, x = wr.alloc (.cells #[.int .i64 di, .int .i64 dr, .int .i64 dp, .bool dc] 29) := ⟨_, rfl⟩
        have hB2 : Below wr.heap.size wr w2 := by rw [hw2]; exact al (Below.refl _ _) _
        have hK2 : Blk w2 db 29 [.int .i64 di, .int .i64 dr, .int .i64 dp, .bool dc] := by rw [hw2, hdb]; exact Blk.new wr 29 _
        have HB2 : Hid (Below w.heap.size w w2) := Lib.hid (HB.out.trans (hB2.mono HB.out.size))
        have HO2 := Lib.hid (own_below HO.out hB2 (Nat.le_refl _))
        have J42 := Lib.hid (J4.out.below hB2 (Nat.le_refl _))
        have J22 := Lib.hid (J2.out.below hB2 (Nat.le_refl _))
        have c0 := hK2.at 0 rfl
        have c1 := hK2.at 1 rfl
        have c2 := hK2.at 2 rfl
        have c3 := hK2.at 3 rfl
        have cl := hK2.lt
        have HK2 := Lib.hid hK2
        have HNN : Hid (n ≤ 256) := Lib.hid (by omega)
        rw [← hw2, ← hdb]
        clear hw2 hdb hB2 hK2
        by_cases q1 : di < 0
        · have p1 : decide (di < 0) = true := decide_eq_true q1
          go_upto_region 9 with (go_quiet (fail))
          obtain ⟨wq, hwq⟩ : ∃ x, x = w2.drewN nq := ⟨_, rfl⟩
          have hq : Quiet w2 wq := ⟨nq, hwq⟩
          rw [← hwq]
          have HBq : Hid (Below w.heap.size w wq) := Lib.hid (HB2.out.trans hq.below)
          have k2 := J22.out.quiet hq
          clear hwq c0 c1 c2 c3 cl hq
          have t0 := k2.at 0 rfl
          have t1 := k2.at 1 rfl
          have tf0 := k2.free 0
          have tf1 := k2.free 1
          have tl := k2.lt
          have KK := Lib.hid k2
          clear k2
          go_wp2_with fail
          obtain ⟨wb, hwb⟩ : ∃ x, x = (wq.setCell ⟨b2, 0, none⟩ (.int .i64 0)).setCell ⟨b2, 1, none⟩ (.slice none 0 0) := ⟨_, rfl⟩
          have hBb : Below w.heap.size w wb := by
            rw [hwb]
            exact (HBq.out.setCell (p := ⟨b2, 0, none⟩) (by show w.heap.size ≤ b2; rw [HBE.out]; exact Nat.le_refl _) _).setCell (p := ⟨b2, 1, none⟩) (by show w.heap.size ≤ b2; rw [HBE.out]; exact Nat.le_refl _) _
          have h6b : Blk wb b2 45 [.int .i64 0, .slice none 0 0] := by
            rw [hwb]
            exact Blk.cast ((KK.out.setCell 0 (.int .i64 0)).setCell 1 (.slice none 0 0)) rfl
          have r0 := h6b.at 0 rfl
          have r1 := h6b.at 1 rfl
          rw [← hwb]
          exact bodyPost_ret (v := .tuple #[.agg #[.int .i64 0, .slice none 0 0], .int .i64 1]) (by simp [results, Try.f16, go_sem, r0, r1]) rfl ⟨(.inr (.inl ⟨by rw [HN.out]; exact HNN.out, ⟨_, d, HD0.out, (.inl (by rw [← HDI.out]; exact q1))⟩, rfl⟩)), hBb⟩
        have p1 : decide (di < 0) = false := decide_eq_false q1
        by_cases q2 : 65535 < di
        · have p2 : decide (65535 < di) = true := decide_eq_true q2
          go_upto_region 9 with (go_quiet (fail))
          obtain ⟨wq, hwq⟩ : ∃ x, x = w2.drewN nq := ⟨_, rfl⟩
          have hq : Quiet w2 wq := ⟨nq, hwq⟩
          rw [← hwq]
          have HBq : Hid (Below w.heap.size w wq) := Lib.hid (HB2.out.trans hq.below)
          have k2 := J22.out.quiet hq
          clear hwq c0 c1 c2 c3 cl hq
          have t0 := k2.at 0 rfl
          have t1 := k2.at 1 rfl
          have tf0 := k2.free 0
          have tf1 := k2.free 1
          have tl := k2.lt
          have KK := Lib.hid k2
          clear k2
          go_wp2_with fail
          obtain ⟨wb, hwb⟩ : ∃ x, x = (wq.setCell ⟨b2, 0, none⟩ (.int .i64 0)).setCell ⟨b2, 1, none⟩ (.slice none 0 0) := ⟨_, rfl⟩
          have hBb : Below w.heap.size w wb := by
            rw [hwb]
            exact (HBq.out.setCell (p := ⟨b2, 0, none⟩) (by show w.heap.size ≤ b2; rw [HBE.out]; exact Nat.le_refl _) _).setCell (p := ⟨b2, 1, none⟩) (by show w.heap.size ≤ b2; rw [HBE.out]; exact Nat.le_refl _) _
          have h6b : Blk wb b2 45 [.int .i64 0, .slice none 0 0] := by
            rw [hwb]
            exact Blk.cast ((KK.out.setCell 0 (.int .i64 0)).setCell 1 (.slice none 0 0)) rfl
          have r0 := h6b.at 0 rfl
          have r1 := h6b.at 1 rfl
          rw [← hwb]
          exact bodyPost_ret (v := .tuple #[.agg #[.int .i64 0, .slice none 0 0], .int .i64 1]) (by simp [results, Try.f16, go_sem, r0, r1]) rfl ⟨(.inr (.inl ⟨by rw [HN.out]; exact HNN.out, ⟨_, d, HD0.out, (.inr (.inl (by rw [← HDI.out]; exact q2)))⟩, rfl⟩)), hBb⟩
        have p2 : decide (65535 < di) = false := decide_eq_false q2
        cases k with
        | zero =>
          have HPV : Hid (¬ ∃ p, 0 < 0 ∧ ds[0 - 1]? = some p ∧ d.id ≤ p.id) := Lib.hid (fun ⟨p, h9, _⟩ => absurd h9 (by decide))
          by_cases q4 : dr < 0
          · have p4 : decide (dr < 0) = true := decide_eq_true q4
            go_upto_region 9 with (go_quiet (fail))
            obtain ⟨wq, hwq⟩ : ∃ x, x = w2.drewN nq := ⟨_, rfl⟩
            have hq : Quiet w2 wq := ⟨nq, hwq⟩
            rw [← hwq]
            have HBq : Hid (Below w.heap.size w wq) := Lib.hid (HB2.out.trans hq.below)
            have k2 := J22.out.quiet hq
            clear hwq c0 c1 c2 c3 cl hq
            have t0 := k2.at 0 rfl
            have t1 := k2.at 1 rfl
            have tf0 := k2.free 0
            have tf1 := k2.free 1
            have tl := k2.lt
            have KK := Lib.hid k2
            clear k2
            go_wp2_with fail
            obtain ⟨wb, hwb⟩ : ∃ x, x = (wq.setCell ⟨b2, 0, none⟩ (.int .i64 0)).setCell ⟨b2, 1, none⟩ (.slice none 0 0) := ⟨_, rfl⟩
            have hBb : Below w.heap.size w wb := by
              rw [hwb]
              exact (HBq.out.setCell (p := ⟨b2, 0, none⟩) (by show w.heap.size ≤ b2; rw [HBE.out]; exact Nat.le_refl _) _).setCell (p := ⟨b2, 1, none⟩) (by show w.heap.size ≤ b2; rw [HBE.out]; exact Nat.le_refl _) _
            have h6b : Blk wb b2 45 [.int .i64 0, .slice none 0 0] := by
              rw [hwb]
              exact Blk.cast ((KK.out.setCell 0 (.int .i64 0)).setCell 1 (.slice none 0 0)) rfl
            have r0 := h6b.at 0 rfl
            have r1 := h6b.at 1 rfl
            rw [← hwb]
            exact bodyPost_ret (v := .tuple #[.agg #[.int .i64 0, .slice none 0 0], .int .i64 1]) (by simp [results, Try.f16, go_sem, r0, r1]) rfl ⟨(.inr (.inl ⟨by rw [HN.out]; exact HNN.out, ⟨_, d, HD0.out, (.inr (.inr (.inr (.inl (by rw [← HDR.out]; exact q4)))))⟩, rfl⟩)), hBb⟩
          have p4 : decide (dr < 0) = false := decide_eq_false q4
          by_cases q5 : 2147483648 < dr
          · have p5 : decide (2147483648 < dr) = true := decide_eq_true q5
            go_upto_region 9 with (go_quiet (fail))
            obtain ⟨wq, hwq⟩ : ∃ x, x = w2.drewN nq := ⟨_, rfl⟩
            have hq : Quiet w2 wq := ⟨nq, hwq⟩
            rw [← hwq]
            have HBq : Hid (Below w.heap.size w wq) := Lib.hid (HB2.out.trans hq.below)
            have k2 := J22.out.quiet hq
            clear hwq c0 c1 c2 c3 cl hq
            have t0 := k2.at 0 rfl
            have t1 := k2.at 1 rfl
            have tf0 := k2.free 0
            have tf1 := k2.free 1
            have tl := k2.lt
            have KK := Lib.hid k2
            clear k2
            go_wp2_with fail
            obtain ⟨wb, hwb⟩ : ∃ x, x = (wq.setCell ⟨b2, 0, none⟩ (.int .i64 0)).setCell ⟨b2, 1, none⟩ (.slice none 0 0) := ⟨_, rfl⟩
            have hBb : Below w.heap.size w wb := by
              rw [hwb]
              exact (HBq.out.setCell (p := ⟨b2, 0, none⟩) (by show w.heap.size ≤ b2; rw [HBE.out]; exact Nat.le_refl _) _).setCell (p := ⟨b2, 1, none⟩) (by show w.heap.size ≤ b2; rw [HBE.out]; exact Nat.le_refl _) _
            have h6b : Blk wb b2 45 [.int .i64 0, .slice none 0 0] := by
              rw [hwb]
              exact Blk.cast ((KK.out.setCell 0 (.int .i64 0)).setCell 1 (.slice none 0 0)) rfl
            have r0 := h6b.at 0 rfl
            have r1 := h6b.at 1 rfl
            rw [← hwb]
            exact bodyPost_ret (v := .tuple #[.agg #[.int .i64 0, .slice none 0 0], .int .i64 1]) (by simp [results, Try.f16, go_sem, r0, r1]) rfl ⟨(.inr (.inl ⟨by rw [HN.out]; exact HNN.out, ⟨_, d, HD0.out, (.inr (.inr (.inr (.inr (.inl (by rw [← HDR.out]; exact q5))))))⟩, rfl⟩)), hBb⟩
          have p5 : decide (2147483648 < dr) = false := decide_eq_false q5
          by_cases q6 : dp < 0
          · have p6 : decide (dp < 0) = true := decide_eq_true q6
            go_upto_region 9 with (go_quiet (fail))
            obtain ⟨wq, hwq⟩ : ∃ x, x = w2.drewN nq := ⟨_, rfl⟩
            have hq : Quiet w2 wq := ⟨nq, hwq⟩
            rw [← hwq]
            have HBq : Hid (Below w.heap.size w wq) := Lib.hid (HB2.out.trans hq.below)
            have k2 := J22.out.quiet hq
            clear hwq c0 c1 c2 c3 cl hq
            have t0 := k2.at 0 rfl
            have t1 := k2.at 1 rfl
            have tf0 := k2.free 0
            have tf1 := k2.free 1
            have tl := k2.lt
            have KK := Lib.hid k2
            clear k2
            go_wp2_with fail
            obtain ⟨wb, hwb⟩ : ∃ x, x = (wq.setCell ⟨b2, 0, none⟩ (.int .i64 0)).setCell ⟨b2, 1, none⟩ (.slice none 0 0) := ⟨_, rfl⟩
            have hBb : Below w.heap.size w wb := by
              rw [hwb]
              exact (HBq.out.setCell (p := ⟨b2, 0, none⟩) (by show w.heap.size ≤ b2; rw [HBE.out]; exact Nat.le_refl _) _).setCell (p := ⟨b2, 1, none⟩) (by show w.heap.size ≤ b2; rw [HBE.out]; exact Nat.le_refl _) _
            have h6b : Blk wb b2 45 [.int .i64 0, .slice none 0 0] := by
              rw [hwb]
              exact Blk.cast ((KK.out.setCell 0 (.int .i64 0)).setCell 1 (.slice none 0 0)) rfl
            have r0 := h6b.at 0 rfl
            have r1 := h6b.at 1 rfl
            rw [← hwb]
            exact bodyPost_ret (v := .tuple #[.agg #[.int .i64 0, .slice none 0 0], .int .i64 1]) (by simp [results, Try.f16, go_sem, r0, r1]) rfl ⟨(.inr (.inl ⟨by rw [HN.out]; exact HNN.out, ⟨_, d, HD0.out, (.inr (.inr (.inr (.inr (.inr (.inl (by rw [← HDP.out]; exact q6)))))))⟩, rfl⟩)), hBb⟩
          have p6 : decide (dp < 0) = false := decide_eq_false q6
          by_cases q7 : 15 < dp
          · have p7 : decide (15 < dp) = true := decide_eq_true q7
            go_upto_region 9 with (go_quiet (fail))
            obtain ⟨wq, hwq⟩ : ∃ x, x = w2.drewN nq := ⟨_, rfl⟩
            have hq : Quiet w2 wq := ⟨nq, hwq⟩
            rw [← hwq]
            have HBq : Hid (Below w.heap.size w wq) := Lib.hid (HB2.out.trans hq.below)
            have k2 := J22.out.quiet hq
            clear hwq c0 c1 c2 c3 cl hq
            have t0 := k2.at 0 rfl
            have t1 := k2.at 1 rfl
            have tf0 := k2.free 0
            have tf1 := k2.free 1
            have tl := k2.lt
            have KK := Lib.hid k2
            clear k2
            go_wp2_with fail
            obtain ⟨wb, hwb⟩ : ∃ x, x = (wq.setCell ⟨b2, 0, none⟩ (.int .i64 0)).setCell ⟨b2, 1, none⟩ (.slice none 0 0) := ⟨_, rfl⟩
            have hBb : Below w.heap.size w wb := by
              rw [hwb]
              exact (HBq.out.setCell (p := ⟨b2, 0, none⟩) (by show w.heap.size ≤ b2; rw [HBE.out]; exact Nat.le_refl _) _).setCell (p := ⟨b2, 1, none⟩) (by show w.heap.size ≤ b2; rw [HBE.out]; exact Nat.le_refl _) _
            have h6b : Blk wb b2 45 [.int .i64 0, .slice none 0 0] := by
              rw [hwb]
              exact Blk.cast ((KK.out.setCell 0 (.int .i64 0)).setCell 1 (.slice none 0 0)) rfl
            have r0 := h6b.at 0 rfl
            have r1 := h6b.at 1 rfl
            rw [← hwb]
            exact bodyPost_ret (v := .tuple #[.agg #[.int .i64 0, .slice none 0 0], .int .i64 1]) (by simp [results, Try.f16, go_sem, r0, r1]) rfl ⟨(.inr (.inl ⟨by rw [HN.out]; exact HNN.out, ⟨_, d, HD0.out, (.inr (.inr (.inr (.inr (.inr (.inr (by rw [← HDP.out]; exact q7)))))))⟩, rfl⟩)), hBb⟩
          have p7 : decide (15 < dp) = false := decide_eq_false q7
          go_upto_region 10 with (go_quiet (fail))
          obtain ⟨wq, hwq⟩ : ∃ x, x = w2.drewN nq := ⟨_, rfl⟩
          have hq : Quiet w2 wq := ⟨nq, hwq⟩
          rw [← hwq]
          clear hwq
          obtain ⟨aS, mS, cS, rfl⟩ := own_slice HO2.out
          have HOq := Lib.hid (own_below HO2.out hq.below (Nat.le_refl _))
          have J4q := Lib.hid (J42.out.quiet hq)
          have J2q := Lib.hid (J22.out.quiet hq)
          have HBq : Hid (Below w.heap.size w wq) := Lib.hid (HB2.out.trans hq.below)
          have c4 := J4q.out.at 1 rfl
          have f4 := J4q.out.free 1
          have cl4 := J4q.out.lt
          have d0 := (HK2.out.quiet hq).at 0 rfl
          have d1 := (HK2.out.quiet hq).at 1 rfl
          have d2 := (HK2.out.quiet hq).at 2 rfl
          have d3 := (HK2.out.quiet hq).at 3 rfl
          have dl := (HK2.out.quiet hq).lt
          have HX8 : Hid (NK ds (0 + 1) (xs ++ [.int .i64 di, .int .i64 dr, .int .i64 dp, .bool dc, .slice none 0 0, .int .i64 0])) := Lib.hid (by
            have h9 := HX.out.snoc HD0.out
            unfold Df.six at h9
            rw [← HDI.out, ← HDR.out, ← HDP.out, ← HDC.out] at h9
            exact h9)
          have HKL : Hid (0 < n) := Lib.hid (by omega)
          clear c0 c1 c2 c3 cl hq
          go_wp2_with (at_builtin; refine wpList_append_own_at _ rfl (.tmp 66) (.tmp 69) 43 rfl w.heap.size 78 ji _ 6 64 Try.underlying43 HJ1.out hz0 hz1 hz2 rfl (by decide) _ (0) xs rfl (own_below HOq.out (al (Below.refl _ _) _) (Nat.le_refl _)) ⟨wq.heap.size, 0, none⟩ 1 1 [.int .i64 di, .int .i64 dr, .int .i64 dp, .bool dc, .slice none 0 0, .int .i64 0] rfl rfl (row_new rfl _ 78) (by intro v hv; simp at hv; rcases hv with rfl | rfl | rfl | rfl | rfl | rfl <;> rfl) (by have := HKL.out; have := HNN.out; unfold maxLen; omega) (by have := HKL.out; have := HNN.out; omega) (Nat.le_trans HBq.out.size (al (Below.refl wq.heap.size wq) _).size) ?_; intro v8 w8 hown8 hgrow8 hblk8 hob8; obtain ⟨a8, n8, c8, rfl⟩ := own_slice hown8; obtain ⟨c4, f4, cl4, J49, J29, HO9, HB9⟩ := newR J4q.out J2q.out HNE.out.1 HOq.out hown8 hgrow8 HNE.out.2 HBq.out.size; clear hown8 hgrow8 hblk8 hob8 d0 d1 d2 d3 dl)
          all_goals
            go_roundg (gk - 1)
            case rel => exact ⟨0 + 1, _, _, by omega, by omega, by go_num, HO9, HX8, J49, J29, Lib.hid (HBq.out.trans HB9.out), Lib.hid (fun i hi hb => by
              by_cases hik : i < 0
              · exact HG.out i hik hb
              · obtain rfl : i = 0 := by omega
                obtain ⟨d', h1, h2⟩ := hb
                rw [HD0.out] at h1
                cases h1
                rw [HDI.out] at q1 q2
                rw [HDR.out] at q4 q5
                rw [HDP.out] at q6 q7
                rcases h2 with h2 | h2 | h2 | h2 | h2 | h2 | h2
                · omega
                · omega
                · exact HPV.out h2
                · omega
                · omega
                · omega
                · omega)⟩
            case measure => omega
        | succ kp =>
          obtain ⟨dq, hdq⟩ : ∃ d, ds[kp]? = some d := ⟨_, List.getElem?_eq_getElem (by rw [HN.out]; omega)⟩
          have hkl : kp < ds.length := (List.getElem?_eq_some_iff.1 hdq).1
          have hde : ds[kp] = dq := (List.getElem?_eq_some_iff.1 hdq).2
          obtain ⟨dj, hdj⟩ : ∃ x, x = dq.id := ⟨_, rfl⟩
          have cp : w2.cell? ⟨bD, oD + kp * 4, none⟩ = some (.int .i64 dj) := (HB2.out.cell (p := ⟨bD, _, none⟩) hbD).trans ((HCL.out kp hkl 0 (by omega)).trans (by rw [hde, hdj]; rfl))
          have HDQ := Lib.hid hdq
          have HDJ := Lib.hid hdj
          have j1 : ((kp + 1 : Nat) : Int) - 1 = (kp : Int) := by omega
          have j2 : ((kp : Int) + 1) - 1 = (kp : Int) := by omega
          have j3 : IntKind.i64.wrap (kp : Int) = (kp : Int) := IntWalk.i64_in _ (by have := HNN.out; omega)
          have p0 : decide ((0 : Int) < ((kp + 1 : Nat) : Int)) = true := decide_eq_true (by omega)
          have p00 : (0 : Int) < (kp : Int) + 1 := by omega
          have l1 : (kp : Int) < (n : Int) := by omega
          have l2 : (0 : Int) ≤ (kp : Int) := by omega
          clear hdq hkl hde hdj
          by_cases q3 : di ≤ dj
          · have p3 : decide (di ≤ dj) = true := decide_eq_true q3
            go_upto_region 9 with (go_quiet (fail))
            obtain ⟨wq, hwq⟩ : ∃ x, x = w2.drewN nq := ⟨_, rfl⟩
            have hq : Quiet w2 wq := ⟨nq, hwq⟩
            rw [← hwq]
            have HBq : Hid (Below w.heap.size w wq) := Lib.hid (HB2.out.trans hq.below)
            have k2 := J22.out.quiet hq
            clear hwq c0 c1 c2 c3 cl hq
            have t0 := k2.at 0 rfl
            have t1 := k2.at 1 rfl
            have tf0 := k2.free 0
            have tf1 := k2.free 1
            have tl := k2.lt
            have KK := Lib.hid k2
            clear k2
            go_wp2_with fail
            obtain ⟨wb, hwb⟩ : ∃ x, x = (wq.setCell ⟨b2, 0, none⟩ (.int .i64 0)).setCell ⟨b2, 1, none⟩ (.slice none 0 0) := ⟨_, rfl⟩
            have hBb : Below w.heap.size w wb := by
              rw [hwb]
              exact (HBq.out.setCell (p := ⟨b2, 0, none⟩) (by show w.heap.size ≤ b2; rw [HBE.out]; exact Nat.le_refl _) _).setCell (p := ⟨b2, 1, none⟩) (by show w.heap.size ≤ b2; rw [HBE.out]; exact Nat.le_refl _) _
            have h6b : Blk wb b2 45 [.int .i64 0, .slice none 0 0] := by
              rw [hwb]
              exact Blk.cast ((KK.out.setCell 0 (.int .i64 0)).setCell 1 (.slice none 0 0)) rfl
            have r0 := h6b.at 0 rfl
            have r1 := h6b.at 1 rfl
            rw [← hwb]
            exact bodyPost_ret (v := .tuple #[.agg #[.int .i64 0, .slice none 0 0], .int .i64 1]) (by simp [results, Try.f16, go_sem, r0, r1]) rfl ⟨(.inr (.inl ⟨by rw [HN.out]; exact HNN.out, ⟨_, d, HD0.out, (.inr (.inr (.inl ⟨dq, by omega, by simpa using HDQ.out, by rw [← HDI.out, ← HDJ.out]; exact q3⟩)))⟩, rfl⟩)), hBb⟩
          have p3 : decide (di ≤ dj) = false := decide_eq_false q3
          have HPV : Hid (¬ ∃ p, 0 < kp + 1 ∧ ds[kp + 1 - 1]? = some p ∧ d.id ≤ p.id) := Lib.hid (fun ⟨p, _, h9, h8⟩ => by
            rw [Nat.add_sub_cancel, HDQ.out] at h9
            cases h9
            rw [← HDI.out, ← HDJ.out] at h8
            exact q3 h8)
          by_cases q4 : dr < 0
          · have p4 : decide (dr < 0) = true := decide_eq_true q4
            go_upto_region 9 with (go_quiet (fail))
            obtain ⟨wq, hwq⟩ : ∃ x, x = w2.drewN nq := ⟨_, rfl⟩
            have hq : Quiet w2 wq := ⟨nq, hwq⟩
            rw [← hwq]
            have HBq : Hid (Below w.heap.size w wq) := Lib.hid (HB2.out.trans hq.below)
            have k2 := J22.out.quiet hq
            clear hwq c0 c1 c2 c3 cl hq
            have t0 := k2.at 0 rfl
            have t1 := k2.at 1 rfl
            have tf0 := k2.free 0
            have tf1 := k2.free 1
            have tl := k2.lt
            have KK := Lib.hid k2
            clear k2
            go_wp2_with fail
            obtain ⟨wb, hwb⟩ : ∃ x, x = (wq.setCell ⟨b2, 0, none⟩ (.int .i64 0)).setCell ⟨b2, 1, none⟩ (.slice none 0 0) := ⟨_, rfl⟩
            have hBb : Below w.heap.size w wb := by
              rw [hwb]
              exact (HBq.out.setCell (p := ⟨b2, 0, none⟩) (by show w.heap.size ≤ b2; rw [HBE.out]; exact Nat.le_refl _) _).setCell (p := ⟨b2, 1, none⟩) (by show w.heap.size ≤ b2; rw [HBE.out]; exact Nat.le_refl _) _
            have h6b : Blk wb b2 45 [.int .i64 0, .slice none 0 0] := by
              rw [hwb]
              exact Blk.cast ((KK.out.setCell 0 (.int .i64 0)).setCell 1 (.slice none 0 0)) rfl
            have r0 := h6b.at 0 rfl
            have r1 := h6b.at 1 rfl
            rw [← hwb]
            exact bodyPost_ret (v := .tuple #[.agg #[.int .i64 0, .slice none 0 0], .int .i64 1]) (by simp [results, Try.f16, go_sem, r0, r1]) rfl ⟨(.inr (.inl ⟨by rw [HN.out]; exact HNN.out, ⟨_, d, HD0.out, (.inr (.inr (.inr (.inl (by rw [← HDR.out]; exact q4)))))⟩, rfl⟩)), hBb⟩
          have p4 : decide (dr < 0) = false := decide_eq_false q4
          by_cases q5 : 2147483648 < dr
          · have p5 : decide (2147483648 < dr) = true := decide_eq_true q5
            go_upto_region 9 with (go_quiet (fail))
            obtain ⟨wq, hwq⟩ : ∃ x, x = w2.drewN nq := ⟨_, rfl⟩
            have hq : Quiet w2 wq := ⟨nq, hwq⟩
            rw [← hwq]
            have HBq : Hid (Below w.heap.size w wq) := Lib.hid (HB2.out.trans hq.below)
            have k2 := J22.out.quiet hq
            clear hwq c0 c1 c2 c3 cl hq
            have t0 := k2.at 0 rfl
            have t1 := k2.at 1 rfl
            have tf0 := k2.free 0
            have tf1 := k2.free 1
            have tl := k2.lt
            have KK := Lib.hid k2
            clear k2
            go_wp2_with fail
            obtain ⟨wb, hwb⟩ : ∃ x, x = (wq.setCell ⟨b2, 0, none⟩ (.int .i64 0)).setCell ⟨b2, 1, none⟩ (.slice none 0 0) := ⟨_, rfl⟩
            have hBb : Below w.heap.size w wb := by
              rw [hwb]
              exact (HBq.out.setCell (p := ⟨b2, 0, none⟩) (by show w.heap.size ≤ b2; rw [HBE.out]; exact Nat.le_refl _) _).setCell (p := ⟨b2, 1, none⟩) (by show w.heap.size ≤ b2; rw [HBE.out]; exact Nat.le_refl _) _
            have h6b : Blk wb b2 45 [.int .i64 0, .slice none 0 0] := by
              rw [hwb]
              exact Blk.cast ((KK.out.setCell 0 (.int .i64 0)).setCell 1 (.slice none 0 0)) rfl
            have r0 := h6b.at 0 rfl
            have r1 := h6b.at 1 rfl
            rw [← hwb]
            exact bodyPost_ret (v := .tuple #[.agg #[.int .i64 0, .slice none 0 0], .int .i64 1]) (by simp [results, Try.f16, go_sem, r0, r1]) rfl ⟨(.inr (.inl ⟨by rw [HN.out]; exact HNN.out, ⟨_, d, HD0.out, (.inr (.inr (.inr (.inr (.inl (by rw [← HDR.out]; exact q5))))))⟩, rfl⟩)), hBb⟩
          have p5 : decide (2147483648 < dr) = false := decide_eq_false q5
          by_cases q6 : dp < 0
          · have p6 : decide (dp < 0) = true := decide_eq_true q6
            go_upto_region 9 with (go_quiet (fail))
            obtain ⟨wq, hwq⟩ : ∃ x, x = w2.drewN nq := ⟨_, rfl⟩
            have hq : Quiet w2 wq := ⟨nq, hwq⟩
            rw [← hwq]
            have HBq : Hid (Below w.heap.size w wq) := Lib.hid (HB2.out.trans hq.below)
            have k2 := J22.out.quiet hq
            clear hwq c0 c1 c2 c3 cl hq
            have t0 := k2.at 0 rfl
            have t1 := k2.at 1 rfl
            have tf0 := k2.free 0
            have tf1 := k2.free 1
            have tl := k2.lt
            have KK := Lib.hid k2
            clear k2
            go_wp2_with fail
            obtain ⟨wb, hwb⟩ : ∃ x, x = (wq.setCell ⟨b2, 0, none⟩ (.int .i64 0)).setCell ⟨b2, 1, none⟩ (.slice none 0 0) := ⟨_, rfl⟩
            have hBb : Below w.heap.size w wb := by
              rw [hwb]
              exact (HBq.out.setCell (p := ⟨b2, 0, none⟩) (by show w.heap.size ≤ b2; rw [HBE.out]; exact Nat.le_refl _) _).setCell (p := ⟨b2, 1, none⟩) (by show w.heap.size ≤ b2; rw [HBE.out]; exact Nat.le_refl _) _
            have h6b : Blk wb b2 45 [.int .i64 0, .slice none 0 0] := by
              rw [hwb]
              exact Blk.cast ((KK.out.setCell 0 (.int .i64 0)).setCell 1 (.slice none 0 0)) rfl
            have r0 := h6b.at 0 rfl
            have r1 := h6b.at 1 rfl
            rw [← hwb]
            exact bodyPost_ret (v := .tuple #[.agg #[.int .i64 0, .slice none 0 0], .int .i64 1]) (by simp [results, Try.f16, go_sem, r0, r1]) rfl ⟨(.inr (.inl ⟨by rw [HN.out]; exact HNN.out, ⟨_, d, HD0.out, (.inr (.inr (.inr (.inr (.inr (.inl (by rw [← HDP.out]; exact q6)))))))⟩, rfl⟩)), hBb⟩
          have p6 : decide (dp < 0) = false := decide_eq_false q6
          by_cases q7 : 15 < dp
          · have p7 : decide (15 < dp) = true := decide_eq_true q7
            go_upto_region 9 with (go_quiet (fail))
            obtain ⟨wq, hwq⟩ : ∃ x, x = w2.drewN nq := ⟨_, rfl⟩
            have hq : Quiet w2 wq := ⟨nq, hwq⟩
            rw [← hwq]
            have HBq : Hid (Below w.heap.size w wq) := Lib.hid (HB2.out.trans hq.below)
            have k2 := J22.out.quiet hq
            clear hwq c0 c1 c2 c3 cl hq
            have t0 := k2.at 0 rfl
            have t1 := k2.at 1 rfl
            have tf0 := k2.free 0
            have tf1 := k2.free 1
            have tl := k2.lt
            have KK := Lib.hid k2
            clear k2
            go_wp2_with fail
            obtain ⟨wb, hwb⟩ : ∃ x, x = (wq.setCell ⟨b2, 0, none⟩ (.int .i64 0)).setCell ⟨b2, 1, none⟩ (.slice none 0 0) := ⟨_, rfl⟩
            have hBb : Below w.heap.size w wb := by
              rw [hwb]
              exact (HBq.out.setCell (p := ⟨b2, 0, none⟩) (by show w.heap.size ≤ b2; rw [HBE.out]; exact Nat.le_refl _) _).setCell (p := ⟨b2, 1, none⟩) (by show w.heap.size ≤ b2; rw [HBE.out]; exact Nat.le_refl _) _
            have h6b : Blk wb b2 45 [.int .i64 0, .slice none 0 0] := by
              rw [hwb]
              exact Blk.cast ((KK.out.setCell 0 (.int .i64 0)).setCell 1 (.slice none 0 0)) rfl
            have r0 := h6b.at 0 rfl
            have r1 := h6b.at 1 rfl
            rw [← hwb]
            exact bodyPost_ret (v := .tuple #[.agg #[.int .i64 0, .slice none 0 0], .int .i64 1]) (by simp [results, Try.f16, go_sem, r0, r1]) rfl ⟨(.inr (.inl ⟨by rw [HN.out]; exact HNN.out, ⟨_, d, HD0.out, (.inr (.inr (.inr (.inr (.inr (.inr (by rw [← HDP.out]; exact q7)))))))⟩, rfl⟩)), hBb⟩
          have p7 : decide (15 < dp) = false := decide_eq_false q7
          go_upto_region 10 with (go_quiet (fail))
          obtain ⟨wq, hwq⟩ : ∃ x, x = w2.drewN nq := ⟨_, rfl⟩
          have hq : Quiet w2 wq := ⟨nq, hwq⟩
          rw [← hwq]
          clear hwq
          obtain ⟨aS, mS, cS, rfl⟩ := own_slice HO2.out
          have HOq := Lib.hid (own_below HO2.out hq.below (Nat.le_refl _))
          have J4q := Lib.hid (J42.out.quiet hq)
          have J2q := Lib.hid (J22.out.quiet hq)
          have HBq : Hid (Below w.heap.size w wq) := Lib.hid (HB2.out.trans hq.below)
          have c4 := J4q.out.at 1 rfl
          have f4 := J4q.out.free 1
          have cl4 := J4q.out.lt
          have d0 := (HK2.out.quiet hq).at 0 rfl
          have d1 := (HK2.out.quiet hq).at 1 rfl
          have d2 := (HK2.out.quiet hq).at 2 rfl
          have d3 := (HK2.out.quiet hq).at 3 rfl
          have dl := (HK2.out.quiet hq).lt
          have HX8 : Hid (NK ds ((kp + 1) + 1) (xs ++ [.int .i64 di, .int .i64 dr, .int .i64 dp, .bool dc, .slice none 0 0, .int .i64 0])) := Lib.hid (by
            have h9 := HX.out.snoc HD0.out
            unfold Df.six at h9
            rw [← HDI.out, ← HDR.out, ← HDP.out, ← HDC.out] at h9
            exact h9)
          have HKL : Hid ((kp + 1) < n) := Lib.hid (by omega)
          clear c0 c1 c2 c3 cl hq
          go_wp2_with (at_builtin; refine wpList_append_own_at _ rfl (.tmp 66) (.tmp 69) 43 rfl w.heap.size 78 ji _ 6 64 Try.underlying43 HJ1.out hz0 hz1 hz2 rfl (by decide) _ ((kp + 1)) xs rfl (own_below HOq.out (al (Below.refl _ _) _) (Nat.le_refl _)) ⟨wq.heap.size, 0, none⟩ 1 1 [.int .i64 di, .int .i64 dr, .int .i64 dp, .bool dc, .slice none 0 0, .int .i64 0] rfl rfl (row_new rfl _ 78) (by intro v hv; simp at hv; rcases hv with rfl | rfl | rfl | rfl | rfl | rfl <;> rfl) (by have := HKL.out; have := HNN.out; unfold maxLen; omega) (by have := HKL.out; have := HNN.out; omega) (Nat.le_trans HBq.out.size (al (Below.refl wq.heap.size wq) _).size) ?_; intro v8 w8 hown8 hgrow8 hblk8 hob8; obtain ⟨a8, n8, c8, rfl⟩ := own_slice hown8; obtain ⟨c4, f4, cl4, J49, J29, HO9, HB9⟩ := newR J4q.out J2q.out HNE.out.1 HOq.out hown8 hgrow8 HNE.out.2 HBq.out.size; clear hown8 hgrow8 hblk8 hob8 d0 d1 d2 d3 dl)
          all_goals
            go_roundg (gk - 1)
            case rel => exact ⟨(kp + 1) + 1, _, _, by omega, by omega, by go_num, HO9, HX8, J49, J29, Lib.hid (HBq.out.trans HB9.out), Lib.hid (fun i hi hb => by
              by_cases hik : i < (kp + 1)
              · exact HG.out i hik hb
              · obtain rfl : i = (kp + 1) := by omega
                obtain ⟨d', h1, h2⟩ := hb
                rw [HD0.out] at h1
                cases h1
                rw [HDI.out] at q1 q2
                rw [HDR.out] at q4 q5
                rw [HDP.out] at q6 q7
                rcases h2 with h2 | h2 | h2 | h2 | h2 | h2 | h2
                · omega
                · omega
                · exact HPV.out h2
                · omega
                · omega
                · omega
                · omega)⟩
            case measure => omega
      · have e2 : ¬ (k : Int) < (n : Int) := by omega
        have hkn : n = k := by omega
        have HGA : Hid (∀ i, ¬ badD ds i) := Lib.hid (fun i hb => by
          by_cases hik : i < k
          · exact HG.out i hik hb
          · obtain ⟨d, h1, -⟩ := hb
            have := (List.getElem?_eq_some_iff.1 h1).1
            have := HN.out
            omega)
        subst hkn
        obtain ⟨aS, mS, cS, rfl⟩ := own_slice HO.out
        obtain ⟨he6, hrv⟩ := HX.out.at (m := 0) HN.out HO.out
        have he7 := he6.symm
        subst he7
        have HRV := Lib.hid hrv
        have d0 := J4.out.at 0 rfl
        have d1 := J4.out.at 1 rfl
        have dl := J4.out.lt
        have t0 := J2.out.at 0 rfl
        have t1 := J2.out.at 1 rfl
        have tf0 := J2.out.free 0
        have tf1 := J2.out.free 1
        have tl := J2.out.lt
        clear he6 hrv
        go_wp2_with fail
        obtain ⟨wb, hwb⟩ : ∃ x, x = (wr.setCell ⟨b2, 0, none⟩ (.int .i64 0)).setCell ⟨b2, 1, none⟩ (.slice aS n cS) := ⟨_, rfl⟩
        have hBb : Below w.heap.size w wb := by
          rw [hwb]
          exact (HB.out.setCell (p := ⟨b2, 0, none⟩) (by show w.heap.size ≤ b2; rw [HBE.out]; exact Nat.le_refl _) _).setCell (p := ⟨b2, 1, none⟩) (by show w.heap.size ≤ b2; rw [HBE.out]; exact Nat.le_refl _) _
        have h6b : Blk wb b2 45 [.int .i64 0, .slice aS n cS] := by
          rw [hwb]
          exact Blk.cast ((J2.out.setCell 0 (.int .i64 0)).setCell 1 (.slice aS n cS)) rfl
        have hX : XF wr wb := by
          rw [hwb]
          exact (XF.box J2.out).trans (XF.box (J2.out.setCell 0 (.int .i64 0)))
        have r0 := h6b.at 0 rfl
        have r1 := h6b.at 1 rfl
        rw [← hwb]
        exact bodyPost_ret (v := .tuple #[.agg #[.int .i64 0, .slice aS n cS], .int .i64 0]) (by simp [results, Try.f16, go_sem, r0, r1]) rfl ⟨.inr (.inr ⟨by have := HN.out; omega, HGA.out, aS, n, cS, rfl, HRV.out.x hX⟩), hBb⟩
end Go.Proofs.Ytnojmkmmfiahgaa

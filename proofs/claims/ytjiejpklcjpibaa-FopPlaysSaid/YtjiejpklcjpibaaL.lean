/- Contract of Next where a control frame waits. No condition. -/
import Derived.Test.YtjiejpklcjpibaaJ
namespace Go.Proofs.Ytjiejpklcjpibaa
open Go.RowKit Go.Deep Go.ChangeShapes Go.WideShapes Go.ChangeAt
set_option linter.unusedVariables false

theorem ctl_some {w : World} {X : Nat → Prop} {v : Value} {x : Fm} {xs : List Fm} (h : CAt w X v (x :: xs)) : ∃ g off cap, v = .slice (some ⟨g, off, none⟩) (xs.length + 1) cap ∧ xs.length + 1 ≤ cap ∧ cap ≤ maxLen ∧ g < w.heap.size ∧ ¬ X g ∧ FmAt w X g off x ∧ CAt w X (.slice (some ⟨g, if cap = 1 then off else off + 6, none⟩) xs.length (cap - 1)) xs := by
  obtain ⟨a, cap, h1, h2, h3, h4⟩ := h
  rcases h4 with h4 | ⟨g, off, rfl, h6, h7, h8⟩
  · cases h4
  · refine ⟨g, off, cap, h1, h2, h3, h6, h7, h8 0 (by simp), ⟨_, _, rfl, by simp at h2; omega, by omega, ?_⟩⟩
    by_cases hx : xs = []
    · exact .inl hx
    · have hl : 0 < xs.length := List.length_pos_iff.2 hx
      refine .inr ⟨g, off + 6, by rw [if_neg (by simp at h2; omega)], h6, h7, fun i hi => ?_⟩
      have := h8 (i + 1) (by simp; omega)
      simpa [Nat.add_assoc, Nat.mul_add, Nat.add_comm, Nat.add_left_comm] using this
theorem NQ.ctl_of {w w' : World} {X : Nat → Prop} {b : Nat} {vU vC v : Value} {p : FS × Option Fm} {g : FS} {x : Fm} (hp : p = (g, some x)) (hO : w'.ownsRow w.heap.size 5 1 v x.data.length (encB x.data)) (hF : FAt w' X b g vU vC) (hf : Fr (fun k => k = b) w w') :
    NQ w X b vU p (.returned (.tuple #[fmV x v, .bool true])) w' := by
  subst hp
  exact ⟨v, vC, rfl, hO, hF, hf⟩
set_option maxRecDepth 20000 in
set_option maxHeartbeats 2000000 in
/-- a control frame waits -/
theorem next_ctl (X : Nat → Prop) (b : Nat) (f : FS) (vU vC : Value) (t : Int) (w : World) (x : Fm) (xs : List Fm) (h : FAt w X b f vU vC) (ok : f.Ok) (hc : f.ctls = x :: xs) :
    Calls Try.prog 12 #[.pointer (some ⟨b, 0, none⟩), .int .i64 t] w (NQ w X b vU (f.next t)) := by
  obtain ⟨g, hg⟩ : ∃ g, g = f.clock t := ⟨_, rfl⟩
  have hgc : g.ctls = x :: xs := by rw [hg]; exact hc
  have hnx : f.next t = g.step := by rw [hg]; rfl
  rw [hnx]
  have HN : Hid (g.step = ({ g with ctls := xs }, some x)) := Lib.hid (by unfold FS.step; rw [hgc])
  have hca := h.ctls
  rw [hc] at hca
  obtain ⟨gb, go, cc, rfl, hcc, hcm, -, -, -, -⟩ := ctl_some hca
  have hx3 : x.data.length ≤ 3 := ok.ctls.2 x (by rw [hc]; simp)
  have hl1 : xs.length ≤ 1 := by have := ok.ctls.1; rw [hc] at this; simpa using this
  obtain ⟨n, hn⟩ : ∃ n, n = xs.length + 1 := ⟨_, rfl⟩
  rw [← hn] at h hcc
  have HNL := Lib.hid hn
  have hn1 : 1 ≤ n := by omega
  have hn2 : n ≤ 2 := by omega
  have hn0 : (0 : Int) < (n : Int) := by omega
  obtain ⟨us, hO, hS⟩ := h.units
  obtain ⟨au, cu, rfl, -, -, -, -, -⟩ := hO.vat
  have c5 := h.blk.at 5 rfl
  have hlt := h.blk.lt
  have H := Lib.hid h
  have HG := Lib.hid hg
  have HC := Lib.hid hgc
  clear h hca hO hS hc hnx ok hg hgc hn
  go_enter Try.func12, Try.ntmps12
  go_wp2_with fail
  have c5 := ((H.out.blk.alloc (.cells #[.bool false, .bool false, .int .i64 0, .int .i64 0, .int .i64 0, .slice none 0 0] 33)).at 5 rfl)
  refine (usable_any b _ c5).mono ?_
  rintro e w2 ⟨rfl, hw⟩
  obtain rfl := hw.symm
  clear c5
  go_wp2_with fail
  refine (clock_any b f _ _ t _ (H.out.blk.alloc _)).mono ?_
  rintro e w3 ⟨rfl, hk, hf⟩
  rw [← HG.out] at hk
  have hz : Blk w3 w.heap.size 33 [.bool false, .bool false, .int .i64 0, .int .i64 0, .int .i64 0, .slice none 0 0] := (Blk.new w 33 _).fr hf (by omega)
  have hf3 : Fr (fun k => k = b) w w3 := ((Fr.refl _ _).alloc _).trans hf
  have H3 := Lib.hid (show FAt w3 (XZ X w) b g _ _ by rw [HG.out]; exact FAt.put (f := f) (H.out.alloc_x _) (by rw [← HG.out]; exact hk) hf rfl rfl)
  have HF3 := Lib.hid hf3
  have HZ := Lib.hid hz
  have hca := H3.out.ctls
  rw [HC.out] at hca
  obtain ⟨gb', go', cc', e, -, -, hgl, -, ⟨d0, d1, d2, d3, d4, vd, d5, ad, cd, rfl, hd1, hd2, hd3, -⟩, hrest⟩ := ctl_some hca
  simp only [Value.slice.injEq, Option.some.injEq, Addr.mk.injEq, and_true] at e
  obtain ⟨⟨rfl, rfl⟩, -, rfl⟩ := e
  have c11 := hk.at 11 rfl
  have f11 := hk.free 11
  have hlt3 := hk.lt
  have HD := Lib.hid hd3
  have HR := Lib.hid hrest
  clear hk hf hf3 hz hca hd3 hrest
  go_wp2_with fail
  refine (clone_n ad x.data.length cd x.data _ rfl (by omega) (HD.out.below (al (Below.refl _ _) _) (Nat.le_refl _))).mono ?_
  rintro e w5 ⟨v5, rfl, hO5, hB5⟩
  obtain ⟨a5, m5, c5', rfl⟩ := own_slice hO5
  have hkr : Blk w5 w3.heap.size 33 [.bool x.byp, .bool x.ctl, .int .i64 x.craft, .int .i64 x.chan, .int .i64 x.seq, .slice ad x.data.length cd] := (Blk.new w3 33 _).below hB5 (Nat.le_refl _)
  have hB35 : Below w3.heap.size w3 w5 := (al (Below.refl _ _) _).trans (hB5.mono (by simp))
  have H5 : Hid (FAt w5 (XZ (XZ X w) w3) b g _ _) := Lib.hid ((H3.out.alloc_x _).below hB5 (Nat.le_refl _))
  have HR5 : Hid (CAt w5 (Av (XZ (XZ X w) w3) b (.slice au us.length cu)) _ xs) := Lib.hid ((HR.out.grow (fun k hk => by
    rcases hk with (h | h) | h
    · exact .inl (.inl h)
    · exact .inr (by omega)
    · exact .inl (.inr h))).below hB35 (Nat.le_refl _))
  have HF5 : Hid (Fr (fun k => k = b) w w5) := Lib.hid (HF3.out.below hB35 (Nat.le_refl _))
  have HZ5 := Lib.hid (HZ.out.below hB35 (Nat.le_refl _))
  have zl3 := HZ.out.lt
  have hO5' : w5.ownsRow (w3.heap.size + 1) 5 1 (.slice a5 m5 c5') x.data.length (encB x.data) := by simpa using hO5
  have HO5 := Lib.hid hO5'
  have HKR := Lib.hid hkr
  have e0 := hkr.at 0 rfl
  have e1 := hkr.at 1 rfl
  have e2 := hkr.at 2 rfl
  have e3 := hkr.at 3 rfl
  have e4 := hkr.at 4 rfl
  have e5 := hkr.at 5 rfl
  have q5 := hkr.free 5
  have hlr := hkr.lt
  have c11 := H5.out.blk.at 11 rfl
  have f11 := H5.out.blk.free 11
  have hlt5 := H5.out.blk.lt
  clear hO5 hB5 hkr hB35 hO5' d0 d1 d2 d3 d4 d5
  by_cases h1 : cc = 1
  · subst h1
    obtain rfl : n = 1 := by omega
    have hx0 : xs.length = 0 := by have := HNL.out; omega
    have HRC : Hid (CAt w5 (Av (XZ (XZ X w) w3) b (.slice au us.length cu)) (.slice (some ⟨gb, go, none⟩) 0 0) xs) := Lib.hid (by have := HR5.out; rw [if_pos rfl, hx0] at this; exact this)
    go_upto_region 8 with fail
    have hsr : Fr (fun k => k = w3.heap.size) w5 (w5.setCell ⟨w3.heap.size, 5, none⟩ (.slice a5 m5 c5')) := frs (Fr.refl _ _) _ _
    have H6 : FAt (w5.setCell ⟨w3.heap.size, 5, none⟩ (.slice a5 m5 c5')) (XZ (XZ X w) w3) b g (.slice au us.length cu) (.slice (some ⟨gb, go, none⟩) 1 1) := H5.out.fr hsr (by omega) (fun k hk e => by have := (H3.out.row k hk).2; omega) (fun k hk => .inl (.inr hk))
    obtain ⟨w7, hw7⟩ : ∃ w7, w7 = (w5.setCell ⟨w3.heap.size, 5, none⟩ (.slice a5 m5 c5')).setCell ⟨b, 11, none⟩ (.slice (some ⟨gb, go, none⟩) 0 0) := ⟨_, rfl⟩
    rw [← hw7]
    have hk7 : Blk w7 b 69 (fcells { g with ctls := xs } (.slice au us.length cu) (.slice (some ⟨gb, go, none⟩) 0 0)) := by rw [hw7]; exact Blk.cast (H6.blk.setCell 11 _) rfl
    have hs7 : Fr (fun k => k = b) (w5.setCell ⟨w3.heap.size, 5, none⟩ (.slice a5 m5 c5')) w7 := by rw [hw7]; exact frs (Fr.refl _ _) _ _
    have hr7 : Blk w7 w3.heap.size 33 [.bool x.byp, .bool x.ctl, .int .i64 x.craft, .int .i64 x.chan, .int .i64 x.seq, .slice a5 m5 c5'] := by rw [hw7]; exact Blk.setOther (Blk.cast (HKR.out.setCell 5 _) rfl) (by show b ≠ _; omega) _
    have hz7 : Blk w7 w.heap.size 33 [.bool false, .bool false, .int .i64 0, .int .i64 0, .int .i64 0, .slice none 0 0] := by rw [hw7]; exact Blk.setOther (Blk.setOther HZ5.out (by show w3.heap.size ≠ _; omega) _) (by show b ≠ _; omega) _
    have hO7 : w7.ownsRow (w3.heap.size + 1) 5 1 (.slice a5 m5 c5') x.data.length (encB x.data) := by rw [hw7]; exact own_low (own_low HO5.out (by omega) _ _) (by omega) _ _
    have hC7 : CAt w7 (Av (XZ (XZ X w) w3) b (.slice au us.length cu)) (.slice (some ⟨gb, go, none⟩) 0 0) xs := (HRC.out.fr hsr (fun k hk => .inl (.inl (.inr hk)))).fr hs7 (fun k hk => .inl (.inr (.inl hk)))
    have H7 : FAt w7 (XZ X w) b { g with ctls := xs } _ _ := (H6.ctl_new hk7 hs7 rfl hC7).less (fun k hk => .inl (.inl hk)) (fun k hk => Nat.lt_of_lt_of_le (H3.out.xlt k hk) (by have := hr7.lt; omega))
    have hF7 : Fr (fun k => k = b) w w7 := (HF5.out.then hsr (fun k hk => .inr (by have := HF3.out.size; omega))).trans hs7
    have e0 := hr7.at 0 rfl
    have e1 := hr7.at 1 rfl
    have e2 := hr7.at 2 rfl
    have e3 := hr7.at 3 rfl
    have e4 := hr7.at 4 rfl
    have e5 := hr7.at 5 rfl
    have hz := hz7
    have z0 := hz.at 0 rfl
    have z1 := hz.at 1 rfl
    have z2 := hz.at 2 rfl
    have z3 := hz.at 3 rfl
    have z4 := hz.at 4 rfl
    have z5 := hz.at 5 rfl
    have y0 := hz.free 0
    have y1 := hz.free 1
    have y2 := hz.free 2
    have y3 := hz.free 3
    have y4 := hz.free 4
    have y5 := hz.free 5
    have zlt := hz.lt
    have H7 := Lib.hid H7
    have hF7 := Lib.hid hF7
    have hO7 := Lib.hid hO7
    have hs9 := HF3.out.size
    clear hsr H6 hw7 hk7 hs7 hr7 hz7 hC7 hz
    go_wp2_with fail
    obtain ⟨k1, k2⟩ := next_close H.out H7.out hF7.out (.bool x.byp) (.bool x.ctl) (.int .i64 x.craft) (.int .i64 x.chan) (.int .i64 x.seq) (.slice a5 m5 c5')
    have hO9 := own_base (own_six hO7.out (show w.heap.size < w3.heap.size + 1 by omega) (.bool x.byp) (.bool x.ctl) (.int .i64 x.craft) (.int .i64 x.chan) (.int .i64 x.seq) (.slice a5 m5 c5')) (show w.heap.size ≤ w3.heap.size + 1 by omega)
    exact bodyPost_ret (v := .tuple #[fmV x (.slice a5 m5 c5'), .bool true]) (by simp [results, Try.results12, go_sem, fmV, *]) rfl (NQ.ctl_of HN.out hO9 k1 k2)
  · have hcn : 1 ≤ cc := by omega
    have hcn2 : (1 : Int) ≤ (cc : Int) := by omega
    have hx0 : xs.length = n - 1 := by have := HNL.out; omega
    have HRC : Hid (CAt w5 (Av (XZ (XZ X w) w3) b (.slice au us.length cu)) (.slice (some ⟨gb, go + 6, none⟩) (n - 1) (cc - 1)) xs) := Lib.hid (by have := HR5.out; rw [if_neg h1, hx0] at this; exact this)
    go_upto_region 8 with fail
    have hsr : Fr (fun k => k = w3.heap.size) w5 (w5.setCell ⟨w3.heap.size, 5, none⟩ (.slice a5 m5 c5')) := frs (Fr.refl _ _) _ _
    have H6 : FAt (w5.setCell ⟨w3.heap.size, 5, none⟩ (.slice a5 m5 c5')) (XZ (XZ X w) w3) b g (.slice au us.length cu) (.slice (some ⟨gb, go, none⟩) n cc) := H5.out.fr hsr (by omega) (fun k hk e => by have := (H3.out.row k hk).2; omega) (fun k hk => .inl (.inr hk))
    obtain ⟨w7, hw7⟩ : ∃ w7, w7 = (w5.setCell ⟨w3.heap.size, 5, none⟩ (.slice a5 m5 c5')).setCell ⟨b, 11, none⟩ (.slice (some ⟨gb, go + 6, none⟩) (n - 1) (cc - 1)) := ⟨_, rfl⟩
    rw [← hw7]
    have hk7 : Blk w7 b 69 (fcells { g with ctls := xs } (.slice au us.length cu) (.slice (some ⟨gb, go + 6, none⟩) (n - 1) (cc - 1))) := by rw [hw7]; exact Blk.cast (H6.blk.setCell 11 _) rfl
    have hs7 : Fr (fun k => k = b) (w5.setCell ⟨w3.heap.size, 5, none⟩ (.slice a5 m5 c5')) w7 := by rw [hw7]; exact frs (Fr.refl _ _) _ _
    have hr7 : Blk w7 w3.heap.size 33 [.bool x.byp, .bool x.ctl, .int .i64 x.craft, .int .i64 x.chan, .int .i64 x.seq, .slice a5 m5 c5'] := by rw [hw7]; exact Blk.setOther (Blk.cast (HKR.out.setCell 5 _) rfl) (by show b ≠ _; omega) _
    have hz7 : Blk w7 w.heap.size 33 [.bool false, .bool false, .int .i64 0, .int .i64 0, .int .i64 0, .slice none 0 0] := by rw [hw7]; exact Blk.setOther (Blk.setOther HZ5.out (by show w3.heap.size ≠ _; omega) _) (by show b ≠ _; omega) _
    have hO7 : w7.ownsRow (w3.heap.size + 1) 5 1 (.slice a5 m5 c5') x.data.length (encB x.data) := by rw [hw7]; exact own_low (own_low HO5.out (by omega) _ _) (by omega) _ _
    have hC7 : CAt w7 (Av (XZ (XZ X w) w3) b (.slice au us.length cu)) (.slice (some ⟨gb, go + 6, none⟩) (n - 1) (cc - 1)) xs := (HRC.out.fr hsr (fun k hk => .inl (.inl (.inr hk)))).fr hs7 (fun k hk => .inl (.inr (.inl hk)))
    have H7 : FAt w7 (XZ X w) b { g with ctls := xs } _ _ := (H6.ctl_new hk7 hs7 rfl hC7).less (fun k hk => .inl (.inl hk)) (fun k hk => Nat.lt_of_lt_of_le (H3.out.xlt k hk) (by have := hr7.lt; omega))
    have hF7 : Fr (fun k => k = b) w w7 := (HF5.out.then hsr (fun k hk => .inr (by have := HF3.out.size; omega))).trans hs7
    have e0 := hr7.at 0 rfl
    have e1 := hr7.at 1 rfl
    have e2 := hr7.at 2 rfl
    have e3 := hr7.at 3 rfl
    have e4 := hr7.at 4 rfl
    have e5 := hr7.at 5 rfl
    have hz := hz7
    have z0 := hz.at 0 rfl
    have z1 := hz.at 1 rfl
    have z2 := hz.at 2 rfl
    have z3 := hz.at 3 rfl
    have z4 := hz.at 4 rfl
    have z5 := hz.at 5 rfl
    have y0 := hz.free 0
    have y1 := hz.free 1
    have y2 := hz.free 2
    have y3 := hz.free 3
    have y4 := hz.free 4
    have y5 := hz.free 5
    have zlt := hz.lt
    have H7 := Lib.hid H7
    have hF7 := Lib.hid hF7
    have hO7 := Lib.hid hO7
    have hs9 := HF3.out.size
    clear hsr H6 hw7 hk7 hs7 hr7 hz7 hC7 hz
    go_wp2_with fail
    obtain ⟨k1, k2⟩ := next_close H.out H7.out hF7.out (.bool x.byp) (.bool x.ctl) (.int .i64 x.craft) (.int .i64 x.chan) (.int .i64 x.seq) (.slice a5 m5 c5')
    have hO9 := own_base (own_six hO7.out (show w.heap.size < w3.heap.size + 1 by omega) (.bool x.byp) (.bool x.ctl) (.int .i64 x.craft) (.int .i64 x.chan) (.int .i64 x.seq) (.slice a5 m5 c5')) (show w.heap.size ≤ w3.heap.size + 1 by omega)
    exact bodyPost_ret (v := .tuple #[fmV x (.slice a5 m5 c5'), .bool true]) (by simp [results, Try.results12, go_sem, fmV, *]) rfl (NQ.ctl_of HN.out hO9 k1 k2)
end Go.Proofs.Ytjiejpklcjpibaa

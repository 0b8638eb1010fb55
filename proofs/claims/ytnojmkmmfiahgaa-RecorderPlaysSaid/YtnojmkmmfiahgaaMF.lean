/- The reference's Level, Dropped. No condition. -/
import Derived.Test.YtnojmkmmfiahgaaME
namespace Go.Proofs.Ytnojmkmmfiahgaa
open Go.RowKit Go.Deep Go.ChangeShapes Go.WideShapes Go.ChangeAt
set_option linter.unusedVariables false

/-- the reference's recorder as a value -/
structure RV (w : World) (r : RS) (a : Option Addr) (n c : Nat) : Prop where
  at_ : RrAt w a r.stores
  len : r.stores.length = n
  le : n ≤ c
  max : c ≤ maxLen
theorem RV.x {w w' : World} {r : RS} {a : Option Addr} {n c : Nat} (h : RV w r a n c) (hf : XF w w') : RV w' r a n c := ⟨h.at_.x hf, h.len, h.le, h.max⟩
theorem RV.low {w w' : World} {r : RS} {a : Option Addr} {n c : Nat} (h : RV w r a n c) (hf : Below w.heap.size w w') : RV w' r a n c := h.x (XF.of_below hf)
theorem RV.at {w : World} {r : RS} {a : Option Addr} {n c i : Nat} {s : St} (h : RV w r a n c) (hs : r.stores[i]? = some s) : ∃ b off, a = some ⟨b, off, none⟩ ∧ b < w.heap.size ∧ ¬ RkX w b ∧ SkAt w b (off + i * 6) s := by
  rcases h.at_ with h1 | ⟨b, off, h1, h2, h3, h4⟩
  · rw [h1] at hs; cases hs
  · exact ⟨b, off, h1, h2, h3, h4 i s hs⟩
set_option maxRecDepth 20000 in
theorem rLevel_any {w : World} {a : Option Addr} {n c : Nat} {r : RS} (id now : Int) (h : RV w r a n c) (ok : r.Ok) : Calls Try.prog 22 #[.agg #[.int .i64 now, .slice a n c], .int .i64 id] w fun e w' => e = .returned (.int .i64 (r.level id)) ∧ Below w.heap.size w w' := by
  have hn : n ≤ 1000 := by rw [← h.len]; have := ok.few; omega
  have hc := h.le
  have hm := h.max
  have H := Lib.hid h
  have OK := Lib.hid ok
  clear h ok
  go_enter Try.func22, Try.ntmps22
  go_upto_region 1 with fail
  obtain ⟨ws, hws⟩ : ∃ ws, ws = w.heap.size := ⟨_, rfl⟩
  obtain ⟨w1, hw1⟩ : ∃ w1, w1 = w.alloc (.cells #[.int .i64 now, .slice a n c] 45) := ⟨_, rfl⟩
  have HB := Lib.hid (show Below w.heap.size w w1 by rw [hw1]; exact al (Below.refl _ _) _)
  have hk : Blk w1 ws 45 [.int .i64 now, .slice a n c] := by rw [hw1, hws]; exact Blk.new w 45 _
  have c0 := hk.at 0 rfl
  have c1 := hk.at 1 rfl
  have cl := hk.lt
  have HK := Lib.hid hk
  have H1 := Lib.hid (H.out.low HB.out)
  rw [← hw1, ← hws]
  clear hw1 hws hk
  cases hf : r.find id with
  | none =>
    have HF : Hid (r.level id = 0) := Lib.hid (by unfold RS.level; rw [hf])
    have HFI := Lib.hid hf
    clear hf
    go_wp2_with fail
    refine (rfind_any id now H1.out.at_ H1.out.len hn hc hm).mono ?_
    rintro e w2 ⟨he, hB2⟩
    rw [HFI.out] at he
    subst he
    have HB2 := Lib.hid (HB.out.trans (hB2.mono HB.out.size))
    clear hB2
    unfold idxI
    go_wp2_with fail
    go_ret
    exact ⟨ret_int (by rw [HF.out]), HB2.out⟩
  | some i =>
    have hil := RS.find_lt hf
    obtain ⟨s, hs⟩ : ∃ s, r.stores[i]? = some s := ⟨_, List.getElem?_eq_getElem hil⟩
    have HF : Hid (r.level id = (lvl s.L : Int)) := Lib.hid (by unfold RS.level; rw [hf]; dsimp only; rw [get_of hs])
    have HFI := Lib.hid hf
    have HS := Lib.hid hs
    have HIL : Hid (i < n) := Lib.hid (by rw [← H.out.len]; exact hil)
    have HSO := Lib.hid (OK.out.each s (List.mem_of_getElem? hs))
    clear hf hs hil
    go_wp2_with fail
    refine (rfind_any id now H1.out.at_ H1.out.len hn hc hm).mono ?_
    rintro e w2 ⟨he, hB2⟩
    rw [HFI.out] at he
    subst he
    have H2 := Lib.hid (H1.out.low hB2)
    have hk2 := HK.out.below hB2 (Nat.le_refl _)
    have c2 := hk2.at 1 rfl
    have cl2 := hk2.lt
    obtain ⟨bR, oR, rfl, hbR, -, k0, k1, k2, k3, ⟨aL, cL, k4, k5, k6, k7⟩, k8⟩ := H2.out.at HS.out
    have HPK := Lib.hid k7
    have HB2 := Lib.hid (HB.out.trans (hB2.mono HB.out.size))
    obtain ⟨m, hm9⟩ : ∃ x, x = s.L.length := ⟨_, rfl⟩
    rw [← hm9] at k4 k5
    have HM := Lib.hid hm9.symm
    obtain ⟨i1, hi1⟩ : ∃ x, x = s.id := ⟨_, rfl⟩
    obtain ⟨i2, hi2⟩ : ∃ x, x = s.room := ⟨_, rfl⟩
    obtain ⟨i3, hi3⟩ : ∃ x, x = s.prio := ⟨_, rfl⟩
    obtain ⟨i4, hi4⟩ : ∃ x, x = s.circ := ⟨_, rfl⟩
    obtain ⟨i5, hi5⟩ : ∃ x, x = (s.drop : Int) := ⟨_, rfl⟩
    rw [← hi1] at k0
    rw [← hi2] at k1
    rw [← hi3] at k2
    rw [← hi4] at k3
    rw [← hi5] at k8
    have e1 : (i : Int) < (n : Int) := by have := HIL.out; omega
    have e2 : ¬ (i : Int) < 0 := by omega
    clear hB2 k7 hm9 hi1 hi2 hi3 hi4 hi5 c0 c1 cl hk2
    unfold idxI
    dsimp only
    go_wp2_with fail
    refine (rlevel_any i1 i2 i3 i4 i5 HPK.out HM.out (by have := HSO.out.lvl; have := HSO.out.room; omega) (by rw [← HM.out]; exact len_room HSO.out) k5 k6).mono ?_
    rintro e w3 ⟨rfl, hB3⟩
    have HB3 := Lib.hid (HB2.out.trans (hB3.mono HB2.out.size))
    clear hB3
    go_wp2_with fail
    go_ret
    exact ⟨ret_int (by rw [HF.out]), HB3.out⟩
set_option maxRecDepth 20000 in
theorem rDropped_any {w : World} {a : Option Addr} {n c : Nat} {r : RS} (id now : Int) (h : RV w r a n c) (ok : r.Ok) : Calls Try.prog 23 #[.agg #[.int .i64 now, .slice a n c], .int .i64 id] w fun e w' => e = .returned (.int .i64 (r.dropped id)) ∧ Below w.heap.size w w' := by
  have hn : n ≤ 1000 := by rw [← h.len]; have := ok.few; omega
  have hc := h.le
  have hm := h.max
  have H := Lib.hid h
  have OK := Lib.hid ok
  clear h ok
  go_enter Try.func23, Try.ntmps23
  go_upto_region 1 with fail
  obtain ⟨ws, hws⟩ : ∃ ws, ws = w.heap.size := ⟨_, rfl⟩
  obtain ⟨w1, hw1⟩ : ∃ w1, w1 = w.alloc (.cells #[.int .i64 now, .slice a n c] 45) := ⟨_, rfl⟩
  have HB := Lib.hid (show Below w.heap.size w w1 by rw [hw1]; exact al (Below.refl _ _) _)
  have hk : Blk w1 ws 45 [.int .i64 now, .slice a n c] := by rw [hw1, hws]; exact Blk.new w 45 _
  have c0 := hk.at 0 rfl
  have c1 := hk.at 1 rfl
  have cl := hk.lt
  have HK := Lib.hid hk
  have H1 := Lib.hid (H.out.low HB.out)
  rw [← hw1, ← hws]
  clear hw1 hws hk
  cases hf : r.find id with
  | none =>
    have HF : Hid (r.dropped id = 0) := Lib.hid (by unfold RS.dropped; rw [hf])
    have HFI := Lib.hid hf
    clear hf
    go_wp2_with fail
    refine (rfind_any id now H1.out.at_ H1.out.len hn hc hm).mono ?_
    rintro e w2 ⟨he, hB2⟩
    rw [HFI.out] at he
    subst he
    have HB2 := Lib.hid (HB.out.trans (hB2.mono HB.out.size))
    clear hB2
    unfold idxI
    go_wp2_with fail
    go_ret
    exact ⟨ret_int (by rw [HF.out]), HB2.out⟩
  | some i =>
    have hil := RS.find_lt hf
    obtain ⟨s, hs⟩ : ∃ s, r.stores[i]? = some s := ⟨_, List.getElem?_eq_getElem hil⟩
    have HF : Hid (r.dropped id = (s.drop : Int)) := Lib.hid (by unfold RS.dropped; rw [hf]; dsimp only; rw [get_of hs])
    have HFI := Lib.hid hf
    have HS := Lib.hid hs
    have HIL : Hid (i < n) := Lib.hid (by rw [← H.out.len]; exact hil)
    have HSO := Lib.hid (OK.out.each s (List.mem_of_getElem? hs))
    clear hf hs hil
    go_wp2_with fail
    refine (rfind_any id now H1.out.at_ H1.out.len hn hc hm).mono ?_
    rintro e w2 ⟨he, hB2⟩
    rw [HFI.out] at he
    subst he
    have H2 := Lib.hid (H1.out.low hB2)
    have hk2 := HK.out.below hB2 (Nat.le_refl _)
    have c2 := hk2.at 1 rfl
    have cl2 := hk2.lt
    obtain ⟨bR, oR, rfl, hbR, -, k0, k1, k2, k3, ⟨aL, cL, k4, k5, k6, k7⟩, k8⟩ := H2.out.at HS.out
    have HPK := Lib.hid k7
    have HB2 := Lib.hid (HB.out.trans (hB2.mono HB.out.size))
    obtain ⟨m, hm9⟩ : ∃ x, x = s.L.length := ⟨_, rfl⟩
    rw [← hm9] at k4 k5
    have HM := Lib.hid hm9.symm
    obtain ⟨i1, hi1⟩ : ∃ x, x = s.id := ⟨_, rfl⟩
    obtain ⟨i2, hi2⟩ : ∃ x, x = s.room := ⟨_, rfl⟩
    obtain ⟨i3, hi3⟩ : ∃ x, x = s.prio := ⟨_, rfl⟩
    obtain ⟨i4, hi4⟩ : ∃ x, x = s.circ := ⟨_, rfl⟩
    obtain ⟨i5, hi5⟩ : ∃ x, x = (s.drop : Int) := ⟨_, rfl⟩
    rw [← hi1] at k0
    rw [← hi2] at k1
    rw [← hi3] at k2
    rw [← hi4] at k3
    rw [← hi5] at k8
    have e1 : (i : Int) < (n : Int) := by have := HIL.out; omega
    have e2 : ¬ (i : Int) < 0 := by omega
    have HI5 := Lib.hid hi5
    clear hB2 k7 hm9 hi1 hi2 hi3 hi4 hi5 c0 c1 cl hk2
    unfold idxI
    dsimp only
    go_wp2_with fail
    go_ret
    exact ⟨ret_int (by rw [HF.out, ← HI5.out]), HB2.out⟩
end Go.Proofs.Ytnojmkmmfiahgaa

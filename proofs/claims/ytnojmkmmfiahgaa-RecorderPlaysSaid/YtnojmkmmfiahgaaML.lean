/- The reference's Add. No condition. -/
import Derived.Test.YtnojmkmmfiahgaaMN
import Derived.Deep.DeepCutAuto
namespace Go.Proofs.Ytnojmkmmfiahgaa
open Go.RowKit Go.Deep Go.ChangeShapes Go.WideShapes Go.ChangeAt
set_option linter.unusedVariables false

theorem add_none {r : RS} {id now : Int} {l : List UInt8} (h : (r.tick now).find id = none) : r.add id now l = (r.tick now, 8) := by unfold RS.add; rw [h]
theorem add_some {r : RS} {id now : Int} {l : List UInt8} {i : Nat} {s : St} (h : (r.tick now).find id = some i) (hs : (r.tick now).stores[i]? = some s) : r.add id now l = ((r.tick now).put i (s.add (r.tick now).now l).1, (s.add (r.tick now).now l).2) := by
  unfold RS.add
  rw [h]
  dsimp only
  rw [get_of hs]
/-- a letter for the world at hand -/
theorem nameW {K : Act → World → Prop} {a : Act} {W : World} (h : ∀ x, x = W → K a x) : K a W := h W rfl
theorem drew_alloc {W wx : World} {o : Obj} (h : wx = (W.alloc o).drew) : wx = W.drew.alloc o := h
theorem al_of {W wx : World} {o : Obj} (h : wx = W.alloc o) : Below W.heap.size W wx := by rw [h]; exact al (Below.refl _ _) _
theorem own_mk {W wx : World} {B sz : Nat} {e : TypeId} (h : wx = W.alloc (.cells #[] e)) (hB : B ≤ W.heap.size) : wx.ownsRow B e sz (.slice (some ⟨W.heap.size, 0, none⟩) 0 0) 0 [] := by
  rw [h]
  exact World.ownsRow_made _ #[] 0 hB (by unfold maxLen; omega) (by simp)
theorem blk_mk {W wx : World} {t : TypeId} {xs : List Value} (h : wx = W.alloc (.cells xs.toArray t)) : Blk wx W.heap.size t xs := by rw [h]; exact Blk.new W t xs
theorem zn0 {W : World} {z T : Nat} {ys : List Value} (h : Blk W z T ys) : (Value.slice (some ⟨W.heap.size, 0, none⟩) 0 0).ownBlock ≠ some z := by
  have := h.lt
  simp [Value.ownBlock]
  omega
theorem zn10 {W : World} {B t z n : Nat} {v : Value} {xs : List Value} (h : W.ownsRow B t z v n xs) : v.ownBlock ≠ some W.heap.size := fun e => by
  have := (h.lt _ e).2
  omega
theorem zn3 {W : World} {z T : Nat} {v v8 : Value} {ys : List Value} (hz : Blk W z T ys) (h : v.ownBlock ≠ some z) (hob : v8.ownBlock = v.ownBlock ∨ v8.ownBlock = some W.heap.size) : v8.ownBlock ≠ some z := by
  have := hz.lt
  rcases hob with e | e
  · rw [e]; exact h
  · rw [e]; intro e2; cases e2; omega
/-- a row of another kind stays where one grows -/
theorem own_kept {W w8 : World} {B B2 t t2 z z2 n n2 : Nat} {v v2 : Value} {xs ys : List Value} (h : W.ownsRow B t z v n xs) (h2 : W.ownsRow B2 t2 z2 v2 n2 ys) (ht : t ≠ t2) (hg : W.grownBy w8 v2.ownBlock) : w8.ownsRow B t z v n xs := by
  refine h.kept hg ?_
  cases e : v.ownBlock with
  | none => exact .inl rfl
  | some k =>
    refine .inr fun e2 => ?_
    obtain ⟨c1, h1⟩ := own_ty h e
    obtain ⟨c2, h3⟩ := own_ty h2 e2.symm
    rw [h1] at h3
    simp at h3
    exact ht h3.2
theorem row_src {W : World} {z T : Nat} {ys : List Value} (h : Blk W z T ys) : ∀ j u, ys[j]? = some u → ∃ ad, some (⟨z, 0, none⟩ : Addr) = some ad ∧ W.cell? (ad.add j) = some u := fun j u hj => ⟨_, rfl, by rw [add_plain, Nat.zero_add]; exact h.at j hj⟩
theorem lvl_drop_le (L : List En) (k : Nat) : lvl (L.drop k) ≤ lvl L := by
  have h : lvl L = lvl (L.take k) + lvl (L.drop k) := by rw [← lvl_append, List.take_append_drop]
  omega
/-- what the last drawn region leaves -/
theorem add_fin {w W : World} {B b9 m ml n8 c8 n9 c9 : Nat} {a8 a9 : Option Addr} {i1 i2 i3 d tk : Int} {i4 : Bool} {L : List En} {xs : List Value} {l : List UInt8} (hx : PX w L xs) (hL : L.length = m) (hf : XF w W) (h9 : Blk W b9 78 [.int .i64 i1, .int .i64 i2, .int .i64 i3, .bool i4, .slice a8 n8 c8, .int .i64 d]) (hA : W.ownsRow B 81 3 (.slice a8 n8 c8) (m + 1) (xs ++ [.int .i64 tk, .slice a9 n9 c9, .bool false])) (hY : W.ownsRow B 5 1 (.slice a9 n9 c9) ml (encB l)) (hl : l.length = ml) :
    ∃ aN cN, m + 1 ≤ cN ∧ cN ≤ maxLen ∧ Hid (Blk W b9 78 [.int .i64 i1, .int .i64 i2, .int .i64 i3, .bool i4, .slice aN (m + 1) cN, .int .i64 d]) ∧ Hid (PkAt W aN (L ++ [⟨tk, l, false⟩])) := by
  obtain ⟨rfl, h2, h3, h4⟩ := BX.of_row hY hl
  have hp := (hx.x hf).snoc (e := ⟨tk, l, false⟩) (tm := tk) (wn := false) rfl hl.symm h2 h3 h4 rfl
  obtain ⟨rfl, k2, k3, k4⟩ := hp.at (by rw [List.length_append, hL]; rfl) hA
  exact ⟨a8, c8, k2, k3, Lib.hid h9, Lib.hid k4⟩
set_option maxRecDepth 20000 in
set_option maxHeartbeats 4000000 in
theorem rAdd_any {w : World} {a : Option Addr} {n c : Nat} {r : RS} (id now : Int) {ab : Option Addr} {l : List UInt8} {ml cb : Nat} (h : RV w r a n c) (ok : r.Ok) (hb : BAt w ab l) (hml : l.length = ml) (hmc : ml ≤ cb) (hcb : cb ≤ maxLen) (hmx : ml ≤ 100000) (hdrop : ∀ (i : Nat) (s : St), r.stores[i]? = some s → s.drop ≤ 4000000000000000000) : Calls Try.prog 17 #[.agg #[.int .i64 r.now, .slice a n c], .int .i64 id, .int .i64 now, .slice ab ml cb] w (RQ2 (r.add id now l).1.now w (r.add id now l)) := by
  have hn : n ≤ 1000 := by rw [← h.len]; have := ok.few; omega
  have hc := h.le
  have hm := h.max
  obtain ⟨r1, hr1⟩ : ∃ x, x = r.tick now := ⟨_, rfl⟩
  have H := Lib.hid (show RV w r1 a n c by rw [hr1]; exact ⟨h.at_, h.len, h.le, h.max⟩)
  have OK := Lib.hid (show r1.Ok by rw [hr1]; exact RS.ok_tick ok now)
  have HDR := Lib.hid (show ∀ (i : Nat) (s : St), r1.stores[i]? = some s → s.drop ≤ 4000000000000000000 by rw [hr1]; exact hdrop)
  have HNO : Hid (∀ {l : List UInt8}, r1.find id = none → r.add id now l = (r1, 8)) := Lib.hid (fun hf => by rw [hr1] at hf ⊢; exact add_none hf)
  have HSM : Hid (∀ {l : List UInt8} {i : Nat} {s : St}, r1.find id = some i → r1.stores[i]? = some s → r.add id now l = (r1.put i (s.add r1.now l).1, (s.add r1.now l).2)) := Lib.hid (fun hf hs => by rw [hr1] at hf hs ⊢; exact add_some hf hs)
  obtain ⟨n0, hn0⟩ : ∃ x, x = r.now := ⟨_, rfl⟩
  obtain ⟨tk, htk⟩ : ∃ x, x = r1.now := ⟨_, rfl⟩
  have HTK : Hid (tk = if now ≤ 1099511627776 then max n0 now else n0) := Lib.hid (by rw [htk, hr1, hn0]; rfl)
  have HTN := Lib.hid htk
  have HBA := Lib.hid hb
  have HML := Lib.hid hml
  rw [← hn0]
  clear h ok hb hml hdrop hn0 htk hr1
  go_enter Try.func17, Try.ntmps17
  go_upto_region 1 with fail
  obtain ⟨b3, hb3⟩ : ∃ x, x = w.heap.size := ⟨_, rfl⟩
  obtain ⟨w1, hw1⟩ : ∃ w1, w1 = (w.alloc (.cells #[.int .i64 n0, .slice a n c] 45)).alloc (.cells #[.int .i64 0, .slice none 0 0] 45) := ⟨_, rfl⟩
  have HB := Lib.hid (show Below w.heap.size w w1 by rw [hw1]; exact al (al (Below.refl _ _) _) _)
  have hk : Blk w1 b3 45 [.int .i64 n0, .slice a n c] := by rw [hw1, hb3]; exact (Blk.new w 45 _).alloc _
  have HK6 : Hid (Blk w1 (b3 + 1) 45 [.int .i64 0, .slice none 0 0]) := Lib.hid (by rw [hw1, hb3]; exact Blk.newAt (xs := [.int .i64 0, .slice none 0 0]) (T := 45) (n := w.heap.size + 1) (by simp))
  have c0 := hk.at 0 rfl
  have fr0 := hk.free 0
  have cl := hk.lt
  have HB3 := Lib.hid hb3
  have HK := Lib.hid hk
  rw [← hw1, ← hb3]
  clear hw1 hb3 hk
  go_cut [19] (fun v19 wx => v19 = .bool (decide (n0 < now) && decide (now ≤ 1099511627776)) ∧ wx = w1)
  case first =>
    by_cases g1 : n0 < now
    · by_cases g2 : now ≤ 1099511627776
      · have g3 : (decide (n0 < now) && decide (now ≤ 1099511627776)) = true := by rw [decide_eq_true g1, decide_eq_true g2]; rfl
        have HG := Lib.hid g3
        clear g3
        go_wp2_with fail
        go_meet
        exact ⟨congrArg Value.bool HG.out.symm, rfl⟩
      · have g3 : (decide (n0 < now) && decide (now ≤ 1099511627776)) = false := by rw [decide_eq_true g1, decide_eq_false g2]; rfl
        have HG := Lib.hid g3
        clear g3
        go_wp2_with fail
        go_meet
        exact ⟨congrArg Value.bool HG.out.symm, rfl⟩
    · have g3 : (decide (n0 < now) && decide (now ≤ 1099511627776)) = false := by rw [decide_eq_false g1]; rfl
      have HG := Lib.hid g3
      clear g3
      go_wp2_with fail
      go_meet
      exact ⟨congrArg Value.bool HG.out.symm, rfl⟩
  case rest =>
    obtain ⟨rfl, rfl⟩ := hcut
    go_upto_if 19 with fail
    go_cut [] (fun wx => Hid (Blk wx b3 45 [.int .i64 tk, .slice a n c]) ∧ Hid (Blk wx (b3 + 1) 45 [.int .i64 0, .slice none 0 0]) ∧ Hid (Below w.heap.size w wx))
    case first =>
      by_cases g1 : n0 < now
      · by_cases g2 : now ≤ 1099511627776
        · have g3 : (decide (n0 < now) && decide (now ≤ 1099511627776)) = true := by simp [g1, g2]
          have HT : Hid (tk = now) := Lib.hid (by rw [HTK.out, if_pos g2]; omega)
          go_wp2_with fail
          go_meet
          rw [HT.out]
          exact ⟨Lib.hid (Blk.cast (HK.out.setCell 0 (.int .i64 now)) rfl), Lib.hid (HK6.out.setOther (p := ⟨b3, 0, none⟩) (by show b3 ≠ b3 + 1; omega) _), Lib.hid (HB.out.setCell (p := ⟨b3, 0, none⟩) (by show w.heap.size ≤ b3; rw [HB3.out]; exact Nat.le_refl _) _)⟩
        · have g3 : (decide (n0 < now) && decide (now ≤ 1099511627776)) = false := by simp [g2]
          have HT : Hid (tk = n0) := Lib.hid (by rw [HTK.out, if_neg g2])
          go_wp2_with fail
          go_meet
          rw [HT.out]
          exact ⟨HK, HK6, HB⟩
      · have g3 : (decide (n0 < now) && decide (now ≤ 1099511627776)) = false := by simp [g1]
        have HT : Hid (tk = n0) := Lib.hid (by rw [HTK.out]; split <;> omega)
        go_wp2_with fail
        go_meet
        rw [HT.out]
        exact ⟨HK, HK6, HB⟩
    case rest =>
      obtain ⟨K3, K6, HB⟩ := hcut
      obtain ⟨wo, hwo⟩ : ∃ x, x = wc := ⟨wc, rfl⟩
      subst hwo
      have c0 := K3.out.at 0 rfl
      have c1 := K3.out.at 1 rfl
      have cl := K3.out.lt
      have H1 := Lib.hid (H.out.low HB.out)
      clear fr0
      cases hf : r1.find id with
      | none =>
        have HF : Hid (r.add id now l = (r1, 8)) := Lib.hid (HNO.out hf)
        have HFI := Lib.hid hf
        clear hf
        go_wp2_with fail
        refine (rfind_any id tk H1.out.at_ H1.out.len hn hc hm).mono ?_
        rintro e w2 ⟨he, hB2⟩
        rw [HFI.out] at he
        subst he
        have HB2 := Lib.hid (HB.out.trans (hB2.mono HB.out.size))
        have k3 := K3.out.below hB2 (Nat.le_refl _)
        have k6 := K6.out.below hB2 (Nat.le_refl _)
        have d0 := k3.at 0 rfl
        have d1 := k3.at 1 rfl
        have dl := k3.lt
        have t0 := k6.at 0 rfl
        have t1 := k6.at 1 rfl
        have tf0 := k6.free 0
        have tf1 := k6.free 1
        have tl := k6.lt
        have K6 := Lib.hid k6
        clear c0 c1 cl hB2 k3 k6
        unfold idxI
        dsimp only
        go_wp2_with fail
        obtain ⟨wb, hwb⟩ : ∃ x, x = (w2.setCell ⟨b3 + 1, 0, none⟩ (.int .i64 tk)).setCell ⟨b3 + 1, 1, none⟩ (.slice a n c) := ⟨_, rfl⟩
        have hBb : Below w.heap.size w wb := by
          rw [hwb]
          exact (HB2.out.setCell (p := ⟨b3 + 1, 0, none⟩) (by show w.heap.size ≤ b3 + 1; rw [HB3.out]; omega) _).setCell (p := ⟨b3 + 1, 1, none⟩) (by show w.heap.size ≤ b3 + 1; rw [HB3.out]; omega) _
        have h6b : Blk wb (b3 + 1) 45 [.int .i64 tk, .slice a n c] := by
          rw [hwb]
          exact Blk.cast ((K6.out.setCell 0 (.int .i64 tk)).setCell 1 (.slice a n c)) rfl
        have r0 := h6b.at 0 rfl
        have r1 := h6b.at 1 rfl
        rw [← hwb]
        exact bodyPost_ret (v := .tuple #[.agg #[.int .i64 tk, .slice a n c], .int .i64 8]) (by simp [results, Try.f17, go_sem, r0, r1]) rfl ⟨a, n, c, by rw [HF.out, HTN.out], by rw [HF.out]; exact H.out.low hBb, hBb⟩
      | some i =>
        have hil := RS.find_lt hf
        obtain ⟨s, hs⟩ : ∃ s, r1.stores[i]? = some s := ⟨_, List.getElem?_eq_getElem hil⟩
        have HFI := Lib.hid hf
        have HS := Lib.hid hs
        have HIL : Hid (i < n) := Lib.hid (by rw [← H.out.len]; exact hil)
        have HSO := Lib.hid (OK.out.each s (List.mem_of_getElem? hs))
        have HSA : Hid (r.add id now l = (r1.put i (s.add r1.now l).1, (s.add r1.now l).2)) := Lib.hid (HSM.out hf hs)
        have e2 : ¬ (i : Int) < 0 := by omega
        clear hf hs hil
        by_cases hbad : ml < 1 ∨ 4096 < ml
        · have HF : Hid (r.add id now l = (r1, 1)) := Lib.hid (by
            rw [HSA.out]
            unfold St.add
            rw [if_pos (by rw [HML.out]; exact hbad)]
            dsimp only
            rw [RS.put_self HS.out])
          by_cases h0 : ml < 1
          · have e3 : (ml : Int) < 1 := by omega
            clear hbad
            go_wp2_with fail
            refine (rfind_any id tk H1.out.at_ H1.out.len hn hc hm).mono ?_
            rintro e w2 ⟨he, hB2⟩
            rw [HFI.out] at he
            subst he
            have HB2 := Lib.hid (HB.out.trans (hB2.mono HB.out.size))
            have k3 := K3.out.below hB2 (Nat.le_refl _)
            have k6 := K6.out.below hB2 (Nat.le_refl _)
            have d0 := k3.at 0 rfl
            have d1 := k3.at 1 rfl
            have dl := k3.lt
            have t0 := k6.at 0 rfl
            have t1 := k6.at 1 rfl
            have tf0 := k6.free 0
            have tf1 := k6.free 1
            have tl := k6.lt
            have K6 := Lib.hid k6
            clear c0 c1 cl hB2 k3 k6
            unfold idxI
            dsimp only
            go_wp2_with fail
            obtain ⟨wb, hwb⟩ : ∃ x, x = (w2.setCell ⟨b3 + 1, 0, none⟩ (.int .i64 tk)).setCell ⟨b3 + 1, 1, none⟩ (.slice a n c) := ⟨_, rfl⟩
            have hBb : Below w.heap.size w wb := by
              rw [hwb]
              exact (HB2.out.setCell (p := ⟨b3 + 1, 0, none⟩) (by show w.heap.size ≤ b3 + 1; rw [HB3.out]; omega) _).setCell (p := ⟨b3 + 1, 1, none⟩) (by show w.heap.size ≤ b3 + 1; rw [HB3.out]; omega) _
            have h6b : Blk wb (b3 + 1) 45 [.int .i64 tk, .slice a n c] := by
              rw [hwb]
              exact Blk.cast ((K6.out.setCell 0 (.int .i64 tk)).setCell 1 (.slice a n c)) rfl
            have r0 := h6b.at 0 rfl
            have r1 := h6b.at 1 rfl
            rw [← hwb]
            exact bodyPost_ret (v := .tuple #[.agg #[.int .i64 tk, .slice a n c], .int .i64 1]) (by simp [results, Try.f17, go_sem, r0, r1]) rfl ⟨a, n, c, by rw [HF.out, HTN.out], by rw [HF.out]; exact H.out.low hBb, hBb⟩
          · have e3 : ¬ (ml : Int) < 1 := by omega
            have e4 : (4096 : Int) < (ml : Int) := by omega
            clear hbad
            go_wp2_with fail
            refine (rfind_any id tk H1.out.at_ H1.out.len hn hc hm).mono ?_
            rintro e w2 ⟨he, hB2⟩
            rw [HFI.out] at he
            subst he
            have HB2 := Lib.hid (HB.out.trans (hB2.mono HB.out.size))
            have k3 := K3.out.below hB2 (Nat.le_refl _)
            have k6 := K6.out.below hB2 (Nat.le_refl _)
            have d0 := k3.at 0 rfl
            have d1 := k3.at 1 rfl
            have dl := k3.lt
            have t0 := k6.at 0 rfl
            have t1 := k6.at 1 rfl
            have tf0 := k6.free 0
            have tf1 := k6.free 1
            have tl := k6.lt
            have K6 := Lib.hid k6
            clear c0 c1 cl hB2 k3 k6
            unfold idxI
            dsimp only
            go_wp2_with fail
            obtain ⟨wb, hwb⟩ : ∃ x, x = (w2.setCell ⟨b3 + 1, 0, none⟩ (.int .i64 tk)).setCell ⟨b3 + 1, 1, none⟩ (.slice a n c) := ⟨_, rfl⟩
            have hBb : Below w.heap.size w wb := by
              rw [hwb]
              exact (HB2.out.setCell (p := ⟨b3 + 1, 0, none⟩) (by show w.heap.size ≤ b3 + 1; rw [HB3.out]; omega) _).setCell (p := ⟨b3 + 1, 1, none⟩) (by show w.heap.size ≤ b3 + 1; rw [HB3.out]; omega) _
            have h6b : Blk wb (b3 + 1) 45 [.int .i64 tk, .slice a n c] := by
              rw [hwb]
              exact Blk.cast ((K6.out.setCell 0 (.int .i64 tk)).setCell 1 (.slice a n c)) rfl
            have r0 := h6b.at 0 rfl
            have r1 := h6b.at 1 rfl
            rw [← hwb]
            exact bodyPost_ret (v := .tuple #[.agg #[.int .i64 tk, .slice a n c], .int .i64 1]) (by simp [results, Try.f17, go_sem, r0, r1]) rfl ⟨a, n, c, by rw [HF.out, HTN.out], by rw [HF.out]; exact H.out.low hBb, hBb⟩
        · have HBL : Hid (¬ (ml < 1 ∨ 4096 < ml)) := Lib.hid hbad
          have e3 : ¬ (ml : Int) < 1 := by omega
          have e4 : ¬ (4096 : Int) < (ml : Int) := by omega
          have e1 : (i : Int) < (n : Int) := by have := HIL.out; omega
          clear hbad
          go_wp2_with fail
          refine (rfind_any id tk H1.out.at_ H1.out.len hn hc hm).mono ?_
          rintro e w2 ⟨he, hB2⟩
          rw [HFI.out] at he
          subst he
          have HB2 := Lib.hid (HB.out.trans (hB2.mono HB.out.size))
          have k3 := K3.out.below hB2 (Nat.le_refl _)
          have k6 := K6.out.below hB2 (Nat.le_refl _)
          obtain ⟨bR, oR, rfl, hbR, -, q0, q1, q2, q3, ⟨aL, cL, q4, q5, q6, q7⟩, q8⟩ := H.out.at HS.out
          obtain ⟨m, hm9⟩ : ∃ x, x = s.L.length := ⟨_, rfl⟩
          rw [← hm9] at q4 q5
          have HM := Lib.hid hm9.symm
          have HPK := Lib.hid q7
          have k0 := (HB2.out.cell (p := ⟨bR, _, none⟩) hbR).trans q0
          have k1 := (HB2.out.cell (p := ⟨bR, _, none⟩) hbR).trans q1
          have k2 := (HB2.out.cell (p := ⟨bR, _, none⟩) hbR).trans q2
          have k33 := (HB2.out.cell (p := ⟨bR, _, none⟩) hbR).trans q3
          have k4 := (HB2.out.cell (p := ⟨bR, _, none⟩) hbR).trans q4
          have k5 := (HB2.out.cell (p := ⟨bR, _, none⟩) hbR).trans q8
          obtain ⟨i1, hi1⟩ : ∃ x, x = s.id := ⟨_, rfl⟩
          obtain ⟨i2, hi2⟩ : ∃ x, x = s.room := ⟨_, rfl⟩
          obtain ⟨i3, hi3⟩ : ∃ x, x = s.prio := ⟨_, rfl⟩
          obtain ⟨i4, hi4⟩ : ∃ x, x = s.circ := ⟨_, rfl⟩
          obtain ⟨i5, hi5⟩ : ∃ x, x = s.drop := ⟨_, rfl⟩
          rw [← hi1] at k0
          rw [← hi2] at k1
          rw [← hi3] at k2
          rw [← hi4] at k33
          rw [← hi5] at k5
          have HI : Hid (i1 = s.id ∧ i2 = s.room ∧ i3 = s.prio ∧ i4 = s.circ ∧ i5 = s.drop) := Lib.hid ⟨hi1, hi2, hi3, hi4, hi5⟩
          have hdb : i5 ≤ 4000000000000000000 := by rw [hi5]; exact HDR.out i s HS.out
          have hrm : 0 ≤ i2 ∧ i2 ≤ 2147483648 := by rw [hi2]; exact HSO.out.room
          have HLV : Hid ((lvl s.L : Int) ≤ i2) := Lib.hid (by rw [hi2]; exact HSO.out.lvl)
          have d1 := k3.at 1 rfl
          have dl := k3.lt
          have K3 := Lib.hid k3
          have K6 := Lib.hid k6
          clear hi1 hi2 hi3 hi4 hi5 q0 q1 q2 q3 q4 q7 q8 hm9 c0 c1 cl hB2 k3 k6
          unfold idxI
          dsimp only
          go_upto_region 9 with fail
          obtain ⟨b9, hb9⟩ : ∃ x, x = w2.heap.size := ⟨_, rfl⟩
          obtain ⟨w3, hw3⟩ : ∃ x, x = w2.alloc (.cells #[.int .i64 i1, .int .i64 i2, .int .i64 i3, .bool i4, .slice aL m cL, .int .i64 (i5 : Int)] 78) := ⟨_, rfl⟩
          have hB3 : Below w2.heap.size w2 w3 := by rw [hw3]; exact al (Below.refl _ _) _
          have K9 : Hid (Blk w3 b9 78 [.int .i64 i1, .int .i64 i2, .int .i64 i3, .bool i4, .slice aL m cL, .int .i64 (i5 : Int)]) := Lib.hid (by rw [hw3, hb9]; exact Blk.new w2 78 _)
          have K33 := Lib.hid (K3.out.below hB3 (Nat.le_refl _))
          have K63 := Lib.hid (K6.out.below hB3 (Nat.le_refl _))
          have HBB := Lib.hid (HB2.out.trans (hB3.mono HB2.out.size))
          have HN3 : Hid (b3 ≠ b9 ∧ b3 + 1 ≠ b9 ∧ w.heap.size ≤ b9) := Lib.hid (by have := K6.out.lt; have := HB2.out.size; omega)
          have HSM2 : Hid (m ≤ 2147483648) := Lib.hid (by rw [← HM.out]; exact len_room HSO.out)
          obtain ⟨bad, hbad⟩ : ∃ x : Bool, x = (decide (i2 < (ml : Int)) || (!i4 && decide (i2 < ((lvl s.L + ml : Nat) : Int)))) := ⟨_, rfl⟩
          have HBD := Lib.hid hbad
          rw [← hw3, ← hb9]
          clear hw3 hb9 hB3 k0 k1 k2 k33 k4 k5 d1 dl hbad
          have g0 := K9.out.at 0 rfl
          have g1 := K9.out.at 1 rfl
          have g2 := K9.out.at 2 rfl
          have g3 := K9.out.at 3 rfl
          have g4 := K9.out.at 4 rfl
          have g5 := K9.out.at 5 rfl
          have l9 := K9.out.lt
          go_cut [64] (fun v64 wx => v64 = .bool bad ∧ Hid (Blk wx b9 78 [.int .i64 i1, .int .i64 i2, .int .i64 i3, .bool i4, .slice aL m cL, .int .i64 (i5 : Int)]) ∧ Hid (Blk wx b3 45 [.int .i64 tk, .slice (some ⟨bR, oR, none⟩) n c]) ∧ Hid (Blk wx (b3 + 1) 45 [.int .i64 0, .slice none 0 0]) ∧ Hid (Below w.heap.size w wx))
          case first =>
            by_cases h1 : i2 < (ml : Int)
            · have p1 : decide (i2 < (ml : Int)) = true := decide_eq_true h1
              have HBT : Hid (bad = true) := Lib.hid (by rw [HBD.out, p1]; rfl)
              go_wp2_with (go_quiet (fail))
              go_meet
              exact ⟨congrArg Value.bool HBT.out.symm, Lib.hid (K9.out.drewN _), Lib.hid (K33.out.drewN _), Lib.hid (K63.out.drewN _), Lib.hid (HBB.out.trans (Quiet.below ⟨_, rfl⟩))⟩
            · have p1 : decide (i2 < (ml : Int)) = false := decide_eq_false h1
              cases i4 with
              | true =>
                have HBT : Hid (bad = false) := Lib.hid (by rw [HBD.out, p1]; rfl)
                go_wp2_with (go_quiet (fail))
                go_meet
                exact ⟨congrArg Value.bool HBT.out.symm, Lib.hid (K9.out.drewN _), Lib.hid (K33.out.drewN _), Lib.hid (K63.out.drewN _), Lib.hid (HBB.out.trans (Quiet.below ⟨_, rfl⟩))⟩
              | false =>
                obtain ⟨lv, hlv⟩ : ∃ x, x = lvl s.L := ⟨_, rfl⟩
                have HL2 := Lib.hid hlv.symm
                have hlb : lv ≤ 2147483648 := by have := HLV.out; omega
                have HPd : Hid (PkAt w3.drew aL s.L) := Lib.hid (HPK.out.low (HBB.out.trans (Quiet.below (w := w3) ⟨1, rfl⟩)))
                have hmb := HSM2.out
                have HLB : Hid (lvl s.L ≤ 2147483648) := Lib.hid (by rw [← hlv]; exact hlb)
                have j0 : IntKind.i64.wrap ((lv : Int) + (ml : Int)) = (lv : Int) + (ml : Int) := IntWalk.i64_in _ (by omega)
                clear hlv
                by_cases h2 : i2 < (lv : Int) + (ml : Int)
                · have p2 : decide (i2 < (lv : Int) + (ml : Int)) = true := decide_eq_true h2
                  have HBT : Hid (bad = true) := Lib.hid (by rw [HBD.out, p1, HL2.out]; show (false || (true && _)) = true; rw [show ((lv + ml : Nat) : Int) = (lv : Int) + (ml : Int) by omega, p2]; rfl)
                  refine wp_region_held_drew (S := (fun w' => w'.cell? ⟨b9, 0, none⟩ = some (.int .i64 i1) ∧ w'.cell? ⟨b9, 1, none⟩ = some (.int .i64 i2) ∧ w'.cell? ⟨b9, 2, none⟩ = some (.int .i64 i3) ∧ w'.cell? ⟨b9, 3, none⟩ = some (.bool false) ∧ w'.cell? ⟨b9, 4, none⟩ = some (.slice aL m cL) ∧ w'.cell? ⟨b9, 5, none⟩ = some (.int .i64 (i5 : Int)))) (by kernel_rfl) (by (try dsimp only); (first | exact ⟨by assumption, by assumption, by assumption, by assumption, by assumption, by assumption⟩ | go_keep)) (fun hHeld => ?_)
                  refine wpAnyH_take (i := 0) (oi := (Oper.mk (some 42) (Op.move (Operand.tmp 3)) 31 "ref.go:83" #[] none)) (v := ?_) rfl (by kernel_rfl) (by kernel_rfl) (by kernel_rfl) (fun _ _ _ h => h) (Or.inl ⟨by rfl, ?_⟩) (by assumption) ?_
                  rotate_left
                  · (intro w hSw; (try dsimp only at hSw); go_simp; first | done | with_reducible rfl)
                  (try simp only [Act.put, List.setIfInBounds_toArray, List.set_cons_zero, List.set_cons_succ])
                  refine wpAnyH_take (i := 1) (oi := (Oper.mk (some 43) (Op.call (Call.mk (Callee.builtin Builtin.len) #[Operand.tmp 42] #[31])) 3 "ref.go:83" #[Edge.mk 0 Ground.data] none)) (v := ?_) rfl (by kernel_rfl) (by kernel_rfl) (by kernel_rfl) (fun _ _ _ h => h) (Or.inl ⟨by rfl, ?_⟩) (by assumption) ?_
                  rotate_left
                  · (intro w hSw; (try dsimp only at hSw); go_simp; first | done | with_reducible rfl)
                  (try simp only [Act.put, List.setIfInBounds_toArray, List.set_cons_zero, List.set_cons_succ])
                  refine wpAnyH_take (i := 2) (oi := (Oper.mk (some 44) (Op.fieldAddr 78 (Operand.tmp 11) 0) 0 "ref.go:83" #[] none)) (v := ?_) rfl (by kernel_rfl) (by kernel_rfl) (by kernel_rfl) (fun _ _ _ h => h) (Or.inl ⟨by rfl, ?_⟩) (by assumption) ?_
                  rotate_left
                  · (intro w hSw; (try dsimp only at hSw); go_simp; first | done | with_reducible rfl)
                  (try simp only [Act.put, List.setIfInBounds_toArray, List.set_cons_zero, List.set_cons_succ])
                  refine wpAnyH_take (i := 3) (oi := (Oper.mk (some 45) (Op.fieldAddr 29 (Operand.tmp 44) 1) 0 "ref.go:83" #[Edge.mk 2 Ground.data] none)) (v := ?_) rfl (by kernel_rfl) (by kernel_rfl) (by kernel_rfl) (fun _ _ _ h => h) (Or.inl ⟨by rfl, ?_⟩) (by assumption) ?_
                  rotate_left
                  · (intro w hSw; (try dsimp only at hSw); go_simp; first | done | with_reducible rfl)
                  (try simp only [Act.put, List.setIfInBounds_toArray, List.set_cons_zero, List.set_cons_succ])
                  refine wpAnyH_take (i := 4) (oi := (Oper.mk (some 46) (Op.load 3 (Operand.tmp 45)) 3 "ref.go:83" #[Edge.mk 3 Ground.data] none)) (v := ?_) rfl (by kernel_rfl) (by kernel_rfl) (by kernel_rfl) (fun _ _ _ h => h) (Or.inl ⟨by rfl, ?_⟩) (by assumption) ?_
                  rotate_left
                  · (intro w hSw; (try dsimp only at hSw); go_simp; first | done | with_reducible rfl)
                  (try simp only [Act.put, List.setIfInBounds_toArray, List.set_cons_zero, List.set_cons_succ])
                  refine wpAnyH_take (i := 5) (oi := (Oper.mk (some 47) (Op.binOp BinOp.gtr 3 (Operand.tmp 43) (Operand.tmp 46) 3) 4 "ref.go:83" #[Edge.mk 1 Ground.data, Edge.mk 4 Ground.data] none)) (v := ?_) rfl (by kernel_rfl) (by kernel_rfl) (by kernel_rfl) (fun _ _ _ h => h) (Or.inl ⟨by rfl, ?_⟩) (by assumption) ?_
                  rotate_left
                  · (intro w hSw; (try dsimp only at hSw); go_simp; first | done | with_reducible rfl)
                  (try simp only [Act.put, List.setIfInBounds_toArray, List.set_cons_zero, List.set_cons_succ])
                  refine wpAnyH_take (i := 6) (oi := (Oper.mk (some 48) (Op.move (Operand.tmp 47)) 4 "ref.go:83" #[Edge.mk 5 Ground.data] none)) (v := ?_) rfl (by kernel_rfl) (by kernel_rfl) (by kernel_rfl) (fun _ _ _ h => h) (Or.inl ⟨by rfl, ?_⟩) (by assumption) ?_
                  rotate_left
                  · (intro w hSw; (try dsimp only at hSw); go_simp; first | done | with_reducible rfl)
                  (try simp only [Act.put, List.setIfInBounds_toArray, List.set_cons_zero, List.set_cons_succ])
                  refine wpAnyH_take (i := 7) (oi := (Oper.mk (some 49) (Op.fieldAddr 78 (Operand.tmp 11) 0) 0 "ref.go:83" #[Edge.mk 6 Ground.guard] (some (6, false)))) (v := ?_) rfl (by kernel_rfl) (by kernel_rfl) (by kernel_rfl) (fun _ _ _ h => h) (Or.inl ⟨by rfl, ?_⟩) (by assumption) ?_
                  rotate_left
                  · (intro w hSw; (try dsimp only at hSw); go_simp; first | done | with_reducible rfl)
                  (try simp only [Act.put, List.setIfInBounds_toArray, List.set_cons_zero, List.set_cons_succ])
                  refine wpAnyH_take (i := 8) (oi := (Oper.mk (some 50) (Op.fieldAddr 29 (Operand.tmp 49) 3) 0 "ref.go:83" #[Edge.mk 7 Ground.data, Edge.mk 6 Ground.guard] (some (6, false)))) (v := ?_) rfl (by kernel_rfl) (by kernel_rfl) (by kernel_rfl) (fun _ _ _ h => h) (Or.inl ⟨by rfl, ?_⟩) (by assumption) ?_
                  rotate_left
                  · (intro w hSw; (try dsimp only at hSw); go_simp; first | done | with_reducible rfl)
                  (try simp only [Act.put, List.setIfInBounds_toArray, List.set_cons_zero, List.set_cons_succ])
                  refine wpAnyH_take (i := 9) (oi := (Oper.mk (some 51) (Op.load 4 (Operand.tmp 50)) 4 "ref.go:83" #[Edge.mk 8 Ground.data, Edge.mk 6 Ground.guard] (some (6, false)))) (v := ?_) rfl (by kernel_rfl) (by kernel_rfl) (by kernel_rfl) (fun _ _ _ h => h) (Or.inl ⟨by rfl, ?_⟩) (by assumption) ?_
                  rotate_left
                  · (intro w hSw; (try dsimp only at hSw); go_simp; first | done | with_reducible rfl)
                  (try simp only [Act.put, List.setIfInBounds_toArray, List.set_cons_zero, List.set_cons_succ])
                  refine wpAnyH_take (i := 10) (oi := (Oper.mk (some 52) (Op.unOp UnOp.not 4 (Operand.tmp 51)) 4 "ref.go:83" #[Edge.mk 9 Ground.data, Edge.mk 6 Ground.guard] (some (6, false)))) (v := ?_) rfl (by kernel_rfl) (by kernel_rfl) (by kernel_rfl) (fun _ _ _ h => h) (Or.inl ⟨by rfl, ?_⟩) (by assumption) ?_
                  rotate_left
                  · (intro w hSw; (try dsimp only at hSw); go_simp; first | done | with_reducible rfl)
                  (try simp only [Act.put, List.setIfInBounds_toArray, List.set_cons_zero, List.set_cons_succ])
                  refine wpAnyH_take (i := 11) (oi := (Oper.mk (some 53) (Op.move (Operand.tmp 52)) 4 "ref.go:83" #[Edge.mk 10 Ground.data, Edge.mk 6 Ground.chain, Edge.mk 6 Ground.guard] (some (6, false)))) (v := ?_) rfl (by kernel_rfl) (by kernel_rfl) (by kernel_rfl) (fun _ _ _ h => h) (Or.inl ⟨by rfl, ?_⟩) (by assumption) ?_
                  rotate_left
                  · (intro w hSw; (try dsimp only at hSw); go_simp; first | done | with_reducible rfl)
                  (try simp only [Act.put, List.setIfInBounds_toArray, List.set_cons_zero, List.set_cons_succ])
                  refine wpAnyH_take (i := 12) (oi := (Oper.mk (some 54) (Op.load 78 (Operand.tmp 11)) 78 "ref.go:83" #[Edge.mk 11 Ground.guard] (some (11, true)))) (v := ?_) rfl (by kernel_rfl) (by kernel_rfl) (by kernel_rfl) (fun _ _ _ h => h) (Or.inl ⟨by rfl, ?_⟩) (by assumption) ?_
                  rotate_left
                  · (intro w hSw; (try dsimp only at hSw); go_simp; first | done | with_reducible rfl)
                  (try simp only [Act.put, List.setIfInBounds_toArray, List.set_cons_zero, List.set_cons_succ])
                  refine wpAnyH_take (i := 14) (oi := (Oper.mk (some 56) (Op.move (Operand.tmp 3)) 31 "ref.go:83" #[Edge.mk 11 Ground.guard] (some (11, true)))) (v := ?_) rfl (by kernel_rfl) (by kernel_rfl) (by kernel_rfl) (fun _ _ _ h => h) (Or.inl ⟨by rfl, ?_⟩) (by assumption) ?_
                  rotate_left
                  · (intro w hSw; (try dsimp only at hSw); go_simp; first | done | with_reducible rfl)
                  (try simp only [Act.put, List.setIfInBounds_toArray, List.set_cons_zero, List.set_cons_succ])
                  refine wpAnyH_take (i := 15) (oi := (Oper.mk (some 57) (Op.call (Call.mk (Callee.builtin Builtin.len) #[Operand.tmp 56] #[31])) 3 "ref.go:83" #[Edge.mk 14 Ground.data, Edge.mk 11 Ground.guard] (some (11, true)))) (v := ?_) rfl (by kernel_rfl) (by kernel_rfl) (by kernel_rfl) (fun _ _ _ h => h) (Or.inl ⟨by rfl, ?_⟩) (by assumption) ?_
                  rotate_left
                  · (intro w hSw; (try dsimp only at hSw); go_simp; first | done | with_reducible rfl)
                  (try simp only [Act.put, List.setIfInBounds_toArray, List.set_cons_zero, List.set_cons_succ])
                  refine wpAnyH_take (i := 17) (oi := (Oper.mk (some 59) (Op.fieldAddr 78 (Operand.tmp 11) 0) 0 "ref.go:83" #[Edge.mk 11 Ground.guard] (some (11, true)))) (v := ?_) rfl (by kernel_rfl) (by kernel_rfl) (by kernel_rfl) (fun _ _ _ h => h) (Or.inl ⟨by rfl, ?_⟩) (by assumption) ?_
                  rotate_left
                  · (intro w hSw; (try dsimp only at hSw); go_simp; first | done | with_reducible rfl)
                  (try simp only [Act.put, List.setIfInBounds_toArray, List.set_cons_zero, List.set_cons_succ])
                  refine wpAnyH_take (i := 18) (oi := (Oper.mk (some 60) (Op.fieldAddr 29 (Operand.tmp 59) 1) 0 "ref.go:83" #[Edge.mk 17 Ground.data, Edge.mk 11 Ground.guard] (some (11, true)))) (v := ?_) rfl (by kernel_rfl) (by kernel_rfl) (by kernel_rfl) (fun _ _ _ h => h) (Or.inl ⟨by rfl, ?_⟩) (by assumption) ?_
                  rotate_left
                  · (intro w hSw; (try dsimp only at hSw); go_simp; first | done | with_reducible rfl)
                  (try simp only [Act.put, List.setIfInBounds_toArray, List.set_cons_zero, List.set_cons_succ])
                  refine wpAnyH_take (i := 19) (oi := (Oper.mk (some 61) (Op.load 3 (Operand.tmp 60)) 3 "ref.go:83" #[Edge.mk 18 Ground.data, Edge.mk 11 Ground.guard] (some (11, true)))) (v := ?_) rfl (by kernel_rfl) (by kernel_rfl) (by kernel_rfl) (fun _ _ _ h => h) (Or.inl ⟨by rfl, ?_⟩) (by assumption) ?_
                  rotate_left
                  · (intro w hSw; (try dsimp only at hSw); go_simp; first | done | with_reducible rfl)
                  (try simp only [Act.put, List.setIfInBounds_toArray, List.set_cons_zero, List.set_cons_succ])
                  refine wpAnyH_ready (rs := [13]) (by kernel_rfl) (by simp) ?_
                  refine AllReadyH.cons (o := (Oper.mk (some 55) (Op.call (Call.mk (Callee.value (Operand.func 30)) #[Operand.tmp 54] #[78])) 3 "ref.go:83" #[Edge.mk 12 Ground.data, Edge.mk 11 Ground.chain, Edge.mk 11 Ground.guard] (some (11, true)))) rfl (fun K hK => ?_) (AllReadyH.nil)
                  go_simp
                  (go_at_call 30; refine (rlevel_any i1 i2 i3 false (i5 : Int) HPd.out HM.out HLB.out hmb q5 q6).mono ?_; rintro e w5 ⟨he, hB5⟩; rw [HL2.out] at he; subst he; have HB5 := Lib.hid (undrew hB5); have K95 := Lib.hid (K9.out.below HB5.out (Nat.le_refl _)); have g0 := K95.out.at 0 rfl; have g1 := K95.out.at 1 rfl; have g2 := K95.out.at 2 rfl; have g3 := K95.out.at 3 rfl; have g4 := K95.out.at 4 rfl; have g5 := K95.out.at 5 rfl; clear hB5)
                  refine hK.out _ _ (by (try dsimp only); (first | exact ⟨by assumption, by assumption, by assumption, by assumption, by assumption, by assumption⟩ | go_keep)) (fun hHeld => ?_)
                  clear hK K
                  (try simp only [Act.put, List.setIfInBounds_toArray, List.set_cons_zero, List.set_cons_succ])
                  refine wpAnyH_take (i := 16) (oi := (Oper.mk (some 58) (Op.binOp BinOp.add 3 (Operand.tmp 55) (Operand.tmp 57) 3) 3 "ref.go:83" #[Edge.mk 13 Ground.data, Edge.mk 15 Ground.data, Edge.mk 11 Ground.guard] (some (11, true)))) (v := ?_) rfl (by kernel_rfl) (by kernel_rfl) (by kernel_rfl) (fun _ _ _ h => h) (Or.inl ⟨by rfl, ?_⟩) (by assumption) ?_
                  rotate_left
                  · (intro w hSw; (try dsimp only at hSw); go_simp; first | done | with_reducible rfl)
                  (try simp only [Act.put, List.setIfInBounds_toArray, List.set_cons_zero, List.set_cons_succ])
                  refine wpAnyH_take (i := 20) (oi := (Oper.mk (some 62) (Op.binOp BinOp.gtr 3 (Operand.tmp 58) (Operand.tmp 61) 3) 4 "ref.go:83" #[Edge.mk 16 Ground.data, Edge.mk 19 Ground.data, Edge.mk 11 Ground.guard] (some (11, true)))) (v := ?_) rfl (by kernel_rfl) (by kernel_rfl) (by kernel_rfl) (fun _ _ _ h => h) (Or.inl ⟨by rfl, ?_⟩) (by assumption) ?_
                  rotate_left
                  · (intro w hSw; (try dsimp only at hSw); go_simp; first | done | with_reducible rfl)
                  (try simp only [Act.put, List.setIfInBounds_toArray, List.set_cons_zero, List.set_cons_succ])
                  refine wpAnyH_take (i := 21) (oi := (Oper.mk (some 63) (Op.pick (Operand.tmp 53) (Operand.tmp 62) (Operand.const (Value.bool false))) 4 "ref.go:83" #[Edge.mk 11 Ground.data, Edge.mk 20 Ground.data, Edge.mk 6 Ground.guard] (some (6, false)))) (v := ?_) rfl (by kernel_rfl) (by kernel_rfl) (by kernel_rfl) (fun _ _ _ h => h) (Or.inl ⟨by rfl, ?_⟩) (by assumption) ?_
                  rotate_left
                  · (intro w hSw; (try dsimp only at hSw); go_simp; first | done | with_reducible rfl)
                  (try simp only [Act.put, List.setIfInBounds_toArray, List.set_cons_zero, List.set_cons_succ])
                  refine wpAnyH_take (i := 22) (oi := (Oper.mk (some 64) (Op.pick (Operand.tmp 48) (Operand.const (Value.bool true)) (Operand.tmp 63)) 4 "ref.go:83" #[Edge.mk 6 Ground.data, Edge.mk 21 Ground.data] none)) (v := ?_) rfl (by kernel_rfl) (by kernel_rfl) (by kernel_rfl) (fun _ _ _ h => h) (Or.inl ⟨by rfl, ?_⟩) (by assumption) ?_
                  rotate_left
                  · (intro w hSw; (try dsimp only at hSw); go_simp; first | done | with_reducible rfl)
                  (try simp only [Act.put, List.setIfInBounds_toArray, List.set_cons_zero, List.set_cons_succ])
                  refine wpAnyH_done (by kernel_rfl) ?_ _
                  all_goals
                    go_wp2_with fail
                    go_meet
                    exact ⟨congrArg Value.bool HBT.out.symm, K95, Lib.hid (K33.out.below HB5.out (Nat.le_refl _)), Lib.hid (K63.out.below HB5.out (Nat.le_refl _)), Lib.hid (HBB.out.trans (HB5.out.mono HBB.out.size))⟩
                · have p2 : decide (i2 < (lv : Int) + (ml : Int)) = false := decide_eq_false h2
                  have HBT : Hid (bad = false) := Lib.hid (by rw [HBD.out, p1, HL2.out]; show (false || (true && _)) = false; rw [show ((lv + ml : Nat) : Int) = (lv : Int) + (ml : Int) by omega, p2]; rfl)
                  refine wp_region_held_drew (S := (fun w' => w'.cell? ⟨b9, 0, none⟩ = some (.int .i64 i1) ∧ w'.cell? ⟨b9, 1, none⟩ = some (.int .i64 i2) ∧ w'.cell? ⟨b9, 2, none⟩ = some (.int .i64 i3) ∧ w'.cell? ⟨b9, 3, none⟩ = some (.bool false) ∧ w'.cell? ⟨b9, 4, none⟩ = some (.slice aL m cL) ∧ w'.cell? ⟨b9, 5, none⟩ = some (.int .i64 (i5 : Int)))) (by kernel_rfl) (by (try dsimp only); (first | exact ⟨by assumption, by assumption, by assumption, by assumption, by assumption, by assumption⟩ | go_keep)) (fun hHeld => ?_)
                  refine wpAnyH_take (i := 0) (oi := (Oper.mk (some 42) (Op.move (Operand.tmp 3)) 31 "ref.go:83" #[] none)) (v := ?_) rfl (by kernel_rfl) (by kernel_rfl) (by kernel_rfl) (fun _ _ _ h => h) (Or.inl ⟨by rfl, ?_⟩) (by assumption) ?_
                  rotate_left
                  · (intro w hSw; (try dsimp only at hSw); go_simp; first | done | with_reducible rfl)
                  (try simp only [Act.put, List.setIfInBounds_toArray, List.set_cons_zero, List.set_cons_succ])
                  refine wpAnyH_take (i := 1) (oi := (Oper.mk (some 43) (Op.call (Call.mk (Callee.builtin Builtin.len) #[Operand.tmp 42] #[31])) 3 "ref.go:83" #[Edge.mk 0 Ground.data] none)) (v := ?_) rfl (by kernel_rfl) (by kernel_rfl) (by kernel_rfl) (fun _ _ _ h => h) (Or.inl ⟨by rfl, ?_⟩) (by assumption) ?_
                  rotate_left
                  · (intro w hSw; (try dsimp only at hSw); go_simp; first | done | with_reducible rfl)
                  (try simp only [Act.put, List.setIfInBounds_toArray, List.set_cons_zero, List.set_cons_succ])
                  refine wpAnyH_take (i := 2) (oi := (Oper.mk (some 44) (Op.fieldAddr 78 (Operand.tmp 11) 0) 0 "ref.go:83" #[] none)) (v := ?_) rfl (by kernel_rfl) (by kernel_rfl) (by kernel_rfl) (fun _ _ _ h => h) (Or.inl ⟨by rfl, ?_⟩) (by assumption) ?_
                  rotate_left
                  · (intro w hSw; (try dsimp only at hSw); go_simp; first | done | with_reducible rfl)
                  (try simp only [Act.put, List.setIfInBounds_toArray, List.set_cons_zero, List.set_cons_succ])
                  refine wpAnyH_take (i := 3) (oi := (Oper.mk (some 45) (Op.fieldAddr 29 (Operand.tmp 44) 1) 0 "ref.go:83" #[Edge.mk 2 Ground.data] none)) (v := ?_) rfl (by kernel_rfl) (by kernel_rfl) (by kernel_rfl) (fun _ _ _ h => h) (Or.inl ⟨by rfl, ?_⟩) (by assumption) ?_
                  rotate_left
                  · (intro w hSw; (try dsimp only at hSw); go_simp; first | done | with_reducible rfl)
                  (try simp only [Act.put, List.setIfInBounds_toArray, List.set_cons_zero, List.set_cons_succ])
                  refine wpAnyH_take (i := 4) (oi := (Oper.mk (some 46) (Op.load 3 (Operand.tmp 45)) 3 "ref.go:83" #[Edge.mk 3 Ground.data] none)) (v := ?_) rfl (by kernel_rfl) (by kernel_rfl) (by kernel_rfl) (fun _ _ _ h => h) (Or.inl ⟨by rfl, ?_⟩) (by assumption) ?_
                  rotate_left
                  · (intro w hSw; (try dsimp only at hSw); go_simp; first | done | with_reducible rfl)
                  (try simp only [Act.put, List.setIfInBounds_toArray, List.set_cons_zero, List.set_cons_succ])
                  refine wpAnyH_take (i := 5) (oi := (Oper.mk (some 47) (Op.binOp BinOp.gtr 3 (Operand.tmp 43) (Operand.tmp 46) 3) 4 "ref.go:83" #[Edge.mk 1 Ground.data, Edge.mk 4 Ground.data] none)) (v := ?_) rfl (by kernel_rfl) (by kernel_rfl) (by kernel_rfl) (fun _ _ _ h => h) (Or.inl ⟨by rfl, ?_⟩) (by assumption) ?_
                  rotate_left
                  · (intro w hSw; (try dsimp only at hSw); go_simp; first | done | with_reducible rfl)
                  (try simp only [Act.put, List.setIfInBounds_toArray, List.set_cons_zero, List.set_cons_succ])
                  refine wpAnyH_take (i := 6) (oi := (Oper.mk (some 48) (Op.move (Operand.tmp 47)) 4 "ref.go:83" #[Edge.mk 5 Ground.data] none)) (v := ?_) rfl (by kernel_rfl) (by kernel_rfl) (by kernel_rfl) (fun _ _ _ h => h) (Or.inl ⟨by rfl, ?_⟩) (by assumption) ?_
                  rotate_left
                  · (intro w hSw; (try dsimp only at hSw); go_simp; first | done | with_reducible rfl)
                  (try simp only [Act.put, List.setIfInBounds_toArray, List.set_cons_zero, List.set_cons_succ])
                  refine wpAnyH_take (i := 7) (oi := (Oper.mk (some 49) (Op.fieldAddr 78 (Operand.tmp 11) 0) 0 "ref.go:83" #[Edge.mk 6 Ground.guard] (some (6, false)))) (v := ?_) rfl (by kernel_rfl) (by kernel_rfl) (by kernel_rfl) (fun _ _ _ h => h) (Or.inl ⟨by rfl, ?_⟩) (by assumption) ?_
                  rotate_left
                  · (intro w hSw; (try dsimp only at hSw); go_simp; first | done | with_reducible rfl)
                  (try simp only [Act.put, List.setIfInBounds_toArray, List.set_cons_zero, List.set_cons_succ])
                  refine wpAnyH_take (i := 8) (oi := (Oper.mk (some 50) (Op.fieldAddr 29 (Operand.tmp 49) 3) 0 "ref.go:83" #[Edge.mk 7 Ground.data, Edge.mk 6 Ground.guard] (some (6, false)))) (v := ?_) rfl (by kernel_rfl) (by kernel_rfl) (by kernel_rfl) (fun _ _ _ h => h) (Or.inl ⟨by rfl, ?_⟩) (by assumption) ?_
                  rotate_left
                  · (intro w hSw; (try dsimp only at hSw); go_simp; first | done | with_reducible rfl)
                  (try simp only [Act.put, List.setIfInBounds_toArray, List.set_cons_zero, List.set_cons_succ])
                  refine wpAnyH_take (i := 9) (oi := (Oper.mk (some 51) (Op.load 4 (Operand.tmp 50)) 4 "ref.go:83" #[Edge.mk 8 Ground.data, Edge.mk 6 Ground.guard] (some (6, false)))) (v := ?_) rfl (by kernel_rfl) (by kernel_rfl) (by kernel_rfl) (fun _ _ _ h => h) (Or.inl ⟨by rfl, ?_⟩) (by assumption) ?_
                  rotate_left
                  · (intro w hSw; (try dsimp only at hSw); go_simp; first | done | with_reducible rfl)
                  (try simp only [Act.put, List.setIfInBounds_toArray, List.set_cons_zero, List.set_cons_succ])
                  refine wpAnyH_take (i := 10) (oi := (Oper.mk (some 52) (Op.unOp UnOp.not 4 (Operand.tmp 51)) 4 "ref.go:83" #[Edge.mk 9 Ground.data, Edge.mk 6 Ground.guard] (some (6, false)))) (v := ?_) rfl (by kernel_rfl) (by kernel_rfl) (by kernel_rfl) (fun _ _ _ h => h) (Or.inl ⟨by rfl, ?_⟩) (by assumption) ?_
                  rotate_left
                  · (intro w hSw; (try dsimp only at hSw); go_simp; first | done | with_reducible rfl)
                  (try simp only [Act.put, List.setIfInBounds_toArray, List.set_cons_zero, List.set_cons_succ])
                  refine wpAnyH_take (i := 11) (oi := (Oper.mk (some 53) (Op.move (Operand.tmp 52)) 4 "ref.go:83" #[Edge.mk 10 Ground.data, Edge.mk 6 Ground.chain, Edge.mk 6 Ground.guard] (some (6, false)))) (v := ?_) rfl (by kernel_rfl) (by kernel_rfl) (by kernel_rfl) (fun _ _ _ h => h) (Or.inl ⟨by rfl, ?_⟩) (by assumption) ?_
                  rotate_left
                  · (intro w hSw; (try dsimp only at hSw); go_simp; first | done | with_reducible rfl)
                  (try simp only [Act.put, List.setIfInBounds_toArray, List.set_cons_zero, List.set_cons_succ])
                  refine wpAnyH_take (i := 12) (oi := (Oper.mk (some 54) (Op.load 78 (Operand.tmp 11)) 78 "ref.go:83" #[Edge.mk 11 Ground.guard] (some (11, true)))) (v := ?_) rfl (by kernel_rfl) (by kernel_rfl) (by kernel_rfl) (fun _ _ _ h => h) (Or.inl ⟨by rfl, ?_⟩) (by assumption) ?_
                  rotate_left
                  · (intro w hSw; (try dsimp only at hSw); go_simp; first | done | with_reducible rfl)
                  (try simp only [Act.put, List.setIfInBounds_toArray, List.set_cons_zero, List.set_cons_succ])
                  refine wpAnyH_take (i := 14) (oi := (Oper.mk (some 56) (Op.move (Operand.tmp 3)) 31 "ref.go:83" #[Edge.mk 11 Ground.guard] (some (11, true)))) (v := ?_) rfl (by kernel_rfl) (by kernel_rfl) (by kernel_rfl) (fun _ _ _ h => h) (Or.inl ⟨by rfl, ?_⟩) (by assumption) ?_
                  rotate_left
                  · (intro w hSw; (try dsimp only at hSw); go_simp; first | done | with_reducible rfl)
                  (try simp only [Act.put, List.setIfInBounds_toArray, List.set_cons_zero, List.set_cons_succ])
                  refine wpAnyH_take (i := 15) (oi := (Oper.mk (some 57) (Op.call (Call.mk (Callee.builtin Builtin.len) #[Operand.tmp 56] #[31])) 3 "ref.go:83" #[Edge.mk 14 Ground.data, Edge.mk 11 Ground.guard] (some (11, true)))) (v := ?_) rfl (by kernel_rfl) (by kernel_rfl) (by kernel_rfl) (fun _ _ _ h => h) (Or.inl ⟨by rfl, ?_⟩) (by assumption) ?_
                  rotate_left
                  · (intro w hSw; (try dsimp only at hSw); go_simp; first | done | with_reducible rfl)
                  (try simp only [Act.put, List.setIfInBounds_toArray, List.set_cons_zero, List.set_cons_succ])
                  refine wpAnyH_take (i := 17) (oi := (Oper.mk (some 59) (Op.fieldAddr 78 (Operand.tmp 11) 0) 0 "ref.go:83" #[Edge.mk 11 Ground.guard] (some (11, true)))) (v := ?_) rfl (by kernel_rfl) (by kernel_rfl) (by kernel_rfl) (fun _ _ _ h => h) (Or.inl ⟨by rfl, ?_⟩) (by assumption) ?_
                  rotate_left
                  · (intro w hSw; (try dsimp only at hSw); go_simp; first | done | with_reducible rfl)
                  (try simp only [Act.put, List.setIfInBounds_toArray, List.set_cons_zero, List.set_cons_succ])
                  refine wpAnyH_take (i := 18) (oi := (Oper.mk (some 60) (Op.fieldAddr 29 (Operand.tmp 59) 1) 0 "ref.go:83" #[Edge.mk 17 Ground.data, Edge.mk 11 Ground.guard] (some (11, true)))) (v := ?_) rfl (by kernel_rfl) (by kernel_rfl) (by kernel_rfl) (fun _ _ _ h => h) (Or.inl ⟨by rfl, ?_⟩) (by assumption) ?_
                  rotate_left
                  · (intro w hSw; (try dsimp only at hSw); go_simp; first | done | with_reducible rfl)
                  (try simp only [Act.put, List.setIfInBounds_toArray, List.set_cons_zero, List.set_cons_succ])
                  refine wpAnyH_take (i := 19) (oi := (Oper.mk (some 61) (Op.load 3 (Operand.tmp 60)) 3 "ref.go:83" #[Edge.mk 18 Ground.data, Edge.mk 11 Ground.guard] (some (11, true)))) (v := ?_) rfl (by kernel_rfl) (by kernel_rfl) (by kernel_rfl) (fun _ _ _ h => h) (Or.inl ⟨by rfl, ?_⟩) (by assumption) ?_
                  rotate_left
                  · (intro w hSw; (try dsimp only at hSw); go_simp; first | done | with_reducible rfl)
                  (try simp only [Act.put, List.setIfInBounds_toArray, List.set_cons_zero, List.set_cons_succ])
                  refine wpAnyH_ready (rs := [13]) (by kernel_rfl) (by simp) ?_
                  refine AllReadyH.cons (o := (Oper.mk (some 55) (Op.call (Call.mk (Callee.value (Operand.func 30)) #[Operand.tmp 54] #[78])) 3 "ref.go:83" #[Edge.mk 12 Ground.data, Edge.mk 11 Ground.chain, Edge.mk 11 Ground.guard] (some (11, true)))) rfl (fun K hK => ?_) (AllReadyH.nil)
                  go_simp
                  (go_at_call 30; refine (rlevel_any i1 i2 i3 false (i5 : Int) HPd.out HM.out HLB.out hmb q5 q6).mono ?_; rintro e w5 ⟨he, hB5⟩; rw [HL2.out] at he; subst he; have HB5 := Lib.hid (undrew hB5); have K95 := Lib.hid (K9.out.below HB5.out (Nat.le_refl _)); have g0 := K95.out.at 0 rfl; have g1 := K95.out.at 1 rfl; have g2 := K95.out.at 2 rfl; have g3 := K95.out.at 3 rfl; have g4 := K95.out.at 4 rfl; have g5 := K95.out.at 5 rfl; clear hB5)
                  refine hK.out _ _ (by (try dsimp only); (first | exact ⟨by assumption, by assumption, by assumption, by assumption, by assumption, by assumption⟩ | go_keep)) (fun hHeld => ?_)
                  clear hK K
                  (try simp only [Act.put, List.setIfInBounds_toArray, List.set_cons_zero, List.set_cons_succ])
                  refine wpAnyH_take (i := 16) (oi := (Oper.mk (some 58) (Op.binOp BinOp.add 3 (Operand.tmp 55) (Operand.tmp 57) 3) 3 "ref.go:83" #[Edge.mk 13 Ground.data, Edge.mk 15 Ground.data, Edge.mk 11 Ground.guard] (some (11, true)))) (v := ?_) rfl (by kernel_rfl) (by kernel_rfl) (by kernel_rfl) (fun _ _ _ h => h) (Or.inl ⟨by rfl, ?_⟩) (by assumption) ?_
                  rotate_left
                  · (intro w hSw; (try dsimp only at hSw); go_simp; first | done | with_reducible rfl)
                  (try simp only [Act.put, List.setIfInBounds_toArray, List.set_cons_zero, List.set_cons_succ])
                  refine wpAnyH_take (i := 20) (oi := (Oper.mk (some 62) (Op.binOp BinOp.gtr 3 (Operand.tmp 58) (Operand.tmp 61) 3) 4 "ref.go:83" #[Edge.mk 16 Ground.data, Edge.mk 19 Ground.data, Edge.mk 11 Ground.guard] (some (11, true)))) (v := ?_) rfl (by kernel_rfl) (by kernel_rfl) (by kernel_rfl) (fun _ _ _ h => h) (Or.inl ⟨by rfl, ?_⟩) (by assumption) ?_
                  rotate_left
                  · (intro w hSw; (try dsimp only at hSw); go_simp; first | done | with_reducible rfl)
                  (try simp only [Act.put, List.setIfInBounds_toArray, List.set_cons_zero, List.set_cons_succ])
                  refine wpAnyH_take (i := 21) (oi := (Oper.mk (some 63) (Op.pick (Operand.tmp 53) (Operand.tmp 62) (Operand.const (Value.bool false))) 4 "ref.go:83" #[Edge.mk 11 Ground.data, Edge.mk 20 Ground.data, Edge.mk 6 Ground.guard] (some (6, false)))) (v := ?_) rfl (by kernel_rfl) (by kernel_rfl) (by kernel_rfl) (fun _ _ _ h => h) (Or.inl ⟨by rfl, ?_⟩) (by assumption) ?_
                  rotate_left
                  · (intro w hSw; (try dsimp only at hSw); go_simp; first | done | with_reducible rfl)
                  (try simp only [Act.put, List.setIfInBounds_toArray, List.set_cons_zero, List.set_cons_succ])
                  refine wpAnyH_take (i := 22) (oi := (Oper.mk (some 64) (Op.pick (Operand.tmp 48) (Operand.const (Value.bool true)) (Operand.tmp 63)) 4 "ref.go:83" #[Edge.mk 6 Ground.data, Edge.mk 21 Ground.data] none)) (v := ?_) rfl (by kernel_rfl) (by kernel_rfl) (by kernel_rfl) (fun _ _ _ h => h) (Or.inl ⟨by rfl, ?_⟩) (by assumption) ?_
                  rotate_left
                  · (intro w hSw; (try dsimp only at hSw); go_simp; first | done | with_reducible rfl)
                  (try simp only [Act.put, List.setIfInBounds_toArray, List.set_cons_zero, List.set_cons_succ])
                  refine wpAnyH_done (by kernel_rfl) ?_ _
                  all_goals
                    go_wp2_with fail
                    go_meet
                    exact ⟨congrArg Value.bool HBT.out.symm, K95, Lib.hid (K33.out.below HB5.out (Nat.le_refl _)), Lib.hid (K63.out.below HB5.out (Nat.le_refl _)), Lib.hid (HBB.out.trans (HB5.out.mono HBB.out.size))⟩
          case rest =>
            obtain ⟨rfl, J9, J3, J6, JB⟩ := hcut
            clear g0 g1 g2 g3 g4 g5 l9
            obtain ⟨wq, hwq⟩ : ∃ x, x = wc := ⟨wc, rfl⟩
            subst hwq
            cases bad with
            | true =>
              have HFU : Hid (s.room < (l.length : Int) ∨ s.circ = false ∧ s.room < (lvl s.L + l.length : Nat)) := Lib.hid (by
                have h9 := HBD.out.symm
                simp only [Bool.or_eq_true, Bool.and_eq_true, decide_eq_true_eq, Bool.not_eq_true'] at h9
                obtain ⟨-, z2, -, z4, -⟩ := HI.out
                rw [← z2, ← z4, HML.out]
                exact h9)
              have HF : Hid (r.add id now l = (r1, 7)) := Lib.hid (by
                rw [HSA.out]
                unfold St.add
                rw [if_neg (by rw [HML.out]; exact HBL.out), if_pos HFU.out]
                dsimp only
                rw [RS.put_self HS.out])
              have HB2 := JB
              have K6 := J6
              have d0 := J3.out.at 0 rfl
              have d1 := J3.out.at 1 rfl
              have dl := J3.out.lt
              have t0 := J6.out.at 0 rfl
              have t1 := J6.out.at 1 rfl
              have tf0 := J6.out.free 0
              have tf1 := J6.out.free 1
              have tl := J6.out.lt
              go_wp2_with fail
              obtain ⟨wb, hwb⟩ : ∃ x, x = (wq.setCell ⟨b3 + 1, 0, none⟩ (.int .i64 tk)).setCell ⟨b3 + 1, 1, none⟩ (.slice (some ⟨bR, oR, none⟩) n c) := ⟨_, rfl⟩
              have hBb : Below w.heap.size w wb := by
                rw [hwb]
                exact (HB2.out.setCell (p := ⟨b3 + 1, 0, none⟩) (by show w.heap.size ≤ b3 + 1; rw [HB3.out]; omega) _).setCell (p := ⟨b3 + 1, 1, none⟩) (by show w.heap.size ≤ b3 + 1; rw [HB3.out]; omega) _
              have h6b : Blk wb (b3 + 1) 45 [.int .i64 tk, .slice (some ⟨bR, oR, none⟩) n c] := by
                rw [hwb]
                exact Blk.cast ((K6.out.setCell 0 (.int .i64 tk)).setCell 1 (.slice (some ⟨bR, oR, none⟩) n c)) rfl
              have r0 := h6b.at 0 rfl
              have r1 := h6b.at 1 rfl
              rw [← hwb]
              exact bodyPost_ret (v := .tuple #[.agg #[.int .i64 tk, .slice (some ⟨bR, oR, none⟩) n c], .int .i64 7]) (by simp [results, Try.f17, go_sem, r0, r1]) rfl ⟨(some ⟨bR, oR, none⟩), n, c, by rw [HF.out, HTN.out], by rw [HF.out]; exact H.out.low hBb, hBb⟩
            | false =>
              have HNF : Hid (¬ (s.room < (l.length : Int) ∨ s.circ = false ∧ s.room < (lvl s.L + l.length : Nat))) := Lib.hid (by
                have h8 : ¬ ((decide (i2 < (ml : Int)) || (!i4 && decide (i2 < ((lvl s.L + ml : Nat) : Int)))) = true) := by rw [← HBD.out]; exact Bool.false_ne_true
                simp only [Bool.or_eq_true, Bool.and_eq_true, decide_eq_true_eq, Bool.not_eq_true'] at h8
                obtain ⟨-, z2, -, z4, -⟩ := HI.out
                rw [← z2, ← z4, HML.out]
                exact h8)
              have hnr : ¬ i2 < (ml : Int) := fun e => HNF.out (.inl (by obtain ⟨-, z2, -, z4, -⟩ := HI.out; rw [← z2, HML.out]; exact e))
              have HSH0 : Hid (shed ml i2 s.L s.drop = shed ml i2 (s.L.drop 0) i5) := Lib.hid (by rw [HI.out.2.2.2.2]; rfl)
              go_wp2_with fail
              go_loopg [] (m + 1) (fun gk wr => ∃ (k mk dk : Nat) (aK : Option Addr) (cK : Nat), k + mk = m ∧ mk < gk ∧ mk ≤ cK ∧ cK ≤ maxLen ∧ dk ≤ 4000000000000000000 + k ∧ Hid (PkAt w aK (s.L.drop k)) ∧ Hid (Blk wr b9 78 [.int .i64 i1, .int .i64 i2, .int .i64 i3, .bool i4, .slice aK mk cK, .int .i64 (dk : Int)]) ∧ Hid (Blk wr b3 45 [.int .i64 tk, .slice (some ⟨bR, oR, none⟩) n c]) ∧ Hid (Blk wr (b3 + 1) 45 [.int .i64 0, .slice none 0 0]) ∧ Hid (Below w.heap.size w wr) ∧ Hid (shed ml i2 s.L s.drop = shed ml i2 (s.L.drop k) dk))
              case atStart => exact ⟨0, m, i5, aL, cL, by omega, by omega, q5, q6, by omega, HPK, J9, J3, J6, JB, HSH0⟩
              case round =>
                obtain ⟨k, mk, dk, aK, cK, hkm, hgk, hcK, hmK, hdk, HPk, J9, J3, J6, JB, HSH⟩ := hrel
                have g0 := J9.out.at 0 rfl
                have g1 := J9.out.at 1 rfl
                have g2 := J9.out.at 2 rfl
                have g3 := J9.out.at 3 rfl
                have g4 := J9.out.at 4 rfl
                have g5 := J9.out.at 5 rfl
                have l9 := J9.out.lt
                obtain ⟨lv, hlv⟩ : ∃ x, x = lvl (s.L.drop k) := ⟨_, rfl⟩
                have HL2 := Lib.hid hlv.symm
                have hlb : lv ≤ 2147483648 := by have h1 := lvl_drop_le s.L k; have := HLV.out; omega
                have HLB : Hid (lvl (s.L.drop k) ≤ 2147483648) := Lib.hid (by rw [← hlv]; exact hlb)
                have HKL : Hid ((s.L.drop k).length = mk) := Lib.hid (by rw [List.length_drop, HM.out]; omega)
                have hmb : mk ≤ 2147483648 := by have := HSM2.out; omega
                have HPd : Hid (PkAt wr.drew aK (s.L.drop k)) := Lib.hid (HPk.out.low (JB.out.trans (Quiet.below (w := wr) ⟨1, rfl⟩)))
                have j0 : IntKind.i64.wrap ((lv : Int) + (ml : Int)) = (lv : Int) + (ml : Int) := IntWalk.i64_in _ (by omega)
                clear hlv
                by_cases h2 : i2 < (lv : Int) + (ml : Int)
                · have p2 : decide (i2 < (lv : Int) + (ml : Int)) = true := decide_eq_true h2
                  have hmp : 0 < mk := by
                    rcases Nat.eq_zero_or_pos mk with h | h
                    · exfalso
                      have h9 : s.L.drop k = [] := List.length_eq_zero_iff.1 (by rw [HKL.out]; exact h)
                      have h8 := HL2.out
                      rw [h9] at h8
                      simp [lvl] at h8
                      omega
                    · exact h
                  have HGO : Hid (i2 < ((lvl (s.L.drop k) + ml : Nat) : Int)) := Lib.hid (by rw [HL2.out]; omega)
                  obtain ⟨x, hx⟩ : ∃ x, s.L[k]? = some x := ⟨_, List.getElem?_eq_getElem (by rw [HM.out]; omega)⟩
                  have hL : s.L.drop k = x :: s.L.drop (k + 1) := by
                    obtain ⟨_, rfl⟩ := List.getElem?_eq_some_iff.1 hx
                    exact List.drop_eq_getElem_cons (by rw [HM.out]; omega)
                  have HSH2 : Hid (shed ml i2 s.L s.drop = shed ml i2 (s.L.drop (k + 1)) (dk + 1)) := Lib.hid (HSH.out.trans (shed_go hL HGO.out))
                  have hpk := HPk.out
                  rw [hL] at hpk
                  obtain ⟨bP, oP, rfl⟩ : ∃ b off, aK = some ⟨b, off, none⟩ := by
                    rcases hpk with h | ⟨b, off, h1, -⟩
                    · cases h
                    · exact ⟨b, off, h1⟩
                  have HPT := Lib.hid hpk.tail
                  have i1' : (0 : Int) < (mk : Int) := by omega
                  have hwd : IntKind.i64.wrap ((dk : Int) + 1) = (dk : Int) + 1 := IntWalk.i64_in _ (by have := HSM2.out; omega)
                  clear hx hL hpk
                  go_upto_region 11 with fail
                  refine wp_region_held_drew (S := (fun w' => w'.cell? ⟨b9, 0, none⟩ = some (.int .i64 i1) ∧ w'.cell? ⟨b9, 1, none⟩ = some (.int .i64 i2) ∧ w'.cell? ⟨b9, 2, none⟩ = some (.int .i64 i3) ∧ w'.cell? ⟨b9, 3, none⟩ = some (.bool i4) ∧ w'.cell? ⟨b9, 4, none⟩ = some (.slice (some ⟨bP, oP, none⟩) mk cK) ∧ w'.cell? ⟨b9, 5, none⟩ = some (.int .i64 (dk : Int)))) (by kernel_rfl) (by (try dsimp only); (first | exact ⟨by assumption, by assumption, by assumption, by assumption, by assumption, by assumption⟩ | go_keep)) (fun hHeld => ?_)
                  refine wpAnyH_take (i := 0) (oi := (Oper.mk (some 66) (Op.load 78 (Operand.tmp 11)) 78 "ref.go:86" #[] none)) (v := ?_) rfl (by kernel_rfl) (by kernel_rfl) (by kernel_rfl) (fun _ _ _ h => h) (Or.inl ⟨by rfl, ?_⟩) (by assumption) ?_
                  rotate_left
                  · (intro w hSw; (try dsimp only at hSw); go_simp; first | done | with_reducible rfl)
                  (try simp only [Act.put, List.setIfInBounds_toArray, List.set_cons_zero, List.set_cons_succ])
                  refine wpAnyH_take (i := 2) (oi := (Oper.mk (some 68) (Op.move (Operand.tmp 3)) 31 "ref.go:86" #[] none)) (v := ?_) rfl (by kernel_rfl) (by kernel_rfl) (by kernel_rfl) (fun _ _ _ h => h) (Or.inl ⟨by rfl, ?_⟩) (by assumption) ?_
                  rotate_left
                  · (intro w hSw; (try dsimp only at hSw); go_simp; first | done | with_reducible rfl)
                  (try simp only [Act.put, List.setIfInBounds_toArray, List.set_cons_zero, List.set_cons_succ])
                  refine wpAnyH_take (i := 3) (oi := (Oper.mk (some 69) (Op.call (Call.mk (Callee.builtin Builtin.len) #[Operand.tmp 68] #[31])) 3 "ref.go:86" #[Edge.mk 2 Ground.data] none)) (v := ?_) rfl (by kernel_rfl) (by kernel_rfl) (by kernel_rfl) (fun _ _ _ h => h) (Or.inl ⟨by rfl, ?_⟩) (by assumption) ?_
                  rotate_left
                  · (intro w hSw; (try dsimp only at hSw); go_simp; first | done | with_reducible rfl)
                  (try simp only [Act.put, List.setIfInBounds_toArray, List.set_cons_zero, List.set_cons_succ])
                  refine wpAnyH_take (i := 5) (oi := (Oper.mk (some 71) (Op.fieldAddr 78 (Operand.tmp 11) 0) 0 "ref.go:86" #[] none)) (v := ?_) rfl (by kernel_rfl) (by kernel_rfl) (by kernel_rfl) (fun _ _ _ h => h) (Or.inl ⟨by rfl, ?_⟩) (by assumption) ?_
                  rotate_left
                  · (intro w hSw; (try dsimp only at hSw); go_simp; first | done | with_reducible rfl)
                  (try simp only [Act.put, List.setIfInBounds_toArray, List.set_cons_zero, List.set_cons_succ])
                  refine wpAnyH_take (i := 6) (oi := (Oper.mk (some 72) (Op.fieldAddr 29 (Operand.tmp 71) 1) 0 "ref.go:86" #[Edge.mk 5 Ground.data] none)) (v := ?_) rfl (by kernel_rfl) (by kernel_rfl) (by kernel_rfl) (fun _ _ _ h => h) (Or.inl ⟨by rfl, ?_⟩) (by assumption) ?_
                  rotate_left
                  · (intro w hSw; (try dsimp only at hSw); go_simp; first | done | with_reducible rfl)
                  (try simp only [Act.put, List.setIfInBounds_toArray, List.set_cons_zero, List.set_cons_succ])
                  refine wpAnyH_take (i := 7) (oi := (Oper.mk (some 73) (Op.load 3 (Operand.tmp 72)) 3 "ref.go:86" #[Edge.mk 6 Ground.data] none)) (v := ?_) rfl (by kernel_rfl) (by kernel_rfl) (by kernel_rfl) (fun _ _ _ h => h) (Or.inl ⟨by rfl, ?_⟩) (by assumption) ?_
                  rotate_left
                  · (intro w hSw; (try dsimp only at hSw); go_simp; first | done | with_reducible rfl)
                  (try simp only [Act.put, List.setIfInBounds_toArray, List.set_cons_zero, List.set_cons_succ])
                  refine wpAnyH_ready (rs := [1]) (by kernel_rfl) (by simp) ?_
                  refine AllReadyH.cons (o := (Oper.mk (some 67) (Op.call (Call.mk (Callee.value (Operand.func 30)) #[Operand.tmp 66] #[78])) 3 "ref.go:86" #[Edge.mk 0 Ground.data] none)) rfl (fun K hK => ?_) (AllReadyH.nil)
                  go_simp
                  (go_at_call 30; refine (rlevel_any i1 i2 i3 i4 (dk : Int) HPd.out HKL.out HLB.out hmb hcK hmK).mono ?_; rintro e w5 ⟨he, hB5⟩; rw [HL2.out] at he; subst he; have HB5 := Lib.hid (undrew hB5); have K95 := Lib.hid (J9.out.below HB5.out (Nat.le_refl _)); have g0 := K95.out.at 0 rfl; have g1 := K95.out.at 1 rfl; have g2 := K95.out.at 2 rfl; have g3 := K95.out.at 3 rfl; have g4 := K95.out.at 4 rfl; have g5 := K95.out.at 5 rfl; clear hB5)
                  refine hK.out _ _ (by (try dsimp only); (first | exact ⟨by assumption, by assumption, by assumption, by assumption, by assumption, by assumption⟩ | go_keep)) (fun hHeld => ?_)
                  clear hK K
                  (try simp only [Act.put, List.setIfInBounds_toArray, List.set_cons_zero, List.set_cons_succ])
                  refine wpAnyH_take (i := 4) (oi := (Oper.mk (some 70) (Op.binOp BinOp.add 3 (Operand.tmp 67) (Operand.tmp 69) 3) 3 "ref.go:86" #[Edge.mk 1 Ground.data, Edge.mk 3 Ground.data] none)) (v := ?_) rfl (by kernel_rfl) (by kernel_rfl) (by kernel_rfl) (fun _ _ _ h => h) (Or.inl ⟨by rfl, ?_⟩) (by assumption) ?_
                  rotate_left
                  · (intro w hSw; (try dsimp only at hSw); go_simp; first | done | with_reducible rfl)
                  (try simp only [Act.put, List.setIfInBounds_toArray, List.set_cons_zero, List.set_cons_succ])
                  refine wpAnyH_take (i := 8) (oi := (Oper.mk (some 74) (Op.binOp BinOp.gtr 3 (Operand.tmp 70) (Operand.tmp 73) 3) 4 "ref.go:86" #[Edge.mk 4 Ground.data, Edge.mk 7 Ground.data] none)) (v := ?_) rfl (by kernel_rfl) (by kernel_rfl) (by kernel_rfl) (fun _ _ _ h => h) (Or.inl ⟨by rfl, ?_⟩) (by assumption) ?_
                  rotate_left
                  · (intro w hSw; (try dsimp only at hSw); go_simp; first | done | with_reducible rfl)
                  (try simp only [Act.put, List.setIfInBounds_toArray, List.set_cons_zero, List.set_cons_succ])
                  refine wpAnyH_done (by kernel_rfl) ?_ _
                  have f4 := K95.out.free 4
                  have f5 := K95.out.free 5
                  have l9 := K95.out.lt
                  have JB5 := Lib.hid (JB.out.trans (HB5.out.mono JB.out.size))
                  have J35 := Lib.hid (J3.out.below HB5.out (Nat.le_refl _))
                  have J65 := Lib.hid (J6.out.below HB5.out (Nat.le_refl _))
                  have HW9 : Hid (∀ v, Blk ((w5.setCell ⟨b9, 4, none⟩ v).setCell ⟨b9, 5, none⟩ (.int .i64 ((dk : Int) + 1))) b9 78 [.int .i64 i1, .int .i64 i2, .int .i64 i3, .bool i4, v, .int .i64 ((dk + 1 : Nat) : Int)] ∧ Blk ((w5.setCell ⟨b9, 4, none⟩ v).setCell ⟨b9, 5, none⟩ (.int .i64 ((dk : Int) + 1))) b3 45 [.int .i64 tk, .slice (some ⟨bR, oR, none⟩) n c] ∧ Blk ((w5.setCell ⟨b9, 4, none⟩ v).setCell ⟨b9, 5, none⟩ (.int .i64 ((dk : Int) + 1))) (b3 + 1) 45 [.int .i64 0, .slice none 0 0] ∧ Below w.heap.size w ((w5.setCell ⟨b9, 4, none⟩ v).setCell ⟨b9, 5, none⟩ (.int .i64 ((dk : Int) + 1)))) := Lib.hid (fun v => ⟨by rw [show ((dk + 1 : Nat) : Int) = (dk : Int) + 1 by omega]; exact Blk.cast ((K95.out.setCell 4 v).setCell 5 _) rfl, (J35.out.setOther (p := ⟨b9, 4, none⟩) (fun e => HN3.out.1 e.symm) v).setOther (p := ⟨b9, 5, none⟩) (fun e => HN3.out.1 e.symm) _, (J65.out.setOther (p := ⟨b9, 4, none⟩) (fun e => HN3.out.2.1 e.symm) v).setOther (p := ⟨b9, 5, none⟩) (fun e => HN3.out.2.1 e.symm) _, (JB5.out.setCell (p := ⟨b9, 4, none⟩) HN3.out.2.2 v).setCell (p := ⟨b9, 5, none⟩) HN3.out.2.2 _⟩)
                  go_wp2_with fail
                  · have hd : Hid (s.L.drop (k + 1) = []) := Lib.hid (List.drop_of_length_le (by rw [HM.out]; omega))
                    go_roundg (gk - 1)
                    case rel => exact ⟨k + 1, mk - 1, dk + 1, _, _, by omega, by omega, by omega, by unfold maxLen; omega, by omega, Lib.hid (.inl hd.out), Lib.hid (HW9.out _).1, Lib.hid (HW9.out _).2.1, Lib.hid (HW9.out _).2.2.1, Lib.hid (HW9.out _).2.2.2, HSH2⟩
                    case measure => omega
                  · go_roundg (gk - 1)
                    case rel => exact ⟨k + 1, mk - 1, dk + 1, _, _, by omega, by omega, by omega, by omega, by omega, HPT, Lib.hid (HW9.out _).1, Lib.hid (HW9.out _).2.1, Lib.hid (HW9.out _).2.2.1, Lib.hid (HW9.out _).2.2.2, HSH2⟩
                    case measure => omega
                · have p2 : decide (i2 < (lv : Int) + (ml : Int)) = false := decide_eq_false h2
                  have HGO : Hid (¬ i2 < ((lvl (s.L.drop k) + ml : Nat) : Int)) := Lib.hid (by rw [HL2.out]; omega)
                  have HF : Hid (r.add id now l = (r1.put i { s with L := s.L.drop k ++ [⟨tk, l, false⟩], drop := dk }, 0)) := Lib.hid (by
                    have h9 := HSH.out.trans (shed_stop HGO.out)
                    rw [HI.out.2.1, ← HML.out] at h9
                    rw [HSA.out]
                    unfold St.add
                    rw [if_neg (by rw [HML.out]; exact HBL.out), if_neg HNF.out, h9, HTN.out])
                  have HNL : Hid ((s.L.drop k ++ [(⟨tk, l, false⟩ : En)]).length = mk + 1) := Lib.hid (by rw [List.length_append, HKL.out]; rfl)
                  obtain ⟨xs, hpx, hsrc, hone⟩ := PX.of HPk.out
                  have HPX := Lib.hid hpx
                  have HSRC : Hid (∀ j u, xs[j]? = some u → ∃ ad, aK = some ad ∧ w.cell? (ad.add j) = some u) := Lib.hid hsrc
                  have HONE := Lib.hid hone
                  have HXL : Hid (xs.length = mk * 3) := Lib.hid (by rw [hpx.1, HKL.out])
                  have HMB : Hid (mk ≤ 2147483648) := Lib.hid hmb
                  have HMX : Hid (ml ≤ 100000) := Lib.hid hmx
                  obtain ⟨ji, hj1, hz0, hz1, hz2⟩ := info_parts info81
                  have HJ1 := Lib.hid hj1
                  obtain ⟨jb, hj2, hy0, hy1, hy2⟩ := info_parts info5
                  have HJB := Lib.hid hj2
                  clear hpx hsrc hone hj1 hj2
                  go_upto_region 11 with fail
                  refine wp_region_held_drew (S := (fun w' => w'.cell? ⟨b9, 0, none⟩ = some (.int .i64 i1) ∧ w'.cell? ⟨b9, 1, none⟩ = some (.int .i64 i2) ∧ w'.cell? ⟨b9, 2, none⟩ = some (.int .i64 i3) ∧ w'.cell? ⟨b9, 3, none⟩ = some (.bool i4) ∧ w'.cell? ⟨b9, 4, none⟩ = some (.slice aK mk cK) ∧ w'.cell? ⟨b9, 5, none⟩ = some (.int .i64 (dk : Int)))) (by kernel_rfl) (by (try dsimp only); (first | exact ⟨by assumption, by assumption, by assumption, by assumption, by assumption, by assumption⟩ | go_keep)) (fun hHeld => ?_)
                  refine wpAnyH_take (i := 0) (oi := (Oper.mk (some 66) (Op.load 78 (Operand.tmp 11)) 78 "ref.go:86" #[] none)) (v := ?_) rfl (by kernel_rfl) (by kernel_rfl) (by kernel_rfl) (fun _ _ _ h => h) (Or.inl ⟨by rfl, ?_⟩) (by assumption) ?_
                  rotate_left
                  · (intro w hSw; (try dsimp only at hSw); go_simp; first | done | with_reducible rfl)
                  (try simp only [Act.put, List.setIfInBounds_toArray, List.set_cons_zero, List.set_cons_succ])
                  refine wpAnyH_take (i := 2) (oi := (Oper.mk (some 68) (Op.move (Operand.tmp 3)) 31 "ref.go:86" #[] none)) (v := ?_) rfl (by kernel_rfl) (by kernel_rfl) (by kernel_rfl) (fun _ _ _ h => h) (Or.inl ⟨by rfl, ?_⟩) (by assumption) ?_
                  rotate_left
                  · (intro w hSw; (try dsimp only at hSw); go_simp; first | done | with_reducible rfl)
                  (try simp only [Act.put, List.setIfInBounds_toArray, List.set_cons_zero, List.set_cons_succ])
                  refine wpAnyH_take (i := 3) (oi := (Oper.mk (some 69) (Op.call (Call.mk (Callee.builtin Builtin.len) #[Operand.tmp 68] #[31])) 3 "ref.go:86" #[Edge.mk 2 Ground.data] none)) (v := ?_) rfl (by kernel_rfl) (by kernel_rfl) (by kernel_rfl) (fun _ _ _ h => h) (Or.inl ⟨by rfl, ?_⟩) (by assumption) ?_
                  rotate_left
                  · (intro w hSw; (try dsimp only at hSw); go_simp; first | done | with_reducible rfl)
                  (try simp only [Act.put, List.setIfInBounds_toArray, List.set_cons_zero, List.set_cons_succ])
                  refine wpAnyH_take (i := 5) (oi := (Oper.mk (some 71) (Op.fieldAddr 78 (Operand.tmp 11) 0) 0 "ref.go:86" #[] none)) (v := ?_) rfl (by kernel_rfl) (by kernel_rfl) (by kernel_rfl) (fun _ _ _ h => h) (Or.inl ⟨by rfl, ?_⟩) (by assumption) ?_
                  rotate_left
                  · (intro w hSw; (try dsimp only at hSw); go_simp; first | done | with_reducible rfl)
                  (try simp only [Act.put, List.setIfInBounds_toArray, List.set_cons_zero, List.set_cons_succ])
                  refine wpAnyH_take (i := 6) (oi := (Oper.mk (some 72) (Op.fieldAddr 29 (Operand.tmp 71) 1) 0 "ref.go:86" #[Edge.mk 5 Ground.data] none)) (v := ?_) rfl (by kernel_rfl) (by kernel_rfl) (by kernel_rfl) (fun _ _ _ h => h) (Or.inl ⟨by rfl, ?_⟩) (by assumption) ?_
                  rotate_left
                  · (intro w hSw; (try dsimp only at hSw); go_simp; first | done | with_reducible rfl)
                  (try simp only [Act.put, List.setIfInBounds_toArray, List.set_cons_zero, List.set_cons_succ])
                  refine wpAnyH_take (i := 7) (oi := (Oper.mk (some 73) (Op.load 3 (Operand.tmp 72)) 3 "ref.go:86" #[Edge.mk 6 Ground.data] none)) (v := ?_) rfl (by kernel_rfl) (by kernel_rfl) (by kernel_rfl) (fun _ _ _ h => h) (Or.inl ⟨by rfl, ?_⟩) (by assumption) ?_
                  rotate_left
                  · (intro w hSw; (try dsimp only at hSw); go_simp; first | done | with_reducible rfl)
                  (try simp only [Act.put, List.setIfInBounds_toArray, List.set_cons_zero, List.set_cons_succ])
                  refine wpAnyH_ready (rs := [1]) (by kernel_rfl) (by simp) ?_
                  refine AllReadyH.cons (o := (Oper.mk (some 67) (Op.call (Call.mk (Callee.value (Operand.func 30)) #[Operand.tmp 66] #[78])) 3 "ref.go:86" #[Edge.mk 0 Ground.data] none)) rfl (fun K hK => ?_) (AllReadyH.nil)
                  go_simp
                  (go_at_call 30; refine (rlevel_any i1 i2 i3 i4 (dk : Int) HPd.out HKL.out HLB.out hmb hcK hmK).mono ?_; rintro e w5 ⟨he, hB5⟩; rw [HL2.out] at he; subst he; have HB5 := Lib.hid (undrew hB5); have K95 := Lib.hid (J9.out.below HB5.out (Nat.le_refl _)); have g0 := K95.out.at 0 rfl; have g1 := K95.out.at 1 rfl; have g2 := K95.out.at 2 rfl; have g3 := K95.out.at 3 rfl; have g4 := K95.out.at 4 rfl; have g5 := K95.out.at 5 rfl; clear hB5)
                  refine hK.out _ _ (by (try dsimp only); (first | exact ⟨by assumption, by assumption, by assumption, by assumption, by assumption, by assumption⟩ | go_keep)) (fun hHeld => ?_)
                  clear hK K
                  (try simp only [Act.put, List.setIfInBounds_toArray, List.set_cons_zero, List.set_cons_succ])
                  refine wpAnyH_take (i := 4) (oi := (Oper.mk (some 70) (Op.binOp BinOp.add 3 (Operand.tmp 67) (Operand.tmp 69) 3) 3 "ref.go:86" #[Edge.mk 1 Ground.data, Edge.mk 3 Ground.data] none)) (v := ?_) rfl (by kernel_rfl) (by kernel_rfl) (by kernel_rfl) (fun _ _ _ h => h) (Or.inl ⟨by rfl, ?_⟩) (by assumption) ?_
                  rotate_left
                  · (intro w hSw; (try dsimp only at hSw); go_simp; first | done | with_reducible rfl)
                  (try simp only [Act.put, List.setIfInBounds_toArray, List.set_cons_zero, List.set_cons_succ])
                  refine wpAnyH_take (i := 8) (oi := (Oper.mk (some 74) (Op.binOp BinOp.gtr 3 (Operand.tmp 70) (Operand.tmp 73) 3) 4 "ref.go:86" #[Edge.mk 4 Ground.data, Edge.mk 7 Ground.data] none)) (v := ?_) rfl (by kernel_rfl) (by kernel_rfl) (by kernel_rfl) (fun _ _ _ h => h) (Or.inl ⟨by rfl, ?_⟩) (by assumption) ?_
                  rotate_left
                  · (intro w hSw; (try dsimp only at hSw); go_simp; first | done | with_reducible rfl)
                  (try simp only [Act.put, List.setIfInBounds_toArray, List.set_cons_zero, List.set_cons_succ])
                  refine wpAnyH_done (by kernel_rfl) ?_ _
                  go_upto_region 14 with fail
                  have J9 : Hid (Blk w5.drew b9 78 [.int .i64 i1, .int .i64 i2, .int .i64 i3, .bool i4, .slice aK mk cK, .int .i64 (dk : Int)]) := Lib.hid K95.out.drew
                  have J3 : Hid (Blk w5.drew b3 45 [.int .i64 tk, .slice (some ⟨bR, oR, none⟩) n c]) := Lib.hid (J3.out.below HB5.out (Nat.le_refl _)).drew
                  have J6 : Hid (Blk w5.drew (b3 + 1) 45 [.int .i64 0, .slice none 0 0]) := Lib.hid (J6.out.below HB5.out (Nat.le_refl _)).drew
                  have JB : Hid (Below w.heap.size w w5.drew) := Lib.hid ((JB.out.trans (HB5.out.mono JB.out.size)).trans (Quiet.below (w := w5) ⟨1, rfl⟩))
                  clear g0 g1 g2 g3 g4 g5 l9 K95 p2
                  go_cut [] (fun wx => ∃ (aN : Option Addr) (cN : Nat), mk + 1 ≤ cN ∧ cN ≤ maxLen ∧ Hid (Blk wx b9 78 [.int .i64 i1, .int .i64 i2, .int .i64 i3, .bool i4, .slice aN (mk + 1) cN, .int .i64 (dk : Int)]) ∧ Hid (PkAt wx aN (s.L.drop k ++ [⟨tk, l, false⟩])) ∧ Hid (Blk wx b3 45 [.int .i64 tk, .slice (some ⟨bR, oR, none⟩) n c]) ∧ Hid (Blk wx (b3 + 1) 45 [.int .i64 0, .slice none 0 0]) ∧ Hid (Below w.heap.size w wx))
                  case first =>
                    have c0 := J3.out.at 0 rfl
                    have c4 := J9.out.at 4 rfl
                    have f4 := J9.out.free 4
                    have l9 := J9.out.lt
                    refine wp_region_held_drew (S := (fun w' => w'.cell? ⟨b3, 0, none⟩ = some (.int .i64 tk))) (by kernel_rfl) (by (try dsimp only); (first | assumption | go_keep)) (fun hHeld => ?_)
                    refine wpAnyH_take (i := 1) (oi := (Oper.mk (some 84) (Op.fieldAddr 78 (Operand.tmp 11) 1) 0 "ref.go:90" #[] none)) (v := ?_) rfl (by kernel_rfl) (by kernel_rfl) (by kernel_rfl) (fun _ _ _ h => h) (Or.inl ⟨by rfl, ?_⟩) (by assumption) ?_
                    rotate_left
                    · (intro w hSw; (try dsimp only at hSw); go_simp; first | done | with_reducible rfl)
                    (try simp only [Act.put, List.setIfInBounds_toArray, List.set_cons_zero, List.set_cons_succ])
                    refine wpAnyH_take (i := 4) (oi := (Oper.mk (some 87) (Op.fieldAddr 45 (Operand.tmp 4) 0) 0 "ref.go:90" #[] none)) (v := ?_) rfl (by kernel_rfl) (by kernel_rfl) (by kernel_rfl) (fun _ _ _ h => h) (Or.inl ⟨by rfl, ?_⟩) (by assumption) ?_
                    rotate_left
                    · (intro w hSw; (try dsimp only at hSw); go_simp; first | done | with_reducible rfl)
                    (try simp only [Act.put, List.setIfInBounds_toArray, List.set_cons_zero, List.set_cons_succ])
                    refine wpAnyH_take (i := 5) (oi := (Oper.mk (some 88) (Op.load 3 (Operand.tmp 87)) 3 "ref.go:90" #[Edge.mk 4 Ground.data] none)) (v := ?_) rfl (by kernel_rfl) (by kernel_rfl) (by kernel_rfl) (fun _ _ _ h => h) (Or.inl ⟨by rfl, ?_⟩) (by assumption) ?_
                    rotate_left
                    · (intro w hSw; (try dsimp only at hSw); go_simp; first | done | with_reducible rfl)
                    (try simp only [Act.put, List.setIfInBounds_toArray, List.set_cons_zero, List.set_cons_succ])
                    refine wpAnyH_take (i := 7) (oi := (Oper.mk (some 90) (Op.move (Operand.tmp 3)) 31 "ref.go:90" #[] none)) (v := ?_) rfl (by kernel_rfl) (by kernel_rfl) (by kernel_rfl) (fun _ _ _ h => h) (Or.inl ⟨by rfl, ?_⟩) (by assumption) ?_
                    rotate_left
                    · (intro w hSw; (try dsimp only at hSw); go_simp; first | done | with_reducible rfl)
                    (try simp only [Act.put, List.setIfInBounds_toArray, List.set_cons_zero, List.set_cons_succ])
                    refine wpAnyH_ready (rs := [0, 2, 6]) (by kernel_rfl) (by simp) ?_
                    refine AllReadyH.cons (o := (Oper.mk (some 83) (Op.buildSlice 76 0 #[]) 76 "ref.go:90" #[] none)) rfl (fun K hK => ?st0ta88ex5) (AllReadyH.cons (o := (Oper.mk (some 85) (Op.load 76 (Operand.tmp 84)) 76 "ref.go:90" #[Edge.mk 1 Ground.data] none)) rfl (fun K hK => ?st2ta88ex5) (AllReadyH.cons (o := (Oper.mk (some 89) (Op.buildSlice 31 0 #[]) 31 "ref.go:90" #[] none)) rfl (fun K hK => ?st6ta88ex5) (AllReadyH.nil)))
                    case' st0ta88ex5 =>
                      go_simp
                      (refine nameW (fun wx hwx => ?_); (try replace hwx := drew_alloc hwx); have hBx := al_of hwx; have HAn := Lib.hid (own_mk (B := w.heap.size) (sz := 3) hwx JB.out.size); (try have HZN := Lib.hid (zn0 HZ.out)); have J9 := Lib.hid (J9.out.below hBx (Nat.le_refl _)); have J3 := Lib.hid (J3.out.below hBx (Nat.le_refl _)); have J6 := Lib.hid (J6.out.below hBx (Nat.le_refl _)); (try have HA := Lib.hid (own_below HA.out hBx (Nat.le_refl _))); (try have HY := Lib.hid (own_below HY.out hBx (Nat.le_refl _))); (try have HZ := Lib.hid (HZ.out.below hBx (Nat.le_refl _))); have JB := Lib.hid (JB.out.trans (hBx.mono JB.out.size)); have c0 := J3.out.at 0 rfl; have c4 := J9.out.at 4 rfl; have f4 := J9.out.free 4; have l9 := J9.out.lt; have HA := HAn; clear HAn hBx hwx)
                      refine hK.out _ _ (by (try dsimp only); (first | assumption | go_keep)) (fun hHeld => ?_)
                      clear hK K
                      (try simp only [Act.put, List.setIfInBounds_toArray, List.set_cons_zero, List.set_cons_succ])
                      refine wpAnyH_ready (rs := [2, 6]) (by kernel_rfl) (by simp) ?_
                      refine AllReadyH.cons (o := (Oper.mk (some 85) (Op.load 76 (Operand.tmp 84)) 76 "ref.go:90" #[Edge.mk 1 Ground.data] none)) rfl (fun K hK => ?st2ta88ex6) (AllReadyH.cons (o := (Oper.mk (some 89) (Op.buildSlice 31 0 #[]) 31 "ref.go:90" #[] none)) rfl (fun K hK => ?st6ta88ex6) (AllReadyH.nil))
                      case' st2ta88ex6 =>
                        go_simp
                        skip
                        refine hK.out _ _ (by (try dsimp only); (first | assumption | go_keep)) (fun hHeld => ?_)
                        clear hK K
                        (try simp only [Act.put, List.setIfInBounds_toArray, List.set_cons_zero, List.set_cons_succ])
                        refine wpAnyH_ready (rs := [3, 6]) (by kernel_rfl) (by simp) ?_
                        refine AllReadyH.cons (o := (Oper.mk (some 86) (Op.call (Call.mk (Callee.builtin Builtin.append) #[Operand.tmp 83, Operand.tmp 85] #[76, 76])) 76 "ref.go:90" #[Edge.mk 0 Ground.data, Edge.mk 2 Ground.data] none)) rfl (fun K hK => ?st3ta88ex7) (AllReadyH.cons (o := (Oper.mk (some 89) (Op.buildSlice 31 0 #[]) 31 "ref.go:90" #[] none)) rfl (fun K hK => ?st6ta88ex7) (AllReadyH.nil))
                        case' st3ta88ex7 =>
                          (refine step_append_opt _ (by rfl) (.tmp 83) (.tmp 85) 76 (by rfl) w.heap.size 81 ji _ 3 40 Try.underlying76 HJ1.out hz0 hz1 hz2 (by rfl) (by decide) _ 0 [] (by rfl) HA.out aK mk cK xs (by rfl) HXL.out (src_low HSRC.out JB.out) HONE.out (by have := HMB.out; unfold maxLen; omega) (by have := HMB.out; omega) JB.out.size ?_; intro v8 w8 hown8 hgrow8 hob8; rw [Nat.zero_add, List.nil_append] at hown8; obtain ⟨a8, n8, c8, rfl⟩ := own_slice hown8; have J9n := Lib.hid (J9.out.grown hgrow8 (own_ne HA.out J9.out (by decide))); have J3n := Lib.hid (J3.out.grown hgrow8 (own_ne HA.out J3.out (by decide))); have J6n := Lib.hid (J6.out.grown hgrow8 (own_ne HA.out J6.out (by decide))); (try have HY := Lib.hid (own_kept HY.out HA.out (by decide) hgrow8)); (try have HZ2 := Lib.hid (HZ.out.grown hgrow8 HZN.out)); (try have HZN := Lib.hid (zn3 HZ.out HZN.out hob8)); (try have HZ := HZ2); have JBn := Lib.hid (JB.out.grown hgrow8 JB.out.size (fun k e => (HA.out.lt k e).1)); have J9 := J9n; have J3 := J3n; have J6 := J6n; have JB := JBn; have HA := Lib.hid hown8; have c0 := J3.out.at 0 rfl; have c4 := J9.out.at 4 rfl; have f4 := J9.out.free 4; have l9 := J9.out.lt; clear hown8 hgrow8 hob8 J9n J3n J6n JBn)
                          refine hK.out _ _ (by (try dsimp only); (first | assumption | go_keep)) (fun hHeld => ?_)
                          clear hK K
                          (try simp only [Act.put, List.setIfInBounds_toArray, List.set_cons_zero, List.set_cons_succ])
                          refine wpAnyH_ready (rs := [6]) (by kernel_rfl) (by simp) ?_
                          refine AllReadyH.cons (o := (Oper.mk (some 89) (Op.buildSlice 31 0 #[]) 31 "ref.go:90" #[] none)) rfl (fun K hK => ?_) (AllReadyH.nil)
                          go_simp
                          (refine nameW (fun wx hwx => ?_); (try replace hwx := drew_alloc hwx); have hBx := al_of hwx; have HYn := Lib.hid (own_mk (B := w.heap.size) (sz := 1) hwx JB.out.size); have J9 := Lib.hid (J9.out.below hBx (Nat.le_refl _)); have J3 := Lib.hid (J3.out.below hBx (Nat.le_refl _)); have J6 := Lib.hid (J6.out.below hBx (Nat.le_refl _)); (try have HA := Lib.hid (own_below HA.out hBx (Nat.le_refl _))); (try have HY := Lib.hid (own_below HY.out hBx (Nat.le_refl _))); (try have HZ := Lib.hid (HZ.out.below hBx (Nat.le_refl _))); have JB := Lib.hid (JB.out.trans (hBx.mono JB.out.size)); have c0 := J3.out.at 0 rfl; have c4 := J9.out.at 4 rfl; have f4 := J9.out.free 4; have l9 := J9.out.lt; have HY := HYn; clear HYn hBx hwx)
                          refine hK.out _ _ (by (try dsimp only); (first | assumption | go_keep)) (fun hHeld => ?_)
                          clear hK K
                          (try simp only [Act.put, List.setIfInBounds_toArray, List.set_cons_zero, List.set_cons_succ])
                          refine wpAnyH_ready (rs := [8]) (by kernel_rfl) (by simp) ?_
                          refine AllReadyH.cons (o := (Oper.mk (some 91) (Op.call (Call.mk (Callee.builtin Builtin.append) #[Operand.tmp 89, Operand.tmp 90] #[31, 31])) 31 "ref.go:90" #[Edge.mk 6 Ground.data, Edge.mk 7 Ground.data, Edge.mk 3 Ground.chain] none)) rfl (fun K hK => ?_) (AllReadyH.nil)
                          (refine step_append_src _ (by rfl) (.tmp 89) (.tmp 90) 31 (by rfl) w.heap.size 5 jb _ 1 Try.underlying31 HJB.out hy0 hy1 hy2 (by rfl) _ 0 [] (by rfl) HY.out ab ml cb (encB l) (by rfl) (by rw [encB_length]; exact HML.out) (HBA.out.below JB.out (Nat.le_refl _)).vat (encB_one l) (by have := HMX.out; unfold maxLen; omega) (by have := HMX.out; omega) JB.out.size ?_; intro v8 w8 hown8 hgrow8 hob8; rw [Nat.zero_add, List.nil_append] at hown8; obtain ⟨a9, n9, c9, rfl⟩ := own_slice hown8; have J9n := Lib.hid (J9.out.grown hgrow8 (own_ne HY.out J9.out (by decide))); have J3n := Lib.hid (J3.out.grown hgrow8 (own_ne HY.out J3.out (by decide))); have J6n := Lib.hid (J6.out.grown hgrow8 (own_ne HY.out J6.out (by decide))); (try have HA := Lib.hid (own_kept HA.out HY.out (by decide) hgrow8)); have JBn := Lib.hid (JB.out.grown hgrow8 JB.out.size (fun k e => (HY.out.lt k e).1)); have J9 := J9n; have J3 := J3n; have J6 := J6n; have JB := JBn; have HY := Lib.hid hown8; have c0 := J3.out.at 0 rfl; have c4 := J9.out.at 4 rfl; have f4 := J9.out.free 4; have l9 := J9.out.lt; clear hown8 hgrow8 hob8 J9n J3n J6n JBn)
                          refine hK.out _ _ (by (try dsimp only); (first | assumption | go_keep)) (fun hHeld => ?_)
                          clear hK K
                          (try simp only [Act.put, List.setIfInBounds_toArray, List.set_cons_zero, List.set_cons_succ])
                          refine wpAnyH_take (i := 9) (oi := (Oper.mk (some 92) (Op.build 81 #[(0, Operand.tmp 88), (1, Operand.tmp 91)]) 81 "ref.go:90" #[Edge.mk 5 Ground.data, Edge.mk 8 Ground.data] none)) (v := ?_) rfl (by kernel_rfl) (by kernel_rfl) (by kernel_rfl) (fun _ _ _ h => h) (Or.inl ⟨by rfl, ?_⟩) (by assumption) ?_
                          rotate_left
                          · (intro w hSw; (try dsimp only at hSw); go_simp; first | done | with_reducible rfl)
                          (try simp only [Act.put, List.setIfInBounds_toArray, List.set_cons_zero, List.set_cons_succ])
                          refine wpAnyH_ready (rs := [10]) (by kernel_rfl) (by simp) ?_
                          refine AllReadyH.cons (o := (Oper.mk (some 93) (Op.buildSlice 76 1 #[(0, Operand.tmp 92)]) 76 "ref.go:90" #[Edge.mk 9 Ground.data] none)) rfl (fun K hK => ?_) (AllReadyH.nil)
                          go_simp
                          (refine nameW (fun wx hwx => ?_); (try replace hwx := drew_alloc hwx); have hBx := al_of hwx; have HZn := Lib.hid (blk_mk (xs := [.int .i64 tk, .slice a9 n9 c9, .bool false]) hwx); (try have HZN := Lib.hid (zn10 HA.out)); have J9 := Lib.hid (J9.out.below hBx (Nat.le_refl _)); have J3 := Lib.hid (J3.out.below hBx (Nat.le_refl _)); have J6 := Lib.hid (J6.out.below hBx (Nat.le_refl _)); (try have HA := Lib.hid (own_below HA.out hBx (Nat.le_refl _))); (try have HY := Lib.hid (own_below HY.out hBx (Nat.le_refl _))); (try have HZ := Lib.hid (HZ.out.below hBx (Nat.le_refl _))); have JB := Lib.hid (JB.out.trans (hBx.mono JB.out.size)); have c0 := J3.out.at 0 rfl; have c4 := J9.out.at 4 rfl; have f4 := J9.out.free 4; have l9 := J9.out.lt; have HZ := HZn; clear HZn hBx hwx)
                          refine hK.out _ _ (by (try dsimp only); (first | assumption | go_keep)) (fun hHeld => ?_)
                          clear hK K
                          (try simp only [Act.put, List.setIfInBounds_toArray, List.set_cons_zero, List.set_cons_succ])
                          refine wpAnyH_ready (rs := [11]) (by kernel_rfl) (by simp) ?_
                          refine AllReadyH.cons (o := (Oper.mk (some 94) (Op.call (Call.mk (Callee.builtin Builtin.append) #[Operand.tmp 86, Operand.tmp 93] #[76, 76])) 76 "ref.go:90" #[Edge.mk 3 Ground.data, Edge.mk 10 Ground.data, Edge.mk 8 Ground.chain] none)) rfl (fun K hK => ?_) (AllReadyH.nil)
                          (refine step_append_opt _ (by rfl) (.tmp 86) (.tmp 93) 76 (by rfl) w.heap.size 81 ji _ 3 40 Try.underlying76 HJ1.out hz0 hz1 hz2 (by rfl) (by decide) _ mk xs (by rfl) HA.out _ 1 1 [.int .i64 tk, .slice a9 n9 c9, .bool false] (by rfl) (by rfl) (row_src HZ.out) (by intro v hv; simp at hv; rcases hv with rfl | rfl | rfl <;> rfl) (by have := HMB.out; unfold maxLen; omega) (by have := HMB.out; omega) JB.out.size ?_; intro v8 w8 hown8 hgrow8 hob8; obtain ⟨a8, n8, c8, rfl⟩ := own_slice hown8; have J9n := Lib.hid (J9.out.grown hgrow8 (own_ne HA.out J9.out (by decide))); have J3n := Lib.hid (J3.out.grown hgrow8 (own_ne HA.out J3.out (by decide))); have J6n := Lib.hid (J6.out.grown hgrow8 (own_ne HA.out J6.out (by decide))); have HY := Lib.hid (own_kept HY.out HA.out (by decide) hgrow8); have JBn := Lib.hid (JB.out.grown hgrow8 JB.out.size (fun k e => (HA.out.lt k e).1)); have J9 := J9n; have J3 := J3n; have J6 := J6n; have JB := JBn; have HA := Lib.hid hown8; have c0 := J3.out.at 0 rfl; have c4 := J9.out.at 4 rfl; have f4 := J9.out.free 4; have l9 := J9.out.lt; clear hown8 hgrow8 hob8 J9n J3n J6n JBn HZ)
                          refine hK.out _ _ (by (try dsimp only); (first | assumption | go_keep)) (fun hHeld => ?_)
                          clear hK K
                          (try simp only [Act.put, List.setIfInBounds_toArray, List.set_cons_zero, List.set_cons_succ])
                          refine wpAnyH_take (i := 12) (oi := (Oper.mk (some 95) (Op.fieldAddr 78 (Operand.tmp 11) 1) 0 "ref.go:90" #[Edge.mk 0 Ground.phase, Edge.mk 1 Ground.phase, Edge.mk 2 Ground.phase, Edge.mk 3 Ground.phase, Edge.mk 4 Ground.phase, Edge.mk 5 Ground.phase, Edge.mk 6 Ground.phase, Edge.mk 7 Ground.phase, Edge.mk 8 Ground.phase, Edge.mk 9 Ground.phase, Edge.mk 10 Ground.phase, Edge.mk 11 Ground.phase] none)) (v := ?_) rfl (by kernel_rfl) (by kernel_rfl) (by kernel_rfl) (fun _ _ _ h => h) (Or.inl ⟨by rfl, ?_⟩) (by assumption) ?_
                          rotate_left
                          · (intro w hSw; (try dsimp only at hSw); go_simp; first | done | with_reducible rfl)
                          (try simp only [Act.put, List.setIfInBounds_toArray, List.set_cons_zero, List.set_cons_succ])
                          refine wpAnyH_ready (rs := [13]) (by kernel_rfl) (by simp) ?_
                          refine AllReadyH.cons (o := (Oper.mk none (Op.store 76 (Operand.tmp 95) (Operand.tmp 94)) 0 "ref.go:90" #[Edge.mk 12 Ground.data, Edge.mk 11 Ground.data, Edge.mk 11 Ground.chain, Edge.mk 0 Ground.phase, Edge.mk 1 Ground.phase, Edge.mk 2 Ground.phase, Edge.mk 3 Ground.phase, Edge.mk 4 Ground.phase, Edge.mk 5 Ground.phase, Edge.mk 6 Ground.phase, Edge.mk 7 Ground.phase, Edge.mk 8 Ground.phase, Edge.mk 9 Ground.phase, Edge.mk 10 Ground.phase, Edge.mk 11 Ground.phase] none)) rfl (fun K hK => ?_) (AllReadyH.nil)
                          go_simp
                          (refine nameW (fun wx hwx => ?_); have HAn := Lib.hid (own_set (p := ⟨b9, 4, none⟩) HA.out (own_ne HA.out J9.out (by decide)) (.slice a8 n8 c8)); have HYn := Lib.hid (own_set (p := ⟨b9, 4, none⟩) HY.out (own_ne HY.out J9.out (by decide)) (.slice a8 n8 c8)); have J9n : Hid (Blk wx b9 78 [.int .i64 i1, .int .i64 i2, .int .i64 i3, .bool i4, .slice a8 n8 c8, .int .i64 (dk : Int)]) := Lib.hid (by rw [hwx]; exact Blk.cast (J9.out.setCell 4 _) rfl); have J3n : Hid (Blk wx b3 45 [.int .i64 tk, .slice (some ⟨bR, oR, none⟩) n c]) := Lib.hid (by rw [hwx]; exact J3.out.setOther (p := ⟨b9, 4, none⟩) (fun e => HN3.out.1 e.symm) _); have J6n : Hid (Blk wx (b3 + 1) 45 [.int .i64 0, .slice none 0 0]) := Lib.hid (by rw [hwx]; exact J6.out.setOther (p := ⟨b9, 4, none⟩) (fun e => HN3.out.2.1 e.symm) _); have JBn : Hid (Below w.heap.size w wx) := Lib.hid (by rw [hwx]; exact JB.out.setCell (p := ⟨b9, 4, none⟩) HN3.out.2.2 _); rw [← hwx] at HAn HYn; have J9 := J9n; have J3 := J3n; have J6 := J6n; have JB := JBn; have HA := HAn; have HY := HYn; have c0 := J3.out.at 0 rfl; clear hwx J9n J3n J6n JBn HAn HYn)
                          refine hK.out _ _ (by (try dsimp only); (first | assumption | go_keep)) (fun hHeld => ?_)
                          clear hK K
                          (try simp only [Act.put, List.setIfInBounds_toArray, List.set_cons_zero, List.set_cons_succ])
                          refine wpAnyH_done (by kernel_rfl) ?_ _
                        case' st6ta88ex7 =>
                          go_simp
                          (refine nameW (fun wx hwx => ?_); (try replace hwx := drew_alloc hwx); have hBx := al_of hwx; have HYn := Lib.hid (own_mk (B := w.heap.size) (sz := 1) hwx JB.out.size); have J9 := Lib.hid (J9.out.below hBx (Nat.le_refl _)); have J3 := Lib.hid (J3.out.below hBx (Nat.le_refl _)); have J6 := Lib.hid (J6.out.below hBx (Nat.le_refl _)); (try have HA := Lib.hid (own_below HA.out hBx (Nat.le_refl _))); (try have HY := Lib.hid (own_below HY.out hBx (Nat.le_refl _))); (try have HZ := Lib.hid (HZ.out.below hBx (Nat.le_refl _))); have JB := Lib.hid (JB.out.trans (hBx.mono JB.out.size)); have c0 := J3.out.at 0 rfl; have c4 := J9.out.at 4 rfl; have f4 := J9.out.free 4; have l9 := J9.out.lt; have HY := HYn; clear HYn hBx hwx)
                          refine hK.out _ _ (by (try dsimp only); (first | assumption | go_keep)) (fun hHeld => ?_)
                          clear hK K
                          (try simp only [Act.put, List.setIfInBounds_toArray, List.set_cons_zero, List.set_cons_succ])
                          refine wpAnyH_ready (rs := [3]) (by kernel_rfl) (by simp) ?_
                          refine AllReadyH.cons (o := (Oper.mk (some 86) (Op.call (Call.mk (Callee.builtin Builtin.append) #[Operand.tmp 83, Operand.tmp 85] #[76, 76])) 76 "ref.go:90" #[Edge.mk 0 Ground.data, Edge.mk 2 Ground.data] none)) rfl (fun K hK => ?_) (AllReadyH.nil)
                          (refine step_append_opt _ (by rfl) (.tmp 83) (.tmp 85) 76 (by rfl) w.heap.size 81 ji _ 3 40 Try.underlying76 HJ1.out hz0 hz1 hz2 (by rfl) (by decide) _ 0 [] (by rfl) HA.out aK mk cK xs (by rfl) HXL.out (src_low HSRC.out JB.out) HONE.out (by have := HMB.out; unfold maxLen; omega) (by have := HMB.out; omega) JB.out.size ?_; intro v8 w8 hown8 hgrow8 hob8; rw [Nat.zero_add, List.nil_append] at hown8; obtain ⟨a8, n8, c8, rfl⟩ := own_slice hown8; have J9n := Lib.hid (J9.out.grown hgrow8 (own_ne HA.out J9.out (by decide))); have J3n := Lib.hid (J3.out.grown hgrow8 (own_ne HA.out J3.out (by decide))); have J6n := Lib.hid (J6.out.grown hgrow8 (own_ne HA.out J6.out (by decide))); (try have HY := Lib.hid (own_kept HY.out HA.out (by decide) hgrow8)); (try have HZ2 := Lib.hid (HZ.out.grown hgrow8 HZN.out)); (try have HZN := Lib.hid (zn3 HZ.out HZN.out hob8)); (try have HZ := HZ2); have JBn := Lib.hid (JB.out.grown hgrow8 JB.out.size (fun k e => (HA.out.lt k e).1)); have J9 := J9n; have J3 := J3n; have J6 := J6n; have JB := JBn; have HA := Lib.hid hown8; have c0 := J3.out.at 0 rfl; have c4 := J9.out.at 4 rfl; have f4 := J9.out.free 4; have l9 := J9.out.lt; clear hown8 hgrow8 hob8 J9n J3n J6n JBn)
                          refine hK.out _ _ (by (try dsimp only); (first | assumption | go_keep)) (fun hHeld => ?_)
                          clear hK K
                          (try simp only [Act.put, List.setIfInBounds_toArray, List.set_cons_zero, List.set_cons_succ])
                          refine wpAnyH_ready (rs := [8]) (by kernel_rfl) (by simp) ?_
                          refine AllReadyH.cons (o := (Oper.mk (some 91) (Op.call (Call.mk (Callee.builtin Builtin.append) #[Operand.tmp 89, Operand.tmp 90] #[31, 31])) 31 "ref.go:90" #[Edge.mk 6 Ground.data, Edge.mk 7 Ground.data, Edge.mk 3 Ground.chain] none)) rfl (fun K hK => ?_) (AllReadyH.nil)
                          (refine step_append_src _ (by rfl) (.tmp 89) (.tmp 90) 31 (by rfl) w.heap.size 5 jb _ 1 Try.underlying31 HJB.out hy0 hy1 hy2 (by rfl) _ 0 [] (by rfl) HY.out ab ml cb (encB l) (by rfl) (by rw [encB_length]; exact HML.out) (HBA.out.below JB.out (Nat.le_refl _)).vat (encB_one l) (by have := HMX.out; unfold maxLen; omega) (by have := HMX.out; omega) JB.out.size ?_; intro v8 w8 hown8 hgrow8 hob8; rw [Nat.zero_add, List.nil_append] at hown8; obtain ⟨a9, n9, c9, rfl⟩ := own_slice hown8; have J9n := Lib.hid (J9.out.grown hgrow8 (own_ne HY.out J9.out (by decide))); have J3n := Lib.hid (J3.out.grown hgrow8 (own_ne HY.out J3.out (by decide))); have J6n := Lib.hid (J6.out.grown hgrow8 (own_ne HY.out J6.out (by decide))); (try have HA := Lib.hid (own_kept HA.out HY.out (by decide) hgrow8)); have JBn := Lib.hid (JB.out.grown hgrow8 JB.out.size (fun k e => (HY.out.lt k e).1)); have J9 := J9n; have J3 := J3n; have J6 := J6n; have JB := JBn; have HY := Lib.hid hown8; have c0 := J3.out.at 0 rfl; have c4 := J9.out.at 4 rfl; have f4 := J9.out.free 4; have l9 := J9.out.lt; clear hown8 hgrow8 hob8 J9n J3n J6n JBn)
                          refine hK.out _ _ (by (try dsimp only); (first | assumption | go_keep)) (fun hHeld => ?_)
                          clear hK K
                          (try simp only [Act.put, List.setIfInBounds_toArray, List.set_cons_zero, List.set_cons_succ])
                          refine wpAnyH_take (i := 9) (oi := (Oper.mk (some 92) (Op.build 81 #[(0, Operand.tmp 88), (1, Operand.tmp 91)]) 81 "ref.go:90" #[Edge.mk 5 Ground.data, Edge.mk 8 Ground.data] none)) (v := ?_) rfl (by kernel_rfl) (by kernel_rfl) (by kernel_rfl) (fun _ _ _ h => h) (Or.inl ⟨by rfl, ?_⟩) (by assumption) ?_
                          rotate_left
                          · (intro w hSw; (try dsimp only at hSw); go_simp; first | done | with_reducible rfl)
                          (try simp only [Act.put, List.setIfInBounds_toArray, List.set_cons_zero, List.set_cons_succ])
                          refine wpAnyH_ready (rs := [10]) (by kernel_rfl) (by simp) ?_
                          refine AllReadyH.cons (o := (Oper.mk (some 93) (Op.buildSlice 76 1 #[(0, Operand.tmp 92)]) 76 "ref.go:90" #[Edge.mk 9 Ground.data] none)) rfl (fun K hK => ?_) (AllReadyH.nil)
                          go_simp
                          (refine nameW (fun wx hwx => ?_); (try replace hwx := drew_alloc hwx); have hBx := al_of hwx; have HZn := Lib.hid (blk_mk (xs := [.int .i64 tk, .slice a9 n9 c9, .bool false]) hwx); (try have HZN := Lib.hid (zn10 HA.out)); have J9 := Lib.hid (J9.out.below hBx (Nat.le_refl _)); have J3 := Lib.hid (J3.out.below hBx (Nat.le_refl _)); have J6 := Lib.hid (J6.out.below hBx (Nat.le_refl _)); (try have HA := Lib.hid (own_below HA.out hBx (Nat.le_refl _))); (try have HY := Lib.hid (own_below HY.out hBx (Nat.le_refl _))); (try have HZ := Lib.hid (HZ.out.below hBx (Nat.le_refl _))); have JB := Lib.hid (JB.out.trans (hBx.mono JB.out.size)); have c0 := J3.out.at 0 rfl; have c4 := J9.out.at 4 rfl; have f4 := J9.out.free 4; have l9 := J9.out.lt; have HZ := HZn; clear HZn hBx hwx)
                          refine hK.out _ _ (by (try dsimp only); (first | assumption | go_keep)) (fun hHeld => ?_)
                          clear hK K
                          (try simp only [Act.put, List.setIfInBounds_toArray, List.set_cons_zero, List.set_cons_succ])
                          refine wpAnyH_ready (rs := [11]) (by kernel_rfl) (by simp) ?_
                          refine AllReadyH.cons (o := (Oper.mk (some 94) (Op.call (Call.mk (Callee.builtin Builtin.append) #[Operand.tmp 86, Operand.tmp 93] #[76, 76])) 76 "ref.go:90" #[Edge.mk 3 Ground.data, Edge.mk 10 Ground.data, Edge.mk 8 Ground.chain] none)) rfl (fun K hK => ?_) (AllReadyH.nil)
                          (refine step_append_opt _ (by rfl) (.tmp 86) (.tmp 93) 76 (by rfl) w.heap.size 81 ji _ 3 40 Try.underlying76 HJ1.out hz0 hz1 hz2 (by rfl) (by decide) _ mk xs (by rfl) HA.out _ 1 1 [.int .i64 tk, .slice a9 n9 c9, .bool false] (by rfl) (by rfl) (row_src HZ.out) (by intro v hv; simp at hv; rcases hv with rfl | rfl | rfl <;> rfl) (by have := HMB.out; unfold maxLen; omega) (by have := HMB.out; omega) JB.out.size ?_; intro v8 w8 hown8 hgrow8 hob8; obtain ⟨a8, n8, c8, rfl⟩ := own_slice hown8; have J9n := Lib.hid (J9.out.grown hgrow8 (own_ne HA.out J9.out (by decide))); have J3n := Lib.hid (J3.out.grown hgrow8 (own_ne HA.out J3.out (by decide))); have J6n := Lib.hid (J6.out.grown hgrow8 (own_ne HA.out J6.out (by decide))); have HY := Lib.hid (own_kept HY.out HA.out (by decide) hgrow8); have JBn := Lib.hid (JB.out.grown hgrow8 JB.out.size (fun k e => (HA.out.lt k e).1)); have J9 := J9n; have J3 := J3n; have J6 := J6n; have JB := JBn; have HA := Lib.hid hown8; have c0 := J3.out.at 0 rfl; have c4 := J9.out.at 4 rfl; have f4 := J9.out.free 4; have l9 := J9.out.lt; clear hown8 hgrow8 hob8 J9n J3n J6n JBn HZ)
                          refine hK.out _ _ (by (try dsimp only); (first | assumption | go_keep)) (fun hHeld => ?_)
                          clear hK K
                          (try simp only [Act.put, List.setIfInBounds_toArray, List.set_cons_zero, List.set_cons_succ])
                          refine wpAnyH_take (i := 12) (oi := (Oper.mk (some 95) (Op.fieldAddr 78 (Operand.tmp 11) 1) 0 "ref.go:90" #[Edge.mk 0 Ground.phase, Edge.mk 1 Ground.phase, Edge.mk 2 Ground.phase, Edge.mk 3 Ground.phase, Edge.mk 4 Ground.phase, Edge.mk 5 Ground.phase, Edge.mk 6 Ground.phase, Edge.mk 7 Ground.phase, Edge.mk 8 Ground.phase, Edge.mk 9 Ground.phase, Edge.mk 10 Ground.phase, Edge.mk 11 Ground.phase] none)) (v := ?_) rfl (by kernel_rfl) (by kernel_rfl) (by kernel_rfl) (fun _ _ _ h => h) (Or.inl ⟨by rfl, ?_⟩) (by assumption) ?_
                          rotate_left
                          · (intro w hSw; (try dsimp only at hSw); go_simp; first | done | with_reducible rfl)
                          (try simp only [Act.put, List.setIfInBounds_toArray, List.set_cons_zero, List.set_cons_succ])
                          refine wpAnyH_ready (rs := [13]) (by kernel_rfl) (by simp) ?_
                          refine AllReadyH.cons (o := (Oper.mk none (Op.store 76 (Operand.tmp 95) (Operand.tmp 94)) 0 "ref.go:90" #[Edge.mk 12 Ground.data, Edge.mk 11 Ground.data, Edge.mk 11 Ground.chain, Edge.mk 0 Ground.phase, Edge.mk 1 Ground.phase, Edge.mk 2 Ground.phase, Edge.mk 3 Ground.phase, Edge.mk 4 Ground.phase, Edge.mk 5 Ground.phase, Edge.mk 6 Ground.phase, Edge.mk 7 Ground.phase, Edge.mk 8 Ground.phase, Edge.mk 9 Ground.phase, Edge.mk 10 Ground.phase, Edge.mk 11 Ground.phase] none)) rfl (fun K hK => ?_) (AllReadyH.nil)
                          go_simp
                          (refine nameW (fun wx hwx => ?_); have HAn := Lib.hid (own_set (p := ⟨b9, 4, none⟩) HA.out (own_ne HA.out J9.out (by decide)) (.slice a8 n8 c8)); have HYn := Lib.hid (own_set (p := ⟨b9, 4, none⟩) HY.out (own_ne HY.out J9.out (by decide)) (.slice a8 n8 c8)); have J9n : Hid (Blk wx b9 78 [.int .i64 i1, .int .i64 i2, .int .i64 i3, .bool i4, .slice a8 n8 c8, .int .i64 (dk : Int)]) := Lib.hid (by rw [hwx]; exact Blk.cast (J9.out.setCell 4 _) rfl); have J3n : Hid (Blk wx b3 45 [.int .i64 tk, .slice (some ⟨bR, oR, none⟩) n c]) := Lib.hid (by rw [hwx]; exact J3.out.setOther (p := ⟨b9, 4, none⟩) (fun e => HN3.out.1 e.symm) _); have J6n : Hid (Blk wx (b3 + 1) 45 [.int .i64 0, .slice none 0 0]) := Lib.hid (by rw [hwx]; exact J6.out.setOther (p := ⟨b9, 4, none⟩) (fun e => HN3.out.2.1 e.symm) _); have JBn : Hid (Below w.heap.size w wx) := Lib.hid (by rw [hwx]; exact JB.out.setCell (p := ⟨b9, 4, none⟩) HN3.out.2.2 _); rw [← hwx] at HAn HYn; have J9 := J9n; have J3 := J3n; have J6 := J6n; have JB := JBn; have HA := HAn; have HY := HYn; have c0 := J3.out.at 0 rfl; clear hwx J9n J3n J6n JBn HAn HYn)
                          refine hK.out _ _ (by (try dsimp only); (first | assumption | go_keep)) (fun hHeld => ?_)
                          clear hK K
                          (try simp only [Act.put, List.setIfInBounds_toArray, List.set_cons_zero, List.set_cons_succ])
                          refine wpAnyH_done (by kernel_rfl) ?_ _
                      case' st6ta88ex6 =>
                        go_simp
                        (refine nameW (fun wx hwx => ?_); (try replace hwx := drew_alloc hwx); have hBx := al_of hwx; have HYn := Lib.hid (own_mk (B := w.heap.size) (sz := 1) hwx JB.out.size); have J9 := Lib.hid (J9.out.below hBx (Nat.le_refl _)); have J3 := Lib.hid (J3.out.below hBx (Nat.le_refl _)); have J6 := Lib.hid (J6.out.below hBx (Nat.le_refl _)); (try have HA := Lib.hid (own_below HA.out hBx (Nat.le_refl _))); (try have HY := Lib.hid (own_below HY.out hBx (Nat.le_refl _))); (try have HZ := Lib.hid (HZ.out.below hBx (Nat.le_refl _))); have JB := Lib.hid (JB.out.trans (hBx.mono JB.out.size)); have c0 := J3.out.at 0 rfl; have c4 := J9.out.at 4 rfl; have f4 := J9.out.free 4; have l9 := J9.out.lt; have HY := HYn; clear HYn hBx hwx)
                        refine hK.out _ _ (by (try dsimp only); (first | assumption | go_keep)) (fun hHeld => ?_)
                        clear hK K
                        (try simp only [Act.put, List.setIfInBounds_toArray, List.set_cons_zero, List.set_cons_succ])
                        refine wpAnyH_ready (rs := [2]) (by kernel_rfl) (by simp) ?_
                        refine AllReadyH.cons (o := (Oper.mk (some 85) (Op.load 76 (Operand.tmp 84)) 76 "ref.go:90" #[Edge.mk 1 Ground.data] none)) rfl (fun K hK => ?_) (AllReadyH.nil)
                        go_simp
                        skip
                        refine hK.out _ _ (by (try dsimp only); (first | assumption | go_keep)) (fun hHeld => ?_)
                        clear hK K
                        (try simp only [Act.put, List.setIfInBounds_toArray, List.set_cons_zero, List.set_cons_succ])
                        refine wpAnyH_ready (rs := [3]) (by kernel_rfl) (by simp) ?_
                        refine AllReadyH.cons (o := (Oper.mk (some 86) (Op.call (Call.mk (Callee.builtin Builtin.append) #[Operand.tmp 83, Operand.tmp 85] #[76, 76])) 76 "ref.go:90" #[Edge.mk 0 Ground.data, Edge.mk 2 Ground.data] none)) rfl (fun K hK => ?_) (AllReadyH.nil)
                        (refine step_append_opt _ (by rfl) (.tmp 83) (.tmp 85) 76 (by rfl) w.heap.size 81 ji _ 3 40 Try.underlying76 HJ1.out hz0 hz1 hz2 (by rfl) (by decide) _ 0 [] (by rfl) HA.out aK mk cK xs (by rfl) HXL.out (src_low HSRC.out JB.out) HONE.out (by have := HMB.out; unfold maxLen; omega) (by have := HMB.out; omega) JB.out.size ?_; intro v8 w8 hown8 hgrow8 hob8; rw [Nat.zero_add, List.nil_append] at hown8; obtain ⟨a8, n8, c8, rfl⟩ := own_slice hown8; have J9n := Lib.hid (J9.out.grown hgrow8 (own_ne HA.out J9.out (by decide))); have J3n := Lib.hid (J3.out.grown hgrow8 (own_ne HA.out J3.out (by decide))); have J6n := Lib.hid (J6.out.grown hgrow8 (own_ne HA.out J6.out (by decide))); (try have HY := Lib.hid (own_kept HY.out HA.out (by decide) hgrow8)); (try have HZ2 := Lib.hid (HZ.out.grown hgrow8 HZN.out)); (try have HZN := Lib.hid (zn3 HZ.out HZN.out hob8)); (try have HZ := HZ2); have JBn := Lib.hid (JB.out.grown hgrow8 JB.out.size (fun k e => (HA.out.lt k e).1)); have J9 := J9n; have J3 := J3n; have J6 := J6n; have JB := JBn; have HA := Lib.hid hown8; have c0 := J3.out.at 0 rfl; have c4 := J9.out.at 4 rfl; have f4 := J9.out.free 4; have l9 := J9.out.lt; clear hown8 hgrow8 hob8 J9n J3n J6n JBn)
                        refine hK.out _ _ (by (try dsimp only); (first | assumption | go_keep)) (fun hHeld => ?_)
                        clear hK K
                        (try simp only [Act.put, List.setIfInBounds_toArray, List.set_cons_zero, List.set_cons_succ])
                        refine wpAnyH_ready (rs := [8]) (by kernel_rfl) (by simp) ?_
                        refine AllReadyH.cons (o := (Oper.mk (some 91) (Op.call (Call.mk (Callee.builtin Builtin.append) #[Operand.tmp 89, Operand.tmp 90] #[31, 31])) 31 "ref.go:90" #[Edge.mk 6 Ground.data, Edge.mk 7 Ground.data, Edge.mk 3 Ground.chain] none)) rfl (fun K hK => ?_) (AllReadyH.nil)
                        (refine step_append_src _ (by rfl) (.tmp 89) (.tmp 90) 31 (by rfl) w.heap.size 5 jb _ 1 Try.underlying31 HJB.out hy0 hy1 hy2 (by rfl) _ 0 [] (by rfl) HY.out ab ml cb (encB l) (by rfl) (by rw [encB_length]; exact HML.out) (HBA.out.below JB.out (Nat.le_refl _)).vat (encB_one l) (by have := HMX.out; unfold maxLen; omega) (by have := HMX.out; omega) JB.out.size ?_; intro v8 w8 hown8 hgrow8 hob8; rw [Nat.zero_add, List.nil_append] at hown8; obtain ⟨a9, n9, c9, rfl⟩ := own_slice hown8; have J9n := Lib.hid (J9.out.grown hgrow8 (own_ne HY.out J9.out (by decide))); have J3n := Lib.hid (J3.out.grown hgrow8 (own_ne HY.out J3.out (by decide))); have J6n := Lib.hid (J6.out.grown hgrow8 (own_ne HY.out J6.out (by decide))); (try have HA := Lib.hid (own_kept HA.out HY.out (by decide) hgrow8)); have JBn := Lib.hid (JB.out.grown hgrow8 JB.out.size (fun k e => (HY.out.lt k e).1)); have J9 := J9n; have J3 := J3n; have J6 := J6n; have JB := JBn; have HY := Lib.hid hown8; have c0 := J3.out.at 0 rfl; have c4 := J9.out.at 4 rfl; have f4 := J9.out.free 4; have l9 := J9.out.lt; clear hown8 hgrow8 hob8 J9n J3n J6n JBn)
                        refine hK.out _ _ (by (try dsimp only); (first | assumption | go_keep)) (fun hHeld => ?_)
                        clear hK K
                        (try simp only [Act.put, List.setIfInBounds_toArray, List.set_cons_zero, List.set_cons_succ])
                        refine wpAnyH_take (i := 9) (oi := (Oper.mk (some 92) (Op.build 81 #[(0, Operand.tmp 88), (1, Operand.tmp 91)]) 81 "ref.go:90" #[Edge.mk 5 Ground.data, Edge.mk 8 Ground.data] none)) (v := ?_) rfl (by kernel_rfl) (by kernel_rfl) (by kernel_rfl) (fun _ _ _ h => h) (Or.inl ⟨by rfl, ?_⟩) (by assumption) ?_
                        rotate_left
                        · (intro w hSw; (try dsimp only at hSw); go_simp; first | done | with_reducible rfl)
                        (try simp only [Act.put, List.setIfInBounds_toArray, List.set_cons_zero, List.set_cons_succ])
                        refine wpAnyH_ready (rs := [10]) (by kernel_rfl) (by simp) ?_
                        refine AllReadyH.cons (o := (Oper.mk (some 93) (Op.buildSlice 76 1 #[(0, Operand.tmp 92)]) 76 "ref.go:90" #[Edge.mk 9 Ground.data] none)) rfl (fun K hK => ?_) (AllReadyH.nil)
                        go_simp
                        (refine nameW (fun wx hwx => ?_); (try replace hwx := drew_alloc hwx); have hBx := al_of hwx; have HZn := Lib.hid (blk_mk (xs := [.int .i64 tk, .slice a9 n9 c9, .bool false]) hwx); (try have HZN := Lib.hid (zn10 HA.out)); have J9 := Lib.hid (J9.out.below hBx (Nat.le_refl _)); have J3 := Lib.hid (J3.out.below hBx (Nat.le_refl _)); have J6 := Lib.hid (J6.out.below hBx (Nat.le_refl _)); (try have HA := Lib.hid (own_below HA.out hBx (Nat.le_refl _))); (try have HY := Lib.hid (own_below HY.out hBx (Nat.le_refl _))); (try have HZ := Lib.hid (HZ.out.below hBx (Nat.le_refl _))); have JB := Lib.hid (JB.out.trans (hBx.mono JB.out.size)); have c0 := J3.out.at 0 rfl; have c4 := J9.out.at 4 rfl; have f4 := J9.out.free 4; have l9 := J9.out.lt; have HZ := HZn; clear HZn hBx hwx)
                        refine hK.out _ _ (by (try dsimp only); (first | assumption | go_keep)) (fun hHeld => ?_)
                        clear hK K
                        (try simp only [Act.put, List.setIfInBounds_toArray, List.set_cons_zero, List.set_cons_succ])
                        refine wpAnyH_ready (rs := [11]) (by kernel_rfl) (by simp) ?_
                        refine AllReadyH.cons (o := (Oper.mk (some 94) (Op.call (Call.mk (Callee.builtin Builtin.append) #[Operand.tmp 86, Operand.tmp 93] #[76, 76])) 76 "ref.go:90" #[Edge.mk 3 Ground.data, Edge.mk 10 Ground.data, Edge.mk 8 Ground.chain] none)) rfl (fun K hK => ?_) (AllReadyH.nil)
                        (refine step_append_opt _ (by rfl) (.tmp 86) (.tmp 93) 76 (by rfl) w.heap.size 81 ji _ 3 40 Try.underlying76 HJ1.out hz0 hz1 hz2 (by rfl) (by decide) _ mk xs (by rfl) HA.out _ 1 1 [.int .i64 tk, .slice a9 n9 c9, .bool false] (by rfl) (by rfl) (row_src HZ.out) (by intro v hv; simp at hv; rcases hv with rfl | rfl | rfl <;> rfl) (by have := HMB.out; unfold maxLen; omega) (by have := HMB.out; omega) JB.out.size ?_; intro v8 w8 hown8 hgrow8 hob8; obtain ⟨a8, n8, c8, rfl⟩ := own_slice hown8; have J9n := Lib.hid (J9.out.grown hgrow8 (own_ne HA.out J9.out (by decide))); have J3n := Lib.hid (J3.out.grown hgrow8 (own_ne HA.out J3.out (by decide))); have J6n := Lib.hid (J6.out.grown hgrow8 (own_ne HA.out J6.out (by decide))); have HY := Lib.hid (own_kept HY.out HA.out (by decide) hgrow8); have JBn := Lib.hid (JB.out.grown hgrow8 JB.out.size (fun k e => (HA.out.lt k e).1)); have J9 := J9n; have J3 := J3n; have J6 := J6n; have JB := JBn; have HA := Lib.hid hown8; have c0 := J3.out.at 0 rfl; have c4 := J9.out.at 4 rfl; have f4 := J9.out.free 4; have l9 := J9.out.lt; clear hown8 hgrow8 hob8 J9n J3n J6n JBn HZ)
                        refine hK.out _ _ (by (try dsimp only); (first | assumption | go_keep)) (fun hHeld => ?_)
                        clear hK K
                        (try simp only [Act.put, List.setIfInBounds_toArray, List.set_cons_zero, List.set_cons_succ])
                        refine wpAnyH_take (i := 12) (oi := (Oper.mk (some 95) (Op.fieldAddr 78 (Operand.tmp 11) 1) 0 "ref.go:90" #[Edge.mk 0 Ground.phase, Edge.mk 1 Ground.phase, Edge.mk 2 Ground.phase, Edge.mk 3 Ground.phase, Edge.mk 4 Ground.phase, Edge.mk 5 Ground.phase, Edge.mk 6 Ground.phase, Edge.mk 7 Ground.phase, Edge.mk 8 Ground.phase, Edge.mk 9 Ground.phase, Edge.mk 10 Ground.phase, Edge.mk 11 Ground.phase] none)) (v := ?_) rfl (by kernel_rfl) (by kernel_rfl) (by kernel_rfl) (fun _ _ _ h => h) (Or.inl ⟨by rfl, ?_⟩) (by assumption) ?_
                        rotate_left
                        · (intro w hSw; (try dsimp only at hSw); go_simp; first | done | with_reducible rfl)
                        (try simp only [Act.put, List.setIfInBounds_toArray, List.set_cons_zero, List.set_cons_succ])
                        refine wpAnyH_ready (rs := [13]) (by kernel_rfl) (by simp) ?_
                        refine AllReadyH.cons (o := (Oper.mk none (Op.store 76 (Operand.tmp 95) (Operand.tmp 94)) 0 "ref.go:90" #[Edge.mk 12 Ground.data, Edge.mk 11 Ground.data, Edge.mk 11 Ground.chain, Edge.mk 0 Ground.phase, Edge.mk 1 Ground.phase, Edge.mk 2 Ground.phase, Edge.mk 3 Ground.phase, Edge.mk 4 Ground.phase, Edge.mk 5 Ground.phase, Edge.mk 6 Ground.phase, Edge.mk 7 Ground.phase, Edge.mk 8 Ground.phase, Edge.mk 9 Ground.phase, Edge.mk 10 Ground.phase, Edge.mk 11 Ground.phase] none)) rfl (fun K hK => ?_) (AllReadyH.nil)
                        go_simp
                        (refine nameW (fun wx hwx => ?_); have HAn := Lib.hid (own_set (p := ⟨b9, 4, none⟩) HA.out (own_ne HA.out J9.out (by decide)) (.slice a8 n8 c8)); have HYn := Lib.hid (own_set (p := ⟨b9, 4, none⟩) HY.out (own_ne HY.out J9.out (by decide)) (.slice a8 n8 c8)); have J9n : Hid (Blk wx b9 78 [.int .i64 i1, .int .i64 i2, .int .i64 i3, .bool i4, .slice a8 n8 c8, .int .i64 (dk : Int)]) := Lib.hid (by rw [hwx]; exact Blk.cast (J9.out.setCell 4 _) rfl); have J3n : Hid (Blk wx b3 45 [.int .i64 tk, .slice (some ⟨bR, oR, none⟩) n c]) := Lib.hid (by rw [hwx]; exact J3.out.setOther (p := ⟨b9, 4, none⟩) (fun e => HN3.out.1 e.symm) _); have J6n : Hid (Blk wx (b3 + 1) 45 [.int .i64 0, .slice none 0 0]) := Lib.hid (by rw [hwx]; exact J6.out.setOther (p := ⟨b9, 4, none⟩) (fun e => HN3.out.2.1 e.symm) _); have JBn : Hid (Below w.heap.size w wx) := Lib.hid (by rw [hwx]; exact JB.out.setCell (p := ⟨b9, 4, none⟩) HN3.out.2.2 _); rw [← hwx] at HAn HYn; have J9 := J9n; have J3 := J3n; have J6 := J6n; have JB := JBn; have HA := HAn; have HY := HYn; have c0 := J3.out.at 0 rfl; clear hwx J9n J3n J6n JBn HAn HYn)
                        refine hK.out _ _ (by (try dsimp only); (first | assumption | go_keep)) (fun hHeld => ?_)
                        clear hK K
                        (try simp only [Act.put, List.setIfInBounds_toArray, List.set_cons_zero, List.set_cons_succ])
                        refine wpAnyH_done (by kernel_rfl) ?_ _
                    case' st2ta88ex5 =>
                      go_simp
                      skip
                      refine hK.out _ _ (by (try dsimp only); (first | assumption | go_keep)) (fun hHeld => ?_)
                      clear hK K
                      (try simp only [Act.put, List.setIfInBounds_toArray, List.set_cons_zero, List.set_cons_succ])
                      refine wpAnyH_ready (rs := [0, 6]) (by kernel_rfl) (by simp) ?_
                      refine AllReadyH.cons (o := (Oper.mk (some 83) (Op.buildSlice 76 0 #[]) 76 "ref.go:90" #[] none)) rfl (fun K hK => ?st0ta88ex30) (AllReadyH.cons (o := (Oper.mk (some 89) (Op.buildSlice 31 0 #[]) 31 "ref.go:90" #[] none)) rfl (fun K hK => ?st6ta88ex30) (AllReadyH.nil))
                      case' st0ta88ex30 =>
                        go_simp
                        (refine nameW (fun wx hwx => ?_); (try replace hwx := drew_alloc hwx); have hBx := al_of hwx; have HAn := Lib.hid (own_mk (B := w.heap.size) (sz := 3) hwx JB.out.size); (try have HZN := Lib.hid (zn0 HZ.out)); have J9 := Lib.hid (J9.out.below hBx (Nat.le_refl _)); have J3 := Lib.hid (J3.out.below hBx (Nat.le_refl _)); have J6 := Lib.hid (J6.out.below hBx (Nat.le_refl _)); (try have HA := Lib.hid (own_below HA.out hBx (Nat.le_refl _))); (try have HY := Lib.hid (own_below HY.out hBx (Nat.le_refl _))); (try have HZ := Lib.hid (HZ.out.below hBx (Nat.le_refl _))); have JB := Lib.hid (JB.out.trans (hBx.mono JB.out.size)); have c0 := J3.out.at 0 rfl; have c4 := J9.out.at 4 rfl; have f4 := J9.out.free 4; have l9 := J9.out.lt; have HA := HAn; clear HAn hBx hwx)
                        refine hK.out _ _ (by (try dsimp only); (first | assumption | go_keep)) (fun hHeld => ?_)
                        clear hK K
                        (try simp only [Act.put, List.setIfInBounds_toArray, List.set_cons_zero, List.set_cons_succ])
                        refine wpAnyH_ready (rs := [3, 6]) (by kernel_rfl) (by simp) ?_
                        refine AllReadyH.cons (o := (Oper.mk (some 86) (Op.call (Call.mk (Callee.builtin Builtin.append) #[Operand.tmp 83, Operand.tmp 85] #[76, 76])) 76 "ref.go:90" #[Edge.mk 0 Ground.data, Edge.mk 2 Ground.data] none)) rfl (fun K hK => ?st3ta88ex31) (AllReadyH.cons (o := (Oper.mk (some 89) (Op.buildSlice 31 0 #[]) 31 "ref.go:90" #[] none)) rfl (fun K hK => ?st6ta88ex31) (AllReadyH.nil))
                        case' st3ta88ex31 =>
                          (refine step_append_opt _ (by rfl) (.tmp 83) (.tmp 85) 76 (by rfl) w.heap.size 81 ji _ 3 40 Try.underlying76 HJ1.out hz0 hz1 hz2 (by rfl) (by decide) _ 0 [] (by rfl) HA.out aK mk cK xs (by rfl) HXL.out (src_low HSRC.out JB.out) HONE.out (by have := HMB.out; unfold maxLen; omega) (by have := HMB.out; omega) JB.out.size ?_; intro v8 w8 hown8 hgrow8 hob8; rw [Nat.zero_add, List.nil_append] at hown8; obtain ⟨a8, n8, c8, rfl⟩ := own_slice hown8; have J9n := Lib.hid (J9.out.grown hgrow8 (own_ne HA.out J9.out (by decide))); have J3n := Lib.hid (J3.out.grown hgrow8 (own_ne HA.out J3.out (by decide))); have J6n := Lib.hid (J6.out.grown hgrow8 (own_ne HA.out J6.out (by decide))); (try have HY := Lib.hid (own_kept HY.out HA.out (by decide) hgrow8)); (try have HZ2 := Lib.hid (HZ.out.grown hgrow8 HZN.out)); (try have HZN := Lib.hid (zn3 HZ.out HZN.out hob8)); (try have HZ := HZ2); have JBn := Lib.hid (JB.out.grown hgrow8 JB.out.size (fun k e => (HA.out.lt k e).1)); have J9 := J9n; have J3 := J3n; have J6 := J6n; have JB := JBn; have HA := Lib.hid hown8; have c0 := J3.out.at 0 rfl; have c4 := J9.out.at 4 rfl; have f4 := J9.out.free 4; have l9 := J9.out.lt; clear hown8 hgrow8 hob8 J9n J3n J6n JBn)
                          refine hK.out _ _ (by (try dsimp only); (first | assumption | go_keep)) (fun hHeld => ?_)
                          clear hK K
                          (try simp only [Act.put, List.setIfInBounds_toArray, List.set_cons_zero, List.set_cons_succ])
                          refine wpAnyH_ready (rs := [6]) (by kernel_rfl) (by simp) ?_
                          refine AllReadyH.cons (o := (Oper.mk (some 89) (Op.buildSlice 31 0 #[]) 31 "ref.go:90" #[] none)) rfl (fun K hK => ?_) (AllReadyH.nil)
                          go_simp
                          (refine nameW (fun wx hwx => ?_); (try replace hwx := drew_alloc hwx); have hBx := al_of hwx; have HYn := Lib.hid (own_mk (B := w.heap.size) (sz := 1) hwx JB.out.size); have J9 := Lib.hid (J9.out.below hBx (Nat.le_refl _)); have J3 := Lib.hid (J3.out.below hBx (Nat.le_refl _)); have J6 := Lib.hid (J6.out.below hBx (Nat.le_refl _)); (try have HA := Lib.hid (own_below HA.out hBx (Nat.le_refl _))); (try have HY := Lib.hid (own_below HY.out hBx (Nat.le_refl _))); (try have HZ := Lib.hid (HZ.out.below hBx (Nat.le_refl _))); have JB := Lib.hid (JB.out.trans (hBx.mono JB.out.size)); have c0 := J3.out.at 0 rfl; have c4 := J9.out.at 4 rfl; have f4 := J9.out.free 4; have l9 := J9.out.lt; have HY := HYn; clear HYn hBx hwx)
                          refine hK.out _ _ (by (try dsimp only); (first | assumption | go_keep)) (fun hHeld => ?_)
                          clear hK K
                          (try simp only [Act.put, List.setIfInBounds_toArray, List.set_cons_zero, List.set_cons_succ])
                          refine wpAnyH_ready (rs := [8]) (by kernel_rfl) (by simp) ?_
                          refine AllReadyH.cons (o := (Oper.mk (some 91) (Op.call (Call.mk (Callee.builtin Builtin.append) #[Operand.tmp 89, Operand.tmp 90] #[31, 31])) 31 "ref.go:90" #[Edge.mk 6 Ground.data, Edge.mk 7 Ground.data, Edge.mk 3 Ground.chain] none)) rfl (fun K hK => ?_) (AllReadyH.nil)
                          (refine step_append_src _ (by rfl) (.tmp 89) (.tmp 90) 31 (by rfl) w.heap.size 5 jb _ 1 Try.underlying31 HJB.out hy0 hy1 hy2 (by rfl) _ 0 [] (by rfl) HY.out ab ml cb (encB l) (by rfl) (by rw [encB_length]; exact HML.out) (HBA.out.below JB.out (Nat.le_refl _)).vat (encB_one l) (by have := HMX.out; unfold maxLen; omega) (by have := HMX.out; omega) JB.out.size ?_; intro v8 w8 hown8 hgrow8 hob8; rw [Nat.zero_add, List.nil_append] at hown8; obtain ⟨a9, n9, c9, rfl⟩ := own_slice hown8; have J9n := Lib.hid (J9.out.grown hgrow8 (own_ne HY.out J9.out (by decide))); have J3n := Lib.hid (J3.out.grown hgrow8 (own_ne HY.out J3.out (by decide))); have J6n := Lib.hid (J6.out.grown hgrow8 (own_ne HY.out J6.out (by decide))); (try have HA := Lib.hid (own_kept HA.out HY.out (by decide) hgrow8)); have JBn := Lib.hid (JB.out.grown hgrow8 JB.out.size (fun k e => (HY.out.lt k e).1)); have J9 := J9n; have J3 := J3n; have J6 := J6n; have JB := JBn; have HY := Lib.hid hown8; have c0 := J3.out.at 0 rfl; have c4 := J9.out.at 4 rfl; have f4 := J9.out.free 4; have l9 := J9.out.lt; clear hown8 hgrow8 hob8 J9n J3n J6n JBn)
                          refine hK.out _ _ (by (try dsimp only); (first | assumption | go_keep)) (fun hHeld => ?_)
                          clear hK K
                          (try simp only [Act.put, List.setIfInBounds_toArray, List.set_cons_zero, List.set_cons_succ])
                          refine wpAnyH_take (i := 9) (oi := (Oper.mk (some 92) (Op.build 81 #[(0, Operand.tmp 88), (1, Operand.tmp 91)]) 81 "ref.go:90" #[Edge.mk 5 Ground.data, Edge.mk 8 Ground.data] none)) (v := ?_) rfl (by kernel_rfl) (by kernel_rfl) (by kernel_rfl) (fun _ _ _ h => h) (Or.inl ⟨by rfl, ?_⟩) (by assumption) ?_
                          rotate_left
                          · (intro w hSw; (try dsimp only at hSw); go_simp; first | done | with_reducible rfl)
                          (try simp only [Act.put, List.setIfInBounds_toArray, List.set_cons_zero, List.set_cons_succ])
                          refine wpAnyH_ready (rs := [10]) (by kernel_rfl) (by simp) ?_
                          refine AllReadyH.cons (o := (Oper.mk (some 93) (Op.buildSlice 76 1 #[(0, Operand.tmp 92)]) 76 "ref.go:90" #[Edge.mk 9 Ground.data] none)) rfl (fun K hK => ?_) (AllReadyH.nil)
                          go_simp
                          (refine nameW (fun wx hwx => ?_); (try replace hwx := drew_alloc hwx); have hBx := al_of hwx; have HZn := Lib.hid (blk_mk (xs := [.int .i64 tk, .slice a9 n9 c9, .bool false]) hwx); (try have HZN := Lib.hid (zn10 HA.out)); have J9 := Lib.hid (J9.out.below hBx (Nat.le_refl _)); have J3 := Lib.hid (J3.out.below hBx (Nat.le_refl _)); have J6 := Lib.hid (J6.out.below hBx (Nat.le_refl _)); (try have HA := Lib.hid (own_below HA.out hBx (Nat.le_refl _))); (try have HY := Lib.hid (own_below HY.out hBx (Nat.le_refl _))); (try have HZ := Lib.hid (HZ.out.below hBx (Nat.le_refl _))); have JB := Lib.hid (JB.out.trans (hBx.mono JB.out.size)); have c0 := J3.out.at 0 rfl; have c4 := J9.out.at 4 rfl; have f4 := J9.out.free 4; have l9 := J9.out.lt; have HZ := HZn; clear HZn hBx hwx)
                          refine hK.out _ _ (by (try dsimp only); (first | assumption | go_keep)) (fun hHeld => ?_)
                          clear hK K
                          (try simp only [Act.put, List.setIfInBounds_toArray, List.set_cons_zero, List.set_cons_succ])
                          refine wpAnyH_ready (rs := [11]) (by kernel_rfl) (by simp) ?_
                          refine AllReadyH.cons (o := (Oper.mk (some 94) (Op.call (Call.mk (Callee.builtin Builtin.append) #[Operand.tmp 86, Operand.tmp 93] #[76, 76])) 76 "ref.go:90" #[Edge.mk 3 Ground.data, Edge.mk 10 Ground.data, Edge.mk 8 Ground.chain] none)) rfl (fun K hK => ?_) (AllReadyH.nil)
                          (refine step_append_opt _ (by rfl) (.tmp 86) (.tmp 93) 76 (by rfl) w.heap.size 81 ji _ 3 40 Try.underlying76 HJ1.out hz0 hz1 hz2 (by rfl) (by decide) _ mk xs (by rfl) HA.out _ 1 1 [.int .i64 tk, .slice a9 n9 c9, .bool false] (by rfl) (by rfl) (row_src HZ.out) (by intro v hv; simp at hv; rcases hv with rfl | rfl | rfl <;> rfl) (by have := HMB.out; unfold maxLen; omega) (by have := HMB.out; omega) JB.out.size ?_; intro v8 w8 hown8 hgrow8 hob8; obtain ⟨a8, n8, c8, rfl⟩ := own_slice hown8; have J9n := Lib.hid (J9.out.grown hgrow8 (own_ne HA.out J9.out (by decide))); have J3n := Lib.hid (J3.out.grown hgrow8 (own_ne HA.out J3.out (by decide))); have J6n := Lib.hid (J6.out.grown hgrow8 (own_ne HA.out J6.out (by decide))); have HY := Lib.hid (own_kept HY.out HA.out (by decide) hgrow8); have JBn := Lib.hid (JB.out.grown hgrow8 JB.out.size (fun k e => (HA.out.lt k e).1)); have J9 := J9n; have J3 := J3n; have J6 := J6n; have JB := JBn; have HA := Lib.hid hown8; have c0 := J3.out.at 0 rfl; have c4 := J9.out.at 4 rfl; have f4 := J9.out.free 4; have l9 := J9.out.lt; clear hown8 hgrow8 hob8 J9n J3n J6n JBn HZ)
                          refine hK.out _ _ (by (try dsimp only); (first | assumption | go_keep)) (fun hHeld => ?_)
                          clear hK K
                          (try simp only [Act.put, List.setIfInBounds_toArray, List.set_cons_zero, List.set_cons_succ])
                          refine wpAnyH_take (i := 12) (oi := (Oper.mk (some 95) (Op.fieldAddr 78 (Operand.tmp 11) 1) 0 "ref.go:90" #[Edge.mk 0 Ground.phase, Edge.mk 1 Ground.phase, Edge.mk 2 Ground.phase, Edge.mk 3 Ground.phase, Edge.mk 4 Ground.phase, Edge.mk 5 Ground.phase, Edge.mk 6 Ground.phase, Edge.mk 7 Ground.phase, Edge.mk 8 Ground.phase, Edge.mk 9 Ground.phase, Edge.mk 10 Ground.phase, Edge.mk 11 Ground.phase] none)) (v := ?_) rfl (by kernel_rfl) (by kernel_rfl) (by kernel_rfl) (fun _ _ _ h => h) (Or.inl ⟨by rfl, ?_⟩) (by assumption) ?_
                          rotate_left
                          · (intro w hSw; (try dsimp only at hSw); go_simp; first | done | with_reducible rfl)
                          (try simp only [Act.put, List.setIfInBounds_toArray, List.set_cons_zero, List.set_cons_succ])
                          refine wpAnyH_ready (rs := [13]) (by kernel_rfl) (by simp) ?_
                          refine AllReadyH.cons (o := (Oper.mk none (Op.store 76 (Operand.tmp 95) (Operand.tmp 94)) 0 "ref.go:90" #[Edge.mk 12 Ground.data, Edge.mk 11 Ground.data, Edge.mk 11 Ground.chain, Edge.mk 0 Ground.phase, Edge.mk 1 Ground.phase, Edge.mk 2 Ground.phase, Edge.mk 3 Ground.phase, Edge.mk 4 Ground.phase, Edge.mk 5 Ground.phase, Edge.mk 6 Ground.phase, Edge.mk 7 Ground.phase, Edge.mk 8 Ground.phase, Edge.mk 9 Ground.phase, Edge.mk 10 Ground.phase, Edge.mk 11 Ground.phase] none)) rfl (fun K hK => ?_) (AllReadyH.nil)
                          go_simp
                          (refine nameW (fun wx hwx => ?_); have HAn := Lib.hid (own_set (p := ⟨b9, 4, none⟩) HA.out (own_ne HA.out J9.out (by decide)) (.slice a8 n8 c8)); have HYn := Lib.hid (own_set (p := ⟨b9, 4, none⟩) HY.out (own_ne HY.out J9.out (by decide)) (.slice a8 n8 c8)); have J9n : Hid (Blk wx b9 78 [.int .i64 i1, .int .i64 i2, .int .i64 i3, .bool i4, .slice a8 n8 c8, .int .i64 (dk : Int)]) := Lib.hid (by rw [hwx]; exact Blk.cast (J9.out.setCell 4 _) rfl); have J3n : Hid (Blk wx b3 45 [.int .i64 tk, .slice (some ⟨bR, oR, none⟩) n c]) := Lib.hid (by rw [hwx]; exact J3.out.setOther (p := ⟨b9, 4, none⟩) (fun e => HN3.out.1 e.symm) _); have J6n : Hid (Blk wx (b3 + 1) 45 [.int .i64 0, .slice none 0 0]) := Lib.hid (by rw [hwx]; exact J6.out.setOther (p := ⟨b9, 4, none⟩) (fun e => HN3.out.2.1 e.symm) _); have JBn : Hid (Below w.heap.size w wx) := Lib.hid (by rw [hwx]; exact JB.out.setCell (p := ⟨b9, 4, none⟩) HN3.out.2.2 _); rw [← hwx] at HAn HYn; have J9 := J9n; have J3 := J3n; have J6 := J6n; have JB := JBn; have HA := HAn; have HY := HYn; have c0 := J3.out.at 0 rfl; clear hwx J9n J3n J6n JBn HAn HYn)
                          refine hK.out _ _ (by (try dsimp only); (first | assumption | go_keep)) (fun hHeld => ?_)
                          clear hK K
                          (try simp only [Act.put, List.setIfInBounds_toArray, List.set_cons_zero, List.set_cons_succ])
                          refine wpAnyH_done (by kernel_rfl) ?_ _
                        case' st6ta88ex31 =>
                          go_simp
                          (refine nameW (fun wx hwx => ?_); (try replace hwx := drew_alloc hwx); have hBx := al_of hwx; have HYn := Lib.hid (own_mk (B := w.heap.size) (sz := 1) hwx JB.out.size); have J9 := Lib.hid (J9.out.below hBx (Nat.le_refl _)); have J3 := Lib.hid (J3.out.below hBx (Nat.le_refl _)); have J6 := Lib.hid (J6.out.below hBx (Nat.le_refl _)); (try have HA := Lib.hid (own_below HA.out hBx (Nat.le_refl _))); (try have HY := Lib.hid (own_below HY.out hBx (Nat.le_refl _))); (try have HZ := Lib.hid (HZ.out.below hBx (Nat.le_refl _))); have JB := Lib.hid (JB.out.trans (hBx.mono JB.out.size)); have c0 := J3.out.at 0 rfl; have c4 := J9.out.at 4 rfl; have f4 := J9.out.free 4; have l9 := J9.out.lt; have HY := HYn; clear HYn hBx hwx)
                          refine hK.out _ _ (by (try dsimp only); (first | assumption | go_keep)) (fun hHeld => ?_)
                          clear hK K
                          (try simp only [Act.put, List.setIfInBounds_toArray, List.set_cons_zero, List.set_cons_succ])
                          refine wpAnyH_ready (rs := [3]) (by kernel_rfl) (by simp) ?_
                          refine AllReadyH.cons (o := (Oper.mk (some 86) (Op.call (Call.mk (Callee.builtin Builtin.append) #[Operand.tmp 83, Operand.tmp 85] #[76, 76])) 76 "ref.go:90" #[Edge.mk 0 Ground.data, Edge.mk 2 Ground.data] none)) rfl (fun K hK => ?_) (AllReadyH.nil)
                          (refine step_append_opt _ (by rfl) (.tmp 83) (.tmp 85) 76 (by rfl) w.heap.size 81 ji _ 3 40 Try.underlying76 HJ1.out hz0 hz1 hz2 (by rfl) (by decide) _ 0 [] (by rfl) HA.out aK mk cK xs (by rfl) HXL.out (src_low HSRC.out JB.out) HONE.out (by have := HMB.out; unfold maxLen; omega) (by have := HMB.out; omega) JB.out.size ?_; intro v8 w8 hown8 hgrow8 hob8; rw [Nat.zero_add, List.nil_append] at hown8; obtain ⟨a8, n8, c8, rfl⟩ := own_slice hown8; have J9n := Lib.hid (J9.out.grown hgrow8 (own_ne HA.out J9.out (by decide))); have J3n := Lib.hid (J3.out.grown hgrow8 (own_ne HA.out J3.out (by decide))); have J6n := Lib.hid (J6.out.grown hgrow8 (own_ne HA.out J6.out (by decide))); (try have HY := Lib.hid (own_kept HY.out HA.out (by decide) hgrow8)); (try have HZ2 := Lib.hid (HZ.out.grown hgrow8 HZN.out)); (try have HZN := Lib.hid (zn3 HZ.out HZN.out hob8)); (try have HZ := HZ2); have JBn := Lib.hid (JB.out.grown hgrow8 JB.out.size (fun k e => (HA.out.lt k e).1)); have J9 := J9n; have J3 := J3n; have J6 := J6n; have JB := JBn; have HA := Lib.hid hown8; have c0 := J3.out.at 0 rfl; have c4 := J9.out.at 4 rfl; have f4 := J9.out.free 4; have l9 := J9.out.lt; clear hown8 hgrow8 hob8 J9n J3n J6n JBn)
                          refine hK.out _ _ (by (try dsimp only); (first | assumption | go_keep)) (fun hHeld => ?_)
                          clear hK K
                          (try simp only [Act.put, List.setIfInBounds_toArray, List.set_cons_zero, List.set_cons_succ])
                          refine wpAnyH_ready (rs := [8]) (by kernel_rfl) (by simp) ?_
                          refine AllReadyH.cons (o := (Oper.mk (some 91) (Op.call (Call.mk (Callee.builtin Builtin.append) #[Operand.tmp 89, Operand.tmp 90] #[31, 31])) 31 "ref.go:90" #[Edge.mk 6 Ground.data, Edge.mk 7 Ground.data, Edge.mk 3 Ground.chain] none)) rfl (fun K hK => ?_) (AllReadyH.nil)
                          (refine step_append_src _ (by rfl) (.tmp 89) (.tmp 90) 31 (by rfl) w.heap.size 5 jb _ 1 Try.underlying31 HJB.out hy0 hy1 hy2 (by rfl) _ 0 [] (by rfl) HY.out ab ml cb (encB l) (by rfl) (by rw [encB_length]; exact HML.out) (HBA.out.below JB.out (Nat.le_refl _)).vat (encB_one l) (by have := HMX.out; unfold maxLen; omega) (by have := HMX.out; omega) JB.out.size ?_; intro v8 w8 hown8 hgrow8 hob8; rw [Nat.zero_add, List.nil_append] at hown8; obtain ⟨a9, n9, c9, rfl⟩ := own_slice hown8; have J9n := Lib.hid (J9.out.grown hgrow8 (own_ne HY.out J9.out (by decide))); have J3n := Lib.hid (J3.out.grown hgrow8 (own_ne HY.out J3.out (by decide))); have J6n := Lib.hid (J6.out.grown hgrow8 (own_ne HY.out J6.out (by decide))); (try have HA := Lib.hid (own_kept HA.out HY.out (by decide) hgrow8)); have JBn := Lib.hid (JB.out.grown hgrow8 JB.out.size (fun k e => (HY.out.lt k e).1)); have J9 := J9n; have J3 := J3n; have J6 := J6n; have JB := JBn; have HY := Lib.hid hown8; have c0 := J3.out.at 0 rfl; have c4 := J9.out.at 4 rfl; have f4 := J9.out.free 4; have l9 := J9.out.lt; clear hown8 hgrow8 hob8 J9n J3n J6n JBn)
                          refine hK.out _ _ (by (try dsimp only); (first | assumption | go_keep)) (fun hHeld => ?_)
                          clear hK K
                          (try simp only [Act.put, List.setIfInBounds_toArray, List.set_cons_zero, List.set_cons_succ])
                          refine wpAnyH_take (i := 9) (oi := (Oper.mk (some 92) (Op.build 81 #[(0, Operand.tmp 88), (1, Operand.tmp 91)]) 81 "ref.go:90" #[Edge.mk 5 Ground.data, Edge.mk 8 Ground.data] none)) (v := ?_) rfl (by kernel_rfl) (by kernel_rfl) (by kernel_rfl) (fun _ _ _ h => h) (Or.inl ⟨by rfl, ?_⟩) (by assumption) ?_
                          rotate_left
                          · (intro w hSw; (try dsimp only at hSw); go_simp; first | done | with_reducible rfl)
                          (try simp only [Act.put, List.setIfInBounds_toArray, List.set_cons_zero, List.set_cons_succ])
                          refine wpAnyH_ready (rs := [10]) (by kernel_rfl) (by simp) ?_
                          refine AllReadyH.cons (o := (Oper.mk (some 93) (Op.buildSlice 76 1 #[(0, Operand.tmp 92)]) 76 "ref.go:90" #[Edge.mk 9 Ground.data] none)) rfl (fun K hK => ?_) (AllReadyH.nil)
                          go_simp
                          (refine nameW (fun wx hwx => ?_); (try replace hwx := drew_alloc hwx); have hBx := al_of hwx; have HZn := Lib.hid (blk_mk (xs := [.int .i64 tk, .slice a9 n9 c9, .bool false]) hwx); (try have HZN := Lib.hid (zn10 HA.out)); have J9 := Lib.hid (J9.out.below hBx (Nat.le_refl _)); have J3 := Lib.hid (J3.out.below hBx (Nat.le_refl _)); have J6 := Lib.hid (J6.out.below hBx (Nat.le_refl _)); (try have HA := Lib.hid (own_below HA.out hBx (Nat.le_refl _))); (try have HY := Lib.hid (own_below HY.out hBx (Nat.le_refl _))); (try have HZ := Lib.hid (HZ.out.below hBx (Nat.le_refl _))); have JB := Lib.hid (JB.out.trans (hBx.mono JB.out.size)); have c0 := J3.out.at 0 rfl; have c4 := J9.out.at 4 rfl; have f4 := J9.out.free 4; have l9 := J9.out.lt; have HZ := HZn; clear HZn hBx hwx)
                          refine hK.out _ _ (by (try dsimp only); (first | assumption | go_keep)) (fun hHeld => ?_)
                          clear hK K
                          (try simp only [Act.put, List.setIfInBounds_toArray, List.set_cons_zero, List.set_cons_succ])
                          refine wpAnyH_ready (rs := [11]) (by kernel_rfl) (by simp) ?_
                          refine AllReadyH.cons (o := (Oper.mk (some 94) (Op.call (Call.mk (Callee.builtin Builtin.append) #[Operand.tmp 86, Operand.tmp 93] #[76, 76])) 76 "ref.go:90" #[Edge.mk 3 Ground.data, Edge.mk 10 Ground.data, Edge.mk 8 Ground.chain] none)) rfl (fun K hK => ?_) (AllReadyH.nil)
                          (refine step_append_opt _ (by rfl) (.tmp 86) (.tmp 93) 76 (by rfl) w.heap.size 81 ji _ 3 40 Try.underlying76 HJ1.out hz0 hz1 hz2 (by rfl) (by decide) _ mk xs (by rfl) HA.out _ 1 1 [.int .i64 tk, .slice a9 n9 c9, .bool false] (by rfl) (by rfl) (row_src HZ.out) (by intro v hv; simp at hv; rcases hv with rfl | rfl | rfl <;> rfl) (by have := HMB.out; unfold maxLen; omega) (by have := HMB.out; omega) JB.out.size ?_; intro v8 w8 hown8 hgrow8 hob8; obtain ⟨a8, n8, c8, rfl⟩ := own_slice hown8; have J9n := Lib.hid (J9.out.grown hgrow8 (own_ne HA.out J9.out (by decide))); have J3n := Lib.hid (J3.out.grown hgrow8 (own_ne HA.out J3.out (by decide))); have J6n := Lib.hid (J6.out.grown hgrow8 (own_ne HA.out J6.out (by decide))); have HY := Lib.hid (own_kept HY.out HA.out (by decide) hgrow8); have JBn := Lib.hid (JB.out.grown hgrow8 JB.out.size (fun k e => (HA.out.lt k e).1)); have J9 := J9n; have J3 := J3n; have J6 := J6n; have JB := JBn; have HA := Lib.hid hown8; have c0 := J3.out.at 0 rfl; have c4 := J9.out.at 4 rfl; have f4 := J9.out.free 4; have l9 := J9.out.lt; clear hown8 hgrow8 hob8 J9n J3n J6n JBn HZ)
                          refine hK.out _ _ (by (try dsimp only); (first | assumption | go_keep)) (fun hHeld => ?_)
                          clear hK K
                          (try simp only [Act.put, List.setIfInBounds_toArray, List.set_cons_zero, List.set_cons_succ])
                          refine wpAnyH_take (i := 12) (oi := (Oper.mk (some 95) (Op.fieldAddr 78 (Operand.tmp 11) 1) 0 "ref.go:90" #[Edge.mk 0 Ground.phase, Edge.mk 1 Ground.phase, Edge.mk 2 Ground.phase, Edge.mk 3 Ground.phase, Edge.mk 4 Ground.phase, Edge.mk 5 Ground.phase, Edge.mk 6 Ground.phase, Edge.mk 7 Ground.phase, Edge.mk 8 Ground.phase, Edge.mk 9 Ground.phase, Edge.mk 10 Ground.phase, Edge.mk 11 Ground.phase] none)) (v := ?_) rfl (by kernel_rfl) (by kernel_rfl) (by kernel_rfl) (fun _ _ _ h => h) (Or.inl ⟨by rfl, ?_⟩) (by assumption) ?_
                          rotate_left
                          · (intro w hSw; (try dsimp only at hSw); go_simp; first | done | with_reducible rfl)
                          (try simp only [Act.put, List.setIfInBounds_toArray, List.set_cons_zero, List.set_cons_succ])
                          refine wpAnyH_ready (rs := [13]) (by kernel_rfl) (by simp) ?_
                          refine AllReadyH.cons (o := (Oper.mk none (Op.store 76 (Operand.tmp 95) (Operand.tmp 94)) 0 "ref.go:90" #[Edge.mk 12 Ground.data, Edge.mk 11 Ground.data, Edge.mk 11 Ground.chain, Edge.mk 0 Ground.phase, Edge.mk 1 Ground.phase, Edge.mk 2 Ground.phase, Edge.mk 3 Ground.phase, Edge.mk 4 Ground.phase, Edge.mk 5 Ground.phase, Edge.mk 6 Ground.phase, Edge.mk 7 Ground.phase, Edge.mk 8 Ground.phase, Edge.mk 9 Ground.phase, Edge.mk 10 Ground.phase, Edge.mk 11 Ground.phase] none)) rfl (fun K hK => ?_) (AllReadyH.nil)
                          go_simp
                          (refine nameW (fun wx hwx => ?_); have HAn := Lib.hid (own_set (p := ⟨b9, 4, none⟩) HA.out (own_ne HA.out J9.out (by decide)) (.slice a8 n8 c8)); have HYn := Lib.hid (own_set (p := ⟨b9, 4, none⟩) HY.out (own_ne HY.out J9.out (by decide)) (.slice a8 n8 c8)); have J9n : Hid (Blk wx b9 78 [.int .i64 i1, .int .i64 i2, .int .i64 i3, .bool i4, .slice a8 n8 c8, .int .i64 (dk : Int)]) := Lib.hid (by rw [hwx]; exact Blk.cast (J9.out.setCell 4 _) rfl); have J3n : Hid (Blk wx b3 45 [.int .i64 tk, .slice (some ⟨bR, oR, none⟩) n c]) := Lib.hid (by rw [hwx]; exact J3.out.setOther (p := ⟨b9, 4, none⟩) (fun e => HN3.out.1 e.symm) _); have J6n : Hid (Blk wx (b3 + 1) 45 [.int .i64 0, .slice none 0 0]) := Lib.hid (by rw [hwx]; exact J6.out.setOther (p := ⟨b9, 4, none⟩) (fun e => HN3.out.2.1 e.symm) _); have JBn : Hid (Below w.heap.size w wx) := Lib.hid (by rw [hwx]; exact JB.out.setCell (p := ⟨b9, 4, none⟩) HN3.out.2.2 _); rw [← hwx] at HAn HYn; have J9 := J9n; have J3 := J3n; have J6 := J6n; have JB := JBn; have HA := HAn; have HY := HYn; have c0 := J3.out.at 0 rfl; clear hwx J9n J3n J6n JBn HAn HYn)
                          refine hK.out _ _ (by (try dsimp only); (first | assumption | go_keep)) (fun hHeld => ?_)
                          clear hK K
                          (try simp only [Act.put, List.setIfInBounds_toArray, List.set_cons_zero, List.set_cons_succ])
                          refine wpAnyH_done (by kernel_rfl) ?_ _
                      case' st6ta88ex30 =>
                        go_simp
                        (refine nameW (fun wx hwx => ?_); (try replace hwx := drew_alloc hwx); have hBx := al_of hwx; have HYn := Lib.hid (own_mk (B := w.heap.size) (sz := 1) hwx JB.out.size); have J9 := Lib.hid (J9.out.below hBx (Nat.le_refl _)); have J3 := Lib.hid (J3.out.below hBx (Nat.le_refl _)); have J6 := Lib.hid (J6.out.below hBx (Nat.le_refl _)); (try have HA := Lib.hid (own_below HA.out hBx (Nat.le_refl _))); (try have HY := Lib.hid (own_below HY.out hBx (Nat.le_refl _))); (try have HZ := Lib.hid (HZ.out.below hBx (Nat.le_refl _))); have JB := Lib.hid (JB.out.trans (hBx.mono JB.out.size)); have c0 := J3.out.at 0 rfl; have c4 := J9.out.at 4 rfl; have f4 := J9.out.free 4; have l9 := J9.out.lt; have HY := HYn; clear HYn hBx hwx)
                        refine hK.out _ _ (by (try dsimp only); (first | assumption | go_keep)) (fun hHeld => ?_)
                        clear hK K
                        (try simp only [Act.put, List.setIfInBounds_toArray, List.set_cons_zero, List.set_cons_succ])
                        refine wpAnyH_ready (rs := [0]) (by kernel_rfl) (by simp) ?_
                        refine AllReadyH.cons (o := (Oper.mk (some 83) (Op.buildSlice 76 0 #[]) 76 "ref.go:90" #[] none)) rfl (fun K hK => ?_) (AllReadyH.nil)
                        go_simp
                        (refine nameW (fun wx hwx => ?_); (try replace hwx := drew_alloc hwx); have hBx := al_of hwx; have HAn := Lib.hid (own_mk (B := w.heap.size) (sz := 3) hwx JB.out.size); (try have HZN := Lib.hid (zn0 HZ.out)); have J9 := Lib.hid (J9.out.below hBx (Nat.le_refl _)); have J3 := Lib.hid (J3.out.below hBx (Nat.le_refl _)); have J6 := Lib.hid (J6.out.below hBx (Nat.le_refl _)); (try have HA := Lib.hid (own_below HA.out hBx (Nat.le_refl _))); (try have HY := Lib.hid (own_below HY.out hBx (Nat.le_refl _))); (try have HZ := Lib.hid (HZ.out.below hBx (Nat.le_refl _))); have JB := Lib.hid (JB.out.trans (hBx.mono JB.out.size)); have c0 := J3.out.at 0 rfl; have c4 := J9.out.at 4 rfl; have f4 := J9.out.free 4; have l9 := J9.out.lt; have HA := HAn; clear HAn hBx hwx)
                        refine hK.out _ _ (by (try dsimp only); (first | assumption | go_keep)) (fun hHeld => ?_)
                        clear hK K
                        (try simp only [Act.put, List.setIfInBounds_toArray, List.set_cons_zero, List.set_cons_succ])
                        refine wpAnyH_ready (rs := [3]) (by kernel_rfl) (by simp) ?_
                        refine AllReadyH.cons (o := (Oper.mk (some 86) (Op.call (Call.mk (Callee.builtin Builtin.append) #[Operand.tmp 83, Operand.tmp 85] #[76, 76])) 76 "ref.go:90" #[Edge.mk 0 Ground.data, Edge.mk 2 Ground.data] none)) rfl (fun K hK => ?_) (AllReadyH.nil)
                        (refine step_append_opt _ (by rfl) (.tmp 83) (.tmp 85) 76 (by rfl) w.heap.size 81 ji _ 3 40 Try.underlying76 HJ1.out hz0 hz1 hz2 (by rfl) (by decide) _ 0 [] (by rfl) HA.out aK mk cK xs (by rfl) HXL.out (src_low HSRC.out JB.out) HONE.out (by have := HMB.out; unfold maxLen; omega) (by have := HMB.out; omega) JB.out.size ?_; intro v8 w8 hown8 hgrow8 hob8; rw [Nat.zero_add, List.nil_append] at hown8; obtain ⟨a8, n8, c8, rfl⟩ := own_slice hown8; have J9n := Lib.hid (J9.out.grown hgrow8 (own_ne HA.out J9.out (by decide))); have J3n := Lib.hid (J3.out.grown hgrow8 (own_ne HA.out J3.out (by decide))); have J6n := Lib.hid (J6.out.grown hgrow8 (own_ne HA.out J6.out (by decide))); (try have HY := Lib.hid (own_kept HY.out HA.out (by decide) hgrow8)); (try have HZ2 := Lib.hid (HZ.out.grown hgrow8 HZN.out)); (try have HZN := Lib.hid (zn3 HZ.out HZN.out hob8)); (try have HZ := HZ2); have JBn := Lib.hid (JB.out.grown hgrow8 JB.out.size (fun k e => (HA.out.lt k e).1)); have J9 := J9n; have J3 := J3n; have J6 := J6n; have JB := JBn; have HA := Lib.hid hown8; have c0 := J3.out.at 0 rfl; have c4 := J9.out.at 4 rfl; have f4 := J9.out.free 4; have l9 := J9.out.lt; clear hown8 hgrow8 hob8 J9n J3n J6n JBn)
                        refine hK.out _ _ (by (try dsimp only); (first | assumption | go_keep)) (fun hHeld => ?_)
                        clear hK K
                        (try simp only [Act.put, List.setIfInBounds_toArray, List.set_cons_zero, List.set_cons_succ])
                        refine wpAnyH_ready (rs := [8]) (by kernel_rfl) (by simp) ?_
                        refine AllReadyH.cons (o := (Oper.mk (some 91) (Op.call (Call.mk (Callee.builtin Builtin.append) #[Operand.tmp 89, Operand.tmp 90] #[31, 31])) 31 "ref.go:90" #[Edge.mk 6 Ground.data, Edge.mk 7 Ground.data, Edge.mk 3 Ground.chain] none)) rfl (fun K hK => ?_) (AllReadyH.nil)
                        (refine step_append_src _ (by rfl) (.tmp 89) (.tmp 90) 31 (by rfl) w.heap.size 5 jb _ 1 Try.underlying31 HJB.out hy0 hy1 hy2 (by rfl) _ 0 [] (by rfl) HY.out ab ml cb (encB l) (by rfl) (by rw [encB_length]; exact HML.out) (HBA.out.below JB.out (Nat.le_refl _)).vat (encB_one l) (by have := HMX.out; unfold maxLen; omega) (by have := HMX.out; omega) JB.out.size ?_; intro v8 w8 hown8 hgrow8 hob8; rw [Nat.zero_add, List.nil_append] at hown8; obtain ⟨a9, n9, c9, rfl⟩ := own_slice hown8; have J9n := Lib.hid (J9.out.grown hgrow8 (own_ne HY.out J9.out (by decide))); have J3n := Lib.hid (J3.out.grown hgrow8 (own_ne HY.out J3.out (by decide))); have J6n := Lib.hid (J6.out.grown hgrow8 (own_ne HY.out J6.out (by decide))); (try have HA := Lib.hid (own_kept HA.out HY.out (by decide) hgrow8)); have JBn := Lib.hid (JB.out.grown hgrow8 JB.out.size (fun k e => (HY.out.lt k e).1)); have J9 := J9n; have J3 := J3n; have J6 := J6n; have JB := JBn; have HY := Lib.hid hown8; have c0 := J3.out.at 0 rfl; have c4 := J9.out.at 4 rfl; have f4 := J9.out.free 4; have l9 := J9.out.lt; clear hown8 hgrow8 hob8 J9n J3n J6n JBn)
                        refine hK.out _ _ (by (try dsimp only); (first | assumption | go_keep)) (fun hHeld => ?_)
                        clear hK K
                        (try simp only [Act.put, List.setIfInBounds_toArray, List.set_cons_zero, List.set_cons_succ])
                        refine wpAnyH_take (i := 9) (oi := (Oper.mk (some 92) (Op.build 81 #[(0, Operand.tmp 88), (1, Operand.tmp 91)]) 81 "ref.go:90" #[Edge.mk 5 Ground.data, Edge.mk 8 Ground.data] none)) (v := ?_) rfl (by kernel_rfl) (by kernel_rfl) (by kernel_rfl) (fun _ _ _ h => h) (Or.inl ⟨by rfl, ?_⟩) (by assumption) ?_
                        rotate_left
                        · (intro w hSw; (try dsimp only at hSw); go_simp; first | done | with_reducible rfl)
                        (try simp only [Act.put, List.setIfInBounds_toArray, List.set_cons_zero, List.set_cons_succ])
                        refine wpAnyH_ready (rs := [10]) (by kernel_rfl) (by simp) ?_
                        refine AllReadyH.cons (o := (Oper.mk (some 93) (Op.buildSlice 76 1 #[(0, Operand.tmp 92)]) 76 "ref.go:90" #[Edge.mk 9 Ground.data] none)) rfl (fun K hK => ?_) (AllReadyH.nil)
                        go_simp
                        (refine nameW (fun wx hwx => ?_); (try replace hwx := drew_alloc hwx); have hBx := al_of hwx; have HZn := Lib.hid (blk_mk (xs := [.int .i64 tk, .slice a9 n9 c9, .bool false]) hwx); (try have HZN := Lib.hid (zn10 HA.out)); have J9 := Lib.hid (J9.out.below hBx (Nat.le_refl _)); have J3 := Lib.hid (J3.out.below hBx (Nat.le_refl _)); have J6 := Lib.hid (J6.out.below hBx (Nat.le_refl _)); (try have HA := Lib.hid (own_below HA.out hBx (Nat.le_refl _))); (try have HY := Lib.hid (own_below HY.out hBx (Nat.le_refl _))); (try have HZ := Lib.hid (HZ.out.below hBx (Nat.le_refl _))); have JB := Lib.hid (JB.out.trans (hBx.mono JB.out.size)); have c0 := J3.out.at 0 rfl; have c4 := J9.out.at 4 rfl; have f4 := J9.out.free 4; have l9 := J9.out.lt; have HZ := HZn; clear HZn hBx hwx)
                        refine hK.out _ _ (by (try dsimp only); (first | assumption | go_keep)) (fun hHeld => ?_)
                        clear hK K
                        (try simp only [Act.put, List.setIfInBounds_toArray, List.set_cons_zero, List.set_cons_succ])
                        refine wpAnyH_ready (rs := [11]) (by kernel_rfl) (by simp) ?_
                        refine AllReadyH.cons (o := (Oper.mk (some 94) (Op.call (Call.mk (Callee.builtin Builtin.append) #[Operand.tmp 86, Operand.tmp 93] #[76, 76])) 76 "ref.go:90" #[Edge.mk 3 Ground.data, Edge.mk 10 Ground.data, Edge.mk 8 Ground.chain] none)) rfl (fun K hK => ?_) (AllReadyH.nil)
                        (refine step_append_opt _ (by rfl) (.tmp 86) (.tmp 93) 76 (by rfl) w.heap.size 81 ji _ 3 40 Try.underlying76 HJ1.out hz0 hz1 hz2 (by rfl) (by decide) _ mk xs (by rfl) HA.out _ 1 1 [.int .i64 tk, .slice a9 n9 c9, .bool false] (by rfl) (by rfl) (row_src HZ.out) (by intro v hv; simp at hv; rcases hv with rfl | rfl | rfl <;> rfl) (by have := HMB.out; unfold maxLen; omega) (by have := HMB.out; omega) JB.out.size ?_; intro v8 w8 hown8 hgrow8 hob8; obtain ⟨a8, n8, c8, rfl⟩ := own_slice hown8; have J9n := Lib.hid (J9.out.grown hgrow8 (own_ne HA.out J9.out (by decide))); have J3n := Lib.hid (J3.out.grown hgrow8 (own_ne HA.out J3.out (by decide))); have J6n := Lib.hid (J6.out.grown hgrow8 (own_ne HA.out J6.out (by decide))); have HY := Lib.hid (own_kept HY.out HA.out (by decide) hgrow8); have JBn := Lib.hid (JB.out.grown hgrow8 JB.out.size (fun k e => (HA.out.lt k e).1)); have J9 := J9n; have J3 := J3n; have J6 := J6n; have JB := JBn; have HA := Lib.hid hown8; have c0 := J3.out.at 0 rfl; have c4 := J9.out.at 4 rfl; have f4 := J9.out.free 4; have l9 := J9.out.lt; clear hown8 hgrow8 hob8 J9n J3n J6n JBn HZ)
                        refine hK.out _ _ (by (try dsimp only); (first | assumption | go_keep)) (fun hHeld => ?_)
                        clear hK K
                        (try simp only [Act.put, List.setIfInBounds_toArray, List.set_cons_zero, List.set_cons_succ])
                        refine wpAnyH_take (i := 12) (oi := (Oper.mk (some 95) (Op.fieldAddr 78 (Operand.tmp 11) 1) 0 "ref.go:90" #[Edge.mk 0 Ground.phase, Edge.mk 1 Ground.phase, Edge.mk 2 Ground.phase, Edge.mk 3 Ground.phase, Edge.mk 4 Ground.phase, Edge.mk 5 Ground.phase, Edge.mk 6 Ground.phase, Edge.mk 7 Ground.phase, Edge.mk 8 Ground.phase, Edge.mk 9 Ground.phase, Edge.mk 10 Ground.phase, Edge.mk 11 Ground.phase] none)) (v := ?_) rfl (by kernel_rfl) (by kernel_rfl) (by kernel_rfl) (fun _ _ _ h => h) (Or.inl ⟨by rfl, ?_⟩) (by assumption) ?_
                        rotate_left
                        · (intro w hSw; (try dsimp only at hSw); go_simp; first | done | with_reducible rfl)
                        (try simp only [Act.put, List.setIfInBounds_toArray, List.set_cons_zero, List.set_cons_succ])
                        refine wpAnyH_ready (rs := [13]) (by kernel_rfl) (by simp) ?_
                        refine AllReadyH.cons (o := (Oper.mk none (Op.store 76 (Operand.tmp 95) (Operand.tmp 94)) 0 "ref.go:90" #[Edge.mk 12 Ground.data, Edge.mk 11 Ground.data, Edge.mk 11 Ground.chain, Edge.mk 0 Ground.phase, Edge.mk 1 Ground.phase, Edge.mk 2 Ground.phase, Edge.mk 3 Ground.phase, Edge.mk 4 Ground.phase, Edge.mk 5 Ground.phase, Edge.mk 6 Ground.phase, Edge.mk 7 Ground.phase, Edge.mk 8 Ground.phase, Edge.mk 9 Ground.phase, Edge.mk 10 Ground.phase, Edge.mk 11 Ground.phase] none)) rfl (fun K hK => ?_) (AllReadyH.nil)
                        go_simp
                        (refine nameW (fun wx hwx => ?_); have HAn := Lib.hid (own_set (p := ⟨b9, 4, none⟩) HA.out (own_ne HA.out J9.out (by decide)) (.slice a8 n8 c8)); have HYn := Lib.hid (own_set (p := ⟨b9, 4, none⟩) HY.out (own_ne HY.out J9.out (by decide)) (.slice a8 n8 c8)); have J9n : Hid (Blk wx b9 78 [.int .i64 i1, .int .i64 i2, .int .i64 i3, .bool i4, .slice a8 n8 c8, .int .i64 (dk : Int)]) := Lib.hid (by rw [hwx]; exact Blk.cast (J9.out.setCell 4 _) rfl); have J3n : Hid (Blk wx b3 45 [.int .i64 tk, .slice (some ⟨bR, oR, none⟩) n c]) := Lib.hid (by rw [hwx]; exact J3.out.setOther (p := ⟨b9, 4, none⟩) (fun e => HN3.out.1 e.symm) _); have J6n : Hid (Blk wx (b3 + 1) 45 [.int .i64 0, .slice none 0 0]) := Lib.hid (by rw [hwx]; exact J6.out.setOther (p := ⟨b9, 4, none⟩) (fun e => HN3.out.2.1 e.symm) _); have JBn : Hid (Below w.heap.size w wx) := Lib.hid (by rw [hwx]; exact JB.out.setCell (p := ⟨b9, 4, none⟩) HN3.out.2.2 _); rw [← hwx] at HAn HYn; have J9 := J9n; have J3 := J3n; have J6 := J6n; have JB := JBn; have HA := HAn; have HY := HYn; have c0 := J3.out.at 0 rfl; clear hwx J9n J3n J6n JBn HAn HYn)
                        refine hK.out _ _ (by (try dsimp only); (first | assumption | go_keep)) (fun hHeld => ?_)
                        clear hK K
                        (try simp only [Act.put, List.setIfInBounds_toArray, List.set_cons_zero, List.set_cons_succ])
                        refine wpAnyH_done (by kernel_rfl) ?_ _
                    case' st6ta88ex5 =>
                      go_simp
                      (refine nameW (fun wx hwx => ?_); (try replace hwx := drew_alloc hwx); have hBx := al_of hwx; have HYn := Lib.hid (own_mk (B := w.heap.size) (sz := 1) hwx JB.out.size); have J9 := Lib.hid (J9.out.below hBx (Nat.le_refl _)); have J3 := Lib.hid (J3.out.below hBx (Nat.le_refl _)); have J6 := Lib.hid (J6.out.below hBx (Nat.le_refl _)); (try have HA := Lib.hid (own_below HA.out hBx (Nat.le_refl _))); (try have HY := Lib.hid (own_below HY.out hBx (Nat.le_refl _))); (try have HZ := Lib.hid (HZ.out.below hBx (Nat.le_refl _))); have JB := Lib.hid (JB.out.trans (hBx.mono JB.out.size)); have c0 := J3.out.at 0 rfl; have c4 := J9.out.at 4 rfl; have f4 := J9.out.free 4; have l9 := J9.out.lt; have HY := HYn; clear HYn hBx hwx)
                      refine hK.out _ _ (by (try dsimp only); (first | assumption | go_keep)) (fun hHeld => ?_)
                      clear hK K
                      (try simp only [Act.put, List.setIfInBounds_toArray, List.set_cons_zero, List.set_cons_succ])
                      refine wpAnyH_ready (rs := [0, 2]) (by kernel_rfl) (by simp) ?_
                      refine AllReadyH.cons (o := (Oper.mk (some 83) (Op.buildSlice 76 0 #[]) 76 "ref.go:90" #[] none)) rfl (fun K hK => ?st0ta88ex54) (AllReadyH.cons (o := (Oper.mk (some 85) (Op.load 76 (Operand.tmp 84)) 76 "ref.go:90" #[Edge.mk 1 Ground.data] none)) rfl (fun K hK => ?st2ta88ex54) (AllReadyH.nil))
                      case' st0ta88ex54 =>
                        go_simp
                        (refine nameW (fun wx hwx => ?_); (try replace hwx := drew_alloc hwx); have hBx := al_of hwx; have HAn := Lib.hid (own_mk (B := w.heap.size) (sz := 3) hwx JB.out.size); (try have HZN := Lib.hid (zn0 HZ.out)); have J9 := Lib.hid (J9.out.below hBx (Nat.le_refl _)); have J3 := Lib.hid (J3.out.below hBx (Nat.le_refl _)); have J6 := Lib.hid (J6.out.below hBx (Nat.le_refl _)); (try have HA := Lib.hid (own_below HA.out hBx (Nat.le_refl _))); (try have HY := Lib.hid (own_below HY.out hBx (Nat.le_refl _))); (try have HZ := Lib.hid (HZ.out.below hBx (Nat.le_refl _))); have JB := Lib.hid (JB.out.trans (hBx.mono JB.out.size)); have c0 := J3.out.at 0 rfl; have c4 := J9.out.at 4 rfl; have f4 := J9.out.free 4; have l9 := J9.out.lt; have HA := HAn; clear HAn hBx hwx)
                        refine hK.out _ _ (by (try dsimp only); (first | assumption | go_keep)) (fun hHeld => ?_)
                        clear hK K
                        (try simp only [Act.put, List.setIfInBounds_toArray, List.set_cons_zero, List.set_cons_succ])
                        refine wpAnyH_ready (rs := [2]) (by kernel_rfl) (by simp) ?_
                        refine AllReadyH.cons (o := (Oper.mk (some 85) (Op.load 76 (Operand.tmp 84)) 76 "ref.go:90" #[Edge.mk 1 Ground.data] none)) rfl (fun K hK => ?_) (AllReadyH.nil)
                        go_simp
                        skip
                        refine hK.out _ _ (by (try dsimp only); (first | assumption | go_keep)) (fun hHeld => ?_)
                        clear hK K
                        (try simp only [Act.put, List.setIfInBounds_toArray, List.set_cons_zero, List.set_cons_succ])
                        refine wpAnyH_ready (rs := [3]) (by kernel_rfl) (by simp) ?_
                        refine AllReadyH.cons (o := (Oper.mk (some 86) (Op.call (Call.mk (Callee.builtin Builtin.append) #[Operand.tmp 83, Operand.tmp 85] #[76, 76])) 76 "ref.go:90" #[Edge.mk 0 Ground.data, Edge.mk 2 Ground.data] none)) rfl (fun K hK => ?_) (AllReadyH.nil)
                        (refine step_append_opt _ (by rfl) (.tmp 83) (.tmp 85) 76 (by rfl) w.heap.size 81 ji _ 3 40 Try.underlying76 HJ1.out hz0 hz1 hz2 (by rfl) (by decide) _ 0 [] (by rfl) HA.out aK mk cK xs (by rfl) HXL.out (src_low HSRC.out JB.out) HONE.out (by have := HMB.out; unfold maxLen; omega) (by have := HMB.out; omega) JB.out.size ?_; intro v8 w8 hown8 hgrow8 hob8; rw [Nat.zero_add, List.nil_append] at hown8; obtain ⟨a8, n8, c8, rfl⟩ := own_slice hown8; have J9n := Lib.hid (J9.out.grown hgrow8 (own_ne HA.out J9.out (by decide))); have J3n := Lib.hid (J3.out.grown hgrow8 (own_ne HA.out J3.out (by decide))); have J6n := Lib.hid (J6.out.grown hgrow8 (own_ne HA.out J6.out (by decide))); (try have HY := Lib.hid (own_kept HY.out HA.out (by decide) hgrow8)); (try have HZ2 := Lib.hid (HZ.out.grown hgrow8 HZN.out)); (try have HZN := Lib.hid (zn3 HZ.out HZN.out hob8)); (try have HZ := HZ2); have JBn := Lib.hid (JB.out.grown hgrow8 JB.out.size (fun k e => (HA.out.lt k e).1)); have J9 := J9n; have J3 := J3n; have J6 := J6n; have JB := JBn; have HA := Lib.hid hown8; have c0 := J3.out.at 0 rfl; have c4 := J9.out.at 4 rfl; have f4 := J9.out.free 4; have l9 := J9.out.lt; clear hown8 hgrow8 hob8 J9n J3n J6n JBn)
                        refine hK.out _ _ (by (try dsimp only); (first | assumption | go_keep)) (fun hHeld => ?_)
                        clear hK K
                        (try simp only [Act.put, List.setIfInBounds_toArray, List.set_cons_zero, List.set_cons_succ])
                        refine wpAnyH_ready (rs := [8]) (by kernel_rfl) (by simp) ?_
                        refine AllReadyH.cons (o := (Oper.mk (some 91) (Op.call (Call.mk (Callee.builtin Builtin.append) #[Operand.tmp 89, Operand.tmp 90] #[31, 31])) 31 "ref.go:90" #[Edge.mk 6 Ground.data, Edge.mk 7 Ground.data, Edge.mk 3 Ground.chain] none)) rfl (fun K hK => ?_) (AllReadyH.nil)
                        (refine step_append_src _ (by rfl) (.tmp 89) (.tmp 90) 31 (by rfl) w.heap.size 5 jb _ 1 Try.underlying31 HJB.out hy0 hy1 hy2 (by rfl) _ 0 [] (by rfl) HY.out ab ml cb (encB l) (by rfl) (by rw [encB_length]; exact HML.out) (HBA.out.below JB.out (Nat.le_refl _)).vat (encB_one l) (by have := HMX.out; unfold maxLen; omega) (by have := HMX.out; omega) JB.out.size ?_; intro v8 w8 hown8 hgrow8 hob8; rw [Nat.zero_add, List.nil_append] at hown8; obtain ⟨a9, n9, c9, rfl⟩ := own_slice hown8; have J9n := Lib.hid (J9.out.grown hgrow8 (own_ne HY.out J9.out (by decide))); have J3n := Lib.hid (J3.out.grown hgrow8 (own_ne HY.out J3.out (by decide))); have J6n := Lib.hid (J6.out.grown hgrow8 (own_ne HY.out J6.out (by decide))); (try have HA := Lib.hid (own_kept HA.out HY.out (by decide) hgrow8)); have JBn := Lib.hid (JB.out.grown hgrow8 JB.out.size (fun k e => (HY.out.lt k e).1)); have J9 := J9n; have J3 := J3n; have J6 := J6n; have JB := JBn; have HY := Lib.hid hown8; have c0 := J3.out.at 0 rfl; have c4 := J9.out.at 4 rfl; have f4 := J9.out.free 4; have l9 := J9.out.lt; clear hown8 hgrow8 hob8 J9n J3n J6n JBn)
                        refine hK.out _ _ (by (try dsimp only); (first | assumption | go_keep)) (fun hHeld => ?_)
                        clear hK K
                        (try simp only [Act.put, List.setIfInBounds_toArray, List.set_cons_zero, List.set_cons_succ])
                        refine wpAnyH_take (i := 9) (oi := (Oper.mk (some 92) (Op.build 81 #[(0, Operand.tmp 88), (1, Operand.tmp 91)]) 81 "ref.go:90" #[Edge.mk 5 Ground.data, Edge.mk 8 Ground.data] none)) (v := ?_) rfl (by kernel_rfl) (by kernel_rfl) (by kernel_rfl) (fun _ _ _ h => h) (Or.inl ⟨by rfl, ?_⟩) (by assumption) ?_
                        rotate_left
                        · (intro w hSw; (try dsimp only at hSw); go_simp; first | done | with_reducible rfl)
                        (try simp only [Act.put, List.setIfInBounds_toArray, List.set_cons_zero, List.set_cons_succ])
                        refine wpAnyH_ready (rs := [10]) (by kernel_rfl) (by simp) ?_
                        refine AllReadyH.cons (o := (Oper.mk (some 93) (Op.buildSlice 76 1 #[(0, Operand.tmp 92)]) 76 "ref.go:90" #[Edge.mk 9 Ground.data] none)) rfl (fun K hK => ?_) (AllReadyH.nil)
                        go_simp
                        (refine nameW (fun wx hwx => ?_); (try replace hwx := drew_alloc hwx); have hBx := al_of hwx; have HZn := Lib.hid (blk_mk (xs := [.int .i64 tk, .slice a9 n9 c9, .bool false]) hwx); (try have HZN := Lib.hid (zn10 HA.out)); have J9 := Lib.hid (J9.out.below hBx (Nat.le_refl _)); have J3 := Lib.hid (J3.out.below hBx (Nat.le_refl _)); have J6 := Lib.hid (J6.out.below hBx (Nat.le_refl _)); (try have HA := Lib.hid (own_below HA.out hBx (Nat.le_refl _))); (try have HY := Lib.hid (own_below HY.out hBx (Nat.le_refl _))); (try have HZ := Lib.hid (HZ.out.below hBx (Nat.le_refl _))); have JB := Lib.hid (JB.out.trans (hBx.mono JB.out.size)); have c0 := J3.out.at 0 rfl; have c4 := J9.out.at 4 rfl; have f4 := J9.out.free 4; have l9 := J9.out.lt; have HZ := HZn; clear HZn hBx hwx)
                        refine hK.out _ _ (by (try dsimp only); (first | assumption | go_keep)) (fun hHeld => ?_)
                        clear hK K
                        (try simp only [Act.put, List.setIfInBounds_toArray, List.set_cons_zero, List.set_cons_succ])
                        refine wpAnyH_ready (rs := [11]) (by kernel_rfl) (by simp) ?_
                        refine AllReadyH.cons (o := (Oper.mk (some 94) (Op.call (Call.mk (Callee.builtin Builtin.append) #[Operand.tmp 86, Operand.tmp 93] #[76, 76])) 76 "ref.go:90" #[Edge.mk 3 Ground.data, Edge.mk 10 Ground.data, Edge.mk 8 Ground.chain] none)) rfl (fun K hK => ?_) (AllReadyH.nil)
                        (refine step_append_opt _ (by rfl) (.tmp 86) (.tmp 93) 76 (by rfl) w.heap.size 81 ji _ 3 40 Try.underlying76 HJ1.out hz0 hz1 hz2 (by rfl) (by decide) _ mk xs (by rfl) HA.out _ 1 1 [.int .i64 tk, .slice a9 n9 c9, .bool false] (by rfl) (by rfl) (row_src HZ.out) (by intro v hv; simp at hv; rcases hv with rfl | rfl | rfl <;> rfl) (by have := HMB.out; unfold maxLen; omega) (by have := HMB.out; omega) JB.out.size ?_; intro v8 w8 hown8 hgrow8 hob8; obtain ⟨a8, n8, c8, rfl⟩ := own_slice hown8; have J9n := Lib.hid (J9.out.grown hgrow8 (own_ne HA.out J9.out (by decide))); have J3n := Lib.hid (J3.out.grown hgrow8 (own_ne HA.out J3.out (by decide))); have J6n := Lib.hid (J6.out.grown hgrow8 (own_ne HA.out J6.out (by decide))); have HY := Lib.hid (own_kept HY.out HA.out (by decide) hgrow8); have JBn := Lib.hid (JB.out.grown hgrow8 JB.out.size (fun k e => (HA.out.lt k e).1)); have J9 := J9n; have J3 := J3n; have J6 := J6n; have JB := JBn; have HA := Lib.hid hown8; have c0 := J3.out.at 0 rfl; have c4 := J9.out.at 4 rfl; have f4 := J9.out.free 4; have l9 := J9.out.lt; clear hown8 hgrow8 hob8 J9n J3n J6n JBn HZ)
                        refine hK.out _ _ (by (try dsimp only); (first | assumption | go_keep)) (fun hHeld => ?_)
                        clear hK K
                        (try simp only [Act.put, List.setIfInBounds_toArray, List.set_cons_zero, List.set_cons_succ])
                        refine wpAnyH_take (i := 12) (oi := (Oper.mk (some 95) (Op.fieldAddr 78 (Operand.tmp 11) 1) 0 "ref.go:90" #[Edge.mk 0 Ground.phase, Edge.mk 1 Ground.phase, Edge.mk 2 Ground.phase, Edge.mk 3 Ground.phase, Edge.mk 4 Ground.phase, Edge.mk 5 Ground.phase, Edge.mk 6 Ground.phase, Edge.mk 7 Ground.phase, Edge.mk 8 Ground.phase, Edge.mk 9 Ground.phase, Edge.mk 10 Ground.phase, Edge.mk 11 Ground.phase] none)) (v := ?_) rfl (by kernel_rfl) (by kernel_rfl) (by kernel_rfl) (fun _ _ _ h => h) (Or.inl ⟨by rfl, ?_⟩) (by assumption) ?_
                        rotate_left
                        · (intro w hSw; (try dsimp only at hSw); go_simp; first | done | with_reducible rfl)
                        (try simp only [Act.put, List.setIfInBounds_toArray, List.set_cons_zero, List.set_cons_succ])
                        refine wpAnyH_ready (rs := [13]) (by kernel_rfl) (by simp) ?_
                        refine AllReadyH.cons (o := (Oper.mk none (Op.store 76 (Operand.tmp 95) (Operand.tmp 94)) 0 "ref.go:90" #[Edge.mk 12 Ground.data, Edge.mk 11 Ground.data, Edge.mk 11 Ground.chain, Edge.mk 0 Ground.phase, Edge.mk 1 Ground.phase, Edge.mk 2 Ground.phase, Edge.mk 3 Ground.phase, Edge.mk 4 Ground.phase, Edge.mk 5 Ground.phase, Edge.mk 6 Ground.phase, Edge.mk 7 Ground.phase, Edge.mk 8 Ground.phase, Edge.mk 9 Ground.phase, Edge.mk 10 Ground.phase, Edge.mk 11 Ground.phase] none)) rfl (fun K hK => ?_) (AllReadyH.nil)
                        go_simp
                        (refine nameW (fun wx hwx => ?_); have HAn := Lib.hid (own_set (p := ⟨b9, 4, none⟩) HA.out (own_ne HA.out J9.out (by decide)) (.slice a8 n8 c8)); have HYn := Lib.hid (own_set (p := ⟨b9, 4, none⟩) HY.out (own_ne HY.out J9.out (by decide)) (.slice a8 n8 c8)); have J9n : Hid (Blk wx b9 78 [.int .i64 i1, .int .i64 i2, .int .i64 i3, .bool i4, .slice a8 n8 c8, .int .i64 (dk : Int)]) := Lib.hid (by rw [hwx]; exact Blk.cast (J9.out.setCell 4 _) rfl); have J3n : Hid (Blk wx b3 45 [.int .i64 tk, .slice (some ⟨bR, oR, none⟩) n c]) := Lib.hid (by rw [hwx]; exact J3.out.setOther (p := ⟨b9, 4, none⟩) (fun e => HN3.out.1 e.symm) _); have J6n : Hid (Blk wx (b3 + 1) 45 [.int .i64 0, .slice none 0 0]) := Lib.hid (by rw [hwx]; exact J6.out.setOther (p := ⟨b9, 4, none⟩) (fun e => HN3.out.2.1 e.symm) _); have JBn : Hid (Below w.heap.size w wx) := Lib.hid (by rw [hwx]; exact JB.out.setCell (p := ⟨b9, 4, none⟩) HN3.out.2.2 _); rw [← hwx] at HAn HYn; have J9 := J9n; have J3 := J3n; have J6 := J6n; have JB := JBn; have HA := HAn; have HY := HYn; have c0 := J3.out.at 0 rfl; clear hwx J9n J3n J6n JBn HAn HYn)
                        refine hK.out _ _ (by (try dsimp only); (first | assumption | go_keep)) (fun hHeld => ?_)
                        clear hK K
                        (try simp only [Act.put, List.setIfInBounds_toArray, List.set_cons_zero, List.set_cons_succ])
                        refine wpAnyH_done (by kernel_rfl) ?_ _
                      case' st2ta88ex54 =>
                        go_simp
                        skip
                        refine hK.out _ _ (by (try dsimp only); (first | assumption | go_keep)) (fun hHeld => ?_)
                        clear hK K
                        (try simp only [Act.put, List.setIfInBounds_toArray, List.set_cons_zero, List.set_cons_succ])
                        refine wpAnyH_ready (rs := [0]) (by kernel_rfl) (by simp) ?_
                        refine AllReadyH.cons (o := (Oper.mk (some 83) (Op.buildSlice 76 0 #[]) 76 "ref.go:90" #[] none)) rfl (fun K hK => ?_) (AllReadyH.nil)
                        go_simp
                        (refine nameW (fun wx hwx => ?_); (try replace hwx := drew_alloc hwx); have hBx := al_of hwx; have HAn := Lib.hid (own_mk (B := w.heap.size) (sz := 3) hwx JB.out.size); (try have HZN := Lib.hid (zn0 HZ.out)); have J9 := Lib.hid (J9.out.below hBx (Nat.le_refl _)); have J3 := Lib.hid (J3.out.below hBx (Nat.le_refl _)); have J6 := Lib.hid (J6.out.below hBx (Nat.le_refl _)); (try have HA := Lib.hid (own_below HA.out hBx (Nat.le_refl _))); (try have HY := Lib.hid (own_below HY.out hBx (Nat.le_refl _))); (try have HZ := Lib.hid (HZ.out.below hBx (Nat.le_refl _))); have JB := Lib.hid (JB.out.trans (hBx.mono JB.out.size)); have c0 := J3.out.at 0 rfl; have c4 := J9.out.at 4 rfl; have f4 := J9.out.free 4; have l9 := J9.out.lt; have HA := HAn; clear HAn hBx hwx)
                        refine hK.out _ _ (by (try dsimp only); (first | assumption | go_keep)) (fun hHeld => ?_)
                        clear hK K
                        (try simp only [Act.put, List.setIfInBounds_toArray, List.set_cons_zero, List.set_cons_succ])
                        refine wpAnyH_ready (rs := [3]) (by kernel_rfl) (by simp) ?_
                        refine AllReadyH.cons (o := (Oper.mk (some 86) (Op.call (Call.mk (Callee.builtin Builtin.append) #[Operand.tmp 83, Operand.tmp 85] #[76, 76])) 76 "ref.go:90" #[Edge.mk 0 Ground.data, Edge.mk 2 Ground.data] none)) rfl (fun K hK => ?_) (AllReadyH.nil)
                        (refine step_append_opt _ (by rfl) (.tmp 83) (.tmp 85) 76 (by rfl) w.heap.size 81 ji _ 3 40 Try.underlying76 HJ1.out hz0 hz1 hz2 (by rfl) (by decide) _ 0 [] (by rfl) HA.out aK mk cK xs (by rfl) HXL.out (src_low HSRC.out JB.out) HONE.out (by have := HMB.out; unfold maxLen; omega) (by have := HMB.out; omega) JB.out.size ?_; intro v8 w8 hown8 hgrow8 hob8; rw [Nat.zero_add, List.nil_append] at hown8; obtain ⟨a8, n8, c8, rfl⟩ := own_slice hown8; have J9n := Lib.hid (J9.out.grown hgrow8 (own_ne HA.out J9.out (by decide))); have J3n := Lib.hid (J3.out.grown hgrow8 (own_ne HA.out J3.out (by decide))); have J6n := Lib.hid (J6.out.grown hgrow8 (own_ne HA.out J6.out (by decide))); (try have HY := Lib.hid (own_kept HY.out HA.out (by decide) hgrow8)); (try have HZ2 := Lib.hid (HZ.out.grown hgrow8 HZN.out)); (try have HZN := Lib.hid (zn3 HZ.out HZN.out hob8)); (try have HZ := HZ2); have JBn := Lib.hid (JB.out.grown hgrow8 JB.out.size (fun k e => (HA.out.lt k e).1)); have J9 := J9n; have J3 := J3n; have J6 := J6n; have JB := JBn; have HA := Lib.hid hown8; have c0 := J3.out.at 0 rfl; have c4 := J9.out.at 4 rfl; have f4 := J9.out.free 4; have l9 := J9.out.lt; clear hown8 hgrow8 hob8 J9n J3n J6n JBn)
                        refine hK.out _ _ (by (try dsimp only); (first | assumption | go_keep)) (fun hHeld => ?_)
                        clear hK K
                        (try simp only [Act.put, List.setIfInBounds_toArray, List.set_cons_zero, List.set_cons_succ])
                        refine wpAnyH_ready (rs := [8]) (by kernel_rfl) (by simp) ?_
                        refine AllReadyH.cons (o := (Oper.mk (some 91) (Op.call (Call.mk (Callee.builtin Builtin.append) #[Operand.tmp 89, Operand.tmp 90] #[31, 31])) 31 "ref.go:90" #[Edge.mk 6 Ground.data, Edge.mk 7 Ground.data, Edge.mk 3 Ground.chain] none)) rfl (fun K hK => ?_) (AllReadyH.nil)
                        (refine step_append_src _ (by rfl) (.tmp 89) (.tmp 90) 31 (by rfl) w.heap.size 5 jb _ 1 Try.underlying31 HJB.out hy0 hy1 hy2 (by rfl) _ 0 [] (by rfl) HY.out ab ml cb (encB l) (by rfl) (by rw [encB_length]; exact HML.out) (HBA.out.below JB.out (Nat.le_refl _)).vat (encB_one l) (by have := HMX.out; unfold maxLen; omega) (by have := HMX.out; omega) JB.out.size ?_; intro v8 w8 hown8 hgrow8 hob8; rw [Nat.zero_add, List.nil_append] at hown8; obtain ⟨a9, n9, c9, rfl⟩ := own_slice hown8; have J9n := Lib.hid (J9.out.grown hgrow8 (own_ne HY.out J9.out (by decide))); have J3n := Lib.hid (J3.out.grown hgrow8 (own_ne HY.out J3.out (by decide))); have J6n := Lib.hid (J6.out.grown hgrow8 (own_ne HY.out J6.out (by decide))); (try have HA := Lib.hid (own_kept HA.out HY.out (by decide) hgrow8)); have JBn := Lib.hid (JB.out.grown hgrow8 JB.out.size (fun k e => (HY.out.lt k e).1)); have J9 := J9n; have J3 := J3n; have J6 := J6n; have JB := JBn; have HY := Lib.hid hown8; have c0 := J3.out.at 0 rfl; have c4 := J9.out.at 4 rfl; have f4 := J9.out.free 4; have l9 := J9.out.lt; clear hown8 hgrow8 hob8 J9n J3n J6n JBn)
                        refine hK.out _ _ (by (try dsimp only); (first | assumption | go_keep)) (fun hHeld => ?_)
                        clear hK K
                        (try simp only [Act.put, List.setIfInBounds_toArray, List.set_cons_zero, List.set_cons_succ])
                        refine wpAnyH_take (i := 9) (oi := (Oper.mk (some 92) (Op.build 81 #[(0, Operand.tmp 88), (1, Operand.tmp 91)]) 81 "ref.go:90" #[Edge.mk 5 Ground.data, Edge.mk 8 Ground.data] none)) (v := ?_) rfl (by kernel_rfl) (by kernel_rfl) (by kernel_rfl) (fun _ _ _ h => h) (Or.inl ⟨by rfl, ?_⟩) (by assumption) ?_
                        rotate_left
                        · (intro w hSw; (try dsimp only at hSw); go_simp; first | done | with_reducible rfl)
                        (try simp only [Act.put, List.setIfInBounds_toArray, List.set_cons_zero, List.set_cons_succ])
                        refine wpAnyH_ready (rs := [10]) (by kernel_rfl) (by simp) ?_
                        refine AllReadyH.cons (o := (Oper.mk (some 93) (Op.buildSlice 76 1 #[(0, Operand.tmp 92)]) 76 "ref.go:90" #[Edge.mk 9 Ground.data] none)) rfl (fun K hK => ?_) (AllReadyH.nil)
                        go_simp
                        (refine nameW (fun wx hwx => ?_); (try replace hwx := drew_alloc hwx); have hBx := al_of hwx; have HZn := Lib.hid (blk_mk (xs := [.int .i64 tk, .slice a9 n9 c9, .bool false]) hwx); (try have HZN := Lib.hid (zn10 HA.out)); have J9 := Lib.hid (J9.out.below hBx (Nat.le_refl _)); have J3 := Lib.hid (J3.out.below hBx (Nat.le_refl _)); have J6 := Lib.hid (J6.out.below hBx (Nat.le_refl _)); (try have HA := Lib.hid (own_below HA.out hBx (Nat.le_refl _))); (try have HY := Lib.hid (own_below HY.out hBx (Nat.le_refl _))); (try have HZ := Lib.hid (HZ.out.below hBx (Nat.le_refl _))); have JB := Lib.hid (JB.out.trans (hBx.mono JB.out.size)); have c0 := J3.out.at 0 rfl; have c4 := J9.out.at 4 rfl; have f4 := J9.out.free 4; have l9 := J9.out.lt; have HZ := HZn; clear HZn hBx hwx)
                        refine hK.out _ _ (by (try dsimp only); (first | assumption | go_keep)) (fun hHeld => ?_)
                        clear hK K
                        (try simp only [Act.put, List.setIfInBounds_toArray, List.set_cons_zero, List.set_cons_succ])
                        refine wpAnyH_ready (rs := [11]) (by kernel_rfl) (by simp) ?_
                        refine AllReadyH.cons (o := (Oper.mk (some 94) (Op.call (Call.mk (Callee.builtin Builtin.append) #[Operand.tmp 86, Operand.tmp 93] #[76, 76])) 76 "ref.go:90" #[Edge.mk 3 Ground.data, Edge.mk 10 Ground.data, Edge.mk 8 Ground.chain] none)) rfl (fun K hK => ?_) (AllReadyH.nil)
                        (refine step_append_opt _ (by rfl) (.tmp 86) (.tmp 93) 76 (by rfl) w.heap.size 81 ji _ 3 40 Try.underlying76 HJ1.out hz0 hz1 hz2 (by rfl) (by decide) _ mk xs (by rfl) HA.out _ 1 1 [.int .i64 tk, .slice a9 n9 c9, .bool false] (by rfl) (by rfl) (row_src HZ.out) (by intro v hv; simp at hv; rcases hv with rfl | rfl | rfl <;> rfl) (by have := HMB.out; unfold maxLen; omega) (by have := HMB.out; omega) JB.out.size ?_; intro v8 w8 hown8 hgrow8 hob8; obtain ⟨a8, n8, c8, rfl⟩ := own_slice hown8; have J9n := Lib.hid (J9.out.grown hgrow8 (own_ne HA.out J9.out (by decide))); have J3n := Lib.hid (J3.out.grown hgrow8 (own_ne HA.out J3.out (by decide))); have J6n := Lib.hid (J6.out.grown hgrow8 (own_ne HA.out J6.out (by decide))); have HY := Lib.hid (own_kept HY.out HA.out (by decide) hgrow8); have JBn := Lib.hid (JB.out.grown hgrow8 JB.out.size (fun k e => (HA.out.lt k e).1)); have J9 := J9n; have J3 := J3n; have J6 := J6n; have JB := JBn; have HA := Lib.hid hown8; have c0 := J3.out.at 0 rfl; have c4 := J9.out.at 4 rfl; have f4 := J9.out.free 4; have l9 := J9.out.lt; clear hown8 hgrow8 hob8 J9n J3n J6n JBn HZ)
                        refine hK.out _ _ (by (try dsimp only); (first | assumption | go_keep)) (fun hHeld => ?_)
                        clear hK K
                        (try simp only [Act.put, List.setIfInBounds_toArray, List.set_cons_zero, List.set_cons_succ])
                        refine wpAnyH_take (i := 12) (oi := (Oper.mk (some 95) (Op.fieldAddr 78 (Operand.tmp 11) 1) 0 "ref.go:90" #[Edge.mk 0 Ground.phase, Edge.mk 1 Ground.phase, Edge.mk 2 Ground.phase, Edge.mk 3 Ground.phase, Edge.mk 4 Ground.phase, Edge.mk 5 Ground.phase, Edge.mk 6 Ground.phase, Edge.mk 7 Ground.phase, Edge.mk 8 Ground.phase, Edge.mk 9 Ground.phase, Edge.mk 10 Ground.phase, Edge.mk 11 Ground.phase] none)) (v := ?_) rfl (by kernel_rfl) (by kernel_rfl) (by kernel_rfl) (fun _ _ _ h => h) (Or.inl ⟨by rfl, ?_⟩) (by assumption) ?_
                        rotate_left
                        · (intro w hSw; (try dsimp only at hSw); go_simp; first | done | with_reducible rfl)
                        (try simp only [Act.put, List.setIfInBounds_toArray, List.set_cons_zero, List.set_cons_succ])
                        refine wpAnyH_ready (rs := [13]) (by kernel_rfl) (by simp) ?_
                        refine AllReadyH.cons (o := (Oper.mk none (Op.store 76 (Operand.tmp 95) (Operand.tmp 94)) 0 "ref.go:90" #[Edge.mk 12 Ground.data, Edge.mk 11 Ground.data, Edge.mk 11 Ground.chain, Edge.mk 0 Ground.phase, Edge.mk 1 Ground.phase, Edge.mk 2 Ground.phase, Edge.mk 3 Ground.phase, Edge.mk 4 Ground.phase, Edge.mk 5 Ground.phase, Edge.mk 6 Ground.phase, Edge.mk 7 Ground.phase, Edge.mk 8 Ground.phase, Edge.mk 9 Ground.phase, Edge.mk 10 Ground.phase, Edge.mk 11 Ground.phase] none)) rfl (fun K hK => ?_) (AllReadyH.nil)
                        go_simp
                        (refine nameW (fun wx hwx => ?_); have HAn := Lib.hid (own_set (p := ⟨b9, 4, none⟩) HA.out (own_ne HA.out J9.out (by decide)) (.slice a8 n8 c8)); have HYn := Lib.hid (own_set (p := ⟨b9, 4, none⟩) HY.out (own_ne HY.out J9.out (by decide)) (.slice a8 n8 c8)); have J9n : Hid (Blk wx b9 78 [.int .i64 i1, .int .i64 i2, .int .i64 i3, .bool i4, .slice a8 n8 c8, .int .i64 (dk : Int)]) := Lib.hid (by rw [hwx]; exact Blk.cast (J9.out.setCell 4 _) rfl); have J3n : Hid (Blk wx b3 45 [.int .i64 tk, .slice (some ⟨bR, oR, none⟩) n c]) := Lib.hid (by rw [hwx]; exact J3.out.setOther (p := ⟨b9, 4, none⟩) (fun e => HN3.out.1 e.symm) _); have J6n : Hid (Blk wx (b3 + 1) 45 [.int .i64 0, .slice none 0 0]) := Lib.hid (by rw [hwx]; exact J6.out.setOther (p := ⟨b9, 4, none⟩) (fun e => HN3.out.2.1 e.symm) _); have JBn : Hid (Below w.heap.size w wx) := Lib.hid (by rw [hwx]; exact JB.out.setCell (p := ⟨b9, 4, none⟩) HN3.out.2.2 _); rw [← hwx] at HAn HYn; have J9 := J9n; have J3 := J3n; have J6 := J6n; have JB := JBn; have HA := HAn; have HY := HYn; have c0 := J3.out.at 0 rfl; clear hwx J9n J3n J6n JBn HAn HYn)
                        refine hK.out _ _ (by (try dsimp only); (first | assumption | go_keep)) (fun hHeld => ?_)
                        clear hK K
                        (try simp only [Act.put, List.setIfInBounds_toArray, List.set_cons_zero, List.set_cons_succ])
                        refine wpAnyH_done (by kernel_rfl) ?_ _
                    all_goals
                      go_wp2_with fail
                      go_meet
                      obtain ⟨aN, cN, h5, h6, h7, h8⟩ := add_fin HPX.out HKL.out (XF.of_below JB.out) J9.out HA.out HY.out HML.out
                      exact ⟨aN, cN, h5, h6, h7, h8, J3, J6, JB⟩
                  case rest =>
                    obtain ⟨aN, cN, h5, h6, N9, HPN, N3, N6, NB⟩ := hcut
                    obtain ⟨wz, hwz⟩ : ∃ x, x = wc := ⟨wc, rfl⟩
                    subst hwz
                    have g0 := N9.out.at 0 rfl
                    have g1 := N9.out.at 1 rfl
                    have g2 := N9.out.at 2 rfl
                    have g3 := N9.out.at 3 rfl
                    have g4 := N9.out.at 4 rfl
                    have g5 := N9.out.at 5 rfl
                    have l9 := N9.out.lt
                    have v0 := N3.out.at 0 rfl
                    have v1 := N3.out.at 1 rfl
                    have vl := N3.out.lt
                    go_wp2_with fail
                    obtain ⟨z1, z2, z3, z4, -⟩ := HI.out
                    subst z1 z2 z3 z4
                    refine (rwith_any (s := { s with L := s.L.drop k ++ [⟨tk, l, false⟩], drop := dk }) tk (H.out.low NB.out) hn HIL.out HPN.out HNL.out h5 h6).mono ?_
                    rintro e w7 ⟨a5, c5, rfl, hrv, hB7⟩
                    have HRV := Lib.hid hrv
                    have HB7 := Lib.hid (NB.out.trans (hB7.mono NB.out.size))
                    have k6 := N6.out.below hB7 (Nat.le_refl _)
                    have t0 := k6.at 0 rfl
                    have t1 := k6.at 1 rfl
                    have tf0 := k6.free 0
                    have tf1 := k6.free 1
                    have tl := k6.lt
                    have K6' := Lib.hid k6
                    clear hrv hB7 k6 g0 g1 g2 g3 g4 g5 v0 v1 vl l9
                    go_wp2_with fail
                    obtain ⟨wb, hwb⟩ : ∃ x, x = (w7.setCell ⟨b3 + 1, 0, none⟩ (.int .i64 tk)).setCell ⟨b3 + 1, 1, none⟩ (.slice a5 n c5) := ⟨_, rfl⟩
                    have hBb : Below w.heap.size w wb := by
                      rw [hwb]
                      exact (HB7.out.setCell (p := ⟨b3 + 1, 0, none⟩) (by show w.heap.size ≤ b3 + 1; rw [HB3.out]; omega) _).setCell (p := ⟨b3 + 1, 1, none⟩) (by show w.heap.size ≤ b3 + 1; rw [HB3.out]; omega) _
                    have h6b : Blk wb (b3 + 1) 45 [.int .i64 tk, .slice a5 n c5] := by
                      rw [hwb]
                      exact Blk.cast ((K6'.out.setCell 0 (.int .i64 tk)).setCell 1 (.slice a5 n c5)) rfl
                    have hX : XF w7 wb := by
                      rw [hwb]
                      exact (XF.box K6'.out).trans (XF.box (K6'.out.setCell 0 (.int .i64 tk)))
                    have r0 := h6b.at 0 rfl
                    have r1 := h6b.at 1 rfl
                    rw [← hwb]
                    exact bodyPost_ret (v := .tuple #[.agg #[.int .i64 tk, .slice a5 n c5], .int .i64 0]) (by simp [results, Try.f17, go_sem, r0, r1]) rfl ⟨a5, n, c5, by rw [HF.out, HTN.out]; rfl, by rw [HF.out]; exact HRV.out.x hX, hBb⟩
end Go.Proofs.Ytnojmkmmfiahgaa

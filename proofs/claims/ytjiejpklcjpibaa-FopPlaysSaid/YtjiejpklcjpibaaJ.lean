/- Contract of Next. No condition. -/
import Derived.Test.YtjiejpklcjpibaaH
namespace Go.Proofs.Ytjiejpklcjpibaa
open Go.RowKit Go.Deep Go.ChangeShapes Go.WideShapes Go.ChangeAt
set_option linter.unusedVariables false

theorem FAt.clock {w w' : World} {X : Nat → Prop} {b : Nat} {f : FS} {vU vC : Value} (h : FAt w X b f vU vC) (t : Int) (hk : Blk w' b 69 (fcells (f.clock t) vU vC)) (hf : Fr (fun k => k = b) w w') : FAt w' X b (f.clock t) vU vC := h.put hk hf rfl rfl
/-- Next gives a frame, or none -/
def NQ (w : World) (X : Nat → Prop) (b : Nat) (vU : Value) (p : FS × Option Fm) (e : Ending) (w' : World) : Prop :=
  ∃ v vC, e = .returned (.tuple #[fmV (p.2.getD Fm.zero) v, .bool p.2.isSome]) ∧ w'.ownsRow w.heap.size 5 1 v (p.2.getD Fm.zero).data.length (encB (p.2.getD Fm.zero).data) ∧ FAt w' X b p.1 vU vC ∧ Fr (fun k => k = b) w w'
/-- the block of the result is no place for data either -/
def XZ (X : Nat → Prop) (w : World) (k : Nat) : Prop := X k ∨ k = w.heap.size
theorem FAt.alloc_x {w : World} {X : Nat → Prop} {b : Nat} {f : FS} {vU vC : Value} (h : FAt w X b f vU vC) (o : Obj) : FAt (w.alloc o) (XZ X w) b f vU vC := by
  obtain ⟨us, h1, h2⟩ := h.units
  have hY : ∀ k, Av (XZ X w) b vU k → Av X b vU k ∨ w.heap.size ≤ k := fun k hk => by
    rcases hk with (h | h) | h
    · exact .inl (.inl h)
    · exact .inr (by omega)
    · exact .inl (.inr h)
  have hB := al (Below.refl w.heap.size w) o
  exact ⟨h.blk.alloc o, ⟨us, h1.below hB (Nat.le_refl _), (h2.grow hY).below hB (Nat.le_refl _)⟩, (h.ctls.grow hY).below hB (Nat.le_refl _), fun k hk => by
    rcases hk with h' | h'
    · have := h.xlt k h'; simp; omega
    · simp; omega⟩
/-- six stores into the block of the result -/
abbrev six (w : World) (r : Nat) (u0 u1 u2 u3 u4 u5 : Value) : World := (((((w.setCell ⟨r, 0, none⟩ u0).setCell ⟨r, 1, none⟩ u1).setCell ⟨r, 2, none⟩ u2).setCell ⟨r, 3, none⟩ u3).setCell ⟨r, 4, none⟩ u4).setCell ⟨r, 5, none⟩ u5
theorem fr_six (w : World) (r : Nat) (u0 u1 u2 u3 u4 u5 : Value) : Fr (fun k => k = r) w (six w r u0 u1 u2 u3 u4 u5) := frs (frs (frs (frs (frs (frs (Fr.refl _ _) _ _) _ _) _ _) _ _) _ _) _ _
theorem FAt.drew {w : World} {X : Nat → Prop} {b : Nat} {f : FS} {vU vC : Value} (h : FAt w X b f vU vC) : FAt w.drew X b f vU vC := h.below ⟨rfl, rfl, rfl, Nat.le_refl _, fun _ _ => rfl⟩ (Nat.le_refl _)
theorem NQ.some_of {w w' : World} {X : Nat → Prop} {b q : Nat} {vU vC v : Value} {p : FS × Option Fm} {g : FS} {x : List UInt8} (hp : p = FS.some g.take) (hq : q = (g.acked + g.flight) % 256) (hx : x = g.units.getD g.flight []) (hO : w'.ownsRow w.heap.size 5 1 v x.length (encB x)) (hF : FAt w' X b g.take.1 vU vC) (hf : Fr (fun k => k = b) w w') :
    NQ w X b vU p (.returned (.tuple #[fmV ⟨false, false, g.craft, g.chan, (q : Int), x⟩ v, .bool true])) w' := by
  subst hp hq hx
  exact ⟨v, vC, rfl, hO, hF, hf⟩
theorem own_six {w : World} {B n s r : Nat} {e : TypeId} {v : Value} {xs : List Value} (h : w.ownsRow B e s v n xs) (hr : r < B) (u0 u1 u2 u3 u4 u5 : Value) : (six w r u0 u1 u2 u3 u4 u5).ownsRow B e s v n xs :=
  own_low (own_low (own_low (own_low (own_low (own_low h hr _ _) hr _ _) hr _ _) hr _ _) hr _ _) hr _ _
theorem own_drew {w : World} {B n s : Nat} {e : TypeId} {v : Value} {xs : List Value} (h : w.ownsRow B e s v n xs) : w.drew.ownsRow B e s v n xs := own_same h (fun _ _ => rfl)
theorem next_close {w w4 : World} {X : Nat → Prop} {b : Nat} {f g : FS} {vU vC vC' : Value} (H : FAt w X b f vU vC) (H4 : FAt w4 (XZ X w) b g vU vC') (hf : Fr (fun k => k = b) w w4) (u0 u1 u2 u3 u4 u5 : Value) :
    FAt (six w4 w.heap.size u0 u1 u2 u3 u4 u5) X b g vU vC' ∧ Fr (fun k => k = b) w (six w4 w.heap.size u0 u1 u2 u3 u4 u5) := by
  have hb := H.blk.lt
  have h6 := H4.fr (fr_six w4 w.heap.size u0 u1 u2 u3 u4 u5) (by omega) (fun k hk e => by have := (H.row k hk).2; omega) (fun k hk => .inl (.inr hk))
  refine ⟨h6.less (fun k hk => .inl (.inl hk)) (fun k hk => ?_), hf.then (fr_six w4 w.heap.size u0 u1 u2 u3 u4 u5) (fun k hk => .inr (by omega))⟩
  exact Nat.lt_of_lt_of_le (H.xlt k hk) (Nat.le_trans hf.size (fr_six w4 w.heap.size u0 u1 u2 u3 u4 u5).size)
theorem FAt.quiet {w w' : World} {X : Nat → Prop} {b : Nat} {f : FS} {vU vC : Value} (h : FAt w X b f vU vC) (hq : Quiet w w') : FAt w' X b f vU vC := h.below hq.below (Nat.le_refl _)
theorem ctl_none {w : World} {X : Nat → Prop} {v : Value} (h : CAt w X v []) : ∃ a cap, v = .slice a 0 cap := by
  obtain ⟨a, cap, h1, -⟩ := h
  exact ⟨a, cap, h1⟩
theorem clock_ok {f : FS} (ok : f.Ok) (t : Int) : (f.clock t).Ok := FS.ok_clock ok t
set_option maxRecDepth 20000 in
set_option maxHeartbeats 1000000 in
/-- nothing to send -/
theorem next_none (X : Nat → Prop) (b : Nat) (f : FS) (vU vC : Value) (t : Int) (w : World) (h : FAt w X b f vU vC) (ok : f.Ok) (hc : f.ctls = []) (hA : f.acked ≤ 1000000000) (hn : (f.next t).2 = none) :
    Calls Try.prog 12 #[.pointer (some ⟨b, 0, none⟩), .int .i64 t] w (NQ w X b vU (f.next t)) := by
  obtain ⟨g, hg⟩ : ∃ g, g = f.clock t := ⟨_, rfl⟩
  have okg : g.Ok := by rw [hg]; exact clock_ok ok t
  have hgc : g.ctls = [] := by rw [hg]; exact hc
  have hnx : f.next t = g.step := by rw [hg]; rfl
  have hgA : g.acked ≤ 1000000000 := by rw [hg]; exact hA
  rw [hnx] at hn ⊢
  have hca := h.ctls
  rw [hc] at hca
  obtain ⟨ac, cc, rfl⟩ := ctl_none hca
  obtain ⟨us, hO, hS⟩ := h.units
  obtain ⟨au, cu, rfl, -, -, -, -, -⟩ := hO.vat
  have hul : us.length = f.units.length := hS.1
  have hgu : g.units = f.units := by rw [hg]; rfl
  rw [hul, ← hgu] at h
  rw [hul, ← hgu]
  have c5 := h.blk.at 5 rfl
  have hlt := h.blk.lt
  have H := Lib.hid h
  have HG := Lib.hid hg
  clear h hca hO hS hul hgu hc hnx hA ok hg
  go_enter Try.func12, Try.ntmps12
  go_wp2_with fail
  have c5 := ((H.out.blk.alloc (.cells #[.bool false, .bool false, .int .i64 0, .int .i64 0, .int .i64 0, .slice none 0 0] 33)).at 5 rfl)
  refine (usable_any b _ c5).mono ?_
  rintro e w2 ⟨rfl, hw⟩
  obtain rfl := hw.symm
  clear c5
  go_wp2_with fail
  refine (clock_any b f _ _ t _ (H.out.blk.alloc _)).mono ?_
  rintro e w3 ⟨rfl, hk, hf⟩
  rw [← HG.out] at hk
  have hz : Blk w3 w.heap.size 33 [.bool false, .bool false, .int .i64 0, .int .i64 0, .int .i64 0, .slice none 0 0] := (Blk.new w 33 _).fr hf (by omega)
  have hf3 : Fr (fun k => k = b) w w3 := ((Fr.refl _ _).alloc _).trans hf
  have H3 := Lib.hid (show FAt w3 (XZ X w) b g _ _ by rw [HG.out]; exact FAt.put (f := f) (H.out.alloc_x _) (by rw [← HG.out]; exact hk) hf rfl rfl)
  have HF3 := Lib.hid hf3
  have HZ := Lib.hid hz
  have c1 := hk.at 1 rfl
  have c4 := hk.at 4 rfl
  have c8 := hk.at 8 rfl
  have c9 := hk.at 9 rfl
  have c10 := hk.at 10 rfl
  have c11 := hk.at 11 rfl
  have c12 := hk.at 12 rfl
  have c13 := hk.at 13 rfl
  have c14 := hk.at 14 rfl
  have f10 := hk.free 10
  have hlt3 := hk.lt
  have z0 := hz.at 0 rfl
  have z1 := hz.at 1 rfl
  have z2 := hz.at 2 rfl
  have z3 := hz.at 3 rfl
  have z4 := hz.at 4 rfl
  have z5 := hz.at 5 rfl
  have y0 := hz.free 0
  have y1 := hz.free 1
  have y2 := hz.free 2
  have y3 := hz.free 3
  have y4 := hz.free 4
  have y5 := hz.free 5
  have zlt := hz.lt
  clear hk hf hf3 hz
  by_cases h1 : g.state = 1
  · have e1 : (g.state : Int) = 1 := by omega
    by_cases h2 : g.units.length = 0
    · have e2 : ((g.units.length : Int) == 0) = true := by rw [h2]; rfl
      have HN : Hid (g.step = (g, none)) := Lib.hid (by unfold FS.step; rw [hgc]; simp only; rw [if_pos (.inr (List.length_eq_zero_iff.1 h2))])
      clear h1
      go_wp2_with fail
      obtain ⟨k1, k2⟩ := next_close H.out H3.out HF3.out (.bool false) (.bool false) (.int .i64 0) (.int .i64 0) (.int .i64 0) (.slice none 0 0)
      exact bodyPost_ret (v := .tuple #[fmV Fm.zero (.slice none 0 0), .bool false]) (by simp [results, Try.results12, go_sem, fmV, Fm.zero, *]) rfl ⟨_, _, by rw [HN.out]; rfl, by rw [HN.out]; exact World.ownsRow_nil _ _ _ _, by rw [HN.out]; exact k1, k2⟩
    · have e2 : ((g.units.length : Int) == 0) = false := by rw [beq_eq_false_iff_ne]; omega
      have hu0 : ¬ (g.state ≠ 1 ∨ g.units = []) := fun h => by rcases h with h | h; exact h h1; exact h2 (by rw [h]; rfl)
      have e3 : ¬ g.flight < min g.size g.units.length := fun hlt => by
        unfold FS.step at hn
        rw [hgc] at hn
        simp only at hn
        rw [if_neg hu0, if_pos hlt] at hn
        cases hn
      have e4 : decide (g.flight < min g.size g.units.length) = false := decide_eq_false e3
      have HS : Hid (g.step = if g.now < g.timer + g.tmo then (g, none) else if g.count = g.ret then ({ g with state := 4 }, none) else FS.some ({ g with count := g.count + 1, flight := 0 } : FS).take) := Lib.hid (by
        unfold FS.step
        rw [hgc]
        simp only
        rw [if_neg hu0, if_neg e3])
      have b1 := okg.now
      have b2 := okg.timer
      have b3 := okg.tmo
      clear hu0 e3 h1
      go_wp2_with fail
      refine (waiting_any b g _ _ _ _ H3.out.blk).mono ?_
      rintro e w4 ⟨rfl, n1, hw4⟩
      rw [e4]
      by_cases h5 : g.now < g.timer + g.tmo
      · have HN : Hid (g.step = (g, none)) := Lib.hid (by rw [HS.out, if_pos h5])
        subst hw4
        go_wp2_with (go_quiet (fail))
        obtain ⟨k1, k2⟩ := next_close H.out (H3.out.quiet ⟨_, rfl⟩) (HF3.out.drewN (n1 + nq)) (.bool false) (.bool false) (.int .i64 0) (.int .i64 0) (.int .i64 0) (.slice none 0 0)
        exact bodyPost_ret (v := .tuple #[fmV Fm.zero (.slice none 0 0), .bool false]) (by simp [results, Try.results12, go_sem, fmV, Fm.zero, *]) rfl ⟨_, _, by rw [HN.out]; rfl, by rw [HN.out]; exact World.ownsRow_nil _ _ _ _, by rw [HN.out]; exact k1, k2⟩
      · have h6 : g.count = g.ret := by
          by_cases h6 : g.count = g.ret
          · exact h6
          · have := HS.out
            rw [if_neg h5, if_neg h6] at this
            rw [this] at hn
            cases hn
        have HN : Hid (g.step = ({ g with state := 4 }, none)) := Lib.hid (by rw [HS.out, if_neg h5, if_pos h6])
        have e6 : ((g.count : Int) == (g.ret : Int)) = true := by rw [h6]; simp
        subst hw4
        clear h6
        go_upto_region 14 with (go_quiet (fail))
        obtain ⟨w5, hw5⟩ : ∃ w5, w5 = (w3.drewN n1).drewN nq := ⟨_, rfl⟩
        rw [← hw5]
        have H5 : Hid (FAt w5 (XZ X w) b g _ _) := Lib.hid (by rw [hw5]; exact (H3.out.quiet ⟨n1, rfl⟩).quiet ⟨nq, rfl⟩)
        have HF5 : Hid (Fr (fun k => k = b) w w5) := Lib.hid (by rw [hw5]; exact (HF3.out.drewN n1).drewN nq)
        have hz : Blk w5 w.heap.size 33 [.bool false, .bool false, .int .i64 0, .int .i64 0, .int .i64 0, .slice none 0 0] := by rw [hw5]; exact (HZ.out.drewN n1).drewN nq
        have c9 := H5.out.blk.at 9 rfl
        have c14 := H5.out.blk.at 14 rfl
        have c10 := H5.out.blk.at 10 rfl
        have f10 := H5.out.blk.free 10
        have hlt5 := H5.out.blk.lt
        have z0 := hz.at 0 rfl
        have z1 := hz.at 1 rfl
        have z2 := hz.at 2 rfl
        have z3 := hz.at 3 rfl
        have z4 := hz.at 4 rfl
        have z5 := hz.at 5 rfl
        have y0 := hz.free 0
        have y1 := hz.free 1
        have y2 := hz.free 2
        have y3 := hz.free 3
        have y4 := hz.free 4
        have y5 := hz.free 5
        have zlt := hz.lt
        clear hw5 hz
        go_wp2_with (go_quiet (fail))
        have hk7 : FAt ((w5.drewN nq).setCell ⟨b, 10, none⟩ (.int .i64 4)) (XZ X w) b { g with state := 4 } _ _ := FAt.put (w := w5.drewN nq) (H5.out.quiet ⟨_, rfl⟩) (Blk.cast ((H5.out.blk.drewN nq).setCell 10 _) rfl) (frs (Fr.refl _ _) _ _) rfl rfl
        obtain ⟨k1, k2⟩ := next_close H.out hk7 (frs (HF5.out.drewN nq) _ _) (.bool false) (.bool false) (.int .i64 0) (.int .i64 0) (.int .i64 0) (.slice none 0 0)
        exact bodyPost_ret (v := .tuple #[fmV Fm.zero (.slice none 0 0), .bool false]) (by simp [results, Try.results12, go_sem, fmV, Fm.zero, *]) rfl ⟨_, _, by rw [HN.out]; rfl, by rw [HN.out]; exact World.ownsRow_nil _ _ _ _, by rw [HN.out]; exact k1, k2⟩
  · have e1 : ¬ (g.state : Int) = 1 := by omega
    have HN : Hid (g.step = (g, none)) := Lib.hid (by unfold FS.step; rw [hgc]; simp only; rw [if_pos (.inl h1)])
    clear h1
    go_wp2_with fail
    obtain ⟨k1, k2⟩ := next_close H.out H3.out HF3.out (.bool false) (.bool false) (.int .i64 0) (.int .i64 0) (.int .i64 0) (.slice none 0 0)
    exact bodyPost_ret (v := .tuple #[fmV Fm.zero (.slice none 0 0), .bool false]) (by simp [results, Try.results12, go_sem, fmV, Fm.zero, *]) rfl ⟨_, _, by rw [HN.out]; rfl, by rw [HN.out]; exact World.ownsRow_nil _ _ _ _, by rw [HN.out]; exact k1, k2⟩
set_option maxRecDepth 20000 in
set_option maxHeartbeats 2000000 in
/-- a unit is sent -/
theorem next_some (X : Nat → Prop) (b : Nat) (f : FS) (vU vC : Value) (t : Int) (w : World) (h : FAt w X b f vU vC) (ok : f.Ok) (hc : f.ctls = []) (hA : f.acked ≤ 1000000000) (hn : (f.next t).2 ≠ none) :
    Calls Try.prog 12 #[.pointer (some ⟨b, 0, none⟩), .int .i64 t] w (NQ w X b vU (f.next t)) := by
  obtain ⟨g, hg⟩ : ∃ g, g = f.clock t := ⟨_, rfl⟩
  have okg : g.Ok := by rw [hg]; exact clock_ok ok t
  have hgc : g.ctls = [] := by rw [hg]; exact hc
  have hnx : f.next t = g.step := by rw [hg]; rfl
  have hgA : g.acked ≤ 1000000000 := by rw [hg]; exact hA
  rw [hnx] at hn ⊢
  have hca := h.ctls
  rw [hc] at hca
  obtain ⟨ac, cc, rfl⟩ := ctl_none hca
  obtain ⟨us, hO, hS⟩ := h.units
  obtain ⟨au, cu, rfl, -, -, -, -, -⟩ := hO.vat
  have hul : us.length = f.units.length := hS.1
  have hgu : g.units = f.units := by rw [hg]; rfl
  rw [hul, ← hgu] at h
  rw [hul, ← hgu]
  have c5 := h.blk.at 5 rfl
  have hlt := h.blk.lt
  have H := Lib.hid h
  have HG := Lib.hid hg
  clear h hca hO hS hul hgu hc hnx hA ok hg
  go_enter Try.func12, Try.ntmps12
  go_wp2_with fail
  have c5 := ((H.out.blk.alloc (.cells #[.bool false, .bool false, .int .i64 0, .int .i64 0, .int .i64 0, .slice none 0 0] 33)).at 5 rfl)
  refine (usable_any b _ c5).mono ?_
  rintro e w2 ⟨rfl, hw⟩
  obtain rfl := hw.symm
  clear c5
  go_wp2_with fail
  refine (clock_any b f _ _ t _ (H.out.blk.alloc _)).mono ?_
  rintro e w3 ⟨rfl, hk, hf⟩
  rw [← HG.out] at hk
  have hz : Blk w3 w.heap.size 33 [.bool false, .bool false, .int .i64 0, .int .i64 0, .int .i64 0, .slice none 0 0] := (Blk.new w 33 _).fr hf (by omega)
  have hf3 : Fr (fun k => k = b) w w3 := ((Fr.refl _ _).alloc _).trans hf
  have H3 := Lib.hid (show FAt w3 (XZ X w) b g _ _ by rw [HG.out]; exact FAt.put (f := f) (H.out.alloc_x _) (by rw [← HG.out]; exact hk) hf rfl rfl)
  have HF3 := Lib.hid hf3
  have HZ := Lib.hid hz
  have c1 := hk.at 1 rfl
  have c4 := hk.at 4 rfl
  have c8 := hk.at 8 rfl
  have c9 := hk.at 9 rfl
  have c10 := hk.at 10 rfl
  have c11 := hk.at 11 rfl
  have c12 := hk.at 12 rfl
  have c13 := hk.at 13 rfl
  have c14 := hk.at 14 rfl
  have f10 := hk.free 10
  have hlt3 := hk.lt
  have z0 := hz.at 0 rfl
  have z1 := hz.at 1 rfl
  have z2 := hz.at 2 rfl
  have z3 := hz.at 3 rfl
  have z4 := hz.at 4 rfl
  have z5 := hz.at 5 rfl
  have y0 := hz.free 0
  have y1 := hz.free 1
  have y2 := hz.free 2
  have y3 := hz.free 3
  have y4 := hz.free 4
  have y5 := hz.free 5
  have zlt := hz.lt
  clear hk hf hf3 hz
  have h1 : g.state = 1 := by
    by_cases h1 : g.state = 1
    · exact h1
    · exact absurd (by unfold FS.step; rw [hgc]; simp only; rw [if_pos (.inl h1)]) hn
  have h2 : g.units.length ≠ 0 := fun h2 => hn (by unfold FS.step; rw [hgc]; simp only; rw [if_pos (.inr (List.length_eq_zero_iff.1 h2))])
  have e1 : (g.state : Int) = 1 := by omega
  have e2 : ((g.units.length : Int) == 0) = false := by rw [beq_eq_false_iff_ne]; omega
  have hu0 : ¬ (g.state ≠ 1 ∨ g.units = []) := fun h => by rcases h with h | h; exact h h1; exact h2 (by rw [h]; rfl)
  have HS : Hid (g.step = if g.flight < min g.size g.units.length then FS.some g.take else if g.now < g.timer + g.tmo then (g, none) else if g.count = g.ret then ({ g with state := 4 }, none) else FS.some ({ g with count := g.count + 1, flight := 0 } : FS).take) := Lib.hid (by
    unfold FS.step
    rw [hgc]
    simp only
    rw [if_neg hu0])
  have HN9 := Lib.hid hn
  have b1 := okg.now
  have b2 := okg.timer
  have b3 := okg.tmo
  have b4 := okg.size
  have b5 := okg.count
  have b6 := okg.ret
  clear hu0 h1 hn
  by_cases hlt9 : g.flight < min g.size g.units.length
  · have e4 : decide (g.flight < min g.size g.units.length) = true := decide_eq_true hlt9
    have HN : Hid (g.step = FS.some g.take) := Lib.hid (by rw [HS.out, if_pos hlt9])
    have hfl : g.flight < g.units.length := by omega
    go_wp2_with fail
    refine (waiting_any b g _ _ _ _ H3.out.blk).mono ?_
    rintro e w4 ⟨rfl, n1, hw4⟩
    rw [e4]
    have H4 : Hid (FAt w4 (XZ X w) b g _ _) := Lib.hid (by rw [hw4]; exact H3.out.quiet ⟨n1, rfl⟩)
    have HF4 : Hid (Fr (fun k => k = b) w w4) := Lib.hid (by rw [hw4]; exact HF3.out.drewN n1)
    have HZ4 : Hid (Blk w4 w.heap.size 33 [.bool false, .bool false, .int .i64 0, .int .i64 0, .int .i64 0, .slice none 0 0]) := Lib.hid (by rw [hw4]; exact HZ.out.drewN n1)
    clear hw4
    go_wp2_with fail
    obtain ⟨ux, hOx, hSx⟩ := H4.out.units
    obtain ⟨ax, cx, ex, -, -, hVx, -, -⟩ := hOx.vat
    simp only [Value.slice.injEq] at ex
    obtain ⟨rfl, -, -⟩ := ex
    have hT := take_any b (g) _ au cu ux _ _ (by rw [show g.units.length = g.units.length from rfl]; exact H4.out.blk) hVx hSx (okg) hgA (hfl)
    rw [show g.units.length = g.units.length from rfl] at hT
    obtain ⟨q, hq⟩ : ∃ q : Nat, q = (FS.acked (g) + FS.flight (g)) % 256 := ⟨_, rfl⟩
    obtain ⟨x, hx⟩ : ∃ x, x = (FS.units (g)).getD (FS.flight (g)) [] := ⟨_, rfl⟩
    have HQ := Lib.hid hq
    have HX := Lib.hid hx
    rw [← hq, ← hx] at hT
    clear hOx hSx hVx hq hx
    refine hT.mono ?_
    rintro e w6 ⟨v6, rfl, hk6, hO6, hF6⟩
    obtain ⟨a6, n6, c6, rfl⟩ := own_slice hO6
    have c6' := hk6.at 6 rfl
    have c7 := hk6.at 7 rfl
    have c12 := hk6.at 12 rfl
    have c13 := hk6.at 13 rfl
    have f13 := hk6.free 13
    have hltb := hk6.lt
    have hz := HZ4.out.fr hF6 (by omega)
    have z0 := hz.at 0 rfl
    have z1 := hz.at 1 rfl
    have z2 := hz.at 2 rfl
    have z3 := hz.at 3 rfl
    have z4 := hz.at 4 rfl
    have z5 := hz.at 5 rfl
    have y0 := hz.free 0
    have y1 := hz.free 1
    have y2 := hz.free 2
    have y3 := hz.free 3
    have y4 := hz.free 4
    have y5 := hz.free 5
    have zlt := hz.lt
    have HK6 := Lib.hid hk6
    have HO6 := Lib.hid hO6
    have HF6 := Lib.hid hF6
    clear hT hk6 hO6 hF6 hz
    go_wp2_with (go_region)
    have hF7 : Fr (fun k => k = b) w4 (w6.setCell ⟨b, 13, none⟩ (.int .i64 (FS.now (g)))) := frs HF6.out _ _
    have hk7 : FAt (w6.setCell ⟨b, 13, none⟩ (.int .i64 (FS.now (g)))) (XZ X w) b (FS.take (g)).1 _ _ := H4.out.put (Blk.cast (HK6.out.setCell 13 _) rfl) hF7 rfl rfl
    obtain ⟨k1, k2⟩ := next_close H.out hk7 (HF4.out.trans hF7) (.bool false) (.bool false) (.int .i64 (FS.craft (g))) (.int .i64 (FS.chan (g))) (.int .i64 (q : Int)) (.slice a6 n6 c6)
    have hs4 := HF4.out.size
    have hb4 : b < (w4).heap.size := H4.out.blk.lt
    have hr4 : w.heap.size < (w4).heap.size := HZ4.out.lt
    have hO9 : (World.drew (six (w6.setCell ⟨b, 13, none⟩ (.int .i64 (FS.now (g)))) w.heap.size (.bool false) (.bool false) (.int .i64 (FS.craft (g))) (.int .i64 (FS.chan (g))) (.int .i64 (q : Int)) (.slice a6 n6 c6))).ownsRow w.heap.size 5 1 (.slice a6 n6 c6) x.length (encB x) :=
      own_drew (own_base (own_six (own_low HO6.out hb4 _ _) hr4 _ _ _ _ _ _) hs4)
    exact bodyPost_ret (v := .tuple #[fmV ⟨false, false, FS.craft (g), FS.chan (g), (q : Int), x⟩ (.slice a6 n6 c6), .bool true]) (by simp [results, Try.results12, go_sem, fmV, *]) rfl (NQ.some_of HN.out HQ.out HX.out hO9 k1.drew k2.drew)
  · have e4 : decide (g.flight < min g.size g.units.length) = false := decide_eq_false hlt9
    have h5 : ¬ g.now < g.timer + g.tmo := fun h5 => HN9.out (by rw [HS.out, if_neg hlt9, if_pos h5])
    have h6 : ¬ g.count = g.ret := fun h6 => HN9.out (by rw [HS.out, if_neg hlt9, if_neg h5, if_pos h6])
    obtain ⟨p, hp⟩ : ∃ p : FS, p = { g with count := g.count + 1, flight := 0 } := ⟨_, rfl⟩
    have HN : Hid (g.step = FS.some p.take) := Lib.hid (by rw [HS.out, if_neg hlt9, if_neg h5, if_neg h6, hp])
    have hpu : p.units.length = g.units.length := by rw [hp]
    have hpA : p.acked ≤ 1000000000 := by rw [hp]; exact hgA
    have hpf : p.flight = 0 := by rw [hp]
    have e1p : p.units = g.units := by rw [hp]
    have e2p : p.ctls = g.ctls := by rw [hp]
    have HPU := Lib.hid hpu
    have HE1 := Lib.hid e1p
    have HE2 := Lib.hid e2p
    have HPP := Lib.hid hp
    have e6 : ((g.count : Int) == (g.ret : Int)) = false := by rw [beq_eq_false_iff_ne]; omega
    have ok6 : p.Ok := by rw [hp]; exact { okg with flight := Nat.zero_le _, count := by dsimp only; omega }
    have hfl : p.flight < p.units.length := by omega
    clear h6 hp hpu hpf e1p e2p
    go_wp2_with fail
    refine (waiting_any b g _ _ _ _ H3.out.blk).mono ?_
    rintro e w4 ⟨rfl, n1, hw4⟩
    rw [e4]
    subst hw4
    go_upto_region 14 with (go_quiet (fail))
    obtain ⟨w5, hw5⟩ : ∃ w5, w5 = (w3.drewN n1).drewN nq := ⟨_, rfl⟩
    rw [← hw5]
    have H5 : Hid (FAt w5 (XZ X w) b g _ _) := Lib.hid (by rw [hw5]; exact (H3.out.quiet ⟨n1, rfl⟩).quiet ⟨nq, rfl⟩)
    have HF5 : Hid (Fr (fun k => k = b) w w5) := Lib.hid (by rw [hw5]; exact (HF3.out.drewN n1).drewN nq)
    have HZ5 : Hid (Blk w5 w.heap.size 33 [.bool false, .bool false, .int .i64 0, .int .i64 0, .int .i64 0, .slice none 0 0]) := Lib.hid (by rw [hw5]; exact (HZ.out.drewN n1).drewN nq)
    have c9 := H5.out.blk.at 9 rfl
    have c14 := H5.out.blk.at 14 rfl
    have f14 := H5.out.blk.free 14
    have hlt5 := H5.out.blk.lt
    clear hw5
    go_upto_region 17 with (go_quiet (fail))
    obtain ⟨w7, hw7⟩ : ∃ w7, w7 = w5.drewN nq := ⟨_, rfl⟩
    rw [← hw7]
    have H7 : Hid (FAt w7 (XZ X w) b g _ _) := Lib.hid (by rw [hw7]; exact H5.out.quiet ⟨nq, rfl⟩)
    have HF7 : Hid (Fr (fun k => k = b) w w7) := Lib.hid (by rw [hw7]; exact HF5.out.drewN nq)
    have HZ7 : Hid (Blk w7 w.heap.size 33 [.bool false, .bool false, .int .i64 0, .int .i64 0, .int .i64 0, .slice none 0 0]) := Lib.hid (by rw [hw7]; exact HZ5.out.drewN nq)
    have c14 := H7.out.blk.at 14 rfl
    have f14 := H7.out.blk.free 14
    have hlt7 := H7.out.blk.lt
    clear hw7
    go_wp2_with fail
    have hk8 : Blk (w7.setCell ⟨b, 14, none⟩ (.int .i64 ((g.count : Int) + 1))) b 69 (fcells { g with count := g.count + 1 } (.slice au g.units.length cu) (.slice ac 0 cc)) := Blk.cast (H7.out.blk.setCell 14 _) rfl
    refine (repeat_any b _ _ _ _ hk8).mono ?_
    rintro e w8 ⟨rfl, hk9, hF9⟩
    have hF79 : Fr (fun k => k = b) w7 w8 := (frs (Fr.refl _ _) 14 _).trans hF9
    have H8 : Hid (FAt w8 (XZ X w) b p (.slice au g.units.length cu) (.slice ac 0 cc)) := Lib.hid (H7.out.put (by rw [HPP.out]; exact hk9) hF79 HE1.out HE2.out)
    have HF8 : Hid (Fr (fun k => k = b) w w8) := Lib.hid (HF7.out.trans hF79)
    have HZ8 : Hid (Blk w8 w.heap.size 33 [.bool false, .bool false, .int .i64 0, .int .i64 0, .int .i64 0, .slice none 0 0]) := Lib.hid (HZ7.out.fr hF79 (by omega))
    clear hk8 hk9 hF9 hF79
    go_wp2_with fail
    obtain ⟨ux, hOx, hSx⟩ := H8.out.units
    obtain ⟨ax, cx, ex, -, -, hVx, -, -⟩ := hOx.vat
    simp only [Value.slice.injEq] at ex
    obtain ⟨rfl, -, -⟩ := ex
    have hT := take_any b (p) _ au cu ux _ _ (by rw [HPU.out]; exact H8.out.blk) hVx hSx (ok6) hpA (hfl)
    rw [HPU.out] at hT
    obtain ⟨q, hq⟩ : ∃ q : Nat, q = (FS.acked (p) + FS.flight (p)) % 256 := ⟨_, rfl⟩
    obtain ⟨x, hx⟩ : ∃ x, x = (FS.units (p)).getD (FS.flight (p)) [] := ⟨_, rfl⟩
    have HQ := Lib.hid hq
    have HX := Lib.hid hx
    rw [← hq, ← hx] at hT
    clear hOx hSx hVx hq hx
    refine hT.mono ?_
    rintro e w6 ⟨v6, rfl, hk6, hO6, hF6⟩
    obtain ⟨a6, n6, c6, rfl⟩ := own_slice hO6
    have c6' := hk6.at 6 rfl
    have c7 := hk6.at 7 rfl
    have c12 := hk6.at 12 rfl
    have c13 := hk6.at 13 rfl
    have f13 := hk6.free 13
    have hltb := hk6.lt
    have hz := HZ8.out.fr hF6 (by omega)
    have z0 := hz.at 0 rfl
    have z1 := hz.at 1 rfl
    have z2 := hz.at 2 rfl
    have z3 := hz.at 3 rfl
    have z4 := hz.at 4 rfl
    have z5 := hz.at 5 rfl
    have y0 := hz.free 0
    have y1 := hz.free 1
    have y2 := hz.free 2
    have y3 := hz.free 3
    have y4 := hz.free 4
    have y5 := hz.free 5
    have zlt := hz.lt
    have HK6 := Lib.hid hk6
    have HO6 := Lib.hid hO6
    have HF6 := Lib.hid hF6
    clear hT hk6 hO6 hF6 hz
    go_wp2_with (go_region)
    have hF7 : Fr (fun k => k = b) w8 (w6.setCell ⟨b, 13, none⟩ (.int .i64 (FS.now (p)))) := frs HF6.out _ _
    have hk7 : FAt (w6.setCell ⟨b, 13, none⟩ (.int .i64 (FS.now (p)))) (XZ X w) b (FS.take (p)).1 _ _ := H8.out.put (Blk.cast (HK6.out.setCell 13 _) rfl) hF7 rfl rfl
    obtain ⟨k1, k2⟩ := next_close H.out hk7 (HF8.out.trans hF7) (.bool false) (.bool false) (.int .i64 (FS.craft (p))) (.int .i64 (FS.chan (p))) (.int .i64 (q : Int)) (.slice a6 n6 c6)
    have hs4 := HF8.out.size
    have hb4 : b < (w8).heap.size := H8.out.blk.lt
    have hr4 : w.heap.size < (w8).heap.size := HZ8.out.lt
    have hO9 : (World.drew (six (w6.setCell ⟨b, 13, none⟩ (.int .i64 (FS.now (p)))) w.heap.size (.bool false) (.bool false) (.int .i64 (FS.craft (p))) (.int .i64 (FS.chan (p))) (.int .i64 (q : Int)) (.slice a6 n6 c6))).ownsRow w.heap.size 5 1 (.slice a6 n6 c6) x.length (encB x) :=
      own_drew (own_base (own_six (own_low HO6.out hb4 _ _) hr4 _ _ _ _ _ _) hs4)
    exact bodyPost_ret (v := .tuple #[fmV ⟨false, false, FS.craft (p), FS.chan (p), (q : Int), x⟩ (.slice a6 n6 c6), .bool true]) (by simp [results, Try.results12, go_sem, fmV, *]) rfl (NQ.some_of HN.out HQ.out HX.out hO9 k1.drew k2.drew)
end Go.Proofs.Ytjiejpklcjpibaa

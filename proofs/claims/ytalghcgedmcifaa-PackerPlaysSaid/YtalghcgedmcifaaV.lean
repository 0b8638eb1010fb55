/- Contract of Next. No condition. -/
import Derived.Test.YtalghcgedmcifaaQ
import Derived.Deep.LoopGhost
namespace Go.Proofs.Ytalghcgedmcifaa
open Go.RowKit Go.Deep Go.ChangeShapes Go.WideShapes Go.ChangeAt
set_option linter.unusedVariables false

/-- out's row is no place for the packer's data -/
def Xo (X : Nat → Prop) (v7 : Value) (k : Nat) : Prop := X k ∨ v7.ownBlock = Option.some k
/-- what Next gives -/
def NQ (w : World) (X : Nat → Prop) (b : Nat) (vW : Value) (r : PS × Option (List UInt8 × Int)) (e : Ending) (w' : World) : Prop :=
  ∃ v vW' vR', e = .returned (.tuple #[v, .int .i64 ((r.2.map (·.2)).getD 0), .bool r.2.isSome]) ∧ w'.ownsRow w.heap.size 5 1 v ((r.2.map (·.1)).getD []).length (encB ((r.2.map (·.1)).getD [])) ∧ PAt w' (Xo X v) b r.1 vW' vR' ∧ (vW'.ownBlock = vW.ownBlock ∨ ∀ k, vW'.ownBlock = some k → w.heap.size ≤ k) ∧ Fr (fun k => k = b) w w' ∧ (∀ k, vW'.ownBlock = some k → v.ownBlock ≠ some k)
theorem NQ.none {w w' : World} {X : Nat → Prop} {b : Nat} {vW vR : Value} {p : PS} {r : PS × Option (List UInt8 × Int)} (hr : r = (p, Option.none)) (h1 : PAt w' X b p vW vR) (h2 : Fr (fun k => k = b) w w') :
    NQ w X b vW r (.returned (.tuple #[.slice Option.none 0 0, .int .i64 0, .bool false])) w' := by
  subst hr
  exact ⟨_, vW, vR, rfl, World.ownsRow_nil _ _ _ _, h1.less (fun k hk => by
    rcases hk with h9 | h9
    · exact .inl h9
    · simp [Value.ownBlock] at h9) (fun k hk => by
    rcases hk with h9 | h9
    · exact h1.xlt k h9
    · simp [Value.ownBlock] at h9), .inl rfl, h2, fun k _ h9 => by simp [Value.ownBlock] at h9⟩
theorem NQ.some {w w' : World} {X : Nat → Prop} {b n : Nat} {vW vW' vR v : Value} {p : PS} {out : List UInt8} {f : Int} {r : PS × Option (List UInt8 × Int)} (hr : r = (p, Option.some (out, f))) (hn : out.length = n) (h0 : w'.ownsRow w.heap.size 5 1 v n (encB out)) (h1 : PAt w' (Xo X v) b p vW' vR) (h3 : vW'.ownBlock = vW.ownBlock ∨ ∀ k, vW'.ownBlock = Option.some k → w.heap.size ≤ k) (h2 : Fr (fun k => k = b) w w') (h4 : ∀ k, vW'.ownBlock = Option.some k → v.ownBlock ≠ Option.some k) :
    NQ w X b vW r (.returned (.tuple #[v, .int .i64 f, .bool true])) w' := by
  subst hr hn
  exact ⟨v, vW', vR, rfl, h0, h1, h3, h2, h4⟩
theorem BAt.take {w : World} {a : Option Addr} {l : List UInt8} (h : BAt w a l) (n : Nat) : BAt w a (l.take n) := by
  rcases h with h | ⟨b, off, h1, h2, h3⟩
  · left; subst h; simp
  · exact .inr ⟨b, off, h1, h2, fun i hi => by
      have hi' : i < l.length := by simp at hi; omega
      rw [h3 i hi']; simp⟩
theorem sl_tail {w : World} {S : Nat → Prop} {bx cx : Nat} {x : List UInt8} (h : BAt w (Option.some ⟨bx, 0, Option.none⟩) x) (hc : x.length ≤ cx) (hm : cx ≤ maxLen) (hs : ¬ S bx) (k : Nat) (hk : k ≤ x.length) (n : Nat) (hn : n = x.length - k) : Sl w S (.slice (Option.some ⟨bx, k, Option.none⟩) n (cx - k)) (x.drop k) := by
  subst hn
  refine ⟨_, _, by rw [List.length_drop], by rw [List.length_drop]; omega, by omega, ?_, fun q hq _ => by cases hq; exact hs⟩
  rcases h with h | ⟨b', o', h1, h2, h3⟩
  · left; subst h; simp
  · cases h1
    refine .inr ⟨bx, k, rfl, h2, fun i hi => ?_⟩
    have hi' : k + i < x.length := by rw [List.length_drop] at hi; omega
    have := h3 (k + i) hi'
    rw [Nat.zero_add] at this
    rw [this, List.getElem_drop]
theorem Sl.dropped {w : World} {S : Nat → Prop} {g off rl c : Nat} {x : List UInt8} (h : Sl w S (.slice (Option.some ⟨g, off, Option.none⟩) rl c) x) (n : Nat) (hn : n ≤ rl) : Sl w S (.slice (Option.some ⟨g, off + n, Option.none⟩) (rl - n) (c - n)) (x.drop n) := by
  obtain ⟨a, c', e, h1, h2, h3, h4⟩ := h
  simp only [Value.slice.injEq] at e
  obtain ⟨rfl, e2, rfl⟩ := e
  refine ⟨_, _, by rw [List.length_drop, e2], by rw [List.length_drop]; omega, by omega, ?_, fun q hq hne => by cases hq; exact h4 ⟨g, off, Option.none⟩ rfl (fun e => hne (by rw [e]; exact List.drop_nil))⟩
  rcases h3 with h | ⟨b', o', k1, k2, k3⟩
  · left; rw [h]; exact List.drop_nil
  · cases k1
    refine .inr ⟨g, off + n, rfl, k2, fun i hi => ?_⟩
    have hi' : n + i < x.length := by rw [List.length_drop] at hi; omega
    have := k3 (n + i) hi'
    rw [← Nat.add_assoc] at this
    rw [this, List.getElem_drop]
theorem PAt.move {w w' : World} {X Y T : Nat → Prop} {b : Nat} {p : PS} {vW vR : Value} (h : PAt w X b p vW vR) (hf : Fr T w w') (hb : ¬ T b) (hu : ∀ k, vW.ownBlock = Option.some k → ¬ T k) (hT : ∀ k, T k → X k ∨ w.heap.size ≤ k) (hY : ∀ k, Y k → X k ∨ w.heap.size ≤ k) (hl : ∀ k, Y k → k < w'.heap.size) : PAt w' Y b p vW vR := by
  obtain ⟨us, h1, h2⟩ := h.row
  have hZ : ∀ k, (Av X b vW k ∨ Av Y b vW k) → Av X b vW k ∨ w.heap.size ≤ k := fun k hk => by
    rcases hk with h | h | h
    · exact .inl h
    · rcases hY k h with e | e
      · exact .inl (.inl e)
      · exact .inr e
    · exact .inl (.inr h)
  have hT' : ∀ k, T k → (Av X b vW k ∨ Av Y b vW k) ∨ w.heap.size ≤ k := fun k hk => by
    rcases hT k hk with e | e
    · exact .inl (.inl (.inl e))
    · exact .inr e
  have hs : ∀ k, Av Y b vW k → (Av X b vW k ∨ Av Y b vW k) ∨ w'.heap.size ≤ k := fun k hk => .inl (.inr hk)
  exact ⟨h.blk.fr hf hb, ⟨us, own_fr h1 hf hu, ((h2.grow hZ).fr hf hT').grow hs⟩, ((h.rest.grow hZ).fr hf hT').grow hs, hl, h.rsh⟩
/-- what the loop keeps -/
def Z (w wr : World) (X : Nat → Prop) (b : Nat) (vW vR : Value) (T : PS × List UInt8 × Int) (size m : Nat) (v5 v7 : Value) : Prop :=
  ∃ (q : PS) (out : List UInt8) (f : Int) (vW' : Value), v5 = .int .i64 f ∧ PS.fill m q out f = T ∧ (q.L.length < m ∨ q.size ≤ out.length) ∧ q.Ok ∧ q.size = size ∧ out.length ≤ size ∧ PAt wr (Xo X v7) b q vW' vR ∧ wr.ownsRow w.heap.size 5 1 v7 out.length (encB out) ∧ (vW'.ownBlock = vW.ownBlock ∨ ∀ k, vW'.ownBlock = some k → w.heap.size ≤ k) ∧ Fr (fun k => k = b) w wr ∧ (∀ k, vW'.ownBlock = some k → v7.ownBlock ≠ some k) ∧ b < w.heap.size
/-- bytes are taken and appended -/
theorem zmem {w wr w5 w8 : World} {X : Nat → Prop} {b n m : Nat} {q q' : PS} {vW' vW5 vR v7 v8 : Value} {xs ys : List Value} (hP : PAt wr (Xo X v7) b q vW' vR) (hO : wr.ownsRow w.heap.size 5 1 v7 n xs) (hfr : Fr (fun k => k = b) w wr) (hne : ∀ k, vW'.ownBlock = some k → v7.ownBlock ≠ some k) (hbw : b < w.heap.size)
    (hP5 : PAt w5 (Xo X v7) b q' vW5 vR) (hc5 : vW5.ownBlock = vW'.ownBlock ∨ ∀ k, vW5.ownBlock = some k → wr.heap.size ≤ k) (hf5 : Fr (fun k => k = b) wr w5) (hO8 : w8.ownsRow w.heap.size 5 1 v8 m ys) (hg8 : w5.grownBy w8 v7.ownBlock) (hb8 : v8.ownBlock = v7.ownBlock ∨ v8.ownBlock = some w5.heap.size) :
    PAt w8 (Xo X v8) b q' vW5 vR ∧ Fr (fun k => k = b) w w8 ∧ (∀ k, vW5.ownBlock = some k → v8.ownBlock ≠ some k) := by
  have h7 : ∀ k, v7.ownBlock = some k → w.heap.size ≤ k ∧ k < wr.heap.size := fun k hk => hO.lt k hk
  have hne5 : ∀ k, vW5.ownBlock = some k → v7.ownBlock ≠ some k := fun k hk h9 => by
    rcases hc5 with e9 | e9
    · exact hne k (by rw [← e9]; exact hk) h9
    · have := e9 k hk
      have := (h7 k h9).2
      omega
  have hg : Fr (fun k => v7.ownBlock = some k) w5 w8 := (Fr.refl _ _).grown hg8 (fun k hk => .inl hk)
  refine ⟨hP5.move hg ?_ ?_ ?_ ?_ ?_, ((hfr.trans hf5).grown hg8 (fun k hk => .inr (h7 k hk).1)), ?_⟩
  · intro h9; have := (h7 b h9).1; omega
  · intro k hk h9; exact hne5 k hk h9
  · intro k hk; exact .inl (.inr hk)
  · rintro k (h9 | h9)
    · exact .inl (.inl h9)
    · rcases hb8 with e9 | e9
      · exact .inl (.inr (by rw [← e9]; exact h9))
      · rw [e9] at h9; cases h9; exact .inr (Nat.le_refl _)
  · rintro k (h9 | h9)
    · exact Nat.lt_of_lt_of_le (hP5.xlt k (.inl h9)) hg.size
    · exact (hO8.lt k h9).2
  · intro k hk h9
    rcases hb8 with e9 | e9
    · exact hne5 k hk (by rw [← e9]; exact h9)
    · rw [e9] at h9; cases h9
      have := (hP5.lt _ hk).2
      omega
theorem take_len {p : PS} (ok : p.Ok) (hL : p.L ≠ []) (m : Nat) : (p.take m).2.length ≤ m ∧ ((p.take m).1.L.length < p.L.length ∨ (p.take m).2.length = m) := by
  unfold PS.take
  cases e : p.L with
  | nil => exact absurd e hL
  | cons x xs =>
    dsimp only
    split
    · rename_i h
      refine ⟨by simp; omega, .inr (by simp; omega)⟩
    · rename_i h
      exact ⟨by simp; omega, .inl (by simp)⟩
theorem fill_done (m : Nat) (p : PS) (out : List UInt8) (f : Int) (h : ¬ (out.length < p.size ∧ p.L ≠ [])) : PS.fill m p out f = (p, out, f) := by
  cases m with
  | zero => rfl
  | succ m => unfold PS.fill; rw [if_neg h]
theorem fill_more (m : Nat) (p : PS) (out : List UInt8) (f : Int) (h : out.length < p.size ∧ p.L ≠ []) : PS.fill (m + 1) p out f = PS.fill m (p.take (p.size - out.length)).1 (out ++ (p.take (p.size - out.length)).2) (firstP p out f) := by
  conv => lhs; unfold PS.fill
  rw [if_pos h]
/-- one more unit of fuel changes nothing once it is enough -/
theorem fill_fuel (m : Nat) : ∀ (p : PS) (out : List UInt8) (f : Int), p.Ok → p.L.length < m → PS.fill (m + 1) p out f = PS.fill m p out f := by
  induction m with
  | zero => intro p out f _ h; omega
  | succ m ih =>
    intro p out f ok hl
    by_cases h : out.length < p.size ∧ p.L ≠ []
    · rw [fill_more _ _ _ _ h, fill_more _ _ _ _ h]
      obtain ⟨k1, k2⟩ := take_len ok h.2 (p.size - out.length)
      rcases k2 with k2 | k2
      · exact ih _ _ _ (PS.ok_take ok _) (by omega)
      · have hs := (p.take_size (p.size - out.length)).1
        rw [fill_done _ _ _ _ (by rw [hs, List.length_append]; omega), fill_done _ _ _ _ (by rw [hs, List.length_append]; omega)]
    · rw [fill_done _ _ _ _ h, fill_done _ _ _ _ h]
theorem next_nothing (X : Nat → Prop) (b : Nat) (p : PS) (vW vR : Value) (w : World) (h : PAt w X b p vW vR) (ok : p.Ok) (h0 : p.left = 0) :
    Calls Try.prog 13 #[.pointer (some ⟨b, 0, none⟩)] w (NQ w X b vW p.next) := by
  have hr : p.next = (p, Option.none) := by unfold PS.next; rw [if_pos h0]
  have c2 := h.blk.at 2 rfl
  have e2 : ((p.left : Int) == 0) = true := by rw [h0]; rfl
  have H := Lib.hid h
  have HR := Lib.hid hr
  clear h hr h0
  go_enter Try.func13, Try.ntmps13
  go_wp2_with (go_at_call 25; refine (H.out.live ok).mono ?_; rintro e w2 ⟨rfl, hw⟩; obtain rfl := hw.symm)
  exact bodyPost_ret (v := .tuple #[.slice Option.none 0 0, .int .i64 0, .bool false]) (by simp [results, Try.results13, go_sem]) rfl (NQ.none HR.out H.out (Fr.refl _ _))
set_option maxRecDepth 20000 in
set_option maxHeartbeats 2000000 in
theorem next_nil (X : Nat → Prop) (b : Nat) (p : PS) (vW : Value) (w : World) (h : PAt w X b p vW (.slice Option.none 0 0)) (ok : p.Ok) (h0 : p.left ≠ 0) :
    Calls Try.prog 13 #[.pointer (some ⟨b, 0, none⟩)] w (NQ w X b vW p.next) := by
  have hrest : p.rest = [] := by
    obtain ⟨a, c, e, -⟩ := h.rest
    simp only [Value.slice.injEq] at e
    exact List.length_eq_zero_iff.1 e.2.1.symm
  have HRS := Lib.hid hrest
  obtain ⟨T, hTT⟩ : ∃ T, T = PS.fill (p.L.length + 1) p.begin [] 2047 := ⟨_, rfl⟩
  have hnx : p.next = ((PS.close T).1, Option.some (PS.close T).2) := by unfold PS.next; rw [if_neg h0, hTT, hrest]; simp
  have e3 : ¬ (p.size : Int) < 0 := by omega
  have e4 : min (0 : Int) (p.size : Int) = 0 := by omega
  clear hrest
  have HNX := Lib.hid hnx
  have c0 := h.blk.at 0 rfl
  have c2 := h.blk.at 2 rfl
  have c5 := h.blk.at 5 rfl
  have f5 := h.blk.free 5
  have hlt := h.blk.lt
  have e2 : ((p.left : Int) == 0) = false := by rw [beq_eq_false_iff_ne]; omega
  have H := Lib.hid h
  have HTT := Lib.hid hTT
  clear h hnx h0 hTT
  go_enter Try.func13, Try.ntmps13
  go_upto_region 4 with (go_at_call 25; refine (H.out.live ok).mono ?_; rintro e w2 ⟨rfl, hw⟩; obtain rfl := hw.symm)
  go_upto_region 5 with (go_quiet (fail))
  obtain ⟨w4, hw4⟩ : ∃ w4, w4 = w.drewN nq := ⟨_, rfl⟩
  rw [← hw4]
  have H4 : Hid (PAt w4 X b p vW (.slice Option.none 0 0)) := Lib.hid (by rw [hw4]; exact H.out.quiet ⟨_, rfl⟩)
  have HF4 : Hid (Fr (fun k => k = b) w w4) := Lib.hid (by rw [hw4]; exact (Fr.refl _ w).drewN nq)
  have HB4 : Hid (Below w.heap.size w w4) := Lib.hid (by rw [hw4]; exact Quiet.below ⟨nq, rfl⟩)
  clear c0 c2 c5 f5 hlt hw4
  have c5 := H4.out.blk.at 5 rfl
  have hlt4 := H4.out.blk.lt
  go_wp2_with fail
  refine (clone_none _ _ _).mono ?_
  rintro e w5 ⟨v5, rfl, hO5, hB5⟩
  obtain ⟨a5, n5, k5, rfl⟩ := own_slice hO5
  have HB5 := Lib.hid hB5
  have H5 := Lib.hid (H4.out.below hB5 (Nat.le_refl _))
  have HF5 := Lib.hid (HF4.out.below hB5 (Nat.le_refl _))
  have HO5 := Lib.hid hO5
  clear hO5 hB5 c5
  have c5 := H5.out.blk.at 5 rfl
  have f5 := H5.out.blk.free 5
  have hlt5 := H5.out.blk.lt
  obtain ⟨vR6, hv6⟩ : ∃ v : Value, v = .slice Option.none 0 0 := ⟨_, rfl⟩
  have hf6 : Fr (fun k => k = b) w5 (w5.setCell ⟨b, 5, Option.none⟩ vR6) := frs (Fr.refl _ _) _ _
  have hx5 : PAt w5 (Xo X (.slice a5 n5 k5)) b p vW (.slice Option.none 0 0) := H4.out.move (T := fun k => w4.heap.size ≤ k) (Fr.of_below HB5.out (Nat.le_refl _)) (by omega) (fun k hk => by have := (H4.out.lt k hk).2; omega) (fun k hk => .inr hk) (by
    rintro k (h9 | h9)
    · exact .inl h9
    · exact .inr (HO5.out.lt k h9).1) (by
    rintro k (h9 | h9)
    · exact Nat.lt_of_lt_of_le (H4.out.xlt k h9) HB5.out.size
    · exact (HO5.out.lt k h9).2)
  have H6 : PAt (w5.setCell ⟨b, 5, Option.none⟩ vR6) (Xo X (.slice a5 n5 k5)) b p.begin vW vR6 := by
    have hsl : Sl (w5.setCell ⟨b, 5, Option.none⟩ vR6) (Av (Xo X (.slice a5 n5 k5)) b vW) vR6 p.begin.rest := by
      rw [hv6, show p.begin.rest = [] by unfold PS.begin; rw [HRS.out]; rfl]; exact ⟨Option.none, 0, rfl, Nat.le_refl _, Nat.zero_le _, .inl rfl, fun q9 h9 => by cases h9⟩
    exact hx5.rest_new (q := p.begin) (Blk.cast (hx5.blk.setCell 5 _) rfl) hf6 rfl hsl (by rw [hv6]; exact .inl rfl)
  have ZS : Hid (Z w (w5.setCell ⟨b, 5, Option.none⟩ (.slice Option.none 0 0)) X b vW vR6 T p.size (p.L.length + 1) (.int .i64 2047) (.slice a5 n5 k5)) := Lib.hid (by
    rw [← hv6]
    have hlt := H.out.blk.lt
    have hO6 := own_base (own_low HO5.out hlt4 5 vR6) HB4.out.size
    exact ⟨p.begin, [], 2047, vW, rfl, HTT.out.symm, .inl (by simp [PS.begin]), PS.ok_begin ok, rfl, (Nat.zero_le _), H6, hO6, .inl rfl, HF5.out.trans hf6, fun k hk h9 => by have := (H4.out.lt k hk).2; have := (HO5.out.lt k h9).1; omega, hlt⟩)
  obtain ⟨j0, hj, hy0, hy1, hy2⟩ := info_parts info5
  have HJ := Lib.hid hj
  have HVV := Lib.hid hv6
  clear H6 hf6 hj hx5 hv6
  go_wp2_with fail
  go_loopg [5, 7] (p.L.length + 1) (fun gk v5 v7 wr => Hid (Z w wr X b vW vR6 T p.size gk v5 v7))
  case atStart => exact ZS
  case round =>
    obtain ⟨q, out, f, vW', rfl, hT, hqL, hq, hqs, hol, hP, hO, hvW, hfr, hne7, hbw⟩ := hrel.out
    obtain ⟨usq, hrow, hsls⟩ := hP.row
    obtain ⟨hnq, aw, cw, rfl, -, -, -, -⟩ := VAt.of_row hrow
    rw [← hnq] at hP hvW hne7
    obtain ⟨-, ao, co, rfl, -, -, -⟩ := BAt.of_row hO
    have c0 := hP.blk.at 0 rfl
    have c3 := hP.blk.at 3 rfl
    have c4 := hP.blk.at 4 rfl
    have hltr := hP.blk.lt
    have HP := Lib.hid hP
    have HO := Lib.hid hO
    have HVW := Lib.hid hvW
    have HFR := Lib.hid hfr
    have HQ := Lib.hid hq
    have HT := Lib.hid hT
    have HNE := Lib.hid hne7
    have HBW := Lib.hid hbw
    have hs1 := ok.size
    have i1 : (q.size : Int) ≤ 1012 := by omega
    have HQS := Lib.hid hqs
    have HQL := Lib.hid hqL
    clear hP hO hvW hfr hq hT hrow hsls hnq hrel hne7 hbw
    by_cases hlt : out.length < q.size
    · have i2 : (out.length : Int) < (q.size : Int) := by omega
      by_cases hne : q.L.length = 0
      · have i3 : ((q.L.length : Int)) = 0 := by omega
        have i4 : decide (0 < q.L.length) = false := decide_eq_false (by omega)
        have hd : Hid (T = (q, out, f)) := Lib.hid (by rw [← HT.out]; exact fill_done _ _ _ _ (fun h => h.2 (List.length_eq_zero_iff.1 hne)))
        clear hqs hqL
        go_upto_region 11 with fail
        obtain ⟨m, hm⟩ : ∃ m, m = q.size - out.length := ⟨_, rfl⟩
        obtain ⟨mm, hmm⟩ : ∃ mm, mm = max m 7 := ⟨_, rfl⟩
        have j1 : (q.size : Int) - (out.length : Int) = (m : Int) := by omega
        have j2 : (0 : Int) < (m : Int) := by omega
        have j3 : max (m : Int) 7 = (mm : Int) := by omega
        have hm9 : m ≤ 1012 := by omega
        have ho9 : out.length ≤ 1012 := by omega
        have hmm9 : 7 ≤ mm ∧ mm ≤ 1012 ∧ m ≤ mm := by omega
        obtain ⟨idl, hidl⟩ : ∃ l, l = idleN m := ⟨_, rfl⟩
        have hidlen : idl.length = mm := by rw [hidl, idleN_len, hmm]
        have hip : idleP (mm : Int) = (idl, 0) := by
          have h9 := idleP_ok (mm - 6) (by omega) (by omega)
          rw [show (((mm - 6 : Nat) : Int) + 6) = (mm : Int) by omega] at h9
          rw [h9, hidl]
          unfold idleN
          rw [← hmm]
        have HIP := Lib.hid hip
        have HIL := Lib.hid hidlen
        have HCL : Hid (p.next = ({ q with rest := idl.drop m }, Option.some (out ++ idl.take m, if f = 2047 then (out.length : Int) else f))) := Lib.hid (by
          rw [HNX.out, hd.out]
          unfold PS.close
          dsimp only
          rw [if_pos hlt, ← hm, ← hidl])
        have HMM := Lib.hid hmm
        clear hm hmm hidl hidlen hip hlt
        by_cases hf0 : f = 2047
        · have j5 : (f == 2047) = true := by rw [hf0]; rfl
          have HCL2 : Hid (p.next = ({ q with rest := idl.drop m }, Option.some (out ++ idl.take m, (out.length : Int)))) := Lib.hid (by rw [HCL.out, if_pos hf0])
          subst hf0
          go_wp2_with fail
          refine (idle_call (mm : Int) _).mono ?_
          rw [HIP.out]
          rintro e9 w6 ⟨vi, rfl, hO6, hB6⟩
          obtain ⟨-, ai, ci, rfl, hci, hcm6, hA6⟩ := BAt.of_row hO6
          rw [HIL.out] at hci ⊢
          rw [HIL.out] at hO6
          obtain ⟨bi, rfl⟩ : ∃ bi, ai = Option.some ⟨bi, 0, Option.none⟩ := by
            rcases own_shape hO6 with ⟨-, -, e9⟩ | ⟨g9, e9, -⟩
            · omega
            · exact ⟨g9, e9⟩
          have hbi : wr.heap.size ≤ bi ∧ bi < w6.heap.size := hO6.lt bi rfl
          have HP6 := Lib.hid (HP.out.below hB6 (Nat.le_refl _))
          have HO6 := Lib.hid (own_below HO.out hB6 (Nat.le_refl _))
          have HF6 := Lib.hid (HFR.out.below hB6 (Nat.le_refl _))
          have HA6 := Lib.hid hA6
          have hV6 : VAt w6 (Option.some ⟨bi, 0, Option.none⟩) (encB (idl.take m)) := (BAt.take (l := idl) hA6 m).vat
          have HV6 := Lib.hid hV6
          have htl : Hid ((idl.take m).length = m) := Lib.hid (by rw [List.length_take, HIL.out]; omega)
          have hs6 : w.heap.size ≤ w6.heap.size := Nat.le_trans HFR.out.size hB6.size
          have g1 : (m : Int) ≤ (mm : Int) := by omega
          have g2 : (mm : Int) ≤ 1012 := by omega
          have g3 : (0 : Int) ≤ (m : Int) := by omega
          have g4 : (m : Int) ≤ (ci : Int) := by omega
          have HB6 := Lib.hid hB6
          clear hO6 hB6 hA6 hV6
          go_wp2_with (at_builtin; refine wpList_append_src _ rfl (.tmp 102) (.tmp 105) 22 rfl w.heap.size 5 j0 (.int .u8 0) 1 Try.underlying22 HJ.out hy0 hy1 hy2 rfl _ out.length (encB out) rfl HO6.out (Option.some ⟨bi, 0, Option.none⟩) m ci (encB (idl.take m)) rfl (by rw [encB_length, htl.out]) HV6.out (encB_one _) (by unfold maxLen; omega) (by omega) hs6 ?_)
          intro v8 w8 hown8 hgrow8 hblk8
          obtain ⟨a8, n8, c8, rfl⟩ := own_slice hown8
          obtain ⟨m1, m2, m3⟩ := zmem HP.out HO.out HFR.out HNE.out HBW.out HP6.out (.inl rfl) (Fr.of_below HB6.out (Nat.le_refl _)) hown8 hgrow8 hblk8
          have HM1 := Lib.hid m1
          have HM2 := Lib.hid m2
          have HM3 := Lib.hid m3
          have HO8 := Lib.hid hown8
          have hg8 : Fr (fun k => (Value.slice ao out.length co).ownBlock = Option.some k) w6 w8 := (Fr.refl _ _).grown hgrow8 (fun k hk => .inl hk)
          have hA8 : BAt w8 (Option.some ⟨bi, 0, Option.none⟩) idl := BAt.fr (l := idl) HA6.out hg8 (fun q9 h9 e9 => by cases h9; have h7 := (HO.out.lt bi e9).2; have := hbi.1; omega)
          have HA8 := Lib.hid hA8
          have hav : ∀ k, Av (Xo X (.slice a8 n8 c8)) b (.slice aw q.L.length cw) k → k ≠ bi := by
            rintro k (⟨h9 | h9⟩ | h9 | h9) e9
            · have := HP.out.xlt k (.inl h9); have := hbi.1; omega
            · rcases hblk8 with e8 | e8
              · have := (HO.out.lt k (by rw [← e8]; exact h9)).2; have := hbi.1; omega
              · rw [e8] at h9; cases h9; have := hbi.2; omega
            · have := HP.out.blk.lt; have := hbi.1; omega
            · have := (HP.out.lt k h9).2; have := hbi.1; omega
          have HAV := Lib.hid hav
          have hbb : b ≠ bi := by have := HP.out.blk.lt; have := hbi.1; omega
          have f5 := m1.blk.free 5
          have c5 := m1.blk.at 5 rfl
          have hlt8 := m1.blk.lt
          clear hown8 hgrow8 hblk8 m1 m2 m3 hg8 hA8 hav
          have HIL2 := HIL.out
          by_cases hcm : m = ci
          · have hmm7 : m = mm := by omega
            subst hcm
            subst hmm7
            go_wp2_with fail
            have hf9 : Fr (fun k => k = b) w8 (w8.setCell ⟨b, 5, Option.none⟩ (.slice (Option.some ⟨bi, 0, Option.none⟩) 0 0)) := frs (Fr.refl _ _) _ _
            have hs9 := hf9.size
            have hk9 : Blk (w8.setCell ⟨b, 5, Option.none⟩ (.slice (Option.some ⟨bi, 0, Option.none⟩) 0 0)) b 56 (pcells { q with rest := idl.drop m } (.slice aw q.L.length cw) (.slice (Option.some ⟨bi, 0, Option.none⟩) 0 0)) := Blk.cast (HM1.out.blk.setCell 5 _) rfl
            have hr9 : Sl (w8.setCell ⟨b, 5, Option.none⟩ (.slice (Option.some ⟨bi, 0, Option.none⟩) 0 0)) (Av (Xo X (.slice a8 n8 c8)) b (.slice aw q.L.length cw)) (.slice (Option.some ⟨bi, 0, Option.none⟩) 0 0) (idl.drop m) := by
              exact ⟨Option.some ⟨bi, 0, Option.none⟩, 0, by simp [HIL.out], by simp [HIL.out], Nat.zero_le _, .inl (by apply List.length_eq_zero_iff.1; simp [HIL.out]), fun q9 h9 h8 => absurd (by apply List.length_eq_zero_iff.1; simp [HIL.out]) h8⟩
            have hP9 := (HM1.out.rest_new (q := { q with rest := idl.drop m }) hk9 hf9 rfl hr9 (.inr ⟨_, _, _, _, rfl⟩))
            have hO9 := own_low HO8.out HBW.out 5 (.slice (Option.some ⟨bi, 0, Option.none⟩) 0 0)
            exact bodyPost_ret (v := .tuple #[.slice a8 n8 c8, .int .i64 ((out.length : Int)), .bool true]) (by simp [results, Try.results13, go_sem]) rfl (NQ.some HCL2.out (by rw [List.length_append, htl.out]) (by rw [encB_append]; exact hO9) hP9 HVW.out (HM2.out.trans hf9) HM3.out)
          · have g5 : ¬ (ci : Int) = (m : Int) := by omega
            have g6 : ¬ ci = m := fun h => hcm h.symm
            go_wp2_with fail
            have hf9 : Fr (fun k => k = b) w8 (w8.setCell ⟨b, 5, Option.none⟩ (.slice (Option.some ⟨bi, m, Option.none⟩) (mm - m) (ci - m))) := frs (Fr.refl _ _) _ _
            have hs9 := hf9.size
            have hk9 : Blk (w8.setCell ⟨b, 5, Option.none⟩ (.slice (Option.some ⟨bi, m, Option.none⟩) (mm - m) (ci - m))) b 56 (pcells { q with rest := idl.drop m } (.slice aw q.L.length cw) (.slice (Option.some ⟨bi, m, Option.none⟩) (mm - m) (ci - m))) := Blk.cast (HM1.out.blk.setCell 5 _) rfl
            have hr9 : Sl (w8.setCell ⟨b, 5, Option.none⟩ (.slice (Option.some ⟨bi, m, Option.none⟩) (mm - m) (ci - m))) (Av (Xo X (.slice a8 n8 c8)) b (.slice aw q.L.length cw)) (.slice (Option.some ⟨bi, m, Option.none⟩) (mm - m) (ci - m)) (idl.drop m) := by
              exact sl_tail (BAt.fr (l := idl) HA8.out hf9 (fun q9 h9 e9 => by cases h9; exact hbb e9.symm)) (by rw [HIL2]; exact hci) hcm6 (fun h9 => HAV.out _ h9 rfl) m (by rw [HIL2]; omega) (mm - m) (by rw [HIL2])
            have hP9 := (HM1.out.rest_new (q := { q with rest := idl.drop m }) hk9 hf9 rfl hr9 (.inr ⟨_, _, _, _, rfl⟩))
            have hO9 := own_low HO8.out HBW.out 5 (.slice (Option.some ⟨bi, m, Option.none⟩) (mm - m) (ci - m))
            exact bodyPost_ret (v := .tuple #[.slice a8 n8 c8, .int .i64 ((out.length : Int)), .bool true]) (by simp [results, Try.results13, go_sem]) rfl (NQ.some HCL2.out (by rw [List.length_append, htl.out]) (by rw [encB_append]; exact hO9) hP9 HVW.out (HM2.out.trans hf9) HM3.out)
        · have j5 : (f == 2047) = false := by rw [beq_eq_false_iff_ne]; exact hf0
          have HCL2 : Hid (p.next = ({ q with rest := idl.drop m }, Option.some (out ++ idl.take m, f))) := Lib.hid (by rw [HCL.out, if_neg hf0])
          go_wp2_with fail
          refine (idle_call (mm : Int) _).mono ?_
          rw [HIP.out]
          rintro e9 w6 ⟨vi, rfl, hO6, hB6⟩
          obtain ⟨-, ai, ci, rfl, hci, hcm6, hA6⟩ := BAt.of_row hO6
          rw [HIL.out] at hci ⊢
          rw [HIL.out] at hO6
          obtain ⟨bi, rfl⟩ : ∃ bi, ai = Option.some ⟨bi, 0, Option.none⟩ := by
            rcases own_shape hO6 with ⟨-, -, e9⟩ | ⟨g9, e9, -⟩
            · omega
            · exact ⟨g9, e9⟩
          have hbi : wr.heap.size ≤ bi ∧ bi < w6.heap.size := hO6.lt bi rfl
          have HP6 := Lib.hid (HP.out.below hB6 (Nat.le_refl _))
          have HO6 := Lib.hid (own_below HO.out hB6 (Nat.le_refl _))
          have HF6 := Lib.hid (HFR.out.below hB6 (Nat.le_refl _))
          have HA6 := Lib.hid hA6
          have hV6 : VAt w6 (Option.some ⟨bi, 0, Option.none⟩) (encB (idl.take m)) := (BAt.take (l := idl) hA6 m).vat
          have HV6 := Lib.hid hV6
          have htl : Hid ((idl.take m).length = m) := Lib.hid (by rw [List.length_take, HIL.out]; omega)
          have hs6 : w.heap.size ≤ w6.heap.size := Nat.le_trans HFR.out.size hB6.size
          have g1 : (m : Int) ≤ (mm : Int) := by omega
          have g2 : (mm : Int) ≤ 1012 := by omega
          have g3 : (0 : Int) ≤ (m : Int) := by omega
          have g4 : (m : Int) ≤ (ci : Int) := by omega
          have HB6 := Lib.hid hB6
          clear hO6 hB6 hA6 hV6
          go_wp2_with (at_builtin; refine wpList_append_src _ rfl (.tmp 102) (.tmp 105) 22 rfl w.heap.size 5 j0 (.int .u8 0) 1 Try.underlying22 HJ.out hy0 hy1 hy2 rfl _ out.length (encB out) rfl HO6.out (Option.some ⟨bi, 0, Option.none⟩) m ci (encB (idl.take m)) rfl (by rw [encB_length, htl.out]) HV6.out (encB_one _) (by unfold maxLen; omega) (by omega) hs6 ?_)
          intro v8 w8 hown8 hgrow8 hblk8
          obtain ⟨a8, n8, c8, rfl⟩ := own_slice hown8
          obtain ⟨m1, m2, m3⟩ := zmem HP.out HO.out HFR.out HNE.out HBW.out HP6.out (.inl rfl) (Fr.of_below HB6.out (Nat.le_refl _)) hown8 hgrow8 hblk8
          have HM1 := Lib.hid m1
          have HM2 := Lib.hid m2
          have HM3 := Lib.hid m3
          have HO8 := Lib.hid hown8
          have hg8 : Fr (fun k => (Value.slice ao out.length co).ownBlock = Option.some k) w6 w8 := (Fr.refl _ _).grown hgrow8 (fun k hk => .inl hk)
          have hA8 : BAt w8 (Option.some ⟨bi, 0, Option.none⟩) idl := BAt.fr (l := idl) HA6.out hg8 (fun q9 h9 e9 => by cases h9; have h7 := (HO.out.lt bi e9).2; have := hbi.1; omega)
          have HA8 := Lib.hid hA8
          have hav : ∀ k, Av (Xo X (.slice a8 n8 c8)) b (.slice aw q.L.length cw) k → k ≠ bi := by
            rintro k (⟨h9 | h9⟩ | h9 | h9) e9
            · have := HP.out.xlt k (.inl h9); have := hbi.1; omega
            · rcases hblk8 with e8 | e8
              · have := (HO.out.lt k (by rw [← e8]; exact h9)).2; have := hbi.1; omega
              · rw [e8] at h9; cases h9; have := hbi.2; omega
            · have := HP.out.blk.lt; have := hbi.1; omega
            · have := (HP.out.lt k h9).2; have := hbi.1; omega
          have HAV := Lib.hid hav
          have hbb : b ≠ bi := by have := HP.out.blk.lt; have := hbi.1; omega
          have f5 := m1.blk.free 5
          have c5 := m1.blk.at 5 rfl
          have hlt8 := m1.blk.lt
          clear hown8 hgrow8 hblk8 m1 m2 m3 hg8 hA8 hav
          have HIL2 := HIL.out
          by_cases hcm : m = ci
          · have hmm7 : m = mm := by omega
            subst hcm
            subst hmm7
            go_wp2_with fail
            have hf9 : Fr (fun k => k = b) w8 (w8.setCell ⟨b, 5, Option.none⟩ (.slice (Option.some ⟨bi, 0, Option.none⟩) 0 0)) := frs (Fr.refl _ _) _ _
            have hs9 := hf9.size
            have hk9 : Blk (w8.setCell ⟨b, 5, Option.none⟩ (.slice (Option.some ⟨bi, 0, Option.none⟩) 0 0)) b 56 (pcells { q with rest := idl.drop m } (.slice aw q.L.length cw) (.slice (Option.some ⟨bi, 0, Option.none⟩) 0 0)) := Blk.cast (HM1.out.blk.setCell 5 _) rfl
            have hr9 : Sl (w8.setCell ⟨b, 5, Option.none⟩ (.slice (Option.some ⟨bi, 0, Option.none⟩) 0 0)) (Av (Xo X (.slice a8 n8 c8)) b (.slice aw q.L.length cw)) (.slice (Option.some ⟨bi, 0, Option.none⟩) 0 0) (idl.drop m) := by
              exact ⟨Option.some ⟨bi, 0, Option.none⟩, 0, by simp [HIL.out], by simp [HIL.out], Nat.zero_le _, .inl (by apply List.length_eq_zero_iff.1; simp [HIL.out]), fun q9 h9 h8 => absurd (by apply List.length_eq_zero_iff.1; simp [HIL.out]) h8⟩
            have hP9 := (HM1.out.rest_new (q := { q with rest := idl.drop m }) hk9 hf9 rfl hr9 (.inr ⟨_, _, _, _, rfl⟩))
            have hO9 := own_low HO8.out HBW.out 5 (.slice (Option.some ⟨bi, 0, Option.none⟩) 0 0)
            exact bodyPost_ret (v := .tuple #[.slice a8 n8 c8, .int .i64 (f), .bool true]) (by simp [results, Try.results13, go_sem]) rfl (NQ.some HCL2.out (by rw [List.length_append, htl.out]) (by rw [encB_append]; exact hO9) hP9 HVW.out (HM2.out.trans hf9) HM3.out)
          · have g5 : ¬ (ci : Int) = (m : Int) := by omega
            have g6 : ¬ ci = m := fun h => hcm h.symm
            go_wp2_with fail
            have hf9 : Fr (fun k => k = b) w8 (w8.setCell ⟨b, 5, Option.none⟩ (.slice (Option.some ⟨bi, m, Option.none⟩) (mm - m) (ci - m))) := frs (Fr.refl _ _) _ _
            have hs9 := hf9.size
            have hk9 : Blk (w8.setCell ⟨b, 5, Option.none⟩ (.slice (Option.some ⟨bi, m, Option.none⟩) (mm - m) (ci - m))) b 56 (pcells { q with rest := idl.drop m } (.slice aw q.L.length cw) (.slice (Option.some ⟨bi, m, Option.none⟩) (mm - m) (ci - m))) := Blk.cast (HM1.out.blk.setCell 5 _) rfl
            have hr9 : Sl (w8.setCell ⟨b, 5, Option.none⟩ (.slice (Option.some ⟨bi, m, Option.none⟩) (mm - m) (ci - m))) (Av (Xo X (.slice a8 n8 c8)) b (.slice aw q.L.length cw)) (.slice (Option.some ⟨bi, m, Option.none⟩) (mm - m) (ci - m)) (idl.drop m) := by
              exact sl_tail (BAt.fr (l := idl) HA8.out hf9 (fun q9 h9 e9 => by cases h9; exact hbb e9.symm)) (by rw [HIL2]; exact hci) hcm6 (fun h9 => HAV.out _ h9 rfl) m (by rw [HIL2]; omega) (mm - m) (by rw [HIL2])
            have hP9 := (HM1.out.rest_new (q := { q with rest := idl.drop m }) hk9 hf9 rfl hr9 (.inr ⟨_, _, _, _, rfl⟩))
            have hO9 := own_low HO8.out HBW.out 5 (.slice (Option.some ⟨bi, m, Option.none⟩) (mm - m) (ci - m))
            exact bodyPost_ret (v := .tuple #[.slice a8 n8 c8, .int .i64 (f), .bool true]) (by simp [results, Try.results13, go_sem]) rfl (NQ.some HCL2.out (by rw [List.length_append, htl.out]) (by rw [encB_append]; exact hO9) hP9 HVW.out (HM2.out.trans hf9) HM3.out)
      · have i3 : 0 < (q.L.length : Int) := by omega
        have i4 : decide (0 < q.L.length) = true := decide_eq_true (by omega)
        by_cases ht0 : q.taken = 0
        · have i5 : ((q.taken : Int) == 0) = true := by rw [ht0]; rfl
          by_cases hf0 : f = 2047
          · have HFP : Hid (firstP q out f = (out.length : Int)) := Lib.hid (by unfold firstP; rw [if_pos ⟨ht0, hf0⟩])
            subst hf0
            clear ht0 hqs hqL
            have hgk : 0 < gk := by rcases HQL.out with h9 | h9 <;> omega
            obtain ⟨most, hmo⟩ : ∃ most, most = q.size - out.length := ⟨_, rfl⟩
            have j1 : (q.size : Int) - (out.length : Int) = (most : Int) := by omega
            have HMO := Lib.hid hmo
            have hmo9 : most ≤ 1012 := by omega
            have j3 : q.L ≠ [] := fun e9 => hne (by rw [e9]; rfl)
            have j4 := take_len HQ.out j3 most
            have HJ4 := Lib.hid j4
            have HJ3 := Lib.hid j3
            clear hmo j3 j4
            go_wp2_with fail
            refine (take_any (Xo X (.slice ao out.length co)) b most q _ vR6 _ HP.out HQ.out HJ3.out (by omega)).mono ?_
            rintro e5 w5 ⟨vt, vW5, rfl, hP5, hS5, hc5, hf5⟩
            obtain ⟨tk, htk⟩ : ∃ tk, tk = q.take most := ⟨_, rfl⟩
            rw [← htk] at hP5 hS5
            obtain ⟨at5, ct5, rfl, -, -, hA5, -⟩ := hS5
            have HTK := Lib.hid htk
            have hl5 : tk.2.length ≤ 1012 := by rw [htk]; have := HJ4.out.1; omega
            obtain ⟨nt, hnt⟩ : ∃ nt, nt = tk.2.length := ⟨_, rfl⟩
            rw [← hnt]
            have hnt9 : nt ≤ 1012 := by omega
            have HNT := Lib.hid hnt
            have HP5 := Lib.hid hP5
            have HC5 := Lib.hid hc5
            have HF5 := Lib.hid hf5
            have HV5 := Lib.hid hA5.vat
            have HO5 := Lib.hid (own_fr HO.out hf5 (fun k hk e9 => by have := (HO.out.lt k hk).1; have := HBW.out; omega))
            have hs5 : w.heap.size ≤ w5.heap.size := Nat.le_trans HFR.out.size hf5.size
            have ho9 : out.length ≤ 1012 := by omega
            clear hP5 hA5 hc5 hf5 htk hnt hl5
            go_wp2_with (at_builtin; refine wpList_append_src _ rfl (.tmp 72) (.tmp 81) 22 rfl w.heap.size 5 j0 (.int .u8 0) 1 Try.underlying22 HJ.out hy0 hy1 hy2 rfl _ out.length (encB out) rfl HO5.out at5 nt ct5 (encB tk.2) rfl (by rw [encB_length, HNT.out]) HV5.out (encB_one _) (by unfold maxLen; omega) (by omega) hs5 ?_)
            intro v8 w8 hown8 hgrow8 hblk8
            obtain ⟨m1, m2, m3⟩ := zmem HP.out HO.out HFR.out HNE.out HBW.out HP5.out HC5.out HF5.out hown8 hgrow8 hblk8
            have HR8 : Hid (Z w w8 X b vW vR6 T p.size (gk - 1) (.int .i64 ((out.length : Int))) v8) := Lib.hid ⟨tk.1, out ++ tk.2, (out.length : Int), vW5, rfl, ?zt, ?zl, ?zo, ?zs, ?zn, m1, ?zw, ?zc, m2, m3, HBW.out⟩
            case zt =>
              have h9 := HT.out
              rw [show gk = (gk - 1) + 1 by omega, fill_more _ _ _ _ ⟨hlt, HJ3.out⟩, ← HMO.out, ← HTK.out, HFP.out] at h9
              exact h9
            case zl =>
              have hz := (q.take_size most).1
              rw [← HTK.out] at hz
              have h9 := HJ4.out.2
              rw [← HTK.out] at h9
              rcases h9 with h9 | h9
              · left
                rcases HQL.out with h8 | h8 <;> omega
              · right
                rw [List.length_append, hz]
                have := HMO.out
                omega
            case zo => rw [HTK.out]; exact PS.ok_take HQ.out most
            case zs => rw [HTK.out]; exact (q.take_size most).1.trans HQS.out
            case zn =>
              have h9 := HJ4.out.1
              rw [← HTK.out] at h9
              rw [List.length_append]
              have := HMO.out
              have := HQS.out
              omega
            case zw =>
              rw [encB_append, List.length_append, ← HNT.out]
              exact hown8
            case zc =>
              rcases HC5.out with e9 | e9
              · rcases HVW.out with e8 | e8
                · exact .inl (e9.trans e8)
                · exact .inr fun k hk => e8 k (by rw [← e9]; exact hk)
              · exact .inr fun k hk => Nat.le_trans HFR.out.size (e9 k hk)
            clear hown8 hgrow8 hblk8 m1 m2 m3
            go_wp2_with fail
            go_roundg (gk - 1)
            case rel => exact HR8
            case measure => omega
          · have HFP : Hid (firstP q out f = f) := Lib.hid (by unfold firstP; rw [if_neg (fun h => hf0 h.2)])
            have i6 : (f == 2047) = false := by rw [beq_eq_false_iff_ne]; exact hf0
            clear ht0 hqs hqL
            have hgk : 0 < gk := by rcases HQL.out with h9 | h9 <;> omega
            obtain ⟨most, hmo⟩ : ∃ most, most = q.size - out.length := ⟨_, rfl⟩
            have j1 : (q.size : Int) - (out.length : Int) = (most : Int) := by omega
            have HMO := Lib.hid hmo
            have hmo9 : most ≤ 1012 := by omega
            have j3 : q.L ≠ [] := fun e9 => hne (by rw [e9]; rfl)
            have j4 := take_len HQ.out j3 most
            have HJ4 := Lib.hid j4
            have HJ3 := Lib.hid j3
            clear hmo j3 j4
            go_wp2_with fail
            refine (take_any (Xo X (.slice ao out.length co)) b most q _ vR6 _ HP.out HQ.out HJ3.out (by omega)).mono ?_
            rintro e5 w5 ⟨vt, vW5, rfl, hP5, hS5, hc5, hf5⟩
            obtain ⟨tk, htk⟩ : ∃ tk, tk = q.take most := ⟨_, rfl⟩
            rw [← htk] at hP5 hS5
            obtain ⟨at5, ct5, rfl, -, -, hA5, -⟩ := hS5
            have HTK := Lib.hid htk
            have hl5 : tk.2.length ≤ 1012 := by rw [htk]; have := HJ4.out.1; omega
            obtain ⟨nt, hnt⟩ : ∃ nt, nt = tk.2.length := ⟨_, rfl⟩
            rw [← hnt]
            have hnt9 : nt ≤ 1012 := by omega
            have HNT := Lib.hid hnt
            have HP5 := Lib.hid hP5
            have HC5 := Lib.hid hc5
            have HF5 := Lib.hid hf5
            have HV5 := Lib.hid hA5.vat
            have HO5 := Lib.hid (own_fr HO.out hf5 (fun k hk e9 => by have := (HO.out.lt k hk).1; have := HBW.out; omega))
            have hs5 : w.heap.size ≤ w5.heap.size := Nat.le_trans HFR.out.size hf5.size
            have ho9 : out.length ≤ 1012 := by omega
            clear hP5 hA5 hc5 hf5 htk hnt hl5
            go_wp2_with (at_builtin; refine wpList_append_src _ rfl (.tmp 72) (.tmp 81) 22 rfl w.heap.size 5 j0 (.int .u8 0) 1 Try.underlying22 HJ.out hy0 hy1 hy2 rfl _ out.length (encB out) rfl HO5.out at5 nt ct5 (encB tk.2) rfl (by rw [encB_length, HNT.out]) HV5.out (encB_one _) (by unfold maxLen; omega) (by omega) hs5 ?_)
            intro v8 w8 hown8 hgrow8 hblk8
            obtain ⟨m1, m2, m3⟩ := zmem HP.out HO.out HFR.out HNE.out HBW.out HP5.out HC5.out HF5.out hown8 hgrow8 hblk8
            have HR8 : Hid (Z w w8 X b vW vR6 T p.size (gk - 1) (.int .i64 (f)) v8) := Lib.hid ⟨tk.1, out ++ tk.2, f, vW5, rfl, ?zt, ?zl, ?zo, ?zs, ?zn, m1, ?zw, ?zc, m2, m3, HBW.out⟩
            case zt =>
              have h9 := HT.out
              rw [show gk = (gk - 1) + 1 by omega, fill_more _ _ _ _ ⟨hlt, HJ3.out⟩, ← HMO.out, ← HTK.out, HFP.out] at h9
              exact h9
            case zl =>
              have hz := (q.take_size most).1
              rw [← HTK.out] at hz
              have h9 := HJ4.out.2
              rw [← HTK.out] at h9
              rcases h9 with h9 | h9
              · left
                rcases HQL.out with h8 | h8 <;> omega
              · right
                rw [List.length_append, hz]
                have := HMO.out
                omega
            case zo => rw [HTK.out]; exact PS.ok_take HQ.out most
            case zs => rw [HTK.out]; exact (q.take_size most).1.trans HQS.out
            case zn =>
              have h9 := HJ4.out.1
              rw [← HTK.out] at h9
              rw [List.length_append]
              have := HMO.out
              have := HQS.out
              omega
            case zw =>
              rw [encB_append, List.length_append, ← HNT.out]
              exact hown8
            case zc =>
              rcases HC5.out with e9 | e9
              · rcases HVW.out with e8 | e8
                · exact .inl (e9.trans e8)
                · exact .inr fun k hk => e8 k (by rw [← e9]; exact hk)
              · exact .inr fun k hk => Nat.le_trans HFR.out.size (e9 k hk)
            clear hown8 hgrow8 hblk8 m1 m2 m3
            go_wp2_with fail
            go_roundg (gk - 1)
            case rel => exact HR8
            case measure => omega
        · have i5 : ((q.taken : Int) == 0) = false := by rw [beq_eq_false_iff_ne]; omega
          have HFP : Hid (firstP q out f = f) := Lib.hid (by unfold firstP; rw [if_neg (fun h => ht0 h.1)])
          clear ht0 hqs hqL
          have hgk : 0 < gk := by rcases HQL.out with h9 | h9 <;> omega
          obtain ⟨most, hmo⟩ : ∃ most, most = q.size - out.length := ⟨_, rfl⟩
          have j1 : (q.size : Int) - (out.length : Int) = (most : Int) := by omega
          have HMO := Lib.hid hmo
          have hmo9 : most ≤ 1012 := by omega
          have j3 : q.L ≠ [] := fun e9 => hne (by rw [e9]; rfl)
          have j4 := take_len HQ.out j3 most
          have HJ4 := Lib.hid j4
          have HJ3 := Lib.hid j3
          clear hmo j3 j4
          go_wp2_with fail
          refine (take_any (Xo X (.slice ao out.length co)) b most q _ vR6 _ HP.out HQ.out HJ3.out (by omega)).mono ?_
          rintro e5 w5 ⟨vt, vW5, rfl, hP5, hS5, hc5, hf5⟩
          obtain ⟨tk, htk⟩ : ∃ tk, tk = q.take most := ⟨_, rfl⟩
          rw [← htk] at hP5 hS5
          obtain ⟨at5, ct5, rfl, -, -, hA5, -⟩ := hS5
          have HTK := Lib.hid htk
          have hl5 : tk.2.length ≤ 1012 := by rw [htk]; have := HJ4.out.1; omega
          obtain ⟨nt, hnt⟩ : ∃ nt, nt = tk.2.length := ⟨_, rfl⟩
          rw [← hnt]
          have hnt9 : nt ≤ 1012 := by omega
          have HNT := Lib.hid hnt
          have HP5 := Lib.hid hP5
          have HC5 := Lib.hid hc5
          have HF5 := Lib.hid hf5
          have HV5 := Lib.hid hA5.vat
          have HO5 := Lib.hid (own_fr HO.out hf5 (fun k hk e9 => by have := (HO.out.lt k hk).1; have := HBW.out; omega))
          have hs5 : w.heap.size ≤ w5.heap.size := Nat.le_trans HFR.out.size hf5.size
          have ho9 : out.length ≤ 1012 := by omega
          clear hP5 hA5 hc5 hf5 htk hnt hl5
          go_wp2_with (at_builtin; refine wpList_append_src _ rfl (.tmp 72) (.tmp 81) 22 rfl w.heap.size 5 j0 (.int .u8 0) 1 Try.underlying22 HJ.out hy0 hy1 hy2 rfl _ out.length (encB out) rfl HO5.out at5 nt ct5 (encB tk.2) rfl (by rw [encB_length, HNT.out]) HV5.out (encB_one _) (by unfold maxLen; omega) (by omega) hs5 ?_)
          intro v8 w8 hown8 hgrow8 hblk8
          obtain ⟨m1, m2, m3⟩ := zmem HP.out HO.out HFR.out HNE.out HBW.out HP5.out HC5.out HF5.out hown8 hgrow8 hblk8
          have HR8 : Hid (Z w w8 X b vW vR6 T p.size (gk - 1) (.int .i64 (f)) v8) := Lib.hid ⟨tk.1, out ++ tk.2, f, vW5, rfl, ?zt, ?zl, ?zo, ?zs, ?zn, m1, ?zw, ?zc, m2, m3, HBW.out⟩
          case zt =>
            have h9 := HT.out
            rw [show gk = (gk - 1) + 1 by omega, fill_more _ _ _ _ ⟨hlt, HJ3.out⟩, ← HMO.out, ← HTK.out, HFP.out] at h9
            exact h9
          case zl =>
            have hz := (q.take_size most).1
            rw [← HTK.out] at hz
            have h9 := HJ4.out.2
            rw [← HTK.out] at h9
            rcases h9 with h9 | h9
            · left
              rcases HQL.out with h8 | h8 <;> omega
            · right
              rw [List.length_append, hz]
              have := HMO.out
              omega
          case zo => rw [HTK.out]; exact PS.ok_take HQ.out most
          case zs => rw [HTK.out]; exact (q.take_size most).1.trans HQS.out
          case zn =>
            have h9 := HJ4.out.1
            rw [← HTK.out] at h9
            rw [List.length_append]
            have := HMO.out
            have := HQS.out
            omega
          case zw =>
            rw [encB_append, List.length_append, ← HNT.out]
            exact hown8
          case zc =>
            rcases HC5.out with e9 | e9
            · rcases HVW.out with e8 | e8
              · exact .inl (e9.trans e8)
              · exact .inr fun k hk => e8 k (by rw [← e9]; exact hk)
            · exact .inr fun k hk => Nat.le_trans HFR.out.size (e9 k hk)
          clear hown8 hgrow8 hblk8 m1 m2 m3
          go_wp2_with fail
          go_roundg (gk - 1)
          case rel => exact HR8
          case measure => omega
    · have i2 : ¬ (out.length : Int) < (q.size : Int) := by omega
      have hd : Hid (T = (q, out, f)) := Lib.hid (by rw [← HT.out]; exact fill_done _ _ _ _ (fun h => hlt h.1))
      clear hqs hqL
      go_upto_region 11 with fail
      have i7 : (q.size : Int) - (out.length : Int) = 0 := by have := HQS.out; omega
      have hcl : Hid (p.next = (q, Option.some (out, f))) := Lib.hid (by rw [HNX.out, hd.out]; unfold PS.close; rw [if_neg hlt])
      clear hlt
      go_wp2_with fail
      exact bodyPost_ret (v := .tuple #[.slice ao out.length co, .int .i64 f, .bool true]) (by simp [results, Try.results13, go_sem]) rfl (NQ.some hcl.out rfl HO.out HP.out HVW.out HFR.out HNE.out)
set_option maxRecDepth 20000 in
set_option maxHeartbeats 2000000 in
theorem next_some (X : Nat → Prop) (b g off rl c : Nat) (p : PS) (vW : Value) (w : World) (h : PAt w X b p vW (.slice (Option.some ⟨g, off, Option.none⟩) rl c)) (ok : p.Ok) (h0 : p.left ≠ 0) :
    Calls Try.prog 13 #[.pointer (some ⟨b, 0, none⟩)] w (NQ w X b vW p.next) := by
  obtain ⟨hrl, hrc, hrm, hrb, hrs⟩ : p.rest.length = rl ∧ p.rest.length ≤ c ∧ c ≤ maxLen ∧ BAt w (Option.some ⟨g, off, Option.none⟩) p.rest ∧ (p.rest ≠ [] → ¬ Av X b vW g) := by
    obtain ⟨a, c', e, h1, h2, h3, h4⟩ := h.rest
    simp only [Value.slice.injEq] at e
    obtain ⟨rfl, e2, rfl⟩ := e
    exact ⟨e2.symm, h1, h2, h3, fun hne => h4 _ rfl hne⟩
  have hr6 := ok.rest
  obtain ⟨n, hn⟩ : ∃ n, n = min rl p.size := ⟨_, rfl⟩
  obtain ⟨T, hTT⟩ : ∃ T, T = PS.fill (p.L.length + 1) p.begin (p.rest.take n) 2047 := ⟨_, rfl⟩
  have hnx : p.next = ((PS.close T).1, Option.some (PS.close T).2) := by unfold PS.next; rw [if_neg h0, hTT, hrl, ← hn]
  have hs1 := ok.size
  have e4 : min (rl : Int) (p.size : Int) = (n : Int) := by omega
  have g0 : (0 : Int) ≤ (n : Int) := by omega
  have g1 : (n : Int) ≤ (rl : Int) := by omega
  have g2 : (rl : Int) ≤ (c : Int) := by omega
  have g3 : (n : Int) ≤ (c : Int) := by omega
  have g4 : (rl : Int) ≤ 6 := by omega
  have htn : (p.rest.take n).length = n := by rw [List.length_take]; omega
  have hbeg : p.begin.rest = p.rest.drop n := by unfold PS.begin; dsimp only; rw [hrl, ← hn]
  have HRB := Lib.hid hrb
  have HRS := Lib.hid hrs
  have HTN := Lib.hid htn
  have HBG := Lib.hid hbeg
  have HRL := Lib.hid hrl
  have HRC := Lib.hid hrc
  have hnp : n ≤ p.size := by omega
  have HN6 : Hid (n ≤ 6 ∧ n ≤ rl ∧ n ≤ p.size) := Lib.hid ⟨by omega, by omega, by omega⟩
  clear hn hrb hrs htn hbeg hrl hrc hnp hr6
  by_cases hcn : n = c
  · have hrn : n = rl := by omega
    subst hcn
    subst hrn
    have HNX := Lib.hid hnx
    have c0 := h.blk.at 0 rfl
    have c2 := h.blk.at 2 rfl
    have c5 := h.blk.at 5 rfl
    have f5 := h.blk.free 5
    have hlt := h.blk.lt
    have e2 : ((p.left : Int) == 0) = false := by rw [beq_eq_false_iff_ne]; omega
    have H := Lib.hid h
    have HTT := Lib.hid hTT
    clear h hnx h0 hTT
    go_enter Try.func13, Try.ntmps13
    go_upto_region 4 with (go_at_call 25; refine (H.out.live ok).mono ?_; rintro e w2 ⟨rfl, hw⟩; obtain rfl := hw.symm)
    go_upto_region 5 with (go_quiet (fail))
    obtain ⟨w4, hw4⟩ : ∃ w4, w4 = w.drewN nq := ⟨_, rfl⟩
    rw [← hw4]
    have H4 : Hid (PAt w4 X b p vW (.slice (Option.some ⟨g, off, Option.none⟩) n n)) := Lib.hid (by rw [hw4]; exact H.out.quiet ⟨_, rfl⟩)
    have HF4 : Hid (Fr (fun k => k = b) w w4) := Lib.hid (by rw [hw4]; exact (Fr.refl _ w).drewN nq)
    have HB4 : Hid (Below w.heap.size w w4) := Lib.hid (by rw [hw4]; exact Quiet.below ⟨nq, rfl⟩)
    clear c0 c2 c5 f5 hlt hw4
    have c5 := H4.out.blk.at 5 rfl
    have hlt4 := H4.out.blk.lt
    go_wp2_with fail
    refine (cloneB_any (Option.some ⟨g, off, Option.none⟩) n n (p.rest.take n) w4 HTN.out (by rw [HTN.out]; have := HN6.out.1; omega) (BAt.take (l := p.rest) (HRB.out.below HB4.out (Nat.le_refl _)) n) (.inr ⟨_, _, rfl⟩)).mono ?_
    rintro e w5 ⟨v5, rfl, hO5, hB5⟩
    obtain ⟨a5, n5, k5, rfl⟩ := own_slice hO5
    have HB5 := Lib.hid hB5
    have H5 := Lib.hid (H4.out.below hB5 (Nat.le_refl _))
    have HF5 := Lib.hid (HF4.out.below hB5 (Nat.le_refl _))
    have HO5 := Lib.hid hO5
    clear hO5 hB5 c5
    have c5 := H5.out.blk.at 5 rfl
    have f5 := H5.out.blk.free 5
    have hlt5 := H5.out.blk.lt
    obtain ⟨vR6, hv6⟩ : ∃ v : Value, v = .slice (Option.some ⟨g, off, Option.none⟩) 0 0 := ⟨_, rfl⟩
    have hf6 : Fr (fun k => k = b) w5 (w5.setCell ⟨b, 5, Option.none⟩ vR6) := frs (Fr.refl _ _) _ _
    have hx5 : PAt w5 (Xo X (.slice a5 n5 k5)) b p vW (.slice (Option.some ⟨g, off, Option.none⟩) n n) := H4.out.move (T := fun k => w4.heap.size ≤ k) (Fr.of_below HB5.out (Nat.le_refl _)) (by omega) (fun k hk => by have := (H4.out.lt k hk).2; omega) (fun k hk => .inr hk) (by
      rintro k (h9 | h9)
      · exact .inl h9
      · exact .inr (HO5.out.lt k h9).1) (by
      rintro k (h9 | h9)
      · exact Nat.lt_of_lt_of_le (H4.out.xlt k h9) HB5.out.size
      · exact (HO5.out.lt k h9).2)
    have H6 : PAt (w5.setCell ⟨b, 5, Option.none⟩ vR6) (Xo X (.slice a5 n5 k5)) b p.begin vW vR6 := by
      have hsl : Sl (w5.setCell ⟨b, 5, Option.none⟩ vR6) (Av (Xo X (.slice a5 n5 k5)) b vW) vR6 p.begin.rest := by
        rw [hv6, HBG.out, List.drop_of_length_le (by rw [HRL.out]; exact Nat.le_refl _)]; exact ⟨Option.some ⟨g, off, Option.none⟩, 0, rfl, Nat.le_refl _, Nat.zero_le _, .inl rfl, fun q9 h9 h8 => absurd rfl h8⟩
      exact hx5.rest_new (q := p.begin) (Blk.cast (hx5.blk.setCell 5 _) rfl) hf6 rfl hsl (by rw [hv6]; exact .inr ⟨_, _, _, _, rfl⟩)
    have ZS : Hid (Z w (w5.setCell ⟨b, 5, Option.none⟩ (.slice (Option.some ⟨g, off, Option.none⟩) 0 0)) X b vW vR6 T p.size (p.L.length + 1) (.int .i64 2047) (.slice a5 n5 k5)) := Lib.hid (by
      rw [← hv6]
      have hlt := H.out.blk.lt
      have hO6 := own_base (own_low HO5.out hlt4 5 vR6) HB4.out.size
      exact ⟨p.begin, p.rest.take n, 2047, vW, rfl, HTT.out.symm, .inl (by simp [PS.begin]), PS.ok_begin ok, rfl, ((by rw [HTN.out]; exact HN6.out.2.2)), H6, hO6, .inl rfl, HF5.out.trans hf6, fun k hk h9 => by have := (H4.out.lt k hk).2; have := (HO5.out.lt k h9).1; omega, hlt⟩)
    obtain ⟨j0, hj, hy0, hy1, hy2⟩ := info_parts info5
    have HJ := Lib.hid hj
    have HVV := Lib.hid hv6
    clear H6 hf6 hj hx5 hv6
    go_wp2_with fail
    go_loopg [5, 7] (p.L.length + 1) (fun gk v5 v7 wr => Hid (Z w wr X b vW vR6 T p.size gk v5 v7))
    case atStart => exact ZS
    case round =>
      obtain ⟨q, out, f, vW', rfl, hT, hqL, hq, hqs, hol, hP, hO, hvW, hfr, hne7, hbw⟩ := hrel.out
      obtain ⟨usq, hrow, hsls⟩ := hP.row
      obtain ⟨hnq, aw, cw, rfl, -, -, -, -⟩ := VAt.of_row hrow
      rw [← hnq] at hP hvW hne7
      obtain ⟨-, ao, co, rfl, -, -, -⟩ := BAt.of_row hO
      have c0 := hP.blk.at 0 rfl
      have c3 := hP.blk.at 3 rfl
      have c4 := hP.blk.at 4 rfl
      have hltr := hP.blk.lt
      have HP := Lib.hid hP
      have HO := Lib.hid hO
      have HVW := Lib.hid hvW
      have HFR := Lib.hid hfr
      have HQ := Lib.hid hq
      have HT := Lib.hid hT
      have HNE := Lib.hid hne7
      have HBW := Lib.hid hbw
      have hs1 := ok.size
      have i1 : (q.size : Int) ≤ 1012 := by omega
      have HQS := Lib.hid hqs
      have HQL := Lib.hid hqL
      clear hP hO hvW hfr hq hT hrow hsls hnq hrel hne7 hbw
      by_cases hlt : out.length < q.size
      · have i2 : (out.length : Int) < (q.size : Int) := by omega
        by_cases hne : q.L.length = 0
        · have i3 : ((q.L.length : Int)) = 0 := by omega
          have i4 : decide (0 < q.L.length) = false := decide_eq_false (by omega)
          have hd : Hid (T = (q, out, f)) := Lib.hid (by rw [← HT.out]; exact fill_done _ _ _ _ (fun h => h.2 (List.length_eq_zero_iff.1 hne)))
          clear hqs hqL
          go_upto_region 11 with fail
          obtain ⟨m, hm⟩ : ∃ m, m = q.size - out.length := ⟨_, rfl⟩
          obtain ⟨mm, hmm⟩ : ∃ mm, mm = max m 7 := ⟨_, rfl⟩
          have j1 : (q.size : Int) - (out.length : Int) = (m : Int) := by omega
          have j2 : (0 : Int) < (m : Int) := by omega
          have j3 : max (m : Int) 7 = (mm : Int) := by omega
          have hm9 : m ≤ 1012 := by omega
          have ho9 : out.length ≤ 1012 := by omega
          have hmm9 : 7 ≤ mm ∧ mm ≤ 1012 ∧ m ≤ mm := by omega
          obtain ⟨idl, hidl⟩ : ∃ l, l = idleN m := ⟨_, rfl⟩
          have hidlen : idl.length = mm := by rw [hidl, idleN_len, hmm]
          have hip : idleP (mm : Int) = (idl, 0) := by
            have h9 := idleP_ok (mm - 6) (by omega) (by omega)
            rw [show (((mm - 6 : Nat) : Int) + 6) = (mm : Int) by omega] at h9
            rw [h9, hidl]
            unfold idleN
            rw [← hmm]
          have HIP := Lib.hid hip
          have HIL := Lib.hid hidlen
          have HCL : Hid (p.next = ({ q with rest := idl.drop m }, Option.some (out ++ idl.take m, if f = 2047 then (out.length : Int) else f))) := Lib.hid (by
            rw [HNX.out, hd.out]
            unfold PS.close
            dsimp only
            rw [if_pos hlt, ← hm, ← hidl])
          have HMM := Lib.hid hmm
          clear hm hmm hidl hidlen hip hlt
          by_cases hf0 : f = 2047
          · have j5 : (f == 2047) = true := by rw [hf0]; rfl
            have HCL2 : Hid (p.next = ({ q with rest := idl.drop m }, Option.some (out ++ idl.take m, (out.length : Int)))) := Lib.hid (by rw [HCL.out, if_pos hf0])
            subst hf0
            go_wp2_with fail
            refine (idle_call (mm : Int) _).mono ?_
            rw [HIP.out]
            rintro e9 w6 ⟨vi, rfl, hO6, hB6⟩
            obtain ⟨-, ai, ci, rfl, hci, hcm6, hA6⟩ := BAt.of_row hO6
            rw [HIL.out] at hci ⊢
            rw [HIL.out] at hO6
            obtain ⟨bi, rfl⟩ : ∃ bi, ai = Option.some ⟨bi, 0, Option.none⟩ := by
              rcases own_shape hO6 with ⟨-, -, e9⟩ | ⟨g9, e9, -⟩
              · omega
              · exact ⟨g9, e9⟩
            have hbi : wr.heap.size ≤ bi ∧ bi < w6.heap.size := hO6.lt bi rfl
            have HP6 := Lib.hid (HP.out.below hB6 (Nat.le_refl _))
            have HO6 := Lib.hid (own_below HO.out hB6 (Nat.le_refl _))
            have HF6 := Lib.hid (HFR.out.below hB6 (Nat.le_refl _))
            have HA6 := Lib.hid hA6
            have hV6 : VAt w6 (Option.some ⟨bi, 0, Option.none⟩) (encB (idl.take m)) := (BAt.take (l := idl) hA6 m).vat
            have HV6 := Lib.hid hV6
            have htl : Hid ((idl.take m).length = m) := Lib.hid (by rw [List.length_take, HIL.out]; omega)
            have hs6 : w.heap.size ≤ w6.heap.size := Nat.le_trans HFR.out.size hB6.size
            have g1 : (m : Int) ≤ (mm : Int) := by omega
            have g2 : (mm : Int) ≤ 1012 := by omega
            have g3 : (0 : Int) ≤ (m : Int) := by omega
            have g4 : (m : Int) ≤ (ci : Int) := by omega
            have HB6 := Lib.hid hB6
            clear hO6 hB6 hA6 hV6
            go_wp2_with (at_builtin; refine wpList_append_src _ rfl (.tmp 102) (.tmp 105) 22 rfl w.heap.size 5 j0 (.int .u8 0) 1 Try.underlying22 HJ.out hy0 hy1 hy2 rfl _ out.length (encB out) rfl HO6.out (Option.some ⟨bi, 0, Option.none⟩) m ci (encB (idl.take m)) rfl (by rw [encB_length, htl.out]) HV6.out (encB_one _) (by unfold maxLen; omega) (by omega) hs6 ?_)
            intro v8 w8 hown8 hgrow8 hblk8
            obtain ⟨a8, n8, c8, rfl⟩ := own_slice hown8
            obtain ⟨m1, m2, m3⟩ := zmem HP.out HO.out HFR.out HNE.out HBW.out HP6.out (.inl rfl) (Fr.of_below HB6.out (Nat.le_refl _)) hown8 hgrow8 hblk8
            have HM1 := Lib.hid m1
            have HM2 := Lib.hid m2
            have HM3 := Lib.hid m3
            have HO8 := Lib.hid hown8
            have hg8 : Fr (fun k => (Value.slice ao out.length co).ownBlock = Option.some k) w6 w8 := (Fr.refl _ _).grown hgrow8 (fun k hk => .inl hk)
            have hA8 : BAt w8 (Option.some ⟨bi, 0, Option.none⟩) idl := BAt.fr (l := idl) HA6.out hg8 (fun q9 h9 e9 => by cases h9; have h7 := (HO.out.lt bi e9).2; have := hbi.1; omega)
            have HA8 := Lib.hid hA8
            have hav : ∀ k, Av (Xo X (.slice a8 n8 c8)) b (.slice aw q.L.length cw) k → k ≠ bi := by
              rintro k (⟨h9 | h9⟩ | h9 | h9) e9
              · have := HP.out.xlt k (.inl h9); have := hbi.1; omega
              · rcases hblk8 with e8 | e8
                · have := (HO.out.lt k (by rw [← e8]; exact h9)).2; have := hbi.1; omega
                · rw [e8] at h9; cases h9; have := hbi.2; omega
              · have := HP.out.blk.lt; have := hbi.1; omega
              · have := (HP.out.lt k h9).2; have := hbi.1; omega
            have HAV := Lib.hid hav
            have hbb : b ≠ bi := by have := HP.out.blk.lt; have := hbi.1; omega
            have f5 := m1.blk.free 5
            have c5 := m1.blk.at 5 rfl
            have hlt8 := m1.blk.lt
            clear hown8 hgrow8 hblk8 m1 m2 m3 hg8 hA8 hav
            have HIL2 := HIL.out
            by_cases hcm : m = ci
            · have hmm7 : m = mm := by omega
              subst hcm
              subst hmm7
              go_wp2_with fail
              have hf9 : Fr (fun k => k = b) w8 (w8.setCell ⟨b, 5, Option.none⟩ (.slice (Option.some ⟨bi, 0, Option.none⟩) 0 0)) := frs (Fr.refl _ _) _ _
              have hs9 := hf9.size
              have hk9 : Blk (w8.setCell ⟨b, 5, Option.none⟩ (.slice (Option.some ⟨bi, 0, Option.none⟩) 0 0)) b 56 (pcells { q with rest := idl.drop m } (.slice aw q.L.length cw) (.slice (Option.some ⟨bi, 0, Option.none⟩) 0 0)) := Blk.cast (HM1.out.blk.setCell 5 _) rfl
              have hr9 : Sl (w8.setCell ⟨b, 5, Option.none⟩ (.slice (Option.some ⟨bi, 0, Option.none⟩) 0 0)) (Av (Xo X (.slice a8 n8 c8)) b (.slice aw q.L.length cw)) (.slice (Option.some ⟨bi, 0, Option.none⟩) 0 0) (idl.drop m) := by
                exact ⟨Option.some ⟨bi, 0, Option.none⟩, 0, by simp [HIL.out], by simp [HIL.out], Nat.zero_le _, .inl (by apply List.length_eq_zero_iff.1; simp [HIL.out]), fun q9 h9 h8 => absurd (by apply List.length_eq_zero_iff.1; simp [HIL.out]) h8⟩
              have hP9 := (HM1.out.rest_new (q := { q with rest := idl.drop m }) hk9 hf9 rfl hr9 (.inr ⟨_, _, _, _, rfl⟩))
              have hO9 := own_low HO8.out HBW.out 5 (.slice (Option.some ⟨bi, 0, Option.none⟩) 0 0)
              exact bodyPost_ret (v := .tuple #[.slice a8 n8 c8, .int .i64 ((out.length : Int)), .bool true]) (by simp [results, Try.results13, go_sem]) rfl (NQ.some HCL2.out (by rw [List.length_append, htl.out]) (by rw [encB_append]; exact hO9) hP9 HVW.out (HM2.out.trans hf9) HM3.out)
            · have g5 : ¬ (ci : Int) = (m : Int) := by omega
              have g6 : ¬ ci = m := fun h => hcm h.symm
              go_wp2_with fail
              have hf9 : Fr (fun k => k = b) w8 (w8.setCell ⟨b, 5, Option.none⟩ (.slice (Option.some ⟨bi, m, Option.none⟩) (mm - m) (ci - m))) := frs (Fr.refl _ _) _ _
              have hs9 := hf9.size
              have hk9 : Blk (w8.setCell ⟨b, 5, Option.none⟩ (.slice (Option.some ⟨bi, m, Option.none⟩) (mm - m) (ci - m))) b 56 (pcells { q with rest := idl.drop m } (.slice aw q.L.length cw) (.slice (Option.some ⟨bi, m, Option.none⟩) (mm - m) (ci - m))) := Blk.cast (HM1.out.blk.setCell 5 _) rfl
              have hr9 : Sl (w8.setCell ⟨b, 5, Option.none⟩ (.slice (Option.some ⟨bi, m, Option.none⟩) (mm - m) (ci - m))) (Av (Xo X (.slice a8 n8 c8)) b (.slice aw q.L.length cw)) (.slice (Option.some ⟨bi, m, Option.none⟩) (mm - m) (ci - m)) (idl.drop m) := by
                exact sl_tail (BAt.fr (l := idl) HA8.out hf9 (fun q9 h9 e9 => by cases h9; exact hbb e9.symm)) (by rw [HIL2]; exact hci) hcm6 (fun h9 => HAV.out _ h9 rfl) m (by rw [HIL2]; omega) (mm - m) (by rw [HIL2])
              have hP9 := (HM1.out.rest_new (q := { q with rest := idl.drop m }) hk9 hf9 rfl hr9 (.inr ⟨_, _, _, _, rfl⟩))
              have hO9 := own_low HO8.out HBW.out 5 (.slice (Option.some ⟨bi, m, Option.none⟩) (mm - m) (ci - m))
              exact bodyPost_ret (v := .tuple #[.slice a8 n8 c8, .int .i64 ((out.length : Int)), .bool true]) (by simp [results, Try.results13, go_sem]) rfl (NQ.some HCL2.out (by rw [List.length_append, htl.out]) (by rw [encB_append]; exact hO9) hP9 HVW.out (HM2.out.trans hf9) HM3.out)
          · have j5 : (f == 2047) = false := by rw [beq_eq_false_iff_ne]; exact hf0
            have HCL2 : Hid (p.next = ({ q with rest := idl.drop m }, Option.some (out ++ idl.take m, f))) := Lib.hid (by rw [HCL.out, if_neg hf0])
            go_wp2_with fail
            refine (idle_call (mm : Int) _).mono ?_
            rw [HIP.out]
            rintro e9 w6 ⟨vi, rfl, hO6, hB6⟩
            obtain ⟨-, ai, ci, rfl, hci, hcm6, hA6⟩ := BAt.of_row hO6
            rw [HIL.out] at hci ⊢
            rw [HIL.out] at hO6
            obtain ⟨bi, rfl⟩ : ∃ bi, ai = Option.some ⟨bi, 0, Option.none⟩ := by
              rcases own_shape hO6 with ⟨-, -, e9⟩ | ⟨g9, e9, -⟩
              · omega
              · exact ⟨g9, e9⟩
            have hbi : wr.heap.size ≤ bi ∧ bi < w6.heap.size := hO6.lt bi rfl
            have HP6 := Lib.hid (HP.out.below hB6 (Nat.le_refl _))
            have HO6 := Lib.hid (own_below HO.out hB6 (Nat.le_refl _))
            have HF6 := Lib.hid (HFR.out.below hB6 (Nat.le_refl _))
            have HA6 := Lib.hid hA6
            have hV6 : VAt w6 (Option.some ⟨bi, 0, Option.none⟩) (encB (idl.take m)) := (BAt.take (l := idl) hA6 m).vat
            have HV6 := Lib.hid hV6
            have htl : Hid ((idl.take m).length = m) := Lib.hid (by rw [List.length_take, HIL.out]; omega)
            have hs6 : w.heap.size ≤ w6.heap.size := Nat.le_trans HFR.out.size hB6.size
            have g1 : (m : Int) ≤ (mm : Int) := by omega
            have g2 : (mm : Int) ≤ 1012 := by omega
            have g3 : (0 : Int) ≤ (m : Int) := by omega
            have g4 : (m : Int) ≤ (ci : Int) := by omega
            have HB6 := Lib.hid hB6
            clear hO6 hB6 hA6 hV6
            go_wp2_with (at_builtin; refine wpList_append_src _ rfl (.tmp 102) (.tmp 105) 22 rfl w.heap.size 5 j0 (.int .u8 0) 1 Try.underlying22 HJ.out hy0 hy1 hy2 rfl _ out.length (encB out) rfl HO6.out (Option.some ⟨bi, 0, Option.none⟩) m ci (encB (idl.take m)) rfl (by rw [encB_length, htl.out]) HV6.out (encB_one _) (by unfold maxLen; omega) (by omega) hs6 ?_)
            intro v8 w8 hown8 hgrow8 hblk8
            obtain ⟨a8, n8, c8, rfl⟩ := own_slice hown8
            obtain ⟨m1, m2, m3⟩ := zmem HP.out HO.out HFR.out HNE.out HBW.out HP6.out (.inl rfl) (Fr.of_below HB6.out (Nat.le_refl _)) hown8 hgrow8 hblk8
            have HM1 := Lib.hid m1
            have HM2 := Lib.hid m2
            have HM3 := Lib.hid m3
            have HO8 := Lib.hid hown8
            have hg8 : Fr (fun k => (Value.slice ao out.length co).ownBlock = Option.some k) w6 w8 := (Fr.refl _ _).grown hgrow8 (fun k hk => .inl hk)
            have hA8 : BAt w8 (Option.some ⟨bi, 0, Option.none⟩) idl := BAt.fr (l := idl) HA6.out hg8 (fun q9 h9 e9 => by cases h9; have h7 := (HO.out.lt bi e9).2; have := hbi.1; omega)
            have HA8 := Lib.hid hA8
            have hav : ∀ k, Av (Xo X (.slice a8 n8 c8)) b (.slice aw q.L.length cw) k → k ≠ bi := by
              rintro k (⟨h9 | h9⟩ | h9 | h9) e9
              · have := HP.out.xlt k (.inl h9); have := hbi.1; omega
              · rcases hblk8 with e8 | e8
                · have := (HO.out.lt k (by rw [← e8]; exact h9)).2; have := hbi.1; omega
                · rw [e8] at h9; cases h9; have := hbi.2; omega
              · have := HP.out.blk.lt; have := hbi.1; omega
              · have := (HP.out.lt k h9).2; have := hbi.1; omega
            have HAV := Lib.hid hav
            have hbb : b ≠ bi := by have := HP.out.blk.lt; have := hbi.1; omega
            have f5 := m1.blk.free 5
            have c5 := m1.blk.at 5 rfl
            have hlt8 := m1.blk.lt
            clear hown8 hgrow8 hblk8 m1 m2 m3 hg8 hA8 hav
            have HIL2 := HIL.out
            by_cases hcm : m = ci
            · have hmm7 : m = mm := by omega
              subst hcm
              subst hmm7
              go_wp2_with fail
              have hf9 : Fr (fun k => k = b) w8 (w8.setCell ⟨b, 5, Option.none⟩ (.slice (Option.some ⟨bi, 0, Option.none⟩) 0 0)) := frs (Fr.refl _ _) _ _
              have hs9 := hf9.size
              have hk9 : Blk (w8.setCell ⟨b, 5, Option.none⟩ (.slice (Option.some ⟨bi, 0, Option.none⟩) 0 0)) b 56 (pcells { q with rest := idl.drop m } (.slice aw q.L.length cw) (.slice (Option.some ⟨bi, 0, Option.none⟩) 0 0)) := Blk.cast (HM1.out.blk.setCell 5 _) rfl
              have hr9 : Sl (w8.setCell ⟨b, 5, Option.none⟩ (.slice (Option.some ⟨bi, 0, Option.none⟩) 0 0)) (Av (Xo X (.slice a8 n8 c8)) b (.slice aw q.L.length cw)) (.slice (Option.some ⟨bi, 0, Option.none⟩) 0 0) (idl.drop m) := by
                exact ⟨Option.some ⟨bi, 0, Option.none⟩, 0, by simp [HIL.out], by simp [HIL.out], Nat.zero_le _, .inl (by apply List.length_eq_zero_iff.1; simp [HIL.out]), fun q9 h9 h8 => absurd (by apply List.length_eq_zero_iff.1; simp [HIL.out]) h8⟩
              have hP9 := (HM1.out.rest_new (q := { q with rest := idl.drop m }) hk9 hf9 rfl hr9 (.inr ⟨_, _, _, _, rfl⟩))
              have hO9 := own_low HO8.out HBW.out 5 (.slice (Option.some ⟨bi, 0, Option.none⟩) 0 0)
              exact bodyPost_ret (v := .tuple #[.slice a8 n8 c8, .int .i64 (f), .bool true]) (by simp [results, Try.results13, go_sem]) rfl (NQ.some HCL2.out (by rw [List.length_append, htl.out]) (by rw [encB_append]; exact hO9) hP9 HVW.out (HM2.out.trans hf9) HM3.out)
            · have g5 : ¬ (ci : Int) = (m : Int) := by omega
              have g6 : ¬ ci = m := fun h => hcm h.symm
              go_wp2_with fail
              have hf9 : Fr (fun k => k = b) w8 (w8.setCell ⟨b, 5, Option.none⟩ (.slice (Option.some ⟨bi, m, Option.none⟩) (mm - m) (ci - m))) := frs (Fr.refl _ _) _ _
              have hs9 := hf9.size
              have hk9 : Blk (w8.setCell ⟨b, 5, Option.none⟩ (.slice (Option.some ⟨bi, m, Option.none⟩) (mm - m) (ci - m))) b 56 (pcells { q with rest := idl.drop m } (.slice aw q.L.length cw) (.slice (Option.some ⟨bi, m, Option.none⟩) (mm - m) (ci - m))) := Blk.cast (HM1.out.blk.setCell 5 _) rfl
              have hr9 : Sl (w8.setCell ⟨b, 5, Option.none⟩ (.slice (Option.some ⟨bi, m, Option.none⟩) (mm - m) (ci - m))) (Av (Xo X (.slice a8 n8 c8)) b (.slice aw q.L.length cw)) (.slice (Option.some ⟨bi, m, Option.none⟩) (mm - m) (ci - m)) (idl.drop m) := by
                exact sl_tail (BAt.fr (l := idl) HA8.out hf9 (fun q9 h9 e9 => by cases h9; exact hbb e9.symm)) (by rw [HIL2]; exact hci) hcm6 (fun h9 => HAV.out _ h9 rfl) m (by rw [HIL2]; omega) (mm - m) (by rw [HIL2])
              have hP9 := (HM1.out.rest_new (q := { q with rest := idl.drop m }) hk9 hf9 rfl hr9 (.inr ⟨_, _, _, _, rfl⟩))
              have hO9 := own_low HO8.out HBW.out 5 (.slice (Option.some ⟨bi, m, Option.none⟩) (mm - m) (ci - m))
              exact bodyPost_ret (v := .tuple #[.slice a8 n8 c8, .int .i64 (f), .bool true]) (by simp [results, Try.results13, go_sem]) rfl (NQ.some HCL2.out (by rw [List.length_append, htl.out]) (by rw [encB_append]; exact hO9) hP9 HVW.out (HM2.out.trans hf9) HM3.out)
        · have i3 : 0 < (q.L.length : Int) := by omega
          have i4 : decide (0 < q.L.length) = true := decide_eq_true (by omega)
          by_cases ht0 : q.taken = 0
          · have i5 : ((q.taken : Int) == 0) = true := by rw [ht0]; rfl
            by_cases hf0 : f = 2047
            · have HFP : Hid (firstP q out f = (out.length : Int)) := Lib.hid (by unfold firstP; rw [if_pos ⟨ht0, hf0⟩])
              subst hf0
              clear ht0 hqs hqL
              have hgk : 0 < gk := by rcases HQL.out with h9 | h9 <;> omega
              obtain ⟨most, hmo⟩ : ∃ most, most = q.size - out.length := ⟨_, rfl⟩
              have j1 : (q.size : Int) - (out.length : Int) = (most : Int) := by omega
              have HMO := Lib.hid hmo
              have hmo9 : most ≤ 1012 := by omega
              have j3 : q.L ≠ [] := fun e9 => hne (by rw [e9]; rfl)
              have j4 := take_len HQ.out j3 most
              have HJ4 := Lib.hid j4
              have HJ3 := Lib.hid j3
              clear hmo j3 j4
              go_wp2_with fail
              refine (take_any (Xo X (.slice ao out.length co)) b most q _ vR6 _ HP.out HQ.out HJ3.out (by omega)).mono ?_
              rintro e5 w5 ⟨vt, vW5, rfl, hP5, hS5, hc5, hf5⟩
              obtain ⟨tk, htk⟩ : ∃ tk, tk = q.take most := ⟨_, rfl⟩
              rw [← htk] at hP5 hS5
              obtain ⟨at5, ct5, rfl, -, -, hA5, -⟩ := hS5
              have HTK := Lib.hid htk
              have hl5 : tk.2.length ≤ 1012 := by rw [htk]; have := HJ4.out.1; omega
              obtain ⟨nt, hnt⟩ : ∃ nt, nt = tk.2.length := ⟨_, rfl⟩
              rw [← hnt]
              have hnt9 : nt ≤ 1012 := by omega
              have HNT := Lib.hid hnt
              have HP5 := Lib.hid hP5
              have HC5 := Lib.hid hc5
              have HF5 := Lib.hid hf5
              have HV5 := Lib.hid hA5.vat
              have HO5 := Lib.hid (own_fr HO.out hf5 (fun k hk e9 => by have := (HO.out.lt k hk).1; have := HBW.out; omega))
              have hs5 : w.heap.size ≤ w5.heap.size := Nat.le_trans HFR.out.size hf5.size
              have ho9 : out.length ≤ 1012 := by omega
              clear hP5 hA5 hc5 hf5 htk hnt hl5
              go_wp2_with (at_builtin; refine wpList_append_src _ rfl (.tmp 72) (.tmp 81) 22 rfl w.heap.size 5 j0 (.int .u8 0) 1 Try.underlying22 HJ.out hy0 hy1 hy2 rfl _ out.length (encB out) rfl HO5.out at5 nt ct5 (encB tk.2) rfl (by rw [encB_length, HNT.out]) HV5.out (encB_one _) (by unfold maxLen; omega) (by omega) hs5 ?_)
              intro v8 w8 hown8 hgrow8 hblk8
              obtain ⟨m1, m2, m3⟩ := zmem HP.out HO.out HFR.out HNE.out HBW.out HP5.out HC5.out HF5.out hown8 hgrow8 hblk8
              have HR8 : Hid (Z w w8 X b vW vR6 T p.size (gk - 1) (.int .i64 ((out.length : Int))) v8) := Lib.hid ⟨tk.1, out ++ tk.2, (out.length : Int), vW5, rfl, ?zt, ?zl, ?zo, ?zs, ?zn, m1, ?zw, ?zc, m2, m3, HBW.out⟩
              case zt =>
                have h9 := HT.out
                rw [show gk = (gk - 1) + 1 by omega, fill_more _ _ _ _ ⟨hlt, HJ3.out⟩, ← HMO.out, ← HTK.out, HFP.out] at h9
                exact h9
              case zl =>
                have hz := (q.take_size most).1
                rw [← HTK.out] at hz
                have h9 := HJ4.out.2
                rw [← HTK.out] at h9
                rcases h9 with h9 | h9
                · left
                  rcases HQL.out with h8 | h8 <;> omega
                · right
                  rw [List.length_append, hz]
                  have := HMO.out
                  omega
              case zo => rw [HTK.out]; exact PS.ok_take HQ.out most
              case zs => rw [HTK.out]; exact (q.take_size most).1.trans HQS.out
              case zn =>
                have h9 := HJ4.out.1
                rw [← HTK.out] at h9
                rw [List.length_append]
                have := HMO.out
                have := HQS.out
                omega
              case zw =>
                rw [encB_append, List.length_append, ← HNT.out]
                exact hown8
              case zc =>
                rcases HC5.out with e9 | e9
                · rcases HVW.out with e8 | e8
                  · exact .inl (e9.trans e8)
                  · exact .inr fun k hk => e8 k (by rw [← e9]; exact hk)
                · exact .inr fun k hk => Nat.le_trans HFR.out.size (e9 k hk)
              clear hown8 hgrow8 hblk8 m1 m2 m3
              go_wp2_with fail
              go_roundg (gk - 1)
              case rel => exact HR8
              case measure => omega
            · have HFP : Hid (firstP q out f = f) := Lib.hid (by unfold firstP; rw [if_neg (fun h => hf0 h.2)])
              have i6 : (f == 2047) = false := by rw [beq_eq_false_iff_ne]; exact hf0
              clear ht0 hqs hqL
              have hgk : 0 < gk := by rcases HQL.out with h9 | h9 <;> omega
              obtain ⟨most, hmo⟩ : ∃ most, most = q.size - out.length := ⟨_, rfl⟩
              have j1 : (q.size : Int) - (out.length : Int) = (most : Int) := by omega
              have HMO := Lib.hid hmo
              have hmo9 : most ≤ 1012 := by omega
              have j3 : q.L ≠ [] := fun e9 => hne (by rw [e9]; rfl)
              have j4 := take_len HQ.out j3 most
              have HJ4 := Lib.hid j4
              have HJ3 := Lib.hid j3
              clear hmo j3 j4
              go_wp2_with fail
              refine (take_any (Xo X (.slice ao out.length co)) b most q _ vR6 _ HP.out HQ.out HJ3.out (by omega)).mono ?_
              rintro e5 w5 ⟨vt, vW5, rfl, hP5, hS5, hc5, hf5⟩
              obtain ⟨tk, htk⟩ : ∃ tk, tk = q.take most := ⟨_, rfl⟩
              rw [← htk] at hP5 hS5
              obtain ⟨at5, ct5, rfl, -, -, hA5, -⟩ := hS5
              have HTK := Lib.hid htk
              have hl5 : tk.2.length ≤ 1012 := by rw [htk]; have := HJ4.out.1; omega
              obtain ⟨nt, hnt⟩ : ∃ nt, nt = tk.2.length := ⟨_, rfl⟩
              rw [← hnt]
              have hnt9 : nt ≤ 1012 := by omega
              have HNT := Lib.hid hnt
              have HP5 := Lib.hid hP5
              have HC5 := Lib.hid hc5
              have HF5 := Lib.hid hf5
              have HV5 := Lib.hid hA5.vat
              have HO5 := Lib.hid (own_fr HO.out hf5 (fun k hk e9 => by have := (HO.out.lt k hk).1; have := HBW.out; omega))
              have hs5 : w.heap.size ≤ w5.heap.size := Nat.le_trans HFR.out.size hf5.size
              have ho9 : out.length ≤ 1012 := by omega
              clear hP5 hA5 hc5 hf5 htk hnt hl5
              go_wp2_with (at_builtin; refine wpList_append_src _ rfl (.tmp 72) (.tmp 81) 22 rfl w.heap.size 5 j0 (.int .u8 0) 1 Try.underlying22 HJ.out hy0 hy1 hy2 rfl _ out.length (encB out) rfl HO5.out at5 nt ct5 (encB tk.2) rfl (by rw [encB_length, HNT.out]) HV5.out (encB_one _) (by unfold maxLen; omega) (by omega) hs5 ?_)
              intro v8 w8 hown8 hgrow8 hblk8
              obtain ⟨m1, m2, m3⟩ := zmem HP.out HO.out HFR.out HNE.out HBW.out HP5.out HC5.out HF5.out hown8 hgrow8 hblk8
              have HR8 : Hid (Z w w8 X b vW vR6 T p.size (gk - 1) (.int .i64 (f)) v8) := Lib.hid ⟨tk.1, out ++ tk.2, f, vW5, rfl, ?zt, ?zl, ?zo, ?zs, ?zn, m1, ?zw, ?zc, m2, m3, HBW.out⟩
              case zt =>
                have h9 := HT.out
                rw [show gk = (gk - 1) + 1 by omega, fill_more _ _ _ _ ⟨hlt, HJ3.out⟩, ← HMO.out, ← HTK.out, HFP.out] at h9
                exact h9
              case zl =>
                have hz := (q.take_size most).1
                rw [← HTK.out] at hz
                have h9 := HJ4.out.2
                rw [← HTK.out] at h9
                rcases h9 with h9 | h9
                · left
                  rcases HQL.out with h8 | h8 <;> omega
                · right
                  rw [List.length_append, hz]
                  have := HMO.out
                  omega
              case zo => rw [HTK.out]; exact PS.ok_take HQ.out most
              case zs => rw [HTK.out]; exact (q.take_size most).1.trans HQS.out
              case zn =>
                have h9 := HJ4.out.1
                rw [← HTK.out] at h9
                rw [List.length_append]
                have := HMO.out
                have := HQS.out
                omega
              case zw =>
                rw [encB_append, List.length_append, ← HNT.out]
                exact hown8
              case zc =>
                rcases HC5.out with e9 | e9
                · rcases HVW.out with e8 | e8
                  · exact .inl (e9.trans e8)
                  · exact .inr fun k hk => e8 k (by rw [← e9]; exact hk)
                · exact .inr fun k hk => Nat.le_trans HFR.out.size (e9 k hk)
              clear hown8 hgrow8 hblk8 m1 m2 m3
              go_wp2_with fail
              go_roundg (gk - 1)
              case rel => exact HR8
              case measure => omega
          · have i5 : ((q.taken : Int) == 0) = false := by rw [beq_eq_false_iff_ne]; omega
            have HFP : Hid (firstP q out f = f) := Lib.hid (by unfold firstP; rw [if_neg (fun h => ht0 h.1)])
            clear ht0 hqs hqL
            have hgk : 0 < gk := by rcases HQL.out with h9 | h9 <;> omega
            obtain ⟨most, hmo⟩ : ∃ most, most = q.size - out.length := ⟨_, rfl⟩
            have j1 : (q.size : Int) - (out.length : Int) = (most : Int) := by omega
            have HMO := Lib.hid hmo
            have hmo9 : most ≤ 1012 := by omega
            have j3 : q.L ≠ [] := fun e9 => hne (by rw [e9]; rfl)
            have j4 := take_len HQ.out j3 most
            have HJ4 := Lib.hid j4
            have HJ3 := Lib.hid j3
            clear hmo j3 j4
            go_wp2_with fail
            refine (take_any (Xo X (.slice ao out.length co)) b most q _ vR6 _ HP.out HQ.out HJ3.out (by omega)).mono ?_
            rintro e5 w5 ⟨vt, vW5, rfl, hP5, hS5, hc5, hf5⟩
            obtain ⟨tk, htk⟩ : ∃ tk, tk = q.take most := ⟨_, rfl⟩
            rw [← htk] at hP5 hS5
            obtain ⟨at5, ct5, rfl, -, -, hA5, -⟩ := hS5
            have HTK := Lib.hid htk
            have hl5 : tk.2.length ≤ 1012 := by rw [htk]; have := HJ4.out.1; omega
            obtain ⟨nt, hnt⟩ : ∃ nt, nt = tk.2.length := ⟨_, rfl⟩
            rw [← hnt]
            have hnt9 : nt ≤ 1012 := by omega
            have HNT := Lib.hid hnt
            have HP5 := Lib.hid hP5
            have HC5 := Lib.hid hc5
            have HF5 := Lib.hid hf5
            have HV5 := Lib.hid hA5.vat
            have HO5 := Lib.hid (own_fr HO.out hf5 (fun k hk e9 => by have := (HO.out.lt k hk).1; have := HBW.out; omega))
            have hs5 : w.heap.size ≤ w5.heap.size := Nat.le_trans HFR.out.size hf5.size
            have ho9 : out.length ≤ 1012 := by omega
            clear hP5 hA5 hc5 hf5 htk hnt hl5
            go_wp2_with (at_builtin; refine wpList_append_src _ rfl (.tmp 72) (.tmp 81) 22 rfl w.heap.size 5 j0 (.int .u8 0) 1 Try.underlying22 HJ.out hy0 hy1 hy2 rfl _ out.length (encB out) rfl HO5.out at5 nt ct5 (encB tk.2) rfl (by rw [encB_length, HNT.out]) HV5.out (encB_one _) (by unfold maxLen; omega) (by omega) hs5 ?_)
            intro v8 w8 hown8 hgrow8 hblk8
            obtain ⟨m1, m2, m3⟩ := zmem HP.out HO.out HFR.out HNE.out HBW.out HP5.out HC5.out HF5.out hown8 hgrow8 hblk8
            have HR8 : Hid (Z w w8 X b vW vR6 T p.size (gk - 1) (.int .i64 (f)) v8) := Lib.hid ⟨tk.1, out ++ tk.2, f, vW5, rfl, ?zt, ?zl, ?zo, ?zs, ?zn, m1, ?zw, ?zc, m2, m3, HBW.out⟩
            case zt =>
              have h9 := HT.out
              rw [show gk = (gk - 1) + 1 by omega, fill_more _ _ _ _ ⟨hlt, HJ3.out⟩, ← HMO.out, ← HTK.out, HFP.out] at h9
              exact h9
            case zl =>
              have hz := (q.take_size most).1
              rw [← HTK.out] at hz
              have h9 := HJ4.out.2
              rw [← HTK.out] at h9
              rcases h9 with h9 | h9
              · left
                rcases HQL.out with h8 | h8 <;> omega
              · right
                rw [List.length_append, hz]
                have := HMO.out
                omega
            case zo => rw [HTK.out]; exact PS.ok_take HQ.out most
            case zs => rw [HTK.out]; exact (q.take_size most).1.trans HQS.out
            case zn =>
              have h9 := HJ4.out.1
              rw [← HTK.out] at h9
              rw [List.length_append]
              have := HMO.out
              have := HQS.out
              omega
            case zw =>
              rw [encB_append, List.length_append, ← HNT.out]
              exact hown8
            case zc =>
              rcases HC5.out with e9 | e9
              · rcases HVW.out with e8 | e8
                · exact .inl (e9.trans e8)
                · exact .inr fun k hk => e8 k (by rw [← e9]; exact hk)
              · exact .inr fun k hk => Nat.le_trans HFR.out.size (e9 k hk)
            clear hown8 hgrow8 hblk8 m1 m2 m3
            go_wp2_with fail
            go_roundg (gk - 1)
            case rel => exact HR8
            case measure => omega
      · have i2 : ¬ (out.length : Int) < (q.size : Int) := by omega
        have hd : Hid (T = (q, out, f)) := Lib.hid (by rw [← HT.out]; exact fill_done _ _ _ _ (fun h => hlt h.1))
        clear hqs hqL
        go_upto_region 11 with fail
        have i7 : (q.size : Int) - (out.length : Int) = 0 := by have := HQS.out; omega
        have hcl : Hid (p.next = (q, Option.some (out, f))) := Lib.hid (by rw [HNX.out, hd.out]; unfold PS.close; rw [if_neg hlt])
        clear hlt
        go_wp2_with fail
        exact bodyPost_ret (v := .tuple #[.slice ao out.length co, .int .i64 f, .bool true]) (by simp [results, Try.results13, go_sem]) rfl (NQ.some hcl.out rfl HO.out HP.out HVW.out HFR.out HNE.out)
  · have g5 : ¬ (c : Int) = (n : Int) := by omega
    have g6 : ¬ c = n := fun h => hcn h.symm
    have HNX := Lib.hid hnx
    have c0 := h.blk.at 0 rfl
    have c2 := h.blk.at 2 rfl
    have c5 := h.blk.at 5 rfl
    have f5 := h.blk.free 5
    have hlt := h.blk.lt
    have e2 : ((p.left : Int) == 0) = false := by rw [beq_eq_false_iff_ne]; omega
    have H := Lib.hid h
    have HTT := Lib.hid hTT
    clear h hnx h0 hTT
    go_enter Try.func13, Try.ntmps13
    go_upto_region 4 with (go_at_call 25; refine (H.out.live ok).mono ?_; rintro e w2 ⟨rfl, hw⟩; obtain rfl := hw.symm)
    go_upto_region 5 with (go_quiet (fail))
    obtain ⟨w4, hw4⟩ : ∃ w4, w4 = w.drewN nq := ⟨_, rfl⟩
    rw [← hw4]
    have H4 : Hid (PAt w4 X b p vW (.slice (Option.some ⟨g, off, Option.none⟩) rl c)) := Lib.hid (by rw [hw4]; exact H.out.quiet ⟨_, rfl⟩)
    have HF4 : Hid (Fr (fun k => k = b) w w4) := Lib.hid (by rw [hw4]; exact (Fr.refl _ w).drewN nq)
    have HB4 : Hid (Below w.heap.size w w4) := Lib.hid (by rw [hw4]; exact Quiet.below ⟨nq, rfl⟩)
    clear c0 c2 c5 f5 hlt hw4
    have c5 := H4.out.blk.at 5 rfl
    have hlt4 := H4.out.blk.lt
    go_wp2_with fail
    refine (cloneB_any (Option.some ⟨g, off, Option.none⟩) n c (p.rest.take n) w4 HTN.out (by rw [HTN.out]; have := HN6.out.1; omega) (BAt.take (l := p.rest) (HRB.out.below HB4.out (Nat.le_refl _)) n) (.inr ⟨_, _, rfl⟩)).mono ?_
    rintro e w5 ⟨v5, rfl, hO5, hB5⟩
    obtain ⟨a5, n5, k5, rfl⟩ := own_slice hO5
    have HB5 := Lib.hid hB5
    have H5 := Lib.hid (H4.out.below hB5 (Nat.le_refl _))
    have HF5 := Lib.hid (HF4.out.below hB5 (Nat.le_refl _))
    have HO5 := Lib.hid hO5
    clear hO5 hB5 c5
    have c5 := H5.out.blk.at 5 rfl
    have f5 := H5.out.blk.free 5
    have hlt5 := H5.out.blk.lt
    obtain ⟨vR6, hv6⟩ : ∃ v : Value, v = .slice (Option.some ⟨g, off + n, Option.none⟩) (rl - n) (c - n) := ⟨_, rfl⟩
    have hf6 : Fr (fun k => k = b) w5 (w5.setCell ⟨b, 5, Option.none⟩ vR6) := frs (Fr.refl _ _) _ _
    have hx5 : PAt w5 (Xo X (.slice a5 n5 k5)) b p vW (.slice (Option.some ⟨g, off, Option.none⟩) rl c) := H4.out.move (T := fun k => w4.heap.size ≤ k) (Fr.of_below HB5.out (Nat.le_refl _)) (by omega) (fun k hk => by have := (H4.out.lt k hk).2; omega) (fun k hk => .inr hk) (by
      rintro k (h9 | h9)
      · exact .inl h9
      · exact .inr (HO5.out.lt k h9).1) (by
      rintro k (h9 | h9)
      · exact Nat.lt_of_lt_of_le (H4.out.xlt k h9) HB5.out.size
      · exact (HO5.out.lt k h9).2)
    have H6 : PAt (w5.setCell ⟨b, 5, Option.none⟩ vR6) (Xo X (.slice a5 n5 k5)) b p.begin vW vR6 := by
      have hsl : Sl (w5.setCell ⟨b, 5, Option.none⟩ vR6) (Av (Xo X (.slice a5 n5 k5)) b vW) vR6 p.begin.rest := by
        have h9 := Sl.dropped (hx5.rest.fr hf6 (fun k hk => .inl (.inr (.inl hk)))) n HN6.out.2.1; rw [HBG.out]; rw [hv6] at h9 ⊢; exact h9
      exact hx5.rest_new (q := p.begin) (Blk.cast (hx5.blk.setCell 5 _) rfl) hf6 rfl hsl (by rw [hv6]; exact .inr ⟨_, _, _, _, rfl⟩)
    have ZS : Hid (Z w (w5.setCell ⟨b, 5, Option.none⟩ (.slice (Option.some ⟨g, off + n, Option.none⟩) (rl - n) (c - n))) X b vW vR6 T p.size (p.L.length + 1) (.int .i64 2047) (.slice a5 n5 k5)) := Lib.hid (by
      rw [← hv6]
      have hlt := H.out.blk.lt
      have hO6 := own_base (own_low HO5.out hlt4 5 vR6) HB4.out.size
      exact ⟨p.begin, p.rest.take n, 2047, vW, rfl, HTT.out.symm, .inl (by simp [PS.begin]), PS.ok_begin ok, rfl, ((by rw [HTN.out]; exact HN6.out.2.2)), H6, hO6, .inl rfl, HF5.out.trans hf6, fun k hk h9 => by have := (H4.out.lt k hk).2; have := (HO5.out.lt k h9).1; omega, hlt⟩)
    obtain ⟨j0, hj, hy0, hy1, hy2⟩ := info_parts info5
    have HJ := Lib.hid hj
    have HVV := Lib.hid hv6
    clear H6 hf6 hj hx5 hv6
    go_wp2_with fail
    go_loopg [5, 7] (p.L.length + 1) (fun gk v5 v7 wr => Hid (Z w wr X b vW vR6 T p.size gk v5 v7))
    case atStart => exact ZS
    case round =>
      obtain ⟨q, out, f, vW', rfl, hT, hqL, hq, hqs, hol, hP, hO, hvW, hfr, hne7, hbw⟩ := hrel.out
      obtain ⟨usq, hrow, hsls⟩ := hP.row
      obtain ⟨hnq, aw, cw, rfl, -, -, -, -⟩ := VAt.of_row hrow
      rw [← hnq] at hP hvW hne7
      obtain ⟨-, ao, co, rfl, -, -, -⟩ := BAt.of_row hO
      have c0 := hP.blk.at 0 rfl
      have c3 := hP.blk.at 3 rfl
      have c4 := hP.blk.at 4 rfl
      have hltr := hP.blk.lt
      have HP := Lib.hid hP
      have HO := Lib.hid hO
      have HVW := Lib.hid hvW
      have HFR := Lib.hid hfr
      have HQ := Lib.hid hq
      have HT := Lib.hid hT
      have HNE := Lib.hid hne7
      have HBW := Lib.hid hbw
      have hs1 := ok.size
      have i1 : (q.size : Int) ≤ 1012 := by omega
      have HQS := Lib.hid hqs
      have HQL := Lib.hid hqL
      clear hP hO hvW hfr hq hT hrow hsls hnq hrel hne7 hbw
      by_cases hlt : out.length < q.size
      · have i2 : (out.length : Int) < (q.size : Int) := by omega
        by_cases hne : q.L.length = 0
        · have i3 : ((q.L.length : Int)) = 0 := by omega
          have i4 : decide (0 < q.L.length) = false := decide_eq_false (by omega)
          have hd : Hid (T = (q, out, f)) := Lib.hid (by rw [← HT.out]; exact fill_done _ _ _ _ (fun h => h.2 (List.length_eq_zero_iff.1 hne)))
          clear hqs hqL
          go_upto_region 11 with fail
          obtain ⟨m, hm⟩ : ∃ m, m = q.size - out.length := ⟨_, rfl⟩
          obtain ⟨mm, hmm⟩ : ∃ mm, mm = max m 7 := ⟨_, rfl⟩
          have j1 : (q.size : Int) - (out.length : Int) = (m : Int) := by omega
          have j2 : (0 : Int) < (m : Int) := by omega
          have j3 : max (m : Int) 7 = (mm : Int) := by omega
          have hm9 : m ≤ 1012 := by omega
          have ho9 : out.length ≤ 1012 := by omega
          have hmm9 : 7 ≤ mm ∧ mm ≤ 1012 ∧ m ≤ mm := by omega
          obtain ⟨idl, hidl⟩ : ∃ l, l = idleN m := ⟨_, rfl⟩
          have hidlen : idl.length = mm := by rw [hidl, idleN_len, hmm]
          have hip : idleP (mm : Int) = (idl, 0) := by
            have h9 := idleP_ok (mm - 6) (by omega) (by omega)
            rw [show (((mm - 6 : Nat) : Int) + 6) = (mm : Int) by omega] at h9
            rw [h9, hidl]
            unfold idleN
            rw [← hmm]
          have HIP := Lib.hid hip
          have HIL := Lib.hid hidlen
          have HCL : Hid (p.next = ({ q with rest := idl.drop m }, Option.some (out ++ idl.take m, if f = 2047 then (out.length : Int) else f))) := Lib.hid (by
            rw [HNX.out, hd.out]
            unfold PS.close
            dsimp only
            rw [if_pos hlt, ← hm, ← hidl])
          have HMM := Lib.hid hmm
          clear hm hmm hidl hidlen hip hlt
          by_cases hf0 : f = 2047
          · have j5 : (f == 2047) = true := by rw [hf0]; rfl
            have HCL2 : Hid (p.next = ({ q with rest := idl.drop m }, Option.some (out ++ idl.take m, (out.length : Int)))) := Lib.hid (by rw [HCL.out, if_pos hf0])
            subst hf0
            go_wp2_with fail
            refine (idle_call (mm : Int) _).mono ?_
            rw [HIP.out]
            rintro e9 w6 ⟨vi, rfl, hO6, hB6⟩
            obtain ⟨-, ai, ci, rfl, hci, hcm6, hA6⟩ := BAt.of_row hO6
            rw [HIL.out] at hci ⊢
            rw [HIL.out] at hO6
            obtain ⟨bi, rfl⟩ : ∃ bi, ai = Option.some ⟨bi, 0, Option.none⟩ := by
              rcases own_shape hO6 with ⟨-, -, e9⟩ | ⟨g9, e9, -⟩
              · omega
              · exact ⟨g9, e9⟩
            have hbi : wr.heap.size ≤ bi ∧ bi < w6.heap.size := hO6.lt bi rfl
            have HP6 := Lib.hid (HP.out.below hB6 (Nat.le_refl _))
            have HO6 := Lib.hid (own_below HO.out hB6 (Nat.le_refl _))
            have HF6 := Lib.hid (HFR.out.below hB6 (Nat.le_refl _))
            have HA6 := Lib.hid hA6
            have hV6 : VAt w6 (Option.some ⟨bi, 0, Option.none⟩) (encB (idl.take m)) := (BAt.take (l := idl) hA6 m).vat
            have HV6 := Lib.hid hV6
            have htl : Hid ((idl.take m).length = m) := Lib.hid (by rw [List.length_take, HIL.out]; omega)
            have hs6 : w.heap.size ≤ w6.heap.size := Nat.le_trans HFR.out.size hB6.size
            have g1 : (m : Int) ≤ (mm : Int) := by omega
            have g2 : (mm : Int) ≤ 1012 := by omega
            have g3 : (0 : Int) ≤ (m : Int) := by omega
            have g4 : (m : Int) ≤ (ci : Int) := by omega
            have HB6 := Lib.hid hB6
            clear hO6 hB6 hA6 hV6
            go_wp2_with (at_builtin; refine wpList_append_src _ rfl (.tmp 102) (.tmp 105) 22 rfl w.heap.size 5 j0 (.int .u8 0) 1 Try.underlying22 HJ.out hy0 hy1 hy2 rfl _ out.length (encB out) rfl HO6.out (Option.some ⟨bi, 0, Option.none⟩) m ci (encB (idl.take m)) rfl (by rw [encB_length, htl.out]) HV6.out (encB_one _) (by unfold maxLen; omega) (by omega) hs6 ?_)
            intro v8 w8 hown8 hgrow8 hblk8
            obtain ⟨a8, n8, c8, rfl⟩ := own_slice hown8
            obtain ⟨m1, m2, m3⟩ := zmem HP.out HO.out HFR.out HNE.out HBW.out HP6.out (.inl rfl) (Fr.of_below HB6.out (Nat.le_refl _)) hown8 hgrow8 hblk8
            have HM1 := Lib.hid m1
            have HM2 := Lib.hid m2
            have HM3 := Lib.hid m3
            have HO8 := Lib.hid hown8
            have hg8 : Fr (fun k => (Value.slice ao out.length co).ownBlock = Option.some k) w6 w8 := (Fr.refl _ _).grown hgrow8 (fun k hk => .inl hk)
            have hA8 : BAt w8 (Option.some ⟨bi, 0, Option.none⟩) idl := BAt.fr (l := idl) HA6.out hg8 (fun q9 h9 e9 => by cases h9; have h7 := (HO.out.lt bi e9).2; have := hbi.1; omega)
            have HA8 := Lib.hid hA8
            have hav : ∀ k, Av (Xo X (.slice a8 n8 c8)) b (.slice aw q.L.length cw) k → k ≠ bi := by
              rintro k (⟨h9 | h9⟩ | h9 | h9) e9
              · have := HP.out.xlt k (.inl h9); have := hbi.1; omega
              · rcases hblk8 with e8 | e8
                · have := (HO.out.lt k (by rw [← e8]; exact h9)).2; have := hbi.1; omega
                · rw [e8] at h9; cases h9; have := hbi.2; omega
              · have := HP.out.blk.lt; have := hbi.1; omega
              · have := (HP.out.lt k h9).2; have := hbi.1; omega
            have HAV := Lib.hid hav
            have hbb : b ≠ bi := by have := HP.out.blk.lt; have := hbi.1; omega
            have f5 := m1.blk.free 5
            have c5 := m1.blk.at 5 rfl
            have hlt8 := m1.blk.lt
            clear hown8 hgrow8 hblk8 m1 m2 m3 hg8 hA8 hav
            have HIL2 := HIL.out
            by_cases hcm : m = ci
            · have hmm7 : m = mm := by omega
              subst hcm
              subst hmm7
              go_wp2_with fail
              have hf9 : Fr (fun k => k = b) w8 (w8.setCell ⟨b, 5, Option.none⟩ (.slice (Option.some ⟨bi, 0, Option.none⟩) 0 0)) := frs (Fr.refl _ _) _ _
              have hs9 := hf9.size
              have hk9 : Blk (w8.setCell ⟨b, 5, Option.none⟩ (.slice (Option.some ⟨bi, 0, Option.none⟩) 0 0)) b 56 (pcells { q with rest := idl.drop m } (.slice aw q.L.length cw) (.slice (Option.some ⟨bi, 0, Option.none⟩) 0 0)) := Blk.cast (HM1.out.blk.setCell 5 _) rfl
              have hr9 : Sl (w8.setCell ⟨b, 5, Option.none⟩ (.slice (Option.some ⟨bi, 0, Option.none⟩) 0 0)) (Av (Xo X (.slice a8 n8 c8)) b (.slice aw q.L.length cw)) (.slice (Option.some ⟨bi, 0, Option.none⟩) 0 0) (idl.drop m) := by
                exact ⟨Option.some ⟨bi, 0, Option.none⟩, 0, by simp [HIL.out], by simp [HIL.out], Nat.zero_le _, .inl (by apply List.length_eq_zero_iff.1; simp [HIL.out]), fun q9 h9 h8 => absurd (by apply List.length_eq_zero_iff.1; simp [HIL.out]) h8⟩
              have hP9 := (HM1.out.rest_new (q := { q with rest := idl.drop m }) hk9 hf9 rfl hr9 (.inr ⟨_, _, _, _, rfl⟩))
              have hO9 := own_low HO8.out HBW.out 5 (.slice (Option.some ⟨bi, 0, Option.none⟩) 0 0)
              exact bodyPost_ret (v := .tuple #[.slice a8 n8 c8, .int .i64 ((out.length : Int)), .bool true]) (by simp [results, Try.results13, go_sem]) rfl (NQ.some HCL2.out (by rw [List.length_append, htl.out]) (by rw [encB_append]; exact hO9) hP9 HVW.out (HM2.out.trans hf9) HM3.out)
            · have g5 : ¬ (ci : Int) = (m : Int) := by omega
              have g6 : ¬ ci = m := fun h => hcm h.symm
              go_wp2_with fail
              have hf9 : Fr (fun k => k = b) w8 (w8.setCell ⟨b, 5, Option.none⟩ (.slice (Option.some ⟨bi, m, Option.none⟩) (mm - m) (ci - m))) := frs (Fr.refl _ _) _ _
              have hs9 := hf9.size
              have hk9 : Blk (w8.setCell ⟨b, 5, Option.none⟩ (.slice (Option.some ⟨bi, m, Option.none⟩) (mm - m) (ci - m))) b 56 (pcells { q with rest := idl.drop m } (.slice aw q.L.length cw) (.slice (Option.some ⟨bi, m, Option.none⟩) (mm - m) (ci - m))) := Blk.cast (HM1.out.blk.setCell 5 _) rfl
              have hr9 : Sl (w8.setCell ⟨b, 5, Option.none⟩ (.slice (Option.some ⟨bi, m, Option.none⟩) (mm - m) (ci - m))) (Av (Xo X (.slice a8 n8 c8)) b (.slice aw q.L.length cw)) (.slice (Option.some ⟨bi, m, Option.none⟩) (mm - m) (ci - m)) (idl.drop m) := by
                exact sl_tail (BAt.fr (l := idl) HA8.out hf9 (fun q9 h9 e9 => by cases h9; exact hbb e9.symm)) (by rw [HIL2]; exact hci) hcm6 (fun h9 => HAV.out _ h9 rfl) m (by rw [HIL2]; omega) (mm - m) (by rw [HIL2])
              have hP9 := (HM1.out.rest_new (q := { q with rest := idl.drop m }) hk9 hf9 rfl hr9 (.inr ⟨_, _, _, _, rfl⟩))
              have hO9 := own_low HO8.out HBW.out 5 (.slice (Option.some ⟨bi, m, Option.none⟩) (mm - m) (ci - m))
              exact bodyPost_ret (v := .tuple #[.slice a8 n8 c8, .int .i64 ((out.length : Int)), .bool true]) (by simp [results, Try.results13, go_sem]) rfl (NQ.some HCL2.out (by rw [List.length_append, htl.out]) (by rw [encB_append]; exact hO9) hP9 HVW.out (HM2.out.trans hf9) HM3.out)
          · have j5 : (f == 2047) = false := by rw [beq_eq_false_iff_ne]; exact hf0
            have HCL2 : Hid (p.next = ({ q with rest := idl.drop m }, Option.some (out ++ idl.take m, f))) := Lib.hid (by rw [HCL.out, if_neg hf0])
            go_wp2_with fail
            refine (idle_call (mm : Int) _).mono ?_
            rw [HIP.out]
            rintro e9 w6 ⟨vi, rfl, hO6, hB6⟩
            obtain ⟨-, ai, ci, rfl, hci, hcm6, hA6⟩ := BAt.of_row hO6
            rw [HIL.out] at hci ⊢
            rw [HIL.out] at hO6
            obtain ⟨bi, rfl⟩ : ∃ bi, ai = Option.some ⟨bi, 0, Option.none⟩ := by
              rcases own_shape hO6 with ⟨-, -, e9⟩ | ⟨g9, e9, -⟩
              · omega
              · exact ⟨g9, e9⟩
            have hbi : wr.heap.size ≤ bi ∧ bi < w6.heap.size := hO6.lt bi rfl
            have HP6 := Lib.hid (HP.out.below hB6 (Nat.le_refl _))
            have HO6 := Lib.hid (own_below HO.out hB6 (Nat.le_refl _))
            have HF6 := Lib.hid (HFR.out.below hB6 (Nat.le_refl _))
            have HA6 := Lib.hid hA6
            have hV6 : VAt w6 (Option.some ⟨bi, 0, Option.none⟩) (encB (idl.take m)) := (BAt.take (l := idl) hA6 m).vat
            have HV6 := Lib.hid hV6
            have htl : Hid ((idl.take m).length = m) := Lib.hid (by rw [List.length_take, HIL.out]; omega)
            have hs6 : w.heap.size ≤ w6.heap.size := Nat.le_trans HFR.out.size hB6.size
            have g1 : (m : Int) ≤ (mm : Int) := by omega
            have g2 : (mm : Int) ≤ 1012 := by omega
            have g3 : (0 : Int) ≤ (m : Int) := by omega
            have g4 : (m : Int) ≤ (ci : Int) := by omega
            have HB6 := Lib.hid hB6
            clear hO6 hB6 hA6 hV6
            go_wp2_with (at_builtin; refine wpList_append_src _ rfl (.tmp 102) (.tmp 105) 22 rfl w.heap.size 5 j0 (.int .u8 0) 1 Try.underlying22 HJ.out hy0 hy1 hy2 rfl _ out.length (encB out) rfl HO6.out (Option.some ⟨bi, 0, Option.none⟩) m ci (encB (idl.take m)) rfl (by rw [encB_length, htl.out]) HV6.out (encB_one _) (by unfold maxLen; omega) (by omega) hs6 ?_)
            intro v8 w8 hown8 hgrow8 hblk8
            obtain ⟨a8, n8, c8, rfl⟩ := own_slice hown8
            obtain ⟨m1, m2, m3⟩ := zmem HP.out HO.out HFR.out HNE.out HBW.out HP6.out (.inl rfl) (Fr.of_below HB6.out (Nat.le_refl _)) hown8 hgrow8 hblk8
            have HM1 := Lib.hid m1
            have HM2 := Lib.hid m2
            have HM3 := Lib.hid m3
            have HO8 := Lib.hid hown8
            have hg8 : Fr (fun k => (Value.slice ao out.length co).ownBlock = Option.some k) w6 w8 := (Fr.refl _ _).grown hgrow8 (fun k hk => .inl hk)
            have hA8 : BAt w8 (Option.some ⟨bi, 0, Option.none⟩) idl := BAt.fr (l := idl) HA6.out hg8 (fun q9 h9 e9 => by cases h9; have h7 := (HO.out.lt bi e9).2; have := hbi.1; omega)
            have HA8 := Lib.hid hA8
            have hav : ∀ k, Av (Xo X (.slice a8 n8 c8)) b (.slice aw q.L.length cw) k → k ≠ bi := by
              rintro k (⟨h9 | h9⟩ | h9 | h9) e9
              · have := HP.out.xlt k (.inl h9); have := hbi.1; omega
              · rcases hblk8 with e8 | e8
                · have := (HO.out.lt k (by rw [← e8]; exact h9)).2; have := hbi.1; omega
                · rw [e8] at h9; cases h9; have := hbi.2; omega
              · have := HP.out.blk.lt; have := hbi.1; omega
              · have := (HP.out.lt k h9).2; have := hbi.1; omega
            have HAV := Lib.hid hav
            have hbb : b ≠ bi := by have := HP.out.blk.lt; have := hbi.1; omega
            have f5 := m1.blk.free 5
            have c5 := m1.blk.at 5 rfl
            have hlt8 := m1.blk.lt
            clear hown8 hgrow8 hblk8 m1 m2 m3 hg8 hA8 hav
            have HIL2 := HIL.out
            by_cases hcm : m = ci
            · have hmm7 : m = mm := by omega
              subst hcm
              subst hmm7
              go_wp2_with fail
              have hf9 : Fr (fun k => k = b) w8 (w8.setCell ⟨b, 5, Option.none⟩ (.slice (Option.some ⟨bi, 0, Option.none⟩) 0 0)) := frs (Fr.refl _ _) _ _
              have hs9 := hf9.size
              have hk9 : Blk (w8.setCell ⟨b, 5, Option.none⟩ (.slice (Option.some ⟨bi, 0, Option.none⟩) 0 0)) b 56 (pcells { q with rest := idl.drop m } (.slice aw q.L.length cw) (.slice (Option.some ⟨bi, 0, Option.none⟩) 0 0)) := Blk.cast (HM1.out.blk.setCell 5 _) rfl
              have hr9 : Sl (w8.setCell ⟨b, 5, Option.none⟩ (.slice (Option.some ⟨bi, 0, Option.none⟩) 0 0)) (Av (Xo X (.slice a8 n8 c8)) b (.slice aw q.L.length cw)) (.slice (Option.some ⟨bi, 0, Option.none⟩) 0 0) (idl.drop m) := by
                exact ⟨Option.some ⟨bi, 0, Option.none⟩, 0, by simp [HIL.out], by simp [HIL.out], Nat.zero_le _, .inl (by apply List.length_eq_zero_iff.1; simp [HIL.out]), fun q9 h9 h8 => absurd (by apply List.length_eq_zero_iff.1; simp [HIL.out]) h8⟩
              have hP9 := (HM1.out.rest_new (q := { q with rest := idl.drop m }) hk9 hf9 rfl hr9 (.inr ⟨_, _, _, _, rfl⟩))
              have hO9 := own_low HO8.out HBW.out 5 (.slice (Option.some ⟨bi, 0, Option.none⟩) 0 0)
              exact bodyPost_ret (v := .tuple #[.slice a8 n8 c8, .int .i64 (f), .bool true]) (by simp [results, Try.results13, go_sem]) rfl (NQ.some HCL2.out (by rw [List.length_append, htl.out]) (by rw [encB_append]; exact hO9) hP9 HVW.out (HM2.out.trans hf9) HM3.out)
            · have g5 : ¬ (ci : Int) = (m : Int) := by omega
              have g6 : ¬ ci = m := fun h => hcm h.symm
              go_wp2_with fail
              have hf9 : Fr (fun k => k = b) w8 (w8.setCell ⟨b, 5, Option.none⟩ (.slice (Option.some ⟨bi, m, Option.none⟩) (mm - m) (ci - m))) := frs (Fr.refl _ _) _ _
              have hs9 := hf9.size
              have hk9 : Blk (w8.setCell ⟨b, 5, Option.none⟩ (.slice (Option.some ⟨bi, m, Option.none⟩) (mm - m) (ci - m))) b 56 (pcells { q with rest := idl.drop m } (.slice aw q.L.length cw) (.slice (Option.some ⟨bi, m, Option.none⟩) (mm - m) (ci - m))) := Blk.cast (HM1.out.blk.setCell 5 _) rfl
              have hr9 : Sl (w8.setCell ⟨b, 5, Option.none⟩ (.slice (Option.some ⟨bi, m, Option.none⟩) (mm - m) (ci - m))) (Av (Xo X (.slice a8 n8 c8)) b (.slice aw q.L.length cw)) (.slice (Option.some ⟨bi, m, Option.none⟩) (mm - m) (ci - m)) (idl.drop m) := by
                exact sl_tail (BAt.fr (l := idl) HA8.out hf9 (fun q9 h9 e9 => by cases h9; exact hbb e9.symm)) (by rw [HIL2]; exact hci) hcm6 (fun h9 => HAV.out _ h9 rfl) m (by rw [HIL2]; omega) (mm - m) (by rw [HIL2])
              have hP9 := (HM1.out.rest_new (q := { q with rest := idl.drop m }) hk9 hf9 rfl hr9 (.inr ⟨_, _, _, _, rfl⟩))
              have hO9 := own_low HO8.out HBW.out 5 (.slice (Option.some ⟨bi, m, Option.none⟩) (mm - m) (ci - m))
              exact bodyPost_ret (v := .tuple #[.slice a8 n8 c8, .int .i64 (f), .bool true]) (by simp [results, Try.results13, go_sem]) rfl (NQ.some HCL2.out (by rw [List.length_append, htl.out]) (by rw [encB_append]; exact hO9) hP9 HVW.out (HM2.out.trans hf9) HM3.out)
        · have i3 : 0 < (q.L.length : Int) := by omega
          have i4 : decide (0 < q.L.length) = true := decide_eq_true (by omega)
          by_cases ht0 : q.taken = 0
          · have i5 : ((q.taken : Int) == 0) = true := by rw [ht0]; rfl
            by_cases hf0 : f = 2047
            · have HFP : Hid (firstP q out f = (out.length : Int)) := Lib.hid (by unfold firstP; rw [if_pos ⟨ht0, hf0⟩])
              subst hf0
              clear ht0 hqs hqL
              have hgk : 0 < gk := by rcases HQL.out with h9 | h9 <;> omega
              obtain ⟨most, hmo⟩ : ∃ most, most = q.size - out.length := ⟨_, rfl⟩
              have j1 : (q.size : Int) - (out.length : Int) = (most : Int) := by omega
              have HMO := Lib.hid hmo
              have hmo9 : most ≤ 1012 := by omega
              have j3 : q.L ≠ [] := fun e9 => hne (by rw [e9]; rfl)
              have j4 := take_len HQ.out j3 most
              have HJ4 := Lib.hid j4
              have HJ3 := Lib.hid j3
              clear hmo j3 j4
              go_wp2_with fail
              refine (take_any (Xo X (.slice ao out.length co)) b most q _ vR6 _ HP.out HQ.out HJ3.out (by omega)).mono ?_
              rintro e5 w5 ⟨vt, vW5, rfl, hP5, hS5, hc5, hf5⟩
              obtain ⟨tk, htk⟩ : ∃ tk, tk = q.take most := ⟨_, rfl⟩
              rw [← htk] at hP5 hS5
              obtain ⟨at5, ct5, rfl, -, -, hA5, -⟩ := hS5
              have HTK := Lib.hid htk
              have hl5 : tk.2.length ≤ 1012 := by rw [htk]; have := HJ4.out.1; omega
              obtain ⟨nt, hnt⟩ : ∃ nt, nt = tk.2.length := ⟨_, rfl⟩
              rw [← hnt]
              have hnt9 : nt ≤ 1012 := by omega
              have HNT := Lib.hid hnt
              have HP5 := Lib.hid hP5
              have HC5 := Lib.hid hc5
              have HF5 := Lib.hid hf5
              have HV5 := Lib.hid hA5.vat
              have HO5 := Lib.hid (own_fr HO.out hf5 (fun k hk e9 => by have := (HO.out.lt k hk).1; have := HBW.out; omega))
              have hs5 : w.heap.size ≤ w5.heap.size := Nat.le_trans HFR.out.size hf5.size
              have ho9 : out.length ≤ 1012 := by omega
              clear hP5 hA5 hc5 hf5 htk hnt hl5
              go_wp2_with (at_builtin; refine wpList_append_src _ rfl (.tmp 72) (.tmp 81) 22 rfl w.heap.size 5 j0 (.int .u8 0) 1 Try.underlying22 HJ.out hy0 hy1 hy2 rfl _ out.length (encB out) rfl HO5.out at5 nt ct5 (encB tk.2) rfl (by rw [encB_length, HNT.out]) HV5.out (encB_one _) (by unfold maxLen; omega) (by omega) hs5 ?_)
              intro v8 w8 hown8 hgrow8 hblk8
              obtain ⟨m1, m2, m3⟩ := zmem HP.out HO.out HFR.out HNE.out HBW.out HP5.out HC5.out HF5.out hown8 hgrow8 hblk8
              have HR8 : Hid (Z w w8 X b vW vR6 T p.size (gk - 1) (.int .i64 ((out.length : Int))) v8) := Lib.hid ⟨tk.1, out ++ tk.2, (out.length : Int), vW5, rfl, ?zt, ?zl, ?zo, ?zs, ?zn, m1, ?zw, ?zc, m2, m3, HBW.out⟩
              case zt =>
                have h9 := HT.out
                rw [show gk = (gk - 1) + 1 by omega, fill_more _ _ _ _ ⟨hlt, HJ3.out⟩, ← HMO.out, ← HTK.out, HFP.out] at h9
                exact h9
              case zl =>
                have hz := (q.take_size most).1
                rw [← HTK.out] at hz
                have h9 := HJ4.out.2
                rw [← HTK.out] at h9
                rcases h9 with h9 | h9
                · left
                  rcases HQL.out with h8 | h8 <;> omega
                · right
                  rw [List.length_append, hz]
                  have := HMO.out
                  omega
              case zo => rw [HTK.out]; exact PS.ok_take HQ.out most
              case zs => rw [HTK.out]; exact (q.take_size most).1.trans HQS.out
              case zn =>
                have h9 := HJ4.out.1
                rw [← HTK.out] at h9
                rw [List.length_append]
                have := HMO.out
                have := HQS.out
                omega
              case zw =>
                rw [encB_append, List.length_append, ← HNT.out]
                exact hown8
              case zc =>
                rcases HC5.out with e9 | e9
                · rcases HVW.out with e8 | e8
                  · exact .inl (e9.trans e8)
                  · exact .inr fun k hk => e8 k (by rw [← e9]; exact hk)
                · exact .inr fun k hk => Nat.le_trans HFR.out.size (e9 k hk)
              clear hown8 hgrow8 hblk8 m1 m2 m3
              go_wp2_with fail
              go_roundg (gk - 1)
              case rel => exact HR8
              case measure => omega
            · have HFP : Hid (firstP q out f = f) := Lib.hid (by unfold firstP; rw [if_neg (fun h => hf0 h.2)])
              have i6 : (f == 2047) = false := by rw [beq_eq_false_iff_ne]; exact hf0
              clear ht0 hqs hqL
              have hgk : 0 < gk := by rcases HQL.out with h9 | h9 <;> omega
              obtain ⟨most, hmo⟩ : ∃ most, most = q.size - out.length := ⟨_, rfl⟩
              have j1 : (q.size : Int) - (out.length : Int) = (most : Int) := by omega
              have HMO := Lib.hid hmo
              have hmo9 : most ≤ 1012 := by omega
              have j3 : q.L ≠ [] := fun e9 => hne (by rw [e9]; rfl)
              have j4 := take_len HQ.out j3 most
              have HJ4 := Lib.hid j4
              have HJ3 := Lib.hid j3
              clear hmo j3 j4
              go_wp2_with fail
              refine (take_any (Xo X (.slice ao out.length co)) b most q _ vR6 _ HP.out HQ.out HJ3.out (by omega)).mono ?_
              rintro e5 w5 ⟨vt, vW5, rfl, hP5, hS5, hc5, hf5⟩
              obtain ⟨tk, htk⟩ : ∃ tk, tk = q.take most := ⟨_, rfl⟩
              rw [← htk] at hP5 hS5
              obtain ⟨at5, ct5, rfl, -, -, hA5, -⟩ := hS5
              have HTK := Lib.hid htk
              have hl5 : tk.2.length ≤ 1012 := by rw [htk]; have := HJ4.out.1; omega
              obtain ⟨nt, hnt⟩ : ∃ nt, nt = tk.2.length := ⟨_, rfl⟩
              rw [← hnt]
              have hnt9 : nt ≤ 1012 := by omega
              have HNT := Lib.hid hnt
              have HP5 := Lib.hid hP5
              have HC5 := Lib.hid hc5
              have HF5 := Lib.hid hf5
              have HV5 := Lib.hid hA5.vat
              have HO5 := Lib.hid (own_fr HO.out hf5 (fun k hk e9 => by have := (HO.out.lt k hk).1; have := HBW.out; omega))
              have hs5 : w.heap.size ≤ w5.heap.size := Nat.le_trans HFR.out.size hf5.size
              have ho9 : out.length ≤ 1012 := by omega
              clear hP5 hA5 hc5 hf5 htk hnt hl5
              go_wp2_with (at_builtin; refine wpList_append_src _ rfl (.tmp 72) (.tmp 81) 22 rfl w.heap.size 5 j0 (.int .u8 0) 1 Try.underlying22 HJ.out hy0 hy1 hy2 rfl _ out.length (encB out) rfl HO5.out at5 nt ct5 (encB tk.2) rfl (by rw [encB_length, HNT.out]) HV5.out (encB_one _) (by unfold maxLen; omega) (by omega) hs5 ?_)
              intro v8 w8 hown8 hgrow8 hblk8
              obtain ⟨m1, m2, m3⟩ := zmem HP.out HO.out HFR.out HNE.out HBW.out HP5.out HC5.out HF5.out hown8 hgrow8 hblk8
              have HR8 : Hid (Z w w8 X b vW vR6 T p.size (gk - 1) (.int .i64 (f)) v8) := Lib.hid ⟨tk.1, out ++ tk.2, f, vW5, rfl, ?zt, ?zl, ?zo, ?zs, ?zn, m1, ?zw, ?zc, m2, m3, HBW.out⟩
              case zt =>
                have h9 := HT.out
                rw [show gk = (gk - 1) + 1 by omega, fill_more _ _ _ _ ⟨hlt, HJ3.out⟩, ← HMO.out, ← HTK.out, HFP.out] at h9
                exact h9
              case zl =>
                have hz := (q.take_size most).1
                rw [← HTK.out] at hz
                have h9 := HJ4.out.2
                rw [← HTK.out] at h9
                rcases h9 with h9 | h9
                · left
                  rcases HQL.out with h8 | h8 <;> omega
                · right
                  rw [List.length_append, hz]
                  have := HMO.out
                  omega
              case zo => rw [HTK.out]; exact PS.ok_take HQ.out most
              case zs => rw [HTK.out]; exact (q.take_size most).1.trans HQS.out
              case zn =>
                have h9 := HJ4.out.1
                rw [← HTK.out] at h9
                rw [List.length_append]
                have := HMO.out
                have := HQS.out
                omega
              case zw =>
                rw [encB_append, List.length_append, ← HNT.out]
                exact hown8
              case zc =>
                rcases HC5.out with e9 | e9
                · rcases HVW.out with e8 | e8
                  · exact .inl (e9.trans e8)
                  · exact .inr fun k hk => e8 k (by rw [← e9]; exact hk)
                · exact .inr fun k hk => Nat.le_trans HFR.out.size (e9 k hk)
              clear hown8 hgrow8 hblk8 m1 m2 m3
              go_wp2_with fail
              go_roundg (gk - 1)
              case rel => exact HR8
              case measure => omega
          · have i5 : ((q.taken : Int) == 0) = false := by rw [beq_eq_false_iff_ne]; omega
            have HFP : Hid (firstP q out f = f) := Lib.hid (by unfold firstP; rw [if_neg (fun h => ht0 h.1)])
            clear ht0 hqs hqL
            have hgk : 0 < gk := by rcases HQL.out with h9 | h9 <;> omega
            obtain ⟨most, hmo⟩ : ∃ most, most = q.size - out.length := ⟨_, rfl⟩
            have j1 : (q.size : Int) - (out.length : Int) = (most : Int) := by omega
            have HMO := Lib.hid hmo
            have hmo9 : most ≤ 1012 := by omega
            have j3 : q.L ≠ [] := fun e9 => hne (by rw [e9]; rfl)
            have j4 := take_len HQ.out j3 most
            have HJ4 := Lib.hid j4
            have HJ3 := Lib.hid j3
            clear hmo j3 j4
            go_wp2_with fail
            refine (take_any (Xo X (.slice ao out.length co)) b most q _ vR6 _ HP.out HQ.out HJ3.out (by omega)).mono ?_
            rintro e5 w5 ⟨vt, vW5, rfl, hP5, hS5, hc5, hf5⟩
            obtain ⟨tk, htk⟩ : ∃ tk, tk = q.take most := ⟨_, rfl⟩
            rw [← htk] at hP5 hS5
            obtain ⟨at5, ct5, rfl, -, -, hA5, -⟩ := hS5
            have HTK := Lib.hid htk
            have hl5 : tk.2.length ≤ 1012 := by rw [htk]; have := HJ4.out.1; omega
            obtain ⟨nt, hnt⟩ : ∃ nt, nt = tk.2.length := ⟨_, rfl⟩
            rw [← hnt]
            have hnt9 : nt ≤ 1012 := by omega
            have HNT := Lib.hid hnt
            have HP5 := Lib.hid hP5
            have HC5 := Lib.hid hc5
            have HF5 := Lib.hid hf5
            have HV5 := Lib.hid hA5.vat
            have HO5 := Lib.hid (own_fr HO.out hf5 (fun k hk e9 => by have := (HO.out.lt k hk).1; have := HBW.out; omega))
            have hs5 : w.heap.size ≤ w5.heap.size := Nat.le_trans HFR.out.size hf5.size
            have ho9 : out.length ≤ 1012 := by omega
            clear hP5 hA5 hc5 hf5 htk hnt hl5
            go_wp2_with (at_builtin; refine wpList_append_src _ rfl (.tmp 72) (.tmp 81) 22 rfl w.heap.size 5 j0 (.int .u8 0) 1 Try.underlying22 HJ.out hy0 hy1 hy2 rfl _ out.length (encB out) rfl HO5.out at5 nt ct5 (encB tk.2) rfl (by rw [encB_length, HNT.out]) HV5.out (encB_one _) (by unfold maxLen; omega) (by omega) hs5 ?_)
            intro v8 w8 hown8 hgrow8 hblk8
            obtain ⟨m1, m2, m3⟩ := zmem HP.out HO.out HFR.out HNE.out HBW.out HP5.out HC5.out HF5.out hown8 hgrow8 hblk8
            have HR8 : Hid (Z w w8 X b vW vR6 T p.size (gk - 1) (.int .i64 (f)) v8) := Lib.hid ⟨tk.1, out ++ tk.2, f, vW5, rfl, ?zt, ?zl, ?zo, ?zs, ?zn, m1, ?zw, ?zc, m2, m3, HBW.out⟩
            case zt =>
              have h9 := HT.out
              rw [show gk = (gk - 1) + 1 by omega, fill_more _ _ _ _ ⟨hlt, HJ3.out⟩, ← HMO.out, ← HTK.out, HFP.out] at h9
              exact h9
            case zl =>
              have hz := (q.take_size most).1
              rw [← HTK.out] at hz
              have h9 := HJ4.out.2
              rw [← HTK.out] at h9
              rcases h9 with h9 | h9
              · left
                rcases HQL.out with h8 | h8 <;> omega
              · right
                rw [List.length_append, hz]
                have := HMO.out
                omega
            case zo => rw [HTK.out]; exact PS.ok_take HQ.out most
            case zs => rw [HTK.out]; exact (q.take_size most).1.trans HQS.out
            case zn =>
              have h9 := HJ4.out.1
              rw [← HTK.out] at h9
              rw [List.length_append]
              have := HMO.out
              have := HQS.out
              omega
            case zw =>
              rw [encB_append, List.length_append, ← HNT.out]
              exact hown8
            case zc =>
              rcases HC5.out with e9 | e9
              · rcases HVW.out with e8 | e8
                · exact .inl (e9.trans e8)
                · exact .inr fun k hk => e8 k (by rw [← e9]; exact hk)
              · exact .inr fun k hk => Nat.le_trans HFR.out.size (e9 k hk)
            clear hown8 hgrow8 hblk8 m1 m2 m3
            go_wp2_with fail
            go_roundg (gk - 1)
            case rel => exact HR8
            case measure => omega
      · have i2 : ¬ (out.length : Int) < (q.size : Int) := by omega
        have hd : Hid (T = (q, out, f)) := Lib.hid (by rw [← HT.out]; exact fill_done _ _ _ _ (fun h => hlt h.1))
        clear hqs hqL
        go_upto_region 11 with fail
        have i7 : (q.size : Int) - (out.length : Int) = 0 := by have := HQS.out; omega
        have hcl : Hid (p.next = (q, Option.some (out, f))) := Lib.hid (by rw [HNX.out, hd.out]; unfold PS.close; rw [if_neg hlt])
        clear hlt
        go_wp2_with fail
        exact bodyPost_ret (v := .tuple #[.slice ao out.length co, .int .i64 f, .bool true]) (by simp [results, Try.results13, go_sem]) rfl (NQ.some hcl.out rfl HO.out HP.out HVW.out HFR.out HNE.out)
theorem next_any (X : Nat → Prop) (b : Nat) (p : PS) (vW vR : Value) (w : World) (h : PAt w X b p vW vR) (ok : p.Ok) : Calls Try.prog 13 #[.pointer (some ⟨b, 0, none⟩)] w (NQ w X b vW p.next) := by
  by_cases h0 : p.left = 0
  · exact next_nothing X b p vW vR w h ok h0
  · rcases h.rsh with rfl | ⟨g, off, rl, c, rfl⟩
    · exact next_nil X b p vW w h ok h0
    · exact next_some X b g off rl c p vW w h ok h0
end Go.Proofs.Ytalghcgedmcifaa

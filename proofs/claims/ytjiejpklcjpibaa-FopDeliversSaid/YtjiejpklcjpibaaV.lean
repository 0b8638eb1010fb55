/- Plain law: all data arrive in order despite losses. No condition. -/
import Derived.Test.YtjiejpklcjpibaaU
namespace Go.Proofs.Ytjiejpklcjpibaa
open Go.RowKit Go.Deep Go.ChangeShapes Go.WideShapes Go.ChangeAt
set_option linter.unusedVariables false

/-- the receiving end -/
structure RE where
  next : Nat
  again : Bool
  got : List (List UInt8)
def RE.hears (e : RE) (q : Nat) (d : List UInt8) (w : Nat) : RE :=
  if (q + 256 - e.next) % 256 = 0 then ⟨(e.next + 1) % 256, false, e.got ++ [d]⟩
  else if (q + 256 - e.next) % 256 < w then { e with again := true } else e
/-- whatever is lost -/
structure Dl (L : List (List UInt8)) (w : Nat) (f : FS) (e : RE) : Prop where
  ok : f.Ok
  cr : f.craft = 5
  ch : f.chan = 1
  ct : f.ctls = []
  st : f.state = 1
  sz : f.size = w
  rt : f.ret = 255
  le : f.acked ≤ L.length
  un : f.units = L.drop f.acked
  tm : f.tmo ≤ 8
  lo : f.acked ≤ e.got.length
  hi : e.got.length ≤ f.acked + f.front
  gt : e.got = L.take e.got.length
  nx : e.next = e.got.length
section
variable {L : List (List UInt8)} {w : Nat} {f g : FS} {e : RE}
theorem Dl.len (h : Dl L w f e) : f.units.length = L.length - f.acked := by rw [h.un, List.length_drop]
theorem Dl.gle (h : Dl L w f e) : e.got.length ≤ L.length := by
  have := h.hi
  have h1 := h.ok.units
  have h2 := h.len
  have h3 := h.le
  omega
theorem Dl.unit (h : Dl L w f e) (q : Nat) : f.units.getD q [] = L.getD (f.acked + q) [] := by
  rw [h.un, List.getD_eq_getElem?_getD, List.getElem?_drop, ← List.getD_eq_getElem?_getD]
theorem Dl.clock (h : Dl L w f e) (t : Int) : Dl L w (f.clock t) e := ⟨FS.ok_clock h.ok t, h.cr, h.ch, h.ct, h.st, h.sz, h.rt, h.le, h.un, h.tm, h.lo, h.hi, h.gt, h.nx⟩
theorem Dl.take (h : Dl L w f e) (hL : L.length ≤ 40) (hf : f.flight < min f.size f.units.length) : f.take.2 = ⟨false, false, 5, 1, ((f.acked + f.flight : Nat) : Int), L.getD (f.acked + f.flight) []⟩ ∧ Dl L w f.take.1 e := by
  have h1 := h.len
  refine ⟨?_, FS.ok_take h.ok hf, h.cr, h.ch, h.ct, h.st, h.sz, h.rt, h.le, h.un, h.tm, h.lo, ?_, h.gt, h.nx⟩
  · unfold FS.take
    dsimp only
    rw [h.cr, h.ch, h.unit f.flight, Nat.mod_eq_of_lt (by omega)]
  · have := h.hi
    show e.got.length ≤ f.acked + max f.front (f.flight + 1)
    omega
/-- a frame arrives -/
theorem Dl.hears (h : Dl L w f e) (hL : L.length ≤ 40) (hw : w ≤ 127) (q : Nat) (h1 : f.acked ≤ q) (h2 : q < f.acked + f.front) : Dl L w f (e.hears q (L.getD q []) w) := by
  have hn := h.nx
  have hg := h.gle
  have hlo := h.lo
  have hhi := h.hi
  have hu := h.ok.units
  have hl := h.len
  have hle := h.le
  unfold RE.hears
  by_cases c1 : (q + 256 - e.next) % 256 = 0
  · rw [if_pos c1]
    have hq : q = e.got.length := by omega
    have hlen : (e.got ++ [L.getD q []]).length = q + 1 := by rw [List.length_append, hq]; rfl
    refine { h with lo := by rw [hlen]; omega, hi := by rw [hlen]; omega, gt := ?_, nx := by rw [hlen]; dsimp only; omega }
    rw [hlen]
    dsimp only
    have hql : q < L.length := by omega
    rw [List.take_succ_eq_append_getElem hql]
    congr 1
    · rw [hq]; exact h.gt
    · simp [hql]
  · rw [if_neg c1]
    split
    · exact { h with lo := h.lo, hi := h.hi, gt := h.gt, nx := h.nx }
    · exact h
/-- a control word arrives -/
def RE.word (e : RE) : Cw := ⟨1, false, false, e.again, 0, (e.next : Int)⟩
theorem Dl.report (h : Dl L w f e) (hL : L.length ≤ 40) (t : Int) : (f.report e.word t).2 = 0 ∧ Dl L w (f.report e.word t).1 e ∧ (f.report e.word t).1.acked = e.got.length ∧ (f.report e.word t).1.flight = (if e.again then 0 else f.flight - (e.got.length - f.acked)) ∧
    (f.report e.word t).1.count = (if 0 < e.got.length - f.acked then 0 else f.count) ∧ (f.report e.word t).1.timer = (if 0 < e.got.length - f.acked then (f.clock t).now else f.timer) ∧ (f.report e.word t).1.now = (f.clock t).now ∧ (f.report e.word t).1.tmo = f.tmo := by
  have hn := h.nx
  have hg := h.gle
  have hlo := h.lo
  have hhi := h.hi
  have hd : (f.clock t).dist (e.next : Int) = e.got.length - f.acked := by
    unfold FS.dist
    show (((e.next : Int) - (f.acked : Int)) % 256).toNat = _
    omega
  have hc := h.clock t
  obtain ⟨d, hdd⟩ : ∃ d, d = e.got.length - f.acked := ⟨_, rfl⟩
  have key : f.report e.word t = (((((f.clock t).ack d).reset (decide (0 < d))).again e.again).hold false, 0) := by
    unfold FS.report FS.heed RE.word
    dsimp only
    rw [if_neg, if_neg (by simp), if_neg (by rw [hd]; show ¬ f.front < _; omega), hd, ← hdd]
    rw [hc.ch]
    simp [Cw.valid]
    omega
  rw [key, ← hdd]
  have e1 : (((((f.clock t).ack d).reset (decide (0 < d))).again e.again).hold false).acked = f.acked + d := by
    unfold FS.hold FS.again FS.reset
    dsimp only
    repeat' split
    all_goals rfl
  have e2 : (((((f.clock t).ack d).reset (decide (0 < d))).again e.again).hold false).front = f.front - d := by
    unfold FS.hold FS.again FS.reset
    dsimp only
    repeat' split
    all_goals rfl
  have e3 : (((((f.clock t).ack d).reset (decide (0 < d))).again e.again).hold false).units = f.units.drop d := by
    unfold FS.hold FS.again FS.reset
    dsimp only
    repeat' split
    all_goals rfl
  have e4 : ∀ b : Bool, (((f.clock t).ack d).reset b).tmo = f.tmo ∧ (((f.clock t).ack d).reset b).craft = f.craft ∧ (((f.clock t).ack d).reset b).chan = f.chan ∧ (((f.clock t).ack d).reset b).ctls = f.ctls ∧ (((f.clock t).ack d).reset b).state = f.state ∧ (((f.clock t).ack d).reset b).size = f.size ∧ (((f.clock t).ack d).reset b).ret = f.ret ∧ (((f.clock t).ack d).reset b).now = (f.clock t).now ∧ (((f.clock t).ack d).reset b).flight = f.flight - d := by
    intro b
    cases b <;> exact ⟨rfl, rfl, rfl, rfl, rfl, rfl, rfl, rfl, rfl⟩
  obtain ⟨k1, k2, k3, k4, k5, k6, k7, k8, k9⟩ := e4 (decide (0 < d))
  have e5 : ∀ (x : FS) (b : Bool), ((x.again b).hold false).tmo = x.tmo ∧ ((x.again b).hold false).craft = x.craft ∧ ((x.again b).hold false).chan = x.chan ∧ ((x.again b).hold false).ctls = x.ctls ∧ (x.state = 1 → ((x.again b).hold false).state = 1) ∧ ((x.again b).hold false).size = x.size ∧ ((x.again b).hold false).ret = x.ret ∧ ((x.again b).hold false).now = x.now ∧ ((x.again b).hold false).flight = (if b then 0 else x.flight) ∧ ((x.again b).hold false).count = x.count ∧ ((x.again b).hold false).timer = x.timer := by
    intro x b
    cases b <;> refine ⟨rfl, rfl, rfl, rfl, fun h => ?_, rfl, rfl, rfl, rfl, rfl, rfl⟩ <;> (unfold FS.hold FS.again; simp [h])
  obtain ⟨m1, m2, m3, m4, m5, m6, m7, m8, m9, m10, m11⟩ := e5 (((f.clock t).ack d).reset (decide (0 < d))) e.again
  have hcount : (((f.clock t).ack d).reset (decide (0 < d))).count = (if 0 < d then 0 else f.count) := by
    unfold FS.reset
    by_cases h0 : 0 < d
    · rw [if_pos (by simpa using h0), if_pos h0]
    · rw [if_neg (by simpa using h0), if_neg h0]; rfl
  have htimer : (((f.clock t).ack d).reset (decide (0 < d))).timer = (if 0 < d then (f.clock t).now else f.timer) := by
    unfold FS.reset
    by_cases h0 : 0 < d
    · rw [if_pos (by simpa using h0), if_pos h0]; rfl
    · rw [if_neg (by simpa using h0), if_neg h0]; rfl
  refine ⟨rfl, ⟨FS.ok_hold (FS.ok_again (FS.ok_reset (FS.ok_ack hc.ok (by show d ≤ f.front; omega)) _) _) _, m2.trans (k2.trans h.cr), m3.trans (k3.trans h.ch), m4.trans (k4.trans h.ct), m5 (k5.trans h.st), m6.trans (k6.trans h.sz), m7.trans (k7.trans h.rt), ?_, ?_, ?_, ?_, ?_, h.gt, h.nx⟩, ?_, ?_, m10.trans hcount, m11.trans htimer, m8.trans k8, m1.trans k1⟩
  · dsimp only; rw [e1]; omega
  · dsimp only; rw [e1, e3, h.un, List.drop_drop]
  · dsimp only; rw [m1, k1]; exact h.tm
  · dsimp only; rw [e1]; omega
  · dsimp only; rw [e1, e2]; omega
  · dsimp only; rw [e1]; omega
  · dsimp only; rw [m9, k9]
end
section
variable {L : List (List UInt8)} {w : Nat} {f g : FS} {e : RE}
theorem Dl.next (h : Dl L w f e) (hL : L.length ≤ 40) (hc : f.count < 255) (now : Nat) (hn : f.now ≤ (now : Int)) (hn9 : now ≤ 1000) :
    Dl L w (f.next (now : Int)).1 e ∧ (f.next (now : Int)).1.now = (now : Int) ∧ (f.next (now : Int)).1.tmo = f.tmo ∧ (f.next (now : Int)).1.acked = f.acked ∧ (f.next (now : Int)).1.units = f.units ∧ (f.next (now : Int)).1.size = f.size ∧
      ((f.next (now : Int)).2 = none ∧ (f.next (now : Int)).1.flight = f.flight ∧ (f.next (now : Int)).1.count = f.count ∧ (f.next (now : Int)).1.timer = f.timer ∧ (f.units.length = 0 ∨ ¬ f.flight < min f.size f.units.length ∧ (now : Int) < f.timer + f.tmo) ∨
      ∃ q : Nat, (f.next (now : Int)).2 = some ⟨false, false, 5, 1, (q : Int), L.getD q []⟩ ∧ f.acked ≤ q ∧ q < f.acked + (f.next (now : Int)).1.front ∧ (f.next (now : Int)).1.timer = (now : Int) ∧
        (f.flight < min f.size f.units.length ∧ q = f.acked + f.flight ∧ (f.next (now : Int)).1.flight = f.flight + 1 ∧ (f.next (now : Int)).1.count = f.count ∨
         ¬ f.flight < min f.size f.units.length ∧ q = f.acked ∧ (f.next (now : Int)).1.flight = 1 ∧ (f.next (now : Int)).1.count = f.count + 1)) := by
  obtain ⟨v, hv⟩ : ∃ v, v = f.clock (now : Int) := ⟨_, rfl⟩
  have hw : Dl L w v e := by rw [hv]; exact h.clock _
  have e1 : f.next (now : Int) = v.step := by rw [hv]; rfl
  have v1 : v.now = (now : Int) := by
    rw [hv]
    unfold FS.clock
    dsimp only
    rw [if_pos (by omega), Int.max_eq_right hn]
  have v2 : v.acked = f.acked := by rw [hv]; rfl
  have v3 : v.flight = f.flight := by rw [hv]; rfl
  have v4 : v.count = f.count := by rw [hv]; rfl
  have v5 : v.timer = f.timer := by rw [hv]; rfl
  have v6 : v.tmo = f.tmo := by rw [hv]; rfl
  have v7 : v.units = f.units := by rw [hv]; rfl
  have v8 : v.size = f.size := by rw [hv]; rfl
  rw [e1, ← v2, ← v3, ← v4, ← v5, ← v6, ← v7, ← v8]
  rw [← v4] at hc
  clear e1 v2 v3 v4 v5 v6 v7 v8 hv h
  have hrt := hw.rt
  rw [FS.step_nil hw.ct]
  by_cases hu : v.state ≠ 1 ∨ v.units = []
  · rw [if_pos hu]
    have h0 : v.units.length = 0 := by
      rcases hu with h | h
      · exact absurd hw.st h
      · rw [h]; rfl
    exact ⟨hw, v1, rfl, rfl, rfl, rfl, .inl ⟨rfl, rfl, rfl, rfl, .inl h0⟩⟩
  · rw [if_neg hu]
    have hu1 : 0 < v.units.length := by
      cases e : v.units with
      | nil => simp [e] at hu
      | cons => simp
    by_cases hf : v.flight < min v.size v.units.length
    · rw [if_pos hf]
      obtain ⟨k1, k2⟩ := hw.take hL hf
      unfold FS.some
      dsimp only
      rw [k1]
      refine ⟨k2, v1, rfl, rfl, rfl, rfl, .inr ⟨v.acked + v.flight, rfl, by omega, ?_, v1, .inl ⟨hf, rfl, rfl, rfl⟩⟩⟩
      show v.acked + v.flight < v.acked + max v.front (v.flight + 1)
      omega
    · rw [if_neg hf]
      by_cases ht : v.now < v.timer + v.tmo
      · rw [if_pos ht]
        exact ⟨hw, v1, rfl, rfl, rfl, rfl, .inl ⟨rfl, rfl, rfl, rfl, .inr ⟨hf, by omega⟩⟩⟩
      · rw [if_neg ht, if_neg (by omega)]
        have hw2 : Dl L w { v with count := v.count + 1, flight := 0 } e := { hw with ok := { hw.ok with flight := Nat.zero_le _, count := by have := hw.rt; dsimp only; omega } }
        have hz := hw.ok.size
        obtain ⟨k1, k2⟩ := hw2.take hL (by dsimp only; omega)
        unfold FS.some
        dsimp only at k1 ⊢
        rw [k1]
        refine ⟨k2, v1, rfl, rfl, rfl, rfl, .inr ⟨v.acked, rfl, Nat.le_refl _, ?_, v1, .inr ⟨hf, rfl, rfl, rfl⟩⟩⟩
        show v.acked < v.acked + max v.front (0 + 1)
        omega
/-- how long it may still take -/
def FS.pot (f : FS) (now : Nat) : Nat := f.units.length + (if f.flight = 0 then 0 else if f.flight < min f.size f.units.length then 1 else 1 + (f.timer + f.tmo - (now : Int)).toNat)
structure Tk (L : List (List UInt8)) (w : Nat) (f : FS) (e : RE) (now : Nat) : Prop where
  dl : Dl L w f e
  nw : f.now ≤ (now : Int)
  tr : f.timer ≤ (now : Int)
  early : now ≤ 80 → f.count ≤ now
  late : 80 < now → e.got.length = f.acked ∧ f.count ≤ 81 ∧ now + f.pot now ≤ 131
def RE.after (e : RE) (o : Option Fm) (up : Bool) (w : Nat) : RE := match o with
  | some x => if up then e else e.hears x.seq.toNat x.data w
  | none => e
theorem RE.hears_eq (e : RE) (q : Nat) (d : List UInt8) (w : Nat) (h : (q + 256 - e.next) % 256 = 0) : e.hears q d w = ⟨(e.next + 1) % 256, false, e.got ++ [d]⟩ := by unfold RE.hears; rw [if_pos h]
theorem RE.hears_again (e : RE) (q : Nat) (d : List UInt8) (w : Nat) (h : ¬ (q + 256 - e.next) % 256 = 0) (h2 : (q + 256 - e.next) % 256 < w) : e.hears q d w = { e with again := true } := by unfold RE.hears; rw [if_neg h, if_pos h2]
theorem RE.hears_len (e : RE) (q : Nat) (d : List UInt8) (w : Nat) : e.got.length ≤ (e.hears q d w).got.length := by
  unfold RE.hears
  split
  · simp
  · split <;> exact Nat.le_refl _
theorem Tk.start (hL : L.length ≤ 40) (f0 : FS) (ok : f0.Ok) (h1 : f0.craft = 5) (h2 : f0.chan = 1) (h3 : f0.ctls = []) (h4 : f0.state = 1) (h5 : f0.size = w) (h6 : f0.ret = 255) (h7 : f0.acked = 0) (h8 : f0.units = L) (h9 : f0.tmo ≤ 8) (h10 : f0.now = 0) (h11 : f0.timer = 0) (h12 : f0.count = 0) : Tk L w f0 ⟨0, false, []⟩ 0 :=
  ⟨⟨ok, h1, h2, h3, h4, h5, h6, by omega, by rw [h7, h8]; rfl, h9, by rw [h7]; exact Nat.zero_le _, Nat.zero_le _, rfl, rfl⟩, by omega, by omega, fun _ => by omega, fun h => by omega⟩
theorem Tk.tick {now : Nat} (h : Tk L w f e now) (hL : L.length ≤ 40) (hw : w ≤ 127) (hlen : 0 < f.units.length) (hn9 : now < 1000) (up down : Bool) (hld : 80 ≤ now → up = false ∧ down = false) :
    Dl L w (f.next (now : Int)).1 (e.after (f.next (now : Int)).2 up w) ∧ (down = true → Tk L w (f.next (now : Int)).1 (e.after (f.next (now : Int)).2 up w) (now + 1)) ∧
      (down = false → ((f.next (now : Int)).1.report (e.after (f.next (now : Int)).2 up w).word (now : Int)).2 = 0 ∧ Tk L w ((f.next (now : Int)).1.report (e.after (f.next (now : Int)).2 up w).word (now : Int)).1 (e.after (f.next (now : Int)).2 up w) (now + 1)) := by
  have hearly := h.early
  have hlate := h.late
  have hnw := h.nw
  have htr := h.tr
  have hc : f.count < 255 := by
    by_cases h80 : now ≤ 80
    · have := hearly h80; omega
    · have := (hlate (by omega)).2.1; omega
  obtain ⟨d1, d2, d3, d4, d5, d6, dcase⟩ := h.dl.next hL hc now hnw (by omega)
  obtain ⟨g, hg⟩ : ∃ g, g = (f.next (now : Int)).1 := ⟨_, rfl⟩
  obtain ⟨o, ho⟩ : ∃ o, o = (f.next (now : Int)).2 := ⟨_, rfl⟩
  rw [← hg, ← ho] at dcase ⊢
  rw [← hg] at d1 d2 d3 d4 d5 d6
  clear hg ho
  obtain ⟨e', he'⟩ : ∃ e', e' = e.after o up w := ⟨_, rfl⟩
  rw [← he']
  have hdl : Dl L w g e' := by
    rw [he']
    unfold RE.after
    rcases dcase with ⟨rfl, -⟩ | ⟨q, rfl, k1, k2, -⟩
    · exact d1
    · dsimp only
      cases up
      · exact d1.hears hL hw q (by omega) (by omega)
      · exact d1
  have htm := hdl.tm
  have hgl := hdl.len
  have hul := h.dl.len
  have hel : e.got.length ≤ e'.got.length := by
    rw [he']
    unfold RE.after
    cases o with
    | none => exact Nat.le_refl _
    | some x =>
      cases up
      · exact e.hears_len _ _ _
      · exact Nat.le_refl _
  have hgt : g.timer ≤ (now : Int) := by
    rcases dcase with ⟨-, -, -, k, -⟩ | ⟨q, -, -, -, k, -⟩
    · rw [k]; exact htr
    · rw [k]; exact Int.le_refl _
  have hgc : g.count ≤ f.count + 1 := by
    rcases dcase with ⟨-, -, k, -⟩ | ⟨q, -, -, -, -, k⟩
    · omega
    · rcases k with ⟨-, -, -, k⟩ | ⟨-, -, -, k⟩ <;> omega
  refine ⟨hdl, fun hd => ?_, fun hd => ?_⟩
  · have hn80 : now < 80 := by
      by_cases h80 : 80 ≤ now
      · have := (hld h80).2; rw [hd] at this; cases this
      · omega
    have := hearly (by omega)
    exact ⟨hdl, by omega, by omega, fun _ => by omega, fun h9 => by omega⟩
  · obtain ⟨r1, r2, r3, r4, r5, r6, r7, r8⟩ := hdl.report hL (now : Int)
    obtain ⟨z, hz⟩ : ∃ z, z = (g.report e'.word (now : Int)).1 := ⟨_, rfl⟩
    rw [← hz] at r2 r3 r4 r5 r6 r7 r8 ⊢
    have hck : (g.clock (now : Int)).now = (now : Int) := by
      unfold FS.clock
      dsimp only
      rw [if_pos (by omega), d2]
      omega
    rw [hck] at r6 r7
    have hzl := r2.len
    have hzc : z.count ≤ g.count := by rw [r5]; split <;> omega
    have hzt : z.timer ≤ (now : Int) := by rw [r6]; split <;> omega
    refine ⟨r1, r2, by omega, by omega, fun h9 => ?_, fun h9 => ⟨r3.symm, ?_, ?_⟩⟩
    · have := hearly (by omega); omega
    · by_cases h80 : now ≤ 80
      · have := hearly h80; omega
      · obtain ⟨s1, s2, s3⟩ := hlate (by omega)
        obtain ⟨hup, -⟩ := hld (by omega)
        rcases dcase with ⟨-, -, k, -⟩ | ⟨q, ho, -, -, -, k⟩
        · omega
        · rcases k with ⟨-, -, -, k⟩ | ⟨-, k0, -, k⟩
          · omega
          · have hnx := h.dl.nx
            have : e' = ⟨(e.next + 1) % 256, false, e.got ++ [L.getD q []]⟩ := by
              rw [he', ho, hup]
              exact e.hears_eq q _ w (by omega)
            have h1 : e'.got.length = e.got.length + 1 := by rw [this]; simp
            rw [r5, if_pos (by omega)]
            omega
    · by_cases h80 : now ≤ 80
      · unfold FS.pot
        split
        · omega
        · split <;> omega
      · obtain ⟨s1, s2, s3⟩ := hlate (by omega)
        obtain ⟨hup, -⟩ := hld (by omega)
        have hnx := h.dl.nx
        have hz1 := h.dl.ok.size
        have hz2 := h.dl.sz
        unfold FS.pot at s3 ⊢
        rcases dcase with ⟨ho, k1, k2, k3, k4⟩ | ⟨q, ho, k1, k2, k3, k⟩
        · have k4 := k4.resolve_left (by omega)
          have hee : e' = e := by rw [he', ho]; rfl
          rw [hee] at r3 r4 r5 r6
          rw [if_neg (by omega), if_neg k4.1] at s3
          rw [if_neg (by omega)] at r6
          split
          · omega
          · split
            · omega
            · omega
        · rcases k with ⟨j1, j2, j3, j4⟩ | ⟨j1, j2, j3, j4⟩
          · by_cases hf0 : f.flight = 0
            · have hee : e' = ⟨(e.next + 1) % 256, false, e.got ++ [L.getD q []]⟩ := by
                rw [he', ho, hup]
                exact e.hears_eq q _ w (by omega)
              have h1 : e'.got.length = e.got.length + 1 := by rw [hee]; simp
              have h2 : e'.again = false := by rw [hee]
              rw [h2, if_neg (by simp), j3] at r4
              rw [if_pos hf0] at s3
              rw [if_pos (by omega)]
              omega
            · have hee : e' = { e with again := true } := by
                rw [he', ho, hup]
                exact e.hears_again q _ w (by omega) (by omega)
              have h2 : e'.again = true := by rw [hee]
              have h1 : e'.got.length = e.got.length := by rw [hee]
              rw [h2, if_pos rfl] at r4
              rw [if_neg hf0, if_pos j1] at s3
              rw [if_pos r4]
              omega
          · have hee : e' = ⟨(e.next + 1) % 256, false, e.got ++ [L.getD q []]⟩ := by
              rw [he', ho, hup]
              exact e.hears_eq q _ w (by omega)
            have h1 : e'.got.length = e.got.length + 1 := by rw [hee]; simp
            have h2 : e'.again = false := by rw [hee]
            rw [h2, if_neg (by simp), j3] at r4
            rw [if_neg (by omega), if_neg j1] at s3
            rw [if_pos (by omega)]
            omega
/-- the end -/
theorem Tk.done {now : Nat} (h : Tk L w f e now) (h0 : f.units.length = 0) : f.acked = L.length ∧ e.got = L ∧ f.state = 1 := by
  have h1 := h.dl.len
  have h2 := h.dl.le
  have h3 := h.dl.lo
  have h4 := h.dl.gle
  have h5 := h.dl.gt
  refine ⟨by omega, ?_, h.dl.st⟩
  rw [h5, List.take_of_length_le (by omega)]
theorem Tk.soon {now : Nat} (h : Tk L w f e now) (h0 : 0 < f.units.length) : now < 1000 := by
  by_cases h80 : now ≤ 80
  · omega
  · have := (h.late (by omega)).2.2
    omega
end
end Go.Proofs.Ytjiejpklcjpibaa

/- Plain laws: without progress all units are repeated, then the end stops; the window. No condition. -/
import Derived.Test.YtjiejpklcjpibaaP
namespace Go.Proofs.Ytjiejpklcjpibaa
open Go.RowKit Go.Deep Go.ChangeShapes Go.WideShapes Go.ChangeAt
set_option linter.unusedVariables false

/-- the loop of FopStops, with fuel -/
def stopsC (n k t : Nat) : Nat → Nat → FS → Nat → Bool
  | 0, _, _, _ => false
  | m + 1, now, f, many =>
    if now < (k + 2) * (t + n + 1) ∧ f.state = 1 then
      match f.next now with
      | (g, some x) => decide (x.seq = ((many % n : Nat) : Int)) && stopsC n k t m (now + 1) g (many + 1)
      | (g, none) => stopsC n k t m (now + 1) g many
    else decide (f.state = 4) && decide (many = n * (k + 1)) && decide (f.craft = 5) && decide (f.chan = 1) && decide (f.acked = 0) && decide (f.units.length = n) && f.ctls.isEmpty
def unitsI (n : Nat) : List (List UInt8) := (List.range n).map fun i => [UInt8.ofNat i]
def fs0 (n k t : Nat) : FS := { FS.new 5 1 9 t k with units := unitsI n }
def stopsAll : Bool := (List.range 5).all fun n => (List.range 6).all fun k => (List.range 7).all fun t => stopsC (n + 1) k (t + 1) 100 0 (fs0 (n + 1) k (t + 1)) 0
set_option maxRecDepth 100000 in
theorem stops_all : stopsAll = true := by kernel_rfl
theorem stops_ok {n k t : Nat} (h1 : 1 ≤ n ∧ n ≤ 5) (h2 : k ≤ 5) (h3 : 1 ≤ t ∧ t ≤ 7) : stopsC n k t 100 0 (fs0 n k t) 0 = true := by
  have h := stops_all
  unfold stopsAll at h
  simp only [List.all_eq_true, List.mem_range] at h
  have := h (n - 1) (by omega) k (by omega) (t - 1) (by omega)
  rwa [Nat.sub_add_cancel h1.1, Nat.sub_add_cancel h3.1] at this
theorem unitsI_succ (n : Nat) : unitsI (n + 1) = unitsI n ++ [[UInt8.ofNat n]] := by
  unfold unitsI
  rw [List.range_succ, List.map_append]
  rfl
theorem unitsI_length (n : Nat) : (unitsI n).length = n := by simp [unitsI]
theorem unitsI_len (n : Nat) : ∀ u ∈ unitsI n, u.length = 1 := by
  intro u hu
  unfold unitsI at hu
  obtain ⟨i, -, rfl⟩ := List.mem_map.1 hu
  rfl
/-- what New and so many Sends give -/
def fsN (n : Nat) (size tmo ret : Int) : FS := { FS.new 5 1 size tmo ret with units := unitsI n }
theorem fsN_zero (size tmo ret : Int) : fsN 0 size tmo ret = FS.new 5 1 size tmo ret := rfl
theorem fsN_ok (n : Nat) (hn : n ≤ 60) (size tmo ret : Int) : (fsN n size tmo ret).Ok := by
  refine { FS.ok_new 5 1 size tmo ret with units := Nat.zero_le _, few := ?_, len := ?_ }
  · show (unitsI n).length ≤ 256
    rw [unitsI_length]; omega
  · intro u hu
    have := unitsI_len n u hu
    omega
theorem fsN_send (n : Nat) (hn : n ≤ 60) (size tmo ret : Int) : (fsN n size tmo ret).send [UInt8.ofNat n] = (fsN (n + 1) size tmo ret, 0) := by
  unfold FS.send
  rw [if_neg (by simp), if_neg (by show ¬ 256 ≤ (unitsI n).length; rw [unitsI_length]; omega)]
  unfold fsN
  rw [unitsI_succ]
/-! ### the window -/
structure Win (n w : Nat) (f : FS) (j : Nat) : Prop where
  ok : f.Ok
  cr : f.craft = 5
  ch : f.chan = 1
  ct : f.ctls = []
  st : f.state = 1
  sz : f.size = w
  le : f.acked ≤ n
  un : f.units = (unitsI n).drop f.acked
  rt : f.ret = 255
  cn : f.count ≤ j
theorem win_start (n w : Nat) (hn : n ≤ 60) (hw : 1 ≤ w ∧ w ≤ 127) : Win n w (fsN n w 3 255) 0 := by
  refine ⟨fsN_ok n hn _ _ _, ?_, ?_, rfl, rfl, ?_, Nat.zero_le _, rfl, rfl, Nat.le_refl _⟩
  · show clampI 5 0 1023 = 5
    decide
  · show clampI 1 0 7 = 1
    decide
  · show (clampI w 1 127).toNat = w
    unfold clampI
    omega
theorem Win.len {n w j : Nat} {f : FS} (h : Win n w f j) : f.units.length = n - f.acked := by rw [h.un, List.length_drop, unitsI_length]
theorem Win.unit {n w j : Nat} {f : FS} (h : Win n w f j) (q : Nat) (hq : q < f.units.length) : f.units.getD q [] = [UInt8.ofNat (f.acked + q)] := by
  have h1 := h.len
  rw [h.un]
  unfold unitsI
  rw [List.getD_eq_getElem?_getD, List.getElem?_drop, List.getElem?_map, List.getElem?_range (by omega)]
  rfl
theorem Win.clock {n w j : Nat} {f : FS} (h : Win n w f j) (t : Int) : Win n w (f.clock t) j := ⟨FS.ok_clock h.ok t, h.cr, h.ch, h.ct, h.st, h.sz, h.le, h.un, h.rt, h.cn⟩
theorem Win.take {n w j : Nat} {f : FS} (h : Win n w f j) (hn : n ≤ 60) (hf : f.flight < min f.size f.units.length) : f.take.2 = ⟨false, false, 5, 1, ((f.acked + f.flight : Nat) : Int), [UInt8.ofNat (f.acked + f.flight)]⟩ ∧ Win n w f.take.1 j := by
  have h1 := h.len
  refine ⟨?_, FS.ok_take h.ok hf, h.cr, h.ch, h.ct, h.st, h.sz, h.le, h.un, h.rt, h.cn⟩
  unfold FS.take
  dsimp only
  rw [h.cr, h.ch, h.unit f.flight (by omega), Nat.mod_eq_of_lt (by omega)]
theorem FS.step_nil {f : FS} (h : f.ctls = []) : f.step = if f.state ≠ 1 ∨ f.units = [] then (f, none) else if f.flight < min f.size f.units.length then FS.some f.take else if f.now < f.timer + f.tmo then (f, none) else if f.count = f.ret then ({ f with state := 4 }, none) else FS.some ({ f with count := f.count + 1, flight := 0 } : FS).take := by
  unfold FS.step
  split
  · rename_i e
    rw [h] at e
    cases e
  · rfl
theorem win_next {n w j : Nat} {f : FS} (h : Win n w f j) (hj : j < 255) (hn : n ≤ 60) (t : Int) :
    Win n w (f.next t).1 (j + 1) ∧ (f.next t).1.acked = f.acked ∧ ((f.next t).2 = none ∧ (f.next t).1.front = f.front ∨ ∃ q, (f.next t).2 = some ⟨false, false, 5, 1, ((f.acked + q : Nat) : Int), [UInt8.ofNat (f.acked + q)]⟩ ∧ q < min w (n - f.acked) ∧ (f.next t).1.front = max f.front (q + 1)) := by
  obtain ⟨g, hg⟩ : ∃ g, g = f.clock t := ⟨_, rfl⟩
  have hw : Win n w g j := by rw [hg]; exact h.clock t
  have e1 : f.next t = g.step := by rw [hg]; rfl
  have e2 : g.acked = f.acked := by rw [hg]; rfl
  have e3 : g.front = f.front := by rw [hg]; rfl
  rw [e1, ← e2, ← e3]
  clear e1 e2 e3 hg h
  have hl := hw.len
  have hz := hw.sz
  have hs := hw.ok.size
  rw [FS.step_nil hw.ct]
  by_cases hu : g.state ≠ 1 ∨ g.units = []
  · rw [if_pos hu]
    exact ⟨{ hw with cn := by have := hw.cn; show g.count ≤ j + 1; omega }, rfl, .inl ⟨rfl, rfl⟩⟩
  · rw [if_neg hu]
    have hu1 : 0 < g.units.length := by
      cases e : g.units with
      | nil => simp [e] at hu
      | cons => simp
    by_cases hf : g.flight < min g.size g.units.length
    · rw [if_pos hf]
      obtain ⟨k1, k2⟩ := hw.take hn hf
      unfold FS.some
      dsimp only
      rw [k1]
      exact ⟨{ k2 with cn := by have := k2.cn; omega }, rfl, .inr ⟨g.flight, rfl, by omega, rfl⟩⟩
    · rw [if_neg hf]
      by_cases ht : g.now < g.timer + g.tmo
      · rw [if_pos ht]
        exact ⟨{ hw with cn := by have := hw.cn; show g.count ≤ j + 1; omega }, rfl, .inl ⟨rfl, rfl⟩⟩
      · rw [if_neg ht, if_neg (by have := hw.cn; have := hw.rt; omega)]
        have hw2 : Win n w { g with count := g.count + 1, flight := 0 } (j + 1) := ⟨{ hw.ok with flight := Nat.zero_le _, count := by have := hw.cn; have := hw.rt; dsimp only; omega }, hw.cr, hw.ch, hw.ct, hw.st, hw.sz, hw.le, hw.un, hw.rt, by have := hw.cn; dsimp only; omega⟩
        obtain ⟨k1, k2⟩ := hw2.take hn (by dsimp only; omega)
        unfold FS.some
        dsimp only at k1 ⊢
        rw [k1]
        exact ⟨k2, rfl, .inr ⟨0, rfl, by omega, rfl⟩⟩
theorem win_report {n w j : Nat} {f : FS} (h : Win n w f j) (hn : n ≤ 60) (hf : 0 < f.front) (t : Int) :
    (f.report ⟨1, false, false, false, 0, ((f.acked + 1 : Nat) : Int)⟩ t).2 = 0 ∧ Win n w (f.report ⟨1, false, false, false, 0, ((f.acked + 1 : Nat) : Int)⟩ t).1 j ∧ (f.report ⟨1, false, false, false, 0, ((f.acked + 1 : Nat) : Int)⟩ t).1.acked = f.acked + 1 ∧ (f.report ⟨1, false, false, false, 0, ((f.acked + 1 : Nat) : Int)⟩ t).1.front = f.front - 1 := by
  have hl := h.len
  have h3 := h.ok.units
  have hle := h.le
  have hd : (f.clock t).dist ((f.acked + 1 : Nat) : Int) = 1 := by
    unfold FS.dist
    show ((((f.acked + 1 : Nat) : Int) - (f.acked : Int)) % 256).toNat = 1
    omega
  have hc := h.clock t
  have key : f.report ⟨1, false, false, false, 0, ((f.acked + 1 : Nat) : Int)⟩ t = (((((f.clock t).ack 1).reset true).again false).hold false, 0) := by
    unfold FS.report FS.heed
    rw [if_neg, if_neg (by simp), if_neg (by rw [hd]; show ¬ f.front < 1; omega), hd]
    · rfl
    · rw [hc.ch]
      simp [Cw.valid]
      omega
  rw [key]
  refine ⟨rfl, ⟨FS.ok_hold (FS.ok_again (FS.ok_reset (FS.ok_ack hc.ok (by show 1 ≤ f.front; omega)) _) _) _, h.cr, h.ch, h.ct, ?_, h.sz, ?_, ?_, h.rt, Nat.zero_le _⟩, rfl, rfl⟩
  · unfold FS.hold FS.again FS.reset FS.ack
    dsimp only
    simp [hc.st]
  · show f.acked + 1 ≤ n
    omega
  · show (f.units).drop 1 = (unitsI n).drop (f.acked + 1)
    rw [h.un, List.drop_drop]
end Go.Proofs.Ytjiejpklcjpibaa

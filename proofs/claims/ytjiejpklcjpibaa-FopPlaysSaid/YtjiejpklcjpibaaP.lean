/- The sending end in plain lists. No condition. -/
import Derived.Test.YtjiejpklcjpibaaD
namespace Go.Proofs.Ytjiejpklcjpibaa
open Go.RowKit Go.Deep Go.ChangeShapes Go.WideShapes Go.ChangeAt
set_option linter.unusedVariables false

/-- a frame -/
structure Fm where
  byp : Bool
  ctl : Bool
  craft : Int
  chan : Int
  seq : Int
  data : List UInt8
def Fm.zero : Fm := ⟨false, false, 0, 0, 0, []⟩
def Fm.unlock (craft chan : Int) : Fm := ⟨true, true, craft, chan, 0, [0]⟩
def Fm.setNext (craft chan : Int) (n : Nat) : Fm := ⟨true, true, craft, chan, 0, [130, 0, UInt8.ofNat n]⟩
/-- a control word -/
structure Cw where
  chan : Int
  lock : Bool
  wait : Bool
  retr : Bool
  byp : Int
  next : Int
def Cw.valid (c : Cw) : Bool := decide (0 ≤ c.chan) && decide (c.chan ≤ 7) && decide (0 ≤ c.byp) && decide (c.byp ≤ 3) && decide (0 ≤ c.next) && decide (c.next ≤ 255)
/-- a sending end -/
structure FS where
  size : Nat
  units : List (List UInt8)
  acked : Nat
  flight : Nat
  front : Nat
  craft : Int
  chan : Int
  tmo : Int
  ret : Nat
  state : Nat
  ctls : List Fm
  now : Int
  timer : Int
  count : Nat
def clampI (n lo hi : Int) : Int := min (max n lo) hi
theorem clampI_bd (n lo hi : Int) (h : lo ≤ hi) : lo ≤ clampI n lo hi ∧ clampI n lo hi ≤ hi := by unfold clampI; omega
def FS.new (craft chan size tmo ret : Int) : FS := ⟨(clampI size 1 127).toNat, [], 0, 0, 0, clampI craft 0 1023, clampI chan 0 7, clampI tmo 1 1099511627776, (clampI ret 0 255).toNat, 1, [], 0, 0, 0⟩
def FS.clock (f : FS) (t : Int) : FS := { f with now := if t ≤ 1099511627776 then max f.now t else f.now }
def FS.send (f : FS) (d : List UInt8) : FS × Int :=
  if d.length < 1 ∨ 1017 < d.length then (f, 1) else if 256 ≤ f.units.length then (f, 7) else ({ f with units := f.units ++ [d] }, 0)
/-- transmits the first unit that is due -/
def FS.take (f : FS) : FS × Fm := ({ f with flight := f.flight + 1, front := max f.front (f.flight + 1), timer := f.now }, ⟨false, false, f.craft, f.chan, ((f.acked + f.flight) % 256 : Nat), f.units.getD f.flight []⟩)
def FS.some (p : FS × Fm) : FS × Option Fm := (p.1, Option.some p.2)
/-- what Next does behind the clock -/
def FS.step (f : FS) : FS × Option Fm :=
  match f.ctls with
  | x :: xs => ({ f with ctls := xs }, Option.some x)
  | [] =>
    if f.state ≠ 1 ∨ f.units = [] then (f, none)
    else if f.flight < min f.size f.units.length then FS.some f.take
    else if f.now < f.timer + f.tmo then (f, none)
    else if f.count = f.ret then ({ f with state := 4 }, none)
    else FS.some ({ f with count := f.count + 1, flight := 0 } : FS).take
def FS.next (f : FS) (t : Int) : FS × Option Fm := (f.clock t).step
/-- what Report does behind the tests -/
def FS.ack (f : FS) (d : Nat) : FS := { f with units := f.units.drop d, acked := f.acked + d, front := f.front - d, flight := f.flight - d }
def FS.reset (f : FS) (b : Bool) : FS := if b then { f with count := 0, timer := f.now } else f
def FS.again (f : FS) (b : Bool) : FS := if b then { f with flight := 0 } else f
def FS.hold (f : FS) (b : Bool) : FS := { f with state := if f.state = 1 ∨ f.state = 2 then (if b then 2 else 1) else f.state }
def FS.dist (f : FS) (n : Int) : Nat := ((n - (f.acked : Int)) % 256).toNat
def FS.heed (f : FS) (c : Cw) : FS × Int :=
  if c.valid = false ∨ c.chan ≠ f.chan then (f, 1)
  else if c.lock then ({ f with state := 3 }, 14)
  else if f.front < f.dist c.next then ({ f with state := 4 }, 12)
  else ((((f.ack (f.dist c.next)).reset (decide (0 < f.dist c.next))).again c.retr).hold c.wait, 0)
def FS.report (f : FS) (c : Cw) (t : Int) : FS × Int := (f.clock t).heed c
def FS.unlk (f : FS) : FS := { f with ctls := [Fm.unlock f.craft f.chan, Fm.setNext f.craft f.chan (f.acked % 256)], flight := 0, front := 0, count := 0, timer := f.now, state := 1 }
def FS.unlock (f : FS) (t : Int) : FS := (f.clock t).unlk
/-- the bounds -/
structure FS.Ok (f : FS) : Prop where
  size : 1 ≤ f.size ∧ f.size ≤ 127
  flight : f.flight ≤ f.front
  front : f.front ≤ f.size
  units : f.front ≤ f.units.length
  few : f.units.length ≤ 256
  len : ∀ u ∈ f.units, 1 ≤ u.length ∧ u.length ≤ 1017
  now : 0 ≤ f.now ∧ f.now ≤ 1099511627776
  timer : 0 ≤ f.timer ∧ f.timer ≤ 1099511627776
  tmo : 1 ≤ f.tmo ∧ f.tmo ≤ 1099511627776
  ret : f.ret ≤ 255
  count : f.count ≤ f.ret
  craft : 0 ≤ f.craft ∧ f.craft ≤ 1023
  chan : 0 ≤ f.chan ∧ f.chan ≤ 7
  ctls : f.ctls.length ≤ 2 ∧ ∀ x ∈ f.ctls, x.data.length ≤ 3
  state : f.state ≤ 4
theorem FS.ok_new (craft chan size tmo ret : Int) : (FS.new craft chan size tmo ret).Ok := by
  have h1 := clampI_bd size 1 127 (by omega)
  have h2 := clampI_bd craft 0 1023 (by omega)
  have h3 := clampI_bd chan 0 7 (by omega)
  have h4 := clampI_bd tmo 1 1099511627776 (by omega)
  have h5 := clampI_bd ret 0 255 (by omega)
  refine ⟨?_, ?_, ?_, ?_, ?_, ?_, ?_, ?_, ?_, ?_, ?_, ?_, ?_, ?_, ?_⟩ <;> simp only [FS.new] <;> first | omega | simp
theorem FS.ok_clock {f : FS} (h : f.Ok) (t : Int) : (f.clock t).Ok := by
  have h1 := h.now
  refine { h with now := ?_ }
  unfold FS.clock
  dsimp only
  split <;> omega
theorem FS.ok_send {f : FS} (h : f.Ok) (d : List UInt8) : (f.send d).1.Ok := by
  unfold FS.send
  split
  · exact h
  · split
    · exact h
    · rename_i h1 h2
      have h3 := h.units
      refine { h with units := ?_, few := ?_, len := ?_ }
      · simp; omega
      · simp; omega
      · intro u hu
        dsimp only at hu
        rw [List.mem_append, List.mem_singleton] at hu
        rcases hu with hu | rfl
        · exact h.len u hu
        · omega
theorem FS.ok_take {f : FS} (h : f.Ok) (hf : f.flight < min f.size f.units.length) : f.take.1.Ok := by
  have h1 := h.flight
  have h2 := h.front
  have h3 := h.units
  unfold FS.take
  refine { h with flight := ?_, front := ?_, units := ?_, timer := h.now } <;> dsimp only <;> omega
theorem FS.ok_step {f : FS} (h : f.Ok) : f.step.1.Ok := by
  unfold FS.step
  split
  · rename_i x xs e
    refine { h with ctls := ?_ }
    have := h.ctls
    rw [e] at this
    exact ⟨by have := this.1; simp only [List.length_cons] at this; show xs.length ≤ 2; omega, fun y hy => this.2 y (by simp [hy])⟩
  · split
    · exact h
    · rename_i hn
      split
      · rename_i hlt
        exact FS.ok_take h hlt
      · split
        · exact h
        · split
          · exact { h with state := by dsimp only; omega }
          · rename_i hc
            have h0 := h.size
            have h1 := h.count
            have hu : 0 < f.units.length := by
              cases e : f.units with
              | nil => simp [e] at hn
              | cons => simp
            refine FS.ok_take (f := { f with count := f.count + 1, flight := 0 }) { h with flight := Nat.zero_le _, count := by dsimp only; omega } (by dsimp only; omega)
theorem FS.ok_next {f : FS} (h : f.Ok) (t : Int) : (f.next t).1.Ok := FS.ok_step (FS.ok_clock h t)
theorem FS.ok_ack {f : FS} (h : f.Ok) {d : Nat} (hd : d ≤ f.front) : (f.ack d).Ok := by
  have h1 := h.flight
  have h2 := h.front
  have h3 := h.units
  have h4 := h.few
  unfold FS.ack
  refine { h with flight := ?_, front := ?_, units := ?_, few := ?_, len := fun u hu => h.len u (List.mem_of_mem_drop hu) } <;> dsimp only <;> (try rw [List.length_drop]) <;> omega
theorem FS.ok_reset {f : FS} (h : f.Ok) (b : Bool) : (f.reset b).Ok := by
  unfold FS.reset
  split
  · exact { h with count := Nat.zero_le _, timer := h.now }
  · exact h
theorem FS.ok_again {f : FS} (h : f.Ok) (b : Bool) : (f.again b).Ok := by
  unfold FS.again
  split
  · exact { h with flight := Nat.zero_le _ }
  · exact h
theorem FS.ok_hold {f : FS} (h : f.Ok) (b : Bool) : (f.hold b).Ok := by
  refine { h with state := ?_ }
  have := h.state
  unfold FS.hold
  dsimp only
  repeat' split
  all_goals omega
theorem FS.ok_heed {f : FS} (h : f.Ok) (c : Cw) : (f.heed c).1.Ok := by
  unfold FS.heed
  split
  · exact h
  · split
    · exact { h with state := by dsimp only; omega }
    · split
      · exact { h with state := by dsimp only; omega }
      · rename_i hd
        exact FS.ok_hold (FS.ok_again (FS.ok_reset (FS.ok_ack h (by omega)) _) _) _
theorem FS.ok_report {f : FS} (h : f.Ok) (c : Cw) (t : Int) : (f.report c t).1.Ok := FS.ok_heed (FS.ok_clock h t) c
theorem FS.ok_unlock {f : FS} (h : f.Ok) (t : Int) : (f.unlock t).Ok := by
  have h1 := FS.ok_clock h t
  have h0 := h1.size
  unfold FS.unlock FS.unlk
  refine { h1 with flight := Nat.le_refl _, front := by dsimp only; omega, units := Nat.zero_le _, count := Nat.zero_le _, timer := h1.now, ctls := ⟨by simp, ?_⟩, state := by dsimp only; omega }
  intro x hx
  simp only [List.mem_cons, List.not_mem_nil, or_false] at hx
  rcases hx with rfl | rfl <;> simp [Fm.unlock, Fm.setNext]
theorem FS.dist_le (f : FS) (n : Int) : f.dist n < 256 := by unfold FS.dist; omega
/-- what Acked becomes -/
theorem FS.acked_heed (f : FS) (c : Cw) : (f.heed c).1.acked ≤ f.acked + 255 := by
  have := f.dist_le c.next
  unfold FS.heed
  split
  · dsimp only; omega
  · split
    · dsimp only; omega
    · split
      · dsimp only; omega
      · unfold FS.hold FS.again FS.reset FS.ack
        dsimp only
        repeat' split
        all_goals (dsimp only; omega)
theorem FS.acked_step (f : FS) : f.step.1.acked = f.acked := by
  unfold FS.step FS.some FS.take
  repeat' split
  all_goals rfl
theorem FS.acked_next (f : FS) (t : Int) : (f.next t).1.acked = f.acked := FS.acked_step _
theorem FS.acked_report (f : FS) (c : Cw) (t : Int) : (f.report c t).1.acked ≤ f.acked + 255 := FS.acked_heed _ c
end Go.Proofs.Ytjiejpklcjpibaa

/- The packer in plain lists. No condition. -/
import Derived.Test.YtalghcgedmcifaaA
namespace Go.Proofs.Ytalghcgedmcifaa
open Go.RowKit Go.Deep Go.ChangeShapes Go.WideShapes Go.ChangeAt
set_option linter.unusedVariables false

/-- a packer -/
structure PS where
  size : Nat
  room : Nat
  left : Nat
  taken : Nat
  L : List (List UInt8)
  rest : List UInt8
def rightB (size : Int) : Bool := decide (1 ≤ size) && decide (size ≤ 1012)
def PS.new (size room : Int) : PS := ⟨size.toNat, (min (max room 0) 1048576).toNat, 0, 0, [], []⟩
/-- a packet that may be pushed -/
def fitB (b : List UInt8) : Bool := decide ((decP b).2.2 = 0) && decide ((decP b).2.1 = (b.length : Int)) && decide ((decP b).1.apid ≠ 2047)
def PS.push (p : PS) (b : List UInt8) : PS × Int :=
  if fitB b = false then (p, 1) else if p.room < p.left + b.length then (p, 7) else ({ p with L := p.L ++ [b], left := p.left + b.length }, 0)
def PS.take (p : PS) (most : Nat) : PS × List UInt8 :=
  match p.L with
  | [] => (p, [])
  | x :: xs => if most < x.length - p.taken then ({ p with taken := p.taken + most, left := p.left - most }, (x.drop p.taken).take most) else ({ p with L := xs, taken := 0, left := p.left - (x.length - p.taken) }, x.drop p.taken)
def firstP (p : PS) (out : List UInt8) (f : Int) : Int := if p.taken = 0 ∧ f = 2047 then (out.length : Int) else f
def PS.fill : Nat → PS → List UInt8 → Int → PS × List UInt8 × Int
  | 0, p, out, f => (p, out, f)
  | m + 1, p, out, f => if out.length < p.size ∧ p.L ≠ [] then PS.fill m (p.take (p.size - out.length)).1 (out ++ (p.take (p.size - out.length)).2) (firstP p out f) else (p, out, f)
def idleN (missing : Nat) : List UInt8 := bytesP (idlePk (max missing 7 - 6))
def PS.close (r : PS × List UInt8 × Int) : PS × List UInt8 × Int :=
  if r.2.1.length < r.1.size then ({ r.1 with rest := (idleN (r.1.size - r.2.1.length)).drop (r.1.size - r.2.1.length) }, r.2.1 ++ (idleN (r.1.size - r.2.1.length)).take (r.1.size - r.2.1.length), if r.2.2 = 2047 then (r.2.1.length : Int) else r.2.2) else r
def PS.begin (p : PS) : PS := { p with rest := p.rest.drop (min p.rest.length p.size) }
def PS.next (p : PS) : PS × Option (List UInt8 × Int) :=
  if p.left = 0 then (p, none) else
    let r := PS.close (PS.fill (p.L.length + 1) p.begin (p.rest.take (min p.rest.length p.size)) 2047)
    (r.1, some r.2)
def PS.ready (p : PS) : Bool := decide (0 < p.left) && decide (p.size ≤ p.rest.length + p.left)
/-- the bounds -/
structure PS.Ok (p : PS) : Prop where
  size : 1 ≤ p.size ∧ p.size ≤ 1012
  room : p.room ≤ 1048576
  left : p.left + p.taken = p.L.flatten.length
  most : p.left ≤ p.room
  taken : ∀ x xs, p.L = x :: xs → p.taken < x.length
  none : p.L = [] → p.taken = 0
  each : ∀ x ∈ p.L, 7 ≤ x.length ∧ x.length ≤ 4096
  rest : p.rest.length ≤ 6
theorem flat_len {L : List (List UInt8)} (h : ∀ x ∈ L, 7 ≤ x.length ∧ x.length ≤ 4096) : 7 * L.length ≤ L.flatten.length := by
  induction L with
  | nil => simp
  | cons x xs ih =>
    have h1 := ih fun y hy => h y (by simp [hy])
    have h2 := (h x (by simp)).1
    simp only [List.length_cons, List.flatten_cons, List.length_append]
    omega
theorem PS.Ok.few {p : PS} (h : p.Ok) : p.L.length ≤ 200000 := by
  have h1 := flat_len h.each
  have h2 := h.left
  have h3 := h.most
  have h4 := h.room
  have h5 : p.taken ≤ 4096 := by
    cases e : p.L with
    | nil => have := h.none e; omega
    | cons x xs =>
      have := h.taken x xs e
      have := (h.each x (by simp [e])).2
      omega
  omega
theorem PS.ok_new {size room : Int} (h : rightB size = true) : (PS.new size room).Ok := by
  unfold rightB at h
  simp only [Bool.and_eq_true, decide_eq_true_eq] at h
  unfold PS.new
  refine ⟨?_, ?_, rfl, Nat.zero_le _, ?_, fun _ => rfl, ?_, ?_⟩
  · dsimp only; omega
  · dsimp only; omega
  · intro x xs e; cases e
  · intro x hx; cases hx
  · exact Nat.zero_le _
theorem fit_len {b : List UInt8} (h : fitB b = true) : 7 ≤ b.length ∧ b.length ≤ 4096 := by
  unfold fitB at h
  simp only [Bool.and_eq_true, decide_eq_true_eq] at h
  obtain ⟨⟨h1, h2⟩, -⟩ := h
  obtain ⟨p, n, e, hd⟩ : ∃ p n e, decP b = (p, n, e) := ⟨_, _, _, rfl⟩
  rw [hd] at h1 h2
  dsimp only at h1 h2
  subst h1
  obtain ⟨k1, k2, k3, k4⟩ := enc_dec b p n hd
  have h3 := congrArg List.length k4
  rw [bytesP_length, h2] at h3
  simp at h3
  have := (validB_iff p).1 k1
  omega
theorem PS.ok_push {p : PS} (h : p.Ok) (b : List UInt8) : (p.push b).1.Ok := by
  unfold PS.push
  split
  · exact h
  · rename_i hf
    split
    · exact h
    · rename_i hr
      have hb := fit_len (by simpa using hf)
      have hl := h.left
      refine { h with left := ?_, most := ?_, taken := ?_, none := ?_, each := ?_ }
      · have : (p.L ++ [b]).flatten.length = p.L.flatten.length + b.length := by rw [List.flatten_append, List.length_append]; simp
        dsimp only
        omega
      · dsimp only; omega
      · intro x xs e
        dsimp only at e ⊢
        cases hL : p.L with
        | nil =>
          rw [hL] at e
          simp at e
          have := h.none hL
          rw [this, ← e.1]
          omega
        | cons y ys =>
          rw [hL] at e
          simp at e
          rw [← e.1]
          exact h.taken y ys hL
      · intro e; simp at e
      · intro x hx
        dsimp only at hx
        rw [List.mem_append, List.mem_singleton] at hx
        rcases hx with hx | rfl
        · exact h.each x hx
        · exact hb
theorem PS.ok_take {p : PS} (h : p.Ok) (most : Nat) : (p.take most).1.Ok := by
  unfold PS.take
  split
  · exact h
  · rename_i x xs e
    have h1 := h.taken x xs e
    have h2 := h.left
    rw [e, List.flatten_cons, List.length_append] at h2
    have h3 := h.most
    have h4 := h.each x (by rw [e]; simp)
    split
    · rename_i hm
      refine { h with left := ?_, most := ?_, taken := ?_, none := ?_ }
      · dsimp only; rw [e, List.flatten_cons, List.length_append]; omega
      · dsimp only; omega
      · intro y ys e2
        dsimp only at e2 ⊢
        rw [e] at e2
        cases e2
        omega
      · intro e2; dsimp only at e2; rw [e] at e2; cases e2
    · rename_i hm
      refine { h with left := ?_, most := ?_, taken := ?_, none := ?_, each := ?_ }
      · dsimp only; omega
      · dsimp only; omega
      · intro y ys e2
        dsimp only at e2 ⊢
        have := h.each y (by rw [e, e2]; simp)
        omega
      · intro _; rfl
      · intro y hy
        exact h.each y (by rw [e]; exact List.mem_cons_of_mem _ hy)
theorem PS.take_size (p : PS) (m : Nat) : (p.take m).1.size = p.size ∧ (p.take m).1.rest = p.rest ∧ (p.take m).1.room = p.room := by
  unfold PS.take
  split
  · exact ⟨rfl, rfl, rfl⟩
  · split <;> exact ⟨rfl, rfl, rfl⟩
theorem PS.ok_fill (m : Nat) : ∀ {p : PS} (h : p.Ok) (out : List UInt8) (f : Int), (PS.fill m p out f).1.Ok ∧ (PS.fill m p out f).1.size = p.size ∧ (PS.fill m p out f).1.rest = p.rest := by
  induction m with
  | zero => intro p h out f; exact ⟨h, rfl, rfl⟩
  | succ m ih =>
    intro p h out f
    unfold PS.fill
    split
    · obtain ⟨k1, k2, k3⟩ := ih (PS.ok_take h (p.size - out.length)) (out ++ (p.take (p.size - out.length)).2) (firstP p out f)
      obtain ⟨e1, e2, -⟩ := p.take_size (p.size - out.length)
      exact ⟨k1, k2.trans e1, k3.trans e2⟩
    · exact ⟨h, rfl, rfl⟩
theorem idleN_len (m : Nat) : (idleN m).length = max m 7 := by
  unfold idleN
  rw [bytesP_length]
  simp [idlePk]
  omega
theorem PS.ok_begin {p : PS} (h : p.Ok) : p.begin.Ok := by
  refine { h with rest := ?_ }
  unfold PS.begin
  have := h.rest
  simp
  omega
theorem PS.ok_close {r : PS × List UInt8 × Int} (h : r.1.Ok) : (PS.close r).1.Ok := by
  unfold PS.close
  split
  · rename_i hl
    refine { h with rest := ?_ }
    simp only [List.length_drop, idleN_len]
    omega
  · exact h
theorem PS.ok_next {p : PS} (h : p.Ok) : p.next.1.Ok := by
  unfold PS.next
  split
  · exact h
  · exact PS.ok_close (PS.ok_fill _ (PS.ok_begin h) _ _).1
end Go.Proofs.Ytalghcgedmcifaa

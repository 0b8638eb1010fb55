/- The recorder in plain lists. No condition. -/
import Derived.Test.YtnojmkmmfiahgaaO
namespace Go.Proofs.Ytnojmkmmfiahgaa
open Go.RowKit Go.Deep Go.ChangeShapes Go.WideShapes Go.ChangeAt
set_option linter.unusedVariables false

/-- a packet -/
structure En where
  time : Int
  data : List UInt8
  want : Bool
/-- a store -/
structure St where
  id : Int
  room : Int
  prio : Int
  circ : Bool
  L : List En
  drop : Nat
instance : Inhabited En := ⟨⟨0, [], false⟩⟩
instance : Inhabited St := ⟨⟨0, 0, 0, false, [], 0⟩⟩
structure RS where
  now : Int
  stores : List St
def lvl : List En → Nat
  | [] => 0
  | x :: xs => x.data.length + lvl xs
theorem lvl_append (a b : List En) : lvl (a ++ b) = lvl a + lvl b := by
  induction a with
  | nil => simp [lvl]
  | cons x xs ih => simp only [List.cons_append, lvl, ih]; omega
/-- the oldest packets make room -/
def shed (n : Nat) (room : Int) : List En → Nat → List En × Nat
  | [], d => ([], d)
  | x :: xs, d => if room < (lvl (x :: xs) + n : Nat) then shed n room xs (d + 1) else (x :: xs, d)
def St.add (s : St) (now : Int) (b : List UInt8) : St × Int :=
  if b.length < 1 ∨ 4096 < b.length then (s, 1)
  else if s.room < (b.length : Int) ∨ s.circ = false ∧ s.room < (lvl s.L + b.length : Nat) then (s, 7)
  else ({ s with L := (shed b.length s.room s.L s.drop).1 ++ [⟨now, b, false⟩], drop := (shed b.length s.room s.L s.drop).2 }, 0)
def St.mark (s : St) (t u : Int) : St := { s with L := s.L.map fun x => { x with want := x.want || (decide (t ≤ x.time) && decide (x.time ≤ u)) } }
def St.cut (s : St) (t : Int) : St := { s with L := s.L.dropWhile fun x => decide (x.time < t) }
/-- the oldest packet that is requested -/
def St.first (s : St) : Option Nat := s.L.findIdx? (·.want)
def St.take (s : St) (k : Nat) : St := { s with L := s.L.set k { s.L[k]! with want := false } }
def RS.tick (r : RS) (now : Int) : RS := { r with now := if now ≤ 1099511627776 then max r.now now else r.now }
def RS.find (r : RS) (id : Int) : Option Nat := r.stores.findIdx? (fun s => s.id == id)
def RS.put (r : RS) (i : Nat) (s : St) : RS := { r with stores := r.stores.set i s }
def RS.add (r : RS) (id now : Int) (b : List UInt8) : RS × Int :=
  match (r.tick now).find id with
  | none => (r.tick now, 8)
  | some i => ((r.tick now).put i (((r.tick now).stores[i]!).add (r.tick now).now b).1, (((r.tick now).stores[i]!).add (r.tick now).now b).2)
def RS.replay (r : RS) (id t u : Int) : RS × Int :=
  match r.find id with
  | none => (r, 8)
  | some i => if t < 0 ∨ u < t ∨ 1099511627776 < u then (r, 10) else (r.put i ((r.stores[i]!).mark t u), 0)
def RS.delete (r : RS) (id t : Int) : RS × Int :=
  match r.find id with
  | none => (r, 8)
  | some i => if t < 0 ∨ 1099511627776 < t then (r, 10) else (r.put i ((r.stores[i]!).cut t), 0)
def RS.level (r : RS) (id : Int) : Int :=
  match r.find id with
  | none => 0
  | some i => (lvl (r.stores[i]!).L : Int)
def RS.dropped (r : RS) (id : Int) : Int :=
  match r.find id with
  | none => 0
  | some i => ((r.stores[i]!).drop : Int)
/-- the store whose packet comes next: of the lowest priority number, the first of these -/
def St.beats (s : St) : Option (Nat × Int) → Bool
  | none => true
  | some q => decide (s.prio < q.2)
def bestFrom : List St → Nat → Option (Nat × Int) → Option (Nat × Int)
  | [], _, at_ => at_
  | s :: ss, i, at_ => bestFrom ss (i + 1) (if (s.first.isSome && s.beats at_) = true then some (i, s.prio) else at_)
def RS.best (r : RS) : Option Nat := (bestFrom r.stores 0 none).map (·.1)
def RS.next (r : RS) : RS × Option (List UInt8) :=
  match r.best with
  | none => (r, none)
  | some i =>
    match (r.stores[i]!).first with
    | none => (r, none)
    | some k => (r.put i ((r.stores[i]!).take k), some (((r.stores[i]!).L[k]!).data))
/-- the bounds -/
structure St.Ok (s : St) : Prop where
  id : 0 ≤ s.id ∧ s.id ≤ 65535
  room : 0 ≤ s.room ∧ s.room ≤ 2147483648
  prio : 0 ≤ s.prio ∧ s.prio ≤ 15
  lvl : (lvl s.L : Int) ≤ s.room
  each : ∀ x ∈ s.L, 1 ≤ x.data.length ∧ x.data.length ≤ 4096
  time : ∀ x ∈ s.L, 0 ≤ x.time ∧ x.time ≤ 1099511627776
structure RS.Ok (r : RS) : Prop where
  now : 0 ≤ r.now ∧ r.now ≤ 1099511627776
  few : r.stores.length ≤ 256
  each : ∀ s ∈ r.stores, s.Ok
theorem lvl_len {L : List En} (h : ∀ x ∈ L, 1 ≤ x.data.length ∧ x.data.length ≤ 4096) : L.length ≤ lvl L := by
  induction L with
  | nil => simp [lvl]
  | cons x xs ih =>
    have h1 := ih fun y hy => h y (by simp [hy])
    have h2 := (h x (by simp)).1
    simp only [List.length_cons, lvl]
    omega
theorem shed_sub (n : Nat) (room : Int) : ∀ (L : List En) (d : Nat), ∃ k, k ≤ L.length ∧ shed n room L d = (L.drop k, d + k) ∧ ((n : Int) ≤ room → (lvl (L.drop k) + n : Nat) ≤ room) := by
  intro L
  induction L with
  | nil => intro d; exact ⟨0, Nat.le_refl _, rfl, fun h => by simp [lvl]; omega⟩
  | cons x xs ih =>
    intro d
    unfold shed
    split
    · obtain ⟨k, h1, h2, h3⟩ := ih (d + 1)
      exact ⟨k + 1, by simp; omega, by rw [h2]; simp; omega, fun h => by simpa using h3 h⟩
    · rename_i hn
      exact ⟨0, Nat.zero_le _, rfl, fun h => by simpa using Int.not_lt.1 hn⟩
theorem St.ok_add {s : St} (h : s.Ok) {now : Int} (hn : 0 ≤ now ∧ now ≤ 1099511627776) (b : List UInt8) : (s.add now b).1.Ok := by
  unfold St.add
  split
  · exact h
  · split
    · exact h
    · rename_i h1 h2
      obtain ⟨k, h3, h4, h5⟩ := shed_sub b.length s.room s.L s.drop
      have h6 := h5 (by omega)
      refine { h with lvl := ?_, each := ?_, time := ?_ }
      · dsimp only
        rw [h4, lvl_append]
        simp only [Go.Proofs.Ytnojmkmmfiahgaa.lvl]
        omega
      · intro x hx
        dsimp only at hx
        rw [h4, List.mem_append, List.mem_singleton] at hx
        rcases hx with hx | rfl
        · exact h.each x (List.mem_of_mem_drop hx)
        · dsimp only; omega
      · intro x hx
        dsimp only at hx
        rw [h4, List.mem_append, List.mem_singleton] at hx
        rcases hx with hx | rfl
        · exact h.time x (List.mem_of_mem_drop hx)
        · exact hn
theorem lvl_map {L : List En} {f : En → En} (h : ∀ x ∈ L, (f x).data = x.data) : lvl (L.map f) = lvl L := by
  induction L with
  | nil => rfl
  | cons x xs ih => simp only [List.map_cons, lvl, ih fun y hy => h y (by simp [hy]), h x (by simp)]
theorem St.ok_mark {s : St} (h : s.Ok) (t u : Int) : (s.mark t u).Ok := by
  refine { h with lvl := ?_, each := ?_, time := ?_ }
  · show ((Go.Proofs.Ytnojmkmmfiahgaa.lvl (s.L.map _) : Nat) : Int) ≤ s.room
    rw [lvl_map (f := fun x : En => ({ x with want := x.want || (decide (t ≤ x.time) && decide (x.time ≤ u)) } : En)) (fun x _ => rfl)]
    exact h.lvl
  · intro x hx
    obtain ⟨y, hy, rfl⟩ := List.mem_map.1 hx
    exact h.each y hy
  · intro x hx
    obtain ⟨y, hy, rfl⟩ := List.mem_map.1 hx
    exact h.time y hy
theorem dropWhile_drop {α : Type} (p : α → Bool) : ∀ l : List α, ∃ k, k ≤ l.length ∧ l.dropWhile p = l.drop k
  | [] => ⟨0, Nat.le_refl _, rfl⟩
  | x :: xs => by
    by_cases h : p x = true
    · obtain ⟨k, h1, h2⟩ := dropWhile_drop p xs
      exact ⟨k + 1, by simp; omega, by rw [List.dropWhile_cons_of_pos h, h2]; rfl⟩
    · exact ⟨0, Nat.zero_le _, by rw [List.dropWhile_cons_of_neg h]; rfl⟩
theorem lvl_drop (L : List En) (k : Nat) : lvl (L.drop k) ≤ lvl L := by
  have := congrArg lvl (List.take_append_drop k L)
  rw [lvl_append] at this
  omega
theorem St.ok_cut {s : St} (h : s.Ok) (t : Int) : (s.cut t).Ok := by
  obtain ⟨k, -, e⟩ := dropWhile_drop (fun x : En => decide (x.time < t)) s.L
  unfold St.cut
  rw [e]
  refine { h with lvl := ?_, each := fun x hx => h.each x (List.mem_of_mem_drop hx), time := fun x hx => h.time x (List.mem_of_mem_drop hx) }
  have := lvl_drop s.L k
  have := h.lvl
  show ((Go.Proofs.Ytnojmkmmfiahgaa.lvl (s.L.drop k) : Nat) : Int) ≤ s.room
  omega
theorem lvl_set {L : List En} {k : Nat} {y : En} (hk : k < L.length) (h : y.data = L[k].data) : lvl (L.set k y) = lvl L := by
  induction L generalizing k with
  | nil => simp at hk
  | cons x xs ih =>
    cases k with
    | zero => simp only [List.set_cons_zero, lvl]; rw [h]; rfl
    | succ k => simp only [List.set_cons_succ, lvl]; rw [ih (by simpa using hk) (by simpa using h)]
theorem St.ok_take {s : St} (h : s.Ok) {k : Nat} (hk : k < s.L.length) : (s.take k).Ok := by
  have e : s.L[k]! = s.L[k] := by simp [hk]
  unfold St.take
  rw [e]
  refine { h with lvl := ?_, each := ?_, time := ?_ }
  · show ((Go.Proofs.Ytnojmkmmfiahgaa.lvl (s.L.set k _) : Nat) : Int) ≤ s.room
    rw [lvl_set (y := { s.L[k] with want := false }) hk rfl]
    exact h.lvl
  · intro x hx
    rcases List.mem_or_eq_of_mem_set hx with h1 | rfl
    · exact h.each x h1
    · exact h.each s.L[k] (List.getElem_mem hk)
  · intro x hx
    rcases List.mem_or_eq_of_mem_set hx with h1 | rfl
    · exact h.time x h1
    · exact h.time s.L[k] (List.getElem_mem hk)
theorem RS.ok_tick {r : RS} (h : r.Ok) (now : Int) : (r.tick now).Ok := by
  refine { h with now := ?_ }
  have := h.now
  unfold RS.tick
  dsimp only
  split <;> omega
theorem RS.ok_put {r : RS} (h : r.Ok) {i : Nat} {s : St} (hs : s.Ok) : (r.put i s).Ok := by
  refine { h with few := ?_, each := ?_ }
  · show (r.stores.set i s).length ≤ 256
    rw [List.length_set]
    exact h.few
  · intro x hx
    rcases List.mem_or_eq_of_mem_set hx with h1 | rfl
    · exact h.each x h1
    · exact hs
theorem RS.find_lt {r : RS} {id : Int} {i : Nat} (h : r.find id = some i) : i < r.stores.length := by
  unfold RS.find at h
  exact (List.findIdx?_eq_some_iff_getElem.1 h).1
theorem RS.ok_at {r : RS} (h : r.Ok) {i : Nat} (hi : i < r.stores.length) : (r.stores[i]!).Ok := by
  have e : r.stores[i]! = r.stores[i] := by simp [hi]
  rw [e]
  exact h.each _ (List.getElem_mem hi)
theorem RS.ok_add {r : RS} (h : r.Ok) (id now : Int) (b : List UInt8) : (r.add id now b).1.Ok := by
  have h1 := RS.ok_tick h now
  unfold RS.add
  split
  · exact h1
  · rename_i i hi
    exact RS.ok_put h1 (St.ok_add (RS.ok_at h1 (RS.find_lt hi)) h1.now b)
theorem RS.ok_replay {r : RS} (h : r.Ok) (id t u : Int) : (r.replay id t u).1.Ok := by
  unfold RS.replay
  split
  · exact h
  · rename_i i hi
    split
    · exact h
    · exact RS.ok_put h (St.ok_mark (RS.ok_at h (RS.find_lt hi)) t u)
theorem RS.ok_delete {r : RS} (h : r.Ok) (id t : Int) : (r.delete id t).1.Ok := by
  unfold RS.delete
  split
  · exact h
  · rename_i i hi
    split
    · exact h
    · exact RS.ok_put h (St.ok_cut (RS.ok_at h (RS.find_lt hi)) t)
theorem St.first_lt {s : St} {k : Nat} (h : s.first = some k) : k < s.L.length := by
  unfold St.first at h
  exact (List.findIdx?_eq_some_iff_getElem.1 h).1
theorem bestFrom_lt : ∀ (l : List St) (i : Nat) (a : Option (Nat × Int)) (q : Nat × Int), bestFrom l i a = some q → a = some q ∨ i ≤ q.1 ∧ q.1 < i + l.length := by
  intro l
  induction l with
  | nil => intro i a q h; exact .inl h
  | cons s ss ih =>
    intro i a q h
    unfold bestFrom at h
    rcases ih _ _ _ h with h1 | h1
    · by_cases hc : (s.first.isSome && s.beats a) = true
      · rw [if_pos hc] at h1; cases h1; right; simp
      · rw [if_neg hc] at h1; exact .inl h1
    · right; simp; omega
theorem RS.best_lt {r : RS} {i : Nat} (h : r.best = some i) : i < r.stores.length := by
  unfold RS.best at h
  obtain ⟨q, hq, rfl⟩ := Option.map_eq_some_iff.1 h
  rcases bestFrom_lt _ _ _ _ hq with h1 | h1
  · cases h1
  · omega
theorem RS.ok_next {r : RS} (h : r.Ok) : r.next.1.Ok := by
  unfold RS.next
  split
  · exact h
  · rename_i i hi
    split
    · exact h
    · rename_i k hk
      exact RS.ok_put h (St.ok_take (RS.ok_at h (RS.best_lt hi)) (St.first_lt hk))
end Go.Proofs.Ytnojmkmmfiahgaa

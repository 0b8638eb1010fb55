/- Units in memory; find, none, side, check. No condition. -/
import Derived.Test.YtgfloeclepmdlaaI
import Derived.Lib.SliceRun
import Derived.Deep.RegionHeld3
namespace Go.Proofs.Ytgfloeclepmdlaa
open Go.RowKit Go.Deep Go.ChangeShapes Go.WideShapes Go.ChangeAt
set_option linter.unusedVariables false

/-- a unit -/
structure U where
  id : Int
  side : Int
  f0 : Bool
  f1 : Bool
def U.cells (u : U) : List Value := [.int .i64 u.id, .int .i64 u.side, .bool u.f0, .bool u.f1]
def rowC (us : List U) : List Value := us.flatMap U.cells
theorem rowC_length (us : List U) : (rowC us).length = us.length * 4 := by
  induction us with
  | nil => rfl
  | cons u us ih => simp only [rowC, List.flatMap_cons, List.length_append, List.length_cons] at ih ⊢; rw [ih]; simp [U.cells]; omega
theorem rowC_get (us : List U) (rest : List Value) {i : Nat} (hi : i < us.length) {j : Nat} (hj : j < 4) : (rowC us ++ rest)[i * 4 + j]? = (us[i]).cells[j]? := by
  induction us generalizing i with
  | nil => simp at hi
  | cons u us ih =>
    cases i with
    | zero =>
      have h : j < u.cells.length := by simpa [U.cells] using hj
      simp only [rowC, List.flatMap_cons, List.append_assoc, Nat.zero_mul, Nat.zero_add, List.getElem_cons_zero]
      rw [List.getElem?_append_left h]
    | succ k =>
      have h1 := ih (i := k) (by simpa using hi)
      have h : u.cells.length = 4 := rfl
      simp only [rowC, List.flatMap_cons, List.append_assoc, List.getElem_cons_succ] at h1 ⊢
      rw [List.getElem?_append_right (by omega), h, show (k + 1) * 4 + j - 4 = k * 4 + j by omega]
      exact h1
theorem rowC_set (us : List U) (rest : List Value) {i : Nat} (hi : i < us.length) {j : Nat} (hj : j < 4) (v : Value) (u' : U) (hu : (us[i]).cells.set j v = u'.cells) : (rowC us ++ rest).set (i * 4 + j) v = rowC (us.set i u') ++ rest := by
  induction us generalizing i with
  | nil => simp at hi
  | cons u us ih =>
    have h : u.cells.length = 4 := rfl
    cases i with
    | zero =>
      simp only [rowC, List.flatMap_cons, List.append_assoc, Nat.zero_mul, Nat.zero_add, List.set_cons_zero] at hu ⊢
      rw [List.set_append_left _ _ (by omega)]
      simp only [List.getElem_cons_zero] at hu
      rw [hu]
    | succ k =>
      have h1 := ih (i := k) (by simpa using hi) (by simpa using hu)
      simp only [rowC, List.flatMap_cons, List.append_assoc, List.set_cons_succ] at h1 ⊢
      rw [List.set_append_right _ _ (by omega), h, show (k + 1) * 4 + j - 4 = k * 4 + j by omega, h1]
/-- the units lie in block g from its start on -/
def RowB (w : World) (g : Nat) (T : TypeId) (us : List U) : Prop := ∃ rest, Blk w g T (rowC us ++ rest)
section
variable {w w' : World} {g : Nat} {T : TypeId} {us : List U}
theorem RowB.lt (h : RowB w g T us) : g < w.heap.size := by obtain ⟨r, h⟩ := h; exact h.lt
theorem RowB.free (h : RowB w g T us) (i : Nat) : w.frozen? ⟨g, i, none⟩ = false := by obtain ⟨r, h⟩ := h; exact h.free i
theorem RowB.at (h : RowB w g T us) {i : Nat} (hi : i < us.length) : w.cell? ⟨g, i * 4, none⟩ = some (.int .i64 us[i].id) ∧ w.cell? ⟨g, i * 4 + 1, none⟩ = some (.int .i64 us[i].side) ∧ w.cell? ⟨g, i * 4 + 2, none⟩ = some (.bool us[i].f0) ∧ w.cell? ⟨g, i * 4 + 3, none⟩ = some (.bool us[i].f1) := by
  obtain ⟨r, h⟩ := h
  exact ⟨(h.cell _).trans (rowC_get us r hi (j := 0) (by omega)), (h.cell _).trans (rowC_get us r hi (j := 1) (by omega)), (h.cell _).trans (rowC_get us r hi (j := 2) (by omega)), (h.cell _).trans (rowC_get us r hi (j := 3) (by omega))⟩
theorem RowB.alloc (h : RowB w g T us) (o : Obj) : RowB (w.alloc o) g T us := by obtain ⟨r, h⟩ := h; exact ⟨r, h.alloc o⟩
theorem RowB.below {B : Nat} (h : RowB w g T us) (hf : Below B w w') (hB : w.heap.size ≤ B) : RowB w' g T us := by obtain ⟨r, h⟩ := h; exact ⟨r, h.below hf hB⟩
theorem RowB.fr {S : Nat → Prop} (h : RowB w g T us) (hf : Fr S w w') (hs : ¬ S g) : RowB w' g T us := by obtain ⟨r, h⟩ := h; exact ⟨r, h.fr hf hs⟩
theorem RowB.setOther (h : RowB w g T us) {p : Addr} (hp : p.block ≠ g) (v : Value) : RowB (w.setCell p v) g T us := by obtain ⟨r, h⟩ := h; exact ⟨r, h.setOther hp v⟩
theorem RowB.set (h : RowB w g T us) {i : Nat} (hi : i < us.length) {j : Nat} (hj : j < 4) (v : Value) (u' : U) (hu : (us[i]).cells.set j v = u'.cells) : RowB (w.setCell ⟨g, i * 4 + j, none⟩ v) g T (us.set i u') := by
  obtain ⟨r, h⟩ := h
  exact ⟨r, (h.setCell _ v).cast (rowC_set us r hi hj v u' hu)⟩
/-- a row that append has made -/
theorem RowB.of_own {base cap n : Nat} (h : w.ownsRow base T 4 (.slice (some ⟨g, 0, none⟩) n cap) us.length (rowC us)) : RowB w g T us := by
  rcases h.2 with ⟨h1, -⟩ | ⟨g', cap', cur, h1, -, h2, -, -, -, h3⟩
  · cases h1
  · obtain ⟨h4, -, -⟩ := Value.slice.inj h1
    cases h4
    refine ⟨cur.toList.drop (us.length * 4), ?_⟩
    unfold Blk
    rw [h2, ← h3, List.take_append_drop]
end
/-- the place of a unit -/
def pos (us : List U) (id : Int) : Option Nat := us.findIdx? (fun u => u.id == id)
theorem pos_some {us : List U} {id : Int} {i : Nat} (hi : i < us.length) (h : us[i].id = id) (hj : ∀ j (hj : j < us.length), j < i → us[j].id ≠ id) : pos us id = some i := by
  unfold pos
  rw [List.findIdx?_eq_some_iff_getElem]
  exact ⟨hi, by simp [h], fun j hji => by simp [hj j (by omega) hji]⟩
theorem pos_none {us : List U} {id : Int} (h : ∀ j (hj : j < us.length), us[j].id ≠ id) : pos us id = none := by
  unfold pos
  rw [List.findIdx?_eq_none_iff]
  intro u hu
  obtain ⟨i, hi, rfl⟩ := List.getElem_of_mem hu
  simpa using h i hi
theorem pos_lt {us : List U} {id : Int} {i : Nat} (h : pos us id = some i) : i < us.length := by
  unfold pos at h
  rw [List.findIdx?_eq_some_iff_getElem] at h
  exact h.1
/-- units that New returned -/
structure UAt (w : World) (b g cap : Nat) (us : List U) : Prop where
  box : Blk w b 57 [.slice (some ⟨g, 0, none⟩) us.length cap]
  row : RowB w g 60 us
  ne : b ≠ g
  len : us.length ≤ 256
theorem UAt.below {w w' : World} {b g cap : Nat} {us : List U} (h : UAt w b g cap us) {B : Nat} (hf : Below B w w') (hB : w.heap.size ≤ B) : UAt w' b g cap us := ⟨h.box.below hf hB, h.row.below hf hB, h.ne, h.len⟩
theorem UAt.alloc {w : World} {b g cap : Nat} {us : List U} (h : UAt w b g cap us) (o : Obj) : UAt (w.alloc o) b g cap us := ⟨h.box.alloc o, h.row.alloc o, h.ne, h.len⟩
theorem UAt.fr {w w' : World} {b g cap : Nat} {us : List U} {S : Nat → Prop} (h : UAt w b g cap us) (hf : Fr S w w') (h1 : ¬ S b) (h2 : ¬ S g) : UAt w' b g cap us := ⟨h.box.fr hf h1, h.row.fr hf h2, h.ne, h.len⟩
theorem eqlN (a : Option Addr) (n c : Nat) (w : World) : (binOp .eql 55 (.slice a n c) (.slice none 0 0)).run Try.prog w = .ok (.bool a.isNone) w := Lib.run_eql_slice_nil w 55 60 a n c 0 0 Try.underlying55
set_option maxRecDepth 20000 in
theorem none_any {w : World} {b g cap : Nat} {us : List U} (h : UAt w b g cap us) : Calls Try.prog 25 #[.pointer (some ⟨b, 0, none⟩)] w fun e w' => e = .returned (.bool false) ∧ w' = w := by
  have c0 := h.box.at 0 rfl
  have hb := h.box.lt
  have e1 := eqlN (some ⟨g, 0, none⟩) us.length cap w
  clear h
  go_enter Try.func25, Try.ntmps25
  go_wp2_with fail
  go_ret
  exact ⟨rfl, rfl⟩
theorem none_nil (w : World) : Calls Try.prog 25 #[.pointer none] w fun e w' => e = .returned (.bool true) ∧ w' = w := by
  go_enter Try.func25, Try.ntmps25
  go_wp2_with fail
  go_ret
  exact ⟨rfl, rfl⟩
def sideB (n : Int) : Bool := n == 0 || n == 1
theorem side_any (n : Int) (w : World) : Calls Try.prog 28 #[.int .i64 n] w fun e w' => e = .returned (.bool (sideB n)) ∧ w' = w := by
  by_cases h0 : n = 0
  · have e0 : (n == 0) = true := by rw [h0]; rfl
    go_enter Try.func28, Try.ntmps28
    go_wp2_with fail
    go_ret
    exact ⟨ret_bool (by simp [sideB, h0]), rfl⟩
  · have e0 : (n == 0) = false := by rw [beq_eq_false_iff_ne]; exact h0
    go_enter Try.func28, Try.ntmps28
    go_wp2_with fail
    go_ret
    exact ⟨ret_bool (by simp [sideB, e0]), rfl⟩
/-- a pointer to the unit -/
def ptr (g : Nat) : Option Nat → Value
  | some i => .pointer (some ⟨g, i * 4, none⟩)
  | none => .pointer none
set_option maxRecDepth 20000 in
set_option maxHeartbeats 2000000 in
theorem find_any {w : World} {b g cap : Nat} {us : List U} (id : Int) (h : UAt w b g cap us) : Calls Try.prog 29 #[.pointer (some ⟨b, 0, none⟩), .int .i64 id] w fun e w' => e = .returned (ptr g (pos us id)) ∧ w' = w := by
  have c0 := h.box.at 0 rfl
  have hb := h.box.lt
  have H := Lib.hid h
  have hl := h.len
  clear h
  go_enter Try.func29, Try.ntmps29
  go_wp2_with fail
  refine (none_any H.out).mono ?_
  rintro e w2 ⟨rfl, rfl⟩
  go_wp2_with fail
  go_loopw [13] (fun i wr => ∃ k : Nat, k ≤ us.length ∧ i = .int .i64 k ∧ wr = w2 ∧ ∀ j (hj : j < us.length), j < k → us[j].id ≠ id) (fun i _ => us.length - (intOf i).toNat)
  case atStart => exact ⟨0, by omega, rfl, rfl, fun j hj h => by omega⟩
  case round =>
    obtain ⟨k, hk, rfl, rfl, hj⟩ := hrel
    have HJ := Lib.hid hj
    clear hj
    by_cases hlt : k < us.length
    · obtain ⟨r0, -⟩ := H.out.row.at hlt
      have hk0 : (0 : Int) ≤ (k : Int) := by omega
      have hk1 : (k : Int) < (us.length : Int) := by omega
      by_cases hid : us[k].id = id
      · have HP := Lib.hid (pos_some hlt hid (fun j h1 h2 => HJ.out j h1 h2))
        rw [hid] at r0
        clear hid
        go_wp2_with fail
        go_ret
        rw [HP.out]
        first | exact ⟨rfl, rfl⟩ | exact ⟨trivial, rfl⟩
      · have e0 : (us[k].id == id) = false := by rw [beq_eq_false_iff_ne]; exact hid
        have HI := Lib.hid hid
        clear hid
        go_wp2_with fail
        go_roundw
        case rel => exact ⟨k + 1, by omega, by go_num, (by first | rfl | trivial), fun j h1 h2 => by
          rcases Nat.lt_or_ge j k with h3 | h3
          · exact HJ.out j h1 h3
          · obtain rfl : j = k := by omega
            exact HI.out⟩
        case measure => simp [intOf]; omega
    · have hk1 : ¬ (k : Int) < (us.length : Int) := by omega
      have HP := Lib.hid (pos_none (fun j h1 => HJ.out j h1 (by omega)))
      go_wp2_with fail
      go_ret
      rw [HP.out]
      first | exact ⟨rfl, rfl⟩ | exact ⟨trivial, rfl⟩
end Go.Proofs.Ytgfloeclepmdlaa

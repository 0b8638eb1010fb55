/- Eight units: what the calls of UnitsWork make of them. No condition. -/
import Derived.Test.YtgfloeclepmdlaaR
namespace Go.Proofs.Ytgfloeclepmdlaa
open Go.RowKit Go.Deep Go.ChangeShapes Go.WideShapes Go.ChangeAt
set_option linter.unusedVariables false

/-- the units 0 to 7 with sides and flags -/
def usG (sd : Nat → Int) (fl : Nat → Bool) : List U := (List.range 8).map fun (i : Nat) => ⟨(i : Int), sd i, fl (2 * i), fl (2 * i + 1)⟩
def upN {α : Type} (f : Nat → α) (k : Nat) (v : α) (j : Nat) : α := if j = k then v else f j
theorem usG_fresh : ([0, 1, 2, 3, 4, 5, 6, 7] : List Int).map fresh = usG (fun _ => 0) (fun _ => false) := by rfl
theorem usG_pos (sd : Nat → Int) (fl : Nat → Bool) {u : Nat} (hu : u < 8) : pos (usG sd fl) u = some u := by
  match u, hu with
  | 0, _ => rfl
  | 1, _ => rfl
  | 2, _ => rfl
  | 3, _ => rfl
  | 4, _ => rfl
  | 5, _ => rfl
  | 6, _ => rfl
  | 7, _ => rfl
theorem usG_get (sd : Nat → Int) (fl : Nat → Bool) {u : Nat} (hu : u < 8) : (usG sd fl)[u]? = some ⟨(u : Int), sd u, fl (2 * u), fl (2 * u + 1)⟩ := by
  unfold usG
  rw [List.getElem?_map, List.getElem?_range hu]; rfl
theorem usG_fail (sd : Nat → Int) (fl : Nat → Bool) {u n : Nat} (hu : u < 8) (hn : n < 2) : failS (usG sd fl) u n = (usG sd (upN fl (2 * u + n) true), 0) := by
  match n, hn with
  | 0, _ =>
    match u, hu with
    | 0, _ => rfl
    | 1, _ => rfl
    | 2, _ => rfl
    | 3, _ => rfl
    | 4, _ => rfl
    | 5, _ => rfl
    | 6, _ => rfl
    | 7, _ => rfl
  | 1, _ =>
    match u, hu with
    | 0, _ => rfl
    | 1, _ => rfl
    | 2, _ => rfl
    | 3, _ => rfl
    | 4, _ => rfl
    | 5, _ => rfl
    | 6, _ => rfl
    | 7, _ => rfl
theorem usG_set (sd : Nat → Int) (fl : Nat → Bool) {u : Nat} (hu : u < 8) (n : Int) : setU (usG sd fl) u (fun x => { x with side := n }) = usG (upN sd u n) fl := by
  match u, hu with
  | 0, _ => rfl
  | 1, _ => rfl
  | 2, _ => rfl
  | 3, _ => rfl
  | 4, _ => rfl
  | 5, _ => rfl
  | 6, _ => rfl
  | 7, _ => rfl
theorem usG_fld (sd : Nat → Int) (fl : Nat → Bool) {u n : Nat} (hu : u < 8) (hn : n < 2) : fld (usG sd fl) u n = fl (2 * u + n) := by
  unfold fld
  rw [usG_get sd fl hu]
  match n, hn with
  | 0, _ => rfl
  | 1, _ => rfl
theorem usG_switch (sd : Nat → Int) (fl : Nat → Bool) {u n : Nat} (hu : u < 8) (hn : n < 2) : switchS (usG sd fl) u n = if fl (2 * u + n) = true then (usG sd fl, 16) else (usG (upN sd u n) fl, 0) := by
  have hs : sideB (n : Int) = true := by match n, hn with
    | 0, _ => rfl
    | 1, _ => rfl
  cases h : fl (2 * u + n)
  · rw [switch_ok (usG_pos sd fl hu) hs (by rw [usG_fld sd fl hu hn, h]), usG_set sd fl hu]; rfl
  · rw [switch_dead (usG_pos sd fl hu) hs (by rw [usG_fld sd fl hu hn, h])]; rfl
theorem usG_active (sd : Nat → Int) (fl : Nat → Bool) {u : Nat} (hu : u < 8) : activeS (usG sd fl) u = (sd u, 0) := by
  unfold activeS
  rw [usG_pos sd fl hu]
  simp only
  rw [usG_get sd fl hu]
theorem usG_work (sd : Nat → Int) (fl : Nat → Bool) {u : Nat} (hu : u < 8) : workS (usG sd fl) u = !(if sd u = 0 then fl (2 * u) else fl (2 * u + 1)) := by
  unfold workS
  rw [usG_pos sd fl hu]
  simp only
  rw [usG_get sd fl hu]
  rfl
theorem usG_ok {sd : Nat → Int} (fl : Nat → Bool) (h : ∀ j, sd j = 0 ∨ sd j = 1) : SideOk (usG sd fl) := by
  intro u hu
  obtain ⟨i, -, rfl⟩ := List.mem_map.1 hu
  exact h i
theorem inB_broken (us : List U) (id : Int) : inB (brokenS us) id = us.any (fun u => u.dead && u.id == id) := by
  unfold inB brokenS
  rw [List.any_map, List.any_filter]
  rfl
theorem usG_in (sd : Nat → Int) (fl : Nat → Bool) {u : Nat} (hu : u < 8) : inB (brokenS (usG sd fl)) u = !workS (usG sd fl) u := by
  rw [inB_broken, usG_work sd fl hu, Bool.not_not]
  match u, hu with
  | 0, _ => simp [usG, List.range, List.range.loop, U.dead]
  | 1, _ => simp [usG, List.range, List.range.loop, U.dead]
  | 2, _ => simp [usG, List.range, List.range.loop, U.dead]
  | 3, _ => simp [usG, List.range, List.range.loop, U.dead]
  | 4, _ => simp [usG, List.range, List.range.loop, U.dead]
  | 5, _ => simp [usG, List.range, List.range.loop, U.dead]
  | 6, _ => simp [usG, List.range, List.range.loop, U.dead]
  | 7, _ => simp [usG, List.range, List.range.loop, U.dead]
theorem restore_same {us : List U} (h : SideOk us) : restoreS us (sidesS us) = (us, 0) := by
  have hb : badI (sidesS us) = none := badI_none (fun j hj => by
    have hj' : j < us.length := by simpa [sidesS] using hj
    have e : (sidesS us)[j] = us[j].side := by simp [sidesS]
    rw [e]
    rcases h _ (List.getElem_mem hj') with e | e <;> rw [e] <;> rfl)
  unfold restoreS
  rw [if_neg (by rw [hb]; simp [sidesS])]
  have e : resU us (sidesS us) (sidesS us).length = us := by
    apply List.ext_getElem (resU_length _ _ _)
    intro i h1 h2
    rw [resU_get us _ _ h2, if_pos (by simp [sidesS]; exact h2)]
    simp [sidesS, h2]
  rw [e]
theorem ok8 : okD [0, 1, 2, 3, 4, 5, 6, 7] := by
  refine ⟨by decide, fun k hk => ?_⟩
  match k, hk with
  | 0, _ => simp [badK]
  | 1, _ => simp [badK]
  | 2, _ => simp [badK]
  | 3, _ => simp [badK]
  | 4, _ => simp [badK]
  | 5, _ => simp [badK]
  | 6, _ => simp [badK]
  | 7, _ => simp [badK]
/-- the flags that the first k failures set -/
def flK (l : List UInt8) (k j : Nat) : Bool := (l.take k).any (fun f => f.toNat % 16 == j)
theorem flK_succ {l : List UInt8} {k : Nat} (hk : k < l.length) : flK l (k + 1) = upN (flK l k) (l[k].toNat % 16) true := by
  funext j
  unfold flK upN
  rw [List.take_succ_eq_append_getElem hk, List.any_append]
  by_cases h : j = l[k].toNat % 16
  · rw [if_pos h]; simp [h]
  · rw [if_neg h]; simp; omega
theorem split16 (f : UInt8) : ∃ u n : Nat, u < 8 ∧ n < 2 ∧ 2 * u + n = f.toNat % 16 ∧ IntKind.i64.wrap ((IntKind.i64.wrap ((f.toNat : Int).tmod 16)).tdiv 2) = (u : Int) ∧ IntKind.i64.wrap ((f.toNat : Int).tmod 2) = (n : Int) ∧ (f.toNat : Int) % 16 / 2 = (u : Int) ∧ (f.toNat : Int) % 2 = (n : Int) := by
  have hf := f.toNat_lt
  have e16 : (f.toNat : Int).tmod 16 = ((f.toNat % 16 : Nat) : Int) := by rw [Int.tmod_eq_emod_of_nonneg (by omega)]; omega
  have e2 : (f.toNat : Int).tmod 2 = ((f.toNat % 2 : Nat) : Int) := by rw [Int.tmod_eq_emod_of_nonneg (by omega)]; omega
  refine ⟨f.toNat % 16 / 2, f.toNat % 2, by omega, by omega, by omega, ?_, ?_, by omega, by omega⟩
  · have e17 : IntKind.i64.wrap ((f.toNat % 16 : Nat) : Int) = ((f.toNat % 16 : Nat) : Int) := IntWalk.i64_in _ (by omega)
    rw [e16, e17]
    have e : ((f.toNat % 16 : Nat) : Int).tdiv 2 = ((f.toNat % 16 / 2 : Nat) : Int) := by rw [Int.tdiv_eq_ediv_of_nonneg (by omega)]; omega
    rw [e, IntWalk.i64_in _ (by omega)]
  · rw [e2, IntWalk.i64_in _ (by omega)]
theorem tmod16 (f t : UInt8) : ((f.toNat : Int).tmod 16 == (t.toNat : Int).tmod 16) = (f.toNat % 16 == t.toNat % 16) := by
  have e : ∀ x : Nat, (x : Int).tmod 16 = ((x % 16 : Nat) : Int) := fun x => by rw [Int.tmod_eq_emod_of_nonneg (by omega)]; omega
  rw [e, e]
  by_cases h : f.toNat % 16 = t.toNat % 16
  · rw [h]; simp
  · rw [beq_eq_false_iff_ne.2 h, beq_eq_false_iff_ne]; omega
theorem flK_or {l : List UInt8} {k : Nat} (hk : k < l.length) (j : Nat) : flK l (k + 1) j = (flK l k j || l[k].toNat % 16 == j) := by
  unfold flK
  rw [List.take_succ_eq_append_getElem hk, List.any_append]
  simp
theorem usG_work2 (sd : Nat → Int) (fl : Nat → Bool) {u n : Nat} (hu : u < 8) (hn : n < 2) (hf : fl (2 * u + n) = false) : workS (usG (upN sd u n) fl) u = true := by
  rw [usG_work _ fl hu]
  match n, hn with
  | 0, _ => simp [upN]; simpa using hf
  | 1, _ => simp [upN, hf]
end Go.Proofs.Ytgfloeclepmdlaa

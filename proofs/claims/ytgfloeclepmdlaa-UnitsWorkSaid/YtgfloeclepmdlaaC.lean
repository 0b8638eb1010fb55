/- Active, Working, Sides, Broken. No condition. -/
import Derived.Test.YtgfloeclepmdlaaB
import Derived.BigQuiet
import Derived.Deep.QuietTactic
namespace Go.Proofs.Ytgfloeclepmdlaa
open Go.RowKit Go.Deep Go.ChangeShapes Go.WideShapes Go.ChangeAt
set_option linter.unusedVariables false

def activeS (us : List U) (id : Int) : Int × Int := match pos us id with | none => (0, 8) | some i => match us[i]? with | some u => (u.side, 0) | none => (0, 8)
def U.dead (u : U) : Bool := if u.side = 0 then u.f0 else u.f1
def workS (us : List U) (id : Int) : Bool := match pos us id with | none => false | some i => match us[i]? with | some u => !u.dead | none => false
def SideOk (us : List U) : Prop := ∀ u ∈ us, u.side = 0 ∨ u.side = 1
theorem active_any {w : World} {b g cap : Nat} {us : List U} (id : Int) (h : UAt w b g cap us) : Calls Try.prog 15 #[.pointer (some ⟨b, 0, none⟩), .int .i64 id] w fun e w' => e = .returned (.tuple #[.int .i64 (activeS us id).1, .int .i64 (activeS us id).2]) ∧ w' = w := by
  have H := Lib.hid h
  clear h
  cases hp : pos us id with
  | none =>
    rw [show activeS us id = (0, 8) by simp [activeS, hp]]
    go_enter Try.func15, Try.ntmps15
    go_wp2_with fail
    refine (check_any id 0 H.out).mono ?_
    rintro e w2 ⟨rfl, rfl⟩
    rw [chk_none 0 hp]
    simp only [ptr]
    go_wp2_with fail
    go_ret2
    first | exact ⟨rfl, rfl⟩ | exact ⟨trivial, rfl⟩
  | some i =>
    have hi := pos_lt hp
    obtain ⟨r0, r1, r2, r3⟩ := H.out.row.at hi
    rw [show activeS us id = (us[i].side, 0) by simp [activeS, hp, hi]]
    go_enter Try.func15, Try.ntmps15
    go_wp2_with fail
    refine (check_any id 0 H.out).mono ?_
    rintro e w2 ⟨rfl, rfl⟩
    rw [chk_ok hp (by rfl)]
    simp only [ptr]
    go_wp2_with fail
    go_ret2
    first | exact ⟨rfl, rfl⟩ | exact ⟨trivial, rfl⟩
set_option maxRecDepth 20000 in
set_option maxHeartbeats 2000000 in
theorem working_any {w : World} {b g cap : Nat} {us : List U} (id : Int) (h : UAt w b g cap us) (ok : SideOk us) : Calls Try.prog 16 #[.pointer (some ⟨b, 0, none⟩), .int .i64 id] w fun e w' => e = .returned (.bool (workS us id)) ∧ Quiet w w' := by
  have H := Lib.hid h
  clear h
  cases hp : pos us id with
  | none =>
    rw [show workS us id = false by simp [workS, hp]]
    go_enter Try.func16, Try.ntmps16
    go_wp2_with fail
    refine (find_any id H.out).mono ?_
    rintro e w2 ⟨rfl, rfl⟩
    rw [hp]
    simp only [ptr]
    go_wp2_with fail
    obtain ⟨q1, q2, q3, q4⟩ := sums 0 (by omega)
    go_quiet (fail)
    go_wp2_with fail
    go_ret
    exact ⟨rfl, _, rfl⟩
  | some i =>
    have hi := pos_lt hp
    obtain ⟨r0, r1, r2, r3⟩ := H.out.row.at hi
    have hs := ok _ (List.getElem_mem hi)
    rw [show workS us id = !(us[i].dead) by simp [workS, hp, hi]]
    rcases hs with hs | hs
    · rw [show us[i].dead = us[i].f0 by simp [U.dead, hs]]
      rw [hs] at r1
      go_enter Try.func16, Try.ntmps16
      go_wp2_with fail
      refine (find_any id H.out).mono ?_
      rintro e w2 ⟨rfl, rfl⟩
      rw [hp]
      simp only [ptr]
      go_wp2_with fail
      obtain ⟨q1, q2, q3, q4⟩ := sums 0 (by omega)
      go_quiet (fail)
      go_wp2_with fail
      go_ret
      exact ⟨rfl, _, rfl⟩
    · rw [show us[i].dead = us[i].f1 by simp [U.dead, hs]]
      rw [hs] at r1
      go_enter Try.func16, Try.ntmps16
      go_wp2_with fail
      refine (find_any id H.out).mono ?_
      rintro e w2 ⟨rfl, rfl⟩
      rw [hp]
      simp only [ptr]
      go_wp2_with fail
      obtain ⟨q1, q2, q3, q4⟩ := sums 0 (by omega)
      go_quiet (fail)
      go_wp2_with fail
      go_ret
      exact ⟨rfl, _, rfl⟩
end Go.Proofs.Ytgfloeclepmdlaa

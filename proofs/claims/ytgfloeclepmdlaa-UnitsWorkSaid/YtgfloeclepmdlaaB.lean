/- check, Switch, Fail, Active, Working. No condition. -/
import Derived.Test.YtgfloeclepmdlaaA
namespace Go.Proofs.Ytgfloeclepmdlaa
open Go.RowKit Go.Deep Go.ChangeShapes Go.WideShapes Go.ChangeAt
set_option linter.unusedVariables false

def chk (us : List U) (id n : Int) : Option Nat × Int :=
  match pos us id with
  | none => (none, 8)
  | some i => if sideB n = true then (some i, 0) else (none, 1)
theorem chk_none {us : List U} {id : Int} (n : Int) (h : pos us id = none) : chk us id n = (none, 8) := by simp [chk, h]
theorem chk_bad {us : List U} {id n : Int} {i : Nat} (h : pos us id = some i) (hs : sideB n = false) : chk us id n = (none, 1) := by simp [chk, h, hs]
theorem chk_ok {us : List U} {id n : Int} {i : Nat} (h : pos us id = some i) (hs : sideB n = true) : chk us id n = (some i, 0) := by simp [chk, h, hs]
theorem check_any {w : World} {b g cap : Nat} {us : List U} (id n : Int) (h : UAt w b g cap us) : Calls Try.prog 24 #[.pointer (some ⟨b, 0, none⟩), .int .i64 id, .int .i64 n] w fun e w' => e = .returned (.tuple #[ptr g (chk us id n).1, .int .i64 (chk us id n).2]) ∧ w' = w := by
  have H := Lib.hid h
  clear h
  cases hp : pos us id with
  | none =>
    rw [chk_none n hp]
    go_enter Try.func24, Try.ntmps24
    go_wp2_with fail
    refine (find_any id H.out).mono ?_
    rintro e w2 ⟨rfl, rfl⟩
    rw [hp]
    simp only [ptr]
    go_wp2_with fail
    refine (none_any H.out).mono ?_
    rintro e w2 ⟨rfl, rfl⟩
    go_wp2_with fail
    go_ret2
    first | exact ⟨rfl, rfl⟩ | exact ⟨trivial, rfl⟩
  | some i =>
    cases hs : sideB n
    · rw [chk_bad hp hs]
      go_enter Try.func24, Try.ntmps24
      go_wp2_with fail
      refine (find_any id H.out).mono ?_
      rintro e w2 ⟨rfl, rfl⟩
      rw [hp]
      simp only [ptr]
      go_wp2_with fail
      refine (none_any H.out).mono ?_
      rintro e w2 ⟨rfl, rfl⟩
      go_wp2_with fail
      refine (side_any n _).mono ?_
      rintro e w2 ⟨rfl, rfl⟩
      go_wp2_with fail
      go_ret2
      first | exact ⟨rfl, rfl⟩ | exact ⟨trivial, rfl⟩
    · rw [chk_ok hp hs]
      go_enter Try.func24, Try.ntmps24
      go_wp2_with fail
      refine (find_any id H.out).mono ?_
      rintro e w2 ⟨rfl, rfl⟩
      rw [hp]
      simp only [ptr]
      go_wp2_with fail
      refine (none_any H.out).mono ?_
      rintro e w2 ⟨rfl, rfl⟩
      go_wp2_with fail
      refine (side_any n _).mono ?_
      rintro e w2 ⟨rfl, rfl⟩
      go_wp2_with fail
      go_ret2
      first | exact ⟨rfl, rfl⟩ | exact ⟨trivial, rfl⟩
/-- one unit changed -/
def setU (us : List U) (i : Nat) (f : U → U) : List U := match us[i]? with | some u => us.set i (f u) | none => us
theorem setU_lt {us : List U} {i : Nat} (hi : i < us.length) (f : U → U) : setU us i f = us.set i (f us[i]) := by simp [setU, hi]
theorem setU_length (us : List U) (i : Nat) (f : U → U) : (setU us i f).length = us.length := by unfold setU; split <;> simp
def fld (us : List U) (i : Nat) (n : Int) : Bool := match us[i]? with | some u => if n = 0 then u.f0 else u.f1 | none => false
def switchS (us : List U) (id n : Int) : List U × Int :=
  match pos us id with
  | none => (us, 8)
  | some i => if sideB n = false then (us, 1) else if fld us i n = true then (us, 16) else (setU us i (fun u => { u with side := n }), 0)
def failS (us : List U) (id n : Int) : List U × Int :=
  match pos us id with
  | none => (us, 8)
  | some i => if sideB n = false then (us, 1) else (setU us i (fun u => if n = 0 then { u with f0 := true } else { u with f1 := true }), 0)
theorem sideB_cases {n : Int} (h : sideB n = true) : n = 0 ∨ n = 1 := by
  unfold sideB at h
  rcases Bool.or_eq_true_iff.1 h with h | h
  · exact .inl (by simpa using h)
  · exact .inr (by simpa using h)
/-- what a changing call leaves -/
def UQ (w : World) (b g cap : Nat) (r : List U × Int) (e : Ending) (w' : World) : Prop := e = .returned (.int .i64 r.2) ∧ UAt w' b g cap r.1 ∧ Fr (fun k => k = g) w w'
theorem UAt.set {w : World} {b g cap : Nat} {us : List U} (h : UAt w b g cap us) {i : Nat} (hi : i < us.length) {j : Nat} (hj : j < 4) (v : Value) (f : U → U) (hu : (us[i]).cells.set j v = (f us[i]).cells) :
    UAt (w.setCell ⟨g, i * 4 + j, none⟩ v) b g cap (setU us i f) := by
  rw [setU_lt hi]
  exact ⟨(h.box.setOther (p := ⟨g, _, none⟩) h.ne.symm v).cast (by simp), h.row.set hi hj v _ hu, h.ne, by simpa using h.len⟩
theorem switch_none {us : List U} {id : Int} (n : Int) (h : pos us id = none) : switchS us id n = (us, 8) := by simp [switchS, h]
theorem switch_bad {us : List U} {id n : Int} {i : Nat} (h : pos us id = some i) (hs : sideB n = false) : switchS us id n = (us, 1) := by simp [switchS, h, hs]
theorem switch_dead {us : List U} {id n : Int} {i : Nat} (h : pos us id = some i) (hs : sideB n = true) (hf : fld us i n = true) : switchS us id n = (us, 16) := by simp [switchS, h, hs, hf]
theorem switch_ok {us : List U} {id n : Int} {i : Nat} (h : pos us id = some i) (hs : sideB n = true) (hf : fld us i n = false) : switchS us id n = (setU us i (fun u => { u with side := n }), 0) := by simp [switchS, h, hs, hf]
theorem fail_none {us : List U} {id : Int} (n : Int) (h : pos us id = none) : failS us id n = (us, 8) := by simp [failS, h]
theorem fail_bad {us : List U} {id n : Int} {i : Nat} (h : pos us id = some i) (hs : sideB n = false) : failS us id n = (us, 1) := by simp [failS, h, hs]
theorem fail_ok0 {us : List U} {id : Int} {i : Nat} (h : pos us id = some i) : failS us id 0 = (setU us i (fun u => { u with f0 := true }), 0) := by simp [failS, h, sideB]
theorem fail_ok1 {us : List U} {id : Int} {i : Nat} (h : pos us id = some i) : failS us id 1 = (setU us i (fun u => { u with f1 := true }), 0) := by simp [failS, h, sideB]
set_option maxRecDepth 20000 in
set_option maxHeartbeats 2000000 in
theorem switch_any {w : World} {b g cap : Nat} {us : List U} (id n : Int) (h : UAt w b g cap us) : Calls Try.prog 14 #[.pointer (some ⟨b, 0, none⟩), .int .i64 id, .int .i64 n] w (UQ w b g cap (switchS us id n)) := by
  have H := Lib.hid h
  clear h
  unfold UQ
  cases hp : pos us id with
  | none =>
    rw [switch_none n hp]
    go_enter Try.func14, Try.ntmps14
    go_wp2_with fail
    refine (check_any id n H.out).mono ?_
    rintro e w2 ⟨rfl, rfl⟩
    rw [chk_none n hp]
    simp only [ptr]
    go_wp2_with fail
    go_ret
    exact ⟨rfl, H.out, Fr.refl _ _⟩
  | some i =>
    have hi := pos_lt hp
    obtain ⟨r0, r1, r2, r3⟩ := H.out.row.at hi
    have hg := H.out.row.lt
    have hfz := H.out.row.free
    have hlen := H.out.len
    cases hs : sideB n
    · rw [switch_bad hp hs]
      clear r0 r1 r2 r3
      go_enter Try.func14, Try.ntmps14
      go_wp2_with fail
      refine (check_any id n H.out).mono ?_
      rintro e w2 ⟨rfl, rfl⟩
      rw [chk_bad hp hs]
      simp only [ptr]
      go_wp2_with fail
      go_ret
      exact ⟨rfl, H.out, Fr.refl _ _⟩
    · rcases sideB_cases hs with rfl | rfl
      · cases hf : us[i].f0
        · rw [switch_ok hp hs (by simp [fld, hi, hf])]
          rw [hf] at r2
          have HS := Lib.hid (H.out.set hi (j := 1) (by omega) (.int .i64 0) (fun u => { u with side := 0 }) rfl)
          have hfz := hfz (i * 4 + 1)
          go_enter Try.func14, Try.ntmps14
          go_wp2_with fail
          refine (check_any id 0 H.out).mono ?_
          rintro e w2 ⟨rfl, rfl⟩
          rw [chk_ok hp hs]
          simp only [ptr]
          go_wp2_with fail
          go_ret
          exact ⟨rfl, HS.out, (Fr.refl _ _).set1 _ (by exact .inl rfl)⟩
        · rw [switch_dead hp hs (by simp [fld, hi, hf])]
          rw [hf] at r2
          go_enter Try.func14, Try.ntmps14
          go_wp2_with fail
          refine (check_any id 0 H.out).mono ?_
          rintro e w2 ⟨rfl, rfl⟩
          rw [chk_ok hp hs]
          simp only [ptr]
          go_wp2_with fail
          go_ret
          exact ⟨rfl, H.out, Fr.refl _ _⟩
      · cases hf : us[i].f1
        · rw [switch_ok hp hs (by simp [fld, hi, hf])]
          rw [hf] at r3
          have HS := Lib.hid (H.out.set hi (j := 1) (by omega) (.int .i64 1) (fun u => { u with side := 1 }) rfl)
          have hfz := hfz (i * 4 + 1)
          go_enter Try.func14, Try.ntmps14
          go_wp2_with fail
          refine (check_any id 1 H.out).mono ?_
          rintro e w2 ⟨rfl, rfl⟩
          rw [chk_ok hp hs]
          simp only [ptr]
          go_wp2_with fail
          go_ret
          exact ⟨rfl, HS.out, (Fr.refl _ _).set1 _ (by exact .inl rfl)⟩
        · rw [switch_dead hp hs (by simp [fld, hi, hf])]
          rw [hf] at r3
          go_enter Try.func14, Try.ntmps14
          go_wp2_with fail
          refine (check_any id 1 H.out).mono ?_
          rintro e w2 ⟨rfl, rfl⟩
          rw [chk_ok hp hs]
          simp only [ptr]
          go_wp2_with fail
          go_ret
          exact ⟨rfl, H.out, Fr.refl _ _⟩
set_option maxRecDepth 20000 in
set_option maxHeartbeats 2000000 in
theorem fail_any {w : World} {b g cap : Nat} {us : List U} (id n : Int) (h : UAt w b g cap us) : Calls Try.prog 8 #[.pointer (some ⟨b, 0, none⟩), .int .i64 id, .int .i64 n] w (UQ w b g cap (failS us id n)) := by
  have H := Lib.hid h
  clear h
  unfold UQ
  cases hp : pos us id with
  | none =>
    rw [fail_none n hp]
    go_enter Try.func8, Try.ntmps8
    go_wp2_with fail
    refine (check_any id n H.out).mono ?_
    rintro e w2 ⟨rfl, rfl⟩
    rw [chk_none n hp]
    simp only [ptr]
    go_wp2_with fail
    go_ret
    exact ⟨rfl, H.out, Fr.refl _ _⟩
  | some i =>
    have hi := pos_lt hp
    obtain ⟨r0, r1, r2, r3⟩ := H.out.row.at hi
    have hg := H.out.row.lt
    have hfz := H.out.row.free
    have hlen := H.out.len
    cases hs : sideB n
    · rw [fail_bad hp hs]
      clear r0 r1 r2 r3
      go_enter Try.func8, Try.ntmps8
      go_wp2_with fail
      refine (check_any id n H.out).mono ?_
      rintro e w2 ⟨rfl, rfl⟩
      rw [chk_bad hp hs]
      simp only [ptr]
      go_wp2_with fail
      go_ret
      exact ⟨rfl, H.out, Fr.refl _ _⟩
    · rcases sideB_cases hs with rfl | rfl
      · rw [fail_ok0 hp]
        have HS := Lib.hid (H.out.set hi (j := 2) (by omega) (.bool true) (fun u => { u with f0 := true }) rfl)
        have hfz := hfz (i * 4 + 2)
        go_enter Try.func8, Try.ntmps8
        go_wp2_with fail
        refine (check_any id 0 H.out).mono ?_
        rintro e w2 ⟨rfl, rfl⟩
        rw [chk_ok hp hs]
        simp only [ptr]
        go_wp2_with fail
        go_ret
        exact ⟨rfl, HS.out, (Fr.refl _ _).set1 _ (by exact .inl rfl)⟩
      · rw [fail_ok1 hp]
        have HS := Lib.hid (H.out.set hi (j := 3) (by omega) (.bool true) (fun u => { u with f1 := true }) rfl)
        have hfz := hfz (i * 4 + 3)
        go_enter Try.func8, Try.ntmps8
        go_wp2_with fail
        refine (check_any id 1 H.out).mono ?_
        rintro e w2 ⟨rfl, rfl⟩
        rw [chk_ok hp hs]
        simp only [ptr]
        go_wp2_with fail
        go_ret
        exact ⟨rfl, HS.out, (Fr.refl _ _).set1 _ (by exact .inl rfl)⟩
end Go.Proofs.Ytgfloeclepmdlaa

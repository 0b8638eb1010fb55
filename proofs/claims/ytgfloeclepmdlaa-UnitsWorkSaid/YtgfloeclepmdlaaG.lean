/- The reference: Find, Switch, Fail, Sides, Broken, Restore, Ints. No condition. -/
import Derived.Test.YtgfloeclepmdlaaF
namespace Go.Proofs.Ytgfloeclepmdlaa
open Go.RowKit Go.Deep Go.ChangeShapes Go.WideShapes Go.ChangeAt
set_option linter.unusedVariables false

/-- the reference's units -/
def RAt (w : World) (a : Option Addr) (us : List U) : Prop := us.length ≤ 256 ∧ (us = [] ∨ ∃ g, a = some ⟨g, 0, none⟩ ∧ RowB w g 67 us)
def rblk (a : Option Addr) (n k : Nat) : Prop := 0 < n ∧ ∃ p, a = some p ∧ k = p.block
theorem RAt.get {w : World} {a : Option Addr} {us : List U} (h : RAt w a us) {i : Nat} (hi : i < us.length) : ∃ g, a = some ⟨g, 0, none⟩ ∧ RowB w g 67 us := h.2.resolve_left (fun e => by rw [e] at hi; simp at hi)
theorem RAt.below {w w' : World} {a : Option Addr} {us : List U} (h : RAt w a us) {B : Nat} (hf : Below B w w') (hB : w.heap.size ≤ B) : RAt w' a us := ⟨h.1, h.2.imp id fun ⟨g, e, h⟩ => ⟨g, e, h.below hf hB⟩⟩
theorem RAt.fr {w w' : World} {a : Option Addr} {us : List U} {S : Nat → Prop} (h : RAt w a us) (hf : Fr S w w') (hs : ∀ k, rblk a us.length k → ¬ S k) : RAt w' a us := by
  refine ⟨h.1, ?_⟩
  rcases Nat.eq_zero_or_pos us.length with h0 | h0
  · exact .inl (List.length_eq_zero_iff.1 h0)
  · exact h.2.imp id fun ⟨g, e, h⟩ => ⟨g, e, h.fr hf (hs g ⟨h0, _, e, rfl⟩)⟩
/-- the block of the reference's units is none of the program's -/
theorem RAt.sep {w : World} {a : Option Addr} {us : List U} {b k : Nat} {T : TypeId} {xs : List Value} (h : RAt w a us) (hk : rblk a us.length k) (hb : Blk w b T xs) (hT : T ≠ 67) : k ≠ b ∧ k < w.heap.size := by
  obtain ⟨h0, p, hp, rfl⟩ := hk
  obtain ⟨g, e, r, hr⟩ := h.get h0
  rw [hp] at e
  cases e
  refine ⟨fun e => ?_, hr.lt⟩
  subst e
  unfold Blk at hr hb
  rw [hr] at hb
  cases hb
  exact hT rfl
theorem RAt.set {w : World} {g : Nat} {us : List U} (h : RowB w g 67 us) (hl : us.length ≤ 256) {i : Nat} (hi : i < us.length) {j : Nat} (hj : j < 4) (v : Value) (f : U → U) (hu : (us[i]).cells.set j v = (f us[i]).cells) :
    RAt (w.setCell ⟨g, i * 4 + j, none⟩ v) (some ⟨g, 0, none⟩) (setU us i f) := by
  rw [setU_lt hi]
  exact ⟨by simpa using hl, .inr ⟨g, rfl, h.set hi hj v _ hu⟩⟩
set_option maxRecDepth 20000 in
set_option maxHeartbeats 2000000 in
theorem rfind_any {w : World} {a : Option Addr} {us : List U} (c : Nat) (id : Int) (h : RAt w a us) : Calls Try.prog 30 #[.slice a us.length c, .int .i64 id] w fun e w' => e = .returned (.int .i64 (idxI (pos us id))) ∧ w' = w := by
  have H := Lib.hid h
  have hl := h.1
  clear h
  go_enter Try.func30, Try.ntmps30
  go_wp2_with fail
  go_loopw [5] (fun i wr => ∃ k : Nat, k ≤ us.length ∧ i = .int .i64 k ∧ wr = w ∧ ∀ j (hj : j < us.length), j < k → us[j].id ≠ id) (fun i _ => us.length - (intOf i).toNat)
  case atStart => exact ⟨0, by omega, rfl, rfl, fun j hj h => by omega⟩
  case round =>
    obtain ⟨k, hk, rfl, rfl, hj⟩ := hrel
    have HJ := Lib.hid hj
    clear hj
    by_cases hlt : k < us.length
    · obtain ⟨g, rfl, hR⟩ := H.out.get hlt
      obtain ⟨r0, -⟩ := hR.at hlt
      have hk0 : (0 : Int) ≤ (k : Int) := by omega
      have hk1 : (k : Int) < (us.length : Int) := by omega
      clear hR
      by_cases hid : us[k].id = id
      · have HP := Lib.hid (pos_some hlt hid (fun j h1 h2 => HJ.out j h1 h2))
        rw [hid] at r0
        clear hid
        go_wp2_with fail
        go_ret
        rw [HP.out]
        first | exact ⟨rfl, rfl⟩ | exact ⟨trivial, rfl⟩
      · have e0 : (us[k].id == id) = false := by rw [beq_eq_false_iff_ne]; exact hid
        have HI := Lib.hid hid
        clear hid
        go_wp2_with fail
        go_roundw
        case rel => exact ⟨k + 1, by omega, by go_num, (by first | rfl | trivial), fun j h1 h2 => by
          rcases Nat.lt_or_ge j k with h3 | h3
          · exact HJ.out j h1 h3
          · obtain rfl : j = k := by omega
            exact HI.out⟩
        case measure => simp [intOf]; omega
    · have hk1 : ¬ (k : Int) < (us.length : Int) := by omega
      have HP := Lib.hid (pos_none (fun j h1 => HJ.out j h1 (by omega)))
      go_wp2_with fail
      go_ret
      rw [HP.out]
      first | exact ⟨rfl, rfl⟩ | exact ⟨trivial, rfl⟩
/-- what a changing call of the reference leaves -/
def RUQ (w : World) (a : Option Addr) (n : Nat) (r : List U × Int) (e : Ending) (w' : World) : Prop := e = .returned (.int .i64 r.2) ∧ RAt w' a r.1 ∧ Fr (rblk a n) w w'
theorem sideB_not {n : Int} (h : sideB n = false) : n < 0 ∨ ¬ n < 0 ∧ 1 < n := by
  unfold sideB at h
  simp at h
  omega
set_option maxRecDepth 20000 in
set_option maxHeartbeats 2000000 in
theorem rswitch_any {w : World} {a : Option Addr} {us : List U} (c : Nat) (id n : Int) (h : RAt w a us) : Calls Try.prog 21 #[.slice a us.length c, .int .i64 id, .int .i64 n] w (RUQ w a us.length (switchS us id n)) := by
  have H := Lib.hid h
  clear h
  unfold RUQ
  cases hp : pos us id with
  | none =>
    rw [switch_none n hp]
    go_enter Try.func21, Try.ntmps21
    go_wp2_with fail
    refine (rfind_any c id H.out).mono ?_
    rintro e w2 ⟨rfl, rfl⟩
    rw [hp]
    simp only [idxI]
    go_wp2_with fail
    go_ret
    exact ⟨rfl, H.out, Fr.refl _ _⟩
  | some i =>
    have hi := pos_lt hp
    obtain ⟨g, rfl, hR⟩ := H.out.get hi
    obtain ⟨r0, r1, r2, r3⟩ := hR.at hi
    have hg := hR.lt
    have hfz := hR.free
    have hlen := H.out.1
    have HR := Lib.hid hR
    have hin : ¬ (i : Int) < 0 := by omega
    have hi0 : (0 : Int) ≤ (i : Int) := by omega
    have hi1 : (i : Int) < (us.length : Int) := by omega
    clear hR
    cases hs : sideB n
    · rcases sideB_not hs with hn | ⟨hn, hn2⟩
      · rw [switch_bad hp hs]
        clear r0 r1 r2 r3
        go_enter Try.func21, Try.ntmps21
        go_wp2_with fail
        refine (rfind_any c id H.out).mono ?_
        rintro e w2 ⟨rfl, rfl⟩
        rw [hp]
        simp only [idxI]
        go_wp2_with fail
        go_ret
        exact ⟨rfl, H.out, Fr.refl _ _⟩
      · rw [switch_bad hp hs]
        clear r0 r1 r2 r3
        go_enter Try.func21, Try.ntmps21
        go_wp2_with fail
        refine (rfind_any c id H.out).mono ?_
        rintro e w2 ⟨rfl, rfl⟩
        rw [hp]
        simp only [idxI]
        go_wp2_with fail
        go_ret
        exact ⟨rfl, H.out, Fr.refl _ _⟩
    · rcases sideB_cases hs with rfl | rfl
      · cases hf : us[i].f0
        · rw [switch_ok hp hs (by simp [fld, hi, hf])]
          rw [hf] at r2
          have HS := Lib.hid (RAt.set HR.out hlen hi (j := 1) (by omega) (.int .i64 0) (fun u => { u with side := 0 }) rfl)
          have hfz := hfz (i * 4 + 1)
          go_enter Try.func21, Try.ntmps21
          go_wp2_with fail
          refine (rfind_any c id H.out).mono ?_
          rintro e w2 ⟨rfl, rfl⟩
          rw [hp]
          simp only [idxI]
          go_wp2_with fail
          go_ret
          exact ⟨rfl, HS.out, (Fr.refl _ _).set1 _ (by exact .inl ⟨by omega, _, rfl, rfl⟩)⟩
        · rw [switch_dead hp hs (by simp [fld, hi, hf])]
          rw [hf] at r2
          go_enter Try.func21, Try.ntmps21
          go_wp2_with fail
          refine (rfind_any c id H.out).mono ?_
          rintro e w2 ⟨rfl, rfl⟩
          rw [hp]
          simp only [idxI]
          go_wp2_with fail
          go_ret
          exact ⟨rfl, H.out, Fr.refl _ _⟩
      · cases hf : us[i].f1
        · rw [switch_ok hp hs (by simp [fld, hi, hf])]
          rw [hf] at r3
          have HS := Lib.hid (RAt.set HR.out hlen hi (j := 1) (by omega) (.int .i64 1) (fun u => { u with side := 1 }) rfl)
          have hfz := hfz (i * 4 + 1)
          go_enter Try.func21, Try.ntmps21
          go_wp2_with fail
          refine (rfind_any c id H.out).mono ?_
          rintro e w2 ⟨rfl, rfl⟩
          rw [hp]
          simp only [idxI]
          go_wp2_with fail
          go_ret
          exact ⟨rfl, HS.out, (Fr.refl _ _).set1 _ (by exact .inl ⟨by omega, _, rfl, rfl⟩)⟩
        · rw [switch_dead hp hs (by simp [fld, hi, hf])]
          rw [hf] at r3
          go_enter Try.func21, Try.ntmps21
          go_wp2_with fail
          refine (rfind_any c id H.out).mono ?_
          rintro e w2 ⟨rfl, rfl⟩
          rw [hp]
          simp only [idxI]
          go_wp2_with fail
          go_ret
          exact ⟨rfl, H.out, Fr.refl _ _⟩
set_option maxRecDepth 20000 in
set_option maxHeartbeats 2000000 in
theorem rfail_any {w : World} {a : Option Addr} {us : List U} (c : Nat) (id n : Int) (h : RAt w a us) : Calls Try.prog 22 #[.slice a us.length c, .int .i64 id, .int .i64 n] w (RUQ w a us.length (failS us id n)) := by
  have H := Lib.hid h
  clear h
  unfold RUQ
  cases hp : pos us id with
  | none =>
    rw [fail_none n hp]
    go_enter Try.func22, Try.ntmps22
    go_wp2_with fail
    refine (rfind_any c id H.out).mono ?_
    rintro e w2 ⟨rfl, rfl⟩
    rw [hp]
    simp only [idxI]
    go_wp2_with fail
    go_ret
    exact ⟨rfl, H.out, Fr.refl _ _⟩
  | some i =>
    have hi := pos_lt hp
    obtain ⟨g, rfl, hR⟩ := H.out.get hi
    obtain ⟨r0, r1, r2, r3⟩ := hR.at hi
    have hg := hR.lt
    have hfz := hR.free
    have hlen := H.out.1
    have HR := Lib.hid hR
    have hin : ¬ (i : Int) < 0 := by omega
    have hi0 : (0 : Int) ≤ (i : Int) := by omega
    have hi1 : (i : Int) < (us.length : Int) := by omega
    clear hR
    cases hs : sideB n
    · rcases sideB_not hs with hn | ⟨hn, hn2⟩
      · rw [fail_bad hp hs]
        clear r0 r1 r2 r3
        go_enter Try.func22, Try.ntmps22
        go_wp2_with fail
        refine (rfind_any c id H.out).mono ?_
        rintro e w2 ⟨rfl, rfl⟩
        rw [hp]
        simp only [idxI]
        go_wp2_with fail
        go_ret
        exact ⟨rfl, H.out, Fr.refl _ _⟩
      · rw [fail_bad hp hs]
        clear r0 r1 r2 r3
        go_enter Try.func22, Try.ntmps22
        go_wp2_with fail
        refine (rfind_any c id H.out).mono ?_
        rintro e w2 ⟨rfl, rfl⟩
        rw [hp]
        simp only [idxI]
        go_wp2_with fail
        go_ret
        exact ⟨rfl, H.out, Fr.refl _ _⟩
    · rcases sideB_cases hs with rfl | rfl
      · rw [fail_ok0 hp]
        have HS := Lib.hid (RAt.set HR.out hlen hi (j := 2) (by omega) (.bool true) (fun u => { u with f0 := true }) rfl)
        have hfz := hfz (i * 4 + 2)
        go_enter Try.func22, Try.ntmps22
        go_wp2_with fail
        refine (rfind_any c id H.out).mono ?_
        rintro e w2 ⟨rfl, rfl⟩
        rw [hp]
        simp only [idxI]
        go_wp2_with fail
        go_ret
        exact ⟨rfl, HS.out, (Fr.refl _ _).set1 _ (by exact .inl ⟨by omega, _, rfl, rfl⟩)⟩
      · rw [fail_ok1 hp]
        have HS := Lib.hid (RAt.set HR.out hlen hi (j := 3) (by omega) (.bool true) (fun u => { u with f1 := true }) rfl)
        have hfz := hfz (i * 4 + 3)
        go_enter Try.func22, Try.ntmps22
        go_wp2_with fail
        refine (rfind_any c id H.out).mono ?_
        rintro e w2 ⟨rfl, rfl⟩
        rw [hp]
        simp only [idxI]
        go_wp2_with fail
        go_ret
        exact ⟨rfl, HS.out, (Fr.refl _ _).set1 _ (by exact .inl ⟨by omega, _, rfl, rfl⟩)⟩
end Go.Proofs.Ytgfloeclepmdlaa

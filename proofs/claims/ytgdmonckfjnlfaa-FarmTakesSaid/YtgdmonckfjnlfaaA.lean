/- Contracts of the serial numbers of eight bits, and of the small methods of a Farm. No condition. -/
import Derived.Test.YtgdmonckfjnlfaaS
namespace Go.Proofs.Ytgdmonckfjnlfaa
open Go.RowKit Go.Deep Go.ChangeShapes Go.WideShapes Go.ChangeAt
set_option linter.unusedVariables false

/-- a number of 8 bits -/
def cntB (c : Int) : Bool := decide (0 ≤ c) && decide (c < 256)
theorem Valid_any (c : Int) (w : World) : Calls Try.prog 33 #[.int .i64 c, .int .i64 8] w fun e w' => e = .returned (.bool (cntB c)) ∧ w' = w := by
  by_cases h : 0 ≤ c
  · go_enter Try.func33, Try.ntmps33
    go_wp2
    go_ret
    exact ⟨ret_bool (by simp [cntB, h]), rfl⟩
  · go_enter Try.func33, Try.ntmps33
    go_wp2
    go_ret
    exact ⟨ret_bool (by simp [cntB]; omega), rfl⟩
/-- (a + n) mod 256 where a is a number -/
def addC (a n : Int) : Int := if cntB a then (a + n) % 256 else 0
theorem sum_mod (a n : Int) : wrap64 ((IntKind.u64.wrap (a + IntKind.u64.wrap n)).tmod 256) = (a + n) % 256 := by
  rw [IntKind.wrap_u64, IntKind.wrap_u64]
  have h0 : 0 ≤ (a + n % 18446744073709551616) % 18446744073709551616 := by omega
  rw [Int.tmod_eq_emod_of_nonneg h0, IntWalk.wrap64_in _ ⟨by omega, by omega⟩]
  omega
theorem Add_any (a n : Int) (w : World) : Calls Try.prog 28 #[.int .i64 a, .int .i64 n, .int .i64 8] w fun e w' => e = .returned (.int .i64 (addC a n)) ∧ w' = w := by
  have hs := Lib.hid (sum_mod a n)
  cases h4 : cntB a
  · go_enter Try.func28, Try.ntmps28
    go_wp2_with (go_at_call 33; refine (Valid_any _ _).mono ?_; rintro e w' ⟨rfl, rfl⟩)
    go_ret
    exact ⟨ret_int (by simp [addC, h4]), rfl⟩
  · have h5 : 0 ≤ a ∧ a < 256 := by simpa [cntB] using h4
    obtain ⟨h6, h7⟩ := h5
    go_enter Try.func28, Try.ntmps28
    go_wp2_with (go_at_call 33; refine (Valid_any _ _).mono ?_; rintro e w' ⟨rfl, rfl⟩)
    go_ret
    exact ⟨ret_int (by simp only [addC, h4, if_true]; exact hs.out), rfl⟩
/-- (b - a) mod 256 where both are numbers -/
def distC (a b : Int) : Int := if cntB a && cntB b then (b - a) % 256 else 0
theorem Dist_any (a b : Int) (w : World) : Calls Try.prog 27 #[.int .i64 a, .int .i64 b, .int .i64 8] w fun e w' => e = .returned (.int .i64 (distC a b)) ∧ w' = w := by
  cases h4 : cntB a
  · go_enter Try.func27, Try.ntmps27
    go_wp2_with (go_at_call 33; refine (Valid_any _ _).mono ?_; rintro e w' ⟨rfl, rfl⟩)
    go_ret
    exact ⟨ret_int (by simp [distC, h4]), rfl⟩
  · have h5 : 0 ≤ a ∧ a < 256 := by simpa [cntB] using h4
    obtain ⟨h6, h7⟩ := h5
    cases h8 : cntB b
    · go_enter Try.func27, Try.ntmps27
      go_wp2_with (go_at_call 33; refine (Valid_any _ _).mono ?_; rintro e w' ⟨rfl, rfl⟩)
      go_ret
      exact ⟨ret_int (by simp [distC, h4, h8]), rfl⟩
    · go_enter Try.func27, Try.ntmps27
      go_wp2_with (first
        | (go_at_call 33; refine (Valid_any _ _).mono ?_; rintro e w' ⟨rfl, rfl⟩)
        | (go_at_call 28; refine (Add_any _ _ _).mono ?_; rintro e w' ⟨rfl, rfl⟩))
      go_ret
      exact ⟨ret_int (by simp [distC, addC, h4, h8]; congr 1), rfl⟩
/-- a Farm -/
structure FS where
  craft : Int
  win : Int
  chan : Int
  lock : Bool
  wait : Bool
  retr : Bool
  byp : Int
  next : Int
def FS.cells (s : FS) : List Value := [.int .i64 s.craft, .int .i64 s.win, .int .i64 s.chan, .bool s.lock, .bool s.wait, .bool s.retr, .int .i64 s.byp, .int .i64 s.next]
def FAt (w : World) (b : Nat) (s : FS) : Prop := Blk w b 53 s.cells
theorem FAt.walk {w : World} {b : Nat} {s : FS} (h : FAt w b s) : b < w.heap.size ∧
    (w.cell? ⟨b, 0, none⟩ = some (.int .i64 s.craft) ∧ w.cell? ⟨b, 1, none⟩ = some (.int .i64 s.win) ∧ w.cell? ⟨b, 2, none⟩ = some (.int .i64 s.chan) ∧ w.cell? ⟨b, 3, none⟩ = some (.bool s.lock) ∧ w.cell? ⟨b, 4, none⟩ = some (.bool s.wait) ∧
     w.cell? ⟨b, 5, none⟩ = some (.bool s.retr) ∧ w.cell? ⟨b, 6, none⟩ = some (.int .i64 s.byp) ∧ w.cell? ⟨b, 7, none⟩ = some (.int .i64 s.next)) ∧
    (w.frozen? ⟨b, 3, none⟩ = false ∧ w.frozen? ⟨b, 4, none⟩ = false ∧ w.frozen? ⟨b, 5, none⟩ = false ∧ w.frozen? ⟨b, 6, none⟩ = false ∧ w.frozen? ⟨b, 7, none⟩ = false) :=
  ⟨h.lt, ⟨h.at 0 rfl, h.at 1 rfl, h.at 2 rfl, h.at 3 rfl, h.at 4 rfl, h.at 5 rfl, h.at 6 rfl, h.at 7 rfl⟩, h.free 3, h.free 4, h.free 5, h.free 6, h.free 7⟩
theorem none_any (b : Nat) (s : FS) (w : World) (h : FAt w b s) (hw : 1 ≤ s.win) : Calls Try.prog 17 #[.pointer (some ⟨b, 0, none⟩)] w fun e w' => e = .returned (.bool false) ∧ w' = w := by
  obtain ⟨hb, ⟨c0, c1, c2, c3, c4, c5, c6, c7⟩, -⟩ := h.walk
  clear h
  have e1 : (s.win == 0) = false := by rw [beq_eq_false_iff_ne]; omega
  go_enter Try.func17, Try.ntmps17
  go_wp2
  go_ret
  exact ⟨rfl, rfl⟩
theorem none_nil (w : World) : Calls Try.prog 17 #[.pointer none] w fun e w' => e = .returned (.bool true) ∧ w' = w := by
  go_enter Try.func17, Try.ntmps17
  go_wp2
  go_ret
  exact ⟨rfl, rfl⟩
def FS.bypass (s : FS) : FS := { s with byp := (s.byp + 1) % 4 }
theorem bypass_any (b : Nat) (s : FS) (w : World) (h : FAt w b s) (h0 : 0 ≤ s.byp ∧ s.byp ≤ 3) : Calls Try.prog 20 #[.pointer (some ⟨b, 0, none⟩)] w fun e w' => e = .returned (.tuple #[]) ∧ FAt w' b s.bypass ∧ Fr (fun k => k = b) w w' := by
  obtain ⟨hb, ⟨c0, c1, c2, c3, c4, c5, c6, c7⟩, f3, f4, f5, f6, f7⟩ := h.walk
  have H := Lib.hid h
  obtain ⟨h1, h2⟩ := h0
  clear h
  go_enter Try.func20, Try.ntmps20
  go_wp2
  go_end0
  exact ⟨rfl, Blk.cast (H.out.setCell 6 _) rfl, (Fr.refl _ _).set1 _ (by exact .inl rfl)⟩
end Go.Proofs.Ytgdmonckfjnlfaa

/- Contracts of New, Lost, count, Clone, fitting. No condition. -/
import Derived.Test.YtllpbfejoahllaaF
import Derived.Outline
namespace Go.Proofs.Ytllpbfejoahllaa
open Go.RowKit Go.Deep Go.ChangeShapes Go.WideShapes Go.ChangeAt
set_option linter.unusedVariables false

def ucells (u : US) (a : Option Addr) (cap : Nat) : List Value := [.bool true, .bool u.started, .bool u.step, .int .i64 u.next, .int .i64 u.lost, .slice a u.rest.length cap]
/-- an unpacker in block b -/
structure UAt (w : World) (b : Nat) (u : US) (a : Option Addr) (cap : Nat) : Prop where
  blk : Blk w b 48 (ucells u a cap)
  hc : u.rest.length ≤ cap
  hm : cap ≤ maxLen
  at_ : BAt w a u.rest
  sh : (a = none ∧ cap = 0) ∨ ∃ g off, a = some ⟨g, off, none⟩
  ne : ∀ q, a = some q → q.block ≠ b
theorem UAt.walk {w : World} {b cap : Nat} {u : US} {a : Option Addr} (h : UAt w b u a cap) : b < w.heap.size ∧ (w.cell? ⟨b, 0, none⟩ = some (.bool true) ∧ w.cell? ⟨b, 1, none⟩ = some (.bool u.started) ∧ w.cell? ⟨b, 2, none⟩ = some (.bool u.step) ∧ w.cell? ⟨b, 3, none⟩ = some (.int .i64 u.next) ∧ w.cell? ⟨b, 4, none⟩ = some (.int .i64 u.lost) ∧ w.cell? ⟨b, 5, none⟩ = some (.slice a u.rest.length cap)) ∧
    (w.frozen? ⟨b, 0, none⟩ = false ∧ w.frozen? ⟨b, 1, none⟩ = false ∧ w.frozen? ⟨b, 2, none⟩ = false ∧ w.frozen? ⟨b, 3, none⟩ = false ∧ w.frozen? ⟨b, 4, none⟩ = false ∧ w.frozen? ⟨b, 5, none⟩ = false) :=
  ⟨h.blk.lt, ⟨h.blk.at 0 rfl, h.blk.at 1 rfl, h.blk.at 2 rfl, h.blk.at 3 rfl, h.blk.at 4 rfl, h.blk.at 5 rfl⟩, h.blk.free 0, h.blk.free 1, h.blk.free 2, h.blk.free 3, h.blk.free 4, h.blk.free 5⟩
theorem UAt.fr {w w' : World} {b cap : Nat} {u : US} {a : Option Addr} {S : Nat → Prop} (h : UAt w b u a cap) (hf : Fr S w w') (hb : ¬ S b) (hs : ∀ q, a = some q → u.rest ≠ [] → ¬ S q.block) : UAt w' b u a cap :=
  ⟨h.blk.fr hf hb, h.hc, h.hm, h.at_.apart hf hs, h.sh, h.ne⟩
theorem UAt.below {w w' : World} {b cap B : Nat} {u : US} {a : Option Addr} (h : UAt w b u a cap) (hf : Below B w w') (hB : w.heap.size ≤ B) : UAt w' b u a cap :=
  ⟨h.blk.below hf hB, h.hc, h.hm, h.at_.below hf hB, h.sh, h.ne⟩
def US.new : US := ⟨false, false, 0, 0, []⟩
theorem new_any (w : World) : Calls Try.prog 11 #[] w fun e w' => e = .returned (.pointer (some ⟨w.heap.size, 0, none⟩)) ∧ UAt w' w.heap.size US.new none 0 ∧ Below w.heap.size w w' := by
  go_enter Try.func11, Try.ntmps11
  go_wp2
  go_ret
  exact ⟨rfl, ⟨Blk.new _ _ _, by simp [US.new], by unfold maxLen; omega, .inl rfl, .inl ⟨rfl, rfl⟩, by simp⟩, al (Below.refl _ _) _⟩
theorem lost_any (b cap : Nat) (u : US) (a : Option Addr) (w : World) (h : UAt w b u a cap) : Calls Try.prog 14 #[.pointer (some ⟨b, 0, none⟩)] w fun e w' => e = .returned (.int .i64 u.lost) ∧ w' = w := by
  obtain ⟨hb, ⟨c0, c1, c2, c3, c4, c5⟩, -⟩ := h.walk
  clear h
  go_enter Try.func14, Try.ntmps14
  go_wp2
  go_ret
  exact ⟨rfl, rfl⟩
theorem lost_nil (w : World) : Calls Try.prog 14 #[.pointer none] w fun e w' => e = .returned (.int .i64 0) ∧ w' = w := by
  go_enter Try.func14, Try.ntmps14
  go_wp2
  go_ret
  exact ⟨rfl, rfl⟩
theorem clone_nil (w : World) : Calls Try.prog 15 #[.pointer none] w fun e w' => e = .returned (.pointer none) ∧ w' = w := by
  go_enter Try.func15, Try.ntmps15
  go_wp2
  go_ret
  exact ⟨rfl, rfl⟩
theorem take_nil (c f : Int) (v : Value) (w : World) : Calls Try.prog 12 #[.pointer none, .int .i64 c, .int .i64 f, v] w fun e w' => e = .returned (.slice none 0 0) ∧ w' = w := by
  go_enter Try.func12, Try.ntmps12
  go_wp2
  go_ret
  exact ⟨rfl, rfl⟩
/-- a zero value -/
theorem take_zero (b : Nat) (T : TypeId) (xs : List Value) (c f : Int) (v : Value) (w : World) (h : Blk w b T (.bool false :: xs)) : Calls Try.prog 12 #[.pointer (some ⟨b, 0, none⟩), .int .i64 c, .int .i64 f, v] w fun e w' => e = .returned (.slice none 0 0) ∧ w' = w := by
  have c0 := h.at 0 rfl
  have hb := h.lt
  clear h
  go_enter Try.func12, Try.ntmps12
  go_wp2
  go_ret
  exact ⟨rfl, rfl⟩
theorem lost_zero (b : Nat) (T : TypeId) (xs : List Value) (w : World) (h : Blk w b T (.bool false :: xs)) : Calls Try.prog 14 #[.pointer (some ⟨b, 0, none⟩)] w fun e w' => e = .returned (.int .i64 0) ∧ w' = w := by
  have c0 := h.at 0 rfl
  have hb := h.lt
  clear h
  go_enter Try.func14, Try.ntmps14
  go_wp2
  go_ret
  exact ⟨rfl, rfl⟩
theorem clone_zero (b : Nat) (T : TypeId) (xs : List Value) (w : World) (h : Blk w b T (.bool false :: xs)) : Calls Try.prog 15 #[.pointer (some ⟨b, 0, none⟩)] w fun e w' => e = .returned (.pointer none) ∧ w' = w := by
  have c0 := h.at 0 rfl
  have hb := h.lt
  clear h
  go_enter Try.func15, Try.ntmps15
  go_wp2
  go_ret
  exact ⟨rfl, rfl⟩
/-- the state of an unpacker, all but the rest, known by its cells -/
theorem UAt.put {w w' : World} {b cap : Nat} {u u' : US} {a : Option Addr} (h : UAt w b u a cap) (hk : Blk w' b 48 (ucells u' a cap)) (hf : Fr (fun k => k = b) w w') (hr : u'.rest = u.rest) : UAt w' b u' a cap :=
  ⟨hk, by rw [hr]; exact h.hc, h.hm, by rw [hr]; exact h.at_.fr hf (fun q hq e => h.ne q hq e), h.sh, h.ne⟩
theorem distC_in {a b : Int} (h1 : 0 ≤ a ∧ a < 256) (h2 : 0 ≤ b ∧ b < 256) : distC a b = (b - a) % 256 := by simp [distC, cntB, h1, h2]
theorem addC_in {a n : Int} (h1 : 0 ≤ a ∧ a < 256) : addC a n = (a + n) % 256 := by simp [addC, cntB, h1]
set_option maxHeartbeats 1000000 in
theorem count_any (b cap : Nat) (u : US) (a : Option Addr) (n : Int) (w : World) (h : UAt w b u a cap) (hn : 0 ≤ n ∧ n < 256) (h1 : 0 ≤ u.next ∧ u.next < 256) (h2 : 0 ≤ u.lost ∧ u.lost ≤ 1000000000000) :
    Calls Try.prog 17 #[.pointer (some ⟨b, 0, none⟩), .int .i64 n] w fun e w' => e = .returned (.tuple #[]) ∧ UAt w' b (u.count n) a cap ∧ Fr (fun k => k = b) w w' := by
  obtain ⟨started, step, next, lost, rest⟩ := u
  have hk := h.blk
  obtain ⟨hb, ⟨c0, c1, c2, c3, c4, c5⟩, f0, f1, f2, f3, f4, f5⟩ := h.walk
  have H := Lib.hid h
  have HK := Lib.hid hk
  have ed := distC_in h1 hn
  have ea := addC_in (n := 1) hn
  obtain ⟨d, hd⟩ : ∃ d, d = (n - next) % 256 := ⟨_, rfl⟩
  simp only at ed
  rw [← hd] at ed
  have hd1 : 0 ≤ d ∧ d < 256 := by omega
  obtain ⟨hd1, hd2⟩ := hd1
  obtain ⟨h2a, h2b⟩ := h2
  simp only at h2a h2b c1 c2 c3 c4 c5
  have ED := Lib.hid ed
  have EA := Lib.hid ea
  have HD := Lib.hid hd
  clear h hk ed ea hd h1
  cases started
  · go_enter Try.func17, Try.ntmps17
    go_wp2_with (first | (go_at_call 24; refine (Dist_any _ _ _).mono ?_; rintro e w' ⟨rfl, hw⟩; obtain rfl := hw.symm; rw [ED.out]) | (go_at_call 25; refine (Add_any _ _ _).mono ?_; rintro e w' ⟨rfl, hw⟩; obtain rfl := hw.symm; rw [EA.out]))
    go_end0
    exact ⟨rfl, H.out.put (Blk.cast ((HK.out.setCell 1 _).setCell 3 _) rfl) (((Fr.refl _ _).set1 _ (by exact .inl rfl)).set1 _ (by exact .inl rfl)) rfl, ((Fr.refl _ _).set1 _ (by exact .inl rfl)).set1 _ (by exact .inl rfl)⟩
  · cases step
    · go_enter Try.func17, Try.ntmps17
      go_wp2_with (first | (go_at_call 24; refine (Dist_any _ _ _).mono ?_; rintro e w' ⟨rfl, hw⟩; obtain rfl := hw.symm; rw [ED.out]) | (go_at_call 25; refine (Add_any _ _ _).mono ?_; rintro e w' ⟨rfl, hw⟩; obtain rfl := hw.symm; rw [EA.out]))
      go_end0
      have hc : US.count ⟨true, false, next, lost, rest⟩ n = ⟨true, false, (n + 1) % 256, lost + d, rest⟩ := by simp [US.count, HD.out]
      have hf := ((((Fr.refl (fun k => k = b) w).set1 (b := b) (i := 4) (.int .i64 (lost + d)) (by exact .inl rfl)).set1 (b := b) (i := 2) (.bool false) (by exact .inl rfl)).set1 (b := b) (i := 1) (.bool true) (by exact .inl rfl)).set1 (b := b) (i := 3) (.int .i64 ((n + 1) % 256)) (by exact .inl rfl)
      exact ⟨rfl, H.out.put (Blk.cast ((((HK.out.setCell 4 _).setCell 2 _).setCell 1 _).setCell 3 _) (by rw [hc]; rfl)) hf rfl, hf⟩
    · by_cases h0 : d = 0
      · have hc : Hid (US.count ⟨true, true, next, lost, rest⟩ n = ⟨true, true, (n + 1) % 256, lost + d, rest⟩) := Lib.hid (by have := HD.out; simp [US.count, ← HD.out, h0])
        have e0 : (d == 0) = true := by rw [h0]; rfl
        clear h0
        go_enter Try.func17, Try.ntmps17
        go_wp2_with (first | (go_at_call 24; refine (Dist_any _ _ _).mono ?_; rintro e w' ⟨rfl, hw⟩; obtain rfl := hw.symm; rw [ED.out]) | (go_at_call 25; refine (Add_any _ _ _).mono ?_; rintro e w' ⟨rfl, hw⟩; obtain rfl := hw.symm; rw [EA.out]))
        go_end0
        have hf := ((((Fr.refl (fun k => k = b) w).set1 (b := b) (i := 4) (.int .i64 (lost + d)) (by exact .inl rfl)).set1 (b := b) (i := 2) (.bool true) (by exact .inl rfl)).set1 (b := b) (i := 1) (.bool true) (by exact .inl rfl)).set1 (b := b) (i := 3) (.int .i64 ((n + 1) % 256)) (by exact .inl rfl)
        exact ⟨rfl, H.out.put (Blk.cast ((((HK.out.setCell 4 _).setCell 2 _).setCell 1 _).setCell 3 _) (by rw [hc.out]; rfl)) hf rfl, hf⟩
      · have hc : Hid (US.count ⟨true, true, next, lost, rest⟩ n = ⟨true, false, (n + 1) % 256, lost + d, rest⟩) := Lib.hid (by have := HD.out; simp [US.count, ← HD.out, h0])
        have e0 : (d == 0) = false := by rw [beq_eq_false_iff_ne]; exact h0
        clear h0
        go_enter Try.func17, Try.ntmps17
        go_wp2_with (first | (go_at_call 24; refine (Dist_any _ _ _).mono ?_; rintro e w' ⟨rfl, hw⟩; obtain rfl := hw.symm; rw [ED.out]) | (go_at_call 25; refine (Add_any _ _ _).mono ?_; rintro e w' ⟨rfl, hw⟩; obtain rfl := hw.symm; rw [EA.out]))
        go_end0
        have hf := ((((Fr.refl (fun k => k = b) w).set1 (b := b) (i := 4) (.int .i64 (lost + d)) (by exact .inl rfl)).set1 (b := b) (i := 2) (.bool false) (by exact .inl rfl)).set1 (b := b) (i := 1) (.bool true) (by exact .inl rfl)).set1 (b := b) (i := 3) (.int .i64 ((n + 1) % 256)) (by exact .inl rfl)
        exact ⟨rfl, H.out.put (Blk.cast ((((HK.out.setCell 4 _).setCell 2 _).setCell 1 _).setCell 3 _) (by rw [hc.out]; rfl)) hf rfl, hf⟩
end Go.Proofs.Ytllpbfejoahllaa

/- The reference's Take. No condition. -/
import Derived.Test.YtdllngedmhihkaaF
namespace Go.Proofs.Ytdllngedmhihkaa
open Go.RowKit Go.Deep Go.ChangeShapes Go.WideShapes Go.ChangeAt
set_option linter.unusedVariables false

theorem al {a w : World} (h : Below a.heap.size a w) (o : Obj) : Below a.heap.size a (w.alloc o) := h.alloc h.size o
theorem header_at (c s : Bool) (ap fl ct : Int) (a : Option Addr) (n cap : Nat) (w : World) :
    Calls Try.prog 23 #[Pk c s ap fl ct a n cap] w fun e w' => e = .returned (.bool (okB ap ct)) ∧ w' = w.alloc (.cells #[.bool c, .bool s, .int .i64 ap, .int .i64 fl, .int .i64 ct, .slice a n cap] 24) := by
  unfold Pk
  by_cases h1 : 0 ≤ ap <;> by_cases h2 : ap ≤ 2046 <;> by_cases h3 : 0 ≤ ct <;> by_cases h4 : ct ≤ 16383
  all_goals first
    | (exfalso; omega)
    | skip
  all_goals
    go_enter Try.func23, Try.ntmps23
    go_wp2
    go_ret
    exact ⟨ret_bool (by first | (simp [okB, cntB, h1, h2, h3]; done) | (simp [okB, cntB, h1, h2, h3]; omega) | (simp [okB, cntB]; omega)), rfl⟩
/-- the reference's Joiner as a value -/
def RV (s : JS) (a : Option Addr) (cap : Nat) : Value := .agg #[.int .i64 s.most, .bool s.op, .int .i64 s.apid, .int .i64 s.last, .slice a s.dat.length cap]
def JS.idle (s : JS) : JS := ⟨false, s.most, 0, 0, []⟩
/-- what the reference's Take makes of a packet with these fields -/
def takeR (s : JS) (ap fl ct : Int) (l : List UInt8) : JS × List UInt8 × Bool × Int :=
  if okB ap ct = false ∨ fl < 0 ∨ 3 < fl ∨ l = [] then (s, [], false, 1)
  else if (fl = 0 ∨ fl = 2) ∧ ¬ (s.op = true ∧ ap = s.apid ∧ ct = (s.last + 1) % 16384) then (s.idle, [], false, 4)
  else
    let s1 := if fl = 1 ∨ fl = 3 then s.idle else s
    if s1.most - s1.dat.length < l.length then (s1.idle, [], false, 6)
    else
      let s2 : JS := ⟨true, s1.most, ap, ct, s1.dat ++ l⟩
      if fl = 1 ∨ fl = 0 then (s2, [], false, 0) else (s2.idle, s2.dat, true, 0)
def RTakeQ (w : World) (ra : Option Addr) (r : JS × List UInt8 × Bool × Int) (e : Ending) (w' : World) : Prop :=
  ∃ a1 c1 a2 c2, e = .returned (.tuple #[RV r.1 a1 c1, .slice a2 r.2.1.length c2, .bool r.2.2.1, .int .i64 r.2.2.2]) ∧ BAt w' a1 r.1.dat ∧ (r.1.dat = [] → a1 = none ∧ c1 = 0) ∧ BAt w' a2 r.2.1 ∧ Below w.heap.size w w' ∧ (r.1.dat ≠ [] → a1 = ra ∨ ∀ q, a1 = some q → w.heap.size ≤ q.block)

theorem rtake_arg (s : JS) (ra : Option Addr) (rc : Nat) (c sc : Bool) (ap fl ct : Int) (a : Option Addr) (l : List UInt8) (cap : Nat) (w : World) (hr : BAt w ra s.dat) (hnil : s.dat = [] → ra = none ∧ rc = 0)
    (hl : l.length ≤ 1000000000) (hx : okB ap ct = false ∨ fl < 0 ∨ 3 < fl ∨ l = []) :
    Calls Try.prog 18 #[RV s ra rc, Pk c sc ap fl ct a l.length cap] w (RTakeQ w ra (takeR s ap fl ct l)) := by
  have HF : Hid (takeR s ap fl ct l = (s, [], false, 1)) := if_pos hx
  have HR := Lib.hid hr
  clear hr
  unfold Pk RV
  have fin : ∀ w', Below w.heap.size w w' → RTakeQ w ra (takeR s ap fl ct l) (.returned (.tuple #[RV s ra rc, .slice none 0 0, .bool false, .int .i64 1])) w' := fun w' hB => by
    rw [HF.out]
    exact ⟨ra, rc, none, 0, rfl, HR.out.below hB (Nat.le_refl _), hnil, BAt.nil _ _, hB, fun _ => .inl rfl⟩
  have FIN := Lib.hid fin
  clear fin hnil
  cases hk : okB ap ct
  · go_enter Try.func18, Try.ntmps18
    go_wp2_with (go_at_call 23; refine (header_at _ _ _ _ _ _ _ _ _).mono ?_; rintro e w2 ⟨rfl, rfl⟩)
    exact bodyPost_ret (v := .tuple #[RV s ra rc, .slice none 0 0, .bool false, .int .i64 1]) (by simp [results, Try.results18, go_sem, RV]) rfl (FIN.out _ (al (al (al (al (Below.refl _ _) _) _) _) _))
  · by_cases h1 : fl < 0
    · go_enter Try.func18, Try.ntmps18
      go_wp2_with (go_at_call 23; refine (header_at _ _ _ _ _ _ _ _ _).mono ?_; rintro e w2 ⟨rfl, rfl⟩)
      exact bodyPost_ret (v := .tuple #[RV s ra rc, .slice none 0 0, .bool false, .int .i64 1]) (by simp [results, Try.results18, go_sem, RV]) rfl (FIN.out _ (al (al (al (al (Below.refl _ _) _) _) _) _))
    · by_cases h2 : 3 < fl
      · go_enter Try.func18, Try.ntmps18
        go_wp2_with (go_at_call 23; refine (header_at _ _ _ _ _ _ _ _ _).mono ?_; rintro e w2 ⟨rfl, rfl⟩)
        exact bodyPost_ret (v := .tuple #[RV s ra rc, .slice none 0 0, .bool false, .int .i64 1]) (by simp [results, Try.results18, go_sem, RV]) rfl (FIN.out _ (al (al (al (al (Below.refl _ _) _) _) _) _))
      · obtain rfl : l = [] := by
          rcases hx with h | h | h | h
          · rw [hk] at h; cases h
          · exact absurd h h1
          · exact absurd h h2
          · exact h
        go_enter Try.func18, Try.ntmps18
        go_wp2_with (go_at_call 23; refine (header_at _ _ _ _ _ _ _ _ _).mono ?_; rintro e w2 ⟨rfl, rfl⟩)
        exact bodyPost_ret (v := .tuple #[RV s ra rc, .slice none 0 0, .bool false, .int .i64 1]) (by simp [results, Try.results18, go_sem, RV]) rfl (FIN.out _ (al (al (al (al (Below.refl _ _) _) _) _) _))

theorem rtake_form1 (s : JS) (ra : Option Addr) (rc : Nat) (c sc : Bool) (ap fl ct : Int) (a : Option Addr) (l : List UInt8) (cap : Nat) (w : World)
    (hl : l.length ≤ 1000000000) (hk : okB ap ct = true) (hne : l ≠ []) (hlast : 0 ≤ s.last ∧ s.last < 16384) (hf : fl = 0 ∨ fl = 2) (hx : s.op = false) :
    Calls Try.prog 18 #[RV s ra rc, Pk c sc ap fl ct a l.length cap] w (RTakeQ w ra (takeR s ap fl ct l)) := by
  have HF : Hid (takeR s ap fl ct l = (s.idle, [], false, 4)) := by
    have h1 : ¬ (okB ap ct = false ∨ fl < 0 ∨ 3 < fl ∨ l = []) := by rintro (h | h | h | h); rw [hk] at h; cases h; omega; omega; exact hne h
    show takeR s ap fl ct l = _
    unfold takeR
    rw [if_neg h1, if_pos ⟨hf, by simp [hx]⟩]
  have hlb : ((l.length : Int) == 0) = false := by
    rw [beq_eq_false_iff_ne]; intro h; exact hne (List.length_eq_zero_iff.1 (by omega))
  have fin : ∀ w', Below w.heap.size w w' → RTakeQ w ra (takeR s ap fl ct l) (.returned (.tuple #[RV s.idle none 0, .slice none 0 0, .bool false, .int .i64 4])) w' := fun w' hB => by
    rw [HF.out]
    exact ⟨none, 0, none, 0, rfl, BAt.nil _ _, fun _ => ⟨rfl, rfl⟩, BAt.nil _ _, hB, fun h => absurd rfl h⟩
  have FIN := Lib.hid fin
  obtain ⟨hl0, hl1⟩ := hlast
  unfold Pk RV
  obtain ⟨op, most, apid, last, dat⟩ := s
  simp only at hx hl0 hl1
  clear fin hne
  subst hx
  rcases hf with rfl | rfl
  all_goals
    go_enter Try.func18, Try.ntmps18
    go_wp2_with (go_at_call 23; refine (header_at _ _ _ _ _ _ _ _ _).mono ?_; rintro e w2 ⟨rfl, rfl⟩)
    exact bodyPost_ret (v := .tuple #[RV (JS.idle ⟨false, most, apid, last, dat⟩) none 0, .slice none 0 0, .bool false, .int .i64 4]) (by simp [results, Try.results18, go_sem, RV, JS.idle]) rfl (FIN.out _ (al (al (al (al (al (Below.refl _ _) _) _) _) _) _))

theorem rtake_form2 (s : JS) (ra : Option Addr) (rc : Nat) (c sc : Bool) (ap fl ct : Int) (a : Option Addr) (l : List UInt8) (cap : Nat) (w : World)
    (hl : l.length ≤ 1000000000) (hk : okB ap ct = true) (hne : l ≠ []) (hlast : 0 ≤ s.last ∧ s.last < 16384) (hf : fl = 0 ∨ fl = 2) (hx : s.op = true ∧ ap ≠ s.apid) :
    Calls Try.prog 18 #[RV s ra rc, Pk c sc ap fl ct a l.length cap] w (RTakeQ w ra (takeR s ap fl ct l)) := by
  have HF : Hid (takeR s ap fl ct l = (s.idle, [], false, 4)) := by
    have h1 : ¬ (okB ap ct = false ∨ fl < 0 ∨ 3 < fl ∨ l = []) := by rintro (h | h | h | h); rw [hk] at h; cases h; omega; omega; exact hne h
    show takeR s ap fl ct l = _
    unfold takeR
    rw [if_neg h1, if_pos ⟨hf, by simp [hx]⟩]
  have hlb : ((l.length : Int) == 0) = false := by
    rw [beq_eq_false_iff_ne]; intro h; exact hne (List.length_eq_zero_iff.1 (by omega))
  have fin : ∀ w', Below w.heap.size w w' → RTakeQ w ra (takeR s ap fl ct l) (.returned (.tuple #[RV s.idle none 0, .slice none 0 0, .bool false, .int .i64 4])) w' := fun w' hB => by
    rw [HF.out]
    exact ⟨none, 0, none, 0, rfl, BAt.nil _ _, fun _ => ⟨rfl, rfl⟩, BAt.nil _ _, hB, fun h => absurd rfl h⟩
  have FIN := Lib.hid fin
  obtain ⟨hl0, hl1⟩ := hlast
  unfold Pk RV
  obtain ⟨op, most, apid, last, dat⟩ := s
  simp only at hx hl0 hl1
  clear fin hne
  obtain ⟨rfl, hx⟩ := hx
  have h9 : (ap != apid) = true := by rw [bne_iff_ne]; exact hx
  clear hx
  rcases hf with rfl | rfl
  all_goals
    go_enter Try.func18, Try.ntmps18
    go_wp2_with (go_at_call 23; refine (header_at _ _ _ _ _ _ _ _ _).mono ?_; rintro e w2 ⟨rfl, rfl⟩)
    exact bodyPost_ret (v := .tuple #[RV (JS.idle ⟨true, most, apid, last, dat⟩) none 0, .slice none 0 0, .bool false, .int .i64 4]) (by simp [results, Try.results18, go_sem, RV, JS.idle]) rfl (FIN.out _ (al (al (al (al (al (Below.refl _ _) _) _) _) _) _))

theorem rtake_form3 (s : JS) (ra : Option Addr) (rc : Nat) (c sc : Bool) (ap fl ct : Int) (a : Option Addr) (l : List UInt8) (cap : Nat) (w : World)
    (hl : l.length ≤ 1000000000) (hk : okB ap ct = true) (hne : l ≠ []) (hlast : 0 ≤ s.last ∧ s.last < 16384) (hf : fl = 0 ∨ fl = 2) (hx : s.op = true ∧ ap = s.apid ∧ ct ≠ (s.last + 1) % 16384) :
    Calls Try.prog 18 #[RV s ra rc, Pk c sc ap fl ct a l.length cap] w (RTakeQ w ra (takeR s ap fl ct l)) := by
  have HF : Hid (takeR s ap fl ct l = (s.idle, [], false, 4)) := by
    have h1 : ¬ (okB ap ct = false ∨ fl < 0 ∨ 3 < fl ∨ l = []) := by rintro (h | h | h | h); rw [hk] at h; cases h; omega; omega; exact hne h
    show takeR s ap fl ct l = _
    unfold takeR
    rw [if_neg h1, if_pos ⟨hf, by simp [hx]⟩]
  have hlb : ((l.length : Int) == 0) = false := by
    rw [beq_eq_false_iff_ne]; intro h; exact hne (List.length_eq_zero_iff.1 (by omega))
  have fin : ∀ w', Below w.heap.size w w' → RTakeQ w ra (takeR s ap fl ct l) (.returned (.tuple #[RV s.idle none 0, .slice none 0 0, .bool false, .int .i64 4])) w' := fun w' hB => by
    rw [HF.out]
    exact ⟨none, 0, none, 0, rfl, BAt.nil _ _, fun _ => ⟨rfl, rfl⟩, BAt.nil _ _, hB, fun h => absurd rfl h⟩
  have FIN := Lib.hid fin
  obtain ⟨hl0, hl1⟩ := hlast
  unfold Pk RV
  obtain ⟨op, most, apid, last, dat⟩ := s
  simp only at hx hl0 hl1
  clear fin hne
  obtain ⟨rfl, rfl, hx⟩ := hx
  have h8 : (ap != ap) = false := by simp
  have h9 : (ct != (last + 1) % 16384) = true := by rw [bne_iff_ne]; exact hx
  clear hx
  rcases hf with rfl | rfl
  all_goals
    go_enter Try.func18, Try.ntmps18
    go_wp2_with (go_at_call 23; refine (header_at _ _ _ _ _ _ _ _ _).mono ?_; rintro e w2 ⟨rfl, rfl⟩)
    exact bodyPost_ret (v := .tuple #[RV (JS.idle ⟨true, most, ap, last, dat⟩) none 0, .slice none 0 0, .bool false, .int .i64 4]) (by simp [results, Try.results18, go_sem, RV, JS.idle]) rfl (FIN.out _ (al (al (al (al (al (Below.refl _ _) _) _) _) _) _))
end Go.Proofs.Ytdllngedmhihkaa

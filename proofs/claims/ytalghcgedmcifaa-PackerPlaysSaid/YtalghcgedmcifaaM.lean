/- The packer in memory; contracts of its small functions. No condition. -/
import Derived.Test.YtalghcgedmcifaaL
import Derived.Test.YtalghcgedmcifaaJ
import Derived.Test.YtalghcgedmcifaaT
import Derived.Outline
import Derived.Deep.DeepCutAuto
import Derived.Deep.CutBlock
import Derived.BigQuiet
namespace Go.Proofs.Ytalghcgedmcifaa
open Go.RowKit Go.Deep Go.ChangeShapes Go.WideShapes Go.ChangeAt
set_option linter.unusedVariables false

theorem frs {a w : World} {b : Nat} (h : Fr (fun k => k = b) a w) (i : Nat) (u : Value) : Fr (fun k => k = b) a (w.setCell ⟨b, i, none⟩ u) := h.set1 u (.inl rfl)
theorem own_low {w : World} {base n s b : Nat} {e : TypeId} {v : Value} {xs : List Value} (h : w.ownsRow base e s v n xs) (hb : b < base) (i : Nat) (u : Value) : (w.setCell ⟨b, i, none⟩ u).ownsRow base e s v n xs :=
  own_set h (fun e => by have := (h.lt b e).1; omega) u
theorem own_slice {w : World} {B n : Nat} {e : TypeId} {k : Nat} {v : Value} {xs : List Value} (h : w.ownsRow B e k v n xs) : ∃ a m c, v = .slice a m c := by
  rcases h.2 with ⟨rfl, -⟩ | ⟨g, cap, cur, rfl, -⟩
  · exact ⟨_, _, _, rfl⟩
  · exact ⟨_, _, _, rfl⟩
def pcells (p : PS) (vW vR : Value) : List Value := [.int .i64 (p.size : Int), .int .i64 (p.room : Int), .int .i64 (p.left : Int), .int .i64 (p.taken : Int), vW, vR]
/-- what the data are not in -/
def Av (X : Nat → Prop) (b : Nat) (vU : Value) (k : Nat) : Prop := X k ∨ k = b ∨ vU.ownBlock = some k
/-- what a call may change -/
def Mine (b : Nat) (vU : Value) (k : Nat) : Prop := k = b ∨ vU.ownBlock = some k
structure PAt (w : World) (X : Nat → Prop) (b : Nat) (p : PS) (vW vR : Value) : Prop where
  blk : Blk w b 56 (pcells p vW vR)
  row : ∃ us, w.ownsRow (b + 1) 22 1 vW p.L.length us ∧ Sls w (Av X b vW) us p.L
  rest : Sl w (Av X b vW) vR p.rest
  xlt : ∀ k, X k → k < w.heap.size
  rsh : vR = .slice none 0 0 ∨ ∃ g off n c, vR = .slice (some ⟨g, off, none⟩) n c
section
variable {w w' : World} {X Y T : Nat → Prop} {b : Nat} {p q : PS} {vW vR vW' vR' : Value}
theorem PAt.lt (h : PAt w X b p vW vR) (k : Nat) (hk : vW.ownBlock = some k) : b < k ∧ k < w.heap.size := by
  obtain ⟨us, h1, -⟩ := h.row
  have := h1.lt k hk
  omega
theorem PAt.avlt (h : PAt w X b p vW vR) : ∀ k, Av X b vW k → k < w.heap.size := fun k hk => by
  rcases hk with h1 | h1 | h1
  · exact h.xlt k h1
  · rw [h1]; exact h.blk.lt
  · exact (h.lt k h1).2
theorem PAt.fr (h : PAt w X b p vW vR) (hf : Fr T w w') (hb : ¬ T b) (hu : ∀ k, vW.ownBlock = some k → ¬ T k) (hT : ∀ k, T k → X k ∨ w.heap.size ≤ k) : PAt w' X b p vW vR := by
  obtain ⟨us, h1, h2⟩ := h.row
  have hT' : ∀ k, T k → Av X b vW k ∨ w.heap.size ≤ k := fun k hk => by
    rcases hT k hk with e | e
    · exact .inl (.inl e)
    · exact .inr e
  exact ⟨h.blk.fr hf hb, ⟨us, own_fr h1 hf hu, h2.fr hf hT'⟩, h.rest.fr hf hT', fun k hk => Nat.lt_of_lt_of_le (h.xlt k hk) hf.size, h.rsh⟩
theorem PAt.below {B : Nat} (h : PAt w X b p vW vR) (hf : Below B w w') (hB : w.heap.size ≤ B) : PAt w' X b p vW vR :=
  h.fr (T := fun k => w.heap.size ≤ k) (Fr.of_below hf hB) (Nat.not_le.2 h.blk.lt) (fun k hk => Nat.not_le.2 (h.lt k hk).2) (fun k hk => .inr hk)
theorem PAt.quiet (h : PAt w X b p vW vR) (hq : Quiet w w') : PAt w' X b p vW vR := h.below hq.below (Nat.le_refl _)
/-- only the struct's numbers change -/
theorem PAt.put (h : PAt w X b p vW vR) (hk : Blk w' b 56 (pcells q vW vR)) (hf : Fr (fun k => k = b) w w') (e1 : q.L = p.L) (e2 : q.rest = p.rest) : PAt w' X b q vW vR := by
  obtain ⟨us, h1, h2⟩ := h.row
  have hT' : ∀ k, k = b → Av X b vW k ∨ w.heap.size ≤ k := fun k hk => .inl (.inr (.inl hk))
  exact ⟨hk, ⟨us, by rw [e1]; exact own_fr h1 hf (fun k hk e => by have := (h.lt k hk).1; omega), by rw [e1]; exact h2.fr hf hT'⟩, by rw [e2]; exact h.rest.fr hf hT', fun k hk => Nat.lt_of_lt_of_le (h.xlt k hk) hf.size, h.rsh⟩
/-- another row of packets -/
theorem PAt.row_new (h : PAt w X b p vW vR) {us : List Value} (hk : Blk w' b 56 (pcells q vW' vR)) (hf : Fr (Mine b vW) w w') (hO : w'.ownsRow (b + 1) 22 1 vW' q.L.length us) (hS : Sls w (Av X b vW) us q.L) (e2 : q.rest = p.rest) (hn : vW'.ownBlock = vW.ownBlock ∨ ∀ k, vW'.ownBlock = some k → w.heap.size ≤ k) : PAt w' X b q vW' vR := by
  have hY : ∀ k, (Av X b vW k ∨ Av X b vW' k) → Av X b vW k ∨ w.heap.size ≤ k := fun k hk => by
    rcases hk with h | h | h | h
    · exact .inl h
    · exact .inl (.inl h)
    · exact .inl (.inr (.inl h))
    · rcases hn with e | e
      · exact .inl (.inr (.inr (by rw [← e]; exact h)))
      · exact .inr (e k h)
  have hT : ∀ k, Mine b vW k → (Av X b vW k ∨ Av X b vW' k) ∨ w.heap.size ≤ k := fun k hk => .inl (.inl (.inr hk))
  have hs : ∀ k, Av X b vW' k → (Av X b vW k ∨ Av X b vW' k) ∨ w'.heap.size ≤ k := fun k hk => .inl (.inr hk)
  exact ⟨hk, ⟨us, hO, ((hS.grow hY).fr hf hT).grow hs⟩, by rw [e2]; exact ((h.rest.grow hY).fr hf hT).grow hs, fun k hk => Nat.lt_of_lt_of_le (h.xlt k hk) hf.size, h.rsh⟩
/-- another rest -/
theorem PAt.rest_new (h : PAt w X b p vW vR) (hk : Blk w' b 56 (pcells q vW vR')) (hf : Fr (fun k => k = b) w w') (e1 : q.L = p.L) (hr : Sl w' (Av X b vW) vR' q.rest) (hsh : vR' = .slice none 0 0 ∨ ∃ g off n c, vR' = .slice (some ⟨g, off, none⟩) n c) : PAt w' X b q vW vR' := by
  obtain ⟨us, h1, h2⟩ := h.row
  have hT' : ∀ k, k = b → Av X b vW k ∨ w.heap.size ≤ k := fun k hk => .inl (.inr (.inl hk))
  exact ⟨hk, ⟨us, by rw [e1]; exact own_fr h1 hf (fun k hk e => by have := (h.lt k hk).1; omega), by rw [e1]; exact h2.fr hf hT'⟩, hr, fun k hk => Nat.lt_of_lt_of_le (h.xlt k hk) hf.size, hsh⟩
theorem PAt.less (h : PAt w X b p vW vR) (hY : ∀ k, Y k → X k ∨ k = b ∨ vW.ownBlock = some k ∨ w.heap.size ≤ k) (hl : ∀ k, Y k → k < w.heap.size) : PAt w Y b p vW vR := by
  obtain ⟨us, h1, h2⟩ := h.row
  have hY' : ∀ k, Av Y b vW k → Av X b vW k ∨ w.heap.size ≤ k := fun k hk => by
    rcases hk with h | h | h
    · rcases hY k h with e | e | e | e
      · exact .inl (.inl e)
      · exact .inl (.inr (.inl e))
      · exact .inl (.inr (.inr e))
      · exact .inr e
    · exact .inl (.inr (.inl h))
    · exact .inl (.inr (.inr h))
  exact ⟨h.blk, ⟨us, h1, h2.grow hY'⟩, h.rest.grow hY', hl, h.rsh⟩
theorem PAt.mine {B : Nat} (h : PAt w X b p vW vR) (hB : B ≤ b) (hf : Fr (Mine b vW) w w') : Below B w w' :=
  hf.toBelow (by have := h.blk.lt; omega) (fun k hk => by
    rcases hk with hk | hk
    · omega
    · have := (h.lt k hk).1; omega)
end
/-! ### the functions that only read -/
/-- no packer -/
def Dead (w : World) (p : Option Addr) : Prop := p = none ∨ ∃ b, p = some ⟨b, 0, none⟩ ∧ w.cell? ⟨b, 0, none⟩ = some (.int .i64 0)
theorem none_any (b n : Nat) (w : World) (hn : 1 ≤ n) (h : w.cell? ⟨b, 0, none⟩ = some (.int .i64 (n : Int))) : Calls Try.prog 25 #[.pointer (some ⟨b, 0, none⟩)] w fun e w' => e = .returned (.bool false) ∧ w' = w := by
  have e : ((n : Int) == 0) = false := by rw [beq_eq_false_iff_ne]; omega
  go_enter Try.func25, Try.ntmps25
  go_wp2
  go_ret
  exact ⟨rfl, rfl⟩
theorem none_dead (p : Option Addr) (w : World) (h : p = none) : Calls Try.prog 25 #[.pointer p] w fun e w' => e = .returned (.bool true) ∧ w' = w := by
  subst h
  go_enter Try.func25, Try.ntmps25
  go_wp2
  go_ret
  exact ⟨rfl, rfl⟩
theorem PAt.live {w : World} {X : Nat → Prop} {b : Nat} {p : PS} {vW vR : Value} (h : PAt w X b p vW vR) (ok : p.Ok) : Calls Try.prog 25 #[.pointer (some ⟨b, 0, none⟩)] w fun e w' => e = .returned (.bool false) ∧ w' = w := none_any b p.size w ok.size.1 (h.blk.at 0 rfl)
theorem left_any (w : World) {X : Nat → Prop} {b : Nat} {p : PS} {vW vR : Value} (h : PAt w X b p vW vR) (ok : p.Ok) : Calls Try.prog 14 #[.pointer (some ⟨b, 0, none⟩)] w fun e w' => e = .returned (.int .i64 (p.left : Int)) ∧ w' = w := by
  have c2 := h.blk.at 2 rfl
  have H := Lib.hid h
  clear h
  go_enter Try.func14, Try.ntmps14
  go_wp2_with (go_at_call 25; refine (H.out.live ok).mono ?_; rintro e w2 ⟨rfl, hw⟩; obtain rfl := hw.symm)
  go_ret
  exact ⟨rfl, rfl⟩
theorem ready_any (w : World) {X : Nat → Prop} {b : Nat} {p : PS} {vW vR : Value} (h : PAt w X b p vW vR) (ok : p.Ok) : Calls Try.prog 12 #[.pointer (some ⟨b, 0, none⟩)] w fun e w' => e = .returned (.bool p.ready) ∧ Quiet w w' := by
  obtain ⟨ar, cr, rfl, hcr, hmr, -, -⟩ := h.rest
  have c2 := h.blk.at 2 rfl
  have c5 := h.blk.at 5 rfl
  have c0 := h.blk.at 0 rfl
  have hs := ok.size
  have hr := ok.rest
  have hm := ok.most
  have hro := ok.room
  have H := Lib.hid h
  have OK := Lib.hid ok
  unfold PS.ready
  clear h ok
  by_cases h0 : 0 < p.left
  · have e1 : decide ((0 : Int) < (p.left : Int)) = true := decide_eq_true (by omega)
    rw [decide_eq_true h0, Bool.true_and]
    go_enter Try.func12, Try.ntmps12
    go_wp2_with (go_quiet ((go_at_call 25; refine Calls.quiet_of_same ((PAt.live (H.out.quiet ?_) OK.out).mono fun _ _ h => ⟨h.1, h.2⟩); exact ⟨_, rfl⟩)))
    go_ret
    refine ⟨ret_bool ?_, ⟨_, rfl⟩⟩
    rw [Bool.eq_iff_iff]
    simp only [decide_eq_true_eq]
    omega
  · have e1 : decide ((0 : Int) < (p.left : Int)) = false := decide_eq_false (by omega)
    rw [decide_eq_false h0, Bool.false_and]
    go_enter Try.func12, Try.ntmps12
    go_wp2_with (go_quiet ((go_at_call 25; refine Calls.quiet_of_same ((PAt.live (H.out.quiet ?_) OK.out).mono fun _ _ h => ⟨h.1, h.2⟩); exact ⟨_, rfl⟩)))
    go_ret
    exact ⟨rfl, ⟨_, rfl⟩⟩
theorem new_any (size room : Int) (w : World) (h : rightB size = true) : Calls Try.prog 9 #[.int .i64 size, .int .i64 room] w fun e w' => e = .returned (.pointer (some ⟨w.heap.size, 0, none⟩)) ∧ PAt w' (fun k => k < w.heap.size) w.heap.size (PS.new size room) (.slice none 0 0) (.slice none 0 0) ∧ Below w.heap.size w w' := by
  unfold rightB at h
  simp only [Bool.and_eq_true, decide_eq_true_eq] at h
  have e1 : ¬ size < 1 := by omega
  have e2 : ¬ 1012 < size := by omega
  have HE : Hid (((size.toNat : Nat) : Int) = size) := Lib.hid (by omega)
  have HR : Hid ((((min (max room 0) 1048576).toNat : Nat) : Int) = min (max room 0) 1048576) := Lib.hid (by omega)
  have HM : Hid ((if 0 < room then if room < 1048576 then room else 1048576 else 0) = min (max room 0) 1048576) := Lib.hid (by repeat' split <;> omega)
  clear h
  go_enter Try.func9, Try.ntmps9
  go_wp2_with fail
  all_goals
    go_ret
    refine ⟨rfl, ⟨Blk.cast (Blk.new _ 56 _) (by unfold pcells PS.new; simp only [HE.out, HR.out]; congr 3 <;> omega), ⟨[], World.ownsRow_nil _ _ _ _, Sls.nil⟩, ⟨Option.none, 0, rfl, Nat.le_refl _, Nat.zero_le _, .inl rfl, fun _ h => by cases h⟩, fun k hk => by simp; omega, .inl rfl⟩, al (Below.refl _ _) _⟩
theorem new_bad (size room : Int) (w : World) (h : rightB size = false) : Calls Try.prog 9 #[.int .i64 size, .int .i64 room] w fun e w' => e = .returned (.pointer Option.none) ∧ w' = w := by
  unfold rightB at h
  have h2 : size < 1 ∨ 1012 < size := by
    simp only [Bool.and_eq_false_iff, decide_eq_false_iff_not] at h
    omega
  rcases h2 with h2 | h2
  · clear h
    go_enter Try.func9, Try.ntmps9
    go_wp2_with fail
    go_ret
    exact ⟨rfl, rfl⟩
  · have h3 : ¬ size < 1 := by omega
    clear h
    go_enter Try.func9, Try.ntmps9
    go_wp2_with fail
    go_ret
    exact ⟨rfl, rfl⟩
end Go.Proofs.Ytalghcgedmcifaa

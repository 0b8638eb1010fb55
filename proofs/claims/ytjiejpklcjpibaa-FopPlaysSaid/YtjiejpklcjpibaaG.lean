/- The sending end in memory; New, Send, State, Queued, Acked. No condition. -/
import Derived.Test.YtjiejpklcjpibaaF
import Derived.Deep.DeepCutAuto
import Derived.Deep.CutBlock
namespace Go.Proofs.Ytjiejpklcjpibaa
open Go.RowKit Go.Deep Go.ChangeShapes Go.WideShapes Go.ChangeAt
set_option linter.unusedVariables false

/-- a frame at an address; its data in no block of X -/
def FmAt (w : World) (X : Nat → Prop) (b o : Nat) (x : Fm) : Prop :=
  w.cell? ⟨b, o, none⟩ = some (.bool x.byp) ∧ w.cell? ⟨b, o + 1, none⟩ = some (.bool x.ctl) ∧ w.cell? ⟨b, o + 2, none⟩ = some (.int .i64 x.craft) ∧ w.cell? ⟨b, o + 3, none⟩ = some (.int .i64 x.chan) ∧ w.cell? ⟨b, o + 4, none⟩ = some (.int .i64 x.seq) ∧ ∃ v, w.cell? ⟨b, o + 5, none⟩ = some v ∧ Sl w X v x.data
/-- a slice of frames, in no block of X -/
def CAt (w : World) (X : Nat → Prop) (v : Value) (L : List Fm) : Prop :=
  ∃ a cap, v = .slice a L.length cap ∧ L.length ≤ cap ∧ cap ≤ maxLen ∧ (L = [] ∨ ∃ g off, a = some ⟨g, off, none⟩ ∧ g < w.heap.size ∧ ¬ X g ∧ ∀ i (h : i < L.length), FmAt w X g (off + 6 * i) L[i])
section
variable {w w' : World} {X Y T : Nat → Prop} {b o : Nat} {x : Fm} {v : Value} {L : List Fm}
theorem FmAt.fr (h : FmAt w X b o x) (hb : b < w.heap.size) (hX : ¬ X b) (hf : Fr T w w') (hT : ∀ k, T k → X k ∨ w.heap.size ≤ k) : FmAt w' X b o x := by
  obtain ⟨h0, h1, h2, h3, h4, u, h5, h6⟩ := h
  have hb2 : ¬ T b := fun ht => by
    rcases hT b ht with e | e
    · exact hX e
    · omega
  have hc : ∀ i, w'.cell? ⟨b, i, none⟩ = w.cell? ⟨b, i, none⟩ := fun i => hf.cell (p := ⟨b, i, none⟩) hb hb2
  exact ⟨(hc _).trans h0, (hc _).trans h1, (hc _).trans h2, (hc _).trans h3, (hc _).trans h4, u, (hc _).trans h5, h6.fr hf hT⟩
theorem FmAt.grow (h : FmAt w X b o x) (hY : ∀ k, Y k → X k ∨ w.heap.size ≤ k) : FmAt w Y b o x := by
  obtain ⟨h0, h1, h2, h3, h4, u, h5, h6⟩ := h
  exact ⟨h0, h1, h2, h3, h4, u, h5, h6.grow hY⟩
theorem CAt.nil (w : World) (X : Nat → Prop) : CAt w X (.slice none 0 0) [] := ⟨none, 0, rfl, Nat.le_refl _, Nat.zero_le _, .inl rfl⟩
theorem CAt.fr (h : CAt w X v L) (hf : Fr T w w') (hT : ∀ k, T k → X k ∨ w.heap.size ≤ k) : CAt w' X v L := by
  obtain ⟨a, cap, h1, h2, h3, h4⟩ := h
  refine ⟨a, cap, h1, h2, h3, ?_⟩
  rcases h4 with h4 | ⟨g, off, h5, h6, h7, h8⟩
  · exact .inl h4
  · exact .inr ⟨g, off, h5, Nat.lt_of_lt_of_le h6 hf.size, h7, fun i hi => (h8 i hi).fr h6 h7 hf hT⟩
theorem CAt.grow (h : CAt w X v L) (hY : ∀ k, Y k → X k ∨ w.heap.size ≤ k) : CAt w Y v L := by
  obtain ⟨a, cap, h1, h2, h3, h4⟩ := h
  refine ⟨a, cap, h1, h2, h3, ?_⟩
  rcases h4 with h4 | ⟨g, off, h5, h6, h7, h8⟩
  · exact .inl h4
  · exact .inr ⟨g, off, h5, h6, fun hy => by
      rcases hY g hy with e | e
      · exact h7 e
      · omega, fun i hi => (h8 i hi).grow hY⟩
theorem CAt.below {B : Nat} (h : CAt w X v L) (hb : Below B w w') (hB : w.heap.size ≤ B) : CAt w' X v L :=
  h.fr (T := fun k => w.heap.size ≤ k) (Fr.of_below hb hB) (fun k hk => .inr hk)
end
/-- what the data are not in -/
def Av (X : Nat → Prop) (b : Nat) (vU : Value) (k : Nat) : Prop := X k ∨ k = b ∨ vU.ownBlock = some k
structure FAt (w : World) (X : Nat → Prop) (b : Nat) (f : FS) (vU vC : Value) : Prop where
  blk : Blk w b 69 (fcells f vU vC)
  units : ∃ us, OffRow w (b + 1) 23 vU us ∧ Sls w (Av X b vU) us f.units
  ctls : CAt w (Av X b vU) vC f.ctls
  xlt : ∀ k, X k → k < w.heap.size
/-- what a call may change -/
def Mine (b : Nat) (vU : Value) (k : Nat) : Prop := k = b ∨ vU.ownBlock = some k
section
variable {w w' : World} {X Y T : Nat → Prop} {b : Nat} {f g : FS} {vU vC vU' vC' : Value}
theorem FAt.row (h : FAt w X b f vU vC) (k : Nat) (hk : vU.ownBlock = some k) : b < k ∧ k < w.heap.size := by
  obtain ⟨us, h1, -⟩ := h.units
  have := h1.lt k hk
  omega
theorem FAt.fr (h : FAt w X b f vU vC) (hf : Fr T w w') (hb : ¬ T b) (hu : ∀ k, vU.ownBlock = some k → ¬ T k) (hT : ∀ k, T k → X k ∨ w.heap.size ≤ k) : FAt w' X b f vU vC := by
  obtain ⟨us, h1, h2⟩ := h.units
  have hT' : ∀ k, T k → Av X b vU k ∨ w.heap.size ≤ k := fun k hk => by
    rcases hT k hk with e | e
    · exact .inl (.inl e)
    · exact .inr e
  exact ⟨h.blk.fr hf hb, ⟨us, h1.fr hf hu, h2.fr hf hT'⟩, h.ctls.fr hf hT', fun k hk => Nat.lt_of_lt_of_le (h.xlt k hk) hf.size⟩
theorem FAt.below {B : Nat} (h : FAt w X b f vU vC) (hf : Below B w w') (hB : w.heap.size ≤ B) : FAt w' X b f vU vC :=
  h.fr (T := fun k => w.heap.size ≤ k) (Fr.of_below hf hB) (Nat.not_le.2 h.blk.lt) (fun k hk => Nat.not_le.2 (h.row k hk).2) (fun k hk => .inr hk)
/-- only the struct's numbers change -/
theorem FAt.put (h : FAt w X b f vU vC) (hk : Blk w' b 69 (fcells g vU vC)) (hf : Fr (fun k => k = b) w w') (e1 : g.units = f.units) (e2 : g.ctls = f.ctls) : FAt w' X b g vU vC := by
  obtain ⟨us, h1, h2⟩ := h.units
  have hT' : ∀ k, k = b → Av X b vU k ∨ w.heap.size ≤ k := fun k hk => .inl (.inr (.inl hk))
  exact ⟨hk, ⟨us, h1.fr hf (fun k hk e => by have := (h.row k hk).1; omega), by rw [e1]; exact h2.fr hf hT'⟩, by rw [e2]; exact h.ctls.fr hf hT', fun k hk => Nat.lt_of_lt_of_le (h.xlt k hk) hf.size⟩
/-- the units lie elsewhere, or in part -/
theorem FAt.row_new (h : FAt w X b f vU vC) {us : List Value} (hk : Blk w' b 69 (fcells g vU' vC)) (hf : Fr (Mine b vU) w w') (hO : OffRow w' (b + 1) 23 vU' us) (hS : Sls w (Av X b vU) us g.units) (e2 : g.ctls = f.ctls) (hn : vU'.ownBlock = vU.ownBlock ∨ ∀ k, vU'.ownBlock = some k → w.heap.size ≤ k) : FAt w' X b g vU' vC := by
  have hY : ∀ k, (Av X b vU k ∨ Av X b vU' k) → Av X b vU k ∨ w.heap.size ≤ k := fun k hk => by
    rcases hk with h | h | h | h
    · exact .inl h
    · exact .inl (.inl h)
    · exact .inl (.inr (.inl h))
    · rcases hn with e | e
      · exact .inl (.inr (.inr (by rw [← e]; exact h)))
      · exact .inr (e k h)
  have hT : ∀ k, Mine b vU k → (Av X b vU k ∨ Av X b vU' k) ∨ w.heap.size ≤ k := fun k hk => .inl (.inl (.inr hk))
  have hs : ∀ k, Av X b vU' k → (Av X b vU k ∨ Av X b vU' k) ∨ w'.heap.size ≤ k := fun k hk => .inl (.inr hk)
  exact ⟨hk, ⟨us, hO, ((hS.grow hY).fr hf hT).grow hs⟩, by rw [e2]; exact ((h.ctls.grow hY).fr hf hT).grow hs, fun k hk => Nat.lt_of_lt_of_le (h.xlt k hk) hf.size⟩
/-- other controls -/
theorem FAt.ctl_new (h : FAt w X b f vU vC) (hk : Blk w' b 69 (fcells g vU vC')) (hf : Fr (fun k => k = b) w w') (e1 : g.units = f.units) (hc : CAt w' (Av X b vU) vC' g.ctls) : FAt w' X b g vU vC' := by
  obtain ⟨us, h1, h2⟩ := h.units
  have hT' : ∀ k, k = b → Av X b vU k ∨ w.heap.size ≤ k := fun k hk => .inl (.inr (.inl hk))
  exact ⟨hk, ⟨us, h1.fr hf (fun k hk e => by have := (h.row k hk).1; omega), by rw [e1]; exact h2.fr hf hT'⟩, hc, fun k hk => Nat.lt_of_lt_of_le (h.xlt k hk) hf.size⟩
theorem FAt.less (h : FAt w X b f vU vC) (hY : ∀ k, Y k → X k ∨ k = b ∨ vU.ownBlock = some k ∨ w.heap.size ≤ k) (hl : ∀ k, Y k → k < w.heap.size) : FAt w Y b f vU vC := by
  obtain ⟨us, h1, h2⟩ := h.units
  have hY' : ∀ k, Av Y b vU k → Av X b vU k ∨ w.heap.size ≤ k := fun k hk => by
    rcases hk with h | h | h
    · rcases hY k h with e | e | e | e
      · exact .inl (.inl e)
      · exact .inl (.inr (.inl e))
      · exact .inl (.inr (.inr e))
      · exact .inr e
    · exact .inl (.inr (.inl h))
    · exact .inl (.inr (.inr h))
  exact ⟨h.blk, ⟨us, h1, h2.grow hY'⟩, h.ctls.grow hY', hl⟩
end
/-! ### the functions that only read -/
theorem queued_any (w : World) {X : Nat → Prop} {b : Nat} {f : FS} {vU vC : Value} (h : FAt w X b f vU vC) : Calls Try.prog 11 #[.pointer (some ⟨b, 0, none⟩)] w fun e w' => e = .returned (.int .i64 (f.units.length : Int)) ∧ w' = w := by
  obtain ⟨us, hO, hS⟩ := h.units
  obtain ⟨a, cap, rfl, hc, hm, -, -, -⟩ := hO.vat
  have c1 := h.blk.at 1 rfl
  have c5 := h.blk.at 5 rfl
  have hl := hS.1
  have HL := Lib.hid hl
  clear h hO hS hl
  go_enter Try.func11, Try.ntmps11
  go_wp2_with (go_at_call 30; refine (usable_any b w c5).mono ?_; rintro e w2 ⟨rfl, rfl⟩)
  go_ret
  exact ⟨ret_int (by rw [HL.out]), rfl⟩
theorem acked_any (w : World) {X : Nat → Prop} {b : Nat} {f : FS} {vU vC : Value} (h : FAt w X b f vU vC) : Calls Try.prog 16 #[.pointer (some ⟨b, 0, none⟩)] w fun e w' => e = .returned (.int .i64 (f.acked : Int)) ∧ w' = w := by
  have c2 := h.blk.at 2 rfl
  have c5 := h.blk.at 5 rfl
  clear h
  go_enter Try.func16, Try.ntmps16
  go_wp2_with (go_at_call 30; refine (usable_any b w c5).mono ?_; rintro e w2 ⟨rfl, rfl⟩)
  go_ret
  exact ⟨rfl, rfl⟩
theorem state_any (w : World) {X : Nat → Prop} {b : Nat} {f : FS} {vU vC : Value} (h : FAt w X b f vU vC) : Calls Try.prog 17 #[.pointer (some ⟨b, 0, none⟩)] w fun e w' => e = .returned (.int .i64 (f.state : Int)) ∧ w' = w := by
  have c10 := h.blk.at 10 rfl
  have c5 := h.blk.at 5 rfl
  clear h
  go_enter Try.func17, Try.ntmps17
  go_wp2_with (go_at_call 30; refine (usable_any b w c5).mono ?_; rintro e w2 ⟨rfl, rfl⟩)
  go_ret
  exact ⟨rfl, rfl⟩
theorem new_any (craft chan size tmo ret : Int) (w : World) : Calls Try.prog 9 #[.int .i64 craft, .int .i64 chan, .int .i64 size, .int .i64 tmo, .int .i64 ret] w fun e w' => e = .returned (.pointer (some ⟨w.heap.size, 0, none⟩)) ∧ FAt w' (fun k => k < w.heap.size) w.heap.size (FS.new craft chan size tmo ret) (.slice none 0 0) (.slice none 0 0) ∧ Below w.heap.size w w' := by
  have h1 := clampI_bd size 1 127 (by omega)
  have h5 := clampI_bd ret 0 255 (by omega)
  have e1 : Hid (((clampI size 1 127).toNat : Int) = clampI size 1 127) := Lib.hid (by omega)
  have e5 : Hid (((clampI ret 0 255).toNat : Int) = clampI ret 0 255) := Lib.hid (by omega)
  clear h1 h5
  go_enter Try.func9, Try.ntmps9
  go_wp2_with (go_at_call 29; refine (clamp1_any _ _ _ _).mono ?_; rintro e w2 ⟨rfl, rfl⟩)
  go_ret
  refine ⟨rfl, ⟨Blk.cast (Blk.new _ 69 _) (by unfold fcells FS.new; simp only [e1.out, e5.out]; rfl), ⟨[], OffRow.nil _ _ _, Sls.nil⟩, CAt.nil _ _, fun k hk => by simp; omega⟩, al (Below.refl _ _) _⟩
end Go.Proofs.Ytjiejpklcjpibaa

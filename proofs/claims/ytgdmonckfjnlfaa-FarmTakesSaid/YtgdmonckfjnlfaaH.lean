/- Take of any frame; frames of the laws; the chapter's example. No condition. -/
import Derived.Test.YtgdmonckfjnlfaaG
namespace Go.Proofs.Ytgdmonckfjnlfaa
open Go.RowKit Go.Deep Go.ChangeShapes Go.WideShapes Go.ChangeAt
set_option linter.unusedVariables false

/-- what holds of a Farm -/
def FS.ok (s : FS) : Prop := (1 ≤ s.win ∧ s.win ≤ 127) ∧ (0 ≤ s.byp ∧ s.byp ≤ 3)
theorem take_any (b : Nat) (s : FS) (x : TF) (room : Bool) (a : Option Addr) (cap : Nat) (w : World) (h : FAt w b s) (ok : s.ok) (hd : BAt w a x.dat) (hcap : x.dat.length ≤ cap) (hne : ∀ p, a = some p → p.block ≠ b) :
    Calls Try.prog 9 #[.pointer (some ⟨b, 0, none⟩), x.val a cap, .bool room] w (TQ w b (takeF s x room)) := by
  by_cases hx : validB x = false ∨ x.craft ≠ s.craft ∨ x.chan ≠ s.chan
  · exact take_bad b s x room a cap w h ok.1.1 hx
  · have h1 : validB x = true := by cases e : validB x; exact absurd (.inl e) hx; rfl
    have h2 : x.craft = s.craft := by by_cases e : x.craft = s.craft; exact e; exact absurd (.inr (.inl e)) hx
    have h3 : x.chan = s.chan := by by_cases e : x.chan = s.chan; exact e; exact absurd (.inr (.inr e)) hx
    exact take_good b s x room a cap w h ok.1 ok.2 h1 h2 h3 hd hcap hne
/-- what a state keeps -/
structure FS.Keeps (s t : FS) : Prop where
  craft : t.craft = s.craft
  win : t.win = s.win
  chan : t.chan = s.chan
  byp : 0 ≤ s.byp ∧ s.byp ≤ 3 → 0 ≤ t.byp ∧ t.byp ≤ 3
theorem FS.Keeps.refl (s : FS) : s.Keeps s := ⟨rfl, rfl, rfl, id⟩
theorem bypass_keeps (s : FS) : s.Keeps s.bypass := ⟨rfl, rfl, rfl, fun h => by unfold FS.bypass; constructor <;> simp only <;> omega⟩
theorem seq_keeps (s : FS) (n : Int) (room : Bool) : s.Keeps (seqS s n room).1 := by
  unfold seqS
  repeat' split
  all_goals exact ⟨rfl, rfl, rfl, id⟩
theorem ctl_keeps (s : FS) (x : TF) : s.Keeps (ctlS s x).1 := by
  unfold ctlS
  repeat' split
  all_goals first
    | exact ⟨rfl, rfl, rfl, id⟩
    | exact ⟨rfl, rfl, rfl, fun h => by simp only [FS.bypass]; omega⟩
theorem ver_keeps (s : FS) (x : TF) (room : Bool) : s.Keeps (verS s x room).1 := by
  unfold verS
  repeat' split
  · exact ctl_keeps s x
  · exact bypass_keeps s
  · exact seq_keeps s _ _
theorem take_keeps (s : FS) (x : TF) (room : Bool) : s.Keeps (takeF s x room).1 := by
  unfold takeF
  repeat' split
  · exact .refl s
  · exact ver_keeps s x room
  · exact ver_keeps s x room
theorem FS.Keeps.ok {s t : FS} (h : s.Keeps t) (ok : s.ok) : t.ok := ⟨by rw [h.win]; exact ok.1, h.byp ok.2⟩
theorem TQ.next {w w' : World} {hi b : Nat} {r : FS × List UInt8 × Int} {e : Ending} (h : TQ w b r e w') (hb : hi ≤ b) (hh : hi ≤ w.heap.size) :
    ∃ a' cap', e = .returned (.tuple #[.slice a' r.2.1.length cap', .int .i64 r.2.2]) ∧ FAt w' b r.1 ∧ BAt w' a' r.2.1 ∧ Below hi w w' := by
  obtain ⟨a', cap', h1, h2, h3, h4⟩ := h
  exact ⟨a', cap', h1, h2, h3, h4.toBelow hh (fun k hk => by subst hk; exact hb)⟩

theorem toU8 (n : Int) : ((UInt8.ofNat (n % 256).toNat).toNat : Int) = n % 256 := by
  have h : (n % 256).toNat < 256 := by omega
  rw [UInt8.toNat_ofNat_of_lt' h]
  omega
theorem mod256 (a : Int) : (wrap64 (a.tmod 256 + 256)).tmod 256 = a % 256 := by
  have h : a.tmod 256 + 256 = a % 256 + 256 ∨ a.tmod 256 + 256 = a % 256 ∧ 0 ≤ a % 256 := by
    rcases Int.le_total 0 a with h | h
    · left; rw [Int.tmod_eq_emod_of_nonneg h]
    · have e : a.tmod 256 = -((-a) % 256) := by
        rw [show a = -(-a) by omega, Int.neg_tmod, Int.tmod_eq_emod_of_nonneg (by omega)]; simp
      rw [e]
      omega
  have hw : ∀ x : Int, 0 ≤ x → x < 1000 → wrap64 x = x := fun x h1 h2 => by
    unfold wrap64; omega
  rcases h with h | ⟨h, -⟩
  · rw [h, hw _ (by omega) (by omega), Int.tmod_eq_emod_of_nonneg (by omega)]; omega
  · rw [h, hw _ (by omega) (by omega), Int.tmod_eq_emod_of_nonneg (by omega)]; omega
theorem in256 (a : Int) : ∃ n, (wrap64 (a.tmod 256 + 256)).tmod 256 = n ∧ 0 ≤ n ∧ n ≤ 255 := ⟨a % 256, mod256 a, by omega, by omega⟩
def dataF (n : Int) : TF := ⟨false, false, 7, 1, n, [UInt8.ofNat (n % 256).toNat]⟩
theorem lit1 (w : World) (x0 : UInt8) (t : TypeId) (f : Nat × Nat) : BAt (w.alloc (.cells #[.int .u8 (x0.toNat : Int)] t f)) (some ⟨w.heap.size, 0, none⟩) [x0] := by
  refine .inr ⟨_, _, rfl, by simp, fun i hi => ?_⟩
  rw [Joins.cell_alloc_mark_at _ _ _ _ _ _ rfl]
  match i, hi with
  | 0, _ => rfl
theorem lit2 (w : World) (x0 x1 : UInt8) (t : TypeId) (f : Nat × Nat) : BAt (w.alloc (.cells #[.int .u8 (x0.toNat : Int), .int .u8 (x1.toNat : Int)] t f)) (some ⟨w.heap.size, 0, none⟩) [x0, x1] := by
  refine .inr ⟨_, _, rfl, by simp, fun i hi => ?_⟩
  rw [Joins.cell_alloc_mark_at _ _ _ _ _ _ rfl]
  match i, hi with
  | 0, _ => rfl
  | 1, _ => rfl
set_option maxRecDepth 20000 in
theorem data_any (n : Int) (w : World) : Calls Try.prog 10 #[.int .i64 n] w fun e w' => ∃ p cap, e = .returned ((dataF n).val (some p) cap) ∧ BAt w' (some p) (dataF n).dat ∧ 1 ≤ cap ∧ w.heap.size ≤ p.block ∧ Below w.heap.size w w' := by
  go_enter Try.func10, Try.ntmps10
  go_wp2
  refine bodyPost_ret (v := (dataF n).val (some ⟨w.heap.size + 1, 0, none⟩) 1) (by simp [results, Try.results10, go_sem, TF.val, dataF, *]) rfl ?_
  refine ⟨_, _, rfl, ?_, Nat.le_refl _, by simp, al (al (Below.refl _ _) _) _⟩
  have h := lit1 (w.alloc (Obj.cells #[Value.bool false, Value.bool false, Value.int IntKind.i64 7, Value.int IntKind.i64 1, Value.int IntKind.i64 n, Value.slice (some { block := w.heap.size + 1, off := 0 }) 1 1] 31)) (UInt8.ofNat (n % 256).toNat) 5 (0, 0)
  rw [toU8] at h
  simpa [dataF] using h
/-- bytes do not lie in a Farm -/
theorem FAt.apart {w : World} {b : Nat} {s : FS} {a : Option Addr} {l : List UInt8} (h : FAt w b s) (hd : BAt w a l) (hl : l ≠ []) : ∀ p, a = some p → p.block ≠ b := by
  intro p hp e
  rcases hd with hd | ⟨k, off, rfl, h2, h3⟩
  · exact hl hd
  · cases hp
    subst e
    have h4 := h3 0 (List.length_pos_iff.2 hl)
    have h5 := h.cell (off + 0)
    rw [h4] at h5
    unfold FS.cells at h5
    match hoff : off + 0, h5 with
    | 0, h5 => simp at h5
    | 1, h5 => simp at h5
    | 2, h5 => simp at h5
    | 3, h5 => simp at h5
    | 4, h5 => simp at h5
    | 5, h5 => simp at h5
    | 6, h5 => simp at h5
    | 7, h5 => simp at h5
    | n + 8, h5 => simp at h5
theorem FAt.keep {w w' : World} {b : Nat} {s : FS} {a : Option Addr} {l : List UInt8} (h : FAt w b s) (hd : BAt w a l) (hf : Fr (fun k => k = b) w w') : BAt w' a l := by
  by_cases hl : l = []
  · exact .inl hl
  · exact hd.fr hf (h.apart hd hl)
/-- data, then Take, of a Farm that lies above hi -/
theorem take_data {b hi : Nat} {s : FS} {n : Int} {room : Bool} {p : Addr} {cap : Nat} {w w1 : World} (h : FAt w b s) (ok : s.ok) (hb : hi ≤ b) (hd : BAt w1 (some p) (dataF n).dat) (hcap : 1 ≤ cap) (hp : w.heap.size ≤ p.block) (hB : Below w.heap.size w w1) (hh : hi ≤ w.heap.size) :
    Calls Try.prog 9 #[.pointer (some ⟨b, 0, none⟩), (dataF n).val (some p) cap, .bool room] w1 (fun e w' => ∃ a' cap', e = .returned (.tuple #[.slice a' (takeF s (dataF n) room).2.1.length cap', .int .i64 (takeF s (dataF n) room).2.2]) ∧ FAt w' b (takeF s (dataF n) room).1 ∧ (takeF s (dataF n) room).1.ok ∧ BAt w' a' (takeF s (dataF n) room).2.1 ∧ Below hi w w' ∧ Fr (fun k => k = b) w w') :=
  (take_any b s (dataF n) room (some p) cap w1 (h.below hB (Nat.le_refl _)) ok hd hcap (fun q hq e => by cases hq; have := h.lt; omega)).mono fun e w' hq => by
    have := hB.size
    obtain ⟨a', cap', h1, h2, h3, h4⟩ := hq
    have h5 := (Fr.of_below (S := fun k => k = b) hB (Nat.le_refl _)).trans h4
    exact ⟨a', cap', h1, h2, (take_keeps s _ room).ok ok, h3, h5.toBelow hh (fun k hk => by subst hk; exact hb), h5⟩
theorem f34_1 (a : Int) (b c d : Bool) (e f : Int) (w : World) : Sem.run Try.prog (Instr.field 34 (.agg #[.int .i64 a, .bool b, .bool c, .bool d, .int .i64 e, .int .i64 f]) 1) w = .ok (.bool b) w := by rfl
theorem f34_4 (a : Int) (b c d : Bool) (e f : Int) (w : World) : Sem.run Try.prog (Instr.field 34 (.agg #[.int .i64 a, .bool b, .bool c, .bool d, .int .i64 e, .int .i64 f]) 4) w = .ok (.int .i64 e) w := by rfl
theorem f34_5 (a : Int) (b c d : Bool) (e f : Int) (w : World) : Sem.run Try.prog (Instr.field 34 (.agg #[.int .i64 a, .bool b, .bool c, .bool d, .int .i64 e, .int .i64 f]) 5) w = .ok (.int .i64 f) w := by rfl
def al0 : FS := ⟨7, 4, 1, false, false, false, 0, 0⟩
theorem al_t0 : takeF al0 (dataF 0) true = (⟨7, 4, 1, false, false, false, 0, 1⟩, [0], 1) := by rfl
theorem al_t1 : takeF ⟨7, 4, 1, false, false, false, 0, 1⟩ (dataF 2) true = (⟨7, 4, 1, false, false, true, 0, 1⟩, [], 3) := by rfl
theorem al_t2 : takeF ⟨7, 4, 1, false, false, true, 0, 1⟩ (dataF 1) true = (⟨7, 4, 1, false, false, false, 0, 2⟩, [1], 1) := by rfl
theorem al_t3 : takeF ⟨7, 4, 1, false, false, false, 0, 2⟩ (dataF 0) true = (⟨7, 4, 1, false, false, false, 0, 2⟩, [], 2) := by rfl
theorem al_t4 : takeF ⟨7, 4, 1, false, false, false, 0, 2⟩ (dataF 9) true = (⟨7, 4, 1, true, false, false, 0, 2⟩, [], 4) := by rfl
end Go.Proofs.Ytgdmonckfjnlfaa

/- Small functions of layer 11: slices.Clone, Pending, NewJoiner, Clone; Take whole. No condition. -/
import Derived.Test.YtdllngedmhihkaaE
import Derived.Lib.SliceRun
namespace Go.Proofs.Ytdllngedmhihkaa
open Go.RowKit Go.Deep Go.ChangeShapes Go.WideShapes Go.ChangeAt
set_option linter.unusedVariables false

theorem Take_any (b : Nat) (v : Value) (s : JS) (c sc : Bool) (ap fl ct : Int) (a : Option Addr) (l : List UInt8) (cap : Nat) (w : World) (h : JAt w b v s)
    (hl : l.length ≤ 1000000000) (hd : s.dat.length ≤ 1000000000) (hm0 : 0 ≤ s.most) (hm1 : s.most ≤ 9223372036854775807) (hba : BAt w a l) (hna : l ≠ [] → ∀ p, a = some p → v.ownBlock ≠ some p.block) :
    Calls Try.prog 14 #[.pointer (some ⟨b, 0, none⟩), Pk c sc ap fl ct a l.length cap] w (TakeQ w b v (takeS s ap fl ct l)) := by
  by_cases h1 : okB ap ct = false ∨ fl < 0 ∨ 3 < fl ∨ l = []
  · exact take_arg b v s c sc ap fl ct a l cap w h hl h1
  · have hk : okB ap ct = true := by
      cases e : okB ap ct
      · exact absurd (.inl e) h1
      · rfl
    have hne : l ≠ [] := fun e => h1 (.inr (.inr (.inr e)))
    have hf0 : ¬ fl < 0 := fun e => h1 (.inr (.inl e))
    have hf3 : ¬ 3 < fl := fun e => h1 (.inr (.inr (.inl e)))
    by_cases hx : fl = 1 ∨ fl = 3 ∨ (fl = 0 ∨ fl = 2) ∧ s.op = true ∧ ap = s.apid ∧ ct = addC s.last 1
    · exact take_fit b v s c sc ap fl ct a l cap w h hl hd hm0 hm1 hba (hna hne) hk hne hx
    · have hf : fl = 0 ∨ fl = 2 := by omega
      have hx' : ¬ (s.op = true ∧ ap = s.apid ∧ ct = addC s.last 1) := fun e => hx (.inr (.inr ⟨hf, e⟩))
      cases ho : s.op
      · exact take_form1 b v s c sc ap fl ct a l cap w h hl hk hne hf ho
      · by_cases ha : ap = s.apid
        · exact take_form3 b v s c sc ap fl ct a l cap w h hl hk hne hf ⟨ho, ha, fun e => hx' ⟨ho, ha, e⟩⟩
        · exact take_form2 b v s c sc ap fl ct a l cap w h hl hk hne hf ⟨ho, ha⟩

/-- a call gives new bytes -/
def NewB (w : World) (l : List UInt8) (e : Ending) (w' : World) : Prop :=
  ∃ v, e = .returned v ∧ w'.ownsRow w.heap.size 5 1 v l.length (encB l) ∧ Below w.heap.size w w'
theorem eqlN (a : Option Addr) (n c : Nat) (w : World) : (binOp .eql 22 (.slice a n c) (.slice none 0 0)).run Try.prog w = .ok (.bool a.isNone) w := Lib.run_eql_slice_nil w 22 5 a n c 0 0 Try.underlying22
theorem sclone_nil (w : World) : Calls Try.prog 22 #[.slice none 0 0] w fun e w' => e = .returned (.slice none 0 0) ∧ w' = w := by
  have e1 := eqlN none 0 0
  go_enter Try.func22, Try.ntmps22
  go_wp2
  go_ret
  exact ⟨rfl, rfl⟩
theorem sclone_some (b off cap : Nat) (l : List UInt8) (w : World) (hl : l.length ≤ 1000000000) (hc : ∀ i (h : i < l.length), w.cell? ⟨b, off + i, none⟩ = some (.int .u8 (l[i].toNat : Int))) (hb : l = [] ∨ b < w.heap.size) :
    Calls Try.prog 22 #[.slice (some ⟨b, off, none⟩) l.length cap] w (NewB w l) := by
  obtain ⟨j0, hj, hy0, hy1, hy2⟩ := info_parts info5
  have hb' : BAt w (some ⟨b, off, none⟩) l := by
    rcases hb with h | h
    · exact .inl h
    · exact .inr ⟨b, off, rfl, h, hc⟩
  have hc2 : ∀ i (h : i < l.length), (w.alloc (.cells #[] 5)).cell? ⟨b, off + i, none⟩ = some (.int .u8 (l[i].toNat : Int)) := fun i hi => by
    rcases hb with h | h
    · subst h; simp at hi
    · rw [← hc i hi]; exact World.cell?_of_block (Below.heap_alloc _ _ _ h)
  have HC := Lib.hid (BAt.news hc2)
  have e1 := eqlN (some ⟨b, off, none⟩) l.length cap
  simp only [Option.isNone_some] at e1
  clear hc hb hc2 hb'
  go_enter Try.func22, Try.ntmps22
  go_wp2_with (at_builtin; refine wpList_append_own _ rfl _ _ 22 rfl w.heap.size 5 j0 (.int .u8 0) 1 1 Try.underlying22 hj hy0 hy1 hy2 rfl (by decide) _ 0 [] rfl (World.ownsRow_made _ #[] 0 (by omega) (by unfold maxLen; omega) rfl) ⟨b, off, none⟩ l.length cap (encB l) rfl (by simp [encB]) HC.out (encB_one _) (by unfold maxLen; omega) (by omega) (by simp) ?_)
  intro v' w1 hown hgrow _
  have HO := Lib.hid (show w1.ownsRow w.heap.size 5 1 v' l.length (encB l) by simpa using hown)
  have HG := Lib.hid hgrow
  clear hown hgrow
  go_wp2_with fail
  go_ret
  exact ⟨_, rfl, HO.out, ((Below.refl _ _).alloc (Nat.le_refl _) _).grown HG.out (by simp) (fun k hk => by simp [Value.ownBlock] at hk; omega)⟩
theorem pend_any (b : Nat) (v : Value) (s : JS) (w : World) (h : JAt w b v s) :
    Calls Try.prog 15 #[.pointer (some ⟨b, 0, none⟩)] w fun e w' => e = .returned (.int .i64 s.dat.length) ∧ w' = w := by
  obtain ⟨hb, ⟨c0, c1, c2, c3, c4, c5⟩, f1, f3, f4, f5⟩ := h.walk
  obtain ⟨av, cap, rfl⟩ := h.slice
  clear h
  go_enter Try.func15, Try.ntmps15
  go_wp2
  go_ret
  exact ⟨rfl, rfl⟩
theorem new_any (m : Int) (w : World) : Calls Try.prog 13 #[.int .i64 m] w fun e w' => e = .returned (.pointer (some ⟨w.heap.size, 0, none⟩)) ∧ JAt w' w.heap.size (.slice none 0 0) ⟨false, max m 0, 0, 0, []⟩ ∧ Below w.heap.size w w' := by
  by_cases hm : 0 ≤ m
  · go_enter Try.func13, Try.ntmps13
    go_wp2
    go_ret
    refine ⟨rfl, ⟨Blk.cast (Blk.new w 48 _) ?_, World.ownsRow_nil _ _ _ _, by simp [Value.ownBlock]⟩, (Below.refl _ _).alloc (Nat.le_refl _) _⟩
    rw [JS.cells, Int.max_eq_left hm]
  · have hm' : max m 0 = 0 := Int.max_eq_right (by omega)
    go_enter Try.func13, Try.ntmps13
    go_wp2
    go_ret
    refine ⟨rfl, ⟨Blk.cast (Blk.new w 48 _) ?_, World.ownsRow_nil _ _ _ _, by simp [Value.ownBlock]⟩, (Below.refl _ _).alloc (Nat.le_refl _) _⟩
    simp [JS.cells]
theorem encB_nil {l : List UInt8} (h : encB l = []) : l = [] := by simpa [encB] using h
theorem own_bytes {w : World} {v : Value} {n : Nat} {l : List UInt8} {base : Nat} (h : w.ownsRow base 5 1 v n (encB l)) : v = .slice none 0 0 ∨ ∃ g cap, v = .slice (some ⟨g, 0, none⟩) l.length cap ∧ g < w.heap.size ∧ ∀ i (h : i < l.length), w.cell? ⟨g, 0 + i, none⟩ = some (.int .u8 (l[i].toNat : Int)) := by
  have h1 : n = l.length := by have := h.1; rw [encB_length] at this; omega
  subst h1
  rcases h.2 with ⟨h, _⟩ | ⟨g, cap, cur, rfl, _, hg, _⟩
  · exact .inl h
  · refine .inr ⟨g, cap, rfl, lt_of_block hg, fun i hi => ?_⟩
    have := h.cells (g := g) rfl i (.int .u8 (l[i].toNat : Int)) (by simp [encB, hi])
    rw [add_plain] at this
    exact this
/-- Clone of a Joiner -/
def CloneQ (w : World) (b : Nat) (s : JS) (e : Ending) (w' : World) : Prop :=
  ∃ v', e = .returned (.pointer (some ⟨w.heap.size, 0, none⟩)) ∧ JAt w' w.heap.size v' s ∧ (∀ k, v'.ownBlock = some k → w.heap.size ≤ k) ∧ Below w.heap.size w w'
theorem clone_any (b : Nat) (v : Value) (s : JS) (w : World) (h : JAt w b v s) (hd : s.dat.length ≤ 1000000000) :
    Calls Try.prog 17 #[.pointer (some ⟨b, 0, none⟩)] w (CloneQ w b s) := by
  obtain ⟨hb, ⟨c0, c1, c2, c3, c4, c5⟩, f1, f3, f4, f5⟩ := h.walk
  have H := Lib.hid h
  have ho := own_bytes h.2.1
  have hn : v = .slice none 0 0 → s.dat = [] := by
    intro e
    rcases h.2.1.2 with ⟨_, h'⟩ | ⟨g, cap', cur, h, _⟩
    · exact List.length_eq_zero_iff.1 h'
    · rw [e] at h; cases h
  clear h
  rcases ho with rfl | ⟨g, cap, rfl, hg, hcs⟩
  · have hd0 := Lib.hid (hn rfl)
    clear hn
    go_enter Try.func17, Try.ntmps17
    go_wp2_with (go_at_call 22; refine (sclone_nil _).mono ?_; rintro e w' ⟨rfl, rfl⟩)
    go_ret
    exact ⟨_, rfl, ⟨Blk.cast (Blk.new w 48 _) rfl, by rw [hd0.out]; exact World.ownsRow_nil _ _ _ _, by simp [Value.ownBlock]⟩, fun k hk => by simp [Value.ownBlock] at hk, (Below.refl _ _).alloc (Nat.le_refl _) _⟩
  · clear hn
    have HC := Lib.hid hcs
    clear hcs
    go_enter Try.func17, Try.ntmps17
    go_wp2_with fail
    refine (sclone_some g 0 cap s.dat _ hd (fun i hi => (World.cell?_of_block (Below.heap_alloc _ _ _ hg)).trans (HC.out i hi)) (.inr (by simp; omega))).mono ?_
    rintro e w1 ⟨v1, rfl, hown, hB⟩
    obtain ⟨a1, c1, rfl⟩ : ∃ a1 c1, v1 = .slice a1 s.dat.length c1 := by
      rcases hown.2 with ⟨h, h'⟩ | ⟨g, cap', cur, h, _⟩
      · exact ⟨none, 0, by rw [h, h']⟩
      · exact ⟨_, cap', h⟩
    have HB1 := Lib.hid ((Blk.new w 48 [.bool true, .bool s.op, .int .i64 s.most, .int .i64 s.apid, .int .i64 s.last, .slice (some ⟨g, 0, none⟩) s.dat.length cap]).below hB (Nat.le_refl _))
    have d5 := HB1.out.at 5 rfl
    have df := HB1.out.free 5
    have HO := Lib.hid hown
    have hz := hB.size
    have HBB := Lib.hid hB
    clear hown hB
    go_wp2_with fail
    go_ret
    have hne : ∀ k, (Value.slice a1 s.dat.length c1).ownBlock = some k → w.heap.size < k := fun k hk => by have := (HO.out.lt k hk).1; simp at this; omega
    exact ⟨_, rfl, ⟨Blk.cast (HB1.out.setCell 5 _) rfl, own_set (p := ⟨w.heap.size, 5, none⟩) (Joins.ownsRow_le HO.out (Nat.zero_le _)) (fun e => by have := hne _ e; simp at this) _, fun e => by have := hne _ e; omega⟩, fun k hk => Nat.le_of_lt (hne k hk), ((((Below.refl _ _).alloc (Nat.le_refl _) _).trans (HBB.out.mono (by simp))).setCell (Nat.le_refl _) _)⟩
end Go.Proofs.Ytdllngedmhihkaa

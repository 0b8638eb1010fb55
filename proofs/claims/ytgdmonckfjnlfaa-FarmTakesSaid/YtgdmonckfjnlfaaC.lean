/- Contracts of Directive, control, bytes.Clone, New, Report, Clone. No condition. -/
import Derived.Test.YtgdmonckfjnlfaaB
import Derived.BigQuiet
import Derived.Deep.QuietTactic
namespace Go.Proofs.Ytgdmonckfjnlfaa
open Go.RowKit Go.Deep Go.ChangeShapes Go.WideShapes Go.ChangeAt
set_option linter.unusedVariables false

/-- the directive of a frame -/
def dirS (x : TF) : Int × Int × Bool :=
  if x.byp = false ∨ x.ctl = false then (0, 0, false)
  else if x.dat = [0] then (0, 0, true)
  else if x.dat.length = 3 ∧ x.dat.head? = some 0x82 ∧ x.dat[1]? = some 0 then (1, ((x.dat[2]?.getD 0).toNat : Int), true)
  else (0, 0, false)
/-- what a call of Directive leaves -/
def DQ (w : World) (x : TF) (a : Option Addr) (cap : Nat) (r : Int × Int × Bool) (e : Ending) (w' : World) : Prop := e = .returned (.tuple #[.int .i64 r.1, .int .i64 r.2.1, .bool r.2.2]) ∧ Below w.heap.size w w'
theorem eqlN (a : Option Addr) (n c : Nat) (w : World) : (binOp .eql 27 (.slice a n c) (.slice none 0 0)).run Try.prog w = .ok (.bool a.isNone) w := Lib.run_eql_slice_nil w 27 5 a n c 0 0 Try.underlying27
/-- a call gives new bytes -/
def NewB (w : World) (l : List UInt8) (e : Ending) (w' : World) : Prop :=
  ∃ v, e = .returned v ∧ w'.ownsRow w.heap.size 5 1 v l.length (encB l) ∧ Below w.heap.size w w'
theorem sclone_nil (w : World) : Calls Try.prog 22 #[.slice none 0 0] w (NewB w []) := by
  have e1 := eqlN none 0 0
  go_enter Try.func22, Try.ntmps22
  go_wp2
  go_ret
  exact ⟨.slice none 0 0, rfl, World.ownsRow_nil _ _ _ _, Below.refl _ _⟩
theorem info5 : (Try.prog.info? 5).map (fun i => (i.zero, i.size, i.bytes)) = some (some (.int .u8 0), 1, 1) := by kernel_rfl
theorem sclone_some (b off cap : Nat) (l : List UInt8) (w : World) (hl : l.length ≤ 1000000000) (hc : ∀ i (h : i < l.length), w.cell? ⟨b, off + i, none⟩ = some (.int .u8 (l[i].toNat : Int))) (hb : l = [] ∨ b < w.heap.size) :
    Calls Try.prog 22 #[.slice (some ⟨b, off, none⟩) l.length cap] w (NewB w l) := by
  obtain ⟨j0, hj, hy0, hy1, hy2⟩ := info_parts info5
  have hc2 : ∀ i (h : i < l.length), (w.alloc (.cells #[] 5)).cell? ⟨b, off + i, none⟩ = some (.int .u8 (l[i].toNat : Int)) := fun i hi => by
    rcases hb with h | h
    · subst h; simp at hi
    · rw [← hc i hi]; exact World.cell?_of_block (Below.heap_alloc _ _ _ h)
  have HC := Lib.hid (BAt.news hc2)
  have e1 := eqlN (some ⟨b, off, none⟩) l.length cap
  simp only [Option.isNone_some] at e1
  clear hc hb hc2
  go_enter Try.func22, Try.ntmps22
  go_wp2_with (at_builtin; refine wpList_append_own _ rfl _ _ 27 rfl w.heap.size 5 j0 (.int .u8 0) 1 1 Try.underlying27 hj hy0 hy1 hy2 rfl (by decide) _ 0 [] rfl (World.ownsRow_made _ #[] 0 (by omega) (by unfold maxLen; omega) rfl) ⟨b, off, none⟩ l.length cap (encB l) rfl (by simp [encB]) HC.out (encB_one _) (by unfold maxLen; omega) (by omega) (by simp) ?_)
  intro v' w1 hown hgrow _
  have HO := Lib.hid (show w1.ownsRow w.heap.size 5 1 v' l.length (encB l) by simpa using hown)
  have HG := Lib.hid hgrow
  clear hown hgrow
  go_wp2_with fail
  go_ret
  exact ⟨_, rfl, HO.out, ((Below.refl _ _).alloc (Nat.le_refl _) _).grown HG.out (by simp) (fun k hk => by simp [Value.ownBlock] at hk; omega)⟩
theorem clone_bytes (a : Option Addr) (cap : Nat) (l : List UInt8) (w : World) (hl : l.length ≤ 1000000000) (hne : l ≠ []) (hb : BAt w a l) : Calls Try.prog 22 #[.slice a l.length cap] w (NewB w l) := by
  obtain ⟨b, off, rfl, h2, h3⟩ := hb.resolve_left hne
  exact sclone_some b off cap l w hl h3 (.inr h2)
theorem new_ok (c ch win : Int) (w : World) (h : 0 ≤ c ∧ c ≤ 1023 ∧ 0 ≤ ch ∧ ch ≤ 7) : Calls Try.prog 8 #[.int .i64 c, .int .i64 ch, .int .i64 win] w fun e w' => e = .returned (.pointer (some ⟨w.heap.size, 0, none⟩)) ∧ FAt w' w.heap.size ⟨c, min (max win 1) 127, ch, false, false, false, 0, 0⟩ ∧ Below w.heap.size w w' := by
  obtain ⟨h1, h2, h3, h4⟩ := h
  go_enter Try.func8, Try.ntmps8
  go_wp2
  all_goals
    go_ret
    refine ⟨rfl, Blk.cast (Blk.new w 53 _) ?_, al (Below.refl _ _) _⟩
    simp [FS.cells]
    try omega
theorem new_bad (c ch win : Int) (w : World) (h : ¬ (0 ≤ c ∧ c ≤ 1023 ∧ 0 ≤ ch ∧ ch ≤ 7)) : Calls Try.prog 8 #[.int .i64 c, .int .i64 ch, .int .i64 win] w fun e w' => e = .returned (.pointer none) ∧ w' = w := by
  by_cases h1 : c < 0
  · go_enter Try.func8, Try.ntmps8
    go_wp2
    go_ret
    exact ⟨rfl, rfl⟩
  · by_cases h2 : 1023 < c
    · go_enter Try.func8, Try.ntmps8
      go_wp2
      go_ret
      exact ⟨rfl, rfl⟩
    · by_cases h3 : ch < 0
      · go_enter Try.func8, Try.ntmps8
        go_wp2
        go_ret
        exact ⟨rfl, rfl⟩
      · have h4 : 7 < ch := by omega
        go_enter Try.func8, Try.ntmps8
        go_wp2
        go_ret
        exact ⟨rfl, rfl⟩
/-- the control word as a value -/
def FS.word (s : FS) : Value := .agg #[.int .i64 s.chan, .bool s.lock, .bool s.wait, .bool s.retr, .int .i64 s.byp, .int .i64 s.next]
theorem report_any (b : Nat) (s : FS) (w : World) (h : FAt w b s) (hw : 1 ≤ s.win) : Calls Try.prog 11 #[.pointer (some ⟨b, 0, none⟩)] w fun e w' => e = .returned s.word ∧ Below w.heap.size w w' := by
  obtain ⟨hb, ⟨c0, c1, c2, c3, c4, c5, c6, c7⟩, -⟩ := h.walk
  have H := Lib.hid h
  clear h
  go_enter Try.func11, Try.ntmps11
  go_wp2_with (go_at_call 17; refine (none_any b s _ (H.out.alloc _) hw).mono ?_; rintro e w2 ⟨rfl, rfl⟩)
  exact bodyPost_ret (v := s.word) (by simp [results, Try.results11, go_sem, FS.word]) rfl ⟨rfl, al (Below.refl _ _) _⟩
theorem report_nil (w : World) : Calls Try.prog 11 #[.pointer none] w fun e w' => e = .returned (FS.word ⟨0, 0, 0, false, false, false, 0, 0⟩) ∧ Below w.heap.size w w' := by
  go_enter Try.func11, Try.ntmps11
  go_wp2_with (go_at_call 17; refine (none_nil _).mono ?_; rintro e w2 ⟨rfl, rfl⟩)
  exact bodyPost_ret (v := FS.word ⟨0, 0, 0, false, false, false, 0, 0⟩) (by simp [results, Try.results11, go_sem, FS.word]) rfl ⟨rfl, al (Below.refl _ _) _⟩
theorem clone_any (b : Nat) (s : FS) (w : World) (h : FAt w b s) (hw : 1 ≤ s.win) : Calls Try.prog 13 #[.pointer (some ⟨b, 0, none⟩)] w fun e w' => e = .returned (.pointer (some ⟨w.heap.size, 0, none⟩)) ∧ FAt w' w.heap.size s ∧ Below w.heap.size w w' := by
  obtain ⟨hb, ⟨c0, c1, c2, c3, c4, c5, c6, c7⟩, -⟩ := h.walk
  have H := Lib.hid h
  clear h
  go_enter Try.func13, Try.ntmps13
  go_wp2_with (go_at_call 17; refine (none_any b s _ H.out hw).mono ?_; rintro e w2 ⟨rfl, rfl⟩)
  go_ret
  exact ⟨rfl, Blk.cast (Blk.new _ 53 _) rfl, al (Below.refl _ _) _⟩
theorem clone_nil (w : World) : Calls Try.prog 13 #[.pointer none] w fun e w' => e = .returned (.pointer none) ∧ w' = w := by
  go_enter Try.func13, Try.ntmps13
  go_wp2_with (go_at_call 17; refine (none_nil _).mono ?_; rintro e w2 ⟨rfl, rfl⟩)
  go_ret
  exact ⟨rfl, rfl⟩
end Go.Proofs.Ytgdmonckfjnlfaa

/- Contracts of sequence, control, Valid, Directive. No condition. -/
import Derived.Test.YtgdmonckfjnlfaaA
import Derived.Lib.SliceRun
namespace Go.Proofs.Ytgdmonckfjnlfaa
open Go.RowKit Go.Deep Go.ChangeShapes Go.WideShapes Go.ChangeAt
set_option linter.unusedVariables false

/-- what sequence makes of a number -/
def seqS (s : FS) (seq : Int) (room : Bool) : FS × Int :=
  if s.lock = true then (s, 4)
  else if distC s.next seq = 0 ∧ room = true then ({ s with next := addC seq 1, wait := false, retr := false }, 1)
  else if distC s.next seq = 0 then ({ s with wait := true, retr := true }, 6)
  else if distC s.next seq < s.win then ({ s with retr := true }, 3)
  else if 256 - s.win ≤ distC s.next seq then (s, 2)
  else ({ s with lock := true }, 4)
/-- what a call leaves -/
def FQ (w : World) (b : Nat) (r : FS × Int) (e : Ending) (w' : World) : Prop := e = .returned (.int .i64 r.2) ∧ FAt w' b r.1 ∧ Fr (fun k => k = b) w w'
theorem dist_bd (a b : Int) : 0 ≤ distC a b ∧ distC a b < 256 := by
  unfold distC
  split <;> omega
set_option maxHeartbeats 1000000 in
theorem seq_any (b : Nat) (s : FS) (seq : Int) (room : Bool) (w : World) (h : FAt w b s) (hw : 1 ≤ s.win ∧ s.win ≤ 127) :
    Calls Try.prog 21 #[.pointer (some ⟨b, 0, none⟩), .int .i64 seq, .bool room] w (FQ w b (seqS s seq room)) := by
  obtain ⟨hb, ⟨c0, c1, c2, c3, c4, c5, c6, c7⟩, f3, f4, f5, f6, f7⟩ := h.walk
  have H := Lib.hid h
  obtain ⟨h1, h2⟩ := hw
  clear h
  obtain ⟨d1, d2⟩ := dist_bd s.next seq
  have HD := Lib.hid (Dist_any s.next seq w)
  have HS : Hid (seqS s seq room = if s.lock = true then (s, 4)
    else if distC s.next seq = 0 ∧ room = true then ({ s with next := addC seq 1, wait := false, retr := false }, 1)
    else if distC s.next seq = 0 then ({ s with wait := true, retr := true }, 6)
    else if distC s.next seq < s.win then ({ s with retr := true }, 3)
    else if 256 - s.win ≤ distC s.next seq then (s, 2)
    else ({ s with lock := true }, 4)) := rfl
  generalize distC s.next seq = d at d1 d2 HD HS
  cases hl : s.lock
  · rw [hl] at c3
    by_cases hd : d = 0
    · have hd0 : (d == 0) = true := by rw [hd]; rfl
      have HDz := Lib.hid hd
      clear hd
      cases room
      · go_enter Try.func21, Try.ntmps21
        go_wp2_with (go_at_call 27; refine (HD.out).mono ?_; rintro e w2 ⟨rfl, rfl⟩)
        go_ret
        rw [HS.out, hl, if_neg (by simp), if_neg (by simp), if_pos HDz.out]
        exact ⟨rfl, Blk.cast ((H.out.setCell 4 _).setCell 5 _) (by rw [FS.cells, hl]; rfl), ((Fr.refl _ _).set1 _ (by exact .inl rfl)).set1 _ (by exact .inl rfl)⟩
      · go_enter Try.func21, Try.ntmps21
        go_wp2_with (first
          | (go_at_call 27; refine (HD.out).mono ?_; rintro e w2 ⟨rfl, rfl⟩)
          | (go_at_call 28; refine (Add_any _ _ _).mono ?_; rintro e w2 ⟨rfl, rfl⟩))
        go_ret
        rw [HS.out, hl, if_neg (by simp), if_pos ⟨HDz.out, by trivial⟩]
        exact ⟨rfl, Blk.cast (((H.out.setCell 7 _).setCell 4 _).setCell 5 _) (by rw [FS.cells, hl]; rfl), (((Fr.refl _ _).set1 _ (by exact .inl rfl)).set1 _ (by exact .inl rfl)).set1 _ (by exact .inl rfl)⟩
    · have hd0 : (d == 0) = false := by rw [beq_eq_false_iff_ne]; exact hd
      have HDz := Lib.hid hd
      clear hd
      by_cases hdw : d < s.win
      · go_enter Try.func21, Try.ntmps21
        go_wp2_with (go_at_call 27; refine (HD.out).mono ?_; rintro e w2 ⟨rfl, rfl⟩)
        go_ret
        rw [HS.out, hl, if_neg (by simp), if_neg (fun h => HDz.out h.1), if_neg HDz.out, if_pos hdw]
        exact ⟨rfl, Blk.cast (H.out.setCell 5 _) (by rw [FS.cells, hl]; rfl), (Fr.refl _ _).set1 _ (by exact .inl rfl)⟩
      · by_cases hdr : 256 - s.win ≤ d
        · go_enter Try.func21, Try.ntmps21
          go_wp2_with (go_at_call 27; refine (HD.out).mono ?_; rintro e w2 ⟨rfl, rfl⟩)
          go_ret
          rw [HS.out, hl, if_neg (by simp), if_neg (fun h => HDz.out h.1), if_neg HDz.out, if_neg (Int.not_lt.2 hdw), if_pos hdr]
          exact ⟨rfl, H.out, Fr.refl _ _⟩
        · have HDR := Lib.hid hdr
          go_enter Try.func21, Try.ntmps21
          go_wp2_with (go_at_call 27; refine (HD.out).mono ?_; rintro e w2 ⟨rfl, rfl⟩)
          go_ret
          rw [HS.out, hl, if_neg (by simp), if_neg (fun h => HDz.out h.1), if_neg HDz.out, if_neg (Int.not_lt.2 hdw), if_neg (by have := HDR.out; omega)]
          exact ⟨rfl, Blk.cast (H.out.setCell 3 _) (by rw [FS.cells]; rfl), (Fr.refl _ _).set1 _ (by exact .inl rfl)⟩
  · rw [hl] at c3
    go_enter Try.func21, Try.ntmps21
    go_wp2
    go_ret
    rw [HS.out, hl, if_pos rfl]
    exact ⟨rfl, H.out, Fr.refl _ _⟩
/-- a frame -/
structure TF where
  byp : Bool
  ctl : Bool
  craft : Int
  chan : Int
  seq : Int
  dat : List UInt8
def TF.val (x : TF) (a : Option Addr) (cap : Nat) : Value := .agg #[.bool x.byp, .bool x.ctl, .int .i64 x.craft, .int .i64 x.chan, .int .i64 x.seq, .slice a x.dat.length cap]
def TF.box (x : TF) (a : Option Addr) (cap : Nat) : Obj := .cells #[.bool x.byp, .bool x.ctl, .int .i64 x.craft, .int .i64 x.chan, .int .i64 x.seq, .slice a x.dat.length cap] 31
def validB (x : TF) : Bool := decide (0 ≤ x.craft) && decide (x.craft ≤ 1023) && decide (0 ≤ x.chan) && decide (x.chan ≤ 7) && decide (0 ≤ x.seq) && decide (x.seq ≤ 255) && decide (1 ≤ x.dat.length) && decide ((x.dat.length : Int) ≤ 1017) && (x.byp || !x.ctl)
theorem valid_any (x : TF) (a : Option Addr) (cap : Nat) (w : World) : Calls Try.prog 18 #[x.val a cap] w fun e w' => e = .returned (.bool (validB x)) ∧ w' = w.alloc (x.box a cap) := by
  unfold TF.val TF.box
  by_cases c0 : x.craft < 0
  · go_enter Try.func18, Try.ntmps18
    go_wp2
    go_ret
    exact ⟨ret_bool (by unfold validB; simp; omega), rfl⟩
  · by_cases c1 : 1023 < x.craft
    · go_enter Try.func18, Try.ntmps18
      go_wp2
      go_ret
      exact ⟨ret_bool (by unfold validB; simp; omega), rfl⟩
    · by_cases c2 : x.chan < 0
      · go_enter Try.func18, Try.ntmps18
        go_wp2
        go_ret
        exact ⟨ret_bool (by unfold validB; simp; omega), rfl⟩
      · by_cases c3 : 7 < x.chan
        · go_enter Try.func18, Try.ntmps18
          go_wp2
          go_ret
          exact ⟨ret_bool (by unfold validB; simp; omega), rfl⟩
        · by_cases c4 : x.seq < 0
          · go_enter Try.func18, Try.ntmps18
            go_wp2
            go_ret
            exact ⟨ret_bool (by unfold validB; simp; omega), rfl⟩
          · by_cases c5 : 255 < x.seq
            · go_enter Try.func18, Try.ntmps18
              go_wp2
              go_ret
              exact ⟨ret_bool (by unfold validB; simp; omega), rfl⟩
            · by_cases c6 : (x.dat.length : Int) < 1
              · go_enter Try.func18, Try.ntmps18
                go_wp2
                go_ret
                exact ⟨ret_bool (by unfold validB; simp; omega), rfl⟩
              · by_cases c7 : 1017 < (x.dat.length : Int)
                · go_enter Try.func18, Try.ntmps18
                  go_wp2
                  go_ret
                  exact ⟨ret_bool (by unfold validB; simp; omega), rfl⟩
                · have HV : Hid (validB x = (x.byp || !x.ctl)) := by
                    unfold validB
                    rw [decide_eq_true (show 0 ≤ x.craft by omega), decide_eq_true (show x.craft ≤ 1023 by omega), decide_eq_true (show 0 ≤ x.chan by omega), decide_eq_true (show x.chan ≤ 7 by omega), decide_eq_true (show 0 ≤ x.seq by omega), decide_eq_true (show x.seq ≤ 255 by omega), decide_eq_true (show 1 ≤ x.dat.length by omega), decide_eq_true (show (x.dat.length : Int) ≤ 1017 by omega)]
                    rfl
                  cases hb : x.byp <;> cases hc : x.ctl
                  all_goals
                    rw [hb, hc] at HV
                    go_enter Try.func18, Try.ntmps18
                    go_wp2
                    go_ret
                    exact ⟨ret_bool (by rw [HV.out]; rfl), rfl⟩
end Go.Proofs.Ytgdmonckfjnlfaa

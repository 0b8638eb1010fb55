/- The Joiner of layer 11: what it holds, drop, Pending, NewJoiner. No condition. -/
import Derived.Test.YtdllngedmhihkaaB
import Derived.Test.YtdllngedmhihkaaS
namespace Go.Proofs.Ytdllngedmhihkaa
open Go.RowKit Go.Deep Go.ChangeShapes Go.WideShapes Go.ChangeAt
set_option linter.unusedVariables false

/-- a Joiner that New made -/
structure JS where
  op : Bool
  most : Int
  apid : Int
  last : Int
  dat : List UInt8
def JS.drop (s : JS) : JS := { s with op := false, dat := [] }
def JS.cells (s : JS) (v : Value) : List Value := [.bool true, .bool s.op, .int .i64 s.most, .int .i64 s.apid, .int .i64 s.last, v]
/-- the Joiner at block b, its bytes in v -/
def JAt (w : World) (b : Nat) (v : Value) (s : JS) : Prop := Blk w b 48 (s.cells v) ∧ w.ownsRow 0 5 1 v s.dat.length (encB s.dat) ∧ v.ownBlock ≠ some b
def JOwn (b : Nat) (v : Value) (k : Nat) : Prop := k = b ∨ v.ownBlock = some k
/-- the six cells of a Joiner, for the walk -/
theorem JAt.walk {w : World} {b : Nat} {v : Value} {s : JS} (h : JAt w b v s) : b < w.heap.size ∧
    (w.cell? ⟨b, 0, none⟩ = some (.bool true) ∧ w.cell? ⟨b, 1, none⟩ = some (.bool s.op) ∧ w.cell? ⟨b, 2, none⟩ = some (.int .i64 s.most) ∧
    w.cell? ⟨b, 3, none⟩ = some (.int .i64 s.apid) ∧ w.cell? ⟨b, 4, none⟩ = some (.int .i64 s.last) ∧ w.cell? ⟨b, 5, none⟩ = some v) ∧
    (w.frozen? ⟨b, 1, none⟩ = false ∧ w.frozen? ⟨b, 3, none⟩ = false ∧ w.frozen? ⟨b, 4, none⟩ = false ∧ w.frozen? ⟨b, 5, none⟩ = false) :=
  ⟨h.1.lt, ⟨h.1.at 0 rfl, h.1.at 1 rfl, h.1.at 2 rfl, h.1.at 3 rfl, h.1.at 4 rfl, h.1.at 5 rfl⟩, h.1.free 1, h.1.free 3, h.1.free 4, h.1.free 5⟩

theorem drop_any (b : Nat) (v : Value) (s : JS) (w : World) (h : JAt w b v s) :
    Calls Try.prog 24 #[.pointer (some ⟨b, 0, none⟩)] w fun e w' => e = .returned (.tuple #[]) ∧ JAt w' b (.slice none 0 0) s.drop ∧ Fr (· = b) w w' := by
  obtain ⟨hb, ⟨c0, c1, c2, c3, c4, c5⟩, f1, f3, f4, f5⟩ := h.walk
  have H := Lib.hid h
  clear h c0 c2 c3 c4
  go_enter Try.func24, Try.ntmps24
  go_wp2
  go_end0
  refine ⟨rfl, ⟨Blk.cast ((H.out.1.setCell 1 _).setCell 5 _) rfl, World.ownsRow_nil _ _ _ _, by simp [Value.ownBlock]⟩, ((Fr.refl _ _).set1 _ (by exact .inl rfl)).set1 _ (by exact .inl rfl)⟩

/-- what Take makes of a packet with these fields -/
def takeS (s : JS) (ap fl ct : Int) (l : List UInt8) : JS × List UInt8 × Bool × Int :=
  if okB ap ct = false ∨ fl < 0 ∨ 3 < fl ∨ l = [] then (s, [], false, 1)
  else if (fl = 0 ∨ fl = 2) ∧ ¬ (s.op = true ∧ ap = s.apid ∧ ct = addC s.last 1) then (s.drop, [], false, 4)
  else
    let s1 := if fl = 1 ∨ fl = 3 then s.drop else s
    if s1.most - s1.dat.length < l.length then (s1.drop, [], false, 6)
    else
      let s2 : JS := ⟨true, s1.most, ap, ct, s1.dat ++ l⟩
      if fl = 1 ∨ fl = 0 then (s2, [], false, 0) else (s2.drop, s2.dat, true, 0)
/-- what a call of Take leaves -/
def TakeQ (w : World) (b : Nat) (v : Value) (r : JS × List UInt8 × Bool × Int) (e : Ending) (w' : World) : Prop :=
  ∃ v' a' cap', e = .returned (.tuple #[.slice a' r.2.1.length cap', .bool r.2.2.1, .int .i64 r.2.2.2]) ∧ JAt w' b v' r.1 ∧ BAt w' a' r.2.1 ∧ (∀ p, a' = some p → p.block ≠ b) ∧ Fr (JOwn b v) w w' ∧ (∀ k, v'.ownBlock = some k → v.ownBlock = some k ∨ w.heap.size ≤ k)
theorem JAt.fr {w w' : World} {b : Nat} {v : Value} {s : JS} {S : Nat → Prop} (h : JAt w b v s) (hf : Fr S w w') (hs : ∀ k, JOwn b v k → ¬ S k) : JAt w' b v s :=
  ⟨h.1.fr hf (hs b (.inl rfl)), own_fr h.2.1 hf (fun k hk => hs k (.inr hk)), h.2.2⟩
theorem JAt.below {w w' : World} {b : Nat} {v : Value} {s : JS} {B : Nat} (h : JAt w b v s) (hf : Below B w w') (hB : w.heap.size ≤ B) : JAt w' b v s :=
  ⟨h.1.below hf hB, own_below h.2.1 hf hB, h.2.2⟩

theorem take_arg (b : Nat) (v : Value) (s : JS) (c sc : Bool) (ap fl ct : Int) (a : Option Addr) (l : List UInt8) (cap : Nat) (w : World) (h : JAt w b v s)
    (hl : l.length ≤ 1000000000) (hx : okB ap ct = false ∨ fl < 0 ∨ 3 < fl ∨ l = []) :
    Calls Try.prog 14 #[.pointer (some ⟨b, 0, none⟩), Pk c sc ap fl ct a l.length cap] w (TakeQ w b v (takeS s ap fl ct l)) := by
  have HF : Hid (takeS s ap fl ct l = (s, [], false, 1)) := if_pos hx
  obtain ⟨hb, ⟨c0, c1, c2, c3, c4, c5⟩, f1, f3, f4, f5⟩ := h.walk
  have H := Lib.hid h
  unfold Pk
  clear h c1 c2 c3 c4 c5 f1 f3 f4 f5
  cases hk : okB ap ct
  · go_enter Try.func14, Try.ntmps14
    go_wp2_with (go_at_call 19; refine (counted_any _ _ _).mono ?_; rintro e w2 ⟨rfl, rfl⟩)
    go_ret3
    rw [HF.out]
    exact ⟨v, none, 0, rfl, ⟨H.out.1.alloc _, H.out.2.1.alloc _, H.out.2.2⟩, BAt.nil _ _, by simp, (Fr.refl _ _).alloc _, fun k hk => .inl hk⟩
  · by_cases h1 : fl < 0
    · go_enter Try.func14, Try.ntmps14
      go_wp2_with (go_at_call 19; refine (counted_any _ _ _).mono ?_; rintro e w2 ⟨rfl, rfl⟩)
      go_ret3
      rw [HF.out]
      exact ⟨v, none, 0, rfl, ⟨H.out.1.alloc _, H.out.2.1.alloc _, H.out.2.2⟩, BAt.nil _ _, by simp, (Fr.refl _ _).alloc _, fun k hk => .inl hk⟩
    · by_cases h2 : 3 < fl
      · go_enter Try.func14, Try.ntmps14
        go_wp2_with (go_at_call 19; refine (counted_any _ _ _).mono ?_; rintro e w2 ⟨rfl, rfl⟩)
        go_ret3
        rw [HF.out]
        exact ⟨v, none, 0, rfl, ⟨H.out.1.alloc _, H.out.2.1.alloc _, H.out.2.2⟩, BAt.nil _ _, by simp, (Fr.refl _ _).alloc _, fun k hk => .inl hk⟩
      · obtain rfl : l = [] := by
          rcases hx with h | h | h | h
          · rw [hk] at h; cases h
          · exact absurd h h1
          · exact absurd h h2
          · exact h
        go_enter Try.func14, Try.ntmps14
        go_wp2_with (go_at_call 19; refine (counted_any _ _ _).mono ?_; rintro e w2 ⟨rfl, rfl⟩)
        go_ret3
        rw [HF.out]
        exact ⟨v, none, 0, rfl, ⟨H.out.1.alloc _, H.out.2.1.alloc _, H.out.2.2⟩, BAt.nil _ _, by simp, (Fr.refl _ _).alloc _, fun k hk => .inl hk⟩
end Go.Proofs.Ytdllngedmhihkaa

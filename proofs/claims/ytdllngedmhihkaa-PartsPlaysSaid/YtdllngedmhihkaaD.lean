/- Take of a Joiner: the ways on which a packet does not fit. No condition. -/
import Derived.Test.YtdllngedmhihkaaC
import Derived.BigRegion
import Derived.Deep.DeepFit
import Derived.Outline
import Derived.Deep.RegionLaw
namespace Go.Proofs.Ytdllngedmhihkaa
open Go.RowKit Go.Deep Go.ChangeShapes Go.WideShapes Go.ChangeAt
set_option linter.unusedVariables false

set_option maxHeartbeats 1000000 in
theorem take_form1 (b : Nat) (v : Value) (s : JS) (c sc : Bool) (ap fl ct : Int) (a : Option Addr) (l : List UInt8) (cap : Nat) (w : World) (h : JAt w b v s)
    (hl : l.length ≤ 1000000000) (hk : okB ap ct = true) (hne : l ≠ []) (hf : fl = 0 ∨ fl = 2) (hx : s.op = false) :
    Calls Try.prog 14 #[.pointer (some ⟨b, 0, none⟩), Pk c sc ap fl ct a l.length cap] w (TakeQ w b v (takeS s ap fl ct l)) := by
  have HF : Hid (takeS s ap fl ct l = (s.drop, [], false, 4)) := by
    have h1 : ¬ (okB ap ct = false ∨ fl < 0 ∨ 3 < fl ∨ l = []) := by rintro (h | h | h | h); rw [hk] at h; cases h; omega; omega; exact hne h
    show takeS s ap fl ct l = _
    unfold takeS
    rw [if_neg h1, if_pos ⟨hf, by simp [hx]⟩]
  obtain ⟨hb, ⟨c0, c1, c2, c3, c4, c5⟩, f1, f3, f4, f5⟩ := h.walk
  have H := Lib.hid h
  have hlb : ((l.length : Int) == 0) = false := by
    rw [beq_eq_false_iff_ne]; intro h; exact hne (List.length_eq_zero_iff.1 (by omega))
  unfold Pk
  obtain ⟨op, most, apid, last, dat⟩ := s
  simp only at c1 c2 c3 c4 hx
  subst hx
  clear h c2 c5 f1 f3 f4 f5 hne
  rcases hf with rfl | rfl
  all_goals
    go_enter Try.func14, Try.ntmps14
    go_wp2_with (go_at_call 19; refine (counted_any _ _ _).mono ?_; rintro e w2 ⟨rfl, rfl⟩)
    go_quiet (fail)
    go_wp2_with fail
    refine (drop_any b v ⟨false, most, apid, last, dat⟩ _ ⟨(H.out.1.alloc _).drewN _, own_drewN (H.out.2.1.alloc _) _, H.out.2.2⟩).mono ?_
    rintro e w3 ⟨rfl, hJ, hF⟩
    go_wp2_with fail
    go_ret3
    rw [HF.out]
    exact ⟨_, none, 0, rfl, hJ, BAt.nil _ _, by simp, (((Fr.refl _ _).alloc _).drewN _).then hF (fun k hk => .inl (.inl hk)), fun k hk => by simp [Value.ownBlock] at hk⟩
set_option maxHeartbeats 1000000 in
theorem take_form2 (b : Nat) (v : Value) (s : JS) (c sc : Bool) (ap fl ct : Int) (a : Option Addr) (l : List UInt8) (cap : Nat) (w : World) (h : JAt w b v s)
    (hl : l.length ≤ 1000000000) (hk : okB ap ct = true) (hne : l ≠ []) (hf : fl = 0 ∨ fl = 2) (hx : s.op = true ∧ ap ≠ s.apid) :
    Calls Try.prog 14 #[.pointer (some ⟨b, 0, none⟩), Pk c sc ap fl ct a l.length cap] w (TakeQ w b v (takeS s ap fl ct l)) := by
  have HF : Hid (takeS s ap fl ct l = (s.drop, [], false, 4)) := by
    have h1 : ¬ (okB ap ct = false ∨ fl < 0 ∨ 3 < fl ∨ l = []) := by rintro (h | h | h | h); rw [hk] at h; cases h; omega; omega; exact hne h
    show takeS s ap fl ct l = _
    unfold takeS
    rw [if_neg h1, if_pos ⟨hf, by simp [hx]⟩]
  obtain ⟨hb, ⟨c0, c1, c2, c3, c4, c5⟩, f1, f3, f4, f5⟩ := h.walk
  have H := Lib.hid h
  have hlb : ((l.length : Int) == 0) = false := by
    rw [beq_eq_false_iff_ne]; intro h; exact hne (List.length_eq_zero_iff.1 (by omega))
  unfold Pk
  obtain ⟨op, most, apid, last, dat⟩ := s
  simp only at c1 c2 c3 c4 hx
  obtain ⟨rfl, hx⟩ := hx
  have h9 : (ap != apid) = true := by rw [bne_iff_ne]; exact hx
  have HX := Lib.hid hx
  clear h c2 c5 f1 f3 f4 f5 hne hx
  rcases hf with rfl | rfl
  all_goals
    go_enter Try.func14, Try.ntmps14
    go_wp2_with (go_at_call 19; refine (counted_any _ _ _).mono ?_; rintro e w2 ⟨rfl, rfl⟩)
    go_quiet (fail)
    go_wp2_with fail
    refine (drop_any b v ⟨true, most, apid, last, dat⟩ _ ⟨(H.out.1.alloc _).drewN _, own_drewN (H.out.2.1.alloc _) _, H.out.2.2⟩).mono ?_
    rintro e w3 ⟨rfl, hJ, hF⟩
    go_wp2_with fail
    go_ret3
    rw [HF.out]
    exact ⟨_, none, 0, rfl, hJ, BAt.nil _ _, by simp, (((Fr.refl _ _).alloc _).drewN _).then hF (fun k hk => .inl (.inl hk)), fun k hk => by simp [Value.ownBlock] at hk⟩
set_option maxHeartbeats 1000000 in
theorem take_form3 (b : Nat) (v : Value) (s : JS) (c sc : Bool) (ap fl ct : Int) (a : Option Addr) (l : List UInt8) (cap : Nat) (w : World) (h : JAt w b v s)
    (hl : l.length ≤ 1000000000) (hk : okB ap ct = true) (hne : l ≠ []) (hf : fl = 0 ∨ fl = 2) (hx : s.op = true ∧ ap = s.apid ∧ ct ≠ addC s.last 1) :
    Calls Try.prog 14 #[.pointer (some ⟨b, 0, none⟩), Pk c sc ap fl ct a l.length cap] w (TakeQ w b v (takeS s ap fl ct l)) := by
  have HF : Hid (takeS s ap fl ct l = (s.drop, [], false, 4)) := by
    have h1 : ¬ (okB ap ct = false ∨ fl < 0 ∨ 3 < fl ∨ l = []) := by rintro (h | h | h | h); rw [hk] at h; cases h; omega; omega; exact hne h
    show takeS s ap fl ct l = _
    unfold takeS
    rw [if_neg h1, if_pos ⟨hf, by simp [hx]⟩]
  obtain ⟨hb, ⟨c0, c1, c2, c3, c4, c5⟩, f1, f3, f4, f5⟩ := h.walk
  have H := Lib.hid h
  have hlb : ((l.length : Int) == 0) = false := by
    rw [beq_eq_false_iff_ne]; intro h; exact hne (List.length_eq_zero_iff.1 (by omega))
  unfold Pk
  obtain ⟨op, most, apid, last, dat⟩ := s
  simp only at c1 c2 c3 c4 hx
  obtain ⟨rfl, rfl, hx⟩ := hx
  have h8 : (ap != ap) = false := by simp
  have h9 : (ct != addC last 1) = true := by rw [bne_iff_ne]; exact hx
  have HX := Lib.hid hx
  clear h c2 c5 f1 f3 f4 f5 hne hx
  rcases hf with rfl | rfl
  all_goals
    go_enter Try.func14, Try.ntmps14
    go_wp2_with (go_at_call 19; refine (counted_any _ _ _).mono ?_; rintro e w2 ⟨rfl, rfl⟩)
    go_quiet ((go_at_call 21; exact Calls.quiet_of_same ((Add_any _ _ _).mono fun _ _ h => ⟨h.1, h.2⟩)))
    go_wp2_with fail
    refine (drop_any b v ⟨true, most, ap, last, dat⟩ _ ⟨(H.out.1.alloc _).drewN _, own_drewN (H.out.2.1.alloc _) _, H.out.2.2⟩).mono ?_
    rintro e w3 ⟨rfl, hJ, hF⟩
    go_wp2_with fail
    go_ret3
    rw [HF.out]
    exact ⟨_, none, 0, rfl, hJ, BAt.nil _ _, by simp, (((Fr.refl _ _).alloc _).drewN _).then hF (fun k hk => .inl (.inl hk)), fun k hk => by simp [Value.ownBlock] at hk⟩
end Go.Proofs.Ytdllngedmhihkaa

/- The reference's Take whole, New, Same; packets in memory. No condition. -/
import Derived.Test.YtdllngedmhihkaaH
namespace Go.Proofs.Ytdllngedmhihkaa
open Go.RowKit Go.Deep Go.ChangeShapes Go.WideShapes Go.ChangeAt
set_option linter.unusedVariables false

theorem RTake_any (s : JS) (ra : Option Addr) (rc : Nat) (c sc : Bool) (ap fl ct : Int) (a : Option Addr) (l : List UInt8) (cap : Nat) (w : World) (hr : BAt w ra s.dat) (hnil : s.dat = [] → ra = none ∧ rc = 0) (hba : BAt w a l)
    (hl : l.length ≤ 1000000000) (hd : s.dat.length ≤ 1000000000) (hm0 : 0 ≤ s.most) (hm1 : s.most ≤ 9223372036854775807) (hlast : 0 ≤ s.last ∧ s.last < 16384) :
    Calls Try.prog 18 #[RV s ra rc, Pk c sc ap fl ct a l.length cap] w (RTakeQ w ra (takeR s ap fl ct l)) := by
  by_cases h1 : okB ap ct = false ∨ fl < 0 ∨ 3 < fl ∨ l = []
  · exact rtake_arg s ra rc c sc ap fl ct a l cap w hr hnil hl h1
  · have hk : okB ap ct = true := by
      cases e : okB ap ct
      · exact absurd (.inl e) h1
      · rfl
    have hne : l ≠ [] := fun e => h1 (.inr (.inr (.inr e)))
    have hf0 : ¬ fl < 0 := fun e => h1 (.inr (.inl e))
    have hf3 : ¬ 3 < fl := fun e => h1 (.inr (.inr (.inl e)))
    by_cases hx : fl = 1 ∨ fl = 3 ∨ (fl = 0 ∨ fl = 2) ∧ s.op = true ∧ ap = s.apid ∧ ct = (s.last + 1) % 16384
    · have hxs : fl = 1 ∨ fl = 3 ∨ fl = 0 ∨ fl = 2 := by omega
      rcases hxs with h | h | h | h
      · exact rtake_fit1 s ra rc c sc ap fl ct a l cap w hr hnil hba hl hd hm0 hm1 hk hne hlast h hx
      · exact rtake_fit3 s ra rc c sc ap fl ct a l cap w hr hnil hba hl hd hm0 hm1 hk hne hlast h hx
      · exact rtake_fit0 s ra rc c sc ap fl ct a l cap w hr hnil hba hl hd hm0 hm1 hk hne hlast h hx
      · exact rtake_fit2 s ra rc c sc ap fl ct a l cap w hr hnil hba hl hd hm0 hm1 hk hne hlast h hx
    · have hf : fl = 0 ∨ fl = 2 := by omega
      have hx' : ¬ (s.op = true ∧ ap = s.apid ∧ ct = (s.last + 1) % 16384) := fun e => hx (.inr (.inr ⟨hf, e⟩))
      cases ho : s.op
      · exact rtake_form1 s ra rc c sc ap fl ct a l cap w hl hk hne hlast hf ho
      · by_cases ha : ap = s.apid
        · exact rtake_form3 s ra rc c sc ap fl ct a l cap w hl hk hne hlast hf ⟨ho, ha, fun e => hx' ⟨ho, ha, e⟩⟩
        · exact rtake_form2 s ra rc c sc ap fl ct a l cap w hl hk hne hlast hf ⟨ho, ha⟩

/-- the program's Joiner and the reference's agree -/
def Rel (s r : JS) : Prop := r.most = s.most ∧ r.op = s.op ∧ r.dat = s.dat ∧ (s.op = true → r.apid = s.apid ∧ r.last = s.last ∧ cntB s.last = true) ∧ (s.op = false → s.dat = []) ∧ (s.op = false → r.last = 0)
theorem addC_one {c : Int} (h : cntB c = true) : addC c 1 = (c + 1) % 16384 := by simp [addC, h]
theorem okB_cnt {a c : Int} (h : okB a c = true) : cntB c = true := by
  simp only [okB, Bool.and_eq_true] at h; exact h.2
theorem rel_tail {s r : JS} (h : Rel s r) (fl ap ct : Int) (l : List UInt8) (hcc : cntB ct = true) :
    Rel (if s.most - s.dat.length < l.length then (s.drop, [], false, 6) else if fl = 1 ∨ fl = 0 then ((⟨true, s.most, ap, ct, s.dat ++ l⟩ : JS), [], false, 0) else ((⟨true, s.most, ap, ct, s.dat ++ l⟩ : JS).drop, s.dat ++ l, true, 0) : JS × List UInt8 × Bool × Int).1
      (if r.most - r.dat.length < l.length then (r.idle, [], false, 6) else if fl = 1 ∨ fl = 0 then ((⟨true, r.most, ap, ct, r.dat ++ l⟩ : JS), [], false, 0) else ((⟨true, r.most, ap, ct, r.dat ++ l⟩ : JS).idle, r.dat ++ l, true, 0) : JS × List UInt8 × Bool × Int).1 ∧
    (if r.most - r.dat.length < l.length then (r.idle, [], false, 6) else if fl = 1 ∨ fl = 0 then ((⟨true, r.most, ap, ct, r.dat ++ l⟩ : JS), [], false, 0) else ((⟨true, r.most, ap, ct, r.dat ++ l⟩ : JS).idle, r.dat ++ l, true, 0) : JS × List UInt8 × Bool × Int).2 =
      (if s.most - s.dat.length < l.length then (s.drop, [], false, 6) else if fl = 1 ∨ fl = 0 then ((⟨true, s.most, ap, ct, s.dat ++ l⟩ : JS), [], false, 0) else ((⟨true, s.most, ap, ct, s.dat ++ l⟩ : JS).drop, s.dat ++ l, true, 0) : JS × List UInt8 × Bool × Int).2 := by
  obtain ⟨h1, h2, h3, h4, h5, h6⟩ := h
  rw [h1, h3]
  have idle : ∀ (s r : JS), r.most = s.most → Rel s.drop r.idle := fun s r e => ⟨e, rfl, rfl, fun h => by simp [JS.drop] at h, fun _ => rfl, fun _ => rfl⟩
  by_cases c4 : s.most - s.dat.length < l.length
  · rw [if_pos c4, if_pos c4]
    exact ⟨idle s r h1, rfl⟩
  · rw [if_neg c4, if_neg c4]
    by_cases c5 : fl = 1 ∨ fl = 0
    · rw [if_pos c5, if_pos c5]
      exact ⟨⟨rfl, rfl, rfl, fun _ => ⟨rfl, rfl, hcc⟩, fun h => by simp at h, fun h => by simp at h⟩, rfl⟩
    · rw [if_neg c5, if_neg c5]
      exact ⟨idle _ _ rfl, rfl⟩
theorem rel_take {s r : JS} (h : Rel s r) (ap fl ct : Int) (l : List UInt8) :
    Rel (takeS s ap fl ct l).1 (takeR r ap fl ct l).1 ∧ (takeR r ap fl ct l).2 = (takeS s ap fl ct l).2 := by
  obtain ⟨sop, smost, sapid, slast, sdat⟩ := s
  obtain ⟨rop, rmost, rapid, rlast, rdat⟩ := r
  obtain ⟨h1, h2, h3, h4, h5, h6⟩ := h
  simp only at h1 h2 h3 h4 h5 h6
  subst h1 h2 h3
  unfold takeS takeR
  by_cases c1 : okB ap ct = false ∨ fl < 0 ∨ 3 < fl ∨ l = []
  · rw [if_pos c1, if_pos c1]
    exact ⟨⟨rfl, rfl, rfl, h4, h5, h6⟩, rfl⟩
  · rw [if_neg c1, if_neg c1]
    have hok : okB ap ct = true := by
      cases e : okB ap ct
      · exact absurd (.inl e) c1
      · rfl
    have hcc := okB_cnt hok
    have e2 : (rop = true ∧ ap = sapid ∧ ct = addC slast 1) ↔ (rop = true ∧ ap = rapid ∧ ct = (rlast + 1) % 16384) := by
      constructor
      · rintro ⟨a, b, c⟩
        obtain ⟨e1, e2, e3⟩ := h4 a
        exact ⟨a, by rw [e1]; exact b, by rw [e2, ← addC_one e3]; exact c⟩
      · rintro ⟨a, b, c⟩
        obtain ⟨e1, e2, e3⟩ := h4 a
        exact ⟨a, by rw [← e1]; exact b, by rw [addC_one e3, ← e2]; exact c⟩
    have idle : Rel (JS.drop ⟨rop, rmost, sapid, slast, rdat⟩) (JS.idle ⟨rop, rmost, rapid, rlast, rdat⟩) := ⟨rfl, rfl, rfl, fun h => by simp [JS.drop] at h, fun _ => rfl, fun _ => rfl⟩
    by_cases c2 : (fl = 0 ∨ fl = 2) ∧ ¬ (rop = true ∧ ap = sapid ∧ ct = addC slast 1)
    · have c2' : (fl = 0 ∨ fl = 2) ∧ ¬ (rop = true ∧ ap = rapid ∧ ct = (rlast + 1) % 16384) := ⟨c2.1, fun e => c2.2 (e2.2 e)⟩
      rw [if_pos c2, if_pos c2']
      exact ⟨idle, rfl⟩
    · have c2' : ¬ ((fl = 0 ∨ fl = 2) ∧ ¬ (rop = true ∧ ap = rapid ∧ ct = (rlast + 1) % 16384)) := fun e => c2 ⟨e.1, fun e' => e.2 (e2.1 e')⟩
      rw [if_neg c2, if_neg c2']
      by_cases c3 : fl = 1 ∨ fl = 3
      · simp only [if_pos c3]
        exact rel_tail idle fl ap ct l hcc
      · simp only [if_neg c3]
        exact rel_tail (s := ⟨rop, rmost, sapid, slast, rdat⟩) (r := ⟨rop, rmost, rapid, rlast, rdat⟩) ⟨rfl, rfl, rfl, h4, h5, h6⟩ fl ap ct l hcc

theorem rnew_any (m : Int) (w : World) : Calls Try.prog 16 #[.int .i64 m] w fun e w' => e = .returned (RV ⟨false, max m 0, 0, 0, []⟩ none 0) ∧ Below w.heap.size w w' := by
  by_cases hm : 0 ≤ m
  · have hm' : max m 0 = m := Int.max_eq_left hm
    rw [hm']
    go_enter Try.func16, Try.ntmps16
    go_wp2
    exact bodyPost_ret (v := RV ⟨false, m, 0, 0, []⟩ none 0) (by simp [results, Try.results16, go_sem, RV]) rfl ⟨rfl, (Below.refl _ _).alloc (Nat.le_refl _) _⟩
  · have hm' : max m 0 = 0 := Int.max_eq_right (by omega)
    rw [hm']
    go_enter Try.func16, Try.ntmps16
    go_wp2
    exact bodyPost_ret (v := RV ⟨false, 0, 0, 0, []⟩ none 0) (by simp [results, Try.results16, go_sem, RV]) rfl ⟨rfl, (Below.refl _ _).alloc (Nat.le_refl _) _⟩
end Go.Proofs.Ytdllngedmhihkaa

/- Packets in a stream that is cut into fields, some of which are lost: what the unpacker makes of it, in plain lists. No condition. -/
import Derived.Test.YtllpbfejoahllaaM
namespace Go.Proofs.Ytllpbfejoahllaa
open Go.RowKit Go.Deep Go.ChangeShapes Go.WideShapes Go.ChangeAt
set_option linter.unusedVariables false

/-! ### packets of a stream -/
/-- an encoded packet -/
def WF (p : List UInt8) : Prop := 7 ≤ p.length ∧ p.length ≤ 2000 ∧ hdN p = p.length ∧ hdOk p = true
theorem getD_take6 (l : List UInt8) (i : Nat) (h : i < 6) : (l.take 6).getD i 0 = l.getD i 0 := by
  rw [List.getD_eq_getElem?_getD, List.getD_eq_getElem?_getD, List.getElem?_take_of_lt h]
theorem hd_same {l m : List UInt8} (h : l.take 6 = m.take 6) : hdN l = hdN m ∧ hdOk l = hdOk m ∧ apid l = apid m := by
  have e : ∀ i, i < 6 → l.getD i 0 = m.getD i 0 := fun i hi => by rw [← getD_take6 l i hi, h, getD_take6 m i hi]
  unfold hdOk hdN apid
  rw [e 0 (by omega), e 1 (by omega), e 4 (by omega), e 5 (by omega)]
  exact ⟨rfl, rfl, rfl⟩
theorem WF.hd {p b : List UInt8} (h : WF p) (hb : b.take 6 = p.take 6) : lenB b = p.length ∧ apid b = apid p := by
  obtain ⟨e1, e2, e3⟩ := hd_same hb
  exact ⟨by rw [lenB_hd b (by rw [e2]; exact h.2.2.2), e1]; exact h.2.2.1, e3⟩
def nonIdle (ps : List (List UInt8)) : List (List UInt8) := ps.filter fun p => decide (apid p ≠ 2047)
/-- the packets that end within t bytes, the others, the bytes of these -/
def adv : List (List UInt8) → Nat → List (List UInt8) × List (List UInt8) × Nat
  | [], t => ([], [], t)
  | p :: ps, t => if p.length ≤ t then (p :: (adv ps (t - p.length)).1, (adv ps (t - p.length)).2) else ([], p :: ps, t)
theorem packs_adv (ps : List (List UInt8)) (h : ∀ p ∈ ps, WF p) (t : Nat) : packs (ps.flatten.take t) = (true, (adv ps t).2.1.flatten.take (adv ps t).2.2, nonIdle (adv ps t).1) := by
  induction ps generalizing t with
  | nil => rw [packs_few _ (by simp)]; simp [adv, nonIdle]
  | cons p ps ih =>
    have hp := h p (by simp)
    have h7 := hp.1
    by_cases ht : p.length ≤ t
    · have e : (p :: ps).flatten.take t = p ++ ps.flatten.take (t - p.length) := by
        rw [List.flatten_cons, List.take_append, List.take_of_length_le ht]
      obtain ⟨e1, e2⟩ := hp.hd (b := p ++ ps.flatten.take (t - p.length)) (by rw [List.take_append_of_le_length (by omega)])
      have hl : p.length ≤ (p ++ ps.flatten.take (t - p.length)).length := by simp
      rw [e, packs_more _ (by omega) (by rw [e1]; omega) (by rw [e1]; omega), e1, e2, List.drop_left, List.take_left, ih (fun q hq => h q (by simp [hq]))]
      have ea : adv (p :: ps) t = (p :: (adv ps (t - p.length)).1, (adv ps (t - p.length)).2) := by conv => lhs; unfold adv; rw [if_pos ht]
      rw [ea]
      by_cases ha : apid p = 2047
      · simp [nonIdle, ha]
      · simp [nonIdle, ha]
    · have e : (p :: ps).flatten.take t = p.take t := by rw [List.flatten_cons, List.take_append_of_le_length (by omega)]
      have ea : adv (p :: ps) t = ([], p :: ps, t) := by unfold adv; rw [if_neg ht]
      rw [ea, e]
      have hl : (p.take t).length = t := by simp; omega
      by_cases h6 : t < 6
      · rw [packs_few _ (by omega)]
        simp [nonIdle, List.take_append_of_le_length (show t ≤ p.length by omega)]
      · obtain ⟨e1, -⟩ := hp.hd (b := p.take t) (by rw [List.take_take, Nat.min_eq_left (by omega)])
        rw [packs_wait _ (by omega) (by rw [e1]; omega) (by rw [e1]; omega)]
        simp [nonIdle, List.take_append_of_le_length (show t ≤ p.length by omega)]
/-- a place in a stream: within the first packet -/
def At (qs : List (List UInt8)) (o : Nat) : Prop := o = 0 ∨ ∃ p ps, qs = p :: ps ∧ o < p.length
theorem adv_at (ps : List (List UInt8)) (t : Nat) (ht : t ≤ ps.flatten.length) : ps = (adv ps t).1 ++ (adv ps t).2.1 ∧ t = (adv ps t).1.flatten.length + (adv ps t).2.2 ∧ At (adv ps t).2.1 (adv ps t).2.2 := by
  induction ps generalizing t with
  | nil => simp at ht; subst ht; simp [adv, At]
  | cons p ps ih =>
    unfold adv
    split
    · rename_i h
      obtain ⟨h1, h2, h3⟩ := ih (t - p.length) (by rw [List.flatten_cons, List.length_append] at ht; omega)
      refine ⟨by simp only [List.cons_append]; rw [← h1], ?_, h3⟩
      simp only [List.flatten_cons, List.length_append]
      omega
    · rename_i h
      exact ⟨rfl, by simp, .inr ⟨p, ps, rfl, by simpa using h⟩⟩
theorem adv_zero (ps : List (List UInt8)) (h : ∀ p ∈ ps, WF p) : adv ps 0 = ([], ps, 0) := by
  cases ps with
  | nil => rfl
  | cons p ps => unfold adv; rw [if_neg]; have := (h p (by simp)).1; omega
/-- the first header pointer of m bytes -/
def fp (qs : List (List UInt8)) (o m : Nat) : Int :=
  if o = 0 then 0 else match qs with
    | [] => 2047
    | p :: _ => if p.length - o < m then ((p.length - o : Nat) : Int) else 2047
theorem data_ne {l : List UInt8} {o m : Nat} (hm : 1 ≤ m) (hl : o + m ≤ l.length) : (l.drop o).take m ≠ [] := by
  intro e
  have := congrArg List.length e
  simp at this
  omega
theorem take_drop_join (l : List UInt8) (o m : Nat) : l.take o ++ (l.drop o).take m = l.take (o + m) := by
  rw [List.take_add]
theorem fit_fp (qs : List (List UInt8)) (o m : Nat) (hw : ∀ p ∈ qs, WF p) (ho : At qs o) (hm : 1 ≤ m) (hl : o + m ≤ qs.flatten.length) : fitR (qs.flatten.take o) ((qs.flatten.drop o).take m) = fp qs o m := by
  have hd := data_ne hm hl
  unfold fitR fp
  rw [if_neg hd, take_drop_join]
  by_cases h0 : o = 0
  · rw [if_pos h0, if_pos (by rw [h0]; simp)]
  · rw [if_neg h0, if_neg (by intro e; have := congrArg List.length e; rw [List.length_take, List.length_nil] at this; omega)]
    rcases ho with ho | ⟨p, ps, rfl, hop⟩
    · exact absurd ho h0
    · have hp := hw p (by simp)
      have h7 := hp.1
      have hlen : (List.take (o + m) (p :: ps).flatten).length = o + m := by rw [List.length_take]; omega
      rw [hlen]
      by_cases h6 : o + m < 6
      · rw [if_pos h6]
        simp only
        rw [if_neg (by omega)]
      · rw [if_neg h6]
        obtain ⟨e1, -⟩ := hp.hd (b := List.take (o + m) (p :: ps).flatten) (by rw [List.take_take, Nat.min_eq_left (by omega), List.flatten_cons, List.take_append_of_le_length (by omega)])
        rw [e1, if_neg (by omega)]
        simp only
        have ho2 : ((p :: ps).flatten.take o).length = o := by rw [List.length_take]; omega
        rw [ho2]
        by_cases h8 : p.length < o + m
        · rw [if_pos h8, if_pos (by omega)]; omega
        · rw [if_neg h8, if_neg (by omega)]
theorem fp_bd (qs : List (List UInt8)) (o m : Nat) (hw : ∀ p ∈ qs, WF p) : 0 ≤ fp qs o m ∧ (fp qs o m < 2046 ∧ (fp qs o m < m ∨ o = 0) ∨ fp qs o m = 2047) := by
  unfold fp
  split
  · rename_i h; exact ⟨by omega, .inl ⟨by omega, .inr h⟩⟩
  · cases qs with
    | nil => exact ⟨by simp, .inr rfl⟩
    | cons p ps =>
      have := (hw p (by simp)).2.1
      simp only
      split
      · exact ⟨by omega, .inl ⟨by omega, .inl (by omega)⟩⟩
      · exact ⟨by omega, .inr rfl⟩
/-- a field behind the last one, in step -/
theorem eat_step (u : US) (qs : List (List UInt8)) (o m : Nat) (hw : ∀ p ∈ qs, WF p) (ho : At qs o) (hm : 1 ≤ m) (hl : o + m ≤ qs.flatten.length) (hs : u.step = true) (hr : u.rest = qs.flatten.take o) :
    u.eat (fp qs o m) ((qs.flatten.drop o).take m) = ({ u with step := true, rest := (adv qs (o + m)).2.1.flatten.take (adv qs (o + m)).2.2 }, nonIdle (adv qs (o + m)).1) := by
  rw [eat_in hs (by rw [hr, fit_fp qs o m hw ho hm hl]), hr, take_drop_join, packs_adv qs hw]
/-- out of step, at the beginning of a packet -/
theorem eat_begin (u : US) (qs : List (List UInt8)) (m : Nat) (hw : ∀ p ∈ qs, WF p) (hs : u.step = false) :
    u.eat (fp qs 0 m) ((qs.flatten.drop 0).take m) = ({ u with step := true, rest := (adv qs (0 + m)).2.1.flatten.take (adv qs (0 + m)).2.2 }, nonIdle (adv qs (0 + m)).1) := by
  have e : fp qs 0 m = 0 := by unfold fp; rw [if_pos rfl]
  rw [e, eat_new (by rw [hs]; rfl) (by omega), Nat.zero_add]
  simp only [Int.toNat_zero, List.drop_zero]
  rw [packs_adv qs hw]
/-- out of step, within a packet behind which another begins -/
theorem eat_second (u : US) (p : List UInt8) (ps : List (List UInt8)) (o m : Nat) (hw : ∀ q ∈ p :: ps, WF q) (h0 : 0 < o) (ho : o < p.length) (hpm : p.length - o < m) (hs : u.step = false) :
    u.eat (fp (p :: ps) o m) (((p :: ps).flatten.drop o).take m) = ({ u with step := true, rest := (adv ps (o + m - p.length)).2.1.flatten.take (adv ps (o + m - p.length)).2.2 }, nonIdle (adv ps (o + m - p.length)).1) ∧
    adv (p :: ps) (o + m) = (p :: (adv ps (o + m - p.length)).1, (adv ps (o + m - p.length)).2) := by
  have h2 := (hw p (by simp)).2.1
  have e : fp (p :: ps) o m = ((p.length - o : Nat) : Int) := by unfold fp; rw [if_neg (by omega)]; simp only; rw [if_pos hpm]
  have ed : (((p :: ps).flatten.drop o).take m).drop (p.length - o) = ps.flatten.take (o + m - p.length) := by
    rw [List.drop_take, List.drop_drop, List.flatten_cons, show o + (p.length - o) = p.length by omega, List.drop_left, show m - (p.length - o) = o + m - p.length by omega]
  refine ⟨?_, by conv => lhs; unfold adv; rw [if_pos (by omega)]⟩
  rw [e, eat_new (by rw [hs]; rfl) (by omega), Int.toNat_natCast, ed, packs_adv ps (fun q hq => hw q (by simp [hq]))]
/-- out of step, within a packet that goes on -/
theorem eat_within (u : US) (p : List UInt8) (ps : List (List UInt8)) (o m : Nat) (h0 : 0 < o) (hpm : ¬ p.length - o < m) (hs : u.step = false) (data : List UInt8) : u.eat (fp (p :: ps) o m) data = ({ u with step := false, rest := [] }, []) := by
  have e : fp (p :: ps) o m = 2047 := by unfold fp; rw [if_neg (by omega)]; simp only; rw [if_neg hpm]
  rw [e, eat_none (by rw [hs]; rfl) rfl]

/-! ### which packets arrive -/
/-- no field of the bytes from pos on is lost -/
def seen (lost : Nat → Bool) (sz pos len : Nat) : Bool := (List.range ((pos + len - 1) / sz + 1)).all fun k => decide (k < pos / sz) || !lost k
theorem seen_iff (lost : Nat → Bool) (sz pos len : Nat) : seen lost sz pos len = true ↔ ∀ k, pos / sz ≤ k → k ≤ (pos + len - 1) / sz → lost k = false := by
  unfold seen
  rw [List.all_eq_true]
  constructor
  · intro h k h1 h2
    have := h k (List.mem_range.2 (by omega))
    simp only [Bool.or_eq_true, decide_eq_true_eq, Bool.not_eq_true'] at this
    rcases this with h3 | h3
    · omega
    · exact h3
  · intro h k hk
    rw [List.mem_range] at hk
    simp only [Bool.or_eq_true, decide_eq_true_eq, Bool.not_eq_true']
    by_cases h3 : k < pos / sz
    · exact .inl h3
    · exact .inr (h k (by omega) (by omega))
/-- the packets of which every field arrives -/
def want (lost : Nat → Bool) (sz : Nat) : Nat → List (List UInt8) → List (List UInt8)
  | _, [] => []
  | pos, p :: ps => (if (decide (apid p ≠ 2047) && seen lost sz pos p.length) = true then [p] else []) ++ want lost sz (pos + p.length) ps
theorem want_append (lost : Nat → Bool) (sz : Nat) (a b : List (List UInt8)) : ∀ pos, want lost sz pos (a ++ b) = want lost sz pos a ++ want lost sz (pos + a.flatten.length) b := by
  induction a with
  | nil => intro pos; simp [want]
  | cons p ps ih =>
    intro pos
    simp only [List.cons_append, want, ih, List.flatten_cons, List.length_append, List.append_assoc, Nat.add_assoc]
theorem want_lost (lost : Nat → Bool) (sz k : Nat) (hz : 1 ≤ sz) (hk : lost k = true) (fin : List (List UInt8)) (h1 : ∀ p ∈ fin, 1 ≤ p.length) : ∀ pos, (∀ p ps, fin = p :: ps → k * sz < pos + p.length) → pos + fin.flatten.length ≤ (k + 1) * sz → want lost sz pos fin = [] := by
  induction fin with
  | nil => intro pos _ _; rfl
  | cons p ps ih =>
    intro pos h2 h3
    have hp := h1 p (by simp)
    have h4 := h2 p ps rfl
    rw [List.flatten_cons, List.length_append] at h3
    have e : (pos + p.length - 1) / sz = k := by
      have : (pos + p.length - 1) / sz < k + 1 := (Nat.div_lt_iff_lt_mul (by omega)).2 (by omega)
      have : k ≤ (pos + p.length - 1) / sz := (Nat.le_div_iff_mul_le (by omega)).2 (by omega)
      omega
    have hs : seen lost sz pos p.length = false := by
      rw [Bool.eq_false_iff]
      intro h
      have := (seen_iff ..).1 h k (by rw [← e]; exact Nat.div_le_div_right (by omega)) (by omega)
      rw [hk] at this; cases this
    unfold want
    rw [hs, Bool.and_false, ih (fun q hq => h1 q (by simp [hq])) (pos + p.length) (fun q qs hq => by have := h1 q (by rw [hq]; simp); omega) (by omega)]
    simp
theorem want_seen (lost : Nat → Bool) (sz k : Nat) (hz : 1 ≤ sz) (fin : List (List UInt8)) (h1 : ∀ p ∈ fin, 1 ≤ p.length) : ∀ pos, (∀ f, pos / sz ≤ f → f ≤ k → lost f = false) → pos + fin.flatten.length ≤ (k + 1) * sz → want lost sz pos fin = nonIdle fin := by
  induction fin with
  | nil => intro pos _ _; rfl
  | cons p ps ih =>
    intro pos h2 h3
    have hp := h1 p (by simp)
    rw [List.flatten_cons, List.length_append] at h3
    have hs : seen lost sz pos p.length = true := by
      rw [seen_iff]
      intro f hf1 hf2
      have : (pos + p.length - 1) / sz < k + 1 := (Nat.div_lt_iff_lt_mul (by omega)).2 (by omega)
      exact h2 f hf1 (by omega)
    unfold want
    rw [hs, Bool.and_true, ih (fun q hq => h1 q (by simp [hq])) (pos + p.length) (fun f hf1 hf2 => h2 f (Nat.le_trans (Nat.div_le_div_right (by omega)) hf1) hf2) (by omega)]
    by_cases ha : apid p = 2047
    · simp [nonIdle, ha]
    · simp [nonIdle, ha]
/-- the step is that of the field before -/
def eff (u : US) (bef : Option Nat) (k : Nat) : Prop := u.step = true ∧ 1 ≤ k ∧ bef = some (k - 1)
/-- what holds when the fields below k have been sent -/
structure Inv (lost : Nat → Bool) (sz start : Nat) (sent : List (List UInt8)) (k : Nat) (u : US) (bef : Option Nat) (got : List (List UInt8)) (miss : Nat) (done qs : List (List UInt8)) (o : Nat) : Prop where
  split : sent = done ++ qs
  at_ : done.flatten.length + o = min (k * sz) sent.flatten.length
  ho : At qs o
  got : got = want lost sz 0 done
  cnt : (bef = none ∧ u.started = false ∧ u.step = false ∧ u.lost = 0 ∧ miss = 0) ∨ ∃ j, bef = some j ∧ j < k ∧ u.started = true ∧ u.next = ((start + j + 1 : Nat) : Int) % 256 ∧ u.lost = (miss : Int)
  inn : eff u bef k → u.rest = qs.flatten.take o ∧ (0 < o → ∀ f, done.flatten.length / sz ≤ f → f < k → lost f = false)
  out : ¬ eff u bef k → 0 < o → ∃ f, done.flatten.length / sz ≤ f ∧ f < k ∧ lost f = true
/-- the length of field k -/
def flen (sz total k : Nat) : Nat := min sz (total - k * sz)
theorem place {lost : Nat → Bool} {sz start : Nat} {sent : List (List UInt8)} {k : Nat} {u : US} {bef : Option Nat} {got : List (List UInt8)} {miss : Nat} {done qs : List (List UInt8)} {o : Nat} (h : Inv lost sz start sent k u bef got miss done qs o) (hz : 1 ≤ sz) (hk : k * sz < sent.flatten.length) :
    done.flatten.length + o = k * sz ∧ 1 ≤ flen sz sent.flatten.length k ∧ o + flen sz sent.flatten.length k ≤ qs.flatten.length ∧ done.flatten.length + (o + flen sz sent.flatten.length k) = min ((k + 1) * sz) sent.flatten.length ∧ (k + 1) * sz = k * sz + sz := by
  have h1 := h.at_
  have h2 : sent.flatten.length = done.flatten.length + qs.flatten.length := by rw [h.split, List.flatten_append, List.length_append]
  have h3 : (k + 1) * sz = k * sz + sz := Nat.succ_mul k sz
  unfold flen
  refine ⟨by omega, by omega, by omega, by omega, h3⟩
theorem adv_mem {qs : List (List UInt8)} {t : Nat} (ht : t ≤ qs.flatten.length) : (∀ p ∈ (adv qs t).1, p ∈ qs) ∧ (∀ p ∈ (adv qs t).2.1, p ∈ qs) := by
  obtain ⟨h, -, -⟩ := adv_at qs t ht
  constructor
  · intro p hp; rw [h]; exact List.mem_append_left _ hp
  · intro p hp; rw [h]; exact List.mem_append_right _ hp
theorem fin_pos {lost : Nat → Bool} {sz start : Nat} {sent : List (List UInt8)} {k : Nat} {u : US} {bef : Option Nat} {got : List (List UInt8)} {miss : Nat} {done qs : List (List UInt8)} {o : Nat} (hw : ∀ p ∈ sent, WF p) (h : Inv lost sz start sent k u bef got miss done qs o) (hz : 1 ≤ sz) (hk : k * sz < sent.flatten.length) :
    ∀ p ps, (adv qs (o + flen sz sent.flatten.length k)).1 = p :: ps → k * sz < done.flatten.length + p.length := by
  intro p ps e
  obtain ⟨h1, h2, h3, -⟩ := place h hz hk
  obtain ⟨a1, -, -⟩ := adv_at qs _ h3
  have hp := (hw p (by rw [h.split]; exact List.mem_append_right _ ((adv_mem h3).1 p (by rw [e]; simp)))).1
  rw [e] at a1
  rcases h.ho with ho | ⟨q, qs', e2, ho⟩
  · omega
  · rw [e2, List.cons_append] at a1
    obtain ⟨rfl, -⟩ := List.cons.inj a1
    omega
/-- a field is lost -/
theorem inv_lost {lost : Nat → Bool} {sz start : Nat} {sent : List (List UInt8)} {k : Nat} {u : US} {bef : Option Nat} {got : List (List UInt8)} {miss : Nat} {done qs : List (List UInt8)} {o : Nat} (hw : ∀ p ∈ sent, WF p) (h : Inv lost sz start sent k u bef got miss done qs o) (hz : 1 ≤ sz) (hk : k * sz < sent.flatten.length) (hl : lost k = true) :
    Inv lost sz start sent (k + 1) u bef got miss (done ++ (adv qs (o + flen sz sent.flatten.length k)).1) (adv qs (o + flen sz sent.flatten.length k)).2.1 (adv qs (o + flen sz sent.flatten.length k)).2.2 := by
  have hfp := fin_pos hw h hz hk
  obtain ⟨h1, h2, h3, h4, h5⟩ := place h hz hk
  obtain ⟨a1, a2, a3⟩ := adv_at qs _ h3
  obtain ⟨m1, m2⟩ := adv_mem h3
  have hq : ∀ p ∈ qs, WF p := fun p hp => hw p (by rw [h.split]; exact List.mem_append_right _ hp)
  generalize adv qs (o + flen sz sent.flatten.length k) = A at *
  obtain ⟨fin, qs', o'⟩ := A
  dsimp only at *
  have hnb : ¬ eff u bef (k + 1) := by
    rintro ⟨-, -, e⟩
    rcases h.cnt with ⟨e2, -⟩ | ⟨j, e2, hj, -⟩
    · rw [e2] at e; cases e
    · rw [e2] at e; simp at e; omega
  refine ⟨by rw [List.append_assoc, ← a1]; exact h.split, by rw [List.flatten_append, List.length_append, ← h4, a2]; omega, a3, ?_, ?_, fun e => absurd e hnb, fun _ ho' => ⟨k, ?_, by omega, hl⟩⟩
  · rw [want_append, want_lost lost sz k hz hl fin (fun p hp => by have := (hq p (m1 p hp)).1; omega) _ (fun p ps e => by have := hfp p ps e; omega) (by omega), List.append_nil]
    exact h.got
  · rcases h.cnt with hc | ⟨j, e2, hj, hc⟩
    · exact .inl hc
    · exact .inr ⟨j, e2, by omega, hc⟩
  · rw [List.flatten_append, List.length_append]
    have : (done.flatten.length + fin.flatten.length) / sz < k + 1 := (Nat.div_lt_iff_lt_mul (by omega)).2 (by omega)
    omega
/-- how many fields are missing -/
def gap : Option Nat → Nat → Nat
  | none, _ => 0
  | some j, k => k - j - 1
/-- a field arrives -/
theorem inv_recv {lost : Nat → Bool} {sz start : Nat} {sent : List (List UInt8)} {k : Nat} {u : US} {bef : Option Nat} {got : List (List UInt8)} {miss : Nat} {done qs : List (List UInt8)} {o : Nat} (hw : ∀ p ∈ sent, WF p) (h : Inv lost sz start sent k u bef got miss done qs o) (hz : 1 ≤ sz) (hk : k * sz < sent.flatten.length) (hl : lost k = false) (hk2 : k ≤ 250) (hm2 : flen sz sent.flatten.length k ≤ 2000) :
    ∃ done' qs' o', Inv lost sz start sent (k + 1) (u.take (((start + k) % 256 : Nat) : Int) (fp qs o (flen sz sent.flatten.length k)) ((qs.flatten.drop o).take (flen sz sent.flatten.length k))).1 (some k)
      (got ++ (u.take (((start + k) % 256 : Nat) : Int) (fp qs o (flen sz sent.flatten.length k)) ((qs.flatten.drop o).take (flen sz sent.flatten.length k))).2) (miss + gap bef k) done' qs' o' := by
  have hfp := fin_pos hw h hz hk
  obtain ⟨h1, h2, h3, h4, h5⟩ := place h hz hk
  have hq : ∀ p ∈ qs, WF p := fun p hp => hw p (by rw [h.split]; exact List.mem_append_right _ hp)
  obtain ⟨m, hm⟩ : ∃ m, m = flen sz sent.flatten.length k := ⟨_, rfl⟩
  rw [← hm] at hfp h2 h3 h4 hm2 ⊢
  obtain ⟨b1, b2⟩ := fp_bd qs o m hq
  have hdl : ((qs.flatten.drop o).take m).length = m := by rw [List.length_take, List.length_drop]; omega
  obtain ⟨c, hc⟩ : ∃ c : Int, c = (((start + k) % 256 : Nat) : Int) := ⟨_, rfl⟩
  rw [← hc]
  have hc1 : 0 ≤ c ∧ c < 256 := by omega
  have hbad : badT c (fp qs o m) ((qs.flatten.drop o).take m) = false := by
    unfold badT
    rw [hdl, decide_eq_false (by omega), decide_eq_false (by omega), decide_eq_false (by omega)]
    simp only [Bool.false_or, Bool.and_eq_false_iff, decide_eq_false_iff_not]
    rcases b2 with ⟨e1, e2⟩ | e
    · left; left
      rcases e2 with e2 | e2
      · omega
      · have : fp qs o m = 0 := by unfold fp; rw [if_pos e2]
        omega
    · left; right; omega
  rw [take_eat hbad (by omega)]
  obtain ⟨u1, hu1⟩ : ∃ u1, u1 = u.count c := ⟨_, rfl⟩
  rw [← hu1]
  -- the count
  have hst : u1.step = true ↔ eff u bef k := by
    rw [hu1]
    unfold US.count eff
    rcases h.cnt with ⟨e1, e2, e3, -⟩ | ⟨j, e1, hj, e2, e3, -⟩
    · simp [e1, e2, e3]
    · simp only [e2, if_true, Bool.and_eq_true, decide_eq_true_eq, e1, Option.some.injEq, e3]
      constructor
      · rintro ⟨s1, s2⟩; exact ⟨s1, by omega, by omega⟩
      · rintro ⟨s1, s2, s3⟩; exact ⟨s1, by omega⟩
  have hur : u1.rest = u.rest := by rw [hu1]; rfl
  have hcnt : ∀ r : US, r.started = u1.started → r.next = u1.next → r.lost = u1.lost → ∃ j, some k = some j ∧ j < k + 1 ∧ r.started = true ∧ r.next = ((start + j + 1 : Nat) : Int) % 256 ∧ r.lost = ((miss + gap bef k : Nat) : Int) := by
    intro r r1 r2 r3
    refine ⟨k, rfl, by omega, by rw [r1, hu1]; rfl, by rw [r2, hu1]; show (c + 1) % 256 = _; omega, ?_⟩
    rw [r3, hu1]
    unfold US.count
    rcases h.cnt with ⟨e1, e2, e3, e4, e5⟩ | ⟨j, e1, hj, e2, e3, e4⟩
    · simp [e1, e2, e4, e5, gap]
    · simp only [e2, if_true, e1, e3, e4, gap]
      have : (c - ((start + j + 1 : Nat) : Int) % 256) % 256 = ((k - j - 1 : Nat) : Int) := by omega
      rw [this]
      omega
  clear hu1
  have hgen : ∀ (hP : ∀ f, done.flatten.length / sz ≤ f → f ≤ k → lost f = false), Inv lost sz start sent (k + 1) { u1 with step := true, rest := (adv qs (o + m)).2.1.flatten.take (adv qs (o + m)).2.2 } (some k) (got ++ nonIdle (adv qs (o + m)).1) (miss + gap bef k) (done ++ (adv qs (o + m)).1) (adv qs (o + m)).2.1 (adv qs (o + m)).2.2 := by
    intro hP
    obtain ⟨a1, a2, a3⟩ := adv_at qs _ h3
    obtain ⟨m1, m2⟩ := adv_mem h3
    generalize adv qs (o + m) = A at *
    obtain ⟨fin, qs', o'⟩ := A
    dsimp only at *
    have he : eff { u1 with step := true, rest := qs'.flatten.take o' } (some k) (k + 1) := ⟨rfl, by omega, by simp⟩
    refine ⟨by rw [List.append_assoc, ← a1]; exact h.split, by rw [List.flatten_append, List.length_append, ← h4, a2]; omega, a3, ?_, .inr (hcnt { u1 with step := true, rest := qs'.flatten.take o' } rfl rfl rfl), fun _ => ⟨rfl, fun _ f hf1 hf2 => hP f (Nat.le_trans (Nat.div_le_div_right (by rw [List.flatten_append, List.length_append]; omega)) hf1) (by omega)⟩, fun e => absurd he e⟩
    rw [want_append, h.got, Nat.zero_add, want_seen lost sz k hz fin (fun p hp => by have := (hq p (m1 p hp)).1; omega) _ hP (by omega)]
  by_cases he : eff u bef k
  · obtain ⟨i1, i2⟩ := h.inn he
    rw [eat_step u1 qs o m hq h.ho h2 h3 (hst.2 he) (by rw [hur]; exact i1)]
    refine ⟨_, _, _, hgen (fun f hf1 hf2 => ?_)⟩
    by_cases hfk : f = k
    · rw [hfk]; exact hl
    · by_cases h0 : 0 < o
      · exact i2 h0 f hf1 (by omega)
      · exfalso
        have : k ≤ done.flatten.length / sz := (Nat.le_div_iff_mul_le (by omega)).2 (by omega)
        omega
  · have hs0 : u1.step = false := by rw [Bool.eq_false_iff]; exact fun e => he (hst.1 e)
    by_cases h0 : o = 0
    · subst h0
      rw [eat_begin u1 qs m hq hs0]
      refine ⟨_, _, _, hgen (fun f hf1 hf2 => ?_)⟩
      have : k ≤ done.flatten.length / sz := (Nat.le_div_iff_mul_le (by omega)).2 (by omega)
      obtain rfl : f = k := by omega
      exact hl
    · obtain ⟨f, hf1, hf2, hf3⟩ := h.out he (by omega)
      rcases h.ho with ho | ⟨p, ps, rfl, hop⟩
      · exact absurd ho h0
      · have hp7 := (hq p (by simp)).1
        have hns : ∀ (q : List UInt8), q = p → seen lost sz (0 + done.flatten.length) q.length = false := by
          rintro q rfl
          rw [Bool.eq_false_iff]
          intro e
          have := (seen_iff ..).1 e f (by rw [Nat.zero_add]; exact hf1) (Nat.le_trans (Nat.le_of_lt hf2) ((Nat.le_div_iff_mul_le (by omega)).2 (by omega)))
          rw [hf3] at this; cases this
        by_cases hpm : p.length - o < m
        · obtain ⟨e1, e2⟩ := eat_second u1 p ps o m hq (by omega) hop hpm hs0
          have hfl : o + m - p.length ≤ ps.flatten.length := by rw [List.flatten_cons, List.length_append] at h3; omega
          obtain ⟨a1, a2, a3⟩ := adv_at ps _ hfl
          obtain ⟨m1, m2⟩ := adv_mem hfl
          rw [e1]
          generalize adv ps (o + m - p.length) = A at *
          obtain ⟨fin, qs', o'⟩ := A
          dsimp only at *
          have heff : eff { u1 with step := true, rest := qs'.flatten.take o' } (some k) (k + 1) := ⟨rfl, by omega, by simp⟩
          have hkd : k ≤ (done.flatten.length + p.length) / sz := (Nat.le_div_iff_mul_le (by omega)).2 (by omega)
          have hP : ∀ g, (done.flatten.length + p.length) / sz ≤ g → g ≤ k → lost g = false := fun g g1 g2 => by obtain rfl : g = k := (by omega); exact hl
          refine ⟨done ++ p :: fin, qs', o', by rw [h.split, a1]; simp, by rw [List.flatten_append, List.length_append, List.flatten_cons, List.length_append, ← h4]; omega, a3, ?_, .inr (hcnt { u1 with step := true, rest := qs'.flatten.take o' } rfl rfl rfl), fun _ => ⟨rfl, fun _ g g1 g2 => hP g (Nat.le_trans (Nat.div_le_div_right (by rw [List.flatten_append, List.length_append, List.flatten_cons, List.length_append]; omega)) g1) (by omega)⟩, fun e => absurd heff e⟩
          rw [want_append, h.got]
          unfold want
          rw [hns p rfl, Bool.and_false, Nat.zero_add, want_seen lost sz k hz fin (fun q hq' => by have := (hq q (by simp [m1 q hq'])).1; omega) _ hP (by omega)]
          simp
        · rw [eat_within u1 p ps o m (by omega) hpm hs0]
          have hne : ¬ eff { u1 with step := false, rest := [] } (some k) (k + 1) := by rintro ⟨e, -⟩; cases e
          by_cases heq : p.length = o + m
          · refine ⟨done ++ [p], ps, 0, by rw [h.split]; simp, by rw [List.flatten_append, List.length_append, ← h4]; simp; omega, .inl rfl, ?_, .inr (hcnt { u1 with step := false, rest := [] } rfl rfl rfl), fun e => absurd e hne, fun _ e => absurd e (by omega)⟩
            rw [want_append, h.got]
            simp only [want]
            rw [hns p rfl, Bool.and_false]
            simp
          · exact ⟨done, p :: ps, o + m, h.split, h4, .inr ⟨p, ps, rfl, by omega⟩, by rw [h.got]; simp, .inr (hcnt { u1 with step := false, rest := [] } rfl rfl rfl), fun e => absurd e hne, fun _ _ => ⟨f, hf1, by omega, hf3⟩⟩
theorem inv_start (lost : Nat → Bool) (sz start : Nat) (sent : List (List UInt8)) : Inv lost sz start sent 0 ⟨false, false, 0, 0, []⟩ none [] 0 [] sent 0 :=
  ⟨rfl, by simp, .inl rfl, rfl, .inl ⟨rfl, rfl, rfl, rfl, rfl⟩, fun h => by have := h.2.1; omega, fun _ h => absurd h (by omega)⟩
theorem inv_end {lost : Nat → Bool} {sz start : Nat} {sent : List (List UInt8)} {k : Nat} {u : US} {bef : Option Nat} {got : List (List UInt8)} {miss : Nat} {done qs : List (List UInt8)} {o : Nat} (h : Inv lost sz start sent k u bef got miss done qs o) (hw : ∀ p ∈ sent, WF p) (hk : sent.flatten.length ≤ k * sz) : got = want lost sz 0 sent ∧ u.lost = (miss : Int) := by
  have h1 := h.at_
  have h2 : sent.flatten.length = done.flatten.length + qs.flatten.length := by rw [h.split, List.flatten_append, List.length_append]
  have hq : qs = [] := by
    cases e : qs with
    | nil => rfl
    | cons p ps =>
      exfalso
      have hp := (hw p (by rw [h.split, e]; simp)).1
      have h3 : qs.flatten.length = p.length + ps.flatten.length := by rw [e, List.flatten_cons, List.length_append]
      rcases h.ho with ho | ⟨q, qs', e2, ho⟩
      · omega
      · rw [e] at e2
        obtain ⟨rfl, -⟩ := List.cons.inj e2
        omega
  refine ⟨?_, ?_⟩
  · rw [h.got, h.split, hq, List.append_nil]
  · rcases h.cnt with ⟨-, -, -, e, e2⟩ | ⟨j, -, -, -, -, e⟩
    · rw [e, e2]; rfl
    · exact e
theorem inv_bd {lost : Nat → Bool} {sz start : Nat} {sent : List (List UInt8)} {k : Nat} {u : US} {bef : Option Nat} {got : List (List UInt8)} {miss : Nat} {done qs : List (List UInt8)} {o : Nat} (h : Inv lost sz start sent k u bef got miss done qs o) : u.lost = (miss : Int) := by
  rcases h.cnt with ⟨-, -, -, e, e2⟩ | ⟨j, -, -, -, -, e⟩
  · rw [e, e2]; rfl
  · exact e
/-! ### the pointers, as the law reckons them -/
/-- where packets begin -/
def starts : Nat → List (List UInt8) → List Nat
  | _, [] => []
  | pos, p :: ps => pos :: starts (pos + p.length) ps
theorem starts_append (a b : List (List UInt8)) : ∀ pos, starts pos (a ++ b) = starts pos a ++ starts (pos + a.flatten.length) b := by
  induction a with
  | nil => intro pos; simp [starts]
  | cons p ps ih => intro pos; simp only [List.cons_append, starts, ih, List.flatten_cons, List.length_append, Nat.add_assoc]
theorem starts_lt (a : List (List UInt8)) (h : ∀ p ∈ a, 1 ≤ p.length) : ∀ pos, ∀ s ∈ starts pos a, pos ≤ s ∧ s < pos + a.flatten.length := by
  induction a with
  | nil => intro pos s hs; simp [starts] at hs
  | cons p ps ih =>
    intro pos s hs
    have hp := h p (by simp)
    rw [List.flatten_cons, List.length_append]
    simp only [starts, List.mem_cons] at hs
    rcases hs with rfl | hs
    · omega
    · have := ih (fun q hq => h q (by simp [hq])) _ s hs
      omega
/-- the first beginning in an interval -/
def firstL (bs : List Nat) (a e : Nat) : Int := match bs.find? (fun b => decide (a ≤ b) && decide (b < e)) with | some b => ((b - a : Nat) : Int) | none => 2047
theorem first_fp (done qs : List (List UInt8)) (o m e : Nat) (hw : ∀ p ∈ done ++ qs, WF p) (ho : At qs o) (hm : 1 ≤ m) (hl : o + m ≤ qs.flatten.length) (he : e = done.flatten.length + o + m ∨ (o + m = qs.flatten.length ∧ done.flatten.length + o + m ≤ e)) :
    firstL (starts 0 (done ++ qs)) (done.flatten.length + o) e = fp qs o m := by
  have h1 : ∀ p ∈ done ++ qs, 1 ≤ p.length := fun p hp => by have := (hw p hp).1; omega
  unfold firstL
  rw [starts_append, List.find?_append]
  have e1 : (starts 0 done).find? (fun b => decide (done.flatten.length + o ≤ b) && decide (b < e)) = none := by
    rw [List.find?_eq_none]
    intro s hs
    have := starts_lt done (fun p hp => h1 p (by simp [hp])) 0 s hs
    rw [Bool.and_eq_true, decide_eq_true_eq, decide_eq_true_eq]
    rintro ⟨h, -⟩
    omega
  rw [e1, Option.none_or, Nat.zero_add]
  clear e1
  have hqs : ∀ p ∈ qs, 1 ≤ p.length := fun p hp => h1 p (List.mem_append_right _ hp)
  clear h1 hw
  generalize done.flatten.length = D at *
  unfold fp
  by_cases h0 : o = 0
  · subst h0
    rw [if_pos rfl]
    cases qs with
    | nil => simp at hl; omega
    | cons p ps =>
      have e2 : (decide (D + 0 ≤ D) && decide (D < e)) = true := by simp; omega
      simp only [starts, List.find?_cons]
      rw [e2]
      simp
  · rw [if_neg h0]
    rcases ho with ho | ⟨p, ps, rfl, hop⟩
    · exact absurd ho h0
    · simp only [starts, List.find?_cons]
      have e2 : (decide (D + o ≤ D) && decide (D < e)) = false := by simp; omega
      rw [e2]
      simp only
      rw [List.flatten_cons, List.length_append] at hl he
      cases ps with
      | nil =>
        simp only [starts, List.find?_nil]
        rw [if_neg (by simp at hl; omega)]
      | cons q ps =>
        have hq := hqs q (by simp)
        simp only [starts, List.find?_cons]
        by_cases hlt : D + p.length < e
        · have e3 : (decide (D + o ≤ D + p.length) && decide (D + p.length < e)) = true := by simp; omega
          rw [e3]
          simp only
          rw [List.flatten_cons, List.length_append] at hl he
          rw [if_pos (by omega), show D + p.length - (D + o) = p.length - o by omega]
        · have e3 : (decide (D + o ≤ D + p.length) && decide (D + p.length < e)) = false := by simp; omega
          rw [e3]
          simp only
          have e4 : (starts (D + p.length + q.length) ps).find? (fun b => decide (D + o ≤ b) && decide (b < e)) = none := by
            rw [List.find?_eq_none]
            intro s hs
            have := starts_lt ps (fun p hp => hqs p (by simp [hp])) _ s hs
            rw [Bool.and_eq_true, decide_eq_true_eq, decide_eq_true_eq]
            rintro ⟨-, h⟩
            omega
          rw [e4, if_neg (by omega)]
/-- the same field, cut from the whole stream -/
theorem data_cut (done qs : List (List UInt8)) (o m : Nat) : (((done ++ qs).flatten.drop (done.flatten.length + o)).take m) = (qs.flatten.drop o).take m := by
  rw [List.flatten_append, ← List.drop_drop, List.drop_left]
/-! ### a stream in fields of any sizes, none of which is lost -/
structure InvS (sent : List (List UInt8)) (k at_ : Nat) (u : US) (got done qs : List (List UInt8)) (o : Nat) : Prop where
  split : sent = done ++ qs
  at_ : done.flatten.length + o = at_
  ho : At qs o
  got : got = nonIdle done
  lost : u.lost = 0
  cnt : (k = 0 ∧ u.started = false ∧ u.step = false ∧ o = 0) ∨ (1 ≤ k ∧ u.started = true ∧ u.step = true ∧ u.next = ((k : Nat) : Int) % 256 ∧ u.rest = qs.flatten.take o)
theorem nonIdle_append (a b : List (List UInt8)) : nonIdle (a ++ b) = nonIdle a ++ nonIdle b := by unfold nonIdle; rw [List.filter_append]
theorem invS_start (sent : List (List UInt8)) : InvS sent 0 0 ⟨false, false, 0, 0, []⟩ [] [] sent 0 :=
  ⟨rfl, rfl, .inl rfl, rfl, rfl, .inl ⟨rfl, rfl, rfl, rfl⟩⟩
theorem invS_recv {sent : List (List UInt8)} {k a m : Nat} {u : US} {got done qs : List (List UInt8)} {o : Nat} (hw : ∀ p ∈ sent, WF p) (h : InvS sent k a u got done qs o) (hm : 1 ≤ m) (hl : a + m ≤ sent.flatten.length) (hm2 : m ≤ 2000) :
    ∃ done' qs' o', InvS sent (k + 1) (a + m) (u.take ((k : Int) % 256) (fp qs o m) ((qs.flatten.drop o).take m)).1 (got ++ (u.take ((k : Int) % 256) (fp qs o m) ((qs.flatten.drop o).take m)).2) done' qs' o' := by
  have hq : ∀ p ∈ qs, WF p := fun p hp => hw p (by rw [h.split]; exact List.mem_append_right _ hp)
  have h2 : sent.flatten.length = done.flatten.length + qs.flatten.length := by rw [h.split, List.flatten_append, List.length_append]
  have h1 := h.at_
  have h3 : o + m ≤ qs.flatten.length := by omega
  obtain ⟨b1, b2⟩ := fp_bd qs o m hq
  have hdl : ((qs.flatten.drop o).take m).length = m := by rw [List.length_take, List.length_drop]; omega
  obtain ⟨c, hc⟩ : ∃ c : Int, c = (k : Int) % 256 := ⟨_, rfl⟩
  rw [← hc]
  have hc1 : 0 ≤ c ∧ c < 256 := by omega
  have hbad : badT c (fp qs o m) ((qs.flatten.drop o).take m) = false := by
    unfold badT
    rw [hdl, decide_eq_false (by omega), decide_eq_false (by omega), decide_eq_false (by omega)]
    simp only [Bool.false_or, Bool.and_eq_false_iff, decide_eq_false_iff_not]
    rcases b2 with ⟨e1, e2⟩ | e
    · left; left
      rcases e2 with e2 | e2
      · omega
      · have : fp qs o m = 0 := by unfold fp; rw [if_pos e2]
        omega
    · left; right; omega
  rw [take_eat hbad (by omega)]
  have hgen : ∀ u1 : US, u1.started = true → u1.next = (c + 1) % 256 → u1.lost = 0 → InvS sent (k + 1) (a + m) { u1 with step := true, rest := (adv qs (o + m)).2.1.flatten.take (adv qs (o + m)).2.2 } (got ++ nonIdle (adv qs (o + m)).1) (done ++ (adv qs (o + m)).1) (adv qs (o + m)).2.1 (adv qs (o + m)).2.2 := by
    intro u1 r1 r2 r3
    obtain ⟨a1, a2, a3⟩ := adv_at qs _ h3
    generalize adv qs (o + m) = A at *
    obtain ⟨fin, qs', o'⟩ := A
    dsimp only at *
    exact ⟨by rw [List.append_assoc, ← a1]; exact h.split, by rw [List.flatten_append, List.length_append]; omega, a3, by rw [nonIdle_append, h.got], r3, .inr ⟨by omega, r1, rfl, by show u1.next = _; rw [r2]; omega, rfl⟩⟩
  rcases h.cnt with ⟨e0, e1, e2, e3⟩ | ⟨e0, e1, e2, e3, e4⟩
  · have hs0 : (u.count c).step = false := by unfold US.count; simp [e1, e2]
    subst e3
    rw [eat_begin (u.count c) qs m hq hs0]
    exact ⟨_, _, _, hgen _ rfl rfl (by unfold US.count; simp [e1, h.lost])⟩
  · have hd : (c - u.next) % 256 = 0 := by rw [e3, hc]; omega
    have hs1 : (u.count c).step = true := by unfold US.count; simp [e1, e2, hd]
    rw [eat_step (u.count c) qs o m hq h.ho hm h3 hs1 e4]
    exact ⟨_, _, _, hgen _ rfl rfl (by unfold US.count; simp [e1, hd, h.lost])⟩
theorem invS_end {sent : List (List UInt8)} {k : Nat} {u : US} {got done qs : List (List UInt8)} {o : Nat} (hw : ∀ p ∈ sent, WF p) (h : InvS sent k sent.flatten.length u got done qs o) (hi : ∀ p ∈ sent, apid p ≠ 2047) : got = sent := by
  have h1 := h.at_
  have h2 : sent.flatten.length = done.flatten.length + qs.flatten.length := by rw [h.split, List.flatten_append, List.length_append]
  have hq : qs = [] := by
    cases e : qs with
    | nil => rfl
    | cons p ps =>
      exfalso
      have hp := (hw p (by rw [h.split, e]; simp)).1
      have h3 : qs.flatten.length = p.length + ps.flatten.length := by rw [e, List.flatten_cons, List.length_append]
      rcases h.ho with ho | ⟨q, qs', e2, ho⟩
      · omega
      · rw [e] at e2
        obtain ⟨rfl, -⟩ := List.cons.inj e2
        omega
  rw [h.got, h.split, hq, List.append_nil]
  unfold nonIdle
  rw [List.filter_eq_self]
  intro p hp
  simpa using hi p (by rw [h.split]; exact List.mem_append_left _ hp)
end Go.Proofs.Ytllpbfejoahllaa

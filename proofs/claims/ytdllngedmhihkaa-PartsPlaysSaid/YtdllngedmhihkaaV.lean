/- What takeS makes of the pieces of a message. No condition. -/
import Derived.Test.YtdllngedmhihkaaT
namespace Go.Proofs.Ytdllngedmhihkaa
set_option linter.unusedVariables false

/-- number of pieces -/
def pcs (l : List UInt8) (m : Nat) : Nat := (l.length + m - 1) / m
theorem splitL_length (p : PK) (l : List UInt8) (m : Nat) : (splitL p l m).length = pcs l m := by simp [splitL, pcs]
theorem splitL_get (p : PK) (l : List UInt8) (m i : Nat) (h : i < (splitL p l m).length) : (splitL p l m)[i] = pieceOf p l m (pcs l m) i := by simp [splitL, pcs]
theorem pcs_pos {l : List UInt8} {m : Nat} (hl : l ≠ []) (hm : 1 ≤ m) : 1 ≤ pcs l m := by
  have h1 := List.length_pos_iff.2 hl
  exact (Nat.le_div_iff_mul_le (by omega)).2 (by omega)
/-- piece i begins inside the message -/
theorem pcs_lt {l : List UInt8} {m i : Nat} (hm : 1 ≤ m) (h : i < pcs l m) : i * m < l.length := by
  have h3 := (Nat.le_div_iff_mul_le (x := i + 1) (y := l.length + m - 1) (k := m) (by omega)).1 h
  rw [Nat.add_mul, Nat.one_mul] at h3
  omega
/-- the pieces cover the message -/
theorem pcs_ge {l : List UInt8} {m : Nat} (hm : 1 ≤ m) : l.length ≤ pcs l m * m := by
  have h5 := Nat.div_add_mod (l.length + m - 1) m
  have h6 := Nat.mod_lt (l.length + m - 1) (show 0 < m by omega)
  have h7 : m * pcs l m = pcs l m * m := Nat.mul_comm _ _
  unfold pcs at *
  omega
theorem take_step (l : List UInt8) (m i : Nat) : l.take (i * m) ++ (l.drop (i * m)).take m = l.take ((i + 1) * m) := by
  rw [Nat.add_mul, Nat.one_mul, List.take_add]
theorem piece_len (l : List UInt8) (m i : Nat) : ((l.drop (i * m)).take m).length = min m (l.length - i * m) := by simp
/-- the state before piece i (from 1 on) -/
def before (p : PK) (l : List UInt8) (m : Nat) (most : Int) (i : Nat) : JS := ⟨true, most, p.ap, (p.ct + ((i - 1 : Nat) : Int)) % 16384, l.take (i * m)⟩
theorem cnt_mod (z : Int) : cntB (z % 16384) = true := by
  have h1 := Int.emod_nonneg z (show (16384 : Int) ≠ 0 by omega)
  have h2 := Int.emod_lt_of_pos z (show (0 : Int) < 16384 by omega)
  simp [cntB, h1, h2]
theorem okB_mod {ap c : Int} (h : okB ap c = true) (z : Int) : okB ap (z % 16384) = true := by
  have := cnt_mod z
  simp only [okB, Bool.and_eq_true] at h ⊢
  exact ⟨h.1, this⟩
theorem piece_ok {p : PK} {l : List UInt8} {m : Nat} (hk : okB p.ap p.ct = true) (hl : l ≠ []) (hm : 1 ≤ m) {i : Nat} (hi : i < pcs l m) : ¬ (okB (pieceOf p l m (pcs l m) i).ap (pieceOf p l m (pcs l m) i).ct = false ∨ (pieceOf p l m (pcs l m) i).fl < 0 ∨ 3 < (pieceOf p l m (pcs l m) i).fl ∨ (pieceOf p l m (pcs l m) i).dat = []) := by
  have h1 : okB (pieceOf p l m (pcs l m) i).ap (pieceOf p l m (pcs l m) i).ct = true := okB_mod hk _
  have h2 : 0 ≤ flagZ i (pcs l m) ∧ flagZ i (pcs l m) ≤ 3 := by unfold flagZ; split <;> (try split) <;> (try split) <;> omega
  rintro (h | h | h | h)
  · rw [h1] at h; cases h
  · have : (pieceOf p l m (pcs l m) i).fl = flagZ i (pcs l m) := rfl
    omega
  · have : (pieceOf p l m (pcs l m) i).fl = flagZ i (pcs l m) := rfl
    omega
  · have h3 := congrArg List.length h
    have h4 := pcs_lt hm hi
    have h5 : (pieceOf p l m (pcs l m) i).dat.length = min m (l.length - i * m) := piece_len l m i
    rw [h5] at h3
    simp at h3
    omega
/-- a piece that begins a message -/
theorem take_first {p : PK} {l : List UInt8} {m : Nat} (hk : okB p.ap p.ct = true) (hl : l ≠ []) (hm : 1 ≤ m) (s : JS) (hs : (l.take m).length ≤ s.most) : takeS s (pieceOf p l m (pcs l m) 0).ap (pieceOf p l m (pcs l m) 0).fl (pieceOf p l m (pcs l m) 0).ct (pieceOf p l m (pcs l m) 0).dat =
    if pcs l m = 1 then (⟨false, s.most, p.ap, (p.ct + 0) % 16384, []⟩, l, true, 0) else (before p l m s.most 1, [], false, 0) := by
  have h0 := piece_ok hk hl hm (pcs_pos hl hm)
  have hd : (pieceOf p l m (pcs l m) 0).dat = l.take m := by simp [pieceOf]
  have ha : (pieceOf p l m (pcs l m) 0).ap = p.ap := rfl
  have hc : (pieceOf p l m (pcs l m) 0).ct = (p.ct + 0) % 16384 := rfl
  have hf : (pieceOf p l m (pcs l m) 0).fl = if pcs l m = 1 then 3 else 1 := by
    show flagZ _ _ = _
    unfold flagZ
    by_cases h : pcs l m = 1
    · rw [if_pos h, if_pos (by omega)]
    · rw [if_neg h, if_neg (by omega), if_pos (by omega)]
  unfold takeS
  rw [if_neg h0]
  have hge := pcs_ge (l := l) hm
  by_cases h : pcs l m = 1
  · rw [hf, if_pos h, if_neg (by omega), if_pos h]
    simp only [hd, JS.drop]
    rw [if_neg (by simp; simpa using hs), if_neg (by omega)]
    have e : l.take m = l := List.take_of_length_le (by rw [h] at hge; omega)
    rw [ha, hc, e]
    rfl
  · rw [hf, if_neg h, if_neg (by omega), if_neg h]
    simp only [hd, JS.drop]
    rw [if_neg (by simp; simpa using hs), if_pos (by simp), ha, hc]
    simp [before]
/-- a piece that goes on with a message -/
theorem take_next {p : PK} {l : List UInt8} {m : Nat} (hk : okB p.ap p.ct = true) (hl : l ≠ []) (hm : 1 ≤ m) (most : Int) {i : Nat} (hi1 : 1 ≤ i) (hi : i < pcs l m) (hs : (l.take ((i + 1) * m)).length ≤ most) : takeS (before p l m most i) (pieceOf p l m (pcs l m) i).ap (pieceOf p l m (pcs l m) i).fl (pieceOf p l m (pcs l m) i).ct (pieceOf p l m (pcs l m) i).dat =
    if i + 1 = pcs l m then (⟨false, most, p.ap, (p.ct + (i : Int)) % 16384, []⟩, l, true, 0) else (before p l m most (i + 1), [], false, 0) := by
  have h0 := piece_ok hk hl hm hi
  have hd : (pieceOf p l m (pcs l m) i).dat = (l.drop (i * m)).take m := rfl
  have ha : (pieceOf p l m (pcs l m) i).ap = p.ap := rfl
  have hc : (pieceOf p l m (pcs l m) i).ct = (p.ct + (i : Int)) % 16384 := rfl
  have hf : (pieceOf p l m (pcs l m) i).fl = if i + 1 = pcs l m then 2 else 0 := by
    show flagZ _ _ = _
    unfold flagZ
    by_cases h : i + 1 = pcs l m
    · rw [if_pos h, if_neg (by omega), if_neg (by omega), if_pos (by omega)]
    · rw [if_neg h, if_neg (by omega), if_neg (by omega), if_neg (by omega)]
  have hadd : (pieceOf p l m (pcs l m) i).ct = addC (before p l m most i).last 1 := by
    have hb : (before p l m most i).last = (p.ct + ((i - 1 : Nat) : Int)) % 16384 := rfl
    rw [hc, hb, addC_one (cnt_mod _)]
    omega
  unfold takeS
  rw [if_neg h0, if_neg (by rintro ⟨_, h⟩; exact h ⟨rfl, rfl, hadd⟩)]
  have hge := pcs_ge (l := l) hm
  have hlen : ((before p l m most i).dat ++ (pieceOf p l m (pcs l m) i).dat) = l.take ((i + 1) * m) := take_step l m i
  have hlt : ¬ ((before p l m most i).most - ((before p l m most i).dat.length : Int) < ((pieceOf p l m (pcs l m) i).dat.length : Int)) := by
    have h1 := congrArg List.length hlen
    rw [List.length_append] at h1
    have h2 : (before p l m most i).most = most := rfl
    rw [h2]
    omega
  by_cases h : i + 1 = pcs l m
  · rw [hf, if_pos h, if_pos h]
    simp only [if_neg (show ¬ ((2 : Int) = 1 ∨ (2 : Int) = 3) by omega), if_neg hlt, if_neg (show ¬ ((2 : Int) = 1 ∨ (2 : Int) = 0) by omega)]
    rw [hlen]
    have e : l.take ((i + 1) * m) = l := List.take_of_length_le (by rw [h]; exact hge)
    rw [e, hc]
    rfl
  · rw [hf, if_neg h, if_neg h]
    simp only [if_neg (show ¬ ((0 : Int) = 1 ∨ (0 : Int) = 3) by omega), if_neg hlt]
    rw [hlen, hc]
    rfl
/-- a piece that goes on with no message, or with another -/
theorem take_stray {p : PK} {l : List UInt8} {m : Nat} (hk : okB p.ap p.ct = true) (hl : l ≠ []) (hm : 1 ≤ m) (s : JS) {i : Nat} (hi1 : 1 ≤ i) (hi : i < pcs l m) (hs : s.op = true → s.last ≠ (p.ct + ((i - 1 : Nat) : Int)) % 16384 ∧ cntB s.last = true) : takeS s (pieceOf p l m (pcs l m) i).ap (pieceOf p l m (pcs l m) i).fl (pieceOf p l m (pcs l m) i).ct (pieceOf p l m (pcs l m) i).dat = (s.drop, [], false, 4) := by
  have h0 := piece_ok hk hl hm hi
  have hc : (pieceOf p l m (pcs l m) i).ct = (p.ct + (i : Int)) % 16384 := rfl
  have hf : (pieceOf p l m (pcs l m) i).fl = 0 ∨ (pieceOf p l m (pcs l m) i).fl = 2 := by
    show flagZ _ _ = _ ∨ flagZ _ _ = _
    unfold flagZ
    rw [if_neg (by omega), if_neg (by omega)]
    split
    · exact .inr rfl
    · exact .inl rfl
  have hneg : ¬ (s.op = true ∧ (pieceOf p l m (pcs l m) i).ap = s.apid ∧ (pieceOf p l m (pcs l m) i).ct = addC s.last 1) := by
    rintro ⟨h1, _, h3⟩
    obtain ⟨h4, h5⟩ := hs h1
    rw [hc, addC_one h5] at h3
    have h6 : 0 ≤ s.last ∧ s.last < 16384 := by simpa [cntB] using h5
    apply h4
    omega
  unfold takeS
  rw [if_neg h0, if_pos ⟨hf, hneg⟩]
/-- the last piece does not fit -/
theorem take_long {p : PK} {l : List UInt8} {m : Nat} (hk : okB p.ap p.ct = true) (hl : l ≠ []) (hm : 1 ≤ m) (most : Int) {i : Nat} (hi1 : 1 ≤ i) (hi : i + 1 = pcs l m) (hs : most < l.length) : takeS (before p l m most i) (pieceOf p l m (pcs l m) i).ap (pieceOf p l m (pcs l m) i).fl (pieceOf p l m (pcs l m) i).ct (pieceOf p l m (pcs l m) i).dat =
    ((before p l m most i).drop, [], false, 6) := by
  have hi' : i < pcs l m := by omega
  have h0 := piece_ok hk hl hm hi'
  have hc : (pieceOf p l m (pcs l m) i).ct = (p.ct + (i : Int)) % 16384 := rfl
  have hf : (pieceOf p l m (pcs l m) i).fl = 2 := by
    show flagZ _ _ = _
    unfold flagZ
    rw [if_neg (by omega), if_neg (by omega), if_pos (by omega)]
  have hadd : (pieceOf p l m (pcs l m) i).ct = addC (before p l m most i).last 1 := by
    have hb : (before p l m most i).last = (p.ct + ((i - 1 : Nat) : Int)) % 16384 := rfl
    rw [hc, hb, addC_one (cnt_mod _)]
    omega
  unfold takeS
  rw [if_neg h0, if_neg (by rintro ⟨_, h⟩; exact h ⟨rfl, rfl, hadd⟩)]
  have hge := pcs_ge (l := l) hm
  have hlen : ((before p l m most i).dat ++ (pieceOf p l m (pcs l m) i).dat) = l.take ((i + 1) * m) := take_step l m i
  have e : l.take ((i + 1) * m) = l := List.take_of_length_le (by rw [hi]; exact hge)
  have hlt : (before p l m most i).most - ((before p l m most i).dat.length : Int) < ((pieceOf p l m (pcs l m) i).dat.length : Int) := by
    have h1 := congrArg List.length hlen
    rw [List.length_append, e] at h1
    have h2 : (before p l m most i).most = most := rfl
    rw [h2]
    omega
  rw [hf]
  simp only [if_neg (show ¬ ((2 : Int) = 1 ∨ (2 : Int) = 3) by omega), if_pos hlt]
theorem takeS_inv (s : JS) (ap fl ct : Int) (l : List UInt8) (h : (s.dat.length : Int) ≤ s.most) : (takeS s ap fl ct l).1.most = s.most ∧ ((takeS s ap fl ct l).1.dat.length : Int) ≤ s.most := by
  have hd : ∀ s : JS, s.drop.most = s.most ∧ s.drop.dat.length = 0 := fun s => ⟨rfl, rfl⟩
  unfold takeS
  split
  · exact ⟨rfl, h⟩
  · split
    · refine ⟨rfl, ?_⟩
      have := (hd s).2
      simp only
      omega
    · have key : ∀ s1 : JS, s1.most = s.most → (s1.dat.length : Int) ≤ s.most →
          (if s1.most - (s1.dat.length : Int) < l.length then (s1.drop, [], false, 6) else if fl = 1 ∨ fl = 0 then ((⟨true, s1.most, ap, ct, s1.dat ++ l⟩ : JS), [], false, 0) else ((⟨true, s1.most, ap, ct, s1.dat ++ l⟩ : JS).drop, s1.dat ++ l, true, 0) : JS × List UInt8 × Bool × Int).1.most = s.most ∧
          ((if s1.most - (s1.dat.length : Int) < l.length then (s1.drop, [], false, 6) else if fl = 1 ∨ fl = 0 then ((⟨true, s1.most, ap, ct, s1.dat ++ l⟩ : JS), [], false, 0) else ((⟨true, s1.most, ap, ct, s1.dat ++ l⟩ : JS).drop, s1.dat ++ l, true, 0) : JS × List UInt8 × Bool × Int).1.dat.length : Int) ≤ s.most := by
        intro s1 h1 h2
        have := (hd s1).2
        by_cases h3 : s1.most - (s1.dat.length : Int) < l.length
        · rw [if_pos h3]
          exact ⟨h1, by simp only; omega⟩
        · rw [if_neg h3]
          by_cases h4 : fl = 1 ∨ fl = 0
          · rw [if_pos h4]
            refine ⟨h1, ?_⟩
            simp only [List.length_append]
            omega
          · rw [if_neg h4]
            refine ⟨h1, ?_⟩
            have := (hd ⟨true, s1.most, ap, ct, s1.dat ++ l⟩).2
            simp only
            omega
      by_cases h5 : fl = 1 ∨ fl = 3
      · simp only [if_pos h5]
        exact key s.drop rfl (by have := (hd s).2; omega)
      · simp only [if_neg h5]
        exact key s rfl h
end Go.Proofs.Ytdllngedmhihkaa

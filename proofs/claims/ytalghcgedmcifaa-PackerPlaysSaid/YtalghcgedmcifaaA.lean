/- Packets in plain terms: validity, encoding, decoding. No condition. -/
import Derived.Test.YtalghcgedmcifaaS
namespace Go.Proofs.Ytalghcgedmcifaa
open Go.ChangeShapes Go.WideShapes Go.ChangeAt Go.RowKit Go.Deep

/-- a packet -/
structure Pk where
  cmd : Bool
  sec : Bool
  apid : Int
  flags : Int
  count : Int
  dat : List UInt8
/-- a number as a byte -/
def b8 (n : Int) : UInt8 := UInt8.ofNat (n % 256).toNat
theorem b8_int (n : Int) : ((b8 n).toNat : Int) = n % 256 := by
  unfold b8; rw [UInt8.toNat_ofNat']; omega
theorem b8_of (x : UInt8) (n : Int) (h : n % 256 = x.toNat) : b8 n = x := by
  apply UInt8.toNat_inj.1
  have := b8_int n
  omega
def zeroB (l : List UInt8) : Bool := l.all (· == 0)
def rangeB (p : Pk) : Bool := decide (0 ≤ p.apid) && decide (p.apid ≤ 2047) && decide (0 ≤ p.flags) && decide (p.flags ≤ 3) && decide (0 ≤ p.count) && decide (p.count ≤ 16383) && decide (1 ≤ p.dat.length) && decide ((p.dat.length : Int) ≤ 4090)
def idleB (p : Pk) : Bool := !p.cmd && !p.sec && decide (p.flags = 3) && decide (p.count = 0) && zeroB p.dat
def validB (p : Pk) : Bool := rangeB p && (decide (p.apid ≠ 2047) || idleB p)
theorem validB_iff (p : Pk) : validB p = true ↔ (0 ≤ p.apid ∧ p.apid ≤ 2047 ∧ 0 ≤ p.flags ∧ p.flags ≤ 3 ∧ 0 ≤ p.count ∧ p.count ≤ 16383 ∧ 1 ≤ p.dat.length ∧ (p.dat.length : Int) ≤ 4090) ∧ (p.apid = 2047 → idleB p = true) := by
  unfold validB rangeB
  simp only [Bool.and_eq_true, decide_eq_true_eq, Bool.or_eq_true]
  constructor
  · rintro ⟨h, h2⟩
    exact ⟨by omega, fun e => by rcases h2 with h2 | h2; exact absurd e h2; exact h2⟩
  · rintro ⟨h, h2⟩
    refine ⟨by omega, ?_⟩
    by_cases e : p.apid = 2047
    · exact .inr (h2 e)
    · exact .inl e
def firstW (p : Pk) : Int := (if p.cmd then 4096 else 0) + (if p.sec then 2048 else 0) + p.apid
def secondW (p : Pk) : Int := p.flags * 16384 + p.count
def headP (p : Pk) : List UInt8 := [b8 (firstW p / 256), b8 (firstW p), b8 (secondW p / 256), b8 (secondW p), b8 (((p.dat.length : Int) - 1) / 256), b8 ((p.dat.length : Int) - 1)]
def bytesP (p : Pk) : List UInt8 := headP p ++ p.dat
def encP (p : Pk) : List UInt8 × Int := if validB p = true then (bytesP p, 0) else ([], 1)
/-- the number in two bytes -/
def w2 (l : List UInt8) (i : Nat) : Int := 256 * ((l[i]?.getD 0).toNat : Int) + ((l[i + 1]?.getD 0).toNat : Int)
def sizeP (l : List UInt8) : Int × Int :=
  if l.length < 6 then (0, 3) else if 32 ≤ (l[0]?.getD 0).toNat then (0, 4) else if 4096 < 7 + w2 l 4 then (0, 6) else (7 + w2 l 4, 0)
def zeroP : Pk := ⟨false, false, 0, 0, 0, []⟩
/-- the packet that the first n bytes hold -/
def readP (l : List UInt8) (n : Nat) : Pk := ⟨decide (w2 l 0 / 4096 = 1), decide (w2 l 0 / 2048 % 2 = 1), w2 l 0 % 2048, w2 l 2 / 16384, w2 l 2 % 16384, (l.take n).drop 6⟩
def decP (l : List UInt8) : Pk × Int × Int :=
  if (sizeP l).2 ≠ 0 then (zeroP, 0, (sizeP l).2)
  else if (l.length : Int) < (sizeP l).1 then (zeroP, 0, 3)
  else if validB (readP l (sizeP l).1.toNat) = true then (readP l (sizeP l).1.toNat, (sizeP l).1, 0)
  else (zeroP, 0, 4)
/-- idle packets -/
def idlePk (n : Nat) : Pk := ⟨false, false, 2047, 3, 0, List.replicate n 0⟩
def idleP (size : Int) : List UInt8 × Int := if 7 ≤ size ∧ size ≤ 4096 then (bytesP (idlePk (size - 6).toNat), 0) else ([], 1)
theorem idle_valid (n : Nat) (h1 : 1 ≤ n) (h2 : n ≤ 4090) : validB (idlePk n) = true := by
  rw [validB_iff]
  refine ⟨by simp [idlePk]; omega, fun _ => ?_⟩
  simp [idleB, idlePk, zeroB]
theorem idle_enc (size : Int) : idleP size = if 7 ≤ size ∧ size ≤ 4096 then encP (idlePk (size - 6).toNat) else ([], 1) := by
  unfold idleP
  split
  · rw [encP, if_pos (idle_valid _ (by omega) (by omega))]
  · rfl

/-! ### there and back -/
theorem bytesP_length (p : Pk) : (bytesP p).length = 6 + p.dat.length := by simp [bytesP, headP]; omega
theorem firstW_bd (p : Pk) (h : validB p = true) : 0 ≤ firstW p ∧ firstW p < 8192 := by
  obtain ⟨⟨h1, h2, -⟩, -⟩ := (validB_iff p).1 h
  unfold firstW
  cases p.cmd <;> cases p.sec <;> simp <;> omega
theorem secondW_bd (p : Pk) (h : validB p = true) : 0 ≤ secondW p ∧ secondW p < 65536 := by
  obtain ⟨⟨h1, h2, h3, h4, h5, h6, -⟩, -⟩ := (validB_iff p).1 h
  unfold secondW
  omega
theorem w2_head (p : Pk) (b : List UInt8) (h : validB p = true) : w2 (bytesP p ++ b) 0 = firstW p ∧ w2 (bytesP p ++ b) 2 = secondW p ∧ w2 (bytesP p ++ b) 4 = (p.dat.length : Int) - 1 := by
  obtain ⟨f1, f2⟩ := firstW_bd p h
  obtain ⟨s1, s2⟩ := secondW_bd p h
  obtain ⟨⟨-, -, -, -, -, -, l1, l2⟩, -⟩ := (validB_iff p).1 h
  refine ⟨?_, ?_, ?_⟩
  · simp [w2, bytesP, headP, b8_int]; omega
  · simp [w2, bytesP, headP, b8_int]; omega
  · simp [w2, bytesP, headP, b8_int]; omega
theorem size_enc (p : Pk) (b : List UInt8) (h : validB p = true) : sizeP (bytesP p ++ b) = (((bytesP p).length : Int), 0) := by
  obtain ⟨e0, e2, e4⟩ := w2_head p b h
  obtain ⟨f1, f2⟩ := firstW_bd p h
  obtain ⟨⟨-, -, -, -, -, -, l1, l2⟩, -⟩ := (validB_iff p).1 h
  have hb : ((bytesP p ++ b)[0]?.getD 0).toNat < 32 := by
    have : ((b8 (firstW p / 256)).toNat : Int) = firstW p / 256 % 256 := b8_int _
    simp [bytesP, headP]; omega
  unfold sizeP
  rw [e4, if_neg (by simp [bytesP_length]; omega), if_neg (by omega), if_neg (by omega), bytesP_length]
  congr 1
  omega
theorem dec_enc (p : Pk) (b : List UInt8) (h : validB p = true) : decP (bytesP p ++ b) = (p, ((bytesP p).length : Int), 0) := by
  obtain ⟨e0, e2, e4⟩ := w2_head p b h
  have hs := size_enc p b h
  obtain ⟨⟨a1, a2, g1, g2, c1, c2, l1, l2⟩, -⟩ := (validB_iff p).1 h
  have hr : readP (bytesP p ++ b) (bytesP p).length = p := by
    unfold readP
    rw [e0, e2, List.take_left]
    obtain ⟨cmd, sec, apid, flags, count, dat⟩ := p
    simp only at a1 a2 g1 g2 c1 c2
    simp only [firstW, secondW, Pk.mk.injEq]
    refine ⟨?_, ?_, ?_, by omega, by omega, by simp [bytesP, headP]⟩
    · cases cmd <;> cases sec <;> simp <;> omega
    · cases cmd <;> cases sec <;> simp <;> omega
    · cases cmd <;> cases sec <;> simp <;> omega
  unfold decP
  rw [hs]
  simp only [Int.toNat_natCast, hr, h, if_true]
  rw [if_neg (by simp), if_neg (by simp; omega)]
theorem take6 (l : List UInt8) (n : Nat) (h : 6 ≤ n) (hn : n ≤ l.length) : ∃ x0 x1 x2 x3 x4 x5, l[0]? = some x0 ∧ l[1]? = some x1 ∧ l[2]? = some x2 ∧ l[3]? = some x3 ∧ l[4]? = some x4 ∧ l[5]? = some x5 ∧ l.take n = [x0, x1, x2, x3, x4, x5] ++ (l.take n).drop 6 := by
  match l, hn with
  | [], hn => simp at hn; omega
  | [_], hn => simp at hn; omega
  | [_, _], hn => simp at hn; omega
  | [_, _, _], hn => simp at hn; omega
  | [_, _, _, _], hn => simp at hn; omega
  | [_, _, _, _, _], hn => simp at hn; omega
  | x0 :: x1 :: x2 :: x3 :: x4 :: x5 :: r, hn =>
    obtain ⟨m, rfl⟩ : ∃ m, n = m + 6 := ⟨n - 6, by omega⟩
    exact ⟨x0, x1, x2, x3, x4, x5, rfl, rfl, rfl, rfl, rfl, rfl, by simp⟩
/-- what is decoded is encoded to the bytes that were consumed -/
theorem enc_dec (l : List UInt8) (q : Pk) (n : Int) (h : decP l = (q, n, 0)) : validB q = true ∧ 0 ≤ n ∧ n ≤ l.length ∧ bytesP q = l.take n.toNat := by
  unfold decP at h
  split at h
  · simp at h; rename_i h1; exact absurd h.2.2 h1
  · rename_i h1
    have h1 : (sizeP l).2 = 0 := by omega
    split at h
    · simp at h
    · rename_i h2
      split at h
      · rename_i h3
        simp only [Prod.mk.injEq, and_true] at h
        obtain ⟨rfl, rfl⟩ := h
        have hs : 6 ≤ l.length ∧ (l[0]?.getD 0).toNat < 32 ∧ 7 + w2 l 4 ≤ 4096 ∧ (sizeP l).1 = 7 + w2 l 4 := by
          unfold sizeP at h1 ⊢
          by_cases a : l.length < 6
          · simp [a] at h1
          · by_cases b : 32 ≤ (l[0]?.getD 0).toNat
            · simp [a, b] at h1
            · by_cases c : 4096 < 7 + w2 l 4
              · simp [a, b, c] at h1
              · simp [a, b, c]; omega
        obtain ⟨s1, s2, s3, s4⟩ := hs
        have hw : 0 ≤ w2 l 4 := by unfold w2; omega
        refine ⟨h3, by omega, by omega, ?_⟩
        have hn : (sizeP l).1.toNat ≤ l.length := by omega
        obtain ⟨x0, x1, x2, x3, x4, x5, e0, e1, e2, e3, e4, e5, ht⟩ := take6 l (sizeP l).1.toNat (by omega) hn
        have g0 : w2 l 0 = 256 * (x0.toNat : Int) + x1.toNat := by simp [w2, e0, e1]
        have g2 : w2 l 2 = 256 * (x2.toNat : Int) + x3.toNat := by simp [w2, e2, e3]
        have g4 : w2 l 4 = 256 * (x4.toNat : Int) + x5.toNat := by simp [w2, e4, e5]
        rw [e0] at s2
        simp only [Option.getD_some] at s2
        have y1 := x1.toNat_lt
        have y2 := x2.toNat_lt
        have y3 := x3.toNat_lt
        have y4 := x4.toNat_lt
        have y5 := x5.toNat_lt
        conv => rhs; rw [ht]
        unfold bytesP
        have hd : ((readP l (sizeP l).1.toNat).dat.length : Int) - 1 = w2 l 4 := by
          simp only [readP, List.length_drop, List.length_take]
          omega
        have hf : firstW (readP l (sizeP l).1.toNat) = w2 l 0 := by
          simp only [firstW, readP, decide_eq_true_eq]
          split <;> split <;> omega
        have hsw : secondW (readP l (sizeP l).1.toNat) = w2 l 2 := by
          simp only [secondW, readP]
          omega
        congr 1
        unfold headP
        rw [hd, hf, hsw, g0, g2, g4, b8_of x0 _ (by omega), b8_of x1 _ (by omega), b8_of x2 _ (by omega), b8_of x3 _ (by omega), b8_of x4 _ (by omega), b8_of x5 _ (by omega)]
      · simp at h

/-! ### bits -/
theorem bits_nat (a b : Nat) (ha : a < 9223372036854775808) (hb : b < 9223372036854775808) : bits .or .i64 (a : Int) (b : Int) = ((a ||| b : Nat) : Int) ∧ bits .and .i64 (a : Int) (b : Int) = ((a &&& b : Nat) : Int) := by
  have h1 : (BitVec.ofInt 64 (a : Int)).toNat = a := by
    rw [BitVec.ofInt_natCast, BitVec.toNat_ofNat]; exact Nat.mod_eq_of_lt (by omega)
  have h2 : (BitVec.ofInt 64 (b : Int)).toNat = b := by
    rw [BitVec.ofInt_natCast, BitVec.toNat_ofNat]; exact Nat.mod_eq_of_lt (by omega)
  constructor
  · have hx : a ||| b < 2 ^ 63 := Nat.or_lt_two_pow ha hb
    show IntKind.i64.wrap ((BitVec.ofInt 64 (a : Int) ||| BitVec.ofInt 64 (b : Int)).toNat : Int) = _
    rw [BitVec.toNat_or, h1, h2]
    exact IntWalk.i64_in _ (by omega)
  · have hx : a &&& b < 2 ^ 63 := Nat.and_lt_two_pow _ hb
    show IntKind.i64.wrap ((BitVec.ofInt 64 (a : Int) &&& BitVec.ofInt 64 (b : Int)).toNat : Int) = _
    rw [BitVec.toNat_and, h1, h2]
    exact IntWalk.i64_in _ (by omega)
theorem or_add (a b : Int) (k : Nat) (hk : k ≤ 30) (ha : 0 ≤ a ∧ a ≤ 1000000000) (hb : 0 ≤ b ∧ b < 2 ^ k) (hd : a % 2 ^ k = 0) : bits .or .i64 a b = a + b := by
  obtain ⟨n, rfl⟩ := Int.eq_ofNat_of_zero_le ha.1
  obtain ⟨m, rfl⟩ := Int.eq_ofNat_of_zero_le hb.1
  have hm : m < 2 ^ k := by have := hb.2; exact_mod_cast this
  have hk2 : (2 : Nat) ^ k ≤ 2 ^ 30 := Nat.pow_le_pow_right (by omega) hk
  have hn : n % 2 ^ k = 0 := by exact_mod_cast hd
  rw [(bits_nat n m (by omega) (by omega)).1]
  obtain ⟨q, rfl⟩ : ∃ q, n = 2 ^ k * q := ⟨n / 2 ^ k, by have := Nat.div_add_mod n (2 ^ k); omega⟩
  rw [← Nat.two_pow_add_eq_or_of_lt hm]
  simp
theorem and_low (a : Int) (k : Nat) (hk : k ≤ 30) (ha : 0 ≤ a ∧ a ≤ 1000000000) (m : Int) (hm : m = 2 ^ k - 1) : bits .and .i64 a m = a % 2 ^ k := by
  obtain ⟨n, rfl⟩ := Int.eq_ofNat_of_zero_le ha.1
  have hp : (0 : Nat) < 2 ^ k := Nat.pow_pos (by omega)
  have hk2 : (2 : Nat) ^ k ≤ 2 ^ 30 := Nat.pow_le_pow_right (by omega) hk
  obtain rfl : m = ((2 ^ k - 1 : Nat) : Int) := by rw [hm]; push_cast [Nat.one_le_two_pow]; rfl
  rw [(bits_nat n (2 ^ k - 1) (by omega) (by omega)).2, Nat.and_two_pow_sub_one_eq_mod]
  simp
theorem and_pow (n k : Nat) : n &&& 2 ^ k = (decide (n / 2 ^ k % 2 = 1)).toNat * 2 ^ k := by
  apply Nat.eq_of_testBit_eq
  intro i
  rw [Nat.testBit_and, Nat.testBit_two_pow, Nat.testBit_mul_two_pow]
  by_cases h : k = i
  · subst h
    rw [Nat.testBit_eq_decide_div_mod_eq]
    by_cases h2 : n / 2 ^ k % 2 = 1 <;> simp [h2]
  · by_cases h2 : n / 2 ^ k % 2 = 1
    · simp [h, h2]
      intro h3
      rw [Nat.testBit_eq_decide_div_mod_eq]
      have : 1 / 2 ^ (i - k) = 0 := Nat.div_eq_of_lt (Nat.one_lt_two_pow (by omega))
      simp [this]
    · simp [h, h2]
theorem and_bit (a : Int) (k : Nat) (hk : k ≤ 30) (ha : 0 ≤ a ∧ a ≤ 1000000000) (m : Int) (hm : m = 2 ^ k) : bits .and .i64 a m = if a / 2 ^ k % 2 = 1 then m else 0 := by
  obtain ⟨n, rfl⟩ := Int.eq_ofNat_of_zero_le ha.1
  have hk2 : (2 : Nat) ^ k ≤ 2 ^ 30 := Nat.pow_le_pow_right (by omega) hk
  obtain rfl : m = ((2 ^ k : Nat) : Int) := by rw [hm]; simp
  rw [(bits_nat n (2 ^ k) (by omega) (by omega)).2, and_pow]
  have e : ((n : Int) / 2 ^ k % 2 = 1) ↔ (n / 2 ^ k % 2 = 1) := by
    constructor <;> intro h <;> exact_mod_cast h
  by_cases h : n / 2 ^ k % 2 = 1
  · rw [if_pos (e.2 h)]; simp [h]
  · rw [if_neg (fun x => h (e.1 x))]; simp [h]
end Go.Proofs.Ytalghcgedmcifaa

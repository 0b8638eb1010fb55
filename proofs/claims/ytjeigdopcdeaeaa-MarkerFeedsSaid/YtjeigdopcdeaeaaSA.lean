/- The pseudo-random sequence in plain numbers: its states, its bytes, its bits, its period. No condition. -/
import Derived.WalkKit
namespace Scr
open Go Go.RowKit
/-- the next state: the oldest bit leaves, the exclusive or of four bits comes in -/
def nx (s : Nat) : Nat := (2 * s + (s + s / 4 + s / 16 + s / 128) % 2) % 256
/-- the state after i bits -/
def T : Nat → Nat
  | 0 => 255
  | i + 1 => nx (T i)
/-- byte k -/
def st (k : Nat) : Nat := T (8 * k)
/-- bit i -/
def bit (i : Nat) : Nat := T i / 128
theorem nx_lt (s : Nat) : nx s < 256 := Nat.mod_lt _ (by omega)
theorem T_lt (i : Nat) : T i < 256 := by cases i with
  | zero => decide
  | succ i => exact nx_lt _
theorem st_lt (k : Nat) : st k < 256 := T_lt _
theorem bit_lt (i : Nat) : bit i < 2 := by have := T_lt i; unfold bit; omega

def nextB (x : Int) : Int := bits .and .u8 (bits .xor .u8 (bits .xor .u8 (bits .xor .u8 x (x / 4)) (x / 16)) (x / 128)) 1
def step1 (x : Int) : Int := bits .or .u8 (x * 2 % 256) (nextB x)
theorem step1_all : ∀ s : Fin 256, step1 (s.val : Int) = ((nx s.val : Nat) : Int) := by decide +kernel
theorem step1_nat (s : Nat) (h : s < 256) : step1 (s : Int) = ((nx s : Nat) : Int) := step1_all ⟨s, h⟩

theorem nx_all : ∀ s : Fin 256, ∀ p : Fin 7, nx s.val / 2 ^ (p.val + 1) % 2 = s.val / 2 ^ p.val % 2 := by decide +kernel
theorem rule_all : ∀ s : Fin 256, nx s.val / 2 ^ 0 % 2 = (s.val / 2 ^ 0 % 2 + s.val / 2 ^ 2 % 2 + s.val / 2 ^ 4 % 2 + s.val / 2 ^ 7 % 2) % 2 := by decide +kernel
theorem byte_all : ∀ s : Fin 256, s.val = 128 * (s.val / 2 ^ 7 % 2) + 64 * (s.val / 2 ^ 6 % 2) + 32 * (s.val / 2 ^ 5 % 2) + 16 * (s.val / 2 ^ 4 % 2) + 8 * (s.val / 2 ^ 3 % 2) + 4 * (s.val / 2 ^ 2 % 2) + 2 * (s.val / 2 ^ 1 % 2) + s.val / 2 ^ 0 % 2 := by decide +kernel
theorem T_add (i j : Nat) : T (i + (j + 1)) = nx (T (i + j)) := rfl

/-- bit i + j stands in the state after i bits -/
theorem T_next (i p : Nat) : T (i + 1) / 2 ^ (p + 1) % 2 = T i / 2 ^ p % 2 ∨ 7 ≤ p := by
  rcases Nat.lt_or_ge p 7 with hp | hp
  · exact .inl (nx_all ⟨T i, T_lt i⟩ ⟨p, hp⟩)
  · exact .inr hp
theorem bit_in (i : Nat) : ∀ j, j < 8 → bit (i + j) = T i / 2 ^ (7 - j) % 2 := by
  intro j
  induction j generalizing i with
  | zero => intro _; have := T_lt i; unfold bit; simp only [Nat.add_zero, Nat.sub_zero]; omega
  | succ j ih =>
    intro hj
    rw [show i + (j + 1) = (i + 1) + j by omega, ih (i + 1) (by omega)]
    rcases T_next i (7 - (j + 1)) with h | h
    · rw [← h, show 7 - (j + 1) + 1 = 7 - j by omega]
    · omega
/-- the bits' own rule -/
theorem bit_first (i : Nat) (h : i < 8) : bit i = 1 := by
  have := bit_in 0 i h
  rw [Nat.zero_add] at this
  rw [this]
  match i, h with
  | 0, _ => rfl
  | 1, _ => rfl
  | 2, _ => rfl
  | 3, _ => rfl
  | 4, _ => rfl
  | 5, _ => rfl
  | 6, _ => rfl
  | 7, _ => rfl
theorem bit_rule (i : Nat) : bit (i + 8) = (bit (i + 7) + bit (i + 5) + bit (i + 3) + bit i) % 2 := by
  have e8 : bit (i + 8) = T (i + 1) / 2 ^ 0 % 2 := by
    rw [show i + 8 = (i + 1) + 7 by omega, bit_in (i + 1) 7 (by omega)]
  rw [e8, bit_in i 7 (by omega), bit_in i 5 (by omega), bit_in i 3 (by omega)]
  have e0 : bit i = T i / 2 ^ 7 % 2 := bit_in i 0 (by omega)
  rw [e0]
  exact rule_all ⟨T i, T_lt i⟩
/-- a byte by its bits -/
theorem byte_bits (i : Nat) : T i = 128 * bit i + 64 * bit (i + 1) + 32 * bit (i + 2) + 16 * bit (i + 3) + 8 * bit (i + 4) + 4 * bit (i + 5) + 2 * bit (i + 6) + bit (i + 7) := by
  have e0 : bit i = T i / 2 ^ 7 % 2 := bit_in i 0 (by omega)
  rw [e0, bit_in i 1 (by omega), bit_in i 2 (by omega), bit_in i 3 (by omega), bit_in i 4 (by omega), bit_in i 5 (by omega), bit_in i 6 (by omega), bit_in i 7 (by omega)]
  exact byte_all ⟨T i, T_lt i⟩
/-- the period: 255 bits -/
theorem T_255 : T 255 = 255 := by decide +kernel
theorem T_period (i : Nat) : T (i + 255) = T i := by
  induction i with
  | zero => exact T_255
  | succ i ih => rw [show i + 1 + 255 = (i + 255) + 1 by omega]; show nx (T (i + 255)) = nx (T i); rw [ih]
theorem bit_period (i : Nat) : bit (i + 255) = bit i := by unfold bit; rw [T_period]
theorem T_many (i m : Nat) : T (i + 255 * m) = T i := by
  induction m with
  | zero => rfl
  | succ m ih => rw [show i + 255 * (m + 1) = (i + 255 * m) + 255 by omega, T_period, ih]
theorem st_period (k : Nat) : st (k + 255) = st k := by
  unfold st
  rw [show 8 * (k + 255) = 8 * k + 255 * 8 by omega, T_many]
/-- a bit out of its byte -/
theorem bit_of_byte (i : Nat) : bit i = st (i / 8) / 2 ^ (7 - i % 8) % 2 := by
  unfold st
  rw [← bit_in (8 * (i / 8)) (i % 8) (Nat.mod_lt _ (by omega)), Nat.div_add_mod]
theorem st_succ (k : Nat) : st (k + 1) = nx (nx (nx (nx (nx (nx (nx (nx (st k)))))))) := by
  unfold st
  rw [show 8 * (k + 1) = 8 * k + 8 by omega]
  rfl
end Scr

/- Plain facts on rounding, curves, searches and polynomials; no program. No condition. -/
namespace Calib50

def withinB (n most : Int) : Bool := decide (-most ≤ n ∧ n ≤ most)
/-- n / d rounded, halves away from 0 (d above 0) -/
def divZ (n d : Int) : Int := if n < 0 then - ((2 * (-n) + d) / (2 * d)) else (2 * n + d) / (2 * d)

theorem divZ_neg (n d : Int) (hd : 0 < d) : divZ (-n) d = - divZ n d := by
  unfold divZ
  rcases Int.lt_trichotomy n 0 with h | h | h
  · rw [if_neg (by omega), if_pos h, Int.neg_neg]
  · subst h
    have e : d / (2 * d) = 0 := Int.ediv_eq_zero_of_lt (by omega) (by omega)
    simp [e]
  · rw [if_pos (by omega), if_neg (by omega), Int.neg_neg]

theorem ediv_bd (x y : Int) (hy : 0 < y) : y * (x / y) ≤ x ∧ x < y * (x / y) + y := by
  have h1 := Int.mul_ediv_add_emod x y
  have h2 := Int.emod_nonneg x (show y ≠ 0 by omega)
  have h3 := Int.emod_lt_of_pos x hy
  omega

theorem ediv_mono {x x' y : Int} (hy : 0 < y) (h : x ≤ x') : x / y ≤ x' / y := Int.ediv_le_ediv hy h

theorem divZ_mono {n n' d : Int} (hd : 0 < d) (h : n ≤ n') : divZ n d ≤ divZ n' d := by
  unfold divZ
  by_cases a : n < 0 <;> by_cases b : n' < 0
  · rw [if_pos a, if_pos b]
    have := ediv_mono (x := 2 * -n' + d) (x' := 2 * -n + d) (y := 2 * d) (by omega) (by omega)
    omega
  · rw [if_pos a, if_neg b]
    have h1 : 0 ≤ (2 * -n + d) / (2 * d) := Int.ediv_nonneg (by omega) (by omega)
    have h2 : 0 ≤ (2 * n' + d) / (2 * d) := Int.ediv_nonneg (by omega) (by omega)
    omega
  · omega
  · rw [if_neg a, if_neg b]
    exact ediv_mono (by omega) (by omega)

theorem divZ_mul (k d : Int) (hd : 0 < d) : divZ (k * d) d = k := by
  have key : ∀ k : Int, (2 * (k * d) + d) / (2 * d) = k := by
    intro k
    rw [show 2 * (k * d) + d = d + k * (2 * d) by rw [← Int.mul_assoc, ← Int.mul_assoc, Int.mul_comm 2 k]; omega]
    rw [Int.add_mul_ediv_right _ _ (by omega), Int.ediv_eq_zero_of_lt (by omega) (by omega)]
    omega
  unfold divZ
  by_cases a : k * d < 0
  · rw [if_pos a, show -(k * d) = (-k) * d by rw [Int.neg_mul], key]; omega
  · rw [if_neg a, key]

/-- the rounding is off by at most half of d -/
theorem divZ_near (n d : Int) (hd : 0 < d) : 2 * (d * divZ n d - n) ≤ d ∧ -d ≤ 2 * (d * divZ n d - n) := by
  unfold divZ
  by_cases a : n < 0
  · rw [if_pos a]
    have := ediv_bd (2 * -n + d) (2 * d) (by omega)
    generalize (2 * -n + d) / (2 * d) = q at *
    rw [Int.mul_assoc] at this
    have e : d * -q = - (d * q) := Int.mul_neg _ _
    rw [e]
    generalize d * q = z at *
    omega
  · rw [if_neg a]
    have := ediv_bd (2 * n + d) (2 * d) (by omega)
    generalize (2 * n + d) / (2 * d) = q at *
    rw [Int.mul_assoc] at this
    generalize d * q = z at *
    omega

theorem divZ_bd (n d B : Int) (hd : 0 < d) (h : -(B * d) ≤ n) (h' : n ≤ B * d) : -B ≤ divZ n d ∧ divZ n d ≤ B := by
  have a := divZ_mono hd h
  have b := divZ_mono hd h'
  rw [show -(B * d) = (-B) * d by rw [Int.neg_mul], divZ_mul _ _ hd] at a
  rw [divZ_mul _ _ hd] at b
  exact ⟨a, b⟩

/-- by the truncated quotient, as the code has it -/
theorem divZ_code (n d : Int) (hd : 0 < d) :
    divZ n d = if d - n.tmod d ≤ n.tmod d ∧ 0 < n.tmod d then n.tdiv d + 1 else if d + n.tmod d ≤ - n.tmod d ∧ n.tmod d < 0 then n.tdiv d - 1 else n.tdiv d := by
  have pos : ∀ m : Int, 0 ≤ m → (2 * m + d) / (2 * d) = if d - m % d ≤ m % d ∧ 0 < m % d then m / d + 1 else m / d := by
    intro m hm
    have h1 := Int.mul_ediv_add_emod m d
    have h2 := Int.emod_nonneg m (show d ≠ 0 by omega)
    have h3 := Int.emod_lt_of_pos m hd
    have e : 2 * m + d = (2 * (m % d) + d) + (m / d) * (2 * d) := by
      have : m / d * (2 * d) = 2 * (d * (m / d)) := by rw [Int.mul_left_comm, Int.mul_comm (m / d) d]
      omega
    rw [e, Int.add_mul_ediv_right _ _ (by omega)]
    by_cases c : d ≤ 2 * (m % d)
    · rw [if_pos (by omega)]
      have : (2 * (m % d) + d) / (2 * d) = 1 := by
        rw [show 2 * (m % d) + d = (2 * (m % d) - d) + 1 * (2 * d) by omega, Int.add_mul_ediv_right _ _ (by omega), Int.ediv_eq_zero_of_lt (by omega) (by omega)]; rfl
      omega
    · rw [if_neg (by omega), Int.ediv_eq_zero_of_lt (by omega) (by omega)]; omega
  unfold divZ
  by_cases a : n < 0
  · rw [if_pos a, pos (-n) (by omega)]
    have h2 := Int.emod_nonneg (-n) (show d ≠ 0 by omega)
    have e1 : n.tmod d = - ((-n) % d) := by rw [← Int.tmod_eq_emod_of_nonneg (by omega), Int.neg_tmod]; omega
    have e2 : n.tdiv d = - ((-n) / d) := by rw [← Int.tdiv_eq_ediv_of_nonneg (by omega), Int.neg_tdiv]; omega
    rw [e1, e2]
    generalize (-n) % d = r at *
    generalize (-n) / d = q at *
    split <;> split <;> (try split) <;> omega
  · rw [if_neg a, pos n (by omega)]
    have h2 := Int.emod_nonneg n (show d ≠ 0 by omega)
    rw [Int.tmod_eq_emod_of_nonneg (by omega), Int.tdiv_eq_ediv_of_nonneg (by omega)]
    split
    · rfl
    · rw [if_neg (by omega)]

/-- by the quotient of a number at least 0, as the reference has it -/
theorem divZ_nonneg (n d : Int) (hd : 0 < d) (hn : 0 ≤ n) : divZ n d = if d - n % d ≤ n % d then n / d + 1 else n / d := by
  rw [divZ_code n d hd, Int.tmod_eq_emod_of_nonneg hn, Int.tdiv_eq_ediv_of_nonneg hn]
  have h2 := Int.emod_nonneg n (show d ≠ 0 by omega)
  have h3 := Int.emod_lt_of_pos n hd
  split
  · rw [if_pos (by omega)]
  · rw [if_neg (by omega), if_neg (by omega)]
end Calib50

namespace Calib50
/-- the points of a curve: strictly rising raw values in their ranges -/
def okB (X Y : Nat → Int) (n : Nat) : Bool := decide (2 ≤ n ∧ n ≤ 256 ∧ ∀ i, i < n → (-536870912 ≤ X i ∧ X i ≤ 536870912) ∧ (-2147483648 ≤ Y i ∧ Y i ≤ 2147483648) ∧ (0 < i → X (i - 1) < X i))
def monoB (X Y : Nat → Int) (n : Nat) : Bool := decide (∀ i, i < n → 0 < i → X (i - 1) < X i ∧ Y (i - 1) < Y i)
def num (X Y : Nat → Int) (i : Nat) (raw : Int) : Int := Y i * (X (i + 1) - X i) + (raw - X i) * (Y (i + 1) - Y i)
def seg (X Y : Nat → Int) (i : Nat) (raw : Int) : Int := divZ (num X Y i raw) (X (i + 1) - X i)
def idxF (X : Nat → Int) (raw : Int) : Nat → Nat → Nat
  | 0, i => i
  | f + 1, i => if X (i + 1) < raw then idxF X raw f (i + 1) else i
def idx (X : Nat → Int) (n : Nat) (raw : Int) : Nat := idxF X raw (n - 2) 0
def val (X Y : Nat → Int) (n : Nat) (raw : Int) : Int := seg X Y (idx X n raw) raw

/-- i is the segment of raw -/
def At (X : Nat → Int) (n : Nat) (raw : Int) (i : Nat) : Prop := i + 1 < n ∧ raw ≤ X (i + 1) ∧ (i = 0 ∨ X i < raw)

theorem idxF_at (X : Nat → Int) (n : Nat) (raw : Int) : ∀ f i, f + i + 2 = n → raw ≤ X (n - 1) → (i = 0 ∨ X i < raw) → At X n raw (idxF X raw f i) := by
  intro f
  induction f with
  | zero => intro i h1 h2 h3; exact ⟨by simp [idxF]; omega, by simp only [idxF]; rw [show i + 1 = n - 1 by omega]; exact h2, h3⟩
  | succ f ih =>
    intro i h1 h2 h3
    simp only [idxF]
    split
    · rename_i h; exact ih (i + 1) (by omega) h2 (.inr h)
    · rename_i h; exact ⟨by omega, by omega, h3⟩

theorem idx_at (X : Nat → Int) (n : Nat) (raw : Int) (hn : 2 ≤ n) (h : raw ≤ X (n - 1)) : At X n raw (idx X n raw) :=
  idxF_at X n raw (n - 2) 0 (by omega) h (.inl rfl)

theorem rise {X : Nat → Int} {n : Nat} (hx : ∀ i, i < n → 0 < i → X (i - 1) < X i) : ∀ k i, i + k < n → X i + k ≤ X (i + k) := by
  intro k
  induction k with
  | zero => intro i _; simp
  | succ k ih =>
    intro i h
    have h1 := ih i (by omega)
    have h2 := hx (i + k + 1) (by omega) (by omega)
    have e : i + k + 1 - 1 = i + k := by omega
    rw [e] at h2
    have e2 : i + (k + 1) = i + k + 1 := by omega
    rw [e2]
    push_cast
    omega
theorem rise_lt {X : Nat → Int} {n : Nat} (hx : ∀ i, i < n → 0 < i → X (i - 1) < X i) {i j : Nat} (h : i < j) (hj : j < n) : X i < X j := by
  have := rise hx (j - i) i (by omega)
  rw [show i + (j - i) = j by omega] at this
  omega
theorem rise_le {X : Nat → Int} {n : Nat} (hx : ∀ i, i < n → 0 < i → X (i - 1) < X i) {i j : Nat} (h : i ≤ j) (hj : j < n) : X i ≤ X j := by
  rcases Nat.lt_or_ge i j with a | a
  · exact Int.le_of_lt (rise_lt hx a hj)
  · rw [show i = j by omega]; exact Int.le_refl _

theorem at_unique {X : Nat → Int} {n : Nat} (hx : ∀ i, i < n → 0 < i → X (i - 1) < X i) {raw : Int} {i j : Nat} (hi : At X n raw i) (hj : At X n raw j) : i = j := by
  obtain ⟨a1, a2, a3⟩ := hi
  obtain ⟨b1, b2, b3⟩ := hj
  rcases Nat.lt_trichotomy i j with h | h | h
  · have := rise_le hx (show i + 1 ≤ j by omega) (by omega); omega
  · exact h
  · have := rise_le hx (show j + 1 ≤ i by omega) (by omega); omega

theorem idx_eq {X : Nat → Int} {n : Nat} (hx : ∀ i, i < n → 0 < i → X (i - 1) < X i) {raw : Int} {i : Nat} (hi : At X n raw i) : idx X n raw = i := by
  have h2 : raw ≤ X (n - 1) := by
    obtain ⟨a1, a2, _⟩ := hi
    have := rise_le hx (show i + 1 ≤ n - 1 by omega) (by omega); omega
  exact at_unique hx (idx_at X n raw (by obtain ⟨a1, _⟩ := hi; omega) h2) hi

theorem ok_of {X Y : Nat → Int} {n : Nat} (h : okB X Y n = true) : 2 ≤ n ∧ n ≤ 256 ∧ ∀ i, i < n → (-536870912 ≤ X i ∧ X i ≤ 536870912) ∧ (-2147483648 ≤ Y i ∧ Y i ≤ 2147483648) ∧ (0 < i → X (i - 1) < X i) := by
  unfold okB at h; exact of_decide_eq_true h
theorem ok_rise {X Y : Nat → Int} {n : Nat} (h : okB X Y n = true) : ∀ i, i < n → 0 < i → X (i - 1) < X i := fun i hi h0 => ((ok_of h).2.2 i hi).2.2 h0
theorem mono_of {X Y : Nat → Int} {n : Nat} (h : monoB X Y n = true) : ∀ i, i < n → 0 < i → X (i - 1) < X i ∧ Y (i - 1) < Y i := by
  unfold monoB at h; exact of_decide_eq_true h

theorem seg_left (X Y : Nat → Int) (i : Nat) (h : X i < X (i + 1)) : seg X Y i (X i) = Y i := by
  unfold seg num
  rw [Int.sub_self, Int.zero_mul, Int.add_zero]
  exact divZ_mul _ _ (by omega)
theorem seg_right (X Y : Nat → Int) (i : Nat) (h : X i < X (i + 1)) : seg X Y i (X (i + 1)) = Y (i + 1) := by
  unfold seg num
  rw [show Y i * (X (i + 1) - X i) + (X (i + 1) - X i) * (Y (i + 1) - Y i) = Y (i + 1) * (X (i + 1) - X i) by
    rw [Int.mul_comm (X (i + 1) - X i), ← Int.add_mul]; congr 1; omega]
  exact divZ_mul _ _ (by omega)
theorem seg_mono (X Y : Nat → Int) (i : Nat) (h : X i < X (i + 1)) (hy : Y i ≤ Y (i + 1)) {a b : Int} (hab : a ≤ b) : seg X Y i a ≤ seg X Y i b := by
  unfold seg num
  refine divZ_mono (by omega) ?_
  have := Int.mul_le_mul_of_nonneg_right (show a - X i ≤ b - X i by omega) (show 0 ≤ Y (i + 1) - Y i by omega)
  omega

/-- at a point, a curve has its value -/
theorem val_point {X Y : Nat → Int} {n : Nat} (hn : 2 ≤ n) (hx : ∀ i, i < n → 0 < i → X (i - 1) < X i) {i : Nat} (hi : i < n) : val X Y n (X i) = Y i := by
  unfold val
  rcases Nat.eq_zero_or_pos i with h | h
  · subst h
    have h01 := rise_lt hx (show 0 < 1 by omega) (by omega)
    rw [idx_eq hx (i := 0) ⟨by omega, by simp; omega, .inl rfl⟩]
    exact seg_left X Y 0 h01
  · obtain ⟨k, rfl⟩ : ∃ k, i = k + 1 := ⟨i - 1, by omega⟩
    have hk := rise_lt hx (show k < k + 1 by omega) hi
    rw [idx_eq hx (i := k) ⟨hi, Int.le_refl _, .inr hk⟩]
    exact seg_right X Y k hk

/-- on a rising curve the value lies between those of the neighbours -/
theorem val_between {X Y : Nat → Int} {n : Nat} (hm : monoB X Y n = true) {raw : Int} {i : Nat} (hi : i + 1 < n) (h1 : X i ≤ raw) (h2 : raw ≤ X (i + 1)) : Y i ≤ val X Y n raw ∧ val X Y n raw ≤ Y (i + 1) := by
  have hx : ∀ i, i < n → 0 < i → X (i - 1) < X i := fun i hi h0 => (mono_of hm i hi h0).1
  have hy : ∀ i, i < n → 0 < i → Y (i - 1) < Y i := fun i hi h0 => (mono_of hm i hi h0).2
  have hk := rise_lt hx (show i < i + 1 by omega) hi
  have hk' := rise_lt hy (show i < i + 1 by omega) hi
  rcases Int.lt_or_eq_of_le h1 with h | h
  · unfold val
    rw [idx_eq hx (i := i) ⟨hi, h2, .inr h⟩]
    have a := seg_mono X Y i hk (by omega) h1
    have b := seg_mono X Y i hk (by omega) h2
    rw [seg_left X Y i hk] at a
    rw [seg_right X Y i hk] at b
    exact ⟨a, b⟩
  · subst h
    rw [val_point (by omega) hx (by omega)]
    omega

/-- .. and it does not decrease -/
theorem val_mono {X Y : Nat → Int} {n : Nat} (hn : 2 ≤ n) (hm : monoB X Y n = true) {a b : Int} (ha : X 0 ≤ a) (hb : b ≤ X (n - 1)) (hab : a ≤ b) : val X Y n a ≤ val X Y n b := by
  have hx : ∀ i, i < n → 0 < i → X (i - 1) < X i := fun i hi h0 => (mono_of hm i hi h0).1
  have hy : ∀ i, i < n → 0 < i → Y (i - 1) < Y i := fun i hi h0 => (mono_of hm i hi h0).2
  obtain ⟨a1, a2, a3⟩ := idx_at X n a hn (by omega)
  obtain ⟨b1, b2, b3⟩ := idx_at X n b hn hb
  generalize hi : idx X n a = i at *
  generalize hj : idx X n b = j at *
  have hXi : X i ≤ a := by rcases a3 with h | h; · subst h; exact ha
                           · omega
  have hXj : X j ≤ b := by rcases b3 with h | h; · subst h; omega
                           · omega
  rcases Nat.lt_trichotomy i j with h | h | h
  · have p := (val_between hm a1 hXi a2).2
    have q := (val_between hm b1 hXj b2).1
    have := rise_le hy (show i + 1 ≤ j by omega) (by omega)
    omega
  · subst h
    unfold val
    rw [hi, hj]
    exact seg_mono X Y i (rise_lt hx (by omega) a1) (Int.le_of_lt (rise_lt hy (by omega) a1)) hab
  · have := rise_le hx (show j + 1 ≤ i by omega) (by omega)
    rcases a3 with h' | h' <;> omega

/-- the search for the least raw value: f steps from lo, hi -/
def bs (g : Int → Int) (v : Int) : Nat → Int → Int → Int
  | 0, lo, _ => lo
  | f + 1, lo, hi => if lo < hi then (if v ≤ g (lo + (hi - lo) / 2) then bs g v f lo (lo + (hi - lo) / 2) else bs g v f (lo + (hi - lo) / 2 + 1) hi) else lo

theorem bs_stop (g : Int → Int) (v : Int) (f : Nat) (lo hi : Int) (h : ¬ lo < hi) : bs g v f lo hi = lo := by
  cases f with
  | zero => rfl
  | succ f => simp only [bs]; rw [if_neg h]

theorem bs_fuel (g : Int → Int) (v : Int) : ∀ f f' lo hi, (hi - lo).toNat ≤ f → (hi - lo).toNat ≤ f' → bs g v f lo hi = bs g v f' lo hi := by
  intro f
  induction f with
  | zero => intro f' lo hi h h'; rw [bs_stop g v 0 lo hi (by omega), bs_stop g v f' lo hi (by omega)]
  | succ f ih =>
    intro f' lo hi h h'
    cases f' with
    | zero => rw [bs_stop g v _ lo hi (by omega), bs_stop g v 0 lo hi (by omega)]
    | succ f' =>
      simp only [bs]
      split
      · split
        · exact ih _ _ _ (by omega) (by omega)
        · exact ih _ _ _ (by omega) (by omega)
      · rfl
/-- one step of the search, at its own measure -/
def srch (g : Int → Int) (v lo hi : Int) : Int := bs g v (hi - lo).toNat lo hi
theorem srch_stop (g : Int → Int) (v lo hi : Int) (h : ¬ lo < hi) : srch g v lo hi = lo := bs_stop _ _ _ _ _ h
theorem srch_low (g : Int → Int) (v lo hi : Int) (h : lo < hi) (hv : v ≤ g (lo + (hi - lo) / 2)) : srch g v lo hi = srch g v lo (lo + (hi - lo) / 2) := by
  unfold srch
  rw [bs_fuel g v _ ((hi - lo).toNat - 1 + 1) lo hi (by omega) (by omega)]
  simp only [bs]
  rw [if_pos h, if_pos hv]
  exact bs_fuel _ _ _ _ _ _ (by omega) (by omega)
theorem srch_high (g : Int → Int) (v lo hi : Int) (h : lo < hi) (hv : g (lo + (hi - lo) / 2) < v) : srch g v lo hi = srch g v (lo + (hi - lo) / 2 + 1) hi := by
  unfold srch
  rw [bs_fuel g v _ ((hi - lo).toNat - 1 + 1) lo hi (by omega) (by omega)]
  simp only [bs]
  rw [if_pos h, if_neg (by omega)]
  exact bs_fuel _ _ _ _ _ _ (by omega) (by omega)

/-- what the search finds -/
theorem bs_least (g : Int → Int) (v : Int) (L U : Int) (hg : ∀ a b, L ≤ a → b ≤ U → a ≤ b → g a ≤ g b) : ∀ f lo hi, (hi - lo).toNat ≤ f → L ≤ lo → lo ≤ hi → hi ≤ U → v ≤ g hi → (∀ x, L ≤ x → x < lo → g x < v) →
    lo ≤ bs g v f lo hi ∧ bs g v f lo hi ≤ hi ∧ v ≤ g (bs g v f lo hi) ∧ ∀ x, L ≤ x → x < bs g v f lo hi → g x < v := by
  intro f
  induction f with
  | zero => intro lo hi h hL hlh hU hv hx; obtain rfl : lo = hi := by omega
            exact ⟨by simp [bs], by simp [bs], hv, hx⟩
  | succ f ih =>
    intro lo hi h hL hlh hU hv hx
    simp only [bs]
    split
    · rename_i hlt
      split
      · rename_i hm
        have := ih lo (lo + (hi - lo) / 2) (by omega) hL (by omega) (by omega) hm hx
        exact ⟨this.1, by omega, this.2.2⟩
      · rename_i hm
        have := ih (lo + (hi - lo) / 2 + 1) hi (by omega) (by omega) (by omega) hU hv (fun x h1 h2 => by
          have := hg x (lo + (hi - lo) / 2) h1 (by omega) (by omega); omega)
        exact ⟨by omega, this.2⟩
    · obtain rfl : lo = hi := by omega
      exact ⟨by omega, by omega, hv, hx⟩
end Calib50

namespace Calib50
theorem mul_bd {a b A B : Int} (hA : 0 ≤ A) (ha : -A ≤ a ∧ a ≤ A) (hb : -B ≤ b ∧ b ≤ B) : -(A * B) ≤ a * b ∧ a * b ≤ A * B := by
  have key : ∀ a b A B : Int, 0 ≤ A → -A ≤ a ∧ a ≤ A → -B ≤ b ∧ b ≤ B → a * b ≤ A * B := by
    intro a b A B hA ha hb
    rcases Int.le_total 0 b with h | h
    · exact Int.le_trans (Int.mul_le_mul_of_nonneg_right ha.2 h) (Int.mul_le_mul_of_nonneg_left hb.2 hA)
    · have h1 : a * b ≤ (-A) * b := Int.mul_le_mul_of_nonpos_right ha.1 h
      have h2 : A * (-b) ≤ A * B := Int.mul_le_mul_of_nonneg_left (by omega) hA
      rw [Int.neg_mul, ← Int.mul_neg] at h1
      omega
  refine ⟨?_, key a b A B hA ha hb⟩
  have := key (-a) b A B hA ⟨by omega, by omega⟩ hb
  rw [Int.neg_mul] at this
  omega

def absZ (n : Int) : Int := if n < 0 then -n else n
/-- |x| at most M / |raw|: then x times raw is at most M -/
theorem fits {x raw M : Int} (hM : 0 ≤ M) (hr : raw ≠ 0) (h : -(M / absZ raw) ≤ x ∧ x ≤ M / absZ raw) : -M ≤ x * raw ∧ x * raw ≤ M := by
  have hp : 0 < absZ raw := by unfold absZ; split <;> omega
  have h1 := mul_bd (A := M / absZ raw) (B := absZ raw) (a := x) (b := raw) (Int.ediv_nonneg hM (by omega)) h (by unfold absZ; split <;> omega)
  have h2 := ediv_bd M (absZ raw) hp
  rw [Int.mul_comm] at h2
  omega

def big : Int := 4611686018427387904
/-- the polynomial by Horner's rule, from coefficient i - 1 down; none: too large -/
def horner (C : Nat → Int) (raw : Int) : Nat → Int → Option Int
  | 0, x => some x
  | i + 1, x => if raw ≠ 0 ∧ ¬ (-(big / absZ raw) ≤ x ∧ x ≤ big / absZ raw) then none
    else if ¬ (-big ≤ x * raw + C i ∧ x * raw + C i ≤ big) then none else horner C raw i (x * raw + C i)
def badB (C : Nat → Int) (n : Nat) (raw : Int) : Bool := decide (n = 0 ∨ 8 < n ∨ ¬ (-2147483648 ≤ raw ∧ raw ≤ 2147483648) ∨ ∃ i, i < n ∧ ¬ (-2147483648 ≤ C i ∧ C i ≤ 2147483648))
def fin : Option Int → Int × Int
  | none => (0, 6)
  | some x => if -2147483648 ≤ divZ x 1000000 ∧ divZ x 1000000 ≤ 2147483648 then (divZ x 1000000, 0) else (0, 6)
def poly (C : Nat → Int) (n : Nat) (raw : Int) : Int × Int := if badB C n raw then (0, 1) else fin (horner C raw (n - 1) (C (n - 1)))

theorem horner_neg (C D : Nat → Int) (raw : Int) : ∀ i x, (∀ j, j < i → D j = - C j) → horner D raw i (-x) = (horner C raw i x).map (- ·) := by
  intro i
  induction i with
  | zero => intro x _; rfl
  | succ i ih =>
    intro x hD
    simp only [horner]
    rw [hD i (by omega), show -x * raw + -C i = -(x * raw + C i) by rw [Int.neg_mul]; omega]
    by_cases h : raw ≠ 0 ∧ ¬ (-(big / absZ raw) ≤ x ∧ x ≤ big / absZ raw)
    · rw [if_pos h, if_pos ⟨h.1, by have := h.2; omega⟩]; rfl
    · rw [if_neg h, if_neg (by intro h'; exact h ⟨h'.1, by have := h'.2; omega⟩)]
      by_cases g : ¬ (-big ≤ x * raw + C i ∧ x * raw + C i ≤ big)
      · rw [if_pos g, if_pos (by omega)]; rfl
      · rw [if_neg g, if_neg (by omega)]
        exact ih _ (fun j hj => hD j (by omega))
theorem fin_neg (o : Option Int) : fin (o.map (- ·)) = (- (fin o).1, (fin o).2) := by
  cases o with
  | none => rfl
  | some x =>
    simp only [Option.map, fin]
    rw [divZ_neg x _ (by omega)]
    by_cases h : -2147483648 ≤ divZ x 1000000 ∧ divZ x 1000000 ≤ 2147483648
    · rw [if_pos h, if_pos (by omega)]
    · rw [if_neg h, if_neg (by omega)]; rfl
theorem poly_neg (C D : Nat → Int) (n : Nat) (raw : Int) (hD : ∀ j, j < n → D j = - C j) : poly D n raw = (- (poly C n raw).1, (poly C n raw).2) := by
  unfold poly
  have e : badB D n raw = badB C n raw := by
    unfold badB
    rw [decide_eq_decide]
    constructor
    · rintro (h | h | h | ⟨i, h1, h2⟩)
      · exact .inl h
      · exact .inr (.inl h)
      · exact .inr (.inr (.inl h))
      · exact .inr (.inr (.inr ⟨i, h1, by have := hD i h1; omega⟩))
    · rintro (h | h | h | ⟨i, h1, h2⟩)
      · exact .inl h
      · exact .inr (.inl h)
      · exact .inr (.inr (.inl h))
      · exact .inr (.inr (.inr ⟨i, h1, by have := hD i h1; omega⟩))
  rw [e]
  cases hb : badB C n raw
  · simp only [Bool.false_eq_true, if_false]
    have hn : n ≠ 0 := by
      unfold badB at hb
      intro h
      exact absurd (of_decide_eq_false hb) (by simp [h])
    rw [hD (n - 1) (by omega), horner_neg C D raw (n - 1) _ (fun j hj => hD j (by omega)), fin_neg]
  · rfl
theorem poly_bd (C : Nat → Int) (n : Nat) (raw : Int) : -2147483648 ≤ (poly C n raw).1 ∧ (poly C n raw).1 ≤ 2147483648 := by
  unfold poly
  split
  · simp
  · unfold fin
    split
    · simp
    · split
      · assumption
      · simp
theorem poly_one (C : Nat → Int) (h : -2147483648 ≤ C 0 ∧ C 0 ≤ 2147483648) : poly C 1 0 = (divZ (C 0) 1000000, 0) := by
  have e : badB C 1 0 = false := by
    unfold badB
    refine decide_eq_false ?_
    rintro (h' | h' | h' | ⟨i, h1, h2⟩)
    · omega
    · omega
    · omega
    · obtain rfl : i = 0 := by omega
      exact h2 h
  unfold poly
  rw [e]
  simp only [Bool.false_eq_true, if_false]
  show fin (some (C 0)) = _
  simp only [fin]
  have a := divZ_bd (C 0) 1000000 2147483648 (by omega) (by omega) (by omega)
  rw [if_pos a]
end Calib50

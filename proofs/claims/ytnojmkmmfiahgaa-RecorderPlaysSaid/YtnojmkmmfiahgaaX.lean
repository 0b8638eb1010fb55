/- Helper facts for RecorderRanks. No condition. -/
import Derived.Test.YtnojmkmmfiahgaaW
import Derived.Maps.AppendAt
namespace Go.Proofs.Ytnojmkmmfiahgaa
open Go.RowKit Go.Deep Go.ChangeShapes Go.WideShapes Go.ChangeAt
set_option linter.unusedVariables false

theorem info29 : (Try.prog.info? 29).map (fun i => (i.zero, i.size, i.bytes)) = some (some (.agg #[.int .i64 0, .int .i64 0, .int .i64 0, .bool false]), 4, 32) := by kernel_rfl
def prL (l : List UInt8) (j : Nat) : Int := ((l.getD j 0).toNat % 4 : Nat)
def cL (l : List UInt8) (j : Nat) : Nat := (l.getD j 0).toNat / 4 % 10
theorem cL_le (l : List UInt8) (j : Nat) : cL l j ≤ 9 := by unfold cL; omega
theorem prL_bd (l : List UInt8) (j : Nat) : 0 ≤ prL l j ∧ prL l j ≤ 3 := by unfold prL; omega
/-- the definitions -/
def dsL (l : List UInt8) (n : Nat) : List Df := (List.range n).map fun (j : Nat) => ⟨(j : Int), 100, prL l j, false⟩
def dcs (l : List UInt8) (n : Nat) : List Value := (List.range n).flatMap fun (j : Nat) => [.int .i64 (j : Int), .int .i64 100, .int .i64 (prL l j), .bool false]
theorem dcs_succ (l : List UInt8) (n : Nat) : dcs l (n + 1) = dcs l n ++ [.int .i64 (n : Int), .int .i64 100, .int .i64 (prL l n), .bool false] := by
  unfold dcs
  rw [List.range_succ, List.flatMap_append]
  simp
theorem dcs_get (l : List UInt8) : ∀ (n j i : Nat), j < n → i < 4 → (dcs l n)[j * 4 + i]? = ([.int .i64 (j : Int), .int .i64 100, .int .i64 (prL l j), .bool false] : List Value)[i]?
  | 0, j, i, hj, _ => absurd hj (Nat.not_lt_zero _)
  | n + 1, j, i, hj, hi => by
    have hl : ∀ n, (dcs l n).length = n * 4 := fun n => by
      induction n with
      | zero => rfl
      | succ n ih => rw [dcs_succ, List.length_append, ih]; simp; omega
    rw [dcs_succ]
    by_cases h : j < n
    · rw [List.getElem?_append_left (by rw [hl]; omega)]
      exact dcs_get l n j i h hi
    · obtain rfl : j = n := by omega
      rw [List.getElem?_append_right (by rw [hl]; omega), hl, Nat.add_sub_cancel_left]
theorem own_four {w : World} {B n m c : Nat} {e : TypeId} {a : Option Addr} {xs : List Value} (h : w.ownsRow B e 4 (.slice a m c) n xs) : m = n ∧ n ≤ c ∧ c ≤ maxLen ∧ (n = 0 ∨ ∃ g, a = some ⟨g, 0, none⟩ ∧ B ≤ g ∧ g < w.heap.size ∧ ∀ i, i < n * 4 → w.cell? ⟨g, i, none⟩ = xs[i]?) := by
  rcases h.2 with ⟨e, h0⟩ | ⟨g, cap, cur, e, hb, hg, hnc, hcm, hsz, hxs⟩
  · simp only [Value.slice.injEq] at e
    obtain ⟨-, rfl, rfl⟩ := e
    exact ⟨h0.symm, by omega, Nat.zero_le _, .inl h0⟩
  · simp only [Value.slice.injEq] at e
    obtain ⟨rfl, rfl, rfl⟩ := e
    refine ⟨rfl, hnc, hcm, .inr ⟨g, rfl, hb, (Array.getElem?_eq_some_iff.1 hg).1, fun i hi => ?_⟩⟩
    rw [Joins.cell_of_block hg, ← hxs, List.getElem?_take_of_lt hi, Array.getElem?_toList]
theorem ds_at {w : World} {B n m c : Nat} {a : Option Addr} {l : List UInt8} (h : w.ownsRow B 29 4 (.slice a m c) n (dcs l n)) : DAt w a (dsL l n) := by
  obtain ⟨-, -, -, h0 | ⟨g, h1, -, h2, h3⟩⟩ := own_four h
  · left; subst h0; rfl
  · refine .inr ⟨g, 0, h1, h2, fun i hi j hj => ?_⟩
    have hin : i < n := by simpa [dsL] using hi
    rw [Nat.zero_add, h3 (i * 4 + j) (by omega), dcs_get l n i j hin hj]
    simp [dsL, Df.cells]
theorem ds_good {l : List UInt8} {n : Nat} (hn : n ≤ 10) : ∀ i, ¬ badD (dsL l n) i := by
  rintro i ⟨d, h1, h2⟩
  have hin : i < n := by have := (List.getElem?_eq_some_iff.1 h1).1; simpa [dsL] using this
  have hd : d = ⟨(i : Int), 100, prL l i, false⟩ := by
    have : (dsL l n)[i]? = some ⟨(i : Int), 100, prL l i, false⟩ := by simp [dsL, hin]
    rw [this] at h1
    exact (Option.some.inj h1).symm
  subst hd
  have hp := prL_bd l i
  rcases h2 with h | h | ⟨p, h3, h4, h5⟩ | h | h | h | h
  · dsimp only at h; omega
  · dsimp only at h; omega
  · have : (dsL l n)[i - 1]? = some ⟨((i - 1 : Nat) : Int), 100, prL l (i - 1), false⟩ := by simp [dsL, show i - 1 < n by omega]
    rw [this] at h4
    cases h4
    dsimp only at h5
    omega
  · dsimp only at h; omega
  · dsimp only at h; omega
  · dsimp only at h; omega
  · dsimp only at h; omega
theorem ds_start (l : List UInt8) (n : Nat) : (⟨0, (dsL l n).map Df.st⟩ : RS) = rR ((0 : Nat) : Int) n (prL l) (fun _ => 0) no2 := by
  unfold rR dsL
  rw [List.map_map]
  congr 1
theorem rR_congr {now : Int} {n : Nat} {pr : Nat → Int} {c c' : Nat → Nat} {w w' : Nat → Nat → Bool} (h : ∀ j, j < n → c j = c' j ∧ w j = w' j) : rR now n pr c w = rR now n pr c' w' := by
  unfold rR
  congr 1
  refine List.map_congr_left fun j hj => ?_
  obtain ⟨h1, h2⟩ := h j (List.mem_range.1 hj)
  unfold sR eR
  rw [h1, h2]
/-- what lies in the stores behind packet k of the first i stores -/
def cK (c : Nat → Nat) (k i j : Nat) : Nat := if j < i then min (c j) (k + 1) else min (c j) k
theorem cK_up {c : Nat → Nat} {k i : Nat} (h : k < c i) : up (cK c k i) i = cK c k (i + 1) ∧ cK c k i i = k := by
  constructor
  · funext j
    unfold up cK
    by_cases e : j = i
    · subst e; rw [if_pos rfl, if_neg (by omega), if_pos (by omega)]; omega
    · rw [if_neg e]
      by_cases e2 : j < i
      · rw [if_pos e2, if_pos (by omega)]
      · rw [if_neg e2, if_neg (by omega)]
  · unfold cK; rw [if_neg (by omega)]; omega
theorem cK_skip {c : Nat → Nat} {k i : Nat} (h : ¬ k < c i) : cK c k i = cK c k (i + 1) := by
  funext j
  unfold cK
  by_cases e : j = i
  · subst e; rw [if_neg (by omega), if_pos (by omega)]; omega
  · by_cases e2 : j < i
    · rw [if_pos e2, if_pos (by omega)]
    · rw [if_neg e2, if_neg (by omega)]
theorem cK_round (c : Nat → Nat) (k n : Nat) : ∀ j, j < n → cK c k n j = cK c (k + 1) 0 j := fun j hj => by
  unfold cK; rw [if_pos hj, if_neg (by omega)]
theorem cK_le (c : Nat → Nat) (k i j : Nat) : cK c k i j ≤ c j := by unfold cK; split <;> omega
theorem rR_ok {now n : Nat} {pr : Nat → Int} {c : Nat → Nat} {w : Nat → Nat → Bool} (hn : now ≤ 9) (hl : n ≤ 10) (hp : ∀ j, 0 ≤ pr j ∧ pr j ≤ 3) (hc : ∀ j, c j ≤ 9) : (rR (now : Int) n pr c w).Ok := by
  refine ⟨by show 0 ≤ (now : Int) ∧ (now : Int) ≤ 1099511627776; omega, by show ((List.range n).map (sR pr c w)).length ≤ 256; simp; omega, fun s hs => ?_⟩
  obtain ⟨j, hj, rfl⟩ := List.mem_map.1 (show s ∈ (List.range n).map (sR pr c w) from hs)
  have hjn := List.mem_range.1 hj
  have hpj := hp j
  have hcj := hc j
  refine ⟨by show 0 ≤ (j : Int) ∧ (j : Int) ≤ 65535; omega, show (0 : Int) ≤ 100 ∧ (100 : Int) ≤ 2147483648 by decide, by show 0 ≤ pr j ∧ pr j ≤ 15; omega, ?_, fun x hx => ?_, fun x hx => ?_⟩
  · show ((lvl ((List.range (c j)).map (eR w j)) : Nat) : Int) ≤ 100
    rw [lvl_eR]
    simp
    omega
  · obtain ⟨k, hk, rfl⟩ := List.mem_map.1 (show x ∈ (List.range (c j)).map (eR w j) from hx)
    exact ⟨show 1 ≤ 2 by decide, show 2 ≤ 4096 by decide⟩
  · obtain ⟨k, hk, rfl⟩ := List.mem_map.1 (show x ∈ (List.range (c j)).map (eR w j) from hx)
    have := List.mem_range.1 hk
    exact ⟨by show 0 ≤ (k : Int); omega, by show (k : Int) ≤ _; omega⟩
theorem rR_drop {now : Int} {n : Nat} {pr : Nat → Int} {c : Nat → Nat} {w : Nat → Nat → Bool} : ∀ (i : Nat) (s : St), (rR now n pr c w).stores[i]? = some s → s.drop ≤ 4000000000000000000 := drop_of (fun s hs => by
  obtain ⟨j, hj, rfl⟩ := List.mem_map.1 (show s ∈ (List.range n).map (sR pr c w) from hs)
  exact Nat.zero_le _)
theorem getD_of {l : List UInt8} {i : Nat} {x : UInt8} (h : l[i]? = some x) : l.getD i 0 = x := by
  rw [List.getD_eq_getElem?_getD, h]
  rfl
/-- four cells, for append of one definition -/
theorem news4 (w : World) (x y z u : Value) (t : TypeId) : ∀ (j : Nat) (v : Value), [x, y, z, u][j]? = some v → (w.alloc (.cells #[x, y, z, u] t)).cell? ((⟨w.heap.size, 0, none⟩ : Addr).add j) = some v := fun j v hj => by
  rw [add_plain, Nat.zero_add]
  exact ((Blk.new w t [x, y, z, u]).cell j).trans hj
end Go.Proofs.Ytnojmkmmfiahgaa

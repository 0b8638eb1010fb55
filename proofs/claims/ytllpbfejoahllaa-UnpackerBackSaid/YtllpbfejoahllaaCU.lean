/- cut: what its loops keep. No condition. -/
import Derived.Test.YtllpbfejoahllaaW
import Derived.Test.YtllpbfejoahllaaZ
import Derived.Test.YtllpbfejoahllaaRW
import Derived.Deep.DeepCutAuto
import Derived.Deep.CutBlock
import Derived.Deep.RegionHeld
import Derived.Deep.RegionHeld3
import Derived.Outline
namespace Go.Proofs.Ytllpbfejoahllaa
open Go.RowKit Go.Deep Go.ChangeShapes Go.WideShapes Go.ChangeAt
set_option linter.unusedVariables false

/-- where packets end -/
def ends : Nat → List (List UInt8) → List Nat
  | _, [] => []
  | pos, p :: ps => (pos + p.length) :: ends (pos + p.length) ps
theorem ends_append (a b : List (List UInt8)) : ∀ pos, ends pos (a ++ b) = ends pos a ++ ends (pos + a.flatten.length) b := by
  induction a with
  | nil => intro pos; simp [ends]
  | cons p ps ih => intro pos; simp only [List.cons_append, ends, ih, List.flatten_cons, List.length_append, Nat.add_assoc]
theorem own_sliceC {w : World} {B n : Nat} {e : TypeId} {k : Nat} {v : Value} {xs : List Value} (h : w.ownsRow B e k v n xs) : ∃ a m c, v = .slice a m c := by
  rcases h.2 with ⟨rfl, -⟩ | ⟨g, cap, cur, rfl, -⟩
  · exact ⟨_, _, _, rfl⟩
  · exact ⟨_, _, _, rfl⟩
def fromL (sz : Nat) (P : List (List UInt8)) : List Nat := (starts 0 P).map (· / sz)
def toL (sz : Nat) (P : List (List UInt8)) : List Nat := (ends 0 P).map fun e => (e - 1) / sz
theorem fromL_succ (sz : Nat) (P : List (List UInt8)) (p : List UInt8) : encN (fromL sz (P ++ [p])) = encN (fromL sz P) ++ [.int .i64 ((P.flatten.length / sz : Nat) : Int)] := by
  unfold fromL
  rw [starts_append]
  simp [starts, encN]
theorem toL_succ (sz : Nat) (P : List (List UInt8)) (p : List UInt8) : encN (toL sz (P ++ [p])) = encN (toL sz P) ++ [.int .i64 (((P.flatten.length + p.length - 1) / sz : Nat) : Int)] := by
  unfold toL
  rw [ends_append]
  simp [ends, encN]
theorem startsE_succ (P : List (List UInt8)) (p : List UInt8) : encN (starts 0 (P ++ [p])) = encN (starts 0 P) ++ [.int .i64 (P.flatten.length : Int)] := by
  rw [starts_append]
  simp [starts, encN]
theorem flat_succ (P : List (List UInt8)) (p : List UInt8) : (P ++ [p]).flatten = P.flatten ++ p := by simp
/-- the rows of a spread, without the fields -/
def cutRows (sz : Nat) (P : List (List UInt8)) (vFr vTo vSt vB : Value) : List Row :=
  [⟨vFr, 3, 1, P.length, encN (fromL sz P)⟩, ⟨vTo, 3, 1, P.length, encN (toL sz P)⟩, ⟨vSt, 5, 1, P.flatten.length, encB P.flatten⟩, ⟨vB, 3, 1, P.length, encN (starts 0 P)⟩]
theorem cutRows_start (w : World) (B sz : Nat) : Rows w B (cutRows sz [] (.slice Option.none 0 0) (.slice Option.none 0 0) (.slice Option.none 0 0) (.slice Option.none 0 0)) :=
  ((((Rows.nil w B).cons_nil 3 1).cons_nil 5 1).cons_nil 3 1).cons_nil 3 1
theorem cutRows_succ {w : World} {B sz k n m q q2 : Nat} {Q : List (List UInt8)} {p x : List UInt8} {vFr vTo vSt vB : Value} (hk : Q.length = k) (hx : x = Q.flatten) (hn : n = x.length) (hm : m = p.length) (hq : q = n / sz) (hq2 : q2 = (n + m - 1) / sz)
    (h : Rows w B [⟨vFr, 3, 1, k + 1, encN (fromL sz Q) ++ [.int .i64 (q : Int)]⟩, ⟨vTo, 3, 1, k + 1, encN (toL sz Q) ++ [.int .i64 (q2 : Int)]⟩, ⟨vSt, 5, 1, n + m, encB x ++ encB p⟩, ⟨vB, 3, 1, k + 1, encN (starts 0 Q) ++ [.int .i64 (n : Int)]⟩]) : Rows w B (cutRows sz (Q ++ [p]) vFr vTo vSt vB) := by
  unfold cutRows
  rw [fromL_succ, toL_succ, startsE_succ, flat_succ, encB_append, List.length_append, List.length_append, hk, ← hx, ← hn, ← hm, ← hq, ← hq2]
  exact h
/-- a struct's row grew, the struct's field takes it -/
theorem Rows.putC {w0 w wm w8 : World} {B H bs : Nat} {T : TypeId} {cs : List Value} {rs : List Row} (hk : Blk w bs T cs) (hr : Rows w B rs) (h0 : Below H w0 w) (hm : Below w.heap.size w wm) (hB : bs < B) (hH : H ≤ bs) (i : Nat) {r : Row} (hi : rs[i]? = some r) {v8 : Value} {m : Nat} {ys : List Value}
    (how : w8.ownsRow B r.ty r.sz v8 m ys) (hg : wm.grownBy w8 r.v.ownBlock) (hb : v8.ownBlock = r.v.ownBlock ∨ v8.ownBlock = some wm.heap.size) (f : Nat) :
    (∀ (j : Nat) (v : Value), cs[j]? = some v → w8.cell? ⟨bs, j, Option.none⟩ = some v) ∧ w8.frozen? ⟨bs, f, Option.none⟩ = false ∧ bs < w8.heap.size ∧ (∀ (j : Nat) (v : Value), (cs.set f v8)[j]? = some v → (w8.setCell ⟨bs, f, Option.none⟩ v8).cell? ⟨bs, j, Option.none⟩ = some v) ∧
    Hid (Blk (w8.setCell ⟨bs, f, Option.none⟩ v8) bs T (cs.set f v8)) ∧ Hid (Rows (w8.setCell ⟨bs, f, Option.none⟩ v8) B (rs.set i ⟨v8, r.ty, r.sz, m, ys⟩)) ∧ Hid (Below H w0 (w8.setCell ⟨bs, f, Option.none⟩ v8)) := by
  have hkw : bs < w.heap.size := hk.lt
  have hk' := hk.below hm (Nat.le_refl _)
  have hlt : ∀ k, r.v.ownBlock = some k → B ≤ k := fun k hk => ((hr.row i hi).lt k hk).1
  have k8 : Blk w8 bs T cs := hk'.grown hg (fun e => by have := hlt _ e; omega)
  obtain ⟨p1, p2, p3⟩ := Rows.put hk' (hr.below hm (Nat.le_refl _)) (h0.trans (hm.mono (by omega))) hB hH i hi how hg hb f
  exact ⟨fun j v h => k8.at j h, k8.free f, k8.lt, fun j v h => p1.at j h, Lib.hid p1, Lib.hid p2, Lib.hid p3⟩
theorem info37 : (Try.prog.info? 37).map (fun i => (i.zero, i.size, i.bytes)) = some (some (.agg #[.int .i64 0, .int .i64 0, .slice none 0 0]), 3, 40) := by kernel_rfl
/-- the cells of field j -/
def fcell (g c sz start n : Nat) (bn : List Nat) (j : Nat) : List Value := [.int .i64 (((start + j) % 256 : Nat) : Int), .int .i64 (firstL bn (j * sz) (j * sz + sz)), .slice (some ⟨g, j * sz, Option.none⟩) (min sz (n - j * sz)) (c - j * sz)]
def fcells (g c sz start n : Nat) (bn : List Nat) (k : Nat) : List Value := (List.range k).flatMap (fcell g c sz start n bn)
theorem fcells_succ (g c sz start n : Nat) (bn : List Nat) (k : Nat) : fcells g c sz start n bn (k + 1) = fcells g c sz start n bn k ++ fcell g c sz start n bn k := by
  unfold fcells
  rw [List.range_succ, List.flatMap_append]
  simp
theorem fcells_get (g c sz start n : Nat) (bn : List Nat) : ∀ (k j i : Nat), j < k → i < 3 → (fcells g c sz start n bn k)[j * 3 + i]? = (fcell g c sz start n bn j)[i]?
  | 0, j, i, hj, _ => absurd hj (Nat.not_lt_zero _)
  | k + 1, j, i, hj, hi => by
    have hl : ∀ k, (fcells g c sz start n bn k).length = k * 3 := fun k => by
      induction k with
      | zero => rfl
      | succ k ih => rw [fcells_succ, List.length_append, ih]; simp [fcell]; omega
    rw [fcells_succ]
    by_cases h : j < k
    · rw [List.getElem?_append_left (by rw [hl]; omega)]
      exact fcells_get g c sz start n bn k j i h hi
    · obtain rfl : j = k := by omega
      rw [List.getElem?_append_right (by rw [hl]; omega), hl, Nat.add_sub_cancel_left]
theorem news3 (w : World) (x y z : Value) (t : TypeId) : ∀ (j : Nat) (u : Value), [x, y, z][j]? = some u → (w.alloc (.cells #[x, y, z] t)).drew.cell? ((⟨w.heap.size, 0, Option.none⟩ : Addr).add j) = some u := fun j u hj => by
  rw [add_plain, Nat.zero_add]
  exact ((Blk.new w t [x, y, z]).cell j).trans hj
/-- what cut gives -/
def CutQ (vS : Value) (P : List (List UInt8)) (sz start : Nat) (w : World) (e : Ending) (w' : World) : Prop :=
  ∃ (aF : Option Addr) (nF cF : Nat) (aT : Option Addr) (nT cT : Nat) (aE : Option Addr) (nE cE : Nat) (aS : Option Addr) (cS : Nat) (aB : Option Addr) (cB nf gS : Nat),
    e = .returned (.agg #[.slice aE nE cE, .slice aF nF cF, .slice aT nT cT, vS, .slice aS P.flatten.length cS, .slice aB P.length cB]) ∧
    Hid (Rows w' (w.heap.size + 2) [⟨.slice aE nE cE, 37, 3, nf, fcells gS cS sz start P.flatten.length (starts 0 P) nf⟩, ⟨.slice aF nF cF, 3, 1, P.length, encN (fromL sz P)⟩, ⟨.slice aT nT cT, 3, 1, P.length, encN (toL sz P)⟩, ⟨.slice aS P.flatten.length cS, 5, 1, P.flatten.length, encB P.flatten⟩, ⟨.slice aB P.length cB, 3, 1, P.length, encN (starts 0 P)⟩]) ∧
    Hid (Below w.heap.size w w') ∧ P.flatten.length ≤ nf * sz ∧ (nf = 0 ∨ (nf - 1) * sz < P.flatten.length) ∧ (P.flatten.length = 0 ∨ aS = some ⟨gS, 0, none⟩) ∧ P.flatten.length ≤ cS ∧ cS ≤ maxLen
theorem flat_take_le {P : List (List UInt8)} (hl : ∀ p ∈ P, p.length ≤ 70) (k : Nat) : (P.take k).flatten.length ≤ 70 * k := by
  induction k with
  | zero => simp
  | succ k ih =>
    by_cases h : k < P.length
    · rw [List.take_succ_eq_append_getElem h, List.flatten_append, List.length_append]
      have := hl _ (List.getElem_mem h)
      simp only [List.flatten_cons, List.flatten_nil, List.append_nil]
      omega
    · rw [List.take_of_length_le (by omega)] at ih ⊢
      omega
end Go.Proofs.Ytllpbfejoahllaa

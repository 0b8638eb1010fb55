/- UnpackerSizes: the packets in plain lists. No condition. -/
import Derived.Test.YtllpbfejoahllaaU
namespace Go.Proofs.Ytllpbfejoahllaa
open Go.RowKit Go.Deep Go.ChangeShapes Go.WideShapes Go.ChangeAt
set_option linter.unusedVariables false
theorem info3 : (Try.prog.info? 3).map (fun i => (i.zero, i.size, i.bytes)) = some (some (.int .i64 0), 1, 8) := by kernel_rfl
/-- the first k packets -/
def sentP (L : List (List UInt8)) (k : Nat) : List (List UInt8) := (List.range k).map fun i => wrapP i (L.getD i [])
theorem sentP_len (L : List (List UInt8)) (k : Nat) : (sentP L k).length = k := by simp [sentP]
theorem sentP_succ (L : List (List UInt8)) (k : Nat) (h : k < L.length) : sentP L (k + 1) = sentP L k ++ [wrapP k L[k]] := by
  unfold sentP
  rw [List.range_succ, List.map_append]
  simp [h]
def Fit (L : List (List UInt8)) (k : Nat) : Prop := ∀ i, i < k → ∀ h : i < L.length, 1 ≤ L[i].length ∧ L[i].length ≤ 60
theorem sentP_flat (L : List (List UInt8)) (k : Nat) (hk : k ≤ L.length) (h : Fit L k) : (sentP L k).flatten.length ≤ 66 * k := by
  induction k with
  | zero => simp [sentP]
  | succ k ih =>
    have := ih (by omega) (fun i hi => h i (by omega))
    have h2 := h k (by omega) (by omega)
    rw [sentP_succ L k (by omega), List.flatten_append, List.length_append]
    simp only [List.flatten_cons, List.flatten_nil, List.append_nil, wrapP_len]
    omega
theorem sentP_wf (L : List (List UInt8)) (k : Nat) (hk : k ≤ L.length) (hk2 : k ≤ 40) (h : Fit L k) : ∀ p ∈ sentP L k, WF p ∧ apid p ≠ 2047 := by
  intro p hp
  unfold sentP at hp
  rw [List.mem_map] at hp
  obtain ⟨i, hi, rfl⟩ := hp
  rw [List.mem_range] at hi
  have h2 := h i hi (by omega)
  have e : L.getD i [] = L[i] := by simp [show i < L.length by omega]
  rw [e]
  obtain ⟨h3, h4⟩ := wrapP_wf i L[i] (by omega) h2.1 (by omega)
  exact ⟨h3, by omega⟩
theorem starts_len (P : List (List UInt8)) : ∀ n, (starts n P).length = P.length := by
  induction P with
  | nil => intro n; rfl
  | cons p ps ih => intro n; simp [starts, ih]
theorem starts_succ (P : List (List UInt8)) (p : List UInt8) : starts 0 (P ++ [p]) = starts 0 P ++ [P.flatten.length] := by
  rw [starts_append]
  simp [starts]
theorem take_n {b cap cd n : Nat} {u : US} {a ad : Option Addr} {c f : Int} {data : List UInt8} {w : World} (h : UAt w b u a cap) (h1 : 0 ≤ u.next ∧ u.next < 256) (h2 : 0 ≤ u.lost ∧ u.lost ≤ 1000000000) (hr : u.rest.length ≤ 4096) (hd : BAt w ad data) (hn : data.length = n) (hl : n ≤ 10000) (hcd : n ≤ cd) (hcm : cd ≤ maxLen) :
    Calls Try.prog 12 #[.pointer (some ⟨b, 0, none⟩), .int .i64 c, .int .i64 f, .slice ad n cd] w (TkQ w b a u.rest (u.take c f data)) := by
  subst hn
  exact take_any b cap cd u a ad c f data w h h1 h2 hr hd hl hcd hcm
theorem drop_cons {bs : List Nat} {j : Nat} (h : j < bs.length) : bs.drop j = bs[j] :: bs.drop (j + 1) := List.drop_eq_getElem_cons h
theorem VAt.nat {w : World} {a : Option Addr} {bs : List Nat} (h : VAt w a (encN bs)) {j : Nat} (hj : j < bs.length) : ∃ b off, a = some ⟨b, off, none⟩ ∧ w.cell? ⟨b, off + j, none⟩ = some (.int .i64 (bs[j] : Int)) := by
  obtain ⟨b, off, h1, -, h2⟩ := h.get (i := j) (by simpa [encN] using hj)
  exact ⟨b, off, h1, by rw [h2]; simp [encN]⟩
theorem firstL_cons (b : Nat) (bs : List Nat) (a e : Nat) : firstL (b :: bs) a e = if a ≤ b ∧ b < e then ((b - a : Nat) : Int) else firstL bs a e := by
  unfold firstL
  rw [List.find?_cons]
  by_cases h : a ≤ b ∧ b < e
  · rw [if_pos h, decide_eq_true h.1, decide_eq_true h.2]; rfl
  · rw [if_neg h]
    have : (decide (a ≤ b) && decide (b < e)) = false := by rw [Bool.eq_false_iff, ne_eq, Bool.and_eq_true, decide_eq_true_eq, decide_eq_true_eq]; exact h
    rw [this]
theorem invS_len {sent : List (List UInt8)} {k a : Nat} {u : US} {got done qs : List (List UInt8)} {o : Nat} (h : InvS sent k a u got done qs o) : got.length ≤ sent.length := by
  rw [h.got, h.split, List.length_append]
  have : (nonIdle done).length ≤ done.length := List.length_filter_le _ _
  omega
theorem S1.sat {w wr : World} {P : List (List UInt8)} {x : List UInt8} {bs : List Nat} {v1 v2 v3 : Value} {us : List Value} (h : S1 w wr P x bs v1 v2 v3 us) : SAt wr (fun k => k < w.heap.size) v1 P :=
  SAt.of_row h.sent (h.sls.grow fun k hk => .inl (.inl hk)) (fun k hk e => by have := (h.sent.lt k hk).1; omega)
/-- what the first loop keeps -/
def Z1 (w wr : World) (L : List (List UInt8)) (v1 v2 v3 i : Value) : Prop :=
  ∃ (k : Nat) (us : List Value), k ≤ L.length ∧ i = .int .i64 k ∧ Fit L k ∧ S1 w wr (sentP L k) (sentP L k).flatten (starts 0 (sentP L k)) v1 v2 v3 us
/-- what the second loop keeps -/
def Z2 (wo wr : World) (sent : List (List UInt8)) (x : List UInt8) (vg at_ k : Value) : Prop :=
  ∃ (k' a' : Nat) (u : US) (a : Option Addr) (cap : Nat) (fs done qs : List (List UInt8)) (o : Nat) (vs : List Value), a' ≤ x.length ∧ k' ≤ a' ∧ at_ = .int .i64 a' ∧ k = .int .i64 k' ∧ GF wo wr u a cap fs vg vs ∧ InvS sent k' a' u fs done qs o ∧ (0 ≤ u.next ∧ u.next < 256) ∧ u.rest.length ≤ 4096 ∧ fs.length ≤ sent.length
end Go.Proofs.Ytllpbfejoahllaa

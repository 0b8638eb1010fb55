/- UnpackerBack: the packets that are sent, and what its loops keep. No condition. -/
import Derived.Test.YtllpbfejoahllaaCV
namespace Go.Proofs.Ytllpbfejoahllaa
open Go.RowKit Go.Deep Go.ChangeShapes Go.WideShapes Go.ChangeAt
set_option linter.unusedVariables false

theorem info4 : (Try.prog.info? 4).map (fun i => (i.zero, i.size, i.bytes)) = some (some (.bool false), 1, 1) := by kernel_rfl
/-- an idle packet -/
def idB (A : List UInt8) (i : Nat) : Bool := decide (i < A.length) && decide ((A.getD i 0).toNat % 4 = 0)
def pkB (L : List (List UInt8)) (A : List UInt8) (i : Nat) : List UInt8 := wrapP (if idB A i = true then 2047 else 100 + i) (L.getD i [])
def sentB (L : List (List UInt8)) (A : List UInt8) (k : Nat) : List (List UInt8) := (List.range k).map (pkB L A)
def idsB (A : List UInt8) (k : Nat) : List Bool := (List.range k).map (idB A)
theorem sentB_len (L : List (List UInt8)) (A : List UInt8) (k : Nat) : (sentB L A k).length = k := by simp [sentB]
theorem idsB_len (A : List UInt8) (k : Nat) : (idsB A k).length = k := by simp [idsB]
theorem sentB_succ (L : List (List UInt8)) (A : List UInt8) (k : Nat) : sentB L A (k + 1) = sentB L A k ++ [pkB L A k] := by
  unfold sentB
  rw [List.range_succ, List.map_append]
  rfl
theorem idsB_succ (A : List UInt8) (k : Nat) : bvs (idsB A (k + 1)) = bvs (idsB A k) ++ [.bool (idB A k)] := by
  unfold idsB bvs
  rw [List.range_succ, List.map_append, List.map_append]
  rfl
theorem pkB_at {L : List (List UInt8)} {A : List UInt8} {i : Nat} (h : i < L.length) : pkB L A i = wrapP (if idB A i = true then 2047 else 100 + i) L[i] := by
  unfold pkB
  simp [h]
theorem pkB_wf {L : List (List UInt8)} {A : List UInt8} {i : Nat} (h : i < L.length) (hi : i < 40) (h1 : 1 ≤ L[i].length) (h2 : L[i].length ≤ 60) : WF (pkB L A i) ∧ (pkB L A i).length = L[i].length + 6 ∧ (apid (pkB L A i) ≠ 2047 ↔ idB A i = false) := by
  rw [pkB_at h]
  cases hid : idB A i with
  | true =>
    obtain ⟨h3, h4⟩ := wrapP_wf 2047 L[i] (by omega) h1 (by omega)
    exact ⟨by simpa using h3, by simp [wrapP_len], by simp [h4]⟩
  | false =>
    obtain ⟨h3, h4⟩ := wrapP_wf (100 + i) L[i] (by omega) h1 (by omega)
    exact ⟨by simpa using h3, by simp [wrapP_len], by simp [h4]; omega⟩
theorem sentB_get {L : List (List UInt8)} {A : List UInt8} {k i : Nat} (h : i < k) : (sentB L A k)[i]? = some (pkB L A i) := by simp [sentB, h]
theorem sentB_wf {L : List (List UInt8)} {A : List UInt8} (hf : Fit L L.length) (hl : L.length ≤ 40) : ∀ p ∈ sentB L A L.length, WF p ∧ 7 ≤ p.length ∧ p.length ≤ 66 := by
  intro p hp
  obtain ⟨i, hi⟩ := List.mem_iff_getElem?.1 hp
  have hlt : i < L.length := by have := (List.getElem?_eq_some_iff.1 hi).1; rwa [sentB_len] at this
  rw [sentB_get hlt] at hi
  cases hi
  obtain ⟨h1, h2⟩ := hf i hlt hlt
  obtain ⟨h3, h4, -⟩ := pkB_wf (A := A) hlt (by omega) h1 h2
  exact ⟨h3, by omega, by omega⟩
theorem starts_get (P : List (List UInt8)) : ∀ (pos i : Nat), i < P.length → (starts pos P)[i]? = some (pos + (P.take i).flatten.length) := by
  induction P with
  | nil => intro pos i h; simp at h
  | cons p ps ih =>
    intro pos i h
    cases i with
    | zero => simp [starts]
    | succ i =>
      simp only [starts, List.getElem?_cons_succ, List.take_succ_cons, List.flatten_cons, List.length_append]
      rw [ih _ i (by simpa using h), Nat.add_assoc]
theorem ends_get (P : List (List UInt8)) : ∀ (pos i : Nat) (h : i < P.length), (ends pos P)[i]? = some (pos + (P.take i).flatten.length + P[i].length) := by
  induction P with
  | nil => intro pos i h; simp at h
  | cons p ps ih =>
    intro pos i h
    cases i with
    | zero => simp [ends]
    | succ i =>
      simp only [ends, List.getElem?_cons_succ, List.take_succ_cons, List.flatten_cons, List.length_append, List.getElem_cons_succ]
      rw [ih _ i (by simpa using h), Nat.add_assoc pos p.length]
theorem want_snoc (lost : Nat → Bool) (sz : Nat) (P : List (List UInt8)) (p : List UInt8) : want lost sz 0 (P ++ [p]) = want lost sz 0 P ++ (if (decide (apid p ≠ 2047) && seen lost sz P.flatten.length p.length) = true then [p] else []) := by
  rw [want_append]
  simp [want]
theorem want_len (lost : Nat → Bool) (sz : Nat) (P : List (List UInt8)) : ∀ pos, (want lost sz pos P).length ≤ P.length := by
  induction P with
  | nil => intro pos; simp [want]
  | cons p ps ih =>
    intro pos
    have := ih (pos + p.length)
    simp only [want, List.length_append, List.length_cons]
    split <;> simp <;> omega
theorem wrap_n {a m : Nat} {ai : Int} (hai : ai = (a : Int)) (ad : Option Addr) (cap : Nat) (l : List UInt8) (w : World) (hm : m = l.length) (ha : a ≤ 2047) (h1 : 1 ≤ m) (h2 : m ≤ 1900) (hb : BAt w ad l) : Calls Try.prog 8 #[.int .i64 ai, .slice ad m cap] w (NB w (wrapP a l)) := by
  subst hai hm
  exact wrap_any a ad cap l w ha h1 h2 hb
theorem S2own {w : World} {B n : Nat} {e : TypeId} {k : Nat} {v : Value} {xs : List Value} {n' : Nat} (h : w.ownsRow B e k v n xs) (hn : n = n') : w.ownsRow B e k v n' xs := hn ▸ h
theorem own_many {w : World} {B n m c : Nat} {e : TypeId} {a : Option Addr} {xs : List Value} (h : w.ownsRow B e 3 (.slice a m c) n xs) : m = n ∧ (n = 0 ∨ ∃ g, a = some ⟨g, 0, Option.none⟩ ∧ B ≤ g ∧ g < w.heap.size ∧ ∀ i, i < n * 3 → w.cell? ⟨g, i, Option.none⟩ = xs[i]?) := by
  rcases h.2 with ⟨e, h0⟩ | ⟨g, cap, cur, e, hb, hg, hnc, hcm, hsz, hxs⟩
  · simp only [Value.slice.injEq] at e
    obtain ⟨-, rfl, -⟩ := e
    exact ⟨h0.symm, .inl h0⟩
  · simp only [Value.slice.injEq] at e
    obtain ⟨rfl, rfl, rfl⟩ := e
    refine ⟨rfl, .inr ⟨g, rfl, hb, (Array.getElem?_eq_some_iff.1 hg).1, fun i hi => ?_⟩⟩
    rw [Joins.cell_of_block hg, ← hxs, List.getElem?_take_of_lt hi, Array.getElem?_toList]
theorem lost_n {a : Option Addr} {n : Nat} (cap : Nat) (l : List UInt8) (i : Nat) (w : World) (hn : n = l.length) (hi : i ≤ 100000) (hl : n ≤ 100000) (hb : BAt w a l) : Calls Try.prog 10 #[.slice a n cap, .int .i64 (i : Int)] w fun e w' => e = .returned (.bool (lostB l i)) ∧ w' = w := by
  subst hn
  exact lostf_any a cap l i w hi hl hb
theorem nat_row {w : World} {B n m : Nat} {a : Option Addr} {c : Nat} {bs : List Nat} (h : w.ownsRow B 3 1 (.slice a m c) n (encN bs)) {i x : Nat} (hi : bs[i]? = some x) : m = n ∧ i < n ∧ ∃ b off, a = some ⟨b, off, Option.none⟩ ∧ w.cell? ⟨b, off + i, Option.none⟩ = some (.int .i64 (x : Int)) := by
  obtain ⟨hl, a', c', he, -, -, hV, -⟩ := VAt.of_row h
  simp only [Value.slice.injEq] at he
  obtain ⟨rfl, hm, rfl⟩ := he
  obtain ⟨hlt, rfl⟩ := List.getElem?_eq_some_iff.1 hi
  have hln : (encN bs).length = bs.length := by simp [encN]
  obtain ⟨b, off, h1, h2⟩ := hV.nat hlt
  exact ⟨by omega, by omega, b, off, h1, h2⟩
/-- two rows of the call's own: packets, marks -/
structure S2 (w wr : World) (P : List (List UInt8)) (ids : List Bool) (v1 v2 : Value) (us : List Value) : Prop where
  sent : wr.ownsRow w.heap.size 23 1 v1 P.length us
  sls : Sls wr (fun k => k < w.heap.size ∨ v1.ownBlock = some k ∨ v2.ownBlock = some k) us P
  idl : wr.ownsRow w.heap.size 4 1 v2 ids.length (bvs ids)
  d : ∀ k, v1.ownBlock = some k → v2.ownBlock ≠ some k
  below : Below w.heap.size w wr
theorem S2.start (w : World) : S2 w w [] [] (.slice none 0 0) (.slice none 0 0) [] :=
  ⟨World.ownsRow_nil _ _ _ _, Sls.nil, World.ownsRow_nil _ _ _ _, fun k hk => by simp [Value.ownBlock] at hk, Below.refl _ _⟩
section
variable {w wr w2 w8 : World} {P : List (List UInt8)} {p : List UInt8} {ids : List Bool} {v1 v2 v8 vx : Value} {us : List Value}
theorem S2.step (h : S2 w wr P ids v1 v2 us) (hb : Below wr.heap.size wr w2) : S2 w w2 P ids v1 v2 us :=
  ⟨own_below h.sent hb (Nat.le_refl _), h.sls.below hb (Nat.le_refl _), own_below h.idl hb (Nat.le_refl _), h.d, h.below.trans (hb.mono h.below.size)⟩
theorem S2.lt (h : S2 w wr P ids v1 v2 us) : (∀ k, v1.ownBlock = some k → w.heap.size ≤ k ∧ k < wr.heap.size) ∧ (∀ k, v2.ownBlock = some k → w.heap.size ≤ k ∧ k < wr.heap.size) :=
  ⟨fun k hk => h.sent.lt k hk, fun k hk => h.idl.lt k hk⟩
theorem S2.addP (h : S2 w wr P ids v1 v2 us) (hx : Sl wr (fun k => k < w.heap.size ∨ v1.ownBlock = some k ∨ v2.ownBlock = some k) vx p) (how : w8.ownsRow w.heap.size 23 1 v8 (P.length + 1) (us ++ [vx])) (hg : wr.grownBy w8 v1.ownBlock) (hb : v8.ownBlock = v1.ownBlock ∨ v8.ownBlock = some wr.heap.size) : S2 w w8 (P ++ [p]) ids v8 v2 (us ++ [vx]) := by
  obtain ⟨l1, l2⟩ := h.lt
  have hfr : Fr (fun k => v1.ownBlock = some k) wr w8 := (Fr.refl _ _).grown hg (fun k hk => .inl hk)
  have hd : ∀ k, v8.ownBlock = some k → v1.ownBlock = some k ∨ k = wr.heap.size := fun k hk => by
    rcases hb with e | e
    · exact .inl (by rw [← e]; exact hk)
    · rw [e] at hk; cases hk; exact .inr rfl
  refine ⟨by rw [List.length_append]; exact how, ?_, own_fr h.idl hfr (fun k hk e => h.d k e hk), fun k hk e => ?_, h.below.trans (hfr.toBelow h.below.size (fun k hk => (l1 k hk).1))⟩
  · have h1 : Sls wr (fun k => (k < w.heap.size ∨ v1.ownBlock = some k ∨ v2.ownBlock = some k) ∨ (k < w.heap.size ∨ v8.ownBlock = some k ∨ v2.ownBlock = some k)) (us ++ [vx]) (P ++ [p]) := (h.sls.append (Sls.one hx)).grow (fun k hk => by
      rcases hk with hk | hk | hk | hk
      · exact .inl hk
      · exact .inl (.inl hk)
      · rcases hd k hk with e | e
        · exact .inl (.inr (.inl e))
        · exact .inr (by omega)
      · exact .inl (.inr (.inr hk)))
    exact (h1.fr hfr (fun k hk => .inl (.inl (.inr (.inl hk))))).grow (fun k hk => .inl (.inr hk))
  · rcases hd k hk with e2 | e2
    · exact h.d k e2 e
    · have := (l2 k e).2; omega
theorem S2.addI (h : S2 w wr P ids v1 v2 us) (b : Bool) (how : w8.ownsRow w.heap.size 4 1 v8 (ids.length + 1) (bvs ids ++ [.bool b])) (hg : wr.grownBy w8 v2.ownBlock) (hb : v8.ownBlock = v2.ownBlock ∨ v8.ownBlock = some wr.heap.size) : S2 w w8 P (ids ++ [b]) v1 v8 us := by
  obtain ⟨l1, l2⟩ := h.lt
  have hfr : Fr (fun k => v2.ownBlock = some k) wr w8 := (Fr.refl _ _).grown hg (fun k hk => .inl hk)
  have hd : ∀ k, v8.ownBlock = some k → v2.ownBlock = some k ∨ k = wr.heap.size := fun k hk => by
    rcases hb with e | e
    · exact .inl (by rw [← e]; exact hk)
    · rw [e] at hk; cases hk; exact .inr rfl
  refine ⟨own_fr h.sent hfr (fun k hk e => h.d k hk e), ?_, by rw [List.length_append]; simpa [bvs] using how, fun k hk e => ?_, h.below.trans (hfr.toBelow h.below.size (fun k hk => (l2 k hk).1))⟩
  · have h1 : Sls wr (fun k => (k < w.heap.size ∨ v1.ownBlock = some k ∨ v2.ownBlock = some k) ∨ (k < w.heap.size ∨ v1.ownBlock = some k ∨ v8.ownBlock = some k)) us P := h.sls.grow (fun k hk => by
      rcases hk with hk | hk | hk | hk
      · exact .inl hk
      · exact .inl (.inl hk)
      · exact .inl (.inr (.inl hk))
      · rcases hd k hk with e | e
        · exact .inl (.inr (.inr e))
        · exact .inr (by omega))
    exact (h1.fr hfr (fun k hk => .inl (.inl (.inr (.inr hk))))).grow (fun k hk => .inl (.inr hk))
  · rcases hd k e with e2 | e2
    · exact h.d k hk e2
    · have := (l1 k hk).2; omega
/-- the packets, read as a slice: no block from the world's end on -/
theorem S2.sat (h : S2 w wr P ids v1 v2 us) : SAt wr (fun k => wr.heap.size ≤ k) v1 P :=
  SAt.of_row h.sent (h.sls.grow fun k hk => .inr hk) (fun k hk e => by have := (h.sent.lt k hk).2; omega)
end
/-- Take, with what it gave before beside it -/
theorem take_back {wo w : World} {u u' : US} {au ad : Option Addr} {cap m cd : Nat} {fs outs : List (List UInt8)} {vg : Value} {vs : List Value} {c f : Int} {D : List UInt8} (hR : u.take c f D = (u', outs)) (HG : GF wo w u au cap fs vg vs) (hn : 0 ≤ u.next ∧ u.next < 256) (hl : 0 ≤ u.lost ∧ u.lost ≤ 1000000000) (hr : u.rest.length ≤ 4096) (hd : BAt w ad D) (hDL : D.length = m) (hm : m ≤ 3000) (hcd : m ≤ cd) (hcm : cd ≤ maxLen) :
    Calls Try.prog 12 #[.pointer (some ⟨wo.heap.size, 0, Option.none⟩), .int .i64 c, .int .i64 f, .slice ad m cd] w fun e w4 => ∃ (a5 : Option Addr) (c5 : Nat) (us5 : List Value) (a4 : Option Addr) (cap4 : Nat), e = .returned (.slice a5 outs.length c5) ∧ Hid (GF wo w4 u' a4 cap4 fs vg vs) ∧ Hid (VAt w4 a5 us5) ∧ Hid (Sls w4 (fun k => k ≤ wo.heap.size ∨ vg.ownBlock = some k) us5 outs) ∧ Hid (∀ (b off : Nat), b < wo.heap.size → w4.cell? ⟨b, off, Option.none⟩ = w.cell? ⟨b, off, Option.none⟩) ∧ Hid (wo.heap.size + 1 ≤ w4.heap.size) ∧ Hid ((0 ≤ u'.next ∧ u'.next < 256) ∧ u'.rest.length ≤ 4096) := by
  refine (take_n HG.hu hn hl hr hd hDL (by omega) hcd hcm).mono ?_
  rintro e w4 ⟨vo, a4, cap4, rfl, hU4, hS4, hF4, hK4⟩
  have htb := u.take_bd c f D hn hl.1 hr
  rw [hR] at hU4 hS4 hK4 htb
  dsimp only at hU4 hS4 hK4 htb
  obtain ⟨hn1, -, -, hs1, -⟩ := htb
  have hG4 := HG.fed hU4 hF4 hK4
  have hBsz := HG.below.size
  have hgl := fun k hk => HG.got.lt k hk
  have hulr := HG.hu.blk.lt
  obtain ⟨a5, c5, us5, rfl, hc5, hm5, hV5, -, hsl5⟩ := hS4.grow (T := fun k => k ≤ wo.heap.size ∨ vg.ownBlock = some k) (fun j hj => .inl (by
    rcases hj with h | h
    · omega
    · exact (hgl j h).2))
  exact ⟨a5, c5, us5, a4, cap4, rfl, Lib.hid hG4, Lib.hid hV5, Lib.hid hsl5, Lib.hid (fun b off hb => hF4.cell (p := ⟨b, off, Option.none⟩) (by show b < w.heap.size; omega) (by show ¬ b = wo.heap.size; omega)), Lib.hid (by have := hF4.size; omega), Lib.hid ⟨hn1, hs1⟩⟩
def befI : Option Nat → Int
  | none => -1
  | some j => (j : Int)
theorem inv_len {lost : Nat → Bool} {sz start k : Nat} {P got done qs : List (List UInt8)} {u : US} {bef : Option Nat} {miss o : Nat} (h : Inv lost sz start P k u bef got miss done qs o) : got.length ≤ P.length := by
  rw [h.got, h.split, List.length_append]
  have := want_len lost sz done 0
  omega
theorem inv_bound {lost : Nat → Bool} {sz start k : Nat} {P got done qs : List (List UInt8)} {u : US} {bef : Option Nat} {miss o : Nat} (h : Inv lost sz start P k u bef got miss done qs o) (hm : ∀ j, bef = some j → miss ≤ j ∧ j < k) (hk : k ≤ 200) : (0 ≤ u.lost ∧ u.lost ≤ 1000000000) := by
  rcases h.cnt with ⟨-, -, -, h1, -⟩ | ⟨j, h0, -, -, -, h1⟩
  · omega
  · have := hm j h0; omega
/-- what field k holds -/
theorem inv_field {lost : Nat → Bool} {sz start k : Nat} {P got done qs : List (List UInt8)} {u : US} {bef : Option Nat} {miss o : Nat} (h : Inv lost sz start P k u bef got miss done qs o) (hw : ∀ p ∈ P, WF p) (hz : 1 ≤ sz) (hk : k * sz < P.flatten.length) :
    firstL (starts 0 P) (k * sz) (k * sz + sz) = fp qs o (flen sz P.flatten.length k) ∧ (P.flatten.drop (k * sz)).take (flen sz P.flatten.length k) = (qs.flatten.drop o).take (flen sz P.flatten.length k) ∧ ((qs.flatten.drop o).take (flen sz P.flatten.length k)).length = flen sz P.flatten.length k := by
  obtain ⟨h1, h2, h3, h4, h5⟩ := place h hz hk
  have hxl : P.flatten.length = done.flatten.length + qs.flatten.length := by rw [h.split, List.flatten_append, List.length_append]
  refine ⟨?_, ?_, by rw [List.length_take, List.length_drop]; omega⟩
  · have h9 := first_fp done qs o (flen sz P.flatten.length k) (k * sz + sz) (by rw [← h.split]; exact hw) h.ho h2 h3 (by
      unfold flen at h2 h3 h4 ⊢
      omega)
    rw [← h.split, h1] at h9
    exact h9
  · have h9 := data_cut done qs o (flen sz P.flatten.length k)
    rw [← h.split, h1] at h9
    exact h9
end Go.Proofs.Ytllpbfejoahllaa

/- The reference in memory; find, level, first. No condition. -/
import Derived.Test.YtnojmkmmfiahgaaMD
namespace Go.Proofs.Ytnojmkmmfiahgaa
open Go.RowKit Go.Deep Go.ChangeShapes Go.WideShapes Go.ChangeAt
set_option linter.unusedVariables false

/-- of the recorder's kinds, or a box of the reference's recorder -/
def RkX (w : World) (k : Nat) : Prop := ∃ cs t m, w.heap[k]? = some (.cells cs t m) ∧ ((t = TE ∨ t = TS ∨ t = TR ∨ t = PS ∨ t = PE) ∨ t = 45)
theorem RkX.of {w : World} {k : Nat} (h : Rk w k) : RkX w k := by
  obtain ⟨cs, t, m, h1, h2⟩ := h
  exact ⟨cs, t, m, h1, .inl h2⟩
/-- the program's calls change blocks of the recorder's kinds alone -/
def XF (w w' : World) : Prop := Fr (RkX w) w w'
theorem XF.of_rf {B : Nat} {w w' : World} (h : RF B w w') : XF w w' := h.wide (fun k hk => .inl (.of hk.1))
theorem XF.of_rz {Z B : Nat} {w w' : World} (h : RZ Z B w w') : XF w w' := h.wide (fun k hk => .inl (.of hk.1))
theorem XF.of_below {w w' : World} (h : Below w.heap.size w w') : XF w w' := Fr.of_below h (Nat.le_refl _)
theorem XF.cell {w w' : World} (h : XF w w') {b o : Nat} (hb : b < w.heap.size) (hk : ¬ RkX w b) : w'.cell? ⟨b, o, none⟩ = w.cell? ⟨b, o, none⟩ := Fr.cell h (p := ⟨b, o, none⟩) hb hk
/-- a result's block is written -/
theorem XF.box {w : World} {b o : Nat} {xs : List Value} {v : Value} (h : Blk w b 45 xs) : XF w (w.setCell ⟨b, o, none⟩ v) := (Fr.refl _ _).set1 _ (.inl ⟨_, 45, _, h, .inr rfl⟩)
theorem XF.trans {a b c : World} (h : XF a b) (k : XF b c) : XF a c where
  os := k.os.trans h.os
  tape := k.tape.trans h.tape
  output := k.output.trans h.output
  size := Nat.le_trans h.size k.size
  block := fun x hx hn => by
    have h1 := h.block x hx hn
    refine (k.block x (Nat.lt_of_lt_of_le hx h.size) (fun hk => hn ?_)).trans h1
    obtain ⟨cs, t, m, h2, h3⟩ := hk
    exact ⟨cs, t, m, by rw [← h1]; exact h2, h3⟩
theorem XF.nk {w w' : World} (h : XF w w') {b : Nat} (hb : b < w.heap.size) (hk : ¬ RkX w b) : ¬ RkX w' b := fun ⟨cs, t, m, h2, h3⟩ => hk ⟨cs, t, m, by rw [← h.block b hb hk]; exact h2, h3⟩
/-- bytes -/
def BX (w : World) (a : Option Addr) (l : List UInt8) : Prop :=
  l = [] ∨ ∃ b off, a = some ⟨b, off, none⟩ ∧ b < w.heap.size ∧ ¬ RkX w b ∧ ∀ i (h : i < l.length), w.cell? ⟨b, off + i, none⟩ = some (.int .u8 (l[i].toNat : Int))
theorem BX.bat {w : World} {a : Option Addr} {l : List UInt8} (h : BX w a l) : BAt w a l := by
  rcases h with h | ⟨b, off, h1, h2, -, h3⟩
  · exact .inl h
  · exact .inr ⟨b, off, h1, h2, h3⟩
theorem BX.x {w w' : World} {a : Option Addr} {l : List UInt8} (h : BX w a l) (hf : XF w w') : BX w' a l := by
  rcases h with h | ⟨b, off, h1, h2, h4, h3⟩
  · exact .inl h
  · exact .inr ⟨b, off, h1, Nat.lt_of_lt_of_le h2 hf.size, hf.nk h2 h4, fun i hi => (hf.cell h2 h4).trans (h3 i hi)⟩
/-- packets -/
def PkAt (w : World) (a : Option Addr) (L : List En) : Prop :=
  L = [] ∨ ∃ b off, a = some ⟨b, off, none⟩ ∧ b < w.heap.size ∧ ¬ RkX w b ∧ ∀ (i : Nat) (e : En), L[i]? = some e → w.cell? ⟨b, off + i * 3, none⟩ = some (.int .i64 e.time) ∧ (∃ ad cd, w.cell? ⟨b, off + i * 3 + 1, none⟩ = some (.slice ad e.data.length cd) ∧ e.data.length ≤ cd ∧ cd ≤ maxLen ∧ BX w ad e.data) ∧ w.cell? ⟨b, off + i * 3 + 2, none⟩ = some (.bool e.want)
theorem PkAt.x {w w' : World} {a : Option Addr} {L : List En} (h : PkAt w a L) (hf : XF w w') : PkAt w' a L := by
  rcases h with h | ⟨b, off, h1, h2, h4, h3⟩
  · exact .inl h
  · exact .inr ⟨b, off, h1, Nat.lt_of_lt_of_le h2 hf.size, hf.nk h2 h4, fun i e he => by
      obtain ⟨k1, ⟨ad, cd, k2, k3, k4, k5⟩, k6⟩ := h3 i e he
      exact ⟨(hf.cell h2 h4).trans k1, ⟨ad, cd, (hf.cell h2 h4).trans k2, k3, k4, k5.x hf⟩, (hf.cell h2 h4).trans k6⟩⟩
/-- a store's six cells -/
def SkAt (w : World) (b o : Nat) (s : St) : Prop :=
  w.cell? ⟨b, o, none⟩ = some (.int .i64 s.id) ∧ w.cell? ⟨b, o + 1, none⟩ = some (.int .i64 s.room) ∧ w.cell? ⟨b, o + 2, none⟩ = some (.int .i64 s.prio) ∧ w.cell? ⟨b, o + 3, none⟩ = some (.bool s.circ) ∧
  (∃ aL cL, w.cell? ⟨b, o + 4, none⟩ = some (.slice aL s.L.length cL) ∧ s.L.length ≤ cL ∧ cL ≤ maxLen ∧ PkAt w aL s.L) ∧ w.cell? ⟨b, o + 5, none⟩ = some (.int .i64 (s.drop : Int))
theorem SkAt.x {w w' : World} {b o : Nat} {s : St} (h : SkAt w b o s) (hf : XF w w') (hb : b < w.heap.size) (hk : ¬ RkX w b) : SkAt w' b o s := by
  obtain ⟨h1, h2, h3, h4, ⟨aL, cL, h5, h6, h7, h8⟩, h9⟩ := h
  exact ⟨(hf.cell hb hk).trans h1, (hf.cell hb hk).trans h2, (hf.cell hb hk).trans h3, (hf.cell hb hk).trans h4, ⟨aL, cL, (hf.cell hb hk).trans h5, h6, h7, h8.x hf⟩, (hf.cell hb hk).trans h9⟩
/-- stores -/
def RrAt (w : World) (a : Option Addr) (l : List St) : Prop :=
  l = [] ∨ ∃ b off, a = some ⟨b, off, none⟩ ∧ b < w.heap.size ∧ ¬ RkX w b ∧ ∀ (i : Nat) (s : St), l[i]? = some s → SkAt w b (off + i * 6) s
theorem RrAt.x {w w' : World} {a : Option Addr} {l : List St} (h : RrAt w a l) (hf : XF w w') : RrAt w' a l := by
  rcases h with h | ⟨b, off, h1, h2, h4, h3⟩
  · exact .inl h
  · exact .inr ⟨b, off, h1, Nat.lt_of_lt_of_le h2 hf.size, hf.nk h2 h4, fun i s hs => (h3 i s hs).x hf h2 h4⟩
theorem RrAt.low {w w' : World} {a : Option Addr} {l : List St} (h : RrAt w a l) (hf : Below w.heap.size w w') : RrAt w' a l := h.x (XF.of_below hf)
theorem PkAt.low {w w' : World} {a : Option Addr} {l : List En} (h : PkAt w a l) (hf : Below w.heap.size w w') : PkAt w' a l := h.x (XF.of_below hf)
def idxI : Option Nat → Int
  | none => -1
  | some i => (i : Int)
set_option maxRecDepth 20000 in
theorem rfind_any {w : World} {a : Option Addr} {n c : Nat} {r : RS} (id now : Int) (h : RrAt w a r.stores) (hl : r.stores.length = n) (hn : n ≤ 1000) (hc : n ≤ c) (hm : c ≤ maxLen) : Calls Try.prog 29 #[.agg #[.int .i64 now, .slice a n c], .int .i64 id] w fun e w' => e = .returned (.int .i64 (idxI (r.find id))) ∧ Below w.heap.size w w' := by
  have H := Lib.hid h
  have HL := Lib.hid hl
  clear h hl
  go_enter Try.func29, Try.ntmps29
  go_upto_region 1 with fail
  obtain ⟨ws, hws⟩ : ∃ ws, ws = w.heap.size := ⟨_, rfl⟩
  obtain ⟨w1, hw1⟩ : ∃ w1, w1 = w.alloc (.cells #[.int .i64 now, .slice a n c] 45) := ⟨_, rfl⟩
  have HB := Lib.hid (show Below w.heap.size w w1 by rw [hw1]; exact al (Below.refl _ _) _)
  have hk : Blk w1 ws 45 [.int .i64 now, .slice a n c] := by rw [hw1, hws]; exact Blk.new w 45 _
  have c1 := hk.at 1 rfl
  have cl := hk.lt
  have H1 := Lib.hid (H.out.low HB.out)
  rw [← hw1, ← hws]
  clear hw1 hws hk
  go_wp2_with fail
  go_loopg [5] (n + 1) (fun gk v5 wr => ∃ k : Nat, k ≤ n ∧ n - k < gk ∧ v5 = .int .i64 (k : Int) ∧ wr = w1 ∧ Hid (∀ (j : Nat) (t : St), j < k → r.stores[j]? = some t → (t.id == id) = false))
  case atStart => exact ⟨0, Nat.zero_le _, by omega, rfl, rfl, Lib.hid (fun j t hj => absurd hj (Nat.not_lt_zero _))⟩
  case round =>
    obtain ⟨k, hk, hgk, rfl, rfl, HA⟩ := hrel
    by_cases hlt : k < n
    · obtain ⟨s, hs⟩ : ∃ s, r.stores[k]? = some s := ⟨_, List.getElem?_eq_getElem (by rw [HL.out]; exact hlt)⟩
      obtain ⟨bR, oR, rfl, hbR, hcell⟩ : ∃ b off, a = some ⟨b, off, none⟩ ∧ b < wr.heap.size ∧ ∀ (i : Nat) (s : St), r.stores[i]? = some s → SkAt wr b (off + i * 6) s := by
        rcases H1.out with h | ⟨b, off, h1, h2, -, h3⟩
        · rw [h] at hs; cases hs
        · exact ⟨b, off, h1, h2, h3⟩
      have c2 := (hcell k s hs).1
      obtain ⟨di, hdi⟩ : ∃ x, x = s.id := ⟨_, rfl⟩
      rw [← hdi] at c2
      have HDI := Lib.hid hdi
      have HS := Lib.hid hs
      have e1 : (k : Int) < (n : Int) := by omega
      clear hdi hs hcell
      by_cases hid : di = id
      · have HF : Hid (r.find id = some k) := Lib.hid (find_some HS.out (by rw [← HDI.out, hid]; simp) HA.out)
        subst hid
        go_wp2_with fail
        go_ret
        exact ⟨ret_int (by rw [HF.out]; rfl), HB.out⟩
      · have HN : Hid ((s.id == id) = false) := Lib.hid (by rw [← HDI.out]; simpa using hid)
        go_wp2_with fail
        go_roundg (gk - 1)
        case rel => exact ⟨k + 1, by omega, by omega, by go_num, rfl, Lib.hid (fun j t hj ht => by
          by_cases hjk : j < k
          · exact HA.out j t hjk ht
          · obtain rfl : j = k := by omega
            rw [HS.out] at ht
            cases ht
            exact HN.out)⟩
        case measure => omega
    · have e1 : ¬ (k : Int) < (n : Int) := by omega
      have HF : Hid (r.find id = none) := Lib.hid (find_none (fun j s hj => HA.out j s (by
        have := (List.getElem?_eq_some_iff.1 hj).1
        have := HL.out
        omega) hj))
      go_wp2_with fail
      go_ret
      exact ⟨ret_int (by rw [HF.out]; rfl), HB.out⟩
theorem lvl_take {L : List En} {k : Nat} {e : En} (h : L[k]? = some e) : lvl (L.take (k + 1)) = lvl (L.take k) + e.data.length := by
  obtain ⟨hlt, rfl⟩ := List.getElem?_eq_some_iff.1 h
  rw [List.take_succ_eq_append_getElem hlt, lvl_append]
  simp [lvl]
theorem lvl_take_le (L : List En) (k : Nat) : lvl (L.take k) ≤ lvl L := by
  have h : lvl L = lvl (L.take k) + lvl (L.drop k) := by rw [← lvl_append, List.take_append_drop]
  omega
/-- a store as a value -/
def skv (s : St) (aL : Option Addr) (m cL : Nat) : Value := .agg #[.int .i64 s.id, .int .i64 s.room, .int .i64 s.prio, .bool s.circ, .slice aL m cL, .int .i64 (s.drop : Int)]
set_option maxRecDepth 20000 in
theorem rlevel_any {w : World} {aL : Option Addr} {m cL : Nat} {L : List En} (i1 i2 i3 : Int) (i4 : Bool) (i5 : Int) (h : PkAt w aL L) (hl : L.length = m) (hv : lvl L ≤ 2147483648) (hn : m ≤ 2147483648) (hc : m ≤ cL) (hm : cL ≤ maxLen) : Calls Try.prog 30 #[.agg #[.int .i64 i1, .int .i64 i2, .int .i64 i3, .bool i4, .slice aL m cL, .int .i64 i5]] w fun e w' => e = .returned (.int .i64 (lvl L : Int)) ∧ Below w.heap.size w w' := by
  have H := Lib.hid h
  have HL := Lib.hid hl
  have HV := Lib.hid hv
  clear h hl hv
  go_enter Try.func30, Try.ntmps30
  go_upto_region 1 with fail
  obtain ⟨ws, hws⟩ : ∃ ws, ws = w.heap.size := ⟨_, rfl⟩
  obtain ⟨w1, hw1⟩ : ∃ w1, w1 = w.alloc (.cells #[.int .i64 i1, .int .i64 i2, .int .i64 i3, .bool i4, .slice aL m cL, .int .i64 i5] 78) := ⟨_, rfl⟩
  have HB := Lib.hid (show Below w.heap.size w w1 by rw [hw1]; exact al (Below.refl _ _) _)
  have hk : Blk w1 ws 78 [.int .i64 i1, .int .i64 i2, .int .i64 i3, .bool i4, .slice aL m cL, .int .i64 i5] := by rw [hw1, hws]; exact Blk.new w 78 _
  have c1 := hk.at 4 rfl
  have cl := hk.lt
  have H1 := Lib.hid (H.out.low HB.out)
  rw [← hw1, ← hws]
  clear hw1 hws hk
  go_wp2_with fail
  go_loopg [3, 4] (m + 1) (fun gk v3 v4 wr => ∃ k q : Nat, k ≤ m ∧ m - k < gk ∧ v4 = .int .i64 (k : Int) ∧ v3 = .int .i64 (q : Int) ∧ wr = w1 ∧ Hid (q = lvl (L.take k)))
  case atStart => exact ⟨0, 0, Nat.zero_le _, by omega, rfl, rfl, rfl, Lib.hid (by simp [lvl])⟩
  case round =>
    obtain ⟨k, q, hk, hgk, rfl, rfl, rfl, HA⟩ := hrel
    by_cases hlt : k < m
    · obtain ⟨e, he⟩ : ∃ e, L[k]? = some e := ⟨_, List.getElem?_eq_getElem (by rw [HL.out]; exact hlt)⟩
      obtain ⟨bR, oR, rfl, hbR, hcell⟩ : ∃ b off, aL = some ⟨b, off, none⟩ ∧ b < wr.heap.size ∧ ∀ (i : Nat) (e : En), L[i]? = some e → ∃ ad cd, wr.cell? ⟨b, off + i * 3 + 1, none⟩ = some (.slice ad e.data.length cd) := by
        rcases H1.out with h | ⟨b, off, h1, h2, -, h3⟩
        · rw [h] at he; cases he
        · exact ⟨b, off, h1, h2, fun i e he => by obtain ⟨-, ⟨ad, cd, k2, -⟩, -⟩ := h3 i e he; exact ⟨ad, cd, k2⟩⟩
      obtain ⟨ad, cd, c2⟩ := hcell k e he
      obtain ⟨dl, hdl⟩ : ∃ x, x = e.data.length := ⟨_, rfl⟩
      rw [← hdl] at c2
      have HQ : Hid (lvl (L.take (k + 1)) = q + dl) := Lib.hid (by rw [lvl_take he, HA.out, hdl])
      have hb : q + dl ≤ 2147483648 := by have h1 := lvl_take_le L (k + 1); have := HQ.out; have := HV.out; omega
      have e1 : (k : Int) < (m : Int) := by omega
      clear hdl he hcell
      go_wp2_with fail
      go_roundg (gk - 1)
      case rel => exact ⟨k + 1, q + dl, by omega, by omega, by go_num, by go_num, rfl, Lib.hid HQ.out.symm⟩
      case measure => omega
    · have e1 : ¬ (k : Int) < (m : Int) := by omega
      have HF : Hid (q = lvl L) := Lib.hid (by rw [HA.out, List.take_of_length_le (by rw [HL.out]; omega)])
      go_wp2_with fail
      go_ret
      exact ⟨ret_int (by rw [HF.out]), HB.out⟩
set_option maxRecDepth 20000 in
theorem rfirst_any {w : World} {aL : Option Addr} {m cL : Nat} {L : List En} (i1 i2 i3 : Int) (i4 : Bool) (i5 : Int) (h : PkAt w aL L) (hl : L.length = m) (hn : m ≤ 2147483648) (hc : m ≤ cL) (hm : cL ≤ maxLen) : Calls Try.prog 32 #[.agg #[.int .i64 i1, .int .i64 i2, .int .i64 i3, .bool i4, .slice aL m cL, .int .i64 i5]] w fun e w' => e = .returned (.int .i64 (idxI (L.findIdx? (·.want)))) ∧ Below w.heap.size w w' := by
  have H := Lib.hid h
  have HL := Lib.hid hl
  clear h hl
  go_enter Try.func32, Try.ntmps32
  go_upto_region 1 with fail
  obtain ⟨ws, hws⟩ : ∃ ws, ws = w.heap.size := ⟨_, rfl⟩
  obtain ⟨w1, hw1⟩ : ∃ w1, w1 = w.alloc (.cells #[.int .i64 i1, .int .i64 i2, .int .i64 i3, .bool i4, .slice aL m cL, .int .i64 i5] 78) := ⟨_, rfl⟩
  have HB := Lib.hid (show Below w.heap.size w w1 by rw [hw1]; exact al (Below.refl _ _) _)
  have hk : Blk w1 ws 78 [.int .i64 i1, .int .i64 i2, .int .i64 i3, .bool i4, .slice aL m cL, .int .i64 i5] := by rw [hw1, hws]; exact Blk.new w 78 _
  have c1 := hk.at 4 rfl
  have cl := hk.lt
  have H1 := Lib.hid (H.out.low HB.out)
  rw [← hw1, ← hws]
  clear hw1 hws hk
  go_wp2_with fail
  go_loopg [3] (m + 1) (fun gk v3 wr => ∃ k : Nat, k ≤ m ∧ m - k < gk ∧ v3 = .int .i64 (k : Int) ∧ wr = w1 ∧ Hid (∀ (j : Nat) (e : En), j < k → L[j]? = some e → e.want = false))
  case atStart => exact ⟨0, Nat.zero_le _, by omega, rfl, rfl, Lib.hid (fun j e hj => absurd hj (Nat.not_lt_zero _))⟩
  case round =>
    obtain ⟨k, hk, hgk, rfl, rfl, HA⟩ := hrel
    by_cases hlt : k < m
    · obtain ⟨e, he⟩ : ∃ e, L[k]? = some e := ⟨_, List.getElem?_eq_getElem (by rw [HL.out]; exact hlt)⟩
      obtain ⟨bR, oR, rfl, hbR, hcell⟩ : ∃ b off, aL = some ⟨b, off, none⟩ ∧ b < wr.heap.size ∧ ∀ (i : Nat) (e : En), L[i]? = some e → wr.cell? ⟨b, off + i * 3 + 2, none⟩ = some (.bool e.want) := by
        rcases H1.out with h | ⟨b, off, h1, h2, -, h3⟩
        · rw [h] at he; cases he
        · exact ⟨b, off, h1, h2, fun i e he => (h3 i e he).2.2⟩
      have c2 := hcell k e he
      obtain ⟨wn, hwn⟩ : ∃ x, x = e.want := ⟨_, rfl⟩
      rw [← hwn] at c2
      have HE := Lib.hid he
      have HW := Lib.hid hwn
      have e1 : (k : Int) < (m : Int) := by omega
      clear hwn he hcell
      cases wn with
      | true =>
        have HF : Hid (L.findIdx? (·.want) = some k) := Lib.hid (first_some (s := ⟨0, 0, 0, false, L, 0⟩) HE.out HW.out.symm HA.out)
        go_wp2_with fail
        go_ret
        exact ⟨ret_int (by rw [HF.out]; rfl), HB.out⟩
      | false =>
        go_wp2_with fail
        go_roundg (gk - 1)
        case rel => exact ⟨k + 1, by omega, by omega, by go_num, rfl, Lib.hid (fun j t hj ht => by
          by_cases hjk : j < k
          · exact HA.out j t hjk ht
          · obtain rfl : j = k := by omega
            rw [HE.out] at ht
            cases ht
            exact HW.out.symm)⟩
        case measure => omega
    · have e1 : ¬ (k : Int) < (m : Int) := by omega
      have HF : Hid (L.findIdx? (·.want) = none) := Lib.hid (first_none (s := ⟨0, 0, 0, false, L, 0⟩) (fun j e hj => HA.out j e (by
        have h7 : j < L.length := (List.getElem?_eq_some_iff.1 hj).1
        have := HL.out
        omega) hj))
      go_wp2_with fail
      go_ret
      exact ⟨ret_int (by rw [HF.out]; rfl), HB.out⟩
end Go.Proofs.Ytnojmkmmfiahgaa

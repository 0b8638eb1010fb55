/- Contracts: the search for a store; Level, Dropped. No condition. -/
import Derived.Test.YtnojmkmmfiahgaaM
import Derived.Test.YtnojmkmmfiahgaaC
import Derived.Outline
import Derived.Deep.DeepCutAuto
import Derived.Deep.CutBlock
import Derived.BigQuiet
namespace Go.Proofs.Ytnojmkmmfiahgaa
open Go.RowKit Go.Deep Go.ChangeShapes Go.WideShapes Go.ChangeAt
set_option linter.unusedVariables false

theorem VAt.low {w w' : World} {a : Option Addr} {us : List Value} (h : VAt w a us) (hb : Below w.heap.size w w') : VAt w' a us := by
  rcases h with h | ⟨b, off, h1, h2, h3⟩
  · exact .inl h
  · exact .inr ⟨b, off, h1, Nat.lt_of_lt_of_le h2 hb.size, fun i hi => (hb.cell (p := ⟨b, _, none⟩) h2).trans (h3 i hi)⟩
theorem pred_any {W : World} {B bc : Nat} {s : St} {y : SM} (id : Int) (hs : StAt W B s y) (hc : W.cell? ⟨bc, 0, none⟩ = some (.int .i64 id)) : Calls Try.prog 34 #[ptr y.s, .pointer (some ⟨bc, 0, none⟩)] W fun e w' => e = .returned (.bool (s.id == id)) ∧ Quiet W w' := by
  have c0 := hs.blk.at 0 rfl
  unfold ptr
  clear hs
  go_enter Try.func34, Try.ntmps34
  go_wp2_with (go_quiet (fail))
  go_ret
  exact ⟨rfl, ⟨_, rfl⟩⟩
theorem find_none {r : RS} {id : Int} (h : ∀ (j : Nat) (s : St), r.stores[j]? = some s → (s.id == id) = false) : r.find id = none := by
  unfold RS.find
  rw [List.findIdx?_eq_none_iff]
  intro s hs
  obtain ⟨j, hj⟩ := List.mem_iff_getElem?.1 hs
  exact h j s hj
theorem find_some {r : RS} {id : Int} {i : Nat} {s : St} (hi : r.stores[i]? = some s) (hs : (s.id == id) = true) (h : ∀ (j : Nat) (t : St), j < i → r.stores[j]? = some t → (t.id == id) = false) : r.find id = some i := by
  unfold RS.find
  rw [List.findIdx?_eq_some_iff_getElem]
  obtain ⟨hlt, rfl⟩ := List.getElem?_eq_some_iff.1 hi
  exact ⟨hlt, hs, fun j hj => by
    have := h j r.stores[j] hj (List.getElem?_eq_getElem (by omega))
    rw [this]
    simp⟩
def idxV : Option Nat → Int
  | none => -1
  | some i => (i : Int)
set_option maxRecDepth 20000 in
theorem idx_any {w : World} {B b bc : Nat} {r : RS} {vS : Value} {Y : List SM} (id : Int) (h : RAt w B b r vS Y) (hn : Y.length ≤ 1000) (hc : w.cell? ⟨bc, 0, none⟩ = some (.int .i64 id)) : Calls Try.prog 33 #[vS, .func (.func 34) #[] #[.pointer (some ⟨bc, 0, none⟩)]] w fun e w' => e = .returned (.int .i64 (idxV (r.find id))) ∧ Quiet w w' := by
  obtain ⟨hml, aS, cS, rfl, hcS, hmS, hV, -⟩ := VAt.of_row h.row
  rw [← hml] at hcS h ⊢
  obtain ⟨n, hnY⟩ : ∃ n, n = Y.length := ⟨_, rfl⟩
  rw [← hnY] at hcS h hn ⊢
  have H := Lib.hid h
  have HC := Lib.hid hc
  have HN := Lib.hid hnY
  have HV := Lib.hid hV
  clear h hc hnY hV hml
  go_enter Try.func33, Try.ntmps33
  go_wp2_with fail
  go_loopw [5, 8] (fun _ v8 wr => ∃ k : Nat, k ≤ n ∧ v8 = .int .i64 (k : Int) ∧ Hid (Quiet w wr) ∧ Hid (∀ (j : Nat) (t : St), j < k → r.stores[j]? = some t → (t.id == id) = false)) (fun _ v8 _ => n - (intOf v8).toNat)
  case atStart => exact ⟨0, Nat.zero_le _, rfl, Lib.hid (Quiet.refl _), Lib.hid (fun j t hj => absurd hj (Nat.not_lt_zero _))⟩
  case round =>
    obtain ⟨k, hk, rfl, HQ, HA⟩ := hrel
    by_cases hlt : k < n
    · have hkY : k < Y.length := by rw [← HN.out]; exact hlt
      have hy : Y[k]? = some Y[k] := List.getElem?_eq_getElem hkY
      obtain ⟨s, hs, hst⟩ := H.out.at hy
      obtain ⟨y, hyy⟩ : ∃ y, y = Y[k] := ⟨_, rfl⟩
      rw [← hyy] at hy hst
      obtain ⟨bS, oS, rfl, hbS, hcell⟩ := HV.out.get (i := k) (by simpa using hkY)
      have e1 : (k : Int) < (n : Int) := by omega
      have e2 : (0 : Int) ≤ (k : Int) := by omega
      have c1 : wr.cell? ⟨bS, oS + k, none⟩ = some (ptr y.s) := (HQ.out.below.cell (p := ⟨bS, _, none⟩) hbS).trans (by rw [hcell]; simp [hyy])
      have HST := Lib.hid (hst.below HQ.out.below (Nat.le_refl _))
      have HCC : Hid (wr.cell? ⟨bc, 0, none⟩ = some (.int .i64 id)) := Lib.hid ((HQ.out.below.cell (p := ⟨bc, 0, none⟩) (World.block_lt_of_cell? w _ HC.out)).trans HC.out)
      have HS := Lib.hid hs
      clear hy hst hyy hcell hs
      unfold ptr at c1
      cases hid : (s.id == id) with
      | true =>
        go_wp2_with (go_at_call 34; refine (pred_any id HST.out HCC.out).mono ?_; rintro e w2 ⟨rfl, hq⟩; rw [hid]; have HQ2 := Lib.hid hq; clear hq)
        go_ret
        exact ⟨ret_int (by rw [find_some HS.out hid HA.out]; rfl), HQ.out.trans HQ2.out⟩
      | false =>
        go_wp2_with (go_at_call 34; refine (pred_any id HST.out HCC.out).mono ?_; rintro e w2 ⟨rfl, hq⟩; rw [hid]; have HQ2 := Lib.hid hq; clear hq)
        go_roundw
        case rel => exact ⟨k + 1, by omega, by go_num, Lib.hid (HQ.out.trans HQ2.out), Lib.hid (fun j t hj ht => by
          by_cases hjk : j < k
          · exact HA.out j t hjk ht
          · obtain rfl : j = k := by omega
            rw [HS.out] at ht
            cases ht
            exact hid)⟩
        case measure => simp [intOf]; omega
    · have e1 : ¬ (k : Int) < (n : Int) := by omega
      have HF : Hid (r.find id = none) := Lib.hid (find_none (fun j s hj => HA.out j s (by
        have h1 := (List.getElem?_eq_some_iff.1 hj).1
        have h2 := H.out.yl
        have h3 := HN.out
        omega) hj))
      go_wp2_with fail
      go_ret
      exact ⟨ret_int (by rw [HF.out]; rfl), HQ.out⟩
/-- a store that was found -/
def FQ (w : World) (r : RS) (id : Int) (Y : List SM) (e : Ending) (w' : World) : Prop :=
  (match r.find id with
    | none => e = .returned (.tuple #[.pointer none, .int .i64 8])
    | some i => ∃ y, Y[i]? = some y ∧ e = .returned (.tuple #[ptr y.s, .int .i64 0])) ∧ Below w.heap.size w w'
set_option maxRecDepth 20000 in
theorem find_any {w : World} {B b : Nat} {r : RS} {vS : Value} {Y : List SM} (id : Int) (h : RAt w B b r vS Y) (hn : Y.length ≤ 1000) : Calls Try.prog 24 #[.pointer (some ⟨b, 0, none⟩), .int .i64 id] w (FQ w r id Y) := by
  obtain ⟨w1, hw1⟩ : ∃ w1, w1 = w.alloc (.cells #[.int .i64 id] 3) := ⟨_, rfl⟩
  have hB1 : Below w.heap.size w w1 := by rw [hw1]; exact al (Below.refl _ _) _
  have H1 := Lib.hid (h.below hB1 (Nat.le_refl _))
  have HC : Hid (w1.cell? ⟨w.heap.size, 0, none⟩ = some (.int .i64 id)) := Lib.hid (by rw [hw1]; exact (Blk.new w 3 [.int .i64 id]).at 0 rfl)
  have HB1 := Lib.hid hB1
  obtain ⟨hml, aS, cS, rfl, hcS, hmS, hV, -⟩ := VAt.of_row h.row
  rw [← hml] at hcS H1 h
  obtain ⟨n, hnY⟩ : ∃ n, n = Y.length := ⟨_, rfl⟩
  rw [← hnY] at hcS H1 hn
  have HN := Lib.hid hnY
  have HV := Lib.hid (VAt.low hV hB1)
  clear h hB1 hnY hV hml
  have c0 := H1.out.blk.at 0 rfl
  have c2 := H1.out.blk.at 2 rfl
  have cl := H1.out.blk.lt
  cases hf : r.find id with
  | none =>
    have HF := Lib.hid hf
    go_enter Try.func24, Try.ntmps24
    go_upto_region 1 with fail
    rw [← hw1]
    clear hw1
    go_wp2_with fail
    refine (idx_any id H1.out (by rw [← HN.out]; exact hn) HC.out).mono ?_
    rw [hf]
    rintro e w2 ⟨rfl, hq⟩
    have HB2 := Lib.hid (HB1.out.trans (hq.below.mono HB1.out.size))
    unfold idxV
    clear hq hf
    go_wp2_with fail
    exact bodyPost_ret (v := .tuple #[.pointer none, .int .i64 8]) (by simp [results, Try.results24, go_sem]) rfl ⟨by rw [HF.out], HB2.out⟩
  | some i =>
    have HF := Lib.hid hf
    have hi := RS.find_lt hf
    have hiY : i < Y.length := by rw [H1.out.yl]; exact hi
    have hin : i < n := by rw [HN.out]; exact hiY
    obtain ⟨y, hy⟩ : ∃ y, Y[i]? = some y := ⟨_, List.getElem?_eq_getElem hiY⟩
    have HY := Lib.hid hy
    obtain ⟨bS, oS, rfl, hbS, hcell⟩ := HV.out.get (i := i) (by simpa using hiY)
    have hcy : w1.cell? ⟨bS, oS + i, none⟩ = some (ptr y.s) := by rw [hcell]; obtain ⟨_, rfl⟩ := List.getElem?_eq_some_iff.1 hy; simp
    have HCY := Lib.hid hcy
    have e1 : (0 : Int) ≤ (i : Int) := by omega
    have e2 : ¬ (i : Int) < 0 := by omega
    have e3 : (i : Int) < (n : Int) := by omega
    clear hi hiY hy hcell hcy
    go_enter Try.func24, Try.ntmps24
    go_upto_region 1 with fail
    rw [← hw1]
    clear hw1
    go_wp2_with fail
    refine (idx_any id H1.out (by rw [← HN.out]; exact hn) HC.out).mono ?_
    rw [hf]
    rintro e w2 ⟨rfl, hq⟩
    have HB2 := Lib.hid (HB1.out.trans (hq.below.mono HB1.out.size))
    have H2 := Lib.hid (H1.out.quiet hq)
    have d2 := H2.out.blk.at 2 rfl
    have dl := H2.out.blk.lt
    have dc : w2.cell? ⟨bS, oS + i, none⟩ = some (ptr y.s) := (hq.below.cell (p := ⟨bS, _, none⟩) hbS).trans HCY.out
    unfold idxV
    unfold ptr at dc
    clear hq hf c0 c2 cl
    go_wp2_with fail
    exact bodyPost_ret (v := .tuple #[ptr y.s, .int .i64 0]) (by simp [results, Try.results24, go_sem, ptr]) rfl ⟨by rw [HF.out]; exact ⟨y, HY.out, rfl⟩, HB2.out⟩
theorem get_of {r : RS} {i : Nat} {s : St} (h : r.stores[i]? = some s) : r.stores[i]! = s := by
  obtain ⟨hlt, rfl⟩ := List.getElem?_eq_some_iff.1 h
  simp [hlt]
theorem level_any {w : World} {B b : Nat} {r : RS} {vS : Value} {Y : List SM} (id : Int) (h : RAt w B b r vS Y) (hn : Y.length ≤ 1000) : Calls Try.prog 11 #[.pointer (some ⟨b, 0, none⟩), .int .i64 id] w fun e w' => e = .returned (.int .i64 (r.level id)) ∧ Below w.heap.size w w' := by
  have H := Lib.hid h
  clear h
  go_enter Try.func11, Try.ntmps11
  go_wp2_with fail
  refine (find_any id H.out hn).mono ?_
  rintro e w2 ⟨hm, hB⟩
  have HB := Lib.hid hB
  cases hf : r.find id with
  | none =>
    rw [hf] at hm
    subst hm
    have HP : Hid (r.level id = 0) := Lib.hid (by unfold RS.level; rw [hf])
    clear hB hf
    dsimp only
    go_wp2_with fail
    go_ret
    exact ⟨ret_int (by rw [HP.out]), HB.out⟩
  | some i =>
    rw [hf] at hm
    obtain ⟨y, hy, rfl⟩ := hm
    obtain ⟨s, hs, hst⟩ := H.out.at hy
    have hc := (hst.below hB (Nat.le_refl _)).blk.at 5 rfl
    have hl := (hst.below hB (Nat.le_refl _)).blk.lt
    have HP : Hid (r.level id = (lvl s.L : Int)) := Lib.hid (by unfold RS.level; rw [hf]; dsimp only; rw [get_of hs])
    clear hB hf hst hs hy
    unfold ptr
    dsimp only
    go_wp2_with fail
    go_ret
    exact ⟨ret_int (by rw [HP.out]), HB.out⟩
theorem dropped_any {w : World} {B b : Nat} {r : RS} {vS : Value} {Y : List SM} (id : Int) (h : RAt w B b r vS Y) (hn : Y.length ≤ 1000) : Calls Try.prog 14 #[.pointer (some ⟨b, 0, none⟩), .int .i64 id] w fun e w' => e = .returned (.int .i64 (r.dropped id)) ∧ Below w.heap.size w w' := by
  have H := Lib.hid h
  clear h
  go_enter Try.func14, Try.ntmps14
  go_wp2_with fail
  refine (find_any id H.out hn).mono ?_
  rintro e w2 ⟨hm, hB⟩
  have HB := Lib.hid hB
  cases hf : r.find id with
  | none =>
    rw [hf] at hm
    subst hm
    have HP : Hid (r.dropped id = 0) := Lib.hid (by unfold RS.dropped; rw [hf])
    clear hB hf
    dsimp only
    go_wp2_with fail
    go_ret
    exact ⟨ret_int (by rw [HP.out]), HB.out⟩
  | some i =>
    rw [hf] at hm
    obtain ⟨y, hy, rfl⟩ := hm
    obtain ⟨s, hs, hst⟩ := H.out.at hy
    have hc := (hst.below hB (Nat.le_refl _)).blk.at 6 rfl
    have hl := (hst.below hB (Nat.le_refl _)).blk.lt
    have HP : Hid (r.dropped id = (s.drop : Int)) := Lib.hid (by unfold RS.dropped; rw [hf]; dsimp only; rw [get_of hs])
    clear hB hf hst hs hy
    unfold ptr
    dsimp only
    go_wp2_with fail
    go_ret
    exact ⟨ret_int (by rw [HP.out]), HB.out⟩
/-! ### no recorder -/
def Dead (w : World) (p : Option Addr) : Prop := p = none ∨ ∃ b, p = some ⟨b, 0, none⟩ ∧ w.cell? ⟨b, 0, none⟩ = some (.bool false)
theorem Dead.low {w w' : World} {p : Option Addr} (h : Dead w p) (hB : Below w.heap.size w w') : Dead w' p := by
  rcases h with h | ⟨b, h1, h2⟩
  · exact .inl h
  · exact .inr ⟨b, h1, (hB.cell (p := ⟨b, 0, none⟩) (World.block_lt_of_cell? w _ h2)).trans h2⟩
theorem find_dead {w : World} {p : Option Addr} (id : Int) (h : Dead w p) : Calls Try.prog 24 #[.pointer p, .int .i64 id] w fun e w' => e = .returned (.tuple #[.pointer none, .int .i64 2]) ∧ Below w.heap.size w w' := by
  obtain ⟨w1, hw1⟩ : ∃ w1, w1 = w.alloc (.cells #[.int .i64 id] 3) := ⟨_, rfl⟩
  have HB1 : Hid (Below w.heap.size w w1) := Lib.hid (by rw [hw1]; exact al (Below.refl _ _) _)
  have H1 := h.low HB1.out
  rcases H1 with rfl | ⟨b, rfl, hc⟩
  · go_enter Try.func24, Try.ntmps24
    go_upto_region 1 with fail
    rw [← hw1]
    clear hw1
    go_wp2_with fail
    exact bodyPost_ret (v := .tuple #[.pointer none, .int .i64 2]) (by simp [results, Try.results24, go_sem]) rfl ⟨rfl, HB1.out⟩
  · go_enter Try.func24, Try.ntmps24
    go_upto_region 1 with fail
    rw [← hw1]
    clear hw1
    go_wp2_with fail
    exact bodyPost_ret (v := .tuple #[.pointer none, .int .i64 2]) (by simp [results, Try.results24, go_sem]) rfl ⟨rfl, HB1.out⟩
theorem level_dead {w : World} {p : Option Addr} (id : Int) (h : Dead w p) : Calls Try.prog 11 #[.pointer p, .int .i64 id] w fun e w' => e = .returned (.int .i64 0) ∧ Below w.heap.size w w' := by
  have H := Lib.hid h
  clear h
  go_enter Try.func11, Try.ntmps11
  go_wp2_with fail
  refine (find_dead id H.out).mono ?_
  rintro e w2 ⟨rfl, hB⟩
  have HB := Lib.hid hB
  clear hB
  go_wp2_with fail
  go_ret
  exact ⟨rfl, HB.out⟩
theorem dropped_dead {w : World} {p : Option Addr} (id : Int) (h : Dead w p) : Calls Try.prog 14 #[.pointer p, .int .i64 id] w fun e w' => e = .returned (.int .i64 0) ∧ Below w.heap.size w w' := by
  have H := Lib.hid h
  clear h
  go_enter Try.func14, Try.ntmps14
  go_wp2_with fail
  refine (find_dead id H.out).mono ?_
  rintro e w2 ⟨rfl, hB⟩
  have HB := Lib.hid hB
  clear hB
  go_wp2_with fail
  go_ret
  exact ⟨rfl, HB.out⟩
end Go.Proofs.Ytnojmkmmfiahgaa

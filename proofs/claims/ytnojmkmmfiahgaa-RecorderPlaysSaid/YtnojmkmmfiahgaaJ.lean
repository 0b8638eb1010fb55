/- The iterator over a store's entries; the oldest that is requested. No condition. -/
import Derived.Test.YtnojmkmmfiahgaaH
import Derived.RangeFuncNested
import Derived.RangeFuncBox
import Derived.RangeFuncBound
import Derived.RangeFuncCalls
import Derived.RangeFuncLeaves
import Derived.Shelf.Abstract
import Derived.Shelf.RegionOpen
import Derived.OwnWalkIn
import Derived.TacticsInMore
import Derived.LoopNIn
import Derived.LoopIn
namespace Go.Proofs.Ytnojmkmmfiahgaa
open Go.RowKit Go.Shelf Go.Deep Go.ChangeShapes Go.WideShapes Go.ChangeAt
set_option linter.unusedVariables false
attribute [local go_sem] Oper.semAt_some

theorem Blk.own {W W' : World} {b : Nat} {t : TypeId} {xs : List Value} {row : Option Nat} (h : Blk W b t xs) (hg : W.grownBy W' row) (hr : ∀ r, row = some r → ∃ o : Obj, W.heap[r]? = some o ∧ o.isCells = false) : Blk W' b t xs :=
  h.grown hg (fun e => by
    obtain ⟨o, ho, hc⟩ := hr b e
    have h2 := h.symm.trans ho
    cases h2
    cases hc)
theorem fin_take (m k : Nat) (h : k < m) : (List.finRange m).take (k + 1) = (List.finRange m).take k ++ [⟨k, h⟩] := by
  rw [List.take_succ_eq_append_getElem (by simpa using h)]
  simp
theorem frK_b {T : Nat → Prop} {w : World} (hT : ∀ k, w.heap.size ≤ k → T k) (W : World) (l : Nat) (o o' : Obj) (hl : w.heap.size ≤ l) (h : W.heap[l]? = some o) (_ : o.isCells = false) (_ : o.isWalk = false) : Fr T W (W.putObj l o') :=
  (Fr.refl T W).grown (grownBy_putObj' W l o') (fun k e => by cases e; exact .inl (hT _ hl))
set_option maxRecDepth 100000 in
set_option maxHeartbeats 2000000 in
theorem all1_in (F : Fence) (n : Nat) (h35 : F.fn 35) (hro : F.round = none) (hn : 1 ≤ n) (l Bs ys len cap : Nat) (a : Option Addr) (gs : List Nat) (T : Nat → Prop) (J Jx : List (Fin gs.length) → World → Prop)
    (hY : ∀ pre x W, J pre W → pre.length < gs.length → YieldAt F (n - 1) Try.prog l #[ptr gs[x]] W fun e W' =>
      (e = .returned (.bool true) ∧ J (pre ++ [x]) W' ∧ Fr T W W') ∨ (e = .returned (.bool false) ∧ Jx (pre ++ [x]) W'))
    (hlen : gs.length = len) (hmax : cap ≤ maxLen) (hcap : len ≤ cap) (W : World) (hBs : W.cell? ⟨Bs, 0, none⟩ = some (.pointer (some ⟨ys, 0, none⟩))) (c4 : W.cell? ⟨ys, 4, none⟩ = some (.slice a len cap)) (hyl : ys < W.heap.size) (hV : VAt W a (gs.map ptr)) (ha : ∀ b off, a = some ⟨b, off, none⟩ → ¬ T b) (h0 : J [] W) :
    CallsIn F n Try.prog 35 #[.func (.yield l) #[] #[], .pointer (some ⟨Bs, 0, none⟩)] W fun e W' => (∃ v, e = .returned v) ∧
      ((∃ ys, ys = List.finRange gs.length ∧ J ys W') ∨ (∃ pre, pre <+: List.finRange gs.length ∧ Jx pre W')) := by
  have HV := Lib.hid hV
  have HL := Lib.hid hlen
  have hl63 : len ≤ 9223372036854775807 := by unfold maxLen at hmax; omega
  clear hV hlen
  refine callsIn_of_wp Try.func35 rfl h35 ?_ hro
  simp only [Try.ntmps35, List.size_toArray, List.length_cons, List.length_nil, Nat.reduceAdd, Nat.reduceSub, Array.replicate_succ, Array.replicate_zero, List.push_toArray, List.append_toArray, List.nil_append, List.cons_append]
  gi_wp2
  gi_loopw [10] (fun i wr => ∃ k : Nat, k ≤ len ∧ i = .int .i64 k ∧ J ((List.finRange gs.length).take k) wr ∧ Hid (Fr T W wr))
    (fun i _ => len - (intOf i).toNat)
  case atStart => exact ⟨0, Nat.zero_le _, rfl, h0, Lib.hid (Fr.refl _ _)⟩
  case round =>
    obtain ⟨k, hk, rfl, hJs, HF⟩ := hrel
    by_cases hlt : k < len
    · have hkg : k < gs.length := by rw [HL.out]; exact hlt
      obtain ⟨b, off, rfl, hb, hcell⟩ := HV.out.get (i := k) (by simpa using hkg)
      have hcx : wr.cell? ⟨b, off + k, none⟩ = some (ptr gs[(⟨k, hkg⟩ : Fin gs.length)]) := (HF.out.cell (p := ⟨b, _, none⟩) hb (ha _ _ rfl)).trans (by rw [hcell]; simp)
      obtain ⟨fn, tmps, assign, body, hy, hR⟩ := hY _ ⟨k, hkg⟩ wr hJs (by rw [List.length_take]; omega)
      have e1 : (k : Int) < (len : Int) := by omega
      obtain ⟨px, hpx⟩ : ∃ px, px = ptr gs[(⟨k, hkg⟩ : Fin gs.length)] := ⟨_, rfl⟩
      rw [← hpx] at hcx hy
      clear hcell hpx hY
      gi_wp2
      refine hR.mono ?_
      rintro e W3 (⟨rfl, hJ3, hk3⟩ | ⟨rfl, hJx3⟩)
      · have HF3 := Lib.hid (HF.out.trans hk3)
        clear hk3
        gi_wp2
        go_roundw
        case rel => exact ⟨k + 1, by omega, by simp, by rw [fin_take _ _ hkg]; exact hJ3, HF3⟩
        case measure => simp [intOf]; omega
      · gi_wp2
        refine bodyPost_ret (results_none rfl _ _ _) rfl ?_
        exact ⟨⟨_, rfl⟩, .inr ⟨_, by rw [← fin_take _ _ hkg]; exact List.take_prefix _ _, hJx3⟩⟩
    · have e1 : ¬ (k : Int) < (len : Int) := by omega
      have hall : (List.finRange gs.length).take k = List.finRange gs.length := List.take_of_length_le (by simp; have := HL.out; omega)
      rw [hall] at hJs
      gi_wp2
      go_end0
      exact ⟨⟨_, rfl⟩, .inl hJs⟩
set_option maxHeartbeats 1000000 in
theorem all_in (F : Fence) (n : Nat) (h27 : F.fn 27) (hro : F.round = none) (p : Option Addr) (w : World) :
    CallsIn F n Try.prog 27 #[.pointer p] w fun e w' => e = .returned (.func (.func 35) #[] #[.pointer (some ⟨w.heap.size, 0, none⟩)]) ∧ w' = w.alloc (.cells #[.pointer p] 62) := by
  refine callsIn_of_wp Try.func27 rfl h27 ?_ hro
  simp only [Try.ntmps27, List.size_toArray, List.length_cons, List.length_nil, Nat.reduceAdd, Nat.reduceSub, Array.replicate_succ, Array.replicate_zero, List.push_toArray, List.append_toArray, List.nil_append, List.cons_append]
  gi_wp2
  go_ret
  exact ⟨rfl, rfl⟩
theorem all_stops (F : Fence) (n : Nat) (h35 : F.fn 35) (hro : F.round = none) (hn : 1 ≤ n) {B : Nat} {s : St} {y : SM} (Bs : Nat) (T : Nat → Prop) (w : World) (hs : StAt w B s y) (hBs : w.cell? ⟨Bs, 0, none⟩ = some (ptr y.s)) (ha : ∀ k, y.vE.ownBlock = some k → ¬ T k) :
    SeqStopsK F n Try.prog 35 #[.pointer (some ⟨Bs, 0, none⟩)] (fun x : Fin y.gs.length => #[ptr y.gs[x]]) (Fr T) (fun ys => ys = List.finRange y.gs.length) (fun pre => pre <+: List.finRange y.gs.length) y.gs.length w := fun l J Jx W hW _ _ hY h0 => by
  have hs2 := hs.below hW (Nat.le_refl _)
  obtain ⟨a, cap, hv, hc, hm, hV, hob, -⟩ := hs2.row.vat
  have hc' := (hW.cell (p := ⟨Bs, 0, none⟩) (World.block_lt_of_cell? w _ hBs)).trans hBs
  refine all1_in F n h35 hro hn l Bs y.s y.gs.length cap a y.gs T J Jx hY rfl hm (by simpa using hc) W hc' ?_ hs2.blk.lt hV (fun b off e => ha b (by rw [hob, e]; rfl)) h0
  rw [hs2.blk.at 4 rfl, hv]
  simp
theorem pre_first {m : Nat} {p : List (Fin m)} {k : Fin m} (h : p ++ [k] <+: List.finRange m) : ∀ j : Nat, (hj : j < k.val) → (⟨j, Nat.lt_trans hj k.isLt⟩ : Fin m) ∈ p := by
  intro j hj
  have hl := h.length_le
  simp at hl
  have e := List.prefix_iff_eq_take.1 h
  simp only [List.length_append, List.length_singleton] at e
  rw [fin_take m p.length (by omega)] at e
  obtain ⟨e1, e2⟩ := List.append_inj' e rfl
  simp at e2
  rw [e2] at hj
  rw [e1, List.mem_iff_getElem]
  exact ⟨j, by simp; dsimp only at hj; omega, by simp⟩
/-- what 'requested' gives -/
def RQ (s : St) (y : SM) (w : World) (e : Ending) (w' : World) : Prop :=
  (match s.first with
    | none => e = .returned (.pointer none)
    | some k => ∃ g, y.gs[k]? = some g ∧ e = .returned (ptr g)) ∧ Below w.heap.size w w'
theorem first_none {s : St} (h : ∀ (j : Nat) (e : En), s.L[j]? = some e → e.want = false) : s.first = none := by
  unfold St.first
  rw [List.findIdx?_eq_none_iff]
  intro e he
  obtain ⟨j, hj⟩ := List.mem_iff_getElem?.1 he
  exact h j e hj
theorem first_some {s : St} {k : Nat} {e : En} (hk : s.L[k]? = some e) (he : e.want = true) (h : ∀ (j : Nat) (t : En), j < k → s.L[j]? = some t → t.want = false) : s.first = some k := by
  unfold St.first
  rw [List.findIdx?_eq_some_iff_getElem]
  obtain ⟨hlt, rfl⟩ := List.getElem?_eq_some_iff.1 hk
  exact ⟨hlt, he, fun j hj => by
    have := h j s.L[j] hj (List.getElem?_eq_getElem (by omega))
    rw [this]
    simp⟩
set_option maxRecDepth 100000 in
set_option maxHeartbeats 2000000 in
theorem requested_in {w : World} {B : Nat} {s : St} {y : SM} (F : Fence) (n : Nat) (h27 : F.fn 27) (h28 : F.fn 28) (h35 : F.fn 35) (hro : F.round = none) (hn : 3 ≤ n) (hs : StAt w B s y) : CallsIn F n Try.prog 28 #[.pointer (some ⟨y.s, 0, none⟩)] w (RQ s y w) := by
  have h1 : 1 ≤ n := by omega
  have HS := Lib.hid hs
  clear hs
  refine callsIn_of_wp_marks Try.func28 rfl h28 ?_ hro
  simp only [Try.ntmps28, List.size_toArray, List.length_cons, List.length_nil, Nat.reduceAdd, Nat.reduceSub, Array.replicate_succ, Array.replicate_zero, List.push_toArray, List.append_toArray, List.nil_append, List.cons_append]
  gi_wp2_with (gi_at_call 27; refine (all_in F (n - 1) h27 hro _ _).mono ?_; rintro e w' ⟨rfl, rfl⟩)
  obtain ⟨ws, hws⟩ : ∃ ws, ws = w.heap.size := ⟨_, rfl⟩
  obtain ⟨w0, hw0⟩ : ∃ w0, w0 = ((w.alloc (.cells #[.pointer none] 68)).alloc (.cells #[.pointer (some ⟨y.s, 0, none⟩)] 62)) := ⟨_, rfl⟩
  have hB0 : Below ws w w0 := by rw [hw0, hws]; exact ((Below.refl _ w).alloc (Nat.le_refl _) _).alloc (by simp) _
  have k1 : Blk w0 ws 68 [.pointer none] := by rw [hw0, hws]; exact (Blk.new w 68 [.pointer none]).alloc _
  have k2 : w0.cell? ⟨ws + 1, 0, none⟩ = some (ptr y.s) := by rw [hw0, hws]; exact (Blk.newAt (xs := [ptr y.s]) (T := 62) (w := w.alloc (.cells #[.pointer none] 68)) (n := w.heap.size + 1) (by simp)).at 0 rfl
  have hs2 : StAt w0 B s y := by rw [hws] at hB0; exact HS.out.below hB0 (Nat.le_refl _)
  have hsz : ws ≤ w0.heap.size := Nat.le_of_lt k1.lt
  have hsr : ∀ k, y.vE.ownBlock = some k → ¬ ws ≤ k := fun k hk e => by have := (HS.out.row.lt k hk).2; omega
  rw [← hw0, ← hws]
  have HS2 := Lib.hid hs2
  have HWS := Lib.hid hws
  clear hw0 hws hs2
  refine wpIn_rangeFunc_ownF hro h1 (gf := 35) (lb := #[.pointer (some ⟨ws + 1, 0, none⟩)]) rfl h35 (enters_of Try.func35 (by kernel_rfl) rfl)
    (all_stops F (n - 1) h35 hro (by omega) (ws + 1) (fun k => ws ≤ k) w0 HS2.out k2 hsr) (fun h k => h.trans k) (frK_b (fun k hk => Nat.le_trans hsz hk)) (Below.refl _ _) (fun _ => rfl)
    (fun pre W => (∀ j ∈ pre, ∀ e, s.L[j.val]? = some e → e.want = false) ∧ Blk W ws 68 [.pointer none] ∧ Below ws w W)
    (fun c pre W => (c = .ret ∧ ∃ (p : List (Fin y.gs.length)) (k : Fin y.gs.length), pre = p ++ [k] ∧ (∀ j ∈ p, ∀ e, s.L[j.val]? = some e → e.want = false) ∧ (∃ e, s.L[k.val]? = some e ∧ e.want = true) ∧ Blk W ws 68 [ptr y.gs[k]]) ∧ Below ws w W)
    ?hI ?hIx ?h0
    (fun x => { tmps := #[.pointer (some ⟨y.s, 0, none⟩), undef, .pointer (some ⟨ws, 0, none⟩), ptr y.gs[x], .pointer (some ⟨y.s, 0, none⟩), .func (.func 35) #[] #[.pointer (some ⟨ws + 1, 0, none⟩)], ptr y.gs[x], undef, undef, undef, undef, undef], defers := [] }) ?assign ?body ?done ?stop
  case hI => exact (ownFrom_pure _ _).and (OwnFrom.and (fun s A B row hs hg hr => Blk.own hs hg (fun r e => (hr r e).2)) (ownFrom_below (by rw [HWS.out]; exact Nat.le_refl _) hsz))
  case hIx => exact fun c => OwnFrom.and (fun s A B row hs hg hr => by obtain ⟨a1, p, k, a2, a3, a4, a5⟩ := hs; exact ⟨a1, p, k, a2, a3, a4, Blk.own a5 hg (fun r e => (hr r e).2)⟩) (ownFrom_below (by rw [HWS.out]; exact Nat.le_refl _) hsz)
  case h0 => exact ⟨fun j hj => absurd hj (by simp), k1, hB0⟩
  case assign =>
    intro l x W K hK
    gi_wp2
    exact hK
  case body =>
    rintro l pre x W ⟨hp, hk, hB⟩ _
    have hst := HS.out.below (HWS.out ▸ hB) (Nat.le_refl _)
    obtain ⟨e, vd, he, -, hen⟩ := RAt.en_at hst (p := x.val) (g := y.gs[x]) (by simp)
    have ce := hen.blk.at 2 rfl
    have cr := hk.at 0 rfl
    have fr := hk.free 0
    have HP := Lib.hid hp
    have HK := Lib.hid hk
    have HB := Lib.hid hB
    have HE := Lib.hid he
    obtain ⟨g, hg⟩ : ∃ g, g = y.gs[x] := ⟨_, rfl⟩
    have HG := Lib.hid hg
    have hpx : ptr y.gs[x] = .pointer (some ⟨g, 0, none⟩) := by rw [hg]; rfl
    rw [← hg] at ce
    rw [hpx]
    obtain ⟨c, hc⟩ : ∃ c, c = e.want := ⟨_, rfl⟩
    have HC := Lib.hid hc
    rw [← hc] at ce
    clear hp hk hB he hg hpx hst hen hc
    cases c with
    | true =>
      gi_wp2
      exact ⟨KeepsOthers.setCell _ _ _, ⟨rfl, pre, x, rfl, HP.out, ⟨e, HE.out, HC.out.symm⟩, by have h9 := HK.out.setCell 0 (.pointer (some ⟨g, 0, none⟩)); rw [← HG.out]; exact Blk.cast h9 rfl⟩, HB.out.setCell (p := ⟨ws, 0, none⟩) (Nat.le_refl _) _⟩
    | false =>
      gi_wp2
      exact ⟨KeepsOthers.refl _, Fr.refl _ _, fun j hj e' he' => by
        rcases List.mem_append.1 hj with h | h
        · exact HP.out j h e' he'
        · rw [List.mem_singleton] at h; subst h; rw [HE.out] at he'; cases he'; exact HC.out.symm, HK.out, HB.out⟩
  case done =>
    rintro D ys W hD rfl ⟨hne, hk, hB⟩ hK
    have cr := hk.at 0 rfl
    have fr := hk.free 0
    gi_wp2
    have hK' := (KeepsOthers.setCell W ⟨ws, 0, none⟩ (.pointer none)).same D _ hK rfl
    refine ⟨by simp, .inl ⟨_, _, rfl, run_takeDeferred hK', ?_⟩⟩
    have hk2 : Blk (W.setCell ⟨ws, 0, none⟩ (.pointer none)) ws 68 [.pointer none] := hk.setCell 0 (.pointer none)
    have hk5 := (Blk.own hk2 (grownBy_putObj' _ D (.deferred none)) (fun r e => by cases e; exact ⟨_, hK', rfl⟩)).at 0 rfl
    refine ⟨.pointer none, ?_, ?_⟩
    · simp [results, Try.f28, go_sem, hk5]
    · refine ⟨?_, ?_⟩
      · rw [first_none (fun j e he => hne ⟨j, by rw [HS.out.gl]; exact (List.getElem?_eq_some_iff.1 he).1⟩ (by simp) e he)]
      · rw [← HWS.out]
        exact (hB.setCell (p := ⟨ws, 0, none⟩) (Nat.le_refl _) _).trans (belowK_b (w := w0) (n₀ := ws) hsz _ D _ _ hD hK' rfl rfl)
  case stop =>
    rintro D c pre W hD hpre ⟨⟨rfl, p, k, rfl, hp, ⟨e, he, hw⟩, hk⟩, hB⟩ hK
    gi_wp2
    refine ⟨by simp, .inl ⟨_, _, rfl, run_takeDeferred hK, ?_⟩⟩
    have hk5 := (Blk.own hk (grownBy_putObj' _ D (.deferred none)) (fun r e => by cases e; exact ⟨_, hK, rfl⟩)).at 0 rfl
    refine ⟨ptr y.gs[k], ?_, ?_⟩
    · simp [results, Try.f28, go_sem, hk5]
    · refine ⟨?_, ?_⟩
      · rw [first_some he hw (fun j t hj ht => hp _ (pre_first hpre j hj) t ht)]
        exact ⟨y.gs[k], by simp, rfl⟩
      · rw [← HWS.out]
        exact hB.trans (belowK_b (w := w0) (n₀ := ws) hsz _ D _ _ hD hK rfl rfl)
end Go.Proofs.Ytnojmkmmfiahgaa

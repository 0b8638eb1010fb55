/- Contract of Replay. No condition. -/
import Derived.Test.YtnojmkmmfiahgaaJA
namespace Go.Proofs.Ytnojmkmmfiahgaa
open Go.RowKit Go.Shelf Go.Deep Go.ChangeShapes Go.WideShapes Go.ChangeAt
set_option linter.unusedVariables false
attribute [local go_sem] Oper.semAt_some

/-- a block that is no cells turns -/
theorem RAt.turn {w w' : World} {B b : Nat} {r : RS} {vS : Value} {Y : List SM} {row : Option Nat} (h : RAt w B b r vS Y) (hg : w.grownBy w' row) (hr : ∀ k, row = some k → ∃ o : Obj, w.heap[k]? = some o ∧ o.isCells = false) : RAt w' B b r vS Y := by
  have hn : ∀ k cs t m, w.heap[k]? = some (.cells cs t m) → ¬ row = some k := fun k cs t m hk e => by
    obtain ⟨o, ho, hc⟩ := hr k e
    rw [hk] at ho
    cases ho
    cases hc
  refine h.fr (T := fun k => row = some k) ((Fr.refl _ _).grown hg (fun k e => .inl e)) (fun k cs e hc => hn k _ _ _ hc e) (hn _ _ _ _ h.blk) (fun k hk => ?_) (fun y hy => ?_)
  · obtain ⟨cs, hc⟩ := own_ty h.row hk
    exact hn _ _ _ _ hc
  · obtain ⟨i, hi⟩ := List.mem_iff_getElem?.1 hy
    obtain ⟨s, -, h2⟩ := h.at hi
    refine ⟨hn _ _ _ _ h2.blk, fun k hk => ?_, fun g hg => ?_⟩
    · obtain ⟨cs, hc⟩ := off_ty h2.row hk
      exact hn _ _ _ _ hc
    · obtain ⟨p, hp⟩ := List.mem_iff_getElem?.1 hg
      obtain ⟨e, vd, -, -, h3⟩ := RAt.en_at h2 hp
      exact hn _ _ _ _ h3.blk
theorem RF.turn {B B' : Nat} {a w w' : World} {row : Option Nat} (h : RF B a w) (hg : w.grownBy w' row) (hr : ∀ k, row = some k → B' ≤ k) (hB : a.heap.size ≤ B') : RF B a w' :=
  Fr.grown h hg (fun k e => .inr (Nat.le_trans hB (hr k e)))
/-- one entry's mark -/
def wantIf (t u : Int) (x : En) : En := { x with want := x.want || (decide (t ≤ x.time) && decide (x.time ≤ u)) }
def St.mark1 (t u : Int) (s : St) (k : Nat) : St := { s with L := s.L.set k (wantIf t u s.L[k]!) }
def St.marks (t u : Int) (s : St) (ks : List Nat) : St := ks.foldl (St.mark1 t u) s
theorem St.marks_snoc (t u : Int) (s : St) (ks : List Nat) (k : Nat) : s.marks t u (ks ++ [k]) = (s.marks t u ks).mark1 t u k := by
  unfold St.marks
  rw [List.foldl_append]
  rfl
theorem get_en {L : List En} {k : Nat} {e : En} (h : L[k]? = some e) : L[k]! = e := by
  obtain ⟨hlt, rfl⟩ := List.getElem?_eq_some_iff.1 h
  simp [hlt]
theorem St.mark1_hit {t u : Int} {s : St} {k : Nat} {e : En} (h : s.L[k]? = some e) (h1 : t ≤ e.time) (h2 : e.time ≤ u) : s.mark1 t u k = { s with L := s.L.set k { e with want := true } } := by
  unfold St.mark1 wantIf
  rw [get_en h]
  simp [h1, h2]
theorem St.mark1_miss {t u : Int} {s : St} {k : Nat} {e : En} (h : s.L[k]? = some e) (h1 : ¬ (t ≤ e.time ∧ e.time ≤ u)) : s.mark1 t u k = s := by
  have h2 : (decide (t ≤ e.time) && decide (e.time ≤ u)) = false := by
    rw [← Bool.not_eq_true, Bool.and_eq_true, decide_eq_true_iff, decide_eq_true_iff]
    exact h1
  unfold St.mark1 wantIf
  rw [get_en h, h2, Bool.or_false]
  obtain ⟨hlt, rfl⟩ := List.getElem?_eq_some_iff.1 h
  rw [List.set_getElem_self]
theorem St.marks_range (t u : Int) (s : St) : ∀ n, n ≤ s.L.length → s.marks t u (List.range n) = { s with L := (s.L.take n).map (wantIf t u) ++ s.L.drop n }
  | 0, _ => by simp [St.marks]
  | n + 1, hn => by
    rw [List.range_succ, St.marks_snoc, St.marks_range t u s n (by omega)]
    have hlt : n < s.L.length := by omega
    have hl : ((s.L.take n).map (wantIf t u)).length = n := by simp; omega
    unfold St.mark1
    dsimp only
    have e : ((s.L.take n).map (wantIf t u) ++ s.L.drop n)[n]! = s.L[n] := get_en (by rw [List.getElem?_append_right (by omega), hl, Nat.sub_self, List.getElem?_drop]; simp [hlt])
    rw [e, List.set_append_right _ _ (by omega), hl, Nat.sub_self, List.drop_eq_getElem_cons hlt, List.set_cons_zero, List.take_succ_eq_append_getElem hlt, List.map_append, List.append_assoc]
    rfl
theorem fin_val (m : Nat) : (List.finRange m).map Fin.val = List.range m := by
  refine List.ext_getElem (by simp) fun i h1 h2 => ?_
  simp
theorem St.marks_all (t u : Int) (s : St) {m : Nat} (hm : m = s.L.length) : s.marks t u ((List.finRange m).map Fin.val) = s.mark t u := by
  subst hm
  rw [fin_val, St.marks_range t u s _ (Nat.le_refl _)]
  simp only [List.take_length, List.drop_length, List.append_nil, St.mark]
  rfl
theorem put_at {r : RS} {i : Nat} {s s' : St} (h : r.stores[i]? = some s) : (r.put i s').stores[i]? = some s' := List.getElem?_set_self (List.getElem?_eq_some_iff.1 h).1
theorem FQ.no {w w' : World} {r : RS} {id : Int} {Y : List SM} {e : Ending} (h : FQ w r id Y e w') (hf : r.find id = none) : e = .returned (.tuple #[.pointer none, .int .i64 8]) ∧ Below w.heap.size w w' := by
  obtain ⟨h1, h2⟩ := h
  rw [hf] at h1
  exact ⟨h1, h2⟩
theorem FQ.yes {w w' : World} {r : RS} {id : Int} {Y : List SM} {e : Ending} {i : Nat} {y : SM} (h : FQ w r id Y e w') (hf : r.find id = some i) (hy : Y[i]? = some y) : e = .returned (.tuple #[.pointer (some ⟨y.s, 0, none⟩), .int .i64 0]) ∧ Below w.heap.size w w' := by
  obtain ⟨h1, h2⟩ := h
  rw [hf] at h1
  obtain ⟨z, hz, h1⟩ := h1
  rw [hy] at hz
  cases hz
  exact ⟨h1, h2⟩
set_option maxRecDepth 100000 in
set_option maxHeartbeats 2000000 in
theorem replay_in {w : World} {B b : Nat} {r : RS} {vS : Value} {Y : List SM} (id t u : Int) (h : RAt w B b r vS Y) (ok : r.Ok) (F : Fence) (n : Nat) (h12 : F.fn 12) (h24 : F.fn 24) (h27 : F.fn 27) (h35 : F.fn 35) (hro : F.round = none) (hn : 3 ≤ n) (hfind : ∀ w1, RAt w1 B b r vS Y → CallsIn F (n - 1) Try.prog 24 #[.pointer (some ⟨b, 0, none⟩), .int .i64 id] w1 (FQ w1 r id Y)) : CallsIn F n Try.prog 12 #[.pointer (some ⟨b, 0, none⟩), .int .i64 id, .int .i64 t, .int .i64 u] w (DQ B b vS w (r.replay id t u)) := by
  have h1 : 1 ≤ n := by omega
  have H := Lib.hid h
  have HFD := Lib.hid hfind
  clear h hfind
  refine callsIn_of_wp_marks Try.func12 rfl h12 ?_ hro
  simp only [Try.ntmps12, List.size_toArray, List.length_cons, List.length_nil, Nat.reduceAdd, Nat.reduceSub, Array.replicate_succ, Array.replicate_zero, List.push_toArray, List.append_toArray, List.nil_append, List.cons_append]
  gi_upto_region 1 with fail
  obtain ⟨ws, hws⟩ : ∃ ws, ws = w.heap.size := ⟨_, rfl⟩
  obtain ⟨w1, hw1⟩ : ∃ w1, w1 = ((w.alloc (.cells #[.int .i64 t] 3)).alloc (.cells #[.int .i64 u] 3)) := ⟨_, rfl⟩
  have hB1 : Below w.heap.size w w1 := by rw [hw1]; exact al (al (Below.refl _ _) _) _
  have k1 : Blk w1 ws 3 [.int .i64 t] := by rw [hw1, hws]; exact (Blk.new w 3 [.int .i64 t]).alloc _
  have k2 : Blk w1 (ws + 1) 3 [.int .i64 u] := by rw [hw1, hws]; exact Blk.newAt (xs := [.int .i64 u]) (T := 3) (w := w.alloc (.cells #[.int .i64 t] 3)) (n := w.heap.size + 1) (by simp)
  have H1 := Lib.hid (H.out.below hB1 (Nat.le_refl _))
  have HF1 : Hid (RF B w w1) := Lib.hid (RF.of_below hB1)
  have K1 := Lib.hid k1
  have K2 := Lib.hid k2
  rw [← hw1, ← hws]
  have HWS := Lib.hid hws
  have HS1 : Hid (w.heap.size ≤ w1.heap.size) := Lib.hid hB1.size
  clear hw1 hws hB1 k1 k2
  cases hf : r.find id with
  | none =>
    have HP : Hid (r.replay id t u = (r, 8)) := Lib.hid (by unfold RS.replay; rw [hf])
    gi_wp2_with (gi_at_call 24; refine (HFD.out w1 H1.out).mono ?_; intro e w2 hq; obtain ⟨rfl, hB⟩ := FQ.no hq hf; have HB := Lib.hid hB; clear hq hB)
    exact ⟨.int .i64 8, by simp [results, Try.f12, go_sem], ret_int (by rw [HP.out]), HF1.out.trans (RF.of_below HB.out), Y, by rw [HP.out]; exact H1.out.below HB.out (Nat.le_refl _)⟩
  | some i =>
    obtain ⟨y, hy⟩ : ∃ y, Y[i]? = some y := ⟨_, List.getElem?_eq_getElem (by rw [H.out.yl]; exact RS.find_lt hf)⟩
    have HY := Lib.hid hy
    obtain ⟨s, hs, -⟩ := H.out.at hy
    have HS := Lib.hid hs
    have HPP : Hid (r.put i s = r) := Lib.hid (by
      unfold RS.put
      obtain ⟨hlt, rfl⟩ := List.getElem?_eq_some_iff.1 hs
      rw [List.set_getElem_self])
    obtain ⟨ys, hys⟩ : ∃ ys, ys = y.s := ⟨_, rfl⟩
    have HYS := Lib.hid hys
    have HFI := Lib.hid hf
    by_cases ht : t < 0 ∨ u < t ∨ 1099511627776 < u
    · have HP : Hid (r.replay id t u = (r, 10)) := Lib.hid (by unfold RS.replay; rw [hf]; dsimp only; rw [if_pos ht])
      have HT := Lib.hid ht
      clear hy hs hys hf ht
      by_cases e1 : t < 0
      · have d1 : decide (t < 0) = true := decide_eq_true e1
        gi_wp2_with (gi_at_call 24; refine (HFD.out w1 H1.out).mono ?_; intro e w2 hq; obtain ⟨rfl, hB⟩ := FQ.yes hq HFI.out HY.out; have HB := Lib.hid hB; have L1 := Lib.hid (K1.out.below hB (Nat.le_refl _)); have L2 := Lib.hid (K2.out.below hB (Nat.le_refl _)); have d1 := L1.out.at 0 rfl; have d2 := L2.out.at 0 rfl; clear hq hB)
        exact ⟨.int .i64 10, by simp [results, Try.f12, go_sem], ret_int (by rw [HP.out]), HF1.out.trans (RF.of_below HB.out), Y, by rw [HP.out]; exact H1.out.below HB.out (Nat.le_refl _)⟩
      · have e2 : decide (t < 0) = false := decide_eq_false e1
        by_cases e3 : u < t
        · have d3 : decide (u < t) = true := decide_eq_true e3
          gi_wp2_with (gi_at_call 24; refine (HFD.out w1 H1.out).mono ?_; intro e w2 hq; obtain ⟨rfl, hB⟩ := FQ.yes hq HFI.out HY.out; have HB := Lib.hid hB; have L1 := Lib.hid (K1.out.below hB (Nat.le_refl _)); have L2 := Lib.hid (K2.out.below hB (Nat.le_refl _)); have d1 := L1.out.at 0 rfl; have d2 := L2.out.at 0 rfl; clear hq hB)
          exact ⟨.int .i64 10, by simp [results, Try.f12, go_sem], ret_int (by rw [HP.out]), HF1.out.trans (RF.of_below HB.out), Y, by rw [HP.out]; exact H1.out.below HB.out (Nat.le_refl _)⟩
        · have e4 : decide (u < t) = false := decide_eq_false e3
          have e5 : decide (1099511627776 < u) = true := decide_eq_true (by have := HT.out; omega)
          gi_wp2_with (gi_at_call 24; refine (HFD.out w1 H1.out).mono ?_; intro e w2 hq; obtain ⟨rfl, hB⟩ := FQ.yes hq HFI.out HY.out; have HB := Lib.hid hB; have L1 := Lib.hid (K1.out.below hB (Nat.le_refl _)); have L2 := Lib.hid (K2.out.below hB (Nat.le_refl _)); have d1 := L1.out.at 0 rfl; have d2 := L2.out.at 0 rfl; clear hq hB)
          exact ⟨.int .i64 10, by simp [results, Try.f12, go_sem], ret_int (by rw [HP.out]), HF1.out.trans (RF.of_below HB.out), Y, by rw [HP.out]; exact H1.out.below HB.out (Nat.le_refl _)⟩
    · have HP : Hid (r.replay id t u = (r.put i (s.mark t u), 0)) := Lib.hid (by unfold RS.replay; rw [hf]; dsimp only; rw [if_neg ht, get_of hs])
      have e1 : decide (t < 0) = false := decide_eq_false (by omega)
      have e2 : decide (u < t) = false := decide_eq_false (by omega)
      have e3 : decide (1099511627776 < u) = false := decide_eq_false (by omega)
      clear hy hs hys hf ht
      gi_wp2_with (first | (gi_at_call 24; refine (HFD.out w1 H1.out).mono ?_; intro e w2 hq; obtain ⟨rfl, hB⟩ := FQ.yes hq HFI.out HY.out; have HB := Lib.hid hB; have L1 := Lib.hid (K1.out.below hB (Nat.le_refl _)); have L2 := Lib.hid (K2.out.below hB (Nat.le_refl _)); have d1 := L1.out.at 0 rfl; have d2 := L2.out.at 0 rfl; clear hq hB) | (gi_at_call 27; refine (all_in F (n - 1) h27 hro _ _).mono ?_; rintro e w' ⟨rfl, rfl⟩))
      obtain ⟨bs, hbs⟩ : ∃ bs, bs = w2.heap.size := ⟨_, rfl⟩
      obtain ⟨w3, hw3⟩ : ∃ w3, w3 = w2.alloc (.cells #[.pointer (some ⟨y.s, 0, none⟩)] 62) := ⟨_, rfl⟩
      have hB3 : Below w2.heap.size w2 w3 := by rw [hw3]; exact al (Below.refl _ _) _
      have HB13 : Hid (Below w1.heap.size w1 w3) := Lib.hid (HB.out.trans (hB3.mono HB.out.size))
      have k3 : w3.cell? ⟨bs, 0, none⟩ = some (ptr y.s) := by rw [hw3, hbs]; exact (Blk.new w2 62 [ptr y.s]).at 0 rfl
      have H3 := Lib.hid (H1.out.below HB13.out (Nat.le_refl _))
      have M1 := Lib.hid (L1.out.below hB3 (Nat.le_refl _))
      have M2 := Lib.hid (L2.out.below hB3 (Nat.le_refl _))
      have HF3 : Hid (RF B w w3) := Lib.hid (HF1.out.trans (RF.of_below HB13.out))
      have HZ3 : Hid (w.heap.size ≤ w3.heap.size) := Lib.hid (Nat.le_trans HS1.out HB13.out.size)
      have HST : Hid (StAt w3 B s y) := Lib.hid (by
        obtain ⟨sx, hsx, hst⟩ := H3.out.at HY.out
        rw [HS.out] at hsx
        cases hsx
        exact hst)
      rw [← hw3, ← hbs]
      have K3 := Lib.hid k3
      clear hbs hw3 hB3 k3 d1 d2
      refine wpIn_rangeFunc_ownF hro h1 (gf := 35) (lb := #[.pointer (some ⟨bs, 0, none⟩)]) rfl h35 (enters_of Try.func35 (by kernel_rfl) rfl)
        (all_stops F (n - 1) h35 hro (by omega) bs (fun k => k ∈ y.gs ∨ w3.heap.size ≤ k) w3 HST.out K3.out ?hrow) (fun h k => h.trans k) (frK_b (fun k hk => .inr hk)) (Below.refl _ _) (fun _ => rfl)
        (fun pre W => RAt W B b (r.put i (s.marks t u (pre.map Fin.val))) vS Y ∧ Blk W ws 3 [.int .i64 t] ∧ Blk W (ws + 1) 3 [.int .i64 u] ∧ RF B w W)
        (fun _ _ _ => False)
        ?hI ?hIx ?h0
        (fun x => { tmps := #[.pointer (some ⟨b, 0, none⟩), .int .i64 id, .int .i64 t, .int .i64 u, undef, undef, .pointer (some ⟨ws, 0, none⟩), .pointer (some ⟨ws + 1, 0, none⟩), .int .i64 0, .pointer (some ⟨y.s, 0, none⟩), .int .i64 0, ptr y.gs[x], .tuple #[.pointer (some ⟨y.s, 0, none⟩), .int .i64 0], .pointer (some ⟨b, 0, none⟩), .int .i64 id, .tuple #[.pointer (some ⟨y.s, 0, none⟩), .int .i64 0], .pointer (some ⟨y.s, 0, none⟩), .int .i64 0, .bool false, .int .i64 0, .bool false, undef, .bool false, .int .i64 t, .bool false, .bool false, .int .i64 t, .int .i64 u, .bool false, .bool false, .bool false, .int .i64 u, .bool false, .bool false, .pointer (some ⟨y.s, 0, none⟩), .func (.func 35) #[] #[.pointer (some ⟨bs, 0, none⟩)], ptr y.gs[x], undef, undef, undef, undef, undef, undef, undef, undef, undef, undef, undef, undef, undef, undef, undef, undef, undef], defers := [] }) ?assign ?body ?done ?stop
      case hrow =>
        intro k hk e
        rcases e with e | e
        · obtain ⟨p, hp⟩ := List.mem_iff_getElem?.1 e
          obtain ⟨e2, vd, -, -, h3⟩ := RAt.en_at HST.out hp
          obtain ⟨cs, hc⟩ := off_ty HST.out.row hk
          exact absurd (h3.blk.kind hc) (by decide)
        · have := (HST.out.row.lt k hk).2; omega
      case hI =>
        intro s' A A' row hs hg hr
        have hr2 : ∀ k, row = some k → ∃ o : Obj, A.heap[k]? = some o ∧ o.isCells = false := fun k e => (hr k e).2
        exact ⟨hs.1.turn hg hr2, Blk.own hs.2.1 hg hr2, Blk.own hs.2.2.1 hg hr2, hs.2.2.2.turn hg (fun k e => (hr k e).1) HZ3.out⟩
      case hIx => exact fun c s' A A' row hs _ _ => hs
      case h0 => exact ⟨by rw [show s.marks t u (([] : List (Fin y.gs.length)).map Fin.val) = s from rfl, HPP.out]; exact H3.out, M1.out, M2.out, HF3.out⟩
      case assign =>
        intro l x W K hK
        gi_wp2
        exact hK
      case body =>
        rintro l pre x W ⟨hR, hk1, hk2, hF⟩ _
        obtain ⟨s', hs'⟩ : ∃ s', s' = s.marks t u (pre.map Fin.val) := ⟨_, rfl⟩
        rw [← hs'] at hR
        have HST2 : Hid (StAt W B s' y) := Lib.hid (by
          obtain ⟨sx, hsx, hst⟩ := hR.at HY.out
          rw [put_at HS.out] at hsx
          cases hsx
          exact hst)
        obtain ⟨e, vd, he, hv, hen⟩ := RAt.en_at HST2.out (p := x.val) (g := y.gs[x]) (by simp)
        have ce := hen.blk.at 0 rfl
        have cw := hen.blk.at 2 rfl
        have cl := hen.blk.lt
        have fr := hen.blk.free 2
        have d1 := hk1.at 0 rfl
        have d2 := hk2.at 0 rfl
        have HR := Lib.hid hR
        have HK1 := Lib.hid hk1
        have HK2 := Lib.hid hk2
        have HF := Lib.hid hF
        have HE := Lib.hid he
        have HV := Lib.hid hv
        have HEN := Lib.hid hen
        have HSS : Hid (s.marks t u ((pre ++ [x]).map Fin.val) = s'.mark1 t u x.val) := Lib.hid (by rw [hs', List.map_append]; exact St.marks_snoc t u s _ _)
        obtain ⟨g, hg⟩ : ∃ g, g = y.gs[x] := ⟨_, rfl⟩
        have HG := Lib.hid hg
        have HGS : Hid (y.gs[x.val]? = some g) := Lib.hid (by rw [hg]; simp)
        have hpx : ptr y.gs[x] = .pointer (some ⟨g, 0, none⟩) := by rw [hg]; rfl
        rw [← hg] at ce cl fr cw
        obtain ⟨wn, hwn⟩ : ∃ wn, wn = e.want := ⟨_, rfl⟩
        rw [← hwn] at cw
        clear hwn
        rw [hpx]
        obtain ⟨tm, htm⟩ : ∃ tm, tm = e.time := ⟨_, rfl⟩
        have HTM := Lib.hid htm
        rw [← htm] at ce
        clear hR hk1 hk2 hF he hv hen hs' hg hpx htm
        by_cases q1 : t ≤ tm
        · have p1 : decide (t ≤ tm) = true := decide_eq_true q1
          by_cases q2 : tm ≤ u
          · have p2 : decide (tm ≤ u) = true := decide_eq_true q2
            gi_wp2_with fail
            refine wpIn_region_quiet_litR (by rfl) (by kernel_rfl) (by kernel_rfl) ?_
            repeat (gi_big_quiet_step (fail))
            refine wpQuietIn_nil ?_
            intro _ hw9
            obtain ⟨nq, hw8⟩ := hw9
            subst hw8
            gi_wp2
            have hFg : Fr (fun k => k = g) W ((W.drewN nq).setCell ⟨g, 2, none⟩ (.bool true)) := ((Fr.refl _ _).drewN nq).set1 _ (by exact .inl rfl)
            have hset := HR.out.setE (c := true) HY.out HST2.out HGS.out HE.out HV.out hFg (by
              have h9 := (HEN.out.blk.drewN nq).setCell 2 (.bool true)
              rw [← HG.out] at h9
              exact Blk.cast h9 rfl)
            have hin : y.gs[x] ∈ y.gs := List.getElem_mem _
            have hne : ∀ q, Blk W q 3 [.int .i64 t] ∨ Blk W q 3 [.int .i64 u] → ¬ q = g := fun q hq e9 => by
              subst e9
              rcases hq with h9 | h9 <;> exact absurd ((HG.out ▸ HEN.out.blk : Blk W q TE _).ty h9) (by decide)
            refine ⟨(KeepsOthers.drewN W nq).trans (KeepsOthers.setCell _ _ _), hFg.wide (fun k hk => .inl (.inl (by rw [hk, HG.out]; exact hin))), ?_, HK1.out.fr hFg (hne _ (.inl HK1.out)), HK2.out.fr hFg (hne _ (.inr HK2.out)), HF.out.trans (hFg.wide fun k hk => ?_)⟩
            · rw [HSS.out, St.mark1_hit HE.out (by rw [← HTM.out]; exact q1) (by rw [← HTM.out]; exact q2)]
              have h9 := hset.1
              rw [RS.put_put] at h9
              have e9 : Y.set i y = Y := by
                obtain ⟨hlt, rfl⟩ := List.getElem?_eq_some_iff.1 HY.out
                rw [List.set_getElem_self]
              rw [e9] at h9
              exact h9
            · subst hk
              exact .inl ⟨⟨_, TE, _, (HG.out ▸ HEN.out.blk : Blk W k TE _), .inl rfl⟩, HG.out ▸ HEN.out.lo⟩
          · have p2 : decide (tm ≤ u) = false := decide_eq_false q2
            gi_wp2_with fail
            refine wpIn_region_quiet_litR (by rfl) (by kernel_rfl) (by kernel_rfl) ?_
            repeat (gi_big_quiet_step (fail))
            refine wpQuietIn_nil ?_
            intro _ hw9
            obtain ⟨nq, hw8⟩ := hw9
            subst hw8
            gi_wp2
            refine ⟨KeepsOthers.drewN W nq, (Fr.refl _ _).drewN nq, ?_, HK1.out.drewN nq, HK2.out.drewN nq, HF.out.drewN nq⟩
            rw [HSS.out, St.mark1_miss HE.out (by rw [← HTM.out]; omega)]
            exact HR.out.quiet ⟨nq, rfl⟩
        · have p1 : decide (t ≤ tm) = false := decide_eq_false q1
          gi_wp2_with fail
          refine wpIn_region_quiet_litR (by rfl) (by kernel_rfl) (by kernel_rfl) ?_
          repeat (gi_big_quiet_step (fail))
          refine wpQuietIn_nil ?_
          intro _ hw9
          obtain ⟨nq, hw8⟩ := hw9
          subst hw8
          gi_wp2
          refine ⟨KeepsOthers.drewN W nq, (Fr.refl _ _).drewN nq, ?_, HK1.out.drewN nq, HK2.out.drewN nq, HF.out.drewN nq⟩
          rw [HSS.out, St.mark1_miss HE.out (by rw [← HTM.out]; omega)]
          exact HR.out.quiet ⟨nq, rfl⟩
      case done =>
        rintro D ys2 W hD rfl ⟨hR, hk1, hk2, hF⟩ hK
        gi_wp2
        refine ⟨by simp, .inl ⟨_, _, rfl, run_takeDeferred hK, ?_⟩⟩
        have hr2 : ∀ k, some D = some k → ∃ o : Obj, W.heap[k]? = some o ∧ o.isCells = false := fun k e => by cases e; exact ⟨_, hK, rfl⟩
        exact ⟨.int .i64 0, by simp [results, Try.f12, go_sem], ret_int (by rw [HP.out]), hF.turn (grownBy_putObj' W D _) (fun k e => by cases e; exact hD) HZ3.out, Y, by
          rw [HP.out]
          rw [St.marks_all t u s HST.out.gl] at hR
          exact hR.turn (grownBy_putObj' W D _) hr2⟩
      case stop =>
        rintro D c pre W _ _ h _
        exact h.elim
theorem replay_any {w : World} {B b : Nat} {r : RS} {vS : Value} {Y : List SM} (id t u : Int) (h : RAt w B b r vS Y) (ok : r.Ok) : Calls Try.prog 12 #[.pointer (some ⟨b, 0, none⟩), .int .i64 id, .int .i64 t, .int .i64 u] w (DQ B b vS w (r.replay id t u)) :=
  callsIn_wide.1 (replay_in id t u h ok Fence.wide 3 trivial trivial trivial trivial rfl (by omega) (fun w1 h1 => callsIn_wide.2 (find_any id h1 (by rw [h1.yl]; have := ok.few; omega))))
theorem requested_any {w : World} {B : Nat} {s : St} {y : SM} (hs : StAt w B s y) : Calls Try.prog 28 #[.pointer (some ⟨y.s, 0, none⟩)] w (RQ s y w) :=
  callsIn_wide.1 (requested_in Fence.wide 3 trivial trivial trivial rfl (by omega) hs)
theorem replay_dead_in {w : World} {p : Option Addr} (id t u : Int) (h : Dead w p) (F : Fence) (n : Nat) (h12 : F.fn 12) (h24 : F.fn 24) (hro : F.round = none) (hn : 3 ≤ n) (hfind : ∀ w1, Dead w1 p → CallsIn F (n - 1) Try.prog 24 #[.pointer p, .int .i64 id] w1 fun e w' => e = .returned (.tuple #[.pointer none, .int .i64 2]) ∧ Below w1.heap.size w1 w') : CallsIn F n Try.prog 12 #[.pointer p, .int .i64 id, .int .i64 t, .int .i64 u] w fun e w' => e = .returned (.int .i64 2) ∧ Below w.heap.size w w' := by
  obtain ⟨w1, hw1⟩ : ∃ w1, w1 = ((w.alloc (.cells #[.int .i64 t] 3)).alloc (.cells #[.int .i64 u] 3)) := ⟨_, rfl⟩
  have hB1 : Below w.heap.size w w1 := by rw [hw1]; exact al (al (Below.refl _ _) _) _
  have H1 := Lib.hid (h.low hB1)
  have HB1 := Lib.hid hB1
  have HFD := Lib.hid hfind
  have h1 : 1 ≤ n := by omega
  clear h hB1 hfind
  refine callsIn_of_wp_marks Try.func12 rfl h12 ?_ hro
  simp only [Try.ntmps12, List.size_toArray, List.length_cons, List.length_nil, Nat.reduceAdd, Nat.reduceSub, Array.replicate_succ, Array.replicate_zero, List.push_toArray, List.append_toArray, List.nil_append, List.cons_append]
  gi_upto_region 1 with fail
  rw [← hw1]
  clear hw1
  gi_wp2_with (gi_at_call 24; refine (HFD.out w1 H1.out).mono ?_; rintro e w2 ⟨rfl, hB⟩; have HB := Lib.hid hB; clear hB)
  exact ⟨.int .i64 2, by simp [results, Try.f12, go_sem], rfl, below2 HB1.out HB.out⟩
theorem replay_dead {w : World} {p : Option Addr} (id t u : Int) (h : Dead w p) : Calls Try.prog 12 #[.pointer p, .int .i64 id, .int .i64 t, .int .i64 u] w fun e w' => e = .returned (.int .i64 2) ∧ Below w.heap.size w w' :=
  callsIn_wide.1 (replay_dead_in id t u h Fence.wide 3 trivial trivial rfl (by omega) (fun w1 h1 => callsIn_wide.2 (find_dead id h1)))
end Go.Proofs.Ytnojmkmmfiahgaa

/- Clone. No condition. -/
import Derived.Test.YtjiejpklcjpibaaAG
import Derived.Test.YtjiejpklcjpibaaRW
namespace Go.Proofs.Ytjiejpklcjpibaa
open Go.RowKit Go.Deep Go.ChangeShapes Go.WideShapes Go.ChangeAt
set_option linter.unusedVariables false

theorem info33 : (Try.prog.info? 33).map (fun i => (i.zero, i.size, i.bytes)) = some (some (.agg #[.bool false, .bool false, .int .i64 0, .int .i64 0, .int .i64 0, .slice none 0 0]), 6, 56) := by kernel_rfl
theorem own_empty6 (w : World) (e : TypeId) (k : Nat) (hk : 0 < k) (H : Nat) (hH : w.heap.size = H) (B : Nat) (hB : B ≤ H) : (w.alloc (.cells #[] e)).ownsRow B e k (.slice (some ⟨H, 0, none⟩) 0 0) 0 [] := by
  subst hH
  refine ⟨by simp, .inr ⟨w.heap.size, 0, #[], rfl, hB, heap_alloc_new w _, Nat.le_refl _, Nat.zero_le _, by simp, by simp⟩⟩
theorem eqlL (a : Option Addr) (n c : Nat) (w : World) : (binOp .eql 22 (.slice a n c) (.slice none 0 0)).run Try.prog w = .ok (.bool a.isNone) w := Lib.run_eql_slice_nil w 22 23 a n c 0 0 Try.underlying22
theorem eqlC (a : Option Addr) (n c : Nat) (w : World) : (binOp .eql 52 (.slice a n c) (.slice none 0 0)).run Try.prog w = .ok (.bool a.isNone) w := Lib.run_eql_slice_nil w 52 33 a n c 0 0 Try.underlying52
theorem VAt.low {w w' : World} {a : Option Addr} {us : List Value} (h : VAt w a us) (hb : Below w.heap.size w w') : VAt w' a us := by
  rcases h with h | ⟨b, off, h1, h2, h3⟩
  · exact .inl h
  · exact .inr ⟨b, off, h1, Nat.lt_of_lt_of_le h2 hb.size, fun i hi => (hb.cell (p := ⟨b, _, none⟩) h2).trans (h3 i hi)⟩
theorem cloneL_any (a : Option Addr) (n cap : Nat) (us : List Value) (w : World) (hn : us.length = n) (hl : n ≤ 200000) (hV : VAt w a us) (h1 : ∀ u ∈ us, u.oneCell' = true) (h0 : a = none → us = []) :
    Calls Try.prog 44 #[.slice a n cap] w fun e w' => ∃ v, e = .returned v ∧ w'.ownsRow w.heap.size 23 1 v n us ∧ Below w.heap.size w w' := by
  obtain ⟨j0, hj, hy0, hy1, hy2⟩ := info_parts info23
  have HV : Hid (VAt (w.alloc (.cells #[] 23)) a us) := Lib.hid (hV.low (al (Below.refl _ _) _))
  have H1 := Lib.hid h1
  have e1 := eqlL a n cap
  cases a with
  | none =>
    obtain rfl := h0 rfl
    obtain rfl : n = 0 := by simpa using hn.symm
    clear hj hy0 hy1 hy2 HV H1 h1 hV h0
    simp only [Option.isNone_none] at e1
    go_enter Try.func44, Try.ntmps44
    go_wp2
    go_ret
    exact ⟨_, rfl, World.ownsRow_nil _ _ _ _, Below.refl _ _⟩
  | some p =>
    simp only [Option.isNone_some] at e1
    have HJ := Lib.hid hj
    have HN := Lib.hid hn
    clear hj hV h1 h0 hn
    go_enter Try.func44, Try.ntmps44
    go_wp2_with (at_builtin; refine wpList_append_src _ rfl _ _ 22 rfl w.heap.size 23 j0 (.slice none 0 0) 24 Try.underlying22 HJ.out hy0 hy1 hy2 (by rfl) _ 0 [] rfl (own_empty _ _ w.heap.size rfl _ (Nat.le_refl _)) (some p) n cap us rfl HN.out HV.out H1.out (by unfold maxLen; omega) (by omega) (by simp) ?_)
    intro v' w1 hown hgrow _
    have HO := Lib.hid (show w1.ownsRow w.heap.size 23 1 v' n us by simpa using hown)
    have HG := Lib.hid hgrow
    clear hown hgrow
    go_wp2_with fail
    go_ret
    exact ⟨_, rfl, HO.out, ((Below.refl _ _).alloc (Nat.le_refl _) _).grown HG.out (by simp) (fun k hk => by simp [Value.ownBlock] at hk; omega)⟩
/-- the cells of the control frames -/
def fmC (x : Fm) (v : Value) : List Value := [.bool x.byp, .bool x.ctl, .int .i64 x.craft, .int .i64 x.chan, .int .i64 x.seq, v]
def News (w : World) (X : Nat → Prop) (L : List Fm) (news : List Value) : Prop :=
  ∃ vs : List Value, vs.length = L.length ∧ news = ((L.zip vs).map fun p => fmC p.1 p.2).flatten ∧ ∀ i (h : i < L.length), ∃ v, vs[i]? = some v ∧ Sl w X v L[i].data
theorem CAt.news {w : World} {X : Nat → Prop} {A : Addr} {n c : Nat} {L : List Fm} (h : CAt w X (.slice (some A) n c) L) (h2 : L.length ≤ 2) : ∃ news, News w X L news ∧ news.length = L.length * 6 ∧ (∀ j u, news[j]? = some u → w.cell? (A.add j) = some u) ∧ ∀ u ∈ news, u.oneCell' = true := by
  obtain ⟨a, cap, e, -, -, h4⟩ := h
  simp only [Value.slice.injEq] at e
  obtain ⟨rfl, -, -⟩ := e
  match L, h2 with
  | [], _ => exact ⟨[], ⟨[], rfl, rfl, fun i hi => by simp at hi⟩, rfl, fun j u hj => by simp at hj, fun u hu => by cases hu⟩
  | [x], _ =>
    obtain ⟨g, off, e, -, -, h8⟩ := h4.resolve_left (by simp)
    cases e
    obtain ⟨d0, d1, d2, d3, d4, v, d5, d6⟩ := h8 0 (by simp)
    have hv : v.oneCell' = true := by obtain ⟨a', c', rfl, -⟩ := d6; rfl
    refine ⟨fmC x v, ⟨[v], rfl, by simp, fun i hi => ?_⟩, rfl, fun j u hj => ?_, fun u hu => ?_⟩
    · obtain rfl : i = 0 := by simp at hi; omega
      exact ⟨v, rfl, d6⟩
    · rw [add_plain]
      match j, hj with
      | 0, hj => cases hj; exact d0
      | 1, hj => cases hj; exact d1
      | 2, hj => cases hj; exact d2
      | 3, hj => cases hj; exact d3
      | 4, hj => cases hj; exact d4
      | 5, hj => cases hj; exact d5
    · simp only [fmC, List.mem_cons, List.not_mem_nil, or_false] at hu
      rcases hu with rfl | rfl | rfl | rfl | rfl | rfl <;> first | rfl | exact hv
  | [x, y], _ =>
    obtain ⟨g, off, e, -, -, h8⟩ := h4.resolve_left (by simp)
    cases e
    obtain ⟨d0, d1, d2, d3, d4, v, d5, d6⟩ := h8 0 (by simp)
    obtain ⟨t0, t1, t2, t3, t4, u2, t5, t6⟩ := h8 1 (by simp)
    have hv : v.oneCell' = true := by obtain ⟨a', c', rfl, -⟩ := d6; rfl
    have hu2 : u2.oneCell' = true := by obtain ⟨a', c', rfl, -⟩ := t6; rfl
    refine ⟨fmC x v ++ fmC y u2, ⟨[v, u2], rfl, by simp, fun i hi => ?_⟩, rfl, fun j u hj => ?_, fun u hu => ?_⟩
    · match i, hi with
      | 0, _ => exact ⟨v, rfl, d6⟩
      | 1, _ => exact ⟨u2, rfl, t6⟩
    · rw [add_plain]
      match j, hj with
      | 0, hj => cases hj; exact d0
      | 1, hj => cases hj; exact d1
      | 2, hj => cases hj; exact d2
      | 3, hj => cases hj; exact d3
      | 4, hj => cases hj; exact d4
      | 5, hj => cases hj; exact d5
      | 6, hj => cases hj; exact t0
      | 7, hj => cases hj; exact t1
      | 8, hj => cases hj; exact t2
      | 9, hj => cases hj; exact t3
      | 10, hj => cases hj; exact t4
      | 11, hj => cases hj; exact t5
    · simp only [fmC, List.mem_append, List.mem_cons, List.not_mem_nil, or_false] at hu
      rcases hu with (rfl | rfl | rfl | rfl | rfl | rfl) | (rfl | rfl | rfl | rfl | rfl | rfl) <;> first | rfl | exact hv | exact hu2
theorem CAt.of_news {w : World} {X : Nat → Prop} {B n : Nat} {v : Value} {L : List Fm} {news : List Value} (h : w.ownsRow B 33 6 v n news) (hn : n = L.length) (hx : News w X L news) (hX : ∀ k, X k → k < B) (h2 : L.length ≤ 2) : CAt w X v L := by
  subst hn
  rcases h.2 with ⟨rfl, h0⟩ | ⟨g, cap, cur, rfl, hb, hg, hnc, hcm, hsz, hxs⟩
  · exact ⟨none, 0, by rw [h0], by omega, Nat.zero_le _, .inl (List.length_eq_zero_iff.1 h0)⟩
  · refine ⟨_, cap, rfl, hnc, hcm, .inr ⟨g, 0, rfl, (Array.getElem?_eq_some_iff.1 hg).1, fun hg' => by have := hX _ hg'; omega, fun i hi => ?_⟩⟩
    have hc : ∀ j u, news[j]? = some u → w.cell? ⟨g, j, none⟩ = some u := fun j u hj => by
      rw [Joins.cell_of_block hg]
      obtain ⟨hj1, hj2⟩ := List.getElem?_eq_some_iff.1 hj
      have e : (cur.toList.take (L.length * 6))[j]? = some u := by rw [hxs]; exact hj
      rw [List.getElem?_take_of_lt (by have := h.1; omega)] at e
      rw [← Array.getElem?_toList]
      exact e
    obtain ⟨vs, hl, rfl, hs⟩ := hx
    match L, h2, vs, hl with
    | [x], _, [u], _ =>
      obtain rfl : i = 0 := by simp at hi; omega
      obtain ⟨v, e, hv⟩ := hs 0 (by simp)
      cases e
      exact ⟨hc 0 _ rfl, hc 1 _ rfl, hc 2 _ rfl, hc 3 _ rfl, hc 4 _ rfl, _, hc 5 _ rfl, hv⟩
    | [x, y], _, [u, u2], _ =>
      match i, hi with
      | 0, _ =>
        obtain ⟨v, e, hv⟩ := hs 0 (by simp)
        cases e
        exact ⟨hc 0 _ rfl, hc 1 _ rfl, hc 2 _ rfl, hc 3 _ rfl, hc 4 _ rfl, _, hc 5 _ rfl, hv⟩
      | 1, _ =>
        obtain ⟨v, e, hv⟩ := hs 1 (by simp)
        cases e
        exact ⟨hc 6 _ rfl, hc 7 _ rfl, hc 8 _ rfl, hc 9 _ rfl, hc 10 _ rfl, _, hc 11 _ rfl, hv⟩
theorem News.below {w w' : World} {X : Nat → Prop} {L : List Fm} {news : List Value} (h : News w X L news) (hB : Below w.heap.size w w') : News w' X L news := by
  obtain ⟨vs, h1, h2, h3⟩ := h
  refine ⟨vs, h1, h2, fun i hi => ?_⟩
  obtain ⟨v, h4, h5⟩ := h3 i hi
  exact ⟨v, h4, h5.below hB (Nat.le_refl _)⟩
theorem cloneC_any (X : Nat → Prop) (a : Option Addr) (n cap : Nat) (L : List Fm) (w : World) (h : CAt w X (.slice a n cap) L) (hn : n = L.length) (h2 : L.length ≤ 2) (hX : ∀ k, X k → k < w.heap.size) :
    Calls Try.prog 45 #[.slice a n cap] w fun e w' => ∃ v, e = .returned v ∧ CAt w' X v L ∧ Below w.heap.size w w' := by
  obtain ⟨j0, hj, hy0, hy1, hy2⟩ := info_parts info33
  have e1 := eqlC a n cap
  cases a with
  | none =>
    have h0 : L = [] := by
      obtain ⟨a, c, e, -, -, h4⟩ := h
      rcases h4 with h4 | ⟨g, off, e2, -⟩
      · exact h4
      · subst e2; simp at e
    subst h0
    obtain rfl : n = 0 := hn
    clear hj hy0 hy1 hy2 h hX
    simp only [Option.isNone_none] at e1
    go_enter Try.func45, Try.ntmps45
    go_wp2
    go_ret
    exact ⟨_, rfl, CAt.nil _ _, Below.refl _ _⟩
  | some p =>
    simp only [Option.isNone_some] at e1
    obtain ⟨news, h3, h4, h5, h6⟩ := h.news h2
    have hBA : Below w.heap.size w (w.alloc (.cells #[] 33)) := al (Below.refl _ _) _
    have hns : Hid (∀ j u, news[j]? = some u → (w.alloc (.cells #[] 33)).cell? (p.add j) = some u) := Lib.hid (fun j u hj => by
      have h7 := h5 j u hj
      exact (hBA.cell (World.block_lt_of_cell? w _ h7)).trans h7)
    rw [← hn] at h4
    have HJ := Lib.hid hj
    have HN := Lib.hid hn
    have H3 := Lib.hid h3
    have H4 := Lib.hid h4
    have H6 := Lib.hid h6
    have HXX := Lib.hid hX
    have hn2 : n ≤ 2 := by omega
    have H2 := Lib.hid h2
    clear hj h hn h3 h4 h5 h6 hX h2 hBA
    go_enter Try.func45, Try.ntmps45
    go_wp2_with (at_builtin; refine wpList_append_many _ rfl _ _ 52 rfl w.heap.size 33 j0 _ 6 56 Try.underlying52 HJ.out hy0 hy1 hy2 (by rfl) (by omega) _ 0 [] rfl (own_empty6 _ _ 6 (by omega) w.heap.size rfl _ (Nat.le_refl _)) p n cap news rfl H4.out hns.out H6.out (by unfold maxLen; omega) (by omega) (by simp) ?_)
    intro v' w1 hown hgrow _
    have hO : w1.ownsRow w.heap.size 33 6 v' n news := by simpa using hown
    have hB1 : Below w.heap.size w w1 := ((Below.refl _ _).alloc (Nat.le_refl _) _).grown hgrow (by simp) (fun k hk => by simp [Value.ownBlock] at hk; omega)
    have HC : Hid (CAt w1 X v' L) := Lib.hid (CAt.of_news hO HN.out (H3.out.below hB1) HXX.out H2.out)
    have HB := Lib.hid hB1
    clear hown hgrow hO hB1
    go_wp2_with fail
    go_ret
    exact ⟨_, rfl, HC.out, HB.out⟩
theorem clone_ctl {w w1 w2 : World} {X : Nat → Prop} {v vC : Value} {L : List Fm} {n : Nat} {us : List Value} (h : CAt w X vC L) (hB : Below w.heap.size w w2) (hO : w2.ownsRow w1.heap.size 23 1 v n us) (hs : w.heap.size < w1.heap.size) : CAt w2 (Av X w.heap.size v) vC L :=
  (h.grow (fun k hk => by
    rcases hk with e | e | e
    · exact .inl e
    · exact .inr (by omega)
    · exact .inr (by have := (hO.lt k e).1; omega))).below hB (Nat.le_refl _)
theorem clone_lt {w w2 : World} {X : Nat → Prop} {v : Value} {n B : Nat} {us : List Value} (h : ∀ k, X k → k < w.heap.size) (hB : Below w.heap.size w w2) (hc : w.heap.size < w2.heap.size) (hO : w2.ownsRow B 23 1 v n us) : ∀ k, Av X w.heap.size v k → k < w2.heap.size := fun k hk => by
  have := hB.size
  rcases hk with e | e | e
  · have := h k e; omega
  · omega
  · exact (hO.lt k e).2
set_option maxRecDepth 20000 in
set_option maxHeartbeats 2000000 in
theorem clone_any (X : Nat → Prop) (b : Nat) (f : FS) (vU vC : Value) (w : World) (h : FAt w X b f vU vC) (ok : f.Ok) : Calls Try.prog 28 #[.pointer (some ⟨b, 0, none⟩)] w fun e w' => ∃ vU' vC', e = .returned (.pointer (some ⟨w.heap.size, 0, none⟩)) ∧ FAt w' (Av X b vU) w.heap.size f vU' vC' ∧ (∀ k, vU'.ownBlock = some k → w.heap.size < k) ∧ Below w.heap.size w w' := by
  obtain ⟨us, hO, hS⟩ := h.units
  obtain ⟨aU, cU, rfl, hcU, hmU, hVU, -, hUn⟩ := hO.vat
  obtain ⟨aC, cC, rfl, hcC, hmC, -⟩ := id h.ctls
  obtain ⟨nU, hnU⟩ : ∃ n, n = us.length := ⟨_, rfl⟩
  obtain ⟨nC, hnC⟩ : ∃ n, n = f.ctls.length := ⟨_, rfl⟩
  have hfew := ok.few
  have hc2 := ok.ctls.1
  rw [← hnU] at h hS ⊢
  rw [← hnC] at h
  have H := Lib.hid h
  have HC := Lib.hid h.ctls
  have HS := Lib.hid hS
  have H1 := Lib.hid hS.one_cell
  have hul : us.length = f.units.length := hS.1
  have hn9 : nU ≤ 256 := by omega
  have HNU := Lib.hid hnU.symm
  have HNC := Lib.hid hnC
  have HC2 := Lib.hid hc2
  have HV := Lib.hid hVU
  have HAV := Lib.hid h.avlt
  have h0 : Hid (aU = none → us = []) := Lib.hid (fun e => by
    subst e
    rcases hVU with h9 | ⟨b9, o9, h9, -⟩
    · exact h9
    · cases h9)
  have c5 := h.blk.at 5 rfl
  have x0 := H.out.blk.at 0 rfl
  have x1 := H.out.blk.at 1 rfl
  have x2 := H.out.blk.at 2 rfl
  have x3 := H.out.blk.at 3 rfl
  have x4 := H.out.blk.at 4 rfl
  have x5 := H.out.blk.at 5 rfl
  have x6 := H.out.blk.at 6 rfl
  have x7 := H.out.blk.at 7 rfl
  have x8 := H.out.blk.at 8 rfl
  have x9 := H.out.blk.at 9 rfl
  have x10 := H.out.blk.at 10 rfl
  have x11 := H.out.blk.at 11 rfl
  have x12 := H.out.blk.at 12 rfl
  have x13 := H.out.blk.at 13 rfl
  have x14 := H.out.blk.at 14 rfl
  have xl := H.out.blk.lt
  clear hO hS hVU hUn hcU hmU hcC hmC hfew hc2 hul hnU hnC h
  go_enter Try.func28, Try.ntmps28
  go_upto_region 4 with (go_at_call 30; refine (usable_any b w x5).mono ?_; rintro e w2 ⟨rfl, hw⟩; obtain rfl := hw.symm)
  obtain ⟨w1, hw1⟩ : ∃ w1, w1 = w.alloc (.cells #[.int .i64 (f.size : Int), .slice aU nU cU, .int .i64 (f.acked : Int), .int .i64 (f.flight : Int), .int .i64 (f.front : Int), .bool true, .int .i64 f.craft, .int .i64 f.chan, .int .i64 f.tmo, .int .i64 (f.ret : Int), .int .i64 (f.state : Int), .slice aC nC cC, .int .i64 f.now, .int .i64 f.timer, .int .i64 (f.count : Int)] 69) := ⟨_, rfl⟩
  rw [← hw1]
  have HK1 : Hid (Blk w1 w.heap.size 69 (fcells f (.slice aU nU cU) (.slice aC nC cC))) := Lib.hid (by rw [hw1]; exact Blk.new w 69 _)
  have HB1 : Hid (Below w.heap.size w w1) := Lib.hid (by rw [hw1]; exact al (Below.refl _ _) _)
  have hs1 := HK1.out.lt
  clear hw1 x0 x1 x2 x3 x4 x5 x6 x7 x8 x9 x10 x11 x12 x13 x14 xl c5
  have h1b := (H.out.below HB1.out (Nat.le_refl _)).blk
  have c1 := h1b.at 1 rfl
  have c11 := h1b.at 11 rfl
  have cl := h1b.lt
  clear h1b
  refine wp_region_held_drew (S := (fun w' => w'.cell? ⟨b, 1, none⟩ = some (.slice aU nU cU) ∧ w'.cell? ⟨b, 11, none⟩ = some (.slice aC nC cC))) (by kernel_rfl) (by (try dsimp only); first | exact ⟨by with_reducible assumption, by with_reducible assumption⟩ | go_keep) (fun hHeld => ?_)
  refine wpAnyH_take (i := 0) (oi := (Oper.mk (some 10) (Op.move (Operand.tmp 0)) 25 "fop.go:204" #[] none)) (v := ?_) rfl (by kernel_rfl) (by kernel_rfl) (by kernel_rfl) (fun _ _ _ h => h) (Or.inl ⟨by rfl, ?_⟩) (by assumption) ?_
  rotate_left
  · (intro w hSw; (try dsimp only at hSw); go_simp; first | done | with_reducible rfl)
  (try simp only [Act.put, List.setIfInBounds_toArray, List.set_cons_zero, List.set_cons_succ])
  refine wpAnyH_take (i := 1) (oi := (Oper.mk (some 11) (Op.nilCheck (Operand.tmp 10)) 0 "fop.go:204" #[Edge.mk 0 Ground.data] none)) (v := ?_) rfl (by kernel_rfl) (by kernel_rfl) (by kernel_rfl) (fun _ _ _ h => h) (Or.inl ⟨by rfl, ?_⟩) (by assumption) ?_
  rotate_left
  · (intro w hSw; (try dsimp only at hSw); go_simp; first | done | with_reducible rfl)
  (try simp only [Act.put, List.setIfInBounds_toArray, List.set_cons_zero, List.set_cons_succ])
  refine wpAnyH_take (i := 2) (oi := (Oper.mk (some 12) (Op.fieldAddr 69 (Operand.tmp 11) 0) 0 "fop.go:204" #[Edge.mk 1 Ground.data] none)) (v := ?_) rfl (by kernel_rfl) (by kernel_rfl) (by kernel_rfl) (fun _ _ _ h => h) (Or.inl ⟨by rfl, ?_⟩) (by assumption) ?_
  rotate_left
  · (intro w hSw; (try dsimp only at hSw); go_simp; first | done | with_reducible rfl)
  (try simp only [Act.put, List.setIfInBounds_toArray, List.set_cons_zero, List.set_cons_succ])
  refine wpAnyH_take (i := 3) (oi := (Oper.mk (some 13) (Op.fieldAddr 67 (Operand.tmp 12) 1) 0 "fop.go:204" #[Edge.mk 2 Ground.data] none)) (v := ?_) rfl (by kernel_rfl) (by kernel_rfl) (by kernel_rfl) (fun _ _ _ h => h) (Or.inl ⟨by rfl, ?_⟩) (by assumption) ?_
  rotate_left
  · (intro w hSw; (try dsimp only at hSw); go_simp; first | done | with_reducible rfl)
  (try simp only [Act.put, List.setIfInBounds_toArray, List.set_cons_zero, List.set_cons_succ])
  refine wpAnyH_take (i := 4) (oi := (Oper.mk (some 14) (Op.load 22 (Operand.tmp 13)) 22 "fop.go:204" #[Edge.mk 3 Ground.data] none)) (v := ?_) rfl (by kernel_rfl) (by kernel_rfl) (by kernel_rfl) (fun _ _ _ h => h) (Or.inl ⟨by rfl, ?_⟩) (by assumption) ?_
  rotate_left
  · (intro w hSw; (try dsimp only at hSw); go_simp; first | done | with_reducible rfl)
  (try simp only [Act.put, List.setIfInBounds_toArray, List.set_cons_zero, List.set_cons_succ])
  refine wpAnyH_take (i := 6) (oi := (Oper.mk (some 16) (Op.move (Operand.tmp 0)) 25 "fop.go:204" #[] none)) (v := ?_) rfl (by kernel_rfl) (by kernel_rfl) (by kernel_rfl) (fun _ _ _ h => h) (Or.inl ⟨by rfl, ?_⟩) (by assumption) ?_
  rotate_left
  · (intro w hSw; (try dsimp only at hSw); go_simp; first | done | with_reducible rfl)
  (try simp only [Act.put, List.setIfInBounds_toArray, List.set_cons_zero, List.set_cons_succ])
  refine wpAnyH_take (i := 7) (oi := (Oper.mk (some 17) (Op.nilCheck (Operand.tmp 16)) 0 "fop.go:204" #[Edge.mk 6 Ground.data] none)) (v := ?_) rfl (by kernel_rfl) (by kernel_rfl) (by kernel_rfl) (fun _ _ _ h => h) (Or.inl ⟨by rfl, ?_⟩) (by assumption) ?_
  rotate_left
  · (intro w hSw; (try dsimp only at hSw); go_simp; first | done | with_reducible rfl)
  (try simp only [Act.put, List.setIfInBounds_toArray, List.set_cons_zero, List.set_cons_succ])
  refine wpAnyH_take (i := 8) (oi := (Oper.mk (some 18) (Op.fieldAddr 69 (Operand.tmp 17) 7) 0 "fop.go:204" #[Edge.mk 7 Ground.data] none)) (v := ?_) rfl (by kernel_rfl) (by kernel_rfl) (by kernel_rfl) (fun _ _ _ h => h) (Or.inl ⟨by rfl, ?_⟩) (by assumption) ?_
  rotate_left
  · (intro w hSw; (try dsimp only at hSw); go_simp; first | done | with_reducible rfl)
  (try simp only [Act.put, List.setIfInBounds_toArray, List.set_cons_zero, List.set_cons_succ])
  refine wpAnyH_take (i := 9) (oi := (Oper.mk (some 19) (Op.load 52 (Operand.tmp 18)) 52 "fop.go:204" #[Edge.mk 8 Ground.data] none)) (v := ?_) rfl (by kernel_rfl) (by kernel_rfl) (by kernel_rfl) (fun _ _ _ h => h) (Or.inl ⟨by rfl, ?_⟩) (by assumption) ?_
  rotate_left
  · (intro w hSw; (try dsimp only at hSw); go_simp; first | done | with_reducible rfl)
  (try simp only [Act.put, List.setIfInBounds_toArray, List.set_cons_zero, List.set_cons_succ])
  refine wpAnyH_ready (rs := [5]) (by kernel_rfl) (by simp) ?_
  refine AllReadyH.cons (o := (Oper.mk (some 15) (Op.call (Call.mk (Callee.value (Operand.func 44)) #[Operand.tmp 14] #[22])) 22 "fop.go:204" #[Edge.mk 4 Ground.data] none)) rfl (fun K hK => ?_) (AllReadyH.nil)
  go_simp
  (go_at_call 44; refine (cloneL_any aU nU cU us w1.drew HNU.out (by omega) (HV.out.low HB1.out.drew) H1.out h0.out).mono ?_; rintro e w2 ⟨v2, rfl, hO2, hB2⟩; obtain ⟨a2, n2, c2, rfl⟩ := own_slice hO2; have hb2 := undrew hB2; have HB2 := Lib.hid (HB1.out.trans (hb2.mono HB1.out.size)); have HK2 := Lib.hid (HK1.out.below hb2 (Nat.le_refl _)); have HO2 : Hid (w2.ownsRow w1.heap.size 23 1 (.slice a2 n2 c2) nU us) := Lib.hid hO2; have h2b := (H.out.below HB2.out (Nat.le_refl _)).blk; have c1 := h2b.at 1 rfl; have c11 := h2b.at 11 rfl; have cl2 := h2b.lt; have HCC : Hid (CAt w2 (Av (Av X b (.slice aU nU cU)) w.heap.size (.slice a2 n2 c2)) (.slice aC nC cC) f.ctls) := Lib.hid (clone_ctl HC.out HB2.out HO2.out hs1); have HLT : Hid (∀ k, Av (Av X b (.slice aU nU cU)) w.heap.size (.slice a2 n2 c2) k → k < w2.heap.size) := Lib.hid (clone_lt HAV.out HB2.out HK2.out.lt HO2.out); clear hO2 hB2 hb2 h2b)
  refine hK.out _ _ (by (try dsimp only); first | exact ⟨by with_reducible assumption, by with_reducible assumption⟩ | go_keep) (fun hHeld => ?_)
  clear hK K
  (try simp only [Act.put, List.setIfInBounds_toArray, List.set_cons_zero, List.set_cons_succ])
  refine wpAnyH_ready (rs := [10]) (by kernel_rfl) (by simp) ?_
  refine AllReadyH.cons (o := (Oper.mk (some 20) (Op.call (Call.mk (Callee.value (Operand.func 45)) #[Operand.tmp 19] #[52])) 52 "fop.go:204" #[Edge.mk 9 Ground.data, Edge.mk 5 Ground.chain] none)) rfl (fun K hK => ?_) (AllReadyH.nil)
  go_simp
  (go_at_call 45; refine (cloneC_any _ aC nC cC f.ctls w2 HCC.out HNC.out HC2.out HLT.out).mono ?_; rintro e w3 ⟨v3, rfl, hC3, hB3⟩; obtain ⟨a3, c3, rfl, -⟩ := id hC3; have HC3 := Lib.hid hC3; have HB3 := Lib.hid (HB2.out.trans (hB3.mono HB2.out.size)); have HK3 := Lib.hid (HK2.out.below hB3 (Nat.le_refl _)); have HO3 := Lib.hid (own_below HO2.out hB3 (Nat.le_refl _)); have h3b := (H.out.below HB3.out (Nat.le_refl _)).blk; have c1 := h3b.at 1 rfl; have c11 := h3b.at 11 rfl; have cl3 := h3b.lt; have k1 := HK3.out.at 1 rfl; have k11 := HK3.out.at 11 rfl; have f1 := HK3.out.free 1; have f11 := HK3.out.free 11; have kl := HK3.out.lt; have hbw : b ≠ w.heap.size := (by have := H.out.blk.lt; omega); clear hC3 hB3 h3b)
  refine hK.out _ _ (by (try dsimp only); first | exact ⟨by with_reducible assumption, by with_reducible assumption⟩ | go_keep) (fun hHeld => ?_)
  clear hK K
  (try simp only [Act.put, List.setIfInBounds_toArray, List.set_cons_zero, List.set_cons_succ])
  refine wpAnyH_take (i := 11) (oi := (Oper.mk (some 21) (Op.fieldAddr 69 (Operand.tmp 3) 0) 0 "fop.go:204" #[Edge.mk 0 Ground.phase, Edge.mk 1 Ground.phase, Edge.mk 2 Ground.phase, Edge.mk 3 Ground.phase, Edge.mk 4 Ground.phase, Edge.mk 5 Ground.phase, Edge.mk 6 (Ground.textOnly Departure.lateStores), Edge.mk 7 (Ground.textOnly Departure.lateStoresUnsure), Edge.mk 8 (Ground.textOnly Departure.lateStoresUnsure), Edge.mk 9 Ground.phase, Edge.mk 10 Ground.phase] none)) (v := ?_) rfl (by kernel_rfl) (by kernel_rfl) (by kernel_rfl) (fun _ _ _ h => h) (Or.inl ⟨by rfl, ?_⟩) (by assumption) ?_
  rotate_left
  · (intro w hSw; (try dsimp only at hSw); go_simp; first | done | with_reducible rfl)
  (try simp only [Act.put, List.setIfInBounds_toArray, List.set_cons_zero, List.set_cons_succ])
  refine wpAnyH_take (i := 12) (oi := (Oper.mk (some 22) (Op.fieldAddr 67 (Operand.tmp 21) 1) 0 "fop.go:204" #[Edge.mk 11 Ground.data, Edge.mk 0 Ground.phase, Edge.mk 1 Ground.phase, Edge.mk 2 Ground.phase, Edge.mk 3 Ground.phase, Edge.mk 4 Ground.phase, Edge.mk 5 Ground.phase, Edge.mk 6 (Ground.textOnly Departure.lateStores), Edge.mk 7 (Ground.textOnly Departure.lateStoresUnsure), Edge.mk 8 (Ground.textOnly Departure.lateStoresUnsure), Edge.mk 9 Ground.phase, Edge.mk 10 Ground.phase] none)) (v := ?_) rfl (by kernel_rfl) (by kernel_rfl) (by kernel_rfl) (fun _ _ _ h => h) (Or.inl ⟨by rfl, ?_⟩) (by assumption) ?_
  rotate_left
  · (intro w hSw; (try dsimp only at hSw); go_simp; first | done | with_reducible rfl)
  (try simp only [Act.put, List.setIfInBounds_toArray, List.set_cons_zero, List.set_cons_succ])
  refine wpAnyH_ready (rs := [13]) (by kernel_rfl) (by simp) ?_
  refine AllReadyH.cons (o := (Oper.mk none (Op.store 22 (Operand.tmp 22) (Operand.tmp 15)) 0 "fop.go:204" #[Edge.mk 12 Ground.data, Edge.mk 5 Ground.data, Edge.mk 10 Ground.chain, Edge.mk 0 Ground.phase, Edge.mk 1 Ground.phase, Edge.mk 2 Ground.phase, Edge.mk 3 Ground.phase, Edge.mk 4 Ground.phase, Edge.mk 5 Ground.phase, Edge.mk 6 (Ground.textOnly Departure.lateStores), Edge.mk 7 (Ground.textOnly Departure.lateStoresUnsure), Edge.mk 8 (Ground.textOnly Departure.lateStoresUnsure), Edge.mk 9 Ground.phase, Edge.mk 10 Ground.phase] none)) rfl (fun K hK => ?_) (AllReadyH.nil)
  go_simp
  (have hk := (H.out.below HB3.out (Nat.le_refl _)).blk.fr (frs (Fr.refl (fun k => k = w.heap.size) w3) 1 (.slice a2 n2 c2)) hbw; have c1 := hk.at 1 rfl; have c11 := hk.at 11 rfl; clear hk; have hk := HK3.out.setCell 1 (.slice a2 n2 c2); have k11 := hk.at 11 rfl; have f11 := hk.free 11; have kl := hk.lt; clear hk)
  refine hK.out _ _ (by (try dsimp only); first | exact ⟨by with_reducible assumption, by with_reducible assumption⟩ | go_keep) (fun hHeld => ?_)
  clear hK K
  (try simp only [Act.put, List.setIfInBounds_toArray, List.set_cons_zero, List.set_cons_succ])
  refine wpAnyH_take (i := 14) (oi := (Oper.mk (some 23) (Op.fieldAddr 69 (Operand.tmp 3) 7) 0 "fop.go:204" #[Edge.mk 0 Ground.phase, Edge.mk 1 Ground.phase, Edge.mk 2 Ground.phase, Edge.mk 3 Ground.phase, Edge.mk 4 Ground.phase, Edge.mk 5 Ground.phase, Edge.mk 6 Ground.phase, Edge.mk 7 Ground.phase, Edge.mk 8 Ground.phase, Edge.mk 9 Ground.phase, Edge.mk 10 Ground.phase, Edge.mk 11 Ground.phase, Edge.mk 12 Ground.phase, Edge.mk 13 Ground.phase] none)) (v := ?_) rfl (by kernel_rfl) (by kernel_rfl) (by kernel_rfl) (fun _ _ _ h => h) (Or.inl ⟨by rfl, ?_⟩) (by assumption) ?_
  rotate_left
  · (intro w hSw; (try dsimp only at hSw); go_simp; first | done | with_reducible rfl)
  (try simp only [Act.put, List.setIfInBounds_toArray, List.set_cons_zero, List.set_cons_succ])
  refine wpAnyH_ready (rs := [15]) (by kernel_rfl) (by simp) ?_
  refine AllReadyH.cons (o := (Oper.mk none (Op.store 52 (Operand.tmp 23) (Operand.tmp 20)) 0 "fop.go:204" #[Edge.mk 14 Ground.data, Edge.mk 10 Ground.data, Edge.mk 13 Ground.chain, Edge.mk 0 Ground.phase, Edge.mk 1 Ground.phase, Edge.mk 2 Ground.phase, Edge.mk 3 Ground.phase, Edge.mk 4 Ground.phase, Edge.mk 5 Ground.phase, Edge.mk 6 Ground.phase, Edge.mk 7 Ground.phase, Edge.mk 8 Ground.phase, Edge.mk 9 Ground.phase, Edge.mk 10 Ground.phase, Edge.mk 11 Ground.phase, Edge.mk 12 Ground.phase, Edge.mk 13 Ground.phase] none)) rfl (fun K hK => ?_) (AllReadyH.nil)
  go_simp
  (have hk := (H.out.below HB3.out (Nat.le_refl _)).blk.fr (frs (frs (Fr.refl (fun k => k = w.heap.size) w3) 1 (.slice a2 n2 c2)) 11 (.slice a3 f.ctls.length c3)) hbw; have c1 := hk.at 1 rfl; have c11 := hk.at 11 rfl; clear hk)
  refine hK.out _ _ (by (try dsimp only); first | exact ⟨by with_reducible assumption, by with_reducible assumption⟩ | go_keep) (fun hHeld => ?_)
  clear hK K
  (try simp only [Act.put, List.setIfInBounds_toArray, List.set_cons_zero, List.set_cons_succ])
  refine wpAnyH_done (by kernel_rfl) ?_ _
  go_wp2_with fail
  go_ret
  have hF : Fr (fun k => k = w.heap.size) w3 ((w3.setCell ⟨w.heap.size, 1, none⟩ (.slice a2 n2 c2)).setCell ⟨w.heap.size, 11, none⟩ (.slice a3 f.ctls.length c3)) := frs (frs (Fr.refl _ _) _ _) _ _
  have hnw : ∀ k, (Value.slice a2 n2 c2).ownBlock = some k → w.heap.size < k := fun k hk => by have := (HO3.out.lt k hk).1; omega
  have hB : Below w.heap.size w ((w3.setCell ⟨w.heap.size, 1, none⟩ (.slice a2 n2 c2)).setCell ⟨w.heap.size, 11, none⟩ (.slice a3 f.ctls.length c3)) := HB3.out.trans (hF.toBelow HB3.out.size (fun k hk => by omega))
  refine ⟨.slice a2 n2 c2, .slice a3 f.ctls.length c3, rfl, ⟨Blk.cast ((HK3.out.setCell 1 _).setCell 11 _) rfl, ⟨us, OffRow.of_own (own_base (own_fr HO3.out hF (fun k hk e => by have := hnw k hk; omega)) (by omega)), (HS.out.grow (fun k hk => ?_)).below hB (Nat.le_refl _)⟩, HC3.out.fr hF (fun k hk => .inl (.inr (.inl hk))), fun k hk => ?_⟩, hnw, hB⟩
  · rcases hk with e | e | e
    · exact .inl e
    · exact .inr (by omega)
    · exact .inr (Nat.le_of_lt (hnw k e))
  · have := HAV.out k hk
    have := hB.size
    omega
end Go.Proofs.Ytjiejpklcjpibaa

/- Clone. No condition. -/
import Derived.Test.YtnojmkmmfiahgaaMC
import Derived.Sort.LoopGhostIn
namespace Go.Proofs.Ytnojmkmmfiahgaa
open Go.RowKit Go.Shelf Go.Deep Go.ChangeShapes Go.WideShapes Go.ChangeAt
set_option linter.unusedVariables false
attribute [local go_sem] Oper.semAt_some

/-- the marks that rounds over functions leave -/
def Marks (B N : Nat) (w : World) (ds : List Deferred) : Prop := ∃ Ds : List Nat, ds = Ds.map (fun D => { target := .collected D, args := #[] }) ∧ Ds.Nodup ∧ ∀ D ∈ Ds, (B ≤ D ∧ D < N) ∧ w.heap[D]? = some (.deferred (some []))
theorem Marks.nil (B N : Nat) (w : World) : Marks B N w [] := ⟨[], rfl, .nil, by simp⟩
theorem Marks.keep {B N : Nat} {w w' : World} {ds : List Deferred} (h : Marks B N w ds) (k : KeepsOthers w w') : Marks B N w' ds := by
  obtain ⟨Ds, h1, h2, h3⟩ := h
  exact ⟨Ds, h1, h2, fun D hD => ⟨(h3 D hD).1, k.same D _ (h3 D hD).2 rfl⟩⟩
theorem Marks.mono {B N M : Nat} {w : World} {ds : List Deferred} (h : Marks B N w ds) (k : N ≤ M) : Marks B M w ds := by
  obtain ⟨Ds, h1, h2, h3⟩ := h
  exact ⟨Ds, h1, h2, fun D hD => ⟨⟨(h3 D hD).1.1, Nat.lt_of_lt_of_le (h3 D hD).1.2 k⟩, (h3 D hD).2⟩⟩
theorem Marks.below {B N : Nat} {w w' : World} {ds : List Deferred} (h : Marks B N w ds) (k : Below w.heap.size w w') : Marks B N w' ds := by
  obtain ⟨Ds, h1, h2, h3⟩ := h
  exact ⟨Ds, h1, h2, fun D hD => ⟨(h3 D hD).1, (k.block D (Array.getElem?_eq_some_iff.1 (h3 D hD).2).1).trans (h3 D hD).2⟩⟩
theorem Marks.own {α : Type} {B N : Nat} {ds : List Deferred} : OwnFrom N (fun (_ : List α) W => Marks B N W ds) := fun s W W' row h hg hr => by
  obtain ⟨Ds, h1, h2, h3⟩ := h
  refine ⟨Ds, h1, h2, fun D hD => ⟨(h3 D hD).1, ?_⟩⟩
  have hlt := (Array.getElem?_eq_some_iff.1 (h3 D hD).2).1
  rw [hg.block D hlt (fun e => by have := (hr D e.symm).1; have := (h3 D hD).1.2; omega)]
  exact (h3 D hD).2
theorem Marks.cons {B N D : Nat} {w : World} {ds : List Deferred} (h : Marks B N w ds) (hB : B ≤ N) (hD : N ≤ D) (hK : w.heap[D]? = some (.deferred (some []))) : Marks B w.heap.size w ({ target := .collected D, args := #[] } :: ds) := by
  obtain ⟨Ds, h1, h2, h3⟩ := h
  refine ⟨D :: Ds, by rw [h1]; rfl, List.nodup_cons.2 ⟨fun h => by have := (h3 D h).1.2; omega, h2⟩, fun E hE => ?_⟩
  have hlt : ∀ E, w.heap[E]? = some (.deferred (some [])) → E < w.heap.size := fun E h => (Array.getElem?_eq_some_iff.1 h).1
  rcases List.mem_cons.1 hE with rfl | hE
  · exact ⟨⟨by omega, hlt _ hK⟩, hK⟩
  · exact ⟨⟨(h3 E hE).1.1, hlt _ (h3 E hE).2⟩, (h3 E hE).2⟩
theorem leaves_marks {F : Fence} {n B N : Nat} {fn : Func} {tmps : Array Value} {R : Ending → World → Prop} (J : World → Prop) (hJ : ∀ W D, J W → B ≤ D → W.heap[D]? = some (.deferred (some [])) → J (W.putObj D (.deferred none)))
    (hR : ∀ W, J W → LeavesIn F n Try.prog fn tmps R [] .returning W) : ∀ (ds : List Deferred) (W : World), Marks B N W ds → J W → LeavesInM F n Try.prog fn tmps R ds .returning W := by
  intro ds W ⟨Ds, h1, h2, h3⟩ hW
  induction Ds generalizing ds W with
  | nil => subst h1; exact hR W hW
  | cons D Ds ih =>
    subst h1
    have hK := (h3 D (by simp)).2
    refine ⟨by simp, .inl ⟨D, _, rfl, run_takeDeferred hK, ih _ _ rfl (List.nodup_cons.1 h2).2 (fun E hE => ?_) (hJ _ _ hW (h3 D (by simp)).1.1 hK)⟩⟩
    refine ⟨(h3 E (by simp [hE])).1, ?_⟩
    rw [World.putObj_heap_other (fun e => (List.nodup_cons.1 h2).1 (by rw [← e]; exact hE))]
    exact (h3 E (by simp [hE])).2
/-- all blocks from Z on -/
def GeZ (Z b : Nat) (vS : Value) (Y : List SM) : Prop := Z ≤ b ∧ (∀ k, vS.ownBlock = some k → Z ≤ k) ∧ ∀ y ∈ Y, Z ≤ y.s ∧ (∀ k, y.vE.ownBlock = some k → Z ≤ k) ∧ ∀ g ∈ y.gs, Z ≤ g
/-- a recorder whose blocks lie from Z on stays -/
theorem RZ.keepZ {Z A B b : Nat} {w w' : World} {r : RS} {vS : Value} {Y : List SM} (h : RZ Z A w w') (k : RAt w B b r vS Y) (g : GeZ Z b vS Y) : RAt w' B b r vS Y := by
  obtain ⟨g1, g2, g3⟩ := g
  refine k.fr h (fun k cs hk hc => ?_) (fun hk => ?_) (fun q hq hk => ?_) (fun y hy => ?_)
  · obtain ⟨⟨cs', t, m, h2, h3⟩, -⟩ := hk
    rw [hc] at h2
    simp at h2
    obtain ⟨-, rfl, -⟩ := h2
    rcases h3 with e | e | e | e | e <;> exact absurd e (by decide)
  · have := hk.2; omega
  · have := g2 q hq; have := hk.2; omega
  · obtain ⟨i1, i2, i3⟩ := g3 y hy
    exact ⟨fun hk => by have := hk.2; omega, fun q hq hk => by have := i2 q hq; have := hk.2; omega, fun g hg hk => by have := i3 g hg; have := hk.2; omega⟩
theorem EnAt.turn {w w' : World} {B g : Nat} {e : En} {vd : Value} {row : Option Nat} (h : EnAt w B e g vd) (hg : w.grownBy w' row) (hr : ∀ k, row = some k → ∃ o : Obj, w.heap[k]? = some o ∧ o.isCells = false) : EnAt w' B e g vd := by
  have hn : ∀ k cs t m, w.heap[k]? = some (.cells cs t m) → ¬ row = some k := fun k cs t m hk e => by
    obtain ⟨o, ho, hc⟩ := hr k e
    rw [hk] at ho
    cases ho
    cases hc
  exact h.fr (T := fun k => row = some k) ((Fr.refl _ _).grown hg (fun k e => .inl e)) (fun k cs e hc => hn k _ _ _ hc e) (hn _ _ _ _ h.blk)
/-- what a round of the copying keeps -/
def CI (B xs : Nat) (w3 : World) (s : St) (y : SM) (pre : List (Fin y.gs.length)) (W : World) (gs' : List Nat) (vE' : Value) : Prop :=
  gs'.length = pre.length ∧ Blk W xs TS [.int .i64 s.id, .int .i64 s.room, .int .i64 s.prio, .bool s.circ, vE', .int .i64 (lvl s.L : Int), .int .i64 (s.drop : Int)] ∧ W.ownsRow w3.heap.size PE 1 vE' gs'.length (gs'.map ptr) ∧ (∀ g ∈ gs', w3.heap.size ≤ g ∧ g < W.heap.size) ∧ (∀ (p q g : Nat), gs'[p]? = some g → gs'[q]? = some g → p = q) ∧
  (∀ (p : Nat) (x : Fin y.gs.length), pre[p]? = some x → ∃ g e vd, gs'[p]? = some g ∧ s.L[x.val]? = some e ∧ y.vds[x.val]? = some vd ∧ EnAt W B e g vd) ∧ Fr (fun k => k = xs ∨ w3.heap.size ≤ k) w3 W
theorem CI.turn {B xs : Nat} {w3 W W' : World} {s : St} {y : SM} {pre : List (Fin y.gs.length)} {gs' : List Nat} {vE' : Value} {row : Option Nat} (h : CI B xs w3 s y pre W gs' vE') (hg : W.grownBy W' row) (hr : ∀ k, row = some k → w3.heap.size ≤ k ∧ ∃ o : Obj, W.heap[k]? = some o ∧ o.isCells = false) : CI B xs w3 s y pre W' gs' vE' := by
  obtain ⟨h1, h2, h3, h4, h5, h6, h7⟩ := h
  have hr2 := fun k e => (hr k e).2
  refine ⟨h1, Blk.own h2 hg hr2, own_fr h3 ((Fr.refl (fun k => row = some k) W).grown hg (fun k e => .inl e)) (fun k hk e => ?_), fun g hg' => ⟨(h4 g hg').1, Nat.lt_of_lt_of_le (h4 g hg').2 hg.size⟩, h5, fun p x hp => ?_, h7.grown hg (fun k e => .inl (.inr (hr k e).1))⟩
  · obtain ⟨cs, hc⟩ := own_ty h3 hk
    obtain ⟨o, ho, hc2⟩ := hr2 k e
    rw [hc] at ho
    cases ho
    cases hc2
  · obtain ⟨g, e, vd, k1, k2, k3, k4⟩ := h6 p x hp
    exact ⟨g, e, vd, k1, k2, k3, k4.turn hg hr2⟩
theorem CI.step {B xs gx : Nat} {w3 W w8 : World} {s : St} {y : SM} {pre : List (Fin y.gs.length)} {gs' : List Nat} {vE' v8 vd : Value} {e : En} {x : Fin y.gs.length} (h : CI B xs w3 s y pre W gs' vE') (hB : B ≤ W.heap.size) (hx3 : xs < w3.heap.size) (he : s.L[x.val]? = some e) (hv : y.vds[x.val]? = some vd) (hen : EnAt W B e gx vd)
    (how : w8.ownsRow w3.heap.size PE 1 v8 (gs'.length + 1) (gs'.map ptr ++ [ptr W.heap.size])) (hg : ((W.alloc (.cells #[.int .i64 e.time, vd, .bool e.want] 71)).alloc (.cells #[ptr W.heap.size] 68)).grownBy w8 vE'.ownBlock) :
    w8.cell? ⟨xs, 4, none⟩ = some vE' ∧ w8.frozen? ⟨xs, 4, none⟩ = false ∧ xs < w8.heap.size ∧ Hid (KeepsOthers W (w8.setCell ⟨xs, 4, none⟩ v8) ∧ Fr (fun k => k = xs ∨ w3.heap.size ≤ k) W (w8.setCell ⟨xs, 4, none⟩ v8) ∧ CI B xs w3 s y (pre ++ [x]) (w8.setCell ⟨xs, 4, none⟩ v8) (gs' ++ [W.heap.size]) v8) := by
  obtain ⟨h1, h2, h3, h4, h5, h6, h7⟩ := h
  have hB2 : Below W.heap.size W ((W.alloc (.cells #[.int .i64 e.time, vd, .bool e.want] 71)).alloc (.cells #[ptr W.heap.size] 68)) := al (al (Below.refl _ _) _) _
  have hlo : ∀ k, vE'.ownBlock = some k → w3.heap.size ≤ k ∧ k < W.heap.size := fun k hk => (OffRow.of_own h3).lt k hk
  have hne : vE'.ownBlock ≠ some xs := fun e => by have := (hlo _ e).1; omega
  have b8 := (h2.below hB2 (Nat.le_refl _)).grown hg hne
  have n8 : Blk w8 W.heap.size TE [.int .i64 e.time, vd, .bool e.want] := ((Blk.new W 71 _).alloc _).grown hg (fun e => by have := (hlo _ e).2; omega)
  have hf8 : Fr (fun k => k = xs ∨ vE'.ownBlock = some k) W w8 := (Fr.of_below hB2 (Nat.le_refl _)).trans ((Fr.refl _ _).grown hg (fun k hk => .inl (.inr hk)))
  have hf9 : Fr (fun k => k = xs) w8 (w8.setCell ⟨xs, 4, none⟩ v8) := (Fr.refl _ _).set1 _ (by exact .inl rfl)
  have hff := hf8.trans (hf9.wide (fun k hk => .inl (.inl hk)))
  have hT : ∀ k cs t m, W.heap[k]? = some (.cells cs t m) → t ≠ TS → t ≠ PE → ¬ (k = xs ∨ vE'.ownBlock = some k) := fun k cs t m hk h1 h9 e => by
    rcases e with e | e
    · subst e
      rw [show W.heap[k]? = _ from h2] at hk
      simp at hk
      exact h1 hk.2.1.symm
    · obtain ⟨cs', hc⟩ := own_ty h3 e
      rw [hc] at hk
      simp at hk
      exact h9 hk.2.1.symm
  have hK : Kind W (fun k => k = xs ∨ vE'.ownBlock = some k) := fun k cs hk hc => hT k _ _ _ hc (by decide) (by decide) hk
  have hxW : xs < W.heap.size := h2.lt
  have hn : W.heap.size ≠ xs := by omega
  have hsz : W.heap.size < w8.heap.size := n8.lt
  have hen9 := hen.fr hff hK (hT _ _ _ _ hen.blk (by decide) (by decide))
  refine ⟨b8.at 4 rfl, b8.free 4, b8.lt, Lib.hid ⟨?_, hff.wide (fun k hk => ?_), by rw [List.length_append, List.length_append, h1]; rfl, Blk.cast (b8.setCell 4 v8) rfl, ?_, fun g hg' => ?_, fun p q g hp hq => ?_, fun p z hp => ?_, ?_⟩⟩
  · refine ((KeepsOthers.alloc _ _).trans (KeepsOthers.alloc _ _)).trans ((KeepsOthers.of_grownBy hg (fun j o hj ho => ?_)).trans (KeepsOthers.setCell _ _ _))
    obtain ⟨cs, hc⟩ := own_ty (own_below h3 hB2 (Nat.le_refl _)) hj
    rw [hc] at ho
    cases ho
    rfl
  · rcases hk with hk | hk
    · exact .inl (.inl hk)
    · exact .inl (.inr (hlo k hk).1)
  · rw [List.length_append, List.map_append]
    exact own_fr how hf9 (fun k hk e => by
      subst e
      obtain ⟨cs, hc⟩ := own_ty how hk
      exact absurd (b8.kind hc) (by decide))
  · rw [World.size_setCell]
    rcases List.mem_append.1 hg' with h | h
    · exact ⟨(h4 g h).1, Nat.lt_trans (h4 g h).2 hsz⟩
    · rw [List.mem_singleton] at h; subst h; exact ⟨h7.size, hsz⟩
  · have hget : ∀ p g, (gs' ++ [W.heap.size])[p]? = some g → (p < gs'.length ∧ gs'[p]? = some g) ∨ (p = gs'.length ∧ g = W.heap.size) := fun p g hp => by
      by_cases hl : p < gs'.length
      · rw [List.getElem?_append_left hl] at hp; exact .inl ⟨hl, hp⟩
      · rw [List.getElem?_append_right (by omega)] at hp
        have h0 : p - gs'.length = 0 := by have := (List.getElem?_eq_some_iff.1 hp).1; simp at this; omega
        rw [h0] at hp
        cases hp
        exact .inr ⟨by omega, rfl⟩
    rcases hget p g hp with ⟨l1, p1⟩ | ⟨l1, p1⟩ <;> rcases hget q g hq with ⟨l2, q1⟩ | ⟨l2, q1⟩
    · exact h5 p q g p1 q1
    · have := (h4 g (List.mem_of_getElem? p1)).2; omega
    · have := (h4 g (List.mem_of_getElem? q1)).2; omega
    · omega
  · by_cases hl : p < pre.length
    · rw [List.getElem?_append_left hl] at hp
      obtain ⟨g, e', vd', k1, k2, k3, k4⟩ := h6 p z hp
      exact ⟨g, e', vd', by rw [List.getElem?_append_left (by omega)]; exact k1, k2, k3, k4.fr hff hK (hT _ _ _ _ k4.blk (by decide) (by decide))⟩
    · rw [List.getElem?_append_right (by omega)] at hp
      have h0 : p - pre.length = 0 := by have := (List.getElem?_eq_some_iff.1 hp).1; simp at this; omega
      rw [h0] at hp
      cases hp
      have h0' : p - gs'.length = 0 := by omega
      exact ⟨W.heap.size, e, vd, by rw [List.getElem?_append_right (by omega), h0']; rfl, he, hv, n8.fr hf9 hn, hen9.dat, hB⟩
  · exact h7.trans (hff.wide (fun k hk => by
      rcases hk with hk | hk
      · exact .inl (.inl hk)
      · exact .inl (.inr (hlo k hk).1)))
theorem own_lift {w : World} {B c z n : Nat} {t : TypeId} {v : Value} {xs : List Value} (h : w.ownsRow B t z v n xs) (k : ∀ k, v.ownBlock = some k → c ≤ k) : w.ownsRow c t z v n xs := by
  refine ⟨h.1, ?_⟩
  rcases h.2 with h2 | ⟨g, cap, cur, rfl, h3, h4⟩
  · exact .inl h2
  · exact .inr ⟨g, cap, cur, rfl, k g rfl, h4⟩
theorem len_lvl : ∀ (L : List En), (∀ x ∈ L, 1 ≤ x.data.length ∧ x.data.length ≤ 4096) → L.length ≤ lvl L
  | [], _ => by simp [lvl]
  | x :: xs, h => by
    have h1 := len_lvl xs (fun y hy => h y (List.mem_cons_of_mem _ hy))
    have h2 := (h x (List.mem_cons_self ..)).1
    simp only [List.length_cons, lvl]
    omega
theorem len_room {s : St} (h : s.Ok) : s.L.length ≤ 2147483648 := by
  have h1 := len_lvl s.L h.each
  have h2 := h.lvl
  have h3 := h.room
  omega
/-- one more store that is copied -/
theorem clone_put {w w0 w8 : World} {B c : Nat} {r : RS} {vC v8 : Value} {YC : List SM} {s : St} {y : SM} (h : RAt w B c r vC YC) (hZ : GeZ c c vC YC) (hB : Below w.heap.size w w0) (hst : StAt w0 B s y) (f1 : w.heap.size ≤ y.s) (f2 : ∀ g ∈ y.gs, w.heap.size ≤ g) (f3 : ∀ k, y.vE.ownBlock = some k → w.heap.size ≤ k) (f4 : ∀ (p q g : Nat), y.gs[p]? = some g → y.gs[q]? = some g → p = q)
    (how : w8.ownsRow c PS 1 v8 (YC.length + 1) (YC.map (fun z => ptr z.s) ++ [ptr y.s])) (hg : (w0.alloc (.cells #[ptr y.s] 62)).grownBy w8 vC.ownBlock) :
    w8.cell? ⟨c, 2, none⟩ = some vC ∧ w8.frozen? ⟨c, 2, none⟩ = false ∧ c < w8.heap.size ∧ Hid (RAt (w8.setCell ⟨c, 2, none⟩ v8) B c { r with stores := r.stores ++ [s] } v8 (YC ++ [y]) ∧ GeZ c c v8 (YC ++ [y]) ∧ Below c w0 (w8.setCell ⟨c, 2, none⟩ v8) ∧ KeepsOthers w0 (w8.setCell ⟨c, 2, none⟩ v8)) := by
  have hcw : c < w.heap.size := h.blk.lt
  have hB3 : Below w.heap.size w (w0.alloc (.cells #[ptr y.s] 62)) := hB.trans ((al (Below.refl _ _) _).mono hB.size)
  have hB03 : Below w0.heap.size w0 (w0.alloc (.cells #[ptr y.s] 62)) := al (Below.refl _ _) _
  have h0 := h.below hB (Nat.le_refl _)
  have h3 := h.below hB3 (Nat.le_refl _)
  have hty : ∀ k cs t m, w0.heap[k]? = some (.cells cs t m) → t ≠ TR → t ≠ PS → ¬ (k = c ∨ vC.ownBlock = some k) := fun k cs t m hk h1 h2 e => by
    rcases e with e | e
    · subst e
      rw [show w0.heap[k]? = _ from h0.blk] at hk
      simp at hk
      exact h1 hk.2.1.symm
    · obtain ⟨cs', hc⟩ := own_ty h0.row e
      rw [hc] at hk
      simp at hk
      exact h2 hk.2.1.symm
  have hne : vC.ownBlock ≠ some c := fun e => by
    obtain ⟨cs', hc'⟩ := own_ty h0.row e
    exact absurd (h0.blk.kind hc') (by decide)
  have b8 : Blk w8 c TR _ := h3.blk.grown hg hne
  have g8 : Fr (fun k => k = c ∨ vC.ownBlock = some k) (w0.alloc (.cells #[ptr y.s] 62)) w8 := (Fr.refl _ _).grown hg (fun k hk => .inl (.inr hk))
  have hf8 : Fr (fun k => k = c ∨ vC.ownBlock = some k) w w8 := (Fr.of_below hB3 (Nat.le_refl _)).trans g8
  have hf08 : Fr (fun k => k = c ∨ vC.ownBlock = some k) w0 w8 := (Fr.of_below hB03 (Nat.le_refl _)).trans g8
  have hf9 : Fr (fun k => k = c) w8 (w8.setCell ⟨c, 2, none⟩ v8) := (Fr.refl _ _).set1 _ (by exact .inl rfl)
  have hff := hf8.trans (hf9.wide (fun k hk => .inl (.inl hk)))
  have hff0 := hf08.trans (hf9.wide (fun k hk => .inl (.inl hk)))
  have hv8 : ∀ k, v8.ownBlock = some k → ¬ k = c := fun k hk e => by
    subst e
    obtain ⟨cs', hc'⟩ := own_ty how hk
    exact absurd (b8.kind hc') (by decide)
  have hst9 : StAt (w8.setCell ⟨c, 2, none⟩ v8) B s y := hst.fr hff0 (fun k cs hk hc => hty k _ _ _ hc (by decide) (by decide) hk) (hty _ _ _ _ hst.blk (by decide) (by decide)) (fun k hk => by obtain ⟨cs, hc⟩ := off_ty hst.row hk; exact hty _ _ _ _ hc (by decide) (by decide)) (fun g hg => by
    obtain ⟨p, hp⟩ := List.mem_iff_getElem?.1 hg
    obtain ⟨e, vd, -, -, h3⟩ := RAt.en_at hst hp
    exact hty _ _ _ _ h3.blk (by decide) (by decide))
  have hge : ∀ k, (k = c ∨ vC.ownBlock = some k) → c ≤ k := fun k hk => by
    rcases hk with rfl | hk
    · exact Nat.le_refl _
    · exact hZ.2.1 k hk
  have hv8c : ∀ k, v8.ownBlock = some k → c ≤ k := fun k hk => ((OffRow.of_own how).lt k hk).1
  refine ⟨b8.at 2 rfl, b8.free 2, b8.lt, Lib.hid ⟨h.addS hff (Blk.cast (b8.setCell 2 v8) rfl) (own_fr (own_base how h.lo) hf9 hv8) hst9 f1 f2 f3 f4, ⟨Nat.le_refl _, hv8c, fun z hz => ?_⟩, hff0.toBelow (Nat.le_trans (Nat.le_of_lt hcw) hB.size) hge, ?_⟩⟩
  · rcases List.mem_append.1 hz with h | h
    · exact hZ.2.2 z h
    · rw [List.mem_singleton] at h
      subst h
      exact ⟨by omega, fun k hk => by have := f3 k hk; omega, fun g hg => by have := f2 g hg; omega⟩
  · refine (KeepsOthers.alloc _ _).trans ((KeepsOthers.of_grownBy hg (fun j o hj ho => ?_)).trans (KeepsOthers.setCell _ _ _))
    obtain ⟨cs, hc⟩ := own_ty h3.row hj
    rw [hc] at ho
    cases ho
    rfl
/-- what Clone gives -/
def CQ (B : Nat) (r : RS) (w : World) (e : Ending) (w' : World) : Prop :=
  ∃ c vC YC, e = .returned (.pointer (some ⟨c, 0, none⟩)) ∧ RAt w' B c r vC YC ∧ GeZ w.heap.size c vC YC ∧ Below w.heap.size w w'
set_option maxRecDepth 100000 in
set_option maxHeartbeats 2000000 in
theorem clone_in {w : World} {B b : Nat} {r : RS} {vS : Value} {Y : List SM} (h : RAt w B b r vS Y) (ok : r.Ok) (F : Fence) (n : Nat) (h21 : F.fn 21) (h27 : F.fn 27) (h35 : F.fn 35) (hro : F.round = none) (hn : 3 ≤ n) : CallsIn F n Try.prog 21 #[.pointer (some ⟨b, 0, none⟩)] w (CQ B r w) := by
  have h1 : 1 ≤ n := by omega
  have OK := Lib.hid ok
  obtain ⟨hml, aS, cS, hvS, hcS, hmS, hV, -⟩ := VAt.of_row h.row
  have H := Lib.hid h
  have c0 := h.blk.at 0 rfl
  have c1 := h.blk.at 1 rfl
  have c2 := h.blk.at 2 rfl
  have cl := h.blk.lt
  have HV := Lib.hid hV
  clear h ok hV
  refine callsIn_of_wp_marks Try.func21 rfl h21 ?_ hro
  simp only [Try.ntmps21, List.size_toArray, List.length_cons, List.length_nil, Nat.reduceAdd, Nat.reduceSub, Array.replicate_succ, Array.replicate_zero, List.push_toArray, List.append_toArray, List.nil_append, List.cons_append]
  gi_upto_region 4 with fail
  obtain ⟨c, hc⟩ : ∃ c, c = w.heap.size := ⟨_, rfl⟩
  obtain ⟨nw, hnw⟩ : ∃ nw, nw = r.now := ⟨_, rfl⟩
  obtain ⟨m, hm⟩ : ∃ m, m = Y.length := ⟨_, rfl⟩
  rw [← hnw] at c1
  rw [← hml, ← hm] at hvS hcS
  rw [hvS] at c2
  obtain ⟨w1, hw1⟩ : ∃ w1, w1 = w.alloc (.cells #[.bool true, .int .i64 nw, .slice none 0 0] 60) := ⟨_, rfl⟩
  have hB1 : Below w.heap.size w w1 := by rw [hw1]; exact al (Below.refl _ _) _
  have hk1 : Blk w1 c TR [.bool true, .int .i64 nw, .slice none 0 0] := by rw [hw1, hc]; exact Blk.new w 60 _
  have HBc : Hid (B ≤ c) := Lib.hid (by rw [hc]; exact H.out.hi)
  have HE1 : Hid (RAt w1 B c ⟨r.now, []⟩ (.slice none 0 0) []) := Lib.hid ⟨by rw [← hnw]; exact hk1, World.ownsRow_nil _ _ _ _, rfl, fun i s hi => by simp at hi, fun i j y z hy => by simp at hy, fun i j y z p q g hy => by simp at hy, fun i j y z k hy => by simp at hy, HBc.out⟩
  have HB1 := Lib.hid hB1
  have HNW := Lib.hid hnw
  have HC := Lib.hid hc
  have HM := Lib.hid hm
  have HVS := Lib.hid hvS
  have HBN : Hid (c ≤ w1.heap.size) := Lib.hid (by rw [hc]; exact hB1.size)
  have c02 := (hB1.cell (p := ⟨b, 2, none⟩) cl).trans c2
  have cl2 : b < w1.heap.size := Nat.lt_of_lt_of_le cl hB1.size
  rw [← hc, ← hnw, ← hw1]
  clear hw1 hc hnw hm hvS hB1 hk1 hml
  gi_wp2
  refine wpIn_loop_ghost_k (fun gk a W => ∃ (k N : Nat) (ds : List Deferred) (vC : Value) (YC : List SM) (u5 u6 u30 u31 u32 u33 u34 u35 u36 u37 u38 u48 u49 u50 u51 u52 u53 u54 u55 u56 u57 : Value), a = { tmps := #[.pointer (some ⟨b, 0, none⟩), undef, .pointer none, .pointer (some ⟨c, 0, none⟩), undef, u5, u6, undef, undef, .pointer (some ⟨b, 0, none⟩), .bool false, .bool false, .pointer (some ⟨b, 0, none⟩), .pointer (some ⟨b, 0, none⟩), .pointer (some ⟨b, 0, none⟩), .bool true, .bool false, .bool false, .pointer (some ⟨b, 0, none⟩), .pointer (some ⟨b, 0, none⟩), .pointer (some ⟨b, 1, none⟩), .int .i64 nw, .agg #[.bool true, .int .i64 nw, .slice none 0 0], .pointer (some ⟨c, 0, none⟩), .pointer (some ⟨b, 0, none⟩), .pointer (some ⟨b, 0, none⟩), .pointer (some ⟨b, 2, none⟩), .slice aS m cS, .int .i64 (m : Int), .int .i64 (k : Int), u30, u31, u32, u33, u34, u35, u36, u37, u38, undef, undef, undef, undef, undef, undef, undef, undef, undef, u48, u49, u50, u51, u52, u53, u54, u55, u56, u57, undef], defers := ds } ∧ k ≤ m ∧ m - k < gk ∧ Hid (RAt W B c ⟨r.now, r.stores.take k⟩ vC YC) ∧ Hid (GeZ c c vC YC) ∧ Hid (Below w.heap.size w W) ∧ Hid (Marks c W.heap.size W ds)) (m + 1) ?_ ?_
  · exact ⟨0, 0, [], _, [], _, _, _, _, _, _, _, _, _, _, _, _, _, _, _, _, _, _, _, _, _, rfl, Nat.zero_le _, by omega, HE1, Lib.hid ⟨Nat.le_refl _, fun k hk => by simp [Value.ownBlock] at hk, fun y hy => by simp at hy⟩, HB1, Lib.hid (Marks.nil _ _ _)⟩
  · rintro gk _ wr ⟨k, N, ds, vC, YC, u5, u6, u30, u31, u32, u33, u34, u35, u36, u37, u38, u48, u49, u50, u51, u52, u53, u54, u55, u56, u57, rfl, hk, hgk, HR, HG, HB, HMK⟩ _ _ hJ1 hJ2
    by_cases hlt : k < m
    · have hkY : k < Y.length := by rw [← HM.out]; exact hlt
      obtain ⟨y, hy⟩ : ∃ y, Y[k]? = some y := ⟨_, List.getElem?_eq_getElem hkY⟩
      obtain ⟨s, hs, hst⟩ := H.out.at hy
      obtain ⟨bS, oS, rfl, hbS, hcell⟩ := HV.out.get (i := k) (by simpa using hkY)
      have hyy : Y[k] = y := (List.getElem?_eq_some_iff.1 hy).2
      have c3 : wr.cell? ⟨bS, oS + k, none⟩ = some (.pointer (some ⟨y.s, 0, none⟩)) := (HB.out.cell (p := ⟨bS, _, none⟩) hbS).trans (by rw [hcell]; simp [hyy]; rfl)
      have e1 : (k : Int) < (m : Int) := by omega
      have HY := Lib.hid hy
      have HS := Lib.hid hs
      have HST := Lib.hid (hst.below HB.out (Nat.le_refl _))
      have hst2 := HST.out
      obtain ⟨ys, hys⟩ : ∃ x, x = y.s := ⟨_, rfl⟩
      obtain ⟨i1, hi1⟩ : ∃ x, x = s.id := ⟨_, rfl⟩
      obtain ⟨i2, hi2⟩ : ∃ x, x = s.room := ⟨_, rfl⟩
      obtain ⟨i3, hi3⟩ : ∃ x, x = s.prio := ⟨_, rfl⟩
      obtain ⟨i4, hi4⟩ : ∃ x, x = s.circ := ⟨_, rfl⟩
      obtain ⟨a5, m5, c5, hi5⟩ : ∃ a m c, Value.slice a m c = y.vE := by obtain ⟨aE, cE, hvE, -⟩ := HST.out.row.vat; exact ⟨_, _, _, hvE.symm⟩
      obtain ⟨i6, hi6⟩ : ∃ x, x = (lvl s.L : Int) := ⟨_, rfl⟩
      obtain ⟨i7, hi7⟩ : ∃ x, x = (s.drop : Int) := ⟨_, rfl⟩
      have hblk := hst2.blk
      rw [← hys, ← hi1, ← hi2, ← hi3, ← hi4, ← hi5, ← hi6, ← hi7] at hblk
      have d0 := hblk.at 0 rfl
      have d1 := hblk.at 1 rfl
      have d2 := hblk.at 2 rfl
      have d3 := hblk.at 3 rfl
      have d4 := hblk.at 4 rfl
      have d5 := hblk.at 5 rfl
      have d6 := hblk.at 6 rfl
      have dl := hblk.lt
      have HBLK := Lib.hid hblk
      rw [← hys] at c3
      have HYS := Lib.hid hys
      have HI : Hid (i1 = s.id ∧ i2 = s.room ∧ i3 = s.prio ∧ i4 = s.circ ∧ Value.slice a5 m5 c5 = y.vE ∧ i6 = (lvl s.L : Int) ∧ i7 = (s.drop : Int)) := Lib.hid ⟨hi1, hi2, hi3, hi4, hi5, hi6, hi7⟩
      clear hy hs hst hcell hyy hst2 hblk hys hi1 hi2 hi3 hi4 hi5 hi6 hi7
      gi_upto_region 9 with fail
      obtain ⟨xs, hxs⟩ : ∃ x, x = wr.heap.size := ⟨_, rfl⟩
      obtain ⟨w2, hw2⟩ : ∃ x, x = wr.alloc (.cells #[.int .i64 i1, .int .i64 i2, .int .i64 i3, .bool i4, .slice none 0 0, .int .i64 i6, .int .i64 i7] 65) := ⟨_, rfl⟩
      have hB2 : Below wr.heap.size wr w2 := by rw [hw2]; exact al (Below.refl _ _) _
      have HX2 : Hid (Blk w2 xs TS [.int .i64 s.id, .int .i64 s.room, .int .i64 s.prio, .bool s.circ, .slice none 0 0, .int .i64 (lvl s.L : Int), .int .i64 (s.drop : Int)]) := Lib.hid (by
        rw [← HI.out.1, ← HI.out.2.1, ← HI.out.2.2.1, ← HI.out.2.2.2.1, ← HI.out.2.2.2.2.2.1, ← HI.out.2.2.2.2.2.2, hw2, hxs]
        exact Blk.new wr 65 _)
      have HXS := Lib.hid hxs
      have HB2 := Lib.hid hB2
      rw [← hw2, ← hxs]
      clear hw2 hxs hB2 d0 d1 d2 d3 d4 d5 d6 dl c3
      gi_wp2_with (gi_at_call 27; refine (all_in F (n - 1) h27 hro _ _).mono ?_; rintro e w' ⟨rfl, rfl⟩)
      obtain ⟨bs, hbs⟩ : ∃ bs, bs = w2.heap.size := ⟨_, rfl⟩
      obtain ⟨w3, hw3⟩ : ∃ w3, w3 = w2.alloc (.cells #[.pointer (some ⟨ys, 0, none⟩)] 62) := ⟨_, rfl⟩
      have hB3 : Below w2.heap.size w2 w3 := by rw [hw3]; exact al (Below.refl _ _) _
      have HK3 : Hid (w3.cell? ⟨bs, 0, none⟩ = some (ptr y.s)) := Lib.hid (by rw [hw3, hbs, HYS.out]; exact (Blk.new w2 62 [ptr y.s]).at 0 rfl)
      have HB23 : Hid (Below wr.heap.size wr w3) := Lib.hid (HB2.out.trans (hB3.mono HB2.out.size))
      have HX3 := Lib.hid (HX2.out.below hB3 (Nat.le_refl _))
      have HST3 := Lib.hid (HST.out.below HB23.out (Nat.le_refl _))
      have HX3l : Hid (xs < w3.heap.size) := Lib.hid HX3.out.lt
      have HMK3 : Hid (Marks c w3.heap.size w3 ds) := Lib.hid ((HMK.out.below HB23.out).mono HB23.out.size)
      have HBW3 : Hid (B ≤ w3.heap.size) := Lib.hid (by have := HBc.out; have := HBN.out; have := HB.out.size; have := HB23.out.size; have := HR.out.blk.lt; omega)
      have HROW : Hid (∀ k, y.vE.ownBlock = some k → ¬ (k = xs ∨ w3.heap.size ≤ k)) := Lib.hid (fun k hk e => by
        have h8 := (HST.out.row.lt k hk).2
        have h9 := HB23.out.size
        have h7 := HXS.out
        omega)
      rw [← hw3, ← hbs]
      clear hbs hw3 hB3
      refine wpIn_rangeFunc_ownF hro h1 (gf := 35) (lb := #[.pointer (some ⟨bs, 0, none⟩)]) rfl h35 (enters_of Try.func35 (by kernel_rfl) rfl)
        (all_stops F (n - 1) h35 hro (by omega) bs (fun k => k = xs ∨ w3.heap.size ≤ k) w3 HST3.out HK3.out HROW.out) (fun h k => h.trans k) (frK_b (fun k hk => .inr hk)) (Below.refl _ _) (fun _ => rfl)
        (fun pre W => (∃ gs' vE', CI B xs w3 s y pre W gs' vE') ∧ Marks c w3.heap.size W ds)
        (fun _ _ _ => False)
        ?hI ?hIx ?h0
        (fun x => { tmps := #[.pointer (some ⟨b, 0, none⟩), undef, .pointer none, .pointer (some ⟨c, 0, none⟩), undef, .pointer (some ⟨ys, 0, none⟩), .pointer (some ⟨xs, 0, none⟩), ptr y.gs[x], undef, .pointer (some ⟨b, 0, none⟩), .bool false, .bool false, .pointer (some ⟨b, 0, none⟩), .pointer (some ⟨b, 0, none⟩), .pointer (some ⟨b, 0, none⟩), .bool true, .bool false, .bool false, .pointer (some ⟨b, 0, none⟩), .pointer (some ⟨b, 0, none⟩), .pointer (some ⟨b, 1, none⟩), .int .i64 nw, .agg #[.bool true, .int .i64 nw, .slice none 0 0], .pointer (some ⟨c, 0, none⟩), .pointer (some ⟨b, 0, none⟩), .pointer (some ⟨b, 0, none⟩), .pointer (some ⟨b, 2, none⟩), .slice (some ⟨bS, oS, none⟩) m cS, .int .i64 (m : Int), .int .i64 (k : Int), .bool true, .pointer (some ⟨bS, oS + k, none⟩), .pointer (some ⟨ys, 0, none⟩), .pointer (some ⟨ys, 0, none⟩), .pointer (some ⟨ys, 0, none⟩), .agg #[.int .i64 i1, .int .i64 i2, .int .i64 i3, .bool i4, .slice a5 m5 c5, .int .i64 i6, .int .i64 i7], .pointer (some ⟨xs, 4, none⟩), .pointer (some ⟨ys, 0, none⟩), .func (.func 35) #[] #[.pointer (some ⟨bs, 0, none⟩)], ptr y.gs[x], undef, undef, undef, undef, undef, undef, undef, undef, u48, u49, u50, u51, u52, u53, u54, u55, u56, u57, undef], defers := [] }) ?assign ?body ?done ?stop
      case hI =>
        intro pre A A' row hs hg hr
        obtain ⟨⟨gs', vE', hs1⟩, hs2⟩ := hs
        exact ⟨⟨gs', vE', hs1.turn hg hr⟩, Marks.own (α := Fin y.gs.length) pre A A' row hs2 hg hr⟩
      case hIx => exact fun c s' A A' row hs _ _ => hs
      case h0 => exact ⟨⟨[], .slice none 0 0, rfl, HX3.out, World.ownsRow_nil _ _ _ _, fun g hg => by simp at hg, fun p q g hp => by simp at hp, fun p x hp => by simp at hp, Fr.refl _ _⟩, HMK3.out⟩
      case assign =>
        intro l x W K hK
        gi_wp2
        exact hK
      case body =>
        rintro l pre x W ⟨⟨gs', vE', hci⟩, hmk⟩ hpl
        have g1 := HST.out.blk.lt
        have g2 := HXS.out
        have g3 := HB23.out.size
        have HST4 : Hid (StAt W B s y) := Lib.hid (HST3.out.fr hci.2.2.2.2.2.2 (fun k cs hk hc => by
          rcases hk with rfl | hk
          · exact absurd (HX3.out.kind hc) (by decide)
          · have := (Array.getElem?_eq_some_iff.1 hc).1; omega) (by omega) HROW.out (fun g hg => by have := (HST.out.glt g hg).2; omega))
        obtain ⟨e, vd, he, hv, hen⟩ := RAt.en_at HST4.out (p := x.val) (g := y.gs[x]) (by simp)
        obtain ⟨a6, m6, c6, rfl⟩ := own_slice hen.dat
        obtain ⟨a7, m7, c7, rfl⟩ := own_slice hci.2.2.1
        have ce0 := hen.blk.at 0 rfl
        have ce1 := hen.blk.at 1 rfl
        have ce2 := hen.blk.at 2 rfl
        have cle := hen.blk.lt
        have x4 := hci.2.1.at 4 rfl
        have xl := hci.2.1.lt
        have HCI := Lib.hid hci
        have HMW := Lib.hid hmk
        have HE := Lib.hid he
        have HV9 := Lib.hid hv
        have HEN := Lib.hid hen
        obtain ⟨g, hg⟩ : ∃ g, g = y.gs[x] := ⟨_, rfl⟩
        have HGG := Lib.hid hg
        have hpx : ptr y.gs[x] = .pointer (some ⟨g, 0, none⟩) := by rw [hg]; rfl
        rw [← hg] at ce0 ce1 ce2 cle
        obtain ⟨wn, hwn⟩ : ∃ wn, wn = e.want := ⟨_, rfl⟩
        obtain ⟨tm, htm⟩ : ∃ tm, tm = e.time := ⟨_, rfl⟩
        rw [← hwn] at ce2
        rw [← htm] at ce0
        have HTM := Lib.hid htm
        have HWN := Lib.hid hwn
        have HLE : Hid (gs'.length ≤ 2147483648) := Lib.hid (by
          have q1 := len_room (OK.out.each s (List.mem_of_getElem? HS.out))
          have q2 := HST.out.gl
          have q3 := hci.1
          omega)
        have HBW : Hid (B ≤ W.heap.size) := Lib.hid (by have := HBW3.out; have := HCI.out.2.2.2.2.2.2.size; omega)
        rw [hpx]
        obtain ⟨j1, hj1, hz0, hz1, hz2⟩ := info_parts info68
        have HJ1 := Lib.hid hj1
        clear hci hmk he hv hen hg hpx hwn htm hj1 g1 g2 g3
        gi_wp2_with (gi_at_builtin; refine wpListIn_append_own _ rfl (.tmp 44) (.tmp 45) 63 rfl w3.heap.size 68 j1 (.pointer none) 1 8 Try.underlying63 HJ1.out hz0 hz1 hz2 rfl (by decide) _ gs'.length (gs'.map ptr) rfl (own_below HCI.out.2.2.1 (al (al (Below.refl _ _) _) _) (Nat.le_refl _)) ⟨W.heap.size + 1, 0, none⟩ 1 1 [ptr W.heap.size] rfl rfl (fun j u hj => by have h9 := one_new (W.alloc (.cells #[.int .i64 tm, .slice a6 m6 c6, .bool wn] 71)) (ptr W.heap.size) 68 j u hj; rw [World.size_alloc] at h9; exact h9) (one_cell rfl) (by have h9 := HLE.out; unfold maxLen; omega) (by have h9 := HLE.out; omega) (Nat.le_trans HCI.out.2.2.2.2.2.2.size (al (al (Below.refl W.heap.size W) _) _).size) ?_; intro v8 w8 hown8 hgrow8 hblk8; obtain ⟨a8, n8, c8, rfl⟩ := own_slice hown8; obtain ⟨k4, f4, cl4, HST9⟩ := CI.step HCI.out HBW.out HX3l.out HE.out HV9.out HEN.out hown8 (by rw [← HTM.out, ← HWN.out]; exact hgrow8); clear hown8 hgrow8 hblk8)
        exact ⟨HST9.out.1, HST9.out.2.1, ⟨_, _, HST9.out.2.2⟩, HMW.out.keep HST9.out.1⟩
      case done =>
        rintro D ys2 W hD rfl ⟨⟨gs', vE', hci⟩, hmk⟩ hK
        have g1 := HST.out.blk.lt
        have g2 := HXS.out
        have g3 := HB23.out.size
        have g4 := HR.out.blk.lt
        have HMD : Hid (Marks c W.heap.size W ({ target := .collected D, args := #[] } :: ds)) := Lib.hid (hmk.cons (by omega) hD hK)
        have HGL : Hid (gs'.length = s.L.length) := Lib.hid (by rw [hci.1, List.length_finRange]; exact HST.out.gl)
        have HST9 : Hid (StAt W B s ⟨xs, vE', gs', y.vds⟩) := Lib.hid ⟨hci.2.1, OffRow.of_own (own_base hci.2.2.1 HBW3.out), HGL.out, HST.out.dl, fun j e he => by
          have hj : j < y.gs.length := by rw [HST.out.gl]; exact (List.getElem?_eq_some_iff.1 he).1
          obtain ⟨g, e', vd, q1, q2, q3, q4⟩ := hci.2.2.2.2.2.1 j ⟨j, hj⟩ (by rw [List.getElem?_eq_getElem (by simpa using hj)]; simp)
          rw [he] at q2
          cases q2
          exact ⟨g, vd, q1, q3, q4⟩, by have := HBc.out; show B ≤ xs; omega⟩
        have HBW : Hid (Below wr.heap.size wr W) := Lib.hid (HB23.out.trans (hci.2.2.2.2.2.2.toBelow g3 (fun k hk => by omega)))
        obtain ⟨aC, mC, cC, rfl⟩ := own_slice HR.out.row
        have HRW := Lib.hid (HR.out.below HBW.out (Nat.le_refl _))
        have k2 := HRW.out.blk.at 2 rfl
        have kl := HRW.out.blk.lt
        have HYL : Hid (YC.length ≤ 1000) := Lib.hid (by have h9 := HR.out.yl; have := OK.out.few; rw [h9, List.length_take]; omega)
        have HF2 : Hid (∀ g ∈ gs', wr.heap.size ≤ g) := Lib.hid (fun g hg => Nat.le_trans g3 (hci.2.2.2.1 g hg).1)
        have HF3 : Hid (∀ k, vE'.ownBlock = some k → wr.heap.size ≤ k) := Lib.hid (fun k hk => Nat.le_trans g3 ((OffRow.of_own hci.2.2.1).lt k hk).1)
        have HF4 := Lib.hid hci.2.2.2.2.1
        have HCW : Hid (c ≤ W.heap.size) := Lib.hid (Nat.le_of_lt kl)
        obtain ⟨j1, hj1, hz0, hz1, hz2⟩ := info_parts info62
        have HJ1 := Lib.hid hj1
        clear hci hmk hj1 hK g1 g2 g3 g4
        gi_wp2_with (gi_at_builtin; refine wpListIn_append_own _ rfl (.tmp 52) (.tmp 53) 58 rfl c 62 j1 (.pointer none) 1 8 Try.underlying58 HJ1.out hz0 hz1 hz2 rfl (by decide) _ YC.length (YC.map fun z => ptr z.s) rfl (own_lift (own_below HRW.out.row (al (Below.refl _ _) _) (Nat.le_refl _)) HG.out.2.1) ⟨W.heap.size, 0, none⟩ 1 1 [ptr xs] rfl rfl (one_new W _ 62) (one_cell rfl) (by have h9 := HYL.out; unfold maxLen; omega) (by have h9 := HYL.out; omega) (Nat.le_trans HCW.out (al (Below.refl W.heap.size W) _).size) ?_; intro v8 w8 hown8 hgrow8 hblk8; obtain ⟨a8, n8, c8, rfl⟩ := own_slice hown8; obtain ⟨k4, f4, cl4, HP9⟩ := clone_put HR.out HG.out HBW.out HST9.out (by rw [HXS.out]; exact Nat.le_refl _) HF2.out HF3.out HF4.out hown8 hgrow8; clear hown8 hgrow8 hblk8)
        have hk9 : k < 1000 := by have := HM.out; have := H.out.yl; have := OK.out.few; omega
        have hwk : Value.int IntKind.i64 (wrap64 ((k : Int) + 1)) = .int .i64 ((k + 1 : Nat) : Int) := by
          have h9 : wrap64 ((k : Int) + 1) = ((k + 1 : Nat) : Int) := by
            unfold wrap64
            omega
          rw [h9]
        rw [hwk]
        refine Handed.intro (gk - 1) (by omega) (hJ1 _ _ _ ⟨k + 1, 0, _, _, _, _, _, _, _, _, _, _, _, _, _, _, _, _, _, _, _, _, _, _, _, _, rfl, by omega, by omega, Lib.hid ?_, Lib.hid HP9.out.2.1, Lib.hid ?_, Lib.hid ((HMD.out.keep HP9.out.2.2.2).mono HP9.out.2.2.2.size)⟩)
        · have h9 := HP9.out.1
          obtain ⟨hlt9, he9⟩ := List.getElem?_eq_some_iff.1 HS.out
          rw [List.take_succ_eq_append_getElem hlt9, he9]
          exact h9
        · have h9 := HP9.out.2.2.1.mono (Nat.le_of_eq HC.out.symm)
          exact (HB.out.trans (HBW.out.mono HB.out.size)).trans h9
      case stop =>
        rintro D c pre W _ _ h _
        exact h.elim
    · have e1 : ¬ (k : Int) < (m : Int) := by omega
      have HTK : Hid (r.stores.take k = r.stores) := Lib.hid (List.take_of_length_le (by rw [← H.out.yl, ← HM.out]; omega))
      gi_wp2
      refine leaves_marks (B := c) (N := wr.heap.size) (fun W => RAt W B c r vC YC ∧ Below w.heap.size w W) ?_ ?_ _ _ HMK.out ⟨by have h9 := HR.out; rw [HTK.out] at h9; exact h9, HB.out⟩
      · rintro W D ⟨j1, j2⟩ hD hK
        exact ⟨j1.turn (grownBy_putObj' W D _) (fun k e => by cases e; exact ⟨_, hK, rfl⟩), j2.trans (belowK_b (w := w) (n₀ := w.heap.size) (Nat.le_refl _) _ D _ _ (by rw [← HC.out]; exact hD) hK rfl rfl)⟩
      · rintro W ⟨j1, j2⟩
        exact ⟨_, by simp [results, Try.f21, go_sem], c, vC, YC, rfl, j1, by have h9 := HG.out; rw [HC.out] at h9 ⊢; exact h9, j2⟩
theorem clone_any {w : World} {B b : Nat} {r : RS} {vS : Value} {Y : List SM} (h : RAt w B b r vS Y) (ok : r.Ok) : Calls Try.prog 21 #[.pointer (some ⟨b, 0, none⟩)] w (CQ B r w) :=
  callsIn_wide.1 (clone_in h ok Fence.wide 3 trivial trivial trivial rfl (by omega))
end Go.Proofs.Ytnojmkmmfiahgaa

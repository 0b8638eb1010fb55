import Derived.Test.YtgfloeclepmdlaaQ
import Derived.Laws.IdiomArrays
namespace Go.Proofs.Ytgfloeclepmdlaa
open Go.RowKit Go.Deep Go.ChangeShapes Go.WideShapes Go.ChangeAt
set_option linter.unusedVariables false
theorem okWide_arr4 {P : Program} {w : World} {t e : TypeId} {r : Reach} {base n : Nat} {v : Value} (ht : P.underlying t = some (.array n e)) (h : Value.okWide P w r base t v) : ∃ cs, v = .agg cs ∧ cs.size = P.cellsOf t := by
  simp only [Value.okWide, ht] at h
  obtain ⟨cs, h1, h2, _⟩ := h
  exact ⟨cs, h1, h2⟩
theorem arg_b4 {H : Type} {enc : TypeId × Value → H} {w : World} {r : Reach} {b0 base : Nat} {v : Value} {d : DataW H} {ps : List MemPlace} (hv : Value.okWide Try.prog w r b0 22 v) (h : DataW.Trod enc Try.prog w base (fun _ => true) true 22 v d ps) :
    ∃ (s0 s1 s2 s3 : Bool) (l : List Bool), l = [s0, s1, s2, s3] ∧ v = .agg #[.bool s0, .bool s1, .bool s2, .bool s3] := by
  obtain ⟨⟨cs⟩, rfl, hsz⟩ := okWide_arr4 Try.underlying22 hv
  obtain ⟨fuel, hf⟩ := h
  have hl : cs.length = 4 := by simpa using hsz.trans (show Try.prog.cellsOf 22 = 4 by kernel_rfl)
  match cs, hl with
  | [c0, c1, c2, c3], _ =>
    obtain ⟨y0, y1, y2, y3, n, -, h0, h1, h2, h3⟩ := trod_array4 Try.underlying22 (by kernel_rfl) (by simpa [Value.cells] using hf)
    obtain ⟨b0, e0⟩ := one_bool Try.underlying4 h0
    obtain ⟨b1, e1⟩ := one_bool Try.underlying4 h1
    obtain ⟨b2, e2⟩ := one_bool Try.underlying4 h2
    obtain ⟨b3, e3⟩ := one_bool Try.underlying4 h3
    obtain rfl : c0 = .bool b0 := (List.cons.inj e0).1
    obtain rfl : c1 = .bool b1 := (List.cons.inj e1).1
    obtain rfl : c2 = .bool b2 := (List.cons.inj e2).1
    obtain rfl : c3 = .bool b3 := (List.cons.inj e3).1
    exact ⟨b0, b1, b2, b3, [b0, b1, b2, b3], rfl, rfl⟩
theorem def_litAt {w : World} {n : Nat} (hn : w.heap.size = n) (ds : List Int) (xs : List Value) (T : TypeId) (hx : ∀ i (h : i < ds.length), xs[i * 2]? = some (.int .i64 ds[i]) ∧ ∃ t : Bool, xs[i * 2 + 1]? = some (.bool t)) : DefAt (w.alloc (.cells xs.toArray T)) (some ⟨n, 0, none⟩) ds := by
  subst hn; exact def_lit w ds xs T hx
def sdI (b : Bool) : Int := if b then 1 else 0
def usK (S F : List Bool) (k : Nat) : List U := (List.range 4).map fun (i : Nat) => ⟨(i : Int), 0, decide (i < k) && F.getD i false && !S.getD i false, decide (i < k) && F.getD i false && S.getD i false⟩
def LK (S : List Bool) (k : Nat) : List Int := (S.take k).map sdI
def BK (F : List Bool) (k : Nat) : List Int := ((List.range k).filter (fun i => F.getD i false)).map (fun (i : Nat) => (i : Int))
theorem usK_zero (S F : List Bool) : usK S F 0 = [0, 1, 2, 3].map fresh := by rfl
theorem usK_step {S F : List Bool} (hS : S.length = 4) (hF : F.length = 4) {k : Nat} (hk : k < 4) (hf : F[k]'(by omega) = true) : failS (usK S F k) k (sdI (S[k]'(by omega))) = (usK S F (k + 1), 0) := by
  match S, hS, F, hF with
  | [s0, s1, s2, s3], _, [f0, f1, f2, f3], _ =>
    match k, hk with
    | 0, _ => obtain rfl : f0 = true := hf; cases s0 <;> rfl
    | 1, _ => obtain rfl : f1 = true := hf; cases s1 <;> rfl
    | 2, _ => obtain rfl : f2 = true := hf; cases s2 <;> rfl
    | 3, _ => obtain rfl : f3 = true := hf; cases s3 <;> rfl
theorem usK_skip {S F : List Bool} (hS : S.length = 4) (hF : F.length = 4) {k : Nat} (hk : k < 4) (hf : F[k]'(by omega) = false) : usK S F (k + 1) = usK S F k := by
  match S, hS, F, hF with
  | [s0, s1, s2, s3], _, [f0, f1, f2, f3], _ =>
    match k, hk with
    | 0, _ => obtain rfl : f0 = false := hf; cases s0 <;> rfl
    | 1, _ => obtain rfl : f1 = false := hf; cases s1 <;> rfl
    | 2, _ => obtain rfl : f2 = false := hf; cases s2 <;> rfl
    | 3, _ => obtain rfl : f3 = false := hf; cases s3 <;> rfl
theorem LK_snoc {S : List Bool} {k : Nat} (hk : k < S.length) : LK S (k + 1) = LK S k ++ [sdI S[k]] := by
  unfold LK
  rw [List.take_succ_eq_append_getElem hk, List.map_append]; rfl
theorem BK_snoc {F : List Bool} {k : Nat} (hk : k < F.length) : BK F (k + 1) = if F[k] = true then BK F k ++ [(k : Int)] else BK F k := by
  unfold BK
  rw [List.range_succ, List.filter_append, List.map_append]
  have e : F.getD k false = F[k] := by simp [hk]
  by_cases h : F[k] = true
  · rw [if_pos h]; simp [hk, h]
  · rw [if_neg h]; simp [hk, h]
theorem BK_le (F : List Bool) (k : Nat) : (BK F k).length ≤ k := by
  unfold BK
  rw [List.length_map]
  exact Nat.le_trans (List.length_filter_le _ _) (by simp)
theorem usR {S F : List Bool} (hS : S.length = 4) (hF : F.length = 4) : ∃ us, restoreS (usK S F 4) (LK S 4) = (us, 0) ∧ sidesS us = LK S 4 ∧ brokenS us = BK F 4 ∧ SideOk us ∧ us.length = 4 := by
  match S, hS, F, hF with
  | [s0, s1, s2, s3], _, [f0, f1, f2, f3], _ =>
    refine ⟨[⟨0, sdI s0, f0 && !s0, f0 && s0⟩, ⟨1, sdI s1, f1 && !s1, f1 && s1⟩, ⟨2, sdI s2, f2 && !s2, f2 && s2⟩, ⟨3, sdI s3, f3 && !s3, f3 && s3⟩], ?_, ?_, ?_, ?_, rfl⟩
    · cases s0 <;> cases s1 <;> cases s2 <;> cases s3 <;> rfl
    · rfl
    · cases s0 <;> cases s1 <;> cases s2 <;> cases s3 <;> cases f0 <;> cases f1 <;> cases f2 <;> cases f3 <;> rfl
    · refine sok ?_
      cases s0 <;> cases s1 <;> cases s2 <;> cases s3 <;> rfl
theorem ok0123 : okD [0, 1, 2, 3] := by
  refine ⟨by decide, fun k hk => ?_⟩
  match k, hk with
  | 0, _ => simp [badK]
  | 1, _ => simp [badK]
  | 2, _ => simp [badK]
  | 3, _ => simp [badK]
/-- what the law holds on its way -/
structure Rs (w : World) (B b g cap : Nat) (S F : List Bool) (us : List U) (lk bk : List Int) (v7 v8 : Value) (wr : World) : Prop where
  u : UAt wr b g cap us
  s : Blk wr w.heap.size 22 (bvs S)
  f : Blk wr (w.heap.size + 1) 22 (bvs F)
  l : wr.ownsRow B 3 1 v7 lk.length (ivs lk)
  r : wr.ownsRow B 3 1 v8 bk.length (ivs bk)
  ne : ∀ p, v7.ownBlock = some p → v8.ownBlock ≠ some p
  bl : Below w.heap.size w wr
  B1 : w.heap.size + 1 < g
  B2 : g < B
  B3 : b < B
  B4 : B ≤ wr.heap.size
theorem own_grown {w w' : World} {base n size : Nat} {T : TypeId} {v v' : Value} {xs : List Value} (h : w.ownsRow base T size v n xs) (hg : w.grownBy w' v'.ownBlock) (hne : ∀ p, v.ownBlock = some p → v'.ownBlock ≠ some p) : w'.ownsRow base T size v n xs :=
  own_same h fun k hk => hg.block k (h.lt k hk).2 (fun e => hne k hk e.symm)
theorem Rs.fail {w wr w' : World} {B b g cap : Nat} {S F : List Bool} {us us' : List U} {lk bk : List Int} {v7 v8 : Value} (h : Rs w B b g cap S F us lk bk v7 v8 wr) (hU : UAt w' b g cap us') (hF : Fr (fun k => k = g) wr w') : Rs w B b g cap S F us' lk bk v7 v8 w' := by
  have h1 := h.B1
  have h2 := h.B2
  have h3 := hF.size
  have h4 := h.B4
  refine ⟨hU, h.s.fr hF (by omega), h.f.fr hF (by omega), own_fr h.l hF (fun k hk e => ?_), own_fr h.r hF (fun k hk e => ?_), h.ne, h.bl.trans (hF.toBelow h.bl.size (fun k hk => by omega)), h1, h2, h.B3, by omega⟩
  · have := (h.l.lt k hk).1; omega
  · have := (h.r.lt k hk).1; omega
theorem Rs.grow {w wr w' : World} {B b g cap : Nat} {S F : List Bool} {us : List U} {lk bk : List Int} {v7 v8 v : Value} {o : Obj} (h : Rs w B b g cap S F us lk bk v7 v8 wr) (hg : (wr.alloc o).grownBy w' v.ownBlock) (hv : ∀ k, v.ownBlock = some k → B ≤ k) :
    UAt w' b g cap us ∧ Blk w' w.heap.size 22 (bvs S) ∧ Blk w' (w.heap.size + 1) 22 (bvs F) ∧ Below w.heap.size w w' ∧ B ≤ w'.heap.size := by
  have h1 := h.B1
  have h2 := h.B2
  have h3 := h.B3
  have h4 := h.B4
  have hF : Fr (fun k => B ≤ k) wr w' := ((Fr.refl _ wr).alloc o).grown hg (fun k hk => .inl (hv k hk))
  have h5 := hF.size
  exact ⟨h.u.fr hF (by omega) (by omega), h.s.fr hF (by omega), h.f.fr hF (by omega), h.bl.trans (hF.toBelow h.bl.size (fun k hk => by omega)), by omega⟩
theorem Rs.app8 {w wr w' : World} {B b g cap g8 c8 : Nat} {S F : List Bool} {us : List U} {lk bk : List Int} {z : Int} {v7 v8 : Value} {o : Obj} (h : Rs w B b g cap S F us lk bk v7 v8 wr)
    (hown : w'.ownsRow B 3 1 (.slice (some ⟨g8, 0, none⟩) (bk.length + 1) c8) (bk.length + 1) (ivs bk ++ [.int .i64 z])) (hg : (wr.alloc o).grownBy w' v8.ownBlock) (hw : v8.ownBlock = some g8 ∨ g8 = wr.heap.size + 1) :
    Rs w B b g cap S F us lk (bk ++ [z]) v7 (.slice (some ⟨g8, 0, none⟩) (bk.length + 1) c8) w' := by
  obtain ⟨k1, k2, k3, k4, k5⟩ := h.grow hg (fun k hk => (h.r.lt k hk).1)
  refine ⟨k1, k2, k3, own_grown (h.l.alloc o) hg h.ne, by rw [ivs_snoc, List.length_append]; exact hown, fun p hp e => ?_, k4, h.B1, h.B2, h.B3, k5⟩
  simp only [Value.ownBlock, Option.some.injEq] at e
  subst e
  rcases hw with hw | hw
  · exact h.ne _ hp hw
  · have := (h.l.lt _ hp).2; omega
theorem Rs.app7 {w wr w' : World} {B b g cap g7 c7 : Nat} {S F : List Bool} {us : List U} {lk bk : List Int} {z : Int} {v7 v8 : Value} {o : Obj} (h : Rs w B b g cap S F us lk bk v7 v8 wr)
    (hown : w'.ownsRow B 3 1 (.slice (some ⟨g7, 0, none⟩) (lk.length + 1) c7) (lk.length + 1) (ivs lk ++ [.int .i64 z])) (hg : (wr.alloc o).grownBy w' v7.ownBlock) (hw : v7.ownBlock = some g7 ∨ g7 = wr.heap.size + 1) :
    Rs w B b g cap S F us (lk ++ [z]) bk (.slice (some ⟨g7, 0, none⟩) (lk.length + 1) c7) v8 w' := by
  obtain ⟨k1, k2, k3, k4, k5⟩ := h.grow hg (fun k hk => (h.l.lt k hk).1)
  refine ⟨k1, k2, k3, by rw [ivs_snoc, List.length_append]; exact hown, own_grown (h.r.alloc o) hg (fun p hp e => h.ne p e hp), fun p hp e => ?_, k4, h.B1, h.B2, h.B3, k5⟩
  simp only [Value.ownBlock, Option.some.injEq] at hp
  subst hp
  rcases hw with hw | hw
  · exact h.ne _ hw e
  · have := (h.r.lt _ e).2; omega
theorem own_list {w : World} {B : Nat} {v : Value} {l : List Int} (h1 : w.ownsRow B 3 1 v l.length (ivs l)) : ∃ a c, v = .slice a l.length c ∧ l.length ≤ c ∧ VAt w a (ivs l) ∧ ∀ p, a = some p → B ≤ p.block := by
  rcases h1.2 with ⟨h3, h4⟩ | ⟨g, cap, cur, h3, h4, h5, h6, h7, h8, h9⟩
  · exact ⟨none, 0, by rw [h3, h4], by omega, .inl (by rw [List.length_eq_zero_iff.1 h4]; rfl), (fun p hp => by cases hp)⟩
  · refine ⟨some ⟨g, 0, none⟩, cap, by rw [h3], h6, .inr ⟨g, 0, rfl, lt_of_block h5, fun i hi => ?_⟩, (fun p hp => by cases hp; exact h4)⟩
    rw [Nat.zero_add, ← List.getElem?_eq_getElem hi, ← h9]
    have hb : Blk w g 3 cur.toList := by unfold Blk; rw [h5]
    rw [hb.cell, List.getElem?_take, if_pos (by have : (ivs l).length = l.length := by simp [ivs]
                                                omega)]
theorem VAt.take {w : World} {a : Option Addr} {l : List Int} (h : VAt w a (ivs l)) (n : Nat) : VAt w a (ivs (l.take n)) := by
  by_cases hn : l.take n = []
  · exact .inl (by rw [hn]; rfl)
  · rcases h with h | ⟨b, off, h1, h2, h3⟩
    · have : l = [] := by simpa [ivs] using h
      subst this; simp at hn
    · refine .inr ⟨b, off, h1, h2, fun i hi => ?_⟩
      have hi' : i < min n l.length := by simpa [ivs] using hi
      have hi2 : i < l.length := by omega
      have := h3 i (by simpa [ivs] using hi2)
      rw [this]
      simp [ivs]
end Go.Proofs.Ytgfloeclepmdlaa

/- Feed of a Finder. No condition. -/
import Derived.Test.YtjeigdopcdeaeaaE
import Derived.Deep.LoopGhost
import Derived.WalkMore
import Derived.BigRegion
import Derived.Deep.RegionLaw
import Derived.StillTailTactics
namespace Go.Proofs.Ytjeigdopcdeaeaa
open Go.RowKit Go.Deep Go.ChangeShapes Go.WideShapes Go.ChangeAt Scr
set_option linter.unusedVariables false

theorem fc_plain {size sk : Nat} {a : Option Addr} {n c : Nat} : ∀ v ∈ fcells size sk (.slice a n c), ∀ m, v ≠ .int .u8 m := by
  intro v hv m
  simp only [fcells, List.mem_cons, List.not_mem_nil, or_false] at hv
  rcases hv with rfl | rfl | rfl <;> simp
theorem info22 : (Try.prog.info? 22).map (fun i => (i.zero, i.size, i.bytes)) = some (some (.slice none 0 0), 1, 24) := by kernel_rfl
/-- what lies in no block of these is new and is no row that grows -/
def SO (w : World) (vo : Value) (k : Nat) : Prop := k < w.heap.size ∨ vo.ownBlock = some k
/-- what holds at the head of a round -/
def FRel (w : World) (b : Nat) (v0 : Value) (size : Nat) (ALL : List UInt8) (sk0 : Nat) (gk : Nat) (vo : Value) (wr : World) : Prop :=
  ∃ (rest : List UInt8) (a : Option Addr) (cap sk : Nat) (fs : List (List UInt8)) (vs : List Value),
    (Blk wr b 41 (fcells size sk (.slice a rest.length cap)) ∧ rest.length ≤ cap ∧ cap ≤ maxLen ∧ ((a = none ∧ cap = 0) ∨ ∃ g off, a = some ⟨g, off, none⟩) ∧ BAt wr a rest) ∧
    (wr.ownsRow w.heap.size 22 1 vo fs.length vs ∧ Sls wr (SO w vo) vs fs ∧ Fr (FOwn b v0) w wr) ∧
    ((feed size ALL).1 = fs ++ (feed size rest).1 ∧ sk0 + (feed size ALL).2.1 = sk + (feed size rest).2.1 ∧ (feed size ALL).2.2 = (feed size rest).2.2) ∧
    (rest.length < gk ∧ rest.length ≤ 100000 ∧ sk + rest.length ≤ 1000000000 ∧ fs.length + rest.length ≤ 100000)
/-- what a call of Feed leaves -/
def FQ (w : World) (b : Nat) (v0 : Value) (size sk0 : Nat) (r : List (List UInt8) × Nat × List UInt8) (e : Ending) (w' : World) : Prop :=
  ∃ vo v', e = .returned vo ∧ FinAt w' b size (sk0 + r.2.1) v' r.2.2 ∧ SAt w' (fun k => k < w.heap.size ∨ v'.ownBlock = some k) vo r.1 ∧ Fr (FOwn b v0) w w' ∧ (∀ k, v'.ownBlock = some k → w.heap.size ≤ k)

theorem pre13 {w wr w2 : World} {b : Nat} {v0 vo : Value} {fs : List (List UInt8)} {vs : List Value} (hbl : b < w.heap.size) (how : wr.ownsRow w.heap.size 22 1 vo fs.length vs) (hsl : Sls wr (SO w vo) vs fs) (hfr : Fr (FOwn b v0) w wr) (hB2 : Below wr.heap.size wr w2) (i : Nat) (u : Value) :
    (w2.setCell ⟨b, i, none⟩ u).ownsRow w.heap.size 22 1 vo fs.length vs ∧ Sls (w2.setCell ⟨b, i, none⟩ u) (SO w vo) vs fs ∧ Fr (FOwn b v0) w (w2.setCell ⟨b, i, none⟩ u) := by
  have h2 := own_below how hB2 (Nat.le_refl _)
  refine ⟨own_set h2 (p := ⟨b, i, none⟩) (fun e => ?_) u, (hsl.below hB2 (Nat.le_refl _)).fr (T := fun k => k = b) ((Fr.refl _ _).set1 (b := b) (i := i) u (by exact .inl rfl)) (fun k hk => .inl (.inl (by omega))), (hfr.below hB2 (Nat.le_refl _)).set1 (b := b) (i := i) u (by exact .inl (.inl rfl))⟩
  have := (h2.lt b e).1
  omega
theorem fin13 {w w3 w4 : World} {b size sk0 sk i : Nat} {v0 vo v3 : Value} {ALL rest R : List UInt8} {fs : List (List UInt8)} {vs : List Value} {a4 : Option Addr} {c4 : Nat}
    (hE : (feed size ALL).1 = fs ++ (feed size rest).1 ∧ sk0 + (feed size ALL).2.1 = sk + (feed size rest).2.1 ∧ (feed size ALL).2.2 = (feed size rest).2.2) (hi : i = beg rest) (hR : R = rest.drop i) (hlt : R.length < 4 + size)
    (hk4 : Blk w4 b 41 (fcells size (sk + i) v3)) (hO4 : w4.ownsRow w3.heap.size 5 1 (.slice a4 R.length c4) R.length (encB R)) (hB4 : Below w3.heap.size w3 w4)
    (h3 : w3.ownsRow w.heap.size 22 1 vo fs.length vs ∧ Sls w3 (SO w vo) vs fs ∧ Fr (FOwn b v0) w w3) (hbl : b < w.heap.size) (nq : Nat) :
    FQ w b v0 size sk0 (feed size ALL) (.returned vo) ((w4.setCell ⟨b, 2, none⟩ (.slice a4 R.length c4)).drewN nq) := by
  obtain ⟨how3, hsl3, hfr3⟩ := h3
  obtain ⟨e1, e2, e3⟩ := hE
  have hf := feed_few size rest (by rw [← hi, ← hR]; exact hlt)
  rw [← hi, ← hR] at hf
  rw [hf] at e1 e2 e3
  simp only [List.append_nil] at e1 e2 e3
  have hw3 : w.heap.size ≤ w3.heap.size := hfr3.size
  have hvn : ∀ k, (Value.slice a4 R.length c4).ownBlock = some k → w3.heap.size ≤ k := fun k hk => (hO4.lt k hk).1
  have hfin : Fr (fun k => k = b) w4 ((w4.setCell ⟨b, 2, none⟩ (.slice a4 R.length c4)).drewN nq) := ((Fr.refl _ _).set1 _ (by exact .inl rfl)).drewN nq
  refine ⟨vo, .slice a4 R.length c4, rfl, ⟨Blk.cast ((hk4.setCell 2 _).drewN nq) (by rw [e2]; rfl), ?_, ?_⟩, ?_, ((hfr3.below hB4 (Nat.le_refl _)).set1 _ (by exact .inl (.inl rfl))).drewN nq, fun k hk => Nat.le_trans hw3 (hvn k hk)⟩
  · rw [e3]
    exact own_fr (own_base hO4 (Nat.zero_le _)) hfin (fun k hk e => by have := hvn k hk; omega)
  · intro e
    have := hvn b e
    omega
  · rw [e1]
    have h5 := own_fr (own_below how3 hB4 (Nat.le_refl _)) hfin (fun k hk e => by have := (how3.lt k hk).1; omega)
    have h6 : Sls w3 (fun k => k < w.heap.size ∨ (Value.slice a4 R.length c4).ownBlock = some k) vs fs := hsl3.grow (fun k hk => by
      rcases hk with h | h
      · exact .inl (.inl h)
      · exact .inr (hvn k h))
    exact SAt.of_row h5 ((h6.below hB4 (Nat.le_refl _)).fr hfin (fun k hk => .inl (.inl (by omega)))) (fun k hk h => by
      rcases h with h | h
      · have := (how3.lt k hk).1; omega
      · have := (how3.lt k hk).2; have := hvn k h; omega)

theorem next13 {w w3 w4 : World} {b size sk : Nat} {v0 vo v3 : Value} {R : List UInt8} {fs : List (List UInt8)} {vs : List Value} {a4 : Option Addr} {c4 : Nat} (hne : R ≠ [])
    (hk4 : Blk w4 b 41 (fcells size sk v3)) (hO4 : w4.ownsRow w3.heap.size 5 1 (.slice a4 R.length c4) R.length (encB R)) (hB4 : Below w3.heap.size w3 w4)
    (h3 : w3.ownsRow w.heap.size 22 1 vo fs.length vs ∧ Sls w3 (SO w vo) vs fs ∧ Fr (FOwn b v0) w w3) (hbl : b < w.heap.size) (nq : Nat) :
    ∃ g4, a4 = some ⟨g4, 0, none⟩ ∧ ∀ w5, w5 = (w4.setCell ⟨b, 2, none⟩ (.slice a4 R.length c4)).drewN nq → Blk w5 b 41 (fcells size sk (.slice a4 R.length c4)) ∧ w5.ownsRow w.heap.size 22 1 vo fs.length vs ∧ Sls w5 (SO w vo) vs fs ∧ Fr (FOwn b v0) w w5 ∧ BAt w5 a4 R ∧ R.length ≤ c4 ∧ c4 ≤ maxLen ∧ vo.ownBlock ≠ some g4 := by
  obtain ⟨how3, hsl3, hfr3⟩ := h3
  have hw3 : w.heap.size ≤ w3.heap.size := hfr3.size
  obtain ⟨-, a', c', e, hc, hm, hA⟩ := BAt.of_row hO4
  simp only [Value.slice.injEq, true_and] at e
  obtain ⟨rfl, rfl⟩ := e
  have hvn : ∀ k, (Value.slice a4 R.length c4).ownBlock = some k → w3.heap.size ≤ k := fun k hk => (hO4.lt k hk).1
  rcases hO4.2 with ⟨e, -⟩ | ⟨g4, cp, cur, e, hg, -⟩
  · simp only [Value.slice.injEq] at e
    exact absurd (List.length_eq_zero_iff.1 e.2.1) hne
  · simp only [Value.slice.injEq] at e
    obtain ⟨rfl, -, -⟩ := e
    refine ⟨g4, rfl, fun w5 hw5 => ?_⟩
    have hfx : Fr (fun k => k = b) w4 w5 := by rw [hw5]; exact ((Fr.refl _ _).set1 _ (by exact .inl rfl)).drewN nq
    have hgb : g4 ≠ b := by omega
    exact ⟨by rw [hw5]; exact Blk.cast ((hk4.setCell 2 _).drewN nq) rfl, own_fr (own_below how3 hB4 (Nat.le_refl _)) hfx (fun k hk e => by have := (how3.lt k hk).1; omega), (hsl3.below hB4 (Nat.le_refl _)).fr hfx (fun k hk => .inl (.inl (by omega))), (hfr3.below hB4 (Nat.le_refl _)).then hfx (fun k hk => .inl (.inl hk)), hA.fr hfx (fun p hp e => by cases hp; exact hgb e), hc, hm, fun e => by have := (how3.lt g4 e).2; omega⟩
theorem apply_n (a : Option Addr) (n cap : Nat) (l : List UInt8) (w : World) (hn : l.length = n) (hl : l.length ≤ 100000) (hb : BAt w a l) : Calls Try.prog 18 #[.slice a n cap] w (Gives (appB l) w) := by
  subst hn
  exact Apply_any a cap l w (by omega) hb
theorem one_vat (w : World) (x : Value) (t : TypeId) : VAt (w.alloc (.cells #[x] t)) (some ⟨w.heap.size, 0, none⟩) [x] :=
  .inr ⟨_, _, rfl, by simp, fun i hi => by
    obtain rfl : i = 0 := by simp at hi; omega
    exact (Blk.new w t [x]).at 0 rfl⟩
/-- what an append of one frame leaves -/
theorem app13 {w w5 w6 w8 : World} {b size sk : Nat} {v0 vo v8 v4 : Value} {R F : List UInt8} {fs : List (List UInt8)} {vs : List Value} {g4 : Nat} {a6 : Option Addr} {c6 : Nat} (hbl : b < w.heap.size)
    (hk5 : Blk w5 b 41 (fcells size sk v4)) (how5 : w5.ownsRow w.heap.size 22 1 vo fs.length vs) (hsl5 : Sls w5 (SO w vo) vs fs) (hfr5 : Fr (FOwn b v0) w w5) (hA5 : BAt w5 (some ⟨g4, 0, none⟩) R) (hvg : vo.ownBlock ≠ some g4)
    (hB6 : Below w5.heap.size w5 w6) (hO6 : w6.ownsRow w5.heap.size 5 1 (.slice a6 (appB F).length c6) (appB F).length (encB (appB F)))
    (how8 : w8.ownsRow w.heap.size 22 1 v8 (fs.length + 1) (vs ++ [.slice a6 (appB F).length c6])) (hg8 : (w6.alloc (.cells #[.slice a6 (appB F).length c6] 22)).grownBy w8 vo.ownBlock) (hb8 : v8.ownBlock = vo.ownBlock ∨ v8.ownBlock = some (w6.alloc (.cells #[.slice a6 (appB F).length c6] 22)).heap.size) :
    Blk w8 b 41 (fcells size sk v4) ∧ Sls w8 (SO w v8) (vs ++ [.slice a6 (appB F).length c6]) (fs ++ [appB F]) ∧ Fr (FOwn b v0) w w8 ∧ BAt w8 (some ⟨g4, 0, none⟩) R := by
  have hvb : ∀ k, vo.ownBlock = some k → w.heap.size ≤ k ∧ k < w5.heap.size := fun k hk => how5.lt k hk
  have hs5 := hfr5.size
  have hs6 := hB6.size
  obtain ⟨o, ho⟩ : ∃ o, o = Obj.cells #[.slice a6 (appB F).length c6] 22 := ⟨_, rfl⟩
  rw [← ho] at hg8 hb8
  have hB7 := al (Below.refl _ w6) o
  have hsz : (w6.alloc o).heap.size = w6.heap.size + 1 := by simp
  have hfg : Fr (fun k => vo.ownBlock = some k) (w6.alloc o) w8 := (Fr.refl _ _).grown hg8 (fun k hk => .inl hk)
  obtain ⟨-, a', c', e, hc, hm, hA6⟩ := BAt.of_row hO6
  simp only [Value.slice.injEq, true_and] at e
  obtain ⟨rfl, rfl⟩ := e
  have hx : Sl w6 (SO w vo) (.slice a6 (appB F).length c6) (appB F) := ⟨a6, c6, rfl, hc, hm, hA6, fun q hq _ h => by
    have h1 := (hO6.lt q.block (by rw [hq]; rfl)).1
    rcases h with h | h
    · omega
    · have := (hvb _ h).2; omega⟩
  have hall : Sls w6 (SO w vo) (vs ++ [.slice a6 (appB F).length c6]) (fs ++ [appB F]) := (hsl5.below hB6 (Nat.le_refl _)).append (Sls.one hx)
  have h7 := hall.below hB7 (Nat.le_refl _)
  refine ⟨((hk5.below hB6 (Nat.le_refl _)).below hB7 (Nat.le_refl _)).fr hfg (fun e => by have := (hvb b e).1; omega), ?_, ((hfr5.below hB6 (Nat.le_refl _)).below hB7 (Nat.le_refl _)).then hfg (fun k hk => .inr (hvb k hk).1), ?_⟩
  · have h8 : Sls (w6.alloc o) (fun k => SO w vo k ∨ v8.ownBlock = some k) (vs ++ [.slice a6 (appB F).length c6]) (fs ++ [appB F]) := h7.grow (fun k hk => by
      rcases hk with h | h
      · exact .inl h
      · rcases hb8 with e | e
        · exact .inl (.inr (by rw [← e]; exact h))
        · rw [e] at h; cases h; exact .inr (Nat.le_refl _))
    exact (h8.fr hfg (fun k hk => .inl (.inl (.inr hk)))).grow (fun k hk => by
      rcases hk with h | h
      · exact .inl (.inl (.inl h))
      · exact .inl (.inr h))
  · exact ((hA5.below hB6 (Nat.le_refl _)).below hB7 (Nat.le_refl _)).fr hfg (fun p hp e => by cases hp; exact hvg e)

theorem rel13 {w w8 wx : World} {b size sk0 sk i gk : Nat} {v0 v8 v4 x : Value} {ALL rest R F : List UInt8} {fs : List (List UInt8)} {vs : List Value} {ax : Option Addr} {n cx : Nat}
    (hE : (feed size ALL).1 = fs ++ (feed size rest).1 ∧ sk0 + (feed size ALL).2.1 = sk + (feed size rest).2.1 ∧ (feed size ALL).2.2 = (feed size rest).2.2) (hi : i = beg rest) (hR : R = rest.drop i) (hlt : ¬ R.length < 4 + size) (hF : F = (R.drop 4).take size) (hil : i ≤ rest.length)
    (hap : Blk w8 b 41 (fcells size (sk + i) v4) ∧ Sls w8 (SO w v8) (vs ++ [x]) (fs ++ [appB F]) ∧ Fr (FOwn b v0) w w8 ∧ BAt w8 ax (R.drop (4 + size))) (ho8 : w8.ownsRow w.heap.size 22 1 v8 (fs.length + 1) (vs ++ [x])) (hbl : b < w.heap.size)
    (hne : ∀ p, ax = some p → R.drop (4 + size) ≠ [] → p.block ≠ b) (hfx : Fr (fun k => k = b) w8 wx) (hkx : Blk wx b 41 (fcells size (sk + i) (.slice ax n cx))) (hn : n = R.length - (4 + size)) (hnc : n ≤ cx) (hcm : cx ≤ maxLen) (hax : ∃ g off, ax = some ⟨g, off, none⟩)
    (hgk : n < gk) (h1 : rest.length ≤ 100000) (h2 : sk + rest.length ≤ 1000000000) (h3 : fs.length + rest.length ≤ 100000) : FRel w b v0 size ALL sk0 gk v8 wx := by
  obtain ⟨e1, e2, e3⟩ := hE
  obtain ⟨k1, k2, k3, k4⟩ := hap
  have hf := feed_more size rest (by rw [← hi, ← hR]; exact hlt)
  rw [← hi, ← hR, ← hF] at hf
  have hRl : R.length = rest.length - i := by rw [hR]; simp
  have hnl : (R.drop (4 + size)).length = n := by rw [hn]; simp
  refine ⟨R.drop (4 + size), ax, cx, sk + i, fs ++ [appB F], vs ++ [x], ⟨by rw [hnl]; exact hkx, by rw [hnl]; exact hnc, hcm, .inr hax, k4.apart hfx (fun p hp hl => hne p hp hl)⟩, ⟨?_, k2.fr hfx (fun k hk => .inl (.inl (by omega))), k3.then hfx (fun k hk => .inl (.inl hk))⟩, ⟨?_, ?_, ?_⟩, by rw [hnl]; exact hgk, by rw [hnl]; omega, by rw [hnl]; omega, by rw [hnl, List.length_append]; simp only [List.length_cons, List.length_nil]; omega⟩
  · have := own_fr ho8 hfx (fun k hk e => by have := (ho8.lt k hk).1; omega)
    simpa using this
  · rw [e1, hf]; simp
  · rw [e2, hf]; simp only; omega
  · rw [e3, hf]

set_option maxRecDepth 20000 in
set_option maxHeartbeats 1000000 in
theorem feed_any (b size sk0 : Nat) (v0 : Value) (rest0 l : List UInt8) (a : Option Addr) (cap : Nat) (w : World) (h : FinAt w b size sk0 v0 rest0) (hs1 : 1 ≤ size) (hs2 : size ≤ 1024) (hl : rest0.length + l.length ≤ 100000) (hsk : sk0 + (rest0.length + l.length) ≤ 1000000000)
    (hb : BAt w a l) (hne : ∀ q, a = some q → l ≠ [] → ¬ FOwn b v0 q.block) : Calls Try.prog 12 #[.pointer (some ⟨b, 0, none⟩), .slice a l.length cap] w (FQ w b v0 size sk0 (feed size (rest0 ++ l))) := by
  obtain ⟨hbl, c0, c1, c2, f1, f2⟩ := h.walk
  have H := Lib.hid h
  have HV := Lib.hid hb.vat
  have hz : ((size : Int) == 0) = false := by rw [beq_eq_false_iff_ne]; omega
  obtain ⟨j0, hj, hy0, hy1, hy2⟩ := info_parts info5
  have HJ := Lib.hid hj
  obtain ⟨j1, hj1, hz0, hz1, hz2⟩ := info_parts info22
  have HJ1 := Lib.hid hj1
  clear hj1
  clear h hb hj
  go_enter Try.func12, Try.ntmps12
  go_wp2_with fail
  go_step3
  go_wp2_with (at_builtin; refine wpList_append_src _ rfl _ _ 22 rfl 0 5 j0 (.int .u8 0) 1 Try.underlying22 HJ.out hy0 hy1 hy2 rfl _ rest0.length (encB rest0) rfl H.out.own a l.length cap (encB l) rfl (by simp [encB]) HV.out (encB_one _) (by unfold maxLen; omega) (by omega) (Nat.zero_le _) ?_)
  intro v1 w1 hown hgrow hblk
  have hO1 : w1.ownsRow 0 5 1 v1 (rest0 ++ l).length (encB (rest0 ++ l)) := by rw [encB_append, List.length_append]; exact hown
  have hbk1 : Blk w1 b 41 (fcells size sk0 v0) := H.out.blk.grown hgrow H.out.ne
  have hv1b : v1.ownBlock ≠ some b := by
    rcases hblk with e | e
    · rw [e]; exact H.out.ne
    · rw [e]; intro e2; have := H.out.blk.lt; cases e2; omega
  have hfr1 : Fr (FOwn b v0) w w1 := (Fr.refl _ _).grown hgrow (fun k hk => .inl (.inr hk))
  have d0 := hbk1.at 0 rfl
  have d1 := hbk1.at 1 rfl
  have d2 := hbk1.at 2 rfl
  have df1 := hbk1.free 1
  have df2 := hbk1.free 2
  have hbl1 := hbk1.lt
  have HO1 := Lib.hid hO1
  have HK1 := Lib.hid hbk1
  have HF1 := Lib.hid hfr1
  have HN1 := Lib.hid hv1b
  obtain ⟨ALL, hALL⟩ : ∃ ALL, ALL = rest0 ++ l := ⟨_, rfl⟩
  rw [← hALL] at HO1
  have HAE := Lib.hid hALL
  have hAl : ALL.length ≤ 100000 := by rw [hALL, List.length_append]; exact hl
  have hAk : sk0 + ALL.length ≤ 1000000000 := by rw [hALL, List.length_append]; exact hsk
  obtain ⟨-, a1, cp1, rfl, hc1, hm1, hA1⟩ := BAt.of_row HO1.out
  have HA1 := Lib.hid hA1
  have ha1 : (a1 = none ∧ cp1 = 0) ∨ ∃ g off, a1 = some ⟨g, off, none⟩ := by
    rcases HO1.out.2 with ⟨e, -⟩ | ⟨g, cp, cur, e, -⟩
    · simp only [Value.slice.injEq] at e; exact .inl ⟨e.1, e.2.2⟩
    · simp only [Value.slice.injEq] at e; exact .inr ⟨_, _, e.1⟩
  have HAF := Lib.hid ha1
  clear hown hgrow hblk hO1 hbk1 hv1b hfr1 hALL ha1 hA1 c0 c1 c2 f1 f2
  go_wp2_with fail
  go_step3
  go_wp2_with fail
  go_loopg [5] (ALL.length + 1) (fun gk vo wr => FRel w b v0 size ALL sk0 gk vo wr)
  case atStart =>
    refine ⟨ALL, a1, cp1, sk0, [], [], ⟨Blk.cast (HK1.out.setCell 2 _) rfl, hc1, hm1, HAF.out, ?_⟩, ⟨World.ownsRow_nil _ _ _ _, Sls.nil, HF1.out.set1 _ (by exact .inl (.inl rfl))⟩, ⟨by simp, rfl, rfl⟩, by omega, hAl, hAk, by simpa using hAl⟩
    refine HA1.out.apart (S := fun k => k = b) ((Fr.refl _ _).set1 _ (by exact .inl rfl)) (fun q hq hne e => HN1.out (by rw [hq]; exact congrArg some e))
  case round =>
    obtain ⟨rest, ar, cr, sk, fs, vs, ⟨hbk, hcr, hmr, har, hA⟩, ⟨hown, hsls, hfr⟩, hE, hgk, hrl, hskl, hfl⟩ := hrel
    have HE := Lib.hid hE
    have HK := Lib.hid hbk
    have HA := Lib.hid hA
    have HOW := Lib.hid hown
    have HSL := Lib.hid hsls
    have HFR := Lib.hid hfr
    obtain ⟨i, hi⟩ : ∃ i, i = beg rest := ⟨_, rfl⟩
    have hil := beg_le rest
    have hbg := fun w (h : BAt w ar rest) => begin_any ar cr rest w (by omega) hcr h
    rw [← hi] at hil hbg
    have HI := Lib.hid hi
    have HBG := Lib.hid hbg
    have q0 := hbk.at 0 rfl
    have q1 := hbk.at 1 rfl
    have q2 := hbk.at 2 rfl
    have hlk := hbk.lt
    clear hE hbk hA hown hsls hfr hi hbg d0 d1 d2 df1 df2
    have gi1 : (0 : Int) ≤ (i : Int) := by omega
    have gi2 : (i : Int) ≤ (rest.length : Int) := by omega
    have gi3 : (rest.length : Int) ≤ (cr : Int) := by omega
    have gi4 : (0 : Int) ≤ (sk : Int) := by omega
    have gi5 : (sk : Int) ≤ 1000000000 := by omega
    have gi6 : (i : Int) ≤ 100000 := by omega
    rcases har with ⟨rfl, rfl⟩ | ⟨g, off, rfl⟩
    · obtain rfl : rest = [] := List.length_eq_zero_iff.1 (by omega)
      obtain rfl : i = 0 := by simpa using hil
      obtain ⟨R, hR⟩ : ∃ R : List UInt8, R = [] := ⟨_, rfl⟩
      have hRl : R.length = 0 := by rw [hR]; simp
      have hRl2 : R.length ≤ 100000 := by omega
      have HRE := Lib.hid hR
      have HRL := Lib.hid hRl
      go_wp2_with fail
      refine (HBG.out _ HA.out).mono ?_
      rintro e w2 ⟨rfl, hB2⟩
      have hk2 := HK.out.below hB2 (Nat.le_refl _)
      have p0 := hk2.at 0 rfl
      have p1 := hk2.at 1 rfl
      have p2 := hk2.at 2 rfl
      have pf1 := hk2.free 1
      have pf2 := hk2.free 2
      have hl2 := hk2.lt
      have HK2 := Lib.hid hk2
      have HP13 := Lib.hid (fun u => pre13 hbl HOW.out HSL.out HFR.out hB2 1 u)
      have HA3 : Hid (∀ u, BAt (w2.setCell ⟨b, 1, none⟩ u) none R) := Lib.hid (fun u => by
        have h2 := HA.out.below hB2 (Nat.le_refl _)
        have h3 := h2.apart (S := fun k => k = b) ((Fr.refl _ (w2)).set1 (b := b) (i := 1) u (by exact .inl rfl)) (fun q hq hne => blk_apart hk2 h2 hne fc_plain q hq)
        exact .inl (by rw [HRE.out]))
      clear hk2 hB2 q0 q1 q2 hlk hR hRl
      go_wp2_with fail
      refine (clone_n none 0 0 R _ (by have := HRL.out; omega) (by omega) (HA3.out _)).mono ?_
      rintro e w4 ⟨v4, rfl, hO4, hB4⟩
      obtain ⟨-, a4, c4, rfl, hc4, hm4, hA4⟩ := BAt.of_row hO4
      have hk4 := (Blk.cast (ys := fcells size (sk + 0) (.slice none ([] : List UInt8).length 0)) (HK2.out.setCell 1 _) (by simp [fcells])).below hB4 (Nat.le_refl _)
      have r0 := hk4.at 0 rfl
      have r1 := hk4.at 1 rfl
      have r2 := hk4.at 2 rfl
      have rf2 := hk4.free 2
      have hl4 := hk4.lt
      have HK4 := Lib.hid hk4
      have HB4 := Lib.hid hB4
      have HO4 := Lib.hid hO4
      have HA4 := Lib.hid hA4
      
      have u1 : IntKind.i64.wrap (4 + (size : Int)) = 4 + (size : Int) := IntWalk.i64_in _ (by omega)
      have u2 : (0 : Int) ≤ 4 + (size : Int) := by omega
      clear hk4 hB4 hO4 hA4 p0 p1 p2 pf1 pf2 HK2
      have hRz : R.length = 0 := HRL.out
      have hRz2 : R.length ≤ 0 := by omega
      clear hRz
      have glt : (R.length : Int) < 4 + (size : Int) := by omega
      go_wp2_with fail
      go_quiet (fail)
      go_wp2_with fail
      rw [Exit.noGoto_ret]
      go_ret
      rw [← HAE.out]
      exact fin13 HE.out HI.out (by rw [HRE.out]; rfl) (by omega) HK4.out HO4.out HB4.out (HP13.out _) hbl _
    · by_cases hci : cr = i
      · obtain rfl : i = rest.length := by omega
        obtain rfl : cr = rest.length := hci
        clear gi1 gi2 gi3 gi5 gi6
        have gi6 : (rest.length : Int) ≤ 100000 := by omega
        have gi5 : (sk : Int) ≤ 1000000000 := by omega
        obtain ⟨R, hR⟩ : ∃ R : List UInt8, R = rest.drop rest.length := ⟨_, rfl⟩
        have hRl : R.length = 0 := by rw [hR]; simp
        have hRl2 : R.length ≤ 100000 := by omega
        have HRE := Lib.hid hR
        have HRL := Lib.hid hRl
        go_wp2_with fail
        refine (HBG.out _ HA.out).mono ?_
        rintro e w2 ⟨rfl, hB2⟩
        have hk2 := HK.out.below hB2 (Nat.le_refl _)
        have p0 := hk2.at 0 rfl
        have p1 := hk2.at 1 rfl
        have p2 := hk2.at 2 rfl
        have pf1 := hk2.free 1
        have pf2 := hk2.free 2
        have hl2 := hk2.lt
        have HK2 := Lib.hid hk2
        have HP13 := Lib.hid (fun u => pre13 hbl HOW.out HSL.out HFR.out hB2 1 u)
        have HA3 : Hid (∀ u, BAt (w2.setCell ⟨b, 1, none⟩ u) (some ⟨g, off, none⟩) R) := Lib.hid (fun u => by
          have h2 := HA.out.below hB2 (Nat.le_refl _)
          have h3 := h2.apart (S := fun k => k = b) ((Fr.refl _ (w2)).set1 (b := b) (i := 1) u (by exact .inl rfl)) (fun q hq hne => blk_apart hk2 h2 hne fc_plain q hq)
          exact .inl (by rw [HRE.out]; simp))
        clear hk2 hB2 q0 q1 q2 hlk hR hRl
        go_wp2_with fail
        refine (clone_n (some ⟨g, off, none⟩) _ _ R _ (by have := HRL.out; omega) (by omega) (HA3.out _)).mono ?_
        rintro e w4 ⟨v4, rfl, hO4, hB4⟩
        obtain ⟨-, a4, c4, rfl, hc4, hm4, hA4⟩ := BAt.of_row hO4
        have hk4 := (Blk.cast (ys := fcells size (sk + rest.length) (.slice (some ⟨g, off, none⟩) rest.length rest.length)) (HK2.out.setCell 1 _) (by simp [fcells])).below hB4 (Nat.le_refl _)
        have r0 := hk4.at 0 rfl
        have r1 := hk4.at 1 rfl
        have r2 := hk4.at 2 rfl
        have rf2 := hk4.free 2
        have hl4 := hk4.lt
        have HK4 := Lib.hid hk4
        have HB4 := Lib.hid hB4
        have HO4 := Lib.hid hO4
        have HA4 := Lib.hid hA4
        
        have u1 : IntKind.i64.wrap (4 + (size : Int)) = 4 + (size : Int) := IntWalk.i64_in _ (by omega)
        have u2 : (0 : Int) ≤ 4 + (size : Int) := by omega
        clear hk4 hB4 hO4 hA4 p0 p1 p2 pf1 pf2 HK2
        have hRz : R.length = 0 := HRL.out
        have hRz2 : R.length ≤ 0 := by omega
        clear hRz
        have glt : (R.length : Int) < 4 + (size : Int) := by omega
        go_wp2_with fail
        go_quiet (fail)
        go_wp2_with fail
        rw [Exit.noGoto_ret]
        go_ret
        rw [← HAE.out]
        exact fin13 HE.out HI.out HRE.out (by omega) HK4.out HO4.out HB4.out (HP13.out _) hbl _
      · have gci : ¬ cr = i := hci
        obtain ⟨R, hR⟩ : ∃ R : List UInt8, R = rest.drop i := ⟨_, rfl⟩
        have hRl : R.length = rest.length - i := by rw [hR]; simp
        have hRl2 : R.length ≤ 100000 := by omega
        have HRE := Lib.hid hR
        have HRL := Lib.hid hRl
        go_wp2_with fail
        refine (HBG.out _ HA.out).mono ?_
        rintro e w2 ⟨rfl, hB2⟩
        have hk2 := HK.out.below hB2 (Nat.le_refl _)
        have p0 := hk2.at 0 rfl
        have p1 := hk2.at 1 rfl
        have p2 := hk2.at 2 rfl
        have pf1 := hk2.free 1
        have pf2 := hk2.free 2
        have hl2 := hk2.lt
        have HK2 := Lib.hid hk2
        have HP13 := Lib.hid (fun u => pre13 hbl HOW.out HSL.out HFR.out hB2 1 u)
        have HA3 : Hid (∀ u, BAt (w2.setCell ⟨b, 1, none⟩ u) (some ⟨g, off + i, none⟩) R) := Lib.hid (fun u => by
          have h2 := HA.out.below hB2 (Nat.le_refl _)
          have h3 := h2.apart (S := fun k => k = b) ((Fr.refl _ (w2)).set1 (b := b) (i := 1) u (by exact .inl rfl)) (fun q hq hne => blk_apart hk2 h2 hne fc_plain q hq)
          have h4 := BAt.sub h3 i (rest.length - i)
          rw [List.take_of_length_le (by simp), ← HRE.out] at h4
          exact h4)
        clear hk2 hB2 q0 q1 q2 hlk hR hRl
        go_wp2_with fail
        refine (clone_n (some ⟨g, off + i, none⟩) (rest.length - i) (cr - i) R _ HRL.out (by omega) (HA3.out _)).mono ?_
        rintro e w4 ⟨v4, rfl, hO4, hB4⟩
        obtain ⟨-, a4, c4, rfl, hc4, hm4, hA4⟩ := BAt.of_row hO4
        have hk4 := (Blk.cast (ys := fcells size (sk + i) (.slice (some ⟨g, off, none⟩) rest.length cr)) (HK2.out.setCell 1 _) (by simp [fcells])).below hB4 (Nat.le_refl _)
        have r0 := hk4.at 0 rfl
        have r1 := hk4.at 1 rfl
        have r2 := hk4.at 2 rfl
        have rf2 := hk4.free 2
        have hl4 := hk4.lt
        have HK4 := Lib.hid hk4
        have HB4 := Lib.hid hB4
        have HO4 := Lib.hid hO4
        have HA4 := Lib.hid hA4
        
        have u1 : IntKind.i64.wrap (4 + (size : Int)) = 4 + (size : Int) := IntWalk.i64_in _ (by omega)
        have u2 : (0 : Int) ≤ 4 + (size : Int) := by omega
        clear hk4 hB4 hO4 hA4 p0 p1 p2 pf1 pf2 HK2
        by_cases hlt : R.length < 4 + size
        · have glt : (R.length : Int) < 4 + (size : Int) := by omega
          go_wp2_with fail
          go_quiet (fail)
          go_wp2_with fail
          rw [Exit.noGoto_ret]
          go_ret
          rw [← HAE.out]
          exact fin13 HE.out HI.out HRE.out (by omega) HK4.out HO4.out HB4.out (HP13.out _) hbl _
        · have gge : ¬ (R.length : Int) < 4 + (size : Int) := by omega
          go_wp2_with fail
          go_quiet (fail)
          go_wp2_with fail
          have hRne : R ≠ [] := fun e => by rw [e] at hlt; exact hlt (by show 0 < 4 + size; omega)
          obtain ⟨g4, rfl, hnx⟩ := next13 hRne HK4.out HO4.out HB4.out (HP13.out _) hbl nq
          obtain ⟨w5, hw5⟩ : ∃ w5, w5 = (w4.setCell ⟨b, 2, none⟩ (.slice (some ⟨g4, 0, none⟩) R.length c4)).drewN nq := ⟨_, rfl⟩
          have hk5 := hnx w5 hw5
          rw [← hw5]
          clear hw5 hnx r0 r1 r2 rf2 hl4
          have t0 := hk5.1.at 0 rfl
          have t2 := hk5.1.at 2 rfl
          have hl5 := hk5.1.lt
          have hRc : R.length ≤ c4 := hk5.2.2.2.2.2.1
          have hcm : c4 ≤ maxLen := hk5.2.2.2.2.2.2.1
          obtain ⟨F, hF⟩ : ∃ F : List UInt8, F = (R.drop 4).take size := ⟨_, rfl⟩
          have HFL : Hid (F.length = size) := Lib.hid (by rw [hF]; simp; omega)
          have HAF : Hid (BAt w5.drew (some ⟨g4, 4, none⟩) F) := Lib.hid (by
            rw [hF]
            have := BAt.sub (show BAt w5.drew (some ⟨g4, 0, none⟩) R from hk5.2.2.2.2.1) 4 size
            rw [Nat.zero_add] at this
            exact this)
          have hs50 := hk5.2.2.2.1.size
          have HK5 := Lib.hid hk5
          have HFF := Lib.hid hF
          unfold maxLen at hcm
          have z1 : 4 + (size : Int) ≤ (c4 : Int) := by omega
          have z2 : ((4 : Int) + (size : Int)).toNat = 4 + size := by omega
          have z3 : 4 ≤ 4 + size := by omega
          have z4 : 4 + size - 4 = size := by omega
          have z5 : ¬ c4 = 4 := by omega
          have z6 : (R.length : Int) ≤ (c4 : Int) := by omega
          have z7 : (4 : Int) ≤ 4 + (size : Int) := by omega
          clear hk5 hF
          refine wp_region_held_drew (S := (fun w' => w'.cell? ⟨b, 0, none⟩ = some (.int .i64 size) ∧ w'.cell? ⟨b, 2, none⟩ = some (.slice (some ⟨g4, 0, none⟩) R.length c4))) (by kernel_rfl) (by (try dsimp only); first | exact ⟨by assumption, by assumption⟩ | go_keep) (fun hHeld => ?_)
          refine wpAnyH_take (i := 0) (oi := (Oper.mk (some 59) (Op.move (Operand.tmp 5)) 26 "marker.go:61" #[] none)) (v := ?_) rfl (by kernel_rfl) (by kernel_rfl) (by kernel_rfl) (fun _ _ _ h => h) (Or.inl ⟨by rfl, ?_⟩) (by assumption) ?_
          rotate_left
          · (intro w hSw; (try dsimp only at hSw); go_simp; first | done | with_reducible rfl)
          (try simp only [Act.put, List.setIfInBounds_toArray, List.set_cons_zero, List.set_cons_succ])
          refine wpAnyH_take (i := 1) (oi := (Oper.mk (some 60) (Op.move (Operand.tmp 0)) 29 "marker.go:61" #[] none)) (v := ?_) rfl (by kernel_rfl) (by kernel_rfl) (by kernel_rfl) (fun _ _ _ h => h) (Or.inl ⟨by rfl, ?_⟩) (by assumption) ?_
          rotate_left
          · (intro w hSw; (try dsimp only at hSw); go_simp; first | done | with_reducible rfl)
          (try simp only [Act.put, List.setIfInBounds_toArray, List.set_cons_zero, List.set_cons_succ])
          refine wpAnyH_take (i := 2) (oi := (Oper.mk (some 61) (Op.nilCheck (Operand.tmp 60)) 0 "marker.go:61" #[Edge.mk 1 Ground.data] none)) (v := ?_) rfl (by kernel_rfl) (by kernel_rfl) (by kernel_rfl) (fun _ _ _ h => h) (Or.inl ⟨by rfl, ?_⟩) (by assumption) ?_
          rotate_left
          · (intro w hSw; (try dsimp only at hSw); go_simp; first | done | with_reducible rfl)
          (try simp only [Act.put, List.setIfInBounds_toArray, List.set_cons_zero, List.set_cons_succ])
          refine wpAnyH_take (i := 3) (oi := (Oper.mk (some 62) (Op.fieldAddr 41 (Operand.tmp 61) 2) 0 "marker.go:61" #[Edge.mk 2 Ground.data] none)) (v := ?_) rfl (by kernel_rfl) (by kernel_rfl) (by kernel_rfl) (fun _ _ _ h => h) (Or.inl ⟨by rfl, ?_⟩) (by assumption) ?_
          rotate_left
          · (intro w hSw; (try dsimp only at hSw); go_simp; first | done | with_reducible rfl)
          (try simp only [Act.put, List.setIfInBounds_toArray, List.set_cons_zero, List.set_cons_succ])
          refine wpAnyH_take (i := 4) (oi := (Oper.mk (some 63) (Op.load 22 (Operand.tmp 62)) 22 "marker.go:61" #[Edge.mk 3 Ground.data] none)) (v := ?_) rfl (by kernel_rfl) (by kernel_rfl) (by kernel_rfl) (fun _ _ _ h => h) (Or.inl ⟨by rfl, ?_⟩) (by assumption) ?_
          rotate_left
          · (intro w hSw; (try dsimp only at hSw); go_simp; first | done | with_reducible rfl)
          (try simp only [Act.put, List.setIfInBounds_toArray, List.set_cons_zero, List.set_cons_succ])
          refine wpAnyH_take (i := 5) (oi := (Oper.mk (some 64) (Op.move (Operand.tmp 0)) 29 "marker.go:61" #[] none)) (v := ?_) rfl (by kernel_rfl) (by kernel_rfl) (by kernel_rfl) (fun _ _ _ h => h) (Or.inl ⟨by rfl, ?_⟩) (by assumption) ?_
          rotate_left
          · (intro w hSw; (try dsimp only at hSw); go_simp; first | done | with_reducible rfl)
          (try simp only [Act.put, List.setIfInBounds_toArray, List.set_cons_zero, List.set_cons_succ])
          refine wpAnyH_take (i := 6) (oi := (Oper.mk (some 65) (Op.nilCheck (Operand.tmp 64)) 0 "marker.go:61" #[Edge.mk 5 Ground.data] none)) (v := ?_) rfl (by kernel_rfl) (by kernel_rfl) (by kernel_rfl) (fun _ _ _ h => h) (Or.inl ⟨by rfl, ?_⟩) (by assumption) ?_
          rotate_left
          · (intro w hSw; (try dsimp only at hSw); go_simp; first | done | with_reducible rfl)
          (try simp only [Act.put, List.setIfInBounds_toArray, List.set_cons_zero, List.set_cons_succ])
          refine wpAnyH_take (i := 7) (oi := (Oper.mk (some 66) (Op.fieldAddr 41 (Operand.tmp 65) 0) 0 "marker.go:61" #[Edge.mk 6 Ground.data] none)) (v := ?_) rfl (by kernel_rfl) (by kernel_rfl) (by kernel_rfl) (fun _ _ _ h => h) (Or.inl ⟨by rfl, ?_⟩) (by assumption) ?_
          rotate_left
          · (intro w hSw; (try dsimp only at hSw); go_simp; first | done | with_reducible rfl)
          (try simp only [Act.put, List.setIfInBounds_toArray, List.set_cons_zero, List.set_cons_succ])
          refine wpAnyH_take (i := 8) (oi := (Oper.mk (some 67) (Op.load 3 (Operand.tmp 66)) 3 "marker.go:61" #[Edge.mk 7 Ground.data] none)) (v := ?_) rfl (by kernel_rfl) (by kernel_rfl) (by kernel_rfl) (fun _ _ _ h => h) (Or.inl ⟨by rfl, ?_⟩) (by assumption) ?_
          rotate_left
          · (intro w hSw; (try dsimp only at hSw); go_simp; first | done | with_reducible rfl)
          (try simp only [Act.put, List.setIfInBounds_toArray, List.set_cons_zero, List.set_cons_succ])
          refine wpAnyH_take (i := 9) (oi := (Oper.mk (some 68) (Op.binOp BinOp.add 3 (Operand.const (Value.int IntKind.i64 4)) (Operand.tmp 67) 3) 3 "marker.go:61" #[Edge.mk 8 Ground.data] none)) (v := ?_) rfl (by kernel_rfl) (by kernel_rfl) (by kernel_rfl) (fun _ _ _ h => h) (Or.inl ⟨by rfl, ?_⟩) (by assumption) ?_
          rotate_left
          · (intro w hSw; (try dsimp only at hSw); go_simp; first | done | with_reducible rfl)
          (try simp only [Act.put, List.setIfInBounds_toArray, List.set_cons_zero, List.set_cons_succ])
          refine wpAnyH_take (i := 10) (oi := (Oper.mk (some 69) (Op.slice 22 (Operand.tmp 63) (some (Operand.const (Value.int IntKind.i64 4))) (some (Operand.tmp 68)) none) 22 "marker.go:61" #[Edge.mk 4 Ground.data, Edge.mk 9 Ground.data] none)) (v := ?_) rfl (by kernel_rfl) (by kernel_rfl) (by kernel_rfl) (fun _ _ _ h => h) (Or.inl ⟨by rfl, ?_⟩) (by assumption) ?_
          rotate_left
          · (intro w hSw; (try dsimp only at hSw); go_simp; first | done | with_reducible rfl)
          (try simp only [Act.put, List.setIfInBounds_toArray, List.set_cons_zero, List.set_cons_succ])
          refine wpAnyH_ready (rs := [11]) (by kernel_rfl) (by simp) ?_
          refine AllReadyH.cons (o := (Oper.mk (some 70) (Op.call (Call.mk (Callee.value (Operand.func 18)) #[Operand.tmp 69] #[22])) 22 "marker.go:61" #[Edge.mk 10 Ground.data] none)) rfl (fun K hK => ?_) (AllReadyH.nil)
          go_simp
          (go_at_call 18; refine (apply_n _ size _ F _ HFL.out (by rw [HFL.out]; omega) HAF.out).mono ?_; rintro e w6 ⟨v6, rfl, hO6, -, hB6⟩; obtain ⟨-, a6, c6, rfl, hc6, hm6, -⟩ := BAt.of_row hO6; have hB56 := undrew hB6; have s0 := (hB56.cell (p := ⟨b, 0, none⟩) hl5).trans t0; have s2 := (hB56.cell (p := ⟨b, 2, none⟩) hl5).trans t2; have HB56 := Lib.hid hB56; have HO6 := Lib.hid (show w6.ownsRow w5.heap.size 5 1 (.slice a6 (appB F).length c6) (appB F).length (encB (appB F)) from hO6); have HW7 := Lib.hid (fun o => own_below (own_below HK5.out.2.1 hB56 (Nat.le_refl _)) (al (Below.refl _ w6) o) (Nat.le_refl _)); have hs56 := hB56.size; have HX := Lib.hid (one_vat w6 (.slice a6 (appB F).length c6) 22); clear hB6 hB56 hO6)
          refine hK.out _ _ (by (try dsimp only); first | exact ⟨by assumption, by assumption⟩ | go_keep) (fun hHeld => ?_)
          clear hK K
          (try simp only [Act.put, List.setIfInBounds_toArray, List.set_cons_zero, List.set_cons_succ])
          refine wpAnyH_ready (rs := [12]) (by kernel_rfl) (by simp) ?_
          refine AllReadyH.cons (o := (Oper.mk (some 71) (Op.buildSlice 26 1 #[(0, Operand.tmp 70)]) 26 "marker.go:61" #[Edge.mk 11 Ground.data] none)) rfl (fun K hK => ?_) (AllReadyH.nil)
          go_simp
          skip
          refine hK.out _ _ (by (try dsimp only); first | exact ⟨by assumption, by assumption⟩ | go_keep) (fun hHeld => ?_)
          clear hK K
          (try simp only [Act.put, List.setIfInBounds_toArray, List.set_cons_zero, List.set_cons_succ])
          refine wpAnyH_ready (rs := [13]) (by kernel_rfl) (by simp) ?_
          refine AllReadyH.cons (o := (Oper.mk (some 72) (Op.call (Call.mk (Callee.builtin Builtin.append) #[Operand.tmp 59, Operand.tmp 71] #[26, 26])) 26 "marker.go:61" #[Edge.mk 0 Ground.data, Edge.mk 12 Ground.data, Edge.mk 11 Ground.chain] none)) rfl (fun K hK => ?_) (AllReadyH.nil)
          (refine step_append_src _ (by rfl) (.tmp 59) (.tmp 71) 26 (by rfl) w.heap.size 22 j1 (.slice none 0 0) 24 Try.underlying26 HJ1.out hz0 hz1 hz2 (by rfl) u5 fs.length vs (by rfl) (HW7.out _) (some ⟨w6.heap.size, 0, none⟩) 1 1 [.slice a6 (appB F).length c6] (by rfl) (by rfl) HX.out (by simp [Value.oneCell']) (by unfold maxLen; omega) (by omega) (by simp; omega) ?_; intro v8 w8 hown8 hgrow8 hblk8; have hap := app13 hbl HK5.out.1 HK5.out.2.1 HK5.out.2.2.1 HK5.out.2.2.2.1 HK5.out.2.2.2.2.1 HK5.out.2.2.2.2.2.2.2 HB56.out HO6.out hown8 hgrow8 hblk8; have x0 := hap.1.at 0 rfl; have x2 := hap.1.at 2 rfl; have HAP := Lib.hid hap; have HO8 := Lib.hid hown8; clear hap hown8 hgrow8 hblk8)
          refine hK.out _ _ (by (try dsimp only); first | exact ⟨by assumption, by assumption⟩ | go_keep) (fun hHeld => ?_)
          clear hK K
          (try simp only [Act.put, List.setIfInBounds_toArray, List.set_cons_zero, List.set_cons_succ])
          refine wpAnyH_take (i := 14) (oi := (Oper.mk (some 5) (Op.assign (Operand.tmp 72)) 26 "marker.go:61" #[Edge.mk 13 Ground.data, Edge.mk 13 Ground.chain, Edge.mk 0 Ground.phase, Edge.mk 1 Ground.phase, Edge.mk 2 Ground.phase, Edge.mk 3 Ground.phase, Edge.mk 4 Ground.phase, Edge.mk 5 Ground.phase, Edge.mk 6 Ground.phase, Edge.mk 7 Ground.phase, Edge.mk 8 Ground.phase, Edge.mk 9 Ground.phase, Edge.mk 10 Ground.phase, Edge.mk 11 Ground.phase, Edge.mk 12 Ground.phase, Edge.mk 13 Ground.phase] none)) (v := ?_) rfl (by kernel_rfl) (by kernel_rfl) (by kernel_rfl) (fun _ _ _ h => h) (Or.inl ⟨by rfl, ?_⟩) (by assumption) ?_
          rotate_left
          · (intro w hSw; (try dsimp only at hSw); go_simp; first | done | with_reducible rfl)
          (try simp only [Act.put, List.setIfInBounds_toArray, List.set_cons_zero, List.set_cons_succ])
          refine wpAnyH_done (by kernel_rfl) ?_ _
          go_wp2_with fail
          have xf2 := HAP.out.1.free 2
          have hl8 := HAP.out.1.lt
          clear t0 t2
          have HRR := Lib.hid (show R.length - (4 + size) < gk - 1 from by have := HRL.out; omega)
          have hgk1 : 1 ≤ gk := by omega
          by_cases hc10 : c4 = 4 + size
          · obtain rfl : c4 = 4 + size := hc10
            have z9 : 4 + (size : Int) ≤ (R.length : Int) := by omega
            go_still_tail 13, (by kernel_rfl)
            go_wp2_with fail
            go_roundg (gk - 1)
            case rel =>
              exact rel13 (ax := some ⟨g4, 0, none⟩) HE.out HI.out HRE.out hlt HFF.out hil ⟨HAP.out.1, HAP.out.2.1, HAP.out.2.2.1, .inl (by simp; omega)⟩ HO8.out hbl (fun p hp hd => absurd (show R.drop (4 + size) = [] from by simp; omega) hd) (((Fr.refl _ _).set1 _ (by exact .inl rfl)).drew) (Blk.cast (HAP.out.1.setCell 2 _).drew rfl) (by omega) (by omega) (by unfold maxLen; omega) ⟨_, _, rfl⟩ (by have := HRR.out; omega) hrl hskl hfl
            case measure => omega
          · have z8 : ¬ c4 = 4 + size := hc10
            have z9 : 4 + (size : Int) ≤ (R.length : Int) := by omega
            go_still_tail 13, (by kernel_rfl)
            go_wp2_with fail
            go_roundg (gk - 1)
            case rel =>
              have hd := BAt.sub HAP.out.2.2.2 (4 + size) (R.length - (4 + size))
              rw [List.take_of_length_le (by simp), Nat.zero_add] at hd
              exact rel13 (ax := some ⟨g4, 4 + size, none⟩) HE.out HI.out HRE.out hlt HFF.out hil ⟨HAP.out.1, HAP.out.2.1, HAP.out.2.2.1, hd⟩ HO8.out hbl (fun p hp hd e => blk_apart HAP.out.1 HAP.out.2.2.2 hRne fc_plain ⟨g4, 0, none⟩ rfl (by cases hp; exact e)) (((Fr.refl _ _).set1 _ (by exact .inl rfl)).drew) (Blk.cast (HAP.out.1.setCell 2 _).drew rfl) (by omega) (by omega) (by unfold maxLen; omega) ⟨_, _, rfl⟩ (by have := HRR.out; omega) hrl hskl hfl
            case measure => omega
end Go.Proofs.Ytjeigdopcdeaeaa

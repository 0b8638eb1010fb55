/- The reference's Send. No condition. -/
import Derived.Test.YtjiejpklcjpibaaAA
import Derived.Deep.DeepCutAuto
import Derived.Deep.CutBlock
namespace Go.Proofs.Ytjiejpklcjpibaa
open Go.RowKit Go.Deep Go.ChangeShapes Go.WideShapes Go.ChangeAt
set_option linter.unusedVariables false

/-- no place for data: the call's variables too -/
def Sv (N : Nat) (w : World) (S : Nat → Prop) (k : Nat) : Prop := S k ∨ w.heap.size ≤ k ∧ k < w.heap.size + N
/-- the call's sending end at b, its result at br -/
structure RM (N : Nat) (S : Nat → Prop) (w wx : World) (b br : Nat) (f : FS) (vU vC : Value) : Prop where
  blk : Blk wx b 54 (rfc f vU vC)
  res : Blk wx br 54 z14
  un : SAt wx (Sv N w S) vU f.units
  ct : CAt wx (Sv N w S) vC f.ctls
  bel : Below w.heap.size w wx
  hb : w.heap.size ≤ b ∧ b < w.heap.size + N
  hr : w.heap.size ≤ br ∧ br < w.heap.size + N
  ne : br ≠ b
/-- what a call gives that returns a number -/
def RSQ (S : Nat → Prop) (w : World) (r : FS × Int) (e : Ending) (w' : World) : Prop :=
  ∃ vU vC, e = .returned (.tuple #[RFV r.1 vU vC, .int .i64 r.2]) ∧ SAt w' S vU r.1.units ∧ CAt w' S vC r.1.ctls ∧ Below w.heap.size w w'
section
variable {N : Nat} {S : Nat → Prop} {w wx w' : World} {b br : Nat} {f g : FS} {vU vC vU' vC' : Value}
theorem RM.below (h : RM N S w wx b br f vU vC) (hB : Below wx.heap.size wx w') : RM N S w w' b br f vU vC :=
  ⟨h.blk.below hB (Nat.le_refl _), h.res.below hB (Nat.le_refl _), h.un.below hB (Nat.le_refl _), h.ct.below hB (Nat.le_refl _), h.bel.trans (hB.mono h.bel.size), h.hb, h.hr, h.ne⟩
theorem RM.fr (h : RM N S w wx b br f vU vC) {T : Nat → Prop} (hf : Fr T wx w') (hT : ∀ k, T k → w.heap.size ≤ k ∧ k < w.heap.size + N) (h1 : ¬ T b) (h2 : ¬ T br) : RM N S w w' b br f vU vC :=
  ⟨h.blk.fr hf h1, h.res.fr hf h2, h.un.fr hf (fun k hk => .inl (.inr (hT k hk))), h.ct.fr hf (fun k hk => .inl (.inr (hT k hk))), h.bel.trans (hf.toBelow h.bel.size (fun k hk => (hT k hk).1)), h.hb, h.hr, h.ne⟩
/-- stores into the sending end -/
theorem RM.put (h : RM N S w wx b br f vU vC) (hf : Fr (fun k => k = b) wx w') (hk : Blk w' b 54 (rfc g vU' vC')) (hu : SAt w' (Sv N w S) vU' g.units) (hc : CAt w' (Sv N w S) vC' g.ctls) : RM N S w w' b br g vU' vC' :=
  ⟨hk, h.res.fr hf (fun e => h.ne e), hu, hc, h.bel.trans (hf.toBelow h.bel.size (fun k hk => by have := h.hb; omega)), h.hb, h.hr, h.ne⟩
theorem RM.num (h : RM N S w wx b br f vU vC) (hf : Fr (fun k => k = b) wx w') (hk : Blk w' b 54 (rfc g vU vC)) (e1 : g.units = f.units) (e2 : g.ctls = f.ctls) : RM N S w w' b br g vU vC :=
  h.put hf hk (by rw [e1]; exact h.un.fr hf (fun k hk => .inl (.inr (by have := h.hb; omega)))) (by rw [e2]; exact h.ct.fr hf (fun k hk => .inl (.inr (by have := h.hb; omega))))
theorem RM.leave {r : FS × Int} {c : Int} (h : RM N S w wx b br g vU vC) (hr : r = (g, c)) (x0 x1 x2 x3 x4 x5 x6 x7 x8 x9 x10 x11 x12 x13 : Value) :
    RSQ S w r (.returned (.tuple #[RFV g vU vC, .int .i64 c])) (fin14 wx br x0 x1 x2 x3 x4 x5 x6 x7 x8 x9 x10 x11 x12 x13) := by
  subst hr
  have hf := fin14_fr wx br x0 x1 x2 x3 x4 x5 x6 x7 x8 x9 x10 x11 x12 x13
  have h3 := h.hr
  exact ⟨vU, vC, rfl, (h.un.fr hf (fun k hk => .inl (.inr (by omega)))).grow (fun k hk => .inl (.inl hk)), (h.ct.fr hf (fun k hk => .inl (.inr (by omega)))).grow (fun k hk => .inl (.inl hk)), h.bel.trans (hf.toBelow h.bel.size (fun k hk => by omega))⟩
theorem RM.start (hu : SAt w S vU f.units) (hc : CAt w S vC f.ctls) (hf : Below w.heap.size w wx) (hk : Blk wx b 54 (rfc f vU vC)) (hr : Blk wx br 54 z14) (h1 : w.heap.size ≤ b ∧ b < w.heap.size + N) (h2 : w.heap.size ≤ br ∧ br < w.heap.size + N) (h3 : br ≠ b) : RM N S w wx b br f vU vC := by
  have hY : ∀ k, Sv N w S k → S k ∨ w.heap.size ≤ k := fun k hk => by
    rcases hk with e | e
    · exact .inl e
    · exact .inr e.1
  exact ⟨hk, hr, (hu.grow hY).below hf (Nat.le_refl _), (hc.grow hY).below hf (Nat.le_refl _), hf, h1, h2, h3⟩
end
/-- a new list with one more unit -/
theorem rp_mem {w5 w6 w8 w10 : World} {S : Nat → Prop} {n m : Nat} {us : List Value} {L : List (List UInt8)} {l : List UInt8} {v6 v8 v10 : Value} {o1 o2 o3 : Obj} (hS : ∀ k, S k → k < w5.heap.size) (hls : Sls w5 S us L) (hm : l.length = m)
    (h6 : w6.ownsRow w5.heap.size 23 1 v6 n us) (g6 : (w5.alloc o1).grownBy w6 (some w5.heap.size))
    (h8 : w8.ownsRow w6.heap.size 5 1 v8 m (encB l)) (g8 : (w6.alloc o2).grownBy w8 (some w6.heap.size))
    (h10 : w10.ownsRow w5.heap.size 23 1 v10 (n + 1) (us ++ [v8])) (g10 : (w8.alloc o3).grownBy w10 v6.ownBlock) : SAt w10 S v10 (L ++ [l]) ∧ Below w5.heap.size w5 w10 := by
  have hB6 : Below w5.heap.size w5 w6 := (al (Below.refl _ _) o1).grown g6 (by simp) (fun k hk => by cases hk; exact Nat.le_refl _)
  have hB8 : Below w6.heap.size w6 w8 := (al (Below.refl _ _) o2).grown g8 (by simp) (fun k hk => by cases hk; exact Nat.le_refl _)
  have hs6 := hB6.size
  have hs8 := hB8.size
  have hl6 := fun k hk => h6.lt k hk
  have hB10 : Below w5.heap.size w8 w10 := ((Below.refl _ w8).alloc (by omega) o3).grown g10 (by simp; omega) (fun k hk => (hl6 k hk).1)
  have hT : Below w5.heap.size w5 w10 := (hB6.trans (hB8.mono hs6)).trans hB10
  refine ⟨?_, hT⟩
  obtain ⟨-, a8, c8, rfl, hc8, hm8, hA8⟩ := BAt.of_row h8
  have hx : Sl w10 S (.slice a8 l.length c8) l := by
    refine ⟨a8, c8, rfl, hc8, hm8, ?_, fun q hq hl h9 => ?_⟩
    · refine (hA8.below (al (Below.refl _ w8) o3) (Nat.le_refl _)).fr ((Fr.refl (fun k => v6.ownBlock = some k) _).grown g10 (fun k hk => .inl hk)) (fun q hq h9 => ?_)
      have h1 := (h8.lt q.block (by rw [hq]; rfl)).1
      have := (hl6 _ h9).2
      omega
    · have h1 := (h8.lt q.block (by rw [hq]; rfl)).1
      have := hS _ h9
      omega
  exact SAt.of_row h10 ((hls.below hT (Nat.le_refl _)).append (Sls.one hx)) (fun k hk h9 => by
    have h1 := (h10.lt k hk).1
    have := hS _ h9
    omega)
set_option maxRecDepth 20000 in
set_option maxHeartbeats 1000000 in
theorem rsend_any (S : Nat → Prop) (f : FS) (vU vC : Value) (a : Option Addr) (cap m : Nat) (l : List UInt8) (w : World) (hS : ∀ k, S k → k < w.heap.size) (hu : SAt w S vU f.units) (hc : CAt w S vC f.ctls) (ok : f.Ok) (hb : BAt w a l) (hm : l.length = m) (hl : m ≤ 100000) :
    Calls Try.prog 24 #[RFV f vU vC, .slice a m cap] w (RSQ S w (f.send l)) := by
  obtain ⟨aU, cU, rfl, -, -⟩ := hu.len
  obtain ⟨aC, cC, rfl, -⟩ := id hc
  obtain ⟨nU, hnU⟩ : ∃ n, n = f.units.length := ⟨_, rfl⟩
  obtain ⟨nC, hnC⟩ : ∃ n, n = f.ctls.length := ⟨_, rfl⟩
  have hfew := ok.few
  rw [← hnU] at hu hfew ⊢
  rw [← hnC] at hc ⊢
  obtain ⟨wb, hwb⟩ : ∃ wb, wb = (w.alloc (.cells (rfc f (.slice aU nU cU) (.slice aC nC cC)).toArray 54)).alloc (.cells z14.toArray 54) := ⟨_, rfl⟩
  have HM : Hid (RM 2 S w wb w.heap.size (w.heap.size + 1) f (.slice aU nU cU) (.slice aC nC cC)) := Lib.hid (RM.start (N := 2) hu hc (by rw [hwb]; exact al (al (Below.refl _ _) _) _) (by rw [hwb]; exact (Blk.new w 54 _).alloc _) (by rw [hwb]; exact Blk.newAt (by simp)) (by omega) (by omega) (by omega))
  have HK := Lib.hid HM.out.blk
  have HR := Lib.hid HM.out.res
  have HNU := Lib.hid hnU
  have HMM := Lib.hid hm
  have HS := Lib.hid hS
  have HB := Lib.hid (hb.below HM.out.bel (Nat.le_refl _))
  unfold rfc z14 at hwb
  clear hu hc hnU hnC hm hb hS
  by_cases h1 : m < 1
  · have HP : Hid (f.send l = (f, 1)) := Lib.hid (by unfold FS.send; rw [if_pos (by rw [HMM.out]; exact .inl h1)])
    have e1 : (m : Int) < 1 := by omega
    unfold RFV
    go_enter Try.func24, Try.ntmps24
    go_upto_region 1 with fail
    rw [← hwb]
    clear hwb
    have x0 := HK.out.at 0 rfl
    have x1 := HK.out.at 1 rfl
    have x2 := HK.out.at 2 rfl
    have x3 := HK.out.at 3 rfl
    have x4 := HK.out.at 4 rfl
    have x5 := HK.out.at 5 rfl
    have x6 := HK.out.at 6 rfl
    have x7 := HK.out.at 7 rfl
    have x8 := HK.out.at 8 rfl
    have x9 := HK.out.at 9 rfl
    have x10 := HK.out.at 10 rfl
    have x11 := HK.out.at 11 rfl
    have x12 := HK.out.at 12 rfl
    have x13 := HK.out.at 13 rfl
    have x14 := HK.out.lt
    have d0 := HR.out.at 0 rfl
    have d1 := HR.out.at 1 rfl
    have d2 := HR.out.at 2 rfl
    have d3 := HR.out.at 3 rfl
    have d4 := HR.out.at 4 rfl
    have d5 := HR.out.at 5 rfl
    have d6 := HR.out.at 6 rfl
    have d7 := HR.out.at 7 rfl
    have d8 := HR.out.at 8 rfl
    have d9 := HR.out.at 9 rfl
    have d10 := HR.out.at 10 rfl
    have d11 := HR.out.at 11 rfl
    have d12 := HR.out.at 12 rfl
    have d13 := HR.out.at 13 rfl
    have e0 := HR.out.free 0
    have e1 := HR.out.free 1
    have e2 := HR.out.free 2
    have e3 := HR.out.free 3
    have e4 := HR.out.free 4
    have e5 := HR.out.free 5
    have e6 := HR.out.free 6
    have e7 := HR.out.free 7
    have e8 := HR.out.free 8
    have e9 := HR.out.free 9
    have e10 := HR.out.free 10
    have e11 := HR.out.free 11
    have e12 := HR.out.free 12
    have e13 := HR.out.free 13
    have d14 := HR.out.lt
    go_wp2_with fail
    have hb := fin14_blk HR.out rfl (.int .i64 f.craft) (.int .i64 f.chan) (.int .i64 (f.size : Int)) (.int .i64 f.tmo) (.int .i64 (f.ret : Int)) (.int .i64 (f.state : Int)) (.slice aU nU cU) (.int .i64 (f.acked : Int)) (.int .i64 (f.flight : Int)) (.int .i64 (f.front : Int)) (.slice aC nC cC) (.int .i64 f.now) (.int .i64 f.timer) (.int .i64 (f.count : Int))
    unfold fin14 at hb
    have HRR := Lib.hid hb
    clear hb
    have b0 := HRR.out.at 0 rfl
    have b1 := HRR.out.at 1 rfl
    have b2 := HRR.out.at 2 rfl
    have b3 := HRR.out.at 3 rfl
    have b4 := HRR.out.at 4 rfl
    have b5 := HRR.out.at 5 rfl
    have b6 := HRR.out.at 6 rfl
    have b7 := HRR.out.at 7 rfl
    have b8 := HRR.out.at 8 rfl
    have b9 := HRR.out.at 9 rfl
    have b10 := HRR.out.at 10 rfl
    have b11 := HRR.out.at 11 rfl
    have b12 := HRR.out.at 12 rfl
    have b13 := HRR.out.at 13 rfl
    refine bodyPost_ret (v := .tuple #[.agg #[.int .i64 f.craft, .int .i64 f.chan, .int .i64 (f.size : Int), .int .i64 f.tmo, .int .i64 (f.ret : Int), .int .i64 (f.state : Int), (.slice aU nU cU), .int .i64 (f.acked : Int), .int .i64 (f.flight : Int), .int .i64 (f.front : Int), (.slice aC nC cC), .int .i64 f.now, .int .i64 f.timer, .int .i64 (f.count : Int)], .int .i64 1]) (by simp [results, Try.results24, go_sem, b0, b1, b2, b3, b4, b5, b6, b7, b8, b9, b10, b11, b12, b13]) rfl ?_
    exact RM.leave HM.out HP.out _ _ _ _ _ _ _ _ _ _ _ _ _ _
  by_cases h2 : 1017 < m
  · have HP : Hid (f.send l = (f, 1)) := Lib.hid (by unfold FS.send; rw [if_pos (by rw [HMM.out]; exact .inr h2)])
    have e1 : ¬ (m : Int) < 1 := by omega
    have e2 : 1017 < (m : Int) := by omega
    unfold RFV
    go_enter Try.func24, Try.ntmps24
    go_upto_region 1 with fail
    rw [← hwb]
    clear hwb
    have x0 := HK.out.at 0 rfl
    have x1 := HK.out.at 1 rfl
    have x2 := HK.out.at 2 rfl
    have x3 := HK.out.at 3 rfl
    have x4 := HK.out.at 4 rfl
    have x5 := HK.out.at 5 rfl
    have x6 := HK.out.at 6 rfl
    have x7 := HK.out.at 7 rfl
    have x8 := HK.out.at 8 rfl
    have x9 := HK.out.at 9 rfl
    have x10 := HK.out.at 10 rfl
    have x11 := HK.out.at 11 rfl
    have x12 := HK.out.at 12 rfl
    have x13 := HK.out.at 13 rfl
    have x14 := HK.out.lt
    have d0 := HR.out.at 0 rfl
    have d1 := HR.out.at 1 rfl
    have d2 := HR.out.at 2 rfl
    have d3 := HR.out.at 3 rfl
    have d4 := HR.out.at 4 rfl
    have d5 := HR.out.at 5 rfl
    have d6 := HR.out.at 6 rfl
    have d7 := HR.out.at 7 rfl
    have d8 := HR.out.at 8 rfl
    have d9 := HR.out.at 9 rfl
    have d10 := HR.out.at 10 rfl
    have d11 := HR.out.at 11 rfl
    have d12 := HR.out.at 12 rfl
    have d13 := HR.out.at 13 rfl
    have e0 := HR.out.free 0
    have e1 := HR.out.free 1
    have e2 := HR.out.free 2
    have e3 := HR.out.free 3
    have e4 := HR.out.free 4
    have e5 := HR.out.free 5
    have e6 := HR.out.free 6
    have e7 := HR.out.free 7
    have e8 := HR.out.free 8
    have e9 := HR.out.free 9
    have e10 := HR.out.free 10
    have e11 := HR.out.free 11
    have e12 := HR.out.free 12
    have e13 := HR.out.free 13
    have d14 := HR.out.lt
    go_wp2_with fail
    have hb := fin14_blk HR.out rfl (.int .i64 f.craft) (.int .i64 f.chan) (.int .i64 (f.size : Int)) (.int .i64 f.tmo) (.int .i64 (f.ret : Int)) (.int .i64 (f.state : Int)) (.slice aU nU cU) (.int .i64 (f.acked : Int)) (.int .i64 (f.flight : Int)) (.int .i64 (f.front : Int)) (.slice aC nC cC) (.int .i64 f.now) (.int .i64 f.timer) (.int .i64 (f.count : Int))
    unfold fin14 at hb
    have HRR := Lib.hid hb
    clear hb
    have b0 := HRR.out.at 0 rfl
    have b1 := HRR.out.at 1 rfl
    have b2 := HRR.out.at 2 rfl
    have b3 := HRR.out.at 3 rfl
    have b4 := HRR.out.at 4 rfl
    have b5 := HRR.out.at 5 rfl
    have b6 := HRR.out.at 6 rfl
    have b7 := HRR.out.at 7 rfl
    have b8 := HRR.out.at 8 rfl
    have b9 := HRR.out.at 9 rfl
    have b10 := HRR.out.at 10 rfl
    have b11 := HRR.out.at 11 rfl
    have b12 := HRR.out.at 12 rfl
    have b13 := HRR.out.at 13 rfl
    refine bodyPost_ret (v := .tuple #[.agg #[.int .i64 f.craft, .int .i64 f.chan, .int .i64 (f.size : Int), .int .i64 f.tmo, .int .i64 (f.ret : Int), .int .i64 (f.state : Int), (.slice aU nU cU), .int .i64 (f.acked : Int), .int .i64 (f.flight : Int), .int .i64 (f.front : Int), (.slice aC nC cC), .int .i64 f.now, .int .i64 f.timer, .int .i64 (f.count : Int)], .int .i64 1]) (by simp [results, Try.results24, go_sem, b0, b1, b2, b3, b4, b5, b6, b7, b8, b9, b10, b11, b12, b13]) rfl ?_
    exact RM.leave HM.out HP.out _ _ _ _ _ _ _ _ _ _ _ _ _ _
  have e1 : ¬ (m : Int) < 1 := by omega
  have e2 : ¬ 1017 < (m : Int) := by omega
  by_cases h3 : 256 ≤ nU
  · have HP : Hid (f.send l = (f, 7)) := Lib.hid (by unfold FS.send; rw [if_neg (by rw [HMM.out]; omega), if_pos (by rw [← HNU.out]; exact h3)])
    have e3 : 256 ≤ (nU : Int) := by omega
    unfold RFV
    go_enter Try.func24, Try.ntmps24
    go_upto_region 1 with fail
    rw [← hwb]
    clear hwb
    have x0 := HK.out.at 0 rfl
    have x1 := HK.out.at 1 rfl
    have x2 := HK.out.at 2 rfl
    have x3 := HK.out.at 3 rfl
    have x4 := HK.out.at 4 rfl
    have x5 := HK.out.at 5 rfl
    have x6 := HK.out.at 6 rfl
    have x7 := HK.out.at 7 rfl
    have x8 := HK.out.at 8 rfl
    have x9 := HK.out.at 9 rfl
    have x10 := HK.out.at 10 rfl
    have x11 := HK.out.at 11 rfl
    have x12 := HK.out.at 12 rfl
    have x13 := HK.out.at 13 rfl
    have x14 := HK.out.lt
    have d0 := HR.out.at 0 rfl
    have d1 := HR.out.at 1 rfl
    have d2 := HR.out.at 2 rfl
    have d3 := HR.out.at 3 rfl
    have d4 := HR.out.at 4 rfl
    have d5 := HR.out.at 5 rfl
    have d6 := HR.out.at 6 rfl
    have d7 := HR.out.at 7 rfl
    have d8 := HR.out.at 8 rfl
    have d9 := HR.out.at 9 rfl
    have d10 := HR.out.at 10 rfl
    have d11 := HR.out.at 11 rfl
    have d12 := HR.out.at 12 rfl
    have d13 := HR.out.at 13 rfl
    have e0 := HR.out.free 0
    have e1 := HR.out.free 1
    have e2 := HR.out.free 2
    have e3 := HR.out.free 3
    have e4 := HR.out.free 4
    have e5 := HR.out.free 5
    have e6 := HR.out.free 6
    have e7 := HR.out.free 7
    have e8 := HR.out.free 8
    have e9 := HR.out.free 9
    have e10 := HR.out.free 10
    have e11 := HR.out.free 11
    have e12 := HR.out.free 12
    have e13 := HR.out.free 13
    have d14 := HR.out.lt
    go_wp2_with fail
    have hb := fin14_blk HR.out rfl (.int .i64 f.craft) (.int .i64 f.chan) (.int .i64 (f.size : Int)) (.int .i64 f.tmo) (.int .i64 (f.ret : Int)) (.int .i64 (f.state : Int)) (.slice aU nU cU) (.int .i64 (f.acked : Int)) (.int .i64 (f.flight : Int)) (.int .i64 (f.front : Int)) (.slice aC nC cC) (.int .i64 f.now) (.int .i64 f.timer) (.int .i64 (f.count : Int))
    unfold fin14 at hb
    have HRR := Lib.hid hb
    clear hb
    have b0 := HRR.out.at 0 rfl
    have b1 := HRR.out.at 1 rfl
    have b2 := HRR.out.at 2 rfl
    have b3 := HRR.out.at 3 rfl
    have b4 := HRR.out.at 4 rfl
    have b5 := HRR.out.at 5 rfl
    have b6 := HRR.out.at 6 rfl
    have b7 := HRR.out.at 7 rfl
    have b8 := HRR.out.at 8 rfl
    have b9 := HRR.out.at 9 rfl
    have b10 := HRR.out.at 10 rfl
    have b11 := HRR.out.at 11 rfl
    have b12 := HRR.out.at 12 rfl
    have b13 := HRR.out.at 13 rfl
    refine bodyPost_ret (v := .tuple #[.agg #[.int .i64 f.craft, .int .i64 f.chan, .int .i64 (f.size : Int), .int .i64 f.tmo, .int .i64 (f.ret : Int), .int .i64 (f.state : Int), (.slice aU nU cU), .int .i64 (f.acked : Int), .int .i64 (f.flight : Int), .int .i64 (f.front : Int), (.slice aC nC cC), .int .i64 f.now, .int .i64 f.timer, .int .i64 (f.count : Int)], .int .i64 7]) (by simp [results, Try.results24, go_sem, b0, b1, b2, b3, b4, b5, b6, b7, b8, b9, b10, b11, b12, b13]) rfl ?_
    exact RM.leave HM.out HP.out _ _ _ _ _ _ _ _ _ _ _ _ _ _
  · have HP : Hid (f.send l = ({ f with units := f.units ++ [l] }, 0)) := Lib.hid (by unfold FS.send; rw [if_neg (by rw [HMM.out]; omega), if_neg (by rw [← HNU.out]; exact h3)])
    have e3 : ¬ 256 ≤ (nU : Int) := by omega
    unfold RFV
    go_enter Try.func24, Try.ntmps24
    go_upto_region 1 with fail
    rw [← hwb]
    clear hwb
    obtain ⟨j0, hj, hy0, hy1, hy2⟩ := info_parts info5
    have HJ := Lib.hid hj
    obtain ⟨j1, hj1, hz0, hz1, hz2⟩ := info_parts info23
    have HJ1 := Lib.hid hj1
    obtain ⟨a', c', us, e, -, -, hV, -, hSl⟩ := HM.out.un
    simp only [Value.slice.injEq] at e
    obtain ⟨e1', -, -⟩ := e
    subst e1'
    have HUL : Hid (us.length = nU) := Lib.hid (by rw [hSl.1, HNU.out])
    have HSL := Lib.hid hSl
    have H1C := Lib.hid hSl.one_cell
    have HV5 : Hid (∀ o, VAt (wb.alloc o) aU us) := Lib.hid (fun o => hV.below (al (Below.refl _ wb) o) (Nat.le_refl _))
    clear hj hj1 hV hSl
    have x6 := HK.out.at 6 rfl
    have xl := HK.out.lt
    go_wp2_with (at_builtin; refine wpList_append_src _ rfl (.tmp 20) (.tmp 22) 22 rfl wb.heap.size 23 j1 (.slice none 0 0) 24 Try.underlying22 HJ1.out hz0 hz1 hz2 (by rfl) _ 0 [] rfl (own_empty _ _ wb.heap.size rfl _ (Nat.le_refl _)) aU nU cU us rfl HUL.out (HV5.out _) H1C.out (by unfold maxLen; omega) (by omega) (by simp) ?_)
    intro v6 w6 hown6 hgrow6 _
    have H6 : Hid (w6.ownsRow wb.heap.size 23 1 v6 nU us) := Lib.hid (by simpa using hown6)
    have HG6 : Hid ((wb.alloc (.cells #[] 23)).grownBy w6 (some wb.heap.size)) := Lib.hid hgrow6
    have hB6 : Below wb.heap.size wb w6 := (al (Below.refl _ _) _).grown HG6.out (by simp) (fun k hk => by cases hk; exact Nat.le_refl _)
    have HB6 := Lib.hid hB6
    have HA6 : Hid (∀ o, VAt (w6.alloc o) a (encB l)) := Lib.hid (fun o => ((HB.out.below hB6 (Nat.le_refl _)).below (al (Below.refl _ w6) o) (Nat.le_refl _)).vat)
    have HEL : Hid ((encB l).length = m) := Lib.hid (by rw [encB_length, HMM.out])
    clear hown6 hgrow6 hB6 x6 xl
    go_wp2_with (at_builtin; refine wpList_append_src _ rfl (.tmp 24) (.tmp 25) 23 rfl w6.heap.size 5 j0 (.int .u8 0) 1 Try.underlying23 HJ.out hy0 hy1 hy2 (by rfl) _ 0 [] rfl (own_empty _ _ w6.heap.size rfl _ (Nat.le_refl _)) a m cap (encB l) rfl HEL.out (HA6.out _) (encB_one _) (by unfold maxLen; omega) (by omega) (by simp) ?_)
    intro v8 w8 hown8 hgrow8 _
    obtain ⟨a8, n8, c8, rfl⟩ := own_slice hown8
    have H8 : Hid (w8.ownsRow w6.heap.size 5 1 (.slice a8 n8 c8) m (encB l)) := Lib.hid (by simpa using hown8)
    have HG8 : Hid ((w6.alloc (.cells #[] 5)).grownBy w8 (some w6.heap.size)) := Lib.hid hgrow8
    have hB8 : Below w6.heap.size w6 w8 := (al (Below.refl _ _) _).grown HG8.out (by simp) (fun k hk => by cases hk; exact Nat.le_refl _)
    have HB8 := Lib.hid hB8
    have HO8 : Hid (∀ o, (w8.alloc o).ownsRow wb.heap.size 23 1 v6 nU us) := Lib.hid (fun o => own_below H6.out (hB8.trans ((al (Below.refl _ w8) o).mono hB8.size)) (Nat.le_refl _))
    have HV8 : Hid (VAt (w8.alloc (.cells #[.slice a8 n8 c8] 23)) (some ⟨w8.heap.size, 0, none⟩) [.slice a8 n8 c8]) := Lib.hid (one_vat w8 _ 23)
    have h1c : ∀ u ∈ [Value.slice a8 n8 c8], u.oneCell' = true := by
      intro u hu
      rw [List.mem_singleton] at hu
      subst hu
      rfl
    have H1C8 := Lib.hid h1c
    have hs5 : wb.heap.size ≤ w8.heap.size := Nat.le_trans HB6.out.size HB8.out.size
    clear hown8 hgrow8 hB8 h1c
    go_wp2_with (at_builtin; refine wpList_append_src _ rfl (.tmp 23) (.tmp 27) 22 rfl wb.heap.size 23 j1 (.slice none 0 0) 24 Try.underlying22 HJ1.out hz0 hz1 hz2 (by rfl) _ nU us rfl (HO8.out _) (some ⟨w8.heap.size, 0, none⟩) 1 1 [.slice a8 n8 c8] rfl (by rfl) HV8.out H1C8.out (by unfold maxLen; omega) (by omega) (by simp; omega) ?_)
    intro v10 w10 hown10 hgrow10 _
    obtain ⟨hm1, hm2⟩ := rp_mem (S := Sv 2 w S) (fun k hk => by
      have h1 := HR.out.lt
      rcases hk with e | e
      · have := HS.out k e; omega
      · omega) HSL.out HMM.out H6.out HG6.out H8.out HG8.out hown10 hgrow10
    obtain ⟨a10, n10, c10, rfl⟩ := own_slice hown10
    have HM10 := Lib.hid (HM.out.below hm2)
    have HM1 := Lib.hid hm1
    clear hown10 hgrow10 hm1 hm2
    have x6 := HM10.out.blk.at 6 rfl
    have y6 := HM10.out.blk.free 6
    have xl := HM10.out.blk.lt
    go_upto_region 6 with fail
    obtain ⟨g, hg⟩ : ∃ g, g = { f with units := f.units ++ [l] } := ⟨_, rfl⟩
    obtain ⟨w11, hw11⟩ : ∃ w11, w11 = w10.setCell ⟨w.heap.size, 6, none⟩ (.slice a10 n10 c10) := ⟨_, rfl⟩
    rw [← hw11]
    have hF : Fr (fun k => k = w.heap.size) w10 w11 := by rw [hw11]; exact frs (Fr.refl _ _) _ _
    have hk11 : Blk w11 w.heap.size 54 (rfc g (.slice a10 n10 c10) (.slice aC nC cC)) := by rw [hw11, hg]; exact Blk.cast (HM10.out.blk.setCell 6 _) rfl
    have HMN : Hid (RM 2 S w w11 w.heap.size (w.heap.size + 1) g (.slice a10 n10 c10) (.slice aC nC cC)) := Lib.hid (HM10.out.put hF hk11 (by rw [hg]; exact HM1.out.fr hF (fun k hk => .inl (.inr (by omega)))) (by rw [hg]; exact HM10.out.ct.fr hF (fun k hk => .inl (.inr (by omega)))))
    have HPG : Hid (f.send l = (g, 0)) := Lib.hid (by rw [HP.out, hg])
    have HKN := Lib.hid HMN.out.blk
    have HRN := Lib.hid HMN.out.res
    clear hg hw11 hF hk11 x6 y6 xl HM HK HR HM10 HM1
    have HM := HMN
    have x0 := HKN.out.at 0 rfl
    have x1 := HKN.out.at 1 rfl
    have x2 := HKN.out.at 2 rfl
    have x3 := HKN.out.at 3 rfl
    have x4 := HKN.out.at 4 rfl
    have x5 := HKN.out.at 5 rfl
    have x6 := HKN.out.at 6 rfl
    have x7 := HKN.out.at 7 rfl
    have x8 := HKN.out.at 8 rfl
    have x9 := HKN.out.at 9 rfl
    have x10 := HKN.out.at 10 rfl
    have x11 := HKN.out.at 11 rfl
    have x12 := HKN.out.at 12 rfl
    have x13 := HKN.out.at 13 rfl
    have x14 := HKN.out.lt
    have d0 := HRN.out.at 0 rfl
    have d1 := HRN.out.at 1 rfl
    have d2 := HRN.out.at 2 rfl
    have d3 := HRN.out.at 3 rfl
    have d4 := HRN.out.at 4 rfl
    have d5 := HRN.out.at 5 rfl
    have d6 := HRN.out.at 6 rfl
    have d7 := HRN.out.at 7 rfl
    have d8 := HRN.out.at 8 rfl
    have d9 := HRN.out.at 9 rfl
    have d10 := HRN.out.at 10 rfl
    have d11 := HRN.out.at 11 rfl
    have d12 := HRN.out.at 12 rfl
    have d13 := HRN.out.at 13 rfl
    have e0 := HRN.out.free 0
    have e1 := HRN.out.free 1
    have e2 := HRN.out.free 2
    have e3 := HRN.out.free 3
    have e4 := HRN.out.free 4
    have e5 := HRN.out.free 5
    have e6 := HRN.out.free 6
    have e7 := HRN.out.free 7
    have e8 := HRN.out.free 8
    have e9 := HRN.out.free 9
    have e10 := HRN.out.free 10
    have e11 := HRN.out.free 11
    have e12 := HRN.out.free 12
    have e13 := HRN.out.free 13
    have d14 := HRN.out.lt
    go_wp2_with fail
    have hb := fin14_blk HRN.out rfl (.int .i64 g.craft) (.int .i64 g.chan) (.int .i64 (g.size : Int)) (.int .i64 g.tmo) (.int .i64 (g.ret : Int)) (.int .i64 (g.state : Int)) (.slice a10 n10 c10) (.int .i64 (g.acked : Int)) (.int .i64 (g.flight : Int)) (.int .i64 (g.front : Int)) (.slice aC nC cC) (.int .i64 g.now) (.int .i64 g.timer) (.int .i64 (g.count : Int))
    unfold fin14 at hb
    have HRR := Lib.hid hb
    clear hb
    have b0 := HRR.out.at 0 rfl
    have b1 := HRR.out.at 1 rfl
    have b2 := HRR.out.at 2 rfl
    have b3 := HRR.out.at 3 rfl
    have b4 := HRR.out.at 4 rfl
    have b5 := HRR.out.at 5 rfl
    have b6 := HRR.out.at 6 rfl
    have b7 := HRR.out.at 7 rfl
    have b8 := HRR.out.at 8 rfl
    have b9 := HRR.out.at 9 rfl
    have b10 := HRR.out.at 10 rfl
    have b11 := HRR.out.at 11 rfl
    have b12 := HRR.out.at 12 rfl
    have b13 := HRR.out.at 13 rfl
    refine bodyPost_ret (v := .tuple #[.agg #[.int .i64 g.craft, .int .i64 g.chan, .int .i64 (g.size : Int), .int .i64 g.tmo, .int .i64 (g.ret : Int), .int .i64 (g.state : Int), (.slice a10 n10 c10), .int .i64 (g.acked : Int), .int .i64 (g.flight : Int), .int .i64 (g.front : Int), (.slice aC nC cC), .int .i64 g.now, .int .i64 g.timer, .int .i64 (g.count : Int)], .int .i64 0]) (by simp [results, Try.results24, go_sem, b0, b1, b2, b3, b4, b5, b6, b7, b8, b9, b10, b11, b12, b13]) rfl ?_
    exact RM.leave HM.out HPG.out _ _ _ _ _ _ _ _ _ _ _ _ _ _
end Go.Proofs.Ytjiejpklcjpibaa

/- The reference's Take: its variables, in plain frames. No condition. -/
import Derived.Test.YtllpbfejoahllaaM
import Derived.Deep.DeepCutAuto
import Derived.Deep.CutBlock
import Derived.Outline
namespace Go.Proofs.Ytllpbfejoahllaa
open Go.RowKit Go.Deep Go.ChangeShapes Go.WideShapes Go.ChangeAt
set_option linter.unusedVariables false

def rcells (u : US) (a : Option Addr) (cap : Nat) : List Value := [.bool u.started, .int .i64 u.next, .int .i64 u.lost, .bool u.step, .slice a u.rest.length cap]
def zcells : List Value := [.bool false, .int .i64 0, .int .i64 0, .bool false, .slice none 0 0]
def UV (u : US) (a : Option Addr) (cap : Nat) : Value := .agg #[.bool u.started, .int .i64 u.next, .int .i64 u.lost, .bool u.step, .slice a u.rest.length cap]
/-- the two variables of the call -/
structure RM (w : World) (u : US) (a : Option Addr) (cap : Nat) (wx : World) : Prop where
  box : Blk wx w.heap.size 43 (rcells u a cap)
  res : Blk wx (w.heap.size + 1) 43 zcells
  below : Below w.heap.size w wx
theorem RM.step {w wx wy : World} {u : US} {a : Option Addr} {cap B : Nat} (h : RM w u a cap wx) (hb : Below B wx wy) (hB : wx.heap.size ≤ B) : RM w u a cap wy :=
  ⟨h.box.below hb hB, h.res.below hb hB, h.below.trans (hb.mono (Nat.le_trans h.below.size hB))⟩
/-- what a call leaves -/
def RTQ (w : World) (r : US × List (List UInt8)) (e : Ending) (w' : World) : Prop :=
  ∃ vo a' cap', e = .returned (.tuple #[UV r.1 a' cap', vo]) ∧ (BAt w' a' r.1.rest ∧ r.1.rest.length ≤ cap' ∧ cap' ≤ maxLen) ∧ SAt w' (fun k => k < w.heap.size) vo r.2 ∧ Below w.heap.size w w'
/-- the result is stored -/
def fin5 (wx : World) (H : Nat) (x0 x1 x2 x3 x4 : Value) : World := ((((wx.setCell ⟨H, 0, none⟩ x0).setCell ⟨H, 1, none⟩ x1).setCell ⟨H, 2, none⟩ x2).setCell ⟨H, 3, none⟩ x3).setCell ⟨H, 4, none⟩ x4
theorem fin5_fr (wx : World) (H : Nat) (x0 x1 x2 x3 x4 : Value) : Fr (fun k => k = H) wx (fin5 wx H x0 x1 x2 x3 x4) :=
  (((((Fr.refl _ _).set1 _ (by exact .inl rfl)).set1 _ (by exact .inl rfl)).set1 _ (by exact .inl rfl)).set1 _ (by exact .inl rfl)).set1 _ (by exact .inl rfl)
theorem rt_none {w wx : World} {u : US} {a : Option Addr} {cap : Nat} (hB : Below w.heap.size w wx) (ha : BAt wx a u.rest) (h2 : ∀ q, a = some q → u.rest ≠ [] → q.block ≠ w.heap.size + 1) (hc : u.rest.length ≤ cap) (hm : cap ≤ maxLen) (x0 x1 x2 x3 x4 : Value) :
    RTQ w (u, []) (.returned (.tuple #[UV u a cap, .slice none 0 0])) (fin5 wx (w.heap.size + 1) x0 x1 x2 x3 x4) :=
  ⟨_, a, cap, rfl, ⟨ha.apart (fin5_fr ..) (fun q hq hne e => h2 q hq hne e), hc, hm⟩, SAt.nil _ _, hB.trans ((fin5_fr wx ..).toBelow hB.size (fun k hk => by omega))⟩
theorem rt_bad {w wx : World} {u : US} {a : Option Addr} {cap : Nat} (hB : Below w.heap.size w wx) (ha : BAt w a u.rest) (hc : u.rest.length ≤ cap) (hm : cap ≤ maxLen) : RTQ w (u, []) (.returned (.tuple #[UV u a cap, .slice none 0 0])) wx :=
  ⟨_, a, cap, rfl, ⟨ha.below hB (Nat.le_refl _), hc, hm⟩, SAt.nil _ _, hB⟩
theorem bat_old {w : World} {a : Option Addr} {l : List UInt8} (h : BAt w a l) (n : Nat) : ∀ q, a = some q → l ≠ [] → q.block ≠ w.heap.size + n := fun q hq hne e => by have := h.lt q hq hne; omega
/-- what holds at the head of a round -/
def RPR (w : World) (B : Nat) (u : US) (a0 : Option Addr) (cap0 : Nat) (ALL : List UInt8) (gk : Nat) (bv vo : Value) (wr : World) : Prop :=
  ∃ (bb : List UInt8) (a : Option Addr) (cap : Nat) (fs : List (List UInt8)) (vs : List Value) (st : Bool),
    (bv = .slice a bb.length cap ∧ bb.length ≤ cap ∧ cap ≤ maxLen ∧ BAt wr a bb ∧ ((a = none ∧ cap = 0) ∨ ∃ g off, a = some ⟨g, off, none⟩) ∧ (∀ q, a = some q → bb ≠ [] → q.block < B)) ∧
    (RM w { u with step := st } a0 cap0 wr ∧ B ≤ wr.heap.size) ∧ (wr.ownsRow B 23 1 vo fs.length vs ∧ Sls wr (fun k => k < w.heap.size + 2 ∨ vo.ownBlock = some k) vs fs) ∧
    ((st = true ∧ packs ALL = ((packs bb).1, (packs bb).2.1, fs ++ (packs bb).2.2)) ∨ (st = false ∧ bb = [] ∧ packs ALL = (false, [], fs))) ∧ (bb.length < gk ∧ bb.length ≤ 100000 ∧ fs.length + bb.length ≤ 100000)
theorem rt_end {w wx w9 : World} {u : US} {a0 a9 : Option Addr} {cap0 c9 B : Nat} {bb : List UInt8} {fs : List (List UInt8)} {vs : List Value} {vo : Value} (hR : RM w u a0 cap0 wx) (how : wx.ownsRow B 23 1 vo fs.length vs) (hB : w.heap.size + 2 ≤ B) (hsl : Sls wx (fun k => k < w.heap.size + 2 ∨ vo.ownBlock = some k) vs fs)
    (hB9 : Below wx.heap.size wx w9) (hO9 : w9.ownsRow wx.heap.size 5 1 (.slice a9 bb.length c9) bb.length (encB bb)) (x0 x1 x2 x3 x4 : Value) :
    RTQ w ({ u with rest := bb }, fs) (.returned (.tuple #[UV { u with rest := bb } a9 c9, vo])) (fin5 (w9.setCell ⟨w.heap.size, 4, none⟩ (.slice a9 bb.length c9)) (w.heap.size + 1) x0 x1 x2 x3 x4) := by
  have hlt := hR.res.lt
  have hf : Fr (fun k => k = w.heap.size ∨ k = w.heap.size + 1) w9 (fin5 (w9.setCell ⟨w.heap.size, 4, none⟩ (.slice a9 bb.length c9)) (w.heap.size + 1) x0 x1 x2 x3 x4) :=
    ((Fr.refl _ _).set1 (b := w.heap.size) (i := 4) _ (by exact .inl (.inl rfl))).trans ((fin5_fr ..).wide (fun i hi => .inl (.inr hi)))
  obtain ⟨-, a', c', e, hc, hm, hA⟩ := BAt.of_row hO9
  simp only [Value.slice.injEq, true_and] at e
  obtain ⟨rfl, rfl⟩ := e
  have hs9 := hB9.size
  refine ⟨vo, a9, c9, rfl, ⟨hA.fr hf (fun q hq e => ?_), hc, hm⟩, ?_, (hR.below.trans (hB9.mono hR.below.size)).trans (hf.toBelow (by omega) (fun k hk => by rcases hk with e | e <;> omega))⟩
  · have h1 := (hO9.lt q.block (by rw [hq]; rfl)).1
    rcases e with e | e <;> omega
  · refine SAt.of_row (own_fr (own_below how hB9 (Nat.le_refl _)) hf (fun k hk e => ?_)) (((hsl.below hB9 (Nat.le_refl _)).fr hf (fun k hk => ?_)).grow fun k hk => .inl (.inl (by omega))) (fun k hk h => ?_)
    · have := (how.lt k hk).1
      rcases e with e | e <;> omega
    · rcases hk with e | e <;> exact .inl (.inl (by omega))
    · have := (how.lt k hk).1
      omega
/-- what the append of a packet leaves -/
theorem rp_app {w wq w6 w8 : World} {u : US} {a0 a6 : Option Addr} {cap0 c6 B : Nat} {F : List UInt8} {fs : List (List UInt8)} {vs : List Value} {vo v8 : Value} (hR : RM w u a0 cap0 wq) (hB : w.heap.size + 2 ≤ B) (hBq : B ≤ wq.heap.size) (how : wq.ownsRow B 23 1 vo fs.length vs)
    (hsl : Sls wq (fun k => k < w.heap.size + 2 ∨ vo.ownBlock = some k) vs fs) (hB6 : Below wq.heap.size wq w6) (hO6 : w6.ownsRow wq.heap.size 5 1 (.slice a6 F.length c6) F.length (encB F)) (how8 : w8.ownsRow B 23 1 v8 (fs.length + 1) (vs ++ [.slice a6 F.length c6]))
    (hg8 : (w6.alloc (.cells #[.slice a6 F.length c6] 23)).grownBy w8 vo.ownBlock) (hb8 : v8.ownBlock = vo.ownBlock ∨ v8.ownBlock = some (w6.heap.size + 1)) :
    RM w u a0 cap0 w8 ∧ Sls w8 (fun k => k < w.heap.size + 2 ∨ v8.ownBlock = some k) (vs ++ [.slice a6 F.length c6]) (fs ++ [F]) ∧ (∀ a l, BAt wq a l → (∀ q, a = some q → l ≠ [] → q.block < B) → BAt w8 a l) ∧ B ≤ w8.heap.size := by
  have hvb : ∀ k, vo.ownBlock = some k → B ≤ k ∧ k < wq.heap.size := fun k hk => how.lt k hk
  have hs6 := hB6.size
  obtain ⟨ob, ho⟩ : ∃ ob, ob = Obj.cells #[.slice a6 F.length c6] 23 := ⟨_, rfl⟩
  rw [← ho] at hg8
  have hsz : (w6.alloc ob).heap.size = w6.heap.size + 1 := by simp
  rw [← hsz] at hb8
  have hB7 := al (Below.refl _ w6) ob
  have hB67 : Below wq.heap.size wq (w6.alloc ob) := hB6.trans (hB7.mono hs6)
  have hfg : Fr (fun k => vo.ownBlock = some k) (w6.alloc ob) w8 := (Fr.refl _ _).grown hg8 (fun k hk => .inl hk)
  obtain ⟨-, a', c', e, hc, hm, hA6⟩ := BAt.of_row hO6
  simp only [Value.slice.injEq, true_and] at e
  obtain ⟨rfl, rfl⟩ := e
  have hx : Sl w6 (fun k => k < w.heap.size + 2 ∨ vo.ownBlock = some k) (.slice a6 F.length c6) F := ⟨a6, c6, rfl, hc, hm, hA6, fun q hq _ h => by
    have h1 := (hO6.lt q.block (by rw [hq]; rfl)).1
    rcases h with h | h
    · omega
    · have := (hvb _ h).2; omega⟩
  have h7 := ((hsl.below hB6 (Nat.le_refl _)).append (Sls.one hx)).below hB7 (Nat.le_refl _)
  have hs8 := hfg.size
  refine ⟨?_, ?_, fun a l hl hq => (hl.below hB67 (Nat.le_refl _)).apart hfg (fun q e1 e2 e3 => by have := (hvb _ e3).1; have := hq q e1 e2; omega), by omega⟩
  · have h2 := hR.step hB67 (Nat.le_refl _)
    exact ⟨h2.box.fr hfg (fun e => by have := (hvb _ e).1; omega), h2.res.fr hfg (fun e => by have := (hvb _ e).1; omega), h2.below.trans (hfg.toBelow (by omega) (fun k hk => by have := (hvb k hk).1; omega))⟩
  · have h8 : Sls (w6.alloc ob) (fun k => (k < w.heap.size + 2 ∨ vo.ownBlock = some k) ∨ v8.ownBlock = some k) (vs ++ [.slice a6 F.length c6]) (fs ++ [F]) := h7.grow (fun k hk => by
      rcases hk with h | h
      · exact .inl h
      · rcases hb8 with e | e
        · exact .inl (.inr (by rw [← e]; exact h))
        · rw [e] at h; cases h; exact .inr (Nat.le_refl _))
    exact (h8.fr hfg (fun k hk => .inl (.inl (.inr hk)))).grow (fun k hk => by
      rcases hk with h | h
      · exact .inl (.inl (.inl h))
      · exact .inl (.inr h))
theorem rplain {u : US} {a : Option Addr} {cap : Nat} : ∀ v ∈ rcells u a cap, ∀ n, v ≠ .int .u8 n := by
  intro v hv n
  simp only [rcells, List.mem_cons, List.not_mem_nil, or_false] at hv
  rcases hv with rfl | rfl | rfl | rfl | rfl <;> simp
theorem apid_rem (x0 x1 : UInt8) (m : Nat) (h : m = x0.toNat % 8 * 256 + x1.toNat) : ((x0.toNat : Int) % 8 * 256 + (x1.toNat : Int) != 2047) = !decide (m = 2047) := by
  have h0 := x0.toNat_lt
  have h1 := x1.toNat_lt
  rw [Bool.eq_iff_iff]
  simp
  omega
/-- the rest behind a packet -/
theorem bat_drop {w : World} {g off n : Nat} {bb : List UInt8} (h : BAt w (some ⟨g, off, none⟩) bb) : BAt w (some ⟨g, off + n, none⟩) (bb.drop n) := by
  have := BAt.sub h n (bb.length - n)
  rwa [List.take_of_length_le (by simp)] at this
theorem rp_next {w : World} {g off n cb B C5 : Nat} {bb : List UInt8} {A5 : Option Addr} (hA : BAt w (some ⟨g, off, none⟩) bb) (hc : bb.length ≤ cb) (hm : cb ≤ maxLen) (hn : n ≤ bb.length) (hlt : bb ≠ [] → g < B) (hp : (A5 = some ⟨g, off + n, none⟩ ∧ C5 = cb - n) ∨ (bb.length = n ∧ A5 = some ⟨g, off, none⟩ ∧ C5 = 0)) :
    (bb.drop n).length ≤ C5 ∧ C5 ≤ maxLen ∧ BAt w A5 (bb.drop n) ∧ ((A5 = none ∧ C5 = 0) ∨ ∃ g off, A5 = some ⟨g, off, none⟩) ∧ (∀ q, A5 = some q → bb.drop n ≠ [] → q.block < B) := by
  rcases hp with ⟨rfl, rfl⟩ | ⟨h1, rfl, rfl⟩
  · exact ⟨by rw [List.length_drop]; omega, by omega, bat_drop hA, .inr ⟨_, _, rfl⟩, fun q hq hne => by cases hq; exact hlt (fun e => hne (by rw [e]; simp))⟩
  · have hd : bb.drop n = [] := List.length_eq_zero_iff.1 (by simp; omega)
    rw [hd]
    exact ⟨by simp, by unfold maxLen; omega, .inl rfl, .inr ⟨_, _, rfl⟩, fun q hq hne => absurd rfl hne⟩
/-- a malformed header -/
theorem rp_bad {w wx : World} {u : US} {a0 : Option Addr} {cap0 B : Nat} {fs : List (List UInt8)} {vs : List Value} {vo : Value} (hR : RM w u a0 cap0 wx) (hB : w.heap.size + 2 ≤ B) (hBx : B ≤ wx.heap.size) (how : wx.ownsRow B 23 1 vo fs.length vs) (hsl : Sls wx (fun k => k < w.heap.size + 2 ∨ vo.ownBlock = some k) vs fs) (b : Bool) :
    (RM w { u with step := b } a0 cap0 (wx.setCell ⟨w.heap.size, 3, none⟩ (.bool b)) ∧ B ≤ (wx.setCell ⟨w.heap.size, 3, none⟩ (.bool b)).heap.size) ∧ ((wx.setCell ⟨w.heap.size, 3, none⟩ (.bool b)).ownsRow B 23 1 vo fs.length vs ∧ Sls (wx.setCell ⟨w.heap.size, 3, none⟩ (.bool b)) (fun k => k < w.heap.size + 2 ∨ vo.ownBlock = some k) vs fs) := by
  have hf : Fr (fun k => k = w.heap.size) wx (wx.setCell ⟨w.heap.size, 3, none⟩ (.bool b)) := (Fr.refl _ _).set1 _ (by exact .inl rfl)
  refine ⟨⟨⟨Blk.cast (hR.box.setCell 3 _) rfl, hR.res.setOther (p := ⟨w.heap.size, 3, none⟩) (by simp) _, hR.below.setCell (p := ⟨w.heap.size, 3, none⟩) (Nat.le_refl _) _⟩, by simp [World.setCell]; exact hBx⟩, own_fr how hf (fun k hk e => by have := (how.lt k hk).1; omega), hsl.fr hf (fun k hk => .inl (.inl (by omega)))⟩
end Go.Proofs.Ytllpbfejoahllaa

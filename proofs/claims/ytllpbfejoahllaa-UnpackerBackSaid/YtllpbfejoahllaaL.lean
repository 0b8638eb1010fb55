/- Contract of packets. No condition. -/
import Derived.Test.YtllpbfejoahllaaJ
import Derived.Deep.LoopGhost
import Derived.WalkMore
import Derived.Outline
namespace Go.Proofs.Ytllpbfejoahllaa
open Go.RowKit Go.Deep Go.ChangeShapes Go.WideShapes Go.ChangeAt
set_option linter.unusedVariables false

/-- in none of these blocks: what is handed back -/
def SO (w : World) (vo : Value) (k : Nat) : Prop := k < w.heap.size ∨ vo.ownBlock = some k
/-- the same block, or a new one -/
def Kin (w : World) (a0 a : Option Addr) : Prop := ∀ q, a = some q → (∃ q0, a0 = some q0 ∧ q0.block = q.block) ∨ w.heap.size ≤ q.block
def US.with (u : US) (r : List UInt8) : US := { u with rest := r }
/-- what holds at the head of a round -/
def PkR (w : World) (b : Nat) (u : US) (a0 : Option Addr) (gk : Nat) (vo : Value) (wr : World) : Prop :=
  ∃ (rest : List UInt8) (a : Option Addr) (cap : Nat) (fs : List (List UInt8)) (vs : List Value),
    UAt wr b (u.with rest) a cap ∧ (wr.ownsRow w.heap.size 23 1 vo fs.length vs ∧ Sls wr (SO w vo) vs fs ∧ Fr (fun k => k = b) w wr) ∧
    ((packs u.rest).1 = (packs rest).1 ∧ (packs u.rest).2.1 = (packs rest).2.1 ∧ (packs u.rest).2.2 = fs ++ (packs rest).2.2) ∧
    (rest.length < gk ∧ rest.length ≤ 100000 ∧ fs.length + rest.length ≤ 100000) ∧ (∀ q, a = some q → rest ≠ [] → q.block < w.heap.size) ∧ (∀ q, a = some q → ∃ q0, a0 = some q0 ∧ q0.block = q.block)
/-- what a call leaves -/
def PkQ (w : World) (b : Nat) (u : US) (a0 : Option Addr) (r : Bool × List UInt8 × List (List UInt8)) (e : Ending) (w' : World) : Prop :=
  ∃ vo a cap, e = .returned vo ∧ UAt w' b { u with step := r.1, rest := r.2.1 } a cap ∧ SAt w' (fun k => k < w.heap.size) vo r.2.2 ∧ Fr (fun k => k = b) w w' ∧ (∀ q, a = some q → ∃ q0, a0 = some q0 ∧ q0.block = q.block)
theorem UAt.drewN {w : World} {b cap : Nat} {u : US} {a : Option Addr} (h : UAt w b u a cap) (m : Nat) : UAt (w.drewN m) b u a cap := ⟨h.blk, h.hc, h.hm, h.at_.quiet ⟨m, rfl⟩, h.sh, h.ne⟩
theorem US.with_step {u : US} {r : List UInt8} (hs : u.step = true) : u.with r = { u with step := true, rest := r } := by
  cases u; simp only at hs; subst hs; rfl
theorem pk_end {w wr w' : World} {b cap : Nat} {u : US} {a0 a : Option Addr} {vo : Value} {rest : List UInt8} {fs : List (List UInt8)} {vs : List Value} (hs : u.step = true) (hU : UAt wr b (u.with rest) a cap) (how : wr.ownsRow w.heap.size 23 1 vo fs.length vs) (hsl : Sls wr (SO w vo) vs fs) (hfr : Fr (fun k => k = b) w wr)
    (hE : (packs u.rest).1 = (packs rest).1 ∧ (packs u.rest).2.1 = (packs rest).2.1 ∧ (packs u.rest).2.2 = fs ++ (packs rest).2.2) (hp : packs rest = (true, rest, [])) (hkin : ∀ q, a = some q → ∃ q0, a0 = some q0 ∧ q0.block = q.block) (hq : Quiet wr w') : PkQ w b u a0 (packs u.rest) (.returned vo) w' := by
  obtain ⟨e1, e2, e3⟩ := hE
  rw [hp] at e1 e2 e3
  rw [List.append_nil] at e3
  have hb := hq.below (B := wr.heap.size)
  refine ⟨vo, a, cap, rfl, ?_, ?_, hfr.below hb (Nat.le_refl _), hkin⟩
  · rw [e1, e2, ← US.with_step hs]
    exact hU.below hb (Nat.le_refl _)
  · rw [e3]
    exact SAt.of_row (own_below how hb (Nat.le_refl _)) ((hsl.grow fun k hk => .inl (.inl hk)).below hb (Nat.le_refl _)) (fun k hk h => by have := (how.lt k hk).1; omega)
theorem pk_cut {w : World} {b n cap c5 g off : Nat} {u : US} {rest : List UInt8} {a5 : Option Addr} (hU : UAt w b (u.with rest) (some ⟨g, off, none⟩) cap) (hn : n ≤ rest.length) (hp : (a5 = some ⟨g, off + n, none⟩ ∧ c5 = cap - n) ∨ (rest.length = n ∧ a5 = some ⟨g, off, none⟩ ∧ c5 = 0)) :
    UAt (w.setCell ⟨b, 5, none⟩ (.slice a5 (rest.length - n) c5)) b (u.with (rest.drop n)) a5 c5 := by
  have hc := hU.hc
  have hm := hU.hm
  have hgb : g ≠ b := hU.ne ⟨g, off, none⟩ rfl
  simp only [US.with] at hc
  have hk : Blk (w.setCell ⟨b, 5, none⟩ (.slice a5 (rest.length - n) c5)) b 48 (ucells (u.with (rest.drop n)) a5 c5) := Blk.cast (hU.blk.setCell 5 _) (by simp [ucells, US.with])
  have hf : Fr (fun k => k = b) w (w.setCell ⟨b, 5, none⟩ (.slice a5 (rest.length - n) c5)) := (Fr.refl _ _).set1 _ (by exact .inl rfl)
  rcases hp with ⟨rfl, rfl⟩ | ⟨h1, rfl, rfl⟩
  · refine ⟨hk, by simp only [US.with, List.length_drop]; omega, by omega, ?_, .inr ⟨_, _, rfl⟩, fun q hq => by cases hq; exact hgb⟩
    have := BAt.sub (show BAt w (some ⟨g, off, none⟩) rest from hU.at_) n (rest.length - n)
    rw [List.take_of_length_le (by simp)] at this
    exact this.fr hf (fun q hq e => by cases hq; exact hgb e)
  · exact ⟨hk, by simp only [US.with, List.length_drop]; omega, by unfold maxLen; omega, .inl (by simp only [US.with]; exact List.length_eq_zero_iff.1 (by simp; omega)), .inr ⟨_, _, rfl⟩, fun q hq => by cases hq; exact hgb⟩
theorem bits_nat (a b : Nat) (ha : a < 9223372036854775808) (hb : b < 9223372036854775808) : bits .or .i64 (a : Int) (b : Int) = ((a ||| b : Nat) : Int) ∧ bits .and .i64 (a : Int) (b : Int) = ((a &&& b : Nat) : Int) := by
  have h1 : (BitVec.ofInt 64 (a : Int)).toNat = a := by
    rw [BitVec.ofInt_natCast, BitVec.toNat_ofNat]; exact Nat.mod_eq_of_lt (by omega)
  have h2 : (BitVec.ofInt 64 (b : Int)).toNat = b := by
    rw [BitVec.ofInt_natCast, BitVec.toNat_ofNat]; exact Nat.mod_eq_of_lt (by omega)
  constructor
  · have hx : a ||| b < 2 ^ 63 := Nat.or_lt_two_pow ha hb
    show IntKind.i64.wrap ((BitVec.ofInt 64 (a : Int) ||| BitVec.ofInt 64 (b : Int)).toNat : Int) = _
    rw [BitVec.toNat_or, h1, h2]
    exact IntWalk.i64_in _ (by omega)
  · have hx : a &&& b < 2 ^ 63 := Nat.and_lt_two_pow _ hb
    show IntKind.i64.wrap ((BitVec.ofInt 64 (a : Int) &&& BitVec.ofInt 64 (b : Int)).toNat : Int) = _
    rw [BitVec.toNat_and, h1, h2]
    exact IntWalk.i64_in _ (by omega)
theorem or_add (a b : Int) (k : Nat) (hk : k ≤ 30) (ha : 0 ≤ a ∧ a ≤ 1000000000) (hb : 0 ≤ b ∧ b < 2 ^ k) (hd : a % 2 ^ k = 0) : bits .or .i64 a b = a + b := by
  obtain ⟨n, rfl⟩ := Int.eq_ofNat_of_zero_le ha.1
  obtain ⟨m, rfl⟩ := Int.eq_ofNat_of_zero_le hb.1
  have hm : m < 2 ^ k := by have := hb.2; exact_mod_cast this
  have hk2 : (2 : Nat) ^ k ≤ 2 ^ 30 := Nat.pow_le_pow_right (by omega) hk
  have hn : n % 2 ^ k = 0 := by exact_mod_cast hd
  rw [(bits_nat n m (by omega) (by omega)).1]
  obtain ⟨q, rfl⟩ : ∃ q, n = 2 ^ k * q := ⟨n / 2 ^ k, by have := Nat.div_add_mod n (2 ^ k); omega⟩
  rw [← Nat.two_pow_add_eq_or_of_lt hm]
  simp
theorem apid_cond (x0 x1 : UInt8) (m : Nat) (h : m = x0.toNat % 8 * 256 + x1.toNat) : (bits .or .i64 ((x0.toNat : Int) % 8 * 256) (x1.toNat : Int) != 2047) = !decide (m = 2047) := by
  have h0 := x0.toNat_lt
  have h1 := x1.toNat_lt
  rw [or_add _ _ 8 (by omega) (by omega) (by omega) (by omega), Bool.eq_iff_iff]
  simp
  omega
/-- what the append of a packet leaves -/
theorem pk_app {w wq w8 : World} {b g3 cp3 c5 : Nat} {u : US} {r F : List UInt8} {a5 : Option Addr} {vo v8 : Value} {fs : List (List UInt8)} {vs : List Value} (hbl : b < w.heap.size) (hU : UAt wq b (u.with r) a5 c5) (hold : ∀ q, a5 = some q → r ≠ [] → q.block < w.heap.size)
    (how : wq.ownsRow w.heap.size 23 1 vo fs.length vs) (hsl : Sls wq (SO w vo) vs fs) (hfr : Fr (fun k => k = b) w wq) (hx : Sl wq (SO w vo) (.slice (some ⟨g3, 0, none⟩) F.length cp3) F)
    (how8 : w8.ownsRow w.heap.size 23 1 v8 (fs.length + 1) (vs ++ [.slice (some ⟨g3, 0, none⟩) F.length cp3])) (hg8 : (wq.alloc (.cells #[.slice (some ⟨g3, 0, none⟩) F.length cp3] 23)).grownBy w8 vo.ownBlock) (hb8 : v8.ownBlock = vo.ownBlock ∨ v8.ownBlock = some (wq.heap.size + 1)) :
    UAt w8 b (u.with r) a5 c5 ∧ Sls w8 (SO w v8) (vs ++ [.slice (some ⟨g3, 0, none⟩) F.length cp3]) (fs ++ [F]) ∧ Fr (fun k => k = b) w w8 := by
  have hvb : ∀ k, vo.ownBlock = some k → w.heap.size ≤ k ∧ k < wq.heap.size := fun k hk => how.lt k hk
  obtain ⟨ob, ho⟩ : ∃ ob, ob = Obj.cells #[.slice (some ⟨g3, 0, none⟩) F.length cp3] 23 := ⟨_, rfl⟩
  rw [← ho] at hg8
  have hsz : (wq.alloc ob).heap.size = wq.heap.size + 1 := by simp
  rw [← hsz] at hb8
  have hB7 := al (Below.refl _ wq) ob
  have hfg : Fr (fun k => vo.ownBlock = some k) (wq.alloc ob) w8 := (Fr.refl _ _).grown hg8 (fun k hk => .inl hk)
  refine ⟨(hU.below hB7 (Nat.le_refl _)).fr hfg (fun e => by have := (hvb b e).1; omega) (fun q hq hne e => by have := (hvb _ e).1; have := hold q hq hne; omega), ?_, (hfr.below hB7 (Nat.le_refl _)).then hfg (fun k hk => .inr (hvb k hk).1)⟩
  have h7 := (hsl.append (Sls.one hx)).below hB7 (Nat.le_refl _)
  have h8 : Sls (wq.alloc ob) (fun k => SO w vo k ∨ v8.ownBlock = some k) (vs ++ [.slice (some ⟨g3, 0, none⟩) F.length cp3]) (fs ++ [F]) := h7.grow (fun k hk => by
    rcases hk with h | h
    · exact .inl h
    · rcases hb8 with e | e
      · exact .inl (.inr (by rw [← e]; exact h))
      · rw [e] at h; cases h; exact .inr (Nat.le_refl _))
  exact (h8.fr hfg (fun k hk => .inl (.inl (.inr hk)))).grow (fun k hk => by
    rcases hk with h | h
    · exact .inl (.inl (.inl h))
    · exact .inl (.inr h))
/-- the other things behind the store and the look at the packet -/
theorem pk_all {w w2 w3 w5 : World} {b g3 cp3 n : Nat} {F : List UInt8} {vo : Value} {fs : List (List UInt8)} {vs : List Value} (hbl : b < w.heap.size) (how : w2.ownsRow w.heap.size 23 1 vo fs.length vs) (hsl : Sls w2 (SO w vo) vs fs) (hfr : Fr (fun k => k = b) w w2) (hB3 : Below w2.heap.size w2 w3) (hF5 : Fr (fun k => k = b) w3 w5)
    (hO3 : w3.ownsRow w2.heap.size 5 1 (.slice (some ⟨g3, 0, none⟩) F.length cp3) F.length (encB F)) (hA5 : BAt w5 (some ⟨g3, 0, none⟩) F) (hc : n ≤ cp3) (hFL : F.length = n) (hcm : cp3 ≤ maxLen) (nq : Nat) :
    (w5.drewN nq).ownsRow w.heap.size 23 1 vo fs.length vs ∧ Sls (w5.drewN nq) (SO w vo) vs fs ∧ Fr (fun k => k = b) w (w5.drewN nq) ∧ Sl (w5.drewN nq) (SO w vo) (.slice (some ⟨g3, 0, none⟩) F.length cp3) F := by
  have hs2 := hfr.size
  have hs3 := hB3.size
  have hf : Fr (fun k => k = b) w3 (w5.drewN nq) := hF5.drewN nq
  refine ⟨own_fr (own_below how hB3 (Nat.le_refl _)) hf (fun k hk e => by have := (how.lt k hk).1; omega), (hsl.below hB3 (Nat.le_refl _)).fr hf (fun k hk => .inl (.inl (by omega))), (hfr.below hB3 (Nat.le_refl _)).trans hf, _, _, rfl, by omega, hcm, hA5, fun q hq hne e => ?_⟩
  cases hq
  have h1 := (hO3.lt g3 rfl).1
  rcases e with e | e
  · simp only at e; omega
  · have := (how.lt _ e).2; simp only at this; omega
theorem pk_bad {w wr w' : World} {b cap : Nat} {u : US} {a0 a : Option Addr} {vo : Value} {rest : List UInt8} {fs : List (List UInt8)} {vs : List Value} (hbl : b < w.heap.size) (hU : UAt wr b (u.with rest) a cap) (how : wr.ownsRow w.heap.size 23 1 vo fs.length vs) (hsl : Sls wr (SO w vo) vs fs) (hfr : Fr (fun k => k = b) w wr)
    (hE : (packs u.rest).1 = (packs rest).1 ∧ (packs u.rest).2.1 = (packs rest).2.1 ∧ (packs u.rest).2.2 = fs ++ (packs rest).2.2) (hp : packs rest = (false, [], [])) (hk : Blk w' b 48 (ucells { u with step := false, rest := [] } none 0)) (hf : Fr (fun k => k = b) wr w') : PkQ w b u a0 (packs u.rest) (.returned vo) w' := by
  obtain ⟨e1, e2, e3⟩ := hE
  rw [hp] at e1 e2 e3
  rw [List.append_nil] at e3
  refine ⟨vo, none, 0, rfl, ?_, ?_, hfr.trans hf, fun q hq => by cases hq⟩
  · rw [e1, e2]
    exact ⟨hk, by simp, by unfold maxLen; omega, .inl rfl, .inl ⟨rfl, rfl⟩, fun q hq => by cases hq⟩
  · rw [e3]
    have hs1 := hfr.size
    exact SAt.of_row (own_fr how hf (fun k hk e => by have := (how.lt k hk).1; omega)) ((hsl.fr hf (fun k hk => .inl (.inl (by omega)))).grow fun k hk => .inl (.inl hk)) (fun k hk h => by have := (how.lt k hk).1; omega)
set_option maxRecDepth 20000 in
set_option maxHeartbeats 1000000 in
theorem packets_any (b cap0 : Nat) (u : US) (a0 : Option Addr) (w : World) (h : UAt w b u a0 cap0) (hs : u.step = true) (hl : u.rest.length ≤ 100000) :
    Calls Try.prog 21 #[.pointer (some ⟨b, 0, none⟩)] w (PkQ w b u a0 (packs u.rest)) := by
  have H := Lib.hid h
  have hbl := h.blk.lt
  have hlt0 := h.at_.lt
  have HLT := Lib.hid hlt0
  obtain ⟨j1, hj1, hz0, hz1, hz2⟩ := info_parts info23
  have HJ1 := Lib.hid hj1
  clear hj1
  clear h hlt0
  go_enter Try.func21, Try.ntmps21
  go_wp2_with fail
  go_loopg [3] (u.rest.length + 1) (fun gk vo wr => PkR w b u a0 gk vo wr)
  case atStart => exact ⟨u.rest, a0, cap0, [], [], H.out, ⟨World.ownsRow_nil _ _ _ _, Sls.nil, Fr.refl _ _⟩, ⟨rfl, rfl, by simp⟩, ⟨by omega, hl, by simpa using hl⟩, fun q hq hne => HLT.out q hq hne, fun q hq => ⟨q, hq, rfl⟩⟩
  case round =>
    obtain ⟨rest, a, cap, fs, vs, hU, ⟨how, hsl, hfr⟩, hE, ⟨hgk, hrl, hfl⟩, hold, hkin⟩ := hrel
    obtain ⟨-, ⟨c0, c1, c2, c3, c4, c5⟩, f0, f1, f2, f3, f4, f5⟩ := hU.walk
    have hlb := hU.blk.lt
    have hrc := hU.hc
    have HU := Lib.hid hU
    have HO := Lib.hid how
    have HSL := Lib.hid hsl
    have HFR := Lib.hid hfr
    have HE := Lib.hid hE
    have HOLD := Lib.hid hold
    have HKIN := Lib.hid hkin
    simp only [US.with] at c1 c2 c3 c4 c5 hrc
    clear hU how hsl hfr hE hold hkin f0 f1 f3 f4 c0 c1 c3 c4
    by_cases h6 : rest.length < 6
    · have e6 : ¬ (6 : Int) ≤ (rest.length : Int) := by omega
      have HP := Lib.hid (packs_few rest h6)
      clear h6
      go_wp2_with fail
      go_ret
      exact pk_end hs HU.out HO.out HSL.out HFR.out HE.out HP.out HKIN.out (Quiet.refl _)
    · have e6 : (6 : Int) ≤ (rest.length : Int) := by omega
      have h66 : 6 ≤ rest.length := by omega
      go_wp2_with fail
      refine (length_any a rest.length cap rest _ rfl h66 (by omega) HU.out.at_).mono ?_
      rintro e w2 ⟨rfl, hq⟩
      have hbq := hq.below (B := wr.heap.size)
      have hU2 := HU.out.below hbq (Nat.le_refl _)
      obtain ⟨-, ⟨k0, k1, k2, k3, k4, k5⟩, f0, f1, f2, f3, f4, f5⟩ := hU2.walk
      simp only [US.with] at k5
      have hl2 := hU2.blk.lt
      have HU2 := Lib.hid hU2
      have HO2 := Lib.hid (own_below HO.out hbq (Nat.le_refl _))
      have HSL2 := Lib.hid (HSL.out.below hbq (Nat.le_refl _))
      have HFR2 := Lib.hid (HFR.out.below hbq (Nat.le_refl _))
      have hn7 := hdN_ge rest
      obtain ⟨n, hn⟩ : ∃ n, n = hdN rest := ⟨_, rfl⟩
      rw [← hn] at hn7
      rw [← hn]
      have HN := Lib.hid hn
      clear hq hbq hU2 HU HO HSL HFR c5 f0 f1 f3 f4 k0 k1 k3 k4 hn
      cases hk : hdOk rest
      · have HP : Hid (packs rest = (false, [], [])) := Lib.hid (packs_bad rest h6 (by unfold lenB; rw [hk]; rfl))
        clear hk h6
        go_wp2_with fail
        go_ret
        exact pk_bad hbl HU2.out HO2.out HSL2.out HFR2.out HE.out HP.out (Blk.cast ((HU2.out.blk.setCell 5 _).setCell 2 _) rfl) (((Fr.refl _ _).set1 _ (by exact .inl rfl)).set1 _ (by exact .inl rfl))
      · have hln : lenB rest = n := by rw [HN.out]; exact lenB_hd rest hk
        by_cases h1 : rest.length < n
        · have HP : Hid (packs rest = (true, rest, [])) := Lib.hid (packs_wait rest h6 (by omega) (by omega))
          have e1 : (rest.length : Int) < (n : Int) := by omega
          clear hk h6 h1 hln
          go_wp2_with fail
          go_ret
          exact pk_end hs HU2.out HO2.out HSL2.out HFR2.out HE.out HP.out HKIN.out (Quiet.refl _)
        · have HP := Lib.hid (packs_more rest h6 (by omega) (by omega))
          rw [hln] at HP
          have e1 : ¬ (rest.length : Int) < (n : Int) := by omega
          have hnl : n ≤ rest.length := by omega
          have i1 : (n : Int) ≤ (rest.length : Int) := by omega
          have i2 : (rest.length : Int) ≤ (cap : Int) := by omega
          have i3 : (0 : Int) ≤ (n : Int) := by omega
          obtain ⟨F, hF⟩ : ∃ F, F = rest.take n := ⟨_, rfl⟩
          rw [← hF] at HP
          have HF := Lib.hid hF
          have HFL : Hid (F.length = n) := Lib.hid (by rw [hF]; simp; omega)
          clear hk h6 hln hF h1
          obtain ⟨g, off, rfl⟩ := HU2.out.sh.resolve_left (fun e => by have := HU2.out.hc; simp only [US.with] at this; omega)
          go_wp2_with fail
          refine (clone_n _ n cap F _ HFL.out (by rw [HFL.out]; omega) (by rw [HF.out]; exact HU2.out.at_.take n)).mono ?_
          rintro e w3 ⟨v3, rfl, hO3, hB3⟩
          obtain ⟨-, a3, cp3, rfl, hc3, hm3, hA3⟩ := BAt.of_row hO3
          rcases own_shape hO3 with ⟨-, -, e⟩ | ⟨g3, rfl, hg1, hg2⟩
          · have := HFL.out; omega
          have hU3 := HU2.out.below hB3 (Nat.le_refl _)
          obtain ⟨-, ⟨k0, k1, k2, k3, k4, m5⟩, f0, f1, f2, f3, f4, mf5⟩ := hU3.walk
          have hl3 := hU3.blk.lt
          simp only [US.with] at m5
          rw [HFL.out] at hc3
          have HU3 := Lib.hid hU3
          have HO3 := Lib.hid hO3
          have HB3 := Lib.hid hB3
          have HA3 := Lib.hid hA3
          clear hU3 hO3 hB3 hA3 k0 k1 k2 k3 k4 f0 f1 f2 f3 f4 f5 k5 c2
          by_cases hcn : cap = n
          · obtain rfl : rest.length = n := by have := HU2.out.hc; simp only [US.with] at this; omega
            obtain rfl : cap = rest.length := hcn
            have hFl2 : F.length ≤ 100000 := by have := HFL.out; omega
            go_wp2_with fail
            have hU5 := pk_cut (n := rest.length) (a5 := (some ⟨g, off, none⟩)) (c5 := 0) HU3.out (by omega) (.inr ⟨rfl, rfl, rfl⟩)
            have hf5 : Fr (fun k => k = b) w3 (w3.setCell ⟨b, 5, none⟩ (.slice (some ⟨g, off, none⟩) 0 0)) := (Fr.refl _ _).set1 _ (by exact .inl rfl)
            obtain ⟨w5, hw5⟩ : ∃ w5, w5 = w3.setCell ⟨b, 5, none⟩ (.slice (some ⟨g, off, none⟩) 0 0) := ⟨_, rfl⟩
            rw [Nat.sub_self] at hU5
            rw [← hw5] at hU5 hf5
            rw [← hw5]
            have HA5 := Lib.hid (HA3.out.fr hf5 (fun q hq e => by cases hq; simp only at e; omega))
            have p0 := cell_getD HA5.out 0 (by rw [HFL.out]; omega)
            have p1 := cell_getD HA5.out 1 (by rw [HFL.out]; omega)
            have HU5 := Lib.hid hU5
            have HF5 := Lib.hid hf5
            simp only [Nat.zero_add] at p0 p1
            obtain ⟨x0, hx0⟩ : ∃ x, x = F.getD 0 0 := ⟨_, rfl⟩
            obtain ⟨x1, hx1⟩ : ∃ x, x = F.getD 1 0 := ⟨_, rfl⟩
            rw [← hx0] at p0
            rw [← hx1] at p1
            have hap : apid rest = x0.toNat % 8 * 256 + x1.toNat := by
              rw [hx0, hx1, HF.out, apid]
              rw [List.getD_eq_getElem?_getD, List.getD_eq_getElem?_getD, List.getD_eq_getElem?_getD, List.getD_eq_getElem?_getD, List.getElem?_take_of_lt (by omega), List.getElem?_take_of_lt (by omega)]
            have hcd := apid_cond x0 x1 _ hap
            have b0 := UInt8.toNat_lt x0
            have b1 := UInt8.toNat_lt x1
            have g8 : (1 : Int) < (F.length : Int) := by have := HFL.out; omega
            have g9 : (0 : Int) < (F.length : Int) := by have := HFL.out; omega
            clear hU5 hf5 hw5 hx0 hx1 m5 mf5 hap
            by_cases h20 : apid rest = 2047
            · rw [decide_eq_true h20] at hcd
              simp only [Bool.not_true] at hcd
              have HP2 : Hid (packs rest = ((packs (rest.drop rest.length)).1, (packs (rest.drop rest.length)).2.1, (packs (rest.drop rest.length)).2.2)) := Lib.hid (by rw [HP.out, if_pos h20])
              clear h20 HP
              go_quiet (fail)
              have hall := pk_all hbl HO2.out HSL2.out HFR2.out HB3.out HF5.out HO3.out HA5.out hc3 HFL.out hm3 nq
              have HALL := Lib.hid hall
              clear hall p0 p1
              go_wp2_with fail
              go_roundg (gk - 1)
              case rel =>
                obtain ⟨q1, q2, q3, q4⟩ := HALL.out
                obtain ⟨e1, e2, e3⟩ := HE.out
                rw [HP2.out] at e1 e2 e3
                exact ⟨rest.drop rest.length, (some ⟨g, off, none⟩), 0, fs, vs, HU5.out.drewN _, ⟨q1, q2, q3⟩, ⟨e1, e2, e3⟩, ⟨by rw [List.length_drop]; omega, by rw [List.length_drop]; omega, by simp only [List.length_drop, List.length_append, List.length_cons, List.length_nil]; omega⟩, fun q hq _ => by cases hq; exact HOLD.out ⟨g, off, none⟩ rfl (fun e => by rw [e] at h66; simp at h66), fun q hq => by cases hq; exact HKIN.out ⟨g, off, none⟩ rfl⟩
              case measure => omega
            · rw [decide_eq_false h20] at hcd
              simp only [Bool.not_false] at hcd
              have HP2 : Hid (packs rest = ((packs (rest.drop rest.length)).1, (packs (rest.drop rest.length)).2.1, F :: (packs (rest.drop rest.length)).2.2)) := Lib.hid (by rw [HP.out, if_neg h20])
              clear h20 HP
              go_quiet (fail)
              have hall := pk_all hbl HO2.out HSL2.out HFR2.out HB3.out HF5.out HO3.out HA5.out hc3 HFL.out hm3 nq
              have hU6 : UAt (w5.drewN nq) b (u.with (rest.drop rest.length)) (some ⟨g, off, none⟩) 0 := HU5.out.drewN nq
              generalize w5.drewN nq = wq at hall hU6 ⊢
              have HALL := Lib.hid hall
              have HU6 := Lib.hid hU6
              have HX := Lib.hid (one_vat wq (.slice (some ⟨g3, 0, none⟩) F.length cp3) 23)
              have hsq := hall.2.2.1.size
              clear hall hU6 p0 p1
              go_wp2_with (at_builtin; refine wpList_append_src _ rfl _ _ 22 rfl w.heap.size 23 j1 (.slice none 0 0) 24 Try.underlying22 HJ1.out hz0 hz1 hz2 (by rfl) _ fs.length vs rfl (own_below HALL.out.1 (al (Below.refl _ wq) _) (Nat.le_refl _)) (some ⟨wq.heap.size, 0, none⟩) 1 1 [.slice (some ⟨g3, 0, none⟩) F.length cp3] rfl (by rfl) HX.out (by simp [Value.oneCell']) (by unfold maxLen; omega) (by omega) (by simp; omega) ?_)
              intro v8 w8 hown8 hgrow8 hblk8
              have hap := pk_app hbl HU6.out (fun q hq _ => by cases hq; exact HOLD.out ⟨g, off, none⟩ rfl (fun e => by rw [e] at h66; simp at h66)) HALL.out.1 HALL.out.2.1 HALL.out.2.2.1 HALL.out.2.2.2 hown8 hgrow8 hblk8
              have HAP := Lib.hid hap
              have HO8 := Lib.hid hown8
              clear hap hown8 hgrow8 hblk8
              go_wp2_with fail
              go_roundg (gk - 1)
              case rel =>
                obtain ⟨q1, q2, q3⟩ := HAP.out
                obtain ⟨e1, e2, e3⟩ := HE.out
                rw [HP2.out] at e1 e2 e3
                rw [List.append_cons] at e3
                exact ⟨rest.drop rest.length, (some ⟨g, off, none⟩), 0, fs ++ [F], vs ++ [.slice (some ⟨g3, 0, none⟩) F.length cp3], q1, ⟨by rw [List.length_append]; exact HO8.out, q2, q3⟩, ⟨e1, e2, e3⟩, ⟨by rw [List.length_drop]; omega, by rw [List.length_drop]; omega, by simp only [List.length_drop, List.length_append, List.length_cons, List.length_nil]; omega⟩, fun q hq _ => by cases hq; exact HOLD.out ⟨g, off, none⟩ rfl (fun e => by rw [e] at h66; simp at h66), fun q hq => by cases hq; exact HKIN.out ⟨g, off, none⟩ rfl⟩
              case measure => omega
          · have hcn' : ¬ cap = n := hcn
            clear hcn
            have hFl2 : F.length ≤ 100000 := by have := HFL.out; omega
            go_wp2_with fail
            have hU5 := pk_cut (n := n) (a5 := (some ⟨g, off + n, none⟩)) (c5 := (cap - n)) HU3.out (by omega) (.inl ⟨rfl, rfl⟩)
            have hf5 : Fr (fun k => k = b) w3 (w3.setCell ⟨b, 5, none⟩ (.slice (some ⟨g, off + n, none⟩) (rest.length - n) (cap - n))) := (Fr.refl _ _).set1 _ (by exact .inl rfl)
            obtain ⟨w5, hw5⟩ : ∃ w5, w5 = w3.setCell ⟨b, 5, none⟩ (.slice (some ⟨g, off + n, none⟩) (rest.length - n) (cap - n)) := ⟨_, rfl⟩
            
            rw [← hw5] at hU5 hf5
            rw [← hw5]
            have HA5 := Lib.hid (HA3.out.fr hf5 (fun q hq e => by cases hq; simp only at e; omega))
            have p0 := cell_getD HA5.out 0 (by rw [HFL.out]; omega)
            have p1 := cell_getD HA5.out 1 (by rw [HFL.out]; omega)
            have HU5 := Lib.hid hU5
            have HF5 := Lib.hid hf5
            simp only [Nat.zero_add] at p0 p1
            obtain ⟨x0, hx0⟩ : ∃ x, x = F.getD 0 0 := ⟨_, rfl⟩
            obtain ⟨x1, hx1⟩ : ∃ x, x = F.getD 1 0 := ⟨_, rfl⟩
            rw [← hx0] at p0
            rw [← hx1] at p1
            have hap : apid rest = x0.toNat % 8 * 256 + x1.toNat := by
              rw [hx0, hx1, HF.out, apid]
              rw [List.getD_eq_getElem?_getD, List.getD_eq_getElem?_getD, List.getD_eq_getElem?_getD, List.getD_eq_getElem?_getD, List.getElem?_take_of_lt (by omega), List.getElem?_take_of_lt (by omega)]
            have hcd := apid_cond x0 x1 _ hap
            have b0 := UInt8.toNat_lt x0
            have b1 := UInt8.toNat_lt x1
            have g8 : (1 : Int) < (F.length : Int) := by have := HFL.out; omega
            have g9 : (0 : Int) < (F.length : Int) := by have := HFL.out; omega
            clear hU5 hf5 hw5 hx0 hx1 m5 mf5 hap
            by_cases h20 : apid rest = 2047
            · rw [decide_eq_true h20] at hcd
              simp only [Bool.not_true] at hcd
              have HP2 : Hid (packs rest = ((packs (rest.drop n)).1, (packs (rest.drop n)).2.1, (packs (rest.drop n)).2.2)) := Lib.hid (by rw [HP.out, if_pos h20])
              clear h20 HP
              go_quiet (fail)
              have hall := pk_all hbl HO2.out HSL2.out HFR2.out HB3.out HF5.out HO3.out HA5.out hc3 HFL.out hm3 nq
              have HALL := Lib.hid hall
              clear hall p0 p1
              go_wp2_with fail
              go_roundg (gk - 1)
              case rel =>
                obtain ⟨q1, q2, q3, q4⟩ := HALL.out
                obtain ⟨e1, e2, e3⟩ := HE.out
                rw [HP2.out] at e1 e2 e3
                exact ⟨rest.drop n, (some ⟨g, off + n, none⟩), (cap - n), fs, vs, HU5.out.drewN _, ⟨q1, q2, q3⟩, ⟨e1, e2, e3⟩, ⟨by rw [List.length_drop]; omega, by rw [List.length_drop]; omega, by simp only [List.length_drop, List.length_append, List.length_cons, List.length_nil]; omega⟩, fun q hq _ => by cases hq; exact HOLD.out ⟨g, off, none⟩ rfl (fun e => by rw [e] at h66; simp at h66), fun q hq => by cases hq; exact HKIN.out ⟨g, off, none⟩ rfl⟩
              case measure => omega
            · rw [decide_eq_false h20] at hcd
              simp only [Bool.not_false] at hcd
              have HP2 : Hid (packs rest = ((packs (rest.drop n)).1, (packs (rest.drop n)).2.1, F :: (packs (rest.drop n)).2.2)) := Lib.hid (by rw [HP.out, if_neg h20])
              clear h20 HP
              go_quiet (fail)
              have hall := pk_all hbl HO2.out HSL2.out HFR2.out HB3.out HF5.out HO3.out HA5.out hc3 HFL.out hm3 nq
              have hU6 : UAt (w5.drewN nq) b (u.with (rest.drop n)) (some ⟨g, off + n, none⟩) (cap - n) := HU5.out.drewN nq
              generalize w5.drewN nq = wq at hall hU6 ⊢
              have HALL := Lib.hid hall
              have HU6 := Lib.hid hU6
              have HX := Lib.hid (one_vat wq (.slice (some ⟨g3, 0, none⟩) F.length cp3) 23)
              have hsq := hall.2.2.1.size
              clear hall hU6 p0 p1
              go_wp2_with (at_builtin; refine wpList_append_src _ rfl _ _ 22 rfl w.heap.size 23 j1 (.slice none 0 0) 24 Try.underlying22 HJ1.out hz0 hz1 hz2 (by rfl) _ fs.length vs rfl (own_below HALL.out.1 (al (Below.refl _ wq) _) (Nat.le_refl _)) (some ⟨wq.heap.size, 0, none⟩) 1 1 [.slice (some ⟨g3, 0, none⟩) F.length cp3] rfl (by rfl) HX.out (by simp [Value.oneCell']) (by unfold maxLen; omega) (by omega) (by simp; omega) ?_)
              intro v8 w8 hown8 hgrow8 hblk8
              have hap := pk_app hbl HU6.out (fun q hq _ => by cases hq; exact HOLD.out ⟨g, off, none⟩ rfl (fun e => by rw [e] at h66; simp at h66)) HALL.out.1 HALL.out.2.1 HALL.out.2.2.1 HALL.out.2.2.2 hown8 hgrow8 hblk8
              have HAP := Lib.hid hap
              have HO8 := Lib.hid hown8
              clear hap hown8 hgrow8 hblk8
              go_wp2_with fail
              go_roundg (gk - 1)
              case rel =>
                obtain ⟨q1, q2, q3⟩ := HAP.out
                obtain ⟨e1, e2, e3⟩ := HE.out
                rw [HP2.out] at e1 e2 e3
                rw [List.append_cons] at e3
                exact ⟨rest.drop n, (some ⟨g, off + n, none⟩), (cap - n), fs ++ [F], vs ++ [.slice (some ⟨g3, 0, none⟩) F.length cp3], q1, ⟨by rw [List.length_append]; exact HO8.out, q2, q3⟩, ⟨e1, e2, e3⟩, ⟨by rw [List.length_drop]; omega, by rw [List.length_drop]; omega, by simp only [List.length_drop, List.length_append, List.length_cons, List.length_nil]; omega⟩, fun q hq _ => by cases hq; exact HOLD.out ⟨g, off, none⟩ rfl (fun e => by rw [e] at h66; simp at h66), fun q hq => by cases hq; exact HKIN.out ⟨g, off, none⟩ rfl⟩
              case measure => omega
end Go.Proofs.Ytllpbfejoahllaa

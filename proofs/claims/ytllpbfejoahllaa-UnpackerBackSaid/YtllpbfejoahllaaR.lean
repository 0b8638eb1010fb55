/- The chapter's examples. No condition. -/
import Derived.Test.YtllpbfejoahllaaQ
import Derived.Test.YtllpbfejoahllaaM
import Derived.Deep.DeepCutAuto
import Derived.Deep.CutBlock
import Derived.Outline
namespace Go.Proofs.Ytllpbfejoahllaa
open Go.RowKit Go.Deep Go.ChangeShapes Go.WideShapes Go.ChangeAt
set_option linter.unusedVariables false

/-- the packets, with fuel -/
def packsF : Nat → List UInt8 → Bool × List UInt8 × List (List UInt8)
  | 0, b => (true, b, [])
  | n + 1, b => if b.length < 6 then (true, b, [])
    else if lenB b = 0 then (false, [], [])
    else if b.length < lenB b then (true, b, [])
    else ((packsF n (b.drop (lenB b))).1, (packsF n (b.drop (lenB b))).2.1, if apid b = 2047 then (packsF n (b.drop (lenB b))).2.2 else b.take (lenB b) :: (packsF n (b.drop (lenB b))).2.2)
theorem packs_fuel (n : Nat) : ∀ b : List UInt8, b.length ≤ n → packs b = packsF n b := by
  induction n with
  | zero => intro b hb; rw [packs_few b (by omega)]; rfl
  | succ n ih =>
    intro b hb
    unfold packsF
    by_cases h : b.length < 6
    · rw [if_pos h, packs_few b h]
    · rw [if_neg h]
      by_cases h0 : lenB b = 0
      · rw [if_pos h0, packs_bad b h h0]
      · rw [if_neg h0]
        by_cases h1 : b.length < lenB b
        · rw [if_pos h1, packs_wait b h h0 h1]
        · have := lenB_ge b h0
          rw [if_neg h1, packs_more b h h0 h1, ih _ (by simp; omega)]
def US.eatF (u : US) (f : Int) (data : List UInt8) : US × List (List UInt8) :=
  let st := u.step && decide (f = fitR u.rest data)
  if !st && decide (f = 2047) then ({ u with step := false, rest := [] }, [])
  else
    let r := packsF 30 (if st then u.rest ++ data else data.drop f.toNat)
    ({ u with step := r.1, rest := r.2.1 }, r.2.2)
def US.takeF (u : US) (c f : Int) (data : List UInt8) : US × List (List UInt8) :=
  if badT c f data then (u, []) else if f = 2046 then (u.count c, []) else (u.count c).eatF f data
theorem take_fuel (u : US) (c f : Int) (data : List UInt8) (h : u.rest.length + data.length ≤ 30) : u.take c f data = u.takeF c f data := by
  have : (u.count c).eat f data = (u.count c).eatF f data := by
    have hr : (u.count c).rest = u.rest := rfl
    unfold US.eat US.eatF
    dsimp only
    rw [packs_fuel 30]
    split
    · rw [hr, List.length_append]; exact h
    · simp; omega
  unfold US.take US.takeF
  rw [this]
def exP : List UInt8 := [8, 1, 192, 0, 0, 0, 170]
def exQ : List UInt8 := [8, 1, 192, 1, 0, 1, 187, 204]
def exS : List UInt8 := exP ++ exQ
def uA : US := ⟨true, true, 1, 0, exS.take 5⟩
def uB : US := ⟨true, true, 2, 0, [8, 1, 192]⟩
def uC : US := ⟨true, true, 3, 0, []⟩
def uG : US := ⟨true, false, 3, 1, []⟩
theorem ex1 : US.new.take 0 0 (exS.take 5) = (uA, []) := (take_fuel _ _ _ _ (by decide)).trans (by kernel_rfl)
theorem ex2 : uA.take 1 2 ((exS.drop 5).take 5) = (uB, [exP]) := (take_fuel _ _ _ _ (by decide)).trans (by kernel_rfl)
theorem ex3 : uB.take 2 2047 (exS.drop 10) = (uC, [exQ]) := (take_fuel _ _ _ _ (by decide)).trans (by kernel_rfl)
theorem ex4 : US.new.take 1 2 ((exS.drop 5).take 5) = (uB, []) := (take_fuel _ _ _ _ (by decide)).trans (by kernel_rfl)
theorem ex5 : uA.take 2 2047 (exS.drop 10) = (uG, []) := (take_fuel _ _ _ _ (by decide)).trans (by kernel_rfl)
theorem BAt.low {w w' : World} {a : Option Addr} {l : List UInt8} {B : Nat} (h : BAt w a l) (hb : ∀ q, a = some q → l ≠ [] → q.block < B) (hf : Below B w w') : BAt w' a l := by
  rcases h with h | ⟨b, off, h1, h2, h3⟩
  · exact .inl h
  · by_cases hl : l = []
    · exact .inl hl
    · exact .inr ⟨b, off, h1, Nat.lt_of_lt_of_le h2 hf.size, fun i hi => (hf.cell (p := ⟨b, off + i, none⟩) (hb ⟨b, off, none⟩ h1 hl)).trans (h3 i hi)⟩
theorem one_sat (w : World) (a : Option Addr) (n cap : Nat) (l : List UInt8) (hn : l.length = n) (h : BAt w a l) (hc : n ≤ cap) (hm : cap ≤ maxLen) : SAt (w.alloc (.cells #[.slice a n cap] 23)) (fun _ => False) (.slice (some ⟨w.heap.size, 0, none⟩) 1 1) [l] := by
  subst hn
  refine ⟨_, 1, [.slice a l.length cap], rfl, Nat.le_refl _, by unfold maxLen; omega, one_vat w _ 23, fun _ _ _ h => h, Sls.one ⟨a, cap, rfl, hc, hm, h.below (al (Below.refl _ _) _) (Nat.le_refl _), fun _ _ _ h => h⟩⟩
/-- Take, where the result is known -/
theorem take_ex {b cap cd n : Nat} {u u' : US} {a ad : Option Addr} {c f : Int} {data : List UInt8} {outs : List (List UInt8)} {w : World} (e : u.take c f data = (u', outs)) (h : UAt w b u a cap) (h1 : 0 ≤ u.next ∧ u.next < 256) (h2 : 0 ≤ u.lost ∧ u.lost ≤ 1000000000) (hr : u.rest.length ≤ 4096) (hd : BAt w ad data) (hn : data.length = n) (hl : n ≤ 10000) (hcd : n ≤ cd) (hcm : cd ≤ maxLen) :
    Calls Try.prog 12 #[.pointer (some ⟨b, 0, none⟩), .int .i64 c, .int .i64 f, .slice ad n cd] w (TkQ w b a u.rest (u', outs)) := by
  subst hn
  rw [← e]
  exact take_any b cap cd u a ad c f data w h h1 h2 hr hd hl hcd hcm
theorem lit8 (w : World) (x0 x1 x2 x3 x4 x5 x6 x7 : UInt8) : BAt (w.alloc (.cells #[.int .u8 (x0.toNat : Int), .int .u8 (x1.toNat : Int), .int .u8 (x2.toNat : Int), .int .u8 (x3.toNat : Int), .int .u8 (x4.toNat : Int), .int .u8 (x5.toNat : Int), .int .u8 (x6.toNat : Int), .int .u8 (x7.toNat : Int)] 5)) (some ⟨w.heap.size, 0, none⟩) [x0, x1, x2, x3, x4, x5, x6, x7] := by
  refine .inr ⟨_, _, rfl, by simp, fun i hi => ?_⟩
  rw [Joins.cell_alloc_mark_at _ _ _ _ _ _ rfl]
  match i, hi with
  | 0, _ => rfl
  | 1, _ => rfl
  | 2, _ => rfl
  | 3, _ => rfl
  | 4, _ => rfl
  | 5, _ => rfl
  | 6, _ => rfl
  | 7, _ => rfl
theorem lit7 (w : World) (x0 x1 x2 x3 x4 x5 x6 : UInt8) : BAt (w.alloc (.cells #[.int .u8 (x0.toNat : Int), .int .u8 (x1.toNat : Int), .int .u8 (x2.toNat : Int), .int .u8 (x3.toNat : Int), .int .u8 (x4.toNat : Int), .int .u8 (x5.toNat : Int), .int .u8 (x6.toNat : Int)] 5)) (some ⟨w.heap.size, 0, none⟩) [x0, x1, x2, x3, x4, x5, x6] := by
  refine .inr ⟨_, _, rfl, by simp, fun i hi => ?_⟩
  rw [Joins.cell_alloc_mark_at _ _ _ _ _ _ rfl]
  match i, hi with
  | 0, _ => rfl
  | 1, _ => rfl
  | 2, _ => rfl
  | 3, _ => rfl
  | 4, _ => rfl
  | 5, _ => rfl
  | 6, _ => rfl
set_option maxRecDepth 20000 in
set_option maxHeartbeats 4000000 in
theorem alive_any (w : World) : Calls Try.prog 7 #[] w fun e w' => e = .returned (.bool true) ∧ Below w.heap.size w w' := by
  obtain ⟨j0, hj, hy0, hy1, hy2⟩ := info_parts info5
  have HJ := Lib.hid hj
  clear hj
  have hp7 : ∀ w' : World, BAt (w'.alloc (.cells #[.int .u8 8, .int .u8 1, .int .u8 192, .int .u8 0, .int .u8 0, .int .u8 0, .int .u8 170] 5)) (some ⟨w'.heap.size, 0, none⟩) exP := fun w' => lit7 w' 8 1 192 0 0 0 170
  have hq8 : ∀ w' : World, BAt (w'.alloc (.cells #[.int .u8 8, .int .u8 1, .int .u8 192, .int .u8 1, .int .u8 0, .int .u8 1, .int .u8 187, .int .u8 204] 5)) (some ⟨w'.heap.size, 0, none⟩) exQ := fun w' => lit8 w' 8 1 192 1 0 1 187 204
  obtain ⟨wp, hwp⟩ : ∃ wp, wp = w.alloc (.cells #[.int .u8 8, .int .u8 1, .int .u8 192, .int .u8 0, .int .u8 0, .int .u8 0, .int .u8 170] 5) := ⟨_, rfl⟩
  obtain ⟨wq, hwq⟩ : ∃ wq, wq = wp.alloc (.cells #[.int .u8 8, .int .u8 1, .int .u8 192, .int .u8 1, .int .u8 0, .int .u8 1, .int .u8 187, .int .u8 204] 5) := ⟨_, rfl⟩
  have hszp : wp.heap.size = w.heap.size + 1 := by rw [hwp]; simp
  have hBp : Below w.heap.size w wp := by rw [hwp]; exact al (Below.refl _ _) _
  have hBq : Below wp.heap.size wp wq := by rw [hwq]; exact al (Below.refl _ _) _
  have HP : Hid (BAt wq (some ⟨w.heap.size, 0, none⟩) exP) := Lib.hid (by have := hp7 w; rw [← hwp] at this; exact this.below hBq (Nat.le_refl _))
  have HQ : Hid (BAt wq (some ⟨w.heap.size + 1, 0, none⟩) exQ) := Lib.hid (by have := hq8 wp; rw [← hwq, hszp] at this; exact this)
  have HBq : Hid (Below w.heap.size w wq) := Lib.hid (hBp.trans (hBq.mono (by omega)))
  have hszq : w.heap.size + 2 ≤ wq.heap.size := by rw [hwq]; simp; omega
  have HV1 := Lib.hid (HP.out.below (al (Below.refl _ wq) (.cells #[] 5)) (Nat.le_refl _)).vat
  have HEQ : Hid ((w.alloc (.cells #[.int .u8 8, .int .u8 1, .int .u8 192, .int .u8 0, .int .u8 0, .int .u8 0, .int .u8 170] 5)).alloc (.cells #[.int .u8 8, .int .u8 1, .int .u8 192, .int .u8 1, .int .u8 0, .int .u8 1, .int .u8 187, .int .u8 204] 5) = wq) := Lib.hid (by rw [hwq, hwp])
  clear hp7 hq8 hwp hwq hBp hBq hszp
  go_enter Try.func7, Try.ntmps7
  go_upto_region 3 with fail
  rw [HEQ.out]
  go_wp2_with (at_builtin; refine wpList_append_src _ rfl (.tmp 16) (.tmp 17) 23 rfl wq.heap.size 5 j0 (.int .u8 0) 1 Try.underlying23 HJ.out hy0 hy1 hy2 rfl _ 0 [] rfl (own_empty _ _ wq.heap.size rfl _ (Nat.le_refl _)) (some ⟨w.heap.size, 0, none⟩) 7 7 (encB exP) rfl (by rfl) HV1.out (encB_one _) (by unfold maxLen; omega) (by omega) (by simp) ?_)
  intro v3 w3 hown3 hgrow3 _
  have HB3 := Lib.hid (((Below.refl wq.heap.size wq).alloc (Nat.le_refl _) (.cells #[] 5)).grown hgrow3 (by simp) (fun k hk => by simp [Value.ownBlock] at hk; omega))
  have HO3 : Hid (w3.ownsRow wq.heap.size 5 1 v3 7 (encB exP)) := Lib.hid (by simpa using hown3)
  have HV2 := Lib.hid (HQ.out.below HB3.out (Nat.le_refl _)).vat
  have hs3 := HB3.out.size
  clear hown3 hgrow3 HV1
  go_wp2_with (at_builtin; refine wpList_append_src _ rfl (.tmp 18) (.tmp 19) 23 rfl wq.heap.size 5 j0 (.int .u8 0) 1 Try.underlying23 HJ.out hy0 hy1 hy2 rfl _ 7 (encB exP) rfl HO3.out (some ⟨w.heap.size + 1, 0, none⟩) 8 8 (encB exQ) rfl (by rfl) HV2.out (encB_one _) (by unfold maxLen; omega) (by omega) hs3 ?_)
  intro v4 ws hown4 hgrow4 _
  have HB4 := Lib.hid (HB3.out.grown hgrow4 hs3 (fun k hk => (HO3.out.lt k hk).1))
  have hO4 : ws.ownsRow wq.heap.size 5 1 v4 15 (encB exS) := hown4
  obtain ⟨-, a4, c4, rfl, hc4, hm4, hA4⟩ := BAt.of_row hO4
  have hc15 : 15 ≤ c4 := hc4
  rcases own_shape hO4 with ⟨-, -, e⟩ | ⟨g4, rfl, hg1, hg2⟩
  · exact absurd e (by decide)
  have HS := Lib.hid hA4
  have hss := HB4.out.size
  have HPs := Lib.hid (HP.out.below HB4.out (Nat.le_refl _))
  have HQs := Lib.hid (HQ.out.below HB4.out (Nat.le_refl _))
  have HBs := Lib.hid (HBq.out.trans (HB4.out.mono (by omega)))
  have e15 : exS.length = 15 := rfl
  have i1 : ¬ c4 = 5 := by omega
  have i2 : ¬ c4 = 10 := by omega
  have i3 : (5 : Int) ≤ (c4 : Int) := by omega
  have i4 : (10 : Int) ≤ (c4 : Int) := by omega
  have i5 : (15 : Int) ≤ (c4 : Int) := by omega
  clear hown4 hgrow4 hO4 hA4 HO3 HV2 HB3 hs3 hc4 HB4 HBq HP HQ HEQ

  have HS5 : Hid (BAt ws (some ⟨g4, 0, none⟩) (exS.take 5)) := Lib.hid (HS.out.take 5)
  have HS6 : Hid (BAt ws (some ⟨g4, 5, none⟩) ((exS.drop 5).take 5)) := Lib.hid (by have := BAt.sub HS.out 5 5; rwa [Nat.zero_add] at this)
  have HS7 : Hid (BAt ws (some ⟨g4, 10, none⟩) (exS.drop 10)) := Lib.hid (by
    have := BAt.sub HS.out 10 10
    rw [Nat.zero_add, List.take_of_length_le (by decide)] at this
    exact this)
  have HB0 : Hid (Below ws.heap.size ws ws) := Lib.hid (Below.refl _ _)
  clear HS
  go_wp2_with fail
  refine (new_any _).mono ?_
  rintro e wu ⟨rfl, hU, hB⟩
  have HB1 : Hid (Below ws.heap.size ws wu) := Lib.hid (HB0.out.trans (hB.mono HB0.out.size))
  have HUu := Lib.hid hU
  have hszu := HB1.out.size
  have hltu := hB.size
  have hblu := hU.blk.lt
  clear hU hB
  go_wp2_with fail
  refine (take_ex ex1 HUu.out (by decide) (by decide) (by decide) (HS5.out.below HB1.out (Nat.le_refl _)) (by decide) (by decide) (by omega) (by omega)).mono ?_
  rintro e wa ⟨va, aa, cpa, rfl, hU, hS, hF, -⟩
  obtain ⟨xa, ya, rfl, -, -⟩ := hS.len
  have hlu := HUu.out.blk.lt
  have HB2 : Hid (Below ws.heap.size ws wa) := Lib.hid (HB1.out.trans (hF.toBelow HB1.out.size (fun k hk => by omega)))
  have HUu := Lib.hid hU
  have HRa := Lib.hid hS
  have hsza := hF.size
  clear hU hS hF hlu
  go_wp2_with fail
  refine (take_ex ex2 HUu.out (by decide) (by decide) (by decide) (HS6.out.below HB2.out (Nat.le_refl _)) (by decide) (by decide) (by omega) (by omega)).mono ?_
  rintro e wb ⟨vb, ab, cpb, rfl, hU, hS, hF, -⟩
  obtain ⟨xb, yb, rfl, -, -⟩ := hS.len
  have hlu := HUu.out.blk.lt
  have HB3 : Hid (Below ws.heap.size ws wb) := Lib.hid (HB2.out.trans (hF.toBelow HB2.out.size (fun k hk => by omega)))
  have HRa := Lib.hid (HRa.out.fr hF (fun k hk => .inl (by omega)))
  have HUu := Lib.hid hU
  have HRb := Lib.hid hS
  have hszb := hF.size
  clear hU hS hF hlu
  go_wp2_with fail
  refine (take_ex ex3 HUu.out (by decide) (by decide) (by decide) (HS7.out.below HB3.out (Nat.le_refl _)) (by decide) (by decide) (by omega) (by omega)).mono ?_
  rintro e wc ⟨vc, ac, cpc, rfl, hU, hS, hF, -⟩
  obtain ⟨xc, yc, rfl, -, -⟩ := hS.len
  have hlu := HUu.out.blk.lt
  have HB4 : Hid (Below ws.heap.size ws wc) := Lib.hid (HB3.out.trans (hF.toBelow HB3.out.size (fun k hk => by omega)))
  have HRa := Lib.hid (HRa.out.fr hF (fun k hk => .inl (by omega)))
  have HRb := Lib.hid (HRb.out.fr hF (fun k hk => .inl (by omega)))
  have HUu := Lib.hid hU
  have HRc := Lib.hid hS
  have hszc := hF.size
  clear hU hS hF hlu
  go_wp2_with fail
  refine (new_any _).mono ?_
  rintro e wv ⟨rfl, hU, hB⟩
  have HB5 : Hid (Below ws.heap.size ws wv) := Lib.hid (HB4.out.trans (hB.mono HB4.out.size))
  have HRa : Hid (SAt wv (fun k => (k < wu.heap.size) ∨ k = wc.heap.size) _ []) := Lib.hid ((HRa.out.grow (fun k hk => by rcases hk with hk | hk; exact .inl hk; exact .inr (by omega))).below hB (Nat.le_refl _))
  have HRb : Hid (SAt wv (fun k => (k < wa.heap.size) ∨ k = wc.heap.size) _ [exP]) := Lib.hid ((HRb.out.grow (fun k hk => by rcases hk with hk | hk; exact .inl hk; exact .inr (by omega))).below hB (Nat.le_refl _))
  have HRc : Hid (SAt wv (fun k => (k < wb.heap.size) ∨ k = wc.heap.size) _ [exQ]) := Lib.hid ((HRc.out.grow (fun k hk => by rcases hk with hk | hk; exact .inl hk; exact .inr (by omega))).below hB (Nat.le_refl _))
  have HUu := Lib.hid (HUu.out.below hB (Nat.le_refl _))
  have HUv := Lib.hid hU
  have hszv := HB5.out.size
  have hltv := hB.size
  have hblv := hU.blk.lt
  clear hU hB
  go_wp2_with fail
  refine (take_ex ex4 HUv.out (by decide) (by decide) (by decide) (HS6.out.below HB5.out (Nat.le_refl _)) (by decide) (by decide) (by omega) (by omega)).mono ?_
  rintro e wd ⟨vd, ad, cpd, rfl, hU, hS, hF, -⟩
  obtain ⟨xd, yd, rfl, -, -⟩ := hS.len
  have hlu := HUv.out.blk.lt
  have HB6 : Hid (Below ws.heap.size ws wd) := Lib.hid (HB5.out.trans (hF.toBelow HB5.out.size (fun k hk => by omega)))
  have HRa := Lib.hid (HRa.out.fr hF (fun k hk => .inl (by omega)))
  have HRb := Lib.hid (HRb.out.fr hF (fun k hk => .inl (by omega)))
  have HRc := Lib.hid (HRc.out.fr hF (fun k hk => .inl (by omega)))
  have HUu := Lib.hid (HUu.out.fr hF (fun e => by have := HUu.out.blk.lt; omega) (fun q hq hne e => blk_apart HUv.out.blk HUu.out.at_ hne UAt.plain q hq e))
  have HUv := Lib.hid hU
  have HRd := Lib.hid hS
  have hszd := hF.size
  clear hU hS hF hlu
  go_wp2_with fail
  refine (take_ex ex3 HUv.out (by decide) (by decide) (by decide) (HS7.out.below HB6.out (Nat.le_refl _)) (by decide) (by decide) (by omega) (by omega)).mono ?_
  rintro e we ⟨ve, ae, cpe, rfl, hU, hS, hF, -⟩
  obtain ⟨xe, ye, rfl, -, -⟩ := hS.len
  have hlu := HUv.out.blk.lt
  have HB7 : Hid (Below ws.heap.size ws we) := Lib.hid (HB6.out.trans (hF.toBelow HB6.out.size (fun k hk => by omega)))
  have HRa := Lib.hid (HRa.out.fr hF (fun k hk => .inl (by omega)))
  have HRb := Lib.hid (HRb.out.fr hF (fun k hk => .inl (by omega)))
  have HRc := Lib.hid (HRc.out.fr hF (fun k hk => .inl (by omega)))
  have HRd := Lib.hid (HRd.out.fr hF (fun k hk => .inl (by omega)))
  have HUu := Lib.hid (HUu.out.fr hF (fun e => by have := HUu.out.blk.lt; omega) (fun q hq hne e => blk_apart HUv.out.blk HUu.out.at_ hne UAt.plain q hq e))
  have HUv := Lib.hid hU
  have HRe := Lib.hid hS
  have hsze := hF.size
  clear hU hS hF hlu
  go_wp2_with fail
  refine (new_any _).mono ?_
  rintro e wz ⟨rfl, hU, hB⟩
  have HB8 : Hid (Below ws.heap.size ws wz) := Lib.hid (HB7.out.trans (hB.mono HB7.out.size))
  have HRa : Hid (SAt wz (fun k => ((k < wu.heap.size) ∨ k = wc.heap.size) ∨ k = we.heap.size) _ []) := Lib.hid ((HRa.out.grow (fun k hk => by rcases hk with hk | hk; exact .inl hk; exact .inr (by omega))).below hB (Nat.le_refl _))
  have HRb : Hid (SAt wz (fun k => ((k < wa.heap.size) ∨ k = wc.heap.size) ∨ k = we.heap.size) _ [exP]) := Lib.hid ((HRb.out.grow (fun k hk => by rcases hk with hk | hk; exact .inl hk; exact .inr (by omega))).below hB (Nat.le_refl _))
  have HRc : Hid (SAt wz (fun k => ((k < wb.heap.size) ∨ k = wc.heap.size) ∨ k = we.heap.size) _ [exQ]) := Lib.hid ((HRc.out.grow (fun k hk => by rcases hk with hk | hk; exact .inl hk; exact .inr (by omega))).below hB (Nat.le_refl _))
  have HRd : Hid (SAt wz (fun k => (k < wv.heap.size) ∨ k = we.heap.size) _ []) := Lib.hid ((HRd.out.grow (fun k hk => by rcases hk with hk | hk; exact .inl hk; exact .inr (by omega))).below hB (Nat.le_refl _))
  have HRe : Hid (SAt wz (fun k => (k < wd.heap.size) ∨ k = we.heap.size) _ [exQ]) := Lib.hid ((HRe.out.grow (fun k hk => by rcases hk with hk | hk; exact .inl hk; exact .inr (by omega))).below hB (Nat.le_refl _))
  have HUu := Lib.hid (HUu.out.below hB (Nat.le_refl _))
  have HUv := Lib.hid (HUv.out.below hB (Nat.le_refl _))
  have HUz := Lib.hid hU
  have hszz := HB8.out.size
  have hltz := hB.size
  have hblz := hU.blk.lt
  clear hU hB
  go_wp2_with fail
  refine (take_ex ex1 HUz.out (by decide) (by decide) (by decide) (HS5.out.below HB8.out (Nat.le_refl _)) (by decide) (by decide) (by omega) (by omega)).mono ?_
  rintro e wf ⟨vf, af, cpf, rfl, hU, hS, hF, -⟩
  obtain ⟨xf, yf, rfl, -, -⟩ := hS.len
  have hlu := HUz.out.blk.lt
  have HB9 : Hid (Below ws.heap.size ws wf) := Lib.hid (HB8.out.trans (hF.toBelow HB8.out.size (fun k hk => by omega)))
  have HRa := Lib.hid (HRa.out.fr hF (fun k hk => .inl (by omega)))
  have HRb := Lib.hid (HRb.out.fr hF (fun k hk => .inl (by omega)))
  have HRc := Lib.hid (HRc.out.fr hF (fun k hk => .inl (by omega)))
  have HRd := Lib.hid (HRd.out.fr hF (fun k hk => .inl (by omega)))
  have HRe := Lib.hid (HRe.out.fr hF (fun k hk => .inl (by omega)))
  have HUu := Lib.hid (HUu.out.fr hF (fun e => by have := HUu.out.blk.lt; omega) (fun q hq hne e => blk_apart HUz.out.blk HUu.out.at_ hne UAt.plain q hq e))
  have HUz := Lib.hid hU
  have HRf := Lib.hid hS
  have hszf := hF.size
  clear hU hS hF hlu
  go_wp2_with fail
  refine (take_ex ex5 HUz.out (by decide) (by decide) (by decide) (HS7.out.below HB9.out (Nat.le_refl _)) (by decide) (by decide) (by omega) (by omega)).mono ?_
  rintro e wg ⟨vg, ag, cpg, rfl, hU, hS, hF, -⟩
  obtain ⟨xg, yg, rfl, -, -⟩ := hS.len
  have hlu := HUz.out.blk.lt
  have HB10 : Hid (Below ws.heap.size ws wg) := Lib.hid (HB9.out.trans (hF.toBelow HB9.out.size (fun k hk => by omega)))
  have HRa := Lib.hid (HRa.out.fr hF (fun k hk => .inl (by omega)))
  have HRb := Lib.hid (HRb.out.fr hF (fun k hk => .inl (by omega)))
  have HRc := Lib.hid (HRc.out.fr hF (fun k hk => .inl (by omega)))
  have HRd := Lib.hid (HRd.out.fr hF (fun k hk => .inl (by omega)))
  have HRe := Lib.hid (HRe.out.fr hF (fun k hk => .inl (by omega)))
  have HRf := Lib.hid (HRf.out.fr hF (fun k hk => .inl (by omega)))
  have HUu := Lib.hid (HUu.out.fr hF (fun e => by have := HUu.out.blk.lt; omega) (fun q hq hne e => blk_apart HUz.out.blk HUu.out.at_ hne UAt.plain q hq e))
  have HUz := Lib.hid hU
  have HRg := Lib.hid hS
  have hszg := hF.size
  clear hU hS hF hlu
  have HPe := Lib.hid (HPs.out.below HB10.out (Nat.le_refl _))
  have HQe := Lib.hid (HQs.out.below HB10.out (Nat.le_refl _))
  have HBe := Lib.hid (HBs.out.trans (HB10.out.mono (by have := HBs.out.size; omega)))
  clear HPs HQs HBs HS5 HS6 HS7 HUv
  go_wp2_with fail
  refine (same_any _ _ _ _ _ _ _ (HRb.out.below (al (Below.refl _ _) _) (Nat.le_refl _)) (one_sat wg (some ⟨w.heap.size, 0, none⟩) 7 7 exP rfl HPe.out (by omega) (by unfold maxLen; omega))).mono ?_
  rintro e x1 ⟨rfl, hq⟩
  rw [decide_eq_true (rfl : [exP] = [exP])]
  have HX1 : Hid (Below wg.heap.size wg x1) := Lib.hid ((al (Below.refl _ _) _).trans hq.below)
  have hx1 := HX1.out.size
  clear hq
  go_wp2_with fail
  refine (same_any _ _ _ _ _ _ _ ((HRc.out.below HX1.out (Nat.le_refl _)).below (al (Below.refl _ _) _) (Nat.le_refl _)) (one_sat x1 (some ⟨w.heap.size + 1, 0, none⟩) 8 8 exQ rfl (HQe.out.below HX1.out (Nat.le_refl _)) (by omega) (by unfold maxLen; omega))).mono ?_
  rintro e x2 ⟨rfl, hq⟩
  rw [decide_eq_true (rfl : [exQ] = [exQ])]
  have HX2 : Hid (Below wg.heap.size wg x2) := Lib.hid (HX1.out.trans (((al (Below.refl _ _) _).trans hq.below).mono hx1))
  have hx2 := HX2.out.size
  clear hq
  go_wp2_with fail
  refine (lost_any _ _ uC _ _ (HUu.out.below HX2.out (Nat.le_refl _))).mono ?_
  rintro e x9 ⟨rfl, hx9⟩
  obtain rfl := hx9.symm
  clear hx9
  go_wp2_with fail
  refine (same_any _ _ _ _ _ _ _ ((HRe.out.below HX2.out (Nat.le_refl _)).below (al (Below.refl _ _) _) (Nat.le_refl _)) (one_sat x2 (some ⟨w.heap.size + 1, 0, none⟩) 8 8 exQ rfl (HQe.out.below HX2.out (Nat.le_refl _)) (by omega) (by unfold maxLen; omega))).mono ?_
  rintro e x3 ⟨rfl, hq⟩
  rw [decide_eq_true (rfl : [exQ] = [exQ])]
  have HX3 : Hid (Below wg.heap.size wg x3) := Lib.hid (HX2.out.trans (((al (Below.refl _ _) _).trans hq.below).mono hx2))
  clear hq
  go_wp2_with fail
  refine (lost_any _ _ uG _ _ (HUz.out.below HX3.out (Nat.le_refl _))).mono ?_
  rintro e x9 ⟨rfl, hx9⟩
  obtain rfl := hx9.symm
  clear hx9
  go_wp2_with fail
  go_ret
  exact ⟨rfl, HBe.out.trans (HX3.out.mono HBe.out.size)⟩
end Go.Proofs.Ytllpbfejoahllaa

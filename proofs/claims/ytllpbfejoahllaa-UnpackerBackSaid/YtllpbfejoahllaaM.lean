/- Contract of Take. No condition. -/
import Derived.Test.YtllpbfejoahllaaL
import Derived.Outline
namespace Go.Proofs.Ytllpbfejoahllaa
open Go.RowKit Go.Deep Go.ChangeShapes Go.WideShapes Go.ChangeAt
set_option linter.unusedVariables false

theorem eat_in {u : US} {f : Int} {data : List UInt8} (h : u.step = true) (hf : f = fitR u.rest data) : u.eat f data = ({ u with step := (packs (u.rest ++ data)).1, rest := (packs (u.rest ++ data)).2.1 }, (packs (u.rest ++ data)).2.2) := by
  unfold US.eat
  rw [h, decide_eq_true hf]
  rfl
theorem eat_none {u : US} {f : Int} {data : List UInt8} (h : (u.step && decide (f = fitR u.rest data)) = false) (hf : f = 2047) : u.eat f data = ({ u with step := false, rest := [] }, []) := by
  unfold US.eat
  rw [h, decide_eq_true hf]
  rfl
theorem eat_new {u : US} {f : Int} {data : List UInt8} (h : (u.step && decide (f = fitR u.rest data)) = false) (hf : ¬ f = 2047) : u.eat f data = ({ u with step := (packs (data.drop f.toNat)).1, rest := (packs (data.drop f.toNat)).2.1 }, (packs (data.drop f.toNat)).2.2) := by
  unfold US.eat
  rw [h, decide_eq_false hf]
  rfl
theorem take_bad {u : US} {c f : Int} {data : List UInt8} (h : badT c f data = true) : u.take c f data = (u, []) := by unfold US.take; rw [if_pos h]
theorem take_idle {u : US} {c f : Int} {data : List UInt8} (h : badT c f data = false) (hf : f = 2046) : u.take c f data = (u.count c, []) := by unfold US.take; rw [if_neg (by rw [h]; simp), if_pos hf]
theorem take_eat {u : US} {c f : Int} {data : List UInt8} (h : badT c f data = false) (hf : ¬ f = 2046) : u.take c f data = (u.count c).eat f data := by unfold US.take; rw [if_neg (by rw [h]; simp), if_neg hf]
/-- the rest is as it was, or new -/
def Ki (w : World) (a : Option Addr) (l : List UInt8) (a' : Option Addr) (l' : List UInt8) : Prop := (a' = a ∧ l' = l) ∨ New w a'
/-- what a call leaves -/
def TkQ (w : World) (b : Nat) (a : Option Addr) (l0 : List UInt8) (r : US × List (List UInt8)) (e : Ending) (w' : World) : Prop :=
  ∃ vo a' cap', e = .returned vo ∧ UAt w' b r.1 a' cap' ∧ SAt w' (fun k => k < w.heap.size) vo r.2 ∧ Fr (fun k => k = b) w w' ∧ Ki w a l0 a' r.1.rest
theorem Ki.refl (w : World) (a : Option Addr) (l : List UInt8) : Ki w a l a l := .inl ⟨rfl, rfl⟩
theorem tk_pack {w w4 w' : World} {b : Nat} {u4 : US} {a a4 : Option Addr} {l0 : List UInt8} {e : Ending} (hf : Fr (fun k => k = b) w w4) (hn : New w a4) (h : PkQ w4 b u4 a4 (packs u4.rest) e w') : TkQ w b a l0 ({ u4 with step := (packs u4.rest).1, rest := (packs u4.rest).2.1 }, (packs u4.rest).2.2) e w' := by
  obtain ⟨vo, a', cap', h1, h2, h3, h4, h5⟩ := h
  have hs := hf.size
  refine ⟨vo, a', cap', h1, h2, h3.grow fun k hk => .inl (by omega), hf.trans h4, .inr fun q hq => ?_⟩
  obtain ⟨q0, e0, e1⟩ := h5 q hq
  have := hn q0 e0
  omega
theorem UAt.plain {u : US} {a : Option Addr} {cap : Nat} : ∀ v ∈ ucells u a cap, ∀ n, v ≠ .int .u8 n := by
  intro v hv n
  simp only [ucells, List.mem_cons, List.not_mem_nil, or_false] at hv
  rcases hv with rfl | rfl | rfl | rfl | rfl | rfl <;> simp
/-- a new rest -/
theorem UAt.rest {w w4 : World} {b cap c4 : Nat} {u : US} {a a4 : Option Addr} {l : List UInt8} {B : Nat} (hk : Blk w b 48 (ucells u a cap)) (hO : w.ownsRow B 5 1 (.slice a4 l.length c4) l.length (encB l)) (hB : b < B) (st : Bool) (hk4 : Blk w4 b 48 (ucells { u with step := st, rest := l } a4 c4)) (hf : Fr (fun k => k = b) w w4) : UAt w4 b { u with step := st, rest := l } a4 c4 ∧ ∀ q, a4 = some q → B ≤ q.block := by
  obtain ⟨-, a', c', e, hc, hm, hA⟩ := BAt.of_row hO
  simp only [Value.slice.injEq, true_and] at e
  obtain ⟨rfl, rfl⟩ := e
  have hsh := own_shape hO
  have hn : ∀ q, a4 = some q → B ≤ q.block := fun q hq => by
    rcases hsh with ⟨e, -⟩ | ⟨g, e, h1, -⟩
    · rw [e] at hq; cases hq
    · rw [e] at hq; cases hq; exact h1
  refine ⟨⟨hk4, hc, hm, hA.fr hf (fun q hq e => by have := hn q hq; omega), ?_, fun q hq e => by have := hn q hq; omega⟩, hn⟩
  rcases hsh with ⟨e1, e2, -⟩ | ⟨g, e, -⟩
  · exact .inl ⟨e1, e2⟩
  · exact .inr ⟨g, 0, e⟩
theorem tk_none {w w4 : World} {b : Nat} {u : US} {a : Option Addr} {l0 : List UInt8} (hk : Blk w4 b 48 (ucells { u with step := false, rest := [] } none 0)) (hf : Fr (fun k => k = b) w w4) : TkQ w b a l0 ({ u with step := false, rest := [] }, []) (.returned (.slice none 0 0)) w4 :=
  ⟨_, none, 0, rfl, ⟨hk, by simp, by unfold maxLen; omega, .inl rfl, .inl ⟨rfl, rfl⟩, fun q hq => by cases hq⟩, SAt.nil _ _, hf, .inr fun q hq => by cases hq⟩
set_option maxRecDepth 20000 in
set_option maxHeartbeats 2000000 in
theorem take_any (b cap cd : Nat) (u : US) (a ad : Option Addr) (c f : Int) (data : List UInt8) (w : World) (h : UAt w b u a cap) (h1 : 0 ≤ u.next ∧ u.next < 256) (h2 : 0 ≤ u.lost ∧ u.lost ≤ 1000000000) (hr : u.rest.length ≤ 4096) (hd : BAt w ad data) (hl : data.length ≤ 10000) (hcd : data.length ≤ cd) (hcm : cd ≤ maxLen) :
    Calls Try.prog 12 #[.pointer (some ⟨b, 0, none⟩), .int .i64 c, .int .i64 f, .slice ad data.length cd] w (TkQ w b a u.rest (u.take c f data)) := by
  obtain ⟨hbl, ⟨c0, c1, c2, c3, c4, c5⟩, -⟩ := h.walk
  have H := Lib.hid h
  have HD := Lib.hid hd
  unfold maxLen at hcm
  have hnil : Hid (SAt w (fun k => k < w.heap.size) (.slice none 0 0) []) := Lib.hid (SAt.nil _ _)
  clear h hd c1 c2 c3 c4 c5
  by_cases k1 : c < 0
  · have HB : Hid (badT c f data = true) := Lib.hid (by simp [badT, k1])
    go_enter Try.func12, Try.ntmps12
    go_wp2_with fail
    go_ret
    rw [take_bad HB.out]
    exact ⟨_, a, cap, rfl, H.out, hnil.out, Fr.refl _ _, Ki.refl _ _ _⟩
  by_cases k2 : 255 < c
  · have HB : Hid (badT c f data = true) := Lib.hid (by simp [badT, k2])
    go_enter Try.func12, Try.ntmps12
    go_wp2_with fail
    go_ret
    rw [take_bad HB.out]
    exact ⟨_, a, cap, rfl, H.out, hnil.out, Fr.refl _ _, Ki.refl _ _ _⟩
  have hc2 : 0 ≤ c ∧ c < 256 := by omega
  cases hbad : badT c f data
  · have HB := Lib.hid hbad
    have hf0 : ¬ f < 0 := by intro e; simp [badT, e] at hbad
    have hf1 : f < data.length ∨ f = 2047 ∨ f = 2046 := by
      simp [badT, k1, k2, hf0] at hbad
      omega
    clear hbad
    have HC2 := Lib.hid hc2
    have HN1 := Lib.hid h1
    have HN2 := Lib.hid h2
    clear hc2 h1 h2
    by_cases g46 : f = 2046
    · subst g46
      go_enter Try.func12, Try.ntmps12
      go_wp2_with fail
      refine (count_any b cap u a c _ H.out HC2.out HN1.out ⟨HN2.out.1, by have := HN2.out.2; omega⟩).mono ?_
      rintro e w2 ⟨rfl, hU, hF⟩
      have HU := Lib.hid hU
      have HF := Lib.hid hF
      clear hU hF
      go_wp2_with fail
      go_ret
      rw [take_idle HB.out rfl]
      exact ⟨_, a, cap, rfl, HU.out, SAt.nil _ _, HF.out, Ki.refl _ _ _⟩
    · have e46 : (f != 2046) = true := by simp [g46]
      obtain ⟨u1, hu1⟩ : ∃ u1, u1 = u.count c := ⟨_, rfl⟩
      have hr1 : u1.rest = u.rest := by rw [hu1]; rfl
      have hrl : u1.rest.length ≤ 4096 := by rw [hr1]; exact hr
      have HT : Hid (u.take c f data = u1.eat f data) := Lib.hid (by rw [hu1]; exact take_eat HB.out g46)
      have HCT : Hid (Calls Try.prog 17 #[.pointer (some ⟨b, 0, none⟩), .int .i64 c] w fun e w' => e = .returned (.tuple #[]) ∧ UAt w' b u1 a cap ∧ Fr (fun k => k = b) w w') := Lib.hid (by
        rw [hu1]
        exact count_any b cap u a c _ H.out HC2.out HN1.out ⟨HN2.out.1, by have := HN2.out.2; omega⟩)
      obtain ⟨started, step, next, lost, rest⟩ := u1
      simp only at hrl
      clear hu1 hr1
      cases step
      · have HST : Hid (((false : Bool) && decide (f = fitR rest data)) = false) := Lib.hid rfl
        by_cases g47 : f = 2047
        · subst g47
          go_enter Try.func12, Try.ntmps12
          go_wp2_with fail
          refine HCT.out.mono ?_
          rintro e w2 ⟨rfl, hU, hF⟩
          have hk2 := hU.blk
          have m2 := hk2.at 2 rfl
          have m5 := hk2.at 5 rfl
          have mf2 := hk2.free 2
          have mf5 := hk2.free 5
          have ml := hk2.lt
          have hsw := hF.size
          have HD2 : Hid (BAt w2 ad data) := Lib.hid (HD.out.apart hF (fun q hq hne => blk_apart H.out.blk HD.out hne UAt.plain q hq))
          have HU := Lib.hid hU
          have HF := Lib.hid hF
          clear hU hF hk2
          go_wp2_with fail
          go_ret
          rw [HT.out, eat_none HST.out rfl]
          exact tk_none (u := ⟨started, false, next, lost, rest⟩) (Blk.cast (HU.out.blk.setCell 5 _) rfl) (HF.out.set1 _ (by exact .inl rfl))
        · have e47 : (f != 2047) = true := by simp [g47]
          obtain ⟨fn, rfl⟩ : ∃ fn : Nat, f = (fn : Int) := ⟨f.toNat, by omega⟩
          have hfn : fn < data.length := by omega
          obtain ⟨gd, od, rfl, -, -⟩ := HD.out.resolve_left (fun e => by rw [e] at hfn; simp at hfn)
          go_enter Try.func12, Try.ntmps12
          go_wp2_with fail
          refine HCT.out.mono ?_
          rintro e w2 ⟨rfl, hU, hF⟩
          have hk2 := hU.blk
          have m2 := hk2.at 2 rfl
          have m5 := hk2.at 5 rfl
          have mf2 := hk2.free 2
          have mf5 := hk2.free 5
          have ml := hk2.lt
          have hsw := hF.size
          have HD2 : Hid (BAt w2 (some ⟨gd, od, none⟩) data) := Lib.hid (HD.out.apart hF (fun q hq hne => blk_apart H.out.blk HD.out hne UAt.plain q hq))
          have HU := Lib.hid hU
          have HF := Lib.hid hF
          clear hU hF hk2
          go_wp2_with fail
          obtain ⟨wc, hwc⟩ : ∃ wc, wc = w2 := ⟨w2, rfl⟩
          have HKC : Hid (Blk wc b 48 (ucells ⟨started, false, next, lost, rest⟩ a cap)) := Lib.hid (by rw [hwc]; exact HU.out.blk)
          have HFC : Hid (Fr (fun k => k = b) w wc) := Lib.hid (by rw [hwc]; exact HF.out)
          have HDC : Hid (BAt wc (some ⟨gd, od, none⟩) data) := Lib.hid (by rw [hwc]; exact HD2.out)
          have hsc := HFC.out.size
          have hbc := HKC.out.lt
          rw [← hwc]
          clear m2 m5 mf2 mf5 ml hwc
          obtain ⟨D, hD⟩ : ∃ D, D = data.drop fn := ⟨_, rfl⟩
          have HDD := Lib.hid hD
          have HDL : Hid (D.length = data.length - fn) := Lib.hid (by rw [hD]; simp)
          have HDA : Hid (BAt wc (some ⟨gd, od + fn, none⟩) D) := Lib.hid (by
            have := BAt.sub HDC.out fn (data.length - fn)
            rw [List.take_of_length_le (by simp)] at this
            rw [hD]; exact this)
          clear hD
          refine (clone_n _ (data.length - fn) (cd - fn) D _ HDL.out (by rw [HDL.out]; omega) HDA.out).mono ?_
          rintro e w4 ⟨v4, rfl, hO4, hB4⟩
          obtain ⟨-, a4, c4, rfl, -, -, -⟩ := BAt.of_row hO4
          have hk4 := HKC.out.below hB4 (Nat.le_refl _)
          have r2 := hk4.at 2 rfl
          have r5 := hk4.at 5 rfl
          have rf2 := hk4.free 2
          have rf5 := hk4.free 5
          have rl := hk4.lt
          have HK4 := Lib.hid hk4
          have HO4 := Lib.hid hO4
          have HF4 := Lib.hid (HFC.out.below hB4 (Nat.le_refl _))
          clear hk4 hO4 hB4
          go_wp2_with fail
          have hu := UAt.rest HK4.out HO4.out hbc true (Blk.cast ((HK4.out.setCell 5 _).setCell 2 _) rfl) (((Fr.refl _ _).set1 _ (by exact .inl rfl)).set1 _ (by exact .inl rfl))
          have HFT := Lib.hid ((HF4.out.set1 (b := b) (i := 5) (.slice a4 D.length c4) (by exact .inl rfl)).set1 (b := b) (i := 2) (.bool true) (by exact .inl rfl))
          have HNW : Hid (New w a4) := Lib.hid (fun q hq => Nat.le_trans hsc (hu.2 q hq))
          refine (packets_any b c4 ⟨started, true, next, lost, D⟩ a4 _ hu.1 rfl (by show D.length ≤ _; rw [HDL.out]; omega)).mono ?_
          rintro e w5 ⟨vo, a5, c5, rfl, hU5, hS5, hF5, hk5⟩
          have HEND := Lib.hid (tk_pack (u4 := ⟨started, true, next, lost, D⟩) (a := a) (l0 := u.rest) HFT.out HNW.out ⟨vo, a5, c5, rfl, hU5, hS5, hF5, hk5⟩)
          clear hu hU5 hS5 hF5 hk5 r2 r5 rf2 rf5
          go_wp2_with fail
          go_ret
          rw [HT.out, eat_new HST.out g47, Int.toNat_natCast, ← HDD.out]
          exact HEND.out
      · have hfs := fit_same rest data f (by omega)
        obtain ⟨pf, hpf⟩ : ∃ pf, pf = fitP rest data := ⟨_, rfl⟩
        rw [← hpf] at hfs
        obtain ⟨at_, ok⟩ := pf
        have HPF := Lib.hid hpf
        clear hpf
        cases ok
        · have HST : Hid (((true : Bool) && decide (f = fitR rest data)) = false) := Lib.hid (by rw [← hfs]; rfl)
          clear hfs
          by_cases g47 : f = 2047
          · subst g47
            go_enter Try.func12, Try.ntmps12
            go_wp2_with fail
            refine HCT.out.mono ?_
            rintro e w2 ⟨rfl, hU, hF⟩
            have hk2 := hU.blk
            have m2 := hk2.at 2 rfl
            have m5 := hk2.at 5 rfl
            have mf2 := hk2.free 2
            have mf5 := hk2.free 5
            have ml := hk2.lt
            have hsw := hF.size
            have HD2 : Hid (BAt w2 ad data) := Lib.hid (HD.out.apart hF (fun q hq hne => blk_apart H.out.blk HD.out hne UAt.plain q hq))
            have HU := Lib.hid hU
            have HF := Lib.hid hF
            clear hU hF hk2
            go_wp2_with fail
            refine (fitting_any a ad cap cd rest data _ (by omega) (by omega) hcd HU.out.at_ HD2.out).mono ?_
            rintro e w3 ⟨rfl, hB3⟩
            rw [← HPF.out]
            have hk3 := HU.out.blk.below hB3 (Nat.le_refl _)
            have p2 := hk3.at 2 rfl
            have p5 := hk3.at 5 rfl
            have pf2 := hk3.free 2
            have pf5 := hk3.free 5
            have pl := hk3.lt
            have HK3 := Lib.hid hk3
            have HU3 := Lib.hid (HU.out.below hB3 (Nat.le_refl _))
            have HD3 := Lib.hid (HD2.out.below hB3 (Nat.le_refl _))
            have HF3 := Lib.hid (HF.out.below hB3 (Nat.le_refl _))
            have hs3 := hB3.size
            clear hk3 hB3 m2 m5 mf2 mf5 ml
            go_wp2_with fail
            go_ret
            rw [HT.out, eat_none HST.out rfl]
            exact tk_none (u := ⟨started, true, next, lost, rest⟩) (Blk.cast ((HK3.out.setCell 2 _).setCell 5 _) rfl) ((HF3.out.set1 _ (by exact .inl rfl)).set1 _ (by exact .inl rfl))
          · have e47 : (f != 2047) = true := by simp [g47]
            obtain ⟨fn, rfl⟩ : ∃ fn : Nat, f = (fn : Int) := ⟨f.toNat, by omega⟩
            have hfn : fn < data.length := by omega
            obtain ⟨gd, od, rfl, -, -⟩ := HD.out.resolve_left (fun e => by rw [e] at hfn; simp at hfn)
            go_enter Try.func12, Try.ntmps12
            go_wp2_with fail
            refine HCT.out.mono ?_
            rintro e w2 ⟨rfl, hU, hF⟩
            have hk2 := hU.blk
            have m2 := hk2.at 2 rfl
            have m5 := hk2.at 5 rfl
            have mf2 := hk2.free 2
            have mf5 := hk2.free 5
            have ml := hk2.lt
            have hsw := hF.size
            have HD2 : Hid (BAt w2 (some ⟨gd, od, none⟩) data) := Lib.hid (HD.out.apart hF (fun q hq hne => blk_apart H.out.blk HD.out hne UAt.plain q hq))
            have HU := Lib.hid hU
            have HF := Lib.hid hF
            clear hU hF hk2
            go_wp2_with fail
            refine (fitting_any a (some ⟨gd, od, none⟩) cap cd rest data _ (by omega) (by omega) hcd HU.out.at_ HD2.out).mono ?_
            rintro e w3 ⟨rfl, hB3⟩
            rw [← HPF.out]
            have hk3 := HU.out.blk.below hB3 (Nat.le_refl _)
            have p2 := hk3.at 2 rfl
            have p5 := hk3.at 5 rfl
            have pf2 := hk3.free 2
            have pf5 := hk3.free 5
            have pl := hk3.lt
            have HK3 := Lib.hid hk3
            have HU3 := Lib.hid (HU.out.below hB3 (Nat.le_refl _))
            have HD3 := Lib.hid (HD2.out.below hB3 (Nat.le_refl _))
            have HF3 := Lib.hid (HF.out.below hB3 (Nat.le_refl _))
            have hs3 := hB3.size
            clear hk3 hB3 m2 m5 mf2 mf5 ml
            go_wp2_with fail
            obtain ⟨wc, hwc⟩ : ∃ wc, wc = w3.setCell ⟨b, 2, none⟩ (.bool false) := ⟨_, rfl⟩
            have HKC : Hid (Blk wc b 48 (ucells ⟨started, false, next, lost, rest⟩ a cap)) := Lib.hid (by rw [hwc]; exact Blk.cast (HK3.out.setCell 2 _) rfl)
            have HFC : Hid (Fr (fun k => k = b) w wc) := Lib.hid (by rw [hwc]; exact HF3.out.set1 _ (by exact .inl rfl))
            have hfw : Fr (fun k => k = b) w3 wc := by rw [hwc]; exact (Fr.refl _ _).set1 _ (by exact .inl rfl)
            have HDC : Hid (BAt wc (some ⟨gd, od, none⟩) data) := Lib.hid (HD3.out.apart hfw (fun q hq hne => blk_apart HK3.out HD3.out hne UAt.plain q hq))
            have HAC : Hid (BAt wc a rest) := Lib.hid (HU3.out.at_.fr hfw (fun q hq e => HU3.out.ne q hq e))
            have hsz : wc.heap.size = w3.heap.size := by rw [hwc]; simp [World.setCell]
            have hsc := HFC.out.size
            have hbc := HKC.out.lt
            rw [← hwc]
            clear p2 p5 pf2 pf5 pl hwc hfw
            obtain ⟨D, hD⟩ : ∃ D, D = data.drop fn := ⟨_, rfl⟩
            have HDD := Lib.hid hD
            have HDL : Hid (D.length = data.length - fn) := Lib.hid (by rw [hD]; simp)
            have HDA : Hid (BAt wc (some ⟨gd, od + fn, none⟩) D) := Lib.hid (by
              have := BAt.sub HDC.out fn (data.length - fn)
              rw [List.take_of_length_le (by simp)] at this
              rw [hD]; exact this)
            clear hD
            refine (clone_n _ (data.length - fn) (cd - fn) D _ HDL.out (by rw [HDL.out]; omega) HDA.out).mono ?_
            rintro e w4 ⟨v4, rfl, hO4, hB4⟩
            obtain ⟨-, a4, c4, rfl, -, -, -⟩ := BAt.of_row hO4
            have hk4 := HKC.out.below hB4 (Nat.le_refl _)
            have r2 := hk4.at 2 rfl
            have r5 := hk4.at 5 rfl
            have rf2 := hk4.free 2
            have rf5 := hk4.free 5
            have rl := hk4.lt
            have HK4 := Lib.hid hk4
            have HO4 := Lib.hid hO4
            have HF4 := Lib.hid (HFC.out.below hB4 (Nat.le_refl _))
            clear hk4 hO4 hB4
            go_wp2_with fail
            have hu := UAt.rest HK4.out HO4.out hbc true (Blk.cast ((HK4.out.setCell 5 _).setCell 2 _) rfl) (((Fr.refl _ _).set1 _ (by exact .inl rfl)).set1 _ (by exact .inl rfl))
            have HFT := Lib.hid ((HF4.out.set1 (b := b) (i := 5) (.slice a4 D.length c4) (by exact .inl rfl)).set1 (b := b) (i := 2) (.bool true) (by exact .inl rfl))
            have HNW : Hid (New w a4) := Lib.hid (fun q hq => Nat.le_trans hsc (hu.2 q hq))
            refine (packets_any b c4 ⟨started, true, next, lost, D⟩ a4 _ hu.1 rfl (by show D.length ≤ _; rw [HDL.out]; omega)).mono ?_
            rintro e w5 ⟨vo, a5, c5, rfl, hU5, hS5, hF5, hk5⟩
            have HEND := Lib.hid (tk_pack (u4 := ⟨started, true, next, lost, D⟩) (a := a) (l0 := u.rest) HFT.out HNW.out ⟨vo, a5, c5, rfl, hU5, hS5, hF5, hk5⟩)
            clear hu hU5 hS5 hF5 hk5 r2 r5 rf2 rf5
            go_wp2_with fail
            go_ret
            rw [HT.out, eat_new HST.out g47, Int.toNat_natCast, ← HDD.out]
            exact HEND.out
        · cases hq : (at_ == f)
          · have HST : Hid (((true : Bool) && decide (f = fitR rest data)) = false) := Lib.hid (by rw [← hfs, hq]; rfl)
            clear hfs
            by_cases g47 : f = 2047
            · subst g47
              go_enter Try.func12, Try.ntmps12
              go_wp2_with fail
              refine HCT.out.mono ?_
              rintro e w2 ⟨rfl, hU, hF⟩
              have hk2 := hU.blk
              have m2 := hk2.at 2 rfl
              have m5 := hk2.at 5 rfl
              have mf2 := hk2.free 2
              have mf5 := hk2.free 5
              have ml := hk2.lt
              have hsw := hF.size
              have HD2 : Hid (BAt w2 ad data) := Lib.hid (HD.out.apart hF (fun q hq hne => blk_apart H.out.blk HD.out hne UAt.plain q hq))
              have HU := Lib.hid hU
              have HF := Lib.hid hF
              clear hU hF hk2
              go_wp2_with fail
              refine (fitting_any a ad cap cd rest data _ (by omega) (by omega) hcd HU.out.at_ HD2.out).mono ?_
              rintro e w3 ⟨rfl, hB3⟩
              rw [← HPF.out]
              have hk3 := HU.out.blk.below hB3 (Nat.le_refl _)
              have p2 := hk3.at 2 rfl
              have p5 := hk3.at 5 rfl
              have pf2 := hk3.free 2
              have pf5 := hk3.free 5
              have pl := hk3.lt
              have HK3 := Lib.hid hk3
              have HU3 := Lib.hid (HU.out.below hB3 (Nat.le_refl _))
              have HD3 := Lib.hid (HD2.out.below hB3 (Nat.le_refl _))
              have HF3 := Lib.hid (HF.out.below hB3 (Nat.le_refl _))
              have hs3 := hB3.size
              clear hk3 hB3 m2 m5 mf2 mf5 ml
              go_wp2_with fail
              go_ret
              rw [HT.out, eat_none HST.out rfl]
              exact tk_none (u := ⟨started, true, next, lost, rest⟩) (Blk.cast ((HK3.out.setCell 2 _).setCell 5 _) rfl) ((HF3.out.set1 _ (by exact .inl rfl)).set1 _ (by exact .inl rfl))
            · have e47 : (f != 2047) = true := by simp [g47]
              obtain ⟨fn, rfl⟩ : ∃ fn : Nat, f = (fn : Int) := ⟨f.toNat, by omega⟩
              have hfn : fn < data.length := by omega
              obtain ⟨gd, od, rfl, -, -⟩ := HD.out.resolve_left (fun e => by rw [e] at hfn; simp at hfn)
              go_enter Try.func12, Try.ntmps12
              go_wp2_with fail
              refine HCT.out.mono ?_
              rintro e w2 ⟨rfl, hU, hF⟩
              have hk2 := hU.blk
              have m2 := hk2.at 2 rfl
              have m5 := hk2.at 5 rfl
              have mf2 := hk2.free 2
              have mf5 := hk2.free 5
              have ml := hk2.lt
              have hsw := hF.size
              have HD2 : Hid (BAt w2 (some ⟨gd, od, none⟩) data) := Lib.hid (HD.out.apart hF (fun q hq hne => blk_apart H.out.blk HD.out hne UAt.plain q hq))
              have HU := Lib.hid hU
              have HF := Lib.hid hF
              clear hU hF hk2
              go_wp2_with fail
              refine (fitting_any a (some ⟨gd, od, none⟩) cap cd rest data _ (by omega) (by omega) hcd HU.out.at_ HD2.out).mono ?_
              rintro e w3 ⟨rfl, hB3⟩
              rw [← HPF.out]
              have hk3 := HU.out.blk.below hB3 (Nat.le_refl _)
              have p2 := hk3.at 2 rfl
              have p5 := hk3.at 5 rfl
              have pf2 := hk3.free 2
              have pf5 := hk3.free 5
              have pl := hk3.lt
              have HK3 := Lib.hid hk3
              have HU3 := Lib.hid (HU.out.below hB3 (Nat.le_refl _))
              have HD3 := Lib.hid (HD2.out.below hB3 (Nat.le_refl _))
              have HF3 := Lib.hid (HF.out.below hB3 (Nat.le_refl _))
              have hs3 := hB3.size
              clear hk3 hB3 m2 m5 mf2 mf5 ml
              go_wp2_with fail
              obtain ⟨wc, hwc⟩ : ∃ wc, wc = w3.setCell ⟨b, 2, none⟩ (.bool false) := ⟨_, rfl⟩
              have HKC : Hid (Blk wc b 48 (ucells ⟨started, false, next, lost, rest⟩ a cap)) := Lib.hid (by rw [hwc]; exact Blk.cast (HK3.out.setCell 2 _) rfl)
              have HFC : Hid (Fr (fun k => k = b) w wc) := Lib.hid (by rw [hwc]; exact HF3.out.set1 _ (by exact .inl rfl))
              have hfw : Fr (fun k => k = b) w3 wc := by rw [hwc]; exact (Fr.refl _ _).set1 _ (by exact .inl rfl)
              have HDC : Hid (BAt wc (some ⟨gd, od, none⟩) data) := Lib.hid (HD3.out.apart hfw (fun q hq hne => blk_apart HK3.out HD3.out hne UAt.plain q hq))
              have HAC : Hid (BAt wc a rest) := Lib.hid (HU3.out.at_.fr hfw (fun q hq e => HU3.out.ne q hq e))
              have hsz : wc.heap.size = w3.heap.size := by rw [hwc]; simp [World.setCell]
              have hsc := HFC.out.size
              have hbc := HKC.out.lt
              rw [← hwc]
              clear p2 p5 pf2 pf5 pl hwc hfw
              obtain ⟨D, hD⟩ : ∃ D, D = data.drop fn := ⟨_, rfl⟩
              have HDD := Lib.hid hD
              have HDL : Hid (D.length = data.length - fn) := Lib.hid (by rw [hD]; simp)
              have HDA : Hid (BAt wc (some ⟨gd, od + fn, none⟩) D) := Lib.hid (by
                have := BAt.sub HDC.out fn (data.length - fn)
                rw [List.take_of_length_le (by simp)] at this
                rw [hD]; exact this)
              clear hD
              refine (clone_n _ (data.length - fn) (cd - fn) D _ HDL.out (by rw [HDL.out]; omega) HDA.out).mono ?_
              rintro e w4 ⟨v4, rfl, hO4, hB4⟩
              obtain ⟨-, a4, c4, rfl, -, -, -⟩ := BAt.of_row hO4
              have hk4 := HKC.out.below hB4 (Nat.le_refl _)
              have r2 := hk4.at 2 rfl
              have r5 := hk4.at 5 rfl
              have rf2 := hk4.free 2
              have rf5 := hk4.free 5
              have rl := hk4.lt
              have HK4 := Lib.hid hk4
              have HO4 := Lib.hid hO4
              have HF4 := Lib.hid (HFC.out.below hB4 (Nat.le_refl _))
              clear hk4 hO4 hB4
              go_wp2_with fail
              have hu := UAt.rest HK4.out HO4.out hbc true (Blk.cast ((HK4.out.setCell 5 _).setCell 2 _) rfl) (((Fr.refl _ _).set1 _ (by exact .inl rfl)).set1 _ (by exact .inl rfl))
              have HFT := Lib.hid ((HF4.out.set1 (b := b) (i := 5) (.slice a4 D.length c4) (by exact .inl rfl)).set1 (b := b) (i := 2) (.bool true) (by exact .inl rfl))
              have HNW : Hid (New w a4) := Lib.hid (fun q hq => Nat.le_trans hsc (hu.2 q hq))
              refine (packets_any b c4 ⟨started, true, next, lost, D⟩ a4 _ hu.1 rfl (by show D.length ≤ _; rw [HDL.out]; omega)).mono ?_
              rintro e w5 ⟨vo, a5, c5, rfl, hU5, hS5, hF5, hk5⟩
              have HEND := Lib.hid (tk_pack (u4 := ⟨started, true, next, lost, D⟩) (a := a) (l0 := u.rest) HFT.out HNW.out ⟨vo, a5, c5, rfl, hU5, hS5, hF5, hk5⟩)
              clear hu hU5 hS5 hF5 hk5 r2 r5 rf2 rf5
              go_wp2_with fail
              go_ret
              rw [HT.out, eat_new HST.out g47, Int.toNat_natCast, ← HDD.out]
              exact HEND.out
          · have HFR : Hid (f = fitR rest data) := Lib.hid (by rw [hq] at hfs; simpa using hfs.symm)
            clear hfs
            by_cases g47 : f = 2047
            · subst g47
              go_enter Try.func12, Try.ntmps12
              go_wp2_with fail
              refine HCT.out.mono ?_
              rintro e w2 ⟨rfl, hU, hF⟩
              have hk2 := hU.blk
              have m2 := hk2.at 2 rfl
              have m5 := hk2.at 5 rfl
              have mf2 := hk2.free 2
              have mf5 := hk2.free 5
              have ml := hk2.lt
              have hsw := hF.size
              have HD2 : Hid (BAt w2 ad data) := Lib.hid (HD.out.apart hF (fun q hq hne => blk_apart H.out.blk HD.out hne UAt.plain q hq))
              have HU := Lib.hid hU
              have HF := Lib.hid hF
              clear hU hF hk2
              go_wp2_with fail
              refine (fitting_any a ad cap cd rest data _ (by omega) (by omega) hcd HU.out.at_ HD2.out).mono ?_
              rintro e w3 ⟨rfl, hB3⟩
              rw [← HPF.out]
              have hk3 := HU.out.blk.below hB3 (Nat.le_refl _)
              have p2 := hk3.at 2 rfl
              have p5 := hk3.at 5 rfl
              have pf2 := hk3.free 2
              have pf5 := hk3.free 5
              have pl := hk3.lt
              have HK3 := Lib.hid hk3
              have HU3 := Lib.hid (HU.out.below hB3 (Nat.le_refl _))
              have HD3 := Lib.hid (HD2.out.below hB3 (Nat.le_refl _))
              have HF3 := Lib.hid (HF.out.below hB3 (Nat.le_refl _))
              have hs3 := hB3.size
              clear hk3 hB3 m2 m5 mf2 mf5 ml
              go_wp2_with fail
              obtain ⟨wc, hwc⟩ : ∃ wc, wc = w3.setCell ⟨b, 2, none⟩ (.bool true) := ⟨_, rfl⟩
              have HKC : Hid (Blk wc b 48 (ucells ⟨started, true, next, lost, rest⟩ a cap)) := Lib.hid (by rw [hwc]; exact Blk.cast (HK3.out.setCell 2 _) rfl)
              have HFC : Hid (Fr (fun k => k = b) w wc) := Lib.hid (by rw [hwc]; exact HF3.out.set1 _ (by exact .inl rfl))
              have hfw : Fr (fun k => k = b) w3 wc := by rw [hwc]; exact (Fr.refl _ _).set1 _ (by exact .inl rfl)
              have HDC : Hid (BAt wc ad data) := Lib.hid (HD3.out.apart hfw (fun q hq hne => blk_apart HK3.out HD3.out hne UAt.plain q hq))
              have HAC : Hid (BAt wc a rest) := Lib.hid (HU3.out.at_.fr hfw (fun q hq e => HU3.out.ne q hq e))
              have hsz : wc.heap.size = w3.heap.size := by rw [hwc]; simp [World.setCell]
              have hsc := HFC.out.size
              have hbc := HKC.out.lt
              rw [← hwc]
              clear p2 p5 pf2 pf5 pl hwc hfw
              refine (concat2_any w3.heap.size 23 a ad rest.length data.length cap cd rest data _ (Blk.newAt hsz) rfl rfl (by omega) (by omega) (HAC.out.below (al (Below.refl _ _) _) (Nat.le_refl _)) (HDC.out.below (al (Below.refl _ _) _) (Nat.le_refl _))).mono ?_
              rintro e w4 ⟨v4, rfl, hO4, hB4⟩
              obtain ⟨D, hD⟩ : ∃ D, D = rest ++ data := ⟨_, rfl⟩
              rw [← hD] at hO4
              have HDD := Lib.hid hD
              have HDL : Hid (D.length = rest.length + data.length) := Lib.hid (by rw [hD]; simp)
              obtain ⟨-, a4, c4, rfl, -, -, -⟩ := BAt.of_row hO4
              have hB4' : Below wc.heap.size wc w4 := (al (Below.refl _ _) _).trans (hB4.mono (by simp))
              have hk4 := HKC.out.below hB4' (Nat.le_refl _)
              have r2 := hk4.at 2 rfl
              have r5 := hk4.at 5 rfl
              have rf2 := hk4.free 2
              have rf5 := hk4.free 5
              have rl := hk4.lt
              have HK4 := Lib.hid hk4
              have HO4 := Lib.hid (own_base hO4 (show wc.heap.size ≤ _ by simp))
              have HF4 := Lib.hid (HFC.out.below hB4' (Nat.le_refl _))
              clear hk4 hO4 hB4 hB4' hD
              go_wp2_with fail
              have hu := UAt.rest HK4.out HO4.out hbc true (Blk.cast (HK4.out.setCell 5 _) rfl) ((Fr.refl _ _).set1 _ (by exact .inl rfl))
              have HFT := Lib.hid (HF4.out.set1 (b := b) (i := 5) (.slice a4 D.length c4) (by exact .inl rfl))
              have HNW : Hid (New w a4) := Lib.hid (fun q hq => Nat.le_trans hsc (hu.2 q hq))
              refine (packets_any b c4 ⟨started, true, next, lost, D⟩ a4 _ hu.1 rfl (by show D.length ≤ _; rw [HDL.out]; omega)).mono ?_
              rintro e w5 ⟨vo, a5, c5, rfl, hU5, hS5, hF5, hk5⟩
              have HEND := Lib.hid (tk_pack (u4 := ⟨started, true, next, lost, D⟩) (a := a) (l0 := u.rest) HFT.out HNW.out ⟨vo, a5, c5, rfl, hU5, hS5, hF5, hk5⟩)
              clear hu hU5 hS5 hF5 hk5 r2 r5 rf2 rf5
              go_wp2_with fail
              go_ret
              rw [HT.out, eat_in rfl HFR.out, ← HDD.out]
              exact HEND.out
            · have e47 : (f != 2047) = true := by simp [g47]
              go_enter Try.func12, Try.ntmps12
              go_wp2_with fail
              refine HCT.out.mono ?_
              rintro e w2 ⟨rfl, hU, hF⟩
              have hk2 := hU.blk
              have m2 := hk2.at 2 rfl
              have m5 := hk2.at 5 rfl
              have mf2 := hk2.free 2
              have mf5 := hk2.free 5
              have ml := hk2.lt
              have hsw := hF.size
              have HD2 : Hid (BAt w2 ad data) := Lib.hid (HD.out.apart hF (fun q hq hne => blk_apart H.out.blk HD.out hne UAt.plain q hq))
              have HU := Lib.hid hU
              have HF := Lib.hid hF
              clear hU hF hk2
              go_wp2_with fail
              refine (fitting_any a ad cap cd rest data _ (by omega) (by omega) hcd HU.out.at_ HD2.out).mono ?_
              rintro e w3 ⟨rfl, hB3⟩
              rw [← HPF.out]
              have hk3 := HU.out.blk.below hB3 (Nat.le_refl _)
              have p2 := hk3.at 2 rfl
              have p5 := hk3.at 5 rfl
              have pf2 := hk3.free 2
              have pf5 := hk3.free 5
              have pl := hk3.lt
              have HK3 := Lib.hid hk3
              have HU3 := Lib.hid (HU.out.below hB3 (Nat.le_refl _))
              have HD3 := Lib.hid (HD2.out.below hB3 (Nat.le_refl _))
              have HF3 := Lib.hid (HF.out.below hB3 (Nat.le_refl _))
              have hs3 := hB3.size
              clear hk3 hB3 m2 m5 mf2 mf5 ml
              go_wp2_with fail
              obtain ⟨wc, hwc⟩ : ∃ wc, wc = w3.setCell ⟨b, 2, none⟩ (.bool true) := ⟨_, rfl⟩
              have HKC : Hid (Blk wc b 48 (ucells ⟨started, true, next, lost, rest⟩ a cap)) := Lib.hid (by rw [hwc]; exact Blk.cast (HK3.out.setCell 2 _) rfl)
              have HFC : Hid (Fr (fun k => k = b) w wc) := Lib.hid (by rw [hwc]; exact HF3.out.set1 _ (by exact .inl rfl))
              have hfw : Fr (fun k => k = b) w3 wc := by rw [hwc]; exact (Fr.refl _ _).set1 _ (by exact .inl rfl)
              have HDC : Hid (BAt wc ad data) := Lib.hid (HD3.out.apart hfw (fun q hq hne => blk_apart HK3.out HD3.out hne UAt.plain q hq))
              have HAC : Hid (BAt wc a rest) := Lib.hid (HU3.out.at_.fr hfw (fun q hq e => HU3.out.ne q hq e))
              have hsz : wc.heap.size = w3.heap.size := by rw [hwc]; simp [World.setCell]
              have hsc := HFC.out.size
              have hbc := HKC.out.lt
              rw [← hwc]
              clear p2 p5 pf2 pf5 pl hwc hfw
              refine (concat2_any w3.heap.size 23 a ad rest.length data.length cap cd rest data _ (Blk.newAt hsz) rfl rfl (by omega) (by omega) (HAC.out.below (al (Below.refl _ _) _) (Nat.le_refl _)) (HDC.out.below (al (Below.refl _ _) _) (Nat.le_refl _))).mono ?_
              rintro e w4 ⟨v4, rfl, hO4, hB4⟩
              obtain ⟨D, hD⟩ : ∃ D, D = rest ++ data := ⟨_, rfl⟩
              rw [← hD] at hO4
              have HDD := Lib.hid hD
              have HDL : Hid (D.length = rest.length + data.length) := Lib.hid (by rw [hD]; simp)
              obtain ⟨-, a4, c4, rfl, -, -, -⟩ := BAt.of_row hO4
              have hB4' : Below wc.heap.size wc w4 := (al (Below.refl _ _) _).trans (hB4.mono (by simp))
              have hk4 := HKC.out.below hB4' (Nat.le_refl _)
              have r2 := hk4.at 2 rfl
              have r5 := hk4.at 5 rfl
              have rf2 := hk4.free 2
              have rf5 := hk4.free 5
              have rl := hk4.lt
              have HK4 := Lib.hid hk4
              have HO4 := Lib.hid (own_base hO4 (show wc.heap.size ≤ _ by simp))
              have HF4 := Lib.hid (HFC.out.below hB4' (Nat.le_refl _))
              clear hk4 hO4 hB4 hB4' hD
              go_wp2_with fail
              have hu := UAt.rest HK4.out HO4.out hbc true (Blk.cast (HK4.out.setCell 5 _) rfl) ((Fr.refl _ _).set1 _ (by exact .inl rfl))
              have HFT := Lib.hid (HF4.out.set1 (b := b) (i := 5) (.slice a4 D.length c4) (by exact .inl rfl))
              have HNW : Hid (New w a4) := Lib.hid (fun q hq => Nat.le_trans hsc (hu.2 q hq))
              refine (packets_any b c4 ⟨started, true, next, lost, D⟩ a4 _ hu.1 rfl (by show D.length ≤ _; rw [HDL.out]; omega)).mono ?_
              rintro e w5 ⟨vo, a5, c5, rfl, hU5, hS5, hF5, hk5⟩
              have HEND := Lib.hid (tk_pack (u4 := ⟨started, true, next, lost, D⟩) (a := a) (l0 := u.rest) HFT.out HNW.out ⟨vo, a5, c5, rfl, hU5, hS5, hF5, hk5⟩)
              clear hu hU5 hS5 hF5 hk5 r2 r5 rf2 rf5
              go_wp2_with fail
              go_ret
              rw [HT.out, eat_in rfl HFR.out, ← HDD.out]
              exact HEND.out
  · have HB := Lib.hid hbad
    simp [badT, k1, k2] at hbad
    clear hc2
    rcases hbad with hb | ⟨⟨hb1, hb2⟩, hb3⟩
    · have e1 : ¬ f = 2047 := by omega
      have e2 : ¬ f = 2046 := by omega
      have e3 : (f != 2047) = true := by simp [e1]
      have e4 : (f != 2046) = true := by simp [e2]
      go_enter Try.func12, Try.ntmps12
      go_wp2_with fail
      go_ret
      rw [take_bad HB.out]
      exact ⟨_, a, cap, rfl, H.out, hnil.out, Fr.refl _ _, Ki.refl _ _ _⟩
    · have e3 : (f != 2047) = true := by simp [hb2]
      have e4 : (f != 2046) = true := by simp [hb3]
      have hb : ¬ f < 0 := by omega
      go_enter Try.func12, Try.ntmps12
      go_wp2_with fail
      go_ret
      rw [take_bad HB.out]
      exact ⟨_, a, cap, rfl, H.out, hnil.out, Fr.refl _ _, Ki.refl _ _ _⟩
end Go.Proofs.Ytllpbfejoahllaa

/- Frames of the reference. No condition. -/
import Derived.Test.YtjeigdopcdeaeaaV
import Derived.Outline
namespace Go.Proofs.Ytjeigdopcdeaeaa
open Go.RowKit Go.Deep Go.ChangeShapes Go.WideShapes Go.ChangeAt Scr
set_option linter.unusedVariables false

/-- what holds at the head of a round -/
def FrRel (w : World) (l : List UInt8) (size : Nat) (o f s i : Value) (wr : World) : Prop :=
  ∃ (i' f' sk : Nat) (fs : List (List UInt8)) (vs : List Value), (i' ≤ l.length ∧ f' ≤ l.length ∧ i = .int .i64 i' ∧ f = .int .i64 f' ∧ s = .int .i64 sk ∧ NoMk l f' i') ∧
    (wr.ownsRow w.heap.size 22 1 o fs.length vs ∧ Sls wr (SO w o) vs fs ∧ Below w.heap.size w wr) ∧
    ((feed size l).1 = fs ++ (feed size (l.drop f')).1 ∧ (feed size l).2.1 = sk + (feed size (l.drop f')).2.1) ∧ (sk ≤ l.length ∧ fs.length ≤ i')
/-- the row, as it is handed back -/
theorem frSA {w w2 : World} {o : Value} {vs : List Value} {fs : List (List UInt8)} (h : w2.ownsRow w.heap.size 22 1 o fs.length vs) (hs : Sls w2 (SO w o) vs fs) : SAt w2 (fun k => k < w.heap.size) o fs :=
  SAt.of_row h (hs.grow fun k hk => .inl (.inl hk)) (fun k hk h' => by have := (h.lt k hk).1; omega)
theorem rapply_n (a : Option Addr) (n cap : Nat) (l : List UInt8) (w : World) (hn : l.length = n) (hl : l.length ≤ 100000) (hb : BAt w a l) : Calls Try.prog 20 #[.slice a n cap] w (Gives (appB l) w) := by
  subst hn
  exact RApply_any a cap l w (by omega) hb
/-- what an append of one frame leaves -/
theorem frApp {w w2 w6 w8 : World} {o v8 : Value} {F : List UInt8} {fs : List (List UInt8)} {vs : List Value} {a6 : Option Addr} {c6 : Nat}
    (how : w2.ownsRow w.heap.size 22 1 o fs.length vs) (hsl : Sls w2 (SO w o) vs fs) (hB2 : Below w.heap.size w w2) (hB6 : Below w2.heap.size w2 w6) (hO6 : w6.ownsRow w2.heap.size 5 1 (.slice a6 (appB F).length c6) (appB F).length (encB (appB F)))
    (how8 : w8.ownsRow w.heap.size 22 1 v8 (fs.length + 1) (vs ++ [.slice a6 (appB F).length c6])) (hg8 : (w6.alloc (.cells #[.slice a6 (appB F).length c6] 22)).grownBy w8 o.ownBlock) (hb8 : v8.ownBlock = o.ownBlock ∨ v8.ownBlock = some (w6.heap.size + 1)) :
    Sls w8 (SO w v8) (vs ++ [.slice a6 (appB F).length c6]) (fs ++ [appB F]) ∧ Below w.heap.size w w8 := by
  have hvb : ∀ k, o.ownBlock = some k → w.heap.size ≤ k ∧ k < w2.heap.size := fun k hk => how.lt k hk
  have hs2 := hB2.size
  have hs6 := hB6.size
  obtain ⟨ob, ho⟩ : ∃ ob, ob = Obj.cells #[.slice a6 (appB F).length c6] 22 := ⟨_, rfl⟩
  rw [← ho] at hg8
  have hsz : (w6.alloc ob).heap.size = w6.heap.size + 1 := by simp
  rw [← hsz] at hb8
  have hB7 := al (Below.refl _ w6) ob
  have hfg : Fr (fun k => o.ownBlock = some k) (w6.alloc ob) w8 := (Fr.refl _ _).grown hg8 (fun k hk => .inl hk)
  obtain ⟨-, a', c', e, hc, hm, hA6⟩ := BAt.of_row hO6
  simp only [Value.slice.injEq, true_and] at e
  obtain ⟨rfl, rfl⟩ := e
  have hx : Sl w6 (SO w o) (.slice a6 (appB F).length c6) (appB F) := ⟨a6, c6, rfl, hc, hm, hA6, fun q hq _ h => by
    have h1 := (hO6.lt q.block (by rw [hq]; rfl)).1
    rcases h with h | h
    · omega
    · have := (hvb _ h).2; omega⟩
  have hall : Sls w6 (SO w o) (vs ++ [.slice a6 (appB F).length c6]) (fs ++ [appB F]) := (hsl.below hB6 (Nat.le_refl _)).append (Sls.one hx)
  have h7 := hall.below hB7 (Nat.le_refl _)
  refine ⟨?_, ((hB2.trans (hB6.mono hs2)).trans (hB7.mono (by omega))).trans (hfg.toBelow (by simp; omega) (fun k hk => (hvb k hk).1))⟩
  have h8 : Sls (w6.alloc ob) (fun k => SO w o k ∨ v8.ownBlock = some k) (vs ++ [.slice a6 (appB F).length c6]) (fs ++ [appB F]) := h7.grow (fun k hk => by
    rcases hk with h | h
    · exact .inl h
    · rcases hb8 with e | e
      · exact .inl (.inr (by rw [← e]; exact h))
      · rw [e] at h; cases h; exact .inr (Nat.le_refl _))
  exact (h8.fr hfg (fun k hk => .inl (.inl (.inr hk)))).grow (fun k hk => by
    rcases hk with h | h
    · exact .inl (.inl (.inl h))
    · exact .inl (.inr h))
theorem tail_n (a : Option Addr) (n cap : Nat) (l : List UInt8) (w : World) (hn : l.length = n) (hl : n ≤ 100000) (hcap : n ≤ cap) (hb : BAt w a l) : Calls Try.prog 24 #[.slice a n cap] w fun e w' => e = .returned (.int .i64 (tailN l : Nat)) ∧ Below w.heap.size w w' := by
  subst hn
  exact tail_any a cap l w hl hcap hb
theorem ret_tup {v : Value} {a b : Int} (h : a = b) : Ending.returned (.tuple #[v, .int .i64 a]) = .returned (.tuple #[v, .int .i64 b]) := by rw [h]
/-- what a call leaves -/
def RFQ (w : World) (r : List (List UInt8) × Nat) (e : Ending) (w' : World) : Prop :=
  ∃ vo, e = .returned (.tuple #[vo, .int .i64 (r.2 : Nat)]) ∧ SAt w' (fun k => k < w.heap.size) vo r.1 ∧ Below w.heap.size w w'
set_option maxRecDepth 20000 in
set_option maxHeartbeats 1000000 in
theorem frames_any (a : Option Addr) (cap size : Nat) (l : List UInt8) (w : World) (hl : l.length ≤ 10000) (hs1 : 1 ≤ size) (hs2 : size ≤ 1024) (hcap : l.length ≤ cap) (hcm : cap ≤ maxLen) (hb : BAt w a l) (har : (a = none ∧ cap = 0) ∨ ∃ g off, a = some ⟨g, off, none⟩) :
    Calls Try.prog 15 #[.slice a l.length cap, .int .i64 (size : Int)] w (RFQ w ((feed size l).1, (feed size l).2.1)) := by
  have HB := Lib.hid hb
  unfold maxLen at hcm
  obtain ⟨j1, hj1, hz0, hz1, hz2⟩ := info_parts info22
  have HJ1 := Lib.hid hj1
  clear hj1
  clear hb
  go_enter Try.func15, Try.ntmps15
  go_wp2_with fail
  go_loopw [6, 7, 8, 9] (fun o f s i wr => FrRel w l size o f s i wr) (fun _ _ _ i _ => l.length - (intOf i).toNat)
  case atStart => exact ⟨0, 0, 0, [], [], ⟨by omega, by omega, rfl, rfl, rfl, fun j h1 h2 => by omega⟩, ⟨World.ownsRow_nil _ _ _ _, Sls.nil, Below.refl _ _⟩, ⟨by simp, by simp⟩, by omega, by simp⟩
  case round =>
    obtain ⟨i, f, sk, fs, vs, ⟨hi, hf, rfl, rfl, rfl, hno⟩, ⟨how, hsl, hB⟩, hE, hsk, hfl⟩ := hrel
    have HN := Lib.hid hno
    have HO := Lib.hid how
    have HSL := Lib.hid hsl
    have HBr := Lib.hid hB
    have HE := Lib.hid hE
    have hsr := hB.size
    clear hno how hsl hB hE
    have g1 : (0 : Int) ≤ (i : Int) := by omega
    have g2 : (0 : Int) ≤ (f : Int) := by omega
    by_cases hlt : i < l.length
    · by_cases hif : i < f
      · go_wp2_with fail
        go_roundw
        case rel => exact ⟨i + 1, f, sk, fs, vs, ⟨by omega, hf, by go_num, rfl, rfl, NoMk.skip hif⟩, ⟨HO.out, HSL.out, HBr.out⟩, HE.out, hsk, by omega⟩
        case measure => simp [intOf]; omega
      · cases hat : full (l.drop i)
        · have HAT := Lib.hid hat
          clear hat
          go_wp2_with fail
          refine (at_any a cap i l _ hi (by omega) hcap (HB.out.below HBr.out (Nat.le_refl _))).mono ?_
          rintro e w2 ⟨rfl, hB2⟩
          rw [HAT.out]
          have HB2 := Lib.hid hB2
          clear hB2
          go_wp2_with fail
          go_roundw
          case rel => exact ⟨i + 1, f, sk, fs, vs, ⟨by omega, hf, by go_num, rfl, rfl, HN.out.step HAT.out⟩, ⟨own_below HO.out HB2.out (Nat.le_refl _), HSL.out.below HB2.out (Nat.le_refl _), HBr.out.trans (HB2.out.mono hsr)⟩, HE.out, hsk, by omega⟩
          case measure => simp [intOf]; omega
        · have HAT := Lib.hid hat
          clear hat
          go_wp2_with fail
          refine (at_any a cap i l _ hi (by omega) hcap (HB.out.below HBr.out (Nat.le_refl _))).mono ?_
          rintro e w2 ⟨rfl, hB2⟩
          rw [HAT.out]
          have HB2 := Lib.hid (HBr.out.trans (hB2.mono hsr))
          have HO2 := Lib.hid (own_below HO.out hB2 (Nat.le_refl _))
          have HSL2 := Lib.hid (HSL.out.below hB2 (Nat.le_refl _))
          have hsw := HB2.out.size
          clear hB2 HO HSL HBr hsr
          have hfi : f ≤ i := by omega
          have g3 : (f : Int) ≤ (i : Int) := by omega
          have g4 : (i : Int) ≤ 10000 := by omega
          have g5 : (sk : Int) ≤ 10000 := by omega
          have g6 : (0 : Int) ≤ (sk : Int) := by omega
          have g7 : (size : Int) ≤ 1024 := by omega
          have g8 : (0 : Int) ≤ (size : Int) := by omega
          have u0 : ((sk + (i - f) : Nat) : Int) = (sk : Int) + ((i : Int) - (f : Int)) := by omega
          by_cases hl4 : l.length < i + 4 + size
          · have hst := scan_stop size hfi HN.out HAT.out hl4
            have e1 := HE.out.1
            have e2 := HE.out.2
            rw [hst.1, List.append_nil] at e1
            rw [hst.2] at e2
            have HE1 := Lib.hid e1
            have HE2 := Lib.hid e2
            clear hst e1 e2
            have g9 : (l.length : Int) < (i : Int) + 4 + (size : Int) := by omega
            go_wp2_with fail
            refine bodyPost_ret (v := .tuple #[u6, .int .i64 ((sk : Int) + ((i : Int) - (f : Int)))]) (by simp [results, Try.results15, go_sem]) rfl ⟨u6, by rw [HE2.out, u0], ?_, HB2.out⟩
            rw [HE1.out]
            exact frSA HO2.out HSL2.out
          · have hsm := scan_more size hfi HN.out HAT.out (by omega)
            obtain ⟨b, off, rfl, hbl, -⟩ := HB.out.resolve_left (fun e => by rw [e] at hlt; simp at hlt)
            obtain ⟨F, hF⟩ : ∃ F : List UInt8, F = (l.drop (i + 4)).take size := ⟨_, rfl⟩
            rw [← hF] at hsm
            have hFl : F.length = size := by rw [hF]; simp; omega
            have HFL := Lib.hid hFl
            have HSM := Lib.hid hsm
            have HAF : Hid (BAt w2 (some ⟨b, off + (i + 4), none⟩) F) := Lib.hid (by
              rw [hF]
              exact BAt.sub (HB.out.below HB2.out (Nat.le_refl _)) (i + 4) size)
            have HFF := Lib.hid hF
            clear hsm hF hFl
            have g9 : ¬ (l.length : Int) < (i : Int) + 4 + (size : Int) := by omega
            have g10 : (i : Int) + 4 + (size : Int) ≤ (l.length : Int) := by omega
            have g11 : (l.length : Int) ≤ (cap : Int) := by omega
            have u1 : ((i : Int) + 4).toNat = i + 4 := by omega
            have u2 : ((i : Int) + 4 + (size : Int)).toNat = i + 4 + size := by omega
            have u3 : i + 4 + size - (i + 4) = size := by omega
            have u4 : ¬ cap = i + 4 := by omega
            have u5 : ((i + 4 + size : Nat) : Int) = (i : Int) + 4 + (size : Int) := by omega
            go_wp2_with fail
            refine (rapply_n _ size _ F _ HFL.out (by rw [HFL.out]; omega) HAF.out).mono ?_
            rintro e w6 ⟨v6, rfl, hO6, -, hB6⟩
            obtain ⟨-, a6, c6, rfl, hc6, hm6, -⟩ := BAt.of_row hO6
            have HB6 := Lib.hid hB6
            have HO6 := Lib.hid hO6
            have HW7 := Lib.hid (fun o => own_below (own_below HO2.out hB6 (Nat.le_refl _)) (al (Below.refl _ w6) o) (Nat.le_refl _))
            have HX := Lib.hid (one_vat w6 (.slice a6 (appB F).length c6) 22)
            have hs6 := hB6.size
            clear hO6 hB6
            go_wp2_with (at_builtin; refine wpList_append_src _ rfl _ _ 26 rfl w.heap.size 22 j1 (.slice none 0 0) 24 Try.underlying26 HJ1.out hz0 hz1 hz2 (by rfl) _ fs.length vs rfl (HW7.out _) (some ⟨w6.heap.size, 0, none⟩) 1 1 [.slice a6 (appB F).length c6] rfl (by rfl) HX.out (by simp [Value.oneCell']) (by unfold maxLen; omega) (by omega) (by simp; omega) ?_)
            intro v8 w8 hown8 hgrow8 hblk8
            have hap := frApp HO2.out HSL2.out HB2.out HB6.out HO6.out hown8 hgrow8 hblk8
            have HAP := Lib.hid hap
            have HO8 := Lib.hid hown8
            clear hap hown8 hgrow8 hblk8
            go_wp2_with fail
            go_roundw
            case rel =>
              have e1 := HE.out.1
              have e2 := HE.out.2
              rw [HSM.out.1, List.append_cons] at e1
              rw [HSM.out.2] at e2
              have hk := feed_skip size l
              exact ⟨i + 1, i + 4 + size, sk + (i - f), fs ++ [appB F], vs ++ [.slice a6 (appB F).length c6], ⟨by omega, by omega, by go_num, by rw [u5], by rw [u0], NoMk.skip (by omega)⟩, ⟨by rw [List.length_append]; exact HO8.out, HAP.out.1, HAP.out.2⟩, ⟨by rw [e1], by rw [e2]; omega⟩, by omega, by simp; omega⟩
            case measure => simp [intOf]; omega
    · obtain rfl : i = l.length := by omega
      have hse := scan_end size hf HN.out
      obtain ⟨R, hR⟩ : ∃ R : List UInt8, R = l.drop f := ⟨_, rfl⟩
      obtain ⟨n, hn⟩ : ∃ n, n = l.length - f := ⟨_, rfl⟩
      rw [← hR, ← hn] at hse
      have hRl : R.length = n := by rw [hR, hn]; simp
      have htl : tailN R ≤ n := by have := tailFrom_le R (min 3 R.length); unfold tailN; omega
      have e1 := HE.out.1
      have e2 := HE.out.2
      rw [← hR, hse.1, List.append_nil] at e1
      rw [← hR, hse.2] at e2
      have HE1 := Lib.hid e1
      have HE2 := Lib.hid e2
      have HRl := Lib.hid hRl
      have HR := Lib.hid hR
      have hnf : n + f = l.length := by omega
      have HT : Hid (∀ w', wr = w' → BAt w' a l) := Lib.hid (fun w' h => h ▸ HB.out.below HBr.out (Nat.le_refl _))
      clear hse hR hRl e1 e2 HE
      have g3 : (f : Int) ≤ (l.length : Int) := by omega
      have g4 : (l.length : Int) ≤ 10000 := by omega
      have g5 : (sk : Int) ≤ 10000 := by omega
      have g6 : (0 : Int) ≤ (sk : Int) := by omega
      have g7 : (l.length : Int) ≤ (cap : Int) := by omega
      have g8 : min (f : Int) (l.length : Int) = (f : Int) := by omega
      have g9 : l.length - f = n := by omega
      clear hn hi g1
      rcases har with ⟨rfl, rfl⟩ | ⟨b, off, rfl⟩
      · obtain rfl : l = [] := List.length_eq_zero_iff.1 (by omega)
        obtain rfl : f = 0 := by simpa using hf
        obtain rfl : n = 0 := by simpa using hnf
        go_wp2_with fail
        refine (tail_n none 0 0 R _ HRl.out (by omega) (by omega) (.inl (by simpa using HR.out))).mono ?_
        rintro e w2 ⟨rfl, hB2⟩
        have HB2 := Lib.hid (HBr.out.trans (hB2.mono hsr))
        have HO2 := Lib.hid (own_below HO.out hB2 (Nat.le_refl _))
        have HSL2 := Lib.hid (HSL.out.below hB2 (Nat.le_refl _))
        clear hB2
        have ht : tailN R = 0 := by omega
        have HT := Lib.hid ht
        rw [ht]
        clear ht
        go_wp2_with fail
        refine bodyPost_ret (v := .tuple #[u6, .int .i64 (sk : Int)]) (by simp [results, Try.results15, go_sem]) rfl ⟨u6, by rw [HE2.out, HT.out]; rfl, ?_, HB2.out⟩
        rw [HE1.out]
        exact frSA HO2.out HSL2.out
      · by_cases hc : cap = f
        · obtain rfl : f = l.length := by omega
          obtain rfl : cap = l.length := hc
          obtain rfl : n = 0 := by omega
          clear hf hcap hcm g3 g4 g7 g9
          have g4 : (l.length : Int) ≤ 10000 := by omega
          go_wp2_with fail
          refine (tail_n (some ⟨b, off, none⟩) 0 0 R _ HRl.out (by omega) (by omega) (.inl (by simpa using HR.out))).mono ?_
          rintro e w2 ⟨rfl, hB2⟩
          have HB2 := Lib.hid (HBr.out.trans (hB2.mono hsr))
          have HO2 := Lib.hid (own_below HO.out hB2 (Nat.le_refl _))
          have HSL2 := Lib.hid (HSL.out.below hB2 (Nat.le_refl _))
          clear hB2
          have ht : tailN R = 0 := by omega
          have HT := Lib.hid ht
          rw [ht]
          clear ht
          go_wp2_with fail
          refine bodyPost_ret (v := .tuple #[u6, .int .i64 (sk : Int)]) (by simp [results, Try.results15, go_sem]) rfl ⟨u6, by rw [HE2.out, HT.out]; rfl, ?_, HB2.out⟩
          rw [HE1.out]
          exact frSA HO2.out HSL2.out
        · have hc' : ¬ cap = f := hc
          go_wp2_with fail
          refine (tail_n (some ⟨b, off + f, none⟩) n (cap - f) R _ HRl.out (by omega) (by omega) (by have := BAt.sub (HB.out.below HBr.out (Nat.le_refl _)) f n; rw [HR.out]; rwa [List.take_of_length_le (by simp; omega)] at this)).mono ?_
          rintro e w2 ⟨rfl, hB2⟩
          have HB2 := Lib.hid (HBr.out.trans (hB2.mono hsr))
          have HO2 := Lib.hid (own_below HO.out hB2 (Nat.le_refl _))
          have HSL2 := Lib.hid (HSL.out.below hB2 (Nat.le_refl _))
          clear hB2
          obtain ⟨t, ht⟩ : ∃ t, t = tailN R := ⟨_, rfl⟩
          rw [← ht] at htl
          rw [← ht]
          have HT := Lib.hid ht
          clear ht
          go_wp2_with fail
          refine bodyPost_ret (v := .tuple #[u6, .int .i64 ((sk : Int) + (n : Int) - (t : Int))]) (by simp [results, Try.results15, go_sem]) rfl ⟨u6, by rw [HE2.out, ← HT.out]; exact ret_tup (by omega), ?_, HB2.out⟩
          rw [HE1.out]
          exact frSA HO2.out HSL2.out
end Go.Proofs.Ytjeigdopcdeaeaa

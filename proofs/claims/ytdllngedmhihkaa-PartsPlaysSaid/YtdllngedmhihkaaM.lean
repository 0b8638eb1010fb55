/- Split of the reference. No condition. -/
import Derived.Test.YtdllngedmhihkaaL
import Derived.Deep.DeepMust
namespace Go.Proofs.Ytdllngedmhihkaa
open Go.RowKit Go.Deep Go.ChangeShapes Go.WideShapes Go.ChangeAt
set_option linter.unusedVariables false

/-- element i of a row of packets that holds xs -/
def PR (w : World) (ow : Option Nat) (xs : List Value) (i : Nat) (p : PK) : Prop :=
  ∃ a cap, (∀ j, j < 6 → xs[i * 6 + j]? = p.cell a cap j) ∧ BAt w a p.dat ∧ p.dat.length ≤ cap ∧ ∀ q, a = some q → q.block < w.heap.size ∧ ow ≠ some q.block
theorem own_made {w : World} {n base : Nat} (h : w.heap.size = n) (hb : base ≤ n) : (w.alloc (.cells #[] 5)).ownsRow base 5 1 (.slice (some ⟨n, 0, none⟩) 0 0) 0 [] := by
  subst h
  exact World.ownsRow_made w #[] 0 hb (by unfold maxLen; omega) rfl
theorem size_set (w : World) (p : Addr) (v : Value) : (w.setCell p v).heap.size = w.heap.size := by simp [World.setCell]
theorem one6 (a b : Bool) (c d e : Int) (x : Option Addr) (n m : Nat) : ∀ u ∈ [Value.bool a, .bool b, .int .i64 c, .int .i64 d, .int .i64 e, .slice x n m], u.oneCell' = true := by
  intro u hu
  simp only [List.mem_cons, List.not_mem_nil, or_false] at hu
  rcases hu with rfl | rfl | rfl | rfl | rfl | rfl <;> rfl
theorem Blk.news {w : World} {b : Nat} {T : TypeId} {xs : List Value} (h : Blk w b T xs) : ∀ j u, xs[j]? = some u → w.cell? ((⟨b, 0, none⟩ : Addr).add j) = some u := by
  intro j u hj
  rw [add_plain, Nat.zero_add, h.cell j, hj]
theorem PR.keep {w w' : World} {ow ow' : Option Nat} {xs ys : List Value} {i k : Nat} {p : PK} (h : PR w ow xs i p) (hx : xs.length = k * 6) (hik : i < k) (hf : Fr (fun k => ow = some k) w w') (ho : ow' = ow ∨ ∃ g, ow' = some g ∧ w.heap.size ≤ g) : PR w' ow' (xs ++ ys) i p := by
  obtain ⟨a, cap, h1, h2, h3, h4⟩ := h
  refine ⟨a, cap, fun j hj => ?_, h2.fr hf (fun q hq => (h4 q hq).2), h3, fun q hq => ⟨by have := (h4 q hq).1; have := hf.size; omega, ?_⟩⟩
  · rw [List.getElem?_append_left (by omega)]; exact h1 j hj
  · have := h4 q hq
    rcases ho with rfl | ⟨g, rfl, hg⟩
    · exact this.2
    · intro e
      simp only [Option.some.injEq] at e
      omega
theorem PR.new {w : World} {ow : Option Nat} {xs : List Value} {k : Nat} {a : Option Addr} {cap : Nat} (p : PK) (hx : xs.length = k * 6) (hb : BAt w a p.dat) (hc : p.dat.length ≤ cap) (ha : ∀ q, a = some q → q.block < w.heap.size ∧ ow ≠ some q.block) :
    PR w ow (xs ++ [.bool p.cm, .bool p.sc, .int .i64 p.ap, .int .i64 p.fl, .int .i64 p.ct, .slice a p.dat.length cap]) k p := by
  refine ⟨a, cap, fun j hj => ?_, hb, hc, ha⟩
  rw [List.getElem?_append_right (by omega), hx, Nat.add_sub_cancel_left]
  rfl
theorem rsplit_step {wr w5 w7 : World} {base k : Nat} {v : Value} {xs X : List Value} {f : Nat → PK} {g5 c5 g7 n5 : Nat} {v5 : Value} {Y : Obj} {q : List UInt8} {p' : PK}
    (hrow : wr.ownsRow base 24 6 v k xs) (hP : ∀ i, i < k → PR wr v.ownBlock xs i (f i))
    (h5 : ((wr.alloc (.cells X.toArray 24)).alloc (.cells #[] 5)).grownBy w5 (some (wr.heap.size + 1))) (o5 : w5.ownsRow (wr.heap.size + 1) 5 1 (.slice (some ⟨g5, 0, none⟩) n5 c5) n5 (encB q))
    (h7 : ((w5.setCell ⟨wr.heap.size, 5, none⟩ v5).alloc Y).grownBy w7 v.ownBlock) (hw7 : v.ownBlock = some g7 ∨ g7 = w5.heap.size + 1) (hk : f k = p') (hq : p'.dat = q) :
    Fr (fun n => v.ownBlock = some n) wr w7 ∧ n5 = q.length ∧ ∀ i, i < k + 1 → PR w7 (some g7) (xs ++ [.bool p'.cm, .bool p'.sc, .int .i64 p'.ap, .int .i64 p'.fl, .int .i64 p'.ct, .slice (some ⟨g5, 0, none⟩) p'.dat.length c5]) i (f i) := by
  have F : Fr (fun n => v.ownBlock = some n) wr w7 := ((((((Fr.refl _ wr).alloc _).alloc _).grown h5 (fun n hn => .inr (by cases hn; omega))).set1 _ (.inr (Nat.le_refl _))).alloc _).grown h7 (fun n hn => .inl hn)
  have hs5 := h5.size
  simp at hs5
  obtain ⟨e5, a', c', e, hc, -, hb⟩ := BAt.of_row o5
  have e1 := (Value.slice.inj e)
  obtain ⟨e2, -, e3⟩ := e1
  subst e2 e3
  have hg5 := o5.lt g5 rfl
  have F5 : Fr (fun n => n = wr.heap.size ∨ v.ownBlock = some n) w5 w7 := (((Fr.refl _ w5).set1 _ (.inl (.inl rfl))).alloc _).grown h7 (fun n hn => .inl (.inr hn))
  have hne : v.ownBlock ≠ some g5 := fun e => by have := (hrow.lt g5 e).2; omega
  refine ⟨F, e5, fun i hi => ?_⟩
  rcases Nat.lt_or_ge i k with h | h
  · refine (hP i h).keep hrow.1 h F ?_
    rcases hw7 with e | e
    · exact .inl e.symm
    · exact .inr ⟨g7, rfl, by omega⟩
  · obtain rfl : i = k := by omega
    rw [hk]
    have hb7 : BAt w7 (some ⟨g5, 0, none⟩) q := hb.fr F5 (by
      intro p hp
      cases hp
      rintro (h | h)
      · simp only at h; omega
      · exact hne h)
    refine PR.new p' hrow.1 (by rw [hq]; exact hb7) (by rw [hq]; exact hc) ?_
    · intro p hp
      cases hp
      refine ⟨by have := F5.size; simp only; omega, ?_⟩
      intro e
      simp only [Option.some.injEq] at e
      rcases hw7 with h | h
      · rw [e] at h; exact hne h
      · omega
set_option maxRecDepth 20000 in
set_option maxHeartbeats 2000000 in
theorem rsplit_ok (p : PK) (pa : Option Addr) (pc : Nat) (a : Option Addr) (l : List UInt8) (cap m : Nat) (w : World) (hl0 : l ≠ []) (hl : l.length ≤ 4000) (hcap : l.length ≤ cap) (hcm : cap ≤ maxLen) (hb : BAt w a l) (hk : okB p.ap p.ct = true) (hm1 : 1 ≤ m) (hm2 : m ≤ 4090) :
    Calls Try.prog 11 #[p.val pa pc, .slice a l.length cap, .int .i64 (m : Int)] w (SplitQ w (splitL p l m)) := by
  obtain ⟨N, hN, hN0, hN1⟩ : ∃ N : Nat, N = (l.length + m - 1) / m ∧ 1 ≤ N ∧ N ≤ 4000 := by
    have h1 := List.length_pos_iff.2 hl0
    refine ⟨_, rfl, (Nat.le_div_iff_mul_le (by omega)).2 (by omega), ?_⟩
    refine Nat.le_trans (Nat.div_le_of_le_mul (n := l.length) ?_) hl
    have : m * l.length ≥ l.length + m - 1 := by
      obtain ⟨m', rfl⟩ : ∃ m', m = m' + 1 := ⟨m - 1, by omega⟩
      obtain ⟨k', hk'⟩ : ∃ k', l.length = k' + 1 := ⟨l.length - 1, by omega⟩
      rw [hk', Nat.add_mul, Nat.mul_add]
      omega
    exact this
  have HN := Lib.hid hN
  have HB := Lib.hid hb
  unfold PK.val Pk
  have hlb : ((l.length : Int) == 0) = false := by
    rw [beq_eq_false_iff_ne]; intro h; exact hl0 (List.length_eq_zero_iff.1 (by omega))
  have hlp : 0 < l.length := List.length_pos_iff.2 hl0
  have HL := Lib.hid hl0
  obtain ⟨i0, hi, hz0, hz1, hz2⟩ := info_parts info24
  obtain ⟨j0, hj, hy0, hy1, hy2⟩ := info_parts info5
  have hct : 0 ≤ p.ct ∧ p.ct < 16384 := by have := okB_cnt hk; simpa [cntB] using this
  obtain ⟨hct0, hct1⟩ := hct
  clear hN hb hl0
  go_enter Try.func11, Try.ntmps11
  go_wp2_with (go_at_call 23; refine (header_at _ _ _ _ _ _ _ _ _).mono ?_; rintro e w2 ⟨rfl, rfl⟩)
  go_loopw [8, 9] (fun v' at' wr => ∃ v k O xs, v = v' ∧ k ≤ N ∧ O = k * m ∧ at' = .int .i64 (O : Nat) ∧ wr.ownsRow (w.heap.size + 1) 24 6 v k xs ∧ Blk wr w.heap.size 24 [.bool p.cm, .bool p.sc, .int .i64 p.ap, .int .i64 p.fl, .int .i64 p.ct, .slice pa p.dat.length pc] ∧ Below w.heap.size w wr ∧ ∀ i, i < k → PR wr v.ownBlock xs i (pieceOf p l m N i)) (fun _ i _ => 9000 - (intOf i).toNat)
  case atStart => exact ⟨.slice none 0 0, 0, 0, [], rfl, by omega, by omega, rfl, World.ownsRow_nil _ _ _ _, .alloc (Blk.newAt rfl) _, al (al (Below.refl _ _) _) _, fun i hi => by omega⟩
  case round =>
    obtain ⟨v, k, O, xs, rfl, hk2, hO, rfl, hrow, hbx, hB, hP⟩ := hrel
    by_cases hlt : O < l.length
    · have hkN : k < N := by
        have h1 := HN.out
        rcases Nat.lt_or_ge k N with h | h
        · exact h
        · exfalso
          have h3 := (Nat.div_lt_iff_lt_mul (x := l.length + m - 1) (y := k + 1) (k := m) (by omega)).1 (by omega)
          have h4 : (l.length + m - 1) / m ≤ k := by omega
          have h5 := Nat.div_add_mod (l.length + m - 1) m
          have h6 := Nat.mod_lt (l.length + m - 1) (show 0 < m by omega)
          have h7 : m * ((l.length + m - 1) / m) ≤ m * k := Nat.mul_le_mul_left m h4
          have h8 : m * k = O := by rw [hO, Nat.mul_comm]
          omega
      obtain ⟨b, off, ea, hb, hc⟩ := HB.out.resolve_left HL.out
      subst ea
      obtain ⟨O2, hO2⟩ : ∃ O2 : Nat, O2 = O + m := ⟨_, rfl⟩
      have e2 : (O : Int) + (m : Int) = (O2 : Int) := by rw [hO2]; simp
      obtain ⟨q, hq⟩ : ∃ q, q = (l.drop O).take m := ⟨_, rfl⟩
      have hcq : ∀ i (h : i < q.length), w.cell? ⟨b, off + O + i, none⟩ = some (.int .u8 (q[i].toNat : Int)) := by
        subst hq; exact BAt.piece hc O m
      have HO := Lib.hid hO
      have HO2 := Lib.hid hO2
      have HQ := Lib.hid hq
      have hO3 : O2 ≤ 9000 := by omega
      have hO4 : O < O2 := by omega
      have HC := Lib.hid hcq
      have hql : q.length = (min O2 l.length) - O := by rw [hq]; simp; omega
      have HQL := Lib.hid hql
      have hq1 : q.length ≤ 4000 := by omega
      clear hO hO2 hq hc hcq hql
      have b0 := hbx.at 0 rfl
      have b1 := hbx.at 1 rfl
      have b2 := hbx.at 2 rfl
      have b3 := hbx.at 3 rfl
      have b4 := hbx.at 4 rfl
      have b5 := hbx.at 5 rfl
      have hbxl := hbx.lt
      have HBX := Lib.hid hbx
      have HP := Lib.hid hP
      have hbw : b < wr.heap.size := Nat.lt_of_lt_of_le hb hB.size
      have HROW := Lib.hid hrow
      obtain ⟨av, cv, rfl⟩ : ∃ a cap, v = .slice a k cap := by
        rcases hrow.2 with ⟨h, h'⟩ | ⟨g, cap', cur, h, _⟩
        · exact ⟨none, 0, by rw [h, h']⟩
        · exact ⟨_, cap', h⟩
      clear hbx hP hrow
      have HNE := Lib.hid (show ∀ n, wr.heap.size ≤ n → (Value.slice av k cv).ownBlock ≠ some n from fun n hn e => by have := (HROW.out.lt n e).2; omega)
      have HN69 : ∀ X : Obj, Hid (∀ j u, (encB q)[j]? = some u → ((wr.alloc X).alloc (.cells #[] 5)).cell? ((⟨b, off + O, none⟩ : Addr).add j) = some u) := fun X => BAt.news (fun i hi => (World.cell?_of_block ((Below.heap_alloc _ _ _ (by simp; omega)).trans (Below.heap_alloc _ _ _ hbw))).trans ((hB.cell (p := ⟨b, off + O + i, none⟩) hb).trans (HC.out i hi)))
      by_cases hmin : O2 < l.length
      · have hmi : (O2 : Int) < (l.length : Int) := by omega
        have hme : ((O2 : Int) == (l.length : Int)) = false := by rw [beq_eq_false_iff_ne]; omega
        have hle : (O : Int) ≤ (O2 : Int) := by omega
        have hle2 : (O2 : Int) ≤ (cap : Int) := by omega
        by_cases hk0 : k = 0
        · have hO0 : ((O : Int) == 0) = true := by
            have := HO.out
            rw [hk0, Nat.zero_mul] at this
            rw [this]; rfl
          have hkO : Hid (k = 0) := hk0
          clear hk0
          go_wp2_with (first
            | (at_builtin; (refine wpList_append_lies (o := ⟨some 69, _, _, _, _, _⟩) _ rfl _ _ 22 rfl (wr.heap.size + 1) 5 j0 (.int .u8 0) 1 1 Try.underlying22 hj hy0 hy1 hy2 rfl (by decide) _ 0 [] rfl (own_made (by simp) (Nat.le_refl _)) ⟨b, off + O, none⟩ (O2 - O) (cap - O) (encB q) rfl (by rw [encB_length]; have := HQL.out; omega) (HN69 _).out (encB_one _) (by omega) (by unfold maxLen; omega) (by omega) (by simp) (wr.heap.size + 1 + 1) (by simp) ?_); intro g5 c5 w5 hown5 hgrow5 hwh5 hlt5; have hgrow5 : World.grownBy _ w5 (some (wr.heap.size + 1)) := hgrow5; have hO5 := Lib.hid hown5; have HX5 := Lib.hid (Blk.grown (.alloc (Blk.newAt (xs := [.bool p.cm, .bool p.sc, .int .i64 p.ap, .int .i64 1, .int .i64 ((p.ct + (k : Int)) % 16384), .slice pa p.dat.length pc]) rfl) _) hgrow5 (by simp)); have x0 := HX5.out.at 0 rfl; have x1 := HX5.out.at 1 rfl; have x2 := HX5.out.at 2 rfl; have x3 := HX5.out.at 3 rfl; have x4 := HX5.out.at 4 rfl; have x5 := HX5.out.at 5 rfl; have xf := HX5.out.free 5; have xl := HX5.out.lt; have HG5 := Lib.hid hgrow5; clear hown5 hgrow5 hwh5)
            | (at_builtin; go_must (refine wpList_append_lies (o := ⟨some 74, _, _, _, _, _⟩) _ rfl _ _ 26 rfl (w.heap.size + 1) 24 i0 _ 6 56 Try.underlying26 hi hz0 hz1 hz2 rfl (by decide) _ k xs rfl (own_set (p := ⟨wr.heap.size, 5, none⟩) (((HROW.out.alloc _).alloc _).kept HG5.out (.inr (HNE.out _ (by omega)))) (HNE.out _ (Nat.le_refl _)) _ |>.alloc _) ⟨w5.heap.size, 0, none⟩ 1 1 [.bool p.cm, .bool p.sc, .int .i64 p.ap, .int .i64 1, .int .i64 ((p.ct + (k : Int)) % 16384), .slice (some ⟨g5, 0, none⟩) (O2 - O) c5] rfl rfl (Blk.news (Blk.newAt (size_set _ _ _))) (one6 _ _ _ _ _ _ _ _) (by omega) (by unfold maxLen; omega) (by omega) (by have := HG5.out.size; simp [World.setCell] at this ⊢; omega) (w5.heap.size + 1) (by simp [World.setCell]) ?_); intro g7 c7 w7 hown7 hgrow7 hwh7 hlt7; have hgrow7 : World.grownBy _ w7 (Value.slice av k cv).ownBlock := hgrow7; have hO7 := Lib.hid hown7; have HG7 := Lib.hid hgrow7; have HW7 := Lib.hid hwh7; clear hown7 hgrow7 hwh7))
          go_roundw
          case rel =>
            have hp' : pieceOf p l m N k = ⟨p.cm, p.sc, p.ap, 1, (p.ct + k) % 16384, q⟩ := by
              have hfl : flagZ k N = 1 := by
                have h0 := hkO.out
                have h1 := HN.out
                have h2 : k + 1 + 1 ≤ (l.length + m - 1) / m := (Nat.le_div_iff_mul_le (by omega)).2 (by rw [Nat.add_mul, Nat.one_mul, Nat.add_mul, Nat.one_mul, ← HO.out]; have := HO2.out; omega)
                unfold flagZ
                rw [if_neg (by omega), if_pos (by omega)]
              rw [pieceOf, hfl, HQ.out, HO.out]
            obtain ⟨F, e5, hPR⟩ := rsplit_step (f := pieceOf p l m N) HROW.out HP.out HG5.out hO5.out HG7.out HW7.out hp' rfl
            have hqe : q.length = O2 - O := by have := HQL.out; omega
            simp only [hqe] at hPR
            have hnw : (Value.slice av k cv).ownBlock ≠ some w.heap.size := fun e => by have := (HROW.out.lt _ e).1; omega
            exact ⟨.slice (some ⟨g7, 0, none⟩) (k + 1) c7, k + 1, O2, _, rfl, by omega, by rw [HO2.out, HO.out, Nat.add_mul, Nat.one_mul], rfl, hO7.out, HBX.out.fr F hnw, hB.trans (F.toBelow hB.size (fun n hn => by have := (HROW.out.lt n hn).1; omega)), hPR⟩
          case measure => simp [intOf]; omega
        · have hO0 : ((O : Int) == 0) = false := by
            rw [beq_eq_false_iff_ne]
            have := HO.out
            have h1 : 1 * 1 ≤ k * m := Nat.mul_le_mul (by omega) hm1
            omega
          go_wp2_with (first
            | (at_builtin; (refine wpList_append_lies (o := ⟨some 69, _, _, _, _, _⟩) _ rfl _ _ 22 rfl (wr.heap.size + 1) 5 j0 (.int .u8 0) 1 1 Try.underlying22 hj hy0 hy1 hy2 rfl (by decide) _ 0 [] rfl (own_made (by simp) (Nat.le_refl _)) ⟨b, off + O, none⟩ (O2 - O) (cap - O) (encB q) rfl (by rw [encB_length]; have := HQL.out; omega) (HN69 _).out (encB_one _) (by omega) (by unfold maxLen; omega) (by omega) (by simp) (wr.heap.size + 1 + 1) (by simp) ?_); intro g5 c5 w5 hown5 hgrow5 hwh5 hlt5; have hgrow5 : World.grownBy _ w5 (some (wr.heap.size + 1)) := hgrow5; have hO5 := Lib.hid hown5; have HX5 := Lib.hid (Blk.grown (.alloc (Blk.newAt (xs := [.bool p.cm, .bool p.sc, .int .i64 p.ap, .int .i64 0, .int .i64 ((p.ct + (k : Int)) % 16384), .slice pa p.dat.length pc]) rfl) _) hgrow5 (by simp)); have x0 := HX5.out.at 0 rfl; have x1 := HX5.out.at 1 rfl; have x2 := HX5.out.at 2 rfl; have x3 := HX5.out.at 3 rfl; have x4 := HX5.out.at 4 rfl; have x5 := HX5.out.at 5 rfl; have xf := HX5.out.free 5; have xl := HX5.out.lt; have HG5 := Lib.hid hgrow5; clear hown5 hgrow5 hwh5)
            | (at_builtin; go_must (refine wpList_append_lies (o := ⟨some 74, _, _, _, _, _⟩) _ rfl _ _ 26 rfl (w.heap.size + 1) 24 i0 _ 6 56 Try.underlying26 hi hz0 hz1 hz2 rfl (by decide) _ k xs rfl (own_set (p := ⟨wr.heap.size, 5, none⟩) (((HROW.out.alloc _).alloc _).kept HG5.out (.inr (HNE.out _ (by omega)))) (HNE.out _ (Nat.le_refl _)) _ |>.alloc _) ⟨w5.heap.size, 0, none⟩ 1 1 [.bool p.cm, .bool p.sc, .int .i64 p.ap, .int .i64 0, .int .i64 ((p.ct + (k : Int)) % 16384), .slice (some ⟨g5, 0, none⟩) (O2 - O) c5] rfl rfl (Blk.news (Blk.newAt (size_set _ _ _))) (one6 _ _ _ _ _ _ _ _) (by omega) (by unfold maxLen; omega) (by omega) (by have := HG5.out.size; simp [World.setCell] at this ⊢; omega) (w5.heap.size + 1) (by simp [World.setCell]) ?_); intro g7 c7 w7 hown7 hgrow7 hwh7 hlt7; have hgrow7 : World.grownBy _ w7 (Value.slice av k cv).ownBlock := hgrow7; have hO7 := Lib.hid hown7; have HG7 := Lib.hid hgrow7; have HW7 := Lib.hid hwh7; clear hown7 hgrow7 hwh7))
          go_roundw
          case rel =>
            have hp' : pieceOf p l m N k = ⟨p.cm, p.sc, p.ap, 0, (p.ct + k) % 16384, q⟩ := by
              have hfl : flagZ k N = 0 := by
                have h1 := HN.out
                have h2 : k + 1 + 1 ≤ (l.length + m - 1) / m := (Nat.le_div_iff_mul_le (by omega)).2 (by rw [Nat.add_mul, Nat.one_mul, Nat.add_mul, Nat.one_mul, ← HO.out]; have := HO2.out; omega)
                unfold flagZ
                rw [if_neg (by omega), if_neg (by omega), if_neg (by omega)]
              rw [pieceOf, hfl, HQ.out, HO.out]
            obtain ⟨F, e5, hPR⟩ := rsplit_step (f := pieceOf p l m N) HROW.out HP.out HG5.out hO5.out HG7.out HW7.out hp' rfl
            have hqe : q.length = O2 - O := by have := HQL.out; omega
            simp only [hqe] at hPR
            have hnw : (Value.slice av k cv).ownBlock ≠ some w.heap.size := fun e => by have := (HROW.out.lt _ e).1; omega
            exact ⟨.slice (some ⟨g7, 0, none⟩) (k + 1) c7, k + 1, O2, _, rfl, by omega, by rw [HO2.out, HO.out, Nat.add_mul, Nat.one_mul], rfl, hO7.out, HBX.out.fr F hnw, hB.trans (F.toBelow hB.size (fun n hn => by have := (HROW.out.lt n hn).1; omega)), hPR⟩
          case measure => simp [intOf]; omega
      · by_cases heq : O2 = l.length
        · have hmi : (O2 : Int) ≤ (l.length : Int) := by omega
          have hme : ((O2 : Int) == (l.length : Int)) = true := by rw [heq]; simp
          have hle : (O : Int) ≤ (O2 : Int) := by omega
          have hle2 : (O2 : Int) ≤ (cap : Int) := by omega
          have HEQ := Lib.hid heq
          clear heq
          by_cases hk0 : k = 0
          · have hO0 : ((O : Int) == 0) = true := by
              have := HO.out
              rw [hk0, Nat.zero_mul] at this
              rw [this]; rfl
            have hkO : Hid (k = 0) := hk0
            clear hk0
            go_wp2_with (first
              | (at_builtin; (refine wpList_append_lies (o := ⟨some 69, _, _, _, _, _⟩) _ rfl _ _ 22 rfl (wr.heap.size + 1) 5 j0 (.int .u8 0) 1 1 Try.underlying22 hj hy0 hy1 hy2 rfl (by decide) _ 0 [] rfl (own_made (by simp) (Nat.le_refl _)) ⟨b, off + O, none⟩ (O2 - O) (cap - O) (encB q) rfl (by rw [encB_length]; have := HQL.out; omega) (HN69 _).out (encB_one _) (by omega) (by unfold maxLen; omega) (by omega) (by simp) (wr.heap.size + 1 + 1) (by simp) ?_); intro g5 c5 w5 hown5 hgrow5 hwh5 hlt5; have hgrow5 : World.grownBy _ w5 (some (wr.heap.size + 1)) := hgrow5; have hO5 := Lib.hid hown5; have HX5 := Lib.hid (Blk.grown (.alloc (Blk.newAt (xs := [.bool p.cm, .bool p.sc, .int .i64 p.ap, .int .i64 3, .int .i64 ((p.ct + (k : Int)) % 16384), .slice pa p.dat.length pc]) rfl) _) hgrow5 (by simp)); have x0 := HX5.out.at 0 rfl; have x1 := HX5.out.at 1 rfl; have x2 := HX5.out.at 2 rfl; have x3 := HX5.out.at 3 rfl; have x4 := HX5.out.at 4 rfl; have x5 := HX5.out.at 5 rfl; have xf := HX5.out.free 5; have xl := HX5.out.lt; have HG5 := Lib.hid hgrow5; clear hown5 hgrow5 hwh5)
              | (at_builtin; go_must (refine wpList_append_lies (o := ⟨some 74, _, _, _, _, _⟩) _ rfl _ _ 26 rfl (w.heap.size + 1) 24 i0 _ 6 56 Try.underlying26 hi hz0 hz1 hz2 rfl (by decide) _ k xs rfl (own_set (p := ⟨wr.heap.size, 5, none⟩) (((HROW.out.alloc _).alloc _).kept HG5.out (.inr (HNE.out _ (by omega)))) (HNE.out _ (Nat.le_refl _)) _ |>.alloc _) ⟨w5.heap.size, 0, none⟩ 1 1 [.bool p.cm, .bool p.sc, .int .i64 p.ap, .int .i64 3, .int .i64 ((p.ct + (k : Int)) % 16384), .slice (some ⟨g5, 0, none⟩) (O2 - O) c5] rfl rfl (Blk.news (Blk.newAt (size_set _ _ _))) (one6 _ _ _ _ _ _ _ _) (by omega) (by unfold maxLen; omega) (by omega) (by have := HG5.out.size; simp [World.setCell] at this ⊢; omega) (w5.heap.size + 1) (by simp [World.setCell]) ?_); intro g7 c7 w7 hown7 hgrow7 hwh7 hlt7; have hgrow7 : World.grownBy _ w7 (Value.slice av k cv).ownBlock := hgrow7; have hO7 := Lib.hid hown7; have HG7 := Lib.hid hgrow7; have HW7 := Lib.hid hwh7; clear hown7 hgrow7 hwh7))
            go_roundw
            case rel =>
              have hp' : pieceOf p l m N k = ⟨p.cm, p.sc, p.ap, 3, (p.ct + k) % 16384, q⟩ := by
                have hfl : flagZ k N = 3 := by
                  have h0 := hkO.out
                  have h3 : N ≤ k + 1 := by
                    rw [HN.out]
                    have h4 := (Nat.div_lt_iff_lt_mul (x := l.length + m - 1) (y := k + 2) (k := m) (by omega)).2 (by have := HO.out; have := HO2.out; rw [Nat.add_mul]; omega)
                    omega
                  unfold flagZ
                  rw [if_pos (by omega)]
                rw [pieceOf, hfl, HQ.out, HO.out]
              obtain ⟨F, e5, hPR⟩ := rsplit_step (f := pieceOf p l m N) HROW.out HP.out HG5.out hO5.out HG7.out HW7.out hp' rfl
              have hqe : q.length = O2 - O := by have := HQL.out; omega
              simp only [hqe] at hPR
              have hnw : (Value.slice av k cv).ownBlock ≠ some w.heap.size := fun e => by have := (HROW.out.lt _ e).1; omega
              exact ⟨.slice (some ⟨g7, 0, none⟩) (k + 1) c7, k + 1, O2, _, rfl, by omega, by rw [HO2.out, HO.out, Nat.add_mul, Nat.one_mul], rfl, hO7.out, HBX.out.fr F hnw, hB.trans (F.toBelow hB.size (fun n hn => by have := (HROW.out.lt n hn).1; omega)), hPR⟩
            case measure => simp [intOf]; omega
          · have hO0 : ((O : Int) == 0) = false := by
              rw [beq_eq_false_iff_ne]
              have := HO.out
              have h1 : 1 * 1 ≤ k * m := Nat.mul_le_mul (by omega) hm1
              omega
            go_wp2_with (first
              | (at_builtin; (refine wpList_append_lies (o := ⟨some 69, _, _, _, _, _⟩) _ rfl _ _ 22 rfl (wr.heap.size + 1) 5 j0 (.int .u8 0) 1 1 Try.underlying22 hj hy0 hy1 hy2 rfl (by decide) _ 0 [] rfl (own_made (by simp) (Nat.le_refl _)) ⟨b, off + O, none⟩ (O2 - O) (cap - O) (encB q) rfl (by rw [encB_length]; have := HQL.out; omega) (HN69 _).out (encB_one _) (by omega) (by unfold maxLen; omega) (by omega) (by simp) (wr.heap.size + 1 + 1) (by simp) ?_); intro g5 c5 w5 hown5 hgrow5 hwh5 hlt5; have hgrow5 : World.grownBy _ w5 (some (wr.heap.size + 1)) := hgrow5; have hO5 := Lib.hid hown5; have HX5 := Lib.hid (Blk.grown (.alloc (Blk.newAt (xs := [.bool p.cm, .bool p.sc, .int .i64 p.ap, .int .i64 2, .int .i64 ((p.ct + (k : Int)) % 16384), .slice pa p.dat.length pc]) rfl) _) hgrow5 (by simp)); have x0 := HX5.out.at 0 rfl; have x1 := HX5.out.at 1 rfl; have x2 := HX5.out.at 2 rfl; have x3 := HX5.out.at 3 rfl; have x4 := HX5.out.at 4 rfl; have x5 := HX5.out.at 5 rfl; have xf := HX5.out.free 5; have xl := HX5.out.lt; have HG5 := Lib.hid hgrow5; clear hown5 hgrow5 hwh5)
              | (at_builtin; go_must (refine wpList_append_lies (o := ⟨some 74, _, _, _, _, _⟩) _ rfl _ _ 26 rfl (w.heap.size + 1) 24 i0 _ 6 56 Try.underlying26 hi hz0 hz1 hz2 rfl (by decide) _ k xs rfl (own_set (p := ⟨wr.heap.size, 5, none⟩) (((HROW.out.alloc _).alloc _).kept HG5.out (.inr (HNE.out _ (by omega)))) (HNE.out _ (Nat.le_refl _)) _ |>.alloc _) ⟨w5.heap.size, 0, none⟩ 1 1 [.bool p.cm, .bool p.sc, .int .i64 p.ap, .int .i64 2, .int .i64 ((p.ct + (k : Int)) % 16384), .slice (some ⟨g5, 0, none⟩) (O2 - O) c5] rfl rfl (Blk.news (Blk.newAt (size_set _ _ _))) (one6 _ _ _ _ _ _ _ _) (by omega) (by unfold maxLen; omega) (by omega) (by have := HG5.out.size; simp [World.setCell] at this ⊢; omega) (w5.heap.size + 1) (by simp [World.setCell]) ?_); intro g7 c7 w7 hown7 hgrow7 hwh7 hlt7; have hgrow7 : World.grownBy _ w7 (Value.slice av k cv).ownBlock := hgrow7; have hO7 := Lib.hid hown7; have HG7 := Lib.hid hgrow7; have HW7 := Lib.hid hwh7; clear hown7 hgrow7 hwh7))
            go_roundw
            case rel =>
              have hp' : pieceOf p l m N k = ⟨p.cm, p.sc, p.ap, 2, (p.ct + k) % 16384, q⟩ := by
                have hfl : flagZ k N = 2 := by
                  have h3 : N ≤ k + 1 := by
                    rw [HN.out]
                    have h4 := (Nat.div_lt_iff_lt_mul (x := l.length + m - 1) (y := k + 2) (k := m) (by omega)).2 (by have := HO.out; have := HO2.out; rw [Nat.add_mul]; omega)
                    omega
                  unfold flagZ
                  rw [if_neg (by omega), if_neg (by omega), if_pos (by omega)]
                rw [pieceOf, hfl, HQ.out, HO.out]
              obtain ⟨F, e5, hPR⟩ := rsplit_step (f := pieceOf p l m N) HROW.out HP.out HG5.out hO5.out HG7.out HW7.out hp' rfl
              have hqe : q.length = O2 - O := by have := HQL.out; omega
              simp only [hqe] at hPR
              have hnw : (Value.slice av k cv).ownBlock ≠ some w.heap.size := fun e => by have := (HROW.out.lt _ e).1; omega
              exact ⟨.slice (some ⟨g7, 0, none⟩) (k + 1) c7, k + 1, O2, _, rfl, by omega, by rw [HO2.out, HO.out, Nat.add_mul, Nat.one_mul], rfl, hO7.out, HBX.out.fr F hnw, hB.trans (F.toBelow hB.size (fun n hn => by have := (HROW.out.lt n hn).1; omega)), hPR⟩
            case measure => simp [intOf]; omega
        · have hmi : ¬ (O2 : Int) ≤ (l.length : Int) := by omega
          have hmi2 : (l.length : Int) < (O2 : Int) := by omega
          have hme : ((l.length : Int) == (l.length : Int)) = true := by simp
          have hle : (O : Int) ≤ (l.length : Int) := by omega
          have hle2 : (l.length : Int) ≤ (cap : Int) := by omega
          by_cases hk0 : k = 0
          · have hO0 : ((O : Int) == 0) = true := by
              have := HO.out
              rw [hk0, Nat.zero_mul] at this
              rw [this]; rfl
            have hkO : Hid (k = 0) := hk0
            clear hk0
            go_wp2_with (first
              | (at_builtin; (refine wpList_append_lies (o := ⟨some 69, _, _, _, _, _⟩) _ rfl _ _ 22 rfl (wr.heap.size + 1) 5 j0 (.int .u8 0) 1 1 Try.underlying22 hj hy0 hy1 hy2 rfl (by decide) _ 0 [] rfl (own_made (by simp) (Nat.le_refl _)) ⟨b, off + O, none⟩ (l.length - O) (cap - O) (encB q) rfl (by rw [encB_length]; have := HQL.out; omega) (HN69 _).out (encB_one _) (by omega) (by unfold maxLen; omega) (by omega) (by simp) (wr.heap.size + 1 + 1) (by simp) ?_); intro g5 c5 w5 hown5 hgrow5 hwh5 hlt5; have hgrow5 : World.grownBy _ w5 (some (wr.heap.size + 1)) := hgrow5; have hO5 := Lib.hid hown5; have HX5 := Lib.hid (Blk.grown (.alloc (Blk.newAt (xs := [.bool p.cm, .bool p.sc, .int .i64 p.ap, .int .i64 3, .int .i64 ((p.ct + (k : Int)) % 16384), .slice pa p.dat.length pc]) rfl) _) hgrow5 (by simp)); have x0 := HX5.out.at 0 rfl; have x1 := HX5.out.at 1 rfl; have x2 := HX5.out.at 2 rfl; have x3 := HX5.out.at 3 rfl; have x4 := HX5.out.at 4 rfl; have x5 := HX5.out.at 5 rfl; have xf := HX5.out.free 5; have xl := HX5.out.lt; have HG5 := Lib.hid hgrow5; clear hown5 hgrow5 hwh5)
              | (at_builtin; go_must (refine wpList_append_lies (o := ⟨some 74, _, _, _, _, _⟩) _ rfl _ _ 26 rfl (w.heap.size + 1) 24 i0 _ 6 56 Try.underlying26 hi hz0 hz1 hz2 rfl (by decide) _ k xs rfl (own_set (p := ⟨wr.heap.size, 5, none⟩) (((HROW.out.alloc _).alloc _).kept HG5.out (.inr (HNE.out _ (by omega)))) (HNE.out _ (Nat.le_refl _)) _ |>.alloc _) ⟨w5.heap.size, 0, none⟩ 1 1 [.bool p.cm, .bool p.sc, .int .i64 p.ap, .int .i64 3, .int .i64 ((p.ct + (k : Int)) % 16384), .slice (some ⟨g5, 0, none⟩) (l.length - O) c5] rfl rfl (Blk.news (Blk.newAt (size_set _ _ _))) (one6 _ _ _ _ _ _ _ _) (by omega) (by unfold maxLen; omega) (by omega) (by have := HG5.out.size; simp [World.setCell] at this ⊢; omega) (w5.heap.size + 1) (by simp [World.setCell]) ?_); intro g7 c7 w7 hown7 hgrow7 hwh7 hlt7; have hgrow7 : World.grownBy _ w7 (Value.slice av k cv).ownBlock := hgrow7; have hO7 := Lib.hid hown7; have HG7 := Lib.hid hgrow7; have HW7 := Lib.hid hwh7; clear hown7 hgrow7 hwh7))
            go_roundw
            case rel =>
              have hp' : pieceOf p l m N k = ⟨p.cm, p.sc, p.ap, 3, (p.ct + k) % 16384, q⟩ := by
                have hfl : flagZ k N = 3 := by
                  have h0 := hkO.out
                  have h3 : N ≤ k + 1 := by
                    rw [HN.out]
                    have h4 := (Nat.div_lt_iff_lt_mul (x := l.length + m - 1) (y := k + 2) (k := m) (by omega)).2 (by have := HO.out; have := HO2.out; rw [Nat.add_mul]; omega)
                    omega
                  unfold flagZ
                  rw [if_pos (by omega)]
                rw [pieceOf, hfl, HQ.out, HO.out]
              obtain ⟨F, e5, hPR⟩ := rsplit_step (f := pieceOf p l m N) HROW.out HP.out HG5.out hO5.out HG7.out HW7.out hp' rfl
              have hqe : q.length = l.length - O := by have := HQL.out; omega
              simp only [hqe] at hPR
              have hnw : (Value.slice av k cv).ownBlock ≠ some w.heap.size := fun e => by have := (HROW.out.lt _ e).1; omega
              exact ⟨.slice (some ⟨g7, 0, none⟩) (k + 1) c7, k + 1, O2, _, rfl, by omega, by rw [HO2.out, HO.out, Nat.add_mul, Nat.one_mul], rfl, hO7.out, HBX.out.fr F hnw, hB.trans (F.toBelow hB.size (fun n hn => by have := (HROW.out.lt n hn).1; omega)), hPR⟩
            case measure => simp [intOf]; omega
          · have hO0 : ((O : Int) == 0) = false := by
              rw [beq_eq_false_iff_ne]
              have := HO.out
              have h1 : 1 * 1 ≤ k * m := Nat.mul_le_mul (by omega) hm1
              omega
            go_wp2_with (first
              | (at_builtin; (refine wpList_append_lies (o := ⟨some 69, _, _, _, _, _⟩) _ rfl _ _ 22 rfl (wr.heap.size + 1) 5 j0 (.int .u8 0) 1 1 Try.underlying22 hj hy0 hy1 hy2 rfl (by decide) _ 0 [] rfl (own_made (by simp) (Nat.le_refl _)) ⟨b, off + O, none⟩ (l.length - O) (cap - O) (encB q) rfl (by rw [encB_length]; have := HQL.out; omega) (HN69 _).out (encB_one _) (by omega) (by unfold maxLen; omega) (by omega) (by simp) (wr.heap.size + 1 + 1) (by simp) ?_); intro g5 c5 w5 hown5 hgrow5 hwh5 hlt5; have hgrow5 : World.grownBy _ w5 (some (wr.heap.size + 1)) := hgrow5; have hO5 := Lib.hid hown5; have HX5 := Lib.hid (Blk.grown (.alloc (Blk.newAt (xs := [.bool p.cm, .bool p.sc, .int .i64 p.ap, .int .i64 2, .int .i64 ((p.ct + (k : Int)) % 16384), .slice pa p.dat.length pc]) rfl) _) hgrow5 (by simp)); have x0 := HX5.out.at 0 rfl; have x1 := HX5.out.at 1 rfl; have x2 := HX5.out.at 2 rfl; have x3 := HX5.out.at 3 rfl; have x4 := HX5.out.at 4 rfl; have x5 := HX5.out.at 5 rfl; have xf := HX5.out.free 5; have xl := HX5.out.lt; have HG5 := Lib.hid hgrow5; clear hown5 hgrow5 hwh5)
              | (at_builtin; go_must (refine wpList_append_lies (o := ⟨some 74, _, _, _, _, _⟩) _ rfl _ _ 26 rfl (w.heap.size + 1) 24 i0 _ 6 56 Try.underlying26 hi hz0 hz1 hz2 rfl (by decide) _ k xs rfl (own_set (p := ⟨wr.heap.size, 5, none⟩) (((HROW.out.alloc _).alloc _).kept HG5.out (.inr (HNE.out _ (by omega)))) (HNE.out _ (Nat.le_refl _)) _ |>.alloc _) ⟨w5.heap.size, 0, none⟩ 1 1 [.bool p.cm, .bool p.sc, .int .i64 p.ap, .int .i64 2, .int .i64 ((p.ct + (k : Int)) % 16384), .slice (some ⟨g5, 0, none⟩) (l.length - O) c5] rfl rfl (Blk.news (Blk.newAt (size_set _ _ _))) (one6 _ _ _ _ _ _ _ _) (by omega) (by unfold maxLen; omega) (by omega) (by have := HG5.out.size; simp [World.setCell] at this ⊢; omega) (w5.heap.size + 1) (by simp [World.setCell]) ?_); intro g7 c7 w7 hown7 hgrow7 hwh7 hlt7; have hgrow7 : World.grownBy _ w7 (Value.slice av k cv).ownBlock := hgrow7; have hO7 := Lib.hid hown7; have HG7 := Lib.hid hgrow7; have HW7 := Lib.hid hwh7; clear hown7 hgrow7 hwh7))
            go_roundw
            case rel =>
              have hp' : pieceOf p l m N k = ⟨p.cm, p.sc, p.ap, 2, (p.ct + k) % 16384, q⟩ := by
                have hfl : flagZ k N = 2 := by
                  have h3 : N ≤ k + 1 := by
                    rw [HN.out]
                    have h4 := (Nat.div_lt_iff_lt_mul (x := l.length + m - 1) (y := k + 2) (k := m) (by omega)).2 (by have := HO.out; have := HO2.out; rw [Nat.add_mul]; omega)
                    omega
                  unfold flagZ
                  rw [if_neg (by omega), if_neg (by omega), if_pos (by omega)]
                rw [pieceOf, hfl, HQ.out, HO.out]
              obtain ⟨F, e5, hPR⟩ := rsplit_step (f := pieceOf p l m N) HROW.out HP.out HG5.out hO5.out HG7.out HW7.out hp' rfl
              have hqe : q.length = l.length - O := by have := HQL.out; omega
              simp only [hqe] at hPR
              have hnw : (Value.slice av k cv).ownBlock ≠ some w.heap.size := fun e => by have := (HROW.out.lt _ e).1; omega
              exact ⟨.slice (some ⟨g7, 0, none⟩) (k + 1) c7, k + 1, O2, _, rfl, by omega, by rw [HO2.out, HO.out, Nat.add_mul, Nat.one_mul], rfl, hO7.out, HBX.out.fr F hnw, hB.trans (F.toBelow hB.size (fun n hn => by have := (HROW.out.lt n hn).1; omega)), hPR⟩
            case measure => simp [intOf]; omega
    · have hkN : k = N := by
        have h4 := (Nat.div_lt_iff_lt_mul (x := l.length + m - 1) (y := k + 1) (k := m) (by omega)).2 (by rw [Nat.add_mul, ← hO]; omega)
        have h5 := HN.out
        omega
      obtain ⟨av, cv, rfl⟩ : ∃ a cap, v = .slice a k cap := by
        rcases hrow.2 with ⟨h, h'⟩ | ⟨g, cap', cur, h, _⟩
        · exact ⟨none, 0, by rw [h, h']⟩
        · exact ⟨_, cap', h⟩
      have HKN := Lib.hid hkN
      have HP := Lib.hid hP
      have hOl : ¬ (O : Int) < (l.length : Int) := by omega
      clear hkN hP
      go_wp2_with fail
      go_ret2
      have hps : (splitL p l m).length = k := by rw [splitL, List.length_map, List.length_range, ← HN.out, HKN.out]
      rcases hrow.2 with ⟨h, h'⟩ | ⟨g, cap', cur, h, hg1, hg2, hg3, hg4, hg5, hg6⟩
      · exfalso; have := HKN.out; omega
      · obtain ⟨h1, -, h3⟩ := Value.slice.inj h
        subst h1 h3
        refine ⟨.slice (some ⟨g, 0, none⟩) k cv, rfl, ⟨Nat.le_refl _, _, cv, by rw [hps], by rw [hps]; exact hg3, .inr ⟨g, 0, rfl, fun i hi => ?_⟩⟩, hB⟩
        rw [hps] at hi
        obtain ⟨a', c', q1, q2, q3, q4⟩ := HP.out i hi
        have e : (splitL p l m)[i]'(by rw [hps]; exact hi) = pieceOf p l m N i := by simp [splitL, ← HN.out]
        rw [e]
        refine ⟨lt_of_block hg2, a', c', fun j hj => ?_, q2, q3, fun q hq _ => (q4 q hq).1⟩
        rw [← q1 j hj]
        rw [Joins.cell_of_block hg2, Nat.zero_add, ← hg6, List.getElem?_take_of_lt (by omega), Array.getElem?_toList]
end Go.Proofs.Ytdllngedmhihkaa

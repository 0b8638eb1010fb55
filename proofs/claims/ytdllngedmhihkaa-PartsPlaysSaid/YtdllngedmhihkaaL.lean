/- Split of the program. No condition. -/
import Derived.Test.YtdllngedmhihkaaJ
import Derived.Laws.MakeOwn
import Derived.Deep.RegionHeld3
namespace Go.Proofs.Ytdllngedmhihkaa
open Go.RowKit Go.Deep Go.ChangeShapes Go.WideShapes Go.ChangeAt
set_option linter.unusedVariables false

theorem info24 : (Try.prog.info? 24).map (fun i => (i.zero, i.size, i.bytes)) = some (some (.agg #[.bool false, .bool false, .int .i64 0, .int .i64 0, .int .i64 0, .slice none 0 0]), 6, 56) := by kernel_rfl
/-- piece i of n -/
def pieceOf (p : PK) (l : List UInt8) (m n i : Nat) : PK := ⟨p.cm, p.sc, p.ap, flagZ i n, (p.ct + i) % 16384, (l.drop (i * m)).take m⟩
def splitL (p : PK) (l : List UInt8) (m : Nat) : List PK := (List.range ((l.length + m - 1) / m)).map (pieceOf p l m ((l.length + m - 1) / m))
/-- element i of a row of packets in block g that holds xs -/
def PC (w : World) (g : Nat) (xs : List Value) (i : Nat) (p : PK) : Prop :=
  ∃ a cap, (∀ j, j < 6 → xs[i * 6 + j]? = p.cell a cap j) ∧ BAt w a p.dat ∧ p.dat.length ≤ cap ∧ ∀ q, a = some q → q.block < w.heap.size ∧ q.block ≠ g
def put6 (xs : List Value) (o : Nat) (v0 v1 v2 v3 v4 v5 : Value) : List Value := (((((xs.set o v0).set (o + 1) v1).set (o + 2) v2).set (o + 3) v3).set (o + 4) v4).set (o + 5) v5
theorem put6_length (xs : List Value) (o : Nat) (v0 v1 v2 v3 v4 v5 : Value) : (put6 xs o v0 v1 v2 v3 v4 v5).length = xs.length := by simp [put6]
theorem put6_ne (xs : List Value) (o n : Nat) (v0 v1 v2 v3 v4 v5 : Value) (h : n < o ∨ o + 6 ≤ n) : (put6 xs o v0 v1 v2 v3 v4 v5)[n]? = xs[n]? := by
  unfold put6
  rw [List.getElem?_set_ne (by omega), List.getElem?_set_ne (by omega), List.getElem?_set_ne (by omega), List.getElem?_set_ne (by omega), List.getElem?_set_ne (by omega), List.getElem?_set_ne (by omega)]
theorem put6_at (xs : List Value) (o j : Nat) (v0 v1 v2 v3 v4 v5 : Value) (h : o + 5 < xs.length) (hj : j < 6) : (put6 xs o v0 v1 v2 v3 v4 v5)[o + j]? = [v0, v1, v2, v3, v4, v5][j]? := by
  unfold put6
  match j, hj with
  | 0, _ => simp [List.getElem?_set]; omega
  | 1, _ => simp [List.getElem?_set]; omega
  | 2, _ => simp [List.getElem?_set]; omega
  | 3, _ => simp [List.getElem?_set]; omega
  | 4, _ => simp [List.getElem?_set]; omega
  | 5, _ => simp [List.getElem?_set]; omega
theorem Blk.ex {w : World} {b : Nat} {T : TypeId} {xs : List Value} (h : Blk w b T xs) {i : Nat} (hi : i < xs.length) : ∃ v, w.cell? ⟨b, i, none⟩ = some v := ⟨xs[i], by rw [h.cell i, List.getElem?_eq_getElem hi]⟩
theorem row_slice {w : World} {base : Nat} {v : Value} {n : Nat} {xs : List Value} (h : w.ownsRow base 5 1 v n xs) : ∃ a cap, v = .slice a n cap := by
  rcases h.2 with ⟨h, h'⟩ | ⟨g, cap', cur, h, _⟩
  · exact ⟨none, 0, by rw [h, h']⟩
  · exact ⟨_, cap', h⟩
theorem sclone_n (b off cap n : Nat) (l : List UInt8) (w : World) (hn : l.length = n) (hl : l.length ≤ 1000000000) (hc : ∀ i (h : i < l.length), w.cell? ⟨b, off + i, none⟩ = some (.int .u8 (l[i].toNat : Int))) (hb : b < w.heap.size) :
    Calls Try.prog 22 #[.slice (some ⟨b, off, none⟩) n cap] w (NewB w l) := by
  subst hn
  exact sclone_some b off cap l w hl hc (.inr hb)
theorem BAt.piece {w : World} {b off : Nat} {l : List UInt8} (h : ∀ i (h : i < l.length), w.cell? ⟨b, off + i, none⟩ = some (.int .u8 (l[i].toNat : Int))) (o m : Nat) :
    ∀ i (h : i < ((l.drop o).take m).length), w.cell? ⟨b, off + o + i, none⟩ = some (.int .u8 (((l.drop o).take m)[i].toNat : Int)) := by
  intro i hi
  have h1 : o + i < l.length := by simp at hi; omega
  have := h (o + i) h1
  rw [Nat.add_assoc, this]
  simp
/-- six stores, one after another -/
def set6 (w : World) (g o : Nat) (v0 v1 v2 v3 v4 v5 : Value) : World := (((((w.setCell ⟨g, o, none⟩ v0).setCell ⟨g, o + 1, none⟩ v1).setCell ⟨g, o + 2, none⟩ v2).setCell ⟨g, o + 3, none⟩ v3).setCell ⟨g, o + 4, none⟩ v4).setCell ⟨g, o + 5, none⟩ v5
theorem Blk.set6 {w : World} {g : Nat} {T : TypeId} {xs : List Value} (h : Blk w g T xs) (o : Nat) (v0 v1 v2 v3 v4 v5 : Value) : Blk (set6 w g o v0 v1 v2 v3 v4 v5) g T (put6 xs o v0 v1 v2 v3 v4 v5) :=
  (((((h.setCell _ _).setCell _ _).setCell _ _).setCell _ _).setCell _ _).setCell _ _
theorem Fr.set6 {w : World} (g o : Nat) (v0 v1 v2 v3 v4 v5 : Value) : Fr (fun k => k = g) w (set6 w g o v0 v1 v2 v3 v4 v5) :=
  ((((((Fr.refl _ _).set1 _ (by exact .inl rfl)).set1 _ (by exact .inl rfl)).set1 _ (by exact .inl rfl)).set1 _ (by exact .inl rfl)).set1 _ (by exact .inl rfl)).set1 _ (by exact .inl rfl)
theorem PC.step {wr w5 : World} {g k i : Nat} {xs : List Value} {p : PK} (h : PC wr g xs i p) (hg : g < wr.heap.size) (hB : Below wr.heap.size wr w5) (hik : i < k) (v0 v1 v2 v3 v4 v5 : Value) :
    PC (set6 w5 g (k * 6) v0 v1 v2 v3 v4 v5) g (put6 xs (k * 6) v0 v1 v2 v3 v4 v5) i p := by
  obtain ⟨a, cap, h1, h2, h3, h4⟩ := h
  refine ⟨a, cap, fun j hj => ?_, ?_, h3, fun q hq => ⟨?_, (h4 q hq).2⟩⟩
  · rw [put6_ne _ _ _ _ _ _ _ _ _ (by omega)]; exact h1 j hj
  · exact (h2.below hB (Nat.le_refl _)).fr (Fr.set6 g (k * 6) v0 v1 v2 v3 v4 v5) (fun p hp => (h4 p hp).2)
  · have := (h4 q hq).1
    have h5 := hB.size
    have h6 := (Fr.set6 (w := w5) g (k * 6) v0 v1 v2 v3 v4 v5).size
    omega
theorem PC.new {wr w5 : World} {g k : Nat} {xs : List Value} {a : Option Addr} {cap : Nat} (p : PK) (hx : k * 6 + 5 < xs.length) (hg : g < wr.heap.size) (hB : Below wr.heap.size wr w5) (ho : w5.ownsRow wr.heap.size 5 1 (.slice a p.dat.length cap) p.dat.length (encB p.dat)) (v0 v1 v2 v3 v4 v5 : Value)
    (e0 : v0 = .bool p.cm) (e1 : v1 = .bool p.sc) (e2 : v2 = .int .i64 p.ap) (e3 : v3 = .int .i64 p.fl) (e4 : v4 = .int .i64 p.ct) (e5 : v5 = .slice a p.dat.length cap) :
    PC (set6 w5 g (k * 6) v0 v1 v2 v3 v4 v5) g (put6 xs (k * 6) v0 v1 v2 v3 v4 v5) k p := by
  subst e0 e1 e2 e3 e4 e5
  obtain ⟨-, a', c', e, hc, -, hb⟩ := BAt.of_row ho
  simp only [Value.slice.injEq, true_and] at e
  obtain ⟨rfl, rfl⟩ := e
  have ha : ∀ q, a = some q → q.block < w5.heap.size ∧ q.block ≠ g := fun q hq => by
    have := ho.lt q.block (by rw [hq]; rfl)
    omega
  refine ⟨a, cap, fun j hj => put6_at _ _ _ _ _ _ _ _ _ hx hj, hb.fr (Fr.set6 g (k * 6) _ _ _ _ _ _) (fun p hp => (ha p hp).2), hc, fun q hq => ⟨?_, (ha q hq).2⟩⟩
  have h6 := (Fr.set6 (w := w5) g (k * 6) (.bool p.cm) (.bool p.sc) (.int .i64 p.ap) (.int .i64 p.fl) (.int .i64 p.ct) (.slice a p.dat.length cap)).size
  have := (ha q hq).1
  omega
/-- what a call of Split leaves -/
def SplitQ (w : World) (ps : List PK) (e : Ending) (w' : World) : Prop := ∃ v, e = .returned (.tuple #[v, .int .i64 0]) ∧ Pks w' w'.heap.size v ps ∧ Below w.heap.size w w'
set_option maxRecDepth 20000 in
set_option maxHeartbeats 2000000 in
theorem split_ok (p : PK) (pa : Option Addr) (pc : Nat) (a : Option Addr) (l : List UInt8) (cap m : Nat) (w : World) (hl0 : l ≠ []) (hl : l.length ≤ 4000) (hcap : l.length ≤ cap) (hcm : cap ≤ maxLen) (hb : BAt w a l) (hk : okB p.ap p.ct = true) (hm1 : 1 ≤ m) (hm2 : m ≤ 4090) :
    Calls Try.prog 10 #[p.val pa pc, .slice a l.length cap, .int .i64 (m : Int)] w (SplitQ w (splitL p l m)) := by
  obtain ⟨N, hN, hN0, hN1⟩ : ∃ N : Nat, N = (l.length + m - 1) / m ∧ 1 ≤ N ∧ N ≤ 4000 := by
    have h1 := List.length_pos_iff.2 hl0
    refine ⟨_, rfl, (Nat.le_div_iff_mul_le (by omega)).2 (by omega), ?_⟩
    refine Nat.le_trans (Nat.div_le_of_le_mul (n := l.length) ?_) hl
    have : m * l.length ≥ l.length + m - 1 := by
      obtain ⟨m', rfl⟩ : ∃ m', m = m' + 1 := ⟨m - 1, by omega⟩
      obtain ⟨k', hk'⟩ : ∃ k', l.length = k' + 1 := ⟨l.length - 1, by omega⟩
      rw [hk', Nat.add_mul, Nat.mul_add]
      omega
    exact this
  have hdiv : ((l.length : Int) + (m : Int) - 1) / (m : Int) = (N : Int) := by
    rw [hN]
    have : ((l.length + m - 1 : Nat) : Int) = (l.length : Int) + (m : Int) - 1 := by omega
    rw [← this]; rfl
  have HN := Lib.hid hN
  have HB := Lib.hid hb
  unfold PK.val Pk
  have hlb : ((l.length : Int) == 0) = false := by
    rw [beq_eq_false_iff_ne]; intro h; exact hl0 (List.length_eq_zero_iff.1 (by omega))
  have HL := Lib.hid hl0
  clear hN hb hl0
  obtain ⟨i0, hi, hz0, hz1, hz2⟩ := info_parts info24
  have hmk := fun (w : World) => run_make (P := Try.prog) w 26 24 i0 _ Try.underlying26 hi hz0 .i64 .i64 N N (by omega) (Int.le_refl _) (by rw [hz2]; omega) (by omega)
  simp only [Int.toNat_natCast, hz1] at hmk
  have hZ := size_madeCells (Value.cells (.agg #[.bool false, .bool false, .int .i64 0, .int .i64 0, .int .i64 0, .slice none 0 0])) (N * 6)
  generalize madeCells (Value.cells (.agg #[.bool false, .bool false, .int .i64 0, .int .i64 0, .int .i64 0, .slice none 0 0])) (N * 6) = Z at hmk hZ
  clear hi hz0 hz1 hz2
  have HZ := Lib.hid hZ
  clear hZ
  go_enter Try.func10, Try.ntmps10
  go_wp2_with (go_at_call 19; refine (counted_any _ _ _).mono ?_; rintro e w2 ⟨rfl, rfl⟩)
  rw [hdiv]
  clear hdiv hmk
  go_loopw [42] (fun i wr => ∃ k xs, k ≤ N ∧ i = .int .i64 (k : Nat) ∧ Blk wr (w.heap.size + 1) 24 xs ∧ xs.length = N * 6 ∧ Blk wr w.heap.size 24 [.bool p.cm, .bool p.sc, .int .i64 p.ap, .int .i64 p.fl, .int .i64 p.ct, .slice pa p.dat.length pc] ∧ Below w.heap.size w wr ∧ ∀ i, i < k → PC wr (w.heap.size + 1) xs i (pieceOf p l m N i)) (fun i _ => N - (intOf i).toNat)
  case atStart => exact ⟨0, Z.toList, by omega, rfl, Blk.newAt (by simp), by simpa using HZ.out, .alloc (Blk.newAt rfl) _, al (al (Below.refl _ _) _) _, fun i hi => by omega⟩
  case round =>
    have hk1 := hk
    obtain ⟨k, xs, hk, rfl, hbl, hxl, hbx, hB, hP⟩ := hrel
    by_cases hlt : k < N
    · obtain ⟨b, off, ea, hb, hc⟩ := HB.out.resolve_left HL.out
      subst ea
      obtain ⟨O, hO⟩ : ∃ O : Nat, O = k * m := ⟨_, rfl⟩
      have hOl : O < l.length := by
        have h1 := HN.out
        have h2 : k + 1 ≤ (l.length + m - 1) / m := by omega
        have h3 := (Nat.le_div_iff_mul_le (by omega)).1 h2
        rw [Nat.add_mul, Nat.one_mul, ← hO] at h3
        omega
      have e1 : (k : Int) * (m : Int) = (O : Int) := by rw [hO]; simp
      obtain ⟨O2, hO2⟩ : ∃ O2 : Nat, O2 = O + m := ⟨_, rfl⟩
      have e2 : ((k : Int) + 1) * (m : Int) = (O2 : Int) := by rw [hO2, hO, Int.add_mul]; simp
      obtain ⟨q, hq⟩ : ∃ q, q = (l.drop O).take m := ⟨_, rfl⟩
      have hcq : ∀ i (h : i < q.length), w.cell? ⟨b, off + O + i, none⟩ = some (.int .u8 (q[i].toNat : Int)) := by
        subst hq; exact BAt.piece hc O m
      have HO := Lib.hid hO
      have HO2 := Lib.hid hO2
      have HQ := Lib.hid hq
      have hO3 : O2 ≤ 9000 := by omega
      have hO4 : O ≤ O2 := by omega
      have HC := Lib.hid hcq
      have hql : q.length = (min O2 l.length) - O := by rw [hq]; simp; omega
      have HQL := Lib.hid hql
      have hq1 : q.length ≤ 4000 := by omega
      clear hO hO2 hq hc hcq hql
      have b0 := hbx.at 0 rfl
      have b1 := hbx.at 1 rfl
      have b2 := hbx.at 2 rfl
      have b4 := hbx.at 4 rfl
      have hbxl := hbx.lt
      have hbll := hbl.lt
      have HBX := Lib.hid hbx
      have HBL := Lib.hid hbl
      have HP := Lib.hid hP
      have HXL := Lib.hid hxl
      have hbw : b < wr.heap.size := Nat.lt_of_lt_of_le hb hB.size
      clear hbx hbl hP hxl
      by_cases hmin : O2 ≤ l.length
      · have hmi : (O2 : Int) ≤ (l.length : Int) := by omega
        have hle : (O : Int) ≤ (O2 : Int) := by omega
        have hle2 : (O2 : Int) ≤ (cap : Int) := by omega
        have HCW := Lib.hid (show ∀ i (h : i < q.length), wr.drew.cell? ⟨b, off + O + i, none⟩ = some (.int .u8 (q[i].toNat : Int)) from fun i hi => (hB.cell (p := ⟨b, off + O + i, none⟩) hb).trans (HC.out i hi))
        go_wp2_with fail
        go_region_held3 (fun w' => w'.cell? ⟨w.heap.size, 0, none⟩ = some (.bool p.cm) ∧ w'.cell? ⟨w.heap.size, 1, none⟩ = some (.bool p.sc) ∧ w'.cell? ⟨w.heap.size, 2, none⟩ = some (.int .i64 p.ap) ∧ w'.cell? ⟨w.heap.size, 4, none⟩ = some (.int .i64 p.ct)) (go_keep) ((first
          | (go_at_call 20; refine (flags_any _ _ _ (by omega) (by omega)).mono ?_; rintro e w2 ⟨rfl, rfl⟩)
          | (go_at_call 21; refine (Add_any _ _ _).mono ?_; rintro e w2 ⟨rfl, rfl⟩)
          | (go_at_call 22; refine (sclone_n b (off + O) (cap - O) (O2 - O) q wr.drew (by have := HQL.out; omega) (by omega) HCW.out hbw).mono ?_; rintro e w5 ⟨v5, rfl, hown5, hB5⟩; obtain ⟨a5, c5, rfl⟩ := row_slice hown5; have hB5 := undrew hB5; have HBX5 := Lib.hid (HBX.out.below hB5 (Nat.le_refl _)); have HBL5 := Lib.hid (HBL.out.below hB5 (Nat.le_refl _)); have b0' := HBX5.out.at 0 rfl; have b1' := HBX5.out.at 1 rfl; have b2' := HBX5.out.at 2 rfl; have b4' := HBX5.out.at 4 rfl; have hz5 := hB5.size; have hz5w : w.heap.size ≤ w5.heap.size := (by have := hB.size; omega); have hbx5 : w.heap.size < w5.heap.size := (by omega); have hbl5 : w.heap.size + 1 < w5.heap.size := (by omega); obtain ⟨z0, hz0⟩ := HBL5.out.ex (i := k * 6) (by have := HXL.out; omega); obtain ⟨z1, hz1⟩ := HBL5.out.ex (i := k * 6 + 1) (by have := HXL.out; omega); obtain ⟨z2, hz2⟩ := HBL5.out.ex (i := k * 6 + 2) (by have := HXL.out; omega); obtain ⟨z3, hz3⟩ := HBL5.out.ex (i := k * 6 + 3) (by have := HXL.out; omega); obtain ⟨z4, hz4⟩ := HBL5.out.ex (i := k * 6 + 4) (by have := HXL.out; omega); obtain ⟨z5, hz5'⟩ := HBL5.out.ex (i := k * 6 + 5) (by have := HXL.out; omega); have f0 := HBL5.out.free (k * 6); have f1 := HBL5.out.free (k * 6 + 1); have f2 := HBL5.out.free (k * 6 + 2); have f3 := HBL5.out.free (k * 6 + 3); have f4 := HBL5.out.free (k * 6 + 4); have f5 := HBL5.out.free (k * 6 + 5); have HO5 := Lib.hid hown5; have HB5 := Lib.hid hB5; clear hown5 hB5)))
        all_goals
          go_wp2_with fail
          go_roundw
          case rel =>
            have hadd : addC p.ct k = (p.ct + k) % 16384 := by simp [addC, okB_cnt hk1]
            have hgw : w.heap.size + 1 < wr.heap.size := HBL.out.lt
            have ho := HO5.out
            refine ⟨k + 1, _, by omega, by go_num, HBL5.out.set6 (k * 6) _ _ _ _ _ _, by rw [put6_length]; exact HXL.out, HBX5.out.fr (Fr.set6 (w.heap.size + 1) (k * 6) _ _ _ _ _ _) (by simp), (hB.trans (HB5.out.mono hB.size)).trans ((Fr.set6 (w := w5) (w.heap.size + 1) (k * 6) _ _ _ _ _ _).toBelow hz5w (by omega)), fun i hi => ?_⟩
            rcases Nat.lt_or_ge i k with h | h
            · exact (HP.out i h).step hgw HB5.out h _ _ _ _ _ _
            · obtain rfl : i = k := by omega
              have e : (pieceOf p l m N i).dat = q := by rw [HQ.out, HO.out]; rfl
              exact PC.new (pieceOf p l m N i) (by have := HXL.out; omega) hgw HB5.out (by rw [e]; exact ho) _ _ _ _ _ _ rfl rfl rfl rfl (by rw [hadd]; rfl) (by rw [e])
          case measure => simp [intOf]; omega
      · have hmi : ¬ (O2 : Int) ≤ (l.length : Int) := by omega
        have hmi2 : (l.length : Int) < (O2 : Int) := by omega
        have hle : (O : Int) ≤ (l.length : Int) := by omega
        have hle2 : (l.length : Int) ≤ (cap : Int) := by omega
        have HCW := Lib.hid (show ∀ i (h : i < q.length), wr.drew.cell? ⟨b, off + O + i, none⟩ = some (.int .u8 (q[i].toNat : Int)) from fun i hi => (hB.cell (p := ⟨b, off + O + i, none⟩) hb).trans (HC.out i hi))
        go_wp2_with fail
        go_region_held3 (fun w' => w'.cell? ⟨w.heap.size, 0, none⟩ = some (.bool p.cm) ∧ w'.cell? ⟨w.heap.size, 1, none⟩ = some (.bool p.sc) ∧ w'.cell? ⟨w.heap.size, 2, none⟩ = some (.int .i64 p.ap) ∧ w'.cell? ⟨w.heap.size, 4, none⟩ = some (.int .i64 p.ct)) (go_keep) ((first
          | (go_at_call 20; refine (flags_any _ _ _ (by omega) (by omega)).mono ?_; rintro e w2 ⟨rfl, rfl⟩)
          | (go_at_call 21; refine (Add_any _ _ _).mono ?_; rintro e w2 ⟨rfl, rfl⟩)
          | (go_at_call 22; refine (sclone_n b (off + O) (cap - O) (l.length - O) q wr.drew (by have := HQL.out; omega) (by omega) HCW.out hbw).mono ?_; rintro e w5 ⟨v5, rfl, hown5, hB5⟩; obtain ⟨a5, c5, rfl⟩ := row_slice hown5; have hB5 := undrew hB5; have HBX5 := Lib.hid (HBX.out.below hB5 (Nat.le_refl _)); have HBL5 := Lib.hid (HBL.out.below hB5 (Nat.le_refl _)); have b0' := HBX5.out.at 0 rfl; have b1' := HBX5.out.at 1 rfl; have b2' := HBX5.out.at 2 rfl; have b4' := HBX5.out.at 4 rfl; have hz5 := hB5.size; have hz5w : w.heap.size ≤ w5.heap.size := (by have := hB.size; omega); have hbx5 : w.heap.size < w5.heap.size := (by omega); have hbl5 : w.heap.size + 1 < w5.heap.size := (by omega); obtain ⟨z0, hz0⟩ := HBL5.out.ex (i := k * 6) (by have := HXL.out; omega); obtain ⟨z1, hz1⟩ := HBL5.out.ex (i := k * 6 + 1) (by have := HXL.out; omega); obtain ⟨z2, hz2⟩ := HBL5.out.ex (i := k * 6 + 2) (by have := HXL.out; omega); obtain ⟨z3, hz3⟩ := HBL5.out.ex (i := k * 6 + 3) (by have := HXL.out; omega); obtain ⟨z4, hz4⟩ := HBL5.out.ex (i := k * 6 + 4) (by have := HXL.out; omega); obtain ⟨z5, hz5'⟩ := HBL5.out.ex (i := k * 6 + 5) (by have := HXL.out; omega); have f0 := HBL5.out.free (k * 6); have f1 := HBL5.out.free (k * 6 + 1); have f2 := HBL5.out.free (k * 6 + 2); have f3 := HBL5.out.free (k * 6 + 3); have f4 := HBL5.out.free (k * 6 + 4); have f5 := HBL5.out.free (k * 6 + 5); have HO5 := Lib.hid hown5; have HB5 := Lib.hid hB5; clear hown5 hB5)))
        all_goals
          go_wp2_with fail
          go_roundw
          case rel =>
            have hadd : addC p.ct k = (p.ct + k) % 16384 := by simp [addC, okB_cnt hk1]
            have hgw : w.heap.size + 1 < wr.heap.size := HBL.out.lt
            have ho := HO5.out
            refine ⟨k + 1, _, by omega, by go_num, HBL5.out.set6 (k * 6) _ _ _ _ _ _, by rw [put6_length]; exact HXL.out, HBX5.out.fr (Fr.set6 (w.heap.size + 1) (k * 6) _ _ _ _ _ _) (by simp), (hB.trans (HB5.out.mono hB.size)).trans ((Fr.set6 (w := w5) (w.heap.size + 1) (k * 6) _ _ _ _ _ _).toBelow hz5w (by omega)), fun i hi => ?_⟩
            rcases Nat.lt_or_ge i k with h | h
            · exact (HP.out i h).step hgw HB5.out h _ _ _ _ _ _
            · obtain rfl : i = k := by omega
              have e : (pieceOf p l m N i).dat = q := by rw [HQ.out, HO.out]; rfl
              exact PC.new (pieceOf p l m N i) (by have := HXL.out; omega) hgw HB5.out (by rw [e]; exact ho) _ _ _ _ _ _ rfl rfl rfl rfl (by rw [hadd]; rfl) (by rw [e])
          case measure => simp [intOf]; omega
    · obtain rfl : k = N := by omega
      have HP := Lib.hid hP
      clear hP
      go_wp2_with fail
      go_ret2
      refine ⟨.slice (some ⟨w.heap.size + 1, 0, none⟩) k k, rfl, ⟨Nat.le_refl _, some ⟨w.heap.size + 1, 0, none⟩, k, by rw [splitL, List.length_map, List.length_range, ← HN.out], by rw [splitL, List.length_map, List.length_range, ← HN.out]; omega, .inr ⟨w.heap.size + 1, 0, rfl, fun i hi => ?_⟩⟩, hB⟩
      have hi' : i < k := by rw [splitL, List.length_map, List.length_range, ← HN.out] at hi; exact hi
      obtain ⟨a', c', h1, h2, h3, h4⟩ := HP.out i hi'
      have e : (splitL p l m)[i] = pieceOf p l m k i := by simp [splitL, ← HN.out]
      rw [e]
      refine ⟨hbl.lt, a', c', fun j hj => ?_, h2, h3, fun q hq _ => (h4 q hq).1⟩
      rw [hbl.cell, Nat.zero_add]
      exact h1 j hj
end Go.Proofs.Ytdllngedmhihkaa

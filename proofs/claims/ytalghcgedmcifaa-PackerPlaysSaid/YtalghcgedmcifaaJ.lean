/- Contracts of Decode on both sides. No condition. -/
import Derived.Test.YtalghcgedmcifaaH
namespace Go.Proofs.Ytalghcgedmcifaa
open Go.RowKit Go.Deep Go.ChangeShapes Go.WideShapes Go.ChangeAt
set_option linter.unusedVariables false

/-- a packet, two numbers, and new blocks alone -/
def DQ (w : World) (r : Pk × Int × Int) (e : Ending) (w' : World) : Prop :=
  ∃ a cap, e = .returned (.tuple #[r.1.val a cap, .int .i64 r.2.1, .int .i64 r.2.2]) ∧ BAt w' a r.1.dat ∧ r.1.dat.length ≤ cap ∧ cap ≤ maxLen ∧ Below w.heap.size w w'
theorem dec_err (l : List UInt8) (h : (sizeP l).2 ≠ 0) : decP l = (zeroP, 0, (sizeP l).2) := by unfold decP; rw [if_pos h]
theorem dec_short (l : List UInt8) (h : (sizeP l).2 = 0) (h2 : (l.length : Int) < (sizeP l).1) : decP l = (zeroP, 0, 3) := by unfold decP; rw [if_neg (by rw [h]; simp), if_pos h2]
theorem dec_read (l : List UInt8) (h : (sizeP l).2 = 0) (h2 : ¬ (l.length : Int) < (sizeP l).1) : decP l = if validB (readP l (sizeP l).1.toNat) = true then (readP l (sizeP l).1.toNat, (sizeP l).1, 0) else (zeroP, 0, 4) := by
  unfold decP; rw [if_neg (by rw [h]; simp), if_neg h2]
theorem size_ok (l : List UInt8) (h : (sizeP l).2 = 0) : 6 ≤ l.length ∧ (l[0]?.getD 0).toNat < 32 ∧ 7 + w2 l 4 ≤ 4096 ∧ (sizeP l).1 = 7 + w2 l 4 := by
  unfold sizeP at h ⊢
  by_cases a : l.length < 6
  · simp [a] at h
  · by_cases b : 32 ≤ (l[0]?.getD 0).toNat
    · simp [a, b] at h
    · by_cases c : 4096 < 7 + w2 l 4
      · simp [a, b, c] at h
      · simp [a, b, c]; omega
theorem dq_zero (w w' : World) (n e : Int) (h : Below w.heap.size w w') : DQ w (zeroP, n, e) (.returned (.tuple #[.agg #[.bool false, .bool false, .int .i64 0, .int .i64 0, .int .i64 0, .slice none 0 0], .int .i64 n, .int .i64 e])) w' :=
  ⟨none, 0, rfl, .inl rfl, by simp [zeroP], by simp, h⟩
theorem nat_pos (n : Nat) : (0 : Int) ≤ (n : Int) := Int.natCast_nonneg n
/-- the facts on what is read, in the program's way -/
theorem read_bits (l : List UInt8) (N : Nat) (x0 x1 x2 x3 : UInt8) (e0 : l[0]? = some x0) (e1 : l[1]? = some x1) (e2 : l[2]? = some x2) (e3 : l[3]? = some x3) (h32 : x0.toNat < 32) :
    (bits .and .i64 (wz x0 x1) 4096 != 0) = (readP l N).cmd ∧ (bits .and .i64 (wz x0 x1) 2048 != 0) = (readP l N).sec ∧ bits .and .i64 (wz x0 x1) 2047 = (readP l N).apid ∧ wz x2 x3 / 16384 = (readP l N).flags ∧ bits .and .i64 (wz x2 x3) 16383 = (readP l N).count ∧
    (wz x0 x1 / 4096 == 1) = (readP l N).cmd ∧ (wz x0 x1 / 2048 % 2 == 1) = (readP l N).sec ∧ wz x0 x1 % 2048 = (readP l N).apid ∧ wz x2 x3 % 16384 = (readP l N).count := by
  have w0 := w2_at l 0 x0 x1 e0 e1
  have w2' := w2_at l 2 x2 x3 e2 e3
  obtain ⟨a0, a1⟩ := wz_bd x0 x1
  obtain ⟨c0, c1⟩ := wz_bd x2 x3
  have h1 := x1.toNat_lt
  have a2 : wz x0 x1 < 8192 := by unfold wz; omega
  have d1 : wz x0 x1 / 2 ^ 12 % 2 = wz x0 x1 / 4096 := by omega
  have d2 : wz x0 x1 / 2 ^ 11 % 2 = wz x0 x1 / 2048 % 2 := by omega
  unfold readP
  simp only
  rw [w0, w2', and_bit _ 12 (by omega) (by omega) 4096 (by omega), and_bit _ 11 (by omega) (by omega) 2048 (by omega), and_low _ 11 (by omega) (by omega) 2047 (by omega), and_low _ 14 (by omega) (by omega) 16383 (by omega), d1, d2]
  refine ⟨?_, ?_, by omega, rfl, by omega, rfl, rfl, rfl, rfl⟩
  · by_cases h : wz x0 x1 / 4096 = 1 <;> simp [h]
  · by_cases h : wz x0 x1 / 2048 % 2 = 1 <;> simp [h]
theorem read_dat (l : List UInt8) (N : Nat) : (readP l N).dat = (l.drop 6).take (N - 6) := by
  unfold readP; simp only [List.drop_take]
theorem read_len (l : List UInt8) (N : Nat) (hN : N ≤ l.length) : (readP l N).dat.length = N - 6 := by
  rw [read_dat]; simp; omega

set_option maxRecDepth 20000 in
set_option maxHeartbeats 2000000 in
theorem decode_err (a : Option Addr) (cap : Nat) (l : List UInt8) (w : World) (hl : l.length ≤ maxLen) (hcap : l.length ≤ cap) (hcm : cap ≤ maxLen) (hb : BAt w a l) (he : (sizeP l).2 ≠ 0) : Calls Try.prog 26 #[.slice a l.length cap] w (DQ w (decP l)) := by
  have HB := Lib.hid hb
  clear hb
  obtain ⟨⟨n, e⟩, hr⟩ : ∃ r, r = sizeP l := ⟨_, rfl⟩
  have hsz := fun w (h : BAt w a l) => size_any a cap l w hl hcap hcm h
  unfold SQ at hsz
  rw [← hr] at hsz he
  have HSZ := Lib.hid hsz
  have HR := Lib.hid hr
  simp only at he
  clear hsz
  have HD : Hid (decP l = (zeroP, 0, e)) := Lib.hid (by have := dec_err l (by rw [← hr]; exact he); rw [← hr] at this; exact this)
  have he0 : (e != 0) = true := by rw [bne_iff_ne]; exact he
  clear he hr
  go_enter Try.func26, Try.ntmps26
  go_wp2_with fail
  refine (HSZ.out _ (HB.out.below (al (Below.refl _ _) _) (Nat.le_refl _))).mono ?_
  rintro e w2 ⟨rfl, hq⟩
  have hB := (al (Below.refl _ w) (.cells #[.bool false, .bool false, .int .i64 0, .int .i64 0, .int .i64 0, .slice none 0 0] 59)).trans hq.below
  have hbk := (Blk.new w 59 [.bool false, .bool false, .int .i64 0, .int .i64 0, .int .i64 0, .slice none 0 0]).quiet hq
  have b0 := hbk.at 0 rfl
  have b1 := hbk.at 1 rfl
  have b2 := hbk.at 2 rfl
  have b3 := hbk.at 3 rfl
  have b4 := hbk.at 4 rfl
  have b5 := hbk.at 5 rfl
  have f0 := hbk.free 0
  have f1 := hbk.free 1
  have f2 := hbk.free 2
  have f3 := hbk.free 3
  have f4 := hbk.free 4
  have f5 := hbk.free 5
  have hlt := hbk.lt
  have HQ := Lib.hid hB
  have HBK := Lib.hid hbk
  clear hB hq hbk
  go_wp2_with fail
  rw [HD.out]
  exact bodyPost_ret (v := .tuple #[.agg #[.bool false, .bool false, .int .i64 0, .int .i64 0, .int .i64 0, .slice none 0 0], .int .i64 0, .int .i64 e]) (by simp [results, Try.results26, go_sem, b0, b1, b2, b3, b4, b5]) rfl (dq_zero _ _ _ _ (by repeat (first | with_reducible exact HQ.out | refine Below.setCell ?_ (by exact Nat.le_refl _) _)))
set_option maxRecDepth 20000 in
set_option maxHeartbeats 2000000 in
theorem decode_short (a : Option Addr) (cap : Nat) (l : List UInt8) (w : World) (hl : l.length ≤ maxLen) (hcap : l.length ≤ cap) (hcm : cap ≤ maxLen) (hb : BAt w a l) (he : (sizeP l).2 = 0) (hn : (l.length : Int) < (sizeP l).1) : Calls Try.prog 26 #[.slice a l.length cap] w (DQ w (decP l)) := by
  have HB := Lib.hid hb
  clear hb
  obtain ⟨⟨n, e⟩, hr⟩ : ∃ r, r = sizeP l := ⟨_, rfl⟩
  have hsz := fun w (h : BAt w a l) => size_any a cap l w hl hcap hcm h
  unfold SQ at hsz
  rw [← hr] at hsz he
  have HSZ := Lib.hid hsz
  have HR := Lib.hid hr
  simp only at he
  clear hsz
  subst he
  rw [← hr] at hn
  simp only at hn
  have HD : Hid (decP l = (zeroP, 0, 3)) := Lib.hid (dec_short l (by rw [← hr]) (by rw [← hr]; exact hn))
  clear hr
  go_enter Try.func26, Try.ntmps26
  go_wp2_with fail
  refine (HSZ.out _ (HB.out.below (al (Below.refl _ _) _) (Nat.le_refl _))).mono ?_
  rintro e w2 ⟨rfl, hq⟩
  have hB := (al (Below.refl _ w) (.cells #[.bool false, .bool false, .int .i64 0, .int .i64 0, .int .i64 0, .slice none 0 0] 59)).trans hq.below
  have hbk := (Blk.new w 59 [.bool false, .bool false, .int .i64 0, .int .i64 0, .int .i64 0, .slice none 0 0]).quiet hq
  have b0 := hbk.at 0 rfl
  have b1 := hbk.at 1 rfl
  have b2 := hbk.at 2 rfl
  have b3 := hbk.at 3 rfl
  have b4 := hbk.at 4 rfl
  have b5 := hbk.at 5 rfl
  have f0 := hbk.free 0
  have f1 := hbk.free 1
  have f2 := hbk.free 2
  have f3 := hbk.free 3
  have f4 := hbk.free 4
  have f5 := hbk.free 5
  have hlt := hbk.lt
  have HQ := Lib.hid hB
  have HBK := Lib.hid hbk
  clear hB hq hbk
  go_wp2_with fail
  rw [HD.out]
  exact bodyPost_ret (v := .tuple #[.agg #[.bool false, .bool false, .int .i64 0, .int .i64 0, .int .i64 0, .slice none 0 0], .int .i64 0, .int .i64 3]) (by simp [results, Try.results26, go_sem, b0, b1, b2, b3, b4, b5]) rfl (dq_zero _ _ _ _ (by repeat (first | with_reducible exact HQ.out | refine Below.setCell ?_ (by exact Nat.le_refl _) _)))
set_option maxRecDepth 20000 in
set_option maxHeartbeats 2000000 in
theorem decode_read (a : Option Addr) (cap : Nat) (l : List UInt8) (w : World) (hl : l.length ≤ maxLen) (hcap : l.length ≤ cap) (hcm : cap ≤ maxLen) (hb : BAt w a l) (he : (sizeP l).2 = 0) (hn : ¬ (l.length : Int) < (sizeP l).1) : Calls Try.prog 26 #[.slice a l.length cap] w (DQ w (decP l)) := by
  have HB := Lib.hid hb
  clear hb
  obtain ⟨⟨n, e⟩, hr⟩ : ∃ r, r = sizeP l := ⟨_, rfl⟩
  have hsz := fun w (h : BAt w a l) => size_any a cap l w hl hcap hcm h
  unfold SQ at hsz
  rw [← hr] at hsz he
  have HSZ := Lib.hid hsz
  have HR := Lib.hid hr
  simp only at he
  clear hsz
  subst he
  obtain ⟨h6, h32, h40, h1⟩ := size_ok l (by rw [← hr])
  rw [← hr] at h1 hn
  simp only at h1 hn
  obtain ⟨b, off, x0, x1, x2, x3, x4, x5, rfl, hbl, ⟨e0, e1, e2, e3, e4, e5⟩, c0, c1, c2, c3, c4, c5⟩ := six_cells HB.out h6
  have HD : Hid (decP l = if validB (readP l n.toNat) = true then (readP l n.toNat, n, 0) else (zeroP, 0, 4)) := Lib.hid (by have := dec_read l (by rw [← hr]) (by rw [← hr]; exact hn); rw [← hr] at this; exact this)
  rw [e0] at h32
  simp only [Option.getD_some] at h32
  rw [w2_at l 4 x4 x5 e4 e5] at h40 h1
  obtain ⟨z0, z1⟩ := wz_bd x4 x5
  obtain ⟨M, rfl⟩ : ∃ M : Nat, n = (M : Int) := ⟨n.toNat, by omega⟩
  rw [Int.toNat_natCast] at HD
  have k := read_bits l M x0 x1 x2 x3 e0 e1 e2 e3 h32
  have hqd := read_dat l M
  have hql := read_len l M (by omega)
  generalize readP l M = q at HD k hqd hql
  obtain ⟨k1, k2, k3, k4, k5, k6, k7, k8, k9⟩ := k
  have hM7 : 7 ≤ M := by omega
  have hM8 : M ≤ 4096 := by omega
  have hM9 : M ≤ l.length := by omega
  have HQD := Lib.hid hqd
  have HQL := Lib.hid hql
  obtain ⟨y0, y1⟩ := wz_bd x0 x1
  obtain ⟨y2, y3⟩ := wz_bd x2 x3
  clear hqd hql h1 h40 hr e0 e1 e2 e3 e4 e5 z0 z1 c4 c5
  unfold maxLen at hcm
  have g1 : (6 : Int) ≤ (M : Int) := by omega
  have g2 : (M : Int) ≤ (l.length : Int) := by omega
  have g3 : (l.length : Int) ≤ (cap : Int) := by omega
  have g4 : ¬ (l.length : Int) < (M : Int) := by omega
  have g5 : ¬ cap = 2 := by omega
  have g6 : (2 : Int) ≤ (l.length : Int) := by omega
  have g7 : ¬ M = 6 := by omega
  have g8 : (M : Int) ≤ (cap : Int) := by omega
  have g9 : ¬ cap = 6 := by omega
  have g10 : (0 : Int) < l.length := by omega
  have g11 : (1 : Int) < l.length := by omega
  have g12 : (2 : Int) < l.length := by omega
  have g13 : (3 : Int) < l.length := by omega
  have u0 := x0.toNat_lt
  have u1 := x1.toNat_lt
  have u2 := x2.toNat_lt
  have u3 := x3.toNat_lt
  clear hn
  go_enter Try.func26, Try.ntmps26
  go_wp2_with fail
  refine (HSZ.out _ (HB.out.below (al (Below.refl _ _) _) (Nat.le_refl _))).mono ?_
  rintro e w2 ⟨rfl, hq⟩
  have hB := (al (Below.refl _ w) (.cells #[.bool false, .bool false, .int .i64 0, .int .i64 0, .int .i64 0, .slice none 0 0] 59)).trans hq.below
  have hbk := (Blk.new w 59 [.bool false, .bool false, .int .i64 0, .int .i64 0, .int .i64 0, .slice none 0 0]).quiet hq
  have b0 := hbk.at 0 rfl
  have b1 := hbk.at 1 rfl
  have b2 := hbk.at 2 rfl
  have b3 := hbk.at 3 rfl
  have b4 := hbk.at 4 rfl
  have b5 := hbk.at 5 rfl
  have f0 := hbk.free 0
  have f1 := hbk.free 1
  have f2 := hbk.free 2
  have f3 := hbk.free 3
  have f4 := hbk.free 4
  have f5 := hbk.free 5
  have hlt := hbk.lt
  have HQ := Lib.hid hB
  have HBK := Lib.hid hbk
  clear hB hq hbk
  have d0 : w2.cell? ⟨b, off, none⟩ = some (.int .u8 (x0.toNat : Int)) := (HQ.out.cell (p := ⟨b, off, none⟩) hbl).trans c0
  have d1 : w2.cell? ⟨b, off + 1, none⟩ = some (.int .u8 (x1.toNat : Int)) := (HQ.out.cell (p := ⟨b, off + 1, none⟩) hbl).trans c1
  have d2 : w2.cell? ⟨b, off + 2, none⟩ = some (.int .u8 (x2.toNat : Int)) := (HQ.out.cell (p := ⟨b, off + 2, none⟩) hbl).trans c2
  have d3 : w2.cell? ⟨b, off + 3, none⟩ = some (.int .u8 (x3.toNat : Int)) := (HQ.out.cell (p := ⟨b, off + 3, none⟩) hbl).trans c3
  go_wp2_with fail
  refine wp_region_held_drew (S := (fun w' => True)) (by kernel_rfl) (by (try dsimp only); all_goals trivial) (fun hHeld => ?_)
  refine wpAnyH_take (i := 0) (oi := (Oper.mk (some 24) (Op.move (Operand.tmp 0)) 22 "packet.go:76" #[] none)) (v := ?v0t0acex1) rfl (by kernel_rfl) (by kernel_rfl) (by kernel_rfl) (fun _ _ _ h => h) (Or.inl ⟨by rfl, ?hy0t0acex1⟩) (by assumption) ?rest0t0acex1
  case hy0t0acex1 => (intro w hSw; (try dsimp only at hSw); go_simp; first | done | with_reducible rfl)
  (try simp only [Act.put, List.setIfInBounds_toArray, List.set_cons_zero, List.set_cons_succ])
  refine wpAnyH_take (i := 2) (oi := (Oper.mk (some 26) (Op.move (Operand.tmp 0)) 22 "packet.go:76" #[] none)) (v := ?v2t0acex2) rfl (by kernel_rfl) (by kernel_rfl) (by kernel_rfl) (fun _ _ _ h => h) (Or.inl ⟨by rfl, ?hy2t0acex2⟩) (by assumption) ?rest2t0acex2
  case hy2t0acex2 => (intro w hSw; (try dsimp only at hSw); go_simp; first | done | with_reducible rfl)
  (try simp only [Act.put, List.setIfInBounds_toArray, List.set_cons_zero, List.set_cons_succ])
  refine wpAnyH_take (i := 3) (oi := (Oper.mk (some 27) (Op.slice 22 (Operand.tmp 26) (some (Operand.const (Value.int IntKind.i64 2))) none none) 22 "packet.go:76" #[Edge.mk 2 Ground.data] none)) (v := ?v3t0acex3) rfl (by kernel_rfl) (by kernel_rfl) (by kernel_rfl) (fun _ _ _ h => h) (Or.inl ⟨by rfl, ?hy3t0acex3⟩) (by assumption) ?rest3t0acex3
  case hy3t0acex3 => (intro w hSw; (try dsimp only at hSw); go_simp; first | done | with_reducible rfl)
  (try simp only [Act.put, List.setIfInBounds_toArray, List.set_cons_zero, List.set_cons_succ])
  refine wpAnyH_ready (rs := [1]) (by kernel_rfl) (by simp) ?_
  refine AllReadyH.cons (o := (Oper.mk (some 25) (Op.call (Call.mk (Callee.value (Operand.func 34)) #[Operand.tmp 24] #[22])) 3 "packet.go:76" #[Edge.mk 0 Ground.data] none)) rfl (fun K hK => ?_) (AllReadyH.nil)
  go_simp
  (go_at_call 34; refine (wz_any b off _ _ x0 x1 _ (by omega) (by exact d0) (by exact d1)).mono ?_; rintro e w3 ⟨rfl, m3, rfl⟩)
  refine hK.out _ _ (by (try dsimp only); all_goals trivial) (fun hHeld => ?_)
  clear hK K
  (try simp only [Act.put, List.setIfInBounds_toArray, List.set_cons_zero, List.set_cons_succ])
  refine wpAnyH_ready (rs := [4]) (by kernel_rfl) (by simp) ?_
  refine AllReadyH.cons (o := (Oper.mk (some 28) (Op.call (Call.mk (Callee.value (Operand.func 34)) #[Operand.tmp 27] #[22])) 3 "packet.go:76" #[Edge.mk 3 Ground.data, Edge.mk 1 Ground.chain] none)) rfl (fun K hK => ?_) (AllReadyH.nil)
  go_simp
  (go_at_call 34; refine (wz_any b (off + 2) _ _ x2 x3 _ (by omega) (by exact d2) (by rw [Nat.add_assoc]; exact d3)).mono ?_; rintro e w4 ⟨rfl, m4, rfl⟩)
  refine hK.out _ _ (by (try dsimp only); all_goals trivial) (fun hHeld => ?_)
  clear hK K
  (try simp only [Act.put, List.setIfInBounds_toArray, List.set_cons_zero, List.set_cons_succ])
  refine wpAnyH_take (i := 5) (oi := (Oper.mk (some 7) (Op.assign (Operand.tmp 25)) 3 "packet.go:76" #[Edge.mk 1 Ground.data, Edge.mk 4 Ground.chain, Edge.mk 0 Ground.phase, Edge.mk 1 Ground.phase, Edge.mk 2 (Ground.textOnly Departure.lateStores), Edge.mk 3 (Ground.textOnly Departure.lateStoresUnsure), Edge.mk 4 (Ground.textOnly Departure.lateStoresUnsure)] none)) (v := ?v5t0acex4) rfl (by kernel_rfl) (by kernel_rfl) (by kernel_rfl) (fun _ _ _ h => h) (Or.inl ⟨by rfl, ?hy5t0acex4⟩) (by assumption) ?rest5t0acex4
  case hy5t0acex4 => (intro w hSw; (try dsimp only at hSw); go_simp; first | done | with_reducible rfl)
  (try simp only [Act.put, List.setIfInBounds_toArray, List.set_cons_zero, List.set_cons_succ])
  refine wpAnyH_take (i := 6) (oi := (Oper.mk (some 8) (Op.assign (Operand.tmp 28)) 3 "packet.go:76" #[Edge.mk 4 Ground.data, Edge.mk 5 Ground.chain, Edge.mk 0 Ground.phase, Edge.mk 1 Ground.phase, Edge.mk 2 Ground.phase, Edge.mk 3 Ground.phase, Edge.mk 4 Ground.phase, Edge.mk 5 Ground.phase] none)) (v := ?v6t0acex5) rfl (by kernel_rfl) (by kernel_rfl) (by kernel_rfl) (fun _ _ _ h => h) (Or.inl ⟨by rfl, ?hy6t0acex5⟩) (by assumption) ?rest6t0acex5
  case hy6t0acex5 => (intro w hSw; (try dsimp only at hSw); go_simp; first | done | with_reducible rfl)
  (try simp only [Act.put, List.setIfInBounds_toArray, List.set_cons_zero, List.set_cons_succ])
  refine wpAnyH_done (by kernel_rfl) ?_ _
  have hq3 : Quiet w2 (w2.drewN (1 + m3 + m4)) := ⟨_, rfl⟩
  go_wp2_with fail
  generalize w2.drewN (1 + m3 + m4) = w3 at hq3 ⊢
  have hk3 := HBK.out.quiet hq3
  have hB3 : Below w.heap.size w w3 := HQ.out.trans hq3.below
  have HB3 := Lib.hid hB3
  have HK3 := Lib.hid hk3
  have hbl3 : b < w3.heap.size := Nat.lt_of_lt_of_le hbl hB3.size
  have HC : Hid (q.dat = [] ∨ b < w3.heap.size ∧ ∀ i (h : i < q.dat.length), w3.cell? ⟨b, off + 6 + i, none⟩ = some (.int .u8 (q.dat[i].toNat : Int))) := Lib.hid (by
    have hs := (HB.out.below hB3 (Nat.le_refl _)).sub 6 (M - 6)
    rw [← HQD.out] at hs
    rcases hs with h | ⟨b', off', h1, h2, h3⟩
    · exact .inl h
    · cases h1; exact .inr ⟨h2, h3⟩)
  clear hk3 hB3 hq3 b0 b1 b2 b3 b4 b5 f0 f1 f2 f3 f4 f5 hlt c0 c1 c2 c3 d0 d1 d2 d3
  refine (clone_some b (off + 6) (M - 6) (M - 6) q.dat _ HQL.out (by have := HQL.out; omega) HC.out).mono ?_
  rintro e w4 ⟨v, rfl, hO, hB4⟩
  obtain ⟨-, a5, k5c, rfl, hc5, hm5, hA5⟩ := BAt.of_row hO
  have HO := Lib.hid hA5
  have HB4 := Lib.hid (HB3.out.trans (hB4.mono HB3.out.size))
  have HK4 := Lib.hid (HK3.out.below hB4 (Nat.le_refl _))
  have hlw4 := HB4.out.size
  clear hO hB4 hA5
  go_wp2_with fail
  have hql5 : q.dat.length ≤ 5000 := by have := HQL.out; omega
  refine (valid_any q a5 k5c _ (by unfold maxLen; omega) (HO.out.below (al (Below.refl _ _) _) (Nat.le_refl _))).mono ?_
  rintro e w5 ⟨rfl, hB5⟩
  have hbq := (Blk.new w4 59 [.bool q.cmd, .bool q.sec, .int .i64 q.apid, .int .i64 q.flags, .int .i64 q.count, .slice a5 q.dat.length k5c]).below hB5 (Nat.le_refl _)
  have q0 := hbq.at 0 rfl
  have q1 := hbq.at 1 rfl
  have q2 := hbq.at 2 rfl
  have q3 := hbq.at 3 rfl
  have q4 := hbq.at 4 rfl
  have q5 := hbq.at 5 rfl
  have hlq := hbq.lt
  have hbk := (HK4.out.alloc (.cells #[.bool q.cmd, .bool q.sec, .int .i64 q.apid, .int .i64 q.flags, .int .i64 q.count, .slice a5 q.dat.length k5c] 59)).below hB5 (Nat.le_refl _)
  have b0 := hbk.at 0 rfl
  have b1 := hbk.at 1 rfl
  have b2 := hbk.at 2 rfl
  have b3 := hbk.at 3 rfl
  have b4 := hbk.at 4 rfl
  have b5 := hbk.at 5 rfl
  have f0 := hbk.free 0
  have f1 := hbk.free 1
  have f2 := hbk.free 2
  have f3 := hbk.free 3
  have f4 := hbk.free 4
  have f5 := hbk.free 5
  have hlt := hbk.lt
  have HB5 := Lib.hid (HB4.out.trans (((al (Below.refl _ w4) _).trans (hB5.mono (by simp))).mono hlw4))
  have HK5 := Lib.hid hbk
  have HA5 := Lib.hid ((HO.out.below (al (Below.refl _ _) _) (Nat.le_refl _)).below hB5 (Nat.le_refl _))
  have hne : w4.heap.size ≠ w.heap.size := by have := HK4.out.lt; omega
  have hne2 : w.heap.size ≠ w4.heap.size := fun e => hne e.symm
  clear hbq hbk hB5
  cases hv : validB q
  · have HV := Lib.hid hv
    clear hv
    go_wp2_with fail
    rw [HD.out, if_neg (by rw [HV.out]; simp)]
    exact bodyPost_ret (v := .tuple #[.agg #[.bool false, .bool false, .int .i64 0, .int .i64 0, .int .i64 0, .slice none 0 0], .int .i64 0, .int .i64 4]) (by simp [results, Try.results26, go_sem, b0, b1, b2, b3, b4, b5]) rfl (dq_zero _ _ _ _ (by repeat (first | with_reducible exact HB5.out | refine Below.setCell ?_ (by exact Nat.le_refl _) _)))
  · have HV := Lib.hid hv
    clear hv
    go_wp2_with fail
    rw [HD.out, if_pos HV.out]
    refine bodyPost_ret (v := .tuple #[q.val a5 k5c, .int .i64 M, .int .i64 0]) (by simp [results, Try.results26, go_sem, b0, b1, b2, b3, b4, b5, Pk.val]) rfl ⟨a5, k5c, rfl, ?_, hc5, hm5, ?_⟩
    · refine HA5.out.fr (S := fun k => k = w.heap.size) ?_ (fun p hp e => ?_)
      · repeat (first | with_reducible exact Fr.refl _ _ | refine Fr.set1 ?_ _ (by exact .inl rfl))
      · exact blk_apart HK5.out HA5.out (fun e => by rw [e] at hql5; have := HQL.out; rw [e] at this; simp at this; omega) (fun v hv n e => by simp at hv; rcases hv with rfl | rfl | rfl | rfl | rfl | rfl <;> cases e) p hp e
    · repeat (first | with_reducible exact HB5.out | refine Below.setCell ?_ (by exact Nat.le_refl _) _)
set_option maxRecDepth 20000 in
set_option maxHeartbeats 2000000 in
theorem rdecode_err (a : Option Addr) (cap : Nat) (l : List UInt8) (w : World) (hl : l.length ≤ maxLen) (hcap : l.length ≤ cap) (hcm : cap ≤ maxLen) (hb : BAt w a l) (he : (sizeP l).2 ≠ 0) : Calls Try.prog 30 #[.slice a l.length cap] w (DQ w (decP l)) := by
  have HB := Lib.hid hb
  clear hb
  obtain ⟨⟨n, e⟩, hr⟩ : ∃ r, r = sizeP l := ⟨_, rfl⟩
  have hsz := fun w (h : BAt w a l) => rsize_any a cap l w hl hcap hcm h
  unfold SQ at hsz
  rw [← hr] at hsz he
  have HSZ := Lib.hid hsz
  have HR := Lib.hid hr
  simp only at he
  clear hsz
  have HD : Hid (decP l = (zeroP, 0, e)) := Lib.hid (by have := dec_err l (by rw [← hr]; exact he); rw [← hr] at this; exact this)
  have he0 : (e != 0) = true := by rw [bne_iff_ne]; exact he
  clear he hr
  go_enter Try.func30, Try.ntmps30
  go_wp2_with fail
  refine (HSZ.out _ (HB.out.below (al (Below.refl _ _) _) (Nat.le_refl _))).mono ?_
  rintro e w2 ⟨rfl, hq⟩
  have hB := (al (Below.refl _ w) (.cells #[.bool false, .bool false, .int .i64 0, .int .i64 0, .int .i64 0, .slice none 0 0] 59)).trans hq.below
  have hbk := (Blk.new w 59 [.bool false, .bool false, .int .i64 0, .int .i64 0, .int .i64 0, .slice none 0 0]).quiet hq
  have b0 := hbk.at 0 rfl
  have b1 := hbk.at 1 rfl
  have b2 := hbk.at 2 rfl
  have b3 := hbk.at 3 rfl
  have b4 := hbk.at 4 rfl
  have b5 := hbk.at 5 rfl
  have f0 := hbk.free 0
  have f1 := hbk.free 1
  have f2 := hbk.free 2
  have f3 := hbk.free 3
  have f4 := hbk.free 4
  have f5 := hbk.free 5
  have hlt := hbk.lt
  have HQ := Lib.hid hB
  have HBK := Lib.hid hbk
  clear hB hq hbk
  go_wp2_with fail
  rw [HD.out]
  exact bodyPost_ret (v := .tuple #[.agg #[.bool false, .bool false, .int .i64 0, .int .i64 0, .int .i64 0, .slice none 0 0], .int .i64 0, .int .i64 e]) (by simp [results, Try.results30, go_sem, b0, b1, b2, b3, b4, b5]) rfl (dq_zero _ _ _ _ (by repeat (first | with_reducible exact HQ.out | refine Below.setCell ?_ (by exact Nat.le_refl _) _)))
set_option maxRecDepth 20000 in
set_option maxHeartbeats 2000000 in
theorem rdecode_short (a : Option Addr) (cap : Nat) (l : List UInt8) (w : World) (hl : l.length ≤ maxLen) (hcap : l.length ≤ cap) (hcm : cap ≤ maxLen) (hb : BAt w a l) (he : (sizeP l).2 = 0) (hn : (l.length : Int) < (sizeP l).1) : Calls Try.prog 30 #[.slice a l.length cap] w (DQ w (decP l)) := by
  have HB := Lib.hid hb
  clear hb
  obtain ⟨⟨n, e⟩, hr⟩ : ∃ r, r = sizeP l := ⟨_, rfl⟩
  have hsz := fun w (h : BAt w a l) => rsize_any a cap l w hl hcap hcm h
  unfold SQ at hsz
  rw [← hr] at hsz he
  have HSZ := Lib.hid hsz
  have HR := Lib.hid hr
  simp only at he
  clear hsz
  subst he
  rw [← hr] at hn
  simp only at hn
  have HD : Hid (decP l = (zeroP, 0, 3)) := Lib.hid (dec_short l (by rw [← hr]) (by rw [← hr]; exact hn))
  clear hr
  go_enter Try.func30, Try.ntmps30
  go_wp2_with fail
  refine (HSZ.out _ (HB.out.below (al (Below.refl _ _) _) (Nat.le_refl _))).mono ?_
  rintro e w2 ⟨rfl, hq⟩
  have hB := (al (Below.refl _ w) (.cells #[.bool false, .bool false, .int .i64 0, .int .i64 0, .int .i64 0, .slice none 0 0] 59)).trans hq.below
  have hbk := (Blk.new w 59 [.bool false, .bool false, .int .i64 0, .int .i64 0, .int .i64 0, .slice none 0 0]).quiet hq
  have b0 := hbk.at 0 rfl
  have b1 := hbk.at 1 rfl
  have b2 := hbk.at 2 rfl
  have b3 := hbk.at 3 rfl
  have b4 := hbk.at 4 rfl
  have b5 := hbk.at 5 rfl
  have f0 := hbk.free 0
  have f1 := hbk.free 1
  have f2 := hbk.free 2
  have f3 := hbk.free 3
  have f4 := hbk.free 4
  have f5 := hbk.free 5
  have hlt := hbk.lt
  have HQ := Lib.hid hB
  have HBK := Lib.hid hbk
  clear hB hq hbk
  go_wp2_with fail
  rw [HD.out]
  exact bodyPost_ret (v := .tuple #[.agg #[.bool false, .bool false, .int .i64 0, .int .i64 0, .int .i64 0, .slice none 0 0], .int .i64 0, .int .i64 3]) (by simp [results, Try.results30, go_sem, b0, b1, b2, b3, b4, b5]) rfl (dq_zero _ _ _ _ (by repeat (first | with_reducible exact HQ.out | refine Below.setCell ?_ (by exact Nat.le_refl _) _)))
set_option maxRecDepth 20000 in
set_option maxHeartbeats 2000000 in
theorem rdecode_read (a : Option Addr) (cap : Nat) (l : List UInt8) (w : World) (hl : l.length ≤ maxLen) (hcap : l.length ≤ cap) (hcm : cap ≤ maxLen) (hb : BAt w a l) (he : (sizeP l).2 = 0) (hn : ¬ (l.length : Int) < (sizeP l).1) : Calls Try.prog 30 #[.slice a l.length cap] w (DQ w (decP l)) := by
  have HB := Lib.hid hb
  clear hb
  obtain ⟨⟨n, e⟩, hr⟩ : ∃ r, r = sizeP l := ⟨_, rfl⟩
  have hsz := fun w (h : BAt w a l) => rsize_any a cap l w hl hcap hcm h
  unfold SQ at hsz
  rw [← hr] at hsz he
  have HSZ := Lib.hid hsz
  have HR := Lib.hid hr
  simp only at he
  clear hsz
  subst he
  obtain ⟨h6, h32, h40, h1⟩ := size_ok l (by rw [← hr])
  rw [← hr] at h1 hn
  simp only at h1 hn
  obtain ⟨b, off, x0, x1, x2, x3, x4, x5, rfl, hbl, ⟨e0, e1, e2, e3, e4, e5⟩, c0, c1, c2, c3, c4, c5⟩ := six_cells HB.out h6
  have HD : Hid (decP l = if validB (readP l n.toNat) = true then (readP l n.toNat, n, 0) else (zeroP, 0, 4)) := Lib.hid (by have := dec_read l (by rw [← hr]) (by rw [← hr]; exact hn); rw [← hr] at this; exact this)
  rw [e0] at h32
  simp only [Option.getD_some] at h32
  rw [w2_at l 4 x4 x5 e4 e5] at h40 h1
  obtain ⟨z0, z1⟩ := wz_bd x4 x5
  obtain ⟨M, rfl⟩ : ∃ M : Nat, n = (M : Int) := ⟨n.toNat, by omega⟩
  rw [Int.toNat_natCast] at HD
  have k := read_bits l M x0 x1 x2 x3 e0 e1 e2 e3 h32
  have hqd := read_dat l M
  have hql := read_len l M (by omega)
  generalize readP l M = q at HD k hqd hql
  obtain ⟨k1, k2, k3, k4, k5, k6, k7, k8, k9⟩ := k
  have hM7 : 7 ≤ M := by omega
  have hM8 : M ≤ 4096 := by omega
  have hM9 : M ≤ l.length := by omega
  have HQD := Lib.hid hqd
  have HQL := Lib.hid hql
  obtain ⟨y0, y1⟩ := wz_bd x0 x1
  obtain ⟨y2, y3⟩ := wz_bd x2 x3
  clear hqd hql h1 h40 hr e0 e1 e2 e3 e4 e5 z0 z1 c4 c5
  unfold maxLen at hcm
  have g1 : (6 : Int) ≤ (M : Int) := by omega
  have g2 : (M : Int) ≤ (l.length : Int) := by omega
  have g3 : (l.length : Int) ≤ (cap : Int) := by omega
  have g4 : ¬ (l.length : Int) < (M : Int) := by omega
  have g5 : ¬ cap = 2 := by omega
  have g6 : (2 : Int) ≤ (l.length : Int) := by omega
  have g7 : ¬ M = 6 := by omega
  have g8 : (M : Int) ≤ (cap : Int) := by omega
  have g9 : ¬ cap = 6 := by omega
  have g10 : (0 : Int) < l.length := by omega
  have g11 : (1 : Int) < l.length := by omega
  have g12 : (2 : Int) < l.length := by omega
  have g13 : (3 : Int) < l.length := by omega
  have u0 := x0.toNat_lt
  have u1 := x1.toNat_lt
  have u2 := x2.toNat_lt
  have u3 := x3.toNat_lt
  clear hn
  go_enter Try.func30, Try.ntmps30
  go_wp2_with fail
  refine (HSZ.out _ (HB.out.below (al (Below.refl _ _) _) (Nat.le_refl _))).mono ?_
  rintro e w2 ⟨rfl, hq⟩
  have hB := (al (Below.refl _ w) (.cells #[.bool false, .bool false, .int .i64 0, .int .i64 0, .int .i64 0, .slice none 0 0] 59)).trans hq.below
  have hbk := (Blk.new w 59 [.bool false, .bool false, .int .i64 0, .int .i64 0, .int .i64 0, .slice none 0 0]).quiet hq
  have b0 := hbk.at 0 rfl
  have b1 := hbk.at 1 rfl
  have b2 := hbk.at 2 rfl
  have b3 := hbk.at 3 rfl
  have b4 := hbk.at 4 rfl
  have b5 := hbk.at 5 rfl
  have f0 := hbk.free 0
  have f1 := hbk.free 1
  have f2 := hbk.free 2
  have f3 := hbk.free 3
  have f4 := hbk.free 4
  have f5 := hbk.free 5
  have hlt := hbk.lt
  have HQ := Lib.hid hB
  have HBK := Lib.hid hbk
  clear hB hq hbk
  have d0 : w2.cell? ⟨b, off, none⟩ = some (.int .u8 (x0.toNat : Int)) := (HQ.out.cell (p := ⟨b, off, none⟩) hbl).trans c0
  have d1 : w2.cell? ⟨b, off + 1, none⟩ = some (.int .u8 (x1.toNat : Int)) := (HQ.out.cell (p := ⟨b, off + 1, none⟩) hbl).trans c1
  have d2 : w2.cell? ⟨b, off + 2, none⟩ = some (.int .u8 (x2.toNat : Int)) := (HQ.out.cell (p := ⟨b, off + 2, none⟩) hbl).trans c2
  have d3 : w2.cell? ⟨b, off + 3, none⟩ = some (.int .u8 (x3.toNat : Int)) := (HQ.out.cell (p := ⟨b, off + 3, none⟩) hbl).trans c3
  have hwz : 256 * (x0.toNat : Int) + (x1.toNat : Int) = wz x0 x1 := rfl
  have hwz2 : 256 * (x2.toNat : Int) + (x3.toNat : Int) = wz x2 x3 := rfl
  go_wp2_with fail
  go_quiet (fail)
  have hq3 : Quiet w2 (w2.drewN nq) := ⟨_, rfl⟩
  generalize w2.drewN nq = w3 at hq3 ⊢
  have d2' : w3.cell? ⟨b, off + 2, none⟩ = some (.int .u8 (x2.toNat : Int)) := by obtain ⟨m, rfl⟩ := hq3; exact d2
  have d3' : w3.cell? ⟨b, off + 3, none⟩ = some (.int .u8 (x3.toNat : Int)) := by obtain ⟨m, rfl⟩ := hq3; exact d3
  go_wp2_with fail
  go_quiet (fail)
  have hq4 : Quiet w2 (w3.drewN nq) := hq3.drewN _
  generalize w3.drewN nq = wx at hq4 ⊢
  clear d2' d3' hq3
  obtain ⟨w3, hw3⟩ : ∃ w3, w3 = wx := ⟨_, rfl⟩
  rw [← hw3]
  have hq3 := hw3 ▸ hq4
  clear hw3 hq4
  have hk3 := HBK.out.quiet hq3
  have hB3 : Below w.heap.size w w3 := HQ.out.trans hq3.below
  have HB3 := Lib.hid hB3
  have HK3 := Lib.hid hk3
  have hbl3 : b < w3.heap.size := Nat.lt_of_lt_of_le hbl hB3.size
  have HC : Hid (q.dat = [] ∨ b < w3.heap.size ∧ ∀ i (h : i < q.dat.length), w3.cell? ⟨b, off + 6 + i, none⟩ = some (.int .u8 (q.dat[i].toNat : Int))) := Lib.hid (by
    have hs := (HB.out.below hB3 (Nat.le_refl _)).sub 6 (M - 6)
    rw [← HQD.out] at hs
    rcases hs with h | ⟨b', off', h1, h2, h3⟩
    · exact .inl h
    · cases h1; exact .inr ⟨h2, h3⟩)
  clear hk3 hB3 hq3 b0 b1 b2 b3 b4 b5 f0 f1 f2 f3 f4 f5 hlt c0 c1 c2 c3 d0 d1 d2 d3
  obtain ⟨j0, hj, hy0, hy1, hy2⟩ := info_parts info5
  have HN : Hid (∀ j u, (encB q.dat)[j]? = some u → (w3.alloc (.cells #[] 5)).cell? ((⟨b, off + 6, none⟩ : Addr).add j) = some u) := Lib.hid (BAt.news (fun i hi => by
    rcases HC.out with h | ⟨h1, h2⟩
    · rw [h] at hi; simp at hi
    · rw [← h2 i hi]; exact World.cell?_of_block (Below.heap_alloc _ _ _ h1)))
  go_wp2_with (at_builtin; refine wpList_append_own _ rfl _ _ 22 rfl w3.heap.size 5 j0 (.int .u8 0) 1 1 Try.underlying22 hj hy0 hy1 hy2 rfl (by decide) _ 0 [] rfl (World.ownsRow_made _ #[] 0 (by omega) (by unfold maxLen; omega) rfl) ⟨b, off + 6, none⟩ (M - 6) _ (encB q.dat) rfl (by simp [encB, HQL.out]) HN.out (encB_one _) (by unfold maxLen; omega) (by omega) (by simp) ?_)
  intro v' w4 hown hgrow _
  have hO : w4.ownsRow w3.heap.size 5 1 v' q.dat.length (encB q.dat) := by rw [HQL.out]; simpa using hown
  have hB4 : Below w3.heap.size w3 w4 := ((Below.refl _ _).alloc (Nat.le_refl _) _).grown hgrow (by simp) (fun k hk => by simp [Value.ownBlock] at hk; omega)
  clear hown hgrow
  obtain ⟨-, a5, k5c, rfl, hc5, hm5, hA5⟩ := BAt.of_row hO
  have HO := Lib.hid hA5
  have HB4 := Lib.hid (HB3.out.trans (hB4.mono HB3.out.size))
  have HK4 := Lib.hid (HK3.out.below hB4 (Nat.le_refl _))
  have hlw4 := HB4.out.size
  clear hO hB4 hA5
  go_wp2_with fail
  have hql5 : q.dat.length ≤ 5000 := by have := HQL.out; omega
  refine (rvalid_any q a5 k5c _ (by unfold maxLen; omega) (HO.out.below (al (Below.refl _ _) _) (Nat.le_refl _))).mono ?_
  rintro e w5 ⟨rfl, hB5⟩
  have hbq := (Blk.new w4 59 [.bool q.cmd, .bool q.sec, .int .i64 q.apid, .int .i64 q.flags, .int .i64 q.count, .slice a5 q.dat.length k5c]).below hB5 (Nat.le_refl _)
  have q0 := hbq.at 0 rfl
  have q1 := hbq.at 1 rfl
  have q2 := hbq.at 2 rfl
  have q3 := hbq.at 3 rfl
  have q4 := hbq.at 4 rfl
  have q5 := hbq.at 5 rfl
  have hlq := hbq.lt
  have hbk := (HK4.out.alloc (.cells #[.bool q.cmd, .bool q.sec, .int .i64 q.apid, .int .i64 q.flags, .int .i64 q.count, .slice a5 q.dat.length k5c] 59)).below hB5 (Nat.le_refl _)
  have b0 := hbk.at 0 rfl
  have b1 := hbk.at 1 rfl
  have b2 := hbk.at 2 rfl
  have b3 := hbk.at 3 rfl
  have b4 := hbk.at 4 rfl
  have b5 := hbk.at 5 rfl
  have f0 := hbk.free 0
  have f1 := hbk.free 1
  have f2 := hbk.free 2
  have f3 := hbk.free 3
  have f4 := hbk.free 4
  have f5 := hbk.free 5
  have hlt := hbk.lt
  have HB5 := Lib.hid (HB4.out.trans (((al (Below.refl _ w4) _).trans (hB5.mono (by simp))).mono hlw4))
  have HK5 := Lib.hid hbk
  have HA5 := Lib.hid ((HO.out.below (al (Below.refl _ _) _) (Nat.le_refl _)).below hB5 (Nat.le_refl _))
  have hne : w4.heap.size ≠ w.heap.size := by have := HK4.out.lt; omega
  have hne2 : w.heap.size ≠ w4.heap.size := fun e => hne e.symm
  clear hbq hbk hB5
  cases hv : validB q
  · have HV := Lib.hid hv
    clear hv
    go_wp2_with fail
    rw [HD.out, if_neg (by rw [HV.out]; simp)]
    exact bodyPost_ret (v := .tuple #[.agg #[.bool false, .bool false, .int .i64 0, .int .i64 0, .int .i64 0, .slice none 0 0], .int .i64 0, .int .i64 4]) (by simp [results, Try.results30, go_sem, b0, b1, b2, b3, b4, b5]) rfl (dq_zero _ _ _ _ (by repeat (first | with_reducible exact HB5.out | refine Below.setCell ?_ (by exact Nat.le_refl _) _)))
  · have HV := Lib.hid hv
    clear hv
    go_wp2_with fail
    rw [HD.out, if_pos HV.out]
    refine bodyPost_ret (v := .tuple #[q.val a5 k5c, .int .i64 M, .int .i64 0]) (by simp [results, Try.results30, go_sem, b0, b1, b2, b3, b4, b5, Pk.val]) rfl ⟨a5, k5c, rfl, ?_, hc5, hm5, ?_⟩
    · refine HA5.out.fr (S := fun k => k = w.heap.size) ?_ (fun p hp e => ?_)
      · repeat (first | with_reducible exact Fr.refl _ _ | refine Fr.set1 ?_ _ (by exact .inl rfl))
      · exact blk_apart HK5.out HA5.out (fun e => by rw [e] at hql5; have := HQL.out; rw [e] at this; simp at this; omega) (fun v hv n e => by simp at hv; rcases hv with rfl | rfl | rfl | rfl | rfl | rfl <;> cases e) p hp e
    · repeat (first | with_reducible exact HB5.out | refine Below.setCell ?_ (by exact Nat.le_refl _) _)
theorem decode_any (a : Option Addr) (cap : Nat) (l : List UInt8) (w : World) (hl : l.length ≤ maxLen) (hcap : l.length ≤ cap) (hcm : cap ≤ maxLen) (hb : BAt w a l) : Calls Try.prog 26 #[.slice a l.length cap] w (DQ w (decP l)) := by
  by_cases he : (sizeP l).2 = 0
  · by_cases hn : (l.length : Int) < (sizeP l).1
    · exact decode_short a cap l w hl hcap hcm hb he hn
    · exact decode_read a cap l w hl hcap hcm hb he hn
  · exact decode_err a cap l w hl hcap hcm hb he
theorem rdecode_any (a : Option Addr) (cap : Nat) (l : List UInt8) (w : World) (hl : l.length ≤ maxLen) (hcap : l.length ≤ cap) (hcm : cap ≤ maxLen) (hb : BAt w a l) : Calls Try.prog 30 #[.slice a l.length cap] w (DQ w (decP l)) := by
  by_cases he : (sizeP l).2 = 0
  · by_cases hn : (l.length : Int) < (sizeP l).1
    · exact rdecode_short a cap l w hl hcap hcm hb he hn
    · exact rdecode_read a cap l w hl hcap hcm hb he hn
  · exact rdecode_err a cap l w hl hcap hcm hb he
end Go.Proofs.Ytalghcgedmcifaa

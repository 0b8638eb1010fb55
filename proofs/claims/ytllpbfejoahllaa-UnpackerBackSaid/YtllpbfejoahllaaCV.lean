/- Contract of cut. No condition. -/
import Derived.Test.YtllpbfejoahllaaCU
namespace Go.Proofs.Ytllpbfejoahllaa
open Go.RowKit Go.Deep Go.ChangeShapes Go.WideShapes Go.ChangeAt
set_option linter.unusedVariables false

set_option maxRecDepth 20000 in
set_option maxHeartbeats 4000000 in
theorem cut_any (S : Nat → Prop) (vS : Value) (P : List (List UInt8)) (sz start : Nat) (w : World) (hS : SAt w S vS P) (hP : P.length ≤ 40) (hl : ∀ p ∈ P, p.length ≤ 70) (hw : ∀ p ∈ P, 7 ≤ p.length) (hz : 1 ≤ sz) (hz2 : sz ≤ 60) (hst : start ≤ 255) :
    Calls Try.prog 9 #[vS, .int .i64 (sz : Int), .int .i64 (start : Int)] w (CutQ vS P sz start w) := by
  obtain ⟨av, capv, rfl, hcv, hmv⟩ := hS.len
  have HS := Lib.hid hS
  have HL := Lib.hid hl
  have HW := Lib.hid hw
  obtain ⟨np, hnp⟩ : ∃ np, np = P.length := ⟨_, rfl⟩
  rw [← hnp] at hcv hP HS ⊢
  have HNP := Lib.hid hnp
  obtain ⟨j0, hj, hy0, hy1, hy2⟩ := info_parts info5
  have HJ := Lib.hid hj
  obtain ⟨j3, hj3, hi0, hi1, hi2⟩ := info_parts info3
  have HJ3 := Lib.hid hj3
  clear hS hl hw hj hj3 hnp
  obtain ⟨w1, hw1⟩ : ∃ w1, w1 = w.alloc (.cells #[.slice Option.none 0 0, .slice Option.none 0 0, .slice Option.none 0 0, .slice Option.none 0 0, .slice Option.none 0 0, .slice Option.none 0 0] 30) := ⟨_, rfl⟩
  obtain ⟨w2, hw2⟩ : ∃ w2, w2 = w1.alloc (.cells #[.slice Option.none 0 0, .slice Option.none 0 0, .slice Option.none 0 0, .slice av np capv, .slice Option.none 0 0, .slice Option.none 0 0] 30) := ⟨_, rfl⟩
  have hsz1 : w1.heap.size = w.heap.size + 1 := by rw [hw1]; simp
  have hB1 : Below w.heap.size w w1 := by rw [hw1]; exact al (Below.refl _ _) _
  have hB2 : Below w1.heap.size w1 w2 := by rw [hw2]; exact al (Below.refl _ _) _
  have hk2 : Blk w2 w1.heap.size 30 [.slice Option.none 0 0, .slice Option.none 0 0, .slice Option.none 0 0, .slice av np capv, .slice Option.none 0 0, .slice Option.none 0 0] := by rw [hw2]; exact Blk.new w1 30 _
  have hr0 : Blk w1 w.heap.size 30 [.slice Option.none 0 0, .slice Option.none 0 0, .slice Option.none 0 0, .slice Option.none 0 0, .slice Option.none 0 0, .slice Option.none 0 0] := by rw [hw1]; exact Blk.new w 30 _
  obtain ⟨bs, hbs⟩ : ∃ bs, bs = w1.heap.size := ⟨_, rfl⟩
  have hbw : bs = w.heap.size + 1 := by rw [hbs, hsz1]
  rw [← hbs] at hk2 hB2
  have HSZ1 : Hid (w1.heap.size ≤ bs) := Lib.hid (by rw [hbs]; exact Nat.le_refl _)
  have HK2 := Lib.hid hk2
  have HB2 := Lib.hid hB2
  have HB1 := Lib.hid hB1
  have HBW := Lib.hid hbw
  have HR0 := Lib.hid hr0
  go_enter Try.func9, Try.ntmps9
  go_upto_region 3 with fail
  rw [← hw1, ← hw2, ← hbw]
  clear hw1 hw2 hbs hsz1 hB1 hB2 hk2 hbw hr0
  go_wp2_with fail
  go_loopw [8] (fun i wr => ∃ (k : Nat) (vFr vTo vSt vB : Value), k ≤ np ∧ i = .int .i64 k ∧ Hid (Blk wr bs 30 [.slice Option.none 0 0, vFr, vTo, .slice av np capv, vSt, vB]) ∧ Hid (Rows wr (bs + 1) (cutRows sz (P.take k) vFr vTo vSt vB)) ∧ Hid (Below bs w1 wr)) (fun i _ => np - (intOf i).toNat)
  case atStart => exact ⟨0, _, _, _, _, Nat.zero_le _, rfl, HK2, Lib.hid (cutRows_start _ _ _), HB2⟩
  case round =>
    obtain ⟨k, vFr, vTo, vSt, vB, hk, rfl, HK, HR, HB⟩ := hrel
    by_cases hlt : k < np
    · have g1 : (k : Int) < (np : Int) := by omega
      obtain ⟨Q, hQ⟩ : ∃ Q, Q = P.take k := ⟨_, rfl⟩
      obtain ⟨x, hx⟩ : ∃ x, x = Q.flatten := ⟨_, rfl⟩
      have hql : Q.length = k := by rw [hQ, List.length_take, ← HNP.out]; omega
      have hxl : x.length ≤ 2800 := by rw [hx, hQ]; have := flat_take_le HL.out k; omega
      obtain ⟨n, hn⟩ : ∃ n, n = x.length := ⟨_, rfl⟩
      rw [← hQ] at HR
      unfold cutRows at HR
      rw [← hx, ← hn, hql] at HR
      obtain ⟨aF, nF, cF, rfl⟩ := own_sliceC (HR.out.row 0 rfl)
      obtain ⟨aT, nT, cT, rfl⟩ := own_sliceC (HR.out.row 1 rfl)
      obtain ⟨aB, nB, cB, rfl⟩ := own_sliceC (HR.out.row 3 rfl)
      obtain ⟨-, aS, cS, he, hcS, hmS, hAS⟩ := BAt.of_row (HR.out.row 2 rfl)
      dsimp only at he
      subst he
      rw [← hn] at HR hcS HK
      have HQ := Lib.hid hQ
      have HX := Lib.hid hx
      have HN := Lib.hid hn
      have HQL := Lib.hid hql
      have hn28 : n ≤ 2800 := by omega
      have hk40 : k ≤ 40 := by omega
      have c0 := HK.out.at 0 rfl
      have c4 := HK.out.at 4 rfl
      have c5 := HK.out.at 5 rfl
      have cl := HK.out.lt
      have f5 := HK.out.free 5
      have hs0 : bs + 1 ≤ wr.heap.size := cl
      have hs1 : bs + 1 ≤ (wr.alloc (.cells #[.int .i64 (n : Int)] 3)).heap.size := Nat.le_trans hs0 (al (Below.refl _ _) _).size
      clear hQ hx hn hql hxl hAS
      go_wp2_with (at_builtin; refine wpList_append_src _ rfl (.tmp 21) (.tmp 25) 28 rfl (bs + 1) 3 j3 (.int .i64 0) 8 Try.underlying28 HJ3.out hi0 hi1 hi2 (by rfl) _ k (encN (starts 0 Q)) rfl (own_below (HR.out.row 3 rfl) (al (Below.refl _ _) _) (Nat.le_refl _)) (some ⟨wr.heap.size, 0, none⟩) 1 1 [.int .i64 (n : Int)] rfl (by rfl) (one_vat wr _ 3) (by simp [Value.oneCell']) (by unfold maxLen; omega) (by omega) hs1 ?_)
      intro v3 w3 hown3 hgrow3 hblk3
      obtain ⟨a3, n3, c3, rfl⟩ := own_sliceC hown3
      obtain ⟨d, f5, cl, d2, HKA, HRA, HBA⟩ := Rows.putC HK.out HR.out HB.out (al (Below.refl _ _) _) (Nat.lt_succ_self bs) (Nat.le_refl bs) 3 rfl hown3 hgrow3 (by simpa using hblk3) 5
      clear c0 c4 c5 hown3 hgrow3 hblk3
      have c5 := d 5 _ rfl
      clear d d2
      go_upto_region 7 with fail
      obtain ⟨wA, hwA⟩ : ∃ wA, wA = w3.setCell ⟨bs, 5, Option.none⟩ (.slice a3 n3 c3) := ⟨_, rfl⟩
      rw [← hwA] at HKA HRA HBA
      rw [← hwA]
      clear hwA c5 f5 cl
      obtain ⟨q, hq⟩ : ∃ q, q = n / sz := ⟨_, rfl⟩
      have HQQ := Lib.hid hq
      have eqd : (n : Int).tdiv (sz : Int) = (q : Int) := by rw [hq]; rfl
      have eq1 : (n : Int) / (sz : Int) = (q : Int) := by rw [hq]; rfl
      have ez : ((sz : Int) == 0) = false := by rw [beq_eq_false_iff_ne]; omega
      have hqn : q ≤ 2800 := by rw [hq]; exact Nat.le_trans (Nat.div_le_self _ _) hn28
      have hx0 : (0 : Int) ≤ (n : Int) := by omega
      have hsz0 : ¬ (sz : Int) = 0 := by omega
      have hszn : ¬ sz = 0 := by omega
      have eqw : IntKind.i64.wrap (q : Int) = (q : Int) := IntWalk.i64_in _ (by omega)
      have hsz9 : (0 : Int) < (sz : Int) := by omega
      clear hq
      have c1 := HKA.out.at 1 rfl
      have c4 := HKA.out.at 4 rfl
      have cl := HKA.out.lt
      have f1 := HKA.out.free 1
      have HKAd : Hid (Blk wA.drew bs 30 _) := Lib.hid HKA.out.drew
      have hsA : bs + 1 ≤ wA.heap.size := cl
      have hsAl : bs + 1 ≤ (wA.alloc (.cells #[.int .i64 (q : Int)] 3)).drew.heap.size := Nat.le_trans hsA (al (Below.refl _ wA) _).size
      go_cut [] from 14 to 56 (fun wx => ∃ a5 n5 c5, Hid (Blk wx bs 30 [.slice Option.none 0 0, .slice a5 n5 c5, .slice aT nT cT, .slice av np capv, .slice aS n cS, .slice a3 n3 c3]) ∧ Hid (Rows wx (bs + 1) [⟨.slice a5 n5 c5, 3, 1, k + 1, encN (fromL sz Q) ++ [.int .i64 (q : Int)]⟩, ⟨.slice aT nT cT, 3, 1, k, encN (toL sz Q)⟩, ⟨.slice aS n cS, 5, 1, n, encB x⟩, ⟨.slice a3 n3 c3, 3, 1, k + 1, encN (starts 0 Q) ++ [.int .i64 (n : Int)]⟩]) ∧ Hid (Below bs w1 wx))
      case first =>
        refine wp_region_held_drew (S := (fun w' => w'.cell? ⟨bs, 4, none⟩ = some (.slice aS n cS))) (by kernel_rfl) (by (try dsimp only); (first | assumption | go_keep)) (fun hHeld => ?_)
        refine wpAnyH_take (i := 0) (oi := (Oper.mk (some 28) (Op.fieldAddr 30 (Operand.tmp 7) 1) 0 "law.go:81" #[] none)) (v := ?_) rfl (by kernel_rfl) (by kernel_rfl) (by kernel_rfl) (fun _ _ _ h => h) (Or.inl ⟨by rfl, ?_⟩) (by assumption) ?_
        rotate_left
        · (intro w hSw; (try dsimp only at hSw); go_simp; first | done | with_reducible rfl)
        (try simp only [Act.put, List.setIfInBounds_toArray, List.set_cons_zero, List.set_cons_succ])
        refine wpAnyH_take (i := 2) (oi := (Oper.mk (some 30) (Op.fieldAddr 30 (Operand.tmp 7) 4) 0 "law.go:81" #[] none)) (v := ?_) rfl (by kernel_rfl) (by kernel_rfl) (by kernel_rfl) (fun _ _ _ h => h) (Or.inl ⟨by rfl, ?_⟩) (by assumption) ?_
        rotate_left
        · (intro w hSw; (try dsimp only at hSw); go_simp; first | done | with_reducible rfl)
        (try simp only [Act.put, List.setIfInBounds_toArray, List.set_cons_zero, List.set_cons_succ])
        refine wpAnyH_take (i := 3) (oi := (Oper.mk (some 31) (Op.load 23 (Operand.tmp 30)) 23 "law.go:81" #[Edge.mk 2 Ground.data] none)) (v := ?_) rfl (by kernel_rfl) (by kernel_rfl) (by kernel_rfl) (fun _ _ _ h => h) (Or.inl ⟨by rfl, ?_⟩) (by assumption) ?_
        rotate_left
        · (intro w hSw; (try dsimp only at hSw); go_simp; first | done | with_reducible rfl)
        (try simp only [Act.put, List.setIfInBounds_toArray, List.set_cons_zero, List.set_cons_succ])
        refine wpAnyH_take (i := 4) (oi := (Oper.mk (some 32) (Op.call (Call.mk (Callee.builtin Builtin.len) #[Operand.tmp 31] #[23])) 3 "law.go:81" #[Edge.mk 3 Ground.data] none)) (v := ?_) rfl (by kernel_rfl) (by kernel_rfl) (by kernel_rfl) (fun _ _ _ h => h) (Or.inl ⟨by rfl, ?_⟩) (by assumption) ?_
        rotate_left
        · (intro w hSw; (try dsimp only at hSw); go_simp; first | done | with_reducible rfl)
        (try simp only [Act.put, List.setIfInBounds_toArray, List.set_cons_zero, List.set_cons_succ])
        refine wpAnyH_take (i := 5) (oi := (Oper.mk (some 33) (Op.move (Operand.tmp 1)) 3 "law.go:81" #[] none)) (v := ?_) rfl (by kernel_rfl) (by kernel_rfl) (by kernel_rfl) (fun _ _ _ h => h) (Or.inl ⟨by rfl, ?_⟩) (by assumption) ?_
        rotate_left
        · (intro w hSw; (try dsimp only at hSw); go_simp; first | done | with_reducible rfl)
        (try simp only [Act.put, List.setIfInBounds_toArray, List.set_cons_zero, List.set_cons_succ])
        refine wpAnyH_take (i := 6) (oi := (Oper.mk (some 34) (Op.binOp BinOp.quo 3 (Operand.tmp 32) (Operand.tmp 33) 3) 3 "law.go:81" #[Edge.mk 4 Ground.data, Edge.mk 5 Ground.data] none)) (v := ?_) rfl (by kernel_rfl) (by kernel_rfl) (by kernel_rfl) (fun _ _ _ h => h) (Or.inl ⟨by rfl, ?_⟩) (by assumption) ?_
        rotate_left
        · (intro w hSw; (try dsimp only at hSw); go_simp; first | done | with_reducible rfl)
        (try simp only [Act.put, List.setIfInBounds_toArray, List.set_cons_zero, List.set_cons_succ])
        refine wpAnyH_ready (rs := [1, 7]) (by kernel_rfl) (by simp) ?_
        refine AllReadyH.cons (o := (Oper.mk (some 29) (Op.load 28 (Operand.tmp 28)) 28 "law.go:81" #[Edge.mk 0 Ground.data] none)) rfl (fun K hK => ?st1tef8bx7) (AllReadyH.cons (o := (Oper.mk (some 35) (Op.buildSlice 28 1 #[(0, Operand.tmp 34)]) 28 "law.go:81" #[Edge.mk 6 Ground.data] none)) rfl (fun K hK => ?st7tef8bx7) (AllReadyH.nil))
        case' st1tef8bx7 =>
          go_simp
          skip
          refine hK.out _ _ (by (try dsimp only); (first | assumption | go_keep)) (fun hHeld => ?_)
          clear hK K
          (try simp only [Act.put, List.setIfInBounds_toArray, List.set_cons_zero, List.set_cons_succ])
          refine wpAnyH_ready (rs := [7]) (by kernel_rfl) (by simp) ?_
          refine AllReadyH.cons (o := (Oper.mk (some 35) (Op.buildSlice 28 1 #[(0, Operand.tmp 34)]) 28 "law.go:81" #[Edge.mk 6 Ground.data] none)) rfl (fun K hK => ?_) (AllReadyH.nil)
          go_simp
          skip
          refine hK.out _ _ (by (try dsimp only); (first | assumption | go_keep)) (fun hHeld => ?_)
          clear hK K
          (try simp only [Act.put, List.setIfInBounds_toArray, List.set_cons_zero, List.set_cons_succ])
          refine wpAnyH_ready (rs := [8]) (by kernel_rfl) (by simp) ?_
          refine AllReadyH.cons (o := (Oper.mk (some 36) (Op.call (Call.mk (Callee.builtin Builtin.append) #[Operand.tmp 29, Operand.tmp 35] #[28, 28])) 28 "law.go:81" #[Edge.mk 1 Ground.data, Edge.mk 7 Ground.data] none)) rfl (fun K hK => ?_) (AllReadyH.nil)
          (refine step_append_src _ (by rfl) (.tmp 29) (.tmp 35) 28 (by rfl) (bs + 1) 3 j3 (.int .i64 0) 8 Try.underlying28 HJ3.out hi0 hi1 hi2 (by rfl) _ k (encN (fromL sz Q)) (by rfl) (own_below (HRA.out.row 0 rfl) ((al (Below.refl _ wA) _).trans (Quiet.below ⟨1, rfl⟩)) (Nat.le_refl _)) (some ⟨wA.heap.size, 0, none⟩) 1 1 [.int .i64 (q : Int)] (by rfl) (by rfl) (show VAt (World.drew _) _ _ from one_vat wA _ 3) (by simp [Value.oneCell']) (by unfold maxLen; omega) (by omega) hsAl ?_; intro v5 w5 hown5 hgrow5 hblk5; obtain ⟨a5, n5, c5, rfl⟩ := own_sliceC hown5; obtain ⟨d, f1, cl, d2, HKC, HRC, HBC⟩ := Rows.putC HKA.out HRA.out HBA.out ((al (Below.refl _ wA) _).trans (Quiet.below ⟨1, rfl⟩)) (Nat.lt_succ_self bs) (Nat.le_refl bs) 0 rfl hown5 hgrow5 (by simpa using hblk5) 1; have c1 := d 1 _ rfl; have c4 := d 4 _ rfl; have k4 := d2 4 _ rfl; clear d d2 hown5 hgrow5 hblk5)
          refine hK.out _ _ (by (try dsimp only); (first | assumption | go_keep)) (fun hHeld => ?_)
          clear hK K
          (try simp only [Act.put, List.setIfInBounds_toArray, List.set_cons_zero, List.set_cons_succ])
          refine wpAnyH_take (i := 9) (oi := (Oper.mk (some 37) (Op.fieldAddr 30 (Operand.tmp 7) 1) 0 "law.go:81" #[Edge.mk 0 Ground.phase, Edge.mk 1 Ground.phase, Edge.mk 2 Ground.phase, Edge.mk 3 Ground.phase, Edge.mk 4 Ground.phase, Edge.mk 5 Ground.phase, Edge.mk 6 Ground.phase, Edge.mk 7 Ground.phase, Edge.mk 8 Ground.phase] none)) (v := ?_) rfl (by kernel_rfl) (by kernel_rfl) (by kernel_rfl) (fun _ _ _ h => h) (Or.inl ⟨by rfl, ?_⟩) (by assumption) ?_
          rotate_left
          · (intro w hSw; (try dsimp only at hSw); go_simp; first | done | with_reducible rfl)
          (try simp only [Act.put, List.setIfInBounds_toArray, List.set_cons_zero, List.set_cons_succ])
          refine wpAnyH_ready (rs := [10]) (by kernel_rfl) (by simp) ?_
          refine AllReadyH.cons (o := (Oper.mk none (Op.store 28 (Operand.tmp 37) (Operand.tmp 36)) 0 "law.go:81" #[Edge.mk 9 Ground.data, Edge.mk 8 Ground.data, Edge.mk 8 Ground.chain, Edge.mk 0 Ground.phase, Edge.mk 1 Ground.phase, Edge.mk 2 Ground.phase, Edge.mk 3 Ground.phase, Edge.mk 4 Ground.phase, Edge.mk 5 Ground.phase, Edge.mk 6 Ground.phase, Edge.mk 7 Ground.phase, Edge.mk 8 Ground.phase] none)) rfl (fun K hK => ?_) (AllReadyH.nil)
          go_simp
          skip
          refine hK.out _ _ (by (try dsimp only); (first | assumption | go_keep)) (fun hHeld => ?_)
          clear hK K
          (try simp only [Act.put, List.setIfInBounds_toArray, List.set_cons_zero, List.set_cons_succ])
          refine wpAnyH_done (by kernel_rfl) ?_ _
        case' st7tef8bx7 =>
          go_simp
          skip
          refine hK.out _ _ (by (try dsimp only); (first | assumption | go_keep)) (fun hHeld => ?_)
          clear hK K
          (try simp only [Act.put, List.setIfInBounds_toArray, List.set_cons_zero, List.set_cons_succ])
          refine wpAnyH_ready (rs := [1]) (by kernel_rfl) (by simp) ?_
          refine AllReadyH.cons (o := (Oper.mk (some 29) (Op.load 28 (Operand.tmp 28)) 28 "law.go:81" #[Edge.mk 0 Ground.data] none)) rfl (fun K hK => ?_) (AllReadyH.nil)
          go_simp
          skip
          refine hK.out _ _ (by (try dsimp only); (first | assumption | go_keep)) (fun hHeld => ?_)
          clear hK K
          (try simp only [Act.put, List.setIfInBounds_toArray, List.set_cons_zero, List.set_cons_succ])
          refine wpAnyH_ready (rs := [8]) (by kernel_rfl) (by simp) ?_
          refine AllReadyH.cons (o := (Oper.mk (some 36) (Op.call (Call.mk (Callee.builtin Builtin.append) #[Operand.tmp 29, Operand.tmp 35] #[28, 28])) 28 "law.go:81" #[Edge.mk 1 Ground.data, Edge.mk 7 Ground.data] none)) rfl (fun K hK => ?_) (AllReadyH.nil)
          (refine step_append_src _ (by rfl) (.tmp 29) (.tmp 35) 28 (by rfl) (bs + 1) 3 j3 (.int .i64 0) 8 Try.underlying28 HJ3.out hi0 hi1 hi2 (by rfl) _ k (encN (fromL sz Q)) (by rfl) (own_below (HRA.out.row 0 rfl) ((al (Below.refl _ wA) _).trans (Quiet.below ⟨1, rfl⟩)) (Nat.le_refl _)) (some ⟨wA.heap.size, 0, none⟩) 1 1 [.int .i64 (q : Int)] (by rfl) (by rfl) (show VAt (World.drew _) _ _ from one_vat wA _ 3) (by simp [Value.oneCell']) (by unfold maxLen; omega) (by omega) hsAl ?_; intro v5 w5 hown5 hgrow5 hblk5; obtain ⟨a5, n5, c5, rfl⟩ := own_sliceC hown5; obtain ⟨d, f1, cl, d2, HKC, HRC, HBC⟩ := Rows.putC HKA.out HRA.out HBA.out ((al (Below.refl _ wA) _).trans (Quiet.below ⟨1, rfl⟩)) (Nat.lt_succ_self bs) (Nat.le_refl bs) 0 rfl hown5 hgrow5 (by simpa using hblk5) 1; have c1 := d 1 _ rfl; have c4 := d 4 _ rfl; have k4 := d2 4 _ rfl; clear d d2 hown5 hgrow5 hblk5)
          refine hK.out _ _ (by (try dsimp only); (first | assumption | go_keep)) (fun hHeld => ?_)
          clear hK K
          (try simp only [Act.put, List.setIfInBounds_toArray, List.set_cons_zero, List.set_cons_succ])
          refine wpAnyH_take (i := 9) (oi := (Oper.mk (some 37) (Op.fieldAddr 30 (Operand.tmp 7) 1) 0 "law.go:81" #[Edge.mk 0 Ground.phase, Edge.mk 1 Ground.phase, Edge.mk 2 Ground.phase, Edge.mk 3 Ground.phase, Edge.mk 4 Ground.phase, Edge.mk 5 Ground.phase, Edge.mk 6 Ground.phase, Edge.mk 7 Ground.phase, Edge.mk 8 Ground.phase] none)) (v := ?_) rfl (by kernel_rfl) (by kernel_rfl) (by kernel_rfl) (fun _ _ _ h => h) (Or.inl ⟨by rfl, ?_⟩) (by assumption) ?_
          rotate_left
          · (intro w hSw; (try dsimp only at hSw); go_simp; first | done | with_reducible rfl)
          (try simp only [Act.put, List.setIfInBounds_toArray, List.set_cons_zero, List.set_cons_succ])
          refine wpAnyH_ready (rs := [10]) (by kernel_rfl) (by simp) ?_
          refine AllReadyH.cons (o := (Oper.mk none (Op.store 28 (Operand.tmp 37) (Operand.tmp 36)) 0 "law.go:81" #[Edge.mk 9 Ground.data, Edge.mk 8 Ground.data, Edge.mk 8 Ground.chain, Edge.mk 0 Ground.phase, Edge.mk 1 Ground.phase, Edge.mk 2 Ground.phase, Edge.mk 3 Ground.phase, Edge.mk 4 Ground.phase, Edge.mk 5 Ground.phase, Edge.mk 6 Ground.phase, Edge.mk 7 Ground.phase, Edge.mk 8 Ground.phase] none)) rfl (fun K hK => ?_) (AllReadyH.nil)
          go_simp
          skip
          refine hK.out _ _ (by (try dsimp only); (first | assumption | go_keep)) (fun hHeld => ?_)
          clear hK K
          (try simp only [Act.put, List.setIfInBounds_toArray, List.set_cons_zero, List.set_cons_succ])
          refine wpAnyH_done (by kernel_rfl) ?_ _
        all_goals
          go_wp2_with fail
          go_meet
          case rel => exact ⟨a5, n5, c5, HKC, HRC, HBC⟩
      case rest =>
        obtain ⟨a5, n5, c5, HKC, HRC, HBC⟩ := hcut
        obtain ⟨wC, hwC⟩ : ∃ wC, wC = wc := ⟨wc, rfl⟩
        subst hwC
        clear c1 c4 cl f1 HKAd hsA hsAl HKA HRA HBA
        have HWC : Hid (Below w.heap.size w wC) := Lib.hid (HB1.out.trans (HBC.out.mono (by rw [HBW.out]; omega)))
        obtain ⟨bP, oP, cP, ap, cp, he, -, -, hbP, hcell, hpc, hpm, hpA, -⟩ := HS.out.get (i := k) (by rw [← HNP.out]; exact hlt)
        simp only [Value.slice.injEq] at he
        obtain ⟨rfl, -, rfl⟩ := he
        obtain ⟨p, hp⟩ : ∃ p, p = P[k]'(by rw [← HNP.out]; exact hlt) := ⟨_, rfl⟩
        rw [← hp] at hcell hpc hpA
        obtain ⟨m, hm⟩ : ∃ m, m = p.length := ⟨_, rfl⟩
        rw [← hm] at hcell hpc
        have hmem : p ∈ P := by rw [hp]; exact List.getElem_mem _
        have hm7 : 7 ≤ m := by rw [hm]; exact HW.out p hmem
        have hm70 : m ≤ 70 := by rw [hm]; exact HL.out p hmem
        have e1 : wC.cell? ⟨bP, oP + k, none⟩ = some (.slice ap m cp) := (HWC.out.cell (p := ⟨bP, _, none⟩) hbP).trans hcell
        have HPV : Hid (VAt wC.drew ap (encB p)) := Lib.hid ((hpA.below HWC.out (Nat.le_refl _)).vat.below (B := wC.heap.size) (Quiet.below ⟨1, rfl⟩) (Nat.le_refl _))
        have HM := Lib.hid hm
        have HPP := Lib.hid hp
        have HML : Hid ((encB p).length = m) := Lib.hid (by simp [encB, hm])
        have HPC := Lib.hid hcell
        clear hp hm hcell hpA hmem
        have c4 := HKC.out.at 4 rfl
        have f4 := HKC.out.free 4
        have cl := HKC.out.lt
        have hsC : bs + 1 ≤ wC.drew.heap.size := cl
        go_upto_region 8 with fail
        refine wp_region_held_drew (S := (fun w' => w'.cell? ⟨bP, oP + k, none⟩ = some (.slice ap m cp))) (by kernel_rfl) (by (try dsimp only); (first | assumption | go_keep)) (fun hHeld => ?_)
        refine wpAnyH_take (i := 0) (oi := (Oper.mk (some 38) (Op.fieldAddr 30 (Operand.tmp 7) 4) 0 "law.go:82" #[] none)) (v := ?_) rfl (by kernel_rfl) (by kernel_rfl) (by kernel_rfl) (fun _ _ _ h => h) (Or.inl ⟨by rfl, ?_⟩) (by assumption) ?_
        rotate_left
        · (intro w hSw; (try dsimp only at hSw); go_simp; first | done | with_reducible rfl)
        (try simp only [Act.put, List.setIfInBounds_toArray, List.set_cons_zero, List.set_cons_succ])
        refine wpAnyH_take (i := 2) (oi := (Oper.mk (some 40) (Op.move (Operand.tmp 0)) 22 "law.go:82" #[] none)) (v := ?_) rfl (by kernel_rfl) (by kernel_rfl) (by kernel_rfl) (fun _ _ _ h => h) (Or.inl ⟨by rfl, ?_⟩) (by assumption) ?_
        rotate_left
        · (intro w hSw; (try dsimp only at hSw); go_simp; first | done | with_reducible rfl)
        (try simp only [Act.put, List.setIfInBounds_toArray, List.set_cons_zero, List.set_cons_succ])
        refine wpAnyH_take (i := 3) (oi := (Oper.mk (some 41) (Op.move (Operand.tmp 8)) 3 "law.go:82" #[] none)) (v := ?_) rfl (by kernel_rfl) (by kernel_rfl) (by kernel_rfl) (fun _ _ _ h => h) (Or.inl ⟨by rfl, ?_⟩) (by assumption) ?_
        rotate_left
        · (intro w hSw; (try dsimp only at hSw); go_simp; first | done | with_reducible rfl)
        (try simp only [Act.put, List.setIfInBounds_toArray, List.set_cons_zero, List.set_cons_succ])
        refine wpAnyH_take (i := 4) (oi := (Oper.mk (some 42) (Op.indexAddr 22 (Operand.tmp 40) (Operand.tmp 41)) 0 "law.go:82" #[Edge.mk 2 Ground.data, Edge.mk 3 Ground.data] none)) (v := ?_) rfl (by kernel_rfl) (by kernel_rfl) (by kernel_rfl) (fun _ _ _ h => h) (Or.inl ⟨by rfl, ?_⟩) (by assumption) ?_
        rotate_left
        · (intro w hSw; (try dsimp only at hSw); go_simp; first | done | with_reducible rfl)
        (try simp only [Act.put, List.setIfInBounds_toArray, List.set_cons_zero, List.set_cons_succ])
        refine wpAnyH_take (i := 5) (oi := (Oper.mk (some 43) (Op.load 23 (Operand.tmp 42)) 23 "law.go:82" #[Edge.mk 4 Ground.data] none)) (v := ?_) rfl (by kernel_rfl) (by kernel_rfl) (by kernel_rfl) (fun _ _ _ h => h) (Or.inl ⟨by rfl, ?_⟩) (by assumption) ?_
        rotate_left
        · (intro w hSw; (try dsimp only at hSw); go_simp; first | done | with_reducible rfl)
        (try simp only [Act.put, List.setIfInBounds_toArray, List.set_cons_zero, List.set_cons_succ])
        refine wpAnyH_ready (rs := [1]) (by kernel_rfl) (by simp) ?_
        refine AllReadyH.cons (o := (Oper.mk (some 39) (Op.load 23 (Operand.tmp 38)) 23 "law.go:82" #[Edge.mk 0 Ground.data] none)) rfl (fun K hK => ?_) (AllReadyH.nil)
        go_simp
        skip
        refine hK.out _ _ (by (try dsimp only); (first | assumption | go_keep)) (fun hHeld => ?_)
        clear hK K
        (try simp only [Act.put, List.setIfInBounds_toArray, List.set_cons_zero, List.set_cons_succ])
        refine wpAnyH_ready (rs := [6]) (by kernel_rfl) (by simp) ?_
        refine AllReadyH.cons (o := (Oper.mk (some 44) (Op.call (Call.mk (Callee.builtin Builtin.append) #[Operand.tmp 39, Operand.tmp 43] #[23, 23])) 23 "law.go:82" #[Edge.mk 1 Ground.data, Edge.mk 5 Ground.data] none)) rfl (fun K hK => ?_) (AllReadyH.nil)
        (refine step_append_src _ (by rfl) (.tmp 39) (.tmp 43) 23 (by rfl) (bs + 1) 5 j0 (.int .u8 0) 1 Try.underlying23 HJ.out hy0 hy1 hy2 (by rfl) _ n (encB x) (by rfl) (own_below (HRC.out.row 2 rfl) (Quiet.below ⟨1, rfl⟩) (Nat.le_refl _)) ap m cp (encB p) (by rfl) HML.out HPV.out (encB_one _) (by unfold maxLen; omega) (by omega) hsC ?_; intro v6 w6 hown6 hgrow6 hblk6; obtain ⟨a6, n6, c6, rfl⟩ := own_sliceC hown6; obtain ⟨d, f4, cl, d2, HKD, HRD, HBD⟩ := Rows.putC HKC.out HRC.out HBC.out (Quiet.below ⟨1, rfl⟩) (Nat.lt_succ_self bs) (Nat.le_refl bs) 2 rfl hown6 hgrow6 hblk6 4; have c4 := d 4 _ rfl; have HWD : Hid (Below w.heap.size w (w6.setCell ⟨bs, 4, Option.none⟩ (.slice a6 n6 c6))) := Lib.hid (HB1.out.trans (HBD.out.mono (by rw [HBW.out]; omega))); have HW6 : Hid (Below w.heap.size w w6) := Lib.hid (((HWC.out.trans (Quiet.below (w := wC) (w' := wC.drew) ⟨1, rfl⟩)).grown hgrow6 HWC.out.size (fun q hq => by have := ((HRC.out.row 2 rfl).lt q hq).1; have := HBW.out; omega))); have e1 := (HW6.out.cell (p := ⟨bP, oP + k, none⟩) hbP).trans HPC.out; have e2 := (HWD.out.cell (p := ⟨bP, oP + k, none⟩) hbP).trans HPC.out; clear d d2 hown6 hgrow6 hblk6)
        refine hK.out _ _ (by (try dsimp only); (first | assumption | go_keep)) (fun hHeld => ?_)
        clear hK K
        (try simp only [Act.put, List.setIfInBounds_toArray, List.set_cons_zero, List.set_cons_succ])
        refine wpAnyH_take (i := 7) (oi := (Oper.mk (some 45) (Op.fieldAddr 30 (Operand.tmp 7) 4) 0 "law.go:82" #[Edge.mk 0 Ground.phase, Edge.mk 1 Ground.phase, Edge.mk 2 Ground.phase, Edge.mk 3 Ground.phase, Edge.mk 4 Ground.phase, Edge.mk 5 Ground.phase, Edge.mk 6 Ground.phase] none)) (v := ?_) rfl (by kernel_rfl) (by kernel_rfl) (by kernel_rfl) (fun _ _ _ h => h) (Or.inl ⟨by rfl, ?_⟩) (by assumption) ?_
        rotate_left
        · (intro w hSw; (try dsimp only at hSw); go_simp; first | done | with_reducible rfl)
        (try simp only [Act.put, List.setIfInBounds_toArray, List.set_cons_zero, List.set_cons_succ])
        refine wpAnyH_ready (rs := [8]) (by kernel_rfl) (by simp) ?_
        refine AllReadyH.cons (o := (Oper.mk none (Op.store 23 (Operand.tmp 45) (Operand.tmp 44)) 0 "law.go:82" #[Edge.mk 7 Ground.data, Edge.mk 6 Ground.data, Edge.mk 6 Ground.chain, Edge.mk 0 Ground.phase, Edge.mk 1 Ground.phase, Edge.mk 2 Ground.phase, Edge.mk 3 Ground.phase, Edge.mk 4 Ground.phase, Edge.mk 5 Ground.phase, Edge.mk 6 Ground.phase] none)) rfl (fun K hK => ?_) (AllReadyH.nil)
        go_simp
        skip
        refine hK.out _ _ (by (try dsimp only); (first | assumption | go_keep)) (fun hHeld => ?_)
        clear hK K
        (try simp only [Act.put, List.setIfInBounds_toArray, List.set_cons_zero, List.set_cons_succ])
        refine wpAnyH_done (by kernel_rfl) ?_ _
        obtain ⟨wD, hwD⟩ : ∃ wD, wD = w6.setCell ⟨bs, 4, Option.none⟩ (.slice a6 n6 c6) := ⟨_, rfl⟩
        rw [← hwD] at HKD HRD HBD HWD
        obtain ⟨n', hn'⟩ : ∃ x, x = n + m := ⟨_, rfl⟩
        rw [← hn'] at HRD
        obtain ⟨hl6, a6', c6', he, -⟩ := VAt.of_row (HRD.out.row 2 rfl)
        simp only [Value.slice.injEq] at he
        obtain ⟨rfl, hn6, rfl⟩ := he
        have hl6' : n' = (encB x ++ encB p).length := hl6
        rw [← hl6'] at hn6
        obtain rfl := hn6.symm
        have HN' := Lib.hid hn'
        obtain ⟨n1, hn1⟩ : ∃ n1, n' = n1 + 1 := ⟨n' - 1, by omega⟩
        obtain ⟨q2, hq2⟩ : ∃ q, q = n1 / sz := ⟨_, rfl⟩
        have HQ2 : Hid (q2 = (n + m - 1) / sz) := Lib.hid (by rw [← hn', hn1, Nat.add_sub_cancel]; exact hq2)
        have jn : (n' : Int) - 1 = (n1 : Int) := by omega
        have hn1b : n1 ≤ 2870 := by omega
        have eqd2 : (n1 : Int).tdiv (sz : Int) = (q2 : Int) := by rw [hq2]; rfl
        have eq12 : (n1 : Int) / (sz : Int) = (q2 : Int) := by rw [hq2]; rfl
        have hqn2 : q2 ≤ 2870 := by rw [hq2]; exact Nat.le_trans (Nat.div_le_self _ _) hn1b
        have hx02 : (0 : Int) ≤ (n1 : Int) := by omega
        have eqw2 : IntKind.i64.wrap (q2 : Int) = (q2 : Int) := IntWalk.i64_in _ (by omega)
        have eqw3 : IntKind.i64.wrap (n1 : Int) = (n1 : Int) := IntWalk.i64_in _ (by omega)
        have HN1 := Lib.hid hn1
        have hn'b : n' ≤ 2871 := by omega
        rw [← hwD]
        clear hwD hl6 hl6' hn6 hn' hn1 hq2 c4 e1 e2 f4 cl hHeld
        have c2 := HKD.out.at 2 rfl
        have c4 := HKD.out.at 4 rfl
        have cl := HKD.out.lt
        have f2 := HKD.out.free 2
        have hsD : bs + 1 ≤ wD.heap.size := cl
        have hsDl : bs + 1 ≤ (wD.alloc (.cells #[.int .i64 (q2 : Int)] 3)).drew.heap.size := Nat.le_trans hsD (al (Below.refl _ wD) _).size
        go_upto_region 9 with fail
        refine wp_region_held_drew (S := (fun w' => w'.cell? ⟨bs, 4, none⟩ = some (.slice a6 n' c6))) (by kernel_rfl) (by (try dsimp only); (first | assumption | go_keep)) (fun hHeld => ?_)
        refine wpAnyH_take (i := 0) (oi := (Oper.mk (some 46) (Op.fieldAddr 30 (Operand.tmp 7) 2) 0 "law.go:83" #[] none)) (v := ?_) rfl (by kernel_rfl) (by kernel_rfl) (by kernel_rfl) (fun _ _ _ h => h) (Or.inl ⟨by rfl, ?_⟩) (by assumption) ?_
        rotate_left
        · (intro w hSw; (try dsimp only at hSw); go_simp; first | done | with_reducible rfl)
        (try simp only [Act.put, List.setIfInBounds_toArray, List.set_cons_zero, List.set_cons_succ])
        refine wpAnyH_take (i := 2) (oi := (Oper.mk (some 48) (Op.fieldAddr 30 (Operand.tmp 7) 4) 0 "law.go:83" #[] none)) (v := ?_) rfl (by kernel_rfl) (by kernel_rfl) (by kernel_rfl) (fun _ _ _ h => h) (Or.inl ⟨by rfl, ?_⟩) (by assumption) ?_
        rotate_left
        · (intro w hSw; (try dsimp only at hSw); go_simp; first | done | with_reducible rfl)
        (try simp only [Act.put, List.setIfInBounds_toArray, List.set_cons_zero, List.set_cons_succ])
        refine wpAnyH_take (i := 3) (oi := (Oper.mk (some 49) (Op.load 23 (Operand.tmp 48)) 23 "law.go:83" #[Edge.mk 2 Ground.data] none)) (v := ?_) rfl (by kernel_rfl) (by kernel_rfl) (by kernel_rfl) (fun _ _ _ h => h) (Or.inl ⟨by rfl, ?_⟩) (by assumption) ?_
        rotate_left
        · (intro w hSw; (try dsimp only at hSw); go_simp; first | done | with_reducible rfl)
        (try simp only [Act.put, List.setIfInBounds_toArray, List.set_cons_zero, List.set_cons_succ])
        refine wpAnyH_take (i := 4) (oi := (Oper.mk (some 50) (Op.call (Call.mk (Callee.builtin Builtin.len) #[Operand.tmp 49] #[23])) 3 "law.go:83" #[Edge.mk 3 Ground.data] none)) (v := ?_) rfl (by kernel_rfl) (by kernel_rfl) (by kernel_rfl) (fun _ _ _ h => h) (Or.inl ⟨by rfl, ?_⟩) (by assumption) ?_
        rotate_left
        · (intro w hSw; (try dsimp only at hSw); go_simp; first | done | with_reducible rfl)
        (try simp only [Act.put, List.setIfInBounds_toArray, List.set_cons_zero, List.set_cons_succ])
        refine wpAnyH_take (i := 5) (oi := (Oper.mk (some 51) (Op.binOp BinOp.sub 3 (Operand.tmp 50) (Operand.const (Value.int IntKind.i64 1)) 3) 3 "law.go:83" #[Edge.mk 4 Ground.data] none)) (v := ?_) rfl (by kernel_rfl) (by kernel_rfl) (by kernel_rfl) (fun _ _ _ h => h) (Or.inl ⟨by rfl, ?_⟩) (by assumption) ?_
        rotate_left
        · (intro w hSw; (try dsimp only at hSw); go_simp; first | done | with_reducible rfl)
        (try simp only [Act.put, List.setIfInBounds_toArray, List.set_cons_zero, List.set_cons_succ])
        refine wpAnyH_take (i := 6) (oi := (Oper.mk (some 52) (Op.move (Operand.tmp 1)) 3 "law.go:83" #[] none)) (v := ?_) rfl (by kernel_rfl) (by kernel_rfl) (by kernel_rfl) (fun _ _ _ h => h) (Or.inl ⟨by rfl, ?_⟩) (by assumption) ?_
        rotate_left
        · (intro w hSw; (try dsimp only at hSw); go_simp; first | done | with_reducible rfl)
        (try simp only [Act.put, List.setIfInBounds_toArray, List.set_cons_zero, List.set_cons_succ])
        refine wpAnyH_take (i := 7) (oi := (Oper.mk (some 53) (Op.binOp BinOp.quo 3 (Operand.tmp 51) (Operand.tmp 52) 3) 3 "law.go:83" #[Edge.mk 5 Ground.data, Edge.mk 6 Ground.data] none)) (v := ?_) rfl (by kernel_rfl) (by kernel_rfl) (by kernel_rfl) (fun _ _ _ h => h) (Or.inl ⟨by rfl, ?_⟩) (by assumption) ?_
        rotate_left
        · (intro w hSw; (try dsimp only at hSw); go_simp; first | done | with_reducible rfl)
        (try simp only [Act.put, List.setIfInBounds_toArray, List.set_cons_zero, List.set_cons_succ])
        refine wpAnyH_ready (rs := [1, 8]) (by kernel_rfl) (by simp) ?_
        refine AllReadyH.cons (o := (Oper.mk (some 47) (Op.load 28 (Operand.tmp 46)) 28 "law.go:83" #[Edge.mk 0 Ground.data] none)) rfl (fun K hK => ?st1tb737x8) (AllReadyH.cons (o := (Oper.mk (some 54) (Op.buildSlice 28 1 #[(0, Operand.tmp 53)]) 28 "law.go:83" #[Edge.mk 7 Ground.data] none)) rfl (fun K hK => ?st8tb737x8) (AllReadyH.nil))
        case' st1tb737x8 =>
          go_simp
          skip
          refine hK.out _ _ (by (try dsimp only); (first | assumption | go_keep)) (fun hHeld => ?_)
          clear hK K
          (try simp only [Act.put, List.setIfInBounds_toArray, List.set_cons_zero, List.set_cons_succ])
          refine wpAnyH_ready (rs := [8]) (by kernel_rfl) (by simp) ?_
          refine AllReadyH.cons (o := (Oper.mk (some 54) (Op.buildSlice 28 1 #[(0, Operand.tmp 53)]) 28 "law.go:83" #[Edge.mk 7 Ground.data] none)) rfl (fun K hK => ?_) (AllReadyH.nil)
          go_simp
          skip
          refine hK.out _ _ (by (try dsimp only); (first | assumption | go_keep)) (fun hHeld => ?_)
          clear hK K
          (try simp only [Act.put, List.setIfInBounds_toArray, List.set_cons_zero, List.set_cons_succ])
          refine wpAnyH_ready (rs := [9]) (by kernel_rfl) (by simp) ?_
          refine AllReadyH.cons (o := (Oper.mk (some 55) (Op.call (Call.mk (Callee.builtin Builtin.append) #[Operand.tmp 47, Operand.tmp 54] #[28, 28])) 28 "law.go:83" #[Edge.mk 1 Ground.data, Edge.mk 8 Ground.data] none)) rfl (fun K hK => ?_) (AllReadyH.nil)
          (refine step_append_src _ (by rfl) (.tmp 47) (.tmp 54) 28 (by rfl) (bs + 1) 3 j3 (.int .i64 0) 8 Try.underlying28 HJ3.out hi0 hi1 hi2 (by rfl) _ k (encN (toL sz Q)) (by rfl) (own_below (HRD.out.row 1 rfl) ((al (Below.refl _ wD) _).trans (Quiet.below ⟨1, rfl⟩)) (Nat.le_refl _)) (some ⟨wD.heap.size, 0, none⟩) 1 1 [.int .i64 (q2 : Int)] (by rfl) (by rfl) (show VAt (World.drew _) _ _ from one_vat wD _ 3) (by simp [Value.oneCell']) (by unfold maxLen; omega) (by omega) hsDl ?_; intro v7 w7 hown7 hgrow7 hblk7; obtain ⟨a7, n7, c7, rfl⟩ := own_sliceC hown7; obtain ⟨d, f2, cl, d2, HKE, HRE, HBE⟩ := Rows.putC HKD.out HRD.out HBD.out ((al (Below.refl _ wD) _).trans (Quiet.below ⟨1, rfl⟩)) (Nat.lt_succ_self bs) (Nat.le_refl bs) 1 rfl hown7 hgrow7 (by simpa using hblk7) 2; have c2 := d 2 _ rfl; have c4 := d 4 _ rfl; have k4 := d2 4 _ rfl; clear d d2 hown7 hgrow7 hblk7)
          refine hK.out _ _ (by (try dsimp only); (first | assumption | go_keep)) (fun hHeld => ?_)
          clear hK K
          (try simp only [Act.put, List.setIfInBounds_toArray, List.set_cons_zero, List.set_cons_succ])
          refine wpAnyH_take (i := 10) (oi := (Oper.mk (some 56) (Op.fieldAddr 30 (Operand.tmp 7) 2) 0 "law.go:83" #[Edge.mk 0 Ground.phase, Edge.mk 1 Ground.phase, Edge.mk 2 Ground.phase, Edge.mk 3 Ground.phase, Edge.mk 4 Ground.phase, Edge.mk 5 Ground.phase, Edge.mk 6 Ground.phase, Edge.mk 7 Ground.phase, Edge.mk 8 Ground.phase, Edge.mk 9 Ground.phase] none)) (v := ?_) rfl (by kernel_rfl) (by kernel_rfl) (by kernel_rfl) (fun _ _ _ h => h) (Or.inl ⟨by rfl, ?_⟩) (by assumption) ?_
          rotate_left
          · (intro w hSw; (try dsimp only at hSw); go_simp; first | done | with_reducible rfl)
          (try simp only [Act.put, List.setIfInBounds_toArray, List.set_cons_zero, List.set_cons_succ])
          refine wpAnyH_ready (rs := [11]) (by kernel_rfl) (by simp) ?_
          refine AllReadyH.cons (o := (Oper.mk none (Op.store 28 (Operand.tmp 56) (Operand.tmp 55)) 0 "law.go:83" #[Edge.mk 10 Ground.data, Edge.mk 9 Ground.data, Edge.mk 9 Ground.chain, Edge.mk 0 Ground.phase, Edge.mk 1 Ground.phase, Edge.mk 2 Ground.phase, Edge.mk 3 Ground.phase, Edge.mk 4 Ground.phase, Edge.mk 5 Ground.phase, Edge.mk 6 Ground.phase, Edge.mk 7 Ground.phase, Edge.mk 8 Ground.phase, Edge.mk 9 Ground.phase] none)) rfl (fun K hK => ?_) (AllReadyH.nil)
          go_simp
          skip
          refine hK.out _ _ (by (try dsimp only); (first | assumption | go_keep)) (fun hHeld => ?_)
          clear hK K
          (try simp only [Act.put, List.setIfInBounds_toArray, List.set_cons_zero, List.set_cons_succ])
          refine wpAnyH_done (by kernel_rfl) ?_ _
        case' st8tb737x8 =>
          go_simp
          skip
          refine hK.out _ _ (by (try dsimp only); (first | assumption | go_keep)) (fun hHeld => ?_)
          clear hK K
          (try simp only [Act.put, List.setIfInBounds_toArray, List.set_cons_zero, List.set_cons_succ])
          refine wpAnyH_ready (rs := [1]) (by kernel_rfl) (by simp) ?_
          refine AllReadyH.cons (o := (Oper.mk (some 47) (Op.load 28 (Operand.tmp 46)) 28 "law.go:83" #[Edge.mk 0 Ground.data] none)) rfl (fun K hK => ?_) (AllReadyH.nil)
          go_simp
          skip
          refine hK.out _ _ (by (try dsimp only); (first | assumption | go_keep)) (fun hHeld => ?_)
          clear hK K
          (try simp only [Act.put, List.setIfInBounds_toArray, List.set_cons_zero, List.set_cons_succ])
          refine wpAnyH_ready (rs := [9]) (by kernel_rfl) (by simp) ?_
          refine AllReadyH.cons (o := (Oper.mk (some 55) (Op.call (Call.mk (Callee.builtin Builtin.append) #[Operand.tmp 47, Operand.tmp 54] #[28, 28])) 28 "law.go:83" #[Edge.mk 1 Ground.data, Edge.mk 8 Ground.data] none)) rfl (fun K hK => ?_) (AllReadyH.nil)
          (refine step_append_src _ (by rfl) (.tmp 47) (.tmp 54) 28 (by rfl) (bs + 1) 3 j3 (.int .i64 0) 8 Try.underlying28 HJ3.out hi0 hi1 hi2 (by rfl) _ k (encN (toL sz Q)) (by rfl) (own_below (HRD.out.row 1 rfl) ((al (Below.refl _ wD) _).trans (Quiet.below ⟨1, rfl⟩)) (Nat.le_refl _)) (some ⟨wD.heap.size, 0, none⟩) 1 1 [.int .i64 (q2 : Int)] (by rfl) (by rfl) (show VAt (World.drew _) _ _ from one_vat wD _ 3) (by simp [Value.oneCell']) (by unfold maxLen; omega) (by omega) hsDl ?_; intro v7 w7 hown7 hgrow7 hblk7; obtain ⟨a7, n7, c7, rfl⟩ := own_sliceC hown7; obtain ⟨d, f2, cl, d2, HKE, HRE, HBE⟩ := Rows.putC HKD.out HRD.out HBD.out ((al (Below.refl _ wD) _).trans (Quiet.below ⟨1, rfl⟩)) (Nat.lt_succ_self bs) (Nat.le_refl bs) 1 rfl hown7 hgrow7 (by simpa using hblk7) 2; have c2 := d 2 _ rfl; have c4 := d 4 _ rfl; have k4 := d2 4 _ rfl; clear d d2 hown7 hgrow7 hblk7)
          refine hK.out _ _ (by (try dsimp only); (first | assumption | go_keep)) (fun hHeld => ?_)
          clear hK K
          (try simp only [Act.put, List.setIfInBounds_toArray, List.set_cons_zero, List.set_cons_succ])
          refine wpAnyH_take (i := 10) (oi := (Oper.mk (some 56) (Op.fieldAddr 30 (Operand.tmp 7) 2) 0 "law.go:83" #[Edge.mk 0 Ground.phase, Edge.mk 1 Ground.phase, Edge.mk 2 Ground.phase, Edge.mk 3 Ground.phase, Edge.mk 4 Ground.phase, Edge.mk 5 Ground.phase, Edge.mk 6 Ground.phase, Edge.mk 7 Ground.phase, Edge.mk 8 Ground.phase, Edge.mk 9 Ground.phase] none)) (v := ?_) rfl (by kernel_rfl) (by kernel_rfl) (by kernel_rfl) (fun _ _ _ h => h) (Or.inl ⟨by rfl, ?_⟩) (by assumption) ?_
          rotate_left
          · (intro w hSw; (try dsimp only at hSw); go_simp; first | done | with_reducible rfl)
          (try simp only [Act.put, List.setIfInBounds_toArray, List.set_cons_zero, List.set_cons_succ])
          refine wpAnyH_ready (rs := [11]) (by kernel_rfl) (by simp) ?_
          refine AllReadyH.cons (o := (Oper.mk none (Op.store 28 (Operand.tmp 56) (Operand.tmp 55)) 0 "law.go:83" #[Edge.mk 10 Ground.data, Edge.mk 9 Ground.data, Edge.mk 9 Ground.chain, Edge.mk 0 Ground.phase, Edge.mk 1 Ground.phase, Edge.mk 2 Ground.phase, Edge.mk 3 Ground.phase, Edge.mk 4 Ground.phase, Edge.mk 5 Ground.phase, Edge.mk 6 Ground.phase, Edge.mk 7 Ground.phase, Edge.mk 8 Ground.phase, Edge.mk 9 Ground.phase] none)) rfl (fun K hK => ?_) (AllReadyH.nil)
          go_simp
          skip
          refine hK.out _ _ (by (try dsimp only); (first | assumption | go_keep)) (fun hHeld => ?_)
          clear hK K
          (try simp only [Act.put, List.setIfInBounds_toArray, List.set_cons_zero, List.set_cons_succ])
          refine wpAnyH_done (by kernel_rfl) ?_ _
        all_goals
          go_wp2_with fail
          go_roundw
          case rel => exact ⟨k + 1, _, _, _, _, by omega, by go_num, HKE, Lib.hid (by
            rw [List.take_succ_eq_append_getElem (by rw [← HNP.out]; exact hlt), ← HPP.out, ← HQ.out]
            have h9 := HRE.out
            rw [HN'.out] at h9
            rw [HN'.out]
            exact cutRows_succ HQL.out HX.out HN.out HM.out HQQ.out HQ2.out h9), HBE⟩
          case measure => simp [intOf]; omega
    · obtain rfl : np = k := by omega
      have g1 : ¬ (np : Int) < (np : Int) := by omega
      obtain ⟨x, hx⟩ : ∃ x, x = P.flatten := ⟨_, rfl⟩
      have hxl : x.length ≤ 2800 := by
        have h9 := flat_take_le HL.out np
        rw [List.take_of_length_le (by rw [← HNP.out]; exact Nat.le_refl _), ← hx] at h9
        omega
      obtain ⟨n, hn⟩ : ∃ n, n = x.length := ⟨_, rfl⟩
      obtain ⟨bn, hbn⟩ : ∃ bn, bn = starts 0 P := ⟨_, rfl⟩
      have hbl : bn.length = np := by rw [hbn, starts_len, HNP.out]
      rw [List.take_of_length_le (by rw [← HNP.out]; exact Nat.le_refl _)] at HR
      have HRR := HR
      unfold cutRows at HRR
      rw [← hx, ← hn, ← HNP.out, ← hbn] at HRR
      obtain ⟨aF, nF, cF, rfl⟩ := own_sliceC (HRR.out.row 0 rfl)
      obtain ⟨aT, nT, cT, rfl⟩ := own_sliceC (HRR.out.row 1 rfl)
      obtain ⟨-, aB, cB, he, hcB, hmB, hVB, -⟩ := VAt.of_row (HRR.out.row 3 rfl)
      dsimp only at he
      have hel : (encN bn).length = np := by simp [encN, hbl]
      rw [hel] at he hcB
      subst he
      obtain ⟨-, aS, cS, he, hcS, hmS, hAS⟩ := BAt.of_row (HRR.out.row 2 rfl)
      dsimp only at he
      subst he
      rw [← hn] at HRR hcS HK
      have hxs := own_shape (HRR.out.row 2 rfl)
      have HXS : Hid ((aS = none ∧ cS = 0 ∧ n = 0) ∨ ∃ g, aS = some ⟨g, 0, none⟩) := Lib.hid (by
        rcases hxs with h | ⟨g, h, -⟩
        · exact .inl h
        · exact .inr ⟨g, h⟩)
      have HX := Lib.hid hx
      have HN := Lib.hid hn
      have HBN := Lib.hid hbn
      have HBL := Lib.hid hbl
      have hn28 : n ≤ 2800 := by omega
      obtain ⟨gS, hgS⟩ : ∃ g : Nat, n = 0 ∨ aS = some ⟨g, 0, none⟩ := by
        rcases HXS.out with h | ⟨g, h⟩
        · exact ⟨0, .inl h.2.2⟩
        · exact ⟨g, .inr h⟩
      have HGS := Lib.hid hgS
      have HR5 := Lib.hid (HRR.out.cons_nil 37 3)
      obtain ⟨j7, hj7, hf0, hf1, hf2⟩ := info_parts info37
      have HJ7 := Lib.hid hj7
      clear hxl hx hn hbn hbl hel hVB hAS hxs hgS hj7
      go_wp2_with fail
      go_loopw [9] (fun v9 wr2 => ∃ (j : Nat) (vF : Value), v9 = .int .i64 ((j * sz : Nat) : Int) ∧ (j = 0 ∨ (j - 1) * sz < n) ∧ Hid (Blk wr2 bs 30 [vF, .slice aF nF cF, .slice aT nT cT, .slice av np capv, .slice aS n cS, .slice aB np cB]) ∧ Hid (Rows wr2 (bs + 1) [⟨vF, 37, 3, j, fcells gS cS sz start n bn j⟩, ⟨.slice aF nF cF, 3, 1, np, encN (fromL sz P)⟩, ⟨.slice aT nT cT, 3, 1, np, encN (toL sz P)⟩, ⟨.slice aS n cS, 5, 1, n, encB x⟩, ⟨.slice aB np cB, 3, 1, np, encN bn⟩]) ∧ Hid (Below bs w1 wr2)) (fun v9 _ => n - (intOf v9).toNat)
      case atStart => exact ⟨0, _, by rw [Nat.zero_mul]; rfl, .inl rfl, HK, HR5, HB⟩
      case round =>
        clear HK HR HRR HR5 HB
        obtain ⟨j, vF, rfl, hj1, HK, HR, HB⟩ := hrel
        obtain ⟨at_, hat⟩ : ∃ x, x = j * sz := ⟨_, rfl⟩
        rw [← hat]
        have HAT := Lib.hid hat
        have HJ1 := Lib.hid hj1
        obtain ⟨aE, nE, cE, rfl⟩ := own_sliceC (HR.out.row 0 rfl)
        have hatb : at_ < n + sz := by
          rcases hj1 with h | h
          · subst h; rw [hat]; omega
          · cases j with
            | zero => rw [hat]; omega
            | succ j => rw [hat, Nat.succ_mul]; simp only [Nat.add_sub_cancel] at h; omega
        have hjb : j ≤ at_ := by rw [hat]; exact Nat.le_mul_of_pos_right j hz
        clear hat hj1
        have c4 := HK.out.at 4 rfl
        have c5 := HK.out.at 5 rfl
        have cl := HK.out.lt
        by_cases hlt2 : at_ < n
        · have g2 : (at_ : Int) < (n : Int) := by omega
          obtain rfl : aS = some ⟨gS, 0, none⟩ := by
            rcases HGS.out with h | h
            · omega
            · exact h
          obtain ⟨-, aB', cB', he, -, -, hVB, -⟩ := VAt.of_row (HR.out.row 4 rfl)
          simp only [Value.slice.injEq] at he
          obtain ⟨rfl, -, rfl⟩ := he
          have HVB := Lib.hid hVB
          clear hVB
          obtain ⟨ee, hee⟩ : ∃ e, e = at_ + sz := ⟨_, rfl⟩
          have hev : (at_ : Int) + (sz : Int) = (ee : Int) := by omega
          have HEE := Lib.hid hee
          have hee2 : ee ≤ 2900 := by omega
          have hae : at_ ≤ ee := by omega
          clear hee
          go_wp2_with fail
          go_loop [10, 11] (fun f i => ∃ jj : Nat, jj ≤ np ∧ i = .int .i64 ((jj : Int) - 1) ∧ f = .int .i64 (firstL (bn.drop jj) at_ ee)) (fun _ i => (intOf i + 1).toNat)
          case atStart => exact ⟨np, Nat.le_refl _, by first | rfl | (congr), by rw [← HBL.out, List.drop_length]; rfl⟩
          case round =>
            obtain ⟨jj, hjj, rfl, rfl⟩ := hrel
            by_cases hj0 : 0 < jj
            · obtain ⟨j2, rfl⟩ : ∃ j2, jj = j2 + 1 := ⟨jj - 1, by omega⟩
              have hjl : j2 < bn.length := by rw [HBL.out]; omega
              have ejj : ((j2 + 1 : Nat) : Int) - 1 = (j2 : Int) := by omega
              obtain ⟨bb, obb, hab, hcj⟩ := HVB.out.nat hjl
              have hfc := firstL_cons bn[j2] (bn.drop (j2 + 1)) at_ ee
              rw [← drop_cons hjl] at hfc
              obtain ⟨bj, hbj⟩ : ∃ bj, bj = bn[j2] := ⟨_, rfl⟩
              rw [← hbj] at hcj hfc
              obtain ⟨fo, hfo⟩ : ∃ fo, fo = firstL (bn.drop (j2 + 1)) at_ ee := ⟨_, rfl⟩
              rw [← hfo] at hfc
              rw [ejj, ← hfo]
              have HFC := Lib.hid hfc
              have k1 : (0 : Int) ≤ (j2 : Int) := by omega
              have k2 : (j2 : Int) < (np : Int) := by omega
              have k3 : (j2 : Int) ≤ 40 := by omega
              clear hfc hfo hbj ejj
              subst hab
              by_cases q1 : at_ ≤ bj
              · have i2 : (at_ : Int) ≤ (bj : Int) := by omega
                by_cases q2 : bj < ee
                · have i3 : (bj : Int) < (ee : Int) := by omega
                  go_wp2_with fail
                  go_round
                  case rel => exact ⟨j2, by omega, rfl, by rw [HFC.out, if_pos ⟨q1, q2⟩]; exact congrArg (Value.int .i64) (by omega)⟩
                  case measure => simp [intOf] <;> omega
                · have i3 : ¬ (bj : Int) < (ee : Int) := by omega
                  go_wp2_with fail
                  go_round
                  case rel => exact ⟨j2, by omega, rfl, by rw [HFC.out, if_neg (fun h => q2 h.2)]⟩
                  case measure => simp [intOf] <;> omega
              · have i2 : ¬ (at_ : Int) ≤ (bj : Int) := by omega
                go_wp2_with fail
                go_round
                case rel => exact ⟨j2, by omega, rfl, by rw [HFC.out, if_neg (fun h => q1 h.1)]⟩
                case measure => simp [intOf] <;> omega
            · obtain rfl : jj = 0 := by omega
              rw [List.drop_zero]
              obtain ⟨ff, hff⟩ : ∃ ff, ff = firstL bn at_ ee := ⟨_, rfl⟩
              rw [← hff]
              have HFF := Lib.hid hff
              clear hff
              have hdj : at_ / sz = j := by rw [HAT.out]; exact Nat.mul_div_cancel j hz
              have eqd : (at_ : Int).tdiv (sz : Int) = (j : Int) := (show (at_ : Int).tdiv (sz : Int) = ((at_ / sz : Nat) : Int) from rfl).trans (by rw [hdj])
              have eq1 : (at_ : Int) / (sz : Int) = (j : Int) := (show (at_ : Int) / (sz : Int) = ((at_ / sz : Nat) : Int) from rfl).trans (by rw [hdj])
              obtain ⟨sj, hsj⟩ : ∃ x, x = start + j := ⟨_, rfl⟩
              obtain ⟨cc, hcc⟩ : ∃ x, x = sj % 256 := ⟨_, rfl⟩
              have HCC : Hid (cc = (start + j) % 256) := Lib.hid (by rw [hcc, hsj])
              have jsum : (start : Int) + (j : Int) = (sj : Int) := by omega
              have esm : (sj : Int).tmod 256 = (cc : Int) := by rw [hcc]; rfl
              have esm2 : (sj : Int) % 256 = (cc : Int) := by rw [hcc]; rfl
              have hsjb : sj ≤ 3100 := by omega
              have hccb : cc < 256 := by omega
              have ew1 : IntKind.i64.wrap (j : Int) = (j : Int) := IntWalk.i64_in _ (by omega)
              have ew2 : IntKind.i64.wrap (sj : Int) = (sj : Int) := IntWalk.i64_in _ (by omega)
              have ew3 : IntKind.i64.wrap (cc : Int) = (cc : Int) := IntWalk.i64_in _ (by omega)
              have ew4 : IntKind.i64.wrap (ee : Int) = (ee : Int) := IntWalk.i64_in _ (by omega)
              have ez : ((sz : Int) == 0) = false := by rw [beq_eq_false_iff_ne]; omega
              have hsz0 : ¬ (sz : Int) = 0 := by omega
              have hszn : ¬ sz = 0 := by omega
              have hsz9 : (0 : Int) < (sz : Int) := by omega
              have hx0 : (0 : Int) ≤ (at_ : Int) := by omega
              have hsj0 : (0 : Int) ≤ (sj : Int) := by omega
              have c0 := HK.out.at 0 rfl
              have f0 := HK.out.free 0
              have hsE : bs + 1 ≤ wr.heap.size := cl
              have ecx : ¬ cS = at_ := by omega
              have hcx9 : cS ≤ 9223372036854775807 := hmS
              clear hdj hsj hcc c5
              go_upto_region 19 with fail
              by_cases hmin : ee ≤ n
              · have h66 : (ee : Int) ≤ (n : Int) := by omega
                have hnl : ¬ n < ee := by omega
                have h67 : ¬ (n : Int) < (ee : Int) := by omega
                have hE : at_ ≤ ee := by omega
                have hE2 : ee ≤ cS := by omega
                have hme : Hid (ee - at_ = min sz (n - at_)) := Lib.hid (by have := HEE.out; omega)
                have i4 : (at_ : Int) ≤ (ee : Int) := by omega
                have i5 : (ee : Int) ≤ (cS : Int) := by omega
                obtain ⟨ob, hob⟩ : ∃ o, o = Obj.cells #[.int .i64 (cc : Int), .int .i64 ff, .slice (some ⟨gS, at_, none⟩) (ee - at_) (cS - at_)] 37 := ⟨_, rfl⟩
                have hsEl : bs + 1 ≤ (wr.alloc ob).drew.heap.size := Nat.le_trans hsE (al (Below.refl _ wr) _).size
                rw [hob] at hsEl
                clear hob
                refine wp_region_held_drew (S := (fun w' => w'.cell? ⟨bs, 4, none⟩ = some (.slice (some ⟨gS, 0, none⟩) n cS))) (by kernel_rfl) (by (try dsimp only); (first | assumption | go_keep)) (fun hHeld => ?_)
                refine wpAnyH_take (i := 0) (oi := (Oper.mk (some 98) (Op.fieldAddr 30 (Operand.tmp 7) 0) 0 "law.go:92" #[] none)) (v := ?_) rfl (by kernel_rfl) (by kernel_rfl) (by kernel_rfl) (fun _ _ _ h => h) (Or.inl ⟨by rfl, ?_⟩) (by assumption) ?_
                rotate_left
                · (intro w hSw; (try dsimp only at hSw); go_simp; first | done | with_reducible rfl)
                (try simp only [Act.put, List.setIfInBounds_toArray, List.set_cons_zero, List.set_cons_succ])
                refine wpAnyH_take (i := 2) (oi := (Oper.mk (some 100) (Op.move (Operand.tmp 2)) 3 "law.go:92" #[] none)) (v := ?_) rfl (by kernel_rfl) (by kernel_rfl) (by kernel_rfl) (fun _ _ _ h => h) (Or.inl ⟨by rfl, ?_⟩) (by assumption) ?_
                rotate_left
                · (intro w hSw; (try dsimp only at hSw); go_simp; first | done | with_reducible rfl)
                (try simp only [Act.put, List.setIfInBounds_toArray, List.set_cons_zero, List.set_cons_succ])
                refine wpAnyH_take (i := 3) (oi := (Oper.mk (some 101) (Op.move (Operand.tmp 9)) 3 "law.go:92" #[] none)) (v := ?_) rfl (by kernel_rfl) (by kernel_rfl) (by kernel_rfl) (fun _ _ _ h => h) (Or.inl ⟨by rfl, ?_⟩) (by assumption) ?_
                rotate_left
                · (intro w hSw; (try dsimp only at hSw); go_simp; first | done | with_reducible rfl)
                (try simp only [Act.put, List.setIfInBounds_toArray, List.set_cons_zero, List.set_cons_succ])
                refine wpAnyH_take (i := 4) (oi := (Oper.mk (some 102) (Op.move (Operand.tmp 1)) 3 "law.go:92" #[] none)) (v := ?_) rfl (by kernel_rfl) (by kernel_rfl) (by kernel_rfl) (fun _ _ _ h => h) (Or.inl ⟨by rfl, ?_⟩) (by assumption) ?_
                rotate_left
                · (intro w hSw; (try dsimp only at hSw); go_simp; first | done | with_reducible rfl)
                (try simp only [Act.put, List.setIfInBounds_toArray, List.set_cons_zero, List.set_cons_succ])
                refine wpAnyH_take (i := 5) (oi := (Oper.mk (some 103) (Op.binOp BinOp.quo 3 (Operand.tmp 101) (Operand.tmp 102) 3) 3 "law.go:92" #[Edge.mk 3 Ground.data, Edge.mk 4 Ground.data] none)) (v := ?_) rfl (by kernel_rfl) (by kernel_rfl) (by kernel_rfl) (fun _ _ _ h => h) (Or.inl ⟨by rfl, ?_⟩) (by assumption) ?_
                rotate_left
                · (intro w hSw; (try dsimp only at hSw); go_simp; first | done | with_reducible rfl)
                (try simp only [Act.put, List.setIfInBounds_toArray, List.set_cons_zero, List.set_cons_succ])
                refine wpAnyH_take (i := 6) (oi := (Oper.mk (some 104) (Op.binOp BinOp.add 3 (Operand.tmp 100) (Operand.tmp 103) 3) 3 "law.go:92" #[Edge.mk 2 Ground.data, Edge.mk 5 Ground.data] none)) (v := ?_) rfl (by kernel_rfl) (by kernel_rfl) (by kernel_rfl) (fun _ _ _ h => h) (Or.inl ⟨by rfl, ?_⟩) (by assumption) ?_
                rotate_left
                · (intro w hSw; (try dsimp only at hSw); go_simp; first | done | with_reducible rfl)
                (try simp only [Act.put, List.setIfInBounds_toArray, List.set_cons_zero, List.set_cons_succ])
                refine wpAnyH_take (i := 7) (oi := (Oper.mk (some 105) (Op.binOp BinOp.rem 3 (Operand.tmp 104) (Operand.const (Value.int IntKind.i64 256)) 3) 3 "law.go:92" #[Edge.mk 6 Ground.data] none)) (v := ?_) rfl (by kernel_rfl) (by kernel_rfl) (by kernel_rfl) (fun _ _ _ h => h) (Or.inl ⟨by rfl, ?_⟩) (by assumption) ?_
                rotate_left
                · (intro w hSw; (try dsimp only at hSw); go_simp; first | done | with_reducible rfl)
                (try simp only [Act.put, List.setIfInBounds_toArray, List.set_cons_zero, List.set_cons_succ])
                refine wpAnyH_take (i := 8) (oi := (Oper.mk (some 106) (Op.move (Operand.tmp 10)) 3 "law.go:92" #[] none)) (v := ?_) rfl (by kernel_rfl) (by kernel_rfl) (by kernel_rfl) (fun _ _ _ h => h) (Or.inl ⟨by rfl, ?_⟩) (by assumption) ?_
                rotate_left
                · (intro w hSw; (try dsimp only at hSw); go_simp; first | done | with_reducible rfl)
                (try simp only [Act.put, List.setIfInBounds_toArray, List.set_cons_zero, List.set_cons_succ])
                refine wpAnyH_take (i := 9) (oi := (Oper.mk (some 107) (Op.fieldAddr 30 (Operand.tmp 7) 4) 0 "law.go:92" #[] none)) (v := ?_) rfl (by kernel_rfl) (by kernel_rfl) (by kernel_rfl) (fun _ _ _ h => h) (Or.inl ⟨by rfl, ?_⟩) (by assumption) ?_
                rotate_left
                · (intro w hSw; (try dsimp only at hSw); go_simp; first | done | with_reducible rfl)
                (try simp only [Act.put, List.setIfInBounds_toArray, List.set_cons_zero, List.set_cons_succ])
                refine wpAnyH_take (i := 10) (oi := (Oper.mk (some 108) (Op.load 23 (Operand.tmp 107)) 23 "law.go:92" #[Edge.mk 9 Ground.data] none)) (v := ?_) rfl (by kernel_rfl) (by kernel_rfl) (by kernel_rfl) (fun _ _ _ h => h) (Or.inl ⟨by rfl, ?_⟩) (by assumption) ?_
                rotate_left
                · (intro w hSw; (try dsimp only at hSw); go_simp; first | done | with_reducible rfl)
                (try simp only [Act.put, List.setIfInBounds_toArray, List.set_cons_zero, List.set_cons_succ])
                refine wpAnyH_take (i := 11) (oi := (Oper.mk (some 109) (Op.move (Operand.tmp 9)) 3 "law.go:92" #[] none)) (v := ?_) rfl (by kernel_rfl) (by kernel_rfl) (by kernel_rfl) (fun _ _ _ h => h) (Or.inl ⟨by rfl, ?_⟩) (by assumption) ?_
                rotate_left
                · (intro w hSw; (try dsimp only at hSw); go_simp; first | done | with_reducible rfl)
                (try simp only [Act.put, List.setIfInBounds_toArray, List.set_cons_zero, List.set_cons_succ])
                refine wpAnyH_take (i := 12) (oi := (Oper.mk (some 110) (Op.move (Operand.tmp 9)) 3 "law.go:92" #[] none)) (v := ?_) rfl (by kernel_rfl) (by kernel_rfl) (by kernel_rfl) (fun _ _ _ h => h) (Or.inl ⟨by rfl, ?_⟩) (by assumption) ?_
                rotate_left
                · (intro w hSw; (try dsimp only at hSw); go_simp; first | done | with_reducible rfl)
                (try simp only [Act.put, List.setIfInBounds_toArray, List.set_cons_zero, List.set_cons_succ])
                refine wpAnyH_take (i := 13) (oi := (Oper.mk (some 111) (Op.move (Operand.tmp 1)) 3 "law.go:92" #[] none)) (v := ?_) rfl (by kernel_rfl) (by kernel_rfl) (by kernel_rfl) (fun _ _ _ h => h) (Or.inl ⟨by rfl, ?_⟩) (by assumption) ?_
                rotate_left
                · (intro w hSw; (try dsimp only at hSw); go_simp; first | done | with_reducible rfl)
                (try simp only [Act.put, List.setIfInBounds_toArray, List.set_cons_zero, List.set_cons_succ])
                refine wpAnyH_take (i := 14) (oi := (Oper.mk (some 112) (Op.binOp BinOp.add 3 (Operand.tmp 110) (Operand.tmp 111) 3) 3 "law.go:92" #[Edge.mk 12 Ground.data, Edge.mk 13 Ground.data] none)) (v := ?_) rfl (by kernel_rfl) (by kernel_rfl) (by kernel_rfl) (fun _ _ _ h => h) (Or.inl ⟨by rfl, ?_⟩) (by assumption) ?_
                rotate_left
                · (intro w hSw; (try dsimp only at hSw); go_simp; first | done | with_reducible rfl)
                (try simp only [Act.put, List.setIfInBounds_toArray, List.set_cons_zero, List.set_cons_succ])
                refine wpAnyH_take (i := 15) (oi := (Oper.mk (some 113) (Op.fieldAddr 30 (Operand.tmp 7) 4) 0 "law.go:92" #[] none)) (v := ?_) rfl (by kernel_rfl) (by kernel_rfl) (by kernel_rfl) (fun _ _ _ h => h) (Or.inl ⟨by rfl, ?_⟩) (by assumption) ?_
                rotate_left
                · (intro w hSw; (try dsimp only at hSw); go_simp; first | done | with_reducible rfl)
                (try simp only [Act.put, List.setIfInBounds_toArray, List.set_cons_zero, List.set_cons_succ])
                refine wpAnyH_take (i := 16) (oi := (Oper.mk (some 114) (Op.load 23 (Operand.tmp 113)) 23 "law.go:92" #[Edge.mk 15 Ground.data] none)) (v := ?_) rfl (by kernel_rfl) (by kernel_rfl) (by kernel_rfl) (fun _ _ _ h => h) (Or.inl ⟨by rfl, ?_⟩) (by assumption) ?_
                rotate_left
                · (intro w hSw; (try dsimp only at hSw); go_simp; first | done | with_reducible rfl)
                (try simp only [Act.put, List.setIfInBounds_toArray, List.set_cons_zero, List.set_cons_succ])
                refine wpAnyH_take (i := 17) (oi := (Oper.mk (some 115) (Op.call (Call.mk (Callee.builtin Builtin.len) #[Operand.tmp 114] #[23])) 3 "law.go:92" #[Edge.mk 16 Ground.data] none)) (v := ?_) rfl (by kernel_rfl) (by kernel_rfl) (by kernel_rfl) (fun _ _ _ h => h) (Or.inl ⟨by rfl, ?_⟩) (by assumption) ?_
                rotate_left
                · (intro w hSw; (try dsimp only at hSw); go_simp; first | done | with_reducible rfl)
                (try simp only [Act.put, List.setIfInBounds_toArray, List.set_cons_zero, List.set_cons_succ])
                refine wpAnyH_take (i := 18) (oi := (Oper.mk (some 116) (Op.call (Call.mk (Callee.builtin Builtin.min) #[Operand.tmp 112, Operand.tmp 115] #[3, 3])) 3 "law.go:92" #[Edge.mk 14 Ground.data, Edge.mk 17 Ground.data] none)) (v := ?_) rfl (by kernel_rfl) (by kernel_rfl) (by kernel_rfl) (fun _ _ _ h => h) (Or.inl ⟨by rfl, ?_⟩) (by assumption) ?_
                rotate_left
                · (intro w hSw; (try dsimp only at hSw); go_simp; first | done | with_reducible rfl)
                (try simp only [Act.put, List.setIfInBounds_toArray, List.set_cons_zero, List.set_cons_succ])
                refine wpAnyH_take (i := 19) (oi := (Oper.mk (some 117) (Op.slice 23 (Operand.tmp 108) (some (Operand.tmp 109)) (some (Operand.tmp 116)) none) 23 "law.go:92" #[Edge.mk 10 Ground.data, Edge.mk 11 Ground.data, Edge.mk 18 Ground.data] none)) (v := ?_) rfl (by kernel_rfl) (by kernel_rfl) (by kernel_rfl) (fun _ _ _ h => h) (Or.inl ⟨by rfl, ?_⟩) (by assumption) ?_
                rotate_left
                · (intro w hSw; (try dsimp only at hSw); go_simp; first | done | with_reducible rfl)
                (try simp only [Act.put, List.setIfInBounds_toArray, List.set_cons_zero, List.set_cons_succ])
                refine wpAnyH_take (i := 20) (oi := (Oper.mk (some 118) (Op.build 37 #[(0, Operand.tmp 105), (1, Operand.tmp 106), (2, Operand.tmp 117)]) 37 "law.go:92" #[Edge.mk 7 Ground.data, Edge.mk 8 Ground.data, Edge.mk 19 Ground.data] none)) (v := ?_) rfl (by kernel_rfl) (by kernel_rfl) (by kernel_rfl) (fun _ _ _ h => h) (Or.inl ⟨by rfl, ?_⟩) (by assumption) ?_
                rotate_left
                · (intro w hSw; (try dsimp only at hSw); go_simp; first | done | with_reducible rfl)
                (try simp only [Act.put, List.setIfInBounds_toArray, List.set_cons_zero, List.set_cons_succ])
                refine wpAnyH_ready (rs := [1, 21]) (by kernel_rfl) (by simp) ?_
                refine AllReadyH.cons (o := (Oper.mk (some 99) (Op.load 27 (Operand.tmp 98)) 27 "law.go:92" #[Edge.mk 0 Ground.data] none)) rfl (fun K hK => ?st1ta970x21) (AllReadyH.cons (o := (Oper.mk (some 119) (Op.buildSlice 27 1 #[(0, Operand.tmp 118)]) 27 "law.go:92" #[Edge.mk 20 Ground.data] none)) rfl (fun K hK => ?st21ta970x21) (AllReadyH.nil))
                case' st1ta970x21 =>
                  go_simp
                  skip
                  refine hK.out _ _ (by (try dsimp only); (first | assumption | go_keep)) (fun hHeld => ?_)
                  clear hK K
                  (try simp only [Act.put, List.setIfInBounds_toArray, List.set_cons_zero, List.set_cons_succ])
                  refine wpAnyH_ready (rs := [21]) (by kernel_rfl) (by simp) ?_
                  refine AllReadyH.cons (o := (Oper.mk (some 119) (Op.buildSlice 27 1 #[(0, Operand.tmp 118)]) 27 "law.go:92" #[Edge.mk 20 Ground.data] none)) rfl (fun K hK => ?_) (AllReadyH.nil)
                  go_simp
                  skip
                  refine hK.out _ _ (by (try dsimp only); (first | assumption | go_keep)) (fun hHeld => ?_)
                  clear hK K
                  (try simp only [Act.put, List.setIfInBounds_toArray, List.set_cons_zero, List.set_cons_succ])
                  refine wpAnyH_ready (rs := [22]) (by kernel_rfl) (by simp) ?_
                  refine AllReadyH.cons (o := (Oper.mk (some 120) (Op.call (Call.mk (Callee.builtin Builtin.append) #[Operand.tmp 99, Operand.tmp 119] #[27, 27])) 27 "law.go:92" #[Edge.mk 1 Ground.data, Edge.mk 21 Ground.data] none)) rfl (fun K hK => ?_) (AllReadyH.nil)
                  (refine step_append_many _ (by rfl) (.tmp 99) (.tmp 119) 27 (by rfl) (bs + 1) 37 j7 (.agg #[.int .i64 0, .int .i64 0, .slice none 0 0]) 3 40 Try.underlying27 HJ7.out hf0 hf1 hf2 (by rfl) (by decide) _ j (fcells gS cS sz start n bn j) (by rfl) (own_below (HR.out.row 0 rfl) ((al (Below.refl _ wr) _).trans (Quiet.below ⟨1, rfl⟩)) (Nat.le_refl _)) ⟨wr.heap.size, 0, none⟩ 1 1 [.int .i64 (cc : Int), .int .i64 ff, .slice (some ⟨gS, at_, none⟩) (ee - at_) (cS - at_)] (by rfl) (by rfl) (news3 wr _ _ _ 37) (by simp [Value.oneCell']) (by unfold maxLen; omega) (by omega) hsEl ?_; intro v9 w9 hown9 hgrow9 hblk9; obtain ⟨a9, n9, c9, rfl⟩ := own_sliceC hown9; obtain ⟨d, f0, cl, d2, HKF, HRF, HBF⟩ := Rows.putC HK.out HR.out HB.out ((al (Below.refl _ wr) _).trans (Quiet.below ⟨1, rfl⟩)) (Nat.lt_succ_self bs) (Nat.le_refl bs) 0 rfl hown9 hgrow9 (by simpa using hblk9) 0; have c0 := d 0 _ rfl; have c4 := d 4 _ rfl; have k4 := d2 4 _ rfl; clear d d2 hown9 hgrow9 hblk9)
                  refine hK.out _ _ (by (try dsimp only); (first | assumption | go_keep)) (fun hHeld => ?_)
                  clear hK K
                  (try simp only [Act.put, List.setIfInBounds_toArray, List.set_cons_zero, List.set_cons_succ])
                  refine wpAnyH_take (i := 23) (oi := (Oper.mk (some 121) (Op.fieldAddr 30 (Operand.tmp 7) 0) 0 "law.go:92" #[Edge.mk 0 Ground.phase, Edge.mk 1 Ground.phase, Edge.mk 2 Ground.phase, Edge.mk 3 Ground.phase, Edge.mk 4 Ground.phase, Edge.mk 5 Ground.phase, Edge.mk 6 Ground.phase, Edge.mk 7 Ground.phase, Edge.mk 8 Ground.phase, Edge.mk 9 Ground.phase, Edge.mk 10 Ground.phase, Edge.mk 11 Ground.phase, Edge.mk 12 Ground.phase, Edge.mk 13 Ground.phase, Edge.mk 14 Ground.phase, Edge.mk 15 Ground.phase, Edge.mk 16 Ground.phase, Edge.mk 17 Ground.phase, Edge.mk 18 Ground.phase, Edge.mk 19 Ground.phase, Edge.mk 20 Ground.phase, Edge.mk 21 Ground.phase, Edge.mk 22 Ground.phase] none)) (v := ?_) rfl (by kernel_rfl) (by kernel_rfl) (by kernel_rfl) (fun _ _ _ h => h) (Or.inl ⟨by rfl, ?_⟩) (by assumption) ?_
                  rotate_left
                  · (intro w hSw; (try dsimp only at hSw); go_simp; first | done | with_reducible rfl)
                  (try simp only [Act.put, List.setIfInBounds_toArray, List.set_cons_zero, List.set_cons_succ])
                  refine wpAnyH_ready (rs := [24]) (by kernel_rfl) (by simp) ?_
                  refine AllReadyH.cons (o := (Oper.mk none (Op.store 27 (Operand.tmp 121) (Operand.tmp 120)) 0 "law.go:92" #[Edge.mk 23 Ground.data, Edge.mk 22 Ground.data, Edge.mk 22 Ground.chain, Edge.mk 0 Ground.phase, Edge.mk 1 Ground.phase, Edge.mk 2 Ground.phase, Edge.mk 3 Ground.phase, Edge.mk 4 Ground.phase, Edge.mk 5 Ground.phase, Edge.mk 6 Ground.phase, Edge.mk 7 Ground.phase, Edge.mk 8 Ground.phase, Edge.mk 9 Ground.phase, Edge.mk 10 Ground.phase, Edge.mk 11 Ground.phase, Edge.mk 12 Ground.phase, Edge.mk 13 Ground.phase, Edge.mk 14 Ground.phase, Edge.mk 15 Ground.phase, Edge.mk 16 Ground.phase, Edge.mk 17 Ground.phase, Edge.mk 18 Ground.phase, Edge.mk 19 Ground.phase, Edge.mk 20 Ground.phase, Edge.mk 21 Ground.phase, Edge.mk 22 Ground.phase] none)) rfl (fun K hK => ?_) (AllReadyH.nil)
                  go_simp
                  skip
                  refine hK.out _ _ (by (try dsimp only); (first | assumption | go_keep)) (fun hHeld => ?_)
                  clear hK K
                  (try simp only [Act.put, List.setIfInBounds_toArray, List.set_cons_zero, List.set_cons_succ])
                  refine wpAnyH_done (by kernel_rfl) ?_ _
                case' st21ta970x21 =>
                  go_simp
                  skip
                  refine hK.out _ _ (by (try dsimp only); (first | assumption | go_keep)) (fun hHeld => ?_)
                  clear hK K
                  (try simp only [Act.put, List.setIfInBounds_toArray, List.set_cons_zero, List.set_cons_succ])
                  refine wpAnyH_ready (rs := [1]) (by kernel_rfl) (by simp) ?_
                  refine AllReadyH.cons (o := (Oper.mk (some 99) (Op.load 27 (Operand.tmp 98)) 27 "law.go:92" #[Edge.mk 0 Ground.data] none)) rfl (fun K hK => ?_) (AllReadyH.nil)
                  go_simp
                  skip
                  refine hK.out _ _ (by (try dsimp only); (first | assumption | go_keep)) (fun hHeld => ?_)
                  clear hK K
                  (try simp only [Act.put, List.setIfInBounds_toArray, List.set_cons_zero, List.set_cons_succ])
                  refine wpAnyH_ready (rs := [22]) (by kernel_rfl) (by simp) ?_
                  refine AllReadyH.cons (o := (Oper.mk (some 120) (Op.call (Call.mk (Callee.builtin Builtin.append) #[Operand.tmp 99, Operand.tmp 119] #[27, 27])) 27 "law.go:92" #[Edge.mk 1 Ground.data, Edge.mk 21 Ground.data] none)) rfl (fun K hK => ?_) (AllReadyH.nil)
                  (refine step_append_many _ (by rfl) (.tmp 99) (.tmp 119) 27 (by rfl) (bs + 1) 37 j7 (.agg #[.int .i64 0, .int .i64 0, .slice none 0 0]) 3 40 Try.underlying27 HJ7.out hf0 hf1 hf2 (by rfl) (by decide) _ j (fcells gS cS sz start n bn j) (by rfl) (own_below (HR.out.row 0 rfl) ((al (Below.refl _ wr) _).trans (Quiet.below ⟨1, rfl⟩)) (Nat.le_refl _)) ⟨wr.heap.size, 0, none⟩ 1 1 [.int .i64 (cc : Int), .int .i64 ff, .slice (some ⟨gS, at_, none⟩) (ee - at_) (cS - at_)] (by rfl) (by rfl) (news3 wr _ _ _ 37) (by simp [Value.oneCell']) (by unfold maxLen; omega) (by omega) hsEl ?_; intro v9 w9 hown9 hgrow9 hblk9; obtain ⟨a9, n9, c9, rfl⟩ := own_sliceC hown9; obtain ⟨d, f0, cl, d2, HKF, HRF, HBF⟩ := Rows.putC HK.out HR.out HB.out ((al (Below.refl _ wr) _).trans (Quiet.below ⟨1, rfl⟩)) (Nat.lt_succ_self bs) (Nat.le_refl bs) 0 rfl hown9 hgrow9 (by simpa using hblk9) 0; have c0 := d 0 _ rfl; have c4 := d 4 _ rfl; have k4 := d2 4 _ rfl; clear d d2 hown9 hgrow9 hblk9)
                  refine hK.out _ _ (by (try dsimp only); (first | assumption | go_keep)) (fun hHeld => ?_)
                  clear hK K
                  (try simp only [Act.put, List.setIfInBounds_toArray, List.set_cons_zero, List.set_cons_succ])
                  refine wpAnyH_take (i := 23) (oi := (Oper.mk (some 121) (Op.fieldAddr 30 (Operand.tmp 7) 0) 0 "law.go:92" #[Edge.mk 0 Ground.phase, Edge.mk 1 Ground.phase, Edge.mk 2 Ground.phase, Edge.mk 3 Ground.phase, Edge.mk 4 Ground.phase, Edge.mk 5 Ground.phase, Edge.mk 6 Ground.phase, Edge.mk 7 Ground.phase, Edge.mk 8 Ground.phase, Edge.mk 9 Ground.phase, Edge.mk 10 Ground.phase, Edge.mk 11 Ground.phase, Edge.mk 12 Ground.phase, Edge.mk 13 Ground.phase, Edge.mk 14 Ground.phase, Edge.mk 15 Ground.phase, Edge.mk 16 Ground.phase, Edge.mk 17 Ground.phase, Edge.mk 18 Ground.phase, Edge.mk 19 Ground.phase, Edge.mk 20 Ground.phase, Edge.mk 21 Ground.phase, Edge.mk 22 Ground.phase] none)) (v := ?_) rfl (by kernel_rfl) (by kernel_rfl) (by kernel_rfl) (fun _ _ _ h => h) (Or.inl ⟨by rfl, ?_⟩) (by assumption) ?_
                  rotate_left
                  · (intro w hSw; (try dsimp only at hSw); go_simp; first | done | with_reducible rfl)
                  (try simp only [Act.put, List.setIfInBounds_toArray, List.set_cons_zero, List.set_cons_succ])
                  refine wpAnyH_ready (rs := [24]) (by kernel_rfl) (by simp) ?_
                  refine AllReadyH.cons (o := (Oper.mk none (Op.store 27 (Operand.tmp 121) (Operand.tmp 120)) 0 "law.go:92" #[Edge.mk 23 Ground.data, Edge.mk 22 Ground.data, Edge.mk 22 Ground.chain, Edge.mk 0 Ground.phase, Edge.mk 1 Ground.phase, Edge.mk 2 Ground.phase, Edge.mk 3 Ground.phase, Edge.mk 4 Ground.phase, Edge.mk 5 Ground.phase, Edge.mk 6 Ground.phase, Edge.mk 7 Ground.phase, Edge.mk 8 Ground.phase, Edge.mk 9 Ground.phase, Edge.mk 10 Ground.phase, Edge.mk 11 Ground.phase, Edge.mk 12 Ground.phase, Edge.mk 13 Ground.phase, Edge.mk 14 Ground.phase, Edge.mk 15 Ground.phase, Edge.mk 16 Ground.phase, Edge.mk 17 Ground.phase, Edge.mk 18 Ground.phase, Edge.mk 19 Ground.phase, Edge.mk 20 Ground.phase, Edge.mk 21 Ground.phase, Edge.mk 22 Ground.phase] none)) rfl (fun K hK => ?_) (AllReadyH.nil)
                  go_simp
                  skip
                  refine hK.out _ _ (by (try dsimp only); (first | assumption | go_keep)) (fun hHeld => ?_)
                  clear hK K
                  (try simp only [Act.put, List.setIfInBounds_toArray, List.set_cons_zero, List.set_cons_succ])
                  refine wpAnyH_done (by kernel_rfl) ?_ _
                all_goals
                  go_wp2_with fail
                  go_roundw
                  case rel => exact ⟨j + 1, _, by rw [Nat.succ_mul, ← HAT.out, ← HEE.out], .inr (by rw [Nat.add_sub_cancel, ← HAT.out]; exact hlt2), HKF, Lib.hid (by
                    have h9 := HRF.out
                    rw [fcells_succ]
                    unfold fcell
                    rw [← HAT.out, ← HEE.out, ← HFF.out, ← HCC.out, ← hme.out]
                    exact h9), HBF⟩
                  case measure => have h8 := HEE.out; simp [intOf]; omega
              · have h66 : ¬ (ee : Int) ≤ (n : Int) := by omega
                have hnl : n < ee := by omega
                have h67 : (n : Int) < (ee : Int) := by omega
                have hE : at_ ≤ n := by omega
                have hE2 : n ≤ cS := by omega
                have hme : Hid (n - at_ = min sz (n - at_)) := Lib.hid (by have := HEE.out; omega)
                have i4 : (at_ : Int) ≤ (n : Int) := by omega
                have i5 : (n : Int) ≤ (cS : Int) := by omega
                obtain ⟨ob, hob⟩ : ∃ o, o = Obj.cells #[.int .i64 (cc : Int), .int .i64 ff, .slice (some ⟨gS, at_, none⟩) (n - at_) (cS - at_)] 37 := ⟨_, rfl⟩
                have hsEl : bs + 1 ≤ (wr.alloc ob).drew.heap.size := Nat.le_trans hsE (al (Below.refl _ wr) _).size
                rw [hob] at hsEl
                clear hob
                refine wp_region_held_drew (S := (fun w' => w'.cell? ⟨bs, 4, none⟩ = some (.slice (some ⟨gS, 0, none⟩) n cS))) (by kernel_rfl) (by (try dsimp only); (first | assumption | go_keep)) (fun hHeld => ?_)
                refine wpAnyH_take (i := 0) (oi := (Oper.mk (some 98) (Op.fieldAddr 30 (Operand.tmp 7) 0) 0 "law.go:92" #[] none)) (v := ?_) rfl (by kernel_rfl) (by kernel_rfl) (by kernel_rfl) (fun _ _ _ h => h) (Or.inl ⟨by rfl, ?_⟩) (by assumption) ?_
                rotate_left
                · (intro w hSw; (try dsimp only at hSw); go_simp; first | done | with_reducible rfl)
                (try simp only [Act.put, List.setIfInBounds_toArray, List.set_cons_zero, List.set_cons_succ])
                refine wpAnyH_take (i := 2) (oi := (Oper.mk (some 100) (Op.move (Operand.tmp 2)) 3 "law.go:92" #[] none)) (v := ?_) rfl (by kernel_rfl) (by kernel_rfl) (by kernel_rfl) (fun _ _ _ h => h) (Or.inl ⟨by rfl, ?_⟩) (by assumption) ?_
                rotate_left
                · (intro w hSw; (try dsimp only at hSw); go_simp; first | done | with_reducible rfl)
                (try simp only [Act.put, List.setIfInBounds_toArray, List.set_cons_zero, List.set_cons_succ])
                refine wpAnyH_take (i := 3) (oi := (Oper.mk (some 101) (Op.move (Operand.tmp 9)) 3 "law.go:92" #[] none)) (v := ?_) rfl (by kernel_rfl) (by kernel_rfl) (by kernel_rfl) (fun _ _ _ h => h) (Or.inl ⟨by rfl, ?_⟩) (by assumption) ?_
                rotate_left
                · (intro w hSw; (try dsimp only at hSw); go_simp; first | done | with_reducible rfl)
                (try simp only [Act.put, List.setIfInBounds_toArray, List.set_cons_zero, List.set_cons_succ])
                refine wpAnyH_take (i := 4) (oi := (Oper.mk (some 102) (Op.move (Operand.tmp 1)) 3 "law.go:92" #[] none)) (v := ?_) rfl (by kernel_rfl) (by kernel_rfl) (by kernel_rfl) (fun _ _ _ h => h) (Or.inl ⟨by rfl, ?_⟩) (by assumption) ?_
                rotate_left
                · (intro w hSw; (try dsimp only at hSw); go_simp; first | done | with_reducible rfl)
                (try simp only [Act.put, List.setIfInBounds_toArray, List.set_cons_zero, List.set_cons_succ])
                refine wpAnyH_take (i := 5) (oi := (Oper.mk (some 103) (Op.binOp BinOp.quo 3 (Operand.tmp 101) (Operand.tmp 102) 3) 3 "law.go:92" #[Edge.mk 3 Ground.data, Edge.mk 4 Ground.data] none)) (v := ?_) rfl (by kernel_rfl) (by kernel_rfl) (by kernel_rfl) (fun _ _ _ h => h) (Or.inl ⟨by rfl, ?_⟩) (by assumption) ?_
                rotate_left
                · (intro w hSw; (try dsimp only at hSw); go_simp; first | done | with_reducible rfl)
                (try simp only [Act.put, List.setIfInBounds_toArray, List.set_cons_zero, List.set_cons_succ])
                refine wpAnyH_take (i := 6) (oi := (Oper.mk (some 104) (Op.binOp BinOp.add 3 (Operand.tmp 100) (Operand.tmp 103) 3) 3 "law.go:92" #[Edge.mk 2 Ground.data, Edge.mk 5 Ground.data] none)) (v := ?_) rfl (by kernel_rfl) (by kernel_rfl) (by kernel_rfl) (fun _ _ _ h => h) (Or.inl ⟨by rfl, ?_⟩) (by assumption) ?_
                rotate_left
                · (intro w hSw; (try dsimp only at hSw); go_simp; first | done | with_reducible rfl)
                (try simp only [Act.put, List.setIfInBounds_toArray, List.set_cons_zero, List.set_cons_succ])
                refine wpAnyH_take (i := 7) (oi := (Oper.mk (some 105) (Op.binOp BinOp.rem 3 (Operand.tmp 104) (Operand.const (Value.int IntKind.i64 256)) 3) 3 "law.go:92" #[Edge.mk 6 Ground.data] none)) (v := ?_) rfl (by kernel_rfl) (by kernel_rfl) (by kernel_rfl) (fun _ _ _ h => h) (Or.inl ⟨by rfl, ?_⟩) (by assumption) ?_
                rotate_left
                · (intro w hSw; (try dsimp only at hSw); go_simp; first | done | with_reducible rfl)
                (try simp only [Act.put, List.setIfInBounds_toArray, List.set_cons_zero, List.set_cons_succ])
                refine wpAnyH_take (i := 8) (oi := (Oper.mk (some 106) (Op.move (Operand.tmp 10)) 3 "law.go:92" #[] none)) (v := ?_) rfl (by kernel_rfl) (by kernel_rfl) (by kernel_rfl) (fun _ _ _ h => h) (Or.inl ⟨by rfl, ?_⟩) (by assumption) ?_
                rotate_left
                · (intro w hSw; (try dsimp only at hSw); go_simp; first | done | with_reducible rfl)
                (try simp only [Act.put, List.setIfInBounds_toArray, List.set_cons_zero, List.set_cons_succ])
                refine wpAnyH_take (i := 9) (oi := (Oper.mk (some 107) (Op.fieldAddr 30 (Operand.tmp 7) 4) 0 "law.go:92" #[] none)) (v := ?_) rfl (by kernel_rfl) (by kernel_rfl) (by kernel_rfl) (fun _ _ _ h => h) (Or.inl ⟨by rfl, ?_⟩) (by assumption) ?_
                rotate_left
                · (intro w hSw; (try dsimp only at hSw); go_simp; first | done | with_reducible rfl)
                (try simp only [Act.put, List.setIfInBounds_toArray, List.set_cons_zero, List.set_cons_succ])
                refine wpAnyH_take (i := 10) (oi := (Oper.mk (some 108) (Op.load 23 (Operand.tmp 107)) 23 "law.go:92" #[Edge.mk 9 Ground.data] none)) (v := ?_) rfl (by kernel_rfl) (by kernel_rfl) (by kernel_rfl) (fun _ _ _ h => h) (Or.inl ⟨by rfl, ?_⟩) (by assumption) ?_
                rotate_left
                · (intro w hSw; (try dsimp only at hSw); go_simp; first | done | with_reducible rfl)
                (try simp only [Act.put, List.setIfInBounds_toArray, List.set_cons_zero, List.set_cons_succ])
                refine wpAnyH_take (i := 11) (oi := (Oper.mk (some 109) (Op.move (Operand.tmp 9)) 3 "law.go:92" #[] none)) (v := ?_) rfl (by kernel_rfl) (by kernel_rfl) (by kernel_rfl) (fun _ _ _ h => h) (Or.inl ⟨by rfl, ?_⟩) (by assumption) ?_
                rotate_left
                · (intro w hSw; (try dsimp only at hSw); go_simp; first | done | with_reducible rfl)
                (try simp only [Act.put, List.setIfInBounds_toArray, List.set_cons_zero, List.set_cons_succ])
                refine wpAnyH_take (i := 12) (oi := (Oper.mk (some 110) (Op.move (Operand.tmp 9)) 3 "law.go:92" #[] none)) (v := ?_) rfl (by kernel_rfl) (by kernel_rfl) (by kernel_rfl) (fun _ _ _ h => h) (Or.inl ⟨by rfl, ?_⟩) (by assumption) ?_
                rotate_left
                · (intro w hSw; (try dsimp only at hSw); go_simp; first | done | with_reducible rfl)
                (try simp only [Act.put, List.setIfInBounds_toArray, List.set_cons_zero, List.set_cons_succ])
                refine wpAnyH_take (i := 13) (oi := (Oper.mk (some 111) (Op.move (Operand.tmp 1)) 3 "law.go:92" #[] none)) (v := ?_) rfl (by kernel_rfl) (by kernel_rfl) (by kernel_rfl) (fun _ _ _ h => h) (Or.inl ⟨by rfl, ?_⟩) (by assumption) ?_
                rotate_left
                · (intro w hSw; (try dsimp only at hSw); go_simp; first | done | with_reducible rfl)
                (try simp only [Act.put, List.setIfInBounds_toArray, List.set_cons_zero, List.set_cons_succ])
                refine wpAnyH_take (i := 14) (oi := (Oper.mk (some 112) (Op.binOp BinOp.add 3 (Operand.tmp 110) (Operand.tmp 111) 3) 3 "law.go:92" #[Edge.mk 12 Ground.data, Edge.mk 13 Ground.data] none)) (v := ?_) rfl (by kernel_rfl) (by kernel_rfl) (by kernel_rfl) (fun _ _ _ h => h) (Or.inl ⟨by rfl, ?_⟩) (by assumption) ?_
                rotate_left
                · (intro w hSw; (try dsimp only at hSw); go_simp; first | done | with_reducible rfl)
                (try simp only [Act.put, List.setIfInBounds_toArray, List.set_cons_zero, List.set_cons_succ])
                refine wpAnyH_take (i := 15) (oi := (Oper.mk (some 113) (Op.fieldAddr 30 (Operand.tmp 7) 4) 0 "law.go:92" #[] none)) (v := ?_) rfl (by kernel_rfl) (by kernel_rfl) (by kernel_rfl) (fun _ _ _ h => h) (Or.inl ⟨by rfl, ?_⟩) (by assumption) ?_
                rotate_left
                · (intro w hSw; (try dsimp only at hSw); go_simp; first | done | with_reducible rfl)
                (try simp only [Act.put, List.setIfInBounds_toArray, List.set_cons_zero, List.set_cons_succ])
                refine wpAnyH_take (i := 16) (oi := (Oper.mk (some 114) (Op.load 23 (Operand.tmp 113)) 23 "law.go:92" #[Edge.mk 15 Ground.data] none)) (v := ?_) rfl (by kernel_rfl) (by kernel_rfl) (by kernel_rfl) (fun _ _ _ h => h) (Or.inl ⟨by rfl, ?_⟩) (by assumption) ?_
                rotate_left
                · (intro w hSw; (try dsimp only at hSw); go_simp; first | done | with_reducible rfl)
                (try simp only [Act.put, List.setIfInBounds_toArray, List.set_cons_zero, List.set_cons_succ])
                refine wpAnyH_take (i := 17) (oi := (Oper.mk (some 115) (Op.call (Call.mk (Callee.builtin Builtin.len) #[Operand.tmp 114] #[23])) 3 "law.go:92" #[Edge.mk 16 Ground.data] none)) (v := ?_) rfl (by kernel_rfl) (by kernel_rfl) (by kernel_rfl) (fun _ _ _ h => h) (Or.inl ⟨by rfl, ?_⟩) (by assumption) ?_
                rotate_left
                · (intro w hSw; (try dsimp only at hSw); go_simp; first | done | with_reducible rfl)
                (try simp only [Act.put, List.setIfInBounds_toArray, List.set_cons_zero, List.set_cons_succ])
                refine wpAnyH_take (i := 18) (oi := (Oper.mk (some 116) (Op.call (Call.mk (Callee.builtin Builtin.min) #[Operand.tmp 112, Operand.tmp 115] #[3, 3])) 3 "law.go:92" #[Edge.mk 14 Ground.data, Edge.mk 17 Ground.data] none)) (v := ?_) rfl (by kernel_rfl) (by kernel_rfl) (by kernel_rfl) (fun _ _ _ h => h) (Or.inl ⟨by rfl, ?_⟩) (by assumption) ?_
                rotate_left
                · (intro w hSw; (try dsimp only at hSw); go_simp; first | done | with_reducible rfl)
                (try simp only [Act.put, List.setIfInBounds_toArray, List.set_cons_zero, List.set_cons_succ])
                refine wpAnyH_take (i := 19) (oi := (Oper.mk (some 117) (Op.slice 23 (Operand.tmp 108) (some (Operand.tmp 109)) (some (Operand.tmp 116)) none) 23 "law.go:92" #[Edge.mk 10 Ground.data, Edge.mk 11 Ground.data, Edge.mk 18 Ground.data] none)) (v := ?_) rfl (by kernel_rfl) (by kernel_rfl) (by kernel_rfl) (fun _ _ _ h => h) (Or.inl ⟨by rfl, ?_⟩) (by assumption) ?_
                rotate_left
                · (intro w hSw; (try dsimp only at hSw); go_simp; first | done | with_reducible rfl)
                (try simp only [Act.put, List.setIfInBounds_toArray, List.set_cons_zero, List.set_cons_succ])
                refine wpAnyH_take (i := 20) (oi := (Oper.mk (some 118) (Op.build 37 #[(0, Operand.tmp 105), (1, Operand.tmp 106), (2, Operand.tmp 117)]) 37 "law.go:92" #[Edge.mk 7 Ground.data, Edge.mk 8 Ground.data, Edge.mk 19 Ground.data] none)) (v := ?_) rfl (by kernel_rfl) (by kernel_rfl) (by kernel_rfl) (fun _ _ _ h => h) (Or.inl ⟨by rfl, ?_⟩) (by assumption) ?_
                rotate_left
                · (intro w hSw; (try dsimp only at hSw); go_simp; first | done | with_reducible rfl)
                (try simp only [Act.put, List.setIfInBounds_toArray, List.set_cons_zero, List.set_cons_succ])
                refine wpAnyH_ready (rs := [1, 21]) (by kernel_rfl) (by simp) ?_
                refine AllReadyH.cons (o := (Oper.mk (some 99) (Op.load 27 (Operand.tmp 98)) 27 "law.go:92" #[Edge.mk 0 Ground.data] none)) rfl (fun K hK => ?st1tf755x21) (AllReadyH.cons (o := (Oper.mk (some 119) (Op.buildSlice 27 1 #[(0, Operand.tmp 118)]) 27 "law.go:92" #[Edge.mk 20 Ground.data] none)) rfl (fun K hK => ?st21tf755x21) (AllReadyH.nil))
                case' st1tf755x21 =>
                  go_simp
                  skip
                  refine hK.out _ _ (by (try dsimp only); (first | assumption | go_keep)) (fun hHeld => ?_)
                  clear hK K
                  (try simp only [Act.put, List.setIfInBounds_toArray, List.set_cons_zero, List.set_cons_succ])
                  refine wpAnyH_ready (rs := [21]) (by kernel_rfl) (by simp) ?_
                  refine AllReadyH.cons (o := (Oper.mk (some 119) (Op.buildSlice 27 1 #[(0, Operand.tmp 118)]) 27 "law.go:92" #[Edge.mk 20 Ground.data] none)) rfl (fun K hK => ?_) (AllReadyH.nil)
                  go_simp
                  skip
                  refine hK.out _ _ (by (try dsimp only); (first | assumption | go_keep)) (fun hHeld => ?_)
                  clear hK K
                  (try simp only [Act.put, List.setIfInBounds_toArray, List.set_cons_zero, List.set_cons_succ])
                  refine wpAnyH_ready (rs := [22]) (by kernel_rfl) (by simp) ?_
                  refine AllReadyH.cons (o := (Oper.mk (some 120) (Op.call (Call.mk (Callee.builtin Builtin.append) #[Operand.tmp 99, Operand.tmp 119] #[27, 27])) 27 "law.go:92" #[Edge.mk 1 Ground.data, Edge.mk 21 Ground.data] none)) rfl (fun K hK => ?_) (AllReadyH.nil)
                  (refine step_append_many _ (by rfl) (.tmp 99) (.tmp 119) 27 (by rfl) (bs + 1) 37 j7 (.agg #[.int .i64 0, .int .i64 0, .slice none 0 0]) 3 40 Try.underlying27 HJ7.out hf0 hf1 hf2 (by rfl) (by decide) _ j (fcells gS cS sz start n bn j) (by rfl) (own_below (HR.out.row 0 rfl) ((al (Below.refl _ wr) _).trans (Quiet.below ⟨1, rfl⟩)) (Nat.le_refl _)) ⟨wr.heap.size, 0, none⟩ 1 1 [.int .i64 (cc : Int), .int .i64 ff, .slice (some ⟨gS, at_, none⟩) (n - at_) (cS - at_)] (by rfl) (by rfl) (news3 wr _ _ _ 37) (by simp [Value.oneCell']) (by unfold maxLen; omega) (by omega) hsEl ?_; intro v9 w9 hown9 hgrow9 hblk9; obtain ⟨a9, n9, c9, rfl⟩ := own_sliceC hown9; obtain ⟨d, f0, cl, d2, HKF, HRF, HBF⟩ := Rows.putC HK.out HR.out HB.out ((al (Below.refl _ wr) _).trans (Quiet.below ⟨1, rfl⟩)) (Nat.lt_succ_self bs) (Nat.le_refl bs) 0 rfl hown9 hgrow9 (by simpa using hblk9) 0; have c0 := d 0 _ rfl; have c4 := d 4 _ rfl; have k4 := d2 4 _ rfl; clear d d2 hown9 hgrow9 hblk9)
                  refine hK.out _ _ (by (try dsimp only); (first | assumption | go_keep)) (fun hHeld => ?_)
                  clear hK K
                  (try simp only [Act.put, List.setIfInBounds_toArray, List.set_cons_zero, List.set_cons_succ])
                  refine wpAnyH_take (i := 23) (oi := (Oper.mk (some 121) (Op.fieldAddr 30 (Operand.tmp 7) 0) 0 "law.go:92" #[Edge.mk 0 Ground.phase, Edge.mk 1 Ground.phase, Edge.mk 2 Ground.phase, Edge.mk 3 Ground.phase, Edge.mk 4 Ground.phase, Edge.mk 5 Ground.phase, Edge.mk 6 Ground.phase, Edge.mk 7 Ground.phase, Edge.mk 8 Ground.phase, Edge.mk 9 Ground.phase, Edge.mk 10 Ground.phase, Edge.mk 11 Ground.phase, Edge.mk 12 Ground.phase, Edge.mk 13 Ground.phase, Edge.mk 14 Ground.phase, Edge.mk 15 Ground.phase, Edge.mk 16 Ground.phase, Edge.mk 17 Ground.phase, Edge.mk 18 Ground.phase, Edge.mk 19 Ground.phase, Edge.mk 20 Ground.phase, Edge.mk 21 Ground.phase, Edge.mk 22 Ground.phase] none)) (v := ?_) rfl (by kernel_rfl) (by kernel_rfl) (by kernel_rfl) (fun _ _ _ h => h) (Or.inl ⟨by rfl, ?_⟩) (by assumption) ?_
                  rotate_left
                  · (intro w hSw; (try dsimp only at hSw); go_simp; first | done | with_reducible rfl)
                  (try simp only [Act.put, List.setIfInBounds_toArray, List.set_cons_zero, List.set_cons_succ])
                  refine wpAnyH_ready (rs := [24]) (by kernel_rfl) (by simp) ?_
                  refine AllReadyH.cons (o := (Oper.mk none (Op.store 27 (Operand.tmp 121) (Operand.tmp 120)) 0 "law.go:92" #[Edge.mk 23 Ground.data, Edge.mk 22 Ground.data, Edge.mk 22 Ground.chain, Edge.mk 0 Ground.phase, Edge.mk 1 Ground.phase, Edge.mk 2 Ground.phase, Edge.mk 3 Ground.phase, Edge.mk 4 Ground.phase, Edge.mk 5 Ground.phase, Edge.mk 6 Ground.phase, Edge.mk 7 Ground.phase, Edge.mk 8 Ground.phase, Edge.mk 9 Ground.phase, Edge.mk 10 Ground.phase, Edge.mk 11 Ground.phase, Edge.mk 12 Ground.phase, Edge.mk 13 Ground.phase, Edge.mk 14 Ground.phase, Edge.mk 15 Ground.phase, Edge.mk 16 Ground.phase, Edge.mk 17 Ground.phase, Edge.mk 18 Ground.phase, Edge.mk 19 Ground.phase, Edge.mk 20 Ground.phase, Edge.mk 21 Ground.phase, Edge.mk 22 Ground.phase] none)) rfl (fun K hK => ?_) (AllReadyH.nil)
                  go_simp
                  skip
                  refine hK.out _ _ (by (try dsimp only); (first | assumption | go_keep)) (fun hHeld => ?_)
                  clear hK K
                  (try simp only [Act.put, List.setIfInBounds_toArray, List.set_cons_zero, List.set_cons_succ])
                  refine wpAnyH_done (by kernel_rfl) ?_ _
                case' st21tf755x21 =>
                  go_simp
                  skip
                  refine hK.out _ _ (by (try dsimp only); (first | assumption | go_keep)) (fun hHeld => ?_)
                  clear hK K
                  (try simp only [Act.put, List.setIfInBounds_toArray, List.set_cons_zero, List.set_cons_succ])
                  refine wpAnyH_ready (rs := [1]) (by kernel_rfl) (by simp) ?_
                  refine AllReadyH.cons (o := (Oper.mk (some 99) (Op.load 27 (Operand.tmp 98)) 27 "law.go:92" #[Edge.mk 0 Ground.data] none)) rfl (fun K hK => ?_) (AllReadyH.nil)
                  go_simp
                  skip
                  refine hK.out _ _ (by (try dsimp only); (first | assumption | go_keep)) (fun hHeld => ?_)
                  clear hK K
                  (try simp only [Act.put, List.setIfInBounds_toArray, List.set_cons_zero, List.set_cons_succ])
                  refine wpAnyH_ready (rs := [22]) (by kernel_rfl) (by simp) ?_
                  refine AllReadyH.cons (o := (Oper.mk (some 120) (Op.call (Call.mk (Callee.builtin Builtin.append) #[Operand.tmp 99, Operand.tmp 119] #[27, 27])) 27 "law.go:92" #[Edge.mk 1 Ground.data, Edge.mk 21 Ground.data] none)) rfl (fun K hK => ?_) (AllReadyH.nil)
                  (refine step_append_many _ (by rfl) (.tmp 99) (.tmp 119) 27 (by rfl) (bs + 1) 37 j7 (.agg #[.int .i64 0, .int .i64 0, .slice none 0 0]) 3 40 Try.underlying27 HJ7.out hf0 hf1 hf2 (by rfl) (by decide) _ j (fcells gS cS sz start n bn j) (by rfl) (own_below (HR.out.row 0 rfl) ((al (Below.refl _ wr) _).trans (Quiet.below ⟨1, rfl⟩)) (Nat.le_refl _)) ⟨wr.heap.size, 0, none⟩ 1 1 [.int .i64 (cc : Int), .int .i64 ff, .slice (some ⟨gS, at_, none⟩) (n - at_) (cS - at_)] (by rfl) (by rfl) (news3 wr _ _ _ 37) (by simp [Value.oneCell']) (by unfold maxLen; omega) (by omega) hsEl ?_; intro v9 w9 hown9 hgrow9 hblk9; obtain ⟨a9, n9, c9, rfl⟩ := own_sliceC hown9; obtain ⟨d, f0, cl, d2, HKF, HRF, HBF⟩ := Rows.putC HK.out HR.out HB.out ((al (Below.refl _ wr) _).trans (Quiet.below ⟨1, rfl⟩)) (Nat.lt_succ_self bs) (Nat.le_refl bs) 0 rfl hown9 hgrow9 (by simpa using hblk9) 0; have c0 := d 0 _ rfl; have c4 := d 4 _ rfl; have k4 := d2 4 _ rfl; clear d d2 hown9 hgrow9 hblk9)
                  refine hK.out _ _ (by (try dsimp only); (first | assumption | go_keep)) (fun hHeld => ?_)
                  clear hK K
                  (try simp only [Act.put, List.setIfInBounds_toArray, List.set_cons_zero, List.set_cons_succ])
                  refine wpAnyH_take (i := 23) (oi := (Oper.mk (some 121) (Op.fieldAddr 30 (Operand.tmp 7) 0) 0 "law.go:92" #[Edge.mk 0 Ground.phase, Edge.mk 1 Ground.phase, Edge.mk 2 Ground.phase, Edge.mk 3 Ground.phase, Edge.mk 4 Ground.phase, Edge.mk 5 Ground.phase, Edge.mk 6 Ground.phase, Edge.mk 7 Ground.phase, Edge.mk 8 Ground.phase, Edge.mk 9 Ground.phase, Edge.mk 10 Ground.phase, Edge.mk 11 Ground.phase, Edge.mk 12 Ground.phase, Edge.mk 13 Ground.phase, Edge.mk 14 Ground.phase, Edge.mk 15 Ground.phase, Edge.mk 16 Ground.phase, Edge.mk 17 Ground.phase, Edge.mk 18 Ground.phase, Edge.mk 19 Ground.phase, Edge.mk 20 Ground.phase, Edge.mk 21 Ground.phase, Edge.mk 22 Ground.phase] none)) (v := ?_) rfl (by kernel_rfl) (by kernel_rfl) (by kernel_rfl) (fun _ _ _ h => h) (Or.inl ⟨by rfl, ?_⟩) (by assumption) ?_
                  rotate_left
                  · (intro w hSw; (try dsimp only at hSw); go_simp; first | done | with_reducible rfl)
                  (try simp only [Act.put, List.setIfInBounds_toArray, List.set_cons_zero, List.set_cons_succ])
                  refine wpAnyH_ready (rs := [24]) (by kernel_rfl) (by simp) ?_
                  refine AllReadyH.cons (o := (Oper.mk none (Op.store 27 (Operand.tmp 121) (Operand.tmp 120)) 0 "law.go:92" #[Edge.mk 23 Ground.data, Edge.mk 22 Ground.data, Edge.mk 22 Ground.chain, Edge.mk 0 Ground.phase, Edge.mk 1 Ground.phase, Edge.mk 2 Ground.phase, Edge.mk 3 Ground.phase, Edge.mk 4 Ground.phase, Edge.mk 5 Ground.phase, Edge.mk 6 Ground.phase, Edge.mk 7 Ground.phase, Edge.mk 8 Ground.phase, Edge.mk 9 Ground.phase, Edge.mk 10 Ground.phase, Edge.mk 11 Ground.phase, Edge.mk 12 Ground.phase, Edge.mk 13 Ground.phase, Edge.mk 14 Ground.phase, Edge.mk 15 Ground.phase, Edge.mk 16 Ground.phase, Edge.mk 17 Ground.phase, Edge.mk 18 Ground.phase, Edge.mk 19 Ground.phase, Edge.mk 20 Ground.phase, Edge.mk 21 Ground.phase, Edge.mk 22 Ground.phase] none)) rfl (fun K hK => ?_) (AllReadyH.nil)
                  go_simp
                  skip
                  refine hK.out _ _ (by (try dsimp only); (first | assumption | go_keep)) (fun hHeld => ?_)
                  clear hK K
                  (try simp only [Act.put, List.setIfInBounds_toArray, List.set_cons_zero, List.set_cons_succ])
                  refine wpAnyH_done (by kernel_rfl) ?_ _
                all_goals
                  go_wp2_with fail
                  go_roundw
                  case rel => exact ⟨j + 1, _, by rw [Nat.succ_mul, ← HAT.out, ← HEE.out], .inr (by rw [Nat.add_sub_cancel, ← HAT.out]; exact hlt2), HKF, Lib.hid (by
                    have h9 := HRF.out
                    rw [fcells_succ]
                    unfold fcell
                    rw [← HAT.out, ← HEE.out, ← HFF.out, ← HCC.out, ← hme.out]
                    exact h9), HBF⟩
                  case measure => have h8 := HEE.out; simp [intOf]; omega
        · have g2 : ¬ (at_ : Int) < (n : Int) := by omega
          have c0 := HK.out.at 0 rfl
          have c1 := HK.out.at 1 rfl
          have c2 := HK.out.at 2 rfl
          have c3 := HK.out.at 3 rfl
          have hrb := HR0.out.below HB.out HSZ1.out
          obtain ⟨rb, hrbe⟩ : ∃ x, x = w.heap.size := ⟨_, rfl⟩
          rw [← hrbe] at hrb
          have HRB := Lib.hid hrb
          have HRE := Lib.hid hrbe
          have r0 := hrb.at 0 rfl
          have r1 := hrb.at 1 rfl
          have r2 := hrb.at 2 rfl
          have r3 := hrb.at 3 rfl
          have r4 := hrb.at 4 rfl
          have r5 := hrb.at 5 rfl
          have q0 := hrb.free 0
          have q1 := hrb.free 1
          have q2 := hrb.free 2
          have q3 := hrb.free 3
          have q4 := hrb.free 4
          have q5 := hrb.free 5
          have rl := hrb.lt
          clear hrb
          rw [← hrbe]
          clear hrbe
          go_wp2_with fail
          obtain ⟨w9, hw9⟩ : ∃ x, x = (((((wr.setCell ⟨rb, 0, none⟩ (.slice aE nE cE)).setCell ⟨rb, 1, none⟩ (.slice aF nF cF)).setCell ⟨rb, 2, none⟩ (.slice aT nT cT)).setCell ⟨rb, 3, none⟩ (.slice av np capv)).setCell ⟨rb, 4, none⟩ (.slice aS n cS)).setCell ⟨rb, 5, none⟩ (.slice aB np cB) := ⟨_, rfl⟩
          have hk9 : Blk w9 rb 30 [.slice aE nE cE, .slice aF nF cF, .slice aT nT cT, .slice av np capv, .slice aS n cS, .slice aB np cB] := by
            rw [hw9]
            exact Blk.cast ((((((HRB.out.setCell 0 (.slice aE nE cE)).setCell 1 (.slice aF nF cF)).setCell 2 (.slice aT nT cT)).setCell 3 (.slice av np capv)).setCell 4 (.slice aS n cS)).setCell 5 (.slice aB np cB)) rfl
          have hf9 : Fr (fun k => k = rb) wr w9 := by
            rw [hw9]
            exact ((((((Fr.refl _ _).set1 _ (by exact .inl rfl)).set1 _ (by exact .inl rfl)).set1 _ (by exact .inl rfl)).set1 _ (by exact .inl rfl)).set1 _ (by exact .inl rfl)).set1 _ (by exact .inl rfl)
          rw [← hw9]
          have k0 := hk9.at 0 rfl
          have k1 := hk9.at 1 rfl
          have k2 := hk9.at 2 rfl
          have k3 := hk9.at 3 rfl
          have k4 := hk9.at 4 rfl
          have k5 := hk9.at 5 rfl
          clear hw9 c0 c1 c2 c3 c4 c5 r0 r1 r2 r3 r4 r5
          have hbw := HBW.out
          have hrb := HRE.out
          refine bodyPost_ret (v := .agg #[.slice aE nE cE, .slice aF nF cF, .slice aT nT cT, .slice av np capv, .slice aS n cS, .slice aB np cB]) (by simp [results, Try.f9, go_sem, k0, k1, k2, k3, k4, k5]) rfl ?_
          have hln : P.flatten.length = n := by rw [← HX.out, HN.out]
          have hwr : Below w.heap.size w wr := HB1.out.trans (HB.out.mono (by omega))
          refine ⟨aF, nF, cF, aT, nT, cT, aE, nE, cE, aS, cS, aB, cB, j, gS, by rw [hln, HNP.out], Lib.hid ?_, Lib.hid (hwr.trans (hf9.toBelow hwr.size (fun k hk => by omega))), ?_, ?_, ?_, ?_, hmS⟩
          · rw [hln, ← HNP.out, ← HBN.out, ← HX.out, show w.heap.size + 2 = bs + 1 by omega]
            exact HR.out.fr hf9 (fun k hk e => by have := (HR.out.lt hk).1; omega)
          · rw [hln, ← HAT.out]; omega
          · rw [hln]; exact HJ1.out
          · rw [hln]; exact HGS.out
          · rw [hln]; exact hcS
end Go.Proofs.Ytllpbfejoahllaa

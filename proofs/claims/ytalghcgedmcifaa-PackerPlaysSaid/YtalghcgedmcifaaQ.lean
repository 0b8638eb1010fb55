/- Contract of Push. No condition. -/
import Derived.Test.YtalghcgedmcifaaO
namespace Go.Proofs.Ytalghcgedmcifaa
open Go.RowKit Go.Deep Go.ChangeShapes Go.WideShapes Go.ChangeAt
set_option linter.unusedVariables false

theorem clone_none (n cap : Nat) (w : World) : Calls Try.prog 27 #[.slice none n cap] w (NB w []) := by
  have e1 := eqlN none n cap
  simp only [Option.isNone_none] at e1
  go_enter Try.func27, Try.ntmps27
  go_wp2
  go_ret
  exact ⟨_, rfl, World.ownsRow_nil _ _ _ _, Below.refl _ _⟩
theorem cloneB_any (a : Option Addr) (n cap : Nat) (l : List UInt8) (w : World) (hn : l.length = n) (hl : l.length ≤ 1000000000) (hb : BAt w a l) (h0 : a = none ∨ ∃ b off, a = some ⟨b, off, none⟩) : Calls Try.prog 27 #[.slice a n cap] w (NB w l) := by
  rcases h0 with rfl | ⟨b, off, rfl⟩
  · obtain rfl : l = [] := by rcases hb with h | ⟨b, off, h, -⟩; exact h; cases h
    exact clone_none n cap w
  · refine clone_some b off cap n l w hn hl ?_
    rcases hb with h | ⟨b', off', h1, h2, h3⟩
    · exact .inl h
    · cases h1
      exact .inr ⟨h2, h3⟩
theorem one_vat (w : World) (x : Value) (t : TypeId) : VAt (w.alloc (.cells #[x] t)) (some ⟨w.heap.size, 0, none⟩) [x] :=
  .inr ⟨_, _, rfl, by simp, fun i hi => by
    obtain rfl : i = 0 := by simp at hi; omega
    exact (Blk.new w t [x]).at 0 rfl⟩
theorem pushA {w w1 : World} {X : Nat → Prop} {b : Nat} {f : PS} {vW vR v1 : Value} {l : List UInt8} (h : PAt w X b f vW vR) (hB : Below w.heap.size w w1) (hO : w1.ownsRow w.heap.size 5 1 v1 l.length (encB l)) :
    w1.cell? ⟨b, 4, none⟩ = some vW ∧ Hid (PAt w1 X b f vW vR) ∧ Hid (Sl w1 (Av X b vW) v1 l) ∧ Hid (Below w.heap.size w w1) ∧ v1.oneCell' = true := by
  obtain ⟨-, a1, c1, rfl, hc, hm, hA⟩ := BAt.of_row hO
  refine ⟨(h.below hB (Nat.le_refl _)).blk.at 4 rfl, Lib.hid (h.below hB (Nat.le_refl _)), Lib.hid ⟨a1, c1, rfl, hc, hm, hA, fun q hq hl hav => ?_⟩, Lib.hid hB, rfl⟩
  have h1 := (hO.lt q.block (by rw [hq]; rfl)).1
  have := h.avlt _ hav
  omega
theorem pushB {w1 w8 : World} {X : Nat → Prop} {b m : Nat} {f : PS} {vW vR v1 v8 : Value} {l : List UInt8} {us : List Value} {o : Obj} (h : PAt w1 X b f vW vR) (hS : Sls w1 (Av X b vW) us f.L) (hx : Sl w1 (Av X b vW) v1 l) (how : w8.ownsRow (b + 1) 22 1 v8 m (us ++ [v1])) (hg : (w1.alloc o).grownBy w8 vW.ownBlock) (hb : v8.ownBlock = vW.ownBlock ∨ v8.ownBlock = some (w1.alloc o).heap.size) (hm : m = f.L.length + 1) :
    w8.cell? ⟨b, 4, none⟩ = some vW ∧ w8.frozen? ⟨b, 4, none⟩ = false ∧ b < w8.heap.size ∧ Hid (PAt (w8.setCell ⟨b, 4, none⟩ v8) X b { f with L := f.L ++ [l] } v8 vR) ∧ Hid (v8.ownBlock = vW.ownBlock ∨ ∀ k, v8.ownBlock = some k → w1.heap.size ≤ k) ∧ Hid (Fr (Mine b vW) w1 (w8.setCell ⟨b, 4, none⟩ v8)) := by
  have hfr : Fr (Mine b vW) w1 w8 := ((Fr.refl _ _).alloc o).grown hg (fun k hk => .inl (.inr hk))
  have hk : Blk w8 b 56 (pcells f vW vR) := (h.blk.alloc o).grown hg (fun e => by have := (h.lt b e).1; omega)
  have hn : v8.ownBlock = vW.ownBlock ∨ ∀ k, v8.ownBlock = some k → w1.heap.size ≤ k := by
    rcases hb with e | e
    · exact .inl e
    · right; intro k hk; rw [e] at hk; cases hk; simp
  have hfr2 : Fr (Mine b vW) w1 (w8.setCell ⟨b, 4, none⟩ v8) := hfr.set1 v8 (.inl (.inl rfl))
  refine ⟨hk.at 4 rfl, hk.free 4, hk.lt, Lib.hid ?_, Lib.hid hn, Lib.hid hfr2⟩
  refine h.row_new (us := us ++ [v1]) (Blk.cast (hk.setCell 4 v8) rfl) hfr2 ?_ (hS.append (Sls.one hx)) rfl hn
  have h9 := own_low how (Nat.lt_succ_self b) 4 v8
  rw [hm] at h9
  rw [show ({ f with L := f.L ++ [l] } : PS).L.length = f.L.length + 1 by simp]
  exact h9
set_option maxRecDepth 20000 in
set_option maxHeartbeats 1000000 in
theorem push_any (X : Nat → Prop) (b : Nat) (p : PS) (vW vR : Value) (a : Option Addr) (cap : Nat) (l : List UInt8) (w : World) (h : PAt w X b p vW vR) (ok : p.Ok) (hb : BAt w a l) (hl : l.length ≤ maxLen) (hcap : l.length ≤ cap) (hcm : cap ≤ maxLen) :
    Calls Try.prog 11 #[.pointer (some ⟨b, 0, none⟩), .slice a l.length cap] w fun e w' => e = .returned (.int .i64 (p.push l).2) ∧ ∃ vW', PAt w' X b (p.push l).1 vW' vR ∧ (vW'.ownBlock = vW.ownBlock ∨ ∀ k, vW'.ownBlock = some k → w.heap.size ≤ k) ∧ Fr (Mine b vW) w w' := by
  obtain ⟨us, hO, hS⟩ := h.row
  obtain ⟨q, nn, er, hd⟩ : ∃ q nn er, decP l = (q, nn, er) := ⟨_, _, _, rfl⟩
  have H := Lib.hid h
  have HS := Lib.hid hS
  have HB := Lib.hid hb
  have HD := Lib.hid hd
  have hlt := h.blk.lt
  by_cases he : ¬ er = 0
  · have HP : Hid (p.push l = (p, 1)) := Lib.hid (by unfold PS.push fitB; rw [hd]; rw [if_pos (by simp [he])])
    have e1 : (er != 0) = true := by simpa using he
    clear h hO hS hb hd
    go_enter Try.func11, Try.ntmps11
    go_wp2_with (go_at_call 25; refine (H.out.live ok).mono ?_; rintro e w2 ⟨rfl, hw⟩; obtain rfl := hw.symm)
    refine (decode_any a cap l _ hl hcap hcm HB.out).mono ?_
    rw [HD.out]
    rintro e w3 ⟨a3, c3, rfl, -, -, -, hB3⟩
    dsimp only [Pk.val]
    have HB3 := Lib.hid hB3
    clear hB3
    go_wp2_with fail
    go_ret
    exact ⟨by rw [HP.out]; rfl, _, by rw [HP.out]; exact (H.out.below HB3.out (Nat.le_refl _)).below (al (Below.refl _ _) _) (Nat.le_refl _), .inl rfl, ((Fr.of_below HB3.out (Nat.le_refl _))).alloc _⟩
  have he := Decidable.not_not.1 he
  subst he
  by_cases hnl : ¬ nn = (l.length : Int)
  · have HP : Hid (p.push l = (p, 1)) := Lib.hid (by unfold PS.push fitB; rw [hd]; rw [if_pos (by simp [hnl])])
    have e1 : (nn != (l.length : Int)) = true := by simpa using hnl
    clear h hO hS hb hd hnl
    go_enter Try.func11, Try.ntmps11
    go_wp2_with (go_at_call 25; refine (H.out.live ok).mono ?_; rintro e w2 ⟨rfl, hw⟩; obtain rfl := hw.symm)
    refine (decode_any a cap l _ hl hcap hcm HB.out).mono ?_
    rw [HD.out]
    rintro e w3 ⟨a3, c3, rfl, -, -, -, hB3⟩
    dsimp only [Pk.val]
    have HB3 := Lib.hid hB3
    clear hB3
    go_wp2_with fail
    go_ret
    exact ⟨by rw [HP.out]; rfl, _, by rw [HP.out]; exact (H.out.below HB3.out (Nat.le_refl _)).below (al (Below.refl _ _) _) (Nat.le_refl _), .inl rfl, ((Fr.of_below HB3.out (Nat.le_refl _))).alloc _⟩
  have hnl := Decidable.not_not.1 hnl
  subst hnl
  by_cases hq : q.apid = 2047
  · have HP : Hid (p.push l = (p, 1)) := Lib.hid (by unfold PS.push fitB; rw [hd]; rw [if_pos (by simp [hq])])
    clear h hO hS hb hd
    go_enter Try.func11, Try.ntmps11
    go_wp2_with (go_at_call 25; refine (H.out.live ok).mono ?_; rintro e w2 ⟨rfl, hw⟩; obtain rfl := hw.symm)
    refine (decode_any a cap l _ hl hcap hcm HB.out).mono ?_
    rw [HD.out]
    rintro e w3 ⟨a3, c3, rfl, -, -, -, hB3⟩
    dsimp only [Pk.val]
    have HB3 := Lib.hid hB3
    clear hB3
    go_wp2_with fail
    go_ret
    exact ⟨by rw [HP.out]; rfl, _, by rw [HP.out]; exact (H.out.below HB3.out (Nat.le_refl _)).below (al (Below.refl _ _) _) (Nat.le_refl _), .inl rfl, ((Fr.of_below HB3.out (Nat.le_refl _))).alloc _⟩
  have hfit : fitB l = true := by unfold fitB; rw [hd]; simp [hq]
  have hll := fit_len hfit
  have b1 : (p.left : Int) ≤ 1048576 := by have := ok.most; have := ok.room; omega
  have b2 : (l.length : Int) ≤ 4096 := by omega
  have b3 : (p.room : Int) ≤ 1048576 := by have := ok.room; omega
  have e1 : (q.apid == 2047) = false := by rw [beq_eq_false_iff_ne]; exact hq
  by_cases hro : p.room < p.left + l.length
  · have HP : Hid (p.push l = (p, 7)) := Lib.hid (by unfold PS.push; rw [if_neg (by rw [hfit]; simp), if_pos hro])
    have e2 : (p.room : Int) < (p.left : Int) + (l.length : Int) := by omega
    clear h hO hS hb hd
    go_enter Try.func11, Try.ntmps11
    go_wp2_with (go_at_call 25; refine (H.out.live ok).mono ?_; rintro e w2 ⟨rfl, hw⟩; obtain rfl := hw.symm)
    refine (decode_any a cap l _ hl hcap hcm HB.out).mono ?_
    rw [HD.out]
    rintro e w3 ⟨a3, c3, rfl, -, -, -, hB3⟩
    dsimp only [Pk.val]
    have HB3 := Lib.hid hB3
    clear hB3
    go_upto_region 6 with fail
    obtain ⟨w4, hw4⟩ : ∃ w4, w4 = w3.alloc (.cells #[.bool q.cmd, .bool q.sec, .int .i64 q.apid, .int .i64 q.flags, .int .i64 q.count, .slice a3 q.dat.length c3] 59) := ⟨_, rfl⟩
    rw [← hw4]
    have HB4 : Hid (Below w.heap.size w w4) := Lib.hid (by rw [hw4]; exact al HB3.out _)
    have H4 := Lib.hid (H.out.below HB4.out (Nat.le_refl _))
    have c1 := H4.out.blk.at 1 rfl
    have c2 := H4.out.blk.at 2 rfl
    have hlt4 := H4.out.blk.lt
    clear hw4
    go_wp2_with (go_quiet (fail))
    go_ret
    exact ⟨by rw [HP.out]; rfl, _, by rw [HP.out]; exact H4.out.quiet ⟨_, rfl⟩, .inl rfl, (Fr.of_below HB4.out (Nat.le_refl _)).drewN _⟩
  · have HP : Hid (p.push l = ({ p with L := p.L ++ [l], left := p.left + l.length }, 0)) := Lib.hid (by unfold PS.push; rw [if_neg (by rw [hfit]; simp), if_neg hro])
    have e2 : ¬ (p.room : Int) < (p.left : Int) + (l.length : Int) := by omega
    obtain ⟨m, hm⟩ : ∃ m, m = p.L.length := ⟨_, rfl⟩
    have hm9 : m ≤ 200000 := by have := ok.few; omega
    have HM := Lib.hid hm
    obtain ⟨aw, nw, cw, rfl⟩ := own_slice hO
    rw [← hm] at hO
    have HO := Lib.hid hO
    have hash : a = none ∨ ∃ b off, a = some ⟨b, off, none⟩ := by
      rcases hb with h9 | ⟨b9, o9, h9, -⟩
      · rw [h9] at hll; simp at hll
      · exact .inr ⟨b9, o9, h9⟩
    have HASH := Lib.hid hash
    obtain ⟨j1, hj1, hz0, hz1, hz2⟩ := info_parts info22
    have HJ1 := Lib.hid hj1
    clear h hO hS hb hd hm hash hj1
    go_enter Try.func11, Try.ntmps11
    go_wp2_with (go_at_call 25; refine (H.out.live ok).mono ?_; rintro e w2 ⟨rfl, hw⟩; obtain rfl := hw.symm)
    refine (decode_any a cap l _ hl hcap hcm HB.out).mono ?_
    rw [HD.out]
    rintro e w3 ⟨a3, c3, rfl, -, -, -, hB3⟩
    dsimp only [Pk.val]
    have HB3 := Lib.hid hB3
    clear hB3
    go_upto_region 6 with fail
    obtain ⟨w4, hw4⟩ : ∃ w4, w4 = w3.alloc (.cells #[.bool q.cmd, .bool q.sec, .int .i64 q.apid, .int .i64 q.flags, .int .i64 q.count, .slice a3 q.dat.length c3] 59) := ⟨_, rfl⟩
    rw [← hw4]
    have HB4 : Hid (Below w.heap.size w w4) := Lib.hid (by rw [hw4]; exact al HB3.out _)
    have H4 := Lib.hid (H.out.below HB4.out (Nat.le_refl _))
    have c1 := H4.out.blk.at 1 rfl
    have c2 := H4.out.blk.at 2 rfl
    have hlt4 := H4.out.blk.lt
    clear hw4
    go_upto_region 8 with (go_quiet (fail))
    obtain ⟨w5, hw5⟩ : ∃ w5, w5 = w4.drewN nq := ⟨_, rfl⟩
    rw [← hw5]
    have H5 : Hid (PAt w5 X b p (.slice aw nw cw) vR) := Lib.hid (by rw [hw5]; exact H4.out.quiet ⟨_, rfl⟩)
    have HB5 : Hid (Below w.heap.size w w5) := Lib.hid (by rw [hw5]; exact HB4.out.trans (Quiet.below ⟨_, rfl⟩))
    have HBX : Hid (BAt w5 a l) := Lib.hid (HB.out.below HB5.out (Nat.le_refl _))
    have c4 := H5.out.blk.at 4 rfl
    have hlt5 := H5.out.blk.lt
    clear hw5 c1 c2
    refine wp_region_held_drew (S := (fun _ => True)) (by kernel_rfl) (by (try dsimp only); all_goals trivial) (fun hHeld => ?_)
    refine wpAnyH_take (i := 0) (oi := (Oper.mk (some 41) (Op.move (Operand.tmp 0)) 25 "packer.go:47" #[] none)) (v := ?_) rfl (by kernel_rfl) (by kernel_rfl) (by kernel_rfl) (fun _ _ _ h => h) (Or.inl ⟨by rfl, ?_⟩) (by assumption) ?_
    rotate_left
    · (intro w hSw; (try dsimp only at hSw); go_simp; first | done | with_reducible rfl)
    (try simp only [Act.put, List.setIfInBounds_toArray, List.set_cons_zero, List.set_cons_succ])
    refine wpAnyH_take (i := 1) (oi := (Oper.mk (some 42) (Op.move (Operand.tmp 0)) 25 "packer.go:47" #[] none)) (v := ?_) rfl (by kernel_rfl) (by kernel_rfl) (by kernel_rfl) (fun _ _ _ h => h) (Or.inl ⟨by rfl, ?_⟩) (by assumption) ?_
    rotate_left
    · (intro w hSw; (try dsimp only at hSw); go_simp; first | done | with_reducible rfl)
    (try simp only [Act.put, List.setIfInBounds_toArray, List.set_cons_zero, List.set_cons_succ])
    refine wpAnyH_take (i := 2) (oi := (Oper.mk (some 43) (Op.nilCheck (Operand.tmp 42)) 0 "packer.go:47" #[Edge.mk 1 Ground.data] none)) (v := ?_) rfl (by kernel_rfl) (by kernel_rfl) (by kernel_rfl) (fun _ _ _ h => h) (Or.inl ⟨by rfl, ?_⟩) (by assumption) ?_
    rotate_left
    · (intro w hSw; (try dsimp only at hSw); go_simp; first | done | with_reducible rfl)
    (try simp only [Act.put, List.setIfInBounds_toArray, List.set_cons_zero, List.set_cons_succ])
    refine wpAnyH_take (i := 3) (oi := (Oper.mk (some 44) (Op.fieldAddr 56 (Operand.tmp 43) 4) 0 "packer.go:47" #[Edge.mk 2 Ground.data] none)) (v := ?_) rfl (by kernel_rfl) (by kernel_rfl) (by kernel_rfl) (fun _ _ _ h => h) (Or.inl ⟨by rfl, ?_⟩) (by assumption) ?_
    rotate_left
    · (intro w hSw; (try dsimp only at hSw); go_simp; first | done | with_reducible rfl)
    (try simp only [Act.put, List.setIfInBounds_toArray, List.set_cons_zero, List.set_cons_succ])
    refine wpAnyH_take (i := 5) (oi := (Oper.mk (some 46) (Op.move (Operand.tmp 1)) 22 "packer.go:47" #[] none)) (v := ?_) rfl (by kernel_rfl) (by kernel_rfl) (by kernel_rfl) (fun _ _ _ h => h) (Or.inl ⟨by rfl, ?_⟩) (by assumption) ?_
    rotate_left
    · (intro w hSw; (try dsimp only at hSw); go_simp; first | done | with_reducible rfl)
    (try simp only [Act.put, List.setIfInBounds_toArray, List.set_cons_zero, List.set_cons_succ])
    refine wpAnyH_ready (rs := [4, 6]) (by kernel_rfl) (by simp) ?_
    refine AllReadyH.cons (o := (Oper.mk (some 45) (Op.load 42 (Operand.tmp 44)) 42 "packer.go:47" #[Edge.mk 3 Ground.data] none)) rfl (fun K hK => ?st4taf69x6) (AllReadyH.cons (o := (Oper.mk (some 47) (Op.call (Call.mk (Callee.value (Operand.func 27)) #[Operand.tmp 46] #[22])) 22 "packer.go:47" #[Edge.mk 5 Ground.data] none)) rfl (fun K hK => ?st6taf69x6) (AllReadyH.nil))
    case' st4taf69x6 =>
      go_simp
      skip
      refine hK.out _ _ (by (try dsimp only); all_goals trivial) (fun hHeld => ?_)
      clear hK K
      (try simp only [Act.put, List.setIfInBounds_toArray, List.set_cons_zero, List.set_cons_succ])
      refine wpAnyH_ready (rs := [6]) (by kernel_rfl) (by simp) ?_
      refine AllReadyH.cons (o := (Oper.mk (some 47) (Op.call (Call.mk (Callee.value (Operand.func 27)) #[Operand.tmp 46] #[22])) 22 "packer.go:47" #[Edge.mk 5 Ground.data] none)) rfl (fun K hK => ?_) (AllReadyH.nil)
      go_simp
      (go_at_call 27; refine (cloneB_any a l.length cap l w5.drew rfl (by omega) (show BAt w5.drew a l from HBX.out) HASH.out).mono ?_; rintro e w6 ⟨v1, rfl, hO1, hB1⟩; obtain ⟨av, mv, cv, rfl⟩ := own_slice hO1; obtain ⟨c4, H6, HX6, HB6, hoc⟩ := pushA H5.out (undrew hB1) (by simpa using hO1); have HS6 := Lib.hid ((HS.out.low2 HB5.out).low2 HB6.out); have HO6 := Lib.hid (own_below (own_below HO.out HB5.out (Nat.le_refl _)) HB6.out (Nat.le_refl _)); have hlt6 := H6.out.blk.lt; clear hO1 hB1)
      refine hK.out _ _ (by (try dsimp only); all_goals trivial) (fun hHeld => ?_)
      clear hK K
      (try simp only [Act.put, List.setIfInBounds_toArray, List.set_cons_zero, List.set_cons_succ])
      refine wpAnyH_ready (rs := [7]) (by kernel_rfl) (by simp) ?_
      refine AllReadyH.cons (o := (Oper.mk (some 48) (Op.buildSlice 42 1 #[(0, Operand.tmp 47)]) 42 "packer.go:47" #[Edge.mk 6 Ground.data] none)) rfl (fun K hK => ?_) (AllReadyH.nil)
      go_simp
      skip
      refine hK.out _ _ (by (try dsimp only); all_goals trivial) (fun hHeld => ?_)
      clear hK K
      (try simp only [Act.put, List.setIfInBounds_toArray, List.set_cons_zero, List.set_cons_succ])
      refine wpAnyH_ready (rs := [8]) (by kernel_rfl) (by simp) ?_
      refine AllReadyH.cons (o := (Oper.mk (some 49) (Op.call (Call.mk (Callee.builtin Builtin.append) #[Operand.tmp 45, Operand.tmp 48] #[42, 42])) 42 "packer.go:47" #[Edge.mk 4 Ground.data, Edge.mk 7 Ground.data, Edge.mk 6 Ground.chain] none)) rfl (fun K hK => ?_) (AllReadyH.nil)
      (refine step_append_src _ (by rfl) (.tmp 45) (.tmp 48) 42 (by rfl) (b + 1) 22 j1 (.slice none 0 0) 24 Try.underlying42 HJ1.out hz0 hz1 hz2 (by rfl) _ m us (by rfl) (own_below HO6.out (al (Below.refl _ _) _) (Nat.le_refl _)) (some ⟨w6.heap.size, 0, none⟩) 1 1 [.slice av mv cv] (by rfl) (by rfl) (one_vat w6 (.slice av mv cv) 22) (by simpa using hoc) (by unfold maxLen; omega) (by omega) (by simp; omega) ?_; intro v8 w8 hown8 hgrow8 hblk8; obtain ⟨a8, n8, c8, rfl⟩ := own_slice hown8; obtain ⟨s1, s2, s3, HF8, HN8, HR8⟩ := pushB H6.out HS6.out HX6.out hown8 hgrow8 (by simpa using hblk8) (by rw [HM.out]); clear hown8 hgrow8 hblk8)
      refine hK.out _ _ (by (try dsimp only); all_goals trivial) (fun hHeld => ?_)
      clear hK K
      (try simp only [Act.put, List.setIfInBounds_toArray, List.set_cons_zero, List.set_cons_succ])
      refine wpAnyH_take (i := 9) (oi := (Oper.mk (some 50) (Op.nilCheck (Operand.tmp 41)) 0 "packer.go:47" #[Edge.mk 0 Ground.data, Edge.mk 0 Ground.phase, Edge.mk 1 Ground.phase, Edge.mk 2 Ground.phase, Edge.mk 3 Ground.phase, Edge.mk 4 Ground.phase, Edge.mk 5 Ground.phase, Edge.mk 6 Ground.phase, Edge.mk 7 Ground.phase, Edge.mk 8 Ground.phase] none)) (v := ?_) rfl (by kernel_rfl) (by kernel_rfl) (by kernel_rfl) (fun _ _ _ h => h) (Or.inl ⟨by rfl, ?_⟩) (by assumption) ?_
      rotate_left
      · (intro w hSw; (try dsimp only at hSw); go_simp; first | done | with_reducible rfl)
      (try simp only [Act.put, List.setIfInBounds_toArray, List.set_cons_zero, List.set_cons_succ])
      refine wpAnyH_take (i := 10) (oi := (Oper.mk (some 51) (Op.fieldAddr 56 (Operand.tmp 50) 4) 0 "packer.go:47" #[Edge.mk 9 Ground.data, Edge.mk 0 Ground.phase, Edge.mk 1 Ground.phase, Edge.mk 2 Ground.phase, Edge.mk 3 Ground.phase, Edge.mk 4 Ground.phase, Edge.mk 5 Ground.phase, Edge.mk 6 Ground.phase, Edge.mk 7 Ground.phase, Edge.mk 8 Ground.phase] none)) (v := ?_) rfl (by kernel_rfl) (by kernel_rfl) (by kernel_rfl) (fun _ _ _ h => h) (Or.inl ⟨by rfl, ?_⟩) (by assumption) ?_
      rotate_left
      · (intro w hSw; (try dsimp only at hSw); go_simp; first | done | with_reducible rfl)
      (try simp only [Act.put, List.setIfInBounds_toArray, List.set_cons_zero, List.set_cons_succ])
      refine wpAnyH_ready (rs := [11]) (by kernel_rfl) (by simp) ?_
      refine AllReadyH.cons (o := (Oper.mk none (Op.store 42 (Operand.tmp 51) (Operand.tmp 49)) 0 "packer.go:47" #[Edge.mk 10 Ground.data, Edge.mk 8 Ground.data, Edge.mk 8 Ground.chain, Edge.mk 0 Ground.phase, Edge.mk 1 Ground.phase, Edge.mk 2 Ground.phase, Edge.mk 3 Ground.phase, Edge.mk 4 Ground.phase, Edge.mk 5 Ground.phase, Edge.mk 6 Ground.phase, Edge.mk 7 Ground.phase, Edge.mk 8 Ground.phase] none)) rfl (fun K hK => ?_) (AllReadyH.nil)
      go_simp
      skip
      refine hK.out _ _ (by (try dsimp only); all_goals trivial) (fun hHeld => ?_)
      clear hK K
      (try simp only [Act.put, List.setIfInBounds_toArray, List.set_cons_zero, List.set_cons_succ])
      refine wpAnyH_done (by kernel_rfl) ?_ _
    case' st6taf69x6 =>
      go_simp
      (go_at_call 27; refine (cloneB_any a l.length cap l w5.drew rfl (by omega) (show BAt w5.drew a l from HBX.out) HASH.out).mono ?_; rintro e w6 ⟨v1, rfl, hO1, hB1⟩; obtain ⟨av, mv, cv, rfl⟩ := own_slice hO1; obtain ⟨c4, H6, HX6, HB6, hoc⟩ := pushA H5.out (undrew hB1) (by simpa using hO1); have HS6 := Lib.hid ((HS.out.low2 HB5.out).low2 HB6.out); have HO6 := Lib.hid (own_below (own_below HO.out HB5.out (Nat.le_refl _)) HB6.out (Nat.le_refl _)); have hlt6 := H6.out.blk.lt; clear hO1 hB1)
      refine hK.out _ _ (by (try dsimp only); all_goals trivial) (fun hHeld => ?_)
      clear hK K
      (try simp only [Act.put, List.setIfInBounds_toArray, List.set_cons_zero, List.set_cons_succ])
      refine wpAnyH_ready (rs := [4, 7]) (by kernel_rfl) (by simp) ?_
      refine AllReadyH.cons (o := (Oper.mk (some 45) (Op.load 42 (Operand.tmp 44)) 42 "packer.go:47" #[Edge.mk 3 Ground.data] none)) rfl (fun K hK => ?st4taf69x13) (AllReadyH.cons (o := (Oper.mk (some 48) (Op.buildSlice 42 1 #[(0, Operand.tmp 47)]) 42 "packer.go:47" #[Edge.mk 6 Ground.data] none)) rfl (fun K hK => ?st7taf69x13) (AllReadyH.nil))
      case' st4taf69x13 =>
        go_simp
        skip
        refine hK.out _ _ (by (try dsimp only); all_goals trivial) (fun hHeld => ?_)
        clear hK K
        (try simp only [Act.put, List.setIfInBounds_toArray, List.set_cons_zero, List.set_cons_succ])
        refine wpAnyH_ready (rs := [7]) (by kernel_rfl) (by simp) ?_
        refine AllReadyH.cons (o := (Oper.mk (some 48) (Op.buildSlice 42 1 #[(0, Operand.tmp 47)]) 42 "packer.go:47" #[Edge.mk 6 Ground.data] none)) rfl (fun K hK => ?_) (AllReadyH.nil)
        go_simp
        skip
        refine hK.out _ _ (by (try dsimp only); all_goals trivial) (fun hHeld => ?_)
        clear hK K
        (try simp only [Act.put, List.setIfInBounds_toArray, List.set_cons_zero, List.set_cons_succ])
        refine wpAnyH_ready (rs := [8]) (by kernel_rfl) (by simp) ?_
        refine AllReadyH.cons (o := (Oper.mk (some 49) (Op.call (Call.mk (Callee.builtin Builtin.append) #[Operand.tmp 45, Operand.tmp 48] #[42, 42])) 42 "packer.go:47" #[Edge.mk 4 Ground.data, Edge.mk 7 Ground.data, Edge.mk 6 Ground.chain] none)) rfl (fun K hK => ?_) (AllReadyH.nil)
        (refine step_append_src _ (by rfl) (.tmp 45) (.tmp 48) 42 (by rfl) (b + 1) 22 j1 (.slice none 0 0) 24 Try.underlying42 HJ1.out hz0 hz1 hz2 (by rfl) _ m us (by rfl) (own_below HO6.out (al (Below.refl _ _) _) (Nat.le_refl _)) (some ⟨w6.heap.size, 0, none⟩) 1 1 [.slice av mv cv] (by rfl) (by rfl) (one_vat w6 (.slice av mv cv) 22) (by simpa using hoc) (by unfold maxLen; omega) (by omega) (by simp; omega) ?_; intro v8 w8 hown8 hgrow8 hblk8; obtain ⟨a8, n8, c8, rfl⟩ := own_slice hown8; obtain ⟨s1, s2, s3, HF8, HN8, HR8⟩ := pushB H6.out HS6.out HX6.out hown8 hgrow8 (by simpa using hblk8) (by rw [HM.out]); clear hown8 hgrow8 hblk8)
        refine hK.out _ _ (by (try dsimp only); all_goals trivial) (fun hHeld => ?_)
        clear hK K
        (try simp only [Act.put, List.setIfInBounds_toArray, List.set_cons_zero, List.set_cons_succ])
        refine wpAnyH_take (i := 9) (oi := (Oper.mk (some 50) (Op.nilCheck (Operand.tmp 41)) 0 "packer.go:47" #[Edge.mk 0 Ground.data, Edge.mk 0 Ground.phase, Edge.mk 1 Ground.phase, Edge.mk 2 Ground.phase, Edge.mk 3 Ground.phase, Edge.mk 4 Ground.phase, Edge.mk 5 Ground.phase, Edge.mk 6 Ground.phase, Edge.mk 7 Ground.phase, Edge.mk 8 Ground.phase] none)) (v := ?_) rfl (by kernel_rfl) (by kernel_rfl) (by kernel_rfl) (fun _ _ _ h => h) (Or.inl ⟨by rfl, ?_⟩) (by assumption) ?_
        rotate_left
        · (intro w hSw; (try dsimp only at hSw); go_simp; first | done | with_reducible rfl)
        (try simp only [Act.put, List.setIfInBounds_toArray, List.set_cons_zero, List.set_cons_succ])
        refine wpAnyH_take (i := 10) (oi := (Oper.mk (some 51) (Op.fieldAddr 56 (Operand.tmp 50) 4) 0 "packer.go:47" #[Edge.mk 9 Ground.data, Edge.mk 0 Ground.phase, Edge.mk 1 Ground.phase, Edge.mk 2 Ground.phase, Edge.mk 3 Ground.phase, Edge.mk 4 Ground.phase, Edge.mk 5 Ground.phase, Edge.mk 6 Ground.phase, Edge.mk 7 Ground.phase, Edge.mk 8 Ground.phase] none)) (v := ?_) rfl (by kernel_rfl) (by kernel_rfl) (by kernel_rfl) (fun _ _ _ h => h) (Or.inl ⟨by rfl, ?_⟩) (by assumption) ?_
        rotate_left
        · (intro w hSw; (try dsimp only at hSw); go_simp; first | done | with_reducible rfl)
        (try simp only [Act.put, List.setIfInBounds_toArray, List.set_cons_zero, List.set_cons_succ])
        refine wpAnyH_ready (rs := [11]) (by kernel_rfl) (by simp) ?_
        refine AllReadyH.cons (o := (Oper.mk none (Op.store 42 (Operand.tmp 51) (Operand.tmp 49)) 0 "packer.go:47" #[Edge.mk 10 Ground.data, Edge.mk 8 Ground.data, Edge.mk 8 Ground.chain, Edge.mk 0 Ground.phase, Edge.mk 1 Ground.phase, Edge.mk 2 Ground.phase, Edge.mk 3 Ground.phase, Edge.mk 4 Ground.phase, Edge.mk 5 Ground.phase, Edge.mk 6 Ground.phase, Edge.mk 7 Ground.phase, Edge.mk 8 Ground.phase] none)) rfl (fun K hK => ?_) (AllReadyH.nil)
        go_simp
        skip
        refine hK.out _ _ (by (try dsimp only); all_goals trivial) (fun hHeld => ?_)
        clear hK K
        (try simp only [Act.put, List.setIfInBounds_toArray, List.set_cons_zero, List.set_cons_succ])
        refine wpAnyH_done (by kernel_rfl) ?_ _
      case' st7taf69x13 =>
        go_simp
        skip
        refine hK.out _ _ (by (try dsimp only); all_goals trivial) (fun hHeld => ?_)
        clear hK K
        (try simp only [Act.put, List.setIfInBounds_toArray, List.set_cons_zero, List.set_cons_succ])
        refine wpAnyH_ready (rs := [4]) (by kernel_rfl) (by simp) ?_
        refine AllReadyH.cons (o := (Oper.mk (some 45) (Op.load 42 (Operand.tmp 44)) 42 "packer.go:47" #[Edge.mk 3 Ground.data] none)) rfl (fun K hK => ?_) (AllReadyH.nil)
        go_simp
        skip
        refine hK.out _ _ (by (try dsimp only); all_goals trivial) (fun hHeld => ?_)
        clear hK K
        (try simp only [Act.put, List.setIfInBounds_toArray, List.set_cons_zero, List.set_cons_succ])
        refine wpAnyH_ready (rs := [8]) (by kernel_rfl) (by simp) ?_
        refine AllReadyH.cons (o := (Oper.mk (some 49) (Op.call (Call.mk (Callee.builtin Builtin.append) #[Operand.tmp 45, Operand.tmp 48] #[42, 42])) 42 "packer.go:47" #[Edge.mk 4 Ground.data, Edge.mk 7 Ground.data, Edge.mk 6 Ground.chain] none)) rfl (fun K hK => ?_) (AllReadyH.nil)
        (refine step_append_src _ (by rfl) (.tmp 45) (.tmp 48) 42 (by rfl) (b + 1) 22 j1 (.slice none 0 0) 24 Try.underlying42 HJ1.out hz0 hz1 hz2 (by rfl) _ m us (by rfl) (own_below HO6.out (al (Below.refl _ _) _) (Nat.le_refl _)) (some ⟨w6.heap.size, 0, none⟩) 1 1 [.slice av mv cv] (by rfl) (by rfl) (one_vat w6 (.slice av mv cv) 22) (by simpa using hoc) (by unfold maxLen; omega) (by omega) (by simp; omega) ?_; intro v8 w8 hown8 hgrow8 hblk8; obtain ⟨a8, n8, c8, rfl⟩ := own_slice hown8; obtain ⟨s1, s2, s3, HF8, HN8, HR8⟩ := pushB H6.out HS6.out HX6.out hown8 hgrow8 (by simpa using hblk8) (by rw [HM.out]); clear hown8 hgrow8 hblk8)
        refine hK.out _ _ (by (try dsimp only); all_goals trivial) (fun hHeld => ?_)
        clear hK K
        (try simp only [Act.put, List.setIfInBounds_toArray, List.set_cons_zero, List.set_cons_succ])
        refine wpAnyH_take (i := 9) (oi := (Oper.mk (some 50) (Op.nilCheck (Operand.tmp 41)) 0 "packer.go:47" #[Edge.mk 0 Ground.data, Edge.mk 0 Ground.phase, Edge.mk 1 Ground.phase, Edge.mk 2 Ground.phase, Edge.mk 3 Ground.phase, Edge.mk 4 Ground.phase, Edge.mk 5 Ground.phase, Edge.mk 6 Ground.phase, Edge.mk 7 Ground.phase, Edge.mk 8 Ground.phase] none)) (v := ?_) rfl (by kernel_rfl) (by kernel_rfl) (by kernel_rfl) (fun _ _ _ h => h) (Or.inl ⟨by rfl, ?_⟩) (by assumption) ?_
        rotate_left
        · (intro w hSw; (try dsimp only at hSw); go_simp; first | done | with_reducible rfl)
        (try simp only [Act.put, List.setIfInBounds_toArray, List.set_cons_zero, List.set_cons_succ])
        refine wpAnyH_take (i := 10) (oi := (Oper.mk (some 51) (Op.fieldAddr 56 (Operand.tmp 50) 4) 0 "packer.go:47" #[Edge.mk 9 Ground.data, Edge.mk 0 Ground.phase, Edge.mk 1 Ground.phase, Edge.mk 2 Ground.phase, Edge.mk 3 Ground.phase, Edge.mk 4 Ground.phase, Edge.mk 5 Ground.phase, Edge.mk 6 Ground.phase, Edge.mk 7 Ground.phase, Edge.mk 8 Ground.phase] none)) (v := ?_) rfl (by kernel_rfl) (by kernel_rfl) (by kernel_rfl) (fun _ _ _ h => h) (Or.inl ⟨by rfl, ?_⟩) (by assumption) ?_
        rotate_left
        · (intro w hSw; (try dsimp only at hSw); go_simp; first | done | with_reducible rfl)
        (try simp only [Act.put, List.setIfInBounds_toArray, List.set_cons_zero, List.set_cons_succ])
        refine wpAnyH_ready (rs := [11]) (by kernel_rfl) (by simp) ?_
        refine AllReadyH.cons (o := (Oper.mk none (Op.store 42 (Operand.tmp 51) (Operand.tmp 49)) 0 "packer.go:47" #[Edge.mk 10 Ground.data, Edge.mk 8 Ground.data, Edge.mk 8 Ground.chain, Edge.mk 0 Ground.phase, Edge.mk 1 Ground.phase, Edge.mk 2 Ground.phase, Edge.mk 3 Ground.phase, Edge.mk 4 Ground.phase, Edge.mk 5 Ground.phase, Edge.mk 6 Ground.phase, Edge.mk 7 Ground.phase, Edge.mk 8 Ground.phase] none)) rfl (fun K hK => ?_) (AllReadyH.nil)
        go_simp
        skip
        refine hK.out _ _ (by (try dsimp only); all_goals trivial) (fun hHeld => ?_)
        clear hK K
        (try simp only [Act.put, List.setIfInBounds_toArray, List.set_cons_zero, List.set_cons_succ])
        refine wpAnyH_done (by kernel_rfl) ?_ _
    all_goals
      have c2 := HF8.out.blk.at 2 rfl
      have f2 := HF8.out.blk.free 2
      have hlt8 := HF8.out.blk.lt
      go_wp2_with fail
      go_ret
      have hfr : Fr (fun k => k = b) (w8.setCell ⟨b, 4, none⟩ (.slice a8 n8 c8)) ((w8.setCell ⟨b, 4, none⟩ (.slice a8 n8 c8)).setCell ⟨b, 2, none⟩ (.int .i64 ((p.left : Int) + (l.length : Int)))) := frs (Fr.refl _ _) _ _
      have hs5 := HB5.out.size
      have hs6 := HB6.out.size
      refine ⟨by rw [HP.out]; rfl, _, by rw [HP.out]; exact HF8.out.put (Blk.cast (HF8.out.blk.setCell 2 _) (by unfold pcells; simp)) hfr rfl rfl, ?_, (((Fr.of_below HB5.out (Nat.le_refl _)).below HB6.out (Nat.le_refl _)).then HR8.out (fun k hk => .inl hk)).then hfr (fun k hk => .inl (.inl hk))⟩
      rcases HN8.out with e9 | e9
      · exact .inl e9
      · exact .inr fun k hk => by have := e9 k hk; omega
end Go.Proofs.Ytalghcgedmcifaa

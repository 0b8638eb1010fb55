/- Contract of Send. No condition. -/
import Derived.Test.YtjiejpklcjpibaaG
namespace Go.Proofs.Ytjiejpklcjpibaa
open Go.RowKit Go.Deep Go.ChangeShapes Go.WideShapes Go.ChangeAt
set_option linter.unusedVariables false

theorem own_slice {w : World} {B n : Nat} {e : TypeId} {k : Nat} {v : Value} {xs : List Value} (h : w.ownsRow B e k v n xs) : ∃ a m c, v = .slice a m c := by
  rcases h.2 with ⟨rfl, -⟩ | ⟨g, cap, cur, rfl, -⟩
  · exact ⟨_, _, _, rfl⟩
  · exact ⟨_, _, _, rfl⟩
theorem off_slice {w : World} {B : Nat} {e : TypeId} {v : Value} {xs : List Value} (h : OffRow w B e v xs) : ∃ a m c, v = .slice a m c := by
  obtain ⟨a, cap, h, -⟩ := h.vat
  exact ⟨_, _, _, h⟩
theorem sendA {w w1 : World} {X : Nat → Prop} {b : Nat} {f : FS} {vU vC v1 : Value} {l : List UInt8} (h : FAt w X b f vU vC) (hB : Below w.heap.size w w1) (hO : w1.ownsRow w.heap.size 5 1 v1 l.length (encB l)) :
    w1.cell? ⟨b, 1, none⟩ = some vU ∧ Hid (FAt w1 X b f vU vC) ∧ Hid (Sl w1 (Av X b vU) v1 l) ∧ Hid (Below w.heap.size w w1) ∧ v1.oneCell' = true := by
  obtain ⟨-, a1, c1, rfl, hc, hm, hA⟩ := BAt.of_row hO
  refine ⟨(h.below hB (Nat.le_refl _)).blk.at 1 rfl, Lib.hid (h.below hB (Nat.le_refl _)), Lib.hid ⟨a1, c1, rfl, hc, hm, hA, fun q hq hl hav => ?_⟩, Lib.hid hB, rfl⟩
  have h1 := (hO.lt q.block (by rw [hq]; rfl)).1
  rcases hav with h2 | h2 | h2
  · have := h.xlt _ h2; omega
  · have := h.blk.lt; omega
  · have := (h.row _ h2).2; omega
theorem sendB {w1 w8 : World} {X : Nat → Prop} {b : Nat} {f : FS} {vU vC v1 v8 : Value} {l : List UInt8} {us : List Value} {o : Obj} (h : FAt w1 X b f vU vC) (hS : Sls w1 (Av X b vU) us f.units) (hx : Sl w1 (Av X b vU) v1 l) (how : OffRow w8 (b + 1) 23 v8 (us ++ [v1])) (hg : (w1.alloc o).grownBy w8 vU.ownBlock) (hb : v8.ownBlock = vU.ownBlock ∨ v8.ownBlock = some (w1.alloc o).heap.size) :
    w8.cell? ⟨b, 1, none⟩ = some vU ∧ w8.frozen? ⟨b, 1, none⟩ = false ∧ b < w8.heap.size ∧ Hid (FAt (w8.setCell ⟨b, 1, none⟩ v8) X b { f with units := f.units ++ [l] } v8 vC) ∧ Hid (v8.ownBlock = vU.ownBlock ∨ ∀ k, v8.ownBlock = some k → w1.heap.size ≤ k) ∧ Hid (Fr (Mine b vU) w1 (w8.setCell ⟨b, 1, none⟩ v8)) := by
  have hfr : Fr (Mine b vU) w1 w8 := ((Fr.refl _ _).alloc o).grown hg (fun k hk => .inl (.inr hk))
  have hk : Blk w8 b 69 (fcells f vU vC) := (h.blk.alloc o).grown hg (fun e => by have := (h.row b e).1; omega)
  have hn : v8.ownBlock = vU.ownBlock ∨ ∀ k, v8.ownBlock = some k → w1.heap.size ≤ k := by
    rcases hb with e | e
    · exact .inl e
    · right; intro k hk; rw [e] at hk; cases hk; simp
  have hfr2 : Fr (Mine b vU) w1 (w8.setCell ⟨b, 1, none⟩ v8) := hfr.set1 v8 (.inl (.inl rfl))
  refine ⟨hk.at 1 rfl, hk.free 1, hk.lt, Lib.hid ?_, Lib.hid hn, Lib.hid hfr2⟩
  refine h.row_new (us := us ++ [v1]) (Blk.cast (hk.setCell 1 v8) rfl) hfr2 ?_ (hS.append (Sls.one hx)) rfl hn
  exact how.fr (frs (Fr.refl _ _) 1 v8) (fun k hk e => by have := (how.lt k hk).1; omega)
set_option maxRecDepth 20000 in
set_option maxHeartbeats 1000000 in
theorem send_any (X : Nat → Prop) (b : Nat) (f : FS) (vU vC : Value) (a : Option Addr) (cap n : Nat) (l : List UInt8) (w : World) (h : FAt w X b f vU vC) (ok : f.Ok) (hb : BAt w a l) (hn : l.length = n) (hl : n ≤ 100000) :
    Calls Try.prog 10 #[.pointer (some ⟨b, 0, none⟩), .slice a n cap] w fun e w' => e = .returned (.int .i64 (f.send l).2) ∧ ∃ vU', FAt w' X b (f.send l).1 vU' vC ∧ (vU'.ownBlock = vU.ownBlock ∨ ∀ k, vU'.ownBlock = some k → w.heap.size ≤ k) ∧ Fr (Mine b vU) w w' := by
  subst hn
  obtain ⟨us, hO, hS⟩ := h.units
  obtain ⟨au, cu, rfl, hc, hm, -, hub, hn⟩ := hO.vat
  have c1 := h.blk.at 1 rfl
  have c5 := h.blk.at 5 rfl
  have hlt := h.blk.lt
  have H := Lib.hid h
  have HO := Lib.hid hO
  have HS := Lib.hid hS
  have hul := hS.1
  have HUL := Lib.hid hul
  have hfew := ok.few
  have h256 : us.length ≤ 256 := by omega
  have HB := Lib.hid hb
  by_cases hl1 : l.length < 1
  · have HF : Hid (f.send l = (f, 1)) := Lib.hid (by unfold FS.send; rw [if_pos (.inl hl1)])
    have e1 : (l.length : Int) < 1 := by omega
    clear h ok hO hS hl1 hul hfew hb
    go_enter Try.func10, Try.ntmps10
    go_wp2_with (go_at_call 30; refine (usable_any b w c5).mono ?_; rintro e w2 ⟨rfl, hw⟩; obtain rfl := hw.symm)
    go_ret
    exact ⟨by rw [HF.out]; rfl, _, by rw [HF.out]; exact H.out, .inl rfl, Fr.refl _ _⟩
  by_cases hl2 : 1017 < l.length
  · have HF : Hid (f.send l = (f, 1)) := Lib.hid (by unfold FS.send; rw [if_pos (.inr hl2)])
    have e0 : ¬ (l.length : Int) < 1 := by omega
    have e1 : 1017 < (l.length : Int) := by omega
    clear h ok hO hS hl1 hul hfew hb
    go_enter Try.func10, Try.ntmps10
    go_wp2_with (go_at_call 30; refine (usable_any b w c5).mono ?_; rintro e w2 ⟨rfl, hw⟩; obtain rfl := hw.symm)
    go_ret
    exact ⟨by rw [HF.out]; rfl, _, by rw [HF.out]; exact H.out, .inl rfl, Fr.refl _ _⟩
  have e0 : ¬ (l.length : Int) < 1 := by omega
  have e1 : ¬ 1017 < (l.length : Int) := by omega
  by_cases hf : 256 ≤ us.length
  · have HF : Hid (f.send l = (f, 7)) := Lib.hid (by unfold FS.send; rw [if_neg (by omega), if_pos (by omega)])
    have e2 : 256 ≤ (us.length : Int) := by omega
    clear h ok hO hS hl1 hul hfew hb hl2
    go_enter Try.func10, Try.ntmps10
    go_wp2_with (go_at_call 30; refine (usable_any b w c5).mono ?_; rintro e w2 ⟨rfl, hw⟩; obtain rfl := hw.symm)
    go_ret
    exact ⟨by rw [HF.out]; rfl, _, by rw [HF.out]; exact H.out, .inl rfl, Fr.refl _ _⟩
  · have HF : Hid (f.send l = ({ f with units := f.units ++ [l] }, 0)) := Lib.hid (by unfold FS.send; rw [if_neg (by omega), if_neg (by omega)])
    have e2 : ¬ 256 ≤ (us.length : Int) := by omega
    obtain ⟨j1, hj1, hz0, hz1, hz2⟩ := info_parts info23
    have HJ1 := Lib.hid hj1
    have hl3 : l.length ≤ 1017 := by omega
    clear h ok hO hS hl1 hul hfew hb hl2 hj1
    go_enter Try.func10, Try.ntmps10
    go_upto_region 7 with (go_at_call 30; refine (usable_any b w c5).mono ?_; rintro e w2 ⟨rfl, hw⟩; obtain rfl := hw.symm)
    refine wp_region_held_drew (S := (fun _ => True)) (by kernel_rfl) (by (try dsimp only); all_goals trivial) (fun hHeld => ?_)
    refine wpAnyH_take (i := 0) (oi := (Oper.mk (some 26) (Op.move (Operand.tmp 0)) 25 "fop.go:93" #[] none)) (v := ?_) rfl (by kernel_rfl) (by kernel_rfl) (by kernel_rfl) (fun _ _ _ h => h) (Or.inl ⟨by rfl, ?_⟩) (by assumption) ?_
    rotate_left
    · (intro w hSw; (try dsimp only at hSw); go_simp; first | done | with_reducible rfl)
    (try simp only [Act.put, List.setIfInBounds_toArray, List.set_cons_zero, List.set_cons_succ])
    refine wpAnyH_take (i := 1) (oi := (Oper.mk (some 27) (Op.move (Operand.tmp 0)) 25 "fop.go:93" #[] none)) (v := ?_) rfl (by kernel_rfl) (by kernel_rfl) (by kernel_rfl) (fun _ _ _ h => h) (Or.inl ⟨by rfl, ?_⟩) (by assumption) ?_
    rotate_left
    · (intro w hSw; (try dsimp only at hSw); go_simp; first | done | with_reducible rfl)
    (try simp only [Act.put, List.setIfInBounds_toArray, List.set_cons_zero, List.set_cons_succ])
    refine wpAnyH_take (i := 2) (oi := (Oper.mk (some 28) (Op.nilCheck (Operand.tmp 27)) 0 "fop.go:93" #[Edge.mk 1 Ground.data] none)) (v := ?_) rfl (by kernel_rfl) (by kernel_rfl) (by kernel_rfl) (fun _ _ _ h => h) (Or.inl ⟨by rfl, ?_⟩) (by assumption) ?_
    rotate_left
    · (intro w hSw; (try dsimp only at hSw); go_simp; first | done | with_reducible rfl)
    (try simp only [Act.put, List.setIfInBounds_toArray, List.set_cons_zero, List.set_cons_succ])
    refine wpAnyH_take (i := 3) (oi := (Oper.mk (some 29) (Op.fieldAddr 69 (Operand.tmp 28) 0) 0 "fop.go:93" #[Edge.mk 2 Ground.data] none)) (v := ?_) rfl (by kernel_rfl) (by kernel_rfl) (by kernel_rfl) (fun _ _ _ h => h) (Or.inl ⟨by rfl, ?_⟩) (by assumption) ?_
    rotate_left
    · (intro w hSw; (try dsimp only at hSw); go_simp; first | done | with_reducible rfl)
    (try simp only [Act.put, List.setIfInBounds_toArray, List.set_cons_zero, List.set_cons_succ])
    refine wpAnyH_take (i := 4) (oi := (Oper.mk (some 30) (Op.fieldAddr 67 (Operand.tmp 29) 1) 0 "fop.go:93" #[Edge.mk 3 Ground.data] none)) (v := ?_) rfl (by kernel_rfl) (by kernel_rfl) (by kernel_rfl) (fun _ _ _ h => h) (Or.inl ⟨by rfl, ?_⟩) (by assumption) ?_
    rotate_left
    · (intro w hSw; (try dsimp only at hSw); go_simp; first | done | with_reducible rfl)
    (try simp only [Act.put, List.setIfInBounds_toArray, List.set_cons_zero, List.set_cons_succ])
    refine wpAnyH_take (i := 6) (oi := (Oper.mk (some 32) (Op.move (Operand.tmp 1)) 23 "fop.go:93" #[] none)) (v := ?_) rfl (by kernel_rfl) (by kernel_rfl) (by kernel_rfl) (fun _ _ _ h => h) (Or.inl ⟨by rfl, ?_⟩) (by assumption) ?_
    rotate_left
    · (intro w hSw; (try dsimp only at hSw); go_simp; first | done | with_reducible rfl)
    (try simp only [Act.put, List.setIfInBounds_toArray, List.set_cons_zero, List.set_cons_succ])
    refine wpAnyH_ready (rs := [5, 7]) (by kernel_rfl) (by simp) ?_
    refine AllReadyH.cons (o := (Oper.mk (some 31) (Op.load 22 (Operand.tmp 30)) 22 "fop.go:93" #[Edge.mk 4 Ground.data] none)) rfl (fun K hK => ?st5t819ax7) (AllReadyH.cons (o := (Oper.mk (some 33) (Op.call (Call.mk (Callee.value (Operand.func 31)) #[Operand.tmp 32] #[23])) 23 "fop.go:93" #[Edge.mk 6 Ground.data] none)) rfl (fun K hK => ?st7t819ax7) (AllReadyH.nil))
    case' st5t819ax7 =>
      go_simp
      skip
      refine hK.out _ _ (by (try dsimp only); all_goals trivial) (fun hHeld => ?_)
      clear hK K
      (try simp only [Act.put, List.setIfInBounds_toArray, List.set_cons_zero, List.set_cons_succ])
      refine wpAnyH_ready (rs := [7]) (by kernel_rfl) (by simp) ?_
      refine AllReadyH.cons (o := (Oper.mk (some 33) (Op.call (Call.mk (Callee.value (Operand.func 31)) #[Operand.tmp 32] #[23])) 23 "fop.go:93" #[Edge.mk 6 Ground.data] none)) rfl (fun K hK => ?_) (AllReadyH.nil)
      go_simp
      (go_at_call 31; refine (clone_n a l.length cap l w.drew rfl (by omega) (show BAt w.drew _ l from HB.out)).mono ?_; rintro e w1 ⟨v1, rfl, hO1, hB1⟩; obtain ⟨av, mv, cv, rfl⟩ := own_slice hO1; obtain ⟨c1, H1, HX1, HB1, hoc⟩ := sendA H.out (undrew hB1) (by simpa using hO1); have HS1 := Lib.hid (HS.out.below (undrew hB1) (Nat.le_refl _)); have HO2 := Lib.hid (HO.out.below (undrew hB1) (Nat.le_refl _)); have hlt1 := H1.out.blk.lt; clear hO1 hB1)
      refine hK.out _ _ (by (try dsimp only); all_goals trivial) (fun hHeld => ?_)
      clear hK K
      (try simp only [Act.put, List.setIfInBounds_toArray, List.set_cons_zero, List.set_cons_succ])
      refine wpAnyH_ready (rs := [8]) (by kernel_rfl) (by simp) ?_
      refine AllReadyH.cons (o := (Oper.mk (some 34) (Op.buildSlice 22 1 #[(0, Operand.tmp 33)]) 22 "fop.go:93" #[Edge.mk 7 Ground.data] none)) rfl (fun K hK => ?_) (AllReadyH.nil)
      go_simp
      skip
      refine hK.out _ _ (by (try dsimp only); all_goals trivial) (fun hHeld => ?_)
      clear hK K
      (try simp only [Act.put, List.setIfInBounds_toArray, List.set_cons_zero, List.set_cons_succ])
      refine wpAnyH_ready (rs := [9]) (by kernel_rfl) (by simp) ?_
      refine AllReadyH.cons (o := (Oper.mk (some 35) (Op.call (Call.mk (Callee.builtin Builtin.append) #[Operand.tmp 31, Operand.tmp 34] #[22, 22])) 22 "fop.go:93" #[Edge.mk 5 Ground.data, Edge.mk 8 Ground.data, Edge.mk 7 Ground.chain] none)) rfl (fun K hK => ?_) (AllReadyH.nil)
      (refine step_append_off _ (by rfl) (.tmp 31) (.tmp 34) 22 (by rfl) (b + 1) 23 j1 (.slice none 0 0) 24 Try.underlying22 HJ1.out hz0 hz1 hz2 (by rfl) _ us (by rfl) (HO2.out.below (al (Below.refl _ _) _) (Nat.le_refl _)) (some ⟨w1.heap.size, 0, none⟩) 1 1 [.slice av mv cv] (by rfl) (by rfl) (one_vat w1 (.slice av mv cv) 23) (by simpa using hoc) (by unfold maxLen; omega) (by omega) (by simp; omega) ?_; intro v8 w8 hown8 hgrow8 hblk8; obtain ⟨a8, n8, c8, rfl⟩ := off_slice hown8; obtain ⟨s1, s2, s3, HF8, HN8, HR8⟩ := sendB H1.out HS1.out HX1.out hown8 hgrow8 hblk8; clear hown8 hgrow8 hblk8)
      refine hK.out _ _ (by (try dsimp only); all_goals trivial) (fun hHeld => ?_)
      clear hK K
      (try simp only [Act.put, List.setIfInBounds_toArray, List.set_cons_zero, List.set_cons_succ])
      refine wpAnyH_take (i := 10) (oi := (Oper.mk (some 36) (Op.nilCheck (Operand.tmp 26)) 0 "fop.go:93" #[Edge.mk 0 Ground.data, Edge.mk 0 Ground.phase, Edge.mk 1 Ground.phase, Edge.mk 2 Ground.phase, Edge.mk 3 Ground.phase, Edge.mk 4 Ground.phase, Edge.mk 5 Ground.phase, Edge.mk 6 Ground.phase, Edge.mk 7 Ground.phase, Edge.mk 8 Ground.phase, Edge.mk 9 Ground.phase] none)) (v := ?_) rfl (by kernel_rfl) (by kernel_rfl) (by kernel_rfl) (fun _ _ _ h => h) (Or.inl ⟨by rfl, ?_⟩) (by assumption) ?_
      rotate_left
      · (intro w hSw; (try dsimp only at hSw); go_simp; first | done | with_reducible rfl)
      (try simp only [Act.put, List.setIfInBounds_toArray, List.set_cons_zero, List.set_cons_succ])
      refine wpAnyH_take (i := 11) (oi := (Oper.mk (some 37) (Op.fieldAddr 69 (Operand.tmp 36) 0) 0 "fop.go:93" #[Edge.mk 10 Ground.data, Edge.mk 0 Ground.phase, Edge.mk 1 Ground.phase, Edge.mk 2 Ground.phase, Edge.mk 3 Ground.phase, Edge.mk 4 Ground.phase, Edge.mk 5 Ground.phase, Edge.mk 6 Ground.phase, Edge.mk 7 Ground.phase, Edge.mk 8 Ground.phase, Edge.mk 9 Ground.phase] none)) (v := ?_) rfl (by kernel_rfl) (by kernel_rfl) (by kernel_rfl) (fun _ _ _ h => h) (Or.inl ⟨by rfl, ?_⟩) (by assumption) ?_
      rotate_left
      · (intro w hSw; (try dsimp only at hSw); go_simp; first | done | with_reducible rfl)
      (try simp only [Act.put, List.setIfInBounds_toArray, List.set_cons_zero, List.set_cons_succ])
      refine wpAnyH_take (i := 12) (oi := (Oper.mk (some 38) (Op.fieldAddr 67 (Operand.tmp 37) 1) 0 "fop.go:93" #[Edge.mk 11 Ground.data, Edge.mk 0 Ground.phase, Edge.mk 1 Ground.phase, Edge.mk 2 Ground.phase, Edge.mk 3 Ground.phase, Edge.mk 4 Ground.phase, Edge.mk 5 Ground.phase, Edge.mk 6 Ground.phase, Edge.mk 7 Ground.phase, Edge.mk 8 Ground.phase, Edge.mk 9 Ground.phase] none)) (v := ?_) rfl (by kernel_rfl) (by kernel_rfl) (by kernel_rfl) (fun _ _ _ h => h) (Or.inl ⟨by rfl, ?_⟩) (by assumption) ?_
      rotate_left
      · (intro w hSw; (try dsimp only at hSw); go_simp; first | done | with_reducible rfl)
      (try simp only [Act.put, List.setIfInBounds_toArray, List.set_cons_zero, List.set_cons_succ])
      refine wpAnyH_ready (rs := [13]) (by kernel_rfl) (by simp) ?_
      refine AllReadyH.cons (o := (Oper.mk none (Op.store 22 (Operand.tmp 38) (Operand.tmp 35)) 0 "fop.go:93" #[Edge.mk 12 Ground.data, Edge.mk 9 Ground.data, Edge.mk 9 Ground.chain, Edge.mk 0 Ground.phase, Edge.mk 1 Ground.phase, Edge.mk 2 Ground.phase, Edge.mk 3 Ground.phase, Edge.mk 4 Ground.phase, Edge.mk 5 Ground.phase, Edge.mk 6 Ground.phase, Edge.mk 7 Ground.phase, Edge.mk 8 Ground.phase, Edge.mk 9 Ground.phase] none)) rfl (fun K hK => ?_) (AllReadyH.nil)
      go_simp
      skip
      refine hK.out _ _ (by (try dsimp only); all_goals trivial) (fun hHeld => ?_)
      clear hK K
      (try simp only [Act.put, List.setIfInBounds_toArray, List.set_cons_zero, List.set_cons_succ])
      refine wpAnyH_done (by kernel_rfl) ?_ _
    case' st7t819ax7 =>
      go_simp
      (go_at_call 31; refine (clone_n a l.length cap l w.drew rfl (by omega) (show BAt w.drew _ l from HB.out)).mono ?_; rintro e w1 ⟨v1, rfl, hO1, hB1⟩; obtain ⟨av, mv, cv, rfl⟩ := own_slice hO1; obtain ⟨c1, H1, HX1, HB1, hoc⟩ := sendA H.out (undrew hB1) (by simpa using hO1); have HS1 := Lib.hid (HS.out.below (undrew hB1) (Nat.le_refl _)); have HO2 := Lib.hid (HO.out.below (undrew hB1) (Nat.le_refl _)); have hlt1 := H1.out.blk.lt; clear hO1 hB1)
      refine hK.out _ _ (by (try dsimp only); all_goals trivial) (fun hHeld => ?_)
      clear hK K
      (try simp only [Act.put, List.setIfInBounds_toArray, List.set_cons_zero, List.set_cons_succ])
      refine wpAnyH_ready (rs := [5, 8]) (by kernel_rfl) (by simp) ?_
      refine AllReadyH.cons (o := (Oper.mk (some 31) (Op.load 22 (Operand.tmp 30)) 22 "fop.go:93" #[Edge.mk 4 Ground.data] none)) rfl (fun K hK => ?st5t819ax15) (AllReadyH.cons (o := (Oper.mk (some 34) (Op.buildSlice 22 1 #[(0, Operand.tmp 33)]) 22 "fop.go:93" #[Edge.mk 7 Ground.data] none)) rfl (fun K hK => ?st8t819ax15) (AllReadyH.nil))
      case' st5t819ax15 =>
        go_simp
        skip
        refine hK.out _ _ (by (try dsimp only); all_goals trivial) (fun hHeld => ?_)
        clear hK K
        (try simp only [Act.put, List.setIfInBounds_toArray, List.set_cons_zero, List.set_cons_succ])
        refine wpAnyH_ready (rs := [8]) (by kernel_rfl) (by simp) ?_
        refine AllReadyH.cons (o := (Oper.mk (some 34) (Op.buildSlice 22 1 #[(0, Operand.tmp 33)]) 22 "fop.go:93" #[Edge.mk 7 Ground.data] none)) rfl (fun K hK => ?_) (AllReadyH.nil)
        go_simp
        skip
        refine hK.out _ _ (by (try dsimp only); all_goals trivial) (fun hHeld => ?_)
        clear hK K
        (try simp only [Act.put, List.setIfInBounds_toArray, List.set_cons_zero, List.set_cons_succ])
        refine wpAnyH_ready (rs := [9]) (by kernel_rfl) (by simp) ?_
        refine AllReadyH.cons (o := (Oper.mk (some 35) (Op.call (Call.mk (Callee.builtin Builtin.append) #[Operand.tmp 31, Operand.tmp 34] #[22, 22])) 22 "fop.go:93" #[Edge.mk 5 Ground.data, Edge.mk 8 Ground.data, Edge.mk 7 Ground.chain] none)) rfl (fun K hK => ?_) (AllReadyH.nil)
        (refine step_append_off _ (by rfl) (.tmp 31) (.tmp 34) 22 (by rfl) (b + 1) 23 j1 (.slice none 0 0) 24 Try.underlying22 HJ1.out hz0 hz1 hz2 (by rfl) _ us (by rfl) (HO2.out.below (al (Below.refl _ _) _) (Nat.le_refl _)) (some ⟨w1.heap.size, 0, none⟩) 1 1 [.slice av mv cv] (by rfl) (by rfl) (one_vat w1 (.slice av mv cv) 23) (by simpa using hoc) (by unfold maxLen; omega) (by omega) (by simp; omega) ?_; intro v8 w8 hown8 hgrow8 hblk8; obtain ⟨a8, n8, c8, rfl⟩ := off_slice hown8; obtain ⟨s1, s2, s3, HF8, HN8, HR8⟩ := sendB H1.out HS1.out HX1.out hown8 hgrow8 hblk8; clear hown8 hgrow8 hblk8)
        refine hK.out _ _ (by (try dsimp only); all_goals trivial) (fun hHeld => ?_)
        clear hK K
        (try simp only [Act.put, List.setIfInBounds_toArray, List.set_cons_zero, List.set_cons_succ])
        refine wpAnyH_take (i := 10) (oi := (Oper.mk (some 36) (Op.nilCheck (Operand.tmp 26)) 0 "fop.go:93" #[Edge.mk 0 Ground.data, Edge.mk 0 Ground.phase, Edge.mk 1 Ground.phase, Edge.mk 2 Ground.phase, Edge.mk 3 Ground.phase, Edge.mk 4 Ground.phase, Edge.mk 5 Ground.phase, Edge.mk 6 Ground.phase, Edge.mk 7 Ground.phase, Edge.mk 8 Ground.phase, Edge.mk 9 Ground.phase] none)) (v := ?_) rfl (by kernel_rfl) (by kernel_rfl) (by kernel_rfl) (fun _ _ _ h => h) (Or.inl ⟨by rfl, ?_⟩) (by assumption) ?_
        rotate_left
        · (intro w hSw; (try dsimp only at hSw); go_simp; first | done | with_reducible rfl)
        (try simp only [Act.put, List.setIfInBounds_toArray, List.set_cons_zero, List.set_cons_succ])
        refine wpAnyH_take (i := 11) (oi := (Oper.mk (some 37) (Op.fieldAddr 69 (Operand.tmp 36) 0) 0 "fop.go:93" #[Edge.mk 10 Ground.data, Edge.mk 0 Ground.phase, Edge.mk 1 Ground.phase, Edge.mk 2 Ground.phase, Edge.mk 3 Ground.phase, Edge.mk 4 Ground.phase, Edge.mk 5 Ground.phase, Edge.mk 6 Ground.phase, Edge.mk 7 Ground.phase, Edge.mk 8 Ground.phase, Edge.mk 9 Ground.phase] none)) (v := ?_) rfl (by kernel_rfl) (by kernel_rfl) (by kernel_rfl) (fun _ _ _ h => h) (Or.inl ⟨by rfl, ?_⟩) (by assumption) ?_
        rotate_left
        · (intro w hSw; (try dsimp only at hSw); go_simp; first | done | with_reducible rfl)
        (try simp only [Act.put, List.setIfInBounds_toArray, List.set_cons_zero, List.set_cons_succ])
        refine wpAnyH_take (i := 12) (oi := (Oper.mk (some 38) (Op.fieldAddr 67 (Operand.tmp 37) 1) 0 "fop.go:93" #[Edge.mk 11 Ground.data, Edge.mk 0 Ground.phase, Edge.mk 1 Ground.phase, Edge.mk 2 Ground.phase, Edge.mk 3 Ground.phase, Edge.mk 4 Ground.phase, Edge.mk 5 Ground.phase, Edge.mk 6 Ground.phase, Edge.mk 7 Ground.phase, Edge.mk 8 Ground.phase, Edge.mk 9 Ground.phase] none)) (v := ?_) rfl (by kernel_rfl) (by kernel_rfl) (by kernel_rfl) (fun _ _ _ h => h) (Or.inl ⟨by rfl, ?_⟩) (by assumption) ?_
        rotate_left
        · (intro w hSw; (try dsimp only at hSw); go_simp; first | done | with_reducible rfl)
        (try simp only [Act.put, List.setIfInBounds_toArray, List.set_cons_zero, List.set_cons_succ])
        refine wpAnyH_ready (rs := [13]) (by kernel_rfl) (by simp) ?_
        refine AllReadyH.cons (o := (Oper.mk none (Op.store 22 (Operand.tmp 38) (Operand.tmp 35)) 0 "fop.go:93" #[Edge.mk 12 Ground.data, Edge.mk 9 Ground.data, Edge.mk 9 Ground.chain, Edge.mk 0 Ground.phase, Edge.mk 1 Ground.phase, Edge.mk 2 Ground.phase, Edge.mk 3 Ground.phase, Edge.mk 4 Ground.phase, Edge.mk 5 Ground.phase, Edge.mk 6 Ground.phase, Edge.mk 7 Ground.phase, Edge.mk 8 Ground.phase, Edge.mk 9 Ground.phase] none)) rfl (fun K hK => ?_) (AllReadyH.nil)
        go_simp
        skip
        refine hK.out _ _ (by (try dsimp only); all_goals trivial) (fun hHeld => ?_)
        clear hK K
        (try simp only [Act.put, List.setIfInBounds_toArray, List.set_cons_zero, List.set_cons_succ])
        refine wpAnyH_done (by kernel_rfl) ?_ _
      case' st8t819ax15 =>
        go_simp
        skip
        refine hK.out _ _ (by (try dsimp only); all_goals trivial) (fun hHeld => ?_)
        clear hK K
        (try simp only [Act.put, List.setIfInBounds_toArray, List.set_cons_zero, List.set_cons_succ])
        refine wpAnyH_ready (rs := [5]) (by kernel_rfl) (by simp) ?_
        refine AllReadyH.cons (o := (Oper.mk (some 31) (Op.load 22 (Operand.tmp 30)) 22 "fop.go:93" #[Edge.mk 4 Ground.data] none)) rfl (fun K hK => ?_) (AllReadyH.nil)
        go_simp
        skip
        refine hK.out _ _ (by (try dsimp only); all_goals trivial) (fun hHeld => ?_)
        clear hK K
        (try simp only [Act.put, List.setIfInBounds_toArray, List.set_cons_zero, List.set_cons_succ])
        refine wpAnyH_ready (rs := [9]) (by kernel_rfl) (by simp) ?_
        refine AllReadyH.cons (o := (Oper.mk (some 35) (Op.call (Call.mk (Callee.builtin Builtin.append) #[Operand.tmp 31, Operand.tmp 34] #[22, 22])) 22 "fop.go:93" #[Edge.mk 5 Ground.data, Edge.mk 8 Ground.data, Edge.mk 7 Ground.chain] none)) rfl (fun K hK => ?_) (AllReadyH.nil)
        (refine step_append_off _ (by rfl) (.tmp 31) (.tmp 34) 22 (by rfl) (b + 1) 23 j1 (.slice none 0 0) 24 Try.underlying22 HJ1.out hz0 hz1 hz2 (by rfl) _ us (by rfl) (HO2.out.below (al (Below.refl _ _) _) (Nat.le_refl _)) (some ⟨w1.heap.size, 0, none⟩) 1 1 [.slice av mv cv] (by rfl) (by rfl) (one_vat w1 (.slice av mv cv) 23) (by simpa using hoc) (by unfold maxLen; omega) (by omega) (by simp; omega) ?_; intro v8 w8 hown8 hgrow8 hblk8; obtain ⟨a8, n8, c8, rfl⟩ := off_slice hown8; obtain ⟨s1, s2, s3, HF8, HN8, HR8⟩ := sendB H1.out HS1.out HX1.out hown8 hgrow8 hblk8; clear hown8 hgrow8 hblk8)
        refine hK.out _ _ (by (try dsimp only); all_goals trivial) (fun hHeld => ?_)
        clear hK K
        (try simp only [Act.put, List.setIfInBounds_toArray, List.set_cons_zero, List.set_cons_succ])
        refine wpAnyH_take (i := 10) (oi := (Oper.mk (some 36) (Op.nilCheck (Operand.tmp 26)) 0 "fop.go:93" #[Edge.mk 0 Ground.data, Edge.mk 0 Ground.phase, Edge.mk 1 Ground.phase, Edge.mk 2 Ground.phase, Edge.mk 3 Ground.phase, Edge.mk 4 Ground.phase, Edge.mk 5 Ground.phase, Edge.mk 6 Ground.phase, Edge.mk 7 Ground.phase, Edge.mk 8 Ground.phase, Edge.mk 9 Ground.phase] none)) (v := ?_) rfl (by kernel_rfl) (by kernel_rfl) (by kernel_rfl) (fun _ _ _ h => h) (Or.inl ⟨by rfl, ?_⟩) (by assumption) ?_
        rotate_left
        · (intro w hSw; (try dsimp only at hSw); go_simp; first | done | with_reducible rfl)
        (try simp only [Act.put, List.setIfInBounds_toArray, List.set_cons_zero, List.set_cons_succ])
        refine wpAnyH_take (i := 11) (oi := (Oper.mk (some 37) (Op.fieldAddr 69 (Operand.tmp 36) 0) 0 "fop.go:93" #[Edge.mk 10 Ground.data, Edge.mk 0 Ground.phase, Edge.mk 1 Ground.phase, Edge.mk 2 Ground.phase, Edge.mk 3 Ground.phase, Edge.mk 4 Ground.phase, Edge.mk 5 Ground.phase, Edge.mk 6 Ground.phase, Edge.mk 7 Ground.phase, Edge.mk 8 Ground.phase, Edge.mk 9 Ground.phase] none)) (v := ?_) rfl (by kernel_rfl) (by kernel_rfl) (by kernel_rfl) (fun _ _ _ h => h) (Or.inl ⟨by rfl, ?_⟩) (by assumption) ?_
        rotate_left
        · (intro w hSw; (try dsimp only at hSw); go_simp; first | done | with_reducible rfl)
        (try simp only [Act.put, List.setIfInBounds_toArray, List.set_cons_zero, List.set_cons_succ])
        refine wpAnyH_take (i := 12) (oi := (Oper.mk (some 38) (Op.fieldAddr 67 (Operand.tmp 37) 1) 0 "fop.go:93" #[Edge.mk 11 Ground.data, Edge.mk 0 Ground.phase, Edge.mk 1 Ground.phase, Edge.mk 2 Ground.phase, Edge.mk 3 Ground.phase, Edge.mk 4 Ground.phase, Edge.mk 5 Ground.phase, Edge.mk 6 Ground.phase, Edge.mk 7 Ground.phase, Edge.mk 8 Ground.phase, Edge.mk 9 Ground.phase] none)) (v := ?_) rfl (by kernel_rfl) (by kernel_rfl) (by kernel_rfl) (fun _ _ _ h => h) (Or.inl ⟨by rfl, ?_⟩) (by assumption) ?_
        rotate_left
        · (intro w hSw; (try dsimp only at hSw); go_simp; first | done | with_reducible rfl)
        (try simp only [Act.put, List.setIfInBounds_toArray, List.set_cons_zero, List.set_cons_succ])
        refine wpAnyH_ready (rs := [13]) (by kernel_rfl) (by simp) ?_
        refine AllReadyH.cons (o := (Oper.mk none (Op.store 22 (Operand.tmp 38) (Operand.tmp 35)) 0 "fop.go:93" #[Edge.mk 12 Ground.data, Edge.mk 9 Ground.data, Edge.mk 9 Ground.chain, Edge.mk 0 Ground.phase, Edge.mk 1 Ground.phase, Edge.mk 2 Ground.phase, Edge.mk 3 Ground.phase, Edge.mk 4 Ground.phase, Edge.mk 5 Ground.phase, Edge.mk 6 Ground.phase, Edge.mk 7 Ground.phase, Edge.mk 8 Ground.phase, Edge.mk 9 Ground.phase] none)) rfl (fun K hK => ?_) (AllReadyH.nil)
        go_simp
        skip
        refine hK.out _ _ (by (try dsimp only); all_goals trivial) (fun hHeld => ?_)
        clear hK K
        (try simp only [Act.put, List.setIfInBounds_toArray, List.set_cons_zero, List.set_cons_succ])
        refine wpAnyH_done (by kernel_rfl) ?_ _
    all_goals
      go_wp2_with fail
      go_ret
      exact ⟨by rw [HF.out]; rfl, _, by rw [HF.out]; exact HF8.out, by
        rcases HN8.out with e | e
        · exact .inl e
        · exact .inr fun k hk => Nat.le_trans HB1.out.size (e k hk), (Fr.of_below HB1.out (Nat.le_refl _)).then HR8.out (fun k hk => .inl hk)⟩
end Go.Proofs.Ytjiejpklcjpibaa

/- The reference's Unlock. No condition. -/
import Derived.Test.YtjiejpklcjpibaaAB
namespace Go.Proofs.Ytjiejpklcjpibaa
open Go.RowKit Go.Deep Go.ChangeShapes Go.WideShapes Go.ChangeAt
set_option linter.unusedVariables false

def RUQ (S : Nat → Prop) (w : World) (g : FS) (e : Ending) (w' : World) : Prop :=
  ∃ vU vC, e = .returned (RFV g vU vC) ∧ SAt w' S vU g.units ∧ CAt w' S vC g.ctls ∧ Below w.heap.size w w'
theorem RM.leave1 {N : Nat} {S : Nat → Prop} {w wx : World} {b br : Nat} {g r : FS} {vU vC : Value} (h : RM N S w wx b br g vU vC) (hr : r = g) (x0 x1 x2 x3 x4 x5 x6 x7 x8 x9 x10 x11 x12 x13 : Value) :
    RUQ S w r (.returned (RFV g vU vC)) (fin14 wx br x0 x1 x2 x3 x4 x5 x6 x7 x8 x9 x10 x11 x12 x13) := by
  subst hr
  have hf := fin14_fr wx br x0 x1 x2 x3 x4 x5 x6 x7 x8 x9 x10 x11 x12 x13
  have h3 := h.hr
  exact ⟨vU, vC, rfl, (h.un.fr hf (fun k hk => .inl (.inr (by omega)))).grow (fun k hk => .inl (.inl hk)), (h.ct.fr hf (fun k hk => .inl (.inr (by omega)))).grow (fun k hk => .inl (.inl hk)), h.bel.trans (hf.toBelow h.bel.size (fun k hk => by omega))⟩
/-- the two control frames -/
theorem runl_ctl {w wz : World} {X : Nat → Prop} {cr ch : Int} {nn : Nat} {a5 a6 : Option Addr} {n5 c5 n6 c6 : Nat} (hX : ∀ k, X k → k < w.heap.size) (hB : Below w.heap.size w wz)
    (hu : wz.ownsRow w.heap.size 5 1 (.slice a5 n5 c5) 1 (encB [0])) (hs : wz.ownsRow w.heap.size 5 1 (.slice a6 n6 c6) 3 (encB [130, 0, UInt8.ofNat nn])) :
    CAt (wz.alloc (.cells #[.bool true, .bool true, .int .i64 cr, .int .i64 ch, .int .i64 0, .slice a5 n5 c5, .bool true, .bool true, .int .i64 cr, .int .i64 ch, .int .i64 0, .slice a6 n6 c6] 33)) X (.slice (some ⟨wz.heap.size, 0, none⟩) 2 2) [Fm.unlock cr ch, Fm.setNext cr ch nn] := by
  have hs1 := hB.size
  have hBa : Below wz.heap.size wz (wz.alloc (.cells #[.bool true, .bool true, .int .i64 cr, .int .i64 ch, .int .i64 0, .slice a5 n5 c5, .bool true, .bool true, .int .i64 cr, .int .i64 ch, .int .i64 0, .slice a6 n6 c6] 33)) := al (Below.refl _ _) _
  have s5 := (own_sl (w := w) (l := [0]) hu hX).below hBa (Nat.le_refl _)
  have s6 := (own_sl (w := w) (l := [130, 0, UInt8.ofNat nn]) hs hX).below hBa (Nat.le_refl _)
  have hk : Blk (wz.alloc (.cells #[.bool true, .bool true, .int .i64 cr, .int .i64 ch, .int .i64 0, .slice a5 n5 c5, .bool true, .bool true, .int .i64 cr, .int .i64 ch, .int .i64 0, .slice a6 n6 c6] 33)) wz.heap.size 33 [.bool true, .bool true, .int .i64 cr, .int .i64 ch, .int .i64 0, .slice a5 n5 c5, .bool true, .bool true, .int .i64 cr, .int .i64 ch, .int .i64 0, .slice a6 n6 c6] := Blk.new wz 33 _
  refine ⟨_, 2, rfl, Nat.le_refl _, by unfold maxLen; omega, .inr ⟨_, 0, rfl, hk.lt, fun hx => by have := hX _ hx; omega, fun i hi => ?_⟩⟩
  match i, hi with
  | 0, _ => exact ⟨hk.at 0 rfl, hk.at 1 rfl, hk.at 2 rfl, hk.at 3 rfl, hk.at 4 rfl, _, hk.at 5 rfl, s5⟩
  | 1, _ => exact ⟨hk.at 6 rfl, hk.at 7 rfl, hk.at 8 rfl, hk.at 9 rfl, hk.at 10 rfl, _, hk.at 11 rfl, s6⟩
set_option maxRecDepth 20000 in
set_option maxHeartbeats 2000000 in
theorem runlock_ref (S : Nat → Prop) (f : FS) (vU vC : Value) (t : Int) (w : World) (hS : ∀ k, S k → k < w.heap.size) (hu : SAt w S vU f.units) (hc : CAt w S vC f.ctls) :
    Calls Try.prog 27 #[RFV f vU vC, .int .i64 t] w (RUQ S w (f.unlock t)) := by
  obtain ⟨aU, cU, rfl, -, -⟩ := hu.len
  obtain ⟨aC, cC, rfl, -⟩ := id hc
  obtain ⟨nU, hnU⟩ : ∃ n, n = f.units.length := ⟨_, rfl⟩
  obtain ⟨nC, hnC⟩ : ∃ n, n = f.ctls.length := ⟨_, rfl⟩
  rw [← hnU] at hu ⊢
  rw [← hnC] at hc ⊢
  obtain ⟨wb, hwb⟩ : ∃ wb, wb = (w.alloc (.cells (rfc f (.slice aU nU cU) (.slice aC nC cC)).toArray 54)).alloc (.cells z14.toArray 54) := ⟨_, rfl⟩
  have HM : Hid (RM 2 S w wb w.heap.size (w.heap.size + 1) f (.slice aU nU cU) (.slice aC nC cC)) := Lib.hid (RM.start (N := 2) hu hc (by rw [hwb]; exact al (al (Below.refl _ _) _) _) (by rw [hwb]; exact (Blk.new w 54 _).alloc _) (by rw [hwb]; exact Blk.newAt (by simp)) (by omega) (by omega) (by omega))
  have HK := Lib.hid HM.out.blk
  have HR := Lib.hid HM.out.res
  have HNU := Lib.hid hnU
  have HNC := Lib.hid hnC
  obtain ⟨g, hg⟩ : ∃ g, g = f.clock t := ⟨_, rfl⟩
  have HG := Lib.hid hg
  unfold rfc z14 at hwb
  clear hu hc hnU hnC hg
  have hwbS : ∀ k, Sv 2 w S k → k < wb.heap.size := fun k hk => by
    have h1 := HR.out.lt
    rcases hk with e | e
    · have := hS k e; omega
    · omega
  have HWS := Lib.hid hwbS
  clear hS hwbS
  unfold RFV
  go_enter Try.func27, Try.ntmps27
  go_upto_region 1 with fail
  rw [← hwb]
  clear hwb
  have x0 := HK.out.at 0 rfl
  have x1 := HK.out.at 1 rfl
  have x2 := HK.out.at 2 rfl
  have x3 := HK.out.at 3 rfl
  have x4 := HK.out.at 4 rfl
  have x5 := HK.out.at 5 rfl
  have x6 := HK.out.at 6 rfl
  have x7 := HK.out.at 7 rfl
  have x8 := HK.out.at 8 rfl
  have x9 := HK.out.at 9 rfl
  have x10 := HK.out.at 10 rfl
  have x11 := HK.out.at 11 rfl
  have x12 := HK.out.at 12 rfl
  have x13 := HK.out.at 13 rfl
  have x14 := HK.out.lt
  go_wp2_with fail
  refine (rat_any f aU nU cU aC nC cC t wb).mono ?_
  rw [← HG.out]
  rintro e w2 ⟨rfl, hB2⟩
  unfold RFV
  have HM2 := Lib.hid (HM.out.below hB2)
  have HB2 := Lib.hid hB2
  clear x0 x1 x2 x3 x4 x5 x6 x7 x8 x9 x10 x11 x12 x13 x14 hB2
  have HK2 := Lib.hid HM2.out.blk
  have x0 := HK2.out.at 0 rfl
  have x1 := HK2.out.at 1 rfl
  have x2 := HK2.out.at 2 rfl
  have x3 := HK2.out.at 3 rfl
  have x4 := HK2.out.at 4 rfl
  have x5 := HK2.out.at 5 rfl
  have x6 := HK2.out.at 6 rfl
  have x7 := HK2.out.at 7 rfl
  have x8 := HK2.out.at 8 rfl
  have x9 := HK2.out.at 9 rfl
  have x10 := HK2.out.at 10 rfl
  have x11 := HK2.out.at 11 rfl
  have x12 := HK2.out.at 12 rfl
  have x13 := HK2.out.at 13 rfl
  have y0 := HK2.out.free 0
  have y1 := HK2.out.free 1
  have y2 := HK2.out.free 2
  have y3 := HK2.out.free 3
  have y4 := HK2.out.free 4
  have y5 := HK2.out.free 5
  have y6 := HK2.out.free 6
  have y7 := HK2.out.free 7
  have y8 := HK2.out.free 8
  have y9 := HK2.out.free 9
  have y10 := HK2.out.free 10
  have y11 := HK2.out.free 11
  have y12 := HK2.out.free 12
  have y13 := HK2.out.free 13
  have x14 := HK2.out.lt
  go_upto_region 2 with fail
  have hF := fin14_fr w2 w.heap.size (.int .i64 g.craft) (.int .i64 g.chan) (.int .i64 (g.size : Int)) (.int .i64 g.tmo) (.int .i64 (g.ret : Int)) (.int .i64 (g.state : Int)) (.slice aU nU cU) (.int .i64 (g.acked : Int)) (.int .i64 (g.flight : Int)) (.int .i64 (g.front : Int)) (.slice aC nC cC) (.int .i64 g.now) (.int .i64 g.timer) (.int .i64 (g.count : Int))
  have hK := fin14_blk HK2.out rfl (.int .i64 g.craft) (.int .i64 g.chan) (.int .i64 (g.size : Int)) (.int .i64 g.tmo) (.int .i64 (g.ret : Int)) (.int .i64 (g.state : Int)) (.slice aU nU cU) (.int .i64 (g.acked : Int)) (.int .i64 (g.flight : Int)) (.int .i64 (g.front : Int)) (.slice aC nC cC) (.int .i64 g.now) (.int .i64 g.timer) (.int .i64 (g.count : Int))
  obtain ⟨wC, hwC⟩ : ∃ wC, wC = fin14 w2 w.heap.size (.int .i64 g.craft) (.int .i64 g.chan) (.int .i64 (g.size : Int)) (.int .i64 g.tmo) (.int .i64 (g.ret : Int)) (.int .i64 (g.state : Int)) (.slice aU nU cU) (.int .i64 (g.acked : Int)) (.int .i64 (g.flight : Int)) (.int .i64 (g.front : Int)) (.slice aC nC cC) (.int .i64 g.now) (.int .i64 g.timer) (.int .i64 (g.count : Int)) := ⟨_, rfl⟩
  rw [← hwC] at hF hK
  unfold fin14 at hwC
  rw [← hwC]
  have HMC : Hid (RM 2 S w wC w.heap.size (w.heap.size + 1) g (.slice aU nU cU) (.slice aC nC cC)) := Lib.hid (HM2.out.num hF hK (by rw [HG.out]; rfl) (by rw [HG.out]; rfl))
  have HFC := Lib.hid hF
  clear hF hK hwC x0 x1 x2 x3 x4 x5 x6 x7 x8 x9 x10 x11 x12 x13 x14 y0 y1 y2 y3 y4 y5 y6 y7 y8 y9 y10 y11 y12 y13
  have EM : Hid ((g.acked : Int).tmod 256 = ((g.acked % 256 : Nat) : Int)) := Lib.hid (by rw [Int.tmod_eq_emod_of_nonneg (by omega)]; omega)
  have hm : g.acked % 256 < 256 := Nat.mod_lt _ (by omega)
  have c0 := HMC.out.blk.at 0 rfl
  have c1 := HMC.out.blk.at 1 rfl
  have c7 := HMC.out.blk.at 7 rfl
  have cl := HMC.out.blk.lt
  refine wp_region_held_drew (S := (fun w' => w'.cell? ⟨w.heap.size, 0, none⟩ = some (.int .i64 g.craft) ∧ w'.cell? ⟨w.heap.size, 1, none⟩ = some (.int .i64 g.chan) ∧ w'.cell? ⟨w.heap.size, 7, none⟩ = some (.int .i64 (g.acked : Int)))) (by kernel_rfl) (by (try dsimp only); first | with_reducible exact ⟨by with_reducible assumption, by with_reducible assumption, by with_reducible assumption⟩ | go_keep) (fun hHeld => ?_)
  refine wpAnyH_take (i := 0) (oi := (Oper.mk (some 8) (Op.fieldAddr 54 (Operand.tmp 2) 0) 0 "ref.go:123" #[] none)) (v := ?_) rfl (by kernel_rfl) (by kernel_rfl) (by kernel_rfl) (fun _ _ _ h => h) (Or.inl ⟨by rfl, ?_⟩) (by assumption) ?_
  rotate_left
  · (intro w hSw; (try dsimp only at hSw); go_simp; first | done | with_reducible rfl)
  (try simp only [Act.put, List.setIfInBounds_toArray, List.set_cons_zero, List.set_cons_succ])
  refine wpAnyH_take (i := 1) (oi := (Oper.mk (some 9) (Op.load 3 (Operand.tmp 8)) 3 "ref.go:123" #[Edge.mk 0 Ground.data] none)) (v := ?_) rfl (by kernel_rfl) (by kernel_rfl) (by kernel_rfl) (fun _ _ _ h => h) (Or.inl ⟨by rfl, ?_⟩) (by assumption) ?_
  rotate_left
  · (intro w hSw; (try dsimp only at hSw); go_simp; first | done | with_reducible rfl)
  (try simp only [Act.put, List.setIfInBounds_toArray, List.set_cons_zero, List.set_cons_succ])
  refine wpAnyH_take (i := 2) (oi := (Oper.mk (some 10) (Op.fieldAddr 54 (Operand.tmp 2) 1) 0 "ref.go:123" #[] none)) (v := ?_) rfl (by kernel_rfl) (by kernel_rfl) (by kernel_rfl) (fun _ _ _ h => h) (Or.inl ⟨by rfl, ?_⟩) (by assumption) ?_
  rotate_left
  · (intro w hSw; (try dsimp only at hSw); go_simp; first | done | with_reducible rfl)
  (try simp only [Act.put, List.setIfInBounds_toArray, List.set_cons_zero, List.set_cons_succ])
  refine wpAnyH_take (i := 3) (oi := (Oper.mk (some 11) (Op.load 3 (Operand.tmp 10)) 3 "ref.go:123" #[Edge.mk 2 Ground.data] none)) (v := ?_) rfl (by kernel_rfl) (by kernel_rfl) (by kernel_rfl) (fun _ _ _ h => h) (Or.inl ⟨by rfl, ?_⟩) (by assumption) ?_
  rotate_left
  · (intro w hSw; (try dsimp only at hSw); go_simp; first | done | with_reducible rfl)
  (try simp only [Act.put, List.setIfInBounds_toArray, List.set_cons_zero, List.set_cons_succ])
  refine wpAnyH_take (i := 5) (oi := (Oper.mk (some 13) (Op.fieldAddr 54 (Operand.tmp 2) 0) 0 "ref.go:123" #[] none)) (v := ?_) rfl (by kernel_rfl) (by kernel_rfl) (by kernel_rfl) (fun _ _ _ h => h) (Or.inl ⟨by rfl, ?_⟩) (by assumption) ?_
  rotate_left
  · (intro w hSw; (try dsimp only at hSw); go_simp; first | done | with_reducible rfl)
  (try simp only [Act.put, List.setIfInBounds_toArray, List.set_cons_zero, List.set_cons_succ])
  refine wpAnyH_take (i := 6) (oi := (Oper.mk (some 14) (Op.load 3 (Operand.tmp 13)) 3 "ref.go:123" #[Edge.mk 5 Ground.data] none)) (v := ?_) rfl (by kernel_rfl) (by kernel_rfl) (by kernel_rfl) (fun _ _ _ h => h) (Or.inl ⟨by rfl, ?_⟩) (by assumption) ?_
  rotate_left
  · (intro w hSw; (try dsimp only at hSw); go_simp; first | done | with_reducible rfl)
  (try simp only [Act.put, List.setIfInBounds_toArray, List.set_cons_zero, List.set_cons_succ])
  refine wpAnyH_take (i := 7) (oi := (Oper.mk (some 15) (Op.fieldAddr 54 (Operand.tmp 2) 1) 0 "ref.go:123" #[] none)) (v := ?_) rfl (by kernel_rfl) (by kernel_rfl) (by kernel_rfl) (fun _ _ _ h => h) (Or.inl ⟨by rfl, ?_⟩) (by assumption) ?_
  rotate_left
  · (intro w hSw; (try dsimp only at hSw); go_simp; first | done | with_reducible rfl)
  (try simp only [Act.put, List.setIfInBounds_toArray, List.set_cons_zero, List.set_cons_succ])
  refine wpAnyH_take (i := 8) (oi := (Oper.mk (some 16) (Op.load 3 (Operand.tmp 15)) 3 "ref.go:123" #[Edge.mk 7 Ground.data] none)) (v := ?_) rfl (by kernel_rfl) (by kernel_rfl) (by kernel_rfl) (fun _ _ _ h => h) (Or.inl ⟨by rfl, ?_⟩) (by assumption) ?_
  rotate_left
  · (intro w hSw; (try dsimp only at hSw); go_simp; first | done | with_reducible rfl)
  (try simp only [Act.put, List.setIfInBounds_toArray, List.set_cons_zero, List.set_cons_succ])
  refine wpAnyH_take (i := 9) (oi := (Oper.mk (some 17) (Op.fieldAddr 54 (Operand.tmp 2) 7) 0 "ref.go:123" #[] none)) (v := ?_) rfl (by kernel_rfl) (by kernel_rfl) (by kernel_rfl) (fun _ _ _ h => h) (Or.inl ⟨by rfl, ?_⟩) (by assumption) ?_
  rotate_left
  · (intro w hSw; (try dsimp only at hSw); go_simp; first | done | with_reducible rfl)
  (try simp only [Act.put, List.setIfInBounds_toArray, List.set_cons_zero, List.set_cons_succ])
  refine wpAnyH_take (i := 10) (oi := (Oper.mk (some 18) (Op.load 3 (Operand.tmp 17)) 3 "ref.go:123" #[Edge.mk 9 Ground.data] none)) (v := ?_) rfl (by kernel_rfl) (by kernel_rfl) (by kernel_rfl) (fun _ _ _ h => h) (Or.inl ⟨by rfl, ?_⟩) (by assumption) ?_
  rotate_left
  · (intro w hSw; (try dsimp only at hSw); go_simp; first | done | with_reducible rfl)
  (try simp only [Act.put, List.setIfInBounds_toArray, List.set_cons_zero, List.set_cons_succ])
  refine wpAnyH_take (i := 11) (oi := (Oper.mk (some 19) (Op.binOp BinOp.rem 3 (Operand.tmp 18) (Operand.const (Value.int IntKind.i64 256)) 3) 3 "ref.go:123" #[Edge.mk 10 Ground.data] none)) (v := ?_) rfl (by kernel_rfl) (by kernel_rfl) (by kernel_rfl) (fun _ _ _ h => h) (Or.inl ⟨by rfl, ?_⟩) (by assumption) ?_
  rotate_left
  · (intro w hSw; (try dsimp only at hSw); go_simp; first | done | with_reducible rfl)
  (try simp only [Act.put, List.setIfInBounds_toArray, List.set_cons_zero, List.set_cons_succ])
  refine wpAnyH_ready (rs := [4]) (by kernel_rfl) (by simp) ?_
  refine AllReadyH.cons (o := (Oper.mk (some 12) (Op.call (Call.mk (Callee.value (Operand.func 21)) #[Operand.tmp 9, Operand.tmp 11] #[3, 3])) 33 "ref.go:123" #[Edge.mk 1 Ground.data, Edge.mk 3 Ground.data] none)) rfl (fun K hK => ?_) (AllReadyH.nil)
  go_simp
  (go_at_call 21; refine (runlock_any _ _ _).mono ?_; rintro e w5 ⟨vu, rfl, hO5, hB5⟩; dsimp only [fmV, Fm.unlock]; obtain ⟨a5, n5, c5', rfl⟩ := own_slice hO5; have hB := undrew hB5; have HM5 := Lib.hid (HMC.out.below hB); have c0 := HM5.out.blk.at 0 rfl; have c1 := HM5.out.blk.at 1 rfl; have c7 := HM5.out.blk.at 7 rfl; have HB5 := Lib.hid hB; have HU5 := Lib.hid hO5; clear hO5 hB5 hB)
  refine hK.out _ _ (by (try dsimp only); first | with_reducible exact ⟨by with_reducible assumption, by with_reducible assumption, by with_reducible assumption⟩ | go_keep) (fun hHeld => ?_)
  clear hK K
  (try simp only [Act.put, List.setIfInBounds_toArray, List.set_cons_zero, List.set_cons_succ])
  refine wpAnyH_ready (rs := [12]) (by kernel_rfl) (by simp) ?_
  refine AllReadyH.cons (o := (Oper.mk (some 20) (Op.call (Call.mk (Callee.value (Operand.func 22)) #[Operand.tmp 14, Operand.tmp 16, Operand.tmp 19] #[3, 3, 3])) 33 "ref.go:123" #[Edge.mk 6 Ground.data, Edge.mk 8 Ground.data, Edge.mk 11 Ground.data, Edge.mk 4 Ground.chain] none)) rfl (fun K hK => ?_) (AllReadyH.nil)
  go_simp
  (go_at_call 22; rw [EM.out]; refine (rsetnext_any _ _ _ hm _).mono ?_; rintro e wz ⟨vs, rfl, hO6, hB6⟩; dsimp only [fmV, Fm.setNext]; obtain ⟨a6, n6, c6', rfl⟩ := own_slice hO6; have HM6 := Lib.hid (HM5.out.below hB6); have c0 := HM6.out.blk.at 0 rfl; have c1 := HM6.out.blk.at 1 rfl; have c7 := HM6.out.blk.at 7 rfl; have HBZ := Lib.hid (HB5.out.trans (hB6.mono HB5.out.size)); have HU : Hid (wz.ownsRow wC.heap.size 5 1 (.slice a5 n5 c5') 1 (encB [0])) := Lib.hid (own_below HU5.out hB6 (Nat.le_refl _)); have HSN : Hid (wz.ownsRow wC.heap.size 5 1 (.slice a6 n6 c6') 3 (encB [130, 0, UInt8.ofNat (g.acked % 256)])) := Lib.hid (own_base hO6 HB5.out.size); clear hO6 hB6)
  refine hK.out _ _ (by (try dsimp only); first | with_reducible exact ⟨by with_reducible assumption, by with_reducible assumption, by with_reducible assumption⟩ | go_keep) (fun hHeld => ?_)
  clear hK K
  (try simp only [Act.put, List.setIfInBounds_toArray, List.set_cons_zero, List.set_cons_succ])
  refine wpAnyH_ready (rs := [13]) (by kernel_rfl) (by simp) ?_
  refine AllReadyH.cons (o := (Oper.mk (some 21) (Op.buildSlice 52 2 #[(0, Operand.tmp 12), (1, Operand.tmp 20)]) 52 "ref.go:123" #[Edge.mk 4 Ground.data, Edge.mk 12 Ground.data] none)) rfl (fun K hK => ?_) (AllReadyH.nil)
  go_simp
  (have h25 := HM6.out.below (al (Below.refl wz.heap.size wz) (.cells #[.bool true, .bool true, .int .i64 g.craft, .int .i64 g.chan, .int .i64 0, .slice a5 n5 c5', .bool true, .bool true, .int .i64 g.craft, .int .i64 g.chan, .int .i64 0, .slice a6 n6 c6'] 33)); have f10 := h25.blk.free 10; have c10 := h25.blk.at 10 rfl; have clz := h25.blk.lt; have c0 := h25.blk.at 0 rfl; have c1 := h25.blk.at 1 rfl; have c7 := h25.blk.at 7 rfl; have H25 := Lib.hid h25; clear h25)
  refine hK.out _ _ (by (try dsimp only); first | with_reducible exact ⟨by with_reducible assumption, by with_reducible assumption, by with_reducible assumption⟩ | go_keep) (fun hHeld => ?_)
  clear hK K
  (try simp only [Act.put, List.setIfInBounds_toArray, List.set_cons_zero, List.set_cons_succ])
  refine wpAnyH_take (i := 14) (oi := (Oper.mk (some 22) (Op.fieldAddr 54 (Operand.tmp 2) 10) 0 "ref.go:123" #[Edge.mk 0 Ground.phase, Edge.mk 1 Ground.phase, Edge.mk 2 Ground.phase, Edge.mk 3 Ground.phase, Edge.mk 4 Ground.phase, Edge.mk 5 Ground.phase, Edge.mk 6 Ground.phase, Edge.mk 7 Ground.phase, Edge.mk 8 Ground.phase, Edge.mk 9 Ground.phase, Edge.mk 10 Ground.phase, Edge.mk 11 Ground.phase, Edge.mk 12 Ground.phase, Edge.mk 13 Ground.phase] none)) (v := ?_) rfl (by kernel_rfl) (by kernel_rfl) (by kernel_rfl) (fun _ _ _ h => h) (Or.inl ⟨by rfl, ?_⟩) (by assumption) ?_
  rotate_left
  · (intro w hSw; (try dsimp only at hSw); go_simp; first | done | with_reducible rfl)
  (try simp only [Act.put, List.setIfInBounds_toArray, List.set_cons_zero, List.set_cons_succ])
  refine wpAnyH_ready (rs := [15]) (by kernel_rfl) (by simp) ?_
  refine AllReadyH.cons (o := (Oper.mk none (Op.store 52 (Operand.tmp 22) (Operand.tmp 21)) 0 "ref.go:123" #[Edge.mk 14 Ground.data, Edge.mk 13 Ground.data, Edge.mk 12 Ground.chain, Edge.mk 0 Ground.phase, Edge.mk 1 Ground.phase, Edge.mk 2 Ground.phase, Edge.mk 3 Ground.phase, Edge.mk 4 Ground.phase, Edge.mk 5 Ground.phase, Edge.mk 6 Ground.phase, Edge.mk 7 Ground.phase, Edge.mk 8 Ground.phase, Edge.mk 9 Ground.phase, Edge.mk 10 Ground.phase, Edge.mk 11 Ground.phase, Edge.mk 12 Ground.phase, Edge.mk 13 Ground.phase] none)) rfl (fun K hK => ?_) (AllReadyH.nil)
  go_simp
  (have k28 := H25.out.blk.setCell 10 (.slice (some ⟨wz.heap.size, 0, none⟩) 2 2); have c0 := k28.at 0 rfl; have c1 := k28.at 1 rfl; have c7 := k28.at 7 rfl; clear k28)
  refine hK.out _ _ (by (try dsimp only); first | with_reducible exact ⟨by with_reducible assumption, by with_reducible assumption, by with_reducible assumption⟩ | go_keep) (fun hHeld => ?_)
  clear hK K
  (try simp only [Act.put, List.setIfInBounds_toArray, List.set_cons_zero, List.set_cons_succ])
  refine wpAnyH_done (by kernel_rfl) ?_ _
  obtain ⟨w8, hw8⟩ : ∃ w8, w8 = (wz.alloc (.cells #[.bool true, .bool true, .int .i64 g.craft, .int .i64 g.chan, .int .i64 0, .slice a5 n5 c5', .bool true, .bool true, .int .i64 g.craft, .int .i64 g.chan, .int .i64 0, .slice a6 n6 c6'] 33)).setCell ⟨w.heap.size, 10, none⟩ (.slice (some ⟨wz.heap.size, 0, none⟩) 2 2) := ⟨_, rfl⟩
  rw [← hw8]
  obtain ⟨g8, hg8⟩ : ∃ g8, g8 = { g with ctls := [Fm.unlock g.craft g.chan, Fm.setNext g.craft g.chan (g.acked % 256)] } := ⟨_, rfl⟩
  have hF8 : Fr (fun k => k = w.heap.size) (wz.alloc (.cells #[.bool true, .bool true, .int .i64 g.craft, .int .i64 g.chan, .int .i64 0, .slice a5 n5 c5', .bool true, .bool true, .int .i64 g.craft, .int .i64 g.chan, .int .i64 0, .slice a6 n6 c6'] 33)) w8 := by rw [hw8]; exact frs (Fr.refl _ _) _ _
  have HMW : Hid (RM 2 S w w8 w.heap.size (w.heap.size + 1) g8 (.slice aU nU cU) (.slice (some ⟨wz.heap.size, 0, none⟩) 2 2)) := Lib.hid (H25.out.put hF8 (by rw [hw8, hg8]; exact Blk.cast (H25.out.blk.setCell 10 _) rfl) (by rw [hg8]; exact H25.out.un.fr hF8 (fun k hk => .inl (.inr (by omega)))) (by
    rw [hg8]
    exact (runl_ctl (w := wC) (fun k hk => by
      have h1 := HMC.out.res.lt
      have h2 := HWS.out k hk
      have h3 := HFC.out.size
      have h4 := HB2.out.size
      omega) HBZ.out HU.out HSN.out).fr hF8 (fun k hk => .inl (.inr (by omega)))))
  have HG8 := Lib.hid hg8
  obtain ⟨zz, hzz⟩ : ∃ zz, zz = wz.heap.size := ⟨_, rfl⟩
  rw [← hzz] at HMW ⊢
  clear hw8 hg8 hF8 hzz c0 c1 c7 cl c10 f10 clz
  have HK8 := Lib.hid HMW.out.blk
  have x0 := HK8.out.at 0 rfl
  have x1 := HK8.out.at 1 rfl
  have x2 := HK8.out.at 2 rfl
  have x3 := HK8.out.at 3 rfl
  have x4 := HK8.out.at 4 rfl
  have x5 := HK8.out.at 5 rfl
  have x6 := HK8.out.at 6 rfl
  have x7 := HK8.out.at 7 rfl
  have x8 := HK8.out.at 8 rfl
  have x9 := HK8.out.at 9 rfl
  have x10 := HK8.out.at 10 rfl
  have x11 := HK8.out.at 11 rfl
  have x12 := HK8.out.at 12 rfl
  have x13 := HK8.out.at 13 rfl
  have y0 := HK8.out.free 0
  have y1 := HK8.out.free 1
  have y2 := HK8.out.free 2
  have y3 := HK8.out.free 3
  have y4 := HK8.out.free 4
  have y5 := HK8.out.free 5
  have y6 := HK8.out.free 6
  have y7 := HK8.out.free 7
  have y8 := HK8.out.free 8
  have y9 := HK8.out.free 9
  have y10 := HK8.out.free 10
  have y11 := HK8.out.free 11
  have y12 := HK8.out.free 12
  have y13 := HK8.out.free 13
  have x14 := HK8.out.lt
  go_upto_region 8 with fail
  obtain ⟨g9, hg9⟩ : ∃ g9, g9 = f.unlock t := ⟨_, rfl⟩
  have hg98 : g9 = { g8 with state := 1, flight := 0, front := 0, count := 0, timer := g8.now } := by rw [hg9, HG8.out, HG.out]; rfl
  obtain ⟨w9, hw9⟩ : ∃ w9, w9 = ((((w8.setCell ⟨w.heap.size, 5, none⟩ (.int .i64 1)).setCell ⟨w.heap.size, 8, none⟩ (.int .i64 0)).setCell ⟨w.heap.size, 9, none⟩ (.int .i64 0)).setCell ⟨w.heap.size, 13, none⟩ (.int .i64 0)).setCell ⟨w.heap.size, 12, none⟩ (.int .i64 g8.now) := ⟨_, rfl⟩
  rw [← hw9]
  have hF9 : Fr (fun k => k = w.heap.size) w8 w9 := by rw [hw9]; exact frs (frs (frs (frs (frs (Fr.refl _ _) _ _) _ _) _ _) _ _) _ _
  have HM : Hid (RM 2 S w w9 w.heap.size (w.heap.size + 1) g9 (.slice aU nU cU) (.slice (some ⟨zz, 0, none⟩) 2 2)) := Lib.hid (HMW.out.num hF9 (by rw [hw9, hg98]; exact Blk.cast (((((HMW.out.blk.setCell 5 _).setCell 8 _).setCell 9 _).setCell 13 _).setCell 12 _) rfl) (by rw [hg98]) (by rw [hg98]))
  have HP : Hid (f.unlock t = g9) := Lib.hid hg9.symm
  have HKN := Lib.hid HM.out.blk
  have HRN := Lib.hid HM.out.res
  clear hg9 hg98 hw9 hF9 x0 x1 x2 x3 x4 x5 x6 x7 x8 x9 x10 x11 x12 x13 x14 y0 y1 y2 y3 y4 y5 y6 y7 y8 y9 y10 y11 y12 y13
  have x0 := HKN.out.at 0 rfl
  have x1 := HKN.out.at 1 rfl
  have x2 := HKN.out.at 2 rfl
  have x3 := HKN.out.at 3 rfl
  have x4 := HKN.out.at 4 rfl
  have x5 := HKN.out.at 5 rfl
  have x6 := HKN.out.at 6 rfl
  have x7 := HKN.out.at 7 rfl
  have x8 := HKN.out.at 8 rfl
  have x9 := HKN.out.at 9 rfl
  have x10 := HKN.out.at 10 rfl
  have x11 := HKN.out.at 11 rfl
  have x12 := HKN.out.at 12 rfl
  have x13 := HKN.out.at 13 rfl
  have x14 := HKN.out.lt
  have d0 := HRN.out.at 0 rfl
  have d1 := HRN.out.at 1 rfl
  have d2 := HRN.out.at 2 rfl
  have d3 := HRN.out.at 3 rfl
  have d4 := HRN.out.at 4 rfl
  have d5 := HRN.out.at 5 rfl
  have d6 := HRN.out.at 6 rfl
  have d7 := HRN.out.at 7 rfl
  have d8 := HRN.out.at 8 rfl
  have d9 := HRN.out.at 9 rfl
  have d10 := HRN.out.at 10 rfl
  have d11 := HRN.out.at 11 rfl
  have d12 := HRN.out.at 12 rfl
  have d13 := HRN.out.at 13 rfl
  have e0 := HRN.out.free 0
  have e1 := HRN.out.free 1
  have e2 := HRN.out.free 2
  have e3 := HRN.out.free 3
  have e4 := HRN.out.free 4
  have e5 := HRN.out.free 5
  have e6 := HRN.out.free 6
  have e7 := HRN.out.free 7
  have e8 := HRN.out.free 8
  have e9 := HRN.out.free 9
  have e10 := HRN.out.free 10
  have e11 := HRN.out.free 11
  have e12 := HRN.out.free 12
  have e13 := HRN.out.free 13
  have d14 := HRN.out.lt
  go_wp2_with fail
  have hb := fin14_blk HRN.out rfl (.int .i64 g9.craft) (.int .i64 g9.chan) (.int .i64 (g9.size : Int)) (.int .i64 g9.tmo) (.int .i64 (g9.ret : Int)) (.int .i64 (g9.state : Int)) (.slice aU nU cU) (.int .i64 (g9.acked : Int)) (.int .i64 (g9.flight : Int)) (.int .i64 (g9.front : Int)) (.slice (some ⟨zz, 0, none⟩) 2 2) (.int .i64 g9.now) (.int .i64 g9.timer) (.int .i64 (g9.count : Int))
  unfold fin14 at hb
  have HRR := Lib.hid hb
  clear hb
  have b0 := HRR.out.at 0 rfl
  have b1 := HRR.out.at 1 rfl
  have b2 := HRR.out.at 2 rfl
  have b3 := HRR.out.at 3 rfl
  have b4 := HRR.out.at 4 rfl
  have b5 := HRR.out.at 5 rfl
  have b6 := HRR.out.at 6 rfl
  have b7 := HRR.out.at 7 rfl
  have b8 := HRR.out.at 8 rfl
  have b9 := HRR.out.at 9 rfl
  have b10 := HRR.out.at 10 rfl
  have b11 := HRR.out.at 11 rfl
  have b12 := HRR.out.at 12 rfl
  have b13 := HRR.out.at 13 rfl
  refine bodyPost_ret (v := .agg #[.int .i64 g9.craft, .int .i64 g9.chan, .int .i64 (g9.size : Int), .int .i64 g9.tmo, .int .i64 (g9.ret : Int), .int .i64 (g9.state : Int), (.slice aU nU cU), .int .i64 (g9.acked : Int), .int .i64 (g9.flight : Int), .int .i64 (g9.front : Int), (.slice (some ⟨zz, 0, none⟩) 2 2), .int .i64 g9.now, .int .i64 g9.timer, .int .i64 (g9.count : Int)]) (by simp [results, Try.results27, go_sem, b0, b1, b2, b3, b4, b5, b6, b7, b8, b9, b10, b11, b12, b13]) rfl ?_
  exact RM.leave1 HM.out HP.out _ _ _ _ _ _ _ _ _ _ _ _ _ _
end Go.Proofs.Ytjiejpklcjpibaa

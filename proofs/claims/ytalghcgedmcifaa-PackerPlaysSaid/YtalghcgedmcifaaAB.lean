/- The reference packer's Push. No condition. -/
import Derived.Test.YtalghcgedmcifaaAA
namespace Go.Proofs.Ytalghcgedmcifaa
open Go.RowKit Go.Deep Go.ChangeShapes Go.WideShapes Go.ChangeAt
set_option linter.unusedVariables false

/-- what the reference's Push leaves -/
def RPQ (w : World) (S : Nat → Prop) (r : PS × Int) (e : Ending) (w' : World) : Prop :=
  ∃ vL, e = .returned (.tuple #[RPV r.1 vL, .int .i64 r.2]) ∧ SAt w' S vL r.1.L ∧ Below w.heap.size w w'
/-- the result is stored -/
def fin5 (wx : World) (H : Nat) (x0 x1 x2 x3 x4 : Value) : World := ((((wx.setCell ⟨H, 0, none⟩ x0).setCell ⟨H, 1, none⟩ x1).setCell ⟨H, 2, none⟩ x2).setCell ⟨H, 3, none⟩ x3).setCell ⟨H, 4, none⟩ x4
theorem fin5_fr (wx : World) (H : Nat) (x0 x1 x2 x3 x4 : Value) : Fr (fun k => k = H) wx (fin5 wx H x0 x1 x2 x3 x4) :=
  (((((Fr.refl _ _).set1 _ (by exact .inl rfl)).set1 _ (by exact .inl rfl)).set1 _ (by exact .inl rfl)).set1 _ (by exact .inl rfl)).set1 _ (by exact .inl rfl)
theorem fin5_blk {wx : World} {H : Nat} {T : TypeId} {c0 c1 c2 c3 c4 : Value} (h : Blk wx H T [c0, c1, c2, c3, c4]) (x0 x1 x2 x3 x4 : Value) : Blk (fin5 wx H x0 x1 x2 x3 x4) H T [x0, x1, x2, x3, x4] :=
  Blk.cast (((((h.setCell 0 x0).setCell 1 x1).setCell 2 x2).setCell 3 x3).setCell 4 x4) rfl
/-- the call's two variables -/
def Sv (w : World) (S : Nat → Prop) (k : Nat) : Prop := S k ∨ w.heap.size ≤ k ∧ k < w.heap.size + 2
theorem RPQ.of {w wx : World} {S : Nat → Prop} {r : PS × Int} {q : PS} {vL : Value} {c : Int} (hr : r = (q, c)) (h : SAt wx (Sv w S) vL q.L) (hB : Below w.heap.size w wx) (x0 x1 x2 x3 x4 : Value) :
    RPQ w S r (.returned (.tuple #[RPV q vL, .int .i64 c])) (fin5 wx (w.heap.size + 1) x0 x1 x2 x3 x4) := by
  subst hr
  exact ⟨vL, rfl, (h.fr (fin5_fr wx _ x0 x1 x2 x3 x4) (fun k hk => .inl (.inr (by omega)))).grow (fun k hk => .inl (.inl hk)), hB.trans ((fin5_fr wx _ x0 x1 x2 x3 x4).toBelow hB.size (fun k hk => by omega))⟩
/-- a new list with one more packet -/
theorem rp_mem {w w5 w6 w8 w10 : World} {S : Nat → Prop} {n m : Nat} {us : List Value} {L : List (List UInt8)} {l : List UInt8} {v6 v8 v10 : Value} {o1 o2 o3 : Obj} (hS : ∀ k, S k → k < w.heap.size) (hls : Sls w S us L) (hm : l.length = m) (hB5 : Below w.heap.size w w5) (h2 : w.heap.size + 2 ≤ w5.heap.size)
    (h6 : w6.ownsRow w5.heap.size 22 1 v6 n us) (g6 : (w5.alloc o1).grownBy w6 (some w5.heap.size))
    (h8 : w8.ownsRow w6.heap.size 5 1 v8 m (encB l)) (g8 : (w6.alloc o2).grownBy w8 (some w6.heap.size))
    (h10 : w10.ownsRow w5.heap.size 22 1 v10 (n + 1) (us ++ [v8])) (g10 : (w8.alloc o3).grownBy w10 v6.ownBlock) : SAt w10 (Sv w S) v10 (L ++ [l]) ∧ Below w5.heap.size w5 w10 := by
  have hB6 : Below w5.heap.size w5 w6 := (al (Below.refl _ _) o1).grown g6 (by simp) (fun k hk => by cases hk; exact Nat.le_refl _)
  have hB8 : Below w6.heap.size w6 w8 := (al (Below.refl _ _) o2).grown g8 (by simp) (fun k hk => by cases hk; exact Nat.le_refl _)
  have hs6 := hB6.size
  have hs8 := hB8.size
  have hl6 := fun k hk => h6.lt k hk
  have hB10 : Below w5.heap.size w8 w10 := ((Below.refl _ w8).alloc (by omega) o3).grown g10 (by simp; omega) (fun k hk => (hl6 k hk).1)
  have hT : Below w5.heap.size w5 w10 := (hB6.trans (hB8.mono hs6)).trans hB10
  refine ⟨?_, hT⟩
  have hW : Below w.heap.size w w10 := hB5.trans (hT.mono hB5.size)
  obtain ⟨-, a8, c8, rfl, hc8, hm8, hA8⟩ := BAt.of_row h8
  have hx : Sl w10 (Sv w S) (.slice a8 l.length c8) l := by
    refine ⟨a8, c8, rfl, hc8, hm8, ?_, fun q hq hl h9 => ?_⟩
    · refine (hA8.below (al (Below.refl _ w8) o3) (Nat.le_refl _)).fr ((Fr.refl (fun k => v6.ownBlock = some k) _).grown g10 (fun k hk => .inl hk)) (fun q hq h9 => ?_)
      have h1 := (h8.lt q.block (by rw [hq]; rfl)).1
      have := (hl6 _ h9).2
      omega
    · have h1 := (h8.lt q.block (by rw [hq]; rfl)).1
      rcases h9 with h9 | h9
      · have := hS _ h9; omega
      · omega
  have hso : Sls w10 (Sv w S) us L := (hls.grow (fun k hk => by
    rcases hk with hk | hk
    · exact .inl hk
    · exact .inr hk.1)).below hW (Nat.le_refl _)
  exact SAt.of_row h10 (hso.append (Sls.one hx)) (fun k hk h9 => by
    have h1 := (h10.lt k hk).1
    rcases h9 with h9 | h9
    · have := hS _ h9; omega
    · omega)
set_option maxRecDepth 20000 in
set_option maxHeartbeats 1000000 in
theorem rpush_any (S : Nat → Prop) (p : PS) (vL : Value) (a : Option Addr) (cap m : Nat) (l : List UInt8) (w : World) (hS : ∀ k, S k → k < w.heap.size) (h : SAt w S vL p.L) (ok : p.Ok) (hb : BAt w a l) (hm : l.length = m) (hl : m ≤ 100000) (hcap : m ≤ cap) (hcm : cap ≤ maxLen) :
    Calls Try.prog 20 #[RPV p vL, .slice a m cap] w (RPQ w S (p.push l)) := by
  obtain ⟨av, cv, rfl, hcv, hmv⟩ := h.len
  obtain ⟨q, nn, er, hd⟩ : ∃ q nn er, decP l = (q, nn, er) := ⟨_, _, _, rfl⟩
  have H := Lib.hid h
  have HB := Lib.hid hb
  have HD := Lib.hid hd
  have HM := Lib.hid hm
  have HS := Lib.hid hS
  have OK := Lib.hid ok
  obtain ⟨n, hn⟩ : ∃ n, n = p.L.length := ⟨_, rfl⟩
  have hfew := ok.few
  rw [← hn] at H hcv hfew ⊢
  have HN := Lib.hid hn
  obtain ⟨wb, hwb⟩ : ∃ wb, wb = (w.alloc (.cells #[.int .i64 (p.size : Int), .int .i64 (p.room : Int), .int .i64 (p.rest.length : Int), .slice av n cv, .int .i64 (p.taken : Int)] 44)).alloc (.cells #[.int .i64 0, .int .i64 0, .int .i64 0, .slice none 0 0, .int .i64 0] 44) := ⟨_, rfl⟩
  have HK : Hid (Blk wb w.heap.size 44 (rpcells p (.slice av n cv))) := Lib.hid (by rw [hwb]; exact (Blk.new w 44 _).alloc _)
  have HK2 : Hid (Blk wb (w.heap.size + 1) 44 [.int .i64 0, .int .i64 0, .int .i64 0, .slice none 0 0, .int .i64 0]) := Lib.hid (by rw [hwb]; exact Blk.newAt (by simp))
  have HBB : Hid (Below w.heap.size w wb) := Lib.hid (by rw [hwb]; exact al (al (Below.refl _ _) _) _)
  have HBA : Hid (BAt wb a l) := Lib.hid (hb.below HBB.out (Nat.le_refl _))
  have HSB : Hid (SAt wb (fun k => S k ∨ w.heap.size ≤ k ∧ k < w.heap.size + 2) (.slice av n cv) p.L) := Lib.hid ((H.out.grow (fun k hk => by
    rcases hk with hk | hk
    · exact .inl hk
    · exact .inr hk.1)).below HBB.out (Nat.le_refl _))
  clear h hb hm hS hd hn ok
  unfold RPV
  go_enter Try.func20, Try.ntmps20
  go_upto_region 1 with fail
  rw [← hwb]
  clear hwb
  go_wp2_with fail
  refine (rdecode_n HM.out (by unfold maxLen; omega) hcap hcm HBA.out).mono ?_
  rw [HD.out]
  rintro e w3 ⟨a3, c3, rfl, -, -, -, hB3⟩
  dsimp only [Pk.val]
  have HB3 := Lib.hid hB3
  have HKb := Lib.hid (HK.out.below hB3 (Nat.le_refl _))
  have HK2b := Lib.hid (HK2.out.below hB3 (Nat.le_refl _))
  clear hB3
  go_upto_region 2 with fail
  obtain ⟨w4, hw4⟩ : ∃ w4, w4 = w3.alloc (.cells #[.bool q.cmd, .bool q.sec, .int .i64 q.apid, .int .i64 q.flags, .int .i64 q.count, .slice a3 q.dat.length c3] 59) := ⟨_, rfl⟩
  rw [← hw4]
  have hBx : Below wb.heap.size wb w4 := by rw [hw4]; exact al HB3.out _
  have HK4 := Lib.hid (HK.out.below hBx (Nat.le_refl _))
  have HK24 := Lib.hid (HK2.out.below hBx (Nat.le_refl _))
  have HS4 : Hid (SAt w4 (Sv w S) (.slice av n cv) p.L) := Lib.hid (HSB.out.below hBx (Nat.le_refl _))
  have HB4 : Hid (Below w.heap.size w w4) := Lib.hid (HBB.out.trans (hBx.mono HBB.out.size))
  have HQ4 := Lib.hid (show Blk w4 w3.heap.size 59 [.bool q.cmd, .bool q.sec, .int .i64 q.apid, .int .i64 q.flags, .int .i64 q.count, .slice a3 q.dat.length c3] by rw [hw4]; exact Blk.new w3 59 _)
  have cq := HQ4.out.at 2 rfl
  clear hw4 hBx
  by_cases he : ¬ er = 0
  · have HP : Hid (p.push l = (p, 1)) := Lib.hid (by unfold PS.push fitB; rw [HD.out]; rw [if_pos (by simp [he])])
    have e1 : (er != 0) = true := by simpa using he
    have HK2E := HK24
    have HSE := HS4
    have HBE := HB4
    have c0 := HK4.out.at 0 rfl
    have c1 := HK4.out.at 1 rfl
    have c2 := HK4.out.at 2 rfl
    have c3 := HK4.out.at 3 rfl
    have c4 := HK4.out.at 4 rfl
    have d0 := HK24.out.at 0 rfl
    have d1 := HK24.out.at 1 rfl
    have d2 := HK24.out.at 2 rfl
    have d3 := HK24.out.at 3 rfl
    have d4 := HK24.out.at 4 rfl
    have f0 := HK24.out.free 0
    have f1 := HK24.out.free 1
    have f2 := HK24.out.free 2
    have f3 := HK24.out.free 3
    have f4 := HK24.out.free 4
    have l1 := HK4.out.lt
    have l2 := HK24.out.lt
    clear he
    go_wp2_with fail
    have b9 := fin5_blk HK2E.out (.int .i64 (p.size : Int)) (.int .i64 (p.room : Int)) (.int .i64 (p.rest.length : Int)) (.slice av n cv) (.int .i64 (p.taken : Int))
    unfold fin5 at b9
    have b0 := b9.at 0 rfl
    have b1 := b9.at 1 rfl
    have b2 := b9.at 2 rfl
    have b3 := b9.at 3 rfl
    have b4 := b9.at 4 rfl
    exact bodyPost_ret (v := .tuple #[RPV p (.slice av n cv), .int .i64 1]) (by simp [results, Try.results20, go_sem, b0, b1, b2, b3, b4, RPV]) rfl (RPQ.of HP.out HSE.out HBE.out _ _ _ _ _)
  have he := Decidable.not_not.1 he
  subst he
  by_cases hnl : ¬ nn = (m : Int)
  · have HP : Hid (p.push l = (p, 1)) := Lib.hid (by unfold PS.push fitB; rw [HD.out]; rw [if_pos (by simp [HM.out, hnl])])
    have e1 : (nn != (m : Int)) = true := by simpa using hnl
    have HK2E := HK24
    have HSE := HS4
    have HBE := HB4
    have c0 := HK4.out.at 0 rfl
    have c1 := HK4.out.at 1 rfl
    have c2 := HK4.out.at 2 rfl
    have c3 := HK4.out.at 3 rfl
    have c4 := HK4.out.at 4 rfl
    have d0 := HK24.out.at 0 rfl
    have d1 := HK24.out.at 1 rfl
    have d2 := HK24.out.at 2 rfl
    have d3 := HK24.out.at 3 rfl
    have d4 := HK24.out.at 4 rfl
    have f0 := HK24.out.free 0
    have f1 := HK24.out.free 1
    have f2 := HK24.out.free 2
    have f3 := HK24.out.free 3
    have f4 := HK24.out.free 4
    have l1 := HK4.out.lt
    have l2 := HK24.out.lt
    clear hnl
    go_wp2_with fail
    have b9 := fin5_blk HK2E.out (.int .i64 (p.size : Int)) (.int .i64 (p.room : Int)) (.int .i64 (p.rest.length : Int)) (.slice av n cv) (.int .i64 (p.taken : Int))
    unfold fin5 at b9
    have b0 := b9.at 0 rfl
    have b1 := b9.at 1 rfl
    have b2 := b9.at 2 rfl
    have b3 := b9.at 3 rfl
    have b4 := b9.at 4 rfl
    exact bodyPost_ret (v := .tuple #[RPV p (.slice av n cv), .int .i64 1]) (by simp [results, Try.results20, go_sem, b0, b1, b2, b3, b4, RPV]) rfl (RPQ.of HP.out HSE.out HBE.out _ _ _ _ _)
  have hnl := Decidable.not_not.1 hnl
  subst hnl
  by_cases hq : q.apid = 2047
  · have HP : Hid (p.push l = (p, 1)) := Lib.hid (by unfold PS.push fitB; rw [HD.out]; rw [if_pos (by simp [hq])])
    have e1 : (q.apid == 2047) = true := by rw [hq]; rfl
    have HK2E := HK24
    have HSE := HS4
    have HBE := HB4
    have c0 := HK4.out.at 0 rfl
    have c1 := HK4.out.at 1 rfl
    have c2 := HK4.out.at 2 rfl
    have c3 := HK4.out.at 3 rfl
    have c4 := HK4.out.at 4 rfl
    have d0 := HK24.out.at 0 rfl
    have d1 := HK24.out.at 1 rfl
    have d2 := HK24.out.at 2 rfl
    have d3 := HK24.out.at 3 rfl
    have d4 := HK24.out.at 4 rfl
    have f0 := HK24.out.free 0
    have f1 := HK24.out.free 1
    have f2 := HK24.out.free 2
    have f3 := HK24.out.free 3
    have f4 := HK24.out.free 4
    have l1 := HK4.out.lt
    have l2 := HK24.out.lt
    clear hq
    go_wp2_with fail
    have b9 := fin5_blk HK2E.out (.int .i64 (p.size : Int)) (.int .i64 (p.room : Int)) (.int .i64 (p.rest.length : Int)) (.slice av n cv) (.int .i64 (p.taken : Int))
    unfold fin5 at b9
    have b0 := b9.at 0 rfl
    have b1 := b9.at 1 rfl
    have b2 := b9.at 2 rfl
    have b3 := b9.at 3 rfl
    have b4 := b9.at 4 rfl
    exact bodyPost_ret (v := .tuple #[RPV p (.slice av n cv), .int .i64 1]) (by simp [results, Try.results20, go_sem, b0, b1, b2, b3, b4, RPV]) rfl (RPQ.of HP.out HSE.out HBE.out _ _ _ _ _)
  have hfit : fitB l = true := by unfold fitB; rw [HD.out]; simp [hq, HM.out]
  have hll := fit_len hfit
  rw [HM.out] at hll
  have e1 : (q.apid == 2047) = false := by rw [beq_eq_false_iff_ne]; exact hq
  have HFIT := Lib.hid hfit
  clear hq hfit
  obtain ⟨lf, hlf⟩ : ∃ lf, lf = p.left := ⟨_, rfl⟩
  have HLF := Lib.hid hlf
  have b1 : lf ≤ 1048576 := by rw [hlf]; have := OK.out.most; have := OK.out.room; omega
  have b3 : p.room ≤ 1048576 := OK.out.room
  have hw : IntKind.i64.wrap ((lf : Int) + (m : Int)) = (lf : Int) + (m : Int) := IntWalk.i64_in _ (by omega)
  have x0 := HK4.out.at 0 rfl
  have x1 := HK4.out.at 1 rfl
  have x2 := HK4.out.at 2 rfl
  have x3 := HK4.out.at 3 rfl
  have x4 := HK4.out.at 4 rfl
  have xl := HK4.out.lt
  clear hlf
  go_upto_region 4 with fail
  clear cq
  refine wp_region_held_drew (S := (fun w' => w'.cell? ⟨w.heap.size, 0, none⟩ = some (.int .i64 (p.size : Int)) ∧ w'.cell? ⟨w.heap.size, 1, none⟩ = some (.int .i64 (p.room : Int)) ∧ w'.cell? ⟨w.heap.size, 2, none⟩ = some (.int .i64 (p.rest.length : Int)) ∧ w'.cell? ⟨w.heap.size, 3, none⟩ = some (.slice av n cv) ∧ w'.cell? ⟨w.heap.size, 4, none⟩ = some (.int .i64 (p.taken : Int)))) (by kernel_rfl) (by (try dsimp only); first | exact ⟨by assumption, by assumption, by assumption, by assumption, by assumption⟩ | go_keep) (fun hHeld => ?_)
  refine wpAnyH_take (i := 0) (oi := (Oper.mk (some 29) (Op.load 44 (Operand.tmp 2)) 44 "ref.go:41" #[] none)) (v := ?_) rfl (by kernel_rfl) (by kernel_rfl) (by kernel_rfl) (fun _ _ _ h => h) (Or.inl ⟨by rfl, ?_⟩) (by assumption) ?_
  rotate_left
  · (intro w hSw; (try dsimp only at hSw); go_simp; first | done | with_reducible rfl)
  (try simp only [Act.put, List.setIfInBounds_toArray, List.set_cons_zero, List.set_cons_succ])
  refine wpAnyH_take (i := 2) (oi := (Oper.mk (some 31) (Op.move (Operand.tmp 1)) 22 "ref.go:41" #[] none)) (v := ?_) rfl (by kernel_rfl) (by kernel_rfl) (by kernel_rfl) (fun _ _ _ h => h) (Or.inl ⟨by rfl, ?_⟩) (by assumption) ?_
  rotate_left
  · (intro w hSw; (try dsimp only at hSw); go_simp; first | done | with_reducible rfl)
  (try simp only [Act.put, List.setIfInBounds_toArray, List.set_cons_zero, List.set_cons_succ])
  refine wpAnyH_take (i := 3) (oi := (Oper.mk (some 32) (Op.call (Call.mk (Callee.builtin Builtin.len) #[Operand.tmp 31] #[22])) 3 "ref.go:41" #[Edge.mk 2 Ground.data] none)) (v := ?_) rfl (by kernel_rfl) (by kernel_rfl) (by kernel_rfl) (fun _ _ _ h => h) (Or.inl ⟨by rfl, ?_⟩) (by assumption) ?_
  rotate_left
  · (intro w hSw; (try dsimp only at hSw); go_simp; first | done | with_reducible rfl)
  (try simp only [Act.put, List.setIfInBounds_toArray, List.set_cons_zero, List.set_cons_succ])
  refine wpAnyH_take (i := 5) (oi := (Oper.mk (some 34) (Op.fieldAddr 44 (Operand.tmp 2) 1) 0 "ref.go:41" #[] none)) (v := ?_) rfl (by kernel_rfl) (by kernel_rfl) (by kernel_rfl) (fun _ _ _ h => h) (Or.inl ⟨by rfl, ?_⟩) (by assumption) ?_
  rotate_left
  · (intro w hSw; (try dsimp only at hSw); go_simp; first | done | with_reducible rfl)
  (try simp only [Act.put, List.setIfInBounds_toArray, List.set_cons_zero, List.set_cons_succ])
  refine wpAnyH_take (i := 6) (oi := (Oper.mk (some 35) (Op.load 3 (Operand.tmp 34)) 3 "ref.go:41" #[Edge.mk 5 Ground.data] none)) (v := ?_) rfl (by kernel_rfl) (by kernel_rfl) (by kernel_rfl) (fun _ _ _ h => h) (Or.inl ⟨by rfl, ?_⟩) (by assumption) ?_
  rotate_left
  · (intro w hSw; (try dsimp only at hSw); go_simp; first | done | with_reducible rfl)
  (try simp only [Act.put, List.setIfInBounds_toArray, List.set_cons_zero, List.set_cons_succ])
  refine wpAnyH_ready (rs := [1]) (by kernel_rfl) (by simp) ?_
  refine AllReadyH.cons (o := (Oper.mk (some 30) (Op.call (Call.mk (Callee.value (Operand.func 22)) #[Operand.tmp 29] #[44])) 3 "ref.go:41" #[Edge.mk 0 Ground.data] none)) rfl (fun K hK => ?_) (AllReadyH.nil)
  go_simp
  (go_at_call 22; refine (rleft_n HLF.out (show SAt w4.drew (Sv w S) (.slice av n cv) p.L from HS4.out) OK.out).mono ?_; rintro e w5 ⟨rfl, hB5⟩; have hB := undrew hB5; have HK5 := Lib.hid (HK4.out.below hB (Nat.le_refl _)); have p0 := HK5.out.at 0 rfl; have p1 := HK5.out.at 1 rfl; have p2 := HK5.out.at 2 rfl; have p3 := HK5.out.at 3 rfl; have p4 := HK5.out.at 4 rfl; have pl5 := HK5.out.lt; have HK25 := Lib.hid (HK24.out.below hB (Nat.le_refl _)); have HS5 := Lib.hid (HS4.out.below hB (Nat.le_refl _)); have HB5 := Lib.hid (HB4.out.trans (hB.mono HB4.out.size)); clear hB5 hB)
  refine hK.out _ _ (by (try dsimp only); first | exact ⟨by assumption, by assumption, by assumption, by assumption, by assumption⟩ | go_keep) (fun hHeld => ?_)
  clear hK K
  (try simp only [Act.put, List.setIfInBounds_toArray, List.set_cons_zero, List.set_cons_succ])
  refine wpAnyH_take (i := 4) (oi := (Oper.mk (some 33) (Op.binOp BinOp.add 3 (Operand.tmp 30) (Operand.tmp 32) 3) 3 "ref.go:41" #[Edge.mk 1 Ground.data, Edge.mk 3 Ground.data] none)) (v := ?_) rfl (by kernel_rfl) (by kernel_rfl) (by kernel_rfl) (fun _ _ _ h => h) (Or.inl ⟨by rfl, ?_⟩) (by assumption) ?_
  rotate_left
  · (intro w hSw; (try dsimp only at hSw); go_simp; first | done | with_reducible rfl)
  (try simp only [Act.put, List.setIfInBounds_toArray, List.set_cons_zero, List.set_cons_succ])
  refine wpAnyH_take (i := 7) (oi := (Oper.mk (some 36) (Op.binOp BinOp.gtr 3 (Operand.tmp 33) (Operand.tmp 35) 3) 4 "ref.go:41" #[Edge.mk 4 Ground.data, Edge.mk 6 Ground.data] none)) (v := ?_) rfl (by kernel_rfl) (by kernel_rfl) (by kernel_rfl) (fun _ _ _ h => h) (Or.inl ⟨by rfl, ?_⟩) (by assumption) ?_
  rotate_left
  · (intro w hSw; (try dsimp only at hSw); go_simp; first | done | with_reducible rfl)
  (try simp only [Act.put, List.setIfInBounds_toArray, List.set_cons_zero, List.set_cons_succ])
  refine wpAnyH_done (by kernel_rfl) ?_ _
  clear x0 x1 x2 x3 x4 xl
  have d0 := HK25.out.at 0 rfl
  have d1 := HK25.out.at 1 rfl
  have d2 := HK25.out.at 2 rfl
  have d3 := HK25.out.at 3 rfl
  have d4 := HK25.out.at 4 rfl
  have f0 := HK25.out.free 0
  have f1 := HK25.out.free 1
  have f2 := HK25.out.free 2
  have f3 := HK25.out.free 3
  have f4 := HK25.out.free 4
  have l2 := HK25.out.lt
  by_cases hro : p.room < p.left + l.length
  · have HP : Hid (p.push l = (p, 7)) := Lib.hid (by unfold PS.push; rw [if_neg (by rw [HFIT.out]; simp), if_pos hro])
    have e2 : (p.room : Int) < (lf : Int) + (m : Int) := by rw [HM.out, ← HLF.out] at hro; omega
    have HK2E := HK25
    have HSE := HS5
    have HBE := HB5
    clear hro
    go_wp2_with fail
    have b9 := fin5_blk HK2E.out (.int .i64 (p.size : Int)) (.int .i64 (p.room : Int)) (.int .i64 (p.rest.length : Int)) (.slice av n cv) (.int .i64 (p.taken : Int))
    unfold fin5 at b9
    have b0 := b9.at 0 rfl
    have b1 := b9.at 1 rfl
    have b2 := b9.at 2 rfl
    have b3 := b9.at 3 rfl
    have b4 := b9.at 4 rfl
    exact bodyPost_ret (v := .tuple #[RPV p (.slice av n cv), .int .i64 7]) (by simp [results, Try.results20, go_sem, b0, b1, b2, b3, b4, RPV]) rfl (RPQ.of HP.out HSE.out HBE.out _ _ _ _ _)
  · have HP : Hid (p.push l = ({ p with L := p.L ++ [l], left := p.left + l.length }, 0)) := Lib.hid (by unfold PS.push; rw [if_neg (by rw [HFIT.out]; simp), if_neg hro])
    have e2 : ¬ (p.room : Int) < (lf : Int) + (m : Int) := by rw [HM.out, ← HLF.out] at hro; omega
    clear hro d0 d1 d2 d3 d4 f0 f1 f2 f3 f4 l2
    have HZ2 : Hid (w.heap.size + 2 ≤ w5.heap.size) := Lib.hid (by have := HK25.out.lt; omega)
    obtain ⟨j0, hj, hy0, hy1, hy2⟩ := info_parts info5
    have HJ := Lib.hid hj
    obtain ⟨j1, hj1, hz0, hz1, hz2⟩ := info_parts info22
    have HJ1 := Lib.hid hj1
    obtain ⟨a', c', us, e, -, -, hV, -, hSl⟩ := H.out
    simp only [Value.slice.injEq] at e
    obtain ⟨e1', -, -⟩ := e
    subst e1'
    have HUL : Hid (us.length = n) := Lib.hid (by rw [hSl.1, HN.out])
    have HSL := Lib.hid hSl
    have H1C := Lib.hid hSl.one_cell
    have HV5 : Hid (∀ o, VAt (w5.alloc o) av us) := Lib.hid (fun o => (hV.below HB5.out (Nat.le_refl _)).below (al (Below.refl _ w5) o) (Nat.le_refl _))
    clear hj hj1 hV hSl
    go_wp2_with (at_builtin; refine wpList_append_src _ rfl (.tmp 38) (.tmp 40) 42 rfl w5.heap.size 22 j1 (.slice none 0 0) 24 Try.underlying42 HJ1.out hz0 hz1 hz2 (by rfl) _ 0 [] rfl (own_empty _ _ w5.heap.size rfl _ (Nat.le_refl _)) av n cv us rfl HUL.out (HV5.out _) H1C.out (by unfold maxLen; omega) (by omega) (by simp) ?_)
    intro v6 w6 hown6 hgrow6 _
    have H6 : Hid (w6.ownsRow w5.heap.size 22 1 v6 n us) := Lib.hid (by simpa using hown6)
    have HG6 : Hid ((w5.alloc (.cells #[] 22)).grownBy w6 (some w5.heap.size)) := Lib.hid hgrow6
    have hB6 : Below w5.heap.size w5 w6 := (al (Below.refl _ _) _).grown HG6.out (by simp) (fun k hk => by cases hk; exact Nat.le_refl _)
    have HB6 := Lib.hid hB6
    have HA6 : Hid (∀ o, VAt (w6.alloc o) a (encB l)) := Lib.hid (fun o => ((HB.out.below (HB5.out.trans (hB6.mono HB5.out.size)) (Nat.le_refl _)).below (al (Below.refl _ w6) o) (Nat.le_refl _)).vat)
    have HEL : Hid ((encB l).length = m) := Lib.hid (by rw [encB_length, HM.out])
    clear hown6 hgrow6 hB6
    go_wp2_with (at_builtin; refine wpList_append_src _ rfl (.tmp 42) (.tmp 43) 22 rfl w6.heap.size 5 j0 (.int .u8 0) 1 Try.underlying22 HJ.out hy0 hy1 hy2 (by rfl) _ 0 [] rfl (own_empty _ _ w6.heap.size rfl _ (Nat.le_refl _)) a m cap (encB l) rfl HEL.out (HA6.out _) (encB_one _) (by unfold maxLen; omega) (by omega) (by simp) ?_)
    intro v8 w8 hown8 hgrow8 _
    obtain ⟨a8, n8, c8, rfl⟩ := own_slice hown8
    have H8 : Hid (w8.ownsRow w6.heap.size 5 1 (.slice a8 n8 c8) m (encB l)) := Lib.hid (by simpa using hown8)
    have HG8 : Hid ((w6.alloc (.cells #[] 5)).grownBy w8 (some w6.heap.size)) := Lib.hid hgrow8
    have hB8 : Below w6.heap.size w6 w8 := (al (Below.refl _ _) _).grown HG8.out (by simp) (fun k hk => by cases hk; exact Nat.le_refl _)
    have HB8 := Lib.hid hB8
    have HO8 : Hid (∀ o, (w8.alloc o).ownsRow w5.heap.size 22 1 v6 n us) := Lib.hid (fun o => own_below H6.out (hB8.trans ((al (Below.refl _ w8) o).mono hB8.size)) (Nat.le_refl _))
    have HV8 : Hid (VAt (w8.alloc (.cells #[.slice a8 n8 c8] 22)) (some ⟨w8.heap.size, 0, none⟩) [.slice a8 n8 c8]) := Lib.hid (one_vat w8 _ 22)
    have h1c : ∀ u ∈ [Value.slice a8 n8 c8], u.oneCell' = true := by
      intro u hu
      rw [List.mem_singleton] at hu
      subst hu
      rfl
    have H1C8 := Lib.hid h1c
    have hs5 : w5.heap.size ≤ w8.heap.size := Nat.le_trans HB6.out.size HB8.out.size
    clear hown8 hgrow8 hB8 h1c
    go_wp2_with (at_builtin; refine wpList_append_src _ rfl (.tmp 41) (.tmp 45) 42 rfl w5.heap.size 22 j1 (.slice none 0 0) 24 Try.underlying42 HJ1.out hz0 hz1 hz2 (by rfl) _ n us rfl (HO8.out _) (some ⟨w8.heap.size, 0, none⟩) 1 1 [.slice a8 n8 c8] rfl (by rfl) HV8.out H1C8.out (by unfold maxLen; omega) (by omega) (by simp; omega) ?_)
    intro v10 w10 hown10 hgrow10 _
    obtain ⟨hm1, hm2⟩ := rp_mem HS.out HSL.out HM.out HB5.out HZ2.out H6.out HG6.out H8.out HG8.out hown10 hgrow10
    obtain ⟨a10, n10, c10, rfl⟩ := own_slice hown10
    have HM1 := Lib.hid hm1
    have HM2 := Lib.hid hm2
    have HK10 := Lib.hid (HK5.out.below hm2 (Nat.le_refl _))
    have HK210 := Lib.hid (HK25.out.below hm2 (Nat.le_refl _))
    have x0 := HK10.out.at 0 rfl
    have x1 := HK10.out.at 1 rfl
    have x2 := HK10.out.at 2 rfl
    have x3 := HK10.out.at 3 rfl
    have x4 := HK10.out.at 4 rfl
    have y3 := HK10.out.free 3
    have xl := HK10.out.lt
    clear hown10 hgrow10 hm1 hm2 p0 p1 p2 p3 p4 pl5
    go_upto_region 7 with fail
    obtain ⟨w11, hw11⟩ : ∃ w11, w11 = w10.setCell ⟨w.heap.size, 3, none⟩ (.slice a10 n10 c10) := ⟨_, rfl⟩
    rw [← hw11]
    have hF11 : Fr (fun k => k = w.heap.size) w10 w11 := by rw [hw11]; exact (Fr.refl _ _).set1 _ (by exact .inl rfl)
    have HK4 : Hid (Blk w11 w.heap.size 44 [.int .i64 (p.size : Int), .int .i64 (p.room : Int), .int .i64 (p.rest.length : Int), .slice a10 n10 c10, .int .i64 (p.taken : Int)]) := Lib.hid (by rw [hw11]; exact Blk.cast (HK10.out.setCell 3 _) rfl)
    have HK24 := Lib.hid (HK210.out.fr hF11 (by omega))
    have HS4 : Hid (SAt w11 (Sv w S) (.slice a10 n10 c10) ({ p with L := p.L ++ [l], left := p.left + l.length } : PS).L) := Lib.hid (HM1.out.fr hF11 (fun k hk => .inl (.inr (by omega))))
    have hs10 := HM2.out.size
    have HB4 : Hid (Below w.heap.size w w11) := Lib.hid ((HB5.out.trans (HM2.out.mono HB5.out.size)).trans (hF11.toBelow (by have := HZ2.out; omega) (fun k hk => by omega)))
    clear x0 x1 x2 x3 x4 y3 xl hF11
    have HK2E := HK24
    have HSE := HS4
    have HBE := HB4
    have c0 := HK4.out.at 0 rfl
    have c1 := HK4.out.at 1 rfl
    have c2 := HK4.out.at 2 rfl
    have c3 := HK4.out.at 3 rfl
    have c4 := HK4.out.at 4 rfl
    have d0 := HK24.out.at 0 rfl
    have d1 := HK24.out.at 1 rfl
    have d2 := HK24.out.at 2 rfl
    have d3 := HK24.out.at 3 rfl
    have d4 := HK24.out.at 4 rfl
    have f0 := HK24.out.free 0
    have f1 := HK24.out.free 1
    have f2 := HK24.out.free 2
    have f3 := HK24.out.free 3
    have f4 := HK24.out.free 4
    have l1 := HK4.out.lt
    have l2 := HK24.out.lt
    clear hw11
    go_wp2_with fail
    have b9 := fin5_blk HK2E.out (.int .i64 (p.size : Int)) (.int .i64 (p.room : Int)) (.int .i64 (p.rest.length : Int)) (.slice a10 n10 c10) (.int .i64 (p.taken : Int))
    unfold fin5 at b9
    have b0 := b9.at 0 rfl
    have b1 := b9.at 1 rfl
    have b2 := b9.at 2 rfl
    have b3 := b9.at 3 rfl
    have b4 := b9.at 4 rfl
    exact bodyPost_ret (v := .tuple #[RPV ({ p with L := p.L ++ [l], left := p.left + l.length } : PS) (.slice a10 n10 c10), .int .i64 0]) (by simp [results, Try.results20, go_sem, b0, b1, b2, b3, b4, RPV]) rfl (RPQ.of HP.out HSE.out HBE.out _ _ _ _ _)
end Go.Proofs.Ytalghcgedmcifaa

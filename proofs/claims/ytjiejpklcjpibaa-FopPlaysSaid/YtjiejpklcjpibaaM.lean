/- Contracts of Next (whole) and of Report. No condition. -/
import Derived.Test.YtjiejpklcjpibaaL
namespace Go.Proofs.Ytjiejpklcjpibaa
open Go.RowKit Go.Deep Go.ChangeShapes Go.WideShapes Go.ChangeAt
set_option linter.unusedVariables false

theorem next_any (X : Nat → Prop) (b : Nat) (f : FS) (vU vC : Value) (t : Int) (w : World) (h : FAt w X b f vU vC) (ok : f.Ok) (hA : f.acked ≤ 1000000000) :
    Calls Try.prog 12 #[.pointer (some ⟨b, 0, none⟩), .int .i64 t] w (NQ w X b vU (f.next t)) := by
  cases hc : f.ctls with
  | cons x xs => exact next_ctl X b f vU vC t w x xs h ok hc
  | nil =>
    by_cases hn : (f.next t).2 = none
    · exact next_none X b f vU vC t w h ok hc hA hn
    · exact next_some X b f vU vC t w h ok hc hA hn
def cwV (c : Cw) : Value := .agg #[.int .i64 c.chan, .bool c.lock, .bool c.wait, .bool c.retr, .int .i64 c.byp, .int .i64 c.next]
def cwC (c : Cw) : List Value := [.int .i64 c.chan, .bool c.lock, .bool c.wait, .bool c.retr, .int .i64 c.byp, .int .i64 c.next]
/-- an answer of Report -/
def RQ (w : World) (X : Nat → Prop) (b : Nat) (vU vC : Value) (p : FS × Int) (e : Ending) (w' : World) : Prop :=
  ∃ vU', e = .returned (.int .i64 p.2) ∧ FAt w' X b p.1 vU' vC ∧ vU'.ownBlock = vU.ownBlock ∧ Fr (fun k => k = b) w w'
theorem RQ.of {w w' : World} {X : Nat → Prop} {b : Nat} {vU vU' vC : Value} {p : FS × Int} {g : FS} {n : Int} (hp : p = (g, n)) (hF : FAt w' X b g vU' vC) (hu : vU'.ownBlock = vU.ownBlock) (hf : Fr (fun k => k = b) w w') : RQ w X b vU vC p (.returned (.int .i64 n)) w' := by
  subst hp
  exact ⟨vU', rfl, hF, hu, hf⟩
theorem FAt.unx {w w4 : World} {X : Nat → Prop} {b : Nat} {f g : FS} {vU vC vU' vC' : Value} (H : FAt w X b f vU vC) (h : FAt w4 (XZ X w) b g vU' vC') (hs : w.heap.size ≤ w4.heap.size) : FAt w4 X b g vU' vC' :=
  h.less (fun k hk => .inl (.inl hk)) (fun k hk => Nat.lt_of_lt_of_le (H.xlt k hk) hs)
set_option maxRecDepth 20000 in
set_option maxHeartbeats 2000000 in
theorem report_any (X : Nat → Prop) (b : Nat) (f : FS) (vU vC : Value) (c : Cw) (t : Int) (w : World) (h : FAt w X b f vU vC) (ok : f.Ok) (hA : f.acked ≤ 1000000000) :
    Calls Try.prog 15 #[.pointer (some ⟨b, 0, none⟩), cwV c, .int .i64 t] w (RQ w X b vU vC (f.report c t)) := by
  obtain ⟨g, hg⟩ : ∃ g, g = f.clock t := ⟨_, rfl⟩
  have okg : g.Ok := by rw [hg]; exact clock_ok ok t
  have hnx : f.report c t = g.heed c := by rw [hg]; rfl
  have hgA : g.acked ≤ 1000000000 := by rw [hg]; exact hA
  rw [hnx]
  obtain ⟨us, hO, hS⟩ := h.units
  obtain ⟨au, cu, rfl, -, -, -, -, -⟩ := hO.vat
  obtain ⟨a1, c1, n1, hvc⟩ : ∃ a c n, vC = .slice a n c := by obtain ⟨a, c, h, -⟩ := h.ctls; exact ⟨a, c, _, h⟩
  subst hvc
  have hlt := h.blk.lt
  have H := Lib.hid h
  have HG := Lib.hid hg
  unfold cwV
  clear h hO hS hnx hA ok hg
  go_enter Try.func15, Try.ntmps15
  go_wp2_with fail
  have HP : Hid (Blk (w.alloc (.cells #[.int .i64 c.chan, .bool c.lock, .bool c.wait, .bool c.retr, .int .i64 c.byp, .int .i64 c.next] 40)) w.heap.size 40 (cwC c)) := Lib.hid (Blk.new w 40 _)
  have c5 := ((H.out.blk.alloc (.cells #[.int .i64 c.chan, .bool c.lock, .bool c.wait, .bool c.retr, .int .i64 c.byp, .int .i64 c.next] 40)).at 5 rfl)
  refine (usable_any b _ c5).mono ?_
  rintro e w2 ⟨rfl, hw⟩
  obtain rfl := hw.symm
  clear c5
  go_wp2_with fail
  refine (clock_any b f _ _ t _ (H.out.blk.alloc _)).mono ?_
  rintro e w3 ⟨rfl, hk, hf⟩
  rw [← HG.out] at hk
  have HP3 := Lib.hid (HP.out.fr hf (by omega))
  have HF3 := Lib.hid (((Fr.refl _ _).alloc _).trans hf)
  have H3 := Lib.hid (show FAt w3 (XZ X w) b g _ _ by rw [HG.out]; exact FAt.put (f := f) (H.out.alloc_x _) (by rw [← HG.out]; exact hk) hf rfl rfl)
  obtain ⟨pc, hpc⟩ : ∃ pc, pc = w.heap.size := ⟨_, rfl⟩
  have p0 := HP3.out.at 0 rfl
  have p1 := HP3.out.at 1 rfl
  have p2 := HP3.out.at 2 rfl
  have p3 := HP3.out.at 3 rfl
  have p4 := HP3.out.at 4 rfl
  have p5 := HP3.out.at 5 rfl
  have pl := HP3.out.lt
  have c7 := H3.out.blk.at 7 rfl
  have hlt3 := H3.out.blk.lt
  clear hk hf HP hpc
  by_cases hv : c.valid = true
  · go_upto_region 4 with fail
    refine wp_region_held_drew (S := (fun w' => w'.cell? ⟨w.heap.size, 0, none⟩ = some (.int .i64 c.chan) ∧ w'.cell? ⟨w.heap.size, 1, none⟩ = some (.bool c.lock) ∧ w'.cell? ⟨w.heap.size, 2, none⟩ = some (.bool c.wait) ∧ w'.cell? ⟨w.heap.size, 3, none⟩ = some (.bool c.retr) ∧ w'.cell? ⟨w.heap.size, 4, none⟩ = some (.int .i64 c.byp) ∧ w'.cell? ⟨w.heap.size, 5, none⟩ = some (.int .i64 c.next) ∧ w'.cell? ⟨b, 7, none⟩ = some (.int .i64 g.chan))) (by kernel_rfl) (by (try dsimp only); first | exact ⟨by assumption, by assumption, by assumption, by assumption, by assumption, by assumption, by assumption⟩ | go_keep) (fun hHeld => ?_)
    refine wpAnyH_take (i := 0) (oi := (Oper.mk (some 14) (Op.load 40 (Operand.tmp 4)) 40 "fop.go:134" #[] none)) (v := ?_) rfl (by kernel_rfl) (by kernel_rfl) (by kernel_rfl) (fun _ _ _ h => h) (Or.inl ⟨by rfl, ?_⟩) (by assumption) ?_
    rotate_left
    · (intro w hSw; (try dsimp only at hSw); go_simp; first | done | with_reducible rfl)
    (try simp only [Act.put, List.setIfInBounds_toArray, List.set_cons_zero, List.set_cons_succ])
    refine wpAnyH_ready (rs := [1]) (by kernel_rfl) (by simp) ?_
    refine AllReadyH.cons (o := (Oper.mk (some 15) (Op.call (Call.mk (Callee.value (Operand.func 36)) #[Operand.tmp 14] #[40])) 4 "fop.go:134" #[Edge.mk 0 Ground.data] none)) rfl (fun K hK => ?_) (AllReadyH.nil)
    go_simp
    (go_at_call 36; refine (cvalid_any c _).mono ?_; rintro e w4 ⟨rfl, hB4⟩; rw [hv]; have hB := undrew hB4; have HP4 := Lib.hid (HP3.out.below hB (Nat.le_refl _)); have p0 := HP4.out.at 0 rfl; have p1 := HP4.out.at 1 rfl; have p2 := HP4.out.at 2 rfl; have p3 := HP4.out.at 3 rfl; have p4 := HP4.out.at 4 rfl; have p5 := HP4.out.at 5 rfl; have pl4 := HP4.out.lt; have H4 : Hid (FAt w4 (XZ X w) b g _ _) := Lib.hid (H3.out.below hB (Nat.le_refl _)); have c7 := H4.out.blk.at 7 rfl; have HB4 := Lib.hid hB; clear hB4 hB)
    refine hK.out _ _ (by (try dsimp only); first | exact ⟨by assumption, by assumption, by assumption, by assumption, by assumption, by assumption, by assumption⟩ | go_keep) (fun hHeld => ?_)
    clear hK K
    (try simp only [Act.put, List.setIfInBounds_toArray, List.set_cons_zero, List.set_cons_succ])
    refine wpAnyH_take (i := 2) (oi := (Oper.mk (some 16) (Op.unOp UnOp.not 4 (Operand.tmp 15)) 4 "fop.go:134" #[Edge.mk 1 Ground.data] none)) (v := ?_) rfl (by kernel_rfl) (by kernel_rfl) (by kernel_rfl) (fun _ _ _ h => h) (Or.inl ⟨by rfl, ?_⟩) (by assumption) ?_
    rotate_left
    · (intro w hSw; (try dsimp only at hSw); go_simp; first | done | with_reducible rfl)
    (try simp only [Act.put, List.setIfInBounds_toArray, List.set_cons_zero, List.set_cons_succ])
    refine wpAnyH_take (i := 3) (oi := (Oper.mk (some 17) (Op.move (Operand.tmp 16)) 4 "fop.go:134" #[Edge.mk 2 Ground.data, Edge.mk 1 Ground.chain] none)) (v := ?_) rfl (by kernel_rfl) (by kernel_rfl) (by kernel_rfl) (fun _ _ _ h => h) (Or.inl ⟨by rfl, ?_⟩) (by assumption) ?_
    rotate_left
    · (intro w hSw; (try dsimp only at hSw); go_simp; first | done | with_reducible rfl)
    (try simp only [Act.put, List.setIfInBounds_toArray, List.set_cons_zero, List.set_cons_succ])
    refine wpAnyH_take (i := 4) (oi := (Oper.mk (some 18) (Op.fieldAddr 40 (Operand.tmp 4) 0) 0 "fop.go:134" #[Edge.mk 3 Ground.guard] (some (3, false)))) (v := ?_) rfl (by kernel_rfl) (by kernel_rfl) (by kernel_rfl) (fun _ _ _ h => h) (Or.inl ⟨by rfl, ?_⟩) (by assumption) ?_
    rotate_left
    · (intro w hSw; (try dsimp only at hSw); go_simp; first | done | with_reducible rfl)
    (try simp only [Act.put, List.setIfInBounds_toArray, List.set_cons_zero, List.set_cons_succ])
    refine wpAnyH_take (i := 5) (oi := (Oper.mk (some 19) (Op.load 3 (Operand.tmp 18)) 3 "fop.go:134" #[Edge.mk 4 Ground.data, Edge.mk 3 Ground.guard] (some (3, false)))) (v := ?_) rfl (by kernel_rfl) (by kernel_rfl) (by kernel_rfl) (fun _ _ _ h => h) (Or.inl ⟨by rfl, ?_⟩) (by assumption) ?_
    rotate_left
    · (intro w hSw; (try dsimp only at hSw); go_simp; first | done | with_reducible rfl)
    (try simp only [Act.put, List.setIfInBounds_toArray, List.set_cons_zero, List.set_cons_succ])
    refine wpAnyH_take (i := 6) (oi := (Oper.mk (some 20) (Op.move (Operand.tmp 0)) 25 "fop.go:134" #[Edge.mk 3 Ground.guard] (some (3, false)))) (v := ?_) rfl (by kernel_rfl) (by kernel_rfl) (by kernel_rfl) (fun _ _ _ h => h) (Or.inl ⟨by rfl, ?_⟩) (by assumption) ?_
    rotate_left
    · (intro w hSw; (try dsimp only at hSw); go_simp; first | done | with_reducible rfl)
    (try simp only [Act.put, List.setIfInBounds_toArray, List.set_cons_zero, List.set_cons_succ])
    refine wpAnyH_take (i := 7) (oi := (Oper.mk (some 21) (Op.nilCheck (Operand.tmp 20)) 0 "fop.go:134" #[Edge.mk 6 Ground.data, Edge.mk 3 Ground.guard] (some (3, false)))) (v := ?_) rfl (by kernel_rfl) (by kernel_rfl) (by kernel_rfl) (fun _ _ _ h => h) (Or.inl ⟨by rfl, ?_⟩) (by assumption) ?_
    rotate_left
    · (intro w hSw; (try dsimp only at hSw); go_simp; first | done | with_reducible rfl)
    (try simp only [Act.put, List.setIfInBounds_toArray, List.set_cons_zero, List.set_cons_succ])
    refine wpAnyH_take (i := 8) (oi := (Oper.mk (some 22) (Op.fieldAddr 69 (Operand.tmp 21) 3) 0 "fop.go:134" #[Edge.mk 7 Ground.data, Edge.mk 3 Ground.guard] (some (3, false)))) (v := ?_) rfl (by kernel_rfl) (by kernel_rfl) (by kernel_rfl) (fun _ _ _ h => h) (Or.inl ⟨by rfl, ?_⟩) (by assumption) ?_
    rotate_left
    · (intro w hSw; (try dsimp only at hSw); go_simp; first | done | with_reducible rfl)
    (try simp only [Act.put, List.setIfInBounds_toArray, List.set_cons_zero, List.set_cons_succ])
    refine wpAnyH_take (i := 9) (oi := (Oper.mk (some 23) (Op.load 3 (Operand.tmp 22)) 3 "fop.go:134" #[Edge.mk 8 Ground.data, Edge.mk 3 Ground.guard] (some (3, false)))) (v := ?_) rfl (by kernel_rfl) (by kernel_rfl) (by kernel_rfl) (fun _ _ _ h => h) (Or.inl ⟨by rfl, ?_⟩) (by assumption) ?_
    rotate_left
    · (intro w hSw; (try dsimp only at hSw); go_simp; first | done | with_reducible rfl)
    (try simp only [Act.put, List.setIfInBounds_toArray, List.set_cons_zero, List.set_cons_succ])
    refine wpAnyH_take (i := 10) (oi := (Oper.mk (some 24) (Op.binOp BinOp.neq 3 (Operand.tmp 19) (Operand.tmp 23) 3) 4 "fop.go:134" #[Edge.mk 5 Ground.data, Edge.mk 9 Ground.data, Edge.mk 3 Ground.guard] (some (3, false)))) (v := ?_) rfl (by kernel_rfl) (by kernel_rfl) (by kernel_rfl) (fun _ _ _ h => h) (Or.inl ⟨by rfl, ?_⟩) (by assumption) ?_
    rotate_left
    · (intro w hSw; (try dsimp only at hSw); go_simp; first | done | with_reducible rfl)
    (try simp only [Act.put, List.setIfInBounds_toArray, List.set_cons_zero, List.set_cons_succ])
    refine wpAnyH_take (i := 11) (oi := (Oper.mk (some 25) (Op.pick (Operand.tmp 17) (Operand.const (Value.bool true)) (Operand.tmp 24)) 4 "fop.go:134" #[Edge.mk 3 Ground.data, Edge.mk 10 Ground.data] none)) (v := ?_) rfl (by kernel_rfl) (by kernel_rfl) (by kernel_rfl) (fun _ _ _ h => h) (Or.inl ⟨by rfl, ?_⟩) (by assumption) ?_
    rotate_left
    · (intro w hSw; (try dsimp only at hSw); go_simp; first | done | with_reducible rfl)
    (try simp only [Act.put, List.setIfInBounds_toArray, List.set_cons_zero, List.set_cons_succ])
    refine wpAnyH_done (by kernel_rfl) ?_ _
    have HF4 : Hid (Fr (fun k => k = b) w w4) := Lib.hid (HF3.out.below HB4.out (Nat.le_refl _))
    have c2 := H4.out.blk.at 2 rfl
    have c4 := H4.out.blk.at 4 rfl
    have c10 := H4.out.blk.at 10 rfl
    have f10 := H4.out.blk.free 10
    have hlt4 := H4.out.blk.lt
    by_cases hch : c.chan = g.chan
    · have ech : (c.chan != g.chan) = false := by rw [hch]; simp
      cases hl : c.lock
      · rw [hl] at p1
        obtain ⟨d, hd⟩ : ∃ d, d = g.dist c.next := ⟨_, rfl⟩
        have hd9 : d < 256 := by rw [hd]; exact g.dist_le _
        have hcv : 0 ≤ c.next ∧ c.next ≤ 255 := by unfold Cw.valid at hv; simp at hv; omega
        have HD : Hid (distC ((g.acked : Int).tmod 256) c.next = (d : Int)) := Lib.hid (by
          rw [hd, Int.tmod_eq_emod_of_nonneg (by omega)]
          unfold distC cntB FS.dist
          rw [if_pos (by simp; omega)]
          omega)
        have HH : Hid (g.heed c = if g.front < d then ({ g with state := 4 }, 12) else ((((g.ack d).reset (decide (0 < d))).again c.retr).hold c.wait, 0)) := Lib.hid (by
          unfold FS.heed
          rw [if_neg (by rw [hv]; simp; exact hch), if_neg (by rw [hl]; simp), hd])
        clear hch hd hcv
        go_upto_region 9 with fail
        refine wp_region_held_drew (S := (fun w' => w'.cell? ⟨b, 2, none⟩ = some (.int .i64 (g.acked : Int)) ∧ w'.cell? ⟨w.heap.size, 5, none⟩ = some (.int .i64 c.next))) (by kernel_rfl) (by (try dsimp only); first | exact ⟨by assumption, by assumption⟩ | go_keep) (fun hHeld => ?_)
        refine wpAnyH_take (i := 0) (oi := (Oper.mk (some 31) (Op.move (Operand.tmp 0)) 25 "fop.go:141" #[] none)) (v := ?_) rfl (by kernel_rfl) (by kernel_rfl) (by kernel_rfl) (fun _ _ _ h => h) (Or.inl ⟨by rfl, ?_⟩) (by assumption) ?_
        rotate_left
        · (intro w hSw; (try dsimp only at hSw); go_simp; first | done | with_reducible rfl)
        (try simp only [Act.put, List.setIfInBounds_toArray, List.set_cons_zero, List.set_cons_succ])
        refine wpAnyH_take (i := 1) (oi := (Oper.mk (some 32) (Op.nilCheck (Operand.tmp 31)) 0 "fop.go:141" #[Edge.mk 0 Ground.data] none)) (v := ?_) rfl (by kernel_rfl) (by kernel_rfl) (by kernel_rfl) (fun _ _ _ h => h) (Or.inl ⟨by rfl, ?_⟩) (by assumption) ?_
        rotate_left
        · (intro w hSw; (try dsimp only at hSw); go_simp; first | done | with_reducible rfl)
        (try simp only [Act.put, List.setIfInBounds_toArray, List.set_cons_zero, List.set_cons_succ])
        refine wpAnyH_take (i := 2) (oi := (Oper.mk (some 33) (Op.fieldAddr 69 (Operand.tmp 32) 0) 0 "fop.go:141" #[Edge.mk 1 Ground.data] none)) (v := ?_) rfl (by kernel_rfl) (by kernel_rfl) (by kernel_rfl) (fun _ _ _ h => h) (Or.inl ⟨by rfl, ?_⟩) (by assumption) ?_
        rotate_left
        · (intro w hSw; (try dsimp only at hSw); go_simp; first | done | with_reducible rfl)
        (try simp only [Act.put, List.setIfInBounds_toArray, List.set_cons_zero, List.set_cons_succ])
        refine wpAnyH_take (i := 3) (oi := (Oper.mk (some 34) (Op.fieldAddr 67 (Operand.tmp 33) 2) 0 "fop.go:141" #[Edge.mk 2 Ground.data] none)) (v := ?_) rfl (by kernel_rfl) (by kernel_rfl) (by kernel_rfl) (fun _ _ _ h => h) (Or.inl ⟨by rfl, ?_⟩) (by assumption) ?_
        rotate_left
        · (intro w hSw; (try dsimp only at hSw); go_simp; first | done | with_reducible rfl)
        (try simp only [Act.put, List.setIfInBounds_toArray, List.set_cons_zero, List.set_cons_succ])
        refine wpAnyH_take (i := 4) (oi := (Oper.mk (some 35) (Op.load 3 (Operand.tmp 34)) 3 "fop.go:141" #[Edge.mk 3 Ground.data] none)) (v := ?_) rfl (by kernel_rfl) (by kernel_rfl) (by kernel_rfl) (fun _ _ _ h => h) (Or.inl ⟨by rfl, ?_⟩) (by assumption) ?_
        rotate_left
        · (intro w hSw; (try dsimp only at hSw); go_simp; first | done | with_reducible rfl)
        (try simp only [Act.put, List.setIfInBounds_toArray, List.set_cons_zero, List.set_cons_succ])
        refine wpAnyH_take (i := 5) (oi := (Oper.mk (some 36) (Op.binOp BinOp.rem 3 (Operand.tmp 35) (Operand.const (Value.int IntKind.i64 256)) 3) 3 "fop.go:141" #[Edge.mk 4 Ground.data] none)) (v := ?_) rfl (by kernel_rfl) (by kernel_rfl) (by kernel_rfl) (fun _ _ _ h => h) (Or.inl ⟨by rfl, ?_⟩) (by assumption) ?_
        rotate_left
        · (intro w hSw; (try dsimp only at hSw); go_simp; first | done | with_reducible rfl)
        (try simp only [Act.put, List.setIfInBounds_toArray, List.set_cons_zero, List.set_cons_succ])
        refine wpAnyH_take (i := 6) (oi := (Oper.mk (some 37) (Op.fieldAddr 40 (Operand.tmp 4) 5) 0 "fop.go:141" #[] none)) (v := ?_) rfl (by kernel_rfl) (by kernel_rfl) (by kernel_rfl) (fun _ _ _ h => h) (Or.inl ⟨by rfl, ?_⟩) (by assumption) ?_
        rotate_left
        · (intro w hSw; (try dsimp only at hSw); go_simp; first | done | with_reducible rfl)
        (try simp only [Act.put, List.setIfInBounds_toArray, List.set_cons_zero, List.set_cons_succ])
        refine wpAnyH_take (i := 7) (oi := (Oper.mk (some 38) (Op.load 3 (Operand.tmp 37)) 3 "fop.go:141" #[Edge.mk 6 Ground.data] none)) (v := ?_) rfl (by kernel_rfl) (by kernel_rfl) (by kernel_rfl) (fun _ _ _ h => h) (Or.inl ⟨by rfl, ?_⟩) (by assumption) ?_
        rotate_left
        · (intro w hSw; (try dsimp only at hSw); go_simp; first | done | with_reducible rfl)
        (try simp only [Act.put, List.setIfInBounds_toArray, List.set_cons_zero, List.set_cons_succ])
        refine wpAnyH_ready (rs := [8]) (by kernel_rfl) (by simp) ?_
        refine AllReadyH.cons (o := (Oper.mk (some 39) (Op.call (Call.mk (Callee.value (Operand.func 37)) #[Operand.tmp 36, Operand.tmp 38, Operand.const (Value.int IntKind.i64 8)] #[3, 3, 3])) 3 "fop.go:141" #[Edge.mk 5 Ground.data, Edge.mk 7 Ground.data] none)) rfl (fun K hK => ?_) (AllReadyH.nil)
        go_simp
        (go_at_call 37; refine (Dist_any _ _ _).mono ?_; rintro e w5 ⟨rfl, hw5⟩; rw [HD.out]; obtain rfl := hw5)
        refine hK.out _ _ (by (try dsimp only); first | exact ⟨by assumption, by assumption⟩ | go_keep) (fun hHeld => ?_)
        clear hK K
        (try simp only [Act.put, List.setIfInBounds_toArray, List.set_cons_zero, List.set_cons_succ])
        refine wpAnyH_take (i := 9) (oi := (Oper.mk (some 7) (Op.assign (Operand.tmp 39)) 3 "fop.go:141" #[Edge.mk 8 Ground.data, Edge.mk 8 Ground.chain, Edge.mk 0 Ground.phase, Edge.mk 1 Ground.phase, Edge.mk 2 Ground.phase, Edge.mk 3 Ground.phase, Edge.mk 4 Ground.phase, Edge.mk 5 Ground.phase, Edge.mk 6 Ground.phase, Edge.mk 7 Ground.phase, Edge.mk 8 Ground.phase] none)) (v := ?_) rfl (by kernel_rfl) (by kernel_rfl) (by kernel_rfl) (fun _ _ _ h => h) (Or.inl ⟨by rfl, ?_⟩) (by assumption) ?_
        rotate_left
        · (intro w hSw; (try dsimp only at hSw); go_simp; first | done | with_reducible rfl)
        (try simp only [Act.put, List.setIfInBounds_toArray, List.set_cons_zero, List.set_cons_succ])
        refine wpAnyH_done (by kernel_rfl) ?_ _
        obtain ⟨w5, hw5⟩ : ∃ w5, w5 = w4.drew := ⟨_, rfl⟩
        rw [← hw5]
        have H5 : Hid (FAt w5 (XZ X w) b g (.slice au us.length cu) (.slice a1 n1 c1)) := Lib.hid (by rw [hw5]; exact H4.out.drew)
        have HF5 : Hid (Fr (fun k => k = b) w w5) := Lib.hid (by rw [hw5]; exact HF4.out.drew)
        have HP5 : Hid (Blk w5 w.heap.size 40 (cwC c)) := Lib.hid (by rw [hw5]; exact HP4.out.drew)
        have c4 := H5.out.blk.at 4 rfl
        have c10 := H5.out.blk.at 10 rfl
        have f10 := H5.out.blk.free 10
        have hlt5 := H5.out.blk.lt
        clear hw5
        by_cases hfd : g.front < d
        · have efd : (g.front : Int) < (d : Int) := by omega
          have HN : Hid (g.heed c = ({ g with state := 4 }, 12)) := Lib.hid (by rw [HH.out, if_pos hfd])
          clear hfd
          go_wp2_with fail
          go_ret
          exact RQ.of HN.out (H.out.unx (H5.out.put (Blk.cast (H5.out.blk.setCell 10 _) rfl) (frs (Fr.refl _ _) _ _) rfl rfl) (Nat.le_trans HF5.out.size (frs (Fr.refl _ _) _ _ : Fr (fun k => k = b) w5 _).size)) rfl (frs HF5.out _ _)
        · have efd : ¬ (g.front : Int) < (d : Int) := by omega
          obtain ⟨g3, hg3⟩ : ∃ g3, g3 = ((g.ack d).reset (decide (0 < d))).again c.retr := ⟨_, rfl⟩
          obtain ⟨g2, hg2⟩ : ∃ g2, g2 = (g.ack d).reset (decide (0 < d)) := ⟨_, rfl⟩
          obtain ⟨g1, hg1⟩ : ∃ g1, g1 = g.ack d := ⟨_, rfl⟩
          have HN : Hid (g.heed c = (g3.hold c.wait, 0)) := Lib.hid (by rw [HH.out, if_neg hfd, hg3])
          rw [← hg2] at hg3
          rw [← hg1] at hg2
          have HG1 := Lib.hid hg1
          have HG2 := Lib.hid hg2
          have HG3 := Lib.hid hg3
          have hdle : d ≤ g.front := by omega
          clear hfd hg1 hg2 hg3
          go_wp2_with fail
          obtain ⟨ux, hOx, hSx⟩ := H5.out.units
          obtain ⟨ax, cx, ex, -, -, -, -, -⟩ := hOx.vat
          simp only [Value.slice.injEq] at ex
          refine (release_any b (b + 1) d g _ _ ux _ H5.out.blk hOx hSx.1 hdle okg hgA (Nat.lt_succ_self b)).mono ?_
          rintro e w6 ⟨rfl, vU', hO6, hu6, hk6, hF6⟩
          rw [← HG1.out] at hk6
          obtain ⟨a6, m6, c6, rfl⟩ := off_slice hO6
          have H6 : Hid (FAt w6 (XZ X w) b g1 (.slice a6 m6 c6) (.slice a1 n1 c1)) := Lib.hid (H5.out.row_new hk6 (hF6.wide (fun k hk => .inl (.inl hk))) hO6 (by rw [HG1.out]; exact hSx.drop d) (by rw [HG1.out]; rfl) (.inl hu6))
          have HF6 : Hid (Fr (fun k => k = b) w w6) := Lib.hid (HF5.out.trans hF6)
          have HP6 : Hid (Blk w6 w.heap.size 40 (cwC c)) := Lib.hid (HP5.out.fr hF6 (by omega))
          have HU6 := Lib.hid hu6
          have c12 := H6.out.blk.at 12 rfl
          have c13 := H6.out.blk.at 13 rfl
          have f13 := H6.out.blk.free 13
          have c14 := H6.out.blk.at 14 rfl
          have f14 := H6.out.blk.free 14
          have hlt6 := H6.out.blk.lt
          clear hOx hSx ex hO6 hu6 hk6 hF6
          go_upto_if 56 with fail
          go_cut [] (fun wx => FAt wx (XZ X w) b g2 (.slice a6 m6 c6) (.slice a1 n1 c1) ∧ Fr (fun k => k = b) w wx ∧ Blk wx w.heap.size 40 (cwC c))
          case first =>
            by_cases hd0 : 0 < d
            · have ed0 : (0 : Int) < (d : Int) := by omega
              have HG : Hid (g2 = { g1 with count := 0, timer := g1.now }) := Lib.hid (by rw [HG2.out, decide_eq_true hd0]; rfl)
              clear hd0
              go_wp2_with fail
              go_meet
              case rel =>
                have hfr : Fr (fun k => k = b) w6 ((w6.setCell ⟨b, 14, none⟩ (.int .i64 0)).setCell ⟨b, 13, none⟩ (.int .i64 g1.now)) := frs (frs (Fr.refl _ _) _ _) _ _
                exact ⟨H6.out.put (by rw [HG.out]; exact Blk.cast ((H6.out.blk.setCell 14 _).setCell 13 _) rfl) hfr (by rw [HG.out]) (by rw [HG.out]), HF6.out.trans hfr, HP6.out.fr hfr (by omega)⟩
            · have ed0 : ¬ (0 : Int) < (d : Int) := by omega
              have HG : Hid (g2 = g1) := Lib.hid (by rw [HG2.out, decide_eq_false hd0]; rfl)
              clear hd0
              go_wp2_with fail
              go_meet
              case rel => exact ⟨by rw [HG.out]; exact H6.out, HF6.out, HP6.out⟩
          case rest =>
            obtain ⟨hc1, hc2, hc3⟩ := hcut
            obtain ⟨w7, hw7⟩ : ∃ w7, w7 = wc := ⟨wc, rfl⟩
            subst hw7
            have H7 := Lib.hid hc1
            have HF7 := Lib.hid hc2
            have HP7 := Lib.hid hc3
            obtain ⟨rt, hrt⟩ : ∃ rt, rt = c.retr := ⟨_, rfl⟩
            have p3 : w7.cell? ⟨w.heap.size, 3, none⟩ = some (.bool rt) := hc3.at 3 (by rw [hrt]; rfl)
            have HRT := Lib.hid hrt
            clear hrt
            have c3 := hc1.blk.at 3 rfl
            have f3 := hc1.blk.free 3
            have hlt7 := hc1.blk.lt
            clear hc1 hc2 hc3 p0 p1 p2 p4 p5 c12 c13 f13 c14 f14
            go_upto_if 68 with fail
            go_cut [] (fun wx => FAt wx (XZ X w) b g3 (.slice a6 m6 c6) (.slice a1 n1 c1) ∧ Fr (fun k => k = b) w wx ∧ Blk wx w.heap.size 40 (cwC c))
            case first =>
              cases rt
              · have HG : Hid (g3 = g2) := Lib.hid (by rw [HG3.out, ← HRT.out]; rfl)
                go_wp2_with fail
                go_meet
                case rel => exact ⟨by rw [HG.out]; exact H7.out, HF7.out, HP7.out⟩
              · have HG : Hid (g3 = { g2 with flight := 0 }) := Lib.hid (by rw [HG3.out, ← HRT.out]; rfl)
                go_wp2_with fail
                refine (repeat_any b g2 _ _ _ H7.out.blk).mono ?_
                rintro e w8 ⟨rfl, hk8, hF8⟩
                have hn : FAt w8 (XZ X w) b g3 (.slice a6 m6 c6) (.slice a1 n1 c1) ∧ Fr (fun k => k = b) w w8 ∧ Blk w8 w.heap.size 40 (cwC c) := ⟨H7.out.put (by rw [HG.out]; exact hk8) hF8 (by rw [HG.out]) (by rw [HG.out]), HF7.out.trans hF8, HP7.out.fr hF8 (by omega)⟩
                have HNN := Lib.hid hn
                clear hn hk8 hF8
                go_wp2_with fail
                go_meet
                case rel => exact HNN.out
            case rest =>
              obtain ⟨hc1, hc2, hc3⟩ := hcut
              obtain ⟨w9, hw9⟩ : ∃ w9, w9 = wc := ⟨wc, rfl⟩
              subst hw9
              have H9 := Lib.hid hc1
              have HF9 := Lib.hid hc2
              have p2 : w9.cell? ⟨w.heap.size, 2, none⟩ = some (.bool c.wait) := hc3.at 2 rfl
              have pl9 := hc3.lt
              have c10 := hc1.blk.at 10 rfl
              have f10 := hc1.blk.free 10
              have hlt9 := hc1.blk.lt
              clear hc1 hc2 hc3 p3 c3 f3
              by_cases hs1 : g3.state = 1
              · have es1 : (g3.state : Int) = 1 := by omega
                cases hw : c.wait
                · have HQ : Hid (g.heed c = ({ g3 with state := 1 }, 0)) := Lib.hid (by rw [HN.out, hw]; unfold FS.hold; rw [if_pos (.inl hs1)]; rfl)
                  rw [hw] at p2
                  clear hs1
                  go_wp2_with fail
                  go_ret
                  have hfr : Fr (fun k => k = b) w9 (w9.setCell ⟨b, 10, none⟩ (.int .i64 1)) := frs (Fr.refl _ _) _ _
                  exact RQ.of HQ.out (H.out.unx (H9.out.put (Blk.cast (H9.out.blk.setCell 10 _) rfl) hfr rfl rfl) (Nat.le_trans HF9.out.size hfr.size)) HU6.out (HF9.out.trans hfr)
                · have HQ : Hid (g.heed c = ({ g3 with state := 2 }, 0)) := Lib.hid (by rw [HN.out, hw]; unfold FS.hold; rw [if_pos (.inl hs1)]; rfl)
                  rw [hw] at p2
                  clear hs1
                  go_wp2_with fail
                  go_ret
                  have hfr : Fr (fun k => k = b) w9 ((w9.setCell ⟨b, 10, none⟩ (.int .i64 1)).setCell ⟨b, 10, none⟩ (.int .i64 2)) := frs (frs (Fr.refl _ _) _ _) _ _
                  exact RQ.of HQ.out (H.out.unx (H9.out.put (Blk.cast ((H9.out.blk.setCell 10 _).setCell 10 _) rfl) hfr rfl rfl) (Nat.le_trans HF9.out.size hfr.size)) HU6.out (HF9.out.trans hfr)
              · have es1 : ¬ (g3.state : Int) = 1 := by omega
                have eb1 : ((g3.state : Int) == 1) = false := by rw [beq_eq_false_iff_ne]; omega
                by_cases hs2 : g3.state = 2
                · have es2 : (g3.state : Int) = 2 := by omega
                  cases hw : c.wait
                  · have HQ : Hid (g.heed c = ({ g3 with state := 1 }, 0)) := Lib.hid (by rw [HN.out, hw]; unfold FS.hold; rw [if_pos (.inr hs2)]; rfl)
                    rw [hw] at p2
                    clear hs1
                    go_wp2_with fail
                    go_ret
                    have hfr : Fr (fun k => k = b) w9 (w9.setCell ⟨b, 10, none⟩ (.int .i64 1)) := frs (Fr.refl _ _) _ _
                    exact RQ.of HQ.out (H.out.unx (H9.out.put (Blk.cast (H9.out.blk.setCell 10 _) rfl) hfr rfl rfl) (Nat.le_trans HF9.out.size hfr.size)) HU6.out (HF9.out.trans hfr)
                  · have HQ : Hid (g.heed c = ({ g3 with state := 2 }, 0)) := Lib.hid (by rw [HN.out, hw]; unfold FS.hold; rw [if_pos (.inr hs2)]; rfl)
                    rw [hw] at p2
                    clear hs1
                    go_wp2_with fail
                    go_ret
                    have hfr : Fr (fun k => k = b) w9 ((w9.setCell ⟨b, 10, none⟩ (.int .i64 1)).setCell ⟨b, 10, none⟩ (.int .i64 2)) := frs (frs (Fr.refl _ _) _ _) _ _
                    exact RQ.of HQ.out (H.out.unx (H9.out.put (Blk.cast ((H9.out.blk.setCell 10 _).setCell 10 _) rfl) hfr rfl rfl) (Nat.le_trans HF9.out.size hfr.size)) HU6.out (HF9.out.trans hfr)
                · have es2 : ¬ (g3.state : Int) = 2 := by omega
                  have eb2 : ((g3.state : Int) == 2) = false := by rw [beq_eq_false_iff_ne]; omega
                  have HQ : Hid (g.heed c = (g3, 0)) := Lib.hid (by rw [HN.out]; unfold FS.hold; rw [if_neg (by omega)])
                  clear hs1 hs2
                  go_wp2_with fail
                  go_ret
                  exact RQ.of HQ.out (H.out.unx H9.out HF9.out.size) HU6.out HF9.out
      · have HN : Hid (g.heed c = ({ g with state := 3 }, 14)) := Lib.hid (by unfold FS.heed; rw [if_neg (by rw [hv]; simp; exact hch), if_pos hl])
        rw [hl] at p1
        clear hch
        go_wp2_with fail
        go_ret
        exact RQ.of HN.out (H.out.unx (H4.out.put (Blk.cast (H4.out.blk.setCell 10 _) rfl) (frs (Fr.refl _ _) _ _) rfl rfl) (Nat.le_trans HF4.out.size (frs (Fr.refl _ _) _ _ : Fr (fun k => k = b) w4 _).size)) rfl (frs HF4.out _ _)
    · have ech : (c.chan != g.chan) = true := by simp [hch]
      have HN : Hid (g.heed c = (g, 1)) := Lib.hid (by unfold FS.heed; rw [if_pos (.inr hch)])
      clear hch
      go_wp2_with fail
      go_ret
      exact RQ.of HN.out (H.out.unx H4.out HF4.out.size) rfl HF4.out
  · have hv0 : c.valid = false := by simpa using hv
    have HN : Hid (g.heed c = (g, 1)) := Lib.hid (by unfold FS.heed; rw [if_pos (.inl hv0)])
    clear hv
    go_upto_region 4 with fail
    refine wp_region_held_drew (S := (fun w' => w'.cell? ⟨w.heap.size, 0, none⟩ = some (.int .i64 c.chan) ∧ w'.cell? ⟨w.heap.size, 1, none⟩ = some (.bool c.lock) ∧ w'.cell? ⟨w.heap.size, 2, none⟩ = some (.bool c.wait) ∧ w'.cell? ⟨w.heap.size, 3, none⟩ = some (.bool c.retr) ∧ w'.cell? ⟨w.heap.size, 4, none⟩ = some (.int .i64 c.byp) ∧ w'.cell? ⟨w.heap.size, 5, none⟩ = some (.int .i64 c.next))) (by kernel_rfl) (by (try dsimp only); first | exact ⟨by assumption, by assumption, by assumption, by assumption, by assumption, by assumption⟩ | go_keep) (fun hHeld => ?_)
    refine wpAnyH_take (i := 0) (oi := (Oper.mk (some 14) (Op.load 40 (Operand.tmp 4)) 40 "fop.go:134" #[] none)) (v := ?_) rfl (by kernel_rfl) (by kernel_rfl) (by kernel_rfl) (fun _ _ _ h => h) (Or.inl ⟨by rfl, ?_⟩) (by assumption) ?_
    rotate_left
    · (intro w hSw; (try dsimp only at hSw); go_simp; first | done | with_reducible rfl)
    (try simp only [Act.put, List.setIfInBounds_toArray, List.set_cons_zero, List.set_cons_succ])
    refine wpAnyH_ready (rs := [1]) (by kernel_rfl) (by simp) ?_
    refine AllReadyH.cons (o := (Oper.mk (some 15) (Op.call (Call.mk (Callee.value (Operand.func 36)) #[Operand.tmp 14] #[40])) 4 "fop.go:134" #[Edge.mk 0 Ground.data] none)) rfl (fun K hK => ?_) (AllReadyH.nil)
    go_simp
    (go_at_call 36; refine (cvalid_any c _).mono ?_; rintro e w4 ⟨rfl, hB4⟩; rw [hv0]; have hB := undrew hB4; have HP4 := Lib.hid (HP3.out.below hB (Nat.le_refl _)); have p0 := HP4.out.at 0 rfl; have p1 := HP4.out.at 1 rfl; have p2 := HP4.out.at 2 rfl; have p3 := HP4.out.at 3 rfl; have p4 := HP4.out.at 4 rfl; have p5 := HP4.out.at 5 rfl; have HB4 := Lib.hid hB; clear hB4 hB)
    refine hK.out _ _ (by (try dsimp only); first | exact ⟨by assumption, by assumption, by assumption, by assumption, by assumption, by assumption⟩ | go_keep) (fun hHeld => ?_)
    clear hK K
    (try simp only [Act.put, List.setIfInBounds_toArray, List.set_cons_zero, List.set_cons_succ])
    refine wpAnyH_take (i := 2) (oi := (Oper.mk (some 16) (Op.unOp UnOp.not 4 (Operand.tmp 15)) 4 "fop.go:134" #[Edge.mk 1 Ground.data] none)) (v := ?_) rfl (by kernel_rfl) (by kernel_rfl) (by kernel_rfl) (fun _ _ _ h => h) (Or.inl ⟨by rfl, ?_⟩) (by assumption) ?_
    rotate_left
    · (intro w hSw; (try dsimp only at hSw); go_simp; first | done | with_reducible rfl)
    (try simp only [Act.put, List.setIfInBounds_toArray, List.set_cons_zero, List.set_cons_succ])
    refine wpAnyH_take (i := 3) (oi := (Oper.mk (some 17) (Op.move (Operand.tmp 16)) 4 "fop.go:134" #[Edge.mk 2 Ground.data, Edge.mk 1 Ground.chain] none)) (v := ?_) rfl (by kernel_rfl) (by kernel_rfl) (by kernel_rfl) (fun _ _ _ h => h) (Or.inl ⟨by rfl, ?_⟩) (by assumption) ?_
    rotate_left
    · (intro w hSw; (try dsimp only at hSw); go_simp; first | done | with_reducible rfl)
    (try simp only [Act.put, List.setIfInBounds_toArray, List.set_cons_zero, List.set_cons_succ])
    refine wpAnyH_take (i := 4) (oi := (Oper.mk (some 18) (Op.fieldAddr 40 (Operand.tmp 4) 0) 0 "fop.go:134" #[Edge.mk 3 Ground.guard] (some (3, false)))) (v := undef) rfl (by kernel_rfl) (by kernel_rfl) (by kernel_rfl) (fun _ _ _ h => h) (Or.inr ⟨by rfl, rfl⟩) (by assumption) ?_
    (try simp only [Act.put, List.setIfInBounds_toArray, List.set_cons_zero, List.set_cons_succ])
    refine wpAnyH_take (i := 5) (oi := (Oper.mk (some 19) (Op.load 3 (Operand.tmp 18)) 3 "fop.go:134" #[Edge.mk 4 Ground.data, Edge.mk 3 Ground.guard] (some (3, false)))) (v := undef) rfl (by kernel_rfl) (by kernel_rfl) (by kernel_rfl) (fun _ _ _ h => h) (Or.inr ⟨by rfl, rfl⟩) (by assumption) ?_
    (try simp only [Act.put, List.setIfInBounds_toArray, List.set_cons_zero, List.set_cons_succ])
    refine wpAnyH_take (i := 6) (oi := (Oper.mk (some 20) (Op.move (Operand.tmp 0)) 25 "fop.go:134" #[Edge.mk 3 Ground.guard] (some (3, false)))) (v := undef) rfl (by kernel_rfl) (by kernel_rfl) (by kernel_rfl) (fun _ _ _ h => h) (Or.inr ⟨by rfl, rfl⟩) (by assumption) ?_
    (try simp only [Act.put, List.setIfInBounds_toArray, List.set_cons_zero, List.set_cons_succ])
    refine wpAnyH_take (i := 7) (oi := (Oper.mk (some 21) (Op.nilCheck (Operand.tmp 20)) 0 "fop.go:134" #[Edge.mk 6 Ground.data, Edge.mk 3 Ground.guard] (some (3, false)))) (v := undef) rfl (by kernel_rfl) (by kernel_rfl) (by kernel_rfl) (fun _ _ _ h => h) (Or.inr ⟨by rfl, rfl⟩) (by assumption) ?_
    (try simp only [Act.put, List.setIfInBounds_toArray, List.set_cons_zero, List.set_cons_succ])
    refine wpAnyH_take (i := 8) (oi := (Oper.mk (some 22) (Op.fieldAddr 69 (Operand.tmp 21) 3) 0 "fop.go:134" #[Edge.mk 7 Ground.data, Edge.mk 3 Ground.guard] (some (3, false)))) (v := undef) rfl (by kernel_rfl) (by kernel_rfl) (by kernel_rfl) (fun _ _ _ h => h) (Or.inr ⟨by rfl, rfl⟩) (by assumption) ?_
    (try simp only [Act.put, List.setIfInBounds_toArray, List.set_cons_zero, List.set_cons_succ])
    refine wpAnyH_take (i := 9) (oi := (Oper.mk (some 23) (Op.load 3 (Operand.tmp 22)) 3 "fop.go:134" #[Edge.mk 8 Ground.data, Edge.mk 3 Ground.guard] (some (3, false)))) (v := undef) rfl (by kernel_rfl) (by kernel_rfl) (by kernel_rfl) (fun _ _ _ h => h) (Or.inr ⟨by rfl, rfl⟩) (by assumption) ?_
    (try simp only [Act.put, List.setIfInBounds_toArray, List.set_cons_zero, List.set_cons_succ])
    refine wpAnyH_take (i := 10) (oi := (Oper.mk (some 24) (Op.binOp BinOp.neq 3 (Operand.tmp 19) (Operand.tmp 23) 3) 4 "fop.go:134" #[Edge.mk 5 Ground.data, Edge.mk 9 Ground.data, Edge.mk 3 Ground.guard] (some (3, false)))) (v := undef) rfl (by kernel_rfl) (by kernel_rfl) (by kernel_rfl) (fun _ _ _ h => h) (Or.inr ⟨by rfl, rfl⟩) (by assumption) ?_
    (try simp only [Act.put, List.setIfInBounds_toArray, List.set_cons_zero, List.set_cons_succ])
    refine wpAnyH_take (i := 11) (oi := (Oper.mk (some 25) (Op.pick (Operand.tmp 17) (Operand.const (Value.bool true)) (Operand.tmp 24)) 4 "fop.go:134" #[Edge.mk 3 Ground.data, Edge.mk 10 Ground.data] none)) (v := ?_) rfl (by kernel_rfl) (by kernel_rfl) (by kernel_rfl) (fun _ _ _ h => h) (Or.inl ⟨by rfl, ?_⟩) (by assumption) ?_
    rotate_left
    · (intro w hSw; (try dsimp only at hSw); go_simp; first | done | with_reducible rfl)
    (try simp only [Act.put, List.setIfInBounds_toArray, List.set_cons_zero, List.set_cons_succ])
    refine wpAnyH_done (by kernel_rfl) ?_ _
    go_wp2_with fail
    go_ret
    exact RQ.of HN.out (H.out.unx (H3.out.below HB4.out (Nat.le_refl _)) (Nat.le_trans HF3.out.size HB4.out.size)) rfl (HF3.out.below HB4.out (Nat.le_refl _))
end Go.Proofs.Ytjiejpklcjpibaa

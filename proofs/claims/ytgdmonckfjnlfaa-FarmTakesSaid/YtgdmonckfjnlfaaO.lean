/- Take of a nil end; want; calls that came in. No condition. -/
import Derived.Test.YtgdmonckfjnlfaaN
import Derived.Test.YtgdmonckfjnlfaaJ
namespace Go.Proofs.Ytgdmonckfjnlfaa
open Go.RowKit Go.Deep Go.ChangeShapes Go.WideShapes Go.ChangeAt
set_option linter.unusedVariables false

set_option maxRecDepth 20000 in
set_option maxHeartbeats 2000000 in
theorem take_nil (x : TF) (room : Bool) (a : Option Addr) (cap : Nat) (w : World) :
    Calls Try.prog 9 #[.pointer none, x.val a cap, .bool room] w fun e w' => e = .returned (.tuple #[.slice none 0 0, .int .i64 0]) ∧ Below w.heap.size w w' := by
  unfold TF.val
  go_enter Try.func9, Try.ntmps9
  go_wp2_with fail
  refine wp_region_held_drew (S := (fun _ => True)) (by kernel_rfl) (by (try dsimp only); all_goals trivial) (fun hHeld => ?_)
  refine wpAnyH_take (i := 0) (oi := (Oper.mk (some 9) (Op.move (Operand.tmp 0)) 25 "farm.go:42" #[] none)) (v := ?v0tf70b) rfl (by kernel_rfl) (by kernel_rfl) (by kernel_rfl) (fun _ _ _ h => h) (Or.inl ⟨by rfl, ?hy0tf70b⟩) (by assumption) ?rest0tf70b
  case hy0tf70b => (intro w hSw; (try dsimp only at hSw); go_simp; first | done | with_reducible rfl)
  (try simp only [Act.put, List.setIfInBounds_toArray, List.set_cons_zero, List.set_cons_succ])
  refine wpAnyH_ready (rs := [1]) (by kernel_rfl) (by simp) ?_
  refine AllReadyH.cons (o := (Oper.mk (some 10) (Op.call (Call.mk (Callee.value (Operand.func 17)) #[Operand.tmp 9] #[25])) 4 "farm.go:42" #[Edge.mk 0 Ground.data] none)) rfl (fun K hK => ?_) AllReadyH.nil
  go_simp
  (go_at_call 17; refine (none_nil _).mono ?_; rintro e w2 ⟨rfl, rfl⟩)
  refine hK.out _ _ (by (try dsimp only); all_goals trivial) (fun hHeld => ?_)
  clear hK K
  (try simp only [Act.put, List.setIfInBounds_toArray, List.set_cons_zero, List.set_cons_succ])
  refine wpAnyH_take (i := 2) (oi := (Oper.mk (some 11) (Op.move (Operand.tmp 10)) 4 "farm.go:42" #[Edge.mk 1 Ground.data, Edge.mk 1 Ground.chain] none)) (v := ?v2tf70b) rfl (by kernel_rfl) (by kernel_rfl) (by kernel_rfl) (fun _ _ _ h => h) (Or.inl ⟨by rfl, ?hy2tf70b⟩) (by assumption) ?rest2tf70b
  case hy2tf70b => (intro w hSw; (try dsimp only at hSw); go_simp; first | done | with_reducible rfl)
  (try simp only [Act.put, List.setIfInBounds_toArray, List.set_cons_zero, List.set_cons_succ])
  refine wpAnyH_take (i := 3) (oi := (Oper.mk (some 12) (Op.load 31 (Operand.tmp 4)) 31 "farm.go:42" #[Edge.mk 2 Ground.guard] (some (2, false)))) (v := undef) rfl (by kernel_rfl) (by kernel_rfl) (by kernel_rfl) (fun _ _ _ h => h) (Or.inr ⟨by rfl, rfl⟩) (by assumption) ?_
  (try simp only [Act.put, List.setIfInBounds_toArray, List.set_cons_zero, List.set_cons_succ])
  refine wpAnyH_take (i := 4) (oi := (Oper.mk (some 13) (Op.call (Call.mk (Callee.value (Operand.func 18)) #[Operand.tmp 12] #[31])) 4 "farm.go:42" #[Edge.mk 3 Ground.data, Edge.mk 2 Ground.chain, Edge.mk 2 Ground.guard] (some (2, false)))) (v := undef) rfl (by kernel_rfl) (by kernel_rfl) (by kernel_rfl) (fun _ _ _ h => h) (Or.inr ⟨by rfl, rfl⟩) (by assumption) ?_
  (try simp only [Act.put, List.setIfInBounds_toArray, List.set_cons_zero, List.set_cons_succ])
  refine wpAnyH_take (i := 5) (oi := (Oper.mk (some 14) (Op.unOp UnOp.not 4 (Operand.tmp 13)) 4 "farm.go:42" #[Edge.mk 4 Ground.data, Edge.mk 2 Ground.guard] (some (2, false)))) (v := undef) rfl (by kernel_rfl) (by kernel_rfl) (by kernel_rfl) (fun _ _ _ h => h) (Or.inr ⟨by rfl, rfl⟩) (by assumption) ?_
  (try simp only [Act.put, List.setIfInBounds_toArray, List.set_cons_zero, List.set_cons_succ])
  refine wpAnyH_take (i := 6) (oi := (Oper.mk (some 15) (Op.pick (Operand.tmp 11) (Operand.const (Value.bool true)) (Operand.tmp 14)) 4 "farm.go:42" #[Edge.mk 2 Ground.data, Edge.mk 5 Ground.data] none)) (v := ?v6tf70b) rfl (by kernel_rfl) (by kernel_rfl) (by kernel_rfl) (fun _ _ _ h => h) (Or.inl ⟨by rfl, ?hy6tf70b⟩) (by assumption) ?rest6tf70b
  case hy6tf70b => (intro w hSw; (try dsimp only at hSw); go_simp; first | done | with_reducible rfl)
  (try simp only [Act.put, List.setIfInBounds_toArray, List.set_cons_zero, List.set_cons_succ])
  refine wpAnyH_take (i := 7) (oi := (Oper.mk (some 16) (Op.move (Operand.tmp 15)) 4 "farm.go:42" #[Edge.mk 6 Ground.data, Edge.mk 4 Ground.chain] none)) (v := ?v7tf70b) rfl (by kernel_rfl) (by kernel_rfl) (by kernel_rfl) (fun _ _ _ h => h) (Or.inl ⟨by rfl, ?hy7tf70b⟩) (by assumption) ?rest7tf70b
  case hy7tf70b => (intro w hSw; (try dsimp only at hSw); go_simp; first | done | with_reducible rfl)
  (try simp only [Act.put, List.setIfInBounds_toArray, List.set_cons_zero, List.set_cons_succ])
  refine wpAnyH_take (i := 8) (oi := (Oper.mk (some 17) (Op.fieldAddr 31 (Operand.tmp 4) 2) 0 "farm.go:42" #[Edge.mk 7 Ground.guard] (some (7, false)))) (v := undef) rfl (by kernel_rfl) (by kernel_rfl) (by kernel_rfl) (fun _ _ _ h => h) (Or.inr ⟨by rfl, rfl⟩) (by assumption) ?_
  (try simp only [Act.put, List.setIfInBounds_toArray, List.set_cons_zero, List.set_cons_succ])
  refine wpAnyH_take (i := 9) (oi := (Oper.mk (some 18) (Op.load 3 (Operand.tmp 17)) 3 "farm.go:42" #[Edge.mk 8 Ground.data, Edge.mk 7 Ground.guard] (some (7, false)))) (v := undef) rfl (by kernel_rfl) (by kernel_rfl) (by kernel_rfl) (fun _ _ _ h => h) (Or.inr ⟨by rfl, rfl⟩) (by assumption) ?_
  (try simp only [Act.put, List.setIfInBounds_toArray, List.set_cons_zero, List.set_cons_succ])
  refine wpAnyH_take (i := 10) (oi := (Oper.mk (some 19) (Op.move (Operand.tmp 0)) 25 "farm.go:42" #[Edge.mk 7 Ground.guard] (some (7, false)))) (v := undef) rfl (by kernel_rfl) (by kernel_rfl) (by kernel_rfl) (fun _ _ _ h => h) (Or.inr ⟨by rfl, rfl⟩) (by assumption) ?_
  (try simp only [Act.put, List.setIfInBounds_toArray, List.set_cons_zero, List.set_cons_succ])
  refine wpAnyH_take (i := 11) (oi := (Oper.mk (some 20) (Op.nilCheck (Operand.tmp 19)) 0 "farm.go:42" #[Edge.mk 10 Ground.data, Edge.mk 7 Ground.guard] (some (7, false)))) (v := undef) rfl (by kernel_rfl) (by kernel_rfl) (by kernel_rfl) (fun _ _ _ h => h) (Or.inr ⟨by rfl, rfl⟩) (by assumption) ?_
  (try simp only [Act.put, List.setIfInBounds_toArray, List.set_cons_zero, List.set_cons_succ])
  refine wpAnyH_take (i := 12) (oi := (Oper.mk (some 21) (Op.fieldAddr 53 (Operand.tmp 20) 0) 0 "farm.go:42" #[Edge.mk 11 Ground.data, Edge.mk 7 Ground.guard] (some (7, false)))) (v := undef) rfl (by kernel_rfl) (by kernel_rfl) (by kernel_rfl) (fun _ _ _ h => h) (Or.inr ⟨by rfl, rfl⟩) (by assumption) ?_
  (try simp only [Act.put, List.setIfInBounds_toArray, List.set_cons_zero, List.set_cons_succ])
  refine wpAnyH_take (i := 13) (oi := (Oper.mk (some 22) (Op.load 3 (Operand.tmp 21)) 3 "farm.go:42" #[Edge.mk 12 Ground.data, Edge.mk 7 Ground.guard] (some (7, false)))) (v := undef) rfl (by kernel_rfl) (by kernel_rfl) (by kernel_rfl) (fun _ _ _ h => h) (Or.inr ⟨by rfl, rfl⟩) (by assumption) ?_
  (try simp only [Act.put, List.setIfInBounds_toArray, List.set_cons_zero, List.set_cons_succ])
  refine wpAnyH_take (i := 14) (oi := (Oper.mk (some 23) (Op.binOp BinOp.neq 3 (Operand.tmp 18) (Operand.tmp 22) 3) 4 "farm.go:42" #[Edge.mk 9 Ground.data, Edge.mk 13 Ground.data, Edge.mk 7 Ground.guard] (some (7, false)))) (v := undef) rfl (by kernel_rfl) (by kernel_rfl) (by kernel_rfl) (fun _ _ _ h => h) (Or.inr ⟨by rfl, rfl⟩) (by assumption) ?_
  (try simp only [Act.put, List.setIfInBounds_toArray, List.set_cons_zero, List.set_cons_succ])
  refine wpAnyH_take (i := 15) (oi := (Oper.mk (some 24) (Op.pick (Operand.tmp 16) (Operand.const (Value.bool true)) (Operand.tmp 23)) 4 "farm.go:42" #[Edge.mk 7 Ground.data, Edge.mk 14 Ground.data] none)) (v := ?v15tf70b) rfl (by kernel_rfl) (by kernel_rfl) (by kernel_rfl) (fun _ _ _ h => h) (Or.inl ⟨by rfl, ?hy15tf70b⟩) (by assumption) ?rest15tf70b
  case hy15tf70b => (intro w hSw; (try dsimp only at hSw); go_simp; first | done | with_reducible rfl)
  (try simp only [Act.put, List.setIfInBounds_toArray, List.set_cons_zero, List.set_cons_succ])
  refine wpAnyH_take (i := 16) (oi := (Oper.mk (some 25) (Op.move (Operand.tmp 24)) 4 "farm.go:42" #[Edge.mk 15 Ground.data, Edge.mk 7 Ground.chain] none)) (v := ?v16tf70b) rfl (by kernel_rfl) (by kernel_rfl) (by kernel_rfl) (fun _ _ _ h => h) (Or.inl ⟨by rfl, ?hy16tf70b⟩) (by assumption) ?rest16tf70b
  case hy16tf70b => (intro w hSw; (try dsimp only at hSw); go_simp; first | done | with_reducible rfl)
  (try simp only [Act.put, List.setIfInBounds_toArray, List.set_cons_zero, List.set_cons_succ])
  refine wpAnyH_take (i := 17) (oi := (Oper.mk (some 26) (Op.fieldAddr 31 (Operand.tmp 4) 3) 0 "farm.go:42" #[Edge.mk 16 Ground.guard] (some (16, false)))) (v := undef) rfl (by kernel_rfl) (by kernel_rfl) (by kernel_rfl) (fun _ _ _ h => h) (Or.inr ⟨by rfl, rfl⟩) (by assumption) ?_
  (try simp only [Act.put, List.setIfInBounds_toArray, List.set_cons_zero, List.set_cons_succ])
  refine wpAnyH_take (i := 18) (oi := (Oper.mk (some 27) (Op.load 3 (Operand.tmp 26)) 3 "farm.go:42" #[Edge.mk 17 Ground.data, Edge.mk 16 Ground.guard] (some (16, false)))) (v := undef) rfl (by kernel_rfl) (by kernel_rfl) (by kernel_rfl) (fun _ _ _ h => h) (Or.inr ⟨by rfl, rfl⟩) (by assumption) ?_
  (try simp only [Act.put, List.setIfInBounds_toArray, List.set_cons_zero, List.set_cons_succ])
  refine wpAnyH_take (i := 19) (oi := (Oper.mk (some 28) (Op.move (Operand.tmp 0)) 25 "farm.go:42" #[Edge.mk 16 Ground.guard] (some (16, false)))) (v := undef) rfl (by kernel_rfl) (by kernel_rfl) (by kernel_rfl) (fun _ _ _ h => h) (Or.inr ⟨by rfl, rfl⟩) (by assumption) ?_
  (try simp only [Act.put, List.setIfInBounds_toArray, List.set_cons_zero, List.set_cons_succ])
  refine wpAnyH_take (i := 20) (oi := (Oper.mk (some 29) (Op.nilCheck (Operand.tmp 28)) 0 "farm.go:42" #[Edge.mk 19 Ground.data, Edge.mk 16 Ground.guard] (some (16, false)))) (v := undef) rfl (by kernel_rfl) (by kernel_rfl) (by kernel_rfl) (fun _ _ _ h => h) (Or.inr ⟨by rfl, rfl⟩) (by assumption) ?_
  (try simp only [Act.put, List.setIfInBounds_toArray, List.set_cons_zero, List.set_cons_succ])
  refine wpAnyH_take (i := 21) (oi := (Oper.mk (some 30) (Op.fieldAddr 53 (Operand.tmp 29) 2) 0 "farm.go:42" #[Edge.mk 20 Ground.data, Edge.mk 16 Ground.guard] (some (16, false)))) (v := undef) rfl (by kernel_rfl) (by kernel_rfl) (by kernel_rfl) (fun _ _ _ h => h) (Or.inr ⟨by rfl, rfl⟩) (by assumption) ?_
  (try simp only [Act.put, List.setIfInBounds_toArray, List.set_cons_zero, List.set_cons_succ])
  refine wpAnyH_take (i := 22) (oi := (Oper.mk (some 31) (Op.fieldAddr 34 (Operand.tmp 30) 0) 0 "farm.go:42" #[Edge.mk 21 Ground.data, Edge.mk 16 Ground.guard] (some (16, false)))) (v := undef) rfl (by kernel_rfl) (by kernel_rfl) (by kernel_rfl) (fun _ _ _ h => h) (Or.inr ⟨by rfl, rfl⟩) (by assumption) ?_
  (try simp only [Act.put, List.setIfInBounds_toArray, List.set_cons_zero, List.set_cons_succ])
  refine wpAnyH_take (i := 23) (oi := (Oper.mk (some 32) (Op.load 3 (Operand.tmp 31)) 3 "farm.go:42" #[Edge.mk 22 Ground.data, Edge.mk 16 Ground.guard] (some (16, false)))) (v := undef) rfl (by kernel_rfl) (by kernel_rfl) (by kernel_rfl) (fun _ _ _ h => h) (Or.inr ⟨by rfl, rfl⟩) (by assumption) ?_
  (try simp only [Act.put, List.setIfInBounds_toArray, List.set_cons_zero, List.set_cons_succ])
  refine wpAnyH_take (i := 24) (oi := (Oper.mk (some 33) (Op.binOp BinOp.neq 3 (Operand.tmp 27) (Operand.tmp 32) 3) 4 "farm.go:42" #[Edge.mk 18 Ground.data, Edge.mk 23 Ground.data, Edge.mk 16 Ground.guard] (some (16, false)))) (v := undef) rfl (by kernel_rfl) (by kernel_rfl) (by kernel_rfl) (fun _ _ _ h => h) (Or.inr ⟨by rfl, rfl⟩) (by assumption) ?_
  (try simp only [Act.put, List.setIfInBounds_toArray, List.set_cons_zero, List.set_cons_succ])
  refine wpAnyH_take (i := 25) (oi := (Oper.mk (some 34) (Op.pick (Operand.tmp 25) (Operand.const (Value.bool true)) (Operand.tmp 33)) 4 "farm.go:42" #[Edge.mk 16 Ground.data, Edge.mk 24 Ground.data] none)) (v := ?v25tf70b) rfl (by kernel_rfl) (by kernel_rfl) (by kernel_rfl) (fun _ _ _ h => h) (Or.inl ⟨by rfl, ?hy25tf70b⟩) (by assumption) ?rest25tf70b
  case hy25tf70b => (intro w hSw; (try dsimp only at hSw); go_simp; first | done | with_reducible rfl)
  (try simp only [Act.put, List.setIfInBounds_toArray, List.set_cons_zero, List.set_cons_succ])
  refine wpAnyH_done (by kernel_rfl) ?_ _
  go_wp2_with fail
  go_ret2
  exact ⟨rfl, (al (Below.refl _ _) _).drew⟩
theorem take_any2 (b : Nat) (s : FS) (x : TF) (room : Bool) (a : Option Addr) (cap : Nat) (w : World) (h : FAt w b s) (ok : s.ok) (hd : BAt w a x.dat) (hcap : x.dat.length ≤ cap) (hne : x.dat ≠ [] → ∀ p, a = some p → p.block ≠ b) :
    Calls Try.prog 9 #[.pointer (some ⟨b, 0, none⟩), x.val a cap, .bool room] w (TQ w b (takeF s x room)) := by
  by_cases hx : validB x = true
  · have hl : x.dat ≠ [] := by
      intro e
      unfold validB at hx
      rw [e] at hx
      simp at hx
    exact take_any b s x room a cap w h ok hd hcap (hne hl)
  · exact take_bad b s x room a cap w h ok.1.1 (.inl (by cases e : validB x; rfl; exact absurd e hx))
theorem want_any (x : TF) (v : Int) (a : Option Addr) (cap : Nat) (w : World) (h : BAt w a x.dat) : Calls Try.prog 16 #[x.val a cap, .int .i64 v] w fun e w' => e = .returned (.string ⟨(if v = 1 then x.dat else []).toArray⟩) ∧ w' = w.alloc (x.box a cap) := by
  unfold TF.val TF.box
  by_cases hv : v = 1
  · have e1 : (v != 1) = false := by rw [hv]; rfl
    rw [if_pos hv]
    have hcv := (h.below (al (Below.refl _ _) (.cells #[.bool x.byp, .bool x.ctl, .int .i64 x.craft, .int .i64 x.chan, .int .i64 x.seq, .slice a x.dat.length cap] 31)) (Nat.le_refl _)).str 27 9 5 cap Try.underlying27 Try.underlying5 Try.underlying9
    clear h hv
    go_enter Try.func16, Try.ntmps16
    go_wp2_with fail
    go_ret
    exact ⟨rfl, rfl⟩
  · have e1 : (v != 1) = true := bne_iff_ne.2 hv
    rw [if_neg hv]
    clear h hv
    go_enter Try.func16, Try.ntmps16
    go_wp2_with fail
    go_ret
    exact ⟨rfl, rfl⟩
/-- the numbers stay in their range -/
theorem next_in (s : FS) (x : TF) (room : Bool) (h : 0 ≤ s.next ∧ s.next ≤ 255) : 0 ≤ (takeF s x room).1.next ∧ (takeF s x room).1.next ≤ 255 := by
  have hadd : ∀ z : Int, 0 ≤ addC z 1 ∧ addC z 1 ≤ 255 := fun z => by unfold addC; split <;> omega
  have hver : 0 ≤ (verS s x room).1.next ∧ (verS s x room).1.next ≤ 255 := by
    unfold verS
    split
    · unfold ctlS
      repeat' split
      all_goals first
        | exact h
        | (simp only [FS.bypass]
           unfold dirS
           repeat' split
           all_goals first
             | exact ⟨by decide, by decide⟩
             | (have := (x.dat[2]?.getD 0).toNat_lt; simp only; omega))
    · split
      · exact h
      · unfold seqS
        repeat' split
        all_goals first
          | exact h
          | exact hadd _
  unfold takeF
  repeat' split
  · exact h
  · exact hver
  · exact hver
/-- a call of the law -/
structure OP where
  x : TF
  room : Bool
  copy : Bool
instance : Inhabited OP := ⟨⟨⟨false, false, 0, 0, 0, []⟩, false, false⟩⟩
def OP.cells (o : OP) (a : Option Addr) (cap : Nat) : List Value := [.bool o.x.byp, .bool o.x.ctl, .int .i64 o.x.craft, .int .i64 o.x.chan, .int .i64 o.x.seq, .slice a o.x.dat.length cap, .bool o.room, .bool o.copy]
section
variable {H : Type} {enc : TypeId × Value → H} {w : World} {base : Nat}
/-- a slice of bytes that came in, from its one cell -/
theorem bytes_trod {P : Program} {t e : TypeId} {n : Nat} {v : Value} {x : DataW H × List MemPlace} (ht : P.underlying t = some (.slice e)) (he : P.underlying e = some (.int .u8)) (hc : P.cellsOf e = 1) (h : DataW.trod enc P w base (fun _ => true) true n t [v] = some x) :
    ∃ (a : Option Addr) (cap : Nat) (l : List UInt8), v = .slice a l.length cap ∧ l.length ≤ cap ∧ cap ≤ maxLen ∧ BAt w a l ∧ ∀ q, a = some q → l ≠ [] → q.block < w.heap.size := by
  rcases open_slice ht h with ⟨hcs, _⟩ | ⟨a, l, cp, m, n', D, Pl, hcs, _, hl, hm, hmm, _, hx⟩
  · simp at hcs
    subst hcs
    exact ⟨none, 0, [], rfl, by simp, by simp, .inl rfl, by simp⟩
  · simp at hcs
    subst hcs
    have hlm : l ≤ m := by rw [hmm]; split <;> omega
    have hx' : ∀ i, i < l → ∃ b : UInt8, w.cell? (a.add i) = some (.int .u8 (b.toNat : Int)) := by
      intro i hi
      obtain ⟨cs', h1, h2⟩ := hx i (by omega)
      rw [hc, Nat.mul_one] at h1
      obtain ⟨_, h3, h4⟩ := World.cells?_some h1
      match cs', h3 with
      | [c], _ =>
        obtain ⟨z, hz, hw⟩ := one_int he h2
        obtain ⟨b, rfl⟩ := wf_u8 hw
        refine ⟨b, ?_⟩
        have := h4 0 (by omega)
        simp only [List.getElem?_cons_zero] at this
        rw [← List.cons.inj hz |>.1, ← this]
        simp [Addr.add]
    obtain ⟨C, hC⟩ := choose_lt hx'
    have hlen : ((List.range l).map C).length = l := by simp
    rcases Nat.eq_zero_or_pos l with h0 | h0
    · subst h0
      exact ⟨some a, cp, [], rfl, by simp, hm, .inl rfl, by simp⟩
    · obtain ⟨b, off, spot⟩ := a
      have h1 := hC 0 h0
      have hspot : spot = none := by
        have : (⟨b, off, spot⟩ : Addr).add 0 = ⟨b, off, spot⟩ := by simp [Addr.add]
        rw [this] at h1
        exact World.cell?_spot h1
      subst hspot
      have hb : b < w.heap.size := by
        rw [add_plain] at h1
        exact World.block_lt_of_cell? w _ h1
      refine ⟨some ⟨b, off, none⟩, cp, (List.range l).map C, by rw [hlen], by rw [hlen]; exact hl, hm, .inr ⟨b, off, rfl, hb, fun i hi => ?_⟩, fun q hq _ => by cases hq; exact hb⟩
      have hi' : i < l := by simpa using hi
      have := hC i hi'
      rw [add_plain] at this
      simpa using this

/-- the six cells of a frame that came in -/
theorem frame_cells {n : Nat} {cs : List Value} {x : DataW H × List MemPlace} (h : DataW.trod enc Try.prog w base (fun _ => true) true n 31 cs = some x) :
    ∃ (p : TF) (a : Option Addr) (cap : Nat), cs = [.bool p.byp, .bool p.ctl, .int .i64 p.craft, .int .i64 p.chan, .int .i64 p.seq, .slice a p.dat.length cap] ∧ BAt w a p.dat ∧ p.dat.length ≤ cap ∧ ∀ q, a = some q → p.dat ≠ [] → q.block < w.heap.size := by
  obtain ⟨xs, m, _, _, hlc, hlen, hg⟩ := DataW.trod_struct Try.underlying31 h
  have hlc' : cs.length = 6 := hlc.trans (by kernel_rfl)
  match cs, hlc' with
  | [c0, c1, c2, c3, c4, c5], _ =>
    match xs, hlen with
    | [x0, x1, x2, x3, x4, x5], _ =>
      have e0 := hg 0 _ rfl
      have e1 := hg 1 _ rfl
      have e2 := hg 2 _ rfl
      have e3 := hg 3 _ rfl
      have e4 := hg 4 _ rfl
      have e5 := hg 5 _ rfl
      obtain ⟨b0, h0⟩ := one_bool Try.underlying4 e0
      obtain ⟨b1, h1⟩ := one_bool Try.underlying4 e1
      obtain ⟨z2, h2, -⟩ := one_int Try.underlying3 e2
      obtain ⟨z3, h3, -⟩ := one_int Try.underlying3 e3
      obtain ⟨z4, h4, -⟩ := one_int Try.underlying3 e4
      obtain ⟨a, cap, l, h5, k1, k2, k3, k4⟩ := bytes_trod Try.underlying27 Try.underlying5 (by kernel_rfl) e5
      obtain rfl : c0 = .bool b0 := (List.cons.inj h0).1
      obtain rfl : c1 = .bool b1 := (List.cons.inj h1).1
      obtain rfl : c2 = .int .i64 z2 := (List.cons.inj h2).1
      obtain rfl : c3 = .int .i64 z3 := (List.cons.inj h3).1
      obtain rfl : c4 = .int .i64 z4 := (List.cons.inj h4).1
      subst h5
      exact ⟨⟨b0, b1, z2, z3, z4, l⟩, a, cap, rfl, k3, k1, k4⟩
theorem op_cells {n : Nat} {cs : List Value} {x : DataW H × List MemPlace} (h : DataW.trod enc Try.prog w base (fun _ => true) true n 47 cs = some x) :
    ∃ (o : OP) (a : Option Addr) (cap : Nat), cs = o.cells a cap ∧ BAt w a o.x.dat ∧ o.x.dat.length ≤ cap ∧ ∀ q, a = some q → o.x.dat ≠ [] → q.block < w.heap.size := by
  obtain ⟨xs, m, _, _, hlc, hlen, hg⟩ := DataW.trod_struct Try.underlying47 h
  have hlc' : cs.length = 8 := hlc.trans (by kernel_rfl)
  match cs, hlc' with
  | [c0, c1, c2, c3, c4, c5, c6, c7], _ =>
    match xs, hlen with
    | [x0, x1, x2], _ =>
      have e0 : DataW.trod enc Try.prog w base (fun _ => true) true m 31 [c0, c1, c2, c3, c4, c5] = some x0 := hg 0 _ rfl
      have e1 : DataW.trod enc Try.prog w base (fun _ => true) true m 4 [c6] = some x1 := hg 1 _ rfl
      have e2 : DataW.trod enc Try.prog w base (fun _ => true) true m 4 [c7] = some x2 := hg 2 _ rfl
      obtain ⟨p, a, cap, h0, k1, k2, k3⟩ := frame_cells e0
      obtain ⟨b1, h1⟩ := one_bool Try.underlying4 e1
      obtain ⟨b2, h2⟩ := one_bool Try.underlying4 e2
      obtain rfl : c6 = .bool b1 := (List.cons.inj h1).1
      obtain rfl : c7 = .bool b2 := (List.cons.inj h2).1
      simp only [List.cons.injEq, and_true] at h0
      obtain ⟨rfl, rfl, rfl, rfl, rfl, rfl⟩ := h0
      exact ⟨⟨p, b1, b2⟩, a, cap, rfl, k1, k2, k3⟩
/-- calls that came in -/
def OpsAt (w : World) (hi : Nat) (a : Option Addr) (ops : List OP) : Prop :=
  ops = [] ∨ ∃ b off, a = some ⟨b, off, none⟩ ∧ b < hi ∧ ∀ i (h : i < ops.length), ∃ (al : Option Addr) (cl : Nat),
    (∀ j, j < 8 → w.cell? ⟨b, off + i * 8 + j, none⟩ = (ops[i].cells al cl)[j]?) ∧ BAt w al ops[i].x.dat ∧ ops[i].x.dat.length ≤ cl ∧ ∀ q, al = some q → ops[i].x.dat ≠ [] → q.block < hi
theorem arg_ops {r : Reach} {b0 : Nat} {v : Value} {d : DataW H} {ps : List MemPlace} (hv : Value.okWide Try.prog w r b0 41 v) (h : DataW.Trod enc Try.prog w base (fun _ => true) true 41 v d ps) :
    ∃ (a : Option Addr) (cap : Nat) (ops : List OP), v = .slice a ops.length cap ∧ OpsAt w w.heap.size a ops := by
  obtain ⟨a, len, cap, m, n, C, rfl, hl, hm, _, _, hlm, _, hC, hcell⟩ := open_rows Try.underlying41 (c := 8) (by kernel_rfl) (by omega) hv h
  have h1 : ∀ i, i < len → ∃ o : OP, ∃ (al : Option Addr) (cl : Nat), C i = o.cells al cl ∧ BAt w al o.x.dat ∧ o.x.dat.length ≤ cl ∧ ∀ q, al = some q → o.x.dat ≠ [] → q.block < w.heap.size := fun i hi => by
    obtain ⟨_, x, hx⟩ := hC i (by omega)
    exact op_cells hx
  obtain ⟨Z, hZ⟩ := choose_lt h1
  have hlen : ((List.range len).map Z).length = len := by simp
  refine ⟨a, cap, (List.range len).map Z, by rw [hlen], ?_⟩
  rcases hcell with h0 | ⟨b, off, rfl, hb, hc⟩
  · left
    have : len = 0 := by omega
    subst this
    rfl
  · refine .inr ⟨b, off, rfl, hb, fun i hi => ?_⟩
    have hi' : i < len := by simpa using hi
    obtain ⟨al, cl, ht, h3, h4, h5⟩ := hZ i hi'
    have e : ((List.range len).map Z)[i] = Z i := by simp
    rw [e]
    refine ⟨al, cl, fun j hj => ?_, h3, h4, h5⟩
    rw [Nat.add_assoc, hc i (by omega) j hj, ht]
theorem arg_ends {r : Reach} {b0 : Nat} {v : Value} {d : DataW H} {ps : List MemPlace} (hv : Value.okWide Try.prog w r b0 40 v) (h : DataW.Trod enc Try.prog w base (fun _ => true) true 40 v d ps) :
    ∃ c ch win : Int, v = .agg #[.int .i64 c, .int .i64 ch, .int .i64 win] := by
  obtain ⟨⟨l⟩, rfl, hsz⟩ := okWide_struct Try.underlying40 hv
  obtain ⟨fuel, hf⟩ := h
  have hf : DataW.trod enc Try.prog w base (fun _ => true) true fuel 40 l = some (d, ps) := by simpa [Value.cells] using hf
  obtain ⟨xs, m, _, _, hlc, hlen, hg⟩ := DataW.trod_struct Try.underlying40 hf
  have hlc' : l.length = 3 := hlc.trans (by kernel_rfl)
  match l, hlc' with
  | [c0, c1, c2], _ =>
    match xs, hlen with
    | [x0, x1, x2], _ =>
      obtain ⟨z0, h0, -⟩ := one_int Try.underlying3 (hg 0 _ rfl)
      obtain ⟨z1, h1, -⟩ := one_int Try.underlying3 (hg 1 _ rfl)
      obtain ⟨z2, h2, -⟩ := one_int Try.underlying3 (hg 2 _ rfl)
      obtain rfl : c0 = .int .i64 z0 := (List.cons.inj h0).1
      obtain rfl : c1 = .int .i64 z1 := (List.cons.inj h1).1
      obtain rfl : c2 = .int .i64 z2 := (List.cons.inj h2).1
      exact ⟨z0, z1, z2, rfl⟩
end
end Go.Proofs.Ytgdmonckfjnlfaa

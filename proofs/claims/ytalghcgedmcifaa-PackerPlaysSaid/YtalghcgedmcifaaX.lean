/- The chapter's example. No condition. -/
import Derived.Test.YtalghcgedmcifaaW
import Derived.Deep.RegionHeld3
namespace Go.Proofs.Ytalghcgedmcifaa
open Go.RowKit Go.Deep Go.ChangeShapes Go.WideShapes Go.ChangeAt
set_option linter.unusedVariables false

def exX : List UInt8 := pkB 2 5
def exA : List UInt8 := exX ++ [7, 255]
def exB : List UInt8 := [192, 0, 0, 0, 0] ++ exX.take 5
def z0 : PS := PS.new 10 100
def z1 : PS := { z0 with L := [exX], left := 8 }
def z2 : PS := { z0 with rest := [192, 0, 0, 0, 0] }
def z3 : PS := { z2 with L := [exX], left := 8 }
def z4 : PS := { z0 with L := [exX], left := 3, taken := 5 }
theorem ex1 : z0.push exX = (z1, 0) := by kernel_rfl
theorem ex2 : z1.next = (z2, some (exA, 0)) := by kernel_rfl
theorem ex3 : z2.next = (z2, none) := by kernel_rfl
theorem ex4 : z2.push exX = (z3, 0) := by kernel_rfl
theorem ex5 : z3.next = (z4, some (exB, 5)) := by kernel_rfl
theorem okz0 : z0.Ok := PS.ok_new (by decide)
theorem okz1 : z1.Ok := by have := PS.ok_push okz0 exX; rwa [ex1] at this
theorem okz2 : z2.Ok := by have := PS.ok_next okz1; rwa [ex2] at this
theorem okz3 : z3.Ok := by have := PS.ok_push okz2 exX; rwa [ex4] at this
theorem okz4 : z4.Ok := by have := PS.ok_next okz3; rwa [ex5] at this
/-- Push, where the result is known -/
theorem push_ex {X : Nat → Prop} {b : Nat} {p g : PS} {vW vR : Value} {l : List UInt8} {w : World} {n cap : Nat} {a : Option Addr} {r : Int} (e : p.push l = (g, r)) (h : PAt w X b p vW vR) (ok : p.Ok) (hb : BAt w a l) (hn : l.length = n) (hl : n ≤ 100000) (hc : n ≤ cap) (hm : cap ≤ maxLen) :
    Calls Try.prog 11 #[.pointer (some ⟨b, 0, none⟩), .slice a n cap] w fun e w' => ∃ vW', e = .returned (.int .i64 r) ∧ Hid (PAt w' X b g vW' vR) ∧ Hid (Fr (Mine b vW) w w') ∧ Hid (Below b w w') ∧ Hid (vW'.ownBlock = vW.ownBlock ∨ ∀ k, vW'.ownBlock = some k → w.heap.size ≤ k) := by
  subst hn
  refine (push_any X b p vW vR a cap l w h ok hb (by unfold maxLen; omega) hc hm).mono ?_
  rw [e]
  rintro e w' ⟨rfl, vW', h1, h2, h3⟩
  exact ⟨vW', rfl, Lib.hid h1, Lib.hid h3, Lib.hid (h.mine (Nat.le_refl _) h3), Lib.hid h2⟩
theorem next_ex {X : Nat → Prop} {b : Nat} {p g : PS} {vW vR : Value} {w : World} {o : Option (List UInt8 × Int)} (e : p.next = (g, o)) (h : PAt w X b p vW vR) (ok : p.Ok) :
    Calls Try.prog 13 #[.pointer (some ⟨b, 0, none⟩)] w fun e w' => ∃ v vW' vR', e = .returned (.tuple #[v, .int .i64 ((o.map (·.2)).getD 0), .bool o.isSome]) ∧ Hid (w'.ownsRow w.heap.size 5 1 v ((o.map (·.1)).getD []).length (encB ((o.map (·.1)).getD []))) ∧ Hid (PAt w' (Xo X v) b g vW' vR') ∧ Hid (Fr (fun k => k = b) w w') ∧ Hid (Below b w w') ∧ Hid (vW'.ownBlock = vW.ownBlock ∨ ∀ k, vW'.ownBlock = some k → w.heap.size ≤ k) ∧ Hid (∀ k, vW'.ownBlock = some k → v.ownBlock ≠ some k) := by
  refine (next_any X b p vW vR w h ok).mono ?_
  rw [e]
  rintro e w' ⟨v, vW', vR', rfl, h0, h1, h2, h3, h4⟩
  exact ⟨v, vW', vR', rfl, Lib.hid h0, Lib.hid h1, Lib.hid h3, Lib.hid (h.mine (Nat.le_refl _) (h3.wide (fun k hk => .inl (.inl hk)))), Lib.hid h2, Lib.hid h4⟩
set_option maxRecDepth 20000 in
set_option maxHeartbeats 4000000 in
theorem alive_any (w : World) : Calls Try.prog 8 #[] w fun e w' => e = .returned (.bool true) ∧ Below w.heap.size w w' := by
  obtain ⟨b, hb⟩ : ∃ b, b = w.heap.size := ⟨_, rfl⟩
  go_enter Try.func8, Try.ntmps8
  go_wp2_with fail
  refine (new_any 10 100 w (by decide)).mono ?_
  rintro e w1 ⟨rfl, hF, hB⟩
  rw [← hb] at hF ⊢
  have H1 : Hid (PAt w1 (fun k => k < b) b z0 (.slice none 0 0) (.slice none 0 0)) := Lib.hid hF
  have HB1 : Hid (Below b w w1) := Lib.hid (by rw [hb]; exact hB)
  have HBB := Lib.hid hb
  clear hF hB hb
  go_wp2_with fail
  refine (lbytes_any 2 5 w1 (by omega) (by omega)).mono ?_
  rintro e w2 ⟨vx, rfl, hO, hB⟩
  obtain ⟨-, ax, cx, rfl, hcx, hmx, hAx⟩ := BAt.of_row hO
  have e8 : (pkB 2 5).length = 8 := by rw [pkB_len]
  rw [e8] at hO hcx ⊢
  have H2 := Lib.hid (H1.out.below hB (Nat.le_refl _))
  have HB2 : Hid (Below b w w2) := Lib.hid (HB1.out.trans (hB.mono (Nat.le_of_lt H1.out.blk.lt)))
  have HX2 : Hid (BAt w2 ax exX) := Lib.hid hAx
  have HXb : Hid (∀ q, ax = some q → w1.heap.size ≤ q.block ∧ q.block < w2.heap.size) := Lib.hid (fun q hq => hO.lt q.block (by rw [hq]; rfl))
  have HXl : Hid (b < w1.heap.size) := Lib.hid H1.out.blk.lt
  clear hO hB hAx e8
  go_wp2_with fail
  refine (push_ex (n := 8) ex1 H2.out okz0 HX2.out rfl (by omega) hcx hmx).mono ?_
  rintro e w3 ⟨vW3, rfl, H3, HR3, HB3, HC3⟩
  go_wp2_with fail
  refine (next_ex ex2 H3.out okz1).mono ?_
  rintro e w4 ⟨v4, vW4, vR4, rfl, HO4, H4, HR4, HB4, HC4, HN4⟩
  simp only [Option.map_some, Option.getD_some, Option.isSome_some] at HO4 ⊢
  obtain ⟨-, a4, c4, rfl, -, -, hA4⟩ := BAt.of_row (l := exA) HO4.out
  have e10 : exA.length = 10 := by kernel_rfl
  rw [e10] at HO4 H4 HN4 ⊢
  have HA4 : Hid (BAt w4 a4 exA) := Lib.hid hA4
  have HAb : Hid (∀ q, a4 = some q → w3.heap.size ≤ q.block ∧ q.block < w4.heap.size) := Lib.hid (fun q hq => HO4.out.lt q.block (by rw [hq]; rfl))
  clear hA4 e10
  go_wp2_with fail
  refine (next_ex ex3 H4.out okz2).mono ?_
  rintro e w5 ⟨v5, vW5, vR5, rfl, HO5, H5, HR5, HB5, HC5, HN5⟩
  simp only [Option.map_none, Option.getD_none, Option.isSome_none] at HO5 ⊢
  obtain ⟨a5, n5, c5, rfl⟩ := own_slice HO5.out
  have HX5 : Hid (BAt w5 ax exX) := Lib.hid (((HX2.out.fr HR3.out (fun q hq h9 => by
    have h1 := (HXb.out q hq).1
    have h2 := HXl.out
    rcases h9 with h9 | h9
    · omega
    · simp [Value.ownBlock] at h9)).fr HR4.out (fun q hq h9 => by have := (HXb.out q hq).1; have := HXl.out; omega)).fr HR5.out (fun q hq h9 => by have := (HXb.out q hq).1; have := HXl.out; omega))
  go_wp2_with fail
  refine (push_ex (n := 8) ex4 H5.out okz2 HX5.out rfl (by omega) hcx hmx).mono ?_
  rintro e w6 ⟨vW6, rfl, H6, HR6, HB6, HC6⟩
  go_wp2_with fail
  refine (next_ex ex5 H6.out okz3).mono ?_
  rintro e w7 ⟨v7, vW7, vR7, rfl, HO7, H7, HR7, HB7, HC7, HN7⟩
  simp only [Option.map_some, Option.getD_some, Option.isSome_some] at HO7 ⊢
  obtain ⟨-, a7, c7, rfl, -, -, hA7⟩ := BAt.of_row (l := exB) HO7.out
  have e10 : exB.length = 10 := by kernel_rfl
  rw [e10] at H7 ⊢
  have HA7 : Hid (BAt w7 a7 exB) := Lib.hid hA7
  have hs3 : b < w3.heap.size := H3.out.blk.lt
  have HA47 : Hid (BAt w7 a4 exA) := Lib.hid (((HA4.out.fr HR5.out (fun q hq h9 => by have := (HAb.out q hq).1; omega)).fr HR6.out (fun q hq h9 => by
    have h1 := HAb.out q hq
    rcases h9 with h9 | h9
    · omega
    · rcases HC5.out with e9 | e9
      · exact HN4.out q.block (by rw [← e9]; exact h9) (by rw [hq]; rfl)
      · have := e9 _ h9; omega)).fr HR7.out (fun q hq h9 => by have := (HAb.out q hq).1; omega))
  have HX7 : Hid (BAt w7 ax exX) := Lib.hid ((HX5.out.fr HR6.out (fun q hq h9 => by
    have h1 := HXb.out q hq
    have h2 := HXl.out
    have s3 := HR3.out.size
    have s4 := HR4.out.size
    rcases h9 with h9 | h9
    · omega
    · rcases HC5.out with e9 | e9
      · rw [e9] at h9
        rcases HC4.out with e8 | e8
        · rw [e8] at h9
          rcases HC3.out with e7 | e7
          · rw [e7] at h9; simp [Value.ownBlock] at h9
          · have := e7 _ h9; omega
        · have := e8 _ h9; omega
      · have := e9 _ h9; omega)).fr HR7.out (fun q hq h9 => by have := (HXb.out q hq).1; have := HXl.out; omega))
  have HB7' : Hid (Below b w w7) := Lib.hid (((((HB2.out.trans HB3.out).trans HB4.out).trans HB5.out).trans HB6.out).trans HB7.out)
  obtain ⟨bx, ox, rfl⟩ : ∃ bx ox, ax = some ⟨bx, ox, none⟩ := by
    rcases HX7.out with h9 | ⟨b9, o9, h9, -⟩
    · cases h9
    · exact ⟨b9, o9, h9⟩
  obtain ⟨SA, hSA⟩ : ∃ S : ByteArray, S = ⟨exA.toArray⟩ := ⟨_, rfl⟩
  obtain ⟨SX, hSX⟩ : ∃ S : ByteArray, S = ⟨exX.toArray⟩ := ⟨_, rfl⟩
  obtain ⟨SB, hSB⟩ : ∃ S : ByteArray, S = ⟨exB.toArray⟩ := ⟨_, rfl⟩
  obtain ⟨SY, hSY⟩ : ∃ S : ByteArray, S = ⟨(exX.take 5).toArray⟩ := ⟨_, rfl⟩
  have q1 : Sem.run Try.prog (convert 22 9 (.slice a4 10 c4)) w7.drew = .ok (.string SA) w7.drew := by rw [hSA]; exact (show BAt w7.drew a4 exA from HA47.out).str 22 9 5 c4 Try.underlying22 Try.underlying5 Try.underlying9
  have q2 : Sem.run Try.prog (convert 22 9 (.slice (some ⟨bx, ox, none⟩) 8 cx)) w7.drew = .ok (.string SX) w7.drew := by rw [hSX]; exact (show BAt w7.drew (some ⟨bx, ox, none⟩) exX from HX7.out).str 22 9 5 cx Try.underlying22 Try.underlying5 Try.underlying9
  have q3 : Sem.run Try.prog (convert 22 9 (.slice a7 10 c7)) w7.drew = .ok (.string SB) w7.drew := by rw [hSB]; exact (show BAt w7.drew a7 exB from HA7.out).str 22 9 5 c7 Try.underlying22 Try.underlying5 Try.underlying9
  have q4 : Sem.run Try.prog (convert 22 9 (.slice (some ⟨bx, ox, none⟩) 5 cx)) w7.drew = .ok (.string SY) w7.drew := by rw [hSY]; exact (show BAt w7.drew (some ⟨bx, ox, none⟩) (exX.take 5) from BAt.take (l := exX) HX7.out 5).str 22 9 5 cx Try.underlying22 Try.underlying5 Try.underlying9
  have t1 : SX ++ ⟨#[7, 255]⟩ = SA := by rw [hSX, hSA]; kernel_rfl
  have t2 : (⟨#[192, 0, 0, 0, 0]⟩ : ByteArray) ++ SY = SB := by rw [hSY, hSB]; kernel_rfl
  have t3 : SX.size = 8 := by rw [hSX]; kernel_rfl
  have t4 : SY.size = 5 := by rw [hSY]; kernel_rfl
  have g1 : (5 : Int) ≤ (cx : Int) := by omega
  have HP7 : Hid (∀ w' : World, Quiet w7 w' → PAt w' _ b z4 vW7 vR7) := Lib.hid (fun w' hq => H7.out.quiet hq)
  have HSA := Lib.hid hSA
  have HSX := Lib.hid hSX
  have HSB := Lib.hid hSB
  have HSY := Lib.hid hSY
  clear hSA hSX hSB hSY
  go_upto_region 8 with fail
  refine wp_region_held_drew (S := (fun w' => Sem.run Try.prog (convert 22 9 (.slice a4 10 c4)) w' = .ok (.string SA) w' ∧ Sem.run Try.prog (convert 22 9 (.slice (some ⟨bx, ox, none⟩) 8 cx)) w' = .ok (.string SX) w' ∧ Sem.run Try.prog (convert 22 9 (.slice a7 10 c7)) w' = .ok (.string SB) w' ∧ Sem.run Try.prog (convert 22 9 (.slice (some ⟨bx, ox, none⟩) 5 cx)) w' = .ok (.string SY) w')) (by kernel_rfl) (by (try dsimp only); exact ⟨by assumption, by assumption, by assumption, by assumption⟩) (fun hHeld => ?_)
  refine wpAnyH_take (i := 0) (oi := (Oper.mk (some 40) (Op.move (Operand.tmp 3)) 28 "law.go:29" #[] none)) (v := ?_) rfl (by kernel_rfl) (by kernel_rfl) (by kernel_rfl) (fun _ _ _ h => h) (Or.inl ⟨by rfl, ?_⟩) (by assumption) ?_
  rotate_left
  · (intro w hSw; (try dsimp only at hSw); go_simp; first | done | with_reducible rfl)
  (try simp only [Act.put, List.setIfInBounds_toArray, List.set_cons_zero, List.set_cons_succ])
  refine wpAnyH_take (i := 1) (oi := (Oper.mk (some 41) (Op.binOp BinOp.eql 28 (Operand.tmp 40) (Operand.const (Value.int IntKind.i64 0)) 28) 4 "law.go:29" #[Edge.mk 0 Ground.data] none)) (v := ?_) rfl (by kernel_rfl) (by kernel_rfl) (by kernel_rfl) (fun _ _ _ h => h) (Or.inl ⟨by rfl, ?_⟩) (by assumption) ?_
  rotate_left
  · (intro w hSw; (try dsimp only at hSw); go_simp; first | done | with_reducible rfl)
  (try simp only [Act.put, List.setIfInBounds_toArray, List.set_cons_zero, List.set_cons_succ])
  refine wpAnyH_take (i := 2) (oi := (Oper.mk (some 42) (Op.move (Operand.tmp 41)) 4 "law.go:29" #[Edge.mk 1 Ground.data] none)) (v := ?_) rfl (by kernel_rfl) (by kernel_rfl) (by kernel_rfl) (fun _ _ _ h => h) (Or.inl ⟨by rfl, ?_⟩) (by assumption) ?_
  rotate_left
  · (intro w hSw; (try dsimp only at hSw); go_simp; first | done | with_reducible rfl)
  (try simp only [Act.put, List.setIfInBounds_toArray, List.set_cons_zero, List.set_cons_succ])
  refine wpAnyH_take (i := 3) (oi := (Oper.mk (some 43) (Op.move (Operand.tmp 10)) 28 "law.go:29" #[Edge.mk 2 Ground.guard] (some (2, true)))) (v := ?_) rfl (by kernel_rfl) (by kernel_rfl) (by kernel_rfl) (fun _ _ _ h => h) (Or.inl ⟨by rfl, ?_⟩) (by assumption) ?_
  rotate_left
  · (intro w hSw; (try dsimp only at hSw); go_simp; first | done | with_reducible rfl)
  (try simp only [Act.put, List.setIfInBounds_toArray, List.set_cons_zero, List.set_cons_succ])
  refine wpAnyH_take (i := 4) (oi := (Oper.mk (some 44) (Op.binOp BinOp.eql 28 (Operand.tmp 43) (Operand.const (Value.int IntKind.i64 0)) 28) 4 "law.go:29" #[Edge.mk 3 Ground.data, Edge.mk 2 Ground.guard] (some (2, true)))) (v := ?_) rfl (by kernel_rfl) (by kernel_rfl) (by kernel_rfl) (fun _ _ _ h => h) (Or.inl ⟨by rfl, ?_⟩) (by assumption) ?_
  rotate_left
  · (intro w hSw; (try dsimp only at hSw); go_simp; first | done | with_reducible rfl)
  (try simp only [Act.put, List.setIfInBounds_toArray, List.set_cons_zero, List.set_cons_succ])
  refine wpAnyH_take (i := 5) (oi := (Oper.mk (some 45) (Op.pick (Operand.tmp 42) (Operand.tmp 44) (Operand.const (Value.bool false))) 4 "law.go:29" #[Edge.mk 2 Ground.data, Edge.mk 4 Ground.data] none)) (v := ?_) rfl (by kernel_rfl) (by kernel_rfl) (by kernel_rfl) (fun _ _ _ h => h) (Or.inl ⟨by rfl, ?_⟩) (by assumption) ?_
  rotate_left
  · (intro w hSw; (try dsimp only at hSw); go_simp; first | done | with_reducible rfl)
  (try simp only [Act.put, List.setIfInBounds_toArray, List.set_cons_zero, List.set_cons_succ])
  refine wpAnyH_take (i := 6) (oi := (Oper.mk (some 46) (Op.move (Operand.tmp 45)) 4 "law.go:29" #[Edge.mk 5 Ground.data, Edge.mk 2 Ground.chain] none)) (v := ?_) rfl (by kernel_rfl) (by kernel_rfl) (by kernel_rfl) (fun _ _ _ h => h) (Or.inl ⟨by rfl, ?_⟩) (by assumption) ?_
  rotate_left
  · (intro w hSw; (try dsimp only at hSw); go_simp; first | done | with_reducible rfl)
  (try simp only [Act.put, List.setIfInBounds_toArray, List.set_cons_zero, List.set_cons_succ])
  refine wpAnyH_take (i := 7) (oi := (Oper.mk (some 47) (Op.move (Operand.tmp 6)) 4 "law.go:29" #[Edge.mk 6 Ground.guard] (some (6, true)))) (v := ?_) rfl (by kernel_rfl) (by kernel_rfl) (by kernel_rfl) (fun _ _ _ h => h) (Or.inl ⟨by rfl, ?_⟩) (by assumption) ?_
  rotate_left
  · (intro w hSw; (try dsimp only at hSw); go_simp; first | done | with_reducible rfl)
  (try simp only [Act.put, List.setIfInBounds_toArray, List.set_cons_zero, List.set_cons_succ])
  refine wpAnyH_take (i := 8) (oi := (Oper.mk (some 48) (Op.pick (Operand.tmp 46) (Operand.tmp 47) (Operand.const (Value.bool false))) 4 "law.go:29" #[Edge.mk 6 Ground.data, Edge.mk 7 Ground.data] none)) (v := ?_) rfl (by kernel_rfl) (by kernel_rfl) (by kernel_rfl) (fun _ _ _ h => h) (Or.inl ⟨by rfl, ?_⟩) (by assumption) ?_
  rotate_left
  · (intro w hSw; (try dsimp only at hSw); go_simp; first | done | with_reducible rfl)
  (try simp only [Act.put, List.setIfInBounds_toArray, List.set_cons_zero, List.set_cons_succ])
  refine wpAnyH_take (i := 9) (oi := (Oper.mk (some 49) (Op.move (Operand.tmp 48)) 4 "law.go:29" #[Edge.mk 8 Ground.data, Edge.mk 6 Ground.chain] none)) (v := ?_) rfl (by kernel_rfl) (by kernel_rfl) (by kernel_rfl) (fun _ _ _ h => h) (Or.inl ⟨by rfl, ?_⟩) (by assumption) ?_
  rotate_left
  · (intro w hSw; (try dsimp only at hSw); go_simp; first | done | with_reducible rfl)
  (try simp only [Act.put, List.setIfInBounds_toArray, List.set_cons_zero, List.set_cons_succ])
  refine wpAnyH_take (i := 10) (oi := (Oper.mk (some 50) (Op.move (Operand.tmp 13)) 4 "law.go:29" #[Edge.mk 9 Ground.guard] (some (9, true)))) (v := ?_) rfl (by kernel_rfl) (by kernel_rfl) (by kernel_rfl) (fun _ _ _ h => h) (Or.inl ⟨by rfl, ?_⟩) (by assumption) ?_
  rotate_left
  · (intro w hSw; (try dsimp only at hSw); go_simp; first | done | with_reducible rfl)
  (try simp only [Act.put, List.setIfInBounds_toArray, List.set_cons_zero, List.set_cons_succ])
  refine wpAnyH_take (i := 11) (oi := (Oper.mk (some 51) (Op.pick (Operand.tmp 49) (Operand.tmp 50) (Operand.const (Value.bool false))) 4 "law.go:29" #[Edge.mk 9 Ground.data, Edge.mk 10 Ground.data] none)) (v := ?_) rfl (by kernel_rfl) (by kernel_rfl) (by kernel_rfl) (fun _ _ _ h => h) (Or.inl ⟨by rfl, ?_⟩) (by assumption) ?_
  rotate_left
  · (intro w hSw; (try dsimp only at hSw); go_simp; first | done | with_reducible rfl)
  (try simp only [Act.put, List.setIfInBounds_toArray, List.set_cons_zero, List.set_cons_succ])
  refine wpAnyH_take (i := 12) (oi := (Oper.mk (some 52) (Op.move (Operand.tmp 51)) 4 "law.go:29" #[Edge.mk 11 Ground.data, Edge.mk 9 Ground.chain] none)) (v := ?_) rfl (by kernel_rfl) (by kernel_rfl) (by kernel_rfl) (fun _ _ _ h => h) (Or.inl ⟨by rfl, ?_⟩) (by assumption) ?_
  rotate_left
  · (intro w hSw; (try dsimp only at hSw); go_simp; first | done | with_reducible rfl)
  (try simp only [Act.put, List.setIfInBounds_toArray, List.set_cons_zero, List.set_cons_succ])
  refine wpAnyH_take (i := 13) (oi := (Oper.mk (some 53) (Op.move (Operand.tmp 9)) 4 "law.go:29" #[Edge.mk 12 Ground.guard] (some (12, true)))) (v := ?_) rfl (by kernel_rfl) (by kernel_rfl) (by kernel_rfl) (fun _ _ _ h => h) (Or.inl ⟨by rfl, ?_⟩) (by assumption) ?_
  rotate_left
  · (intro w hSw; (try dsimp only at hSw); go_simp; first | done | with_reducible rfl)
  (try simp only [Act.put, List.setIfInBounds_toArray, List.set_cons_zero, List.set_cons_succ])
  refine wpAnyH_take (i := 14) (oi := (Oper.mk (some 54) (Op.unOp UnOp.not 4 (Operand.tmp 53)) 4 "law.go:29" #[Edge.mk 13 Ground.data, Edge.mk 12 Ground.guard] (some (12, true)))) (v := ?_) rfl (by kernel_rfl) (by kernel_rfl) (by kernel_rfl) (fun _ _ _ h => h) (Or.inl ⟨by rfl, ?_⟩) (by assumption) ?_
  rotate_left
  · (intro w hSw; (try dsimp only at hSw); go_simp; first | done | with_reducible rfl)
  (try simp only [Act.put, List.setIfInBounds_toArray, List.set_cons_zero, List.set_cons_succ])
  refine wpAnyH_take (i := 15) (oi := (Oper.mk (some 55) (Op.pick (Operand.tmp 52) (Operand.tmp 54) (Operand.const (Value.bool false))) 4 "law.go:29" #[Edge.mk 12 Ground.data, Edge.mk 14 Ground.data] none)) (v := ?_) rfl (by kernel_rfl) (by kernel_rfl) (by kernel_rfl) (fun _ _ _ h => h) (Or.inl ⟨by rfl, ?_⟩) (by assumption) ?_
  rotate_left
  · (intro w hSw; (try dsimp only at hSw); go_simp; first | done | with_reducible rfl)
  (try simp only [Act.put, List.setIfInBounds_toArray, List.set_cons_zero, List.set_cons_succ])
  refine wpAnyH_take (i := 16) (oi := (Oper.mk (some 56) (Op.move (Operand.tmp 55)) 4 "law.go:29" #[Edge.mk 15 Ground.data, Edge.mk 12 Ground.chain] none)) (v := ?_) rfl (by kernel_rfl) (by kernel_rfl) (by kernel_rfl) (fun _ _ _ h => h) (Or.inl ⟨by rfl, ?_⟩) (by assumption) ?_
  rotate_left
  · (intro w hSw; (try dsimp only at hSw); go_simp; first | done | with_reducible rfl)
  (try simp only [Act.put, List.setIfInBounds_toArray, List.set_cons_zero, List.set_cons_succ])
  refine wpAnyH_take (i := 17) (oi := (Oper.mk (some 57) (Op.move (Operand.tmp 5)) 3 "law.go:29" #[Edge.mk 16 Ground.guard] (some (16, true)))) (v := ?_) rfl (by kernel_rfl) (by kernel_rfl) (by kernel_rfl) (fun _ _ _ h => h) (Or.inl ⟨by rfl, ?_⟩) (by assumption) ?_
  rotate_left
  · (intro w hSw; (try dsimp only at hSw); go_simp; first | done | with_reducible rfl)
  (try simp only [Act.put, List.setIfInBounds_toArray, List.set_cons_zero, List.set_cons_succ])
  refine wpAnyH_take (i := 18) (oi := (Oper.mk (some 58) (Op.binOp BinOp.eql 3 (Operand.tmp 57) (Operand.const (Value.int IntKind.i64 0)) 3) 4 "law.go:29" #[Edge.mk 17 Ground.data, Edge.mk 16 Ground.guard] (some (16, true)))) (v := ?_) rfl (by kernel_rfl) (by kernel_rfl) (by kernel_rfl) (fun _ _ _ h => h) (Or.inl ⟨by rfl, ?_⟩) (by assumption) ?_
  rotate_left
  · (intro w hSw; (try dsimp only at hSw); go_simp; first | done | with_reducible rfl)
  (try simp only [Act.put, List.setIfInBounds_toArray, List.set_cons_zero, List.set_cons_succ])
  refine wpAnyH_take (i := 19) (oi := (Oper.mk (some 59) (Op.pick (Operand.tmp 56) (Operand.tmp 58) (Operand.const (Value.bool false))) 4 "law.go:29" #[Edge.mk 16 Ground.data, Edge.mk 18 Ground.data] none)) (v := ?_) rfl (by kernel_rfl) (by kernel_rfl) (by kernel_rfl) (fun _ _ _ h => h) (Or.inl ⟨by rfl, ?_⟩) (by assumption) ?_
  rotate_left
  · (intro w hSw; (try dsimp only at hSw); go_simp; first | done | with_reducible rfl)
  (try simp only [Act.put, List.setIfInBounds_toArray, List.set_cons_zero, List.set_cons_succ])
  refine wpAnyH_take (i := 20) (oi := (Oper.mk (some 60) (Op.move (Operand.tmp 59)) 4 "law.go:29" #[Edge.mk 19 Ground.data, Edge.mk 16 Ground.chain] none)) (v := ?_) rfl (by kernel_rfl) (by kernel_rfl) (by kernel_rfl) (fun _ _ _ h => h) (Or.inl ⟨by rfl, ?_⟩) (by assumption) ?_
  rotate_left
  · (intro w hSw; (try dsimp only at hSw); go_simp; first | done | with_reducible rfl)
  (try simp only [Act.put, List.setIfInBounds_toArray, List.set_cons_zero, List.set_cons_succ])
  refine wpAnyH_take (i := 21) (oi := (Oper.mk (some 61) (Op.move (Operand.tmp 12)) 3 "law.go:29" #[Edge.mk 20 Ground.guard] (some (20, true)))) (v := ?_) rfl (by kernel_rfl) (by kernel_rfl) (by kernel_rfl) (fun _ _ _ h => h) (Or.inl ⟨by rfl, ?_⟩) (by assumption) ?_
  rotate_left
  · (intro w hSw; (try dsimp only at hSw); go_simp; first | done | with_reducible rfl)
  (try simp only [Act.put, List.setIfInBounds_toArray, List.set_cons_zero, List.set_cons_succ])
  refine wpAnyH_take (i := 22) (oi := (Oper.mk (some 62) (Op.binOp BinOp.eql 3 (Operand.tmp 61) (Operand.const (Value.int IntKind.i64 5)) 3) 4 "law.go:29" #[Edge.mk 21 Ground.data, Edge.mk 20 Ground.guard] (some (20, true)))) (v := ?_) rfl (by kernel_rfl) (by kernel_rfl) (by kernel_rfl) (fun _ _ _ h => h) (Or.inl ⟨by rfl, ?_⟩) (by assumption) ?_
  rotate_left
  · (intro w hSw; (try dsimp only at hSw); go_simp; first | done | with_reducible rfl)
  (try simp only [Act.put, List.setIfInBounds_toArray, List.set_cons_zero, List.set_cons_succ])
  refine wpAnyH_take (i := 23) (oi := (Oper.mk (some 63) (Op.pick (Operand.tmp 60) (Operand.tmp 62) (Operand.const (Value.bool false))) 4 "law.go:29" #[Edge.mk 20 Ground.data, Edge.mk 22 Ground.data] none)) (v := ?_) rfl (by kernel_rfl) (by kernel_rfl) (by kernel_rfl) (fun _ _ _ h => h) (Or.inl ⟨by rfl, ?_⟩) (by assumption) ?_
  rotate_left
  · (intro w hSw; (try dsimp only at hSw); go_simp; first | done | with_reducible rfl)
  (try simp only [Act.put, List.setIfInBounds_toArray, List.set_cons_zero, List.set_cons_succ])
  refine wpAnyH_take (i := 24) (oi := (Oper.mk (some 64) (Op.move (Operand.tmp 63)) 4 "law.go:29" #[Edge.mk 23 Ground.data, Edge.mk 20 Ground.chain] none)) (v := ?_) rfl (by kernel_rfl) (by kernel_rfl) (by kernel_rfl) (fun _ _ _ h => h) (Or.inl ⟨by rfl, ?_⟩) (by assumption) ?_
  rotate_left
  · (intro w hSw; (try dsimp only at hSw); go_simp; first | done | with_reducible rfl)
  (try simp only [Act.put, List.setIfInBounds_toArray, List.set_cons_zero, List.set_cons_succ])
  refine wpAnyH_take (i := 25) (oi := (Oper.mk (some 65) (Op.move (Operand.tmp 4)) 22 "law.go:29" #[Edge.mk 24 Ground.guard] (some (24, true)))) (v := ?_) rfl (by kernel_rfl) (by kernel_rfl) (by kernel_rfl) (fun _ _ _ h => h) (Or.inl ⟨by rfl, ?_⟩) (by assumption) ?_
  rotate_left
  · (intro w hSw; (try dsimp only at hSw); go_simp; first | done | with_reducible rfl)
  (try simp only [Act.put, List.setIfInBounds_toArray, List.set_cons_zero, List.set_cons_succ])
  refine wpAnyH_take (i := 26) (oi := (Oper.mk (some 66) (Op.convert 22 9 (Operand.tmp 65)) 9 "law.go:29" #[Edge.mk 25 Ground.data, Edge.mk 24 Ground.guard] (some (24, true)))) (v := ?_) rfl (by kernel_rfl) (by kernel_rfl) (by kernel_rfl) (fun _ _ _ h => h) (Or.inl ⟨by rfl, ?_⟩) (by assumption) ?_
  rotate_left
  · (intro w hSw; (try dsimp only at hSw); go_simp; first | done | with_reducible rfl)
  (try simp only [Act.put, List.setIfInBounds_toArray, List.set_cons_zero, List.set_cons_succ])
  refine wpAnyH_take (i := 27) (oi := (Oper.mk (some 67) (Op.move (Operand.tmp 2)) 22 "law.go:29" #[Edge.mk 24 Ground.guard] (some (24, true)))) (v := ?_) rfl (by kernel_rfl) (by kernel_rfl) (by kernel_rfl) (fun _ _ _ h => h) (Or.inl ⟨by rfl, ?_⟩) (by assumption) ?_
  rotate_left
  · (intro w hSw; (try dsimp only at hSw); go_simp; first | done | with_reducible rfl)
  (try simp only [Act.put, List.setIfInBounds_toArray, List.set_cons_zero, List.set_cons_succ])
  refine wpAnyH_take (i := 28) (oi := (Oper.mk (some 68) (Op.convert 22 9 (Operand.tmp 67)) 9 "law.go:29" #[Edge.mk 27 Ground.data, Edge.mk 24 Ground.guard] (some (24, true)))) (v := ?_) rfl (by kernel_rfl) (by kernel_rfl) (by kernel_rfl) (fun _ _ _ h => h) (Or.inl ⟨by rfl, ?_⟩) (by assumption) ?_
  rotate_left
  · (intro w hSw; (try dsimp only at hSw); go_simp; first | done | with_reducible rfl)
  (try simp only [Act.put, List.setIfInBounds_toArray, List.set_cons_zero, List.set_cons_succ])
  refine wpAnyH_take (i := 29) (oi := (Oper.mk (some 69) (Op.binOp BinOp.add 9 (Operand.tmp 68) (Operand.const (Value.string (ByteArray.mk #[7, 255]))) 9) 9 "law.go:29" #[Edge.mk 28 Ground.data, Edge.mk 24 Ground.guard] (some (24, true)))) (v := ?_) rfl (by kernel_rfl) (by kernel_rfl) (by kernel_rfl) (fun _ _ _ h => h) (Or.inl ⟨by rfl, ?_⟩) (by assumption) ?_
  rotate_left
  · (intro w hSw; (try dsimp only at hSw); go_simp; first | done | with_reducible rfl)
  (try simp only [Act.put, List.setIfInBounds_toArray, List.set_cons_zero, List.set_cons_succ])
  refine wpAnyH_take (i := 30) (oi := (Oper.mk (some 70) (Op.binOp BinOp.eql 9 (Operand.tmp 66) (Operand.tmp 69) 9) 4 "law.go:29" #[Edge.mk 26 Ground.data, Edge.mk 29 Ground.data, Edge.mk 24 Ground.guard] (some (24, true)))) (v := ?_) rfl (by kernel_rfl) (by kernel_rfl) (by kernel_rfl) (fun _ _ _ h => h) (Or.inl ⟨by rfl, ?_⟩) (by assumption) ?_
  rotate_left
  · (intro w hSw; (try dsimp only at hSw); go_simp; first | done | with_reducible rfl)
  (try simp only [Act.put, List.setIfInBounds_toArray, List.set_cons_zero, List.set_cons_succ])
  refine wpAnyH_take (i := 31) (oi := (Oper.mk (some 71) (Op.pick (Operand.tmp 64) (Operand.tmp 70) (Operand.const (Value.bool false))) 4 "law.go:29" #[Edge.mk 24 Ground.data, Edge.mk 30 Ground.data] none)) (v := ?_) rfl (by kernel_rfl) (by kernel_rfl) (by kernel_rfl) (fun _ _ _ h => h) (Or.inl ⟨by rfl, ?_⟩) (by assumption) ?_
  rotate_left
  · (intro w hSw; (try dsimp only at hSw); go_simp; first | done | with_reducible rfl)
  (try simp only [Act.put, List.setIfInBounds_toArray, List.set_cons_zero, List.set_cons_succ])
  refine wpAnyH_take (i := 32) (oi := (Oper.mk (some 72) (Op.move (Operand.tmp 71)) 4 "law.go:29" #[Edge.mk 31 Ground.data, Edge.mk 24 Ground.chain] none)) (v := ?_) rfl (by kernel_rfl) (by kernel_rfl) (by kernel_rfl) (fun _ _ _ h => h) (Or.inl ⟨by rfl, ?_⟩) (by assumption) ?_
  rotate_left
  · (intro w hSw; (try dsimp only at hSw); go_simp; first | done | with_reducible rfl)
  (try simp only [Act.put, List.setIfInBounds_toArray, List.set_cons_zero, List.set_cons_succ])
  refine wpAnyH_take (i := 33) (oi := (Oper.mk (some 73) (Op.move (Operand.tmp 11)) 22 "law.go:29" #[Edge.mk 32 Ground.guard] (some (32, true)))) (v := ?_) rfl (by kernel_rfl) (by kernel_rfl) (by kernel_rfl) (fun _ _ _ h => h) (Or.inl ⟨by rfl, ?_⟩) (by assumption) ?_
  rotate_left
  · (intro w hSw; (try dsimp only at hSw); go_simp; first | done | with_reducible rfl)
  (try simp only [Act.put, List.setIfInBounds_toArray, List.set_cons_zero, List.set_cons_succ])
  refine wpAnyH_take (i := 34) (oi := (Oper.mk (some 74) (Op.convert 22 9 (Operand.tmp 73)) 9 "law.go:29" #[Edge.mk 33 Ground.data, Edge.mk 32 Ground.guard] (some (32, true)))) (v := ?_) rfl (by kernel_rfl) (by kernel_rfl) (by kernel_rfl) (fun _ _ _ h => h) (Or.inl ⟨by rfl, ?_⟩) (by assumption) ?_
  rotate_left
  · (intro w hSw; (try dsimp only at hSw); go_simp; first | done | with_reducible rfl)
  (try simp only [Act.put, List.setIfInBounds_toArray, List.set_cons_zero, List.set_cons_succ])
  refine wpAnyH_take (i := 35) (oi := (Oper.mk (some 75) (Op.move (Operand.tmp 2)) 22 "law.go:29" #[Edge.mk 32 Ground.guard] (some (32, true)))) (v := ?_) rfl (by kernel_rfl) (by kernel_rfl) (by kernel_rfl) (fun _ _ _ h => h) (Or.inl ⟨by rfl, ?_⟩) (by assumption) ?_
  rotate_left
  · (intro w hSw; (try dsimp only at hSw); go_simp; first | done | with_reducible rfl)
  (try simp only [Act.put, List.setIfInBounds_toArray, List.set_cons_zero, List.set_cons_succ])
  refine wpAnyH_take (i := 36) (oi := (Oper.mk (some 76) (Op.slice 22 (Operand.tmp 75) none (some (Operand.const (Value.int IntKind.i64 5))) none) 22 "law.go:29" #[Edge.mk 35 Ground.data, Edge.mk 32 Ground.guard] (some (32, true)))) (v := ?_) rfl (by kernel_rfl) (by kernel_rfl) (by kernel_rfl) (fun _ _ _ h => h) (Or.inl ⟨by rfl, ?_⟩) (by assumption) ?_
  rotate_left
  · (intro w hSw; (try dsimp only at hSw); go_simp; first | done | with_reducible rfl)
  (try simp only [Act.put, List.setIfInBounds_toArray, List.set_cons_zero, List.set_cons_succ])
  refine wpAnyH_take (i := 37) (oi := (Oper.mk (some 77) (Op.convert 22 9 (Operand.tmp 76)) 9 "law.go:29" #[Edge.mk 36 Ground.data, Edge.mk 32 Ground.guard] (some (32, true)))) (v := ?_) rfl (by kernel_rfl) (by kernel_rfl) (by kernel_rfl) (fun _ _ _ h => h) (Or.inl ⟨by rfl, ?_⟩) (by assumption) ?_
  rotate_left
  · (intro w hSw; (try dsimp only at hSw); go_simp; first | done | with_reducible rfl)
  (try simp only [Act.put, List.setIfInBounds_toArray, List.set_cons_zero, List.set_cons_succ])
  refine wpAnyH_take (i := 38) (oi := (Oper.mk (some 78) (Op.binOp BinOp.add 9 (Operand.const (Value.string (ByteArray.mk #[192, 0, 0, 0, 0]))) (Operand.tmp 77) 9) 9 "law.go:29" #[Edge.mk 37 Ground.data, Edge.mk 32 Ground.guard] (some (32, true)))) (v := ?_) rfl (by kernel_rfl) (by kernel_rfl) (by kernel_rfl) (fun _ _ _ h => h) (Or.inl ⟨by rfl, ?_⟩) (by assumption) ?_
  rotate_left
  · (intro w hSw; (try dsimp only at hSw); go_simp; first | done | with_reducible rfl)
  (try simp only [Act.put, List.setIfInBounds_toArray, List.set_cons_zero, List.set_cons_succ])
  refine wpAnyH_take (i := 39) (oi := (Oper.mk (some 79) (Op.binOp BinOp.eql 9 (Operand.tmp 74) (Operand.tmp 78) 9) 4 "law.go:29" #[Edge.mk 34 Ground.data, Edge.mk 38 Ground.data, Edge.mk 32 Ground.guard] (some (32, true)))) (v := ?_) rfl (by kernel_rfl) (by kernel_rfl) (by kernel_rfl) (fun _ _ _ h => h) (Or.inl ⟨by rfl, ?_⟩) (by assumption) ?_
  rotate_left
  · (intro w hSw; (try dsimp only at hSw); go_simp; first | done | with_reducible rfl)
  (try simp only [Act.put, List.setIfInBounds_toArray, List.set_cons_zero, List.set_cons_succ])
  refine wpAnyH_take (i := 40) (oi := (Oper.mk (some 80) (Op.pick (Operand.tmp 72) (Operand.tmp 79) (Operand.const (Value.bool false))) 4 "law.go:29" #[Edge.mk 32 Ground.data, Edge.mk 39 Ground.data] none)) (v := ?_) rfl (by kernel_rfl) (by kernel_rfl) (by kernel_rfl) (fun _ _ _ h => h) (Or.inl ⟨by rfl, ?_⟩) (by assumption) ?_
  rotate_left
  · (intro w hSw; (try dsimp only at hSw); go_simp; first | done | with_reducible rfl)
  (try simp only [Act.put, List.setIfInBounds_toArray, List.set_cons_zero, List.set_cons_succ])
  refine wpAnyH_take (i := 41) (oi := (Oper.mk (some 81) (Op.move (Operand.tmp 80)) 4 "law.go:29" #[Edge.mk 40 Ground.data, Edge.mk 32 Ground.chain] none)) (v := ?_) rfl (by kernel_rfl) (by kernel_rfl) (by kernel_rfl) (fun _ _ _ h => h) (Or.inl ⟨by rfl, ?_⟩) (by assumption) ?_
  rotate_left
  · (intro w hSw; (try dsimp only at hSw); go_simp; first | done | with_reducible rfl)
  (try simp only [Act.put, List.setIfInBounds_toArray, List.set_cons_zero, List.set_cons_succ])
  refine wpAnyH_take (i := 42) (oi := (Oper.mk (some 82) (Op.move (Operand.tmp 1)) 25 "law.go:29" #[Edge.mk 41 Ground.guard] (some (41, true)))) (v := ?_) rfl (by kernel_rfl) (by kernel_rfl) (by kernel_rfl) (fun _ _ _ h => h) (Or.inl ⟨by rfl, ?_⟩) (by assumption) ?_
  rotate_left
  · (intro w hSw; (try dsimp only at hSw); go_simp; first | done | with_reducible rfl)
  (try simp only [Act.put, List.setIfInBounds_toArray, List.set_cons_zero, List.set_cons_succ])
  refine wpAnyH_ready (rs := [43]) (by kernel_rfl) (by simp) ?_
  refine AllReadyH.cons (o := (Oper.mk (some 83) (Op.call (Call.mk (Callee.value (Operand.func 14)) #[Operand.tmp 82] #[25])) 3 "law.go:29" #[Edge.mk 42 Ground.data, Edge.mk 41 Ground.chain, Edge.mk 41 Ground.guard] (some (41, true)))) rfl (fun K hK => ?_) (AllReadyH.nil)
  go_simp
  (go_at_call 14; refine (left_any w7.drew (HP7.out _ ⟨1, rfl⟩) okz4).mono ?_; rintro e x1 ⟨rfl, hw⟩; obtain rfl := hw.symm; rw [show ((z4.left : Nat) : Int) = 3 from rfl])
  refine hK.out _ _ (by (try dsimp only); exact ⟨by assumption, by assumption, by assumption, by assumption⟩) (fun hHeld => ?_)
  clear hK K
  (try simp only [Act.put, List.setIfInBounds_toArray, List.set_cons_zero, List.set_cons_succ])
  refine wpAnyH_take (i := 44) (oi := (Oper.mk (some 84) (Op.binOp BinOp.eql 3 (Operand.tmp 83) (Operand.const (Value.int IntKind.i64 3)) 3) 4 "law.go:29" #[Edge.mk 43 Ground.data, Edge.mk 41 Ground.guard] (some (41, true)))) (v := ?_) rfl (by kernel_rfl) (by kernel_rfl) (by kernel_rfl) (fun _ _ _ h => h) (Or.inl ⟨by rfl, ?_⟩) (by assumption) ?_
  rotate_left
  · (intro w hSw; (try dsimp only at hSw); go_simp; first | done | with_reducible rfl)
  (try simp only [Act.put, List.setIfInBounds_toArray, List.set_cons_zero, List.set_cons_succ])
  refine wpAnyH_take (i := 45) (oi := (Oper.mk (some 85) (Op.pick (Operand.tmp 81) (Operand.tmp 84) (Operand.const (Value.bool false))) 4 "law.go:29" #[Edge.mk 41 Ground.data, Edge.mk 44 Ground.data] none)) (v := ?_) rfl (by kernel_rfl) (by kernel_rfl) (by kernel_rfl) (fun _ _ _ h => h) (Or.inl ⟨by rfl, ?_⟩) (by assumption) ?_
  rotate_left
  · (intro w hSw; (try dsimp only at hSw); go_simp; first | done | with_reducible rfl)
  (try simp only [Act.put, List.setIfInBounds_toArray, List.set_cons_zero, List.set_cons_succ])
  refine wpAnyH_take (i := 46) (oi := (Oper.mk (some 86) (Op.move (Operand.tmp 85)) 4 "law.go:29" #[Edge.mk 45 Ground.data, Edge.mk 43 Ground.chain] none)) (v := ?_) rfl (by kernel_rfl) (by kernel_rfl) (by kernel_rfl) (fun _ _ _ h => h) (Or.inl ⟨by rfl, ?_⟩) (by assumption) ?_
  rotate_left
  · (intro w hSw; (try dsimp only at hSw); go_simp; first | done | with_reducible rfl)
  (try simp only [Act.put, List.setIfInBounds_toArray, List.set_cons_zero, List.set_cons_succ])
  refine wpAnyH_take (i := 47) (oi := (Oper.mk (some 87) (Op.move (Operand.tmp 1)) 25 "law.go:29" #[Edge.mk 46 Ground.guard] (some (46, true)))) (v := ?_) rfl (by kernel_rfl) (by kernel_rfl) (by kernel_rfl) (fun _ _ _ h => h) (Or.inl ⟨by rfl, ?_⟩) (by assumption) ?_
  rotate_left
  · (intro w hSw; (try dsimp only at hSw); go_simp; first | done | with_reducible rfl)
  (try simp only [Act.put, List.setIfInBounds_toArray, List.set_cons_zero, List.set_cons_succ])
  refine wpAnyH_ready (rs := [48]) (by kernel_rfl) (by simp) ?_
  refine AllReadyH.cons (o := (Oper.mk (some 88) (Op.call (Call.mk (Callee.value (Operand.func 12)) #[Operand.tmp 87] #[25])) 4 "law.go:29" #[Edge.mk 47 Ground.data, Edge.mk 46 Ground.chain, Edge.mk 46 Ground.guard] (some (46, true)))) rfl (fun K hK => ?_) (AllReadyH.nil)
  go_simp
  (go_at_call 12; refine (ready_any w7.drew (HP7.out _ ⟨1, rfl⟩) okz4).mono ?_; rintro e x2 ⟨rfl, nq2, hw⟩; rw [show z4.ready = false from (by kernel_rfl)]; have hq2 : Quiet w7 x2 := (by subst hw; exact Quiet.trans (b := w7.drew) ⟨1, rfl⟩ ⟨nq2, rfl⟩); have HQ2 := Lib.hid hq2; have q1 : Sem.run Try.prog (convert 22 9 (.slice a4 10 c4)) x2 = .ok (.string SA) x2 := (by rw [HSA.out]; exact (HA47.out.quiet hq2).str 22 9 5 c4 Try.underlying22 Try.underlying5 Try.underlying9); have q2 : Sem.run Try.prog (convert 22 9 (.slice (some ⟨bx, ox, none⟩) 8 cx)) x2 = .ok (.string SX) x2 := (by rw [HSX.out]; exact (HX7.out.quiet hq2).str 22 9 5 cx Try.underlying22 Try.underlying5 Try.underlying9); have q3 : Sem.run Try.prog (convert 22 9 (.slice a7 10 c7)) x2 = .ok (.string SB) x2 := (by rw [HSB.out]; exact (HA7.out.quiet hq2).str 22 9 5 c7 Try.underlying22 Try.underlying5 Try.underlying9); have q4 : Sem.run Try.prog (convert 22 9 (.slice (some ⟨bx, ox, none⟩) 5 cx)) x2 = .ok (.string SY) x2 := (by rw [HSY.out]; exact ((BAt.take (l := exX) HX7.out 5).quiet hq2).str 22 9 5 cx Try.underlying22 Try.underlying5 Try.underlying9); clear hq2 hw)
  refine hK.out _ _ (by (try dsimp only); exact ⟨by assumption, by assumption, by assumption, by assumption⟩) (fun hHeld => ?_)
  clear hK K
  (try simp only [Act.put, List.setIfInBounds_toArray, List.set_cons_zero, List.set_cons_succ])
  refine wpAnyH_take (i := 49) (oi := (Oper.mk (some 89) (Op.unOp UnOp.not 4 (Operand.tmp 88)) 4 "law.go:29" #[Edge.mk 48 Ground.data, Edge.mk 46 Ground.guard] (some (46, true)))) (v := ?_) rfl (by kernel_rfl) (by kernel_rfl) (by kernel_rfl) (fun _ _ _ h => h) (Or.inl ⟨by rfl, ?_⟩) (by assumption) ?_
  rotate_left
  · (intro w hSw; (try dsimp only at hSw); go_simp; first | done | with_reducible rfl)
  (try simp only [Act.put, List.setIfInBounds_toArray, List.set_cons_zero, List.set_cons_succ])
  refine wpAnyH_take (i := 50) (oi := (Oper.mk (some 90) (Op.pick (Operand.tmp 86) (Operand.tmp 89) (Operand.const (Value.bool false))) 4 "law.go:29" #[Edge.mk 46 Ground.data, Edge.mk 49 Ground.data] none)) (v := ?_) rfl (by kernel_rfl) (by kernel_rfl) (by kernel_rfl) (fun _ _ _ h => h) (Or.inl ⟨by rfl, ?_⟩) (by assumption) ?_
  rotate_left
  · (intro w hSw; (try dsimp only at hSw); go_simp; first | done | with_reducible rfl)
  (try simp only [Act.put, List.setIfInBounds_toArray, List.set_cons_zero, List.set_cons_succ])
  refine wpAnyH_take (i := 51) (oi := (Oper.mk (some 0) (Op.assign (Operand.tmp 90)) 4 "law.go:29" #[Edge.mk 50 Ground.data, Edge.mk 48 Ground.chain, Edge.mk 0 Ground.phase, Edge.mk 1 Ground.phase, Edge.mk 2 Ground.phase, Edge.mk 3 Ground.phase, Edge.mk 4 Ground.phase, Edge.mk 5 Ground.phase, Edge.mk 6 Ground.phase, Edge.mk 7 Ground.phase, Edge.mk 8 Ground.phase, Edge.mk 9 Ground.phase, Edge.mk 10 Ground.phase, Edge.mk 11 Ground.phase, Edge.mk 12 Ground.phase, Edge.mk 13 Ground.phase, Edge.mk 14 Ground.phase, Edge.mk 15 Ground.phase, Edge.mk 16 Ground.phase, Edge.mk 17 Ground.phase, Edge.mk 18 Ground.phase, Edge.mk 19 Ground.phase, Edge.mk 20 Ground.phase, Edge.mk 21 Ground.phase, Edge.mk 22 Ground.phase, Edge.mk 23 Ground.phase, Edge.mk 24 Ground.phase, Edge.mk 25 Ground.phase, Edge.mk 26 Ground.phase, Edge.mk 27 Ground.phase, Edge.mk 28 Ground.phase, Edge.mk 29 Ground.phase, Edge.mk 30 Ground.phase, Edge.mk 31 Ground.phase, Edge.mk 32 Ground.phase, Edge.mk 33 Ground.phase, Edge.mk 34 Ground.phase, Edge.mk 35 Ground.phase, Edge.mk 36 Ground.phase, Edge.mk 37 Ground.phase, Edge.mk 38 Ground.phase, Edge.mk 39 Ground.phase, Edge.mk 40 Ground.phase, Edge.mk 41 Ground.phase, Edge.mk 42 Ground.phase, Edge.mk 43 Ground.phase, Edge.mk 44 Ground.phase, Edge.mk 45 Ground.phase, Edge.mk 46 Ground.phase, Edge.mk 47 Ground.phase, Edge.mk 48 Ground.phase, Edge.mk 49 Ground.phase, Edge.mk 50 Ground.phase] none)) (v := ?_) rfl (by kernel_rfl) (by kernel_rfl) (by kernel_rfl) (fun _ _ _ h => h) (Or.inl ⟨by rfl, ?_⟩) (by assumption) ?_
  rotate_left
  · (intro w hSw; (try dsimp only at hSw); go_simp; first | done | with_reducible rfl)
  (try simp only [Act.put, List.setIfInBounds_toArray, List.set_cons_zero])
  refine wpAnyH_done (by kernel_rfl) ?_ _
  go_wp2_with fail
  go_ret
  exact ⟨rfl, by rw [← HBB.out]; exact HB7'.out.trans (HQ2.out.below)⟩
end Go.Proofs.Ytalghcgedmcifaa

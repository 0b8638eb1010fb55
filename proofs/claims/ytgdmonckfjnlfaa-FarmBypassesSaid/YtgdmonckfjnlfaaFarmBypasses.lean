/- The law FarmBypasses holds: the walk, then the lift to the given statement. No condition. -/
import Derived.Test.YtgdmonckfjnlfaaI
import Derived.WalkKit
import Derived.Test.YtgdmonckfjnlfaaJ
import Derived.ProofKit
import Derived.OpenShut
import Derived.Lib.Hide
import Derived.ChangeOld
import Derived.Below
import Derived.SizedLaws
namespace Go.Proofs.Ytgdmonckfjnlfaa.farmBypasses
open Go.ChangeShapes Go.WideShapes Go.ChangeAt Go.RowKit
set_option linter.unusedVariables false
theorem own : ownKnob Try.prog.godebug = none := by kernel_rfl
theorem laidOut : laidOutB Try.prog = true := by kernel_rfl

/-- the bypassing frame of round k -/
def byF (k : Nat) : TF := ⟨true, false, 7, 1, 0, [9, UInt8.ofNat k]⟩
theorem by_take (s : FS) (k : Nat) (h1 : s.craft = 7) (h2 : s.chan = 1) : takeF s (byF k) false = (s.bypass, (byF k).dat, 1) := by
  have hv : validB (byF k) = true := by simp [validB, byF]
  unfold takeF
  rw [if_neg (by rw [h1, h2, hv]; simp [byF]), if_neg (by simp [verS, byF])]
  simp [verS, byF]
set_option maxRecDepth 20000 in
set_option maxHeartbeats 4000000 in
theorem walk {H : Type} {enc : TypeId × Value → H} (v0 : Value) (w : World) {b0 : Nat} {d0 : DataW H} {p0 : List MemPlace} (ok0 : Value.okWide Try.prog w .any b0 22 v0) (tr0 : DataW.Trod enc Try.prog w 0 (fun _ => true) true 22 v0 d0 p0) :
    Calls Try.prog 5 #[v0] w fun e w' => e = .returned (.bool true) ∧ Below w.heap.size w w' := by
  obtain ⟨a, cap, l, rfl, hl, hm, hb, -⟩ := arg_ints Try.underlying22 Try.underlying3 (by kernel_rfl) ok0 tr0
  clear ok0 tr0
  unfold maxLen at hm
  have HV := Lib.hid hb
  clear hb
  by_cases hn : l.length ≤ 100
  · have hn' : ¬ (100 : Int) < l.length := by omega
    go_enter Try.func5, Try.ntmps5
    go_wp2_with fail
    refine (new_ok 7 1 4 _ (by decide)).mono ?_
    rintro e w1 ⟨rfl, hF, hB⟩
    have HF := Lib.hid (show FAt w1 w.heap.size al0 from hF)
    have HB1 := Lib.hid hB
    have hs1 := hB.size
    clear hF hB
    go_wp2_with fail
    go_loopw [4] (fun i wr => ∃ (k : Nat) (s : FS), k ≤ l.length ∧ i = .int .i64 k ∧ FAt wr w.heap.size s ∧ s.ok ∧ s.craft = 7 ∧ s.chan = 1 ∧ Below w.heap.size w wr) (fun i _ => l.length - (intOf i).toNat)
    case atStart => exact ⟨0, al0, by omega, rfl, HF.out, okw rfl rfl, rfl, rfl, HB1.out⟩
    case round =>
      obtain ⟨k, s, hk, rfl, hF, ok, hcr, hch, hB⟩ := hrel
      have HF := Lib.hid hF
      have OK := Lib.hid ok
      have HCR := Lib.hid hcr
      have HCH := Lib.hid hch
      have HB := Lib.hid hB
      have hsr := hB.size
      clear hF ok hcr hch hB
      by_cases hlt : k < l.length
      · obtain ⟨ba, off, rfl, hba, hcell⟩ := (HV.out.below HB.out (Nat.le_refl _)).int hlt
        obtain ⟨m0, em0, bm0⟩ := in256 l[k]
        have BM0 := Lib.hid bm0
        have hk0 : (0 : Int) ≤ (k : Int) := by omega
        have hk1 : (k : Int) < (l.length : Int) := by omega
        clear bm0
        go_wp2_with fail
        refine (data_any m0 _).mono ?_
        rintro e w2 ⟨p2, c2, rfl, hd, hc, hp, hB2⟩
        go_wp2_with fail
        refine (take_data HF.out OK.out (Nat.le_refl _) hd hc hp hB2 hsr).mono ?_
        have hkp := take_keeps s (dataF m0) false
        generalize takeF s (dataF m0) false = V at hkp ⊢
        obtain ⟨s1, l1, v1⟩ := V
        simp only at hkp ⊢
        rintro e w3 ⟨a3, c3, rfl, hF3, ok3, -, hB3, -⟩
        have HF3 := Lib.hid hF3
        have OKS := Lib.hid ok3
        have HB3 := Lib.hid (HB.out.trans hB3)
        have hs3 := HB3.out.size
        have HC3 := Lib.hid (hkp.craft.trans HCR.out)
        have HH3 := Lib.hid (hkp.chan.trans HCH.out)
        clear hd hc hp hB2 hF3 hB3 HF HB hkp ok3 OK hcell hba hsr
        go_wp2_with fail
        refine (report_any _ _ _ HF3.out (by exact OKS.out.1.1)).mono ?_
        rintro e w4 ⟨rfl, hB4⟩
        have HF4 := Lib.hid (HF3.out.below hB4 (Nat.le_refl _))
        have HB4 := Lib.hid (HB3.out.trans (hB4.mono hs3))
        have hs4 := HB4.out.size
        clear hB4 HF3 HB3 hs3
        unfold FS.word
        rw [HH3.out]
        have hlt4 := HF4.out.lt
        go_wp2_with fail
        have hk8 : ((UInt8.ofNat k).toNat : Int) = (k : Int) := by rw [UInt8.toNat_ofNat_of_lt' (show k < UInt8.size by show k < 256; omega)]
        have hL : BAt (((w4.alloc (.cells #[.int .i64 1, .bool s1.lock, .bool s1.wait, .bool s1.retr, .int .i64 s1.byp, .int .i64 s1.next] 34)).alloc (.cells #[.int .u8 9, .int .u8 k] 5)).alloc (.cells #[.bool true, .bool false, .int .i64 7, .int .i64 1, .int .i64 0, .slice (some ⟨w4.heap.size + 1, 0, none⟩) 2 2] 31)) (some ⟨w4.heap.size + 1, 0, none⟩) (byF k).dat := by
          have h := lit2 (w4.alloc (.cells #[.int .i64 1, .bool s1.lock, .bool s1.wait, .bool s1.retr, .int .i64 s1.byp, .int .i64 s1.next] 34)) 9 (UInt8.ofNat k) 5 (0, 0)
          rw [hk8] at h
          simpa [byF] using (show BAt _ _ _ from h).below (al (Below.refl _ _) (.cells #[.bool true, .bool false, .int .i64 7, .int .i64 1, .int .i64 0, .slice (some ⟨w4.heap.size + 1, 0, none⟩) 2 2] 31)) (Nat.le_refl _)
        have HLL := Lib.hid hL
        have HT := Lib.hid (take_any w.heap.size s1 (byF k) false (some ⟨w4.heap.size + 1, 0, none⟩) 2 _ (((HF4.out.alloc _).alloc _).alloc _) OKS.out hL (Nat.le_refl _) (fun p hp => by cases hp; show w4.heap.size + 1 ≠ _; omega))
        rw [by_take s1 k HC3.out HH3.out] at HT
        clear hL hk8
        refine (HT.out).mono ?_
        rintro e w5 ⟨a5, c5, rfl, hF5, hA5, hFr5⟩
        have h0 : Blk w5 w4.heap.size 34 [.int .i64 1, .bool s1.lock, .bool s1.wait, .bool s1.retr, .int .i64 s1.byp, .int .i64 s1.next] := (((Blk.new w4 34 _).alloc _).alloc _).fr hFr5 (by omega)
        have h2 : Blk w5 (w4.heap.size + 2) 31 [.bool true, .bool false, .int .i64 7, .int .i64 1, .int .i64 0, .slice (some ⟨w4.heap.size + 1, 0, none⟩) 2 2] := (Blk.newAt (by simp)).fr hFr5 (by omega)
        have h1 : BAt w5 (some ⟨w4.heap.size + 1, 0, none⟩) (byF k).dat := HLL.out.fr hFr5 (fun p hp => by cases hp; show w4.heap.size + 1 ≠ _; omega)
        have HB5 := Lib.hid ((al (al (al HB4.out _) _) _).trans (hFr5.toBelow (by simp; omega) (fun k hk => by subst hk; exact Nat.le_refl _)))
        have hs5 := HB5.out.size
        have HF5 := Lib.hid hF5
        have HA5 := Lib.hid hA5
        have H0 := Lib.hid h0
        have H1 := Lib.hid h1
        have H2 := Lib.hid h2
        have hlt5 := h2.lt
        obtain ⟨o0, o1, o2, o3, o4, o5⟩ : w5.cell? ⟨w4.heap.size, 0, none⟩ = some (.int .i64 1) ∧ w5.cell? ⟨w4.heap.size, 1, none⟩ = some (.bool s1.lock) ∧ w5.cell? ⟨w4.heap.size, 2, none⟩ = some (.bool s1.wait) ∧ w5.cell? ⟨w4.heap.size, 3, none⟩ = some (.bool s1.retr) ∧ w5.cell? ⟨w4.heap.size, 4, none⟩ = some (.int .i64 s1.byp) ∧ w5.cell? ⟨w4.heap.size, 5, none⟩ = some (.int .i64 s1.next) := ⟨h0.at 0 rfl, h0.at 1 rfl, h0.at 2 rfl, h0.at 3 rfl, h0.at 4 rfl, h0.at 5 rfl⟩
        have ofz := h0.free 4
        have x5 := h2.at 5 rfl
        have hbp := OKS.out.2
        obtain ⟨hbp0, hbp1⟩ := hbp
        obtain ⟨bp, hbpe⟩ : ∃ bp, (s1.byp + 1) % 4 = bp := ⟨_, rfl⟩
        have hl2 : (byF k).dat.length = 2 := rfl
        clear hF5 hA5 hFr5 h0 h1 h2 HF4 HB4 hs4 HLL HT
        go_wp2_with fail
        have HF6 := Lib.hid (show FAt (w5.setCell ⟨w4.heap.size, 4, none⟩ (.int .i64 bp)).drew w.heap.size s1.bypass from Blk.setOther HF5.out (p := ⟨w4.heap.size, 4, none⟩) (Nat.ne_of_gt hlt4) _)
        have hB6 : Below w.heap.size w (w5.setCell ⟨w4.heap.size, 4, none⟩ (.int .i64 bp)).drew := (HB5.out.setCell (p := ⟨w4.heap.size, 4, none⟩) (Nat.le_of_lt hlt4) _).drew
        have HB6 := Lib.hid hB6
        have hcv1 : ∀ w' : World, Below w5.heap.size w5 w' → True := fun _ _ => trivial
        clear hcv1
        have hA6 : BAt (w5.setCell ⟨w4.heap.size, 4, none⟩ (.int .i64 bp)).drew a5 (byF k).dat := HA5.out.fr (((Fr.refl (fun j => j = w4.heap.size) w5).set1 (.int .i64 bp) (.inl rfl)).drew) (blk_apart H0.out HA5.out (by simp [byF]) (by intro v hv; simp at hv; rcases hv with rfl | rfl | rfl | rfl | rfl | rfl <;> simp))
        have hA7 : BAt (w5.setCell ⟨w4.heap.size, 4, none⟩ (.int .i64 bp)).drew (some ⟨w4.heap.size + 1, 0, none⟩) (byF k).dat := H1.out.fr (((Fr.refl (fun j => j = w4.heap.size) w5).set1 (.int .i64 bp) (.inl rfl)).drew) (fun p hp => by cases hp; show w4.heap.size + 1 ≠ _; omega)
        have h06 : Blk (w5.setCell ⟨w4.heap.size, 4, none⟩ (.int .i64 bp)).drew w4.heap.size 34 [.int .i64 1, .bool s1.lock, .bool s1.wait, .bool s1.retr, .int .i64 bp, .int .i64 s1.next] := H0.out.setCell 4 _
        have h26 : Blk (w5.setCell ⟨w4.heap.size, 4, none⟩ (.int .i64 bp)).drew (w4.heap.size + 2) 31 [.bool true, .bool false, .int .i64 7, .int .i64 1, .int .i64 0, .slice (some ⟨w4.heap.size + 1, 0, none⟩) 2 2] := H2.out.setOther (p := ⟨w4.heap.size, 4, none⟩) (by show w4.heap.size ≠ _; omega) _
        have y0 := h06.at 0 rfl
        have y1 := h06.at 1 rfl
        have y2 := h06.at 2 rfl
        have y3 := h06.at 3 rfl
        have y4 := h06.at 4 rfl
        have y5 := h06.at 5 rfl
        have z5 := h26.at 5 rfl
        have cv1 : (convert 27 9 (.slice a5 2 c5)).run Try.prog (w5.setCell ⟨w4.heap.size, 4, none⟩ (.int .i64 bp)).drew = .ok (.string ⟨#[9, UInt8.ofNat k]⟩) (w5.setCell ⟨w4.heap.size, 4, none⟩ (.int .i64 bp)).drew := hA6.str 27 9 5 c5 Try.underlying27 Try.underlying5 Try.underlying9
        have cv2 : (convert 27 9 (.slice (some ⟨w4.heap.size + 1, 0, none⟩) 2 2)).run Try.prog (w5.setCell ⟨w4.heap.size, 4, none⟩ (.int .i64 bp)).drew = .ok (.string ⟨#[9, UInt8.ofNat k]⟩) (w5.setCell ⟨w4.heap.size, 4, none⟩ (.int .i64 bp)).drew := hA7.str 27 9 5 2 Try.underlying27 Try.underlying5 Try.underlying9
        have H06 := Lib.hid h06
        have H26 := Lib.hid h26
        have HA6 := Lib.hid hA6
        have HA7 := Lib.hid hA7
        have he6 : s1.bypass.word = .agg #[.int .i64 1, .bool s1.lock, .bool s1.wait, .bool s1.retr, .int .i64 bp, .int .i64 s1.next] := by unfold FS.word FS.bypass; rw [← hbpe]; simp only; rw [HH3.out]
        have HE6 := Lib.hid he6
        clear h06 h26 hA6 hA7 he6 hB6
        refine wp_region_held_drew (S := (fun w' => w'.cell? ⟨w4.heap.size, 0, none⟩ = some (.int .i64 1) ∧ w'.cell? ⟨w4.heap.size, 1, none⟩ = some (.bool s1.lock) ∧ w'.cell? ⟨w4.heap.size, 2, none⟩ = some (.bool s1.wait) ∧ w'.cell? ⟨w4.heap.size, 3, none⟩ = some (.bool s1.retr) ∧ w'.cell? ⟨w4.heap.size, 4, none⟩ = some (.int .i64 bp) ∧ w'.cell? ⟨w4.heap.size, 5, none⟩ = some (.int .i64 s1.next) ∧ w'.cell? ⟨w4.heap.size + 2, 5, none⟩ = some (.slice (some ⟨w4.heap.size + 1, 0, none⟩) 2 2) ∧ (convert 27 9 (.slice a5 2 c5)).run Try.prog w' = .ok (.string ⟨#[9, UInt8.ofNat k]⟩) w' ∧ (convert 27 9 (.slice (some ⟨w4.heap.size + 1, 0, none⟩) 2 2)).run Try.prog w' = .ok (.string ⟨#[9, UInt8.ofNat k]⟩) w')) (by kernel_rfl) (by (try dsimp only); first | exact ⟨by assumption, by assumption, by assumption, by assumption, by assumption, by assumption, by assumption, by assumption, by assumption⟩ | go_keep) (fun hHeld => ?_)
        refine wpAnyH_take (i := 0) (oi := (Oper.mk (some 47) (Op.move (Operand.tmp 8)) 3 "law.go:123" #[] none)) (v := ?v0tfc69) rfl (by kernel_rfl) (by kernel_rfl) (by kernel_rfl) (fun _ _ _ h => h) (Or.inl ⟨by rfl, ?hy0tfc69⟩) (by assumption) ?rest0tfc69
        case hy0tfc69 => (intro w hSw; (try dsimp only at hSw); go_simp; first | done | with_reducible rfl)
        (try simp only [Act.put, List.setIfInBounds_toArray, List.set_cons_zero, List.set_cons_succ])
        refine wpAnyH_take (i := 1) (oi := (Oper.mk (some 48) (Op.binOp BinOp.neq 3 (Operand.tmp 47) (Operand.const (Value.int IntKind.i64 1)) 3) 4 "law.go:123" #[Edge.mk 0 Ground.data] none)) (v := ?v1tfc69) rfl (by kernel_rfl) (by kernel_rfl) (by kernel_rfl) (fun _ _ _ h => h) (Or.inl ⟨by rfl, ?hy1tfc69⟩) (by assumption) ?rest1tfc69
        case hy1tfc69 => (intro w hSw; (try dsimp only at hSw); go_simp; first | done | with_reducible rfl)
        (try simp only [Act.put, List.setIfInBounds_toArray, List.set_cons_zero, List.set_cons_succ])
        refine wpAnyH_take (i := 2) (oi := (Oper.mk (some 49) (Op.move (Operand.tmp 48)) 4 "law.go:123" #[Edge.mk 1 Ground.data] none)) (v := ?v2tfc69) rfl (by kernel_rfl) (by kernel_rfl) (by kernel_rfl) (fun _ _ _ h => h) (Or.inl ⟨by rfl, ?hy2tfc69⟩) (by assumption) ?rest2tfc69
        case hy2tfc69 => (intro w hSw; (try dsimp only at hSw); go_simp; first | done | with_reducible rfl)
        (try simp only [Act.put, List.setIfInBounds_toArray, List.set_cons_zero, List.set_cons_succ])
        refine wpAnyH_take (i := 3) (oi := (Oper.mk (some 50) (Op.move (Operand.tmp 7)) 27 "law.go:123" #[Edge.mk 2 Ground.guard] (some (2, false)))) (v := ?v3tfc69) rfl (by kernel_rfl) (by kernel_rfl) (by kernel_rfl) (fun _ _ _ h => h) (Or.inl ⟨by rfl, ?hy3tfc69⟩) (by assumption) ?rest3tfc69
        case hy3tfc69 => (intro w hSw; (try dsimp only at hSw); go_simp; first | done | with_reducible rfl)
        (try simp only [Act.put, List.setIfInBounds_toArray, List.set_cons_zero, List.set_cons_succ])
        refine wpAnyH_take (i := 4) (oi := (Oper.mk (some 51) (Op.convert 27 9 (Operand.tmp 50)) 9 "law.go:123" #[Edge.mk 3 Ground.data, Edge.mk 2 Ground.guard] (some (2, false)))) (v := ?v4tfc69) rfl (by kernel_rfl) (by kernel_rfl) (by kernel_rfl) (fun _ _ _ h => h) (Or.inl ⟨by rfl, ?hy4tfc69⟩) (by assumption) ?rest4tfc69
        case hy4tfc69 => (intro w hSw; (try dsimp only at hSw); go_simp; first | done | with_reducible rfl)
        (try simp only [Act.put, List.setIfInBounds_toArray, List.set_cons_zero, List.set_cons_succ])
        refine wpAnyH_take (i := 5) (oi := (Oper.mk (some 52) (Op.fieldAddr 31 (Operand.tmp 6) 5) 0 "law.go:123" #[Edge.mk 2 Ground.guard] (some (2, false)))) (v := ?v5tfc69) rfl (by kernel_rfl) (by kernel_rfl) (by kernel_rfl) (fun _ _ _ h => h) (Or.inl ⟨by rfl, ?hy5tfc69⟩) (by assumption) ?rest5tfc69
        case hy5tfc69 => (intro w hSw; (try dsimp only at hSw); go_simp; first | done | with_reducible rfl)
        (try simp only [Act.put, List.setIfInBounds_toArray, List.set_cons_zero, List.set_cons_succ])
        refine wpAnyH_take (i := 6) (oi := (Oper.mk (some 53) (Op.load 27 (Operand.tmp 52)) 27 "law.go:123" #[Edge.mk 5 Ground.data, Edge.mk 2 Ground.guard] (some (2, false)))) (v := ?v6tfc69) rfl (by kernel_rfl) (by kernel_rfl) (by kernel_rfl) (fun _ _ _ h => h) (Or.inl ⟨by rfl, ?hy6tfc69⟩) (by assumption) ?rest6tfc69
        case hy6tfc69 => (intro w hSw; (try dsimp only at hSw); go_simp; first | done | with_reducible rfl)
        (try simp only [Act.put, List.setIfInBounds_toArray, List.set_cons_zero, List.set_cons_succ])
        refine wpAnyH_take (i := 7) (oi := (Oper.mk (some 54) (Op.convert 27 9 (Operand.tmp 53)) 9 "law.go:123" #[Edge.mk 6 Ground.data, Edge.mk 2 Ground.guard] (some (2, false)))) (v := ?v7tfc69) rfl (by kernel_rfl) (by kernel_rfl) (by kernel_rfl) (fun _ _ _ h => h) (Or.inl ⟨by rfl, ?hy7tfc69⟩) (by assumption) ?rest7tfc69
        case hy7tfc69 => (intro w hSw; (try dsimp only at hSw); go_simp; first | done | with_reducible rfl)
        (try simp only [Act.put, List.setIfInBounds_toArray, List.set_cons_zero, List.set_cons_succ])
        refine wpAnyH_take (i := 8) (oi := (Oper.mk (some 55) (Op.binOp BinOp.neq 9 (Operand.tmp 51) (Operand.tmp 54) 9) 4 "law.go:123" #[Edge.mk 4 Ground.data, Edge.mk 7 Ground.data, Edge.mk 2 Ground.guard] (some (2, false)))) (v := ?v8tfc69) rfl (by kernel_rfl) (by kernel_rfl) (by kernel_rfl) (fun _ _ _ h => h) (Or.inl ⟨by rfl, ?hy8tfc69⟩) (by assumption) ?rest8tfc69
        case hy8tfc69 => (intro w hSw; (try dsimp only at hSw); go_simp; first | done | with_reducible rfl)
        (try simp only [Act.put, List.setIfInBounds_toArray, List.set_cons_zero, List.set_cons_succ])
        refine wpAnyH_take (i := 9) (oi := (Oper.mk (some 56) (Op.pick (Operand.tmp 49) (Operand.const (Value.bool true)) (Operand.tmp 55)) 4 "law.go:123" #[Edge.mk 2 Ground.data, Edge.mk 8 Ground.data] none)) (v := ?v9tfc69) rfl (by kernel_rfl) (by kernel_rfl) (by kernel_rfl) (fun _ _ _ h => h) (Or.inl ⟨by rfl, ?hy9tfc69⟩) (by assumption) ?rest9tfc69
        case hy9tfc69 => (intro w hSw; (try dsimp only at hSw); go_simp; first | done | with_reducible rfl)
        (try simp only [Act.put, List.setIfInBounds_toArray, List.set_cons_zero, List.set_cons_succ])
        refine wpAnyH_take (i := 10) (oi := (Oper.mk (some 57) (Op.move (Operand.tmp 56)) 4 "law.go:123" #[Edge.mk 9 Ground.data, Edge.mk 2 Ground.chain] none)) (v := ?v10tfc69) rfl (by kernel_rfl) (by kernel_rfl) (by kernel_rfl) (fun _ _ _ h => h) (Or.inl ⟨by rfl, ?hy10tfc69⟩) (by assumption) ?rest10tfc69
        case hy10tfc69 => (intro w hSw; (try dsimp only at hSw); go_simp; first | done | with_reducible rfl)
        (try simp only [Act.put, List.setIfInBounds_toArray, List.set_cons_zero, List.set_cons_succ])
        refine wpAnyH_take (i := 11) (oi := (Oper.mk (some 58) (Op.move (Operand.tmp 3)) 25 "law.go:123" #[Edge.mk 10 Ground.guard] (some (10, false)))) (v := ?v11tfc69) rfl (by kernel_rfl) (by kernel_rfl) (by kernel_rfl) (fun _ _ _ h => h) (Or.inl ⟨by rfl, ?hy11tfc69⟩) (by assumption) ?rest11tfc69
        case hy11tfc69 => (intro w hSw; (try dsimp only at hSw); go_simp; first | done | with_reducible rfl)
        (try simp only [Act.put, List.setIfInBounds_toArray, List.set_cons_zero, List.set_cons_succ])
        refine wpAnyH_take (i := 13) (oi := (Oper.mk (some 60) (Op.load 34 (Operand.tmp 5)) 34 "law.go:123" #[Edge.mk 10 Ground.guard] (some (10, false)))) (v := ?v13tfc69) rfl (by kernel_rfl) (by kernel_rfl) (by kernel_rfl) (fun _ _ _ h => h) (Or.inl ⟨by rfl, ?hy13tfc69⟩) (by assumption) ?rest13tfc69
        case hy13tfc69 => (intro w hSw; (try dsimp only at hSw); go_simp; first | done | with_reducible rfl)
        (try simp only [Act.put, List.setIfInBounds_toArray, List.set_cons_zero, List.set_cons_succ])
        refine wpAnyH_ready (rs := [12]) (by kernel_rfl) (by simp) ?_
        refine AllReadyH.cons (o := (Oper.mk (some 59) (Op.call (Call.mk (Callee.value (Operand.func 11)) #[Operand.tmp 58] #[25])) 34 "law.go:123" #[Edge.mk 11 Ground.data, Edge.mk 10 Ground.chain, Edge.mk 10 Ground.guard] (some (10, false)))) rfl (fun K hK => ?_) AllReadyH.nil
        go_simp
        (go_at_call 11; refine (report_any _ _ _ HF6.out (by exact OKS.out.1.1)).mono ?_; rintro e w7 ⟨rfl, hB7⟩; have HB7 := Lib.hid hB7; have h07 := H06.out.below hB7 (Nat.le_refl _); have h27 := H26.out.below hB7 (Nat.le_refl _); have hA67 := HA6.out.below hB7 (Nat.le_refl _); have hA77 := HA7.out.below hB7 (Nat.le_refl _); have ry0 := h07.at 0 rfl; have ry1 := h07.at 1 rfl; have ry2 := h07.at 2 rfl; have ry3 := h07.at 3 rfl; have ry4 := h07.at 4 rfl; have ry5 := h07.at 5 rfl; have rz5 := h27.at 5 rfl; have rcv1 : (convert 27 9 (.slice a5 2 c5)).run Try.prog w7 = .ok (.string ⟨#[9, UInt8.ofNat k]⟩) w7 := hA67.str 27 9 5 c5 Try.underlying27 Try.underlying5 Try.underlying9; have rcv2 : (convert 27 9 (.slice (some ⟨w4.heap.size + 1, 0, none⟩) 2 2)).run Try.prog w7 = .ok (.string ⟨#[9, UInt8.ofNat k]⟩) w7 := hA77.str 27 9 5 2 Try.underlying27 Try.underlying5 Try.underlying9; rw [HE6.out]; clear h07 h27 hA67 hA77 hB7)
        refine hK.out _ _ (by (try dsimp only); first | exact ⟨by assumption, by assumption, by assumption, by assumption, by assumption, by assumption, by assumption, by assumption, by assumption⟩ | go_keep) (fun hHeld => ?_)
        clear hK K
        (try simp only [Act.put, List.setIfInBounds_toArray, List.set_cons_zero, List.set_cons_succ])
        refine wpAnyH_take (i := 14) (oi := (Oper.mk (some 61) (Op.binOp BinOp.neq 34 (Operand.tmp 59) (Operand.tmp 60) 34) 4 "law.go:123" #[Edge.mk 12 Ground.data, Edge.mk 13 Ground.data, Edge.mk 10 Ground.guard] (some (10, false)))) (v := ?v14tfc69) rfl (by kernel_rfl) (by kernel_rfl) (by kernel_rfl) (fun _ _ _ h => h) (Or.inl ⟨by rfl, ?hy14tfc69⟩) (by assumption) ?rest14tfc69
        case hy14tfc69 => (intro w hSw; (try dsimp only at hSw); go_simp; first | done | with_reducible rfl)
        (try simp only [Act.put, List.setIfInBounds_toArray, List.set_cons_zero, List.set_cons_succ])
        refine wpAnyH_take (i := 15) (oi := (Oper.mk (some 62) (Op.pick (Operand.tmp 57) (Operand.const (Value.bool true)) (Operand.tmp 61)) 4 "law.go:123" #[Edge.mk 10 Ground.data, Edge.mk 14 Ground.data] none)) (v := ?v15tfc69) rfl (by kernel_rfl) (by kernel_rfl) (by kernel_rfl) (fun _ _ _ h => h) (Or.inl ⟨by rfl, ?hy15tfc69⟩) (by assumption) ?rest15tfc69
        case hy15tfc69 => (intro w hSw; (try dsimp only at hSw); go_simp; first | done | with_reducible rfl)
        (try simp only [Act.put, List.setIfInBounds_toArray, List.set_cons_zero, List.set_cons_succ])
        refine wpAnyH_done (by kernel_rfl) ?_ _
        go_wp2_with fail
        go_roundw
        case rel => exact ⟨k + 1, s1.bypass, by omega, by go_num, HF6.out.below HB7.out (Nat.le_refl _), (bypass_keeps s1).ok OKS.out, HC3.out, HH3.out, HB6.out.trans (HB7.out.mono HB6.out.size)⟩
        case measure => simp [intOf]; omega
      · have hlt' : ¬ (k : Int) < (l.length : Int) := by omega
        go_wp2_with fail
        refine (alive_any _).mono ?_
        rintro e w9 ⟨rfl, hB9⟩
        go_wp2_with fail
        go_ret
        exact ⟨rfl, below2 HB.out hB9⟩
  · have hn' : (100 : Int) < l.length := by omega
    go_enter Try.func5, Try.ntmps5
    go_wp2_with fail
    refine (alive_any _).mono ?_
    rintro e w2 ⟨rfl, hB2⟩
    go_wp2_with fail
    go_ret
    exact ⟨rfl, hB2⟩


set_option maxRecDepth 100000 in
theorem lifted (os : Os) (started : os.Started) (H : Type) (enc : TypeId × Value → H) :
    ReturnsInHanded {} Try.checked os 5 .any (Rows.farmBypassesSpec.pre6 enc Try.prog Try.f5 Rows.farmBypassesRow.domain false) (Rows.farmBypassesSpec.post enc Try.prog Try.f5 false true false false) := by
  refine returnsInHanded_of_change (C := Try.checked) own started (by kernel_rfl) Try.func5
    (ChangeSpec.witness6 (enc := enc) (C := Try.checked) false ⟨#[], #[.slice none 0 0], []⟩ 8 (by kernel_rfl) (by kernel_rfl) (by kernel_rfl) (by kernel_rfl)) ?_
  intro W base args ds gs before hval0 hW hcnd _
  have hval : ∀ (j : Nat) t v, Try.f5.params[j]? = some t → args[j]? = some v → Value.okWide Try.prog W .any base t v := hval0
  have hW' := hW
  obtain ⟨p, q, hA0, hV, rfl, hfz, hnd⟩ := hW
  have hA : DataW.TrodAll enc Try.prog W 0 (fun _ => true) true Try.f5.params.toList args.toList ds p := hA0
  rw [Try.params5] at hA hval
  obtain ⟨v0, vs0, d0, ds0, p0, q0, hargs, rfl, rfl, h0, r0⟩ := trodAll_cons hA
  obtain ⟨rfl, rfl, rfl⟩ := trodAll_nil r0
  obtain rfl : args = #[v0] := by cases args; simp_all
  obtain ⟨rfl, rfl⟩ := trodVars_none hV
  have k0 := h0
  have lt0 : ∀ x ∈ p0, x.block < W.heap.size := by obtain ⟨m, hm⟩ := k0; exact DataW.trod_lt m _ _ _ hm
  clear hA0 hval0
  refine (walk v0 W (hval 0 22 v0 rfl rfl) k0).mono fun e W' ⟨he, bel⟩ => ?_
  subst he
  exact ⟨_, rfl, _, _, _, [], _, [], hW', trodAll_mk1 (shut_bool Try.underlying4 _), (trodAll_cons_mk (Below.trod laidOut (by kernel_rfl) (of_decide_eq_true (by kernel_rfl)) k0 bel lt0) trodAll_mk0), rfl, bel.frame _, fun h => by cases h⟩

theorem over : Rows.farmBypassesRow.holds Try.pinned (OpenSpec.ofChange Rows.farmBypassesSpec) :=
  OpenClaim.holds_of_wide 5 Try.f5 rfl rfl rfl rfl rfl rfl rfl ⟨rfl, rfl, rfl, rfl, rfl⟩ rfl rfl rfl rfl rfl (by kernel_rfl) Try.func5 (by kernel_rfl)
    (of_decide_eq_true (by kernel_rfl)) (by unfold Func.isWrapper; first | (rw [if_pos (by decide +kernel)]; kernel_rfl) | (rw [if_neg (by decide +kernel)]; exact ⟨rfl, rfl⟩))
    (fun os started H enc _ => lifted os started H enc)

theorem proved : Rows.FarmBypassesSaid := over
#print axioms proved
end Go.Proofs.Ytgdmonckfjnlfaa.farmBypasses

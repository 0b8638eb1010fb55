/- The law FarmTakes holds: the walk, then the lift to the given statement. No condition. -/
import Derived.Test.YtgdmonckfjnlfaaO
import Derived.WalkKit
import Derived.Deep.RegionHeld3
import Derived.Deep.DeepCutAuto
import Derived.Deep.CutBlock
import Derived.ProofKit
import Derived.OpenShut
import Derived.Lib.Hide
import Derived.ChangeOld
import Derived.Below
import Derived.SizedLaws
namespace Go.Proofs.Ytgdmonckfjnlfaa.farmTakes
open Go.ChangeShapes Go.WideShapes Go.ChangeAt Go.RowKit
set_option linter.unusedVariables false
theorem own : ownKnob Try.prog.godebug = none := by kernel_rfl
theorem laidOut : laidOutB Try.prog = true := by kernel_rfl

/-- what the law holds between two calls -/
structure Tk (w : World) (b rb : Nat) (s : FS) (wr : World) : Prop where
  f : FAt wr b s
  r : Blk wr rb 44 s.cells
  ok : s.ok
  nx : 0 ≤ s.next ∧ s.next ≤ 255
  hb : w.heap.size ≤ b
  hr : w.heap.size ≤ rb
  bl : Below w.heap.size w wr
theorem Tk.below {w wx wy : World} {b rb : Nat} {s : FS} (h : Tk w b rb s wx) (hB : Below wx.heap.size wx wy) : Tk w b rb s wy :=
  ⟨h.f.below hB (Nat.le_refl _), h.r.below hB (Nat.le_refl _), h.ok, h.nx, h.hb, h.hr, h.bl.trans (hB.mono h.bl.size)⟩
theorem ka {w : World} {o : Obj} {p : Addr} (h : p.block < w.heap.size) : (w.alloc o).cell? p = w.cell? p := (al (Below.refl _ w) o).cell h
theorem kad {w : World} {o : Obj} {p : Addr} (h : p.block < w.heap.size) : (w.alloc o).drew.cell? p = w.cell? p := (al (Below.refl _ w) o).cell h
theorem kf {w : World} {b : Nat} {p : Addr} (h : b ≠ p.block) (v0 v1 v2 v3 v4 v5 v6 v7 : Value) : ((((((((w.setCell ⟨b, 0, none⟩ v0).setCell ⟨b, 1, none⟩ v1).setCell ⟨b, 2, none⟩ v2).setCell ⟨b, 3, none⟩ v3).setCell ⟨b, 4, none⟩ v4).setCell ⟨b, 5, none⟩ v5).setCell ⟨b, 6, none⟩ v6).setCell ⟨b, 7, none⟩ v7).cell? p = w.cell? p := by
  have e : ∀ (wx : World) (i : Nat) (v : Value), (wx.setCell ⟨b, i, none⟩ v).cell? p = wx.cell? p := fun wx i v => World.cell?_of_block (Below.heap_setCell _ _ _ _ (fun e => h e.symm))
  simp only [e]
theorem cells_plain (s : FS) : ∀ v ∈ s.cells, ∀ n, v ≠ .int .u8 n := by
  intro v hv n
  unfold FS.cells at hv
  simp only [List.mem_cons, List.not_mem_nil, or_false] at hv
  rcases hv with rfl | rfl | rfl | rfl | rfl | rfl | rfl | rfl <;> simp
theorem st8_fr (w : World) (b : Nat) (v0 v1 v2 v3 v4 v5 v6 v7 : Value) : Fr (fun k => k = b) w ((((((((w.setCell ⟨b, 0, none⟩ v0).setCell ⟨b, 1, none⟩ v1).setCell ⟨b, 2, none⟩ v2).setCell ⟨b, 3, none⟩ v3).setCell ⟨b, 4, none⟩ v4).setCell ⟨b, 5, none⟩ v5).setCell ⟨b, 6, none⟩ v6).setCell ⟨b, 7, none⟩ v7) :=
  ((((((((Fr.refl _ _).set1 _ (by exact .inl rfl)).set1 _ (by exact .inl rfl)).set1 _ (by exact .inl rfl)).set1 _ (by exact .inl rfl)).set1 _ (by exact .inl rfl)).set1 _ (by exact .inl rfl)).set1 _ (by exact .inl rfl)).set1 _ (by exact .inl rfl)
theorem st8_blk {w : World} {b : Nat} {T : TypeId} {x0 x1 x2 x3 x4 x5 x6 x7 : Value} (h : Blk w b T [x0, x1, x2, x3, x4, x5, x6, x7]) (v0 v1 v2 v3 v4 v5 v6 v7 : Value) : Blk ((((((((w.setCell ⟨b, 0, none⟩ v0).setCell ⟨b, 1, none⟩ v1).setCell ⟨b, 2, none⟩ v2).setCell ⟨b, 3, none⟩ v3).setCell ⟨b, 4, none⟩ v4).setCell ⟨b, 5, none⟩ v5).setCell ⟨b, 6, none⟩ v6).setCell ⟨b, 7, none⟩ v7) b T [v0, v1, v2, v3, v4, v5, v6, v7] :=
  Blk.cast ((((((((h.setCell 0 v0).setCell 1 v1).setCell 2 v2).setCell 3 v3).setCell 4 v4).setCell 5 v5).setCell 6 v6).setCell 7 v7) rfl
theorem fin_tk {w wm : World} {b rb : Nat} {s s1 : FS} {a4 : Option Addr} {l1 : List UInt8} (hF : FAt wm b s1) (hR : Blk wm rb 44 s.cells) (hne : rb ≠ b) (ok : s1.ok) (nx : 0 ≤ s1.next ∧ s1.next ≤ 255) (hb : w.heap.size ≤ b) (hr : w.heap.size ≤ rb) (bl : Below w.heap.size w wm) (hA : BAt wm a4 l1) (hap : l1 ≠ [] → ∀ p, a4 = some p → p.block ≠ rb) :
    Tk w b rb s1 ((((((((wm.setCell ⟨rb, 0, none⟩ (.int .i64 s1.craft)).setCell ⟨rb, 1, none⟩ (.int .i64 s1.win)).setCell ⟨rb, 2, none⟩ (.int .i64 s1.chan)).setCell ⟨rb, 3, none⟩ (.bool s1.lock)).setCell ⟨rb, 4, none⟩ (.bool s1.wait)).setCell ⟨rb, 5, none⟩ (.bool s1.retr)).setCell ⟨rb, 6, none⟩ (.int .i64 s1.byp)).setCell ⟨rb, 7, none⟩ (.int .i64 s1.next)) ∧ BAt ((((((((wm.setCell ⟨rb, 0, none⟩ (.int .i64 s1.craft)).setCell ⟨rb, 1, none⟩ (.int .i64 s1.win)).setCell ⟨rb, 2, none⟩ (.int .i64 s1.chan)).setCell ⟨rb, 3, none⟩ (.bool s1.lock)).setCell ⟨rb, 4, none⟩ (.bool s1.wait)).setCell ⟨rb, 5, none⟩ (.bool s1.retr)).setCell ⟨rb, 6, none⟩ (.int .i64 s1.byp)).setCell ⟨rb, 7, none⟩ (.int .i64 s1.next)) a4 l1 := by
  have hf := st8_fr wm rb (.int .i64 s1.craft) (.int .i64 s1.win) (.int .i64 s1.chan) (.bool s1.lock) (.bool s1.wait) (.bool s1.retr) (.int .i64 s1.byp) (.int .i64 s1.next)
  refine ⟨⟨Blk.fr hF hf (fun e => hne e.symm), st8_blk hR _ _ _ _ _ _ _ _, ok, nx, hb, hr, bl.trans (hf.toBelow bl.size (fun k hk => by subst hk; exact hr))⟩, ?_⟩
  by_cases hl : l1 = []
  · exact .inl hl
  · exact hA.fr hf (fun p hp => hap hl p hp)
theorem fin_tka {w wm : World} {b rb : Nat} {s s1 : FS} {a4 : Option Addr} {l1 : List UInt8} (o : Obj) (hF : FAt wm b s1) (hR : Blk wm rb 44 s.cells) (hne : rb ≠ b) (ok : s1.ok) (nx : 0 ≤ s1.next ∧ s1.next ≤ 255) (hb : w.heap.size ≤ b) (hr : w.heap.size ≤ rb) (bl : Below w.heap.size w wm) (hA : BAt wm a4 l1) (hap : l1 ≠ [] → ∀ p, a4 = some p → p.block ≠ rb) :
    Tk w b rb s1 (((((((((wm.setCell ⟨rb, 0, none⟩ (.int .i64 s1.craft)).setCell ⟨rb, 1, none⟩ (.int .i64 s1.win)).setCell ⟨rb, 2, none⟩ (.int .i64 s1.chan)).setCell ⟨rb, 3, none⟩ (.bool s1.lock)).setCell ⟨rb, 4, none⟩ (.bool s1.wait)).setCell ⟨rb, 5, none⟩ (.bool s1.retr)).setCell ⟨rb, 6, none⟩ (.int .i64 s1.byp)).setCell ⟨rb, 7, none⟩ (.int .i64 s1.next)).alloc o) ∧ BAt (((((((((wm.setCell ⟨rb, 0, none⟩ (.int .i64 s1.craft)).setCell ⟨rb, 1, none⟩ (.int .i64 s1.win)).setCell ⟨rb, 2, none⟩ (.int .i64 s1.chan)).setCell ⟨rb, 3, none⟩ (.bool s1.lock)).setCell ⟨rb, 4, none⟩ (.bool s1.wait)).setCell ⟨rb, 5, none⟩ (.bool s1.retr)).setCell ⟨rb, 6, none⟩ (.int .i64 s1.byp)).setCell ⟨rb, 7, none⟩ (.int .i64 s1.next)).alloc o) a4 l1 := by
  obtain ⟨h1, h2⟩ := fin_tk (s := s) hF hR hne ok nx hb hr bl hA hap
  exact ⟨h1.below (al (Below.refl _ _) o), h2.below (al (Below.refl _ _) o) (Nat.le_refl _)⟩
set_option linter.unusedSimpArgs false in
set_option maxRecDepth 20000 in
set_option maxHeartbeats 4000000 in
theorem walk {H : Type} {enc : TypeId × Value → H} (v0 v1 : Value) (w : World) {b0 : Nat} {d0 : DataW H} {p0 : List MemPlace} (ok0 : Value.okWide Try.prog w .any b0 40 v0) (tr0 : DataW.Trod enc Try.prog w 0 (fun _ => true) true 40 v0 d0 p0)
    {b1 : Nat} {d1 : DataW H} {p1 : List MemPlace} (ok1 : Value.okWide Try.prog w .any b1 41 v1) (tr1 : DataW.Trod enc Try.prog w 0 (fun _ => true) true 41 v1 d1 p1) :
    Calls Try.prog 6 #[v0, v1] w fun e w' => e = .returned (.bool true) ∧ Below w.heap.size w w' := by
  obtain ⟨c, ch, win, rfl⟩ := arg_ends ok0 tr0
  obtain ⟨ao, capo, ops, rfl, ho⟩ := arg_ops ok1 tr1
  have HO := Lib.hid ho
  clear ok0 tr0 ok1 tr1 ho
  by_cases hr : 0 ≤ c ∧ c ≤ 1023 ∧ 0 ≤ ch ∧ ch ≤ 7
  · have HRT : Hid (rightB c ch = true) := Lib.hid (by unfold rightB; simp only [Bool.and_eq_true, decide_eq_true_eq]; omega)
    have HR := Lib.hid hr
    clear hr
    by_cases hn : ops.length ≤ 100
    · have hn' : ¬ (100 : Int) < ops.length := by omega
      go_enter Try.func6, Try.ntmps6
      go_wp2_with fail
      refine (new_ok c ch win _ HR.out).mono ?_
      rintro e w1 ⟨rfl, hF, hB⟩
      have HF := Lib.hid hF
      have HB1 := Lib.hid ((al (Below.refl _ w) (.cells #[.int .i64 c, .int .i64 ch, .int .i64 win] 40)).trans (hB.mono (by simp)))
      have hs1 := HB1.out.size
      have hb0 : Blk w1 w.heap.size 40 [.int .i64 c, .int .i64 ch, .int .i64 win] := (Blk.new w 40 _).below hB (Nat.le_refl _)
      obtain ⟨c0, c1, c2⟩ : w1.cell? ⟨w.heap.size, 0, none⟩ = some (.int .i64 c) ∧ w1.cell? ⟨w.heap.size, 1, none⟩ = some (.int .i64 ch) ∧ w1.cell? ⟨w.heap.size, 2, none⟩ = some (.int .i64 win) := ⟨hb0.at 0 rfl, hb0.at 1 rfl, hb0.at 2 rfl⟩
      have hl0 := hb0.lt
      clear hF hB hb0
      go_wp2_with fail
      refine (right_any c ch _).mono ?_
      rintro e w' ⟨rfl, rfl⟩
      rw [HRT.out]
      go_wp2_with fail
      refine (rnew_any c ch win _).mono ?_
      rintro e w2 ⟨rfl, hB⟩
      obtain ⟨s0, hs0⟩ : ∃ s0 : FS, s0 = ⟨c, min (max win 1) 127, ch, false, false, false, 0, 0⟩ := ⟨_, rfl⟩
      have HTK : Hid (Tk w (w.heap.size + 1) w2.heap.size s0 (w2.alloc (.cells #[.int .i64 s0.craft, .int .i64 s0.win, .int .i64 s0.chan, .bool s0.lock, .bool s0.wait, .bool s0.retr, .int .i64 s0.byp, .int .i64 s0.next] 44))) := by
        refine Lib.hid ⟨Blk.alloc ?_ _, Blk.new w2 44 _, ?_, ?_, by omega, by have := hB.size; omega, al (HB1.out.trans (hB.mono hs1)) _⟩
        · have h := HF.out.below hB (Nat.le_refl _)
          rw [hs0]; simpa using h
        · rw [hs0]; exact ⟨by constructor <;> simp only <;> omega, by constructor <;> simp only <;> omega⟩
        · rw [hs0]; exact ⟨by simp, by simp⟩
      have HS0 := Lib.hid hs0
      rw [← hs0]
      clear hs0 hB HF HB1
      unfold FS.ref
      clear c0 c1 c2
      go_wp2_with fail
      go_loopw [5, 9] (fun f i wr => ∃ (k b : Nat) (s : FS), k ≤ ops.length ∧ f = .pointer (some ⟨b, 0, none⟩) ∧ i = .int .i64 k ∧ Tk w b w2.heap.size s wr) (fun _ i _ => ops.length - (intOf i).toNat)
      case atStart => exact ⟨0, w.heap.size + 1, s0, by omega, by simp, rfl, HTK.out⟩
      case round =>
        obtain ⟨k, b, s, hk, rfl, rfl, hT⟩ := hrel
        generalize w2.heap.size = rb at *
        have HT0 := Lib.hid hT
        have hsr := hT.bl.size
        have hbw := hT.hb
        clear hT
        by_cases hlt : k < ops.length
        · obtain ⟨bo, oo, rfl, hbo, hcs⟩ := HO.out.resolve_left (fun e => by rw [e] at hlt; simp at hlt)
          obtain ⟨ax, cl, hcell, hba, hcl, hbl⟩ := hcs k hlt
          have f0 : wr.cell? ⟨bo, oo + k * 8, none⟩ = some (.bool ops[k].x.byp) := (HT0.out.bl.cell (p := ⟨bo, oo + k * 8, none⟩) hbo).trans (hcell 0 (by omega))
          have f1 : wr.cell? ⟨bo, oo + k * 8 + 1, none⟩ = some (.bool ops[k].x.ctl) := (HT0.out.bl.cell (p := ⟨bo, oo + k * 8 + 1, none⟩) hbo).trans (hcell 1 (by omega))
          have f2 : wr.cell? ⟨bo, oo + k * 8 + 2, none⟩ = some (.int .i64 ops[k].x.craft) := (HT0.out.bl.cell (p := ⟨bo, oo + k * 8 + 2, none⟩) hbo).trans (hcell 2 (by omega))
          have f3 : wr.cell? ⟨bo, oo + k * 8 + 3, none⟩ = some (.int .i64 ops[k].x.chan) := (HT0.out.bl.cell (p := ⟨bo, oo + k * 8 + 3, none⟩) hbo).trans (hcell 3 (by omega))
          have f4 : wr.cell? ⟨bo, oo + k * 8 + 4, none⟩ = some (.int .i64 ops[k].x.seq) := (HT0.out.bl.cell (p := ⟨bo, oo + k * 8 + 4, none⟩) hbo).trans (hcell 4 (by omega))
          have f5 : wr.cell? ⟨bo, oo + k * 8 + 5, none⟩ = some (.slice ax ops[k].x.dat.length cl) := (HT0.out.bl.cell (p := ⟨bo, oo + k * 8 + 5, none⟩) hbo).trans (hcell 5 (by omega))
          have f6 : wr.cell? ⟨bo, oo + k * 8 + 6, none⟩ = some (.bool ops[k].room) := (HT0.out.bl.cell (p := ⟨bo, oo + k * 8 + 6, none⟩) hbo).trans (hcell 6 (by omega))
          have f7 : wr.cell? ⟨bo, oo + k * 8 + 7, none⟩ = some (.bool ops[k].copy) := (HT0.out.bl.cell (p := ⟨bo, oo + k * 8 + 7, none⟩) hbo).trans (hcell 7 (by omega))
          have HCELL : Hid (∀ wz, Below w.heap.size w wz → ∀ j, j < 8 → wz.cell? ⟨bo, oo + k * 8 + j, none⟩ = (ops[k].cells ax cl)[j]?) := Lib.hid (fun wz hz j hj => (hz.cell (p := ⟨bo, oo + k * 8 + j, none⟩) hbo).trans (hcell j hj))
          have HBAT : Hid (∀ wz, Below w.heap.size w wz → BAt wz ax ops[k].x.dat) := Lib.hid (fun wz hz => hba.below hz (Nat.le_refl _))
          have HBA := Lib.hid (hba.below HT0.out.bl (Nat.le_refl _))
          have HBL := Lib.hid hbl
          have hbo2 : bo < wr.heap.size := by omega
          have hbne : ¬ bo = b := by omega
          have hk0 : (0 : Int) ≤ (k : Int) := by omega
          have hk1 : (k : Int) < (ops.length : Int) := by omega
          have HLT := Lib.hid (show k + 1 ≤ ops.length from hlt)
          clear hcs hcell hba hbl
          generalize ops[k] = o at f0 f1 f2 f3 f4 f5 f6 f7 HBA HBL HCELL HBAT hcl
          clear hlt
          obtain ⟨x, rm, cp⟩ := o
          simp only at f0 f1 f2 f3 f4 f5 f6 f7 HBA HBL HCELL HBAT hcl
          obtain ⟨s1, l1, v1, e1⟩ : ∃ s1 l1 v1, takeF s x rm = (s1, l1, v1) := ⟨_, _, _, rfl⟩
          have ht := take_any2 b s x rm ax cl wr.drew HT0.out.f HT0.out.ok HBA.out hcl (fun hne p hp e => by have := HBL.out p hp hne; omega)
          have htv : tv s x rm = (s1, v1) := by rw [tv_take, e1]
          have htd : l1 = if v1 = 1 then x.dat else [] := by have h := tv_data s x rm; rw [e1, htv] at h; exact h
          have hkeep : s.Keeps s1 := by have h := take_keeps s x rm; rw [e1] at h; exact h
          have hnx1 : 0 ≤ s1.next ∧ s1.next ≤ 255 := by have h := next_in s x rm HT0.out.nx; rw [e1] at h; exact h
          rw [e1] at ht
          unfold TF.val at ht
          have HT := Lib.hid ht
          have HTV := Lib.hid htv
          have HTD := Lib.hid htd
          have HKP := Lib.hid hkeep
          have HNX := Lib.hid hnx1
          clear ht htv htd hkeep hnx1 e1
          go_wp2_with fail
          refine wp_region_held_drew (S := (fun w' => w'.cell? ⟨bo, oo + k * 8, none⟩ = some (.bool x.byp) ∧ w'.cell? ⟨bo, oo + k * 8 + 1, none⟩ = some (.bool x.ctl) ∧ w'.cell? ⟨bo, oo + k * 8 + 2, none⟩ = some (.int .i64 x.craft) ∧ w'.cell? ⟨bo, oo + k * 8 + 3, none⟩ = some (.int .i64 x.chan) ∧ w'.cell? ⟨bo, oo + k * 8 + 4, none⟩ = some (.int .i64 x.seq) ∧ w'.cell? ⟨bo, oo + k * 8 + 5, none⟩ = some (.slice ax x.dat.length cl) ∧ w'.cell? ⟨bo, oo + k * 8 + 6, none⟩ = some (.bool rm))) (by kernel_rfl) (by (try dsimp only); first | exact ⟨by assumption, by assumption, by assumption, by assumption, by assumption, by assumption, by assumption⟩ | go_keep) (fun hHeld => ?_)
          refine wpAnyH_take (i := 0) (oi := (Oper.mk (some 77) (Op.move (Operand.tmp 5)) 25 "law.go:56" #[] none)) (v := ?v0t4b74) rfl (by kernel_rfl) (by kernel_rfl) (by kernel_rfl) (fun _ _ _ h => h) (Or.inl ⟨by rfl, ?hy0t4b74⟩) (by assumption) ?rest0t4b74
          case hy0t4b74 => (intro w hSw; (try dsimp only at hSw); go_simp; first | done | with_reducible rfl)
          (try simp only [Act.put, List.setIfInBounds_toArray, List.set_cons_zero, List.set_cons_succ])
          refine wpAnyH_take (i := 1) (oi := (Oper.mk (some 78) (Op.move (Operand.tmp 1)) 41 "law.go:56" #[] none)) (v := ?v1t4b74) rfl (by kernel_rfl) (by kernel_rfl) (by kernel_rfl) (fun _ _ _ h => h) (Or.inl ⟨by rfl, ?hy1t4b74⟩) (by assumption) ?rest1t4b74
          case hy1t4b74 => (intro w hSw; (try dsimp only at hSw); go_simp; first | done | with_reducible rfl)
          (try simp only [Act.put, List.setIfInBounds_toArray, List.set_cons_zero, List.set_cons_succ])
          refine wpAnyH_take (i := 2) (oi := (Oper.mk (some 79) (Op.move (Operand.tmp 9)) 3 "law.go:56" #[] none)) (v := ?v2t4b74) rfl (by kernel_rfl) (by kernel_rfl) (by kernel_rfl) (fun _ _ _ h => h) (Or.inl ⟨by rfl, ?hy2t4b74⟩) (by assumption) ?rest2t4b74
          case hy2t4b74 => (intro w hSw; (try dsimp only at hSw); go_simp; first | done | with_reducible rfl)
          (try simp only [Act.put, List.setIfInBounds_toArray, List.set_cons_zero, List.set_cons_succ])
          refine wpAnyH_take (i := 3) (oi := (Oper.mk (some 80) (Op.indexAddr 41 (Operand.tmp 78) (Operand.tmp 79)) 0 "law.go:56" #[Edge.mk 1 Ground.data, Edge.mk 2 Ground.data] none)) (v := ?v3t4b74) rfl (by kernel_rfl) (by kernel_rfl) (by kernel_rfl) (fun _ _ _ h => h) (Or.inl ⟨by rfl, ?hy3t4b74⟩) (by assumption) ?rest3t4b74
          case hy3t4b74 => (intro w hSw; (try dsimp only at hSw); go_simp; first | done | with_reducible rfl)
          (try simp only [Act.put, List.setIfInBounds_toArray, List.set_cons_zero, List.set_cons_succ])
          refine wpAnyH_take (i := 4) (oi := (Oper.mk (some 81) (Op.fieldAddr 47 (Operand.tmp 80) 0) 0 "law.go:56" #[Edge.mk 3 Ground.data] none)) (v := ?v4t4b74) rfl (by kernel_rfl) (by kernel_rfl) (by kernel_rfl) (fun _ _ _ h => h) (Or.inl ⟨by rfl, ?hy4t4b74⟩) (by assumption) ?rest4t4b74
          case hy4t4b74 => (intro w hSw; (try dsimp only at hSw); go_simp; first | done | with_reducible rfl)
          (try simp only [Act.put, List.setIfInBounds_toArray, List.set_cons_zero, List.set_cons_succ])
          refine wpAnyH_take (i := 5) (oi := (Oper.mk (some 82) (Op.load 31 (Operand.tmp 81)) 31 "law.go:56" #[Edge.mk 4 Ground.data] none)) (v := ?v5t4b74) rfl (by kernel_rfl) (by kernel_rfl) (by kernel_rfl) (fun _ _ _ h => h) (Or.inl ⟨by rfl, ?hy5t4b74⟩) (by assumption) ?rest5t4b74
          case hy5t4b74 => (intro w hSw; (try dsimp only at hSw); go_simp; first | done | with_reducible rfl)
          (try simp only [Act.put, List.setIfInBounds_toArray, List.set_cons_zero, List.set_cons_succ])
          refine wpAnyH_take (i := 6) (oi := (Oper.mk (some 83) (Op.move (Operand.tmp 1)) 41 "law.go:56" #[] none)) (v := ?v6t4b74) rfl (by kernel_rfl) (by kernel_rfl) (by kernel_rfl) (fun _ _ _ h => h) (Or.inl ⟨by rfl, ?hy6t4b74⟩) (by assumption) ?rest6t4b74
          case hy6t4b74 => (intro w hSw; (try dsimp only at hSw); go_simp; first | done | with_reducible rfl)
          (try simp only [Act.put, List.setIfInBounds_toArray, List.set_cons_zero, List.set_cons_succ])
          refine wpAnyH_take (i := 7) (oi := (Oper.mk (some 84) (Op.move (Operand.tmp 9)) 3 "law.go:56" #[] none)) (v := ?v7t4b74) rfl (by kernel_rfl) (by kernel_rfl) (by kernel_rfl) (fun _ _ _ h => h) (Or.inl ⟨by rfl, ?hy7t4b74⟩) (by assumption) ?rest7t4b74
          case hy7t4b74 => (intro w hSw; (try dsimp only at hSw); go_simp; first | done | with_reducible rfl)
          (try simp only [Act.put, List.setIfInBounds_toArray, List.set_cons_zero, List.set_cons_succ])
          refine wpAnyH_take (i := 8) (oi := (Oper.mk (some 85) (Op.indexAddr 41 (Operand.tmp 83) (Operand.tmp 84)) 0 "law.go:56" #[Edge.mk 6 Ground.data, Edge.mk 7 Ground.data] none)) (v := ?v8t4b74) rfl (by kernel_rfl) (by kernel_rfl) (by kernel_rfl) (fun _ _ _ h => h) (Or.inl ⟨by rfl, ?hy8t4b74⟩) (by assumption) ?rest8t4b74
          case hy8t4b74 => (intro w hSw; (try dsimp only at hSw); go_simp; first | done | with_reducible rfl)
          (try simp only [Act.put, List.setIfInBounds_toArray, List.set_cons_zero, List.set_cons_succ])
          refine wpAnyH_take (i := 9) (oi := (Oper.mk (some 86) (Op.fieldAddr 47 (Operand.tmp 85) 1) 0 "law.go:56" #[Edge.mk 8 Ground.data] none)) (v := ?v9t4b74) rfl (by kernel_rfl) (by kernel_rfl) (by kernel_rfl) (fun _ _ _ h => h) (Or.inl ⟨by rfl, ?hy9t4b74⟩) (by assumption) ?rest9t4b74
          case hy9t4b74 => (intro w hSw; (try dsimp only at hSw); go_simp; first | done | with_reducible rfl)
          (try simp only [Act.put, List.setIfInBounds_toArray, List.set_cons_zero, List.set_cons_succ])
          refine wpAnyH_take (i := 10) (oi := (Oper.mk (some 87) (Op.load 4 (Operand.tmp 86)) 4 "law.go:56" #[Edge.mk 9 Ground.data] none)) (v := ?v10t4b74) rfl (by kernel_rfl) (by kernel_rfl) (by kernel_rfl) (fun _ _ _ h => h) (Or.inl ⟨by rfl, ?hy10t4b74⟩) (by assumption) ?rest10t4b74
          case hy10t4b74 => (intro w hSw; (try dsimp only at hSw); go_simp; first | done | with_reducible rfl)
          (try simp only [Act.put, List.setIfInBounds_toArray, List.set_cons_zero, List.set_cons_succ])
          refine wpAnyH_ready (rs := [11]) (by kernel_rfl) (by simp) ?_
          refine AllReadyH.cons (o := (Oper.mk (some 88) (Op.call (Call.mk (Callee.value (Operand.func 9)) #[Operand.tmp 77, Operand.tmp 82, Operand.tmp 87] #[25, 31, 4])) 28 "law.go:56" #[Edge.mk 0 Ground.data, Edge.mk 5 Ground.data, Edge.mk 10 Ground.data] none)) rfl (fun K hK => ?_) AllReadyH.nil
          go_simp
          (go_at_call 9; refine (HT.out).mono ?_; rintro e w4 ⟨a4, c4, rfl, hF4, hA4, hFr4⟩; have g0 := (hFr4.cell (p := ⟨bo, oo + k * 8, none⟩) hbo2 hbne).trans f0; have g1 := (hFr4.cell (p := ⟨bo, oo + k * 8 + 1, none⟩) hbo2 hbne).trans f1; have g2 := (hFr4.cell (p := ⟨bo, oo + k * 8 + 2, none⟩) hbo2 hbne).trans f2; have g3 := (hFr4.cell (p := ⟨bo, oo + k * 8 + 3, none⟩) hbo2 hbne).trans f3; have g4 := (hFr4.cell (p := ⟨bo, oo + k * 8 + 4, none⟩) hbo2 hbne).trans f4; have g5 := (hFr4.cell (p := ⟨bo, oo + k * 8 + 5, none⟩) hbo2 hbne).trans f5; have g6 := (hFr4.cell (p := ⟨bo, oo + k * 8 + 6, none⟩) hbo2 hbne).trans f6; have g7 := (hFr4.cell (p := ⟨bo, oo + k * 8 + 7, none⟩) hbo2 hbne).trans f7; have HF4 := Lib.hid hF4; have HA4 := Lib.hid hA4; have HFR4 := Lib.hid hFr4; have hbo4 : bo < w4.heap.size := Nat.lt_of_lt_of_le hbo2 hFr4.size; clear hF4 hA4 hFr4)
          refine hK.out _ _ (by (try dsimp only); first | exact ⟨by assumption, by assumption, by assumption, by assumption, by assumption, by assumption, by assumption⟩ | go_keep) (fun hHeld => ?_)
          clear hK K
          (try simp only [Act.put, List.setIfInBounds_toArray, List.set_cons_zero, List.set_cons_succ])
          refine wpAnyH_take (i := 12) (oi := (Oper.mk (some 76) (Op.move (Operand.tmp 88)) 28 "law.go:56" #[Edge.mk 11 Ground.data] none)) (v := ?v12t4b74) rfl (by kernel_rfl) (by kernel_rfl) (by kernel_rfl) (fun _ _ _ h => h) (Or.inl ⟨by rfl, ?hy12t4b74⟩) (by assumption) ?rest12t4b74
          case hy12t4b74 => (intro w hSw; (try dsimp only at hSw); go_simp; first | done | with_reducible rfl)
          (try simp only [Act.put, List.setIfInBounds_toArray, List.set_cons_zero, List.set_cons_succ])
          refine wpAnyH_take (i := 13) (oi := (Oper.mk (some 89) (Op.extract (Operand.tmp 76) 0) 27 "law.go:56" #[Edge.mk 12 Ground.data] none)) (v := ?v13t4b74) rfl (by kernel_rfl) (by kernel_rfl) (by kernel_rfl) (fun _ _ _ h => h) (Or.inl ⟨by rfl, ?hy13t4b74⟩) (by assumption) ?rest13t4b74
          case hy13t4b74 => (intro w hSw; (try dsimp only at hSw); go_simp; first | done | with_reducible rfl)
          (try simp only [Act.put, List.setIfInBounds_toArray, List.set_cons_zero, List.set_cons_succ])
          refine wpAnyH_take (i := 14) (oi := (Oper.mk (some 90) (Op.extract (Operand.tmp 76) 1) 3 "law.go:56" #[Edge.mk 12 Ground.data, Edge.mk 15 (Ground.gcOnly Departure.lateStores)] none)) (v := ?v14t4b74) rfl (by kernel_rfl) (by kernel_rfl) (by kernel_rfl) (fun _ _ _ h => h) (Or.inl ⟨by rfl, ?hy14t4b74⟩) (by assumption) ?rest14t4b74
          case hy14t4b74 => (intro w hSw; (try dsimp only at hSw); go_simp; first | done | with_reducible rfl)
          (try simp only [Act.put, List.setIfInBounds_toArray, List.set_cons_zero, List.set_cons_succ])
          refine wpAnyH_take (i := 15) (oi := (Oper.mk (some 10) (Op.assign (Operand.tmp 89)) 27 "law.go:56" #[Edge.mk 13 Ground.data, Edge.mk 11 Ground.chain, Edge.mk 0 Ground.phase, Edge.mk 1 Ground.phase, Edge.mk 2 Ground.phase, Edge.mk 3 Ground.phase, Edge.mk 4 Ground.phase, Edge.mk 5 Ground.phase, Edge.mk 6 Ground.phase, Edge.mk 7 Ground.phase, Edge.mk 8 Ground.phase, Edge.mk 9 Ground.phase, Edge.mk 10 Ground.phase, Edge.mk 11 Ground.phase, Edge.mk 12 Ground.phase, Edge.mk 13 Ground.phase, Edge.mk 14 (Ground.textOnly Departure.lateStores)] none)) (v := ?v15t4b74) rfl (by kernel_rfl) (by kernel_rfl) (by kernel_rfl) (fun _ _ _ h => h) (Or.inl ⟨by rfl, ?hy15t4b74⟩) (by assumption) ?rest15t4b74
          case hy15t4b74 => (intro w hSw; (try dsimp only at hSw); go_simp; first | done | with_reducible rfl)
          (try simp only [Act.put, List.setIfInBounds_toArray, List.set_cons_zero, List.set_cons_succ])
          refine wpAnyH_take (i := 16) (oi := (Oper.mk (some 11) (Op.assign (Operand.tmp 90)) 3 "law.go:56" #[Edge.mk 14 Ground.data, Edge.mk 15 Ground.chain, Edge.mk 0 Ground.phase, Edge.mk 1 Ground.phase, Edge.mk 2 Ground.phase, Edge.mk 3 Ground.phase, Edge.mk 4 Ground.phase, Edge.mk 5 Ground.phase, Edge.mk 6 Ground.phase, Edge.mk 7 Ground.phase, Edge.mk 8 Ground.phase, Edge.mk 9 Ground.phase, Edge.mk 10 Ground.phase, Edge.mk 11 Ground.phase, Edge.mk 12 Ground.phase, Edge.mk 13 Ground.phase, Edge.mk 14 Ground.phase, Edge.mk 15 Ground.phase] none)) (v := ?v16t4b74) rfl (by kernel_rfl) (by kernel_rfl) (by kernel_rfl) (fun _ _ _ h => h) (Or.inl ⟨by rfl, ?hy16t4b74⟩) (by assumption) ?rest16t4b74
          case hy16t4b74 => (intro w hSw; (try dsimp only at hSw); go_simp; first | done | with_reducible rfl)
          (try simp only [Act.put, List.setIfInBounds_toArray, List.set_cons_zero, List.set_cons_succ])
          refine wpAnyH_done (by kernel_rfl) ?_ _
          go_wp2_with fail
          have hrne : rb ≠ b := fun e => by
            have h1 := HT0.out.r
            have h2 : Blk wr b 53 s.cells := HT0.out.f
            rw [e] at h1
            unfold Blk at h1 h2
            rw [h1] at h2
            cases h2
          have HRB4 : Hid (Blk w4 rb 44 s.cells) := Lib.hid ((show Blk wr.drew rb 44 s.cells from HT0.out.r).fr HFR4.out hrne)
          have r0 : w4.cell? ⟨rb, 0, none⟩ = some (.int .i64 s.craft) := HRB4.out.at 0 rfl
          have r1 : w4.cell? ⟨rb, 1, none⟩ = some (.int .i64 s.win) := HRB4.out.at 1 rfl
          have r2 : w4.cell? ⟨rb, 2, none⟩ = some (.int .i64 s.chan) := HRB4.out.at 2 rfl
          have r3 : w4.cell? ⟨rb, 3, none⟩ = some (.bool s.lock) := HRB4.out.at 3 rfl
          have r4 : w4.cell? ⟨rb, 4, none⟩ = some (.bool s.wait) := HRB4.out.at 4 rfl
          have r5 : w4.cell? ⟨rb, 5, none⟩ = some (.bool s.retr) := HRB4.out.at 5 rfl
          have r6 : w4.cell? ⟨rb, 6, none⟩ = some (.int .i64 s.byp) := HRB4.out.at 6 rfl
          have r7 : w4.cell? ⟨rb, 7, none⟩ = some (.int .i64 s.next) := HRB4.out.at 7 rfl
          have hrl4 := HRB4.out.lt
          have HBA4 : Hid (BAt w4 ax x.dat) := Lib.hid (by
            by_cases hne : x.dat = []
            · exact .inl hne
            · exact (show BAt wr.drew ax x.dat from HBA.out).fr HFR4.out (fun p hp e => by have := HBL.out p hp hne; omega))
          have hrt1 := rtake_any s x rm ax cl w4.drew HBA4.out hcl HT0.out.ok HT0.out.nx
          have hrt2 := fun o => rtake_any s x rm ax cl (w4.alloc o).drew (HBA4.out.below (al (Below.refl _ w4) o).drew (Nat.le_refl _)) hcl HT0.out.ok HT0.out.nx
          rw [HTV.out] at hrt1
          simp only [HTV.out] at hrt2
          unfold RQ TF.val FS.ref at hrt1 hrt2
          simp only at hrt1 hrt2
          have HRT1 := Lib.hid hrt1
          have HRT2 := Lib.hid hrt2
          have ne3 : w4.heap.size ≠ rb := by omega
          have ne4 : w4.heap.size ≠ bo := by omega
          clear hrt1 hrt2 f0 f1 f2 f3 f4 f5 f6 f7
          refine wp_region_held_drew (S := (fun w' => w'.cell? ⟨rb, 0, none⟩ = some (.int .i64 s.craft) ∧ w'.cell? ⟨rb, 1, none⟩ = some (.int .i64 s.win) ∧ w'.cell? ⟨rb, 2, none⟩ = some (.int .i64 s.chan) ∧ w'.cell? ⟨rb, 3, none⟩ = some (.bool s.lock) ∧ w'.cell? ⟨rb, 4, none⟩ = some (.bool s.wait) ∧ w'.cell? ⟨rb, 5, none⟩ = some (.bool s.retr) ∧ w'.cell? ⟨rb, 6, none⟩ = some (.int .i64 s.byp) ∧ w'.cell? ⟨rb, 7, none⟩ = some (.int .i64 s.next) ∧ w'.cell? ⟨bo, oo + k * 8, none⟩ = some (.bool x.byp) ∧ w'.cell? ⟨bo, oo + k * 8 + 1, none⟩ = some (.bool x.ctl) ∧ w'.cell? ⟨bo, oo + k * 8 + 2, none⟩ = some (.int .i64 x.craft) ∧ w'.cell? ⟨bo, oo + k * 8 + 3, none⟩ = some (.int .i64 x.chan) ∧ w'.cell? ⟨bo, oo + k * 8 + 4, none⟩ = some (.int .i64 x.seq) ∧ w'.cell? ⟨bo, oo + k * 8 + 5, none⟩ = some (.slice ax x.dat.length cl) ∧ w'.cell? ⟨bo, oo + k * 8 + 6, none⟩ = some (.bool rm))) (by kernel_rfl) (by (try dsimp only); ((refine ⟨?_, ?_, ?_, ?_, ?_, ?_, ?_, ?_, ?_, ?_, ?_, ?_, ?_, ?_, ?_⟩) <;> first | (with_reducible assumption) | (with_reducible exact (kf (by first | exact ne1 | exact ne2 | exact ne3 | exact ne4) _ _ _ _ _ _ _ _).trans (by with_reducible assumption)) | (with_reducible exact (kf (by first | exact ne1 | exact ne2 | exact ne3 | exact ne4) _ _ _ _ _ _ _ _).trans ((ka (by first | exact hrl5 | exact hbo5 | exact hrl4 | exact hbo4)).trans (by with_reducible assumption))) | (with_reducible exact (kad (by first | exact hrl5 | exact hbo5 | exact hrl4 | exact hbo4)).trans (by with_reducible assumption)) | (with_reducible exact (ka (by first | exact hrl5 | exact hbo5 | exact hrl4 | exact hbo4)).trans (by with_reducible assumption)) | assumption)) (fun hHeld => ?_)
          refine wpAnyH_take (i := 0) (oi := (Oper.mk (some 92) (Op.load 44 (Operand.tmp 8)) 44 "law.go:57" #[] none)) (v := ?_) rfl (by kernel_rfl) (by kernel_rfl) (by kernel_rfl) (fun _ _ _ h => h) (Or.inl ⟨by rfl, ?_⟩) (by assumption) ?_
          rotate_left
          · (intro w hSw; (try dsimp only at hSw); go_simp; first | done | with_reducible rfl)
          (try simp only [Act.put, List.setIfInBounds_toArray, List.set_cons_zero, List.set_cons_succ])
          refine wpAnyH_take (i := 1) (oi := (Oper.mk (some 93) (Op.move (Operand.tmp 1)) 41 "law.go:57" #[] none)) (v := ?_) rfl (by kernel_rfl) (by kernel_rfl) (by kernel_rfl) (fun _ _ _ h => h) (Or.inl ⟨by rfl, ?_⟩) (by assumption) ?_
          rotate_left
          · (intro w hSw; (try dsimp only at hSw); go_simp; first | done | with_reducible rfl)
          (try simp only [Act.put, List.setIfInBounds_toArray, List.set_cons_zero, List.set_cons_succ])
          refine wpAnyH_take (i := 2) (oi := (Oper.mk (some 94) (Op.move (Operand.tmp 9)) 3 "law.go:57" #[] none)) (v := ?_) rfl (by kernel_rfl) (by kernel_rfl) (by kernel_rfl) (fun _ _ _ h => h) (Or.inl ⟨by rfl, ?_⟩) (by assumption) ?_
          rotate_left
          · (intro w hSw; (try dsimp only at hSw); go_simp; first | done | with_reducible rfl)
          (try simp only [Act.put, List.setIfInBounds_toArray, List.set_cons_zero, List.set_cons_succ])
          refine wpAnyH_take (i := 3) (oi := (Oper.mk (some 95) (Op.indexAddr 41 (Operand.tmp 93) (Operand.tmp 94)) 0 "law.go:57" #[Edge.mk 1 Ground.data, Edge.mk 2 Ground.data] none)) (v := ?_) rfl (by kernel_rfl) (by kernel_rfl) (by kernel_rfl) (fun _ _ _ h => h) (Or.inl ⟨by rfl, ?_⟩) (by assumption) ?_
          rotate_left
          · (intro w hSw; (try dsimp only at hSw); go_simp; first | done | with_reducible rfl)
          (try simp only [Act.put, List.setIfInBounds_toArray, List.set_cons_zero, List.set_cons_succ])
          refine wpAnyH_take (i := 4) (oi := (Oper.mk (some 96) (Op.fieldAddr 47 (Operand.tmp 95) 0) 0 "law.go:57" #[Edge.mk 3 Ground.data] none)) (v := ?_) rfl (by kernel_rfl) (by kernel_rfl) (by kernel_rfl) (fun _ _ _ h => h) (Or.inl ⟨by rfl, ?_⟩) (by assumption) ?_
          rotate_left
          · (intro w hSw; (try dsimp only at hSw); go_simp; first | done | with_reducible rfl)
          (try simp only [Act.put, List.setIfInBounds_toArray, List.set_cons_zero, List.set_cons_succ])
          refine wpAnyH_take (i := 5) (oi := (Oper.mk (some 97) (Op.load 31 (Operand.tmp 96)) 31 "law.go:57" #[Edge.mk 4 Ground.data] none)) (v := ?_) rfl (by kernel_rfl) (by kernel_rfl) (by kernel_rfl) (fun _ _ _ h => h) (Or.inl ⟨by rfl, ?_⟩) (by assumption) ?_
          rotate_left
          · (intro w hSw; (try dsimp only at hSw); go_simp; first | done | with_reducible rfl)
          (try simp only [Act.put, List.setIfInBounds_toArray, List.set_cons_zero, List.set_cons_succ])
          refine wpAnyH_take (i := 6) (oi := (Oper.mk (some 98) (Op.move (Operand.tmp 1)) 41 "law.go:57" #[] none)) (v := ?_) rfl (by kernel_rfl) (by kernel_rfl) (by kernel_rfl) (fun _ _ _ h => h) (Or.inl ⟨by rfl, ?_⟩) (by assumption) ?_
          rotate_left
          · (intro w hSw; (try dsimp only at hSw); go_simp; first | done | with_reducible rfl)
          (try simp only [Act.put, List.setIfInBounds_toArray, List.set_cons_zero, List.set_cons_succ])
          refine wpAnyH_take (i := 7) (oi := (Oper.mk (some 99) (Op.move (Operand.tmp 9)) 3 "law.go:57" #[] none)) (v := ?_) rfl (by kernel_rfl) (by kernel_rfl) (by kernel_rfl) (fun _ _ _ h => h) (Or.inl ⟨by rfl, ?_⟩) (by assumption) ?_
          rotate_left
          · (intro w hSw; (try dsimp only at hSw); go_simp; first | done | with_reducible rfl)
          (try simp only [Act.put, List.setIfInBounds_toArray, List.set_cons_zero, List.set_cons_succ])
          refine wpAnyH_take (i := 8) (oi := (Oper.mk (some 100) (Op.indexAddr 41 (Operand.tmp 98) (Operand.tmp 99)) 0 "law.go:57" #[Edge.mk 6 Ground.data, Edge.mk 7 Ground.data] none)) (v := ?_) rfl (by kernel_rfl) (by kernel_rfl) (by kernel_rfl) (fun _ _ _ h => h) (Or.inl ⟨by rfl, ?_⟩) (by assumption) ?_
          rotate_left
          · (intro w hSw; (try dsimp only at hSw); go_simp; first | done | with_reducible rfl)
          (try simp only [Act.put, List.setIfInBounds_toArray, List.set_cons_zero, List.set_cons_succ])
          refine wpAnyH_take (i := 9) (oi := (Oper.mk (some 101) (Op.fieldAddr 47 (Operand.tmp 100) 1) 0 "law.go:57" #[Edge.mk 8 Ground.data] none)) (v := ?_) rfl (by kernel_rfl) (by kernel_rfl) (by kernel_rfl) (fun _ _ _ h => h) (Or.inl ⟨by rfl, ?_⟩) (by assumption) ?_
          rotate_left
          · (intro w hSw; (try dsimp only at hSw); go_simp; first | done | with_reducible rfl)
          (try simp only [Act.put, List.setIfInBounds_toArray, List.set_cons_zero, List.set_cons_succ])
          refine wpAnyH_take (i := 10) (oi := (Oper.mk (some 102) (Op.load 4 (Operand.tmp 101)) 4 "law.go:57" #[Edge.mk 9 Ground.data] none)) (v := ?_) rfl (by kernel_rfl) (by kernel_rfl) (by kernel_rfl) (fun _ _ _ h => h) (Or.inl ⟨by rfl, ?_⟩) (by assumption) ?_
          rotate_left
          · (intro w hSw; (try dsimp only at hSw); go_simp; first | done | with_reducible rfl)
          (try simp only [Act.put, List.setIfInBounds_toArray, List.set_cons_zero, List.set_cons_succ])
          refine wpAnyH_ready (rs := [11, 15]) (by kernel_rfl) (by simp) ?_
          refine AllReadyH.cons (o := (Oper.mk (some 103) (Op.call (Call.mk (Callee.value (Operand.func 15)) #[Operand.tmp 92, Operand.tmp 97, Operand.tmp 102] #[44, 31, 4])) 48 "law.go:57" #[Edge.mk 0 Ground.data, Edge.mk 5 Ground.data, Edge.mk 10 Ground.data] none)) rfl (fun K hK => ?st11td022x12) (AllReadyH.cons (o := (Oper.mk (some 12) (Op.alloc 44) 0 "law.go:57" #[] none)) rfl (fun K hK => ?st15td022x12) (AllReadyH.nil))
          case' st11td022x12 =>
            go_simp
            (go_at_call 15; refine (HRT1.out).mono ?_; rintro e w5 ⟨rfl, hB5⟩; have hB45 : Below w4.heap.size w4 w5 := undrew hB5; clear hB5; have i0 := (hB45.cell (p := ⟨bo, oo + k * 8, none⟩) hbo4).trans g0; have i1 := (hB45.cell (p := ⟨bo, oo + k * 8 + 1, none⟩) hbo4).trans g1; have i2 := (hB45.cell (p := ⟨bo, oo + k * 8 + 2, none⟩) hbo4).trans g2; have i3 := (hB45.cell (p := ⟨bo, oo + k * 8 + 3, none⟩) hbo4).trans g3; have i4 := (hB45.cell (p := ⟨bo, oo + k * 8 + 4, none⟩) hbo4).trans g4; have i5 := (hB45.cell (p := ⟨bo, oo + k * 8 + 5, none⟩) hbo4).trans g5; have i6 := (hB45.cell (p := ⟨bo, oo + k * 8 + 6, none⟩) hbo4).trans g6; have i7 := (hB45.cell (p := ⟨bo, oo + k * 8 + 7, none⟩) hbo4).trans g7; have hrb5 := HRB4.out.below hB45 (Nat.le_refl _); have hrl5 := hrb5.lt; have hbo5 : bo < w5.heap.size := Nat.lt_of_lt_of_le hbo4 hB45.size; have t0 : w5.cell? ⟨rb, 0, none⟩ = some (.int .i64 s.craft) := hrb5.at 0 rfl; have t1 : w5.cell? ⟨rb, 1, none⟩ = some (.int .i64 s.win) := hrb5.at 1 rfl; have t2 : w5.cell? ⟨rb, 2, none⟩ = some (.int .i64 s.chan) := hrb5.at 2 rfl; have t3 : w5.cell? ⟨rb, 3, none⟩ = some (.bool s.lock) := hrb5.at 3 rfl; have t4 : w5.cell? ⟨rb, 4, none⟩ = some (.bool s.wait) := hrb5.at 4 rfl; have t5 : w5.cell? ⟨rb, 5, none⟩ = some (.bool s.retr) := hrb5.at 5 rfl; have t6 : w5.cell? ⟨rb, 6, none⟩ = some (.int .i64 s.byp) := hrb5.at 6 rfl; have t7 : w5.cell? ⟨rb, 7, none⟩ = some (.int .i64 s.next) := hrb5.at 7 rfl; have y0 := hrb5.free 0; have y1 := hrb5.free 1; have y2 := hrb5.free 2; have y3 := hrb5.free 3; have y4 := hrb5.free 4; have y5 := hrb5.free 5; have y6 := hrb5.free 6; have y7 := hrb5.free 7; have HRB5 := Lib.hid hrb5; have HB45 := Lib.hid hB45; have hs45 := hB45.size; have ne1 : w5.heap.size ≠ rb := Nat.ne_of_gt hrl5; have ne2 : w5.heap.size ≠ bo := Nat.ne_of_gt (Nat.lt_of_lt_of_le hbo4 hs45); clear hrb5 hB45)
            refine hK.out _ _ (by (try dsimp only); ((refine ⟨?_, ?_, ?_, ?_, ?_, ?_, ?_, ?_, ?_, ?_, ?_, ?_, ?_, ?_, ?_⟩) <;> first | (with_reducible assumption) | (with_reducible exact (kf (by first | exact ne1 | exact ne2 | exact ne3 | exact ne4) _ _ _ _ _ _ _ _).trans (by with_reducible assumption)) | (with_reducible exact (kf (by first | exact ne1 | exact ne2 | exact ne3 | exact ne4) _ _ _ _ _ _ _ _).trans ((ka (by first | exact hrl5 | exact hbo5 | exact hrl4 | exact hbo4)).trans (by with_reducible assumption))) | (with_reducible exact (kad (by first | exact hrl5 | exact hbo5 | exact hrl4 | exact hbo4)).trans (by with_reducible assumption)) | (with_reducible exact (ka (by first | exact hrl5 | exact hbo5 | exact hrl4 | exact hbo4)).trans (by with_reducible assumption)) | assumption)) (fun hHeld => ?_)
            clear hK K
            (try simp only [Act.put, List.setIfInBounds_toArray, List.set_cons_zero, List.set_cons_succ])
            refine wpAnyH_take (i := 12) (oi := (Oper.mk (some 91) (Op.move (Operand.tmp 103)) 48 "law.go:57" #[Edge.mk 11 Ground.data] none)) (v := ?_) rfl (by kernel_rfl) (by kernel_rfl) (by kernel_rfl) (fun _ _ _ h => h) (Or.inl ⟨by rfl, ?_⟩) (by assumption) ?_
            rotate_left
            · (intro w hSw; (try dsimp only at hSw); go_simp; first | done | with_reducible rfl)
            (try simp only [Act.put, List.setIfInBounds_toArray, List.set_cons_zero, List.set_cons_succ])
            refine wpAnyH_take (i := 13) (oi := (Oper.mk (some 104) (Op.extract (Operand.tmp 91) 0) 44 "law.go:57" #[Edge.mk 12 Ground.data] none)) (v := ?_) rfl (by kernel_rfl) (by kernel_rfl) (by kernel_rfl) (fun _ _ _ h => h) (Or.inl ⟨by rfl, ?_⟩) (by assumption) ?_
            rotate_left
            · (intro w hSw; (try dsimp only at hSw); go_simp; first | done | with_reducible rfl)
            (try simp only [Act.put, List.setIfInBounds_toArray, List.set_cons_zero, List.set_cons_succ])
            refine wpAnyH_take (i := 14) (oi := (Oper.mk (some 105) (Op.extract (Operand.tmp 91) 1) 3 "law.go:57" #[Edge.mk 12 Ground.data, Edge.mk 16 (Ground.gcOnly Departure.lateStores)] none)) (v := ?_) rfl (by kernel_rfl) (by kernel_rfl) (by kernel_rfl) (fun _ _ _ h => h) (Or.inl ⟨by rfl, ?_⟩) (by assumption) ?_
            rotate_left
            · (intro w hSw; (try dsimp only at hSw); go_simp; first | done | with_reducible rfl)
            (try simp only [Act.put, List.setIfInBounds_toArray, List.set_cons_zero, List.set_cons_succ])
            refine wpAnyH_ready (rs := [15]) (by kernel_rfl) (by simp) ?_
            refine AllReadyH.cons (o := (Oper.mk (some 12) (Op.alloc 44) 0 "law.go:57" #[] none)) rfl (fun K hK => ?_) (AllReadyH.nil)
            go_simp
            skip
            refine hK.out _ _ (by (try dsimp only); ((refine ⟨?_, ?_, ?_, ?_, ?_, ?_, ?_, ?_, ?_, ?_, ?_, ?_, ?_, ?_, ?_⟩) <;> first | (with_reducible assumption) | (with_reducible exact (kf (by first | exact ne1 | exact ne2 | exact ne3 | exact ne4) _ _ _ _ _ _ _ _).trans (by with_reducible assumption)) | (with_reducible exact (kf (by first | exact ne1 | exact ne2 | exact ne3 | exact ne4) _ _ _ _ _ _ _ _).trans ((ka (by first | exact hrl5 | exact hbo5 | exact hrl4 | exact hbo4)).trans (by with_reducible assumption))) | (with_reducible exact (kad (by first | exact hrl5 | exact hbo5 | exact hrl4 | exact hbo4)).trans (by with_reducible assumption)) | (with_reducible exact (ka (by first | exact hrl5 | exact hbo5 | exact hrl4 | exact hbo4)).trans (by with_reducible assumption)) | assumption)) (fun hHeld => ?_)
            clear hK K
            (try simp only [Act.put, List.setIfInBounds_toArray, List.set_cons_zero, List.set_cons_succ])
            refine wpAnyH_ready (rs := [16]) (by kernel_rfl) (by simp) ?_
            refine AllReadyH.cons (o := (Oper.mk none (Op.store 44 (Operand.tmp 12) (Operand.tmp 104)) 0 "law.go:57" #[Edge.mk 15 Ground.data, Edge.mk 13 Ground.data, Edge.mk 11 Ground.chain, Edge.mk 0 Ground.phase, Edge.mk 1 Ground.phase, Edge.mk 2 Ground.phase, Edge.mk 3 Ground.phase, Edge.mk 4 Ground.phase, Edge.mk 5 Ground.phase, Edge.mk 6 Ground.phase, Edge.mk 7 Ground.phase, Edge.mk 8 Ground.phase, Edge.mk 9 Ground.phase, Edge.mk 10 Ground.phase, Edge.mk 11 Ground.phase, Edge.mk 12 Ground.phase, Edge.mk 13 Ground.phase, Edge.mk 14 (Ground.textOnly Departure.lateStores), Edge.mk 15 Ground.phase] none)) rfl (fun K hK => ?_) (AllReadyH.nil)
            go_simp
            skip
            refine hK.out _ _ (by (try dsimp only); ((refine ⟨?_, ?_, ?_, ?_, ?_, ?_, ?_, ?_, ?_, ?_, ?_, ?_, ?_, ?_, ?_⟩) <;> first | (with_reducible assumption) | (with_reducible exact (kf (by first | exact ne1 | exact ne2 | exact ne3 | exact ne4) _ _ _ _ _ _ _ _).trans (by with_reducible assumption)) | (with_reducible exact (kf (by first | exact ne1 | exact ne2 | exact ne3 | exact ne4) _ _ _ _ _ _ _ _).trans ((ka (by first | exact hrl5 | exact hbo5 | exact hrl4 | exact hbo4)).trans (by with_reducible assumption))) | (with_reducible exact (kad (by first | exact hrl5 | exact hbo5 | exact hrl4 | exact hbo4)).trans (by with_reducible assumption)) | (with_reducible exact (ka (by first | exact hrl5 | exact hbo5 | exact hrl4 | exact hbo4)).trans (by with_reducible assumption)) | assumption)) (fun hHeld => ?_)
            clear hK K
            (try simp only [Act.put, List.setIfInBounds_toArray, List.set_cons_zero, List.set_cons_succ])
            refine wpAnyH_take (i := 17) (oi := (Oper.mk (some 13) (Op.assign (Operand.tmp 105)) 3 "law.go:57" #[Edge.mk 14 Ground.data, Edge.mk 16 Ground.chain, Edge.mk 0 Ground.phase, Edge.mk 1 Ground.phase, Edge.mk 2 Ground.phase, Edge.mk 3 Ground.phase, Edge.mk 4 Ground.phase, Edge.mk 5 Ground.phase, Edge.mk 6 Ground.phase, Edge.mk 7 Ground.phase, Edge.mk 8 Ground.phase, Edge.mk 9 Ground.phase, Edge.mk 10 Ground.phase, Edge.mk 11 Ground.phase, Edge.mk 12 Ground.phase, Edge.mk 13 Ground.phase, Edge.mk 14 Ground.phase, Edge.mk 15 Ground.phase, Edge.mk 16 Ground.phase] none)) (v := ?_) rfl (by kernel_rfl) (by kernel_rfl) (by kernel_rfl) (fun _ _ _ h => h) (Or.inl ⟨by rfl, ?_⟩) (by assumption) ?_
            rotate_left
            · (intro w hSw; (try dsimp only at hSw); go_simp; first | done | with_reducible rfl)
            (try simp only [Act.put, List.setIfInBounds_toArray, List.set_cons_zero, List.set_cons_succ])
            refine wpAnyH_done (by kernel_rfl) ?_ _
          case' st15td022x12 =>
            go_simp
            skip
            refine hK.out _ _ (by (try dsimp only); ((refine ⟨?_, ?_, ?_, ?_, ?_, ?_, ?_, ?_, ?_, ?_, ?_, ?_, ?_, ?_, ?_⟩) <;> first | (with_reducible assumption) | (with_reducible exact (kf (by first | exact ne1 | exact ne2 | exact ne3 | exact ne4) _ _ _ _ _ _ _ _).trans (by with_reducible assumption)) | (with_reducible exact (kf (by first | exact ne1 | exact ne2 | exact ne3 | exact ne4) _ _ _ _ _ _ _ _).trans ((ka (by first | exact hrl5 | exact hbo5 | exact hrl4 | exact hbo4)).trans (by with_reducible assumption))) | (with_reducible exact (kad (by first | exact hrl5 | exact hbo5 | exact hrl4 | exact hbo4)).trans (by with_reducible assumption)) | (with_reducible exact (ka (by first | exact hrl5 | exact hbo5 | exact hrl4 | exact hbo4)).trans (by with_reducible assumption)) | assumption)) (fun hHeld => ?_)
            clear hK K
            (try simp only [Act.put, List.setIfInBounds_toArray, List.set_cons_zero, List.set_cons_succ])
            refine wpAnyH_ready (rs := [11]) (by kernel_rfl) (by simp) ?_
            refine AllReadyH.cons (o := (Oper.mk (some 103) (Op.call (Call.mk (Callee.value (Operand.func 15)) #[Operand.tmp 92, Operand.tmp 97, Operand.tmp 102] #[44, 31, 4])) 48 "law.go:57" #[Edge.mk 0 Ground.data, Edge.mk 5 Ground.data, Edge.mk 10 Ground.data] none)) rfl (fun K hK => ?_) (AllReadyH.nil)
            go_simp
            (go_at_call 15; refine (HRT2.out _).mono ?_; rintro e w5 ⟨rfl, hB5⟩; have hB45 : Below w4.heap.size w4 w5 := (al (Below.refl _ w4) _).trans ((undrew hB5).mono (by simp)); have hz5 : Blk w5 w4.heap.size 44 zero44 := (show Blk (w4.alloc (.cells zero44.toArray 44)).drew w4.heap.size 44 zero44 from Blk.new w4 44 zero44).below hB5 (Nat.le_refl _); have hzl := hz5.lt; have z0 := hz5.free 0; have z1 := hz5.free 1; have z2 := hz5.free 2; have z3 := hz5.free 3; have z4 := hz5.free 4; have z5 := hz5.free 5; have z6 := hz5.free 6; have z7 := hz5.free 7; have zc0 : w5.cell? ⟨w4.heap.size, 0, none⟩ = some (.int .i64 0) := hz5.at 0 rfl; have zc1 : w5.cell? ⟨w4.heap.size, 1, none⟩ = some (.int .i64 0) := hz5.at 1 rfl; have zc2 : w5.cell? ⟨w4.heap.size, 2, none⟩ = some (.int .i64 0) := hz5.at 2 rfl; have zc3 : w5.cell? ⟨w4.heap.size, 3, none⟩ = some (.bool false) := hz5.at 3 rfl; have zc4 : w5.cell? ⟨w4.heap.size, 4, none⟩ = some (.bool false) := hz5.at 4 rfl; have zc5 : w5.cell? ⟨w4.heap.size, 5, none⟩ = some (.bool false) := hz5.at 5 rfl; have zc6 : w5.cell? ⟨w4.heap.size, 6, none⟩ = some (.int .i64 0) := hz5.at 6 rfl; have zc7 : w5.cell? ⟨w4.heap.size, 7, none⟩ = some (.int .i64 0) := hz5.at 7 rfl; have HZ5 := Lib.hid hz5; clear hB5 hz5; have i0 := (hB45.cell (p := ⟨bo, oo + k * 8, none⟩) hbo4).trans g0; have i1 := (hB45.cell (p := ⟨bo, oo + k * 8 + 1, none⟩) hbo4).trans g1; have i2 := (hB45.cell (p := ⟨bo, oo + k * 8 + 2, none⟩) hbo4).trans g2; have i3 := (hB45.cell (p := ⟨bo, oo + k * 8 + 3, none⟩) hbo4).trans g3; have i4 := (hB45.cell (p := ⟨bo, oo + k * 8 + 4, none⟩) hbo4).trans g4; have i5 := (hB45.cell (p := ⟨bo, oo + k * 8 + 5, none⟩) hbo4).trans g5; have i6 := (hB45.cell (p := ⟨bo, oo + k * 8 + 6, none⟩) hbo4).trans g6; have i7 := (hB45.cell (p := ⟨bo, oo + k * 8 + 7, none⟩) hbo4).trans g7; have hrb5 := HRB4.out.below hB45 (Nat.le_refl _); have hrl5 := hrb5.lt; have hbo5 : bo < w5.heap.size := Nat.lt_of_lt_of_le hbo4 hB45.size; have t0 : w5.cell? ⟨rb, 0, none⟩ = some (.int .i64 s.craft) := hrb5.at 0 rfl; have t1 : w5.cell? ⟨rb, 1, none⟩ = some (.int .i64 s.win) := hrb5.at 1 rfl; have t2 : w5.cell? ⟨rb, 2, none⟩ = some (.int .i64 s.chan) := hrb5.at 2 rfl; have t3 : w5.cell? ⟨rb, 3, none⟩ = some (.bool s.lock) := hrb5.at 3 rfl; have t4 : w5.cell? ⟨rb, 4, none⟩ = some (.bool s.wait) := hrb5.at 4 rfl; have t5 : w5.cell? ⟨rb, 5, none⟩ = some (.bool s.retr) := hrb5.at 5 rfl; have t6 : w5.cell? ⟨rb, 6, none⟩ = some (.int .i64 s.byp) := hrb5.at 6 rfl; have t7 : w5.cell? ⟨rb, 7, none⟩ = some (.int .i64 s.next) := hrb5.at 7 rfl; have y0 := hrb5.free 0; have y1 := hrb5.free 1; have y2 := hrb5.free 2; have y3 := hrb5.free 3; have y4 := hrb5.free 4; have y5 := hrb5.free 5; have y6 := hrb5.free 6; have y7 := hrb5.free 7; have HRB5 := Lib.hid hrb5; have HB45 := Lib.hid hB45; have hs45 := hB45.size; have ne1 : w5.heap.size ≠ rb := Nat.ne_of_gt hrl5; have ne2 : w5.heap.size ≠ bo := Nat.ne_of_gt (Nat.lt_of_lt_of_le hbo4 hs45); clear hrb5 hB45)
            refine hK.out _ _ (by (try dsimp only); ((refine ⟨?_, ?_, ?_, ?_, ?_, ?_, ?_, ?_, ?_, ?_, ?_, ?_, ?_, ?_, ?_⟩) <;> first | (with_reducible assumption) | (with_reducible exact (kf (by first | exact ne1 | exact ne2 | exact ne3 | exact ne4) _ _ _ _ _ _ _ _).trans (by with_reducible assumption)) | (with_reducible exact (kf (by first | exact ne1 | exact ne2 | exact ne3 | exact ne4) _ _ _ _ _ _ _ _).trans ((ka (by first | exact hrl5 | exact hbo5 | exact hrl4 | exact hbo4)).trans (by with_reducible assumption))) | (with_reducible exact (kad (by first | exact hrl5 | exact hbo5 | exact hrl4 | exact hbo4)).trans (by with_reducible assumption)) | (with_reducible exact (ka (by first | exact hrl5 | exact hbo5 | exact hrl4 | exact hbo4)).trans (by with_reducible assumption)) | assumption)) (fun hHeld => ?_)
            clear hK K
            (try simp only [Act.put, List.setIfInBounds_toArray, List.set_cons_zero, List.set_cons_succ])
            refine wpAnyH_take (i := 12) (oi := (Oper.mk (some 91) (Op.move (Operand.tmp 103)) 48 "law.go:57" #[Edge.mk 11 Ground.data] none)) (v := ?_) rfl (by kernel_rfl) (by kernel_rfl) (by kernel_rfl) (fun _ _ _ h => h) (Or.inl ⟨by rfl, ?_⟩) (by assumption) ?_
            rotate_left
            · (intro w hSw; (try dsimp only at hSw); go_simp; first | done | with_reducible rfl)
            (try simp only [Act.put, List.setIfInBounds_toArray, List.set_cons_zero, List.set_cons_succ])
            refine wpAnyH_take (i := 13) (oi := (Oper.mk (some 104) (Op.extract (Operand.tmp 91) 0) 44 "law.go:57" #[Edge.mk 12 Ground.data] none)) (v := ?_) rfl (by kernel_rfl) (by kernel_rfl) (by kernel_rfl) (fun _ _ _ h => h) (Or.inl ⟨by rfl, ?_⟩) (by assumption) ?_
            rotate_left
            · (intro w hSw; (try dsimp only at hSw); go_simp; first | done | with_reducible rfl)
            (try simp only [Act.put, List.setIfInBounds_toArray, List.set_cons_zero, List.set_cons_succ])
            refine wpAnyH_take (i := 14) (oi := (Oper.mk (some 105) (Op.extract (Operand.tmp 91) 1) 3 "law.go:57" #[Edge.mk 12 Ground.data, Edge.mk 16 (Ground.gcOnly Departure.lateStores)] none)) (v := ?_) rfl (by kernel_rfl) (by kernel_rfl) (by kernel_rfl) (fun _ _ _ h => h) (Or.inl ⟨by rfl, ?_⟩) (by assumption) ?_
            rotate_left
            · (intro w hSw; (try dsimp only at hSw); go_simp; first | done | with_reducible rfl)
            (try simp only [Act.put, List.setIfInBounds_toArray, List.set_cons_zero, List.set_cons_succ])
            refine wpAnyH_ready (rs := [16]) (by kernel_rfl) (by simp) ?_
            refine AllReadyH.cons (o := (Oper.mk none (Op.store 44 (Operand.tmp 12) (Operand.tmp 104)) 0 "law.go:57" #[Edge.mk 15 Ground.data, Edge.mk 13 Ground.data, Edge.mk 11 Ground.chain, Edge.mk 0 Ground.phase, Edge.mk 1 Ground.phase, Edge.mk 2 Ground.phase, Edge.mk 3 Ground.phase, Edge.mk 4 Ground.phase, Edge.mk 5 Ground.phase, Edge.mk 6 Ground.phase, Edge.mk 7 Ground.phase, Edge.mk 8 Ground.phase, Edge.mk 9 Ground.phase, Edge.mk 10 Ground.phase, Edge.mk 11 Ground.phase, Edge.mk 12 Ground.phase, Edge.mk 13 Ground.phase, Edge.mk 14 (Ground.textOnly Departure.lateStores), Edge.mk 15 Ground.phase] none)) rfl (fun K hK => ?_) (AllReadyH.nil)
            go_simp
            skip
            refine hK.out _ _ (by (try dsimp only); ((refine ⟨?_, ?_, ?_, ?_, ?_, ?_, ?_, ?_, ?_, ?_, ?_, ?_, ?_, ?_, ?_⟩) <;> first | (with_reducible assumption) | (with_reducible exact (kf (by first | exact ne1 | exact ne2 | exact ne3 | exact ne4) _ _ _ _ _ _ _ _).trans (by with_reducible assumption)) | (with_reducible exact (kf (by first | exact ne1 | exact ne2 | exact ne3 | exact ne4) _ _ _ _ _ _ _ _).trans ((ka (by first | exact hrl5 | exact hbo5 | exact hrl4 | exact hbo4)).trans (by with_reducible assumption))) | (with_reducible exact (kad (by first | exact hrl5 | exact hbo5 | exact hrl4 | exact hbo4)).trans (by with_reducible assumption)) | (with_reducible exact (ka (by first | exact hrl5 | exact hbo5 | exact hrl4 | exact hbo4)).trans (by with_reducible assumption)) | assumption)) (fun hHeld => ?_)
            clear hK K
            (try simp only [Act.put, List.setIfInBounds_toArray, List.set_cons_zero, List.set_cons_succ])
            refine wpAnyH_take (i := 17) (oi := (Oper.mk (some 13) (Op.assign (Operand.tmp 105)) 3 "law.go:57" #[Edge.mk 14 Ground.data, Edge.mk 16 Ground.chain, Edge.mk 0 Ground.phase, Edge.mk 1 Ground.phase, Edge.mk 2 Ground.phase, Edge.mk 3 Ground.phase, Edge.mk 4 Ground.phase, Edge.mk 5 Ground.phase, Edge.mk 6 Ground.phase, Edge.mk 7 Ground.phase, Edge.mk 8 Ground.phase, Edge.mk 9 Ground.phase, Edge.mk 10 Ground.phase, Edge.mk 11 Ground.phase, Edge.mk 12 Ground.phase, Edge.mk 13 Ground.phase, Edge.mk 14 Ground.phase, Edge.mk 15 Ground.phase, Edge.mk 16 Ground.phase] none)) (v := ?_) rfl (by kernel_rfl) (by kernel_rfl) (by kernel_rfl) (fun _ _ _ h => h) (Or.inl ⟨by rfl, ?_⟩) (by assumption) ?_
            rotate_left
            · (intro w hSw; (try dsimp only at hSw); go_simp; first | done | with_reducible rfl)
            (try simp only [Act.put, List.setIfInBounds_toArray, List.set_cons_zero, List.set_cons_succ])
            refine wpAnyH_done (by kernel_rfl) ?_ _
          all_goals
            go_upto_region 13 with (fail)
            go_cut [] (fun wx => Tk w b rb s1 wx ∧ BAt wx a4 l1)
            case first =>
              have hBw4 : Below w.heap.size w w4 := HT0.out.bl.drew.trans (HFR4.out.toBelow (show w.heap.size ≤ wr.heap.size from hsr) (fun k hk => by subst hk; exact hbw))
              have HBw5 := Lib.hid (hBw4.trans (HB45.out.mono hBw4.size))
              have HF5 : Hid (FAt w5 b s1) := Lib.hid (Blk.below HF4.out HB45.out (Nat.le_refl _))
              have HA5 : Hid (BAt w5 a4 l1) := Lib.hid (HA4.out.below HB45.out (Nat.le_refl _))
              have hrw : w.heap.size ≤ rb := HT0.out.hr
              have hzw : w.heap.size ≤ w4.heap.size := hBw4.size
              have hzb : w4.heap.size ≠ b := Nat.ne_of_gt HF4.out.lt
              have HAP : Hid (l1 ≠ [] → ∀ p, a4 = some p → ¬ (p.block = rb ∨ p.block = w4.heap.size)) := Lib.hid (fun hl p hp h => by
                rcases h with h | h
                · exact blk_apart HRB4.out HA4.out hl (cells_plain s) p hp h
                · rcases HA4.out with h1 | ⟨q, off, h1, h2, -⟩
                  · exact hl h1
                  · rw [hp] at h1; cases h1; exact Nat.ne_of_lt h2 h)
              clear hBw4
              have hap : l1 ≠ [] → ∀ p, a4 = some p → p.block ≠ rb := fun hl p hp e => HAP.out hl p hp (.inl e)
              have hap4 : l1 ≠ [] → ∀ p, a4 = some p → p.block ≠ w4.heap.size := fun hl p hp e => HAP.out hl p hp (.inr e)
              have HOK : Hid s1.ok := Lib.hid (HKP.out.ok HT0.out.ok)
              have HFB : Hid (∀ v0 v1 v2 v3 v4 v5 v6 v7 : Value, FAt ((((((((w5.setCell ⟨w4.heap.size, 0, none⟩ v0).setCell ⟨w4.heap.size, 1, none⟩ v1).setCell ⟨w4.heap.size, 2, none⟩ v2).setCell ⟨w4.heap.size, 3, none⟩ v3).setCell ⟨w4.heap.size, 4, none⟩ v4).setCell ⟨w4.heap.size, 5, none⟩ v5).setCell ⟨w4.heap.size, 6, none⟩ v6).setCell ⟨w4.heap.size, 7, none⟩ v7) b s1) := Lib.hid (fun v0 v1 v2 v3 v4 v5 v6 v7 => Blk.fr HF5.out (st8_fr w5 w4.heap.size v0 v1 v2 v3 v4 v5 v6 v7) (fun e => hzb e.symm))
              have HRB : Hid (∀ v0 v1 v2 v3 v4 v5 v6 v7 : Value, Blk ((((((((w5.setCell ⟨w4.heap.size, 0, none⟩ v0).setCell ⟨w4.heap.size, 1, none⟩ v1).setCell ⟨w4.heap.size, 2, none⟩ v2).setCell ⟨w4.heap.size, 3, none⟩ v3).setCell ⟨w4.heap.size, 4, none⟩ v4).setCell ⟨w4.heap.size, 5, none⟩ v5).setCell ⟨w4.heap.size, 6, none⟩ v6).setCell ⟨w4.heap.size, 7, none⟩ v7) rb 44 s.cells) := Lib.hid (fun v0 v1 v2 v3 v4 v5 v6 v7 => HRB5.out.fr (st8_fr w5 w4.heap.size v0 v1 v2 v3 v4 v5 v6 v7) (fun e => ne3 e.symm))
              have HBB : Hid (∀ v0 v1 v2 v3 v4 v5 v6 v7 : Value, Below w.heap.size w ((((((((w5.setCell ⟨w4.heap.size, 0, none⟩ v0).setCell ⟨w4.heap.size, 1, none⟩ v1).setCell ⟨w4.heap.size, 2, none⟩ v2).setCell ⟨w4.heap.size, 3, none⟩ v3).setCell ⟨w4.heap.size, 4, none⟩ v4).setCell ⟨w4.heap.size, 5, none⟩ v5).setCell ⟨w4.heap.size, 6, none⟩ v6).setCell ⟨w4.heap.size, 7, none⟩ v7)) := Lib.hid (fun v0 v1 v2 v3 v4 v5 v6 v7 => HBw5.out.trans ((st8_fr w5 w4.heap.size v0 v1 v2 v3 v4 v5 v6 v7).toBelow HBw5.out.size (fun k hk => by subst hk; exact hzw)))
              have HDB : Hid (∀ v0 v1 v2 v3 v4 v5 v6 v7 : Value, BAt ((((((((w5.setCell ⟨w4.heap.size, 0, none⟩ v0).setCell ⟨w4.heap.size, 1, none⟩ v1).setCell ⟨w4.heap.size, 2, none⟩ v2).setCell ⟨w4.heap.size, 3, none⟩ v3).setCell ⟨w4.heap.size, 4, none⟩ v4).setCell ⟨w4.heap.size, 5, none⟩ v5).setCell ⟨w4.heap.size, 6, none⟩ v6).setCell ⟨w4.heap.size, 7, none⟩ v7) a4 l1) := Lib.hid (fun v0 v1 v2 v3 v4 v5 v6 v7 => by
                by_cases hl : l1 = []
                · exact .inl hl
                · exact HA5.out.fr (st8_fr w5 w4.heap.size v0 v1 v2 v3 v4 v5 v6 v7) (fun p hp => hap4 hl p hp))
              have HP := Lib.hid hap
              have HP4 := Lib.hid hap4
              clear hap hap4
              go_wp2_with fail
              go_meet
              case rel =>
                first
                  | with_reducible exact fin_tka (s := s) _ HF5.out HRB5.out hrne HOK.out HNX.out hbw hrw HBw5.out HA5.out HP.out
                  | with_reducible exact fin_tk (s := s) (HFB.out _ _ _ _ _ _ _ _) (HRB.out _ _ _ _ _ _ _ _) hrne HOK.out HNX.out hbw hrw (HBB.out _ _ _ _ _ _ _ _) (HDB.out _ _ _ _ _ _ _ _) HP.out
            case rest =>
              obtain ⟨wz, hwz⟩ : ∃ wz, wz = wc := ⟨wc, rfl⟩
              subst hwz
              obtain ⟨hT3, hA3⟩ := hcut
              clear g0 g1 g2 g3 g4 g5 g6 g7 r0 r1 r2 r3 r4 r5 r6 r7 ne3 ne4
              try clear i0 i1 i2 i3 i4 i5 i6 i7 t0 t1 t2 t3 t4 t5 t6 t7 y0 y1 y2 y3 y4 y5 y6 y7 ne1 ne2
              have g0 : wz.cell? ⟨bo, oo + k * 8, none⟩ = some (.bool x.byp) := HCELL.out _ hT3.bl 0 (by omega)
              have g1 : wz.cell? ⟨bo, oo + k * 8 + 1, none⟩ = some (.bool x.ctl) := HCELL.out _ hT3.bl 1 (by omega)
              have g2 : wz.cell? ⟨bo, oo + k * 8 + 2, none⟩ = some (.int .i64 x.craft) := HCELL.out _ hT3.bl 2 (by omega)
              have g3 : wz.cell? ⟨bo, oo + k * 8 + 3, none⟩ = some (.int .i64 x.chan) := HCELL.out _ hT3.bl 3 (by omega)
              have g4 : wz.cell? ⟨bo, oo + k * 8 + 4, none⟩ = some (.int .i64 x.seq) := HCELL.out _ hT3.bl 4 (by omega)
              have g5 : wz.cell? ⟨bo, oo + k * 8 + 5, none⟩ = some (.slice ax x.dat.length cl) := HCELL.out _ hT3.bl 5 (by omega)
              have g6 : wz.cell? ⟨bo, oo + k * 8 + 6, none⟩ = some (.bool rm) := HCELL.out _ hT3.bl 6 (by omega)
              have g7 : wz.cell? ⟨bo, oo + k * 8 + 7, none⟩ = some (.bool cp) := HCELL.out _ hT3.bl 7 (by omega)
              have r0 : wz.cell? ⟨rb, 0, none⟩ = some (.int .i64 s1.craft) := hT3.r.at 0 rfl
              have r1 : wz.cell? ⟨rb, 1, none⟩ = some (.int .i64 s1.win) := hT3.r.at 1 rfl
              have r2 : wz.cell? ⟨rb, 2, none⟩ = some (.int .i64 s1.chan) := hT3.r.at 2 rfl
              have r3 : wz.cell? ⟨rb, 3, none⟩ = some (.bool s1.lock) := hT3.r.at 3 rfl
              have r4 : wz.cell? ⟨rb, 4, none⟩ = some (.bool s1.wait) := hT3.r.at 4 rfl
              have r5 : wz.cell? ⟨rb, 5, none⟩ = some (.bool s1.retr) := hT3.r.at 5 rfl
              have r6 : wz.cell? ⟨rb, 6, none⟩ = some (.int .i64 s1.byp) := hT3.r.at 6 rfl
              have r7 : wz.cell? ⟨rb, 7, none⟩ = some (.int .i64 s1.next) := hT3.r.at 7 rfl
              have hbz : bo < wz.drew.heap.size := by have := hT3.bl.size; show bo < wz.heap.size; omega
              have hrz : rb < wz.drew.heap.size := hT3.r.lt
              have HFz : Hid (FAt wz.drew b s1) := hT3.f
              have HAz : Hid (BAt wz.drew a4 l1) := hA3
              have hok1 : 1 ≤ s1.win := hT3.ok.1.1
              have hwa := want_any x v1 ax cl wz.drew (HBAT.out wz.drew hT3.bl.drew)
              unfold TF.val at hwa
              have HW := Lib.hid hwa
              have HWE : Hid ((if v1 = 1 then x.dat else []) = l1) := Lib.hid HTD.out.symm
              have hcv : (convert 27 9 (.slice a4 l1.length c4)).run Try.prog wz.drew = .ok (.string ⟨l1.toArray⟩) wz.drew := (show BAt wz.drew a4 l1 from hA3).str 27 9 5 c4 Try.underlying27 Try.underlying5 Try.underlying9
              have HT3 := Lib.hid hT3
              clear hT3 hA3 hwa
              go_wp2_with fail
              refine wp_region_held_drew (S := (fun w' => w'.cell? ⟨bo, oo + k * 8, none⟩ = some (.bool x.byp) ∧ w'.cell? ⟨bo, oo + k * 8 + 1, none⟩ = some (.bool x.ctl) ∧ w'.cell? ⟨bo, oo + k * 8 + 2, none⟩ = some (.int .i64 x.craft) ∧ w'.cell? ⟨bo, oo + k * 8 + 3, none⟩ = some (.int .i64 x.chan) ∧ w'.cell? ⟨bo, oo + k * 8 + 4, none⟩ = some (.int .i64 x.seq) ∧ w'.cell? ⟨bo, oo + k * 8 + 5, none⟩ = some (.slice ax x.dat.length cl) ∧ w'.cell? ⟨rb, 2, none⟩ = some (.int .i64 s1.chan) ∧ w'.cell? ⟨rb, 3, none⟩ = some (.bool s1.lock) ∧ w'.cell? ⟨rb, 4, none⟩ = some (.bool s1.wait) ∧ w'.cell? ⟨rb, 5, none⟩ = some (.bool s1.retr) ∧ w'.cell? ⟨rb, 6, none⟩ = some (.int .i64 s1.byp) ∧ w'.cell? ⟨rb, 7, none⟩ = some (.int .i64 s1.next) ∧ (convert 27 9 (.slice a4 l1.length c4)).run Try.prog w' = .ok (.string ⟨l1.toArray⟩) w')) (by kernel_rfl) (by (try dsimp only); first | exact ⟨by assumption, by assumption, by assumption, by assumption, by assumption, by assumption, by assumption, by assumption, by assumption, by assumption, by assumption, by assumption, by assumption⟩ | go_keep) (fun hHeld => ?_)
              refine wpAnyH_take (i := 0) (oi := (Oper.mk (some 107) (Op.move (Operand.tmp 11)) 3 "law.go:59" #[] none)) (v := ?_) rfl (by kernel_rfl) (by kernel_rfl) (by kernel_rfl) (fun _ _ _ h => h) (Or.inl ⟨by rfl, ?_⟩) (by assumption) ?_
              rotate_left
              · (intro w hSw; (try dsimp only at hSw); go_simp; first | done | with_reducible rfl)
              (try simp only [Act.put, List.setIfInBounds_toArray, List.set_cons_zero, List.set_cons_succ])
              refine wpAnyH_take (i := 1) (oi := (Oper.mk (some 108) (Op.move (Operand.tmp 13)) 3 "law.go:59" #[] none)) (v := ?_) rfl (by kernel_rfl) (by kernel_rfl) (by kernel_rfl) (fun _ _ _ h => h) (Or.inl ⟨by rfl, ?_⟩) (by assumption) ?_
              rotate_left
              · (intro w hSw; (try dsimp only at hSw); go_simp; first | done | with_reducible rfl)
              (try simp only [Act.put, List.setIfInBounds_toArray, List.set_cons_zero, List.set_cons_succ])
              refine wpAnyH_take (i := 2) (oi := (Oper.mk (some 109) (Op.binOp BinOp.neq 3 (Operand.tmp 107) (Operand.tmp 108) 3) 4 "law.go:59" #[Edge.mk 0 Ground.data, Edge.mk 1 Ground.data] none)) (v := ?_) rfl (by kernel_rfl) (by kernel_rfl) (by kernel_rfl) (fun _ _ _ h => h) (Or.inl ⟨by rfl, ?_⟩) (by assumption) ?_
              rotate_left
              · (intro w hSw; (try dsimp only at hSw); go_simp; first | done | with_reducible rfl)
              (try simp only [Act.put, List.setIfInBounds_toArray, List.set_cons_zero, List.set_cons_succ])
              refine wpAnyH_take (i := 3) (oi := (Oper.mk (some 110) (Op.move (Operand.tmp 109)) 4 "law.go:59" #[Edge.mk 2 Ground.data] none)) (v := ?_) rfl (by kernel_rfl) (by kernel_rfl) (by kernel_rfl) (fun _ _ _ h => h) (Or.inl ⟨by rfl, ?_⟩) (by assumption) ?_
              rotate_left
              · (intro w hSw; (try dsimp only at hSw); go_simp; first | done | with_reducible rfl)
              (try simp only [Act.put, List.setIfInBounds_toArray, List.set_cons_zero, List.set_cons_succ])
              refine wpAnyH_take (i := 4) (oi := (Oper.mk (some 111) (Op.move (Operand.tmp 10)) 27 "law.go:59" #[Edge.mk 3 Ground.guard] (some (3, false)))) (v := ?_) rfl (by kernel_rfl) (by kernel_rfl) (by kernel_rfl) (fun _ _ _ h => h) (Or.inl ⟨by rfl, ?_⟩) (by assumption) ?_
              rotate_left
              · (intro w hSw; (try dsimp only at hSw); go_simp; first | done | with_reducible rfl)
              (try simp only [Act.put, List.setIfInBounds_toArray, List.set_cons_zero, List.set_cons_succ])
              refine wpAnyH_take (i := 5) (oi := (Oper.mk (some 112) (Op.convert 27 9 (Operand.tmp 111)) 9 "law.go:59" #[Edge.mk 4 Ground.data, Edge.mk 3 Ground.guard] (some (3, false)))) (v := ?_) rfl (by kernel_rfl) (by kernel_rfl) (by kernel_rfl) (fun _ _ _ h => h) (Or.inl ⟨by rfl, ?_⟩) (by assumption) ?_
              rotate_left
              · (intro w hSw; (try dsimp only at hSw); go_simp; first | done | with_reducible rfl)
              (try simp only [Act.put, List.setIfInBounds_toArray, List.set_cons_zero, List.set_cons_succ])
              refine wpAnyH_take (i := 6) (oi := (Oper.mk (some 113) (Op.move (Operand.tmp 1)) 41 "law.go:59" #[Edge.mk 3 Ground.guard] (some (3, false)))) (v := ?_) rfl (by kernel_rfl) (by kernel_rfl) (by kernel_rfl) (fun _ _ _ h => h) (Or.inl ⟨by rfl, ?_⟩) (by assumption) ?_
              rotate_left
              · (intro w hSw; (try dsimp only at hSw); go_simp; first | done | with_reducible rfl)
              (try simp only [Act.put, List.setIfInBounds_toArray, List.set_cons_zero, List.set_cons_succ])
              refine wpAnyH_take (i := 7) (oi := (Oper.mk (some 114) (Op.move (Operand.tmp 9)) 3 "law.go:59" #[Edge.mk 3 Ground.guard] (some (3, false)))) (v := ?_) rfl (by kernel_rfl) (by kernel_rfl) (by kernel_rfl) (fun _ _ _ h => h) (Or.inl ⟨by rfl, ?_⟩) (by assumption) ?_
              rotate_left
              · (intro w hSw; (try dsimp only at hSw); go_simp; first | done | with_reducible rfl)
              (try simp only [Act.put, List.setIfInBounds_toArray, List.set_cons_zero, List.set_cons_succ])
              refine wpAnyH_take (i := 8) (oi := (Oper.mk (some 115) (Op.indexAddr 41 (Operand.tmp 113) (Operand.tmp 114)) 0 "law.go:59" #[Edge.mk 6 Ground.data, Edge.mk 7 Ground.data, Edge.mk 3 Ground.guard] (some (3, false)))) (v := ?_) rfl (by kernel_rfl) (by kernel_rfl) (by kernel_rfl) (fun _ _ _ h => h) (Or.inl ⟨by rfl, ?_⟩) (by assumption) ?_
              rotate_left
              · (intro w hSw; (try dsimp only at hSw); go_simp; first | done | with_reducible rfl)
              (try simp only [Act.put, List.setIfInBounds_toArray, List.set_cons_zero, List.set_cons_succ])
              refine wpAnyH_take (i := 9) (oi := (Oper.mk (some 116) (Op.fieldAddr 47 (Operand.tmp 115) 0) 0 "law.go:59" #[Edge.mk 8 Ground.data, Edge.mk 3 Ground.guard] (some (3, false)))) (v := ?_) rfl (by kernel_rfl) (by kernel_rfl) (by kernel_rfl) (fun _ _ _ h => h) (Or.inl ⟨by rfl, ?_⟩) (by assumption) ?_
              rotate_left
              · (intro w hSw; (try dsimp only at hSw); go_simp; first | done | with_reducible rfl)
              (try simp only [Act.put, List.setIfInBounds_toArray, List.set_cons_zero, List.set_cons_succ])
              refine wpAnyH_take (i := 10) (oi := (Oper.mk (some 117) (Op.load 31 (Operand.tmp 116)) 31 "law.go:59" #[Edge.mk 9 Ground.data, Edge.mk 3 Ground.guard] (some (3, false)))) (v := ?_) rfl (by kernel_rfl) (by kernel_rfl) (by kernel_rfl) (fun _ _ _ h => h) (Or.inl ⟨by rfl, ?_⟩) (by assumption) ?_
              rotate_left
              · (intro w hSw; (try dsimp only at hSw); go_simp; first | done | with_reducible rfl)
              (try simp only [Act.put, List.setIfInBounds_toArray, List.set_cons_zero, List.set_cons_succ])
              refine wpAnyH_take (i := 11) (oi := (Oper.mk (some 118) (Op.move (Operand.tmp 13)) 3 "law.go:59" #[Edge.mk 3 Ground.guard] (some (3, false)))) (v := ?_) rfl (by kernel_rfl) (by kernel_rfl) (by kernel_rfl) (fun _ _ _ h => h) (Or.inl ⟨by rfl, ?_⟩) (by assumption) ?_
              rotate_left
              · (intro w hSw; (try dsimp only at hSw); go_simp; first | done | with_reducible rfl)
              (try simp only [Act.put, List.setIfInBounds_toArray, List.set_cons_zero, List.set_cons_succ])
              refine wpAnyH_ready (rs := [12]) (by kernel_rfl) (by simp) ?_
              refine AllReadyH.cons (o := (Oper.mk (some 119) (Op.call (Call.mk (Callee.value (Operand.func 16)) #[Operand.tmp 117, Operand.tmp 118] #[31, 3])) 9 "law.go:59" #[Edge.mk 10 Ground.data, Edge.mk 11 Ground.data, Edge.mk 3 Ground.chain, Edge.mk 3 Ground.guard] (some (3, false)))) rfl (fun K hK => ?_) (AllReadyH.nil)
              go_simp
              (go_at_call 16; refine (HW.out).mono ?_; rintro e w6 ⟨rfl, hw6⟩; have hB6 : Below wz.drew.heap.size wz.drew w6 := (by rw [hw6]; exact al (Below.refl _ _) _); clear hw6; have HB6 := Lib.hid hB6; have m0 := (hB6.cell (p := ⟨bo, oo + k * 8, none⟩) hbz).trans g0; have m1 := (hB6.cell (p := ⟨bo, oo + k * 8 + 1, none⟩) hbz).trans g1; have m2 := (hB6.cell (p := ⟨bo, oo + k * 8 + 2, none⟩) hbz).trans g2; have m3 := (hB6.cell (p := ⟨bo, oo + k * 8 + 3, none⟩) hbz).trans g3; have m4 := (hB6.cell (p := ⟨bo, oo + k * 8 + 4, none⟩) hbz).trans g4; have m5 := (hB6.cell (p := ⟨bo, oo + k * 8 + 5, none⟩) hbz).trans g5; have n2 := (hB6.cell (p := ⟨rb, 2, none⟩) hrz).trans r2; have n3 := (hB6.cell (p := ⟨rb, 3, none⟩) hrz).trans r3; have n4 := (hB6.cell (p := ⟨rb, 4, none⟩) hrz).trans r4; have n5 := (hB6.cell (p := ⟨rb, 5, none⟩) hrz).trans r5; have n6 := (hB6.cell (p := ⟨rb, 6, none⟩) hrz).trans r6; have n7 := (hB6.cell (p := ⟨rb, 7, none⟩) hrz).trans r7; have cv6 := (HAz.out.below hB6 (Nat.le_refl _)).str 27 9 5 c4 Try.underlying27 Try.underlying5 Try.underlying9; rw [HWE.out]; clear hB6)
              refine hK.out _ _ (by (try dsimp only); first | exact ⟨by assumption, by assumption, by assumption, by assumption, by assumption, by assumption, by assumption, by assumption, by assumption, by assumption, by assumption, by assumption, by assumption⟩ | go_keep) (fun hHeld => ?_)
              clear hK K
              (try simp only [Act.put, List.setIfInBounds_toArray, List.set_cons_zero, List.set_cons_succ])
              refine wpAnyH_take (i := 13) (oi := (Oper.mk (some 120) (Op.binOp BinOp.neq 9 (Operand.tmp 112) (Operand.tmp 119) 9) 4 "law.go:59" #[Edge.mk 5 Ground.data, Edge.mk 12 Ground.data, Edge.mk 3 Ground.guard] (some (3, false)))) (v := ?_) rfl (by kernel_rfl) (by kernel_rfl) (by kernel_rfl) (fun _ _ _ h => h) (Or.inl ⟨by rfl, ?_⟩) (by assumption) ?_
              rotate_left
              · (intro w hSw; (try dsimp only at hSw); go_simp; first | done | with_reducible rfl)
              (try simp only [Act.put, List.setIfInBounds_toArray, List.set_cons_zero, List.set_cons_succ])
              refine wpAnyH_take (i := 14) (oi := (Oper.mk (some 121) (Op.pick (Operand.tmp 110) (Operand.const (Value.bool true)) (Operand.tmp 120)) 4 "law.go:59" #[Edge.mk 3 Ground.data, Edge.mk 13 Ground.data] none)) (v := ?_) rfl (by kernel_rfl) (by kernel_rfl) (by kernel_rfl) (fun _ _ _ h => h) (Or.inl ⟨by rfl, ?_⟩) (by assumption) ?_
              rotate_left
              · (intro w hSw; (try dsimp only at hSw); go_simp; first | done | with_reducible rfl)
              (try simp only [Act.put, List.setIfInBounds_toArray, List.set_cons_zero, List.set_cons_succ])
              refine wpAnyH_take (i := 15) (oi := (Oper.mk (some 122) (Op.move (Operand.tmp 121)) 4 "law.go:59" #[Edge.mk 14 Ground.data, Edge.mk 12 Ground.chain] none)) (v := ?_) rfl (by kernel_rfl) (by kernel_rfl) (by kernel_rfl) (fun _ _ _ h => h) (Or.inl ⟨by rfl, ?_⟩) (by assumption) ?_
              rotate_left
              · (intro w hSw; (try dsimp only at hSw); go_simp; first | done | with_reducible rfl)
              (try simp only [Act.put, List.setIfInBounds_toArray, List.set_cons_zero, List.set_cons_succ])
              refine wpAnyH_take (i := 16) (oi := (Oper.mk (some 123) (Op.move (Operand.tmp 5)) 25 "law.go:59" #[Edge.mk 15 Ground.guard] (some (15, false)))) (v := ?_) rfl (by kernel_rfl) (by kernel_rfl) (by kernel_rfl) (fun _ _ _ h => h) (Or.inl ⟨by rfl, ?_⟩) (by assumption) ?_
              rotate_left
              · (intro w hSw; (try dsimp only at hSw); go_simp; first | done | with_reducible rfl)
              (try simp only [Act.put, List.setIfInBounds_toArray, List.set_cons_zero, List.set_cons_succ])
              refine wpAnyH_take (i := 18) (oi := (Oper.mk (some 125) (Op.fieldAddr 44 (Operand.tmp 8) 2) 0 "law.go:59" #[Edge.mk 15 Ground.guard] (some (15, false)))) (v := ?_) rfl (by kernel_rfl) (by kernel_rfl) (by kernel_rfl) (fun _ _ _ h => h) (Or.inl ⟨by rfl, ?_⟩) (by assumption) ?_
              rotate_left
              · (intro w hSw; (try dsimp only at hSw); go_simp; first | done | with_reducible rfl)
              (try simp only [Act.put, List.setIfInBounds_toArray, List.set_cons_zero, List.set_cons_succ])
              refine wpAnyH_take (i := 19) (oi := (Oper.mk (some 126) (Op.load 34 (Operand.tmp 125)) 34 "law.go:59" #[Edge.mk 18 Ground.data, Edge.mk 15 Ground.guard] (some (15, false)))) (v := ?_) rfl (by kernel_rfl) (by kernel_rfl) (by kernel_rfl) (fun _ _ _ h => h) (Or.inl ⟨by rfl, ?_⟩) (by assumption) ?_
              rotate_left
              · (intro w hSw; (try dsimp only at hSw); go_simp; first | done | with_reducible rfl)
              (try simp only [Act.put, List.setIfInBounds_toArray, List.set_cons_zero, List.set_cons_succ])
              refine wpAnyH_ready (rs := [17]) (by kernel_rfl) (by simp) ?_
              refine AllReadyH.cons (o := (Oper.mk (some 124) (Op.call (Call.mk (Callee.value (Operand.func 11)) #[Operand.tmp 123] #[25])) 34 "law.go:59" #[Edge.mk 16 Ground.data, Edge.mk 15 Ground.chain, Edge.mk 15 Ground.guard] (some (15, false)))) rfl (fun K hK => ?_) (AllReadyH.nil)
              go_simp
              (go_at_call 11; refine (report_any _ _ _ (HFz.out.below HB6.out (Nat.le_refl _)) (by exact hok1)).mono ?_; rintro e w7 ⟨rfl, hB7⟩; have HB7 := Lib.hid (HB6.out.trans (hB7.mono HB6.out.size)); have p0 := (HB7.out.cell (p := ⟨bo, oo + k * 8, none⟩) hbz).trans g0; have p1 := (HB7.out.cell (p := ⟨bo, oo + k * 8 + 1, none⟩) hbz).trans g1; have p2 := (HB7.out.cell (p := ⟨bo, oo + k * 8 + 2, none⟩) hbz).trans g2; have p3 := (HB7.out.cell (p := ⟨bo, oo + k * 8 + 3, none⟩) hbz).trans g3; have p4 := (HB7.out.cell (p := ⟨bo, oo + k * 8 + 4, none⟩) hbz).trans g4; have p5 := (HB7.out.cell (p := ⟨bo, oo + k * 8 + 5, none⟩) hbz).trans g5; have q2 := (HB7.out.cell (p := ⟨rb, 2, none⟩) hrz).trans r2; have q3 := (HB7.out.cell (p := ⟨rb, 3, none⟩) hrz).trans r3; have q4 := (HB7.out.cell (p := ⟨rb, 4, none⟩) hrz).trans r4; have q5 := (HB7.out.cell (p := ⟨rb, 5, none⟩) hrz).trans r5; have q6 := (HB7.out.cell (p := ⟨rb, 6, none⟩) hrz).trans r6; have q7 := (HB7.out.cell (p := ⟨rb, 7, none⟩) hrz).trans r7; have cv7 := (HAz.out.below HB7.out (Nat.le_refl _)).str 27 9 5 c4 Try.underlying27 Try.underlying5 Try.underlying9; unfold FS.word; clear hB7)
              refine hK.out _ _ (by (try dsimp only); first | exact ⟨by assumption, by assumption, by assumption, by assumption, by assumption, by assumption, by assumption, by assumption, by assumption, by assumption, by assumption, by assumption, by assumption⟩ | go_keep) (fun hHeld => ?_)
              clear hK K
              (try simp only [Act.put, List.setIfInBounds_toArray, List.set_cons_zero, List.set_cons_succ])
              refine wpAnyH_take (i := 20) (oi := (Oper.mk (some 127) (Op.binOp BinOp.neq 34 (Operand.tmp 124) (Operand.tmp 126) 34) 4 "law.go:59" #[Edge.mk 17 Ground.data, Edge.mk 19 Ground.data, Edge.mk 15 Ground.guard] (some (15, false)))) (v := ?_) rfl (by kernel_rfl) (by kernel_rfl) (by kernel_rfl) (fun _ _ _ h => h) (Or.inl ⟨by rfl, ?_⟩) (by assumption) ?_
              rotate_left
              · (intro w hSw; (try dsimp only at hSw); go_simp; first | done | with_reducible rfl)
              (try simp only [Act.put, List.setIfInBounds_toArray, List.set_cons_zero, List.set_cons_succ])
              refine wpAnyH_take (i := 21) (oi := (Oper.mk (some 128) (Op.pick (Operand.tmp 122) (Operand.const (Value.bool true)) (Operand.tmp 127)) 4 "law.go:59" #[Edge.mk 15 Ground.data, Edge.mk 20 Ground.data] none)) (v := ?_) rfl (by kernel_rfl) (by kernel_rfl) (by kernel_rfl) (fun _ _ _ h => h) (Or.inl ⟨by rfl, ?_⟩) (by assumption) ?_
              rotate_left
              · (intro w hSw; (try dsimp only at hSw); go_simp; first | done | with_reducible rfl)
              (try simp only [Act.put, List.setIfInBounds_toArray, List.set_cons_zero, List.set_cons_succ])
              refine wpAnyH_done (by kernel_rfl) ?_ _
              have HT7 := Lib.hid (HT3.out.below (undrew HB7.out))
              have x7 := (HB7.out.cell (p := ⟨bo, oo + k * 8 + 7, none⟩) hbz).trans g7
              have hs7 := HT7.out.bl.size
              cases cp
              · go_wp2_with fail
                go_roundw
                case rel => exact ⟨k + 1, b, s1, HLT.out, rfl, by go_num, HT7.out⟩
                case measure => simp [intOf]; have := HLT.out; omega
              · go_wp2_with fail
                refine (clone_any b s1 _ HT7.out.f hok1).mono ?_
                rintro e w8 ⟨rfl, hF8, hB8⟩
                have HF8 := Lib.hid hF8
                have HT8 := Lib.hid (HT7.out.below hB8)
                have hb78 := HT7.out.f.lt
                have hB8w := HT8.out.bl
                have j0 : w8.cell? ⟨bo, oo + k * 8, none⟩ = some (.bool x.byp) := HCELL.out _ hB8w 0 (by omega)
                have j1 : w8.cell? ⟨bo, oo + k * 8 + 1, none⟩ = some (.bool x.ctl) := HCELL.out _ hB8w 1 (by omega)
                have j2 : w8.cell? ⟨bo, oo + k * 8 + 2, none⟩ = some (.int .i64 x.craft) := HCELL.out _ hB8w 2 (by omega)
                have j3 : w8.cell? ⟨bo, oo + k * 8 + 3, none⟩ = some (.int .i64 x.chan) := HCELL.out _ hB8w 3 (by omega)
                have j4 : w8.cell? ⟨bo, oo + k * 8 + 4, none⟩ = some (.int .i64 x.seq) := HCELL.out _ hB8w 4 (by omega)
                have j5 : w8.cell? ⟨bo, oo + k * 8 + 5, none⟩ = some (.slice ax x.dat.length cl) := HCELL.out _ hB8w 5 (by omega)
                have j6 : w8.cell? ⟨bo, oo + k * 8 + 6, none⟩ = some (.bool rm) := HCELL.out _ hB8w 6 (by omega)
                have j7 : w8.cell? ⟨bo, oo + k * 8 + 7, none⟩ = some (.bool true) := HCELL.out _ hB8w 7 (by omega)
                have HBA8 := Lib.hid (HBAT.out w8 hB8w)
                have ht8 := take_any2 b s1 x true ax cl w8 HT8.out.f HT8.out.ok HBA8.out hcl (fun hne p hp e => by have := HBL.out p hp hne; omega)
                unfold TF.val at ht8
                have HTA := Lib.hid ht8
                have hw78 := hB8.size
                clear hF8 hB8 hB8w ht8
                go_wp2_with fail
                refine (HTA.out).mono ?_
                rintro e w9 ⟨a9, c9, rfl, -, -, hFr9⟩
                have HFR9 := Lib.hid hFr9
                clear hFr9
                go_wp2_with fail
                go_roundw
                case rel => exact ⟨k + 1, w7.heap.size, s1, HLT.out, rfl, by go_num, ⟨HF8.out.fr HFR9.out (by omega), HT8.out.r.fr HFR9.out hrne, HT8.out.ok, HT8.out.nx, hs7, HT8.out.hr, HT8.out.bl.trans (HFR9.out.toBelow HT8.out.bl.size (fun k hk => by subst hk; exact hbw))⟩⟩
                case measure => simp [intOf]; have := HLT.out; omega
        · have hlt' : ¬ (k : Int) < (ops.length : Int) := by omega
          go_wp2_with fail
          refine (alive_any _).mono ?_
          rintro e w4 ⟨rfl, hB⟩
          have HB4 := Lib.hid (HT0.out.bl.trans (hB.mono hsr))
          clear hB
          go_wp2_with fail
          go_ret
          exact ⟨rfl, HB4.out⟩
    · have hn' : (100 : Int) < ops.length := by omega
      go_enter Try.func6, Try.ntmps6
      go_wp2_with fail
      refine (new_ok c ch win _ HR.out).mono ?_
      rintro e w1 ⟨rfl, hF, hB⟩
      have HB1 := Lib.hid ((al (Below.refl _ w) (.cells #[.int .i64 c, .int .i64 ch, .int .i64 win] 40)).trans (hB.mono (by simp)))
      have hs1 := HB1.out.size
      have hb0 : Blk w1 w.heap.size 40 [.int .i64 c, .int .i64 ch, .int .i64 win] := (Blk.new w 40 _).below hB (Nat.le_refl _)
      obtain ⟨c0, c1, c2⟩ : w1.cell? ⟨w.heap.size, 0, none⟩ = some (.int .i64 c) ∧ w1.cell? ⟨w.heap.size, 1, none⟩ = some (.int .i64 ch) ∧ w1.cell? ⟨w.heap.size, 2, none⟩ = some (.int .i64 win) := ⟨hb0.at 0 rfl, hb0.at 1 rfl, hb0.at 2 rfl⟩
      have hl0 := hb0.lt
      clear hF hB hb0
      go_wp2_with fail
      refine (right_any c ch _).mono ?_
      rintro e w' ⟨rfl, rfl⟩
      rw [HRT.out]
      go_wp2_with fail
      refine (alive_any _).mono ?_
      rintro e w4 ⟨rfl, hB⟩
      have HB4 := Lib.hid (HB1.out.trans (hB.mono hs1))
      clear hB
      go_wp2_with fail
      go_ret
      exact ⟨rfl, HB4.out⟩
  · have HRT : Hid (rightB c ch = false) := Lib.hid (by unfold rightB; cases h : (decide (0 ≤ c) && decide (c ≤ 1023) && decide (0 ≤ ch) && decide (ch ≤ 7)); rfl; simp only [Bool.and_eq_true, decide_eq_true_eq] at h; omega)
    have HR := Lib.hid hr
    clear hr
    go_enter Try.func6, Try.ntmps6
    go_wp2_with fail
    refine (new_bad c ch win _ HR.out).mono ?_
    rintro e w1 ⟨rfl, rfl⟩
    go_wp2_with fail
    refine (right_any c ch _).mono ?_
    rintro e w' ⟨rfl, rfl⟩
    rw [HRT.out]
    go_wp2_with fail
    have ht := take_nil ⟨false, false, 0, 0, 0, []⟩ true none 0 (w.alloc (.cells #[.int .i64 c, .int .i64 ch, .int .i64 win] 40))
    unfold TF.val at ht
    simp only [List.length_nil] at ht
    refine ht.mono ?_
    rintro e w2 ⟨rfl, hB⟩
    have HB2 := Lib.hid ((al (Below.refl _ w) _).trans (hB.mono (by simp)))
    have hs2 := HB2.out.size
    clear ht hB
    go_wp2_with fail
    refine (report_nil _).mono ?_
    rintro e w3 ⟨rfl, hB⟩
    have HB3 := Lib.hid (HB2.out.trans (hB.mono hs2))
    have hs3 := HB3.out.size
    clear hB
    unfold FS.word
    simp only
    go_wp2_with fail
    refine (clone_nil _).mono ?_
    rintro e w' ⟨rfl, rfl⟩
    go_wp2_with fail
    refine (alive_any _).mono ?_
    rintro e w4 ⟨rfl, hB⟩
    have HB4 := Lib.hid (HB3.out.trans (hB.mono hs3))
    clear hB
    go_wp2_with fail
    go_ret
    exact ⟨rfl, HB4.out⟩


set_option maxRecDepth 100000 in
theorem lifted (os : Os) (started : os.Started) (H : Type) (enc : TypeId × Value → H) :
    ReturnsInHanded {} Try.checked os 6 .any (Rows.farmTakesSpec.pre6 enc Try.prog Try.f6 Rows.farmTakesRow.domain false) (Rows.farmTakesSpec.post enc Try.prog Try.f6 false true false false) := by
  refine returnsInHanded_of_change (C := Try.checked) own started (by kernel_rfl) Try.func6
    (ChangeSpec.witness6 (enc := enc) (C := Try.checked) false ⟨#[], #[.agg #[.int .i64 0, .int .i64 0, .int .i64 0], .slice none 0 0], []⟩ 8 (by kernel_rfl) (by kernel_rfl) (by kernel_rfl) (by kernel_rfl)) ?_
  intro W base args ds gs before hval0 hW hcnd _
  have hval : ∀ (j : Nat) t v, Try.f6.params[j]? = some t → args[j]? = some v → Value.okWide Try.prog W .any base t v := hval0
  have hW' := hW
  obtain ⟨p, q, hA0, hV, rfl, hfz, hnd⟩ := hW
  have hA : DataW.TrodAll enc Try.prog W 0 (fun _ => true) true Try.f6.params.toList args.toList ds p := hA0
  rw [Try.params6] at hA hval
  obtain ⟨v0, vs0, d0, ds0, p0, q0, hargs, rfl, rfl, h0, r0⟩ := trodAll_cons hA
  obtain ⟨v1, vs1, d1, ds1, p1, q1, rfl, rfl, rfl, h1, r1⟩ := trodAll_cons r0
  obtain ⟨rfl, rfl, rfl⟩ := trodAll_nil r1
  obtain rfl : args = #[v0, v1] := by cases args; simp_all
  obtain ⟨rfl, rfl⟩ := trodVars_none hV
  have k0 := h0
  have lt0 : ∀ x ∈ p0, x.block < W.heap.size := by obtain ⟨m, hm⟩ := k0; exact DataW.trod_lt m _ _ _ hm
  have k1 := h1
  have lt1 : ∀ x ∈ p1, x.block < W.heap.size := by obtain ⟨m, hm⟩ := k1; exact DataW.trod_lt m _ _ _ hm
  clear hA0 hval0
  refine (walk v0 v1 W (hval 0 40 v0 rfl rfl) k0 (hval 1 41 v1 rfl rfl) k1).mono fun e W' ⟨he, bel⟩ => ?_
  subst he
  exact ⟨_, rfl, _, _, _, [], _, [], hW', trodAll_mk1 (shut_bool Try.underlying4 _), (trodAll_cons_mk (Below.trod laidOut (by kernel_rfl) (of_decide_eq_true (by kernel_rfl)) k0 bel lt0) (trodAll_cons_mk (Below.trod laidOut (by kernel_rfl) (of_decide_eq_true (by kernel_rfl)) k1 bel lt1) trodAll_mk0)), rfl, bel.frame _, fun h => by cases h⟩

theorem over : Rows.farmTakesRow.holds Try.pinned (OpenSpec.ofChange Rows.farmTakesSpec) :=
  OpenClaim.holds_of_wide 6 Try.f6 rfl rfl rfl rfl rfl rfl rfl ⟨rfl, rfl, rfl, rfl, rfl⟩ rfl rfl rfl rfl rfl (by kernel_rfl) Try.func6 (by kernel_rfl)
    (of_decide_eq_true (by kernel_rfl)) (by unfold Func.isWrapper; first | (rw [if_pos (by decide +kernel)]; kernel_rfl) | (rw [if_neg (by decide +kernel)]; exact ⟨rfl, rfl⟩))
    (fun os started H enc _ => lifted os started H enc)

theorem proved : Rows.FarmTakesSaid := over
#print axioms proved
end Go.Proofs.Ytgdmonckfjnlfaa.farmTakes

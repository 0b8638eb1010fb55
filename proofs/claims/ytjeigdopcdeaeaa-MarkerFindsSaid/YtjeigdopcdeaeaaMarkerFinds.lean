/- The law MarkerFinds holds: the walk, then the lift to the given statement. No condition. -/
import Derived.Test.YtjeigdopcdeaeaaH
import Derived.WalkKit
import Derived.ProofKit
import Derived.OpenShut
import Derived.Lib.Hide
import Derived.ChangeOld
import Derived.Below
import Derived.SizedLaws
namespace Go.Proofs.Ytjeigdopcdeaeaa.markerFinds
open Go.ChangeShapes Go.WideShapes Go.ChangeAt Go.RowKit
set_option linter.unusedVariables false
theorem own : ownKnob Try.prog.godebug = none := by kernel_rfl
theorem laidOut : laidOutB Try.prog = true := by kernel_rfl

theorem two_own (x : UInt8) (w : World) (H : Nat) (hH : w.heap.size = H) (B : Nat) (hB : B ≤ H) : (w.alloc (.cells #[.int .u8 (x.toNat : Int), .int .u8 (x.toNat : Int)] 5)).ownsRow B 5 1 (.slice (some ⟨H, 0, none⟩) 2 2) 2 (encB [x, x]) := by
  subst hH
  exact ⟨by simp [encB], .inr ⟨w.heap.size, 2, _, rfl, hB, heap_alloc_new w _, Nat.le_refl _, by unfold maxLen; omega, by simp, by simp [encB]⟩⟩
/-- between two rounds -/
def Mid (w : World) (sz cnt : Nat) (wr : World) : Prop := ∃ v, FinAt wr w.heap.size sz (3 * cnt) v [] ∧ (∀ j, v.ownBlock = some j → w.heap.size ≤ j) ∧ Below w.heap.size w wr
theorem Mid.drew {w wr : World} {sz cnt : Nat} (h : Mid w sz cnt wr) : Mid w sz cnt wr.drew := by
  obtain ⟨v, h1, h2, h3⟩ := h
  exact ⟨v, ⟨h1.blk.drew, own_same h1.own (fun _ _ => rfl), h1.ne⟩, h2, h3.drew⟩
set_option maxRecDepth 20000 in
set_option maxHeartbeats 2000000 in
theorem walk {H : Type} {enc : TypeId × Value → H} (a0 : Int) (v1 : Value) (a2 : Int) (w : World) (w0 : (Lit.int .i64 a0).wf = true) {b1 : Nat} {d1 : DataW H} {p1 : List MemPlace} (ok1 : Value.okWide Try.prog w .any b1 26 v1) (tr1 : DataW.Trod enc Try.prog w 0 (fun _ => true) true 26 v1 d1 p1)
    (w2 : (Lit.int .u8 a2).wf = true) : Calls Try.prog 4 #[.int .i64 a0, v1, .int .u8 a2] w fun e w' => e = .returned (.bool true) ∧ Below w.heap.size w w' := by
  obtain ⟨L, hS⟩ := arg_lists Try.underlying26 (by kernel_rfl) Try.underlying22 Try.underlying5 (by kernel_rfl) ok1 tr1
  obtain ⟨x, rfl⟩ := wf_u8 w2
  have HS := Lib.hid hS
  have hx := x.toNat_lt
  clear w0 ok1 tr1 w2 hS
  cases hr : rightB a0
  · have HR := Lib.hid hr
    clear hr
    go_enter Try.func4, Try.ntmps4
    go_wp2_with fail
    refine (right_any a0 _).mono ?_
    rintro e w9 ⟨rfl, rfl⟩
    rw [HR.out]
    go_wp2_with fail
    refine (alive_any _).mono ?_
    rintro e w9 ⟨rfl, hB⟩
    go_wp2_with fail
    go_ret
    exact ⟨rfl, hB⟩
  · have HR := Lib.hid hr
    have hr2 : 1 ≤ a0 ∧ a0 ≤ 1024 := by simpa [rightB] using hr
    obtain ⟨sz, rfl⟩ : ∃ sz : Nat, a0 = (sz : Int) := ⟨a0.toNat, by omega⟩
    have hz1 : 1 ≤ sz := by omega
    have hz2 : sz ≤ 1024 := by omega
    clear hr hr2
    cases hf : fewB L
    · have HF := Lib.hid hf
      clear hf
      go_enter Try.func4, Try.ntmps4
      go_wp2_with fail
      refine (right_any _ _).mono ?_
      rintro e w9 ⟨rfl, rfl⟩
      rw [HR.out]
      go_wp2_with fail
      refine (few_any _ _ L _ HS.out).mono ?_
      rintro e w9 ⟨rfl, rfl⟩
      rw [HF.out]
      go_wp2_with fail
      refine (alive_any _).mono ?_
      rintro e w9 ⟨rfl, hB⟩
      go_wp2_with fail
      go_ret
      exact ⟨rfl, hB⟩
    · have HF := Lib.hid hf
      obtain ⟨hLn, hLs⟩ := few_sizes L hf
      have HLS := Lib.hid hLs
      clear hf hLs
      by_cases hx26 : x = 26
      · have e26 : ((x.toNat : Int) == 26) = true := by rw [hx26]; rfl
        clear hx26
        go_enter Try.func4, Try.ntmps4
        go_wp2_with fail
        refine (right_any _ _).mono ?_
        rintro e w9 ⟨rfl, rfl⟩
        rw [HR.out]
        go_wp2_with fail
        refine (few_any _ _ L _ HS.out).mono ?_
        rintro e w9 ⟨rfl, rfl⟩
        rw [HF.out]
        go_wp2_with fail
        refine (alive_any _).mono ?_
        rintro e w9 ⟨rfl, hB⟩
        go_wp2_with fail
        go_ret
        exact ⟨rfl, hB⟩
      · have e26 : ((x.toNat : Int) == 26) = false := by
          rw [beq_eq_false_iff_ne]; intro h; exact hx26 (UInt8.toNat_inj.1 (by simpa using Int.ofNat.inj h))
        have HX := Lib.hid hx26
        clear hx26
        obtain ⟨j0, hj, hy0, hy1, hy2⟩ := info_parts info5
        have HJ := Lib.hid hj
        clear hj
        obtain ⟨av, capv, rfl, hcv, hmv⟩ := HS.out.len
        go_enter Try.func4, Try.ntmps4
        go_wp2_with fail
        refine (right_any _ _).mono ?_
        rintro e w9 ⟨rfl, hw9⟩
        obtain rfl := hw9.symm
        rw [HR.out]
        go_wp2_with fail
        refine (few_any _ _ L _ HS.out).mono ?_
        rintro e w9 ⟨rfl, hw9⟩
        obtain rfl := hw9.symm
        rw [HF.out]
        go_wp2_with fail
        refine (new_ok sz _ hz1 hz2).mono ?_
        rintro e w1 ⟨rfl, hF, hB⟩
        have HM0 : Hid (Mid w sz 0 w1) := Lib.hid ⟨_, hF, by simp [Value.ownBlock], hB⟩
        clear hF hB
        go_wp2_with fail
        go_loopw [8, 9] (fun n i wr => ∃ k cnt : Nat, k ≤ L.length ∧ i = .int .i64 k ∧ n = .int .i64 ((3 * cnt : Nat) : Int) ∧ cnt ≤ k ∧ Mid w sz cnt wr) (fun _ i _ => L.length - (intOf i).toNat)
        case atStart => exact ⟨0, 0, by omega, rfl, rfl, by omega, HM0.out⟩
        case round =>
          obtain ⟨k, cnt, hk, rfl, rfl, hck, hM⟩ := hrel
          have HM := Lib.hid hM
          clear hM
          by_cases hlt : k < L.length
          · obtain ⟨b, off, cp, ae, ce, e, -, -, hb, hcell, hce, hcm, hA, -⟩ := HS.out.get hlt
            simp only [Value.slice.injEq, true_and] at e
            obtain ⟨rfl, rfl⟩ := e
            have hfs := HLS.out k hlt
            obtain ⟨fr, hfr⟩ : ∃ fr, fr = L[k] := ⟨_, rfl⟩
            rw [← hfr] at hcell hce hA hfs
            obtain ⟨v, hF, hvn, hB⟩ := HM.out
            have HA := Lib.hid hA
            have HB := Lib.hid hB
            have c0 : wr.cell? ⟨b, off + k, none⟩ = some (.slice ae fr.length ce) := (hB.cell (p := ⟨b, off + k, none⟩) hb).trans hcell
            have HC := Lib.hid hcell
            have HFI := Lib.hid hF
            have HVN := Lib.hid hvn
            have g1 : (0 : Int) ≤ (k : Int) := by omega
            have g2 : (k : Int) < (L.length : Int) := by omega
            have g3 : (L.length : Int) ≤ 3000 := by omega
            clear hcell hA hF hvn hB hfr
            by_cases hsz : fr.length = sz
            · have e1 : ((fr.length : Int) != (sz : Int)) = false := by rw [hsz]; simp
              have HSZ := Lib.hid hsz
              clear hsz
              have HAr : Hid (BAt wr ae fr) := Lib.hid (HA.out.below HB.out (Nat.le_refl _))
              have hsr := HB.out.size
              have c0' : ∀ o, (wr.alloc o).cell? ⟨b, off + k, none⟩ = some (.slice ae fr.length ce) := fun o => ((al (Below.refl _ wr) o).cell (p := ⟨b, off + k, none⟩) (Nat.lt_of_lt_of_le hb hsr)).trans c0
              go_wp2_with fail
              refine (wrap_any ae ce fr _ (by omega) (HAr.out.below (al (Below.refl _ _) _) (Nat.le_refl _))).mono ?_
              rintro e w3 ⟨v3, rfl, hO3, hB3⟩
              obtain ⟨-, a3, c3, rfl, -, -, hA3⟩ := BAt.of_row hO3
              have HV3 := Lib.hid hA3.vat
              have hwl : (wrapB fr).length ≤ 4000 := by rw [wrapB, List.length_append, appB_length]; simp [mk]; omega
              have H2 := Lib.hid (own_below (two_own x wr wr.heap.size rfl wr.heap.size (Nat.le_refl _)) hB3 (Nat.le_refl _))
              have HB3 : Hid (Below wr.heap.size wr w3) := Lib.hid ((al (Below.refl _ _) _).trans (hB3.mono (by simp)))
              have hs3 := HB3.out.size
              clear hO3 hB3 hA3 c0'
              go_wp2_with (at_builtin; refine wpList_append_src _ rfl (.tmp 42) (.tmp 47) 22 rfl wr.heap.size 5 j0 (.int .u8 0) 1 Try.underlying22 HJ.out hy0 hy1 hy2 rfl _ 2 (encB [x, x]) rfl H2.out a3 (wrapB fr).length c3 (encB (wrapB fr)) rfl (by simp [encB]) HV3.out (encB_one _) (by unfold maxLen; omega) (by omega) hs3 ?_)
              intro v4 w4 hown4 hgrow4 hblk4
              have HO4 : Hid (w4.ownsRow wr.heap.size 5 1 v4 (2 + (wrapB fr).length) (encB ([x, x] ++ wrapB fr))) := Lib.hid (by rw [encB_append]; exact hown4)
              have HB4 : Hid (Below wr.heap.size wr w4) := Lib.hid (HB3.out.grown hgrow4 hs3 (fun k hk => by simp [Value.ownBlock] at hk; omega))
              have hs4 := HB4.out.size
              clear hown4 hgrow4 hblk4
              go_wp2_with (at_builtin; refine wpList_append_src _ rfl (.tmp 49) (.tmp 51) 22 rfl wr.heap.size 5 j0 (.int .u8 0) 1 Try.underlying22 HJ.out hy0 hy1 hy2 rfl _ (2 + (wrapB fr).length) (encB ([x, x] ++ wrapB fr)) rfl (HO4.out.alloc _) (some ⟨w4.heap.size, 0, none⟩) 1 1 (encB [x]) rfl (by simp [encB]) (lit1 w4 x 5 (0, 0)).vat (encB_one _) (by unfold maxLen; omega) (by omega) (by simp; omega) ?_)
              intro v5 w5 hown5 hgrow5 hblk5
              obtain ⟨X, hX⟩ : ∃ X, X = [x, x] ++ wrapB fr ++ [x] := ⟨_, rfl⟩
              have hO5 : w5.ownsRow wr.heap.size 5 1 v5 X.length (encB X) := by
                rw [hX, encB_append, List.length_append, List.length_append]
                exact hown5
              have hXl : X.length ≤ 5000 := by rw [hX]; simp; omega
              have HB5 : Hid (Below wr.heap.size wr w5) := Lib.hid ((HB4.out.alloc hs4 _).grown hgrow5 (by simp; omega) (fun k hk => (HO4.out.lt k hk).1))
              have hs5 := HB5.out.size
              obtain ⟨-, a5, c5, rfl, -, -, hA5⟩ := BAt.of_row hO5
              have hfd := feed_any w.heap.size sz (3 * cnt) v [] X a5 c5 w5 (HFI.out.below HB5.out (Nat.le_refl _)) hz1 hz2 (by simp; omega) (by simp; omega) hA5 (fun q hq _ h => by
                have h1 := (hO5.lt q.block (by rw [hq]; rfl)).1
                rcases h with h | h
                · have := HFI.out.blk.lt; omega
                · have := (HFI.out.own.lt q.block h).2; omega)
              have hone := feed_one x fr HX.out (by rw [HSZ.out]; exact hz1)
              rw [HSZ.out, ← hX] at hone
              rw [hone] at hfd
              have HFD := Lib.hid hfd
              clear hown5 hgrow5 hblk5 hO5 hA5 hfd hone hX
              go_wp2_with fail
              refine HFD.out.mono ?_
              rintro e w7 ⟨vo, v7, rfl, hF7, hS7, hFr7, hv7⟩
              obtain ⟨bo, oo, co, ag, cg, rfl, -, -, hbo, hcg, -, -, hAg, -⟩ := hS7.get (i := 0) (by simp)
              have HM7 : Hid (Mid w sz (cnt + 1) w7) := Lib.hid ⟨v7, by simpa [Nat.mul_add] using hF7, fun j hj => Nat.le_trans (Nat.le_trans hsr hs5) (hv7 j hj), (HB.out.trans (HB5.out.mono hsr)).trans (hFr7.toBelow (Nat.le_trans hsr hs5) (fun k hk => by
                rcases hk with rfl | h
                · exact Nat.le_refl _
                · exact HVN.out k h))⟩
              obtain ⟨-, -, -, hB7⟩ := HM7.out
              have k0 : w7.cell? ⟨bo, oo, none⟩ = some (.slice ag fr.length cg) := hcg
              have k1 : w7.cell? ⟨b, off + k, none⟩ = some (.slice ae fr.length ce) := (hB7.cell (p := ⟨b, off + k, none⟩) hb).trans HC.out
              have s1 := str_n (w := w7.drew) fr.length cg rfl (show BAt w7.drew ag fr from hAg)
              have s2 := str_n (w := w7.drew) fr.length ce rfl (HA.out.below hB7.drew (Nat.le_refl _))
              have hck3 : (3 * cnt : Int) ≤ 10000 := by omega
              clear hF7 hS7 hFr7 hv7 hcg hAg hB7 c0
              go_wp2_with fail
              refine wp_region_held_drew (S := (fun w' => w'.cell? ⟨bo, oo, none⟩ = some (.slice ag fr.length cg) ∧ w'.cell? ⟨b, off + k, none⟩ = some (.slice ae fr.length ce) ∧ (convert 22 9 (.slice ag fr.length cg)).run Try.prog w' = .ok (.string ⟨fr.toArray⟩) w' ∧ (convert 22 9 (.slice ae fr.length ce)).run Try.prog w' = .ok (.string ⟨fr.toArray⟩) w')) (by kernel_rfl) (by (try dsimp only); first | exact ⟨by assumption, by assumption, by assumption, by assumption⟩ | go_keep) (fun hHeld => ?_)
              refine wpAnyH_take (i := 0) (oi := (Oper.mk (some 58) (Op.move (Operand.tmp 11)) 26 "law.go:72" #[] none)) (v := ?_) rfl (by kernel_rfl) (by kernel_rfl) (by kernel_rfl) (fun _ _ _ h => h) (Or.inl ⟨by rfl, ?_⟩) (by assumption) ?_
              rotate_left
              · (intro w hSw; (try dsimp only at hSw); go_simp; first | done | with_reducible rfl)
              (try simp only [Act.put, List.setIfInBounds_toArray, List.set_cons_zero, List.set_cons_succ])
              refine wpAnyH_take (i := 1) (oi := (Oper.mk (some 59) (Op.call (Call.mk (Callee.builtin Builtin.len) #[Operand.tmp 58] #[26])) 3 "law.go:72" #[Edge.mk 0 Ground.data] none)) (v := ?_) rfl (by kernel_rfl) (by kernel_rfl) (by kernel_rfl) (fun _ _ _ h => h) (Or.inl ⟨by rfl, ?_⟩) (by assumption) ?_
              rotate_left
              · (intro w hSw; (try dsimp only at hSw); go_simp; first | done | with_reducible rfl)
              (try simp only [Act.put, List.setIfInBounds_toArray, List.set_cons_zero, List.set_cons_succ])
              refine wpAnyH_take (i := 2) (oi := (Oper.mk (some 60) (Op.binOp BinOp.neq 3 (Operand.tmp 59) (Operand.const (Value.int IntKind.i64 1)) 3) 4 "law.go:72" #[Edge.mk 1 Ground.data] none)) (v := ?_) rfl (by kernel_rfl) (by kernel_rfl) (by kernel_rfl) (fun _ _ _ h => h) (Or.inl ⟨by rfl, ?_⟩) (by assumption) ?_
              rotate_left
              · (intro w hSw; (try dsimp only at hSw); go_simp; first | done | with_reducible rfl)
              (try simp only [Act.put, List.setIfInBounds_toArray, List.set_cons_zero, List.set_cons_succ])
              refine wpAnyH_take (i := 3) (oi := (Oper.mk (some 61) (Op.move (Operand.tmp 60)) 4 "law.go:72" #[Edge.mk 2 Ground.data] none)) (v := ?_) rfl (by kernel_rfl) (by kernel_rfl) (by kernel_rfl) (fun _ _ _ h => h) (Or.inl ⟨by rfl, ?_⟩) (by assumption) ?_
              rotate_left
              · (intro w hSw; (try dsimp only at hSw); go_simp; first | done | with_reducible rfl)
              (try simp only [Act.put, List.setIfInBounds_toArray, List.set_cons_zero, List.set_cons_succ])
              refine wpAnyH_take (i := 4) (oi := (Oper.mk (some 62) (Op.move (Operand.tmp 11)) 26 "law.go:72" #[Edge.mk 3 Ground.guard] (some (3, false)))) (v := ?_) rfl (by kernel_rfl) (by kernel_rfl) (by kernel_rfl) (fun _ _ _ h => h) (Or.inl ⟨by rfl, ?_⟩) (by assumption) ?_
              rotate_left
              · (intro w hSw; (try dsimp only at hSw); go_simp; first | done | with_reducible rfl)
              (try simp only [Act.put, List.setIfInBounds_toArray, List.set_cons_zero, List.set_cons_succ])
              refine wpAnyH_take (i := 5) (oi := (Oper.mk (some 63) (Op.indexAddr 26 (Operand.tmp 62) (Operand.const (Value.int IntKind.i64 0))) 0 "law.go:72" #[Edge.mk 4 Ground.data, Edge.mk 3 Ground.guard] (some (3, false)))) (v := ?_) rfl (by kernel_rfl) (by kernel_rfl) (by kernel_rfl) (fun _ _ _ h => h) (Or.inl ⟨by rfl, ?_⟩) (by assumption) ?_
              rotate_left
              · (intro w hSw; (try dsimp only at hSw); go_simp; first | done | with_reducible rfl)
              (try simp only [Act.put, List.setIfInBounds_toArray, List.set_cons_zero, List.set_cons_succ])
              refine wpAnyH_take (i := 6) (oi := (Oper.mk (some 64) (Op.load 22 (Operand.tmp 63)) 22 "law.go:72" #[Edge.mk 5 Ground.data, Edge.mk 3 Ground.guard] (some (3, false)))) (v := ?_) rfl (by kernel_rfl) (by kernel_rfl) (by kernel_rfl) (fun _ _ _ h => h) (Or.inl ⟨by rfl, ?_⟩) (by assumption) ?_
              rotate_left
              · (intro w hSw; (try dsimp only at hSw); go_simp; first | done | with_reducible rfl)
              (try simp only [Act.put, List.setIfInBounds_toArray, List.set_cons_zero, List.set_cons_succ])
              refine wpAnyH_take (i := 7) (oi := (Oper.mk (some 65) (Op.convert 22 9 (Operand.tmp 64)) 9 "law.go:72" #[Edge.mk 6 Ground.data, Edge.mk 3 Ground.guard] (some (3, false)))) (v := ?_) rfl (by kernel_rfl) (by kernel_rfl) (by kernel_rfl) (fun _ _ _ h => h) (Or.inl ⟨by rfl, ?_⟩) (by assumption) ?_
              rotate_left
              · (intro w hSw; (try dsimp only at hSw); go_simp; first | done | with_reducible rfl)
              (try simp only [Act.put, List.setIfInBounds_toArray, List.set_cons_zero, List.set_cons_succ])
              refine wpAnyH_take (i := 8) (oi := (Oper.mk (some 66) (Op.move (Operand.tmp 1)) 26 "law.go:72" #[Edge.mk 3 Ground.guard] (some (3, false)))) (v := ?_) rfl (by kernel_rfl) (by kernel_rfl) (by kernel_rfl) (fun _ _ _ h => h) (Or.inl ⟨by rfl, ?_⟩) (by assumption) ?_
              rotate_left
              · (intro w hSw; (try dsimp only at hSw); go_simp; first | done | with_reducible rfl)
              (try simp only [Act.put, List.setIfInBounds_toArray, List.set_cons_zero, List.set_cons_succ])
              refine wpAnyH_take (i := 9) (oi := (Oper.mk (some 67) (Op.move (Operand.tmp 9)) 3 "law.go:72" #[Edge.mk 3 Ground.guard] (some (3, false)))) (v := ?_) rfl (by kernel_rfl) (by kernel_rfl) (by kernel_rfl) (fun _ _ _ h => h) (Or.inl ⟨by rfl, ?_⟩) (by assumption) ?_
              rotate_left
              · (intro w hSw; (try dsimp only at hSw); go_simp; first | done | with_reducible rfl)
              (try simp only [Act.put, List.setIfInBounds_toArray, List.set_cons_zero, List.set_cons_succ])
              refine wpAnyH_take (i := 10) (oi := (Oper.mk (some 68) (Op.indexAddr 26 (Operand.tmp 66) (Operand.tmp 67)) 0 "law.go:72" #[Edge.mk 8 Ground.data, Edge.mk 9 Ground.data, Edge.mk 3 Ground.guard] (some (3, false)))) (v := ?_) rfl (by kernel_rfl) (by kernel_rfl) (by kernel_rfl) (fun _ _ _ h => h) (Or.inl ⟨by rfl, ?_⟩) (by assumption) ?_
              rotate_left
              · (intro w hSw; (try dsimp only at hSw); go_simp; first | done | with_reducible rfl)
              (try simp only [Act.put, List.setIfInBounds_toArray, List.set_cons_zero, List.set_cons_succ])
              refine wpAnyH_take (i := 11) (oi := (Oper.mk (some 69) (Op.load 22 (Operand.tmp 68)) 22 "law.go:72" #[Edge.mk 10 Ground.data, Edge.mk 3 Ground.guard] (some (3, false)))) (v := ?_) rfl (by kernel_rfl) (by kernel_rfl) (by kernel_rfl) (fun _ _ _ h => h) (Or.inl ⟨by rfl, ?_⟩) (by assumption) ?_
              rotate_left
              · (intro w hSw; (try dsimp only at hSw); go_simp; first | done | with_reducible rfl)
              (try simp only [Act.put, List.setIfInBounds_toArray, List.set_cons_zero, List.set_cons_succ])
              refine wpAnyH_take (i := 12) (oi := (Oper.mk (some 70) (Op.convert 22 9 (Operand.tmp 69)) 9 "law.go:72" #[Edge.mk 11 Ground.data, Edge.mk 3 Ground.guard] (some (3, false)))) (v := ?_) rfl (by kernel_rfl) (by kernel_rfl) (by kernel_rfl) (fun _ _ _ h => h) (Or.inl ⟨by rfl, ?_⟩) (by assumption) ?_
              rotate_left
              · (intro w hSw; (try dsimp only at hSw); go_simp; first | done | with_reducible rfl)
              (try simp only [Act.put, List.setIfInBounds_toArray, List.set_cons_zero, List.set_cons_succ])
              refine wpAnyH_take (i := 13) (oi := (Oper.mk (some 71) (Op.binOp BinOp.neq 9 (Operand.tmp 65) (Operand.tmp 70) 9) 4 "law.go:72" #[Edge.mk 7 Ground.data, Edge.mk 12 Ground.data, Edge.mk 3 Ground.guard] (some (3, false)))) (v := ?_) rfl (by kernel_rfl) (by kernel_rfl) (by kernel_rfl) (fun _ _ _ h => h) (Or.inl ⟨by rfl, ?_⟩) (by assumption) ?_
              rotate_left
              · (intro w hSw; (try dsimp only at hSw); go_simp; first | done | with_reducible rfl)
              (try simp only [Act.put, List.setIfInBounds_toArray, List.set_cons_zero, List.set_cons_succ])
              refine wpAnyH_take (i := 14) (oi := (Oper.mk (some 72) (Op.pick (Operand.tmp 61) (Operand.const (Value.bool true)) (Operand.tmp 71)) 4 "law.go:72" #[Edge.mk 3 Ground.data, Edge.mk 13 Ground.data] none)) (v := ?_) rfl (by kernel_rfl) (by kernel_rfl) (by kernel_rfl) (fun _ _ _ h => h) (Or.inl ⟨by rfl, ?_⟩) (by assumption) ?_
              rotate_left
              · (intro w hSw; (try dsimp only at hSw); go_simp; first | done | with_reducible rfl)
              (try simp only [Act.put, List.setIfInBounds_toArray, List.set_cons_zero, List.set_cons_succ])
              refine wpAnyH_done (by kernel_rfl) ?_ _
              go_wp2_with fail
              go_roundw
              case rel => exact ⟨k + 1, cnt + 1, by omega, by go_num, congrArg (Value.int .i64) (by omega), by omega, Mid.drew HM7.out⟩
              case measure => simp [intOf]; omega
            · have e1 : ((fr.length : Int) != (sz : Int)) = true := by rw [bne_iff_ne]; omega
              clear hsz
              go_wp2_with fail
              go_roundw
              case rel => exact ⟨k + 1, cnt, by omega, by go_num, rfl, by omega, HM.out⟩
              case measure => simp [intOf]; omega
          · obtain ⟨v, hF, hvn, hB⟩ := HM.out
            have HB := Lib.hid hB
            have HFI := Lib.hid hF
            have g2 : ¬ (k : Int) < (L.length : Int) := by omega
            clear hF hvn hB
            go_wp2_with fail
            refine (skipped_any w.heap.size sz (3 * cnt) v [] _ HFI.out).mono ?_
            rintro e w9 ⟨rfl, rfl⟩
            go_wp2_with fail
            refine (alive_any _).mono ?_
            rintro e w9 ⟨rfl, hB⟩
            have HB9 := Lib.hid (HB.out.trans (hB.mono HB.out.size))
            clear hB
            go_wp2_with fail
            go_ret
            exact ⟨rfl, HB9.out⟩


set_option maxRecDepth 100000 in
theorem lifted (os : Os) (started : os.Started) (H : Type) (enc : TypeId × Value → H) :
    ReturnsInHanded {} Try.checked os 4 .any (Rows.markerFindsSpec.pre6 enc Try.prog Try.f4 Rows.markerFindsRow.domain false) (Rows.markerFindsSpec.post enc Try.prog Try.f4 false true false false) := by
  refine returnsInHanded_of_change (C := Try.checked) own started (by kernel_rfl) Try.func4
    (ChangeSpec.witness6 (enc := enc) (C := Try.checked) false ⟨#[], #[.int .i64 0, .slice none 0 0, .int .u8 0], []⟩ 8 (by kernel_rfl) (by kernel_rfl) (by kernel_rfl) (by kernel_rfl)) ?_
  intro W base args ds gs before hval0 hW hcnd _
  have hval : ∀ (j : Nat) t v, Try.f4.params[j]? = some t → args[j]? = some v → Value.okWide Try.prog W .any base t v := hval0
  have hW' := hW
  obtain ⟨p, q, hA0, hV, rfl, hfz, hnd⟩ := hW
  have hA : DataW.TrodAll enc Try.prog W 0 (fun _ => true) true Try.f4.params.toList args.toList ds p := hA0
  rw [Try.params4] at hA hval
  obtain ⟨v0, vs0, d0, ds0, p0, q0, hargs, rfl, rfl, h0, r0⟩ := trodAll_cons hA
  obtain ⟨v1, vs1, d1, ds1, p1, q1, rfl, rfl, rfl, h1, r1⟩ := trodAll_cons r0
  obtain ⟨v2, vs2, d2, ds2, p2, q2, rfl, rfl, rfl, h2, r2⟩ := trodAll_cons r1
  obtain ⟨rfl, rfl, rfl⟩ := trodAll_nil r2
  obtain rfl : args = #[v0, v1, v2] := by cases args; simp_all
  obtain ⟨rfl, rfl⟩ := trodVars_none hV
  obtain ⟨a0, rfl, rfl, rfl, w0⟩ := open_int Try.underlying3 (hval 0 3 v0 rfl rfl) h0
  have k1 := h1
  have lt1 : ∀ x ∈ p1, x.block < W.heap.size := by obtain ⟨m, hm⟩ := k1; exact DataW.trod_lt m _ _ _ hm
  obtain ⟨a2, rfl, rfl, rfl, w2⟩ := open_int Try.underlying5 (hval 2 5 v2 rfl rfl) h2
  clear hA0 hval0
  refine (walk a0 v1 a2 W w0 (hval 1 26 v1 rfl rfl) k1 w2).mono fun e W' ⟨he, bel⟩ => ?_
  subst he
  exact ⟨_, rfl, _, _, _, [], _, [], hW', trodAll_mk1 (shut_bool Try.underlying4 _), (trodAll_cons_mk (shut_int Try.underlying3 w0) (trodAll_cons_mk (Below.trod laidOut (by kernel_rfl) (of_decide_eq_true (by kernel_rfl)) k1 bel lt1) (trodAll_cons_mk (shut_int Try.underlying5 w2) trodAll_mk0))), rfl, bel.frame _, fun h => by cases h⟩

theorem over : Rows.markerFindsRow.holds Try.pinned (OpenSpec.ofChange Rows.markerFindsSpec) :=
  OpenClaim.holds_of_wide 4 Try.f4 rfl rfl rfl rfl rfl rfl rfl ⟨rfl, rfl, rfl, rfl, rfl⟩ rfl rfl rfl rfl rfl (by kernel_rfl) Try.func4 (by kernel_rfl)
    (of_decide_eq_true (by kernel_rfl)) (by unfold Func.isWrapper; first | (rw [if_pos (by decide +kernel)]; kernel_rfl) | (rw [if_neg (by decide +kernel)]; exact ⟨rfl, rfl⟩))
    (fun os started H enc _ => lifted os started H enc)

theorem proved : Rows.MarkerFindsSaid := over
#print axioms proved
end Go.Proofs.Ytjeigdopcdeaeaa.markerFinds

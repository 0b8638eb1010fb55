/- The law CalibSums holds: the walk, then the lift to the given statement. No condition. -/
import Derived.Test.YtcgneldccbcidaaM
import Derived.WalkKit
import Derived.ProofKit
import Derived.OpenShut
import Derived.Lib.Hide
import Derived.ChangeOld
import Derived.Below
import Derived.SizedLaws
namespace Go.Proofs.Ytcgneldccbcidaa.calibSums
open Go.ChangeShapes Go.WideShapes Go.ChangeAt Go.RowKit Go.Deep Calib50
set_option linter.unusedVariables false
theorem own : ownKnob Try.prog.godebug = none := by kernel_rfl
theorem laidOut : laidOutB Try.prog = true := by kernel_rfl

theorem one_new (w : World) (x : Value) (t : TypeId) : ∀ j u, [x][j]? = some u → (w.alloc (.cells #[x] t)).cell? ((⟨w.heap.size, 0, none⟩ : Addr).add j) = some u := by
  intro j u hj
  match j, hj with
  | 0, hj =>
    simp at hj
    subst hj
    rw [add_plain, Joins.cell_alloc_mark_at _ _ _ _ _ _ rfl]
    rfl
theorem one_cell {x : Value} (h : x.oneCell' = true) : ∀ u ∈ [x], u.oneCell' = true := by simpa using h
theorem info3 : (Try.prog.info? 3).map (fun i => (i.zero, i.size, i.bytes)) = some (some (.int .i64 0), 1, 8) := by kernel_rfl
/-- the first k coefficients, their signs changed -/
def negs (C : Nat → Int) (k : Nat) : List Value := (List.range k).map fun i => .int .i64 (- C i)
theorem negs_succ (C : Nat → Int) (k : Nat) : negs C (k + 1) = negs C k ++ [.int .i64 (- C k)] := by simp [negs, List.range_succ]
theorem negs_length (C : Nat → Int) (k : Nat) : (negs C k).length = k := by simp [negs]
theorem ints_of_row {w : World} {base n : Nat} {v : Value} {C : Nat → Int} (h : w.ownsRow base 3 1 v n (negs C n)) (hn : 0 < n) :
    ∃ g cap, v = .slice (some ⟨g, 0, none⟩) n cap ∧ n ≤ cap ∧ Ints w (some ⟨g, 0, none⟩) n (fun i => - C i) := by
  rcases h.2 with ⟨_, h0⟩ | ⟨g, cap, cur, rfl, hb, hg, hnc, hcm, hsz, hxs⟩
  · omega
  · refine ⟨g, cap, rfl, hnc, .inr ⟨g, 0, rfl, (Array.getElem?_eq_some_iff.1 hg).1, fun i hi => ?_⟩⟩
    rw [Joins.cell_of_block hg, Nat.zero_add]
    have e : (cur.toList.take (n * 1))[i]? = (negs C n)[i]? := by rw [hxs]
    rw [List.getElem?_take_of_lt (by omega)] at e
    rw [← Array.getElem?_toList, e]
    simp [negs, hi]
theorem walk {H : Type} {enc : TypeId × Value → H} (v0 : Value) (a1 : Int) (w : World) {b0 : Nat} {d0 : DataW H} {p0 : List MemPlace} (ok0 : Value.okWide Try.prog w .any b0 22 v0) (tr0 : DataW.Trod enc Try.prog w 0 (fun _ => true) true 22 v0 d0 p0) (w1 : (Lit.int .i64 a1).wf = true) :
    Calls Try.prog 8 #[v0, .int .i64 a1] w fun e w' => e = .returned (.bool true) ∧ Below w.heap.size w w' := by
  obtain ⟨a, n, cap, C, rfl, hl, hm, hI, hwf⟩ := arg_ints ok0 tr0
  have hI' := hI.le hl
  have H0 := Lib.hid hI'
  have HW := Lib.hid hwf
  clear hI hwf ok0 tr0
  unfold maxLen at hm
  obtain ⟨i0, hi, hz0, hz1, hz2⟩ := info_parts info3
  by_cases hn : n ≤ 8 ∧ 0 < n
  · obtain ⟨hn1, hn2⟩ := hn
    have hn' : ¬ (8 : Int) < n := by omega
    have hn0 : ((n : Int) == 0) = false := by simp; omega
    obtain ⟨b, off, rfl, hb, hc⟩ := hI'.resolve_left (by omega)
    have HC := Lib.hid hc
    clear hc
    go_enter Try.func8, Try.ntmps8
    go_wp2_with fail
    go_loopw [5, 6] (fun d i wr => ∃ k : Nat, k ≤ n ∧ i = .int .i64 k ∧ wr.ownsRow w.heap.size 3 1 d k (negs C k) ∧ Below w.heap.size w wr ∧ Hid (∀ j, j < k → -2147483648 ≤ C j ∧ C j ≤ 2147483648)) (fun _ i _ => n - (intOf i).toNat)
    case atStart => exact ⟨0, by omega, rfl, World.ownsRow_nil _ _ _ _, Below.refl _ _, Lib.hid (fun j hj => by omega)⟩
    case round =>
      obtain ⟨k, hk, rfl, hown, hB, hI⟩ := hrel
      by_cases hlt : k < n
      · have ck : wr.cell? ⟨b, off + k, none⟩ = some (.int .i64 (C k)) := (hB.cell (p := ⟨b, _, none⟩) hb).trans (HC.out k hlt)
        by_cases h1 : C k < -2147483648
        · go_wp2_with fail
          refine (alive_any _).mono ?_
          rintro e w3 ⟨rfl, hB3⟩
          go_wp2_with fail
          go_ret
          exact ⟨rfl, hB.trans (hB3.mono hB.size)⟩
        · by_cases h2 : 2147483648 < C k
          · go_wp2_with fail
            refine (alive_any _).mono ?_
            rintro e w3 ⟨rfl, hB3⟩
            go_wp2_with fail
            go_ret
            exact ⟨rfl, hB.trans (hB3.mono hB.size)⟩
          · go_wp2_with (at_builtin; refine wpList_append_own _ rfl _ _ 22 rfl w.heap.size 3 i0 (.int .i64 0) 1 8 Try.underlying22 hi hz0 hz1 hz2 rfl (by decide) _ _ _ rfl (hown.alloc _) ⟨wr.heap.size, 0, none⟩ 1 1 [.int .i64 (- C k)] rfl rfl (one_new _ _ _) (one_cell rfl) (by unfold maxLen; omega) (by omega) (by have := hB.size; simp; omega) ?_)
            intro v' w1' hown' hgrow _
            have hB' : Below w.heap.size w w1' := (hB.alloc hB.size _).grown hgrow (by have := hB.size; simp; omega) (fun r hr => (hown.lt r hr).1)
            have hI' : Hid (∀ j, j < k + 1 → -2147483648 ≤ C j ∧ C j ≤ 2147483648) := Lib.hid (fun j hj => by
              rcases Nat.lt_or_ge j k with h | h
              · exact hI.out j h
              · rw [show j = k by omega]; omega)
            rw [← negs_succ] at hown'
            clear hown hgrow hB
            go_wp2
            go_roundw
            case rel => exact ⟨k + 1, by omega, by go_num, hown', hB', hI'⟩
            case measure => simp [intOf]; omega
      · obtain rfl : k = n := by omega
        obtain ⟨g, cap', rfl, hcap', hD⟩ := ints_of_row hown hn2
        have HD := Lib.hid hD
        have hneg := Lib.hid (poly_neg C (fun i => - C i) k a1 (fun _ _ => rfl))
        have q1 : (poly (fun i => - C i) k a1).1 = - (poly C k a1).1 := by rw [hneg.out]
        have q2 : (poly (fun i => - C i) k a1).2 = (poly C k a1).2 := by rw [hneg.out]
        have hpb := poly_bd C k a1
        have hC0 := hI.out 0 hn2
        have hone := poly_one C hC0
        have r1 : (poly C 1 0).1 = divZ (C 0) 1000000 := by rw [hone]
        have r2 : (poly C 1 0).2 = 0 := by rw [hone]
        have hnear := divZ_near (C 0) 1000000 (by omega)
        have hdb := divZ_bd (C 0) 1000000 2148 (by omega) (by omega) (by omega)
        have c0 := HC.out 0 hn2
        clear hone hD hown
        rw [Nat.add_zero] at c0
        go_wp2_with fail
        refine (Poly_any _ _ _ C a1 _ (by omega) (H0.out.below hB (Nat.le_refl _))).mono ?_
        rintro e x2 ⟨rfl, hB2⟩
        have S2 := hB.trans (hB2.mono hB.size)
        have HD2 := Lib.hid (HD.out.below hB2 (Nat.le_refl _))
        clear hB2 HD hB
        go_wp2_with fail
        refine (Poly_any _ _ _ (fun i => - C i) a1 _ (by omega) HD2.out).mono ?_
        rintro e x3 ⟨rfl, hB3⟩
        have S3 := S2.trans (hB3.mono S2.size)
        clear hB3 HD2 S2
        have hcap1 : 1 ≤ cap := by omega
        go_wp2_with fail
        refine (Poly_any _ _ _ C 0 _ (by omega) ((H0.out.below S3 (Nat.le_refl _)).le (by omega))).mono ?_
        rintro e x4 ⟨rfl, hB4⟩
        have S4 := S3.trans (hB4.mono S3.size)
        have y0 : x4.cell? ⟨b, off, none⟩ = some (.int .i64 (C 0)) := (S4.cell (p := ⟨b, _, none⟩) hb).trans c0
        clear hB4 S3 c0
        go_wp2_with fail
        refine (alive_any _).mono ?_
        rintro e x5 ⟨rfl, hB5⟩
        go_wp2_with fail
        go_ret
        refine ⟨?_, S4.trans (hB5.mono S4.size)⟩
        simp
        omega
  · by_cases hb : n ≤ 8
    · have hn' : ¬ (8 : Int) < n := by omega
      have hn0 : ((n : Int) == 0) = true := by simp; omega
      go_enter Try.func8, Try.ntmps8
      go_wp2_with (go_at_call 9; refine (alive_any _).mono ?_; rintro e w2 ⟨rfl, hB2⟩)
      go_ret
      exact ⟨rfl, hB2⟩
    · have hn' : (8 : Int) < n := by omega
      go_enter Try.func8, Try.ntmps8
      go_wp2_with (go_at_call 9; refine (alive_any _).mono ?_; rintro e w2 ⟨rfl, hB2⟩)
      go_ret
      exact ⟨rfl, hB2⟩


set_option maxRecDepth 100000 in
theorem lifted (os : Os) (started : os.Started) (H : Type) (enc : TypeId × Value → H) :
    ReturnsInHanded {} Try.checked os 8 .any (Rows.calibSumsSpec.pre6 enc Try.prog Try.f8 Rows.calibSumsRow.domain false) (Rows.calibSumsSpec.post enc Try.prog Try.f8 false true false false) := by
  refine returnsInHanded_of_change (C := Try.checked) own started (by kernel_rfl) Try.func8
    (ChangeSpec.witness6 (enc := enc) (C := Try.checked) false ⟨#[], #[.slice none 0 0, .int .i64 0], []⟩ 8 (by kernel_rfl) (by kernel_rfl) (by kernel_rfl) (by kernel_rfl)) ?_
  intro W base args ds gs before hval0 hW hcnd _
  have hval : ∀ (j : Nat) t v, Try.f8.params[j]? = some t → args[j]? = some v → Value.okWide Try.prog W .any base t v := hval0
  have hW' := hW
  obtain ⟨p, q, hA0, hV, rfl, hfz, hnd⟩ := hW
  have hA : DataW.TrodAll enc Try.prog W 0 (fun _ => true) true Try.f8.params.toList args.toList ds p := hA0
  rw [Try.params8] at hA hval
  obtain ⟨v0, vs0, d0, ds0, p0, q0, hargs, rfl, rfl, h0, r0⟩ := trodAll_cons hA
  obtain ⟨v1, vs1, d1, ds1, p1, q1, rfl, rfl, rfl, h1, r1⟩ := trodAll_cons r0
  obtain ⟨rfl, rfl, rfl⟩ := trodAll_nil r1
  obtain rfl : args = #[v0, v1] := by cases args; simp_all
  obtain ⟨rfl, rfl⟩ := trodVars_none hV
  have k0 := h0
  have lt0 : ∀ x ∈ p0, x.block < W.heap.size := by obtain ⟨m, hm⟩ := k0; exact DataW.trod_lt m _ _ _ hm
  obtain ⟨a1, rfl, rfl, rfl, w1⟩ := open_int Try.underlying3 (hval 1 3 v1 rfl rfl) h1
  clear hA0 hval0
  refine (walk v0 a1 W (hval 0 22 v0 rfl rfl) k0 w1).mono fun e W' ⟨he, bel⟩ => ?_
  subst he
  exact ⟨_, rfl, _, _, _, [], _, [], hW', trodAll_mk1 (shut_bool Try.underlying4 _), (trodAll_cons_mk (Below.trod laidOut (by kernel_rfl) (of_decide_eq_true (by kernel_rfl)) k0 bel lt0) (trodAll_cons_mk (shut_int Try.underlying3 w1) trodAll_mk0)), rfl, bel.frame _, fun h => by cases h⟩

theorem over : Rows.calibSumsRow.holds Try.pinned (OpenSpec.ofChange Rows.calibSumsSpec) :=
  OpenClaim.holds_of_wide 8 Try.f8 rfl rfl rfl rfl rfl rfl rfl ⟨rfl, rfl, rfl, rfl, rfl⟩ rfl rfl rfl rfl rfl (by kernel_rfl) Try.func8 (by kernel_rfl)
    (of_decide_eq_true (by kernel_rfl)) (by unfold Func.isWrapper; first | (rw [if_pos (by decide +kernel)]; kernel_rfl) | (rw [if_neg (by decide +kernel)]; exact ⟨rfl, rfl⟩))
    (fun os started H enc _ => lifted os started H enc)

theorem proved : Rows.CalibSumsSaid := over
#print axioms proved
end Go.Proofs.Ytcgneldccbcidaa.calibSums

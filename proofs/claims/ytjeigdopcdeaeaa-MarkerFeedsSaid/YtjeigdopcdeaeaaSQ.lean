/- Sequence: its contract. No condition. -/
import Derived.Test.YtjeigdopcdeaeaaSS
namespace Go.Proofs.Ytjeigdopcdeaeaa
open Go.RowKit Go.Shelf Scr
set_option linter.unusedVariables false
attribute [local go_sem] Oper.semAt_some

theorem info5 : (Try.prog.info? 5).map (fun i => (i.zero, i.size, i.bytes)) = some (some (.int .u8 0), 1, 1) := by kernel_rfl

/-- the first k bytes -/
def bytesTo (k : Nat) : List Value := (List.range k).map fun i => .int .u8 (st i)

set_option maxRecDepth 100000 in
set_option maxHeartbeats 1000000 in
theorem all_in (F : Fence) (n : Nat) (h12 : F.fn 28) (hro : F.round = none) (w : World) :
    CallsIn F n Try.prog 28 #[] w fun e w' => e = .returned (.func (.func 29) #[] #[]) ∧ w' = w := by
  refine callsIn_of_wp Try.func28 rfl h12 ?_ hro
  simp only [Try.ntmps28, List.size_toArray, List.length_cons, List.length_nil, Nat.reduceAdd, Nat.reduceSub, Array.replicate_succ, Array.replicate_zero, List.push_toArray, List.append_toArray, List.nil_append, List.cons_append]
  gi_wp2
  go_ret
  exact ⟨rfl, rfl⟩

theorem bytesTo_succ (k : Nat) : bytesTo (k + 1) = bytesTo k ++ [.int .u8 (st k)] := by simp [bytesTo, List.range_succ]
theorem bytesTo_length (k : Nat) : (bytesTo k).length = k := by simp [bytesTo]

/-- between two rounds: k bytes are in out -/
def Mid (w : World) (N : Int) (k : Nat) (W : World) : Prop :=
  (Boxed W w.heap.size 3 (.int .i64 N) ∧ Boxed W (w.heap.size + 1) 22 (.slice none 0 0)) ∧ (∃ v, Boxed W (w.heap.size + 1 + 1) 22 v ∧ W.ownsRow w.heap.size 5 1 v k (bytesTo k) ∧ (v = .slice none 0 0 ↔ k = 0)) ∧ (Below w.heap.size w W ∧ k ≤ N.toNat)
/-- the body has returned -/
def End (w : World) (N : Int) (W : World) : Prop :=
  (∃ v, Boxed W (w.heap.size + 1) 22 v ∧ W.ownsRow w.heap.size 5 1 v N.toNat (bytesTo N.toNat) ∧ (v = .slice none 0 0 ↔ N.toNat = 0)) ∧ Below w.heap.size w W

theorem boxed_from {β : Type} (B C : Nat) (t : TypeId) (v : Value) : OwnFrom C fun (_ : β) W => Boxed W B t v :=
  fun _ X Y row hs hg hr => hs.kept hg fun e => by
    obtain ⟨_, o, ho, hc⟩ := hr B e.symm
    rw [show X.heap[B]? = _ from hs] at ho
    cases ho
    cases hc
theorem mid_own (w : World) (N : Int) (C : Nat) (hC : w.heap.size ≤ C) : OwnFrom C (Mid w N) := by
  unfold Mid
  exact OwnFrom.and (OwnFrom.and (boxed_from _ _ _ _) (boxed_from _ _ _ _)) (OwnFrom.and (Own.from (holdsRow_own w.heap.size (w.heap.size + 1 + 1) 22 5 1 (fun k => k) bytesTo (fun k v => v = .slice none 0 0 ↔ k = 0)) _) (OwnFrom.and (ownFrom_below (Nat.le_refl _) hC) (fun _ _ _ _ hs _ _ => hs)))
theorem end_own (w : World) (N : Int) (C : Nat) (hC : w.heap.size ≤ C) : OwnFrom C (fun (_ : Unit) W => End w N W) := by
  unfold End
  exact OwnFrom.and (Own.from (holdsRow_own w.heap.size (w.heap.size + 1) 22 5 1 (fun (_ : Unit) => N.toNat) (fun _ => bytesTo N.toNat) (fun _ v => v = .slice none 0 0 ↔ N.toNat = 0)) _) (ownFrom_below (Nat.le_refl _) hC)

set_option maxRecDepth 100000 in
set_option maxHeartbeats 2000000 in
theorem Seq_in (F : Fence) (n : Nat) (h8 : F.fn 25) (h12 : F.fn 28) (h13 : F.fn 29) (hro : F.round = none) (hn : 3 ≤ n) (N : Int) (hN : N ≤ 1000000000) (w : World) :
    CallsIn F n Try.prog 25 #[.int .i64 N] w fun e W' => ∃ v, e = .returned v ∧ W'.ownsRow w.heap.size 5 1 v N.toNat (bytesTo N.toNat) ∧ (v = .slice none 0 0 ↔ N.toNat = 0) ∧ Below w.heap.size w W' := by
  have h1 : 1 ≤ n := by omega
  obtain ⟨i0, hi, hz0, hz1, hz2⟩ := info_parts info5
  refine callsIn_of_wp_marks Try.func25 rfl h8 ?_ hro
  simp only [Try.ntmps25, List.size_toArray, List.length_cons, List.length_nil, Nat.reduceAdd, Nat.reduceSub, Array.replicate_succ, Array.replicate_zero, List.push_toArray, List.append_toArray, List.nil_append, List.cons_append]
  gi_wp2_with (gi_at_call 28; refine (all_in F (n - 1) h12 hro _).mono ?_; rintro e w' ⟨rfl, rfl⟩)
  have b0 := Boxed.new w 3 (.int .i64 N)
  have b1 := Boxed.new (w.alloc (.cells #[.int .i64 N] 3)) 22 (.slice none 0 0)
  have b2 := Boxed.new ((w.alloc (.cells #[.int .i64 N] 3)).alloc (.cells #[.slice none 0 0] 22)) 22 (.slice none 0 0)
  simp only [World.size_alloc] at b1 b2
  have hB0 : Below w.heap.size w (((w.alloc (.cells #[.int .i64 N] 3)).alloc (.cells #[.slice none 0 0] 22)).alloc (.cells #[.slice none 0 0] 22)) := (((Below.refl _ w).alloc (Nat.le_refl _) _).alloc (by simp) _).alloc (by simp; omega) _
  refine range_endless hro h1 (gf := 29) rfl h13 (enters_of Try.func29 (by kernel_rfl) rfl) (all_endless F (n - 1) h13 hro (by omega)) rfl N.toNat (Mid w N) (End w N) (fun k W h => h.2.2.2) (mid_own w N _ (by simp; omega)) (end_own w N _ (by simp; omega))
    ⟨⟨(b0.alloc _).alloc _, b1.alloc _⟩, ⟨_, b2, World.ownsRow_nil _ _ _ _, by simp⟩, hB0, Nat.zero_le _⟩
    (fun k => { tmps := #[.int .i64 N, .pointer (some ⟨w.heap.size, 0, none⟩), .pointer (some ⟨w.heap.size + 1, 0, none⟩), .pointer (some ⟨w.heap.size + 1 + 1, 0, none⟩), .int .u8 (st k), .func (.func 29) #[] #[], .int .u8 (st k), undef, undef, undef, undef, undef, undef, undef, undef, undef, undef], defers := [] }) ?assign ?body ?stop
  case assign =>
    intro l k W K hK
    gi_wp2
    exact hK
  case body =>
    rintro l k W ⟨⟨a0, a1⟩, ⟨v, hv, hrow, hnil⟩, hB, hkN⟩
    have c0 := a0.cell
    have c1 := a1.cell
    have f1 := a1.frozen
    have c2 := hv.cell
    obtain ⟨ao, cap, hv'⟩ : ∃ ao cap, v = .slice ao k cap := by
      rcases hrow.2 with ⟨h, h'⟩ | ⟨g, cap, cur, h, _⟩
      · exact ⟨none, 0, by rw [h, h']⟩
      · exact ⟨_, cap, h⟩
    subst hv'
    by_cases hk : N ≤ k
    · have hkk : k = N.toNat := by omega
      have HK := Lib.hid hkk
      clear hkk
      gi_wp2
      refine ⟨KeepsOthers.setCell _ _ _, ⟨_, a1.set _, ?_, ?_⟩, hB.setCell (p := ⟨w.heap.size + 1, 0, none⟩) (by simp) _⟩
      · rw [← HK.out]
        exact hrow.kept (grownBy_setCell' W (w.heap.size + 1) _) (.inr (a1.not_row (by decide) hrow).symm)
      · rw [← HK.out]; exact hnil
    · gi_wp2_with (gi_at_builtin; refine wpListIn_append_own _ rfl _ _ 22 rfl w.heap.size 5 i0 (.int .u8 0) 1 1 Try.underlying22 hi hz0 hz1 hz2 rfl (by decide) _ _ _ rfl (hrow.alloc _) ⟨W.heap.size, 0, none⟩ 1 1 [.int .u8 (st k)] rfl rfl (one_new _ _ _) (one_cell rfl) (by unfold maxLen; omega) (by omega) (by have := hB.size; simp; omega) ?_; intro v' w1 hown' hgrow _; obtain ⟨g', cap', rfl⟩ := ownsRow_succ hown'; obtain ⟨hv1, hv2, hr2, hk2, hb2⟩ := hv.appended (by decide) hrow hB.size (by omega) hown' hgrow; have hc1 := hv1.cell; have hf1 := hv1.frozen)
      refine ⟨hk2, ⟨(((a0.alloc _).kept hgrow (a0.not_row (by decide) hrow)).other (by omega) _), (((a1.alloc _).kept hgrow (a1.not_row (by decide) hrow)).other (by omega) _)⟩, ⟨_, hv2, by rw [bytesTo_succ]; exact hr2, by simp⟩, hB.trans hb2, by omega⟩
  case stop =>
    rintro D W hD ⟨⟨v, hv, hrow, hnil⟩, hB⟩ hK
    have hc := hv.cell
    gi_wp2
    refine ⟨by simp, .inl ⟨_, _, rfl, run_takeDeferred hK, ?_⟩⟩
    have hc5 := cell_kept hc (grownBy_putObj' _ D (.deferred none)) (fun r e => by cases e; exact ⟨_, hK, rfl⟩)
    exact ⟨v, by simp [results, Try.f25, go_sem, hc5], v, rfl, ownsRow_putObj hrow _ hK rfl, hnil, hB.trans (belowK_b (w := w) (Nat.le_refl _) W D _ _ (by simp at hD; omega) hK rfl rfl)⟩
end Go.Proofs.Ytjeigdopcdeaeaa

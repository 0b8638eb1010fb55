/- Contracts of slices.Grow from nil, slices.Concat of two, the lengths that a header states. No condition. -/
import Derived.Test.YtllpbfejoahllaaD
import Derived.Lib.AppendZeros
namespace Go.Proofs.Ytllpbfejoahllaa
open Go.RowKit Go.Deep Go.ChangeShapes Go.WideShapes Go.ChangeAt
set_option linter.unusedVariables false

theorem grow_row (w : World) (n c : Nat) (h : n ≤ c) (hm : c ≤ maxLen) : (w.drew.alloc (.cells (Builtin.zeroCells #[.int .u8 0] n ++ Builtin.zeroCells #[.int .u8 0] (c - n)) 5)).ownsRow w.heap.size 5 1 (.slice (some ⟨w.heap.size, 0, none⟩) 0 c) 0 [] := by
  refine ⟨rfl, .inr ⟨w.heap.size, c, _, rfl, Nat.le_refl _, heap_alloc_new w.drew _, Nat.zero_le _, hm, ?_, by simp⟩⟩
  simp [Builtin.zeroCells]
  omega
theorem grow_any (n : Nat) (hn : n ≤ 1000000) (w : World) : Calls Try.prog 27 #[.slice none 0 0, .int .i64 (n : Int)] w fun e w' => ∃ v, e = .returned v ∧ w'.ownsRow w.heap.size 5 1 v 0 [] ∧ Below w.heap.size w w' := by
  obtain ⟨j0, hj, hy0, hy1, hy2⟩ := info_parts info5
  by_cases h0 : 0 < n
  · have hr : ∀ ty, (Builtin.append_ #[23, 3] ty #[.slice none 0 0, .int .i64 (n : Int)]).run Try.prog w = _ := fun ty => Lib.run_append_nil_zeros w 23 3 ty 5 j0 (.int .u8 0) .i64 .i64 Try.underlying23 Try.underlying3 hj hy0 n h0 (by omega) (by omega) (by rw [hy2]; omega)
    have HR := Lib.hid hr
    have hg := Lib.hid (grownCap_ge w n 0 5)
    have hm := Lib.hid (grownCap_le_maxLen w n 0 5 (by unfold maxLen; omega))
    obtain ⟨c, hc⟩ : ∃ c, c = grownCap w n 0 5 := ⟨_, rfl⟩
    rw [← hc] at hg hm HR
    have h1 : (0 : Int) < (n : Int) := by omega
    clear hj hr hc
    go_enter Try.func27, Try.ntmps27
    go_wp2_with (at_builtin; refine Lib.wpList_append_run _ rfl _ _ _ _ rfl _ _ rfl rfl _ _ (HR.out _) ?_)
    go_ret
    exact ⟨_, rfl, grow_row w n c hg.out hm.out, al (Below.refl _ _).drew _⟩
  · obtain rfl : n = 0 := by omega
    clear hj
    go_enter Try.func27, Try.ntmps27
    go_wp2_with fail
    go_ret
    exact ⟨_, rfl, World.ownsRow_nil _ _ _ _, Below.refl _ _⟩

set_option maxRecDepth 20000 in
set_option maxRecDepth 20000 in
set_option maxHeartbeats 1000000 in
theorem concat2_any (g : Nat) (T : TypeId) (a1 a2 : Option Addr) (n1 n2 c1 c2 : Nat) (l1 l2 : List UInt8) (w : World) (hg : Blk w g T [.slice a1 n1 c1, .slice a2 n2 c2]) (h1 : l1.length = n1) (h2 : l2.length = n2) (hl1 : n1 ≤ 100000) (hl2 : n2 ≤ 100000) (hb1 : BAt w a1 l1) (hb2 : BAt w a2 l2) :
    Calls Try.prog 19 #[.slice (some ⟨g, 0, none⟩) 2 2] w (NB w (l1 ++ l2)) := by
  obtain ⟨j0, hj, hy0, hy1, hy2⟩ := info_parts info5
  have HJ := Lib.hid hj
  have HB1 := Lib.hid hb1
  have HB2 := Lib.hid hb2
  have HG := Lib.hid hg
  have k0 := hg.at 0 rfl
  have k1 := hg.at 1 rfl
  have hlt := hg.lt
  have H1 := Lib.hid h1
  have H2 := Lib.hid h2
  clear hj hb1 hb2 hg h1 h2
  go_enter Try.func19, Try.ntmps19
  go_wp2_with fail
  go_loopw [3, 11] (fun s i wr => wr = w ∧ ∃ k : Nat, k ≤ 2 ∧ i = .int .i64 k ∧ s = .int .i64 ((if k = 0 then 0 else if k = 1 then n1 else n1 + n2 : Nat) : Int)) (fun _ i _ => 2 - (intOf i).toNat)
  case atStart => exact ⟨rfl, 0, by omega, rfl, rfl⟩
  case round =>
    obtain ⟨rfl, k, hk, rfl, rfl⟩ := hrel
    obtain rfl | rfl | rfl : k = 0 ∨ k = 1 ∨ k = 2 := by omega
    · go_wp2_with fail
      go_roundw
      case rel => exact ⟨trivial, 1, by omega, rfl, rfl⟩
      case measure => simp [intOf]
    · go_wp2_with fail
      go_roundw
      case rel => exact ⟨trivial, 2, by omega, rfl, by go_num⟩
      case measure => simp [intOf]
    · go_wp2_with fail
      have e0 : (n1 : Int) + (n2 : Int) = ((n1 + n2 : Nat) : Int) := by omega
      rw [e0]
      obtain ⟨wo, hwo⟩ : ∃ wo, wo = wr := ⟨wr, rfl⟩
      subst hwo
      refine (grow_any (n1 + n2) (by omega) _).mono ?_
      rintro e w2 ⟨v, rfl, hO, hB⟩
      have HO := Lib.hid hO
      have HB := Lib.hid hB
      clear hO hB e0
      go_wp2_with fail
      go_loopw [6, 27] (fun v i w3 => ∃ k : Nat, k ≤ 2 ∧ i = .int .i64 k ∧ ∃ l : List UInt8, l = (if k = 0 then [] else if k = 1 then l1 else l1 ++ l2) ∧ w3.ownsRow wo.heap.size 5 1 v l.length (encB l) ∧ Below wo.heap.size wo w3) (fun _ i _ => 2 - (intOf i).toNat)
      case atStart => exact ⟨0, by omega, rfl, [], rfl, HO.out, HB.out⟩
      case round =>
        obtain ⟨k, hk, rfl, l, hl, hO3, hB3⟩ := hrel
        have HO3 := Lib.hid hO3
        have HB3 := Lib.hid hB3
        have hs3 := hB3.size
        have m0 := (hB3.cell (p := ⟨g, 0, none⟩) hlt).trans k0
        have m1 := (hB3.cell (p := ⟨g, 1, none⟩) hlt).trans k1
        have HV1 := Lib.hid (HB1.out.below hB3 (Nat.le_refl _)).vat
        have HV2 := Lib.hid (HB2.out.below hB3 (Nat.le_refl _)).vat
        clear hO3 hB3 k0 k1 HO HB
        obtain rfl | rfl | rfl : k = 0 ∨ k = 1 ∨ k = 2 := by omega
        · simp only [if_true] at hl
          subst hl
          go_wp2_with (at_builtin; refine wpList_append_src _ rfl _ _ 23 rfl wo.heap.size 5 j0 (.int .u8 0) 1 Try.underlying23 HJ.out hy0 hy1 hy2 rfl _ 0 [] rfl HO3.out a1 n1 c1 (encB l1) rfl (by simp [encB, H1.out]) HV1.out (encB_one _) (by unfold maxLen; omega) (by omega) (by omega) ?_)
          intro v4 w4 hown hgrow hblk
          have HB4 := Lib.hid (HB3.out.grown hgrow hs3 (fun k hk => (HO3.out.lt k hk).1))
          have HO4 : Hid (w4.ownsRow wo.heap.size 5 1 v4 l1.length (encB l1)) := Lib.hid (by rw [H1.out]; simpa using hown)
          clear hown hgrow hblk
          go_wp2_with fail
          go_roundw
          case rel => exact ⟨1, by omega, rfl, l1, rfl, HO4.out, HB4.out⟩
          case measure => simp [intOf]
        · have hl' : l = l1 := by simpa using hl
          clear hl
          subst hl'
          go_wp2_with (at_builtin; refine wpList_append_src _ rfl _ _ 23 rfl wo.heap.size 5 j0 (.int .u8 0) 1 Try.underlying23 HJ.out hy0 hy1 hy2 rfl _ l.length (encB l) rfl HO3.out a2 n2 c2 (encB l2) rfl (by simp [encB, H2.out]) HV2.out (encB_one _) (by have := H1.out; unfold maxLen; omega) (by have := H1.out; omega) (by omega) ?_)
          intro v4 w4 hown hgrow hblk
          have HB4 := Lib.hid (HB3.out.grown hgrow hs3 (fun k hk => (HO3.out.lt k hk).1))
          have HO4 : Hid (w4.ownsRow wo.heap.size 5 1 v4 (l ++ l2).length (encB (l ++ l2))) := Lib.hid (by rw [List.length_append, H2.out, encB_append]; exact hown)
          clear hown hgrow hblk
          go_wp2_with fail
          go_roundw
          case rel => exact ⟨2, by omega, rfl, _, rfl, HO4.out, HB4.out⟩
          case measure => simp [intOf]
        · have hl' : l = l1 ++ l2 := by simpa using hl
          clear hl
          subst hl'
          go_wp2_with fail
          go_ret
          exact ⟨_, rfl, HO3.out, HB3.out⟩
/-- the length that a header states -/
def hdN (l : List UInt8) : Nat := (l.getD 4 0).toNat * 256 + (l.getD 5 0).toNat + 7
def hdOk (l : List UInt8) : Bool := decide ((l.getD 0 0).toNat < 32) && decide (hdN l ≤ 4096)
/-- the same, or 0 if it is malformed -/
def lenB (l : List UInt8) : Nat := if hdOk l then hdN l else 0
theorem ret_len {a b : Int} {v : Bool} (h : a = b) : Ending.returned (.tuple #[.int .i64 a, .bool v]) = .returned (.tuple #[.int .i64 b, .bool v]) := by rw [h]
theorem cell_getD {w : World} {b off : Nat} {l : List UInt8} (h : BAt w (some ⟨b, off, none⟩) l) (i : Nat) (hi : i < l.length) : w.cell? ⟨b, off + i, none⟩ = some (.int .u8 ((l.getD i 0).toNat : Int)) := by
  rcases h with h | ⟨b', off', h1, h2, h3⟩
  · subst h; simp at hi
  · cases h1
    rw [h3 i hi, List.getD_eq_getElem?_getD, List.getElem?_eq_getElem hi]
    rfl
set_option maxRecDepth 20000 in
set_option maxHeartbeats 1000000 in
theorem length_any (a : Option Addr) (n cap : Nat) (l : List UInt8) (w : World) (hn : l.length = n) (h6 : 6 ≤ n) (hl : n ≤ 1000000) (hb : BAt w a l) : Calls Try.prog 26 #[.slice a n cap] w fun e w' => e = .returned (.tuple #[.int .i64 (hdN l : Nat), .bool (hdOk l)]) ∧ Quiet w w' := by
  obtain ⟨b, off, rfl, hbl, -⟩ := id (hb.resolve_left (fun e => by subst e; simp at hn; omega))
  have c0 := cell_getD hb 0 (by omega)
  have c4 := cell_getD hb 4 (by omega)
  have c5 := cell_getD hb 5 (by omega)
  simp only [Nat.add_zero] at c0
  obtain ⟨x0, hx0⟩ : ∃ x, x = (l.getD 0 0).toNat := ⟨_, rfl⟩
  obtain ⟨x4, hx4⟩ : ∃ x, x = (l.getD 4 0).toNat := ⟨_, rfl⟩
  obtain ⟨x5, hx5⟩ : ∃ x, x = (l.getD 5 0).toNat := ⟨_, rfl⟩
  have b0 : x0 < 256 := by rw [hx0]; exact UInt8.toNat_lt _
  have b4 : x4 < 256 := by rw [hx4]; exact UInt8.toNat_lt _
  have b5 : x5 < 256 := by rw [hx5]; exact UInt8.toNat_lt _
  rw [← hx0] at c0
  rw [← hx4] at c4
  rw [← hx5] at c5
  have HN : Hid (hdN l = x4 * 256 + x5 + 7) := Lib.hid (by rw [hdN, hx4, hx5])
  have HK : Hid (hdOk l = (decide (x0 < 32) && decide (x4 * 256 + x5 + 7 ≤ 4096))) := Lib.hid (by rw [hdOk, HN.out, hx0])
  have g4 : (4 : Int) < (n : Int) := by omega
  have g5 : (5 : Int) < (n : Int) := by omega
  have g0 : (0 : Int) < (n : Int) := by omega
  clear hb hx0 hx4 hx5
  by_cases h0 : x0 < 32
  · have e0 : (x0 : Int) / 32 = 0 := by omega
    have H0 := Lib.hid h0
    clear h0
    by_cases h1 : x4 * 256 + x5 + 7 ≤ 4096
    · have e1 : 7 + (x4 : Int) * 256 + (x5 : Int) ≤ 4096 := by omega
      have H1 := Lib.hid h1
      clear h1
      go_enter Try.func26, Try.ntmps26
      go_wp2_with fail
      go_quiet (fail)
      have cq : (w.drewN nq).cell? ⟨b, off, none⟩ = some (.int .u8 (x0 : Int)) := c0
      go_wp2_with fail
      refine bodyPost_ret (v := .tuple #[.int .i64 (7 + (x4 : Int) * 256 + (x5 : Int)), .bool true]) (by simp [results, Try.results26, go_sem, *]) rfl ⟨?_, (Quiet.refl w).drewN nq⟩
      rw [HK.out, HN.out, decide_eq_true H0.out, decide_eq_true H1.out]
      exact ret_len (by omega)
    · have e1 : ¬ 7 + (x4 : Int) * 256 + (x5 : Int) ≤ 4096 := by omega
      have H1 := Lib.hid h1
      clear h1
      go_enter Try.func26, Try.ntmps26
      go_wp2_with fail
      go_quiet (fail)
      have cq : (w.drewN nq).cell? ⟨b, off, none⟩ = some (.int .u8 (x0 : Int)) := c0
      go_wp2_with fail
      refine bodyPost_ret (v := .tuple #[.int .i64 (7 + (x4 : Int) * 256 + (x5 : Int)), .bool false]) (by simp [results, Try.results26, go_sem, *]) rfl ⟨?_, (Quiet.refl w).drewN nq⟩
      rw [HK.out, HN.out, decide_eq_true H0.out, decide_eq_false H1.out]
      exact ret_len (by omega)
  · have e0 : ¬ (x0 : Int) / 32 = 0 := by omega
    have H0 := Lib.hid h0
    clear h0
    go_enter Try.func26, Try.ntmps26
    go_wp2_with fail
    go_quiet (fail)
    have cq : (w.drewN nq).cell? ⟨b, off, none⟩ = some (.int .u8 (x0 : Int)) := c0
    go_wp2_with fail
    refine bodyPost_ret (v := .tuple #[.int .i64 (7 + (x4 : Int) * 256 + (x5 : Int)), .bool false]) (by simp [results, Try.results26, go_sem, *]) rfl ⟨?_, (Quiet.refl w).drewN nq⟩
    rw [HK.out, HN.out, decide_eq_false H0.out]
    exact ret_len (by omega)
set_option maxRecDepth 20000 in
set_option maxHeartbeats 1000000 in
theorem rlength_any (a : Option Addr) (n cap : Nat) (l : List UInt8) (w : World) (hn : l.length = n) (h6 : 6 ≤ n) (hl : n ≤ 1000000) (hb : BAt w a l) : Calls Try.prog 23 #[.slice a n cap] w fun e w' => e = .returned (.int .i64 (lenB l : Nat)) ∧ Quiet w w' := by
  obtain ⟨b, off, rfl, hbl, -⟩ := id (hb.resolve_left (fun e => by subst e; simp at hn; omega))
  have c0 := cell_getD hb 0 (by omega)
  have c4 := cell_getD hb 4 (by omega)
  have c5 := cell_getD hb 5 (by omega)
  simp only [Nat.add_zero] at c0
  obtain ⟨x0, hx0⟩ : ∃ x, x = (l.getD 0 0).toNat := ⟨_, rfl⟩
  obtain ⟨x4, hx4⟩ : ∃ x, x = (l.getD 4 0).toNat := ⟨_, rfl⟩
  obtain ⟨x5, hx5⟩ : ∃ x, x = (l.getD 5 0).toNat := ⟨_, rfl⟩
  have b0 : x0 < 256 := by rw [hx0]; exact UInt8.toNat_lt _
  have b4 : x4 < 256 := by rw [hx4]; exact UInt8.toNat_lt _
  have b5 : x5 < 256 := by rw [hx5]; exact UInt8.toNat_lt _
  rw [← hx0] at c0
  rw [← hx4] at c4
  rw [← hx5] at c5
  have HN : Hid (hdN l = x4 * 256 + x5 + 7) := Lib.hid (by rw [hdN, hx4, hx5])
  have HK : Hid (lenB l = if (decide (x0 < 32) && decide (x4 * 256 + x5 + 7 ≤ 4096)) = true then x4 * 256 + x5 + 7 else 0) := Lib.hid (by rw [lenB, hdOk, HN.out, hx0])
  have g4 : (4 : Int) < (n : Int) := by omega
  have g5 : (5 : Int) < (n : Int) := by omega
  have g0 : (0 : Int) < (n : Int) := by omega
  clear hb hx0 hx4 hx5
  by_cases h0 : x0 < 32
  · have e0 : ¬ (32 : Int) ≤ (x0 : Int) := by omega
    have H0 := Lib.hid h0
    clear h0
    by_cases h1 : x4 * 256 + x5 + 7 ≤ 4096
    · have e1 : ¬ (4096 : Int) < (x4 : Int) * 256 + (x5 : Int) + 7 := by omega
      have H1 := Lib.hid h1
      clear h1
      go_enter Try.func23, Try.ntmps23
      go_wp2_with fail
      go_quiet (fail)
      have cq : (w.drewN nq).cell? ⟨b, off, none⟩ = some (.int .u8 (x0 : Int)) := c0
      go_wp2_with fail
      go_ret
      exact ⟨ret_int (by rw [HK.out, decide_eq_true H0.out, decide_eq_true H1.out]; simp), (Quiet.refl w).drewN nq⟩
    · have e1 : (4096 : Int) < (x4 : Int) * 256 + (x5 : Int) + 7 := by omega
      have H1 := Lib.hid h1
      clear h1
      go_enter Try.func23, Try.ntmps23
      go_wp2_with fail
      go_quiet (fail)
      have cq : (w.drewN nq).cell? ⟨b, off, none⟩ = some (.int .u8 (x0 : Int)) := c0
      go_wp2_with fail
      go_ret
      exact ⟨ret_int (by rw [HK.out, decide_eq_true H0.out, decide_eq_false H1.out]; simp), (Quiet.refl w).drewN nq⟩
  · have e0 : (32 : Int) ≤ (x0 : Int) := by omega
    have H0 := Lib.hid h0
    clear h0
    go_enter Try.func23, Try.ntmps23
    go_wp2_with fail
    go_quiet (fail)
    have cq : (w.drewN nq).cell? ⟨b, off, none⟩ = some (.int .u8 (x0 : Int)) := c0
    go_wp2_with fail
    go_ret
    exact ⟨ret_int (by rw [HK.out, decide_eq_false H0.out]; simp), (Quiet.refl w).drewN nq⟩
end Go.Proofs.Ytllpbfejoahllaa

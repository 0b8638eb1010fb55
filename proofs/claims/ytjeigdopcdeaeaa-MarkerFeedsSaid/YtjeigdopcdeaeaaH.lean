/- few, Right; wrapped frames in a stream, in plain lists. No condition. -/
import Derived.Test.YtjeigdopcdeaeaaG
namespace Go.Proofs.Ytjeigdopcdeaeaa
open Go.RowKit Go.Deep Go.ChangeShapes Go.WideShapes Go.ChangeAt Scr
set_option linter.unusedVariables false

theorem app_app (l : List UInt8) : appB (appB l) = l := by
  refine List.ext_getElem (by rw [appB_length, appB_length]) fun i h1 h2 => ?_
  have h3 : i < (appB l).length := by rw [appB_length]; exact h2
  have e1 : ∀ (m : List UInt8) (h : i < m.length) (h' : i < (appB m).length), (appB m)[i] = UInt8.ofNat (st i) ^^^ m[i] := by
    intro m h h'
    simp [appB, mix, h]
  rw [e1 (appB l) h3 h1, e1 l h2 h3, ← UInt8.xor_assoc, UInt8.xor_self, UInt8.zero_xor]
/-- bytes in which no marker begins around a wrapped frame -/
theorem feed_one (x : UInt8) (fr : List UInt8) (hx : x ≠ 26) (h1 : 1 ≤ fr.length) : feed fr.length ([] ++ ([x, x] ++ wrapB fr ++ [x])) = ([fr], 3, []) := by
  have hl : (appB fr).length = fr.length := appB_length fr
  have hp : ∀ r : List UInt8, pre (x :: r) = false := by
    intro r
    unfold pre
    rw [beq_eq_false_iff_ne]
    intro h
    have h2 := congrArg List.head? h
    have h3 : min (x :: r).length 4 = (min r.length 3) + 1 := by simp; omega
    rw [h3] at h2
    simp [mk] at h2
    exact hx h2
  have e0 : ([] : List UInt8) ++ ([x, x] ++ wrapB fr ++ [x]) = x :: x :: (mk ++ (appB fr ++ [x])) := by simp [wrapB]
  have hb : beg (x :: x :: (mk ++ (appB fr ++ [x]))) = 2 := by
    refine beg_eq _ 2 (by simp) (fun i hi => ?_) (.inr ?_)
    · match i, hi with
      | 0, _ => exact hp _
      | 1, _ => exact hp _
    · show pre (mk ++ (appB fr ++ [x])) = true
      rw [pre_full mk _ (by decide)]
      decide
  have hd : (x :: x :: (mk ++ (appB fr ++ [x]))).drop 2 = mk ++ (appB fr ++ [x]) := rfl
  have hm : mk.length = 4 := rfl
  have h4 : (mk ++ (appB fr ++ [x])).drop 4 = appB fr ++ [x] := rfl
  have h5 : (mk ++ (appB fr ++ [x])).drop (4 + fr.length) = [x] := by
    rw [← List.drop_drop, h4, ← hl, List.drop_left]
  have h6 : feed fr.length [x] = ([], 1, []) := by
    have hb1 : beg [x] = 1 := beg_eq [x] 1 (by simp) (fun i hi => by obtain rfl : i = 0 := (by omega); exact hp []) (.inl rfl)
    have := feed_few fr.length [x] (by rw [hb1]; simp; omega)
    rw [hb1] at this
    exact this
  have h7 := feed_more fr.length (x :: x :: (mk ++ (appB fr ++ [x]))) (by rw [hb, hd]; simp [hm, hl] <;> omega)
  rw [hb, hd, h4, h5, h6, ← hl, List.take_left, app_app, hl] at h7
  rw [e0, h7]
  rfl
/-- few -/
def fewS (L : List (List UInt8)) : Nat := (L.map fun l => min l.length 4000).sum
def fewB (L : List (List UInt8)) : Bool := decide (L.length + fewS L ≤ 3000)
theorem fewS_take (L : List (List UInt8)) (k : Nat) (h : k < L.length) : fewS (L.take (k + 1)) = fewS (L.take k) + min L[k].length 4000 := by
  unfold fewS
  rw [List.take_succ_eq_append_getElem h, List.map_append, List.sum_append]
  simp
theorem fewS_le (L : List (List UInt8)) (k : Nat) : fewS (L.take k) ≤ fewS L := by
  have h : fewS L = fewS (L.take k) + fewS (L.drop k) := by
    conv => lhs; rw [← List.take_append_drop k L]
    unfold fewS
    rw [List.map_append, List.sum_append]
  omega
set_option maxHeartbeats 1000000 in
theorem few_any (S : Nat → Prop) (v : Value) (L : List (List UInt8)) (w : World) (h : SAt w S v L) : Calls Try.prog 10 #[v] w fun e w' => e = .returned (.bool (fewB L)) ∧ w' = w := by
  have H := Lib.hid h
  obtain ⟨a, cap, rfl, hc, hm⟩ := h.len
  clear h hm
  go_enter Try.func10, Try.ntmps10
  go_wp2
  go_loop [3, 4] (fun n i => ∃ k : Nat, k ≤ L.length ∧ i = .int .i64 k ∧ n = .int .i64 ((L.length + fewS (L.take k) : Nat) : Int)) (fun _ i => L.length - (intOf i).toNat)
  case atStart => exact ⟨0, by omega, rfl, by simp [fewS]⟩
  case round =>
    obtain ⟨k, hk, rfl, rfl⟩ := hrel
    obtain ⟨s, hs⟩ : ∃ s, s = L.length + fewS (L.take k) := ⟨_, rfl⟩
    have hle := fewS_le L k
    rw [← hs]
    by_cases hlt : k < L.length
    · obtain ⟨b, off, cp, ae, ce, e, -, -, hb, hcell, hce, -, -, -⟩ := H.out.get hlt
      simp only [Value.slice.injEq, true_and] at e
      obtain ⟨rfl, rfl⟩ := e
      by_cases hn : s ≤ 3000
      · have hn' : (s : Int) ≤ 3000 := by omega
        have hst := fewS_take L k hlt
        have HST := Lib.hid hst
        have HS := Lib.hid hs
        have g1 : (0 : Int) ≤ (k : Int) := by omega
        have g2 : (k : Int) < (L.length : Int) := by omega
        have g3 : (L.length : Int) ≤ 3000 := by omega
        clear hst hs
        by_cases h4 : L[k].length ≤ 4000
        · have h4' : (L[k].length : Int) ≤ 4000 := by omega
          go_wp2
          go_round
          case rel => exact ⟨k + 1, by omega, by go_num, congrArg (Value.int .i64) (by rw [HST.out, Nat.min_eq_left h4, ← Nat.add_assoc, ← HS.out]; omega)⟩
          case measure => simp [intOf]; omega
        · have h4' : ¬ (L[k].length : Int) ≤ 4000 := by omega
          go_wp2
          go_round
          case rel => exact ⟨k + 1, by omega, by go_num, congrArg (Value.int .i64) (by rw [HST.out, Nat.min_eq_right (by omega), ← Nat.add_assoc, ← HS.out]; omega)⟩
          case measure => simp [intOf]; omega
      · have hn' : ¬ (s : Int) ≤ 3000 := by omega
        have HF : Hid (fewB L = false) := Lib.hid (by unfold fewB; rw [decide_eq_false]; omega)
        have g1 : (0 : Int) ≤ (k : Int) := by omega
        have g2 : (k : Int) < (L.length : Int) := by omega
        clear hs
        go_wp2
        go_ret
        exact ⟨ret_bool HF.out.symm, rfl⟩
    · obtain rfl : k = L.length := by omega
      rw [List.take_length] at hs
      have HF : Hid (fewB L = decide (s ≤ 3000)) := Lib.hid (by unfold fewB; rw [hs])
      clear hs
      by_cases hn : s ≤ 3000
      · have hn' : (s : Int) ≤ 3000 := by omega
        have HN := Lib.hid hn
        go_wp2
        go_ret
        exact ⟨ret_bool (by rw [HF.out, decide_eq_true HN.out]), rfl⟩
      · have hn' : ¬ (s : Int) ≤ 3000 := by omega
        have HN := Lib.hid hn
        go_wp2
        go_ret
        exact ⟨ret_bool (by rw [HF.out, decide_eq_false HN.out]), rfl⟩
theorem few_sizes (L : List (List UInt8)) (h : fewB L = true) : L.length ≤ 3000 ∧ ∀ i (h : i < L.length), L[i].length ≤ 3000 := by
  unfold fewB at h
  rw [decide_eq_true_eq] at h
  refine ⟨by omega, fun i hi => ?_⟩
  have h1 := fewS_take L i hi
  have h2 := fewS_le L (i + 1)
  omega
def rightB (s : Int) : Bool := decide (1 ≤ s) && decide (s ≤ 1024)
theorem right_any (s : Int) (w : World) : Calls Try.prog 9 #[.int .i64 s] w fun e w' => e = .returned (.bool (rightB s)) ∧ w' = w := by
  by_cases h1 : 1 ≤ s
  · by_cases h2 : s ≤ 1024
    · go_enter Try.func9, Try.ntmps9
      go_wp2
      go_ret
      exact ⟨ret_bool (by simp [rightB, h1, h2]), rfl⟩
    · go_enter Try.func9, Try.ntmps9
      go_wp2
      go_ret
      exact ⟨ret_bool (by simp [rightB]; omega), rfl⟩
  · go_enter Try.func9, Try.ntmps9
    go_wp2
    go_ret
    exact ⟨ret_bool (by simp [rightB]; omega), rfl⟩
end Go.Proofs.Ytjeigdopcdeaeaa

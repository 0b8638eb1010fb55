/- The reference: Sides, Broken, Restore, Ints. No condition. -/
import Derived.Test.YtgfloeclepmdlaaG
namespace Go.Proofs.Ytgfloeclepmdlaa
open Go.RowKit Go.Deep Go.ChangeShapes Go.WideShapes Go.ChangeAt
set_option linter.unusedVariables false

set_option maxRecDepth 20000 in
set_option maxHeartbeats 2000000 in
theorem rsides_any {w : World} {a : Option Addr} {us : List U} (c : Nat) (h : RAt w a us) : Calls Try.prog 32 #[.slice a us.length c] w (IQ w (sidesS us)) := by
  have H := Lib.hid h
  have hlen := h.1
  obtain ⟨i0, hi, hz0, hz1, hz2⟩ := info_parts info3
  clear h
  unfold IQ
  go_enter Try.func32, Try.ntmps32
  go_wp2_with fail
  go_loopw [3, 4] (fun v i wr => ∃ k : Nat, k ≤ us.length ∧ i = .int .i64 k ∧ wr.ownsRow w.heap.size 3 1 v (sidesS (us.take k)).length (ivs (sidesS (us.take k))) ∧ Below w.heap.size w wr) (fun _ i _ => us.length - (intOf i).toNat)
  case atStart => exact ⟨0, by omega, rfl, World.ownsRow_nil _ _ _ _, Below.refl _ _⟩
  case round =>
    obtain ⟨k, hk, rfl, hO, hB⟩ := hrel
    have HO := Lib.hid hO
    have HB := Lib.hid hB
    have hsz := hB.size
    clear hO hB
    by_cases hlt : k < us.length
    · obtain ⟨g, rfl, hR⟩ := (H.out.below HB.out (Nat.le_refl _)).get hlt
      obtain ⟨r0, r1, r2, r3⟩ := hR.at hlt
      have hg := hR.lt
      have hk0 : (0 : Int) ≤ (k : Int) := by omega
      have hk1 : (k : Int) < (us.length : Int) := by omega
      have hll : (sidesS (us.take k)).length ≤ 256 := by simp [sidesS]; omega
      clear hR
      go_wp2_with (at_builtin; refine wpList_append_own _ rfl _ _ 30 rfl w.heap.size 3 i0 (.int .i64 0) 1 8 Try.underlying30 hi hz0 hz1 hz2 rfl (by decide) _ _ _ rfl (HO.out.alloc _) ⟨wr.heap.size, 0, none⟩ 1 1 [.int .i64 us[k].side] rfl rfl (one_new _ _ _) (one_cell rfl) (by unfold maxLen; omega) (by omega) (by simp; omega) ?_)
      intro v' w1' hown' hgrow _
      have HB1 := Lib.hid ((al HB.out _).grown hgrow (by simp; omega) (fun r hr => (HO.out.lt r hr).1))
      have HO1 : Hid (w1'.ownsRow w.heap.size 3 1 v' (sidesS (us.take (k + 1))).length (ivs (sidesS (us.take (k + 1))))) := by
        rw [sides_snoc us hlt, ivs_snoc, List.length_append]; exact hown'
      clear hown' hgrow
      go_wp2_with fail
      go_roundw
      case rel => exact ⟨k + 1, by omega, by go_num, HO1.out, HB1.out⟩
      case measure => simp [intOf]; omega
    · obtain rfl : k = us.length := by omega
      rw [List.take_length] at HO
      go_wp2_with fail
      go_ret
      exact ⟨_, rfl, HO.out, HB.out⟩
set_option maxRecDepth 20000 in
set_option maxHeartbeats 4000000 in
theorem rbroken_any {w : World} {a : Option Addr} {us : List U} (c : Nat) (h : RAt w a us) (ok : SideOk us) : Calls Try.prog 31 #[.slice a us.length c] w (IQ w (brokenS us)) := by
  have H := Lib.hid h
  have OK := Lib.hid ok
  have hlen := h.1
  obtain ⟨i0, hi, hz0, hz1, hz2⟩ := info_parts info3
  clear h ok
  unfold IQ
  go_enter Try.func31, Try.ntmps31
  go_wp2_with fail
  go_loopw [3, 4] (fun v i wr => ∃ k : Nat, k ≤ us.length ∧ i = .int .i64 k ∧ wr.ownsRow w.heap.size 3 1 v (brokenS (us.take k)).length (ivs (brokenS (us.take k))) ∧ Below w.heap.size w wr) (fun _ i _ => us.length - (intOf i).toNat)
  case atStart => exact ⟨0, by omega, rfl, World.ownsRow_nil _ _ _ _, Below.refl _ _⟩
  case round =>
    obtain ⟨k, hk, rfl, hO, hB⟩ := hrel
    have HO := Lib.hid hO
    have HB := Lib.hid hB
    have hsz := hB.size
    clear hO hB
    by_cases hlt : k < us.length
    · obtain ⟨g, rfl, hR⟩ := (H.out.below HB.out (Nat.le_refl _)).get hlt
      obtain ⟨r0, r1, r2, r3⟩ := hR.at hlt
      have hg := hR.lt
      clear hR
      have hk0 : (0 : Int) ≤ (k : Int) := by omega
      have hk1 : (k : Int) < (us.length : Int) := by omega
      have hll : (brokenS (us.take k)).length ≤ 256 := by have := broken_le us k; omega
      have hs := OK.out _ (List.getElem_mem hlt)
      have hd : us[k].side = 0 ∧ us[k].dead = us[k].f0 ∨ us[k].side = 1 ∧ us[k].dead = us[k].f1 := by
        rcases hs with h | h
        · exact .inl ⟨h, by simp [U.dead, h]⟩
        · exact .inr ⟨h, by simp [U.dead, h]⟩
      have HSN := Lib.hid (broken_snoc us hlt)
      have HBQ : Hid (∀ m, Below w.heap.size w (wr.drewN m)) := Lib.hid (fun m => HB.out.trans (Quiet.below ⟨m, rfl⟩))
      clear hs
      obtain ⟨q1, q2, q3, q4⟩ := sums k (by omega)
      cases hdd : us[k].dead
      all_goals
        rw [hdd] at hd HSN
        rcases hd with ⟨hs, hf⟩ | ⟨hs, hf⟩
        all_goals
          rw [hs] at r1
          first | rw [← hf] at r2 r3 | rw [← hf] at r2 | rw [← hf] at r3
          clear hf hs
      all_goals
        go_wp2_with fail
        go_quiet (fail)
      all_goals first
        | (go_wp2_with fail
           go_roundw
           case rel => exact ⟨k + 1, by omega, by go_num, by rw [HSN.out]; exact own_drewN HO.out _, HBQ.out _⟩
           case measure => simp [intOf]; omega)
        | (go_wp2_with (at_builtin; refine wpList_append_own _ rfl _ _ 30 rfl w.heap.size 3 i0 (.int .i64 0) 1 8 Try.underlying30 hi hz0 hz1 hz2 rfl (by decide) _ _ _ rfl ((own_drewN HO.out _).alloc _) ⟨wr.heap.size, 0, none⟩ 1 1 [.int .i64 us[k].id] rfl rfl (one_newAt rfl _ _) (one_cell rfl) (by unfold maxLen; omega) (by omega) (by simp; omega) ?_)
           intro v' w1' hown' hgrow _
           have HB1 := Lib.hid (Below.grown (al (HBQ.out _) _) hgrow (by simp; omega) (fun r hr => (HO.out.lt r hr).1))
           have HO1 : Hid (w1'.ownsRow w.heap.size 3 1 v' (brokenS (us.take (k + 1))).length (ivs (brokenS (us.take (k + 1))))) := by
             rw [HSN.out, if_pos trivial, ivs_snoc, List.length_append]; exact hown'
           clear hown' hgrow
           go_wp2_with fail
           go_roundw
           case rel => exact ⟨k + 1, by omega, by go_num, HO1.out, HB1.out⟩
           case measure => simp [intOf]; omega)
    · obtain rfl : k = us.length := by omega
      rw [List.take_length] at HO
      go_wp2_with fail
      go_ret
      exact ⟨_, rfl, HO.out, HB.out⟩
set_option maxRecDepth 20000 in
set_option maxHeartbeats 2000000 in
theorem ints_any {w : World} {a b : Option Addr} {la lb : List Int} (c d : Nat) (ha : VAt w a (ivs la)) (hb : VAt w b (ivs lb)) (hm : la.length ≤ 1000000) : Calls Try.prog 10 #[.slice a la.length c, .slice b lb.length d] w fun e w' => e = .returned (.bool (decide (la = lb))) ∧ Quiet w w' := by
  have HA := Lib.hid ha
  have HB := Lib.hid hb
  clear ha hb
  by_cases hn : la.length = lb.length
  · have hne : ((la.length : Int) != (lb.length : Int)) = false := by rw [hn]; simp
    have hnl : (lb.length : Int) = (la.length : Int) := by omega
    have HN := Lib.hid hn
    clear hn
    go_enter Try.func10, Try.ntmps10
    go_wp2_with fail
    go_loopw [5] (fun i wr => ∃ k : Nat, k ≤ la.length ∧ i = .int .i64 k ∧ Quiet w wr ∧ la.take k = lb.take k) (fun i _ => la.length - (intOf i).toNat)
    case atStart => exact ⟨0, by omega, rfl, ⟨0, rfl⟩, rfl⟩
    case round =>
      obtain ⟨k, hk, rfl, hQ, hT⟩ := hrel
      have HT := Lib.hid hT
      have HQ := Lib.hid hQ
      clear hT hQ
      by_cases hlt : k < la.length
      · have hlt2 : k < lb.length := by rw [← HN.out]; exact hlt
        obtain ⟨ga, oa, rfl, hga, hca⟩ := (HA.out).int hlt
        obtain ⟨gb, ob, rfl, hgb, hcb⟩ := (HB.out).int hlt2
        have hca : wr.cell? ⟨ga, oa + k, none⟩ = some (.int .i64 la[k]) := by obtain ⟨m, rfl⟩ := HQ.out; exact hca
        have hcb : wr.cell? ⟨gb, ob + k, none⟩ = some (.int .i64 lb[k]) := by obtain ⟨m, rfl⟩ := HQ.out; exact hcb
        have hk0 : (0 : Int) ≤ (k : Int) := by omega
        have hk1 : (k : Int) < (la.length : Int) := by omega
        obtain ⟨q1, q2, q3, q4⟩ := sums k (by omega)
        by_cases he : la[k] = lb[k]
        · have HE := Lib.hid he
          rw [← he] at hcb
          clear he
          go_wp2_with fail
          go_quiet (fail)
          go_wp2_with fail
          go_roundw
          case rel => exact ⟨k + 1, by omega, by go_num, HQ.out.trans ⟨_, rfl⟩, by rw [List.take_succ_eq_append_getElem hlt, List.take_succ_eq_append_getElem hlt2, HT.out, HE.out]⟩
          case measure => simp [intOf]; omega
        · have he1 : (la[k] != lb[k]) = true := by rw [bne_iff_ne]; exact he
          have HE := Lib.hid he
          clear he
          go_wp2_with fail
          go_quiet (fail)
          go_wp2_with fail
          go_ret
          refine ⟨ret_bool ?_, HQ.out.trans ⟨_, rfl⟩⟩
          symm
          rw [decide_eq_false_iff_not]
          intro h
          subst h
          exact HE.out rfl
      · obtain rfl : k = la.length := by omega
        have he : la = lb := by
          have h := HT.out
          rw [List.take_length, HN.out, List.take_length] at h
          exact h
        have HE := Lib.hid he
        clear he
        go_wp2_with fail
        go_ret
        exact ⟨ret_bool (by rw [decide_eq_true HE.out]), HQ.out⟩
  · have hne : ((la.length : Int) != (lb.length : Int)) = true := by rw [bne_iff_ne]; omega
    rw [decide_eq_false (fun h => hn (by rw [h]))]
    clear hn
    go_enter Try.func10, Try.ntmps10
    go_wp2_with fail
    go_ret
    exact ⟨rfl, ⟨0, rfl⟩⟩
end Go.Proofs.Ytgfloeclepmdlaa

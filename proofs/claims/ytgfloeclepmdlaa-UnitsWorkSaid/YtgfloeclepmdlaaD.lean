/- Sides, Broken. No condition. -/
import Derived.Test.YtgfloeclepmdlaaC
import Derived.Deep.DeepCutAuto
import Derived.Deep.CutBlock
namespace Go.Proofs.Ytgfloeclepmdlaa
open Go.RowKit Go.Deep Go.ChangeShapes Go.WideShapes Go.ChangeAt
set_option linter.unusedVariables false

def sidesS (us : List U) : List Int := us.map U.side
def brokenS (us : List U) : List Int := (us.filter U.dead).map U.id
/-- what a call leaves that gives a list -/
def IQ (w : World) (l : List Int) (e : Ending) (w' : World) : Prop := ∃ v, e = .returned v ∧ w'.ownsRow w.heap.size 3 1 v l.length (ivs l) ∧ Below w.heap.size w w'
theorem info3 : (Try.prog.info? 3).map (fun i => (i.zero, i.size, i.bytes)) = some (some (.int .i64 0), 1, 8) := by kernel_rfl
theorem one_newAt {w : World} {n : Nat} (hn : w.heap.size = n) (x : Value) (t : TypeId) : ∀ j u, [x][j]? = some u → (w.alloc (.cells #[x] t)).cell? ((⟨n, 0, none⟩ : Addr).add j) = some u := by subst hn; exact one_new w x t
theorem ivs_snoc (l : List Int) (z : Int) : ivs (l ++ [z]) = ivs l ++ [.int .i64 z] := by simp [ivs]
theorem sides_snoc (us : List U) {k : Nat} (hk : k < us.length) : sidesS (us.take (k + 1)) = sidesS (us.take k) ++ [us[k].side] := by
  unfold sidesS
  rw [List.take_succ_eq_append_getElem hk, List.map_append]; rfl
theorem broken_snoc (us : List U) {k : Nat} (hk : k < us.length) : brokenS (us.take (k + 1)) = if us[k].dead = true then brokenS (us.take k) ++ [us[k].id] else brokenS (us.take k) := by
  unfold brokenS
  rw [List.take_succ_eq_append_getElem hk, List.filter_append, List.map_append]
  split
  · rename_i h; simp [h]
  · rename_i h; simp [h]
theorem broken_le (us : List U) (k : Nat) : (brokenS (us.take k)).length ≤ us.length := by
  unfold brokenS
  rw [List.length_map]
  exact Nat.le_trans (List.length_filter_le _ _) (by simp; omega)
set_option maxRecDepth 20000 in
set_option maxHeartbeats 2000000 in
theorem sides_any {w : World} {b g cap : Nat} {us : List U} (h : UAt w b g cap us) : Calls Try.prog 11 #[.pointer (some ⟨b, 0, none⟩)] w (IQ w (sidesS us)) := by
  have c0 := h.box.at 0 rfl
  have hb := h.box.lt
  have H := Lib.hid h
  have hlen := h.len
  obtain ⟨i0, hi, hz0, hz1, hz2⟩ := info_parts info3
  clear h
  unfold IQ
  go_enter Try.func11, Try.ntmps11
  go_wp2_with fail
  refine (none_any H.out).mono ?_
  rintro e w2 ⟨rfl, rfl⟩
  go_wp2_with fail
  go_loopw [3, 14] (fun v i wr => ∃ k : Nat, k ≤ us.length ∧ i = .int .i64 k ∧ wr.ownsRow w2.heap.size 3 1 v (sidesS (us.take k)).length (ivs (sidesS (us.take k))) ∧ Below w2.heap.size w2 wr) (fun _ i _ => us.length - (intOf i).toNat)
  case atStart => exact ⟨0, by omega, rfl, World.ownsRow_nil _ _ _ _, Below.refl _ _⟩
  case round =>
    obtain ⟨k, hk, rfl, hO, hB⟩ := hrel
    have HO := Lib.hid hO
    have HB := Lib.hid hB
    have hsz := hB.size
    clear hO hB
    by_cases hlt : k < us.length
    · obtain ⟨r0, r1, r2, r3⟩ := (H.out.below HB.out (Nat.le_refl _)).row.at hlt
      have hg := (H.out.below HB.out (Nat.le_refl _)).row.lt
      have hk0 : (0 : Int) ≤ (k : Int) := by omega
      have hk1 : (k : Int) < (us.length : Int) := by omega
      have hll : (sidesS (us.take k)).length ≤ 256 := by simp [sidesS]; omega
      go_wp2_with (at_builtin; refine wpList_append_own _ rfl _ _ 30 rfl w2.heap.size 3 i0 (.int .i64 0) 1 8 Try.underlying30 hi hz0 hz1 hz2 rfl (by decide) _ _ _ rfl ((HO.out.alloc _).alloc _) ⟨wr.heap.size + 1, 0, none⟩ 1 1 [.int .i64 us[k].side] rfl rfl (one_newAt (by simp) _ _) (one_cell rfl) (by unfold maxLen; omega) (by omega) (by simp; omega) ?_)
      intro v' w1' hown' hgrow _
      have HB1 := Lib.hid ((al (al HB.out _) _).grown hgrow (by simp; omega) (fun r hr => (HO.out.lt r hr).1))
      have HO1 : Hid (w1'.ownsRow w2.heap.size 3 1 v' (sidesS (us.take (k + 1))).length (ivs (sidesS (us.take (k + 1))))) := by
        rw [sides_snoc us hlt, ivs_snoc, List.length_append]; exact hown'
      clear hown' hgrow
      go_wp2_with fail
      go_roundw
      case rel => exact ⟨k + 1, by omega, by go_num, HO1.out, HB1.out⟩
      case measure => simp [intOf]; omega
    · obtain rfl : k = us.length := by omega
      rw [List.take_length] at HO
      go_wp2_with fail
      go_ret
      exact ⟨_, rfl, HO.out, HB.out⟩
set_option maxRecDepth 20000 in
set_option maxHeartbeats 4000000 in
theorem broken_any {w : World} {b g cap : Nat} {us : List U} (h : UAt w b g cap us) (ok : SideOk us) : Calls Try.prog 12 #[.pointer (some ⟨b, 0, none⟩)] w (IQ w (brokenS us)) := by
  have c0 := h.box.at 0 rfl
  have hb := h.box.lt
  have H := Lib.hid h
  have OK := Lib.hid ok
  have hlen := h.len
  obtain ⟨i0, hi, hz0, hz1, hz2⟩ := info_parts info3
  clear h ok
  unfold IQ
  go_enter Try.func12, Try.ntmps12
  go_wp2_with fail
  refine (none_any H.out).mono ?_
  rintro e w2 ⟨rfl, rfl⟩
  go_wp2_with fail
  go_loopw [3, 14] (fun v i wr => ∃ k : Nat, k ≤ us.length ∧ i = .int .i64 k ∧ wr.ownsRow w2.heap.size 3 1 v (brokenS (us.take k)).length (ivs (brokenS (us.take k))) ∧ Below w2.heap.size w2 wr) (fun _ i _ => us.length - (intOf i).toNat)
  case atStart => exact ⟨0, by omega, rfl, World.ownsRow_nil _ _ _ _, Below.refl _ _⟩
  case round =>
    obtain ⟨k, hk, rfl, hO, hB⟩ := hrel
    have HO := Lib.hid hO
    have HB := Lib.hid hB
    have hsz := hB.size
    clear hO hB
    by_cases hlt : k < us.length
    · obtain ⟨r0, r1, r2, r3⟩ := (H.out.below HB.out (Nat.le_refl _)).row.at hlt
      have hg := (H.out.below HB.out (Nat.le_refl _)).row.lt
      have hk0 : (0 : Int) ≤ (k : Int) := by omega
      have hk1 : (k : Int) < (us.length : Int) := by omega
      have hll : (brokenS (us.take k)).length ≤ 256 := by have := broken_le us k; omega
      have hs := OK.out _ (List.getElem_mem hlt)
      have hd : us[k].side = 0 ∧ us[k].dead = us[k].f0 ∨ us[k].side = 1 ∧ us[k].dead = us[k].f1 := by
        rcases hs with h | h
        · exact .inl ⟨h, by simp [U.dead, h]⟩
        · exact .inr ⟨h, by simp [U.dead, h]⟩
      have HSN := Lib.hid (broken_snoc us hlt)
      cases hdd : us[k].dead
      all_goals
        rw [hdd] at hd HSN
        rcases hd with ⟨hs, hf⟩ | ⟨hs, hf⟩
        all_goals
          rw [hs] at r1
          first | rw [← hf] at r2 r3 | rw [← hf] at r2 | rw [← hf] at r3
          clear hf hs
      all_goals first
        | (go_wp2_with fail
           go_roundw
           case rel => exact ⟨k + 1, by omega, by go_num, by rw [HSN.out]; exact HO.out.alloc _, al HB.out _⟩
           case measure => simp [intOf]; omega)
        | (go_wp2_with (at_builtin; refine wpList_append_own _ rfl _ _ 30 rfl w2.heap.size 3 i0 (.int .i64 0) 1 8 Try.underlying30 hi hz0 hz1 hz2 rfl (by decide) _ _ _ rfl ((HO.out.alloc _).alloc _) ⟨wr.heap.size + 1, 0, none⟩ 1 1 [.int .i64 us[k].id] rfl rfl (one_newAt (by simp) _ _) (one_cell rfl) (by unfold maxLen; omega) (by omega) (by simp; omega) ?_)
           intro v' w1' hown' hgrow _
           have HB1 := Lib.hid ((al (al HB.out _) _).grown hgrow (by simp; omega) (fun r hr => (HO.out.lt r hr).1))
           have HO1 : Hid (w1'.ownsRow w2.heap.size 3 1 v' (brokenS (us.take (k + 1))).length (ivs (brokenS (us.take (k + 1))))) := by
             rw [HSN.out, if_pos trivial, ivs_snoc, List.length_append]; exact hown'
           clear hown' hgrow
           go_wp2_with fail
           go_roundw
           case rel => exact ⟨k + 1, by omega, by go_num, HO1.out, HB1.out⟩
           case measure => simp [intOf]; omega)
    · obtain rfl : k = us.length := by omega
      rw [List.take_length] at HO
      go_wp2_with fail
      go_ret
      exact ⟨_, rfl, HO.out, HB.out⟩
end Go.Proofs.Ytgfloeclepmdlaa

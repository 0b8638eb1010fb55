/- Contract of the reference's Apply; the chapter's examples. No condition. -/
import Derived.Test.YtjeigdopcdeaeaaSC
import Derived.Deep.AppendLies
import Derived.Deep.RegionLaw
namespace Go.Proofs.Ytjeigdopcdeaeaa
open Go.RowKit Go.Shelf Go.Deep Scr
set_option linter.unusedVariables false

theorem seqB_at (n i : Nat) (h : i < n) : (encB (seqB n))[i]? = some (.int .u8 (st i)) := by
  have := st_lt i
  simp [encB, seqB, h, UInt8.toNat_ofNat', Nat.mod_eq_of_lt this]
theorem appB_length (l : List UInt8) : (appB l).length = l.length := mix_length l _
theorem appB_take (l : List UInt8) (k : Nat) (hk : k < l.length) : (appB l).take (k + 1) = (appB l).take k ++ [l[k] ^^^ UInt8.ofNat (st k)] := by
  rw [List.take_succ_eq_append_getElem (by rw [appB_length]; exact hk)]
  congr 1
  simp [appB, mix, hk, UInt8.xor_comm]

theorem RApply_any (a : Option Addr) (cap : Nat) (l : List UInt8) (w : World) (hl : l.length ≤ 1000000) (hb : BAt w a l) :
    Calls Try.prog 20 #[.slice a l.length cap] w (Gives (appB l) w) := by
  have H := Lib.hid hb
  clear hb
  obtain ⟨j0, hj, hy0, hy1, hy2⟩ := info_parts info5
  go_enter Try.func20, Try.ntmps20
  go_wp2_with fail
  refine (RSeq_any _ (by omega) _).mono ?_
  rintro e w1 ⟨v, rfl, hown, hnil, hB⟩
  rw [Int.toNat_natCast, seqB_length] at hown
  clear hnil
  obtain ⟨a', cap', rfl⟩ : ∃ a' cap', v = .slice a' l.length cap' := by
    rcases hown.2 with ⟨h, h'⟩ | ⟨g, cap', cur, h, _⟩
    · exact ⟨none, 0, by rw [h, h']⟩
    · exact ⟨_, cap', h⟩
  have HS := Lib.hid (show ∀ k, k < l.length → ∃ g, a' = some ⟨g, 0, none⟩ ∧ g < w1.heap.size ∧ w1.cell? ⟨g, k, none⟩ = some (.int .u8 (st k)) from fun k hk => by
    rcases hown.2 with ⟨_, h⟩ | ⟨g, cap', cur, h, _⟩
    · omega
    · simp only [Value.slice.injEq, true_and] at h
      obtain ⟨rfl, rfl⟩ := h
      exact ⟨g, rfl, (hown.lt g rfl).2, (hown.cellAt k (by omega)).trans (seqB_at _ _ hk)⟩)
  clear hown
  go_wp2_with fail
  go_loopw [4, 5] (fun v i wr => ∃ k : Nat, k ≤ l.length ∧ i = .int .i64 k ∧ wr.ownsRow w1.heap.size 5 1 v k (encB ((appB l).take k)) ∧ Below w1.heap.size w1 wr ∧ (k = 0 → v = .slice none 0 0)) (fun _ i _ => l.length - (intOf i).toNat)
  case atStart => exact ⟨0, by omega, rfl, World.ownsRow_nil _ _ _ _, Below.refl _ _, fun _ => rfl⟩
  case round =>
    obtain ⟨k, hk, rfl, hrow, hBo, hz⟩ := hrel
    have HZ := Lib.hid hz
    clear hz
    by_cases hlt : k < l.length
    · obtain ⟨b, off, rfl, hb, hc⟩ := (H.out.below hB (Nat.le_refl _)).resolve_left (by intro h; simp [h] at hlt)
      obtain ⟨g, rfl, hg, hcg⟩ := HS.out k hlt
      have ck : wr.cell? ⟨b, off + k, none⟩ = some (.int .u8 (l[k].toNat : Int)) := (hBo.cell (p := ⟨b, _, none⟩) hb).trans (hc k hlt)
      have cg : wr.cell? ⟨g, k, none⟩ = some (.int .u8 (st k)) := (hBo.cell (p := ⟨g, _, none⟩) hg).trans hcg
      have hx := Lib.hid (show bits .xor .u8 (l[k].toNat : Int) (st k : Int) = (((l[k] ^^^ UInt8.ofNat (st k)).toNat : Nat) : Int) by rw [← xor_u8, st_u8])
      have HT := Lib.hid (appB_take l k hlt)
      clear hc hcg
      go_wp2_with fail
      have hBs := hBo.size
      go_region_law ((refine step_append_lies _ rfl _ _ 22 rfl w1.heap.size 5 j0 (.int .u8 0) 1 1 Try.underlying22 hj hy0 hy1 hy2 rfl (by decide) _ k (encB ((appB l).take k)) rfl (hrow.alloc _).drew ⟨wr.heap.size, 0, none⟩ 1 1 [.int .u8 (bits .xor .u8 (l[k].toNat : Int) (st k : Int))] rfl rfl (one_new _ _ _) (one_cell rfl) (by omega) (by unfold maxLen; omega) (by omega) (by simp; omega) (wr.heap.size + 1) (by simp) ?_; intro g' cap'' w5 hown' hgrow hwhere hlt5))
      all_goals
        have hB5 : Below w1.heap.size w1 w5 := (hBo.alloc hBo.size _).drew.grown hgrow (by simp; omega) (fun r hr => (hrow.lt r hr).1)
        have hown2 : w5.ownsRow w1.heap.size 5 1 (.slice (some ⟨g', 0, none⟩) (k + 1) cap'') (k + 1) (encB ((appB l).take (k + 1))) := by
          rw [HT.out, encB_append]
          rw [hx.out] at hown'
          exact hown'
        clear hown' hgrow
        go_wp2_with fail
        go_roundw
        case rel => exact ⟨k + 1, by omega, by go_num, hown2, hB5, fun h => by omega⟩
        case measure => simp [intOf]; omega
    · obtain rfl : k = l.length := by omega
      go_wp2_with fail
      go_ret
      refine ⟨_, rfl, ?_, ?_, hB.trans (hBo.mono hB.size)⟩
      · rw [appB_length]
        rw [List.take_of_length_le (by rw [appB_length]; omega)] at hrow
        exact Joins.ownsRow_le hrow hB.size
      · rcases hrow.2 with ⟨rfl, h⟩ | ⟨g', cap'', cur, rfl, _, _, hq⟩
        · exact ⟨fun _ => List.length_eq_zero_iff.1 (by rw [appB_length]; exact h), fun _ => rfl⟩
        · exact ⟨fun h => by simp at h, fun h => HZ.out (by rw [← appB_length, h]; rfl)⟩
end Go.Proofs.Ytjeigdopcdeaeaa

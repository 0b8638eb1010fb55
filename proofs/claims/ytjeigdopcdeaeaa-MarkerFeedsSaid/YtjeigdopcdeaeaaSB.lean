/- Contracts of Sequence and Apply in plain calls. No condition. -/
import Derived.Test.YtjeigdopcdeaeaaSQ
namespace Go.Proofs.Ytjeigdopcdeaeaa
open Go.RowKit Go.Shelf Go.Deep Scr
set_option linter.unusedVariables false

/-- the first n bytes of the sequence -/
def seqB (n : Nat) : List UInt8 := (List.range n).map fun i => UInt8.ofNat (st i)
theorem seqB_length (n : Nat) : (seqB n).length = n := by simp [seqB]
theorem bytesTo_enc (n : Nat) : bytesTo n = encB (seqB n) := by
  simp only [bytesTo, encB, seqB, List.map_map]
  refine List.map_congr_left fun i _ => ?_
  have := st_lt i
  simp [UInt8.toNat_ofNat', Nat.mod_eq_of_lt this]

/-- A call that gives bytes in a row of its own. -/
def Gives (l : List UInt8) (w : World) (e : Ending) (w' : World) : Prop :=
  ∃ v, e = .returned v ∧ w'.ownsRow w.heap.size 5 1 v l.length (encB l) ∧ (v = .slice none 0 0 ↔ l = []) ∧ Below w.heap.size w w'

theorem Seq_any (N : Int) (hN : N ≤ 1000000000) (w : World) : Calls Try.prog 25 #[.int .i64 N] w (Gives (seqB N.toNat) w) := by
  refine (callsIn_wide.1 (Seq_in Fence.wide 3 trivial trivial trivial rfl (by omega) N hN w)).mono ?_
  rintro e w' ⟨v, rfl, h1, h2, h3⟩
  rw [bytesTo_enc] at h1
  refine ⟨v, rfl, by rw [seqB_length]; exact h1, h2.trans ?_, h3⟩
  rw [← List.length_eq_zero_iff, seqB_length]

/-- the first k bytes mixed with l, the rest as they are -/
def mix (l : List UInt8) (k : Nat) : List UInt8 := (List.range l.length).map fun i => if i < k then UInt8.ofNat (st i) ^^^ l.getD i 0 else UInt8.ofNat (st i)
/-- the exclusive or with the sequence -/
def appB (l : List UInt8) : List UInt8 := mix l l.length
theorem mix_length (l : List UInt8) (k : Nat) : (mix l k).length = l.length := by simp [mix]
theorem mix_zero (l : List UInt8) : mix l 0 = seqB l.length := by simp [mix, seqB]
theorem mix_at (l : List UInt8) (k : Nat) (hk : k < l.length) : (encB (mix l k))[k]? = some (.int .u8 (st k)) := by
  have := st_lt k
  simp [encB, mix, hk, UInt8.toNat_ofNat', Nat.mod_eq_of_lt this]
theorem mix_set (l : List UInt8) (k : Nat) (hk : k < l.length) : (encB (mix l k)).set k (.int .u8 (((UInt8.ofNat (st k) ^^^ l[k]).toNat : Nat) : Int)) = encB (mix l (k + 1)) := by
  refine List.ext_getElem (by simp [encB, mix]) fun i h1 h2 => ?_
  have hi : i < l.length := by simpa [encB, mix] using h2
  simp only [encB, mix, List.getElem_set, List.getElem_map, List.getElem_range]
  by_cases h : k = i
  · subst h
    rw [if_pos rfl, if_pos (by omega)]
    simp [List.getD, hk]
  · rw [if_neg h]
    by_cases h3 : i < k
    · rw [if_pos h3, if_pos (by omega)]
    · rw [if_neg h3, if_neg (by omega)]
theorem st_u8 (k : Nat) : ((UInt8.ofNat (st k)).toNat : Int) = (st k : Int) := by
  have := st_lt k
  simp [UInt8.toNat_ofNat', Nat.mod_eq_of_lt this]

theorem Apply_any (a : Option Addr) (cap : Nat) (l : List UInt8) (w : World) (hl : l.length ≤ 1000000000) (hb : BAt w a l) :
    Calls Try.prog 18 #[.slice a l.length cap] w (Gives (appB l) w) := by
  have H := Lib.hid hb
  clear hb
  go_enter Try.func18, Try.ntmps18
  go_wp2_with fail
  refine (Seq_any _ (by omega) _).mono ?_
  rintro e w1 ⟨v, rfl, hown, hnil, hB⟩
  rw [Int.toNat_natCast] at hown hnil
  rw [seqB_length] at hown
  rcases Nat.eq_zero_or_pos l.length with h0 | h0
  · obtain rfl : l = [] := List.length_eq_zero_iff.1 h0
    obtain rfl : v = .slice none 0 0 := hnil.2 rfl
    have HO := Lib.hid hown
    clear hown hnil
    go_wp2_with fail
    refine wp_loop_rounds 1 ?_
    rw [rounds_succ]
    go_wp2_with fail
    go_ret
    exact ⟨_, rfl, HO.out, by simp [appB, mix], hB⟩
  · obtain ⟨g, cap', rfl⟩ : ∃ g cap', v = .slice (some ⟨g, 0, none⟩) l.length cap' := by
      rcases hown.2 with ⟨_, h⟩ | ⟨g, cap', cur, rfl, _⟩
      · omega
      · exact ⟨g, cap', rfl⟩
    rw [← mix_zero] at hown
    clear hnil
    go_wp2_with fail
    go_loopw [10] (fun i wr => ∃ k : Nat, k ≤ l.length ∧ i = .int .i64 k ∧ wr.ownsRow w.heap.size 5 1 (.slice (some ⟨g, 0, none⟩) l.length cap') l.length (encB (mix l k)) ∧ Below w.heap.size w wr) (fun i _ => l.length - (intOf i).toNat)
    case atStart => exact ⟨0, by omega, rfl, hown, hB⟩
    case round =>
      obtain ⟨k, hk, rfl, hown, hB⟩ := hrel
      by_cases hlt : k < l.length
      · obtain ⟨b, off, rfl, hb, hc⟩ := (H.out.below hB (Nat.le_refl _)).resolve_left (by intro h; simp [h] at h0)
        have hck := hc k hlt
        have hgk : wr.cell? ⟨g, k, none⟩ = some (.int .u8 (st k)) := (hown.cellAt k (by omega)).trans (mix_at l k hlt)
        have hgf := hown.frozenAt k
        have hgl := (hown.lt g rfl)
        have hbw : b < w.heap.size := by
          rcases H.out with h | ⟨b', off', h1, h2, _⟩
          · simp [h] at h0
          · simp only [Option.some.injEq, Addr.mk.injEq, and_true] at h1
            omega
        clear hc
        have HM := Lib.hid (mix_set l k hlt)
        have hx := Lib.hid (xor_u8 (UInt8.ofNat (st k)) l[k])
        have hkn : (k : Int) < (l.length : Int) := by omega
        go_wp2_with fail
        go_region
        all_goals
          go_wp2_with fail
          go_roundw
          case rel =>
            refine ⟨k + 1, by omega, by go_num, ?_, ?_⟩
            · have h1 := (hown.stored k (.int .u8 (bits .xor .u8 (st k : Int) (l[k].toNat : Int)))).1
              rw [show bits .xor .u8 (st k : Int) (l[k].toNat : Int) = (((UInt8.ofNat (st k) ^^^ l[k]).toNat : Nat) : Int) by rw [← hx.out, st_u8]] at h1 ⊢
              rw [HM.out] at h1
              exact h1.drew
            · exact (hB.setCell (p := ⟨g, k, none⟩) hgl.1 _).drew
          case measure => simp [intOf]; omega
      · obtain rfl : k = l.length := by omega
        go_wp2_with fail
        go_ret
        exact ⟨_, rfl, by rw [appB, mix_length]; exact hown, ⟨fun h => by simp at h, fun h => absurd (congrArg List.length h) (by rw [appB, mix_length, List.length_nil]; omega)⟩, hB⟩
end Go.Proofs.Ytjeigdopcdeaeaa

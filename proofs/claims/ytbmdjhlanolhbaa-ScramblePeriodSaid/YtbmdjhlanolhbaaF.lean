/- What ScramblePeriod's code answers. No condition. -/
import Derived.Test.YtbmdjhlanolhbaaE
import Derived.Deep.RegionHeld
namespace Go.Proofs.Ytbmdjhlanolhbaa
open Go.RowKit Go.Shelf Go.Deep Scr
set_option linter.unusedVariables false

theorem undrew2 {w w1 : World} (h : Below w.drew.heap.size w.drew w1) : Below w.heap.size w w1 := ⟨h.os, h.tape, h.output, h.size, h.block⟩
theorem seqB_take (n m : Nat) (h : m ≤ n) : (seqB n).take m = seqB m := by
  refine List.ext_getElem (by simp [seqB]; omega) fun i h1 h2 => ?_
  simp [seqB]
theorem BAt.take {w : World} {a : Option Addr} {l : List UInt8} (h : BAt w a l) (m : Nat) : BAt w a (l.take m) := by
  rcases h with rfl | ⟨b, off, h1, h2, h3⟩
  · exact .inl (by simp)
  · exact .inr ⟨b, off, h1, h2, fun i hi => by
      have h4 : i < l.length := by simp at hi; omega
      have := h3 i h4
      simpa using this⟩

theorem tm (s u : Nat) : ((s : Int) / 2 ^ u).tmod 2 = ((s / 2 ^ u % 2 : Nat) : Int) := by
  have h : (2 : Int) ^ u = ((2 ^ u : Nat) : Int) := by push_cast; rfl
  have h2 : (s : Int) / 2 ^ u = ((s / 2 ^ u : Nat) : Int) := by rw [h, Int.natCast_ediv]
  rw [h2]
  generalize s / 2 ^ u = z
  rw [Int.tmod_eq_emod_of_nonneg (by omega)]
  omega
theorem tm_ne {s u s' u' : Nat} (h : s / 2 ^ u % 2 = s' / 2 ^ u' % 2) : (((s : Int) / 2 ^ u).tmod 2 != ((s' : Int) / 2 ^ u').tmod 2) = false := by
  rw [tm, tm, h]; simp

set_option maxRecDepth 20000 in
theorem Period_any (a b : Nat) (w : World) (ha : a < 65536) (hb : b < 65536) :
    Calls Try.prog 6 #[.int .u16 a, .int .u16 b] w fun e w' => e = .returned (.bool true) ∧ Below w.heap.size w w' := by
  obtain ⟨x, ex, hx⟩ : ∃ x : Nat, (a : Int) % 2000 = (x : Int) ∧ x < 2000 := ⟨a % 2000, by omega, by omega⟩
  obtain ⟨y, ey, hy⟩ : ∃ y : Nat, (b : Int) % 2000 = (y : Int) ∧ y < 2000 := ⟨b % 2000, by omega, by omega⟩
  obtain ⟨M, es, hM, hxM⟩ : ∃ M : Nat, (x : Int) + (y : Int) = (M : Int) ∧ M ≤ 4000 ∧ x ≤ M := ⟨x + y, by omega, by omega, by omega⟩
  go_enter Try.func6, Try.ntmps6
  go_wp2_with fail
  refine (Seq_any (M : Int) (by omega) _).mono ?_
  rintro e w1 ⟨v, rfl, hown, hnil, hB1⟩
  rw [Int.toNat_natCast] at hown hnil
  rw [seqB_length] at hown
  rcases Nat.eq_zero_or_pos M with h0 | h0
  · obtain rfl := h0
    obtain rfl : v = .slice none 0 0 := hnil.2 (by simp [seqB])
    obtain rfl : x = 0 := by omega
    obtain rfl : y = 0 := by omega
    clear hown hnil es hM hxM hx hy
    go_wp2_with fail
    refine (Seq_any 0 (by omega) _).mono ?_
    rintro e w2 ⟨v2, rfl, hown2, hnil2, hB2⟩
    obtain rfl : v2 = .slice none 0 0 := hnil2.2 (by simp [seqB])
    clear hown2 hnil2
    have hcv : (convert 23 9 (.slice none 0 0)).run Try.prog w2.drew = .ok (.string ⟨#[]⟩) w2.drew := (BAt.nil w2.drew none).str 23 9 5 0 Try.underlying23 Try.underlying5 Try.underlying9
    go_wp2_with fail
    go_region
    go_wp2_with fail
    refine wp_loop_rounds 1 ?_
    rw [rounds_succ]
    go_wp2_with fail
    refine wp_loop_rounds 1 ?_
    rw [rounds_succ]
    go_wp2_with (go_at_call 7; refine (lives_any _).mono ?_; rintro e w9 ⟨rfl, hB9⟩)
    go_ret
    exact ⟨rfl, below2 (below2 hB1 hB2) (undrew2 hB9)⟩
  · obtain ⟨g, cap', rfl⟩ : ∃ g cap', v = .slice (some ⟨g, 0, none⟩) M cap' := by
      rcases hown.2 with ⟨_, h⟩ | ⟨g, cap', cur, rfl, _⟩
      · omega
      · exact ⟨g, cap', rfl⟩
    obtain ⟨-, a', cap'', hv, hcap, hcm, hbs⟩ := BAt.of_row (l := seqB M) (by rw [← seqB_length M] at hown; simpa [seqB_length] using hown)
    obtain ⟨rfl, rfl⟩ : a' = some ⟨g, 0, none⟩ ∧ cap'' = cap' := by simp at hv; exact ⟨hv.1.symm, hv.2.2.symm⟩
    rw [seqB_length] at hcap
    clear hv hown hnil hcm
    have HS := Lib.hid hbs
    clear hbs
    go_wp2_with fail
    refine (Seq_any (x : Int) (by omega) _).mono ?_
    intro e w2 h
    obtain ⟨t, capt, rfl, hct, hbt, hB2⟩ := h.take
    rw [Int.toNat_natCast] at hct hbt ⊢
    rw [seqB_length] at hct ⊢
    have hb3 := HS.out.below hB2 (Nat.le_refl _)
    have HSat : ∀ wr, Quiet w2 wr → ∀ i, i < M → wr.cell? ⟨g, i, none⟩ = some (.int .u8 (st i)) := by
      intro wr hq i hi
      rcases hb3.quiet hq with h | ⟨b, off, h1, h2, h3⟩
      · exact absurd (congrArg List.length h) (by rw [seqB_length]; simp; omega)
      · simp only [Option.some.injEq, Addr.mk.injEq, and_true] at h1
        obtain ⟨rfl, rfl⟩ := h1
        have := h3 i (by rw [seqB_length]; exact hi)
        rw [Nat.zero_add] at this
        rw [this, ← st_u8 i]
        simp [seqB]
    have HSat' := Lib.hid HSat
    clear HSat
    have hcvs : (convert 23 9 (.slice (some ⟨g, 0, none⟩) x cap'')).run Try.prog w2.drew = .ok (.string ⟨(seqB x).toArray⟩) w2.drew := by
      have := (show BAt w2.drew _ _ from hb3.take x).str 23 9 5 cap'' Try.underlying23 Try.underlying5 Try.underlying9
      rw [seqB_take _ _ hxM, seqB_length] at this
      exact this
    have hcvt : (convert 23 9 (.slice t x capt)).run Try.prog w2.drew = .ok (.string ⟨(seqB x).toArray⟩) w2.drew := by
      have := (show BAt w2.drew _ _ from hbt).str 23 9 5 capt Try.underlying23 Try.underlying5 Try.underlying9
      rw [seqB_length] at this
      exact this
    have HS2 := Lib.hid hb3
    have hB3 := below2 hB1 hB2
    clear h hb3 hbt HS hB1 hB2
    have hi1 : (0 : Int) ≤ (x : Int) := by omega
    have hi2 : (x : Int) ≤ (cap'' : Int) := by omega
    go_wp2_with fail
    go_region
    go_wp2_with fail
    clear hcvs hcvt hi1 hi2 hcap hct
    have HB3 := Lib.hid hB3
    clear hB3
    go_loopw [9] (fun i wr => ∃ k : Nat, 255 ≤ k ∧ i = .int .i64 k ∧ Quiet w2 wr) (fun i _ => M - (intOf i).toNat)
    case atStart => exact ⟨255, by omega, rfl, (Quiet.refl w2).drewN 1⟩
    case round =>
      obtain ⟨k, hk, rfl, hq⟩ := hrel
      by_cases hlt : k < M
      · obtain ⟨j, ej, hjk⟩ : ∃ j : Nat, (k : Int) - 255 = (j : Int) ∧ j + 255 = k := ⟨k - 255, by omega, by omega⟩
        have hgk := HSat'.out wr hq k hlt
        have hgj := HSat'.out wr hq j (by omega)
        rw [← hjk, st_period] at hgk
        rw [hjk] at hgk
        have ej2 := hjk
        clear hjk
        have hkn : (k : Int) < (M : Int) := by omega
        have hk0 : (0 : Int) ≤ (k : Int) := by omega
        have hjn : (j : Int) < (M : Int) := by omega
        have hj0 : (0 : Int) ≤ (j : Int) := by omega
        have EJ := Lib.hid ej2
        clear ej2
        obtain ⟨q1, q2, q3, q4⟩ := sums k (by omega)
        go_wp2_with fail
        go_quiet (fail)
        have hq' := hq.drewN nq
        generalize wr.drewN nq = wq at hq' ⊢
        go_wp2_with fail
        go_roundw
        case rel => exact ⟨k + 1, by omega, by go_num, hq'⟩
        case measure => simp [intOf]; omega
      · have hkn : ¬ (k : Int) < (M : Int) := by omega
        obtain ⟨N, e8, hN, hNM⟩ : ∃ N : Nat, (8 : Int) * (M : Int) = (N : Int) ∧ N ≤ 32000 ∧ N = 8 * M := ⟨8 * M, by omega, by omega, rfl⟩
        have HNM := Lib.hid hNM
        clear hNM
        go_wp2_with fail
        clear hkn hlt hk
        go_loopw [10] (fun i wr => ∃ k : Nat, 255 ≤ k ∧ i = .int .i64 k ∧ Quiet w2 wr) (fun i _ => N - (intOf i).toNat)
        case atStart => exact ⟨255, by omega, rfl, hq⟩
        case round =>
          obtain ⟨k, hk, rfl, hq⟩ := hrel
          by_cases hlt : k < N
          · obtain ⟨j, ej, hjk⟩ : ∃ j : Nat, (k : Int) - 255 = (j : Int) ∧ j + 255 = k := ⟨k - 255, by omega, by omega⟩
            obtain ⟨p, ep, hp⟩ : ∃ p : Nat, (k : Int) / 8 = (p : Int) ∧ p = k / 8 := ⟨k / 8, by omega, rfl⟩
            obtain ⟨r, er, hr⟩ : ∃ r : Nat, (k : Int) % 8 = (r : Int) ∧ r = k % 8 := ⟨k % 8, by omega, rfl⟩
            obtain ⟨u, eu, hu⟩ : ∃ u : Nat, (7 : Int) - (r : Int) = (u : Int) ∧ u = 7 - k % 8 := ⟨7 - k % 8, by omega, rfl⟩
            obtain ⟨p', ep', hp'⟩ : ∃ p : Nat, (j : Int) / 8 = (p : Int) ∧ p = j / 8 := ⟨j / 8, by omega, rfl⟩
            obtain ⟨r', er', hr'⟩ : ∃ r : Nat, (j : Int) % 8 = (r : Int) ∧ r = j % 8 := ⟨j % 8, by omega, rfl⟩
            obtain ⟨u', eu', hu'⟩ : ∃ u : Nat, (7 : Int) - (r' : Int) = (u : Int) ∧ u = 7 - j % 8 := ⟨7 - j % 8, by omega, rfl⟩
            have hpM : p < M := by have := HNM.out; omega
            have hpM' : p' < M := by have := HNM.out; omega
            have hgk := HSat'.out wr hq p hpM
            have hgj := HSat'.out wr hq p' hpM'
            have hkn : (k : Int) < (N : Int) := by omega
            have hk0 : (0 : Int) ≤ (k : Int) := by omega
            have hj0 : (0 : Int) ≤ (j : Int) := by omega
            have hp0 : (0 : Int) ≤ (p : Int) := by omega
            have hp1 : (p : Int) < (M : Int) := by omega
            have hp0' : (0 : Int) ≤ (p' : Int) := by omega
            have hp1' : (p' : Int) < (M : Int) := by omega
            have hu0 : (0 : Int) ≤ (u : Int) := by omega
            have hu0' : (0 : Int) ≤ (u' : Int) := by omega
            have hb1 := bit_of_byte k
            have hb2 := bit_of_byte j
            rw [← hjk, bit_period, hb2, hjk, ← hp, ← hu, ← hp', ← hu'] at hb1
            have EB := Lib.hid hb1
            have EJ := Lib.hid hjk
            have hu8 : u < 8 := by omega
            have hu8' : u' < 8 := by omega
            clear hb1 hb2 hp hr hu hp' hr' hu' hjk
            obtain ⟨q1, q2, q3, q4⟩ := sums k (by omega)
            go_wp2_with fail
            go_quiet (fail)
            have hq' := hq.drewN nq
            generalize wr.drewN nq = wq at hq' ⊢
            rw [tm_ne (by first | exact EB.out | exact EB.out.symm)]
            go_wp2_with fail
            go_roundw
            case rel => exact ⟨k + 1, by omega, by go_num, hq'⟩
            case measure => simp [intOf]; omega
          · have hkn : ¬ (k : Int) < (N : Int) := by omega
            go_wp2_with (go_at_call 7; refine (lives_any _).mono ?_; rintro e w9 ⟨rfl, hB9⟩)
            go_ret
            exact ⟨rfl, below2 (below2 HB3.out hq.below) hB9⟩
end Go.Proofs.Ytbmdjhlanolhbaa

/- Contracts: the value of a curve. No condition. -/
import Derived.Test.YtcgneldccbcidaaE
namespace Go.Proofs.Ytcgneldccbcidaa
open Go.ChangeShapes Go.WideShapes Go.ChangeAt Go.RowKit Go.Deep Calib50

theorem Pts.tail {w : World} {b off n : Nat} {X Y : Nat → Int} (h : Pts w (some ⟨b, off, none⟩) n X Y) (hn : 1 ≤ n) : Pts w (some ⟨b, off + 2, none⟩) (n - 1) (fun i => X (i + 1)) (fun i => Y (i + 1)) := by
  rcases h with h | ⟨b', off', h1, h2, h3⟩
  · exact .inl (by omega)
  · simp only [Option.some.injEq, Addr.mk.injEq, and_true] at h1
    obtain ⟨rfl, rfl⟩ := h1
    refine .inr ⟨b, off + 2, rfl, h2, fun i hi => ?_⟩
    have := h3 (i + 1) (by omega)
    rw [show off + 2 + i * 2 = off + (i + 1) * 2 by omega]
    exact this

theorem at_any (a : Option Addr) (n cap : Nat) (X Y : Nat → Int) (raw : Int) (w : World) (hn : n ≤ cap) (hp : Pts w a n X Y) (ho : okB X Y n = true) (h0 : X 0 ≤ raw) (h1 : raw ≤ X (n - 1)) :
    Calls Try.prog 26 #[.slice a n cap, .int .i64 raw] w fun e w' => e = .returned (.int .i64 (val X Y n raw)) ∧ Below w.heap.size w w' := by
  obtain ⟨n2, n256, hall⟩ := ok_of ho
  have hrise := ok_rise ho
  have b0 := (hall 0 (by omega)).1
  have b1 := (hall (n - 1) (by omega)).1
  have hT := hp
  obtain ⟨b, off, rfl, hb, hc⟩ := hp.resolve_left (by omega)
  have hT := Lib.hid (hT.tail (by omega))
  have HR := Lib.hid hrise
  have HALL := Lib.hid hall
  have HC := Lib.hid hc
  clear hrise hall hc
  go_enter Try.func26, Try.ntmps26
  go_wp2_with fail
  refine (search_any _ _ _ (fun i => X (i + 1)) (fun i => Y (i + 1)) raw _ (by omega) hT.out (fun i hi => (HALL.out (i + 1) (by omega)).1) (by omega) (fun i j hij hj => rise_le HR.out (by omega) (by omega))).mono ?_
  rintro e w1 ⟨i, bb, rfl, hi, hi1, hi2, hB1⟩
  have hat : At X n raw i := by
    have : i + 1 < n := by
      rcases Nat.lt_or_ge (i + 1) n with h | h
      · exact h
      · exfalso
        rcases hi2 with h' | h'
        · omega
        · have e : i - 1 + 1 = n - 1 := by omega
          have h'' : X (i - 1 + 1) < raw := h'
          rw [e] at h''
          omega
    refine ⟨this, hi1.resolve_left (by omega), ?_⟩
    rcases hi2 with h' | h'
    · exact .inl h'
    · by_cases h0 : i = 0
      · exact .inl h0
      · right
        have h'' : X (i - 1 + 1) < raw := h'
        rw [show i - 1 + 1 = i by omega] at h''
        exact h''
  have hin := hat.1
  have hv := Lib.hid (show val X Y n raw = seg X Y i raw by unfold val; rw [idx_eq HR.out hat])
  have c0 := HC.out i (by omega)
  have c1 := HC.out (i + 1) hin
  have e0 : ∀ o, w1.cell? ⟨b, o, none⟩ = w.cell? ⟨b, o, none⟩ := fun o => hB1.cell (p := ⟨b, o, none⟩) hb
  have x0 : w1.cell? ⟨b, off + i * 2, none⟩ = some (.int .i64 (X i)) := (e0 _).trans c0.1
  have y0 : w1.cell? ⟨b, off + i * 2 + 1, none⟩ = some (.int .i64 (Y i)) := (e0 _).trans c0.2
  have x1 : w1.cell? ⟨b, off + (i + 1) * 2, none⟩ = some (.int .i64 (X (i + 1))) := (e0 _).trans c1.1
  have y1 : w1.cell? ⟨b, off + (i + 1) * 2 + 1, none⟩ = some (.int .i64 (Y (i + 1))) := (e0 _).trans c1.2
  have hat2 := hat.2
  clear e0 c0 c1 hi1 hi2 hat
  go_wp2_with fail
  obtain ⟨q1, q2, q3, q4⟩ := sums i (by omega)
  have hb1 : b < w1.heap.size := Nat.lt_of_lt_of_le hb hB1.size
  have hin' : (i : Int) < (n : Int) := by omega
  have hin'' : (i : Int) + 1 < (n : Int) := by omega
  have hX0 := (HALL.out i (by omega)).1
  have hX1 := (HALL.out (i + 1) hin).1
  have hY0 := (HALL.out i (by omega)).2.1
  have hY1 := (HALL.out (i + 1) hin).2.1
  have hlt := rise_lt HR.out (show i < i + 1 by omega) hin
  have hri := hat2.1
  have hrx : X i ≤ raw := by rcases hat2.2 with h | h; · subst h; exact h0
                             · omega
  have m1 := mul_bd (A := 2147483648) (B := 1073741824) (a := Y i) (b := X (i + 1) - X i) (by omega) hY0 (by omega)
  have m2 := mul_bd (A := 4294967296) (B := 1073741824) (a := Y (i + 1) - Y i) (b := raw - X i) (by omega) (by omega) (by omega)
  have hnum := Lib.hid (show num X Y i raw = Y i * (X (i + 1) - X i) + (Y (i + 1) - Y i) * (raw - X i) by unfold num; rw [Int.mul_comm (raw - X i)])
  go_region
  all_goals
    go_wp2_with (go_at_call 22; refine (divide_any _ _ _ (by omega) (by omega) (by omega)).mono ?_; rintro e w2 ⟨rfl, m, rfl⟩)
    go_ret
    exact ⟨ret_int (by rw [hv.out]; unfold seg; rw [hnum.out]), ((((hB1.alloc hB1.size _).alloc (by have := hB1.size; simp; omega) _).trans (Joins.below_draws _ _ _)))⟩
end Go.Proofs.Ytcgneldccbcidaa

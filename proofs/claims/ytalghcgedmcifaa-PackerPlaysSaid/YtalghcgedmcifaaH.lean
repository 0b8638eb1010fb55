/- Contracts of bytes.Clone, Size on both sides, Same. No condition. -/
import Derived.Test.YtalghcgedmcifaaG
namespace Go.Proofs.Ytalghcgedmcifaa
open Go.RowKit Go.Deep Go.ChangeShapes Go.WideShapes Go.ChangeAt
set_option linter.unusedVariables false

theorem eqlN (a : Option Addr) (n c : Nat) (w : World) : (binOp .eql 22 (.slice a n c) (.slice none 0 0)).run Try.prog w = .ok (.bool a.isNone) w := Lib.run_eql_slice_nil w 22 5 a n c 0 0 Try.underlying22
theorem clone_nil (w : World) : Calls Try.prog 27 #[.slice none 0 0] w (NB w []) := by
  have e1 := eqlN none 0 0
  go_enter Try.func27, Try.ntmps27
  go_wp2
  go_ret
  exact ⟨.slice none 0 0, rfl, World.ownsRow_nil _ _ _ _, Below.refl _ _⟩
theorem clone_some (b off cap n : Nat) (l : List UInt8) (w : World) (hn : l.length = n) (hl : l.length ≤ 1000000000) (hb : l = [] ∨ b < w.heap.size ∧ ∀ i (h : i < l.length), w.cell? ⟨b, off + i, none⟩ = some (.int .u8 (l[i].toNat : Int))) :
    Calls Try.prog 27 #[.slice (some ⟨b, off, none⟩) n cap] w (NB w l) := by
  subst hn
  obtain ⟨j0, hj, hy0, hy1, hy2⟩ := info_parts info5
  have hc2 : ∀ i (h : i < l.length), (w.alloc (.cells #[] 5)).cell? ⟨b, off + i, none⟩ = some (.int .u8 (l[i].toNat : Int)) := fun i hi => by
    rcases hb with h | ⟨h, hc⟩
    · subst h; simp at hi
    · rw [← hc i hi]; exact World.cell?_of_block (Below.heap_alloc _ _ _ h)
  have HC := Lib.hid (BAt.news hc2)
  have e1 := eqlN (some ⟨b, off, none⟩) l.length cap
  simp only [Option.isNone_some] at e1
  clear hb hc2
  go_enter Try.func27, Try.ntmps27
  go_wp2_with (at_builtin; refine wpList_append_own _ rfl _ _ 22 rfl w.heap.size 5 j0 (.int .u8 0) 1 1 Try.underlying22 hj hy0 hy1 hy2 rfl (by decide) _ 0 [] rfl (World.ownsRow_made _ #[] 0 (by omega) (by unfold maxLen; omega) rfl) ⟨b, off, none⟩ l.length cap (encB l) rfl (by simp [encB]) HC.out (encB_one _) (by unfold maxLen; omega) (by omega) (by simp) ?_)
  intro v' w1 hown hgrow _
  have HO := Lib.hid (show w1.ownsRow w.heap.size 5 1 v' l.length (encB l) by simpa using hown)
  have HG := Lib.hid hgrow
  clear hown hgrow
  go_wp2_with fail
  go_ret
  exact ⟨_, rfl, HO.out, ((Below.refl _ _).alloc (Nat.le_refl _) _).grown HG.out (by simp) (fun k hk => by simp [Value.ownBlock] at hk; omega)⟩
/-- the number in two bytes -/
def wz (x y : UInt8) : Int := 256 * (x.toNat : Int) + (y.toNat : Int)
theorem wz_bd (x y : UInt8) : 0 ≤ wz x y ∧ wz x y ≤ 65535 := by
  have h0 := x.toNat_lt
  have h1 := y.toNat_lt
  unfold wz
  omega
theorem wz_any (b off n cap : Nat) (x0 x1 : UInt8) (w : World) (hn : 2 ≤ n) (c0 : w.cell? ⟨b, off, none⟩ = some (.int .u8 (x0.toNat : Int))) (c1 : w.cell? ⟨b, off + 1, none⟩ = some (.int .u8 (x1.toNat : Int))) :
    Calls Try.prog 34 #[.slice (some ⟨b, off, none⟩) n cap] w fun e w' => e = .returned (.int .i64 (wz x0 x1)) ∧ ∃ m, w' = w.drewN m := word_any b off n cap x0 x1 w hn c0 c1
/-- the first six bytes -/
theorem six (l : List UInt8) (h : 6 ≤ l.length) : ∃ x0 x1 x2 x3 x4 x5, l[0]? = some x0 ∧ l[1]? = some x1 ∧ l[2]? = some x2 ∧ l[3]? = some x3 ∧ l[4]? = some x4 ∧ l[5]? = some x5 := by
  obtain ⟨x0, x1, x2, x3, x4, x5, e0, e1, e2, e3, e4, e5, -⟩ := take6 l l.length h (Nat.le_refl _)
  exact ⟨x0, x1, x2, x3, x4, x5, e0, e1, e2, e3, e4, e5⟩
/-- the cells of the six -/
theorem six_cells {w : World} {a : Option Addr} {l : List UInt8} (hb : BAt w a l) (h : 6 ≤ l.length) : ∃ b off x0 x1 x2 x3 x4 x5, a = some ⟨b, off, none⟩ ∧ b < w.heap.size ∧ (l[0]? = some x0 ∧ l[1]? = some x1 ∧ l[2]? = some x2 ∧ l[3]? = some x3 ∧ l[4]? = some x4 ∧ l[5]? = some x5) ∧
    (w.cell? ⟨b, off, none⟩ = some (.int .u8 (x0.toNat : Int)) ∧ w.cell? ⟨b, off + 1, none⟩ = some (.int .u8 (x1.toNat : Int)) ∧ w.cell? ⟨b, off + 2, none⟩ = some (.int .u8 (x2.toNat : Int)) ∧ w.cell? ⟨b, off + 3, none⟩ = some (.int .u8 (x3.toNat : Int)) ∧ w.cell? ⟨b, off + 4, none⟩ = some (.int .u8 (x4.toNat : Int)) ∧ w.cell? ⟨b, off + 5, none⟩ = some (.int .u8 (x5.toNat : Int))) := by
  obtain ⟨x0, x1, x2, x3, x4, x5, e0, e1, e2, e3, e4, e5⟩ := six l h
  obtain ⟨b, off, rfl, hbl, hc⟩ := hb.resolve_left (fun e => by rw [e] at h; simp at h)
  have g : ∀ i x, l[i]? = some x → w.cell? ⟨b, off + i, none⟩ = some (.int .u8 (x.toNat : Int)) := fun i x hi => by
    obtain ⟨h1, h2⟩ := List.getElem?_eq_some_iff.1 hi
    rw [hc i h1, h2]
  exact ⟨b, off, x0, x1, x2, x3, x4, x5, rfl, hbl, ⟨e0, e1, e2, e3, e4, e5⟩, g 0 x0 e0, g 1 x1 e1, g 2 x2 e2, g 3 x3 e3, g 4 x4 e4, g 5 x5 e5⟩
/-- two numbers, and draws alone -/
def SQ (w : World) (r : Int × Int) (e : Ending) (w' : World) : Prop := e = .returned (.tuple #[.int .i64 r.1, .int .i64 r.2]) ∧ Quiet w w'
theorem w2_at (l : List UInt8) (i : Nat) (x y : UInt8) (h : l[i]? = some x) (k : l[i + 1]? = some y) : w2 l i = wz x y := by
  unfold w2 wz
  rw [h, k]
  rfl
theorem size_any (a : Option Addr) (cap : Nat) (l : List UInt8) (w : World) (hl : l.length ≤ maxLen) (hcap : l.length ≤ cap) (hcm : cap ≤ maxLen) (hb : BAt w a l) : Calls Try.prog 33 #[.slice a l.length cap] w (SQ w (sizeP l)) := by
  unfold maxLen at hcm
  by_cases h6 : l.length < 6
  · have HF : Hid (sizeP l = (0, 3)) := Lib.hid (by unfold sizeP; rw [if_pos h6])
    have h6' : (l.length : Int) < 6 := by omega
    go_enter Try.func33, Try.ntmps33
    go_wp2
    go_ret2
    rw [HF.out]
    exact ⟨rfl, Quiet.refl _⟩
  · obtain ⟨b, off, x0, x1, x2, x3, x4, x5, rfl, hbl, ⟨e0, e1, e2, e3, e4, e5⟩, c0, c1, c2, c3, c4, c5⟩ := six_cells hb (by omega)
    have HS : Hid (sizeP l = if 32 ≤ x0.toNat then (0, 4) else if 4096 < 7 + wz x4 x5 then (0, 6) else (7 + wz x4 x5, 0)) := Lib.hid (by
      rw [sizeP, if_neg h6, w2_at l 4 x4 x5 e4 e5, e0]; rfl)
    obtain ⟨z0, z1⟩ := wz_bd x4 x5
    have hx := x0.toNat_lt
    have h6' : ¬ (l.length : Int) < 6 := by omega
    have h60 : (6 : Int) ≤ l.length := by omega
    have h61 : (l.length : Int) ≤ cap := by omega
    have h62 : ¬ cap = 4 := by omega
    clear e0 e1 e2 e3 e4 e5 hb
    by_cases h32 : 32 ≤ x0.toNat
    · have hs : ((x0.toNat : Int) / 32 != 0) = true := by rw [bne_iff_ne]; omega
      have H32 := Lib.hid h32
      clear h32
      go_enter Try.func33, Try.ntmps33
      go_wp2
      go_ret2
      rw [HS.out, if_pos H32.out]
      exact ⟨rfl, Quiet.refl _⟩
    · have hs : ((x0.toNat : Int) / 32 != 0) = false := by rw [bne_eq_false_iff_eq]; omega
      have H32 := Lib.hid h32
      clear h32
      by_cases hm : 4096 < 7 + wz x4 x5
      all_goals
        have HM := Lib.hid hm
        go_enter Try.func33, Try.ntmps33
        go_wp2_with fail
        refine (wz_any b (off + 4) _ _ x4 x5 w (by omega) c4 (by rw [Nat.add_assoc]; exact c5)).mono ?_
        rintro e w2 ⟨rfl, hq⟩
        go_wp2_with fail
        go_ret2
        rw [HS.out, if_neg H32.out]
        first | rw [if_pos (by have := HM.out; omega)] | rw [if_neg (by have := HM.out; omega)]
        exact ⟨rfl, hq⟩
theorem rsize_any (a : Option Addr) (cap : Nat) (l : List UInt8) (w : World) (hl : l.length ≤ maxLen) (hcap : l.length ≤ cap) (hcm : cap ≤ maxLen) (hb : BAt w a l) : Calls Try.prog 16 #[.slice a l.length cap] w (SQ w (sizeP l)) := by
  by_cases h6 : l.length < 6
  · have HF : Hid (sizeP l = (0, 3)) := Lib.hid (by unfold sizeP; rw [if_pos h6])
    have h6' : (l.length : Int) < 6 := by omega
    go_enter Try.func16, Try.ntmps16
    go_wp2
    go_ret2
    rw [HF.out]
    exact ⟨rfl, Quiet.refl _⟩
  · obtain ⟨b, off, x0, x1, x2, x3, x4, x5, rfl, hbl, ⟨e0, e1, e2, e3, e4, e5⟩, c0, c1, c2, c3, c4, c5⟩ := six_cells hb (by omega)
    have HS : Hid (sizeP l = if 32 ≤ x0.toNat then (0, 4) else if 4096 < 7 + wz x4 x5 then (0, 6) else (7 + wz x4 x5, 0)) := Lib.hid (by
      rw [sizeP, if_neg h6, w2_at l 4 x4 x5 e4 e5, e0]; rfl)
    obtain ⟨z0, z1⟩ := wz_bd x4 x5
    have hx := x0.toNat_lt
    have h4 := x4.toNat_lt
    have h5 := x5.toNat_lt
    have h6' : ¬ (l.length : Int) < 6 := by omega
    have h60 : (6 : Int) ≤ l.length := by omega
    have h64 : (4 : Int) < l.length := by omega
    have h65 : (5 : Int) < l.length := by omega
    have hw : 7 + 256 * (x4.toNat : Int) + (x5.toNat : Int) = 7 + wz x4 x5 := by unfold wz; omega
    clear e0 e1 e2 e3 e4 e5 hb
    by_cases h32 : 32 ≤ x0.toNat
    · have hs : (32 : Int) ≤ (x0.toNat : Int) := by omega
      have H32 := Lib.hid h32
      clear h32
      go_enter Try.func16, Try.ntmps16
      go_wp2
      go_ret2
      rw [HS.out, if_pos H32.out]
      exact ⟨rfl, Quiet.refl _⟩
    · have hs : ¬ (32 : Int) ≤ (x0.toNat : Int) := by omega
      have H32 := Lib.hid h32
      clear h32
      by_cases hm : 4096 < 7 + wz x4 x5
      all_goals
        have HM := Lib.hid hm
        go_enter Try.func16, Try.ntmps16
        go_wp2_with fail
        go_quiet (fail)
        go_wp2_with fail
        go_ret2
        rw [HS.out, if_neg H32.out]
        first | rw [if_pos (by have := HM.out; omega)] | rw [if_neg (by have := HM.out; omega)]
        exact ⟨rfl, _, rfl⟩
end Go.Proofs.Ytalghcgedmcifaa

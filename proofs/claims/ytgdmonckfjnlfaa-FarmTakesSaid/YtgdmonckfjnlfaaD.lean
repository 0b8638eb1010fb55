/- Directive and control. No condition. -/
import Derived.Test.YtgdmonckfjnlfaaC
namespace Go.Proofs.Ytgdmonckfjnlfaa
open Go.RowKit Go.Deep Go.ChangeShapes Go.WideShapes Go.ChangeAt
set_option linter.unusedVariables false

theorem dir_no (x : TF) (a : Option Addr) (cap : Nat) (w : World) (h : x.byp = false ∨ x.ctl = false) : Calls Try.prog 26 #[x.val a cap] w (DQ w x a cap (dirS x)) := by
  have HF : Hid (dirS x = (0, 0, false)) := if_pos h
  unfold TF.val
  have fin : ∀ w', Below w.heap.size w w' → DQ w x a cap (dirS x) (.returned (.tuple #[.int .i64 0, .int .i64 0, .bool false])) w' := fun w' hB => by rw [HF.out]; exact ⟨rfl, hB⟩
  have FIN := Lib.hid fin
  clear fin
  cases hb : x.byp
  · go_enter Try.func26, Try.ntmps26
    go_wp2
    go_ret3
    exact FIN.out _ (al (Below.refl _ _) _)
  · have hc : x.ctl = false := by
      rcases h with h | h
      · rw [hb] at h; cases h
      · exact h
    go_enter Try.func26, Try.ntmps26
    go_wp2
    go_ret3
    exact FIN.out _ (al (Below.refl _ _) _)
theorem dir_yes (x : TF) (a : Option Addr) (cap : Nat) (w : World) (h : x.byp = true ∧ x.ctl = true) (hx : BAt w a x.dat) (hl : x.dat.length ≤ cap) (hm : x.dat.length ≤ 1000000000) : Calls Try.prog 26 #[x.val a cap] w (DQ w x a cap (dirS x)) := by
  obtain ⟨hb, hc⟩ := h
  have HF : Hid (dirS x = if x.dat = [0] then (0, 0, true)
    else if x.dat.length = 3 ∧ x.dat.head? = some 0x82 ∧ x.dat[1]? = some 0 then (1, ((x.dat[2]?.getD 0).toNat : Int), true)
    else (0, 0, false)) := if_neg (by rw [hb, hc]; simp)
  unfold TF.val
  have fin : ∀ (r : Int × Int × Bool) w', dirS x = r → Below w.heap.size w w' → DQ w x a cap (dirS x) (.returned (.tuple #[.int .i64 r.1, .int .i64 r.2.1, .bool r.2.2])) w' := fun r w' e hB => by rw [e]; exact ⟨rfl, hB⟩
  have FIN := Lib.hid fin
  clear fin
  rcases hx with hx | ⟨ba, off, rfl, hba, hcell⟩
  · have e0 : x.dat.length = 0 := by rw [hx]; rfl
    have e1 : ((x.dat.length : Int) == 1) = false := by rw [e0]; rfl
    have e3 : ((x.dat.length : Int) == 3) = false := by rw [e0]; rfl
    have HX := Lib.hid hx
    clear hx e0
    go_enter Try.func26, Try.ntmps26
    go_wp2
    go_ret3
    exact FIN.out (0, 0, false) _ (by rw [HF.out, HX.out]; rfl) (al (Below.refl _ _) _)
  · obtain ⟨byp, ctl, craft, chan, seq, dat⟩ := x
    simp only at hb hc hl hm hcell HF
    subst hb hc
    have hlb : (w.alloc (.cells #[.bool true, .bool true, .int .i64 craft, .int .i64 chan, .int .i64 seq, .slice (some ⟨ba, off, none⟩) dat.length cap] 31)).heap.size = w.heap.size + 1 := by simp
    have HLB := Lib.hid hlb
    clear hlb
    by_cases n1 : dat.length = 1
    · obtain ⟨b0, rfl⟩ := List.length_eq_one_iff.1 n1
      have c0 : w.cell? ⟨ba, off, none⟩ = some (.int .u8 (b0.toNat : Int)) := hcell 0 (by simp)
      clear hcell n1
      by_cases hz : b0 = 0
      · have hz0 : ((b0.toNat : Int) == 0) = true := by rw [hz]; rfl
        have HZ := Lib.hid hz
        clear hz
        go_enter Try.func26, Try.ntmps26
        go_wp2
        go_ret3
        exact FIN.out (0, 0, true) _ (by rw [HF.out, if_pos (by rw [HZ.out])]) (al (Below.refl _ _) _)
      · have hz0 : ((b0.toNat : Int) == 0) = false := by
          rw [beq_eq_false_iff_ne]
          intro h
          exact hz (UInt8.toNat_inj.1 (by simpa using h))
        have HZ := Lib.hid hz
        clear hz
        go_enter Try.func26, Try.ntmps26
        go_wp2
        go_ret3
        exact FIN.out (0, 0, false) _ (by rw [HF.out, if_neg (by simpa using HZ.out), if_neg (by simp)]) (al (Below.refl _ _) _)
    · have e1 : ((dat.length : Int) == 1) = false := by rw [beq_eq_false_iff_ne]; omega
      have HN1 : Hid (¬ dat = [0]) := fun h => n1 (by rw [h]; rfl)
      by_cases n3 : dat.length = 3
      · match dat, n3 with
        | [b0, b1, b2], _ =>
          have c0 : w.cell? ⟨ba, off, none⟩ = some (.int .u8 (b0.toNat : Int)) := hcell 0 (by simp)
          have c1 : w.cell? ⟨ba, off + 1, none⟩ = some (.int .u8 (b1.toNat : Int)) := hcell 1 (by simp)
          have c2 : w.cell? ⟨ba, off + 2, none⟩ = some (.int .u8 (b2.toNat : Int)) := hcell 2 (by simp)
          clear hcell n1 e1
          have hb2 := b2.toNat_lt
          by_cases hz : b0 = 0x82
          · have hz0 : ((b0.toNat : Int) == 130) = true := by rw [hz]; rfl
            have HZ := Lib.hid hz
            clear hz
            by_cases hy : b1 = 0
            · have hy0 : ((b1.toNat : Int) == 0) = true := by rw [hy]; rfl
              have HY := Lib.hid hy
              clear hy
              go_enter Try.func26, Try.ntmps26
              go_wp2_with fail
              go_quiet (fail)
              go_wp2_with fail
              go_ret3
              exact FIN.out (1, (b2.toNat : Int), true) _ (by rw [HF.out, if_neg HN1.out, if_pos (by rw [HZ.out, HY.out]; simp)]; rfl) ((al (Below.refl _ _) _).trans ((Joins.below_draws _ _ _)))
            · have hy0 : ((b1.toNat : Int) == 0) = false := by
                rw [beq_eq_false_iff_ne]
                intro h
                exact hy (UInt8.toNat_inj.1 (by simpa using h))
              have HY := Lib.hid hy
              clear hy
              go_enter Try.func26, Try.ntmps26
              go_wp2
              go_ret3
              exact FIN.out (0, 0, false) _ (by rw [HF.out, if_neg HN1.out, if_neg (by simpa using fun _ => HY.out)]) (al (Below.refl _ _) _)
          · have hz0 : ((b0.toNat : Int) == 130) = false := by
              rw [beq_eq_false_iff_ne]
              intro h
              exact hz (UInt8.toNat_inj.1 (by simpa using Int.ofNat.inj h))
            have HZ := Lib.hid hz
            clear hz
            go_enter Try.func26, Try.ntmps26
            go_wp2
            go_ret3
            exact FIN.out (0, 0, false) _ (by rw [HF.out, if_neg HN1.out, if_neg (fun h => HZ.out (by simpa using h.2.1))]) (al (Below.refl _ _) _)
      · have e3 : ((dat.length : Int) == 3) = false := by rw [beq_eq_false_iff_ne]; omega
        have HN3 : Hid (¬ dat.length = 3) := n3
        clear n1 n3 hcell
        go_enter Try.func26, Try.ntmps26
        go_wp2
        go_ret3
        exact FIN.out (0, 0, false) _ (by rw [HF.out, if_neg HN1.out, if_neg (fun h => HN3.out h.1)]) (al (Below.refl _ _) _)
end Go.Proofs.Ytgdmonckfjnlfaa

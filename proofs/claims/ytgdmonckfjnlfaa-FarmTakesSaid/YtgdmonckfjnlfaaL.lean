/- The reference: serial numbers of eight bits, Valid, Directive, Right, New. No condition. -/
import Derived.Test.YtgdmonckfjnlfaaI
import Derived.BigQuiet
import Derived.Deep.QuietTactic
namespace Go.Proofs.Ytgdmonckfjnlfaa
open Go.RowKit Go.Deep Go.ChangeShapes Go.WideShapes Go.ChangeAt
set_option linter.unusedVariables false

theorem rpower_any (w : World) : Calls Try.prog 31 #[.int .i64 8] w fun e w' => e = .returned (.int .i64 256) ∧ w' = w := by
  go_enter Try.func31, Try.ntmps31
  go_wp2
  go_ret
  exact ⟨rfl, rfl⟩
theorem rnum_any (n : Int) (w : World) : Calls Try.prog 30 #[.int .i64 n, .int .i64 8] w fun e w' => e = .returned (.bool (cntB n)) ∧ w' = w := by
  by_cases h3 : 0 ≤ n
  · by_cases h4 : n < 256
    · go_enter Try.func30, Try.ntmps30
      go_wp2_with (go_at_call 31; refine (rpower_any _).mono ?_; rintro e w' ⟨rfl, rfl⟩)
      go_ret
      exact ⟨ret_bool (by simp [cntB, h3, h4]), rfl⟩
    · go_enter Try.func30, Try.ntmps30
      go_wp2_with (go_at_call 31; refine (rpower_any _).mono ?_; rintro e w' ⟨rfl, rfl⟩)
      go_ret
      exact ⟨ret_bool (by simp [cntB]; omega), rfl⟩
  · go_enter Try.func30, Try.ntmps30
    go_wp2_with (go_at_call 31; refine (rpower_any _).mono ?_; rintro e w' ⟨rfl, rfl⟩)
    go_ret
    exact ⟨ret_bool (by simp [cntB]; omega), rfl⟩
theorem tmod_bd (n : Int) : - 256 < n.tmod 256 ∧ n.tmod 256 < 256 := ⟨Int.lt_tmod_of_pos n (by omega), Int.tmod_lt_of_pos n (by omega)⟩
theorem rmod_any (n : Int) (w : World) : Calls Try.prog 34 #[.int .i64 n, .int .i64 256] w fun e w' => e = .returned (.int .i64 (n % 256)) ∧ w' = w := by
  have ⟨b1, b2⟩ := tmod_bd n
  go_enter Try.func34, Try.ntmps34
  go_wp2
  go_ret
  exact ⟨ret_int (by
    rw [Int.add_emod_right]
    have h3 : n.tmod 256 = n - 256 * n.tdiv 256 := by have := Int.mul_tdiv_add_tmod n 256; omega
    rw [h3, Int.sub_mul_emod_self_left]), rfl⟩
theorem rdist_any (a b : Int) (w : World) : Calls Try.prog 32 #[.int .i64 a, .int .i64 b, .int .i64 8] w fun e w' => e = .returned (.int .i64 (distC a b)) ∧ w' = w := by
  cases ha : cntB a
  · go_enter Try.func32, Try.ntmps32
    go_wp2_with (go_at_call 30; refine (rnum_any _ _).mono ?_; rintro e w' ⟨rfl, rfl⟩)
    go_ret
    exact ⟨ret_int (by simp [distC, ha]), rfl⟩
  · cases hb : cntB b
    · go_enter Try.func32, Try.ntmps32
      go_wp2_with (go_at_call 30; refine (rnum_any _ _).mono ?_; rintro e w' ⟨rfl, rfl⟩)
      go_ret
      exact ⟨ret_int (by simp [distC, ha, hb]), rfl⟩
    · have h1 : 0 ≤ a ∧ a < 256 := by simpa [cntB] using ha
      have h2 : 0 ≤ b ∧ b < 256 := by simpa [cntB] using hb
      obtain ⟨h1, h3⟩ := h1
      obtain ⟨h2, h4⟩ := h2
      go_enter Try.func32, Try.ntmps32
      go_wp2_with (first | (go_at_call 30; refine (rnum_any _ _).mono ?_; rintro e w' ⟨rfl, rfl⟩) | (go_at_call 31; refine (rpower_any _).mono ?_; rintro e w' ⟨rfl, rfl⟩) | (go_at_call 34; refine (rmod_any _ _).mono ?_; rintro e w' ⟨rfl, rfl⟩))
      go_ret
      exact ⟨ret_int (by simp [distC, ha, hb]), rfl⟩
def withC (n f z : Int) : Bool := cntB n && cntB f && decide (0 ≤ z) && decide (z ≤ 256) && decide (distC f n < z)
theorem rwithin_any (n f z : Int) (w : World) : Calls Try.prog 25 #[.int .i64 n, .int .i64 f, .int .i64 z, .int .i64 8] w fun e w' => e = .returned (.bool (withC n f z)) ∧ w' = w := by
  cases ha : cntB n
  · go_enter Try.func25, Try.ntmps25
    go_wp2_with (go_at_call 30; refine (rnum_any _ _).mono ?_; rintro e w' ⟨rfl, rfl⟩)
    go_ret
    exact ⟨ret_bool (by simp [withC, ha]), rfl⟩
  · cases hb : cntB f
    · go_enter Try.func25, Try.ntmps25
      go_wp2_with (go_at_call 30; refine (rnum_any _ _).mono ?_; rintro e w' ⟨rfl, rfl⟩)
      go_ret
      exact ⟨ret_bool (by simp [withC, ha, hb]), rfl⟩
    · by_cases h1 : 0 ≤ z
      · by_cases h2 : z ≤ 256
        · go_enter Try.func25, Try.ntmps25
          go_wp2_with (first | (go_at_call 30; refine (rnum_any _ _).mono ?_; rintro e w' ⟨rfl, rfl⟩) | (go_at_call 31; refine (rpower_any _).mono ?_; rintro e w' ⟨rfl, rfl⟩) | (go_at_call 32; refine (rdist_any _ _ _).mono ?_; rintro e w' ⟨rfl, rfl⟩))
          go_ret
          exact ⟨ret_bool (by simp [withC, ha, hb, h1, h2]), rfl⟩
        · go_enter Try.func25, Try.ntmps25
          go_wp2_with (first | (go_at_call 30; refine (rnum_any _ _).mono ?_; rintro e w' ⟨rfl, rfl⟩) | (go_at_call 31; refine (rpower_any _).mono ?_; rintro e w' ⟨rfl, rfl⟩) | (go_at_call 32; refine (rdist_any _ _ _).mono ?_; rintro e w' ⟨rfl, rfl⟩))
          go_ret
          exact ⟨ret_bool (by simp [withC]; intros; omega), rfl⟩
      · go_enter Try.func25, Try.ntmps25
        go_wp2_with (first | (go_at_call 30; refine (rnum_any _ _).mono ?_; rintro e w' ⟨rfl, rfl⟩) | (go_at_call 31; refine (rpower_any _).mono ?_; rintro e w' ⟨rfl, rfl⟩) | (go_at_call 32; refine (rdist_any _ _ _).mono ?_; rintro e w' ⟨rfl, rfl⟩))
        go_ret
        exact ⟨ret_bool (by simp [withC]; intros; omega), rfl⟩
set_option maxHeartbeats 4000000 in
theorem rvalid_any (x : TF) (a : Option Addr) (cap : Nat) (w : World) : Calls Try.prog 23 #[x.val a cap] w fun e w' => e = .returned (.bool (validB x)) ∧ w' = w.alloc (x.box a cap) := by
  unfold TF.val TF.box
  by_cases c0 : x.craft < 0
  · go_enter Try.func23, Try.ntmps23
    go_wp2
    go_ret
    exact ⟨ret_bool (by unfold validB; simp; omega), rfl⟩
  · by_cases c1 : 1023 < x.craft
    · go_enter Try.func23, Try.ntmps23
      go_wp2
      go_ret
      exact ⟨ret_bool (by unfold validB; simp; omega), rfl⟩
    · by_cases c2 : x.chan < 0
      · go_enter Try.func23, Try.ntmps23
        go_wp2
        go_ret
        exact ⟨ret_bool (by unfold validB; simp; omega), rfl⟩
      · by_cases c3 : 7 < x.chan
        · go_enter Try.func23, Try.ntmps23
          go_wp2
          go_ret
          exact ⟨ret_bool (by unfold validB; simp; omega), rfl⟩
        · by_cases c4 : x.seq < 0
          · go_enter Try.func23, Try.ntmps23
            go_wp2
            go_ret
            exact ⟨ret_bool (by unfold validB; simp; omega), rfl⟩
          · by_cases c5 : 255 < x.seq
            · go_enter Try.func23, Try.ntmps23
              go_wp2
              go_ret
              exact ⟨ret_bool (by unfold validB; simp; omega), rfl⟩
            · by_cases c6 : (x.dat.length : Int) < 1
              · go_enter Try.func23, Try.ntmps23
                go_wp2
                go_ret
                exact ⟨ret_bool (by unfold validB; simp; omega), rfl⟩
              · by_cases c7 : 1017 < (x.dat.length : Int)
                · go_enter Try.func23, Try.ntmps23
                  go_wp2
                  go_ret
                  exact ⟨ret_bool (by unfold validB; simp; omega), rfl⟩
                · have HV : Hid (validB x = (x.byp || !x.ctl)) := by
                    unfold validB
                    rw [decide_eq_true (show 0 ≤ x.craft by omega), decide_eq_true (show x.craft ≤ 1023 by omega), decide_eq_true (show 0 ≤ x.chan by omega), decide_eq_true (show x.chan ≤ 7 by omega), decide_eq_true (show 0 ≤ x.seq by omega), decide_eq_true (show x.seq ≤ 255 by omega), decide_eq_true (show 1 ≤ x.dat.length by omega), decide_eq_true (show (x.dat.length : Int) ≤ 1017 by omega)]
                    rfl
                  cases hb : x.byp <;> cases hc : x.ctl
                  all_goals
                    rw [hb, hc] at HV
                    go_enter Try.func23, Try.ntmps23
                    go_wp2
                    go_ret
                    exact ⟨ret_bool (by rw [HV.out]; rfl), rfl⟩
theorem rdir_no (x : TF) (a : Option Addr) (cap : Nat) (w : World) (h : x.byp = false ∨ x.ctl = false) : Calls Try.prog 29 #[x.val a cap] w (DQ w x a cap (dirS x)) := by
  have HF : Hid (dirS x = (0, 0, false)) := if_pos h
  unfold TF.val
  have fin : ∀ w', Below w.heap.size w w' → DQ w x a cap (dirS x) (.returned (.tuple #[.int .i64 0, .int .i64 0, .bool false])) w' := fun w' hB => by rw [HF.out]; exact ⟨rfl, hB⟩
  have FIN := Lib.hid fin
  clear fin
  cases hb : x.byp
  · go_enter Try.func29, Try.ntmps29
    go_wp2
    go_ret3
    exact FIN.out _ (al (Below.refl _ _) _)
  · have hc : x.ctl = false := by
      rcases h with h | h
      · rw [hb] at h; cases h
      · exact h
    go_enter Try.func29, Try.ntmps29
    go_wp2
    go_ret3
    exact FIN.out _ (al (Below.refl _ _) _)
theorem rdir_yes (x : TF) (a : Option Addr) (cap : Nat) (w : World) (h : x.byp = true ∧ x.ctl = true) (hx : BAt w a x.dat) (hl : x.dat.length ≤ cap) (hm : x.dat.length ≤ 1000000000) : Calls Try.prog 29 #[x.val a cap] w (DQ w x a cap (dirS x)) := by
  obtain ⟨hb, hc⟩ := h
  have HF : Hid (dirS x = if x.dat = [0] then (0, 0, true)
    else if x.dat.length = 3 ∧ x.dat.head? = some 0x82 ∧ x.dat[1]? = some 0 then (1, ((x.dat[2]?.getD 0).toNat : Int), true)
    else (0, 0, false)) := if_neg (by rw [hb, hc]; simp)
  unfold TF.val
  have fin : ∀ (r : Int × Int × Bool) w', dirS x = r → Below w.heap.size w w' → DQ w x a cap (dirS x) (.returned (.tuple #[.int .i64 r.1, .int .i64 r.2.1, .bool r.2.2])) w' := fun r w' e hB => by rw [e]; exact ⟨rfl, hB⟩
  have FIN := Lib.hid fin
  clear fin
  rcases hx with hx | ⟨ba, off, rfl, hba, hcell⟩
  · have e0 : x.dat.length = 0 := by rw [hx]; rfl
    have e1 : ((x.dat.length : Int) == 1) = false := by rw [e0]; rfl
    have e3 : ((x.dat.length : Int) == 3) = false := by rw [e0]; rfl
    have HX := Lib.hid hx
    clear hx e0
    go_enter Try.func29, Try.ntmps29
    go_wp2
    go_ret3
    exact FIN.out (0, 0, false) _ (by rw [HF.out, HX.out]; rfl) (al (Below.refl _ _) _)
  · obtain ⟨byp, ctl, craft, chan, seq, dat⟩ := x
    simp only at hb hc hl hm hcell HF
    subst hb hc
    have hlb : (w.alloc (.cells #[.bool true, .bool true, .int .i64 craft, .int .i64 chan, .int .i64 seq, .slice (some ⟨ba, off, none⟩) dat.length cap] 31)).heap.size = w.heap.size + 1 := by simp
    have HLB := Lib.hid hlb
    clear hlb
    by_cases n1 : dat.length = 1
    · obtain ⟨b0, rfl⟩ := List.length_eq_one_iff.1 n1
      have c0 : w.cell? ⟨ba, off, none⟩ = some (.int .u8 (b0.toNat : Int)) := hcell 0 (by simp)
      clear hcell n1
      by_cases hz : b0 = 0
      · have hz0 : ((b0.toNat : Int) == 0) = true := by rw [hz]; rfl
        have HZ := Lib.hid hz
        clear hz
        go_enter Try.func29, Try.ntmps29
        go_wp2
        go_ret3
        exact FIN.out (0, 0, true) _ (by rw [HF.out, if_pos (by rw [HZ.out])]) (al (Below.refl _ _) _)
      · have hz0 : ((b0.toNat : Int) == 0) = false := by
          rw [beq_eq_false_iff_ne]
          intro h
          exact hz (UInt8.toNat_inj.1 (by simpa using h))
        have HZ := Lib.hid hz
        clear hz
        go_enter Try.func29, Try.ntmps29
        go_wp2
        go_ret3
        exact FIN.out (0, 0, false) _ (by rw [HF.out, if_neg (by simpa using HZ.out), if_neg (by simp)]) (al (Below.refl _ _) _)
    · have e1 : ((dat.length : Int) == 1) = false := by rw [beq_eq_false_iff_ne]; omega
      have HN1 : Hid (¬ dat = [0]) := fun h => n1 (by rw [h]; rfl)
      by_cases n3 : dat.length = 3
      · match dat, n3 with
        | [b0, b1, b2], _ =>
          have c0 : w.cell? ⟨ba, off, none⟩ = some (.int .u8 (b0.toNat : Int)) := hcell 0 (by simp)
          have c1 : w.cell? ⟨ba, off + 1, none⟩ = some (.int .u8 (b1.toNat : Int)) := hcell 1 (by simp)
          have c2 : w.cell? ⟨ba, off + 2, none⟩ = some (.int .u8 (b2.toNat : Int)) := hcell 2 (by simp)
          clear hcell n1 e1
          have hb2 := b2.toNat_lt
          by_cases hz : b0 = 0x82
          · have hz0 : ((b0.toNat : Int) == 130) = true := by rw [hz]; rfl
            have HZ := Lib.hid hz
            clear hz
            by_cases hy : b1 = 0
            · have hy0 : ((b1.toNat : Int) == 0) = true := by rw [hy]; rfl
              have HY := Lib.hid hy
              clear hy
              go_enter Try.func29, Try.ntmps29
              go_wp2_with fail
              go_quiet (fail)
              go_wp2_with fail
              go_ret3
              exact FIN.out (1, (b2.toNat : Int), true) _ (by rw [HF.out, if_neg HN1.out, if_pos (by rw [HZ.out, HY.out]; simp)]; rfl) ((al (Below.refl _ _) _).trans ((Joins.below_draws _ _ _)))
            · have hy0 : ((b1.toNat : Int) == 0) = false := by
                rw [beq_eq_false_iff_ne]
                intro h
                exact hy (UInt8.toNat_inj.1 (by simpa using h))
              have HY := Lib.hid hy
              clear hy
              go_enter Try.func29, Try.ntmps29
              go_wp2
              go_ret3
              exact FIN.out (0, 0, false) _ (by rw [HF.out, if_neg HN1.out, if_neg (by simpa using fun _ => HY.out)]) (al (Below.refl _ _) _)
          · have hz0 : ((b0.toNat : Int) == 130) = false := by
              rw [beq_eq_false_iff_ne]
              intro h
              exact hz (UInt8.toNat_inj.1 (by simpa using Int.ofNat.inj h))
            have HZ := Lib.hid hz
            clear hz
            go_enter Try.func29, Try.ntmps29
            go_wp2
            go_ret3
            exact FIN.out (0, 0, false) _ (by rw [HF.out, if_neg HN1.out, if_neg (fun h => HZ.out (by simpa using h.2.1))]) (al (Below.refl _ _) _)
      · have e3 : ((dat.length : Int) == 3) = false := by rw [beq_eq_false_iff_ne]; omega
        have HN3 : Hid (¬ dat.length = 3) := n3
        clear n1 n3 hcell
        go_enter Try.func29, Try.ntmps29
        go_wp2
        go_ret3
        exact FIN.out (0, 0, false) _ (by rw [HF.out, if_neg HN1.out, if_neg (fun h => HN3.out h.1)]) (al (Below.refl _ _) _)
theorem rdir_any (x : TF) (a : Option Addr) (cap : Nat) (w : World) (hx : BAt w a x.dat) (hl : x.dat.length ≤ cap) (hm : x.dat.length ≤ 1000000000) : Calls Try.prog 29 #[x.val a cap] w (DQ w x a cap (dirS x)) := by
  by_cases h : x.byp = false ∨ x.ctl = false
  · exact rdir_no x a cap w h
  · refine rdir_yes x a cap w ⟨?_, ?_⟩ hx hl hm
    · cases e : x.byp
      · exact absurd (.inl e) h
      · rfl
    · cases e : x.ctl
      · exact absurd (.inr e) h
      · rfl
def rightB (c ch : Int) : Bool := decide (0 ≤ c) && decide (c ≤ 1023) && decide (0 ≤ ch) && decide (ch ≤ 7)
theorem right_any (c ch : Int) (w : World) : Calls Try.prog 12 #[.int .i64 c, .int .i64 ch] w fun e w' => e = .returned (.bool (rightB c ch)) ∧ w' = w := by
  by_cases h1 : 0 ≤ c <;> by_cases h2 : c ≤ 1023 <;> by_cases h3 : 0 ≤ ch <;> by_cases h4 : ch ≤ 7
  all_goals
    go_enter Try.func12, Try.ntmps12
    go_wp2
    go_ret
    exact ⟨ret_bool (by simp [rightB]; omega), rfl⟩
/-- the reference's end as a value -/
def FS.ref (s : FS) : Value := .agg #[.int .i64 s.craft, .int .i64 s.win, .int .i64 s.chan, .bool s.lock, .bool s.wait, .bool s.retr, .int .i64 s.byp, .int .i64 s.next]
theorem rnew_any (c ch win : Int) (w : World) : Calls Try.prog 14 #[.int .i64 c, .int .i64 ch, .int .i64 win] w fun e w' => e = .returned (FS.ref ⟨c, min (max win 1) 127, ch, false, false, false, 0, 0⟩) ∧ Below w.heap.size w w' := by
  go_enter Try.func14, Try.ntmps14
  go_wp2
  all_goals first
    | (refine bodyPost_ret (v := FS.ref ⟨c, 1, ch, false, false, false, 0, 0⟩) (by simp [results, Try.results14, go_sem, FS.ref, *]; done) rfl ?_
       exact ⟨by rw [show min (max win 1) 127 = 1 by omega], by apply al; exact Below.refl _ _⟩)
    | (refine bodyPost_ret (v := FS.ref ⟨c, 127, ch, false, false, false, 0, 0⟩) (by simp [results, Try.results14, go_sem, FS.ref, *]; done) rfl ?_
       exact ⟨by rw [show min (max win 1) 127 = 127 by omega], by apply al; exact Below.refl _ _⟩)
    | (refine bodyPost_ret (v := FS.ref ⟨c, win, ch, false, false, false, 0, 0⟩) (by simp [results, Try.results14, go_sem, FS.ref, *]; done) rfl ?_
       exact ⟨by rw [show min (max win 1) 127 = win by omega], by apply al; exact Below.refl _ _⟩)
end Go.Proofs.Ytgdmonckfjnlfaa

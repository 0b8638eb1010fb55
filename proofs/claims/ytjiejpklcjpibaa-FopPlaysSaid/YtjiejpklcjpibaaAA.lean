/- The reference's sending end: its value; clamp, at, Valid, New. No condition. -/
import Derived.Test.YtjiejpklcjpibaaQ
import Derived.Lib.MinMax
namespace Go.Proofs.Ytjiejpklcjpibaa
open Go.RowKit Go.Deep Go.ChangeShapes Go.WideShapes Go.ChangeAt
set_option linter.unusedVariables false

def rfc (f : FS) (vU vC : Value) : List Value := [.int .i64 f.craft, .int .i64 f.chan, .int .i64 (f.size : Int), .int .i64 f.tmo, .int .i64 (f.ret : Int), .int .i64 (f.state : Int), vU, .int .i64 (f.acked : Int), .int .i64 (f.flight : Int), .int .i64 (f.front : Int), vC, .int .i64 f.now, .int .i64 f.timer, .int .i64 (f.count : Int)]
def RFV (f : FS) (vU vC : Value) : Value := .agg #[.int .i64 f.craft, .int .i64 f.chan, .int .i64 (f.size : Int), .int .i64 f.tmo, .int .i64 (f.ret : Int), .int .i64 (f.state : Int), vU, .int .i64 (f.acked : Int), .int .i64 (f.flight : Int), .int .i64 (f.front : Int), vC, .int .i64 f.now, .int .i64 f.timer, .int .i64 (f.count : Int)]
def z14 : List Value := [.int .i64 0, .int .i64 0, .int .i64 0, .int .i64 0, .int .i64 0, .int .i64 0, .slice none 0 0, .int .i64 0, .int .i64 0, .int .i64 0, .slice none 0 0, .int .i64 0, .int .i64 0, .int .i64 0]
/-- stores of all cells of a struct -/
def fin14 (w : World) (b : Nat) (x0 x1 x2 x3 x4 x5 x6 x7 x8 x9 x10 x11 x12 x13 : Value) : World :=
  (((((((((((((w.setCell ⟨b, 0, none⟩ x0).setCell ⟨b, 1, none⟩ x1).setCell ⟨b, 2, none⟩ x2).setCell ⟨b, 3, none⟩ x3).setCell ⟨b, 4, none⟩ x4).setCell ⟨b, 5, none⟩ x5).setCell ⟨b, 6, none⟩ x6).setCell ⟨b, 7, none⟩ x7).setCell ⟨b, 8, none⟩ x8).setCell ⟨b, 9, none⟩ x9).setCell ⟨b, 10, none⟩ x10).setCell ⟨b, 11, none⟩ x11).setCell ⟨b, 12, none⟩ x12).setCell ⟨b, 13, none⟩ x13
theorem fin14_fr (w : World) (b : Nat) (x0 x1 x2 x3 x4 x5 x6 x7 x8 x9 x10 x11 x12 x13 : Value) : Fr (fun k => k = b) w (fin14 w b x0 x1 x2 x3 x4 x5 x6 x7 x8 x9 x10 x11 x12 x13) :=
  frs (frs (frs (frs (frs (frs (frs (frs (frs (frs (frs (frs (frs (frs (Fr.refl _ _) _ _) _ _) _ _) _ _) _ _) _ _) _ _) _ _) _ _) _ _) _ _) _ _) _ _) _ _
theorem fin14_blk {w : World} {b : Nat} {T : TypeId} {xs : List Value} (h : Blk w b T xs) (hl : xs.length = 14) (x0 x1 x2 x3 x4 x5 x6 x7 x8 x9 x10 x11 x12 x13 : Value) : Blk (fin14 w b x0 x1 x2 x3 x4 x5 x6 x7 x8 x9 x10 x11 x12 x13) b T [x0, x1, x2, x3, x4, x5, x6, x7, x8, x9, x10, x11, x12, x13] := by
  match xs, hl with
  | [c0, c1, c2, c3, c4, c5, c6, c7, c8, c9, c10, c11, c12, c13], _ =>
    exact Blk.cast ((((((((((((((h.setCell 0 x0).setCell 1 x1).setCell 2 x2).setCell 3 x3).setCell 4 x4).setCell 5 x5).setCell 6 x6).setCell 7 x7).setCell 8 x8).setCell 9 x9).setCell 10 x10).setCell 11 x11).setCell 12 x12).setCell 13 x13) rfl
theorem rclamp_any (n lo hi : Int) (w : World) : Calls Try.prog 41 #[.int .i64 n, .int .i64 lo, .int .i64 hi] w fun e w' => e = .returned (.int .i64 (clampI n lo hi)) ∧ w' = w := by
  go_enter Try.func41, Try.ntmps41
  go_wp2
  go_ret
  exact ⟨rfl, rfl⟩
theorem rvalid_any (c : Cw) (w : World) : Calls Try.prog 43 #[.agg #[.int .i64 c.chan, .bool c.lock, .bool c.wait, .bool c.retr, .int .i64 c.byp, .int .i64 c.next]] w fun e w' => e = .returned (.bool c.valid) ∧ Below w.heap.size w w' := by
  go_enter Try.func43, Try.ntmps43
  go_wp2_with fail
  all_goals
    go_ret
    exact ⟨ret_bool (by unfold Cw.valid; rw [Bool.eq_iff_iff]; simp only [Bool.and_eq_true, decide_eq_true_eq]; simp; omega), al (Below.refl _ _) _⟩
set_option maxRecDepth 20000 in
theorem rnew_any (craft chan size tmo ret : Int) (w : World) : Calls Try.prog 23 #[.int .i64 craft, .int .i64 chan, .int .i64 size, .int .i64 tmo, .int .i64 ret] w fun e w' => e = .returned (RFV (FS.new craft chan size tmo ret) (.slice none 0 0) (.slice none 0 0)) ∧ Below w.heap.size w w' := by
  have h1 := clampI_bd size 1 127 (by omega)
  have h5 := clampI_bd ret 0 255 (by omega)
  have e1 : Hid (((clampI size 1 127).toNat : Int) = clampI size 1 127) := Lib.hid (by omega)
  have e5 : Hid (((clampI ret 0 255).toNat : Int) = clampI ret 0 255) := Lib.hid (by omega)
  clear h1 h5
  go_enter Try.func23, Try.ntmps23
  go_wp2_with (first | fail | (go_at_call 41; refine (rclamp_any _ _ _ _).mono ?_; rintro e wq ⟨rfl, hw⟩; obtain rfl := hw.symm))
  have HK := Lib.hid (Blk.new w 54 (rfc (FS.new craft chan size tmo ret) (.slice none 0 0) (.slice none 0 0)))
  unfold rfc FS.new at HK
  dsimp only at HK
  rw [e1.out, e5.out] at HK
  have hv : RFV (FS.new craft chan size tmo ret) (.slice none 0 0) (.slice none 0 0) = .agg #[.int .i64 (clampI craft 0 1023), .int .i64 (clampI chan 0 7), .int .i64 (clampI size 1 127), .int .i64 (clampI tmo 1 1099511627776), .int .i64 (clampI ret 0 255), .int .i64 1, .slice none 0 0, .int .i64 0, .int .i64 0, .int .i64 0, .slice none 0 0, .int .i64 0, .int .i64 0, .int .i64 0] := by
    unfold RFV FS.new
    dsimp only
    rw [e1.out, e5.out]
    rfl
  have b0 := HK.out.at 0 rfl
  have b1 := HK.out.at 1 rfl
  have b2 := HK.out.at 2 rfl
  have b3 := HK.out.at 3 rfl
  have b4 := HK.out.at 4 rfl
  have b5 := HK.out.at 5 rfl
  have b6 := HK.out.at 6 rfl
  have b7 := HK.out.at 7 rfl
  have b8 := HK.out.at 8 rfl
  have b9 := HK.out.at 9 rfl
  have b10 := HK.out.at 10 rfl
  have b11 := HK.out.at 11 rfl
  have b12 := HK.out.at 12 rfl
  have b13 := HK.out.at 13 rfl
  refine bodyPost_ret (v := .agg #[.int .i64 (clampI craft 0 1023), .int .i64 (clampI chan 0 7), .int .i64 (clampI size 1 127), .int .i64 (clampI tmo 1 1099511627776), .int .i64 (clampI ret 0 255), .int .i64 1, .slice none 0 0, .int .i64 0, .int .i64 0, .int .i64 0, .slice none 0 0, .int .i64 0, .int .i64 0, .int .i64 0]) (by simp [results, Try.results23, go_sem]) rfl ⟨by rw [hv], al (Below.refl _ _) _⟩
set_option maxRecDepth 20000 in
theorem rat_any (f : FS) (a : Option Addr) (n c : Nat) (a' : Option Addr) (n' c' : Nat) (t : Int) (w : World) : Calls Try.prog 42 #[RFV f (.slice a n c) (.slice a' n' c'), .int .i64 t] w fun e w' => e = .returned (RFV (f.clock t) (.slice a n c) (.slice a' n' c')) ∧ Below w.heap.size w w' := by
  obtain ⟨wb, hwb⟩ : ∃ wb, wb = (w.alloc (.cells (rfc f (.slice a n c) (.slice a' n' c')).toArray 54)).alloc (.cells z14.toArray 54) := ⟨_, rfl⟩
  have HK : Hid (Blk wb w.heap.size 54 (rfc f (.slice a n c) (.slice a' n' c'))) := Lib.hid (by rw [hwb]; exact (Blk.new w 54 _).alloc _)
  have HK2 : Hid (Blk wb (w.heap.size + 1) 54 z14) := Lib.hid (by rw [hwb]; exact Blk.newAt (by simp))
  have HB : Hid (Below w.heap.size w wb) := Lib.hid (by rw [hwb]; exact al (al (Below.refl _ _) _) _)
  unfold rfc z14 at hwb
  by_cases h1 : f.now < t
  · by_cases h2 : t ≤ 1099511627776
    · have HF : Hid (f.clock t = { f with now := t }) := Lib.hid (by unfold FS.clock; rw [if_pos h2, Int.max_eq_right (by omega)])
      rw [HF.out]
      unfold RFV
      dsimp only
      go_enter Try.func42, Try.ntmps42
      go_upto_region 1 with fail
      rw [← hwb]
      clear hwb
      have x0 := HK.out.at 0 rfl
      have x1 := HK.out.at 1 rfl
      have x2 := HK.out.at 2 rfl
      have x3 := HK.out.at 3 rfl
      have x4 := HK.out.at 4 rfl
      have x5 := HK.out.at 5 rfl
      have x6 := HK.out.at 6 rfl
      have x7 := HK.out.at 7 rfl
      have x8 := HK.out.at 8 rfl
      have x9 := HK.out.at 9 rfl
      have x10 := HK.out.at 10 rfl
      have x11 := HK.out.at 11 rfl
      have x12 := HK.out.at 12 rfl
      have x13 := HK.out.at 13 rfl
      have x14 := HK.out.lt
      have g11 := HK.out.free 11
      go_upto_region 3 with fail
      obtain ⟨wc, hwc⟩ : ∃ wc, wc = wb.setCell ⟨w.heap.size, 11, none⟩ (.int .i64 t) := ⟨_, rfl⟩
      rw [← hwc]
      have hF : Fr (fun k => k = w.heap.size) wb wc := by rw [hwc]; exact (Fr.refl _ _).set1 _ (by exact .inl rfl)
      have HKN : Hid (Blk wc w.heap.size 54 (rfc { f with now := t } (.slice a n c) (.slice a' n' c'))) := Lib.hid (by rw [hwc]; exact Blk.cast (HK.out.setCell 11 _) rfl)
      have HKN2 := Lib.hid (HK2.out.fr hF (by omega))
      have HBN : Hid (Below w.heap.size w wc) := Lib.hid (HB.out.trans (hF.toBelow HB.out.size (fun k hk => by omega)))
      clear hwc hF x0 x1 x2 x3 x4 x5 x6 x7 x8 x9 x10 x11 x12 x13 x14 g11
      have x0 := HKN.out.at 0 rfl
      have x1 := HKN.out.at 1 rfl
      have x2 := HKN.out.at 2 rfl
      have x3 := HKN.out.at 3 rfl
      have x4 := HKN.out.at 4 rfl
      have x5 := HKN.out.at 5 rfl
      have x6 := HKN.out.at 6 rfl
      have x7 := HKN.out.at 7 rfl
      have x8 := HKN.out.at 8 rfl
      have x9 := HKN.out.at 9 rfl
      have x10 := HKN.out.at 10 rfl
      have x11 := HKN.out.at 11 rfl
      have x12 := HKN.out.at 12 rfl
      have x13 := HKN.out.at 13 rfl
      have x14 := HKN.out.lt
      have d0 := HKN2.out.at 0 rfl
      have d1 := HKN2.out.at 1 rfl
      have d2 := HKN2.out.at 2 rfl
      have d3 := HKN2.out.at 3 rfl
      have d4 := HKN2.out.at 4 rfl
      have d5 := HKN2.out.at 5 rfl
      have d6 := HKN2.out.at 6 rfl
      have d7 := HKN2.out.at 7 rfl
      have d8 := HKN2.out.at 8 rfl
      have d9 := HKN2.out.at 9 rfl
      have d10 := HKN2.out.at 10 rfl
      have d11 := HKN2.out.at 11 rfl
      have d12 := HKN2.out.at 12 rfl
      have d13 := HKN2.out.at 13 rfl
      have e0 := HKN2.out.free 0
      have e1 := HKN2.out.free 1
      have e2 := HKN2.out.free 2
      have e3 := HKN2.out.free 3
      have e4 := HKN2.out.free 4
      have e5 := HKN2.out.free 5
      have e6 := HKN2.out.free 6
      have e7 := HKN2.out.free 7
      have e8 := HKN2.out.free 8
      have e9 := HKN2.out.free 9
      have e10 := HKN2.out.free 10
      have e11 := HKN2.out.free 11
      have e12 := HKN2.out.free 12
      have e13 := HKN2.out.free 13
      have d14 := HKN2.out.lt
      go_wp2_with fail
      have hb := fin14_blk HKN2.out rfl (.int .i64 f.craft) (.int .i64 f.chan) (.int .i64 (f.size : Int)) (.int .i64 f.tmo) (.int .i64 (f.ret : Int)) (.int .i64 (f.state : Int)) (.slice a n c) (.int .i64 (f.acked : Int)) (.int .i64 (f.flight : Int)) (.int .i64 (f.front : Int)) (.slice a' n' c') (.int .i64 t) (.int .i64 f.timer) (.int .i64 (f.count : Int))
      unfold fin14 at hb
      have HR := Lib.hid hb
      have b0 := HR.out.at 0 rfl
      have b1 := HR.out.at 1 rfl
      have b2 := HR.out.at 2 rfl
      have b3 := HR.out.at 3 rfl
      have b4 := HR.out.at 4 rfl
      have b5 := HR.out.at 5 rfl
      have b6 := HR.out.at 6 rfl
      have b7 := HR.out.at 7 rfl
      have b8 := HR.out.at 8 rfl
      have b9 := HR.out.at 9 rfl
      have b10 := HR.out.at 10 rfl
      have b11 := HR.out.at 11 rfl
      have b12 := HR.out.at 12 rfl
      have b13 := HR.out.at 13 rfl
      exact bodyPost_ret (v := .agg #[.int .i64 f.craft, .int .i64 f.chan, .int .i64 (f.size : Int), .int .i64 f.tmo, .int .i64 (f.ret : Int), .int .i64 (f.state : Int), .slice a n c, .int .i64 (f.acked : Int), .int .i64 (f.flight : Int), .int .i64 (f.front : Int), .slice a' n' c', .int .i64 t, .int .i64 f.timer, .int .i64 (f.count : Int)]) (by simp [results, Try.results42, go_sem, b0, b1, b2, b3, b4, b5, b6, b7, b8, b9, b10, b11, b12, b13]) rfl ⟨rfl, HBN.out.trans ((fin14_fr _ _ _ _ _ _ _ _ _ _ _ _ _ _ _ _).toBelow HBN.out.size (fun k hk => by omega))⟩
    · have HF : Hid (f.clock t = f) := Lib.hid (by unfold FS.clock; rw [if_neg h2])
      rw [HF.out]
      unfold RFV
      go_enter Try.func42, Try.ntmps42
      go_upto_region 1 with fail
      rw [← hwb]
      clear hwb
      have HKN := HK
      have HKN2 := HK2
      have HBN := HB
      have x0 := HKN.out.at 0 rfl
      have x1 := HKN.out.at 1 rfl
      have x2 := HKN.out.at 2 rfl
      have x3 := HKN.out.at 3 rfl
      have x4 := HKN.out.at 4 rfl
      have x5 := HKN.out.at 5 rfl
      have x6 := HKN.out.at 6 rfl
      have x7 := HKN.out.at 7 rfl
      have x8 := HKN.out.at 8 rfl
      have x9 := HKN.out.at 9 rfl
      have x10 := HKN.out.at 10 rfl
      have x11 := HKN.out.at 11 rfl
      have x12 := HKN.out.at 12 rfl
      have x13 := HKN.out.at 13 rfl
      have x14 := HKN.out.lt
      have d0 := HKN2.out.at 0 rfl
      have d1 := HKN2.out.at 1 rfl
      have d2 := HKN2.out.at 2 rfl
      have d3 := HKN2.out.at 3 rfl
      have d4 := HKN2.out.at 4 rfl
      have d5 := HKN2.out.at 5 rfl
      have d6 := HKN2.out.at 6 rfl
      have d7 := HKN2.out.at 7 rfl
      have d8 := HKN2.out.at 8 rfl
      have d9 := HKN2.out.at 9 rfl
      have d10 := HKN2.out.at 10 rfl
      have d11 := HKN2.out.at 11 rfl
      have d12 := HKN2.out.at 12 rfl
      have d13 := HKN2.out.at 13 rfl
      have e0 := HKN2.out.free 0
      have e1 := HKN2.out.free 1
      have e2 := HKN2.out.free 2
      have e3 := HKN2.out.free 3
      have e4 := HKN2.out.free 4
      have e5 := HKN2.out.free 5
      have e6 := HKN2.out.free 6
      have e7 := HKN2.out.free 7
      have e8 := HKN2.out.free 8
      have e9 := HKN2.out.free 9
      have e10 := HKN2.out.free 10
      have e11 := HKN2.out.free 11
      have e12 := HKN2.out.free 12
      have e13 := HKN2.out.free 13
      have d14 := HKN2.out.lt
      go_wp2_with fail
      have hb := fin14_blk HKN2.out rfl (.int .i64 f.craft) (.int .i64 f.chan) (.int .i64 (f.size : Int)) (.int .i64 f.tmo) (.int .i64 (f.ret : Int)) (.int .i64 (f.state : Int)) (.slice a n c) (.int .i64 (f.acked : Int)) (.int .i64 (f.flight : Int)) (.int .i64 (f.front : Int)) (.slice a' n' c') (.int .i64 f.now) (.int .i64 f.timer) (.int .i64 (f.count : Int))
      unfold fin14 at hb
      have HR := Lib.hid hb
      have b0 := HR.out.at 0 rfl
      have b1 := HR.out.at 1 rfl
      have b2 := HR.out.at 2 rfl
      have b3 := HR.out.at 3 rfl
      have b4 := HR.out.at 4 rfl
      have b5 := HR.out.at 5 rfl
      have b6 := HR.out.at 6 rfl
      have b7 := HR.out.at 7 rfl
      have b8 := HR.out.at 8 rfl
      have b9 := HR.out.at 9 rfl
      have b10 := HR.out.at 10 rfl
      have b11 := HR.out.at 11 rfl
      have b12 := HR.out.at 12 rfl
      have b13 := HR.out.at 13 rfl
      exact bodyPost_ret (v := .agg #[.int .i64 f.craft, .int .i64 f.chan, .int .i64 (f.size : Int), .int .i64 f.tmo, .int .i64 (f.ret : Int), .int .i64 (f.state : Int), .slice a n c, .int .i64 (f.acked : Int), .int .i64 (f.flight : Int), .int .i64 (f.front : Int), .slice a' n' c', .int .i64 f.now, .int .i64 f.timer, .int .i64 (f.count : Int)]) (by simp [results, Try.results42, go_sem, b0, b1, b2, b3, b4, b5, b6, b7, b8, b9, b10, b11, b12, b13]) rfl ⟨rfl, HBN.out.trans ((fin14_fr _ _ _ _ _ _ _ _ _ _ _ _ _ _ _ _).toBelow HBN.out.size (fun k hk => by omega))⟩
  · have HF : Hid (f.clock t = f) := Lib.hid (by
      unfold FS.clock
      by_cases h2 : t ≤ 1099511627776
      · rw [if_pos h2, Int.max_eq_left (by omega)]
      · rw [if_neg h2])
    rw [HF.out]
    unfold RFV
    go_enter Try.func42, Try.ntmps42
    go_upto_region 1 with fail
    rw [← hwb]
    clear hwb
    have HKN := HK
    have HKN2 := HK2
    have HBN := HB
    have x0 := HKN.out.at 0 rfl
    have x1 := HKN.out.at 1 rfl
    have x2 := HKN.out.at 2 rfl
    have x3 := HKN.out.at 3 rfl
    have x4 := HKN.out.at 4 rfl
    have x5 := HKN.out.at 5 rfl
    have x6 := HKN.out.at 6 rfl
    have x7 := HKN.out.at 7 rfl
    have x8 := HKN.out.at 8 rfl
    have x9 := HKN.out.at 9 rfl
    have x10 := HKN.out.at 10 rfl
    have x11 := HKN.out.at 11 rfl
    have x12 := HKN.out.at 12 rfl
    have x13 := HKN.out.at 13 rfl
    have x14 := HKN.out.lt
    have d0 := HKN2.out.at 0 rfl
    have d1 := HKN2.out.at 1 rfl
    have d2 := HKN2.out.at 2 rfl
    have d3 := HKN2.out.at 3 rfl
    have d4 := HKN2.out.at 4 rfl
    have d5 := HKN2.out.at 5 rfl
    have d6 := HKN2.out.at 6 rfl
    have d7 := HKN2.out.at 7 rfl
    have d8 := HKN2.out.at 8 rfl
    have d9 := HKN2.out.at 9 rfl
    have d10 := HKN2.out.at 10 rfl
    have d11 := HKN2.out.at 11 rfl
    have d12 := HKN2.out.at 12 rfl
    have d13 := HKN2.out.at 13 rfl
    have e0 := HKN2.out.free 0
    have e1 := HKN2.out.free 1
    have e2 := HKN2.out.free 2
    have e3 := HKN2.out.free 3
    have e4 := HKN2.out.free 4
    have e5 := HKN2.out.free 5
    have e6 := HKN2.out.free 6
    have e7 := HKN2.out.free 7
    have e8 := HKN2.out.free 8
    have e9 := HKN2.out.free 9
    have e10 := HKN2.out.free 10
    have e11 := HKN2.out.free 11
    have e12 := HKN2.out.free 12
    have e13 := HKN2.out.free 13
    have d14 := HKN2.out.lt
    go_wp2_with fail
    have hb := fin14_blk HKN2.out rfl (.int .i64 f.craft) (.int .i64 f.chan) (.int .i64 (f.size : Int)) (.int .i64 f.tmo) (.int .i64 (f.ret : Int)) (.int .i64 (f.state : Int)) (.slice a n c) (.int .i64 (f.acked : Int)) (.int .i64 (f.flight : Int)) (.int .i64 (f.front : Int)) (.slice a' n' c') (.int .i64 f.now) (.int .i64 f.timer) (.int .i64 (f.count : Int))
    unfold fin14 at hb
    have HR := Lib.hid hb
    have b0 := HR.out.at 0 rfl
    have b1 := HR.out.at 1 rfl
    have b2 := HR.out.at 2 rfl
    have b3 := HR.out.at 3 rfl
    have b4 := HR.out.at 4 rfl
    have b5 := HR.out.at 5 rfl
    have b6 := HR.out.at 6 rfl
    have b7 := HR.out.at 7 rfl
    have b8 := HR.out.at 8 rfl
    have b9 := HR.out.at 9 rfl
    have b10 := HR.out.at 10 rfl
    have b11 := HR.out.at 11 rfl
    have b12 := HR.out.at 12 rfl
    have b13 := HR.out.at 13 rfl
    exact bodyPost_ret (v := .agg #[.int .i64 f.craft, .int .i64 f.chan, .int .i64 (f.size : Int), .int .i64 f.tmo, .int .i64 (f.ret : Int), .int .i64 (f.state : Int), .slice a n c, .int .i64 (f.acked : Int), .int .i64 (f.flight : Int), .int .i64 (f.front : Int), .slice a' n' c', .int .i64 f.now, .int .i64 f.timer, .int .i64 (f.count : Int)]) (by simp [results, Try.results42, go_sem, b0, b1, b2, b3, b4, b5, b6, b7, b8, b9, b10, b11, b12, b13]) rfl ⟨rfl, HBN.out.trans ((fin14_fr _ _ _ _ _ _ _ _ _ _ _ _ _ _ _ _).toBelow HBN.out.size (fun k hk => by omega))⟩
end Go.Proofs.Ytjiejpklcjpibaa

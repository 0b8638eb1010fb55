/- Take of a Joiner: the ways on which a packet fits. No condition. -/
import Derived.Test.YtdllngedmhihkaaD
import Derived.Deep.DeepCutAuto
import Derived.Outline
import Derived.Deep.CutBlock
namespace Go.Proofs.Ytdllngedmhihkaa
open Go.RowKit Go.Deep Go.ChangeShapes Go.WideShapes Go.ChangeAt
set_option linter.unusedVariables false

theorem info5 : (Try.prog.info? 5).map (fun i => (i.zero, i.size, i.bytes)) = some (some (.int .u8 0), 1, 1) := by kernel_rfl
theorem JAt.apart {w : World} {b : Nat} {v : Value} {s : JS} (h : JAt w b v s) {off : Nat} {z : Int} (hc : w.cell? ⟨b, off, none⟩ = some (.int .u8 z)) : False := by
  rw [h.1.cell off] at hc
  have hv : v ≠ .int .u8 z := by
    rcases h.2.1.2 with ⟨rfl, _⟩ | ⟨g, cap', cur, rfl, _⟩ <;> simp
  match off with
  | 0 | 1 | 2 | 3 | 4 => simp [JS.cells] at hc
  | 5 => simp [JS.cells] at hc; exact hv hc
  | n + 6 => simp [JS.cells] at hc
/-- what the switch of Take leaves where a packet fits -/
def Mid (w : World) (b : Nat) (v : Value) (s1 : JS) (box : List Value) (wx : World) : Prop :=
  ∃ av cap1, JAt wx b (.slice av s1.dat.length cap1) s1 ∧ Blk wx w.heap.size 24 box ∧ Fr (JOwn b v) w wx ∧ (∀ k, (Value.slice av s1.dat.length cap1).ownBlock = some k → v.ownBlock = some k)
theorem JAt.slice {w : World} {b : Nat} {v : Value} {s : JS} (h : JAt w b v s) : ∃ av cap, v = .slice av s.dat.length cap := by
  rcases h.2.1.2 with ⟨h, h'⟩ | ⟨g, cap', cur, h, _⟩
  · exact ⟨none, 0, by rw [h, h']⟩
  · exact ⟨_, cap', h⟩
set_option maxRecDepth 20000 in
set_option maxHeartbeats 2000000 in
theorem take_fit (b : Nat) (v : Value) (s : JS) (c sc : Bool) (ap fl ct : Int) (a : Option Addr) (l : List UInt8) (cap : Nat) (w : World) (h : JAt w b v s)
    (hl : l.length ≤ 1000000000) (hd : s.dat.length ≤ 1000000000) (hm0 : 0 ≤ s.most) (hm1 : s.most ≤ 9223372036854775807) (hba : BAt w a l) (hna : ∀ p, a = some p → v.ownBlock ≠ some p.block) (hk : okB ap ct = true) (hne : l ≠ [])
    (hx : fl = 1 ∨ fl = 3 ∨ (fl = 0 ∨ fl = 2) ∧ s.op = true ∧ ap = s.apid ∧ ct = addC s.last 1) :
    Calls Try.prog 14 #[.pointer (some ⟨b, 0, none⟩), Pk c sc ap fl ct a l.length cap] w (TakeQ w b v (takeS s ap fl ct l)) := by
  obtain ⟨s1, hs1⟩ : ∃ s1, s1 = if fl = 1 ∨ fl = 3 then s.drop else s := ⟨_, rfl⟩
  have HF : Hid (takeS s ap fl ct l = if s1.most - s1.dat.length < l.length then (s1.drop, [], false, 6) else if fl = 1 ∨ fl = 0 then (⟨true, s1.most, ap, ct, s1.dat ++ l⟩, [], false, 0) else ((⟨true, s1.most, ap, ct, s1.dat ++ l⟩ : JS).drop, s1.dat ++ l, true, 0)) := by
    have h1 : ¬ (okB ap ct = false ∨ fl < 0 ∨ 3 < fl ∨ l = []) := by rintro (h | h | h | h); rw [hk] at h; cases h; omega; omega; exact hne h
    show takeS s ap fl ct l = _
    unfold takeS
    rw [if_neg h1, if_neg (by rintro ⟨h2, h3⟩; rcases hx with h4 | h4 | h4; omega; omega; exact h3 h4.2), hs1]
  have h1d : s1.dat.length ≤ 1000000000 := by rw [hs1]; split; simp [JS.drop]; exact hd
  have h1m : s1.most = s.most := by rw [hs1]; split <;> rfl
  rw [← h1m] at hm0 hm1
  obtain ⟨hb, ⟨c0, c1, c2, c3, c4, c5⟩, f1, f3, f4, f5⟩ := h.walk
  have H := Lib.hid h
  have hlb : ((l.length : Int) == 0) = false := by
    rw [beq_eq_false_iff_ne]; intro h; exact hne (List.length_eq_zero_iff.1 (by omega))
  obtain ⟨ba, off, rfl, hba', hbc⟩ := hba.resolve_left hne
  have hnb : ba ≠ b := by
    rintro rfl
    have := hbc 0 (List.length_pos_iff.2 hne)
    exact h.apart this
  have hnv := Lib.hid (hna _ rfl)
  clear hna
  have hl0 : 0 < l.length := List.length_pos_iff.2 hne
  have HB := Lib.hid hbc
  have HS1 := Lib.hid hs1
  have H1M := Lib.hid h1m
  obtain ⟨j0, hj, hy0, hy1, hy2⟩ := info_parts info5
  unfold Pk
  have hxs : fl = 1 ∨ fl = 3 ∨ fl = 0 ∨ fl = 2 := by omega
  have HX := Lib.hid hx
  clear h hne hba hs1 hx hbc h1m hd
  rcases hxs with rfl | rfl | rfl | rfl
  · go_enter Try.func14, Try.ntmps14
    go_upto_block 0 with (fail)
    go_cut [] (fun wx => Mid w b v s1 [.bool c, .bool sc, .int .i64 ap, .int .i64 1, .int .i64 ct, .slice (some ⟨ba, off, none⟩) l.length cap] wx)
    case first =>
      go_wp2_with (go_at_call 19; refine (counted_any _ _ _).mono ?_; rintro e w2 ⟨rfl, rfl⟩)
      refine (drop_any b v s _ ⟨H.out.1.alloc _, H.out.2.1.alloc _, H.out.2.2⟩).mono ?_
      rintro e w3 ⟨rfl, hJ, hF⟩
      go_wp2_with fail
      go_meet
      case rel => exact ⟨none, 0, by have e := HS1.out; simp at e; subst e; exact hJ, (Blk.new w 24 _).fr hF (by omega), ((Fr.refl _ _).alloc _).then hF (fun k hk => .inl (.inl hk)), fun k hk => by simp [Value.ownBlock] at hk⟩
    case rest =>
      obtain ⟨av, cap1, hJ, hBx, hF, hO⟩ := hcut
      obtain ⟨hb2, ⟨d0, d1, d2, d3, d4, d5⟩, g1, g3, g4, g5⟩ := hJ.walk
      have x2 := hBx.at 2 rfl
      have x3 := hBx.at 3 rfl
      have x4 := hBx.at 4 rfl
      have x5 := hBx.at 5 rfl
      have hxl := hBx.lt
      have hxb : b ≠ w.heap.size := by have := H.out.1.lt; omega
      have HBX := Lib.hid hBx
      have HJ := Lib.hid hJ
      clear hJ hBx c0 c1 c2 c3 c4 c5 f1 f3 f4 f5
      by_cases hlong : s1.most - s1.dat.length < l.length
      · have HF2 : Hid (takeS s ap 1 ct l = (s1.drop, [], false, 6)) := by rw [HF.out, if_pos hlong]; rfl
        go_wp2_with fail
        go_quiet (fail)
        go_wp2_with fail
        refine (drop_any b _ s1 _ ⟨HJ.out.1.drewN _, own_drewN HJ.out.2.1 _, HJ.out.2.2⟩).mono ?_
        rintro e w3 ⟨rfl, hJ3, hF3⟩
        go_wp2_with fail
        go_ret3
        rw [HF2.out]
        exact ⟨_, none, 0, rfl, hJ3, BAt.nil _ _, by simp, (hF.drewN _).then hF3 (fun k hk => .inl (.inl hk)), fun k hk => by simp [Value.ownBlock] at hk⟩
      · have hlong' : ¬ (s1.most - s1.dat.length < (l.length : Int)) := hlong
        have HF2 : Hid (takeS s ap 1 ct l = (⟨true, s1.most, ap, ct, s1.dat ++ l⟩, [], false, 0)) := by rw [HF.out, if_neg hlong]; rfl
        go_wp2_with fail
        go_quiet (fail)
        go_wp2_with fail
        go_cut [] (fun wx => Mid w b v (⟨true, s1.most, ap, ct, s1.dat⟩ : JS) [.bool c, .bool sc, .int .i64 ap, .int .i64 1, .int .i64 ct, .slice (some ⟨ba, off, none⟩) l.length cap] wx)
        case first =>
          go_region
          go_wp2_with fail
          go_meet
          case rel => exact ⟨av, cap1, ⟨Blk.cast ((((HJ.out.1.drewN _).setCell 1 _).setCell 3 _).setCell 4 _) rfl, own_set (own_set (own_set (own_drewN HJ.out.2.1 _) HJ.out.2.2 _) HJ.out.2.2 _) HJ.out.2.2 _, HJ.out.2.2⟩, (((HBX.out.drewN _).setOther (by simpa using hxb) _).setOther (by simpa using hxb) _).setOther (by simpa using hxb) _, (((hF.drewN _).set1 _ (by exact .inl (.inl rfl))).set1 _ (by exact .inl (.inl rfl))).set1 _ (by exact .inl (.inl rfl)), hO⟩
        case rest =>
          clear d0 d1 d2 d3 d4 d5 g1 g3 g4 g5 x2 x3 x4 x5 hxl hb2 hF hO hlong hlong'
          clear HJ HBX
          clear av cap1
          obtain ⟨av, cap1, hJ, hBx, hF, hO⟩ := hcut
          obtain ⟨hb2, ⟨d0, d1, d2, d3, d4, d5⟩, g1, g3, g4, g5⟩ := hJ.walk
          have x3 := hBx.at 3 rfl
          have x5 := hBx.at 5 rfl
          have hxl := hBx.lt
          have HJ := Lib.hid hJ
          have HBx := Lib.hid hBx
          have hrb : (Value.slice av s1.dat.length cap1).ownBlock ≠ some w.heap.size := fun e => by have := (H.out.2.1.lt _ (hO _ e)).2; omega
          simp only at d5
          have hrow : wc.ownsRow 0 5 1 (.slice av s1.dat.length cap1) s1.dat.length (encB s1.dat) := hJ.2.1
          have hcc : ∀ i (h : i < l.length), wc.cell? ⟨ba, off + i, none⟩ = some (.int .u8 (l[i].toNat : Int)) := fun i hi => by
            rw [hF.cell (p := ⟨ba, off + i, none⟩) hba' (by rintro (h | h); exact hnb h; exact hnv.out h)]; exact HB.out i hi
          have HN := Lib.hid (BAt.news hcc)
          clear hJ hBx hcc d0 d1 d2 d3 d4
          go_wp2_with fail
          go_region_law ((refine step_append_lies _ (by rfl) _ _ 22 (by rfl) 0 5 j0 (.int .u8 0) 1 1 Try.underlying22 hj hy0 hy1 hy2 rfl (by decide) _ s1.dat.length (encB s1.dat) (by rfl) hrow.drew ⟨ba, off, none⟩ l.length cap (encB l) (by rfl) (by simp [encB]) HN.out (encB_one _) (by omega) (by unfold maxLen; omega) (by omega) (by simp) wc.heap.size (by simp) ?_; intro g' cap' w5 hown' hgrow hwhere hlt5; have HJ5 := Lib.hid (Blk.grown HJ.out.1.drew hgrow HJ.out.2.2); have y5 := HJ5.out.at 5 rfl; have yf5 := HJ5.out.free 5; have HB5 := Lib.hid (Blk.grown HBx.out.drew hgrow hrb); have z3 := HB5.out.at 3 rfl; have hb5 := HJ5.out.lt; have hbx5 := HB5.out.lt))
          all_goals
            have HGR := Lib.hid hgrow
            have HO5 := Lib.hid hown'
            have HWH := Lib.hid hwhere
            have hg5 : some b ≠ some g' := by
              rcases hwhere with h | h
              · rw [← h]; exact fun e => HJ.out.2.2 e.symm
              · intro e; simp only [Option.some.injEq] at e; have := HJ.out.1.lt; omega
            clear hown' hgrow hwhere d5 g1 g3 g4 g5 x3 x5
            go_wp2_with fail
            go_ret3
            rw [HF2.out]
            exact ⟨.slice (some ⟨g', 0, none⟩) (s1.dat.length + l.length) cap', none, 0, rfl, ⟨Blk.cast (HJ5.out.setCell 5 _) rfl, by rw [List.length_append, encB_append]; exact own_set (p := ⟨b, 5, none⟩) HO5.out hg5.symm _, hg5.symm⟩, BAt.nil _ _, by simp, (hF.drew.grown HGR.out (fun k hk => .inl (.inr (hO k hk)))).set1 _ (by exact .inl (.inl rfl)), fun k hk => by
              simp only [Value.ownBlock, Option.some.injEq] at hk
              subst hk
              rcases HWH.out with h | h
              · exact .inl (hO _ h)
              · right; have := hF.size; omega⟩
  · go_enter Try.func14, Try.ntmps14
    go_upto_block 0 with (fail)
    go_cut [] (fun wx => Mid w b v s1 [.bool c, .bool sc, .int .i64 ap, .int .i64 3, .int .i64 ct, .slice (some ⟨ba, off, none⟩) l.length cap] wx)
    case first =>
      go_wp2_with (go_at_call 19; refine (counted_any _ _ _).mono ?_; rintro e w2 ⟨rfl, rfl⟩)
      refine (drop_any b v s _ ⟨H.out.1.alloc _, H.out.2.1.alloc _, H.out.2.2⟩).mono ?_
      rintro e w3 ⟨rfl, hJ, hF⟩
      go_wp2_with fail
      go_meet
      case rel => exact ⟨none, 0, by have e := HS1.out; simp at e; subst e; exact hJ, (Blk.new w 24 _).fr hF (by omega), ((Fr.refl _ _).alloc _).then hF (fun k hk => .inl (.inl hk)), fun k hk => by simp [Value.ownBlock] at hk⟩
    case rest =>
      obtain ⟨av, cap1, hJ, hBx, hF, hO⟩ := hcut
      obtain ⟨hb2, ⟨d0, d1, d2, d3, d4, d5⟩, g1, g3, g4, g5⟩ := hJ.walk
      have x2 := hBx.at 2 rfl
      have x3 := hBx.at 3 rfl
      have x4 := hBx.at 4 rfl
      have x5 := hBx.at 5 rfl
      have hxl := hBx.lt
      have hxb : b ≠ w.heap.size := by have := H.out.1.lt; omega
      have HBX := Lib.hid hBx
      have HJ := Lib.hid hJ
      clear hJ hBx c0 c1 c2 c3 c4 c5 f1 f3 f4 f5
      by_cases hlong : s1.most - s1.dat.length < l.length
      · have HF2 : Hid (takeS s ap 3 ct l = (s1.drop, [], false, 6)) := by rw [HF.out, if_pos hlong]; rfl
        go_wp2_with fail
        go_quiet (fail)
        go_wp2_with fail
        refine (drop_any b _ s1 _ ⟨HJ.out.1.drewN _, own_drewN HJ.out.2.1 _, HJ.out.2.2⟩).mono ?_
        rintro e w3 ⟨rfl, hJ3, hF3⟩
        go_wp2_with fail
        go_ret3
        rw [HF2.out]
        exact ⟨_, none, 0, rfl, hJ3, BAt.nil _ _, by simp, (hF.drewN _).then hF3 (fun k hk => .inl (.inl hk)), fun k hk => by simp [Value.ownBlock] at hk⟩
      · have hlong' : ¬ (s1.most - s1.dat.length < (l.length : Int)) := hlong
        have HF2 : Hid (takeS s ap 3 ct l = ((⟨true, s1.most, ap, ct, s1.dat ++ l⟩ : JS).drop, s1.dat ++ l, true, 0)) := by rw [HF.out, if_neg hlong]; rfl
        go_wp2_with fail
        go_quiet (fail)
        go_wp2_with fail
        go_cut [] (fun wx => Mid w b v (⟨true, s1.most, ap, ct, s1.dat⟩ : JS) [.bool c, .bool sc, .int .i64 ap, .int .i64 3, .int .i64 ct, .slice (some ⟨ba, off, none⟩) l.length cap] wx)
        case first =>
          go_region
          go_wp2_with fail
          go_meet
          case rel => exact ⟨av, cap1, ⟨Blk.cast ((((HJ.out.1.drewN _).setCell 1 _).setCell 3 _).setCell 4 _) rfl, own_set (own_set (own_set (own_drewN HJ.out.2.1 _) HJ.out.2.2 _) HJ.out.2.2 _) HJ.out.2.2 _, HJ.out.2.2⟩, (((HBX.out.drewN _).setOther (by simpa using hxb) _).setOther (by simpa using hxb) _).setOther (by simpa using hxb) _, (((hF.drewN _).set1 _ (by exact .inl (.inl rfl))).set1 _ (by exact .inl (.inl rfl))).set1 _ (by exact .inl (.inl rfl)), hO⟩
        case rest =>
          clear d0 d1 d2 d3 d4 d5 g1 g3 g4 g5 x2 x3 x4 x5 hxl hb2 hF hO hlong hlong'
          clear HJ HBX
          clear av cap1
          obtain ⟨av, cap1, hJ, hBx, hF, hO⟩ := hcut
          obtain ⟨hb2, ⟨d0, d1, d2, d3, d4, d5⟩, g1, g3, g4, g5⟩ := hJ.walk
          have x3 := hBx.at 3 rfl
          have x5 := hBx.at 5 rfl
          have hxl := hBx.lt
          have HJ := Lib.hid hJ
          have HBx := Lib.hid hBx
          have hrb : (Value.slice av s1.dat.length cap1).ownBlock ≠ some w.heap.size := fun e => by have := (H.out.2.1.lt _ (hO _ e)).2; omega
          simp only at d5
          have hrow : wc.ownsRow 0 5 1 (.slice av s1.dat.length cap1) s1.dat.length (encB s1.dat) := hJ.2.1
          have hcc : ∀ i (h : i < l.length), wc.cell? ⟨ba, off + i, none⟩ = some (.int .u8 (l[i].toNat : Int)) := fun i hi => by
            rw [hF.cell (p := ⟨ba, off + i, none⟩) hba' (by rintro (h | h); exact hnb h; exact hnv.out h)]; exact HB.out i hi
          have HN := Lib.hid (BAt.news hcc)
          clear hJ hBx hcc d0 d1 d2 d3 d4
          go_wp2_with fail
          go_region_law ((refine step_append_lies _ (by rfl) _ _ 22 (by rfl) 0 5 j0 (.int .u8 0) 1 1 Try.underlying22 hj hy0 hy1 hy2 rfl (by decide) _ s1.dat.length (encB s1.dat) (by rfl) hrow.drew ⟨ba, off, none⟩ l.length cap (encB l) (by rfl) (by simp [encB]) HN.out (encB_one _) (by omega) (by unfold maxLen; omega) (by omega) (by simp) wc.heap.size (by simp) ?_; intro g' cap' w5 hown' hgrow hwhere hlt5; have HJ5 := Lib.hid (Blk.grown HJ.out.1.drew hgrow HJ.out.2.2); have y5 := HJ5.out.at 5 rfl; have yf5 := HJ5.out.free 5; have HB5 := Lib.hid (Blk.grown HBx.out.drew hgrow hrb); have z3 := HB5.out.at 3 rfl; have hb5 := HJ5.out.lt; have hbx5 := HB5.out.lt))
          all_goals
            have HGR := Lib.hid hgrow
            have HO5 := Lib.hid hown'
            have HWH := Lib.hid hwhere
            have hg5 : some b ≠ some g' := by
              rcases hwhere with h | h
              · rw [← h]; exact fun e => HJ.out.2.2 e.symm
              · intro e; simp only [Option.some.injEq] at e; have := HJ.out.1.lt; omega
            clear hown' hgrow hwhere d5 g1 g3 g4 g5 x3 x5
            go_wp2_with fail
            have HOW := Lib.hid (show (w5.setCell ⟨b, 5, none⟩ (.slice (some ⟨g', 0, none⟩) (s1.dat.length + l.length) cap')).ownsRow 0 5 1 (.slice (some ⟨g', 0, none⟩) (s1.dat.length + l.length) cap') (s1.dat ++ l).length (encB (s1.dat ++ l)) by rw [List.length_append, encB_append]; exact own_set (p := ⟨b, 5, none⟩) HO5.out hg5.symm _)
            refine (drop_any b _ ⟨true, s1.most, ap, ct, s1.dat ++ l⟩ _ ⟨Blk.cast (HJ5.out.setCell 5 _) rfl, HOW.out, hg5.symm⟩).mono ?_
            rintro e w6 ⟨rfl, hJ6, hF6⟩
            have HG := Lib.hid hg5
            clear hg5
            go_wp2_with fail
            go_ret3
            rw [HF2.out]
            obtain ⟨-, a6, c6, e6, -, -, hB6⟩ := BAt.of_row (own_fr HOW.out hF6 (fun k hk => by rintro rfl; exact HG.out hk.symm))
            refine ⟨_, a6, c6, by rw [← e6]; rfl, hJ6, hB6, fun p hp => ?_, (((hF.drew.grown HGR.out (fun k hk => .inl (.inr (hO k hk)))).set1 _ (by exact .inl (.inl rfl))).then hF6 (fun k hk => .inl (.inl hk))), fun k hk => by simp [Value.ownBlock] at hk⟩
            subst hp
            simp only [Value.slice.injEq, Option.some.injEq] at e6
            intro h
            apply HG.out
            rw [← e6.1] at h
            rw [← h]
  · obtain ⟨k1, k2, k3⟩ : s.op = true ∧ ap = s.apid ∧ ct = addC s.last 1 := by
      rcases HX.out with h | h | h
      · omega
      · omega
      · exact h.2
    have k4 := Lib.hid k3
    have h8 : (ap != s.apid) = false := by simp [k2]
    have h9 : (ct != addC s.last 1) = false := by rw [k3]; simp
    rw [k1] at c1
    clear k1 k2 k3
    go_enter Try.func14, Try.ntmps14
    go_upto_block 0 with (fail)
    go_cut [] (fun wx => Mid w b v s1 [.bool c, .bool sc, .int .i64 ap, .int .i64 0, .int .i64 ct, .slice (some ⟨ba, off, none⟩) l.length cap] wx)
    case first =>
      go_wp2_with (go_at_call 19; refine (counted_any _ _ _).mono ?_; rintro e w2 ⟨rfl, rfl⟩)
      go_quiet ((go_at_call 21; exact Calls.quiet_of_same ((Add_any _ _ _).mono fun _ _ h => ⟨h.1, h.2⟩)))
      go_wp2_with fail
      go_meet
      case rel =>
        obtain ⟨av, cap1, rfl⟩ := JAt.slice H.out
        have e : s1 = s := by have e := HS1.out; simpa using e
        subst e
        exact ⟨av, cap1, ⟨(H.out.1.alloc _).drewN _, own_drewN (H.out.2.1.alloc _) _, H.out.2.2⟩, (Blk.new w 24 _).drewN _, ((Fr.refl _ _).alloc _).drewN _, fun k hk => hk⟩
    case rest =>
      obtain ⟨av, cap1, hJ, hBx, hF, hO⟩ := hcut
      obtain ⟨hb2, ⟨d0, d1, d2, d3, d4, d5⟩, g1, g3, g4, g5⟩ := hJ.walk
      have x2 := hBx.at 2 rfl
      have x3 := hBx.at 3 rfl
      have x4 := hBx.at 4 rfl
      have x5 := hBx.at 5 rfl
      have hxl := hBx.lt
      have hxb : b ≠ w.heap.size := by have := H.out.1.lt; omega
      have HBX := Lib.hid hBx
      have HJ := Lib.hid hJ
      clear hJ hBx c0 c1 c2 c3 c4 c5 f1 f3 f4 f5
      by_cases hlong : s1.most - s1.dat.length < l.length
      · have HF2 : Hid (takeS s ap 0 ct l = (s1.drop, [], false, 6)) := by rw [HF.out, if_pos hlong]; rfl
        go_wp2_with fail
        go_quiet (fail)
        go_wp2_with fail
        refine (drop_any b _ s1 _ ⟨HJ.out.1.drewN _, own_drewN HJ.out.2.1 _, HJ.out.2.2⟩).mono ?_
        rintro e w3 ⟨rfl, hJ3, hF3⟩
        go_wp2_with fail
        go_ret3
        rw [HF2.out]
        exact ⟨_, none, 0, rfl, hJ3, BAt.nil _ _, by simp, (hF.drewN _).then hF3 (fun k hk => .inl (.inl hk)), fun k hk => by simp [Value.ownBlock] at hk⟩
      · have hlong' : ¬ (s1.most - s1.dat.length < (l.length : Int)) := hlong
        have HF2 : Hid (takeS s ap 0 ct l = (⟨true, s1.most, ap, ct, s1.dat ++ l⟩, [], false, 0)) := by rw [HF.out, if_neg hlong]; rfl
        go_wp2_with fail
        go_quiet (fail)
        go_wp2_with fail
        go_cut [] (fun wx => Mid w b v (⟨true, s1.most, ap, ct, s1.dat⟩ : JS) [.bool c, .bool sc, .int .i64 ap, .int .i64 0, .int .i64 ct, .slice (some ⟨ba, off, none⟩) l.length cap] wx)
        case first =>
          go_region
          go_wp2_with fail
          go_meet
          case rel => exact ⟨av, cap1, ⟨Blk.cast ((((HJ.out.1.drewN _).setCell 1 _).setCell 3 _).setCell 4 _) rfl, own_set (own_set (own_set (own_drewN HJ.out.2.1 _) HJ.out.2.2 _) HJ.out.2.2 _) HJ.out.2.2 _, HJ.out.2.2⟩, (((HBX.out.drewN _).setOther (by simpa using hxb) _).setOther (by simpa using hxb) _).setOther (by simpa using hxb) _, (((hF.drewN _).set1 _ (by exact .inl (.inl rfl))).set1 _ (by exact .inl (.inl rfl))).set1 _ (by exact .inl (.inl rfl)), hO⟩
        case rest =>
          clear d0 d1 d2 d3 d4 d5 g1 g3 g4 g5 x2 x3 x4 x5 hxl hb2 hF hO hlong hlong'
          clear HJ HBX
          clear av cap1
          obtain ⟨av, cap1, hJ, hBx, hF, hO⟩ := hcut
          obtain ⟨hb2, ⟨d0, d1, d2, d3, d4, d5⟩, g1, g3, g4, g5⟩ := hJ.walk
          have x3 := hBx.at 3 rfl
          have x5 := hBx.at 5 rfl
          have hxl := hBx.lt
          have HJ := Lib.hid hJ
          have HBx := Lib.hid hBx
          have hrb : (Value.slice av s1.dat.length cap1).ownBlock ≠ some w.heap.size := fun e => by have := (H.out.2.1.lt _ (hO _ e)).2; omega
          simp only at d5
          have hrow : wc.ownsRow 0 5 1 (.slice av s1.dat.length cap1) s1.dat.length (encB s1.dat) := hJ.2.1
          have hcc : ∀ i (h : i < l.length), wc.cell? ⟨ba, off + i, none⟩ = some (.int .u8 (l[i].toNat : Int)) := fun i hi => by
            rw [hF.cell (p := ⟨ba, off + i, none⟩) hba' (by rintro (h | h); exact hnb h; exact hnv.out h)]; exact HB.out i hi
          have HN := Lib.hid (BAt.news hcc)
          clear hJ hBx hcc d0 d1 d2 d3 d4
          go_wp2_with fail
          go_region_law ((refine step_append_lies _ (by rfl) _ _ 22 (by rfl) 0 5 j0 (.int .u8 0) 1 1 Try.underlying22 hj hy0 hy1 hy2 rfl (by decide) _ s1.dat.length (encB s1.dat) (by rfl) hrow.drew ⟨ba, off, none⟩ l.length cap (encB l) (by rfl) (by simp [encB]) HN.out (encB_one _) (by omega) (by unfold maxLen; omega) (by omega) (by simp) wc.heap.size (by simp) ?_; intro g' cap' w5 hown' hgrow hwhere hlt5; have HJ5 := Lib.hid (Blk.grown HJ.out.1.drew hgrow HJ.out.2.2); have y5 := HJ5.out.at 5 rfl; have yf5 := HJ5.out.free 5; have HB5 := Lib.hid (Blk.grown HBx.out.drew hgrow hrb); have z3 := HB5.out.at 3 rfl; have hb5 := HJ5.out.lt; have hbx5 := HB5.out.lt))
          all_goals
            have HGR := Lib.hid hgrow
            have HO5 := Lib.hid hown'
            have HWH := Lib.hid hwhere
            have hg5 : some b ≠ some g' := by
              rcases hwhere with h | h
              · rw [← h]; exact fun e => HJ.out.2.2 e.symm
              · intro e; simp only [Option.some.injEq] at e; have := HJ.out.1.lt; omega
            clear hown' hgrow hwhere d5 g1 g3 g4 g5 x3 x5
            go_wp2_with fail
            go_ret3
            rw [HF2.out]
            exact ⟨.slice (some ⟨g', 0, none⟩) (s1.dat.length + l.length) cap', none, 0, rfl, ⟨Blk.cast (HJ5.out.setCell 5 _) rfl, by rw [List.length_append, encB_append]; exact own_set (p := ⟨b, 5, none⟩) HO5.out hg5.symm _, hg5.symm⟩, BAt.nil _ _, by simp, (hF.drew.grown HGR.out (fun k hk => .inl (.inr (hO k hk)))).set1 _ (by exact .inl (.inl rfl)), fun k hk => by
              simp only [Value.ownBlock, Option.some.injEq] at hk
              subst hk
              rcases HWH.out with h | h
              · exact .inl (hO _ h)
              · right; have := hF.size; omega⟩
  · obtain ⟨k1, k2, k3⟩ : s.op = true ∧ ap = s.apid ∧ ct = addC s.last 1 := by
      rcases HX.out with h | h | h
      · omega
      · omega
      · exact h.2
    have k4 := Lib.hid k3
    have h8 : (ap != s.apid) = false := by simp [k2]
    have h9 : (ct != addC s.last 1) = false := by rw [k3]; simp
    rw [k1] at c1
    clear k1 k2 k3
    go_enter Try.func14, Try.ntmps14
    go_upto_block 0 with (fail)
    go_cut [] (fun wx => Mid w b v s1 [.bool c, .bool sc, .int .i64 ap, .int .i64 2, .int .i64 ct, .slice (some ⟨ba, off, none⟩) l.length cap] wx)
    case first =>
      go_wp2_with (go_at_call 19; refine (counted_any _ _ _).mono ?_; rintro e w2 ⟨rfl, rfl⟩)
      go_quiet ((go_at_call 21; exact Calls.quiet_of_same ((Add_any _ _ _).mono fun _ _ h => ⟨h.1, h.2⟩)))
      go_wp2_with fail
      go_meet
      case rel =>
        obtain ⟨av, cap1, rfl⟩ := JAt.slice H.out
        have e : s1 = s := by have e := HS1.out; simpa using e
        subst e
        exact ⟨av, cap1, ⟨(H.out.1.alloc _).drewN _, own_drewN (H.out.2.1.alloc _) _, H.out.2.2⟩, (Blk.new w 24 _).drewN _, ((Fr.refl _ _).alloc _).drewN _, fun k hk => hk⟩
    case rest =>
      obtain ⟨av, cap1, hJ, hBx, hF, hO⟩ := hcut
      obtain ⟨hb2, ⟨d0, d1, d2, d3, d4, d5⟩, g1, g3, g4, g5⟩ := hJ.walk
      have x2 := hBx.at 2 rfl
      have x3 := hBx.at 3 rfl
      have x4 := hBx.at 4 rfl
      have x5 := hBx.at 5 rfl
      have hxl := hBx.lt
      have hxb : b ≠ w.heap.size := by have := H.out.1.lt; omega
      have HBX := Lib.hid hBx
      have HJ := Lib.hid hJ
      clear hJ hBx c0 c1 c2 c3 c4 c5 f1 f3 f4 f5
      by_cases hlong : s1.most - s1.dat.length < l.length
      · have HF2 : Hid (takeS s ap 2 ct l = (s1.drop, [], false, 6)) := by rw [HF.out, if_pos hlong]; rfl
        go_wp2_with fail
        go_quiet (fail)
        go_wp2_with fail
        refine (drop_any b _ s1 _ ⟨HJ.out.1.drewN _, own_drewN HJ.out.2.1 _, HJ.out.2.2⟩).mono ?_
        rintro e w3 ⟨rfl, hJ3, hF3⟩
        go_wp2_with fail
        go_ret3
        rw [HF2.out]
        exact ⟨_, none, 0, rfl, hJ3, BAt.nil _ _, by simp, (hF.drewN _).then hF3 (fun k hk => .inl (.inl hk)), fun k hk => by simp [Value.ownBlock] at hk⟩
      · have hlong' : ¬ (s1.most - s1.dat.length < (l.length : Int)) := hlong
        have HF2 : Hid (takeS s ap 2 ct l = ((⟨true, s1.most, ap, ct, s1.dat ++ l⟩ : JS).drop, s1.dat ++ l, true, 0)) := by rw [HF.out, if_neg hlong]; rfl
        go_wp2_with fail
        go_quiet (fail)
        go_wp2_with fail
        go_cut [] (fun wx => Mid w b v (⟨true, s1.most, ap, ct, s1.dat⟩ : JS) [.bool c, .bool sc, .int .i64 ap, .int .i64 2, .int .i64 ct, .slice (some ⟨ba, off, none⟩) l.length cap] wx)
        case first =>
          go_region
          go_wp2_with fail
          go_meet
          case rel => exact ⟨av, cap1, ⟨Blk.cast ((((HJ.out.1.drewN _).setCell 1 _).setCell 3 _).setCell 4 _) rfl, own_set (own_set (own_set (own_drewN HJ.out.2.1 _) HJ.out.2.2 _) HJ.out.2.2 _) HJ.out.2.2 _, HJ.out.2.2⟩, (((HBX.out.drewN _).setOther (by simpa using hxb) _).setOther (by simpa using hxb) _).setOther (by simpa using hxb) _, (((hF.drewN _).set1 _ (by exact .inl (.inl rfl))).set1 _ (by exact .inl (.inl rfl))).set1 _ (by exact .inl (.inl rfl)), hO⟩
        case rest =>
          clear d0 d1 d2 d3 d4 d5 g1 g3 g4 g5 x2 x3 x4 x5 hxl hb2 hF hO hlong hlong'
          clear HJ HBX
          clear av cap1
          obtain ⟨av, cap1, hJ, hBx, hF, hO⟩ := hcut
          obtain ⟨hb2, ⟨d0, d1, d2, d3, d4, d5⟩, g1, g3, g4, g5⟩ := hJ.walk
          have x3 := hBx.at 3 rfl
          have x5 := hBx.at 5 rfl
          have hxl := hBx.lt
          have HJ := Lib.hid hJ
          have HBx := Lib.hid hBx
          have hrb : (Value.slice av s1.dat.length cap1).ownBlock ≠ some w.heap.size := fun e => by have := (H.out.2.1.lt _ (hO _ e)).2; omega
          simp only at d5
          have hrow : wc.ownsRow 0 5 1 (.slice av s1.dat.length cap1) s1.dat.length (encB s1.dat) := hJ.2.1
          have hcc : ∀ i (h : i < l.length), wc.cell? ⟨ba, off + i, none⟩ = some (.int .u8 (l[i].toNat : Int)) := fun i hi => by
            rw [hF.cell (p := ⟨ba, off + i, none⟩) hba' (by rintro (h | h); exact hnb h; exact hnv.out h)]; exact HB.out i hi
          have HN := Lib.hid (BAt.news hcc)
          clear hJ hBx hcc d0 d1 d2 d3 d4
          go_wp2_with fail
          go_region_law ((refine step_append_lies _ (by rfl) _ _ 22 (by rfl) 0 5 j0 (.int .u8 0) 1 1 Try.underlying22 hj hy0 hy1 hy2 rfl (by decide) _ s1.dat.length (encB s1.dat) (by rfl) hrow.drew ⟨ba, off, none⟩ l.length cap (encB l) (by rfl) (by simp [encB]) HN.out (encB_one _) (by omega) (by unfold maxLen; omega) (by omega) (by simp) wc.heap.size (by simp) ?_; intro g' cap' w5 hown' hgrow hwhere hlt5; have HJ5 := Lib.hid (Blk.grown HJ.out.1.drew hgrow HJ.out.2.2); have y5 := HJ5.out.at 5 rfl; have yf5 := HJ5.out.free 5; have HB5 := Lib.hid (Blk.grown HBx.out.drew hgrow hrb); have z3 := HB5.out.at 3 rfl; have hb5 := HJ5.out.lt; have hbx5 := HB5.out.lt))
          all_goals
            have HGR := Lib.hid hgrow
            have HO5 := Lib.hid hown'
            have HWH := Lib.hid hwhere
            have hg5 : some b ≠ some g' := by
              rcases hwhere with h | h
              · rw [← h]; exact fun e => HJ.out.2.2 e.symm
              · intro e; simp only [Option.some.injEq] at e; have := HJ.out.1.lt; omega
            clear hown' hgrow hwhere d5 g1 g3 g4 g5 x3 x5
            go_wp2_with fail
            have HOW := Lib.hid (show (w5.setCell ⟨b, 5, none⟩ (.slice (some ⟨g', 0, none⟩) (s1.dat.length + l.length) cap')).ownsRow 0 5 1 (.slice (some ⟨g', 0, none⟩) (s1.dat.length + l.length) cap') (s1.dat ++ l).length (encB (s1.dat ++ l)) by rw [List.length_append, encB_append]; exact own_set (p := ⟨b, 5, none⟩) HO5.out hg5.symm _)
            refine (drop_any b _ ⟨true, s1.most, ap, ct, s1.dat ++ l⟩ _ ⟨Blk.cast (HJ5.out.setCell 5 _) rfl, HOW.out, hg5.symm⟩).mono ?_
            rintro e w6 ⟨rfl, hJ6, hF6⟩
            have HG := Lib.hid hg5
            clear hg5
            go_wp2_with fail
            go_ret3
            rw [HF2.out]
            obtain ⟨-, a6, c6, e6, -, -, hB6⟩ := BAt.of_row (own_fr HOW.out hF6 (fun k hk => by rintro rfl; exact HG.out hk.symm))
            refine ⟨_, a6, c6, by rw [← e6]; rfl, hJ6, hB6, fun p hp => ?_, (((hF.drew.grown HGR.out (fun k hk => .inl (.inr (hO k hk)))).set1 _ (by exact .inl (.inl rfl))).then hF6 (fun k hk => .inl (.inl hk))), fun k hk => by simp [Value.ownBlock] at hk⟩
            subst hp
            simp only [Value.slice.injEq, Option.some.injEq] at e6
            intro h
            apply HG.out
            rw [← e6.1] at h
            rw [← h]
end Go.Proofs.Ytdllngedmhihkaa

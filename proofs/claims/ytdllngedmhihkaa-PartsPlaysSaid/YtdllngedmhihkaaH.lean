/- The reference's Take where the packet fits. No condition. -/
import Derived.Test.YtdllngedmhihkaaG
import Derived.Deep.RegionLaw
import Derived.Deep.DeepCutAuto
import Derived.Deep.CutBlock
import Derived.Outline
import Derived.Deep.RegionHeld3
namespace Go.Proofs.Ytdllngedmhihkaa
open Go.RowKit Go.Deep Go.ChangeShapes Go.WideShapes Go.ChangeAt
set_option linter.unusedVariables false

theorem Blk.newAt {w : World} {T : TypeId} {xs : List Value} {n : Nat} (h : w.heap.size = n) : Blk (w.alloc (.cells xs.toArray T)) n T xs := h ▸ Blk.new w T xs
/-- what the reference's Take holds where a packet fits -/
def RMid (w : World) (s1 : JS) (ra : Option Addr) (rc : Nat) (box : List Value) (wx : World) : Prop :=
  Blk wx w.heap.size 41 [.int .i64 s1.most, .bool s1.op, .int .i64 s1.apid, .int .i64 s1.last, .slice ra s1.dat.length rc] ∧ Blk wx (w.heap.size + 1) 24 box ∧
  Blk wx (w.heap.size + 1 + 1) 41 [.int .i64 0, .bool false, .int .i64 0, .int .i64 0, .slice none 0 0] ∧
  Blk wx (w.heap.size + 1 + 1 + 1 + 1) 41 [.int .i64 s1.most, .bool false, .int .i64 0, .int .i64 0, .slice none 0 0] ∧
  Below w.heap.size w wx ∧ BAt wx ra s1.dat ∧ (s1.dat = [] → ra = none ∧ rc = 0)
set_option maxRecDepth 20000 in
set_option maxHeartbeats 2000000 in
theorem rtake_fit1 (s : JS) (ra : Option Addr) (rc : Nat) (c sc : Bool) (ap fl ct : Int) (a : Option Addr) (l : List UInt8) (cap : Nat) (w : World) (hr : BAt w ra s.dat) (hnil : s.dat = [] → ra = none ∧ rc = 0) (hba : BAt w a l)
    (hl : l.length ≤ 1000000000) (hd : s.dat.length ≤ 1000000000) (hm0 : 0 ≤ s.most) (hm1 : s.most ≤ 9223372036854775807) (hk : okB ap ct = true) (hne : l ≠ []) (hlast : 0 ≤ s.last ∧ s.last < 16384)
    (hf : fl = 1) (hx : fl = 1 ∨ fl = 3 ∨ (fl = 0 ∨ fl = 2) ∧ s.op = true ∧ ap = s.apid ∧ ct = (s.last + 1) % 16384) :
    Calls Try.prog 18 #[RV s ra rc, Pk c sc ap fl ct a l.length cap] w (RTakeQ w ra (takeR s ap fl ct l)) := by
  obtain ⟨s1, hs1⟩ : ∃ s1, s1 = if fl = 1 ∨ fl = 3 then s.idle else s := ⟨_, rfl⟩
  have HF : Hid (takeR s ap fl ct l = if s1.most - s1.dat.length < l.length then (s1.idle, [], false, 6) else if fl = 1 ∨ fl = 0 then (⟨true, s1.most, ap, ct, s1.dat ++ l⟩, [], false, 0) else ((⟨true, s1.most, ap, ct, s1.dat ++ l⟩ : JS).idle, s1.dat ++ l, true, 0)) := by
    have h1 : ¬ (okB ap ct = false ∨ fl < 0 ∨ 3 < fl ∨ l = []) := by rintro (h | h | h | h); rw [hk] at h; cases h; omega; omega; exact hne h
    show takeR s ap fl ct l = _
    unfold takeR
    rw [if_neg h1, if_neg (by rintro ⟨h2, h3⟩; rcases hx with h4 | h4 | h4; omega; omega; exact h3 h4.2), hs1]
  have hlb : ((l.length : Int) == 0) = false := by
    rw [beq_eq_false_iff_ne]; intro h; exact hne (List.length_eq_zero_iff.1 (by omega))
  have hl0 : 0 < l.length := List.length_pos_iff.2 hne
  obtain ⟨ba, off, rfl, hba', hbc⟩ := hba.resolve_left hne
  have HB := Lib.hid hbc
  have HR := Lib.hid hr
  have HS1 := Lib.hid hs1
  obtain ⟨hl0, hl1⟩ := hlast
  have h1d : s1.dat.length ≤ 1000000000 := by rw [hs1]; split; simp [JS.idle]; exact hd
  have h1m : s1.most = s.most := by rw [hs1]; split <;> rfl
  have hm2 : 0 ≤ s1.most ∧ s1.most ≤ 9223372036854775807 := by rw [h1m]; exact ⟨hm0, hm1⟩
  obtain ⟨hm3, hm4⟩ := hm2
  obtain ⟨j0, hj, hy0, hy1, hy2⟩ := info_parts info5
  unfold Pk RV
  have HX := Lib.hid hx
  have HN := Lib.hid hnil
  have HM := Lib.hid h1m
  clear hne hs1 hx hbc hr hba hnil h1m
  subst hf
  have HS1e := Lib.hid (show s1 = s.idle by have e := HS1.out; simpa using e)
  go_enter Try.func18, Try.ntmps18
  go_upto_if 40 with (go_at_call 23; refine (header_at _ _ _ _ _ _ _ _ _).mono ?_; rintro e w2 ⟨rfl, rfl⟩)
  go_cut [] (fun wx => ∃ ra1 rc1, RMid w s1 ra1 rc1 [.bool c, .bool sc, .int .i64 ap, .int .i64 1, .int .i64 ct, .slice (some ⟨ba, off, none⟩) l.length cap] wx)
  case first =>
    go_wp2_with fail
    go_meet
    case rel =>
      have e := HS1e.out
      subst e
      exact ⟨none, 0, .alloc (.alloc (.alloc (.alloc (Blk.newAt rfl) _) _) _) _, .alloc (.alloc (.alloc (Blk.newAt (by simp)) _) _) _, .alloc (.alloc (Blk.newAt (by simp)) _) _, Blk.newAt (by simp), al (al (al (al (al (Below.refl _ _) _) _) _) _) _, BAt.nil _ _, fun _ => ⟨rfl, rfl⟩⟩
  case rest =>
    obtain ⟨wo, hwo⟩ : ∃ wo, wo = wc := ⟨wc, rfl⟩
    subst hwo
    obtain ⟨ra1, rc1, hb0, hb1, hb2, hb4, hB, hr1, hn1⟩ := hcut
    have x0 := hb0.at 0 rfl
    have x4 := hb0.at 4 rfl
    have y2 := hb1.at 2 rfl
    have y3 := hb1.at 3 rfl
    have y4 := hb1.at 4 rfl
    have y5 := hb1.at 5 rfl
    have z0 := hb2.at 0 rfl
    have z1 := hb2.at 1 rfl
    have z2 := hb2.at 2 rfl
    have z3 := hb2.at 3 rfl
    have z4 := hb2.at 4 rfl
    have u0 := hb4.at 0 rfl
    have u1 := hb4.at 1 rfl
    have u2 := hb4.at 2 rfl
    have u3 := hb4.at 3 rfl
    have u4 := hb4.at 4 rfl
    have v0 := hb2.free 0
    have v1 := hb2.free 1
    have v2 := hb2.free 2
    have v3 := hb2.free 3
    have v4 := hb2.free 4
    have hlt0 := hb0.lt
    have hlt1 := hb1.lt
    have hlt2 := hb2.lt
    have hlt4 := hb4.lt
    have HB0 := Lib.hid hb0
    have HB1 := Lib.hid hb1
    have HB2 := Lib.hid hb2
    have HB4 := Lib.hid hb4
    have hws := hB.size
    have HBB := Lib.hid hB
    have HR1 := Lib.hid hr1
    have HN1 := Lib.hid hn1
    clear hb0 hb1 hb2 hb4 hB hr1 hn1
    by_cases hlong : s1.most < s1.dat.length + l.length
    · have HF2 : Hid (takeR s ap 1 ct l = (s1.idle, [], false, 6)) := by rw [HF.out, if_pos (by omega)]; rfl
      go_wp2_with fail
      refine bodyPost_ret (v := .tuple #[RV s1.idle none 0, .slice none 0 0, .bool false, .int .i64 6]) (by simp [results, Try.results18, go_sem, RV, JS.idle, *]) rfl ?_
      rw [HF2.out]
      exact ⟨none, 0, none, 0, rfl, BAt.nil _ _, fun _ => ⟨rfl, rfl⟩, BAt.nil _ _, (((((HBB.out.setCell (by simp; omega) _).setCell (by simp; omega) _).setCell (by simp; omega) _).setCell (by simp; omega) _).setCell (by simp; omega) _), fun h => absurd rfl h⟩
    · have hlong' : ¬ (s1.most < (s1.dat.length : Int) + (l.length : Int)) := hlong
      have HF2 : Hid (takeR s ap 1 ct l = (⟨true, s1.most, ap, ct, s1.dat ++ l⟩, [], false, 0)) := by rw [HF.out, if_neg (by omega)]; rfl
      go_wp2_with fail
      go_cut [9] (fun s9 wx => ∃ g9 c9, s9 = .slice (some ⟨g9, 0, none⟩) (s1.dat.length + l.length) c9 ∧ wx.ownsRow wo.heap.size 5 1 s9 (s1.dat.length + l.length) (encB (s1.dat ++ l)) ∧ Below wo.heap.size wo wx)
      case first =>
        have hcc : ∀ i (h : i < l.length), (wo.alloc (.cells #[] 5)).drew.cell? ⟨ba, off + i, none⟩ = some (.int .u8 (l[i].toNat : Int)) := fun i hi => by
          have h1 : (wo.alloc (.cells #[] 5)).drew.cell? ⟨ba, off + i, none⟩ = wo.cell? ⟨ba, off + i, none⟩ := World.cell?_of_block (Below.heap_alloc _ _ _ (show ba < wo.heap.size by omega))
          rw [h1, HBB.out.cell (p := ⟨ba, off + i, none⟩) hba']
          exact HB.out i hi
        have HNW := Lib.hid (BAt.news hcc)
        clear hcc
        have e1 : s1.dat = [] := by rw [HS1e.out]; rfl
        obtain ⟨rfl, rfl⟩ := HN1.out e1
        have e2 : s1.dat.length = 0 := by rw [e1]; rfl
        have E1 := Lib.hid e1
        clear e1
        rw [e2] at x4
        have E2 := Lib.hid e2
        clear e2
        go_wp2_with fail
        go_region_held3 (fun w' => w'.cell? ⟨w.heap.size, 4, none⟩ = some (.slice none 0 0) ∧ w'.cell? ⟨w.heap.size + 1, 5, none⟩ = some (.slice (some ⟨ba, off, none⟩) l.length cap)) (first | exact ⟨by assumption, by assumption⟩ | go_keep) ((refine step_append_lies (o := ⟨some 79, _, _, _, _, _⟩) _ (by rfl) _ _ 22 (by rfl) wo.heap.size 5 j0 (.int .u8 0) 1 1 Try.underlying22 hj hy0 hy1 hy2 rfl (by decide) _ 0 [] (by rfl) (World.ownsRow_made _ #[] 0 (by omega) (by unfold maxLen; omega) rfl).drew ⟨ba, off, none⟩ l.length cap (encB l) (by rfl) (by simp [encB]) HNW.out (encB_one _) (by omega) (by unfold maxLen; omega) (by omega) (by first | (simp; done) | (simp; omega) | omega) (wo.heap.size + 1) (by simp) ?_; intro g' cap' w5 hown' hgrow hwhere hlt5; have hBq : Below wo.heap.size wo w5 := (al (Below.refl _ _) _).drew.grown hgrow (by simp) (fun k hk => by simp [Value.ownBlock] at hk; omega); have q1 := (hBq.cell (p := ⟨w.heap.size, 4, none⟩) hlt0).trans x4; have q2 := (hBq.cell (p := ⟨w.heap.size + 1, 5, none⟩) hlt1).trans y5))
        all_goals
          have HO := Lib.hid hown'
          have HG := Lib.hid hgrow
          clear hown' hgrow hwhere
          go_wp2_with fail
          go_meet
          case rel => exact ⟨g', cap', by rw [E2.out, Nat.zero_add], by rw [E1.out]; simpa using HO.out, ((al (Below.refl _ _) _).drew.grown HG.out (by simp) (fun k hk => by simp [Value.ownBlock] at hk; omega))⟩
      case rest =>
        obtain ⟨g9, c9, rfl, ho9, hB9⟩ := hcut
        have hz9 := hB9.size
        have hO9 := hB9.mono hws
        obtain ⟨-, a9, c9', e9, -, -, hBA9⟩ := BAt.of_row (show wc.ownsRow wo.heap.size 5 1 (.slice (some ⟨g9, 0, none⟩) (s1.dat.length + l.length) c9) (s1.dat.length + l.length) (encB (s1.dat ++ l)) from ho9)
        have e9a : some ⟨g9, 0, none⟩ = a9 := by simpa using (Value.slice.inj e9).1
        subst e9a
        have HBA := Lib.hid hBA9
        have x0' := (hB9.cell (p := ⟨w.heap.size, 0, none⟩) hlt0).trans x0
        have y2' := (hB9.cell (p := ⟨w.heap.size + 1, 2, none⟩) hlt1).trans y2
        have y3' := (hB9.cell (p := ⟨w.heap.size + 1, 3, none⟩) hlt1).trans y3
        have y4' := (hB9.cell (p := ⟨w.heap.size + 1, 4, none⟩) hlt1).trans y4
        have z0' := (hB9.cell (p := ⟨w.heap.size + 1 + 1, 0, none⟩) hlt2).trans z0
        have z1' := (hB9.cell (p := ⟨w.heap.size + 1 + 1, 1, none⟩) hlt2).trans z1
        have z2' := (hB9.cell (p := ⟨w.heap.size + 1 + 1, 2, none⟩) hlt2).trans z2
        have z3' := (hB9.cell (p := ⟨w.heap.size + 1 + 1, 3, none⟩) hlt2).trans z3
        have z4' := (hB9.cell (p := ⟨w.heap.size + 1 + 1, 4, none⟩) hlt2).trans z4
        have v0' := (hB9.frozen (p := ⟨w.heap.size + 1 + 1, 0, none⟩) hlt2).trans v0
        have v1' := (hB9.frozen (p := ⟨w.heap.size + 1 + 1, 1, none⟩) hlt2).trans v1
        have v2' := (hB9.frozen (p := ⟨w.heap.size + 1 + 1, 2, none⟩) hlt2).trans v2
        have v3' := (hB9.frozen (p := ⟨w.heap.size + 1 + 1, 3, none⟩) hlt2).trans v3
        have v4' := (hB9.frozen (p := ⟨w.heap.size + 1 + 1, 4, none⟩) hlt2).trans v4
        have u0' := (hB9.cell (p := ⟨w.heap.size + 1 + 1 + 1 + 1, 0, none⟩) hlt4).trans u0
        have u1' := (hB9.cell (p := ⟨w.heap.size + 1 + 1 + 1 + 1, 1, none⟩) hlt4).trans u1
        have u2' := (hB9.cell (p := ⟨w.heap.size + 1 + 1 + 1 + 1, 2, none⟩) hlt4).trans u2
        have u3' := (hB9.cell (p := ⟨w.heap.size + 1 + 1 + 1 + 1, 3, none⟩) hlt4).trans u3
        have u4' := (hB9.cell (p := ⟨w.heap.size + 1 + 1 + 1 + 1, 4, none⟩) hlt4).trans u4
        have k0' : w.heap.size < wc.heap.size := by omega
        have k1' : w.heap.size + 1 < wc.heap.size := by omega
        have k2' : w.heap.size + 1 + 1 < wc.heap.size := by omega
        have k4' : w.heap.size + 1 + 1 + 1 + 1 < wc.heap.size := by omega
        have HB9 := Lib.hid (HBB.out.trans hO9)
        have HO9 := Lib.hid ho9
        have HL4 := Lib.hid hlt4
        clear x0 x4 y2 y3 y4 y5 z0 z1 z2 z3 z4 u0 u1 u2 u3 u4 v0 v1 v2 v3 v4 hlt0 hlt1 hlt2 hlt4 hB9 hO9 hBA9 e9 ho9
        go_wp2_with fail
        refine bodyPost_ret (v := .tuple #[RV ⟨true, s1.most, ap, ct, s1.dat ++ l⟩ (some ⟨g9, 0, none⟩) c9, .slice none 0 0, .bool false, .int .i64 0]) (by simp [results, Try.results18, go_sem, RV, *]) rfl ?_
        rw [HF2.out]
        have hg9 : w.heap.size + 1 + 1 < g9 := by have := (HO9.out.lt g9 rfl).1; have := HL4.out; omega
        refine ⟨some ⟨g9, 0, none⟩, c9, none, 0, rfl, HBA.out.fr (S := fun k => k = w.heap.size + 1 + 1) (((((Fr.refl _ _).set1 _ (by exact .inl rfl)).set1 _ (by exact .inl rfl)).set1 _ (by exact .inl rfl)).set1 _ (by exact .inl rfl) |>.set1 _ (by exact .inl rfl)) ?_, fun e => by have h5 := congrArg List.length e; rw [List.length_append, List.length_nil] at h5; omega, BAt.nil _ _, (((((HB9.out.setCell (by simp; omega) _).setCell (by simp; omega) _).setCell (by simp; omega) _).setCell (by simp; omega) _).setCell (by simp; omega) _), fun _ => .inr (fun q hq => by cases hq; simp only; omega)⟩
        rintro p hp h
        cases hp
        simp only at h
        omega
set_option maxRecDepth 20000 in
set_option maxHeartbeats 2000000 in
theorem rtake_fit3 (s : JS) (ra : Option Addr) (rc : Nat) (c sc : Bool) (ap fl ct : Int) (a : Option Addr) (l : List UInt8) (cap : Nat) (w : World) (hr : BAt w ra s.dat) (hnil : s.dat = [] → ra = none ∧ rc = 0) (hba : BAt w a l)
    (hl : l.length ≤ 1000000000) (hd : s.dat.length ≤ 1000000000) (hm0 : 0 ≤ s.most) (hm1 : s.most ≤ 9223372036854775807) (hk : okB ap ct = true) (hne : l ≠ []) (hlast : 0 ≤ s.last ∧ s.last < 16384)
    (hf : fl = 3) (hx : fl = 1 ∨ fl = 3 ∨ (fl = 0 ∨ fl = 2) ∧ s.op = true ∧ ap = s.apid ∧ ct = (s.last + 1) % 16384) :
    Calls Try.prog 18 #[RV s ra rc, Pk c sc ap fl ct a l.length cap] w (RTakeQ w ra (takeR s ap fl ct l)) := by
  obtain ⟨s1, hs1⟩ : ∃ s1, s1 = if fl = 1 ∨ fl = 3 then s.idle else s := ⟨_, rfl⟩
  have HF : Hid (takeR s ap fl ct l = if s1.most - s1.dat.length < l.length then (s1.idle, [], false, 6) else if fl = 1 ∨ fl = 0 then (⟨true, s1.most, ap, ct, s1.dat ++ l⟩, [], false, 0) else ((⟨true, s1.most, ap, ct, s1.dat ++ l⟩ : JS).idle, s1.dat ++ l, true, 0)) := by
    have h1 : ¬ (okB ap ct = false ∨ fl < 0 ∨ 3 < fl ∨ l = []) := by rintro (h | h | h | h); rw [hk] at h; cases h; omega; omega; exact hne h
    show takeR s ap fl ct l = _
    unfold takeR
    rw [if_neg h1, if_neg (by rintro ⟨h2, h3⟩; rcases hx with h4 | h4 | h4; omega; omega; exact h3 h4.2), hs1]
  have hlb : ((l.length : Int) == 0) = false := by
    rw [beq_eq_false_iff_ne]; intro h; exact hne (List.length_eq_zero_iff.1 (by omega))
  have hl0 : 0 < l.length := List.length_pos_iff.2 hne
  obtain ⟨ba, off, rfl, hba', hbc⟩ := hba.resolve_left hne
  have HB := Lib.hid hbc
  have HR := Lib.hid hr
  have HS1 := Lib.hid hs1
  obtain ⟨hl0, hl1⟩ := hlast
  have h1d : s1.dat.length ≤ 1000000000 := by rw [hs1]; split; simp [JS.idle]; exact hd
  have h1m : s1.most = s.most := by rw [hs1]; split <;> rfl
  have hm2 : 0 ≤ s1.most ∧ s1.most ≤ 9223372036854775807 := by rw [h1m]; exact ⟨hm0, hm1⟩
  obtain ⟨hm3, hm4⟩ := hm2
  obtain ⟨j0, hj, hy0, hy1, hy2⟩ := info_parts info5
  unfold Pk RV
  have HX := Lib.hid hx
  have HN := Lib.hid hnil
  have HM := Lib.hid h1m
  clear hne hs1 hx hbc hr hba hnil h1m
  subst hf
  have HS1e := Lib.hid (show s1 = s.idle by have e := HS1.out; simpa using e)
  go_enter Try.func18, Try.ntmps18
  go_upto_if 40 with (go_at_call 23; refine (header_at _ _ _ _ _ _ _ _ _).mono ?_; rintro e w2 ⟨rfl, rfl⟩)
  go_cut [] (fun wx => ∃ ra1 rc1, RMid w s1 ra1 rc1 [.bool c, .bool sc, .int .i64 ap, .int .i64 3, .int .i64 ct, .slice (some ⟨ba, off, none⟩) l.length cap] wx)
  case first =>
    go_wp2_with fail
    go_meet
    case rel =>
      have e := HS1e.out
      subst e
      exact ⟨none, 0, .alloc (.alloc (.alloc (.alloc (Blk.newAt rfl) _) _) _) _, .alloc (.alloc (.alloc (Blk.newAt (by simp)) _) _) _, .alloc (.alloc (Blk.newAt (by simp)) _) _, Blk.newAt (by simp), al (al (al (al (al (Below.refl _ _) _) _) _) _) _, BAt.nil _ _, fun _ => ⟨rfl, rfl⟩⟩
  case rest =>
    obtain ⟨wo, hwo⟩ : ∃ wo, wo = wc := ⟨wc, rfl⟩
    subst hwo
    obtain ⟨ra1, rc1, hb0, hb1, hb2, hb4, hB, hr1, hn1⟩ := hcut
    have x0 := hb0.at 0 rfl
    have x4 := hb0.at 4 rfl
    have y2 := hb1.at 2 rfl
    have y3 := hb1.at 3 rfl
    have y4 := hb1.at 4 rfl
    have y5 := hb1.at 5 rfl
    have z0 := hb2.at 0 rfl
    have z1 := hb2.at 1 rfl
    have z2 := hb2.at 2 rfl
    have z3 := hb2.at 3 rfl
    have z4 := hb2.at 4 rfl
    have u0 := hb4.at 0 rfl
    have u1 := hb4.at 1 rfl
    have u2 := hb4.at 2 rfl
    have u3 := hb4.at 3 rfl
    have u4 := hb4.at 4 rfl
    have v0 := hb2.free 0
    have v1 := hb2.free 1
    have v2 := hb2.free 2
    have v3 := hb2.free 3
    have v4 := hb2.free 4
    have hlt0 := hb0.lt
    have hlt1 := hb1.lt
    have hlt2 := hb2.lt
    have hlt4 := hb4.lt
    have HB0 := Lib.hid hb0
    have HB1 := Lib.hid hb1
    have HB2 := Lib.hid hb2
    have HB4 := Lib.hid hb4
    have hws := hB.size
    have HBB := Lib.hid hB
    have HR1 := Lib.hid hr1
    have HN1 := Lib.hid hn1
    clear hb0 hb1 hb2 hb4 hB hr1 hn1
    by_cases hlong : s1.most < s1.dat.length + l.length
    · have HF2 : Hid (takeR s ap 3 ct l = (s1.idle, [], false, 6)) := by rw [HF.out, if_pos (by omega)]; rfl
      go_wp2_with fail
      refine bodyPost_ret (v := .tuple #[RV s1.idle none 0, .slice none 0 0, .bool false, .int .i64 6]) (by simp [results, Try.results18, go_sem, RV, JS.idle, *]) rfl ?_
      rw [HF2.out]
      exact ⟨none, 0, none, 0, rfl, BAt.nil _ _, fun _ => ⟨rfl, rfl⟩, BAt.nil _ _, (((((HBB.out.setCell (by simp; omega) _).setCell (by simp; omega) _).setCell (by simp; omega) _).setCell (by simp; omega) _).setCell (by simp; omega) _), fun h => absurd rfl h⟩
    · have hlong' : ¬ (s1.most < (s1.dat.length : Int) + (l.length : Int)) := hlong
      have HF2 : Hid (takeR s ap 3 ct l = ((⟨true, s1.most, ap, ct, s1.dat ++ l⟩ : JS).idle, s1.dat ++ l, true, 0)) := by rw [HF.out, if_neg (by omega)]; rfl
      go_wp2_with fail
      go_cut [9] (fun s9 wx => ∃ g9 c9, s9 = .slice (some ⟨g9, 0, none⟩) (s1.dat.length + l.length) c9 ∧ wx.ownsRow wo.heap.size 5 1 s9 (s1.dat.length + l.length) (encB (s1.dat ++ l)) ∧ Below wo.heap.size wo wx)
      case first =>
        have hcc : ∀ i (h : i < l.length), (wo.alloc (.cells #[] 5)).drew.cell? ⟨ba, off + i, none⟩ = some (.int .u8 (l[i].toNat : Int)) := fun i hi => by
          have h1 : (wo.alloc (.cells #[] 5)).drew.cell? ⟨ba, off + i, none⟩ = wo.cell? ⟨ba, off + i, none⟩ := World.cell?_of_block (Below.heap_alloc _ _ _ (show ba < wo.heap.size by omega))
          rw [h1, HBB.out.cell (p := ⟨ba, off + i, none⟩) hba']
          exact HB.out i hi
        have HNW := Lib.hid (BAt.news hcc)
        clear hcc
        have e1 : s1.dat = [] := by rw [HS1e.out]; rfl
        obtain ⟨rfl, rfl⟩ := HN1.out e1
        have e2 : s1.dat.length = 0 := by rw [e1]; rfl
        have E1 := Lib.hid e1
        clear e1
        rw [e2] at x4
        have E2 := Lib.hid e2
        clear e2
        go_wp2_with fail
        go_region_held3 (fun w' => w'.cell? ⟨w.heap.size, 4, none⟩ = some (.slice none 0 0) ∧ w'.cell? ⟨w.heap.size + 1, 5, none⟩ = some (.slice (some ⟨ba, off, none⟩) l.length cap)) (first | exact ⟨by assumption, by assumption⟩ | go_keep) ((refine step_append_lies (o := ⟨some 79, _, _, _, _, _⟩) _ (by rfl) _ _ 22 (by rfl) wo.heap.size 5 j0 (.int .u8 0) 1 1 Try.underlying22 hj hy0 hy1 hy2 rfl (by decide) _ 0 [] (by rfl) (World.ownsRow_made _ #[] 0 (by omega) (by unfold maxLen; omega) rfl).drew ⟨ba, off, none⟩ l.length cap (encB l) (by rfl) (by simp [encB]) HNW.out (encB_one _) (by omega) (by unfold maxLen; omega) (by omega) (by first | (simp; done) | (simp; omega) | omega) (wo.heap.size + 1) (by simp) ?_; intro g' cap' w5 hown' hgrow hwhere hlt5; have hBq : Below wo.heap.size wo w5 := (al (Below.refl _ _) _).drew.grown hgrow (by simp) (fun k hk => by simp [Value.ownBlock] at hk; omega); have q1 := (hBq.cell (p := ⟨w.heap.size, 4, none⟩) hlt0).trans x4; have q2 := (hBq.cell (p := ⟨w.heap.size + 1, 5, none⟩) hlt1).trans y5))
        all_goals
          have HO := Lib.hid hown'
          have HG := Lib.hid hgrow
          clear hown' hgrow hwhere
          go_wp2_with fail
          go_meet
          case rel => exact ⟨g', cap', by rw [E2.out, Nat.zero_add], by rw [E1.out]; simpa using HO.out, ((al (Below.refl _ _) _).drew.grown HG.out (by simp) (fun k hk => by simp [Value.ownBlock] at hk; omega))⟩
      case rest =>
        obtain ⟨g9, c9, rfl, ho9, hB9⟩ := hcut
        have hz9 := hB9.size
        have hO9 := hB9.mono hws
        obtain ⟨-, a9, c9', e9, -, -, hBA9⟩ := BAt.of_row (show wc.ownsRow wo.heap.size 5 1 (.slice (some ⟨g9, 0, none⟩) (s1.dat.length + l.length) c9) (s1.dat.length + l.length) (encB (s1.dat ++ l)) from ho9)
        have e9a : some ⟨g9, 0, none⟩ = a9 := by simpa using (Value.slice.inj e9).1
        subst e9a
        have HBA := Lib.hid hBA9
        have x0' := (hB9.cell (p := ⟨w.heap.size, 0, none⟩) hlt0).trans x0
        have y2' := (hB9.cell (p := ⟨w.heap.size + 1, 2, none⟩) hlt1).trans y2
        have y3' := (hB9.cell (p := ⟨w.heap.size + 1, 3, none⟩) hlt1).trans y3
        have y4' := (hB9.cell (p := ⟨w.heap.size + 1, 4, none⟩) hlt1).trans y4
        have z0' := (hB9.cell (p := ⟨w.heap.size + 1 + 1, 0, none⟩) hlt2).trans z0
        have z1' := (hB9.cell (p := ⟨w.heap.size + 1 + 1, 1, none⟩) hlt2).trans z1
        have z2' := (hB9.cell (p := ⟨w.heap.size + 1 + 1, 2, none⟩) hlt2).trans z2
        have z3' := (hB9.cell (p := ⟨w.heap.size + 1 + 1, 3, none⟩) hlt2).trans z3
        have z4' := (hB9.cell (p := ⟨w.heap.size + 1 + 1, 4, none⟩) hlt2).trans z4
        have v0' := (hB9.frozen (p := ⟨w.heap.size + 1 + 1, 0, none⟩) hlt2).trans v0
        have v1' := (hB9.frozen (p := ⟨w.heap.size + 1 + 1, 1, none⟩) hlt2).trans v1
        have v2' := (hB9.frozen (p := ⟨w.heap.size + 1 + 1, 2, none⟩) hlt2).trans v2
        have v3' := (hB9.frozen (p := ⟨w.heap.size + 1 + 1, 3, none⟩) hlt2).trans v3
        have v4' := (hB9.frozen (p := ⟨w.heap.size + 1 + 1, 4, none⟩) hlt2).trans v4
        have u0' := (hB9.cell (p := ⟨w.heap.size + 1 + 1 + 1 + 1, 0, none⟩) hlt4).trans u0
        have u1' := (hB9.cell (p := ⟨w.heap.size + 1 + 1 + 1 + 1, 1, none⟩) hlt4).trans u1
        have u2' := (hB9.cell (p := ⟨w.heap.size + 1 + 1 + 1 + 1, 2, none⟩) hlt4).trans u2
        have u3' := (hB9.cell (p := ⟨w.heap.size + 1 + 1 + 1 + 1, 3, none⟩) hlt4).trans u3
        have u4' := (hB9.cell (p := ⟨w.heap.size + 1 + 1 + 1 + 1, 4, none⟩) hlt4).trans u4
        have k0' : w.heap.size < wc.heap.size := by omega
        have k1' : w.heap.size + 1 < wc.heap.size := by omega
        have k2' : w.heap.size + 1 + 1 < wc.heap.size := by omega
        have k4' : w.heap.size + 1 + 1 + 1 + 1 < wc.heap.size := by omega
        have HB9 := Lib.hid (HBB.out.trans hO9)
        have HO9 := Lib.hid ho9
        have HL4 := Lib.hid hlt4
        clear x0 x4 y2 y3 y4 y5 z0 z1 z2 z3 z4 u0 u1 u2 u3 u4 v0 v1 v2 v3 v4 hlt0 hlt1 hlt2 hlt4 hB9 hO9 hBA9 e9 ho9
        go_wp2_with fail
        refine bodyPost_ret (v := .tuple #[RV s1.idle none 0, .slice (some ⟨g9, 0, none⟩) (s1.dat ++ l).length c9, .bool true, .int .i64 0]) (by simp [results, Try.results18, go_sem, RV, JS.idle, *]) rfl ?_
        rw [HF2.out]
        have hg9 : w.heap.size + 1 + 1 < g9 := by have := (HO9.out.lt g9 rfl).1; have := HL4.out; omega
        refine ⟨none, 0, some ⟨g9, 0, none⟩, c9, rfl, BAt.nil _ _, fun _ => ⟨rfl, rfl⟩, HBA.out.fr (S := fun k => k = w.heap.size + 1 + 1) (((((Fr.refl _ _).set1 _ (by exact .inl rfl)).set1 _ (by exact .inl rfl)).set1 _ (by exact .inl rfl)).set1 _ (by exact .inl rfl) |>.set1 _ (by exact .inl rfl)) ?_, (((((HB9.out.setCell (by simp; omega) _).setCell (by simp; omega) _).setCell (by simp; omega) _).setCell (by simp; omega) _).setCell (by simp; omega) _), fun h => absurd rfl h⟩
        rintro p hp h
        cases hp
        simp only at h
        omega
set_option maxRecDepth 20000 in
set_option maxHeartbeats 2000000 in
theorem rtake_fit0 (s : JS) (ra : Option Addr) (rc : Nat) (c sc : Bool) (ap fl ct : Int) (a : Option Addr) (l : List UInt8) (cap : Nat) (w : World) (hr : BAt w ra s.dat) (hnil : s.dat = [] → ra = none ∧ rc = 0) (hba : BAt w a l)
    (hl : l.length ≤ 1000000000) (hd : s.dat.length ≤ 1000000000) (hm0 : 0 ≤ s.most) (hm1 : s.most ≤ 9223372036854775807) (hk : okB ap ct = true) (hne : l ≠ []) (hlast : 0 ≤ s.last ∧ s.last < 16384)
    (hf : fl = 0) (hx : fl = 1 ∨ fl = 3 ∨ (fl = 0 ∨ fl = 2) ∧ s.op = true ∧ ap = s.apid ∧ ct = (s.last + 1) % 16384) :
    Calls Try.prog 18 #[RV s ra rc, Pk c sc ap fl ct a l.length cap] w (RTakeQ w ra (takeR s ap fl ct l)) := by
  obtain ⟨s1, hs1⟩ : ∃ s1, s1 = if fl = 1 ∨ fl = 3 then s.idle else s := ⟨_, rfl⟩
  have HF : Hid (takeR s ap fl ct l = if s1.most - s1.dat.length < l.length then (s1.idle, [], false, 6) else if fl = 1 ∨ fl = 0 then (⟨true, s1.most, ap, ct, s1.dat ++ l⟩, [], false, 0) else ((⟨true, s1.most, ap, ct, s1.dat ++ l⟩ : JS).idle, s1.dat ++ l, true, 0)) := by
    have h1 : ¬ (okB ap ct = false ∨ fl < 0 ∨ 3 < fl ∨ l = []) := by rintro (h | h | h | h); rw [hk] at h; cases h; omega; omega; exact hne h
    show takeR s ap fl ct l = _
    unfold takeR
    rw [if_neg h1, if_neg (by rintro ⟨h2, h3⟩; rcases hx with h4 | h4 | h4; omega; omega; exact h3 h4.2), hs1]
  have hlb : ((l.length : Int) == 0) = false := by
    rw [beq_eq_false_iff_ne]; intro h; exact hne (List.length_eq_zero_iff.1 (by omega))
  have hl0 : 0 < l.length := List.length_pos_iff.2 hne
  obtain ⟨ba, off, rfl, hba', hbc⟩ := hba.resolve_left hne
  have HB := Lib.hid hbc
  have HR := Lib.hid hr
  have HS1 := Lib.hid hs1
  obtain ⟨hl0, hl1⟩ := hlast
  have h1d : s1.dat.length ≤ 1000000000 := by rw [hs1]; split; simp [JS.idle]; exact hd
  have h1m : s1.most = s.most := by rw [hs1]; split <;> rfl
  have hm2 : 0 ≤ s1.most ∧ s1.most ≤ 9223372036854775807 := by rw [h1m]; exact ⟨hm0, hm1⟩
  obtain ⟨hm3, hm4⟩ := hm2
  obtain ⟨j0, hj, hy0, hy1, hy2⟩ := info_parts info5
  unfold Pk RV
  have HX := Lib.hid hx
  have HN := Lib.hid hnil
  have HM := Lib.hid h1m
  clear hne hs1 hx hbc hr hba hnil h1m
  subst hf
  have HS1e := Lib.hid (show s1 = s by have e := HS1.out; simpa using e)
  obtain ⟨k1, k2, k3⟩ : s.op = true ∧ ap = s.apid ∧ ct = (s.last + 1) % 16384 := by
    rcases HX.out with h | h | h
    · omega
    · omega
    · exact h.2
  have k8 : (ap != s.apid) = false := by simp [k2]
  have k9 : (ct != (s.last + 1) % 16384) = false := by rw [k3]; simp
  have K2 := Lib.hid k2
  have K3 := Lib.hid k3
  clear k2 k3
  go_enter Try.func18, Try.ntmps18
  go_upto_if 40 with (go_at_call 23; refine (header_at _ _ _ _ _ _ _ _ _).mono ?_; rintro e w2 ⟨rfl, rfl⟩)
  go_cut [] (fun wx => ∃ ra1 rc1, RMid w s1 ra1 rc1 [.bool c, .bool sc, .int .i64 ap, .int .i64 0, .int .i64 ct, .slice (some ⟨ba, off, none⟩) l.length cap] wx)
  case first =>
    go_wp2_with fail
    go_meet
    case rel =>
      have e := HS1e.out
      subst e
      exact ⟨ra, rc, .cast (.alloc (.alloc (.alloc (.alloc (Blk.newAt rfl) _) _) _) _) (by rw [k1]), .alloc (.alloc (.alloc (Blk.newAt (by simp)) _) _) _, .alloc (.alloc (Blk.newAt (by simp)) _) _, Blk.newAt (by simp), al (al (al (al (al (Below.refl _ _) _) _) _) _) _, HR.out.below (al (al (al (al (al (Below.refl _ _) _) _) _) _) _) (Nat.le_refl _), HN.out⟩
  case rest =>
    obtain ⟨wo, hwo⟩ : ∃ wo, wo = wc := ⟨wc, rfl⟩
    subst hwo
    obtain ⟨ra1, rc1, hb0, hb1, hb2, hb4, hB, hr1, hn1⟩ := hcut
    have x0 := hb0.at 0 rfl
    have x4 := hb0.at 4 rfl
    have y2 := hb1.at 2 rfl
    have y3 := hb1.at 3 rfl
    have y4 := hb1.at 4 rfl
    have y5 := hb1.at 5 rfl
    have z0 := hb2.at 0 rfl
    have z1 := hb2.at 1 rfl
    have z2 := hb2.at 2 rfl
    have z3 := hb2.at 3 rfl
    have z4 := hb2.at 4 rfl
    have u0 := hb4.at 0 rfl
    have u1 := hb4.at 1 rfl
    have u2 := hb4.at 2 rfl
    have u3 := hb4.at 3 rfl
    have u4 := hb4.at 4 rfl
    have v0 := hb2.free 0
    have v1 := hb2.free 1
    have v2 := hb2.free 2
    have v3 := hb2.free 3
    have v4 := hb2.free 4
    have hlt0 := hb0.lt
    have hlt1 := hb1.lt
    have hlt2 := hb2.lt
    have hlt4 := hb4.lt
    have HB0 := Lib.hid hb0
    have HB1 := Lib.hid hb1
    have HB2 := Lib.hid hb2
    have HB4 := Lib.hid hb4
    have hws := hB.size
    have HBB := Lib.hid hB
    have HR1 := Lib.hid hr1
    have HN1 := Lib.hid hn1
    clear hb0 hb1 hb2 hb4 hB hr1 hn1
    by_cases hlong : s1.most < s1.dat.length + l.length
    · have HF2 : Hid (takeR s ap 0 ct l = (s1.idle, [], false, 6)) := by rw [HF.out, if_pos (by omega)]; rfl
      go_wp2_with fail
      refine bodyPost_ret (v := .tuple #[RV s1.idle none 0, .slice none 0 0, .bool false, .int .i64 6]) (by simp [results, Try.results18, go_sem, RV, JS.idle, *]) rfl ?_
      rw [HF2.out]
      exact ⟨none, 0, none, 0, rfl, BAt.nil _ _, fun _ => ⟨rfl, rfl⟩, BAt.nil _ _, (((((HBB.out.setCell (by simp; omega) _).setCell (by simp; omega) _).setCell (by simp; omega) _).setCell (by simp; omega) _).setCell (by simp; omega) _), fun h => absurd rfl h⟩
    · have hlong' : ¬ (s1.most < (s1.dat.length : Int) + (l.length : Int)) := hlong
      have HF2 : Hid (takeR s ap 0 ct l = (⟨true, s1.most, ap, ct, s1.dat ++ l⟩, [], false, 0)) := by rw [HF.out, if_neg (by omega)]; rfl
      go_wp2_with fail
      go_cut [9] (fun s9 wx => ∃ g9 c9, s9 = .slice (some ⟨g9, 0, none⟩) (s1.dat.length + l.length) c9 ∧ wx.ownsRow wo.heap.size 5 1 s9 (s1.dat.length + l.length) (encB (s1.dat ++ l)) ∧ Below wo.heap.size wo wx)
      case first =>
        have hcc : ∀ i (h : i < l.length), (wo.alloc (.cells #[] 5)).drew.cell? ⟨ba, off + i, none⟩ = some (.int .u8 (l[i].toNat : Int)) := fun i hi => by
          have h1 : (wo.alloc (.cells #[] 5)).drew.cell? ⟨ba, off + i, none⟩ = wo.cell? ⟨ba, off + i, none⟩ := World.cell?_of_block (Below.heap_alloc _ _ _ (show ba < wo.heap.size by omega))
          rw [h1, HBB.out.cell (p := ⟨ba, off + i, none⟩) hba']
          exact HB.out i hi
        have HNW := Lib.hid (BAt.news hcc)
        clear hcc
        have hcr : ∀ a l, BAt w a l → BAt (wo.alloc (.cells #[] 5)).drew a l := fun a l h => (h.below HBB.out (Nat.le_refl _)).below (B := wo.heap.size) ((Below.refl _ _).alloc (Nat.le_refl _) _).drew (by omega)
        by_cases e1 : s1.dat = []
        · obtain ⟨rfl, rfl⟩ := HN1.out e1
          have e2 : s1.dat.length = 0 := by rw [e1]; rfl
          have E1 := Lib.hid e1
          clear e1
          rw [e2] at x4
          have E2 := Lib.hid e2
          clear e2
          go_wp2_with fail
          go_region_held3 (fun w' => w'.cell? ⟨w.heap.size, 4, none⟩ = some (.slice none 0 0) ∧ w'.cell? ⟨w.heap.size + 1, 5, none⟩ = some (.slice (some ⟨ba, off, none⟩) l.length cap)) (first | exact ⟨by assumption, by assumption⟩ | go_keep) ((refine step_append_lies (o := ⟨some 79, _, _, _, _, _⟩) _ (by rfl) _ _ 22 (by rfl) wo.heap.size 5 j0 (.int .u8 0) 1 1 Try.underlying22 hj hy0 hy1 hy2 rfl (by decide) _ 0 [] (by rfl) (World.ownsRow_made _ #[] 0 (by omega) (by unfold maxLen; omega) rfl).drew ⟨ba, off, none⟩ l.length cap (encB l) (by rfl) (by simp [encB]) HNW.out (encB_one _) (by omega) (by unfold maxLen; omega) (by omega) (by first | (simp; done) | (simp; omega) | omega) (wo.heap.size + 1) (by simp) ?_; intro g' cap' w5 hown' hgrow hwhere hlt5; have hBq : Below wo.heap.size wo w5 := (al (Below.refl _ _) _).drew.grown hgrow (by simp) (fun k hk => by simp [Value.ownBlock] at hk; omega); have q1 := (hBq.cell (p := ⟨w.heap.size, 4, none⟩) hlt0).trans x4; have q2 := (hBq.cell (p := ⟨w.heap.size + 1, 5, none⟩) hlt1).trans y5))
          all_goals
            have HO := Lib.hid hown'
            have HG := Lib.hid hgrow
            clear hown' hgrow hwhere
            go_wp2_with fail
            go_meet
            case rel => exact ⟨g', cap', by rw [E2.out, Nat.zero_add], by rw [E1.out]; simpa using HO.out, ((al (Below.refl _ _) _).drew.grown HG.out (by simp) (fun k hk => by simp [Value.ownBlock] at hk; omega))⟩
        · obtain ⟨b1, off1, rfl, hb1, hc1⟩ := HR1.out.resolve_left e1
          have hd0 : 0 < s1.dat.length := List.length_pos_iff.2 e1
          have HNR := Lib.hid (BAt.news (w := (wo.alloc (.cells #[] 5)).drew) (b := b1) (off := off1) (l := s1.dat) (fun i hi => (World.cell?_of_block (Below.heap_alloc _ _ _ (show b1 < wo.heap.size by omega))).trans (hc1 i hi)))
          have Y5 := Lib.hid y5
          have E1 := Lib.hid e1
          clear e1 hc1
          go_wp2_with fail
          go_region_held3 (fun w' => w'.cell? ⟨w.heap.size, 4, none⟩ = some (.slice (some ⟨b1, off1, none⟩) s1.dat.length rc1) ∧ w'.cell? ⟨w.heap.size + 1, 5, none⟩ = some (.slice (some ⟨ba, off, none⟩) l.length cap)) (first | exact ⟨by assumption, by assumption⟩ | go_keep) ((first
            | (refine step_append_lies (o := ⟨some 76, _, _, _, _, _⟩) _ (by rfl) _ _ 22 (by rfl) wo.heap.size 5 j0 (.int .u8 0) 1 1 Try.underlying22 hj hy0 hy1 hy2 rfl (by decide) _ 0 [] (by rfl) (World.ownsRow_made _ #[] 0 (by omega) (by unfold maxLen; omega) rfl).drew ⟨b1, off1, none⟩ s1.dat.length rc1 (encB s1.dat) (by rfl) (by simp [encB]) HNR.out (encB_one _) (by omega) (by unfold maxLen; omega) (by omega) (by first | (simp; done) | (simp; omega) | omega) (wo.heap.size + 1) (by simp) ?_; intro g5 c5 w5 hown5 hgrow5 hwhere5 hlt5; have hB5 : Below wo.heap.size wo w5 := (al (Below.refl _ _) _).drew.grown hgrow5 (by simp) (fun k hk => by simp [Value.ownBlock] at hk; omega); have x4' := (hB5.cell (p := ⟨w.heap.size, 4, none⟩) hlt0).trans x4; have y5' : w5.cell? ⟨w.heap.size + 1, 5, none⟩ = some (.slice (some ⟨ba, off, none⟩) l.length cap) := (hB5.cell (p := ⟨w.heap.size + 1, 5, none⟩) hlt1).trans Y5.out; have HN5 := Lib.hid (BAt.news (w := w5) (b := ba) (off := off) (l := l) (fun i hi => (hB5.cell (p := ⟨ba, off + i, none⟩) (show ba < wo.heap.size by omega)).trans ((HBB.out.cell (p := ⟨ba, off + i, none⟩) hba').trans (HB.out i hi)))); have HO5 := Lib.hid (show w5.ownsRow wo.heap.size 5 1 (.slice (some ⟨g5, 0, none⟩) (0 + s1.dat.length) c5) (0 + s1.dat.length) (encB s1.dat) from hown5); have hs5 := hB5.size; have HB5 := Lib.hid hB5; clear hown5 hgrow5 hwhere5 hB5)
            | (refine step_append_lies (o := ⟨some 79, _, _, _, _, _⟩) _ (by rfl) _ _ 22 (by rfl) wo.heap.size 5 j0 (.int .u8 0) 1 1 Try.underlying22 hj hy0 hy1 hy2 rfl (by decide) _ (0 + s1.dat.length) (encB s1.dat) (by rfl) HO5.out ⟨ba, off, none⟩ l.length cap (encB l) (by rfl) (by simp [encB]) HN5.out (encB_one _) (by omega) (by unfold maxLen; omega) (by omega) (by first | (simp; done) | (simp; omega) | omega) w5.heap.size rfl ?_; intro g' cap' w6 hown' hgrow hwhere hlt6; have hB6 := HB5.out.grown hgrow (by omega) (fun k hk => (HO5.out.lt k hk).1); have x6' := (hB6.cell (p := ⟨w.heap.size, 4, none⟩) hlt0).trans x4; have y6' := (hB6.cell (p := ⟨w.heap.size + 1, 5, none⟩) hlt1).trans y5)))
          all_goals
            have HO := Lib.hid hown'
            have HG := Lib.hid hgrow
            have HB6 := Lib.hid (HB5.out.grown HG.out (by omega) (fun k hk => (HO5.out.lt k hk).1))
            clear hown' hgrow hwhere
            go_wp2_with fail
            go_meet
            case rel => exact ⟨g', cap', rfl, by have := HO.out; simp only [Nat.zero_add] at this; rw [encB_append]; exact this, HB6.out⟩
      case rest =>
        obtain ⟨g9, c9, rfl, ho9, hB9⟩ := hcut
        have hz9 := hB9.size
        have hO9 := hB9.mono hws
        obtain ⟨-, a9, c9', e9, -, -, hBA9⟩ := BAt.of_row (show wc.ownsRow wo.heap.size 5 1 (.slice (some ⟨g9, 0, none⟩) (s1.dat.length + l.length) c9) (s1.dat.length + l.length) (encB (s1.dat ++ l)) from ho9)
        have e9a : some ⟨g9, 0, none⟩ = a9 := by simpa using (Value.slice.inj e9).1
        subst e9a
        have HBA := Lib.hid hBA9
        have x0' := (hB9.cell (p := ⟨w.heap.size, 0, none⟩) hlt0).trans x0
        have y2' := (hB9.cell (p := ⟨w.heap.size + 1, 2, none⟩) hlt1).trans y2
        have y3' := (hB9.cell (p := ⟨w.heap.size + 1, 3, none⟩) hlt1).trans y3
        have y4' := (hB9.cell (p := ⟨w.heap.size + 1, 4, none⟩) hlt1).trans y4
        have z0' := (hB9.cell (p := ⟨w.heap.size + 1 + 1, 0, none⟩) hlt2).trans z0
        have z1' := (hB9.cell (p := ⟨w.heap.size + 1 + 1, 1, none⟩) hlt2).trans z1
        have z2' := (hB9.cell (p := ⟨w.heap.size + 1 + 1, 2, none⟩) hlt2).trans z2
        have z3' := (hB9.cell (p := ⟨w.heap.size + 1 + 1, 3, none⟩) hlt2).trans z3
        have z4' := (hB9.cell (p := ⟨w.heap.size + 1 + 1, 4, none⟩) hlt2).trans z4
        have v0' := (hB9.frozen (p := ⟨w.heap.size + 1 + 1, 0, none⟩) hlt2).trans v0
        have v1' := (hB9.frozen (p := ⟨w.heap.size + 1 + 1, 1, none⟩) hlt2).trans v1
        have v2' := (hB9.frozen (p := ⟨w.heap.size + 1 + 1, 2, none⟩) hlt2).trans v2
        have v3' := (hB9.frozen (p := ⟨w.heap.size + 1 + 1, 3, none⟩) hlt2).trans v3
        have v4' := (hB9.frozen (p := ⟨w.heap.size + 1 + 1, 4, none⟩) hlt2).trans v4
        have u0' := (hB9.cell (p := ⟨w.heap.size + 1 + 1 + 1 + 1, 0, none⟩) hlt4).trans u0
        have u1' := (hB9.cell (p := ⟨w.heap.size + 1 + 1 + 1 + 1, 1, none⟩) hlt4).trans u1
        have u2' := (hB9.cell (p := ⟨w.heap.size + 1 + 1 + 1 + 1, 2, none⟩) hlt4).trans u2
        have u3' := (hB9.cell (p := ⟨w.heap.size + 1 + 1 + 1 + 1, 3, none⟩) hlt4).trans u3
        have u4' := (hB9.cell (p := ⟨w.heap.size + 1 + 1 + 1 + 1, 4, none⟩) hlt4).trans u4
        have k0' : w.heap.size < wc.heap.size := by omega
        have k1' : w.heap.size + 1 < wc.heap.size := by omega
        have k2' : w.heap.size + 1 + 1 < wc.heap.size := by omega
        have k4' : w.heap.size + 1 + 1 + 1 + 1 < wc.heap.size := by omega
        have HB9 := Lib.hid (HBB.out.trans hO9)
        have HO9 := Lib.hid ho9
        have HL4 := Lib.hid hlt4
        clear x0 x4 y2 y3 y4 y5 z0 z1 z2 z3 z4 u0 u1 u2 u3 u4 v0 v1 v2 v3 v4 hlt0 hlt1 hlt2 hlt4 hB9 hO9 hBA9 e9 ho9
        go_wp2_with fail
        refine bodyPost_ret (v := .tuple #[RV ⟨true, s1.most, ap, ct, s1.dat ++ l⟩ (some ⟨g9, 0, none⟩) c9, .slice none 0 0, .bool false, .int .i64 0]) (by simp [results, Try.results18, go_sem, RV, *]) rfl ?_
        rw [HF2.out]
        have hg9 : w.heap.size + 1 + 1 < g9 := by have := (HO9.out.lt g9 rfl).1; have := HL4.out; omega
        refine ⟨some ⟨g9, 0, none⟩, c9, none, 0, rfl, HBA.out.fr (S := fun k => k = w.heap.size + 1 + 1) (((((Fr.refl _ _).set1 _ (by exact .inl rfl)).set1 _ (by exact .inl rfl)).set1 _ (by exact .inl rfl)).set1 _ (by exact .inl rfl) |>.set1 _ (by exact .inl rfl)) ?_, fun e => by have h5 := congrArg List.length e; rw [List.length_append, List.length_nil] at h5; omega, BAt.nil _ _, (((((HB9.out.setCell (by simp; omega) _).setCell (by simp; omega) _).setCell (by simp; omega) _).setCell (by simp; omega) _).setCell (by simp; omega) _), fun _ => .inr (fun q hq => by cases hq; simp only; omega)⟩
        rintro p hp h
        cases hp
        simp only at h
        omega
set_option maxRecDepth 20000 in
set_option maxHeartbeats 2000000 in
theorem rtake_fit2 (s : JS) (ra : Option Addr) (rc : Nat) (c sc : Bool) (ap fl ct : Int) (a : Option Addr) (l : List UInt8) (cap : Nat) (w : World) (hr : BAt w ra s.dat) (hnil : s.dat = [] → ra = none ∧ rc = 0) (hba : BAt w a l)
    (hl : l.length ≤ 1000000000) (hd : s.dat.length ≤ 1000000000) (hm0 : 0 ≤ s.most) (hm1 : s.most ≤ 9223372036854775807) (hk : okB ap ct = true) (hne : l ≠ []) (hlast : 0 ≤ s.last ∧ s.last < 16384)
    (hf : fl = 2) (hx : fl = 1 ∨ fl = 3 ∨ (fl = 0 ∨ fl = 2) ∧ s.op = true ∧ ap = s.apid ∧ ct = (s.last + 1) % 16384) :
    Calls Try.prog 18 #[RV s ra rc, Pk c sc ap fl ct a l.length cap] w (RTakeQ w ra (takeR s ap fl ct l)) := by
  obtain ⟨s1, hs1⟩ : ∃ s1, s1 = if fl = 1 ∨ fl = 3 then s.idle else s := ⟨_, rfl⟩
  have HF : Hid (takeR s ap fl ct l = if s1.most - s1.dat.length < l.length then (s1.idle, [], false, 6) else if fl = 1 ∨ fl = 0 then (⟨true, s1.most, ap, ct, s1.dat ++ l⟩, [], false, 0) else ((⟨true, s1.most, ap, ct, s1.dat ++ l⟩ : JS).idle, s1.dat ++ l, true, 0)) := by
    have h1 : ¬ (okB ap ct = false ∨ fl < 0 ∨ 3 < fl ∨ l = []) := by rintro (h | h | h | h); rw [hk] at h; cases h; omega; omega; exact hne h
    show takeR s ap fl ct l = _
    unfold takeR
    rw [if_neg h1, if_neg (by rintro ⟨h2, h3⟩; rcases hx with h4 | h4 | h4; omega; omega; exact h3 h4.2), hs1]
  have hlb : ((l.length : Int) == 0) = false := by
    rw [beq_eq_false_iff_ne]; intro h; exact hne (List.length_eq_zero_iff.1 (by omega))
  have hl0 : 0 < l.length := List.length_pos_iff.2 hne
  obtain ⟨ba, off, rfl, hba', hbc⟩ := hba.resolve_left hne
  have HB := Lib.hid hbc
  have HR := Lib.hid hr
  have HS1 := Lib.hid hs1
  obtain ⟨hl0, hl1⟩ := hlast
  have h1d : s1.dat.length ≤ 1000000000 := by rw [hs1]; split; simp [JS.idle]; exact hd
  have h1m : s1.most = s.most := by rw [hs1]; split <;> rfl
  have hm2 : 0 ≤ s1.most ∧ s1.most ≤ 9223372036854775807 := by rw [h1m]; exact ⟨hm0, hm1⟩
  obtain ⟨hm3, hm4⟩ := hm2
  obtain ⟨j0, hj, hy0, hy1, hy2⟩ := info_parts info5
  unfold Pk RV
  have HX := Lib.hid hx
  have HN := Lib.hid hnil
  have HM := Lib.hid h1m
  clear hne hs1 hx hbc hr hba hnil h1m
  subst hf
  have HS1e := Lib.hid (show s1 = s by have e := HS1.out; simpa using e)
  obtain ⟨k1, k2, k3⟩ : s.op = true ∧ ap = s.apid ∧ ct = (s.last + 1) % 16384 := by
    rcases HX.out with h | h | h
    · omega
    · omega
    · exact h.2
  have k8 : (ap != s.apid) = false := by simp [k2]
  have k9 : (ct != (s.last + 1) % 16384) = false := by rw [k3]; simp
  have K2 := Lib.hid k2
  have K3 := Lib.hid k3
  clear k2 k3
  go_enter Try.func18, Try.ntmps18
  go_upto_if 40 with (go_at_call 23; refine (header_at _ _ _ _ _ _ _ _ _).mono ?_; rintro e w2 ⟨rfl, rfl⟩)
  go_cut [] (fun wx => ∃ ra1 rc1, RMid w s1 ra1 rc1 [.bool c, .bool sc, .int .i64 ap, .int .i64 2, .int .i64 ct, .slice (some ⟨ba, off, none⟩) l.length cap] wx)
  case first =>
    go_wp2_with fail
    go_meet
    case rel =>
      have e := HS1e.out
      subst e
      exact ⟨ra, rc, .cast (.alloc (.alloc (.alloc (.alloc (Blk.newAt rfl) _) _) _) _) (by rw [k1]), .alloc (.alloc (.alloc (Blk.newAt (by simp)) _) _) _, .alloc (.alloc (Blk.newAt (by simp)) _) _, Blk.newAt (by simp), al (al (al (al (al (Below.refl _ _) _) _) _) _) _, HR.out.below (al (al (al (al (al (Below.refl _ _) _) _) _) _) _) (Nat.le_refl _), HN.out⟩
  case rest =>
    obtain ⟨wo, hwo⟩ : ∃ wo, wo = wc := ⟨wc, rfl⟩
    subst hwo
    obtain ⟨ra1, rc1, hb0, hb1, hb2, hb4, hB, hr1, hn1⟩ := hcut
    have x0 := hb0.at 0 rfl
    have x4 := hb0.at 4 rfl
    have y2 := hb1.at 2 rfl
    have y3 := hb1.at 3 rfl
    have y4 := hb1.at 4 rfl
    have y5 := hb1.at 5 rfl
    have z0 := hb2.at 0 rfl
    have z1 := hb2.at 1 rfl
    have z2 := hb2.at 2 rfl
    have z3 := hb2.at 3 rfl
    have z4 := hb2.at 4 rfl
    have u0 := hb4.at 0 rfl
    have u1 := hb4.at 1 rfl
    have u2 := hb4.at 2 rfl
    have u3 := hb4.at 3 rfl
    have u4 := hb4.at 4 rfl
    have v0 := hb2.free 0
    have v1 := hb2.free 1
    have v2 := hb2.free 2
    have v3 := hb2.free 3
    have v4 := hb2.free 4
    have hlt0 := hb0.lt
    have hlt1 := hb1.lt
    have hlt2 := hb2.lt
    have hlt4 := hb4.lt
    have HB0 := Lib.hid hb0
    have HB1 := Lib.hid hb1
    have HB2 := Lib.hid hb2
    have HB4 := Lib.hid hb4
    have hws := hB.size
    have HBB := Lib.hid hB
    have HR1 := Lib.hid hr1
    have HN1 := Lib.hid hn1
    clear hb0 hb1 hb2 hb4 hB hr1 hn1
    by_cases hlong : s1.most < s1.dat.length + l.length
    · have HF2 : Hid (takeR s ap 2 ct l = (s1.idle, [], false, 6)) := by rw [HF.out, if_pos (by omega)]; rfl
      go_wp2_with fail
      refine bodyPost_ret (v := .tuple #[RV s1.idle none 0, .slice none 0 0, .bool false, .int .i64 6]) (by simp [results, Try.results18, go_sem, RV, JS.idle, *]) rfl ?_
      rw [HF2.out]
      exact ⟨none, 0, none, 0, rfl, BAt.nil _ _, fun _ => ⟨rfl, rfl⟩, BAt.nil _ _, (((((HBB.out.setCell (by simp; omega) _).setCell (by simp; omega) _).setCell (by simp; omega) _).setCell (by simp; omega) _).setCell (by simp; omega) _), fun h => absurd rfl h⟩
    · have hlong' : ¬ (s1.most < (s1.dat.length : Int) + (l.length : Int)) := hlong
      have HF2 : Hid (takeR s ap 2 ct l = ((⟨true, s1.most, ap, ct, s1.dat ++ l⟩ : JS).idle, s1.dat ++ l, true, 0)) := by rw [HF.out, if_neg (by omega)]; rfl
      go_wp2_with fail
      go_cut [9] (fun s9 wx => ∃ g9 c9, s9 = .slice (some ⟨g9, 0, none⟩) (s1.dat.length + l.length) c9 ∧ wx.ownsRow wo.heap.size 5 1 s9 (s1.dat.length + l.length) (encB (s1.dat ++ l)) ∧ Below wo.heap.size wo wx)
      case first =>
        have hcc : ∀ i (h : i < l.length), (wo.alloc (.cells #[] 5)).drew.cell? ⟨ba, off + i, none⟩ = some (.int .u8 (l[i].toNat : Int)) := fun i hi => by
          have h1 : (wo.alloc (.cells #[] 5)).drew.cell? ⟨ba, off + i, none⟩ = wo.cell? ⟨ba, off + i, none⟩ := World.cell?_of_block (Below.heap_alloc _ _ _ (show ba < wo.heap.size by omega))
          rw [h1, HBB.out.cell (p := ⟨ba, off + i, none⟩) hba']
          exact HB.out i hi
        have HNW := Lib.hid (BAt.news hcc)
        clear hcc
        have hcr : ∀ a l, BAt w a l → BAt (wo.alloc (.cells #[] 5)).drew a l := fun a l h => (h.below HBB.out (Nat.le_refl _)).below (B := wo.heap.size) ((Below.refl _ _).alloc (Nat.le_refl _) _).drew (by omega)
        by_cases e1 : s1.dat = []
        · obtain ⟨rfl, rfl⟩ := HN1.out e1
          have e2 : s1.dat.length = 0 := by rw [e1]; rfl
          have E1 := Lib.hid e1
          clear e1
          rw [e2] at x4
          have E2 := Lib.hid e2
          clear e2
          go_wp2_with fail
          go_region_held3 (fun w' => w'.cell? ⟨w.heap.size, 4, none⟩ = some (.slice none 0 0) ∧ w'.cell? ⟨w.heap.size + 1, 5, none⟩ = some (.slice (some ⟨ba, off, none⟩) l.length cap)) (first | exact ⟨by assumption, by assumption⟩ | go_keep) ((refine step_append_lies (o := ⟨some 79, _, _, _, _, _⟩) _ (by rfl) _ _ 22 (by rfl) wo.heap.size 5 j0 (.int .u8 0) 1 1 Try.underlying22 hj hy0 hy1 hy2 rfl (by decide) _ 0 [] (by rfl) (World.ownsRow_made _ #[] 0 (by omega) (by unfold maxLen; omega) rfl).drew ⟨ba, off, none⟩ l.length cap (encB l) (by rfl) (by simp [encB]) HNW.out (encB_one _) (by omega) (by unfold maxLen; omega) (by omega) (by first | (simp; done) | (simp; omega) | omega) (wo.heap.size + 1) (by simp) ?_; intro g' cap' w5 hown' hgrow hwhere hlt5; have hBq : Below wo.heap.size wo w5 := (al (Below.refl _ _) _).drew.grown hgrow (by simp) (fun k hk => by simp [Value.ownBlock] at hk; omega); have q1 := (hBq.cell (p := ⟨w.heap.size, 4, none⟩) hlt0).trans x4; have q2 := (hBq.cell (p := ⟨w.heap.size + 1, 5, none⟩) hlt1).trans y5))
          all_goals
            have HO := Lib.hid hown'
            have HG := Lib.hid hgrow
            clear hown' hgrow hwhere
            go_wp2_with fail
            go_meet
            case rel => exact ⟨g', cap', by rw [E2.out, Nat.zero_add], by rw [E1.out]; simpa using HO.out, ((al (Below.refl _ _) _).drew.grown HG.out (by simp) (fun k hk => by simp [Value.ownBlock] at hk; omega))⟩
        · obtain ⟨b1, off1, rfl, hb1, hc1⟩ := HR1.out.resolve_left e1
          have hd0 : 0 < s1.dat.length := List.length_pos_iff.2 e1
          have HNR := Lib.hid (BAt.news (w := (wo.alloc (.cells #[] 5)).drew) (b := b1) (off := off1) (l := s1.dat) (fun i hi => (World.cell?_of_block (Below.heap_alloc _ _ _ (show b1 < wo.heap.size by omega))).trans (hc1 i hi)))
          have Y5 := Lib.hid y5
          have E1 := Lib.hid e1
          clear e1 hc1
          go_wp2_with fail
          go_region_held3 (fun w' => w'.cell? ⟨w.heap.size, 4, none⟩ = some (.slice (some ⟨b1, off1, none⟩) s1.dat.length rc1) ∧ w'.cell? ⟨w.heap.size + 1, 5, none⟩ = some (.slice (some ⟨ba, off, none⟩) l.length cap)) (first | exact ⟨by assumption, by assumption⟩ | go_keep) ((first
            | (refine step_append_lies (o := ⟨some 76, _, _, _, _, _⟩) _ (by rfl) _ _ 22 (by rfl) wo.heap.size 5 j0 (.int .u8 0) 1 1 Try.underlying22 hj hy0 hy1 hy2 rfl (by decide) _ 0 [] (by rfl) (World.ownsRow_made _ #[] 0 (by omega) (by unfold maxLen; omega) rfl).drew ⟨b1, off1, none⟩ s1.dat.length rc1 (encB s1.dat) (by rfl) (by simp [encB]) HNR.out (encB_one _) (by omega) (by unfold maxLen; omega) (by omega) (by first | (simp; done) | (simp; omega) | omega) (wo.heap.size + 1) (by simp) ?_; intro g5 c5 w5 hown5 hgrow5 hwhere5 hlt5; have hB5 : Below wo.heap.size wo w5 := (al (Below.refl _ _) _).drew.grown hgrow5 (by simp) (fun k hk => by simp [Value.ownBlock] at hk; omega); have x4' := (hB5.cell (p := ⟨w.heap.size, 4, none⟩) hlt0).trans x4; have y5' : w5.cell? ⟨w.heap.size + 1, 5, none⟩ = some (.slice (some ⟨ba, off, none⟩) l.length cap) := (hB5.cell (p := ⟨w.heap.size + 1, 5, none⟩) hlt1).trans Y5.out; have HN5 := Lib.hid (BAt.news (w := w5) (b := ba) (off := off) (l := l) (fun i hi => (hB5.cell (p := ⟨ba, off + i, none⟩) (show ba < wo.heap.size by omega)).trans ((HBB.out.cell (p := ⟨ba, off + i, none⟩) hba').trans (HB.out i hi)))); have HO5 := Lib.hid (show w5.ownsRow wo.heap.size 5 1 (.slice (some ⟨g5, 0, none⟩) (0 + s1.dat.length) c5) (0 + s1.dat.length) (encB s1.dat) from hown5); have hs5 := hB5.size; have HB5 := Lib.hid hB5; clear hown5 hgrow5 hwhere5 hB5)
            | (refine step_append_lies (o := ⟨some 79, _, _, _, _, _⟩) _ (by rfl) _ _ 22 (by rfl) wo.heap.size 5 j0 (.int .u8 0) 1 1 Try.underlying22 hj hy0 hy1 hy2 rfl (by decide) _ (0 + s1.dat.length) (encB s1.dat) (by rfl) HO5.out ⟨ba, off, none⟩ l.length cap (encB l) (by rfl) (by simp [encB]) HN5.out (encB_one _) (by omega) (by unfold maxLen; omega) (by omega) (by first | (simp; done) | (simp; omega) | omega) w5.heap.size rfl ?_; intro g' cap' w6 hown' hgrow hwhere hlt6; have hB6 := HB5.out.grown hgrow (by omega) (fun k hk => (HO5.out.lt k hk).1); have x6' := (hB6.cell (p := ⟨w.heap.size, 4, none⟩) hlt0).trans x4; have y6' := (hB6.cell (p := ⟨w.heap.size + 1, 5, none⟩) hlt1).trans y5)))
          all_goals
            have HO := Lib.hid hown'
            have HG := Lib.hid hgrow
            have HB6 := Lib.hid (HB5.out.grown HG.out (by omega) (fun k hk => (HO5.out.lt k hk).1))
            clear hown' hgrow hwhere
            go_wp2_with fail
            go_meet
            case rel => exact ⟨g', cap', rfl, by have := HO.out; simp only [Nat.zero_add] at this; rw [encB_append]; exact this, HB6.out⟩
      case rest =>
        obtain ⟨g9, c9, rfl, ho9, hB9⟩ := hcut
        have hz9 := hB9.size
        have hO9 := hB9.mono hws
        obtain ⟨-, a9, c9', e9, -, -, hBA9⟩ := BAt.of_row (show wc.ownsRow wo.heap.size 5 1 (.slice (some ⟨g9, 0, none⟩) (s1.dat.length + l.length) c9) (s1.dat.length + l.length) (encB (s1.dat ++ l)) from ho9)
        have e9a : some ⟨g9, 0, none⟩ = a9 := by simpa using (Value.slice.inj e9).1
        subst e9a
        have HBA := Lib.hid hBA9
        have x0' := (hB9.cell (p := ⟨w.heap.size, 0, none⟩) hlt0).trans x0
        have y2' := (hB9.cell (p := ⟨w.heap.size + 1, 2, none⟩) hlt1).trans y2
        have y3' := (hB9.cell (p := ⟨w.heap.size + 1, 3, none⟩) hlt1).trans y3
        have y4' := (hB9.cell (p := ⟨w.heap.size + 1, 4, none⟩) hlt1).trans y4
        have z0' := (hB9.cell (p := ⟨w.heap.size + 1 + 1, 0, none⟩) hlt2).trans z0
        have z1' := (hB9.cell (p := ⟨w.heap.size + 1 + 1, 1, none⟩) hlt2).trans z1
        have z2' := (hB9.cell (p := ⟨w.heap.size + 1 + 1, 2, none⟩) hlt2).trans z2
        have z3' := (hB9.cell (p := ⟨w.heap.size + 1 + 1, 3, none⟩) hlt2).trans z3
        have z4' := (hB9.cell (p := ⟨w.heap.size + 1 + 1, 4, none⟩) hlt2).trans z4
        have v0' := (hB9.frozen (p := ⟨w.heap.size + 1 + 1, 0, none⟩) hlt2).trans v0
        have v1' := (hB9.frozen (p := ⟨w.heap.size + 1 + 1, 1, none⟩) hlt2).trans v1
        have v2' := (hB9.frozen (p := ⟨w.heap.size + 1 + 1, 2, none⟩) hlt2).trans v2
        have v3' := (hB9.frozen (p := ⟨w.heap.size + 1 + 1, 3, none⟩) hlt2).trans v3
        have v4' := (hB9.frozen (p := ⟨w.heap.size + 1 + 1, 4, none⟩) hlt2).trans v4
        have u0' := (hB9.cell (p := ⟨w.heap.size + 1 + 1 + 1 + 1, 0, none⟩) hlt4).trans u0
        have u1' := (hB9.cell (p := ⟨w.heap.size + 1 + 1 + 1 + 1, 1, none⟩) hlt4).trans u1
        have u2' := (hB9.cell (p := ⟨w.heap.size + 1 + 1 + 1 + 1, 2, none⟩) hlt4).trans u2
        have u3' := (hB9.cell (p := ⟨w.heap.size + 1 + 1 + 1 + 1, 3, none⟩) hlt4).trans u3
        have u4' := (hB9.cell (p := ⟨w.heap.size + 1 + 1 + 1 + 1, 4, none⟩) hlt4).trans u4
        have k0' : w.heap.size < wc.heap.size := by omega
        have k1' : w.heap.size + 1 < wc.heap.size := by omega
        have k2' : w.heap.size + 1 + 1 < wc.heap.size := by omega
        have k4' : w.heap.size + 1 + 1 + 1 + 1 < wc.heap.size := by omega
        have HB9 := Lib.hid (HBB.out.trans hO9)
        have HO9 := Lib.hid ho9
        have HL4 := Lib.hid hlt4
        clear x0 x4 y2 y3 y4 y5 z0 z1 z2 z3 z4 u0 u1 u2 u3 u4 v0 v1 v2 v3 v4 hlt0 hlt1 hlt2 hlt4 hB9 hO9 hBA9 e9 ho9
        go_wp2_with fail
        refine bodyPost_ret (v := .tuple #[RV s1.idle none 0, .slice (some ⟨g9, 0, none⟩) (s1.dat ++ l).length c9, .bool true, .int .i64 0]) (by simp [results, Try.results18, go_sem, RV, JS.idle, *]) rfl ?_
        rw [HF2.out]
        have hg9 : w.heap.size + 1 + 1 < g9 := by have := (HO9.out.lt g9 rfl).1; have := HL4.out; omega
        refine ⟨none, 0, some ⟨g9, 0, none⟩, c9, rfl, BAt.nil _ _, fun _ => ⟨rfl, rfl⟩, HBA.out.fr (S := fun k => k = w.heap.size + 1 + 1) (((((Fr.refl _ _).set1 _ (by exact .inl rfl)).set1 _ (by exact .inl rfl)).set1 _ (by exact .inl rfl)).set1 _ (by exact .inl rfl) |>.set1 _ (by exact .inl rfl)) ?_, (((((HB9.out.setCell (by simp; omega) _).setCell (by simp; omega) _).setCell (by simp; omega) _).setCell (by simp; omega) _).setCell (by simp; omega) _), fun h => absurd rfl h⟩
        rintro p hp h
        cases hp
        simp only at h
        omega
end Go.Proofs.Ytdllngedmhihkaa

/- The law UnitsPlay holds: the walk, then the lift to the given statement. No condition. -/
import Derived.Test.YtgfloeclepmdlaaQ
import Derived.WalkKit
import Derived.ProofKit
import Derived.OpenShut
import Derived.Lib.Hide
import Derived.ChangeOld
import Derived.Below
import Derived.SizedLaws
namespace Go.Proofs.Ytgfloeclepmdlaa.unitsPlay
open Go.ChangeShapes Go.WideShapes Go.ChangeAt Go.RowKit
set_option linter.unusedVariables false
theorem own : ownKnob Try.prog.godebug = none := by kernel_rfl
theorem laidOut : laidOutB Try.prog = true := by kernel_rfl

theorem fresh_ok (ds : List Int) : SideOk (ds.map fresh) := by
  intro u hu
  obtain ⟨d, -, rfl⟩ := List.mem_map.1 hu
  exact .inl rfl
theorem setU_ok {us : List U} (h : SideOk us) (i : Nat) (f : U → U) (hf : ∀ u : U, (u.side = 0 ∨ u.side = 1) → ((f u).side = 0 ∨ (f u).side = 1)) : SideOk (setU us i f) := by
  unfold setU
  split
  · rename_i u hu
    intro v hv
    rcases List.mem_or_eq_of_mem_set hv with h1 | h1
    · exact h v h1
    · subst h1; exact hf u (h u (List.mem_of_getElem? hu))
  · exact h
theorem switch_keeps {us : List U} (h : SideOk us) (id n : Int) : SideOk (switchS us id n).1 ∧ (switchS us id n).1.length = us.length := by
  unfold switchS
  split
  · exact ⟨h, rfl⟩
  · split
    · exact ⟨h, rfl⟩
    · split
      · exact ⟨h, rfl⟩
      · rename_i hs _
        exact ⟨setU_ok h _ _ (fun u _ => sideB_cases (by simpa using hs)), setU_length _ _ _⟩
theorem fail_keeps {us : List U} (h : SideOk us) (id n : Int) : SideOk (failS us id n).1 ∧ (failS us id n).1.length = us.length := by
  unfold failS
  split
  · exact ⟨h, rfl⟩
  · split
    · exact ⟨h, rfl⟩
    · exact ⟨setU_ok h _ _ (fun u hu => by split <;> exact hu), setU_length _ _ _⟩
theorem restore_keeps {us : List U} (h : SideOk us) (l : List Int) : SideOk (restoreS us l).1 ∧ (restoreS us l).1.length = us.length := by
  unfold restoreS
  split
  · exact ⟨h, rfl⟩
  · rename_i hc
    refine ⟨fun u hu => ?_, resU_length _ _ _⟩
    have hl : l.length = us.length := by by_cases e : l.length = us.length; exact e; exact absurd (.inl e) hc
    have hb : badI l = none := by
      cases e : badI l with
      | none => rfl
      | some x => exact absurd (.inr (by rw [e]; rfl)) hc
    obtain ⟨i, hi, rfl⟩ := List.getElem_of_mem hu
    have hi' : i < us.length := by rw [resU_length] at hi; exact hi
    rw [resU_get us l l.length hi', if_pos (by omega)]
    unfold badI at hb
    rw [List.findIdx?_eq_none_iff] at hb
    have h1 := hb l[i] (List.getElem_mem _)
    have h2 : sideB l[i] = true := by simpa using h1
    rw [List.getElem?_eq_getElem (by omega)]
    exact sideB_cases h2
/-- what the law holds between two calls -/
structure Pl (w : World) (a2 : Option Addr) (n : Nat) (b g cap : Nat) (us : List U) (wx : World) : Prop where
  u : UAt wx b g cap us
  r : RAt wx a2 us
  ok : SideOk us
  n : us.length = n
  g : w.heap.size ≤ g
  b : Below w.heap.size w wx
theorem Pl.rAt {w wx wy : World} {a2 : Option Addr} {n b g cap : Nat} {us : List U} (h : Pl w a2 n b g cap us wx) (hF : Fr (fun k => k = g) wx wy) : RAt wy a2 us :=
  h.r.fr hF (fun k hk e => by obtain ⟨r, hr⟩ := h.u.row; exact (h.r.sep hk hr (by decide)).1 e)
theorem Pl.both {w wx wy wz : World} {a2 : Option Addr} {n b g cap : Nat} {us : List U} {r : List U × Int} (h : Pl w a2 n b g cap us wx) (hk : SideOk r.1 ∧ r.1.length = us.length) (hU : UAt wy b g cap r.1) (hF : Fr (fun k => k = g) wx wy) (hR : RAt wz a2 r.1) (hF2 : Fr (rblk a2 n) wy wz) (hrb : ∀ k, rblk a2 n k → w.heap.size ≤ k) : Pl w a2 n b g cap r.1 wz := by
  have e := h.n
  refine ⟨hU.fr hF2 (fun hk => ?_) (fun hk => ?_), hR, hk.1, hk.2.trans e, h.g, (h.b.trans (hF.toBelow h.b.size (fun k hk => by subst hk; exact h.g))).trans (hF2.toBelow (by have := h.b.size; have := hF.size; omega) hrb)⟩
  · rw [← e] at hk; exact (h.r.sep hk h.u.box (by decide)).1 rfl
  · rw [← e] at hk; obtain ⟨r, hr⟩ := h.u.row; exact (h.r.sep hk hr (by decide)).1 rfl
theorem Pl.alloc {w wx : World} {a2 : Option Addr} {n b g cap : Nat} {us : List U} (h : Pl w a2 n b g cap us wx) (o : Obj) : Pl w a2 n b g cap us (wx.alloc o) :=
  ⟨h.u.alloc o, h.r.below (al (Below.refl _ _) o) (Nat.le_refl _), h.ok, h.n, h.g, h.b.alloc h.b.size o⟩
set_option maxRecDepth 20000 in
set_option maxHeartbeats 4000000 in
theorem walk {H : Type} {enc : TypeId × Value → H} (v0 v1 : Value) (w : World) {b0 : Nat} {d0 : DataW H} {p0 : List MemPlace} (ok0 : Value.okWide Try.prog w .any b0 29 v0) (tr0 : DataW.Trod enc Try.prog w 0 (fun _ => true) true 29 v0 d0 p0)
    {b1 : Nat} {d1 : DataW H} {p1 : List MemPlace} (ok1 : Value.okWide Try.prog w .any b1 49 v1) (tr1 : DataW.Trod enc Try.prog w 0 (fun _ => true) true 49 v1 d1 p1) :
    Calls Try.prog 6 #[v0, v1] w fun e w' => e = .returned (.bool true) ∧ Below w.heap.size w w' := by
  obtain ⟨a, cap, ds, rfl, hd⟩ := arg_defs ok0 tr0
  obtain ⟨ao, capo, ops, rfl, ho⟩ := arg_ops ok1 tr1
  have HD := Lib.hid hd
  have HO := Lib.hid ho
  clear ok0 tr0 hd ok1 tr1 ho
  by_cases hn : ds.length ≤ 300
  · have hn' : ¬ (300 : Int) < ds.length := by omega
    by_cases hn2 : ops.length ≤ 100
    · have hn2' : ¬ (100 : Int) < ops.length := by omega
      go_enter Try.func6, Try.ntmps6
      go_wp2_with fail
      refine (new_any cap HD.out (by omega)).mono ?_
      rintro e w1 (⟨hok, b, g, c1, rfl, hU, hb, hg, hB⟩ | ⟨hok, rfl, hB⟩)
      · have HU := Lib.hid hU
        have HB := Lib.hid hB
        have HG := Lib.hid hg
        have OK := Lib.hid hok
        have hs1 := hB.size
        clear hU hB hg hb hok
        go_wp2_with fail
        refine (rnew_any cap (HD.out.below HB.out (Nat.le_refl _)) (by omega)).mono ?_
        rintro e w2 h
        obtain ⟨-, a2, c2, rfl, hR, hrb, hB⟩ := h.resolve_right (fun h => h.1 OK.out)
        have HR := Lib.hid hR
        have HRB : Hid (∀ k, rblk a2 ds.length k → w.heap.size ≤ k) := Lib.hid (fun k hk => by have := hrb k hk; omega)
        have HU2 := Lib.hid (HU.out.below hB (Nat.le_refl _))
        have HB2 := Lib.hid (HB.out.trans (hB.mono hs1))
        have hs2 := HB2.out.size
        have HP : Hid (Pl w a2 ds.length b g c1 (ds.map fresh) w2) := Lib.hid ⟨HU2.out, HR.out, fresh_ok ds, by simp, HG.out, HB2.out⟩
        clear hR hB h HU HB hs1 hrb HR HU2 HB2 HG
        go_wp2_with fail
        go_loopw [5, 9] (fun u i wr => ∃ (k b g cap : Nat) (us : List U), k ≤ ops.length ∧ u = .pointer (some ⟨b, 0, none⟩) ∧ i = .int .i64 k ∧ Pl w a2 ds.length b g cap us wr) (fun _ i _ => ops.length - (intOf i).toNat)
        case atStart => exact ⟨0, _, _, _, _, by omega, rfl, rfl, HP.out⟩
        case round =>
          obtain ⟨k, b', g', cap', us, hk, rfl, rfl, hP⟩ := hrel
          have HP := Lib.hid hP
          have hsr := hP.b.size
          have hlen := hP.n
          clear hP
          by_cases hlt : k < ops.length
          · obtain ⟨bo, oo, rfl, hbo, hcs⟩ := HO.out.resolve_left (fun e => by rw [e] at hlt; simp at hlt)
            obtain ⟨al', cl, o0, o1, o2, o3, hv, hq⟩ := hcs k hlt
            have hBr := HP.out.b
            replace o0 := (hBr.cell (p := ⟨bo, oo + k * 4, none⟩) hbo).trans o0
            replace o1 := (hBr.cell (p := ⟨bo, oo + k * 4 + 1, none⟩) hbo).trans o1
            replace o2 := (hBr.cell (p := ⟨bo, oo + k * 4 + 2, none⟩) hbo).trans o2
            replace o3 := (hBr.cell (p := ⟨bo, oo + k * 4 + 3, none⟩) hbo).trans o3
            have hbo' : bo < wr.heap.size := by omega
            have HV := Lib.hid (hv.below hBr (Nat.le_refl _))
            have HQ := Lib.hid hq
            have hk0 : (0 : Int) ≤ (k : Int) := by omega
            have hk1 : (k : Int) < (ops.length : Int) := by omega
            have HLT : Hid (k < ops.length) := Lib.hid hlt
            clear hcs hv hq hBr
            generalize ops[k] = o at o0 o1 o2 o3 HV HQ
            clear hlt
            go_upto_block 2 with (fail)
            go_cut [5, 11, 12] (fun s5 s11 s12 wx => ∃ (b g cap : Nat) (us : List U) (e : Int), s5 = .pointer (some ⟨b, 0, none⟩) ∧ s11 = .int .i64 e ∧ s12 = .int .i64 e ∧ Pl w a2 ds.length b g cap us wx ∧ Blk wx wr.heap.size 51 [.int .i64 o.call, .int .i64 o.id, .int .i64 o.side, .slice al' o.l.length cl])
            case first =>
              have hgx : g' ≠ wr.heap.size := Nat.ne_of_lt HP.out.u.row.lt
              have hbx : b' < wr.heap.size := HP.out.u.box.lt
              have HP1 := Lib.hid (HP.out.alloc (.cells #[.int .i64 o.call, .int .i64 o.id, .int .i64 o.side, .slice al' o.l.length cl] 51))
              have HX1 := Lib.hid (Blk.new wr 51 [.int .i64 o.call, .int .i64 o.id, .int .i64 o.side, .slice al' o.l.length cl])
              have HV1 := Lib.hid (HV.out.below (al (Below.refl _ wr) (.cells #[.int .i64 o.call, .int .i64 o.id, .int .i64 o.side, .slice al' o.l.length cl] 51)) (Nat.le_refl _))
              have hlg : w.heap.size ≤ g' := HP.out.g
              have hlr : wr.heap.size < (wr.alloc (.cells #[.int .i64 o.call, .int .i64 o.id, .int .i64 o.side, .slice al' o.l.length cl] 51)).heap.size := by simp
              generalize (wr.alloc (.cells #[.int .i64 o.call, .int .i64 o.id, .int .i64 o.side, .slice al' o.l.length cl] 51)) = wa at *
              have x0 := HX1.out.at 0 rfl
              have x1 := HX1.out.at 1 rfl
              have x2 := HX1.out.at 2 rfl
              have x3 := HX1.out.at 3 rfl
              clear o0 o1 o2 o3
              by_cases h1 : o.call = 1
              · have e1 : (o.call == 1) = true := by rw [h1]; rfl
                have H1 := Lib.hid h1
                clear h1
                go_wp2_with fail
                refine (switch_any o.id o.side HP1.out.u).mono ?_
                rintro e wb ⟨rfl, hU, hF⟩
                have HU := Lib.hid hU
                have HF := Lib.hid hF
                have HXb := Lib.hid (HX1.out.fr hF hgx.symm)
                clear x0 x1 x2 x3 hU hF
                have x1 := HXb.out.at 1 rfl
                have x2 := HXb.out.at 2 rfl
                have x3 := HXb.out.at 3 rfl
                have hxb := HXb.out.lt
                go_wp2_with fail
                have hr := rswitch_any c2 o.id o.side (HP1.out.rAt HF.out)
                rw [hlen] at hr
                refine hr.mono ?_
                rintro e wd ⟨rfl, hR, hF2⟩
                have HR := Lib.hid hR
                have HF2 := Lib.hid hF2
                clear hR hF2 hr
                go_wp2_with fail
                go_meet
                case rel => exact ⟨b', g', cap', (switchS us o.id o.side).1, (switchS us o.id o.side).2, rfl, rfl, rfl, HP1.out.both (switch_keeps HP1.out.ok o.id o.side) HU.out HF.out HR.out HF2.out HRB.out, HXb.out.fr HF2.out (fun hk => by rw [← hlen] at hk; exact (HP1.out.r.sep hk HX1.out (by decide)).1 rfl)⟩
              · have e1 : (o.call == 1) = false := by rw [beq_eq_false_iff_ne]; exact h1
                have H1 := Lib.hid h1
                clear h1
                by_cases h2 : o.call = 2
                · have e2 : (o.call == 2) = true := by rw [h2]; rfl
                  have H2 := Lib.hid h2
                  clear h2
                  go_wp2_with fail
                  refine (fail_any o.id o.side HP1.out.u).mono ?_
                  rintro e wb ⟨rfl, hU, hF⟩
                  have HU := Lib.hid hU
                  have HF := Lib.hid hF
                  have HXb := Lib.hid (HX1.out.fr hF hgx.symm)
                  clear x0 x1 x2 x3 hU hF
                  have x1 := HXb.out.at 1 rfl
                  have x2 := HXb.out.at 2 rfl
                  have x3 := HXb.out.at 3 rfl
                  have hxb := HXb.out.lt
                  go_wp2_with fail
                  have hr := rfail_any c2 o.id o.side (HP1.out.rAt HF.out)
                  rw [hlen] at hr
                  refine hr.mono ?_
                  rintro e wd ⟨rfl, hR, hF2⟩
                  have HR := Lib.hid hR
                  have HF2 := Lib.hid hF2
                  clear hR hF2 hr
                  go_wp2_with fail
                  go_meet
                  case rel => exact ⟨b', g', cap', (failS us o.id o.side).1, (failS us o.id o.side).2, rfl, rfl, rfl, HP1.out.both (fail_keeps HP1.out.ok o.id o.side) HU.out HF.out HR.out HF2.out HRB.out, HXb.out.fr HF2.out (fun hk => by rw [← hlen] at hk; exact (HP1.out.r.sep hk HX1.out (by decide)).1 rfl)⟩
                · have e2 : (o.call == 2) = false := by rw [beq_eq_false_iff_ne]; exact h2
                  have H2 := Lib.hid h2
                  clear h2
                  by_cases h3 : o.call = 3
                  · have e3 : (o.call == 3) = true := by rw [h3]; rfl
                    have H3 := Lib.hid h3
                    clear h3
                    go_wp2_with fail
                    refine (restore_any o.l al' cl HP1.out.u HV1.out (fun hne p hp e => by have := HQ.out p hp hne; omega)).mono ?_
                    rintro e wb ⟨rfl, hU, hF⟩
                    have HU := Lib.hid hU
                    have HF := Lib.hid hF
                    have HXb := Lib.hid (HX1.out.fr hF hgx.symm)
                    clear x0 x1 x2 x3 hU hF
                    have x1 := HXb.out.at 1 rfl
                    have x2 := HXb.out.at 2 rfl
                    have x3 := HXb.out.at 3 rfl
                    have hxb := HXb.out.lt
                    go_wp2_with fail
                    have hr := rrestore_any c2 cl o.l (HP1.out.rAt HF.out) (by by_cases hne : o.l = []; exact .inl (by rw [hne]; rfl); exact HV1.out.fr HF.out (fun p hp e => by have := HQ.out p hp hne; omega)) (fun hne p hp hk => by rw [hlen] at hk; have := HQ.out p hp hne; have := HRB.out _ hk; omega)
                    rw [hlen] at hr
                    refine hr.mono ?_
                    rintro e wd ⟨rfl, hR, hF2⟩
                    have HR := Lib.hid hR
                    have HF2 := Lib.hid hF2
                    clear hR hF2 hr
                    go_wp2_with fail
                    go_meet
                    case rel => exact ⟨b', g', cap', (restoreS us o.l).1, (restoreS us o.l).2, rfl, rfl, rfl, HP1.out.both (restore_keeps HP1.out.ok o.l) HU.out HF.out HR.out HF2.out HRB.out, HXb.out.fr HF2.out (fun hk => by rw [← hlen] at hk; exact (HP1.out.r.sep hk HX1.out (by decide)).1 rfl)⟩
                  · have e3 : (o.call == 3) = false := by rw [beq_eq_false_iff_ne]; exact h3
                    have H3 := Lib.hid h3
                    clear h3
                    by_cases h4 : o.call = 4
                    · have e4 : (o.call == 4) = true := by rw [h4]; rfl
                      have H4 := Lib.hid h4
                      clear h4
                      go_wp2_with fail
                      refine (clone_any HP1.out.u).mono ?_
                      rintro e wb ⟨b2, g2, cap2, rfl, hU2, hB2, hb2, hg2⟩
                      have HU2 := Lib.hid hU2
                      have HB2 := Lib.hid hB2
                      have HUo := Lib.hid (HP1.out.u.below hB2 (Nat.le_refl _))
                      have HXb := Lib.hid (HX1.out.below hB2 (Nat.le_refl _))
                      have hgl : g' < wa.heap.size := HP1.out.u.row.lt
                      clear x0 x1 x2 x3 hU2 hB2
                      have x1 := HXb.out.at 1 rfl
                      go_wp2_with fail
                      refine (fail_any o.id 0 HUo.out).mono ?_
                      rintro e wd ⟨rfl, hU3, hF3⟩
                      have HU3 := Lib.hid hU3
                      have HF3 := Lib.hid hF3
                      have HXd := Lib.hid (HXb.out.fr hF3 hgx.symm)
                      clear x1 hU3 hF3
                      have x1 := HXd.out.at 1 rfl
                      go_wp2_with fail
                      refine (switch_any o.id 1 HU3.out).mono ?_
                      rintro e we ⟨rfl, hU4, hF4⟩
                      have HF4 := Lib.hid (HF3.out.trans hF4)
                      clear x1 hU4 hF4
                      go_wp2_with fail
                      go_meet
                      case rel =>
                        have hne1 : b2 ≠ g' := by omega
                        have hne2 : g2 ≠ g' := by omega
                        have hwl := HP1.out.b.size
                        refine ⟨b2, g2, cap2, us, 0, rfl, rfl, rfl, ⟨HU2.out.fr HF4.out hne1 hne2, ?_, HP1.out.ok, HP1.out.n, by omega, (HP1.out.b.trans (HB2.out.mono hwl)).trans (HF4.out.toBelow (by have := HB2.out.size; omega) (fun k hk => by subst hk; exact hlg))⟩, HXb.out.fr HF4.out hgx.symm⟩
                        refine (HP1.out.r.below HB2.out (Nat.le_refl _)).fr HF4.out (fun k hk e => ?_)
                        obtain ⟨r, hr⟩ := HP1.out.u.row
                        exact (HP1.out.r.sep hk hr (by decide)).1 e
                    · have e4 : (o.call == 4) = false := by rw [beq_eq_false_iff_ne]; exact h4
                      have H4 := Lib.hid h4
                      clear h4
                      go_wp2_with fail
                      go_meet
                      case rel => exact ⟨b', g', cap', us, 0, rfl, rfl, rfl, HP1.out, HX1.out⟩
            case rest =>
              obtain ⟨b3, g3, cap3, us3, e3, rfl, rfl, rfl, hP3, hX3⟩ := hcut
              have HP3 := Lib.hid hP3
              have x1 := hX3.at 1 rfl
              have hlen3 := hP3.n
              have hs3 := hP3.b.size
              clear hP3 hX3 o0 o1 o2 o3
              go_wp2_with fail
              have ha := agree_any c2 o.id HP3.out.u HP3.out.r HP3.out.ok
              rw [hlen3] at ha
              refine ha.mono ?_
              rintro e wd ⟨rfl, hB⟩
              have HB := Lib.hid hB
              clear hB ha
              go_wp2_with fail
              go_roundw
              case rel => exact ⟨k + 1, b3, g3, cap3, us3, HLT.out, rfl, by go_num, ⟨HP3.out.u.below HB.out (Nat.le_refl _), HP3.out.r.below HB.out (Nat.le_refl _), HP3.out.ok, HP3.out.n, HP3.out.g, HP3.out.b.trans (HB.out.mono hs3)⟩⟩
              case measure => simp [intOf]; have := HLT.out; omega
          · have hlt' : ¬ (k : Int) < (ops.length : Int) := by omega
            go_wp2_with fail
            refine (alive_any _).mono ?_
            rintro e w4 ⟨rfl, hB⟩
            have HB4 := Lib.hid (HP.out.b.trans (hB.mono hsr))
            clear hB
            go_wp2_with fail
            go_ret
            exact ⟨rfl, HB4.out⟩
      · have HB := Lib.hid hB
        have OK := Lib.hid hok
        have hs1 := hB.size
        clear hB hok
        go_wp2_with fail
        refine (rnew_any cap (HD.out.below HB.out (Nat.le_refl _)) (by omega)).mono ?_
        rintro e w2 h
        obtain ⟨-, rfl, hB⟩ := h.resolve_left (fun h => OK.out h.1)
        have HB2 := Lib.hid (HB.out.trans (hB.mono hs1))
        have hs2 := HB2.out.size
        clear hB h HB hs1
        go_wp2_with fail
        refine (alive_any _).mono ?_
        rintro e w4 ⟨rfl, hB⟩
        have HB4 := Lib.hid (HB2.out.trans (hB.mono hs2))
        clear hB
        go_wp2_with fail
        go_ret
        exact ⟨rfl, HB4.out⟩
    · have hn2' : (100 : Int) < ops.length := by omega
      go_enter Try.func6, Try.ntmps6
      go_wp2_with fail
      refine (alive_any _).mono ?_
      rintro e w2 ⟨rfl, hB2⟩
      go_wp2_with fail
      go_ret
      exact ⟨rfl, hB2⟩
  · have hn' : (300 : Int) < ds.length := by omega
    go_enter Try.func6, Try.ntmps6
    go_wp2_with fail
    refine (alive_any _).mono ?_
    rintro e w2 ⟨rfl, hB2⟩
    go_wp2_with fail
    go_ret
    exact ⟨rfl, hB2⟩


set_option maxRecDepth 100000 in
theorem lifted (os : Os) (started : os.Started) (H : Type) (enc : TypeId × Value → H) :
    ReturnsInHanded {} Try.checked os 6 .any (Rows.unitsPlaySpec.pre6 enc Try.prog Try.f6 Rows.unitsPlayRow.domain false) (Rows.unitsPlaySpec.post enc Try.prog Try.f6 false true false false) := by
  refine returnsInHanded_of_change (C := Try.checked) own started (by kernel_rfl) Try.func6
    (ChangeSpec.witness6 (enc := enc) (C := Try.checked) false ⟨#[], #[.slice none 0 0, .slice none 0 0], []⟩ 8 (by kernel_rfl) (by kernel_rfl) (by kernel_rfl) (by kernel_rfl)) ?_
  intro W base args ds gs before hval0 hW hcnd _
  have hval : ∀ (j : Nat) t v, Try.f6.params[j]? = some t → args[j]? = some v → Value.okWide Try.prog W .any base t v := hval0
  have hW' := hW
  obtain ⟨p, q, hA0, hV, rfl, hfz, hnd⟩ := hW
  have hA : DataW.TrodAll enc Try.prog W 0 (fun _ => true) true Try.f6.params.toList args.toList ds p := hA0
  rw [Try.params6] at hA hval
  obtain ⟨v0, vs0, d0, ds0, p0, q0, hargs, rfl, rfl, h0, r0⟩ := trodAll_cons hA
  obtain ⟨v1, vs1, d1, ds1, p1, q1, rfl, rfl, rfl, h1, r1⟩ := trodAll_cons r0
  obtain ⟨rfl, rfl, rfl⟩ := trodAll_nil r1
  obtain rfl : args = #[v0, v1] := by cases args; simp_all
  obtain ⟨rfl, rfl⟩ := trodVars_none hV
  have k0 := h0
  have lt0 : ∀ x ∈ p0, x.block < W.heap.size := by obtain ⟨m, hm⟩ := k0; exact DataW.trod_lt m _ _ _ hm
  have k1 := h1
  have lt1 : ∀ x ∈ p1, x.block < W.heap.size := by obtain ⟨m, hm⟩ := k1; exact DataW.trod_lt m _ _ _ hm
  clear hA0 hval0
  refine (walk v0 v1 W (hval 0 29 v0 rfl rfl) k0 (hval 1 49 v1 rfl rfl) k1).mono fun e W' ⟨he, bel⟩ => ?_
  subst he
  exact ⟨_, rfl, _, _, _, [], _, [], hW', trodAll_mk1 (shut_bool Try.underlying4 _), (trodAll_cons_mk (Below.trod laidOut (by kernel_rfl) (of_decide_eq_true (by kernel_rfl)) k0 bel lt0) (trodAll_cons_mk (Below.trod laidOut (by kernel_rfl) (of_decide_eq_true (by kernel_rfl)) k1 bel lt1) trodAll_mk0)), rfl, bel.frame _, fun h => by cases h⟩

theorem over : Rows.unitsPlayRow.holds Try.pinned (OpenSpec.ofChange Rows.unitsPlaySpec) :=
  OpenClaim.holds_of_wide 6 Try.f6 rfl rfl rfl rfl rfl rfl rfl ⟨rfl, rfl, rfl, rfl, rfl⟩ rfl rfl rfl rfl rfl (by kernel_rfl) Try.func6 (by kernel_rfl)
    (of_decide_eq_true (by kernel_rfl)) (by unfold Func.isWrapper; first | (rw [if_pos (by decide +kernel)]; kernel_rfl) | (rw [if_neg (by decide +kernel)]; exact ⟨rfl, rfl⟩))
    (fun os started H enc _ => lifted os started H enc)

theorem proved : Rows.UnitsPlaySaid := over
#print axioms proved
end Go.Proofs.Ytgfloeclepmdlaa.unitsPlay

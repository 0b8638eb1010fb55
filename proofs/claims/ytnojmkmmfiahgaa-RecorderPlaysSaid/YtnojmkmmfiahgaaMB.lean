/- Replay under the mirror frame. No condition. -/
import Derived.Test.YtnojmkmmfiahgaaMA
namespace Go.Proofs.Ytnojmkmmfiahgaa
open Go.RowKit Go.Shelf Go.Deep Go.ChangeShapes Go.WideShapes Go.ChangeAt
set_option linter.unusedVariables false
attribute [local go_sem] Oper.semAt_some
set_option maxRecDepth 100000 in
set_option maxHeartbeats 2000000 in
theorem replay_inz {w : World} {Z B b : Nat} {r : RS} {vS : Value} {Y : List SM} (id t u : Int) (h : RAt w B b r vS Y) (ok : r.Ok) (hz : LoZ Z Y) (F : Fence) (n : Nat) (h12 : F.fn 12) (h24 : F.fn 24) (h27 : F.fn 27) (h35 : F.fn 35) (hro : F.round = none) (hn : 3 ≤ n) (hfind : ∀ w1, RAt w1 B b r vS Y → CallsIn F (n - 1) Try.prog 24 #[.pointer (some ⟨b, 0, none⟩), .int .i64 id] w1 (FQ w1 r id Y)) : CallsIn F n Try.prog 12 #[.pointer (some ⟨b, 0, none⟩), .int .i64 id, .int .i64 t, .int .i64 u] w (DZ Z B b vS w (r.replay id t u)) := by
  have h1 : 1 ≤ n := by omega
  have H := Lib.hid h
  have HFD := Lib.hid hfind
  have HZ := Lib.hid hz
  clear h hfind hz
  refine callsIn_of_wp_marks Try.func12 rfl h12 ?_ hro
  simp only [Try.ntmps12, List.size_toArray, List.length_cons, List.length_nil, Nat.reduceAdd, Nat.reduceSub, Array.replicate_succ, Array.replicate_zero, List.push_toArray, List.append_toArray, List.nil_append, List.cons_append]
  gi_upto_region 1 with fail
  obtain ⟨ws, hws⟩ : ∃ ws, ws = w.heap.size := ⟨_, rfl⟩
  obtain ⟨w1, hw1⟩ : ∃ w1, w1 = ((w.alloc (.cells #[.int .i64 t] 3)).alloc (.cells #[.int .i64 u] 3)) := ⟨_, rfl⟩
  have hB1 : Below w.heap.size w w1 := by rw [hw1]; exact al (al (Below.refl _ _) _) _
  have k1 : Blk w1 ws 3 [.int .i64 t] := by rw [hw1, hws]; exact (Blk.new w 3 [.int .i64 t]).alloc _
  have k2 : Blk w1 (ws + 1) 3 [.int .i64 u] := by rw [hw1, hws]; exact Blk.newAt (xs := [.int .i64 u]) (T := 3) (w := w.alloc (.cells #[.int .i64 t] 3)) (n := w.heap.size + 1) (by simp)
  have H1 := Lib.hid (H.out.below hB1 (Nat.le_refl _))
  have HF1 : Hid (RZ Z B w w1) := Lib.hid (RZ.of_below hB1)
  have K1 := Lib.hid k1
  have K2 := Lib.hid k2
  rw [← hw1, ← hws]
  have HWS := Lib.hid hws
  have HS1 : Hid (w.heap.size ≤ w1.heap.size) := Lib.hid hB1.size
  clear hw1 hws hB1 k1 k2
  cases hf : r.find id with
  | none =>
    have HP : Hid (r.replay id t u = (r, 8)) := Lib.hid (by unfold RS.replay; rw [hf])
    gi_wp2_with (gi_at_call 24; refine (HFD.out w1 H1.out).mono ?_; intro e w2 hq; obtain ⟨rfl, hB⟩ := FQ.no hq hf; have HB := Lib.hid hB; clear hq hB)
    exact ⟨.int .i64 8, by simp [results, Try.f12, go_sem], ret_int (by rw [HP.out]), HF1.out.trans (RZ.of_below HB.out), Y, by rw [HP.out]; exact ⟨H1.out.below HB.out (Nat.le_refl _), HZ.out⟩⟩
  | some i =>
    obtain ⟨y, hy⟩ : ∃ y, Y[i]? = some y := ⟨_, List.getElem?_eq_getElem (by rw [H.out.yl]; exact RS.find_lt hf)⟩
    have HY := Lib.hid hy
    obtain ⟨s, hs, -⟩ := H.out.at hy
    have HS := Lib.hid hs
    have HPP : Hid (r.put i s = r) := Lib.hid (by
      unfold RS.put
      obtain ⟨hlt, rfl⟩ := List.getElem?_eq_some_iff.1 hs
      rw [List.set_getElem_self])
    obtain ⟨ys, hys⟩ : ∃ ys, ys = y.s := ⟨_, rfl⟩
    have HYS := Lib.hid hys
    have HFI := Lib.hid hf
    by_cases ht : t < 0 ∨ u < t ∨ 1099511627776 < u
    · have HP : Hid (r.replay id t u = (r, 10)) := Lib.hid (by unfold RS.replay; rw [hf]; dsimp only; rw [if_pos ht])
      have HT := Lib.hid ht
      clear hy hs hys hf ht
      by_cases e1 : t < 0
      · have d1 : decide (t < 0) = true := decide_eq_true e1
        gi_wp2_with (gi_at_call 24; refine (HFD.out w1 H1.out).mono ?_; intro e w2 hq; obtain ⟨rfl, hB⟩ := FQ.yes hq HFI.out HY.out; have HB := Lib.hid hB; have L1 := Lib.hid (K1.out.below hB (Nat.le_refl _)); have L2 := Lib.hid (K2.out.below hB (Nat.le_refl _)); have d1 := L1.out.at 0 rfl; have d2 := L2.out.at 0 rfl; clear hq hB)
        exact ⟨.int .i64 10, by simp [results, Try.f12, go_sem], ret_int (by rw [HP.out]), HF1.out.trans (RZ.of_below HB.out), Y, by rw [HP.out]; exact ⟨H1.out.below HB.out (Nat.le_refl _), HZ.out⟩⟩
      · have e2 : decide (t < 0) = false := decide_eq_false e1
        by_cases e3 : u < t
        · have d3 : decide (u < t) = true := decide_eq_true e3
          gi_wp2_with (gi_at_call 24; refine (HFD.out w1 H1.out).mono ?_; intro e w2 hq; obtain ⟨rfl, hB⟩ := FQ.yes hq HFI.out HY.out; have HB := Lib.hid hB; have L1 := Lib.hid (K1.out.below hB (Nat.le_refl _)); have L2 := Lib.hid (K2.out.below hB (Nat.le_refl _)); have d1 := L1.out.at 0 rfl; have d2 := L2.out.at 0 rfl; clear hq hB)
          exact ⟨.int .i64 10, by simp [results, Try.f12, go_sem], ret_int (by rw [HP.out]), HF1.out.trans (RZ.of_below HB.out), Y, by rw [HP.out]; exact ⟨H1.out.below HB.out (Nat.le_refl _), HZ.out⟩⟩
        · have e4 : decide (u < t) = false := decide_eq_false e3
          have e5 : decide (1099511627776 < u) = true := decide_eq_true (by have := HT.out; omega)
          gi_wp2_with (gi_at_call 24; refine (HFD.out w1 H1.out).mono ?_; intro e w2 hq; obtain ⟨rfl, hB⟩ := FQ.yes hq HFI.out HY.out; have HB := Lib.hid hB; have L1 := Lib.hid (K1.out.below hB (Nat.le_refl _)); have L2 := Lib.hid (K2.out.below hB (Nat.le_refl _)); have d1 := L1.out.at 0 rfl; have d2 := L2.out.at 0 rfl; clear hq hB)
          exact ⟨.int .i64 10, by simp [results, Try.f12, go_sem], ret_int (by rw [HP.out]), HF1.out.trans (RZ.of_below HB.out), Y, by rw [HP.out]; exact ⟨H1.out.below HB.out (Nat.le_refl _), HZ.out⟩⟩
    · have HP : Hid (r.replay id t u = (r.put i (s.mark t u), 0)) := Lib.hid (by unfold RS.replay; rw [hf]; dsimp only; rw [if_neg ht, get_of hs])
      have e1 : decide (t < 0) = false := decide_eq_false (by omega)
      have e2 : decide (u < t) = false := decide_eq_false (by omega)
      have e3 : decide (1099511627776 < u) = false := decide_eq_false (by omega)
      clear hy hs hys hf ht
      gi_wp2_with (first | (gi_at_call 24; refine (HFD.out w1 H1.out).mono ?_; intro e w2 hq; obtain ⟨rfl, hB⟩ := FQ.yes hq HFI.out HY.out; have HB := Lib.hid hB; have L1 := Lib.hid (K1.out.below hB (Nat.le_refl _)); have L2 := Lib.hid (K2.out.below hB (Nat.le_refl _)); have d1 := L1.out.at 0 rfl; have d2 := L2.out.at 0 rfl; clear hq hB) | (gi_at_call 27; refine (all_in F (n - 1) h27 hro _ _).mono ?_; rintro e w' ⟨rfl, rfl⟩))
      obtain ⟨bs, hbs⟩ : ∃ bs, bs = w2.heap.size := ⟨_, rfl⟩
      obtain ⟨w3, hw3⟩ : ∃ w3, w3 = w2.alloc (.cells #[.pointer (some ⟨y.s, 0, none⟩)] 62) := ⟨_, rfl⟩
      have hB3 : Below w2.heap.size w2 w3 := by rw [hw3]; exact al (Below.refl _ _) _
      have HB13 : Hid (Below w1.heap.size w1 w3) := Lib.hid (HB.out.trans (hB3.mono HB.out.size))
      have k3 : w3.cell? ⟨bs, 0, none⟩ = some (ptr y.s) := by rw [hw3, hbs]; exact (Blk.new w2 62 [ptr y.s]).at 0 rfl
      have H3 := Lib.hid (H1.out.below HB13.out (Nat.le_refl _))
      have M1 := Lib.hid (L1.out.below hB3 (Nat.le_refl _))
      have M2 := Lib.hid (L2.out.below hB3 (Nat.le_refl _))
      have HF3 : Hid (RZ Z B w w3) := Lib.hid (HF1.out.trans (RZ.of_below HB13.out))
      have HZ3 : Hid (w.heap.size ≤ w3.heap.size) := Lib.hid (Nat.le_trans HS1.out HB13.out.size)
      have HST : Hid (StAt w3 B s y) := Lib.hid (by
        obtain ⟨sx, hsx, hst⟩ := H3.out.at HY.out
        rw [HS.out] at hsx
        cases hsx
        exact hst)
      rw [← hw3, ← hbs]
      have K3 := Lib.hid k3
      clear hbs hw3 hB3 k3 d1 d2
      refine wpIn_rangeFunc_ownF hro h1 (gf := 35) (lb := #[.pointer (some ⟨bs, 0, none⟩)]) rfl h35 (enters_of Try.func35 (by kernel_rfl) rfl)
        (all_stops F (n - 1) h35 hro (by omega) bs (fun k => k ∈ y.gs ∨ w3.heap.size ≤ k) w3 HST.out K3.out ?hrow) (fun h k => h.trans k) (frK_b (fun k hk => .inr hk)) (Below.refl _ _) (fun _ => rfl)
        (fun pre W => RAt W B b (r.put i (s.marks t u (pre.map Fin.val))) vS Y ∧ Blk W ws 3 [.int .i64 t] ∧ Blk W (ws + 1) 3 [.int .i64 u] ∧ RZ Z B w W)
        (fun _ _ _ => False)
        ?hI ?hIx ?h0
        (fun x => { tmps := #[.pointer (some ⟨b, 0, none⟩), .int .i64 id, .int .i64 t, .int .i64 u, undef, undef, .pointer (some ⟨ws, 0, none⟩), .pointer (some ⟨ws + 1, 0, none⟩), .int .i64 0, .pointer (some ⟨y.s, 0, none⟩), .int .i64 0, ptr y.gs[x], .tuple #[.pointer (some ⟨y.s, 0, none⟩), .int .i64 0], .pointer (some ⟨b, 0, none⟩), .int .i64 id, .tuple #[.pointer (some ⟨y.s, 0, none⟩), .int .i64 0], .pointer (some ⟨y.s, 0, none⟩), .int .i64 0, .bool false, .int .i64 0, .bool false, undef, .bool false, .int .i64 t, .bool false, .bool false, .int .i64 t, .int .i64 u, .bool false, .bool false, .bool false, .int .i64 u, .bool false, .bool false, .pointer (some ⟨y.s, 0, none⟩), .func (.func 35) #[] #[.pointer (some ⟨bs, 0, none⟩)], ptr y.gs[x], undef, undef, undef, undef, undef, undef, undef, undef, undef, undef, undef, undef, undef, undef, undef, undef, undef], defers := [] }) ?assign ?body ?done ?stop
      case hrow =>
        intro k hk e
        rcases e with e | e
        · obtain ⟨p, hp⟩ := List.mem_iff_getElem?.1 e
          obtain ⟨e2, vd, -, -, h3⟩ := RAt.en_at HST.out hp
          obtain ⟨cs, hc⟩ := off_ty HST.out.row hk
          exact absurd (h3.blk.kind hc) (by decide)
        · have := (HST.out.row.lt k hk).2; omega
      case hI =>
        intro s' A A' row hs hg hr
        have hr2 : ∀ k, row = some k → ∃ o : Obj, A.heap[k]? = some o ∧ o.isCells = false := fun k e => (hr k e).2
        exact ⟨hs.1.turn hg hr2, Blk.own hs.2.1 hg hr2, Blk.own hs.2.2.1 hg hr2, hs.2.2.2.turn hg (fun k e => (hr k e).1) HZ3.out⟩
      case hIx => exact fun c s' A A' row hs _ _ => hs
      case h0 => exact ⟨by rw [show s.marks t u (([] : List (Fin y.gs.length)).map Fin.val) = s from rfl, HPP.out]; exact H3.out, M1.out, M2.out, HF3.out⟩
      case assign =>
        intro l x W K hK
        gi_wp2
        exact hK
      case body =>
        rintro l pre x W ⟨hR, hk1, hk2, hF⟩ _
        obtain ⟨s', hs'⟩ : ∃ s', s' = s.marks t u (pre.map Fin.val) := ⟨_, rfl⟩
        rw [← hs'] at hR
        have HST2 : Hid (StAt W B s' y) := Lib.hid (by
          obtain ⟨sx, hsx, hst⟩ := hR.at HY.out
          rw [put_at HS.out] at hsx
          cases hsx
          exact hst)
        obtain ⟨e, vd, he, hv, hen⟩ := RAt.en_at HST2.out (p := x.val) (g := y.gs[x]) (by simp)
        have ce := hen.blk.at 0 rfl
        have cw := hen.blk.at 2 rfl
        have cl := hen.blk.lt
        have fr := hen.blk.free 2
        have d1 := hk1.at 0 rfl
        have d2 := hk2.at 0 rfl
        have HR := Lib.hid hR
        have HK1 := Lib.hid hk1
        have HK2 := Lib.hid hk2
        have HF := Lib.hid hF
        have HE := Lib.hid he
        have HV := Lib.hid hv
        have HEN := Lib.hid hen
        have HSS : Hid (s.marks t u ((pre ++ [x]).map Fin.val) = s'.mark1 t u x.val) := Lib.hid (by rw [hs', List.map_append]; exact St.marks_snoc t u s _ _)
        obtain ⟨g, hg⟩ : ∃ g, g = y.gs[x] := ⟨_, rfl⟩
        have HG := Lib.hid hg
        have HGS : Hid (y.gs[x.val]? = some g) := Lib.hid (by rw [hg]; simp)
        have hpx : ptr y.gs[x] = .pointer (some ⟨g, 0, none⟩) := by rw [hg]; rfl
        rw [← hg] at ce cl fr cw
        obtain ⟨wn, hwn⟩ : ∃ wn, wn = e.want := ⟨_, rfl⟩
        rw [← hwn] at cw
        clear hwn
        rw [hpx]
        obtain ⟨tm, htm⟩ : ∃ tm, tm = e.time := ⟨_, rfl⟩
        have HTM := Lib.hid htm
        rw [← htm] at ce
        clear hR hk1 hk2 hF he hv hen hs' hg hpx htm
        by_cases q1 : t ≤ tm
        · have p1 : decide (t ≤ tm) = true := decide_eq_true q1
          by_cases q2 : tm ≤ u
          · have p2 : decide (tm ≤ u) = true := decide_eq_true q2
            gi_wp2_with fail
            refine wpIn_region_quiet_litR (by rfl) (by kernel_rfl) (by kernel_rfl) ?_
            repeat (gi_big_quiet_step (fail))
            refine wpQuietIn_nil ?_
            intro _ hw9
            obtain ⟨nq, hw8⟩ := hw9
            subst hw8
            gi_wp2
            have hFg : Fr (fun k => k = g) W ((W.drewN nq).setCell ⟨g, 2, none⟩ (.bool true)) := ((Fr.refl _ _).drewN nq).set1 _ (by exact .inl rfl)
            have hset := HR.out.setE (c := true) HY.out HST2.out HGS.out HE.out HV.out hFg (by
              have h9 := (HEN.out.blk.drewN nq).setCell 2 (.bool true)
              rw [← HG.out] at h9
              exact Blk.cast h9 rfl)
            have hin : y.gs[x] ∈ y.gs := List.getElem_mem _
            have hne : ∀ q, Blk W q 3 [.int .i64 t] ∨ Blk W q 3 [.int .i64 u] → ¬ q = g := fun q hq e9 => by
              subst e9
              rcases hq with h9 | h9 <;> exact absurd ((HG.out ▸ HEN.out.blk : Blk W q TE _).ty h9) (by decide)
            refine ⟨(KeepsOthers.drewN W nq).trans (KeepsOthers.setCell _ _ _), hFg.wide (fun k hk => .inl (.inl (by rw [hk, HG.out]; exact hin))), ?_, HK1.out.fr hFg (hne _ (.inl HK1.out)), HK2.out.fr hFg (hne _ (.inr HK2.out)), HF.out.trans (hFg.wide fun k hk => ?_)⟩
            · rw [HSS.out, St.mark1_hit HE.out (by rw [← HTM.out]; exact q1) (by rw [← HTM.out]; exact q2)]
              have h9 := hset.1
              rw [RS.put_put] at h9
              have e9 : Y.set i y = Y := by
                obtain ⟨hlt, rfl⟩ := List.getElem?_eq_some_iff.1 HY.out
                rw [List.set_getElem_self]
              rw [e9] at h9
              exact h9
            · subst hk
              exact .inl ⟨⟨_, TE, _, (HG.out ▸ HEN.out.blk : Blk W k TE _), .inl rfl⟩, (HZ.out _ (List.mem_of_getElem? HY.out)).2 _ (List.mem_of_getElem? HGS.out), HG.out ▸ HEN.out.lo⟩
          · have p2 : decide (tm ≤ u) = false := decide_eq_false q2
            gi_wp2_with fail
            refine wpIn_region_quiet_litR (by rfl) (by kernel_rfl) (by kernel_rfl) ?_
            repeat (gi_big_quiet_step (fail))
            refine wpQuietIn_nil ?_
            intro _ hw9
            obtain ⟨nq, hw8⟩ := hw9
            subst hw8
            gi_wp2
            refine ⟨KeepsOthers.drewN W nq, (Fr.refl _ _).drewN nq, ?_, HK1.out.drewN nq, HK2.out.drewN nq, HF.out.drewN nq⟩
            rw [HSS.out, St.mark1_miss HE.out (by rw [← HTM.out]; omega)]
            exact HR.out.quiet ⟨nq, rfl⟩
        · have p1 : decide (t ≤ tm) = false := decide_eq_false q1
          gi_wp2_with fail
          refine wpIn_region_quiet_litR (by rfl) (by kernel_rfl) (by kernel_rfl) ?_
          repeat (gi_big_quiet_step (fail))
          refine wpQuietIn_nil ?_
          intro _ hw9
          obtain ⟨nq, hw8⟩ := hw9
          subst hw8
          gi_wp2
          refine ⟨KeepsOthers.drewN W nq, (Fr.refl _ _).drewN nq, ?_, HK1.out.drewN nq, HK2.out.drewN nq, HF.out.drewN nq⟩
          rw [HSS.out, St.mark1_miss HE.out (by rw [← HTM.out]; omega)]
          exact HR.out.quiet ⟨nq, rfl⟩
      case done =>
        rintro D ys2 W hD rfl ⟨hR, hk1, hk2, hF⟩ hK
        gi_wp2
        refine ⟨by simp, .inl ⟨_, _, rfl, run_takeDeferred hK, ?_⟩⟩
        have hr2 : ∀ k, some D = some k → ∃ o : Obj, W.heap[k]? = some o ∧ o.isCells = false := fun k e => by cases e; exact ⟨_, hK, rfl⟩
        exact ⟨.int .i64 0, by simp [results, Try.f12, go_sem], ret_int (by rw [HP.out]), hF.turn (grownBy_putObj' W D _) (fun k e => by cases e; exact hD) HZ3.out, Y, by
          rw [HP.out]
          rw [St.marks_all t u s HST.out.gl] at hR
          exact ⟨hR.turn (grownBy_putObj' W D _) hr2, HZ.out⟩⟩
      case stop =>
        rintro D c pre W _ _ h _
        exact h.elim
theorem replay_z {w : World} {Z B b : Nat} {r : RS} {vS : Value} {Y : List SM} (id t u : Int) (h : RAt w B b r vS Y) (ok : r.Ok) (hz : LoZ Z Y) : Calls Try.prog 12 #[.pointer (some ⟨b, 0, none⟩), .int .i64 id, .int .i64 t, .int .i64 u] w (DZ Z B b vS w (r.replay id t u)) :=
  callsIn_wide.1 (replay_inz id t u h ok hz Fence.wide 3 trivial trivial trivial trivial rfl (by omega) (fun w1 h1 => callsIn_wide.2 (find_any id h1 (by rw [h1.yl]; have := ok.few; omega))))
end Go.Proofs.Ytnojmkmmfiahgaa

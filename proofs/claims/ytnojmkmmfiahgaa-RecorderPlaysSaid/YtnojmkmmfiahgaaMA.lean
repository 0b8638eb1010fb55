/- The mirror frame: only the recorder's blocks below Z change; Delete. No condition. -/
import Derived.Test.YtnojmkmmfiahgaaX
namespace Go.Proofs.Ytnojmkmmfiahgaa
open Go.RowKit Go.Shelf Go.Deep Go.ChangeShapes Go.WideShapes Go.ChangeAt
set_option linter.unusedVariables false

def LoZ (Z : Nat) (Y : List SM) : Prop := ∀ y ∈ Y, y.s < Z ∧ ∀ g ∈ y.gs, g < Z
/-- only the recorder's blocks from B to below Z change -/
def RZ (Z B : Nat) (w w' : World) : Prop := Fr (fun k => Rk w k ∧ k < Z ∧ B ≤ k) w w'
theorem RZ.trans {Z B : Nat} {a b c : World} (h : RZ Z B a b) (k : RZ Z B b c) : RZ Z B a c where
  os := k.os.trans h.os
  tape := k.tape.trans h.tape
  output := k.output.trans h.output
  size := Nat.le_trans h.size k.size
  block := fun x hx hn => by
    have h1 := h.block x hx hn
    refine (k.block x (Nat.lt_of_lt_of_le hx h.size) (fun hk => hn ⟨?_, hk.2⟩)).trans h1
    obtain ⟨cs, t, m, h2, h3⟩ := hk.1
    exact ⟨cs, t, m, by rw [← h1]; exact h2, h3⟩
theorem RZ.of_below {Z B : Nat} {w w' : World} (h : Below w.heap.size w w') : RZ Z B w w' := Fr.of_below h (Nat.le_refl _)
theorem RZ.of_s {Z B : Nat} {w w' : World} {s : St} {y : SM} (hs : StAt w B s y) (hz : y.s < Z) (h : Fr (fun k => k = y.s) w w') : RZ Z B w w' :=
  h.wide (fun k hk => by subst hk; exact .inl ⟨⟨_, TS, _, hs.blk, .inr (.inl rfl)⟩, hz, hs.lo⟩)
theorem RZ.turn {Z B B' : Nat} {a w w' : World} {row : Option Nat} (h : RZ Z B a w) (hg : w.grownBy w' row) (hr : ∀ k, row = some k → B' ≤ k) (hB : a.heap.size ≤ B') : RZ Z B a w' :=
  Fr.grown h hg (fun k e => .inr (Nat.le_trans hB (hr k e)))
/-- a recorder whose blocks lie from Z on stays -/
theorem RZ.keep {Z A B b : Nat} {w w' : World} {r : RS} {vS : Value} {Y : List SM} (h : RZ Z A w w') (k : RAt w B b r vS Y) (hB : Z ≤ B) : RAt w' B b r vS Y := by
  refine k.fr h (fun k cs hk hc => ?_) (fun hk => ?_) (fun q hq hk => ?_) (fun y hy => ?_)
  · obtain ⟨⟨cs', t, m, h2, h3⟩, -⟩ := hk
    rw [hc] at h2
    simp at h2
    obtain ⟨-, rfl, -⟩ := h2
    rcases h3 with e | e | e | e | e <;> exact absurd e (by decide)
  · have := k.lo; have := hk.2; omega
  · have := ((OffRow.of_own k.row).lt q hq).1; have := hk.2; omega
  · obtain ⟨i, hi⟩ := List.mem_iff_getElem?.1 hy
    obtain ⟨s, -, h2⟩ := k.at hi
    refine ⟨fun hk => ?_, fun q hq hk => ?_, fun g hg hk => ?_⟩
    · have := h2.lo; have := hk.2; omega
    · have := (h2.row.lt q hq).1; have := hk.2; omega
    · have := (h2.glt g hg).1; have := hk.2; omega
def DD (Z B b : Nat) (vS : Value) (w : World) (q : RS × Int) (e : Ending) (w' : World) : Prop :=
  e = .returned (.int .i64 q.2) ∧ RZ Z B w w' ∧ ∃ Y, RAt w' B b q.1 vS Y
def DZ (Z B b : Nat) (vS : Value) (w : World) (q : RS × Int) (e : Ending) (w' : World) : Prop :=
  e = .returned (.int .i64 q.2) ∧ RZ Z B w w' ∧ ∃ Y, RAt w' B b q.1 vS Y ∧ LoZ Z Y
set_option maxRecDepth 20000 in
theorem delete_z {w : World} {Z B b : Nat} {r : RS} {vS : Value} {Y : List SM} (id t : Int) (h : RAt w B b r vS Y) (ok : r.Ok) (hz : LoZ Z Y) : Calls Try.prog 15 #[.pointer (some ⟨b, 0, none⟩), .int .i64 id, .int .i64 t] w (DD Z B b vS w (r.delete id t)) := by
  have hn : Y.length ≤ 1000 := by rw [h.yl]; have := ok.few; omega
  have H := Lib.hid h
  have OK := Lib.hid ok
  have HZ := Lib.hid hz
  clear h ok hz
  go_enter Try.func15, Try.ntmps15
  go_wp2_with fail
  refine (find_any id H.out hn).mono ?_
  rintro e w2 ⟨hm, hB⟩
  have H2 := Lib.hid (H.out.below hB (Nat.le_refl _))
  have HF2 : Hid (RZ Z B w w2) := Lib.hid (RZ.of_below hB)
  cases hf : r.find id with
  | none =>
    rw [hf] at hm
    subst hm
    have HP : Hid (r.delete id t = (r, 8)) := Lib.hid (by unfold RS.delete; rw [hf])
    clear hB hf
    dsimp only
    go_wp2_with fail
    go_ret
    exact ⟨ret_int (by rw [HP.out]), HF2.out, Y, by rw [HP.out]; exact H2.out⟩
  | some i =>
    rw [hf] at hm
    obtain ⟨y, hy, rfl⟩ := hm
    obtain ⟨s, hs, hst⟩ := H2.out.at hy
    have HS := Lib.hid hs
    have HST := Lib.hid hst
    have HY := Lib.hid hy
    have HSO : Hid s.Ok := Lib.hid (OK.out.each s (List.mem_of_getElem? hs))
    by_cases ht : t < 0 ∨ 1099511627776 < t
    · have HP : Hid (r.delete id t = (r, 10)) := Lib.hid (by unfold RS.delete; rw [hf]; dsimp only; rw [if_pos ht])
      clear hB hf hst hs hy
      unfold ptr
      dsimp only
      rcases Int.lt_or_le t 0 with h0 | h0
      · clear ht
        go_wp2_with fail
        go_ret
        exact ⟨ret_int (by rw [HP.out]), HF2.out, Y, by rw [HP.out]; exact H2.out⟩
      · have h1 : 1099511627776 < t := by omega
        have h2 : ¬ t < 0 := by omega
        clear ht h0
        go_wp2_with fail
        go_ret
        exact ⟨ret_int (by rw [HP.out]), HF2.out, Y, by rw [HP.out]; exact H2.out⟩
    · have HP : Hid (r.delete id t = (r.put i (s.cut t), 0)) := Lib.hid (by unfold RS.delete; rw [hf]; dsimp only; rw [if_neg ht, get_of hs])
      have h0 : ¬ t < 0 := fun e => ht (.inl e)
      have h1 : ¬ 1099511627776 < t := fun e => ht (.inr e)
      obtain ⟨ys, hys⟩ : ∃ ys, ys = y.s := ⟨_, rfl⟩
      have HYS := Lib.hid hys
      have HPP : Hid (r.put i s = r) := Lib.hid (by
        unfold RS.put
        obtain ⟨hlt, rfl⟩ := List.getElem?_eq_some_iff.1 hs
        rw [List.set_getElem_self])
      clear hB hf hst hs hy ht
      unfold ptr
      rw [← hys]
      dsimp only
      clear hys
      go_wp2_with fail
      go_loopg [] (s.L.length + 1) (fun gk wr => ∃ (k : Nat) (Yk : List SM) (yk : SM), k ≤ s.L.length ∧ s.L.length - k < gk ∧ Hid (RAt wr B b (r.put i { s with L := s.L.drop k }) vS Yk) ∧ Hid (Yk[i]? = some yk) ∧ Hid (StAt wr B { s with L := s.L.drop k } yk) ∧ Hid (yk.s = ys) ∧ Hid (RZ Z B w wr) ∧ Hid (∀ (j : Nat) (e : En), j < k → s.L[j]? = some e → e.time < t))
      case atStart => exact ⟨0, Y, y, Nat.zero_le _, by omega, Lib.hid (by show RAt w2 B b (r.put i s) vS Y; rw [HPP.out]; exact H2.out), HY, HST, Lib.hid HYS.out.symm, HF2, Lib.hid (fun j e hj => absurd hj (Nat.not_lt_zero _))⟩
      case round =>
        obtain ⟨k, Yk, yk, hk, hgk, HR, HYk, HSk, HYS2, HFk, HTk⟩ := hrel
        obtain ⟨aE, cE, hvE, hcE, hmE, hV, -, -⟩ := HSk.out.row.vat
        obtain ⟨m, hm⟩ : ∃ m, m = s.L.length - k := ⟨_, rfl⟩
        have hgl : (yk.gs.map ptr).length = m := by rw [List.length_map, HSk.out.gl]; show (s.L.drop k).length = m; rw [List.length_drop, hm]
        rw [hgl] at hvE hcE
        have c4 : wr.cell? ⟨ys, 4, none⟩ = some (.slice aE m cE) := by rw [← hvE, ← HYS2.out]; exact HSk.out.blk.at 4 rfl
        have cl : ys < wr.heap.size := by rw [← HYS2.out]; exact HSk.out.blk.lt
        have hput : Hid (∀ (s' : St), (r.put i { s with L := s.L.drop k }).put i s' = r.put i s') := Lib.hid (fun s' => RS.put_put _ _ _ _)
        by_cases hlt : k < s.L.length
        · obtain ⟨x, hx⟩ : ∃ x, s.L[k]? = some x := ⟨_, List.getElem?_eq_getElem hlt⟩
          have hL : s.L.drop k = x :: s.L.drop (k + 1) := by
            obtain ⟨_, rfl⟩ := List.getElem?_eq_some_iff.1 hx
            exact List.drop_eq_getElem_cons hlt
          obtain ⟨g, vd, hg0, hv0, hen⟩ := HSk.out.en 0 x (by show (s.L.drop k)[0]? = some x; rw [hL]; rfl)
          obtain ⟨gE, oE, rfl, hgE, hcell⟩ := hV.get (i := 0) (by rw [hgl]; omega)
          have cg : wr.cell? ⟨gE, oE, none⟩ = some (.pointer (some ⟨g, 0, none⟩)) := by
            have h9 := hcell
            simp only [Nat.add_zero, List.getElem_map] at h9
            obtain ⟨_, h8⟩ := List.getElem?_eq_some_iff.1 hg0
            rw [h8] at h9
            exact h9
          have ct := hen.blk.at 0 rfl
          have gl := hen.blk.lt
          have i1 : (0 : Int) < (m : Int) := by omega
          have HX := Lib.hid hx
          have HLL := Lib.hid hL
          have hlv : lvl (s.L.drop k) ≤ 2147483648 := by have h8 := lvl_drop s.L k; have h9 := HSO.out.lvl; have h7 := HSO.out.room; omega
          have HLV := Lib.hid hlv
          obtain ⟨tm, htm⟩ : ∃ tm, tm = x.time := ⟨_, rfl⟩
          rw [← htm] at ct
          have HTM := Lib.hid htm
          have d0 : 0 < m := by omega
          clear hx hL hg0 hv0 hen hcell hV hvE hm hgl hlv htm
          by_cases hlt2 : tm < t
          · go_wp2_with fail
            have hpop := pop_any HR.out HYk.out HSk.out HLL.out HLV.out
            rw [HYS2.out] at hpop
            refine hpop.mono ?_
            rintro e w3 ⟨rfl, vE', h3, hs3, hf3⟩
            have H3 : Hid (RAt w3 B b (r.put i { s with L := s.L.drop (k + 1) }) vS (Yk.set i ⟨ys, vE', yk.gs.tail, yk.vds.tail⟩)) := Lib.hid (by rw [hput.out] at h3; exact h3)
            have HS3 := Lib.hid hs3
            have HF3 : Hid (RZ Z B w w3) := Lib.hid (HFk.out.trans (RZ.of_s HSk.out (by rw [HYS2.out, HYS.out]; exact (HZ.out _ (List.mem_of_getElem? HY.out)).1) (by rw [HYS2.out]; exact hf3)))
            clear h3 hs3 hf3 hpop
            go_wp2_with fail
            go_roundg (gk - 1)
            case rel => exact ⟨k + 1, _, ⟨ys, vE', yk.gs.tail, yk.vds.tail⟩, by omega, by omega, H3, Lib.hid (set_len _ HYk.out), HS3, Lib.hid rfl, HF3, Lib.hid (fun j e hj he => by
              by_cases hjk : j < k
              · exact HTk.out j e hjk he
              · obtain rfl : j = k := by omega
                rw [HX.out] at he
                cases he
                rw [← HTM.out]
                exact hlt2)⟩
            case measure => omega
          · have hcut : Hid (s.cut t = { s with L := s.L.drop k }) := Lib.hid (by
              unfold St.cut
              rw [dropWhile_at _ s.L k (by omega) (fun j e hj he => decide_eq_true (HTk.out j e hj he)) (fun e he => by
                rw [HX.out] at he
                cases he
                rw [← HTM.out]
                exact decide_eq_false hlt2)])
            go_wp2_with fail
            go_ret
            exact ⟨ret_int (by rw [HP.out]), HFk.out, Yk, by rw [HP.out]; show RAt wr B b (r.put i (s.cut t)) vS Yk; rw [hcut.out]; exact HR.out⟩
        · have hcut : Hid (s.cut t = { s with L := s.L.drop k }) := Lib.hid (by
            unfold St.cut
            rw [dropWhile_at _ s.L k (by omega) (fun j e hj he => decide_eq_true (HTk.out j e hj he)) (fun e he => by
              have := (List.getElem?_eq_some_iff.1 he).1
              omega)])
          have hm0 : m = 0 := by omega
          subst hm0
          clear hm hgl hvE hV
          go_wp2_with fail
          go_ret
          exact ⟨ret_int (by rw [HP.out]), HFk.out, Yk, by rw [HP.out]; show RAt wr B b (r.put i (s.cut t)) vS Yk; rw [hcut.out]; exact HR.out⟩
end Go.Proofs.Ytnojmkmmfiahgaa

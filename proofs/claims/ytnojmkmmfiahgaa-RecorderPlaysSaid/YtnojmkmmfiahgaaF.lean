/- Contracts: pop, Delete. No condition. -/
import Derived.Test.YtnojmkmmfiahgaaE
namespace Go.Proofs.Ytnojmkmmfiahgaa
open Go.RowKit Go.Deep Go.ChangeShapes Go.WideShapes Go.ChangeAt
set_option linter.unusedVariables false

/-- s[1:] -/
theorem OffRow.tail {w : World} {B : Nat} {t : TypeId} {g0 off n cap : Nat} {u : Value} {xs : List Value} (h : OffRow w B t (.slice (some ⟨g0, off, none⟩) n cap) (u :: xs)) : OffRow w B t (.slice (if cap = 1 then some ⟨g0, off, none⟩ else some ⟨g0, off + 1, none⟩) (n - 1) (cap - 1)) xs ∧ n = xs.length + 1 ∧ n ≤ cap := by
  have h0 := h
  rcases h with ⟨e, e2⟩ | ⟨g, off', cap', cur, e, hb, hg, hnc, hcm, hsz, hxs⟩
  · cases e2
  · simp only [Value.slice.injEq, Option.some.injEq, Addr.mk.injEq, and_true] at e
    obtain ⟨⟨rfl, rfl⟩, rfl, rfl⟩ := e
    refine ⟨?_, by simp, hnc⟩
    simp only [List.length_cons] at hnc ⊢
    by_cases hc : cap = 1
    · subst hc
      have hx : xs = [] := List.length_eq_zero_iff.1 (by omega)
      subst hx
      rw [if_pos rfl]
      exact OffRow.drop_all h0 (by simp)
    · rw [if_neg hc]
      obtain ⟨g, off, e, h2⟩ := OffRow.drop h0 1 (by simp) (by omega)
      cases e
      simpa using h2
set_option maxRecDepth 20000 in
theorem pop_any {w : World} {B b i : Nat} {r : RS} {vS : Value} {Y : List SM} {y : SM} {s : St} {x : En} {xs : List En} (h : RAt w B b r vS Y) (hi : Y[i]? = some y) (hs : StAt w B s y) (hL : s.L = x :: xs) (hb : lvl s.L ≤ 2147483648) :
    Calls Try.prog 25 #[.pointer (some ⟨y.s, 0, none⟩)] w fun e w' => e = .returned (.tuple #[]) ∧ ∃ vE', RAt w' B b (r.put i { s with L := xs }) vS (Y.set i ⟨y.s, vE', y.gs.tail, y.vds.tail⟩) ∧ StAt w' B { s with L := xs } ⟨y.s, vE', y.gs.tail, y.vds.tail⟩ ∧ Fr (fun k => k = y.s) w w' := by
  obtain ⟨g, vd, hg0, hv0, hen⟩ := hs.en 0 x (by rw [hL]; rfl)
  obtain ⟨gs, hgs⟩ : ∃ gs, y.gs = g :: gs := by
    cases e : y.gs with
    | nil => rw [e] at hg0; cases hg0
    | cons a tl => rw [e] at hg0; cases hg0; exact ⟨tl, rfl⟩
  have hrow := hs.row
  rw [hgs] at hrow
  obtain ⟨aE, cE, hvE, -, hcm, hV, -, -⟩ := hrow.vat
  obtain ⟨gE, oE, rfl, hgE, hcell⟩ := hV.get (i := 0) (by simp)
  simp only [Nat.add_zero, List.map_cons, List.getElem_cons_zero] at hcell
  rw [hvE] at hrow
  obtain ⟨ht, hn, hnc⟩ := OffRow.tail hrow
  obtain ⟨n, hnn⟩ : ∃ n, n = ((g :: gs).map ptr).length := ⟨_, rfl⟩
  rw [← hnn] at hvE hrow ht hn hnc
  obtain ⟨-, ad, cd, rfl, -, -, -⟩ := BAt.of_row hen.dat
  obtain ⟨m, hm⟩ : ∃ m, m = x.data.length := ⟨_, rfl⟩
  obtain ⟨l0, hl0⟩ : ∃ l, l = lvl s.L := ⟨_, rfl⟩
  obtain ⟨l1, hl1⟩ : ∃ l, l = lvl xs := ⟨_, rfl⟩
  have hll : l0 = m + l1 := by rw [hl0, hL, hm, hl1]; rfl
  have j1 : (l0 : Int) - (m : Int) = (l1 : Int) := by omega
  have c4 : w.cell? ⟨y.s, 4, none⟩ = some (.slice (some ⟨gE, oE, none⟩) n cE) := by rw [← hvE]; exact hs.blk.at 4 rfl
  have c5 : w.cell? ⟨y.s, 5, none⟩ = some (.int .i64 (l0 : Int)) := by rw [hl0]; exact hs.blk.at 5 rfl
  have cg : w.cell? ⟨gE, oE, none⟩ = some (.pointer (some ⟨g, 0, none⟩)) := hcell
  have ce : w.cell? ⟨g, 1, none⟩ = some (.slice ad m cd) := by rw [hm]; exact hen.blk.at 1 rfl
  have f5 := hs.blk.free 5
  have cl := hs.blk.lt
  have gl := hen.blk.lt
  have hgne : g ≠ y.s := fun e => absurd ((e ▸ hen.blk : Blk w y.s TE _).ty hs.blk) (by decide)
  have hEne : gE ≠ y.s := fun e => by
    obtain ⟨cs, hc⟩ := off_ty hs.row (k := gE) (by rw [hvE]; rfl)
    subst e
    exact absurd (hs.blk.kind hc) (by decide)
  have H := Lib.hid h
  have HI := Lib.hid hi
  have HS := Lib.hid hs
  have HL := Lib.hid hL
  have HT := Lib.hid ht
  have HGS := Lib.hid hgs
  have HVE := Lib.hid hvE
  have HL1 := Lib.hid hl1
  have i1 : (0 : Int) < (n : Int) := by omega
  have i2 : (1 : Int) ≤ (n : Int) := by omega
  have i3 : (1 : Int) ≤ (cE : Int) := by omega
  have i4 : l0 ≤ 2147483648 := by omega
  clear h hi hs hL ht hgs hvE hrow hV hcell hg0 hv0 hen hm hl0 hl1 hll hnn hn hcm hb
  have hwp : IntKind.i64.wrap ((l0 : Int) - (m : Int)) = (l1 : Int) := by rw [j1]; exact IntWalk.i64_in _ (by omega)
  have f4 := HS.out.blk.free 4
  go_enter Try.func25, Try.ntmps25
  go_upto_region 1 with (go_region)
  obtain ⟨w1, hw1⟩ : ∃ w1, w1 = (w.setCell ⟨y.s, 5, none⟩ (.int .i64 (l1 : Int))).drew := ⟨_, rfl⟩
  rw [← hw1]
  have hF1 : Fr (fun k => k = y.s) w w1 := by rw [hw1]; exact ((Fr.refl _ _).set1 _ (by exact .inl rfl)).drew
  have hK1 : Blk w1 y.s TS [.int .i64 s.id, .int .i64 s.room, .int .i64 s.prio, .bool s.circ, .slice (some ⟨gE, oE, none⟩) n cE, .int .i64 (l1 : Int), .int .i64 (s.drop : Int)] := by
    rw [hw1]
    have h9 := (HS.out.blk.setCell 5 (.int .i64 (l1 : Int))).drew
    rw [HVE.out] at h9
    exact Blk.cast h9 rfl
  have HF1 := Lib.hid hF1
  have HK1 := Lib.hid hK1
  clear hw1 hF1 hK1 c4 c5 cg ce f5 f4 cl gl hwp
  have c4 := HK1.out.at 4 rfl
  have f4 := HK1.out.free 4
  have cl := HK1.out.lt
  by_cases hc1 : cE = 1
  · have q2 : (cE : Int) = 1 := by omega
    subst hc1
    have hn1 : n = 1 := by omega
    subst hn1
    have HV : Hid (OffRow w B PE (.slice (some ⟨gE, oE, none⟩) 0 0) (gs.map ptr)) := Lib.hid (by have h9 := HT.out; rw [if_pos rfl] at h9; exact h9)
    go_wp2_with fail
    go_end0
    have hF2 : Fr (fun k => k = y.s) w1 (w1.setCell ⟨y.s, 4, none⟩ (.slice (some ⟨gE, oE, none⟩) 0 0)) := (Fr.refl _ _).set1 _ (by exact .inl rfl)
    have hff := HF1.out.trans hF2
    have hset := H.out.setS (s' := { s with L := xs }) (n := 1) (vE' := (.slice (some ⟨gE, oE, none⟩) 0 0)) HI.out HS.out hff (by rw [HL.out]; rfl) (by
      have h9 := HK1.out.setCell 4 (.slice (some ⟨gE, oE, none⟩) 0 0)
      dsimp only
      rw [← HL1.out]
      exact Blk.cast h9 rfl) (by
      rw [HGS.out]
      exact HV.out.fr hff (fun k hk e => hEne (by simp [Value.ownBlock] at hk; rw [hk]; exact e))) (fun k hk => by
        rw [HVE.out]
        simp [Value.ownBlock] at hk ⊢
        exact hk)
    simp only [List.drop_one] at hset
    exact ⟨rfl, _, hset.1, hset.2, hff⟩
  · have q2 : ¬ (cE : Int) = 1 := by omega
    have HV : Hid (OffRow w B PE (.slice (some ⟨gE, oE + 1, none⟩) (n - 1) (cE - 1)) (gs.map ptr)) := Lib.hid (by have h9 := HT.out; rw [if_neg hc1] at h9; exact h9)
    go_wp2_with fail
    go_end0
    have hF2 : Fr (fun k => k = y.s) w1 (w1.setCell ⟨y.s, 4, none⟩ (.slice (some ⟨gE, oE + 1, none⟩) (n - 1) (cE - 1))) := (Fr.refl _ _).set1 _ (by exact .inl rfl)
    have hff := HF1.out.trans hF2
    have hset := H.out.setS (s' := { s with L := xs }) (n := 1) (vE' := (.slice (some ⟨gE, oE + 1, none⟩) (n - 1) (cE - 1))) HI.out HS.out hff (by rw [HL.out]; rfl) (by
      have h9 := HK1.out.setCell 4 (.slice (some ⟨gE, oE + 1, none⟩) (n - 1) (cE - 1))
      dsimp only
      rw [← HL1.out]
      exact Blk.cast h9 rfl) (by
      rw [HGS.out]
      exact HV.out.fr hff (fun k hk e => hEne (by simp [Value.ownBlock] at hk; rw [hk]; exact e))) (fun k hk => by
        rw [HVE.out]
        simp [Value.ownBlock] at hk ⊢
        exact hk)
    simp only [List.drop_one] at hset
    exact ⟨rfl, _, hset.1, hset.2, hff⟩
/-! ### Delete -/
theorem RS.put_put (r : RS) (i : Nat) (a b : St) : (r.put i a).put i b = r.put i b := by unfold RS.put; simp
theorem set_len {Y : List SM} {i : Nat} {y : SM} (z : SM) (h : Y[i]? = some y) : (Y.set i z)[i]? = some z := List.getElem?_set_self (List.getElem?_eq_some_iff.1 h).1
end Go.Proofs.Ytnojmkmmfiahgaa

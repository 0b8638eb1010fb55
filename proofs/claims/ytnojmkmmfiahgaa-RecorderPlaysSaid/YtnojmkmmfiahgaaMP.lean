/- RecorderPlays: what holds between two rounds. No condition. -/
import Derived.Test.YtnojmkmmfiahgaaML
import Derived.Test.YtnojmkmmfiahgaaMO
import Derived.Test.YtnojmkmmfiahgaaMJ
namespace Go.Proofs.Ytnojmkmmfiahgaa
open Go.RowKit Go.Deep Go.ChangeShapes Go.WideShapes Go.ChangeAt
set_option linter.unusedVariables false

theorem not_rk {w : World} {k T : Nat} {xs : List Value} (h : Blk w k T xs) (hT : T ≠ TE ∧ T ≠ TS ∧ T ≠ TR ∧ T ≠ PS ∧ T ≠ PE) : ¬ Rk w k := fun ⟨cs, t, m, h2, h3⟩ => by
  rw [show w.heap[k]? = _ from h] at h2
  simp at h2
  obtain ⟨-, rfl, -⟩ := h2
  rcases h3 with e | e | e | e | e
  · exact hT.1 e
  · exact hT.2.1 e
  · exact hT.2.2.1 e
  · exact hT.2.2.2.1 e
  · exact hT.2.2.2.2 e
theorem Blk.rf {w w' : World} {B k T : Nat} {xs : List Value} (h : Blk w k T xs) (hf : RF B w w') (hT : T ≠ TE ∧ T ≠ TS ∧ T ≠ TR ∧ T ≠ PS ∧ T ≠ PE) : Blk w' k T xs := h.fr hf (fun hk => not_rk h hT hk.1)
theorem Blk.rz {w w' : World} {Z B k T : Nat} {xs : List Value} (h : Blk w k T xs) (hf : RZ Z B w w') (hT : T ≠ TE ∧ T ≠ TS ∧ T ≠ TR ∧ T ≠ PS ∧ T ≠ PE) : Blk w' k T xs := h.fr hf (fun hk => not_rk h hT hk.1)
/-- the recorder stays where a result's block is written -/
theorem RAt.box {w w' : World} {B b q : Nat} {r : RS} {vS : Value} {Y : List SM} {xs : List Value} (h : RAt w B b r vS Y) (hk : Blk w q 45 xs) (hf : Fr (fun k => k = q) w w') : RAt w' B b r vS Y := by
  have hn : ∀ k cs u m, w.heap[k]? = some (.cells cs u m) → u ≠ 45 → ¬ k = q := fun k cs u m hk2 hu e => by
    subst e
    rw [show w.heap[k]? = _ from hk] at hk2
    simp at hk2
    exact hu hk2.2.1.symm
  refine h.fr hf (fun k cs e hc => hn k _ _ _ hc (by decide) e) (hn _ _ _ _ h.blk (by decide)) (fun k hk => ?_) (fun y hy => ?_)
  · obtain ⟨cs, hc⟩ := own_ty h.row hk
    exact hn _ _ _ _ hc (by decide)
  · obtain ⟨i, hi⟩ := List.mem_iff_getElem?.1 hy
    obtain ⟨s, -, h2⟩ := h.at hi
    refine ⟨hn _ _ _ _ h2.blk (by decide), fun k hk => ?_, fun g hg => ?_⟩
    · obtain ⟨cs, hc⟩ := off_ty h2.row hk
      exact hn _ _ _ _ hc (by decide)
    · obtain ⟨p, hp⟩ := List.mem_iff_getElem?.1 hg
      obtain ⟨e, vd, -, -, h3⟩ := RAt.en_at h2 hp
      exact hn _ _ _ _ h3.blk (by decide)
theorem LoZ.of {w : World} {B b : Nat} {r : RS} {vS : Value} {Y : List SM} (h : RAt w B b r vS Y) : LoZ w.heap.size Y := fun y hy => by
  obtain ⟨i, hi⟩ := List.mem_iff_getElem?.1 hy
  obtain ⟨s, -, h2⟩ := h.at hi
  exact ⟨h2.blk.lt, fun g hg => (h2.glt g hg).2⟩
/-- the program's recorder and the reference's -/
structure PM (w wr : World) (bq b : Nat) (p q : RS) (vS : Value) (Y : List SM) (a : Option Addr) (n c : Nat) : Prop where
  at_ : RAt wr w.heap.size b p vS Y
  okp : p.Ok
  okq : q.Ok
  ref : RV wr q a n c
  box : Blk wr bq 45 [.int .i64 q.now, .slice a n c]
  hbq : w.heap.size ≤ bq
  bel : Below w.heap.size w wr
section
variable {w wr w' : World} {bq b n c : Nat} {p q : RS} {vS : Value} {Y : List SM} {a : Option Addr}
theorem PM.below (h : PM w wr bq b p q vS Y a n c) (hB : Below wr.heap.size wr w') : PM w w' bq b p q vS Y a n c :=
  ⟨h.at_.below hB (Nat.le_refl _), h.okp, h.okq, h.ref.low hB, h.box.below hB (Nat.le_refl _), h.hbq, h.bel.trans (hB.mono h.bel.size)⟩
theorem PM.prog {p' : RS} {vS' : Value} {Y' : List SM} (h : PM w wr bq b p q vS Y a n c) (hR : RAt w' w.heap.size b p' vS' Y') (ok : p'.Ok) (hF : RF w.heap.size wr w') : PM w w' bq b p' q vS' Y' a n c :=
  ⟨hR, ok, h.okq, h.ref.x (XF.of_rf hF), h.box.rf hF (by decide), h.hbq, h.bel.trans (hF.toBelow h.bel.size)⟩
theorem PM.refr {q' : RS} {a' : Option Addr} {n' c' : Nat} (h : PM w wr bq b p q vS Y a n c) (hB : Below wr.heap.size wr w') (hv : RV w' q' a' n' c') (ok : q'.Ok) : PM w ((w'.setCell ⟨bq, 0, none⟩ (.int .i64 q'.now)).setCell ⟨bq, 1, none⟩ (.slice a' n' c')) bq b p q' vS Y a' n' c' := by
  have h1 := h.below hB
  have hf := ((Fr.refl (fun k => k = bq) w').set1 (b := bq) (i := 0) (.int .i64 q'.now) (.inl rfl)).set1 (b := bq) (i := 1) (.slice a' n' c') (.inl rfl)
  have hbw : w.heap.size ≤ bq := h.hbq
  exact ⟨h1.at_.box h1.box hf, h.okp, ok, hv.x ((XF.box h1.box).trans (XF.box (h1.box.setCell 0 _))), Blk.cast ((h1.box.setCell 0 (.int .i64 q'.now)).setCell 1 (.slice a' n' c')) rfl, h.hbq, (h1.bel.setCell (p := ⟨bq, 0, none⟩) hbw _).setCell (p := ⟨bq, 1, none⟩) hbw _⟩
theorem PM.clone {w6 w7 w10 : World} {cb : Nat} {vC : Value} {YC : List SM} (h : PM w w6 bq b p p vS Y a n c) (hc : RAt w7 w.heap.size cb p vC YC) (hg : GeZ w6.heap.size cb vC YC) (hB : Below w6.heap.size w6 w7) (hz : RZ w6.heap.size w.heap.size w7 w10) : PM w w10 bq cb p p vC YC a n c := by
  have h1 := h.bel.trans (hB.mono h.bel.size)
  exact ⟨hz.keepZ hc hg, h.okp, h.okq, (h.ref.low hB).x (XF.of_rz hz), (h.box.below hB (Nat.le_refl _)).rz hz (by decide), h.hbq, h1.trans (Fr.toBelow hz h1.size (fun k hk => hk.2.2))⟩
end
/-- packets dropped and kept -/
def Few (k : Nat) (r : RS) : Prop := ∀ (i : Nat) (s : St), r.stores[i]? = some s → s.drop + s.L.length ≤ k
theorem Few.mono {k m : Nat} {r : RS} (h : Few k r) (hm : k ≤ m) : Few m r := fun i s hs => Nat.le_trans (h i s hs) hm
theorem Few.put {k : Nat} {r : RS} {i : Nat} {s : St} (h : Few k r) (hs : s.drop + s.L.length ≤ k) : Few k (r.put i s) := fun j t ht => by
  have ht2 : (r.stores.set i s)[j]? = some t := ht
  by_cases e : i = j
  · subst e
    by_cases hl : i < r.stores.length
    · rw [List.getElem?_set_self hl] at ht2
      cases ht2
      exact hs
    · rw [List.getElem?_eq_none (by rw [List.length_set]; omega)] at ht2
      cases ht2
  · rw [List.getElem?_set_ne e] at ht2
    exact h j t ht2
theorem Few.at {k : Nat} {r : RS} (h : Few k r) {i : Nat} (hi : i < r.stores.length) : (r.stores[i]!).drop + (r.stores[i]!).L.length ≤ k := by
  obtain ⟨s, hs⟩ : ∃ s, r.stores[i]? = some s := ⟨_, List.getElem?_eq_getElem hi⟩
  rw [get_of hs]
  exact h i s hs
theorem Few.add {k : Nat} {r : RS} (h : Few k r) (id now : Int) (l : List UInt8) : Few (k + 1) (r.add id now l).1 := by
  have ht : Few k (r.tick now) := h
  have ht1 := ht.mono (Nat.le_succ k)
  cases hf : (r.tick now).find id with
  | none => rw [add_none hf]; exact ht1
  | some i =>
    have hil := RS.find_lt hf
    obtain ⟨s, hs⟩ : ∃ s, (r.tick now).stores[i]? = some s := ⟨_, List.getElem?_eq_getElem hil⟩
    rw [add_some hf hs]
    refine ht1.put ?_
    have h0 := ht i s hs
    unfold St.add
    split
    · dsimp only; omega
    · split
      · dsimp only; omega
      · obtain ⟨j, h1, h2, -⟩ := shed_sub l.length s.room s.L s.drop
        dsimp only
        rw [h2]
        simp only [List.length_append, List.length_drop, List.length_cons, List.length_nil]
        omega
theorem Few.replay {k : Nat} {r : RS} (h : Few k r) (id t u : Int) : Few k (r.replay id t u).1 := by
  unfold RS.replay
  split
  · exact h
  · rename_i i hf
    split
    · exact h
    · have h0 := h.at (RS.find_lt hf)
      refine h.put ?_
      unfold St.mark
      dsimp only
      rw [List.length_map]
      exact h0
theorem Few.delete {k : Nat} {r : RS} (h : Few k r) (id t : Int) : Few k (r.delete id t).1 := by
  unfold RS.delete
  split
  · exact h
  · rename_i i hf
    split
    · exact h
    · have h0 := h.at (RS.find_lt hf)
      refine h.put ?_
      unfold St.cut
      dsimp only
      have := (List.dropWhile_sublist (l := (r.stores[i]!).L) (fun x => decide (x.time < t))).length_le
      omega
theorem Few.next {k : Nat} {r : RS} (h : Few k r) : Few k r.next.1 := by
  unfold RS.next
  split
  · exact h
  · rename_i i hb
    split
    · exact h
    · rename_i k2 hf
      by_cases hil : i < r.stores.length
      · have h0 := h.at hil
        refine h.put ?_
        unfold St.take
        dsimp only
        rw [List.length_set]
        exact h0
      · intro j t ht
        have ht2 : (r.stores.set i ((r.stores[i]!).take k2))[j]? = some t := ht
        rw [List.set_eq_of_length_le (by omega)] at ht2
        exact h j t ht2
theorem Few.drop {k : Nat} {r : RS} (h : Few k r) (hk : k ≤ 1000) : ∀ (i : Nat) (s : St), r.stores[i]? = some s → s.drop ≤ 4000000000000000000 := fun i s hs => by
  have := h i s hs
  omega
theorem Few.zero (ds : List Df) : Few 0 ⟨0, ds.map Df.st⟩ := fun i s hs => by
  have hs2 : (ds.map Df.st)[i]? = some s := hs
  rw [List.getElem?_map] at hs2
  obtain ⟨d, -, rfl⟩ := Option.map_eq_some_iff.1 hs2
  exact Nat.le_refl _
theorem defs_ok {ds : List Df} (hl : ds.length ≤ 256) (h : ∀ i, ¬ badD ds i) : (⟨0, ds.map Df.st⟩ : RS).Ok := by
  refine ⟨show (0 : Int) ≤ 0 ∧ (0 : Int) ≤ 1099511627776 by decide, by show (ds.map Df.st).length ≤ 256; rw [List.length_map]; exact hl, fun s hs => ?_⟩
  obtain ⟨d, hd, rfl⟩ := List.mem_map.1 (show s ∈ ds.map Df.st from hs)
  obtain ⟨i, hi⟩ := List.mem_iff_getElem?.1 hd
  have hb : ¬ (d.id < 0 ∨ 65535 < d.id ∨ (∃ p, 0 < i ∧ ds[i - 1]? = some p ∧ d.id ≤ p.id) ∨ d.room < 0 ∨ 2147483648 < d.room ∨ d.prio < 0 ∨ 15 < d.prio) := fun e => h i ⟨d, hi, e⟩
  have b1 : ¬ d.id < 0 := fun e => hb (.inl e)
  have b2 : ¬ 65535 < d.id := fun e => hb (.inr (.inl e))
  have b3 : ¬ d.room < 0 := fun e => hb (.inr (.inr (.inr (.inl e))))
  have b4 : ¬ 2147483648 < d.room := fun e => hb (.inr (.inr (.inr (.inr (.inl e)))))
  have b5 : ¬ d.prio < 0 := fun e => hb (.inr (.inr (.inr (.inr (.inr (.inl e))))))
  have b6 : ¬ 15 < d.prio := fun e => hb (.inr (.inr (.inr (.inr (.inr (.inr e))))))
  exact ⟨show 0 ≤ d.id ∧ d.id ≤ 65535 by omega, show 0 ≤ d.room ∧ d.room ≤ 2147483648 by omega, show 0 ≤ d.prio ∧ d.prio ≤ 15 by omega, by show ((0 : Nat) : Int) ≤ d.room; omega, fun x hx => by simp [Df.st] at hx, fun x hx => by simp [Df.st] at hx⟩
/-- a call's row -/
theorem op_of {w : World} {a : Option Addr} {l : List OpF} (h : Opl w a l) {i n : Nat} (hn : l.length = n) (hi : i < n) : ∃ (o : OpF) (b off : Nat) (a' : Option Addr) (c' : Nat), l[i]? = some o ∧ a = some ⟨b, off, none⟩ ∧ b < w.heap.size ∧ w.cell? ⟨b, off + i * 5, none⟩ = some (.int .i64 o.call) ∧ w.cell? ⟨b, off + i * 5 + 1, none⟩ = some (.int .i64 o.store) ∧ w.cell? ⟨b, off + i * 5 + 2, none⟩ = some (.int .i64 o.frm) ∧ w.cell? ⟨b, off + i * 5 + 3, none⟩ = some (.int .i64 o.till) ∧
    w.cell? ⟨b, off + i * 5 + 4, none⟩ = some (.slice a' o.data.length c') ∧ BAt w a' o.data ∧ o.data.length ≤ c' ∧ c' ≤ maxLen := by
  subst hn
  rcases h with h | ⟨b, off, rfl, hb, h⟩
  · rw [h] at hi; simp at hi
  · obtain ⟨h1, h2, h3, h4, a', c', h5, h6, h7, h8⟩ := h i hi
    exact ⟨l[i], b, off, a', c', List.getElem?_eq_getElem hi, rfl, hb, h1, h2, h3, h4, h5, h6, h7, h8⟩
/-- bytes that lay there at the start -/
theorem AB.old {w wr : World} {a : Option Addr} {l : List UInt8} (h : BAt w a l) (hB : Below w.heap.size w wr) : AB w.heap.size wr a l :=
  ⟨h.below hB (Nat.le_refl _), fun q hq hne hk => by have := h.lt q hq hne; have := hk.2; omega⟩
theorem replay_now (r : RS) (id t u : Int) : (r.replay id t u).1.now = r.now := by
  unfold RS.replay
  split
  · rfl
  · split <;> rfl
theorem delete_now (r : RS) (id t : Int) : (r.delete id t).1.now = r.now := by
  unfold RS.delete
  split
  · rfl
  · split <;> rfl
theorem next_now (r : RS) : r.next.1.now = r.now := by
  unfold RS.next
  split
  · rfl
  · split <;> rfl
theorem own_box {w w' : World} {B t z n q : Nat} {v x y : Value} {xs ys : List Value} (h : w.ownsRow B t z v n xs) (hk : Blk w q 45 ys) (hw : w' = (w.setCell ⟨q, 0, none⟩ x).setCell ⟨q, 1, none⟩ y) (ht : 45 ≠ t := by decide) : w'.ownsRow B t z v n xs := by
  rw [hw]
  have hne := own_ne h hk ht
  exact own_set (p := ⟨q, 1, none⟩) (own_set (p := ⟨q, 0, none⟩) h hne x) hne y
end Go.Proofs.Ytnojmkmmfiahgaa

/- Contract of New. No condition. -/
import Derived.Test.YtnojmkmmfiahgaaN
namespace Go.Proofs.Ytnojmkmmfiahgaa
open Go.RowKit Go.Deep Go.ChangeShapes Go.WideShapes Go.ChangeAt
set_option linter.unusedVariables false

/-- a store's definition -/
structure Df where
  id : Int
  room : Int
  prio : Int
  circ : Bool
instance : Inhabited Df := ⟨⟨0, 0, 0, false⟩⟩
def Df.st (d : Df) : St := ⟨d.id, d.room, d.prio, d.circ, [], 0⟩
def Df.cells (d : Df) : List Value := [.int .i64 d.id, .int .i64 d.room, .int .i64 d.prio, .bool d.circ]
/-- the definitions lie there -/
def DAt (w : World) (a : Option Addr) (ds : List Df) : Prop :=
  ds = [] ∨ ∃ b off, a = some ⟨b, off, none⟩ ∧ b < w.heap.size ∧ ∀ i (h : i < ds.length), ∀ j, j < 4 → w.cell? ⟨b, off + (i * 4 + j), none⟩ = ds[i].cells[j]?
theorem DAt.low {w w' : World} {a : Option Addr} {ds : List Df} (h : DAt w a ds) (hb : Below w.heap.size w w') : DAt w' a ds := by
  rcases h with h | ⟨b, off, h1, h2, h3⟩
  · exact .inl h
  · exact .inr ⟨b, off, h1, Nat.lt_of_lt_of_le h2 hb.size, fun i hi j hj => (hb.cell (p := ⟨b, _, none⟩) h2).trans (h3 i hi j hj)⟩
/-- one definition does not serve -/
def badD (ds : List Df) (i : Nat) : Prop :=
  ∃ d, ds[i]? = some d ∧ (d.id < 0 ∨ 65535 < d.id ∨ (∃ p, 0 < i ∧ ds[i - 1]? = some p ∧ d.id ≤ p.id) ∨ d.room < 0 ∨ 2147483648 < d.room ∨ d.prio < 0 ∨ 15 < d.prio)
/-- what New gives -/
def NewQ (ds : List Df) (w : World) (e : Ending) (w' : World) : Prop :=
  ((256 < ds.length ∧ e = .returned (.tuple #[.pointer none, .int .i64 6])) ∨
   (ds.length ≤ 256 ∧ (∃ i, badD ds i) ∧ e = .returned (.tuple #[.pointer none, .int .i64 1])) ∨
   (ds.length ≤ 256 ∧ (∀ i, ¬ badD ds i) ∧ ∃ b vS Y, e = .returned (.tuple #[.pointer (some ⟨b, 0, none⟩), .int .i64 0]) ∧ RAt w' w.heap.size b ⟨0, ds.map Df.st⟩ vS Y)) ∧ Below w.heap.size w w'
/-- one more store -/
theorem RAt.addS {w w9 : World} {B b : Nat} {r : RS} {vS v9 : Value} {Y : List SM} {s : St} {y : SM} (h : RAt w B b r vS Y) (hf : Fr (fun k => k = b ∨ vS.ownBlock = some k) w w9) (hk9 : Blk w9 b TR [.bool true, .int .i64 r.now, v9])
    (hrow : w9.ownsRow B PS 1 v9 (Y.length + 1) (Y.map (fun z => ptr z.s) ++ [ptr y.s])) (hst : StAt w9 B s y) (f1 : w.heap.size ≤ y.s) (f2 : ∀ g ∈ y.gs, w.heap.size ≤ g) (f3 : ∀ k, y.vE.ownBlock = some k → w.heap.size ≤ k)
    (f4 : ∀ (p q g : Nat), y.gs[p]? = some g → y.gs[q]? = some g → p = q) : RAt w9 B b { r with stores := r.stores ++ [s] } v9 (Y ++ [y]) := by
  have hT : ∀ k cs t m, w.heap[k]? = some (.cells cs t m) → t ≠ TR → t ≠ PS → ¬ (k = b ∨ vS.ownBlock = some k) := fun k cs t m hk h1 h2 e => by
    rcases e with e | e
    · subst e
      rw [show w.heap[k]? = _ from h.blk] at hk
      simp at hk
      exact h1 hk.2.1.symm
    · obtain ⟨cs', hc⟩ := own_ty h.row e
      rw [hc] at hk
      simp at hk
      exact h2 hk.2.1.symm
  have h5 : Kind w (fun k => k = b ∨ vS.ownBlock = some k) := fun k cs hk hc => hT k _ _ _ hc (by decide) (by decide) hk
  have hold : ∀ (i : Nat) (z : SM) (t : St), Y[i]? = some z → r.stores[i]? = some t → StAt w B t z → StAt w9 B t z := fun i z t hz ht hzt =>
    hzt.fr hf h5 (hT _ _ _ _ hzt.blk (by decide) (by decide)) (fun k hk => by obtain ⟨cs, hc⟩ := off_ty hzt.row hk; exact hT _ _ _ _ hc (by decide) (by decide)) (fun g hg => by
      obtain ⟨p, hp⟩ := List.mem_iff_getElem?.1 hg
      obtain ⟨e, vd, -, -, h3⟩ := RAt.en_at hzt hp
      exact hT _ _ _ _ h3.blk (by decide) (by decide))
  have hlt : ∀ (j : Nat) (z : SM), Y[j]? = some z → z.s < w.heap.size ∧ (∀ k, z.vE.ownBlock = some k → k < w.heap.size) ∧ ∀ g ∈ z.gs, g < w.heap.size := fun j z hz => by
    obtain ⟨s, -, h2⟩ := h.at hz
    exact ⟨h2.blk.lt, fun k hk => (h2.row.lt k hk).2, fun g hg => (h2.glt g hg).2⟩
  have hget : ∀ (j : Nat) (z : SM), (Y ++ [y])[j]? = some z → (j = Y.length ∧ z = y) ∨ (j < Y.length ∧ Y[j]? = some z) := fun j z hz => by
    by_cases e : j < Y.length
    · rw [List.getElem?_append_left e] at hz; exact .inr ⟨e, hz⟩
    · rw [List.getElem?_append_right (by omega)] at hz
      have h0 : j - Y.length = 0 := by have := (List.getElem?_eq_some_iff.1 hz).1; simp at this; omega
      rw [h0] at hz
      cases hz
      exact .inl ⟨by omega, rfl⟩
  refine ⟨hk9, by rw [List.length_append, List.map_append]; exact hrow, by rw [List.length_append]; show Y.length + 1 = (r.stores ++ [s]).length; rw [List.length_append, h.yl]; rfl, fun i t hi => ?_, fun j k z u hz hu hne => ?_, fun j k z u p q g hz hu hp hq => ?_, fun j k z u m hz hu hne hm => ?_, h.lo⟩
  · have hi2 : (r.stores ++ [s])[i]? = some t := hi
    by_cases e : i < r.stores.length
    · rw [List.getElem?_append_left e] at hi2
      obtain ⟨z, h1, h2⟩ := h.st i t hi2
      exact ⟨z, by rw [List.getElem?_append_left (by rw [h.yl]; exact e)]; exact h1, hold i z t h1 hi2 h2⟩
    · rw [List.getElem?_append_right (by omega)] at hi2
      have h0 : i - r.stores.length = 0 := by have := (List.getElem?_eq_some_iff.1 hi2).1; simp at this; omega
      rw [h0] at hi2
      cases hi2
      exact ⟨y, by rw [List.getElem?_append_right (by rw [h.yl]; omega), h.yl, h0]; rfl, hst⟩
  · rcases hget j z hz with ⟨rfl, rfl⟩ | ⟨n1, z1⟩ <;> rcases hget k u hu with ⟨rfl, rfl⟩ | ⟨n2, u1⟩
    · exact absurd rfl hne
    · have := (hlt _ _ u1).1; omega
    · have := (hlt _ _ z1).1; omega
    · exact h.nS _ _ _ _ z1 u1 hne
  · rcases hget j z hz with ⟨rfl, rfl⟩ | ⟨n1, z1⟩ <;> rcases hget k u hu with ⟨rfl, rfl⟩ | ⟨n2, u1⟩
    · exact ⟨rfl, f4 p q g hp hq⟩
    · have h1 := (hlt _ _ u1).2.2 g (List.mem_of_getElem? hq); have h2 := f2 g (List.mem_of_getElem? hp); omega
    · have h1 := (hlt _ _ z1).2.2 g (List.mem_of_getElem? hp); have h2 := f2 g (List.mem_of_getElem? hq); omega
    · exact h.nE _ _ _ _ _ _ _ z1 u1 hp hq
  · rcases hget j z hz with ⟨rfl, rfl⟩ | ⟨n1, z1⟩ <;> rcases hget k u hu with ⟨rfl, rfl⟩ | ⟨n2, u1⟩
    · exact absurd rfl hne
    · intro hu2; have h1 := (hlt _ _ u1).2.1 m hu2; have h2 := f3 m hm; omega
    · intro hu2; have h1 := (hlt _ _ z1).2.1 m hm; have h2 := f3 m hu2; omega
    · exact h.nR _ _ _ _ m z1 u1 hne hm
theorem info62 : (Try.prog.info? 62).map (fun i => (i.zero, i.size, i.bytes)) = some (some (.pointer none), 1, 8) := by kernel_rfl
/-- no store yet -/
theorem RAt.empty {w : World} {B b : Nat} (hk : Blk w b TR [.bool true, .int .i64 0, .slice none 0 0]) (hB : B ≤ b) : RAt w B b ⟨0, []⟩ (.slice none 0 0) [] :=
  ⟨hk, World.ownsRow_nil _ _ _ _, rfl, fun i s hi => by simp at hi, fun i j y z hy => by simp at hy, fun i j y z p q g hy => by simp at hy, fun i j y z k hy => by simp at hy, hB⟩
theorem take_st {w : World} {B b k : Nat} {v : Value} {Y : List SM} {ds : List Df} {d : Df} (hd : ds[k]? = some d) (h : RAt w B b { (⟨0, (ds.take k).map Df.st⟩ : RS) with stores := (ds.take k).map Df.st ++ [d.st] } v Y) : RAt w B b ⟨0, (ds.take (k + 1)).map Df.st⟩ v Y := by
  obtain ⟨hlt, rfl⟩ := List.getElem?_eq_some_iff.1 hd
  rw [List.take_succ_eq_append_getElem hlt, List.map_append]
  exact h
/-- behind the append -/
theorem newB {w w8 : World} {B b db : Nat} {r : RS} {vS v8 : Value} {Y : List SM} {d : Df} (h : RAt w B b r vS Y) (hk : Blk w db 29 d.cells) (how : w8.ownsRow B PS 1 v8 (Y.length + 1) (Y.map (fun z => ptr z.s) ++ [ptr w.heap.size]))
    (hg : (((w.alloc (.cells #[.int .i64 d.id, .int .i64 d.room, .int .i64 d.prio, .bool d.circ, .slice none 0 0, .int .i64 0, .int .i64 0] 65)).alloc (.cells #[ptr w.heap.size] 62)).drew).grownBy w8 vS.ownBlock) :
    w8.cell? ⟨b, 2, none⟩ = some vS ∧ w8.frozen? ⟨b, 2, none⟩ = false ∧ b < w8.heap.size ∧ (w8.cell? ⟨db, 0, none⟩ = some (.int .i64 d.id) ∧ w8.cell? ⟨db, 1, none⟩ = some (.int .i64 d.room) ∧ w8.cell? ⟨db, 2, none⟩ = some (.int .i64 d.prio) ∧ w8.cell? ⟨db, 3, none⟩ = some (.bool d.circ)) ∧ ((w8.setCell ⟨b, 2, none⟩ v8).cell? ⟨db, 0, none⟩ = some (.int .i64 d.id) ∧ (w8.setCell ⟨b, 2, none⟩ v8).cell? ⟨db, 1, none⟩ = some (.int .i64 d.room) ∧ (w8.setCell ⟨b, 2, none⟩ v8).cell? ⟨db, 2, none⟩ = some (.int .i64 d.prio) ∧ (w8.setCell ⟨b, 2, none⟩ v8).cell? ⟨db, 3, none⟩ = some (.bool d.circ)) ∧
    Hid (RAt (w8.setCell ⟨b, 2, none⟩ v8) B b { r with stores := r.stores ++ [d.st] } v8 (Y ++ [⟨w.heap.size, .slice none 0 0, [], []⟩])) ∧ Hid (Below B w (w8.setCell ⟨b, 2, none⟩ v8)) := by
  have hB3 : Below w.heap.size w ((w.alloc (.cells #[.int .i64 d.id, .int .i64 d.room, .int .i64 d.prio, .bool d.circ, .slice none 0 0, .int .i64 0, .int .i64 0] 65)).alloc (.cells #[ptr w.heap.size] 62)).drew := (al (al (Below.refl _ _) _) _).trans (Quiet.below ⟨1, rfl⟩)
  have h3 := h.below hB3 (Nat.le_refl _)
  have hBw : B ≤ w.heap.size := Nat.le_trans h.lo (Nat.le_of_lt h.blk.lt)
  have hne : ∀ k xs T, T ≠ PS → Blk w k T xs → vS.ownBlock ≠ some k := fun k xs T hT hk e => by
    obtain ⟨cs', hc'⟩ := own_ty h.row e
    rw [show w.heap[k]? = _ from hk] at hc'
    simp at hc'
    exact hT hc'.2
  have k8 : Blk w8 db 29 d.cells := (hk.below hB3 (Nat.le_refl _)).grown hg (hne _ _ _ (by decide) hk)
  have b8 : Blk w8 b TR _ := h3.blk.grown hg (hne _ _ _ (by decide) h.blk)
  have hsk : Blk ((w.alloc (.cells #[.int .i64 d.id, .int .i64 d.room, .int .i64 d.prio, .bool d.circ, .slice none 0 0, .int .i64 0, .int .i64 0] 65)).alloc (.cells #[ptr w.heap.size] 62)).drew w.heap.size TS [.int .i64 d.id, .int .i64 d.room, .int .i64 d.prio, .bool d.circ, .slice none 0 0, .int .i64 0, .int .i64 0] := ((Blk.new w 65 _).alloc _).drew
  have s8 : Blk w8 w.heap.size TS _ := hsk.grown hg (fun e => by have := (h.row.lt _ e).2; omega)
  have hf8 : Fr (fun k => k = b ∨ vS.ownBlock = some k) w w8 := (Fr.of_below hB3 (Nat.le_refl _)).trans ((Fr.refl _ _).grown hg (fun k hk => .inl (.inr hk)))
  have hf9 : Fr (fun k => k = b) w8 (w8.setCell ⟨b, 2, none⟩ v8) := (Fr.refl _ _).set1 _ (by exact .inl rfl)
  have hff := hf8.trans (hf9.wide (fun k hk => .inl (.inl hk)))
  have hsb : w.heap.size ≠ b := by have := h.blk.lt; omega
  have k9 := k8.setOther (p := ⟨b, 2, none⟩) (fun e => by have e' : b = db := e; subst e'; exact absurd (Blk.ty h.blk hk) (by decide)) v8
  have hv8 : ∀ k, v8.ownBlock = some k → ¬ k = b := fun k hk e => by
    subst e
    obtain ⟨cs', hc'⟩ := own_ty how hk
    exact absurd (b8.kind hc') (by decide)
  refine ⟨b8.at 2 rfl, b8.free 2, b8.lt, ⟨k8.at 0 rfl, k8.at 1 rfl, k8.at 2 rfl, k8.at 3 rfl⟩, ⟨k9.at 0 rfl, k9.at 1 rfl, k9.at 2 rfl, k9.at 3 rfl⟩, Lib.hid (h.addS hff (Blk.cast (b8.setCell 2 v8) rfl) (own_fr how hf9 hv8) ⟨s8.fr hf9 hsb, .inl ⟨rfl, rfl⟩, rfl, rfl, fun j e hj => by simp [Df.st] at hj, hBw⟩ (Nat.le_refl _) (fun g hg => by simp at hg) (fun k hk => by simp [Value.ownBlock] at hk) (fun p q g hp => by simp at hp)), Lib.hid (hff.toBelow hBw (fun k hk => ?_))⟩
  rcases hk with e | e
  · subst e; exact h.lo
  · exact (h.row.lt k e).1
set_option maxRecDepth 20000 in
set_option maxHeartbeats 4000000 in
theorem new_any {w : World} {a : Option Addr} {n cap : Nat} {ds : List Df} (hD : DAt w a ds) (hn : ds.length = n) (hc : n ≤ cap) (hm : cap ≤ maxLen) : Calls Try.prog 9 #[.slice a n cap] w (NewQ ds w) := by
  have HD := Lib.hid hD
  have HN := Lib.hid hn
  clear hD hn
  by_cases hn : 256 < n
  · have e1 : (256 : Int) < (n : Int) := by omega
    go_enter Try.func9, Try.ntmps9
    go_wp2_with fail
    exact bodyPost_ret (v := .tuple #[.pointer none, .int .i64 6]) (by simp [results, Try.results9, go_sem]) rfl ⟨.inl ⟨by rw [HN.out]; exact hn, rfl⟩, Below.refl _ _⟩
  · have e1 : ¬ (256 : Int) < (n : Int) := by omega
    obtain ⟨rb, hrb⟩ : ∃ rb, rb = w.heap.size := ⟨_, rfl⟩
    obtain ⟨w1, hw1⟩ : ∃ w1, w1 = w.alloc (.cells #[.bool true, .int .i64 0, .slice none 0 0] 60) := ⟨_, rfl⟩
    have hB1 : Below w.heap.size w w1 := by rw [hw1]; exact al (Below.refl _ _) _
    have hk1 : Blk w1 rb 60 [.bool true, .int .i64 0, .slice none 0 0] := by rw [hw1, hrb]; exact Blk.new w 60 _
    have HR1 : Hid (RAt w1 w.heap.size rb ⟨0, []⟩ (.slice none 0 0) []) := Lib.hid (RAt.empty hk1 (by rw [hrb]; exact Nat.le_refl _))
    have HB1 := Lib.hid hB1
    have HD1 := Lib.hid (HD.out.low hB1)
    have HRB := Lib.hid hrb
    go_enter Try.func9, Try.ntmps9
    go_upto_region 4 with fail
    rw [← hw1, ← hrb]
    clear hw1 hrb hB1 hk1
    go_wp2_with fail
    go_loopg [14] (n + 1) (fun gk v14 wr => ∃ (k : Nat) (vS : Value) (Y : List SM), k ≤ n ∧ n - k < gk ∧ v14 = .int .i64 (k : Int) ∧ Hid (RAt wr w.heap.size rb ⟨0, (ds.take k).map Df.st⟩ vS Y) ∧ Hid (Below w.heap.size w wr) ∧ Hid (∀ i, i < k → ¬ badD ds i))
    case atStart => exact ⟨0, _, _, Nat.zero_le _, by omega, rfl, HR1, HB1, Lib.hid (fun i hi => absurd hi (Nat.not_lt_zero _))⟩
    case round =>
      obtain ⟨k, vS, Y, hk, hgk, rfl, HR, HB, HG⟩ := hrel
      by_cases hlt : k < n
      · obtain ⟨d, hd⟩ : ∃ d, ds[k]? = some d := ⟨_, List.getElem?_eq_getElem (by rw [HN.out]; exact hlt)⟩
        obtain ⟨bD, oD, rfl, hbD, hcell⟩ : ∃ b off, a = some ⟨b, off, none⟩ ∧ b < w.heap.size ∧ ∀ i (h : i < ds.length), ∀ j, j < 4 → w.cell? ⟨b, off + (i * 4 + j), none⟩ = ds[i].cells[j]? := by
          rcases HD.out with h | h
          · rw [h] at hd; cases hd
          · exact h
        have hkl : k < ds.length := (List.getElem?_eq_some_iff.1 hd).1
        have hde : ds[k] = d := (List.getElem?_eq_some_iff.1 hd).2
        have hg : ∀ j, j < 4 → wr.cell? ⟨bD, oD + (k * 4 + j), none⟩ = d.cells[j]? := fun j hj => (HB.out.cell (p := ⟨bD, _, none⟩) hbD).trans (by rw [hcell k hkl j hj, hde])
        obtain ⟨di, hdi⟩ : ∃ x, x = d.id := ⟨_, rfl⟩
        obtain ⟨dr, hdr⟩ : ∃ x, x = d.room := ⟨_, rfl⟩
        obtain ⟨dp, hdp⟩ : ∃ x, x = d.prio := ⟨_, rfl⟩
        obtain ⟨dc, hdc⟩ : ∃ x, x = d.circ := ⟨_, rfl⟩
        have c0 : wr.cell? ⟨bD, oD + k * 4, none⟩ = some (.int .i64 di) := (hg 0 (by omega)).trans (by rw [hdi]; rfl)
        have c1 : wr.cell? ⟨bD, oD + k * 4 + 1, none⟩ = some (.int .i64 dr) := by rw [hdr, Nat.add_assoc]; exact hg 1 (by omega)
        have c2 : wr.cell? ⟨bD, oD + k * 4 + 2, none⟩ = some (.int .i64 dp) := by rw [hdp, Nat.add_assoc]; exact hg 2 (by omega)
        have c3 : wr.cell? ⟨bD, oD + k * 4 + 3, none⟩ = some (.bool dc) := by rw [hdc, Nat.add_assoc]; exact hg 3 (by omega)
        have HCL := Lib.hid hcell
        have HD0 := Lib.hid hd
        have HDI := Lib.hid hdi
        have HDR := Lib.hid hdr
        have HDP := Lib.hid hdp
        have HDC := Lib.hid hdc
        have e2 : (k : Int) < (n : Int) := by omega
        clear hcell hkl hde hg hd hdi hdr hdp hdc
        go_upto_region 7 with fail
        obtain ⟨db, hdb⟩ : ∃ x, x = wr.heap.size := ⟨_, rfl⟩
        obtain ⟨w2, hw2⟩ : ∃ x, x = wr.alloc (.cells #[.int .i64 di, .int .i64 dr, .int .i64 dp, .bool dc] 29) := ⟨_, rfl⟩
        have hB2 : Below wr.heap.size wr w2 := by rw [hw2]; exact al (Below.refl _ _) _
        have hK2 : Blk w2 db 29 [.int .i64 di, .int .i64 dr, .int .i64 dp, .bool dc] := by rw [hw2, hdb]; exact Blk.new wr 29 _
        have HB2 : Hid (Below w.heap.size w w2) := Lib.hid (HB.out.trans (hB2.mono HB.out.size))
        have HR2 := Lib.hid (HR.out.below hB2 (Nat.le_refl _))
        have c0 := hK2.at 0 rfl
        have c1 := hK2.at 1 rfl
        have c2 := hK2.at 2 rfl
        have c3 := hK2.at 3 rfl
        have cl := hK2.lt
        have HK2 := Lib.hid hK2
        have HNN : Hid (n ≤ 256) := Lib.hid (by omega)
        rw [← hw2, ← hdb]
        have HDB := Lib.hid hdb
        clear hw2 hdb hB2 hK2
        by_cases q1 : di < 0
        · have p1 : decide (di < 0) = true := decide_eq_true q1
          go_wp2_with (go_quiet (fail))
          exact bodyPost_ret (v := .tuple #[.pointer none, .int .i64 1]) (by simp [results, Try.results9, go_sem]) rfl ⟨.inr (.inl ⟨by rw [HN.out]; exact HNN.out, ⟨_, d, HD0.out, (.inl (by rw [← HDI.out]; exact q1))⟩, rfl⟩), HB2.out.trans (Quiet.below ⟨_, rfl⟩)⟩
        have p1 : decide (di < 0) = false := decide_eq_false q1
        by_cases q2 : 65535 < di
        · have p2 : decide (65535 < di) = true := decide_eq_true q2
          go_wp2_with (go_quiet (fail))
          exact bodyPost_ret (v := .tuple #[.pointer none, .int .i64 1]) (by simp [results, Try.results9, go_sem]) rfl ⟨.inr (.inl ⟨by rw [HN.out]; exact HNN.out, ⟨_, d, HD0.out, (.inr (.inl (by rw [← HDI.out]; exact q2)))⟩, rfl⟩), HB2.out.trans (Quiet.below ⟨_, rfl⟩)⟩
        have p2 : decide (65535 < di) = false := decide_eq_false q2
        cases k with
        | zero =>
          have HPV : Hid (¬ ∃ p, 0 < 0 ∧ ds[0 - 1]? = some p ∧ d.id ≤ p.id) := Lib.hid (fun ⟨p, h9, _⟩ => absurd h9 (by decide))
          by_cases q4 : dr < 0
          · have p4 : decide (dr < 0) = true := decide_eq_true q4
            go_wp2_with (go_quiet (fail))
            exact bodyPost_ret (v := .tuple #[.pointer none, .int .i64 1]) (by simp [results, Try.results9, go_sem]) rfl ⟨.inr (.inl ⟨by rw [HN.out]; exact HNN.out, ⟨_, d, HD0.out, (.inr (.inr (.inr (.inl (by rw [← HDR.out]; exact q4)))))⟩, rfl⟩), HB2.out.trans (Quiet.below ⟨_, rfl⟩)⟩
          have p4 : decide (dr < 0) = false := decide_eq_false q4
          by_cases q5 : 2147483648 < dr
          · have p5 : decide (2147483648 < dr) = true := decide_eq_true q5
            go_wp2_with (go_quiet (fail))
            exact bodyPost_ret (v := .tuple #[.pointer none, .int .i64 1]) (by simp [results, Try.results9, go_sem]) rfl ⟨.inr (.inl ⟨by rw [HN.out]; exact HNN.out, ⟨_, d, HD0.out, (.inr (.inr (.inr (.inr (.inl (by rw [← HDR.out]; exact q5))))))⟩, rfl⟩), HB2.out.trans (Quiet.below ⟨_, rfl⟩)⟩
          have p5 : decide (2147483648 < dr) = false := decide_eq_false q5
          by_cases q6 : dp < 0
          · have p6 : decide (dp < 0) = true := decide_eq_true q6
            go_wp2_with (go_quiet (fail))
            exact bodyPost_ret (v := .tuple #[.pointer none, .int .i64 1]) (by simp [results, Try.results9, go_sem]) rfl ⟨.inr (.inl ⟨by rw [HN.out]; exact HNN.out, ⟨_, d, HD0.out, (.inr (.inr (.inr (.inr (.inr (.inl (by rw [← HDP.out]; exact q6)))))))⟩, rfl⟩), HB2.out.trans (Quiet.below ⟨_, rfl⟩)⟩
          have p6 : decide (dp < 0) = false := decide_eq_false q6
          by_cases q7 : 15 < dp
          · have p7 : decide (15 < dp) = true := decide_eq_true q7
            go_wp2_with (go_quiet (fail))
            exact bodyPost_ret (v := .tuple #[.pointer none, .int .i64 1]) (by simp [results, Try.results9, go_sem]) rfl ⟨.inr (.inl ⟨by rw [HN.out]; exact HNN.out, ⟨_, d, HD0.out, (.inr (.inr (.inr (.inr (.inr (.inr (by rw [← HDP.out]; exact q7)))))))⟩, rfl⟩), HB2.out.trans (Quiet.below ⟨_, rfl⟩)⟩
          have p7 : decide (15 < dp) = false := decide_eq_false q7
          go_upto_region 9 with (go_quiet (fail))
          obtain ⟨wq, hwq⟩ : ∃ x, x = w2.drewN nq := ⟨_, rfl⟩
          have hq : Quiet w2 wq := ⟨nq, hwq⟩
          rw [← hwq]
          clear hwq
          obtain ⟨aS, mS, cS, rfl⟩ := own_slice HR2.out.row
          have hrq := HR2.out.quiet hq
          have HBq : Hid (Below w.heap.size w wq) := Lib.hid (HB2.out.trans hq.below)
          have HRq := Lib.hid hrq
          have HRd : Hid (RAt wq.drew w.heap.size rb _ _ Y) := Lib.hid (hrq.quiet ⟨1, rfl⟩)
          have HKq : Hid (Blk wq db 29 d.cells) := Lib.hid (by
            have h9 := HK2.out.quiet hq
            rw [HDI.out, HDR.out, HDP.out, HDC.out] at h9
            exact h9)
          have c4 := hrq.blk.at 2 rfl
          have f4 := hrq.blk.free 2
          have cl4 := hrq.blk.lt
          have d0 := (HK2.out.quiet hq).at 0 rfl
          have d1 := (HK2.out.quiet hq).at 1 rfl
          have d2 := (HK2.out.quiet hq).at 2 rfl
          have d3 := (HK2.out.quiet hq).at 3 rfl
          have dl := (HK2.out.quiet hq).lt
          clear c0 c1 c2 c3 cl hrq hq
          obtain ⟨j1, hj1, hz0, hz1, hz2⟩ := info_parts info62
          have HJ1 := Lib.hid hj1
          have HYL : Hid (Y.length ≤ 256) := Lib.hid (by have h9 := HR2.out.yl; rw [h9]; simp only [List.length_map, List.length_take]; have := HNN.out; have := HN.out; omega)
          clear hj1
          refine wp_region_held_drew (S := (fun w' => w'.cell? ⟨db, 0, none⟩ = some (.int .i64 di) ∧ w'.cell? ⟨db, 1, none⟩ = some (.int .i64 dr) ∧ w'.cell? ⟨db, 2, none⟩ = some (.int .i64 dp) ∧ w'.cell? ⟨db, 3, none⟩ = some (.bool dc))) (by kernel_rfl) (by (try dsimp only); (first | exact ⟨by assumption, by assumption, by assumption, by assumption⟩ | go_keep)) (fun hHeld => ?_)
          refine wpAnyH_take (i := 0) (oi := (Oper.mk (some 62) (Op.move (Operand.tmp 4)) 24 "recorder.go:70" #[] none)) (v := ?_) rfl (by kernel_rfl) (by kernel_rfl) (by kernel_rfl) (fun _ _ _ h => h) (Or.inl ⟨by rfl, ?_⟩) (by assumption) ?_
          rotate_left
          · (intro w hSw; (try dsimp only at hSw); go_simp; first | done | with_reducible rfl)
          (try simp only [Act.put, List.setIfInBounds_toArray, List.set_cons_zero, List.set_cons_succ])
          refine wpAnyH_take (i := 1) (oi := (Oper.mk (some 63) (Op.move (Operand.tmp 4)) 24 "recorder.go:70" #[] none)) (v := ?_) rfl (by kernel_rfl) (by kernel_rfl) (by kernel_rfl) (fun _ _ _ h => h) (Or.inl ⟨by rfl, ?_⟩) (by assumption) ?_
          rotate_left
          · (intro w hSw; (try dsimp only at hSw); go_simp; first | done | with_reducible rfl)
          (try simp only [Act.put, List.setIfInBounds_toArray, List.set_cons_zero, List.set_cons_succ])
          refine wpAnyH_take (i := 2) (oi := (Oper.mk (some 64) (Op.nilCheck (Operand.tmp 63)) 0 "recorder.go:70" #[Edge.mk 1 Ground.data] none)) (v := ?_) rfl (by kernel_rfl) (by kernel_rfl) (by kernel_rfl) (fun _ _ _ h => h) (Or.inl ⟨by rfl, ?_⟩) (by assumption) ?_
          rotate_left
          · (intro w hSw; (try dsimp only at hSw); go_simp; first | done | with_reducible rfl)
          (try simp only [Act.put, List.setIfInBounds_toArray, List.set_cons_zero, List.set_cons_succ])
          refine wpAnyH_take (i := 3) (oi := (Oper.mk (some 65) (Op.fieldAddr 60 (Operand.tmp 64) 2) 0 "recorder.go:70" #[Edge.mk 2 Ground.data] none)) (v := ?_) rfl (by kernel_rfl) (by kernel_rfl) (by kernel_rfl) (fun _ _ _ h => h) (Or.inl ⟨by rfl, ?_⟩) (by assumption) ?_
          rotate_left
          · (intro w hSw; (try dsimp only at hSw); go_simp; first | done | with_reducible rfl)
          (try simp only [Act.put, List.setIfInBounds_toArray, List.set_cons_zero, List.set_cons_succ])
          refine wpAnyH_take (i := 5) (oi := (Oper.mk (some 67) (Op.load 29 (Operand.tmp 6)) 29 "recorder.go:70" #[] none)) (v := ?_) rfl (by kernel_rfl) (by kernel_rfl) (by kernel_rfl) (fun _ _ _ h => h) (Or.inl ⟨by rfl, ?_⟩) (by assumption) ?_
          rotate_left
          · (intro w hSw; (try dsimp only at hSw); go_simp; first | done | with_reducible rfl)
          (try simp only [Act.put, List.setIfInBounds_toArray, List.set_cons_zero, List.set_cons_succ])
          refine wpAnyH_take (i := 6) (oi := (Oper.mk (some 68) (Op.build 65 #[(0, Operand.tmp 67)]) 65 "recorder.go:70" #[Edge.mk 5 Ground.data] none)) (v := ?_) rfl (by kernel_rfl) (by kernel_rfl) (by kernel_rfl) (fun _ _ _ h => h) (Or.inl ⟨by rfl, ?_⟩) (by assumption) ?_
          rotate_left
          · (intro w hSw; (try dsimp only at hSw); go_simp; first | done | with_reducible rfl)
          (try simp only [Act.put, List.setIfInBounds_toArray, List.set_cons_zero, List.set_cons_succ])
          refine wpAnyH_ready (rs := [4, 7]) (by kernel_rfl) (by simp) ?_
          refine AllReadyH.cons (o := (Oper.mk (some 66) (Op.load 58 (Operand.tmp 65)) 58 "recorder.go:70" #[Edge.mk 3 Ground.data] none)) rfl (fun K hK => ?st4ta1fax7) (AllReadyH.cons (o := (Oper.mk (some 69) (Op.box 65 (Operand.tmp 68)) 62 "recorder.go:70" #[Edge.mk 6 Ground.data] none)) rfl (fun K hK => ?st7ta1fax7) (AllReadyH.nil))
          case' st4ta1fax7 =>
            go_simp
            skip
            refine hK.out _ _ (by (try dsimp only); (first | exact ⟨by assumption, by assumption, by assumption, by assumption⟩ | go_keep)) (fun hHeld => ?_)
            clear hK K
            (try simp only [Act.put, List.setIfInBounds_toArray, List.set_cons_zero, List.set_cons_succ])
            refine wpAnyH_ready (rs := [7]) (by kernel_rfl) (by simp) ?_
            refine AllReadyH.cons (o := (Oper.mk (some 69) (Op.box 65 (Operand.tmp 68)) 62 "recorder.go:70" #[Edge.mk 6 Ground.data] none)) rfl (fun K hK => ?_) (AllReadyH.nil)
            go_simp
            skip
            refine hK.out _ _ (by (try dsimp only); (first | exact ⟨by assumption, by assumption, by assumption, by assumption⟩ | go_keep)) (fun hHeld => ?_)
            clear hK K
            (try simp only [Act.put, List.setIfInBounds_toArray, List.set_cons_zero, List.set_cons_succ])
            refine wpAnyH_ready (rs := [8]) (by kernel_rfl) (by simp) ?_
            refine AllReadyH.cons (o := (Oper.mk (some 70) (Op.buildSlice 58 1 #[(0, Operand.tmp 69)]) 58 "recorder.go:70" #[Edge.mk 7 Ground.data] none)) rfl (fun K hK => ?_) (AllReadyH.nil)
            go_simp
            skip
            refine hK.out _ _ (by (try dsimp only); (first | exact ⟨by assumption, by assumption, by assumption, by assumption⟩ | go_keep)) (fun hHeld => ?_)
            clear hK K
            (try simp only [Act.put, List.setIfInBounds_toArray, List.set_cons_zero, List.set_cons_succ])
            refine wpAnyH_ready (rs := [9]) (by kernel_rfl) (by simp) ?_
            refine AllReadyH.cons (o := (Oper.mk (some 71) (Op.call (Call.mk (Callee.builtin Builtin.append) #[Operand.tmp 66, Operand.tmp 70] #[58, 58])) 58 "recorder.go:70" #[Edge.mk 4 Ground.data, Edge.mk 8 Ground.data] none)) rfl (fun K hK => ?_) (AllReadyH.nil)
            (refine step_append_src _ (by rfl) (.tmp 66) (.tmp 70) 58 (by rfl) w.heap.size 62 j1 (.pointer none) 8 Try.underlying58 HJ1.out hz0 hz1 hz2 (by rfl) _ Y.length (Y.map fun z => ptr z.s) (by rfl) (own_below HRd.out.row (al (al (Below.refl _ _) _) _) (Nat.le_refl _)) (some ⟨wq.drew.heap.size + 1, 0, none⟩) 1 1 [ptr wq.drew.heap.size] (by rfl) (by rfl) (one_vat2 wq.drew _ _ 62) (by intro u hu; rw [List.mem_singleton] at hu; subst hu; rfl) (by have h9 := HYL.out; unfold maxLen; omega) (by have h9 := HYL.out; omega) (Nat.le_trans HBq.out.size (al (al (Below.refl wq.drew.heap.size wq.drew) _) _).size) ?_; intro v8 w8 hown8 hgrow8 hblk8; obtain ⟨a8, n8, c8, rfl⟩ := own_slice hown8; obtain ⟨c4, f4, cl4, ⟨d0, d1, d2, d3⟩, ⟨g0, g1, g2, g3⟩, HR9, HB9⟩ := newB HRq.out HKq.out hown8 (by rw [← HDI.out, ← HDR.out, ← HDP.out, ← HDC.out]; exact hgrow8); rw [← HDI.out] at d0 g0; rw [← HDR.out] at d1 g1; rw [← HDP.out] at d2 g2; rw [← HDC.out] at d3 g3; clear hown8 hgrow8 hblk8)
            refine hK.out _ _ (by (try dsimp only); (first | exact ⟨by assumption, by assumption, by assumption, by assumption⟩ | go_keep)) (fun hHeld => ?_)
            clear hK K
            (try simp only [Act.put, List.setIfInBounds_toArray, List.set_cons_zero, List.set_cons_succ])
            refine wpAnyH_take (i := 10) (oi := (Oper.mk (some 72) (Op.nilCheck (Operand.tmp 62)) 0 "recorder.go:70" #[Edge.mk 0 Ground.data, Edge.mk 0 Ground.phase, Edge.mk 1 Ground.phase, Edge.mk 2 Ground.phase, Edge.mk 3 Ground.phase, Edge.mk 4 Ground.phase, Edge.mk 5 Ground.phase, Edge.mk 6 Ground.phase, Edge.mk 7 Ground.phase, Edge.mk 8 Ground.phase, Edge.mk 9 Ground.phase] none)) (v := ?_) rfl (by kernel_rfl) (by kernel_rfl) (by kernel_rfl) (fun _ _ _ h => h) (Or.inl ⟨by rfl, ?_⟩) (by assumption) ?_
            rotate_left
            · (intro w hSw; (try dsimp only at hSw); go_simp; first | done | with_reducible rfl)
            (try simp only [Act.put, List.setIfInBounds_toArray, List.set_cons_zero, List.set_cons_succ])
            refine wpAnyH_take (i := 11) (oi := (Oper.mk (some 73) (Op.fieldAddr 60 (Operand.tmp 72) 2) 0 "recorder.go:70" #[Edge.mk 10 Ground.data, Edge.mk 0 Ground.phase, Edge.mk 1 Ground.phase, Edge.mk 2 Ground.phase, Edge.mk 3 Ground.phase, Edge.mk 4 Ground.phase, Edge.mk 5 Ground.phase, Edge.mk 6 Ground.phase, Edge.mk 7 Ground.phase, Edge.mk 8 Ground.phase, Edge.mk 9 Ground.phase] none)) (v := ?_) rfl (by kernel_rfl) (by kernel_rfl) (by kernel_rfl) (fun _ _ _ h => h) (Or.inl ⟨by rfl, ?_⟩) (by assumption) ?_
            rotate_left
            · (intro w hSw; (try dsimp only at hSw); go_simp; first | done | with_reducible rfl)
            (try simp only [Act.put, List.setIfInBounds_toArray, List.set_cons_zero, List.set_cons_succ])
            refine wpAnyH_ready (rs := [12]) (by kernel_rfl) (by simp) ?_
            refine AllReadyH.cons (o := (Oper.mk none (Op.store 58 (Operand.tmp 73) (Operand.tmp 71)) 0 "recorder.go:70" #[Edge.mk 11 Ground.data, Edge.mk 9 Ground.data, Edge.mk 9 Ground.chain, Edge.mk 0 Ground.phase, Edge.mk 1 Ground.phase, Edge.mk 2 Ground.phase, Edge.mk 3 Ground.phase, Edge.mk 4 Ground.phase, Edge.mk 5 Ground.phase, Edge.mk 6 Ground.phase, Edge.mk 7 Ground.phase, Edge.mk 8 Ground.phase, Edge.mk 9 Ground.phase] none)) rfl (fun K hK => ?_) (AllReadyH.nil)
            go_simp
            skip
            refine hK.out _ _ (by (try dsimp only); (first | exact ⟨by assumption, by assumption, by assumption, by assumption⟩ | go_keep)) (fun hHeld => ?_)
            clear hK K
            (try simp only [Act.put, List.setIfInBounds_toArray, List.set_cons_zero, List.set_cons_succ])
            refine wpAnyH_done (by kernel_rfl) ?_ _
          case' st7ta1fax7 =>
            go_simp
            skip
            refine hK.out _ _ (by (try dsimp only); (first | exact ⟨by assumption, by assumption, by assumption, by assumption⟩ | go_keep)) (fun hHeld => ?_)
            clear hK K
            (try simp only [Act.put, List.setIfInBounds_toArray, List.set_cons_zero, List.set_cons_succ])
            refine wpAnyH_ready (rs := [4, 8]) (by kernel_rfl) (by simp) ?_
            refine AllReadyH.cons (o := (Oper.mk (some 66) (Op.load 58 (Operand.tmp 65)) 58 "recorder.go:70" #[Edge.mk 3 Ground.data] none)) rfl (fun K hK => ?st4ta1fax14) (AllReadyH.cons (o := (Oper.mk (some 70) (Op.buildSlice 58 1 #[(0, Operand.tmp 69)]) 58 "recorder.go:70" #[Edge.mk 7 Ground.data] none)) rfl (fun K hK => ?st8ta1fax14) (AllReadyH.nil))
            case' st4ta1fax14 =>
              go_simp
              skip
              refine hK.out _ _ (by (try dsimp only); (first | exact ⟨by assumption, by assumption, by assumption, by assumption⟩ | go_keep)) (fun hHeld => ?_)
              clear hK K
              (try simp only [Act.put, List.setIfInBounds_toArray, List.set_cons_zero, List.set_cons_succ])
              refine wpAnyH_ready (rs := [8]) (by kernel_rfl) (by simp) ?_
              refine AllReadyH.cons (o := (Oper.mk (some 70) (Op.buildSlice 58 1 #[(0, Operand.tmp 69)]) 58 "recorder.go:70" #[Edge.mk 7 Ground.data] none)) rfl (fun K hK => ?_) (AllReadyH.nil)
              go_simp
              skip
              refine hK.out _ _ (by (try dsimp only); (first | exact ⟨by assumption, by assumption, by assumption, by assumption⟩ | go_keep)) (fun hHeld => ?_)
              clear hK K
              (try simp only [Act.put, List.setIfInBounds_toArray, List.set_cons_zero, List.set_cons_succ])
              refine wpAnyH_ready (rs := [9]) (by kernel_rfl) (by simp) ?_
              refine AllReadyH.cons (o := (Oper.mk (some 71) (Op.call (Call.mk (Callee.builtin Builtin.append) #[Operand.tmp 66, Operand.tmp 70] #[58, 58])) 58 "recorder.go:70" #[Edge.mk 4 Ground.data, Edge.mk 8 Ground.data] none)) rfl (fun K hK => ?_) (AllReadyH.nil)
              (refine step_append_src _ (by rfl) (.tmp 66) (.tmp 70) 58 (by rfl) w.heap.size 62 j1 (.pointer none) 8 Try.underlying58 HJ1.out hz0 hz1 hz2 (by rfl) _ Y.length (Y.map fun z => ptr z.s) (by rfl) (own_below HRd.out.row (al (al (Below.refl _ _) _) _) (Nat.le_refl _)) (some ⟨wq.drew.heap.size + 1, 0, none⟩) 1 1 [ptr wq.drew.heap.size] (by rfl) (by rfl) (one_vat2 wq.drew _ _ 62) (by intro u hu; rw [List.mem_singleton] at hu; subst hu; rfl) (by have h9 := HYL.out; unfold maxLen; omega) (by have h9 := HYL.out; omega) (Nat.le_trans HBq.out.size (al (al (Below.refl wq.drew.heap.size wq.drew) _) _).size) ?_; intro v8 w8 hown8 hgrow8 hblk8; obtain ⟨a8, n8, c8, rfl⟩ := own_slice hown8; obtain ⟨c4, f4, cl4, ⟨d0, d1, d2, d3⟩, ⟨g0, g1, g2, g3⟩, HR9, HB9⟩ := newB HRq.out HKq.out hown8 (by rw [← HDI.out, ← HDR.out, ← HDP.out, ← HDC.out]; exact hgrow8); rw [← HDI.out] at d0 g0; rw [← HDR.out] at d1 g1; rw [← HDP.out] at d2 g2; rw [← HDC.out] at d3 g3; clear hown8 hgrow8 hblk8)
              refine hK.out _ _ (by (try dsimp only); (first | exact ⟨by assumption, by assumption, by assumption, by assumption⟩ | go_keep)) (fun hHeld => ?_)
              clear hK K
              (try simp only [Act.put, List.setIfInBounds_toArray, List.set_cons_zero, List.set_cons_succ])
              refine wpAnyH_take (i := 10) (oi := (Oper.mk (some 72) (Op.nilCheck (Operand.tmp 62)) 0 "recorder.go:70" #[Edge.mk 0 Ground.data, Edge.mk 0 Ground.phase, Edge.mk 1 Ground.phase, Edge.mk 2 Ground.phase, Edge.mk 3 Ground.phase, Edge.mk 4 Ground.phase, Edge.mk 5 Ground.phase, Edge.mk 6 Ground.phase, Edge.mk 7 Ground.phase, Edge.mk 8 Ground.phase, Edge.mk 9 Ground.phase] none)) (v := ?_) rfl (by kernel_rfl) (by kernel_rfl) (by kernel_rfl) (fun _ _ _ h => h) (Or.inl ⟨by rfl, ?_⟩) (by assumption) ?_
              rotate_left
              · (intro w hSw; (try dsimp only at hSw); go_simp; first | done | with_reducible rfl)
              (try simp only [Act.put, List.setIfInBounds_toArray, List.set_cons_zero, List.set_cons_succ])
              refine wpAnyH_take (i := 11) (oi := (Oper.mk (some 73) (Op.fieldAddr 60 (Operand.tmp 72) 2) 0 "recorder.go:70" #[Edge.mk 10 Ground.data, Edge.mk 0 Ground.phase, Edge.mk 1 Ground.phase, Edge.mk 2 Ground.phase, Edge.mk 3 Ground.phase, Edge.mk 4 Ground.phase, Edge.mk 5 Ground.phase, Edge.mk 6 Ground.phase, Edge.mk 7 Ground.phase, Edge.mk 8 Ground.phase, Edge.mk 9 Ground.phase] none)) (v := ?_) rfl (by kernel_rfl) (by kernel_rfl) (by kernel_rfl) (fun _ _ _ h => h) (Or.inl ⟨by rfl, ?_⟩) (by assumption) ?_
              rotate_left
              · (intro w hSw; (try dsimp only at hSw); go_simp; first | done | with_reducible rfl)
              (try simp only [Act.put, List.setIfInBounds_toArray, List.set_cons_zero, List.set_cons_succ])
              refine wpAnyH_ready (rs := [12]) (by kernel_rfl) (by simp) ?_
              refine AllReadyH.cons (o := (Oper.mk none (Op.store 58 (Operand.tmp 73) (Operand.tmp 71)) 0 "recorder.go:70" #[Edge.mk 11 Ground.data, Edge.mk 9 Ground.data, Edge.mk 9 Ground.chain, Edge.mk 0 Ground.phase, Edge.mk 1 Ground.phase, Edge.mk 2 Ground.phase, Edge.mk 3 Ground.phase, Edge.mk 4 Ground.phase, Edge.mk 5 Ground.phase, Edge.mk 6 Ground.phase, Edge.mk 7 Ground.phase, Edge.mk 8 Ground.phase, Edge.mk 9 Ground.phase] none)) rfl (fun K hK => ?_) (AllReadyH.nil)
              go_simp
              skip
              refine hK.out _ _ (by (try dsimp only); (first | exact ⟨by assumption, by assumption, by assumption, by assumption⟩ | go_keep)) (fun hHeld => ?_)
              clear hK K
              (try simp only [Act.put, List.setIfInBounds_toArray, List.set_cons_zero, List.set_cons_succ])
              refine wpAnyH_done (by kernel_rfl) ?_ _
            case' st8ta1fax14 =>
              go_simp
              skip
              refine hK.out _ _ (by (try dsimp only); (first | exact ⟨by assumption, by assumption, by assumption, by assumption⟩ | go_keep)) (fun hHeld => ?_)
              clear hK K
              (try simp only [Act.put, List.setIfInBounds_toArray, List.set_cons_zero, List.set_cons_succ])
              refine wpAnyH_ready (rs := [4]) (by kernel_rfl) (by simp) ?_
              refine AllReadyH.cons (o := (Oper.mk (some 66) (Op.load 58 (Operand.tmp 65)) 58 "recorder.go:70" #[Edge.mk 3 Ground.data] none)) rfl (fun K hK => ?_) (AllReadyH.nil)
              go_simp
              skip
              refine hK.out _ _ (by (try dsimp only); (first | exact ⟨by assumption, by assumption, by assumption, by assumption⟩ | go_keep)) (fun hHeld => ?_)
              clear hK K
              (try simp only [Act.put, List.setIfInBounds_toArray, List.set_cons_zero, List.set_cons_succ])
              refine wpAnyH_ready (rs := [9]) (by kernel_rfl) (by simp) ?_
              refine AllReadyH.cons (o := (Oper.mk (some 71) (Op.call (Call.mk (Callee.builtin Builtin.append) #[Operand.tmp 66, Operand.tmp 70] #[58, 58])) 58 "recorder.go:70" #[Edge.mk 4 Ground.data, Edge.mk 8 Ground.data] none)) rfl (fun K hK => ?_) (AllReadyH.nil)
              (refine step_append_src _ (by rfl) (.tmp 66) (.tmp 70) 58 (by rfl) w.heap.size 62 j1 (.pointer none) 8 Try.underlying58 HJ1.out hz0 hz1 hz2 (by rfl) _ Y.length (Y.map fun z => ptr z.s) (by rfl) (own_below HRd.out.row (al (al (Below.refl _ _) _) _) (Nat.le_refl _)) (some ⟨wq.drew.heap.size + 1, 0, none⟩) 1 1 [ptr wq.drew.heap.size] (by rfl) (by rfl) (one_vat2 wq.drew _ _ 62) (by intro u hu; rw [List.mem_singleton] at hu; subst hu; rfl) (by have h9 := HYL.out; unfold maxLen; omega) (by have h9 := HYL.out; omega) (Nat.le_trans HBq.out.size (al (al (Below.refl wq.drew.heap.size wq.drew) _) _).size) ?_; intro v8 w8 hown8 hgrow8 hblk8; obtain ⟨a8, n8, c8, rfl⟩ := own_slice hown8; obtain ⟨c4, f4, cl4, ⟨d0, d1, d2, d3⟩, ⟨g0, g1, g2, g3⟩, HR9, HB9⟩ := newB HRq.out HKq.out hown8 (by rw [← HDI.out, ← HDR.out, ← HDP.out, ← HDC.out]; exact hgrow8); rw [← HDI.out] at d0 g0; rw [← HDR.out] at d1 g1; rw [← HDP.out] at d2 g2; rw [← HDC.out] at d3 g3; clear hown8 hgrow8 hblk8)
              refine hK.out _ _ (by (try dsimp only); (first | exact ⟨by assumption, by assumption, by assumption, by assumption⟩ | go_keep)) (fun hHeld => ?_)
              clear hK K
              (try simp only [Act.put, List.setIfInBounds_toArray, List.set_cons_zero, List.set_cons_succ])
              refine wpAnyH_take (i := 10) (oi := (Oper.mk (some 72) (Op.nilCheck (Operand.tmp 62)) 0 "recorder.go:70" #[Edge.mk 0 Ground.data, Edge.mk 0 Ground.phase, Edge.mk 1 Ground.phase, Edge.mk 2 Ground.phase, Edge.mk 3 Ground.phase, Edge.mk 4 Ground.phase, Edge.mk 5 Ground.phase, Edge.mk 6 Ground.phase, Edge.mk 7 Ground.phase, Edge.mk 8 Ground.phase, Edge.mk 9 Ground.phase] none)) (v := ?_) rfl (by kernel_rfl) (by kernel_rfl) (by kernel_rfl) (fun _ _ _ h => h) (Or.inl ⟨by rfl, ?_⟩) (by assumption) ?_
              rotate_left
              · (intro w hSw; (try dsimp only at hSw); go_simp; first | done | with_reducible rfl)
              (try simp only [Act.put, List.setIfInBounds_toArray, List.set_cons_zero, List.set_cons_succ])
              refine wpAnyH_take (i := 11) (oi := (Oper.mk (some 73) (Op.fieldAddr 60 (Operand.tmp 72) 2) 0 "recorder.go:70" #[Edge.mk 10 Ground.data, Edge.mk 0 Ground.phase, Edge.mk 1 Ground.phase, Edge.mk 2 Ground.phase, Edge.mk 3 Ground.phase, Edge.mk 4 Ground.phase, Edge.mk 5 Ground.phase, Edge.mk 6 Ground.phase, Edge.mk 7 Ground.phase, Edge.mk 8 Ground.phase, Edge.mk 9 Ground.phase] none)) (v := ?_) rfl (by kernel_rfl) (by kernel_rfl) (by kernel_rfl) (fun _ _ _ h => h) (Or.inl ⟨by rfl, ?_⟩) (by assumption) ?_
              rotate_left
              · (intro w hSw; (try dsimp only at hSw); go_simp; first | done | with_reducible rfl)
              (try simp only [Act.put, List.setIfInBounds_toArray, List.set_cons_zero, List.set_cons_succ])
              refine wpAnyH_ready (rs := [12]) (by kernel_rfl) (by simp) ?_
              refine AllReadyH.cons (o := (Oper.mk none (Op.store 58 (Operand.tmp 73) (Operand.tmp 71)) 0 "recorder.go:70" #[Edge.mk 11 Ground.data, Edge.mk 9 Ground.data, Edge.mk 9 Ground.chain, Edge.mk 0 Ground.phase, Edge.mk 1 Ground.phase, Edge.mk 2 Ground.phase, Edge.mk 3 Ground.phase, Edge.mk 4 Ground.phase, Edge.mk 5 Ground.phase, Edge.mk 6 Ground.phase, Edge.mk 7 Ground.phase, Edge.mk 8 Ground.phase, Edge.mk 9 Ground.phase] none)) rfl (fun K hK => ?_) (AllReadyH.nil)
              go_simp
              skip
              refine hK.out _ _ (by (try dsimp only); (first | exact ⟨by assumption, by assumption, by assumption, by assumption⟩ | go_keep)) (fun hHeld => ?_)
              clear hK K
              (try simp only [Act.put, List.setIfInBounds_toArray, List.set_cons_zero, List.set_cons_succ])
              refine wpAnyH_done (by kernel_rfl) ?_ _
          all_goals
            go_wp2_with fail
            go_roundg (gk - 1)
            case rel => exact ⟨0 + 1, _, _, by omega, by omega, by go_num, Lib.hid (take_st HD0.out HR9.out), Lib.hid (HBq.out.trans HB9.out), Lib.hid (fun i hi hb => by
              by_cases hik : i < 0
              · exact HG.out i hik hb
              · obtain rfl : i = 0 := by omega
                obtain ⟨d', h1, h2⟩ := hb
                rw [HD0.out] at h1
                cases h1
                rw [HDI.out] at q1 q2
                rw [HDR.out] at q4 q5
                rw [HDP.out] at q6 q7
                rcases h2 with h2 | h2 | h2 | h2 | h2 | h2 | h2
                · omega
                · omega
                · exact HPV.out h2
                · omega
                · omega
                · omega
                · omega)⟩
            case measure => omega
        | succ kp =>
          obtain ⟨dq, hdq⟩ : ∃ d, ds[kp]? = some d := ⟨_, List.getElem?_eq_getElem (by rw [HN.out]; omega)⟩
          have hkl : kp < ds.length := (List.getElem?_eq_some_iff.1 hdq).1
          have hde : ds[kp] = dq := (List.getElem?_eq_some_iff.1 hdq).2
          obtain ⟨dj, hdj⟩ : ∃ x, x = dq.id := ⟨_, rfl⟩
          have cp : w2.cell? ⟨bD, oD + kp * 4, none⟩ = some (.int .i64 dj) := (HB2.out.cell (p := ⟨bD, _, none⟩) hbD).trans ((HCL.out kp hkl 0 (by omega)).trans (by rw [hde, hdj]; rfl))
          have HDQ := Lib.hid hdq
          have HDJ := Lib.hid hdj
          have j1 : ((kp + 1 : Nat) : Int) - 1 = (kp : Int) := by omega
          have j2 : ((kp : Int) + 1) - 1 = (kp : Int) := by omega
          have j3 : IntKind.i64.wrap (kp : Int) = (kp : Int) := IntWalk.i64_in _ (by have := HNN.out; omega)
          have p0 : decide ((0 : Int) < ((kp + 1 : Nat) : Int)) = true := decide_eq_true (by omega)
          have p00 : (0 : Int) < (kp : Int) + 1 := by omega
          have l1 : (kp : Int) < (n : Int) := by omega
          have l2 : (0 : Int) ≤ (kp : Int) := by omega
          clear hdq hkl hde hdj
          by_cases q3 : di ≤ dj
          · have p3 : decide (di ≤ dj) = true := decide_eq_true q3
            go_wp2_with (go_quiet (fail))
            exact bodyPost_ret (v := .tuple #[.pointer none, .int .i64 1]) (by simp [results, Try.results9, go_sem]) rfl ⟨.inr (.inl ⟨by rw [HN.out]; exact HNN.out, ⟨_, d, HD0.out, (.inr (.inr (.inl ⟨dq, by omega, by simpa using HDQ.out, by rw [← HDI.out, ← HDJ.out]; exact q3⟩)))⟩, rfl⟩), HB2.out.trans (Quiet.below ⟨_, rfl⟩)⟩
          have p3 : decide (di ≤ dj) = false := decide_eq_false q3
          have HPV : Hid (¬ ∃ p, 0 < kp + 1 ∧ ds[kp + 1 - 1]? = some p ∧ d.id ≤ p.id) := Lib.hid (fun ⟨p, _, h9, h8⟩ => by
            rw [Nat.add_sub_cancel, HDQ.out] at h9
            cases h9
            rw [← HDI.out, ← HDJ.out] at h8
            exact q3 h8)
          by_cases q4 : dr < 0
          · have p4 : decide (dr < 0) = true := decide_eq_true q4
            go_wp2_with (go_quiet (fail))
            exact bodyPost_ret (v := .tuple #[.pointer none, .int .i64 1]) (by simp [results, Try.results9, go_sem]) rfl ⟨.inr (.inl ⟨by rw [HN.out]; exact HNN.out, ⟨_, d, HD0.out, (.inr (.inr (.inr (.inl (by rw [← HDR.out]; exact q4)))))⟩, rfl⟩), HB2.out.trans (Quiet.below ⟨_, rfl⟩)⟩
          have p4 : decide (dr < 0) = false := decide_eq_false q4
          by_cases q5 : 2147483648 < dr
          · have p5 : decide (2147483648 < dr) = true := decide_eq_true q5
            go_wp2_with (go_quiet (fail))
            exact bodyPost_ret (v := .tuple #[.pointer none, .int .i64 1]) (by simp [results, Try.results9, go_sem]) rfl ⟨.inr (.inl ⟨by rw [HN.out]; exact HNN.out, ⟨_, d, HD0.out, (.inr (.inr (.inr (.inr (.inl (by rw [← HDR.out]; exact q5))))))⟩, rfl⟩), HB2.out.trans (Quiet.below ⟨_, rfl⟩)⟩
          have p5 : decide (2147483648 < dr) = false := decide_eq_false q5
          by_cases q6 : dp < 0
          · have p6 : decide (dp < 0) = true := decide_eq_true q6
            go_wp2_with (go_quiet (fail))
            exact bodyPost_ret (v := .tuple #[.pointer none, .int .i64 1]) (by simp [results, Try.results9, go_sem]) rfl ⟨.inr (.inl ⟨by rw [HN.out]; exact HNN.out, ⟨_, d, HD0.out, (.inr (.inr (.inr (.inr (.inr (.inl (by rw [← HDP.out]; exact q6)))))))⟩, rfl⟩), HB2.out.trans (Quiet.below ⟨_, rfl⟩)⟩
          have p6 : decide (dp < 0) = false := decide_eq_false q6
          by_cases q7 : 15 < dp
          · have p7 : decide (15 < dp) = true := decide_eq_true q7
            go_wp2_with (go_quiet (fail))
            exact bodyPost_ret (v := .tuple #[.pointer none, .int .i64 1]) (by simp [results, Try.results9, go_sem]) rfl ⟨.inr (.inl ⟨by rw [HN.out]; exact HNN.out, ⟨_, d, HD0.out, (.inr (.inr (.inr (.inr (.inr (.inr (by rw [← HDP.out]; exact q7)))))))⟩, rfl⟩), HB2.out.trans (Quiet.below ⟨_, rfl⟩)⟩
          have p7 : decide (15 < dp) = false := decide_eq_false q7
          go_upto_region 9 with (go_quiet (fail))
          obtain ⟨wq, hwq⟩ : ∃ x, x = w2.drewN nq := ⟨_, rfl⟩
          have hq : Quiet w2 wq := ⟨nq, hwq⟩
          rw [← hwq]
          clear hwq
          obtain ⟨aS, mS, cS, rfl⟩ := own_slice HR2.out.row
          have hrq := HR2.out.quiet hq
          have HBq : Hid (Below w.heap.size w wq) := Lib.hid (HB2.out.trans hq.below)
          have HRq := Lib.hid hrq
          have HRd : Hid (RAt wq.drew w.heap.size rb _ _ Y) := Lib.hid (hrq.quiet ⟨1, rfl⟩)
          have HKq : Hid (Blk wq db 29 d.cells) := Lib.hid (by
            have h9 := HK2.out.quiet hq
            rw [HDI.out, HDR.out, HDP.out, HDC.out] at h9
            exact h9)
          have c4 := hrq.blk.at 2 rfl
          have f4 := hrq.blk.free 2
          have cl4 := hrq.blk.lt
          have d0 := (HK2.out.quiet hq).at 0 rfl
          have d1 := (HK2.out.quiet hq).at 1 rfl
          have d2 := (HK2.out.quiet hq).at 2 rfl
          have d3 := (HK2.out.quiet hq).at 3 rfl
          have dl := (HK2.out.quiet hq).lt
          clear c0 c1 c2 c3 cl hrq hq
          obtain ⟨j1, hj1, hz0, hz1, hz2⟩ := info_parts info62
          have HJ1 := Lib.hid hj1
          have HYL : Hid (Y.length ≤ 256) := Lib.hid (by have h9 := HR2.out.yl; rw [h9]; simp only [List.length_map, List.length_take]; have := HNN.out; have := HN.out; omega)
          clear hj1
          refine wp_region_held_drew (S := (fun w' => w'.cell? ⟨db, 0, none⟩ = some (.int .i64 di) ∧ w'.cell? ⟨db, 1, none⟩ = some (.int .i64 dr) ∧ w'.cell? ⟨db, 2, none⟩ = some (.int .i64 dp) ∧ w'.cell? ⟨db, 3, none⟩ = some (.bool dc))) (by kernel_rfl) (by (try dsimp only); (first | exact ⟨by assumption, by assumption, by assumption, by assumption⟩ | go_keep)) (fun hHeld => ?_)
          refine wpAnyH_take (i := 0) (oi := (Oper.mk (some 62) (Op.move (Operand.tmp 4)) 24 "recorder.go:70" #[] none)) (v := ?_) rfl (by kernel_rfl) (by kernel_rfl) (by kernel_rfl) (fun _ _ _ h => h) (Or.inl ⟨by rfl, ?_⟩) (by assumption) ?_
          rotate_left
          · (intro w hSw; (try dsimp only at hSw); go_simp; first | done | with_reducible rfl)
          (try simp only [Act.put, List.setIfInBounds_toArray, List.set_cons_zero, List.set_cons_succ])
          refine wpAnyH_take (i := 1) (oi := (Oper.mk (some 63) (Op.move (Operand.tmp 4)) 24 "recorder.go:70" #[] none)) (v := ?_) rfl (by kernel_rfl) (by kernel_rfl) (by kernel_rfl) (fun _ _ _ h => h) (Or.inl ⟨by rfl, ?_⟩) (by assumption) ?_
          rotate_left
          · (intro w hSw; (try dsimp only at hSw); go_simp; first | done | with_reducible rfl)
          (try simp only [Act.put, List.setIfInBounds_toArray, List.set_cons_zero, List.set_cons_succ])
          refine wpAnyH_take (i := 2) (oi := (Oper.mk (some 64) (Op.nilCheck (Operand.tmp 63)) 0 "recorder.go:70" #[Edge.mk 1 Ground.data] none)) (v := ?_) rfl (by kernel_rfl) (by kernel_rfl) (by kernel_rfl) (fun _ _ _ h => h) (Or.inl ⟨by rfl, ?_⟩) (by assumption) ?_
          rotate_left
          · (intro w hSw; (try dsimp only at hSw); go_simp; first | done | with_reducible rfl)
          (try simp only [Act.put, List.setIfInBounds_toArray, List.set_cons_zero, List.set_cons_succ])
          refine wpAnyH_take (i := 3) (oi := (Oper.mk (some 65) (Op.fieldAddr 60 (Operand.tmp 64) 2) 0 "recorder.go:70" #[Edge.mk 2 Ground.data] none)) (v := ?_) rfl (by kernel_rfl) (by kernel_rfl) (by kernel_rfl) (fun _ _ _ h => h) (Or.inl ⟨by rfl, ?_⟩) (by assumption) ?_
          rotate_left
          · (intro w hSw; (try dsimp only at hSw); go_simp; first | done | with_reducible rfl)
          (try simp only [Act.put, List.setIfInBounds_toArray, List.set_cons_zero, List.set_cons_succ])
          refine wpAnyH_take (i := 5) (oi := (Oper.mk (some 67) (Op.load 29 (Operand.tmp 6)) 29 "recorder.go:70" #[] none)) (v := ?_) rfl (by kernel_rfl) (by kernel_rfl) (by kernel_rfl) (fun _ _ _ h => h) (Or.inl ⟨by rfl, ?_⟩) (by assumption) ?_
          rotate_left
          · (intro w hSw; (try dsimp only at hSw); go_simp; first | done | with_reducible rfl)
          (try simp only [Act.put, List.setIfInBounds_toArray, List.set_cons_zero, List.set_cons_succ])
          refine wpAnyH_take (i := 6) (oi := (Oper.mk (some 68) (Op.build 65 #[(0, Operand.tmp 67)]) 65 "recorder.go:70" #[Edge.mk 5 Ground.data] none)) (v := ?_) rfl (by kernel_rfl) (by kernel_rfl) (by kernel_rfl) (fun _ _ _ h => h) (Or.inl ⟨by rfl, ?_⟩) (by assumption) ?_
          rotate_left
          · (intro w hSw; (try dsimp only at hSw); go_simp; first | done | with_reducible rfl)
          (try simp only [Act.put, List.setIfInBounds_toArray, List.set_cons_zero, List.set_cons_succ])
          refine wpAnyH_ready (rs := [4, 7]) (by kernel_rfl) (by simp) ?_
          refine AllReadyH.cons (o := (Oper.mk (some 66) (Op.load 58 (Operand.tmp 65)) 58 "recorder.go:70" #[Edge.mk 3 Ground.data] none)) rfl (fun K hK => ?st4t7044x7) (AllReadyH.cons (o := (Oper.mk (some 69) (Op.box 65 (Operand.tmp 68)) 62 "recorder.go:70" #[Edge.mk 6 Ground.data] none)) rfl (fun K hK => ?st7t7044x7) (AllReadyH.nil))
          case' st4t7044x7 =>
            go_simp
            skip
            refine hK.out _ _ (by (try dsimp only); (first | exact ⟨by assumption, by assumption, by assumption, by assumption⟩ | go_keep)) (fun hHeld => ?_)
            clear hK K
            (try simp only [Act.put, List.setIfInBounds_toArray, List.set_cons_zero, List.set_cons_succ])
            refine wpAnyH_ready (rs := [7]) (by kernel_rfl) (by simp) ?_
            refine AllReadyH.cons (o := (Oper.mk (some 69) (Op.box 65 (Operand.tmp 68)) 62 "recorder.go:70" #[Edge.mk 6 Ground.data] none)) rfl (fun K hK => ?_) (AllReadyH.nil)
            go_simp
            skip
            refine hK.out _ _ (by (try dsimp only); (first | exact ⟨by assumption, by assumption, by assumption, by assumption⟩ | go_keep)) (fun hHeld => ?_)
            clear hK K
            (try simp only [Act.put, List.setIfInBounds_toArray, List.set_cons_zero, List.set_cons_succ])
            refine wpAnyH_ready (rs := [8]) (by kernel_rfl) (by simp) ?_
            refine AllReadyH.cons (o := (Oper.mk (some 70) (Op.buildSlice 58 1 #[(0, Operand.tmp 69)]) 58 "recorder.go:70" #[Edge.mk 7 Ground.data] none)) rfl (fun K hK => ?_) (AllReadyH.nil)
            go_simp
            skip
            refine hK.out _ _ (by (try dsimp only); (first | exact ⟨by assumption, by assumption, by assumption, by assumption⟩ | go_keep)) (fun hHeld => ?_)
            clear hK K
            (try simp only [Act.put, List.setIfInBounds_toArray, List.set_cons_zero, List.set_cons_succ])
            refine wpAnyH_ready (rs := [9]) (by kernel_rfl) (by simp) ?_
            refine AllReadyH.cons (o := (Oper.mk (some 71) (Op.call (Call.mk (Callee.builtin Builtin.append) #[Operand.tmp 66, Operand.tmp 70] #[58, 58])) 58 "recorder.go:70" #[Edge.mk 4 Ground.data, Edge.mk 8 Ground.data] none)) rfl (fun K hK => ?_) (AllReadyH.nil)
            (refine step_append_src _ (by rfl) (.tmp 66) (.tmp 70) 58 (by rfl) w.heap.size 62 j1 (.pointer none) 8 Try.underlying58 HJ1.out hz0 hz1 hz2 (by rfl) _ Y.length (Y.map fun z => ptr z.s) (by rfl) (own_below HRd.out.row (al (al (Below.refl _ _) _) _) (Nat.le_refl _)) (some ⟨wq.drew.heap.size + 1, 0, none⟩) 1 1 [ptr wq.drew.heap.size] (by rfl) (by rfl) (one_vat2 wq.drew _ _ 62) (by intro u hu; rw [List.mem_singleton] at hu; subst hu; rfl) (by have h9 := HYL.out; unfold maxLen; omega) (by have h9 := HYL.out; omega) (Nat.le_trans HBq.out.size (al (al (Below.refl wq.drew.heap.size wq.drew) _) _).size) ?_; intro v8 w8 hown8 hgrow8 hblk8; obtain ⟨a8, n8, c8, rfl⟩ := own_slice hown8; obtain ⟨c4, f4, cl4, ⟨d0, d1, d2, d3⟩, ⟨g0, g1, g2, g3⟩, HR9, HB9⟩ := newB HRq.out HKq.out hown8 (by rw [← HDI.out, ← HDR.out, ← HDP.out, ← HDC.out]; exact hgrow8); rw [← HDI.out] at d0 g0; rw [← HDR.out] at d1 g1; rw [← HDP.out] at d2 g2; rw [← HDC.out] at d3 g3; clear hown8 hgrow8 hblk8)
            refine hK.out _ _ (by (try dsimp only); (first | exact ⟨by assumption, by assumption, by assumption, by assumption⟩ | go_keep)) (fun hHeld => ?_)
            clear hK K
            (try simp only [Act.put, List.setIfInBounds_toArray, List.set_cons_zero, List.set_cons_succ])
            refine wpAnyH_take (i := 10) (oi := (Oper.mk (some 72) (Op.nilCheck (Operand.tmp 62)) 0 "recorder.go:70" #[Edge.mk 0 Ground.data, Edge.mk 0 Ground.phase, Edge.mk 1 Ground.phase, Edge.mk 2 Ground.phase, Edge.mk 3 Ground.phase, Edge.mk 4 Ground.phase, Edge.mk 5 Ground.phase, Edge.mk 6 Ground.phase, Edge.mk 7 Ground.phase, Edge.mk 8 Ground.phase, Edge.mk 9 Ground.phase] none)) (v := ?_) rfl (by kernel_rfl) (by kernel_rfl) (by kernel_rfl) (fun _ _ _ h => h) (Or.inl ⟨by rfl, ?_⟩) (by assumption) ?_
            rotate_left
            · (intro w hSw; (try dsimp only at hSw); go_simp; first | done | with_reducible rfl)
            (try simp only [Act.put, List.setIfInBounds_toArray, List.set_cons_zero, List.set_cons_succ])
            refine wpAnyH_take (i := 11) (oi := (Oper.mk (some 73) (Op.fieldAddr 60 (Operand.tmp 72) 2) 0 "recorder.go:70" #[Edge.mk 10 Ground.data, Edge.mk 0 Ground.phase, Edge.mk 1 Ground.phase, Edge.mk 2 Ground.phase, Edge.mk 3 Ground.phase, Edge.mk 4 Ground.phase, Edge.mk 5 Ground.phase, Edge.mk 6 Ground.phase, Edge.mk 7 Ground.phase, Edge.mk 8 Ground.phase, Edge.mk 9 Ground.phase] none)) (v := ?_) rfl (by kernel_rfl) (by kernel_rfl) (by kernel_rfl) (fun _ _ _ h => h) (Or.inl ⟨by rfl, ?_⟩) (by assumption) ?_
            rotate_left
            · (intro w hSw; (try dsimp only at hSw); go_simp; first | done | with_reducible rfl)
            (try simp only [Act.put, List.setIfInBounds_toArray, List.set_cons_zero, List.set_cons_succ])
            refine wpAnyH_ready (rs := [12]) (by kernel_rfl) (by simp) ?_
            refine AllReadyH.cons (o := (Oper.mk none (Op.store 58 (Operand.tmp 73) (Operand.tmp 71)) 0 "recorder.go:70" #[Edge.mk 11 Ground.data, Edge.mk 9 Ground.data, Edge.mk 9 Ground.chain, Edge.mk 0 Ground.phase, Edge.mk 1 Ground.phase, Edge.mk 2 Ground.phase, Edge.mk 3 Ground.phase, Edge.mk 4 Ground.phase, Edge.mk 5 Ground.phase, Edge.mk 6 Ground.phase, Edge.mk 7 Ground.phase, Edge.mk 8 Ground.phase, Edge.mk 9 Ground.phase] none)) rfl (fun K hK => ?_) (AllReadyH.nil)
            go_simp
            skip
            refine hK.out _ _ (by (try dsimp only); (first | exact ⟨by assumption, by assumption, by assumption, by assumption⟩ | go_keep)) (fun hHeld => ?_)
            clear hK K
            (try simp only [Act.put, List.setIfInBounds_toArray, List.set_cons_zero, List.set_cons_succ])
            refine wpAnyH_done (by kernel_rfl) ?_ _
          case' st7t7044x7 =>
            go_simp
            skip
            refine hK.out _ _ (by (try dsimp only); (first | exact ⟨by assumption, by assumption, by assumption, by assumption⟩ | go_keep)) (fun hHeld => ?_)
            clear hK K
            (try simp only [Act.put, List.setIfInBounds_toArray, List.set_cons_zero, List.set_cons_succ])
            refine wpAnyH_ready (rs := [4, 8]) (by kernel_rfl) (by simp) ?_
            refine AllReadyH.cons (o := (Oper.mk (some 66) (Op.load 58 (Operand.tmp 65)) 58 "recorder.go:70" #[Edge.mk 3 Ground.data] none)) rfl (fun K hK => ?st4t7044x14) (AllReadyH.cons (o := (Oper.mk (some 70) (Op.buildSlice 58 1 #[(0, Operand.tmp 69)]) 58 "recorder.go:70" #[Edge.mk 7 Ground.data] none)) rfl (fun K hK => ?st8t7044x14) (AllReadyH.nil))
            case' st4t7044x14 =>
              go_simp
              skip
              refine hK.out _ _ (by (try dsimp only); (first | exact ⟨by assumption, by assumption, by assumption, by assumption⟩ | go_keep)) (fun hHeld => ?_)
              clear hK K
              (try simp only [Act.put, List.setIfInBounds_toArray, List.set_cons_zero, List.set_cons_succ])
              refine wpAnyH_ready (rs := [8]) (by kernel_rfl) (by simp) ?_
              refine AllReadyH.cons (o := (Oper.mk (some 70) (Op.buildSlice 58 1 #[(0, Operand.tmp 69)]) 58 "recorder.go:70" #[Edge.mk 7 Ground.data] none)) rfl (fun K hK => ?_) (AllReadyH.nil)
              go_simp
              skip
              refine hK.out _ _ (by (try dsimp only); (first | exact ⟨by assumption, by assumption, by assumption, by assumption⟩ | go_keep)) (fun hHeld => ?_)
              clear hK K
              (try simp only [Act.put, List.setIfInBounds_toArray, List.set_cons_zero, List.set_cons_succ])
              refine wpAnyH_ready (rs := [9]) (by kernel_rfl) (by simp) ?_
              refine AllReadyH.cons (o := (Oper.mk (some 71) (Op.call (Call.mk (Callee.builtin Builtin.append) #[Operand.tmp 66, Operand.tmp 70] #[58, 58])) 58 "recorder.go:70" #[Edge.mk 4 Ground.data, Edge.mk 8 Ground.data] none)) rfl (fun K hK => ?_) (AllReadyH.nil)
              (refine step_append_src _ (by rfl) (.tmp 66) (.tmp 70) 58 (by rfl) w.heap.size 62 j1 (.pointer none) 8 Try.underlying58 HJ1.out hz0 hz1 hz2 (by rfl) _ Y.length (Y.map fun z => ptr z.s) (by rfl) (own_below HRd.out.row (al (al (Below.refl _ _) _) _) (Nat.le_refl _)) (some ⟨wq.drew.heap.size + 1, 0, none⟩) 1 1 [ptr wq.drew.heap.size] (by rfl) (by rfl) (one_vat2 wq.drew _ _ 62) (by intro u hu; rw [List.mem_singleton] at hu; subst hu; rfl) (by have h9 := HYL.out; unfold maxLen; omega) (by have h9 := HYL.out; omega) (Nat.le_trans HBq.out.size (al (al (Below.refl wq.drew.heap.size wq.drew) _) _).size) ?_; intro v8 w8 hown8 hgrow8 hblk8; obtain ⟨a8, n8, c8, rfl⟩ := own_slice hown8; obtain ⟨c4, f4, cl4, ⟨d0, d1, d2, d3⟩, ⟨g0, g1, g2, g3⟩, HR9, HB9⟩ := newB HRq.out HKq.out hown8 (by rw [← HDI.out, ← HDR.out, ← HDP.out, ← HDC.out]; exact hgrow8); rw [← HDI.out] at d0 g0; rw [← HDR.out] at d1 g1; rw [← HDP.out] at d2 g2; rw [← HDC.out] at d3 g3; clear hown8 hgrow8 hblk8)
              refine hK.out _ _ (by (try dsimp only); (first | exact ⟨by assumption, by assumption, by assumption, by assumption⟩ | go_keep)) (fun hHeld => ?_)
              clear hK K
              (try simp only [Act.put, List.setIfInBounds_toArray, List.set_cons_zero, List.set_cons_succ])
              refine wpAnyH_take (i := 10) (oi := (Oper.mk (some 72) (Op.nilCheck (Operand.tmp 62)) 0 "recorder.go:70" #[Edge.mk 0 Ground.data, Edge.mk 0 Ground.phase, Edge.mk 1 Ground.phase, Edge.mk 2 Ground.phase, Edge.mk 3 Ground.phase, Edge.mk 4 Ground.phase, Edge.mk 5 Ground.phase, Edge.mk 6 Ground.phase, Edge.mk 7 Ground.phase, Edge.mk 8 Ground.phase, Edge.mk 9 Ground.phase] none)) (v := ?_) rfl (by kernel_rfl) (by kernel_rfl) (by kernel_rfl) (fun _ _ _ h => h) (Or.inl ⟨by rfl, ?_⟩) (by assumption) ?_
              rotate_left
              · (intro w hSw; (try dsimp only at hSw); go_simp; first | done | with_reducible rfl)
              (try simp only [Act.put, List.setIfInBounds_toArray, List.set_cons_zero, List.set_cons_succ])
              refine wpAnyH_take (i := 11) (oi := (Oper.mk (some 73) (Op.fieldAddr 60 (Operand.tmp 72) 2) 0 "recorder.go:70" #[Edge.mk 10 Ground.data, Edge.mk 0 Ground.phase, Edge.mk 1 Ground.phase, Edge.mk 2 Ground.phase, Edge.mk 3 Ground.phase, Edge.mk 4 Ground.phase, Edge.mk 5 Ground.phase, Edge.mk 6 Ground.phase, Edge.mk 7 Ground.phase, Edge.mk 8 Ground.phase, Edge.mk 9 Ground.phase] none)) (v := ?_) rfl (by kernel_rfl) (by kernel_rfl) (by kernel_rfl) (fun _ _ _ h => h) (Or.inl ⟨by rfl, ?_⟩) (by assumption) ?_
              rotate_left
              · (intro w hSw; (try dsimp only at hSw); go_simp; first | done | with_reducible rfl)
              (try simp only [Act.put, List.setIfInBounds_toArray, List.set_cons_zero, List.set_cons_succ])
              refine wpAnyH_ready (rs := [12]) (by kernel_rfl) (by simp) ?_
              refine AllReadyH.cons (o := (Oper.mk none (Op.store 58 (Operand.tmp 73) (Operand.tmp 71)) 0 "recorder.go:70" #[Edge.mk 11 Ground.data, Edge.mk 9 Ground.data, Edge.mk 9 Ground.chain, Edge.mk 0 Ground.phase, Edge.mk 1 Ground.phase, Edge.mk 2 Ground.phase, Edge.mk 3 Ground.phase, Edge.mk 4 Ground.phase, Edge.mk 5 Ground.phase, Edge.mk 6 Ground.phase, Edge.mk 7 Ground.phase, Edge.mk 8 Ground.phase, Edge.mk 9 Ground.phase] none)) rfl (fun K hK => ?_) (AllReadyH.nil)
              go_simp
              skip
              refine hK.out _ _ (by (try dsimp only); (first | exact ⟨by assumption, by assumption, by assumption, by assumption⟩ | go_keep)) (fun hHeld => ?_)
              clear hK K
              (try simp only [Act.put, List.setIfInBounds_toArray, List.set_cons_zero, List.set_cons_succ])
              refine wpAnyH_done (by kernel_rfl) ?_ _
            case' st8t7044x14 =>
              go_simp
              skip
              refine hK.out _ _ (by (try dsimp only); (first | exact ⟨by assumption, by assumption, by assumption, by assumption⟩ | go_keep)) (fun hHeld => ?_)
              clear hK K
              (try simp only [Act.put, List.setIfInBounds_toArray, List.set_cons_zero, List.set_cons_succ])
              refine wpAnyH_ready (rs := [4]) (by kernel_rfl) (by simp) ?_
              refine AllReadyH.cons (o := (Oper.mk (some 66) (Op.load 58 (Operand.tmp 65)) 58 "recorder.go:70" #[Edge.mk 3 Ground.data] none)) rfl (fun K hK => ?_) (AllReadyH.nil)
              go_simp
              skip
              refine hK.out _ _ (by (try dsimp only); (first | exact ⟨by assumption, by assumption, by assumption, by assumption⟩ | go_keep)) (fun hHeld => ?_)
              clear hK K
              (try simp only [Act.put, List.setIfInBounds_toArray, List.set_cons_zero, List.set_cons_succ])
              refine wpAnyH_ready (rs := [9]) (by kernel_rfl) (by simp) ?_
              refine AllReadyH.cons (o := (Oper.mk (some 71) (Op.call (Call.mk (Callee.builtin Builtin.append) #[Operand.tmp 66, Operand.tmp 70] #[58, 58])) 58 "recorder.go:70" #[Edge.mk 4 Ground.data, Edge.mk 8 Ground.data] none)) rfl (fun K hK => ?_) (AllReadyH.nil)
              (refine step_append_src _ (by rfl) (.tmp 66) (.tmp 70) 58 (by rfl) w.heap.size 62 j1 (.pointer none) 8 Try.underlying58 HJ1.out hz0 hz1 hz2 (by rfl) _ Y.length (Y.map fun z => ptr z.s) (by rfl) (own_below HRd.out.row (al (al (Below.refl _ _) _) _) (Nat.le_refl _)) (some ⟨wq.drew.heap.size + 1, 0, none⟩) 1 1 [ptr wq.drew.heap.size] (by rfl) (by rfl) (one_vat2 wq.drew _ _ 62) (by intro u hu; rw [List.mem_singleton] at hu; subst hu; rfl) (by have h9 := HYL.out; unfold maxLen; omega) (by have h9 := HYL.out; omega) (Nat.le_trans HBq.out.size (al (al (Below.refl wq.drew.heap.size wq.drew) _) _).size) ?_; intro v8 w8 hown8 hgrow8 hblk8; obtain ⟨a8, n8, c8, rfl⟩ := own_slice hown8; obtain ⟨c4, f4, cl4, ⟨d0, d1, d2, d3⟩, ⟨g0, g1, g2, g3⟩, HR9, HB9⟩ := newB HRq.out HKq.out hown8 (by rw [← HDI.out, ← HDR.out, ← HDP.out, ← HDC.out]; exact hgrow8); rw [← HDI.out] at d0 g0; rw [← HDR.out] at d1 g1; rw [← HDP.out] at d2 g2; rw [← HDC.out] at d3 g3; clear hown8 hgrow8 hblk8)
              refine hK.out _ _ (by (try dsimp only); (first | exact ⟨by assumption, by assumption, by assumption, by assumption⟩ | go_keep)) (fun hHeld => ?_)
              clear hK K
              (try simp only [Act.put, List.setIfInBounds_toArray, List.set_cons_zero, List.set_cons_succ])
              refine wpAnyH_take (i := 10) (oi := (Oper.mk (some 72) (Op.nilCheck (Operand.tmp 62)) 0 "recorder.go:70" #[Edge.mk 0 Ground.data, Edge.mk 0 Ground.phase, Edge.mk 1 Ground.phase, Edge.mk 2 Ground.phase, Edge.mk 3 Ground.phase, Edge.mk 4 Ground.phase, Edge.mk 5 Ground.phase, Edge.mk 6 Ground.phase, Edge.mk 7 Ground.phase, Edge.mk 8 Ground.phase, Edge.mk 9 Ground.phase] none)) (v := ?_) rfl (by kernel_rfl) (by kernel_rfl) (by kernel_rfl) (fun _ _ _ h => h) (Or.inl ⟨by rfl, ?_⟩) (by assumption) ?_
              rotate_left
              · (intro w hSw; (try dsimp only at hSw); go_simp; first | done | with_reducible rfl)
              (try simp only [Act.put, List.setIfInBounds_toArray, List.set_cons_zero, List.set_cons_succ])
              refine wpAnyH_take (i := 11) (oi := (Oper.mk (some 73) (Op.fieldAddr 60 (Operand.tmp 72) 2) 0 "recorder.go:70" #[Edge.mk 10 Ground.data, Edge.mk 0 Ground.phase, Edge.mk 1 Ground.phase, Edge.mk 2 Ground.phase, Edge.mk 3 Ground.phase, Edge.mk 4 Ground.phase, Edge.mk 5 Ground.phase, Edge.mk 6 Ground.phase, Edge.mk 7 Ground.phase, Edge.mk 8 Ground.phase, Edge.mk 9 Ground.phase] none)) (v := ?_) rfl (by kernel_rfl) (by kernel_rfl) (by kernel_rfl) (fun _ _ _ h => h) (Or.inl ⟨by rfl, ?_⟩) (by assumption) ?_
              rotate_left
              · (intro w hSw; (try dsimp only at hSw); go_simp; first | done | with_reducible rfl)
              (try simp only [Act.put, List.setIfInBounds_toArray, List.set_cons_zero, List.set_cons_succ])
              refine wpAnyH_ready (rs := [12]) (by kernel_rfl) (by simp) ?_
              refine AllReadyH.cons (o := (Oper.mk none (Op.store 58 (Operand.tmp 73) (Operand.tmp 71)) 0 "recorder.go:70" #[Edge.mk 11 Ground.data, Edge.mk 9 Ground.data, Edge.mk 9 Ground.chain, Edge.mk 0 Ground.phase, Edge.mk 1 Ground.phase, Edge.mk 2 Ground.phase, Edge.mk 3 Ground.phase, Edge.mk 4 Ground.phase, Edge.mk 5 Ground.phase, Edge.mk 6 Ground.phase, Edge.mk 7 Ground.phase, Edge.mk 8 Ground.phase, Edge.mk 9 Ground.phase] none)) rfl (fun K hK => ?_) (AllReadyH.nil)
              go_simp
              skip
              refine hK.out _ _ (by (try dsimp only); (first | exact ⟨by assumption, by assumption, by assumption, by assumption⟩ | go_keep)) (fun hHeld => ?_)
              clear hK K
              (try simp only [Act.put, List.setIfInBounds_toArray, List.set_cons_zero, List.set_cons_succ])
              refine wpAnyH_done (by kernel_rfl) ?_ _
          all_goals
            go_wp2_with fail
            go_roundg (gk - 1)
            case rel => exact ⟨(kp + 1) + 1, _, _, by omega, by omega, by go_num, Lib.hid (take_st HD0.out HR9.out), Lib.hid (HBq.out.trans HB9.out), Lib.hid (fun i hi hb => by
              by_cases hik : i < (kp + 1)
              · exact HG.out i hik hb
              · obtain rfl : i = (kp + 1) := by omega
                obtain ⟨d', h1, h2⟩ := hb
                rw [HD0.out] at h1
                cases h1
                rw [HDI.out] at q1 q2
                rw [HDR.out] at q4 q5
                rw [HDP.out] at q6 q7
                rcases h2 with h2 | h2 | h2 | h2 | h2 | h2 | h2
                · omega
                · omega
                · exact HPV.out h2
                · omega
                · omega
                · omega
                · omega)⟩
            case measure => omega
      · have e2 : ¬ (k : Int) < (n : Int) := by omega
        have HKN : Hid (ds.take k = ds) := Lib.hid (List.take_of_length_le (by have := HN.out; omega))
        go_wp2_with fail
        exact bodyPost_ret (v := .tuple #[.pointer (some ⟨rb, 0, none⟩), .int .i64 0]) (by simp [results, Try.results9, go_sem]) rfl ⟨.inr (.inr ⟨by have := HN.out; omega, fun i hb => by
          by_cases hik : i < k
          · exact HG.out i hik hb
          · obtain ⟨d, h1, -⟩ := hb
            have := (List.getElem?_eq_some_iff.1 h1).1
            have := HN.out
            omega, rb, vS, Y, rfl, by have h9 := HR.out; rw [HKN.out] at h9; exact h9⟩), HB.out⟩
end Go.Proofs.Ytnojmkmmfiahgaa
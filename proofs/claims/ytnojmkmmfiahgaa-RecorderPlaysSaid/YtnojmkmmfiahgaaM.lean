/- The recorder in memory. No condition. -/
import Derived.Test.YtnojmkmmfiahgaaP
namespace Go.Proofs.Ytnojmkmmfiahgaa
open Go.RowKit Go.Deep Go.ChangeShapes Go.WideShapes Go.ChangeAt
set_option linter.unusedVariables false

def TE : TypeId := 71
def TS : TypeId := 65
def TR : TypeId := 60
def PS : TypeId := 62
def PE : TypeId := 68
def ptr (g : Nat) : Value := .pointer (some ⟨g, 0, none⟩)
/-- a store's blocks: its own, its row of entries, the entries, their data -/
structure SM where
  s : Nat
  vE : Value
  gs : List Nat
  vds : List Value
instance : Inhabited SM := ⟨⟨0, .slice none 0 0, [], []⟩⟩
/-- an entry at block g -/
structure EnAt (w : World) (B : Nat) (e : En) (g : Nat) (vd : Value) : Prop where
  blk : Blk w g TE [.int .i64 e.time, vd, .bool e.want]
  dat : w.ownsRow B 5 1 vd e.data.length (encB e.data)
  lo : B ≤ g
/-- a store -/
structure StAt (w : World) (B : Nat) (s : St) (y : SM) : Prop where
  blk : Blk w y.s TS [.int .i64 s.id, .int .i64 s.room, .int .i64 s.prio, .bool s.circ, y.vE, .int .i64 (lvl s.L : Int), .int .i64 (s.drop : Int)]
  row : OffRow w B PE y.vE (y.gs.map ptr)
  gl : y.gs.length = s.L.length
  dl : y.vds.length = s.L.length
  en : ∀ (j : Nat) (e : En), s.L[j]? = some e → ∃ g vd, y.gs[j]? = some g ∧ y.vds[j]? = some vd ∧ EnAt w B e g vd
  lo : B ≤ y.s
/-- a recorder at block b -/
structure RAt (w : World) (B b : Nat) (r : RS) (vS : Value) (Y : List SM) : Prop where
  blk : Blk w b TR [.bool true, .int .i64 r.now, vS]
  row : w.ownsRow B PS 1 vS Y.length (Y.map fun y => ptr y.s)
  yl : Y.length = r.stores.length
  st : ∀ (i : Nat) (s : St), r.stores[i]? = some s → ∃ y, Y[i]? = some y ∧ StAt w B s y
  nS : ∀ (i j : Nat) (y z : SM), Y[i]? = some y → Y[j]? = some z → i ≠ j → y.s ≠ z.s
  nE : ∀ (i j : Nat) (y z : SM) (p q g : Nat), Y[i]? = some y → Y[j]? = some z → y.gs[p]? = some g → z.gs[q]? = some g → i = j ∧ p = q
  nR : ∀ (i j : Nat) (y z : SM) (k : Nat), Y[i]? = some y → Y[j]? = some z → i ≠ j → y.vE.ownBlock = some k → z.vE.ownBlock ≠ some k
  lo : B ≤ b
section
variable {w w' : World} {B b : Nat} {T : Nat → Prop} {e : En} {g : Nat} {vd vS : Value} {s : St} {y : SM} {r : RS} {Y : List SM}
/-- the type of a block that is known -/
theorem Blk.ty {t u : TypeId} {xs ys : List Value} (h : Blk w b t xs) (k : Blk w b u ys) : t = u := by
  have := h.symm.trans k
  simp at this
  exact this.2
theorem own_ty {n z : Nat} {t : TypeId} {v : Value} {xs : List Value} (h : w.ownsRow B t z v n xs) {k : Nat} (hk : v.ownBlock = some k) : ∃ cs, w.heap[k]? = some (.cells cs t (0, 0)) := by
  rcases h.2 with ⟨rfl, -⟩ | ⟨g, cap, cur, rfl, -, hg, -⟩
  · simp [Value.ownBlock] at hk
  · simp [Value.ownBlock] at hk; subst hk; exact ⟨cur, hg⟩
theorem off_ty {t : TypeId} {v : Value} {xs : List Value} (h : OffRow w B t v xs) {k : Nat} (hk : v.ownBlock = some k) : ∃ cs, w.heap[k]? = some (.cells cs t (0, 0)) := by
  rcases h with ⟨rfl, -⟩ | ⟨g, off, cap, cur, rfl, -, hg, -⟩
  · simp [Value.ownBlock] at hk
  · simp [Value.ownBlock] at hk; subst hk; exact ⟨cur, hg⟩
/-- what may change: no row of bytes -/
def Kind (w : World) (T : Nat → Prop) : Prop := ∀ k cs, T k → w.heap[k]? ≠ some (.cells cs 5 (0, 0))
theorem EnAt.fr (h : EnAt w B e g vd) (hf : Fr T w w') (h5 : Kind w T) (hg : ¬ T g) : EnAt w' B e g vd :=
  ⟨h.blk.fr hf hg, own_fr h.dat hf (fun k hk ht => by
    obtain ⟨cs, hc⟩ := own_ty h.dat hk
    exact h5 k cs ht hc), h.lo⟩
theorem StAt.fr (h : StAt w B s y) (hf : Fr T w w') (h5 : Kind w T) (hs : ¬ T y.s) (hr : ∀ k, y.vE.ownBlock = some k → ¬ T k) (hg : ∀ g ∈ y.gs, ¬ T g) : StAt w' B s y :=
  ⟨h.blk.fr hf hs, h.row.fr hf hr, h.gl, h.dl, fun j e hj => by
    obtain ⟨g, vd, h1, h2, h3⟩ := h.en j e hj
    exact ⟨g, vd, h1, h2, h3.fr hf h5 (hg g (List.mem_of_getElem? h1))⟩, h.lo⟩
theorem EnAt.lt (h : EnAt w B e g vd) : g < w.heap.size := h.blk.lt
theorem StAt.glt (h : StAt w B s y) : ∀ g ∈ y.gs, B ≤ g ∧ g < w.heap.size := fun g hg => by
  obtain ⟨j, hj, rfl⟩ := List.mem_iff_getElem.1 hg
  have hj2 : j < s.L.length := by rw [← h.gl]; exact hj
  obtain ⟨g', vd, h1, h2, h3⟩ := h.en j s.L[j] (by rw [List.getElem?_eq_getElem hj2])
  rw [List.getElem?_eq_getElem hj] at h1
  cases h1
  exact ⟨h3.lo, h3.lt⟩
theorem StAt.below {B' : Nat} (h : StAt w B s y) (hf : Below B' w w') (hB : w.heap.size ≤ B') : StAt w' B s y :=
  h.fr (T := fun k => w.heap.size ≤ k) (Fr.of_below hf hB) (fun k cs hk hc => by have := (Array.getElem?_eq_some_iff.1 hc).1; omega) (Nat.not_le.2 h.blk.lt) (fun k hk => Nat.not_le.2 (h.row.lt k hk).2) (fun g hg => Nat.not_le.2 (h.glt g hg).2)
theorem RAt.fr (h : RAt w B b r vS Y) (hf : Fr T w w') (h5 : Kind w T) (hb : ¬ T b) (hS : ∀ k, vS.ownBlock = some k → ¬ T k) (hY : ∀ y ∈ Y, ¬ T y.s ∧ (∀ k, y.vE.ownBlock = some k → ¬ T k) ∧ ∀ g ∈ y.gs, ¬ T g) : RAt w' B b r vS Y :=
  ⟨h.blk.fr hf hb, own_fr h.row hf hS, h.yl, fun i s hi => by
    obtain ⟨y, h1, h2⟩ := h.st i s hi
    obtain ⟨k1, k2, k3⟩ := hY y (List.mem_of_getElem? h1)
    exact ⟨y, h1, h2.fr hf h5 k1 k2 k3⟩, h.nS, h.nE, h.nR, h.lo⟩
theorem RAt.at (h : RAt w B b r vS Y) {i : Nat} {y : SM} (hi : Y[i]? = some y) : ∃ s, r.stores[i]? = some s ∧ StAt w B s y := by
  have hlt : i < r.stores.length := by rw [← h.yl]; exact (List.getElem?_eq_some_iff.1 hi).1
  obtain ⟨z, h1, h2⟩ := h.st i r.stores[i] (List.getElem?_eq_getElem hlt)
  rw [hi] at h1
  cases h1
  exact ⟨_, List.getElem?_eq_getElem hlt, h2⟩
theorem RAt.below {B' : Nat} (h : RAt w B b r vS Y) (hf : Below B' w w') (hB : w.heap.size ≤ B') : RAt w' B b r vS Y :=
  h.fr (T := fun k => w.heap.size ≤ k) (Fr.of_below hf hB) (fun k cs hk hc => by have := (Array.getElem?_eq_some_iff.1 hc).1; omega) (Nat.not_le.2 h.blk.lt) (fun k hk => Nat.not_le.2 (h.row.lt k hk).2) (fun y hy => by
    obtain ⟨i, hi⟩ := List.mem_iff_getElem?.1 hy
    obtain ⟨s, -, h2⟩ := h.at hi
    exact ⟨Nat.not_le.2 h2.blk.lt, fun k hk => Nat.not_le.2 (h2.row.lt k hk).2, fun g hg => Nat.not_le.2 (h2.glt g hg).2⟩)
theorem RAt.quiet (h : RAt w B b r vS Y) (hq : Quiet w w') : RAt w' B b r vS Y := h.below hq.below (Nat.le_refl _)
/-- one store changes -/
theorem RAt.upd (h : RAt w B b r vS Y) {i : Nat} {s' : St} {y y' : SM} (hi : Y[i]? = some y) (hf : Fr T w w') (h5 : Kind w T) (hb : ¬ T b) (hS : ∀ k, vS.ownBlock = some k → ¬ T k)
    (hj : ∀ (j : Nat) (z : SM), j ≠ i → Y[j]? = some z → ¬ T z.s ∧ (∀ k, z.vE.ownBlock = some k → ¬ T k) ∧ ∀ g ∈ z.gs, ¬ T g) (hs : StAt w' B s' y') (e1 : y'.s = y.s) (e2 : ∀ g ∈ y'.gs, g ∈ y.gs ∨ w.heap.size ≤ g) (e3 : y'.vE.ownBlock = y.vE.ownBlock ∨ ∀ k, y'.vE.ownBlock = some k → w.heap.size ≤ k)
    (e4 : ∀ (p q g : Nat), y'.gs[p]? = some g → y'.gs[q]? = some g → p = q) : RAt w' B b (r.put i s') vS (Y.set i y') := by
  have hil : i < Y.length := (List.getElem?_eq_some_iff.1 hi).1
  have hget : ∀ (j : Nat) (z : SM), (Y.set i y')[j]? = some z → (j = i ∧ z = y') ∨ (j ≠ i ∧ Y[j]? = some z) := fun j z hz => by
    by_cases e : j = i
    · subst e
      rw [List.getElem?_set_self hil] at hz
      exact .inl ⟨rfl, (Option.some.inj hz).symm⟩
    · rw [List.getElem?_set_ne (fun e' => e e'.symm)] at hz
      exact .inr ⟨e, hz⟩
  have hmap : (Y.set i y').map (fun z => ptr z.s) = Y.map fun z => ptr z.s := by
    rw [List.map_set, e1]
    refine List.ext_getElem? fun j => ?_
    by_cases e : j = i
    · subst e
      rw [List.getElem?_set_self (by simpa using hil), List.getElem?_map, hi]
      rfl
    · rw [List.getElem?_set_ne (fun e' => e e'.symm)]
  have hlt : ∀ (j : Nat) (z : SM), Y[j]? = some z → (∀ k, z.vE.ownBlock = some k → k < w.heap.size) ∧ ∀ g ∈ z.gs, g < w.heap.size := fun j z hz => by
    obtain ⟨s, -, h2⟩ := h.at hz
    exact ⟨fun k hk => (h2.row.lt k hk).2, fun g hg => (h2.glt g hg).2⟩
  refine ⟨h.blk.fr hf hb, by rw [List.length_set, hmap]; exact own_fr h.row hf hS, by rw [List.length_set]; show Y.length = (r.stores.set i s').length; rw [List.length_set]; exact h.yl, fun j s hj' => ?_, fun j k z u hz hu hne => ?_, fun j k z u p q g hz hu hp hq => ?_, fun j k z u m hz hu hne hm => ?_, h.lo⟩
  · have hj2 : (r.stores.set i s')[j]? = some s := hj'
    by_cases e : j = i
    · subst e
      rw [List.getElem?_set_self (by rw [← h.yl]; exact hil)] at hj2
      cases hj2
      exact ⟨y', List.getElem?_set_self hil, hs⟩
    · rw [List.getElem?_set_ne (fun e' => e e'.symm)] at hj2
      obtain ⟨z, h1, h2⟩ := h.st j s hj2
      obtain ⟨k1, k2, k3⟩ := hj j z e h1
      exact ⟨z, by rw [List.getElem?_set_ne (fun e' => e e'.symm)]; exact h1, h2.fr hf h5 k1 k2 k3⟩
  · rcases hget j z hz with ⟨rfl, rfl⟩ | ⟨n1, z1⟩ <;> rcases hget k u hu with ⟨rfl, rfl⟩ | ⟨n2, u1⟩
    · exact absurd rfl hne
    · rw [e1]; exact h.nS _ _ _ _ hi u1 (fun e => n2 e.symm)
    · rw [e1]; exact h.nS _ _ _ _ z1 hi n1
    · exact h.nS _ _ _ _ z1 u1 hne
  · rcases hget j z hz with ⟨rfl, rfl⟩ | ⟨n1, z1⟩ <;> rcases hget k u hu with ⟨rfl, rfl⟩ | ⟨n2, u1⟩
    · exact ⟨rfl, e4 p q g hp hq⟩
    · exfalso
      rcases e2 g (List.mem_of_getElem? hp) with hg | hg
      · obtain ⟨p', hp'⟩ := List.mem_iff_getElem?.1 hg
        exact n2 (h.nE _ _ _ _ _ _ _ hi u1 hp' hq).1.symm
      · have := (hlt _ _ u1).2 g (List.mem_of_getElem? hq); omega
    · exfalso
      rcases e2 g (List.mem_of_getElem? hq) with hg | hg
      · obtain ⟨p', hp'⟩ := List.mem_iff_getElem?.1 hg
        exact n1 (h.nE _ _ _ _ _ _ _ z1 hi hp hp').1
      · have := (hlt _ _ z1).2 g (List.mem_of_getElem? hp); omega
    · exact h.nE _ _ _ _ _ _ _ z1 u1 hp hq
  · rcases hget j z hz with ⟨rfl, rfl⟩ | ⟨n1, z1⟩ <;> rcases hget k u hu with ⟨rfl, rfl⟩ | ⟨n2, u1⟩
    · exact absurd rfl hne
    · intro hu2
      rcases e3 with e | e
      · exact h.nR _ _ _ _ m hi u1 (fun e => n2 e.symm) (by rw [← e]; exact hm) hu2
      · have := e m hm; have := (hlt _ _ u1).1 m hu2; omega
    · intro hu2
      rcases e3 with e | e
      · exact h.nR _ _ _ _ m z1 hi n1 hm (by rw [← e]; exact hu2)
      · have := e m hu2; have := (hlt _ _ z1).1 m hm; omega
    · exact h.nR _ _ _ _ m z1 u1 hne hm
theorem Blk.kind {t u : TypeId} {xs : List Value} {k : Nat} {cs : Array Value} (h : Blk w k t xs) (hc : w.heap[k]? = some (.cells cs u (0, 0))) : t = u := by
  have := h.symm.trans hc
  simp at this
  exact this.2
/-- which blocks may not be meant by a write -/
structure Sep (w : World) (b : Nat) (vS : Value) (Y : List SM) (i : Nat) (T : Nat → Prop) : Prop where
  kind : Kind w T
  b : ¬ T b
  vS : ∀ k, vS.ownBlock = some k → ¬ T k
  other : ∀ (j : Nat) (z : SM), j ≠ i → Y[j]? = some z → ¬ T z.s ∧ (∀ k, z.vE.ownBlock = some k → ¬ T k) ∧ ∀ g ∈ z.gs, ¬ T g
theorem RAt.en_at (h : StAt w B s y) {p g : Nat} (hp : y.gs[p]? = some g) : ∃ e vd, s.L[p]? = some e ∧ y.vds[p]? = some vd ∧ EnAt w B e g vd := by
  have hlt : p < s.L.length := by rw [← h.gl]; exact (List.getElem?_eq_some_iff.1 hp).1
  obtain ⟨g', vd, h1, h2, h3⟩ := h.en p s.L[p] (List.getElem?_eq_getElem hlt)
  rw [hp] at h1
  cases h1
  exact ⟨_, vd, List.getElem?_eq_getElem hlt, h2, h3⟩
/-- a block of type t that is none of the five kinds' but one: what it is apart from -/
theorem RAt.sepS (h : RAt w B b r vS Y) {i : Nat} (hi : Y[i]? = some y) (hs : StAt w B s y) : Sep w b vS Y i (fun k => k = y.s) where
  kind := fun k cs e hc => by subst e; exact absurd (hs.blk.kind hc) (by decide)
  b := fun e => absurd ((e ▸ h.blk : Blk w y.s TR _).ty hs.blk) (by decide)
  vS := fun k hk e => by obtain ⟨cs, hc⟩ := own_ty h.row hk; subst e; exact absurd (hs.blk.kind hc) (by decide)
  other := fun j z hne hz => by
    obtain ⟨s2, -, h2⟩ := h.at hz
    refine ⟨h.nS j i z y hz hi hne, fun k hk e => ?_, fun g hg e => ?_⟩
    · obtain ⟨cs, hc⟩ := off_ty h2.row hk; subst e; exact absurd (hs.blk.kind hc) (by decide)
    · obtain ⟨p, hp⟩ := List.mem_iff_getElem?.1 hg
      obtain ⟨e2, vd, -, -, h3⟩ := RAt.en_at h2 hp
      exact absurd ((e ▸ h3.blk : Blk w y.s TE _).ty hs.blk) (by decide)
theorem RAt.sepE (h : RAt w B b r vS Y) {i p g : Nat} (hi : Y[i]? = some y) (hs : StAt w B s y) (hp : y.gs[p]? = some g) : Sep w b vS Y i (fun k => k = g) := by
  obtain ⟨e0, vd0, -, -, hg0⟩ := RAt.en_at hs hp
  exact {
    kind := fun k cs e hc => by subst e; exact absurd (hg0.blk.kind hc) (by decide)
    b := fun e => absurd ((e ▸ h.blk : Blk w g TR _).ty hg0.blk) (by decide)
    vS := fun k hk e => by obtain ⟨cs, hc⟩ := own_ty h.row hk; subst e; exact absurd (hg0.blk.kind hc) (by decide)
    other := fun j z hne hz => by
      obtain ⟨s2, -, h2⟩ := h.at hz
      refine ⟨fun e => absurd ((e ▸ h2.blk : Blk w g TS _).ty hg0.blk) (by decide), fun k hk e => ?_, fun g' hg e => ?_⟩
      · obtain ⟨cs, hc⟩ := off_ty h2.row hk; subst e; exact absurd (hg0.blk.kind hc) (by decide)
      · obtain ⟨q, hq⟩ := List.mem_iff_getElem?.1 hg
        subst e
        exact hne (h.nE _ _ _ _ _ _ _ hz hi hq hp).1 }
theorem RAt.sepR (h : RAt w B b r vS Y) {i : Nat} (hi : Y[i]? = some y) (hs : StAt w B s y) : Sep w b vS Y i (fun k => y.vE.ownBlock = some k) where
  kind := fun k cs e hc => by obtain ⟨cs', hc'⟩ := off_ty hs.row e; rw [hc'] at hc; simp at hc; exact absurd hc.2 (by decide)
  b := fun e => by obtain ⟨cs', hc'⟩ := off_ty hs.row e; exact absurd (h.blk.kind hc') (by decide)
  vS := fun k hk e => by
    obtain ⟨cs', hc'⟩ := off_ty hs.row e
    obtain ⟨cs, hc⟩ := own_ty h.row hk
    rw [hc'] at hc; simp at hc; exact absurd hc.2 (by decide)
  other := fun j z hne hz => by
    obtain ⟨s2, -, h2⟩ := h.at hz
    refine ⟨fun e => ?_, fun k hk e => h.nR j i z y k hz hi hne hk e, fun g hg e => ?_⟩
    · obtain ⟨cs', hc'⟩ := off_ty hs.row e; exact absurd (h2.blk.kind hc') (by decide)
    · obtain ⟨p, hp⟩ := List.mem_iff_getElem?.1 hg
      obtain ⟨e2, vd, -, -, h3⟩ := RAt.en_at h2 hp
      obtain ⟨cs', hc'⟩ := off_ty hs.row e
      exact absurd (h3.blk.kind hc') (by decide)
/-- the clock -/
theorem RAt.tick (h : RAt w B b r vS Y) {now : Int} (hf : Fr (fun k => k = b) w w') (hk : Blk w' b TR [.bool true, .int .i64 now, vS]) : RAt w' B b { r with now := now } vS Y := by
  have h5 : Kind w (fun k => k = b) := fun k cs e hc => by subst e; exact absurd (h.blk.kind hc) (by decide)
  refine ⟨hk, own_fr h.row hf (fun k hk' e => ?_), h.yl, fun i s hi => ?_, h.nS, h.nE, h.nR, h.lo⟩
  · obtain ⟨cs, hc⟩ := own_ty h.row hk'; subst e; exact absurd (h.blk.kind hc) (by decide)
  · obtain ⟨y, h1, h2⟩ := h.st i s hi
    refine ⟨y, h1, h2.fr hf h5 (fun e => absurd ((e ▸ h2.blk : Blk w b TS _).ty h.blk) (by decide)) (fun k hk' e => ?_) (fun g hg e => ?_)⟩
    · obtain ⟨cs, hc⟩ := off_ty h2.row hk'; subst e; exact absurd (h.blk.kind hc) (by decide)
    · obtain ⟨p, hp⟩ := List.mem_iff_getElem?.1 hg
      obtain ⟨e2, vd, -, -, h3⟩ := RAt.en_at h2 hp
      exact absurd ((e ▸ h3.blk : Blk w b TE _).ty h.blk) (by decide)
/-- the store's numbers, and packets that go at the front -/
theorem RAt.setS (h : RAt w B b r vS Y) {i n : Nat} {s' : St} {vE' : Value} (hi : Y[i]? = some y) (hs : StAt w B s y) (hf : Fr (fun k => k = y.s) w w') (hL : s'.L = s.L.drop n)
    (hk : Blk w' y.s TS [.int .i64 s'.id, .int .i64 s'.room, .int .i64 s'.prio, .bool s'.circ, vE', .int .i64 (lvl s'.L : Int), .int .i64 (s'.drop : Int)]) (hr : OffRow w' B PE vE' ((y.gs.drop n).map ptr)) (hv : ∀ k, vE'.ownBlock = some k → y.vE.ownBlock = some k) :
    RAt w' B b (r.put i s') vS (Y.set i ⟨y.s, vE', y.gs.drop n, y.vds.drop n⟩) ∧ StAt w' B s' ⟨y.s, vE', y.gs.drop n, y.vds.drop n⟩ := by
  have sp := h.sepS hi hs
  have hge : ∀ g ∈ y.gs, ¬ g = y.s := fun g hg e => by
    obtain ⟨p, hp⟩ := List.mem_iff_getElem?.1 hg
    obtain ⟨e2, vd, -, -, h3⟩ := RAt.en_at hs hp
    exact absurd ((e ▸ h3.blk : Blk w y.s TE _).ty hs.blk) (by decide)
  have hst : StAt w' B s' ⟨y.s, vE', y.gs.drop n, y.vds.drop n⟩ := ⟨hk, hr, by rw [hL, List.length_drop, List.length_drop, hs.gl], by rw [hL, List.length_drop, List.length_drop, hs.dl], fun j e hj => by
    rw [hL, List.getElem?_drop] at hj
    obtain ⟨g, vd, h1, h2, h3⟩ := hs.en _ e hj
    exact ⟨g, vd, by rw [List.getElem?_drop]; exact h1, by rw [List.getElem?_drop]; exact h2, h3.fr hf sp.kind (hge g (List.mem_of_getElem? h1))⟩, hs.lo⟩
  refine ⟨h.upd hi hf sp.kind sp.b sp.vS sp.other hst rfl (fun g hg => .inl (List.mem_of_mem_drop hg)) ?_ (fun p q g hp hq => ?_), hst⟩
  · cases hv9 : vE'.ownBlock with
    | none => exact .inr fun k hk => by cases hk
    | some k => exact .inl (hv k hv9).symm
  · have e1 : y.gs[n + p]? = some g := by rw [List.getElem?_drop] at hp; exact hp
    have e2 : y.gs[n + q]? = some g := by rw [List.getElem?_drop] at hq; exact hq
    have := (h.nE i i y y _ _ g hi hi e1 e2).2
    omega
/-- an entry's mark -/
theorem RAt.setE (h : RAt w B b r vS Y) {i p g : Nat} {c : Bool} {e : En} {vd : Value} (hi : Y[i]? = some y) (hs : StAt w B s y) (hp : y.gs[p]? = some g) (he : s.L[p]? = some e) (hv : y.vds[p]? = some vd) (hf : Fr (fun k => k = g) w w') (hk : Blk w' g TE [.int .i64 e.time, vd, .bool c]) :
    RAt w' B b (r.put i { s with L := s.L.set p { e with want := c } }) vS (Y.set i y) ∧ StAt w' B { s with L := s.L.set p { e with want := c } } y := by
  have sp := h.sepE hi hs hp
  have hpl : p < s.L.length := (List.getElem?_eq_some_iff.1 he).1
  obtain ⟨e0, vd0, he0, hv0, hg0⟩ := RAt.en_at hs hp
  rw [he] at he0; cases he0
  rw [hv] at hv0; cases hv0
  have hlv : lvl (s.L.set p { e with want := c }) = lvl s.L := lvl_set hpl (by rw [List.getElem?_eq_getElem hpl] at he; cases he; rfl)
  have hst : StAt w' B { s with L := s.L.set p { e with want := c } } y := ⟨by
      have h9 := hs.blk.fr hf (fun e9 => absurd ((e9 ▸ hs.blk : Blk w g TS _).ty hg0.blk) (by decide))
      dsimp only
      rw [hlv]
      exact h9, hs.row.fr hf (fun k hk' e9 => by obtain ⟨cs, hc⟩ := off_ty hs.row hk'; subst e9; exact absurd (hg0.blk.kind hc) (by decide)), by dsimp only; rw [List.length_set]; exact hs.gl, by dsimp only; rw [List.length_set]; exact hs.dl, fun j e9 hj => by
      dsimp only at hj
      by_cases ej : j = p
      · subst ej
        rw [List.getElem?_set_self hpl] at hj
        cases hj
        exact ⟨g, vd, hp, hv, hk, own_fr hg0.dat hf (fun k hk' e9 => by obtain ⟨cs, hc⟩ := own_ty hg0.dat hk'; subst e9; exact absurd (hg0.blk.kind hc) (by decide)), hg0.lo⟩
      · rw [List.getElem?_set_ne (fun e' => ej e'.symm)] at hj
        obtain ⟨g2, vd2, k1, k2, k3⟩ := hs.en j e9 hj
        exact ⟨g2, vd2, k1, k2, k3.fr hf sp.kind (fun e8 => ej (h.nE i i y y j p g hi hi (e8 ▸ k1) hp).2)⟩, hs.lo⟩
  refine ⟨h.upd hi hf sp.kind sp.b sp.vS sp.other hst rfl (fun g hg => .inl hg) (.inl rfl) (fun p q g hp hq => (h.nE i i y y _ _ g hi hi hp hq).2), hst⟩
theorem Sep.or {i : Nat} {T U : Nat → Prop} (h : Sep w b vS Y i T) (k : Sep w b vS Y i U) : Sep w b vS Y i (fun x => T x ∨ U x) where
  kind := fun x cs hx hc => by
    rcases hx with e | e
    · exact h.kind x cs e hc
    · exact k.kind x cs e hc
  b := fun e => e.elim h.b k.b
  vS := fun x hx e => e.elim (h.vS x hx) (k.vS x hx)
  other := fun j z hne hz => by
    obtain ⟨a1, a2, a3⟩ := h.other j z hne hz
    obtain ⟨c1, c2, c3⟩ := k.other j z hne hz
    exact ⟨fun e => e.elim a1 c1, fun x hx e => e.elim (a2 x hx) (c2 x hx), fun g hg e => e.elim (a3 g hg) (c3 g hg)⟩
/-- one more packet -/
theorem RAt.push {w1 w8 w9 : World} {v8 : Value} (h : RAt w B b r vS Y) {i : Nat} {s' : St} (hi : Y[i]? = some y) (hs : StAt w B s y) (hB : Below w.heap.size w w1) (he : EnAt w1 B e g vd) (hgn : w.heap.size ≤ g)
    (how : OffRow w8 B PE v8 ((y.gs ++ [g]).map ptr)) (hg : w1.grownBy w8 y.vE.ownBlock) (hb : v8.ownBlock = y.vE.ownBlock ∨ v8.ownBlock = some w1.heap.size) (hf9 : Fr (fun k => k = y.s) w8 w9) (hL : s'.L = s.L ++ [e])
    (hk9 : Blk w9 y.s TS [.int .i64 s'.id, .int .i64 s'.room, .int .i64 s'.prio, .bool s'.circ, v8, .int .i64 (lvl s'.L : Int), .int .i64 (s'.drop : Int)]) :
    RAt w9 B b (r.put i s') vS (Y.set i ⟨y.s, v8, y.gs ++ [g], y.vds ++ [vd]⟩) ∧ StAt w9 B s' ⟨y.s, v8, y.gs ++ [g], y.vds ++ [vd]⟩ := by
  have hd := hs.dl
  have sp := (h.sepS hi hs).or (h.sepR hi hs)
  have hf8 : Fr (fun k => k = y.s ∨ y.vE.ownBlock = some k) w1 w8 := (Fr.refl _ _).grown hg (fun k hk => .inl (.inr hk))
  have hf19 : Fr (fun k => k = y.s ∨ y.vE.ownBlock = some k) w1 w9 := hf8.trans (hf9.wide (fun k hk => .inl (.inl hk)))
  have hff : Fr (fun k => k = y.s ∨ y.vE.ownBlock = some k) w w9 := (Fr.of_below hB (Nat.le_refl _)).trans hf19
  have hs1 := hs.below hB (Nat.le_refl _)
  have k1 : Kind w1 (fun k => k = y.s ∨ y.vE.ownBlock = some k) := fun k cs hk hc => by
    rcases hk with e' | e'
    · subst e'; exact absurd (hs1.blk.kind hc) (by decide)
    · obtain ⟨cs', hc'⟩ := off_ty hs1.row e'; rw [hc'] at hc; simp at hc; exact absurd hc.2 (by decide)
  have hge : ∀ g' e' vd', EnAt w1 B e' g' vd' → ¬ (g' = y.s ∨ y.vE.ownBlock = some g') := fun g' e' vd' hg' hk => by
    rcases hk with e9 | e9
    · exact absurd ((e9 ▸ hg'.blk : Blk w1 y.s TE _).ty hs1.blk) (by decide)
    · obtain ⟨cs', hc'⟩ := off_ty hs1.row e9; exact absurd (hg'.blk.kind hc') (by decide)
  have hnR : ∀ k, v8.ownBlock = some k → ¬ k = y.s := fun k hk e9 => by
    rcases hb with e8 | e8
    · subst e9; obtain ⟨cs', hc'⟩ := off_ty hs1.row (by rw [← e8]; exact hk); exact absurd (hs1.blk.kind hc') (by decide)
    · rw [e8] at hk; cases hk; have := hs1.blk.lt; omega
  have hst : StAt w9 B s' ⟨y.s, v8, y.gs ++ [g], y.vds ++ [vd]⟩ := ⟨hk9, how.fr hf9 hnR, by rw [hL]; simp [hs.gl], by rw [hL]; simp [hd], fun j e' hj => by
    rw [hL] at hj
    by_cases hlt : j < s.L.length
    · rw [List.getElem?_append_left hlt] at hj
      obtain ⟨g', vd', a1, a2, a3⟩ := hs1.en j e' hj
      exact ⟨g', vd', by rw [List.getElem?_append_left (by rw [hs.gl]; exact hlt)]; exact a1, by rw [List.getElem?_append_left (by rw [hd]; exact hlt)]; exact a2, a3.fr hf19 k1 (hge _ _ _ a3)⟩
    · rw [List.getElem?_append_right (by omega)] at hj
      have hj0 : j - s.L.length = 0 := by
        have := (List.getElem?_eq_some_iff.1 hj).1
        simp at this
        omega
      rw [hj0] at hj
      cases hj
      exact ⟨g, vd, by rw [List.getElem?_append_right (by rw [hs.gl]; omega), hs.gl, hj0]; rfl, by rw [List.getElem?_append_right (by rw [hd]; omega), hd, hj0]; rfl, he.fr hf19 k1 (hge _ _ _ he)⟩, hs.lo⟩
  have hlt : ∀ g' ∈ y.gs, g' < w.heap.size := fun g' hg' => (hs.glt g' hg').2
  refine ⟨h.upd hi hff sp.kind sp.b sp.vS sp.other hst rfl (fun g' hg' => ?_) ?_ (fun p q g' hp hq => ?_), hst⟩
  · rcases List.mem_append.1 hg' with a | a
    · exact .inl a
    · rw [List.mem_singleton] at a; exact .inr (by omega)
  · rcases hb with e8 | e8
    · exact .inl e8
    · exact .inr fun k hk => by rw [e8] at hk; cases hk; exact hB.size
  · have hcase : ∀ p, (y.gs ++ [g])[p]? = some g' → (p < y.gs.length ∧ y.gs[p]? = some g') ∨ (p = y.gs.length ∧ g' = g) := fun p hp => by
      by_cases a : p < y.gs.length
      · rw [List.getElem?_append_left a] at hp; exact .inl ⟨a, hp⟩
      · rw [List.getElem?_append_right (by omega)] at hp
        have h0 : p - y.gs.length = 0 := by
          have := (List.getElem?_eq_some_iff.1 hp).1
          simp at this
          omega
        rw [h0] at hp
        cases hp
        exact .inr ⟨by omega, rfl⟩
    rcases hcase p hp with ⟨a1, a2⟩ | ⟨a1, a2⟩ <;> rcases hcase q hq with ⟨c1, c2⟩ | ⟨c1, c2⟩
    · exact (h.nE i i y y p q g' hi hi a2 c2).2
    · have := hlt g' (List.mem_of_getElem? a2); omega
    · have := hlt g' (List.mem_of_getElem? c2); omega
    · omega
end
end Go.Proofs.Ytnojmkmmfiahgaa

/- Add: what its parts do to the memory. No condition. -/
import Derived.Test.YtnojmkmmfiahgaaG
import Derived.Test.YtnojmkmmfiahgaaO
import Derived.Lib.MinMax
namespace Go.Proofs.Ytnojmkmmfiahgaa
open Go.RowKit Go.Deep Go.ChangeShapes Go.WideShapes Go.ChangeAt
set_option linter.unusedVariables false

theorem info68 : (Try.prog.info? 68).map (fun i => (i.zero, i.size, i.bytes)) = some (some (.pointer none), 1, 8) := by kernel_rfl
/-- bytes that no call of the recorder changes -/
def AB (B : Nat) (w : World) (a : Option Addr) (l : List UInt8) : Prop := BAt w a l ∧ ∀ q, a = some q → l ≠ [] → ¬ (Rk w q.block ∧ B ≤ q.block)
theorem AB.rf {B : Nat} {w w' : World} {a : Option Addr} {l : List UInt8} (h : AB B w a l) (hf : RF B w w') : AB B w' a l := by
  refine ⟨h.1.apart hf (fun q hq hne hk => h.2 q hq hne hk), fun q hq hne hk => h.2 q hq hne ⟨?_, hk.2⟩⟩
  have h1 := h.1.lt q hq hne
  obtain ⟨cs, t, m, h2, h3⟩ := hk.1
  exact ⟨cs, t, m, by rw [← hf.block q.block h1 (h.2 q hq hne)]; exact h2, h3⟩
theorem RF.of_b {B b : Nat} {w w' : World} {r : RS} {vS : Value} {Y : List SM} (h : RAt w B b r vS Y) (hf : Fr (fun k => k = b) w w') : RF B w w' :=
  hf.wide (fun k hk => by subst hk; exact .inl ⟨⟨_, TR, _, h.blk, .inr (.inr (.inl rfl))⟩, h.lo⟩)
/-- behind the clone -/
theorem addA {w w1 : World} {B b i : Nat} {t : Int} {rr : RS} {vS vd : Value} {Y : List SM} {y : SM} {s : St} {l : List UInt8} (h : RAt w B b rr vS Y) (hi : Y[i]? = some y) (hs : StAt w B s y) (hB : Below w.heap.size w w1) (hO : w1.ownsRow w.heap.size 5 1 vd l.length (encB l)) (ht : rr.now = t) :
    w1.cell? ⟨b, 1, none⟩ = some (.int .i64 t) ∧ w1.cell? ⟨y.s, 4, none⟩ = some y.vE ∧ y.s < w1.heap.size ∧ b < w1.heap.size ∧ Hid (w1.ownsRow w.heap.size 5 1 vd l.length (encB l)) ∧ Hid (Below w.heap.size w w1) := by
  subst ht
  have h1 := (h.below hB (Nat.le_refl _)).blk
  have h2 := (hs.below hB (Nat.le_refl _)).blk
  exact ⟨h1.at 1 rfl, h2.at 4 rfl, h2.lt, h1.lt, Lib.hid hO, Lib.hid hB⟩
theorem one_vat2 (w : World) (o : Obj) (x : Value) (t : TypeId) : VAt ((w.alloc o).alloc (.cells #[x] t)) (some ⟨w.heap.size + 1, 0, none⟩) [x] := by
  have h := one_vat (w.alloc o) x t
  rwa [show (w.alloc o).heap.size = w.heap.size + 1 by simp] at h
theorem own_slice {w : World} {B n : Nat} {e : TypeId} {k : Nat} {v : Value} {xs : List Value} (h : w.ownsRow B e k v n xs) : ∃ a m c, v = .slice a m c := by
  rcases h.2 with ⟨rfl, -⟩ | ⟨g, cap, cur, rfl, -⟩
  · exact ⟨_, _, _, rfl⟩
  · exact ⟨_, _, _, rfl⟩
theorem off_slice {w : World} {B : Nat} {e : TypeId} {v : Value} {xs : List Value} (h : OffRow w B e v xs) : ∃ a m c, v = .slice a m c := by
  obtain ⟨a, cap, h, -⟩ := h.vat
  exact ⟨_, _, _, h⟩
/-- behind the append -/
theorem addB {w w1 w8 : World} {B b i n : Nat} {t : Int} {rr : RS} {vS vd v8 : Value} {Y : List SM} {y : SM} {s : St} {l : List UInt8} (h : RAt w B b rr vS Y) (hi : Y[i]? = some y) (hs : StAt w B s y) (hB : Below w.heap.size w w1) (hO : w1.ownsRow w.heap.size 5 1 vd l.length (encB l)) (hn : n = lvl s.L + l.length) (ht : rr.now = t)
    (how : OffRow w8 B PE v8 (y.gs.map ptr ++ [ptr w1.heap.size])) (hg : ((w1.alloc (.cells #[.int .i64 t, vd, .bool false] 71)).alloc (.cells #[ptr w1.heap.size] 68)).grownBy w8 y.vE.ownBlock) (hb : v8.ownBlock = y.vE.ownBlock ∨ v8.ownBlock = some ((w1.alloc (.cells #[.int .i64 t, vd, .bool false] 71)).alloc (.cells #[ptr w1.heap.size] 68)).heap.size) :
    w8.cell? ⟨y.s, 5, none⟩ = some (.int .i64 (lvl s.L : Int)) ∧ w8.cell? ⟨y.s, 4, none⟩ = some y.vE ∧ w8.frozen? ⟨y.s, 4, none⟩ = false ∧ w8.frozen? ⟨y.s, 5, none⟩ = false ∧ y.s < w8.heap.size ∧ w8.cell? ⟨b, 1, none⟩ = some (.int .i64 t) ∧ b < w8.heap.size ∧
    Hid (∃ Y', RAt ((w8.setCell ⟨y.s, 4, none⟩ v8).setCell ⟨y.s, 5, none⟩ (.int .i64 (n : Int))) B b (rr.put i { s with L := s.L ++ [⟨t, l, false⟩] }) vS Y') ∧ Hid (RF B w ((w8.setCell ⟨y.s, 4, none⟩ v8).setCell ⟨y.s, 5, none⟩ (.int .i64 (n : Int)))) := by
  have hB3 := al (al hB (.cells #[.int .i64 t, vd, .bool false] 71)) (.cells #[ptr w1.heap.size] 68)
  have hs3 := hs.below hB3 (Nat.le_refl _)
  have h3 := h.below hB3 (Nat.le_refl _)
  have hBw : B ≤ w.heap.size := Nat.le_trans h.lo (Nat.le_of_lt h.blk.lt)
  have hne : ∀ cs T m, T ≠ PE → ∀ k, ((w1.alloc (.cells #[.int .i64 t, vd, .bool false] 71)).alloc (.cells #[ptr w1.heap.size] 68)).heap[k]? = some (.cells cs T m) → y.vE.ownBlock ≠ some k := fun cs T m hT k hk e => by
    obtain ⟨cs', hc'⟩ := off_ty hs3.row e
    rw [hc'] at hk
    simp at hk
    exact hT hk.2.1.symm
  have k8 : Blk w8 y.s TS _ := hs3.blk.grown hg (hne _ TS _ (by decide) _ hs3.blk)
  have b8 : Blk w8 b TR _ := h3.blk.grown hg (hne _ TR _ (by decide) _ h3.blk)
  have hf9 : Fr (fun k => k = y.s) w8 ((w8.setCell ⟨y.s, 4, none⟩ v8).setCell ⟨y.s, 5, none⟩ (.int .i64 (n : Int))) := ((Fr.refl _ _).set1 _ (by exact .inl rfl)).set1 _ (by exact .inl rfl)
  have he : EnAt ((w1.alloc (.cells #[.int .i64 t, vd, .bool false] 71)).alloc (.cells #[ptr w1.heap.size] 68)) B ⟨t, l, false⟩ w1.heap.size vd :=
    ⟨(Blk.new w1 71 [.int .i64 t, vd, .bool false]).alloc _, own_base (own_below hO (al (al (Below.refl _ _) _) _) (Nat.le_refl _)) hBw, Nat.le_trans hBw hB.size⟩
  have hp := h.push (s' := { s with L := s.L ++ [⟨t, l, false⟩] }) (v8 := v8) hi hs hB3 he hB.size (by simpa using how) hg hb hf9 rfl (by
    have h9 := (k8.setCell 4 v8).setCell 5 (.int .i64 (n : Int))
    dsimp only
    rw [lvl_append, show lvl s.L + lvl [⟨t, l, false⟩] = n by rw [hn]; simp [lvl]]
    exact Blk.cast h9 rfl)
  refine ⟨k8.at 5 rfl, k8.at 4 rfl, k8.free 4, k8.free 5, k8.lt, ht ▸ b8.at 1 rfl, b8.lt, Lib.hid ⟨_, hp.1⟩, Lib.hid ?_⟩
  have h1 : RF B w ((w1.alloc (.cells #[.int .i64 t, vd, .bool false] 71)).alloc (.cells #[ptr w1.heap.size] 68)) := RF.of_below hB3
  refine h1.trans (Fr.trans (b := w8) ((Fr.refl _ _).grown hg (fun k hk => .inl ?_)) (hf9.wide fun k hk => ?_))
  · obtain ⟨cs', hc'⟩ := off_ty hs3.row hk
    exact ⟨⟨cs', PE, _, hc', .inr (.inr (.inr (.inr rfl)))⟩, (hs3.row.lt k hk).1⟩
  · subst hk
    exact .inl ⟨⟨_, TS, _, hs3.blk, .inr (.inl rfl)⟩, hs.lo⟩
end Go.Proofs.Ytnojmkmmfiahgaa

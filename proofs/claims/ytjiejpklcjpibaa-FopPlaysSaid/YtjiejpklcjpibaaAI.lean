/- FopPlays: what a round keeps; the calls that came in. No condition. -/
import Derived.Test.YtjiejpklcjpibaaAH
import Derived.Test.YtjiejpklcjpibaaT
namespace Go.Proofs.Ytjiejpklcjpibaa
open Go.RowKit Go.Deep Go.ChangeShapes Go.WideShapes Go.ChangeAt
set_option linter.unusedVariables false

/-- no place for the sending end's data: the arguments and the reference's variable -/
def Zx (w : World) (br k : Nat) : Prop := k < w.heap.size ∨ k = br
/-- no place for the reference's data -/
def Zs (w : World) (br b : Nat) (vU : Value) (k : Nat) : Prop := k < w.heap.size ∨ k = br ∨ k = b ∨ vU.ownBlock = some k
/-- a sending end q, and the reference's p -/
structure FM (w wr : World) (br b : Nat) (q p : FS) (vU vC rU rC : Value) : Prop where
  at_ : FAt wr (Zx w br) b q vU vC
  ref : Blk wr br 54 (rfc p rU rC)
  un : SAt wr (Zs w br b vU) rU p.units
  ct : CAt wr (Zs w br b vU) rC p.ctls
  okq : q.Ok
  ok : p.Ok
  ne : b ≠ br
  nw : ∀ k, vU.ownBlock = some k → k ≠ br
  hb : w.heap.size ≤ b
  hr : w.heap.size ≤ br
  bel : Below w.heap.size w wr
section
variable {w wr w1 w2 : World} {br b : Nat} {q p q' p' : FS} {vU vC rU rC vU' vC' rU' rC' : Value}
theorem FM.below (h : FM w wr br b q p vU vC rU rC) (hB : Below wr.heap.size wr w1) : FM w w1 br b q p vU vC rU rC :=
  ⟨h.at_.below hB (Nat.le_refl _), h.ref.below hB (Nat.le_refl _), h.un.below hB (Nat.le_refl _), h.ct.below hB (Nat.le_refl _), h.okq, h.ok, h.ne, h.nw, h.hb, h.hr, h.bel.trans (hB.mono h.bel.size)⟩
theorem FM.mine (h : FM w wr br b q p vU vC rU rC) (hF : Fr (Mine b vU) wr w1) : Below w.heap.size w w1 :=
  h.bel.trans (hF.toBelow h.bel.size (fun k hk => by
    rcases hk with e | e
    · have := h.hb; omega
    · have := (h.at_.row k e).1; have := h.hb; omega))
theorem FM.lt (h : FM w wr br b q p vU vC rU rC) : ∀ k, Zs w br b vU k → k < wr.heap.size := fun k hk => by
  have h1 := h.bel.size
  have h2 := h.at_.blk.lt
  have h3 := h.ref.lt
  rcases hk with e | e | e | e
  · omega
  · omega
  · omega
  · exact (h.at_.row k e).2
/-- a call of the sending end -/
theorem FM.prog (h : FM w wr br b q p vU vC rU rC) (hP : FAt w1 (Zx w br) b q' vU' vC') (ok : q'.Ok) (hF : Fr (Mine b vU) wr w1) (hC : vU'.ownBlock = vU.ownBlock ∨ ∀ k, vU'.ownBlock = some k → wr.heap.size ≤ k) : FM w w1 br b q' p vU' vC' rU rC := by
  have hr := h.ref.lt
  have hY : ∀ k, (Zs w br b vU k ∨ Zs w br b vU' k) → Zs w br b vU k ∨ wr.heap.size ≤ k := fun k hk => by
    rcases hk with e | e | e | e | e
    · exact .inl e
    · exact .inl (.inl e)
    · exact .inl (.inr (.inl e))
    · exact .inl (.inr (.inr (.inl e)))
    · rcases hC with e9 | e9
      · exact .inl (.inr (.inr (.inr (by rw [← e9]; exact e))))
      · exact .inr (e9 k e)
  have hM : ∀ k, Mine b vU k → (Zs w br b vU k ∨ Zs w br b vU' k) ∨ wr.heap.size ≤ k := fun k hk => by
    rcases hk with e | e
    · exact .inl (.inl (.inr (.inr (.inl e))))
    · exact .inl (.inl (.inr (.inr (.inr e))))
  refine ⟨hP, h.ref.fr hF (fun e => ?_), ((h.un.grow hY).fr hF hM).grow (fun k hk => .inl (.inr hk)), ((h.ct.grow hY).fr hF hM).grow (fun k hk => .inl (.inr hk)), ok, h.ok, h.ne, fun k hk => ?_, h.hb, h.hr, h.mine hF⟩
  · rcases e with e | e
    · exact h.ne e.symm
    · exact h.nw _ e rfl
  · rcases hC with e | e
    · exact h.nw k (by rw [← e]; exact hk)
    · have := e k hk; omega
/-- a call of the reference -/
theorem FM.refr (h : FM w wr br b q p vU vC rU rC) (hB : Below wr.heap.size wr w1) (hS : SAt w1 (Zs w br b vU) rU' p'.units) (hT : CAt w1 (Zs w br b vU) rC' p'.ctls) (hK : Blk w2 br 54 (rfc p' rU' rC')) (hF : Fr (fun k => k = br) w1 w2) (ok : p'.Ok) : FM w w2 br b q p' vU vC rU' rC' :=
  ⟨(h.at_.below hB (Nat.le_refl _)).fr hF (fun e => h.ne e) (fun k hk => h.nw k hk) (fun k hk => .inl (.inr hk)), hK, hS.fr hF (fun k hk => .inl (.inr (.inl hk))), hT.fr hF (fun k hk => .inl (.inr (.inl hk))), h.okq, ok, h.ne, h.nw, h.hb, h.hr,
    (h.bel.trans (hB.mono h.bel.size)).trans (hF.toBelow (by have := h.bel.size; have := hB.size; omega) (fun k hk => by have := h.hr; omega))⟩
/-- the sending end is replaced by its copy, and the old one is used -/
theorem FM.clone (h : FM w wr br b p p vU vC rU rC) (hc : FAt w1 (Av (Zx w br) b vU) wr.heap.size p vU' vC') (hw : ∀ k, vU'.ownBlock = some k → wr.heap.size < k) (hB : Below wr.heap.size wr w1) (hF : Fr (Mine b vU) w1 w2) : FM w w2 br wr.heap.size p p vU' vC' rU rC := by
  have hr := h.ref.lt
  have hb := h.at_.blk.lt
  have hm : ∀ k, Mine b vU k → k < wr.heap.size := fun k hk => by
    rcases hk with e | e
    · omega
    · exact (h.at_.row k e).2
  have h1 := h.below hB
  have hp : FAt w2 (Av (Zx w br) b vU) wr.heap.size p vU' vC' := hc.fr hF (fun e => by have := hm _ e; omega) (fun k hk e => by have := hm _ e; have := hw k hk; omega) (fun k hk => .inl (by
    rcases hk with e | e
    · exact .inr (.inl e)
    · exact .inr (.inr e)))
  have hs2 := hp.blk.lt
  have hY : ∀ k, (Zs w br b vU k ∨ Zs w br wr.heap.size vU' k) → Zs w br b vU k ∨ wr.heap.size ≤ k := fun k hk => by
    rcases hk with e | e | e | e | e
    · exact .inl e
    · exact .inl (.inl e)
    · exact .inl (.inr (.inl e))
    · exact .inr (by omega)
    · exact .inr (by have := hw k e; omega)
  have hM : ∀ k, Mine b vU k → (Zs w br b vU k ∨ Zs w br wr.heap.size vU' k) ∨ w1.heap.size ≤ k := fun k hk => by
    rcases hk with e | e
    · exact .inl (.inl (.inr (.inr (.inl e))))
    · exact .inl (.inl (.inr (.inr (.inr e))))
  refine ⟨hp.less (fun k hk => .inl (.inl hk)) (fun k hk => ?_), h1.ref.fr hF (fun e => ?_), (((h.un.grow hY).below hB (Nat.le_refl _)).fr hF hM).grow (fun k hk => .inl (.inr hk)), (((h.ct.grow hY).below hB (Nat.le_refl _)).fr hF hM).grow (fun k hk => .inl (.inr hk)), h.ok, h.ok, by omega, fun k hk => by have := hw k hk; omega, by have := h.bel.size; omega, h.hr, h1.mine hF⟩
  · rcases hk with e | e
    · have := h.bel.size; omega
    · omega
  · rcases e with e | e
    · exact h.ne e.symm
    · exact h.nw _ e rfl
end
/-! ### arguments -/
/-- a call -/
structure OpF where
  call : Int
  dt : Int
  data : List UInt8
  word : Cw
instance : Inhabited OpF := ⟨⟨0, 0, [], ⟨0, false, false, false, 0, 0⟩⟩⟩
/-- a slice of calls -/
def Opl (w : World) (v : Value) (l : List OpF) : Prop :=
  ∃ a cap, v = .slice a l.length cap ∧ l.length ≤ cap ∧ (l = [] ∨ ∃ b off, a = some ⟨b, off, none⟩ ∧ b < w.heap.size ∧ ∀ i (h : i < l.length), ∃ a' c', (∀ j u, ([.int .i64 l[i].call, .int .i64 l[i].dt, .slice a' l[i].data.length c'] ++ cwC l[i].word)[j]? = some u → w.cell? ⟨b, off + (i * 9 + j), none⟩ = some u) ∧
    BAt w a' l[i].data)
section
variable {H : Type} {enc : TypeId × Value → H} {w : World} {base : Nat}
theorem op_cells {n : Nat} {cs : List Value} {x : DataW H × List MemPlace} (h : DataW.trod enc Try.prog w base (fun _ => true) true n 57 cs = some x) :
    ∃ (p : OpF) (a : Option Addr) (cap : Nat), cs = [.int .i64 p.call, .int .i64 p.dt, .slice a p.data.length cap] ++ cwC p.word ∧ BAt w a p.data := by
  obtain ⟨xs, m, _, _, hlc, hlen, hg⟩ := DataW.trod_struct Try.underlying57 h
  have hlc' : cs.length = 9 := hlc.trans (by kernel_rfl)
  have c40 : Try.prog.cellsOf 40 = 6 := by kernel_rfl
  match cs, hlc' with
  | [c0, c1, c2, c3, c4, c5, c6, c7, c8], _ =>
    match xs, hlen with
    | [x0, x1, x2, x3], _ =>
      have e0 := hg 0 _ rfl
      have e1 := hg 1 _ rfl
      have e2 := hg 2 _ rfl
      have e3 := hg 3 _ rfl
      obtain ⟨z0, h0, _⟩ := one_int Try.underlying3 e0
      obtain ⟨z1, h1, _⟩ := one_int Try.underlying3 e1
      obtain ⟨a, cap, l, h2, k1, k2, k3, k4⟩ := bytes_trod Try.underlying23 Try.underlying5 (by kernel_rfl) e2
      obtain ⟨c, h3, _⟩ := cw_cells e3
      have h3' : List.take (Try.prog.cellsOf 40) (List.drop 3 [c0, c1, c2, c3, c4, c5, c6, c7, c8]) = cwC c := h3
      rw [c40] at h3'
      obtain rfl : c0 = .int .i64 z0 := (List.cons.inj h0).1
      obtain rfl : c1 = .int .i64 z1 := (List.cons.inj h1).1
      subst h2
      exact ⟨⟨z0, z1, l, c⟩, a, cap, by rw [← h3']; rfl, k3⟩
theorem arg_ops {r : Reach} {b0 : Nat} {v : Value} {d : DataW H} {ps : List MemPlace} (hv : Value.okWide Try.prog w r b0 51 v) (h : DataW.Trod enc Try.prog w base (fun _ => true) true 51 v d ps) : ∃ l : List OpF, Opl w v l := by
  obtain ⟨a, len, cap, m, n, C, rfl, hl, hm, _, _, hlm, _, hC, hcell⟩ := open_rows Try.underlying51 (c := 9) (by kernel_rfl) (by omega) hv h
  have h1 : ∀ i, i < len → ∃ p : OpF, ∃ (a : Option Addr) (cap : Nat), C i = [.int .i64 p.call, .int .i64 p.dt, .slice a p.data.length cap] ++ cwC p.word ∧ BAt w a p.data := fun i hi => by
    obtain ⟨_, x, hx⟩ := hC i (by omega)
    exact op_cells hx
  obtain ⟨P, hP⟩ := choose_lt h1
  have hlen : ((List.range len).map P).length = len := by simp
  refine ⟨(List.range len).map P, a, cap, by rw [hlen], by rw [hlen]; exact hl, ?_⟩
  rcases hcell with h0 | ⟨b, off, rfl, hb, hc⟩
  · left
    have : len = 0 := by omega
    subst this
    rfl
  · refine .inr ⟨b, off, rfl, hb, fun i hi => ?_⟩
    have hi' : i < len := by simpa using hi
    obtain ⟨a', c', h1, h2⟩ := hP i hi'
    have e : ((List.range len).map P)[i] = P i := by simp
    rw [e]
    refine ⟨a', c', fun j u hj => ?_, h2⟩
    rw [← h1] at hj
    rw [hc i (by omega) j (by
      have := (List.getElem?_eq_some_iff.1 hj).1
      have := (hC i (by omega)).1
      omega)]
    exact hj
theorem op_of {v : Value} {l : List OpF} (h : Opl w v l) {i n : Nat} (hn : n = l.length) (hi : i < n) : ∃ b off cap o ax cx, v = .slice (some ⟨b, off, none⟩) n cap ∧ b < w.heap.size ∧ n ≤ cap ∧ l[i]? = some o ∧
    (∀ j u, ([.int .i64 o.call, .int .i64 o.dt, .slice ax o.data.length cx] ++ cwC o.word)[j]? = some u → w.cell? ⟨b, off + (i * 9 + j), none⟩ = some u) ∧ BAt w ax o.data := by
  subst hn
  obtain ⟨a, cap, rfl, hc, hl⟩ := h
  obtain ⟨b, off, rfl, hb, hcell⟩ := hl.resolve_left (fun e => by rw [e] at hi; simp at hi)
  obtain ⟨ax, cx, k⟩ := hcell i hi
  exact ⟨b, off, cap, l[i], ax, cx, rfl, hb, hc, by rw [List.getElem?_eq_getElem hi], k⟩
/-- the setup -/
theorem arg_setup {r : Reach} {b0 : Nat} {v : Value} {d : DataW H} {ps : List MemPlace} (hv : Value.okWide Try.prog w r b0 50 v) (h : DataW.Trod enc Try.prog w base (fun _ => true) true 50 v d ps) :
    ∃ z0 z1 z2 z3 z4 : Int, v = .agg #[.int .i64 z0, .int .i64 z1, .int .i64 z2, .int .i64 z3, .int .i64 z4] := by
  obtain ⟨⟨cs⟩, rfl, hsz⟩ := okWide_struct Try.underlying50 hv
  obtain ⟨fuel, hf⟩ := h
  obtain ⟨xs, m, _, _, hlc, hlen, hg⟩ := DataW.trod_struct Try.underlying50 (cs := cs) (by simpa [Value.cells] using hf)
  have hlc' : cs.length = 5 := hlc.trans (by kernel_rfl)
  match cs, hlc' with
  | [c0, c1, c2, c3, c4], _ =>
    match xs, hlen with
    | [x0, x1, x2, x3, x4], _ =>
      have e0 := hg 0 _ rfl
      have e1 := hg 1 _ rfl
      have e2 := hg 2 _ rfl
      have e3 := hg 3 _ rfl
      have e4 := hg 4 _ rfl
      obtain ⟨z0, h0, _⟩ := one_int Try.underlying3 e0
      obtain ⟨z1, h1, _⟩ := one_int Try.underlying3 e1
      obtain ⟨z2, h2, _⟩ := one_int Try.underlying3 e2
      obtain ⟨z3, h3, _⟩ := one_int Try.underlying3 e3
      obtain ⟨z4, h4, _⟩ := one_int Try.underlying3 e4
      obtain rfl : c0 = .int .i64 z0 := (List.cons.inj h0).1
      obtain rfl : c1 = .int .i64 z1 := (List.cons.inj h1).1
      obtain rfl : c2 = .int .i64 z2 := (List.cons.inj h2).1
      obtain rfl : c3 = .int .i64 z3 := (List.cons.inj h3).1
      obtain rfl : c4 = .int .i64 z4 := (List.cons.inj h4).1
      exact ⟨z0, z1, z2, z3, z4, rfl⟩
end
def ofC (o : OpF) (ax : Option Addr) (m cx : Nat) : List Value := [.int .i64 o.call, .int .i64 o.dt, .slice ax m cx, .int .i64 o.word.chan, .bool o.word.lock, .bool o.word.wait, .bool o.word.retr, .int .i64 o.word.byp, .int .i64 o.word.next]
theorem start_at {w w4 w5 : World} {B br b : Nat} {f : FS} {vU vC : Value} (h : FAt w4 (fun k => k < B) b f vU vC) (hB : Below w4.heap.size w4 w5) (hw : w.heap.size ≤ B) (hbr : br = w4.heap.size) (h4 : w.heap.size ≤ w4.heap.size) (h5 : br < w5.heap.size) : FAt w5 (Zx w br) b f vU vC := by
  obtain ⟨us, h1, h2⟩ := h.units
  have hY : ∀ k, Av (Zx w br) b vU k → Av (fun k => k < B) b vU k ∨ w4.heap.size ≤ k := fun k hk => by
    rcases hk with (e | e) | e
    · exact .inl (.inl (by show k < B; omega))
    · exact .inr (by omega)
    · exact .inl (.inr e)
  exact ⟨h.blk.below hB (Nat.le_refl _), ⟨us, h1.below hB (Nat.le_refl _), (h2.grow hY).below hB (Nat.le_refl _)⟩, (h.ctls.grow hY).below hB (Nat.le_refl _), fun k hk => by
    have := hB.size
    rcases hk with e | e <;> omega⟩
/-! ### Acked -/
theorem FS.acked_send (f : FS) (d : List UInt8) : (f.send d).1.acked = f.acked := by
  unfold FS.send
  split
  · rfl
  · split <;> rfl
theorem FS.acked_unlock (f : FS) (t : Int) : (f.unlock t).acked = f.acked := rfl
end Go.Proofs.Ytjiejpklcjpibaa

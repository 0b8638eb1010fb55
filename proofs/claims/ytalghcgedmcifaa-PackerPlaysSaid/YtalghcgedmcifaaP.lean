/- Plain laws of PackerKeeps and PackerPoints: what Next gives, the packets' boundaries. No condition. -/
import Derived.Test.YtalghcgedmcifaaY
namespace Go.Proofs.Ytalghcgedmcifaa
open Go.RowKit Go.Deep Go.ChangeShapes Go.WideShapes Go.ChangeAt
set_option linter.unusedVariables false

/-- the bytes that wait -/
def PS.data (p : PS) : List UInt8 := p.L.flatten.drop p.taken
/-- what is left of a packet that was begun -/
def PS.hd (p : PS) : List UInt8 := match p.L with | [] => [] | x :: _ => if p.taken = 0 then [] else x.drop p.taken
def PS.pend (p : PS) : List UInt8 := p.rest ++ p.hd
theorem take_of (p : PS) (x : List UInt8) (xs : List (List UInt8)) (e : p.L = x :: xs) (m : Nat) : p.take m = if m < x.length - p.taken then ({ p with taken := p.taken + m, left := p.left - m }, (x.drop p.taken).take m) else ({ p with L := xs, taken := 0, left := p.left - (x.length - p.taken) }, x.drop p.taken) := by
  unfold PS.take
  rw [e]
theorem take_data {p : PS} (ok : p.Ok) (hL : p.L ≠ []) (m : Nat) : (p.take m).2 ++ (p.take m).1.data = p.data := by
  cases e : p.L with
  | nil => exact absurd e hL
  | cons x xs =>
    have ht := ok.taken x xs e
    rw [take_of p x xs e]
    split
    · unfold PS.data
      dsimp only
      rw [e, List.flatten_cons, List.drop_append_of_le_length (by omega), List.drop_append_of_le_length (by omega), ← List.append_assoc, ← List.drop_drop, List.take_append_drop]
    · unfold PS.data
      dsimp only
      rw [e, List.flatten_cons, List.drop_append_of_le_length (by omega), List.drop_zero]
theorem data_len {p : PS} (ok : p.Ok) : p.data.length = p.left := by
  unfold PS.data
  rw [List.length_drop]
  have := ok.left
  omega
theorem data_none {p : PS} (ok : p.Ok) (h : p.data = []) : p.L = [] := by
  cases e : p.L with
  | nil => rfl
  | cons x xs =>
    have h1 := congrArg List.length h
    rw [data_len ok] at h1
    have h2 := ok.left
    rw [e, List.flatten_cons, List.length_append] at h2
    have := ok.taken x xs e
    simp at h1
    omega
theorem fill_data (m : Nat) : ∀ (p : PS) (out : List UInt8) (f : Int), p.Ok → out.length ≤ p.size → p.L.length < m →
    (PS.fill m p out f).2.1 = out ++ p.data.take (p.size - out.length) ∧ (PS.fill m p out f).1.data = p.data.drop (p.size - out.length) := by
  induction m with
  | zero => intro p out f ok hs hm; omega
  | succ m ih =>
    intro p out f ok hs hm
    by_cases hc : out.length < p.size ∧ p.L ≠ []
    · rw [fill_more _ _ _ _ hc]
      obtain ⟨h1, h2⟩ := take_len ok hc.2 (p.size - out.length)
      have h3 := take_data ok hc.2 (p.size - out.length)
      obtain ⟨e1, -, -⟩ := p.take_size (p.size - out.length)
      obtain ⟨n, hn⟩ : ∃ n, n = p.size - out.length := ⟨_, rfl⟩
      rw [← hn] at h1 h2 h3 e1 ⊢
      have ok2 := PS.ok_take ok n
      rcases h2 with h2 | h2
      · obtain ⟨k1, k2⟩ := ih (p.take n).1 (out ++ (p.take n).2) (firstP p out f) ok2 (by rw [e1, List.length_append]; omega) (by omega)
        rw [k1, k2, e1, ← h3, List.append_assoc, List.length_append, show p.size - (out.length + (p.take n).2.length) = n - (p.take n).2.length by omega]
        refine ⟨by rw [List.take_append, List.take_of_length_le h1], ?_⟩
        rw [List.drop_append, List.drop_eq_nil_of_le h1, List.nil_append]
      · rw [fill_done _ _ _ _ (by rw [e1, List.length_append]; omega), ← h3]
        generalize (p.take n).1.data = D at h3 ⊢
        generalize (p.take n).2 = t at h1 h2 ⊢
        subst h2
        exact ⟨by simp, by simp⟩
    · rw [fill_done _ _ _ _ hc]
      dsimp only
      by_cases h2 : p.L = []
      · have : p.data = [] := by unfold PS.data; rw [h2]; simp
        rw [this]
        simp
      · have : p.size - out.length = 0 := by
          have : ¬ out.length < p.size := fun h => hc ⟨h, h2⟩
          omega
        rw [this]
        simp
theorem fill_fits (m : Nat) (p : PS) (out : List UInt8) (f : Int) (ok : p.Ok) (hs : out.length ≤ p.size) (hm : p.L.length < m) :
    (PS.fill m p out f).2.1.length ≤ p.size ∧ ((PS.fill m p out f).2.1.length < p.size → (PS.fill m p out f).1.L = []) := by
  obtain ⟨h1, h2⟩ := fill_data m p out f ok hs hm
  have ok2 := (PS.ok_fill m ok out f).1
  refine ⟨by rw [h1, List.length_append, List.length_take]; omega, fun hl => data_none ok2 ?_⟩
  rw [h2]
  rw [h1, List.length_append, List.length_take] at hl
  exact List.drop_eq_nil_of_le (by omega)
theorem take_mem (p : PS) (m : Nat) : ∀ x ∈ (p.take m).1.L, x ∈ p.L := by
  intro x hx
  cases e : p.L with
  | nil => unfold PS.take at hx; rw [e] at hx; dsimp only at hx; rw [e] at hx; exact hx
  | cons y ys =>
    rw [take_of p y ys e] at hx
    split at hx
    · dsimp only at hx; rw [e] at hx; exact hx
    · exact List.mem_cons_of_mem _ hx
/-- every one of the packets begins ahead of n -/
def Begins (E : List (List UInt8)) (o n : Nat) : Prop := ∀ E1 y E2, E = E1 ++ y :: E2 → o + E1.flatten.length < n
theorem Begins.nil (o n : Nat) : Begins [] o n := fun E1 y E2 h => by simp at h
structure FillE (p q : PS) (out out' : List UInt8) (f f' : Int) (E : List (List UInt8)) : Prop where
  mem : ∀ x ∈ E, x ∈ p.L
  keep : ∀ x ∈ q.L, x ∈ p.L
  eq : ∃ t, out' = out ++ t ∧ p.hd ++ E.flatten = t ++ q.hd
  first : f' = if f ≠ 2047 then f else if E = [] then 2047 else ((out.length + p.hd.length : Nat) : Int)
  room : E ≠ [] → out.length + p.hd.length < p.size
  begins : Begins E (out.length + p.hd.length) out'.length
theorem take_hd0 {p : PS} (ok : p.Ok) (x : List UInt8) (xs : List (List UInt8)) (e : p.L = x :: xs) (h0 : p.taken = 0) (m : Nat) (hm : 0 < m) : x = (p.take m).2 ++ (p.take m).1.hd ∧ 0 < (p.take m).2.length := by
  have ht := ok.taken x xs e
  rw [take_of p x xs e]
  split
  · unfold PS.hd
    dsimp only
    rw [e, h0]
    dsimp only
    rw [if_neg (by omega), List.drop_zero, Nat.zero_add, List.take_append_drop, List.length_take]
    exact ⟨rfl, by omega⟩
  · unfold PS.hd
    dsimp only
    rw [h0, List.drop_zero]
    refine ⟨?_, by omega⟩
    split
    · simp
    · simp
theorem take_hd1 {p : PS} (ok : p.Ok) (x : List UInt8) (xs : List (List UInt8)) (e : p.L = x :: xs) (h0 : p.taken ≠ 0) (m : Nat) : p.hd = (p.take m).2 ++ (p.take m).1.hd := by
  have ht := ok.taken x xs e
  have h1 : p.hd = x.drop p.taken := by unfold PS.hd; rw [e]; dsimp only; rw [if_neg h0]
  rw [h1, take_of p x xs e]
  split
  · unfold PS.hd
    dsimp only
    rw [e]
    dsimp only
    rw [if_neg (by omega), ← List.drop_drop, List.take_append_drop]
  · unfold PS.hd
    dsimp only
    split
    · simp
    · simp
theorem fill_E (m : Nat) : ∀ (p : PS) (out : List UInt8) (f : Int), p.Ok → out.length ≤ p.size → ∃ E, FillE p (PS.fill m p out f).1 out (PS.fill m p out f).2.1 f (PS.fill m p out f).2.2 E := by
  have done : ∀ (p : PS) (out : List UInt8) (f : Int), ∃ E, FillE p p out out f f E := fun p out f =>
    ⟨[], by simp, fun x hx => hx, ⟨[], by simp, by simp⟩, by simp, by simp, Begins.nil _ _⟩
  induction m with
  | zero => intro p out f ok hs; exact done p out f
  | succ m ih =>
    intro p out f ok hs
    by_cases hc : out.length < p.size ∧ p.L ≠ []
    · rw [fill_more _ _ _ _ hc]
      obtain ⟨h1, -⟩ := take_len ok hc.2 (p.size - out.length)
      obtain ⟨e1, -, -⟩ := p.take_size (p.size - out.length)
      obtain ⟨n, hn⟩ : ∃ n, n = p.size - out.length := ⟨_, rfl⟩
      rw [← hn] at h1 e1 ⊢
      have ok2 := PS.ok_take ok n
      obtain ⟨x, xs, e⟩ : ∃ x xs, p.L = x :: xs := by
        cases e : p.L with
        | nil => exact absurd e hc.2
        | cons x xs => exact ⟨x, xs, rfl⟩
      obtain ⟨E, hE⟩ := ih (p.take n).1 (out ++ (p.take n).2) (firstP p out f) ok2 (by rw [e1, List.length_append]; omega)
      obtain ⟨t, ht1, ht2⟩ := hE.eq
      have hsz := ok.size
      have hmm := take_mem p n
      by_cases h0 : p.taken = 0
      · obtain ⟨hx, hpos⟩ := take_hd0 ok x xs e h0 n (by omega)
        have hhd : p.hd = [] := by unfold PS.hd; rw [e]; dsimp only; rw [if_pos h0]
        have hxl := congrArg List.length hx
        rw [List.length_append] at hxl
        refine ⟨x :: E, ?_, fun y hy => hmm y (hE.keep y hy), ⟨(p.take n).2 ++ t, by rw [ht1, List.append_assoc], ?_⟩, ?_, fun _ => by rw [hhd]; simpa using hc.1, ?_⟩
        · intro y hy
          rcases List.mem_cons.1 hy with rfl | hy
          · rw [e]; exact List.mem_cons_self
          · exact hmm y (hE.mem y hy)
        · rw [hhd, List.nil_append, List.flatten_cons, List.append_assoc, ← ht2, ← List.append_assoc, ← hx]
        · rw [hE.first, hhd]
          unfold firstP
          by_cases hf : f = 2047
          · have hb : (if p.taken = 0 ∧ f = 2047 then (out.length : Int) else f) = (out.length : Int) := if_pos ⟨h0, hf⟩
            rw [hb, if_pos (by omega), if_neg (by simpa using hf), if_neg (by simp)]
            simp
          · have hb : (if p.taken = 0 ∧ f = 2047 then (out.length : Int) else f) = f := if_neg (fun h => hf h.2)
            rw [hb, if_pos hf, if_pos hf]
        · intro E1 y E2 hy
          have hlen : out.length < (PS.fill m (p.take n).1 (out ++ (p.take n).2) (firstP p out f)).2.1.length := by rw [ht1, List.length_append, List.length_append]; omega
          cases E1 with
          | nil => rw [hhd]; simpa using hlen
          | cons z E1 =>
            rw [List.cons_append] at hy
            have hz := (List.cons.inj hy).1
            have hy := (List.cons.inj hy).2
            have := hE.begins E1 y E2 hy
            rw [List.length_append] at this
            rw [hhd, ← hz, List.flatten_cons, List.length_append, List.length_nil]
            omega
      · have hx := take_hd1 ok x xs e h0 n
        have hxl := congrArg List.length hx
        rw [List.length_append] at hxl
        have hl2 : (out ++ (p.take n).2).length + (p.take n).1.hd.length = out.length + p.hd.length := by rw [List.length_append]; omega
        refine ⟨E, fun y hy => hmm y (hE.mem y hy), fun y hy => hmm y (hE.keep y hy), ⟨(p.take n).2 ++ t, by rw [ht1, List.append_assoc], ?_⟩, ?_, fun h => ?_, ?_⟩
        · rw [hx, List.append_assoc, ht2, List.append_assoc]
        · rw [hE.first, hl2]
          unfold firstP
          have hb : (if p.taken = 0 ∧ f = 2047 then (out.length : Int) else f) = f := if_neg (fun h => h0 h.1)
          rw [hb]
        · have := hE.room h
          rw [hl2, e1] at this
          exact this
        · have := hE.begins
          rw [hl2] at this
          exact this
    · rw [fill_done _ _ _ _ hc]
      exact done p out f
structure NextE (p q : PS) (out : List UInt8) (f : Int) (E : List (List UInt8)) : Prop where
  mem : ∀ x ∈ E, x ∈ p.L ∨ ∃ n, 1 ≤ n ∧ n ≤ 4090 ∧ x = bytesP (idlePk n)
  keep : ∀ x ∈ q.L, x ∈ p.L
  eq : p.pend ++ E.flatten = out ++ q.pend
  len : out.length = p.size
  size : q.size = p.size
  first : f = if p.pend.length < p.size then (p.pend.length : Int) else 2047
  begins : Begins E p.pend.length out.length
theorem next_is (p : PS) (h : p.left ≠ 0) : p.next = ((PS.close (PS.fill (p.L.length + 1) p.begin (p.rest.take (min p.rest.length p.size)) 2047)).1, some (PS.close (PS.fill (p.L.length + 1) p.begin (p.rest.take (min p.rest.length p.size)) 2047)).2) := by
  unfold PS.next
  rw [if_neg h]
theorem next_E (p : PS) (ok : p.Ok) (h : p.left ≠ 0) : ∃ q out f E, p.next = (q, some (out, f)) ∧ NextE p q out f E := by
  have okb := PS.ok_begin ok
  have hsz := ok.size
  have hr := ok.rest
  have hhd : p.begin.hd = p.hd := rfl
  have hbr : p.begin.rest = p.rest.drop (min p.rest.length p.size) := rfl
  have ho : (p.rest.take (min p.rest.length p.size)).length = min p.rest.length p.size := by rw [List.length_take]; omega
  have hrr : p.rest.take (min p.rest.length p.size) ++ p.rest.drop (min p.rest.length p.size) = p.rest := List.take_append_drop _ _
  obtain ⟨E, hE⟩ := fill_E (p.L.length + 1) p.begin (p.rest.take (min p.rest.length p.size)) 2047 okb (by rw [ho]; show _ ≤ p.size; omega)
  obtain ⟨f1, f2⟩ := fill_fits (p.L.length + 1) p.begin (p.rest.take (min p.rest.length p.size)) 2047 okb (by rw [ho]; show _ ≤ p.size; omega) (Nat.lt_succ_self _)
  obtain ⟨g1, g2, g3⟩ := PS.ok_fill (p.L.length + 1) okb (p.rest.take (min p.rest.length p.size)) 2047
  rw [next_is p h]
  obtain ⟨r, hrd⟩ : ∃ r, r = PS.fill (p.L.length + 1) p.begin (p.rest.take (min p.rest.length p.size)) 2047 := ⟨_, rfl⟩
  rw [← hrd] at hE f1 f2 g1 g2 g3 ⊢
  obtain ⟨q, out, f⟩ := r
  dsimp only at hE f1 f2 g1 g2 g3
  clear hrd
  have g2' : q.size = p.size := g2
  have f1' : out.length ≤ p.size := f1
  obtain ⟨t, ht1, ht2⟩ := hE.eq
  have hfirst := hE.first
  rw [if_neg (by simp)] at hfirst
  have hroom := hE.room
  have hbeg := hE.begins
  rw [hhd] at ht2 hfirst hroom hbeg
  rw [ho] at hfirst hroom hbeg
  have hroom' : E ≠ [] → p.rest.length < p.size ∧ p.pend.length = min p.rest.length p.size + p.hd.length := fun h => by
    have h1 : min p.rest.length p.size + p.hd.length < p.size := hroom h
    unfold PS.pend
    rw [List.length_append]
    omega
  have htl := congrArg List.length ht1
  rw [List.length_append, ho] at htl
  have ht2l := congrArg List.length ht2
  rw [List.length_append, List.length_append] at ht2l
  have hmem : ∀ x ∈ E, x ∈ p.L := hE.mem
  have hkeep : ∀ x ∈ q.L, x ∈ p.L := hE.keep
  have hpl : p.pend.length = p.rest.length + p.hd.length := by unfold PS.pend; rw [List.length_append]
  by_cases hf : out.length < p.size
  · have hL := f2 hf
    have hq : q.hd = [] := by unfold PS.hd; rw [hL]
    have hrl : p.rest.length < p.size := by omega
    have hmr : min p.rest.length p.size = p.rest.length := by omega
    have hd0 : p.rest.take (min p.rest.length p.size) = p.rest := by rw [hmr, List.take_length]
    rw [close_more _ _ _ (by rw [g2']; exact hf)]
    obtain ⟨m, hm⟩ : ∃ m, m = q.size - out.length := ⟨_, rfl⟩
    rw [← hm]
    rw [g2'] at hm
    rw [hd0] at ht1
    have hq0 : q.hd.length = 0 := by rw [hq]; rfl
    rw [hq, List.append_nil] at ht2
    have hil := idleN_len m
    refine ⟨_, _, _, E ++ [idleN m], rfl, ?_, hkeep, ?_, ?_, g2', ?_, ?_⟩
    · intro x hx
      rcases List.mem_append.1 hx with hx | hx
      · exact .inl (hmem x hx)
      · rw [List.mem_singleton] at hx
        exact .inr ⟨max m 7 - 6, by omega, by omega, hx⟩
    · show p.rest ++ p.hd ++ (E ++ [idleN m]).flatten = out ++ (idleN m).take m ++ ((idleN m).drop m ++ q.hd)
      rw [hq, List.append_nil, List.append_assoc out, List.take_append_drop, List.flatten_append, ht1, ← ht2]
      simp
    · rw [List.length_append, List.length_take, hil]
      omega
    · show (if f = 2047 then (out.length : Int) else f) = _
      by_cases hEn : E = []
      · rw [if_pos hEn] at hfirst
        rw [if_pos hfirst]
        rw [hEn] at ht2l
        simp at ht2l
        rw [if_pos (by omega)]
        omega
      · obtain ⟨k1, k2⟩ := hroom' hEn
        rw [if_neg hEn] at hfirst
        have k3 : min p.rest.length p.size + p.hd.length < p.size := hroom hEn
        rw [if_neg (by omega), if_pos (by omega)]
        omega
    · intro E1 y E2 hy
      have hfin : (out ++ (idleN m).take m).length = p.size := by rw [List.length_append, List.length_take, hil]; omega
      show p.pend.length + E1.flatten.length < (out ++ (idleN m).take m).length
      rw [hfin]
      rcases List.eq_nil_or_concat E2 with h2 | ⟨E3, z, h2⟩
      · subst h2
        have h3 := List.append_inj_left' hy rfl
        rw [← h3]
        rw [hpl]
        omega
      · subst h2
        rw [List.concat_eq_append, ← List.cons_append, ← List.append_assoc] at hy
        have h3 := List.append_inj_left' hy rfl
        have h4 := hbeg E1 y E3 h3
        obtain ⟨k1, k2⟩ := hroom' (by rw [h3]; simp)
        omega
  · have hlen : out.length = p.size := by omega
    rw [close_full _ _ _ (by rw [g2']; exact hf)]
    refine ⟨_, _, _, E, rfl, fun x hx => .inl (hmem x hx), hkeep, ?_, hlen, g2', ?_, ?_⟩
    · show p.rest ++ p.hd ++ E.flatten = out ++ (q.rest ++ q.hd)
      rw [List.append_assoc, ht2, g3, hbr, ht1]
      by_cases hrl : p.rest.length < p.size
      · have hmr : min p.rest.length p.size = p.rest.length := by omega
        rw [hmr, List.take_length, List.drop_length]
        simp
      · have ht : t = [] := List.length_eq_zero_iff.1 (by omega)
        rw [ht, List.append_nil, List.nil_append, ← List.append_assoc, hrr]
    · by_cases hEn : E = []
      · rw [if_pos hEn] at hfirst
        rw [hEn] at ht2l
        simp at ht2l
        rw [if_neg (by omega), hfirst]
      · obtain ⟨k1, k2⟩ := hroom' hEn
        rw [if_neg hEn] at hfirst
        have k3 : min p.rest.length p.size + p.hd.length < p.size := hroom hEn
        rw [if_pos (by omega)]
        omega
    · intro E1 y E2 hy
      have h4 := hbeg E1 y E2 hy
      obtain ⟨k1, k2⟩ := hroom' (by rw [hy]; simp)
      omega
def goodP (x : List UInt8) : Prop := ∃ q, validB q = true ∧ x = bytesP q
theorem goodP.len {x : List UInt8} (h : goodP x) : 7 ≤ x.length := by
  obtain ⟨q, hq, rfl⟩ := h
  rw [bytesP_length]
  have := (validB_iff q).1 hq
  omega
theorem idle_good (n : Nat) (h1 : 1 ≤ n) (h2 : n ≤ 4090) : goodP (bytesP (idlePk n)) := ⟨_, idle_valid n h1 h2, rfl⟩
theorem sizeP_app (l m : List UInt8) (h : 6 ≤ l.length) : sizeP (l ++ m) = sizeP l := by
  have h0 : (l ++ m)[0]? = l[0]? := List.getElem?_append_left (by omega)
  have h4 : (l ++ m)[4]? = l[4]? := List.getElem?_append_left (by omega)
  have h5 : (l ++ m)[4 + 1]? = l[4 + 1]? := List.getElem?_append_left (by omega)
  unfold sizeP w2
  rw [h0, h4, h5]
  have e1 : ¬ (l ++ m).length < 6 := by rw [List.length_append]; omega
  have e2 : ¬ l.length < 6 := by omega
  simp only [e1, e2, if_false]
theorem sizeP_short (l : List UInt8) (h : l.length < 6) : (sizeP l).2 ≠ 0 := by
  unfold sizeP
  rw [if_pos h]
  simp
theorem size_good (y r b t : List UInt8) (hy : goodP y) (h : b ++ t = y ++ r) (hl : 6 ≤ b.length) : sizeP b = ((y.length : Int), 0) := by
  obtain ⟨q, hq, rfl⟩ := hy
  rw [← sizeP_app b t hl, h]
  exact size_enc q r hq
structure Pts (p : PS) (E : List (List UInt8)) (all : List UInt8) : Prop where
  eq : E.flatten = all ++ p.pend
  good : ∀ x ∈ E, goodP x
  begins : Begins E 0 all.length
  wait : ∀ x ∈ p.L, goodP x
theorem Pts.step {p q : PS} {E E' : List (List UInt8)} {all out : List UInt8} {f : Int} (h : Pts p E all) (k : NextE p q out f E') : Pts q (E ++ E') (all ++ out) := by
  have hel := congrArg List.length h.eq
  rw [List.length_append] at hel
  refine ⟨?_, ?_, ?_, fun x hx => h.wait x (k.keep x hx)⟩
  · rw [List.flatten_append, h.eq, List.append_assoc, k.eq, List.append_assoc]
  · intro x hx
    rcases List.mem_append.1 hx with hx | hx
    · exact h.good x hx
    · rcases k.mem x hx with hx | ⟨n, h1, h2, rfl⟩
      · exact h.wait x hx
      · exact idle_good n h1 h2
  · intro E1 y E2 hy
    rw [List.length_append, Nat.zero_add]
    rcases List.append_eq_append_iff.1 hy with ⟨c, h1, h2⟩ | ⟨c, h1, h2⟩
    · have h3 := k.begins c y E2 h2
      rw [h1, List.flatten_append, List.length_append]
      omega
    · cases c with
      | nil =>
        rw [List.append_nil] at h1
        have h3 := k.begins [] y E2 h2.symm
        simp at h3
        rw [← h1]
        omega
      | cons z c =>
        rw [List.cons_append] at h2
        have hz := (List.cons.inj h2).1
        have h3 := h.begins E1 y c (by rw [h1, hz])
        omega
/-- the piece behind a boundary begins with the packet -/
theorem Pts.at {p q : PS} {E E' E1 E2 : List (List UInt8)} {all out y : List UInt8} (h : Pts p E all) (k : Pts q (E ++ E') (all ++ out)) (e : E = E1 ++ y :: E2) :
    E1.flatten.length < all.length ∧ E1.flatten.length + y.length ≤ all.length + p.pend.length ∧ 7 ≤ y.length ∧
      (6 ≤ ((all ++ out).drop E1.flatten.length).length → sizeP ((all ++ out).drop E1.flatten.length) = ((y.length : Int), 0)) := by
  have h1 := h.begins E1 y E2 e
  have hy := h.good y (by rw [e]; simp)
  have h2 := congrArg List.length h.eq
  rw [e, List.flatten_append, List.flatten_cons] at h2
  simp only [List.length_append] at h2
  refine ⟨by omega, by omega, hy.len, fun hl => ?_⟩
  refine size_good y (E2 ++ E').flatten _ q.pend hy ?_ hl
  have h3 := k.eq
  rw [e, List.append_assoc, List.flatten_append, List.cons_append, List.flatten_cons] at h3
  have h4 := congrArg (List.drop E1.flatten.length) h3
  rw [List.drop_append_of_le_length (Nat.le_refl _), List.drop_length, List.nil_append, List.drop_append_of_le_length (by rw [List.length_append]; omega)] at h4
  exact h4.symm
theorem pend_len {p : PS} (ok : p.Ok) : p.pend.length ≤ 4102 := by
  have h1 := ok.rest
  have h2 : p.hd.length ≤ 4096 := by
    unfold PS.hd
    cases e : p.L with
    | nil => simp
    | cons x xs =>
      have := (ok.each x (by rw [e]; simp)).2
      dsimp only
      split
      · simp
      · rw [List.length_drop]; omega
  unfold PS.pend
  rw [List.length_append]
  omega
/-! ### the packets that are pushed -/
def pkAt (l : List UInt8) (i : Nat) : List UInt8 := pkB ((l.getD i 0).toNat + 1) (UInt8.ofNat i)
def pks (l : List UInt8) (i : Nat) : List (List UInt8) := (List.range i).map (pkAt l)
theorem pkAt_len (l : List UInt8) (i : Nat) : 7 ≤ (pkAt l i).length ∧ (pkAt l i).length ≤ 262 := by
  unfold pkAt
  rw [pkB_len]
  have := (l.getD i 0).toNat_lt
  omega
theorem pkAt_good (l : List UInt8) (i : Nat) : goodP (pkAt l i) := ⟨_, pkB_valid _ _ (by omega) (by have := (l.getD i 0).toNat_lt; omega), rfl⟩
theorem pkAt_fit (l : List UInt8) (i : Nat) : fitB (pkAt l i) = true := pkB_fit _ _ (by omega) (by have := (l.getD i 0).toNat_lt; omega)
theorem pks_succ (l : List UInt8) (i : Nat) : pks l (i + 1) = pks l i ++ [pkAt l i] := by unfold pks; rw [List.range_succ, List.map_append]; rfl
theorem pks_len (l : List UInt8) (i : Nat) : (pks l i).flatten.length ≤ 262 * i := by
  induction i with
  | zero => simp [pks]
  | succ i ih =>
    rw [pks_succ, List.flatten_append, List.length_append]
    have := (pkAt_len l i).2
    have e : [pkAt l i].flatten = pkAt l i := by simp
    rw [e]
    omega
theorem pks_good (l : List UInt8) (i : Nat) : ∀ x ∈ pks l i, goodP x := by
  intro x hx
  obtain ⟨j, -, rfl⟩ := List.mem_map.1 hx
  exact pkAt_good l j
def filled (l : List UInt8) (s i : Nat) : PS := ⟨s, 1048576, (pks l i).flatten.length, 0, pks l i, []⟩
theorem filled_zero (l : List UInt8) (s : Nat) : PS.new s 1048576 = filled l s 0 := by unfold PS.new filled; simp only [Int.toNat_natCast]; congr 1
theorem filled_push (l : List UInt8) (s i : Nat) (h : i ≤ 60) : (filled l s i).push (pkAt l i) = (filled l s (i + 1), 0) := by
  have h1 := pks_len l i
  have h2 := (pkAt_len l i).2
  unfold PS.push
  rw [pkAt_fit, if_neg (by simp), if_neg (by unfold filled; dsimp only; omega)]
  unfold filled
  dsimp only
  rw [pks_succ, List.flatten_append, List.length_append]
  simp
theorem filled_pts (l : List UInt8) (s i : Nat) : Pts (filled l s i) [] [] := by
  refine ⟨?_, by simp, Begins.nil _ _, fun x hx => pks_good l i x hx⟩
  unfold PS.pend PS.hd filled
  dsimp only
  cases pks l i <;> simp
/-! ### what arrives -/
theorem fill_room (m : Nat) : ∀ (p : PS) (out : List UInt8) (f : Int), (PS.fill m p out f).1.room = p.room := by
  induction m with
  | zero => intro p out f; rfl
  | succ m ih =>
    intro p out f
    unfold PS.fill
    split
    · rw [ih]; exact (p.take_size _).2.2
    · rfl
theorem next_data (p : PS) (ok : p.Ok) (h : p.left ≠ 0) (hr : p.rest = []) :
    (p.size ≤ p.left → ∃ q f, p.next = (q, some (p.data.take p.size, f)) ∧ q.rest = [] ∧ q.data = p.data.drop p.size ∧ q.size = p.size ∧ q.room = p.room) ∧
    (p.left < p.size → ∃ q f, p.next = (q, some (p.data ++ (idleN (p.size - p.left)).take (p.size - p.left), f)) ∧ q.left = 0) := by
  have okb := PS.ok_begin ok
  have hb : p.begin = p := by unfold PS.begin; rw [hr]; simp; rw [← hr]
  have ho : p.rest.take (min p.rest.length p.size) = [] := by rw [hr]; simp
  have hdl := data_len ok
  obtain ⟨f1, f2⟩ := fill_data (p.L.length + 1) p [] 2047 ok (by simp) (Nat.lt_succ_self _)
  obtain ⟨g1, g2, g3⟩ := PS.ok_fill (p.L.length + 1) ok [] 2047
  have g4 := fill_room (p.L.length + 1) p [] 2047
  rw [next_is p h, hb, ho]
  obtain ⟨r, hrd⟩ : ∃ r, r = PS.fill (p.L.length + 1) p [] 2047 := ⟨_, rfl⟩
  rw [← hrd] at f1 f2 g1 g2 g3 g4 ⊢
  obtain ⟨q, out, f⟩ := r
  dsimp only at f1 f2 g1 g2 g3 g4
  simp only [List.nil_append, List.length_nil, Nat.sub_zero] at f1 f2
  have hql := data_len g1
  clear hrd
  constructor
  · intro hs
    rw [close_full _ _ _ (by rw [g2, f1, List.length_take]; omega), f1]
    exact ⟨_, _, rfl, by rw [g3, hr], f2, g2, g4⟩
  · intro hs
    have e1 : out = p.data := by rw [f1, List.take_of_length_le (by omega)]
    rw [close_more _ _ _ (by rw [g2, e1]; omega), g2, e1, hdl]
    refine ⟨_, _, rfl, ?_⟩
    show q.left = 0
    rw [← hql, f2, List.length_drop]
    omega
theorem push_data (p : PS) (ok : p.Ok) (x : List UInt8) (hx : fitB x = true) (hl : p.left + x.length ≤ p.room) : ∃ q, p.push x = (q, 0) ∧ q.rest = p.rest ∧ q.data = p.data ++ x ∧ q.size = p.size ∧ q.room = p.room ∧ q.left = p.left + x.length := by
  unfold PS.push
  rw [hx, if_neg (by simp), if_neg (by omega)]
  refine ⟨_, rfl, rfl, ?_, rfl, rfl, rfl⟩
  unfold PS.data
  dsimp only
  have := ok.left
  rw [List.flatten_append, List.drop_append_of_le_length (by omega)]
  simp
end Go.Proofs.Ytalghcgedmcifaa

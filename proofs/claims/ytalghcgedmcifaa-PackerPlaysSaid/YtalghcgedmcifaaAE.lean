/- PackerPlays: the calls that came in, what a round keeps. No condition. -/
import Derived.Test.YtalghcgedmcifaaAD
namespace Go.Proofs.Ytalghcgedmcifaa
open Go.RowKit Go.Deep Go.ChangeShapes Go.WideShapes Go.ChangeAt
set_option linter.unusedVariables false

/-- a call -/
structure OpP where
  push : Bool
  b : List UInt8
  copy : Bool
instance : Inhabited OpP := ⟨⟨false, [], false⟩⟩
/-- a slice of calls -/
def Opl (w : World) (v : Value) (l : List OpP) : Prop :=
  ∃ a cap, v = .slice a l.length cap ∧ l.length ≤ cap ∧ cap ≤ maxLen ∧ (l = [] ∨ ∃ b off, a = some ⟨b, off, none⟩ ∧ b < w.heap.size ∧ ∀ i (h : i < l.length), ∃ a' c', w.cell? ⟨b, off + i * 3, none⟩ = some (.bool l[i].push) ∧ w.cell? ⟨b, off + i * 3 + 1, none⟩ = some (.slice a' l[i].b.length c') ∧ w.cell? ⟨b, off + i * 3 + 2, none⟩ = some (.bool l[i].copy) ∧
    BAt w a' l[i].b ∧ l[i].b.length ≤ c' ∧ c' ≤ maxLen)
section
variable {H : Type} {enc : TypeId × Value → H} {w : World} {base : Nat}
theorem op_cells {n : Nat} {cs : List Value} {x : DataW H × List MemPlace} (h : DataW.trod enc Try.prog w base (fun _ => true) true n 47 cs = some x) :
    ∃ (p : OpP) (a : Option Addr) (cap : Nat), cs = [.bool p.push, .slice a p.b.length cap, .bool p.copy] ∧ BAt w a p.b ∧ p.b.length ≤ cap ∧ cap ≤ maxLen := by
  obtain ⟨xs, m, _, _, hlc, hlen, hg⟩ := DataW.trod_struct Try.underlying47 h
  have hlc' : cs.length = 3 := hlc.trans (by kernel_rfl)
  match cs, hlc' with
  | [c0, c1, c2], _ =>
    match xs, hlen with
    | [x0, x1, x2], _ =>
      have e0 := hg 0 _ rfl
      have e1 := hg 1 _ rfl
      have e2 := hg 2 _ rfl
      obtain ⟨z0, h0⟩ := one_bool Try.underlying4 e0
      obtain ⟨a, cap, l, h1, k1, k2, k3, k4⟩ := bytes_trod Try.underlying22 Try.underlying5 (by kernel_rfl) e1
      obtain ⟨z2, h2⟩ := one_bool Try.underlying4 e2
      obtain rfl : c0 = .bool z0 := (List.cons.inj h0).1
      obtain rfl : c2 = .bool z2 := (List.cons.inj h2).1
      subst h1
      exact ⟨⟨z0, l, z2⟩, a, cap, rfl, k3, k1, k2⟩
theorem arg_ops {r : Reach} {b0 : Nat} {v : Value} {d : DataW H} {ps : List MemPlace} (hv : Value.okWide Try.prog w r b0 39 v) (h : DataW.Trod enc Try.prog w base (fun _ => true) true 39 v d ps) : ∃ l : List OpP, Opl w v l := by
  obtain ⟨a, len, cap, m, n, C, rfl, hl, hm, _, _, hlm, _, hC, hcell⟩ := open_rows Try.underlying39 (c := 3) (by kernel_rfl) (by omega) hv h
  have h1 : ∀ i, i < len → ∃ p : OpP, ∃ (a : Option Addr) (cap : Nat), C i = [.bool p.push, .slice a p.b.length cap, .bool p.copy] ∧ BAt w a p.b ∧ p.b.length ≤ cap ∧ cap ≤ maxLen := fun i hi => by
    obtain ⟨_, x, hx⟩ := hC i (by omega)
    exact op_cells hx
  obtain ⟨P, hP⟩ := choose_lt h1
  have hlen : ((List.range len).map P).length = len := by simp
  refine ⟨(List.range len).map P, a, cap, by rw [hlen], by rw [hlen]; exact hl, hm, ?_⟩
  rcases hcell with h0 | ⟨b, off, rfl, hb, hc⟩
  · left
    have : len = 0 := by omega
    subst this
    rfl
  · refine .inr ⟨b, off, rfl, hb, fun i hi => ?_⟩
    have hi' : i < len := by simpa using hi
    obtain ⟨a', c', h1, h2, h3, h4⟩ := hP i hi'
    have e : ((List.range len).map P)[i] = P i := by simp
    rw [e]
    have hj : ∀ j, j < 3 → _ := fun j hj => hc i (by omega) j hj
    rw [h1] at hj
    exact ⟨a', c', hj 0 (by omega), by rw [Nat.add_assoc]; exact hj 1 (by omega), by rw [Nat.add_assoc]; exact hj 2 (by omega), h2, h3, h4⟩
theorem Opl.below {w w' : World} {v : Value} {l : List OpP} (h : Opl w v l) (hB : Below w.heap.size w w') : Opl w' v l := by
  obtain ⟨a, cap, h1, h2, hm, h3⟩ := h
  refine ⟨a, cap, h1, h2, hm, ?_⟩
  rcases h3 with h3 | ⟨b, off, rfl, hb, h3⟩
  · exact .inl h3
  · refine .inr ⟨b, off, rfl, Nat.lt_of_lt_of_le hb hB.size, fun i hi => ?_⟩
    obtain ⟨a', c', k1, k2, k3, k4, k5⟩ := h3 i hi
    exact ⟨a', c', (hB.cell (p := ⟨b, _, none⟩) hb).trans k1, (hB.cell (p := ⟨b, _, none⟩) hb).trans k2, (hB.cell (p := ⟨b, _, none⟩) hb).trans k3, k4.below hB (Nat.le_refl _), k5⟩
end
def FewQ (w : World) (l : List OpP) (e : Ending) (w' : World) : Prop :=
  ∃ r : Bool, e = .returned (.bool r) ∧ Below w.heap.size w w' ∧ (r = true → l.length ≤ 100 ∧ ∀ o ∈ l, o.b.length ≤ 20000)
set_option maxRecDepth 20000 in
theorem few_any (v : Value) (l : List OpP) (w : World) (h : Opl w v l) : Calls Try.prog 18 #[v] w (FewQ w l) := by
  obtain ⟨a, cap, rfl, hc, hcm, hl⟩ := h
  have hm9 : cap ≤ 9223372036854775807 := by unfold maxLen at hcm; exact hcm
  obtain ⟨n, hn⟩ : ∃ n, n = l.length := ⟨_, rfl⟩
  have HL := Lib.hid hl
  have HN := Lib.hid hn
  rw [← hn] at hc ⊢
  clear hl hn
  go_enter Try.func18, Try.ntmps18
  go_wp2_with fail
  go_loopw [3, 4] (fun v3 v4 wr => ∃ i k : Nat, i ≤ n ∧ v4 = .int .i64 (i : Int) ∧ v3 = .int .i64 (k : Int) ∧ k ≤ 60000 ∧ Hid (k ≤ 20000 → ∀ j (h : j < l.length), j < i → l[j].b.length ≤ 20000) ∧ Hid (Below w.heap.size w wr)) (fun _ v4 _ => n - (intOf v4).toNat)
  case atStart => exact ⟨0, 0, Nat.zero_le _, rfl, rfl, by omega, Lib.hid (fun _ j _ h => absurd h (Nat.not_lt_zero _)), Lib.hid (Below.refl _ _)⟩
  case round =>
    obtain ⟨i, k, hi, rfl, rfl, hk, HJ, HB⟩ := hrel
    by_cases hlt : i < n
    · by_cases hk2 : k ≤ 20000
      · have e1 : (i : Int) < (n : Int) := by omega
        have e2 : (k : Int) ≤ 20000 := by omega
        have e3 : (0 : Int) ≤ (i : Int) := by omega
        have hlt2 : i < l.length := by rw [← HN.out]; exact hlt
        obtain ⟨b, off, rfl, hb, hcell⟩ := HL.out.resolve_left (fun e => by rw [e] at hlt2; simp at hlt2)
        obtain ⟨a', c', -, k2, -, -, k5, k6⟩ := hcell i hlt2
        have c1 : wr.cell? ⟨b, off + i * 3 + 1, none⟩ = some (.slice a' l[i].b.length c') := (HB.out.cell (p := ⟨b, _, none⟩) hb).trans k2
        obtain ⟨m, hm⟩ : ∃ m, m = l[i].b.length := ⟨_, rfl⟩
        rw [← hm] at c1 k5
        have HM := Lib.hid hm
        obtain ⟨mm, hmm⟩ : ∃ mm, mm = min m 30000 := ⟨_, rfl⟩
        have e4 : min (m : Int) 30000 = (mm : Int) := by omega
        have e5 : mm ≤ 30000 := by omega
        have HMM := Lib.hid hmm
        have hm2 : Hid (k + 10 + mm ≤ 20000 → ∀ j (h : j < l.length), j < i + 1 → l[j].b.length ≤ 20000) := Lib.hid (fun h9 j hj hji => by
          by_cases hji2 : j < i
          · exact HJ.out hk2 j hj hji2
          · obtain rfl : j = i := by omega
            rw [← HM.out]
            have := HMM.out
            omega)
        clear hm hmm k2 hcell
        go_wp2_with fail
        refine ⟨⟨i + 1, k + 10 + mm, by omega, by go_num, by simp, by omega, hm2, HB⟩, by simp [intOf]; go_num⟩
      · have e1 : (i : Int) < (n : Int) := by omega
        have e2 : ¬ (k : Int) ≤ 20000 := by omega
        have HP : Hid (false = true → n ≤ 100 ∧ ∀ o ∈ l, o.b.length ≤ 20000) := Lib.hid (fun h => by cases h)
        by_cases h100 : n ≤ 100
        · have e3 : (n : Int) ≤ 100 := by omega
          go_wp2_with fail
          go_ret
          exact ⟨_, rfl, HB.out, fun h => by first | exact ⟨by rw [← HN.out]; exact h100, HA.out⟩ | cases h⟩
        · have e3 : ¬ (n : Int) ≤ 100 := by omega
          go_wp2_with fail
          go_ret
          exact ⟨_, rfl, HB.out, fun h => by cases h⟩
    · have e1 : ¬ (i : Int) < (n : Int) := by omega
      by_cases hk2 : k ≤ 20000
      · have e2 : (k : Int) ≤ 20000 := by omega
        have HA : Hid (∀ o ∈ l, o.b.length ≤ 20000) := Lib.hid (fun o ho => by
          obtain ⟨j, hj, rfl⟩ := List.mem_iff_getElem.1 ho
          exact HJ.out hk2 j hj (by have := HN.out; omega))
        by_cases h100 : n ≤ 100
        · have e3 : (n : Int) ≤ 100 := by omega
          go_wp2_with fail
          go_ret
          exact ⟨_, rfl, HB.out, fun h => by first | exact ⟨by rw [← HN.out]; exact h100, HA.out⟩ | cases h⟩
        · have e3 : ¬ (n : Int) ≤ 100 := by omega
          go_wp2_with fail
          go_ret
          exact ⟨_, rfl, HB.out, fun h => by cases h⟩
      · have e2 : ¬ (k : Int) ≤ 20000 := by omega
        have HP : Hid (false = true → n ≤ 100 ∧ ∀ o ∈ l, o.b.length ≤ 20000) := Lib.hid (fun h => by cases h)
        by_cases h100 : n ≤ 100
        · have e3 : (n : Int) ≤ 100 := by omega
          go_wp2_with fail
          go_ret
          exact ⟨_, rfl, HB.out, fun h => by first | exact ⟨by rw [← HN.out]; exact h100, HA.out⟩ | cases h⟩
        · have e3 : ¬ (n : Int) ≤ 100 := by omega
          go_wp2_with fail
          go_ret
          exact ⟨_, rfl, HB.out, fun h => by cases h⟩
end Go.Proofs.Ytalghcgedmcifaa

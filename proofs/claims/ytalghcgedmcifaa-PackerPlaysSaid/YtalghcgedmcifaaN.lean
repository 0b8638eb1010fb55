/- Contracts of slices.Clone at packets and of take. No condition. -/
import Derived.Test.YtalghcgedmcifaaM
namespace Go.Proofs.Ytalghcgedmcifaa
open Go.RowKit Go.Deep Go.ChangeShapes Go.WideShapes Go.ChangeAt
set_option linter.unusedVariables false

theorem info22 : (Try.prog.info? 22).map (fun i => (i.zero, i.size, i.bytes)) = some (some (.slice none 0 0), 1, 24) := by kernel_rfl
theorem eqlL (a : Option Addr) (n c : Nat) (w : World) : (binOp .eql 42 (.slice a n c) (.slice none 0 0)).run Try.prog w = .ok (.bool a.isNone) w := Lib.run_eql_slice_nil w 42 22 a n c 0 0 Try.underlying42
theorem VAt.low {w w' : World} {a : Option Addr} {us : List Value} (h : VAt w a us) (hb : Below w.heap.size w w') : VAt w' a us := by
  rcases h with h | ⟨b, off, h1, h2, h3⟩
  · exact .inl h
  · exact .inr ⟨b, off, h1, Nat.lt_of_lt_of_le h2 hb.size, fun i hi => (hb.cell (p := ⟨b, off + i, none⟩) h2).trans (h3 i hi)⟩
theorem VAt.drop {w : World} {b off : Nat} {us : List Value} (h : VAt w (some ⟨b, off, none⟩) us) (k : Nat) : VAt w (some ⟨b, off + k, none⟩) (us.drop k) := by
  rcases h with h | ⟨b', off', h1, h2, h3⟩
  · left; subst h; simp
  · cases h1
    refine .inr ⟨b, off + k, rfl, h2, fun i hi => ?_⟩
    have hi' : k + i < us.length := by simp at hi; omega
    have := h3 (k + i) hi'
    rw [← Nat.add_assoc] at this
    rw [this, List.getElem_drop]
theorem own_shape {w : World} {B n : Nat} {e : TypeId} {a : Option Addr} {m c : Nat} {xs : List Value} (h : w.ownsRow B e 1 (.slice a m c) n xs) : (a = none ∧ c = 0 ∧ m = 0) ∨ ∃ g, a = some ⟨g, 0, none⟩ ∧ B ≤ g ∧ g < w.heap.size := by
  rcases h.2 with ⟨e, -⟩ | ⟨g, cp, cur, e, hb, hg, -⟩
  · simp only [Value.slice.injEq] at e; exact .inl ⟨e.1, e.2.2, e.2.1⟩
  · simp only [Value.slice.injEq] at e; exact .inr ⟨_, e.1, hb, (Array.getElem?_eq_some_iff.1 hg).1⟩
theorem cloneL_any (a : Option Addr) (n cap : Nat) (us : List Value) (w : World) (hn : us.length = n) (hl : n ≤ 200000) (hV : VAt w a us) (h1 : ∀ u ∈ us, u.oneCell' = true) (h0 : a = none → us = []) :
    Calls Try.prog 31 #[.slice a n cap] w fun e w' => ∃ v, e = .returned v ∧ w'.ownsRow w.heap.size 22 1 v n us ∧ Below w.heap.size w w' := by
  obtain ⟨j0, hj, hy0, hy1, hy2⟩ := info_parts info22
  have HV : Hid (VAt (w.alloc (.cells #[] 22)) a us) := Lib.hid (hV.low (al (Below.refl _ _) _))
  have H1 := Lib.hid h1
  have e1 := eqlL a n cap
  cases a with
  | none =>
    obtain rfl := h0 rfl
    obtain rfl : n = 0 := by simpa using hn.symm
    clear hj hy0 hy1 hy2 HV H1 h1 hV h0
    simp only [Option.isNone_none] at e1
    go_enter Try.func31, Try.ntmps31
    go_wp2
    go_ret
    exact ⟨_, rfl, World.ownsRow_nil _ _ _ _, Below.refl _ _⟩
  | some p =>
    simp only [Option.isNone_some] at e1
    have HJ := Lib.hid hj
    have HN := Lib.hid hn
    clear hj hV h1 h0 hn
    go_enter Try.func31, Try.ntmps31
    go_wp2_with (at_builtin; refine wpList_append_src _ rfl _ _ 42 rfl w.heap.size 22 j0 (.slice none 0 0) 24 Try.underlying42 HJ.out hy0 hy1 hy2 (by rfl) _ 0 [] rfl (own_empty _ _ w.heap.size rfl _ (Nat.le_refl _)) (some p) n cap us rfl HN.out HV.out H1.out (by unfold maxLen; omega) (by omega) (by simp) ?_)
    intro v' w1 hown hgrow _
    have HO := Lib.hid (show w1.ownsRow w.heap.size 22 1 v' n us by simpa using hown)
    have HG := Lib.hid hgrow
    clear hown hgrow
    go_wp2_with fail
    go_ret
    exact ⟨_, rfl, HO.out, ((Below.refl _ _).alloc (Nat.le_refl _) _).grown HG.out (by simp) (fun k hk => by simp [Value.ownBlock] at hk; omega)⟩
/-- the first packet in memory -/
theorem PAt.first {w : World} {X : Nat → Prop} {b : Nat} {p : PS} {vW vR : Value} {x : List UInt8} {xs : List (List UInt8)} (h : PAt w X b p vW vR) (e : p.L = x :: xs) :
    ∃ g cap u us ax cx, vW = .slice (some ⟨g, 0, none⟩) (xs.length + 1) cap ∧ xs.length + 1 ≤ cap ∧ cap ≤ maxLen ∧ g < w.heap.size ∧ u = .slice ax x.length cx ∧ x.length ≤ cx ∧ cx ≤ maxLen ∧ BAt w ax x ∧ (∀ q, ax = some q → x ≠ [] → ¬ Av X b vW q.block) ∧
      w.cell? ⟨g, 0, none⟩ = some u ∧ VAt w (some ⟨g, 0 + 1, none⟩) us ∧ us.length = xs.length ∧ Sls w (Av X b vW) us xs ∧ (∀ v ∈ us, v.oneCell' = true) := by
  obtain ⟨us0, h1, h2⟩ := h.row
  rw [e] at h1 h2
  obtain ⟨h3, h4⟩ := h2
  match us0, h3 with
  | u :: us, h3 =>
    have hlen : us.length = xs.length := by simpa using h3
    obtain ⟨-, av, cv, hve, hc, hm, hV, -⟩ := VAt.of_row h1
    obtain ⟨u', hu1, hu2⟩ := h4 0 (by simp)
    obtain rfl : u = u' := by simpa using hu1
    obtain ⟨ax, cx, rfl, hcx, hmx, hbx, hsx⟩ := hu2
    obtain ⟨g, rfl, hg1, hg2⟩ := own_shape (by rw [hve] at h1; exact h1) |>.resolve_left (by
      rintro ⟨rfl, h5, h6⟩
      simp at h6)
    have hs : Sls w (Av X b vW) us xs := ⟨hlen, fun i hi => by
      obtain ⟨v, hv1, hv2⟩ := h4 (i + 1) (by simp; omega)
      exact ⟨v, by simpa using hv1, by simpa using hv2⟩⟩
    refine ⟨g, cv, _, us, ax, cx, by rw [hve]; simp [hlen], by simpa [hlen] using hc, hm, hg2, rfl, hcx, hmx, hbx, hsx, ?_, (VAt.drop hV 1), hlen, hs, ?_⟩
    · rcases hV with h5 | ⟨b', off', h5, h6, h7⟩
      · cases h5
      · cases h5
        simpa using h7 0 (by simp)
    · intro v hv
      obtain ⟨i, hi, rfl⟩ := List.getElem_of_mem hv
      obtain ⟨v', hv1, a', c', hv2, -⟩ := hs.2 i (by omega)
      rw [List.getElem?_eq_getElem hi] at hv1
      cases hv1
      rw [hv2]
      rfl
end Go.Proofs.Ytalghcgedmcifaa

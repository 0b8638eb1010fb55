/- Contracts of marker, Wrap, bytes.Equal, bytes.Clone, begin. No condition. -/
import Derived.Test.YtjeigdopcdeaeaaP
import Derived.Lib.SliceRun
import Derived.Deep.RegionHeld3
namespace Go.Proofs.Ytjeigdopcdeaeaa
open Go.RowKit Go.Deep Go.ChangeShapes Go.WideShapes Go.ChangeAt Scr
set_option linter.unusedVariables false

theorem Gives.below {l : List UInt8} {w w' : World} {e : Ending} (h : Gives l w e w') : Below w.heap.size w w' := by
  obtain ⟨v, -, -, -, h⟩ := h; exact h
theorem own_base {w : World} {B B' : Nat} {e : TypeId} {k : Nat} {v : Value} {n : Nat} {xs : List Value} (h : w.ownsRow B e k v n xs) (hB : B' ≤ B) : w.ownsRow B' e k v n xs := by
  refine ⟨h.1, ?_⟩
  rcases h.2 with hn | ⟨g, cap, cur, rfl, hb, rest⟩
  · exact .inl hn
  · exact .inr ⟨g, cap, cur, rfl, Nat.le_trans hB hb, rest⟩
theorem own_str {w : World} {B n : Nat} {v : Value} {l : List UInt8} (h : w.ownsRow B 5 1 v n (encB l)) : (convert 22 9 v).run Try.prog w = .ok (.string ⟨l.toArray⟩) w := by
  obtain ⟨-, a, cap, rfl, -, -, hb⟩ := BAt.of_row h
  exact hb.str 22 9 5 cap Try.underlying22 Try.underlying5 Try.underlying9
theorem str_n {w : World} {a : Option Addr} {l : List UInt8} (n cap : Nat) (hn : l.length = n) (h : BAt w a l) : (convert 22 9 (.slice a n cap)).run Try.prog w = .ok (.string ⟨l.toArray⟩) w := by
  subst hn
  exact h.str 22 9 5 cap Try.underlying22 Try.underlying5 Try.underlying9
/-- the cells of a new marker -/
theorem mk_own (w : World) (H : Nat) (hH : w.heap.size = H) (B : Nat) (hB : B ≤ H) : (w.alloc (.cells #[.int .u8 26, .int .u8 207, .int .u8 252, .int .u8 29] 5)).ownsRow B 5 1 (.slice (some ⟨H, 0, none⟩) 4 4) 4 (encB mk) := by
  subst hH
  exact ⟨by simp [encB, mk], .inr ⟨w.heap.size, 4, _, rfl, hB, heap_alloc_new w _, Nat.le_refl _, by unfold maxLen; omega, by simp, by simp [encB, mk]⟩⟩
theorem marker_any (w : World) : Calls Try.prog 17 #[] w fun e w' => e = .returned (.slice (some ⟨w.heap.size, 0, none⟩) 4 4) ∧ w' = w.alloc (.cells #[.int .u8 26, .int .u8 207, .int .u8 252, .int .u8 29] 5) := by
  go_enter Try.func17, Try.ntmps17
  go_wp2
  go_ret
  exact ⟨rfl, rfl⟩
theorem rmarker_any (w : World) : Calls Try.prog 19 #[] w fun e w' => e = .returned (.slice (some ⟨w.heap.size, 0, none⟩) 4 4) ∧ w' = w.alloc (.cells #[.int .u8 26, .int .u8 207, .int .u8 252, .int .u8 29] 5) := by
  go_enter Try.func19, Try.ntmps19
  go_wp2
  go_ret
  exact ⟨rfl, rfl⟩
/-- a call gives bytes of its own -/
def NB (w : World) (l : List UInt8) (e : Ending) (w' : World) : Prop := ∃ v, e = .returned v ∧ w'.ownsRow w.heap.size 5 1 v l.length (encB l) ∧ Below w.heap.size w w'
def wrapB (l : List UInt8) : List UInt8 := mk ++ appB l
set_option maxHeartbeats 1000000 in
theorem wrap_any (a : Option Addr) (cap : Nat) (l : List UInt8) (w : World) (hl : l.length ≤ 100000) (hb : BAt w a l) : Calls Try.prog 7 #[.slice a l.length cap] w (NB w (wrapB l)) := by
  have HB := Lib.hid hb
  obtain ⟨j0, hj, hy0, hy1, hy2⟩ := info_parts info5
  have HJ := Lib.hid hj
  clear hb hj
  go_enter Try.func7, Try.ntmps7
  go_wp2_with fail
  refine (marker_any _).mono ?_
  rintro e w1 ⟨rfl, hw1⟩
  have hm : w1.ownsRow w.heap.size 5 1 (.slice (some ⟨w.heap.size, 0, none⟩) 4 4) 4 (encB mk) := by rw [hw1]; exact mk_own w _ rfl _ (Nat.le_refl _)
  have hB1 : Below w.heap.size w w1 := by rw [hw1]; exact al (Below.refl _ _) _
  have HM := Lib.hid hm
  have HB1 := Lib.hid hB1
  have hs1 := hB1.size
  clear hw1 hm hB1
  go_wp2_with fail
  refine (Apply_any a cap l _ (by omega) (HB.out.below HB1.out (Nat.le_refl _))).mono ?_
  rintro e w2 ⟨v, rfl, hO, -, hB2⟩
  obtain ⟨-, a2, c2, rfl, hc2, hm2, hA2⟩ := BAt.of_row hO
  have HV := Lib.hid hA2.vat
  have HM2 := Lib.hid (own_below HM.out hB2 (Nat.le_refl _))
  have HB2 := Lib.hid (HB1.out.trans (hB2.mono hs1))
  have hs2 := HB2.out.size
  have hal : (appB l).length ≤ 100000 := by rw [appB_length]; exact hl
  clear hO hA2 hB2
  go_wp2_with (at_builtin; refine wpList_append_src _ rfl _ _ 22 rfl w.heap.size 5 j0 (.int .u8 0) 1 Try.underlying22 HJ.out hy0 hy1 hy2 rfl _ 4 (encB mk) rfl HM2.out a2 (appB l).length c2 (encB (appB l)) rfl (by simp [encB]) HV.out (encB_one _) (by unfold maxLen; omega) (by omega) hs2 ?_)
  intro v3 w3 hown hgrow hblk
  have HO : Hid (w3.ownsRow w.heap.size 5 1 v3 (wrapB l).length (encB (wrapB l))) := Lib.hid (by rw [wrapB, encB_append, List.length_append]; exact hown)
  have HB3 := Lib.hid (HB2.out.grown hgrow hs2 (fun k hk => by simp [Value.ownBlock] at hk; omega))
  clear hown hgrow hblk
  go_wp2_with fail
  go_ret
  exact ⟨_, rfl, HO.out, HB3.out⟩
theorem equal_n (a1 a2 : Option Addr) (n1 n2 c1 c2 : Nat) (l1 l2 : List UInt8) (w : World) (hn1 : l1.length = n1) (hn2 : l2.length = n2) (h1 : BAt w a1 l1) (h2 : BAt w a2 l2) :
    Calls Try.prog 27 #[.slice a1 n1 c1, .slice a2 n2 c2] w fun e w' => e = .returned (.bool (l1 == l2)) ∧ w' = w := by
  have e1 := str_n n1 c1 hn1 h1
  have e2 := str_n n2 c2 hn2 h2
  clear h1 h2
  go_enter Try.func27, Try.ntmps27
  go_wp2_with fail
  go_ret
  refine ⟨ret_bool ?_, rfl⟩
  rfl
theorem eqlN (a : Option Addr) (n c : Nat) (w : World) : (binOp .eql 22 (.slice a n c) (.slice none 0 0)).run Try.prog w = .ok (.bool a.isNone) w := Lib.run_eql_slice_nil w 22 5 a n c 0 0 Try.underlying22
theorem clone_n (a : Option Addr) (n cap : Nat) (l : List UInt8) (w : World) (hn : l.length = n) (hl : l.length ≤ 1000000) (hb : BAt w a l) : Calls Try.prog 22 #[.slice a n cap] w (NB w l) := by
  obtain ⟨j0, hj, hy0, hy1, hy2⟩ := info_parts info5
  have HV : Hid (VAt (w.alloc (.cells #[] 5)) a (encB l)) := Lib.hid (hb.below (al (Below.refl _ _) _) (Nat.le_refl _)).vat
  have e1 := eqlN a n cap
  cases a with
  | none =>
    obtain rfl : l = [] := by rcases hb with h | ⟨b, off, h, -⟩; exact h; cases h
    clear hb hj hy0 hy1 hy2 HV
    simp only [Option.isNone_none] at e1
    go_enter Try.func22, Try.ntmps22
    go_wp2
    go_ret
    exact ⟨_, rfl, World.ownsRow_nil _ _ _ _, Below.refl _ _⟩
  | some p =>
    simp only [Option.isNone_some] at e1
    have HJ := Lib.hid hj
    clear hb hj
    go_enter Try.func22, Try.ntmps22
    go_wp2_with (at_builtin; refine wpList_append_src _ rfl _ _ 22 rfl w.heap.size 5 j0 (.int .u8 0) 1 Try.underlying22 HJ.out hy0 hy1 hy2 rfl _ 0 [] rfl (own_empty _ _ w.heap.size rfl _ (Nat.le_refl _)) (some p) n cap (encB l) rfl (by simp [encB, hn]) HV.out (encB_one _) (by unfold maxLen; omega) (by omega) (by simp) ?_)
    intro v' w1 hown hgrow _
    have HO := Lib.hid (show w1.ownsRow w.heap.size 5 1 v' l.length (encB l) by rw [hn]; simpa using hown)
    have HG := Lib.hid hgrow
    clear hown hgrow
    go_wp2_with fail
    go_ret
    exact ⟨_, rfl, HO.out, ((Below.refl _ _).alloc (Nat.le_refl _) _).grown HG.out (by simp) (fun k hk => by simp [Value.ownBlock] at hk; omega)⟩
end Go.Proofs.Ytjeigdopcdeaeaa

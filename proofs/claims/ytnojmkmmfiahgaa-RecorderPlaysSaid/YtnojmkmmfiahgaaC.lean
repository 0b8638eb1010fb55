/- Helper facts at this program: strings of bytes, slices.Clone or bytes.Clone at bytes. No condition. -/
import Derived.Test.YtnojmkmmfiahgaaA
import Derived.Lib.SliceRun
import Derived.WalkMore
import Derived.BigRegion
import Derived.Deep.RegionLaw
import Derived.Deep.RegionHeld3
import Derived.StillTailTactics
import Derived.Deep.LoopGhost
namespace Go.Proofs.Ytnojmkmmfiahgaa
open Go.RowKit Go.Deep Go.ChangeShapes Go.WideShapes Go.ChangeAt
set_option linter.unusedVariables false

theorem info5 : (Try.prog.info? 5).map (fun i => (i.zero, i.size, i.bytes)) = some (some (.int .u8 0), 1, 1) := by kernel_rfl
theorem info31 : (Try.prog.info? 31).map (fun i => (i.zero, i.size, i.bytes)) = some (some (.slice none 0 0), 1, 24) := by kernel_rfl
theorem info_parts {p : Program} {t : TypeId} {z : Value} {s b : Nat} (h : (p.info? t).map (fun i => (i.zero, i.size, i.bytes)) = some (some z, s, b)) : ∃ i, p.info? t = some i ∧ i.zero = some z ∧ i.size = s ∧ i.bytes = b := by
  cases hi : p.info? t with
  | none => rw [hi] at h; cases h
  | some i => rw [hi] at h; simp at h; exact ⟨i, rfl, h.1, h.2.1, h.2.2⟩
theorem own_base {w : World} {B B' : Nat} {e : TypeId} {k : Nat} {v : Value} {n : Nat} {xs : List Value} (h : w.ownsRow B e k v n xs) (hB : B' ≤ B) : w.ownsRow B' e k v n xs := by
  refine ⟨h.1, ?_⟩
  rcases h.2 with hn | ⟨g, cap, cur, rfl, hb, rest⟩
  · exact .inl hn
  · exact .inr ⟨g, cap, cur, rfl, Nat.le_trans hB hb, rest⟩
/-- the shape of a row of the call's own -/
theorem own_shape {w : World} {B n : Nat} {e : TypeId} {a : Option Addr} {m c : Nat} {xs : List Value} (h : w.ownsRow B e 1 (.slice a m c) n xs) : (a = none ∧ c = 0 ∧ m = 0) ∨ ∃ g, a = some ⟨g, 0, none⟩ ∧ B ≤ g ∧ g < w.heap.size := by
  rcases h.2 with ⟨e, -⟩ | ⟨g, cp, cur, e, hb, hg, -⟩
  · simp only [Value.slice.injEq] at e; exact .inl ⟨e.1, e.2.2, e.2.1⟩
  · simp only [Value.slice.injEq] at e; exact .inr ⟨_, e.1, hb, (Array.getElem?_eq_some_iff.1 hg).1⟩
theorem own_str {w : World} {B n : Nat} {v : Value} {l : List UInt8} (h : w.ownsRow B 5 1 v n (encB l)) : (convert 31 9 v).run Try.prog w = .ok (.string ⟨l.toArray⟩) w := by
  obtain ⟨-, a, cap, rfl, -, -, hb⟩ := BAt.of_row h
  exact hb.str 31 9 5 cap Try.underlying31 Try.underlying5 Try.underlying9
theorem str_n {w : World} {a : Option Addr} {l : List UInt8} (n cap : Nat) (hn : l.length = n) (h : BAt w a l) : (convert 31 9 (.slice a n cap)).run Try.prog w = .ok (.string ⟨l.toArray⟩) w := by
  subst hn
  exact h.str 31 9 5 cap Try.underlying31 Try.underlying5 Try.underlying9
/-- a call gives bytes of its own -/
def NB (w : World) (l : List UInt8) (e : Ending) (w' : World) : Prop := ∃ v, e = .returned v ∧ w'.ownsRow w.heap.size 5 1 v l.length (encB l) ∧ Below w.heap.size w w'
theorem eqlN (a : Option Addr) (n c : Nat) (w : World) : (binOp .eql 31 (.slice a n c) (.slice none 0 0)).run Try.prog w = .ok (.bool a.isNone) w := Lib.run_eql_slice_nil w 31 5 a n c 0 0 Try.underlying31
theorem clone_n (a : Option Addr) (n cap : Nat) (l : List UInt8) (w : World) (hn : l.length = n) (hl : l.length ≤ 1000000) (hb : BAt w a l) : Calls Try.prog 26 #[.slice a n cap] w (NB w l) := by
  obtain ⟨j0, hj, hy0, hy1, hy2⟩ := info_parts info5
  have HV : Hid (VAt (w.alloc (.cells #[] 5)) a (encB l)) := Lib.hid (hb.below (al (Below.refl _ _) _) (Nat.le_refl _)).vat
  have e1 := eqlN a n cap
  cases a with
  | none =>
    obtain rfl : l = [] := by rcases hb with h | ⟨b, off, h, -⟩; exact h; cases h
    clear hb hj hy0 hy1 hy2 HV
    simp only [Option.isNone_none] at e1
    go_enter Try.func26, Try.ntmps26
    go_wp2
    go_ret
    exact ⟨_, rfl, World.ownsRow_nil _ _ _ _, Below.refl _ _⟩
  | some p =>
    simp only [Option.isNone_some] at e1
    have HJ := Lib.hid hj
    clear hb hj
    go_enter Try.func26, Try.ntmps26
    go_wp2_with (at_builtin; refine wpList_append_src _ rfl _ _ 31 rfl w.heap.size 5 j0 (.int .u8 0) 1 Try.underlying31 HJ.out hy0 hy1 hy2 rfl _ 0 [] rfl (own_empty _ _ w.heap.size rfl _ (Nat.le_refl _)) (some p) n cap (encB l) rfl (by simp [encB, hn]) HV.out (encB_one _) (by unfold maxLen; omega) (by omega) (by simp) ?_)
    intro v' w1 hown hgrow _
    have HO := Lib.hid (show w1.ownsRow w.heap.size 5 1 v' l.length (encB l) by rw [hn]; simpa using hown)
    have HG := Lib.hid hgrow
    clear hown hgrow
    go_wp2_with fail
    go_ret
    exact ⟨_, rfl, HO.out, ((Below.refl _ _).alloc (Nat.le_refl _) _).grown HG.out (by simp) (fun k hk => by simp [Value.ownBlock] at hk; omega)⟩
theorem ret_tup {v : Value} {a b : Int} (h : a = b) : Ending.returned (.tuple #[v, .int .i64 a]) = .returned (.tuple #[v, .int .i64 b]) := by rw [h]
theorem BAt.take {w : World} {a : Option Addr} {l : List UInt8} (h : BAt w a l) (n : Nat) : BAt w a (l.take n) := by
  rcases h with h | ⟨b, off, h1, h2, h3⟩
  · left; subst h; simp
  · exact .inr ⟨b, off, h1, h2, fun i hi => by
      have hi' : i < l.length := by simp at hi; omega
      rw [h3 i hi']; simp⟩
theorem one_vat (w : World) (x : Value) (t : TypeId) : VAt (w.alloc (.cells #[x] t)) (some ⟨w.heap.size, 0, none⟩) [x] :=
  .inr ⟨_, _, rfl, by simp, fun i hi => by
    obtain rfl : i = 0 := by simp at hi; omega
    exact (Blk.new w t [x]).at 0 rfl⟩
end Go.Proofs.Ytnojmkmmfiahgaa

/- Same; the chapter's examples; a packet that came in. No condition. -/
import Derived.Test.YtelbfohiadklgaaJ
import Derived.Lib.SlBytesConst
namespace Go.Proofs.Ytelbfohiadklgaa
open Go.RowKit Go.Deep Go.ChangeShapes Go.WideShapes Go.ChangeAt
set_option linter.unusedVariables false

/-- an own row as a string -/
theorem own_str {w : World} {B n : Nat} {v : Value} {l : List UInt8} (h : w.ownsRow B 5 1 v n (encB l)) : (convert 22 9 v).run Try.prog w = .ok (.string ⟨l.toArray⟩) w := by
  obtain ⟨-, a, cap, rfl, -, -, hb⟩ := BAt.of_row h
  exact hb.str 22 9 5 cap Try.underlying22 Try.underlying5 Try.underlying9
theorem same_any (p : Pk) (a1 a2 : Option Addr) (c1 c2 : Nat) (w : World) (h1 : BAt w a1 p.dat) (h2 : BAt w a2 p.dat) :
    Calls Try.prog 18 #[p.val a1 c1, p.val a2 c2] w fun e w' => e = .returned (.bool true) ∧ Below w.heap.size w w' := by
  have e1 := fun (x y : Obj) => (h1.below (al (al (Below.refl _ w) x) y) (Nat.le_refl _)).str 22 9 5 c1 Try.underlying22 Try.underlying5 Try.underlying9
  have e2 := fun (x y : Obj) => (h2.below (al (al (Below.refl _ w) x) y) (Nat.le_refl _)).str 22 9 5 c2 Try.underlying22 Try.underlying5 Try.underlying9
  clear h1 h2
  unfold Pk.val
  go_enter Try.func18, Try.ntmps18
  go_wp2
  go_ret
  exact ⟨rfl, al (al (Below.refl _ _) _) _⟩
def al0 : Pk := ⟨true, false, 10, 3, 1, [170, 187]⟩
theorem al_enc : encP al0 = ([16, 10, 192, 1, 0, 1, 170, 187], 0) := by rfl
theorem al_idle : idleP 7 = ([7, 255, 192, 0, 0, 0, 0], 0) := by rfl
theorem al_size : sizeP [0, 0, 0, 0, 15, 250] = (0, 6) := by rfl
theorem lit6 (w : World) (x0 x1 x2 x3 x4 x5 : UInt8) (t : TypeId) (f : Nat × Nat) : BAt (w.alloc (.cells #[.int .u8 (x0.toNat : Int), .int .u8 (x1.toNat : Int), .int .u8 (x2.toNat : Int), .int .u8 (x3.toNat : Int), .int .u8 (x4.toNat : Int), .int .u8 (x5.toNat : Int)] t f)) (some ⟨w.heap.size, 0, none⟩) [x0, x1, x2, x3, x4, x5] := by
  refine .inr ⟨_, _, rfl, by simp, fun i hi => ?_⟩
  rw [Joins.cell_alloc_mark_at _ _ _ _ _ _ rfl]
  match i, hi with
  | 0, _ => rfl
  | 1, _ => rfl
  | 2, _ => rfl
  | 3, _ => rfl
  | 4, _ => rfl
  | 5, _ => rfl
theorem lit2 (w : World) (x0 x1 : UInt8) (t : TypeId) (f : Nat × Nat) : BAt (w.alloc (.cells #[.int .u8 (x0.toNat : Int), .int .u8 (x1.toNat : Int)] t f)) (some ⟨w.heap.size, 0, none⟩) [x0, x1] := by
  refine .inr ⟨_, _, rfl, by simp, fun i hi => ?_⟩
  rw [Joins.cell_alloc_mark_at _ _ _ _ _ _ rfl]
  match i, hi with
  | 0, _ => rfl
  | 1, _ => rfl
theorem alive_any (w : World) : Calls Try.prog 11 #[] w fun e w' => e = .returned (.bool true) ∧ Below w.heap.size w w' := by
  go_enter Try.func11, Try.ntmps11
  go_wp2_with fail
  refine (encode_any al0 (some ⟨w.heap.size, 0, none⟩) 2 _ (by simp [al0, maxLen]) (lit2 _ _ _ _ _)).mono ?_
  rintro e w1 ⟨v1, rfl, hO, hB⟩
  rw [al_enc] at hO ⊢
  have hs : w.heap.size ≤ (w.alloc (.cells #[.int .u8 170, .int .u8 187] 5)).heap.size := by simp
  have HB1 := Lib.hid ((al (Below.refl _ _) (.cells #[.int .u8 170, .int .u8 187] 5)).trans (hB.mono hs))
  have HO1 := Lib.hid hO
  have hs1 := HB1.out.size
  clear hO hB hs
  go_wp2_with fail
  refine (idle_call 7 _).mono ?_
  rintro e w2 ⟨v2, rfl, hO, hB⟩
  rw [al_idle] at hO ⊢
  have HO2 := Lib.hid hO
  have HO12 := Lib.hid (own_below HO1.out hB (Nat.le_refl _))
  have HB2 := Lib.hid (HB1.out.trans (hB.mono hs1))
  have hs2 := HB2.out.size
  clear hO hB HO1
  go_wp2_with fail
  refine (size_any (some ⟨w2.heap.size, 0, none⟩) 6 [0, 0, 0, 0, 15, 250] _ (by unfold maxLen; simp) (by simp) (by unfold maxLen; simp) (lit6 _ _ _ _ _ _ _ _ _)).mono ?_
  rintro e w3 ⟨rfl, hq⟩
  rw [al_size]
  have hB3 := (al (Below.refl _ w2) (.cells #[.int .u8 0, .int .u8 0, .int .u8 0, .int .u8 0, .int .u8 15, .int .u8 250] 5)).trans hq.below
  have e1 := own_str (own_below HO12.out hB3 (Nat.le_refl _))
  have e2 := own_str (own_below HO2.out hB3 (Nat.le_refl _))
  have HB3 := Lib.hid (HB2.out.trans (hB3.mono hs2))
  clear hB3 hq
  go_wp2_with fail
  go_ret
  exact ⟨rfl, HB3.out⟩
section
variable {H : Type} {enc : TypeId × Value → H} {w : World} {base : Nat}
/-- a packet that came in by value -/
theorem arg_packet {r : Reach} {b0 : Nat} {v : Value} {d : DataW H} {ps : List MemPlace} (hv : Value.okWide Try.prog w r b0 24 v) (h : DataW.Trod enc Try.prog w base (fun _ => true) true 24 v d ps) :
    ∃ (p : Pk) (a : Option Addr) (cap : Nat), v = p.val a cap ∧ BAt w a p.dat ∧ p.dat.length ≤ cap ∧ cap ≤ maxLen := by
  obtain ⟨⟨cs⟩, rfl, hsz⟩ := okWide_struct Try.underlying24 hv
  obtain ⟨fuel, hf⟩ := h
  obtain ⟨xs, m, _, _, hlc, hlen, hg⟩ := DataW.trod_struct Try.underlying24 (by simpa [Value.cells] using hf)
  have hlc' : cs.length = 6 := hlc.trans (by kernel_rfl)
  match cs, hlc' with
  | [c0, c1, c2, c3, c4, c5], _ =>
    match xs, hlen with
    | [x0, x1, x2, x3, x4, x5], _ =>
      have e0 := hg 0 _ rfl
      have e1 := hg 1 _ rfl
      have e2 := hg 2 _ rfl
      have e3 := hg 3 _ rfl
      have e4 := hg 4 _ rfl
      have e5 := hg 5 _ rfl
      obtain ⟨b0, h0⟩ := one_bool Try.underlying4 e0
      obtain ⟨b1, h1⟩ := one_bool Try.underlying4 e1
      obtain ⟨z2, h2, w2⟩ := one_int Try.underlying3 e2
      obtain ⟨z3, h3, w3⟩ := one_int Try.underlying3 e3
      obtain ⟨z4, h4, w4⟩ := one_int Try.underlying3 e4
      obtain ⟨a, cap, l, h5, k1, k2, k3, k4⟩ := bytes_trod Try.underlying22 Try.underlying5 (by kernel_rfl) e5
      obtain rfl : c0 = .bool b0 := (List.cons.inj h0).1
      obtain rfl : c1 = .bool b1 := (List.cons.inj h1).1
      obtain rfl : c2 = .int .i64 z2 := (List.cons.inj h2).1
      obtain rfl : c3 = .int .i64 z3 := (List.cons.inj h3).1
      obtain rfl : c4 = .int .i64 z4 := (List.cons.inj h4).1
      subst h5
      exact ⟨⟨b0, b1, z2, z3, z4, l⟩, a, cap, rfl, k3, k1, k2⟩
end
end Go.Proofs.Ytelbfohiadklgaa

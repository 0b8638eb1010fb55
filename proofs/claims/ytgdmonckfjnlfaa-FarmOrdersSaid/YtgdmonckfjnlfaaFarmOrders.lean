/- The law FarmOrders holds: the walk, then the lift to the given statement. No condition. -/
import Derived.Test.YtgdmonckfjnlfaaI
import Derived.WalkKit
import Derived.Test.YtgdmonckfjnlfaaJ
import Derived.ProofKit
import Derived.OpenShut
import Derived.Lib.Hide
import Derived.ChangeOld
import Derived.Below
import Derived.SizedLaws
namespace Go.Proofs.Ytgdmonckfjnlfaa.farmOrders
open Go.ChangeShapes Go.WideShapes Go.ChangeAt Go.RowKit
set_option linter.unusedVariables false
theorem own : ownKnob Try.prog.godebug = none := by kernel_rfl
theorem laidOut : laidOutB Try.prog = true := by kernel_rfl

theorem seq_cases (s : FS) (n : Int) (room : Bool) (hn : 0 ≤ n ∧ n ≤ 255) (hx : 0 ≤ s.next ∧ s.next ≤ 255) :
    ((seqS s n room).2 = 1 ∧ n = s.next ∧ (seqS s n room).1.next = (s.next + 1) % 256) ∨ ((seqS s n room).2 ≠ 1 ∧ (seqS s n room).1.next = s.next) := by
  have hd : distC s.next n = (n - s.next) % 256 := by
    unfold distC
    rw [if_pos (by simp [cntB]; omega)]
  have ha : addC n 1 = (n + 1) % 256 := by
    unfold addC
    rw [if_pos (by simp [cntB]; omega)]
  unfold seqS
  rw [hd, ha]
  by_cases hl : s.lock = true
  · rw [if_pos hl]; right; simp
  · rw [if_neg hl]
    by_cases h0 : (n - s.next) % 256 = 0
    · have h3 : n = s.next := by omega
      cases room
      · rw [if_neg (by simp), if_pos h0]; right; simp
      · rw [if_pos ⟨h0, rfl⟩]; left; simp [h3]
    · rw [if_neg (fun h => h0 h.1), if_neg h0]
      right
      by_cases h3 : (n - s.next) % 256 < s.win
      · rw [if_pos h3]; simp
      · rw [if_neg h3]
        by_cases h4 : 256 - s.win ≤ (n - s.next) % 256
        · rw [if_pos h4]; simp
        · rw [if_neg h4]; simp
theorem ord_take (s : FS) (n : Int) (room : Bool) (h1 : s.craft = 7) (h2 : s.chan = 1) (hn : 0 ≤ n ∧ n ≤ 255) (hx : 0 ≤ s.next ∧ s.next ≤ 255) :
    ((takeF s (dataF n) room).2.2 = 1 ∧ n = s.next ∧ (takeF s (dataF n) room).2.1 = (dataF n).dat ∧ (takeF s (dataF n) room).1.next = (s.next + 1) % 256) ∨
    ((takeF s (dataF n) room).2.2 ≠ 1 ∧ (takeF s (dataF n) room).2.1 = [] ∧ (takeF s (dataF n) room).1.next = s.next) := by
  have hv : validB (dataF n) = true := by simp [validB, dataF, hn.1, hn.2]
  have e : verS s (dataF n) room = seqS s n room := by simp [verS, dataF]
  unfold takeF
  rw [if_neg (by rw [hv, h1, h2]; simp [dataF]), e]
  rcases seq_cases s n room hn hx with ⟨h3, h4, h5⟩ | ⟨h3, h4⟩
  · rw [if_neg (fun h => h h3)]; exact .inl ⟨rfl, h4, rfl, h5⟩
  · rw [if_pos h3]; exact .inr ⟨h3, rfl, h4⟩
/-- data, then Take, in this law -/
theorem take_ord {b hi : Nat} {s : FS} {n : Int} {room : Bool} {p : Addr} {cap : Nat} {w w1 : World} (h : FAt w b s) (ok : s.ok) (hb : hi ≤ b) (hd : BAt w1 (some p) (dataF n).dat) (hcap : 1 ≤ cap) (hp : w.heap.size ≤ p.block) (hB : Below w.heap.size w w1) (hh : hi ≤ w.heap.size) (h1 : s.craft = 7) (h2 : s.chan = 1) (hn : 0 ≤ n ∧ n ≤ 255) (hx : 0 ≤ s.next ∧ s.next ≤ 255) :
    Calls Try.prog 9 #[.pointer (some ⟨b, 0, none⟩), (dataF n).val (some p) cap, .bool room] w1 (fun e w' => ∃ (a' : Option Addr) (cap' : Nat) (s' : FS) (l' : List UInt8) (v : Int), e = .returned (.tuple #[.slice a' l'.length cap', .int .i64 v]) ∧ FAt w' b s' ∧ s'.ok ∧ s'.craft = 7 ∧ s'.chan = 1 ∧ BAt w' a' l' ∧ Below hi w w' ∧
      (v = 1 ∧ n = s.next ∧ l' = (dataF n).dat ∧ s'.next = (s.next + 1) % 256 ∨ v ≠ 1 ∧ l' = [] ∧ s'.next = s.next)) :=
  (take_data (room := room) h ok hb hd hcap hp hB hh).mono fun e w' ⟨a', cap', q1, q2, q3, q4, q5, _⟩ =>
    ⟨a', cap', _, _, _, q1, q2, q3, (take_keeps s _ room).craft.trans h1, (take_keeps s _ room).chan.trans h2, q4, q5, ord_take s n room h1 h2 hn hx⟩
set_option maxRecDepth 20000 in
set_option maxHeartbeats 4000000 in
theorem walk {H : Type} {enc : TypeId × Value → H} (a0 : Int) (v1 v2 : Value) (w : World) (w0 : (Lit.int .i64 a0).wf = true) {b1 : Nat} {d1 : DataW H} {p1 : List MemPlace} (ok1 : Value.okWide Try.prog w .any b1 22 v1) (tr1 : DataW.Trod enc Try.prog w 0 (fun _ => true) true 22 v1 d1 p1)
    {b2 : Nat} {d2 : DataW H} {p2 : List MemPlace} (ok2 : Value.okWide Try.prog w .any b2 23 v2) (tr2 : DataW.Trod enc Try.prog w 0 (fun _ => true) true 23 v2 d2 p2) :
    Calls Try.prog 3 #[.int .i64 a0, v1, v2] w fun e w' => e = .returned (.bool true) ∧ Below w.heap.size w w' := by
  obtain ⟨a, cap, l, rfl, hl, hm, hb, -⟩ := arg_ints Try.underlying22 Try.underlying3 (by kernel_rfl) ok1 tr1
  obtain ⟨af, capf, lf, rfl, hlf, hmf, hbf⟩ := arg_bools Try.underlying23 Try.underlying4 (by kernel_rfl) ok2 tr2
  clear ok1 tr1 ok2 tr2
  unfold maxLen at hm hmf
  have HV := Lib.hid hb
  have HVF := Lib.hid hbf
  clear hb hbf
  by_cases hn : l.length ≤ 200
  · have hn' : ¬ (200 : Int) < l.length := by omega
    have k5 := f34_5
    go_enter Try.func3, Try.ntmps3
    go_wp2_with fail
    refine (new_ok 7 1 a0 _ (by decide)).mono ?_
    rintro e w1 ⟨rfl, hF, hB⟩
    have HF := Lib.hid (show FAt w1 w.heap.size ⟨7, min (max a0 1) 127, 1, false, false, false, 0, 0⟩ from hF)
    have HB1 := Lib.hid hB
    have hs1 := hB.size
    clear hF hB
    go_wp2_with fail
    go_loopw [8, 9] (fun nx i wr => ∃ (k m : Nat) (s : FS), k ≤ l.length ∧ m ≤ k ∧ i = .int .i64 k ∧ nx = .int .i64 m ∧ FAt wr w.heap.size s ∧ s.ok ∧ s.craft = 7 ∧ s.chan = 1 ∧ s.next = (m : Int) % 256 ∧ Below w.heap.size w wr) (fun _ i _ => l.length - (intOf i).toNat)
    case atStart => exact ⟨0, 0, _, by omega, by omega, rfl, rfl, HF.out, ⟨by constructor <;> simp only <;> omega, by constructor <;> simp only <;> omega⟩, rfl, rfl, rfl, HB1.out⟩
    case round =>
      obtain ⟨k, m, s, hk, hmk, rfl, rfl, hF, ok, hcr, hch, hnx, hB⟩ := hrel
      have HF := Lib.hid hF
      have OK := Lib.hid ok
      have HCR := Lib.hid hcr
      have HCH := Lib.hid hch
      have HNX := Lib.hid hnx
      have HB := Lib.hid hB
      have hsr := hB.size
      clear hF ok hcr hch hB hnx
      by_cases hlt : k < l.length
      · obtain ⟨ba, off, rfl, hba, hcell⟩ := (HV.out.below HB.out (Nat.le_refl _)).int hlt
        obtain ⟨m0, em0, bm0⟩ := in256 l[k]
        have BM0 := Lib.hid bm0
        have hk0 : (0 : Int) ≤ (k : Int) := by omega
        have hk1 : (k : Int) < (l.length : Int) := by omega
        clear bm0
        have hrm : ((lf.length : Int) ≤ (k : Int)) ∨ ¬ ((lf.length : Int) ≤ (k : Int)) ∧ (k : Int) < (lf.length : Int) ∧ ∃ (bf offf : Nat) (u : Bool), af = some ⟨bf, offf, none⟩ ∧ bf < wr.heap.size ∧ wr.cell? ⟨bf, offf + k, none⟩ = some (.bool u) := by
          by_cases h : lf.length ≤ k
          · exact .inl (by omega)
          · obtain ⟨bf, offf, e1, e2, e3⟩ := (HVF.out.below HB.out (Nat.le_refl _)).bool (show k < lf.length by omega)
            exact .inr ⟨by omega, by omega, bf, offf, _, e1, e2, e3⟩
        rcases hrm with hrm | ⟨hrm, hrm2, bf, offf, u, rfl, hbf, hcf⟩
        all_goals
          go_wp2_with fail
          refine (data_any m0 _).mono ?_
          rintro e w2 ⟨p2, c2, rfl, hd, hc, hp, hB2⟩
          try have hcf2 := (hB2.cell (p := ⟨bf, offf + k, none⟩) hbf).trans hcf
          have HDD := Lib.hid hd
          have HB2 := Lib.hid hB2
          clear hd hB2
          go_wp2_with fail
          refine (take_ord HF.out OK.out (Nat.le_refl _) HDD.out hc hp HB2.out hsr HCR.out HCH.out BM0.out (by have := HNX.out; omega)).mono ?_
          rintro e w3 ⟨a3, c3, s3, l3, v3, rfl, hF3, ok3, hcr3, hch3, hA3, hB3, h3⟩
          have HF3 := Lib.hid hF3
          have OK3 := Lib.hid ok3
          have HC3 := Lib.hid hcr3
          have HH3 := Lib.hid hch3
          have HB3 := Lib.hid (HB.out.trans hB3)
          have hs3 := HB3.out.size
          have HA3 := Lib.hid hA3
          clear hF3 ok3 hcr3 hch3 hB3 hA3 HDD HB2 hp hc
          try clear hcf hcf2 hrm2
          clear hrm
          rcases h3 with ⟨h4, h5, h6, h7⟩ | ⟨h4, h6, h7⟩
          · subst h4
            subst h6
            have hne : (m0 != (m : Int) % 256) = false := by rw [h5, HNX.out]; simp
            have hl1 : (dataF m0).dat.length = 1 := rfl
            have hm8 : m0 % 256 = m0 := by have := BM0.out; omega
            have hcv1 : (convert 27 9 (.slice a3 1 c3)).run Try.prog w3 = .ok (.string ⟨#[UInt8.ofNat (m0 % 256).toNat]⟩) w3 := HA3.out.str 27 9 5 c3 Try.underlying27 Try.underlying5 Try.underlying9
            have hB8 := lit1 w3 (UInt8.ofNat (m0 % 256).toNat) 5 (0, 0)
            rw [toU8] at hB8
            have hcv2 : (convert 27 9 (.slice (some ⟨w3.heap.size, 0, none⟩) 1 1)).run Try.prog (w3.alloc (.cells #[.int .u8 (m0 % 256)] 5)) = .ok (.string ⟨#[UInt8.ofNat (m0 % 256).toNat]⟩) (w3.alloc (.cells #[.int .u8 (m0 % 256)] 5)) := hB8.str 27 9 5 1 Try.underlying27 Try.underlying5 Try.underlying9
            rw [hm8] at hcv1 hcv2
            have H5 := Lib.hid h5
            have H7 := Lib.hid h7
            clear hB8 h5 h7
            go_wp2_with fail
            refine (report_any _ _ _ (HF3.out.alloc _) OK3.out.1.1).mono ?_
            rintro e w4 ⟨rfl, hB4⟩
            have HB4 := Lib.hid hB4
            have hnn : (s3.next != ((m : Int) + 1) % 256) = false := by rw [H7.out, HNX.out]; simp
            clear hB4
            unfold FS.word
            go_wp2_with fail
            go_roundw
            case rel => exact ⟨k + 1, m + 1, s3, by omega, by omega, by go_num, by go_num, Blk.below (Blk.alloc HF3.out _) HB4.out (Nat.le_refl _), OK3.out, HC3.out, HH3.out, by rw [H7.out, HNX.out]; omega, (HB3.out.trans ((al (Below.refl _ _) _).mono hs3)).trans (HB4.out.mono (by simp; omega))⟩
            case measure => simp [intOf]; omega
          · have hv : (v3 == 1) = false := by rw [beq_eq_false_iff_ne]; exact h4
            have H7 := Lib.hid h7
            subst h6
            clear h4 h7
            go_wp2_with fail
            refine (report_any _ _ _ HF3.out OK3.out.1.1).mono ?_
            rintro e w4 ⟨rfl, hB4⟩
            have HB4 := Lib.hid hB4
            have hnn : (s3.next != (m : Int) % 256) = false := by rw [H7.out, HNX.out]; simp
            clear hB4
            unfold FS.word
            go_wp2_with fail
            go_roundw
            case rel => exact ⟨k + 1, m, s3, by omega, by omega, by go_num, rfl, HF3.out.below HB4.out (Nat.le_refl _), OK3.out, HC3.out, HH3.out, by rw [H7.out, HNX.out], HB3.out.trans (HB4.out.mono hs3)⟩
            case measure => simp [intOf]; omega
      · have hlt' : ¬ (k : Int) < (l.length : Int) := by omega
        go_wp2_with fail
        refine (alive_any _).mono ?_
        rintro e w9 ⟨rfl, hB9⟩
        go_wp2_with fail
        go_ret
        exact ⟨rfl, below2 HB.out hB9⟩
  · have hn' : (200 : Int) < l.length := by omega
    go_enter Try.func3, Try.ntmps3
    go_wp2_with fail
    refine (alive_any _).mono ?_
    rintro e w2 ⟨rfl, hB2⟩
    go_wp2_with fail
    go_ret
    exact ⟨rfl, hB2⟩


set_option maxRecDepth 100000 in
theorem lifted (os : Os) (started : os.Started) (H : Type) (enc : TypeId × Value → H) :
    ReturnsInHanded {} Try.checked os 3 .any (Rows.farmOrdersSpec.pre6 enc Try.prog Try.f3 Rows.farmOrdersRow.domain false) (Rows.farmOrdersSpec.post enc Try.prog Try.f3 false true false false) := by
  refine returnsInHanded_of_change (C := Try.checked) own started (by kernel_rfl) Try.func3
    (ChangeSpec.witness6 (enc := enc) (C := Try.checked) false ⟨#[], #[.int .i64 0, .slice none 0 0, .slice none 0 0], []⟩ 8 (by kernel_rfl) (by kernel_rfl) (by kernel_rfl) (by kernel_rfl)) ?_
  intro W base args ds gs before hval0 hW hcnd _
  have hval : ∀ (j : Nat) t v, Try.f3.params[j]? = some t → args[j]? = some v → Value.okWide Try.prog W .any base t v := hval0
  have hW' := hW
  obtain ⟨p, q, hA0, hV, rfl, hfz, hnd⟩ := hW
  have hA : DataW.TrodAll enc Try.prog W 0 (fun _ => true) true Try.f3.params.toList args.toList ds p := hA0
  rw [Try.params3] at hA hval
  obtain ⟨v0, vs0, d0, ds0, p0, q0, hargs, rfl, rfl, h0, r0⟩ := trodAll_cons hA
  obtain ⟨v1, vs1, d1, ds1, p1, q1, rfl, rfl, rfl, h1, r1⟩ := trodAll_cons r0
  obtain ⟨v2, vs2, d2, ds2, p2, q2, rfl, rfl, rfl, h2, r2⟩ := trodAll_cons r1
  obtain ⟨rfl, rfl, rfl⟩ := trodAll_nil r2
  obtain rfl : args = #[v0, v1, v2] := by cases args; simp_all
  obtain ⟨rfl, rfl⟩ := trodVars_none hV
  obtain ⟨a0, rfl, rfl, rfl, w0⟩ := open_int Try.underlying3 (hval 0 3 v0 rfl rfl) h0
  have k1 := h1
  have lt1 : ∀ x ∈ p1, x.block < W.heap.size := by obtain ⟨m, hm⟩ := k1; exact DataW.trod_lt m _ _ _ hm
  have k2 := h2
  have lt2 : ∀ x ∈ p2, x.block < W.heap.size := by obtain ⟨m, hm⟩ := k2; exact DataW.trod_lt m _ _ _ hm
  clear hA0 hval0
  refine (walk a0 v1 v2 W w0 (hval 1 22 v1 rfl rfl) k1 (hval 2 23 v2 rfl rfl) k2).mono fun e W' ⟨he, bel⟩ => ?_
  subst he
  exact ⟨_, rfl, _, _, _, [], _, [], hW', trodAll_mk1 (shut_bool Try.underlying4 _), (trodAll_cons_mk (shut_int Try.underlying3 w0) (trodAll_cons_mk (Below.trod laidOut (by kernel_rfl) (of_decide_eq_true (by kernel_rfl)) k1 bel lt1) (trodAll_cons_mk (Below.trod laidOut (by kernel_rfl) (of_decide_eq_true (by kernel_rfl)) k2 bel lt2) trodAll_mk0))), rfl, bel.frame _, fun h => by cases h⟩

theorem over : Rows.farmOrdersRow.holds Try.pinned (OpenSpec.ofChange Rows.farmOrdersSpec) :=
  OpenClaim.holds_of_wide 3 Try.f3 rfl rfl rfl rfl rfl rfl rfl ⟨rfl, rfl, rfl, rfl, rfl⟩ rfl rfl rfl rfl rfl (by kernel_rfl) Try.func3 (by kernel_rfl)
    (of_decide_eq_true (by kernel_rfl)) (by unfold Func.isWrapper; first | (rw [if_pos (by decide +kernel)]; kernel_rfl) | (rw [if_neg (by decide +kernel)]; exact ⟨rfl, rfl⟩))
    (fun os started H enc _ => lifted os started H enc)

theorem proved : Rows.FarmOrdersSaid := over
#print axioms proved
end Go.Proofs.Ytgdmonckfjnlfaa.farmOrders

/- The chapter's examples. No condition. -/
import Derived.Test.YtnojmkmmfiahgaaR
import Derived.Lib.SlBytesConst
namespace Go.Proofs.Ytnojmkmmfiahgaa
open Go.RowKit Go.Deep Go.ChangeShapes Go.WideShapes Go.ChangeAt
set_option linter.unusedVariables false

theorem lit2 (B : Nat) (w : World) (x y : UInt8) (m : Nat × Nat) : AB B (w.alloc (.cells #[.int .u8 (x.toNat : Int), .int .u8 (y.toNat : Int)] 5 m)) (some ⟨w.heap.size, 0, none⟩) [x, y] := by
  refine ⟨.inr ⟨_, _, rfl, by simp, fun i hi => ?_⟩, fun q hq _ hk => ?_⟩
  · rw [Joins.cell_alloc_mark_at _ _ _ _ _ _ rfl]
    match i, hi with
    | 0, _ => rfl
    | 1, _ => rfl
  · cases hq
    obtain ⟨cs, t, m', h1, h2⟩ := hk.1
    rw [show (⟨w.heap.size, 0, none⟩ : Addr).block = w.heap.size from rfl, heap_alloc_new] at h1
    simp at h1
    obtain ⟨-, rfl, -⟩ := h1
    exact absurd h2 (by decide)
theorem level_ex {w : World} {B b : Nat} {r : RS} {vS : Value} {Y : List SM} {id k : Int} (hk : r.level id = k) (h : RAt w B b r vS Y) (hn : Y.length ≤ 1000) : Calls Try.prog 11 #[.pointer (some ⟨b, 0, none⟩), .int .i64 id] w fun e w' => e = .returned (.int .i64 k) ∧ Below w.heap.size w w' := hk ▸ level_any id h hn
theorem dropped_ex {w : World} {B b : Nat} {r : RS} {vS : Value} {Y : List SM} {id k : Int} (hk : r.dropped id = k) (h : RAt w B b r vS Y) (hn : Y.length ≤ 1000) : Calls Try.prog 14 #[.pointer (some ⟨b, 0, none⟩), .int .i64 id] w fun e w' => e = .returned (.int .i64 k) ∧ Below w.heap.size w w' := hk ▸ dropped_any id h hn
theorem delete_ex {w : World} {B b : Nat} {r r' : RS} {vS : Value} {Y : List SM} {id t k : Int} (hk : r.delete id t = (r', k)) (h : RAt w B b r vS Y) (ok : r.Ok) : Calls Try.prog 15 #[.pointer (some ⟨b, 0, none⟩), .int .i64 id, .int .i64 t] w fun e w' => e = .returned (.int .i64 k) ∧ RF B w w' := by
  refine (delete_any id t h ok).mono ?_
  rw [hk]
  rintro e w' ⟨h1, h2, -⟩
  exact ⟨h1, h2⟩
theorem yl_of {w : World} {B b : Nat} {r : RS} {vS : Value} {Y : List SM} (h : RAt w B b r vS Y) (ok : r.Ok) : Y.length ≤ 1000 := by rw [h.yl]; have := ok.few; omega
def q0 : RS := ⟨0, [⟨3, 5, 0, true, [], 0⟩]⟩
def q1 : RS := ⟨1, [⟨3, 5, 0, true, [⟨1, [65, 66], false⟩], 0⟩]⟩
def q2 : RS := ⟨2, [⟨3, 5, 0, true, [⟨1, [65, 66], false⟩, ⟨2, [67, 68], false⟩], 0⟩]⟩
def q3 : RS := ⟨3, [⟨3, 5, 0, true, [⟨2, [67, 68], false⟩, ⟨3, [69, 70], false⟩], 1⟩]⟩
def q4 : RS := ⟨3, [⟨3, 5, 0, true, [⟨2, [67, 68], true⟩, ⟨3, [69, 70], false⟩], 1⟩]⟩
theorem ex1 : q0.add 3 1 [65, 66] = (q1, 0) := by kernel_rfl
theorem ex2 : q1.add 3 2 [67, 68] = (q2, 0) := by kernel_rfl
theorem ex3 : q2.add 3 3 [69, 70] = (q3, 0) := by kernel_rfl
theorem ex4 : q3.replay 3 0 2 = (q4, 0) := by kernel_rfl
theorem ex5 : q4.next = (q3, some [67, 68]) := by kernel_rfl
theorem ex6 : q3.next = (q3, none) := by kernel_rfl
theorem ex7 : q3.level 3 = 4 := by kernel_rfl
theorem ex8 : q3.dropped 3 = 1 := by kernel_rfl
theorem ex9 : q3.delete 4 0 = (q3, 8) := by kernel_rfl
theorem ok0 : q0.Ok := ⟨by decide, by decide, fun s hs => by
  simp [q0] at hs
  subst hs
  exact ⟨by decide, by decide, by decide, by decide, fun x hx => by simp at hx, fun x hx => by simp at hx⟩⟩
theorem ok1 : q1.Ok := by have := RS.ok_add ok0 3 1 [65, 66]; rwa [ex1] at this
theorem ok2 : q2.Ok := by have := RS.ok_add ok1 3 2 [67, 68]; rwa [ex2] at this
theorem ok3 : q3.Ok := by have := RS.ok_add ok2 3 3 [69, 70]; rwa [ex3] at this
theorem ok4 : q4.Ok := by have := RS.ok_replay ok3 3 0 2; rwa [ex4] at this
theorem new_ok {w : World} {a : Option Addr} {n cap : Nat} {ds : List Df} (hD : DAt w a ds) (hn : ds.length = n) (hc : n ≤ cap) (hm : cap ≤ maxLen) (hbd : ∀ i, ¬ badD ds i) (hl : ds.length ≤ 256 := by decide) : Calls Try.prog 9 #[.slice a n cap] w fun e w' => ∃ b vS Y, e = .returned (.tuple #[.pointer (some ⟨b, 0, none⟩), .int .i64 0]) ∧ RAt w' w.heap.size b ⟨0, ds.map Df.st⟩ vS Y ∧ Below w.heap.size w w' := by
  refine (new_any hD hn hc hm).mono ?_
  rintro e w' ⟨h | h | h, hB⟩
  · omega
  · obtain ⟨i, hi⟩ := h.2.1; exact absurd hi (hbd i)
  · obtain ⟨b, vS, Y, h1, h2⟩ := h.2.2; exact ⟨b, vS, Y, h1, h2, hB⟩
theorem drop_of {r : RS} (h : ∀ s ∈ r.stores, s.drop ≤ 4000000000000000000) : ∀ (i : Nat) (s : St), r.stores[i]? = some s → s.drop ≤ 4000000000000000000 := fun i s hs => h s (List.mem_of_getElem? hs)
theorem dr0 : ∀ s ∈ q0.stores, s.drop ≤ 4000000000000000000 := by simp [q0]
theorem dr1 : ∀ s ∈ q1.stores, s.drop ≤ 4000000000000000000 := by simp [q1]
theorem dr2 : ∀ s ∈ q2.stores, s.drop ≤ 4000000000000000000 := by simp [q2]
set_option maxRecDepth 20000 in
set_option maxHeartbeats 4000000 in
theorem alive_any (w : World) : Calls Try.prog 8 #[] w fun e w' => e = .returned (.bool true) ∧ Below w.heap.size w w' := by
  obtain ⟨b, hb⟩ : ∃ b, b = w.heap.size + 1 := ⟨_, rfl⟩
  have kc := fun (w : World) (C : Array Value) (n c : Nat) => Lib.run_convert_bytes_const (P := Try.prog) w 31 5 C n c Try.underlying31 Try.underlying5
  go_enter Try.func8, Try.ntmps8
  go_wp2_with fail
  refine (new_ok (ds := [⟨3, 5, 0, true⟩]) (.inr ⟨_, _, rfl, by simp, fun i hi j hj => ?_⟩) rfl (by decide) (by decide) (fun i h => ?_)).mono ?_
  · obtain rfl : i = 0 := by simp at hi; omega
    have h9 := (Blk.new w 29 [.int .i64 3, .int .i64 5, .int .i64 0, .bool true]).cell j
    rw [show 0 + (0 * 4 + j) = j by omega]
    exact h9
  · obtain ⟨d, h1, h2⟩ := h
    obtain rfl : i = 0 := by have := (List.getElem?_eq_some_iff.1 h1).1; simp at this; omega
    simp at h1
    subst h1
    simp at h2
  rintro e w0 ⟨rb, vS, Y0, rfl, hR, hB⟩
  rw [show (w.alloc (.cells #[.int .i64 3, .int .i64 5, .int .i64 0, .bool true] 29)).heap.size = b by rw [hb]; simp] at hR hB
  have HR0 : Hid (RAt w0 b rb q0 vS Y0) := Lib.hid hR
  have HB0 : Hid (Below b (w.alloc (.cells #[.int .i64 3, .int .i64 5, .int .i64 0, .bool true] 29)) w0) := Lib.hid hB
  have HBB := Lib.hid hb
  clear hR hB hb
  go_wp2_with fail
  refine (add_any 3 1 (HR0.out.below (al (Below.refl _ _) _) (Nat.le_refl _)) ok0 (lit2 b w0 65 66 _) rfl (by decide) (drop_of dr0)).mono ?_
  rw [ex1]
  rintro e w1 ⟨rfl, hF, Y1, hR⟩
  have HR1 := Lib.hid hR
  have HB1 : Hid (Below b w0 w1) := Lib.hid (((Below.refl _ _).alloc (Nat.le_trans HR0.out.lo (Nat.le_of_lt HR0.out.blk.lt)) _).trans (hF.toBelow (Nat.le_trans (Nat.le_trans HR0.out.lo (Nat.le_of_lt HR0.out.blk.lt)) (by simp))))
  clear hF hR
  go_wp2_with fail
  refine (add_any 3 2 (HR1.out.below (al (Below.refl _ _) _) (Nat.le_refl _)) ok1 (lit2 b w1 67 68 _) rfl (by decide) (drop_of dr1)).mono ?_
  rw [ex2]
  rintro e w2 ⟨rfl, hF, Y2, hR⟩
  have HR2 := Lib.hid hR
  have HB2 : Hid (Below b w0 w2) := Lib.hid (HB1.out.trans (((Below.refl _ _).alloc (Nat.le_trans HR1.out.lo (Nat.le_of_lt HR1.out.blk.lt)) _).trans (hF.toBelow (Nat.le_trans (Nat.le_trans HR1.out.lo (Nat.le_of_lt HR1.out.blk.lt)) (by simp)))))
  clear hF hR
  go_wp2_with fail
  refine (add_any 3 3 (HR2.out.below (al (Below.refl _ _) _) (Nat.le_refl _)) ok2 (lit2 b w2 69 70 _) rfl (by decide) (drop_of dr2)).mono ?_
  rw [ex3]
  rintro e w3 ⟨rfl, hF, Y3, hR⟩
  have HR3 := Lib.hid hR
  have HB3 : Hid (Below b w0 w3) := Lib.hid (HB2.out.trans (((Below.refl _ _).alloc (Nat.le_trans HR2.out.lo (Nat.le_of_lt HR2.out.blk.lt)) _).trans (hF.toBelow (Nat.le_trans (Nat.le_trans HR2.out.lo (Nat.le_of_lt HR2.out.blk.lt)) (by simp)))))
  clear hF hR
  go_wp2_with fail
  refine (replay_any 3 0 2 HR3.out ok3).mono ?_
  rw [ex4]
  rintro e w4 ⟨rfl, hF, Y4, hR⟩
  have HR4 := Lib.hid hR
  have HB4 : Hid (Below b w0 w4) := Lib.hid (HB3.out.trans (hF.toBelow (Nat.le_trans HR3.out.lo (Nat.le_of_lt HR3.out.blk.lt))))
  clear hF hR
  go_wp2_with fail
  refine (next_any HR4.out ok4).mono ?_
  unfold NQ
  rw [ex5]
  rintro e w5 ⟨⟨v5, rfl, hO⟩, hF, Y5, hR⟩
  have HR5 := Lib.hid hR
  have HB5 : Hid (Below b w0 w5) := Lib.hid (HB4.out.trans (hF.toBelow (Nat.le_trans HR4.out.lo (Nat.le_of_lt HR4.out.blk.lt))))
  have HO5 : Hid (w5.ownsRow b 5 1 v5 2 (encB [67, 68])) := Lib.hid (own_base hO (Nat.le_trans HR4.out.lo (Nat.le_of_lt HR4.out.blk.lt)))
  obtain ⟨a5, m5, c5, rfl⟩ := own_slice HO5.out
  clear hF hR hO
  go_wp2_with fail
  refine (next_any HR5.out ok3).mono ?_
  unfold NQ
  rw [ex6]
  rintro e w6 ⟨rfl, hF, Y6, hR⟩
  have HR6 := Lib.hid hR
  have HB6 : Hid (Below b w0 w6) := Lib.hid (HB5.out.trans (hF.toBelow (Nat.le_trans HR5.out.lo (Nat.le_of_lt HR5.out.blk.lt))))
  have HO6 := Lib.hid (hF.own HO5.out (by decide))
  clear hF hR
  go_upto_region 10 with fail
  have k6 := own_str HO6.out
  clear kc
  go_wp2_with fail
  refine (level_ex ex7 HR6.out (yl_of HR6.out ok3)).mono ?_
  rintro e w7 ⟨rfl, hB⟩
  have HB7 := Lib.hid hB
  clear hB k6
  go_wp2_with fail
  refine (dropped_ex ex8 (HR6.out.below HB7.out (Nat.le_refl _)) (yl_of HR6.out ok3)).mono ?_
  rintro e w8 ⟨rfl, hB⟩
  have HB8 := Lib.hid (HB7.out.trans (hB.mono HB7.out.size))
  clear hB
  go_wp2_with fail
  refine (delete_ex ex9 (HR6.out.below HB8.out (Nat.le_refl _)) ok3).mono ?_
  rintro e w9 ⟨rfl, hB⟩
  have HB9 := Lib.hid hB
  clear hB
  go_wp2_with fail
  go_ret
  refine ⟨rfl, ?_⟩
  have hb9 := HBB.out
  have h1 : Below w.heap.size w (w.alloc (.cells #[.int .i64 3, .int .i64 5, .int .i64 0, .bool true] 29)) := al (Below.refl _ _) _
  have h3 : Below b w6 w8 := HB8.out.mono (Nat.le_trans HR6.out.lo (Nat.le_of_lt HR6.out.blk.lt))
  have h4 : Below b w8 w9 := HB9.out.toBelow (Nat.le_trans (Nat.le_trans HR6.out.lo (Nat.le_of_lt HR6.out.blk.lt)) HB8.out.size)
  exact h1.trans (((HB0.out.trans HB6.out).trans (h3.trans h4)).mono (by omega))
end Go.Proofs.Ytnojmkmmfiahgaa

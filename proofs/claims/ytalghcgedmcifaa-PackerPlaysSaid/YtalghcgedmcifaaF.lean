/- Contracts of Encode, Bytes, Idle on both sides. No condition. -/
import Derived.Test.YtalghcgedmcifaaE
namespace Go.Proofs.Ytalghcgedmcifaa
open Go.RowKit Go.Deep Go.ChangeShapes Go.WideShapes Go.ChangeAt
set_option linter.unusedVariables false

/-- a call gives bytes of its own, and an error -/
def EQ (w : World) (r : List UInt8 × Int) (e : Ending) (w' : World) : Prop :=
  ∃ v, e = .returned (.tuple #[v, .int .i64 r.2]) ∧ w'.ownsRow w.heap.size 5 1 v r.1.length (encB r.1) ∧ Below w.heap.size w w'
/-- a flag's value -/
def flagZ (on : Bool) (v : Int) : Int := if on then v else 0
theorem flagZ_any (on : Bool) (v : Int) (w : World) : Calls Try.prog 39 #[.bool on, .int .i64 v] w fun e w' => e = .returned (.int .i64 (flagZ on v)) ∧ w' = w := flag_any on v w
theorem flag_bits (p : Pk) (h : 0 ≤ p.apid ∧ p.apid ≤ 2047) : bits .or .i64 (bits .or .i64 (flagZ p.cmd 4096) (flagZ p.sec 2048)) p.apid = firstW p := by
  have e : bits .or .i64 (flagZ p.cmd 4096) (flagZ p.sec 2048) = flagZ p.cmd 4096 + flagZ p.sec 2048 := by
    cases p.cmd <;> cases p.sec <;> rfl
  rw [e]
  refine or_add _ _ 11 (by omega) ?_ (by omega) ?_
  · cases p.cmd <;> cases p.sec <;> simp [flagZ]
  · cases p.cmd <;> cases p.sec <;> simp [flagZ]
theorem own_base {w : World} {B B' : Nat} {e : TypeId} {k : Nat} {v : Value} {n : Nat} {xs : List Value} (h : w.ownsRow B e k v n xs) (hB : B' ≤ B) : w.ownsRow B' e k v n xs := by
  refine ⟨h.1, ?_⟩
  rcases h.2 with hn | ⟨g, cap, cur, rfl, hb, rest⟩
  · exact .inl hn
  · exact .inr ⟨g, cap, cur, rfl, Nat.le_trans hB hb, rest⟩
theorem own_new (w : World) (e : TypeId) (xs : List Value) (hm : xs.length ≤ maxLen) : (w.alloc (.cells xs.toArray e)).ownsRow w.heap.size e 1 (.slice (some ⟨w.heap.size, 0, none⟩) xs.length xs.length) xs.length xs :=
  ⟨by simp, .inr ⟨w.heap.size, xs.length, xs.toArray, rfl, Nat.le_refl _, heap_alloc_new w _, Nat.le_refl _, hm, by simp, by simp⟩⟩
theorem head_cells (p : Pk) (hv : validB p = true) : encB (headP p) = [.int .u8 (firstW p / 256), .int .u8 (firstW p % 256), .int .u8 (secondW p / 256), .int .u8 (secondW p % 256), .int .u8 (((p.dat.length : Int) - 1) / 256), .int .u8 (((p.dat.length : Int) - 1) % 256)] := by
  obtain ⟨f1, f2⟩ := firstW_bd p hv
  obtain ⟨s1, s2⟩ := secondW_bd p hv
  obtain ⟨⟨a1, a2, g1, g2, c1, c2, l1, l2⟩, -⟩ := (validB_iff p).1 hv
  simp only [encB, headP, List.map_cons, List.map_nil, b8_int]
  rw [Int.emod_eq_of_lt (show 0 ≤ firstW p / 256 by omega) (by omega), Int.emod_eq_of_lt (show 0 ≤ secondW p / 256 by omega) (by omega), Int.emod_eq_of_lt (show 0 ≤ ((p.dat.length : Int) - 1) / 256 by omega) (by omega)]
theorem head_own (p : Pk) (hv : validB p = true) (w : World) (B : Nat) (hB : B ≤ w.heap.size) : (w.alloc (.cells #[.int .u8 (firstW p / 256), .int .u8 (firstW p % 256), .int .u8 (secondW p / 256), .int .u8 (secondW p % 256), .int .u8 (((p.dat.length : Int) - 1) / 256), .int .u8 (((p.dat.length : Int) - 1) % 256)] 5)).ownsRow B 5 1 (.slice (some ⟨w.heap.size, 0, none⟩) 6 6) 6 (encB (headP p)) := by
  rw [head_cells p hv]
  exact ⟨by simp, .inr ⟨w.heap.size, 6, _, rfl, hB, heap_alloc_new w _, Nat.le_refl _, by unfold maxLen; omega, by simp, by simp⟩⟩
theorem info5 : (Try.prog.info? 5).map (fun i => (i.zero, i.size, i.bytes)) = some (some (.int .u8 0), 1, 1) := by kernel_rfl
set_option maxRecDepth 20000 in
set_option maxHeartbeats 2000000 in
theorem encode_ok (p : Pk) (a : Option Addr) (cap : Nat) (w : World) (hb : BAt w a p.dat) (hv : validB p = true) : Calls Try.prog 36 #[p.val a cap] w (EQ w (encP p)) := by
  have HV := Lib.hid hv
  obtain ⟨⟨a1, a2, g1, g2, c1, c2, l1, l2⟩, -⟩ := (validB_iff p).1 hv
  have HB := Lib.hid hb
  obtain ⟨f1, f2⟩ := firstW_bd p hv
  have hfw := flag_bits p ⟨a1, a2⟩
  have hsw : bits .or .i64 (p.flags * 16384) p.count = secondW p := or_add _ _ 14 (by omega) (by omega) (by omega) (by omega)
  obtain ⟨s1, s2⟩ := secondW_bd p hv
  clear hv hb
  unfold Pk.val
  go_enter Try.func36, Try.ntmps36
  go_wp2_with fail
  refine (valid_any p a cap _ (by unfold maxLen; omega) (HB.out.below (al (Below.refl _ _) _) (Nat.le_refl _))).mono ?_
  rintro e w2 ⟨rfl, hB⟩
  rw [HV.out]
  have hbx := (Blk.new w 59 _).below hB (Nat.le_refl _)
  have b0 := hbx.at 0 rfl
  have b1 := hbx.at 1 rfl
  have b2 := hbx.at 2 rfl
  have b3 := hbx.at 3 rfl
  have b4 := hbx.at 4 rfl
  have b5 := hbx.at 5 rfl
  have hl := hbx.lt
  have HB2 := Lib.hid ((al (Below.refl _ _) _).trans (hB.mono (by simp)))
  clear hB hbx
  obtain ⟨ba, off, rfl, hba, hc⟩ := HB.out.resolve_left (fun e => by rw [e] at l1; simp at l1)
  have HC := Lib.hid (BAt.news hc)
  have HBA := Lib.hid hba
  clear hc hba
  go_wp2_with fail
  go_quiet ((go_at_call 39; exact Calls.quiet_of_same ((flagZ_any _ _ _).mono fun _ _ h => ⟨h.1, h.2⟩)))
  have hB6 : ∀ o, Below w.heap.size w ((w2.drewN nq).alloc o) := fun o => (HB2.out.trans (Joins.below_draws _ _ _)).alloc HB2.out.size o
  have HB6 := Lib.hid hB6
  have b5' : ∀ o, ((w2.drewN nq).alloc o).cell? ⟨w.heap.size, 5, none⟩ = some (.slice (some ⟨ba, off, none⟩) p.dat.length cap) := fun o => ((al (Below.refl _ (w2.drewN nq)) o).cell (p := ⟨w.heap.size, 5, none⟩) hl).trans b5
  have HN : Hid (∀ o, ∀ j u, (encB p.dat)[j]? = some u → ((w2.drewN nq).alloc o).cell? ((⟨ba, off, none⟩ : Addr).add j) = some u) := Lib.hid (fun o j u hj => ((hB6 o).cell (p := (⟨ba, off, none⟩ : Addr).add j) (by rw [add_plain]; exact HBA.out)).trans (HC.out j u hj))
  obtain ⟨j0, hj, hy0, hy1, hy2⟩ := info_parts info5
  clear hB6
  go_wp2_with (at_builtin; refine wpList_append_own _ rfl _ _ 22 rfl w.heap.size 5 j0 (.int .u8 0) 1 1 Try.underlying22 hj hy0 hy1 hy2 rfl (by decide) _ 6 (encB (headP p)) rfl (head_own p HV.out _ _ (by simp; omega)) ⟨ba, off, none⟩ p.dat.length cap (encB p.dat) rfl (by simp [encB]) (HN.out _) (encB_one _) (by unfold maxLen; omega) (by omega) (by simp; omega) ?_)
  intro v' w1 hown hgrow hblk
  have HO := Lib.hid hown
  have HG := Lib.hid hgrow
  have HBK := Lib.hid hblk
  clear hown hgrow hblk b5'
  go_wp2_with fail
  go_ret2
  rw [encP, if_pos HV.out]
  have ho := HO.out
  rw [← encB_append] at ho
  exact ⟨v', rfl, by rw [bytesP_length]; exact ho, (HB6.out _).grown HG.out (by simp; omega) (fun k hk => by simp [Value.ownBlock] at hk; omega)⟩
theorem encode_bad (p : Pk) (a : Option Addr) (cap : Nat) (w : World) (hl : p.dat.length ≤ maxLen) (hb : BAt w a p.dat) (hv : validB p = false) : Calls Try.prog 36 #[p.val a cap] w (EQ w (encP p)) := by
  have HV := Lib.hid hv
  have HB := Lib.hid hb
  clear hv hb
  unfold Pk.val
  go_enter Try.func36, Try.ntmps36
  go_wp2_with fail
  refine (valid_any p a cap _ hl (HB.out.below (al (Below.refl _ _) _) (Nat.le_refl _))).mono ?_
  rintro e w2 ⟨rfl, hB⟩
  rw [HV.out]
  have HB2 := Lib.hid ((al (Below.refl _ _) _).trans (hB.mono (by simp)))
  clear hB
  go_wp2_with fail
  go_ret2
  rw [encP, if_neg (by rw [HV.out]; simp)]
  exact ⟨_, rfl, World.ownsRow_nil _ _ _ _, HB2.out⟩
theorem encode_any (p : Pk) (a : Option Addr) (cap : Nat) (w : World) (hl : p.dat.length ≤ maxLen) (hb : BAt w a p.dat) : Calls Try.prog 36 #[p.val a cap] w (EQ w (encP p)) := by
  cases h : validB p
  · exact encode_bad p a cap w hl hb h
  · exact encode_ok p a cap w hb h
theorem head_own2 (p : Pk) (hv : validB p = true) (F S : Int) (hF : F = firstW p) (hS : S = secondW p) (w : World) (g : Nat) (hg : w.heap.size = g) (B : Nat) (hB : B ≤ g) : (w.alloc (.cells #[.int .u8 (F / 256), .int .u8 (F % 256), .int .u8 (S / 256), .int .u8 (S % 256), .int .u8 (((p.dat.length : Int) - 1) / 256), .int .u8 (((p.dat.length : Int) - 1) % 256)] 5)).ownsRow B 5 1 (.slice (some ⟨g, 0, none⟩) 6 6) 6 (encB (headP p)) := by
  subst hF hS hg
  exact head_own p hv w B hB
/-- a call gives bytes of its own -/
def NB (w : World) (l : List UInt8) (e : Ending) (w' : World) : Prop := ∃ v, e = .returned v ∧ w'.ownsRow w.heap.size 5 1 v l.length (encB l) ∧ Below w.heap.size w w'
set_option maxRecDepth 20000 in
set_option maxHeartbeats 4000000 in
theorem bytes_any (p : Pk) (a : Option Addr) (cap : Nat) (w : World) (hb : BAt w a p.dat) (hv : validB p = true) : Calls Try.prog 24 #[p.val a cap] w (NB w (bytesP p)) := by
  have HV := Lib.hid hv
  obtain ⟨⟨a1, a2, g1, g2, c1, c2, l1, l2⟩, -⟩ := (validB_iff p).1 hv
  obtain ⟨ba, off, rfl, hba, hc⟩ := hb.resolve_left (fun e => by rw [e] at l1; simp at l1)
  have HC := Lib.hid (BAt.news hc)
  have HBA := Lib.hid hba
  have HS : Hid (p.flags * 16384 + p.count = secondW p) := Lib.hid rfl
  obtain ⟨j0, hj, hy0, hy1, hy2⟩ := info_parts info5
  have HN : Hid (∀ o o', ∀ j u, (encB p.dat)[j]? = some u → ((w.alloc o).alloc o').cell? ((⟨ba, off, none⟩ : Addr).add j) = some u) := Lib.hid (fun o o' j u hj => ((al (al (Below.refl _ w) o) o').cell (p := (⟨ba, off, none⟩ : Addr).add j) (by rw [add_plain]; exact hba)).trans (BAt.news hc j u hj))
  clear hv hb hc hba
  unfold Pk.val
  cases h0 : p.cmd <;> cases h1 : p.sec
  all_goals
    have HF : Hid ((if p.cmd = true then 4096 else 0) + (if p.sec = true then 2048 else 0) + p.apid = firstW p) := Lib.hid rfl
    rw [h0, h1] at HF
    clear h0 h1
    go_enter Try.func24, Try.ntmps24
    go_wp2_with (at_builtin; refine wpList_append_own _ rfl _ _ 22 rfl w.heap.size 5 j0 (.int .u8 0) 1 1 Try.underlying22 hj hy0 hy1 hy2 rfl (by decide) _ 6 (encB (headP p)) rfl (head_own2 p HV.out _ _ (by have := HF.out; simp at this; omega) HS.out _ (w.heap.size + 1) (by simp) _ (by omega)) ⟨ba, off, none⟩ p.dat.length cap (encB p.dat) rfl (by simp [encB]) (HN.out _ _) (encB_one _) (by unfold maxLen; omega) (by omega) (by simp; omega) ?_)
    intro v' w1 hown hgrow hblk
    have HO := Lib.hid hown
    have HG := Lib.hid hgrow
    have HBK := Lib.hid hblk
    clear hown hgrow hblk
    go_wp2_with fail
    go_ret
    have ho := HO.out
    rw [← encB_append] at ho
    exact ⟨v', rfl, by rw [bytesP_length]; exact ho, (al (al (Below.refl _ _) _) _).grown HG.out (by simp; omega) (fun k hk => by simp [Value.ownBlock] at hk; omega)⟩
end Go.Proofs.Ytalghcgedmcifaa

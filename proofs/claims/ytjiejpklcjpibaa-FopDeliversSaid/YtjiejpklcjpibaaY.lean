/- Contracts of lost and hears. No condition. -/
import Derived.Test.YtjiejpklcjpibaaT
import Derived.Test.YtjiejpklcjpibaaV
namespace Go.Proofs.Ytjiejpklcjpibaa
open Go.RowKit Go.Deep Go.ChangeShapes Go.WideShapes Go.ChangeAt
set_option linter.unusedVariables false

theorem cell_getD {w : World} {b off : Nat} {l : List UInt8} (h : BAt w (some ⟨b, off, none⟩) l) (i : Nat) (hi : i < l.length) : w.cell? ⟨b, off + i, none⟩ = some (.int .u8 ((l.getD i 0).toNat : Int)) := by
  rcases h with h | ⟨b', off', h1, h2, h3⟩
  · subst h; simp at hi
  · cases h1
    rw [h3 i hi, List.getD_eq_getElem?_getD, List.getElem?_eq_getElem hi]
    rfl
/-- an answer; nothing is lost late -/
def LQ (i : Nat) (w : World) (e : Ending) (w' : World) : Prop := ∃ r : Bool, e = .returned (.bool r) ∧ (80 ≤ i → r = false) ∧ w' = w
theorem lost_any (a : Option Addr) (cap i : Nat) (l : List UInt8) (w : World) (hb : BAt w a l) (hl : l.length ≤ 10) (hi : i ≤ 1000) :
    Calls Try.prog 13 #[.slice a l.length cap, .int .i64 (i : Int)] w (LQ i w) := by
  obtain ⟨d, hd⟩ : ∃ d, d = i / 8 := ⟨_, rfl⟩
  obtain ⟨m, hm⟩ : ∃ m, m = i % 8 := ⟨_, rfl⟩
  have e1 : (i : Int).tdiv 8 = (d : Int) := by rw [Int.tdiv_eq_ediv_of_nonneg (by omega)]; omega
  have e2 : (i : Int) / 8 = (d : Int) := by omega
  have e3 : (i : Int).tmod 8 = (m : Int) := by rw [Int.tmod_eq_emod_of_nonneg (by omega)]; omega
  have e4 : (i : Int) % 8 = (m : Int) := by omega
  have hm8 : m < 8 := by omega
  have e5 : (m : Int) < 8 := by omega
  by_cases hdl : d < l.length
  · obtain ⟨b, off, rfl, hbl, -⟩ := hb.resolve_left (fun e => by rw [e] at hdl; simp at hdl)
    obtain ⟨z, hz⟩ : ∃ z, z = (l.getD d 0).toNat := ⟨_, rfl⟩
    have hz9 : z < 256 := by rw [hz]; exact UInt8.toNat_lt _
    have c0 : w.cell? ⟨b, off + d, none⟩ = some (.int .u8 (z : Int)) := by rw [hz]; exact cell_getD hb d hdl
    have e6 : (d : Int) < (l.length : Int) := by omega
    have e6n : decide (d < l.length) = true := decide_eq_true hdl
    have e7 : (0 : Int) ≤ (d : Int) := by omega
    have e8 : (z : Int) < 256 := by omega
    have hi80 : ¬ 80 ≤ i := by omega
    have HI := Lib.hid hi80
    clear hz hd hm hb hi80
    go_enter Try.func13, Try.ntmps13
    go_wp2_with fail
    all_goals
      go_ret
      exact ⟨_, rfl, fun h => absurd h HI.out, rfl⟩
  · have e6 : ¬ (d : Int) < (l.length : Int) := by omega
    have e6n : decide (d < l.length) = false := decide_eq_false hdl
    clear hd hm hb
    go_enter Try.func13, Try.ntmps13
    go_wp2_with fail
    go_ret
    exact ⟨_, rfl, fun _ => rfl, rfl⟩
/-- the receiving end as a value -/
def reV (e : RE) (v : Value) : Value := .agg #[.int .i64 (e.next : Int), .bool e.again, v]
def HQ (B : Nat) (X : Nat → Prop) (vG : Value) (r : RE) (w : World) (e : Ending) (w' : World) : Prop :=
  ∃ vG' us', e = .returned (reV r vG') ∧ w'.ownsRow B 23 1 vG' r.got.length us' ∧ Sls w' (fun k => X k ∨ vG'.ownBlock = some k) us' r.got ∧ (vG'.ownBlock = vG.ownBlock ∨ ∀ k, vG'.ownBlock = some k → w.heap.size ≤ k) ∧ Fr (fun k => vG.ownBlock = some k) w w'
theorem HQ.of {B n : Nat} {X : Nat → Prop} {vG vG' : Value} {r : RE} {us' : List Value} {w w' : World} {nx : Int} {ag : Bool} (h1 : nx = (r.next : Int)) (h2 : ag = r.again) (h3 : n = r.got.length) (hO : w'.ownsRow B 23 1 vG' n us') (hS : Sls w' (fun k => X k ∨ vG'.ownBlock = some k) us' r.got) (hb : vG'.ownBlock = vG.ownBlock ∨ ∀ k, vG'.ownBlock = some k → w.heap.size ≤ k) (hf : Fr (fun k => vG.ownBlock = some k) w w') :
    HQ B X vG r w (.returned (.agg #[.int .i64 nx, .bool ag, vG'])) w' := by
  subst h1 h2 h3
  exact ⟨vG', us', rfl, hO, hS, hb, hf⟩
theorem hears_far (B : Nat) (X : Nat → Prop) (e : RE) (q wi n cx : Nat) (b1 b2 : Bool) (i1 i2 : Int) (d : List UInt8) (vG : Value) (ax : Option Addr) (us : List Value) (w : World) (hO : w.ownsRow B 23 1 vG e.got.length us) (hS : Sls w X us e.got) (he : e.next < 256) (hq : q < 256) (hw : wi ≤ 127) (hXG : ∀ k, vG.ownBlock = some k → X k) (h0 : ¬ (q + 256 - e.next) % 256 = 0) :
    Calls Try.prog 14 #[reV e vG, .agg #[.bool b1, .bool b2, .int .i64 i1, .int .i64 i2, .int .i64 (q : Int), .slice ax n cx], .int .i64 (wi : Int)] w (HQ B X vG (e.hears q d wi) w) := by
  obtain ⟨m, hm⟩ : ∃ m, m = (q + 256 - e.next) % 256 := ⟨_, rfl⟩
  obtain ⟨t, ht⟩ : ∃ t, t = q + 256 - e.next := ⟨_, rfl⟩
  have e1 : (q : Int) + 256 - (e.next : Int) = (t : Int) := by omega
  have e2 : (t : Int).tmod 256 = (m : Int) := by rw [Int.tmod_eq_emod_of_nonneg (by omega)]; omega
  have e3 : (t : Int) % 256 = (m : Int) := by omega
  have e4 : (q : Int) < 256 := by omega
  have e5 : (e.next : Int) < 256 := by omega
  have e6 : (t : Int) ≤ 600 := by omega
  have e7 : ¬ (m : Int) = 0 := by omega
  have e8 : ((m : Int) == 0) = false := by rw [beq_eq_false_iff_ne]; exact e7
  have HO := Lib.hid hO
  have HS := Lib.hid hS
  obtain ⟨ag, ng, cg, rfl⟩ := own_slice hO
  have HXG := Lib.hid hXG
  clear hXG
  by_cases hw2 : m < wi
  · have HH : Hid (e.hears q d wi = { e with again := true }) := Lib.hid (e.hears_again q d wi h0 (by omega))
    have e9 : (m : Int) < (wi : Int) := by omega
    rw [HH.out]
    unfold reV
    clear hO hS h0 hm ht hw2
    go_enter Try.func14, Try.ntmps14
    go_wp2_with fail
    have hB := al (al (al (Below.refl w.heap.size w) (.cells #[.int .i64 (e.next : Int), .bool true, .slice ag ng cg] 30)) (.cells #[.bool b1, .bool b2, .int .i64 i1, .int .i64 i2, .int .i64 (q : Int), .slice ax n cx] 33)) (.cells #[.int .i64 (e.next : Int), .bool true, .slice ag ng cg] 30)
    exact bodyPost_ret (v := .agg #[.int .i64 (e.next : Int), .bool true, .slice ag ng cg]) (by simp [results, Try.results14, go_sem]) rfl (HQ.of rfl rfl rfl (own_below HO.out hB (Nat.le_refl _)) ((HS.out.fr (T := fun k => w.heap.size ≤ k) (Fr.of_below hB (Nat.le_refl _)) (fun k hk => .inr hk)).grow (fun k hk => .inl (by rcases hk with h9 | h9; exact h9; exact HXG.out k h9))) (.inl rfl) (Fr.of_below hB (Nat.le_refl _)))
  · have HH : Hid (e.hears q d wi = e) := Lib.hid (by unfold RE.hears; rw [if_neg h0, if_neg (by omega)])
    have e9 : ¬ (m : Int) < (wi : Int) := by omega
    rw [HH.out]
    unfold reV
    clear hO hS h0 hm ht hw2
    go_enter Try.func14, Try.ntmps14
    go_wp2_with fail
    have hB := al (al (al (Below.refl w.heap.size w) (.cells #[.int .i64 (e.next : Int), .bool e.again, .slice ag ng cg] 30)) (.cells #[.bool b1, .bool b2, .int .i64 i1, .int .i64 i2, .int .i64 (q : Int), .slice ax n cx] 33)) (.cells #[.int .i64 (e.next : Int), .bool e.again, .slice ag ng cg] 30)
    exact bodyPost_ret (v := .agg #[.int .i64 (e.next : Int), .bool e.again, .slice ag ng cg]) (by simp [results, Try.results14, go_sem]) rfl (HQ.of rfl rfl rfl (own_below HO.out hB (Nat.le_refl _)) ((HS.out.fr (T := fun k => w.heap.size ≤ k) (Fr.of_below hB (Nat.le_refl _)) (fun k hk => .inr hk)).grow (fun k hk => .inl (by rcases hk with h9 | h9; exact h9; exact HXG.out k h9))) (.inl rfl) (Fr.of_below hB (Nat.le_refl _)))
set_option maxRecDepth 20000 in
set_option maxHeartbeats 1000000 in
theorem hears_near (B : Nat) (X : Nat → Prop) (e : RE) (q wi cx n : Nat) (b1 b2 : Bool) (i1 i2 : Int) (d : List UInt8) (vG : Value) (ax : Option Addr) (us : List Value) (w : World) (hO : w.ownsRow B 23 1 vG e.got.length us) (hS : Sls w X us e.got) (hx : Sl w X (.slice ax n cx) d) (hB0 : B ≤ w.heap.size) (hl : e.got.length ≤ 100) (he : e.next < 256) (hq : q < 256) (h0 : (q + 256 - e.next) % 256 = 0) (hX : ∀ k, X k → k < w.heap.size) (hXG : ∀ k, vG.ownBlock = some k → X k) :
    Calls Try.prog 14 #[reV e vG, .agg #[.bool b1, .bool b2, .int .i64 i1, .int .i64 i2, .int .i64 (q : Int), .slice ax n cx], .int .i64 (wi : Int)] w (HQ B X vG (e.hears q d wi) w) := by
  obtain ⟨t, ht⟩ : ∃ t, t = q + 256 - e.next := ⟨_, rfl⟩
  obtain ⟨nx, hnx⟩ : ∃ nx, nx = (e.next + 1) % 256 := ⟨_, rfl⟩
  have HH : Hid (e.hears q d wi = ⟨nx, false, e.got ++ [d]⟩) := Lib.hid (by rw [hnx]; exact e.hears_eq q d wi h0)
  have e1 : (q : Int) + 256 - (e.next : Int) = (t : Int) := by omega
  have e2 : (t : Int).tmod 256 = 0 := by rw [Int.tmod_eq_emod_of_nonneg (by omega)]; omega
  have e3 : (t : Int) % 256 = 0 := by omega
  have e4 : (q : Int) < 256 := by omega
  have e5 : (e.next : Int) < 256 := by omega
  have e6 : (t : Int) ≤ 600 := by omega
  have e7 : ((e.next : Int) + 1).tmod 256 = (nx : Int) := by rw [Int.tmod_eq_emod_of_nonneg (by omega)]; omega
  have e8 : ((e.next : Int) + 1) % 256 = (nx : Int) := by omega
  obtain ⟨ag, ng, cg, rfl⟩ := own_slice hO
  have HO := Lib.hid hO
  have HS := Lib.hid hS
  have HX := Lib.hid hx
  obtain ⟨j1, hj1, hz0, hz1, hz2⟩ := info_parts info23
  have HJ1 := Lib.hid hj1
  obtain ⟨m, hm⟩ : ∃ m, m = e.got.length := ⟨_, rfl⟩
  rw [← hm] at HO hl
  have HM := Lib.hid hm
  have HXL := Lib.hid hX
  have HXG := Lib.hid hXG
  rw [HH.out]
  unfold reV
  clear hO hS hx h0 ht hnx hj1 hm hX hXG
  go_enter Try.func14, Try.ntmps14
  go_upto_region 3 with fail
  obtain ⟨w3, hw3⟩ : ∃ w3, w3 = ((w.alloc (.cells #[.int .i64 (e.next : Int), .bool e.again, .slice ag ng cg] 30)).alloc (.cells #[.bool b1, .bool b2, .int .i64 i1, .int .i64 i2, .int .i64 (q : Int), .slice ax n cx] 33)).alloc (.cells #[.int .i64 0, .bool false, .slice none 0 0] 30) := ⟨_, rfl⟩
  rw [← hw3]
  have hke : Blk w3 w.heap.size 30 [.int .i64 (e.next : Int), .bool e.again, .slice ag ng cg] := by rw [hw3]; exact ((Blk.new w 30 _).alloc _).alloc _
  have hkx : Blk w3 (w.heap.size + 1) 33 [.bool b1, .bool b2, .int .i64 i1, .int .i64 i2, .int .i64 (q : Int), .slice ax n cx] := by rw [hw3]; exact (Blk.newAt (by simp)).alloc _
  have hkr : Blk w3 (w.heap.size + 1 + 1) 30 [.int .i64 0, .bool false, .slice none 0 0] := by rw [hw3]; exact Blk.newAt (by simp)
  have HB3 : Hid (Below w.heap.size w w3) := Lib.hid (by rw [hw3]; exact al (al (al (Below.refl _ _) _) _) _)
  have s2 := hke.at 2 rfl
  have s5 := hkx.at 5 rfl
  have hl3 := hkr.lt
  have HKE := Lib.hid hke
  have HKR := Lib.hid hkr
  have HO3 := Lib.hid (own_below HO.out (HB3.out) (Nat.le_refl _))
  have hB3 : B ≤ w3.heap.size := Nat.le_trans hB0 HB3.out.size
  clear hw3 hke hkx hkr
  go_wp2_with (at_builtin; refine wpList_append_src _ rfl (.tmp 18) (.tmp 21) 22 rfl B 23 j1 (.slice none 0 0) 24 Try.underlying22 HJ1.out hz0 hz1 hz2 (by rfl) _ m us rfl (own_below HO3.out (al (Below.refl _ _) _) (Nat.le_refl _)) (some ⟨w3.heap.size, 0, none⟩) 1 1 [.slice ax n cx] rfl (by rfl) (one_vat w3 (.slice ax n cx) 23) (by simp [Value.oneCell']) (by unfold maxLen; omega) (by omega) (by simp; omega) ?_)
  intro v4 w4 hown hgrow hblk
  obtain ⟨a4, n4, c4, rfl⟩ := own_slice hown
  have hvg : ∀ k, (Value.slice ag ng cg).ownBlock = some k → k < w.heap.size := fun k hk => HXL.out k (HXG.out k hk)
  have hke := (HKE.out.alloc (.cells #[.slice ax n cx] 23)).grown hgrow (fun e9 => by have := hvg _ e9; omega)
  have hkr := (HKR.out.alloc (.cells #[.slice ax n cx] 23)).grown hgrow (fun e9 => by have := hvg _ e9; omega)
  have hf4 : Fr (fun k => (Value.slice ag ng cg).ownBlock = some k) w w4 := ((Fr.of_below HB3.out (Nat.le_refl _)).alloc _).grown hgrow (fun k hk => .inl hk)
  have HOW := Lib.hid hown
  have HBK := Lib.hid (show (Value.slice a4 n4 c4).ownBlock = (Value.slice ag ng cg).ownBlock ∨ ∀ k, (Value.slice a4 n4 c4).ownBlock = some k → w3.heap.size + 1 ≤ k by
    rcases hblk with e9 | e9
    · exact .inl e9
    · right
      intro k hk
      rw [e9] at hk
      cases hk
      simp)
  have HF4 := Lib.hid hf4
  have HVG := Lib.hid hvg
  have HKE4 := Lib.hid hke
  have HKR4 := Lib.hid hkr
  have t0 := hke.at 0 rfl
  have t1 := hke.at 1 rfl
  have t2 := hke.at 2 rfl
  have u0 := hke.free 0
  have u1 := hke.free 1
  have u2 := hke.free 2
  have r0 := hkr.at 0 rfl
  have r1 := hkr.at 1 rfl
  have r2 := hkr.at 2 rfl
  have y0 := hkr.free 0
  have y1 := hkr.free 1
  have y2 := hkr.free 2
  have hl4 := hkr.lt
  clear s2 s5 hown hgrow hblk hvg hke hkr hf4
  go_wp2_with fail
  have hne : ∀ b9, w.heap.size ≤ b9 → b9 ≤ w.heap.size + 2 → (Value.slice a4 n4 c4).ownBlock ≠ some b9 := fun b9 h1 h2 h3 => by
    rcases HBK.out with e9 | e9
    · rw [e9] at h3
      have := HVG.out _ h3
      omega
    · have := e9 _ h3
      omega
  have hn1 := hne w.heap.size (Nat.le_refl _) (by omega)
  have hn3 := hne (w.heap.size + 1 + 1) (by omega) (by omega)
  have hO9 := own_set (own_set (own_set (own_set (own_set (own_set HOW.out (p := ⟨w.heap.size, 2, none⟩) hn1 (.slice a4 n4 c4)) (p := ⟨w.heap.size, 0, none⟩) hn1 (.int .i64 (nx : Int))) (p := ⟨w.heap.size, 1, none⟩) hn1 (.bool false)) (p := ⟨w.heap.size + 1 + 1, 0, none⟩) hn3 (.int .i64 (nx : Int))) (p := ⟨w.heap.size + 1 + 1, 1, none⟩) hn3 (.bool false)) (p := ⟨w.heap.size + 1 + 1, 2, none⟩) hn3 (.slice a4 n4 c4)
  have hf9 := (((((HF4.out.set1 (b := w.heap.size) (i := 2) (.slice a4 n4 c4) (.inr (Nat.le_refl _))).set1 (b := w.heap.size) (i := 0) (.int .i64 (nx : Int)) (.inr (Nat.le_refl _))).set1 (b := w.heap.size) (i := 1) (.bool false) (.inr (Nat.le_refl _))).set1 (b := w.heap.size + 1 + 1) (i := 0) (.int .i64 (nx : Int)) (.inr (by omega))).set1 (b := w.heap.size + 1 + 1) (i := 1) (.bool false) (.inr (by omega))).set1 (b := w.heap.size + 1 + 1) (i := 2) (.slice a4 n4 c4) (.inr (by omega))
  have hY9 : ∀ k, (X k ∨ (Value.slice a4 n4 c4).ownBlock = some k) → X k ∨ w.heap.size ≤ k := fun k hk => by
    rcases hk with h9 | h9
    · exact .inl h9
    · rcases HBK.out with e9 | e9
      · rw [e9] at h9; exact .inl (HXG.out k h9)
      · have := e9 k h9; exact .inr (by omega)
  refine bodyPost_ret (v := .agg #[.int .i64 (nx : Int), .bool false, .slice a4 n4 c4]) (by simp [results, Try.results14, go_sem, *]) rfl (HQ.of rfl rfl (by rw [HM.out]; simp) hO9 (((HS.out.grow hY9).fr hf9 (fun k hk => .inl (.inl (HXG.out k hk)))).append (Sls.one ((HX.out.grow hY9).fr hf9 (fun k hk => .inl (.inl (HXG.out k hk)))))) ?_ hf9)
  rcases HBK.out with e9 | e9
  · exact .inl e9
  · exact .inr fun k hk => by have := e9 k hk; omega
theorem hears_any (B : Nat) (X : Nat → Prop) (e : RE) (q wi cx n : Nat) (b1 b2 : Bool) (i1 i2 : Int) (d : List UInt8) (vG : Value) (ax : Option Addr) (us : List Value) (w : World) (hO : w.ownsRow B 23 1 vG e.got.length us) (hS : Sls w X us e.got) (hx : Sl w X (.slice ax n cx) d) (hB0 : B ≤ w.heap.size) (hl : e.got.length ≤ 100) (he : e.next < 256) (hq : q < 256) (hw : wi ≤ 127) (hX : ∀ k, X k → k < w.heap.size) (hXG : ∀ k, vG.ownBlock = some k → X k) :
    Calls Try.prog 14 #[reV e vG, .agg #[.bool b1, .bool b2, .int .i64 i1, .int .i64 i2, .int .i64 (q : Int), .slice ax n cx], .int .i64 (wi : Int)] w (HQ B X vG (e.hears q d wi) w) := by
  by_cases h0 : (q + 256 - e.next) % 256 = 0
  · exact hears_near B X e q wi cx n b1 b2 i1 i2 d vG ax us w hO hS hx hB0 hl he hq h0 hX hXG
  · exact hears_far B X e q wi n cx b1 b2 i1 i2 d vG ax us w hO hS he hq hw hXG h0
theorem FAt.move {w w' : World} {X Y T : Nat → Prop} {b : Nat} {f : FS} {vU vC : Value} (h : FAt w X b f vU vC) (hf : Fr T w w') (hb : ¬ T b) (hu : ∀ k, vU.ownBlock = some k → ¬ T k) (hT : ∀ k, T k → X k ∨ w.heap.size ≤ k) (hY : ∀ k, Y k → X k ∨ w.heap.size ≤ k) (hl : ∀ k, Y k → k < w'.heap.size) : FAt w' Y b f vU vC := by
  obtain ⟨us, h1, h2⟩ := h.units
  have hZ : ∀ k, (Av X b vU k ∨ Av Y b vU k) → Av X b vU k ∨ w.heap.size ≤ k := fun k hk => by
    rcases hk with h | h | h
    · exact .inl h
    · rcases hY k h with e | e
      · exact .inl (.inl e)
      · exact .inr e
    · exact .inl (.inr h)
  have hT' : ∀ k, T k → (Av X b vU k ∨ Av Y b vU k) ∨ w.heap.size ≤ k := fun k hk => by
    rcases hT k hk with e | e
    · exact .inl (.inl (.inl e))
    · exact .inr e
  have hs : ∀ k, Av Y b vU k → (Av X b vU k ∨ Av Y b vU k) ∨ w'.heap.size ≤ k := fun k hk => .inl (.inr hk)
  exact ⟨h.blk.fr hf hb, ⟨us, h1.fr hf hu, ((h2.grow hZ).fr hf hT').grow hs⟩, ((h.ctls.grow hZ).fr hf hT').grow hs, hl⟩
/-- the sending end with these units -/
def fsL (L : List (List UInt8)) (size tmo : Int) : FS := { FS.new 5 1 size tmo 255 with units := L }
theorem fsL_ok (L : List (List UInt8)) (size tmo : Int) (h1 : L.length ≤ 40) (h2 : ∀ u ∈ L, 1 ≤ u.length ∧ u.length ≤ 20) : (fsL L size tmo).Ok := by
  refine { FS.ok_new 5 1 size tmo 255 with units := Nat.zero_le _, few := ?_, len := ?_ }
  · show L.length ≤ 256
    omega
  · intro u hu
    have := h2 u hu
    omega
theorem fsL_send (L : List (List UInt8)) (k : Nat) (hk : k < L.length) (hL : L.length ≤ 40) (size tmo : Int) (h : 1 ≤ L[k].length ∧ L[k].length ≤ 20) : (fsL (L.take k) size tmo).send L[k] = (fsL (L.take (k + 1)) size tmo, 0) := by
  unfold FS.send
  rw [if_neg (by omega), if_neg (by show ¬ 256 ≤ (L.take k).length; simp; omega)]
  unfold fsL
  dsimp only
  rw [List.take_succ_eq_append_getElem hk]
theorem fsL_start (L : List (List UInt8)) (s t : Nat) (hL : L.length ≤ 40) (h2 : ∀ u ∈ L, 1 ≤ u.length ∧ u.length ≤ 20) (hs : 1 ≤ s ∧ s ≤ 127) (ht : t ≤ 8) : Tk L s (fsL L s t) ⟨0, false, []⟩ 0 := by
  refine Tk.start hL _ (fsL_ok L _ _ hL h2) ?_ ?_ rfl rfl ?_ rfl rfl rfl ?_ rfl rfl rfl
  · show clampI 5 0 1023 = 5
    decide
  · show clampI 1 0 7 = 1
    decide
  · show (clampI s 1 127).toNat = s
    unfold clampI
    omega
  · show clampI t 1 1099511627776 ≤ 8
    unfold clampI
    omega
end Go.Proofs.Ytjiejpklcjpibaa

/- Same; the chapter's examples. No condition. -/
import Derived.Test.YtdllngedmhihkaaM
import Derived.Lib.SlBytesConst
namespace Go.Proofs.Ytdllngedmhihkaa
open Go.RowKit Go.Deep Go.ChangeShapes Go.WideShapes Go.ChangeAt
set_option linter.unusedVariables false

/-- PCell with its slice named -/
def PA (w : World) (hi b off : Nat) (p : PK) (a : Option Addr) (cap : Nat) : Prop :=
  b < hi ∧ (∀ j, j < 6 → w.cell? ⟨b, off + j, none⟩ = p.cell a cap j) ∧ BAt w a p.dat ∧ p.dat.length ≤ cap ∧ ∀ q, a = some q → p.dat ≠ [] → q.block < hi
theorem PCell.pa {w : World} {hi b off : Nat} {p : PK} (h : PCell w hi b off p) : ∃ a cap, PA w hi b off p a cap := by
  obtain ⟨h1, a, cap, h2⟩ := h
  exact ⟨a, cap, h1, h2⟩
theorem PA.same {w w' : World} {hi b off : Nat} {p : PK} {a : Option Addr} {cap : Nat} (h : PA w hi b off p a cap) (hs : Same hi w w') : PA w' hi b off p a cap := by
  obtain ⟨h1, h2, h3, h4, h5⟩ := h
  exact ⟨h1, fun j hj => (hs.cell (p := ⟨b, off + j, none⟩) h1).trans (h2 j hj), h3.same hs h5, h4, h5⟩
theorem PA.walk {w : World} {hi b off : Nat} {p : PK} {a : Option Addr} {cap : Nat} (h : PA w hi b off p a cap) : w.cell? ⟨b, off, none⟩ = some (.bool p.cm) ∧ w.cell? ⟨b, off + 1, none⟩ = some (.bool p.sc) ∧ w.cell? ⟨b, off + 2, none⟩ = some (.int .i64 p.ap) ∧
    w.cell? ⟨b, off + 3, none⟩ = some (.int .i64 p.fl) ∧ w.cell? ⟨b, off + 4, none⟩ = some (.int .i64 p.ct) ∧ w.cell? ⟨b, off + 5, none⟩ = some (.slice a p.dat.length cap) :=
  ⟨h.2.1 0 (by omega), h.2.1 1 (by omega), h.2.1 2 (by omega), h.2.1 3 (by omega), h.2.1 4 (by omega), h.2.1 5 (by omega)⟩

theorem same_any (p : PK) (a1 a2 : Option Addr) (c1 c2 : Nat) (w : World) (h1 : BAt w a1 p.dat) (h2 : BAt w a2 p.dat) :
    Calls Try.prog 12 #[p.val a1 c1, p.val a2 c2] w fun e w' => e = .returned (.bool true) ∧ Below w.heap.size w w' := by
  have e1 := fun (x y : Obj) => (h1.below (al (al (Below.refl _ w) x) y) (Nat.le_refl _)).str 22 9 5 c1 Try.underlying22 Try.underlying5 Try.underlying9
  have e2 := fun (x y : Obj) => (h2.below (al (al (Below.refl _ w) x) y) (Nat.le_refl _)).str 22 9 5 c2 Try.underlying22 Try.underlying5 Try.underlying9
  clear h1 h2
  unfold PK.val Pk
  go_enter Try.func12, Try.ntmps12
  go_wp2
  go_ret
  exact ⟨rfl, al (al (Below.refl _ _) _) _⟩
theorem Pks.three {w : World} {hi : Nat} {v : Value} {p0 p1 p2 : PK} (h : Pks w hi v [p0, p1, p2]) : hi ≤ w.heap.size ∧ ∃ b off cap a0 a1 a2 k0 k1 k2, v = .slice (some ⟨b, off, none⟩) 3 cap ∧ 3 ≤ cap ∧ PA w hi b off p0 a0 k0 ∧ PA w hi b (off + 6) p1 a1 k1 ∧ PA w hi b (off + 12) p2 a2 k2 := by
  obtain ⟨h0, a, cap, h1, h2, h3⟩ := h
  rcases h3 with h3 | ⟨b, off, rfl, h4⟩
  · cases h3
  · obtain ⟨a0, k0, q0⟩ := (h4 0 (by simp)).pa
    obtain ⟨a1, k1, q1⟩ := (h4 1 (by simp)).pa
    obtain ⟨a2, k2, q2⟩ := (h4 2 (by simp)).pa
    exact ⟨h0, b, off, cap, a0, a1, a2, k0, k1, k2, h1, h2, q0, q1, q2⟩
def al0 : PK := ⟨false, false, 7, 1, 16383, [97, 98]⟩
def al1 : PK := ⟨false, false, 7, 0, 0, [99, 100]⟩
def al2 : PK := ⟨false, false, 7, 2, 1, [101]⟩
theorem al_split : splitL ⟨false, false, 7, 0, 16383, []⟩ [97, 98, 99, 100, 101] 2 = [al0, al1, al2] := by rfl
theorem lit5 (w : World) (x0 x1 x2 x3 x4 : UInt8) (t : TypeId) (f : Nat × Nat) : BAt (w.alloc (.cells #[.int .u8 (x0.toNat : Int), .int .u8 (x1.toNat : Int), .int .u8 (x2.toNat : Int), .int .u8 (x3.toNat : Int), .int .u8 (x4.toNat : Int)] t f)) (some ⟨w.heap.size, 0, none⟩) [x0, x1, x2, x3, x4] := by
  refine .inr ⟨_, _, rfl, by simp, fun i hi => ?_⟩
  rw [Joins.cell_alloc_mark_at _ _ _ _ _ _ rfl]
  match i, hi with
  | 0, _ => rfl
  | 1, _ => rfl
  | 2, _ => rfl
  | 3, _ => rfl
  | 4, _ => rfl
def aj (o : Bool) (ap la : Int) (d : List UInt8) : JS := ⟨o, 9, ap, la, d⟩
theorem al_t0 : takeS (aj false 0 0 []) 7 1 16383 [97, 98] = (aj true 7 16383 [97, 98], [], false, 0) := by rfl
theorem al_t1 : takeS (aj true 7 16383 [97, 98]) 7 2 1 [101] = (aj false 7 16383 [], [], false, 4) := by rfl
theorem al_t2 : takeS (aj false 7 16383 []) 7 1 16383 [97, 98] = (aj true 7 16383 [97, 98], [], false, 0) := by rfl
theorem al_t3 : takeS (aj true 7 16383 [97, 98]) 7 0 0 [99, 100] = (aj true 7 0 [97, 98, 99, 100], [], false, 0) := by rfl
theorem al_t4 : takeS (aj true 7 0 [97, 98, 99, 100]) 7 2 1 [101] = (aj false 7 1 [], [97, 98, 99, 100, 101], true, 0) := by rfl
/-- Take of a packet that lies in memory -/
theorem take_pa {w : World} {hi g b off : Nat} {v : Value} {s : JS} {p : PK} {a : Option Addr} {cap : Nat} (h : JAt w b v s) (hp : PA w hi g off p a cap) (hv : ∀ k, JOwn b v k → hi ≤ k)
    (hl : p.dat.length ≤ 1000000000) (hd : s.dat.length ≤ 1000000000) (hm0 : 0 ≤ s.most) (hm1 : s.most ≤ 9223372036854775807) :
    Calls Try.prog 14 #[.pointer (some ⟨b, 0, none⟩), p.val a cap] w (TakeQ w b v (takeS s p.ap p.fl p.ct p.dat)) :=
  Take_any b v s p.cm p.sc p.ap p.fl p.ct a p.dat cap w h hl hd hm0 hm1 hp.2.2.1 (fun hn q hq e => by have := hp.2.2.2.2 q hq hn; have := hv _ (.inr e); omega)
/-- what Take leaves, for a next call -/
theorem TakeQ.next {w w' : World} {hi b : Nat} {v : Value} {r : JS × List UInt8 × Bool × Int} {e : Ending} (h : TakeQ w b v r e w') (hv : ∀ k, JOwn b v k → hi ≤ k) (hh : hi ≤ w.heap.size) :
    ∃ v' a' cap', e = .returned (.tuple #[.slice a' r.2.1.length cap', .bool r.2.2.1, .int .i64 r.2.2.2]) ∧ JAt w' b v' r.1 ∧ BAt w' a' r.2.1 ∧ (∀ k, JOwn b v' k → hi ≤ k) ∧ Below hi w w' := by
  obtain ⟨v', a', cap', h1, h2, h3, h4, h5, h6⟩ := h
  refine ⟨v', a', cap', h1, h2, h3, fun k hk => ?_, h5.toBelow hh hv⟩
  rcases hk with hk | hk
  · exact hv k (.inl hk)
  · rcases h6 k hk with h | h
    · exact hv k (.inr h)
    · omega
set_option maxRecDepth 20000 in
set_option maxHeartbeats 4000000 in
theorem alive_any (w : World) : Calls Try.prog 9 #[] w fun e w' => e = .returned (.bool true) ∧ Below w.heap.size w w' := by
  have kc := fun (w : World) (C : Array Value) (n c : Nat) => Lib.run_convert_bytes_const (P := Try.prog) w 22 5 C n c Try.underlying22 Try.underlying5
  go_enter Try.func9, Try.ntmps9
  go_wp2_with fail
  clear kc
  refine (split_ok ⟨false, false, 7, 0, 16383, []⟩ none 0 _ [97, 98, 99, 100, 101] 5 2 _ (by simp) (by simp) (by simp) (by unfold maxLen; omega) (lit5 _ _ _ _ _ _ _ _) rfl (by omega) (by omega)).mono ?_
  rintro e w1 ⟨v, rfl, hP, hB⟩
  rw [al_split] at hP
  obtain ⟨-, b, off, cap, a0, a1, a2, k0, k1, k2, rfl, hcap, hp0, hp1, hp2⟩ := hP.three
  have S1 : Below w.heap.size w w1 := (al (Below.refl _ _) _).trans (hB.mono (by simp))
  clear hP hB
  go_wp2_with fail
  refine (new_any 9 _).mono ?_
  rintro e w2 ⟨rfl, hJ, hB⟩
  have S2 := below2 S1 hB
  have hp0 := hp0.same (Same.below hB (Nat.le_refl _))
  have hp1 := hp1.same (Same.below hB (Nat.le_refl _))
  have hp2 := hp2.same (Same.below hB (Nat.le_refl _))
  have hv : ∀ k, JOwn w1.heap.size (.slice none 0 0) k → w1.heap.size ≤ k := fun k hk => by
    rcases hk with rfl | h
    · exact Nat.le_refl _
    · simp [Value.ownBlock] at h
  have hs12 := hB.size
  have S1z := S1.size
  clear S1 hB
  have C0 := hp0.walk
  obtain ⟨q0, q1, q2, q3, q4, q5⟩ := C0
  go_wp2_with fail
  refine (take_pa (s := aj false 0 0 []) (p := al0) hJ hp0 hv (by decide) (by decide) (by decide) (by decide)).mono ?_
  intro e w3 h
  rw [show takeS (aj false 0 0 []) al0.ap al0.fl al0.ct al0.dat = _ from al_t0] at h
  obtain ⟨v3, r3, t3, rfl, hJ, hR, hv, hB⟩ := h.next hv (by omega)
  have S3 := S2.trans (hB.mono (by have := S1z; omega))
  have hp0 := hp0.same (Same.below hB (Nat.le_refl _))
  have hp1 := hp1.same (Same.below hB (Nat.le_refl _))
  have hp2 := hp2.same (Same.below hB (Nat.le_refl _))
  have hs12 := Nat.le_trans hs12 hB.size
  clear q0 q1 q2 q3 q4 q5
  obtain ⟨q0, q1, q2, q3, q4, q5⟩ := hp2.walk
  go_wp2_with fail
  refine (take_pa (s := aj true 7 16383 [97, 98]) (p := al2) hJ hp2 hv (by decide) (by decide) (by decide) (by decide)).mono ?_
  intro e w4 h
  rw [show takeS (aj true 7 16383 [97, 98]) al2.ap al2.fl al2.ct al2.dat = _ from al_t1] at h
  obtain ⟨v4, r4, t4, rfl, hJ, hR, hv, hB⟩ := h.next hv (by omega)
  have S4 := S3.trans (hB.mono (by have := S1z; omega))
  have hp0 := hp0.same (Same.below hB (Nat.le_refl _))
  have hp1 := hp1.same (Same.below hB (Nat.le_refl _))
  have hp2 := hp2.same (Same.below hB (Nat.le_refl _))
  have hs12 := Nat.le_trans hs12 hB.size
  clear q0 q1 q2 q3 q4 q5
  go_wp2_with fail
  refine (pend_any _ _ (aj false 7 16383 []) _ hJ).mono ?_
  rintro e w' ⟨rfl, rfl⟩
  obtain ⟨q0, q1, q2, q3, q4, q5⟩ := hp0.walk
  go_wp2_with fail
  refine (take_pa (s := aj false 7 16383 []) (p := al0) hJ hp0 hv (by decide) (by decide) (by decide) (by decide)).mono ?_
  intro e w5 h
  rw [show takeS (aj false 7 16383 []) al0.ap al0.fl al0.ct al0.dat = _ from al_t2] at h
  obtain ⟨v5, r5, t5, rfl, hJ, hR, hv, hB⟩ := h.next hv (by omega)
  have S5 := S4.trans (hB.mono (by have := S1z; omega))
  have hp0 := hp0.same (Same.below hB (Nat.le_refl _))
  have hp1 := hp1.same (Same.below hB (Nat.le_refl _))
  have hp2 := hp2.same (Same.below hB (Nat.le_refl _))
  have hs12 := Nat.le_trans hs12 hB.size
  clear q0 q1 q2 q3 q4 q5
  obtain ⟨q0, q1, q2, q3, q4, q5⟩ := hp1.walk
  go_wp2_with fail
  refine (take_pa (s := aj true 7 16383 [97, 98]) (p := al1) hJ hp1 hv (by decide) (by decide) (by decide) (by decide)).mono ?_
  intro e w6 h
  rw [show takeS (aj true 7 16383 [97, 98]) al1.ap al1.fl al1.ct al1.dat = _ from al_t3] at h
  obtain ⟨v6, r6, t6, rfl, hJ, hR, hv, hB⟩ := h.next hv (by omega)
  have S6 := S5.trans (hB.mono (by have := S1z; omega))
  have hp0 := hp0.same (Same.below hB (Nat.le_refl _))
  have hp1 := hp1.same (Same.below hB (Nat.le_refl _))
  have hp2 := hp2.same (Same.below hB (Nat.le_refl _))
  have hs12 := Nat.le_trans hs12 hB.size
  clear q0 q1 q2 q3 q4 q5
  obtain ⟨q0, q1, q2, q3, q4, q5⟩ := hp2.walk
  go_wp2_with fail
  refine (take_pa (s := aj true 7 0 [97, 98, 99, 100]) (p := al2) hJ hp2 hv (by decide) (by decide) (by decide) (by decide)).mono ?_
  intro e w7 h
  rw [show takeS (aj true 7 0 [97, 98, 99, 100]) al2.ap al2.fl al2.ct al2.dat = _ from al_t4] at h
  obtain ⟨v7, r7, t7, rfl, hJ, hR, hv, hB⟩ := h.next hv (by omega)
  have S7 := S6.trans (hB.mono (by have := S1z; omega))
  have hp0 := hp0.same (Same.below hB (Nat.le_refl _))
  have hp1 := hp1.same (Same.below hB (Nat.le_refl _))
  have hp2 := hp2.same (Same.below hB (Nat.le_refl _))
  have hs12 := Nat.le_trans hs12 hB.size
  clear q0 q1 q2 q3 q4 q5
  obtain ⟨q0, q1, q2, q3, q4, q5⟩ := hp0.walk
  obtain ⟨u0, u1, u2, u3, u4, u5⟩ := hp1.walk
  obtain ⟨x0, x1, x2, x3, x4, x5⟩ := hp2.walk
  have hcv : (convert 22 9 (.slice r7 5 t7)).run Try.prog w7 = .ok (.string ⟨#[97, 98, 99, 100, 101]⟩) w7 := hR.str 22 9 5 t7 Try.underlying22 Try.underlying5 Try.underlying9
  go_wp2_with fail
  trace_state
  go_ret
  exact ⟨rfl, S7⟩
end Go.Proofs.Ytdllngedmhihkaa

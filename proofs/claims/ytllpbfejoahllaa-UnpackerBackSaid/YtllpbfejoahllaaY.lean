/- Contract of wrap; what it makes. No condition. -/
import Derived.Test.YtllpbfejoahllaaX
import Derived.Outline
namespace Go.Proofs.Ytllpbfejoahllaa
open Go.RowKit Go.Deep Go.ChangeShapes Go.WideShapes Go.ChangeAt
set_option linter.unusedVariables false

def wrapP (a : Nat) (l : List UInt8) : List UInt8 := [UInt8.ofNat (a / 256), UInt8.ofNat (a % 256), 192, 0, UInt8.ofNat ((l.length - 1) / 256), UInt8.ofNat ((l.length - 1) % 256)] ++ l
theorem wrapP_len (a : Nat) (l : List UInt8) : (wrapP a l).length = l.length + 6 := by simp [wrapP]
theorem wrapP_wf (a : Nat) (l : List UInt8) (ha : a ≤ 2047) (h1 : 1 ≤ l.length) (h2 : l.length ≤ 1900) : WF (wrapP a l) ∧ apid (wrapP a l) = a := by
  have e0 : (wrapP a l).getD 0 0 = UInt8.ofNat (a / 256) := rfl
  have e1 : (wrapP a l).getD 1 0 = UInt8.ofNat (a % 256) := rfl
  have e4 : (wrapP a l).getD 4 0 = UInt8.ofNat ((l.length - 1) / 256) := rfl
  have e5 : (wrapP a l).getD 5 0 = UInt8.ofNat ((l.length - 1) % 256) := rfl
  have t0 : (UInt8.ofNat (a / 256)).toNat = a / 256 := by rw [UInt8.toNat_ofNat']; omega
  have t1 : (UInt8.ofNat (a % 256)).toNat = a % 256 := by rw [UInt8.toNat_ofNat']; omega
  have t4 : (UInt8.ofNat ((l.length - 1) / 256)).toNat = (l.length - 1) / 256 := by rw [UInt8.toNat_ofNat']; omega
  have t5 : (UInt8.ofNat ((l.length - 1) % 256)).toNat = (l.length - 1) % 256 := by rw [UInt8.toNat_ofNat']; omega
  have hN : hdN (wrapP a l) = l.length + 6 := by rw [hdN, e4, e5, t4, t5]; omega
  have hL := wrapP_len a l
  refine ⟨⟨by omega, by omega, by omega, ?_⟩, ?_⟩
  · rw [hdOk, hN, e0, t0]
    simp
    omega
  · rw [apid, e0, e1, t0, t1]
    omega
set_option maxRecDepth 20000 in
set_option maxHeartbeats 1000000 in
theorem wrap_any (a : Nat) (ad : Option Addr) (cap : Nat) (l : List UInt8) (w : World) (ha : a ≤ 2047) (h1 : 1 ≤ l.length) (h2 : l.length ≤ 1900) (hb : BAt w ad l) : Calls Try.prog 8 #[.int .i64 (a : Int), .slice ad l.length cap] w (NB w (wrapP a l)) := by
  obtain ⟨j0, hj, hy0, hy1, hy2⟩ := info_parts info5
  have HJ := Lib.hid hj
  have HB := Lib.hid hb
  obtain ⟨n, hn⟩ : ∃ n, n = l.length - 1 := ⟨_, rfl⟩
  have e1 : (l.length : Int) - 1 = (n : Int) := by omega
  have HN := Lib.hid hn
  have HR : Hid (∀ w' : World, (w'.alloc (.cells #[.int .u8 ((a : Int) / 256), .int .u8 ((a : Int) % 256), .int .u8 192, .int .u8 0, .int .u8 ((n : Int) / 256), .int .u8 ((n : Int) % 256)] 5)).ownsRow w'.heap.size 5 1 (.slice (some ⟨w'.heap.size, 0, none⟩) 6 6) 6 (encB [UInt8.ofNat (a / 256), UInt8.ofNat (a % 256), 192, 0, UInt8.ofNat (n / 256), UInt8.ofNat (n % 256)])) := Lib.hid (fun w' => by
    have t0 : (UInt8.ofNat (a / 256)).toNat = a / 256 := by rw [UInt8.toNat_ofNat']; omega
    have t1 : (UInt8.ofNat (a % 256)).toNat = a % 256 := by rw [UInt8.toNat_ofNat']; omega
    have t4 : (UInt8.ofNat (n / 256)).toNat = n / 256 := by rw [UInt8.toNat_ofNat']; omega
    have t5 : (UInt8.ofNat (n % 256)).toNat = n % 256 := by rw [UInt8.toNat_ofNat']; omega
    refine ⟨by simp [encB], .inr ⟨w'.heap.size, 6, _, rfl, Nat.le_refl _, heap_alloc_new w' _, Nat.le_refl _, by unfold maxLen; omega, by simp, ?_⟩⟩
    simp only [encB, List.map_cons, List.map_nil, t0, t1, t4, t5]
    simp)
  have HV : Hid (∀ o, VAt (w.alloc o) ad (encB l)) := Lib.hid (fun o => (HB.out.below (al (Below.refl _ _) _) (Nat.le_refl _)).vat)
  have g1 : (0 : Int) ≤ (a : Int) := by omega
  have g2 : (0 : Int) ≤ (n : Int) := by omega
  have g3 : (a : Int) ≤ 2047 := by omega
  have g4 : (n : Int) ≤ 1900 := by omega
  clear hj hb hn
  go_enter Try.func8, Try.ntmps8
  go_wp2_with (at_builtin; refine wpList_append_src _ rfl (.tmp 21) (.tmp 22) 23 rfl w.heap.size 5 j0 (.int .u8 0) 1 Try.underlying23 HJ.out hy0 hy1 hy2 rfl _ 6 _ rfl (HR.out _) ad l.length cap (encB l) rfl (by simp [encB]) (HV.out _) (encB_one _) (by unfold maxLen; omega) (by omega) (by simp) ?_)
  intro v' w1 hown hgrow _
  have HB1 := Lib.hid (((Below.refl w.heap.size w).alloc (Nat.le_refl _) (.cells #[.int .u8 ((a : Int) / 256), .int .u8 ((a : Int) % 256), .int .u8 192, .int .u8 0, .int .u8 ((n : Int) / 256), .int .u8 ((n : Int) % 256)] 5)).grown hgrow (by simp) (fun k hk => by simp [Value.ownBlock] at hk; omega))
  have HO : Hid (w1.ownsRow w.heap.size 5 1 v' (wrapP a l).length (encB (wrapP a l))) := Lib.hid (by
    rw [wrapP_len, wrapP, encB_append, ← HN.out, Nat.add_comm]
    exact hown)
  clear hown hgrow
  go_wp2_with fail
  go_ret
  exact ⟨_, rfl, HO.out, HB1.out⟩
end Go.Proofs.Ytllpbfejoahllaa

/- Contracts of release, of control words and control frames. No condition. -/
import Derived.Test.YtjiejpklcjpibaaE
namespace Go.Proofs.Ytjiejpklcjpibaa
open Go.RowKit Go.Deep Go.ChangeShapes Go.WideShapes Go.ChangeAt
set_option linter.unusedVariables false

theorem release_any (b B d : Nat) (f : FS) (vU vC : Value) (us : List Value) (w : World) (h : Blk w b 69 (fcells f vU vC)) (hO : OffRow w B 23 vU us) (hl : us.length = f.units.length) (hd : d ≤ f.front) (ok : f.Ok) (hA : f.acked ≤ 1000000000) (hB : b < B) :
    Calls Try.prog 38 #[.pointer (some ⟨b, 0, none⟩), .int .i64 (d : Int)] w fun e w' => e = .returned (.tuple #[]) ∧ ∃ vU', OffRow w' B 23 vU' (us.drop d) ∧ vU'.ownBlock = vU.ownBlock ∧ Blk w' b 69 (fcells (f.ack d) vU' vC) ∧ Fr (fun k => k = b) w w' := by
  obtain ⟨a, cap, rfl, hc, hm, -, hob, hn⟩ := hO.vat
  have c1 := h.at 1 rfl
  have c2 := h.at 2 rfl
  have c3 := h.at 3 rfl
  have c4 := h.at 4 rfl
  have f1 := h.free 1
  have f2 := h.free 2
  have f3 := h.free 3
  have f4 := h.free 4
  have hlt := h.lt
  have H := Lib.hid h
  have h1 := ok.flight
  have h2 := ok.front
  have h3 := ok.units
  have h4 := ok.few
  have h5 := ok.size.2
  have HO := Lib.hid hO
  have HL := Lib.hid hl
  have hbn : ∀ k, (Value.slice a us.length cap).ownBlock = some k → ¬ k = b := fun k hk => by have := (hO.lt k hk).1; omega
  have HBN := Lib.hid hbn
  have hdu : d ≤ us.length := by omega
  have gd : (d : Int) ≤ (us.length : Int) := by omega
  have gd0 : (0 : Int) ≤ (d : Int) := by omega
  have h6 : us.length ≤ 256 := by omega
  have HF : Hid (f.front - d + d = f.front) := Lib.hid (by omega)
  have ef : ((f.front : Int) - (d : Int)) = ((f.front - d : Nat) : Int) := by omega
  clear h hO hl hbn ok
  rcases (by omega : (f.flight ≤ d ∧ (cap = d ∨ d < cap)) ∨ (d < f.flight ∧ (cap = d ∨ d < cap))) with ⟨hg, hcd⟩ | ⟨hg, hcd⟩
  · have eg : ¬ 0 < ((f.flight : Int) - (d : Int)) := by omega
    have HG : Hid (((f.flight - d : Nat) : Int) = 0) := Lib.hid (by omega)
    rcases hcd with rfl | hcd
    · go_enter Try.func38, Try.ntmps38
      go_wp2_with fail
      go_end0
      refine ⟨rfl, .slice a 0 0, ?_, (by cases a <;> rfl), Blk.cast ((((H.out.setCell 1 _).setCell 2 _).setCell 4 _).setCell 3 _) ?_, frs (frs (frs (frs (Fr.refl _ _) _ _) _ _) _ _) _ _⟩
      · have h7 := HO.out.drop_all hdu
        rw [List.drop_of_length_le hc]
        exact h7.fr (frs (frs (frs (frs (Fr.refl _ _) 1 _) 2 _) 4 _) 3 _) (fun k hk => HBN.out k (by cases a <;> exact hk))
      · show _ = fcells (f.ack cap) _ _
        unfold fcells FS.ack
        simp only [HG.out]
        rfl
    · obtain ⟨g, off, rfl, hdr⟩ := HO.out.drop d hdu hcd
      have HDR := Lib.hid hdr
      have ncd : ¬ cap = d := by omega
      have gcd : (d : Int) ≤ (cap : Int) := by omega
      clear hdr
      go_enter Try.func38, Try.ntmps38
      go_wp2_with fail
      go_end0
      refine ⟨rfl, .slice (some ⟨g, off + d, none⟩) (us.length - d) (cap - d), ?_, rfl, Blk.cast ((((H.out.setCell 1 _).setCell 2 _).setCell 4 _).setCell 3 _) ?_, frs (frs (frs (frs (Fr.refl _ _) _ _) _ _) _ _) _ _⟩
      · exact HDR.out.fr (frs (frs (frs (frs (Fr.refl _ _) 1 _) 2 _) 4 _) 3 _) (fun k hk => HBN.out k hk)
      · show _ = fcells (f.ack d) _ _
        unfold fcells FS.ack
        simp only [HG.out]
        rfl
  · have eg : 0 < ((f.flight : Int) - (d : Int)) := by omega
    have HG : Hid (((f.flight - d : Nat) : Int) = (f.flight : Int) - (d : Int)) := Lib.hid (by omega)
    rcases hcd with rfl | hcd
    · go_enter Try.func38, Try.ntmps38
      go_wp2_with fail
      go_end0
      refine ⟨rfl, .slice a 0 0, ?_, (by cases a <;> rfl), Blk.cast ((((H.out.setCell 1 _).setCell 2 _).setCell 4 _).setCell 3 _) ?_, frs (frs (frs (frs (Fr.refl _ _) _ _) _ _) _ _) _ _⟩
      · have h7 := HO.out.drop_all hdu
        rw [List.drop_of_length_le hc]
        exact h7.fr (frs (frs (frs (frs (Fr.refl _ _) 1 _) 2 _) 4 _) 3 _) (fun k hk => HBN.out k (by cases a <;> exact hk))
      · show _ = fcells (f.ack cap) _ _
        unfold fcells FS.ack
        simp only [HG.out]
        rfl
    · obtain ⟨g, off, rfl, hdr⟩ := HO.out.drop d hdu hcd
      have HDR := Lib.hid hdr
      have ncd : ¬ cap = d := by omega
      have gcd : (d : Int) ≤ (cap : Int) := by omega
      clear hdr
      go_enter Try.func38, Try.ntmps38
      go_wp2_with fail
      go_end0
      refine ⟨rfl, .slice (some ⟨g, off + d, none⟩) (us.length - d) (cap - d), ?_, rfl, Blk.cast ((((H.out.setCell 1 _).setCell 2 _).setCell 4 _).setCell 3 _) ?_, frs (frs (frs (frs (Fr.refl _ _) _ _) _ _) _ _) _ _⟩
      · exact HDR.out.fr (frs (frs (frs (frs (Fr.refl _ _) 1 _) 2 _) 4 _) 3 _) (fun k hk => HBN.out k hk)
      · show _ = fcells (f.ack d) _ _
        unfold fcells FS.ack
        simp only [HG.out]
        rfl
theorem cvalid_any (c : Cw) (w : World) : Calls Try.prog 36 #[.agg #[.int .i64 c.chan, .bool c.lock, .bool c.wait, .bool c.retr, .int .i64 c.byp, .int .i64 c.next]] w fun e w' => e = .returned (.bool c.valid) ∧ Below w.heap.size w w' := by
  go_enter Try.func36, Try.ntmps36
  go_wp2_with fail
  all_goals
    go_ret
    exact ⟨ret_bool (by unfold Cw.valid; rw [Bool.eq_iff_iff]; simp only [Bool.and_eq_true, decide_eq_true_eq]; simp; omega), al (Below.refl _ _) _⟩
/-- a frame as a value -/
def fmV (x : Fm) (v : Value) : Value := .agg #[.bool x.byp, .bool x.ctl, .int .i64 x.craft, .int .i64 x.chan, .int .i64 x.seq, v]
theorem control_any (craft chan : Int) (a : Option Addr) (n c : Nat) (w : World) : Calls Try.prog 48 #[.int .i64 craft, .int .i64 chan, .slice a n c] w fun e w' => e = .returned (.agg #[.bool true, .bool true, .int .i64 craft, .int .i64 chan, .int .i64 0, .slice a n c]) ∧ Below w.heap.size w w' := by
  go_enter Try.func48, Try.ntmps48
  go_wp2_with fail
  exact bodyPost_ret (v := .agg #[.bool true, .bool true, .int .i64 craft, .int .i64 chan, .int .i64 0, .slice a n c]) (by simp [results, Try.results48, go_sem]) rfl ⟨rfl, al (Below.refl _ _) _⟩
/-- a call gives a frame with data of its own -/
def FB (w : World) (x : Fm) (e : Ending) (w' : World) : Prop := ∃ v, e = .returned (fmV x v) ∧ w'.ownsRow w.heap.size 5 1 v x.data.length (encB x.data) ∧ Below w.heap.size w w'
theorem lit_own {w w' : World} {l : List UInt8} {cs : Array Value} (hB : Below (w.alloc (.cells cs 5)).heap.size (w.alloc (.cells cs 5)) w') (hc : cs = (encB l).toArray) (n : Nat) (hn : l.length = n) (h9 : n ≤ 100) {B : Nat} (hb : B ≤ w.heap.size) : w'.ownsRow B 5 1 (.slice (some ⟨w.heap.size, 0, none⟩) n n) n (encB l) := by
  subst hn hc
  refine own_below (w := w.alloc (.cells (encB l).toArray 5)) ⟨by rw [encB_length]; omega, .inr ⟨w.heap.size, l.length, _, rfl, hb, heap_alloc_new w _, Nat.le_refl _, by unfold maxLen; omega, by simp [encB_length], ?_⟩⟩ hB (Nat.le_refl _)
  simp only [Nat.mul_one]
  rw [List.take_of_length_le (by simp [encB_length])]
/-- the cells of a zero frame -/
def fm0 : Array Value := #[.bool false, .bool false, .int .i64 0, .int .i64 0, .int .i64 0, .slice none 0 0]
theorem two_alloc {w w1 : World} {o p : Obj} (hB : Below ((w.alloc o).alloc p).heap.size ((w.alloc o).alloc p) w1) : Below w.heap.size w w1 :=
  ((Below.refl w.heap.size w).alloc (Nat.le_refl _) o |>.alloc (by simp) p).trans (hB.mono (by simp; omega))
theorem fmlit {w w' : World} {l : List UInt8} {o : Obj} {cs : Array Value} (hB : Below ((w.alloc o).alloc (.cells cs 5)).heap.size ((w.alloc o).alloc (.cells cs 5)) w') (hc : cs = (encB l).toArray) (n : Nat) (hn : l.length = n) (h9 : n ≤ 100) : w'.ownsRow w.heap.size 5 1 (.slice (some ⟨w.heap.size + 1, 0, none⟩) n n) n (encB l) := by
  have h := lit_own hB hc n hn h9 (B := w.heap.size) (by simp)
  simpa using h
theorem blk2 {w w1 : World} {xs : List Value} {T : TypeId} {p : Obj} (hB : Below ((w.alloc (.cells xs.toArray T)).alloc p).heap.size ((w.alloc (.cells xs.toArray T)).alloc p) w1) : Blk w1 w.heap.size T xs :=
  ((Blk.new w T xs).alloc p).below hB (Nat.le_refl _)
theorem tunlock_any (craft chan : Int) (w : World) : Calls Try.prog 39 #[.int .i64 craft, .int .i64 chan] w (FB w (Fm.unlock craft chan)) := by
  go_enter Try.func39, Try.ntmps39
  go_wp2_with fail
  refine (control_any _ _ _ _ _ _).mono ?_
  rintro e w1 ⟨rfl, hB⟩
  have hO := fmlit hB (l := [0]) rfl 1 rfl (by omega)
  have hB2 := two_alloc hB
  have hk := blk2 (xs := [.bool false, .bool false, .int .i64 0, .int .i64 0, .int .i64 0, .slice none 0 0]) hB
  have c0 := hk.at 0 rfl
  have c1 := hk.at 1 rfl
  have c2 := hk.at 2 rfl
  have c3 := hk.at 3 rfl
  have c4 := hk.at 4 rfl
  have c5 := hk.at 5 rfl
  have f0 := hk.free 0
  have f1 := hk.free 1
  have f2 := hk.free 2
  have f3 := hk.free 3
  have f4 := hk.free 4
  have f5 := hk.free 5
  have hlt := hk.lt
  have HO := Lib.hid hO
  have HB := Lib.hid hB2
  clear hB hO hB2 hk
  go_wp2_with fail
  refine bodyPost_ret (v := fmV (Fm.unlock craft chan) (.slice (some ⟨w.heap.size + 1, 0, none⟩) 1 1)) (by simp [results, Try.results39, go_sem, fmV, Fm.unlock, *]) rfl ⟨_, rfl, ?_, ?_⟩
  · exact own_set (own_set (own_set (own_set (own_set (own_set HO.out (by simp [Value.ownBlock]) _) (by simp [Value.ownBlock]) _) (by simp [Value.ownBlock]) _) (by simp [Value.ownBlock]) _) (by simp [Value.ownBlock]) _) (by simp [Value.ownBlock]) _
  · exact (((((HB.out.setCell (p := ⟨w.heap.size, 0, none⟩) (Nat.le_refl _) _).setCell (p := ⟨w.heap.size, 1, none⟩) (Nat.le_refl _) _).setCell (p := ⟨w.heap.size, 2, none⟩) (Nat.le_refl _) _).setCell (p := ⟨w.heap.size, 3, none⟩) (Nat.le_refl _) _).setCell (p := ⟨w.heap.size, 4, none⟩) (Nat.le_refl _) _).setCell (p := ⟨w.heap.size, 5, none⟩) (Nat.le_refl _) _
theorem tsetnext_any (craft chan : Int) (n : Nat) (hn : n < 256) (w : World) : Calls Try.prog 40 #[.int .i64 craft, .int .i64 chan, .int .i64 (n : Int)] w (FB w (Fm.setNext craft chan n)) := by
  have hu : (UInt8.ofNat n).toNat = n := by rw [UInt8.toNat_ofNat']; omega
  have g1 : ¬ (n : Int) < 0 := by omega
  have g2 : ¬ 255 < (n : Int) := by omega
  have HU : Hid (#[.int .u8 130, .int .u8 0, .int .u8 (n : Int)] = (encB [130, 0, UInt8.ofNat n]).toArray) := Lib.hid (by simp [encB, hu])
  have g3 : (n : Int) < 256 := by omega
  clear hu
  go_enter Try.func40, Try.ntmps40
  go_wp2_with fail
  refine (control_any _ _ _ _ _ _).mono ?_
  rintro e w1 ⟨rfl, hB⟩
  have hO := fmlit hB (l := [130, 0, UInt8.ofNat n]) HU.out 3 rfl (by omega)
  have hB2 := two_alloc hB
  have hk := blk2 (xs := [.bool false, .bool false, .int .i64 0, .int .i64 0, .int .i64 0, .slice none 0 0]) hB
  have c0 := hk.at 0 rfl
  have c1 := hk.at 1 rfl
  have c2 := hk.at 2 rfl
  have c3 := hk.at 3 rfl
  have c4 := hk.at 4 rfl
  have c5 := hk.at 5 rfl
  have f0 := hk.free 0
  have f1 := hk.free 1
  have f2 := hk.free 2
  have f3 := hk.free 3
  have f4 := hk.free 4
  have f5 := hk.free 5
  have hlt := hk.lt
  have HO := Lib.hid hO
  have HB := Lib.hid hB2
  clear hB hO hB2 hk
  go_wp2_with fail
  refine bodyPost_ret (v := fmV (Fm.setNext craft chan n) (.slice (some ⟨w.heap.size + 1, 0, none⟩) 3 3)) (by simp [results, Try.results40, go_sem, fmV, Fm.setNext, *]) rfl ⟨_, rfl, ?_, ?_⟩
  · exact own_set (own_set (own_set (own_set (own_set (own_set HO.out (by simp [Value.ownBlock]) _) (by simp [Value.ownBlock]) _) (by simp [Value.ownBlock]) _) (by simp [Value.ownBlock]) _) (by simp [Value.ownBlock]) _) (by simp [Value.ownBlock]) _
  · exact (((((HB.out.setCell (p := ⟨w.heap.size, 0, none⟩) (Nat.le_refl _) _).setCell (p := ⟨w.heap.size, 1, none⟩) (Nat.le_refl _) _).setCell (p := ⟨w.heap.size, 2, none⟩) (Nat.le_refl _) _).setCell (p := ⟨w.heap.size, 3, none⟩) (Nat.le_refl _) _).setCell (p := ⟨w.heap.size, 4, none⟩) (Nat.le_refl _) _).setCell (p := ⟨w.heap.size, 5, none⟩) (Nat.le_refl _) _
end Go.Proofs.Ytjiejpklcjpibaa

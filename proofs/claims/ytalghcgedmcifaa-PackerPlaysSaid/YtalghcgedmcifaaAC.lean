/- The reference packer's Next. No condition. -/
import Derived.Test.YtalghcgedmcifaaAB
namespace Go.Proofs.Ytalghcgedmcifaa
open Go.RowKit Go.Deep Go.ChangeShapes Go.WideShapes Go.ChangeAt
set_option linter.unusedVariables false

/-- the rest is the end of an idle packet of seven bytes -/
def sevenP : List UInt8 := bytesP (idlePk 1)
theorem sevenP_len : sevenP.length = 7 := by unfold sevenP; rw [bytesP_length]; simp [idlePk]
def PS.Sv7 (p : PS) : Prop := p.rest = sevenP.drop (7 - p.rest.length)
theorem PS.sv_new (size room : Int) : (PS.new size room).Sv7 := by unfold PS.Sv7 PS.new; simp; rw [sevenP_len]; exact Nat.le_refl _
theorem PS.sv_push {p : PS} (h : p.Sv7) (l : List UInt8) : (p.push l).1.Sv7 := by
  unfold PS.push
  split
  · exact h
  · split
    · exact h
    · exact h
theorem fill_rest (m : Nat) : ∀ (p : PS) (out : List UInt8) (f : Int), (PS.fill m p out f).1.rest = p.rest := by
  induction m with
  | zero => intro p out f; rfl
  | succ m ih =>
    intro p out f
    unfold PS.fill
    split
    · rw [ih]; exact (p.take_size _).2.1
    · rfl
theorem PS.sv_begin {p : PS} (ok : p.Ok) (h : p.Sv7) : p.begin.Sv7 := by
  have hr := ok.rest
  unfold PS.Sv7 PS.begin at *
  dsimp only
  obtain ⟨k, hk⟩ : ∃ k, k = min p.rest.length p.size := ⟨_, rfl⟩
  rw [← hk, List.length_drop]
  conv => lhs; rw [h]
  rw [List.drop_drop, show 7 - p.rest.length + k = 7 - (p.rest.length - k) by omega]
theorem PS.sv_close {r : PS × List UInt8 × Int} (h : r.1.Sv7) : (PS.close r).1.Sv7 := by
  unfold PS.close
  split
  · rename_i hl
    unfold PS.Sv7
    dsimp only
    obtain ⟨m, hm⟩ : ∃ m, m = r.1.size - r.2.1.length := ⟨_, rfl⟩
    rw [← hm, List.length_drop, idleN_len]
    by_cases h7 : m < 7
    · have e : idleN m = sevenP := by unfold idleN sevenP; rw [show max m 7 - 6 = 1 by omega]
      rw [e, show 7 - (max m 7 - m) = m by omega]
    · rw [List.drop_eq_nil_of_le (by rw [idleN_len]; omega), List.drop_eq_nil_of_le (by rw [sevenP_len]; omega)]
  · exact h
theorem PS.sv_next {p : PS} (ok : p.Ok) (h : p.Sv7) : p.next.1.Sv7 := by
  unfold PS.next
  split
  · exact h
  · refine PS.sv_close ?_
    have h1 := PS.sv_begin ok h
    unfold PS.Sv7 at h1 ⊢
    rw [fill_rest]
    exact h1
/-- what the reference's Next leaves -/
def RNQ (w : World) (S : Nat → Prop) (r : PS × Option (List UInt8 × Int)) (e : Ending) (w' : World) : Prop :=
  ∃ vL v, e = .returned (.tuple #[RPV r.1 vL, v, .int .i64 ((r.2.map (·.2)).getD 0), .bool r.2.isSome]) ∧ SAt w' S vL r.1.L ∧ w'.ownsRow w.heap.size 5 1 v ((r.2.map (·.1)).getD []).length (encB ((r.2.map (·.1)).getD [])) ∧ Below w.heap.size w w'
theorem fin5_below {w wx : World} (hB : Below w.heap.size w wx) (x0 x1 x2 x3 x4 : Value) : Below w.heap.size w (fin5 wx (w.heap.size + 1) x0 x1 x2 x3 x4) :=
  hB.trans ((fin5_fr wx _ x0 x1 x2 x3 x4).toBelow hB.size (fun k hk => by omega))
theorem RNQ.none {w wx : World} {S : Nat → Prop} {r : PS × Option (List UInt8 × Int)} {q : PS} {vL : Value} (hr : r = (q, Option.none)) (h : SAt w S vL q.L) (hB : Below w.heap.size w wx) (x0 x1 x2 x3 x4 : Value) :
    RNQ w S r (.returned (.tuple #[RPV q vL, .slice Option.none 0 0, .int .i64 0, .bool false])) (fin5 wx (w.heap.size + 1) x0 x1 x2 x3 x4) := by
  subst hr
  exact ⟨vL, _, rfl, h.below (fin5_below hB _ _ _ _ _) (Nat.le_refl _), World.ownsRow_nil _ _ _ _, fin5_below hB _ _ _ _ _⟩
theorem RNQ.some {w wx : World} {S : Nat → Prop} {r : PS × Option (List UInt8 × Int)} {q : PS} {vL v : Value} {out : List UInt8} {n : Nat} {f : Int} (hr : r = (q, Option.some (out, f))) (h : SAt w S vL q.L) (hB : Below w.heap.size w wx) (hn : out.length = n) (ho : wx.ownsRow (w.heap.size + 2) 5 1 v n (encB out)) (x0 x1 x2 x3 x4 : Value) :
    RNQ w S r (.returned (.tuple #[RPV q vL, v, .int .i64 f, .bool true])) (fin5 wx (w.heap.size + 1) x0 x1 x2 x3 x4) := by
  subst hr hn
  exact ⟨vL, _, rfl, h.below (fin5_below hB _ _ _ _ _) (Nat.le_refl _), own_base (own_fr ho (fin5_fr wx _ x0 x1 x2 x3 x4) (fun k hk e => by have := (ho.lt k hk).1; omega)) (Nat.le_add_right _ _), fin5_below hB _ _ _ _ _⟩
/-- the list behind its first packet -/
theorem SAt.tail {w : World} {S : Nat → Prop} {b off n cap : Nat} {x : List UInt8} {xs : List (List UInt8)} (h : SAt w S (.slice (Option.some ⟨b, off, Option.none⟩) n cap) (x :: xs)) : SAt w S (.slice (Option.some ⟨b, off + 1, Option.none⟩) (n - 1) (cap - 1)) xs := by
  obtain ⟨a, c, vs, e, h2, h3, h4, h5, h6⟩ := h
  simp only [Value.slice.injEq] at e
  obtain ⟨rfl, rfl, rfl⟩ := e
  refine ⟨Option.some ⟨b, off + 1, Option.none⟩, cap - 1, vs.drop 1, by simp, by simp at h2; omega, by omega, h4.drop 1, fun q hq hne => ?_, ?_⟩
  · cases hq
    exact h5 ⟨b, off, Option.none⟩ rfl (by simp)
  · have := h6.drop 1
    simpa using this
theorem SAt.empty (w : World) (S : Nat → Prop) (a : Option Addr) : SAt w S (.slice a 0 0) [] := ⟨a, 0, [], rfl, by simp, Nat.zero_le _, .inl rfl, fun _ _ h => absurd rfl h, Sls.nil⟩
def zcells : List Value := [.int .i64 0, .int .i64 0, .int .i64 0, .slice Option.none 0 0, .int .i64 0]
/-- what the loop keeps -/
def ZR (w wr : World) (S : Nat → Prop) (T : PS × List UInt8 × Int) (size gk : Nat) (v6 v10 : Value) : Prop :=
  ∃ (q : PS) (out : List UInt8) (f : Int) (vL : Value), v6 = .int .i64 f ∧ PS.fill gk q out f = T ∧ (q.L.length < gk ∨ q.size ≤ out.length) ∧ q.Ok ∧ q.size = size ∧ out.length ≤ size ∧ Blk wr w.heap.size 44 (rpcells q vL) ∧ Blk wr (w.heap.size + 1) 44 zcells ∧ SAt w S vL q.L ∧ wr.ownsRow (w.heap.size + 2) 5 1 v10 out.length (encB out) ∧ Below w.heap.size w wr
theorem ZR.next {w w' : World} {S : Nat → Prop} {T : PS × List UInt8 × Int} {size gk n : Nat} {q q' : PS} {out bytes : List UInt8} {f fv : Int} {vL v10 : Value} (hT : PS.fill gk q out f = T) (hlt : out.length < q.size) (hL : q.L ≠ []) (hqL : q.L.length < gk ∨ q.size ≤ out.length) (hq : q.Ok) (hqs : q.size = size)
    (htake : q.take (q.size - out.length) = (q', bytes)) (hf : firstP q out f = fv) (hK : Blk w' w.heap.size 44 (rpcells q' vL)) (hK2 : Blk w' (w.heap.size + 1) 44 zcells) (hS : SAt w S vL q'.L) (hn : n = out.length + bytes.length) (hO : w'.ownsRow (w.heap.size + 2) 5 1 v10 n (encB out ++ encB bytes)) (hB : Below w.heap.size w w') : ZR w w' S T size (gk - 1) (.int .i64 fv) v10 := by
  have hgk : 0 < gk := by rcases hqL with h9 | h9 <;> omega
  have h1 := take_len hq hL (q.size - out.length)
  have h2 := (q.take_size (q.size - out.length)).1
  have h3 := PS.ok_take hq (q.size - out.length)
  rw [htake] at h1 h2 h3
  dsimp only at h1 h2 h3
  refine ⟨q', out ++ bytes, fv, vL, rfl, ?_, ?_, h3, h2.trans hqs, by rw [List.length_append]; omega, hK, hK2, hS, by rw [List.length_append, ← hn, encB_append]; exact hO, hB⟩
  · rw [show gk = (gk - 1) + 1 by omega, fill_more _ _ _ _ ⟨hlt, hL⟩, htake, hf] at hT
    exact hT
  · rcases h1.2 with h9 | h9
    · left
      rcases hqL with h8 | h8 <;> omega
    · right
      rw [List.length_append]
      omega
set_option maxRecDepth 20000 in
set_option maxHeartbeats 4000000 in
theorem rnext_zero (S : Nat → Prop) (p : PS) (vL : Value) (w : World) (h : SAt w S vL p.L) (ok : p.Ok) (h0 : p.left = 0) : Calls Try.prog 21 #[RPV p vL] w (RNQ w S p.next) := by
  obtain ⟨av, cv, rfl, hcv, hmv⟩ := h.len
  have H := Lib.hid h
  have OK := Lib.hid ok
  have HP : Hid (p.next = (p, Option.none)) := Lib.hid (by unfold PS.next; rw [if_pos h0])
  have HLF := Lib.hid h0.symm
  obtain ⟨n, hn⟩ : ∃ n, n = p.L.length := ⟨_, rfl⟩
  rw [← hn] at H hcv ⊢
  have HN := Lib.hid hn
  obtain ⟨wb, hwb⟩ : ∃ wb, wb = (w.alloc (.cells #[.int .i64 (p.size : Int), .int .i64 (p.room : Int), .int .i64 (p.rest.length : Int), .slice av n cv, .int .i64 (p.taken : Int)] 44)).alloc (.cells #[.int .i64 0, .int .i64 0, .int .i64 0, .slice Option.none 0 0, .int .i64 0] 44) := ⟨_, rfl⟩
  have HK : Hid (Blk wb w.heap.size 44 (rpcells p (.slice av n cv))) := Lib.hid (by rw [hwb]; exact (Blk.new w 44 _).alloc _)
  have HK2 : Hid (Blk wb (w.heap.size + 1) 44 zcells) := Lib.hid (by rw [hwb]; exact Blk.newAt (by simp))
  have HBB : Hid (Below w.heap.size w wb) := Lib.hid (by rw [hwb]; exact al (al (Below.refl _ _) _) _)
  have HSB := Lib.hid (H.out.below HBB.out (Nat.le_refl _))
  clear h hn ok h0
  unfold RPV
  go_enter Try.func21, Try.ntmps21
  go_upto_region 1 with fail
  rw [← hwb]
  clear hwb
  have x0 := HK.out.at 0 rfl
  have x1 := HK.out.at 1 rfl
  have x2 := HK.out.at 2 rfl
  have x3 := HK.out.at 3 rfl
  have x4 := HK.out.at 4 rfl
  have xl := HK.out.lt
  go_wp2_with fail
  refine (rleft_n HLF.out HSB.out OK.out).mono ?_
  rintro e w5 ⟨rfl, hB5⟩
  have HK5 := Lib.hid (HK.out.below hB5 (Nat.le_refl _))
  have HK25 := Lib.hid (HK2.out.below hB5 (Nat.le_refl _))
  have HB5 := Lib.hid (HBB.out.trans (hB5.mono HBB.out.size))
  clear hB5 x0 x1 x2 x3 x4 xl
  have c0 := HK5.out.at 0 rfl
  have c1 := HK5.out.at 1 rfl
  have c2 := HK5.out.at 2 rfl
  have c3 := HK5.out.at 3 rfl
  have c4 := HK5.out.at 4 rfl
  have lB := HK5.out.lt
  have d0 := HK25.out.at 0 rfl
  have d1 := HK25.out.at 1 rfl
  have d2 := HK25.out.at 2 rfl
  have d3 := HK25.out.at 3 rfl
  have d4 := HK25.out.at 4 rfl
  have f0 := HK25.out.free 0
  have f1 := HK25.out.free 1
  have f2 := HK25.out.free 2
  have f3 := HK25.out.free 3
  have f4 := HK25.out.free 4
  have lR := HK25.out.lt
  go_wp2_with fail
  have b9 := fin5_blk HK25.out (.int .i64 (p.size : Int)) (.int .i64 (p.room : Int)) (.int .i64 (p.rest.length : Int)) (.slice av n cv) (.int .i64 (p.taken : Int))
  unfold fin5 at b9
  have b0 := b9.at 0 rfl
  have b1 := b9.at 1 rfl
  have b2 := b9.at 2 rfl
  have b3 := b9.at 3 rfl
  have b4 := b9.at 4 rfl
  exact bodyPost_ret (v := .tuple #[RPV p (.slice av n cv), .slice Option.none 0 0, .int .i64 0, .bool false]) (by simp [results, Try.results21, go_sem, b0, b1, b2, b3, b4, RPV]) rfl (RNQ.none HP.out H.out HB5.out _ _ _ _ _)
theorem idleP7 : idleP 7 = (sevenP, 0) := by
  have := idleP_ok 1 (by omega) (by omega)
  exact this
set_option maxRecDepth 20000 in
set_option maxHeartbeats 4000000 in
theorem rnext_some (S : Nat → Prop) (p : PS) (vL : Value) (w : World) (h : SAt w S vL p.L) (ok : p.Ok) (h0 : p.left ≠ 0) (hsv : p.Sv7) : Calls Try.prog 21 #[RPV p vL] w (RNQ w S p.next) := by
  obtain ⟨av, cv, rfl, hcv, hmv⟩ := h.len
  obtain ⟨lf, hlf⟩ : ∃ lf, lf = p.left := ⟨_, rfl⟩
  obtain ⟨k0, hk0⟩ : ∃ k, k = min p.rest.length p.size := ⟨_, rfl⟩
  obtain ⟨rl, hrl⟩ : ∃ k, k = p.rest.length := ⟨_, rfl⟩
  obtain ⟨T, hTT⟩ : ∃ T, T = PS.fill (p.L.length + 1) p.begin (p.rest.take k0) 2047 := ⟨_, rfl⟩
  have hnx : p.next = ((PS.close T).1, Option.some (PS.close T).2) := by rw [next_is p h0, hTT, hk0]
  have hrl6 : rl ≤ 6 := by rw [hrl]; exact ok.rest
  have hk1 : k0 ≤ rl := by omega
  have hsz := ok.size
  have hk2 : k0 ≤ p.size := by omega
  have hmin : min (rl : Int) (p.size : Int) = (k0 : Int) := by omega
  have e2 : ((lf : Int) == 0) = false := by rw [beq_eq_false_iff_ne]; omega
  have hsrc : (sevenP.drop (7 - rl)).take k0 = p.rest.take k0 := by rw [hrl, ← hsv]
  have hfew := ok.few
  have H := Lib.hid h
  have OK := Lib.hid ok
  have HNX := Lib.hid hnx
  have HTT := Lib.hid hTT
  have HLF := Lib.hid hlf
  have HRL := Lib.hid hrl
  have HK0 := Lib.hid hk0
  have HSRC := Lib.hid hsrc
  obtain ⟨n, hn⟩ : ∃ n, n = p.L.length := ⟨_, rfl⟩
  rw [← hn] at H hcv hfew ⊢
  have HN := Lib.hid hn
  obtain ⟨wb, hwb⟩ : ∃ wb, wb = (w.alloc (.cells #[.int .i64 (p.size : Int), .int .i64 (p.room : Int), .int .i64 (p.rest.length : Int), .slice av n cv, .int .i64 (p.taken : Int)] 44)).alloc (.cells #[.int .i64 0, .int .i64 0, .int .i64 0, .slice Option.none 0 0, .int .i64 0] 44) := ⟨_, rfl⟩
  have HK : Hid (Blk wb w.heap.size 44 (rpcells p (.slice av n cv))) := Lib.hid (by rw [hwb]; exact (Blk.new w 44 _).alloc _)
  have HK2 : Hid (Blk wb (w.heap.size + 1) 44 zcells) := Lib.hid (by rw [hwb]; exact Blk.newAt (by simp))
  have HBB : Hid (Below w.heap.size w wb) := Lib.hid (by rw [hwb]; exact al (al (Below.refl _ _) _) _)
  have HSB := Lib.hid (H.out.below HBB.out (Nat.le_refl _))
  obtain ⟨j0, hj, hy0, hy1, hy2⟩ := info_parts info5
  have HJ := Lib.hid hj
  clear h hn ok h0 hnx hTT hlf hk0 hsrc hj hsv
  unfold RPV
  go_enter Try.func21, Try.ntmps21
  go_upto_region 1 with fail
  rw [← hwb]
  clear hwb
  have x0 := HK.out.at 0 rfl
  have x1 := HK.out.at 1 rfl
  have x2 := HK.out.at 2 rfl
  have x3 := HK.out.at 3 rfl
  have x4 := HK.out.at 4 rfl
  have xl := HK.out.lt
  go_wp2_with fail
  refine (rleft_n HLF.out HSB.out OK.out).mono ?_
  rintro e w5 ⟨rfl, hB5⟩
  have HK5 := Lib.hid (HK.out.below hB5 (Nat.le_refl _))
  have HK25 := Lib.hid (HK2.out.below hB5 (Nat.le_refl _))
  have HB5 := Lib.hid (HBB.out.trans (hB5.mono HBB.out.size))
  clear hB5 x0 x1 x2 x3 x4 xl
  go_wp2_with fail
  refine (ridle_call 7 _).mono ?_
  rw [idleP7]
  rintro e w6 ⟨v7, rfl, hO6, hB6⟩
  obtain ⟨-, a7, c7, rfl, hc7, hm7, hA7⟩ := BAt.of_row hO6
  have hg7 : ∃ g, a7 = Option.some ⟨g, 0, Option.none⟩ := by
    rcases own_shape hO6 with ⟨-, -, e9⟩ | ⟨g9, e9, -⟩
    · rw [sevenP_len] at e9; omega
    · exact ⟨g9, e9⟩
  have HG7 := Lib.hid hg7
  rw [sevenP_len] at hc7 ⊢
  have HK6 := Lib.hid (HK5.out.below hB6 (Nat.le_refl _))
  have HK26 := Lib.hid (HK25.out.below hB6 (Nat.le_refl _))
  have HB6 := Lib.hid (HB5.out.trans (hB6.mono HB5.out.size))
  have HA7 := Lib.hid hA7
  clear hO6 hB6 hA7 hg7
  have c0 := HK6.out.at 0 rfl
  have c2 : w6.cell? ⟨w.heap.size, 2, Option.none⟩ = Option.some (.int .i64 (rl : Int)) := by rw [HRL.out]; exact HK6.out.at 2 rfl
  have f2 := HK6.out.free 2
  have lB := HK6.out.lt
  clear hrl
  have hs6 : w.heap.size + 2 ≤ w6.heap.size := by have := HK26.out.lt; omega
  obtain ⟨lo, hlo⟩ : ∃ k, k = 7 - rl := ⟨_, rfl⟩
  obtain ⟨hi, hhi⟩ : ∃ k, k = lo + k0 := ⟨_, rfl⟩
  have i1 : (7 : Int) - (rl : Int) = (lo : Int) := by omega
  have i2 : (lo : Int) + (k0 : Int) = (hi : Int) := by omega
  have i3 : (0 : Int) ≤ (lo : Int) := by omega
  have i4 : (lo : Int) ≤ (hi : Int) := by omega
  have i5 : (hi : Int) ≤ (c7 : Int) := by omega
  have hk9 : k0 ≤ 6 := by omega
  have hlo1 : 1 ≤ lo := by omega
  have HLO := Lib.hid hlo
  have HHI := Lib.hid hhi
  have HSV : Hid (VAt w6 (if c7 = lo then a7 else Option.map (fun x => x.add lo) a7) (encB (p.rest.take k0))) := Lib.hid (by
    obtain ⟨g, hg⟩ := HG7.out
    split
    · rename_i hc
      left
      rw [show k0 = 0 by omega]
      rfl
    · rw [hg]
      have h0 := HA7.out
      rw [hg] at h0
      have h1 := ((h0.drop lo).take k0).vat
      rw [hlo, HSRC.out] at h1
      rw [hlo]
      show VAt w6 (Option.some ((⟨g, 0, Option.none⟩ : Addr).add (7 - rl))) _
      rw [add_plain]
      exact h1)
  have HSL : Hid ((p.rest.take k0).length = k0) := Lib.hid (by rw [List.length_take, ← HRL.out]; omega)
  have hhl : hi - lo = k0 := by omega
  have HHL := Lib.hid hhl
  clear hlo hhi hhl
  obtain ⟨A7, hA7⟩ : ∃ A, (if c7 = lo then a7 else Option.map (fun x => x.add lo) a7) = A := ⟨_, rfl⟩
  rw [hA7] at HSV
  go_wp2_with (at_builtin; refine wpList_append_src _ rfl (.tmp 29) (.tmp 39) 22 rfl (w.heap.size + 2) 5 j0 (.int .u8 0) 1 Try.underlying22 HJ.out hy0 hy1 hy2 (by rfl) _ 0 [] rfl (own_empty _ _ w6.heap.size rfl _ hs6) A7 _ _ (encB (p.rest.take k0)) rfl (by rw [encB_length, HSL.out]; exact HHL.out.symm) (HSV.out.below (al (Below.refl _ w6) _) (Nat.le_refl _)) (encB_one _) (by unfold maxLen; omega) (by omega) (by simp; omega) ?_)
  intro v10 w8 hown hgrow _
  have HO8 : Hid (w8.ownsRow (w.heap.size + 2) 5 1 v10 k0 (encB (p.rest.take k0))) := Lib.hid (by have h := hown; rw [HHL.out] at h; exact h)
  have hB8 : Below w6.heap.size w6 w8 := (al (Below.refl _ _) _).grown hgrow (by simp) (fun k hk => by cases hk; exact Nat.le_refl _)
  have HK8 := Lib.hid (HK6.out.below hB8 (Nat.le_refl _))
  have HK28 := Lib.hid (HK26.out.below hB8 (Nat.le_refl _))
  have HB8 := Lib.hid (HB6.out.trans (hB8.mono HB6.out.size))
  clear hown hgrow hB8 c0 c2 f2 lB
  have c2 : w8.cell? ⟨w.heap.size, 2, Option.none⟩ = Option.some (.int .i64 (rl : Int)) := by rw [HRL.out]; exact HK8.out.at 2 rfl
  have f2 := HK8.out.free 2
  have lB := HK8.out.lt
  go_upto_region 8 with fail
  obtain ⟨w9, hw9⟩ : ∃ w9, w9 = w8.setCell ⟨w.heap.size, 2, Option.none⟩ (.int .i64 ((rl : Int) - (k0 : Int))) := ⟨_, rfl⟩
  rw [← hw9]
  have hF9 : Fr (fun k => k = w.heap.size) w8 w9 := by rw [hw9]; exact (Fr.refl _ _).set1 _ (by exact .inl rfl)
  have hk9 : Blk w9 w.heap.size 44 (rpcells p.begin (.slice av n cv)) := by
    rw [hw9]
    refine Blk.cast (HK8.out.setCell 2 _) ?_
    have hb : ((p.begin.rest.length : Nat) : Int) = (rl : Int) - (k0 : Int) := by
      unfold PS.begin
      dsimp only
      rw [List.length_drop, ← HRL.out, show min rl p.size = k0 by rw [HK0.out, HRL.out]]
      omega
    unfold rpcells
    rw [hb]
    rfl
  have ZS : Hid (ZR w w9 S T p.size (n + 1) (.int .i64 2047) v10) := Lib.hid ⟨p.begin, p.rest.take k0, 2047, .slice av n cv, rfl, by rw [HTT.out, HN.out], .inl (by rw [HN.out]; exact Nat.lt_succ_self _), PS.ok_begin OK.out, rfl, by rw [HSL.out]; exact hk2, hk9, HK28.out.fr hF9 (by omega), H.out, by rw [HSL.out]; exact own_fr HO8.out hF9 (fun k hk e => by have := (HO8.out.lt k hk).1; omega), HB8.out.trans (hF9.toBelow HB8.out.size (fun k hk => by omega))⟩
  clear c2 f2 lB hw9 hF9 hk9
  go_wp2_with fail
  go_loopg [6, 10] (n + 1) (fun gk v6 v10 wr => Hid (ZR w wr S T p.size gk v6 v10))
  case atStart => exact ZS
  case round =>
    obtain ⟨q, out, f, vL, rfl, hT, hqL, hq, hqs, hol, hK, hK2, hS, hO, hB⟩ := hrel.out
    obtain ⟨aq, cq, rfl, hcq, hmq⟩ := hS.len
    obtain ⟨-, ao, co, rfl, hco, hmo, -⟩ := BAt.of_row hO
    obtain ⟨M, hM⟩ : ∃ M, M = out.length := ⟨_, rfl⟩
    obtain ⟨nq, hnq⟩ : ∃ k, k = q.L.length := ⟨_, rfl⟩
    obtain ⟨rq, hrq⟩ : ∃ k, k = q.rest.length := ⟨_, rfl⟩
    obtain ⟨tk, htk⟩ : ∃ k, k = q.taken := ⟨_, rfl⟩
    obtain ⟨sz, hsz2⟩ : ∃ k, k = q.size := ⟨_, rfl⟩
    have hK' : Blk wr w.heap.size 44 [.int .i64 (sz : Int), .int .i64 (q.room : Int), .int .i64 (rq : Int), .slice aq nq cq, .int .i64 (tk : Int)] := by rw [hsz2, hrq, hnq, htk]; exact hK
    rw [← hM] at hO hol hco ⊢
    rw [← hnq] at hS hcq
    rw [← hsz2] at hqs
    have hfq := hq.few
    rw [← hnq] at hfq
    have HM := Lib.hid hM
    have HNQ := Lib.hid hnq
    have HRQ := Lib.hid hrq
    have HTK := Lib.hid htk
    have HSZ := Lib.hid hsz2
    have HK := Lib.hid hK'
    have HK2 := Lib.hid hK2
    have HS := Lib.hid hS
    have HO := Lib.hid hO
    have HB := Lib.hid hB
    have HQ := Lib.hid hq
    have HT := Lib.hid hT
    have HQL := Lib.hid hqL
    have HQS := Lib.hid hqs
    have hsz9 : 1 ≤ sz ∧ sz ≤ 1012 := by omega
    have hol9 : M ≤ sz := by omega
    clear ZS hT hqL hq hqs hK hK2 hS hO hB hM hnq hrq htk hsz2 hK' hrel hol hsz hk2
    by_cases hlt : M < sz
    · have i2 : (M : Int) < (sz : Int) := by omega
      by_cases hn0 : nq = 0
      · have hd : Hid (T = (q, out, f)) := Lib.hid (by
          rw [← HT.out]
          exact fill_done _ _ _ _ (fun h => h.2 (List.length_eq_zero_iff.1 (by rw [← HNQ.out]; exact hn0))))
        have HN0 := Lib.hid hn0
        obtain ⟨m, hm⟩ : ∃ m, m = sz - M := ⟨_, rfl⟩
        obtain ⟨mm, hmm⟩ : ∃ mm, mm = max m 7 := ⟨_, rfl⟩
        have j1 : (sz : Int) - (M : Int) = (m : Int) := by omega
        have j3 : max (m : Int) 7 = (mm : Int) := by omega
        have hm9 : 1 ≤ m ∧ m ≤ 1012 := by omega
        have hmm9 : 7 ≤ mm ∧ mm ≤ 1012 ∧ m ≤ mm := by omega
        obtain ⟨idl, hidl⟩ : ∃ l, l = idleN m := ⟨_, rfl⟩
        have hidlen : idl.length = mm := by rw [hidl, idleN_len, hmm]
        have hip : idleP (mm : Int) = (idl, 0) := by
          have h9 := idleP_ok (mm - 6) (by omega) (by omega)
          rw [show (((mm - 6 : Nat) : Int) + 6) = (mm : Int) by omega] at h9
          rw [h9, hidl]
          unfold idleN
          rw [← hmm]
        have HIP := Lib.hid hip
        have HIL := Lib.hid hidlen
        have HCL : Hid (p.next = ({ q with rest := idl.drop m }, Option.some (out ++ idl.take m, if f = 2047 then (M : Int) else f))) := Lib.hid (by
          rw [HNX.out, hd.out, close_more _ _ _ (by rw [← HM.out, ← HSZ.out]; exact hlt), ← HM.out, ← HSZ.out, ← hm, ← hidl])
        have d3 : decide (0 < nq) = false := decide_eq_false (by omega)
        have j8 : ((M : Int) == (sz : Int)) = false := by rw [beq_eq_false_iff_ne]; omega
        have j9 : ¬ M = sz := by omega
        clear hm hmm hidl hidlen hip hn0
        have c0 := HK.out.at 0 rfl
        have c3 := HK.out.at 3 rfl
        have lB := HK.out.lt
        by_cases hf0 : f = 2047
        · have HP : Hid (p.next = ({ q with rest := idl.drop m }, Option.some (out ++ idl.take m, (M : Int)))) := Lib.hid (by rw [HCL.out, if_pos hf0])
          subst hf0
          go_wp2_with fail
          refine (ridle_call (mm : Int) _).mono ?_
          rw [HIP.out]
          rintro e9 w6 ⟨vi, rfl, hO6, hB6⟩
          obtain ⟨-, ai, ci, rfl, hci, hcm6, hA6⟩ := BAt.of_row hO6
          rw [HIL.out] at hci ⊢
          have HV6 := Lib.hid (BAt.take (l := idl) hA6 m).vat
          have HVI : Hid (∀ q, ai = Option.some q → wr.heap.size ≤ q.block) := Lib.hid (fun q9 h9 => (hO6.lt q9.block (by rw [h9]; rfl)).1)
          have htl : Hid ((idl.take m).length = m) := Lib.hid (by rw [List.length_take, HIL.out]; omega)
          have HK6 := Lib.hid (HK.out.below hB6 (Nat.le_refl _))
          have HK26 := Lib.hid (HK2.out.below hB6 (Nat.le_refl _))
          have HO6 := Lib.hid (own_below HO.out hB6 (Nat.le_refl _))
          have HB6 := Lib.hid (HB.out.trans (hB6.mono HB.out.size))
          clear hO6 hB6 hA6 c0 c3 lB
          have c2 := HK6.out.at 2 rfl
          have f2 := HK6.out.free 2
          have lB := HK6.out.lt
          have g1 : (m : Int) ≤ (mm : Int) := by omega
          have g2 : (mm : Int) ≤ 1012 := by omega
          have g3 : (0 : Int) ≤ (m : Int) := by omega
          have g4 : (m : Int) ≤ (ci : Int) := by omega
          go_upto_region 25 with fail
          obtain ⟨w9, hw9⟩ : ∃ w9, w9 = w6.setCell ⟨w.heap.size, 2, Option.none⟩ (.int .i64 ((mm : Int) - (m : Int))) := ⟨_, rfl⟩
          rw [← hw9]
          have hF9 : Fr (fun k => k = w.heap.size) w6 w9 := by rw [hw9]; exact (Fr.refl _ _).set1 _ (by exact .inl rfl)
          have HK9 : Hid (Blk w9 w.heap.size 44 [.int .i64 (sz : Int), .int .i64 (q.room : Int), .int .i64 ((mm : Int) - (m : Int)), .slice aq nq cq, .int .i64 (tk : Int)]) := Lib.hid (by rw [hw9]; exact Blk.cast (HK6.out.setCell 2 _) rfl)
          have HK29 := Lib.hid (HK26.out.fr hF9 (by omega))
          have HO9 := Lib.hid (own_fr HO6.out hF9 (fun k hk e => by have := (HO6.out.lt k hk).1; omega))
          have HB9 : Hid (Below w.heap.size w w9) := Lib.hid (HB6.out.trans (hF9.toBelow HB6.out.size (fun k hk => by omega)))
          have HV9 : Hid (VAt w9 ai (encB (idl.take m))) := Lib.hid (HV6.out.fr hF9 (fun q9 h9 e => by have := HVI.out q9 h9; have := HK.out.lt; omega))
          clear hw9 hF9 c2 f2 lB
          have hs9 : w.heap.size + 2 ≤ w9.heap.size := by have := HK29.out.lt; omega
          have x0 := HK9.out.at 0 rfl
          have x1 := HK9.out.at 1 rfl
          have x2 := HK9.out.at 2 rfl
          have x3 := HK9.out.at 3 rfl
          have x4 := HK9.out.at 4 rfl
          have xl := HK9.out.lt
          refine wp_region_held_drew (S := (fun w' => w'.cell? ⟨w.heap.size, 0, Option.none⟩ = Option.some (.int .i64 (sz : Int)) ∧ w'.cell? ⟨w.heap.size, 1, Option.none⟩ = Option.some (.int .i64 (q.room : Int)) ∧ w'.cell? ⟨w.heap.size, 2, Option.none⟩ = Option.some (.int .i64 ((mm : Int) - (m : Int))) ∧ w'.cell? ⟨w.heap.size, 3, Option.none⟩ = Option.some (.slice aq nq cq) ∧ w'.cell? ⟨w.heap.size, 4, Option.none⟩ = Option.some (.int .i64 (tk : Int)))) (by kernel_rfl) (by (try dsimp only); first | exact ⟨by with_reducible assumption, by with_reducible assumption, by with_reducible assumption, by with_reducible assumption, by with_reducible assumption⟩ | go_keep) (fun hHeld => ?_)
          refine wpAnyH_take (i := 0) (oi := (Oper.mk (some 132) (Op.load 44 (Operand.tmp 1)) 44 "ref.go:83" #[] none)) (v := ?_) rfl (by kernel_rfl) (by kernel_rfl) (by kernel_rfl) (fun _ _ _ h => h) (Or.inl ⟨by rfl, ?_⟩) (by assumption) ?_
          rotate_left
          · (intro w hSw; (try dsimp only at hSw); go_simp; first | done | with_reducible rfl)
          (try simp only [Act.put, List.setIfInBounds_toArray, List.set_cons_zero, List.set_cons_succ])
          refine wpAnyH_take (i := 1) (oi := (Oper.mk (some 133) (Op.move (Operand.tmp 10)) 22 "ref.go:83" #[] none)) (v := ?_) rfl (by kernel_rfl) (by kernel_rfl) (by kernel_rfl) (fun _ _ _ h => h) (Or.inl ⟨by rfl, ?_⟩) (by assumption) ?_
          rotate_left
          · (intro w hSw; (try dsimp only at hSw); go_simp; first | done | with_reducible rfl)
          (try simp only [Act.put, List.setIfInBounds_toArray, List.set_cons_zero, List.set_cons_succ])
          refine wpAnyH_take (i := 2) (oi := (Oper.mk (some 134) (Op.move (Operand.tmp 14)) 22 "ref.go:83" #[] none)) (v := ?_) rfl (by kernel_rfl) (by kernel_rfl) (by kernel_rfl) (fun _ _ _ h => h) (Or.inl ⟨by rfl, ?_⟩) (by assumption) ?_
          rotate_left
          · (intro w hSw; (try dsimp only at hSw); go_simp; first | done | with_reducible rfl)
          (try simp only [Act.put, List.setIfInBounds_toArray, List.set_cons_zero, List.set_cons_succ])
          refine wpAnyH_take (i := 3) (oi := (Oper.mk (some 135) (Op.move (Operand.tmp 13)) 3 "ref.go:83" #[] none)) (v := ?_) rfl (by kernel_rfl) (by kernel_rfl) (by kernel_rfl) (fun _ _ _ h => h) (Or.inl ⟨by rfl, ?_⟩) (by assumption) ?_
          rotate_left
          · (intro w hSw; (try dsimp only at hSw); go_simp; first | done | with_reducible rfl)
          (try simp only [Act.put, List.setIfInBounds_toArray, List.set_cons_zero, List.set_cons_succ])
          refine wpAnyH_take (i := 4) (oi := (Oper.mk (some 136) (Op.slice 22 (Operand.tmp 134) none (some (Operand.tmp 135)) none) 22 "ref.go:83" #[Edge.mk 2 Ground.data, Edge.mk 3 Ground.data] none)) (v := ?_) rfl (by kernel_rfl) (by kernel_rfl) (by kernel_rfl) (fun _ _ _ h => h) (Or.inl ⟨by rfl, ?_⟩) (by assumption) ?_
          rotate_left
          · (intro w hSw; (try dsimp only at hSw); go_simp; first | done | with_reducible rfl)
          (try simp only [Act.put, List.setIfInBounds_toArray, List.set_cons_zero, List.set_cons_succ])
          refine wpAnyH_take (i := 6) (oi := (Oper.mk (some 138) (Op.move (Operand.tmp 6)) 3 "ref.go:83" #[Edge.mk 8 (Ground.gcOnly Departure.lateStores)] none)) (v := ?_) rfl (by kernel_rfl) (by kernel_rfl) (by kernel_rfl) (fun _ _ _ h => h) (Or.inl ⟨by rfl, ?_⟩) (by assumption) ?_
          rotate_left
          · (intro w hSw; (try dsimp only at hSw); go_simp; first | done | with_reducible rfl)
          (try simp only [Act.put, List.setIfInBounds_toArray, List.set_cons_zero, List.set_cons_succ])
          refine wpAnyH_ready (rs := [5]) (by kernel_rfl) (by simp) ?_
          refine AllReadyH.cons (o := (Oper.mk (some 137) (Op.call (Call.mk (Callee.builtin Builtin.append) #[Operand.tmp 133, Operand.tmp 136] #[22, 22])) 22 "ref.go:83" #[Edge.mk 1 Ground.data, Edge.mk 4 Ground.data] none)) rfl (fun K hK => ?_) (AllReadyH.nil)
          (refine step_append_src _ (by rfl) (.tmp 133) (.tmp 136) 22 (by rfl) (w.heap.size + 2) 5 j0 (.int .u8 0) 1 Try.underlying22 HJ.out hy0 hy1 hy2 (by rfl) _ M (encB out) (by rfl) (show w9.drew.ownsRow (w.heap.size + 2) 5 1 (.slice ao M co) M (encB out) from HO9.out) ai m ci (encB (idl.take m)) (by rfl) (by rw [encB_length, htl.out]) (show VAt w9.drew ai (encB (idl.take m)) from HV9.out) (encB_one _) (by unfold maxLen; omega) (by omega) hs9 ?_; intro v8 w8 hown8 hgrow8 hblk8; have hb8 : Below (w.heap.size + 2) w9.drew w8 := (Below.refl _ _).grown hgrow8 hs9 (fun k hk => (HO9.out.lt k hk).1); have HK8 : Hid (Blk w8 w.heap.size 44 [.int .i64 (sz : Int), .int .i64 (q.room : Int), .int .i64 ((mm : Int) - (m : Int)), .slice aq nq cq, .int .i64 (tk : Int)]) := Lib.hid ((show Blk w9.drew w.heap.size 44 _ from HK9.out).same (hb8.block _ (by omega))); have HK28 : Hid (Blk w8 (w.heap.size + 1) 44 zcells) := Lib.hid ((show Blk w9.drew (w.heap.size + 1) 44 _ from HK29.out).same (hb8.block _ (by omega))); have HB8 : Hid (Below w.heap.size w w8) := Lib.hid ((HB9.out.drew).trans (hb8.mono (Nat.le_add_right _ _))); have HO8 := Lib.hid hown8; obtain ⟨a8, n8, c8, rfl⟩ := own_slice hown8; have y0 := HK8.out.at 0 rfl; have y1 := HK8.out.at 1 rfl; have y2 := HK8.out.at 2 rfl; have y3 := HK8.out.at 3 rfl; have y4 := HK8.out.at 4 rfl; have d0 := HK28.out.at 0 rfl; have d1 := HK28.out.at 1 rfl; have d2 := HK28.out.at 2 rfl; have d3' := HK28.out.at 3 rfl; have d4 := HK28.out.at 4 rfl; have f0 := HK28.out.free 0; have f1 := HK28.out.free 1; have f2 := HK28.out.free 2; have f3 := HK28.out.free 3; have f4 := HK28.out.free 4; have lR := HK28.out.lt; have hkf := HK8.out.fr (fin5_fr w8 (w.heap.size + 1) (.int .i64 (sz : Int)) (.int .i64 (q.room : Int)) (.int .i64 ((mm : Int) - (m : Int))) (.slice aq nq cq) (.int .i64 (tk : Int))) (by omega); unfold fin5 at hkf; have z0 := hkf.at 0 rfl; have z1 := hkf.at 1 rfl; have z2 := hkf.at 2 rfl; have z3 := hkf.at 3 rfl; have z4 := hkf.at 4 rfl; clear hkf hown8 hgrow8 hblk8 hb8)
          refine hK.out _ _ (by (try dsimp only); first | exact ⟨by with_reducible assumption, by with_reducible assumption, by with_reducible assumption, by with_reducible assumption, by with_reducible assumption⟩ | go_keep) (fun hHeld => ?_)
          clear hK K
          (try simp only [Act.put, List.setIfInBounds_toArray, List.set_cons_zero, List.set_cons_succ])
          refine wpAnyH_ready (rs := [7]) (by kernel_rfl) (by simp) ?_
          refine AllReadyH.cons (o := (Oper.mk none (Op.store 44 (Operand.tmp 2) (Operand.tmp 132)) 0 "ref.go:83" #[Edge.mk 0 Ground.data, Edge.mk 5 Ground.chain, Edge.mk 0 Ground.phase, Edge.mk 1 (Ground.textOnly Departure.lateStores), Edge.mk 2 (Ground.textOnly Departure.lateStores), Edge.mk 3 (Ground.textOnly Departure.lateStores), Edge.mk 4 (Ground.textOnly Departure.lateStoresUnsure), Edge.mk 5 (Ground.textOnly Departure.lateStoresUnsure), Edge.mk 6 (Ground.textOnly Departure.lateStores)] none)) rfl (fun K hK => ?_) (AllReadyH.nil)
          go_simp
          skip
          refine hK.out _ _ (by (try dsimp only); first | exact ⟨by with_reducible assumption, by with_reducible assumption, by with_reducible assumption, by with_reducible assumption, by with_reducible assumption⟩ | go_keep) (fun hHeld => ?_)
          clear hK K
          (try simp only [Act.put, List.setIfInBounds_toArray, List.set_cons_zero, List.set_cons_succ])
          refine wpAnyH_take (i := 8) (oi := (Oper.mk (some 3) (Op.assign (Operand.tmp 137)) 22 "ref.go:83" #[Edge.mk 5 Ground.data, Edge.mk 7 Ground.chain, Edge.mk 0 Ground.phase, Edge.mk 1 Ground.phase, Edge.mk 2 Ground.phase, Edge.mk 3 Ground.phase, Edge.mk 4 Ground.phase, Edge.mk 5 Ground.phase, Edge.mk 6 (Ground.textOnly Departure.lateStores), Edge.mk 7 Ground.phase] none)) (v := ?_) rfl (by kernel_rfl) (by kernel_rfl) (by kernel_rfl) (fun _ _ _ h => h) (Or.inl ⟨by rfl, ?_⟩) (by assumption) ?_
          rotate_left
          · (intro w hSw; (try dsimp only at hSw); go_simp; first | done | with_reducible rfl)
          (try simp only [Act.put, List.setIfInBounds_toArray, List.set_cons_zero, List.set_cons_succ])
          refine wpAnyH_take (i := 9) (oi := (Oper.mk (some 4) (Op.assign (Operand.tmp 138)) 3 "ref.go:83" #[Edge.mk 6 Ground.data, Edge.mk 8 Ground.chain, Edge.mk 0 Ground.phase, Edge.mk 1 Ground.phase, Edge.mk 2 Ground.phase, Edge.mk 3 Ground.phase, Edge.mk 4 Ground.phase, Edge.mk 5 Ground.phase, Edge.mk 6 Ground.phase, Edge.mk 7 Ground.phase, Edge.mk 8 Ground.phase] none)) (v := ?_) rfl (by kernel_rfl) (by kernel_rfl) (by kernel_rfl) (fun _ _ _ h => h) (Or.inl ⟨by rfl, ?_⟩) (by assumption) ?_
          rotate_left
          · (intro w hSw; (try dsimp only at hSw); go_simp; first | done | with_reducible rfl)
          (try simp only [Act.put, List.setIfInBounds_toArray, List.set_cons_zero, List.set_cons_succ])
          refine wpAnyH_take (i := 10) (oi := (Oper.mk (some 5) (Op.assign (Operand.const (Value.bool true))) 4 "ref.go:83" #[Edge.mk 9 Ground.chain, Edge.mk 0 Ground.phase, Edge.mk 1 Ground.phase, Edge.mk 2 Ground.phase, Edge.mk 3 Ground.phase, Edge.mk 4 Ground.phase, Edge.mk 5 Ground.phase, Edge.mk 6 Ground.phase, Edge.mk 7 Ground.phase, Edge.mk 8 Ground.phase, Edge.mk 9 Ground.phase] none)) (v := ?_) rfl (by kernel_rfl) (by kernel_rfl) (by kernel_rfl) (fun _ _ _ h => h) (Or.inl ⟨by rfl, ?_⟩) (by assumption) ?_
          rotate_left
          · (intro w hSw; (try dsimp only at hSw); go_simp; first | done | with_reducible rfl)
          (try simp only [Act.put, List.setIfInBounds_toArray, List.set_cons_zero, List.set_cons_succ])
          refine wpAnyH_done (by kernel_rfl) ?_ _
          clear x0 x1 x2 x3 x4 xl y0 y1 y2 y3 y4 z0 z1 z2 z3 z4
          have b9 := fin5_blk HK28.out (.int .i64 (sz : Int)) (.int .i64 (q.room : Int)) (.int .i64 ((mm : Int) - (m : Int))) (.slice aq nq cq) (.int .i64 (tk : Int))
          unfold fin5 at b9
          have b0 := b9.at 0 rfl
          have b1 := b9.at 1 rfl
          have b2 := b9.at 2 rfl
          have b3 := b9.at 3 rfl
          have b4 := b9.at 4 rfl
          go_wp2_with fail
          have hv : RPV { q with rest := idl.drop m } (.slice aq nq cq) = .agg #[.int .i64 (sz : Int), .int .i64 (q.room : Int), .int .i64 ((mm : Int) - (m : Int)), .slice aq nq cq, .int .i64 (tk : Int)] := by
            have h9 : (((idl.drop m).length : Nat) : Int) = (mm : Int) - (m : Int) := by rw [List.length_drop, HIL.out]; omega
            unfold RPV
            dsimp only
            rw [HSZ.out, HTK.out, h9]
          refine bodyPost_ret (v := .tuple #[.agg #[.int .i64 (sz : Int), .int .i64 (q.room : Int), .int .i64 ((mm : Int) - (m : Int)), .slice aq nq cq, .int .i64 (tk : Int)], .slice a8 n8 c8, .int .i64 (M : Int), .bool true]) (by simp [results, Try.results21, go_sem, b0, b1, b2, b3, b4]) rfl ?_
          rw [← hv]
          exact RNQ.some (n := M + m) HP.out HS.out HB8.out (by rw [List.length_append, ← HM.out, htl.out]) (by rw [encB_append]; exact HO8.out) _ _ _ _ _
        · have j5 : (f == 2047) = false := by rw [beq_eq_false_iff_ne]; exact hf0
          have HP : Hid (p.next = ({ q with rest := idl.drop m }, Option.some (out ++ idl.take m, f))) := Lib.hid (by rw [HCL.out, if_neg hf0])
          go_wp2_with fail
          refine (ridle_call (mm : Int) _).mono ?_
          rw [HIP.out]
          rintro e9 w6 ⟨vi, rfl, hO6, hB6⟩
          obtain ⟨-, ai, ci, rfl, hci, hcm6, hA6⟩ := BAt.of_row hO6
          rw [HIL.out] at hci ⊢
          have HV6 := Lib.hid (BAt.take (l := idl) hA6 m).vat
          have HVI : Hid (∀ q, ai = Option.some q → wr.heap.size ≤ q.block) := Lib.hid (fun q9 h9 => (hO6.lt q9.block (by rw [h9]; rfl)).1)
          have htl : Hid ((idl.take m).length = m) := Lib.hid (by rw [List.length_take, HIL.out]; omega)
          have HK6 := Lib.hid (HK.out.below hB6 (Nat.le_refl _))
          have HK26 := Lib.hid (HK2.out.below hB6 (Nat.le_refl _))
          have HO6 := Lib.hid (own_below HO.out hB6 (Nat.le_refl _))
          have HB6 := Lib.hid (HB.out.trans (hB6.mono HB.out.size))
          clear hO6 hB6 hA6 c0 c3 lB
          have c2 := HK6.out.at 2 rfl
          have f2 := HK6.out.free 2
          have lB := HK6.out.lt
          have g1 : (m : Int) ≤ (mm : Int) := by omega
          have g2 : (mm : Int) ≤ 1012 := by omega
          have g3 : (0 : Int) ≤ (m : Int) := by omega
          have g4 : (m : Int) ≤ (ci : Int) := by omega
          go_upto_region 25 with fail
          obtain ⟨w9, hw9⟩ : ∃ w9, w9 = w6.setCell ⟨w.heap.size, 2, Option.none⟩ (.int .i64 ((mm : Int) - (m : Int))) := ⟨_, rfl⟩
          rw [← hw9]
          have hF9 : Fr (fun k => k = w.heap.size) w6 w9 := by rw [hw9]; exact (Fr.refl _ _).set1 _ (by exact .inl rfl)
          have HK9 : Hid (Blk w9 w.heap.size 44 [.int .i64 (sz : Int), .int .i64 (q.room : Int), .int .i64 ((mm : Int) - (m : Int)), .slice aq nq cq, .int .i64 (tk : Int)]) := Lib.hid (by rw [hw9]; exact Blk.cast (HK6.out.setCell 2 _) rfl)
          have HK29 := Lib.hid (HK26.out.fr hF9 (by omega))
          have HO9 := Lib.hid (own_fr HO6.out hF9 (fun k hk e => by have := (HO6.out.lt k hk).1; omega))
          have HB9 : Hid (Below w.heap.size w w9) := Lib.hid (HB6.out.trans (hF9.toBelow HB6.out.size (fun k hk => by omega)))
          have HV9 : Hid (VAt w9 ai (encB (idl.take m))) := Lib.hid (HV6.out.fr hF9 (fun q9 h9 e => by have := HVI.out q9 h9; have := HK.out.lt; omega))
          clear hw9 hF9 c2 f2 lB
          have hs9 : w.heap.size + 2 ≤ w9.heap.size := by have := HK29.out.lt; omega
          have x0 := HK9.out.at 0 rfl
          have x1 := HK9.out.at 1 rfl
          have x2 := HK9.out.at 2 rfl
          have x3 := HK9.out.at 3 rfl
          have x4 := HK9.out.at 4 rfl
          have xl := HK9.out.lt
          refine wp_region_held_drew (S := (fun w' => w'.cell? ⟨w.heap.size, 0, Option.none⟩ = Option.some (.int .i64 (sz : Int)) ∧ w'.cell? ⟨w.heap.size, 1, Option.none⟩ = Option.some (.int .i64 (q.room : Int)) ∧ w'.cell? ⟨w.heap.size, 2, Option.none⟩ = Option.some (.int .i64 ((mm : Int) - (m : Int))) ∧ w'.cell? ⟨w.heap.size, 3, Option.none⟩ = Option.some (.slice aq nq cq) ∧ w'.cell? ⟨w.heap.size, 4, Option.none⟩ = Option.some (.int .i64 (tk : Int)))) (by kernel_rfl) (by (try dsimp only); first | exact ⟨by with_reducible assumption, by with_reducible assumption, by with_reducible assumption, by with_reducible assumption, by with_reducible assumption⟩ | go_keep) (fun hHeld => ?_)
          refine wpAnyH_take (i := 0) (oi := (Oper.mk (some 132) (Op.load 44 (Operand.tmp 1)) 44 "ref.go:83" #[] none)) (v := ?_) rfl (by kernel_rfl) (by kernel_rfl) (by kernel_rfl) (fun _ _ _ h => h) (Or.inl ⟨by rfl, ?_⟩) (by assumption) ?_
          rotate_left
          · (intro w hSw; (try dsimp only at hSw); go_simp; first | done | with_reducible rfl)
          (try simp only [Act.put, List.setIfInBounds_toArray, List.set_cons_zero, List.set_cons_succ])
          refine wpAnyH_take (i := 1) (oi := (Oper.mk (some 133) (Op.move (Operand.tmp 10)) 22 "ref.go:83" #[] none)) (v := ?_) rfl (by kernel_rfl) (by kernel_rfl) (by kernel_rfl) (fun _ _ _ h => h) (Or.inl ⟨by rfl, ?_⟩) (by assumption) ?_
          rotate_left
          · (intro w hSw; (try dsimp only at hSw); go_simp; first | done | with_reducible rfl)
          (try simp only [Act.put, List.setIfInBounds_toArray, List.set_cons_zero, List.set_cons_succ])
          refine wpAnyH_take (i := 2) (oi := (Oper.mk (some 134) (Op.move (Operand.tmp 14)) 22 "ref.go:83" #[] none)) (v := ?_) rfl (by kernel_rfl) (by kernel_rfl) (by kernel_rfl) (fun _ _ _ h => h) (Or.inl ⟨by rfl, ?_⟩) (by assumption) ?_
          rotate_left
          · (intro w hSw; (try dsimp only at hSw); go_simp; first | done | with_reducible rfl)
          (try simp only [Act.put, List.setIfInBounds_toArray, List.set_cons_zero, List.set_cons_succ])
          refine wpAnyH_take (i := 3) (oi := (Oper.mk (some 135) (Op.move (Operand.tmp 13)) 3 "ref.go:83" #[] none)) (v := ?_) rfl (by kernel_rfl) (by kernel_rfl) (by kernel_rfl) (fun _ _ _ h => h) (Or.inl ⟨by rfl, ?_⟩) (by assumption) ?_
          rotate_left
          · (intro w hSw; (try dsimp only at hSw); go_simp; first | done | with_reducible rfl)
          (try simp only [Act.put, List.setIfInBounds_toArray, List.set_cons_zero, List.set_cons_succ])
          refine wpAnyH_take (i := 4) (oi := (Oper.mk (some 136) (Op.slice 22 (Operand.tmp 134) none (some (Operand.tmp 135)) none) 22 "ref.go:83" #[Edge.mk 2 Ground.data, Edge.mk 3 Ground.data] none)) (v := ?_) rfl (by kernel_rfl) (by kernel_rfl) (by kernel_rfl) (fun _ _ _ h => h) (Or.inl ⟨by rfl, ?_⟩) (by assumption) ?_
          rotate_left
          · (intro w hSw; (try dsimp only at hSw); go_simp; first | done | with_reducible rfl)
          (try simp only [Act.put, List.setIfInBounds_toArray, List.set_cons_zero, List.set_cons_succ])
          refine wpAnyH_take (i := 6) (oi := (Oper.mk (some 138) (Op.move (Operand.tmp 6)) 3 "ref.go:83" #[Edge.mk 8 (Ground.gcOnly Departure.lateStores)] none)) (v := ?_) rfl (by kernel_rfl) (by kernel_rfl) (by kernel_rfl) (fun _ _ _ h => h) (Or.inl ⟨by rfl, ?_⟩) (by assumption) ?_
          rotate_left
          · (intro w hSw; (try dsimp only at hSw); go_simp; first | done | with_reducible rfl)
          (try simp only [Act.put, List.setIfInBounds_toArray, List.set_cons_zero, List.set_cons_succ])
          refine wpAnyH_ready (rs := [5]) (by kernel_rfl) (by simp) ?_
          refine AllReadyH.cons (o := (Oper.mk (some 137) (Op.call (Call.mk (Callee.builtin Builtin.append) #[Operand.tmp 133, Operand.tmp 136] #[22, 22])) 22 "ref.go:83" #[Edge.mk 1 Ground.data, Edge.mk 4 Ground.data] none)) rfl (fun K hK => ?_) (AllReadyH.nil)
          (refine step_append_src _ (by rfl) (.tmp 133) (.tmp 136) 22 (by rfl) (w.heap.size + 2) 5 j0 (.int .u8 0) 1 Try.underlying22 HJ.out hy0 hy1 hy2 (by rfl) _ M (encB out) (by rfl) (show w9.drew.ownsRow (w.heap.size + 2) 5 1 (.slice ao M co) M (encB out) from HO9.out) ai m ci (encB (idl.take m)) (by rfl) (by rw [encB_length, htl.out]) (show VAt w9.drew ai (encB (idl.take m)) from HV9.out) (encB_one _) (by unfold maxLen; omega) (by omega) hs9 ?_; intro v8 w8 hown8 hgrow8 hblk8; have hb8 : Below (w.heap.size + 2) w9.drew w8 := (Below.refl _ _).grown hgrow8 hs9 (fun k hk => (HO9.out.lt k hk).1); have HK8 : Hid (Blk w8 w.heap.size 44 [.int .i64 (sz : Int), .int .i64 (q.room : Int), .int .i64 ((mm : Int) - (m : Int)), .slice aq nq cq, .int .i64 (tk : Int)]) := Lib.hid ((show Blk w9.drew w.heap.size 44 _ from HK9.out).same (hb8.block _ (by omega))); have HK28 : Hid (Blk w8 (w.heap.size + 1) 44 zcells) := Lib.hid ((show Blk w9.drew (w.heap.size + 1) 44 _ from HK29.out).same (hb8.block _ (by omega))); have HB8 : Hid (Below w.heap.size w w8) := Lib.hid ((HB9.out.drew).trans (hb8.mono (Nat.le_add_right _ _))); have HO8 := Lib.hid hown8; obtain ⟨a8, n8, c8, rfl⟩ := own_slice hown8; have y0 := HK8.out.at 0 rfl; have y1 := HK8.out.at 1 rfl; have y2 := HK8.out.at 2 rfl; have y3 := HK8.out.at 3 rfl; have y4 := HK8.out.at 4 rfl; have d0 := HK28.out.at 0 rfl; have d1 := HK28.out.at 1 rfl; have d2 := HK28.out.at 2 rfl; have d3' := HK28.out.at 3 rfl; have d4 := HK28.out.at 4 rfl; have f0 := HK28.out.free 0; have f1 := HK28.out.free 1; have f2 := HK28.out.free 2; have f3 := HK28.out.free 3; have f4 := HK28.out.free 4; have lR := HK28.out.lt; have hkf := HK8.out.fr (fin5_fr w8 (w.heap.size + 1) (.int .i64 (sz : Int)) (.int .i64 (q.room : Int)) (.int .i64 ((mm : Int) - (m : Int))) (.slice aq nq cq) (.int .i64 (tk : Int))) (by omega); unfold fin5 at hkf; have z0 := hkf.at 0 rfl; have z1 := hkf.at 1 rfl; have z2 := hkf.at 2 rfl; have z3 := hkf.at 3 rfl; have z4 := hkf.at 4 rfl; clear hkf hown8 hgrow8 hblk8 hb8)
          refine hK.out _ _ (by (try dsimp only); first | exact ⟨by with_reducible assumption, by with_reducible assumption, by with_reducible assumption, by with_reducible assumption, by with_reducible assumption⟩ | go_keep) (fun hHeld => ?_)
          clear hK K
          (try simp only [Act.put, List.setIfInBounds_toArray, List.set_cons_zero, List.set_cons_succ])
          refine wpAnyH_ready (rs := [7]) (by kernel_rfl) (by simp) ?_
          refine AllReadyH.cons (o := (Oper.mk none (Op.store 44 (Operand.tmp 2) (Operand.tmp 132)) 0 "ref.go:83" #[Edge.mk 0 Ground.data, Edge.mk 5 Ground.chain, Edge.mk 0 Ground.phase, Edge.mk 1 (Ground.textOnly Departure.lateStores), Edge.mk 2 (Ground.textOnly Departure.lateStores), Edge.mk 3 (Ground.textOnly Departure.lateStores), Edge.mk 4 (Ground.textOnly Departure.lateStoresUnsure), Edge.mk 5 (Ground.textOnly Departure.lateStoresUnsure), Edge.mk 6 (Ground.textOnly Departure.lateStores)] none)) rfl (fun K hK => ?_) (AllReadyH.nil)
          go_simp
          skip
          refine hK.out _ _ (by (try dsimp only); first | exact ⟨by with_reducible assumption, by with_reducible assumption, by with_reducible assumption, by with_reducible assumption, by with_reducible assumption⟩ | go_keep) (fun hHeld => ?_)
          clear hK K
          (try simp only [Act.put, List.setIfInBounds_toArray, List.set_cons_zero, List.set_cons_succ])
          refine wpAnyH_take (i := 8) (oi := (Oper.mk (some 3) (Op.assign (Operand.tmp 137)) 22 "ref.go:83" #[Edge.mk 5 Ground.data, Edge.mk 7 Ground.chain, Edge.mk 0 Ground.phase, Edge.mk 1 Ground.phase, Edge.mk 2 Ground.phase, Edge.mk 3 Ground.phase, Edge.mk 4 Ground.phase, Edge.mk 5 Ground.phase, Edge.mk 6 (Ground.textOnly Departure.lateStores), Edge.mk 7 Ground.phase] none)) (v := ?_) rfl (by kernel_rfl) (by kernel_rfl) (by kernel_rfl) (fun _ _ _ h => h) (Or.inl ⟨by rfl, ?_⟩) (by assumption) ?_
          rotate_left
          · (intro w hSw; (try dsimp only at hSw); go_simp; first | done | with_reducible rfl)
          (try simp only [Act.put, List.setIfInBounds_toArray, List.set_cons_zero, List.set_cons_succ])
          refine wpAnyH_take (i := 9) (oi := (Oper.mk (some 4) (Op.assign (Operand.tmp 138)) 3 "ref.go:83" #[Edge.mk 6 Ground.data, Edge.mk 8 Ground.chain, Edge.mk 0 Ground.phase, Edge.mk 1 Ground.phase, Edge.mk 2 Ground.phase, Edge.mk 3 Ground.phase, Edge.mk 4 Ground.phase, Edge.mk 5 Ground.phase, Edge.mk 6 Ground.phase, Edge.mk 7 Ground.phase, Edge.mk 8 Ground.phase] none)) (v := ?_) rfl (by kernel_rfl) (by kernel_rfl) (by kernel_rfl) (fun _ _ _ h => h) (Or.inl ⟨by rfl, ?_⟩) (by assumption) ?_
          rotate_left
          · (intro w hSw; (try dsimp only at hSw); go_simp; first | done | with_reducible rfl)
          (try simp only [Act.put, List.setIfInBounds_toArray, List.set_cons_zero, List.set_cons_succ])
          refine wpAnyH_take (i := 10) (oi := (Oper.mk (some 5) (Op.assign (Operand.const (Value.bool true))) 4 "ref.go:83" #[Edge.mk 9 Ground.chain, Edge.mk 0 Ground.phase, Edge.mk 1 Ground.phase, Edge.mk 2 Ground.phase, Edge.mk 3 Ground.phase, Edge.mk 4 Ground.phase, Edge.mk 5 Ground.phase, Edge.mk 6 Ground.phase, Edge.mk 7 Ground.phase, Edge.mk 8 Ground.phase, Edge.mk 9 Ground.phase] none)) (v := ?_) rfl (by kernel_rfl) (by kernel_rfl) (by kernel_rfl) (fun _ _ _ h => h) (Or.inl ⟨by rfl, ?_⟩) (by assumption) ?_
          rotate_left
          · (intro w hSw; (try dsimp only at hSw); go_simp; first | done | with_reducible rfl)
          (try simp only [Act.put, List.setIfInBounds_toArray, List.set_cons_zero, List.set_cons_succ])
          refine wpAnyH_done (by kernel_rfl) ?_ _
          clear x0 x1 x2 x3 x4 xl y0 y1 y2 y3 y4 z0 z1 z2 z3 z4
          have b9 := fin5_blk HK28.out (.int .i64 (sz : Int)) (.int .i64 (q.room : Int)) (.int .i64 ((mm : Int) - (m : Int))) (.slice aq nq cq) (.int .i64 (tk : Int))
          unfold fin5 at b9
          have b0 := b9.at 0 rfl
          have b1 := b9.at 1 rfl
          have b2 := b9.at 2 rfl
          have b3 := b9.at 3 rfl
          have b4 := b9.at 4 rfl
          go_wp2_with fail
          have hv : RPV { q with rest := idl.drop m } (.slice aq nq cq) = .agg #[.int .i64 (sz : Int), .int .i64 (q.room : Int), .int .i64 ((mm : Int) - (m : Int)), .slice aq nq cq, .int .i64 (tk : Int)] := by
            have h9 : (((idl.drop m).length : Nat) : Int) = (mm : Int) - (m : Int) := by rw [List.length_drop, HIL.out]; omega
            unfold RPV
            dsimp only
            rw [HSZ.out, HTK.out, h9]
          refine bodyPost_ret (v := .tuple #[.agg #[.int .i64 (sz : Int), .int .i64 (q.room : Int), .int .i64 ((mm : Int) - (m : Int)), .slice aq nq cq, .int .i64 (tk : Int)], .slice a8 n8 c8, .int .i64 f, .bool true]) (by simp [results, Try.results21, go_sem, b0, b1, b2, b3, b4]) rfl ?_
          rw [← hv]
          exact RNQ.some (n := M + m) HP.out HS.out HB8.out (by rw [List.length_append, ← HM.out, htl.out]) (by rw [encB_append]; exact HO8.out) _ _ _ _ _
      · obtain ⟨x, xs, hL⟩ : ∃ x xs, q.L = x :: xs := by
          cases e : q.L with
          | nil => exact absurd (by rw [HNQ.out, e]; rfl) hn0
          | cons x xs => exact ⟨x, xs, rfl⟩
        have hn1 : nq = xs.length + 1 := by rw [HNQ.out, hL]; rfl
        have hSL := HS.out
        rw [hL] at hSL
        obtain ⟨bL, oL, cp9, ax, cx, e9, -, -, hbL, hcell, hcx, hcxm, hax, -⟩ := hSL.get (i := 0) (by simp)
        simp only [Value.slice.injEq] at e9
        obtain ⟨rfl, -, -⟩ := e9
        simp only [List.getElem_cons_zero, Nat.add_zero] at hcell hcx hax
        have htkx := HQ.out.taken x xs hL
        rw [← HTK.out] at htkx
        have hxl := (HQ.out.each x (by rw [hL]; simp)).2
        obtain ⟨xl, hxl2⟩ : ∃ k, k = x.length := ⟨_, rfl⟩
        rw [← hxl2] at hcell hcx htkx hxl
        obtain ⟨bx, ox, rfl⟩ : ∃ bx ox, ax = Option.some ⟨bx, ox, Option.none⟩ := by
          rcases hax with h9 | ⟨b9, o9, h9, -⟩
          · rw [h9] at hxl2; simp at hxl2; omega
          · exact ⟨b9, o9, h9⟩
        have cL : wr.cell? ⟨bL, oL, Option.none⟩ = Option.some (.slice (Option.some ⟨bx, ox, Option.none⟩) xl cx) := (HB.out.cell (p := ⟨bL, oL, Option.none⟩) hbL).trans hcell
        have HCL0 := Lib.hid hcell
        have HBL := Lib.hid hbL
        have HX := Lib.hid hax
        have HL := Lib.hid hL
        have HXL := Lib.hid hxl2
        have HTAIL := Lib.hid hSL.tail
        obtain ⟨r, hr⟩ : ∃ r, r = xl - tk := ⟨_, rfl⟩
        obtain ⟨rm, hrm⟩ : ∃ rm, rm = sz - M := ⟨_, rfl⟩
        obtain ⟨cd, hcd⟩ : ∃ cd, cd = cx - tk := ⟨_, rfl⟩
        have HR := Lib.hid hr
        have HRM := Lib.hid hrm
        have HCD := Lib.hid hcd
        have j1 : (sz : Int) - (M : Int) = (rm : Int) := by omega
        have d3 : decide (0 < nq) = true := decide_eq_true (by omega)
        have g0 : (0 : Int) ≤ (tk : Int) := by omega
        have g1 : (tk : Int) ≤ (xl : Int) := by omega
        have g2 : (0 : Int) < (nq : Int) := by omega
        have g3 : (xl : Int) ≤ 4096 := by omega
        have g4 : ¬ (cx : Int) = (tk : Int) := by omega
        have g5 : ¬ cx = tk := by omega
        have g6 : (tk : Int) ≤ (cx : Int) := by omega
        have g7 : 0 < nq := by omega
        have g8 : (nq : Int) ≤ 200000 := by omega
        have c0 := HK.out.at 0 rfl
        have c3 := HK.out.at 3 rfl
        have c4 := HK.out.at 4 rfl
        have f4 := HK.out.free 4
        have lB := HK.out.lt
        have hrp : 1 ≤ r ∧ r ≤ 4096 := by omega
        have hrmp : 1 ≤ rm ∧ rm ≤ 1012 := by omega
        have hrd : r ≤ cd := by omega
        have HN1 := Lib.hid hn1
        clear hn0 hn1 hL hSL hbL hcell hax hxl2 hrm hlt
        by_cases ht0 : tk = 0
        · have i5 : ((tk : Int) == 0) = true := by rw [ht0]; rfl
          have HT0 := Lib.hid ht0
          clear ht0
          by_cases hf0 : f = 2047
          · have HFV : Hid (firstP q out f = (M : Int)) := Lib.hid (by unfold firstP; rw [if_pos ⟨by rw [← HTK.out]; exact HT0.out, hf0⟩, HM.out])
            subst hf0
            go_upto_region 11 with fail
            clear i5 hr hcd
            obtain ⟨nL, rfl⟩ : ∃ k, k = nq := ⟨_, rfl⟩
            go_upto_region 12 with (go_quiet (fail))
            obtain ⟨w6, hw6⟩ : ∃ w6, w6 = wr.drewN nq := ⟨_, rfl⟩
            rw [← hw6, ← HR.out, ← HCD.out]
            have hq6 : Quiet wr w6 := by rw [hw6]; exact ⟨nq, rfl⟩
            have HK6 := Lib.hid (HK.out.below hq6.below (Nat.le_refl _))
            have HK26 := Lib.hid (HK2.out.below hq6.below (Nat.le_refl _))
            have HO6 := Lib.hid (own_below HO.out hq6.below (Nat.le_refl _))
            have HB6 := Lib.hid (HB.out.trans (hq6.below.mono HB.out.size))
            clear hw6 hq6 c0 c3 c4 cL f4 lB
            have c0 := HK6.out.at 0 rfl
            have lB := HK6.out.lt
            obtain ⟨kk, hkk⟩ : ∃ kk, kk = min r rm := ⟨_, rfl⟩
            have j5 : min (r : Int) (rm : Int) = (kk : Int) := by omega
            have hkk9 : 1 ≤ kk ∧ kk ≤ r ∧ kk ≤ rm := by omega
            have HKK := Lib.hid hkk
            have HBX : Hid ((encB ((x.drop tk).take kk)).length = kk) := Lib.hid (by rw [encB_length, List.length_take, List.length_drop, ← HXL.out, ← HR.out]; omega)
            have HVX : Hid (VAt w6 (Option.some ⟨bx, ox + tk, Option.none⟩) (encB ((x.drop tk).take kk))) := Lib.hid ((((HX.out.below HB6.out (Nat.le_refl _)).drop tk).take kk).vat)
            have hs6' : w.heap.size + 2 ≤ w6.heap.size := by have := HK26.out.lt; omega
            have g9 : (0 : Int) ≤ (kk : Int) := by omega
            have g10 : (kk : Int) ≤ (cd : Int) := by omega
            clear hkk
            go_wp2_with (at_builtin; refine wpList_append_src _ rfl (.tmp 81) (.tmp 84) 22 rfl (w.heap.size + 2) 5 j0 (.int .u8 0) 1 Try.underlying22 HJ.out hy0 hy1 hy2 (by rfl) _ M (encB out) rfl HO6.out (Option.some ⟨bx, ox + tk, Option.none⟩) kk cd (encB ((x.drop tk).take kk)) rfl HBX.out HVX.out (encB_one _) (by unfold maxLen; omega) (by omega) hs6' ?_)
            intro v9 w8 hown hgrow hblk
            have hb8 : Below (w.heap.size + 2) w6 w8 := (Below.refl _ _).grown hgrow hs6' (fun k hk => (HO6.out.lt k hk).1)
            have HO8 := Lib.hid hown
            have HK8 := Lib.hid (HK6.out.same (hb8.block _ (by omega)))
            have HK28 := Lib.hid (HK26.out.same (hb8.block _ (by omega)))
            have HB8 := Lib.hid (HB6.out.trans (hb8.mono (Nat.le_add_right _ _)))
            clear hown hgrow hblk hb8 c0 lB hs6'
            have c4 := HK8.out.at 4 rfl
            have f4 := HK8.out.free 4
            have lB := HK8.out.lt
            obtain ⟨tk2, htk2⟩ : ∃ k, k = tk + kk := ⟨_, rfl⟩
            have j6 : (tk : Int) + (kk : Int) = (tk2 : Int) := by omega
            have HTK2 := Lib.hid htk2
            clear htk2
            go_upto_region 15 with fail
            obtain ⟨w9, hw9⟩ : ∃ w9, w9 = w8.setCell ⟨w.heap.size, 4, Option.none⟩ (.int .i64 (tk2 : Int)) := ⟨_, rfl⟩
            rw [← hw9]
            have hF9 : Fr (fun k => k = w.heap.size) w8 w9 := by rw [hw9]; exact (Fr.refl _ _).set1 _ (by exact .inl rfl)
            have HK9 : Hid (Blk w9 w.heap.size 44 [.int .i64 (sz : Int), .int .i64 (q.room : Int), .int .i64 (rq : Int), .slice (Option.some ⟨bL, oL, Option.none⟩) nL cq, .int .i64 (tk2 : Int)]) := Lib.hid (by rw [hw9]; exact Blk.cast (HK8.out.setCell 4 _) rfl)
            have HK29 := Lib.hid (HK28.out.fr hF9 (by omega))
            have HO9 := Lib.hid (own_fr HO8.out hF9 (fun k hk e => by have := (HO8.out.lt k hk).1; omega))
            have HB9 : Hid (Below w.heap.size w w9) := Lib.hid (HB8.out.trans (hF9.toBelow HB8.out.size (fun k hk => by omega)))
            clear hw9 hF9 c4 f4 lB
            have c3 := HK9.out.at 3 rfl
            have c4 := HK9.out.at 4 rfl
            have lB := HK9.out.lt
            have cL : w9.cell? ⟨bL, oL, Option.none⟩ = Option.some (.slice (Option.some ⟨bx, ox, Option.none⟩) xl cx) := (HB9.out.cell (p := ⟨bL, oL, Option.none⟩) HBL.out).trans HCL0.out
            by_cases hfull : kk = r
            · have i7 : ((tk2 : Int) == (xl : Int)) = true := by rw [beq_iff_eq]; have := HTK2.out; have := HR.out; omega
              have HTAKE : Hid (q.take (q.size - out.length) = ({ q with L := xs, taken := 0, left := q.left - r }, (x.drop tk).take kk)) := Lib.hid (by
                have h1 := HRM.out
                have h2 := HKK.out
                unfold PS.take
                rw [HL.out]
                dsimp only
                rw [← HSZ.out, ← HM.out, ← HTK.out, ← HXL.out, ← HR.out, if_neg (by omega), List.take_of_length_le (by rw [List.length_drop, ← HXL.out, ← HR.out]; omega)])
              go_upto_region 16 with (go_quiet (fail))
              obtain ⟨w11, hw11⟩ : ∃ w11, w11 = w9.drewN nq := ⟨_, rfl⟩
              rw [← hw11]
              have hq11 : Quiet w9 w11 := by rw [hw11]; exact ⟨nq, rfl⟩
              have HK11 := Lib.hid (HK9.out.below hq11.below (Nat.le_refl _))
              have HK211 := Lib.hid (HK29.out.below hq11.below (Nat.le_refl _))
              have HO11 := Lib.hid (own_below HO9.out hq11.below (Nat.le_refl _))
              have HB11 := Lib.hid (HB9.out.trans (hq11.below.mono HB9.out.size))
              clear hw11 hq11 c3 c4 lB cL i7
              have c3 := HK11.out.at 3 rfl
              have c4 := HK11.out.at 4 rfl
              have f3 := HK11.out.free 3
              have f4 := HK11.out.free 4
              have lB := HK11.out.lt
              by_cases hc1 : cq = 1
              · have q2 : (cq : Int) = 1 := by omega
                have HV : Hid (SAt w S (.slice (Option.some ⟨bL, oL, Option.none⟩) 0 0) xs) := Lib.hid (by
                  have h1 := HN1.out
                  obtain rfl : xs = [] := List.length_eq_zero_iff.1 (by omega)
                  exact SAt.empty w S _)
                subst hc1
                have q4 : nL = 1 := by have := HN1.out; omega
                subst q4
                go_wp2_with fail
                obtain ⟨w12, hw12⟩ : ∃ w12, w12 = (w11.setCell ⟨w.heap.size, 3, Option.none⟩ (.slice (Option.some ⟨bL, oL, Option.none⟩) 0 0)).setCell ⟨w.heap.size, 4, Option.none⟩ (.int .i64 0) := ⟨_, rfl⟩
                rw [← hw12]
                have hF12 : Fr (fun k => k = w.heap.size) w11 w12 := by rw [hw12]; exact ((Fr.refl _ _).set1 _ (by exact .inl rfl)).set1 _ (by exact .inl rfl)
                have HK12 : Hid (Blk w12 w.heap.size 44 (rpcells { q with L := xs, taken := 0, left := q.left - r } (.slice (Option.some ⟨bL, oL, Option.none⟩) 0 0))) := Lib.hid (by
                  rw [hw12]
                  have h1 := (HK11.out.setCell 3 (.slice (Option.some ⟨bL, oL, Option.none⟩) 0 0)).setCell 4 (.int .i64 0)
                  rw [HSZ.out, HRQ.out] at h1
                  exact Blk.cast h1 rfl)
                have HK212 := Lib.hid (HK211.out.fr hF12 (by omega))
                have HO12 := Lib.hid (own_fr HO11.out hF12 (fun k hk e => by have := (HO11.out.lt k hk).1; omega))
                have HB12 : Hid (Below w.heap.size w w12) := Lib.hid (HB11.out.trans (hF12.toBelow HB11.out.size (fun k hk => by omega)))
                go_roundg (gk - 1)
                case rel => exact Lib.hid (ZR.next HT.out (by rw [← HM.out, ← HSZ.out]; have := HRM.out; omega) (by rw [HL.out]; simp) HQL.out HQ.out (by rw [← HSZ.out]; exact HQS.out) HTAKE.out HFV.out HK12.out HK212.out HV.out (by rw [← HM.out, ← encB_length ((x.drop tk).take kk), HBX.out]) HO12.out HB12.out)
                case measure => rcases HQL.out with h9 | h9 <;> first | omega | (exfalso; have := HRM.out; rw [← HM.out, ← HSZ.out] at h9; omega)
              · have q2 : ¬ (cq : Int) = 1 := by omega
                have q3 : (1 : Int) ≤ (cq : Int) := by have := HN1.out; omega
                have q5 : (1 : Int) ≤ (nL : Int) := by have := HN1.out; omega
                have HV : Hid (SAt w S (.slice (Option.some ⟨bL, oL + 1, Option.none⟩) (nL - 1) (cq - 1)) xs) := Lib.hid HTAIL.out
                go_wp2_with fail
                obtain ⟨w12, hw12⟩ : ∃ w12, w12 = (w11.setCell ⟨w.heap.size, 3, Option.none⟩ (.slice (Option.some ⟨bL, oL + 1, Option.none⟩) (nL - 1) (cq - 1))).setCell ⟨w.heap.size, 4, Option.none⟩ (.int .i64 0) := ⟨_, rfl⟩
                rw [← hw12]
                have hF12 : Fr (fun k => k = w.heap.size) w11 w12 := by rw [hw12]; exact ((Fr.refl _ _).set1 _ (by exact .inl rfl)).set1 _ (by exact .inl rfl)
                have HK12 : Hid (Blk w12 w.heap.size 44 (rpcells { q with L := xs, taken := 0, left := q.left - r } (.slice (Option.some ⟨bL, oL + 1, Option.none⟩) (nL - 1) (cq - 1)))) := Lib.hid (by
                  rw [hw12]
                  have h1 := (HK11.out.setCell 3 (.slice (Option.some ⟨bL, oL + 1, Option.none⟩) (nL - 1) (cq - 1))).setCell 4 (.int .i64 0)
                  rw [HSZ.out, HRQ.out] at h1
                  exact Blk.cast h1 rfl)
                have HK212 := Lib.hid (HK211.out.fr hF12 (by omega))
                have HO12 := Lib.hid (own_fr HO11.out hF12 (fun k hk e => by have := (HO11.out.lt k hk).1; omega))
                have HB12 : Hid (Below w.heap.size w w12) := Lib.hid (HB11.out.trans (hF12.toBelow HB11.out.size (fun k hk => by omega)))
                go_roundg (gk - 1)
                case rel => exact Lib.hid (ZR.next HT.out (by rw [← HM.out, ← HSZ.out]; have := HRM.out; omega) (by rw [HL.out]; simp) HQL.out HQ.out (by rw [← HSZ.out]; exact HQS.out) HTAKE.out HFV.out HK12.out HK212.out HV.out (by rw [← HM.out, ← encB_length ((x.drop tk).take kk), HBX.out]) HO12.out HB12.out)
                case measure => rcases HQL.out with h9 | h9 <;> first | omega | (exfalso; have := HRM.out; rw [← HM.out, ← HSZ.out] at h9; omega)
            · have i7 : ((tk2 : Int) == (xl : Int)) = false := by rw [beq_eq_false_iff_ne]; have := HTK2.out; have := HR.out; omega
              have HTAKE : Hid (q.take (q.size - out.length) = ({ q with taken := q.taken + kk, left := q.left - kk }, (x.drop tk).take kk)) := Lib.hid (by
                have h1 := HRM.out
                have h2 := HKK.out
                obtain rfl : kk = rm := by omega
                unfold PS.take
                rw [HL.out]
                dsimp only
                rw [← HSZ.out, ← HM.out, ← HTK.out, ← HXL.out, ← HR.out, ← HRM.out, if_pos (by omega)])
              go_wp2_with (go_quiet (fail))
              obtain ⟨w11, hw11⟩ : ∃ w11, w11 = w9.drewN nq := ⟨_, rfl⟩
              rw [← hw11]
              have hq11 : Quiet w9 w11 := by rw [hw11]; exact ⟨nq, rfl⟩
              have HK11 : Hid (Blk w11 w.heap.size 44 (rpcells { q with taken := q.taken + kk, left := q.left - kk } (.slice (Option.some ⟨bL, oL, Option.none⟩) nL cq))) := Lib.hid (by
                have h1 := HK9.out.below hq11.below (Nat.le_refl _)
                rw [HSZ.out, HRQ.out, HTK2.out, HTK.out] at h1
                exact h1)
              have HK211 := Lib.hid (HK29.out.below hq11.below (Nat.le_refl _))
              have HO11 := Lib.hid (own_below HO9.out hq11.below (Nat.le_refl _))
              have HB11 := Lib.hid (HB9.out.trans (hq11.below.mono HB9.out.size))
              go_roundg (gk - 1)
              case rel => exact Lib.hid (ZR.next HT.out (by rw [← HM.out, ← HSZ.out]; have := HRM.out; omega) (by rw [HL.out]; simp) HQL.out HQ.out (by rw [← HSZ.out]; exact HQS.out) HTAKE.out HFV.out HK11.out HK211.out HS.out (by rw [← HM.out, ← encB_length ((x.drop tk).take kk), HBX.out]) HO11.out HB11.out)
              case measure => rcases HQL.out with h9 | h9 <;> first | omega | (exfalso; have := HRM.out; rw [← HM.out, ← HSZ.out] at h9; omega)
          · have HFV : Hid (firstP q out f = f) := Lib.hid (by unfold firstP; rw [if_neg (fun h => hf0 h.2)])
            have i6 : (f == 2047) = false := by rw [beq_eq_false_iff_ne]; exact hf0
            go_upto_region 11 with fail
            clear i6 hf0
            clear i5 hr hcd
            obtain ⟨nL, rfl⟩ : ∃ k, k = nq := ⟨_, rfl⟩
            go_upto_region 12 with (go_quiet (fail))
            obtain ⟨w6, hw6⟩ : ∃ w6, w6 = wr.drewN nq := ⟨_, rfl⟩
            rw [← hw6, ← HR.out, ← HCD.out]
            have hq6 : Quiet wr w6 := by rw [hw6]; exact ⟨nq, rfl⟩
            have HK6 := Lib.hid (HK.out.below hq6.below (Nat.le_refl _))
            have HK26 := Lib.hid (HK2.out.below hq6.below (Nat.le_refl _))
            have HO6 := Lib.hid (own_below HO.out hq6.below (Nat.le_refl _))
            have HB6 := Lib.hid (HB.out.trans (hq6.below.mono HB.out.size))
            clear hw6 hq6 c0 c3 c4 cL f4 lB
            have c0 := HK6.out.at 0 rfl
            have lB := HK6.out.lt
            obtain ⟨kk, hkk⟩ : ∃ kk, kk = min r rm := ⟨_, rfl⟩
            have j5 : min (r : Int) (rm : Int) = (kk : Int) := by omega
            have hkk9 : 1 ≤ kk ∧ kk ≤ r ∧ kk ≤ rm := by omega
            have HKK := Lib.hid hkk
            have HBX : Hid ((encB ((x.drop tk).take kk)).length = kk) := Lib.hid (by rw [encB_length, List.length_take, List.length_drop, ← HXL.out, ← HR.out]; omega)
            have HVX : Hid (VAt w6 (Option.some ⟨bx, ox + tk, Option.none⟩) (encB ((x.drop tk).take kk))) := Lib.hid ((((HX.out.below HB6.out (Nat.le_refl _)).drop tk).take kk).vat)
            have hs6' : w.heap.size + 2 ≤ w6.heap.size := by have := HK26.out.lt; omega
            have g9 : (0 : Int) ≤ (kk : Int) := by omega
            have g10 : (kk : Int) ≤ (cd : Int) := by omega
            clear hkk
            go_wp2_with (at_builtin; refine wpList_append_src _ rfl (.tmp 81) (.tmp 84) 22 rfl (w.heap.size + 2) 5 j0 (.int .u8 0) 1 Try.underlying22 HJ.out hy0 hy1 hy2 (by rfl) _ M (encB out) rfl HO6.out (Option.some ⟨bx, ox + tk, Option.none⟩) kk cd (encB ((x.drop tk).take kk)) rfl HBX.out HVX.out (encB_one _) (by unfold maxLen; omega) (by omega) hs6' ?_)
            intro v9 w8 hown hgrow hblk
            have hb8 : Below (w.heap.size + 2) w6 w8 := (Below.refl _ _).grown hgrow hs6' (fun k hk => (HO6.out.lt k hk).1)
            have HO8 := Lib.hid hown
            have HK8 := Lib.hid (HK6.out.same (hb8.block _ (by omega)))
            have HK28 := Lib.hid (HK26.out.same (hb8.block _ (by omega)))
            have HB8 := Lib.hid (HB6.out.trans (hb8.mono (Nat.le_add_right _ _)))
            clear hown hgrow hblk hb8 c0 lB hs6'
            have c4 := HK8.out.at 4 rfl
            have f4 := HK8.out.free 4
            have lB := HK8.out.lt
            obtain ⟨tk2, htk2⟩ : ∃ k, k = tk + kk := ⟨_, rfl⟩
            have j6 : (tk : Int) + (kk : Int) = (tk2 : Int) := by omega
            have HTK2 := Lib.hid htk2
            clear htk2
            go_upto_region 15 with fail
            obtain ⟨w9, hw9⟩ : ∃ w9, w9 = w8.setCell ⟨w.heap.size, 4, Option.none⟩ (.int .i64 (tk2 : Int)) := ⟨_, rfl⟩
            rw [← hw9]
            have hF9 : Fr (fun k => k = w.heap.size) w8 w9 := by rw [hw9]; exact (Fr.refl _ _).set1 _ (by exact .inl rfl)
            have HK9 : Hid (Blk w9 w.heap.size 44 [.int .i64 (sz : Int), .int .i64 (q.room : Int), .int .i64 (rq : Int), .slice (Option.some ⟨bL, oL, Option.none⟩) nL cq, .int .i64 (tk2 : Int)]) := Lib.hid (by rw [hw9]; exact Blk.cast (HK8.out.setCell 4 _) rfl)
            have HK29 := Lib.hid (HK28.out.fr hF9 (by omega))
            have HO9 := Lib.hid (own_fr HO8.out hF9 (fun k hk e => by have := (HO8.out.lt k hk).1; omega))
            have HB9 : Hid (Below w.heap.size w w9) := Lib.hid (HB8.out.trans (hF9.toBelow HB8.out.size (fun k hk => by omega)))
            clear hw9 hF9 c4 f4 lB
            have c3 := HK9.out.at 3 rfl
            have c4 := HK9.out.at 4 rfl
            have lB := HK9.out.lt
            have cL : w9.cell? ⟨bL, oL, Option.none⟩ = Option.some (.slice (Option.some ⟨bx, ox, Option.none⟩) xl cx) := (HB9.out.cell (p := ⟨bL, oL, Option.none⟩) HBL.out).trans HCL0.out
            by_cases hfull : kk = r
            · have i7 : ((tk2 : Int) == (xl : Int)) = true := by rw [beq_iff_eq]; have := HTK2.out; have := HR.out; omega
              have HTAKE : Hid (q.take (q.size - out.length) = ({ q with L := xs, taken := 0, left := q.left - r }, (x.drop tk).take kk)) := Lib.hid (by
                have h1 := HRM.out
                have h2 := HKK.out
                unfold PS.take
                rw [HL.out]
                dsimp only
                rw [← HSZ.out, ← HM.out, ← HTK.out, ← HXL.out, ← HR.out, if_neg (by omega), List.take_of_length_le (by rw [List.length_drop, ← HXL.out, ← HR.out]; omega)])
              go_upto_region 16 with (go_quiet (fail))
              obtain ⟨w11, hw11⟩ : ∃ w11, w11 = w9.drewN nq := ⟨_, rfl⟩
              rw [← hw11]
              have hq11 : Quiet w9 w11 := by rw [hw11]; exact ⟨nq, rfl⟩
              have HK11 := Lib.hid (HK9.out.below hq11.below (Nat.le_refl _))
              have HK211 := Lib.hid (HK29.out.below hq11.below (Nat.le_refl _))
              have HO11 := Lib.hid (own_below HO9.out hq11.below (Nat.le_refl _))
              have HB11 := Lib.hid (HB9.out.trans (hq11.below.mono HB9.out.size))
              clear hw11 hq11 c3 c4 lB cL i7
              have c3 := HK11.out.at 3 rfl
              have c4 := HK11.out.at 4 rfl
              have f3 := HK11.out.free 3
              have f4 := HK11.out.free 4
              have lB := HK11.out.lt
              by_cases hc1 : cq = 1
              · have q2 : (cq : Int) = 1 := by omega
                have HV : Hid (SAt w S (.slice (Option.some ⟨bL, oL, Option.none⟩) 0 0) xs) := Lib.hid (by
                  have h1 := HN1.out
                  obtain rfl : xs = [] := List.length_eq_zero_iff.1 (by omega)
                  exact SAt.empty w S _)
                subst hc1
                have q4 : nL = 1 := by have := HN1.out; omega
                subst q4
                go_wp2_with fail
                obtain ⟨w12, hw12⟩ : ∃ w12, w12 = (w11.setCell ⟨w.heap.size, 3, Option.none⟩ (.slice (Option.some ⟨bL, oL, Option.none⟩) 0 0)).setCell ⟨w.heap.size, 4, Option.none⟩ (.int .i64 0) := ⟨_, rfl⟩
                rw [← hw12]
                have hF12 : Fr (fun k => k = w.heap.size) w11 w12 := by rw [hw12]; exact ((Fr.refl _ _).set1 _ (by exact .inl rfl)).set1 _ (by exact .inl rfl)
                have HK12 : Hid (Blk w12 w.heap.size 44 (rpcells { q with L := xs, taken := 0, left := q.left - r } (.slice (Option.some ⟨bL, oL, Option.none⟩) 0 0))) := Lib.hid (by
                  rw [hw12]
                  have h1 := (HK11.out.setCell 3 (.slice (Option.some ⟨bL, oL, Option.none⟩) 0 0)).setCell 4 (.int .i64 0)
                  rw [HSZ.out, HRQ.out] at h1
                  exact Blk.cast h1 rfl)
                have HK212 := Lib.hid (HK211.out.fr hF12 (by omega))
                have HO12 := Lib.hid (own_fr HO11.out hF12 (fun k hk e => by have := (HO11.out.lt k hk).1; omega))
                have HB12 : Hid (Below w.heap.size w w12) := Lib.hid (HB11.out.trans (hF12.toBelow HB11.out.size (fun k hk => by omega)))
                go_roundg (gk - 1)
                case rel => exact Lib.hid (ZR.next HT.out (by rw [← HM.out, ← HSZ.out]; have := HRM.out; omega) (by rw [HL.out]; simp) HQL.out HQ.out (by rw [← HSZ.out]; exact HQS.out) HTAKE.out HFV.out HK12.out HK212.out HV.out (by rw [← HM.out, ← encB_length ((x.drop tk).take kk), HBX.out]) HO12.out HB12.out)
                case measure => rcases HQL.out with h9 | h9 <;> first | omega | (exfalso; have := HRM.out; rw [← HM.out, ← HSZ.out] at h9; omega)
              · have q2 : ¬ (cq : Int) = 1 := by omega
                have q3 : (1 : Int) ≤ (cq : Int) := by have := HN1.out; omega
                have q5 : (1 : Int) ≤ (nL : Int) := by have := HN1.out; omega
                have HV : Hid (SAt w S (.slice (Option.some ⟨bL, oL + 1, Option.none⟩) (nL - 1) (cq - 1)) xs) := Lib.hid HTAIL.out
                go_wp2_with fail
                obtain ⟨w12, hw12⟩ : ∃ w12, w12 = (w11.setCell ⟨w.heap.size, 3, Option.none⟩ (.slice (Option.some ⟨bL, oL + 1, Option.none⟩) (nL - 1) (cq - 1))).setCell ⟨w.heap.size, 4, Option.none⟩ (.int .i64 0) := ⟨_, rfl⟩
                rw [← hw12]
                have hF12 : Fr (fun k => k = w.heap.size) w11 w12 := by rw [hw12]; exact ((Fr.refl _ _).set1 _ (by exact .inl rfl)).set1 _ (by exact .inl rfl)
                have HK12 : Hid (Blk w12 w.heap.size 44 (rpcells { q with L := xs, taken := 0, left := q.left - r } (.slice (Option.some ⟨bL, oL + 1, Option.none⟩) (nL - 1) (cq - 1)))) := Lib.hid (by
                  rw [hw12]
                  have h1 := (HK11.out.setCell 3 (.slice (Option.some ⟨bL, oL + 1, Option.none⟩) (nL - 1) (cq - 1))).setCell 4 (.int .i64 0)
                  rw [HSZ.out, HRQ.out] at h1
                  exact Blk.cast h1 rfl)
                have HK212 := Lib.hid (HK211.out.fr hF12 (by omega))
                have HO12 := Lib.hid (own_fr HO11.out hF12 (fun k hk e => by have := (HO11.out.lt k hk).1; omega))
                have HB12 : Hid (Below w.heap.size w w12) := Lib.hid (HB11.out.trans (hF12.toBelow HB11.out.size (fun k hk => by omega)))
                go_roundg (gk - 1)
                case rel => exact Lib.hid (ZR.next HT.out (by rw [← HM.out, ← HSZ.out]; have := HRM.out; omega) (by rw [HL.out]; simp) HQL.out HQ.out (by rw [← HSZ.out]; exact HQS.out) HTAKE.out HFV.out HK12.out HK212.out HV.out (by rw [← HM.out, ← encB_length ((x.drop tk).take kk), HBX.out]) HO12.out HB12.out)
                case measure => rcases HQL.out with h9 | h9 <;> first | omega | (exfalso; have := HRM.out; rw [← HM.out, ← HSZ.out] at h9; omega)
            · have i7 : ((tk2 : Int) == (xl : Int)) = false := by rw [beq_eq_false_iff_ne]; have := HTK2.out; have := HR.out; omega
              have HTAKE : Hid (q.take (q.size - out.length) = ({ q with taken := q.taken + kk, left := q.left - kk }, (x.drop tk).take kk)) := Lib.hid (by
                have h1 := HRM.out
                have h2 := HKK.out
                obtain rfl : kk = rm := by omega
                unfold PS.take
                rw [HL.out]
                dsimp only
                rw [← HSZ.out, ← HM.out, ← HTK.out, ← HXL.out, ← HR.out, ← HRM.out, if_pos (by omega)])
              go_wp2_with (go_quiet (fail))
              obtain ⟨w11, hw11⟩ : ∃ w11, w11 = w9.drewN nq := ⟨_, rfl⟩
              rw [← hw11]
              have hq11 : Quiet w9 w11 := by rw [hw11]; exact ⟨nq, rfl⟩
              have HK11 : Hid (Blk w11 w.heap.size 44 (rpcells { q with taken := q.taken + kk, left := q.left - kk } (.slice (Option.some ⟨bL, oL, Option.none⟩) nL cq))) := Lib.hid (by
                have h1 := HK9.out.below hq11.below (Nat.le_refl _)
                rw [HSZ.out, HRQ.out, HTK2.out, HTK.out] at h1
                exact h1)
              have HK211 := Lib.hid (HK29.out.below hq11.below (Nat.le_refl _))
              have HO11 := Lib.hid (own_below HO9.out hq11.below (Nat.le_refl _))
              have HB11 := Lib.hid (HB9.out.trans (hq11.below.mono HB9.out.size))
              go_roundg (gk - 1)
              case rel => exact Lib.hid (ZR.next HT.out (by rw [← HM.out, ← HSZ.out]; have := HRM.out; omega) (by rw [HL.out]; simp) HQL.out HQ.out (by rw [← HSZ.out]; exact HQS.out) HTAKE.out HFV.out HK11.out HK211.out HS.out (by rw [← HM.out, ← encB_length ((x.drop tk).take kk), HBX.out]) HO11.out HB11.out)
              case measure => rcases HQL.out with h9 | h9 <;> first | omega | (exfalso; have := HRM.out; rw [← HM.out, ← HSZ.out] at h9; omega)
        · have i5 : ((tk : Int) == 0) = false := by rw [beq_eq_false_iff_ne]; omega
          have HFV : Hid (firstP q out f = f) := Lib.hid (by unfold firstP; rw [if_neg (fun h => ht0 (by rw [HTK.out]; exact h.1))])
          clear ht0
          go_upto_region 11 with fail
          clear i5 hr hcd
          obtain ⟨nL, rfl⟩ : ∃ k, k = nq := ⟨_, rfl⟩
          go_upto_region 12 with (go_quiet (fail))
          obtain ⟨w6, hw6⟩ : ∃ w6, w6 = wr.drewN nq := ⟨_, rfl⟩
          rw [← hw6, ← HR.out, ← HCD.out]
          have hq6 : Quiet wr w6 := by rw [hw6]; exact ⟨nq, rfl⟩
          have HK6 := Lib.hid (HK.out.below hq6.below (Nat.le_refl _))
          have HK26 := Lib.hid (HK2.out.below hq6.below (Nat.le_refl _))
          have HO6 := Lib.hid (own_below HO.out hq6.below (Nat.le_refl _))
          have HB6 := Lib.hid (HB.out.trans (hq6.below.mono HB.out.size))
          clear hw6 hq6 c0 c3 c4 cL f4 lB
          have c0 := HK6.out.at 0 rfl
          have lB := HK6.out.lt
          obtain ⟨kk, hkk⟩ : ∃ kk, kk = min r rm := ⟨_, rfl⟩
          have j5 : min (r : Int) (rm : Int) = (kk : Int) := by omega
          have hkk9 : 1 ≤ kk ∧ kk ≤ r ∧ kk ≤ rm := by omega
          have HKK := Lib.hid hkk
          have HBX : Hid ((encB ((x.drop tk).take kk)).length = kk) := Lib.hid (by rw [encB_length, List.length_take, List.length_drop, ← HXL.out, ← HR.out]; omega)
          have HVX : Hid (VAt w6 (Option.some ⟨bx, ox + tk, Option.none⟩) (encB ((x.drop tk).take kk))) := Lib.hid ((((HX.out.below HB6.out (Nat.le_refl _)).drop tk).take kk).vat)
          have hs6' : w.heap.size + 2 ≤ w6.heap.size := by have := HK26.out.lt; omega
          have g9 : (0 : Int) ≤ (kk : Int) := by omega
          have g10 : (kk : Int) ≤ (cd : Int) := by omega
          clear hkk
          go_wp2_with (at_builtin; refine wpList_append_src _ rfl (.tmp 81) (.tmp 84) 22 rfl (w.heap.size + 2) 5 j0 (.int .u8 0) 1 Try.underlying22 HJ.out hy0 hy1 hy2 (by rfl) _ M (encB out) rfl HO6.out (Option.some ⟨bx, ox + tk, Option.none⟩) kk cd (encB ((x.drop tk).take kk)) rfl HBX.out HVX.out (encB_one _) (by unfold maxLen; omega) (by omega) hs6' ?_)
          intro v9 w8 hown hgrow hblk
          have hb8 : Below (w.heap.size + 2) w6 w8 := (Below.refl _ _).grown hgrow hs6' (fun k hk => (HO6.out.lt k hk).1)
          have HO8 := Lib.hid hown
          have HK8 := Lib.hid (HK6.out.same (hb8.block _ (by omega)))
          have HK28 := Lib.hid (HK26.out.same (hb8.block _ (by omega)))
          have HB8 := Lib.hid (HB6.out.trans (hb8.mono (Nat.le_add_right _ _)))
          clear hown hgrow hblk hb8 c0 lB hs6'
          have c4 := HK8.out.at 4 rfl
          have f4 := HK8.out.free 4
          have lB := HK8.out.lt
          obtain ⟨tk2, htk2⟩ : ∃ k, k = tk + kk := ⟨_, rfl⟩
          have j6 : (tk : Int) + (kk : Int) = (tk2 : Int) := by omega
          have HTK2 := Lib.hid htk2
          clear htk2
          go_upto_region 15 with fail
          obtain ⟨w9, hw9⟩ : ∃ w9, w9 = w8.setCell ⟨w.heap.size, 4, Option.none⟩ (.int .i64 (tk2 : Int)) := ⟨_, rfl⟩
          rw [← hw9]
          have hF9 : Fr (fun k => k = w.heap.size) w8 w9 := by rw [hw9]; exact (Fr.refl _ _).set1 _ (by exact .inl rfl)
          have HK9 : Hid (Blk w9 w.heap.size 44 [.int .i64 (sz : Int), .int .i64 (q.room : Int), .int .i64 (rq : Int), .slice (Option.some ⟨bL, oL, Option.none⟩) nL cq, .int .i64 (tk2 : Int)]) := Lib.hid (by rw [hw9]; exact Blk.cast (HK8.out.setCell 4 _) rfl)
          have HK29 := Lib.hid (HK28.out.fr hF9 (by omega))
          have HO9 := Lib.hid (own_fr HO8.out hF9 (fun k hk e => by have := (HO8.out.lt k hk).1; omega))
          have HB9 : Hid (Below w.heap.size w w9) := Lib.hid (HB8.out.trans (hF9.toBelow HB8.out.size (fun k hk => by omega)))
          clear hw9 hF9 c4 f4 lB
          have c3 := HK9.out.at 3 rfl
          have c4 := HK9.out.at 4 rfl
          have lB := HK9.out.lt
          have cL : w9.cell? ⟨bL, oL, Option.none⟩ = Option.some (.slice (Option.some ⟨bx, ox, Option.none⟩) xl cx) := (HB9.out.cell (p := ⟨bL, oL, Option.none⟩) HBL.out).trans HCL0.out
          by_cases hfull : kk = r
          · have i7 : ((tk2 : Int) == (xl : Int)) = true := by rw [beq_iff_eq]; have := HTK2.out; have := HR.out; omega
            have HTAKE : Hid (q.take (q.size - out.length) = ({ q with L := xs, taken := 0, left := q.left - r }, (x.drop tk).take kk)) := Lib.hid (by
              have h1 := HRM.out
              have h2 := HKK.out
              unfold PS.take
              rw [HL.out]
              dsimp only
              rw [← HSZ.out, ← HM.out, ← HTK.out, ← HXL.out, ← HR.out, if_neg (by omega), List.take_of_length_le (by rw [List.length_drop, ← HXL.out, ← HR.out]; omega)])
            go_upto_region 16 with (go_quiet (fail))
            obtain ⟨w11, hw11⟩ : ∃ w11, w11 = w9.drewN nq := ⟨_, rfl⟩
            rw [← hw11]
            have hq11 : Quiet w9 w11 := by rw [hw11]; exact ⟨nq, rfl⟩
            have HK11 := Lib.hid (HK9.out.below hq11.below (Nat.le_refl _))
            have HK211 := Lib.hid (HK29.out.below hq11.below (Nat.le_refl _))
            have HO11 := Lib.hid (own_below HO9.out hq11.below (Nat.le_refl _))
            have HB11 := Lib.hid (HB9.out.trans (hq11.below.mono HB9.out.size))
            clear hw11 hq11 c3 c4 lB cL i7
            have c3 := HK11.out.at 3 rfl
            have c4 := HK11.out.at 4 rfl
            have f3 := HK11.out.free 3
            have f4 := HK11.out.free 4
            have lB := HK11.out.lt
            by_cases hc1 : cq = 1
            · have q2 : (cq : Int) = 1 := by omega
              have HV : Hid (SAt w S (.slice (Option.some ⟨bL, oL, Option.none⟩) 0 0) xs) := Lib.hid (by
                have h1 := HN1.out
                obtain rfl : xs = [] := List.length_eq_zero_iff.1 (by omega)
                exact SAt.empty w S _)
              subst hc1
              have q4 : nL = 1 := by have := HN1.out; omega
              subst q4
              go_wp2_with fail
              obtain ⟨w12, hw12⟩ : ∃ w12, w12 = (w11.setCell ⟨w.heap.size, 3, Option.none⟩ (.slice (Option.some ⟨bL, oL, Option.none⟩) 0 0)).setCell ⟨w.heap.size, 4, Option.none⟩ (.int .i64 0) := ⟨_, rfl⟩
              rw [← hw12]
              have hF12 : Fr (fun k => k = w.heap.size) w11 w12 := by rw [hw12]; exact ((Fr.refl _ _).set1 _ (by exact .inl rfl)).set1 _ (by exact .inl rfl)
              have HK12 : Hid (Blk w12 w.heap.size 44 (rpcells { q with L := xs, taken := 0, left := q.left - r } (.slice (Option.some ⟨bL, oL, Option.none⟩) 0 0))) := Lib.hid (by
                rw [hw12]
                have h1 := (HK11.out.setCell 3 (.slice (Option.some ⟨bL, oL, Option.none⟩) 0 0)).setCell 4 (.int .i64 0)
                rw [HSZ.out, HRQ.out] at h1
                exact Blk.cast h1 rfl)
              have HK212 := Lib.hid (HK211.out.fr hF12 (by omega))
              have HO12 := Lib.hid (own_fr HO11.out hF12 (fun k hk e => by have := (HO11.out.lt k hk).1; omega))
              have HB12 : Hid (Below w.heap.size w w12) := Lib.hid (HB11.out.trans (hF12.toBelow HB11.out.size (fun k hk => by omega)))
              go_roundg (gk - 1)
              case rel => exact Lib.hid (ZR.next HT.out (by rw [← HM.out, ← HSZ.out]; have := HRM.out; omega) (by rw [HL.out]; simp) HQL.out HQ.out (by rw [← HSZ.out]; exact HQS.out) HTAKE.out HFV.out HK12.out HK212.out HV.out (by rw [← HM.out, ← encB_length ((x.drop tk).take kk), HBX.out]) HO12.out HB12.out)
              case measure => rcases HQL.out with h9 | h9 <;> first | omega | (exfalso; have := HRM.out; rw [← HM.out, ← HSZ.out] at h9; omega)
            · have q2 : ¬ (cq : Int) = 1 := by omega
              have q3 : (1 : Int) ≤ (cq : Int) := by have := HN1.out; omega
              have q5 : (1 : Int) ≤ (nL : Int) := by have := HN1.out; omega
              have HV : Hid (SAt w S (.slice (Option.some ⟨bL, oL + 1, Option.none⟩) (nL - 1) (cq - 1)) xs) := Lib.hid HTAIL.out
              go_wp2_with fail
              obtain ⟨w12, hw12⟩ : ∃ w12, w12 = (w11.setCell ⟨w.heap.size, 3, Option.none⟩ (.slice (Option.some ⟨bL, oL + 1, Option.none⟩) (nL - 1) (cq - 1))).setCell ⟨w.heap.size, 4, Option.none⟩ (.int .i64 0) := ⟨_, rfl⟩
              rw [← hw12]
              have hF12 : Fr (fun k => k = w.heap.size) w11 w12 := by rw [hw12]; exact ((Fr.refl _ _).set1 _ (by exact .inl rfl)).set1 _ (by exact .inl rfl)
              have HK12 : Hid (Blk w12 w.heap.size 44 (rpcells { q with L := xs, taken := 0, left := q.left - r } (.slice (Option.some ⟨bL, oL + 1, Option.none⟩) (nL - 1) (cq - 1)))) := Lib.hid (by
                rw [hw12]
                have h1 := (HK11.out.setCell 3 (.slice (Option.some ⟨bL, oL + 1, Option.none⟩) (nL - 1) (cq - 1))).setCell 4 (.int .i64 0)
                rw [HSZ.out, HRQ.out] at h1
                exact Blk.cast h1 rfl)
              have HK212 := Lib.hid (HK211.out.fr hF12 (by omega))
              have HO12 := Lib.hid (own_fr HO11.out hF12 (fun k hk e => by have := (HO11.out.lt k hk).1; omega))
              have HB12 : Hid (Below w.heap.size w w12) := Lib.hid (HB11.out.trans (hF12.toBelow HB11.out.size (fun k hk => by omega)))
              go_roundg (gk - 1)
              case rel => exact Lib.hid (ZR.next HT.out (by rw [← HM.out, ← HSZ.out]; have := HRM.out; omega) (by rw [HL.out]; simp) HQL.out HQ.out (by rw [← HSZ.out]; exact HQS.out) HTAKE.out HFV.out HK12.out HK212.out HV.out (by rw [← HM.out, ← encB_length ((x.drop tk).take kk), HBX.out]) HO12.out HB12.out)
              case measure => rcases HQL.out with h9 | h9 <;> first | omega | (exfalso; have := HRM.out; rw [← HM.out, ← HSZ.out] at h9; omega)
          · have i7 : ((tk2 : Int) == (xl : Int)) = false := by rw [beq_eq_false_iff_ne]; have := HTK2.out; have := HR.out; omega
            have HTAKE : Hid (q.take (q.size - out.length) = ({ q with taken := q.taken + kk, left := q.left - kk }, (x.drop tk).take kk)) := Lib.hid (by
              have h1 := HRM.out
              have h2 := HKK.out
              obtain rfl : kk = rm := by omega
              unfold PS.take
              rw [HL.out]
              dsimp only
              rw [← HSZ.out, ← HM.out, ← HTK.out, ← HXL.out, ← HR.out, ← HRM.out, if_pos (by omega)])
            go_wp2_with (go_quiet (fail))
            obtain ⟨w11, hw11⟩ : ∃ w11, w11 = w9.drewN nq := ⟨_, rfl⟩
            rw [← hw11]
            have hq11 : Quiet w9 w11 := by rw [hw11]; exact ⟨nq, rfl⟩
            have HK11 : Hid (Blk w11 w.heap.size 44 (rpcells { q with taken := q.taken + kk, left := q.left - kk } (.slice (Option.some ⟨bL, oL, Option.none⟩) nL cq))) := Lib.hid (by
              have h1 := HK9.out.below hq11.below (Nat.le_refl _)
              rw [HSZ.out, HRQ.out, HTK2.out, HTK.out] at h1
              exact h1)
            have HK211 := Lib.hid (HK29.out.below hq11.below (Nat.le_refl _))
            have HO11 := Lib.hid (own_below HO9.out hq11.below (Nat.le_refl _))
            have HB11 := Lib.hid (HB9.out.trans (hq11.below.mono HB9.out.size))
            go_roundg (gk - 1)
            case rel => exact Lib.hid (ZR.next HT.out (by rw [← HM.out, ← HSZ.out]; have := HRM.out; omega) (by rw [HL.out]; simp) HQL.out HQ.out (by rw [← HSZ.out]; exact HQS.out) HTAKE.out HFV.out HK11.out HK211.out HS.out (by rw [← HM.out, ← encB_length ((x.drop tk).take kk), HBX.out]) HO11.out HB11.out)
            case measure => rcases HQL.out with h9 | h9 <;> first | omega | (exfalso; have := HRM.out; rw [← HM.out, ← HSZ.out] at h9; omega)
    · have i8 : ¬ (M : Int) < (sz : Int) := by omega
      have hms : M = sz := by omega
      have HMS := Lib.hid hms
      have i9 : ((M : Int) == (sz : Int)) = true := by rw [hms]; simp
      have HP : Hid (p.next = (q, Option.some (out, f))) := Lib.hid (by
        have h1 : T = (q, out, f) := by rw [← HT.out]; exact fill_done _ _ _ _ (fun h => by have := h.1; rw [← HM.out, ← HSZ.out] at this; omega)
        rw [HNX.out, h1, close_full _ _ _ (by rw [← HM.out, ← HSZ.out]; omega)])
      clear hms
      have c0 := HK.out.at 0 rfl
      have c1 := HK.out.at 1 rfl
      have c2 := HK.out.at 2 rfl
      have c3 := HK.out.at 3 rfl
      have c4 := HK.out.at 4 rfl
      have lB := HK.out.lt
      have d0 := HK2.out.at 0 rfl
      have d1 := HK2.out.at 1 rfl
      have d2 := HK2.out.at 2 rfl
      have d3 := HK2.out.at 3 rfl
      have d4 := HK2.out.at 4 rfl
      have f0 := HK2.out.free 0
      have f1 := HK2.out.free 1
      have f2 := HK2.out.free 2
      have f3 := HK2.out.free 3
      have f4 := HK2.out.free 4
      have lR := HK2.out.lt
      go_wp2_with fail
      have b9 := fin5_blk HK2.out (.int .i64 (sz : Int)) (.int .i64 (q.room : Int)) (.int .i64 (rq : Int)) (.slice aq nq cq) (.int .i64 (tk : Int))
      unfold fin5 at b9
      have b0 := b9.at 0 rfl
      have b1 := b9.at 1 rfl
      have b2 := b9.at 2 rfl
      have b3 := b9.at 3 rfl
      have b4 := b9.at 4 rfl
      have hv : RPV q (.slice aq nq cq) = .agg #[.int .i64 (sz : Int), .int .i64 (q.room : Int), .int .i64 (rq : Int), (.slice aq nq cq), .int .i64 (tk : Int)] := by unfold RPV; rw [HSZ.out, HRQ.out, HTK.out]
      refine bodyPost_ret (v := .tuple #[.agg #[.int .i64 (sz : Int), .int .i64 (q.room : Int), .int .i64 (rq : Int), (.slice aq nq cq), .int .i64 (tk : Int)], (.slice ao M co), .int .i64 f, .bool true]) (by simp [results, Try.results21, go_sem, b0, b1, b2, b3, b4]) rfl ?_
      rw [← hv]
      exact RNQ.some HP.out HS.out HB.out HM.out.symm HO.out _ _ _ _ _
end Go.Proofs.Ytalghcgedmcifaa

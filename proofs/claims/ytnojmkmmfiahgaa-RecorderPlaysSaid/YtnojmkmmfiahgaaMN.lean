/- The reference's Next. No condition. -/
import Derived.Test.YtnojmkmmfiahgaaMR
namespace Go.Proofs.Ytnojmkmmfiahgaa
open Go.RowKit Go.Deep Go.ChangeShapes Go.WideShapes Go.ChangeAt
set_option linter.unusedVariables false

/-- what the reference's Next gives -/
def RQ3 (now : Int) (w : World) (q : RS × Option (List UInt8)) (e : Ending) (w' : World) : Prop :=
  ∃ a n c, (match q.2 with
    | none => e = .returned (.tuple #[.agg #[.int .i64 now, .slice a n c], .slice none 0 0, .bool false])
    | some l => ∃ al cl, e = .returned (.tuple #[.agg #[.int .i64 now, .slice a n c], .slice al l.length cl, .bool true]) ∧ BX w' al l) ∧ RV w' q.1 a n c ∧ Below w.heap.size w w'
def bestI : Option (Nat × Int) → Int
  | none => -1
  | some q => (q.1 : Int)
def bestOk (r : RS) : Option (Nat × Int) → Prop
  | none => True
  | some q => ∃ s, r.stores[q.1]? = some s ∧ s.prio = q.2 ∧ s.first.isSome = true
theorem src_low {w w' : World} {A : Option Addr} {news : List Value} (h : ∀ j u, news[j]? = some u → ∃ ad, A = some ad ∧ w.cell? (ad.add j) = some u) (hB : Below w.heap.size w w') : ∀ j u, news[j]? = some u → ∃ ad, A = some ad ∧ w'.cell? (ad.add j) = some u := fun j u hj => by
  obtain ⟨ad, rfl, hc⟩ := h j u hj
  exact ⟨ad, rfl, (hB.cell (p := ad.add j) (World.block_lt_of_cell? w _ hc)).trans hc⟩
/-- behind the copy of the packets -/
theorem nx_row {w4 w8 : World} {b1 b7 m n c cL : Nat} {a aL : Option Addr} {now i1 i2 i3 i5 : Int} {i4 : Bool} {v8 : Value} {xs : List Value} (h1 : Blk w4 b1 45 [.int .i64 now, .slice a n c]) (h2 : Blk w4 (b1 + 1) 45 [.int .i64 0, .slice none 0 0]) (h7 : Blk w4 b7 78 [.int .i64 i1, .int .i64 i2, .int .i64 i3, .bool i4, .slice aL m cL, .int .i64 i5]) (hm : 0 < m) (hne : b1 ≠ b7 ∧ b1 + 1 ≠ b7)
    (how : w8.ownsRow w4.heap.size 81 3 v8 (0 + m) ([] ++ xs)) (hg : (w4.alloc (.cells #[] 81)).grownBy w8 (Value.slice (some ⟨w4.heap.size, 0, none⟩) 0 0).ownBlock) :
    ∃ g c8, v8 = .slice (some ⟨g, 0, none⟩) m c8 ∧ m ≤ c8 ∧ c8 ≤ maxLen ∧ w4.heap.size ≤ g ∧ (w8.cell? ⟨b7, 4, none⟩ = some (.slice aL m cL) ∧ w8.frozen? ⟨b7, 4, none⟩ = false ∧ b7 < w8.heap.size) ∧
      (Blk (w8.setCell ⟨b7, 4, none⟩ v8) b1 45 [.int .i64 now, .slice a n c] ∧ Blk (w8.setCell ⟨b7, 4, none⟩ v8) (b1 + 1) 45 [.int .i64 0, .slice none 0 0] ∧ Blk (w8.setCell ⟨b7, 4, none⟩ v8) b7 78 [.int .i64 i1, .int .i64 i2, .int .i64 i3, .bool i4, v8, .int .i64 i5]) ∧
      (w8.setCell ⟨b7, 4, none⟩ v8).ownsRow w4.heap.size 81 3 v8 m xs ∧ Below b7 w4 (w8.setCell ⟨b7, 4, none⟩ v8) := by
  rw [Nat.zero_add, List.nil_append] at how
  have hB : Below w4.heap.size w4 w8 := (al (Below.refl _ _) _).grown hg (by simp) (fun k e => by simp [Value.ownBlock] at e; omega)
  have e1 := h1.below hB (Nat.le_refl _)
  have e2 := h2.below hB (Nat.le_refl _)
  have e7 := h7.below hB (Nat.le_refl _)
  have hlt := h7.lt
  have hown := own_set (p := ⟨b7, 4, none⟩) how (own_ne how e7 (by decide)) v8
  rcases how.2 with ⟨-, h0⟩ | ⟨g, cap, cur, rfl, q1, q2, q3, q4, q5, q6⟩
  · omega
  · exact ⟨g, cap, rfl, q3, q4, q1, ⟨e7.at 4 rfl, e7.free 4, e7.lt⟩, ⟨e1.setOther (p := ⟨b7, 4, none⟩) (fun e => hne.1 e.symm) _, e2.setOther (p := ⟨b7, 4, none⟩) (fun e => hne.2 e.symm) _, Blk.cast (e7.setCell 4 _) rfl⟩, hown, (hB.mono (Nat.le_of_lt hlt)).setCell (p := ⟨b7, 4, none⟩) (Nat.le_refl _) _⟩
/-- what the last region reads lies where it lay -/
theorem nx_keep {w5 : World} {b1 b7 g o m c8 c dl cd : Nat} {a ad aL : Option Addr} {z0 i1 i2 i3 i5 : Int} {i4 : Bool} (now : Int) (a5 : Option Addr) (n c5 : Nat) (h1 : Blk w5 b1 45 [.int .i64 z0, .slice a n c]) (h7 : Blk w5 b7 78 [.int .i64 i1, .int .i64 i2, .int .i64 i3, .bool i4, .slice aL m c8, .int .i64 i5]) (hg : w5.cell? ⟨g, o, none⟩ = some (.slice ad dl cd)) (hn7 : b1 + 1 ≠ b7) (hng : b1 + 1 ≠ g) :
    (w5.cell? ⟨b1, 0, none⟩ = some (.int .i64 z0) ∧ w5.cell? ⟨b1, 1, none⟩ = some (.slice a n c) ∧ w5.cell? ⟨b7, 0, none⟩ = some (.int .i64 i1) ∧ w5.cell? ⟨b7, 1, none⟩ = some (.int .i64 i2) ∧ w5.cell? ⟨b7, 2, none⟩ = some (.int .i64 i3) ∧ w5.cell? ⟨b7, 3, none⟩ = some (.bool i4) ∧ w5.cell? ⟨b7, 4, none⟩ = some (.slice aL m c8) ∧ w5.cell? ⟨b7, 5, none⟩ = some (.int .i64 i5) ∧ w5.cell? ⟨g, o, none⟩ = some (.slice ad dl cd)) ∧
    (((w5.setCell ⟨b1 + 1, 0, none⟩ (.int .i64 now)).setCell ⟨b1 + 1, 1, none⟩ (.slice a5 n c5)).cell? ⟨b1, 0, none⟩ = some (.int .i64 z0) ∧ ((w5.setCell ⟨b1 + 1, 0, none⟩ (.int .i64 now)).setCell ⟨b1 + 1, 1, none⟩ (.slice a5 n c5)).cell? ⟨b1, 1, none⟩ = some (.slice a n c) ∧ ((w5.setCell ⟨b1 + 1, 0, none⟩ (.int .i64 now)).setCell ⟨b1 + 1, 1, none⟩ (.slice a5 n c5)).cell? ⟨b7, 0, none⟩ = some (.int .i64 i1) ∧ ((w5.setCell ⟨b1 + 1, 0, none⟩ (.int .i64 now)).setCell ⟨b1 + 1, 1, none⟩ (.slice a5 n c5)).cell? ⟨b7, 1, none⟩ = some (.int .i64 i2) ∧ ((w5.setCell ⟨b1 + 1, 0, none⟩ (.int .i64 now)).setCell ⟨b1 + 1, 1, none⟩ (.slice a5 n c5)).cell? ⟨b7, 2, none⟩ = some (.int .i64 i3) ∧ ((w5.setCell ⟨b1 + 1, 0, none⟩ (.int .i64 now)).setCell ⟨b1 + 1, 1, none⟩ (.slice a5 n c5)).cell? ⟨b7, 3, none⟩ = some (.bool i4) ∧ ((w5.setCell ⟨b1 + 1, 0, none⟩ (.int .i64 now)).setCell ⟨b1 + 1, 1, none⟩ (.slice a5 n c5)).cell? ⟨b7, 4, none⟩ = some (.slice aL m c8) ∧ ((w5.setCell ⟨b1 + 1, 0, none⟩ (.int .i64 now)).setCell ⟨b1 + 1, 1, none⟩ (.slice a5 n c5)).cell? ⟨b7, 5, none⟩ = some (.int .i64 i5) ∧ ((w5.setCell ⟨b1 + 1, 0, none⟩ (.int .i64 now)).setCell ⟨b1 + 1, 1, none⟩ (.slice a5 n c5)).cell? ⟨g, o, none⟩ = some (.slice ad dl cd)) := by
  have k1 := (h1.setOther (p := ⟨b1 + 1, 0, none⟩) (by show b1 + 1 ≠ b1; omega) (.int .i64 now)).setOther (p := ⟨b1 + 1, 1, none⟩) (by show b1 + 1 ≠ b1; omega) (.slice a5 n c5)
  have k7 := (h7.setOther (p := ⟨b1 + 1, 0, none⟩) hn7 (.int .i64 now)).setOther (p := ⟨b1 + 1, 1, none⟩) hn7 (.slice a5 n c5)
  have hfr := ((Fr.refl (fun k => k = b1 + 1) w5).set1 (b := b1 + 1) (i := 0) (.int .i64 now) (.inl rfl)).set1 (b := b1 + 1) (i := 1) (.slice a5 n c5) (.inl rfl)
  have kg := (Fr.cell hfr (p := ⟨g, o, none⟩) (World.block_lt_of_cell? w5 _ hg) (fun e => hng (Eq.symm e))).trans hg
  exact ⟨⟨h1.at 0 rfl, h1.at 1 rfl, h7.at 0 rfl, h7.at 1 rfl, h7.at 2 rfl, h7.at 3 rfl, h7.at 4 rfl, h7.at 5 rfl, hg⟩, k1.at 0 rfl, k1.at 1 rfl, k7.at 0 rfl, k7.at 1 rfl, k7.at 2 rfl, k7.at 3 rfl, k7.at 4 rfl, k7.at 5 rfl, kg⟩
set_option maxRecDepth 20000 in
set_option maxHeartbeats 4000000 in
theorem rNext_any {w : World} {a : Option Addr} {n c : Nat} {r : RS} (h : RV w r a n c) (ok : r.Ok) : Calls Try.prog 19 #[.agg #[.int .i64 r.now, .slice a n c]] w (RQ3 r.now w r.next) := by
  have hn : n ≤ 1000 := by rw [← h.len]; have := ok.few; omega
  have hc := h.le
  have hm := h.max
  obtain ⟨now, hnow⟩ : ∃ x, x = r.now := ⟨_, rfl⟩
  rw [← hnow]
  have H := Lib.hid h
  have OK := Lib.hid ok
  clear h ok hnow
  go_enter Try.func19, Try.ntmps19
  go_upto_region 1 with fail
  obtain ⟨b1, hb1⟩ : ∃ x, x = w.heap.size := ⟨_, rfl⟩
  obtain ⟨w1, hw1⟩ : ∃ w1, w1 = (w.alloc (.cells #[.int .i64 now, .slice a n c] 45)).alloc (.cells #[.int .i64 0, .slice none 0 0] 45) := ⟨_, rfl⟩
  have HB1 := Lib.hid (show Below w.heap.size w w1 by rw [hw1]; exact al (al (Below.refl _ _) _) _)
  have HK1 : Hid (Blk w1 b1 45 [.int .i64 now, .slice a n c]) := Lib.hid (by rw [hw1, hb1]; exact (Blk.new w 45 _).alloc _)
  have HK2 : Hid (Blk w1 (b1 + 1) 45 [.int .i64 0, .slice none 0 0]) := Lib.hid (by rw [hw1, hb1]; exact Blk.newAt (xs := [.int .i64 0, .slice none 0 0]) (T := 45) (n := w.heap.size + 1) (by simp))
  have HBE := Lib.hid hb1
  rw [← hw1, ← hb1]
  clear hw1 hb1
  go_wp2_with fail
  go_loopg [5, 6] (n + 1) (fun gk v5 v6 wr => ∃ (k : Nat) (at_ : Option (Nat × Int)), k ≤ n ∧ n - k < gk ∧ v6 = .int .i64 (k : Int) ∧ Hid (v5 = .int .i64 (bestI at_)) ∧ Hid (bestOk r at_) ∧ Hid (Below w.heap.size w wr) ∧ Hid (Blk wr b1 45 [.int .i64 now, .slice a n c]) ∧ Hid (Blk wr (b1 + 1) 45 [.int .i64 0, .slice none 0 0]) ∧ Hid (bestFrom r.stores 0 none = bestFrom (r.stores.drop k) k at_))
  case atStart => exact ⟨0, none, Nat.zero_le _, by omega, rfl, Lib.hid rfl, Lib.hid trivial, HB1, HK1, HK2, Lib.hid rfl⟩
  case round =>
    obtain ⟨k, at_, hk, hgk, rfl, HV5, HBO, HB, J1, J2, HBF⟩ := hrel
    have c1 := J1.out.at 1 rfl
    have bl := J1.out.lt
    by_cases hlt : k < n
    · obtain ⟨s, hs⟩ : ∃ s, r.stores[k]? = some s := ⟨_, List.getElem?_eq_getElem (by rw [H.out.len]; exact hlt)⟩
      have HS := Lib.hid hs
      have HSO := Lib.hid (OK.out.each s (List.mem_of_getElem? hs))
      obtain ⟨bR, oR, rfl, hbR, -, hsk⟩ : ∃ b off, a = some ⟨b, off, none⟩ ∧ b < w.heap.size ∧ ¬ RkX w b ∧ ∀ (i : Nat) (s : St), r.stores[i]? = some s → SkAt w b (off + i * 6) s := by
        rcases H.out.at_ with h1 | h1
        · rw [h1] at hs; cases hs
        · exact h1
      have HSK := Lib.hid hsk
      obtain ⟨q0, q1, q2, q3, ⟨aL, cL, q4, q5, q6, q7⟩, q8⟩ := hsk k s hs
      obtain ⟨m, hm9⟩ : ∃ x, x = s.L.length := ⟨_, rfl⟩
      rw [← hm9] at q4 q5
      have HM := Lib.hid hm9.symm
      have HPd : Hid (PkAt wr.drew aL s.L) := Lib.hid (q7.low (HB.out.trans (Quiet.below (w := wr) ⟨1, rfl⟩)))
      have k0 := (HB.out.cell (p := ⟨bR, _, none⟩) hbR).trans q0
      have k1 := (HB.out.cell (p := ⟨bR, _, none⟩) hbR).trans q1
      have k2 := (HB.out.cell (p := ⟨bR, _, none⟩) hbR).trans q2
      have k3 := (HB.out.cell (p := ⟨bR, _, none⟩) hbR).trans q3
      have k4 := (HB.out.cell (p := ⟨bR, _, none⟩) hbR).trans q4
      have k5 := (HB.out.cell (p := ⟨bR, _, none⟩) hbR).trans q8
      obtain ⟨i1, hi1⟩ : ∃ x, x = s.id := ⟨_, rfl⟩
      obtain ⟨i2, hi2⟩ : ∃ x, x = s.room := ⟨_, rfl⟩
      obtain ⟨i3, hi3⟩ : ∃ x, x = s.prio := ⟨_, rfl⟩
      obtain ⟨i4, hi4⟩ : ∃ x, x = s.circ := ⟨_, rfl⟩
      obtain ⟨i5, hi5⟩ : ∃ x, x = (s.drop : Int) := ⟨_, rfl⟩
      rw [← hi1] at k0
      rw [← hi2] at k1
      rw [← hi3] at k2
      rw [← hi4] at k3
      rw [← hi5] at k5
      have HPR := Lib.hid hi3
      have hmb : m ≤ 2147483648 := by rw [← HM.out]; exact len_room HSO.out
      have hbw : bR < wr.heap.size := Nat.lt_of_lt_of_le hbR HB.out.size
      have e1 : (k : Int) < (n : Int) := by omega
      have e2 : ¬ (k : Int) < 0 := by omega
      clear hs hsk q0 q1 q2 q3 q4 q7 q8 hm9 hi1 hi2 hi3 hi4 hi5
      cases hf : s.first with
      | none =>
        have HF : Hid (s.L.findIdx? (·.want) = none) := Lib.hid hf
        clear hf
        go_upto_region 5 with fail
        refine wp_region_held_drew (S := (fun w' => w'.cell? ⟨b1, 1, none⟩ = some (.slice (some ⟨bR, oR, none⟩) n c) ∧ w'.cell? ⟨bR, oR + k * 6, none⟩ = some (.int .i64 i1) ∧ w'.cell? ⟨bR, oR + k * 6 + 1, none⟩ = some (.int .i64 i2) ∧ w'.cell? ⟨bR, oR + k * 6 + 2, none⟩ = some (.int .i64 i3) ∧ w'.cell? ⟨bR, oR + k * 6 + 3, none⟩ = some (.bool i4) ∧ w'.cell? ⟨bR, oR + k * 6 + 4, none⟩ = some (.slice aL m cL) ∧ w'.cell? ⟨bR, oR + k * 6 + 5, none⟩ = some (.int .i64 i5))) (by kernel_rfl) (by (try dsimp only); (first | exact ⟨by assumption, by assumption, by assumption, by assumption, by assumption, by assumption, by assumption⟩ | go_keep)) (fun hHeld => ?_)
        refine wpAnyH_take (i := 0) (oi := (Oper.mk (some 16) (Op.fieldAddr 45 (Operand.tmp 1) 1) 0 "ref.go:128" #[] none)) (v := ?_) rfl (by kernel_rfl) (by kernel_rfl) (by kernel_rfl) (fun _ _ _ h => h) (Or.inl ⟨by rfl, ?_⟩) (by assumption) ?_
        rotate_left
        · (intro w hSw; (try dsimp only at hSw); go_simp; first | done | with_reducible rfl)
        (try simp only [Act.put, List.setIfInBounds_toArray, List.set_cons_zero, List.set_cons_succ])
        refine wpAnyH_take (i := 1) (oi := (Oper.mk (some 17) (Op.load 43 (Operand.tmp 16)) 43 "ref.go:128" #[Edge.mk 0 Ground.data] none)) (v := ?_) rfl (by kernel_rfl) (by kernel_rfl) (by kernel_rfl) (fun _ _ _ h => h) (Or.inl ⟨by rfl, ?_⟩) (by assumption) ?_
        rotate_left
        · (intro w hSw; (try dsimp only at hSw); go_simp; first | done | with_reducible rfl)
        (try simp only [Act.put, List.setIfInBounds_toArray, List.set_cons_zero, List.set_cons_succ])
        refine wpAnyH_take (i := 2) (oi := (Oper.mk (some 18) (Op.move (Operand.tmp 6)) 3 "ref.go:128" #[] none)) (v := ?_) rfl (by kernel_rfl) (by kernel_rfl) (by kernel_rfl) (fun _ _ _ h => h) (Or.inl ⟨by rfl, ?_⟩) (by assumption) ?_
        rotate_left
        · (intro w hSw; (try dsimp only at hSw); go_simp; first | done | with_reducible rfl)
        (try simp only [Act.put, List.setIfInBounds_toArray, List.set_cons_zero, List.set_cons_succ])
        refine wpAnyH_take (i := 3) (oi := (Oper.mk (some 19) (Op.indexAddr 43 (Operand.tmp 17) (Operand.tmp 18)) 0 "ref.go:128" #[Edge.mk 1 Ground.data, Edge.mk 2 Ground.data] none)) (v := ?_) rfl (by kernel_rfl) (by kernel_rfl) (by kernel_rfl) (fun _ _ _ h => h) (Or.inl ⟨by rfl, ?_⟩) (by assumption) ?_
        rotate_left
        · (intro w hSw; (try dsimp only at hSw); go_simp; first | done | with_reducible rfl)
        (try simp only [Act.put, List.setIfInBounds_toArray, List.set_cons_zero, List.set_cons_succ])
        refine wpAnyH_take (i := 4) (oi := (Oper.mk (some 20) (Op.load 78 (Operand.tmp 19)) 78 "ref.go:128" #[Edge.mk 3 Ground.data] none)) (v := ?_) rfl (by kernel_rfl) (by kernel_rfl) (by kernel_rfl) (fun _ _ _ h => h) (Or.inl ⟨by rfl, ?_⟩) (by assumption) ?_
        rotate_left
        · (intro w hSw; (try dsimp only at hSw); go_simp; first | done | with_reducible rfl)
        (try simp only [Act.put, List.setIfInBounds_toArray, List.set_cons_zero, List.set_cons_succ])
        refine wpAnyH_ready (rs := [5]) (by kernel_rfl) (by simp) ?_
        refine AllReadyH.cons (o := (Oper.mk (some 21) (Op.call (Call.mk (Callee.value (Operand.func 32)) #[Operand.tmp 20] #[78])) 3 "ref.go:128" #[Edge.mk 4 Ground.data] none)) rfl (fun K hK => ?_) (AllReadyH.nil)
        go_simp
        (go_at_call 32; refine (rfirst_any i1 i2 i3 i4 i5 HPd.out HM.out hmb q5 q6).mono ?_; rintro e w3 ⟨he, hB3⟩; rw [HF.out] at he; obtain rfl : e = .returned (.int .i64 (-1)) := he; have HB3 := Lib.hid (undrew hB3); have n1 := (HB3.out.cell (p := ⟨b1, 1, none⟩) bl).trans c1; have m0 := (HB3.out.cell (p := ⟨bR, _, none⟩) hbw).trans k0; have m1 := (HB3.out.cell (p := ⟨bR, _, none⟩) hbw).trans k1; have m2 := (HB3.out.cell (p := ⟨bR, _, none⟩) hbw).trans k2; have m3 := (HB3.out.cell (p := ⟨bR, _, none⟩) hbw).trans k3; have m4 := (HB3.out.cell (p := ⟨bR, _, none⟩) hbw).trans k4; have m5 := (HB3.out.cell (p := ⟨bR, _, none⟩) hbw).trans k5; clear hB3)
        refine hK.out _ _ (by (try dsimp only); (first | exact ⟨by assumption, by assumption, by assumption, by assumption, by assumption, by assumption, by assumption⟩ | go_keep)) (fun hHeld => ?_)
        clear hK K
        (try simp only [Act.put, List.setIfInBounds_toArray, List.set_cons_zero, List.set_cons_succ])
        refine wpAnyH_take (i := 6) (oi := (Oper.mk (some 22) (Op.binOp BinOp.geq 3 (Operand.tmp 21) (Operand.const (Value.int IntKind.i64 0)) 3) 4 "ref.go:128" #[Edge.mk 5 Ground.data] none)) (v := ?_) rfl (by kernel_rfl) (by kernel_rfl) (by kernel_rfl) (fun _ _ _ h => h) (Or.inl ⟨by rfl, ?_⟩) (by assumption) ?_
        rotate_left
        · (intro w hSw; (try dsimp only at hSw); go_simp; first | done | with_reducible rfl)
        (try simp only [Act.put, List.setIfInBounds_toArray, List.set_cons_zero, List.set_cons_succ])
        refine wpAnyH_take (i := 7) (oi := (Oper.mk (some 23) (Op.move (Operand.tmp 22)) 4 "ref.go:128" #[Edge.mk 6 Ground.data, Edge.mk 5 Ground.chain] none)) (v := ?_) rfl (by kernel_rfl) (by kernel_rfl) (by kernel_rfl) (fun _ _ _ h => h) (Or.inl ⟨by rfl, ?_⟩) (by assumption) ?_
        rotate_left
        · (intro w hSw; (try dsimp only at hSw); go_simp; first | done | with_reducible rfl)
        (try simp only [Act.put, List.setIfInBounds_toArray, List.set_cons_zero, List.set_cons_succ])
        refine wpAnyH_take (i := 8) (oi := (Oper.mk (some 24) (Op.move (Operand.tmp 5)) 3 "ref.go:128" #[Edge.mk 7 Ground.guard] (some (7, true)))) (v := undef) rfl (by kernel_rfl) (by kernel_rfl) (by kernel_rfl) (fun _ _ _ h => h) (Or.inr ⟨by rfl, rfl⟩) (by assumption) ?_
        (try simp only [Act.put, List.setIfInBounds_toArray, List.set_cons_zero, List.set_cons_succ])
        refine wpAnyH_take (i := 9) (oi := (Oper.mk (some 25) (Op.binOp BinOp.lss 3 (Operand.tmp 24) (Operand.const (Value.int IntKind.i64 0)) 3) 4 "ref.go:128" #[Edge.mk 8 Ground.data, Edge.mk 7 Ground.guard] (some (7, true)))) (v := undef) rfl (by kernel_rfl) (by kernel_rfl) (by kernel_rfl) (fun _ _ _ h => h) (Or.inr ⟨by rfl, rfl⟩) (by assumption) ?_
        (try simp only [Act.put, List.setIfInBounds_toArray, List.set_cons_zero, List.set_cons_succ])
        refine wpAnyH_take (i := 10) (oi := (Oper.mk (some 26) (Op.move (Operand.tmp 25)) 4 "ref.go:128" #[Edge.mk 9 Ground.data, Edge.mk 7 Ground.chain, Edge.mk 7 Ground.guard] (some (7, true)))) (v := undef) rfl (by kernel_rfl) (by kernel_rfl) (by kernel_rfl) (fun _ _ _ h => h) (Or.inr ⟨by rfl, rfl⟩) (by assumption) ?_
        (try simp only [Act.put, List.setIfInBounds_toArray, List.set_cons_zero, List.set_cons_succ])
        refine wpAnyH_take (i := 11) (oi := (Oper.mk (some 27) (Op.fieldAddr 45 (Operand.tmp 1) 1) 0 "ref.go:128" #[Edge.mk 10 Ground.guard] (some (10, false)))) (v := undef) rfl (by kernel_rfl) (by kernel_rfl) (by kernel_rfl) (fun _ _ _ h => h) (Or.inr ⟨by rfl, rfl⟩) (by assumption) ?_
        (try simp only [Act.put, List.setIfInBounds_toArray, List.set_cons_zero, List.set_cons_succ])
        refine wpAnyH_take (i := 12) (oi := (Oper.mk (some 28) (Op.load 43 (Operand.tmp 27)) 43 "ref.go:128" #[Edge.mk 11 Ground.data, Edge.mk 10 Ground.guard] (some (10, false)))) (v := undef) rfl (by kernel_rfl) (by kernel_rfl) (by kernel_rfl) (fun _ _ _ h => h) (Or.inr ⟨by rfl, rfl⟩) (by assumption) ?_
        (try simp only [Act.put, List.setIfInBounds_toArray, List.set_cons_zero, List.set_cons_succ])
        refine wpAnyH_take (i := 13) (oi := (Oper.mk (some 29) (Op.move (Operand.tmp 6)) 3 "ref.go:128" #[Edge.mk 10 Ground.guard] (some (10, false)))) (v := undef) rfl (by kernel_rfl) (by kernel_rfl) (by kernel_rfl) (fun _ _ _ h => h) (Or.inr ⟨by rfl, rfl⟩) (by assumption) ?_
        (try simp only [Act.put, List.setIfInBounds_toArray, List.set_cons_zero, List.set_cons_succ])
        refine wpAnyH_take (i := 14) (oi := (Oper.mk (some 30) (Op.indexAddr 43 (Operand.tmp 28) (Operand.tmp 29)) 0 "ref.go:128" #[Edge.mk 12 Ground.data, Edge.mk 13 Ground.data, Edge.mk 10 Ground.guard] (some (10, false)))) (v := undef) rfl (by kernel_rfl) (by kernel_rfl) (by kernel_rfl) (fun _ _ _ h => h) (Or.inr ⟨by rfl, rfl⟩) (by assumption) ?_
        (try simp only [Act.put, List.setIfInBounds_toArray, List.set_cons_zero, List.set_cons_succ])
        refine wpAnyH_take (i := 15) (oi := (Oper.mk (some 31) (Op.fieldAddr 78 (Operand.tmp 30) 0) 0 "ref.go:128" #[Edge.mk 14 Ground.data, Edge.mk 10 Ground.guard] (some (10, false)))) (v := undef) rfl (by kernel_rfl) (by kernel_rfl) (by kernel_rfl) (fun _ _ _ h => h) (Or.inr ⟨by rfl, rfl⟩) (by assumption) ?_
        (try simp only [Act.put, List.setIfInBounds_toArray, List.set_cons_zero, List.set_cons_succ])
        refine wpAnyH_take (i := 16) (oi := (Oper.mk (some 32) (Op.fieldAddr 29 (Operand.tmp 31) 2) 0 "ref.go:128" #[Edge.mk 15 Ground.data, Edge.mk 10 Ground.guard] (some (10, false)))) (v := undef) rfl (by kernel_rfl) (by kernel_rfl) (by kernel_rfl) (fun _ _ _ h => h) (Or.inr ⟨by rfl, rfl⟩) (by assumption) ?_
        (try simp only [Act.put, List.setIfInBounds_toArray, List.set_cons_zero, List.set_cons_succ])
        refine wpAnyH_take (i := 17) (oi := (Oper.mk (some 33) (Op.load 3 (Operand.tmp 32)) 3 "ref.go:128" #[Edge.mk 16 Ground.data, Edge.mk 10 Ground.guard] (some (10, false)))) (v := undef) rfl (by kernel_rfl) (by kernel_rfl) (by kernel_rfl) (fun _ _ _ h => h) (Or.inr ⟨by rfl, rfl⟩) (by assumption) ?_
        (try simp only [Act.put, List.setIfInBounds_toArray, List.set_cons_zero, List.set_cons_succ])
        refine wpAnyH_take (i := 18) (oi := (Oper.mk (some 34) (Op.fieldAddr 45 (Operand.tmp 1) 1) 0 "ref.go:128" #[Edge.mk 10 Ground.guard] (some (10, false)))) (v := undef) rfl (by kernel_rfl) (by kernel_rfl) (by kernel_rfl) (fun _ _ _ h => h) (Or.inr ⟨by rfl, rfl⟩) (by assumption) ?_
        (try simp only [Act.put, List.setIfInBounds_toArray, List.set_cons_zero, List.set_cons_succ])
        refine wpAnyH_take (i := 19) (oi := (Oper.mk (some 35) (Op.load 43 (Operand.tmp 34)) 43 "ref.go:128" #[Edge.mk 18 Ground.data, Edge.mk 10 Ground.guard] (some (10, false)))) (v := undef) rfl (by kernel_rfl) (by kernel_rfl) (by kernel_rfl) (fun _ _ _ h => h) (Or.inr ⟨by rfl, rfl⟩) (by assumption) ?_
        (try simp only [Act.put, List.setIfInBounds_toArray, List.set_cons_zero, List.set_cons_succ])
        refine wpAnyH_take (i := 20) (oi := (Oper.mk (some 36) (Op.move (Operand.tmp 5)) 3 "ref.go:128" #[Edge.mk 10 Ground.guard] (some (10, false)))) (v := undef) rfl (by kernel_rfl) (by kernel_rfl) (by kernel_rfl) (fun _ _ _ h => h) (Or.inr ⟨by rfl, rfl⟩) (by assumption) ?_
        (try simp only [Act.put, List.setIfInBounds_toArray, List.set_cons_zero, List.set_cons_succ])
        refine wpAnyH_take (i := 21) (oi := (Oper.mk (some 37) (Op.indexAddr 43 (Operand.tmp 35) (Operand.tmp 36)) 0 "ref.go:128" #[Edge.mk 19 Ground.data, Edge.mk 20 Ground.data, Edge.mk 10 Ground.guard] (some (10, false)))) (v := undef) rfl (by kernel_rfl) (by kernel_rfl) (by kernel_rfl) (fun _ _ _ h => h) (Or.inr ⟨by rfl, rfl⟩) (by assumption) ?_
        (try simp only [Act.put, List.setIfInBounds_toArray, List.set_cons_zero, List.set_cons_succ])
        refine wpAnyH_take (i := 22) (oi := (Oper.mk (some 38) (Op.fieldAddr 78 (Operand.tmp 37) 0) 0 "ref.go:128" #[Edge.mk 21 Ground.data, Edge.mk 10 Ground.guard] (some (10, false)))) (v := undef) rfl (by kernel_rfl) (by kernel_rfl) (by kernel_rfl) (fun _ _ _ h => h) (Or.inr ⟨by rfl, rfl⟩) (by assumption) ?_
        (try simp only [Act.put, List.setIfInBounds_toArray, List.set_cons_zero, List.set_cons_succ])
        refine wpAnyH_take (i := 23) (oi := (Oper.mk (some 39) (Op.fieldAddr 29 (Operand.tmp 38) 2) 0 "ref.go:128" #[Edge.mk 22 Ground.data, Edge.mk 10 Ground.guard] (some (10, false)))) (v := undef) rfl (by kernel_rfl) (by kernel_rfl) (by kernel_rfl) (fun _ _ _ h => h) (Or.inr ⟨by rfl, rfl⟩) (by assumption) ?_
        (try simp only [Act.put, List.setIfInBounds_toArray, List.set_cons_zero, List.set_cons_succ])
        refine wpAnyH_take (i := 24) (oi := (Oper.mk (some 40) (Op.load 3 (Operand.tmp 39)) 3 "ref.go:128" #[Edge.mk 23 Ground.data, Edge.mk 10 Ground.guard] (some (10, false)))) (v := undef) rfl (by kernel_rfl) (by kernel_rfl) (by kernel_rfl) (fun _ _ _ h => h) (Or.inr ⟨by rfl, rfl⟩) (by assumption) ?_
        (try simp only [Act.put, List.setIfInBounds_toArray, List.set_cons_zero, List.set_cons_succ])
        refine wpAnyH_take (i := 25) (oi := (Oper.mk (some 41) (Op.binOp BinOp.lss 3 (Operand.tmp 33) (Operand.tmp 40) 3) 4 "ref.go:128" #[Edge.mk 17 Ground.data, Edge.mk 24 Ground.data, Edge.mk 10 Ground.guard] (some (10, false)))) (v := undef) rfl (by kernel_rfl) (by kernel_rfl) (by kernel_rfl) (fun _ _ _ h => h) (Or.inr ⟨by rfl, rfl⟩) (by assumption) ?_
        (try simp only [Act.put, List.setIfInBounds_toArray, List.set_cons_zero, List.set_cons_succ])
        refine wpAnyH_take (i := 26) (oi := (Oper.mk (some 42) (Op.pick (Operand.tmp 26) (Operand.const (Value.bool true)) (Operand.tmp 41)) 4 "ref.go:128" #[Edge.mk 10 Ground.data, Edge.mk 25 Ground.data, Edge.mk 7 Ground.guard] (some (7, true)))) (v := undef) rfl (by kernel_rfl) (by kernel_rfl) (by kernel_rfl) (fun _ _ _ h => h) (Or.inr ⟨by rfl, rfl⟩) (by assumption) ?_
        (try simp only [Act.put, List.setIfInBounds_toArray, List.set_cons_zero, List.set_cons_succ])
        refine wpAnyH_take (i := 27) (oi := (Oper.mk (some 43) (Op.pick (Operand.tmp 23) (Operand.tmp 42) (Operand.const (Value.bool false))) 4 "ref.go:128" #[Edge.mk 7 Ground.data, Edge.mk 26 Ground.data] none)) (v := ?_) rfl (by kernel_rfl) (by kernel_rfl) (by kernel_rfl) (fun _ _ _ h => h) (Or.inl ⟨by rfl, ?_⟩) (by assumption) ?_
        rotate_left
        · (intro w hSw; (try dsimp only at hSw); go_simp; first | done | with_reducible rfl)
        (try simp only [Act.put, List.setIfInBounds_toArray, List.set_cons_zero, List.set_cons_succ])
        refine wpAnyH_done (by kernel_rfl) ?_ _
        all_goals
          go_wp2_with fail
          go_roundg (gk - 1)
          case rel => exact ⟨k + 1, at_, by omega, by omega, by go_num, HV5, HBO, Lib.hid (HB.out.trans (HB3.out.mono HB.out.size)), Lib.hid (J1.out.below HB3.out (Nat.le_refl _)), Lib.hid (J2.out.below HB3.out (Nat.le_refl _)), Lib.hid (by have h9 := best_step HS.out _ HBF.out; rw [if_neg (by rw [show s.first = none from HF.out]; simp)] at h9; exact h9)⟩
          case measure => omega
      | some kf =>
        have HF : Hid (s.L.findIdx? (·.want) = some kf) := Lib.hid hf
        have e3 : (0 : Int) ≤ (kf : Int) := by omega
        have e4 : ¬ (kf : Int) < 0 := by omega
        clear hf
        cases hat : at_ with
        | none =>
          subst hat
          obtain rfl : u5 = .int .i64 (-1) := HV5.out
          go_upto_region 5 with fail
          refine wp_region_held_drew (S := (fun w' => w'.cell? ⟨b1, 1, none⟩ = some (.slice (some ⟨bR, oR, none⟩) n c) ∧ w'.cell? ⟨bR, oR + k * 6, none⟩ = some (.int .i64 i1) ∧ w'.cell? ⟨bR, oR + k * 6 + 1, none⟩ = some (.int .i64 i2) ∧ w'.cell? ⟨bR, oR + k * 6 + 2, none⟩ = some (.int .i64 i3) ∧ w'.cell? ⟨bR, oR + k * 6 + 3, none⟩ = some (.bool i4) ∧ w'.cell? ⟨bR, oR + k * 6 + 4, none⟩ = some (.slice aL m cL) ∧ w'.cell? ⟨bR, oR + k * 6 + 5, none⟩ = some (.int .i64 i5))) (by kernel_rfl) (by (try dsimp only); (first | exact ⟨by assumption, by assumption, by assumption, by assumption, by assumption, by assumption, by assumption⟩ | go_keep)) (fun hHeld => ?_)
          refine wpAnyH_take (i := 0) (oi := (Oper.mk (some 16) (Op.fieldAddr 45 (Operand.tmp 1) 1) 0 "ref.go:128" #[] none)) (v := ?_) rfl (by kernel_rfl) (by kernel_rfl) (by kernel_rfl) (fun _ _ _ h => h) (Or.inl ⟨by rfl, ?_⟩) (by assumption) ?_
          rotate_left
          · (intro w hSw; (try dsimp only at hSw); go_simp; first | done | with_reducible rfl)
          (try simp only [Act.put, List.setIfInBounds_toArray, List.set_cons_zero, List.set_cons_succ])
          refine wpAnyH_take (i := 1) (oi := (Oper.mk (some 17) (Op.load 43 (Operand.tmp 16)) 43 "ref.go:128" #[Edge.mk 0 Ground.data] none)) (v := ?_) rfl (by kernel_rfl) (by kernel_rfl) (by kernel_rfl) (fun _ _ _ h => h) (Or.inl ⟨by rfl, ?_⟩) (by assumption) ?_
          rotate_left
          · (intro w hSw; (try dsimp only at hSw); go_simp; first | done | with_reducible rfl)
          (try simp only [Act.put, List.setIfInBounds_toArray, List.set_cons_zero, List.set_cons_succ])
          refine wpAnyH_take (i := 2) (oi := (Oper.mk (some 18) (Op.move (Operand.tmp 6)) 3 "ref.go:128" #[] none)) (v := ?_) rfl (by kernel_rfl) (by kernel_rfl) (by kernel_rfl) (fun _ _ _ h => h) (Or.inl ⟨by rfl, ?_⟩) (by assumption) ?_
          rotate_left
          · (intro w hSw; (try dsimp only at hSw); go_simp; first | done | with_reducible rfl)
          (try simp only [Act.put, List.setIfInBounds_toArray, List.set_cons_zero, List.set_cons_succ])
          refine wpAnyH_take (i := 3) (oi := (Oper.mk (some 19) (Op.indexAddr 43 (Operand.tmp 17) (Operand.tmp 18)) 0 "ref.go:128" #[Edge.mk 1 Ground.data, Edge.mk 2 Ground.data] none)) (v := ?_) rfl (by kernel_rfl) (by kernel_rfl) (by kernel_rfl) (fun _ _ _ h => h) (Or.inl ⟨by rfl, ?_⟩) (by assumption) ?_
          rotate_left
          · (intro w hSw; (try dsimp only at hSw); go_simp; first | done | with_reducible rfl)
          (try simp only [Act.put, List.setIfInBounds_toArray, List.set_cons_zero, List.set_cons_succ])
          refine wpAnyH_take (i := 4) (oi := (Oper.mk (some 20) (Op.load 78 (Operand.tmp 19)) 78 "ref.go:128" #[Edge.mk 3 Ground.data] none)) (v := ?_) rfl (by kernel_rfl) (by kernel_rfl) (by kernel_rfl) (fun _ _ _ h => h) (Or.inl ⟨by rfl, ?_⟩) (by assumption) ?_
          rotate_left
          · (intro w hSw; (try dsimp only at hSw); go_simp; first | done | with_reducible rfl)
          (try simp only [Act.put, List.setIfInBounds_toArray, List.set_cons_zero, List.set_cons_succ])
          refine wpAnyH_ready (rs := [5]) (by kernel_rfl) (by simp) ?_
          refine AllReadyH.cons (o := (Oper.mk (some 21) (Op.call (Call.mk (Callee.value (Operand.func 32)) #[Operand.tmp 20] #[78])) 3 "ref.go:128" #[Edge.mk 4 Ground.data] none)) rfl (fun K hK => ?_) (AllReadyH.nil)
          go_simp
          (go_at_call 32; refine (rfirst_any i1 i2 i3 i4 i5 HPd.out HM.out hmb q5 q6).mono ?_; rintro e w3 ⟨he, hB3⟩; rw [HF.out] at he; obtain rfl : e = .returned (.int .i64 ((kf : Int))) := he; have HB3 := Lib.hid (undrew hB3); have n1 := (HB3.out.cell (p := ⟨b1, 1, none⟩) bl).trans c1; have m0 := (HB3.out.cell (p := ⟨bR, _, none⟩) hbw).trans k0; have m1 := (HB3.out.cell (p := ⟨bR, _, none⟩) hbw).trans k1; have m2 := (HB3.out.cell (p := ⟨bR, _, none⟩) hbw).trans k2; have m3 := (HB3.out.cell (p := ⟨bR, _, none⟩) hbw).trans k3; have m4 := (HB3.out.cell (p := ⟨bR, _, none⟩) hbw).trans k4; have m5 := (HB3.out.cell (p := ⟨bR, _, none⟩) hbw).trans k5; clear hB3)
          refine hK.out _ _ (by (try dsimp only); (first | exact ⟨by assumption, by assumption, by assumption, by assumption, by assumption, by assumption, by assumption⟩ | go_keep)) (fun hHeld => ?_)
          clear hK K
          (try simp only [Act.put, List.setIfInBounds_toArray, List.set_cons_zero, List.set_cons_succ])
          refine wpAnyH_take (i := 6) (oi := (Oper.mk (some 22) (Op.binOp BinOp.geq 3 (Operand.tmp 21) (Operand.const (Value.int IntKind.i64 0)) 3) 4 "ref.go:128" #[Edge.mk 5 Ground.data] none)) (v := ?_) rfl (by kernel_rfl) (by kernel_rfl) (by kernel_rfl) (fun _ _ _ h => h) (Or.inl ⟨by rfl, ?_⟩) (by assumption) ?_
          rotate_left
          · (intro w hSw; (try dsimp only at hSw); go_simp; first | done | with_reducible rfl)
          (try simp only [Act.put, List.setIfInBounds_toArray, List.set_cons_zero, List.set_cons_succ])
          refine wpAnyH_take (i := 7) (oi := (Oper.mk (some 23) (Op.move (Operand.tmp 22)) 4 "ref.go:128" #[Edge.mk 6 Ground.data, Edge.mk 5 Ground.chain] none)) (v := ?_) rfl (by kernel_rfl) (by kernel_rfl) (by kernel_rfl) (fun _ _ _ h => h) (Or.inl ⟨by rfl, ?_⟩) (by assumption) ?_
          rotate_left
          · (intro w hSw; (try dsimp only at hSw); go_simp; first | done | with_reducible rfl)
          (try simp only [Act.put, List.setIfInBounds_toArray, List.set_cons_zero, List.set_cons_succ])
          refine wpAnyH_take (i := 8) (oi := (Oper.mk (some 24) (Op.move (Operand.tmp 5)) 3 "ref.go:128" #[Edge.mk 7 Ground.guard] (some (7, true)))) (v := ?_) rfl (by kernel_rfl) (by kernel_rfl) (by kernel_rfl) (fun _ _ _ h => h) (Or.inl ⟨by rfl, ?_⟩) (by assumption) ?_
          rotate_left
          · (intro w hSw; (try dsimp only at hSw); go_simp; first | done | with_reducible rfl)
          (try simp only [Act.put, List.setIfInBounds_toArray, List.set_cons_zero, List.set_cons_succ])
          refine wpAnyH_take (i := 9) (oi := (Oper.mk (some 25) (Op.binOp BinOp.lss 3 (Operand.tmp 24) (Operand.const (Value.int IntKind.i64 0)) 3) 4 "ref.go:128" #[Edge.mk 8 Ground.data, Edge.mk 7 Ground.guard] (some (7, true)))) (v := ?_) rfl (by kernel_rfl) (by kernel_rfl) (by kernel_rfl) (fun _ _ _ h => h) (Or.inl ⟨by rfl, ?_⟩) (by assumption) ?_
          rotate_left
          · (intro w hSw; (try dsimp only at hSw); go_simp; first | done | with_reducible rfl)
          (try simp only [Act.put, List.setIfInBounds_toArray, List.set_cons_zero, List.set_cons_succ])
          refine wpAnyH_take (i := 10) (oi := (Oper.mk (some 26) (Op.move (Operand.tmp 25)) 4 "ref.go:128" #[Edge.mk 9 Ground.data, Edge.mk 7 Ground.chain, Edge.mk 7 Ground.guard] (some (7, true)))) (v := ?_) rfl (by kernel_rfl) (by kernel_rfl) (by kernel_rfl) (fun _ _ _ h => h) (Or.inl ⟨by rfl, ?_⟩) (by assumption) ?_
          rotate_left
          · (intro w hSw; (try dsimp only at hSw); go_simp; first | done | with_reducible rfl)
          (try simp only [Act.put, List.setIfInBounds_toArray, List.set_cons_zero, List.set_cons_succ])
          refine wpAnyH_take (i := 11) (oi := (Oper.mk (some 27) (Op.fieldAddr 45 (Operand.tmp 1) 1) 0 "ref.go:128" #[Edge.mk 10 Ground.guard] (some (10, false)))) (v := undef) rfl (by kernel_rfl) (by kernel_rfl) (by kernel_rfl) (fun _ _ _ h => h) (Or.inr ⟨by rfl, rfl⟩) (by assumption) ?_
          (try simp only [Act.put, List.setIfInBounds_toArray, List.set_cons_zero, List.set_cons_succ])
          refine wpAnyH_take (i := 12) (oi := (Oper.mk (some 28) (Op.load 43 (Operand.tmp 27)) 43 "ref.go:128" #[Edge.mk 11 Ground.data, Edge.mk 10 Ground.guard] (some (10, false)))) (v := undef) rfl (by kernel_rfl) (by kernel_rfl) (by kernel_rfl) (fun _ _ _ h => h) (Or.inr ⟨by rfl, rfl⟩) (by assumption) ?_
          (try simp only [Act.put, List.setIfInBounds_toArray, List.set_cons_zero, List.set_cons_succ])
          refine wpAnyH_take (i := 13) (oi := (Oper.mk (some 29) (Op.move (Operand.tmp 6)) 3 "ref.go:128" #[Edge.mk 10 Ground.guard] (some (10, false)))) (v := undef) rfl (by kernel_rfl) (by kernel_rfl) (by kernel_rfl) (fun _ _ _ h => h) (Or.inr ⟨by rfl, rfl⟩) (by assumption) ?_
          (try simp only [Act.put, List.setIfInBounds_toArray, List.set_cons_zero, List.set_cons_succ])
          refine wpAnyH_take (i := 14) (oi := (Oper.mk (some 30) (Op.indexAddr 43 (Operand.tmp 28) (Operand.tmp 29)) 0 "ref.go:128" #[Edge.mk 12 Ground.data, Edge.mk 13 Ground.data, Edge.mk 10 Ground.guard] (some (10, false)))) (v := undef) rfl (by kernel_rfl) (by kernel_rfl) (by kernel_rfl) (fun _ _ _ h => h) (Or.inr ⟨by rfl, rfl⟩) (by assumption) ?_
          (try simp only [Act.put, List.setIfInBounds_toArray, List.set_cons_zero, List.set_cons_succ])
          refine wpAnyH_take (i := 15) (oi := (Oper.mk (some 31) (Op.fieldAddr 78 (Operand.tmp 30) 0) 0 "ref.go:128" #[Edge.mk 14 Ground.data, Edge.mk 10 Ground.guard] (some (10, false)))) (v := undef) rfl (by kernel_rfl) (by kernel_rfl) (by kernel_rfl) (fun _ _ _ h => h) (Or.inr ⟨by rfl, rfl⟩) (by assumption) ?_
          (try simp only [Act.put, List.setIfInBounds_toArray, List.set_cons_zero, List.set_cons_succ])
          refine wpAnyH_take (i := 16) (oi := (Oper.mk (some 32) (Op.fieldAddr 29 (Operand.tmp 31) 2) 0 "ref.go:128" #[Edge.mk 15 Ground.data, Edge.mk 10 Ground.guard] (some (10, false)))) (v := undef) rfl (by kernel_rfl) (by kernel_rfl) (by kernel_rfl) (fun _ _ _ h => h) (Or.inr ⟨by rfl, rfl⟩) (by assumption) ?_
          (try simp only [Act.put, List.setIfInBounds_toArray, List.set_cons_zero, List.set_cons_succ])
          refine wpAnyH_take (i := 17) (oi := (Oper.mk (some 33) (Op.load 3 (Operand.tmp 32)) 3 "ref.go:128" #[Edge.mk 16 Ground.data, Edge.mk 10 Ground.guard] (some (10, false)))) (v := undef) rfl (by kernel_rfl) (by kernel_rfl) (by kernel_rfl) (fun _ _ _ h => h) (Or.inr ⟨by rfl, rfl⟩) (by assumption) ?_
          (try simp only [Act.put, List.setIfInBounds_toArray, List.set_cons_zero, List.set_cons_succ])
          refine wpAnyH_take (i := 18) (oi := (Oper.mk (some 34) (Op.fieldAddr 45 (Operand.tmp 1) 1) 0 "ref.go:128" #[Edge.mk 10 Ground.guard] (some (10, false)))) (v := undef) rfl (by kernel_rfl) (by kernel_rfl) (by kernel_rfl) (fun _ _ _ h => h) (Or.inr ⟨by rfl, rfl⟩) (by assumption) ?_
          (try simp only [Act.put, List.setIfInBounds_toArray, List.set_cons_zero, List.set_cons_succ])
          refine wpAnyH_take (i := 19) (oi := (Oper.mk (some 35) (Op.load 43 (Operand.tmp 34)) 43 "ref.go:128" #[Edge.mk 18 Ground.data, Edge.mk 10 Ground.guard] (some (10, false)))) (v := undef) rfl (by kernel_rfl) (by kernel_rfl) (by kernel_rfl) (fun _ _ _ h => h) (Or.inr ⟨by rfl, rfl⟩) (by assumption) ?_
          (try simp only [Act.put, List.setIfInBounds_toArray, List.set_cons_zero, List.set_cons_succ])
          refine wpAnyH_take (i := 20) (oi := (Oper.mk (some 36) (Op.move (Operand.tmp 5)) 3 "ref.go:128" #[Edge.mk 10 Ground.guard] (some (10, false)))) (v := undef) rfl (by kernel_rfl) (by kernel_rfl) (by kernel_rfl) (fun _ _ _ h => h) (Or.inr ⟨by rfl, rfl⟩) (by assumption) ?_
          (try simp only [Act.put, List.setIfInBounds_toArray, List.set_cons_zero, List.set_cons_succ])
          refine wpAnyH_take (i := 21) (oi := (Oper.mk (some 37) (Op.indexAddr 43 (Operand.tmp 35) (Operand.tmp 36)) 0 "ref.go:128" #[Edge.mk 19 Ground.data, Edge.mk 20 Ground.data, Edge.mk 10 Ground.guard] (some (10, false)))) (v := undef) rfl (by kernel_rfl) (by kernel_rfl) (by kernel_rfl) (fun _ _ _ h => h) (Or.inr ⟨by rfl, rfl⟩) (by assumption) ?_
          (try simp only [Act.put, List.setIfInBounds_toArray, List.set_cons_zero, List.set_cons_succ])
          refine wpAnyH_take (i := 22) (oi := (Oper.mk (some 38) (Op.fieldAddr 78 (Operand.tmp 37) 0) 0 "ref.go:128" #[Edge.mk 21 Ground.data, Edge.mk 10 Ground.guard] (some (10, false)))) (v := undef) rfl (by kernel_rfl) (by kernel_rfl) (by kernel_rfl) (fun _ _ _ h => h) (Or.inr ⟨by rfl, rfl⟩) (by assumption) ?_
          (try simp only [Act.put, List.setIfInBounds_toArray, List.set_cons_zero, List.set_cons_succ])
          refine wpAnyH_take (i := 23) (oi := (Oper.mk (some 39) (Op.fieldAddr 29 (Operand.tmp 38) 2) 0 "ref.go:128" #[Edge.mk 22 Ground.data, Edge.mk 10 Ground.guard] (some (10, false)))) (v := undef) rfl (by kernel_rfl) (by kernel_rfl) (by kernel_rfl) (fun _ _ _ h => h) (Or.inr ⟨by rfl, rfl⟩) (by assumption) ?_
          (try simp only [Act.put, List.setIfInBounds_toArray, List.set_cons_zero, List.set_cons_succ])
          refine wpAnyH_take (i := 24) (oi := (Oper.mk (some 40) (Op.load 3 (Operand.tmp 39)) 3 "ref.go:128" #[Edge.mk 23 Ground.data, Edge.mk 10 Ground.guard] (some (10, false)))) (v := undef) rfl (by kernel_rfl) (by kernel_rfl) (by kernel_rfl) (fun _ _ _ h => h) (Or.inr ⟨by rfl, rfl⟩) (by assumption) ?_
          (try simp only [Act.put, List.setIfInBounds_toArray, List.set_cons_zero, List.set_cons_succ])
          refine wpAnyH_take (i := 25) (oi := (Oper.mk (some 41) (Op.binOp BinOp.lss 3 (Operand.tmp 33) (Operand.tmp 40) 3) 4 "ref.go:128" #[Edge.mk 17 Ground.data, Edge.mk 24 Ground.data, Edge.mk 10 Ground.guard] (some (10, false)))) (v := undef) rfl (by kernel_rfl) (by kernel_rfl) (by kernel_rfl) (fun _ _ _ h => h) (Or.inr ⟨by rfl, rfl⟩) (by assumption) ?_
          (try simp only [Act.put, List.setIfInBounds_toArray, List.set_cons_zero, List.set_cons_succ])
          refine wpAnyH_take (i := 26) (oi := (Oper.mk (some 42) (Op.pick (Operand.tmp 26) (Operand.const (Value.bool true)) (Operand.tmp 41)) 4 "ref.go:128" #[Edge.mk 10 Ground.data, Edge.mk 25 Ground.data, Edge.mk 7 Ground.guard] (some (7, true)))) (v := ?_) rfl (by kernel_rfl) (by kernel_rfl) (by kernel_rfl) (fun _ _ _ h => h) (Or.inl ⟨by rfl, ?_⟩) (by assumption) ?_
          rotate_left
          · (intro w hSw; (try dsimp only at hSw); go_simp; first | done | with_reducible rfl)
          (try simp only [Act.put, List.setIfInBounds_toArray, List.set_cons_zero, List.set_cons_succ])
          refine wpAnyH_take (i := 27) (oi := (Oper.mk (some 43) (Op.pick (Operand.tmp 23) (Operand.tmp 42) (Operand.const (Value.bool false))) 4 "ref.go:128" #[Edge.mk 7 Ground.data, Edge.mk 26 Ground.data] none)) (v := ?_) rfl (by kernel_rfl) (by kernel_rfl) (by kernel_rfl) (fun _ _ _ h => h) (Or.inl ⟨by rfl, ?_⟩) (by assumption) ?_
          rotate_left
          · (intro w hSw; (try dsimp only at hSw); go_simp; first | done | with_reducible rfl)
          (try simp only [Act.put, List.setIfInBounds_toArray, List.set_cons_zero, List.set_cons_succ])
          refine wpAnyH_done (by kernel_rfl) ?_ _
          all_goals
            go_wp2_with fail
            go_roundg (gk - 1)
            case rel => exact ⟨k + 1, (some (k, s.prio)), by omega, by omega, by go_num, (Lib.hid rfl), (Lib.hid ⟨s, HS.out, rfl, by rw [show s.first = some kf from HF.out]; rfl⟩), Lib.hid (HB.out.trans (HB3.out.mono HB.out.size)), Lib.hid (J1.out.below HB3.out (Nat.le_refl _)), Lib.hid (J2.out.below HB3.out (Nat.le_refl _)), Lib.hid (by have h9 := best_step HS.out _ HBF.out; rw [if_pos (by rw [show s.first = some kf from HF.out]; rfl)] at h9; exact h9)⟩
            case measure => omega
        | some q =>
          subst hat
          obtain ⟨qi, qp⟩ := q
          obtain rfl : u5 = .int .i64 (qi : Int) := HV5.out
          obtain ⟨sb, hsb, hpq, hfb⟩ := HBO.out
          dsimp only at hsb hpq
          have hqn : qi < n := by rw [← H.out.len]; exact (List.getElem?_eq_some_iff.1 hsb).1
          have p2 := (HB.out.cell (p := ⟨bR, _, none⟩) hbR).trans (HSK.out qi sb hsb).2.2.1
          rw [hpq] at p2
          have f1 : (qi : Int) < (n : Int) := by omega
          have f2 : ¬ (qi : Int) < 0 := by omega
          clear hsb hpq hfb
          by_cases hlt2 : i3 < qp
          · have dlt : decide (i3 < qp) = true := decide_eq_true hlt2
            have HLT : Hid (decide (s.prio < qp) = true) := Lib.hid (decide_eq_true (by rw [← HPR.out]; exact hlt2))
            clear hlt2
            go_upto_region 5 with fail
            refine wp_region_held_drew (S := (fun w' => w'.cell? ⟨b1, 1, none⟩ = some (.slice (some ⟨bR, oR, none⟩) n c) ∧ w'.cell? ⟨bR, oR + k * 6, none⟩ = some (.int .i64 i1) ∧ w'.cell? ⟨bR, oR + k * 6 + 1, none⟩ = some (.int .i64 i2) ∧ w'.cell? ⟨bR, oR + k * 6 + 2, none⟩ = some (.int .i64 i3) ∧ w'.cell? ⟨bR, oR + k * 6 + 3, none⟩ = some (.bool i4) ∧ w'.cell? ⟨bR, oR + k * 6 + 4, none⟩ = some (.slice aL m cL) ∧ w'.cell? ⟨bR, oR + k * 6 + 5, none⟩ = some (.int .i64 i5) ∧ w'.cell? ⟨bR, oR + qi * 6 + 2, none⟩ = some (.int .i64 qp))) (by kernel_rfl) (by (try dsimp only); (first | exact ⟨by assumption, by assumption, by assumption, by assumption, by assumption, by assumption, by assumption, by assumption⟩ | go_keep)) (fun hHeld => ?_)
            refine wpAnyH_take (i := 0) (oi := (Oper.mk (some 16) (Op.fieldAddr 45 (Operand.tmp 1) 1) 0 "ref.go:128" #[] none)) (v := ?_) rfl (by kernel_rfl) (by kernel_rfl) (by kernel_rfl) (fun _ _ _ h => h) (Or.inl ⟨by rfl, ?_⟩) (by assumption) ?_
            rotate_left
            · (intro w hSw; (try dsimp only at hSw); go_simp; first | done | with_reducible rfl)
            (try simp only [Act.put, List.setIfInBounds_toArray, List.set_cons_zero, List.set_cons_succ])
            refine wpAnyH_take (i := 1) (oi := (Oper.mk (some 17) (Op.load 43 (Operand.tmp 16)) 43 "ref.go:128" #[Edge.mk 0 Ground.data] none)) (v := ?_) rfl (by kernel_rfl) (by kernel_rfl) (by kernel_rfl) (fun _ _ _ h => h) (Or.inl ⟨by rfl, ?_⟩) (by assumption) ?_
            rotate_left
            · (intro w hSw; (try dsimp only at hSw); go_simp; first | done | with_reducible rfl)
            (try simp only [Act.put, List.setIfInBounds_toArray, List.set_cons_zero, List.set_cons_succ])
            refine wpAnyH_take (i := 2) (oi := (Oper.mk (some 18) (Op.move (Operand.tmp 6)) 3 "ref.go:128" #[] none)) (v := ?_) rfl (by kernel_rfl) (by kernel_rfl) (by kernel_rfl) (fun _ _ _ h => h) (Or.inl ⟨by rfl, ?_⟩) (by assumption) ?_
            rotate_left
            · (intro w hSw; (try dsimp only at hSw); go_simp; first | done | with_reducible rfl)
            (try simp only [Act.put, List.setIfInBounds_toArray, List.set_cons_zero, List.set_cons_succ])
            refine wpAnyH_take (i := 3) (oi := (Oper.mk (some 19) (Op.indexAddr 43 (Operand.tmp 17) (Operand.tmp 18)) 0 "ref.go:128" #[Edge.mk 1 Ground.data, Edge.mk 2 Ground.data] none)) (v := ?_) rfl (by kernel_rfl) (by kernel_rfl) (by kernel_rfl) (fun _ _ _ h => h) (Or.inl ⟨by rfl, ?_⟩) (by assumption) ?_
            rotate_left
            · (intro w hSw; (try dsimp only at hSw); go_simp; first | done | with_reducible rfl)
            (try simp only [Act.put, List.setIfInBounds_toArray, List.set_cons_zero, List.set_cons_succ])
            refine wpAnyH_take (i := 4) (oi := (Oper.mk (some 20) (Op.load 78 (Operand.tmp 19)) 78 "ref.go:128" #[Edge.mk 3 Ground.data] none)) (v := ?_) rfl (by kernel_rfl) (by kernel_rfl) (by kernel_rfl) (fun _ _ _ h => h) (Or.inl ⟨by rfl, ?_⟩) (by assumption) ?_
            rotate_left
            · (intro w hSw; (try dsimp only at hSw); go_simp; first | done | with_reducible rfl)
            (try simp only [Act.put, List.setIfInBounds_toArray, List.set_cons_zero, List.set_cons_succ])
            refine wpAnyH_ready (rs := [5]) (by kernel_rfl) (by simp) ?_
            refine AllReadyH.cons (o := (Oper.mk (some 21) (Op.call (Call.mk (Callee.value (Operand.func 32)) #[Operand.tmp 20] #[78])) 3 "ref.go:128" #[Edge.mk 4 Ground.data] none)) rfl (fun K hK => ?_) (AllReadyH.nil)
            go_simp
            (go_at_call 32; refine (rfirst_any i1 i2 i3 i4 i5 HPd.out HM.out hmb q5 q6).mono ?_; rintro e w3 ⟨he, hB3⟩; rw [HF.out] at he; obtain rfl : e = .returned (.int .i64 ((kf : Int))) := he; have HB3 := Lib.hid (undrew hB3); have n1 := (HB3.out.cell (p := ⟨b1, 1, none⟩) bl).trans c1; have m0 := (HB3.out.cell (p := ⟨bR, _, none⟩) hbw).trans k0; have m1 := (HB3.out.cell (p := ⟨bR, _, none⟩) hbw).trans k1; have m2 := (HB3.out.cell (p := ⟨bR, _, none⟩) hbw).trans k2; have m3 := (HB3.out.cell (p := ⟨bR, _, none⟩) hbw).trans k3; have m4 := (HB3.out.cell (p := ⟨bR, _, none⟩) hbw).trans k4; have m5 := (HB3.out.cell (p := ⟨bR, _, none⟩) hbw).trans k5; have m6 := (HB3.out.cell (p := ⟨bR, _, none⟩) hbw).trans p2; clear hB3)
            refine hK.out _ _ (by (try dsimp only); (first | exact ⟨by assumption, by assumption, by assumption, by assumption, by assumption, by assumption, by assumption, by assumption⟩ | go_keep)) (fun hHeld => ?_)
            clear hK K
            (try simp only [Act.put, List.setIfInBounds_toArray, List.set_cons_zero, List.set_cons_succ])
            refine wpAnyH_take (i := 6) (oi := (Oper.mk (some 22) (Op.binOp BinOp.geq 3 (Operand.tmp 21) (Operand.const (Value.int IntKind.i64 0)) 3) 4 "ref.go:128" #[Edge.mk 5 Ground.data] none)) (v := ?_) rfl (by kernel_rfl) (by kernel_rfl) (by kernel_rfl) (fun _ _ _ h => h) (Or.inl ⟨by rfl, ?_⟩) (by assumption) ?_
            rotate_left
            · (intro w hSw; (try dsimp only at hSw); go_simp; first | done | with_reducible rfl)
            (try simp only [Act.put, List.setIfInBounds_toArray, List.set_cons_zero, List.set_cons_succ])
            refine wpAnyH_take (i := 7) (oi := (Oper.mk (some 23) (Op.move (Operand.tmp 22)) 4 "ref.go:128" #[Edge.mk 6 Ground.data, Edge.mk 5 Ground.chain] none)) (v := ?_) rfl (by kernel_rfl) (by kernel_rfl) (by kernel_rfl) (fun _ _ _ h => h) (Or.inl ⟨by rfl, ?_⟩) (by assumption) ?_
            rotate_left
            · (intro w hSw; (try dsimp only at hSw); go_simp; first | done | with_reducible rfl)
            (try simp only [Act.put, List.setIfInBounds_toArray, List.set_cons_zero, List.set_cons_succ])
            refine wpAnyH_take (i := 8) (oi := (Oper.mk (some 24) (Op.move (Operand.tmp 5)) 3 "ref.go:128" #[Edge.mk 7 Ground.guard] (some (7, true)))) (v := ?_) rfl (by kernel_rfl) (by kernel_rfl) (by kernel_rfl) (fun _ _ _ h => h) (Or.inl ⟨by rfl, ?_⟩) (by assumption) ?_
            rotate_left
            · (intro w hSw; (try dsimp only at hSw); go_simp; first | done | with_reducible rfl)
            (try simp only [Act.put, List.setIfInBounds_toArray, List.set_cons_zero, List.set_cons_succ])
            refine wpAnyH_take (i := 9) (oi := (Oper.mk (some 25) (Op.binOp BinOp.lss 3 (Operand.tmp 24) (Operand.const (Value.int IntKind.i64 0)) 3) 4 "ref.go:128" #[Edge.mk 8 Ground.data, Edge.mk 7 Ground.guard] (some (7, true)))) (v := ?_) rfl (by kernel_rfl) (by kernel_rfl) (by kernel_rfl) (fun _ _ _ h => h) (Or.inl ⟨by rfl, ?_⟩) (by assumption) ?_
            rotate_left
            · (intro w hSw; (try dsimp only at hSw); go_simp; first | done | with_reducible rfl)
            (try simp only [Act.put, List.setIfInBounds_toArray, List.set_cons_zero, List.set_cons_succ])
            refine wpAnyH_take (i := 10) (oi := (Oper.mk (some 26) (Op.move (Operand.tmp 25)) 4 "ref.go:128" #[Edge.mk 9 Ground.data, Edge.mk 7 Ground.chain, Edge.mk 7 Ground.guard] (some (7, true)))) (v := ?_) rfl (by kernel_rfl) (by kernel_rfl) (by kernel_rfl) (fun _ _ _ h => h) (Or.inl ⟨by rfl, ?_⟩) (by assumption) ?_
            rotate_left
            · (intro w hSw; (try dsimp only at hSw); go_simp; first | done | with_reducible rfl)
            (try simp only [Act.put, List.setIfInBounds_toArray, List.set_cons_zero, List.set_cons_succ])
            refine wpAnyH_take (i := 11) (oi := (Oper.mk (some 27) (Op.fieldAddr 45 (Operand.tmp 1) 1) 0 "ref.go:128" #[Edge.mk 10 Ground.guard] (some (10, false)))) (v := ?_) rfl (by kernel_rfl) (by kernel_rfl) (by kernel_rfl) (fun _ _ _ h => h) (Or.inl ⟨by rfl, ?_⟩) (by assumption) ?_
            rotate_left
            · (intro w hSw; (try dsimp only at hSw); go_simp; first | done | with_reducible rfl)
            (try simp only [Act.put, List.setIfInBounds_toArray, List.set_cons_zero, List.set_cons_succ])
            refine wpAnyH_take (i := 12) (oi := (Oper.mk (some 28) (Op.load 43 (Operand.tmp 27)) 43 "ref.go:128" #[Edge.mk 11 Ground.data, Edge.mk 10 Ground.guard] (some (10, false)))) (v := ?_) rfl (by kernel_rfl) (by kernel_rfl) (by kernel_rfl) (fun _ _ _ h => h) (Or.inl ⟨by rfl, ?_⟩) (by assumption) ?_
            rotate_left
            · (intro w hSw; (try dsimp only at hSw); go_simp; first | done | with_reducible rfl)
            (try simp only [Act.put, List.setIfInBounds_toArray, List.set_cons_zero, List.set_cons_succ])
            refine wpAnyH_take (i := 13) (oi := (Oper.mk (some 29) (Op.move (Operand.tmp 6)) 3 "ref.go:128" #[Edge.mk 10 Ground.guard] (some (10, false)))) (v := ?_) rfl (by kernel_rfl) (by kernel_rfl) (by kernel_rfl) (fun _ _ _ h => h) (Or.inl ⟨by rfl, ?_⟩) (by assumption) ?_
            rotate_left
            · (intro w hSw; (try dsimp only at hSw); go_simp; first | done | with_reducible rfl)
            (try simp only [Act.put, List.setIfInBounds_toArray, List.set_cons_zero, List.set_cons_succ])
            refine wpAnyH_take (i := 14) (oi := (Oper.mk (some 30) (Op.indexAddr 43 (Operand.tmp 28) (Operand.tmp 29)) 0 "ref.go:128" #[Edge.mk 12 Ground.data, Edge.mk 13 Ground.data, Edge.mk 10 Ground.guard] (some (10, false)))) (v := ?_) rfl (by kernel_rfl) (by kernel_rfl) (by kernel_rfl) (fun _ _ _ h => h) (Or.inl ⟨by rfl, ?_⟩) (by assumption) ?_
            rotate_left
            · (intro w hSw; (try dsimp only at hSw); go_simp; first | done | with_reducible rfl)
            (try simp only [Act.put, List.setIfInBounds_toArray, List.set_cons_zero, List.set_cons_succ])
            refine wpAnyH_take (i := 15) (oi := (Oper.mk (some 31) (Op.fieldAddr 78 (Operand.tmp 30) 0) 0 "ref.go:128" #[Edge.mk 14 Ground.data, Edge.mk 10 Ground.guard] (some (10, false)))) (v := ?_) rfl (by kernel_rfl) (by kernel_rfl) (by kernel_rfl) (fun _ _ _ h => h) (Or.inl ⟨by rfl, ?_⟩) (by assumption) ?_
            rotate_left
            · (intro w hSw; (try dsimp only at hSw); go_simp; first | done | with_reducible rfl)
            (try simp only [Act.put, List.setIfInBounds_toArray, List.set_cons_zero, List.set_cons_succ])
            refine wpAnyH_take (i := 16) (oi := (Oper.mk (some 32) (Op.fieldAddr 29 (Operand.tmp 31) 2) 0 "ref.go:128" #[Edge.mk 15 Ground.data, Edge.mk 10 Ground.guard] (some (10, false)))) (v := ?_) rfl (by kernel_rfl) (by kernel_rfl) (by kernel_rfl) (fun _ _ _ h => h) (Or.inl ⟨by rfl, ?_⟩) (by assumption) ?_
            rotate_left
            · (intro w hSw; (try dsimp only at hSw); go_simp; first | done | with_reducible rfl)
            (try simp only [Act.put, List.setIfInBounds_toArray, List.set_cons_zero, List.set_cons_succ])
            refine wpAnyH_take (i := 17) (oi := (Oper.mk (some 33) (Op.load 3 (Operand.tmp 32)) 3 "ref.go:128" #[Edge.mk 16 Ground.data, Edge.mk 10 Ground.guard] (some (10, false)))) (v := ?_) rfl (by kernel_rfl) (by kernel_rfl) (by kernel_rfl) (fun _ _ _ h => h) (Or.inl ⟨by rfl, ?_⟩) (by assumption) ?_
            rotate_left
            · (intro w hSw; (try dsimp only at hSw); go_simp; first | done | with_reducible rfl)
            (try simp only [Act.put, List.setIfInBounds_toArray, List.set_cons_zero, List.set_cons_succ])
            refine wpAnyH_take (i := 18) (oi := (Oper.mk (some 34) (Op.fieldAddr 45 (Operand.tmp 1) 1) 0 "ref.go:128" #[Edge.mk 10 Ground.guard] (some (10, false)))) (v := ?_) rfl (by kernel_rfl) (by kernel_rfl) (by kernel_rfl) (fun _ _ _ h => h) (Or.inl ⟨by rfl, ?_⟩) (by assumption) ?_
            rotate_left
            · (intro w hSw; (try dsimp only at hSw); go_simp; first | done | with_reducible rfl)
            (try simp only [Act.put, List.setIfInBounds_toArray, List.set_cons_zero, List.set_cons_succ])
            refine wpAnyH_take (i := 19) (oi := (Oper.mk (some 35) (Op.load 43 (Operand.tmp 34)) 43 "ref.go:128" #[Edge.mk 18 Ground.data, Edge.mk 10 Ground.guard] (some (10, false)))) (v := ?_) rfl (by kernel_rfl) (by kernel_rfl) (by kernel_rfl) (fun _ _ _ h => h) (Or.inl ⟨by rfl, ?_⟩) (by assumption) ?_
            rotate_left
            · (intro w hSw; (try dsimp only at hSw); go_simp; first | done | with_reducible rfl)
            (try simp only [Act.put, List.setIfInBounds_toArray, List.set_cons_zero, List.set_cons_succ])
            refine wpAnyH_take (i := 20) (oi := (Oper.mk (some 36) (Op.move (Operand.tmp 5)) 3 "ref.go:128" #[Edge.mk 10 Ground.guard] (some (10, false)))) (v := ?_) rfl (by kernel_rfl) (by kernel_rfl) (by kernel_rfl) (fun _ _ _ h => h) (Or.inl ⟨by rfl, ?_⟩) (by assumption) ?_
            rotate_left
            · (intro w hSw; (try dsimp only at hSw); go_simp; first | done | with_reducible rfl)
            (try simp only [Act.put, List.setIfInBounds_toArray, List.set_cons_zero, List.set_cons_succ])
            refine wpAnyH_take (i := 21) (oi := (Oper.mk (some 37) (Op.indexAddr 43 (Operand.tmp 35) (Operand.tmp 36)) 0 "ref.go:128" #[Edge.mk 19 Ground.data, Edge.mk 20 Ground.data, Edge.mk 10 Ground.guard] (some (10, false)))) (v := ?_) rfl (by kernel_rfl) (by kernel_rfl) (by kernel_rfl) (fun _ _ _ h => h) (Or.inl ⟨by rfl, ?_⟩) (by assumption) ?_
            rotate_left
            · (intro w hSw; (try dsimp only at hSw); go_simp; first | done | with_reducible rfl)
            (try simp only [Act.put, List.setIfInBounds_toArray, List.set_cons_zero, List.set_cons_succ])
            refine wpAnyH_take (i := 22) (oi := (Oper.mk (some 38) (Op.fieldAddr 78 (Operand.tmp 37) 0) 0 "ref.go:128" #[Edge.mk 21 Ground.data, Edge.mk 10 Ground.guard] (some (10, false)))) (v := ?_) rfl (by kernel_rfl) (by kernel_rfl) (by kernel_rfl) (fun _ _ _ h => h) (Or.inl ⟨by rfl, ?_⟩) (by assumption) ?_
            rotate_left
            · (intro w hSw; (try dsimp only at hSw); go_simp; first | done | with_reducible rfl)
            (try simp only [Act.put, List.setIfInBounds_toArray, List.set_cons_zero, List.set_cons_succ])
            refine wpAnyH_take (i := 23) (oi := (Oper.mk (some 39) (Op.fieldAddr 29 (Operand.tmp 38) 2) 0 "ref.go:128" #[Edge.mk 22 Ground.data, Edge.mk 10 Ground.guard] (some (10, false)))) (v := ?_) rfl (by kernel_rfl) (by kernel_rfl) (by kernel_rfl) (fun _ _ _ h => h) (Or.inl ⟨by rfl, ?_⟩) (by assumption) ?_
            rotate_left
            · (intro w hSw; (try dsimp only at hSw); go_simp; first | done | with_reducible rfl)
            (try simp only [Act.put, List.setIfInBounds_toArray, List.set_cons_zero, List.set_cons_succ])
            refine wpAnyH_take (i := 24) (oi := (Oper.mk (some 40) (Op.load 3 (Operand.tmp 39)) 3 "ref.go:128" #[Edge.mk 23 Ground.data, Edge.mk 10 Ground.guard] (some (10, false)))) (v := ?_) rfl (by kernel_rfl) (by kernel_rfl) (by kernel_rfl) (fun _ _ _ h => h) (Or.inl ⟨by rfl, ?_⟩) (by assumption) ?_
            rotate_left
            · (intro w hSw; (try dsimp only at hSw); go_simp; first | done | with_reducible rfl)
            (try simp only [Act.put, List.setIfInBounds_toArray, List.set_cons_zero, List.set_cons_succ])
            refine wpAnyH_take (i := 25) (oi := (Oper.mk (some 41) (Op.binOp BinOp.lss 3 (Operand.tmp 33) (Operand.tmp 40) 3) 4 "ref.go:128" #[Edge.mk 17 Ground.data, Edge.mk 24 Ground.data, Edge.mk 10 Ground.guard] (some (10, false)))) (v := ?_) rfl (by kernel_rfl) (by kernel_rfl) (by kernel_rfl) (fun _ _ _ h => h) (Or.inl ⟨by rfl, ?_⟩) (by assumption) ?_
            rotate_left
            · (intro w hSw; (try dsimp only at hSw); go_simp; first | done | with_reducible rfl)
            (try simp only [Act.put, List.setIfInBounds_toArray, List.set_cons_zero, List.set_cons_succ])
            refine wpAnyH_take (i := 26) (oi := (Oper.mk (some 42) (Op.pick (Operand.tmp 26) (Operand.const (Value.bool true)) (Operand.tmp 41)) 4 "ref.go:128" #[Edge.mk 10 Ground.data, Edge.mk 25 Ground.data, Edge.mk 7 Ground.guard] (some (7, true)))) (v := ?_) rfl (by kernel_rfl) (by kernel_rfl) (by kernel_rfl) (fun _ _ _ h => h) (Or.inl ⟨by rfl, ?_⟩) (by assumption) ?_
            rotate_left
            · (intro w hSw; (try dsimp only at hSw); go_simp; first | done | with_reducible rfl)
            (try simp only [Act.put, List.setIfInBounds_toArray, List.set_cons_zero, List.set_cons_succ])
            refine wpAnyH_take (i := 27) (oi := (Oper.mk (some 43) (Op.pick (Operand.tmp 23) (Operand.tmp 42) (Operand.const (Value.bool false))) 4 "ref.go:128" #[Edge.mk 7 Ground.data, Edge.mk 26 Ground.data] none)) (v := ?_) rfl (by kernel_rfl) (by kernel_rfl) (by kernel_rfl) (fun _ _ _ h => h) (Or.inl ⟨by rfl, ?_⟩) (by assumption) ?_
            rotate_left
            · (intro w hSw; (try dsimp only at hSw); go_simp; first | done | with_reducible rfl)
            (try simp only [Act.put, List.setIfInBounds_toArray, List.set_cons_zero, List.set_cons_succ])
            refine wpAnyH_done (by kernel_rfl) ?_ _
            all_goals
              go_wp2_with fail
              go_roundg (gk - 1)
              case rel => exact ⟨k + 1, (some (k, s.prio)), by omega, by omega, by go_num, (Lib.hid rfl), (Lib.hid ⟨s, HS.out, rfl, by rw [show s.first = some kf from HF.out]; rfl⟩), Lib.hid (HB.out.trans (HB3.out.mono HB.out.size)), Lib.hid (J1.out.below HB3.out (Nat.le_refl _)), Lib.hid (J2.out.below HB3.out (Nat.le_refl _)), Lib.hid (by have h9 := best_step HS.out _ HBF.out; rw [if_pos (by rw [show s.first = some kf from HF.out]; simp only [St.beats, Option.isSome_some, Bool.true_and]; exact HLT.out)] at h9; exact h9)⟩
              case measure => omega
          · have dlt : decide (i3 < qp) = false := decide_eq_false hlt2
            have HLT : Hid (decide (s.prio < qp) = false) := Lib.hid (decide_eq_false (by rw [← HPR.out]; exact hlt2))
            clear hlt2
            go_upto_region 5 with fail
            refine wp_region_held_drew (S := (fun w' => w'.cell? ⟨b1, 1, none⟩ = some (.slice (some ⟨bR, oR, none⟩) n c) ∧ w'.cell? ⟨bR, oR + k * 6, none⟩ = some (.int .i64 i1) ∧ w'.cell? ⟨bR, oR + k * 6 + 1, none⟩ = some (.int .i64 i2) ∧ w'.cell? ⟨bR, oR + k * 6 + 2, none⟩ = some (.int .i64 i3) ∧ w'.cell? ⟨bR, oR + k * 6 + 3, none⟩ = some (.bool i4) ∧ w'.cell? ⟨bR, oR + k * 6 + 4, none⟩ = some (.slice aL m cL) ∧ w'.cell? ⟨bR, oR + k * 6 + 5, none⟩ = some (.int .i64 i5) ∧ w'.cell? ⟨bR, oR + qi * 6 + 2, none⟩ = some (.int .i64 qp))) (by kernel_rfl) (by (try dsimp only); (first | exact ⟨by assumption, by assumption, by assumption, by assumption, by assumption, by assumption, by assumption, by assumption⟩ | go_keep)) (fun hHeld => ?_)
            refine wpAnyH_take (i := 0) (oi := (Oper.mk (some 16) (Op.fieldAddr 45 (Operand.tmp 1) 1) 0 "ref.go:128" #[] none)) (v := ?_) rfl (by kernel_rfl) (by kernel_rfl) (by kernel_rfl) (fun _ _ _ h => h) (Or.inl ⟨by rfl, ?_⟩) (by assumption) ?_
            rotate_left
            · (intro w hSw; (try dsimp only at hSw); go_simp; first | done | with_reducible rfl)
            (try simp only [Act.put, List.setIfInBounds_toArray, List.set_cons_zero, List.set_cons_succ])
            refine wpAnyH_take (i := 1) (oi := (Oper.mk (some 17) (Op.load 43 (Operand.tmp 16)) 43 "ref.go:128" #[Edge.mk 0 Ground.data] none)) (v := ?_) rfl (by kernel_rfl) (by kernel_rfl) (by kernel_rfl) (fun _ _ _ h => h) (Or.inl ⟨by rfl, ?_⟩) (by assumption) ?_
            rotate_left
            · (intro w hSw; (try dsimp only at hSw); go_simp; first | done | with_reducible rfl)
            (try simp only [Act.put, List.setIfInBounds_toArray, List.set_cons_zero, List.set_cons_succ])
            refine wpAnyH_take (i := 2) (oi := (Oper.mk (some 18) (Op.move (Operand.tmp 6)) 3 "ref.go:128" #[] none)) (v := ?_) rfl (by kernel_rfl) (by kernel_rfl) (by kernel_rfl) (fun _ _ _ h => h) (Or.inl ⟨by rfl, ?_⟩) (by assumption) ?_
            rotate_left
            · (intro w hSw; (try dsimp only at hSw); go_simp; first | done | with_reducible rfl)
            (try simp only [Act.put, List.setIfInBounds_toArray, List.set_cons_zero, List.set_cons_succ])
            refine wpAnyH_take (i := 3) (oi := (Oper.mk (some 19) (Op.indexAddr 43 (Operand.tmp 17) (Operand.tmp 18)) 0 "ref.go:128" #[Edge.mk 1 Ground.data, Edge.mk 2 Ground.data] none)) (v := ?_) rfl (by kernel_rfl) (by kernel_rfl) (by kernel_rfl) (fun _ _ _ h => h) (Or.inl ⟨by rfl, ?_⟩) (by assumption) ?_
            rotate_left
            · (intro w hSw; (try dsimp only at hSw); go_simp; first | done | with_reducible rfl)
            (try simp only [Act.put, List.setIfInBounds_toArray, List.set_cons_zero, List.set_cons_succ])
            refine wpAnyH_take (i := 4) (oi := (Oper.mk (some 20) (Op.load 78 (Operand.tmp 19)) 78 "ref.go:128" #[Edge.mk 3 Ground.data] none)) (v := ?_) rfl (by kernel_rfl) (by kernel_rfl) (by kernel_rfl) (fun _ _ _ h => h) (Or.inl ⟨by rfl, ?_⟩) (by assumption) ?_
            rotate_left
            · (intro w hSw; (try dsimp only at hSw); go_simp; first | done | with_reducible rfl)
            (try simp only [Act.put, List.setIfInBounds_toArray, List.set_cons_zero, List.set_cons_succ])
            refine wpAnyH_ready (rs := [5]) (by kernel_rfl) (by simp) ?_
            refine AllReadyH.cons (o := (Oper.mk (some 21) (Op.call (Call.mk (Callee.value (Operand.func 32)) #[Operand.tmp 20] #[78])) 3 "ref.go:128" #[Edge.mk 4 Ground.data] none)) rfl (fun K hK => ?_) (AllReadyH.nil)
            go_simp
            (go_at_call 32; refine (rfirst_any i1 i2 i3 i4 i5 HPd.out HM.out hmb q5 q6).mono ?_; rintro e w3 ⟨he, hB3⟩; rw [HF.out] at he; obtain rfl : e = .returned (.int .i64 ((kf : Int))) := he; have HB3 := Lib.hid (undrew hB3); have n1 := (HB3.out.cell (p := ⟨b1, 1, none⟩) bl).trans c1; have m0 := (HB3.out.cell (p := ⟨bR, _, none⟩) hbw).trans k0; have m1 := (HB3.out.cell (p := ⟨bR, _, none⟩) hbw).trans k1; have m2 := (HB3.out.cell (p := ⟨bR, _, none⟩) hbw).trans k2; have m3 := (HB3.out.cell (p := ⟨bR, _, none⟩) hbw).trans k3; have m4 := (HB3.out.cell (p := ⟨bR, _, none⟩) hbw).trans k4; have m5 := (HB3.out.cell (p := ⟨bR, _, none⟩) hbw).trans k5; have m6 := (HB3.out.cell (p := ⟨bR, _, none⟩) hbw).trans p2; clear hB3)
            refine hK.out _ _ (by (try dsimp only); (first | exact ⟨by assumption, by assumption, by assumption, by assumption, by assumption, by assumption, by assumption, by assumption⟩ | go_keep)) (fun hHeld => ?_)
            clear hK K
            (try simp only [Act.put, List.setIfInBounds_toArray, List.set_cons_zero, List.set_cons_succ])
            refine wpAnyH_take (i := 6) (oi := (Oper.mk (some 22) (Op.binOp BinOp.geq 3 (Operand.tmp 21) (Operand.const (Value.int IntKind.i64 0)) 3) 4 "ref.go:128" #[Edge.mk 5 Ground.data] none)) (v := ?_) rfl (by kernel_rfl) (by kernel_rfl) (by kernel_rfl) (fun _ _ _ h => h) (Or.inl ⟨by rfl, ?_⟩) (by assumption) ?_
            rotate_left
            · (intro w hSw; (try dsimp only at hSw); go_simp; first | done | with_reducible rfl)
            (try simp only [Act.put, List.setIfInBounds_toArray, List.set_cons_zero, List.set_cons_succ])
            refine wpAnyH_take (i := 7) (oi := (Oper.mk (some 23) (Op.move (Operand.tmp 22)) 4 "ref.go:128" #[Edge.mk 6 Ground.data, Edge.mk 5 Ground.chain] none)) (v := ?_) rfl (by kernel_rfl) (by kernel_rfl) (by kernel_rfl) (fun _ _ _ h => h) (Or.inl ⟨by rfl, ?_⟩) (by assumption) ?_
            rotate_left
            · (intro w hSw; (try dsimp only at hSw); go_simp; first | done | with_reducible rfl)
            (try simp only [Act.put, List.setIfInBounds_toArray, List.set_cons_zero, List.set_cons_succ])
            refine wpAnyH_take (i := 8) (oi := (Oper.mk (some 24) (Op.move (Operand.tmp 5)) 3 "ref.go:128" #[Edge.mk 7 Ground.guard] (some (7, true)))) (v := ?_) rfl (by kernel_rfl) (by kernel_rfl) (by kernel_rfl) (fun _ _ _ h => h) (Or.inl ⟨by rfl, ?_⟩) (by assumption) ?_
            rotate_left
            · (intro w hSw; (try dsimp only at hSw); go_simp; first | done | with_reducible rfl)
            (try simp only [Act.put, List.setIfInBounds_toArray, List.set_cons_zero, List.set_cons_succ])
            refine wpAnyH_take (i := 9) (oi := (Oper.mk (some 25) (Op.binOp BinOp.lss 3 (Operand.tmp 24) (Operand.const (Value.int IntKind.i64 0)) 3) 4 "ref.go:128" #[Edge.mk 8 Ground.data, Edge.mk 7 Ground.guard] (some (7, true)))) (v := ?_) rfl (by kernel_rfl) (by kernel_rfl) (by kernel_rfl) (fun _ _ _ h => h) (Or.inl ⟨by rfl, ?_⟩) (by assumption) ?_
            rotate_left
            · (intro w hSw; (try dsimp only at hSw); go_simp; first | done | with_reducible rfl)
            (try simp only [Act.put, List.setIfInBounds_toArray, List.set_cons_zero, List.set_cons_succ])
            refine wpAnyH_take (i := 10) (oi := (Oper.mk (some 26) (Op.move (Operand.tmp 25)) 4 "ref.go:128" #[Edge.mk 9 Ground.data, Edge.mk 7 Ground.chain, Edge.mk 7 Ground.guard] (some (7, true)))) (v := ?_) rfl (by kernel_rfl) (by kernel_rfl) (by kernel_rfl) (fun _ _ _ h => h) (Or.inl ⟨by rfl, ?_⟩) (by assumption) ?_
            rotate_left
            · (intro w hSw; (try dsimp only at hSw); go_simp; first | done | with_reducible rfl)
            (try simp only [Act.put, List.setIfInBounds_toArray, List.set_cons_zero, List.set_cons_succ])
            refine wpAnyH_take (i := 11) (oi := (Oper.mk (some 27) (Op.fieldAddr 45 (Operand.tmp 1) 1) 0 "ref.go:128" #[Edge.mk 10 Ground.guard] (some (10, false)))) (v := ?_) rfl (by kernel_rfl) (by kernel_rfl) (by kernel_rfl) (fun _ _ _ h => h) (Or.inl ⟨by rfl, ?_⟩) (by assumption) ?_
            rotate_left
            · (intro w hSw; (try dsimp only at hSw); go_simp; first | done | with_reducible rfl)
            (try simp only [Act.put, List.setIfInBounds_toArray, List.set_cons_zero, List.set_cons_succ])
            refine wpAnyH_take (i := 12) (oi := (Oper.mk (some 28) (Op.load 43 (Operand.tmp 27)) 43 "ref.go:128" #[Edge.mk 11 Ground.data, Edge.mk 10 Ground.guard] (some (10, false)))) (v := ?_) rfl (by kernel_rfl) (by kernel_rfl) (by kernel_rfl) (fun _ _ _ h => h) (Or.inl ⟨by rfl, ?_⟩) (by assumption) ?_
            rotate_left
            · (intro w hSw; (try dsimp only at hSw); go_simp; first | done | with_reducible rfl)
            (try simp only [Act.put, List.setIfInBounds_toArray, List.set_cons_zero, List.set_cons_succ])
            refine wpAnyH_take (i := 13) (oi := (Oper.mk (some 29) (Op.move (Operand.tmp 6)) 3 "ref.go:128" #[Edge.mk 10 Ground.guard] (some (10, false)))) (v := ?_) rfl (by kernel_rfl) (by kernel_rfl) (by kernel_rfl) (fun _ _ _ h => h) (Or.inl ⟨by rfl, ?_⟩) (by assumption) ?_
            rotate_left
            · (intro w hSw; (try dsimp only at hSw); go_simp; first | done | with_reducible rfl)
            (try simp only [Act.put, List.setIfInBounds_toArray, List.set_cons_zero, List.set_cons_succ])
            refine wpAnyH_take (i := 14) (oi := (Oper.mk (some 30) (Op.indexAddr 43 (Operand.tmp 28) (Operand.tmp 29)) 0 "ref.go:128" #[Edge.mk 12 Ground.data, Edge.mk 13 Ground.data, Edge.mk 10 Ground.guard] (some (10, false)))) (v := ?_) rfl (by kernel_rfl) (by kernel_rfl) (by kernel_rfl) (fun _ _ _ h => h) (Or.inl ⟨by rfl, ?_⟩) (by assumption) ?_
            rotate_left
            · (intro w hSw; (try dsimp only at hSw); go_simp; first | done | with_reducible rfl)
            (try simp only [Act.put, List.setIfInBounds_toArray, List.set_cons_zero, List.set_cons_succ])
            refine wpAnyH_take (i := 15) (oi := (Oper.mk (some 31) (Op.fieldAddr 78 (Operand.tmp 30) 0) 0 "ref.go:128" #[Edge.mk 14 Ground.data, Edge.mk 10 Ground.guard] (some (10, false)))) (v := ?_) rfl (by kernel_rfl) (by kernel_rfl) (by kernel_rfl) (fun _ _ _ h => h) (Or.inl ⟨by rfl, ?_⟩) (by assumption) ?_
            rotate_left
            · (intro w hSw; (try dsimp only at hSw); go_simp; first | done | with_reducible rfl)
            (try simp only [Act.put, List.setIfInBounds_toArray, List.set_cons_zero, List.set_cons_succ])
            refine wpAnyH_take (i := 16) (oi := (Oper.mk (some 32) (Op.fieldAddr 29 (Operand.tmp 31) 2) 0 "ref.go:128" #[Edge.mk 15 Ground.data, Edge.mk 10 Ground.guard] (some (10, false)))) (v := ?_) rfl (by kernel_rfl) (by kernel_rfl) (by kernel_rfl) (fun _ _ _ h => h) (Or.inl ⟨by rfl, ?_⟩) (by assumption) ?_
            rotate_left
            · (intro w hSw; (try dsimp only at hSw); go_simp; first | done | with_reducible rfl)
            (try simp only [Act.put, List.setIfInBounds_toArray, List.set_cons_zero, List.set_cons_succ])
            refine wpAnyH_take (i := 17) (oi := (Oper.mk (some 33) (Op.load 3 (Operand.tmp 32)) 3 "ref.go:128" #[Edge.mk 16 Ground.data, Edge.mk 10 Ground.guard] (some (10, false)))) (v := ?_) rfl (by kernel_rfl) (by kernel_rfl) (by kernel_rfl) (fun _ _ _ h => h) (Or.inl ⟨by rfl, ?_⟩) (by assumption) ?_
            rotate_left
            · (intro w hSw; (try dsimp only at hSw); go_simp; first | done | with_reducible rfl)
            (try simp only [Act.put, List.setIfInBounds_toArray, List.set_cons_zero, List.set_cons_succ])
            refine wpAnyH_take (i := 18) (oi := (Oper.mk (some 34) (Op.fieldAddr 45 (Operand.tmp 1) 1) 0 "ref.go:128" #[Edge.mk 10 Ground.guard] (some (10, false)))) (v := ?_) rfl (by kernel_rfl) (by kernel_rfl) (by kernel_rfl) (fun _ _ _ h => h) (Or.inl ⟨by rfl, ?_⟩) (by assumption) ?_
            rotate_left
            · (intro w hSw; (try dsimp only at hSw); go_simp; first | done | with_reducible rfl)
            (try simp only [Act.put, List.setIfInBounds_toArray, List.set_cons_zero, List.set_cons_succ])
            refine wpAnyH_take (i := 19) (oi := (Oper.mk (some 35) (Op.load 43 (Operand.tmp 34)) 43 "ref.go:128" #[Edge.mk 18 Ground.data, Edge.mk 10 Ground.guard] (some (10, false)))) (v := ?_) rfl (by kernel_rfl) (by kernel_rfl) (by kernel_rfl) (fun _ _ _ h => h) (Or.inl ⟨by rfl, ?_⟩) (by assumption) ?_
            rotate_left
            · (intro w hSw; (try dsimp only at hSw); go_simp; first | done | with_reducible rfl)
            (try simp only [Act.put, List.setIfInBounds_toArray, List.set_cons_zero, List.set_cons_succ])
            refine wpAnyH_take (i := 20) (oi := (Oper.mk (some 36) (Op.move (Operand.tmp 5)) 3 "ref.go:128" #[Edge.mk 10 Ground.guard] (some (10, false)))) (v := ?_) rfl (by kernel_rfl) (by kernel_rfl) (by kernel_rfl) (fun _ _ _ h => h) (Or.inl ⟨by rfl, ?_⟩) (by assumption) ?_
            rotate_left
            · (intro w hSw; (try dsimp only at hSw); go_simp; first | done | with_reducible rfl)
            (try simp only [Act.put, List.setIfInBounds_toArray, List.set_cons_zero, List.set_cons_succ])
            refine wpAnyH_take (i := 21) (oi := (Oper.mk (some 37) (Op.indexAddr 43 (Operand.tmp 35) (Operand.tmp 36)) 0 "ref.go:128" #[Edge.mk 19 Ground.data, Edge.mk 20 Ground.data, Edge.mk 10 Ground.guard] (some (10, false)))) (v := ?_) rfl (by kernel_rfl) (by kernel_rfl) (by kernel_rfl) (fun _ _ _ h => h) (Or.inl ⟨by rfl, ?_⟩) (by assumption) ?_
            rotate_left
            · (intro w hSw; (try dsimp only at hSw); go_simp; first | done | with_reducible rfl)
            (try simp only [Act.put, List.setIfInBounds_toArray, List.set_cons_zero, List.set_cons_succ])
            refine wpAnyH_take (i := 22) (oi := (Oper.mk (some 38) (Op.fieldAddr 78 (Operand.tmp 37) 0) 0 "ref.go:128" #[Edge.mk 21 Ground.data, Edge.mk 10 Ground.guard] (some (10, false)))) (v := ?_) rfl (by kernel_rfl) (by kernel_rfl) (by kernel_rfl) (fun _ _ _ h => h) (Or.inl ⟨by rfl, ?_⟩) (by assumption) ?_
            rotate_left
            · (intro w hSw; (try dsimp only at hSw); go_simp; first | done | with_reducible rfl)
            (try simp only [Act.put, List.setIfInBounds_toArray, List.set_cons_zero, List.set_cons_succ])
            refine wpAnyH_take (i := 23) (oi := (Oper.mk (some 39) (Op.fieldAddr 29 (Operand.tmp 38) 2) 0 "ref.go:128" #[Edge.mk 22 Ground.data, Edge.mk 10 Ground.guard] (some (10, false)))) (v := ?_) rfl (by kernel_rfl) (by kernel_rfl) (by kernel_rfl) (fun _ _ _ h => h) (Or.inl ⟨by rfl, ?_⟩) (by assumption) ?_
            rotate_left
            · (intro w hSw; (try dsimp only at hSw); go_simp; first | done | with_reducible rfl)
            (try simp only [Act.put, List.setIfInBounds_toArray, List.set_cons_zero, List.set_cons_succ])
            refine wpAnyH_take (i := 24) (oi := (Oper.mk (some 40) (Op.load 3 (Operand.tmp 39)) 3 "ref.go:128" #[Edge.mk 23 Ground.data, Edge.mk 10 Ground.guard] (some (10, false)))) (v := ?_) rfl (by kernel_rfl) (by kernel_rfl) (by kernel_rfl) (fun _ _ _ h => h) (Or.inl ⟨by rfl, ?_⟩) (by assumption) ?_
            rotate_left
            · (intro w hSw; (try dsimp only at hSw); go_simp; first | done | with_reducible rfl)
            (try simp only [Act.put, List.setIfInBounds_toArray, List.set_cons_zero, List.set_cons_succ])
            refine wpAnyH_take (i := 25) (oi := (Oper.mk (some 41) (Op.binOp BinOp.lss 3 (Operand.tmp 33) (Operand.tmp 40) 3) 4 "ref.go:128" #[Edge.mk 17 Ground.data, Edge.mk 24 Ground.data, Edge.mk 10 Ground.guard] (some (10, false)))) (v := ?_) rfl (by kernel_rfl) (by kernel_rfl) (by kernel_rfl) (fun _ _ _ h => h) (Or.inl ⟨by rfl, ?_⟩) (by assumption) ?_
            rotate_left
            · (intro w hSw; (try dsimp only at hSw); go_simp; first | done | with_reducible rfl)
            (try simp only [Act.put, List.setIfInBounds_toArray, List.set_cons_zero, List.set_cons_succ])
            refine wpAnyH_take (i := 26) (oi := (Oper.mk (some 42) (Op.pick (Operand.tmp 26) (Operand.const (Value.bool true)) (Operand.tmp 41)) 4 "ref.go:128" #[Edge.mk 10 Ground.data, Edge.mk 25 Ground.data, Edge.mk 7 Ground.guard] (some (7, true)))) (v := ?_) rfl (by kernel_rfl) (by kernel_rfl) (by kernel_rfl) (fun _ _ _ h => h) (Or.inl ⟨by rfl, ?_⟩) (by assumption) ?_
            rotate_left
            · (intro w hSw; (try dsimp only at hSw); go_simp; first | done | with_reducible rfl)
            (try simp only [Act.put, List.setIfInBounds_toArray, List.set_cons_zero, List.set_cons_succ])
            refine wpAnyH_take (i := 27) (oi := (Oper.mk (some 43) (Op.pick (Operand.tmp 23) (Operand.tmp 42) (Operand.const (Value.bool false))) 4 "ref.go:128" #[Edge.mk 7 Ground.data, Edge.mk 26 Ground.data] none)) (v := ?_) rfl (by kernel_rfl) (by kernel_rfl) (by kernel_rfl) (fun _ _ _ h => h) (Or.inl ⟨by rfl, ?_⟩) (by assumption) ?_
            rotate_left
            · (intro w hSw; (try dsimp only at hSw); go_simp; first | done | with_reducible rfl)
            (try simp only [Act.put, List.setIfInBounds_toArray, List.set_cons_zero, List.set_cons_succ])
            refine wpAnyH_done (by kernel_rfl) ?_ _
            all_goals
              go_wp2_with fail
              go_roundg (gk - 1)
              case rel => exact ⟨k + 1, (some (qi, qp)), by omega, by omega, by go_num, (Lib.hid rfl), HBO, Lib.hid (HB.out.trans (HB3.out.mono HB.out.size)), Lib.hid (J1.out.below HB3.out (Nat.le_refl _)), Lib.hid (J2.out.below HB3.out (Nat.le_refl _)), Lib.hid (by have h9 := best_step HS.out _ HBF.out; rw [if_neg (by simp only [St.beats]; rw [HLT.out]; simp)] at h9; exact h9)⟩
              case measure => omega
    · have e1 : ¬ (k : Int) < (n : Int) := by omega
      have HBN : Hid (r.best = at_.map (·.1)) := Lib.hid (by
        have h9 := HBF.out
        rw [List.drop_of_length_le (by rw [H.out.len]; omega)] at h9
        unfold RS.best
        rw [h9]
        rfl)
      cases hat : at_ with
      | none =>
        subst hat
        obtain rfl : u5 = .int .i64 (-1) := HV5.out
        have HP : Hid (r.next = (r, none)) := Lib.hid (by unfold RS.next; rw [HBN.out]; rfl)
        have d0 := J1.out.at 0 rfl
        have t0 := J2.out.at 0 rfl
        have t1 := J2.out.at 1 rfl
        have tf0 := J2.out.free 0
        have tf1 := J2.out.free 1
        have tl := J2.out.lt
        go_wp2_with fail
        obtain ⟨wb, hwb⟩ : ∃ x, x = (wr.setCell ⟨b1 + 1, 0, none⟩ (.int .i64 now)).setCell ⟨b1 + 1, 1, none⟩ (.slice a n c) := ⟨_, rfl⟩
        have hBb : Below w.heap.size w wb := by
          rw [hwb]
          exact (HB.out.setCell (p := ⟨b1 + 1, 0, none⟩) (by show w.heap.size ≤ b1 + 1; rw [HBE.out]; omega) _).setCell (p := ⟨b1 + 1, 1, none⟩) (by show w.heap.size ≤ b1 + 1; rw [HBE.out]; omega) _
        have h6b : Blk wb (b1 + 1) 45 [.int .i64 now, .slice a n c] := by
          rw [hwb]
          exact Blk.cast ((J2.out.setCell 0 (.int .i64 now)).setCell 1 (.slice a n c)) rfl
        have hX : XF wr wb := by
          rw [hwb]
          exact (XF.box J2.out).trans (XF.box (J2.out.setCell 0 (.int .i64 now)))
        have r0 := h6b.at 0 rfl
        have r1 := h6b.at 1 rfl
        rw [← hwb]
        exact bodyPost_ret (v := .tuple #[.agg #[.int .i64 now, .slice a n c], .slice none 0 0, .bool false]) (by simp [results, Try.f19, go_sem, r0, r1]) rfl ⟨a, n, c, by rw [HP.out], by rw [HP.out]; exact H.out.low hBb, hBb⟩
      | some q =>
        subst hat
        obtain ⟨qi, qp⟩ := q
        obtain rfl : u5 = .int .i64 (qi : Int) := HV5.out
        obtain ⟨s, hs, hpq, hfb⟩ := HBO.out
        dsimp only at hs hpq
        obtain ⟨kf, hf⟩ := Option.isSome_iff_exists.1 hfb
        have hqn : qi < n := by rw [← H.out.len]; exact (List.getElem?_eq_some_iff.1 hs).1
        have hkl := St.first_lt hf
        obtain ⟨x, hx⟩ : ∃ x, s.L[kf]? = some x := ⟨_, List.getElem?_eq_getElem hkl⟩
        have HS := Lib.hid hs
        have HX := Lib.hid hx
        have HSO := Lib.hid (OK.out.each s (List.mem_of_getElem? hs))
        have HP : Hid (r.next = (r.put qi (s.take kf), some x.data)) := Lib.hid (by
          unfold RS.next
          rw [HBN.out]
          dsimp only [Option.map_some]
          rw [get_of hs, hf]
          dsimp only
          rw [get_en hx])
        have HF : Hid (s.L.findIdx? (·.want) = some kf) := Lib.hid hf
        have HTL : Hid ((s.take kf).L = s.L.set kf { x with want := false }) := Lib.hid (by unfold St.take; dsimp only; rw [get_en hx])
        obtain ⟨bR, oR, rfl, hbR, -, q0, q1, q2, q3, ⟨aL, cL, q4, q5, q6, q7⟩, q8⟩ := H.out.at hs
        obtain ⟨m, hm9⟩ : ∃ x, x = s.L.length := ⟨_, rfl⟩
        rw [← hm9] at q4 q5 hkl
        have HM := Lib.hid hm9.symm
        have HPK := Lib.hid q7
        have HIL := Lib.hid hqn
        have k0 := (HB.out.cell (p := ⟨bR, _, none⟩) hbR).trans q0
        have k1 := (HB.out.cell (p := ⟨bR, _, none⟩) hbR).trans q1
        have k2 := (HB.out.cell (p := ⟨bR, _, none⟩) hbR).trans q2
        have k3 := (HB.out.cell (p := ⟨bR, _, none⟩) hbR).trans q3
        have k4 := (HB.out.cell (p := ⟨bR, _, none⟩) hbR).trans q4
        have k5 := (HB.out.cell (p := ⟨bR, _, none⟩) hbR).trans q8
        obtain ⟨i1, hi1⟩ : ∃ x, x = s.id := ⟨_, rfl⟩
        obtain ⟨i2, hi2⟩ : ∃ x, x = s.room := ⟨_, rfl⟩
        obtain ⟨i3, hi3⟩ : ∃ x, x = s.prio := ⟨_, rfl⟩
        obtain ⟨i4, hi4⟩ : ∃ x, x = s.circ := ⟨_, rfl⟩
        obtain ⟨i5, hi5⟩ : ∃ x, x = (s.drop : Int) := ⟨_, rfl⟩
        rw [← hi1] at k0
        rw [← hi2] at k1
        rw [← hi3] at k2
        rw [← hi4] at k3
        rw [← hi5] at k5
        have HI : Hid (i1 = s.id ∧ i2 = s.room ∧ i3 = s.prio ∧ i4 = s.circ ∧ i5 = (s.drop : Int)) := Lib.hid ⟨hi1, hi2, hi3, hi4, hi5⟩
        have hmb : m ≤ 2147483648 := by rw [← HM.out]; exact len_room HSO.out
        have f1 : (qi : Int) < (n : Int) := by omega
        have f2 : ¬ (qi : Int) < 0 := by omega
        clear hs hx hf hpq hfb hm9 hi1 hi2 hi3 hi4 hi5 q0 q1 q2 q3 q4 q7 q8
        go_upto_region 10 with fail
        obtain ⟨b7, hb7⟩ : ∃ x, x = wr.heap.size := ⟨_, rfl⟩
        obtain ⟨w3, hw3⟩ : ∃ x, x = wr.alloc (.cells #[.int .i64 i1, .int .i64 i2, .int .i64 i3, .bool i4, .slice aL m cL, .int .i64 i5] 78) := ⟨_, rfl⟩
        have hB3 : Below wr.heap.size wr w3 := by rw [hw3]; exact al (Below.refl _ _) _
        have J7 : Hid (Blk w3 b7 78 [.int .i64 i1, .int .i64 i2, .int .i64 i3, .bool i4, .slice aL m cL, .int .i64 i5]) := Lib.hid (by rw [hw3, hb7]; exact Blk.new wr 78 _)
        have J13 := Lib.hid (J1.out.below hB3 (Nat.le_refl _))
        have J23 := Lib.hid (J2.out.below hB3 (Nat.le_refl _))
        have JB3 := Lib.hid (HB.out.trans (hB3.mono HB.out.size))
        have HNE : Hid (b1 ≠ b7 ∧ b1 + 1 ≠ b7 ∧ w.heap.size ≤ b7) := Lib.hid (by have := J2.out.lt; have := HB.out.size; omega)
        rw [← hw3, ← hb7]
        clear hw3 hb7 hB3 k0 k1 k2 k3 k4 k5 c1 bl
        have d0 := J7.out.at 0 rfl
        have d1 := J7.out.at 1 rfl
        have d2 := J7.out.at 2 rfl
        have d3 := J7.out.at 3 rfl
        have d4 := J7.out.at 4 rfl
        have d5 := J7.out.at 5 rfl
        have dl := J7.out.lt
        go_wp2_with fail
        refine (rfirst_any i1 i2 i3 i4 i5 (HPK.out.low JB3.out) HM.out hmb q5 q6).mono ?_
        rintro e w4 ⟨he, hB4⟩
        rw [HF.out] at he
        obtain rfl : e = .returned (.int .i64 (kf : Int)) := he
        have J74 := Lib.hid (J7.out.below hB4 (Nat.le_refl _))
        have J14 := Lib.hid (J13.out.below hB4 (Nat.le_refl _))
        have J24 := Lib.hid (J23.out.below hB4 (Nat.le_refl _))
        have JB4 := Lib.hid (JB3.out.trans (hB4.mono JB3.out.size))
        obtain ⟨xs, hpx, hsrc, hone⟩ := PX.of HPK.out
        have HPX := Lib.hid hpx
        have HSRC := Lib.hid (src_low hsrc JB4.out)
        have HONE := Lib.hid hone
        have HXL : Hid (xs.length = m * 3) := Lib.hid (by rw [hpx.1, HM.out])
        obtain ⟨ji, hj1, hz0, hz1, hz2⟩ := info_parts info81
        have HJ1 := Lib.hid hj1
        clear hB4 d0 d1 d2 d3 d4 d5 dl hpx hsrc hone hj1
        have d4 := J74.out.at 4 rfl
        have dl := J74.out.lt
        have HMP : Hid (0 < m) := Lib.hid (by omega)
        go_upto_region 12 with (at_builtin; refine wpList_append_opt _ rfl (.tmp 55) (.tmp 57) 76 rfl w4.heap.size 81 ji _ 3 40 Try.underlying76 HJ1.out hz0 hz1 hz2 rfl (by decide) _ 0 [] rfl (World.ownsRow_made _ #[] 0 (Nat.le_refl _) (by unfold maxLen; omega) rfl) aL m cL xs rfl HXL.out (src_low HSRC.out (al (Below.refl w4.heap.size w4) _)) HONE.out (by unfold maxLen; omega) (by omega) (al (Below.refl w4.heap.size w4) (.cells #[] 81)).size ?_; intro v8 w8 hown8 hgrow8 hob8; obtain ⟨g, c8, rfl, p1, p2, hgs, ⟨s1, s2, s3⟩, p5, p6, p7⟩ := nx_row J14.out J24.out J74.out HMP.out ⟨HNE.out.1, HNE.out.2.1⟩ hown8 hgrow8; have HGS := Lib.hid hgs; have K8 := Lib.hid p5; have KO8 := Lib.hid p6; have KB8 := Lib.hid p7; clear hown8 hgrow8 hob8 p5 p6 p7 hgs)
        obtain ⟨w9, hw9⟩ : ∃ x, x = w8.setCell ⟨b7, 4, none⟩ (.slice (some ⟨g, 0, none⟩) m c8) := ⟨_, rfl⟩
        rw [← hw9] at K8 KO8 KB8 ⊢
        clear hw9 s1 s2 s3 d4 dl
        have KB9 : Hid (Below w.heap.size w w9) := Lib.hid (JB4.out.trans (KB8.out.mono HNE.out.2.2))
        have d4 := K8.out.2.2.at 4 rfl
        have dl := K8.out.2.2.lt
        obtain ⟨u9, hu9⟩ : ∃ u, xs[kf * 3 + 2]? = some u := ⟨_, List.getElem?_eq_getElem (by rw [HXL.out]; omega)⟩
        have y0 := (KO8.out.cellAt (kf * 3 + 2) (by omega)).trans hu9
        have y1 := KO8.out.frozenAt (kf * 3 + 2)
        have y2 : g < w9.heap.size := (KO8.out.lt g rfl).2
        have f3 : (kf : Int) < (m : Int) := by omega
        have f4 : ¬ (kf : Int) < 0 := by omega
        clear hu9
        go_upto_region 13 with fail
        obtain ⟨w10, hw10⟩ : ∃ x, x = w9.setCell ⟨g, kf * 3 + 2, none⟩ (.bool false) := ⟨_, rfl⟩
        have L1 : Hid (Blk w10 b1 45 [.int .i64 now, .slice (some ⟨bR, oR, none⟩) n c]) := Lib.hid (by rw [hw10]; exact K8.out.1.setOther (p := ⟨g, _, none⟩) (by show g ≠ b1; have := HGS.out; have := J14.out.lt; omega) _)
        have L2 : Hid (Blk w10 (b1 + 1) 45 [.int .i64 0, .slice none 0 0]) := Lib.hid (by rw [hw10]; exact K8.out.2.1.setOther (p := ⟨g, _, none⟩) (by show g ≠ b1 + 1; have := HGS.out; have := J24.out.lt; omega) _)
        have L7 : Hid (Blk w10 b7 78 [.int .i64 i1, .int .i64 i2, .int .i64 i3, .bool i4, .slice (some ⟨g, 0, none⟩) m c8, .int .i64 i5]) := Lib.hid (by rw [hw10]; exact K8.out.2.2.setOther (p := ⟨g, _, none⟩) (by show g ≠ b7; have := HGS.out; have := J74.out.lt; omega) _)
        have LO : Hid (w10.ownsRow w4.heap.size 81 3 (.slice (some ⟨g, 0, none⟩) m c8) m (xs.set (kf * 3 + 2) (.bool false))) := Lib.hid (by rw [hw10]; exact (KO8.out.stored _ _).1)
        have LB : Hid (Below w.heap.size w w10) := Lib.hid (by rw [hw10]; exact KB9.out.setCell (p := ⟨g, _, none⟩) (by show w.heap.size ≤ g; have := HGS.out; have := JB4.out.size; omega) _)
        have LBd : Hid (Below w.heap.size w w10.drew) := Lib.hid (LB.out.trans (Quiet.below (w := w10) ⟨1, rfl⟩))
        have HP10 : Hid (PkAt w10.drew (some ⟨g, 0, none⟩) (s.take kf).L) := Lib.hid (by
          rw [HTL.out]
          exact (((HPX.out.unwant HX.out).x (XF.of_below LBd.out)).at (by rw [List.length_set]; exact HM.out) (show w10.drew.ownsRow w4.heap.size 81 3 _ m _ from LO.out)).2.2.2)
        have HTLL : Hid ((s.take kf).L.length = m) := Lib.hid (by rw [HTL.out, List.length_set]; exact HM.out)
        obtain ⟨-, ⟨ad, cd, hcd, hcd2, hcd3, hbx⟩, -⟩ := HPX.out.2 kf x HX.out
        obtain ⟨dl9, hdl9⟩ : ∃ z, z = x.data.length := ⟨_, rfl⟩
        rw [← hdl9] at hcd
        have HDL := Lib.hid hdl9.symm
        have HBX := Lib.hid hbx
        have y3 : w10.cell? ⟨g, kf * 3 + 1, none⟩ = some (.slice ad dl9 cd) := (LO.out.cellAt (kf * 3 + 1) (by omega)).trans (by rw [List.getElem?_set_ne (by omega)]; exact hcd)
        have y4 : g < w10.heap.size := (LO.out.lt g rfl).2
        have HGN : Hid (b1 + 1 ≠ g) := Lib.hid (by have := HGS.out; have := J24.out.lt; omega)
        rw [← hw10]
        obtain ⟨z1, z2, z3, z4, z5⟩ := HI.out
        subst z1 z2 z3 z4 z5
        clear hw10 y0 y1 y2 d4 dl hdl9 hcd hcd2 hcd3 hbx
        have d0 := L1.out.at 0 rfl
        have d1 := L1.out.at 1 rfl
        have e0 := L7.out.at 0 rfl
        have e1 := L7.out.at 1 rfl
        have e2 := L7.out.at 2 rfl
        have e3 := L7.out.at 3 rfl
        have e4 := L7.out.at 4 rfl
        have e5 := L7.out.at 5 rfl
        have dl := L1.out.lt
        have el := L7.out.lt
        refine wp_region_held_drew (S := (fun w' => w'.cell? ⟨b1, 0, none⟩ = some (.int .i64 now) ∧ w'.cell? ⟨b1, 1, none⟩ = some (.slice (some ⟨bR, oR, none⟩) n c) ∧ w'.cell? ⟨b7, 0, none⟩ = some (.int .i64 s.id) ∧ w'.cell? ⟨b7, 1, none⟩ = some (.int .i64 s.room) ∧ w'.cell? ⟨b7, 2, none⟩ = some (.int .i64 s.prio) ∧ w'.cell? ⟨b7, 3, none⟩ = some (.bool s.circ) ∧ w'.cell? ⟨b7, 4, none⟩ = some (.slice (some ⟨g, 0, none⟩) m c8) ∧ w'.cell? ⟨b7, 5, none⟩ = some (.int .i64 (s.drop : Int)) ∧ w'.cell? ⟨g, kf * 3 + 1, none⟩ = some (.slice ad dl9 cd))) (by kernel_rfl) (by (try dsimp only); (first | assumption | exact ⟨by assumption, by assumption, by assumption, by assumption, by assumption, by assumption, by assumption, by assumption, by assumption⟩ | go_keep)) (fun hHeld => ?_)
        refine wpAnyH_take (i := 0) (oi := (Oper.mk (some 65) (Op.load 45 (Operand.tmp 1)) 45 "ref.go:139" #[] none)) (v := ?_) rfl (by kernel_rfl) (by kernel_rfl) (by kernel_rfl) (fun _ _ _ h => h) (Or.inl ⟨by rfl, ?_⟩) (by assumption) ?_
        rotate_left
        · (intro w hSw; (try dsimp only at hSw); go_simp; first | done | with_reducible rfl)
        (try simp only [Act.put, List.setIfInBounds_toArray, List.set_cons_zero, List.set_cons_succ])
        refine wpAnyH_take (i := 1) (oi := (Oper.mk (some 66) (Op.move (Operand.tmp 5)) 3 "ref.go:139" #[] none)) (v := ?_) rfl (by kernel_rfl) (by kernel_rfl) (by kernel_rfl) (fun _ _ _ h => h) (Or.inl ⟨by rfl, ?_⟩) (by assumption) ?_
        rotate_left
        · (intro w hSw; (try dsimp only at hSw); go_simp; first | done | with_reducible rfl)
        (try simp only [Act.put, List.setIfInBounds_toArray, List.set_cons_zero, List.set_cons_succ])
        refine wpAnyH_take (i := 2) (oi := (Oper.mk (some 67) (Op.load 78 (Operand.tmp 7)) 78 "ref.go:139" #[] none)) (v := ?_) rfl (by kernel_rfl) (by kernel_rfl) (by kernel_rfl) (fun _ _ _ h => h) (Or.inl ⟨by rfl, ?_⟩) (by assumption) ?_
        rotate_left
        · (intro w hSw; (try dsimp only at hSw); go_simp; first | done | with_reducible rfl)
        (try simp only [Act.put, List.setIfInBounds_toArray, List.set_cons_zero, List.set_cons_succ])
        refine wpAnyH_take (i := 4) (oi := (Oper.mk (some 69) (Op.fieldAddr 78 (Operand.tmp 7) 1) 0 "ref.go:139" #[Edge.mk 10 (Ground.gcOnly Departure.lateStores)] none)) (v := ?_) rfl (by kernel_rfl) (by kernel_rfl) (by kernel_rfl) (fun _ _ _ h => h) (Or.inl ⟨by rfl, ?_⟩) (by assumption) ?_
        rotate_left
        · (intro w hSw; (try dsimp only at hSw); go_simp; first | done | with_reducible rfl)
        (try simp only [Act.put, List.setIfInBounds_toArray, List.set_cons_zero, List.set_cons_succ])
        refine wpAnyH_take (i := 5) (oi := (Oper.mk (some 70) (Op.load 76 (Operand.tmp 69)) 76 "ref.go:139" #[Edge.mk 4 Ground.data, Edge.mk 10 (Ground.gcOnly Departure.lateStores)] none)) (v := ?_) rfl (by kernel_rfl) (by kernel_rfl) (by kernel_rfl) (fun _ _ _ h => h) (Or.inl ⟨by rfl, ?_⟩) (by assumption) ?_
        rotate_left
        · (intro w hSw; (try dsimp only at hSw); go_simp; first | done | with_reducible rfl)
        (try simp only [Act.put, List.setIfInBounds_toArray, List.set_cons_zero, List.set_cons_succ])
        refine wpAnyH_take (i := 6) (oi := (Oper.mk (some 71) (Op.move (Operand.tmp 8)) 3 "ref.go:139" #[Edge.mk 10 (Ground.gcOnly Departure.lateStores)] none)) (v := ?_) rfl (by kernel_rfl) (by kernel_rfl) (by kernel_rfl) (fun _ _ _ h => h) (Or.inl ⟨by rfl, ?_⟩) (by assumption) ?_
        rotate_left
        · (intro w hSw; (try dsimp only at hSw); go_simp; first | done | with_reducible rfl)
        (try simp only [Act.put, List.setIfInBounds_toArray, List.set_cons_zero, List.set_cons_succ])
        refine wpAnyH_take (i := 7) (oi := (Oper.mk (some 72) (Op.indexAddr 76 (Operand.tmp 70) (Operand.tmp 71)) 0 "ref.go:139" #[Edge.mk 5 Ground.data, Edge.mk 6 Ground.data, Edge.mk 10 (Ground.gcOnly Departure.lateStores)] none)) (v := ?_) rfl (by kernel_rfl) (by kernel_rfl) (by kernel_rfl) (fun _ _ _ h => h) (Or.inl ⟨by rfl, ?_⟩) (by assumption) ?_
        rotate_left
        · (intro w hSw; (try dsimp only at hSw); go_simp; first | done | with_reducible rfl)
        (try simp only [Act.put, List.setIfInBounds_toArray, List.set_cons_zero, List.set_cons_succ])
        refine wpAnyH_take (i := 8) (oi := (Oper.mk (some 73) (Op.fieldAddr 81 (Operand.tmp 72) 1) 0 "ref.go:139" #[Edge.mk 7 Ground.data, Edge.mk 10 (Ground.gcOnly Departure.lateStores)] none)) (v := ?_) rfl (by kernel_rfl) (by kernel_rfl) (by kernel_rfl) (fun _ _ _ h => h) (Or.inl ⟨by rfl, ?_⟩) (by assumption) ?_
        rotate_left
        · (intro w hSw; (try dsimp only at hSw); go_simp; first | done | with_reducible rfl)
        (try simp only [Act.put, List.setIfInBounds_toArray, List.set_cons_zero, List.set_cons_succ])
        refine wpAnyH_take (i := 9) (oi := (Oper.mk (some 74) (Op.load 31 (Operand.tmp 73)) 31 "ref.go:139" #[Edge.mk 8 Ground.data, Edge.mk 10 (Ground.gcOnly Departure.lateStores)] none)) (v := ?_) rfl (by kernel_rfl) (by kernel_rfl) (by kernel_rfl) (fun _ _ _ h => h) (Or.inl ⟨by rfl, ?_⟩) (by assumption) ?_
        rotate_left
        · (intro w hSw; (try dsimp only at hSw); go_simp; first | done | with_reducible rfl)
        (try simp only [Act.put, List.setIfInBounds_toArray, List.set_cons_zero, List.set_cons_succ])
        refine wpAnyH_ready (rs := [3]) (by kernel_rfl) (by simp) ?_
        refine AllReadyH.cons (o := (Oper.mk (some 68) (Op.call (Call.mk (Callee.value (Operand.func 31)) #[Operand.tmp 65, Operand.tmp 66, Operand.tmp 67] #[45, 3, 78])) 45 "ref.go:139" #[Edge.mk 0 Ground.data, Edge.mk 1 Ground.data, Edge.mk 2 Ground.data] none)) rfl (fun K hK => ?_) (AllReadyH.nil)
        go_simp
        (go_at_call 31; refine (rwith_any (s := s.take kf) now (H.out.low LBd.out) hn HIL.out HP10.out HTLL.out p1 p2).mono ?_; rintro e w5 ⟨a5, c5, rfl, hrv, hB5⟩; have HB5 := Lib.hid (undrew hB5); have HRV := Lib.hid hrv; have M2 := Lib.hid (L2.out.below HB5.out (Nat.le_refl _)); have n1 := nx_keep now a5 n c5 (L1.out.below HB5.out (Nat.le_refl _)) (L7.out.below HB5.out (Nat.le_refl _)) ((HB5.out.cell (p := ⟨g, _, none⟩) y4).trans y3) HNE.out.2.1 HGN.out; obtain ⟨n2, n3⟩ := n1; have tf0 := M2.out.free 0; have tf1 := M2.out.free 1; have t0 := M2.out.at 0 rfl; have t1 := M2.out.at 1 rfl; have tl := M2.out.lt; clear hrv hB5)
        refine hK.out _ _ (by (try dsimp only); (first | assumption | exact ⟨by assumption, by assumption, by assumption, by assumption, by assumption, by assumption, by assumption, by assumption, by assumption⟩ | go_keep)) (fun hHeld => ?_)
        clear hK K
        (try simp only [Act.put, List.setIfInBounds_toArray, List.set_cons_zero, List.set_cons_succ])
        refine wpAnyH_ready (rs := [10]) (by kernel_rfl) (by simp) ?_
        refine AllReadyH.cons (o := (Oper.mk none (Op.store 45 (Operand.tmp 2) (Operand.tmp 68)) 0 "ref.go:139" #[Edge.mk 3 Ground.data, Edge.mk 3 Ground.chain, Edge.mk 0 Ground.phase, Edge.mk 1 Ground.phase, Edge.mk 2 Ground.phase, Edge.mk 3 Ground.phase, Edge.mk 4 (Ground.textOnly Departure.lateStores), Edge.mk 5 (Ground.textOnly Departure.lateStores), Edge.mk 6 (Ground.textOnly Departure.lateStores), Edge.mk 7 (Ground.textOnly Departure.lateStores), Edge.mk 8 (Ground.textOnly Departure.lateStores), Edge.mk 9 (Ground.textOnly Departure.lateStores)] none)) rfl (fun K hK => ?_) (AllReadyH.nil)
        go_simp
        skip
        refine hK.out _ _ (by (try dsimp only); (first | assumption | exact ⟨by assumption, by assumption, by assumption, by assumption, by assumption, by assumption, by assumption, by assumption, by assumption⟩ | go_keep)) (fun hHeld => ?_)
        clear hK K
        (try simp only [Act.put, List.setIfInBounds_toArray, List.set_cons_zero, List.set_cons_succ])
        refine wpAnyH_take (i := 11) (oi := (Oper.mk (some 3) (Op.assign (Operand.tmp 74)) 31 "ref.go:139" #[Edge.mk 9 Ground.data, Edge.mk 10 Ground.chain, Edge.mk 0 Ground.phase, Edge.mk 1 Ground.phase, Edge.mk 2 Ground.phase, Edge.mk 3 Ground.phase, Edge.mk 4 Ground.phase, Edge.mk 5 Ground.phase, Edge.mk 6 Ground.phase, Edge.mk 7 Ground.phase, Edge.mk 8 Ground.phase, Edge.mk 9 Ground.phase, Edge.mk 10 Ground.phase] none)) (v := ?_) rfl (by kernel_rfl) (by kernel_rfl) (by kernel_rfl) (fun _ _ _ h => h) (Or.inl ⟨by rfl, ?_⟩) (by assumption) ?_
        rotate_left
        · (intro w hSw; (try dsimp only at hSw); go_simp; first | done | with_reducible rfl)
        (try simp only [Act.put, List.setIfInBounds_toArray, List.set_cons_zero, List.set_cons_succ])
        refine wpAnyH_take (i := 12) (oi := (Oper.mk (some 4) (Op.assign (Operand.const (Value.bool true))) 4 "ref.go:139" #[Edge.mk 11 Ground.chain, Edge.mk 0 Ground.phase, Edge.mk 1 Ground.phase, Edge.mk 2 Ground.phase, Edge.mk 3 Ground.phase, Edge.mk 4 Ground.phase, Edge.mk 5 Ground.phase, Edge.mk 6 Ground.phase, Edge.mk 7 Ground.phase, Edge.mk 8 Ground.phase, Edge.mk 9 Ground.phase, Edge.mk 10 Ground.phase, Edge.mk 11 Ground.phase] none)) (v := ?_) rfl (by kernel_rfl) (by kernel_rfl) (by kernel_rfl) (fun _ _ _ h => h) (Or.inl ⟨by rfl, ?_⟩) (by assumption) ?_
        rotate_left
        · (intro w hSw; (try dsimp only at hSw); go_simp; first | done | with_reducible rfl)
        (try simp only [Act.put, List.setIfInBounds_toArray, List.set_cons_zero, List.set_cons_succ])
        refine wpAnyH_done (by kernel_rfl) ?_ _
        all_goals
          go_wp2_with fail
          have HBW : Hid (Below w.heap.size w w5) := Lib.hid (LB.out.trans (HB5.out.mono LB.out.size))
          obtain ⟨wb, hwb⟩ : ∃ x, x = (w5.setCell ⟨b1 + 1, 0, none⟩ (.int .i64 now)).setCell ⟨b1 + 1, 1, none⟩ (.slice a5 n c5) := ⟨_, rfl⟩
          have hBb : Below w.heap.size w wb := by
            rw [hwb]
            exact (HBW.out.setCell (p := ⟨b1 + 1, 0, none⟩) (by show w.heap.size ≤ b1 + 1; rw [HBE.out]; omega) _).setCell (p := ⟨b1 + 1, 1, none⟩) (by show w.heap.size ≤ b1 + 1; rw [HBE.out]; omega) _
          have h6b : Blk wb (b1 + 1) 45 [.int .i64 now, .slice a5 n c5] := by
            rw [hwb]
            exact Blk.cast ((M2.out.setCell 0 (.int .i64 now)).setCell 1 (.slice a5 n c5)) rfl
          have hX : XF w5 wb := by
            rw [hwb]
            exact (XF.box M2.out).trans (XF.box (M2.out.setCell 0 (.int .i64 now)))
          have r0 := h6b.at 0 rfl
          have r1 := h6b.at 1 rfl
          rw [← hwb]
          exact bodyPost_ret (v := .tuple #[.agg #[.int .i64 now, .slice a5 n c5], .slice ad dl9 cd, .bool true]) (by simp [results, Try.f19, go_sem, r0, r1]) rfl ⟨a5, n, c5, by rw [HP.out]; exact ⟨ad, cd, by rw [HDL.out], HBX.out.x (XF.of_below hBb)⟩, by rw [HP.out]; exact HRV.out.x hX, hBb⟩
end Go.Proofs.Ytnojmkmmfiahgaa

/- Clone, New. No condition. -/
import Derived.Test.YtgfloeclepmdlaaE
import Derived.Deep.RegionLaw
import Derived.Deep.AppendLies
namespace Go.Proofs.Ytgfloeclepmdlaa
open Go.RowKit Go.Deep Go.ChangeShapes Go.WideShapes Go.ChangeAt
set_option linter.unusedVariables false

theorem info60 : (Try.prog.info? 60).map (fun i => (i.zero, i.size, i.bytes)) = some (some (.agg #[.int .i64 0, .int .i64 0, .bool false, .bool false]), 4, 24) := by kernel_rfl
theorem rowC_one (us : List U) : ∀ u ∈ rowC us, u.oneCell' = true := by
  intro v hv
  unfold rowC at hv
  obtain ⟨u, -, hu⟩ := List.mem_flatMap.1 hv
  simp only [U.cells, List.mem_cons, List.not_mem_nil, or_false] at hu
  rcases hu with rfl | rfl | rfl | rfl <;> rfl
theorem RowB.news {w : World} {g : Nat} {T : TypeId} {us : List U} (h : RowB w g T us) : ∀ j u, (rowC us)[j]? = some u → w.cell? ((⟨g, 0, none⟩ : Addr).add j) = some u := by
  intro j u hj
  obtain ⟨r, h⟩ := h
  rw [add_plain, Nat.zero_add, h.cell, List.getElem?_append_left (by obtain ⟨h1, -⟩ := List.getElem?_eq_some_iff.1 hj; exact h1)]
  exact hj
theorem own_some {w : World} {base : Nat} {T : TypeId} {size n : Nat} {v : Value} {xs : List Value} (h : w.ownsRow base T size v n xs) (hv : v ≠ .slice none 0 0) : ∃ g cap, v = .slice (some ⟨g, 0, none⟩) n cap ∧ base ≤ g ∧ g < w.heap.size := by
  rcases h.2 with ⟨h1, -⟩ | ⟨g, cap, cur, h1, h2, h3, -⟩
  · exact absurd h1 hv
  · exact ⟨g, cap, h1, h2, lt_of_block h3⟩
set_option maxRecDepth 20000 in
set_option maxHeartbeats 2000000 in
theorem clone_any {w : World} {b g cap : Nat} {us : List U} (h : UAt w b g cap us) : Calls Try.prog 20 #[.pointer (some ⟨b, 0, none⟩)] w fun e w' => ∃ b' g' cap', e = .returned (.pointer (some ⟨b', 0, none⟩)) ∧ UAt w' b' g' cap' us ∧ Below w.heap.size w w' ∧ w.heap.size ≤ b' ∧ w.heap.size ≤ g' := by
  have c0 := h.box.at 0 rfl
  have hb := h.box.lt
  have hg := h.row.lt
  have H := Lib.hid h
  have hlen := h.len
  obtain ⟨i0, hi, hz0, hz1, hz2⟩ := info_parts info60
  clear h
  go_enter Try.func20, Try.ntmps20
  go_wp2_with fail
  refine (none_any H.out).mono ?_
  rintro e w2 ⟨rfl, rfl⟩
  go_wp2_with (at_builtin; refine wpList_append_own _ rfl _ _ 55 rfl w2.heap.size 60 i0 _ 4 24 Try.underlying55 hi hz0 hz1 hz2 rfl (by decide) _ 0 [] rfl (World.ownsRow_made _ #[] 0 (by omega) (by unfold maxLen; omega) rfl) ⟨g, 0, none⟩ us.length cap (rowC us) rfl (rowC_length us) (H.out.row.alloc _).news (rowC_one us) (by unfold maxLen; omega) (by omega) (by simp) ?_)
  intro v' w1 hown hgrow hnil
  have hv : v' ≠ .slice none 0 0 := hnil
  obtain ⟨g', cap', rfl, hg1, hg2⟩ := own_some hown hv
  have HO := Lib.hid (show w1.ownsRow w2.heap.size 60 4 (.slice (some ⟨g', 0, none⟩) us.length cap') us.length (rowC us) by simpa using hown)
  have HG := Lib.hid ((al (Below.refl _ w2) (.cells #[] 60)).grown hgrow (by simp) (fun k hk => by simp [Value.ownBlock] at hk; omega))
  have hs := HG.out.size
  clear hown hgrow hnil hv
  go_wp2_with fail
  go_ret
  refine ⟨w1.heap.size, g', cap', ?_, ⟨?_, ?_, ?_, hlen⟩, al HG.out _, hs, hg1⟩
  · simp
  · simpa using Blk.new w1 57 [.slice (some ⟨g', 0, none⟩) us.length cap']
  · exact (RowB.of_own HO.out).alloc _
  · omega
/-- the definitions -/
def DefAt (w : World) (a : Option Addr) (ds : List Int) : Prop :=
  ds = [] ∨ ∃ b off, a = some ⟨b, off, none⟩ ∧ b < w.heap.size ∧ ∀ i (h : i < ds.length), w.cell? ⟨b, off + i * 2, none⟩ = some (.int .i64 ds[i]) ∧ ∃ t : Bool, w.cell? ⟨b, off + i * 2 + 1, none⟩ = some (.bool t)
theorem DefAt.below {w w' : World} {a : Option Addr} {ds : List Int} (h : DefAt w a ds) {B : Nat} (hb : Below B w w') (hB : w.heap.size ≤ B) : DefAt w' a ds := by
  rcases h with h | ⟨b, off, h1, h2, h3⟩
  · exact .inl h
  · exact .inr ⟨b, off, h1, Nat.lt_of_lt_of_le h2 hb.size, fun i hi => ⟨(hb.cell (p := ⟨b, _, none⟩) (Nat.lt_of_lt_of_le h2 hB)).trans (h3 i hi).1, by
      obtain ⟨t, ht⟩ := (h3 i hi).2
      exact ⟨t, (hb.cell (p := ⟨b, _, none⟩) (Nat.lt_of_lt_of_le h2 hB)).trans ht⟩⟩⟩
def badK (ds : List Int) (k : Nat) : Prop := ds[k]?.getD 0 < 0 ∨ 65535 < ds[k]?.getD 0 ∨ 0 < k ∧ ds[k]?.getD 0 ≤ ds[k - 1]?.getD 0
def okD (ds : List Int) : Prop := ds.length ≤ 256 ∧ ∀ k, k < ds.length → ¬ badK ds k
def fresh (id : Int) : U := ⟨id, 0, false, false⟩
theorem rowC_snoc (us : List U) (u : U) : rowC (us ++ [u]) = rowC us ++ u.cells := by simp [rowC]
theorem take_fresh (ds : List Int) {k : Nat} (hk : k < ds.length) : rowC ((ds.take (k + 1)).map fresh) = rowC ((ds.take k).map fresh) ++ [.int .i64 ds[k], .int .i64 0, .bool false, .bool false] := by
  rw [List.take_succ_eq_append_getElem hk, List.map_append, List.map_singleton, rowC_snoc]; rfl
theorem four_new (w : World) (xs : List Value) (t : TypeId) : ∀ j u, xs[j]? = some u → (w.alloc (.cells xs.toArray t)).cell? ((⟨w.heap.size, 0, none⟩ : Addr).add j) = some u := by
  intro j u hj
  rw [add_plain, Nat.zero_add, (Blk.new w t xs).cell]
  exact hj
theorem four_one (a b : Int) (c d : Bool) : ∀ u ∈ [Value.int .i64 a, .int .i64 b, .bool c, .bool d], u.oneCell' = true := by
  intro u hu
  simp only [List.mem_cons, List.not_mem_nil, or_false] at hu
  rcases hu with rfl | rfl | rfl | rfl <;> rfl
def BadQ (w : World) (e : Ending) (w' : World) : Prop := e = .returned (.tuple #[.pointer none, .int .i64 1]) ∧ Below w.heap.size w w'
/-- what New holds before round k -/
def NMid (w : World) (ds : List Int) (k : Nat) (v : Value) (wr : World) : Prop :=
  Blk wr (w.heap.size + 1) 57 [v] ∧ (∃ g cap, v = .slice (some ⟨g, 0, none⟩) k cap ∧ g ≠ w.heap.size + 1 ∧ w.heap.size ≤ g ∧ wr.ownsRow w.heap.size 60 4 (.slice (some ⟨g, 0, none⟩) k cap) k (rowC ((ds.take k).map fresh))) ∧ Below w.heap.size w wr
set_option maxRecDepth 20000 in
set_option maxHeartbeats 4000000 in
theorem new_any {w : World} {a : Option Addr} {ds : List Int} (c : Nat) (h : DefAt w a ds) (hm : ds.length ≤ 1000000) : Calls Try.prog 7 #[.slice a ds.length c] w fun e w' =>
    (okD ds ∧ ∃ b g cap, e = .returned (.tuple #[.pointer (some ⟨b, 0, none⟩), .int .i64 0]) ∧ UAt w' b g cap (ds.map fresh) ∧ w.heap.size ≤ b ∧ w.heap.size ≤ g ∧ Below w.heap.size w w') ∨ (¬ okD ds ∧ BadQ w e w') := by
  have H := Lib.hid h
  clear h
  by_cases hn : ds.length ≤ 256
  · have hn' : ¬ (256 : Int) < ds.length := by omega
    go_enter Try.func7, Try.ntmps7
    go_wp2_with fail
    go_loopw [15] (fun i wr => ∃ (k : Nat) (v : Value), k ≤ ds.length ∧ i = .int .i64 k ∧ NMid w ds k v wr ∧ ∀ j, j < k → ¬ badK ds j) (fun i _ => ds.length - (intOf i).toNat)
    case atStart =>
      refine ⟨0, .slice (some ⟨w.heap.size, 0, none⟩) 0 0, by omega, rfl, ⟨?_, ⟨w.heap.size, 0, rfl, by omega, by omega, ?_⟩, ?_⟩, fun j h => by omega⟩
      · exact Blk.newAt (by simp)
      · exact own_same (World.ownsRow_made _ #[] 0 (by omega) (by unfold maxLen; omega) rfl) (fun k hk => by simp [Value.ownBlock] at hk; subst hk; exact Below.heap_alloc _ _ _ (by simp))
      · exact al (al (Below.refl _ _) _) _
    case round =>
      obtain ⟨k, v, hk, rfl, ⟨hbx, ⟨g, cap, rfl, hgne, hgw, hO⟩, hB⟩, hj⟩ := hrel
      have HBX := Lib.hid hbx
      have HO := Lib.hid hO
      have HB := Lib.hid hB
      have HJ := Lib.hid hj
      clear hbx hO hB hj
      by_cases hlt : k < ds.length
      · obtain ⟨bd, off, rfl, hbd, hcs⟩ := (H.out.below HB.out (Nat.le_refl _)).resolve_left (fun e => by rw [e] at hlt; simp at hlt)
        obtain ⟨r0, tt, r1⟩ := hcs k hlt
        have hk0 : (0 : Int) ≤ (k : Int) := by omega
        have hk1 : (k : Int) < (ds.length : Int) := by omega
        have hsz := HB.out.size
        have hbx := HBX.out.lt
        have hx : badK ds k ∧ (ds[k] < 0 ∨ ¬ ds[k] < 0 ∧ 65535 < ds[k] ∨ ¬ ds[k] < 0 ∧ ¬ 65535 < ds[k] ∧ ∃ m y, k = m + 1 ∧ ds[k] ≤ y ∧ wr.cell? ⟨bd, off + m * 2, none⟩ = some (.int .i64 y)) ∨
            ¬ badK ds k ∧ ¬ ds[k] < 0 ∧ ¬ 65535 < ds[k] ∧ (k = 0 ∨ ∃ m y, k = m + 1 ∧ ¬ ds[k] ≤ y ∧ wr.cell? ⟨bd, off + m * 2, none⟩ = some (.int .i64 y)) := by
          have e : ds[k]?.getD 0 = ds[k] := by simp [hlt]
          by_cases h1 : ds[k] < 0
          · exact .inl ⟨.inl (by rw [e]; exact h1), .inl h1⟩
          · by_cases h2 : 65535 < ds[k]
            · exact .inl ⟨.inr (.inl (by rw [e]; exact h2)), .inr (.inl ⟨h1, h2⟩)⟩
            · rcases Nat.eq_zero_or_pos k with h3 | h3
              · exact .inr ⟨fun hb => by rcases hb with hb | hb | hb; rw [e] at hb; exact h1 hb; rw [e] at hb; exact h2 hb; omega, h1, h2, .inl h3⟩
              · obtain ⟨m, rfl⟩ : ∃ m, k = m + 1 := ⟨k - 1, by omega⟩
                have e2 : ds[m + 1 - 1]?.getD 0 = ds[m] := by simp [show m < ds.length by omega]
                have hc := (hcs m (by omega)).1
                by_cases h4 : ds[m + 1] ≤ ds[m]
                · exact .inl ⟨.inr (.inr ⟨by omega, by rw [e, e2]; exact h4⟩), .inr (.inr ⟨h1, h2, m, ds[m], rfl, h4, hc⟩)⟩
                · exact .inr ⟨fun hb => by rcases hb with hb | hb | hb; rw [e] at hb; exact h1 hb; rw [e] at hb; exact h2 hb; rw [e, e2] at hb; exact h4 hb.2, h1, h2, .inr ⟨m, ds[m], rfl, h4, hc⟩⟩
        have hbx0 := HBX.out.at 0 rfl
        have hbxf := HBX.out.free 0
        clear hcs
        have HLT := Lib.hid hlt
        have HTF := Lib.hid (take_fresh ds hlt)
        generalize ds[k] = x at r0 hx HTF
        clear hlt
        rcases hx with ⟨hbad, hx | ⟨hx1, hx2⟩ | ⟨hx1, hx2, m, y, hkm, hxy, hy⟩⟩ | ⟨hbad, hx1, hx2, hx3⟩
        · have HBAD := Lib.hid hbad
          clear hbad
          go_wp2_with fail
          refine wp_region_held_drew (S := (fun w' => w'.cell? ⟨wr.heap.size, 0, none⟩ = some (.int .i64 x))) (by kernel_rfl) (by (try dsimp only); go_keep) (fun hHeld => ?_)
          refine wpAnyH_take (i := 0) (oi := (Oper.mk (some 20) (Op.fieldAddr 28 (Operand.tmp 6) 0) 0 "units.go:26" #[] none)) (v := ?v0tb3cf) rfl (by kernel_rfl) (by kernel_rfl) (by kernel_rfl) (fun _ _ _ h => h) (Or.inl ⟨by rfl, ?hy0tb3cf⟩) (by assumption) ?rest0tb3cf
          case hy0tb3cf => (intro w hSw; (try dsimp only at hSw); go_simp; first | done | with_reducible rfl)
          (try simp only [Act.put, List.setIfInBounds_toArray, List.set_cons_zero, List.set_cons_succ])
          refine wpAnyH_take (i := 1) (oi := (Oper.mk (some 21) (Op.load 3 (Operand.tmp 20)) 3 "units.go:26" #[Edge.mk 0 Ground.data] none)) (v := ?v1tb3cf) rfl (by kernel_rfl) (by kernel_rfl) (by kernel_rfl) (fun _ _ _ h => h) (Or.inl ⟨by rfl, ?hy1tb3cf⟩) (by assumption) ?rest1tb3cf
          case hy1tb3cf => (intro w hSw; (try dsimp only at hSw); go_simp; first | done | with_reducible rfl)
          (try simp only [Act.put, List.setIfInBounds_toArray, List.set_cons_zero, List.set_cons_succ])
          refine wpAnyH_take (i := 2) (oi := (Oper.mk (some 22) (Op.binOp BinOp.lss 3 (Operand.tmp 21) (Operand.const (Value.int IntKind.i64 0)) 3) 4 "units.go:26" #[Edge.mk 1 Ground.data] none)) (v := ?v2tb3cf) rfl (by kernel_rfl) (by kernel_rfl) (by kernel_rfl) (fun _ _ _ h => h) (Or.inl ⟨by rfl, ?hy2tb3cf⟩) (by assumption) ?rest2tb3cf
          case hy2tb3cf => (intro w hSw; (try dsimp only at hSw); go_simp; first | done | with_reducible rfl)
          (try simp only [Act.put, List.setIfInBounds_toArray, List.set_cons_zero, List.set_cons_succ])
          refine wpAnyH_take (i := 3) (oi := (Oper.mk (some 23) (Op.move (Operand.tmp 22)) 4 "units.go:26" #[Edge.mk 2 Ground.data] none)) (v := ?v3tb3cf) rfl (by kernel_rfl) (by kernel_rfl) (by kernel_rfl) (fun _ _ _ h => h) (Or.inl ⟨by rfl, ?hy3tb3cf⟩) (by assumption) ?rest3tb3cf
          case hy3tb3cf => (intro w hSw; (try dsimp only at hSw); go_simp; first | done | with_reducible rfl)
          (try simp only [Act.put, List.setIfInBounds_toArray, List.set_cons_zero, List.set_cons_succ])
          refine wpAnyH_take (i := 4) (oi := (Oper.mk (some 24) (Op.fieldAddr 28 (Operand.tmp 6) 0) 0 "units.go:26" #[Edge.mk 3 Ground.guard] (some (3, false)))) (v := undef) rfl (by kernel_rfl) (by kernel_rfl) (by kernel_rfl) (fun _ _ _ h => h) (Or.inr ⟨by rfl, rfl⟩) (by assumption) ?_
          (try simp only [Act.put, List.setIfInBounds_toArray, List.set_cons_zero, List.set_cons_succ])
          refine wpAnyH_take (i := 5) (oi := (Oper.mk (some 25) (Op.load 3 (Operand.tmp 24)) 3 "units.go:26" #[Edge.mk 4 Ground.data, Edge.mk 3 Ground.guard] (some (3, false)))) (v := undef) rfl (by kernel_rfl) (by kernel_rfl) (by kernel_rfl) (fun _ _ _ h => h) (Or.inr ⟨by rfl, rfl⟩) (by assumption) ?_
          (try simp only [Act.put, List.setIfInBounds_toArray, List.set_cons_zero, List.set_cons_succ])
          refine wpAnyH_take (i := 6) (oi := (Oper.mk (some 26) (Op.binOp BinOp.gtr 3 (Operand.tmp 25) (Operand.const (Value.int IntKind.i64 65535)) 3) 4 "units.go:26" #[Edge.mk 5 Ground.data, Edge.mk 3 Ground.guard] (some (3, false)))) (v := undef) rfl (by kernel_rfl) (by kernel_rfl) (by kernel_rfl) (fun _ _ _ h => h) (Or.inr ⟨by rfl, rfl⟩) (by assumption) ?_
          (try simp only [Act.put, List.setIfInBounds_toArray, List.set_cons_zero, List.set_cons_succ])
          refine wpAnyH_take (i := 7) (oi := (Oper.mk (some 27) (Op.pick (Operand.tmp 23) (Operand.const (Value.bool true)) (Operand.tmp 26)) 4 "units.go:26" #[Edge.mk 3 Ground.data, Edge.mk 6 Ground.data] none)) (v := ?v7tb3cf) rfl (by kernel_rfl) (by kernel_rfl) (by kernel_rfl) (fun _ _ _ h => h) (Or.inl ⟨by rfl, ?hy7tb3cf⟩) (by assumption) ?rest7tb3cf
          case hy7tb3cf => (intro w hSw; (try dsimp only at hSw); go_simp; first | done | with_reducible rfl)
          (try simp only [Act.put, List.setIfInBounds_toArray, List.set_cons_zero, List.set_cons_succ])
          refine wpAnyH_take (i := 8) (oi := (Oper.mk (some 28) (Op.move (Operand.tmp 27)) 4 "units.go:26" #[Edge.mk 7 Ground.data, Edge.mk 3 Ground.chain] none)) (v := ?v8tb3cf) rfl (by kernel_rfl) (by kernel_rfl) (by kernel_rfl) (fun _ _ _ h => h) (Or.inl ⟨by rfl, ?hy8tb3cf⟩) (by assumption) ?rest8tb3cf
          case hy8tb3cf => (intro w hSw; (try dsimp only at hSw); go_simp; first | done | with_reducible rfl)
          (try simp only [Act.put, List.setIfInBounds_toArray, List.set_cons_zero, List.set_cons_succ])
          refine wpAnyH_take (i := 9) (oi := (Oper.mk (some 29) (Op.move (Operand.tmp 5)) 3 "units.go:26" #[Edge.mk 8 Ground.guard] (some (8, false)))) (v := undef) rfl (by kernel_rfl) (by kernel_rfl) (by kernel_rfl) (fun _ _ _ h => h) (Or.inr ⟨by rfl, rfl⟩) (by assumption) ?_
          (try simp only [Act.put, List.setIfInBounds_toArray, List.set_cons_zero, List.set_cons_succ])
          refine wpAnyH_take (i := 10) (oi := (Oper.mk (some 30) (Op.binOp BinOp.gtr 3 (Operand.tmp 29) (Operand.const (Value.int IntKind.i64 0)) 3) 4 "units.go:26" #[Edge.mk 9 Ground.data, Edge.mk 8 Ground.guard] (some (8, false)))) (v := undef) rfl (by kernel_rfl) (by kernel_rfl) (by kernel_rfl) (fun _ _ _ h => h) (Or.inr ⟨by rfl, rfl⟩) (by assumption) ?_
          (try simp only [Act.put, List.setIfInBounds_toArray, List.set_cons_zero, List.set_cons_succ])
          refine wpAnyH_take (i := 11) (oi := (Oper.mk (some 31) (Op.move (Operand.tmp 30)) 4 "units.go:26" #[Edge.mk 10 Ground.data, Edge.mk 8 Ground.chain, Edge.mk 8 Ground.guard] (some (8, false)))) (v := undef) rfl (by kernel_rfl) (by kernel_rfl) (by kernel_rfl) (fun _ _ _ h => h) (Or.inr ⟨by rfl, rfl⟩) (by assumption) ?_
          (try simp only [Act.put, List.setIfInBounds_toArray, List.set_cons_zero, List.set_cons_succ])
          refine wpAnyH_take (i := 12) (oi := (Oper.mk (some 32) (Op.move (Operand.tmp 0)) 29 "units.go:26" #[Edge.mk 11 Ground.guard] (some (11, true)))) (v := undef) rfl (by kernel_rfl) (by kernel_rfl) (by kernel_rfl) (fun _ _ _ h => h) (Or.inr ⟨by rfl, rfl⟩) (by assumption) ?_
          (try simp only [Act.put, List.setIfInBounds_toArray, List.set_cons_zero, List.set_cons_succ])
          refine wpAnyH_take (i := 13) (oi := (Oper.mk (some 33) (Op.move (Operand.tmp 5)) 3 "units.go:26" #[Edge.mk 11 Ground.guard] (some (11, true)))) (v := undef) rfl (by kernel_rfl) (by kernel_rfl) (by kernel_rfl) (fun _ _ _ h => h) (Or.inr ⟨by rfl, rfl⟩) (by assumption) ?_
          (try simp only [Act.put, List.setIfInBounds_toArray, List.set_cons_zero, List.set_cons_succ])
          refine wpAnyH_take (i := 14) (oi := (Oper.mk (some 34) (Op.binOp BinOp.sub 3 (Operand.tmp 33) (Operand.const (Value.int IntKind.i64 1)) 3) 3 "units.go:26" #[Edge.mk 13 Ground.data, Edge.mk 11 Ground.guard] (some (11, true)))) (v := undef) rfl (by kernel_rfl) (by kernel_rfl) (by kernel_rfl) (fun _ _ _ h => h) (Or.inr ⟨by rfl, rfl⟩) (by assumption) ?_
          (try simp only [Act.put, List.setIfInBounds_toArray, List.set_cons_zero, List.set_cons_succ])
          refine wpAnyH_take (i := 15) (oi := (Oper.mk (some 35) (Op.indexAddr 29 (Operand.tmp 32) (Operand.tmp 34)) 0 "units.go:26" #[Edge.mk 12 Ground.data, Edge.mk 14 Ground.data, Edge.mk 11 Ground.guard] (some (11, true)))) (v := undef) rfl (by kernel_rfl) (by kernel_rfl) (by kernel_rfl) (fun _ _ _ h => h) (Or.inr ⟨by rfl, rfl⟩) (by assumption) ?_
          (try simp only [Act.put, List.setIfInBounds_toArray, List.set_cons_zero, List.set_cons_succ])
          refine wpAnyH_take (i := 16) (oi := (Oper.mk (some 36) (Op.fieldAddr 28 (Operand.tmp 35) 0) 0 "units.go:26" #[Edge.mk 15 Ground.data, Edge.mk 11 Ground.guard] (some (11, true)))) (v := undef) rfl (by kernel_rfl) (by kernel_rfl) (by kernel_rfl) (fun _ _ _ h => h) (Or.inr ⟨by rfl, rfl⟩) (by assumption) ?_
          (try simp only [Act.put, List.setIfInBounds_toArray, List.set_cons_zero, List.set_cons_succ])
          refine wpAnyH_take (i := 17) (oi := (Oper.mk (some 37) (Op.load 3 (Operand.tmp 36)) 3 "units.go:26" #[Edge.mk 16 Ground.data, Edge.mk 11 Ground.guard] (some (11, true)))) (v := undef) rfl (by kernel_rfl) (by kernel_rfl) (by kernel_rfl) (fun _ _ _ h => h) (Or.inr ⟨by rfl, rfl⟩) (by assumption) ?_
          (try simp only [Act.put, List.setIfInBounds_toArray, List.set_cons_zero, List.set_cons_succ])
          refine wpAnyH_take (i := 18) (oi := (Oper.mk (some 38) (Op.fieldAddr 28 (Operand.tmp 6) 0) 0 "units.go:26" #[Edge.mk 11 Ground.guard] (some (11, true)))) (v := undef) rfl (by kernel_rfl) (by kernel_rfl) (by kernel_rfl) (fun _ _ _ h => h) (Or.inr ⟨by rfl, rfl⟩) (by assumption) ?_
          (try simp only [Act.put, List.setIfInBounds_toArray, List.set_cons_zero, List.set_cons_succ])
          refine wpAnyH_take (i := 19) (oi := (Oper.mk (some 39) (Op.load 3 (Operand.tmp 38)) 3 "units.go:26" #[Edge.mk 18 Ground.data, Edge.mk 11 Ground.guard] (some (11, true)))) (v := undef) rfl (by kernel_rfl) (by kernel_rfl) (by kernel_rfl) (fun _ _ _ h => h) (Or.inr ⟨by rfl, rfl⟩) (by assumption) ?_
          (try simp only [Act.put, List.setIfInBounds_toArray, List.set_cons_zero, List.set_cons_succ])
          refine wpAnyH_take (i := 20) (oi := (Oper.mk (some 40) (Op.binOp BinOp.geq 3 (Operand.tmp 37) (Operand.tmp 39) 3) 4 "units.go:26" #[Edge.mk 17 Ground.data, Edge.mk 19 Ground.data, Edge.mk 11 Ground.guard] (some (11, true)))) (v := undef) rfl (by kernel_rfl) (by kernel_rfl) (by kernel_rfl) (fun _ _ _ h => h) (Or.inr ⟨by rfl, rfl⟩) (by assumption) ?_
          (try simp only [Act.put, List.setIfInBounds_toArray, List.set_cons_zero, List.set_cons_succ])
          refine wpAnyH_take (i := 21) (oi := (Oper.mk (some 41) (Op.pick (Operand.tmp 31) (Operand.tmp 40) (Operand.const (Value.bool false))) 4 "units.go:26" #[Edge.mk 11 Ground.data, Edge.mk 20 Ground.data, Edge.mk 8 Ground.guard] (some (8, false)))) (v := undef) rfl (by kernel_rfl) (by kernel_rfl) (by kernel_rfl) (fun _ _ _ h => h) (Or.inr ⟨by rfl, rfl⟩) (by assumption) ?_
          (try simp only [Act.put, List.setIfInBounds_toArray, List.set_cons_zero, List.set_cons_succ])
          refine wpAnyH_take (i := 22) (oi := (Oper.mk (some 42) (Op.pick (Operand.tmp 28) (Operand.const (Value.bool true)) (Operand.tmp 41)) 4 "units.go:26" #[Edge.mk 8 Ground.data, Edge.mk 21 Ground.data] none)) (v := ?v22tb3cf) rfl (by kernel_rfl) (by kernel_rfl) (by kernel_rfl) (fun _ _ _ h => h) (Or.inl ⟨by rfl, ?hy22tb3cf⟩) (by assumption) ?rest22tb3cf
          case hy22tb3cf => (intro w hSw; (try dsimp only at hSw); go_simp; first | done | with_reducible rfl)
          (try simp only [Act.put, List.setIfInBounds_toArray, List.set_cons_zero, List.set_cons_succ])
          refine wpAnyH_done (by kernel_rfl) ?_ _
          go_wp2_with fail
          go_ret2
          exact .inr ⟨fun h => h.2 k HLT.out HBAD.out, rfl, (al HB.out _).drew⟩
        · have HBAD := Lib.hid hbad
          have b1 : decide (x < 0) = false := decide_eq_false hx1
          have b2 : decide (65535 < x) = true := decide_eq_true hx2
          clear hx1 hx2
          clear hbad
          go_wp2_with fail
          refine wp_region_held_drew (S := (fun w' => w'.cell? ⟨wr.heap.size, 0, none⟩ = some (.int .i64 x))) (by kernel_rfl) (by (try dsimp only); go_keep) (fun hHeld => ?_)
          refine wpAnyH_take (i := 0) (oi := (Oper.mk (some 20) (Op.fieldAddr 28 (Operand.tmp 6) 0) 0 "units.go:26" #[] none)) (v := ?v0t5a00) rfl (by kernel_rfl) (by kernel_rfl) (by kernel_rfl) (fun _ _ _ h => h) (Or.inl ⟨by rfl, ?hy0t5a00⟩) (by assumption) ?rest0t5a00
          case hy0t5a00 => (intro w hSw; (try dsimp only at hSw); go_simp; first | done | with_reducible rfl)
          (try simp only [Act.put, List.setIfInBounds_toArray, List.set_cons_zero, List.set_cons_succ])
          refine wpAnyH_take (i := 1) (oi := (Oper.mk (some 21) (Op.load 3 (Operand.tmp 20)) 3 "units.go:26" #[Edge.mk 0 Ground.data] none)) (v := ?v1t5a00) rfl (by kernel_rfl) (by kernel_rfl) (by kernel_rfl) (fun _ _ _ h => h) (Or.inl ⟨by rfl, ?hy1t5a00⟩) (by assumption) ?rest1t5a00
          case hy1t5a00 => (intro w hSw; (try dsimp only at hSw); go_simp; first | done | with_reducible rfl)
          (try simp only [Act.put, List.setIfInBounds_toArray, List.set_cons_zero, List.set_cons_succ])
          refine wpAnyH_take (i := 2) (oi := (Oper.mk (some 22) (Op.binOp BinOp.lss 3 (Operand.tmp 21) (Operand.const (Value.int IntKind.i64 0)) 3) 4 "units.go:26" #[Edge.mk 1 Ground.data] none)) (v := ?v2t5a00) rfl (by kernel_rfl) (by kernel_rfl) (by kernel_rfl) (fun _ _ _ h => h) (Or.inl ⟨by rfl, ?hy2t5a00⟩) (by assumption) ?rest2t5a00
          case hy2t5a00 => (intro w hSw; (try dsimp only at hSw); go_simp; first | done | with_reducible rfl)
          (try simp only [Act.put, List.setIfInBounds_toArray, List.set_cons_zero, List.set_cons_succ])
          refine wpAnyH_take (i := 3) (oi := (Oper.mk (some 23) (Op.move (Operand.tmp 22)) 4 "units.go:26" #[Edge.mk 2 Ground.data] none)) (v := ?v3t5a00) rfl (by kernel_rfl) (by kernel_rfl) (by kernel_rfl) (fun _ _ _ h => h) (Or.inl ⟨by rfl, ?hy3t5a00⟩) (by assumption) ?rest3t5a00
          case hy3t5a00 => (intro w hSw; (try dsimp only at hSw); go_simp; first | done | with_reducible rfl)
          (try simp only [Act.put, List.setIfInBounds_toArray, List.set_cons_zero, List.set_cons_succ])
          refine wpAnyH_take (i := 4) (oi := (Oper.mk (some 24) (Op.fieldAddr 28 (Operand.tmp 6) 0) 0 "units.go:26" #[Edge.mk 3 Ground.guard] (some (3, false)))) (v := ?v4t5a00) rfl (by kernel_rfl) (by kernel_rfl) (by kernel_rfl) (fun _ _ _ h => h) (Or.inl ⟨by rfl, ?hy4t5a00⟩) (by assumption) ?rest4t5a00
          case hy4t5a00 => (intro w hSw; (try dsimp only at hSw); go_simp; first | done | with_reducible rfl)
          (try simp only [Act.put, List.setIfInBounds_toArray, List.set_cons_zero, List.set_cons_succ])
          refine wpAnyH_take (i := 5) (oi := (Oper.mk (some 25) (Op.load 3 (Operand.tmp 24)) 3 "units.go:26" #[Edge.mk 4 Ground.data, Edge.mk 3 Ground.guard] (some (3, false)))) (v := ?v5t5a00) rfl (by kernel_rfl) (by kernel_rfl) (by kernel_rfl) (fun _ _ _ h => h) (Or.inl ⟨by rfl, ?hy5t5a00⟩) (by assumption) ?rest5t5a00
          case hy5t5a00 => (intro w hSw; (try dsimp only at hSw); go_simp; first | done | with_reducible rfl)
          (try simp only [Act.put, List.setIfInBounds_toArray, List.set_cons_zero, List.set_cons_succ])
          refine wpAnyH_take (i := 6) (oi := (Oper.mk (some 26) (Op.binOp BinOp.gtr 3 (Operand.tmp 25) (Operand.const (Value.int IntKind.i64 65535)) 3) 4 "units.go:26" #[Edge.mk 5 Ground.data, Edge.mk 3 Ground.guard] (some (3, false)))) (v := ?v6t5a00) rfl (by kernel_rfl) (by kernel_rfl) (by kernel_rfl) (fun _ _ _ h => h) (Or.inl ⟨by rfl, ?hy6t5a00⟩) (by assumption) ?rest6t5a00
          case hy6t5a00 => (intro w hSw; (try dsimp only at hSw); go_simp; first | done | with_reducible rfl)
          (try simp only [Act.put, List.setIfInBounds_toArray, List.set_cons_zero, List.set_cons_succ])
          refine wpAnyH_take (i := 7) (oi := (Oper.mk (some 27) (Op.pick (Operand.tmp 23) (Operand.const (Value.bool true)) (Operand.tmp 26)) 4 "units.go:26" #[Edge.mk 3 Ground.data, Edge.mk 6 Ground.data] none)) (v := ?v7t5a00) rfl (by kernel_rfl) (by kernel_rfl) (by kernel_rfl) (fun _ _ _ h => h) (Or.inl ⟨by rfl, ?hy7t5a00⟩) (by assumption) ?rest7t5a00
          case hy7t5a00 => (intro w hSw; (try dsimp only at hSw); go_simp; first | done | with_reducible rfl)
          (try simp only [Act.put, List.setIfInBounds_toArray, List.set_cons_zero, List.set_cons_succ])
          refine wpAnyH_take (i := 8) (oi := (Oper.mk (some 28) (Op.move (Operand.tmp 27)) 4 "units.go:26" #[Edge.mk 7 Ground.data, Edge.mk 3 Ground.chain] none)) (v := ?v8t5a00) rfl (by kernel_rfl) (by kernel_rfl) (by kernel_rfl) (fun _ _ _ h => h) (Or.inl ⟨by rfl, ?hy8t5a00⟩) (by assumption) ?rest8t5a00
          case hy8t5a00 => (intro w hSw; (try dsimp only at hSw); go_simp; first | done | with_reducible rfl)
          (try simp only [Act.put, List.setIfInBounds_toArray, List.set_cons_zero, List.set_cons_succ])
          refine wpAnyH_take (i := 9) (oi := (Oper.mk (some 29) (Op.move (Operand.tmp 5)) 3 "units.go:26" #[Edge.mk 8 Ground.guard] (some (8, false)))) (v := undef) rfl (by kernel_rfl) (by kernel_rfl) (by kernel_rfl) (fun _ _ _ h => h) (Or.inr ⟨by rfl, rfl⟩) (by assumption) ?_
          (try simp only [Act.put, List.setIfInBounds_toArray, List.set_cons_zero, List.set_cons_succ])
          refine wpAnyH_take (i := 10) (oi := (Oper.mk (some 30) (Op.binOp BinOp.gtr 3 (Operand.tmp 29) (Operand.const (Value.int IntKind.i64 0)) 3) 4 "units.go:26" #[Edge.mk 9 Ground.data, Edge.mk 8 Ground.guard] (some (8, false)))) (v := undef) rfl (by kernel_rfl) (by kernel_rfl) (by kernel_rfl) (fun _ _ _ h => h) (Or.inr ⟨by rfl, rfl⟩) (by assumption) ?_
          (try simp only [Act.put, List.setIfInBounds_toArray, List.set_cons_zero, List.set_cons_succ])
          refine wpAnyH_take (i := 11) (oi := (Oper.mk (some 31) (Op.move (Operand.tmp 30)) 4 "units.go:26" #[Edge.mk 10 Ground.data, Edge.mk 8 Ground.chain, Edge.mk 8 Ground.guard] (some (8, false)))) (v := undef) rfl (by kernel_rfl) (by kernel_rfl) (by kernel_rfl) (fun _ _ _ h => h) (Or.inr ⟨by rfl, rfl⟩) (by assumption) ?_
          (try simp only [Act.put, List.setIfInBounds_toArray, List.set_cons_zero, List.set_cons_succ])
          refine wpAnyH_take (i := 12) (oi := (Oper.mk (some 32) (Op.move (Operand.tmp 0)) 29 "units.go:26" #[Edge.mk 11 Ground.guard] (some (11, true)))) (v := undef) rfl (by kernel_rfl) (by kernel_rfl) (by kernel_rfl) (fun _ _ _ h => h) (Or.inr ⟨by rfl, rfl⟩) (by assumption) ?_
          (try simp only [Act.put, List.setIfInBounds_toArray, List.set_cons_zero, List.set_cons_succ])
          refine wpAnyH_take (i := 13) (oi := (Oper.mk (some 33) (Op.move (Operand.tmp 5)) 3 "units.go:26" #[Edge.mk 11 Ground.guard] (some (11, true)))) (v := undef) rfl (by kernel_rfl) (by kernel_rfl) (by kernel_rfl) (fun _ _ _ h => h) (Or.inr ⟨by rfl, rfl⟩) (by assumption) ?_
          (try simp only [Act.put, List.setIfInBounds_toArray, List.set_cons_zero, List.set_cons_succ])
          refine wpAnyH_take (i := 14) (oi := (Oper.mk (some 34) (Op.binOp BinOp.sub 3 (Operand.tmp 33) (Operand.const (Value.int IntKind.i64 1)) 3) 3 "units.go:26" #[Edge.mk 13 Ground.data, Edge.mk 11 Ground.guard] (some (11, true)))) (v := undef) rfl (by kernel_rfl) (by kernel_rfl) (by kernel_rfl) (fun _ _ _ h => h) (Or.inr ⟨by rfl, rfl⟩) (by assumption) ?_
          (try simp only [Act.put, List.setIfInBounds_toArray, List.set_cons_zero, List.set_cons_succ])
          refine wpAnyH_take (i := 15) (oi := (Oper.mk (some 35) (Op.indexAddr 29 (Operand.tmp 32) (Operand.tmp 34)) 0 "units.go:26" #[Edge.mk 12 Ground.data, Edge.mk 14 Ground.data, Edge.mk 11 Ground.guard] (some (11, true)))) (v := undef) rfl (by kernel_rfl) (by kernel_rfl) (by kernel_rfl) (fun _ _ _ h => h) (Or.inr ⟨by rfl, rfl⟩) (by assumption) ?_
          (try simp only [Act.put, List.setIfInBounds_toArray, List.set_cons_zero, List.set_cons_succ])
          refine wpAnyH_take (i := 16) (oi := (Oper.mk (some 36) (Op.fieldAddr 28 (Operand.tmp 35) 0) 0 "units.go:26" #[Edge.mk 15 Ground.data, Edge.mk 11 Ground.guard] (some (11, true)))) (v := undef) rfl (by kernel_rfl) (by kernel_rfl) (by kernel_rfl) (fun _ _ _ h => h) (Or.inr ⟨by rfl, rfl⟩) (by assumption) ?_
          (try simp only [Act.put, List.setIfInBounds_toArray, List.set_cons_zero, List.set_cons_succ])
          refine wpAnyH_take (i := 17) (oi := (Oper.mk (some 37) (Op.load 3 (Operand.tmp 36)) 3 "units.go:26" #[Edge.mk 16 Ground.data, Edge.mk 11 Ground.guard] (some (11, true)))) (v := undef) rfl (by kernel_rfl) (by kernel_rfl) (by kernel_rfl) (fun _ _ _ h => h) (Or.inr ⟨by rfl, rfl⟩) (by assumption) ?_
          (try simp only [Act.put, List.setIfInBounds_toArray, List.set_cons_zero, List.set_cons_succ])
          refine wpAnyH_take (i := 18) (oi := (Oper.mk (some 38) (Op.fieldAddr 28 (Operand.tmp 6) 0) 0 "units.go:26" #[Edge.mk 11 Ground.guard] (some (11, true)))) (v := undef) rfl (by kernel_rfl) (by kernel_rfl) (by kernel_rfl) (fun _ _ _ h => h) (Or.inr ⟨by rfl, rfl⟩) (by assumption) ?_
          (try simp only [Act.put, List.setIfInBounds_toArray, List.set_cons_zero, List.set_cons_succ])
          refine wpAnyH_take (i := 19) (oi := (Oper.mk (some 39) (Op.load 3 (Operand.tmp 38)) 3 "units.go:26" #[Edge.mk 18 Ground.data, Edge.mk 11 Ground.guard] (some (11, true)))) (v := undef) rfl (by kernel_rfl) (by kernel_rfl) (by kernel_rfl) (fun _ _ _ h => h) (Or.inr ⟨by rfl, rfl⟩) (by assumption) ?_
          (try simp only [Act.put, List.setIfInBounds_toArray, List.set_cons_zero, List.set_cons_succ])
          refine wpAnyH_take (i := 20) (oi := (Oper.mk (some 40) (Op.binOp BinOp.geq 3 (Operand.tmp 37) (Operand.tmp 39) 3) 4 "units.go:26" #[Edge.mk 17 Ground.data, Edge.mk 19 Ground.data, Edge.mk 11 Ground.guard] (some (11, true)))) (v := undef) rfl (by kernel_rfl) (by kernel_rfl) (by kernel_rfl) (fun _ _ _ h => h) (Or.inr ⟨by rfl, rfl⟩) (by assumption) ?_
          (try simp only [Act.put, List.setIfInBounds_toArray, List.set_cons_zero, List.set_cons_succ])
          refine wpAnyH_take (i := 21) (oi := (Oper.mk (some 41) (Op.pick (Operand.tmp 31) (Operand.tmp 40) (Operand.const (Value.bool false))) 4 "units.go:26" #[Edge.mk 11 Ground.data, Edge.mk 20 Ground.data, Edge.mk 8 Ground.guard] (some (8, false)))) (v := undef) rfl (by kernel_rfl) (by kernel_rfl) (by kernel_rfl) (fun _ _ _ h => h) (Or.inr ⟨by rfl, rfl⟩) (by assumption) ?_
          (try simp only [Act.put, List.setIfInBounds_toArray, List.set_cons_zero, List.set_cons_succ])
          refine wpAnyH_take (i := 22) (oi := (Oper.mk (some 42) (Op.pick (Operand.tmp 28) (Operand.const (Value.bool true)) (Operand.tmp 41)) 4 "units.go:26" #[Edge.mk 8 Ground.data, Edge.mk 21 Ground.data] none)) (v := ?v22t5a00) rfl (by kernel_rfl) (by kernel_rfl) (by kernel_rfl) (fun _ _ _ h => h) (Or.inl ⟨by rfl, ?hy22t5a00⟩) (by assumption) ?rest22t5a00
          case hy22t5a00 => (intro w hSw; (try dsimp only at hSw); go_simp; first | done | with_reducible rfl)
          (try simp only [Act.put, List.setIfInBounds_toArray, List.set_cons_zero, List.set_cons_succ])
          refine wpAnyH_done (by kernel_rfl) ?_ _
          go_wp2_with fail
          go_ret2
          exact .inr ⟨fun h => h.2 k HLT.out HBAD.out, rfl, (al HB.out _).drew⟩
        · have HBAD := Lib.hid hbad
          clear hbad
          have q5 : IntKind.i64.wrap ((k : Int) - 1) = m := by rw [IntWalk.i64_in _ (by omega)]; omega
          have hk2 : (0 : Int) < (k : Int) := by omega
          have hm1 : (m : Int) < (ds.length : Int) := by omega
          have hm0 : (0 : Int) ≤ (m : Int) := by omega
          have b1 : decide (x < 0) = false := decide_eq_false hx1
          have b2 : decide (65535 < x) = false := decide_eq_false hx2
          have b3 : decide ((0 : Int) < (k : Int)) = true := decide_eq_true hk2
          have b5 : decide (0 < k) = true := decide_eq_true (by omega)
          have b4 : decide (x ≤ y) = true := decide_eq_true hxy
          have HKM := Lib.hid hkm
          clear hkm hx1 hx2 hk2 hxy
          go_wp2_with fail
          refine wp_region_held_drew (S := (fun w' => w'.cell? ⟨wr.heap.size, 0, none⟩ = some (.int .i64 x) ∧ w'.cell? ⟨bd, off + m * 2, none⟩ = some (.int .i64 y))) (by kernel_rfl) (by (try dsimp only); go_keep) (fun hHeld => ?_)
          refine wpAnyH_take (i := 0) (oi := (Oper.mk (some 20) (Op.fieldAddr 28 (Operand.tmp 6) 0) 0 "units.go:26" #[] none)) (v := ?v0t2b8e) rfl (by kernel_rfl) (by kernel_rfl) (by kernel_rfl) (fun _ _ _ h => h) (Or.inl ⟨by rfl, ?hy0t2b8e⟩) (by assumption) ?rest0t2b8e
          case hy0t2b8e => (intro w hSw; (try dsimp only at hSw); go_simp; first | done | with_reducible rfl)
          (try simp only [Act.put, List.setIfInBounds_toArray, List.set_cons_zero, List.set_cons_succ])
          refine wpAnyH_take (i := 1) (oi := (Oper.mk (some 21) (Op.load 3 (Operand.tmp 20)) 3 "units.go:26" #[Edge.mk 0 Ground.data] none)) (v := ?v1t2b8e) rfl (by kernel_rfl) (by kernel_rfl) (by kernel_rfl) (fun _ _ _ h => h) (Or.inl ⟨by rfl, ?hy1t2b8e⟩) (by assumption) ?rest1t2b8e
          case hy1t2b8e => (intro w hSw; (try dsimp only at hSw); go_simp; first | done | with_reducible rfl)
          (try simp only [Act.put, List.setIfInBounds_toArray, List.set_cons_zero, List.set_cons_succ])
          refine wpAnyH_take (i := 2) (oi := (Oper.mk (some 22) (Op.binOp BinOp.lss 3 (Operand.tmp 21) (Operand.const (Value.int IntKind.i64 0)) 3) 4 "units.go:26" #[Edge.mk 1 Ground.data] none)) (v := ?v2t2b8e) rfl (by kernel_rfl) (by kernel_rfl) (by kernel_rfl) (fun _ _ _ h => h) (Or.inl ⟨by rfl, ?hy2t2b8e⟩) (by assumption) ?rest2t2b8e
          case hy2t2b8e => (intro w hSw; (try dsimp only at hSw); go_simp; first | done | with_reducible rfl)
          (try simp only [Act.put, List.setIfInBounds_toArray, List.set_cons_zero, List.set_cons_succ])
          refine wpAnyH_take (i := 3) (oi := (Oper.mk (some 23) (Op.move (Operand.tmp 22)) 4 "units.go:26" #[Edge.mk 2 Ground.data] none)) (v := ?v3t2b8e) rfl (by kernel_rfl) (by kernel_rfl) (by kernel_rfl) (fun _ _ _ h => h) (Or.inl ⟨by rfl, ?hy3t2b8e⟩) (by assumption) ?rest3t2b8e
          case hy3t2b8e => (intro w hSw; (try dsimp only at hSw); go_simp; first | done | with_reducible rfl)
          (try simp only [Act.put, List.setIfInBounds_toArray, List.set_cons_zero, List.set_cons_succ])
          refine wpAnyH_take (i := 4) (oi := (Oper.mk (some 24) (Op.fieldAddr 28 (Operand.tmp 6) 0) 0 "units.go:26" #[Edge.mk 3 Ground.guard] (some (3, false)))) (v := ?v4t2b8e) rfl (by kernel_rfl) (by kernel_rfl) (by kernel_rfl) (fun _ _ _ h => h) (Or.inl ⟨by rfl, ?hy4t2b8e⟩) (by assumption) ?rest4t2b8e
          case hy4t2b8e => (intro w hSw; (try dsimp only at hSw); go_simp; first | done | with_reducible rfl)
          (try simp only [Act.put, List.setIfInBounds_toArray, List.set_cons_zero, List.set_cons_succ])
          refine wpAnyH_take (i := 5) (oi := (Oper.mk (some 25) (Op.load 3 (Operand.tmp 24)) 3 "units.go:26" #[Edge.mk 4 Ground.data, Edge.mk 3 Ground.guard] (some (3, false)))) (v := ?v5t2b8e) rfl (by kernel_rfl) (by kernel_rfl) (by kernel_rfl) (fun _ _ _ h => h) (Or.inl ⟨by rfl, ?hy5t2b8e⟩) (by assumption) ?rest5t2b8e
          case hy5t2b8e => (intro w hSw; (try dsimp only at hSw); go_simp; first | done | with_reducible rfl)
          (try simp only [Act.put, List.setIfInBounds_toArray, List.set_cons_zero, List.set_cons_succ])
          refine wpAnyH_take (i := 6) (oi := (Oper.mk (some 26) (Op.binOp BinOp.gtr 3 (Operand.tmp 25) (Operand.const (Value.int IntKind.i64 65535)) 3) 4 "units.go:26" #[Edge.mk 5 Ground.data, Edge.mk 3 Ground.guard] (some (3, false)))) (v := ?v6t2b8e) rfl (by kernel_rfl) (by kernel_rfl) (by kernel_rfl) (fun _ _ _ h => h) (Or.inl ⟨by rfl, ?hy6t2b8e⟩) (by assumption) ?rest6t2b8e
          case hy6t2b8e => (intro w hSw; (try dsimp only at hSw); go_simp; first | done | with_reducible rfl)
          (try simp only [Act.put, List.setIfInBounds_toArray, List.set_cons_zero, List.set_cons_succ])
          refine wpAnyH_take (i := 7) (oi := (Oper.mk (some 27) (Op.pick (Operand.tmp 23) (Operand.const (Value.bool true)) (Operand.tmp 26)) 4 "units.go:26" #[Edge.mk 3 Ground.data, Edge.mk 6 Ground.data] none)) (v := ?v7t2b8e) rfl (by kernel_rfl) (by kernel_rfl) (by kernel_rfl) (fun _ _ _ h => h) (Or.inl ⟨by rfl, ?hy7t2b8e⟩) (by assumption) ?rest7t2b8e
          case hy7t2b8e => (intro w hSw; (try dsimp only at hSw); go_simp; first | done | with_reducible rfl)
          (try simp only [Act.put, List.setIfInBounds_toArray, List.set_cons_zero, List.set_cons_succ])
          refine wpAnyH_take (i := 8) (oi := (Oper.mk (some 28) (Op.move (Operand.tmp 27)) 4 "units.go:26" #[Edge.mk 7 Ground.data, Edge.mk 3 Ground.chain] none)) (v := ?v8t2b8e) rfl (by kernel_rfl) (by kernel_rfl) (by kernel_rfl) (fun _ _ _ h => h) (Or.inl ⟨by rfl, ?hy8t2b8e⟩) (by assumption) ?rest8t2b8e
          case hy8t2b8e => (intro w hSw; (try dsimp only at hSw); go_simp; first | done | with_reducible rfl)
          (try simp only [Act.put, List.setIfInBounds_toArray, List.set_cons_zero, List.set_cons_succ])
          refine wpAnyH_take (i := 9) (oi := (Oper.mk (some 29) (Op.move (Operand.tmp 5)) 3 "units.go:26" #[Edge.mk 8 Ground.guard] (some (8, false)))) (v := ?v9t2b8e) rfl (by kernel_rfl) (by kernel_rfl) (by kernel_rfl) (fun _ _ _ h => h) (Or.inl ⟨by rfl, ?hy9t2b8e⟩) (by assumption) ?rest9t2b8e
          case hy9t2b8e => (intro w hSw; (try dsimp only at hSw); go_simp; first | done | with_reducible rfl)
          (try simp only [Act.put, List.setIfInBounds_toArray, List.set_cons_zero, List.set_cons_succ])
          refine wpAnyH_take (i := 10) (oi := (Oper.mk (some 30) (Op.binOp BinOp.gtr 3 (Operand.tmp 29) (Operand.const (Value.int IntKind.i64 0)) 3) 4 "units.go:26" #[Edge.mk 9 Ground.data, Edge.mk 8 Ground.guard] (some (8, false)))) (v := ?v10t2b8e) rfl (by kernel_rfl) (by kernel_rfl) (by kernel_rfl) (fun _ _ _ h => h) (Or.inl ⟨by rfl, ?hy10t2b8e⟩) (by assumption) ?rest10t2b8e
          case hy10t2b8e => (intro w hSw; (try dsimp only at hSw); go_simp; first | done | with_reducible rfl)
          (try simp only [Act.put, List.setIfInBounds_toArray, List.set_cons_zero, List.set_cons_succ])
          refine wpAnyH_take (i := 11) (oi := (Oper.mk (some 31) (Op.move (Operand.tmp 30)) 4 "units.go:26" #[Edge.mk 10 Ground.data, Edge.mk 8 Ground.chain, Edge.mk 8 Ground.guard] (some (8, false)))) (v := ?v11t2b8e) rfl (by kernel_rfl) (by kernel_rfl) (by kernel_rfl) (fun _ _ _ h => h) (Or.inl ⟨by rfl, ?hy11t2b8e⟩) (by assumption) ?rest11t2b8e
          case hy11t2b8e => (intro w hSw; (try dsimp only at hSw); go_simp; first | done | with_reducible rfl)
          (try simp only [Act.put, List.setIfInBounds_toArray, List.set_cons_zero, List.set_cons_succ])
          refine wpAnyH_take (i := 12) (oi := (Oper.mk (some 32) (Op.move (Operand.tmp 0)) 29 "units.go:26" #[Edge.mk 11 Ground.guard] (some (11, true)))) (v := ?v12t2b8e) rfl (by kernel_rfl) (by kernel_rfl) (by kernel_rfl) (fun _ _ _ h => h) (Or.inl ⟨by rfl, ?hy12t2b8e⟩) (by assumption) ?rest12t2b8e
          case hy12t2b8e => (intro w hSw; (try dsimp only at hSw); go_simp; first | done | with_reducible rfl)
          (try simp only [Act.put, List.setIfInBounds_toArray, List.set_cons_zero, List.set_cons_succ])
          refine wpAnyH_take (i := 13) (oi := (Oper.mk (some 33) (Op.move (Operand.tmp 5)) 3 "units.go:26" #[Edge.mk 11 Ground.guard] (some (11, true)))) (v := ?v13t2b8e) rfl (by kernel_rfl) (by kernel_rfl) (by kernel_rfl) (fun _ _ _ h => h) (Or.inl ⟨by rfl, ?hy13t2b8e⟩) (by assumption) ?rest13t2b8e
          case hy13t2b8e => (intro w hSw; (try dsimp only at hSw); go_simp; first | done | with_reducible rfl)
          (try simp only [Act.put, List.setIfInBounds_toArray, List.set_cons_zero, List.set_cons_succ])
          refine wpAnyH_take (i := 14) (oi := (Oper.mk (some 34) (Op.binOp BinOp.sub 3 (Operand.tmp 33) (Operand.const (Value.int IntKind.i64 1)) 3) 3 "units.go:26" #[Edge.mk 13 Ground.data, Edge.mk 11 Ground.guard] (some (11, true)))) (v := ?v14t2b8e) rfl (by kernel_rfl) (by kernel_rfl) (by kernel_rfl) (fun _ _ _ h => h) (Or.inl ⟨by rfl, ?hy14t2b8e⟩) (by assumption) ?rest14t2b8e
          case hy14t2b8e => (intro w hSw; (try dsimp only at hSw); go_simp; first | done | with_reducible rfl)
          (try simp only [Act.put, List.setIfInBounds_toArray, List.set_cons_zero, List.set_cons_succ])
          refine wpAnyH_take (i := 15) (oi := (Oper.mk (some 35) (Op.indexAddr 29 (Operand.tmp 32) (Operand.tmp 34)) 0 "units.go:26" #[Edge.mk 12 Ground.data, Edge.mk 14 Ground.data, Edge.mk 11 Ground.guard] (some (11, true)))) (v := ?v15t2b8e) rfl (by kernel_rfl) (by kernel_rfl) (by kernel_rfl) (fun _ _ _ h => h) (Or.inl ⟨by rfl, ?hy15t2b8e⟩) (by assumption) ?rest15t2b8e
          case hy15t2b8e => (intro w hSw; (try dsimp only at hSw); go_simp; first | done | with_reducible rfl)
          (try simp only [Act.put, List.setIfInBounds_toArray, List.set_cons_zero, List.set_cons_succ])
          refine wpAnyH_take (i := 16) (oi := (Oper.mk (some 36) (Op.fieldAddr 28 (Operand.tmp 35) 0) 0 "units.go:26" #[Edge.mk 15 Ground.data, Edge.mk 11 Ground.guard] (some (11, true)))) (v := ?v16t2b8e) rfl (by kernel_rfl) (by kernel_rfl) (by kernel_rfl) (fun _ _ _ h => h) (Or.inl ⟨by rfl, ?hy16t2b8e⟩) (by assumption) ?rest16t2b8e
          case hy16t2b8e => (intro w hSw; (try dsimp only at hSw); go_simp; first | done | with_reducible rfl)
          (try simp only [Act.put, List.setIfInBounds_toArray, List.set_cons_zero, List.set_cons_succ])
          refine wpAnyH_take (i := 17) (oi := (Oper.mk (some 37) (Op.load 3 (Operand.tmp 36)) 3 "units.go:26" #[Edge.mk 16 Ground.data, Edge.mk 11 Ground.guard] (some (11, true)))) (v := ?v17t2b8e) rfl (by kernel_rfl) (by kernel_rfl) (by kernel_rfl) (fun _ _ _ h => h) (Or.inl ⟨by rfl, ?hy17t2b8e⟩) (by assumption) ?rest17t2b8e
          case hy17t2b8e => (intro w hSw; (try dsimp only at hSw); go_simp; first | done | with_reducible rfl)
          (try simp only [Act.put, List.setIfInBounds_toArray, List.set_cons_zero, List.set_cons_succ])
          refine wpAnyH_take (i := 18) (oi := (Oper.mk (some 38) (Op.fieldAddr 28 (Operand.tmp 6) 0) 0 "units.go:26" #[Edge.mk 11 Ground.guard] (some (11, true)))) (v := ?v18t2b8e) rfl (by kernel_rfl) (by kernel_rfl) (by kernel_rfl) (fun _ _ _ h => h) (Or.inl ⟨by rfl, ?hy18t2b8e⟩) (by assumption) ?rest18t2b8e
          case hy18t2b8e => (intro w hSw; (try dsimp only at hSw); go_simp; first | done | with_reducible rfl)
          (try simp only [Act.put, List.setIfInBounds_toArray, List.set_cons_zero, List.set_cons_succ])
          refine wpAnyH_take (i := 19) (oi := (Oper.mk (some 39) (Op.load 3 (Operand.tmp 38)) 3 "units.go:26" #[Edge.mk 18 Ground.data, Edge.mk 11 Ground.guard] (some (11, true)))) (v := ?v19t2b8e) rfl (by kernel_rfl) (by kernel_rfl) (by kernel_rfl) (fun _ _ _ h => h) (Or.inl ⟨by rfl, ?hy19t2b8e⟩) (by assumption) ?rest19t2b8e
          case hy19t2b8e => (intro w hSw; (try dsimp only at hSw); go_simp; first | done | with_reducible rfl)
          (try simp only [Act.put, List.setIfInBounds_toArray, List.set_cons_zero, List.set_cons_succ])
          refine wpAnyH_take (i := 20) (oi := (Oper.mk (some 40) (Op.binOp BinOp.geq 3 (Operand.tmp 37) (Operand.tmp 39) 3) 4 "units.go:26" #[Edge.mk 17 Ground.data, Edge.mk 19 Ground.data, Edge.mk 11 Ground.guard] (some (11, true)))) (v := ?v20t2b8e) rfl (by kernel_rfl) (by kernel_rfl) (by kernel_rfl) (fun _ _ _ h => h) (Or.inl ⟨by rfl, ?hy20t2b8e⟩) (by assumption) ?rest20t2b8e
          case hy20t2b8e => (intro w hSw; (try dsimp only at hSw); go_simp; first | done | with_reducible rfl)
          (try simp only [Act.put, List.setIfInBounds_toArray, List.set_cons_zero, List.set_cons_succ])
          refine wpAnyH_take (i := 21) (oi := (Oper.mk (some 41) (Op.pick (Operand.tmp 31) (Operand.tmp 40) (Operand.const (Value.bool false))) 4 "units.go:26" #[Edge.mk 11 Ground.data, Edge.mk 20 Ground.data, Edge.mk 8 Ground.guard] (some (8, false)))) (v := ?v21t2b8e) rfl (by kernel_rfl) (by kernel_rfl) (by kernel_rfl) (fun _ _ _ h => h) (Or.inl ⟨by rfl, ?hy21t2b8e⟩) (by assumption) ?rest21t2b8e
          case hy21t2b8e => (intro w hSw; (try dsimp only at hSw); go_simp; first | done | with_reducible rfl)
          (try simp only [Act.put, List.setIfInBounds_toArray, List.set_cons_zero, List.set_cons_succ])
          refine wpAnyH_take (i := 22) (oi := (Oper.mk (some 42) (Op.pick (Operand.tmp 28) (Operand.const (Value.bool true)) (Operand.tmp 41)) 4 "units.go:26" #[Edge.mk 8 Ground.data, Edge.mk 21 Ground.data] none)) (v := ?v22t2b8e) rfl (by kernel_rfl) (by kernel_rfl) (by kernel_rfl) (fun _ _ _ h => h) (Or.inl ⟨by rfl, ?hy22t2b8e⟩) (by assumption) ?rest22t2b8e
          case hy22t2b8e => (intro w hSw; (try dsimp only at hSw); go_simp; first | done | with_reducible rfl)
          (try simp only [Act.put, List.setIfInBounds_toArray, List.set_cons_zero, List.set_cons_succ])
          refine wpAnyH_done (by kernel_rfl) ?_ _
          go_wp2_with fail
          go_ret2
          exact .inr ⟨fun h => h.2 k HLT.out HBAD.out, rfl, (al HB.out _).drew⟩
        · have HBAD := Lib.hid hbad
          clear hbad
          obtain ⟨i0, hi, hz0, hz1, hz2⟩ := info_parts info60
          rcases hx3 with hx3 | ⟨m, y, hkm, hxy, hy⟩
          · have HK := Lib.hid hx3
            have hk2 : ¬ (0 : Int) < (k : Int) := by omega
            have b1 : decide (x < 0) = false := decide_eq_false hx1
            have b2 : decide (65535 < x) = false := decide_eq_false hx2
            have b3 : decide ((0 : Int) < (k : Int)) = false := decide_eq_false hk2
            have b5 : decide (0 < k) = false := decide_eq_false (by omega)
            clear hx3 hx1 hx2 hk2
            go_wp2_with fail
            refine wp_region_held_drew (S := (fun w' => w'.cell? ⟨wr.heap.size, 0, none⟩ = some (.int .i64 x))) (by kernel_rfl) (by (try dsimp only); go_keep) (fun hHeld => ?_)
            refine wpAnyH_take (i := 0) (oi := (Oper.mk (some 20) (Op.fieldAddr 28 (Operand.tmp 6) 0) 0 "units.go:26" #[] none)) (v := ?v0t29d3) rfl (by kernel_rfl) (by kernel_rfl) (by kernel_rfl) (fun _ _ _ h => h) (Or.inl ⟨by rfl, ?hy0t29d3⟩) (by assumption) ?rest0t29d3
            case hy0t29d3 => (intro w hSw; (try dsimp only at hSw); go_simp; first | done | with_reducible rfl)
            (try simp only [Act.put, List.setIfInBounds_toArray, List.set_cons_zero, List.set_cons_succ])
            refine wpAnyH_take (i := 1) (oi := (Oper.mk (some 21) (Op.load 3 (Operand.tmp 20)) 3 "units.go:26" #[Edge.mk 0 Ground.data] none)) (v := ?v1t29d3) rfl (by kernel_rfl) (by kernel_rfl) (by kernel_rfl) (fun _ _ _ h => h) (Or.inl ⟨by rfl, ?hy1t29d3⟩) (by assumption) ?rest1t29d3
            case hy1t29d3 => (intro w hSw; (try dsimp only at hSw); go_simp; first | done | with_reducible rfl)
            (try simp only [Act.put, List.setIfInBounds_toArray, List.set_cons_zero, List.set_cons_succ])
            refine wpAnyH_take (i := 2) (oi := (Oper.mk (some 22) (Op.binOp BinOp.lss 3 (Operand.tmp 21) (Operand.const (Value.int IntKind.i64 0)) 3) 4 "units.go:26" #[Edge.mk 1 Ground.data] none)) (v := ?v2t29d3) rfl (by kernel_rfl) (by kernel_rfl) (by kernel_rfl) (fun _ _ _ h => h) (Or.inl ⟨by rfl, ?hy2t29d3⟩) (by assumption) ?rest2t29d3
            case hy2t29d3 => (intro w hSw; (try dsimp only at hSw); go_simp; first | done | with_reducible rfl)
            (try simp only [Act.put, List.setIfInBounds_toArray, List.set_cons_zero, List.set_cons_succ])
            refine wpAnyH_take (i := 3) (oi := (Oper.mk (some 23) (Op.move (Operand.tmp 22)) 4 "units.go:26" #[Edge.mk 2 Ground.data] none)) (v := ?v3t29d3) rfl (by kernel_rfl) (by kernel_rfl) (by kernel_rfl) (fun _ _ _ h => h) (Or.inl ⟨by rfl, ?hy3t29d3⟩) (by assumption) ?rest3t29d3
            case hy3t29d3 => (intro w hSw; (try dsimp only at hSw); go_simp; first | done | with_reducible rfl)
            (try simp only [Act.put, List.setIfInBounds_toArray, List.set_cons_zero, List.set_cons_succ])
            refine wpAnyH_take (i := 4) (oi := (Oper.mk (some 24) (Op.fieldAddr 28 (Operand.tmp 6) 0) 0 "units.go:26" #[Edge.mk 3 Ground.guard] (some (3, false)))) (v := ?v4t29d3) rfl (by kernel_rfl) (by kernel_rfl) (by kernel_rfl) (fun _ _ _ h => h) (Or.inl ⟨by rfl, ?hy4t29d3⟩) (by assumption) ?rest4t29d3
            case hy4t29d3 => (intro w hSw; (try dsimp only at hSw); go_simp; first | done | with_reducible rfl)
            (try simp only [Act.put, List.setIfInBounds_toArray, List.set_cons_zero, List.set_cons_succ])
            refine wpAnyH_take (i := 5) (oi := (Oper.mk (some 25) (Op.load 3 (Operand.tmp 24)) 3 "units.go:26" #[Edge.mk 4 Ground.data, Edge.mk 3 Ground.guard] (some (3, false)))) (v := ?v5t29d3) rfl (by kernel_rfl) (by kernel_rfl) (by kernel_rfl) (fun _ _ _ h => h) (Or.inl ⟨by rfl, ?hy5t29d3⟩) (by assumption) ?rest5t29d3
            case hy5t29d3 => (intro w hSw; (try dsimp only at hSw); go_simp; first | done | with_reducible rfl)
            (try simp only [Act.put, List.setIfInBounds_toArray, List.set_cons_zero, List.set_cons_succ])
            refine wpAnyH_take (i := 6) (oi := (Oper.mk (some 26) (Op.binOp BinOp.gtr 3 (Operand.tmp 25) (Operand.const (Value.int IntKind.i64 65535)) 3) 4 "units.go:26" #[Edge.mk 5 Ground.data, Edge.mk 3 Ground.guard] (some (3, false)))) (v := ?v6t29d3) rfl (by kernel_rfl) (by kernel_rfl) (by kernel_rfl) (fun _ _ _ h => h) (Or.inl ⟨by rfl, ?hy6t29d3⟩) (by assumption) ?rest6t29d3
            case hy6t29d3 => (intro w hSw; (try dsimp only at hSw); go_simp; first | done | with_reducible rfl)
            (try simp only [Act.put, List.setIfInBounds_toArray, List.set_cons_zero, List.set_cons_succ])
            refine wpAnyH_take (i := 7) (oi := (Oper.mk (some 27) (Op.pick (Operand.tmp 23) (Operand.const (Value.bool true)) (Operand.tmp 26)) 4 "units.go:26" #[Edge.mk 3 Ground.data, Edge.mk 6 Ground.data] none)) (v := ?v7t29d3) rfl (by kernel_rfl) (by kernel_rfl) (by kernel_rfl) (fun _ _ _ h => h) (Or.inl ⟨by rfl, ?hy7t29d3⟩) (by assumption) ?rest7t29d3
            case hy7t29d3 => (intro w hSw; (try dsimp only at hSw); go_simp; first | done | with_reducible rfl)
            (try simp only [Act.put, List.setIfInBounds_toArray, List.set_cons_zero, List.set_cons_succ])
            refine wpAnyH_take (i := 8) (oi := (Oper.mk (some 28) (Op.move (Operand.tmp 27)) 4 "units.go:26" #[Edge.mk 7 Ground.data, Edge.mk 3 Ground.chain] none)) (v := ?v8t29d3) rfl (by kernel_rfl) (by kernel_rfl) (by kernel_rfl) (fun _ _ _ h => h) (Or.inl ⟨by rfl, ?hy8t29d3⟩) (by assumption) ?rest8t29d3
            case hy8t29d3 => (intro w hSw; (try dsimp only at hSw); go_simp; first | done | with_reducible rfl)
            (try simp only [Act.put, List.setIfInBounds_toArray, List.set_cons_zero, List.set_cons_succ])
            refine wpAnyH_take (i := 9) (oi := (Oper.mk (some 29) (Op.move (Operand.tmp 5)) 3 "units.go:26" #[Edge.mk 8 Ground.guard] (some (8, false)))) (v := ?v9t29d3) rfl (by kernel_rfl) (by kernel_rfl) (by kernel_rfl) (fun _ _ _ h => h) (Or.inl ⟨by rfl, ?hy9t29d3⟩) (by assumption) ?rest9t29d3
            case hy9t29d3 => (intro w hSw; (try dsimp only at hSw); go_simp; first | done | with_reducible rfl)
            (try simp only [Act.put, List.setIfInBounds_toArray, List.set_cons_zero, List.set_cons_succ])
            refine wpAnyH_take (i := 10) (oi := (Oper.mk (some 30) (Op.binOp BinOp.gtr 3 (Operand.tmp 29) (Operand.const (Value.int IntKind.i64 0)) 3) 4 "units.go:26" #[Edge.mk 9 Ground.data, Edge.mk 8 Ground.guard] (some (8, false)))) (v := ?v10t29d3) rfl (by kernel_rfl) (by kernel_rfl) (by kernel_rfl) (fun _ _ _ h => h) (Or.inl ⟨by rfl, ?hy10t29d3⟩) (by assumption) ?rest10t29d3
            case hy10t29d3 => (intro w hSw; (try dsimp only at hSw); go_simp; first | done | with_reducible rfl)
            (try simp only [Act.put, List.setIfInBounds_toArray, List.set_cons_zero, List.set_cons_succ])
            refine wpAnyH_take (i := 11) (oi := (Oper.mk (some 31) (Op.move (Operand.tmp 30)) 4 "units.go:26" #[Edge.mk 10 Ground.data, Edge.mk 8 Ground.chain, Edge.mk 8 Ground.guard] (some (8, false)))) (v := ?v11t29d3) rfl (by kernel_rfl) (by kernel_rfl) (by kernel_rfl) (fun _ _ _ h => h) (Or.inl ⟨by rfl, ?hy11t29d3⟩) (by assumption) ?rest11t29d3
            case hy11t29d3 => (intro w hSw; (try dsimp only at hSw); go_simp; first | done | with_reducible rfl)
            (try simp only [Act.put, List.setIfInBounds_toArray, List.set_cons_zero, List.set_cons_succ])
            refine wpAnyH_take (i := 12) (oi := (Oper.mk (some 32) (Op.move (Operand.tmp 0)) 29 "units.go:26" #[Edge.mk 11 Ground.guard] (some (11, true)))) (v := undef) rfl (by kernel_rfl) (by kernel_rfl) (by kernel_rfl) (fun _ _ _ h => h) (Or.inr ⟨by rfl, rfl⟩) (by assumption) ?_
            (try simp only [Act.put, List.setIfInBounds_toArray, List.set_cons_zero, List.set_cons_succ])
            refine wpAnyH_take (i := 13) (oi := (Oper.mk (some 33) (Op.move (Operand.tmp 5)) 3 "units.go:26" #[Edge.mk 11 Ground.guard] (some (11, true)))) (v := undef) rfl (by kernel_rfl) (by kernel_rfl) (by kernel_rfl) (fun _ _ _ h => h) (Or.inr ⟨by rfl, rfl⟩) (by assumption) ?_
            (try simp only [Act.put, List.setIfInBounds_toArray, List.set_cons_zero, List.set_cons_succ])
            refine wpAnyH_take (i := 14) (oi := (Oper.mk (some 34) (Op.binOp BinOp.sub 3 (Operand.tmp 33) (Operand.const (Value.int IntKind.i64 1)) 3) 3 "units.go:26" #[Edge.mk 13 Ground.data, Edge.mk 11 Ground.guard] (some (11, true)))) (v := undef) rfl (by kernel_rfl) (by kernel_rfl) (by kernel_rfl) (fun _ _ _ h => h) (Or.inr ⟨by rfl, rfl⟩) (by assumption) ?_
            (try simp only [Act.put, List.setIfInBounds_toArray, List.set_cons_zero, List.set_cons_succ])
            refine wpAnyH_take (i := 15) (oi := (Oper.mk (some 35) (Op.indexAddr 29 (Operand.tmp 32) (Operand.tmp 34)) 0 "units.go:26" #[Edge.mk 12 Ground.data, Edge.mk 14 Ground.data, Edge.mk 11 Ground.guard] (some (11, true)))) (v := undef) rfl (by kernel_rfl) (by kernel_rfl) (by kernel_rfl) (fun _ _ _ h => h) (Or.inr ⟨by rfl, rfl⟩) (by assumption) ?_
            (try simp only [Act.put, List.setIfInBounds_toArray, List.set_cons_zero, List.set_cons_succ])
            refine wpAnyH_take (i := 16) (oi := (Oper.mk (some 36) (Op.fieldAddr 28 (Operand.tmp 35) 0) 0 "units.go:26" #[Edge.mk 15 Ground.data, Edge.mk 11 Ground.guard] (some (11, true)))) (v := undef) rfl (by kernel_rfl) (by kernel_rfl) (by kernel_rfl) (fun _ _ _ h => h) (Or.inr ⟨by rfl, rfl⟩) (by assumption) ?_
            (try simp only [Act.put, List.setIfInBounds_toArray, List.set_cons_zero, List.set_cons_succ])
            refine wpAnyH_take (i := 17) (oi := (Oper.mk (some 37) (Op.load 3 (Operand.tmp 36)) 3 "units.go:26" #[Edge.mk 16 Ground.data, Edge.mk 11 Ground.guard] (some (11, true)))) (v := undef) rfl (by kernel_rfl) (by kernel_rfl) (by kernel_rfl) (fun _ _ _ h => h) (Or.inr ⟨by rfl, rfl⟩) (by assumption) ?_
            (try simp only [Act.put, List.setIfInBounds_toArray, List.set_cons_zero, List.set_cons_succ])
            refine wpAnyH_take (i := 18) (oi := (Oper.mk (some 38) (Op.fieldAddr 28 (Operand.tmp 6) 0) 0 "units.go:26" #[Edge.mk 11 Ground.guard] (some (11, true)))) (v := undef) rfl (by kernel_rfl) (by kernel_rfl) (by kernel_rfl) (fun _ _ _ h => h) (Or.inr ⟨by rfl, rfl⟩) (by assumption) ?_
            (try simp only [Act.put, List.setIfInBounds_toArray, List.set_cons_zero, List.set_cons_succ])
            refine wpAnyH_take (i := 19) (oi := (Oper.mk (some 39) (Op.load 3 (Operand.tmp 38)) 3 "units.go:26" #[Edge.mk 18 Ground.data, Edge.mk 11 Ground.guard] (some (11, true)))) (v := undef) rfl (by kernel_rfl) (by kernel_rfl) (by kernel_rfl) (fun _ _ _ h => h) (Or.inr ⟨by rfl, rfl⟩) (by assumption) ?_
            (try simp only [Act.put, List.setIfInBounds_toArray, List.set_cons_zero, List.set_cons_succ])
            refine wpAnyH_take (i := 20) (oi := (Oper.mk (some 40) (Op.binOp BinOp.geq 3 (Operand.tmp 37) (Operand.tmp 39) 3) 4 "units.go:26" #[Edge.mk 17 Ground.data, Edge.mk 19 Ground.data, Edge.mk 11 Ground.guard] (some (11, true)))) (v := undef) rfl (by kernel_rfl) (by kernel_rfl) (by kernel_rfl) (fun _ _ _ h => h) (Or.inr ⟨by rfl, rfl⟩) (by assumption) ?_
            (try simp only [Act.put, List.setIfInBounds_toArray, List.set_cons_zero, List.set_cons_succ])
            refine wpAnyH_take (i := 21) (oi := (Oper.mk (some 41) (Op.pick (Operand.tmp 31) (Operand.tmp 40) (Operand.const (Value.bool false))) 4 "units.go:26" #[Edge.mk 11 Ground.data, Edge.mk 20 Ground.data, Edge.mk 8 Ground.guard] (some (8, false)))) (v := ?v21t29d3) rfl (by kernel_rfl) (by kernel_rfl) (by kernel_rfl) (fun _ _ _ h => h) (Or.inl ⟨by rfl, ?hy21t29d3⟩) (by assumption) ?rest21t29d3
            case hy21t29d3 => (intro w hSw; (try dsimp only at hSw); go_simp; first | done | with_reducible rfl)
            (try simp only [Act.put, List.setIfInBounds_toArray, List.set_cons_zero, List.set_cons_succ])
            refine wpAnyH_take (i := 22) (oi := (Oper.mk (some 42) (Op.pick (Operand.tmp 28) (Operand.const (Value.bool true)) (Operand.tmp 41)) 4 "units.go:26" #[Edge.mk 8 Ground.data, Edge.mk 21 Ground.data] none)) (v := ?v22t29d3) rfl (by kernel_rfl) (by kernel_rfl) (by kernel_rfl) (fun _ _ _ h => h) (Or.inl ⟨by rfl, ?hy22t29d3⟩) (by assumption) ?rest22t29d3
            case hy22t29d3 => (intro w hSw; (try dsimp only at hSw); go_simp; first | done | with_reducible rfl)
            (try simp only [Act.put, List.setIfInBounds_toArray, List.set_cons_zero, List.set_cons_succ])
            refine wpAnyH_done (by kernel_rfl) ?_ _
            go_wp2_with fail
            have hB5 : Below w.heap.size w (wr.alloc (.cells #[.int .i64 x, .bool tt] 28)).drew := (al HB.out _).drew
            have hbx5 : Blk (wr.alloc (.cells #[.int .i64 x, .bool tt] 28)).drew (w.heap.size + 1) 57 [.slice (some ⟨g, 0, none⟩) k cap] := HBX.out.alloc _
            have hcp5 : Blk (wr.alloc (.cells #[.int .i64 x, .bool tt] 28)).drew wr.heap.size 28 [.int .i64 x, .bool tt] := Blk.new wr 28 _
            have hO5 : (wr.alloc (.cells #[.int .i64 x, .bool tt] 28)).drew.ownsRow w.heap.size 60 4 (.slice (some ⟨g, 0, none⟩) k cap) k (rowC ((ds.take k).map fresh)) := HO.out.alloc _
            generalize (wr.alloc (.cells #[.int .i64 x, .bool tt] 28)).drew = w5 at *
            have HB5 := Lib.hid hB5
            have HBX5 := Lib.hid hbx5
            have HO5 := Lib.hid hO5
            have x5 := hbx5.at 0 rfl
            have z5 := hcp5.at 0 rfl
            have u5 := hcp5.lt
            have v5 := hbx5.lt
            clear hB5 hbx5 hcp5 hO5 hbx0 hbxf
            go_region_law ((refine step_append_lies (o := ⟨some 52, _, _, _, _, _⟩) _ (by rfl) _ _ 55 (by rfl) w.heap.size 60 i0 _ 4 24 Try.underlying55 hi hz0 hz1 hz2 rfl (by decide) _ k (rowC ((ds.take k).map fresh)) (by rfl) (HO5.out.alloc _).drew ⟨w5.heap.size, 0, none⟩ 1 1 [.int .i64 x, .int .i64 0, .bool false, .bool false] (by rfl) (by rfl) (four_new w5 _ _) (four_one _ _ _ _) (by omega) (by unfold maxLen; omega) (by omega) (by simp; omega) (w5.heap.size + 1) (by simp) ?_; intro g' cap'' w6 hown' hgrow hwhere hlt6; have hb6 := (Blk.alloc HBX5.out (.cells #[.int .i64 x, .int .i64 0, .bool false, .bool false] 60)).drew.grown hgrow (by simp [Value.ownBlock]; exact hgne); have y6 := hb6.free 0; have z6 := hb6.at 0 rfl; have HB6 := Lib.hid ((al HB5.out _).drew.grown hgrow (by simp; omega) (fun k hk => by simp [Value.ownBlock] at hk; omega)); have HO6 := Lib.hid hown'; have HBX6 := Lib.hid hb6; have HG6 := Lib.hid hgrow; have hg6 : g' ≠ w.heap.size + 1 := (by rcases hwhere with h | h; (simp [Value.ownBlock] at h; omega); omega); have hg7 : w.heap.size ≤ g' := (by rcases hwhere with h | h; (simp [Value.ownBlock] at h; omega); omega); clear hown' hgrow hwhere hb6))
            all_goals
              go_wp2_with fail
              go_roundw
              case rel => exact ⟨k + 1, _, by have := HLT.out; omega, by go_num, ⟨HBX6.out.setCell 0 _, ⟨g', cap'', rfl, hg6, hg7, own_set (p := ⟨w.heap.size + 1, 0, none⟩) (by rw [HTF.out]; exact HO6.out) (by simp [Value.ownBlock]; exact hg6) _⟩, HB6.out.setCell (p := ⟨w.heap.size + 1, 0, none⟩) (by show w.heap.size ≤ w.heap.size + 1; omega) _⟩, fun j h1 => by
                rcases Nat.lt_or_ge j k with h2 | h2
                · exact HJ.out j h2
                · obtain rfl : j = k := by omega
                  exact HBAD.out⟩
              case measure => simp [intOf]; have := HLT.out; omega
          · have q5 : IntKind.i64.wrap ((k : Int) - 1) = m := by rw [IntWalk.i64_in _ (by omega)]; omega
            have hk2 : (0 : Int) < (k : Int) := by omega
            have hm1 : (m : Int) < (ds.length : Int) := by omega
            have hm0 : (0 : Int) ≤ (m : Int) := by omega
            have b1 : decide (x < 0) = false := decide_eq_false hx1
            have b2 : decide (65535 < x) = false := decide_eq_false hx2
            have b3 : decide ((0 : Int) < (k : Int)) = true := decide_eq_true hk2
            have b5 : decide (0 < k) = true := decide_eq_true (by omega)
            have b4 : decide (x ≤ y) = false := decide_eq_false hxy
            have HKM := Lib.hid hkm
            clear hkm hx1 hx2 hk2 hxy
            go_wp2_with fail
            refine wp_region_held_drew (S := (fun w' => w'.cell? ⟨wr.heap.size, 0, none⟩ = some (.int .i64 x) ∧ w'.cell? ⟨bd, off + m * 2, none⟩ = some (.int .i64 y))) (by kernel_rfl) (by (try dsimp only); go_keep) (fun hHeld => ?_)
            refine wpAnyH_take (i := 0) (oi := (Oper.mk (some 20) (Op.fieldAddr 28 (Operand.tmp 6) 0) 0 "units.go:26" #[] none)) (v := ?v0t52fe) rfl (by kernel_rfl) (by kernel_rfl) (by kernel_rfl) (fun _ _ _ h => h) (Or.inl ⟨by rfl, ?hy0t52fe⟩) (by assumption) ?rest0t52fe
            case hy0t52fe => (intro w hSw; (try dsimp only at hSw); go_simp; first | done | with_reducible rfl)
            (try simp only [Act.put, List.setIfInBounds_toArray, List.set_cons_zero, List.set_cons_succ])
            refine wpAnyH_take (i := 1) (oi := (Oper.mk (some 21) (Op.load 3 (Operand.tmp 20)) 3 "units.go:26" #[Edge.mk 0 Ground.data] none)) (v := ?v1t52fe) rfl (by kernel_rfl) (by kernel_rfl) (by kernel_rfl) (fun _ _ _ h => h) (Or.inl ⟨by rfl, ?hy1t52fe⟩) (by assumption) ?rest1t52fe
            case hy1t52fe => (intro w hSw; (try dsimp only at hSw); go_simp; first | done | with_reducible rfl)
            (try simp only [Act.put, List.setIfInBounds_toArray, List.set_cons_zero, List.set_cons_succ])
            refine wpAnyH_take (i := 2) (oi := (Oper.mk (some 22) (Op.binOp BinOp.lss 3 (Operand.tmp 21) (Operand.const (Value.int IntKind.i64 0)) 3) 4 "units.go:26" #[Edge.mk 1 Ground.data] none)) (v := ?v2t52fe) rfl (by kernel_rfl) (by kernel_rfl) (by kernel_rfl) (fun _ _ _ h => h) (Or.inl ⟨by rfl, ?hy2t52fe⟩) (by assumption) ?rest2t52fe
            case hy2t52fe => (intro w hSw; (try dsimp only at hSw); go_simp; first | done | with_reducible rfl)
            (try simp only [Act.put, List.setIfInBounds_toArray, List.set_cons_zero, List.set_cons_succ])
            refine wpAnyH_take (i := 3) (oi := (Oper.mk (some 23) (Op.move (Operand.tmp 22)) 4 "units.go:26" #[Edge.mk 2 Ground.data] none)) (v := ?v3t52fe) rfl (by kernel_rfl) (by kernel_rfl) (by kernel_rfl) (fun _ _ _ h => h) (Or.inl ⟨by rfl, ?hy3t52fe⟩) (by assumption) ?rest3t52fe
            case hy3t52fe => (intro w hSw; (try dsimp only at hSw); go_simp; first | done | with_reducible rfl)
            (try simp only [Act.put, List.setIfInBounds_toArray, List.set_cons_zero, List.set_cons_succ])
            refine wpAnyH_take (i := 4) (oi := (Oper.mk (some 24) (Op.fieldAddr 28 (Operand.tmp 6) 0) 0 "units.go:26" #[Edge.mk 3 Ground.guard] (some (3, false)))) (v := ?v4t52fe) rfl (by kernel_rfl) (by kernel_rfl) (by kernel_rfl) (fun _ _ _ h => h) (Or.inl ⟨by rfl, ?hy4t52fe⟩) (by assumption) ?rest4t52fe
            case hy4t52fe => (intro w hSw; (try dsimp only at hSw); go_simp; first | done | with_reducible rfl)
            (try simp only [Act.put, List.setIfInBounds_toArray, List.set_cons_zero, List.set_cons_succ])
            refine wpAnyH_take (i := 5) (oi := (Oper.mk (some 25) (Op.load 3 (Operand.tmp 24)) 3 "units.go:26" #[Edge.mk 4 Ground.data, Edge.mk 3 Ground.guard] (some (3, false)))) (v := ?v5t52fe) rfl (by kernel_rfl) (by kernel_rfl) (by kernel_rfl) (fun _ _ _ h => h) (Or.inl ⟨by rfl, ?hy5t52fe⟩) (by assumption) ?rest5t52fe
            case hy5t52fe => (intro w hSw; (try dsimp only at hSw); go_simp; first | done | with_reducible rfl)
            (try simp only [Act.put, List.setIfInBounds_toArray, List.set_cons_zero, List.set_cons_succ])
            refine wpAnyH_take (i := 6) (oi := (Oper.mk (some 26) (Op.binOp BinOp.gtr 3 (Operand.tmp 25) (Operand.const (Value.int IntKind.i64 65535)) 3) 4 "units.go:26" #[Edge.mk 5 Ground.data, Edge.mk 3 Ground.guard] (some (3, false)))) (v := ?v6t52fe) rfl (by kernel_rfl) (by kernel_rfl) (by kernel_rfl) (fun _ _ _ h => h) (Or.inl ⟨by rfl, ?hy6t52fe⟩) (by assumption) ?rest6t52fe
            case hy6t52fe => (intro w hSw; (try dsimp only at hSw); go_simp; first | done | with_reducible rfl)
            (try simp only [Act.put, List.setIfInBounds_toArray, List.set_cons_zero, List.set_cons_succ])
            refine wpAnyH_take (i := 7) (oi := (Oper.mk (some 27) (Op.pick (Operand.tmp 23) (Operand.const (Value.bool true)) (Operand.tmp 26)) 4 "units.go:26" #[Edge.mk 3 Ground.data, Edge.mk 6 Ground.data] none)) (v := ?v7t52fe) rfl (by kernel_rfl) (by kernel_rfl) (by kernel_rfl) (fun _ _ _ h => h) (Or.inl ⟨by rfl, ?hy7t52fe⟩) (by assumption) ?rest7t52fe
            case hy7t52fe => (intro w hSw; (try dsimp only at hSw); go_simp; first | done | with_reducible rfl)
            (try simp only [Act.put, List.setIfInBounds_toArray, List.set_cons_zero, List.set_cons_succ])
            refine wpAnyH_take (i := 8) (oi := (Oper.mk (some 28) (Op.move (Operand.tmp 27)) 4 "units.go:26" #[Edge.mk 7 Ground.data, Edge.mk 3 Ground.chain] none)) (v := ?v8t52fe) rfl (by kernel_rfl) (by kernel_rfl) (by kernel_rfl) (fun _ _ _ h => h) (Or.inl ⟨by rfl, ?hy8t52fe⟩) (by assumption) ?rest8t52fe
            case hy8t52fe => (intro w hSw; (try dsimp only at hSw); go_simp; first | done | with_reducible rfl)
            (try simp only [Act.put, List.setIfInBounds_toArray, List.set_cons_zero, List.set_cons_succ])
            refine wpAnyH_take (i := 9) (oi := (Oper.mk (some 29) (Op.move (Operand.tmp 5)) 3 "units.go:26" #[Edge.mk 8 Ground.guard] (some (8, false)))) (v := ?v9t52fe) rfl (by kernel_rfl) (by kernel_rfl) (by kernel_rfl) (fun _ _ _ h => h) (Or.inl ⟨by rfl, ?hy9t52fe⟩) (by assumption) ?rest9t52fe
            case hy9t52fe => (intro w hSw; (try dsimp only at hSw); go_simp; first | done | with_reducible rfl)
            (try simp only [Act.put, List.setIfInBounds_toArray, List.set_cons_zero, List.set_cons_succ])
            refine wpAnyH_take (i := 10) (oi := (Oper.mk (some 30) (Op.binOp BinOp.gtr 3 (Operand.tmp 29) (Operand.const (Value.int IntKind.i64 0)) 3) 4 "units.go:26" #[Edge.mk 9 Ground.data, Edge.mk 8 Ground.guard] (some (8, false)))) (v := ?v10t52fe) rfl (by kernel_rfl) (by kernel_rfl) (by kernel_rfl) (fun _ _ _ h => h) (Or.inl ⟨by rfl, ?hy10t52fe⟩) (by assumption) ?rest10t52fe
            case hy10t52fe => (intro w hSw; (try dsimp only at hSw); go_simp; first | done | with_reducible rfl)
            (try simp only [Act.put, List.setIfInBounds_toArray, List.set_cons_zero, List.set_cons_succ])
            refine wpAnyH_take (i := 11) (oi := (Oper.mk (some 31) (Op.move (Operand.tmp 30)) 4 "units.go:26" #[Edge.mk 10 Ground.data, Edge.mk 8 Ground.chain, Edge.mk 8 Ground.guard] (some (8, false)))) (v := ?v11t52fe) rfl (by kernel_rfl) (by kernel_rfl) (by kernel_rfl) (fun _ _ _ h => h) (Or.inl ⟨by rfl, ?hy11t52fe⟩) (by assumption) ?rest11t52fe
            case hy11t52fe => (intro w hSw; (try dsimp only at hSw); go_simp; first | done | with_reducible rfl)
            (try simp only [Act.put, List.setIfInBounds_toArray, List.set_cons_zero, List.set_cons_succ])
            refine wpAnyH_take (i := 12) (oi := (Oper.mk (some 32) (Op.move (Operand.tmp 0)) 29 "units.go:26" #[Edge.mk 11 Ground.guard] (some (11, true)))) (v := ?v12t52fe) rfl (by kernel_rfl) (by kernel_rfl) (by kernel_rfl) (fun _ _ _ h => h) (Or.inl ⟨by rfl, ?hy12t52fe⟩) (by assumption) ?rest12t52fe
            case hy12t52fe => (intro w hSw; (try dsimp only at hSw); go_simp; first | done | with_reducible rfl)
            (try simp only [Act.put, List.setIfInBounds_toArray, List.set_cons_zero, List.set_cons_succ])
            refine wpAnyH_take (i := 13) (oi := (Oper.mk (some 33) (Op.move (Operand.tmp 5)) 3 "units.go:26" #[Edge.mk 11 Ground.guard] (some (11, true)))) (v := ?v13t52fe) rfl (by kernel_rfl) (by kernel_rfl) (by kernel_rfl) (fun _ _ _ h => h) (Or.inl ⟨by rfl, ?hy13t52fe⟩) (by assumption) ?rest13t52fe
            case hy13t52fe => (intro w hSw; (try dsimp only at hSw); go_simp; first | done | with_reducible rfl)
            (try simp only [Act.put, List.setIfInBounds_toArray, List.set_cons_zero, List.set_cons_succ])
            refine wpAnyH_take (i := 14) (oi := (Oper.mk (some 34) (Op.binOp BinOp.sub 3 (Operand.tmp 33) (Operand.const (Value.int IntKind.i64 1)) 3) 3 "units.go:26" #[Edge.mk 13 Ground.data, Edge.mk 11 Ground.guard] (some (11, true)))) (v := ?v14t52fe) rfl (by kernel_rfl) (by kernel_rfl) (by kernel_rfl) (fun _ _ _ h => h) (Or.inl ⟨by rfl, ?hy14t52fe⟩) (by assumption) ?rest14t52fe
            case hy14t52fe => (intro w hSw; (try dsimp only at hSw); go_simp; first | done | with_reducible rfl)
            (try simp only [Act.put, List.setIfInBounds_toArray, List.set_cons_zero, List.set_cons_succ])
            refine wpAnyH_take (i := 15) (oi := (Oper.mk (some 35) (Op.indexAddr 29 (Operand.tmp 32) (Operand.tmp 34)) 0 "units.go:26" #[Edge.mk 12 Ground.data, Edge.mk 14 Ground.data, Edge.mk 11 Ground.guard] (some (11, true)))) (v := ?v15t52fe) rfl (by kernel_rfl) (by kernel_rfl) (by kernel_rfl) (fun _ _ _ h => h) (Or.inl ⟨by rfl, ?hy15t52fe⟩) (by assumption) ?rest15t52fe
            case hy15t52fe => (intro w hSw; (try dsimp only at hSw); go_simp; first | done | with_reducible rfl)
            (try simp only [Act.put, List.setIfInBounds_toArray, List.set_cons_zero, List.set_cons_succ])
            refine wpAnyH_take (i := 16) (oi := (Oper.mk (some 36) (Op.fieldAddr 28 (Operand.tmp 35) 0) 0 "units.go:26" #[Edge.mk 15 Ground.data, Edge.mk 11 Ground.guard] (some (11, true)))) (v := ?v16t52fe) rfl (by kernel_rfl) (by kernel_rfl) (by kernel_rfl) (fun _ _ _ h => h) (Or.inl ⟨by rfl, ?hy16t52fe⟩) (by assumption) ?rest16t52fe
            case hy16t52fe => (intro w hSw; (try dsimp only at hSw); go_simp; first | done | with_reducible rfl)
            (try simp only [Act.put, List.setIfInBounds_toArray, List.set_cons_zero, List.set_cons_succ])
            refine wpAnyH_take (i := 17) (oi := (Oper.mk (some 37) (Op.load 3 (Operand.tmp 36)) 3 "units.go:26" #[Edge.mk 16 Ground.data, Edge.mk 11 Ground.guard] (some (11, true)))) (v := ?v17t52fe) rfl (by kernel_rfl) (by kernel_rfl) (by kernel_rfl) (fun _ _ _ h => h) (Or.inl ⟨by rfl, ?hy17t52fe⟩) (by assumption) ?rest17t52fe
            case hy17t52fe => (intro w hSw; (try dsimp only at hSw); go_simp; first | done | with_reducible rfl)
            (try simp only [Act.put, List.setIfInBounds_toArray, List.set_cons_zero, List.set_cons_succ])
            refine wpAnyH_take (i := 18) (oi := (Oper.mk (some 38) (Op.fieldAddr 28 (Operand.tmp 6) 0) 0 "units.go:26" #[Edge.mk 11 Ground.guard] (some (11, true)))) (v := ?v18t52fe) rfl (by kernel_rfl) (by kernel_rfl) (by kernel_rfl) (fun _ _ _ h => h) (Or.inl ⟨by rfl, ?hy18t52fe⟩) (by assumption) ?rest18t52fe
            case hy18t52fe => (intro w hSw; (try dsimp only at hSw); go_simp; first | done | with_reducible rfl)
            (try simp only [Act.put, List.setIfInBounds_toArray, List.set_cons_zero, List.set_cons_succ])
            refine wpAnyH_take (i := 19) (oi := (Oper.mk (some 39) (Op.load 3 (Operand.tmp 38)) 3 "units.go:26" #[Edge.mk 18 Ground.data, Edge.mk 11 Ground.guard] (some (11, true)))) (v := ?v19t52fe) rfl (by kernel_rfl) (by kernel_rfl) (by kernel_rfl) (fun _ _ _ h => h) (Or.inl ⟨by rfl, ?hy19t52fe⟩) (by assumption) ?rest19t52fe
            case hy19t52fe => (intro w hSw; (try dsimp only at hSw); go_simp; first | done | with_reducible rfl)
            (try simp only [Act.put, List.setIfInBounds_toArray, List.set_cons_zero, List.set_cons_succ])
            refine wpAnyH_take (i := 20) (oi := (Oper.mk (some 40) (Op.binOp BinOp.geq 3 (Operand.tmp 37) (Operand.tmp 39) 3) 4 "units.go:26" #[Edge.mk 17 Ground.data, Edge.mk 19 Ground.data, Edge.mk 11 Ground.guard] (some (11, true)))) (v := ?v20t52fe) rfl (by kernel_rfl) (by kernel_rfl) (by kernel_rfl) (fun _ _ _ h => h) (Or.inl ⟨by rfl, ?hy20t52fe⟩) (by assumption) ?rest20t52fe
            case hy20t52fe => (intro w hSw; (try dsimp only at hSw); go_simp; first | done | with_reducible rfl)
            (try simp only [Act.put, List.setIfInBounds_toArray, List.set_cons_zero, List.set_cons_succ])
            refine wpAnyH_take (i := 21) (oi := (Oper.mk (some 41) (Op.pick (Operand.tmp 31) (Operand.tmp 40) (Operand.const (Value.bool false))) 4 "units.go:26" #[Edge.mk 11 Ground.data, Edge.mk 20 Ground.data, Edge.mk 8 Ground.guard] (some (8, false)))) (v := ?v21t52fe) rfl (by kernel_rfl) (by kernel_rfl) (by kernel_rfl) (fun _ _ _ h => h) (Or.inl ⟨by rfl, ?hy21t52fe⟩) (by assumption) ?rest21t52fe
            case hy21t52fe => (intro w hSw; (try dsimp only at hSw); go_simp; first | done | with_reducible rfl)
            (try simp only [Act.put, List.setIfInBounds_toArray, List.set_cons_zero, List.set_cons_succ])
            refine wpAnyH_take (i := 22) (oi := (Oper.mk (some 42) (Op.pick (Operand.tmp 28) (Operand.const (Value.bool true)) (Operand.tmp 41)) 4 "units.go:26" #[Edge.mk 8 Ground.data, Edge.mk 21 Ground.data] none)) (v := ?v22t52fe) rfl (by kernel_rfl) (by kernel_rfl) (by kernel_rfl) (fun _ _ _ h => h) (Or.inl ⟨by rfl, ?hy22t52fe⟩) (by assumption) ?rest22t52fe
            case hy22t52fe => (intro w hSw; (try dsimp only at hSw); go_simp; first | done | with_reducible rfl)
            (try simp only [Act.put, List.setIfInBounds_toArray, List.set_cons_zero, List.set_cons_succ])
            refine wpAnyH_done (by kernel_rfl) ?_ _
            go_wp2_with fail
            have hB5 : Below w.heap.size w (wr.alloc (.cells #[.int .i64 x, .bool tt] 28)).drew := (al HB.out _).drew
            have hbx5 : Blk (wr.alloc (.cells #[.int .i64 x, .bool tt] 28)).drew (w.heap.size + 1) 57 [.slice (some ⟨g, 0, none⟩) k cap] := HBX.out.alloc _
            have hcp5 : Blk (wr.alloc (.cells #[.int .i64 x, .bool tt] 28)).drew wr.heap.size 28 [.int .i64 x, .bool tt] := Blk.new wr 28 _
            have hO5 : (wr.alloc (.cells #[.int .i64 x, .bool tt] 28)).drew.ownsRow w.heap.size 60 4 (.slice (some ⟨g, 0, none⟩) k cap) k (rowC ((ds.take k).map fresh)) := HO.out.alloc _
            generalize (wr.alloc (.cells #[.int .i64 x, .bool tt] 28)).drew = w5 at *
            have HB5 := Lib.hid hB5
            have HBX5 := Lib.hid hbx5
            have HO5 := Lib.hid hO5
            have x5 := hbx5.at 0 rfl
            have z5 := hcp5.at 0 rfl
            have u5 := hcp5.lt
            have v5 := hbx5.lt
            clear hB5 hbx5 hcp5 hO5 hbx0 hbxf
            go_region_law ((refine step_append_lies (o := ⟨some 52, _, _, _, _, _⟩) _ (by rfl) _ _ 55 (by rfl) w.heap.size 60 i0 _ 4 24 Try.underlying55 hi hz0 hz1 hz2 rfl (by decide) _ k (rowC ((ds.take k).map fresh)) (by rfl) (HO5.out.alloc _).drew ⟨w5.heap.size, 0, none⟩ 1 1 [.int .i64 x, .int .i64 0, .bool false, .bool false] (by rfl) (by rfl) (four_new w5 _ _) (four_one _ _ _ _) (by omega) (by unfold maxLen; omega) (by omega) (by simp; omega) (w5.heap.size + 1) (by simp) ?_; intro g' cap'' w6 hown' hgrow hwhere hlt6; have hb6 := (Blk.alloc HBX5.out (.cells #[.int .i64 x, .int .i64 0, .bool false, .bool false] 60)).drew.grown hgrow (by simp [Value.ownBlock]; exact hgne); have y6 := hb6.free 0; have z6 := hb6.at 0 rfl; have HB6 := Lib.hid ((al HB5.out _).drew.grown hgrow (by simp; omega) (fun k hk => by simp [Value.ownBlock] at hk; omega)); have HO6 := Lib.hid hown'; have HBX6 := Lib.hid hb6; have HG6 := Lib.hid hgrow; have hg6 : g' ≠ w.heap.size + 1 := (by rcases hwhere with h | h; (simp [Value.ownBlock] at h; omega); omega); have hg7 : w.heap.size ≤ g' := (by rcases hwhere with h | h; (simp [Value.ownBlock] at h; omega); omega); clear hown' hgrow hwhere hb6))
            all_goals
              go_wp2_with fail
              go_roundw
              case rel => exact ⟨k + 1, _, by have := HLT.out; omega, by go_num, ⟨HBX6.out.setCell 0 _, ⟨g', cap'', rfl, hg6, hg7, own_set (p := ⟨w.heap.size + 1, 0, none⟩) (by rw [HTF.out]; exact HO6.out) (by simp [Value.ownBlock]; exact hg6) _⟩, HB6.out.setCell (p := ⟨w.heap.size + 1, 0, none⟩) (by show w.heap.size ≤ w.heap.size + 1; omega) _⟩, fun j h1 => by
                rcases Nat.lt_or_ge j k with h2 | h2
                · exact HJ.out j h2
                · obtain rfl : j = k := by omega
                  exact HBAD.out⟩
              case measure => simp [intOf]; have := HLT.out; omega
      · obtain rfl : k = ds.length := by omega
        rw [List.take_length] at HO
        go_wp2_with fail
        go_ret2
        left
        exact ⟨⟨hn, HJ.out⟩, w.heap.size + 1, g, cap, rfl, ⟨HBX.out.cast (by simp), RowB.of_own (by simpa using HO.out), fun e => hgne e.symm, by simpa using hn⟩, by omega, hgw, HB.out⟩
  · have hn' : (256 : Int) < ds.length := by omega
    go_enter Try.func7, Try.ntmps7
    go_wp2_with fail
    go_ret2
    right
    exact ⟨fun h => hn h.1, rfl, Below.refl _ _⟩
end Go.Proofs.Ytgfloeclepmdlaa

/- The reference packer: its value, New, Left, Ready. No condition. -/
import Derived.Test.YtalghcgedmcifaaU
namespace Go.Proofs.Ytalghcgedmcifaa
open Go.RowKit Go.Deep Go.ChangeShapes Go.WideShapes Go.ChangeAt
set_option linter.unusedVariables false

def rpcells (p : PS) (vL : Value) : List Value := [.int .i64 (p.size : Int), .int .i64 (p.room : Int), .int .i64 (p.rest.length : Int), vL, .int .i64 (p.taken : Int)]
def RPV (p : PS) (vL : Value) : Value := .agg #[.int .i64 (p.size : Int), .int .i64 (p.room : Int), .int .i64 (p.rest.length : Int), vL, .int .i64 (p.taken : Int)]
theorem flat_take (L : List (List UInt8)) (i : Nat) (h : i < L.length) : (L.take (i + 1)).flatten.length = (L.take i).flatten.length + L[i].length := by
  rw [List.take_succ_eq_append_getElem h, List.flatten_append, List.length_append]
  simp
theorem flat_le (L : List (List UInt8)) (i : Nat) : (L.take i).flatten.length ≤ L.flatten.length := by
  have h : L.flatten = (L.take i).flatten ++ (L.drop i).flatten := by rw [← List.flatten_append, List.take_append_drop]
  have := congrArg List.length h
  rw [List.length_append] at this
  omega
theorem PS.Ok.total {p : PS} (ok : p.Ok) : p.L.flatten.length ≤ 1052672 ∧ p.taken ≤ p.L.flatten.length ∧ p.taken ≤ 4096 := by
  have h1 := ok.left
  have h2 := ok.most
  have h3 := ok.room
  have h4 : p.taken ≤ 4096 := by
    cases e : p.L with
    | nil => have := ok.none e; omega
    | cons x xs =>
      have := ok.taken x xs e
      have := (ok.each x (by rw [e]; simp)).2
      omega
  omega
theorem rnew_any (s : Nat) (room : Int) (w : World) (h : rightB s = true) : Calls Try.prog 19 #[.int .i64 (s : Int), .int .i64 room] w fun e w' => e = .returned (RPV (PS.new s room) (.slice none 0 0)) ∧ Below w.heap.size w w' := by
  have HM : Hid ((if 0 < room then if room < 1048576 then room else 1048576 else 0) = min (max room 0) 1048576) := Lib.hid (by repeat' split <;> omega)
  have HR : Hid ((((min (max room 0) 1048576).toNat : Nat) : Int) = min (max room 0) 1048576) := Lib.hid (by omega)
  go_enter Try.func19, Try.ntmps19
  go_wp2_with fail
  have hk := Blk.new w 44 [.int .i64 (s : Int), .int .i64 (min (max room 0) 1048576), .int .i64 0, .slice none 0 0, .int .i64 0]
  have b0 := hk.at 0 rfl
  have b1 := hk.at 1 rfl
  have b2 := hk.at 2 rfl
  have b3 := hk.at 3 rfl
  have b4 := hk.at 4 rfl
  refine bodyPost_ret (v := RPV (PS.new s room) (.slice none 0 0)) (by simp [results, Try.results19, go_sem, b0, b1, b2, b3, b4, RPV, PS.new, HR.out]) rfl ⟨rfl, al (Below.refl _ _) _⟩
set_option maxRecDepth 20000 in
theorem rleft_any (S : Nat → Prop) (p : PS) (vL : Value) (w : World) (h : SAt w S vL p.L) (ok : p.Ok) : Calls Try.prog 22 #[RPV p vL] w fun e w' => e = .returned (.int .i64 (p.left : Int)) ∧ Below w.heap.size w w' := by
  obtain ⟨a, cap, rfl, hc, hm⟩ := h.len
  obtain ⟨t1, t2, t3⟩ := ok.total
  have hfew := ok.few
  have hleft := ok.left
  obtain ⟨L, hL⟩ : ∃ L, L = p.L := ⟨_, rfl⟩
  have H := Lib.hid h
  unfold RPV
  rw [← hL] at H t1 t2 hfew hleft hc ⊢
  have HLL := Lib.hid hL
  obtain ⟨n, hn⟩ : ∃ n, n = L.length := ⟨_, rfl⟩
  have HN := Lib.hid hn
  rw [← hn] at hfew hc ⊢
  have HLF := Lib.hid hleft
  clear h hL hleft hn ok
  go_enter Try.func22, Try.ntmps22
  go_wp2_with fail
  go_loop [3, 4] (fun v3 v4 => ∃ i : Nat, i ≤ n ∧ v4 = .int .i64 (i : Int) ∧ v3 = .int .i64 ((L.take i).flatten.length : Int)) (fun _ v4 => n - (intOf v4).toNat)
  case atStart => exact ⟨0, Nat.zero_le _, rfl, by simp⟩
  case round =>
    obtain ⟨i, hi, rfl, rfl⟩ := hrel
    by_cases hlt : i < n
    · have hlt2 : i < L.length := by rw [← HN.out]; exact hlt
      obtain ⟨b, off, cp, ae, ce, e, -, -, hb, hcell, hce, hcm, hA, -⟩ := H.out.get hlt2
      simp only [Value.slice.injEq, true_and] at e
      obtain ⟨e1, -, e2⟩ := e
      subst e1
      have e3 : (i : Int) < (n : Int) := by omega
      have e4 : (0 : Int) ≤ (i : Int) := by omega
      have hft := flat_take L i hlt2
      have hfl := flat_le L i
      have hfl2 := flat_le L (i + 1)
      obtain ⟨x, hx⟩ : ∃ x, x = L[i] := ⟨_, rfl⟩
      rw [← hx] at hcell hce hft
      obtain ⟨m, hm2⟩ : ∃ m, m = x.length := ⟨_, rfl⟩
      rw [← hm2] at hcell hce hft
      obtain ⟨F, hF⟩ : ∃ F, F = (L.take i).flatten.length := ⟨_, rfl⟩
      rw [← hF] at hfl hft ⊢
      rw [hft] at hfl2
      have HFT := Lib.hid hft
      have c1 : ∀ o, (w.alloc o).cell? ⟨b, off + i, none⟩ = some (.slice ae m ce) := fun o => ((al (Below.refl _ w) o).cell (p := ⟨b, off + i, none⟩) hb).trans hcell
      have c1' := c1 (.cells #[.int .i64 (p.size : Int), .int .i64 (p.room : Int), .int .i64 (p.rest.length : Int), .slice (some ⟨b, off, none⟩) n cap, .int .i64 (p.taken : Int)] 44)
      clear hx hm2 hF hft hcell hA c1
      go_wp2_with fail
      go_round
      case rel => exact ⟨i + 1, by omega, by go_num, by rw [HFT.out]; go_num⟩
      case measure => simp [intOf]; omega
    · obtain rfl : i = n := by omega
      have e3 : ¬ (i : Int) < (i : Int) := by omega
      have ht : (L.take i).flatten.length = L.flatten.length := by rw [List.take_of_length_le (by rw [HN.out]; exact Nat.le_refl _)]
      have hv : ((L.take i).flatten.length : Int) - (p.taken : Int) = (p.left : Int) := by rw [ht]; have := HLF.out; omega
      have HV := Lib.hid hv
      obtain ⟨F, hF⟩ : ∃ F, F = (L.take i).flatten.length := ⟨_, rfl⟩
      rw [← hF] at HV ⊢
      have hF9 : F ≤ 1052672 := by rw [hF, ht]; exact t1
      clear hF ht hv
      go_wp2_with fail
      go_ret
      exact ⟨ret_int HV.out, al (Below.refl _ _) _⟩
/-- more in the way the walks use it -/
theorem rleft_n {S : Nat → Prop} {p : PS} {a : Option Addr} {n cap : Nat} {w : World} {lf : Nat} (hn : lf = p.left) (h : SAt w S (.slice a n cap) p.L) (ok : p.Ok) : Calls Try.prog 22 #[.agg #[.int .i64 (p.size : Int), .int .i64 (p.room : Int), .int .i64 (p.rest.length : Int), .slice a n cap, .int .i64 (p.taken : Int)]] w fun e w' => e = .returned (.int .i64 (lf : Int)) ∧ Below w.heap.size w w' := by
  subst hn
  exact rleft_any S p _ w h ok
set_option maxRecDepth 20000 in
theorem rready_any (S : Nat → Prop) (p : PS) (vL : Value) (w : World) (h : SAt w S vL p.L) (ok : p.Ok) : Calls Try.prog 23 #[RPV p vL] w fun e w' => e = .returned (.bool p.ready) ∧ Below w.heap.size w w' := by
  obtain ⟨a, cap, rfl, hc, hm⟩ := h.len
  have hs := ok.size
  have hr := ok.rest
  have hm1 := ok.most
  have hro := ok.room
  have H := Lib.hid h
  have OK := Lib.hid ok
  obtain ⟨lf, hlf⟩ : ∃ lf, lf = p.left := ⟨_, rfl⟩
  have HLF := Lib.hid hlf
  rw [← hlf] at hm1
  obtain ⟨n, hn⟩ : ∃ n, n = p.L.length := ⟨_, rfl⟩
  rw [← hn] at H hc ⊢
  have HN := Lib.hid hn
  have HRDY : Hid (p.ready = (decide (0 < lf) && decide (p.size ≤ p.rest.length + lf))) := Lib.hid (by unfold PS.ready; rw [hlf])
  obtain ⟨wb, hwb⟩ : ∃ wb, wb = w.alloc (.cells #[.int .i64 (p.size : Int), .int .i64 (p.room : Int), .int .i64 (p.rest.length : Int), .slice a n cap, .int .i64 (p.taken : Int)] 44) := ⟨_, rfl⟩
  have HK : Hid (Blk wb w.heap.size 44 (rpcells p (.slice a n cap))) := Lib.hid (by rw [hwb]; exact Blk.new w 44 _)
  have HB : Hid (Below w.heap.size w wb) := Lib.hid (by rw [hwb]; exact al (Below.refl _ _) _)
  clear h ok hlf hn
  unfold RPV
  go_enter Try.func23, Try.ntmps23
  go_upto_region 1 with fail
  rw [← hwb]
  clear hwb
  have c0 := HK.out.at 0 rfl
  have c1 := HK.out.at 1 rfl
  have c2 := HK.out.at 2 rfl
  have c3 := HK.out.at 3 rfl
  have c4 := HK.out.at 4 rfl
  have hlt := HK.out.lt
  have HS : Hid (SAt wb S (.slice a n cap) p.L) := Lib.hid (H.out.below HB.out (Nat.le_refl _))
  have g1 : (lf : Int) ≤ 1048576 := by omega
  have g2 : (p.rest.length : Int) ≤ 6 := by omega
  by_cases h0 : 0 < lf
  · have d1 : decide ((0 : Int) < (lf : Int)) = true := decide_eq_true (by omega)
    have d2 : decide (0 < lf) = true := decide_eq_true h0
    clear h0
    refine wp_region_held_drew (S := (fun w' => w'.cell? ⟨w.heap.size, 0, none⟩ = some (.int .i64 (p.size : Int)) ∧ w'.cell? ⟨w.heap.size, 1, none⟩ = some (.int .i64 (p.room : Int)) ∧ w'.cell? ⟨w.heap.size, 2, none⟩ = some (.int .i64 (p.rest.length : Int)) ∧ w'.cell? ⟨w.heap.size, 3, none⟩ = some (.slice a n cap) ∧ w'.cell? ⟨w.heap.size, 4, none⟩ = some (.int .i64 (p.taken : Int)))) (by kernel_rfl) (by (try dsimp only); first | exact ⟨by assumption, by assumption, by assumption, by assumption, by assumption⟩ | go_keep) (fun hHeld => ?_)
    refine wpAnyH_take (i := 0) (oi := (Oper.mk (some 3) (Op.load 44 (Operand.tmp 1)) 44 "ref.go:49" #[] none)) (v := ?_) rfl (by kernel_rfl) (by kernel_rfl) (by kernel_rfl) (fun _ _ _ h => h) (Or.inl ⟨by rfl, ?_⟩) (by assumption) ?_
    rotate_left
    · (intro w hSw; (try dsimp only at hSw); go_simp; first | done | with_reducible rfl)
    (try simp only [Act.put, List.setIfInBounds_toArray, List.set_cons_zero, List.set_cons_succ])
    refine wpAnyH_ready (rs := [1]) (by kernel_rfl) (by simp) ?_
    refine AllReadyH.cons (o := (Oper.mk (some 4) (Op.call (Call.mk (Callee.value (Operand.func 22)) #[Operand.tmp 3] #[44])) 3 "ref.go:49" #[Edge.mk 0 Ground.data] none)) rfl (fun K hK => ?_) (AllReadyH.nil)
    go_simp
    (go_at_call 22; refine (rleft_n HLF.out (show SAt wb.drew S (.slice a n cap) p.L from HS.out) OK.out).mono ?_; rintro e w4 ⟨rfl, hB4⟩; have hB := undrew hB4; have HK4 := Lib.hid (HK.out.below hB (Nat.le_refl _)); have p0 := HK4.out.at 0 rfl; have p1 := HK4.out.at 1 rfl; have p2 := HK4.out.at 2 rfl; have p3 := HK4.out.at 3 rfl; have p4 := HK4.out.at 4 rfl; have pl4 := HK4.out.lt; have HS4 : Hid (SAt w4 S (.slice a n cap) p.L) := Lib.hid (HS.out.below hB (Nat.le_refl _)); have HB4 := Lib.hid (HB.out.trans (hB.mono HB.out.size)); clear hB4 hB)
    refine hK.out _ _ (by (try dsimp only); first | exact ⟨by assumption, by assumption, by assumption, by assumption, by assumption⟩ | go_keep) (fun hHeld => ?_)
    clear hK K
    (try simp only [Act.put, List.setIfInBounds_toArray, List.set_cons_zero, List.set_cons_succ])
    refine wpAnyH_take (i := 2) (oi := (Oper.mk (some 5) (Op.binOp BinOp.gtr 3 (Operand.tmp 4) (Operand.const (Value.int IntKind.i64 0)) 3) 4 "ref.go:49" #[Edge.mk 1 Ground.data] none)) (v := ?_) rfl (by kernel_rfl) (by kernel_rfl) (by kernel_rfl) (fun _ _ _ h => h) (Or.inl ⟨by rfl, ?_⟩) (by assumption) ?_
    rotate_left
    · (intro w hSw; (try dsimp only at hSw); go_simp; first | done | with_reducible rfl)
    (try simp only [Act.put, List.setIfInBounds_toArray, List.set_cons_zero, List.set_cons_succ])
    refine wpAnyH_take (i := 3) (oi := (Oper.mk (some 6) (Op.move (Operand.tmp 5)) 4 "ref.go:49" #[Edge.mk 2 Ground.data, Edge.mk 1 Ground.chain] none)) (v := ?_) rfl (by kernel_rfl) (by kernel_rfl) (by kernel_rfl) (fun _ _ _ h => h) (Or.inl ⟨by rfl, ?_⟩) (by assumption) ?_
    rotate_left
    · (intro w hSw; (try dsimp only at hSw); go_simp; first | done | with_reducible rfl)
    (try simp only [Act.put, List.setIfInBounds_toArray, List.set_cons_zero, List.set_cons_succ])
    refine wpAnyH_take (i := 4) (oi := (Oper.mk (some 7) (Op.fieldAddr 44 (Operand.tmp 1) 2) 0 "ref.go:49" #[Edge.mk 3 Ground.guard] (some (3, true)))) (v := ?_) rfl (by kernel_rfl) (by kernel_rfl) (by kernel_rfl) (fun _ _ _ h => h) (Or.inl ⟨by rfl, ?_⟩) (by assumption) ?_
    rotate_left
    · (intro w hSw; (try dsimp only at hSw); go_simp; first | done | with_reducible rfl)
    (try simp only [Act.put, List.setIfInBounds_toArray, List.set_cons_zero, List.set_cons_succ])
    refine wpAnyH_take (i := 5) (oi := (Oper.mk (some 8) (Op.load 3 (Operand.tmp 7)) 3 "ref.go:49" #[Edge.mk 4 Ground.data, Edge.mk 3 Ground.guard] (some (3, true)))) (v := ?_) rfl (by kernel_rfl) (by kernel_rfl) (by kernel_rfl) (fun _ _ _ h => h) (Or.inl ⟨by rfl, ?_⟩) (by assumption) ?_
    rotate_left
    · (intro w hSw; (try dsimp only at hSw); go_simp; first | done | with_reducible rfl)
    (try simp only [Act.put, List.setIfInBounds_toArray, List.set_cons_zero, List.set_cons_succ])
    refine wpAnyH_take (i := 6) (oi := (Oper.mk (some 9) (Op.load 44 (Operand.tmp 1)) 44 "ref.go:49" #[Edge.mk 3 Ground.guard] (some (3, true)))) (v := ?_) rfl (by kernel_rfl) (by kernel_rfl) (by kernel_rfl) (fun _ _ _ h => h) (Or.inl ⟨by rfl, ?_⟩) (by assumption) ?_
    rotate_left
    · (intro w hSw; (try dsimp only at hSw); go_simp; first | done | with_reducible rfl)
    (try simp only [Act.put, List.setIfInBounds_toArray, List.set_cons_zero, List.set_cons_succ])
    refine wpAnyH_take (i := 9) (oi := (Oper.mk (some 12) (Op.fieldAddr 44 (Operand.tmp 1) 0) 0 "ref.go:49" #[Edge.mk 3 Ground.guard] (some (3, true)))) (v := ?_) rfl (by kernel_rfl) (by kernel_rfl) (by kernel_rfl) (fun _ _ _ h => h) (Or.inl ⟨by rfl, ?_⟩) (by assumption) ?_
    rotate_left
    · (intro w hSw; (try dsimp only at hSw); go_simp; first | done | with_reducible rfl)
    (try simp only [Act.put, List.setIfInBounds_toArray, List.set_cons_zero, List.set_cons_succ])
    refine wpAnyH_take (i := 10) (oi := (Oper.mk (some 13) (Op.load 3 (Operand.tmp 12)) 3 "ref.go:49" #[Edge.mk 9 Ground.data, Edge.mk 3 Ground.guard] (some (3, true)))) (v := ?_) rfl (by kernel_rfl) (by kernel_rfl) (by kernel_rfl) (fun _ _ _ h => h) (Or.inl ⟨by rfl, ?_⟩) (by assumption) ?_
    rotate_left
    · (intro w hSw; (try dsimp only at hSw); go_simp; first | done | with_reducible rfl)
    (try simp only [Act.put, List.setIfInBounds_toArray, List.set_cons_zero, List.set_cons_succ])
    refine wpAnyH_ready (rs := [7]) (by kernel_rfl) (by simp) ?_
    refine AllReadyH.cons (o := (Oper.mk (some 10) (Op.call (Call.mk (Callee.value (Operand.func 22)) #[Operand.tmp 9] #[44])) 3 "ref.go:49" #[Edge.mk 6 Ground.data, Edge.mk 3 Ground.chain, Edge.mk 3 Ground.guard] (some (3, true)))) rfl (fun K hK => ?_) (AllReadyH.nil)
    go_simp
    (go_at_call 22; refine (rleft_n HLF.out HS4.out OK.out).mono ?_; rintro e w5 ⟨rfl, hB5⟩; have HK5 := Lib.hid (HK4.out.below hB5 (Nat.le_refl _)); have q0 := HK5.out.at 0 rfl; have q1 := HK5.out.at 1 rfl; have q2 := HK5.out.at 2 rfl; have q3 := HK5.out.at 3 rfl; have q4 := HK5.out.at 4 rfl; have pl5 := HK5.out.lt; have HB5 := Lib.hid (HB4.out.trans (hB5.mono HB4.out.size)); clear hB5)
    refine hK.out _ _ (by (try dsimp only); first | exact ⟨by assumption, by assumption, by assumption, by assumption, by assumption⟩ | go_keep) (fun hHeld => ?_)
    clear hK K
    (try simp only [Act.put, List.setIfInBounds_toArray, List.set_cons_zero, List.set_cons_succ])
    refine wpAnyH_take (i := 8) (oi := (Oper.mk (some 11) (Op.binOp BinOp.add 3 (Operand.tmp 8) (Operand.tmp 10) 3) 3 "ref.go:49" #[Edge.mk 5 Ground.data, Edge.mk 7 Ground.data, Edge.mk 3 Ground.guard] (some (3, true)))) (v := ?_) rfl (by kernel_rfl) (by kernel_rfl) (by kernel_rfl) (fun _ _ _ h => h) (Or.inl ⟨by rfl, ?_⟩) (by assumption) ?_
    rotate_left
    · (intro w hSw; (try dsimp only at hSw); go_simp; first | done | with_reducible rfl)
    (try simp only [Act.put, List.setIfInBounds_toArray, List.set_cons_zero, List.set_cons_succ])
    refine wpAnyH_take (i := 11) (oi := (Oper.mk (some 14) (Op.binOp BinOp.geq 3 (Operand.tmp 11) (Operand.tmp 13) 3) 4 "ref.go:49" #[Edge.mk 8 Ground.data, Edge.mk 10 Ground.data, Edge.mk 3 Ground.guard] (some (3, true)))) (v := ?_) rfl (by kernel_rfl) (by kernel_rfl) (by kernel_rfl) (fun _ _ _ h => h) (Or.inl ⟨by rfl, ?_⟩) (by assumption) ?_
    rotate_left
    · (intro w hSw; (try dsimp only at hSw); go_simp; first | done | with_reducible rfl)
    (try simp only [Act.put, List.setIfInBounds_toArray, List.set_cons_zero, List.set_cons_succ])
    refine wpAnyH_take (i := 12) (oi := (Oper.mk (some 15) (Op.pick (Operand.tmp 6) (Operand.tmp 14) (Operand.const (Value.bool false))) 4 "ref.go:49" #[Edge.mk 3 Ground.data, Edge.mk 11 Ground.data] none)) (v := ?_) rfl (by kernel_rfl) (by kernel_rfl) (by kernel_rfl) (fun _ _ _ h => h) (Or.inl ⟨by rfl, ?_⟩) (by assumption) ?_
    rotate_left
    · (intro w hSw; (try dsimp only at hSw); go_simp; first | done | with_reducible rfl)
    (try simp only [Act.put, List.setIfInBounds_toArray, List.set_cons_zero, List.set_cons_succ])
    refine wpAnyH_take (i := 13) (oi := (Oper.mk (some 2) (Op.assign (Operand.tmp 15)) 4 "ref.go:49" #[Edge.mk 12 Ground.data, Edge.mk 7 Ground.chain, Edge.mk 0 Ground.phase, Edge.mk 1 Ground.phase, Edge.mk 2 Ground.phase, Edge.mk 3 Ground.phase, Edge.mk 4 Ground.phase, Edge.mk 5 Ground.phase, Edge.mk 6 Ground.phase, Edge.mk 7 Ground.phase, Edge.mk 8 Ground.phase, Edge.mk 9 Ground.phase, Edge.mk 10 Ground.phase, Edge.mk 11 Ground.phase, Edge.mk 12 Ground.phase] none)) (v := ?_) rfl (by kernel_rfl) (by kernel_rfl) (by kernel_rfl) (fun _ _ _ h => h) (Or.inl ⟨by rfl, ?_⟩) (by assumption) ?_
    rotate_left
    · (intro w hSw; (try dsimp only at hSw); go_simp; first | done | with_reducible rfl)
    (try simp only [Act.put, List.setIfInBounds_toArray, List.set_cons_zero, List.set_cons_succ])
    refine wpAnyH_done (by kernel_rfl) ?_ _
    go_wp2_with fail
    go_ret
    refine ⟨ret_bool ?_, HB5.out⟩
    rw [HRDY.out, d2, Bool.true_and, Bool.eq_iff_iff]
    simp only [decide_eq_true_eq]
    have hw : IntKind.i64.wrap ((p.rest.length : Int) + (lf : Int)) = (p.rest.length : Int) + (lf : Int) := IntWalk.i64_in _ (by omega)
    omega
  · have d1 : decide ((0 : Int) < (lf : Int)) = false := decide_eq_false (by omega)
    have d2 : decide (0 < lf) = false := decide_eq_false h0
    clear h0
    refine wp_region_held_drew (S := (fun w' => w'.cell? ⟨w.heap.size, 0, none⟩ = some (.int .i64 (p.size : Int)) ∧ w'.cell? ⟨w.heap.size, 1, none⟩ = some (.int .i64 (p.room : Int)) ∧ w'.cell? ⟨w.heap.size, 2, none⟩ = some (.int .i64 (p.rest.length : Int)) ∧ w'.cell? ⟨w.heap.size, 3, none⟩ = some (.slice a n cap) ∧ w'.cell? ⟨w.heap.size, 4, none⟩ = some (.int .i64 (p.taken : Int)))) (by kernel_rfl) (by (try dsimp only); first | exact ⟨by assumption, by assumption, by assumption, by assumption, by assumption⟩ | go_keep) (fun hHeld => ?_)
    refine wpAnyH_take (i := 0) (oi := (Oper.mk (some 3) (Op.load 44 (Operand.tmp 1)) 44 "ref.go:49" #[] none)) (v := ?_) rfl (by kernel_rfl) (by kernel_rfl) (by kernel_rfl) (fun _ _ _ h => h) (Or.inl ⟨by rfl, ?_⟩) (by assumption) ?_
    rotate_left
    · (intro w hSw; (try dsimp only at hSw); go_simp; first | done | with_reducible rfl)
    (try simp only [Act.put, List.setIfInBounds_toArray, List.set_cons_zero, List.set_cons_succ])
    refine wpAnyH_ready (rs := [1]) (by kernel_rfl) (by simp) ?_
    refine AllReadyH.cons (o := (Oper.mk (some 4) (Op.call (Call.mk (Callee.value (Operand.func 22)) #[Operand.tmp 3] #[44])) 3 "ref.go:49" #[Edge.mk 0 Ground.data] none)) rfl (fun K hK => ?_) (AllReadyH.nil)
    go_simp
    (go_at_call 22; refine (rleft_n HLF.out (show SAt wb.drew S (.slice a n cap) p.L from HS.out) OK.out).mono ?_; rintro e w4 ⟨rfl, hB4⟩; have hB := undrew hB4; have HK4 := Lib.hid (HK.out.below hB (Nat.le_refl _)); have p0 := HK4.out.at 0 rfl; have p1 := HK4.out.at 1 rfl; have p2 := HK4.out.at 2 rfl; have p3 := HK4.out.at 3 rfl; have p4 := HK4.out.at 4 rfl; have pl4 := HK4.out.lt; have HB4 := Lib.hid (HB.out.trans (hB.mono HB.out.size)); clear hB4 hB)
    refine hK.out _ _ (by (try dsimp only); first | exact ⟨by assumption, by assumption, by assumption, by assumption, by assumption⟩ | go_keep) (fun hHeld => ?_)
    clear hK K
    (try simp only [Act.put, List.setIfInBounds_toArray, List.set_cons_zero, List.set_cons_succ])
    refine wpAnyH_take (i := 2) (oi := (Oper.mk (some 5) (Op.binOp BinOp.gtr 3 (Operand.tmp 4) (Operand.const (Value.int IntKind.i64 0)) 3) 4 "ref.go:49" #[Edge.mk 1 Ground.data] none)) (v := ?_) rfl (by kernel_rfl) (by kernel_rfl) (by kernel_rfl) (fun _ _ _ h => h) (Or.inl ⟨by rfl, ?_⟩) (by assumption) ?_
    rotate_left
    · (intro w hSw; (try dsimp only at hSw); go_simp; first | done | with_reducible rfl)
    (try simp only [Act.put, List.setIfInBounds_toArray, List.set_cons_zero, List.set_cons_succ])
    refine wpAnyH_take (i := 3) (oi := (Oper.mk (some 6) (Op.move (Operand.tmp 5)) 4 "ref.go:49" #[Edge.mk 2 Ground.data, Edge.mk 1 Ground.chain] none)) (v := ?_) rfl (by kernel_rfl) (by kernel_rfl) (by kernel_rfl) (fun _ _ _ h => h) (Or.inl ⟨by rfl, ?_⟩) (by assumption) ?_
    rotate_left
    · (intro w hSw; (try dsimp only at hSw); go_simp; first | done | with_reducible rfl)
    (try simp only [Act.put, List.setIfInBounds_toArray, List.set_cons_zero, List.set_cons_succ])
    refine wpAnyH_take (i := 4) (oi := (Oper.mk (some 7) (Op.fieldAddr 44 (Operand.tmp 1) 2) 0 "ref.go:49" #[Edge.mk 3 Ground.guard] (some (3, true)))) (v := undef) rfl (by kernel_rfl) (by kernel_rfl) (by kernel_rfl) (fun _ _ _ h => h) (Or.inr ⟨by rfl, rfl⟩) (by assumption) ?_
    (try simp only [Act.put, List.setIfInBounds_toArray, List.set_cons_zero, List.set_cons_succ])
    refine wpAnyH_take (i := 5) (oi := (Oper.mk (some 8) (Op.load 3 (Operand.tmp 7)) 3 "ref.go:49" #[Edge.mk 4 Ground.data, Edge.mk 3 Ground.guard] (some (3, true)))) (v := undef) rfl (by kernel_rfl) (by kernel_rfl) (by kernel_rfl) (fun _ _ _ h => h) (Or.inr ⟨by rfl, rfl⟩) (by assumption) ?_
    (try simp only [Act.put, List.setIfInBounds_toArray, List.set_cons_zero, List.set_cons_succ])
    refine wpAnyH_take (i := 6) (oi := (Oper.mk (some 9) (Op.load 44 (Operand.tmp 1)) 44 "ref.go:49" #[Edge.mk 3 Ground.guard] (some (3, true)))) (v := undef) rfl (by kernel_rfl) (by kernel_rfl) (by kernel_rfl) (fun _ _ _ h => h) (Or.inr ⟨by rfl, rfl⟩) (by assumption) ?_
    (try simp only [Act.put, List.setIfInBounds_toArray, List.set_cons_zero, List.set_cons_succ])
    refine wpAnyH_take (i := 7) (oi := (Oper.mk (some 10) (Op.call (Call.mk (Callee.value (Operand.func 22)) #[Operand.tmp 9] #[44])) 3 "ref.go:49" #[Edge.mk 6 Ground.data, Edge.mk 3 Ground.chain, Edge.mk 3 Ground.guard] (some (3, true)))) (v := undef) rfl (by kernel_rfl) (by kernel_rfl) (by kernel_rfl) (fun _ _ _ h => h) (Or.inr ⟨by rfl, rfl⟩) (by assumption) ?_
    (try simp only [Act.put, List.setIfInBounds_toArray, List.set_cons_zero, List.set_cons_succ])
    refine wpAnyH_take (i := 8) (oi := (Oper.mk (some 11) (Op.binOp BinOp.add 3 (Operand.tmp 8) (Operand.tmp 10) 3) 3 "ref.go:49" #[Edge.mk 5 Ground.data, Edge.mk 7 Ground.data, Edge.mk 3 Ground.guard] (some (3, true)))) (v := undef) rfl (by kernel_rfl) (by kernel_rfl) (by kernel_rfl) (fun _ _ _ h => h) (Or.inr ⟨by rfl, rfl⟩) (by assumption) ?_
    (try simp only [Act.put, List.setIfInBounds_toArray, List.set_cons_zero, List.set_cons_succ])
    refine wpAnyH_take (i := 9) (oi := (Oper.mk (some 12) (Op.fieldAddr 44 (Operand.tmp 1) 0) 0 "ref.go:49" #[Edge.mk 3 Ground.guard] (some (3, true)))) (v := undef) rfl (by kernel_rfl) (by kernel_rfl) (by kernel_rfl) (fun _ _ _ h => h) (Or.inr ⟨by rfl, rfl⟩) (by assumption) ?_
    (try simp only [Act.put, List.setIfInBounds_toArray, List.set_cons_zero, List.set_cons_succ])
    refine wpAnyH_take (i := 10) (oi := (Oper.mk (some 13) (Op.load 3 (Operand.tmp 12)) 3 "ref.go:49" #[Edge.mk 9 Ground.data, Edge.mk 3 Ground.guard] (some (3, true)))) (v := undef) rfl (by kernel_rfl) (by kernel_rfl) (by kernel_rfl) (fun _ _ _ h => h) (Or.inr ⟨by rfl, rfl⟩) (by assumption) ?_
    (try simp only [Act.put, List.setIfInBounds_toArray, List.set_cons_zero, List.set_cons_succ])
    refine wpAnyH_take (i := 11) (oi := (Oper.mk (some 14) (Op.binOp BinOp.geq 3 (Operand.tmp 11) (Operand.tmp 13) 3) 4 "ref.go:49" #[Edge.mk 8 Ground.data, Edge.mk 10 Ground.data, Edge.mk 3 Ground.guard] (some (3, true)))) (v := undef) rfl (by kernel_rfl) (by kernel_rfl) (by kernel_rfl) (fun _ _ _ h => h) (Or.inr ⟨by rfl, rfl⟩) (by assumption) ?_
    (try simp only [Act.put, List.setIfInBounds_toArray, List.set_cons_zero, List.set_cons_succ])
    refine wpAnyH_take (i := 12) (oi := (Oper.mk (some 15) (Op.pick (Operand.tmp 6) (Operand.tmp 14) (Operand.const (Value.bool false))) 4 "ref.go:49" #[Edge.mk 3 Ground.data, Edge.mk 11 Ground.data] none)) (v := ?_) rfl (by kernel_rfl) (by kernel_rfl) (by kernel_rfl) (fun _ _ _ h => h) (Or.inl ⟨by rfl, ?_⟩) (by assumption) ?_
    rotate_left
    · (intro w hSw; (try dsimp only at hSw); go_simp; first | done | with_reducible rfl)
    (try simp only [Act.put, List.setIfInBounds_toArray, List.set_cons_zero, List.set_cons_succ])
    refine wpAnyH_take (i := 13) (oi := (Oper.mk (some 2) (Op.assign (Operand.tmp 15)) 4 "ref.go:49" #[Edge.mk 12 Ground.data, Edge.mk 7 Ground.chain, Edge.mk 0 Ground.phase, Edge.mk 1 Ground.phase, Edge.mk 2 Ground.phase, Edge.mk 3 Ground.phase, Edge.mk 4 Ground.phase, Edge.mk 5 Ground.phase, Edge.mk 6 Ground.phase, Edge.mk 7 Ground.phase, Edge.mk 8 Ground.phase, Edge.mk 9 Ground.phase, Edge.mk 10 Ground.phase, Edge.mk 11 Ground.phase, Edge.mk 12 Ground.phase] none)) (v := ?_) rfl (by kernel_rfl) (by kernel_rfl) (by kernel_rfl) (fun _ _ _ h => h) (Or.inl ⟨by rfl, ?_⟩) (by assumption) ?_
    rotate_left
    · (intro w hSw; (try dsimp only at hSw); go_simp; first | done | with_reducible rfl)
    (try simp only [Act.put, List.setIfInBounds_toArray, List.set_cons_zero, List.set_cons_succ])
    refine wpAnyH_done (by kernel_rfl) ?_ _
    go_wp2_with fail
    go_ret
    exact ⟨by rw [HRDY.out, d2, Bool.false_and]; rfl, HB4.out⟩
end Go.Proofs.Ytalghcgedmcifaa

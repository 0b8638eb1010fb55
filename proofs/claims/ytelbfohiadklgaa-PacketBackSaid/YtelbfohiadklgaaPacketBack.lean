/- The law PacketBack holds: the walk, then the lift to the given statement. No condition. -/
import Derived.Test.YtelbfohiadklgaaL
import Derived.Test.YtelbfohiadklgaaT
import Derived.WalkKit
import Derived.Deep.DeepCutAuto
import Derived.Deep.CutBlock
import Derived.ProofKit
import Derived.OpenShut
import Derived.Lib.Hide
import Derived.ChangeOld
import Derived.Below
import Derived.SizedLaws
namespace Go.Proofs.Ytelbfohiadklgaa.packetBack
open Go.ChangeShapes Go.WideShapes Go.ChangeAt Go.RowKit
set_option linter.unusedVariables false
theorem own : ownKnob Try.prog.godebug = none := by kernel_rfl
theorem laidOut : laidOutB Try.prog = true := by kernel_rfl

theorem BAt.take {w : World} {a : Option Addr} {l : List UInt8} (h : BAt w a l) (n : Nat) : BAt w a (l.take n) := by
  rcases h with h | ⟨b, off, h1, h2, h3⟩
  · left; subst h; simp
  · exact .inr ⟨b, off, h1, h2, fun i hi => by
      have hi' : i < l.length := by simp at hi; omega
      rw [h3 i hi']; simp⟩
theorem str_n {w : World} {a : Option Addr} {l : List UInt8} (n cap : Nat) (hn : l.length = n) (h : BAt w a l) : (convert 22 9 (.slice a n cap)).run Try.prog w = .ok (.string ⟨l.toArray⟩) w := by
  subst hn
  exact h.str 22 9 5 cap Try.underlying22 Try.underlying5 Try.underlying9
set_option maxRecDepth 20000 in
set_option maxHeartbeats 4000000 in
theorem walk {H : Type} {enc : TypeId × Value → H} (v0 v1 : Value) (w : World) {b0 : Nat} {d0 : DataW H} {p0 : List MemPlace} (ok0 : Value.okWide Try.prog w .any b0 24 v0) (tr0 : DataW.Trod enc Try.prog w 0 (fun _ => true) true 24 v0 d0 p0)
    {b1 : Nat} {d1 : DataW H} {p1 : List MemPlace} (ok1 : Value.okWide Try.prog w .any b1 22 v1) (tr1 : DataW.Trod enc Try.prog w 0 (fun _ => true) true 22 v1 d1 p1) : Calls Try.prog 6 #[v0, v1] w fun e w' => e = .returned (.bool true) ∧ Below w.heap.size w w' := by
  obtain ⟨p, a, cap, rfl, hb, hl, hcm⟩ := arg_packet ok0 tr0
  obtain ⟨a1, cap1, l, rfl, hl1, hcm1, hb1⟩ := arg_bytes Try.underlying22 Try.underlying5 (by kernel_rfl) ok1 tr1
  have HBA := Lib.hid hb
  have HL := Lib.hid (Nat.le_trans hl hcm)
  have HB1 := Lib.hid hb1
  have HC1 := Lib.hid hcm1
  clear hb ok0 tr0 hcm hl hb1 ok1 tr1 hcm1
  unfold Pk.val
  by_cases h5 : 5000 < l.length
  · have h5' : (5000 : Int) < (l.length : Int) := by omega
    go_enter Try.func6, Try.ntmps6
    go_wp2_with fail
    refine (alive_any _).mono ?_
    rintro e w3 ⟨rfl, hB⟩
    have HB3 := Lib.hid ((al (Below.refl _ _) _).trans (hB.mono (by simp)))
    clear hB
    go_wp2_with fail
    go_ret
    exact ⟨rfl, HB3.out⟩
  · have h5' : ¬ (5000 : Int) < (l.length : Int) := by omega
    have HLM : Hid (l.length ≤ maxLen) := Lib.hid (by unfold maxLen; omega)
    obtain ⟨j0, hj, hy0, hy1, hy2⟩ := info_parts info5
    have HJ := Lib.hid hj
    clear hj
    go_enter Try.func6, Try.ntmps6
    go_wp2_with fail
    have HBx := Lib.hid (al (Below.refl _ w) (.cells #[.bool p.cmd, .bool p.sec, .int .i64 p.apid, .int .i64 p.flags, .int .i64 p.count, .slice a p.dat.length cap] 24))
    obtain ⟨y, f, he⟩ : ∃ y f, encP p = (y, f) := ⟨_, _, rfl⟩
    have hen := fun w (h : BAt w a p.dat) => encode_any p a cap w HL.out h
    rw [he] at hen
    have HEN := Lib.hid hen
    have HE0 := Lib.hid he
    clear he hen
    refine (HEN.out _ (HBA.out.below HBx.out (Nat.le_refl _))).mono ?_
    rintro e w2 ⟨v2, rfl, hO, hB⟩
    simp only at hO
    have hk := (Blk.new w 24 [.bool p.cmd, .bool p.sec, .int .i64 p.apid, .int .i64 p.flags, .int .i64 p.count, .slice a p.dat.length cap]).below hB (Nat.le_refl _)
    have HK2 := Lib.hid hk
    have hlw2 := hk.lt
    have HB2 := Lib.hid (HBx.out.trans (hB.mono (by simp)))
    have hs2 := HB2.out.size
    have HO2 := Lib.hid hO
    clear hO hB hk
    go_upto_if 25 with (fail)
    go_cut [] (fun wx => Below w.heap.size w wx)
    case first =>
      cases hv : validB p
      · have he := HE0.out
        rw [encP, if_neg (by rw [hv]; simp)] at he
        simp only [Prod.mk.injEq] at he
        obtain ⟨rfl, rfl⟩ := he
        clear hv
        go_wp2_with fail
        go_meet
        case rel => exact HB2.out
      · have he := HE0.out
        rw [encP, if_pos hv] at he
        simp only [Prod.mk.injEq] at he
        obtain ⟨rfl, rfl⟩ := he
        have hdat : p.dat.length ≤ 4090 := by have := ((validB_iff p).1 hv).1; omega
        have hbl := bytesP_length p
        have hbl2 : (bytesP p).length ≤ 4096 := by omega
        obtain ⟨L, hLe⟩ : ∃ L, L = bytesP p ++ l := ⟨_, rfl⟩
        have HD := Lib.hid (dec_enc p l hv)
        rw [← hLe] at HD
        have HLE := Lib.hid hLe
        have hLl : L.length ≤ 10000 := by rw [hLe, List.length_append]; omega
        clear hLe
        obtain ⟨-, A2, c2, rfl, hc2, hm2, hA2⟩ := BAt.of_row HO2.out
        have HV2 : Hid (VAt (w2.alloc (.cells #[] 5)) A2 (encB (bytesP p))) := Lib.hid (hA2.below (al (Below.refl _ _) _) (Nat.le_refl _)).vat
        have HBL := Lib.hid hbl
        clear hv hA2 hbl
        go_wp2_with (at_builtin; refine wpList_append_src _ rfl (.tmp 27) (.tmp 28) 22 rfl w.heap.size 5 j0 (.int .u8 0) 1 Try.underlying22 HJ.out hy0 hy1 hy2 rfl _ 0 [] rfl (own_empty _ _ w2.heap.size rfl _ hs2) A2 (bytesP p).length c2 (encB (bytesP p)) rfl (by simp [encB]) HV2.out (encB_one _) (by unfold maxLen; omega) (by omega) (by simp; omega) ?_)
        intro v3 w3 hown3 hgrow3 hblk3
        have hO3 : w3.ownsRow w.heap.size 5 1 v3 (bytesP p).length (encB (bytesP p)) := by simpa using hown3
        have HO3 := Lib.hid hO3
        have HB3 : Hid (Below w.heap.size w w3) := Lib.hid (((HB2.out).alloc hs2 _).grown hgrow3 (by simp; omega) (fun k hk => by simp [Value.ownBlock] at hk; omega))
        have HG3 : Hid (∀ k, v3.ownBlock = some k → w.heap.size ≤ k) := Lib.hid (fun k hk => (hO3.lt k hk).1)
        have HF3 : Hid (Fr (fun k => k = w2.heap.size) w2 w3) := Lib.hid (((Fr.refl _ _).alloc _).grown hgrow3 (fun k hk => .inr (by simp [Value.ownBlock] at hk; omega)))
        have hs3 := HB3.out.size
        have HV3 : Hid (VAt w3 a1 (encB l)) := Lib.hid (HB1.out.below HB3.out (Nat.le_refl _)).vat
        clear hown3 hgrow3 hblk3 hO3
        go_wp2_with (at_builtin; refine wpList_append_src _ rfl (.tmp 29) (.tmp 30) 22 rfl w.heap.size 5 j0 (.int .u8 0) 1 Try.underlying22 HJ.out hy0 hy1 hy2 rfl _ (bytesP p).length (encB (bytesP p)) rfl HO3.out a1 l.length cap1 (encB l) rfl (by simp [encB]) HV3.out (encB_one _) (by unfold maxLen; omega) (by omega) (by omega) ?_)
        intro v4 w4 hown4 hgrow4 hblk4
        have hO4 : w4.ownsRow w.heap.size 5 1 v4 L.length (encB L) := by rw [HLE.out, encB_append, List.length_append]; exact hown4
        have HB4 : Hid (Below w.heap.size w w4) := Lib.hid (HB3.out.grown hgrow4 hs3 (fun k hk => HG3.out k hk))
        have HK4 : Hid (Blk w4 w.heap.size 24 [.bool p.cmd, .bool p.sec, .int .i64 p.apid, .int .i64 p.flags, .int .i64 p.count, .slice a p.dat.length cap]) := Lib.hid (by
          refine (HK2.out.fr HF3.out (by omega)).grown hgrow4 ?_
          intro e
          have h1 := HO3.out.2
          rcases h1 with ⟨h1, -⟩ | ⟨g, cp, cur, h1, -, h2, -⟩
          · rw [h1] at e; simp [Value.ownBlock] at e
          · rw [h1] at e; simp [Value.ownBlock] at e
            subst e
            have h3 := HK2.out.fr HF3.out (by omega)
            unfold Blk at h3
            rw [h2] at h3
            cases h3)
        obtain ⟨-, a4, c4, rfl, hc4, hm4, hA4⟩ := BAt.of_row hO4
        have HA4 := Lib.hid hA4
        have hs4 := HB4.out.size
        have hd := decode_any a4 c4 L w4 (by unfold maxLen; omega) hc4 hm4 hA4
        unfold DQ at hd
        rw [HD.out] at hd
        have HDD := Lib.hid hd
        clear hown4 hgrow4 hblk4 hO4 hA4 hd
        go_wp2_with fail
        refine HDD.out.mono ?_
        rintro e w5 ⟨a5, c5, rfl, hA5, -, -, hB5⟩
        unfold Pk.val
        have HA5 := Lib.hid hA5
        have HB5 := Lib.hid (HB4.out.trans (hB5.mono hs4))
        have hk := HK4.out.below hB5 (Nat.le_refl _)
        have q0 := hk.at 0 rfl
        have q1 := hk.at 1 rfl
        have q2 := hk.at 2 rfl
        have q3 := hk.at 3 rfl
        have q4 := hk.at 4 rfl
        have q5 := hk.at 5 rfl
        have hlk := hk.lt
        have hs5 := HB5.out.size
        clear hA5 hB5 hk
        go_wp2_with fail
        have hb6 := HB5.out.alloc hs5 (.cells #[.bool p.cmd, .bool p.sec, .int .i64 p.apid, .int .i64 p.flags, .int .i64 p.count, .slice a5 p.dat.length c5] 24)
        refine (same_any p a a5 cap c5 _ (HBA.out.below hb6 (Nat.le_refl _)) (HA5.out.below (al (Below.refl _ _) _) (Nat.le_refl _))).mono ?_
        rintro e w6 ⟨rfl, hB⟩
        have HB6 := Lib.hid (hb6.trans (hB.mono hb6.size))
        clear hB hb6
        go_wp2_with fail
        go_meet
        case rel => exact HB6.out
    case rest =>
      obtain ⟨w3, hw3⟩ : ∃ w3, w3 = wc := ⟨wc, rfl⟩
      subst hw3
      have HB3 := Lib.hid hcut
      have hs3 := hcut.size
      clear hcut
      obtain ⟨⟨q, n, f⟩, hr⟩ : ∃ r, r = decP l := ⟨_, rfl⟩
      have hd := decode_any a1 cap1 l w3 HLM.out hl1 HC1.out (HB1.out.below HB3.out (Nat.le_refl _))
      unfold DQ at hd
      rw [← hr] at hd
      have HDD := Lib.hid hd
      have HR := Lib.hid hr
      clear hr hd
      go_wp2_with fail
      refine HDD.out.mono ?_
      rintro e w4 ⟨a4, c4, rfl, hA, hc4, hm4, hB⟩
      try simp only at hA hc4
      unfold Pk.val
      have HA4 := Lib.hid hA
      have HB4 := Lib.hid (HB3.out.trans (hB.mono hs3))
      have hs4 := HB4.out.size
      clear hA hB
      by_cases hf : f = 0
      · subst hf
        obtain ⟨hv, hn0, hn1, hby⟩ := enc_dec l q n HR.out.symm
        obtain ⟨N, rfl⟩ : ∃ N : Nat, n = (N : Int) := ⟨n.toNat, by omega⟩
        rw [Int.toNat_natCast] at hby
        have he : encP q = (bytesP q, 0) := by rw [encP, if_pos hv]
        have hql := bytesP_length q
        have hne : l ≠ [] := fun e => by rw [e] at hby; rw [hby] at hql; simp at hql; omega
        obtain ⟨b, off, rfl, -⟩ := HB1.out.resolve_left hne
        have hNl : N ≤ l.length := by omega
        have HBY := Lib.hid hby
        have HE := Lib.hid he
        clear hby he hn1 hn0 hql hne
        go_wp2_with fail
        refine (encode_any q a4 c4 _ (Nat.le_trans hc4 hm4) (HA4.out.below (al (Below.refl _ _) _) (Nat.le_refl _))).mono ?_
        rintro e w7 ⟨v7, rfl, hO, hB⟩
        rw [HE.out] at hO ⊢
        have s1 := own_str (w := w7.drew) hO
        have HB7 := Lib.hid ((HB4.out.alloc hs4 _).trans (hB.mono (HB4.out.alloc hs4 _).size))
        have s2 : (convert 22 9 (.slice (some ⟨b, off, none⟩) N cap1)).run Try.prog w7.drew = .ok (.string ⟨(bytesP q).toArray⟩) w7.drew := by
          rw [HBY.out]
          exact str_n (l := l.take N) N cap1 (by simp; omega) (BAt.take (show BAt w7.drew _ l from HB1.out.below HB7.out.drew (Nat.le_refl _)) N)
        have g1 : (N : Int) ≤ (l.length : Int) := by omega
        have g2 : (N : Int) ≤ (cap1 : Int) := by omega
        have g3 : ¬ (l.length : Int) < (N : Int) := by omega
        have g4 : ¬ (N : Int) < 0 := by omega
        have g5 : (0 : Int) ≤ (N : Int) := by omega
        have g6 : decide ((l.length : Int) < (N : Int)) = false := by simp; omega
        have g7 : decide ((N : Int) < 0) = false := by simp
        have g8 : decide (l.length < N) = false := by simp; omega
        clear hO hB
        go_wp2_with fail
        refine wp_region_held_drew (S := (fun w' => (convert 22 9 v7).run Try.prog w' = .ok (.string ⟨(bytesP q).toArray⟩) w' ∧ (convert 22 9 (.slice (some ⟨b, off, none⟩) N cap1)).run Try.prog w' = .ok (.string ⟨(bytesP q).toArray⟩) w')) (by kernel_rfl) (by (try dsimp only); first | exact ⟨by assumption, by assumption⟩ | go_keep) (fun hHeld => ?_)
        refine wpAnyH_take (i := 0) (oi := (Oper.mk (some 63) (Op.move (Operand.tmp 14)) 25 "law.go:56" #[] none)) (v := ?v0tccfbx1) rfl (by kernel_rfl) (by kernel_rfl) (by kernel_rfl) (fun _ _ _ h => h) (Or.inl ⟨by rfl, ?hy0tccfbx1⟩) (by assumption) ?rest0tccfbx1
        case hy0tccfbx1 => (intro w hSw; (try dsimp only at hSw); go_simp; first | done | with_reducible rfl)
        (try simp only [Act.put, List.setIfInBounds_toArray, List.set_cons_zero, List.set_cons_succ])
        refine wpAnyH_take (i := 1) (oi := (Oper.mk (some 64) (Op.binOp BinOp.neq 25 (Operand.tmp 63) (Operand.const (Value.int IntKind.i64 0)) 25) 4 "law.go:56" #[Edge.mk 0 Ground.data] none)) (v := ?v1tccfbx2) rfl (by kernel_rfl) (by kernel_rfl) (by kernel_rfl) (fun _ _ _ h => h) (Or.inl ⟨by rfl, ?hy1tccfbx2⟩) (by assumption) ?rest1tccfbx2
        case hy1tccfbx2 => (intro w hSw; (try dsimp only at hSw); go_simp; first | done | with_reducible rfl)
        (try simp only [Act.put, List.setIfInBounds_toArray, List.set_cons_zero, List.set_cons_succ])
        refine wpAnyH_take (i := 2) (oi := (Oper.mk (some 65) (Op.move (Operand.tmp 64)) 4 "law.go:56" #[Edge.mk 1 Ground.data] none)) (v := ?v2tccfbx3) rfl (by kernel_rfl) (by kernel_rfl) (by kernel_rfl) (fun _ _ _ h => h) (Or.inl ⟨by rfl, ?hy2tccfbx3⟩) (by assumption) ?rest2tccfbx3
        case hy2tccfbx3 => (intro w hSw; (try dsimp only at hSw); go_simp; first | done | with_reducible rfl)
        (try simp only [Act.put, List.setIfInBounds_toArray, List.set_cons_zero, List.set_cons_succ])
        refine wpAnyH_take (i := 3) (oi := (Oper.mk (some 66) (Op.move (Operand.tmp 11)) 3 "law.go:56" #[Edge.mk 2 Ground.guard] (some (2, false)))) (v := ?v3tccfbx4) rfl (by kernel_rfl) (by kernel_rfl) (by kernel_rfl) (fun _ _ _ h => h) (Or.inl ⟨by rfl, ?hy3tccfbx4⟩) (by assumption) ?rest3tccfbx4
        case hy3tccfbx4 => (intro w hSw; (try dsimp only at hSw); go_simp; first | done | with_reducible rfl)
        (try simp only [Act.put, List.setIfInBounds_toArray, List.set_cons_zero, List.set_cons_succ])
        refine wpAnyH_take (i := 4) (oi := (Oper.mk (some 67) (Op.binOp BinOp.lss 3 (Operand.tmp 66) (Operand.const (Value.int IntKind.i64 0)) 3) 4 "law.go:56" #[Edge.mk 3 Ground.data, Edge.mk 2 Ground.guard] (some (2, false)))) (v := ?v4tccfbx5) rfl (by kernel_rfl) (by kernel_rfl) (by kernel_rfl) (fun _ _ _ h => h) (Or.inl ⟨by rfl, ?hy4tccfbx5⟩) (by assumption) ?rest4tccfbx5
        case hy4tccfbx5 => (intro w hSw; (try dsimp only at hSw); go_simp; first | done | with_reducible rfl)
        (try simp only [Act.put, List.setIfInBounds_toArray, List.set_cons_zero, List.set_cons_succ])
        refine wpAnyH_take (i := 5) (oi := (Oper.mk (some 68) (Op.pick (Operand.tmp 65) (Operand.const (Value.bool true)) (Operand.tmp 67)) 4 "law.go:56" #[Edge.mk 2 Ground.data, Edge.mk 4 Ground.data] none)) (v := ?v5tccfbx6) rfl (by kernel_rfl) (by kernel_rfl) (by kernel_rfl) (fun _ _ _ h => h) (Or.inl ⟨by rfl, ?hy5tccfbx6⟩) (by assumption) ?rest5tccfbx6
        case hy5tccfbx6 => (intro w hSw; (try dsimp only at hSw); go_simp; first | done | with_reducible rfl)
        (try simp only [Act.put, List.setIfInBounds_toArray, List.set_cons_zero, List.set_cons_succ])
        refine wpAnyH_take (i := 6) (oi := (Oper.mk (some 69) (Op.move (Operand.tmp 68)) 4 "law.go:56" #[Edge.mk 5 Ground.data, Edge.mk 2 Ground.chain] none)) (v := ?v6tccfbx7) rfl (by kernel_rfl) (by kernel_rfl) (by kernel_rfl) (fun _ _ _ h => h) (Or.inl ⟨by rfl, ?hy6tccfbx7⟩) (by assumption) ?rest6tccfbx7
        case hy6tccfbx7 => (intro w hSw; (try dsimp only at hSw); go_simp; first | done | with_reducible rfl)
        (try simp only [Act.put, List.setIfInBounds_toArray, List.set_cons_zero, List.set_cons_succ])
        refine wpAnyH_take (i := 7) (oi := (Oper.mk (some 70) (Op.move (Operand.tmp 11)) 3 "law.go:56" #[Edge.mk 6 Ground.guard] (some (6, false)))) (v := ?v7tccfbx8) rfl (by kernel_rfl) (by kernel_rfl) (by kernel_rfl) (fun _ _ _ h => h) (Or.inl ⟨by rfl, ?hy7tccfbx8⟩) (by assumption) ?rest7tccfbx8
        case hy7tccfbx8 => (intro w hSw; (try dsimp only at hSw); go_simp; first | done | with_reducible rfl)
        (try simp only [Act.put, List.setIfInBounds_toArray, List.set_cons_zero, List.set_cons_succ])
        refine wpAnyH_take (i := 8) (oi := (Oper.mk (some 71) (Op.move (Operand.tmp 1)) 22 "law.go:56" #[Edge.mk 6 Ground.guard] (some (6, false)))) (v := ?v8tccfbx9) rfl (by kernel_rfl) (by kernel_rfl) (by kernel_rfl) (fun _ _ _ h => h) (Or.inl ⟨by rfl, ?hy8tccfbx9⟩) (by assumption) ?rest8tccfbx9
        case hy8tccfbx9 => (intro w hSw; (try dsimp only at hSw); go_simp; first | done | with_reducible rfl)
        (try simp only [Act.put, List.setIfInBounds_toArray, List.set_cons_zero, List.set_cons_succ])
        refine wpAnyH_take (i := 9) (oi := (Oper.mk (some 72) (Op.call (Call.mk (Callee.builtin Builtin.len) #[Operand.tmp 71] #[22])) 3 "law.go:56" #[Edge.mk 8 Ground.data, Edge.mk 6 Ground.guard] (some (6, false)))) (v := ?v9tccfbx10) rfl (by kernel_rfl) (by kernel_rfl) (by kernel_rfl) (fun _ _ _ h => h) (Or.inl ⟨by rfl, ?hy9tccfbx10⟩) (by assumption) ?rest9tccfbx10
        case hy9tccfbx10 => (intro w hSw; (try dsimp only at hSw); go_simp; first | done | with_reducible rfl)
        (try simp only [Act.put, List.setIfInBounds_toArray, List.set_cons_zero, List.set_cons_succ])
        refine wpAnyH_take (i := 10) (oi := (Oper.mk (some 73) (Op.binOp BinOp.gtr 3 (Operand.tmp 70) (Operand.tmp 72) 3) 4 "law.go:56" #[Edge.mk 7 Ground.data, Edge.mk 9 Ground.data, Edge.mk 6 Ground.guard] (some (6, false)))) (v := ?v10tccfbx11) rfl (by kernel_rfl) (by kernel_rfl) (by kernel_rfl) (fun _ _ _ h => h) (Or.inl ⟨by rfl, ?hy10tccfbx11⟩) (by assumption) ?rest10tccfbx11
        case hy10tccfbx11 => (intro w hSw; (try dsimp only at hSw); go_simp; first | done | with_reducible rfl)
        (try simp only [Act.put, List.setIfInBounds_toArray, List.set_cons_zero, List.set_cons_succ])
        refine wpAnyH_take (i := 11) (oi := (Oper.mk (some 74) (Op.pick (Operand.tmp 69) (Operand.const (Value.bool true)) (Operand.tmp 73)) 4 "law.go:56" #[Edge.mk 6 Ground.data, Edge.mk 10 Ground.data] none)) (v := ?v11tccfbx12) rfl (by kernel_rfl) (by kernel_rfl) (by kernel_rfl) (fun _ _ _ h => h) (Or.inl ⟨by rfl, ?hy11tccfbx12⟩) (by assumption) ?rest11tccfbx12
        case hy11tccfbx12 => (intro w hSw; (try dsimp only at hSw); go_simp; first | done | with_reducible rfl)
        (try simp only [Act.put, List.setIfInBounds_toArray, List.set_cons_zero, List.set_cons_succ])
        refine wpAnyH_take (i := 12) (oi := (Oper.mk (some 75) (Op.move (Operand.tmp 74)) 4 "law.go:56" #[Edge.mk 11 Ground.data, Edge.mk 6 Ground.chain] none)) (v := ?v12tccfbx13) rfl (by kernel_rfl) (by kernel_rfl) (by kernel_rfl) (fun _ _ _ h => h) (Or.inl ⟨by rfl, ?hy12tccfbx13⟩) (by assumption) ?rest12tccfbx13
        case hy12tccfbx13 => (intro w hSw; (try dsimp only at hSw); go_simp; first | done | with_reducible rfl)
        (try simp only [Act.put, List.setIfInBounds_toArray, List.set_cons_zero, List.set_cons_succ])
        refine wpAnyH_take (i := 13) (oi := (Oper.mk (some 76) (Op.move (Operand.tmp 13)) 22 "law.go:56" #[Edge.mk 12 Ground.guard] (some (12, false)))) (v := ?v13tccfbx14) rfl (by kernel_rfl) (by kernel_rfl) (by kernel_rfl) (fun _ _ _ h => h) (Or.inl ⟨by rfl, ?hy13tccfbx14⟩) (by assumption) ?rest13tccfbx14
        case hy13tccfbx14 => (intro w hSw; (try dsimp only at hSw); go_simp; first | done | with_reducible rfl)
        (try simp only [Act.put, List.setIfInBounds_toArray, List.set_cons_zero, List.set_cons_succ])
        refine wpAnyH_take (i := 14) (oi := (Oper.mk (some 77) (Op.convert 22 9 (Operand.tmp 76)) 9 "law.go:56" #[Edge.mk 13 Ground.data, Edge.mk 12 Ground.guard] (some (12, false)))) (v := ?v14tccfbx15) rfl (by kernel_rfl) (by kernel_rfl) (by kernel_rfl) (fun _ _ _ h => h) (Or.inl ⟨by rfl, ?hy14tccfbx15⟩) (by assumption) ?rest14tccfbx15
        case hy14tccfbx15 => (intro w hSw; (try dsimp only at hSw); go_simp; first | done | with_reducible rfl)
        (try simp only [Act.put, List.setIfInBounds_toArray, List.set_cons_zero, List.set_cons_succ])
        refine wpAnyH_take (i := 15) (oi := (Oper.mk (some 78) (Op.move (Operand.tmp 1)) 22 "law.go:56" #[Edge.mk 12 Ground.guard] (some (12, false)))) (v := ?v15tccfbx16) rfl (by kernel_rfl) (by kernel_rfl) (by kernel_rfl) (fun _ _ _ h => h) (Or.inl ⟨by rfl, ?hy15tccfbx16⟩) (by assumption) ?rest15tccfbx16
        case hy15tccfbx16 => (intro w hSw; (try dsimp only at hSw); go_simp; first | done | with_reducible rfl)
        (try simp only [Act.put, List.setIfInBounds_toArray, List.set_cons_zero, List.set_cons_succ])
        refine wpAnyH_take (i := 16) (oi := (Oper.mk (some 79) (Op.move (Operand.tmp 11)) 3 "law.go:56" #[Edge.mk 12 Ground.guard] (some (12, false)))) (v := ?v16tccfbx17) rfl (by kernel_rfl) (by kernel_rfl) (by kernel_rfl) (fun _ _ _ h => h) (Or.inl ⟨by rfl, ?hy16tccfbx17⟩) (by assumption) ?rest16tccfbx17
        case hy16tccfbx17 => (intro w hSw; (try dsimp only at hSw); go_simp; first | done | with_reducible rfl)
        (try simp only [Act.put, List.setIfInBounds_toArray, List.set_cons_zero, List.set_cons_succ])
        refine wpAnyH_take (i := 17) (oi := (Oper.mk (some 80) (Op.slice 22 (Operand.tmp 78) none (some (Operand.tmp 79)) none) 22 "law.go:56" #[Edge.mk 15 Ground.data, Edge.mk 16 Ground.data, Edge.mk 12 Ground.guard] (some (12, false)))) (v := ?v17tccfbx18) rfl (by kernel_rfl) (by kernel_rfl) (by kernel_rfl) (fun _ _ _ h => h) (Or.inl ⟨by rfl, ?hy17tccfbx18⟩) (by assumption) ?rest17tccfbx18
        case hy17tccfbx18 => (intro w hSw; (try dsimp only at hSw); go_simp; first | done | with_reducible rfl)
        (try simp only [Act.put, List.setIfInBounds_toArray, List.set_cons_zero, List.set_cons_succ])
        refine wpAnyH_take (i := 18) (oi := (Oper.mk (some 81) (Op.convert 22 9 (Operand.tmp 80)) 9 "law.go:56" #[Edge.mk 17 Ground.data, Edge.mk 12 Ground.guard] (some (12, false)))) (v := ?v18tccfbx19) rfl (by kernel_rfl) (by kernel_rfl) (by kernel_rfl) (fun _ _ _ h => h) (Or.inl ⟨by rfl, ?hy18tccfbx19⟩) (by assumption) ?rest18tccfbx19
        case hy18tccfbx19 => (intro w hSw; (try dsimp only at hSw); go_simp; first | done | with_reducible rfl)
        (try simp only [Act.put, List.setIfInBounds_toArray, List.set_cons_zero, List.set_cons_succ])
        refine wpAnyH_take (i := 19) (oi := (Oper.mk (some 82) (Op.binOp BinOp.neq 9 (Operand.tmp 77) (Operand.tmp 81) 9) 4 "law.go:56" #[Edge.mk 14 Ground.data, Edge.mk 18 Ground.data, Edge.mk 12 Ground.guard] (some (12, false)))) (v := ?v19tccfbx20) rfl (by kernel_rfl) (by kernel_rfl) (by kernel_rfl) (fun _ _ _ h => h) (Or.inl ⟨by rfl, ?hy19tccfbx20⟩) (by assumption) ?rest19tccfbx20
        case hy19tccfbx20 => (intro w hSw; (try dsimp only at hSw); go_simp; first | done | with_reducible rfl)
        (try simp only [Act.put, List.setIfInBounds_toArray, List.set_cons_zero, List.set_cons_succ])
        refine wpAnyH_take (i := 20) (oi := (Oper.mk (some 83) (Op.pick (Operand.tmp 75) (Operand.const (Value.bool true)) (Operand.tmp 82)) 4 "law.go:56" #[Edge.mk 12 Ground.data, Edge.mk 19 Ground.data] none)) (v := ?v20tccfbx21) rfl (by kernel_rfl) (by kernel_rfl) (by kernel_rfl) (fun _ _ _ h => h) (Or.inl ⟨by rfl, ?hy20tccfbx21⟩) (by assumption) ?rest20tccfbx21
        case hy20tccfbx21 => (intro w hSw; (try dsimp only at hSw); go_simp; first | done | with_reducible rfl)
        (try simp only [Act.put, List.setIfInBounds_toArray, List.set_cons_zero, List.set_cons_succ])
        refine wpAnyH_done (by kernel_rfl) ?_ _
        go_wp2_with fail
        have hs7 := HB7.out.size
        refine (alive_any _).mono ?_
        rintro e w8 ⟨rfl, hB⟩
        have HB8 := Lib.hid (HB7.out.trans ((undrew hB).mono hs7))
        clear hB
        go_wp2_with fail
        go_ret
        exact ⟨rfl, HB8.out⟩
      · have hf0 : (f == 0) = false := by rw [beq_eq_false_iff_ne]; exact hf
        clear hf
        go_wp2_with fail
        refine (alive_any _).mono ?_
        rintro e w8 ⟨rfl, hB⟩
        have HB8 := Lib.hid ((HB4.out.alloc hs4 _).trans (hB.mono (HB4.out.alloc hs4 _).size))
        clear hB
        go_wp2_with fail
        go_ret
        exact ⟨rfl, HB8.out⟩


set_option maxRecDepth 100000 in
theorem lifted (os : Os) (started : os.Started) (H : Type) (enc : TypeId × Value → H) :
    ReturnsInHanded {} Try.checked os 6 .any (Rows.packetBackSpec.pre6 enc Try.prog Try.f6 Rows.packetBackRow.domain false) (Rows.packetBackSpec.post enc Try.prog Try.f6 false true false false) := by
  refine returnsInHanded_of_change (C := Try.checked) own started (by kernel_rfl) Try.func6
    (ChangeSpec.witness6 (enc := enc) (C := Try.checked) false ⟨#[], #[.agg #[.bool false, .bool false, .int .i64 0, .int .i64 0, .int .i64 0, .slice none 0 0], .slice none 0 0], []⟩ 8 (by kernel_rfl) (by kernel_rfl) (by kernel_rfl) (by kernel_rfl)) ?_
  intro W base args ds gs before hval0 hW hcnd _
  have hval : ∀ (j : Nat) t v, Try.f6.params[j]? = some t → args[j]? = some v → Value.okWide Try.prog W .any base t v := hval0
  have hW' := hW
  obtain ⟨p, q, hA0, hV, rfl, hfz, hnd⟩ := hW
  have hA : DataW.TrodAll enc Try.prog W 0 (fun _ => true) true Try.f6.params.toList args.toList ds p := hA0
  rw [Try.params6] at hA hval
  obtain ⟨v0, vs0, d0, ds0, p0, q0, hargs, rfl, rfl, h0, r0⟩ := trodAll_cons hA
  obtain ⟨v1, vs1, d1, ds1, p1, q1, rfl, rfl, rfl, h1, r1⟩ := trodAll_cons r0
  obtain ⟨rfl, rfl, rfl⟩ := trodAll_nil r1
  obtain rfl : args = #[v0, v1] := by cases args; simp_all
  obtain ⟨rfl, rfl⟩ := trodVars_none hV
  have k0 := h0
  have lt0 : ∀ x ∈ p0, x.block < W.heap.size := by obtain ⟨m, hm⟩ := k0; exact DataW.trod_lt m _ _ _ hm
  have k1 := h1
  have lt1 : ∀ x ∈ p1, x.block < W.heap.size := by obtain ⟨m, hm⟩ := k1; exact DataW.trod_lt m _ _ _ hm
  clear hA0 hval0
  refine (walk v0 v1 W (hval 0 24 v0 rfl rfl) k0 (hval 1 22 v1 rfl rfl) k1).mono fun e W' ⟨he, bel⟩ => ?_
  subst he
  exact ⟨_, rfl, _, _, _, [], _, [], hW', trodAll_mk1 (shut_bool Try.underlying4 _), (trodAll_cons_mk (Below.trod laidOut (by kernel_rfl) (of_decide_eq_true (by kernel_rfl)) k0 bel lt0) (trodAll_cons_mk (Below.trod laidOut (by kernel_rfl) (of_decide_eq_true (by kernel_rfl)) k1 bel lt1) trodAll_mk0)), rfl, bel.frame _, fun h => by cases h⟩

theorem over : Rows.packetBackRow.holds Try.pinned (OpenSpec.ofChange Rows.packetBackSpec) :=
  OpenClaim.holds_of_wide 6 Try.f6 rfl rfl rfl rfl rfl rfl rfl ⟨rfl, rfl, rfl, rfl, rfl⟩ rfl rfl rfl rfl rfl (by kernel_rfl) Try.func6 (by kernel_rfl)
    (of_decide_eq_true (by kernel_rfl)) (by unfold Func.isWrapper; first | (rw [if_pos (by decide +kernel)]; kernel_rfl) | (rw [if_neg (by decide +kernel)]; exact ⟨rfl, rfl⟩))
    (fun os started H enc _ => lifted os started H enc)

theorem proved : Rows.PacketBackSaid := over
#print axioms proved
end Go.Proofs.Ytelbfohiadklgaa.packetBack

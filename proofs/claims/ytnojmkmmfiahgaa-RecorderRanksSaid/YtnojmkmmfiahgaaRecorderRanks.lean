/- The law RecorderRanks holds: the walk, then the lift to the given statement. No condition. -/
import Derived.Test.YtnojmkmmfiahgaaX
import Derived.WalkKit
import Derived.ProofKit
import Derived.OpenShut
import Derived.Lib.Hide
import Derived.ChangeOld
import Derived.Below
import Derived.SizedLaws
namespace Go.Proofs.Ytnojmkmmfiahgaa.recorderRanks
open Go.ChangeShapes Go.WideShapes Go.ChangeAt Go.RowKit
set_option linter.unusedVariables false
theorem own : ownKnob Try.prog.godebug = none := by kernel_rfl
theorem laidOut : laidOutB Try.prog = true := by kernel_rfl

set_option maxRecDepth 20000 in
set_option maxHeartbeats 4000000 in
theorem walk {H : Type} {enc : TypeId × Value → H} (v0 : Value) (w : World) {b0 : Nat} {d0 : DataW H} {p0 : List MemPlace} (ok0 : Value.okWide Try.prog w .any b0 31 v0) (tr0 : DataW.Trod enc Try.prog w 0 (fun _ => true) true 31 v0 d0 p0) : Calls Try.prog 5 #[v0] w fun e w' => e = .returned (.bool true) ∧ Below w.heap.size w w' := by
  obtain ⟨a, cap, l, rfl, hc, hm, hb⟩ := arg_bytes Try.underlying31 Try.underlying5 (by kernel_rfl) ok0 tr0
  have HA := Lib.hid hb
  clear ok0 tr0 hb
  obtain ⟨n, hn⟩ : ∃ n, n = l.length := ⟨_, rfl⟩
  rw [← hn] at hc ⊢
  by_cases hl : 10 < n
  · have e1 : (10 : Int) < (n : Int) := by omega
    clear hn
    go_enter Try.func5, Try.ntmps5
    go_wp2_with fail
    refine (alive_any _).mono ?_
    rintro e w9 ⟨rfl, hB⟩
    have HB9 := Lib.hid hB
    clear hB
    go_wp2_with fail
    go_ret
    exact ⟨rfl, HB9.out⟩
  have e1 : ¬ (10 : Int) < (n : Int) := by omega
  have HN := Lib.hid hn
  clear hn
  obtain ⟨j9, hj9, hf0, hf1, hf2⟩ := info_parts info29
  have HJ9 := Lib.hid hj9
  clear hj9
  go_enter Try.func5, Try.ntmps5
  go_wp2_with fail
  go_loopw [3, 4, 5] (fun v3 v4 v5 wr => ∃ i : Nat, i ≤ n ∧ v4 = .int .i64 (left i (cL l) (fun _ => 0) : Int) ∧ v5 = .int .i64 (i : Int) ∧ Hid (wr.ownsRow w.heap.size 29 4 v3 i (dcs l i)) ∧ Hid (Below w.heap.size w wr)) (fun _ _ v5 _ => n - (intOf v5).toNat)
  case atStart => exact ⟨0, Nat.zero_le _, rfl, rfl, Lib.hid (World.ownsRow_nil _ _ _ _), Lib.hid (Below.refl _ _)⟩
  case round =>
    obtain ⟨i, hi, rfl, rfl, HO, HW⟩ := hrel
    obtain ⟨a3, n3, c3, rfl⟩ := own_slice HO.out
    obtain ⟨lf, hlf⟩ : ∃ x, x = left i (cL l) (fun _ => 0) := ⟨_, rfl⟩
    have hlf90 : lf ≤ 9 * i := by
      rw [hlf]
      clear hlf HO hi
      induction i with
      | zero => exact Nat.le_refl _
      | succ i ih => rw [left_succ]; have := cL_le l i; omega
    rw [← hlf]
    have HLF := Lib.hid hlf
    clear hlf
    by_cases hlt : i < n
    · obtain ⟨x, hx⟩ : ∃ x, l[i]? = some x := ⟨_, List.getElem?_eq_getElem (by rw [← HN.out]; exact hlt)⟩
      obtain ⟨bA, oA, rfl, hbA, hcell⟩ := HA.out.resolve_left (fun e => by rw [e] at hx; cases hx)
      have c1 : wr.cell? ⟨bA, oA + i, none⟩ = some (.int .u8 (x.toNat : Int)) := (HW.out.cell (p := ⟨bA, _, none⟩) hbA).trans (by rw [hcell i (by rw [← HN.out]; exact hlt), (List.getElem?_eq_some_iff.1 hx).2])
      have HC1 := Lib.hid (hcell i (by rw [← HN.out]; exact hlt))
      have g1 : (i : Int) < (n : Int) := by omega
      have hx8 := x.toNat_lt
      obtain ⟨p, hp⟩ : ∃ p, p = x.toNat % 4 := ⟨_, rfl⟩
      obtain ⟨y, hy⟩ : ∃ y, y = x.toNat / 4 := ⟨_, rfl⟩
      obtain ⟨c, hcc⟩ : ∃ c, c = y % 10 := ⟨_, rfl⟩
      have HPR : Hid (prL l i = (p : Int)) := Lib.hid (by unfold prL; rw [getD_of hx, ← hp])
      have HCR : Hid (cL l i = c) := Lib.hid (by unfold cL; rw [getD_of hx, ← hy, ← hcc])
      have q1 : ((x.toNat : Nat) : Int).tmod 4 = (p : Int) := by rw [hp]; rfl
      have q2 : ((x.toNat : Nat) : Int) % 4 = (p : Int) := by rw [hp]; rfl
      have q3 : ((x.toNat : Nat) : Int).tdiv 4 = (y : Int) := by rw [hy]; rfl
      have q4 : ((x.toNat : Nat) : Int) / 4 = (y : Int) := by rw [hy]; rfl
      have q5 : (y : Int).tmod 10 = (c : Int) := by rw [hcc]; rfl
      have q6 : (y : Int) % 10 = (c : Int) := by rw [hcc]; rfl
      have hp4 : p < 4 := by omega
      have hy64 : y < 64 := by omega
      have hc10 : c < 10 := by omega
      have hs0 := HW.out.size
      have hs1 : w.heap.size ≤ (wr.alloc (.cells #[.int .i64 (i : Int), .int .i64 100, .int .i64 (p : Int), .bool false] 29)).heap.size := Nat.le_trans hs0 (al (Below.refl _ _) _).size
      have HX := Lib.hid hx
      clear hx hcell hp hy hcc
      go_wp2_with (at_builtin; refine wpList_append_own_at _ rfl (.tmp 28) (.tmp 37) 30 rfl w.heap.size 29 j9 (.agg #[.int .i64 0, .int .i64 0, .int .i64 0, .bool false]) 4 32 Try.underlying30 HJ9.out hf0 hf1 hf2 (by rfl) (by decide) _ i (dcs l i) rfl (own_below HO.out (al (Below.refl _ _) _) (Nat.le_refl _)) ⟨wr.heap.size, 0, none⟩ 1 1 [.int .i64 (i : Int), .int .i64 100, .int .i64 (p : Int), .bool false] rfl (by rfl) (news4 wr _ _ _ _ 29) (by simp [Value.oneCell']) (by unfold maxLen; omega) (by omega) hs1 ?_)
      intro v6 w6 hown6 hgrow6 _ hblk6
      obtain ⟨a6, n6, c6, rfl⟩ := own_slice hown6
      have HO6 : Hid (w6.ownsRow w.heap.size 29 4 (.slice a6 n6 c6) (i + 1) (dcs l (i + 1))) := Lib.hid (by rw [dcs_succ, HPR.out]; exact hown6)
      have hal : Below wr.heap.size wr (wr.alloc (.cells #[.int .i64 (i : Int), .int .i64 100, .int .i64 (p : Int), .bool false] 29)) := al (Below.refl _ _) _
      have HW6 : Hid (Below w.heap.size w w6) := Lib.hid ((HW.out.trans (hal.mono hs0)).grown hgrow6 (Nat.le_trans hs0 hal.size) (fun q hq => (HO.out.lt q hq).1))
      have c2 : w6.cell? ⟨bA, oA + i, none⟩ = some (.int .u8 (x.toNat : Int)) := (HW6.out.cell (p := ⟨bA, _, none⟩) hbA).trans (by rw [HC1.out, (List.getElem?_eq_some_iff.1 HX.out).2])
      clear hown6 hgrow6 hblk6 hal c1
      go_wp2_with fail
      go_roundw
      case rel => exact ⟨i + 1, by omega, congrArg (Value.int .i64) (by rw [left_succ, HCR.out, ← HLF.out]; omega), by go_num, HO6, HW6⟩
      case measure => simp [intOf]; omega
    · obtain rfl : n = i := by omega
      have g1 : ¬ (n : Int) < (n : Int) := by omega
      obtain ⟨h3, hnc3, hmc3, -⟩ := own_four HO.out
      obtain rfl := h3.symm
      have HDS := Lib.hid (ds_at HO.out)
      have hpr := prL_bd l
      have hcl := cL_le l
      have HPR := Lib.hid hpr
      have HCL := Lib.hid hcl
      clear h3 hpr hcl
      go_wp2_with fail
      refine (new_ok HDS.out (by simp [dsL]) hnc3 hmc3 (ds_good (by omega)) (by simp [dsL]; omega)).mono ?_
      rw [ds_start]
      rintro e w0 ⟨rb, vS, Y0, rfl, hR, hB⟩
      obtain ⟨b, hbe⟩ : ∃ b, b = wr.heap.size := ⟨_, rfl⟩
      rw [← hbe] at hR
      have HR0 := Lib.hid hR
      have HW0 : Hid (Below w.heap.size w w0) := Lib.hid (HW.out.trans (hB.mono HW.out.size))
      have HO0 := Lib.hid (own_below HO.out hB (Nat.le_refl _))
      have HBW : Hid (w.heap.size ≤ b) := Lib.hid (by rw [hbe]; exact HW.out.size)
      have hs00 : Hid (RAt w0 b rb (rR ((0 : Nat) : Int) n (prL l) (cK (cL l) 0 0) no2) vS Y0) := Lib.hid (by
        rw [← rR_congr (c := fun _ => 0) (w := no2) (fun j _ => ⟨by unfold cK; simp, rfl⟩)]
        exact hR)
      clear hR hB hbe HR0
      go_wp2_with fail
      go_loopw [8] (fun v8 wr2 => ∃ (k now : Nat) (Y : List SM), k ≤ 9 ∧ now ≤ k ∧ v8 = .int .i64 (k : Int) ∧ Hid (wr2.ownsRow w.heap.size 29 4 (.slice a3 n c3) n (dcs l n)) ∧ Hid (RAt wr2 b rb (rR (now : Int) n (prL l) (cK (cL l) k 0) no2) vS Y) ∧ Hid (Below w.heap.size w wr2)) (fun v8 _ => 9 - (intOf v8).toNat)
      case atStart => exact ⟨0, 0, Y0, by omega, by omega, rfl, HO0, hs00, HW0⟩
      case round =>
        clear HO HW HO0 HW0 hs00
        obtain ⟨k, now, Y, hk, hnow, rfl, HO, HR, HW⟩ := hrel
        obtain ⟨wo, hwo⟩ : ∃ wo, wo = wr := ⟨wr, rfl⟩
        subst hwo
        by_cases hk9 : k < 9
        · have g2 : (k : Int) < 9 := by omega
          go_wp2_with fail
          go_loopw [9] (fun v9 wr2 => ∃ (i now : Nat) (Y : List SM), i ≤ n ∧ now ≤ k ∧ v9 = .int .i64 (i : Int) ∧ Hid (wr2.ownsRow w.heap.size 29 4 (.slice a3 n c3) n (dcs l n)) ∧ Hid (RAt wr2 b rb (rR (now : Int) n (prL l) (cK (cL l) k i) no2) vS Y) ∧ Hid (Below w.heap.size w wr2)) (fun v9 _ => n - (intOf v9).toNat)
          case atStart => exact ⟨0, now, Y, by omega, hnow, rfl, HO, HR, HW⟩
          case round =>
            clear HO HR HW
            clear hnow
            obtain ⟨i, now, Y, hi, hnow, rfl, HO, HR, HW⟩ := hrel
            by_cases hlt : i < n
            · have g3 : (i : Int) < (n : Int) := by omega
              obtain ⟨x, hx⟩ : ∃ x, l[i]? = some x := ⟨_, List.getElem?_eq_getElem (by rw [← HN.out]; exact hlt)⟩
              obtain ⟨bA, oA, rfl, hbA, hcell⟩ := HA.out.resolve_left (fun e => by rw [e] at hx; cases hx)
              have c1 : wr.cell? ⟨bA, oA + i, none⟩ = some (.int .u8 (x.toNat : Int)) := (HW.out.cell (p := ⟨bA, _, none⟩) hbA).trans (by rw [hcell i (by rw [← HN.out]; exact hlt), (List.getElem?_eq_some_iff.1 hx).2])
              have hx8 := x.toNat_lt
              obtain ⟨y, hy⟩ : ∃ y, y = x.toNat / 4 := ⟨_, rfl⟩
              obtain ⟨c, hcc⟩ : ∃ c, c = y % 10 := ⟨_, rfl⟩
              have HCR : Hid (cL l i = c) := Lib.hid (by unfold cL; rw [getD_of hx, ← hy, ← hcc])
              have q3 : ((x.toNat : Nat) : Int).tdiv 4 = (y : Int) := by rw [hy]; rfl
              have q4 : ((x.toNat : Nat) : Int) / 4 = (y : Int) := by rw [hy]; rfl
              have q5 : (y : Int).tmod 10 = (c : Int) := by rw [hcc]; rfl
              have q6 : (y : Int) % 10 = (c : Int) := by rw [hcc]; rfl
              have hy64 : y < 64 := by omega
              have hc10 : c < 10 := by omega
              have HOK : Hid ((rR (now : Int) n (prL l) (cK (cL l) k i) no2).Ok) := Lib.hid (rR_ok (by omega) (by omega) HPR.out (fun j => Nat.le_trans (cK_le _ _ _ _) (HCL.out j)))
              clear hx hcell hy hcc
              by_cases hkc : k < c
              · have g4 : (k : Int) < (c : Int) := by omega
                obtain ⟨hu1, hu2⟩ := cK_up (c := cL l) (k := k) (i := i) (by rw [HCR.out]; exact hkc)
                have HU1 := Lib.hid hu1
                have HU2 := Lib.hid hu2
                clear hu1 hu2
                go_wp2_with fail
                refine (add_ex (ranks_add hlt HU2.out (by omega) hnow) (HR.out.below (al (Below.refl _ _) _) (Nat.le_refl _)) HOK.out (lit2n b wr _ (by omega) (by omega)) rfl (show 2 ≤ 100000 by decide) rR_drop).mono ?_
                rintro e w1 ⟨Y1, rfl, HR1, HF1⟩
                have hal : Below wr.heap.size wr (wr.alloc (.cells #[.int .u8 (i : Int), .int .u8 (k : Int)] 5)) := al (Below.refl _ _) _
                have HO1 := Lib.hid (HF1.out.own (own_below HO.out hal (Nat.le_refl _)) (by decide))
                have HW1 : Hid (Below w.heap.size w w1) := Lib.hid ((HW.out.trans (hal.mono HW.out.size)).trans ((HF1.out.toBelow (Nat.le_trans HR.out.hi hal.size)).mono HBW.out))
                rw [HU1.out] at HR1
                clear hal
                go_wp2_with fail
                go_roundw
                case rel => exact ⟨i + 1, k, Y1, by omega, Nat.le_refl _, by go_num, HO1, HR1, HW1⟩
                case measure => simp [intOf]; omega
              · have g4 : ¬ (k : Int) < (c : Int) := by omega
                rw [cK_skip (c := cL l) (k := k) (i := i) (by rw [HCR.out]; exact hkc)] at HR
                go_wp2_with fail
                go_roundw
                case rel => exact ⟨i + 1, now, Y, by omega, hnow, by go_num, HO, HR, HW⟩
                case measure => simp [intOf]; omega
            · obtain rfl : n = i := by omega
              have g3 : ¬ (n : Int) < (n : Int) := by omega
              have HR1 : Hid (RAt wr b rb (rR (now : Int) n (prL l) (cK (cL l) (k + 1) 0) no2) vS Y) := Lib.hid (by
                rw [← rR_congr (c := cK (cL l) k n) (w := no2) (fun j hj => ⟨cK_round _ _ _ j hj, rfl⟩)]
                exact HR.out)
              go_wp2_with fail
              go_roundw
              case rel => exact ⟨k + 1, now, Y, by omega, by omega, by go_num, HO, HR1, HW⟩
              case measure => simp [intOf]; omega
        · have g2 : ¬ (k : Int) < 9 := by omega
          have HR1 : Hid (RAt wo b rb (rR (now : Int) n (prL l) (cL l) (wA 0)) vS Y) := Lib.hid (by
            have h9 : rR (now : Int) n (prL l) (cK (cL l) k 0) no2 = rR (now : Int) n (prL l) (cL l) (wA 0) := rR_congr (fun j _ => ⟨by have := HCL.out j; unfold cK; rw [if_neg (by omega)]; omega, by funext q; simp [no2, wA]⟩)
            rw [← h9]
            exact HR.out)
          have hnow9 : now ≤ 9 := by omega
          clear HR
          go_wp2_with fail
          go_loopw [10] (fun v10 wr2 => ∃ (i : Nat) (Y : List SM), i ≤ n ∧ v10 = .int .i64 (i : Int) ∧ Hid (wr2.ownsRow w.heap.size 29 4 (.slice a3 n c3) n (dcs l n)) ∧ Hid (RAt wr2 b rb (rR (now : Int) n (prL l) (cL l) (wA i)) vS Y) ∧ Hid (Below w.heap.size w wr2)) (fun v10 _ => n - (intOf v10).toNat)
          case atStart => exact ⟨0, Y, by omega, rfl, HO, HR1, HW⟩
          case round =>
            clear HO HR1 HW
            obtain ⟨i, Y, hi, rfl, HO, HR, HW⟩ := hrel
            by_cases hlt : i < n
            · have g3 : (i : Int) < (n : Int) := by omega
              go_wp2_with fail
              refine (rep_ex (ranks_replay hlt (HCL.out i)) HR.out (rR_ok (by omega) (by omega) HPR.out HCL.out)).mono ?_
              rintro e w1 ⟨Y1, rfl, HR1, HF1⟩
              have HO1 := Lib.hid (HF1.out.own HO.out (by decide))
              have HW1 : Hid (Below w.heap.size w w1) := Lib.hid (HW.out.trans ((HF1.out.toBelow HR.out.hi).mono HBW.out))
              go_wp2_with fail
              go_roundw
              case rel => exact ⟨i + 1, Y1, by omega, by go_num, HO1, HR1, HW1⟩
              case measure => simp [intOf]; omega
            · obtain rfl : n = i := by omega
              have g3 : ¬ (n : Int) < (n : Int) := by omega
              rw [wA_all] at HR
              have hlfb : lf ≤ 90 := by omega
              go_wp2_with fail
              go_loopw [11, 12] (fun v11 v12 wr2 => ∃ (m : Nat) (la : Int) (u : Nat → Nat) (Y : List SM), m ≤ lf ∧ v12 = .int .i64 (m : Int) ∧ v11 = .int .i64 la ∧ -1 ≤ la ∧ la ≤ 5000 ∧ Hid (wr2.ownsRow w.heap.size 29 4 (.slice a3 n c3) n (dcs l n)) ∧ Hid (RAt wr2 b rb (rR (now : Int) n (prL l) (cL l) (wU u)) vS Y) ∧ Hid (left n (cL l) u + m = lf) ∧ Hid (∀ j, j < n → u j < cL l j → la < prL l j * 1000 + (j : Int) * 10 + (u j : Int)) ∧ Hid (Below w.heap.size w wr2)) (fun _ v12 _ => lf - (intOf v12).toNat)
              case atStart => exact ⟨0, -1, fun _ => 0, Y, Nat.zero_le _, rfl, rfl, by omega, by omega, HO, HR, Lib.hid HLF.out.symm, Lib.hid (fun j _ _ => by have := (HPR.out j).1; show -1 < prL l j * 1000 + (j : Int) * 10 + ((0 : Nat) : Int); omega), HW⟩
              case round =>
                clear HO HR HW
                obtain ⟨m, la, u, Y, hm9, rfl, rfl, hla1, hla2, HO, HR, HLE, HUP, HW⟩ := hrel
                have HOKR : Hid ((rR (now : Int) n (prL l) (cL l) (wU u)).Ok) := Lib.hid (rR_ok (by omega) (by omega) HPR.out HCL.out)
                by_cases hml : m < lf
                · have g4 : (m : Int) < (lf : Int) := by omega
                  obtain ⟨i, hin, hu, hmin, hnx⟩ := ranks_some (now := (now : Int)) (pr := prL l) (left_pos (c := cL l) (u := u) n (by have := HLE.out; omega))
                  obtain ⟨uu, huu⟩ : ∃ x, x = u i := ⟨_, rfl⟩
                  obtain ⟨pi, hpi⟩ : ∃ x, x = prL l i := ⟨_, rfl⟩
                  have hu9 : uu ≤ 9 := by rw [huu]; have := HCL.out i; omega
                  have hpb : 0 ≤ pi ∧ pi ≤ 3 := by rw [hpi]; exact HPR.out i
                  have hup := HUP.out i hin hu
                  rw [← hpi, ← huu] at hup
                  have HNX := Lib.hid hnx
                  have HU := Lib.hid hu
                  have HMIN := Lib.hid hmin
                  have HUU := Lib.hid huu
                  have HPI := Lib.hid hpi
                  clear hnx hu hmin
                  go_wp2_with fail
                  refine (next_two HNX.out HR.out HOKR.out).mono ?_
                  rintro e w1 ⟨g, off, cc, Y1, rfl, hc2, hb0, hb1, HR1, HF1⟩
                  rw [UInt8.toNat_ofNat', Nat.mod_eq_of_lt (show i < 2 ^ 8 by omega)] at hb0
                  rw [UInt8.toNat_ofNat', ← huu, Nat.mod_eq_of_lt (show uu < 2 ^ 8 by omega)] at hb1
                  have HO1 := Lib.hid (HF1.out.own HO.out (by decide))
                  have HW1 : Hid (Below w.heap.size w w1) := Lib.hid (HW.out.trans ((HF1.out.toBelow HR.out.hi).mono HBW.out))
                  obtain ⟨-, -, -, hx0 | ⟨gD, rfl, -, -, hcells⟩⟩ := own_four HO1.out
                  · omega
                  have cD : w1.cell? ⟨gD, i * 4 + 2, none⟩ = some (.int .i64 pi) := by
                    rw [hcells (i * 4 + 2) (by omega), dcs_get l n i 2 hin (by omega), hpi]
                    rfl
                  have k1 : (i : Int) < (n : Int) := by omega
                  have k2 : ¬ (n : Int) ≤ (i : Int) := by omega
                  have k3 : ¬ (pi * 1000 + (i : Int) * 10 + (uu : Int) ≤ la) := by omega
                  have hi10 : i < 10 := by omega
                  clear hcells huu hpi
                  go_wp2_with (go_quiet (fail))
                  go_roundw
                  case rel => exact ⟨m + 1, pi * 1000 + (i : Int) * 10 + (uu : Int), up u i, Y1, by omega, by go_num, rfl, by omega, by omega, HO1, by first | exact HR1 | exact Lib.hid (HR1.out.quiet ⟨_, rfl⟩), Lib.hid (by have h8 := (left_up HU.out n).1 hin; have h9 := HLE.out; omega), Lib.hid (by
                    have h9 := ranks_up (by omega) (fun j _ => HCL.out j) hin HU.out HMIN.out
                    rw [← HPI.out, ← HUU.out] at h9
                    exact h9), Lib.hid (HW1.out.trans (Quiet.below (w := w1) ⟨_, rfl⟩))⟩
                  case measure => simp [intOf]; omega
                · have hlz : left n (cL l) u = 0 := by have := HLE.out; omega
                  have HLZ := Lib.hid hlz
                  clear hlz
                  obtain rfl : m = lf := by omega
                  have g4 : ¬ (m : Int) < (m : Int) := by omega
                  go_wp2_with fail
                  refine (next_no (ranks_none (left_zero n HLZ.out)) HR.out HOKR.out).mono ?_
                  rintro e w1 ⟨Y1, rfl, HR1, HF1⟩
                  have HW1 : Hid (Below w.heap.size w w1) := Lib.hid (HW.out.trans ((HF1.out.toBelow HR.out.hi).mono HBW.out))
                  go_wp2_with fail
                  refine (alive_any _).mono ?_
                  rintro e w9 ⟨rfl, hB⟩
                  have HB9 := Lib.hid hB
                  clear hB
                  go_wp2_with fail
                  go_ret
                  exact ⟨rfl, HW1.out.trans (HB9.out.mono HW1.out.size)⟩


set_option maxRecDepth 100000 in
theorem lifted (os : Os) (started : os.Started) (H : Type) (enc : TypeId × Value → H) :
    ReturnsInHanded {} Try.checked os 5 .any (Rows.recorderRanksSpec.pre6 enc Try.prog Try.f5 Rows.recorderRanksRow.domain false) (Rows.recorderRanksSpec.post enc Try.prog Try.f5 false true false false) := by
  refine returnsInHanded_of_change (C := Try.checked) own started (by kernel_rfl) Try.func5
    (ChangeSpec.witness6 (enc := enc) (C := Try.checked) false ⟨#[], #[.slice none 0 0], []⟩ 8 (by kernel_rfl) (by kernel_rfl) (by kernel_rfl) (by kernel_rfl)) ?_
  intro W base args ds gs before hval0 hW hcnd _
  have hval : ∀ (j : Nat) t v, Try.f5.params[j]? = some t → args[j]? = some v → Value.okWide Try.prog W .any base t v := hval0
  have hW' := hW
  obtain ⟨p, q, hA0, hV, rfl, hfz, hnd⟩ := hW
  have hA : DataW.TrodAll enc Try.prog W 0 (fun _ => true) true Try.f5.params.toList args.toList ds p := hA0
  rw [Try.params5] at hA hval
  obtain ⟨v0, vs0, d0, ds0, p0, q0, hargs, rfl, rfl, h0, r0⟩ := trodAll_cons hA
  obtain ⟨rfl, rfl, rfl⟩ := trodAll_nil r0
  obtain rfl : args = #[v0] := by cases args; simp_all
  obtain ⟨rfl, rfl⟩ := trodVars_none hV
  have k0 := h0
  have lt0 : ∀ x ∈ p0, x.block < W.heap.size := by obtain ⟨m, hm⟩ := k0; exact DataW.trod_lt m _ _ _ hm
  clear hA0 hval0
  refine (walk v0 W (hval 0 31 v0 rfl rfl) k0).mono fun e W' ⟨he, bel⟩ => ?_
  subst he
  exact ⟨_, rfl, _, _, _, [], _, [], hW', trodAll_mk1 (shut_bool Try.underlying4 _), (trodAll_cons_mk (Below.trod laidOut (by kernel_rfl) (of_decide_eq_true (by kernel_rfl)) k0 bel lt0) trodAll_mk0), rfl, bel.frame _, fun h => by cases h⟩

theorem over : Rows.recorderRanksRow.holds Try.pinned (OpenSpec.ofChange Rows.recorderRanksSpec) :=
  OpenClaim.holds_of_wide 5 Try.f5 rfl rfl rfl rfl rfl rfl rfl ⟨rfl, rfl, rfl, rfl, rfl⟩ rfl rfl rfl rfl rfl (by kernel_rfl) Try.func5 (by kernel_rfl)
    (of_decide_eq_true (by kernel_rfl)) (by unfold Func.isWrapper; first | (rw [if_pos (by decide +kernel)]; kernel_rfl) | (rw [if_neg (by decide +kernel)]; exact ⟨rfl, rfl⟩))
    (fun os started H enc _ => lifted os started H enc)

theorem proved : Rows.RecorderRanksSaid := over
#print axioms proved
end Go.Proofs.Ytnojmkmmfiahgaa.recorderRanks

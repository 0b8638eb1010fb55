/- Plain law of PackerKeeps; the contract of the law's packets. No condition. -/
import Derived.Test.YtalghcgedmcifaaR
namespace Go.Proofs.Ytalghcgedmcifaa
open Go.RowKit Go.Deep Go.ChangeShapes Go.WideShapes Go.ChangeAt
set_option linter.unusedVariables false

/-- what is sent of an idle packet -/
def tailP (m : Nat) : List UInt8 := (idleN m).take m
theorem tailP_len (m : Nat) : (tailP m).length = m := by unfold tailP; rw [List.length_take, idleN_len]; omega
theorem tailP_dec (m : Nat) (h : m ≤ 1012) (h1 : 1 ≤ m) : decP (tailP m) = if m < 7 then (zeroP, 0, 3) else (idlePk (m - 6), (m : Int), 0) := by
  have hl := tailP_len m
  split
  · rename_i hm
    have e7 : max m 7 - 6 = 1 := by omega
    have hv := idle_valid 1 (by omega) (by omega)
    have hs : sizeP (idleN m) = (7, 0) := by
      have := size_enc (idlePk 1) [] hv
      rw [List.append_nil, bytesP_length] at this
      unfold idleN
      rw [e7, this]
      simp [idlePk]
    unfold decP
    by_cases h6 : m < 6
    · have e : sizeP (tailP m) = (0, 3) := by unfold sizeP; rw [if_pos (by omega)]
      rw [e, if_pos (by simp)]
    · have e : sizeP (tailP m) = (7, 0) := by
        have h2 : tailP m ++ (idleN m).drop m = idleN m := List.take_append_drop _ _
        rw [← sizeP_app (tailP m) ((idleN m).drop m) (by omega), h2, hs]
      rw [e, if_neg (by simp), if_pos (by dsimp only; omega)]
  · rename_i hm
    have e7 : max m 7 - 6 = m - 6 := by omega
    have hv := idle_valid (m - 6) (by omega) (by omega)
    have h2 : tailP m = bytesP (idlePk (m - 6)) := by
      unfold tailP
      rw [List.take_of_length_le (by rw [idleN_len]; omega)]
      unfold idleN
      rw [e7]
    have h3 := dec_enc (idlePk (m - 6)) [] hv
    rw [List.append_nil, ← h2, hl] at h3
    exact h3
/-- packets that are not idle -/
def realP (x : List UInt8) : Prop := ∃ q, validB q = true ∧ q.apid = 1 ∧ x = bytesP q
theorem realP.dec {x r : List UInt8} (h : realP x) : ∃ q, decP (x ++ r) = (q, (x.length : Int), 0) ∧ q.apid = 1 := by
  obtain ⟨q, h1, h2, rfl⟩ := h
  exact ⟨q, dec_enc q r h1, h2⟩
theorem pks_real (l : List UInt8) (i : Nat) : ∀ x ∈ pks l i, realP x := by
  intro x hx
  obtain ⟨j, -, rfl⟩ := List.mem_map.1 hx
  exact ⟨_, pkB_valid _ _ (by omega) (by have := (l.getD j 0).toNat_lt; omega), rfl, rfl⟩
theorem realP.pos {x : List UInt8} (h : realP x) : 7 ≤ x.length := by
  obtain ⟨q, h1, -, rfl⟩ := h
  exact goodP.len ⟨q, h1, rfl⟩
/-! ### the loops of PackerKeeps -/
structure Kp (l : List UInt8) (s i : Nat) (p : PS) (out : List UInt8) : Prop where
  ok : p.Ok
  rest : p.rest = []
  room : p.room = 1048576
  size : p.size = s
  eq : out ++ p.data = (pks l i).flatten
theorem Kp.start (l : List UInt8) (s : Nat) (h1 : 1 ≤ s) (h2 : s ≤ 1012) : Kp l s 0 (PS.new s 1048576) [] := by
  refine ⟨PS.ok_new (by unfold rightB; simp; omega), rfl, rfl, by unfold PS.new; simp, ?_⟩
  unfold PS.new PS.data pks
  simp
theorem Kp.len {l : List UInt8} {s i : Nat} {p : PS} {out : List UInt8} (h : Kp l s i p out) : out.length + p.left = (pks l i).flatten.length ∧ (pks l i).flatten.length ≤ 262 * i := by
  have h1 := congrArg List.length h.eq
  rw [List.length_append, data_len h.ok] at h1
  exact ⟨h1, pks_len l i⟩
theorem Kp.push {l : List UInt8} {s i : Nat} {p : PS} {out : List UInt8} (h : Kp l s i p out) (hi : i ≤ 60) : ∃ q, p.push (pkAt l i) = (q, 0) ∧ Kp l s (i + 1) q out := by
  obtain ⟨h1, h2⟩ := h.len
  have h3 := (pkAt_len l i).2
  obtain ⟨q, k1, k2, k3, k4, k5, k6⟩ := push_data p h.ok (pkAt l i) (pkAt_fit l i) (by rw [h.room]; omega)
  refine ⟨q, k1, by have := PS.ok_push h.ok (pkAt l i); rwa [k1] at this, by rw [k2, h.rest], by rw [k5, h.room], by rw [k4, h.size], ?_⟩
  rw [k3, ← List.append_assoc, h.eq, pks_succ, List.flatten_append]
  simp
theorem Kp.ready {l : List UInt8} {s i : Nat} {p : PS} {out : List UInt8} (h : Kp l s i p out) (hr : p.ready = true) : ∃ q o f, p.next = (q, some (o, f)) ∧ o.length = s ∧ Kp l s i q (out ++ o) := by
  unfold PS.ready at hr
  simp only [Bool.and_eq_true, decide_eq_true_eq] at hr
  rw [h.rest] at hr
  simp at hr
  obtain ⟨q, f, k1, k2, k3, k4, k5⟩ := (next_data p h.ok (by omega) h.rest).1 (by omega)
  refine ⟨q, _, f, k1, ?_, by have := PS.ok_next h.ok; rwa [k1] at this, k2, by rw [k5, h.room], by rw [k4, h.size], ?_⟩
  · rw [List.length_take, data_len h.ok, h.size]
    have := h.size
    omega
  · rw [k3, List.append_assoc, List.take_append_drop, h.eq]
/-- at the end -/
def Kend (l : List UInt8) (s n : Nat) (p : PS) (out : List UInt8) : Prop := p.Ok ∧ (Kp l s n p out ∨ p.left = 0 ∧ ∃ m, m ≤ 1012 ∧ out = (pks l n).flatten ++ tailP m)
theorem Kend.len {l : List UInt8} {s n : Nat} {p : PS} {out : List UInt8} (h : Kend l s n p out) (hn : n ≤ 60) : out.length ≤ 20000 := by
  have h2 := pks_len l n
  rcases h with ⟨-, h | ⟨-, m, hm, e⟩⟩
  · have := h.len; omega
  · rw [e, List.length_append, tailP_len]; omega
theorem Kend.next {l : List UInt8} {s n : Nat} {p : PS} {out : List UInt8} (h : Kend l s n p out) (hl : p.left ≠ 0) : ∃ q o f, p.next = (q, some (o, f)) ∧ o.length = s ∧ Kend l s n q (out ++ o) := by
  rcases h with ⟨ok, h | ⟨h, -⟩⟩
  · obtain ⟨d1, d2⟩ := next_data p h.ok hl h.rest
    have hsz := ok.size
    have hs := h.size
    by_cases hc : p.size ≤ p.left
    · obtain ⟨q, f, k1, k2, k3, k4, k5⟩ := d1 hc
      have okq : q.Ok := by have := PS.ok_next h.ok; rwa [k1] at this
      refine ⟨q, _, f, k1, ?_, okq, .inl ⟨okq, k2, by rw [k5, h.room], by rw [k4, h.size], ?_⟩⟩
      · rw [List.length_take, data_len h.ok, h.size]; omega
      · rw [k3, List.append_assoc, List.take_append_drop, h.eq]
    · obtain ⟨q, f, k1, k2⟩ := d2 (by omega)
      refine ⟨q, _, f, k1, ?_, by have := PS.ok_next h.ok; rwa [k1] at this, .inr ⟨k2, p.size - p.left, by omega, ?_⟩⟩
      · rw [List.length_append, List.length_take, idleN_len, data_len h.ok]; omega
      · rw [← List.append_assoc, h.eq]; rfl
  · exact absurd h hl
theorem Kend.done {l : List UInt8} {s n : Nat} {p : PS} {out : List UInt8} (h : Kend l s n p out) (hl : p.left = 0) : ∃ m, m ≤ 1012 ∧ out = (pks l n).flatten ++ tailP m := by
  rcases h with ⟨ok, h | ⟨-, h⟩⟩
  · have hd : p.data = [] := List.length_eq_zero_iff.1 (by rw [data_len ok, hl])
    refine ⟨0, by omega, ?_⟩
    have := h.eq
    rw [hd, List.append_nil] at this
    rw [this]
    simp [tailP]
  · exact h
/-! ### the contract of packets -/
def slen : Value → Nat
  | .slice _ n _ => n
  | _ => 0
theorem rdecode_n {a : Option Addr} {cap n : Nat} {l : List UInt8} {w : World} (hn : l.length = n) (hl : n ≤ maxLen) (hcap : n ≤ cap) (hcm : cap ≤ maxLen) (hb : BAt w a l) : Calls Try.prog 30 #[.slice a n cap] w (DQ w (decP l)) := by
  subst hn
  exact rdecode_any a cap l w hl hcap hcm hb
theorem BAt.drop {w : World} {b off : Nat} {l : List UInt8} (h : BAt w (some ⟨b, off, none⟩) l) (k : Nat) : BAt w (some ⟨b, off + k, none⟩) (l.drop k) := by
  have := h.sub k (l.length - k)
  rwa [List.take_of_length_le (by rw [List.length_drop]; exact Nat.le_refl _)] at this
set_option maxRecDepth 20000 in
set_option maxHeartbeats 4000000 in
theorem packets_any (E : List (List UInt8)) (m : Nat) (hE : ∀ x ∈ E, realP x) (hm : m ≤ 1012) (a : Option Addr) (cap n : Nat) (l : List UInt8) (w : World) (hl : l = E.flatten ++ tailP m) (hn : l.length = n) (hn9 : n ≤ 100000) (hb : BAt w a l) (hcap : n ≤ cap) (hcm : cap ≤ maxLen) :
    Calls Try.prog 15 #[.slice a n cap] w fun e w' => ∃ v, e = .returned (.tuple #[v, .bool true]) ∧ w'.ownsRow w.heap.size 5 1 v E.flatten.length (encB E.flatten) ∧ Below w.heap.size w w' := by
  obtain ⟨j0, hj, hy0, hy1, hy2⟩ := info_parts info5
  have HJ := Lib.hid hj
  have HL := Lib.hid hl
  have HB := Lib.hid hb
  have HN := Lib.hid hn
  have HE := Lib.hid hE
  clear hj hl hb hn hE
  go_enter Try.func15, Try.ntmps15
  go_wp2_with fail
  go_loopw [0, 4] (fun v0 v4 wr => ∃ (done F : List (List UInt8)) (m' : Nat) (r : List UInt8) (a' : Option Addr) (c' rn : Nat), v0 = .slice a' rn c' ∧ Hid (r.length = rn) ∧ Hid (r = F.flatten ++ tailP m') ∧ m' ≤ 1012 ∧ Hid (E = done ++ F) ∧ Hid (BAt w a' r) ∧ rn ≤ c' ∧ c' ≤ maxLen ∧ rn ≤ 100000 ∧ Hid (done.flatten.length ≤ 100000) ∧ Hid (done.flatten.length + rn ≤ 100000) ∧ Hid (wr.ownsRow w.heap.size 5 1 v4 done.flatten.length (encB done.flatten)) ∧ Hid (Below w.heap.size w wr)) (fun v0 _ _ => slen v0)
  case atStart => exact ⟨[], E, m, l, a, cap, n, rfl, HN, HL, hm, Lib.hid rfl, HB, hcap, hcm, hn9, Lib.hid (by simp), Lib.hid (by simpa using hn9), Lib.hid (World.ownsRow_nil _ _ _ _), Lib.hid (Below.refl _ _)⟩
  case round =>
    obtain ⟨done, F, m', r, a', c', rn, rfl, HRN, HR, hm', HEF, HBR0, hrc, hcm', hrn, HD9, HD, HO, HBW⟩ := hrel
    have HBR : Hid (BAt wr a' r) := Lib.hid (HBR0.out.below HBW.out (Nat.le_refl _))
    obtain ⟨dn, hdn⟩ : ∃ dn, dn = done.flatten.length := ⟨_, rfl⟩
    have HDN := Lib.hid hdn
    rw [← hdn] at HO HD HD9
    clear hdn
    obtain ⟨-, a4, c4, rfl, hc4, hm4, -⟩ := BAt.of_row (l := done.flatten) HO.out
    rw [← HDN.out] at HO hc4
    rw [← HDN.out]
    cases F with
    | nil =>
      have hed : E = done := by rw [HEF.out, List.append_nil]
      by_cases h0 : rn = 0
      · subst h0
        go_wp2_with fail
        go_ret2
        exact ⟨_, rfl, by rw [hed, ← HDN.out]; exact HO.out, HBW.out⟩
      · have e1 : (0 : Int) < (rn : Int) := by omega
        have e2 : 0 < rn := by omega
        have hrm : rn = m' := by rw [← HRN.out, HR.out]; simp [tailP_len]
        have hdc := tailP_dec m' hm' (by omega)
        have hrt : r = tailP m' := by rw [HR.out]; simp
        rw [← hrt] at hdc
        have HDC := Lib.hid hdc
        have HHED := Lib.hid hed
        by_cases h7 : m' < 7
        · have HDC2 : Hid (decP r = (zeroP, 0, 3)) := Lib.hid (by rw [hdc, if_pos h7])
          clear hdc hrt h0 hed hrm
          go_wp2_with fail
          refine (rdecode_n HRN.out (by unfold maxLen; omega) hrc hcm' HBR.out).mono ?_
          rw [HDC2.out]
          rintro e w3 ⟨a3, c3, rfl, -, -, -, hB3⟩
          dsimp only [Pk.val, zeroP]
          have HB3 := Lib.hid hB3
          clear hB3
          go_wp2_with fail
          go_ret2
          exact ⟨_, rfl, by rw [HHED.out, ← HDN.out]; exact (own_below HO.out HB3.out (Nat.le_refl _)).alloc _, (HBW.out.trans (HB3.out.mono HBW.out.size)).alloc (by have := HB3.out.size; have := HBW.out.size; omega) _⟩
        · have HDC2 : Hid (decP r = (idlePk (m' - 6), (m' : Int), 0)) := Lib.hid (by rw [hdc, if_neg h7])
          subst hrm
          clear hdc hrt h0 hed
          go_wp2_with fail
          refine (rdecode_n HRN.out (by unfold maxLen; omega) hrc hcm' HBR.out).mono ?_
          rw [HDC2.out]
          rintro e w3 ⟨a3, c3, rfl, -, -, -, hB3⟩
          dsimp only [Pk.val, idlePk]
          have HB3 := Lib.hid hB3
          clear hB3
          go_wp2_with fail
          go_roundw
          case rel => exact ⟨done, [], 0, [], _, _, _, rfl, Lib.hid rfl, Lib.hid (by simp [tailP]), by omega, HEF, Lib.hid (.inl rfl), by omega, by omega, by omega, Lib.hid (by rw [← HDN.out]; exact HD9.out), Lib.hid (by rw [← HDN.out]; exact HD9.out), Lib.hid (by rw [← HDN.out]; exact (own_below HO.out HB3.out (Nat.le_refl _)).alloc _), Lib.hid ((HBW.out.trans (HB3.out.mono HBW.out.size)).alloc (by have := HB3.out.size; have := HBW.out.size; omega) _)⟩
          case measure => simp [slen]; omega
    | cons x F =>
      have hx := HE.out x (by rw [HEF.out]; simp)
      have hx7 := hx.pos
      obtain ⟨q, hdq, hq1⟩ := hx.dec (r := F.flatten ++ tailP m')
      have hre : r = x ++ (F.flatten ++ tailP m') := by rw [HR.out, List.flatten_cons, List.append_assoc]
      rw [← hre] at hdq
      obtain ⟨qc, qs, qa, qf, qn, qd⟩ := q
      dsimp only at hq1
      subst hq1
      obtain ⟨m, hm⟩ : ∃ m, m = x.length := ⟨_, rfl⟩
      rw [← hm] at hdq hx7
      have hrn2 : rn = m + (F.flatten ++ tailP m').length := by rw [← HRN.out, hre, List.length_append, hm]
      have hmr : m ≤ rn := by omega
      have HHM := Lib.hid hm
      have HDQ := Lib.hid hdq
      have HRE := Lib.hid hre
      obtain ⟨g, o, rfl⟩ : ∃ g o, a' = some ⟨g, o, none⟩ := by
        rcases HBR.out with h9 | ⟨g, o, h9, -⟩
        · have := HRN.out; rw [h9] at this; simp at this; omega
        · exact ⟨g, o, h9⟩
      have e1 : (0 : Int) < (rn : Int) := by omega
      have e2 : 0 < rn := by omega
      have e3 : (m : Int) ≤ (c' : Int) := by omega
      have e4 : (0 : Int) ≤ (m : Int) := by omega
      have e5 : (m : Int) ≤ (rn : Int) := by omega
      have hdm : dn + m ≤ 100000 := by have := HD.out; omega
      clear hx hdq hre hm hrn2
      go_wp2_with fail
      refine (rdecode_n HRN.out (by unfold maxLen; omega) hrc hcm' HBR.out).mono ?_
      rw [HDQ.out]
      rintro e w3 ⟨a3, c3, rfl, -, -, -, hB3⟩
      dsimp only [Pk.val]
      have HB3 := Lib.hid hB3
      clear hB3
      go_upto_region 9 with fail
      obtain ⟨w4, hw4⟩ : ∃ w4, w4 = w3.alloc (.cells #[.bool qc, .bool qs, .int .i64 1, .int .i64 qf, .int .i64 qn, .slice a3 qd.length c3] 59) := ⟨_, rfl⟩
      rw [← hw4]
      have HB4 : Hid (Below wr.heap.size wr w4) := Lib.hid (by rw [hw4]; exact al HB3.out _)
      have hxt : r.take m = x := by rw [HRE.out, HHM.out]; simp
      have HXV : Hid (VAt w4 (some ⟨g, o, none⟩) (encB x)) := Lib.hid (by
        have := ((HBR.out.below HB4.out (Nat.le_refl _)).take m).vat
        rwa [hxt] at this)
      have HXL : Hid ((encB x).length = m) := Lib.hid (by rw [encB_length, HHM.out])
      have HO4 := Lib.hid (own_below HO.out HB4.out (Nat.le_refl _))
      have hs4 : w.heap.size ≤ w4.heap.size := by have := HBW.out.size; have := HB4.out.size; omega
      clear hw4 hxt
      go_wp2_with (at_builtin; refine wpList_append_src _ rfl (.tmp 26) (.tmp 29) 22 rfl w.heap.size 5 j0 (.int .u8 0) 1 Try.underlying22 HJ.out hy0 hy1 hy2 rfl _ dn (encB done.flatten) rfl HO4.out (some ⟨g, o, none⟩) m c' (encB x) rfl HXL.out HXV.out (encB_one _) (by unfold maxLen; omega) (by omega) hs4 ?_)
      intro v5 w5 hown hgrow hblk
      have HO5 := Lib.hid hown
      have hlt4 := HO4.out.lt
      have HB5 : Hid (Below w.heap.size w w5) := Lib.hid ((HBW.out.trans (HB4.out.mono HBW.out.size)).grown hgrow hs4 (fun k hk => (hlt4 k hk).1))
      have hbk : ∀ k, (Value.slice a4 dn c4).ownBlock = some k → w.heap.size ≤ k := fun k hk => (hlt4 k hk).1
      clear hown hlt4 hgrow hblk HO4 HXV
      have hcat : encB done.flatten ++ encB x = encB (done ++ [x]).flatten := by rw [List.flatten_append, encB_append]; simp
      have hcl : (done ++ [x]).flatten.length = dn + m := by rw [List.flatten_append, List.length_append, ← HDN.out, HHM.out]; simp
      rw [hcat] at HO5
      have HCL := Lib.hid hcl
      have HRL : Hid ((r.drop m).length = rn - m) := Lib.hid (by rw [List.length_drop, HRN.out])
      have HRD : Hid (r.drop m = F.flatten ++ tailP m') := Lib.hid (by rw [HRE.out, HHM.out]; simp)
      have HEE : Hid (E = (done ++ [x]) ++ F) := Lib.hid (by rw [HEF.out]; simp)
      have hd1 := HD.out
      have HD1 : Hid (dn + m + (rn - m) ≤ 100000) := Lib.hid (by omega)
      clear hcat hcl hd1
      by_cases hcm2 : c' = m
      · subst hcm2
        have HEM : Hid (r.drop c' = []) := Lib.hid (List.drop_eq_nil_of_le (by rw [HRN.out]; exact hrc))
        go_wp2_with fail
        go_roundw
        case rel => exact ⟨done ++ [x], F, m', r.drop c', _, _, _, rfl, Lib.hid (by rw [HEM.out]; rfl), HRD, hm', HEE, Lib.hid (.inl HEM.out), by omega, by omega, by omega, Lib.hid (by rw [HCL.out]; omega), Lib.hid (by rw [HCL.out]; omega), Lib.hid (by rw [HCL.out]; exact HO5.out), HB5⟩
        case measure => simp [slen]; omega
      · have hcm3 : ¬ (c' : Int) = (m : Int) := by omega
        have HRB : Hid (BAt w (some ⟨g, o + m, none⟩) (r.drop m)) := Lib.hid (HBR0.out.drop m)
        go_wp2_with fail
        go_roundw
        case rel => exact ⟨done ++ [x], F, m', r.drop m, _, _, _, rfl, HRL, HRD, hm', HEE, HRB, by omega, by omega, by omega, Lib.hid (by rw [HCL.out]; omega), Lib.hid (by rw [HCL.out]; exact HD1.out), Lib.hid (by rw [HCL.out]; exact HO5.out), HB5⟩
        case measure => simp [slen]; omega
end Go.Proofs.Ytalghcgedmcifaa

/- Helper facts for the chapter's laws. No condition. -/
import Derived.Test.YtnojmkmmfiahgaaUR
namespace Go.Proofs.Ytnojmkmmfiahgaa
open Go.RowKit Go.Deep Go.ChangeShapes Go.WideShapes Go.ChangeAt
set_option linter.unusedVariables false

theorem info3 : (Try.prog.info? 3).map (fun i => (i.zero, i.size, i.bytes)) = some (some (.int .i64 0), 1, 8) := by kernel_rfl
theorem lit1 (B : Nat) (w : World) (x : UInt8) (m : Nat × Nat) : AB B (w.alloc (.cells #[.int .u8 (x.toNat : Int)] 5 m)) (some ⟨w.heap.size, 0, none⟩) [x] := by
  refine ⟨.inr ⟨_, _, rfl, by simp, fun i hi => ?_⟩, fun q hq _ hk => ?_⟩
  · rw [Joins.cell_alloc_mark_at _ _ _ _ _ _ rfl]
    match i, hi with
    | 0, _ => rfl
  · cases hq
    obtain ⟨cs, t, m', h1, h2⟩ := hk.1
    rw [show (⟨w.heap.size, 0, none⟩ : Addr).block = w.heap.size from rfl, heap_alloc_new] at h1
    simp at h1
    obtain ⟨-, rfl, -⟩ := h1
    exact absurd h2 (by decide)
theorem tm_step {t0 t1 x i : Nat} (h : t1 = t0 + x % 16) (hx : x < 256) (ht : t1 ≤ 15 * (i + 1)) (hi : i ≤ 60) : wrap64 ((t0 : Int) + (wrap64 (x : Int)).tmod 16) = (t1 : Int) := by
  have q1 : wrap64 (x : Int) = (x : Int) := by unfold wrap64; omega
  have q2 : ((x : Int)).tmod 16 = ((x % 16 : Nat) : Int) := by rw [Int.tmod_eq_emod_of_nonneg (by omega)]; omega
  have q3 : (t0 : Int) + ((x % 16 : Nat) : Int) = (t1 : Int) := by omega
  rw [q1, q2, q3]
  unfold wrap64
  omega
/-- the times -/
def tms (l : List UInt8) (i : Nat) : List Value := (List.range i).map fun j => .int .i64 (tmS l (j + 1) : Int)
theorem tms_succ (l : List UInt8) (i : Nat) : tms l (i + 1) = tms l i ++ [.int .i64 (tmS l (i + 1) : Int)] := by
  unfold tms
  rw [List.range_succ, List.map_append]
  rfl
/-- a row of a kind that is not the recorder's grows -/
theorem RAt.aside {w w' : World} {B B' b n z : Nat} {r : RS} {vS v : Value} {Y : List SM} {t : TypeId} {xs : List Value} (h : RAt w B b r vS Y) (hO : w.ownsRow B' t z v n xs) (ht : t ≠ TE ∧ t ≠ TS ∧ t ≠ TR ∧ t ≠ PS ∧ t ≠ PE ∧ t ≠ 5) (hg : w.grownBy w' v.ownBlock) : RAt w' B b r vS Y := by
  have hn : ∀ k cs u m, w.heap[k]? = some (.cells cs u m) → u ≠ t → ¬ v.ownBlock = some k := fun k cs u m hk hu e => by
    obtain ⟨cs', hc⟩ := own_ty hO e
    rw [hk] at hc
    simp at hc
    exact hu hc.2.1
  refine h.fr (T := fun k => v.ownBlock = some k) ((Fr.refl _ _).grown hg (fun k e => .inl e)) (fun k cs e hc => hn k _ _ _ hc (fun e => ht.2.2.2.2.2 e.symm) e) (hn _ _ _ _ h.blk (fun e => ht.2.2.1 e.symm)) (fun k hk => ?_) (fun y hy => ?_)
  · obtain ⟨cs, hc⟩ := own_ty h.row hk
    exact hn _ _ _ _ hc (fun e => ht.2.2.2.1 e.symm)
  · obtain ⟨i, hi⟩ := List.mem_iff_getElem?.1 hy
    obtain ⟨s, -, h2⟩ := h.at hi
    refine ⟨hn _ _ _ _ h2.blk (fun e => ht.2.1 e.symm), fun k hk => ?_, fun g hg => ?_⟩
    · obtain ⟨cs, hc⟩ := off_ty h2.row hk
      exact hn _ _ _ _ hc (fun e => ht.2.2.2.2.1 e.symm)
    · obtain ⟨p, hp⟩ := List.mem_iff_getElem?.1 hg
      obtain ⟨e, vd, -, -, h3⟩ := RAt.en_at h2 hp
      exact hn _ _ _ _ h3.blk (fun e => ht.1 e.symm)
theorem one_ok {now : Int} {s : St} (hn : 0 ≤ now ∧ now ≤ 1099511627776) (hs : s.Ok) : (one now s).Ok := ⟨hn, show 1 ≤ 256 by decide, fun t ht => by
  simp [one] at ht
  subst ht
  exact hs⟩
theorem sT_ok {l : List UInt8} {w : Nat → Bool} {d n : Nat} (h : n ≤ 60) : (sT l w d n).Ok := by
  refine ⟨show (0 : Int) ≤ 1 ∧ (1 : Int) ≤ 65535 by decide, show (0 : Int) ≤ 1000 ∧ (1000 : Int) ≤ 2147483648 by decide, show (0 : Int) ≤ 0 ∧ (0 : Int) ≤ 15 by decide, ?_, fun x hx => ?_, fun x hx => ?_⟩
  · show ((lvl ((List.range' d (n - d)).map (eT l w)) : Nat) : Int) ≤ 1000
    rw [lvl_eT]
    simp
    omega
  · obtain ⟨j, hj, rfl⟩ := List.mem_map.1 (show x ∈ (List.range' d (n - d)).map (eT l w) from hx)
    exact ⟨Nat.le_refl _, show 1 ≤ 4096 by decide⟩
  · obtain ⟨j, hj, rfl⟩ := List.mem_map.1 (show x ∈ (List.range' d (n - d)).map (eT l w) from hx)
    have h1 := List.mem_range'_1.1 hj
    have h2 := tmS_le l (j + 1)
    exact ⟨by dsimp only [eT]; omega, by dsimp only [eT]; omega⟩
theorem rT_ok {l : List UInt8} {w : Nat → Bool} {d n i : Nat} (h : n ≤ 60) (hi : i ≤ 60) : (one (tmS l i : Int) (sT l w d n)).Ok :=
  one_ok (by have := tmS_le l i; omega) (sT_ok h)
theorem rT_drop {l : List UInt8} {w : Nat → Bool} {d n : Nat} {now : Int} : ∀ (i : Nat) (s : St), (one now (sT l w d n)).stores[i]? = some s → s.drop ≤ 4000000000000000000 := drop_of (fun s hs => by
  simp [one] at hs
  subst hs
  exact Nat.zero_le _)
theorem next_ex {w : World} {B b : Nat} {r r' : RS} {vS : Value} {Y : List SM} {l : List UInt8} (hk : r.next = (r', some l)) (h : RAt w B b r vS Y) (ok : r.Ok) : Calls Try.prog 13 #[.pointer (some ⟨b, 0, none⟩)] w fun e w' => ∃ a m c Y', e = .returned (.tuple #[.slice a m c, .bool true]) ∧ Hid (w'.ownsRow w.heap.size 5 1 (.slice a m c) l.length (encB l)) ∧ Hid (RAt w' B b r' vS Y') ∧ Hid (RF B w w') := by
  refine (next_any h ok).mono ?_
  unfold NQ
  rw [hk]
  rintro e w' ⟨⟨v, rfl, h1⟩, h2, Y', h3⟩
  obtain ⟨a, m, c, rfl⟩ := own_slice h1
  exact ⟨a, m, c, Y', rfl, Lib.hid h1, Lib.hid h3, Lib.hid h2⟩
theorem next_no {w : World} {B b : Nat} {r : RS} {vS : Value} {Y : List SM} (hk : r.next = (r, none)) (h : RAt w B b r vS Y) (ok : r.Ok) : Calls Try.prog 13 #[.pointer (some ⟨b, 0, none⟩)] w fun e w' => ∃ Y', e = .returned (.tuple #[.slice none 0 0, .bool false]) ∧ Hid (RAt w' B b r vS Y') ∧ Hid (RF B w w') := by
  refine (next_any h ok).mono ?_
  unfold NQ
  rw [hk]
  rintro e w' ⟨rfl, h2, Y', h3⟩
  exact ⟨Y', rfl, Lib.hid h3, Lib.hid h2⟩
theorem add_ex {w : World} {B b m cap : Nat} {r r' : RS} {vS : Value} {Y : List SM} {a : Option Addr} {l : List UInt8} {id now k : Int} (hk : r.add id now l = (r', k)) (h : RAt w B b r vS Y) (ok : r.Ok) (hb : AB B w a l) (hm : l.length = m) (hl : m ≤ 100000) (hdrop : ∀ (i : Nat) (s : St), r.stores[i]? = some s → s.drop ≤ 4000000000000000000) : Calls Try.prog 10 #[.pointer (some ⟨b, 0, none⟩), .int .i64 id, .int .i64 now, .slice a m cap] w fun e w' => ∃ Y', e = .returned (.int .i64 k) ∧ Hid (RAt w' B b r' vS Y') ∧ Hid (RF B w w') := by
  refine (add_any id now h ok hb hm hl hdrop).mono ?_
  rw [hk]
  rintro e w' ⟨h1, h2, Y', h3⟩
  exact ⟨Y', h1, Lib.hid h3, Lib.hid h2⟩
theorem del_ex {w : World} {B b : Nat} {r r' : RS} {vS : Value} {Y : List SM} {id t k : Int} (hk : r.delete id t = (r', k)) (h : RAt w B b r vS Y) (ok : r.Ok) : Calls Try.prog 15 #[.pointer (some ⟨b, 0, none⟩), .int .i64 id, .int .i64 t] w fun e w' => ∃ Y', e = .returned (.int .i64 k) ∧ Hid (RAt w' B b r' vS Y') ∧ Hid (RF B w w') := by
  refine (delete_any id t h ok).mono ?_
  rw [hk]
  rintro e w' ⟨h1, h2, Y', h3⟩
  exact ⟨Y', h1, Lib.hid h3, Lib.hid h2⟩
theorem rep_ex {w : World} {B b : Nat} {r r' : RS} {vS : Value} {Y : List SM} {id t u k : Int} (hk : r.replay id t u = (r', k)) (h : RAt w B b r vS Y) (ok : r.Ok) : Calls Try.prog 12 #[.pointer (some ⟨b, 0, none⟩), .int .i64 id, .int .i64 t, .int .i64 u] w fun e w' => ∃ Y', e = .returned (.int .i64 k) ∧ Hid (RAt w' B b r' vS Y') ∧ Hid (RF B w w') := by
  refine (replay_any id t u h ok).mono ?_
  rw [hk]
  rintro e w' ⟨h1, h2, Y', h3⟩
  exact ⟨Y', h1, Lib.hid h3, Lib.hid h2⟩
theorem next_byte {w : World} {B b : Nat} {r r' : RS} {vS : Value} {Y : List SM} {x : UInt8} (hk : r.next = (r', some [x])) (h : RAt w B b r vS Y) (ok : r.Ok) : Calls Try.prog 13 #[.pointer (some ⟨b, 0, none⟩)] w fun e w' => ∃ g off c Y', e = .returned (.tuple #[.slice (some ⟨g, off, none⟩) 1 c, .bool true]) ∧ 1 ≤ c ∧ w'.cell? ⟨g, off, none⟩ = some (.int .u8 (x.toNat : Int)) ∧ Hid (RAt w' B b r' vS Y') ∧ Hid (RF B w w') := by
  refine (next_ex hk h ok).mono ?_
  rintro e w' ⟨a, m, c, Y', rfl, h1, h2, h3⟩
  obtain ⟨-, a', c', he, hc, -, hb⟩ := BAt.of_row h1.out
  simp only [Value.slice.injEq] at he
  obtain ⟨rfl, rfl, rfl⟩ := he
  rcases hb with hb | ⟨g, off, rfl, -, hb⟩
  · cases hb
  · exact ⟨g, off, c, Y', rfl, hc, hb 0 (by simp), h2, h3⟩
theorem next_two {w : World} {B b : Nat} {r r' : RS} {vS : Value} {Y : List SM} {x y : UInt8} (hk : r.next = (r', some [x, y])) (h : RAt w B b r vS Y) (ok : r.Ok) : Calls Try.prog 13 #[.pointer (some ⟨b, 0, none⟩)] w fun e w' => ∃ g off c Y', e = .returned (.tuple #[.slice (some ⟨g, off, none⟩) 2 c, .bool true]) ∧ 2 ≤ c ∧ w'.cell? ⟨g, off, none⟩ = some (.int .u8 (x.toNat : Int)) ∧ w'.cell? ⟨g, off + 1, none⟩ = some (.int .u8 (y.toNat : Int)) ∧ Hid (RAt w' B b r' vS Y') ∧ Hid (RF B w w') := by
  refine (next_ex hk h ok).mono ?_
  rintro e w' ⟨a, m, c, Y', rfl, h1, h2, h3⟩
  obtain ⟨-, a', c', he, hc, -, hb⟩ := BAt.of_row h1.out
  simp only [Value.slice.injEq] at he
  obtain ⟨rfl, rfl, rfl⟩ := he
  rcases hb with hb | ⟨g, off, rfl, -, hb⟩
  · cases hb
  · exact ⟨g, off, c, Y', rfl, hc, hb 0 (by simp), hb 1 (by simp), h2, h3⟩
theorem lit1n (B : Nat) (w : World) {i : Nat} (m : Nat × Nat) (h : i < 256) : AB B (w.alloc (.cells #[.int .u8 (i : Int)] 5 m)) (some ⟨w.heap.size, 0, none⟩) [UInt8.ofNat i] := by
  have h1 := lit1 B w (UInt8.ofNat i) m
  rw [UInt8.toNat_ofNat', Nat.mod_eq_of_lt h] at h1
  exact h1
theorem lit2n (B : Nat) (w : World) {i k : Nat} (m : Nat × Nat) (h : i < 256) (hk : k < 256) : AB B (w.alloc (.cells #[.int .u8 (i : Int), .int .u8 (k : Int)] 5 m)) (some ⟨w.heap.size, 0, none⟩) [UInt8.ofNat i, UInt8.ofNat k] := by
  have h1 := lit2 B w (UInt8.ofNat i) (UInt8.ofNat k) m
  rw [UInt8.toNat_ofNat', UInt8.toNat_ofNat', Nat.mod_eq_of_lt h, Nat.mod_eq_of_lt hk] at h1
  exact h1
theorem times_delete {l : List UInt8} {n d t : Nat} {now : Int} (ht : t ≤ 255) (h : (sT l no 0 n).cut (t : Int) = sT l no d n) : (one now (sT l no 0 n)).delete 1 (t : Int) = (one now (sT l no d n), 0) := by
  rw [← h]
  exact one_delete now (t : Int) (sT l no 0 n) (by omega)
theorem times_replay {l : List UInt8} {n d t u : Nat} {now : Int} (hu : u ≤ 255) (htu : t ≤ u) : (one now (sT l no d n)).replay 1 (t : Int) (u : Int) = (one now (sT l (wT l t u 0) d n), 0) := by
  rw [← times_mark]
  exact one_replay now (t : Int) (u : Int) (sT l no d n) (by omega)
theorem RAt.hi {w : World} {B b : Nat} {r : RS} {vS : Value} {Y : List SM} (h : RAt w B b r vS Y) : B ≤ w.heap.size := Nat.le_trans h.lo (Nat.le_of_lt h.blk.lt)
end Go.Proofs.Ytnojmkmmfiahgaa

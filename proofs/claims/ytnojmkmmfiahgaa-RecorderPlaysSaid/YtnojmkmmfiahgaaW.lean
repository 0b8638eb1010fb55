/- Helper facts for RecorderKeeps. No condition. -/
import Derived.Test.YtnojmkmmfiahgaaV
namespace Go.Proofs.Ytnojmkmmfiahgaa
open Go.RowKit Go.Deep Go.ChangeShapes Go.WideShapes Go.ChangeAt
set_option linter.unusedVariables false

/-- a row of another kind, read from an offset on, stays -/
theorem RF.off {B B' : Nat} {w w' : World} {t : TypeId} {v : Value} {xs : List Value} (h : RF B w w') (hO : OffRow w B' t v xs) (ht : t ≠ TE ∧ t ≠ TS ∧ t ≠ TR ∧ t ≠ PS ∧ t ≠ PE) : OffRow w' B' t v xs :=
  hO.fr h (fun k hk hr => by
    obtain ⟨cs, hc⟩ := off_ty hO hk
    obtain ⟨cs', t', m, h2, h3⟩ := hr.1
    rw [hc] at h2
    simp at h2
    obtain ⟨-, h2, -⟩ := h2
    subst h2
    rcases h3 with e | e | e | e | e
    · exact ht.1 e
    · exact ht.2.1 e
    · exact ht.2.2.1 e
    · exact ht.2.2.2.1 e
    · exact ht.2.2.2.2 e)
theorem RAt.asideO {w w' : World} {B B' b : Nat} {r : RS} {vS v : Value} {Y : List SM} {t : TypeId} {xs : List Value} (h : RAt w B b r vS Y) (hO : OffRow w B' t v xs) (ht : t ≠ TE ∧ t ≠ TS ∧ t ≠ TR ∧ t ≠ PS ∧ t ≠ PE ∧ t ≠ 5) (hg : w.grownBy w' v.ownBlock) : RAt w' B b r vS Y := by
  have hn : ∀ k cs u m, w.heap[k]? = some (.cells cs u m) → u ≠ t → ¬ v.ownBlock = some k := fun k cs u m hk hu e => by
    obtain ⟨cs', hc⟩ := off_ty hO e
    rw [hk] at hc
    simp at hc
    exact hu hc.2.1
  refine h.fr (T := fun k => v.ownBlock = some k) ((Fr.refl _ _).grown hg (fun k e => .inl e)) (fun k cs e hc => hn k _ _ _ hc (fun e => ht.2.2.2.2.2 e.symm) e) (hn _ _ _ _ h.blk (fun e => ht.2.2.1 e.symm)) (fun k hk => ?_) (fun y hy => ?_)
  · obtain ⟨cs, hc⟩ := own_ty h.row hk
    exact hn _ _ _ _ hc (fun e => ht.2.2.2.1 e.symm)
  · obtain ⟨i, hi⟩ := List.mem_iff_getElem?.1 hy
    obtain ⟨s, -, h2⟩ := h.at hi
    refine ⟨hn _ _ _ _ h2.blk (fun e => ht.2.1 e.symm), fun k hk => ?_, fun g hg => ?_⟩
    · obtain ⟨cs, hc⟩ := off_ty h2.row hk
      exact hn _ _ _ _ hc (fun e => ht.2.2.2.2.1 e.symm)
    · obtain ⟨p, hp⟩ := List.mem_iff_getElem?.1 hg
      obtain ⟨e, vd, -, -, h3⟩ := RAt.en_at h2 hp
      exact hn _ _ _ _ h3.blk (fun e => ht.1 e.symm)
theorem keeps_bytes (L : List En) (k : Nat) : (L.drop k).map (·.data) = (L.map (·.data)).drop k := List.map_drop
theorem lvl_head {L : List En} {k : Nat} {x : En} (h : L[k]? = some x) : lvl (L.drop k) = x.data.length + lvl (L.drop (k + 1)) := by
  obtain ⟨hlt, rfl⟩ := List.getElem?_eq_some_iff.1 h
  rw [List.drop_eq_getElem_cons hlt]
  rfl
theorem sK_ok {room : Int} {circ : Bool} {L : List En} {d : Nat} (hr : 0 ≤ room ∧ room ≤ 255) (hK : KL L) (hl : (lvl L : Int) ≤ room) (he : ∀ x ∈ L, 1 ≤ x.data.length ∧ x.data.length ≤ 20) : (sK room circ L d).Ok :=
  ⟨show (0 : Int) ≤ 1 ∧ (1 : Int) ≤ 65535 by decide, by show 0 ≤ room ∧ room ≤ 2147483648; omega, show (0 : Int) ≤ 0 ∧ (0 : Int) ≤ 15 by decide, hl, fun x hx => by have := he x hx; omega, fun x hx => by have := hK x hx; omega⟩
theorem rK_ok {now : Nat} {room : Int} {circ : Bool} {L : List En} {d : Nat} (hn : now ≤ 60) (hr : 0 ≤ room ∧ room ≤ 255) (hK : KL L) (hl : (lvl L : Int) ≤ room) (he : ∀ x ∈ L, 1 ≤ x.data.length ∧ x.data.length ≤ 20) : (one (now : Int) (sK room circ L d)).Ok :=
  one_ok (by omega) (sK_ok hr hK hl he)
theorem wK_ok {now : Nat} {room : Int} {circ : Bool} {L : List En} {d i : Nat} (hn : now ≤ 60) (hr : 0 ≤ room ∧ room ≤ 255) (hK : KL L) (hl : (lvl L : Int) ≤ room) (he : ∀ x ∈ L, 1 ≤ x.data.length ∧ x.data.length ≤ 20) : (one (now : Int) (sK room circ (wantK L i) d)).Ok := by
  have hg : ∀ x ∈ wantK L i, ∃ y ∈ L, x.data = y.data ∧ x.time = y.time := fun x hx => by
    obtain ⟨j, hj⟩ := List.mem_iff_getElem?.1 hx
    rw [wantK_get] at hj
    obtain ⟨y, hy, rfl⟩ := Option.map_eq_some_iff.1 hj
    exact ⟨y, List.mem_of_getElem? hy, rfl, rfl⟩
  refine one_ok (by omega) ⟨show (0 : Int) ≤ 1 ∧ (1 : Int) ≤ 65535 by decide, by show 0 ≤ room ∧ room ≤ 2147483648; omega, show (0 : Int) ≤ 0 ∧ (0 : Int) ≤ 15 by decide, ?_, fun x hx => ?_, fun x hx => ?_⟩
  · show ((lvl (wantK L i) : Nat) : Int) ≤ room
    rw [lvl_wantK]
    exact hl
  · obtain ⟨y, hy, e1, e2⟩ := hg x hx
    rw [e1]
    have := he y hy
    omega
  · obtain ⟨y, hy, e1, e2⟩ := hg x hx
    rw [e2]
    have := hK y hy
    omega
theorem sK_drop {now room : Int} {circ : Bool} {L : List En} {d : Nat} (h : d ≤ 4000) : ∀ (i : Nat) (s : St), (one now (sK room circ L d)).stores[i]? = some s → s.drop ≤ 4000000000000000000 := drop_of (fun s hs => by
  simp [one] at hs
  subst hs
  show d ≤ _
  omega)
theorem keeps_rep {now u : Int} {room : Int} {circ : Bool} {L : List En} {d : Nat} (h : KL L) (hu : 100 ≤ u) (hu2 : u ≤ 1099511627776) : (one now (sK room circ L d)).replay 1 0 u = (one now (sK room circ (wantK L 0) d), 0) := by
  rw [← keeps_mark h u hu]
  exact one_replay now 0 u (sK room circ L d) (by omega)
theorem keeps_rep2 {now u : Int} {room : Int} {circ : Bool} {L : List En} {d : Nat} (hu : 100 ≤ u) (hu2 : u ≤ 1099511627776) : (one now (sK room circ (wantK L 0) d)).replay 1 0 u = (one now (sK room circ (wantK L 0) d), 0) := by
  have h9 := one_replay now 0 u (sK room circ (wantK L 0) d) (by omega)
  rw [keeps_mark2] at h9
  exact h9
theorem lvl_len20 {L : List En} (he : ∀ x ∈ L, 1 ≤ x.data.length ∧ x.data.length ≤ 20) : L.length ≤ lvl L :=
  lvl_len (fun x hx => by have := he x hx; omega)
end Go.Proofs.Ytnojmkmmfiahgaa

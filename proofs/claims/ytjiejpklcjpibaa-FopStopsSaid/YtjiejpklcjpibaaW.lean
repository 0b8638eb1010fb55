/- The end of FopStops: what Unlock does; the law's last region. No condition. -/
import Derived.Test.YtjiejpklcjpibaaT
import Derived.Test.YtjiejpklcjpibaaU
namespace Go.Proofs.Ytjiejpklcjpibaa
open Go.RowKit Go.Deep Go.ChangeShapes Go.WideShapes Go.ChangeAt
set_option linter.unusedVariables false

theorem fin_plain {f : FS} (ok : f.Ok) (h1 : f.state = 4) (h2 : f.craft = 5) (h3 : f.chan = 1) (h4 : f.acked = 0) (h5 : 1 ≤ f.units.length) (h6 : f.ctls = []) :
    ∃ g1 g2 g3 g4 g5 d, f.next 9999 = (g1, none) ∧ g1.unlock 9999 = g2 ∧ g2.next 9999 = (g3, some (Fm.unlock 5 1)) ∧ g3.next 9999 = (g4, some (Fm.setNext 5 1 0)) ∧ g4.next 9999 = (g5, some ⟨false, false, 5, 1, 0, d⟩) ∧ g2.Ok ∧ g3.Ok ∧ g4.Ok ∧ g2.acked = 0 ∧ g3.acked = 0 ∧ g4.acked = 0 ∧ g5.state = 1 := by
  have e1 : f.next 9999 = (f.clock 9999, none) := by
    unfold FS.next
    rw [FS.step_nil (show (f.clock 9999).ctls = [] from h6), if_pos (.inl (show f.state ≠ 1 by omega))]
  obtain ⟨g1, hg1⟩ : ∃ g1, g1 = f.clock 9999 := ⟨_, rfl⟩
  have o1 : g1.Ok := by rw [hg1]; exact FS.ok_clock ok _
  obtain ⟨c, hc⟩ : ∃ c, c = g1.clock 9999 := ⟨_, rfl⟩
  have oc : c.Ok := by rw [hc]; exact FS.ok_clock o1 _
  have c2 : c.craft = 5 := by rw [hc, hg1]; exact h2
  have c3 : c.chan = 1 := by rw [hc, hg1]; exact h3
  have c4 : c.acked = 0 := by rw [hc, hg1]; exact h4
  have c5 : 1 ≤ c.units.length := by rw [hc, hg1]; exact h5
  obtain ⟨g2, hg2⟩ : ∃ g2, g2 = g1.unlock 9999 := ⟨_, rfl⟩
  have e2 : g2 = c.unlk := by rw [hg2, hc]; rfl
  have o2 : g2.Ok := by rw [hg2]; exact FS.ok_unlock o1 _
  have k2 : g2.ctls = [Fm.unlock 5 1, Fm.setNext 5 1 0] := by rw [e2]; show [Fm.unlock c.craft c.chan, Fm.setNext c.craft c.chan (c.acked % 256)] = _; rw [c2, c3, c4]
  have e3 : g2.next 9999 = ({ g2.clock 9999 with ctls := [Fm.setNext 5 1 0] }, some (Fm.unlock 5 1)) := by
    unfold FS.next FS.step
    rw [show (g2.clock 9999).ctls = [Fm.unlock 5 1, Fm.setNext 5 1 0] from k2]
  obtain ⟨g3, hg3⟩ : ∃ g3, g3 = { g2.clock 9999 with ctls := [Fm.setNext 5 1 0] } := ⟨_, rfl⟩
  rw [← hg3] at e3
  have o3 : g3.Ok := by have := FS.ok_next o2 9999; rwa [e3] at this
  have k3 : g3.ctls = [Fm.setNext 5 1 0] := by rw [hg3]
  have e4 : g3.next 9999 = ({ g3.clock 9999 with ctls := [] }, some (Fm.setNext 5 1 0)) := by
    unfold FS.next FS.step
    rw [show (g3.clock 9999).ctls = [Fm.setNext 5 1 0] from k3]
  obtain ⟨g4, hg4⟩ : ∃ g4, g4 = { g3.clock 9999 with ctls := [] } := ⟨_, rfl⟩
  rw [← hg4] at e4
  have o4 : g4.Ok := by have := FS.ok_next o3 9999; rwa [e4] at this
  have k4 : g4.ctls = [] := by rw [hg4]
  obtain ⟨v, hv⟩ : ∃ v, v = g4.clock 9999 := ⟨_, rfl⟩
  have v1 : v.ctls = [] := by rw [hv]; exact k4
  have v2 : v.state = 1 := by rw [hv, hg4, hg3, e2]; rfl
  have v3 : v.flight = 0 := by rw [hv, hg4, hg3, e2]; rfl
  have v4 : v.acked = 0 := by rw [hv, hg4, hg3, e2]; exact c4
  have v5 : v.units = c.units := by rw [hv, hg4, hg3, e2]; rfl
  have v6 : v.craft = 5 := by rw [hv, hg4, hg3, e2]; exact c2
  have v7 : v.chan = 1 := by rw [hv, hg4, hg3, e2]; exact c3
  have v8 : v.size = c.size := by rw [hv, hg4, hg3, e2]; rfl
  have hz := oc.size
  have e5 : g4.next 9999 = (v.take.1, some ⟨false, false, 5, 1, 0, v.units.getD 0 []⟩) := by
    unfold FS.next
    rw [← hv, FS.step_nil v1, if_neg, if_pos (by rw [v3, v5, v8]; omega)]
    · unfold FS.some FS.take
      dsimp only
      rw [v3, v4, v6, v7]
      rfl
    · rw [v2, v5]
      rintro (h | h)
      · exact h rfl
      · rw [h] at c5; simp at c5
  refine ⟨g1, g2, g3, g4, v.take.1, _, by rw [hg1]; exact e1, hg2.symm, e3, e4, e5, o2, o3, o4, ?_, ?_, ?_, v2⟩
  · rw [e2]; exact c4
  · rw [hg3, e2]; exact c4
  · rw [hg4, hg3, e2]; exact c4
def EndT (w : World) (px py pz : Nat) (ax ay az : Option Addr) (cx cy cz nz : Nat) : Prop :=
  Blk w px 33 [.bool true, .bool true, .int .i64 5, .int .i64 1, .int .i64 0, .slice ax 1 cx] ∧ Blk w py 33 [.bool true, .bool true, .int .i64 5, .int .i64 1, .int .i64 0, .slice ay 3 cy] ∧ Blk w pz 33 [.bool false, .bool false, .int .i64 5, .int .i64 1, .int .i64 0, .slice az nz cz] ∧ BAt w ax [0] ∧ BAt w ay [130, 0, 0]
section
variable {w w' : World} {px py pz : Nat} {ax ay az : Option Addr} {cx cy cz nz : Nat}
theorem EndT.below (h : EndT w px py pz ax ay az cx cy cz nz) (hB : Below w.heap.size w w') : EndT w' px py pz ax ay az cx cy cz nz := by
  obtain ⟨h1, h2, h3, h4, h5⟩ := h
  have hl := Nat.le_refl w.heap.size
  exact ⟨h1.below hB hl, h2.below hB hl, h3.below hB hl, h4.below hB hl, h5.below hB hl⟩
theorem endT (h : EndT w px py pz ax ay az cx cy cz nz) : w.cell? ⟨px, 0, none⟩ = some (.bool true) ∧ w.cell? ⟨px, 1, none⟩ = some (.bool true) ∧ w.cell? ⟨px, 2, none⟩ = some (.int .i64 5) ∧ w.cell? ⟨px, 3, none⟩ = some (.int .i64 1) ∧ w.cell? ⟨px, 4, none⟩ = some (.int .i64 0) ∧ w.cell? ⟨px, 5, none⟩ = some (.slice ax 1 cx) ∧ w.cell? ⟨py, 0, none⟩ = some (.bool true) ∧ w.cell? ⟨py, 1, none⟩ = some (.bool true) ∧ w.cell? ⟨py, 2, none⟩ = some (.int .i64 5) ∧ w.cell? ⟨py, 3, none⟩ = some (.int .i64 1) ∧ w.cell? ⟨py, 4, none⟩ = some (.int .i64 0) ∧ w.cell? ⟨py, 5, none⟩ = some (.slice ay 3 cy) ∧ w.cell? ⟨pz, 4, none⟩ = some (.int .i64 0) ∧ w.cell? ⟨pz, 1, none⟩ = some (.bool false) := by
  obtain ⟨h1, h2, h3, h4, h5⟩ := h
  exact ⟨h1.at 0 rfl, h1.at 1 rfl, h1.at 2 rfl, h1.at 3 rfl, h1.at 4 rfl, h1.at 5 rfl, h2.at 0 rfl, h2.at 1 rfl, h2.at 2 rfl, h2.at 3 rfl, h2.at 4 rfl, h2.at 5 rfl, h3.at 4 rfl, h3.at 1 rfl⟩
end
noncomputable def o_st : Array Oper := opsIn 25 Try.f5
theorem ns_st : Region.noSelect o_st = true := by kernel_rfl
theorem n_st : o_st.size = 44 := by kernel_rfl
def l_st_0 : Array Bool := #[false, false, false, false, false, false, false, false, false, false, false, false, false, false, false, false, false, false, false, false, false, false, false, false, false, false, false, false, false, false, false, false, false, false, false, false, false, false, false, false, false, false, false, false]
def l_st_1 : Array Bool := #[true, false, false, false, false, false, false, false, false, false, false, false, false, false, false, false, false, false, false, false, false, false, false, false, false, false, false, false, false, false, false, false, false, false, false, false, false, false, false, false, false, false, false, false]
def l_st_2 : Array Bool := #[true, true, false, false, false, false, false, false, false, false, false, false, false, false, false, false, false, false, false, false, false, false, false, false, false, false, false, false, false, false, false, false, false, false, false, false, false, false, false, false, false, false, false, false]
def l_st_3 : Array Bool := #[true, true, true, false, false, false, false, false, false, false, false, false, false, false, false, false, false, false, false, false, false, false, false, false, false, false, false, false, false, false, false, false, false, false, false, false, false, false, false, false, false, false, false, false]
def l_st_4 : Array Bool := #[true, true, true, true, false, false, false, false, false, false, false, false, false, false, false, false, false, false, false, false, false, false, false, false, false, false, false, false, false, false, false, false, false, false, false, false, false, false, false, false, false, false, false, false]
def l_st_5 : Array Bool := #[true, true, true, true, true, false, false, false, false, false, false, false, false, false, false, false, false, false, false, false, false, false, false, false, false, false, false, false, false, false, false, false, false, false, false, false, false, false, false, false, false, false, false, false]
def l_st_6 : Array Bool := #[true, true, true, true, true, true, false, false, false, false, false, false, false, false, false, false, false, false, false, false, false, false, false, false, false, false, false, false, false, false, false, false, false, false, false, false, false, false, false, false, false, false, false, false]
def l_st_7 : Array Bool := #[true, true, true, true, true, true, true, false, false, false, false, false, false, false, false, false, false, false, false, false, false, false, false, false, false, false, false, false, false, false, false, false, false, false, false, false, false, false, false, false, false, false, false, false]
def l_st_8 : Array Bool := #[true, true, true, true, true, true, true, true, false, false, false, false, false, false, false, false, false, false, false, false, false, false, false, false, false, false, false, false, false, false, false, false, false, false, false, false, false, false, false, false, false, false, false, false]
def l_st_9 : Array Bool := #[true, true, true, true, true, true, true, true, true, false, false, false, false, false, false, false, false, false, false, false, false, false, false, false, false, false, false, false, false, false, false, false, false, false, false, false, false, false, false, false, false, false, false, false]
def l_st_10 : Array Bool := #[true, true, true, true, true, true, true, true, true, true, false, false, false, false, false, false, false, false, false, false, false, false, false, false, false, false, false, false, false, false, false, false, false, false, false, false, false, false, false, false, false, false, false, false]
def l_st_11 : Array Bool := #[true, true, true, true, true, true, true, true, true, true, true, false, false, false, false, false, false, false, false, false, false, false, false, false, false, false, false, false, false, false, false, false, false, false, false, false, false, false, false, false, false, false, false, false]
def l_st_12 : Array Bool := #[true, true, true, true, true, true, true, true, true, true, true, true, false, false, false, false, false, false, false, false, false, false, false, false, false, false, false, false, false, false, false, false, false, false, false, false, false, false, false, false, false, false, false, false]
def l_st_13 : Array Bool := #[true, true, true, true, true, true, true, true, true, true, true, true, true, false, false, false, false, false, false, false, false, false, false, false, false, false, false, false, false, false, false, false, false, false, false, false, false, false, false, false, false, false, false, false]
def l_st_14 : Array Bool := #[true, true, true, true, true, true, true, true, true, true, true, true, true, true, false, false, false, false, false, false, false, false, false, false, false, false, false, false, false, false, false, false, false, false, false, false, false, false, false, false, false, false, false, false]
def l_st_15 : Array Bool := #[true, true, true, true, true, true, true, true, true, true, true, true, true, true, true, false, false, false, false, false, false, false, false, false, false, false, false, false, false, false, false, false, false, false, false, false, false, false, false, false, false, false, false, false]
def l_st_16 : Array Bool := #[true, true, true, true, true, true, true, true, true, true, true, true, true, true, true, true, false, false, false, false, false, false, false, false, false, false, false, false, false, false, false, false, false, false, false, false, false, false, false, false, false, false, false, false]
def l_st_17 : Array Bool := #[true, true, true, true, true, true, true, true, true, true, true, true, true, true, true, true, true, false, false, false, false, false, false, false, false, false, false, false, false, false, false, false, false, false, false, false, false, false, false, false, false, false, false, false]
def l_st_18 : Array Bool := #[true, true, true, true, true, true, true, true, true, true, true, true, true, true, true, true, true, true, false, false, false, false, false, false, false, false, false, false, false, false, false, false, false, false, false, false, false, false, false, false, false, false, false, false]
def l_st_19 : Array Bool := #[true, true, true, true, true, true, true, true, true, true, true, true, true, true, true, true, true, true, true, false, false, false, false, false, false, false, false, false, false, false, false, false, false, false, false, false, false, false, false, false, false, false, false, false]
def l_st_20 : Array Bool := #[true, true, true, true, true, true, true, true, true, true, true, true, true, true, true, true, true, true, true, true, false, false, false, false, false, false, false, false, false, false, false, false, false, false, false, false, false, false, false, false, false, false, false, false]
def l_st_21 : Array Bool := #[true, true, true, true, true, true, true, true, true, true, true, true, true, true, true, true, true, true, true, true, true, false, false, false, false, false, false, false, false, false, false, false, false, false, false, false, false, false, false, false, false, false, false, false]
def l_st_22 : Array Bool := #[true, true, true, true, true, true, true, true, true, true, true, true, true, true, true, true, true, true, true, true, true, true, false, false, false, false, false, false, false, false, false, false, false, false, false, false, false, false, false, false, false, false, false, false]
def l_st_23 : Array Bool := #[true, true, true, true, true, true, true, true, true, true, true, true, true, true, true, true, true, true, true, true, true, true, true, false, false, false, false, false, false, false, false, false, false, false, false, false, false, false, false, false, false, false, false, false]
def l_st_24 : Array Bool := #[true, true, true, true, true, true, true, true, true, true, true, true, true, true, true, true, true, true, true, true, true, true, true, true, false, false, false, false, false, false, false, false, false, false, false, false, false, false, false, false, false, false, false, false]
def l_st_25 : Array Bool := #[true, true, true, true, true, true, true, true, true, true, true, true, true, true, true, true, true, true, true, true, true, true, true, true, true, false, false, false, false, false, false, false, false, false, false, false, false, false, false, false, false, false, false, false]
def l_st_26 : Array Bool := #[true, true, true, true, true, true, true, true, true, true, true, true, true, true, true, true, true, true, true, true, true, true, true, true, true, true, false, false, false, false, false, false, false, false, false, false, false, false, false, false, false, false, false, false]
def l_st_27 : Array Bool := #[true, true, true, true, true, true, true, true, true, true, true, true, true, true, true, true, true, true, true, true, true, true, true, true, true, true, true, false, false, false, false, false, false, false, false, false, false, false, false, false, false, false, false, false]
def l_st_28 : Array Bool := #[true, true, true, true, true, true, true, true, true, true, true, true, true, true, true, true, true, true, true, true, true, true, true, true, true, true, true, true, false, false, false, false, false, false, false, false, false, false, false, false, false, false, false, false]
def l_st_29 : Array Bool := #[true, true, true, true, true, true, true, true, true, true, true, true, true, true, true, true, true, true, true, true, true, true, true, true, true, true, true, true, true, false, false, false, false, false, false, false, false, false, false, false, false, false, false, false]
def l_st_30 : Array Bool := #[true, true, true, true, true, true, true, true, true, true, true, true, true, true, true, true, true, true, true, true, true, true, true, true, true, true, true, true, true, true, false, false, false, false, false, false, false, false, false, false, false, false, false, false]
def l_st_31 : Array Bool := #[true, true, true, true, true, true, true, true, true, true, true, true, true, true, true, true, true, true, true, true, true, true, true, true, true, true, true, true, true, true, true, false, false, false, false, false, false, false, false, false, false, false, false, false]
def l_st_32 : Array Bool := #[true, true, true, true, true, true, true, true, true, true, true, true, true, true, true, true, true, true, true, true, true, true, true, true, true, true, true, true, true, true, true, true, false, false, false, false, false, false, false, false, false, false, false, false]
def l_st_33 : Array Bool := #[true, true, true, true, true, true, true, true, true, true, true, true, true, true, true, true, true, true, true, true, true, true, true, true, true, true, true, true, true, true, true, true, true, false, false, false, false, false, false, false, false, false, false, false]
def l_st_34 : Array Bool := #[true, true, true, true, true, true, true, true, true, true, true, true, true, true, true, true, true, true, true, true, true, true, true, true, true, true, true, true, true, true, true, true, true, true, false, false, false, false, false, false, false, false, false, false]
def l_st_35 : Array Bool := #[true, true, true, true, true, true, true, true, true, true, true, true, true, true, true, true, true, true, true, true, true, true, true, true, true, true, true, true, true, true, true, true, true, true, true, false, false, false, false, false, false, false, false, false]
def l_st_36 : Array Bool := #[true, true, true, true, true, true, true, true, true, true, true, true, true, true, true, true, true, true, true, true, true, true, true, true, true, true, true, true, true, true, true, true, true, true, true, true, false, false, false, false, false, false, false, false]
def l_st_37 : Array Bool := #[true, true, true, true, true, true, true, true, true, true, true, true, true, true, true, true, true, true, true, true, true, true, true, true, true, true, true, true, true, true, true, true, true, true, true, true, true, false, false, false, false, false, false, false]
def l_st_38 : Array Bool := #[true, true, true, true, true, true, true, true, true, true, true, true, true, true, true, true, true, true, true, true, true, true, true, true, true, true, true, true, true, true, true, true, true, true, true, true, true, true, false, false, false, false, false, false]
def l_st_39 : Array Bool := #[true, true, true, true, true, true, true, true, true, true, true, true, true, true, true, true, true, true, true, true, true, true, true, true, true, true, true, true, true, true, true, true, true, true, true, true, true, true, true, false, false, false, false, false]
def l_st_40 : Array Bool := #[true, true, true, true, true, true, true, true, true, true, true, true, true, true, true, true, true, true, true, true, true, true, true, true, true, true, true, true, true, true, true, true, true, true, true, true, true, true, true, true, false, false, false, false]
def l_st_41 : Array Bool := #[true, true, true, true, true, true, true, true, true, true, true, true, true, true, true, true, true, true, true, true, true, true, true, true, true, true, true, true, true, true, true, true, true, true, true, true, true, true, true, true, true, false, false, false]
def l_st_42 : Array Bool := #[true, true, true, true, true, true, true, true, true, true, true, true, true, true, true, true, true, true, true, true, true, true, true, true, true, true, true, true, true, true, true, true, true, true, true, true, true, true, true, true, true, true, false, false]
def l_st_43 : Array Bool := #[true, true, true, true, true, true, true, true, true, true, true, true, true, true, true, true, true, true, true, true, true, true, true, true, true, true, true, true, true, true, true, true, true, true, true, true, true, true, true, true, true, true, true, false]
def l_st_44 : Array Bool := #[true, true, true, true, true, true, true, true, true, true, true, true, true, true, true, true, true, true, true, true, true, true, true, true, true, true, true, true, true, true, true, true, true, true, true, true, true, true, true, true, true, true, true, true]
theorem z_st : Array.replicate 44 false = l_st_0 := by kernel_rfl
theorem i_st_0 : o_st[0]? = some (Oper.mk (some 113) (Op.move (Operand.tmp 17)) 4 "law.go:213" #[] none) := by kernel_rfl
theorem i_st_1 : o_st[1]? = some (Oper.mk (some 114) (Op.unOp UnOp.not 4 (Operand.tmp 113)) 4 "law.go:213" #[Edge.mk 0 Ground.data] none) := by kernel_rfl
theorem i_st_2 : o_st[2]? = some (Oper.mk (some 115) (Op.move (Operand.tmp 114)) 4 "law.go:213" #[Edge.mk 1 Ground.data] none) := by kernel_rfl
theorem i_st_3 : o_st[3]? = some (Oper.mk (some 116) (Op.move (Operand.tmp 18)) 27 "law.go:213" #[Edge.mk 2 Ground.guard] (some (2, true))) := by kernel_rfl
theorem i_st_4 : o_st[4]? = some (Oper.mk (some 117) (Op.binOp BinOp.eql 27 (Operand.tmp 116) (Operand.const (Value.int IntKind.i64 0)) 27) 4 "law.go:213" #[Edge.mk 3 Ground.data, Edge.mk 2 Ground.guard] (some (2, true))) := by kernel_rfl
theorem i_st_5 : o_st[5]? = some (Oper.mk (some 118) (Op.pick (Operand.tmp 115) (Operand.tmp 117) (Operand.const (Value.bool false))) 4 "law.go:213" #[Edge.mk 2 Ground.data, Edge.mk 4 Ground.data] none) := by kernel_rfl
theorem i_st_6 : o_st[6]? = some (Oper.mk (some 119) (Op.move (Operand.tmp 118)) 4 "law.go:213" #[Edge.mk 5 Ground.data, Edge.mk 2 Ground.chain] none) := by kernel_rfl
theorem i_st_7 : o_st[7]? = some (Oper.mk (some 120) (Op.move (Operand.tmp 20)) 4 "law.go:213" #[Edge.mk 6 Ground.guard] (some (6, true))) := by kernel_rfl
theorem i_st_8 : o_st[8]? = some (Oper.mk (some 121) (Op.pick (Operand.tmp 119) (Operand.tmp 120) (Operand.const (Value.bool false))) 4 "law.go:213" #[Edge.mk 6 Ground.data, Edge.mk 7 Ground.data] none) := by kernel_rfl
theorem i_st_9 : o_st[9]? = some (Oper.mk (some 122) (Op.move (Operand.tmp 121)) 4 "law.go:213" #[Edge.mk 8 Ground.data, Edge.mk 6 Ground.chain] none) := by kernel_rfl
theorem i_st_10 : o_st[10]? = some (Oper.mk (some 123) (Op.move (Operand.tmp 22)) 4 "law.go:213" #[Edge.mk 9 Ground.guard] (some (9, true))) := by kernel_rfl
theorem i_st_11 : o_st[11]? = some (Oper.mk (some 124) (Op.pick (Operand.tmp 122) (Operand.tmp 123) (Operand.const (Value.bool false))) 4 "law.go:213" #[Edge.mk 9 Ground.data, Edge.mk 10 Ground.data] none) := by kernel_rfl
theorem i_st_12 : o_st[12]? = some (Oper.mk (some 125) (Op.move (Operand.tmp 124)) 4 "law.go:213" #[Edge.mk 11 Ground.data, Edge.mk 9 Ground.chain] none) := by kernel_rfl
theorem i_st_13 : o_st[13]? = some (Oper.mk (some 126) (Op.move (Operand.tmp 24)) 4 "law.go:213" #[Edge.mk 12 Ground.guard] (some (12, true))) := by kernel_rfl
theorem i_st_14 : o_st[14]? = some (Oper.mk (some 127) (Op.pick (Operand.tmp 125) (Operand.tmp 126) (Operand.const (Value.bool false))) 4 "law.go:213" #[Edge.mk 12 Ground.data, Edge.mk 13 Ground.data] none) := by kernel_rfl
theorem i_st_15 : o_st[15]? = some (Oper.mk (some 128) (Op.move (Operand.tmp 127)) 4 "law.go:213" #[Edge.mk 14 Ground.data, Edge.mk 12 Ground.chain] none) := by kernel_rfl
theorem i_st_16 : o_st[16]? = some (Oper.mk (some 129) (Op.load 33 (Operand.tmp 19)) 33 "law.go:213" #[Edge.mk 15 Ground.guard] (some (15, true))) := by kernel_rfl
theorem i_st_17 : o_st[17]? = some (Oper.mk (some 130) (Op.call (Call.mk (Callee.value (Operand.func 21)) #[Operand.const (Value.int IntKind.i64 5), Operand.const (Value.int IntKind.i64 1)] #[3, 3])) 33 "law.go:213" #[Edge.mk 15 Ground.chain, Edge.mk 15 Ground.guard] (some (15, true))) := by kernel_rfl
theorem i_st_18 : o_st[18]? = some (Oper.mk (some 131) (Op.call (Call.mk (Callee.value (Operand.func 20)) #[Operand.tmp 129, Operand.tmp 130] #[33, 33])) 4 "law.go:213" #[Edge.mk 16 Ground.data, Edge.mk 17 Ground.data, Edge.mk 17 Ground.chain, Edge.mk 15 Ground.guard] (some (15, true))) := by kernel_rfl
theorem i_st_19 : o_st[19]? = some (Oper.mk (some 132) (Op.pick (Operand.tmp 128) (Operand.tmp 131) (Operand.const (Value.bool false))) 4 "law.go:213" #[Edge.mk 15 Ground.data, Edge.mk 18 Ground.data] none) := by kernel_rfl
theorem i_st_20 : o_st[20]? = some (Oper.mk (some 133) (Op.move (Operand.tmp 132)) 4 "law.go:213" #[Edge.mk 19 Ground.data, Edge.mk 18 Ground.chain] none) := by kernel_rfl
theorem i_st_21 : o_st[21]? = some (Oper.mk (some 134) (Op.load 33 (Operand.tmp 21)) 33 "law.go:213" #[Edge.mk 20 Ground.guard] (some (20, true))) := by kernel_rfl
theorem i_st_22 : o_st[22]? = some (Oper.mk (some 135) (Op.call (Call.mk (Callee.value (Operand.func 22)) #[Operand.const (Value.int IntKind.i64 5), Operand.const (Value.int IntKind.i64 1), Operand.const (Value.int IntKind.i64 0)] #[3, 3, 3])) 33 "law.go:213" #[Edge.mk 20 Ground.chain, Edge.mk 20 Ground.guard] (some (20, true))) := by kernel_rfl
theorem i_st_23 : o_st[23]? = some (Oper.mk (some 136) (Op.call (Call.mk (Callee.value (Operand.func 20)) #[Operand.tmp 134, Operand.tmp 135] #[33, 33])) 4 "law.go:213" #[Edge.mk 21 Ground.data, Edge.mk 22 Ground.data, Edge.mk 22 Ground.chain, Edge.mk 20 Ground.guard] (some (20, true))) := by kernel_rfl
theorem i_st_24 : o_st[24]? = some (Oper.mk (some 137) (Op.pick (Operand.tmp 133) (Operand.tmp 136) (Operand.const (Value.bool false))) 4 "law.go:213" #[Edge.mk 20 Ground.data, Edge.mk 23 Ground.data] none) := by kernel_rfl
theorem i_st_25 : o_st[25]? = some (Oper.mk (some 138) (Op.move (Operand.tmp 137)) 4 "law.go:213" #[Edge.mk 24 Ground.data, Edge.mk 23 Ground.chain] none) := by kernel_rfl
theorem i_st_26 : o_st[26]? = some (Oper.mk (some 139) (Op.fieldAddr 33 (Operand.tmp 23) 4) 0 "law.go:213" #[Edge.mk 25 Ground.guard] (some (25, true))) := by kernel_rfl
theorem i_st_27 : o_st[27]? = some (Oper.mk (some 140) (Op.load 3 (Operand.tmp 139)) 3 "law.go:213" #[Edge.mk 26 Ground.data, Edge.mk 25 Ground.guard] (some (25, true))) := by kernel_rfl
theorem i_st_28 : o_st[28]? = some (Oper.mk (some 141) (Op.binOp BinOp.eql 3 (Operand.tmp 140) (Operand.const (Value.int IntKind.i64 0)) 3) 4 "law.go:213" #[Edge.mk 27 Ground.data, Edge.mk 25 Ground.guard] (some (25, true))) := by kernel_rfl
theorem i_st_29 : o_st[29]? = some (Oper.mk (some 142) (Op.pick (Operand.tmp 138) (Operand.tmp 141) (Operand.const (Value.bool false))) 4 "law.go:213" #[Edge.mk 25 Ground.data, Edge.mk 28 Ground.data] none) := by kernel_rfl
theorem i_st_30 : o_st[30]? = some (Oper.mk (some 143) (Op.move (Operand.tmp 142)) 4 "law.go:213" #[Edge.mk 29 Ground.data, Edge.mk 25 Ground.chain] none) := by kernel_rfl
theorem i_st_31 : o_st[31]? = some (Oper.mk (some 144) (Op.fieldAddr 33 (Operand.tmp 23) 1) 0 "law.go:213" #[Edge.mk 30 Ground.guard] (some (30, true))) := by kernel_rfl
theorem i_st_32 : o_st[32]? = some (Oper.mk (some 145) (Op.load 4 (Operand.tmp 144)) 4 "law.go:213" #[Edge.mk 31 Ground.data, Edge.mk 30 Ground.guard] (some (30, true))) := by kernel_rfl
theorem i_st_33 : o_st[33]? = some (Oper.mk (some 146) (Op.unOp UnOp.not 4 (Operand.tmp 145)) 4 "law.go:213" #[Edge.mk 32 Ground.data, Edge.mk 30 Ground.guard] (some (30, true))) := by kernel_rfl
theorem i_st_34 : o_st[34]? = some (Oper.mk (some 147) (Op.pick (Operand.tmp 143) (Operand.tmp 146) (Operand.const (Value.bool false))) 4 "law.go:213" #[Edge.mk 30 Ground.data, Edge.mk 33 Ground.data] none) := by kernel_rfl
theorem i_st_35 : o_st[35]? = some (Oper.mk (some 148) (Op.move (Operand.tmp 147)) 4 "law.go:213" #[Edge.mk 34 Ground.data, Edge.mk 30 Ground.chain] none) := by kernel_rfl
theorem i_st_36 : o_st[36]? = some (Oper.mk (some 149) (Op.move (Operand.tmp 10)) 25 "law.go:213" #[Edge.mk 35 Ground.guard] (some (35, true))) := by kernel_rfl
theorem i_st_37 : o_st[37]? = some (Oper.mk (some 150) (Op.call (Call.mk (Callee.value (Operand.func 17)) #[Operand.tmp 149] #[25])) 3 "law.go:213" #[Edge.mk 36 Ground.data, Edge.mk 35 Ground.chain, Edge.mk 35 Ground.guard] (some (35, true))) := by kernel_rfl
theorem i_st_38 : o_st[38]? = some (Oper.mk (some 151) (Op.binOp BinOp.eql 3 (Operand.tmp 150) (Operand.const (Value.int IntKind.i64 1)) 3) 4 "law.go:213" #[Edge.mk 37 Ground.data, Edge.mk 35 Ground.guard] (some (35, true))) := by kernel_rfl
theorem i_st_39 : o_st[39]? = some (Oper.mk (some 152) (Op.pick (Operand.tmp 148) (Operand.tmp 151) (Operand.const (Value.bool false))) 4 "law.go:213" #[Edge.mk 35 Ground.data, Edge.mk 38 Ground.data] none) := by kernel_rfl
theorem i_st_40 : o_st[40]? = some (Oper.mk (some 153) (Op.move (Operand.tmp 152)) 4 "law.go:213" #[Edge.mk 39 Ground.data, Edge.mk 37 Ground.chain] none) := by kernel_rfl
theorem i_st_41 : o_st[41]? = some (Oper.mk (some 154) (Op.call (Call.mk (Callee.value (Operand.func 8)) #[] #[])) 4 "law.go:213" #[Edge.mk 40 Ground.chain, Edge.mk 40 Ground.guard] (some (40, true))) := by kernel_rfl
theorem i_st_42 : o_st[42]? = some (Oper.mk (some 155) (Op.pick (Operand.tmp 153) (Operand.tmp 154) (Operand.const (Value.bool false))) 4 "law.go:213" #[Edge.mk 40 Ground.data, Edge.mk 41 Ground.data] none) := by kernel_rfl
theorem i_st_43 : o_st[43]? = some (Oper.mk (some 6) (Op.assign (Operand.tmp 155)) 4 "law.go:213" #[Edge.mk 42 Ground.data, Edge.mk 41 Ground.chain, Edge.mk 0 Ground.phase, Edge.mk 1 Ground.phase, Edge.mk 2 Ground.phase, Edge.mk 3 Ground.phase, Edge.mk 4 Ground.phase, Edge.mk 5 Ground.phase, Edge.mk 6 Ground.phase, Edge.mk 7 Ground.phase, Edge.mk 8 Ground.phase, Edge.mk 9 Ground.phase, Edge.mk 10 Ground.phase, Edge.mk 11 Ground.phase, Edge.mk 12 Ground.phase, Edge.mk 13 Ground.phase, Edge.mk 14 Ground.phase, Edge.mk 15 Ground.phase, Edge.mk 16 Ground.phase, Edge.mk 17 Ground.phase, Edge.mk 18 Ground.phase, Edge.mk 19 Ground.phase, Edge.mk 20 Ground.phase, Edge.mk 21 Ground.phase, Edge.mk 22 Ground.phase, Edge.mk 23 Ground.phase, Edge.mk 24 Ground.phase, Edge.mk 25 Ground.phase, Edge.mk 26 Ground.phase, Edge.mk 27 Ground.phase, Edge.mk 28 Ground.phase, Edge.mk 29 Ground.phase, Edge.mk 30 Ground.phase, Edge.mk 31 Ground.phase, Edge.mk 32 Ground.phase, Edge.mk 33 Ground.phase, Edge.mk 34 Ground.phase, Edge.mk 35 Ground.phase, Edge.mk 36 Ground.phase, Edge.mk 37 Ground.phase, Edge.mk 38 Ground.phase, Edge.mk 39 Ground.phase, Edge.mk 40 Ground.phase, Edge.mk 41 Ground.phase, Edge.mk 42 Ground.phase] none) := by kernel_rfl
theorem s_st_0 : Region.free .any o_st l_st_0 0 = true ∧ (Region.ready .any o_st l_st_0).contains 0 = true ∧ l_st_0.setIfInBounds 0 true = l_st_1 := ⟨by kernel_rfl, by kernel_rfl, by kernel_rfl⟩
theorem s_st_1 : Region.free .any o_st l_st_1 1 = true ∧ (Region.ready .any o_st l_st_1).contains 1 = true ∧ l_st_1.setIfInBounds 1 true = l_st_2 := ⟨by kernel_rfl, by kernel_rfl, by kernel_rfl⟩
theorem s_st_2 : Region.free .any o_st l_st_2 2 = true ∧ (Region.ready .any o_st l_st_2).contains 2 = true ∧ l_st_2.setIfInBounds 2 true = l_st_3 := ⟨by kernel_rfl, by kernel_rfl, by kernel_rfl⟩
theorem s_st_3 : Region.free .any o_st l_st_3 3 = true ∧ (Region.ready .any o_st l_st_3).contains 3 = true ∧ l_st_3.setIfInBounds 3 true = l_st_4 := ⟨by kernel_rfl, by kernel_rfl, by kernel_rfl⟩
theorem s_st_4 : Region.free .any o_st l_st_4 4 = true ∧ (Region.ready .any o_st l_st_4).contains 4 = true ∧ l_st_4.setIfInBounds 4 true = l_st_5 := ⟨by kernel_rfl, by kernel_rfl, by kernel_rfl⟩
theorem s_st_5 : Region.free .any o_st l_st_5 5 = true ∧ (Region.ready .any o_st l_st_5).contains 5 = true ∧ l_st_5.setIfInBounds 5 true = l_st_6 := ⟨by kernel_rfl, by kernel_rfl, by kernel_rfl⟩
theorem s_st_6 : Region.free .any o_st l_st_6 6 = true ∧ (Region.ready .any o_st l_st_6).contains 6 = true ∧ l_st_6.setIfInBounds 6 true = l_st_7 := ⟨by kernel_rfl, by kernel_rfl, by kernel_rfl⟩
theorem s_st_7 : Region.free .any o_st l_st_7 7 = true ∧ (Region.ready .any o_st l_st_7).contains 7 = true ∧ l_st_7.setIfInBounds 7 true = l_st_8 := ⟨by kernel_rfl, by kernel_rfl, by kernel_rfl⟩
theorem s_st_8 : Region.free .any o_st l_st_8 8 = true ∧ (Region.ready .any o_st l_st_8).contains 8 = true ∧ l_st_8.setIfInBounds 8 true = l_st_9 := ⟨by kernel_rfl, by kernel_rfl, by kernel_rfl⟩
theorem s_st_9 : Region.free .any o_st l_st_9 9 = true ∧ (Region.ready .any o_st l_st_9).contains 9 = true ∧ l_st_9.setIfInBounds 9 true = l_st_10 := ⟨by kernel_rfl, by kernel_rfl, by kernel_rfl⟩
theorem s_st_10 : Region.free .any o_st l_st_10 10 = true ∧ (Region.ready .any o_st l_st_10).contains 10 = true ∧ l_st_10.setIfInBounds 10 true = l_st_11 := ⟨by kernel_rfl, by kernel_rfl, by kernel_rfl⟩
theorem s_st_11 : Region.free .any o_st l_st_11 11 = true ∧ (Region.ready .any o_st l_st_11).contains 11 = true ∧ l_st_11.setIfInBounds 11 true = l_st_12 := ⟨by kernel_rfl, by kernel_rfl, by kernel_rfl⟩
theorem s_st_12 : Region.free .any o_st l_st_12 12 = true ∧ (Region.ready .any o_st l_st_12).contains 12 = true ∧ l_st_12.setIfInBounds 12 true = l_st_13 := ⟨by kernel_rfl, by kernel_rfl, by kernel_rfl⟩
theorem s_st_13 : Region.free .any o_st l_st_13 13 = true ∧ (Region.ready .any o_st l_st_13).contains 13 = true ∧ l_st_13.setIfInBounds 13 true = l_st_14 := ⟨by kernel_rfl, by kernel_rfl, by kernel_rfl⟩
theorem s_st_14 : Region.free .any o_st l_st_14 14 = true ∧ (Region.ready .any o_st l_st_14).contains 14 = true ∧ l_st_14.setIfInBounds 14 true = l_st_15 := ⟨by kernel_rfl, by kernel_rfl, by kernel_rfl⟩
theorem s_st_15 : Region.free .any o_st l_st_15 15 = true ∧ (Region.ready .any o_st l_st_15).contains 15 = true ∧ l_st_15.setIfInBounds 15 true = l_st_16 := ⟨by kernel_rfl, by kernel_rfl, by kernel_rfl⟩
theorem s_st_16 : Region.free .any o_st l_st_16 16 = true ∧ (Region.ready .any o_st l_st_16).contains 16 = true ∧ l_st_16.setIfInBounds 16 true = l_st_17 := ⟨by kernel_rfl, by kernel_rfl, by kernel_rfl⟩
theorem s_st_17 : Region.ready .any o_st l_st_17 = [17] ∧ l_st_17.setIfInBounds 17 true = l_st_18 := ⟨by kernel_rfl, by kernel_rfl⟩
theorem s_st_18 : Region.ready .any o_st l_st_18 = [18] ∧ l_st_18.setIfInBounds 18 true = l_st_19 := ⟨by kernel_rfl, by kernel_rfl⟩
theorem s_st_19 : Region.free .any o_st l_st_19 19 = true ∧ (Region.ready .any o_st l_st_19).contains 19 = true ∧ l_st_19.setIfInBounds 19 true = l_st_20 := ⟨by kernel_rfl, by kernel_rfl, by kernel_rfl⟩
theorem s_st_20 : Region.free .any o_st l_st_20 20 = true ∧ (Region.ready .any o_st l_st_20).contains 20 = true ∧ l_st_20.setIfInBounds 20 true = l_st_21 := ⟨by kernel_rfl, by kernel_rfl, by kernel_rfl⟩
theorem s_st_21 : Region.free .any o_st l_st_21 21 = true ∧ (Region.ready .any o_st l_st_21).contains 21 = true ∧ l_st_21.setIfInBounds 21 true = l_st_22 := ⟨by kernel_rfl, by kernel_rfl, by kernel_rfl⟩
theorem s_st_22 : Region.ready .any o_st l_st_22 = [22] ∧ l_st_22.setIfInBounds 22 true = l_st_23 := ⟨by kernel_rfl, by kernel_rfl⟩
theorem s_st_23 : Region.ready .any o_st l_st_23 = [23] ∧ l_st_23.setIfInBounds 23 true = l_st_24 := ⟨by kernel_rfl, by kernel_rfl⟩
theorem s_st_24 : Region.free .any o_st l_st_24 24 = true ∧ (Region.ready .any o_st l_st_24).contains 24 = true ∧ l_st_24.setIfInBounds 24 true = l_st_25 := ⟨by kernel_rfl, by kernel_rfl, by kernel_rfl⟩
theorem s_st_25 : Region.free .any o_st l_st_25 25 = true ∧ (Region.ready .any o_st l_st_25).contains 25 = true ∧ l_st_25.setIfInBounds 25 true = l_st_26 := ⟨by kernel_rfl, by kernel_rfl, by kernel_rfl⟩
theorem s_st_26 : Region.free .any o_st l_st_26 26 = true ∧ (Region.ready .any o_st l_st_26).contains 26 = true ∧ l_st_26.setIfInBounds 26 true = l_st_27 := ⟨by kernel_rfl, by kernel_rfl, by kernel_rfl⟩
theorem s_st_27 : Region.free .any o_st l_st_27 27 = true ∧ (Region.ready .any o_st l_st_27).contains 27 = true ∧ l_st_27.setIfInBounds 27 true = l_st_28 := ⟨by kernel_rfl, by kernel_rfl, by kernel_rfl⟩
theorem s_st_28 : Region.free .any o_st l_st_28 28 = true ∧ (Region.ready .any o_st l_st_28).contains 28 = true ∧ l_st_28.setIfInBounds 28 true = l_st_29 := ⟨by kernel_rfl, by kernel_rfl, by kernel_rfl⟩
theorem s_st_29 : Region.free .any o_st l_st_29 29 = true ∧ (Region.ready .any o_st l_st_29).contains 29 = true ∧ l_st_29.setIfInBounds 29 true = l_st_30 := ⟨by kernel_rfl, by kernel_rfl, by kernel_rfl⟩
theorem s_st_30 : Region.free .any o_st l_st_30 30 = true ∧ (Region.ready .any o_st l_st_30).contains 30 = true ∧ l_st_30.setIfInBounds 30 true = l_st_31 := ⟨by kernel_rfl, by kernel_rfl, by kernel_rfl⟩
theorem s_st_31 : Region.free .any o_st l_st_31 31 = true ∧ (Region.ready .any o_st l_st_31).contains 31 = true ∧ l_st_31.setIfInBounds 31 true = l_st_32 := ⟨by kernel_rfl, by kernel_rfl, by kernel_rfl⟩
theorem s_st_32 : Region.free .any o_st l_st_32 32 = true ∧ (Region.ready .any o_st l_st_32).contains 32 = true ∧ l_st_32.setIfInBounds 32 true = l_st_33 := ⟨by kernel_rfl, by kernel_rfl, by kernel_rfl⟩
theorem s_st_33 : Region.free .any o_st l_st_33 33 = true ∧ (Region.ready .any o_st l_st_33).contains 33 = true ∧ l_st_33.setIfInBounds 33 true = l_st_34 := ⟨by kernel_rfl, by kernel_rfl, by kernel_rfl⟩
theorem s_st_34 : Region.free .any o_st l_st_34 34 = true ∧ (Region.ready .any o_st l_st_34).contains 34 = true ∧ l_st_34.setIfInBounds 34 true = l_st_35 := ⟨by kernel_rfl, by kernel_rfl, by kernel_rfl⟩
theorem s_st_35 : Region.free .any o_st l_st_35 35 = true ∧ (Region.ready .any o_st l_st_35).contains 35 = true ∧ l_st_35.setIfInBounds 35 true = l_st_36 := ⟨by kernel_rfl, by kernel_rfl, by kernel_rfl⟩
theorem s_st_36 : Region.free .any o_st l_st_36 36 = true ∧ (Region.ready .any o_st l_st_36).contains 36 = true ∧ l_st_36.setIfInBounds 36 true = l_st_37 := ⟨by kernel_rfl, by kernel_rfl, by kernel_rfl⟩
theorem s_st_37 : Region.ready .any o_st l_st_37 = [37] ∧ l_st_37.setIfInBounds 37 true = l_st_38 := ⟨by kernel_rfl, by kernel_rfl⟩
theorem s_st_38 : Region.free .any o_st l_st_38 38 = true ∧ (Region.ready .any o_st l_st_38).contains 38 = true ∧ l_st_38.setIfInBounds 38 true = l_st_39 := ⟨by kernel_rfl, by kernel_rfl, by kernel_rfl⟩
theorem s_st_39 : Region.free .any o_st l_st_39 39 = true ∧ (Region.ready .any o_st l_st_39).contains 39 = true ∧ l_st_39.setIfInBounds 39 true = l_st_40 := ⟨by kernel_rfl, by kernel_rfl, by kernel_rfl⟩
theorem s_st_40 : Region.free .any o_st l_st_40 40 = true ∧ (Region.ready .any o_st l_st_40).contains 40 = true ∧ l_st_40.setIfInBounds 40 true = l_st_41 := ⟨by kernel_rfl, by kernel_rfl, by kernel_rfl⟩
theorem s_st_41 : Region.ready .any o_st l_st_41 = [41] ∧ l_st_41.setIfInBounds 41 true = l_st_42 := ⟨by kernel_rfl, by kernel_rfl⟩
theorem s_st_42 : Region.free .any o_st l_st_42 42 = true ∧ (Region.ready .any o_st l_st_42).contains 42 = true ∧ l_st_42.setIfInBounds 42 true = l_st_43 := ⟨by kernel_rfl, by kernel_rfl, by kernel_rfl⟩
theorem s_st_43 : Region.free .any o_st l_st_43 43 = true ∧ (Region.ready .any o_st l_st_43).contains 43 = true ∧ l_st_43.setIfInBounds 43 true = l_st_44 := ⟨by kernel_rfl, by kernel_rfl, by kernel_rfl⟩
theorem e_st : Region.ready .any o_st l_st_44 = [] := by kernel_rfl
set_option maxRecDepth 100000 in
set_option maxHeartbeats 4000000 in
theorem stops_tail (w wz : World) (b px py pz : Nat) (ax ay az : Option Addr) (cx cy cz nz : Nat) (g : FS) (vU vC : Value) {K : Act → World → Prop} {Q : Exit → Act → World → Prop} (u0 u1 u2 u3 u4 u5 u6 u7 u8 u9 u11 u12 u13 u14 u15 u16 u25 u26 u27 u28 u29 u30 u31 u32 u33 u34 u35 u36 u37 u38 u39 u40 u41 u42 u43 u44 u45 u46 u47 u48 u49 u50 u51 u52 u53 u54 u55 u56 u57 u58 u59 u60 u61 u62 u63 u64 u65 u66 u67 u68 u69 u70 u71 u72 u73 u74 u75 u76 u77 u78 u79 u80 u81 u82 u83 u84 u85 u86 u87 u88 u89 u90 u91 u92 u93 u94 u95 u96 u97 u98 u99 u100 u101 u102 u103 u104 u105 u106 u107 u108 u109 u110 u111 u112 : Value)
    (E : EndT wz px py pz ax ay az cx cy cz nz) (HF : Hid (FAt wz (fun k => k < b) b g vU vC)) (HB : Hid (Below b w wz)) (hg : g.state = 1)
    (HQP : Hid (∀ c (a : Act) d v w, Q (.panic c) (a.put d v) w → Q (.panic c) a w))
    (hK : ∀ (x113 x114 x115 x116 x117 x118 x119 x120 x121 x122 x123 x124 x125 x126 x127 x128 x129 x130 x131 x132 x133 x134 x135 x136 x137 x138 x139 x140 x141 x142 x143 x144 x145 x146 x147 x148 x149 x150 x151 x152 x153 x154 x155 : Value) (w' : World), Below b w w' → K ⟨#[u0, u1, u2, u3, u4, u5, .bool true, u7, u8, u9, .pointer (some ⟨b, 0, none⟩), u11, u12, u13, u14, u15, u16, .bool false, .int .i64 0, .pointer (some ⟨px, 0, none⟩), .bool true, .pointer (some ⟨py, 0, none⟩), .bool true, .pointer (some ⟨pz, 0, none⟩), .bool true, u25, u26, u27, u28, u29, u30, u31, u32, u33, u34, u35, u36, u37, u38, u39, u40, u41, u42, u43, u44, u45, u46, u47, u48, u49, u50, u51, u52, u53, u54, u55, u56, u57, u58, u59, u60, u61, u62, u63, u64, u65, u66, u67, u68, u69, u70, u71, u72, u73, u74, u75, u76, u77, u78, u79, u80, u81, u82, u83, u84, u85, u86, u87, u88, u89, u90, u91, u92, u93, u94, u95, u96, u97, u98, u99, u100, u101, u102, u103, u104, u105, u106, u107, u108, u109, u110, u111, u112, x113, x114, x115, x116, x117, x118, x119, x120, x121, x122, x123, x124, x125, x126, x127, x128, x129, x130, x131, x132, x133, x134, x135, x136, x137, x138, x139, x140, x141, x142, x143, x144, x145, x146, x147, x148, x149, x150, x151, x152, x153, x154, x155], []⟩ w') :
    Code.wp Try.prog (Code.region 25 o_st true) (Exit.then K Q) ⟨#[u0, u1, u2, u3, u4, u5, u6, u7, u8, u9, .pointer (some ⟨b, 0, none⟩), u11, u12, u13, u14, u15, u16, .bool false, .int .i64 0, .pointer (some ⟨px, 0, none⟩), .bool true, .pointer (some ⟨py, 0, none⟩), .bool true, .pointer (some ⟨pz, 0, none⟩), .bool true, u25, u26, u27, u28, u29, u30, u31, u32, u33, u34, u35, u36, u37, u38, u39, u40, u41, u42, u43, u44, u45, u46, u47, u48, u49, u50, u51, u52, u53, u54, u55, u56, u57, u58, u59, u60, u61, u62, u63, u64, u65, u66, u67, u68, u69, u70, u71, u72, u73, u74, u75, u76, u77, u78, u79, u80, u81, u82, u83, u84, u85, u86, u87, u88, u89, u90, u91, u92, u93, u94, u95, u96, u97, u98, u99, u100, u101, u102, u103, u104, u105, u106, u107, u108, u109, u110, u111, u112, undef, undef, undef, undef, undef, undef, undef, undef, undef, undef, undef, undef, undef, undef, undef, undef, undef, undef, undef, undef, undef, undef, undef, undef, undef, undef, undef, undef, undef, undef, undef, undef, undef, undef, undef, undef, undef, undef, undef, undef, undef, undef, undef], []⟩ wz := by
  have HKK := Lib.hid hK
  clear hK
  have HG : Hid ((g.state : Int) = 1) := Lib.hid (by omega)
  clear hg
  obtain ⟨s1, s2, s3, s4, s5, s6, s7, s8, s9, s10, s11, s12, s13, s14⟩ := endT E
  have E0 := Lib.hid E
  clear E
  refine big_start (S := (fun w' => w'.cell? ⟨px, 0, none⟩ = some (.bool true) ∧ w'.cell? ⟨px, 1, none⟩ = some (.bool true) ∧ w'.cell? ⟨px, 2, none⟩ = some (.int .i64 5) ∧ w'.cell? ⟨px, 3, none⟩ = some (.int .i64 1) ∧ w'.cell? ⟨px, 4, none⟩ = some (.int .i64 0) ∧ w'.cell? ⟨px, 5, none⟩ = some (.slice ax 1 cx) ∧ w'.cell? ⟨py, 0, none⟩ = some (.bool true) ∧ w'.cell? ⟨py, 1, none⟩ = some (.bool true) ∧ w'.cell? ⟨py, 2, none⟩ = some (.int .i64 5) ∧ w'.cell? ⟨py, 3, none⟩ = some (.int .i64 1) ∧ w'.cell? ⟨py, 4, none⟩ = some (.int .i64 0) ∧ w'.cell? ⟨py, 5, none⟩ = some (.slice ay 3 cy) ∧ w'.cell? ⟨pz, 4, none⟩ = some (.int .i64 0) ∧ w'.cell? ⟨pz, 1, none⟩ = some (.bool false))) n_st z_st (by kernel_rfl) (by (try dsimp only); first | with_reducible exact ⟨by with_reducible assumption, by with_reducible assumption, by with_reducible assumption, by with_reducible assumption, by with_reducible assumption, by with_reducible assumption, by with_reducible assumption, by with_reducible assumption, by with_reducible assumption, by with_reducible assumption, by with_reducible assumption, by with_reducible assumption, by with_reducible assumption, by with_reducible assumption⟩ | go_keep) (fun hHeld => ?_)
  refine big_take (v := ?_) ns_st i_st_0 s_st_0.1 s_st_0.2.1 s_st_0.2.2 (by first | exact fun _ _ _ h => h | exact fun c a w h => HQP.out c a _ _ w h) (.inl rfl) ?_ (by assumption) ?_
  rotate_left
  · (intro w hSw; (try dsimp only at hSw); go_simp; first | done | with_reducible rfl)
  (try simp only [Act.put, List.setIfInBounds_toArray, List.set_cons_zero, List.set_cons_succ])
  refine big_take (v := ?_) ns_st i_st_1 s_st_1.1 s_st_1.2.1 s_st_1.2.2 (by first | exact fun _ _ _ h => h | exact fun c a w h => HQP.out c a _ _ w h) (.inl rfl) ?_ (by assumption) ?_
  rotate_left
  · (intro w hSw; (try dsimp only at hSw); go_simp; first | done | with_reducible rfl)
  (try simp only [Act.put, List.setIfInBounds_toArray, List.set_cons_zero, List.set_cons_succ])
  refine big_take (v := ?_) ns_st i_st_2 s_st_2.1 s_st_2.2.1 s_st_2.2.2 (by first | exact fun _ _ _ h => h | exact fun c a w h => HQP.out c a _ _ w h) (.inl rfl) ?_ (by assumption) ?_
  rotate_left
  · (intro w hSw; (try dsimp only at hSw); go_simp; first | done | with_reducible rfl)
  (try simp only [Act.put, List.setIfInBounds_toArray, List.set_cons_zero, List.set_cons_succ])
  refine big_take (v := ?_) ns_st i_st_3 s_st_3.1 s_st_3.2.1 s_st_3.2.2 (by first | exact fun _ _ _ h => h | exact fun c a w h => HQP.out c a _ _ w h) (.inr ⟨_, _, _, _, rfl, i_st_2, rfl, rfl⟩) ?_ (by assumption) ?_
  rotate_left
  · (intro w hSw; (try dsimp only at hSw); go_simp; first | done | with_reducible rfl)
  (try simp only [Act.put, List.setIfInBounds_toArray, List.set_cons_zero, List.set_cons_succ])
  refine big_take (v := ?_) ns_st i_st_4 s_st_4.1 s_st_4.2.1 s_st_4.2.2 (by first | exact fun _ _ _ h => h | exact fun c a w h => HQP.out c a _ _ w h) (.inr ⟨_, _, _, _, rfl, i_st_2, rfl, rfl⟩) ?_ (by assumption) ?_
  rotate_left
  · (intro w hSw; (try dsimp only at hSw); go_simp; first | done | with_reducible rfl)
  (try simp only [Act.put, List.setIfInBounds_toArray, List.set_cons_zero, List.set_cons_succ])
  refine big_take (v := ?_) ns_st i_st_5 s_st_5.1 s_st_5.2.1 s_st_5.2.2 (by first | exact fun _ _ _ h => h | exact fun c a w h => HQP.out c a _ _ w h) (.inl rfl) ?_ (by assumption) ?_
  rotate_left
  · (intro w hSw; (try dsimp only at hSw); go_simp; first | done | with_reducible rfl)
  (try simp only [Act.put, List.setIfInBounds_toArray, List.set_cons_zero, List.set_cons_succ])
  refine big_take (v := ?_) ns_st i_st_6 s_st_6.1 s_st_6.2.1 s_st_6.2.2 (by first | exact fun _ _ _ h => h | exact fun c a w h => HQP.out c a _ _ w h) (.inl rfl) ?_ (by assumption) ?_
  rotate_left
  · (intro w hSw; (try dsimp only at hSw); go_simp; first | done | with_reducible rfl)
  (try simp only [Act.put, List.setIfInBounds_toArray, List.set_cons_zero, List.set_cons_succ])
  refine big_take (v := ?_) ns_st i_st_7 s_st_7.1 s_st_7.2.1 s_st_7.2.2 (by first | exact fun _ _ _ h => h | exact fun c a w h => HQP.out c a _ _ w h) (.inr ⟨_, _, _, _, rfl, i_st_6, rfl, rfl⟩) ?_ (by assumption) ?_
  rotate_left
  · (intro w hSw; (try dsimp only at hSw); go_simp; first | done | with_reducible rfl)
  (try simp only [Act.put, List.setIfInBounds_toArray, List.set_cons_zero, List.set_cons_succ])
  refine big_take (v := ?_) ns_st i_st_8 s_st_8.1 s_st_8.2.1 s_st_8.2.2 (by first | exact fun _ _ _ h => h | exact fun c a w h => HQP.out c a _ _ w h) (.inl rfl) ?_ (by assumption) ?_
  rotate_left
  · (intro w hSw; (try dsimp only at hSw); go_simp; first | done | with_reducible rfl)
  (try simp only [Act.put, List.setIfInBounds_toArray, List.set_cons_zero, List.set_cons_succ])
  refine big_take (v := ?_) ns_st i_st_9 s_st_9.1 s_st_9.2.1 s_st_9.2.2 (by first | exact fun _ _ _ h => h | exact fun c a w h => HQP.out c a _ _ w h) (.inl rfl) ?_ (by assumption) ?_
  rotate_left
  · (intro w hSw; (try dsimp only at hSw); go_simp; first | done | with_reducible rfl)
  (try simp only [Act.put, List.setIfInBounds_toArray, List.set_cons_zero, List.set_cons_succ])
  refine big_take (v := ?_) ns_st i_st_10 s_st_10.1 s_st_10.2.1 s_st_10.2.2 (by first | exact fun _ _ _ h => h | exact fun c a w h => HQP.out c a _ _ w h) (.inr ⟨_, _, _, _, rfl, i_st_9, rfl, rfl⟩) ?_ (by assumption) ?_
  rotate_left
  · (intro w hSw; (try dsimp only at hSw); go_simp; first | done | with_reducible rfl)
  (try simp only [Act.put, List.setIfInBounds_toArray, List.set_cons_zero, List.set_cons_succ])
  refine big_take (v := ?_) ns_st i_st_11 s_st_11.1 s_st_11.2.1 s_st_11.2.2 (by first | exact fun _ _ _ h => h | exact fun c a w h => HQP.out c a _ _ w h) (.inl rfl) ?_ (by assumption) ?_
  rotate_left
  · (intro w hSw; (try dsimp only at hSw); go_simp; first | done | with_reducible rfl)
  (try simp only [Act.put, List.setIfInBounds_toArray, List.set_cons_zero, List.set_cons_succ])
  refine big_take (v := ?_) ns_st i_st_12 s_st_12.1 s_st_12.2.1 s_st_12.2.2 (by first | exact fun _ _ _ h => h | exact fun c a w h => HQP.out c a _ _ w h) (.inl rfl) ?_ (by assumption) ?_
  rotate_left
  · (intro w hSw; (try dsimp only at hSw); go_simp; first | done | with_reducible rfl)
  (try simp only [Act.put, List.setIfInBounds_toArray, List.set_cons_zero, List.set_cons_succ])
  refine big_take (v := ?_) ns_st i_st_13 s_st_13.1 s_st_13.2.1 s_st_13.2.2 (by first | exact fun _ _ _ h => h | exact fun c a w h => HQP.out c a _ _ w h) (.inr ⟨_, _, _, _, rfl, i_st_12, rfl, rfl⟩) ?_ (by assumption) ?_
  rotate_left
  · (intro w hSw; (try dsimp only at hSw); go_simp; first | done | with_reducible rfl)
  (try simp only [Act.put, List.setIfInBounds_toArray, List.set_cons_zero, List.set_cons_succ])
  refine big_take (v := ?_) ns_st i_st_14 s_st_14.1 s_st_14.2.1 s_st_14.2.2 (by first | exact fun _ _ _ h => h | exact fun c a w h => HQP.out c a _ _ w h) (.inl rfl) ?_ (by assumption) ?_
  rotate_left
  · (intro w hSw; (try dsimp only at hSw); go_simp; first | done | with_reducible rfl)
  (try simp only [Act.put, List.setIfInBounds_toArray, List.set_cons_zero, List.set_cons_succ])
  refine big_take (v := ?_) ns_st i_st_15 s_st_15.1 s_st_15.2.1 s_st_15.2.2 (by first | exact fun _ _ _ h => h | exact fun c a w h => HQP.out c a _ _ w h) (.inl rfl) ?_ (by assumption) ?_
  rotate_left
  · (intro w hSw; (try dsimp only at hSw); go_simp; first | done | with_reducible rfl)
  (try simp only [Act.put, List.setIfInBounds_toArray, List.set_cons_zero, List.set_cons_succ])
  refine big_take (v := ?_) ns_st i_st_16 s_st_16.1 s_st_16.2.1 s_st_16.2.2 (by first | exact fun _ _ _ h => h | exact fun c a w h => HQP.out c a _ _ w h) (.inr ⟨_, _, _, _, rfl, i_st_15, rfl, rfl⟩) ?_ (by assumption) ?_
  rotate_left
  · (intro w hSw; (try dsimp only at hSw); go_simp; first | done | with_reducible rfl)
  (try simp only [Act.put, List.setIfInBounds_toArray, List.set_cons_zero, List.set_cons_succ])
  refine big_call i_st_17 s_st_17.1 s_st_17.2 (.inr ⟨_, _, _, _, rfl, i_st_15, rfl, rfl⟩) (fun K hK => ?_)
  go_simp
  (go_at_call 21; refine (runlock_any 5 1 _).mono ?_; rintro e x1 ⟨v1, rfl, hO1, hB1⟩; dsimp only [fmV, Fm.unlock]; obtain ⟨z1, n1, k1, rfl⟩ := own_slice hO1; have hB := undrew hB1; obtain ⟨-, _, _, eq1, -, -, hZ1⟩ := BAt.of_row (l := [0]) hO1; simp only [Value.slice.injEq] at eq1; obtain ⟨rfl, rfl, rfl⟩ := eq1; have E1 := E0.out.below hB; obtain ⟨s1, s2, s3, s4, s5, s6, s7, s8, s9, s10, s11, s12, s13, s14⟩ := endT E1; have E1 := Lib.hid E1; have HZ1 := Lib.hid hZ1; have HF1 := Lib.hid (HF.out.below hB (Nat.le_refl _)); have HB1 := Lib.hid (HB.out.trans (hB.mono (Nat.le_of_lt HF.out.blk.lt))); clear hO1 hB1 hB hZ1)
  refine hK.out _ _ (by (try dsimp only); first | with_reducible exact ⟨by with_reducible assumption, by with_reducible assumption, by with_reducible assumption, by with_reducible assumption, by with_reducible assumption, by with_reducible assumption, by with_reducible assumption, by with_reducible assumption, by with_reducible assumption, by with_reducible assumption, by with_reducible assumption, by with_reducible assumption, by with_reducible assumption, by with_reducible assumption⟩ | go_keep) (fun hHeld => ?_)
  clear hK K
  (try simp only [Act.put, List.setIfInBounds_toArray, List.set_cons_zero, List.set_cons_succ])
  refine big_call i_st_18 s_st_18.1 s_st_18.2 (.inr ⟨_, _, _, _, rfl, i_st_15, rfl, rfl⟩) (fun K hK => ?_)
  go_simp
  (go_at_call 20; refine (same_eq (Fm.unlock 5 1) ax _ cx _ 1 1 _ rfl rfl E1.out.2.2.2.1 HZ1.out).mono ?_; rintro e x2 ⟨rfl, hB⟩; have E2 := E1.out.below hB; obtain ⟨s1, s2, s3, s4, s5, s6, s7, s8, s9, s10, s11, s12, s13, s14⟩ := endT E2; have E2 := Lib.hid E2; have HF2 := Lib.hid (HF1.out.below hB (Nat.le_refl _)); have HB2 := Lib.hid (HB1.out.trans (hB.mono (Nat.le_of_lt HF1.out.blk.lt))); clear hB)
  refine hK.out _ _ (by (try dsimp only); first | with_reducible exact ⟨by with_reducible assumption, by with_reducible assumption, by with_reducible assumption, by with_reducible assumption, by with_reducible assumption, by with_reducible assumption, by with_reducible assumption, by with_reducible assumption, by with_reducible assumption, by with_reducible assumption, by with_reducible assumption, by with_reducible assumption, by with_reducible assumption, by with_reducible assumption⟩ | go_keep) (fun hHeld => ?_)
  clear hK K
  (try simp only [Act.put, List.setIfInBounds_toArray, List.set_cons_zero, List.set_cons_succ])
  refine big_take (v := ?_) ns_st i_st_19 s_st_19.1 s_st_19.2.1 s_st_19.2.2 (by first | exact fun _ _ _ h => h | exact fun c a w h => HQP.out c a _ _ w h) (.inl rfl) ?_ (by assumption) ?_
  rotate_left
  · (intro w hSw; (try dsimp only at hSw); go_simp; first | done | with_reducible rfl)
  (try simp only [Act.put, List.setIfInBounds_toArray, List.set_cons_zero, List.set_cons_succ])
  refine big_take (v := ?_) ns_st i_st_20 s_st_20.1 s_st_20.2.1 s_st_20.2.2 (by first | exact fun _ _ _ h => h | exact fun c a w h => HQP.out c a _ _ w h) (.inl rfl) ?_ (by assumption) ?_
  rotate_left
  · (intro w hSw; (try dsimp only at hSw); go_simp; first | done | with_reducible rfl)
  (try simp only [Act.put, List.setIfInBounds_toArray, List.set_cons_zero, List.set_cons_succ])
  refine big_take (v := ?_) ns_st i_st_21 s_st_21.1 s_st_21.2.1 s_st_21.2.2 (by first | exact fun _ _ _ h => h | exact fun c a w h => HQP.out c a _ _ w h) (.inr ⟨_, _, _, _, rfl, i_st_20, rfl, rfl⟩) ?_ (by assumption) ?_
  rotate_left
  · (intro w hSw; (try dsimp only at hSw); go_simp; first | done | with_reducible rfl)
  (try simp only [Act.put, List.setIfInBounds_toArray, List.set_cons_zero, List.set_cons_succ])
  refine big_call i_st_22 s_st_22.1 s_st_22.2 (.inr ⟨_, _, _, _, rfl, i_st_20, rfl, rfl⟩) (fun K hK => ?_)
  go_simp
  (go_at_call 22; refine (rsetnext_any 5 1 0 (by decide) _).mono ?_; rintro e x3 ⟨v1, rfl, hO1, hB⟩; dsimp only [fmV, Fm.setNext]; obtain ⟨z1, n1, k1, rfl⟩ := own_slice hO1; obtain ⟨-, _, _, eq1, -, -, hZ1⟩ := BAt.of_row (l := [130, 0, 0]) hO1; simp only [Value.slice.injEq] at eq1; obtain ⟨rfl, rfl, rfl⟩ := eq1; have E3 := E2.out.below hB; obtain ⟨s1, s2, s3, s4, s5, s6, s7, s8, s9, s10, s11, s12, s13, s14⟩ := endT E3; have E3 := Lib.hid E3; have HZ3 := Lib.hid hZ1; have HF3 := Lib.hid (HF2.out.below hB (Nat.le_refl _)); have HB3 := Lib.hid (HB2.out.trans (hB.mono (Nat.le_of_lt HF2.out.blk.lt))); clear hO1 hB hZ1)
  refine hK.out _ _ (by (try dsimp only); first | with_reducible exact ⟨by with_reducible assumption, by with_reducible assumption, by with_reducible assumption, by with_reducible assumption, by with_reducible assumption, by with_reducible assumption, by with_reducible assumption, by with_reducible assumption, by with_reducible assumption, by with_reducible assumption, by with_reducible assumption, by with_reducible assumption, by with_reducible assumption, by with_reducible assumption⟩ | go_keep) (fun hHeld => ?_)
  clear hK K
  (try simp only [Act.put, List.setIfInBounds_toArray, List.set_cons_zero, List.set_cons_succ])
  refine big_call i_st_23 s_st_23.1 s_st_23.2 (.inr ⟨_, _, _, _, rfl, i_st_20, rfl, rfl⟩) (fun K hK => ?_)
  go_simp
  (go_at_call 20; refine (same_eq (Fm.setNext 5 1 0) ay _ cy _ 3 3 _ rfl rfl E3.out.2.2.2.2 HZ3.out).mono ?_; rintro e x4 ⟨rfl, hB⟩; have E4 := E3.out.below hB; obtain ⟨s1, s2, s3, s4, s5, s6, s7, s8, s9, s10, s11, s12, s13, s14⟩ := endT E4; have E4 := Lib.hid E4; have HF4 := Lib.hid (HF3.out.below hB (Nat.le_refl _)); have HB4 := Lib.hid (HB3.out.trans (hB.mono (Nat.le_of_lt HF3.out.blk.lt))); clear hB)
  refine hK.out _ _ (by (try dsimp only); first | with_reducible exact ⟨by with_reducible assumption, by with_reducible assumption, by with_reducible assumption, by with_reducible assumption, by with_reducible assumption, by with_reducible assumption, by with_reducible assumption, by with_reducible assumption, by with_reducible assumption, by with_reducible assumption, by with_reducible assumption, by with_reducible assumption, by with_reducible assumption, by with_reducible assumption⟩ | go_keep) (fun hHeld => ?_)
  clear hK K
  (try simp only [Act.put, List.setIfInBounds_toArray, List.set_cons_zero, List.set_cons_succ])
  refine big_take (v := ?_) ns_st i_st_24 s_st_24.1 s_st_24.2.1 s_st_24.2.2 (by first | exact fun _ _ _ h => h | exact fun c a w h => HQP.out c a _ _ w h) (.inl rfl) ?_ (by assumption) ?_
  rotate_left
  · (intro w hSw; (try dsimp only at hSw); go_simp; first | done | with_reducible rfl)
  (try simp only [Act.put, List.setIfInBounds_toArray, List.set_cons_zero, List.set_cons_succ])
  refine big_take (v := ?_) ns_st i_st_25 s_st_25.1 s_st_25.2.1 s_st_25.2.2 (by first | exact fun _ _ _ h => h | exact fun c a w h => HQP.out c a _ _ w h) (.inl rfl) ?_ (by assumption) ?_
  rotate_left
  · (intro w hSw; (try dsimp only at hSw); go_simp; first | done | with_reducible rfl)
  (try simp only [Act.put, List.setIfInBounds_toArray, List.set_cons_zero, List.set_cons_succ])
  refine big_take (v := ?_) ns_st i_st_26 s_st_26.1 s_st_26.2.1 s_st_26.2.2 (by first | exact fun _ _ _ h => h | exact fun c a w h => HQP.out c a _ _ w h) (.inr ⟨_, _, _, _, rfl, i_st_25, rfl, rfl⟩) ?_ (by assumption) ?_
  rotate_left
  · (intro w hSw; (try dsimp only at hSw); go_simp; first | done | with_reducible rfl)
  (try simp only [Act.put, List.setIfInBounds_toArray, List.set_cons_zero, List.set_cons_succ])
  refine big_take (v := ?_) ns_st i_st_27 s_st_27.1 s_st_27.2.1 s_st_27.2.2 (by first | exact fun _ _ _ h => h | exact fun c a w h => HQP.out c a _ _ w h) (.inr ⟨_, _, _, _, rfl, i_st_25, rfl, rfl⟩) ?_ (by assumption) ?_
  rotate_left
  · (intro w hSw; (try dsimp only at hSw); go_simp; first | done | with_reducible rfl)
  (try simp only [Act.put, List.setIfInBounds_toArray, List.set_cons_zero, List.set_cons_succ])
  refine big_take (v := ?_) ns_st i_st_28 s_st_28.1 s_st_28.2.1 s_st_28.2.2 (by first | exact fun _ _ _ h => h | exact fun c a w h => HQP.out c a _ _ w h) (.inr ⟨_, _, _, _, rfl, i_st_25, rfl, rfl⟩) ?_ (by assumption) ?_
  rotate_left
  · (intro w hSw; (try dsimp only at hSw); go_simp; first | done | with_reducible rfl)
  (try simp only [Act.put, List.setIfInBounds_toArray, List.set_cons_zero, List.set_cons_succ])
  refine big_take (v := ?_) ns_st i_st_29 s_st_29.1 s_st_29.2.1 s_st_29.2.2 (by first | exact fun _ _ _ h => h | exact fun c a w h => HQP.out c a _ _ w h) (.inl rfl) ?_ (by assumption) ?_
  rotate_left
  · (intro w hSw; (try dsimp only at hSw); go_simp; first | done | with_reducible rfl)
  (try simp only [Act.put, List.setIfInBounds_toArray, List.set_cons_zero, List.set_cons_succ])
  refine big_take (v := ?_) ns_st i_st_30 s_st_30.1 s_st_30.2.1 s_st_30.2.2 (by first | exact fun _ _ _ h => h | exact fun c a w h => HQP.out c a _ _ w h) (.inl rfl) ?_ (by assumption) ?_
  rotate_left
  · (intro w hSw; (try dsimp only at hSw); go_simp; first | done | with_reducible rfl)
  (try simp only [Act.put, List.setIfInBounds_toArray, List.set_cons_zero, List.set_cons_succ])
  refine big_take (v := ?_) ns_st i_st_31 s_st_31.1 s_st_31.2.1 s_st_31.2.2 (by first | exact fun _ _ _ h => h | exact fun c a w h => HQP.out c a _ _ w h) (.inr ⟨_, _, _, _, rfl, i_st_30, rfl, rfl⟩) ?_ (by assumption) ?_
  rotate_left
  · (intro w hSw; (try dsimp only at hSw); go_simp; first | done | with_reducible rfl)
  (try simp only [Act.put, List.setIfInBounds_toArray, List.set_cons_zero, List.set_cons_succ])
  refine big_take (v := ?_) ns_st i_st_32 s_st_32.1 s_st_32.2.1 s_st_32.2.2 (by first | exact fun _ _ _ h => h | exact fun c a w h => HQP.out c a _ _ w h) (.inr ⟨_, _, _, _, rfl, i_st_30, rfl, rfl⟩) ?_ (by assumption) ?_
  rotate_left
  · (intro w hSw; (try dsimp only at hSw); go_simp; first | done | with_reducible rfl)
  (try simp only [Act.put, List.setIfInBounds_toArray, List.set_cons_zero, List.set_cons_succ])
  refine big_take (v := ?_) ns_st i_st_33 s_st_33.1 s_st_33.2.1 s_st_33.2.2 (by first | exact fun _ _ _ h => h | exact fun c a w h => HQP.out c a _ _ w h) (.inr ⟨_, _, _, _, rfl, i_st_30, rfl, rfl⟩) ?_ (by assumption) ?_
  rotate_left
  · (intro w hSw; (try dsimp only at hSw); go_simp; first | done | with_reducible rfl)
  (try simp only [Act.put, List.setIfInBounds_toArray, List.set_cons_zero, List.set_cons_succ])
  refine big_take (v := ?_) ns_st i_st_34 s_st_34.1 s_st_34.2.1 s_st_34.2.2 (by first | exact fun _ _ _ h => h | exact fun c a w h => HQP.out c a _ _ w h) (.inl rfl) ?_ (by assumption) ?_
  rotate_left
  · (intro w hSw; (try dsimp only at hSw); go_simp; first | done | with_reducible rfl)
  (try simp only [Act.put, List.setIfInBounds_toArray, List.set_cons_zero, List.set_cons_succ])
  refine big_take (v := ?_) ns_st i_st_35 s_st_35.1 s_st_35.2.1 s_st_35.2.2 (by first | exact fun _ _ _ h => h | exact fun c a w h => HQP.out c a _ _ w h) (.inl rfl) ?_ (by assumption) ?_
  rotate_left
  · (intro w hSw; (try dsimp only at hSw); go_simp; first | done | with_reducible rfl)
  (try simp only [Act.put, List.setIfInBounds_toArray, List.set_cons_zero, List.set_cons_succ])
  refine big_take (v := ?_) ns_st i_st_36 s_st_36.1 s_st_36.2.1 s_st_36.2.2 (by first | exact fun _ _ _ h => h | exact fun c a w h => HQP.out c a _ _ w h) (.inr ⟨_, _, _, _, rfl, i_st_35, rfl, rfl⟩) ?_ (by assumption) ?_
  rotate_left
  · (intro w hSw; (try dsimp only at hSw); go_simp; first | done | with_reducible rfl)
  (try simp only [Act.put, List.setIfInBounds_toArray, List.set_cons_zero, List.set_cons_succ])
  refine big_call i_st_37 s_st_37.1 s_st_37.2 (.inr ⟨_, _, _, _, rfl, i_st_35, rfl, rfl⟩) (fun K hK => ?_)
  go_simp
  (go_at_call 17; refine (state_any _ HF4.out).mono ?_; rintro e x5 ⟨rfl, hw⟩; obtain rfl := hw; rw [HG.out])
  refine hK.out _ _ (by (try dsimp only); first | with_reducible exact ⟨by with_reducible assumption, by with_reducible assumption, by with_reducible assumption, by with_reducible assumption, by with_reducible assumption, by with_reducible assumption, by with_reducible assumption, by with_reducible assumption, by with_reducible assumption, by with_reducible assumption, by with_reducible assumption, by with_reducible assumption, by with_reducible assumption, by with_reducible assumption⟩ | go_keep) (fun hHeld => ?_)
  clear hK K
  (try simp only [Act.put, List.setIfInBounds_toArray, List.set_cons_zero, List.set_cons_succ])
  refine big_take (v := ?_) ns_st i_st_38 s_st_38.1 s_st_38.2.1 s_st_38.2.2 (by first | exact fun _ _ _ h => h | exact fun c a w h => HQP.out c a _ _ w h) (.inr ⟨_, _, _, _, rfl, i_st_35, rfl, rfl⟩) ?_ (by assumption) ?_
  rotate_left
  · (intro w hSw; (try dsimp only at hSw); go_simp; first | done | with_reducible rfl)
  (try simp only [Act.put, List.setIfInBounds_toArray, List.set_cons_zero, List.set_cons_succ])
  refine big_take (v := ?_) ns_st i_st_39 s_st_39.1 s_st_39.2.1 s_st_39.2.2 (by first | exact fun _ _ _ h => h | exact fun c a w h => HQP.out c a _ _ w h) (.inl rfl) ?_ (by assumption) ?_
  rotate_left
  · (intro w hSw; (try dsimp only at hSw); go_simp; first | done | with_reducible rfl)
  (try simp only [Act.put, List.setIfInBounds_toArray, List.set_cons_zero, List.set_cons_succ])
  refine big_take (v := ?_) ns_st i_st_40 s_st_40.1 s_st_40.2.1 s_st_40.2.2 (by first | exact fun _ _ _ h => h | exact fun c a w h => HQP.out c a _ _ w h) (.inl rfl) ?_ (by assumption) ?_
  rotate_left
  · (intro w hSw; (try dsimp only at hSw); go_simp; first | done | with_reducible rfl)
  (try simp only [Act.put, List.setIfInBounds_toArray, List.set_cons_zero, List.set_cons_succ])
  refine big_call i_st_41 s_st_41.1 s_st_41.2 (.inr ⟨_, _, _, _, rfl, i_st_40, rfl, rfl⟩) (fun K hK => ?_)
  go_simp
  (go_at_call 8; refine (alive_any _).mono ?_; rintro e x6 ⟨rfl, hB⟩; have E6 := E4.out.below hB; obtain ⟨s1, s2, s3, s4, s5, s6, s7, s8, s9, s10, s11, s12, s13, s14⟩ := endT E6; have HB6 := Lib.hid (HB4.out.trans (hB.mono (Nat.le_of_lt HF4.out.blk.lt))); clear hB E6)
  refine hK.out _ _ (by (try dsimp only); first | with_reducible exact ⟨by with_reducible assumption, by with_reducible assumption, by with_reducible assumption, by with_reducible assumption, by with_reducible assumption, by with_reducible assumption, by with_reducible assumption, by with_reducible assumption, by with_reducible assumption, by with_reducible assumption, by with_reducible assumption, by with_reducible assumption, by with_reducible assumption, by with_reducible assumption⟩ | go_keep) (fun hHeld => ?_)
  clear hK K
  (try simp only [Act.put, List.setIfInBounds_toArray, List.set_cons_zero, List.set_cons_succ])
  refine big_take (v := ?_) ns_st i_st_42 s_st_42.1 s_st_42.2.1 s_st_42.2.2 (by first | exact fun _ _ _ h => h | exact fun c a w h => HQP.out c a _ _ w h) (.inl rfl) ?_ (by assumption) ?_
  rotate_left
  · (intro w hSw; (try dsimp only at hSw); go_simp; first | done | with_reducible rfl)
  (try simp only [Act.put, List.setIfInBounds_toArray, List.set_cons_zero, List.set_cons_succ])
  refine big_take (v := ?_) ns_st i_st_43 s_st_43.1 s_st_43.2.1 s_st_43.2.2 (by first | exact fun _ _ _ h => h | exact fun c a w h => HQP.out c a _ _ w h) (.inl rfl) ?_ (by assumption) ?_
  rotate_left
  · (intro w hSw; (try dsimp only at hSw); go_simp; first | done | with_reducible rfl)
  (try simp only [Act.put, List.setIfInBounds_toArray, List.set_cons_zero, List.set_cons_succ])
  refine wpAnyH_done e_st ?_ _
  exact HKK.out _ _ _ _ _ _ _ _ _ _ _ _ _ _ _ _ _ _ _ _ _ _ _ _ _ _ _ _ _ _ _ _ _ _ _ _ _ _ _ _ _ _ _ _ HB6.out
end Go.Proofs.Ytjiejpklcjpibaa

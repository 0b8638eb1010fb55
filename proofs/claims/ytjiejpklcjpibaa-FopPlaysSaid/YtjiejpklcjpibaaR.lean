/- The chapter's examples. No condition. -/
import Derived.Test.YtjiejpklcjpibaaQ
import Derived.Test.YtjiejpklcjpibaaXH
import Derived.Lib.SlBytesConst
namespace Go.Proofs.Ytjiejpklcjpibaa
open Go.RowKit Go.Deep Go.ChangeShapes Go.WideShapes Go.ChangeAt
set_option linter.unusedVariables false

def y0 : FS := FS.new 5 1 2 10 3
def y1 : FS := { y0 with units := [[65]] }
def y2 : FS := { y0 with units := [[65], [66]] }
def y3 : FS := { y0 with units := [[65], [66], [67]] }
def y4 : FS := { y3 with flight := 1, front := 1 }
def y5 : FS := { y3 with flight := 2, front := 2 }
def y6 : FS := { y0 with units := [[66], [67]], acked := 1, flight := 1, front := 1, now := 3, timer := 3 }
def y7 : FS := { y6 with flight := 2, front := 2 }
def y8 : FS := { y7 with now := 12 }
def y9 : FS := { y7 with now := 13, timer := 13, count := 1, flight := 1 }
def y10 : FS := { y9 with now := 14, state := 3 }
def y11 : FS := { y10 with now := 99 }
def y12 : FS := { y11 with state := 1, flight := 0, front := 0, count := 0, timer := 99, ctls := [Fm.unlock 5 1, Fm.setNext 5 1 1] }
def y13 : FS := { y12 with ctls := [Fm.setNext 5 1 1] }
def y14 : FS := { y12 with ctls := [] }
def cw1 : Cw := ⟨1, false, false, false, 0, 1⟩
def cwl : Cw := ⟨1, true, false, false, 0, 0⟩
theorem ex1 : y0.send [65] = (y1, 0) := by kernel_rfl
theorem ex2 : y1.send [66] = (y2, 0) := by kernel_rfl
theorem ex3 : y2.send [67] = (y3, 0) := by kernel_rfl
theorem ex4 : y3.next 0 = (y4, some ⟨false, false, 5, 1, 0, [65]⟩) := by kernel_rfl
theorem ex5 : y4.next 0 = (y5, some ⟨false, false, 5, 1, 1, [66]⟩) := by kernel_rfl
theorem ex6 : y5.next 0 = (y5, none) := by kernel_rfl
theorem ex7 : y5.report cw1 3 = (y6, 0) := by kernel_rfl
theorem ex8 : y6.next 3 = (y7, some ⟨false, false, 5, 1, 2, [67]⟩) := by kernel_rfl
theorem ex9 : y7.next 12 = (y8, none) := by kernel_rfl
theorem ex10 : y8.next 13 = (y9, some ⟨false, false, 5, 1, 1, [66]⟩) := by kernel_rfl
theorem ex11 : y9.report cwl 14 = (y10, 14) := by kernel_rfl
theorem ex12 : y10.next 99 = (y11, none) := by kernel_rfl
theorem ex13 : y11.unlock 99 = y12 := by kernel_rfl
theorem ex14 : y12.next 99 = (y13, some (Fm.unlock 5 1)) := by kernel_rfl
theorem ex15 : y13.next 99 = (y14, some (Fm.setNext 5 1 1)) := by kernel_rfl

theorem ok0 : y0.Ok := FS.ok_new 5 1 2 10 3
theorem ok1 : y1.Ok := by have := FS.ok_send ok0 [65]; rwa [ex1] at this
theorem ok2 : y2.Ok := by have := FS.ok_send ok1 [66]; rwa [ex2] at this
theorem ok3 : y3.Ok := by have := FS.ok_send ok2 [67]; rwa [ex3] at this
theorem ok4 : y4.Ok := by have := FS.ok_next ok3 0; rwa [ex4] at this
theorem ok5 : y5.Ok := by have := FS.ok_next ok4 0; rwa [ex5] at this
theorem ok6 : y6.Ok := by have := FS.ok_report ok5 cw1 3; rwa [ex7] at this
theorem ok7 : y7.Ok := by have := FS.ok_next ok6 3; rwa [ex8] at this
theorem ok8 : y8.Ok := by have := FS.ok_next ok7 12; rwa [ex9] at this
theorem ok9 : y9.Ok := by have := FS.ok_next ok8 13; rwa [ex10] at this
theorem ok10 : y10.Ok := by have := FS.ok_report ok9 cwl 14; rwa [ex11] at this
theorem ok11 : y11.Ok := by have := FS.ok_next ok10 99; rwa [ex12] at this
theorem ok12 : y12.Ok := by have := FS.ok_unlock ok11 99; rwa [ex13] at this
theorem ok13 : y13.Ok := by have := FS.ok_next ok12 99; rwa [ex14] at this
theorem ok14 : y14.Ok := by have := FS.ok_next ok13 99; rwa [ex15] at this
theorem FAt.mine {w w' : World} {X : Nat → Prop} {b B : Nat} {f : FS} {vU vC : Value} (h : FAt w X b f vU vC) (hB : B ≤ b) (hf : Fr (Mine b vU) w w') : Below B w w' :=
  hf.toBelow (by have := h.blk.lt; omega) (fun k hk => by
    rcases hk with hk | hk
    · omega
    · have := (h.row k hk).1; omega)
theorem FAt.mine1 {w w' : World} {X : Nat → Prop} {b B : Nat} {f : FS} {vU vC : Value} (h : FAt w X b f vU vC) (hB : B ≤ b) (hf : Fr (fun k => k = b) w w') : Below B w w' :=
  h.mine hB (hf.wide (fun k hk => .inl (.inl hk)))
/-- Send, where the result is known -/
theorem send_ex {X : Nat → Prop} {b : Nat} {f g : FS} {vU vC : Value} {l : List UInt8} {w : World} {n cap : Nat} {a : Option Addr} {r : Int} (e : f.send l = (g, r)) (h : FAt w X b f vU vC) (ok : f.Ok) (hb : BAt w a l) (hn : l.length = n) (hl : n ≤ 100000) :
    Calls Try.prog 10 #[.pointer (some ⟨b, 0, none⟩), .slice a n cap] w fun e w' => e = .returned (.int .i64 r) ∧ ∃ vU', FAt w' X b g vU' vC ∧ Below b w w' := by
  refine (send_any X b f vU vC a cap n l w h ok hb hn hl).mono ?_
  rw [e]
  rintro e w' ⟨rfl, vU', h1, -, h2⟩
  exact ⟨rfl, vU', h1, h.mine (Nat.le_refl _) h2⟩
theorem next_ex {X : Nat → Prop} {b : Nat} {f g : FS} {vU vC : Value} {w : World} {t : Int} {b1 b2 : Bool} {i1 i2 i3 : Int} {l : List UInt8} {n : Nat} (e : f.next t = (g, some ⟨b1, b2, i1, i2, i3, l⟩)) (h : FAt w X b f vU vC) (ok : f.Ok) (hA : f.acked ≤ 1000000000) (hn : l.length = n) :
    Calls Try.prog 12 #[.pointer (some ⟨b, 0, none⟩), .int .i64 t] w fun e w' => ∃ a c vC', e = .returned (.tuple #[.agg #[.bool b1, .bool b2, .int .i64 i1, .int .i64 i2, .int .i64 i3, .slice a n c], .bool true]) ∧ Hid (w'.ownsRow w.heap.size 5 1 (.slice a n c) n (encB l)) ∧ Hid (FAt w' X b g vU vC') ∧ Hid (Fr (fun k => k = b) w w') ∧ Hid (Below b w w') := by
  subst hn
  refine (next_any X b f vU vC t w h ok hA).mono ?_
  rw [e]
  rintro e w' ⟨v, vC', rfl, h1, h2, h3⟩
  obtain ⟨-, a, c, rfl, hc, hm, -⟩ := BAt.of_row h1
  exact ⟨a, c, vC', rfl, Lib.hid h1, Lib.hid h2, Lib.hid h3, Lib.hid (h.mine1 (Nat.le_refl _) h3)⟩
theorem next_no {X : Nat → Prop} {b : Nat} {f g : FS} {vU vC : Value} {w : World} {t : Int} (e : f.next t = (g, none)) (h : FAt w X b f vU vC) (ok : f.Ok) (hA : f.acked ≤ 1000000000) :
    Calls Try.prog 12 #[.pointer (some ⟨b, 0, none⟩), .int .i64 t] w fun e w' => ∃ a c vC', e = .returned (.tuple #[.agg #[.bool false, .bool false, .int .i64 0, .int .i64 0, .int .i64 0, .slice a 0 c], .bool false]) ∧ Hid (FAt w' X b g vU vC') ∧ Hid (Fr (fun k => k = b) w w') ∧ Hid (Below b w w') := by
  refine (next_any X b f vU vC t w h ok hA).mono ?_
  rw [e]
  rintro e w' ⟨v, vC', rfl, h1, h2, h3⟩
  obtain ⟨-, a, c, rfl, hc, hm, -⟩ := BAt.of_row (l := []) h1
  exact ⟨a, c, vC', rfl, Lib.hid h2, Lib.hid h3, Lib.hid (h.mine1 (Nat.le_refl _) h3)⟩
theorem lit1 (w : World) (x : UInt8) (m : Nat × Nat) : BAt (w.alloc (.cells #[.int .u8 (x.toNat : Int)] 5 m)) (some ⟨w.heap.size, 0, none⟩) [x] := by
  refine .inr ⟨_, _, rfl, by simp, fun i hi => ?_⟩
  rw [Joins.cell_alloc_mark_at _ _ _ _ _ _ rfl]
  match i, hi with
  | 0, _ => rfl
theorem word_any (n : Int) (w : World) : Calls Try.prog 18 #[.int .i64 n] w fun e w' => e = .returned (cwV ⟨1, false, false, false, 0, n⟩) ∧ Below w.heap.size w w' := by
  go_enter Try.func18, Try.ntmps18
  go_wp2_with fail
  exact bodyPost_ret (v := cwV ⟨1, false, false, false, 0, n⟩) (by simp [results, Try.results18, go_sem, cwV]) rfl ⟨rfl, al (Below.refl _ _) _⟩
theorem report_ex {X : Nat → Prop} {b : Nat} {f g : FS} {vU vC : Value} {w : World} {c : Cw} {t r : Int} (e : f.report c t = (g, r)) (h : FAt w X b f vU vC) (ok : f.Ok) (hA : f.acked ≤ 1000000000) :
    Calls Try.prog 15 #[.pointer (some ⟨b, 0, none⟩), cwV c, .int .i64 t] w fun e w' => ∃ vU', e = .returned (.int .i64 r) ∧ Hid (FAt w' X b g vU' vC) ∧ Hid (Fr (fun k => k = b) w w') ∧ Hid (Below b w w') := by
  refine (report_any X b f vU vC c t w h ok hA).mono ?_
  rw [e]
  rintro e w' ⟨vU', rfl, h1, -, h3⟩
  exact ⟨vU', rfl, Lib.hid h1, Lib.hid h3, Lib.hid (h.mine1 (Nat.le_refl _) h3)⟩
theorem unlock_ex {X : Nat → Prop} {b : Nat} {f g : FS} {vU vC : Value} {w : World} {t : Int} (e : f.unlock t = g) (h : FAt w X b f vU vC) :
    Calls Try.prog 19 #[.pointer (some ⟨b, 0, none⟩), .int .i64 t] w fun e w' => ∃ vC', e = .returned (.int .i64 0) ∧ Hid (FAt w' X b g vU vC') ∧ Hid (Fr (fun k => k = b) w w') ∧ Hid (Below b w w') := by
  refine (unlock_any X b f vU vC t w h).mono ?_
  rw [e]
  rintro e w' ⟨rfl, vC', h1, h3⟩
  exact ⟨vC', rfl, Lib.hid h1, Lib.hid h3, Lib.hid (h.mine1 (Nat.le_refl _) h3)⟩
def EndB (w : World) (p5 p6 p9 p11 p15 p16 : Nat) (a5 a6 a9 a11 a15 a16 : Option Addr) (c5 c6 c9 c11 c15 c16 : Nat) : Prop :=
  Blk w p5 33 [.bool false, .bool false, .int .i64 5, .int .i64 1, .int .i64 0, .slice a5 1 c5] ∧ Blk w p6 33 [.bool false, .bool false, .int .i64 5, .int .i64 1, .int .i64 1, .slice a6 1 c6] ∧ Blk w p9 33 [.bool false, .bool false, .int .i64 5, .int .i64 1, .int .i64 2, .slice a9 1 c9] ∧ Blk w p11 33 [.bool false, .bool false, .int .i64 5, .int .i64 1, .int .i64 1, .slice a11 1 c11] ∧ Blk w p15 33 [.bool true, .bool true, .int .i64 5, .int .i64 1, .int .i64 0, .slice a15 1 c15] ∧ Blk w p16 33 [.bool true, .bool true, .int .i64 5, .int .i64 1, .int .i64 0, .slice a16 3 c16] ∧ BAt w a6 [66] ∧ BAt w a15 [0] ∧ BAt w a16 [130, 0, 1]
section
variable {w w' : World} {p5 p6 p9 p11 p15 p16 : Nat} {a5 a6 a9 a11 a15 a16 : Option Addr} {c5 c6 c9 c11 c15 c16 : Nat}
theorem EndB.below (h : EndB w p5 p6 p9 p11 p15 p16 a5 a6 a9 a11 a15 a16 c5 c6 c9 c11 c15 c16) (hB : Below w.heap.size w w') : EndB w' p5 p6 p9 p11 p15 p16 a5 a6 a9 a11 a15 a16 c5 c6 c9 c11 c15 c16 := by
  obtain ⟨h1, h2, h3, h4, h5, h6, h7, h8, h9⟩ := h
  have hl := Nat.le_refl w.heap.size
  exact ⟨h1.below hB hl, h2.below hB hl, h3.below hB hl, h4.below hB hl, h5.below hB hl, h6.below hB hl, h7.below hB hl, h8.below hB hl, h9.below hB hl⟩
theorem endS (h : EndB w p5 p6 p9 p11 p15 p16 a5 a6 a9 a11 a15 a16 c5 c6 c9 c11 c15 c16) : w.cell? ⟨p5, 4, none⟩ = some (.int .i64 0) ∧ w.cell? ⟨p6, 4, none⟩ = some (.int .i64 1) ∧ w.cell? ⟨p6, 5, none⟩ = some (.slice a6 1 c6) ∧ w.cell? ⟨p9, 4, none⟩ = some (.int .i64 2) ∧ w.cell? ⟨p11, 4, none⟩ = some (.int .i64 1) ∧ w.cell? ⟨p15, 0, none⟩ = some (.bool true) ∧ w.cell? ⟨p15, 1, none⟩ = some (.bool true) ∧ w.cell? ⟨p15, 2, none⟩ = some (.int .i64 5) ∧ w.cell? ⟨p15, 3, none⟩ = some (.int .i64 1) ∧ w.cell? ⟨p15, 4, none⟩ = some (.int .i64 0) ∧ w.cell? ⟨p15, 5, none⟩ = some (.slice a15 1 c15) ∧ w.cell? ⟨p16, 0, none⟩ = some (.bool true) ∧ w.cell? ⟨p16, 1, none⟩ = some (.bool true) ∧ w.cell? ⟨p16, 2, none⟩ = some (.int .i64 5) ∧ w.cell? ⟨p16, 3, none⟩ = some (.int .i64 1) ∧ w.cell? ⟨p16, 4, none⟩ = some (.int .i64 0) ∧ w.cell? ⟨p16, 5, none⟩ = some (.slice a16 3 c16) ∧ (convert 23 9 (.slice a6 1 c6)).run Try.prog w = .ok (.string ⟨#[66]⟩) w := by
  obtain ⟨h1, h2, h3, h4, h5, h6, h7, h8, h9⟩ := h
  exact ⟨h1.at 4 rfl, h2.at 4 rfl, h2.at 5 rfl, h3.at 4 rfl, h4.at 4 rfl, h5.at 0 rfl, h5.at 1 rfl, h5.at 2 rfl, h5.at 3 rfl, h5.at 4 rfl, h5.at 5 rfl, h6.at 0 rfl, h6.at 1 rfl, h6.at 2 rfl, h6.at 3 rfl, h6.at 4 rfl, h6.at 5 rfl, str_n 1 c6 rfl h7⟩
end
noncomputable def o_al : Array Oper := opsIn 17 Try.f8
theorem ns_al : Region.noSelect o_al = true := by kernel_rfl
theorem n_al : o_al.size = 96 := by kernel_rfl
def l_al_0 : Array Bool := #[false, false, false, false, false, false, false, false, false, false, false, false, false, false, false, false, false, false, false, false, false, false, false, false, false, false, false, false, false, false, false, false, false, false, false, false, false, false, false, false, false, false, false, false, false, false, false, false, false, false, false, false, false, false, false, false, false, false, false, false, false, false, false, false, false, false, false, false, false, false, false, false, false, false, false, false, false, false, false, false, false, false, false, false, false, false, false, false, false, false, false, false, false, false, false, false]
def l_al_1 : Array Bool := #[true, false, false, false, false, false, false, false, false, false, false, false, false, false, false, false, false, false, false, false, false, false, false, false, false, false, false, false, false, false, false, false, false, false, false, false, false, false, false, false, false, false, false, false, false, false, false, false, false, false, false, false, false, false, false, false, false, false, false, false, false, false, false, false, false, false, false, false, false, false, false, false, false, false, false, false, false, false, false, false, false, false, false, false, false, false, false, false, false, false, false, false, false, false, false, false]
def l_al_2 : Array Bool := #[true, true, false, false, false, false, false, false, false, false, false, false, false, false, false, false, false, false, false, false, false, false, false, false, false, false, false, false, false, false, false, false, false, false, false, false, false, false, false, false, false, false, false, false, false, false, false, false, false, false, false, false, false, false, false, false, false, false, false, false, false, false, false, false, false, false, false, false, false, false, false, false, false, false, false, false, false, false, false, false, false, false, false, false, false, false, false, false, false, false, false, false, false, false, false, false]
def l_al_3 : Array Bool := #[true, true, true, false, false, false, false, false, false, false, false, false, false, false, false, false, false, false, false, false, false, false, false, false, false, false, false, false, false, false, false, false, false, false, false, false, false, false, false, false, false, false, false, false, false, false, false, false, false, false, false, false, false, false, false, false, false, false, false, false, false, false, false, false, false, false, false, false, false, false, false, false, false, false, false, false, false, false, false, false, false, false, false, false, false, false, false, false, false, false, false, false, false, false, false, false]
def l_al_4 : Array Bool := #[true, true, true, true, false, false, false, false, false, false, false, false, false, false, false, false, false, false, false, false, false, false, false, false, false, false, false, false, false, false, false, false, false, false, false, false, false, false, false, false, false, false, false, false, false, false, false, false, false, false, false, false, false, false, false, false, false, false, false, false, false, false, false, false, false, false, false, false, false, false, false, false, false, false, false, false, false, false, false, false, false, false, false, false, false, false, false, false, false, false, false, false, false, false, false, false]
def l_al_5 : Array Bool := #[true, true, true, true, true, false, false, false, false, false, false, false, false, false, false, false, false, false, false, false, false, false, false, false, false, false, false, false, false, false, false, false, false, false, false, false, false, false, false, false, false, false, false, false, false, false, false, false, false, false, false, false, false, false, false, false, false, false, false, false, false, false, false, false, false, false, false, false, false, false, false, false, false, false, false, false, false, false, false, false, false, false, false, false, false, false, false, false, false, false, false, false, false, false, false, false]
def l_al_6 : Array Bool := #[true, true, true, true, true, true, false, false, false, false, false, false, false, false, false, false, false, false, false, false, false, false, false, false, false, false, false, false, false, false, false, false, false, false, false, false, false, false, false, false, false, false, false, false, false, false, false, false, false, false, false, false, false, false, false, false, false, false, false, false, false, false, false, false, false, false, false, false, false, false, false, false, false, false, false, false, false, false, false, false, false, false, false, false, false, false, false, false, false, false, false, false, false, false, false, false]
def l_al_7 : Array Bool := #[true, true, true, true, true, true, true, false, false, false, false, false, false, false, false, false, false, false, false, false, false, false, false, false, false, false, false, false, false, false, false, false, false, false, false, false, false, false, false, false, false, false, false, false, false, false, false, false, false, false, false, false, false, false, false, false, false, false, false, false, false, false, false, false, false, false, false, false, false, false, false, false, false, false, false, false, false, false, false, false, false, false, false, false, false, false, false, false, false, false, false, false, false, false, false, false]
def l_al_8 : Array Bool := #[true, true, true, true, true, true, true, true, false, false, false, false, false, false, false, false, false, false, false, false, false, false, false, false, false, false, false, false, false, false, false, false, false, false, false, false, false, false, false, false, false, false, false, false, false, false, false, false, false, false, false, false, false, false, false, false, false, false, false, false, false, false, false, false, false, false, false, false, false, false, false, false, false, false, false, false, false, false, false, false, false, false, false, false, false, false, false, false, false, false, false, false, false, false, false, false]
def l_al_9 : Array Bool := #[true, true, true, true, true, true, true, true, true, false, false, false, false, false, false, false, false, false, false, false, false, false, false, false, false, false, false, false, false, false, false, false, false, false, false, false, false, false, false, false, false, false, false, false, false, false, false, false, false, false, false, false, false, false, false, false, false, false, false, false, false, false, false, false, false, false, false, false, false, false, false, false, false, false, false, false, false, false, false, false, false, false, false, false, false, false, false, false, false, false, false, false, false, false, false, false]
def l_al_10 : Array Bool := #[true, true, true, true, true, true, true, true, true, true, false, false, false, false, false, false, false, false, false, false, false, false, false, false, false, false, false, false, false, false, false, false, false, false, false, false, false, false, false, false, false, false, false, false, false, false, false, false, false, false, false, false, false, false, false, false, false, false, false, false, false, false, false, false, false, false, false, false, false, false, false, false, false, false, false, false, false, false, false, false, false, false, false, false, false, false, false, false, false, false, false, false, false, false, false, false]
def l_al_11 : Array Bool := #[true, true, true, true, true, true, true, true, true, true, true, false, false, false, false, false, false, false, false, false, false, false, false, false, false, false, false, false, false, false, false, false, false, false, false, false, false, false, false, false, false, false, false, false, false, false, false, false, false, false, false, false, false, false, false, false, false, false, false, false, false, false, false, false, false, false, false, false, false, false, false, false, false, false, false, false, false, false, false, false, false, false, false, false, false, false, false, false, false, false, false, false, false, false, false, false]
def l_al_12 : Array Bool := #[true, true, true, true, true, true, true, true, true, true, true, true, false, false, false, false, false, false, false, false, false, false, false, false, false, false, false, false, false, false, false, false, false, false, false, false, false, false, false, false, false, false, false, false, false, false, false, false, false, false, false, false, false, false, false, false, false, false, false, false, false, false, false, false, false, false, false, false, false, false, false, false, false, false, false, false, false, false, false, false, false, false, false, false, false, false, false, false, false, false, false, false, false, false, false, false]
def l_al_13 : Array Bool := #[true, true, true, true, true, true, true, true, true, true, true, true, true, false, false, false, false, false, false, false, false, false, false, false, false, false, false, false, false, false, false, false, false, false, false, false, false, false, false, false, false, false, false, false, false, false, false, false, false, false, false, false, false, false, false, false, false, false, false, false, false, false, false, false, false, false, false, false, false, false, false, false, false, false, false, false, false, false, false, false, false, false, false, false, false, false, false, false, false, false, false, false, false, false, false, false]
def l_al_14 : Array Bool := #[true, true, true, true, true, true, true, true, true, true, true, true, true, true, false, false, false, false, false, false, false, false, false, false, false, false, false, false, false, false, false, false, false, false, false, false, false, false, false, false, false, false, false, false, false, false, false, false, false, false, false, false, false, false, false, false, false, false, false, false, false, false, false, false, false, false, false, false, false, false, false, false, false, false, false, false, false, false, false, false, false, false, false, false, false, false, false, false, false, false, false, false, false, false, false, false]
def l_al_15 : Array Bool := #[true, true, true, true, true, true, true, true, true, true, true, true, true, true, true, false, false, false, false, false, false, false, false, false, false, false, false, false, false, false, false, false, false, false, false, false, false, false, false, false, false, false, false, false, false, false, false, false, false, false, false, false, false, false, false, false, false, false, false, false, false, false, false, false, false, false, false, false, false, false, false, false, false, false, false, false, false, false, false, false, false, false, false, false, false, false, false, false, false, false, false, false, false, false, false, false]
def l_al_16 : Array Bool := #[true, true, true, true, true, true, true, true, true, true, true, true, true, true, true, true, false, false, false, false, false, false, false, false, false, false, false, false, false, false, false, false, false, false, false, false, false, false, false, false, false, false, false, false, false, false, false, false, false, false, false, false, false, false, false, false, false, false, false, false, false, false, false, false, false, false, false, false, false, false, false, false, false, false, false, false, false, false, false, false, false, false, false, false, false, false, false, false, false, false, false, false, false, false, false, false]
def l_al_17 : Array Bool := #[true, true, true, true, true, true, true, true, true, true, true, true, true, true, true, true, true, false, false, false, false, false, false, false, false, false, false, false, false, false, false, false, false, false, false, false, false, false, false, false, false, false, false, false, false, false, false, false, false, false, false, false, false, false, false, false, false, false, false, false, false, false, false, false, false, false, false, false, false, false, false, false, false, false, false, false, false, false, false, false, false, false, false, false, false, false, false, false, false, false, false, false, false, false, false, false]
def l_al_18 : Array Bool := #[true, true, true, true, true, true, true, true, true, true, true, true, true, true, true, true, true, true, false, false, false, false, false, false, false, false, false, false, false, false, false, false, false, false, false, false, false, false, false, false, false, false, false, false, false, false, false, false, false, false, false, false, false, false, false, false, false, false, false, false, false, false, false, false, false, false, false, false, false, false, false, false, false, false, false, false, false, false, false, false, false, false, false, false, false, false, false, false, false, false, false, false, false, false, false, false]
def l_al_19 : Array Bool := #[true, true, true, true, true, true, true, true, true, true, true, true, true, true, true, true, true, true, true, false, false, false, false, false, false, false, false, false, false, false, false, false, false, false, false, false, false, false, false, false, false, false, false, false, false, false, false, false, false, false, false, false, false, false, false, false, false, false, false, false, false, false, false, false, false, false, false, false, false, false, false, false, false, false, false, false, false, false, false, false, false, false, false, false, false, false, false, false, false, false, false, false, false, false, false, false]
def l_al_20 : Array Bool := #[true, true, true, true, true, true, true, true, true, true, true, true, true, true, true, true, true, true, true, true, false, false, false, false, false, false, false, false, false, false, false, false, false, false, false, false, false, false, false, false, false, false, false, false, false, false, false, false, false, false, false, false, false, false, false, false, false, false, false, false, false, false, false, false, false, false, false, false, false, false, false, false, false, false, false, false, false, false, false, false, false, false, false, false, false, false, false, false, false, false, false, false, false, false, false, false]
def l_al_21 : Array Bool := #[true, true, true, true, true, true, true, true, true, true, true, true, true, true, true, true, true, true, true, true, true, false, false, false, false, false, false, false, false, false, false, false, false, false, false, false, false, false, false, false, false, false, false, false, false, false, false, false, false, false, false, false, false, false, false, false, false, false, false, false, false, false, false, false, false, false, false, false, false, false, false, false, false, false, false, false, false, false, false, false, false, false, false, false, false, false, false, false, false, false, false, false, false, false, false, false]
def l_al_22 : Array Bool := #[true, true, true, true, true, true, true, true, true, true, true, true, true, true, true, true, true, true, true, true, true, true, false, false, false, false, false, false, false, false, false, false, false, false, false, false, false, false, false, false, false, false, false, false, false, false, false, false, false, false, false, false, false, false, false, false, false, false, false, false, false, false, false, false, false, false, false, false, false, false, false, false, false, false, false, false, false, false, false, false, false, false, false, false, false, false, false, false, false, false, false, false, false, false, false, false]
def l_al_23 : Array Bool := #[true, true, true, true, true, true, true, true, true, true, true, true, true, true, true, true, true, true, true, true, true, true, true, false, false, false, false, false, false, false, false, false, false, false, false, false, false, false, false, false, false, false, false, false, false, false, false, false, false, false, false, false, false, false, false, false, false, false, false, false, false, false, false, false, false, false, false, false, false, false, false, false, false, false, false, false, false, false, false, false, false, false, false, false, false, false, false, false, false, false, false, false, false, false, false, false]
def l_al_24 : Array Bool := #[true, true, true, true, true, true, true, true, true, true, true, true, true, true, true, true, true, true, true, true, true, true, true, true, false, false, false, false, false, false, false, false, false, false, false, false, false, false, false, false, false, false, false, false, false, false, false, false, false, false, false, false, false, false, false, false, false, false, false, false, false, false, false, false, false, false, false, false, false, false, false, false, false, false, false, false, false, false, false, false, false, false, false, false, false, false, false, false, false, false, false, false, false, false, false, false]
def l_al_25 : Array Bool := #[true, true, true, true, true, true, true, true, true, true, true, true, true, true, true, true, true, true, true, true, true, true, true, true, true, false, false, false, false, false, false, false, false, false, false, false, false, false, false, false, false, false, false, false, false, false, false, false, false, false, false, false, false, false, false, false, false, false, false, false, false, false, false, false, false, false, false, false, false, false, false, false, false, false, false, false, false, false, false, false, false, false, false, false, false, false, false, false, false, false, false, false, false, false, false, false]
def l_al_26 : Array Bool := #[true, true, true, true, true, true, true, true, true, true, true, true, true, true, true, true, true, true, true, true, true, true, true, true, true, true, false, false, false, false, false, false, false, false, false, false, false, false, false, false, false, false, false, false, false, false, false, false, false, false, false, false, false, false, false, false, false, false, false, false, false, false, false, false, false, false, false, false, false, false, false, false, false, false, false, false, false, false, false, false, false, false, false, false, false, false, false, false, false, false, false, false, false, false, false, false]
def l_al_27 : Array Bool := #[true, true, true, true, true, true, true, true, true, true, true, true, true, true, true, true, true, true, true, true, true, true, true, true, true, true, true, false, false, false, false, false, false, false, false, false, false, false, false, false, false, false, false, false, false, false, false, false, false, false, false, false, false, false, false, false, false, false, false, false, false, false, false, false, false, false, false, false, false, false, false, false, false, false, false, false, false, false, false, false, false, false, false, false, false, false, false, false, false, false, false, false, false, false, false, false]
def l_al_28 : Array Bool := #[true, true, true, true, true, true, true, true, true, true, true, true, true, true, true, true, true, true, true, true, true, true, true, true, true, true, true, true, false, false, false, false, false, false, false, false, false, false, false, false, false, false, false, false, false, false, false, false, false, false, false, false, false, false, false, false, false, false, false, false, false, false, false, false, false, false, false, false, false, false, false, false, false, false, false, false, false, false, false, false, false, false, false, false, false, false, false, false, false, false, false, false, false, false, false, false]
def l_al_29 : Array Bool := #[true, true, true, true, true, true, true, true, true, true, true, true, true, true, true, true, true, true, true, true, true, true, true, true, true, true, true, true, true, false, false, false, false, false, false, false, false, false, false, false, false, false, false, false, false, false, false, false, false, false, false, false, false, false, false, false, false, false, false, false, false, false, false, false, false, false, false, false, false, false, false, false, false, false, false, false, false, false, false, false, false, false, false, false, false, false, false, false, false, false, false, false, false, false, false, false]
def l_al_30 : Array Bool := #[true, true, true, true, true, true, true, true, true, true, true, true, true, true, true, true, true, true, true, true, true, true, true, true, true, true, true, true, true, true, false, false, false, false, false, false, false, false, false, false, false, false, false, false, false, false, false, false, false, false, false, false, false, false, false, false, false, false, false, false, false, false, false, false, false, false, false, false, false, false, false, false, false, false, false, false, false, false, false, false, false, false, false, false, false, false, false, false, false, false, false, false, false, false, false, false]
def l_al_31 : Array Bool := #[true, true, true, true, true, true, true, true, true, true, true, true, true, true, true, true, true, true, true, true, true, true, true, true, true, true, true, true, true, true, true, false, false, false, false, false, false, false, false, false, false, false, false, false, false, false, false, false, false, false, false, false, false, false, false, false, false, false, false, false, false, false, false, false, false, false, false, false, false, false, false, false, false, false, false, false, false, false, false, false, false, false, false, false, false, false, false, false, false, false, false, false, false, false, false, false]
def l_al_32 : Array Bool := #[true, true, true, true, true, true, true, true, true, true, true, true, true, true, true, true, true, true, true, true, true, true, true, true, true, true, true, true, true, true, true, true, false, false, false, false, false, false, false, false, false, false, false, false, false, false, false, false, false, false, false, false, false, false, false, false, false, false, false, false, false, false, false, false, false, false, false, false, false, false, false, false, false, false, false, false, false, false, false, false, false, false, false, false, false, false, false, false, false, false, false, false, false, false, false, false]
def l_al_33 : Array Bool := #[true, true, true, true, true, true, true, true, true, true, true, true, true, true, true, true, true, true, true, true, true, true, true, true, true, true, true, true, true, true, true, true, true, false, false, false, false, false, false, false, false, false, false, false, false, false, false, false, false, false, false, false, false, false, false, false, false, false, false, false, false, false, false, false, false, false, false, false, false, false, false, false, false, false, false, false, false, false, false, false, false, false, false, false, false, false, false, false, false, false, false, false, false, false, false, false]
def l_al_34 : Array Bool := #[true, true, true, true, true, true, true, true, true, true, true, true, true, true, true, true, true, true, true, true, true, true, true, true, true, true, true, true, true, true, true, true, true, true, false, false, false, false, false, false, false, false, false, false, false, false, false, false, false, false, false, false, false, false, false, false, false, false, false, false, false, false, false, false, false, false, false, false, false, false, false, false, false, false, false, false, false, false, false, false, false, false, false, false, false, false, false, false, false, false, false, false, false, false, false, false]
def l_al_35 : Array Bool := #[true, true, true, true, true, true, true, true, true, true, true, true, true, true, true, true, true, true, true, true, true, true, true, true, true, true, true, true, true, true, true, true, true, true, true, false, false, false, false, false, false, false, false, false, false, false, false, false, false, false, false, false, false, false, false, false, false, false, false, false, false, false, false, false, false, false, false, false, false, false, false, false, false, false, false, false, false, false, false, false, false, false, false, false, false, false, false, false, false, false, false, false, false, false, false, false]
def l_al_36 : Array Bool := #[true, true, true, true, true, true, true, true, true, true, true, true, true, true, true, true, true, true, true, true, true, true, true, true, true, true, true, true, true, true, true, true, true, true, true, true, false, false, false, false, false, false, false, false, false, false, false, false, false, false, false, false, false, false, false, false, false, false, false, false, false, false, false, false, false, false, false, false, false, false, false, false, false, false, false, false, false, false, false, false, false, false, false, false, false, false, false, false, false, false, false, false, false, false, false, false]
def l_al_37 : Array Bool := #[true, true, true, true, true, true, true, true, true, true, true, true, true, true, true, true, true, true, true, true, true, true, true, true, true, true, true, true, true, true, true, true, true, true, true, true, true, false, false, false, false, false, false, false, false, false, false, false, false, false, false, false, false, false, false, false, false, false, false, false, false, false, false, false, false, false, false, false, false, false, false, false, false, false, false, false, false, false, false, false, false, false, false, false, false, false, false, false, false, false, false, false, false, false, false, false]
def l_al_38 : Array Bool := #[true, true, true, true, true, true, true, true, true, true, true, true, true, true, true, true, true, true, true, true, true, true, true, true, true, true, true, true, true, true, true, true, true, true, true, true, true, true, false, false, false, false, false, false, false, false, false, false, false, false, false, false, false, false, false, false, false, false, false, false, false, false, false, false, false, false, false, false, false, false, false, false, false, false, false, false, false, false, false, false, false, false, false, false, false, false, false, false, false, false, false, false, false, false, false, false]
def l_al_39 : Array Bool := #[true, true, true, true, true, true, true, true, true, true, true, true, true, true, true, true, true, true, true, true, true, true, true, true, true, true, true, true, true, true, true, true, true, true, true, true, true, true, true, false, false, false, false, false, false, false, false, false, false, false, false, false, false, false, false, false, false, false, false, false, false, false, false, false, false, false, false, false, false, false, false, false, false, false, false, false, false, false, false, false, false, false, false, false, false, false, false, false, false, false, false, false, false, false, false, false]
def l_al_40 : Array Bool := #[true, true, true, true, true, true, true, true, true, true, true, true, true, true, true, true, true, true, true, true, true, true, true, true, true, true, true, true, true, true, true, true, true, true, true, true, true, true, true, true, false, false, false, false, false, false, false, false, false, false, false, false, false, false, false, false, false, false, false, false, false, false, false, false, false, false, false, false, false, false, false, false, false, false, false, false, false, false, false, false, false, false, false, false, false, false, false, false, false, false, false, false, false, false, false, false]
def l_al_41 : Array Bool := #[true, true, true, true, true, true, true, true, true, true, true, true, true, true, true, true, true, true, true, true, true, true, true, true, true, true, true, true, true, true, true, true, true, true, true, true, true, true, true, true, true, false, false, false, false, false, false, false, false, false, false, false, false, false, false, false, false, false, false, false, false, false, false, false, false, false, false, false, false, false, false, false, false, false, false, false, false, false, false, false, false, false, false, false, false, false, false, false, false, false, false, false, false, false, false, false]
def l_al_42 : Array Bool := #[true, true, true, true, true, true, true, true, true, true, true, true, true, true, true, true, true, true, true, true, true, true, true, true, true, true, true, true, true, true, true, true, true, true, true, true, true, true, true, true, true, true, false, false, false, false, false, false, false, false, false, false, false, false, false, false, false, false, false, false, false, false, false, false, false, false, false, false, false, false, false, false, false, false, false, false, false, false, false, false, false, false, false, false, false, false, false, false, false, false, false, false, false, false, false, false]
def l_al_43 : Array Bool := #[true, true, true, true, true, true, true, true, true, true, true, true, true, true, true, true, true, true, true, true, true, true, true, true, true, true, true, true, true, true, true, true, true, true, true, true, true, true, true, true, true, true, true, false, false, false, false, false, false, false, false, false, false, false, false, false, false, false, false, false, false, false, false, false, false, false, false, false, false, false, false, false, false, false, false, false, false, false, false, false, false, false, false, false, false, false, false, false, false, false, false, false, false, false, false, false]
def l_al_44 : Array Bool := #[true, true, true, true, true, true, true, true, true, true, true, true, true, true, true, true, true, true, true, true, true, true, true, true, true, true, true, true, true, true, true, true, true, true, true, true, true, true, true, true, true, true, true, true, false, false, false, false, false, false, false, false, false, false, false, false, false, false, false, false, false, false, false, false, false, false, false, false, false, false, false, false, false, false, false, false, false, false, false, false, false, false, false, false, false, false, false, false, false, false, false, false, false, false, false, false]
def l_al_45 : Array Bool := #[true, true, true, true, true, true, true, true, true, true, true, true, true, true, true, true, true, true, true, true, true, true, true, true, true, true, true, true, true, true, true, true, true, true, true, true, true, true, true, true, true, true, true, true, true, false, false, false, false, false, false, false, false, false, false, false, false, false, false, false, false, false, false, false, false, false, false, false, false, false, false, false, false, false, false, false, false, false, false, false, false, false, false, false, false, false, false, false, false, false, false, false, false, false, false, false]
def l_al_46 : Array Bool := #[true, true, true, true, true, true, true, true, true, true, true, true, true, true, true, true, true, true, true, true, true, true, true, true, true, true, true, true, true, true, true, true, true, true, true, true, true, true, true, true, true, true, true, true, true, true, false, false, false, false, false, false, false, false, false, false, false, false, false, false, false, false, false, false, false, false, false, false, false, false, false, false, false, false, false, false, false, false, false, false, false, false, false, false, false, false, false, false, false, false, false, false, false, false, false, false]
def l_al_47 : Array Bool := #[true, true, true, true, true, true, true, true, true, true, true, true, true, true, true, true, true, true, true, true, true, true, true, true, true, true, true, true, true, true, true, true, true, true, true, true, true, true, true, true, true, true, true, true, true, true, true, false, false, false, false, false, false, false, false, false, false, false, false, false, false, false, false, false, false, false, false, false, false, false, false, false, false, false, false, false, false, false, false, false, false, false, false, false, false, false, false, false, false, false, false, false, false, false, false, false]
def l_al_48 : Array Bool := #[true, true, true, true, true, true, true, true, true, true, true, true, true, true, true, true, true, true, true, true, true, true, true, true, true, true, true, true, true, true, true, true, true, true, true, true, true, true, true, true, true, true, true, true, true, true, true, true, false, false, false, false, false, false, false, false, false, false, false, false, false, false, false, false, false, false, false, false, false, false, false, false, false, false, false, false, false, false, false, false, false, false, false, false, false, false, false, false, false, false, false, false, false, false, false, false]
def l_al_49 : Array Bool := #[true, true, true, true, true, true, true, true, true, true, true, true, true, true, true, true, true, true, true, true, true, true, true, true, true, true, true, true, true, true, true, true, true, true, true, true, true, true, true, true, true, true, true, true, true, true, true, true, true, false, false, false, false, false, false, false, false, false, false, false, false, false, false, false, false, false, false, false, false, false, false, false, false, false, false, false, false, false, false, false, false, false, false, false, false, false, false, false, false, false, false, false, false, false, false, false]
def l_al_50 : Array Bool := #[true, true, true, true, true, true, true, true, true, true, true, true, true, true, true, true, true, true, true, true, true, true, true, true, true, true, true, true, true, true, true, true, true, true, true, true, true, true, true, true, true, true, true, true, true, true, true, true, true, true, false, false, false, false, false, false, false, false, false, false, false, false, false, false, false, false, false, false, false, false, false, false, false, false, false, false, false, false, false, false, false, false, false, false, false, false, false, false, false, false, false, false, false, false, false, false]
def l_al_51 : Array Bool := #[true, true, true, true, true, true, true, true, true, true, true, true, true, true, true, true, true, true, true, true, true, true, true, true, true, true, true, true, true, true, true, true, true, true, true, true, true, true, true, true, true, true, true, true, true, true, true, true, true, true, true, false, false, false, false, false, false, false, false, false, false, false, false, false, false, false, false, false, false, false, false, false, false, false, false, false, false, false, false, false, false, false, false, false, false, false, false, false, false, false, false, false, false, false, false, false]
def l_al_52 : Array Bool := #[true, true, true, true, true, true, true, true, true, true, true, true, true, true, true, true, true, true, true, true, true, true, true, true, true, true, true, true, true, true, true, true, true, true, true, true, true, true, true, true, true, true, true, true, true, true, true, true, true, true, true, true, false, false, false, false, false, false, false, false, false, false, false, false, false, false, false, false, false, false, false, false, false, false, false, false, false, false, false, false, false, false, false, false, false, false, false, false, false, false, false, false, false, false, false, false]
def l_al_53 : Array Bool := #[true, true, true, true, true, true, true, true, true, true, true, true, true, true, true, true, true, true, true, true, true, true, true, true, true, true, true, true, true, true, true, true, true, true, true, true, true, true, true, true, true, true, true, true, true, true, true, true, true, true, true, true, true, false, false, false, false, false, false, false, false, false, false, false, false, false, false, false, false, false, false, false, false, false, false, false, false, false, false, false, false, false, false, false, false, false, false, false, false, false, false, false, false, false, false, false]
def l_al_54 : Array Bool := #[true, true, true, true, true, true, true, true, true, true, true, true, true, true, true, true, true, true, true, true, true, true, true, true, true, true, true, true, true, true, true, true, true, true, true, true, true, true, true, true, true, true, true, true, true, true, true, true, true, true, true, true, true, true, false, false, false, false, false, false, false, false, false, false, false, false, false, false, false, false, false, false, false, false, false, false, false, false, false, false, false, false, false, false, false, false, false, false, false, false, false, false, false, false, false, false]
def l_al_55 : Array Bool := #[true, true, true, true, true, true, true, true, true, true, true, true, true, true, true, true, true, true, true, true, true, true, true, true, true, true, true, true, true, true, true, true, true, true, true, true, true, true, true, true, true, true, true, true, true, true, true, true, true, true, true, true, true, true, true, false, false, false, false, false, false, false, false, false, false, false, false, false, false, false, false, false, false, false, false, false, false, false, false, false, false, false, false, false, false, false, false, false, false, false, false, false, false, false, false, false]
def l_al_56 : Array Bool := #[true, true, true, true, true, true, true, true, true, true, true, true, true, true, true, true, true, true, true, true, true, true, true, true, true, true, true, true, true, true, true, true, true, true, true, true, true, true, true, true, true, true, true, true, true, true, true, true, true, true, true, true, true, true, true, true, false, false, false, false, false, false, false, false, false, false, false, false, false, false, false, false, false, false, false, false, false, false, false, false, false, false, false, false, false, false, false, false, false, false, false, false, false, false, false, false]
def l_al_57 : Array Bool := #[true, true, true, true, true, true, true, true, true, true, true, true, true, true, true, true, true, true, true, true, true, true, true, true, true, true, true, true, true, true, true, true, true, true, true, true, true, true, true, true, true, true, true, true, true, true, true, true, true, true, true, true, true, true, true, true, true, false, false, false, false, false, false, false, false, false, false, false, false, false, false, false, false, false, false, false, false, false, false, false, false, false, false, false, false, false, false, false, false, false, false, false, false, false, false, false]
def l_al_58 : Array Bool := #[true, true, true, true, true, true, true, true, true, true, true, true, true, true, true, true, true, true, true, true, true, true, true, true, true, true, true, true, true, true, true, true, true, true, true, true, true, true, true, true, true, true, true, true, true, true, true, true, true, true, true, true, true, true, true, true, true, true, false, false, false, false, false, false, false, false, false, false, false, false, false, false, false, false, false, false, false, false, false, false, false, false, false, false, false, false, false, false, false, false, false, false, false, false, false, false]
def l_al_59 : Array Bool := #[true, true, true, true, true, true, true, true, true, true, true, true, true, true, true, true, true, true, true, true, true, true, true, true, true, true, true, true, true, true, true, true, true, true, true, true, true, true, true, true, true, true, true, true, true, true, true, true, true, true, true, true, true, true, true, true, true, true, true, false, false, false, false, false, false, false, false, false, false, false, false, false, false, false, false, false, false, false, false, false, false, false, false, false, false, false, false, false, false, false, false, false, false, false, false, false]
def l_al_60 : Array Bool := #[true, true, true, true, true, true, true, true, true, true, true, true, true, true, true, true, true, true, true, true, true, true, true, true, true, true, true, true, true, true, true, true, true, true, true, true, true, true, true, true, true, true, true, true, true, true, true, true, true, true, true, true, true, true, true, true, true, true, true, true, false, false, false, false, false, false, false, false, false, false, false, false, false, false, false, false, false, false, false, false, false, false, false, false, false, false, false, false, false, false, false, false, false, false, false, false]
def l_al_61 : Array Bool := #[true, true, true, true, true, true, true, true, true, true, true, true, true, true, true, true, true, true, true, true, true, true, true, true, true, true, true, true, true, true, true, true, true, true, true, true, true, true, true, true, true, true, true, true, true, true, true, true, true, true, true, true, true, true, true, true, true, true, true, true, true, false, false, false, false, false, false, false, false, false, false, false, false, false, false, false, false, false, false, false, false, false, false, false, false, false, false, false, false, false, false, false, false, false, false, false]
def l_al_62 : Array Bool := #[true, true, true, true, true, true, true, true, true, true, true, true, true, true, true, true, true, true, true, true, true, true, true, true, true, true, true, true, true, true, true, true, true, true, true, true, true, true, true, true, true, true, true, true, true, true, true, true, true, true, true, true, true, true, true, true, true, true, true, true, true, true, false, false, false, false, false, false, false, false, false, false, false, false, false, false, false, false, false, false, false, false, false, false, false, false, false, false, false, false, false, false, false, false, false, false]
def l_al_63 : Array Bool := #[true, true, true, true, true, true, true, true, true, true, true, true, true, true, true, true, true, true, true, true, true, true, true, true, true, true, true, true, true, true, true, true, true, true, true, true, true, true, true, true, true, true, true, true, true, true, true, true, true, true, true, true, true, true, true, true, true, true, true, true, true, true, true, false, false, false, false, false, false, false, false, false, false, false, false, false, false, false, false, false, false, false, false, false, false, false, false, false, false, false, false, false, false, false, false, false]
def l_al_64 : Array Bool := #[true, true, true, true, true, true, true, true, true, true, true, true, true, true, true, true, true, true, true, true, true, true, true, true, true, true, true, true, true, true, true, true, true, true, true, true, true, true, true, true, true, true, true, true, true, true, true, true, true, true, true, true, true, true, true, true, true, true, true, true, true, true, true, true, false, false, false, false, false, false, false, false, false, false, false, false, false, false, false, false, false, false, false, false, false, false, false, false, false, false, false, false, false, false, false, false]
def l_al_65 : Array Bool := #[true, true, true, true, true, true, true, true, true, true, true, true, true, true, true, true, true, true, true, true, true, true, true, true, true, true, true, true, true, true, true, true, true, true, true, true, true, true, true, true, true, true, true, true, true, true, true, true, true, true, true, true, true, true, true, true, true, true, true, true, true, true, true, true, true, false, false, false, false, false, false, false, false, false, false, false, false, false, false, false, false, false, false, false, false, false, false, false, false, false, false, false, false, false, false, false]
def l_al_66 : Array Bool := #[true, true, true, true, true, true, true, true, true, true, true, true, true, true, true, true, true, true, true, true, true, true, true, true, true, true, true, true, true, true, true, true, true, true, true, true, true, true, true, true, true, true, true, true, true, true, true, true, true, true, true, true, true, true, true, true, true, true, true, true, true, true, true, true, true, true, false, false, false, false, false, false, false, false, false, false, false, false, false, false, false, false, false, false, false, false, false, false, false, false, false, false, false, false, false, false]
def l_al_67 : Array Bool := #[true, true, true, true, true, true, true, true, true, true, true, true, true, true, true, true, true, true, true, true, true, true, true, true, true, true, true, true, true, true, true, true, true, true, true, true, true, true, true, true, true, true, true, true, true, true, true, true, true, true, true, true, true, true, true, true, true, true, true, true, true, true, true, true, true, true, true, false, false, false, false, false, false, false, false, false, false, false, false, false, false, false, false, false, false, false, false, false, false, false, false, false, false, false, false, false]
def l_al_68 : Array Bool := #[true, true, true, true, true, true, true, true, true, true, true, true, true, true, true, true, true, true, true, true, true, true, true, true, true, true, true, true, true, true, true, true, true, true, true, true, true, true, true, true, true, true, true, true, true, true, true, true, true, true, true, true, true, true, true, true, true, true, true, true, true, true, true, true, true, true, true, true, false, false, false, false, false, false, false, false, false, false, false, false, false, false, false, false, false, false, false, false, false, false, false, false, false, false, false, false]
def l_al_69 : Array Bool := #[true, true, true, true, true, true, true, true, true, true, true, true, true, true, true, true, true, true, true, true, true, true, true, true, true, true, true, true, true, true, true, true, true, true, true, true, true, true, true, true, true, true, true, true, true, true, true, true, true, true, true, true, true, true, true, true, true, true, true, true, true, true, true, true, true, true, true, true, true, false, false, false, false, false, false, false, false, false, false, false, false, false, false, false, false, false, false, false, false, false, false, false, false, false, false, false]
def l_al_70 : Array Bool := #[true, true, true, true, true, true, true, true, true, true, true, true, true, true, true, true, true, true, true, true, true, true, true, true, true, true, true, true, true, true, true, true, true, true, true, true, true, true, true, true, true, true, true, true, true, true, true, true, true, true, true, true, true, true, true, true, true, true, true, true, true, true, true, true, true, true, true, true, true, true, false, false, false, false, false, false, false, false, false, false, false, false, false, false, false, false, false, false, false, false, false, false, false, false, false, false]
def l_al_71 : Array Bool := #[true, true, true, true, true, true, true, true, true, true, true, true, true, true, true, true, true, true, true, true, true, true, true, true, true, true, true, true, true, true, true, true, true, true, true, true, true, true, true, true, true, true, true, true, true, true, true, true, true, true, true, true, true, true, true, true, true, true, true, true, true, true, true, true, true, true, true, true, true, true, true, false, false, false, false, false, false, false, false, false, false, false, false, false, false, false, false, false, false, false, false, false, false, false, false, false]
def l_al_72 : Array Bool := #[true, true, true, true, true, true, true, true, true, true, true, true, true, true, true, true, true, true, true, true, true, true, true, true, true, true, true, true, true, true, true, true, true, true, true, true, true, true, true, true, true, true, true, true, true, true, true, true, true, true, true, true, true, true, true, true, true, true, true, true, true, true, true, true, true, true, true, true, true, true, true, true, false, false, false, false, false, false, false, false, false, false, false, false, false, false, false, false, false, false, false, false, false, false, false, false]
def l_al_73 : Array Bool := #[true, true, true, true, true, true, true, true, true, true, true, true, true, true, true, true, true, true, true, true, true, true, true, true, true, true, true, true, true, true, true, true, true, true, true, true, true, true, true, true, true, true, true, true, true, true, true, true, true, true, true, true, true, true, true, true, true, true, true, true, true, true, true, true, true, true, true, true, true, true, true, true, true, false, false, false, false, false, false, false, false, false, false, false, false, false, false, false, false, false, false, false, false, false, false, false]
def l_al_74 : Array Bool := #[true, true, true, true, true, true, true, true, true, true, true, true, true, true, true, true, true, true, true, true, true, true, true, true, true, true, true, true, true, true, true, true, true, true, true, true, true, true, true, true, true, true, true, true, true, true, true, true, true, true, true, true, true, true, true, true, true, true, true, true, true, true, true, true, true, true, true, true, true, true, true, true, true, true, false, false, false, false, false, false, false, false, false, false, false, false, false, false, false, false, false, false, false, false, false, false]
def l_al_75 : Array Bool := #[true, true, true, true, true, true, true, true, true, true, true, true, true, true, true, true, true, true, true, true, true, true, true, true, true, true, true, true, true, true, true, true, true, true, true, true, true, true, true, true, true, true, true, true, true, true, true, true, true, true, true, true, true, true, true, true, true, true, true, true, true, true, true, true, true, true, true, true, true, true, true, true, true, true, true, false, false, false, false, false, false, false, false, false, false, false, false, false, false, false, false, false, false, false, false, false]
def l_al_76 : Array Bool := #[true, true, true, true, true, true, true, true, true, true, true, true, true, true, true, true, true, true, true, true, true, true, true, true, true, true, true, true, true, true, true, true, true, true, true, true, true, true, true, true, true, true, true, true, true, true, true, true, true, true, true, true, true, true, true, true, true, true, true, true, true, true, true, true, true, true, true, true, true, true, true, true, true, true, true, true, false, false, false, false, false, false, false, false, false, false, false, false, false, false, false, false, false, false, false, false]
def l_al_77 : Array Bool := #[true, true, true, true, true, true, true, true, true, true, true, true, true, true, true, true, true, true, true, true, true, true, true, true, true, true, true, true, true, true, true, true, true, true, true, true, true, true, true, true, true, true, true, true, true, true, true, true, true, true, true, true, true, true, true, true, true, true, true, true, true, true, true, true, true, true, true, true, true, true, true, true, true, true, true, true, true, false, false, false, false, false, false, false, false, false, false, false, false, false, false, false, false, false, false, false]
def l_al_78 : Array Bool := #[true, true, true, true, true, true, true, true, true, true, true, true, true, true, true, true, true, true, true, true, true, true, true, true, true, true, true, true, true, true, true, true, true, true, true, true, true, true, true, true, true, true, true, true, true, true, true, true, true, true, true, true, true, true, true, true, true, true, true, true, true, true, true, true, true, true, true, true, true, true, true, true, true, true, true, true, true, true, false, false, false, false, false, false, false, false, false, false, false, false, false, false, false, false, false, false]
def l_al_79 : Array Bool := #[true, true, true, true, true, true, true, true, true, true, true, true, true, true, true, true, true, true, true, true, true, true, true, true, true, true, true, true, true, true, true, true, true, true, true, true, true, true, true, true, true, true, true, true, true, true, true, true, true, true, true, true, true, true, true, true, true, true, true, true, true, true, true, true, true, true, true, true, true, true, true, true, true, true, true, true, true, true, true, false, false, false, false, false, false, false, false, false, false, false, false, false, false, false, false, false]
def l_al_80 : Array Bool := #[true, true, true, true, true, true, true, true, true, true, true, true, true, true, true, true, true, true, true, true, true, true, true, true, true, true, true, true, true, true, true, true, true, true, true, true, true, true, true, true, true, true, true, true, true, true, true, true, true, true, true, true, true, true, true, true, true, true, true, true, true, true, true, true, true, true, true, true, true, true, true, true, true, true, true, true, true, true, true, true, false, false, false, false, false, false, false, false, false, false, false, false, false, false, false, false]
def l_al_81 : Array Bool := #[true, true, true, true, true, true, true, true, true, true, true, true, true, true, true, true, true, true, true, true, true, true, true, true, true, true, true, true, true, true, true, true, true, true, true, true, true, true, true, true, true, true, true, true, true, true, true, true, true, true, true, true, true, true, true, true, true, true, true, true, true, true, true, true, true, true, true, true, true, true, true, true, true, true, true, true, true, true, true, true, true, false, false, false, false, false, false, false, false, false, false, false, false, false, false, false]
def l_al_82 : Array Bool := #[true, true, true, true, true, true, true, true, true, true, true, true, true, true, true, true, true, true, true, true, true, true, true, true, true, true, true, true, true, true, true, true, true, true, true, true, true, true, true, true, true, true, true, true, true, true, true, true, true, true, true, true, true, true, true, true, true, true, true, true, true, true, true, true, true, true, true, true, true, true, true, true, true, true, true, true, true, true, true, true, true, true, false, false, false, false, false, false, false, false, false, false, false, false, false, false]
def l_al_83 : Array Bool := #[true, true, true, true, true, true, true, true, true, true, true, true, true, true, true, true, true, true, true, true, true, true, true, true, true, true, true, true, true, true, true, true, true, true, true, true, true, true, true, true, true, true, true, true, true, true, true, true, true, true, true, true, true, true, true, true, true, true, true, true, true, true, true, true, true, true, true, true, true, true, true, true, true, true, true, true, true, true, true, true, true, true, true, false, false, false, false, false, false, false, false, false, false, false, false, false]
def l_al_84 : Array Bool := #[true, true, true, true, true, true, true, true, true, true, true, true, true, true, true, true, true, true, true, true, true, true, true, true, true, true, true, true, true, true, true, true, true, true, true, true, true, true, true, true, true, true, true, true, true, true, true, true, true, true, true, true, true, true, true, true, true, true, true, true, true, true, true, true, true, true, true, true, true, true, true, true, true, true, true, true, true, true, true, true, true, true, true, true, false, false, false, false, false, false, false, false, false, false, false, false]
def l_al_85 : Array Bool := #[true, true, true, true, true, true, true, true, true, true, true, true, true, true, true, true, true, true, true, true, true, true, true, true, true, true, true, true, true, true, true, true, true, true, true, true, true, true, true, true, true, true, true, true, true, true, true, true, true, true, true, true, true, true, true, true, true, true, true, true, true, true, true, true, true, true, true, true, true, true, true, true, true, true, true, true, true, true, true, true, true, true, true, true, true, false, false, false, false, false, false, false, false, false, false, false]
def l_al_86 : Array Bool := #[true, true, true, true, true, true, true, true, true, true, true, true, true, true, true, true, true, true, true, true, true, true, true, true, true, true, true, true, true, true, true, true, true, true, true, true, true, true, true, true, true, true, true, true, true, true, true, true, true, true, true, true, true, true, true, true, true, true, true, true, true, true, true, true, true, true, true, true, true, true, true, true, true, true, true, true, true, true, true, true, true, true, true, true, true, true, false, false, false, false, false, false, false, false, false, false]
def l_al_87 : Array Bool := #[true, true, true, true, true, true, true, true, true, true, true, true, true, true, true, true, true, true, true, true, true, true, true, true, true, true, true, true, true, true, true, true, true, true, true, true, true, true, true, true, true, true, true, true, true, true, true, true, true, true, true, true, true, true, true, true, true, true, true, true, true, true, true, true, true, true, true, true, true, true, true, true, true, true, true, true, true, true, true, true, true, true, true, true, true, true, true, false, false, false, false, false, false, false, false, false]
def l_al_88 : Array Bool := #[true, true, true, true, true, true, true, true, true, true, true, true, true, true, true, true, true, true, true, true, true, true, true, true, true, true, true, true, true, true, true, true, true, true, true, true, true, true, true, true, true, true, true, true, true, true, true, true, true, true, true, true, true, true, true, true, true, true, true, true, true, true, true, true, true, true, true, true, true, true, true, true, true, true, true, true, true, true, true, true, true, true, true, true, true, true, true, true, false, false, false, false, false, false, false, false]
def l_al_89 : Array Bool := #[true, true, true, true, true, true, true, true, true, true, true, true, true, true, true, true, true, true, true, true, true, true, true, true, true, true, true, true, true, true, true, true, true, true, true, true, true, true, true, true, true, true, true, true, true, true, true, true, true, true, true, true, true, true, true, true, true, true, true, true, true, true, true, true, true, true, true, true, true, true, true, true, true, true, true, true, true, true, true, true, true, true, true, true, true, true, true, true, true, false, false, false, false, false, false, false]
def l_al_90 : Array Bool := #[true, true, true, true, true, true, true, true, true, true, true, true, true, true, true, true, true, true, true, true, true, true, true, true, true, true, true, true, true, true, true, true, true, true, true, true, true, true, true, true, true, true, true, true, true, true, true, true, true, true, true, true, true, true, true, true, true, true, true, true, true, true, true, true, true, true, true, true, true, true, true, true, true, true, true, true, true, true, true, true, true, true, true, true, true, true, true, true, true, true, false, false, false, false, false, false]
def l_al_91 : Array Bool := #[true, true, true, true, true, true, true, true, true, true, true, true, true, true, true, true, true, true, true, true, true, true, true, true, true, true, true, true, true, true, true, true, true, true, true, true, true, true, true, true, true, true, true, true, true, true, true, true, true, true, true, true, true, true, true, true, true, true, true, true, true, true, true, true, true, true, true, true, true, true, true, true, true, true, true, true, true, true, true, true, true, true, true, true, true, true, true, true, true, true, true, false, false, false, false, false]
def l_al_92 : Array Bool := #[true, true, true, true, true, true, true, true, true, true, true, true, true, true, true, true, true, true, true, true, true, true, true, true, true, true, true, true, true, true, true, true, true, true, true, true, true, true, true, true, true, true, true, true, true, true, true, true, true, true, true, true, true, true, true, true, true, true, true, true, true, true, true, true, true, true, true, true, true, true, true, true, true, true, true, true, true, true, true, true, true, true, true, true, true, true, true, true, true, true, true, true, false, false, false, false]
def l_al_93 : Array Bool := #[true, true, true, true, true, true, true, true, true, true, true, true, true, true, true, true, true, true, true, true, true, true, true, true, true, true, true, true, true, true, true, true, true, true, true, true, true, true, true, true, true, true, true, true, true, true, true, true, true, true, true, true, true, true, true, true, true, true, true, true, true, true, true, true, true, true, true, true, true, true, true, true, true, true, true, true, true, true, true, true, true, true, true, true, true, true, true, true, true, true, true, true, true, false, false, false]
def l_al_94 : Array Bool := #[true, true, true, true, true, true, true, true, true, true, true, true, true, true, true, true, true, true, true, true, true, true, true, true, true, true, true, true, true, true, true, true, true, true, true, true, true, true, true, true, true, true, true, true, true, true, true, true, true, true, true, true, true, true, true, true, true, true, true, true, true, true, true, true, true, true, true, true, true, true, true, true, true, true, true, true, true, true, true, true, true, true, true, true, true, true, true, true, true, true, true, true, true, true, false, false]
def l_al_95 : Array Bool := #[true, true, true, true, true, true, true, true, true, true, true, true, true, true, true, true, true, true, true, true, true, true, true, true, true, true, true, true, true, true, true, true, true, true, true, true, true, true, true, true, true, true, true, true, true, true, true, true, true, true, true, true, true, true, true, true, true, true, true, true, true, true, true, true, true, true, true, true, true, true, true, true, true, true, true, true, true, true, true, true, true, true, true, true, true, true, true, true, true, true, true, true, true, true, true, false]
def l_al_96 : Array Bool := #[true, true, true, true, true, true, true, true, true, true, true, true, true, true, true, true, true, true, true, true, true, true, true, true, true, true, true, true, true, true, true, true, true, true, true, true, true, true, true, true, true, true, true, true, true, true, true, true, true, true, true, true, true, true, true, true, true, true, true, true, true, true, true, true, true, true, true, true, true, true, true, true, true, true, true, true, true, true, true, true, true, true, true, true, true, true, true, true, true, true, true, true, true, true, true, true]
theorem z_al : Array.replicate 96 false = l_al_0 := by kernel_rfl
theorem i_al_0 : o_al[0]? = some (Oper.mk (some 90) (Op.move (Operand.tmp 2)) 27 "law.go:32" #[] none) := by kernel_rfl
theorem i_al_1 : o_al[1]? = some (Oper.mk (some 91) (Op.binOp BinOp.eql 27 (Operand.tmp 90) (Operand.const (Value.int IntKind.i64 0)) 27) 4 "law.go:32" #[Edge.mk 0 Ground.data] none) := by kernel_rfl
theorem i_al_2 : o_al[2]? = some (Oper.mk (some 92) (Op.move (Operand.tmp 91)) 4 "law.go:32" #[Edge.mk 1 Ground.data] none) := by kernel_rfl
theorem i_al_3 : o_al[3]? = some (Oper.mk (some 93) (Op.move (Operand.tmp 4)) 4 "law.go:32" #[Edge.mk 2 Ground.guard] (some (2, true))) := by kernel_rfl
theorem i_al_4 : o_al[4]? = some (Oper.mk (some 94) (Op.pick (Operand.tmp 92) (Operand.tmp 93) (Operand.const (Value.bool false))) 4 "law.go:32" #[Edge.mk 2 Ground.data, Edge.mk 3 Ground.data] none) := by kernel_rfl
theorem i_al_5 : o_al[5]? = some (Oper.mk (some 95) (Op.move (Operand.tmp 94)) 4 "law.go:32" #[Edge.mk 4 Ground.data, Edge.mk 2 Ground.chain] none) := by kernel_rfl
theorem i_al_6 : o_al[6]? = some (Oper.mk (some 96) (Op.move (Operand.tmp 6)) 4 "law.go:32" #[Edge.mk 5 Ground.guard] (some (5, true))) := by kernel_rfl
theorem i_al_7 : o_al[7]? = some (Oper.mk (some 97) (Op.pick (Operand.tmp 95) (Operand.tmp 96) (Operand.const (Value.bool false))) 4 "law.go:32" #[Edge.mk 5 Ground.data, Edge.mk 6 Ground.data] none) := by kernel_rfl
theorem i_al_8 : o_al[8]? = some (Oper.mk (some 98) (Op.move (Operand.tmp 97)) 4 "law.go:32" #[Edge.mk 7 Ground.data, Edge.mk 5 Ground.chain] none) := by kernel_rfl
theorem i_al_9 : o_al[9]? = some (Oper.mk (some 99) (Op.move (Operand.tmp 8)) 4 "law.go:32" #[Edge.mk 8 Ground.guard] (some (8, true))) := by kernel_rfl
theorem i_al_10 : o_al[10]? = some (Oper.mk (some 100) (Op.unOp UnOp.not 4 (Operand.tmp 99)) 4 "law.go:32" #[Edge.mk 9 Ground.data, Edge.mk 8 Ground.guard] (some (8, true))) := by kernel_rfl
theorem i_al_11 : o_al[11]? = some (Oper.mk (some 101) (Op.pick (Operand.tmp 98) (Operand.tmp 100) (Operand.const (Value.bool false))) 4 "law.go:32" #[Edge.mk 8 Ground.data, Edge.mk 10 Ground.data] none) := by kernel_rfl
theorem i_al_12 : o_al[12]? = some (Oper.mk (some 102) (Op.move (Operand.tmp 101)) 4 "law.go:32" #[Edge.mk 11 Ground.data, Edge.mk 8 Ground.chain] none) := by kernel_rfl
theorem i_al_13 : o_al[13]? = some (Oper.mk (some 103) (Op.fieldAddr 33 (Operand.tmp 3) 4) 0 "law.go:32" #[Edge.mk 12 Ground.guard] (some (12, true))) := by kernel_rfl
theorem i_al_14 : o_al[14]? = some (Oper.mk (some 104) (Op.load 3 (Operand.tmp 103)) 3 "law.go:32" #[Edge.mk 13 Ground.data, Edge.mk 12 Ground.guard] (some (12, true))) := by kernel_rfl
theorem i_al_15 : o_al[15]? = some (Oper.mk (some 105) (Op.binOp BinOp.eql 3 (Operand.tmp 104) (Operand.const (Value.int IntKind.i64 0)) 3) 4 "law.go:32" #[Edge.mk 14 Ground.data, Edge.mk 12 Ground.guard] (some (12, true))) := by kernel_rfl
theorem i_al_16 : o_al[16]? = some (Oper.mk (some 106) (Op.pick (Operand.tmp 102) (Operand.tmp 105) (Operand.const (Value.bool false))) 4 "law.go:32" #[Edge.mk 12 Ground.data, Edge.mk 15 Ground.data] none) := by kernel_rfl
theorem i_al_17 : o_al[17]? = some (Oper.mk (some 107) (Op.move (Operand.tmp 106)) 4 "law.go:32" #[Edge.mk 16 Ground.data, Edge.mk 12 Ground.chain] none) := by kernel_rfl
theorem i_al_18 : o_al[18]? = some (Oper.mk (some 108) (Op.fieldAddr 33 (Operand.tmp 5) 4) 0 "law.go:32" #[Edge.mk 17 Ground.guard] (some (17, true))) := by kernel_rfl
theorem i_al_19 : o_al[19]? = some (Oper.mk (some 109) (Op.load 3 (Operand.tmp 108)) 3 "law.go:32" #[Edge.mk 18 Ground.data, Edge.mk 17 Ground.guard] (some (17, true))) := by kernel_rfl
theorem i_al_20 : o_al[20]? = some (Oper.mk (some 110) (Op.binOp BinOp.eql 3 (Operand.tmp 109) (Operand.const (Value.int IntKind.i64 1)) 3) 4 "law.go:32" #[Edge.mk 19 Ground.data, Edge.mk 17 Ground.guard] (some (17, true))) := by kernel_rfl
theorem i_al_21 : o_al[21]? = some (Oper.mk (some 111) (Op.pick (Operand.tmp 107) (Operand.tmp 110) (Operand.const (Value.bool false))) 4 "law.go:32" #[Edge.mk 17 Ground.data, Edge.mk 20 Ground.data] none) := by kernel_rfl
theorem i_al_22 : o_al[22]? = some (Oper.mk (some 112) (Op.move (Operand.tmp 111)) 4 "law.go:32" #[Edge.mk 21 Ground.data, Edge.mk 17 Ground.chain] none) := by kernel_rfl
theorem i_al_23 : o_al[23]? = some (Oper.mk (some 113) (Op.fieldAddr 33 (Operand.tmp 5) 5) 0 "law.go:32" #[Edge.mk 22 Ground.guard] (some (22, true))) := by kernel_rfl
theorem i_al_24 : o_al[24]? = some (Oper.mk (some 114) (Op.load 23 (Operand.tmp 113)) 23 "law.go:32" #[Edge.mk 23 Ground.data, Edge.mk 22 Ground.guard] (some (22, true))) := by kernel_rfl
theorem i_al_25 : o_al[25]? = some (Oper.mk (some 115) (Op.convert 23 9 (Operand.tmp 114)) 9 "law.go:32" #[Edge.mk 24 Ground.data, Edge.mk 22 Ground.guard] (some (22, true))) := by kernel_rfl
theorem i_al_26 : o_al[26]? = some (Oper.mk (some 116) (Op.binOp BinOp.eql 9 (Operand.tmp 115) (Operand.const (Value.string (ByteArray.mk #[66]))) 9) 4 "law.go:32" #[Edge.mk 25 Ground.data, Edge.mk 22 Ground.guard] (some (22, true))) := by kernel_rfl
theorem i_al_27 : o_al[27]? = some (Oper.mk (some 117) (Op.pick (Operand.tmp 112) (Operand.tmp 116) (Operand.const (Value.bool false))) 4 "law.go:32" #[Edge.mk 22 Ground.data, Edge.mk 26 Ground.data] none) := by kernel_rfl
theorem i_al_28 : o_al[28]? = some (Oper.mk (some 118) (Op.move (Operand.tmp 117)) 4 "law.go:32" #[Edge.mk 27 Ground.data, Edge.mk 22 Ground.chain] none) := by kernel_rfl
theorem i_al_29 : o_al[29]? = some (Oper.mk (some 119) (Op.move (Operand.tmp 9)) 27 "law.go:32" #[Edge.mk 28 Ground.guard] (some (28, true))) := by kernel_rfl
theorem i_al_30 : o_al[30]? = some (Oper.mk (some 120) (Op.binOp BinOp.eql 27 (Operand.tmp 119) (Operand.const (Value.int IntKind.i64 0)) 27) 4 "law.go:32" #[Edge.mk 29 Ground.data, Edge.mk 28 Ground.guard] (some (28, true))) := by kernel_rfl
theorem i_al_31 : o_al[31]? = some (Oper.mk (some 121) (Op.pick (Operand.tmp 118) (Operand.tmp 120) (Operand.const (Value.bool false))) 4 "law.go:32" #[Edge.mk 28 Ground.data, Edge.mk 30 Ground.data] none) := by kernel_rfl
theorem i_al_32 : o_al[32]? = some (Oper.mk (some 122) (Op.move (Operand.tmp 121)) 4 "law.go:32" #[Edge.mk 31 Ground.data, Edge.mk 28 Ground.chain] none) := by kernel_rfl
theorem i_al_33 : o_al[33]? = some (Oper.mk (some 123) (Op.move (Operand.tmp 11)) 4 "law.go:32" #[Edge.mk 32 Ground.guard] (some (32, true))) := by kernel_rfl
theorem i_al_34 : o_al[34]? = some (Oper.mk (some 124) (Op.pick (Operand.tmp 122) (Operand.tmp 123) (Operand.const (Value.bool false))) 4 "law.go:32" #[Edge.mk 32 Ground.data, Edge.mk 33 Ground.data] none) := by kernel_rfl
theorem i_al_35 : o_al[35]? = some (Oper.mk (some 125) (Op.move (Operand.tmp 124)) 4 "law.go:32" #[Edge.mk 34 Ground.data, Edge.mk 32 Ground.chain] none) := by kernel_rfl
theorem i_al_36 : o_al[36]? = some (Oper.mk (some 126) (Op.fieldAddr 33 (Operand.tmp 10) 4) 0 "law.go:32" #[Edge.mk 35 Ground.guard] (some (35, true))) := by kernel_rfl
theorem i_al_37 : o_al[37]? = some (Oper.mk (some 127) (Op.load 3 (Operand.tmp 126)) 3 "law.go:32" #[Edge.mk 36 Ground.data, Edge.mk 35 Ground.guard] (some (35, true))) := by kernel_rfl
theorem i_al_38 : o_al[38]? = some (Oper.mk (some 128) (Op.binOp BinOp.eql 3 (Operand.tmp 127) (Operand.const (Value.int IntKind.i64 2)) 3) 4 "law.go:32" #[Edge.mk 37 Ground.data, Edge.mk 35 Ground.guard] (some (35, true))) := by kernel_rfl
theorem i_al_39 : o_al[39]? = some (Oper.mk (some 129) (Op.pick (Operand.tmp 125) (Operand.tmp 128) (Operand.const (Value.bool false))) 4 "law.go:32" #[Edge.mk 35 Ground.data, Edge.mk 38 Ground.data] none) := by kernel_rfl
theorem i_al_40 : o_al[40]? = some (Oper.mk (some 130) (Op.move (Operand.tmp 129)) 4 "law.go:32" #[Edge.mk 39 Ground.data, Edge.mk 35 Ground.chain] none) := by kernel_rfl
theorem i_al_41 : o_al[41]? = some (Oper.mk (some 131) (Op.move (Operand.tmp 13)) 4 "law.go:32" #[Edge.mk 40 Ground.guard] (some (40, true))) := by kernel_rfl
theorem i_al_42 : o_al[42]? = some (Oper.mk (some 132) (Op.unOp UnOp.not 4 (Operand.tmp 131)) 4 "law.go:32" #[Edge.mk 41 Ground.data, Edge.mk 40 Ground.guard] (some (40, true))) := by kernel_rfl
theorem i_al_43 : o_al[43]? = some (Oper.mk (some 133) (Op.pick (Operand.tmp 130) (Operand.tmp 132) (Operand.const (Value.bool false))) 4 "law.go:32" #[Edge.mk 40 Ground.data, Edge.mk 42 Ground.data] none) := by kernel_rfl
theorem i_al_44 : o_al[44]? = some (Oper.mk (some 134) (Op.move (Operand.tmp 133)) 4 "law.go:32" #[Edge.mk 43 Ground.data, Edge.mk 40 Ground.chain] none) := by kernel_rfl
theorem i_al_45 : o_al[45]? = some (Oper.mk (some 135) (Op.move (Operand.tmp 15)) 4 "law.go:32" #[Edge.mk 44 Ground.guard] (some (44, true))) := by kernel_rfl
theorem i_al_46 : o_al[46]? = some (Oper.mk (some 136) (Op.pick (Operand.tmp 134) (Operand.tmp 135) (Operand.const (Value.bool false))) 4 "law.go:32" #[Edge.mk 44 Ground.data, Edge.mk 45 Ground.data] none) := by kernel_rfl
theorem i_al_47 : o_al[47]? = some (Oper.mk (some 137) (Op.move (Operand.tmp 136)) 4 "law.go:32" #[Edge.mk 46 Ground.data, Edge.mk 44 Ground.chain] none) := by kernel_rfl
theorem i_al_48 : o_al[48]? = some (Oper.mk (some 138) (Op.fieldAddr 33 (Operand.tmp 14) 4) 0 "law.go:32" #[Edge.mk 47 Ground.guard] (some (47, true))) := by kernel_rfl
theorem i_al_49 : o_al[49]? = some (Oper.mk (some 139) (Op.load 3 (Operand.tmp 138)) 3 "law.go:32" #[Edge.mk 48 Ground.data, Edge.mk 47 Ground.guard] (some (47, true))) := by kernel_rfl
theorem i_al_50 : o_al[50]? = some (Oper.mk (some 140) (Op.binOp BinOp.eql 3 (Operand.tmp 139) (Operand.const (Value.int IntKind.i64 1)) 3) 4 "law.go:32" #[Edge.mk 49 Ground.data, Edge.mk 47 Ground.guard] (some (47, true))) := by kernel_rfl
theorem i_al_51 : o_al[51]? = some (Oper.mk (some 141) (Op.pick (Operand.tmp 137) (Operand.tmp 140) (Operand.const (Value.bool false))) 4 "law.go:32" #[Edge.mk 47 Ground.data, Edge.mk 50 Ground.data] none) := by kernel_rfl
theorem i_al_52 : o_al[52]? = some (Oper.mk (some 142) (Op.move (Operand.tmp 141)) 4 "law.go:32" #[Edge.mk 51 Ground.data, Edge.mk 47 Ground.chain] none) := by kernel_rfl
theorem i_al_53 : o_al[53]? = some (Oper.mk (some 143) (Op.move (Operand.tmp 16)) 27 "law.go:32" #[Edge.mk 52 Ground.guard] (some (52, true))) := by kernel_rfl
theorem i_al_54 : o_al[54]? = some (Oper.mk (some 144) (Op.binOp BinOp.eql 27 (Operand.tmp 143) (Operand.const (Value.int IntKind.i64 14)) 27) 4 "law.go:32" #[Edge.mk 53 Ground.data, Edge.mk 52 Ground.guard] (some (52, true))) := by kernel_rfl
theorem i_al_55 : o_al[55]? = some (Oper.mk (some 145) (Op.pick (Operand.tmp 142) (Operand.tmp 144) (Operand.const (Value.bool false))) 4 "law.go:32" #[Edge.mk 52 Ground.data, Edge.mk 54 Ground.data] none) := by kernel_rfl
theorem i_al_56 : o_al[56]? = some (Oper.mk (some 146) (Op.move (Operand.tmp 145)) 4 "law.go:32" #[Edge.mk 55 Ground.data, Edge.mk 52 Ground.chain] none) := by kernel_rfl
theorem i_al_57 : o_al[57]? = some (Oper.mk (some 147) (Op.move (Operand.tmp 18)) 4 "law.go:32" #[Edge.mk 56 Ground.guard] (some (56, true))) := by kernel_rfl
theorem i_al_58 : o_al[58]? = some (Oper.mk (some 148) (Op.unOp UnOp.not 4 (Operand.tmp 147)) 4 "law.go:32" #[Edge.mk 57 Ground.data, Edge.mk 56 Ground.guard] (some (56, true))) := by kernel_rfl
theorem i_al_59 : o_al[59]? = some (Oper.mk (some 149) (Op.pick (Operand.tmp 146) (Operand.tmp 148) (Operand.const (Value.bool false))) 4 "law.go:32" #[Edge.mk 56 Ground.data, Edge.mk 58 Ground.data] none) := by kernel_rfl
theorem i_al_60 : o_al[60]? = some (Oper.mk (some 150) (Op.move (Operand.tmp 149)) 4 "law.go:32" #[Edge.mk 59 Ground.data, Edge.mk 56 Ground.chain] none) := by kernel_rfl
theorem i_al_61 : o_al[61]? = some (Oper.mk (some 151) (Op.move (Operand.tmp 19)) 27 "law.go:32" #[Edge.mk 60 Ground.guard] (some (60, true))) := by kernel_rfl
theorem i_al_62 : o_al[62]? = some (Oper.mk (some 152) (Op.binOp BinOp.eql 27 (Operand.tmp 151) (Operand.const (Value.int IntKind.i64 0)) 27) 4 "law.go:32" #[Edge.mk 61 Ground.data, Edge.mk 60 Ground.guard] (some (60, true))) := by kernel_rfl
theorem i_al_63 : o_al[63]? = some (Oper.mk (some 153) (Op.pick (Operand.tmp 150) (Operand.tmp 152) (Operand.const (Value.bool false))) 4 "law.go:32" #[Edge.mk 60 Ground.data, Edge.mk 62 Ground.data] none) := by kernel_rfl
theorem i_al_64 : o_al[64]? = some (Oper.mk (some 154) (Op.move (Operand.tmp 153)) 4 "law.go:32" #[Edge.mk 63 Ground.data, Edge.mk 60 Ground.chain] none) := by kernel_rfl
theorem i_al_65 : o_al[65]? = some (Oper.mk (some 155) (Op.move (Operand.tmp 21)) 4 "law.go:32" #[Edge.mk 64 Ground.guard] (some (64, true))) := by kernel_rfl
theorem i_al_66 : o_al[66]? = some (Oper.mk (some 156) (Op.pick (Operand.tmp 154) (Operand.tmp 155) (Operand.const (Value.bool false))) 4 "law.go:32" #[Edge.mk 64 Ground.data, Edge.mk 65 Ground.data] none) := by kernel_rfl
theorem i_al_67 : o_al[67]? = some (Oper.mk (some 157) (Op.move (Operand.tmp 156)) 4 "law.go:32" #[Edge.mk 66 Ground.data, Edge.mk 64 Ground.chain] none) := by kernel_rfl
theorem i_al_68 : o_al[68]? = some (Oper.mk (some 158) (Op.move (Operand.tmp 23)) 4 "law.go:32" #[Edge.mk 67 Ground.guard] (some (67, true))) := by kernel_rfl
theorem i_al_69 : o_al[69]? = some (Oper.mk (some 159) (Op.pick (Operand.tmp 157) (Operand.tmp 158) (Operand.const (Value.bool false))) 4 "law.go:32" #[Edge.mk 67 Ground.data, Edge.mk 68 Ground.data] none) := by kernel_rfl
theorem i_al_70 : o_al[70]? = some (Oper.mk (some 160) (Op.move (Operand.tmp 159)) 4 "law.go:32" #[Edge.mk 69 Ground.data, Edge.mk 67 Ground.chain] none) := by kernel_rfl
theorem i_al_71 : o_al[71]? = some (Oper.mk (some 161) (Op.load 33 (Operand.tmp 20)) 33 "law.go:32" #[Edge.mk 70 Ground.guard] (some (70, true))) := by kernel_rfl
theorem i_al_72 : o_al[72]? = some (Oper.mk (some 162) (Op.call (Call.mk (Callee.value (Operand.func 21)) #[Operand.const (Value.int IntKind.i64 5), Operand.const (Value.int IntKind.i64 1)] #[3, 3])) 33 "law.go:32" #[Edge.mk 70 Ground.chain, Edge.mk 70 Ground.guard] (some (70, true))) := by kernel_rfl
theorem i_al_73 : o_al[73]? = some (Oper.mk (some 163) (Op.call (Call.mk (Callee.value (Operand.func 20)) #[Operand.tmp 161, Operand.tmp 162] #[33, 33])) 4 "law.go:32" #[Edge.mk 71 Ground.data, Edge.mk 72 Ground.data, Edge.mk 72 Ground.chain, Edge.mk 70 Ground.guard] (some (70, true))) := by kernel_rfl
theorem i_al_74 : o_al[74]? = some (Oper.mk (some 164) (Op.pick (Operand.tmp 160) (Operand.tmp 163) (Operand.const (Value.bool false))) 4 "law.go:32" #[Edge.mk 70 Ground.data, Edge.mk 73 Ground.data] none) := by kernel_rfl
theorem i_al_75 : o_al[75]? = some (Oper.mk (some 165) (Op.move (Operand.tmp 164)) 4 "law.go:32" #[Edge.mk 74 Ground.data, Edge.mk 73 Ground.chain] none) := by kernel_rfl
theorem i_al_76 : o_al[76]? = some (Oper.mk (some 166) (Op.load 33 (Operand.tmp 22)) 33 "law.go:32" #[Edge.mk 75 Ground.guard] (some (75, true))) := by kernel_rfl
theorem i_al_77 : o_al[77]? = some (Oper.mk (some 167) (Op.call (Call.mk (Callee.value (Operand.func 22)) #[Operand.const (Value.int IntKind.i64 5), Operand.const (Value.int IntKind.i64 1), Operand.const (Value.int IntKind.i64 1)] #[3, 3, 3])) 33 "law.go:32" #[Edge.mk 75 Ground.chain, Edge.mk 75 Ground.guard] (some (75, true))) := by kernel_rfl
theorem i_al_78 : o_al[78]? = some (Oper.mk (some 168) (Op.call (Call.mk (Callee.value (Operand.func 20)) #[Operand.tmp 166, Operand.tmp 167] #[33, 33])) 4 "law.go:32" #[Edge.mk 76 Ground.data, Edge.mk 77 Ground.data, Edge.mk 77 Ground.chain, Edge.mk 75 Ground.guard] (some (75, true))) := by kernel_rfl
theorem i_al_79 : o_al[79]? = some (Oper.mk (some 169) (Op.pick (Operand.tmp 165) (Operand.tmp 168) (Operand.const (Value.bool false))) 4 "law.go:32" #[Edge.mk 75 Ground.data, Edge.mk 78 Ground.data] none) := by kernel_rfl
theorem i_al_80 : o_al[80]? = some (Oper.mk (some 170) (Op.move (Operand.tmp 169)) 4 "law.go:32" #[Edge.mk 79 Ground.data, Edge.mk 78 Ground.chain] none) := by kernel_rfl
theorem i_al_81 : o_al[81]? = some (Oper.mk (some 171) (Op.move (Operand.tmp 1)) 25 "law.go:32" #[Edge.mk 80 Ground.guard] (some (80, true))) := by kernel_rfl
theorem i_al_82 : o_al[82]? = some (Oper.mk (some 172) (Op.call (Call.mk (Callee.value (Operand.func 17)) #[Operand.tmp 171] #[25])) 3 "law.go:32" #[Edge.mk 81 Ground.data, Edge.mk 80 Ground.chain, Edge.mk 80 Ground.guard] (some (80, true))) := by kernel_rfl
theorem i_al_83 : o_al[83]? = some (Oper.mk (some 173) (Op.binOp BinOp.eql 3 (Operand.tmp 172) (Operand.const (Value.int IntKind.i64 1)) 3) 4 "law.go:32" #[Edge.mk 82 Ground.data, Edge.mk 80 Ground.guard] (some (80, true))) := by kernel_rfl
theorem i_al_84 : o_al[84]? = some (Oper.mk (some 174) (Op.pick (Operand.tmp 170) (Operand.tmp 173) (Operand.const (Value.bool false))) 4 "law.go:32" #[Edge.mk 80 Ground.data, Edge.mk 83 Ground.data] none) := by kernel_rfl
theorem i_al_85 : o_al[85]? = some (Oper.mk (some 175) (Op.move (Operand.tmp 174)) 4 "law.go:32" #[Edge.mk 84 Ground.data, Edge.mk 82 Ground.chain] none) := by kernel_rfl
theorem i_al_86 : o_al[86]? = some (Oper.mk (some 176) (Op.move (Operand.tmp 1)) 25 "law.go:32" #[Edge.mk 85 Ground.guard] (some (85, true))) := by kernel_rfl
theorem i_al_87 : o_al[87]? = some (Oper.mk (some 177) (Op.call (Call.mk (Callee.value (Operand.func 11)) #[Operand.tmp 176] #[25])) 3 "law.go:32" #[Edge.mk 86 Ground.data, Edge.mk 85 Ground.chain, Edge.mk 85 Ground.guard] (some (85, true))) := by kernel_rfl
theorem i_al_88 : o_al[88]? = some (Oper.mk (some 178) (Op.binOp BinOp.eql 3 (Operand.tmp 177) (Operand.const (Value.int IntKind.i64 2)) 3) 4 "law.go:32" #[Edge.mk 87 Ground.data, Edge.mk 85 Ground.guard] (some (85, true))) := by kernel_rfl
theorem i_al_89 : o_al[89]? = some (Oper.mk (some 179) (Op.pick (Operand.tmp 175) (Operand.tmp 178) (Operand.const (Value.bool false))) 4 "law.go:32" #[Edge.mk 85 Ground.data, Edge.mk 88 Ground.data] none) := by kernel_rfl
theorem i_al_90 : o_al[90]? = some (Oper.mk (some 180) (Op.move (Operand.tmp 179)) 4 "law.go:32" #[Edge.mk 89 Ground.data, Edge.mk 87 Ground.chain] none) := by kernel_rfl
theorem i_al_91 : o_al[91]? = some (Oper.mk (some 181) (Op.move (Operand.tmp 1)) 25 "law.go:32" #[Edge.mk 90 Ground.guard] (some (90, true))) := by kernel_rfl
theorem i_al_92 : o_al[92]? = some (Oper.mk (some 182) (Op.call (Call.mk (Callee.value (Operand.func 16)) #[Operand.tmp 181] #[25])) 3 "law.go:32" #[Edge.mk 91 Ground.data, Edge.mk 90 Ground.chain, Edge.mk 90 Ground.guard] (some (90, true))) := by kernel_rfl
theorem i_al_93 : o_al[93]? = some (Oper.mk (some 183) (Op.binOp BinOp.eql 3 (Operand.tmp 182) (Operand.const (Value.int IntKind.i64 1)) 3) 4 "law.go:32" #[Edge.mk 92 Ground.data, Edge.mk 90 Ground.guard] (some (90, true))) := by kernel_rfl
theorem i_al_94 : o_al[94]? = some (Oper.mk (some 184) (Op.pick (Operand.tmp 180) (Operand.tmp 183) (Operand.const (Value.bool false))) 4 "law.go:32" #[Edge.mk 90 Ground.data, Edge.mk 93 Ground.data] none) := by kernel_rfl
theorem i_al_95 : o_al[95]? = some (Oper.mk (some 0) (Op.assign (Operand.tmp 184)) 4 "law.go:32" ([Edge.mk 94 Ground.data, Edge.mk 92 Ground.chain, Edge.mk 0 Ground.phase, Edge.mk 1 Ground.phase, Edge.mk 2 Ground.phase, Edge.mk 3 Ground.phase, Edge.mk 4 Ground.phase, Edge.mk 5 Ground.phase, Edge.mk 6 Ground.phase, Edge.mk 7 Ground.phase, Edge.mk 8 Ground.phase, Edge.mk 9 Ground.phase, Edge.mk 10 Ground.phase, Edge.mk 11 Ground.phase, Edge.mk 12 Ground.phase, Edge.mk 13 Ground.phase, Edge.mk 14 Ground.phase, Edge.mk 15 Ground.phase, Edge.mk 16 Ground.phase, Edge.mk 17 Ground.phase, Edge.mk 18 Ground.phase, Edge.mk 19 Ground.phase, Edge.mk 20 Ground.phase, Edge.mk 21 Ground.phase, Edge.mk 22 Ground.phase, Edge.mk 23 Ground.phase, Edge.mk 24 Ground.phase, Edge.mk 25 Ground.phase, Edge.mk 26 Ground.phase, Edge.mk 27 Ground.phase, Edge.mk 28 Ground.phase, Edge.mk 29 Ground.phase, Edge.mk 30 Ground.phase, Edge.mk 31 Ground.phase, Edge.mk 32 Ground.phase, Edge.mk 33 Ground.phase, Edge.mk 34 Ground.phase, Edge.mk 35 Ground.phase, Edge.mk 36 Ground.phase, Edge.mk 37 Ground.phase, Edge.mk 38 Ground.phase, Edge.mk 39 Ground.phase, Edge.mk 40 Ground.phase, Edge.mk 41 Ground.phase, Edge.mk 42 Ground.phase, Edge.mk 43 Ground.phase, Edge.mk 44 Ground.phase, Edge.mk 45 Ground.phase].append [Edge.mk 46 Ground.phase, Edge.mk 47 Ground.phase, Edge.mk 48 Ground.phase, Edge.mk 49 Ground.phase, Edge.mk 50 Ground.phase, Edge.mk 51 Ground.phase, Edge.mk 52 Ground.phase, Edge.mk 53 Ground.phase, Edge.mk 54 Ground.phase, Edge.mk 55 Ground.phase, Edge.mk 56 Ground.phase, Edge.mk 57 Ground.phase, Edge.mk 58 Ground.phase, Edge.mk 59 Ground.phase, Edge.mk 60 Ground.phase, Edge.mk 61 Ground.phase, Edge.mk 62 Ground.phase, Edge.mk 63 Ground.phase, Edge.mk 64 Ground.phase, Edge.mk 65 Ground.phase, Edge.mk 66 Ground.phase, Edge.mk 67 Ground.phase, Edge.mk 68 Ground.phase, Edge.mk 69 Ground.phase, Edge.mk 70 Ground.phase, Edge.mk 71 Ground.phase, Edge.mk 72 Ground.phase, Edge.mk 73 Ground.phase, Edge.mk 74 Ground.phase, Edge.mk 75 Ground.phase, Edge.mk 76 Ground.phase, Edge.mk 77 Ground.phase, Edge.mk 78 Ground.phase, Edge.mk 79 Ground.phase, Edge.mk 80 Ground.phase, Edge.mk 81 Ground.phase, Edge.mk 82 Ground.phase, Edge.mk 83 Ground.phase, Edge.mk 84 Ground.phase, Edge.mk 85 Ground.phase, Edge.mk 86 Ground.phase, Edge.mk 87 Ground.phase, Edge.mk 88 Ground.phase, Edge.mk 89 Ground.phase, Edge.mk 90 Ground.phase, Edge.mk 91 Ground.phase, Edge.mk 92 Ground.phase, Edge.mk 93 Ground.phase, Edge.mk 94 Ground.phase]).toArray none) := by kernel_rfl
theorem s_al_0 : Region.free .any o_al l_al_0 0 = true ∧ (Region.ready .any o_al l_al_0).contains 0 = true ∧ l_al_0.setIfInBounds 0 true = l_al_1 := ⟨by kernel_rfl, by kernel_rfl, by kernel_rfl⟩
theorem s_al_1 : Region.free .any o_al l_al_1 1 = true ∧ (Region.ready .any o_al l_al_1).contains 1 = true ∧ l_al_1.setIfInBounds 1 true = l_al_2 := ⟨by kernel_rfl, by kernel_rfl, by kernel_rfl⟩
theorem s_al_2 : Region.free .any o_al l_al_2 2 = true ∧ (Region.ready .any o_al l_al_2).contains 2 = true ∧ l_al_2.setIfInBounds 2 true = l_al_3 := ⟨by kernel_rfl, by kernel_rfl, by kernel_rfl⟩
theorem s_al_3 : Region.free .any o_al l_al_3 3 = true ∧ (Region.ready .any o_al l_al_3).contains 3 = true ∧ l_al_3.setIfInBounds 3 true = l_al_4 := ⟨by kernel_rfl, by kernel_rfl, by kernel_rfl⟩
theorem s_al_4 : Region.free .any o_al l_al_4 4 = true ∧ (Region.ready .any o_al l_al_4).contains 4 = true ∧ l_al_4.setIfInBounds 4 true = l_al_5 := ⟨by kernel_rfl, by kernel_rfl, by kernel_rfl⟩
theorem s_al_5 : Region.free .any o_al l_al_5 5 = true ∧ (Region.ready .any o_al l_al_5).contains 5 = true ∧ l_al_5.setIfInBounds 5 true = l_al_6 := ⟨by kernel_rfl, by kernel_rfl, by kernel_rfl⟩
theorem s_al_6 : Region.free .any o_al l_al_6 6 = true ∧ (Region.ready .any o_al l_al_6).contains 6 = true ∧ l_al_6.setIfInBounds 6 true = l_al_7 := ⟨by kernel_rfl, by kernel_rfl, by kernel_rfl⟩
theorem s_al_7 : Region.free .any o_al l_al_7 7 = true ∧ (Region.ready .any o_al l_al_7).contains 7 = true ∧ l_al_7.setIfInBounds 7 true = l_al_8 := ⟨by kernel_rfl, by kernel_rfl, by kernel_rfl⟩
theorem s_al_8 : Region.free .any o_al l_al_8 8 = true ∧ (Region.ready .any o_al l_al_8).contains 8 = true ∧ l_al_8.setIfInBounds 8 true = l_al_9 := ⟨by kernel_rfl, by kernel_rfl, by kernel_rfl⟩
theorem s_al_9 : Region.free .any o_al l_al_9 9 = true ∧ (Region.ready .any o_al l_al_9).contains 9 = true ∧ l_al_9.setIfInBounds 9 true = l_al_10 := ⟨by kernel_rfl, by kernel_rfl, by kernel_rfl⟩
theorem s_al_10 : Region.free .any o_al l_al_10 10 = true ∧ (Region.ready .any o_al l_al_10).contains 10 = true ∧ l_al_10.setIfInBounds 10 true = l_al_11 := ⟨by kernel_rfl, by kernel_rfl, by kernel_rfl⟩
theorem s_al_11 : Region.free .any o_al l_al_11 11 = true ∧ (Region.ready .any o_al l_al_11).contains 11 = true ∧ l_al_11.setIfInBounds 11 true = l_al_12 := ⟨by kernel_rfl, by kernel_rfl, by kernel_rfl⟩
theorem s_al_12 : Region.free .any o_al l_al_12 12 = true ∧ (Region.ready .any o_al l_al_12).contains 12 = true ∧ l_al_12.setIfInBounds 12 true = l_al_13 := ⟨by kernel_rfl, by kernel_rfl, by kernel_rfl⟩
theorem s_al_13 : Region.free .any o_al l_al_13 13 = true ∧ (Region.ready .any o_al l_al_13).contains 13 = true ∧ l_al_13.setIfInBounds 13 true = l_al_14 := ⟨by kernel_rfl, by kernel_rfl, by kernel_rfl⟩
theorem s_al_14 : Region.free .any o_al l_al_14 14 = true ∧ (Region.ready .any o_al l_al_14).contains 14 = true ∧ l_al_14.setIfInBounds 14 true = l_al_15 := ⟨by kernel_rfl, by kernel_rfl, by kernel_rfl⟩
theorem s_al_15 : Region.free .any o_al l_al_15 15 = true ∧ (Region.ready .any o_al l_al_15).contains 15 = true ∧ l_al_15.setIfInBounds 15 true = l_al_16 := ⟨by kernel_rfl, by kernel_rfl, by kernel_rfl⟩
theorem s_al_16 : Region.free .any o_al l_al_16 16 = true ∧ (Region.ready .any o_al l_al_16).contains 16 = true ∧ l_al_16.setIfInBounds 16 true = l_al_17 := ⟨by kernel_rfl, by kernel_rfl, by kernel_rfl⟩
theorem s_al_17 : Region.free .any o_al l_al_17 17 = true ∧ (Region.ready .any o_al l_al_17).contains 17 = true ∧ l_al_17.setIfInBounds 17 true = l_al_18 := ⟨by kernel_rfl, by kernel_rfl, by kernel_rfl⟩
theorem s_al_18 : Region.free .any o_al l_al_18 18 = true ∧ (Region.ready .any o_al l_al_18).contains 18 = true ∧ l_al_18.setIfInBounds 18 true = l_al_19 := ⟨by kernel_rfl, by kernel_rfl, by kernel_rfl⟩
theorem s_al_19 : Region.free .any o_al l_al_19 19 = true ∧ (Region.ready .any o_al l_al_19).contains 19 = true ∧ l_al_19.setIfInBounds 19 true = l_al_20 := ⟨by kernel_rfl, by kernel_rfl, by kernel_rfl⟩
theorem s_al_20 : Region.free .any o_al l_al_20 20 = true ∧ (Region.ready .any o_al l_al_20).contains 20 = true ∧ l_al_20.setIfInBounds 20 true = l_al_21 := ⟨by kernel_rfl, by kernel_rfl, by kernel_rfl⟩
theorem s_al_21 : Region.free .any o_al l_al_21 21 = true ∧ (Region.ready .any o_al l_al_21).contains 21 = true ∧ l_al_21.setIfInBounds 21 true = l_al_22 := ⟨by kernel_rfl, by kernel_rfl, by kernel_rfl⟩
theorem s_al_22 : Region.free .any o_al l_al_22 22 = true ∧ (Region.ready .any o_al l_al_22).contains 22 = true ∧ l_al_22.setIfInBounds 22 true = l_al_23 := ⟨by kernel_rfl, by kernel_rfl, by kernel_rfl⟩
theorem s_al_23 : Region.free .any o_al l_al_23 23 = true ∧ (Region.ready .any o_al l_al_23).contains 23 = true ∧ l_al_23.setIfInBounds 23 true = l_al_24 := ⟨by kernel_rfl, by kernel_rfl, by kernel_rfl⟩
theorem s_al_24 : Region.free .any o_al l_al_24 24 = true ∧ (Region.ready .any o_al l_al_24).contains 24 = true ∧ l_al_24.setIfInBounds 24 true = l_al_25 := ⟨by kernel_rfl, by kernel_rfl, by kernel_rfl⟩
theorem s_al_25 : Region.free .any o_al l_al_25 25 = true ∧ (Region.ready .any o_al l_al_25).contains 25 = true ∧ l_al_25.setIfInBounds 25 true = l_al_26 := ⟨by kernel_rfl, by kernel_rfl, by kernel_rfl⟩
theorem s_al_26 : Region.free .any o_al l_al_26 26 = true ∧ (Region.ready .any o_al l_al_26).contains 26 = true ∧ l_al_26.setIfInBounds 26 true = l_al_27 := ⟨by kernel_rfl, by kernel_rfl, by kernel_rfl⟩
theorem s_al_27 : Region.free .any o_al l_al_27 27 = true ∧ (Region.ready .any o_al l_al_27).contains 27 = true ∧ l_al_27.setIfInBounds 27 true = l_al_28 := ⟨by kernel_rfl, by kernel_rfl, by kernel_rfl⟩
theorem s_al_28 : Region.free .any o_al l_al_28 28 = true ∧ (Region.ready .any o_al l_al_28).contains 28 = true ∧ l_al_28.setIfInBounds 28 true = l_al_29 := ⟨by kernel_rfl, by kernel_rfl, by kernel_rfl⟩
theorem s_al_29 : Region.free .any o_al l_al_29 29 = true ∧ (Region.ready .any o_al l_al_29).contains 29 = true ∧ l_al_29.setIfInBounds 29 true = l_al_30 := ⟨by kernel_rfl, by kernel_rfl, by kernel_rfl⟩
theorem s_al_30 : Region.free .any o_al l_al_30 30 = true ∧ (Region.ready .any o_al l_al_30).contains 30 = true ∧ l_al_30.setIfInBounds 30 true = l_al_31 := ⟨by kernel_rfl, by kernel_rfl, by kernel_rfl⟩
theorem s_al_31 : Region.free .any o_al l_al_31 31 = true ∧ (Region.ready .any o_al l_al_31).contains 31 = true ∧ l_al_31.setIfInBounds 31 true = l_al_32 := ⟨by kernel_rfl, by kernel_rfl, by kernel_rfl⟩
theorem s_al_32 : Region.free .any o_al l_al_32 32 = true ∧ (Region.ready .any o_al l_al_32).contains 32 = true ∧ l_al_32.setIfInBounds 32 true = l_al_33 := ⟨by kernel_rfl, by kernel_rfl, by kernel_rfl⟩
theorem s_al_33 : Region.free .any o_al l_al_33 33 = true ∧ (Region.ready .any o_al l_al_33).contains 33 = true ∧ l_al_33.setIfInBounds 33 true = l_al_34 := ⟨by kernel_rfl, by kernel_rfl, by kernel_rfl⟩
theorem s_al_34 : Region.free .any o_al l_al_34 34 = true ∧ (Region.ready .any o_al l_al_34).contains 34 = true ∧ l_al_34.setIfInBounds 34 true = l_al_35 := ⟨by kernel_rfl, by kernel_rfl, by kernel_rfl⟩
theorem s_al_35 : Region.free .any o_al l_al_35 35 = true ∧ (Region.ready .any o_al l_al_35).contains 35 = true ∧ l_al_35.setIfInBounds 35 true = l_al_36 := ⟨by kernel_rfl, by kernel_rfl, by kernel_rfl⟩
theorem s_al_36 : Region.free .any o_al l_al_36 36 = true ∧ (Region.ready .any o_al l_al_36).contains 36 = true ∧ l_al_36.setIfInBounds 36 true = l_al_37 := ⟨by kernel_rfl, by kernel_rfl, by kernel_rfl⟩
theorem s_al_37 : Region.free .any o_al l_al_37 37 = true ∧ (Region.ready .any o_al l_al_37).contains 37 = true ∧ l_al_37.setIfInBounds 37 true = l_al_38 := ⟨by kernel_rfl, by kernel_rfl, by kernel_rfl⟩
theorem s_al_38 : Region.free .any o_al l_al_38 38 = true ∧ (Region.ready .any o_al l_al_38).contains 38 = true ∧ l_al_38.setIfInBounds 38 true = l_al_39 := ⟨by kernel_rfl, by kernel_rfl, by kernel_rfl⟩
theorem s_al_39 : Region.free .any o_al l_al_39 39 = true ∧ (Region.ready .any o_al l_al_39).contains 39 = true ∧ l_al_39.setIfInBounds 39 true = l_al_40 := ⟨by kernel_rfl, by kernel_rfl, by kernel_rfl⟩
theorem s_al_40 : Region.free .any o_al l_al_40 40 = true ∧ (Region.ready .any o_al l_al_40).contains 40 = true ∧ l_al_40.setIfInBounds 40 true = l_al_41 := ⟨by kernel_rfl, by kernel_rfl, by kernel_rfl⟩
theorem s_al_41 : Region.free .any o_al l_al_41 41 = true ∧ (Region.ready .any o_al l_al_41).contains 41 = true ∧ l_al_41.setIfInBounds 41 true = l_al_42 := ⟨by kernel_rfl, by kernel_rfl, by kernel_rfl⟩
theorem s_al_42 : Region.free .any o_al l_al_42 42 = true ∧ (Region.ready .any o_al l_al_42).contains 42 = true ∧ l_al_42.setIfInBounds 42 true = l_al_43 := ⟨by kernel_rfl, by kernel_rfl, by kernel_rfl⟩
theorem s_al_43 : Region.free .any o_al l_al_43 43 = true ∧ (Region.ready .any o_al l_al_43).contains 43 = true ∧ l_al_43.setIfInBounds 43 true = l_al_44 := ⟨by kernel_rfl, by kernel_rfl, by kernel_rfl⟩
theorem s_al_44 : Region.free .any o_al l_al_44 44 = true ∧ (Region.ready .any o_al l_al_44).contains 44 = true ∧ l_al_44.setIfInBounds 44 true = l_al_45 := ⟨by kernel_rfl, by kernel_rfl, by kernel_rfl⟩
theorem s_al_45 : Region.free .any o_al l_al_45 45 = true ∧ (Region.ready .any o_al l_al_45).contains 45 = true ∧ l_al_45.setIfInBounds 45 true = l_al_46 := ⟨by kernel_rfl, by kernel_rfl, by kernel_rfl⟩
theorem s_al_46 : Region.free .any o_al l_al_46 46 = true ∧ (Region.ready .any o_al l_al_46).contains 46 = true ∧ l_al_46.setIfInBounds 46 true = l_al_47 := ⟨by kernel_rfl, by kernel_rfl, by kernel_rfl⟩
theorem s_al_47 : Region.free .any o_al l_al_47 47 = true ∧ (Region.ready .any o_al l_al_47).contains 47 = true ∧ l_al_47.setIfInBounds 47 true = l_al_48 := ⟨by kernel_rfl, by kernel_rfl, by kernel_rfl⟩
theorem s_al_48 : Region.free .any o_al l_al_48 48 = true ∧ (Region.ready .any o_al l_al_48).contains 48 = true ∧ l_al_48.setIfInBounds 48 true = l_al_49 := ⟨by kernel_rfl, by kernel_rfl, by kernel_rfl⟩
theorem s_al_49 : Region.free .any o_al l_al_49 49 = true ∧ (Region.ready .any o_al l_al_49).contains 49 = true ∧ l_al_49.setIfInBounds 49 true = l_al_50 := ⟨by kernel_rfl, by kernel_rfl, by kernel_rfl⟩
theorem s_al_50 : Region.free .any o_al l_al_50 50 = true ∧ (Region.ready .any o_al l_al_50).contains 50 = true ∧ l_al_50.setIfInBounds 50 true = l_al_51 := ⟨by kernel_rfl, by kernel_rfl, by kernel_rfl⟩
theorem s_al_51 : Region.free .any o_al l_al_51 51 = true ∧ (Region.ready .any o_al l_al_51).contains 51 = true ∧ l_al_51.setIfInBounds 51 true = l_al_52 := ⟨by kernel_rfl, by kernel_rfl, by kernel_rfl⟩
theorem s_al_52 : Region.free .any o_al l_al_52 52 = true ∧ (Region.ready .any o_al l_al_52).contains 52 = true ∧ l_al_52.setIfInBounds 52 true = l_al_53 := ⟨by kernel_rfl, by kernel_rfl, by kernel_rfl⟩
theorem s_al_53 : Region.free .any o_al l_al_53 53 = true ∧ (Region.ready .any o_al l_al_53).contains 53 = true ∧ l_al_53.setIfInBounds 53 true = l_al_54 := ⟨by kernel_rfl, by kernel_rfl, by kernel_rfl⟩
theorem s_al_54 : Region.free .any o_al l_al_54 54 = true ∧ (Region.ready .any o_al l_al_54).contains 54 = true ∧ l_al_54.setIfInBounds 54 true = l_al_55 := ⟨by kernel_rfl, by kernel_rfl, by kernel_rfl⟩
theorem s_al_55 : Region.free .any o_al l_al_55 55 = true ∧ (Region.ready .any o_al l_al_55).contains 55 = true ∧ l_al_55.setIfInBounds 55 true = l_al_56 := ⟨by kernel_rfl, by kernel_rfl, by kernel_rfl⟩
theorem s_al_56 : Region.free .any o_al l_al_56 56 = true ∧ (Region.ready .any o_al l_al_56).contains 56 = true ∧ l_al_56.setIfInBounds 56 true = l_al_57 := ⟨by kernel_rfl, by kernel_rfl, by kernel_rfl⟩
theorem s_al_57 : Region.free .any o_al l_al_57 57 = true ∧ (Region.ready .any o_al l_al_57).contains 57 = true ∧ l_al_57.setIfInBounds 57 true = l_al_58 := ⟨by kernel_rfl, by kernel_rfl, by kernel_rfl⟩
theorem s_al_58 : Region.free .any o_al l_al_58 58 = true ∧ (Region.ready .any o_al l_al_58).contains 58 = true ∧ l_al_58.setIfInBounds 58 true = l_al_59 := ⟨by kernel_rfl, by kernel_rfl, by kernel_rfl⟩
theorem s_al_59 : Region.free .any o_al l_al_59 59 = true ∧ (Region.ready .any o_al l_al_59).contains 59 = true ∧ l_al_59.setIfInBounds 59 true = l_al_60 := ⟨by kernel_rfl, by kernel_rfl, by kernel_rfl⟩
theorem s_al_60 : Region.free .any o_al l_al_60 60 = true ∧ (Region.ready .any o_al l_al_60).contains 60 = true ∧ l_al_60.setIfInBounds 60 true = l_al_61 := ⟨by kernel_rfl, by kernel_rfl, by kernel_rfl⟩
theorem s_al_61 : Region.free .any o_al l_al_61 61 = true ∧ (Region.ready .any o_al l_al_61).contains 61 = true ∧ l_al_61.setIfInBounds 61 true = l_al_62 := ⟨by kernel_rfl, by kernel_rfl, by kernel_rfl⟩
theorem s_al_62 : Region.free .any o_al l_al_62 62 = true ∧ (Region.ready .any o_al l_al_62).contains 62 = true ∧ l_al_62.setIfInBounds 62 true = l_al_63 := ⟨by kernel_rfl, by kernel_rfl, by kernel_rfl⟩
theorem s_al_63 : Region.free .any o_al l_al_63 63 = true ∧ (Region.ready .any o_al l_al_63).contains 63 = true ∧ l_al_63.setIfInBounds 63 true = l_al_64 := ⟨by kernel_rfl, by kernel_rfl, by kernel_rfl⟩
theorem s_al_64 : Region.free .any o_al l_al_64 64 = true ∧ (Region.ready .any o_al l_al_64).contains 64 = true ∧ l_al_64.setIfInBounds 64 true = l_al_65 := ⟨by kernel_rfl, by kernel_rfl, by kernel_rfl⟩
theorem s_al_65 : Region.free .any o_al l_al_65 65 = true ∧ (Region.ready .any o_al l_al_65).contains 65 = true ∧ l_al_65.setIfInBounds 65 true = l_al_66 := ⟨by kernel_rfl, by kernel_rfl, by kernel_rfl⟩
theorem s_al_66 : Region.free .any o_al l_al_66 66 = true ∧ (Region.ready .any o_al l_al_66).contains 66 = true ∧ l_al_66.setIfInBounds 66 true = l_al_67 := ⟨by kernel_rfl, by kernel_rfl, by kernel_rfl⟩
theorem s_al_67 : Region.free .any o_al l_al_67 67 = true ∧ (Region.ready .any o_al l_al_67).contains 67 = true ∧ l_al_67.setIfInBounds 67 true = l_al_68 := ⟨by kernel_rfl, by kernel_rfl, by kernel_rfl⟩
theorem s_al_68 : Region.free .any o_al l_al_68 68 = true ∧ (Region.ready .any o_al l_al_68).contains 68 = true ∧ l_al_68.setIfInBounds 68 true = l_al_69 := ⟨by kernel_rfl, by kernel_rfl, by kernel_rfl⟩
theorem s_al_69 : Region.free .any o_al l_al_69 69 = true ∧ (Region.ready .any o_al l_al_69).contains 69 = true ∧ l_al_69.setIfInBounds 69 true = l_al_70 := ⟨by kernel_rfl, by kernel_rfl, by kernel_rfl⟩
theorem s_al_70 : Region.free .any o_al l_al_70 70 = true ∧ (Region.ready .any o_al l_al_70).contains 70 = true ∧ l_al_70.setIfInBounds 70 true = l_al_71 := ⟨by kernel_rfl, by kernel_rfl, by kernel_rfl⟩
theorem s_al_71 : Region.free .any o_al l_al_71 71 = true ∧ (Region.ready .any o_al l_al_71).contains 71 = true ∧ l_al_71.setIfInBounds 71 true = l_al_72 := ⟨by kernel_rfl, by kernel_rfl, by kernel_rfl⟩
theorem s_al_72 : Region.ready .any o_al l_al_72 = [72] ∧ l_al_72.setIfInBounds 72 true = l_al_73 := ⟨by kernel_rfl, by kernel_rfl⟩
theorem s_al_73 : Region.ready .any o_al l_al_73 = [73] ∧ l_al_73.setIfInBounds 73 true = l_al_74 := ⟨by kernel_rfl, by kernel_rfl⟩
theorem s_al_74 : Region.free .any o_al l_al_74 74 = true ∧ (Region.ready .any o_al l_al_74).contains 74 = true ∧ l_al_74.setIfInBounds 74 true = l_al_75 := ⟨by kernel_rfl, by kernel_rfl, by kernel_rfl⟩
theorem s_al_75 : Region.free .any o_al l_al_75 75 = true ∧ (Region.ready .any o_al l_al_75).contains 75 = true ∧ l_al_75.setIfInBounds 75 true = l_al_76 := ⟨by kernel_rfl, by kernel_rfl, by kernel_rfl⟩
theorem s_al_76 : Region.free .any o_al l_al_76 76 = true ∧ (Region.ready .any o_al l_al_76).contains 76 = true ∧ l_al_76.setIfInBounds 76 true = l_al_77 := ⟨by kernel_rfl, by kernel_rfl, by kernel_rfl⟩
theorem s_al_77 : Region.ready .any o_al l_al_77 = [77] ∧ l_al_77.setIfInBounds 77 true = l_al_78 := ⟨by kernel_rfl, by kernel_rfl⟩
theorem s_al_78 : Region.ready .any o_al l_al_78 = [78] ∧ l_al_78.setIfInBounds 78 true = l_al_79 := ⟨by kernel_rfl, by kernel_rfl⟩
theorem s_al_79 : Region.free .any o_al l_al_79 79 = true ∧ (Region.ready .any o_al l_al_79).contains 79 = true ∧ l_al_79.setIfInBounds 79 true = l_al_80 := ⟨by kernel_rfl, by kernel_rfl, by kernel_rfl⟩
theorem s_al_80 : Region.free .any o_al l_al_80 80 = true ∧ (Region.ready .any o_al l_al_80).contains 80 = true ∧ l_al_80.setIfInBounds 80 true = l_al_81 := ⟨by kernel_rfl, by kernel_rfl, by kernel_rfl⟩
theorem s_al_81 : Region.free .any o_al l_al_81 81 = true ∧ (Region.ready .any o_al l_al_81).contains 81 = true ∧ l_al_81.setIfInBounds 81 true = l_al_82 := ⟨by kernel_rfl, by kernel_rfl, by kernel_rfl⟩
theorem s_al_82 : Region.ready .any o_al l_al_82 = [82] ∧ l_al_82.setIfInBounds 82 true = l_al_83 := ⟨by kernel_rfl, by kernel_rfl⟩
theorem s_al_83 : Region.free .any o_al l_al_83 83 = true ∧ (Region.ready .any o_al l_al_83).contains 83 = true ∧ l_al_83.setIfInBounds 83 true = l_al_84 := ⟨by kernel_rfl, by kernel_rfl, by kernel_rfl⟩
theorem s_al_84 : Region.free .any o_al l_al_84 84 = true ∧ (Region.ready .any o_al l_al_84).contains 84 = true ∧ l_al_84.setIfInBounds 84 true = l_al_85 := ⟨by kernel_rfl, by kernel_rfl, by kernel_rfl⟩
theorem s_al_85 : Region.free .any o_al l_al_85 85 = true ∧ (Region.ready .any o_al l_al_85).contains 85 = true ∧ l_al_85.setIfInBounds 85 true = l_al_86 := ⟨by kernel_rfl, by kernel_rfl, by kernel_rfl⟩
theorem s_al_86 : Region.free .any o_al l_al_86 86 = true ∧ (Region.ready .any o_al l_al_86).contains 86 = true ∧ l_al_86.setIfInBounds 86 true = l_al_87 := ⟨by kernel_rfl, by kernel_rfl, by kernel_rfl⟩
theorem s_al_87 : Region.ready .any o_al l_al_87 = [87] ∧ l_al_87.setIfInBounds 87 true = l_al_88 := ⟨by kernel_rfl, by kernel_rfl⟩
theorem s_al_88 : Region.free .any o_al l_al_88 88 = true ∧ (Region.ready .any o_al l_al_88).contains 88 = true ∧ l_al_88.setIfInBounds 88 true = l_al_89 := ⟨by kernel_rfl, by kernel_rfl, by kernel_rfl⟩
theorem s_al_89 : Region.free .any o_al l_al_89 89 = true ∧ (Region.ready .any o_al l_al_89).contains 89 = true ∧ l_al_89.setIfInBounds 89 true = l_al_90 := ⟨by kernel_rfl, by kernel_rfl, by kernel_rfl⟩
theorem s_al_90 : Region.free .any o_al l_al_90 90 = true ∧ (Region.ready .any o_al l_al_90).contains 90 = true ∧ l_al_90.setIfInBounds 90 true = l_al_91 := ⟨by kernel_rfl, by kernel_rfl, by kernel_rfl⟩
theorem s_al_91 : Region.free .any o_al l_al_91 91 = true ∧ (Region.ready .any o_al l_al_91).contains 91 = true ∧ l_al_91.setIfInBounds 91 true = l_al_92 := ⟨by kernel_rfl, by kernel_rfl, by kernel_rfl⟩
theorem s_al_92 : Region.ready .any o_al l_al_92 = [92] ∧ l_al_92.setIfInBounds 92 true = l_al_93 := ⟨by kernel_rfl, by kernel_rfl⟩
theorem s_al_93 : Region.free .any o_al l_al_93 93 = true ∧ (Region.ready .any o_al l_al_93).contains 93 = true ∧ l_al_93.setIfInBounds 93 true = l_al_94 := ⟨by kernel_rfl, by kernel_rfl, by kernel_rfl⟩
theorem s_al_94 : Region.free .any o_al l_al_94 94 = true ∧ (Region.ready .any o_al l_al_94).contains 94 = true ∧ l_al_94.setIfInBounds 94 true = l_al_95 := ⟨by kernel_rfl, by kernel_rfl, by kernel_rfl⟩
theorem s_al_95 : Region.free .any o_al l_al_95 95 = true ∧ (Region.ready .any o_al l_al_95).contains 95 = true ∧ l_al_95.setIfInBounds 95 true = l_al_96 := ⟨by kernel_rfl, by kernel_rfl, by kernel_rfl⟩
theorem e_al : Region.ready .any o_al l_al_96 = [] := by kernel_rfl
set_option maxRecDepth 100000 in
set_option maxHeartbeats 4000000 in
theorem alive_tail (w w16 : World) (b p5 p6 p7 p9 p10 p11 p13 p15 p16 : Nat) (a5 a6 a9 a11 a15 a16 : Option Addr) (c5 c6 c9 c11 c15 c16 : Nat) (vU vC : Value) {K : Act → World → Prop} {Q : Exit → Act → World → Prop} (u24 u25 u26 u27 u28 u29 u30 u31 u32 u33 u34 u35 u36 u37 u38 u39 u40 u41 u42 u43 u44 u45 u46 u47 u48 u49 u50 u51 u52 u53 u54 u55 u56 u57 u58 u59 u60 u61 u62 u63 u64 u65 u66 u67 u68 u69 u70 u71 u72 u73 u74 u75 u76 u77 u78 u79 u80 u81 u82 u83 u84 u85 u86 u87 u88 u89 : Value)
    (E : EndB w16 p5 p6 p9 p11 p15 p16 a5 a6 a9 a11 a15 a16 c5 c6 c9 c11 c15 c16) (HF : Hid (FAt w16 (fun k => k < b) b y14 vU vC)) (HB : Hid (Below b w w16))
    (HQP : Hid (∀ c (a : Act) d v w, Q (.panic c) (a.put d v) w → Q (.panic c) a w))
    (hK : ∀ (x90 x91 x92 x93 x94 x95 x96 x97 x98 x99 x100 x101 x102 x103 x104 x105 x106 x107 x108 x109 x110 x111 x112 x113 x114 x115 x116 x117 x118 x119 x120 x121 x122 x123 x124 x125 x126 x127 x128 x129 x130 x131 x132 x133 x134 x135 x136 x137 x138 x139 x140 x141 x142 x143 x144 x145 x146 x147 x148 x149 x150 x151 x152 x153 x154 x155 x156 x157 x158 x159 x160 x161 x162 x163 x164 x165 x166 x167 x168 x169 x170 x171 x172 x173 x174 x175 x176 x177 x178 x179 x180 x181 x182 x183 x184 : Value) (w' : World), Below b w w' → K ⟨#[.bool true, .pointer (some ⟨b, 0, none⟩), .int .i64 0, .pointer (some ⟨p5, 0, none⟩), .bool true, .pointer (some ⟨p6, 0, none⟩), .bool true, .pointer (some ⟨p7, 0, none⟩), .bool false, .int .i64 0, .pointer (some ⟨p9, 0, none⟩), .bool true, .pointer (some ⟨p10, 0, none⟩), .bool false, .pointer (some ⟨p11, 0, none⟩), .bool true, .int .i64 14, .pointer (some ⟨p13, 0, none⟩), .bool false, .int .i64 0, .pointer (some ⟨p15, 0, none⟩), .bool true, .pointer (some ⟨p16, 0, none⟩), .bool true, u24, u25, u26, u27, u28, u29, u30, u31, u32, u33, u34, u35, u36, u37, u38, u39, u40, u41, u42, u43, u44, u45, u46, u47, u48, u49, u50, u51, u52, u53, u54, u55, u56, u57, u58, u59, u60, u61, u62, u63, u64, u65, u66, u67, u68, u69, u70, u71, u72, u73, u74, u75, u76, u77, u78, u79, u80, u81, u82, u83, u84, u85, u86, u87, u88, u89, x90, x91, x92, x93, x94, x95, x96, x97, x98, x99, x100, x101, x102, x103, x104, x105, x106, x107, x108, x109, x110, x111, x112, x113, x114, x115, x116, x117, x118, x119, x120, x121, x122, x123, x124, x125, x126, x127, x128, x129, x130, x131, x132, x133, x134, x135, x136, x137, x138, x139, x140, x141, x142, x143, x144, x145, x146, x147, x148, x149, x150, x151, x152, x153, x154, x155, x156, x157, x158, x159, x160, x161, x162, x163, x164, x165, x166, x167, x168, x169, x170, x171, x172, x173, x174, x175, x176, x177, x178, x179, x180, x181, x182, x183, x184], []⟩ w') :
    Code.wp Try.prog (Code.region 17 o_al true) (Exit.then K Q) ⟨#[.bool false, .pointer (some ⟨b, 0, none⟩), .int .i64 0, .pointer (some ⟨p5, 0, none⟩), .bool true, .pointer (some ⟨p6, 0, none⟩), .bool true, .pointer (some ⟨p7, 0, none⟩), .bool false, .int .i64 0, .pointer (some ⟨p9, 0, none⟩), .bool true, .pointer (some ⟨p10, 0, none⟩), .bool false, .pointer (some ⟨p11, 0, none⟩), .bool true, .int .i64 14, .pointer (some ⟨p13, 0, none⟩), .bool false, .int .i64 0, .pointer (some ⟨p15, 0, none⟩), .bool true, .pointer (some ⟨p16, 0, none⟩), .bool true, u24, u25, u26, u27, u28, u29, u30, u31, u32, u33, u34, u35, u36, u37, u38, u39, u40, u41, u42, u43, u44, u45, u46, u47, u48, u49, u50, u51, u52, u53, u54, u55, u56, u57, u58, u59, u60, u61, u62, u63, u64, u65, u66, u67, u68, u69, u70, u71, u72, u73, u74, u75, u76, u77, u78, u79, u80, u81, u82, u83, u84, u85, u86, u87, u88, u89, undef, undef, undef, undef, undef, undef, undef, undef, undef, undef, undef, undef, undef, undef, undef, undef, undef, undef, undef, undef, undef, undef, undef, undef, undef, undef, undef, undef, undef, undef, undef, undef, undef, undef, undef, undef, undef, undef, undef, undef, undef, undef, undef, undef, undef, undef, undef, undef, undef, undef, undef, undef, undef, undef, undef, undef, undef, undef, undef, undef, undef, undef, undef, undef, undef, undef, undef, undef, undef, undef, undef, undef, undef, undef, undef, undef, undef, undef, undef, undef, undef, undef, undef, undef, undef, undef, undef, undef, undef, undef, undef, undef, undef, undef, undef], []⟩ w16 := by
  have HKK := Lib.hid hK
  clear hK
  obtain ⟨s1, s2, s3, s4, s5, s6, s7, s8, s9, s10, s11, s12, s13, s14, s15, s16, s17, s18⟩ := endS E
  have E0 := Lib.hid E
  clear E
  have sd : Sem.run Try.prog (convert 23 9 (.slice a6 1 c6)) w16.drew = .ok (.string ⟨#[66]⟩) w16.drew := str_n 1 c6 rfl (show BAt w16.drew a6 [66] from E0.out.2.2.2.2.2.2.1)
  refine big_start (S := (fun w' => w'.cell? ⟨p5, 4, none⟩ = some (.int .i64 0) ∧ w'.cell? ⟨p6, 4, none⟩ = some (.int .i64 1) ∧ w'.cell? ⟨p6, 5, none⟩ = some (.slice a6 1 c6) ∧ w'.cell? ⟨p9, 4, none⟩ = some (.int .i64 2) ∧ w'.cell? ⟨p11, 4, none⟩ = some (.int .i64 1) ∧ w'.cell? ⟨p15, 0, none⟩ = some (.bool true) ∧ w'.cell? ⟨p15, 1, none⟩ = some (.bool true) ∧ w'.cell? ⟨p15, 2, none⟩ = some (.int .i64 5) ∧ w'.cell? ⟨p15, 3, none⟩ = some (.int .i64 1) ∧ w'.cell? ⟨p15, 4, none⟩ = some (.int .i64 0) ∧ w'.cell? ⟨p15, 5, none⟩ = some (.slice a15 1 c15) ∧ w'.cell? ⟨p16, 0, none⟩ = some (.bool true) ∧ w'.cell? ⟨p16, 1, none⟩ = some (.bool true) ∧ w'.cell? ⟨p16, 2, none⟩ = some (.int .i64 5) ∧ w'.cell? ⟨p16, 3, none⟩ = some (.int .i64 1) ∧ w'.cell? ⟨p16, 4, none⟩ = some (.int .i64 0) ∧ w'.cell? ⟨p16, 5, none⟩ = some (.slice a16 3 c16) ∧ (convert 23 9 (.slice a6 1 c6)).run Try.prog w' = .ok (.string ⟨#[66]⟩) w')) n_al z_al (by kernel_rfl) (by (try dsimp only); first | with_reducible exact ⟨by with_reducible assumption, by with_reducible assumption, by with_reducible assumption, by with_reducible assumption, by with_reducible assumption, by with_reducible assumption, by with_reducible assumption, by with_reducible assumption, by with_reducible assumption, by with_reducible assumption, by with_reducible assumption, by with_reducible assumption, by with_reducible assumption, by with_reducible assumption, by with_reducible assumption, by with_reducible assumption, by with_reducible assumption, by with_reducible assumption⟩ | (go_keep <;> with_reducible assumption)) (fun hHeld => ?_)
  refine big_take (v := ?_) ns_al i_al_0 s_al_0.1 s_al_0.2.1 s_al_0.2.2 (by first | exact fun _ _ _ h => h | exact fun c a w h => HQP.out c a _ _ w h) (.inl rfl) ?_ (by assumption) ?_
  rotate_left
  · (intro w hSw; (try dsimp only at hSw); go_simp; first | done | with_reducible rfl)
  (try simp only [Act.put, List.setIfInBounds_toArray, List.set_cons_zero, List.set_cons_succ])
  refine big_take (v := ?_) ns_al i_al_1 s_al_1.1 s_al_1.2.1 s_al_1.2.2 (by first | exact fun _ _ _ h => h | exact fun c a w h => HQP.out c a _ _ w h) (.inl rfl) ?_ (by assumption) ?_
  rotate_left
  · (intro w hSw; (try dsimp only at hSw); go_simp; first | done | with_reducible rfl)
  (try simp only [Act.put, List.setIfInBounds_toArray, List.set_cons_zero, List.set_cons_succ])
  refine big_take (v := ?_) ns_al i_al_2 s_al_2.1 s_al_2.2.1 s_al_2.2.2 (by first | exact fun _ _ _ h => h | exact fun c a w h => HQP.out c a _ _ w h) (.inl rfl) ?_ (by assumption) ?_
  rotate_left
  · (intro w hSw; (try dsimp only at hSw); go_simp; first | done | with_reducible rfl)
  (try simp only [Act.put, List.setIfInBounds_toArray, List.set_cons_zero, List.set_cons_succ])
  refine big_take (v := ?_) ns_al i_al_3 s_al_3.1 s_al_3.2.1 s_al_3.2.2 (by first | exact fun _ _ _ h => h | exact fun c a w h => HQP.out c a _ _ w h) (.inr ⟨_, _, _, _, rfl, i_al_2, rfl, rfl⟩) ?_ (by assumption) ?_
  rotate_left
  · (intro w hSw; (try dsimp only at hSw); go_simp; first | done | with_reducible rfl)
  (try simp only [Act.put, List.setIfInBounds_toArray, List.set_cons_zero, List.set_cons_succ])
  refine big_take (v := ?_) ns_al i_al_4 s_al_4.1 s_al_4.2.1 s_al_4.2.2 (by first | exact fun _ _ _ h => h | exact fun c a w h => HQP.out c a _ _ w h) (.inl rfl) ?_ (by assumption) ?_
  rotate_left
  · (intro w hSw; (try dsimp only at hSw); go_simp; first | done | with_reducible rfl)
  (try simp only [Act.put, List.setIfInBounds_toArray, List.set_cons_zero, List.set_cons_succ])
  refine big_take (v := ?_) ns_al i_al_5 s_al_5.1 s_al_5.2.1 s_al_5.2.2 (by first | exact fun _ _ _ h => h | exact fun c a w h => HQP.out c a _ _ w h) (.inl rfl) ?_ (by assumption) ?_
  rotate_left
  · (intro w hSw; (try dsimp only at hSw); go_simp; first | done | with_reducible rfl)
  (try simp only [Act.put, List.setIfInBounds_toArray, List.set_cons_zero, List.set_cons_succ])
  refine big_take (v := ?_) ns_al i_al_6 s_al_6.1 s_al_6.2.1 s_al_6.2.2 (by first | exact fun _ _ _ h => h | exact fun c a w h => HQP.out c a _ _ w h) (.inr ⟨_, _, _, _, rfl, i_al_5, rfl, rfl⟩) ?_ (by assumption) ?_
  rotate_left
  · (intro w hSw; (try dsimp only at hSw); go_simp; first | done | with_reducible rfl)
  (try simp only [Act.put, List.setIfInBounds_toArray, List.set_cons_zero, List.set_cons_succ])
  refine big_take (v := ?_) ns_al i_al_7 s_al_7.1 s_al_7.2.1 s_al_7.2.2 (by first | exact fun _ _ _ h => h | exact fun c a w h => HQP.out c a _ _ w h) (.inl rfl) ?_ (by assumption) ?_
  rotate_left
  · (intro w hSw; (try dsimp only at hSw); go_simp; first | done | with_reducible rfl)
  (try simp only [Act.put, List.setIfInBounds_toArray, List.set_cons_zero, List.set_cons_succ])
  refine big_take (v := ?_) ns_al i_al_8 s_al_8.1 s_al_8.2.1 s_al_8.2.2 (by first | exact fun _ _ _ h => h | exact fun c a w h => HQP.out c a _ _ w h) (.inl rfl) ?_ (by assumption) ?_
  rotate_left
  · (intro w hSw; (try dsimp only at hSw); go_simp; first | done | with_reducible rfl)
  (try simp only [Act.put, List.setIfInBounds_toArray, List.set_cons_zero, List.set_cons_succ])
  refine big_take (v := ?_) ns_al i_al_9 s_al_9.1 s_al_9.2.1 s_al_9.2.2 (by first | exact fun _ _ _ h => h | exact fun c a w h => HQP.out c a _ _ w h) (.inr ⟨_, _, _, _, rfl, i_al_8, rfl, rfl⟩) ?_ (by assumption) ?_
  rotate_left
  · (intro w hSw; (try dsimp only at hSw); go_simp; first | done | with_reducible rfl)
  (try simp only [Act.put, List.setIfInBounds_toArray, List.set_cons_zero, List.set_cons_succ])
  refine big_take (v := ?_) ns_al i_al_10 s_al_10.1 s_al_10.2.1 s_al_10.2.2 (by first | exact fun _ _ _ h => h | exact fun c a w h => HQP.out c a _ _ w h) (.inr ⟨_, _, _, _, rfl, i_al_8, rfl, rfl⟩) ?_ (by assumption) ?_
  rotate_left
  · (intro w hSw; (try dsimp only at hSw); go_simp; first | done | with_reducible rfl)
  (try simp only [Act.put, List.setIfInBounds_toArray, List.set_cons_zero, List.set_cons_succ])
  refine big_take (v := ?_) ns_al i_al_11 s_al_11.1 s_al_11.2.1 s_al_11.2.2 (by first | exact fun _ _ _ h => h | exact fun c a w h => HQP.out c a _ _ w h) (.inl rfl) ?_ (by assumption) ?_
  rotate_left
  · (intro w hSw; (try dsimp only at hSw); go_simp; first | done | with_reducible rfl)
  (try simp only [Act.put, List.setIfInBounds_toArray, List.set_cons_zero, List.set_cons_succ])
  refine big_take (v := ?_) ns_al i_al_12 s_al_12.1 s_al_12.2.1 s_al_12.2.2 (by first | exact fun _ _ _ h => h | exact fun c a w h => HQP.out c a _ _ w h) (.inl rfl) ?_ (by assumption) ?_
  rotate_left
  · (intro w hSw; (try dsimp only at hSw); go_simp; first | done | with_reducible rfl)
  (try simp only [Act.put, List.setIfInBounds_toArray, List.set_cons_zero, List.set_cons_succ])
  refine big_take (v := ?_) ns_al i_al_13 s_al_13.1 s_al_13.2.1 s_al_13.2.2 (by first | exact fun _ _ _ h => h | exact fun c a w h => HQP.out c a _ _ w h) (.inr ⟨_, _, _, _, rfl, i_al_12, rfl, rfl⟩) ?_ (by assumption) ?_
  rotate_left
  · (intro w hSw; (try dsimp only at hSw); go_simp; first | done | with_reducible rfl)
  (try simp only [Act.put, List.setIfInBounds_toArray, List.set_cons_zero, List.set_cons_succ])
  refine big_take (v := ?_) ns_al i_al_14 s_al_14.1 s_al_14.2.1 s_al_14.2.2 (by first | exact fun _ _ _ h => h | exact fun c a w h => HQP.out c a _ _ w h) (.inr ⟨_, _, _, _, rfl, i_al_12, rfl, rfl⟩) ?_ (by assumption) ?_
  rotate_left
  · (intro w hSw; (try dsimp only at hSw); go_simp; first | done | with_reducible rfl)
  (try simp only [Act.put, List.setIfInBounds_toArray, List.set_cons_zero, List.set_cons_succ])
  refine big_take (v := ?_) ns_al i_al_15 s_al_15.1 s_al_15.2.1 s_al_15.2.2 (by first | exact fun _ _ _ h => h | exact fun c a w h => HQP.out c a _ _ w h) (.inr ⟨_, _, _, _, rfl, i_al_12, rfl, rfl⟩) ?_ (by assumption) ?_
  rotate_left
  · (intro w hSw; (try dsimp only at hSw); go_simp; first | done | with_reducible rfl)
  (try simp only [Act.put, List.setIfInBounds_toArray, List.set_cons_zero, List.set_cons_succ])
  refine big_take (v := ?_) ns_al i_al_16 s_al_16.1 s_al_16.2.1 s_al_16.2.2 (by first | exact fun _ _ _ h => h | exact fun c a w h => HQP.out c a _ _ w h) (.inl rfl) ?_ (by assumption) ?_
  rotate_left
  · (intro w hSw; (try dsimp only at hSw); go_simp; first | done | with_reducible rfl)
  (try simp only [Act.put, List.setIfInBounds_toArray, List.set_cons_zero, List.set_cons_succ])
  refine big_take (v := ?_) ns_al i_al_17 s_al_17.1 s_al_17.2.1 s_al_17.2.2 (by first | exact fun _ _ _ h => h | exact fun c a w h => HQP.out c a _ _ w h) (.inl rfl) ?_ (by assumption) ?_
  rotate_left
  · (intro w hSw; (try dsimp only at hSw); go_simp; first | done | with_reducible rfl)
  (try simp only [Act.put, List.setIfInBounds_toArray, List.set_cons_zero, List.set_cons_succ])
  refine big_take (v := ?_) ns_al i_al_18 s_al_18.1 s_al_18.2.1 s_al_18.2.2 (by first | exact fun _ _ _ h => h | exact fun c a w h => HQP.out c a _ _ w h) (.inr ⟨_, _, _, _, rfl, i_al_17, rfl, rfl⟩) ?_ (by assumption) ?_
  rotate_left
  · (intro w hSw; (try dsimp only at hSw); go_simp; first | done | with_reducible rfl)
  (try simp only [Act.put, List.setIfInBounds_toArray, List.set_cons_zero, List.set_cons_succ])
  refine big_take (v := ?_) ns_al i_al_19 s_al_19.1 s_al_19.2.1 s_al_19.2.2 (by first | exact fun _ _ _ h => h | exact fun c a w h => HQP.out c a _ _ w h) (.inr ⟨_, _, _, _, rfl, i_al_17, rfl, rfl⟩) ?_ (by assumption) ?_
  rotate_left
  · (intro w hSw; (try dsimp only at hSw); go_simp; first | done | with_reducible rfl)
  (try simp only [Act.put, List.setIfInBounds_toArray, List.set_cons_zero, List.set_cons_succ])
  refine big_take (v := ?_) ns_al i_al_20 s_al_20.1 s_al_20.2.1 s_al_20.2.2 (by first | exact fun _ _ _ h => h | exact fun c a w h => HQP.out c a _ _ w h) (.inr ⟨_, _, _, _, rfl, i_al_17, rfl, rfl⟩) ?_ (by assumption) ?_
  rotate_left
  · (intro w hSw; (try dsimp only at hSw); go_simp; first | done | with_reducible rfl)
  (try simp only [Act.put, List.setIfInBounds_toArray, List.set_cons_zero, List.set_cons_succ])
  refine big_take (v := ?_) ns_al i_al_21 s_al_21.1 s_al_21.2.1 s_al_21.2.2 (by first | exact fun _ _ _ h => h | exact fun c a w h => HQP.out c a _ _ w h) (.inl rfl) ?_ (by assumption) ?_
  rotate_left
  · (intro w hSw; (try dsimp only at hSw); go_simp; first | done | with_reducible rfl)
  (try simp only [Act.put, List.setIfInBounds_toArray, List.set_cons_zero, List.set_cons_succ])
  refine big_take (v := ?_) ns_al i_al_22 s_al_22.1 s_al_22.2.1 s_al_22.2.2 (by first | exact fun _ _ _ h => h | exact fun c a w h => HQP.out c a _ _ w h) (.inl rfl) ?_ (by assumption) ?_
  rotate_left
  · (intro w hSw; (try dsimp only at hSw); go_simp; first | done | with_reducible rfl)
  (try simp only [Act.put, List.setIfInBounds_toArray, List.set_cons_zero, List.set_cons_succ])
  refine big_take (v := ?_) ns_al i_al_23 s_al_23.1 s_al_23.2.1 s_al_23.2.2 (by first | exact fun _ _ _ h => h | exact fun c a w h => HQP.out c a _ _ w h) (.inr ⟨_, _, _, _, rfl, i_al_22, rfl, rfl⟩) ?_ (by assumption) ?_
  rotate_left
  · (intro w hSw; (try dsimp only at hSw); go_simp; first | done | with_reducible rfl)
  (try simp only [Act.put, List.setIfInBounds_toArray, List.set_cons_zero, List.set_cons_succ])
  refine big_take (v := ?_) ns_al i_al_24 s_al_24.1 s_al_24.2.1 s_al_24.2.2 (by first | exact fun _ _ _ h => h | exact fun c a w h => HQP.out c a _ _ w h) (.inr ⟨_, _, _, _, rfl, i_al_22, rfl, rfl⟩) ?_ (by assumption) ?_
  rotate_left
  · (intro w hSw; (try dsimp only at hSw); go_simp; first | done | with_reducible rfl)
  (try simp only [Act.put, List.setIfInBounds_toArray, List.set_cons_zero, List.set_cons_succ])
  refine big_take (v := ?_) ns_al i_al_25 s_al_25.1 s_al_25.2.1 s_al_25.2.2 (by first | exact fun _ _ _ h => h | exact fun c a w h => HQP.out c a _ _ w h) (.inr ⟨_, _, _, _, rfl, i_al_22, rfl, rfl⟩) ?_ (by assumption) ?_
  rotate_left
  · (intro w hSw; (try dsimp only at hSw); go_simp; first | done | with_reducible rfl)
  (try simp only [Act.put, List.setIfInBounds_toArray, List.set_cons_zero, List.set_cons_succ])
  refine big_take (v := ?_) ns_al i_al_26 s_al_26.1 s_al_26.2.1 s_al_26.2.2 (by first | exact fun _ _ _ h => h | exact fun c a w h => HQP.out c a _ _ w h) (.inr ⟨_, _, _, _, rfl, i_al_22, rfl, rfl⟩) ?_ (by assumption) ?_
  rotate_left
  · (intro w hSw; (try dsimp only at hSw); go_simp; first | done | with_reducible rfl)
  (try simp only [Act.put, List.setIfInBounds_toArray, List.set_cons_zero, List.set_cons_succ])
  refine big_take (v := ?_) ns_al i_al_27 s_al_27.1 s_al_27.2.1 s_al_27.2.2 (by first | exact fun _ _ _ h => h | exact fun c a w h => HQP.out c a _ _ w h) (.inl rfl) ?_ (by assumption) ?_
  rotate_left
  · (intro w hSw; (try dsimp only at hSw); go_simp; first | done | with_reducible rfl)
  (try simp only [Act.put, List.setIfInBounds_toArray, List.set_cons_zero, List.set_cons_succ])
  refine big_take (v := ?_) ns_al i_al_28 s_al_28.1 s_al_28.2.1 s_al_28.2.2 (by first | exact fun _ _ _ h => h | exact fun c a w h => HQP.out c a _ _ w h) (.inl rfl) ?_ (by assumption) ?_
  rotate_left
  · (intro w hSw; (try dsimp only at hSw); go_simp; first | done | with_reducible rfl)
  (try simp only [Act.put, List.setIfInBounds_toArray, List.set_cons_zero, List.set_cons_succ])
  refine big_take (v := ?_) ns_al i_al_29 s_al_29.1 s_al_29.2.1 s_al_29.2.2 (by first | exact fun _ _ _ h => h | exact fun c a w h => HQP.out c a _ _ w h) (.inr ⟨_, _, _, _, rfl, i_al_28, rfl, rfl⟩) ?_ (by assumption) ?_
  rotate_left
  · (intro w hSw; (try dsimp only at hSw); go_simp; first | done | with_reducible rfl)
  (try simp only [Act.put, List.setIfInBounds_toArray, List.set_cons_zero, List.set_cons_succ])
  refine big_take (v := ?_) ns_al i_al_30 s_al_30.1 s_al_30.2.1 s_al_30.2.2 (by first | exact fun _ _ _ h => h | exact fun c a w h => HQP.out c a _ _ w h) (.inr ⟨_, _, _, _, rfl, i_al_28, rfl, rfl⟩) ?_ (by assumption) ?_
  rotate_left
  · (intro w hSw; (try dsimp only at hSw); go_simp; first | done | with_reducible rfl)
  (try simp only [Act.put, List.setIfInBounds_toArray, List.set_cons_zero, List.set_cons_succ])
  refine big_take (v := ?_) ns_al i_al_31 s_al_31.1 s_al_31.2.1 s_al_31.2.2 (by first | exact fun _ _ _ h => h | exact fun c a w h => HQP.out c a _ _ w h) (.inl rfl) ?_ (by assumption) ?_
  rotate_left
  · (intro w hSw; (try dsimp only at hSw); go_simp; first | done | with_reducible rfl)
  (try simp only [Act.put, List.setIfInBounds_toArray, List.set_cons_zero, List.set_cons_succ])
  refine big_take (v := ?_) ns_al i_al_32 s_al_32.1 s_al_32.2.1 s_al_32.2.2 (by first | exact fun _ _ _ h => h | exact fun c a w h => HQP.out c a _ _ w h) (.inl rfl) ?_ (by assumption) ?_
  rotate_left
  · (intro w hSw; (try dsimp only at hSw); go_simp; first | done | with_reducible rfl)
  (try simp only [Act.put, List.setIfInBounds_toArray, List.set_cons_zero, List.set_cons_succ])
  refine big_take (v := ?_) ns_al i_al_33 s_al_33.1 s_al_33.2.1 s_al_33.2.2 (by first | exact fun _ _ _ h => h | exact fun c a w h => HQP.out c a _ _ w h) (.inr ⟨_, _, _, _, rfl, i_al_32, rfl, rfl⟩) ?_ (by assumption) ?_
  rotate_left
  · (intro w hSw; (try dsimp only at hSw); go_simp; first | done | with_reducible rfl)
  (try simp only [Act.put, List.setIfInBounds_toArray, List.set_cons_zero, List.set_cons_succ])
  refine big_take (v := ?_) ns_al i_al_34 s_al_34.1 s_al_34.2.1 s_al_34.2.2 (by first | exact fun _ _ _ h => h | exact fun c a w h => HQP.out c a _ _ w h) (.inl rfl) ?_ (by assumption) ?_
  rotate_left
  · (intro w hSw; (try dsimp only at hSw); go_simp; first | done | with_reducible rfl)
  (try simp only [Act.put, List.setIfInBounds_toArray, List.set_cons_zero, List.set_cons_succ])
  refine big_take (v := ?_) ns_al i_al_35 s_al_35.1 s_al_35.2.1 s_al_35.2.2 (by first | exact fun _ _ _ h => h | exact fun c a w h => HQP.out c a _ _ w h) (.inl rfl) ?_ (by assumption) ?_
  rotate_left
  · (intro w hSw; (try dsimp only at hSw); go_simp; first | done | with_reducible rfl)
  (try simp only [Act.put, List.setIfInBounds_toArray, List.set_cons_zero, List.set_cons_succ])
  refine big_take (v := ?_) ns_al i_al_36 s_al_36.1 s_al_36.2.1 s_al_36.2.2 (by first | exact fun _ _ _ h => h | exact fun c a w h => HQP.out c a _ _ w h) (.inr ⟨_, _, _, _, rfl, i_al_35, rfl, rfl⟩) ?_ (by assumption) ?_
  rotate_left
  · (intro w hSw; (try dsimp only at hSw); go_simp; first | done | with_reducible rfl)
  (try simp only [Act.put, List.setIfInBounds_toArray, List.set_cons_zero, List.set_cons_succ])
  refine big_take (v := ?_) ns_al i_al_37 s_al_37.1 s_al_37.2.1 s_al_37.2.2 (by first | exact fun _ _ _ h => h | exact fun c a w h => HQP.out c a _ _ w h) (.inr ⟨_, _, _, _, rfl, i_al_35, rfl, rfl⟩) ?_ (by assumption) ?_
  rotate_left
  · (intro w hSw; (try dsimp only at hSw); go_simp; first | done | with_reducible rfl)
  (try simp only [Act.put, List.setIfInBounds_toArray, List.set_cons_zero, List.set_cons_succ])
  refine big_take (v := ?_) ns_al i_al_38 s_al_38.1 s_al_38.2.1 s_al_38.2.2 (by first | exact fun _ _ _ h => h | exact fun c a w h => HQP.out c a _ _ w h) (.inr ⟨_, _, _, _, rfl, i_al_35, rfl, rfl⟩) ?_ (by assumption) ?_
  rotate_left
  · (intro w hSw; (try dsimp only at hSw); go_simp; first | done | with_reducible rfl)
  (try simp only [Act.put, List.setIfInBounds_toArray, List.set_cons_zero, List.set_cons_succ])
  refine big_take (v := ?_) ns_al i_al_39 s_al_39.1 s_al_39.2.1 s_al_39.2.2 (by first | exact fun _ _ _ h => h | exact fun c a w h => HQP.out c a _ _ w h) (.inl rfl) ?_ (by assumption) ?_
  rotate_left
  · (intro w hSw; (try dsimp only at hSw); go_simp; first | done | with_reducible rfl)
  (try simp only [Act.put, List.setIfInBounds_toArray, List.set_cons_zero, List.set_cons_succ])
  refine big_take (v := ?_) ns_al i_al_40 s_al_40.1 s_al_40.2.1 s_al_40.2.2 (by first | exact fun _ _ _ h => h | exact fun c a w h => HQP.out c a _ _ w h) (.inl rfl) ?_ (by assumption) ?_
  rotate_left
  · (intro w hSw; (try dsimp only at hSw); go_simp; first | done | with_reducible rfl)
  (try simp only [Act.put, List.setIfInBounds_toArray, List.set_cons_zero, List.set_cons_succ])
  refine big_take (v := ?_) ns_al i_al_41 s_al_41.1 s_al_41.2.1 s_al_41.2.2 (by first | exact fun _ _ _ h => h | exact fun c a w h => HQP.out c a _ _ w h) (.inr ⟨_, _, _, _, rfl, i_al_40, rfl, rfl⟩) ?_ (by assumption) ?_
  rotate_left
  · (intro w hSw; (try dsimp only at hSw); go_simp; first | done | with_reducible rfl)
  (try simp only [Act.put, List.setIfInBounds_toArray, List.set_cons_zero, List.set_cons_succ])
  refine big_take (v := ?_) ns_al i_al_42 s_al_42.1 s_al_42.2.1 s_al_42.2.2 (by first | exact fun _ _ _ h => h | exact fun c a w h => HQP.out c a _ _ w h) (.inr ⟨_, _, _, _, rfl, i_al_40, rfl, rfl⟩) ?_ (by assumption) ?_
  rotate_left
  · (intro w hSw; (try dsimp only at hSw); go_simp; first | done | with_reducible rfl)
  (try simp only [Act.put, List.setIfInBounds_toArray, List.set_cons_zero, List.set_cons_succ])
  refine big_take (v := ?_) ns_al i_al_43 s_al_43.1 s_al_43.2.1 s_al_43.2.2 (by first | exact fun _ _ _ h => h | exact fun c a w h => HQP.out c a _ _ w h) (.inl rfl) ?_ (by assumption) ?_
  rotate_left
  · (intro w hSw; (try dsimp only at hSw); go_simp; first | done | with_reducible rfl)
  (try simp only [Act.put, List.setIfInBounds_toArray, List.set_cons_zero, List.set_cons_succ])
  refine big_take (v := ?_) ns_al i_al_44 s_al_44.1 s_al_44.2.1 s_al_44.2.2 (by first | exact fun _ _ _ h => h | exact fun c a w h => HQP.out c a _ _ w h) (.inl rfl) ?_ (by assumption) ?_
  rotate_left
  · (intro w hSw; (try dsimp only at hSw); go_simp; first | done | with_reducible rfl)
  (try simp only [Act.put, List.setIfInBounds_toArray, List.set_cons_zero, List.set_cons_succ])
  refine big_take (v := ?_) ns_al i_al_45 s_al_45.1 s_al_45.2.1 s_al_45.2.2 (by first | exact fun _ _ _ h => h | exact fun c a w h => HQP.out c a _ _ w h) (.inr ⟨_, _, _, _, rfl, i_al_44, rfl, rfl⟩) ?_ (by assumption) ?_
  rotate_left
  · (intro w hSw; (try dsimp only at hSw); go_simp; first | done | with_reducible rfl)
  (try simp only [Act.put, List.setIfInBounds_toArray, List.set_cons_zero, List.set_cons_succ])
  refine big_take (v := ?_) ns_al i_al_46 s_al_46.1 s_al_46.2.1 s_al_46.2.2 (by first | exact fun _ _ _ h => h | exact fun c a w h => HQP.out c a _ _ w h) (.inl rfl) ?_ (by assumption) ?_
  rotate_left
  · (intro w hSw; (try dsimp only at hSw); go_simp; first | done | with_reducible rfl)
  (try simp only [Act.put, List.setIfInBounds_toArray, List.set_cons_zero, List.set_cons_succ])
  refine big_take (v := ?_) ns_al i_al_47 s_al_47.1 s_al_47.2.1 s_al_47.2.2 (by first | exact fun _ _ _ h => h | exact fun c a w h => HQP.out c a _ _ w h) (.inl rfl) ?_ (by assumption) ?_
  rotate_left
  · (intro w hSw; (try dsimp only at hSw); go_simp; first | done | with_reducible rfl)
  (try simp only [Act.put, List.setIfInBounds_toArray, List.set_cons_zero, List.set_cons_succ])
  refine big_take (v := ?_) ns_al i_al_48 s_al_48.1 s_al_48.2.1 s_al_48.2.2 (by first | exact fun _ _ _ h => h | exact fun c a w h => HQP.out c a _ _ w h) (.inr ⟨_, _, _, _, rfl, i_al_47, rfl, rfl⟩) ?_ (by assumption) ?_
  rotate_left
  · (intro w hSw; (try dsimp only at hSw); go_simp; first | done | with_reducible rfl)
  (try simp only [Act.put, List.setIfInBounds_toArray, List.set_cons_zero, List.set_cons_succ])
  refine big_take (v := ?_) ns_al i_al_49 s_al_49.1 s_al_49.2.1 s_al_49.2.2 (by first | exact fun _ _ _ h => h | exact fun c a w h => HQP.out c a _ _ w h) (.inr ⟨_, _, _, _, rfl, i_al_47, rfl, rfl⟩) ?_ (by assumption) ?_
  rotate_left
  · (intro w hSw; (try dsimp only at hSw); go_simp; first | done | with_reducible rfl)
  (try simp only [Act.put, List.setIfInBounds_toArray, List.set_cons_zero, List.set_cons_succ])
  refine big_take (v := ?_) ns_al i_al_50 s_al_50.1 s_al_50.2.1 s_al_50.2.2 (by first | exact fun _ _ _ h => h | exact fun c a w h => HQP.out c a _ _ w h) (.inr ⟨_, _, _, _, rfl, i_al_47, rfl, rfl⟩) ?_ (by assumption) ?_
  rotate_left
  · (intro w hSw; (try dsimp only at hSw); go_simp; first | done | with_reducible rfl)
  (try simp only [Act.put, List.setIfInBounds_toArray, List.set_cons_zero, List.set_cons_succ])
  refine big_take (v := ?_) ns_al i_al_51 s_al_51.1 s_al_51.2.1 s_al_51.2.2 (by first | exact fun _ _ _ h => h | exact fun c a w h => HQP.out c a _ _ w h) (.inl rfl) ?_ (by assumption) ?_
  rotate_left
  · (intro w hSw; (try dsimp only at hSw); go_simp; first | done | with_reducible rfl)
  (try simp only [Act.put, List.setIfInBounds_toArray, List.set_cons_zero, List.set_cons_succ])
  refine big_take (v := ?_) ns_al i_al_52 s_al_52.1 s_al_52.2.1 s_al_52.2.2 (by first | exact fun _ _ _ h => h | exact fun c a w h => HQP.out c a _ _ w h) (.inl rfl) ?_ (by assumption) ?_
  rotate_left
  · (intro w hSw; (try dsimp only at hSw); go_simp; first | done | with_reducible rfl)
  (try simp only [Act.put, List.setIfInBounds_toArray, List.set_cons_zero, List.set_cons_succ])
  refine big_take (v := ?_) ns_al i_al_53 s_al_53.1 s_al_53.2.1 s_al_53.2.2 (by first | exact fun _ _ _ h => h | exact fun c a w h => HQP.out c a _ _ w h) (.inr ⟨_, _, _, _, rfl, i_al_52, rfl, rfl⟩) ?_ (by assumption) ?_
  rotate_left
  · (intro w hSw; (try dsimp only at hSw); go_simp; first | done | with_reducible rfl)
  (try simp only [Act.put, List.setIfInBounds_toArray, List.set_cons_zero, List.set_cons_succ])
  refine big_take (v := ?_) ns_al i_al_54 s_al_54.1 s_al_54.2.1 s_al_54.2.2 (by first | exact fun _ _ _ h => h | exact fun c a w h => HQP.out c a _ _ w h) (.inr ⟨_, _, _, _, rfl, i_al_52, rfl, rfl⟩) ?_ (by assumption) ?_
  rotate_left
  · (intro w hSw; (try dsimp only at hSw); go_simp; first | done | with_reducible rfl)
  (try simp only [Act.put, List.setIfInBounds_toArray, List.set_cons_zero, List.set_cons_succ])
  refine big_take (v := ?_) ns_al i_al_55 s_al_55.1 s_al_55.2.1 s_al_55.2.2 (by first | exact fun _ _ _ h => h | exact fun c a w h => HQP.out c a _ _ w h) (.inl rfl) ?_ (by assumption) ?_
  rotate_left
  · (intro w hSw; (try dsimp only at hSw); go_simp; first | done | with_reducible rfl)
  (try simp only [Act.put, List.setIfInBounds_toArray, List.set_cons_zero, List.set_cons_succ])
  refine big_take (v := ?_) ns_al i_al_56 s_al_56.1 s_al_56.2.1 s_al_56.2.2 (by first | exact fun _ _ _ h => h | exact fun c a w h => HQP.out c a _ _ w h) (.inl rfl) ?_ (by assumption) ?_
  rotate_left
  · (intro w hSw; (try dsimp only at hSw); go_simp; first | done | with_reducible rfl)
  (try simp only [Act.put, List.setIfInBounds_toArray, List.set_cons_zero, List.set_cons_succ])
  refine big_take (v := ?_) ns_al i_al_57 s_al_57.1 s_al_57.2.1 s_al_57.2.2 (by first | exact fun _ _ _ h => h | exact fun c a w h => HQP.out c a _ _ w h) (.inr ⟨_, _, _, _, rfl, i_al_56, rfl, rfl⟩) ?_ (by assumption) ?_
  rotate_left
  · (intro w hSw; (try dsimp only at hSw); go_simp; first | done | with_reducible rfl)
  (try simp only [Act.put, List.setIfInBounds_toArray, List.set_cons_zero, List.set_cons_succ])
  refine big_take (v := ?_) ns_al i_al_58 s_al_58.1 s_al_58.2.1 s_al_58.2.2 (by first | exact fun _ _ _ h => h | exact fun c a w h => HQP.out c a _ _ w h) (.inr ⟨_, _, _, _, rfl, i_al_56, rfl, rfl⟩) ?_ (by assumption) ?_
  rotate_left
  · (intro w hSw; (try dsimp only at hSw); go_simp; first | done | with_reducible rfl)
  (try simp only [Act.put, List.setIfInBounds_toArray, List.set_cons_zero, List.set_cons_succ])
  refine big_take (v := ?_) ns_al i_al_59 s_al_59.1 s_al_59.2.1 s_al_59.2.2 (by first | exact fun _ _ _ h => h | exact fun c a w h => HQP.out c a _ _ w h) (.inl rfl) ?_ (by assumption) ?_
  rotate_left
  · (intro w hSw; (try dsimp only at hSw); go_simp; first | done | with_reducible rfl)
  (try simp only [Act.put, List.setIfInBounds_toArray, List.set_cons_zero, List.set_cons_succ])
  refine big_take (v := ?_) ns_al i_al_60 s_al_60.1 s_al_60.2.1 s_al_60.2.2 (by first | exact fun _ _ _ h => h | exact fun c a w h => HQP.out c a _ _ w h) (.inl rfl) ?_ (by assumption) ?_
  rotate_left
  · (intro w hSw; (try dsimp only at hSw); go_simp; first | done | with_reducible rfl)
  (try simp only [Act.put, List.setIfInBounds_toArray, List.set_cons_zero, List.set_cons_succ])
  refine big_take (v := ?_) ns_al i_al_61 s_al_61.1 s_al_61.2.1 s_al_61.2.2 (by first | exact fun _ _ _ h => h | exact fun c a w h => HQP.out c a _ _ w h) (.inr ⟨_, _, _, _, rfl, i_al_60, rfl, rfl⟩) ?_ (by assumption) ?_
  rotate_left
  · (intro w hSw; (try dsimp only at hSw); go_simp; first | done | with_reducible rfl)
  (try simp only [Act.put, List.setIfInBounds_toArray, List.set_cons_zero, List.set_cons_succ])
  refine big_take (v := ?_) ns_al i_al_62 s_al_62.1 s_al_62.2.1 s_al_62.2.2 (by first | exact fun _ _ _ h => h | exact fun c a w h => HQP.out c a _ _ w h) (.inr ⟨_, _, _, _, rfl, i_al_60, rfl, rfl⟩) ?_ (by assumption) ?_
  rotate_left
  · (intro w hSw; (try dsimp only at hSw); go_simp; first | done | with_reducible rfl)
  (try simp only [Act.put, List.setIfInBounds_toArray, List.set_cons_zero, List.set_cons_succ])
  refine big_take (v := ?_) ns_al i_al_63 s_al_63.1 s_al_63.2.1 s_al_63.2.2 (by first | exact fun _ _ _ h => h | exact fun c a w h => HQP.out c a _ _ w h) (.inl rfl) ?_ (by assumption) ?_
  rotate_left
  · (intro w hSw; (try dsimp only at hSw); go_simp; first | done | with_reducible rfl)
  (try simp only [Act.put, List.setIfInBounds_toArray, List.set_cons_zero, List.set_cons_succ])
  refine big_take (v := ?_) ns_al i_al_64 s_al_64.1 s_al_64.2.1 s_al_64.2.2 (by first | exact fun _ _ _ h => h | exact fun c a w h => HQP.out c a _ _ w h) (.inl rfl) ?_ (by assumption) ?_
  rotate_left
  · (intro w hSw; (try dsimp only at hSw); go_simp; first | done | with_reducible rfl)
  (try simp only [Act.put, List.setIfInBounds_toArray, List.set_cons_zero, List.set_cons_succ])
  refine big_take (v := ?_) ns_al i_al_65 s_al_65.1 s_al_65.2.1 s_al_65.2.2 (by first | exact fun _ _ _ h => h | exact fun c a w h => HQP.out c a _ _ w h) (.inr ⟨_, _, _, _, rfl, i_al_64, rfl, rfl⟩) ?_ (by assumption) ?_
  rotate_left
  · (intro w hSw; (try dsimp only at hSw); go_simp; first | done | with_reducible rfl)
  (try simp only [Act.put, List.setIfInBounds_toArray, List.set_cons_zero, List.set_cons_succ])
  refine big_take (v := ?_) ns_al i_al_66 s_al_66.1 s_al_66.2.1 s_al_66.2.2 (by first | exact fun _ _ _ h => h | exact fun c a w h => HQP.out c a _ _ w h) (.inl rfl) ?_ (by assumption) ?_
  rotate_left
  · (intro w hSw; (try dsimp only at hSw); go_simp; first | done | with_reducible rfl)
  (try simp only [Act.put, List.setIfInBounds_toArray, List.set_cons_zero, List.set_cons_succ])
  refine big_take (v := ?_) ns_al i_al_67 s_al_67.1 s_al_67.2.1 s_al_67.2.2 (by first | exact fun _ _ _ h => h | exact fun c a w h => HQP.out c a _ _ w h) (.inl rfl) ?_ (by assumption) ?_
  rotate_left
  · (intro w hSw; (try dsimp only at hSw); go_simp; first | done | with_reducible rfl)
  (try simp only [Act.put, List.setIfInBounds_toArray, List.set_cons_zero, List.set_cons_succ])
  refine big_take (v := ?_) ns_al i_al_68 s_al_68.1 s_al_68.2.1 s_al_68.2.2 (by first | exact fun _ _ _ h => h | exact fun c a w h => HQP.out c a _ _ w h) (.inr ⟨_, _, _, _, rfl, i_al_67, rfl, rfl⟩) ?_ (by assumption) ?_
  rotate_left
  · (intro w hSw; (try dsimp only at hSw); go_simp; first | done | with_reducible rfl)
  (try simp only [Act.put, List.setIfInBounds_toArray, List.set_cons_zero, List.set_cons_succ])
  refine big_take (v := ?_) ns_al i_al_69 s_al_69.1 s_al_69.2.1 s_al_69.2.2 (by first | exact fun _ _ _ h => h | exact fun c a w h => HQP.out c a _ _ w h) (.inl rfl) ?_ (by assumption) ?_
  rotate_left
  · (intro w hSw; (try dsimp only at hSw); go_simp; first | done | with_reducible rfl)
  (try simp only [Act.put, List.setIfInBounds_toArray, List.set_cons_zero, List.set_cons_succ])
  refine big_take (v := ?_) ns_al i_al_70 s_al_70.1 s_al_70.2.1 s_al_70.2.2 (by first | exact fun _ _ _ h => h | exact fun c a w h => HQP.out c a _ _ w h) (.inl rfl) ?_ (by assumption) ?_
  rotate_left
  · (intro w hSw; (try dsimp only at hSw); go_simp; first | done | with_reducible rfl)
  (try simp only [Act.put, List.setIfInBounds_toArray, List.set_cons_zero, List.set_cons_succ])
  refine big_take (v := ?_) ns_al i_al_71 s_al_71.1 s_al_71.2.1 s_al_71.2.2 (by first | exact fun _ _ _ h => h | exact fun c a w h => HQP.out c a _ _ w h) (.inr ⟨_, _, _, _, rfl, i_al_70, rfl, rfl⟩) ?_ (by assumption) ?_
  rotate_left
  · (intro w hSw; (try dsimp only at hSw); go_simp; first | done | with_reducible rfl)
  (try simp only [Act.put, List.setIfInBounds_toArray, List.set_cons_zero, List.set_cons_succ])
  refine big_call i_al_72 s_al_72.1 s_al_72.2 (.inr ⟨_, _, _, _, rfl, i_al_70, rfl, rfl⟩) (fun K hK => ?_)
  go_simp
  (go_at_call 21; refine (runlock_any 5 1 _).mono ?_; rintro e x1 ⟨v1, rfl, hO1, hB1⟩; dsimp only [fmV, Fm.unlock]; obtain ⟨z1, n1, k1, rfl⟩ := own_slice hO1; have hB := undrew hB1; obtain ⟨-, _, _, eq1, -, -, hZ1⟩ := BAt.of_row (l := [0]) hO1; simp only [Value.slice.injEq] at eq1; obtain ⟨rfl, rfl, rfl⟩ := eq1; have E1 := E0.out.below hB; obtain ⟨s1, s2, s3, s4, s5, s6, s7, s8, s9, s10, s11, s12, s13, s14, s15, s16, s17, s18⟩ := endS E1; have E1 := Lib.hid E1; have HZ1 := Lib.hid hZ1; have HF1 := Lib.hid (HF.out.below hB (Nat.le_refl _)); have HB1 := Lib.hid (HB.out.trans (hB.mono (Nat.le_of_lt HF.out.blk.lt))); clear hO1 hB1 hB hZ1)
  refine hK.out _ _ (by (try dsimp only); first | with_reducible exact ⟨by with_reducible assumption, by with_reducible assumption, by with_reducible assumption, by with_reducible assumption, by with_reducible assumption, by with_reducible assumption, by with_reducible assumption, by with_reducible assumption, by with_reducible assumption, by with_reducible assumption, by with_reducible assumption, by with_reducible assumption, by with_reducible assumption, by with_reducible assumption, by with_reducible assumption, by with_reducible assumption, by with_reducible assumption, by with_reducible assumption⟩ | (go_keep <;> with_reducible assumption)) (fun hHeld => ?_)
  clear hK K
  (try simp only [Act.put, List.setIfInBounds_toArray, List.set_cons_zero, List.set_cons_succ])
  refine big_call i_al_73 s_al_73.1 s_al_73.2 (.inr ⟨_, _, _, _, rfl, i_al_70, rfl, rfl⟩) (fun K hK => ?_)
  go_simp
  (go_at_call 20; refine (same_eq (Fm.unlock 5 1) a15 _ c15 _ 1 1 _ rfl rfl E1.out.2.2.2.2.2.2.2.1 HZ1.out).mono ?_; rintro e x2 ⟨rfl, hB⟩; have E2 := E1.out.below hB; obtain ⟨s1, s2, s3, s4, s5, s6, s7, s8, s9, s10, s11, s12, s13, s14, s15, s16, s17, s18⟩ := endS E2; have E2 := Lib.hid E2; have HF2 := Lib.hid (HF1.out.below hB (Nat.le_refl _)); have HB2 := Lib.hid (HB1.out.trans (hB.mono (Nat.le_of_lt HF1.out.blk.lt))); clear hB)
  refine hK.out _ _ (by (try dsimp only); first | with_reducible exact ⟨by with_reducible assumption, by with_reducible assumption, by with_reducible assumption, by with_reducible assumption, by with_reducible assumption, by with_reducible assumption, by with_reducible assumption, by with_reducible assumption, by with_reducible assumption, by with_reducible assumption, by with_reducible assumption, by with_reducible assumption, by with_reducible assumption, by with_reducible assumption, by with_reducible assumption, by with_reducible assumption, by with_reducible assumption, by with_reducible assumption⟩ | (go_keep <;> with_reducible assumption)) (fun hHeld => ?_)
  clear hK K
  (try simp only [Act.put, List.setIfInBounds_toArray, List.set_cons_zero, List.set_cons_succ])
  refine big_take (v := ?_) ns_al i_al_74 s_al_74.1 s_al_74.2.1 s_al_74.2.2 (by first | exact fun _ _ _ h => h | exact fun c a w h => HQP.out c a _ _ w h) (.inl rfl) ?_ (by assumption) ?_
  rotate_left
  · (intro w hSw; (try dsimp only at hSw); go_simp; first | done | with_reducible rfl)
  (try simp only [Act.put, List.setIfInBounds_toArray, List.set_cons_zero, List.set_cons_succ])
  refine big_take (v := ?_) ns_al i_al_75 s_al_75.1 s_al_75.2.1 s_al_75.2.2 (by first | exact fun _ _ _ h => h | exact fun c a w h => HQP.out c a _ _ w h) (.inl rfl) ?_ (by assumption) ?_
  rotate_left
  · (intro w hSw; (try dsimp only at hSw); go_simp; first | done | with_reducible rfl)
  (try simp only [Act.put, List.setIfInBounds_toArray, List.set_cons_zero, List.set_cons_succ])
  refine big_take (v := ?_) ns_al i_al_76 s_al_76.1 s_al_76.2.1 s_al_76.2.2 (by first | exact fun _ _ _ h => h | exact fun c a w h => HQP.out c a _ _ w h) (.inr ⟨_, _, _, _, rfl, i_al_75, rfl, rfl⟩) ?_ (by assumption) ?_
  rotate_left
  · (intro w hSw; (try dsimp only at hSw); go_simp; first | done | with_reducible rfl)
  (try simp only [Act.put, List.setIfInBounds_toArray, List.set_cons_zero, List.set_cons_succ])
  refine big_call i_al_77 s_al_77.1 s_al_77.2 (.inr ⟨_, _, _, _, rfl, i_al_75, rfl, rfl⟩) (fun K hK => ?_)
  go_simp
  (go_at_call 22; refine (rsetnext_any 5 1 1 (by decide) _).mono ?_; rintro e x3 ⟨v1, rfl, hO1, hB⟩; dsimp only [fmV, Fm.setNext]; obtain ⟨z1, n1, k1, rfl⟩ := own_slice hO1; obtain ⟨-, _, _, eq1, -, -, hZ1⟩ := BAt.of_row (l := [130, 0, 1]) hO1; simp only [Value.slice.injEq] at eq1; obtain ⟨rfl, rfl, rfl⟩ := eq1; have E3 := E2.out.below hB; obtain ⟨s1, s2, s3, s4, s5, s6, s7, s8, s9, s10, s11, s12, s13, s14, s15, s16, s17, s18⟩ := endS E3; have E3 := Lib.hid E3; have HZ3 := Lib.hid hZ1; have HF3 := Lib.hid (HF2.out.below hB (Nat.le_refl _)); have HB3 := Lib.hid (HB2.out.trans (hB.mono (Nat.le_of_lt HF2.out.blk.lt))); clear hO1 hB hZ1)
  refine hK.out _ _ (by (try dsimp only); first | with_reducible exact ⟨by with_reducible assumption, by with_reducible assumption, by with_reducible assumption, by with_reducible assumption, by with_reducible assumption, by with_reducible assumption, by with_reducible assumption, by with_reducible assumption, by with_reducible assumption, by with_reducible assumption, by with_reducible assumption, by with_reducible assumption, by with_reducible assumption, by with_reducible assumption, by with_reducible assumption, by with_reducible assumption, by with_reducible assumption, by with_reducible assumption⟩ | (go_keep <;> with_reducible assumption)) (fun hHeld => ?_)
  clear hK K
  (try simp only [Act.put, List.setIfInBounds_toArray, List.set_cons_zero, List.set_cons_succ])
  refine big_call i_al_78 s_al_78.1 s_al_78.2 (.inr ⟨_, _, _, _, rfl, i_al_75, rfl, rfl⟩) (fun K hK => ?_)
  go_simp
  (go_at_call 20; refine (same_eq (Fm.setNext 5 1 1) a16 _ c16 _ 3 3 _ rfl rfl E3.out.2.2.2.2.2.2.2.2 HZ3.out).mono ?_; rintro e x4 ⟨rfl, hB⟩; have E4 := E3.out.below hB; obtain ⟨s1, s2, s3, s4, s5, s6, s7, s8, s9, s10, s11, s12, s13, s14, s15, s16, s17, s18⟩ := endS E4; have E4 := Lib.hid E4; have HF4 := Lib.hid (HF3.out.below hB (Nat.le_refl _)); have HB4 := Lib.hid (HB3.out.trans (hB.mono (Nat.le_of_lt HF3.out.blk.lt))); clear hB)
  refine hK.out _ _ (by (try dsimp only); first | with_reducible exact ⟨by with_reducible assumption, by with_reducible assumption, by with_reducible assumption, by with_reducible assumption, by with_reducible assumption, by with_reducible assumption, by with_reducible assumption, by with_reducible assumption, by with_reducible assumption, by with_reducible assumption, by with_reducible assumption, by with_reducible assumption, by with_reducible assumption, by with_reducible assumption, by with_reducible assumption, by with_reducible assumption, by with_reducible assumption, by with_reducible assumption⟩ | (go_keep <;> with_reducible assumption)) (fun hHeld => ?_)
  clear hK K
  (try simp only [Act.put, List.setIfInBounds_toArray, List.set_cons_zero, List.set_cons_succ])
  refine big_take (v := ?_) ns_al i_al_79 s_al_79.1 s_al_79.2.1 s_al_79.2.2 (by first | exact fun _ _ _ h => h | exact fun c a w h => HQP.out c a _ _ w h) (.inl rfl) ?_ (by assumption) ?_
  rotate_left
  · (intro w hSw; (try dsimp only at hSw); go_simp; first | done | with_reducible rfl)
  (try simp only [Act.put, List.setIfInBounds_toArray, List.set_cons_zero, List.set_cons_succ])
  refine big_take (v := ?_) ns_al i_al_80 s_al_80.1 s_al_80.2.1 s_al_80.2.2 (by first | exact fun _ _ _ h => h | exact fun c a w h => HQP.out c a _ _ w h) (.inl rfl) ?_ (by assumption) ?_
  rotate_left
  · (intro w hSw; (try dsimp only at hSw); go_simp; first | done | with_reducible rfl)
  (try simp only [Act.put, List.setIfInBounds_toArray, List.set_cons_zero, List.set_cons_succ])
  refine big_take (v := ?_) ns_al i_al_81 s_al_81.1 s_al_81.2.1 s_al_81.2.2 (by first | exact fun _ _ _ h => h | exact fun c a w h => HQP.out c a _ _ w h) (.inr ⟨_, _, _, _, rfl, i_al_80, rfl, rfl⟩) ?_ (by assumption) ?_
  rotate_left
  · (intro w hSw; (try dsimp only at hSw); go_simp; first | done | with_reducible rfl)
  (try simp only [Act.put, List.setIfInBounds_toArray, List.set_cons_zero, List.set_cons_succ])
  refine big_call i_al_82 s_al_82.1 s_al_82.2 (.inr ⟨_, _, _, _, rfl, i_al_80, rfl, rfl⟩) (fun K hK => ?_)
  go_simp
  (go_at_call 17; refine (state_any _ HF4.out).mono ?_; rintro e x5 ⟨rfl, hw⟩; obtain rfl := hw; rw [show ((y14.state : Nat) : Int) = 1 from rfl])
  refine hK.out _ _ (by (try dsimp only); first | with_reducible exact ⟨by with_reducible assumption, by with_reducible assumption, by with_reducible assumption, by with_reducible assumption, by with_reducible assumption, by with_reducible assumption, by with_reducible assumption, by with_reducible assumption, by with_reducible assumption, by with_reducible assumption, by with_reducible assumption, by with_reducible assumption, by with_reducible assumption, by with_reducible assumption, by with_reducible assumption, by with_reducible assumption, by with_reducible assumption, by with_reducible assumption⟩ | (go_keep <;> with_reducible assumption)) (fun hHeld => ?_)
  clear hK K
  (try simp only [Act.put, List.setIfInBounds_toArray, List.set_cons_zero, List.set_cons_succ])
  refine big_take (v := ?_) ns_al i_al_83 s_al_83.1 s_al_83.2.1 s_al_83.2.2 (by first | exact fun _ _ _ h => h | exact fun c a w h => HQP.out c a _ _ w h) (.inr ⟨_, _, _, _, rfl, i_al_80, rfl, rfl⟩) ?_ (by assumption) ?_
  rotate_left
  · (intro w hSw; (try dsimp only at hSw); go_simp; first | done | with_reducible rfl)
  (try simp only [Act.put, List.setIfInBounds_toArray, List.set_cons_zero, List.set_cons_succ])
  refine big_take (v := ?_) ns_al i_al_84 s_al_84.1 s_al_84.2.1 s_al_84.2.2 (by first | exact fun _ _ _ h => h | exact fun c a w h => HQP.out c a _ _ w h) (.inl rfl) ?_ (by assumption) ?_
  rotate_left
  · (intro w hSw; (try dsimp only at hSw); go_simp; first | done | with_reducible rfl)
  (try simp only [Act.put, List.setIfInBounds_toArray, List.set_cons_zero, List.set_cons_succ])
  refine big_take (v := ?_) ns_al i_al_85 s_al_85.1 s_al_85.2.1 s_al_85.2.2 (by first | exact fun _ _ _ h => h | exact fun c a w h => HQP.out c a _ _ w h) (.inl rfl) ?_ (by assumption) ?_
  rotate_left
  · (intro w hSw; (try dsimp only at hSw); go_simp; first | done | with_reducible rfl)
  (try simp only [Act.put, List.setIfInBounds_toArray, List.set_cons_zero, List.set_cons_succ])
  refine big_take (v := ?_) ns_al i_al_86 s_al_86.1 s_al_86.2.1 s_al_86.2.2 (by first | exact fun _ _ _ h => h | exact fun c a w h => HQP.out c a _ _ w h) (.inr ⟨_, _, _, _, rfl, i_al_85, rfl, rfl⟩) ?_ (by assumption) ?_
  rotate_left
  · (intro w hSw; (try dsimp only at hSw); go_simp; first | done | with_reducible rfl)
  (try simp only [Act.put, List.setIfInBounds_toArray, List.set_cons_zero, List.set_cons_succ])
  refine big_call i_al_87 s_al_87.1 s_al_87.2 (.inr ⟨_, _, _, _, rfl, i_al_85, rfl, rfl⟩) (fun K hK => ?_)
  go_simp
  (go_at_call 11; refine (queued_any _ HF4.out).mono ?_; rintro e x5 ⟨rfl, hw⟩; obtain rfl := hw; rw [show ((y14.units.length : Nat) : Int) = 2 from rfl])
  refine hK.out _ _ (by (try dsimp only); first | with_reducible exact ⟨by with_reducible assumption, by with_reducible assumption, by with_reducible assumption, by with_reducible assumption, by with_reducible assumption, by with_reducible assumption, by with_reducible assumption, by with_reducible assumption, by with_reducible assumption, by with_reducible assumption, by with_reducible assumption, by with_reducible assumption, by with_reducible assumption, by with_reducible assumption, by with_reducible assumption, by with_reducible assumption, by with_reducible assumption, by with_reducible assumption⟩ | (go_keep <;> with_reducible assumption)) (fun hHeld => ?_)
  clear hK K
  (try simp only [Act.put, List.setIfInBounds_toArray, List.set_cons_zero, List.set_cons_succ])
  refine big_take (v := ?_) ns_al i_al_88 s_al_88.1 s_al_88.2.1 s_al_88.2.2 (by first | exact fun _ _ _ h => h | exact fun c a w h => HQP.out c a _ _ w h) (.inr ⟨_, _, _, _, rfl, i_al_85, rfl, rfl⟩) ?_ (by assumption) ?_
  rotate_left
  · (intro w hSw; (try dsimp only at hSw); go_simp; first | done | with_reducible rfl)
  (try simp only [Act.put, List.setIfInBounds_toArray, List.set_cons_zero, List.set_cons_succ])
  refine big_take (v := ?_) ns_al i_al_89 s_al_89.1 s_al_89.2.1 s_al_89.2.2 (by first | exact fun _ _ _ h => h | exact fun c a w h => HQP.out c a _ _ w h) (.inl rfl) ?_ (by assumption) ?_
  rotate_left
  · (intro w hSw; (try dsimp only at hSw); go_simp; first | done | with_reducible rfl)
  (try simp only [Act.put, List.setIfInBounds_toArray, List.set_cons_zero, List.set_cons_succ])
  refine big_take (v := ?_) ns_al i_al_90 s_al_90.1 s_al_90.2.1 s_al_90.2.2 (by first | exact fun _ _ _ h => h | exact fun c a w h => HQP.out c a _ _ w h) (.inl rfl) ?_ (by assumption) ?_
  rotate_left
  · (intro w hSw; (try dsimp only at hSw); go_simp; first | done | with_reducible rfl)
  (try simp only [Act.put, List.setIfInBounds_toArray, List.set_cons_zero, List.set_cons_succ])
  refine big_take (v := ?_) ns_al i_al_91 s_al_91.1 s_al_91.2.1 s_al_91.2.2 (by first | exact fun _ _ _ h => h | exact fun c a w h => HQP.out c a _ _ w h) (.inr ⟨_, _, _, _, rfl, i_al_90, rfl, rfl⟩) ?_ (by assumption) ?_
  rotate_left
  · (intro w hSw; (try dsimp only at hSw); go_simp; first | done | with_reducible rfl)
  (try simp only [Act.put, List.setIfInBounds_toArray, List.set_cons_zero, List.set_cons_succ])
  refine big_call i_al_92 s_al_92.1 s_al_92.2 (.inr ⟨_, _, _, _, rfl, i_al_90, rfl, rfl⟩) (fun K hK => ?_)
  go_simp
  (go_at_call 16; refine (acked_any _ HF4.out).mono ?_; rintro e x5 ⟨rfl, hw⟩; obtain rfl := hw; rw [show ((y14.acked : Nat) : Int) = 1 from rfl])
  refine hK.out _ _ (by (try dsimp only); first | with_reducible exact ⟨by with_reducible assumption, by with_reducible assumption, by with_reducible assumption, by with_reducible assumption, by with_reducible assumption, by with_reducible assumption, by with_reducible assumption, by with_reducible assumption, by with_reducible assumption, by with_reducible assumption, by with_reducible assumption, by with_reducible assumption, by with_reducible assumption, by with_reducible assumption, by with_reducible assumption, by with_reducible assumption, by with_reducible assumption, by with_reducible assumption⟩ | (go_keep <;> with_reducible assumption)) (fun hHeld => ?_)
  clear hK K
  (try simp only [Act.put, List.setIfInBounds_toArray, List.set_cons_zero, List.set_cons_succ])
  refine big_take (v := ?_) ns_al i_al_93 s_al_93.1 s_al_93.2.1 s_al_93.2.2 (by first | exact fun _ _ _ h => h | exact fun c a w h => HQP.out c a _ _ w h) (.inr ⟨_, _, _, _, rfl, i_al_90, rfl, rfl⟩) ?_ (by assumption) ?_
  rotate_left
  · (intro w hSw; (try dsimp only at hSw); go_simp; first | done | with_reducible rfl)
  (try simp only [Act.put, List.setIfInBounds_toArray, List.set_cons_zero, List.set_cons_succ])
  refine big_take (v := ?_) ns_al i_al_94 s_al_94.1 s_al_94.2.1 s_al_94.2.2 (by first | exact fun _ _ _ h => h | exact fun c a w h => HQP.out c a _ _ w h) (.inl rfl) ?_ (by assumption) ?_
  rotate_left
  · (intro w hSw; (try dsimp only at hSw); go_simp; first | done | with_reducible rfl)
  (try simp only [Act.put, List.setIfInBounds_toArray, List.set_cons_zero, List.set_cons_succ])
  refine big_take (v := ?_) ns_al i_al_95 s_al_95.1 s_al_95.2.1 s_al_95.2.2 (by first | exact fun _ _ _ h => h | exact fun c a w h => HQP.out c a _ _ w h) (.inl rfl) ?_ (by assumption) ?_
  rotate_left
  · (intro w hSw; (try dsimp only at hSw); go_simp; first | done | with_reducible rfl)
  (try simp only [Act.put, List.setIfInBounds_toArray, List.set_cons_zero])
  refine wpAnyH_done e_al ?_ _
  exact HKK.out _ _ _ _ _ _ _ _ _ _ _ _ _ _ _ _ _ _ _ _ _ _ _ _ _ _ _ _ _ _ _ _ _ _ _ _ _ _ _ _ _ _ _ _ _ _ _ _ _ _ _ _ _ _ _ _ _ _ _ _ _ _ _ _ _ _ _ _ _ _ _ _ _ _ _ _ _ _ _ _ _ _ _ _ _ _ _ _ _ _ _ _ _ _ _ _ HB4.out
set_option maxRecDepth 20000 in
set_option maxHeartbeats 4000000 in
theorem alive_any (w : World) : Calls Try.prog 8 #[] w fun e w' => e = .returned (.bool true) ∧ Below w.heap.size w w' := by
  obtain ⟨b, hb⟩ : ∃ b, b = w.heap.size := ⟨_, rfl⟩
  have kc := fun (w : World) (C : Array Value) (n c : Nat) => Lib.run_convert_bytes_const (P := Try.prog) w 23 5 C n c Try.underlying23 Try.underlying5
  go_enter Try.func8, Try.ntmps8
  go_wp2_with fail
  refine (new_any 5 1 2 10 3 w).mono ?_
  rintro e w1 ⟨rfl, hF, hB⟩
  rw [← hb] at hF ⊢
  have HF1 : Hid (FAt w1 (fun k => k < b) b y0 (.slice none 0 0) (.slice none 0 0)) := Lib.hid hF
  have HB1 : Hid (Below b w w1) := Lib.hid (by rw [hb]; exact hB)
  have HBB := Lib.hid hb
  clear hF hB hb
  go_wp2_with fail
  refine (send_ex (n := 1) ex1 (HF1.out.below (al (Below.refl _ _) _) (Nat.le_refl _)) ok0 (lit1 w1 65 _) rfl (by omega)).mono ?_
  rintro e w2 ⟨rfl, vU2, hF, hB⟩
  have HF2 := Lib.hid hF
  have HB2 : Hid (Below b w w2) := Lib.hid ((HB1.out.alloc (Nat.le_of_lt HF1.out.blk.lt) _).trans hB)
  clear hF hB
  go_wp2_with fail
  refine (send_ex (n := 1) ex2 (HF2.out.below (al (Below.refl _ _) _) (Nat.le_refl _)) ok1 (lit1 w2 66 _) rfl (by omega)).mono ?_
  rintro e w3 ⟨rfl, vU3, hF, hB⟩
  have HF3 := Lib.hid hF
  have HB3 : Hid (Below b w w3) := Lib.hid ((HB2.out.alloc (Nat.le_of_lt HF2.out.blk.lt) _).trans hB)
  clear hF hB
  go_wp2_with fail
  refine (send_ex (n := 1) ex3 (HF3.out.below (al (Below.refl _ _) _) (Nat.le_refl _)) ok2 (lit1 w3 67 _) rfl (by omega)).mono ?_
  rintro e w4 ⟨rfl, vU4, hF, hB⟩
  have HF4 := Lib.hid hF
  have HB4 : Hid (Below b w w4) := Lib.hid ((HB3.out.alloc (Nat.le_of_lt HF3.out.blk.lt) _).trans hB)
  clear hF hB
  go_wp2_with fail
  refine (next_ex (n := 1) ex4 HF4.out ok3 (by decide) rfl).mono ?_
  rintro e wr5 ⟨a5, c5, vC5, rfl, hO5, hF5, hR5, hB5⟩
  try unfold Fm.unlock Fm.setNext
  go_upto_region 6 with fail
  obtain ⟨w5, hw⟩ : ∃ w', w' = wr5.alloc (.cells #[.bool false, .bool false, .int .i64 5, .int .i64 1, .int .i64 0, .slice a5 1 c5] 33) := ⟨_, rfl⟩
  have hk : Blk w5 wr5.heap.size 33 [.bool false, .bool false, .int .i64 5, .int .i64 1, .int .i64 0, .slice a5 1 c5] := by rw [hw]; exact Blk.new wr5 33 _
  have HS5 : Hid (Fr (fun k => k = b) w4 w5) := Lib.hid (by rw [hw]; exact hR5.out.alloc _)
  have HB5 : Hid (Below b w w5) := Lib.hid (by rw [hw]; exact (HB4.out.trans hB5.out).alloc (Nat.le_trans (Nat.le_of_lt HF4.out.blk.lt) hR5.out.size) _)
  have HF5 : Hid (FAt w5 (fun k => k < b) b y4 vU4 vC5) := Lib.hid (by rw [hw]; exact hF5.out.below (al (Below.refl _ _) _) (Nat.le_refl _))
  have hl : b < wr5.heap.size := hF5.out.blk.lt
  rw [← hw]
  obtain ⟨p5, hp⟩ : ∃ p, p = wr5.heap.size := ⟨_, rfl⟩
  rw [← hp] at hk hl
  rw [← hp]
  have HK5 := Lib.hid hk
  have HL5 := Lib.hid hl
  have HD5 : Hid (BAt w5 a5 [65] ∧ ∀ q, a5 = some q → b < q.block) := Lib.hid (by
    obtain ⟨-, a, c, e, hc, hm, hA⟩ := BAt.of_row (l := [65]) hO5.out
    simp only [Value.slice.injEq] at e
    obtain ⟨rfl, -, -⟩ := e
    refine ⟨by rw [hw]; exact hA.below (al (Below.refl _ _) _) (Nat.le_refl _), fun q hq => ?_⟩
    have h1 := (hO5.out.lt q.block (by rw [hq]; rfl)).1
    have h2 := HF4.out.blk.lt
    omega)
  clear hO5 hF5 hR5 hB5 hw hp hk hl
  go_wp2_with fail
  refine (next_ex (n := 1) ex5 HF5.out ok4 (by decide) rfl).mono ?_
  rintro e wr6 ⟨a6, c6, vC6, rfl, hO6, hF6, hR6, hB6⟩
  try unfold Fm.unlock Fm.setNext
  go_upto_region 7 with fail
  obtain ⟨w6, hw⟩ : ∃ w', w' = wr6.alloc (.cells #[.bool false, .bool false, .int .i64 5, .int .i64 1, .int .i64 1, .slice a6 1 c6] 33) := ⟨_, rfl⟩
  have hk : Blk w6 wr6.heap.size 33 [.bool false, .bool false, .int .i64 5, .int .i64 1, .int .i64 1, .slice a6 1 c6] := by rw [hw]; exact Blk.new wr6 33 _
  have HS6 : Hid (Fr (fun k => k = b) w5 w6) := Lib.hid (by rw [hw]; exact hR6.out.alloc _)
  have HB6 : Hid (Below b w w6) := Lib.hid (by rw [hw]; exact (HB5.out.trans hB6.out).alloc (Nat.le_trans (Nat.le_of_lt HF5.out.blk.lt) hR6.out.size) _)
  have HF6 : Hid (FAt w6 (fun k => k < b) b y5 vU4 vC6) := Lib.hid (by rw [hw]; exact hF6.out.below (al (Below.refl _ _) _) (Nat.le_refl _))
  have hl : b < wr6.heap.size := hF6.out.blk.lt
  rw [← hw]
  obtain ⟨p6, hp⟩ : ∃ p, p = wr6.heap.size := ⟨_, rfl⟩
  rw [← hp] at hk hl
  rw [← hp]
  have HK6 := Lib.hid hk
  have HL6 := Lib.hid hl
  have HD6 : Hid (BAt w6 a6 [66] ∧ ∀ q, a6 = some q → b < q.block) := Lib.hid (by
    obtain ⟨-, a, c, e, hc, hm, hA⟩ := BAt.of_row (l := [66]) hO6.out
    simp only [Value.slice.injEq] at e
    obtain ⟨rfl, -, -⟩ := e
    refine ⟨by rw [hw]; exact hA.below (al (Below.refl _ _) _) (Nat.le_refl _), fun q hq => ?_⟩
    have h1 := (hO6.out.lt q.block (by rw [hq]; rfl)).1
    have h2 := HF5.out.blk.lt
    omega)
  clear hO6 hF6 hR6 hB6 hw hp hk hl
  go_wp2_with fail
  refine (next_no ex6 HF6.out ok5 (by decide)).mono ?_
  rintro e wr7 ⟨a7, c7, vC7, rfl, hF7, hR7, hB7⟩
  go_upto_region 8 with fail
  obtain ⟨w7, hw⟩ : ∃ w', w' = wr7.alloc (.cells #[.bool false, .bool false, .int .i64 0, .int .i64 0, .int .i64 0, .slice a7 0 c7] 33) := ⟨_, rfl⟩
  have hk : Blk w7 wr7.heap.size 33 [.bool false, .bool false, .int .i64 0, .int .i64 0, .int .i64 0, .slice a7 0 c7] := by rw [hw]; exact Blk.new wr7 33 _
  have HS7 : Hid (Fr (fun k => k = b) w6 w7) := Lib.hid (by rw [hw]; exact hR7.out.alloc _)
  have HB7 : Hid (Below b w w7) := Lib.hid (by rw [hw]; exact (HB6.out.trans hB7.out).alloc (Nat.le_trans (Nat.le_of_lt HF6.out.blk.lt) hR7.out.size) _)
  have HF7 : Hid (FAt w7 (fun k => k < b) b y5 vU4 vC7) := Lib.hid (by rw [hw]; exact hF7.out.below (al (Below.refl _ _) _) (Nat.le_refl _))
  have hl : b < wr7.heap.size := hF7.out.blk.lt
  rw [← hw]
  obtain ⟨p7, hp⟩ : ∃ p, p = wr7.heap.size := ⟨_, rfl⟩
  rw [← hp] at hk hl
  rw [← hp]
  have HK7 := Lib.hid hk
  have HL7 := Lib.hid hl
  clear hF7 hR7 hB7 hw hp hk hl
  go_wp2_with fail
  refine (word_any 1 _).mono ?_
  rintro e w8r ⟨rfl, hB⟩
  have HF7b := Lib.hid (HF7.out.below hB (Nat.le_refl _))
  have HR7b := Lib.hid hB
  clear hB
  unfold cwV
  go_wp2_with fail
  refine (report_ex (c := cw1) ex7 HF7b.out ok5 (by decide)).mono ?_
  rintro e w8 ⟨vU8, rfl, hF, hR, hB⟩
  have HF8 := Lib.hid hF.out
  have HS8 : Hid (Fr (fun k => k = b) w7 w8) := Lib.hid ((Fr.of_below HR7b.out (Nat.le_refl _)).trans hR.out)
  have HB8 : Hid (Below b w w8) := Lib.hid ((HB7.out.trans (HR7b.out.mono (Nat.le_of_lt HF7.out.blk.lt))).trans hB.out)
  clear hF hR hB HF7b HR7b
  go_wp2_with fail
  refine (next_ex (n := 1) ex8 HF8.out ok6 (by decide) rfl).mono ?_
  rintro e wr9 ⟨a9, c9, vC9, rfl, hO9, hF9, hR9, hB9⟩
  try unfold Fm.unlock Fm.setNext
  go_upto_region 10 with fail
  obtain ⟨w9, hw⟩ : ∃ w', w' = wr9.alloc (.cells #[.bool false, .bool false, .int .i64 5, .int .i64 1, .int .i64 2, .slice a9 1 c9] 33) := ⟨_, rfl⟩
  have hk : Blk w9 wr9.heap.size 33 [.bool false, .bool false, .int .i64 5, .int .i64 1, .int .i64 2, .slice a9 1 c9] := by rw [hw]; exact Blk.new wr9 33 _
  have HS9 : Hid (Fr (fun k => k = b) w8 w9) := Lib.hid (by rw [hw]; exact hR9.out.alloc _)
  have HB9 : Hid (Below b w w9) := Lib.hid (by rw [hw]; exact (HB8.out.trans hB9.out).alloc (Nat.le_trans (Nat.le_of_lt HF8.out.blk.lt) hR9.out.size) _)
  have HF9 : Hid (FAt w9 (fun k => k < b) b y7 vU8 vC9) := Lib.hid (by rw [hw]; exact hF9.out.below (al (Below.refl _ _) _) (Nat.le_refl _))
  have hl : b < wr9.heap.size := hF9.out.blk.lt
  rw [← hw]
  obtain ⟨p9, hp⟩ : ∃ p, p = wr9.heap.size := ⟨_, rfl⟩
  rw [← hp] at hk hl
  rw [← hp]
  have HK9 := Lib.hid hk
  have HL9 := Lib.hid hl
  have HD9 : Hid (BAt w9 a9 [67] ∧ ∀ q, a9 = some q → b < q.block) := Lib.hid (by
    obtain ⟨-, a, c, e, hc, hm, hA⟩ := BAt.of_row (l := [67]) hO9.out
    simp only [Value.slice.injEq] at e
    obtain ⟨rfl, -, -⟩ := e
    refine ⟨by rw [hw]; exact hA.below (al (Below.refl _ _) _) (Nat.le_refl _), fun q hq => ?_⟩
    have h1 := (hO9.out.lt q.block (by rw [hq]; rfl)).1
    have h2 := HF8.out.blk.lt
    omega)
  clear hO9 hF9 hR9 hB9 hw hp hk hl
  go_wp2_with fail
  refine (next_no ex9 HF9.out ok7 (by decide)).mono ?_
  rintro e wr10 ⟨a10, c10, vC10, rfl, hF10, hR10, hB10⟩
  go_upto_region 11 with fail
  obtain ⟨w10, hw⟩ : ∃ w', w' = wr10.alloc (.cells #[.bool false, .bool false, .int .i64 0, .int .i64 0, .int .i64 0, .slice a10 0 c10] 33) := ⟨_, rfl⟩
  have hk : Blk w10 wr10.heap.size 33 [.bool false, .bool false, .int .i64 0, .int .i64 0, .int .i64 0, .slice a10 0 c10] := by rw [hw]; exact Blk.new wr10 33 _
  have HS10 : Hid (Fr (fun k => k = b) w9 w10) := Lib.hid (by rw [hw]; exact hR10.out.alloc _)
  have HB10 : Hid (Below b w w10) := Lib.hid (by rw [hw]; exact (HB9.out.trans hB10.out).alloc (Nat.le_trans (Nat.le_of_lt HF9.out.blk.lt) hR10.out.size) _)
  have HF10 : Hid (FAt w10 (fun k => k < b) b y8 vU8 vC10) := Lib.hid (by rw [hw]; exact hF10.out.below (al (Below.refl _ _) _) (Nat.le_refl _))
  have hl : b < wr10.heap.size := hF10.out.blk.lt
  rw [← hw]
  obtain ⟨p10, hp⟩ : ∃ p, p = wr10.heap.size := ⟨_, rfl⟩
  rw [← hp] at hk hl
  rw [← hp]
  have HK10 := Lib.hid hk
  have HL10 := Lib.hid hl
  clear hF10 hR10 hB10 hw hp hk hl
  go_wp2_with fail
  refine (next_ex (n := 1) ex10 HF10.out ok8 (by decide) rfl).mono ?_
  rintro e wr11 ⟨a11, c11, vC11, rfl, hO11, hF11, hR11, hB11⟩
  try unfold Fm.unlock Fm.setNext
  go_upto_region 12 with fail
  obtain ⟨w11, hw⟩ : ∃ w', w' = wr11.alloc (.cells #[.bool false, .bool false, .int .i64 5, .int .i64 1, .int .i64 1, .slice a11 1 c11] 33) := ⟨_, rfl⟩
  have hk : Blk w11 wr11.heap.size 33 [.bool false, .bool false, .int .i64 5, .int .i64 1, .int .i64 1, .slice a11 1 c11] := by rw [hw]; exact Blk.new wr11 33 _
  have HS11 : Hid (Fr (fun k => k = b) w10 w11) := Lib.hid (by rw [hw]; exact hR11.out.alloc _)
  have HB11 : Hid (Below b w w11) := Lib.hid (by rw [hw]; exact (HB10.out.trans hB11.out).alloc (Nat.le_trans (Nat.le_of_lt HF10.out.blk.lt) hR11.out.size) _)
  have HF11 : Hid (FAt w11 (fun k => k < b) b y9 vU8 vC11) := Lib.hid (by rw [hw]; exact hF11.out.below (al (Below.refl _ _) _) (Nat.le_refl _))
  have hl : b < wr11.heap.size := hF11.out.blk.lt
  rw [← hw]
  obtain ⟨p11, hp⟩ : ∃ p, p = wr11.heap.size := ⟨_, rfl⟩
  rw [← hp] at hk hl
  rw [← hp]
  have HK11 := Lib.hid hk
  have HL11 := Lib.hid hl
  have HD11 : Hid (BAt w11 a11 [66] ∧ ∀ q, a11 = some q → b < q.block) := Lib.hid (by
    obtain ⟨-, a, c, e, hc, hm, hA⟩ := BAt.of_row (l := [66]) hO11.out
    simp only [Value.slice.injEq] at e
    obtain ⟨rfl, -, -⟩ := e
    refine ⟨by rw [hw]; exact hA.below (al (Below.refl _ _) _) (Nat.le_refl _), fun q hq => ?_⟩
    have h1 := (hO11.out.lt q.block (by rw [hq]; rfl)).1
    have h2 := HF10.out.blk.lt
    omega)
  clear hO11 hF11 hR11 hB11 hw hp hk hl
  go_wp2_with fail
  refine (report_ex (c := cwl) ex11 HF11.out ok9 (by decide)).mono ?_
  rintro e w12 ⟨vU12, rfl, hF, hR, hB⟩
  have HF12 := Lib.hid hF.out
  have HS12 : Hid (Fr (fun k => k = b) w11 w12) := Lib.hid hR.out
  have HB12 : Hid (Below b w w12) := Lib.hid (HB11.out.trans hB.out)
  clear hF hR hB
  go_wp2_with fail
  refine (next_no ex12 HF12.out ok10 (by decide)).mono ?_
  rintro e wr13 ⟨a13, c13, vC13, rfl, hF13, hR13, hB13⟩
  go_upto_region 14 with fail
  obtain ⟨w13, hw⟩ : ∃ w', w' = wr13.alloc (.cells #[.bool false, .bool false, .int .i64 0, .int .i64 0, .int .i64 0, .slice a13 0 c13] 33) := ⟨_, rfl⟩
  have hk : Blk w13 wr13.heap.size 33 [.bool false, .bool false, .int .i64 0, .int .i64 0, .int .i64 0, .slice a13 0 c13] := by rw [hw]; exact Blk.new wr13 33 _
  have HS13 : Hid (Fr (fun k => k = b) w12 w13) := Lib.hid (by rw [hw]; exact hR13.out.alloc _)
  have HB13 : Hid (Below b w w13) := Lib.hid (by rw [hw]; exact (HB12.out.trans hB13.out).alloc (Nat.le_trans (Nat.le_of_lt HF12.out.blk.lt) hR13.out.size) _)
  have HF13 : Hid (FAt w13 (fun k => k < b) b y11 vU12 vC13) := Lib.hid (by rw [hw]; exact hF13.out.below (al (Below.refl _ _) _) (Nat.le_refl _))
  have hl : b < wr13.heap.size := hF13.out.blk.lt
  rw [← hw]
  obtain ⟨p13, hp⟩ : ∃ p, p = wr13.heap.size := ⟨_, rfl⟩
  rw [← hp] at hk hl
  rw [← hp]
  have HK13 := Lib.hid hk
  have HL13 := Lib.hid hl
  clear hF13 hR13 hB13 hw hp hk hl
  go_wp2_with fail
  refine (unlock_ex ex13 HF13.out).mono ?_
  rintro e w14 ⟨vC14, rfl, hF, hR, hB⟩
  have HF14 := Lib.hid hF.out
  have HS14 : Hid (Fr (fun k => k = b) w13 w14) := Lib.hid hR.out
  have HB14 : Hid (Below b w w14) := Lib.hid (HB13.out.trans hB.out)
  clear hF hR hB
  go_wp2_with fail
  refine (next_ex (n := 1) ex14 HF14.out ok12 (by decide) rfl).mono ?_
  rintro e wr15 ⟨a15, c15, vC15, rfl, hO15, hF15, hR15, hB15⟩
  try unfold Fm.unlock Fm.setNext
  go_upto_region 16 with fail
  obtain ⟨w15, hw⟩ : ∃ w', w' = wr15.alloc (.cells #[.bool true, .bool true, .int .i64 5, .int .i64 1, .int .i64 0, .slice a15 1 c15] 33) := ⟨_, rfl⟩
  have hk : Blk w15 wr15.heap.size 33 [.bool true, .bool true, .int .i64 5, .int .i64 1, .int .i64 0, .slice a15 1 c15] := by rw [hw]; exact Blk.new wr15 33 _
  have HS15 : Hid (Fr (fun k => k = b) w14 w15) := Lib.hid (by rw [hw]; exact hR15.out.alloc _)
  have HB15 : Hid (Below b w w15) := Lib.hid (by rw [hw]; exact (HB14.out.trans hB15.out).alloc (Nat.le_trans (Nat.le_of_lt HF14.out.blk.lt) hR15.out.size) _)
  have HF15 : Hid (FAt w15 (fun k => k < b) b y13 vU12 vC15) := Lib.hid (by rw [hw]; exact hF15.out.below (al (Below.refl _ _) _) (Nat.le_refl _))
  have hl : b < wr15.heap.size := hF15.out.blk.lt
  rw [← hw]
  obtain ⟨p15, hp⟩ : ∃ p, p = wr15.heap.size := ⟨_, rfl⟩
  rw [← hp] at hk hl
  rw [← hp]
  have HK15 := Lib.hid hk
  have HL15 := Lib.hid hl
  have HD15 : Hid (BAt w15 a15 [0] ∧ ∀ q, a15 = some q → b < q.block) := Lib.hid (by
    obtain ⟨-, a, c, e, hc, hm, hA⟩ := BAt.of_row (l := [0]) hO15.out
    simp only [Value.slice.injEq] at e
    obtain ⟨rfl, -, -⟩ := e
    refine ⟨by rw [hw]; exact hA.below (al (Below.refl _ _) _) (Nat.le_refl _), fun q hq => ?_⟩
    have h1 := (hO15.out.lt q.block (by rw [hq]; rfl)).1
    have h2 := HF14.out.blk.lt
    omega)
  clear hO15 hF15 hR15 hB15 hw hp hk hl
  go_wp2_with fail
  refine (next_ex (n := 3) ex15 HF15.out ok13 (by decide) rfl).mono ?_
  rintro e wr16 ⟨a16, c16, vC16, rfl, hO16, hF16, hR16, hB16⟩
  try unfold Fm.unlock Fm.setNext
  go_upto_region 17 with fail
  obtain ⟨w16, hw⟩ : ∃ w', w' = wr16.alloc (.cells #[.bool true, .bool true, .int .i64 5, .int .i64 1, .int .i64 0, .slice a16 3 c16] 33) := ⟨_, rfl⟩
  have hk : Blk w16 wr16.heap.size 33 [.bool true, .bool true, .int .i64 5, .int .i64 1, .int .i64 0, .slice a16 3 c16] := by rw [hw]; exact Blk.new wr16 33 _
  have HS16 : Hid (Fr (fun k => k = b) w15 w16) := Lib.hid (by rw [hw]; exact hR16.out.alloc _)
  have HB16 : Hid (Below b w w16) := Lib.hid (by rw [hw]; exact (HB15.out.trans hB16.out).alloc (Nat.le_trans (Nat.le_of_lt HF15.out.blk.lt) hR16.out.size) _)
  have HF16 : Hid (FAt w16 (fun k => k < b) b y14 vU12 vC16) := Lib.hid (by rw [hw]; exact hF16.out.below (al (Below.refl _ _) _) (Nat.le_refl _))
  have hl : b < wr16.heap.size := hF16.out.blk.lt
  rw [← hw]
  obtain ⟨p16, hp⟩ : ∃ p, p = wr16.heap.size := ⟨_, rfl⟩
  rw [← hp] at hk hl
  rw [← hp]
  have HK16 := Lib.hid hk
  have HL16 := Lib.hid hl
  have HD16 : Hid (BAt w16 a16 [130, 0, 1] ∧ ∀ q, a16 = some q → b < q.block) := Lib.hid (by
    obtain ⟨-, a, c, e, hc, hm, hA⟩ := BAt.of_row (l := [130, 0, 1]) hO16.out
    simp only [Value.slice.injEq] at e
    obtain ⟨rfl, -, -⟩ := e
    refine ⟨by rw [hw]; exact hA.below (al (Below.refl _ _) _) (Nat.le_refl _), fun q hq => ?_⟩
    have h1 := (hO16.out.lt q.block (by rw [hq]; rfl)).1
    have h2 := HF15.out.blk.lt
    omega)
  clear hO16 hF16 hR16 hB16 hw hp hk hl
  have T15 := HS16.out
  have T14 := HS15.out.trans T15
  have T11 := (((HS12.out.trans HS13.out).trans HS14.out)).trans T14
  have T9 := (HS10.out.trans HS11.out).trans T11
  have T6 := ((HS7.out.trans HS8.out).trans HS9.out).trans T9
  have T5 := HS6.out.trans T6
  have E : EndB w16 p5 p6 p9 p11 p15 p16 a5 a6 a9 a11 a15 a16 c5 c6 c9 c11 c15 c16 := ⟨HK5.out.fr T5 (by have := HL5.out; omega), HK6.out.fr T6 (by have := HL6.out; omega), HK9.out.fr T9 (by have := HL9.out; omega), HK11.out.fr T11 (by have := HL11.out; omega), HK15.out.fr T15 (by have := HL15.out; omega), HK16.out, HD6.out.1.fr T6 (fun q hq => by have := HD6.out.2 q hq; omega), HD15.out.1.fr T15 (fun q hq => by have := HD15.out.2 q hq; omega), HD16.out.1⟩
  refine alive_tail w w16 b p5 p6 p7 p9 p10 p11 p13 p15 p16 a5 a6 a9 a11 a15 a16 c5 c6 c9 c11 c15 c16 _ _ _ _ _ _ _ _ _ _ _ _ _ _ _ _ _ _ _ _ _ _ _ _ _ _ _ _ _ _ _ _ _ _ _ _ _ _ _ _ _ _ _ _ _ _ _ _ _ _ _ _ _ _ _ _ _ _ _ _ _ _ _ _ _ _ _ _ E HF16 HB16 (Lib.hid (fun c a d v w h => by simp (config := { zetaDelta := true }) only [bodyPost, put_defers] at h ⊢; exact h)) ?_
  intro x90 x91 x92 x93 x94 x95 x96 x97 x98 x99 x100 x101 x102 x103 x104 x105 x106 x107 x108 x109 x110 x111 x112 x113 x114 x115 x116 x117 x118 x119 x120 x121 x122 x123 x124 x125 x126 x127 x128 x129 x130 x131 x132 x133 x134 x135 x136 x137 x138 x139 x140 x141 x142 x143 x144 x145 x146 x147 x148 x149 x150 x151 x152 x153 x154 x155 x156 x157 x158 x159 x160 x161 x162 x163 x164 x165 x166 x167 x168 x169 x170 x171 x172 x173 x174 x175 x176 x177 x178 x179 x180 x181 x182 x183 x184 w17 hB17
  have HB17 := Lib.hid hB17
  clear T15 T14 T11 T9 T6 T5 E hB17
  go_wp2_with fail
  go_ret
  exact ⟨rfl, by rw [← HBB.out]; exact HB17.out⟩
end Go.Proofs.Ytjiejpklcjpibaa

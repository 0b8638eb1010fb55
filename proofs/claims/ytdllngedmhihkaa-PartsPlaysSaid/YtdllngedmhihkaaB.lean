/- Contracts on packets of layer 11. No condition. -/
import Derived.Test.YtdllngedmhihkaaA
import Derived.Deep.AppendLies
namespace Go.Proofs.Ytdllngedmhihkaa
open Go.RowKit Go.Deep Go.ChangeShapes Go.WideShapes Go.ChangeAt
set_option linter.unusedVariables false

/-- a packet -/
def Pk (c s : Bool) (ap fl ct : Int) (a : Option Addr) (n cap : Nat) : Value := .agg #[.bool c, .bool s, .int .i64 ap, .int .i64 fl, .int .i64 ct, .slice a n cap]
theorem header_any (c s : Bool) (ap fl ct : Int) (a : Option Addr) (n cap : Nat) (w : World) :
    Calls Try.prog 23 #[Pk c s ap fl ct a n cap] w fun e w' => e = .returned (.bool (okB ap ct)) ∧ Below w.heap.size w w' := by
  unfold Pk
  by_cases h1 : 0 ≤ ap <;> by_cases h2 : ap ≤ 2046 <;> by_cases h3 : 0 ≤ ct <;> by_cases h4 : ct ≤ 16383
  all_goals first
    | (exfalso; omega)
    | skip
  all_goals
    go_enter Try.func23, Try.ntmps23
    go_wp2
    go_ret
    exact ⟨ret_bool (by first | (simp [okB, cntB, h1, h2, h3]; done) | (simp [okB, cntB, h1, h2, h3]; omega) | (simp [okB, cntB]; omega)), (Below.refl _ _).alloc (Nat.le_refl _) _⟩
end Go.Proofs.Ytdllngedmhihkaa

/-
  No cell of these rows narrows 'for every input' (looked for: loops, veiled, ifaces, maps, wideKeys, modest, calm, conditions, laid).
  DERIVED. THE GIVEN ROWS OF THIS SEAT. 6 by the template 'for every input the law returns true; each argument reads behind the call as it read before'; 0 by the template 'total and deterministic' (their statements: YtcgneldccbcidaaTotals.lean).
  GIVEN WITH THE SEED: the statements are not yours to turn. If you find one false, say at which input.
  Laid BY PROGRAM, IN A SANDBOX (cutbox-rows.mjs): the forced cells as the released guide's own fill.sh prints them over the translation dff5d851acd0a9a1… (all of the seat's roots in one cut). By AI agents, Wed Nov 11 2026. No macro, syntax, notation, axiom, sorry.
-/
import Derived.Test.YtcgneldccbcidaaChecked
import GoSem.Claim
import GoSem.ClaimJoined
import GoSem.ClaimMapViews
import Derived.JoinedTies
import Derived.KernelRfl
namespace Go.Proofs.Ytcgneldccbcidaa
/- THE CELL 'sum', in the pinned program and in every row, IS THE sha256 OF THE DUMP (.gsa) THAT YtcgneldccbcidaaProg.lean LOADS. Nothing in Lean hashes anything: it is a label: what it is worth is what the hold of that sum in a sandbox is worth. -/
noncomputable def Try.pinned : Pinned := { name := "ytcgneldccbcidaa", sum := "dff5d851acd0a9a1108fcdf3fc1ff501b86f50503795a718f2e45d85bde37035", checked := Try.checked }
namespace Rows
def none {H : Type} : Left H := { results := [], args := [] }

/-- 'spacecraftlaw50.CalibPolys': WHATEVER THE INPUT: true; the input reads as it did. -/
def calibPolysSpec : ChangeSpec := { name := "calibPolys", fn := fun _ => fun
  | [d1, d2] => { results := [.lit (.bool true)], args := [d1, d2] }
  | _ => none }
def calibPolysRow : OpenClaim := { program := "ytcgneldccbcidaa", sum := "dff5d851acd0a9a1108fcdf3fc1ff501b86f50503795a718f2e45d85bde37035", func := "spacecraft/spacecraftlaw50.CalibPolys", spec := "calibPolys", unfollowed := true, recurses := true, apart := false }
def CalibPolysSaid : Prop := calibPolysRow.holds Try.pinned (OpenSpec.ofChange calibPolysSpec)

/-- ITS FALSE NEIGHBOUR: 'it returns false'. Refute it at one input. -/
def calibPolysWrong : ChangeSpec := { name := "calibPolys", fn := fun _ => fun
  | [d1, d2] => { results := [.lit (.bool false)], args := [d1, d2] }
  | _ => none }
def CalibPolysWrongFalsely : Prop := calibPolysRow.holds Try.pinned (OpenSpec.ofChange calibPolysWrong)

/-- 'spacecraftlaw50.CalibCurves': WHATEVER THE INPUT: true; the input reads as it did. -/
def calibCurvesSpec : ChangeSpec := { name := "calibCurves", fn := fun _ => fun
  | [d1, d2, d3] => { results := [.lit (.bool true)], args := [d1, d2, d3] }
  | _ => none }
def calibCurvesRow : OpenClaim := { program := "ytcgneldccbcidaa", sum := "dff5d851acd0a9a1108fcdf3fc1ff501b86f50503795a718f2e45d85bde37035", func := "spacecraft/spacecraftlaw50.CalibCurves", spec := "calibCurves", unfollowed := true, recurses := true, apart := false }
def CalibCurvesSaid : Prop := calibCurvesRow.holds Try.pinned (OpenSpec.ofChange calibCurvesSpec)

/-- ITS FALSE NEIGHBOUR: 'it returns false'. Refute it at one input. -/
def calibCurvesWrong : ChangeSpec := { name := "calibCurves", fn := fun _ => fun
  | [d1, d2, d3] => { results := [.lit (.bool false)], args := [d1, d2, d3] }
  | _ => none }
def CalibCurvesWrongFalsely : Prop := calibCurvesRow.holds Try.pinned (OpenSpec.ofChange calibCurvesWrong)

/-- 'spacecraftlaw50.CalibInverts': WHATEVER THE INPUT: true; the input reads as it did. -/
def calibInvertsSpec : ChangeSpec := { name := "calibInverts", fn := fun _ => fun
  | [d1, d2] => { results := [.lit (.bool true)], args := [d1, d2] }
  | _ => none }
def calibInvertsRow : OpenClaim := { program := "ytcgneldccbcidaa", sum := "dff5d851acd0a9a1108fcdf3fc1ff501b86f50503795a718f2e45d85bde37035", func := "spacecraft/spacecraftlaw50.CalibInverts", spec := "calibInverts", unfollowed := true, recurses := true, apart := false }
def CalibInvertsSaid : Prop := calibInvertsRow.holds Try.pinned (OpenSpec.ofChange calibInvertsSpec)

/-- ITS FALSE NEIGHBOUR: 'it returns false'. Refute it at one input. -/
def calibInvertsWrong : ChangeSpec := { name := "calibInverts", fn := fun _ => fun
  | [d1, d2] => { results := [.lit (.bool false)], args := [d1, d2] }
  | _ => none }
def CalibInvertsWrongFalsely : Prop := calibInvertsRow.holds Try.pinned (OpenSpec.ofChange calibInvertsWrong)

/-- 'spacecraftlaw50.CalibRises': WHATEVER THE INPUT: true; the input reads as it did. -/
def calibRisesSpec : ChangeSpec := { name := "calibRises", fn := fun _ => fun
  | [d1, d2, d3] => { results := [.lit (.bool true)], args := [d1, d2, d3] }
  | _ => none }
def calibRisesRow : OpenClaim := { program := "ytcgneldccbcidaa", sum := "dff5d851acd0a9a1108fcdf3fc1ff501b86f50503795a718f2e45d85bde37035", func := "spacecraft/spacecraftlaw50.CalibRises", spec := "calibRises", unfollowed := true, recurses := true, apart := false }
def CalibRisesSaid : Prop := calibRisesRow.holds Try.pinned (OpenSpec.ofChange calibRisesSpec)

/-- ITS FALSE NEIGHBOUR: 'it returns false'. Refute it at one input. -/
def calibRisesWrong : ChangeSpec := { name := "calibRises", fn := fun _ => fun
  | [d1, d2, d3] => { results := [.lit (.bool false)], args := [d1, d2, d3] }
  | _ => none }
def CalibRisesWrongFalsely : Prop := calibRisesRow.holds Try.pinned (OpenSpec.ofChange calibRisesWrong)

/-- 'spacecraftlaw50.CalibPoints': WHATEVER THE INPUT: true; the input reads as it did. -/
def calibPointsSpec : ChangeSpec := { name := "calibPoints", fn := fun _ => fun
  | [d] => { results := [.lit (.bool true)], args := [d] }
  | _ => none }
def calibPointsRow : OpenClaim := { program := "ytcgneldccbcidaa", sum := "dff5d851acd0a9a1108fcdf3fc1ff501b86f50503795a718f2e45d85bde37035", func := "spacecraft/spacecraftlaw50.CalibPoints", spec := "calibPoints", unfollowed := true, recurses := true, apart := false }
def CalibPointsSaid : Prop := calibPointsRow.holds Try.pinned (OpenSpec.ofChange calibPointsSpec)

/-- ITS FALSE NEIGHBOUR: 'it returns false'. Refute it at one input. -/
def calibPointsWrong : ChangeSpec := { name := "calibPoints", fn := fun _ => fun
  | [d] => { results := [.lit (.bool false)], args := [d] }
  | _ => none }
def CalibPointsWrongFalsely : Prop := calibPointsRow.holds Try.pinned (OpenSpec.ofChange calibPointsWrong)

/-- 'spacecraftlaw50.CalibSums': WHATEVER THE INPUT: true; the input reads as it did. -/
def calibSumsSpec : ChangeSpec := { name := "calibSums", fn := fun _ => fun
  | [d1, d2] => { results := [.lit (.bool true)], args := [d1, d2] }
  | _ => none }
def calibSumsRow : OpenClaim := { program := "ytcgneldccbcidaa", sum := "dff5d851acd0a9a1108fcdf3fc1ff501b86f50503795a718f2e45d85bde37035", func := "spacecraft/spacecraftlaw50.CalibSums", spec := "calibSums", unfollowed := true, recurses := true, apart := false }
def CalibSumsSaid : Prop := calibSumsRow.holds Try.pinned (OpenSpec.ofChange calibSumsSpec)

/-- ITS FALSE NEIGHBOUR: 'it returns false'. Refute it at one input. -/
def calibSumsWrong : ChangeSpec := { name := "calibSums", fn := fun _ => fun
  | [d1, d2] => { results := [.lit (.bool false)], args := [d1, d2] }
  | _ => none }
def CalibSumsWrongFalsely : Prop := calibSumsRow.holds Try.pinned (OpenSpec.ofChange calibSumsWrong)

/- THE SECOND FORM. 'bulk': how many values and letters a reading holds, each counted each time it is reached (what is shared counts as often as it is met; a slice's spare places count too). A statement '..UptoSaid' is the law's where the arguments, and the package variables that the reading takes, are together of bulk at most 1048576: NARROWER than '..Said'. Prove '..Said' where nothing that the law and all that it calls make is longer than what came in: it says more and counts as full. Else prove '..UptoSaid'. A law counts once. -/
mutual
def uptoBulk {H : Type} : DataW H → Nat
  | .lit (.string bytes) => bytes.length + 1
  | .lit _ => 1
  | .nil => 1
  | .ptr d => uptoBulk d + 1
  | .slice elems spare => uptoBulkAll elems + uptoBulkAll spare + 1
  | .agg parts => uptoBulkAll parts + 1
  | .iface _ d => uptoBulk d + 1
  | .map entries => uptoBulkEntries entries + 1
  | .held _ => 1
def uptoBulkAll {H : Type} : List (DataW H) → Nat
  | [] => 0
  | d :: r => uptoBulk d + uptoBulkAll r
def uptoBulkEntries {H : Type} : List (Lit × DataW H) → Nat
  | [] => 0
  | x :: r => uptoBulkEntry x + uptoBulkEntries r
def uptoBulkEntry {H : Type} : Lit × DataW H → Nat
  | (.string bytes, d) => bytes.length + uptoBulk d + 1
  | (_, d) => uptoBulk d + 1
 end
def uptoSmall : (H : Type) → List (DataW H) → Bool := fun _ ds => decide (uptoBulkAll ds ≤ 1048576)
def OpenSpec.upto (s : _root_.Go.ChangeSpec) : _root_.Go.OpenSpec := { _root_.Go.OpenSpec.ofChange s with cond := some uptoSmall }

/-- 'spacecraftlaw50.CalibPolys', WHERE WHAT IT READS IS OF BULK AT MOST 1048576: true; the input reads as it did. -/
def calibPolysUptoRow : OpenClaim := { program := "ytcgneldccbcidaa", sum := "dff5d851acd0a9a1108fcdf3fc1ff501b86f50503795a718f2e45d85bde37035", func := "spacecraft/spacecraftlaw50.CalibPolys", spec := "calibPolys", unfollowed := true, recurses := true, apart := false, narrowed := true }
def CalibPolysUptoSaid : Prop := calibPolysUptoRow.holds Try.pinned (OpenSpec.upto calibPolysSpec)

/-- 'spacecraftlaw50.CalibCurves', WHERE WHAT IT READS IS OF BULK AT MOST 1048576: true; the input reads as it did. -/
def calibCurvesUptoRow : OpenClaim := { program := "ytcgneldccbcidaa", sum := "dff5d851acd0a9a1108fcdf3fc1ff501b86f50503795a718f2e45d85bde37035", func := "spacecraft/spacecraftlaw50.CalibCurves", spec := "calibCurves", unfollowed := true, recurses := true, apart := false, narrowed := true }
def CalibCurvesUptoSaid : Prop := calibCurvesUptoRow.holds Try.pinned (OpenSpec.upto calibCurvesSpec)

/-- 'spacecraftlaw50.CalibInverts', WHERE WHAT IT READS IS OF BULK AT MOST 1048576: true; the input reads as it did. -/
def calibInvertsUptoRow : OpenClaim := { program := "ytcgneldccbcidaa", sum := "dff5d851acd0a9a1108fcdf3fc1ff501b86f50503795a718f2e45d85bde37035", func := "spacecraft/spacecraftlaw50.CalibInverts", spec := "calibInverts", unfollowed := true, recurses := true, apart := false, narrowed := true }
def CalibInvertsUptoSaid : Prop := calibInvertsUptoRow.holds Try.pinned (OpenSpec.upto calibInvertsSpec)

/-- 'spacecraftlaw50.CalibRises', WHERE WHAT IT READS IS OF BULK AT MOST 1048576: true; the input reads as it did. -/
def calibRisesUptoRow : OpenClaim := { program := "ytcgneldccbcidaa", sum := "dff5d851acd0a9a1108fcdf3fc1ff501b86f50503795a718f2e45d85bde37035", func := "spacecraft/spacecraftlaw50.CalibRises", spec := "calibRises", unfollowed := true, recurses := true, apart := false, narrowed := true }
def CalibRisesUptoSaid : Prop := calibRisesUptoRow.holds Try.pinned (OpenSpec.upto calibRisesSpec)

/-- 'spacecraftlaw50.CalibPoints', WHERE WHAT IT READS IS OF BULK AT MOST 1048576: true; the input reads as it did. -/
def calibPointsUptoRow : OpenClaim := { program := "ytcgneldccbcidaa", sum := "dff5d851acd0a9a1108fcdf3fc1ff501b86f50503795a718f2e45d85bde37035", func := "spacecraft/spacecraftlaw50.CalibPoints", spec := "calibPoints", unfollowed := true, recurses := true, apart := false, narrowed := true }
def CalibPointsUptoSaid : Prop := calibPointsUptoRow.holds Try.pinned (OpenSpec.upto calibPointsSpec)

/-- 'spacecraftlaw50.CalibSums', WHERE WHAT IT READS IS OF BULK AT MOST 1048576: true; the input reads as it did. -/
def calibSumsUptoRow : OpenClaim := { program := "ytcgneldccbcidaa", sum := "dff5d851acd0a9a1108fcdf3fc1ff501b86f50503795a718f2e45d85bde37035", func := "spacecraft/spacecraftlaw50.CalibSums", spec := "calibSums", unfollowed := true, recurses := true, apart := false, narrowed := true }
def CalibSumsUptoSaid : Prop := calibSumsUptoRow.holds Try.pinned (OpenSpec.upto calibSumsSpec)

end Rows
end Go.Proofs.Ytcgneldccbcidaa

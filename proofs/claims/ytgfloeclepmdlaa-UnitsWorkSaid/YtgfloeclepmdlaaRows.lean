/-
  No cell of these rows narrows 'for every input' (looked for: loops, veiled, ifaces, maps, wideKeys, modest, calm, conditions, laid).
  DERIVED. THE GIVEN ROWS OF THIS SEAT. 4 by the template 'for every input the law returns true; each argument reads behind the call as it read before'; 0 by the template 'total and deterministic' (their statements: YtgfloeclepmdlaaTotals.lean).
  GIVEN WITH THE SEED: the statements are not yours to turn. If you find one false, say at which input.
  Laid BY PROGRAM, IN A SANDBOX (cutbox-rows.mjs): the forced cells as the released guide's own fill.sh prints them over the translation 8961999596fadda1… (all of the seat's roots in one cut). By AI agents, Wed Nov 11 2026. No macro, syntax, notation, axiom, sorry.
-/
import Derived.Test.YtgfloeclepmdlaaChecked
import GoSem.Claim
import GoSem.ClaimJoined
import GoSem.ClaimMapViews
import Derived.JoinedTies
import Derived.KernelRfl
namespace Go.Proofs.Ytgfloeclepmdlaa
/- THE CELL 'sum', in the pinned program and in every row, IS THE sha256 OF THE DUMP (.gsa) THAT YtgfloeclepmdlaaProg.lean LOADS. Nothing in Lean hashes anything: it is a label: what it is worth is what the hold of that sum in a sandbox is worth. -/
noncomputable def Try.pinned : Pinned := { name := "ytgfloeclepmdlaa", sum := "8961999596fadda1496e642ae900401ae40b1a4a3ceb96f02fe6fec69683bbe6", checked := Try.checked }
namespace Rows
def none {H : Type} : Left H := { results := [], args := [] }

/-- 'spacecraftlaw46.UnitsRestore': WHATEVER THE INPUT: true; the input reads as it did. -/
def unitsRestoreSpec : ChangeSpec := { name := "unitsRestore", fn := fun _ => fun
  | [d1, d2] => { results := [.lit (.bool true)], args := [d1, d2] }
  | _ => none }
def unitsRestoreRow : OpenClaim := { program := "ytgfloeclepmdlaa", sum := "8961999596fadda1496e642ae900401ae40b1a4a3ceb96f02fe6fec69683bbe6", func := "spacecraft/spacecraftlaw46.UnitsRestore", spec := "unitsRestore", unfollowed := true, recurses := true, apart := false }
def UnitsRestoreSaid : Prop := unitsRestoreRow.holds Try.pinned (OpenSpec.ofChange unitsRestoreSpec)

/-- ITS FALSE NEIGHBOUR: 'it returns false'. Refute it at one input. -/
def unitsRestoreWrong : ChangeSpec := { name := "unitsRestore", fn := fun _ => fun
  | [d1, d2] => { results := [.lit (.bool false)], args := [d1, d2] }
  | _ => none }
def UnitsRestoreWrongFalsely : Prop := unitsRestoreRow.holds Try.pinned (OpenSpec.ofChange unitsRestoreWrong)

/-- 'spacecraftlaw46.UnitsWork': WHATEVER THE INPUT: true; the input reads as it did. -/
def unitsWorkSpec : ChangeSpec := { name := "unitsWork", fn := fun _ => fun
  | [d1, d2] => { results := [.lit (.bool true)], args := [d1, d2] }
  | _ => none }
def unitsWorkRow : OpenClaim := { program := "ytgfloeclepmdlaa", sum := "8961999596fadda1496e642ae900401ae40b1a4a3ceb96f02fe6fec69683bbe6", func := "spacecraft/spacecraftlaw46.UnitsWork", spec := "unitsWork", unfollowed := true, recurses := true, apart := false }
def UnitsWorkSaid : Prop := unitsWorkRow.holds Try.pinned (OpenSpec.ofChange unitsWorkSpec)

/-- ITS FALSE NEIGHBOUR: 'it returns false'. Refute it at one input. -/
def unitsWorkWrong : ChangeSpec := { name := "unitsWork", fn := fun _ => fun
  | [d1, d2] => { results := [.lit (.bool false)], args := [d1, d2] }
  | _ => none }
def UnitsWorkWrongFalsely : Prop := unitsWorkRow.holds Try.pinned (OpenSpec.ofChange unitsWorkWrong)

/-- 'spacecraftlaw46.UnitsMake': WHATEVER THE INPUT: true; the input reads as it did. -/
def unitsMakeSpec : ChangeSpec := { name := "unitsMake", fn := fun _ => fun
  | [d1, d2] => { results := [.lit (.bool true)], args := [d1, d2] }
  | _ => none }
def unitsMakeRow : OpenClaim := { program := "ytgfloeclepmdlaa", sum := "8961999596fadda1496e642ae900401ae40b1a4a3ceb96f02fe6fec69683bbe6", func := "spacecraft/spacecraftlaw46.UnitsMake", spec := "unitsMake", unfollowed := true, recurses := true, apart := false }
def UnitsMakeSaid : Prop := unitsMakeRow.holds Try.pinned (OpenSpec.ofChange unitsMakeSpec)

/-- ITS FALSE NEIGHBOUR: 'it returns false'. Refute it at one input. -/
def unitsMakeWrong : ChangeSpec := { name := "unitsMake", fn := fun _ => fun
  | [d1, d2] => { results := [.lit (.bool false)], args := [d1, d2] }
  | _ => none }
def UnitsMakeWrongFalsely : Prop := unitsMakeRow.holds Try.pinned (OpenSpec.ofChange unitsMakeWrong)

/-- 'spacecraftlaw46.UnitsPlay': WHATEVER THE INPUT: true; the input reads as it did. -/
def unitsPlaySpec : ChangeSpec := { name := "unitsPlay", fn := fun _ => fun
  | [d1, d2] => { results := [.lit (.bool true)], args := [d1, d2] }
  | _ => none }
def unitsPlayRow : OpenClaim := { program := "ytgfloeclepmdlaa", sum := "8961999596fadda1496e642ae900401ae40b1a4a3ceb96f02fe6fec69683bbe6", func := "spacecraft/spacecraftlaw46.UnitsPlay", spec := "unitsPlay", unfollowed := true, recurses := true, apart := false }
def UnitsPlaySaid : Prop := unitsPlayRow.holds Try.pinned (OpenSpec.ofChange unitsPlaySpec)

/-- ITS FALSE NEIGHBOUR: 'it returns false'. Refute it at one input. -/
def unitsPlayWrong : ChangeSpec := { name := "unitsPlay", fn := fun _ => fun
  | [d1, d2] => { results := [.lit (.bool false)], args := [d1, d2] }
  | _ => none }
def UnitsPlayWrongFalsely : Prop := unitsPlayRow.holds Try.pinned (OpenSpec.ofChange unitsPlayWrong)

/- THE SECOND FORM. 'bulk': how many values and letters a reading holds, each counted each time it is reached (what is shared counts as often as it is met; a slice's spare places count too). A statement '..UptoSaid' is the law's where the arguments, and the package variables that the reading takes, are together of bulk at most 1048576: NARROWER than '..Said'. Prove '..Said' where nothing that the law and all that it calls make is longer than what came in: it says more and counts as full. Else prove '..UptoSaid'. A law counts once. -/
mutual
def uptoBulk {H : Type} : DataW H → Nat
  | .lit (.string bytes) => bytes.length + 1
  | .lit _ => 1
  | .nil => 1
  | .ptr d => uptoBulk d + 1
  | .slice elems spare => uptoBulkAll elems + uptoBulkAll spare + 1
  | .agg parts => uptoBulkAll parts + 1
  | .iface _ d => uptoBulk d + 1
  | .map entries => uptoBulkEntries entries + 1
  | .held _ => 1
def uptoBulkAll {H : Type} : List (DataW H) → Nat
  | [] => 0
  | d :: r => uptoBulk d + uptoBulkAll r
def uptoBulkEntries {H : Type} : List (Lit × DataW H) → Nat
  | [] => 0
  | x :: r => uptoBulkEntry x + uptoBulkEntries r
def uptoBulkEntry {H : Type} : Lit × DataW H → Nat
  | (.string bytes, d) => bytes.length + uptoBulk d + 1
  | (_, d) => uptoBulk d + 1
 end
def uptoSmall : (H : Type) → List (DataW H) → Bool := fun _ ds => decide (uptoBulkAll ds ≤ 1048576)
def OpenSpec.upto (s : _root_.Go.ChangeSpec) : _root_.Go.OpenSpec := { _root_.Go.OpenSpec.ofChange s with cond := some uptoSmall }

/-- 'spacecraftlaw46.UnitsRestore', WHERE WHAT IT READS IS OF BULK AT MOST 1048576: true; the input reads as it did. -/
def unitsRestoreUptoRow : OpenClaim := { program := "ytgfloeclepmdlaa", sum := "8961999596fadda1496e642ae900401ae40b1a4a3ceb96f02fe6fec69683bbe6", func := "spacecraft/spacecraftlaw46.UnitsRestore", spec := "unitsRestore", unfollowed := true, recurses := true, apart := false, narrowed := true }
def UnitsRestoreUptoSaid : Prop := unitsRestoreUptoRow.holds Try.pinned (OpenSpec.upto unitsRestoreSpec)

/-- 'spacecraftlaw46.UnitsWork', WHERE WHAT IT READS IS OF BULK AT MOST 1048576: true; the input reads as it did. -/
def unitsWorkUptoRow : OpenClaim := { program := "ytgfloeclepmdlaa", sum := "8961999596fadda1496e642ae900401ae40b1a4a3ceb96f02fe6fec69683bbe6", func := "spacecraft/spacecraftlaw46.UnitsWork", spec := "unitsWork", unfollowed := true, recurses := true, apart := false, narrowed := true }
def UnitsWorkUptoSaid : Prop := unitsWorkUptoRow.holds Try.pinned (OpenSpec.upto unitsWorkSpec)

/-- 'spacecraftlaw46.UnitsMake', WHERE WHAT IT READS IS OF BULK AT MOST 1048576: true; the input reads as it did. -/
def unitsMakeUptoRow : OpenClaim := { program := "ytgfloeclepmdlaa", sum := "8961999596fadda1496e642ae900401ae40b1a4a3ceb96f02fe6fec69683bbe6", func := "spacecraft/spacecraftlaw46.UnitsMake", spec := "unitsMake", unfollowed := true, recurses := true, apart := false, narrowed := true }
def UnitsMakeUptoSaid : Prop := unitsMakeUptoRow.holds Try.pinned (OpenSpec.upto unitsMakeSpec)

/-- 'spacecraftlaw46.UnitsPlay', WHERE WHAT IT READS IS OF BULK AT MOST 1048576: true; the input reads as it did. -/
def unitsPlayUptoRow : OpenClaim := { program := "ytgfloeclepmdlaa", sum := "8961999596fadda1496e642ae900401ae40b1a4a3ceb96f02fe6fec69683bbe6", func := "spacecraft/spacecraftlaw46.UnitsPlay", spec := "unitsPlay", unfollowed := true, recurses := true, apart := false, narrowed := true }
def UnitsPlayUptoSaid : Prop := unitsPlayUptoRow.holds Try.pinned (OpenSpec.upto unitsPlaySpec)

end Rows
end Go.Proofs.Ytgfloeclepmdlaa

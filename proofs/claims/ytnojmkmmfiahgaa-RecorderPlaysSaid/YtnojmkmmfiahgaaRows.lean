/-
  No cell of these rows narrows 'for every input' (looked for: loops, veiled, ifaces, maps, wideKeys, modest, calm, conditions, laid).
  DERIVED. THE GIVEN ROWS OF THIS SEAT. 5 by the template 'for every input the law returns true; each argument reads behind the call as it read before'; 0 by the template 'total and deterministic' (their statements: YtnojmkmmfiahgaaTotals.lean).
  GIVEN WITH THE SEED: the statements are not yours to turn. If you find one false, say at which input.
  Laid BY PROGRAM, IN A SANDBOX (cutbox-rows.mjs): the forced cells as the released guide's own fill.sh prints them over the translation 3d4d87a5b32bcac4… (all of the seat's roots in one cut). By AI agents, Wed Nov 11 2026. No macro, syntax, notation, axiom, sorry.
-/
import Derived.Test.YtnojmkmmfiahgaaChecked
import GoSem.Claim
import GoSem.ClaimJoined
import GoSem.ClaimMapViews
import Derived.JoinedTies
import Derived.KernelRfl
namespace Go.Proofs.Ytnojmkmmfiahgaa
/- THE CELL 'sum', in the pinned program and in every row, IS THE sha256 OF THE DUMP (.gsa) THAT YtnojmkmmfiahgaaProg.lean LOADS. Nothing in Lean hashes anything: it is a label: what it is worth is what the hold of that sum in a sandbox is worth. -/
noncomputable def Try.pinned : Pinned := { name := "ytnojmkmmfiahgaa", sum := "3d4d87a5b32bcac4d42fd9b02893967bc11aaee77041f12a0eae5214e8cfb922", checked := Try.checked }
namespace Rows
def none {H : Type} : Left H := { results := [], args := [] }

/-- 'spacecraftlaw44.RecorderKeeps': WHATEVER THE INPUT: true; the input reads as it did. -/
def recorderKeepsSpec : ChangeSpec := { name := "recorderKeeps", fn := fun _ => fun
  | [d1, d2, d3] => { results := [.lit (.bool true)], args := [d1, d2, d3] }
  | _ => none }
def recorderKeepsRow : OpenClaim := { program := "ytnojmkmmfiahgaa", sum := "3d4d87a5b32bcac4d42fd9b02893967bc11aaee77041f12a0eae5214e8cfb922", func := "spacecraft/spacecraftlaw44.RecorderKeeps", spec := "recorderKeeps", unfollowed := true, recurses := true, apart := false }
def RecorderKeepsSaid : Prop := recorderKeepsRow.holds Try.pinned (OpenSpec.ofChange recorderKeepsSpec)

/-- ITS FALSE NEIGHBOUR: 'it returns false'. Refute it at one input. -/
def recorderKeepsWrong : ChangeSpec := { name := "recorderKeeps", fn := fun _ => fun
  | [d1, d2, d3] => { results := [.lit (.bool false)], args := [d1, d2, d3] }
  | _ => none }
def RecorderKeepsWrongFalsely : Prop := recorderKeepsRow.holds Try.pinned (OpenSpec.ofChange recorderKeepsWrong)

/-- 'spacecraftlaw44.RecorderTimes': WHATEVER THE INPUT: true; the input reads as it did. -/
def recorderTimesSpec : ChangeSpec := { name := "recorderTimes", fn := fun _ => fun
  | [d1, d2, d3, d4] => { results := [.lit (.bool true)], args := [d1, d2, d3, d4] }
  | _ => none }
def recorderTimesRow : OpenClaim := { program := "ytnojmkmmfiahgaa", sum := "3d4d87a5b32bcac4d42fd9b02893967bc11aaee77041f12a0eae5214e8cfb922", func := "spacecraft/spacecraftlaw44.RecorderTimes", spec := "recorderTimes", unfollowed := true, recurses := true, apart := false }
def RecorderTimesSaid : Prop := recorderTimesRow.holds Try.pinned (OpenSpec.ofChange recorderTimesSpec)

/-- ITS FALSE NEIGHBOUR: 'it returns false'. Refute it at one input. -/
def recorderTimesWrong : ChangeSpec := { name := "recorderTimes", fn := fun _ => fun
  | [d1, d2, d3, d4] => { results := [.lit (.bool false)], args := [d1, d2, d3, d4] }
  | _ => none }
def RecorderTimesWrongFalsely : Prop := recorderTimesRow.holds Try.pinned (OpenSpec.ofChange recorderTimesWrong)

/-- 'spacecraftlaw44.RecorderRanks': WHATEVER THE INPUT: true; the input reads as it did. -/
def recorderRanksSpec : ChangeSpec := { name := "recorderRanks", fn := fun _ => fun
  | [d] => { results := [.lit (.bool true)], args := [d] }
  | _ => none }
def recorderRanksRow : OpenClaim := { program := "ytnojmkmmfiahgaa", sum := "3d4d87a5b32bcac4d42fd9b02893967bc11aaee77041f12a0eae5214e8cfb922", func := "spacecraft/spacecraftlaw44.RecorderRanks", spec := "recorderRanks", unfollowed := true, recurses := true, apart := false }
def RecorderRanksSaid : Prop := recorderRanksRow.holds Try.pinned (OpenSpec.ofChange recorderRanksSpec)

/-- ITS FALSE NEIGHBOUR: 'it returns false'. Refute it at one input. -/
def recorderRanksWrong : ChangeSpec := { name := "recorderRanks", fn := fun _ => fun
  | [d] => { results := [.lit (.bool false)], args := [d] }
  | _ => none }
def RecorderRanksWrongFalsely : Prop := recorderRanksRow.holds Try.pinned (OpenSpec.ofChange recorderRanksWrong)

/-- 'spacecraftlaw44.RecorderPlays': WHATEVER THE INPUT: true; the input reads as it did. -/
def recorderPlaysSpec : ChangeSpec := { name := "recorderPlays", fn := fun _ => fun
  | [d1, d2] => { results := [.lit (.bool true)], args := [d1, d2] }
  | _ => none }
def recorderPlaysRow : OpenClaim := { program := "ytnojmkmmfiahgaa", sum := "3d4d87a5b32bcac4d42fd9b02893967bc11aaee77041f12a0eae5214e8cfb922", func := "spacecraft/spacecraftlaw44.RecorderPlays", spec := "recorderPlays", unfollowed := true, recurses := true, apart := false }
def RecorderPlaysSaid : Prop := recorderPlaysRow.holds Try.pinned (OpenSpec.ofChange recorderPlaysSpec)

/-- ITS FALSE NEIGHBOUR: 'it returns false'. Refute it at one input. -/
def recorderPlaysWrong : ChangeSpec := { name := "recorderPlays", fn := fun _ => fun
  | [d1, d2] => { results := [.lit (.bool false)], args := [d1, d2] }
  | _ => none }
def RecorderPlaysWrongFalsely : Prop := recorderPlaysRow.holds Try.pinned (OpenSpec.ofChange recorderPlaysWrong)

/-- 'spacecraftlaw44.RecorderNil': WHATEVER THE INPUT: true; the input reads as it did. -/
def recorderNilSpec : ChangeSpec := { name := "recorderNil", fn := fun _ => fun
  | [d1, d2, d3] => { results := [.lit (.bool true)], args := [d1, d2, d3] }
  | _ => none }
def recorderNilRow : OpenClaim := { program := "ytnojmkmmfiahgaa", sum := "3d4d87a5b32bcac4d42fd9b02893967bc11aaee77041f12a0eae5214e8cfb922", func := "spacecraft/spacecraftlaw44.RecorderNil", spec := "recorderNil", unfollowed := true, recurses := true, apart := false }
def RecorderNilSaid : Prop := recorderNilRow.holds Try.pinned (OpenSpec.ofChange recorderNilSpec)

/-- ITS FALSE NEIGHBOUR: 'it returns false'. Refute it at one input. -/
def recorderNilWrong : ChangeSpec := { name := "recorderNil", fn := fun _ => fun
  | [d1, d2, d3] => { results := [.lit (.bool false)], args := [d1, d2, d3] }
  | _ => none }
def RecorderNilWrongFalsely : Prop := recorderNilRow.holds Try.pinned (OpenSpec.ofChange recorderNilWrong)

/- THE SECOND FORM. 'bulk': how many values and letters a reading holds, each counted each time it is reached (what is shared counts as often as it is met; a slice's spare places count too). A statement '..UptoSaid' is the law's where the arguments, and the package variables that the reading takes, are together of bulk at most 1048576: NARROWER than '..Said'. Prove '..Said' where nothing that the law and all that it calls make is longer than what came in: it says more and counts as full. Else prove '..UptoSaid'. A law counts once. -/
mutual
def uptoBulk {H : Type} : DataW H → Nat
  | .lit (.string bytes) => bytes.length + 1
  | .lit _ => 1
  | .nil => 1
  | .ptr d => uptoBulk d + 1
  | .slice elems spare => uptoBulkAll elems + uptoBulkAll spare + 1
  | .agg parts => uptoBulkAll parts + 1
  | .iface _ d => uptoBulk d + 1
  | .map entries => uptoBulkEntries entries + 1
  | .held _ => 1
def uptoBulkAll {H : Type} : List (DataW H) → Nat
  | [] => 0
  | d :: r => uptoBulk d + uptoBulkAll r
def uptoBulkEntries {H : Type} : List (Lit × DataW H) → Nat
  | [] => 0
  | x :: r => uptoBulkEntry x + uptoBulkEntries r
def uptoBulkEntry {H : Type} : Lit × DataW H → Nat
  | (.string bytes, d) => bytes.length + uptoBulk d + 1
  | (_, d) => uptoBulk d + 1
 end
def uptoSmall : (H : Type) → List (DataW H) → Bool := fun _ ds => decide (uptoBulkAll ds ≤ 1048576)
def OpenSpec.upto (s : _root_.Go.ChangeSpec) : _root_.Go.OpenSpec := { _root_.Go.OpenSpec.ofChange s with cond := some uptoSmall }

/-- 'spacecraftlaw44.RecorderKeeps', WHERE WHAT IT READS IS OF BULK AT MOST 1048576: true; the input reads as it did. -/
def recorderKeepsUptoRow : OpenClaim := { program := "ytnojmkmmfiahgaa", sum := "3d4d87a5b32bcac4d42fd9b02893967bc11aaee77041f12a0eae5214e8cfb922", func := "spacecraft/spacecraftlaw44.RecorderKeeps", spec := "recorderKeeps", unfollowed := true, recurses := true, apart := false, narrowed := true }
def RecorderKeepsUptoSaid : Prop := recorderKeepsUptoRow.holds Try.pinned (OpenSpec.upto recorderKeepsSpec)

/-- 'spacecraftlaw44.RecorderTimes', WHERE WHAT IT READS IS OF BULK AT MOST 1048576: true; the input reads as it did. -/
def recorderTimesUptoRow : OpenClaim := { program := "ytnojmkmmfiahgaa", sum := "3d4d87a5b32bcac4d42fd9b02893967bc11aaee77041f12a0eae5214e8cfb922", func := "spacecraft/spacecraftlaw44.RecorderTimes", spec := "recorderTimes", unfollowed := true, recurses := true, apart := false, narrowed := true }
def RecorderTimesUptoSaid : Prop := recorderTimesUptoRow.holds Try.pinned (OpenSpec.upto recorderTimesSpec)

/-- 'spacecraftlaw44.RecorderRanks', WHERE WHAT IT READS IS OF BULK AT MOST 1048576: true; the input reads as it did. -/
def recorderRanksUptoRow : OpenClaim := { program := "ytnojmkmmfiahgaa", sum := "3d4d87a5b32bcac4d42fd9b02893967bc11aaee77041f12a0eae5214e8cfb922", func := "spacecraft/spacecraftlaw44.RecorderRanks", spec := "recorderRanks", unfollowed := true, recurses := true, apart := false, narrowed := true }
def RecorderRanksUptoSaid : Prop := recorderRanksUptoRow.holds Try.pinned (OpenSpec.upto recorderRanksSpec)

/-- 'spacecraftlaw44.RecorderPlays', WHERE WHAT IT READS IS OF BULK AT MOST 1048576: true; the input reads as it did. -/
def recorderPlaysUptoRow : OpenClaim := { program := "ytnojmkmmfiahgaa", sum := "3d4d87a5b32bcac4d42fd9b02893967bc11aaee77041f12a0eae5214e8cfb922", func := "spacecraft/spacecraftlaw44.RecorderPlays", spec := "recorderPlays", unfollowed := true, recurses := true, apart := false, narrowed := true }
def RecorderPlaysUptoSaid : Prop := recorderPlaysUptoRow.holds Try.pinned (OpenSpec.upto recorderPlaysSpec)

/-- 'spacecraftlaw44.RecorderNil', WHERE WHAT IT READS IS OF BULK AT MOST 1048576: true; the input reads as it did. -/
def recorderNilUptoRow : OpenClaim := { program := "ytnojmkmmfiahgaa", sum := "3d4d87a5b32bcac4d42fd9b02893967bc11aaee77041f12a0eae5214e8cfb922", func := "spacecraft/spacecraftlaw44.RecorderNil", spec := "recorderNil", unfollowed := true, recurses := true, apart := false, narrowed := true }
def RecorderNilUptoSaid : Prop := recorderNilUptoRow.holds Try.pinned (OpenSpec.upto recorderNilSpec)

end Rows
end Go.Proofs.Ytnojmkmmfiahgaa

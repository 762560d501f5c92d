/-
  No cell of these rows narrows 'for every input' (looked for: loops, veiled, ifaces, maps, wideKeys, modest, calm, conditions, laid).
  DERIVED. THE GIVEN ROWS OF THIS SEAT. 7 by the template 'for every input the law returns true; each argument reads behind the call as it read before'; 0 by the template 'total and deterministic' (their statements: YtkgjbijkjlmomaaTotals.lean).
  GIVEN WITH THE SEED: the statements are not yours to turn. If you find one false, say at which input.
  Laid BY PROGRAM, IN A SANDBOX (cutbox-rows.mjs): the forced cells as the released guide's own fill.sh prints them over the translation 6d14beaf9a84addc… (all of the seat's roots in one cut). By AI agents, Wed Nov 11 2026. No macro, syntax, notation, axiom, sorry.
-/
import Derived.Test.YtkgjbijkjlmomaaChecked
import GoSem.Claim
import GoSem.ClaimJoined
import GoSem.ClaimMapViews
import Derived.JoinedTies
import Derived.KernelRfl
namespace Go.Proofs.Ytkgjbijkjlmomaa
/- THE CELL 'sum', in the pinned program and in every row, IS THE sha256 OF THE DUMP (.gsa) THAT YtkgjbijkjlmomaaProg.lean LOADS. Nothing in Lean hashes anything: it is a label: what it is worth is what the hold of that sum in a sandbox is worth. -/
noncomputable def Try.pinned : Pinned := { name := "ytkgjbijkjlmomaa", sum := "6d14beaf9a84addc3477b3b2b02774900ae323fb127b38f84e302663ded6d71c", checked := Try.checked }
namespace Rows
def none {H : Type} : Left H := { results := [], args := [] }

/-- 'laws.FnExactOpenIncident': WHATEVER THE INPUT: true; the input reads as it did. -/
def fnExactOpenIncidentSpec : ChangeSpec := { name := "fnExactOpenIncident", fn := fun _ => fun
  | [d1, d2] => { results := [.lit (.bool true)], args := [d1, d2] }
  | _ => none }
def fnExactOpenIncidentRow : OpenClaim := { program := "ytkgjbijkjlmomaa", sum := "6d14beaf9a84addc3477b3b2b02774900ae323fb127b38f84e302663ded6d71c", func := "loop.example/g01020/laws.FnExactOpenIncident", spec := "fnExactOpenIncident", unfollowed := true, recurses := true, apart := false }
def FnExactOpenIncidentSaid : Prop := fnExactOpenIncidentRow.holds Try.pinned (OpenSpec.ofChange fnExactOpenIncidentSpec)

/-- ITS FALSE NEIGHBOUR: 'it returns false'. Refute it at one input. -/
def fnExactOpenIncidentWrong : ChangeSpec := { name := "fnExactOpenIncident", fn := fun _ => fun
  | [d1, d2] => { results := [.lit (.bool false)], args := [d1, d2] }
  | _ => none }
def FnExactOpenIncidentWrongFalsely : Prop := fnExactOpenIncidentRow.holds Try.pinned (OpenSpec.ofChange fnExactOpenIncidentWrong)

/-- 'laws.FnExactCloseIncident': WHATEVER THE INPUT: true; the input reads as it did. -/
def fnExactCloseIncidentSpec : ChangeSpec := { name := "fnExactCloseIncident", fn := fun _ => fun
  | [d1, d2] => { results := [.lit (.bool true)], args := [d1, d2] }
  | _ => none }
def fnExactCloseIncidentRow : OpenClaim := { program := "ytkgjbijkjlmomaa", sum := "6d14beaf9a84addc3477b3b2b02774900ae323fb127b38f84e302663ded6d71c", func := "loop.example/g01020/laws.FnExactCloseIncident", spec := "fnExactCloseIncident", unfollowed := true, recurses := true, apart := false }
def FnExactCloseIncidentSaid : Prop := fnExactCloseIncidentRow.holds Try.pinned (OpenSpec.ofChange fnExactCloseIncidentSpec)

/-- ITS FALSE NEIGHBOUR: 'it returns false'. Refute it at one input. -/
def fnExactCloseIncidentWrong : ChangeSpec := { name := "fnExactCloseIncident", fn := fun _ => fun
  | [d1, d2] => { results := [.lit (.bool false)], args := [d1, d2] }
  | _ => none }
def FnExactCloseIncidentWrongFalsely : Prop := fnExactCloseIncidentRow.holds Try.pinned (OpenSpec.ofChange fnExactCloseIncidentWrong)

/-- 'laws.FnExactReleaseFrom': WHATEVER THE INPUT: true; the input reads as it did. -/
def fnExactReleaseFromSpec : ChangeSpec := { name := "fnExactReleaseFrom", fn := fun _ => fun
  | [d1, d2, d3] => { results := [.lit (.bool true)], args := [d1, d2, d3] }
  | _ => none }
def fnExactReleaseFromRow : OpenClaim := { program := "ytkgjbijkjlmomaa", sum := "6d14beaf9a84addc3477b3b2b02774900ae323fb127b38f84e302663ded6d71c", func := "loop.example/g01020/laws.FnExactReleaseFrom", spec := "fnExactReleaseFrom", unfollowed := true, recurses := true, apart := false }
def FnExactReleaseFromSaid : Prop := fnExactReleaseFromRow.holds Try.pinned (OpenSpec.ofChange fnExactReleaseFromSpec)

/-- ITS FALSE NEIGHBOUR: 'it returns false'. Refute it at one input. -/
def fnExactReleaseFromWrong : ChangeSpec := { name := "fnExactReleaseFrom", fn := fun _ => fun
  | [d1, d2, d3] => { results := [.lit (.bool false)], args := [d1, d2, d3] }
  | _ => none }
def FnExactReleaseFromWrongFalsely : Prop := fnExactReleaseFromRow.holds Try.pinned (OpenSpec.ofChange fnExactReleaseFromWrong)

/-- 'laws.FnExactCommit': WHATEVER THE INPUT: true; the input reads as it did. -/
def fnExactCommitSpec : ChangeSpec := { name := "fnExactCommit", fn := fun _ => fun
  | [d1, d2, d3] => { results := [.lit (.bool true)], args := [d1, d2, d3] }
  | _ => none }
def fnExactCommitRow : OpenClaim := { program := "ytkgjbijkjlmomaa", sum := "6d14beaf9a84addc3477b3b2b02774900ae323fb127b38f84e302663ded6d71c", func := "loop.example/g01020/laws.FnExactCommit", spec := "fnExactCommit", inPlace := ["slices.overlaps[string]"], unfollowed := true, recurses := true, apart := false }
def FnExactCommitSaid : Prop := fnExactCommitRow.holds Try.pinned (OpenSpec.ofChange fnExactCommitSpec)

/-- ITS FALSE NEIGHBOUR: 'it returns false'. Refute it at one input. -/
def fnExactCommitWrong : ChangeSpec := { name := "fnExactCommit", fn := fun _ => fun
  | [d1, d2, d3] => { results := [.lit (.bool false)], args := [d1, d2, d3] }
  | _ => none }
def FnExactCommitWrongFalsely : Prop := fnExactCommitRow.holds Try.pinned (OpenSpec.ofChange fnExactCommitWrong)

/-- 'laws.FnExactTransfer': WHATEVER THE INPUT: true; the input reads as it did. -/
def fnExactTransferSpec : ChangeSpec := { name := "fnExactTransfer", fn := fun _ => fun
  | [d1, d2, d3] => { results := [.lit (.bool true)], args := [d1, d2, d3] }
  | _ => none }
def fnExactTransferRow : OpenClaim := { program := "ytkgjbijkjlmomaa", sum := "6d14beaf9a84addc3477b3b2b02774900ae323fb127b38f84e302663ded6d71c", func := "loop.example/g01020/laws.FnExactTransfer", spec := "fnExactTransfer", inPlace := ["slices.overlaps[string]"], unfollowed := true, recurses := true, apart := false }
def FnExactTransferSaid : Prop := fnExactTransferRow.holds Try.pinned (OpenSpec.ofChange fnExactTransferSpec)

/-- ITS FALSE NEIGHBOUR: 'it returns false'. Refute it at one input. -/
def fnExactTransferWrong : ChangeSpec := { name := "fnExactTransfer", fn := fun _ => fun
  | [d1, d2, d3] => { results := [.lit (.bool false)], args := [d1, d2, d3] }
  | _ => none }
def FnExactTransferWrongFalsely : Prop := fnExactTransferRow.holds Try.pinned (OpenSpec.ofChange fnExactTransferWrong)

/-- 'laws.FnExactJoinIncidents': WHATEVER THE INPUT: true; the input reads as it did. -/
def fnExactJoinIncidentsSpec : ChangeSpec := { name := "fnExactJoinIncidents", fn := fun _ => fun
  | [d1, d2, d3] => { results := [.lit (.bool true)], args := [d1, d2, d3] }
  | _ => none }
def fnExactJoinIncidentsRow : OpenClaim := { program := "ytkgjbijkjlmomaa", sum := "6d14beaf9a84addc3477b3b2b02774900ae323fb127b38f84e302663ded6d71c", func := "loop.example/g01020/laws.FnExactJoinIncidents", spec := "fnExactJoinIncidents", inPlace := ["slices.overlaps[string]"], unfollowed := true, recurses := true, apart := false }
def FnExactJoinIncidentsSaid : Prop := fnExactJoinIncidentsRow.holds Try.pinned (OpenSpec.ofChange fnExactJoinIncidentsSpec)

/-- ITS FALSE NEIGHBOUR: 'it returns false'. Refute it at one input. -/
def fnExactJoinIncidentsWrong : ChangeSpec := { name := "fnExactJoinIncidents", fn := fun _ => fun
  | [d1, d2, d3] => { results := [.lit (.bool false)], args := [d1, d2, d3] }
  | _ => none }
def FnExactJoinIncidentsWrongFalsely : Prop := fnExactJoinIncidentsRow.holds Try.pinned (OpenSpec.ofChange fnExactJoinIncidentsWrong)

/-- 'laws.FnExactUnknownNames': WHATEVER THE INPUT: true; the input reads as it did. -/
def fnExactUnknownNamesSpec : ChangeSpec := { name := "fnExactUnknownNames", fn := fun _ => fun
  | [d1, d2] => { results := [.lit (.bool true)], args := [d1, d2] }
  | _ => none }
def fnExactUnknownNamesRow : OpenClaim := { program := "ytkgjbijkjlmomaa", sum := "6d14beaf9a84addc3477b3b2b02774900ae323fb127b38f84e302663ded6d71c", func := "loop.example/g01020/laws.FnExactUnknownNames", spec := "fnExactUnknownNames", unfollowed := true, recurses := true, apart := false }
def FnExactUnknownNamesSaid : Prop := fnExactUnknownNamesRow.holds Try.pinned (OpenSpec.ofChange fnExactUnknownNamesSpec)

/-- ITS FALSE NEIGHBOUR: 'it returns false'. Refute it at one input. -/
def fnExactUnknownNamesWrong : ChangeSpec := { name := "fnExactUnknownNames", fn := fun _ => fun
  | [d1, d2] => { results := [.lit (.bool false)], args := [d1, d2] }
  | _ => none }
def FnExactUnknownNamesWrongFalsely : Prop := fnExactUnknownNamesRow.holds Try.pinned (OpenSpec.ofChange fnExactUnknownNamesWrong)

/- THE SECOND FORM. 'bulk': how many values and letters a reading holds, each counted each time it is reached (what is shared counts as often as it is met; a slice's spare places count too). A statement '..UptoSaid' is the law's where the arguments, and the package variables that the reading takes, are together of bulk at most 1048576: NARROWER than '..Said'. Prove '..Said' where nothing that the law and all that it calls make is longer than what came in: it says more and counts as full. Else prove '..UptoSaid'. A law counts once. -/
mutual
def uptoBulk {H : Type} : DataW H → Nat
  | .lit (.string bytes) => bytes.length + 1
  | .lit _ => 1
  | .nil => 1
  | .ptr d => uptoBulk d + 1
  | .slice elems spare => uptoBulkAll elems + uptoBulkAll spare + 1
  | .agg parts => uptoBulkAll parts + 1
  | .iface _ d => uptoBulk d + 1
  | .map entries => uptoBulkEntries entries + 1
  | .held _ => 1
def uptoBulkAll {H : Type} : List (DataW H) → Nat
  | [] => 0
  | d :: r => uptoBulk d + uptoBulkAll r
def uptoBulkEntries {H : Type} : List (Lit × DataW H) → Nat
  | [] => 0
  | x :: r => uptoBulkEntry x + uptoBulkEntries r
def uptoBulkEntry {H : Type} : Lit × DataW H → Nat
  | (.string bytes, d) => bytes.length + uptoBulk d + 1
  | (_, d) => uptoBulk d + 1
 end
def uptoSmall : (H : Type) → List (DataW H) → Bool := fun _ ds => decide (uptoBulkAll ds ≤ 1048576)
def OpenSpec.upto (s : _root_.Go.ChangeSpec) : _root_.Go.OpenSpec := { _root_.Go.OpenSpec.ofChange s with cond := some uptoSmall }

/-- 'laws.FnExactOpenIncident', WHERE WHAT IT READS IS OF BULK AT MOST 1048576: true; the input reads as it did. -/
def fnExactOpenIncidentUptoRow : OpenClaim := { program := "ytkgjbijkjlmomaa", sum := "6d14beaf9a84addc3477b3b2b02774900ae323fb127b38f84e302663ded6d71c", func := "loop.example/g01020/laws.FnExactOpenIncident", spec := "fnExactOpenIncident", unfollowed := true, recurses := true, apart := false, narrowed := true }
def FnExactOpenIncidentUptoSaid : Prop := fnExactOpenIncidentUptoRow.holds Try.pinned (OpenSpec.upto fnExactOpenIncidentSpec)

/-- 'laws.FnExactCloseIncident', WHERE WHAT IT READS IS OF BULK AT MOST 1048576: true; the input reads as it did. -/
def fnExactCloseIncidentUptoRow : OpenClaim := { program := "ytkgjbijkjlmomaa", sum := "6d14beaf9a84addc3477b3b2b02774900ae323fb127b38f84e302663ded6d71c", func := "loop.example/g01020/laws.FnExactCloseIncident", spec := "fnExactCloseIncident", unfollowed := true, recurses := true, apart := false, narrowed := true }
def FnExactCloseIncidentUptoSaid : Prop := fnExactCloseIncidentUptoRow.holds Try.pinned (OpenSpec.upto fnExactCloseIncidentSpec)

/-- 'laws.FnExactReleaseFrom', WHERE WHAT IT READS IS OF BULK AT MOST 1048576: true; the input reads as it did. -/
def fnExactReleaseFromUptoRow : OpenClaim := { program := "ytkgjbijkjlmomaa", sum := "6d14beaf9a84addc3477b3b2b02774900ae323fb127b38f84e302663ded6d71c", func := "loop.example/g01020/laws.FnExactReleaseFrom", spec := "fnExactReleaseFrom", unfollowed := true, recurses := true, apart := false, narrowed := true }
def FnExactReleaseFromUptoSaid : Prop := fnExactReleaseFromUptoRow.holds Try.pinned (OpenSpec.upto fnExactReleaseFromSpec)

/-- 'laws.FnExactCommit', WHERE WHAT IT READS IS OF BULK AT MOST 1048576: true; the input reads as it did. -/
def fnExactCommitUptoRow : OpenClaim := { program := "ytkgjbijkjlmomaa", sum := "6d14beaf9a84addc3477b3b2b02774900ae323fb127b38f84e302663ded6d71c", func := "loop.example/g01020/laws.FnExactCommit", spec := "fnExactCommit", inPlace := ["slices.overlaps[string]"], unfollowed := true, recurses := true, apart := false, narrowed := true }
def FnExactCommitUptoSaid : Prop := fnExactCommitUptoRow.holds Try.pinned (OpenSpec.upto fnExactCommitSpec)

/-- 'laws.FnExactTransfer', WHERE WHAT IT READS IS OF BULK AT MOST 1048576: true; the input reads as it did. -/
def fnExactTransferUptoRow : OpenClaim := { program := "ytkgjbijkjlmomaa", sum := "6d14beaf9a84addc3477b3b2b02774900ae323fb127b38f84e302663ded6d71c", func := "loop.example/g01020/laws.FnExactTransfer", spec := "fnExactTransfer", inPlace := ["slices.overlaps[string]"], unfollowed := true, recurses := true, apart := false, narrowed := true }
def FnExactTransferUptoSaid : Prop := fnExactTransferUptoRow.holds Try.pinned (OpenSpec.upto fnExactTransferSpec)

/-- 'laws.FnExactJoinIncidents', WHERE WHAT IT READS IS OF BULK AT MOST 1048576: true; the input reads as it did. -/
def fnExactJoinIncidentsUptoRow : OpenClaim := { program := "ytkgjbijkjlmomaa", sum := "6d14beaf9a84addc3477b3b2b02774900ae323fb127b38f84e302663ded6d71c", func := "loop.example/g01020/laws.FnExactJoinIncidents", spec := "fnExactJoinIncidents", inPlace := ["slices.overlaps[string]"], unfollowed := true, recurses := true, apart := false, narrowed := true }
def FnExactJoinIncidentsUptoSaid : Prop := fnExactJoinIncidentsUptoRow.holds Try.pinned (OpenSpec.upto fnExactJoinIncidentsSpec)

/-- 'laws.FnExactUnknownNames', WHERE WHAT IT READS IS OF BULK AT MOST 1048576: true; the input reads as it did. -/
def fnExactUnknownNamesUptoRow : OpenClaim := { program := "ytkgjbijkjlmomaa", sum := "6d14beaf9a84addc3477b3b2b02774900ae323fb127b38f84e302663ded6d71c", func := "loop.example/g01020/laws.FnExactUnknownNames", spec := "fnExactUnknownNames", unfollowed := true, recurses := true, apart := false, narrowed := true }
def FnExactUnknownNamesUptoSaid : Prop := fnExactUnknownNamesUptoRow.holds Try.pinned (OpenSpec.upto fnExactUnknownNamesSpec)

end Rows
end Go.Proofs.Ytkgjbijkjlmomaa

/-
  No cell of these rows narrows 'for every input' (looked for: loops, veiled, ifaces, maps, wideKeys, modest, calm, conditions, laid).
  DERIVED. THE GIVEN ROWS OF THIS SEAT. 6 by the template 'for every input the law returns true; each argument reads behind the call as it read before'; 0 by the template 'total and deterministic' (their statements: YtocpddhlpkdikaaTotals.lean).
  GIVEN WITH THE SEED: the statements are not yours to turn. If you find one false, say at which input.
  Laid BY PROGRAM, IN A SANDBOX (cutbox-rows.mjs): the forced cells as the released guide's own fill.sh prints them over the translation 0c9a8d27c94b51c0… (all of the seat's roots in one cut). By AI agents, Wed Nov 11 2026. No macro, syntax, notation, axiom, sorry.
-/
import Derived.Test.YtocpddhlpkdikaaChecked
import GoSem.Claim
import GoSem.ClaimJoined
import GoSem.ClaimMapViews
import Derived.JoinedTies
import Derived.KernelRfl
namespace Go.Proofs.Ytocpddhlpkdikaa
/- THE CELL 'sum', in the pinned program and in every row, IS THE sha256 OF THE DUMP (.gsa) THAT YtocpddhlpkdikaaProg.lean LOADS. Nothing in Lean hashes anything: it is a label: what it is worth is what the hold of that sum in a sandbox is worth. -/
noncomputable def Try.pinned : Pinned := { name := "ytocpddhlpkdikaa", sum := "0c9a8d27c94b51c0db9afec1905986030afd60780c2e5edce6e77430a889a209", checked := Try.checked }
namespace Rows
def none {H : Type} : Left H := { results := [], args := [] }

/-- 'laws.FnExactIsState': WHATEVER THE INPUT: true; the input reads as it did. -/
def fnExactIsStateSpec : ChangeSpec := { name := "fnExactIsState", fn := fun _ => fun
  | [d] => { results := [.lit (.bool true)], args := [d] }
  | _ => none }
def fnExactIsStateRow : OpenClaim := { program := "ytocpddhlpkdikaa", sum := "0c9a8d27c94b51c0db9afec1905986030afd60780c2e5edce6e77430a889a209", func := "loop.example/g01020/laws.FnExactIsState", spec := "fnExactIsState", apart := false }
def FnExactIsStateSaid : Prop := fnExactIsStateRow.holds Try.pinned (OpenSpec.ofChange fnExactIsStateSpec)

/-- ITS FALSE NEIGHBOUR: 'it returns false'. Refute it at one input. -/
def fnExactIsStateWrong : ChangeSpec := { name := "fnExactIsState", fn := fun _ => fun
  | [d] => { results := [.lit (.bool false)], args := [d] }
  | _ => none }
def FnExactIsStateWrongFalsely : Prop := fnExactIsStateRow.holds Try.pinned (OpenSpec.ofChange fnExactIsStateWrong)

/-- 'laws.FnExactIsIncident': WHATEVER THE INPUT: true; the input reads as it did. -/
def fnExactIsIncidentSpec : ChangeSpec := { name := "fnExactIsIncident", fn := fun _ => fun
  | [d] => { results := [.lit (.bool true)], args := [d] }
  | _ => none }
def fnExactIsIncidentRow : OpenClaim := { program := "ytocpddhlpkdikaa", sum := "0c9a8d27c94b51c0db9afec1905986030afd60780c2e5edce6e77430a889a209", func := "loop.example/g01020/laws.FnExactIsIncident", spec := "fnExactIsIncident", apart := false }
def FnExactIsIncidentSaid : Prop := fnExactIsIncidentRow.holds Try.pinned (OpenSpec.ofChange fnExactIsIncidentSpec)

/-- ITS FALSE NEIGHBOUR: 'it returns false'. Refute it at one input. -/
def fnExactIsIncidentWrong : ChangeSpec := { name := "fnExactIsIncident", fn := fun _ => fun
  | [d] => { results := [.lit (.bool false)], args := [d] }
  | _ => none }
def FnExactIsIncidentWrongFalsely : Prop := fnExactIsIncidentRow.holds Try.pinned (OpenSpec.ofChange fnExactIsIncidentWrong)

/-- 'laws.FnExactAreIncidents': WHATEVER THE INPUT: true; the input reads as it did. -/
def fnExactAreIncidentsSpec : ChangeSpec := { name := "fnExactAreIncidents", fn := fun _ => fun
  | [d] => { results := [.lit (.bool true)], args := [d] }
  | _ => none }
def fnExactAreIncidentsRow : OpenClaim := { program := "ytocpddhlpkdikaa", sum := "0c9a8d27c94b51c0db9afec1905986030afd60780c2e5edce6e77430a889a209", func := "loop.example/g01020/laws.FnExactAreIncidents", spec := "fnExactAreIncidents", unfollowed := true, recurses := true, apart := false }
def FnExactAreIncidentsSaid : Prop := fnExactAreIncidentsRow.holds Try.pinned (OpenSpec.ofChange fnExactAreIncidentsSpec)

/-- ITS FALSE NEIGHBOUR: 'it returns false'. Refute it at one input. -/
def fnExactAreIncidentsWrong : ChangeSpec := { name := "fnExactAreIncidents", fn := fun _ => fun
  | [d] => { results := [.lit (.bool false)], args := [d] }
  | _ => none }
def FnExactAreIncidentsWrongFalsely : Prop := fnExactAreIncidentsRow.holds Try.pinned (OpenSpec.ofChange fnExactAreIncidentsWrong)

/-- 'laws.FnExactCommittedTo': WHATEVER THE INPUT: true; the input reads as it did. -/
def fnExactCommittedToSpec : ChangeSpec := { name := "fnExactCommittedTo", fn := fun _ => fun
  | [d1, d2] => { results := [.lit (.bool true)], args := [d1, d2] }
  | _ => none }
def fnExactCommittedToRow : OpenClaim := { program := "ytocpddhlpkdikaa", sum := "0c9a8d27c94b51c0db9afec1905986030afd60780c2e5edce6e77430a889a209", func := "loop.example/g01020/laws.FnExactCommittedTo", spec := "fnExactCommittedTo", unfollowed := true, recurses := true, apart := false }
def FnExactCommittedToSaid : Prop := fnExactCommittedToRow.holds Try.pinned (OpenSpec.ofChange fnExactCommittedToSpec)

/-- ITS FALSE NEIGHBOUR: 'it returns false'. Refute it at one input. -/
def fnExactCommittedToWrong : ChangeSpec := { name := "fnExactCommittedTo", fn := fun _ => fun
  | [d1, d2] => { results := [.lit (.bool false)], args := [d1, d2] }
  | _ => none }
def FnExactCommittedToWrongFalsely : Prop := fnExactCommittedToRow.holds Try.pinned (OpenSpec.ofChange fnExactCommittedToWrong)

/-- 'laws.FnExactOpenNumbers': WHATEVER THE INPUT: true; the input reads as it did. -/
def fnExactOpenNumbersSpec : ChangeSpec := { name := "fnExactOpenNumbers", fn := fun _ => fun
  | [d] => { results := [.lit (.bool true)], args := [d] }
  | _ => none }
def fnExactOpenNumbersRow : OpenClaim := { program := "ytocpddhlpkdikaa", sum := "0c9a8d27c94b51c0db9afec1905986030afd60780c2e5edce6e77430a889a209", func := "loop.example/g01020/laws.FnExactOpenNumbers", spec := "fnExactOpenNumbers", unfollowed := true, recurses := true, apart := false }
def FnExactOpenNumbersSaid : Prop := fnExactOpenNumbersRow.holds Try.pinned (OpenSpec.ofChange fnExactOpenNumbersSpec)

/-- ITS FALSE NEIGHBOUR: 'it returns false'. Refute it at one input. -/
def fnExactOpenNumbersWrong : ChangeSpec := { name := "fnExactOpenNumbers", fn := fun _ => fun
  | [d] => { results := [.lit (.bool false)], args := [d] }
  | _ => none }
def FnExactOpenNumbersWrongFalsely : Prop := fnExactOpenNumbersRow.holds Try.pinned (OpenSpec.ofChange fnExactOpenNumbersWrong)

/-- 'laws.FnExactFreeNames': WHATEVER THE INPUT: true; the input reads as it did. -/
def fnExactFreeNamesSpec : ChangeSpec := { name := "fnExactFreeNames", fn := fun _ => fun
  | [d1, d2] => { results := [.lit (.bool true)], args := [d1, d2] }
  | _ => none }
def fnExactFreeNamesRow : OpenClaim := { program := "ytocpddhlpkdikaa", sum := "0c9a8d27c94b51c0db9afec1905986030afd60780c2e5edce6e77430a889a209", func := "loop.example/g01020/laws.FnExactFreeNames", spec := "fnExactFreeNames", unfollowed := true, recurses := true, apart := false }
def FnExactFreeNamesSaid : Prop := fnExactFreeNamesRow.holds Try.pinned (OpenSpec.ofChange fnExactFreeNamesSpec)

/-- ITS FALSE NEIGHBOUR: 'it returns false'. Refute it at one input. -/
def fnExactFreeNamesWrong : ChangeSpec := { name := "fnExactFreeNames", fn := fun _ => fun
  | [d1, d2] => { results := [.lit (.bool false)], args := [d1, d2] }
  | _ => none }
def FnExactFreeNamesWrongFalsely : Prop := fnExactFreeNamesRow.holds Try.pinned (OpenSpec.ofChange fnExactFreeNamesWrong)

/- THE SECOND FORM. 'bulk': how many values and letters a reading holds, each counted each time it is reached (what is shared counts as often as it is met; a slice's spare places count too). A statement '..UptoSaid' is the law's where the arguments, and the package variables that the reading takes, are together of bulk at most 1048576: NARROWER than '..Said'. Prove '..Said' where nothing that the law and all that it calls make is longer than what came in: it says more and counts as full. Else prove '..UptoSaid'. A law counts once. -/
mutual
def uptoBulk {H : Type} : DataW H → Nat
  | .lit (.string bytes) => bytes.length + 1
  | .lit _ => 1
  | .nil => 1
  | .ptr d => uptoBulk d + 1
  | .slice elems spare => uptoBulkAll elems + uptoBulkAll spare + 1
  | .agg parts => uptoBulkAll parts + 1
  | .iface _ d => uptoBulk d + 1
  | .map entries => uptoBulkEntries entries + 1
  | .held _ => 1
def uptoBulkAll {H : Type} : List (DataW H) → Nat
  | [] => 0
  | d :: r => uptoBulk d + uptoBulkAll r
def uptoBulkEntries {H : Type} : List (Lit × DataW H) → Nat
  | [] => 0
  | x :: r => uptoBulkEntry x + uptoBulkEntries r
def uptoBulkEntry {H : Type} : Lit × DataW H → Nat
  | (.string bytes, d) => bytes.length + uptoBulk d + 1
  | (_, d) => uptoBulk d + 1
 end
def uptoSmall : (H : Type) → List (DataW H) → Bool := fun _ ds => decide (uptoBulkAll ds ≤ 1048576)
def OpenSpec.upto (s : _root_.Go.ChangeSpec) : _root_.Go.OpenSpec := { _root_.Go.OpenSpec.ofChange s with cond := some uptoSmall }

/-- 'laws.FnExactIsState', WHERE WHAT IT READS IS OF BULK AT MOST 1048576: true; the input reads as it did. -/
def fnExactIsStateUptoRow : OpenClaim := { program := "ytocpddhlpkdikaa", sum := "0c9a8d27c94b51c0db9afec1905986030afd60780c2e5edce6e77430a889a209", func := "loop.example/g01020/laws.FnExactIsState", spec := "fnExactIsState", apart := false, narrowed := true }
def FnExactIsStateUptoSaid : Prop := fnExactIsStateUptoRow.holds Try.pinned (OpenSpec.upto fnExactIsStateSpec)

/-- 'laws.FnExactIsIncident', WHERE WHAT IT READS IS OF BULK AT MOST 1048576: true; the input reads as it did. -/
def fnExactIsIncidentUptoRow : OpenClaim := { program := "ytocpddhlpkdikaa", sum := "0c9a8d27c94b51c0db9afec1905986030afd60780c2e5edce6e77430a889a209", func := "loop.example/g01020/laws.FnExactIsIncident", spec := "fnExactIsIncident", apart := false, narrowed := true }
def FnExactIsIncidentUptoSaid : Prop := fnExactIsIncidentUptoRow.holds Try.pinned (OpenSpec.upto fnExactIsIncidentSpec)

/-- 'laws.FnExactAreIncidents', WHERE WHAT IT READS IS OF BULK AT MOST 1048576: true; the input reads as it did. -/
def fnExactAreIncidentsUptoRow : OpenClaim := { program := "ytocpddhlpkdikaa", sum := "0c9a8d27c94b51c0db9afec1905986030afd60780c2e5edce6e77430a889a209", func := "loop.example/g01020/laws.FnExactAreIncidents", spec := "fnExactAreIncidents", unfollowed := true, recurses := true, apart := false, narrowed := true }
def FnExactAreIncidentsUptoSaid : Prop := fnExactAreIncidentsUptoRow.holds Try.pinned (OpenSpec.upto fnExactAreIncidentsSpec)

/-- 'laws.FnExactCommittedTo', WHERE WHAT IT READS IS OF BULK AT MOST 1048576: true; the input reads as it did. -/
def fnExactCommittedToUptoRow : OpenClaim := { program := "ytocpddhlpkdikaa", sum := "0c9a8d27c94b51c0db9afec1905986030afd60780c2e5edce6e77430a889a209", func := "loop.example/g01020/laws.FnExactCommittedTo", spec := "fnExactCommittedTo", unfollowed := true, recurses := true, apart := false, narrowed := true }
def FnExactCommittedToUptoSaid : Prop := fnExactCommittedToUptoRow.holds Try.pinned (OpenSpec.upto fnExactCommittedToSpec)

/-- 'laws.FnExactOpenNumbers', WHERE WHAT IT READS IS OF BULK AT MOST 1048576: true; the input reads as it did. -/
def fnExactOpenNumbersUptoRow : OpenClaim := { program := "ytocpddhlpkdikaa", sum := "0c9a8d27c94b51c0db9afec1905986030afd60780c2e5edce6e77430a889a209", func := "loop.example/g01020/laws.FnExactOpenNumbers", spec := "fnExactOpenNumbers", unfollowed := true, recurses := true, apart := false, narrowed := true }
def FnExactOpenNumbersUptoSaid : Prop := fnExactOpenNumbersUptoRow.holds Try.pinned (OpenSpec.upto fnExactOpenNumbersSpec)

/-- 'laws.FnExactFreeNames', WHERE WHAT IT READS IS OF BULK AT MOST 1048576: true; the input reads as it did. -/
def fnExactFreeNamesUptoRow : OpenClaim := { program := "ytocpddhlpkdikaa", sum := "0c9a8d27c94b51c0db9afec1905986030afd60780c2e5edce6e77430a889a209", func := "loop.example/g01020/laws.FnExactFreeNames", spec := "fnExactFreeNames", unfollowed := true, recurses := true, apart := false, narrowed := true }
def FnExactFreeNamesUptoSaid : Prop := fnExactFreeNamesUptoRow.holds Try.pinned (OpenSpec.upto fnExactFreeNamesSpec)

end Rows
end Go.Proofs.Ytocpddhlpkdikaa

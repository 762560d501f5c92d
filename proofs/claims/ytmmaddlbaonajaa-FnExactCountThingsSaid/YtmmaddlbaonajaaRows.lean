/-
  No cell of these rows narrows 'for every input' (looked for: loops, veiled, ifaces, maps, wideKeys, modest, calm, conditions, laid).
  DERIVED. THE GIVEN ROWS OF THIS SEAT. 10 by the template 'for every input the law returns true; each argument reads behind the call as it read before'; 0 by the template 'total and deterministic' (their statements: YtmmaddlbaonajaaTotals.lean).
  GIVEN WITH THE SEED: the statements are not yours to turn. If you find one false, say at which input.
  Laid BY PROGRAM, IN A SANDBOX (cutbox-rows.mjs): the forced cells as the released guide's own fill.sh prints them over the translation 93b9b5379a9c667a… (all of the seat's roots in one cut). By AI agents, Wed Nov 11 2026. No macro, syntax, notation, axiom, sorry.
-/
import Derived.Test.YtmmaddlbaonajaaChecked
import GoSem.Claim
import GoSem.ClaimJoined
import GoSem.ClaimMapViews
import Derived.JoinedTies
import Derived.KernelRfl
namespace Go.Proofs.Ytmmaddlbaonajaa
/- THE CELL 'sum', in the pinned program and in every row, IS THE sha256 OF THE DUMP (.gsa) THAT YtmmaddlbaonajaaProg.lean LOADS. Nothing in Lean hashes anything: it is a label: what it is worth is what the hold of that sum in a sandbox is worth. -/
noncomputable def Try.pinned : Pinned := { name := "ytmmaddlbaonajaa", sum := "93b9b5379a9c667a18d256202351f77a8442a2418ed11d32fd0f72030d8861ab", checked := Try.checked }
namespace Rows
def none {H : Type} : Left H := { results := [], args := [] }

/-- 'laws.FnExactAreThings': WHATEVER THE INPUT: true; the input reads as it did. -/
def fnExactAreThingsSpec : ChangeSpec := { name := "fnExactAreThings", fn := fun _ => fun
  | [d] => { results := [.lit (.bool true)], args := [d] }
  | _ => none }
def fnExactAreThingsRow : OpenClaim := { program := "ytmmaddlbaonajaa", sum := "93b9b5379a9c667a18d256202351f77a8442a2418ed11d32fd0f72030d8861ab", func := "loop.example/g01020/laws.FnExactAreThings", spec := "fnExactAreThings", apart := false }
def FnExactAreThingsSaid : Prop := fnExactAreThingsRow.holds Try.pinned (OpenSpec.ofChange fnExactAreThingsSpec)

/-- ITS FALSE NEIGHBOUR: 'it returns false'. Refute it at one input. -/
def fnExactAreThingsWrong : ChangeSpec := { name := "fnExactAreThings", fn := fun _ => fun
  | [d] => { results := [.lit (.bool false)], args := [d] }
  | _ => none }
def FnExactAreThingsWrongFalsely : Prop := fnExactAreThingsRow.holds Try.pinned (OpenSpec.ofChange fnExactAreThingsWrong)

/-- 'laws.FnExactIsLoad': WHATEVER THE INPUT: true; the input reads as it did. -/
def fnExactIsLoadSpec : ChangeSpec := { name := "fnExactIsLoad", fn := fun _ => fun
  | [d] => { results := [.lit (.bool true)], args := [d] }
  | _ => none }
def fnExactIsLoadRow : OpenClaim := { program := "ytmmaddlbaonajaa", sum := "93b9b5379a9c667a18d256202351f77a8442a2418ed11d32fd0f72030d8861ab", func := "loop.example/g01020/laws.FnExactIsLoad", spec := "fnExactIsLoad", apart := false }
def FnExactIsLoadSaid : Prop := fnExactIsLoadRow.holds Try.pinned (OpenSpec.ofChange fnExactIsLoadSpec)

/-- ITS FALSE NEIGHBOUR: 'it returns false'. Refute it at one input. -/
def fnExactIsLoadWrong : ChangeSpec := { name := "fnExactIsLoad", fn := fun _ => fun
  | [d] => { results := [.lit (.bool false)], args := [d] }
  | _ => none }
def FnExactIsLoadWrongFalsely : Prop := fnExactIsLoadRow.holds Try.pinned (OpenSpec.ofChange fnExactIsLoadWrong)

/-- 'laws.FnExactSpareThings': WHATEVER THE INPUT: true; the input reads as it did. -/
def fnExactSpareThingsSpec : ChangeSpec := { name := "fnExactSpareThings", fn := fun _ => fun
  | [d1, d2] => { results := [.lit (.bool true)], args := [d1, d2] }
  | _ => none }
def fnExactSpareThingsRow : OpenClaim := { program := "ytmmaddlbaonajaa", sum := "93b9b5379a9c667a18d256202351f77a8442a2418ed11d32fd0f72030d8861ab", func := "loop.example/g01020/laws.FnExactSpareThings", spec := "fnExactSpareThings", unfollowed := true, recurses := true, apart := false }
def FnExactSpareThingsSaid : Prop := fnExactSpareThingsRow.holds Try.pinned (OpenSpec.ofChange fnExactSpareThingsSpec)

/-- ITS FALSE NEIGHBOUR: 'it returns false'. Refute it at one input. -/
def fnExactSpareThingsWrong : ChangeSpec := { name := "fnExactSpareThings", fn := fun _ => fun
  | [d1, d2] => { results := [.lit (.bool false)], args := [d1, d2] }
  | _ => none }
def FnExactSpareThingsWrongFalsely : Prop := fnExactSpareThingsRow.holds Try.pinned (OpenSpec.ofChange fnExactSpareThingsWrong)

/-- 'laws.FnExactMissingThings': WHATEVER THE INPUT: true; the input reads as it did. -/
def fnExactMissingThingsSpec : ChangeSpec := { name := "fnExactMissingThings", fn := fun _ => fun
  | [d1, d2] => { results := [.lit (.bool true)], args := [d1, d2] }
  | _ => none }
def fnExactMissingThingsRow : OpenClaim := { program := "ytmmaddlbaonajaa", sum := "93b9b5379a9c667a18d256202351f77a8442a2418ed11d32fd0f72030d8861ab", func := "loop.example/g01020/laws.FnExactMissingThings", spec := "fnExactMissingThings", unfollowed := true, recurses := true, apart := false }
def FnExactMissingThingsSaid : Prop := fnExactMissingThingsRow.holds Try.pinned (OpenSpec.ofChange fnExactMissingThingsSpec)

/-- ITS FALSE NEIGHBOUR: 'it returns false'. Refute it at one input. -/
def fnExactMissingThingsWrong : ChangeSpec := { name := "fnExactMissingThings", fn := fun _ => fun
  | [d1, d2] => { results := [.lit (.bool false)], args := [d1, d2] }
  | _ => none }
def FnExactMissingThingsWrongFalsely : Prop := fnExactMissingThingsRow.holds Try.pinned (OpenSpec.ofChange fnExactMissingThingsWrong)

/-- 'laws.FnExactDueThings': WHATEVER THE INPUT: true; the input reads as it did. -/
def fnExactDueThingsSpec : ChangeSpec := { name := "fnExactDueThings", fn := fun _ => fun
  | [d1, d2, d3] => { results := [.lit (.bool true)], args := [d1, d2, d3] }
  | _ => none }
def fnExactDueThingsRow : OpenClaim := { program := "ytmmaddlbaonajaa", sum := "93b9b5379a9c667a18d256202351f77a8442a2418ed11d32fd0f72030d8861ab", func := "loop.example/g01020/laws.FnExactDueThings", spec := "fnExactDueThings", apart := false }
def FnExactDueThingsSaid : Prop := fnExactDueThingsRow.holds Try.pinned (OpenSpec.ofChange fnExactDueThingsSpec)

/-- ITS FALSE NEIGHBOUR: 'it returns false'. Refute it at one input. -/
def fnExactDueThingsWrong : ChangeSpec := { name := "fnExactDueThings", fn := fun _ => fun
  | [d1, d2, d3] => { results := [.lit (.bool false)], args := [d1, d2, d3] }
  | _ => none }
def FnExactDueThingsWrongFalsely : Prop := fnExactDueThingsRow.holds Try.pinned (OpenSpec.ofChange fnExactDueThingsWrong)

/-- 'laws.FnExactCountThings': WHATEVER THE INPUT: true; the input reads as it did. -/
def fnExactCountThingsSpec : ChangeSpec := { name := "fnExactCountThings", fn := fun _ => fun
  | [d1, d2] => { results := [.lit (.bool true)], args := [d1, d2] }
  | _ => none }
def fnExactCountThingsRow : OpenClaim := { program := "ytmmaddlbaonajaa", sum := "93b9b5379a9c667a18d256202351f77a8442a2418ed11d32fd0f72030d8861ab", func := "loop.example/g01020/laws.FnExactCountThings", spec := "fnExactCountThings", unfollowed := true, recurses := true, apart := false }
def FnExactCountThingsSaid : Prop := fnExactCountThingsRow.holds Try.pinned (OpenSpec.ofChange fnExactCountThingsSpec)

/-- ITS FALSE NEIGHBOUR: 'it returns false'. Refute it at one input. -/
def fnExactCountThingsWrong : ChangeSpec := { name := "fnExactCountThings", fn := fun _ => fun
  | [d1, d2] => { results := [.lit (.bool false)], args := [d1, d2] }
  | _ => none }
def FnExactCountThingsWrongFalsely : Prop := fnExactCountThingsRow.holds Try.pinned (OpenSpec.ofChange fnExactCountThingsWrong)

/-- 'laws.FnExactCheckThing': WHATEVER THE INPUT: true; the input reads as it did. -/
def fnExactCheckThingSpec : ChangeSpec := { name := "fnExactCheckThing", fn := fun _ => fun
  | [d1, d2, d3] => { results := [.lit (.bool true)], args := [d1, d2, d3] }
  | _ => none }
def fnExactCheckThingRow : OpenClaim := { program := "ytmmaddlbaonajaa", sum := "93b9b5379a9c667a18d256202351f77a8442a2418ed11d32fd0f72030d8861ab", func := "loop.example/g01020/laws.FnExactCheckThing", spec := "fnExactCheckThing", unfollowed := true, recurses := true, apart := false }
def FnExactCheckThingSaid : Prop := fnExactCheckThingRow.holds Try.pinned (OpenSpec.ofChange fnExactCheckThingSpec)

/-- ITS FALSE NEIGHBOUR: 'it returns false'. Refute it at one input. -/
def fnExactCheckThingWrong : ChangeSpec := { name := "fnExactCheckThing", fn := fun _ => fun
  | [d1, d2, d3] => { results := [.lit (.bool false)], args := [d1, d2, d3] }
  | _ => none }
def FnExactCheckThingWrongFalsely : Prop := fnExactCheckThingRow.holds Try.pinned (OpenSpec.ofChange fnExactCheckThingWrong)

/-- 'laws.FnExactMoveThing': WHATEVER THE INPUT: true; the input reads as it did. -/
def fnExactMoveThingSpec : ChangeSpec := { name := "fnExactMoveThing", fn := fun _ => fun
  | [d1, d2, d3, d4] => { results := [.lit (.bool true)], args := [d1, d2, d3, d4] }
  | _ => none }
def fnExactMoveThingRow : OpenClaim := { program := "ytmmaddlbaonajaa", sum := "93b9b5379a9c667a18d256202351f77a8442a2418ed11d32fd0f72030d8861ab", func := "loop.example/g01020/laws.FnExactMoveThing", spec := "fnExactMoveThing", inPlace := ["internal/bytealg.abigen_runtime_cmpstring", "slices.overlaps[loop.example/g01020/impl.Thing]"], unfollowed := true, recurses := true, apart := false }
def FnExactMoveThingSaid : Prop := fnExactMoveThingRow.holds Try.pinned (OpenSpec.ofChange fnExactMoveThingSpec)

/-- ITS FALSE NEIGHBOUR: 'it returns false'. Refute it at one input. -/
def fnExactMoveThingWrong : ChangeSpec := { name := "fnExactMoveThing", fn := fun _ => fun
  | [d1, d2, d3, d4] => { results := [.lit (.bool false)], args := [d1, d2, d3, d4] }
  | _ => none }
def FnExactMoveThingWrongFalsely : Prop := fnExactMoveThingRow.holds Try.pinned (OpenSpec.ofChange fnExactMoveThingWrong)

/-- 'laws.FnExactCanFill': WHATEVER THE INPUT: true; the input reads as it did. -/
def fnExactCanFillSpec : ChangeSpec := { name := "fnExactCanFill", fn := fun _ => fun
  | [d1, d2, d3] => { results := [.lit (.bool true)], args := [d1, d2, d3] }
  | _ => none }
def fnExactCanFillRow : OpenClaim := { program := "ytmmaddlbaonajaa", sum := "93b9b5379a9c667a18d256202351f77a8442a2418ed11d32fd0f72030d8861ab", func := "loop.example/g01020/laws.FnExactCanFill", spec := "fnExactCanFill", inPlace := ["internal/bytealg.abigen_runtime_cmpstring", "slices.overlaps[loop.example/g01020/impl.Thing]"], unfollowed := true, recurses := true, apart := false }
def FnExactCanFillSaid : Prop := fnExactCanFillRow.holds Try.pinned (OpenSpec.ofChange fnExactCanFillSpec)

/-- ITS FALSE NEIGHBOUR: 'it returns false'. Refute it at one input. -/
def fnExactCanFillWrong : ChangeSpec := { name := "fnExactCanFill", fn := fun _ => fun
  | [d1, d2, d3] => { results := [.lit (.bool false)], args := [d1, d2, d3] }
  | _ => none }
def FnExactCanFillWrongFalsely : Prop := fnExactCanFillRow.holds Try.pinned (OpenSpec.ofChange fnExactCanFillWrong)

/-- 'laws.FnExactFillFrom': WHATEVER THE INPUT: true; the input reads as it did. -/
def fnExactFillFromSpec : ChangeSpec := { name := "fnExactFillFrom", fn := fun _ => fun
  | [d1, d2, d3] => { results := [.lit (.bool true)], args := [d1, d2, d3] }
  | _ => none }
def fnExactFillFromRow : OpenClaim := { program := "ytmmaddlbaonajaa", sum := "93b9b5379a9c667a18d256202351f77a8442a2418ed11d32fd0f72030d8861ab", func := "loop.example/g01020/laws.FnExactFillFrom", spec := "fnExactFillFrom", inPlace := ["internal/bytealg.abigen_runtime_cmpstring", "slices.overlaps[loop.example/g01020/impl.Thing]"], unfollowed := true, recurses := true, apart := false }
def FnExactFillFromSaid : Prop := fnExactFillFromRow.holds Try.pinned (OpenSpec.ofChange fnExactFillFromSpec)

/-- ITS FALSE NEIGHBOUR: 'it returns false'. Refute it at one input. -/
def fnExactFillFromWrong : ChangeSpec := { name := "fnExactFillFrom", fn := fun _ => fun
  | [d1, d2, d3] => { results := [.lit (.bool false)], args := [d1, d2, d3] }
  | _ => none }
def FnExactFillFromWrongFalsely : Prop := fnExactFillFromRow.holds Try.pinned (OpenSpec.ofChange fnExactFillFromWrong)

/- THE SECOND FORM. 'bulk': how many values and letters a reading holds, each counted each time it is reached (what is shared counts as often as it is met; a slice's spare places count too). A statement '..UptoSaid' is the law's where the arguments, and the package variables that the reading takes, are together of bulk at most 1048576: NARROWER than '..Said'. Prove '..Said' where nothing that the law and all that it calls make is longer than what came in: it says more and counts as full. Else prove '..UptoSaid'. A law counts once. -/
mutual
def uptoBulk {H : Type} : DataW H → Nat
  | .lit (.string bytes) => bytes.length + 1
  | .lit _ => 1
  | .nil => 1
  | .ptr d => uptoBulk d + 1
  | .slice elems spare => uptoBulkAll elems + uptoBulkAll spare + 1
  | .agg parts => uptoBulkAll parts + 1
  | .iface _ d => uptoBulk d + 1
  | .map entries => uptoBulkEntries entries + 1
  | .held _ => 1
def uptoBulkAll {H : Type} : List (DataW H) → Nat
  | [] => 0
  | d :: r => uptoBulk d + uptoBulkAll r
def uptoBulkEntries {H : Type} : List (Lit × DataW H) → Nat
  | [] => 0
  | x :: r => uptoBulkEntry x + uptoBulkEntries r
def uptoBulkEntry {H : Type} : Lit × DataW H → Nat
  | (.string bytes, d) => bytes.length + uptoBulk d + 1
  | (_, d) => uptoBulk d + 1
 end
def uptoSmall : (H : Type) → List (DataW H) → Bool := fun _ ds => decide (uptoBulkAll ds ≤ 1048576)
def OpenSpec.upto (s : _root_.Go.ChangeSpec) : _root_.Go.OpenSpec := { _root_.Go.OpenSpec.ofChange s with cond := some uptoSmall }

/-- 'laws.FnExactAreThings', WHERE WHAT IT READS IS OF BULK AT MOST 1048576: true; the input reads as it did. -/
def fnExactAreThingsUptoRow : OpenClaim := { program := "ytmmaddlbaonajaa", sum := "93b9b5379a9c667a18d256202351f77a8442a2418ed11d32fd0f72030d8861ab", func := "loop.example/g01020/laws.FnExactAreThings", spec := "fnExactAreThings", apart := false, narrowed := true }
def FnExactAreThingsUptoSaid : Prop := fnExactAreThingsUptoRow.holds Try.pinned (OpenSpec.upto fnExactAreThingsSpec)

/-- 'laws.FnExactIsLoad', WHERE WHAT IT READS IS OF BULK AT MOST 1048576: true; the input reads as it did. -/
def fnExactIsLoadUptoRow : OpenClaim := { program := "ytmmaddlbaonajaa", sum := "93b9b5379a9c667a18d256202351f77a8442a2418ed11d32fd0f72030d8861ab", func := "loop.example/g01020/laws.FnExactIsLoad", spec := "fnExactIsLoad", apart := false, narrowed := true }
def FnExactIsLoadUptoSaid : Prop := fnExactIsLoadUptoRow.holds Try.pinned (OpenSpec.upto fnExactIsLoadSpec)

/-- 'laws.FnExactSpareThings', WHERE WHAT IT READS IS OF BULK AT MOST 1048576: true; the input reads as it did. -/
def fnExactSpareThingsUptoRow : OpenClaim := { program := "ytmmaddlbaonajaa", sum := "93b9b5379a9c667a18d256202351f77a8442a2418ed11d32fd0f72030d8861ab", func := "loop.example/g01020/laws.FnExactSpareThings", spec := "fnExactSpareThings", unfollowed := true, recurses := true, apart := false, narrowed := true }
def FnExactSpareThingsUptoSaid : Prop := fnExactSpareThingsUptoRow.holds Try.pinned (OpenSpec.upto fnExactSpareThingsSpec)

/-- 'laws.FnExactMissingThings', WHERE WHAT IT READS IS OF BULK AT MOST 1048576: true; the input reads as it did. -/
def fnExactMissingThingsUptoRow : OpenClaim := { program := "ytmmaddlbaonajaa", sum := "93b9b5379a9c667a18d256202351f77a8442a2418ed11d32fd0f72030d8861ab", func := "loop.example/g01020/laws.FnExactMissingThings", spec := "fnExactMissingThings", unfollowed := true, recurses := true, apart := false, narrowed := true }
def FnExactMissingThingsUptoSaid : Prop := fnExactMissingThingsUptoRow.holds Try.pinned (OpenSpec.upto fnExactMissingThingsSpec)

/-- 'laws.FnExactDueThings', WHERE WHAT IT READS IS OF BULK AT MOST 1048576: true; the input reads as it did. -/
def fnExactDueThingsUptoRow : OpenClaim := { program := "ytmmaddlbaonajaa", sum := "93b9b5379a9c667a18d256202351f77a8442a2418ed11d32fd0f72030d8861ab", func := "loop.example/g01020/laws.FnExactDueThings", spec := "fnExactDueThings", apart := false, narrowed := true }
def FnExactDueThingsUptoSaid : Prop := fnExactDueThingsUptoRow.holds Try.pinned (OpenSpec.upto fnExactDueThingsSpec)

/-- 'laws.FnExactCountThings', WHERE WHAT IT READS IS OF BULK AT MOST 1048576: true; the input reads as it did. -/
def fnExactCountThingsUptoRow : OpenClaim := { program := "ytmmaddlbaonajaa", sum := "93b9b5379a9c667a18d256202351f77a8442a2418ed11d32fd0f72030d8861ab", func := "loop.example/g01020/laws.FnExactCountThings", spec := "fnExactCountThings", unfollowed := true, recurses := true, apart := false, narrowed := true }
def FnExactCountThingsUptoSaid : Prop := fnExactCountThingsUptoRow.holds Try.pinned (OpenSpec.upto fnExactCountThingsSpec)

/-- 'laws.FnExactCheckThing', WHERE WHAT IT READS IS OF BULK AT MOST 1048576: true; the input reads as it did. -/
def fnExactCheckThingUptoRow : OpenClaim := { program := "ytmmaddlbaonajaa", sum := "93b9b5379a9c667a18d256202351f77a8442a2418ed11d32fd0f72030d8861ab", func := "loop.example/g01020/laws.FnExactCheckThing", spec := "fnExactCheckThing", unfollowed := true, recurses := true, apart := false, narrowed := true }
def FnExactCheckThingUptoSaid : Prop := fnExactCheckThingUptoRow.holds Try.pinned (OpenSpec.upto fnExactCheckThingSpec)

/-- 'laws.FnExactMoveThing', WHERE WHAT IT READS IS OF BULK AT MOST 1048576: true; the input reads as it did. -/
def fnExactMoveThingUptoRow : OpenClaim := { program := "ytmmaddlbaonajaa", sum := "93b9b5379a9c667a18d256202351f77a8442a2418ed11d32fd0f72030d8861ab", func := "loop.example/g01020/laws.FnExactMoveThing", spec := "fnExactMoveThing", inPlace := ["internal/bytealg.abigen_runtime_cmpstring", "slices.overlaps[loop.example/g01020/impl.Thing]"], unfollowed := true, recurses := true, apart := false, narrowed := true }
def FnExactMoveThingUptoSaid : Prop := fnExactMoveThingUptoRow.holds Try.pinned (OpenSpec.upto fnExactMoveThingSpec)

/-- 'laws.FnExactCanFill', WHERE WHAT IT READS IS OF BULK AT MOST 1048576: true; the input reads as it did. -/
def fnExactCanFillUptoRow : OpenClaim := { program := "ytmmaddlbaonajaa", sum := "93b9b5379a9c667a18d256202351f77a8442a2418ed11d32fd0f72030d8861ab", func := "loop.example/g01020/laws.FnExactCanFill", spec := "fnExactCanFill", inPlace := ["internal/bytealg.abigen_runtime_cmpstring", "slices.overlaps[loop.example/g01020/impl.Thing]"], unfollowed := true, recurses := true, apart := false, narrowed := true }
def FnExactCanFillUptoSaid : Prop := fnExactCanFillUptoRow.holds Try.pinned (OpenSpec.upto fnExactCanFillSpec)

/-- 'laws.FnExactFillFrom', WHERE WHAT IT READS IS OF BULK AT MOST 1048576: true; the input reads as it did. -/
def fnExactFillFromUptoRow : OpenClaim := { program := "ytmmaddlbaonajaa", sum := "93b9b5379a9c667a18d256202351f77a8442a2418ed11d32fd0f72030d8861ab", func := "loop.example/g01020/laws.FnExactFillFrom", spec := "fnExactFillFrom", inPlace := ["internal/bytealg.abigen_runtime_cmpstring", "slices.overlaps[loop.example/g01020/impl.Thing]"], unfollowed := true, recurses := true, apart := false, narrowed := true }
def FnExactFillFromUptoSaid : Prop := fnExactFillFromUptoRow.holds Try.pinned (OpenSpec.upto fnExactFillFromSpec)

end Rows
end Go.Proofs.Ytmmaddlbaonajaa

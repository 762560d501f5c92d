/-
  No cell of these rows narrows 'for every input' (looked for: loops, veiled, ifaces, maps, wideKeys, modest, calm, conditions, laid).
  DERIVED. THE GIVEN ROWS OF THIS SEAT. 3 by the template 'for every input the law returns true; each argument reads behind the call as it read before'; 0 by the template 'total and deterministic' (their statements: YtokcgjjnljflaaaTotals.lean).
  GIVEN WITH THE SEED: the statements are not yours to turn. If you find one false, say at which input.
  Laid BY PROGRAM, IN A SANDBOX (cutbox-rows.mjs): the forced cells as the released guide's own fill.sh prints them over the translation 433077e5f0154a02… (all of the seat's roots in one cut). By AI agents, Wed Nov 11 2026. No macro, syntax, notation, axiom, sorry.
-/
import Derived.Test.YtokcgjjnljflaaaChecked
import GoSem.Claim
import GoSem.ClaimJoined
import GoSem.ClaimMapViews
import Derived.JoinedTies
import Derived.KernelRfl
namespace Go.Proofs.Ytokcgjjnljflaaa
/- THE CELL 'sum', in the pinned program and in every row, IS THE sha256 OF THE DUMP (.gsa) THAT YtokcgjjnljflaaaProg.lean LOADS. Nothing in Lean hashes anything: it is a label: what it is worth is what the hold of that sum in a sandbox is worth. -/
noncomputable def Try.pinned : Pinned := { name := "ytokcgjjnljflaaa", sum := "433077e5f0154a022c317675625f8c6e50308bf9bb9b746a0b231f45be72c815", checked := Try.checked }
namespace Rows
def none {H : Type} : Left H := { results := [], args := [] }

/-- 'laws.FnExactMoveThing': WHATEVER THE INPUT: true; the input reads as it did. -/
def fnExactMoveThingSpec : ChangeSpec := { name := "fnExactMoveThing", fn := fun _ => fun
  | [d1, d2, d3, d4] => { results := [.lit (.bool true)], args := [d1, d2, d3, d4] }
  | _ => none }
def fnExactMoveThingRow : OpenClaim := { program := "ytokcgjjnljflaaa", sum := "433077e5f0154a022c317675625f8c6e50308bf9bb9b746a0b231f45be72c815", func := "loop.example/g01020/laws.FnExactMoveThing", spec := "fnExactMoveThing", inPlace := ["internal/bytealg.abigen_runtime_cmpstring", "slices.overlaps[loop.example/g01020/impl.Thing]"], unfollowed := true, recurses := true, apart := false }
def FnExactMoveThingSaid : Prop := fnExactMoveThingRow.holds Try.pinned (OpenSpec.ofChange fnExactMoveThingSpec)

/-- ITS FALSE NEIGHBOUR: 'it returns false'. Refute it at one input. -/
def fnExactMoveThingWrong : ChangeSpec := { name := "fnExactMoveThing", fn := fun _ => fun
  | [d1, d2, d3, d4] => { results := [.lit (.bool false)], args := [d1, d2, d3, d4] }
  | _ => none }
def FnExactMoveThingWrongFalsely : Prop := fnExactMoveThingRow.holds Try.pinned (OpenSpec.ofChange fnExactMoveThingWrong)

/-- 'laws.FnExactCanFill': WHATEVER THE INPUT: true; the input reads as it did. -/
def fnExactCanFillSpec : ChangeSpec := { name := "fnExactCanFill", fn := fun _ => fun
  | [d1, d2, d3] => { results := [.lit (.bool true)], args := [d1, d2, d3] }
  | _ => none }
def fnExactCanFillRow : OpenClaim := { program := "ytokcgjjnljflaaa", sum := "433077e5f0154a022c317675625f8c6e50308bf9bb9b746a0b231f45be72c815", func := "loop.example/g01020/laws.FnExactCanFill", spec := "fnExactCanFill", inPlace := ["internal/bytealg.abigen_runtime_cmpstring", "slices.overlaps[loop.example/g01020/impl.Thing]"], unfollowed := true, recurses := true, apart := false }
def FnExactCanFillSaid : Prop := fnExactCanFillRow.holds Try.pinned (OpenSpec.ofChange fnExactCanFillSpec)

/-- ITS FALSE NEIGHBOUR: 'it returns false'. Refute it at one input. -/
def fnExactCanFillWrong : ChangeSpec := { name := "fnExactCanFill", fn := fun _ => fun
  | [d1, d2, d3] => { results := [.lit (.bool false)], args := [d1, d2, d3] }
  | _ => none }
def FnExactCanFillWrongFalsely : Prop := fnExactCanFillRow.holds Try.pinned (OpenSpec.ofChange fnExactCanFillWrong)

/-- 'laws.FnExactFillFrom': WHATEVER THE INPUT: true; the input reads as it did. -/
def fnExactFillFromSpec : ChangeSpec := { name := "fnExactFillFrom", fn := fun _ => fun
  | [d1, d2, d3] => { results := [.lit (.bool true)], args := [d1, d2, d3] }
  | _ => none }
def fnExactFillFromRow : OpenClaim := { program := "ytokcgjjnljflaaa", sum := "433077e5f0154a022c317675625f8c6e50308bf9bb9b746a0b231f45be72c815", func := "loop.example/g01020/laws.FnExactFillFrom", spec := "fnExactFillFrom", inPlace := ["internal/bytealg.abigen_runtime_cmpstring", "slices.overlaps[loop.example/g01020/impl.Thing]"], unfollowed := true, recurses := true, apart := false }
def FnExactFillFromSaid : Prop := fnExactFillFromRow.holds Try.pinned (OpenSpec.ofChange fnExactFillFromSpec)

/-- ITS FALSE NEIGHBOUR: 'it returns false'. Refute it at one input. -/
def fnExactFillFromWrong : ChangeSpec := { name := "fnExactFillFrom", fn := fun _ => fun
  | [d1, d2, d3] => { results := [.lit (.bool false)], args := [d1, d2, d3] }
  | _ => none }
def FnExactFillFromWrongFalsely : Prop := fnExactFillFromRow.holds Try.pinned (OpenSpec.ofChange fnExactFillFromWrong)

/- THE SECOND FORM. 'bulk': how many values and letters a reading holds, each counted each time it is reached (what is shared counts as often as it is met; a slice's spare places count too). A statement '..UptoSaid' is the law's where the arguments, and the package variables that the reading takes, are together of bulk at most 1048576: NARROWER than '..Said'. Prove '..Said' where nothing that the law and all that it calls make is longer than what came in: it says more and counts as full. Else prove '..UptoSaid'. A law counts once. -/
mutual
def uptoBulk {H : Type} : DataW H → Nat
  | .lit (.string bytes) => bytes.length + 1
  | .lit _ => 1
  | .nil => 1
  | .ptr d => uptoBulk d + 1
  | .slice elems spare => uptoBulkAll elems + uptoBulkAll spare + 1
  | .agg parts => uptoBulkAll parts + 1
  | .iface _ d => uptoBulk d + 1
  | .map entries => uptoBulkEntries entries + 1
  | .held _ => 1
def uptoBulkAll {H : Type} : List (DataW H) → Nat
  | [] => 0
  | d :: r => uptoBulk d + uptoBulkAll r
def uptoBulkEntries {H : Type} : List (Lit × DataW H) → Nat
  | [] => 0
  | x :: r => uptoBulkEntry x + uptoBulkEntries r
def uptoBulkEntry {H : Type} : Lit × DataW H → Nat
  | (.string bytes, d) => bytes.length + uptoBulk d + 1
  | (_, d) => uptoBulk d + 1
 end
def uptoSmall : (H : Type) → List (DataW H) → Bool := fun _ ds => decide (uptoBulkAll ds ≤ 1048576)
def OpenSpec.upto (s : _root_.Go.ChangeSpec) : _root_.Go.OpenSpec := { _root_.Go.OpenSpec.ofChange s with cond := some uptoSmall }

/-- 'laws.FnExactMoveThing', WHERE WHAT IT READS IS OF BULK AT MOST 1048576: true; the input reads as it did. -/
def fnExactMoveThingUptoRow : OpenClaim := { program := "ytokcgjjnljflaaa", sum := "433077e5f0154a022c317675625f8c6e50308bf9bb9b746a0b231f45be72c815", func := "loop.example/g01020/laws.FnExactMoveThing", spec := "fnExactMoveThing", inPlace := ["internal/bytealg.abigen_runtime_cmpstring", "slices.overlaps[loop.example/g01020/impl.Thing]"], unfollowed := true, recurses := true, apart := false, narrowed := true }
def FnExactMoveThingUptoSaid : Prop := fnExactMoveThingUptoRow.holds Try.pinned (OpenSpec.upto fnExactMoveThingSpec)

/-- 'laws.FnExactCanFill', WHERE WHAT IT READS IS OF BULK AT MOST 1048576: true; the input reads as it did. -/
def fnExactCanFillUptoRow : OpenClaim := { program := "ytokcgjjnljflaaa", sum := "433077e5f0154a022c317675625f8c6e50308bf9bb9b746a0b231f45be72c815", func := "loop.example/g01020/laws.FnExactCanFill", spec := "fnExactCanFill", inPlace := ["internal/bytealg.abigen_runtime_cmpstring", "slices.overlaps[loop.example/g01020/impl.Thing]"], unfollowed := true, recurses := true, apart := false, narrowed := true }
def FnExactCanFillUptoSaid : Prop := fnExactCanFillUptoRow.holds Try.pinned (OpenSpec.upto fnExactCanFillSpec)

/-- 'laws.FnExactFillFrom', WHERE WHAT IT READS IS OF BULK AT MOST 1048576: true; the input reads as it did. -/
def fnExactFillFromUptoRow : OpenClaim := { program := "ytokcgjjnljflaaa", sum := "433077e5f0154a022c317675625f8c6e50308bf9bb9b746a0b231f45be72c815", func := "loop.example/g01020/laws.FnExactFillFrom", spec := "fnExactFillFrom", inPlace := ["internal/bytealg.abigen_runtime_cmpstring", "slices.overlaps[loop.example/g01020/impl.Thing]"], unfollowed := true, recurses := true, apart := false, narrowed := true }
def FnExactFillFromUptoSaid : Prop := fnExactFillFromUptoRow.holds Try.pinned (OpenSpec.upto fnExactFillFromSpec)

end Rows
end Go.Proofs.Ytokcgjjnljflaaa

/-
  No cell of these rows narrows 'for every input' (looked for: loops, veiled, ifaces, maps, wideKeys, modest, calm, conditions, laid).
  DERIVED. THE GIVEN ROWS OF THIS SEAT. 6 by the template 'for every input the law returns true; each argument reads behind the call as it read before'; 0 by the template 'total and deterministic' (their statements: YtjdaikpkcafcdaaTotals.lean).
  GIVEN WITH THE SEED: the statements are not yours to turn. If you find one false, say at which input.
  Laid BY PROGRAM, IN A SANDBOX (cutbox-rows.mjs): the forced cells as the released guide's own fill.sh prints them over the translation 4f6f688c88612f1d… (all of the seat's roots in one cut). By AI agents, Wed Nov 11 2026. No macro, syntax, notation, axiom, sorry.
-/
import Derived.Test.YtjdaikpkcafcdaaChecked
import GoSem.Claim
import GoSem.ClaimJoined
import GoSem.ClaimMapViews
import Derived.JoinedTies
import Derived.KernelRfl
namespace Go.Proofs.Ytjdaikpkcafcdaa
/- THE CELL 'sum', in the pinned program and in every row, IS THE sha256 OF THE DUMP (.gsa) THAT YtjdaikpkcafcdaaProg.lean LOADS. Nothing in Lean hashes anything: it is a label: what it is worth is what the hold of that sum in a sandbox is worth. -/
noncomputable def Try.pinned : Pinned := { name := "ytjdaikpkcafcdaa", sum := "4f6f688c88612f1deefe52e38019b03a0246540e757961f79de9163630a7b821", checked := Try.checked }
namespace Rows
def none {H : Type} : Left H := { results := [], args := [] }

/-- 'laws.FnExactAreSignals': WHATEVER THE INPUT: true; the input reads as it did. -/
def fnExactAreSignalsSpec : ChangeSpec := { name := "fnExactAreSignals", fn := fun _ => fun
  | [d] => { results := [.lit (.bool true)], args := [d] }
  | _ => none }
def fnExactAreSignalsRow : OpenClaim := { program := "ytjdaikpkcafcdaa", sum := "4f6f688c88612f1deefe52e38019b03a0246540e757961f79de9163630a7b821", func := "loop.example/g01020/laws.FnExactAreSignals", spec := "fnExactAreSignals", apart := false }
def FnExactAreSignalsSaid : Prop := fnExactAreSignalsRow.holds Try.pinned (OpenSpec.ofChange fnExactAreSignalsSpec)

/-- ITS FALSE NEIGHBOUR: 'it returns false'. Refute it at one input. -/
def fnExactAreSignalsWrong : ChangeSpec := { name := "fnExactAreSignals", fn := fun _ => fun
  | [d] => { results := [.lit (.bool false)], args := [d] }
  | _ => none }
def FnExactAreSignalsWrongFalsely : Prop := fnExactAreSignalsRow.holds Try.pinned (OpenSpec.ofChange fnExactAreSignalsWrong)

/-- 'laws.FnExactAreDetectors': WHATEVER THE INPUT: true; the input reads as it did. -/
def fnExactAreDetectorsSpec : ChangeSpec := { name := "fnExactAreDetectors", fn := fun _ => fun
  | [d] => { results := [.lit (.bool true)], args := [d] }
  | _ => none }
def fnExactAreDetectorsRow : OpenClaim := { program := "ytjdaikpkcafcdaa", sum := "4f6f688c88612f1deefe52e38019b03a0246540e757961f79de9163630a7b821", func := "loop.example/g01020/laws.FnExactAreDetectors", spec := "fnExactAreDetectors", apart := false }
def FnExactAreDetectorsSaid : Prop := fnExactAreDetectorsRow.holds Try.pinned (OpenSpec.ofChange fnExactAreDetectorsSpec)

/-- ITS FALSE NEIGHBOUR: 'it returns false'. Refute it at one input. -/
def fnExactAreDetectorsWrong : ChangeSpec := { name := "fnExactAreDetectors", fn := fun _ => fun
  | [d] => { results := [.lit (.bool false)], args := [d] }
  | _ => none }
def FnExactAreDetectorsWrongFalsely : Prop := fnExactAreDetectorsRow.holds Try.pinned (OpenSpec.ofChange fnExactAreDetectorsWrong)

/-- 'laws.FnExactOpenZones': WHATEVER THE INPUT: true; the input reads as it did. -/
def fnExactOpenZonesSpec : ChangeSpec := { name := "fnExactOpenZones", fn := fun _ => fun
  | [d] => { results := [.lit (.bool true)], args := [d] }
  | _ => none }
def fnExactOpenZonesRow : OpenClaim := { program := "ytjdaikpkcafcdaa", sum := "4f6f688c88612f1deefe52e38019b03a0246540e757961f79de9163630a7b821", func := "loop.example/g01020/laws.FnExactOpenZones", spec := "fnExactOpenZones", apart := false }
def FnExactOpenZonesSaid : Prop := fnExactOpenZonesRow.holds Try.pinned (OpenSpec.ofChange fnExactOpenZonesSpec)

/-- ITS FALSE NEIGHBOUR: 'it returns false'. Refute it at one input. -/
def fnExactOpenZonesWrong : ChangeSpec := { name := "fnExactOpenZones", fn := fun _ => fun
  | [d] => { results := [.lit (.bool false)], args := [d] }
  | _ => none }
def FnExactOpenZonesWrongFalsely : Prop := fnExactOpenZonesRow.holds Try.pinned (OpenSpec.ofChange fnExactOpenZonesWrong)

/-- 'laws.FnExactSwitchDetector': WHATEVER THE INPUT: true; the input reads as it did. -/
def fnExactSwitchDetectorSpec : ChangeSpec := { name := "fnExactSwitchDetector", fn := fun _ => fun
  | [d1, d2, d3] => { results := [.lit (.bool true)], args := [d1, d2, d3] }
  | _ => none }
def fnExactSwitchDetectorRow : OpenClaim := { program := "ytjdaikpkcafcdaa", sum := "4f6f688c88612f1deefe52e38019b03a0246540e757961f79de9163630a7b821", func := "loop.example/g01020/laws.FnExactSwitchDetector", spec := "fnExactSwitchDetector", unfollowed := true, recurses := true, apart := false }
def FnExactSwitchDetectorSaid : Prop := fnExactSwitchDetectorRow.holds Try.pinned (OpenSpec.ofChange fnExactSwitchDetectorSpec)

/-- ITS FALSE NEIGHBOUR: 'it returns false'. Refute it at one input. -/
def fnExactSwitchDetectorWrong : ChangeSpec := { name := "fnExactSwitchDetector", fn := fun _ => fun
  | [d1, d2, d3] => { results := [.lit (.bool false)], args := [d1, d2, d3] }
  | _ => none }
def FnExactSwitchDetectorWrongFalsely : Prop := fnExactSwitchDetectorRow.holds Try.pinned (OpenSpec.ofChange fnExactSwitchDetectorWrong)

/-- 'laws.FnExactLiveSignals': WHATEVER THE INPUT: true; the input reads as it did. -/
def fnExactLiveSignalsSpec : ChangeSpec := { name := "fnExactLiveSignals", fn := fun _ => fun
  | [d1, d2] => { results := [.lit (.bool true)], args := [d1, d2] }
  | _ => none }
def fnExactLiveSignalsRow : OpenClaim := { program := "ytjdaikpkcafcdaa", sum := "4f6f688c88612f1deefe52e38019b03a0246540e757961f79de9163630a7b821", func := "loop.example/g01020/laws.FnExactLiveSignals", spec := "fnExactLiveSignals", unfollowed := true, recurses := true, apart := false }
def FnExactLiveSignalsSaid : Prop := fnExactLiveSignalsRow.holds Try.pinned (OpenSpec.ofChange fnExactLiveSignalsSpec)

/-- ITS FALSE NEIGHBOUR: 'it returns false'. Refute it at one input. -/
def fnExactLiveSignalsWrong : ChangeSpec := { name := "fnExactLiveSignals", fn := fun _ => fun
  | [d1, d2] => { results := [.lit (.bool false)], args := [d1, d2] }
  | _ => none }
def FnExactLiveSignalsWrongFalsely : Prop := fnExactLiveSignalsRow.holds Try.pinned (OpenSpec.ofChange fnExactLiveSignalsWrong)

/-- 'laws.FnExactZoneAlarm': WHATEVER THE INPUT: true; the input reads as it did. -/
def fnExactZoneAlarmSpec : ChangeSpec := { name := "fnExactZoneAlarm", fn := fun _ => fun
  | [d1, d2, d3, d4] => { results := [.lit (.bool true)], args := [d1, d2, d3, d4] }
  | _ => none }
def fnExactZoneAlarmRow : OpenClaim := { program := "ytjdaikpkcafcdaa", sum := "4f6f688c88612f1deefe52e38019b03a0246540e757961f79de9163630a7b821", func := "loop.example/g01020/laws.FnExactZoneAlarm", spec := "fnExactZoneAlarm", unfollowed := true, recurses := true, apart := false }
def FnExactZoneAlarmSaid : Prop := fnExactZoneAlarmRow.holds Try.pinned (OpenSpec.ofChange fnExactZoneAlarmSpec)

/-- ITS FALSE NEIGHBOUR: 'it returns false'. Refute it at one input. -/
def fnExactZoneAlarmWrong : ChangeSpec := { name := "fnExactZoneAlarm", fn := fun _ => fun
  | [d1, d2, d3, d4] => { results := [.lit (.bool false)], args := [d1, d2, d3, d4] }
  | _ => none }
def FnExactZoneAlarmWrongFalsely : Prop := fnExactZoneAlarmRow.holds Try.pinned (OpenSpec.ofChange fnExactZoneAlarmWrong)

/- THE SECOND FORM. 'bulk': how many values and letters a reading holds, each counted each time it is reached (what is shared counts as often as it is met; a slice's spare places count too). A statement '..UptoSaid' is the law's where the arguments, and the package variables that the reading takes, are together of bulk at most 1048576: NARROWER than '..Said'. Prove '..Said' where nothing that the law and all that it calls make is longer than what came in: it says more and counts as full. Else prove '..UptoSaid'. A law counts once. -/
mutual
def uptoBulk {H : Type} : DataW H → Nat
  | .lit (.string bytes) => bytes.length + 1
  | .lit _ => 1
  | .nil => 1
  | .ptr d => uptoBulk d + 1
  | .slice elems spare => uptoBulkAll elems + uptoBulkAll spare + 1
  | .agg parts => uptoBulkAll parts + 1
  | .iface _ d => uptoBulk d + 1
  | .map entries => uptoBulkEntries entries + 1
  | .held _ => 1
def uptoBulkAll {H : Type} : List (DataW H) → Nat
  | [] => 0
  | d :: r => uptoBulk d + uptoBulkAll r
def uptoBulkEntries {H : Type} : List (Lit × DataW H) → Nat
  | [] => 0
  | x :: r => uptoBulkEntry x + uptoBulkEntries r
def uptoBulkEntry {H : Type} : Lit × DataW H → Nat
  | (.string bytes, d) => bytes.length + uptoBulk d + 1
  | (_, d) => uptoBulk d + 1
 end
def uptoSmall : (H : Type) → List (DataW H) → Bool := fun _ ds => decide (uptoBulkAll ds ≤ 1048576)
def OpenSpec.upto (s : _root_.Go.ChangeSpec) : _root_.Go.OpenSpec := { _root_.Go.OpenSpec.ofChange s with cond := some uptoSmall }

/-- 'laws.FnExactAreSignals', WHERE WHAT IT READS IS OF BULK AT MOST 1048576: true; the input reads as it did. -/
def fnExactAreSignalsUptoRow : OpenClaim := { program := "ytjdaikpkcafcdaa", sum := "4f6f688c88612f1deefe52e38019b03a0246540e757961f79de9163630a7b821", func := "loop.example/g01020/laws.FnExactAreSignals", spec := "fnExactAreSignals", apart := false, narrowed := true }
def FnExactAreSignalsUptoSaid : Prop := fnExactAreSignalsUptoRow.holds Try.pinned (OpenSpec.upto fnExactAreSignalsSpec)

/-- 'laws.FnExactAreDetectors', WHERE WHAT IT READS IS OF BULK AT MOST 1048576: true; the input reads as it did. -/
def fnExactAreDetectorsUptoRow : OpenClaim := { program := "ytjdaikpkcafcdaa", sum := "4f6f688c88612f1deefe52e38019b03a0246540e757961f79de9163630a7b821", func := "loop.example/g01020/laws.FnExactAreDetectors", spec := "fnExactAreDetectors", apart := false, narrowed := true }
def FnExactAreDetectorsUptoSaid : Prop := fnExactAreDetectorsUptoRow.holds Try.pinned (OpenSpec.upto fnExactAreDetectorsSpec)

/-- 'laws.FnExactOpenZones', WHERE WHAT IT READS IS OF BULK AT MOST 1048576: true; the input reads as it did. -/
def fnExactOpenZonesUptoRow : OpenClaim := { program := "ytjdaikpkcafcdaa", sum := "4f6f688c88612f1deefe52e38019b03a0246540e757961f79de9163630a7b821", func := "loop.example/g01020/laws.FnExactOpenZones", spec := "fnExactOpenZones", apart := false, narrowed := true }
def FnExactOpenZonesUptoSaid : Prop := fnExactOpenZonesUptoRow.holds Try.pinned (OpenSpec.upto fnExactOpenZonesSpec)

/-- 'laws.FnExactSwitchDetector', WHERE WHAT IT READS IS OF BULK AT MOST 1048576: true; the input reads as it did. -/
def fnExactSwitchDetectorUptoRow : OpenClaim := { program := "ytjdaikpkcafcdaa", sum := "4f6f688c88612f1deefe52e38019b03a0246540e757961f79de9163630a7b821", func := "loop.example/g01020/laws.FnExactSwitchDetector", spec := "fnExactSwitchDetector", unfollowed := true, recurses := true, apart := false, narrowed := true }
def FnExactSwitchDetectorUptoSaid : Prop := fnExactSwitchDetectorUptoRow.holds Try.pinned (OpenSpec.upto fnExactSwitchDetectorSpec)

/-- 'laws.FnExactLiveSignals', WHERE WHAT IT READS IS OF BULK AT MOST 1048576: true; the input reads as it did. -/
def fnExactLiveSignalsUptoRow : OpenClaim := { program := "ytjdaikpkcafcdaa", sum := "4f6f688c88612f1deefe52e38019b03a0246540e757961f79de9163630a7b821", func := "loop.example/g01020/laws.FnExactLiveSignals", spec := "fnExactLiveSignals", unfollowed := true, recurses := true, apart := false, narrowed := true }
def FnExactLiveSignalsUptoSaid : Prop := fnExactLiveSignalsUptoRow.holds Try.pinned (OpenSpec.upto fnExactLiveSignalsSpec)

/-- 'laws.FnExactZoneAlarm', WHERE WHAT IT READS IS OF BULK AT MOST 1048576: true; the input reads as it did. -/
def fnExactZoneAlarmUptoRow : OpenClaim := { program := "ytjdaikpkcafcdaa", sum := "4f6f688c88612f1deefe52e38019b03a0246540e757961f79de9163630a7b821", func := "loop.example/g01020/laws.FnExactZoneAlarm", spec := "fnExactZoneAlarm", unfollowed := true, recurses := true, apart := false, narrowed := true }
def FnExactZoneAlarmUptoSaid : Prop := fnExactZoneAlarmUptoRow.holds Try.pinned (OpenSpec.upto fnExactZoneAlarmSpec)

end Rows
end Go.Proofs.Ytjdaikpkcafcdaa

/-
  No cell of these rows narrows 'for every input' (looked for: loops, veiled, ifaces, maps, wideKeys, modest, calm, conditions, laid).
  DERIVED. THE GIVEN ROWS OF THIS SEAT. 10 by the template 'for every input the law returns true; each argument reads behind the call as it read before'; 0 by the template 'total and deterministic' (their statements: YtiekmpbdlncgdaaTotals.lean).
  GIVEN WITH THE SEED: the statements are not yours to turn. If you find one false, say at which input.
  Laid BY PROGRAM, IN A SANDBOX (cutbox-rows.mjs): the forced cells as the released guide's own fill.sh prints them over the translation bf22125a8b6f6215… (all of the seat's roots in one cut). By AI agents, Wed Nov 11 2026. No macro, syntax, notation, axiom, sorry.
-/
import Derived.Test.YtiekmpbdlncgdaaChecked
import GoSem.Claim
import GoSem.ClaimJoined
import GoSem.ClaimMapViews
import Derived.JoinedTies
import Derived.KernelRfl
namespace Go.Proofs.Ytiekmpbdlncgdaa
/- THE CELL 'sum', in the pinned program and in every row, IS THE sha256 OF THE DUMP (.gsa) THAT YtiekmpbdlncgdaaProg.lean LOADS. Nothing in Lean hashes anything: it is a label: what it is worth is what the hold of that sum in a sandbox is worth. -/
noncomputable def Try.pinned : Pinned := { name := "ytiekmpbdlncgdaa", sum := "bf22125a8b6f621535647b0d9da5937edec89867232d1db89f4560b10acc96df", checked := Try.checked }
namespace Rows
def none {H : Type} : Left H := { results := [], args := [] }

/-- 'laws.FnExactAreSkills': WHATEVER THE INPUT: true; the input reads as it did. -/
def fnExactAreSkillsSpec : ChangeSpec := { name := "fnExactAreSkills", fn := fun _ => fun
  | [d] => { results := [.lit (.bool true)], args := [d] }
  | _ => none }
def fnExactAreSkillsRow : OpenClaim := { program := "ytiekmpbdlncgdaa", sum := "bf22125a8b6f621535647b0d9da5937edec89867232d1db89f4560b10acc96df", func := "loop.example/g01020/laws.FnExactAreSkills", spec := "fnExactAreSkills", apart := false }
def FnExactAreSkillsSaid : Prop := fnExactAreSkillsRow.holds Try.pinned (OpenSpec.ofChange fnExactAreSkillsSpec)

/-- ITS FALSE NEIGHBOUR: 'it returns false'. Refute it at one input. -/
def fnExactAreSkillsWrong : ChangeSpec := { name := "fnExactAreSkills", fn := fun _ => fun
  | [d] => { results := [.lit (.bool false)], args := [d] }
  | _ => none }
def FnExactAreSkillsWrongFalsely : Prop := fnExactAreSkillsRow.holds Try.pinned (OpenSpec.ofChange fnExactAreSkillsWrong)

/-- 'laws.FnExactIsQualified': WHATEVER THE INPUT: true; the input reads as it did. -/
def fnExactIsQualifiedSpec : ChangeSpec := { name := "fnExactIsQualified", fn := fun _ => fun
  | [d1, d2, d3, d4] => { results := [.lit (.bool true)], args := [d1, d2, d3, d4] }
  | _ => none }
def fnExactIsQualifiedRow : OpenClaim := { program := "ytiekmpbdlncgdaa", sum := "bf22125a8b6f621535647b0d9da5937edec89867232d1db89f4560b10acc96df", func := "loop.example/g01020/laws.FnExactIsQualified", spec := "fnExactIsQualified", unfollowed := true, recurses := true, apart := false }
def FnExactIsQualifiedSaid : Prop := fnExactIsQualifiedRow.holds Try.pinned (OpenSpec.ofChange fnExactIsQualifiedSpec)

/-- ITS FALSE NEIGHBOUR: 'it returns false'. Refute it at one input. -/
def fnExactIsQualifiedWrong : ChangeSpec := { name := "fnExactIsQualified", fn := fun _ => fun
  | [d1, d2, d3, d4] => { results := [.lit (.bool false)], args := [d1, d2, d3, d4] }
  | _ => none }
def FnExactIsQualifiedWrongFalsely : Prop := fnExactIsQualifiedRow.holds Try.pinned (OpenSpec.ofChange fnExactIsQualifiedWrong)

/-- 'laws.FnExactFirstLapse': WHATEVER THE INPUT: true; the input reads as it did. -/
def fnExactFirstLapseSpec : ChangeSpec := { name := "fnExactFirstLapse", fn := fun _ => fun
  | [d1, d2, d3, d4] => { results := [.lit (.bool true)], args := [d1, d2, d3, d4] }
  | _ => none }
def fnExactFirstLapseRow : OpenClaim := { program := "ytiekmpbdlncgdaa", sum := "bf22125a8b6f621535647b0d9da5937edec89867232d1db89f4560b10acc96df", func := "loop.example/g01020/laws.FnExactFirstLapse", spec := "fnExactFirstLapse", apart := false }
def FnExactFirstLapseSaid : Prop := fnExactFirstLapseRow.holds Try.pinned (OpenSpec.ofChange fnExactFirstLapseSpec)

/-- ITS FALSE NEIGHBOUR: 'it returns false'. Refute it at one input. -/
def fnExactFirstLapseWrong : ChangeSpec := { name := "fnExactFirstLapse", fn := fun _ => fun
  | [d1, d2, d3, d4] => { results := [.lit (.bool false)], args := [d1, d2, d3, d4] }
  | _ => none }
def FnExactFirstLapseWrongFalsely : Prop := fnExactFirstLapseRow.holds Try.pinned (OpenSpec.ofChange fnExactFirstLapseWrong)

/-- 'laws.FnExactRarestKind': WHATEVER THE INPUT: true; the input reads as it did. -/
def fnExactRarestKindSpec : ChangeSpec := { name := "fnExactRarestKind", fn := fun _ => fun
  | [d1, d2] => { results := [.lit (.bool true)], args := [d1, d2] }
  | _ => none }
def fnExactRarestKindRow : OpenClaim := { program := "ytiekmpbdlncgdaa", sum := "bf22125a8b6f621535647b0d9da5937edec89867232d1db89f4560b10acc96df", func := "loop.example/g01020/laws.FnExactRarestKind", spec := "fnExactRarestKind", apart := false }
def FnExactRarestKindSaid : Prop := fnExactRarestKindRow.holds Try.pinned (OpenSpec.ofChange fnExactRarestKindSpec)

/-- ITS FALSE NEIGHBOUR: 'it returns false'. Refute it at one input. -/
def fnExactRarestKindWrong : ChangeSpec := { name := "fnExactRarestKind", fn := fun _ => fun
  | [d1, d2] => { results := [.lit (.bool false)], args := [d1, d2] }
  | _ => none }
def FnExactRarestKindWrongFalsely : Prop := fnExactRarestKindRow.holds Try.pinned (OpenSpec.ofChange fnExactRarestKindWrong)

/-- 'laws.FnExactDueSkills': WHATEVER THE INPUT: true; the input reads as it did. -/
def fnExactDueSkillsSpec : ChangeSpec := { name := "fnExactDueSkills", fn := fun _ => fun
  | [d1, d2, d3] => { results := [.lit (.bool true)], args := [d1, d2, d3] }
  | _ => none }
def fnExactDueSkillsRow : OpenClaim := { program := "ytiekmpbdlncgdaa", sum := "bf22125a8b6f621535647b0d9da5937edec89867232d1db89f4560b10acc96df", func := "loop.example/g01020/laws.FnExactDueSkills", spec := "fnExactDueSkills", apart := false }
def FnExactDueSkillsSaid : Prop := fnExactDueSkillsRow.holds Try.pinned (OpenSpec.ofChange fnExactDueSkillsSpec)

/-- ITS FALSE NEIGHBOUR: 'it returns false'. Refute it at one input. -/
def fnExactDueSkillsWrong : ChangeSpec := { name := "fnExactDueSkills", fn := fun _ => fun
  | [d1, d2, d3] => { results := [.lit (.bool false)], args := [d1, d2, d3] }
  | _ => none }
def FnExactDueSkillsWrongFalsely : Prop := fnExactDueSkillsRow.holds Try.pinned (OpenSpec.ofChange fnExactDueSkillsWrong)

/-- 'laws.FnExactCountsOn': WHATEVER THE INPUT: true; the input reads as it did. -/
def fnExactCountsOnSpec : ChangeSpec := { name := "fnExactCountsOn", fn := fun _ => fun
  | [d1, d2] => { results := [.lit (.bool true)], args := [d1, d2] }
  | _ => none }
def fnExactCountsOnRow : OpenClaim := { program := "ytiekmpbdlncgdaa", sum := "bf22125a8b6f621535647b0d9da5937edec89867232d1db89f4560b10acc96df", func := "loop.example/g01020/laws.FnExactCountsOn", spec := "fnExactCountsOn", apart := false }
def FnExactCountsOnSaid : Prop := fnExactCountsOnRow.holds Try.pinned (OpenSpec.ofChange fnExactCountsOnSpec)

/-- ITS FALSE NEIGHBOUR: 'it returns false'. Refute it at one input. -/
def fnExactCountsOnWrong : ChangeSpec := { name := "fnExactCountsOn", fn := fun _ => fun
  | [d1, d2] => { results := [.lit (.bool false)], args := [d1, d2] }
  | _ => none }
def FnExactCountsOnWrongFalsely : Prop := fnExactCountsOnRow.holds Try.pinned (OpenSpec.ofChange fnExactCountsOnWrong)

/-- 'laws.FnExactDropPerson': WHATEVER THE INPUT: true; the input reads as it did. -/
def fnExactDropPersonSpec : ChangeSpec := { name := "fnExactDropPerson", fn := fun _ => fun
  | [d1, d2] => { results := [.lit (.bool true)], args := [d1, d2] }
  | _ => none }
def fnExactDropPersonRow : OpenClaim := { program := "ytiekmpbdlncgdaa", sum := "bf22125a8b6f621535647b0d9da5937edec89867232d1db89f4560b10acc96df", func := "loop.example/g01020/laws.FnExactDropPerson", spec := "fnExactDropPerson", unfollowed := true, recurses := true, apart := false }
def FnExactDropPersonSaid : Prop := fnExactDropPersonRow.holds Try.pinned (OpenSpec.ofChange fnExactDropPersonSpec)

/-- ITS FALSE NEIGHBOUR: 'it returns false'. Refute it at one input. -/
def fnExactDropPersonWrong : ChangeSpec := { name := "fnExactDropPerson", fn := fun _ => fun
  | [d1, d2] => { results := [.lit (.bool false)], args := [d1, d2] }
  | _ => none }
def FnExactDropPersonWrongFalsely : Prop := fnExactDropPersonRow.holds Try.pinned (OpenSpec.ofChange fnExactDropPersonWrong)

/-- 'laws.FnExactQualifiedFor': WHATEVER THE INPUT: true; the input reads as it did. -/
def fnExactQualifiedForSpec : ChangeSpec := { name := "fnExactQualifiedFor", fn := fun _ => fun
  | [d1, d2, d3] => { results := [.lit (.bool true)], args := [d1, d2, d3] }
  | _ => none }
def fnExactQualifiedForRow : OpenClaim := { program := "ytiekmpbdlncgdaa", sum := "bf22125a8b6f621535647b0d9da5937edec89867232d1db89f4560b10acc96df", func := "loop.example/g01020/laws.FnExactQualifiedFor", spec := "fnExactQualifiedFor", unfollowed := true, recurses := true, apart := false }
def FnExactQualifiedForSaid : Prop := fnExactQualifiedForRow.holds Try.pinned (OpenSpec.ofChange fnExactQualifiedForSpec)

/-- ITS FALSE NEIGHBOUR: 'it returns false'. Refute it at one input. -/
def fnExactQualifiedForWrong : ChangeSpec := { name := "fnExactQualifiedFor", fn := fun _ => fun
  | [d1, d2, d3] => { results := [.lit (.bool false)], args := [d1, d2, d3] }
  | _ => none }
def FnExactQualifiedForWrongFalsely : Prop := fnExactQualifiedForRow.holds Try.pinned (OpenSpec.ofChange fnExactQualifiedForWrong)

/-- 'laws.FnExactRenewSkill': WHATEVER THE INPUT: true; the input reads as it did. -/
def fnExactRenewSkillSpec : ChangeSpec := { name := "fnExactRenewSkill", fn := fun _ => fun
  | [d1, d2, d3, d4] => { results := [.lit (.bool true)], args := [d1, d2, d3, d4] }
  | _ => none }
def fnExactRenewSkillRow : OpenClaim := { program := "ytiekmpbdlncgdaa", sum := "bf22125a8b6f621535647b0d9da5937edec89867232d1db89f4560b10acc96df", func := "loop.example/g01020/laws.FnExactRenewSkill", spec := "fnExactRenewSkill", inPlace := ["slices.overlaps[loop.example/g01020/impl.Skill]"], unfollowed := true, recurses := true, apart := false }
def FnExactRenewSkillSaid : Prop := fnExactRenewSkillRow.holds Try.pinned (OpenSpec.ofChange fnExactRenewSkillSpec)

/-- ITS FALSE NEIGHBOUR: 'it returns false'. Refute it at one input. -/
def fnExactRenewSkillWrong : ChangeSpec := { name := "fnExactRenewSkill", fn := fun _ => fun
  | [d1, d2, d3, d4] => { results := [.lit (.bool false)], args := [d1, d2, d3, d4] }
  | _ => none }
def FnExactRenewSkillWrongFalsely : Prop := fnExactRenewSkillRow.holds Try.pinned (OpenSpec.ofChange fnExactRenewSkillWrong)

/-- 'laws.FnExactSessionsFor': WHATEVER THE INPUT: true; the input reads as it did. -/
def fnExactSessionsForSpec : ChangeSpec := { name := "fnExactSessionsFor", fn := fun _ => fun
  | [d1, d2, d3, d4] => { results := [.lit (.bool true)], args := [d1, d2, d3, d4] }
  | _ => none }
def fnExactSessionsForRow : OpenClaim := { program := "ytiekmpbdlncgdaa", sum := "bf22125a8b6f621535647b0d9da5937edec89867232d1db89f4560b10acc96df", func := "loop.example/g01020/laws.FnExactSessionsFor", spec := "fnExactSessionsFor", unfollowed := true, recurses := true, apart := false }
def FnExactSessionsForSaid : Prop := fnExactSessionsForRow.holds Try.pinned (OpenSpec.ofChange fnExactSessionsForSpec)

/-- ITS FALSE NEIGHBOUR: 'it returns false'. Refute it at one input. -/
def fnExactSessionsForWrong : ChangeSpec := { name := "fnExactSessionsFor", fn := fun _ => fun
  | [d1, d2, d3, d4] => { results := [.lit (.bool false)], args := [d1, d2, d3, d4] }
  | _ => none }
def FnExactSessionsForWrongFalsely : Prop := fnExactSessionsForRow.holds Try.pinned (OpenSpec.ofChange fnExactSessionsForWrong)

/- THE SECOND FORM. 'bulk': how many values and letters a reading holds, each counted each time it is reached (what is shared counts as often as it is met; a slice's spare places count too). A statement '..UptoSaid' is the law's where the arguments, and the package variables that the reading takes, are together of bulk at most 1048576: NARROWER than '..Said'. Prove '..Said' where nothing that the law and all that it calls make is longer than what came in: it says more and counts as full. Else prove '..UptoSaid'. A law counts once. -/
mutual
def uptoBulk {H : Type} : DataW H → Nat
  | .lit (.string bytes) => bytes.length + 1
  | .lit _ => 1
  | .nil => 1
  | .ptr d => uptoBulk d + 1
  | .slice elems spare => uptoBulkAll elems + uptoBulkAll spare + 1
  | .agg parts => uptoBulkAll parts + 1
  | .iface _ d => uptoBulk d + 1
  | .map entries => uptoBulkEntries entries + 1
  | .held _ => 1
def uptoBulkAll {H : Type} : List (DataW H) → Nat
  | [] => 0
  | d :: r => uptoBulk d + uptoBulkAll r
def uptoBulkEntries {H : Type} : List (Lit × DataW H) → Nat
  | [] => 0
  | x :: r => uptoBulkEntry x + uptoBulkEntries r
def uptoBulkEntry {H : Type} : Lit × DataW H → Nat
  | (.string bytes, d) => bytes.length + uptoBulk d + 1
  | (_, d) => uptoBulk d + 1
 end
def uptoSmall : (H : Type) → List (DataW H) → Bool := fun _ ds => decide (uptoBulkAll ds ≤ 1048576)
def OpenSpec.upto (s : _root_.Go.ChangeSpec) : _root_.Go.OpenSpec := { _root_.Go.OpenSpec.ofChange s with cond := some uptoSmall }

/-- 'laws.FnExactAreSkills', WHERE WHAT IT READS IS OF BULK AT MOST 1048576: true; the input reads as it did. -/
def fnExactAreSkillsUptoRow : OpenClaim := { program := "ytiekmpbdlncgdaa", sum := "bf22125a8b6f621535647b0d9da5937edec89867232d1db89f4560b10acc96df", func := "loop.example/g01020/laws.FnExactAreSkills", spec := "fnExactAreSkills", apart := false, narrowed := true }
def FnExactAreSkillsUptoSaid : Prop := fnExactAreSkillsUptoRow.holds Try.pinned (OpenSpec.upto fnExactAreSkillsSpec)

/-- 'laws.FnExactIsQualified', WHERE WHAT IT READS IS OF BULK AT MOST 1048576: true; the input reads as it did. -/
def fnExactIsQualifiedUptoRow : OpenClaim := { program := "ytiekmpbdlncgdaa", sum := "bf22125a8b6f621535647b0d9da5937edec89867232d1db89f4560b10acc96df", func := "loop.example/g01020/laws.FnExactIsQualified", spec := "fnExactIsQualified", unfollowed := true, recurses := true, apart := false, narrowed := true }
def FnExactIsQualifiedUptoSaid : Prop := fnExactIsQualifiedUptoRow.holds Try.pinned (OpenSpec.upto fnExactIsQualifiedSpec)

/-- 'laws.FnExactFirstLapse', WHERE WHAT IT READS IS OF BULK AT MOST 1048576: true; the input reads as it did. -/
def fnExactFirstLapseUptoRow : OpenClaim := { program := "ytiekmpbdlncgdaa", sum := "bf22125a8b6f621535647b0d9da5937edec89867232d1db89f4560b10acc96df", func := "loop.example/g01020/laws.FnExactFirstLapse", spec := "fnExactFirstLapse", apart := false, narrowed := true }
def FnExactFirstLapseUptoSaid : Prop := fnExactFirstLapseUptoRow.holds Try.pinned (OpenSpec.upto fnExactFirstLapseSpec)

/-- 'laws.FnExactRarestKind', WHERE WHAT IT READS IS OF BULK AT MOST 1048576: true; the input reads as it did. -/
def fnExactRarestKindUptoRow : OpenClaim := { program := "ytiekmpbdlncgdaa", sum := "bf22125a8b6f621535647b0d9da5937edec89867232d1db89f4560b10acc96df", func := "loop.example/g01020/laws.FnExactRarestKind", spec := "fnExactRarestKind", apart := false, narrowed := true }
def FnExactRarestKindUptoSaid : Prop := fnExactRarestKindUptoRow.holds Try.pinned (OpenSpec.upto fnExactRarestKindSpec)

/-- 'laws.FnExactDueSkills', WHERE WHAT IT READS IS OF BULK AT MOST 1048576: true; the input reads as it did. -/
def fnExactDueSkillsUptoRow : OpenClaim := { program := "ytiekmpbdlncgdaa", sum := "bf22125a8b6f621535647b0d9da5937edec89867232d1db89f4560b10acc96df", func := "loop.example/g01020/laws.FnExactDueSkills", spec := "fnExactDueSkills", apart := false, narrowed := true }
def FnExactDueSkillsUptoSaid : Prop := fnExactDueSkillsUptoRow.holds Try.pinned (OpenSpec.upto fnExactDueSkillsSpec)

/-- 'laws.FnExactCountsOn', WHERE WHAT IT READS IS OF BULK AT MOST 1048576: true; the input reads as it did. -/
def fnExactCountsOnUptoRow : OpenClaim := { program := "ytiekmpbdlncgdaa", sum := "bf22125a8b6f621535647b0d9da5937edec89867232d1db89f4560b10acc96df", func := "loop.example/g01020/laws.FnExactCountsOn", spec := "fnExactCountsOn", apart := false, narrowed := true }
def FnExactCountsOnUptoSaid : Prop := fnExactCountsOnUptoRow.holds Try.pinned (OpenSpec.upto fnExactCountsOnSpec)

/-- 'laws.FnExactDropPerson', WHERE WHAT IT READS IS OF BULK AT MOST 1048576: true; the input reads as it did. -/
def fnExactDropPersonUptoRow : OpenClaim := { program := "ytiekmpbdlncgdaa", sum := "bf22125a8b6f621535647b0d9da5937edec89867232d1db89f4560b10acc96df", func := "loop.example/g01020/laws.FnExactDropPerson", spec := "fnExactDropPerson", unfollowed := true, recurses := true, apart := false, narrowed := true }
def FnExactDropPersonUptoSaid : Prop := fnExactDropPersonUptoRow.holds Try.pinned (OpenSpec.upto fnExactDropPersonSpec)

/-- 'laws.FnExactQualifiedFor', WHERE WHAT IT READS IS OF BULK AT MOST 1048576: true; the input reads as it did. -/
def fnExactQualifiedForUptoRow : OpenClaim := { program := "ytiekmpbdlncgdaa", sum := "bf22125a8b6f621535647b0d9da5937edec89867232d1db89f4560b10acc96df", func := "loop.example/g01020/laws.FnExactQualifiedFor", spec := "fnExactQualifiedFor", unfollowed := true, recurses := true, apart := false, narrowed := true }
def FnExactQualifiedForUptoSaid : Prop := fnExactQualifiedForUptoRow.holds Try.pinned (OpenSpec.upto fnExactQualifiedForSpec)

/-- 'laws.FnExactRenewSkill', WHERE WHAT IT READS IS OF BULK AT MOST 1048576: true; the input reads as it did. -/
def fnExactRenewSkillUptoRow : OpenClaim := { program := "ytiekmpbdlncgdaa", sum := "bf22125a8b6f621535647b0d9da5937edec89867232d1db89f4560b10acc96df", func := "loop.example/g01020/laws.FnExactRenewSkill", spec := "fnExactRenewSkill", inPlace := ["slices.overlaps[loop.example/g01020/impl.Skill]"], unfollowed := true, recurses := true, apart := false, narrowed := true }
def FnExactRenewSkillUptoSaid : Prop := fnExactRenewSkillUptoRow.holds Try.pinned (OpenSpec.upto fnExactRenewSkillSpec)

/-- 'laws.FnExactSessionsFor', WHERE WHAT IT READS IS OF BULK AT MOST 1048576: true; the input reads as it did. -/
def fnExactSessionsForUptoRow : OpenClaim := { program := "ytiekmpbdlncgdaa", sum := "bf22125a8b6f621535647b0d9da5937edec89867232d1db89f4560b10acc96df", func := "loop.example/g01020/laws.FnExactSessionsFor", spec := "fnExactSessionsFor", unfollowed := true, recurses := true, apart := false, narrowed := true }
def FnExactSessionsForUptoSaid : Prop := fnExactSessionsForUptoRow.holds Try.pinned (OpenSpec.upto fnExactSessionsForSpec)

end Rows
end Go.Proofs.Ytiekmpbdlncgdaa

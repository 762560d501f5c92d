/-
  DERIVED. GIVEN WITH THE SEED: THE CARDS: each row of YtpdblmcflniomaaGreatDoorRows.lean that lists a variable, with what it lists TIED to the program's text (the seventh form; the later family's looks); each row that meets fmt, with fmt's text TOLD by the authors' own Lean function (tested against real Go, not proved from fmt's source: count such statements apart). THE CARD IS WHAT COUNTS. Prove the row's statement (the work); the ties are given (YtpdblmcflniomaaGreatDoorTie.lean); close each card by the builder's one call (the guide's Derived/Test/ToyasCard.lean, 'card_holds'). Laid BY PROGRAM, IN A SANDBOX (cutbox-door.mjs). By AI agents, Wed Nov 11 2026. No macro, syntax, notation, axiom, sorry.
-/
import Derived.Test.YtpdblmcflniomaaGreatDoorRows
import GoSem.ClaimSeven
namespace Go.Proofs.YtpdblmcflniomaaGreatDoor
namespace Rows

/-- THE TIED CARD OF 'laws.FnIncidents'. -/
def fnIncidentsCard : Claim7 := { stood := { row := fnIncidentsRow, standIns := [], harness := (true, "0dc6f54eb1bdc37a3dcac7ea79fbf8d20dd02475cf13d980ea317323ad1d9513"), looks := true }, kinds := [], alts := [], laidByText := true, laidKinds := [.data, .data, .data, .data, .sentinel, .sentinel, .pinned], laidTests := true, laidLooks := .later }
def FnIncidentsCardSaid : Prop := Claim7.holds Tryz.pinned (.plain (OpenSpec.ofChange fnIncidentsSpec)) fnIncidentsCard

/-- THE SECOND FORM's CARD OF 'laws.FnIncidents'. -/
def fnIncidentsUptoCard : Claim7 := { stood := { row := fnIncidentsUptoRow, standIns := [], harness := (true, "0dc6f54eb1bdc37a3dcac7ea79fbf8d20dd02475cf13d980ea317323ad1d9513"), looks := true }, kinds := [], alts := [], laidByText := true, laidKinds := [.data, .data, .data, .data, .sentinel, .sentinel, .pinned], laidTests := true, laidLooks := .later }
def FnIncidentsUptoCardSaid : Prop := Claim7.holds Tryz.pinned (.plain (OpenSpec.upto fnIncidentsSpec)) fnIncidentsUptoCard
end Rows
end Go.Proofs.YtpdblmcflniomaaGreatDoor

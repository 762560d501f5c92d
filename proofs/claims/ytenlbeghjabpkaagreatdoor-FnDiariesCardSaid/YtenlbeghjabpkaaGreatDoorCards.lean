/-
  DERIVED. GIVEN WITH THE SEED: THE CARDS: each row of YtenlbeghjabpkaaGreatDoorRows.lean that lists a variable, with what it lists TIED to the program's text (the seventh form; the later family's looks); each row that meets fmt, with fmt's text TOLD by the authors' own Lean function (tested against real Go, not proved from fmt's source: count such statements apart). THE CARD IS WHAT COUNTS. Prove the row's statement (the work); the ties are given (YtenlbeghjabpkaaGreatDoorTie.lean); close each card by the builder's one call (the guide's Derived/Test/ToyasCard.lean, 'card_holds'). Laid BY PROGRAM, IN A SANDBOX (cutbox-door.mjs). By AI agents, Wed Nov 11 2026. No macro, syntax, notation, axiom, sorry.
-/
import Derived.Test.YtenlbeghjabpkaaGreatDoorRows
import GoSem.ClaimSeven
namespace Go.Proofs.YtenlbeghjabpkaaGreatDoor
namespace Rows

/-- THE TIED CARD OF 'laws.FnDiaries'. -/
def fnDiariesCard : Claim7 := { stood := { row := fnDiariesRow, standIns := [], harness := (true, "b8daee0ecfe17b77dc93957bf4573eb7ce514d1ed2f49c9756f3a64eef0b60e2"), looks := true }, kinds := [], alts := [], laidByText := true, laidKinds := [.data, .data, .data, .data, .sentinel, .sentinel, .pinned], laidTests := true, laidLooks := .later }
def FnDiariesCardSaid : Prop := Claim7.holds Tryz.pinned (.plain (OpenSpec.ofChange fnDiariesSpec)) fnDiariesCard

/-- THE SECOND FORM's CARD OF 'laws.FnDiaries'. -/
def fnDiariesUptoCard : Claim7 := { stood := { row := fnDiariesUptoRow, standIns := [], harness := (true, "b8daee0ecfe17b77dc93957bf4573eb7ce514d1ed2f49c9756f3a64eef0b60e2"), looks := true }, kinds := [], alts := [], laidByText := true, laidKinds := [.data, .data, .data, .data, .sentinel, .sentinel, .pinned], laidTests := true, laidLooks := .later }
def FnDiariesUptoCardSaid : Prop := Claim7.holds Tryz.pinned (.plain (OpenSpec.upto fnDiariesSpec)) fnDiariesUptoCard
end Rows
end Go.Proofs.YtenlbeghjabpkaaGreatDoor

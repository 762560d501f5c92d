/-
  DERIVED. GIVEN WITH THE SEED: THE CARDS: each row of YtgnhfkbjojnjnaaDoorRows.lean that lists a variable, with what it lists TIED to the program's text (the seventh form; the later family's looks); each row that meets fmt, with fmt's text TOLD by the authors' own Lean function (tested against real Go, not proved from fmt's source: count such statements apart). THE CARD IS WHAT COUNTS. Prove the row's statement (the work); the ties are given (YtgnhfkbjojnjnaaDoorTie.lean); close each card by the builder's one call (the guide's Derived/Test/ToyasCard.lean, 'card_holds'). Laid BY PROGRAM, IN A SANDBOX (cutbox-door.mjs). By AI agents, Wed Nov 11 2026. No macro, syntax, notation, axiom, sorry.
-/
import Derived.Test.YtgnhfkbjojnjnaaDoorRows
import GoSem.ClaimSeven
namespace Go.Proofs.YtgnhfkbjojnjnaaDoor
namespace Rows

/-- THE TIED CARD OF 'laws.FnExactLoadText'. -/
def fnExactLoadTextCard : Claim7 := { stood := { row := fnExactLoadTextRow, standIns := [], harness := (true, "075c90cbf6ee8c2f3d84cb53e9c95f128e0965199c2cbb143e17a306da76b00d"), looks := false }, kinds := [], alts := [], laidByText := true, laidKinds := [.data, .data, .data], laidTests := true, laidLooks := .later }
def FnExactLoadTextCardSaid : Prop := Claim7.holds Tryd.pinned (.plain (OpenSpec.ofChange fnExactLoadTextSpec)) fnExactLoadTextCard

/-- THE SECOND FORM's CARD OF 'laws.FnExactLoadText'. -/
def fnExactLoadTextUptoCard : Claim7 := { stood := { row := fnExactLoadTextUptoRow, standIns := [], harness := (true, "075c90cbf6ee8c2f3d84cb53e9c95f128e0965199c2cbb143e17a306da76b00d"), looks := false }, kinds := [], alts := [], laidByText := true, laidKinds := [.data, .data, .data], laidTests := true, laidLooks := .later }
def FnExactLoadTextUptoCardSaid : Prop := Claim7.holds Tryd.pinned (.plain (OpenSpec.upto fnExactLoadTextSpec)) fnExactLoadTextUptoCard
end Rows
end Go.Proofs.YtgnhfkbjojnjnaaDoor

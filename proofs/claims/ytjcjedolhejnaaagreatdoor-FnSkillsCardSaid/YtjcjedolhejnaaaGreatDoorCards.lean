/-
  DERIVED. GIVEN WITH THE SEED: THE CARDS: each row of YtjcjedolhejnaaaGreatDoorRows.lean that lists a variable, with what it lists TIED to the program's text (the seventh form; the later family's looks); each row that meets fmt, with fmt's text TOLD by the authors' own Lean function (tested against real Go, not proved from fmt's source: count such statements apart). THE CARD IS WHAT COUNTS. Prove the row's statement (the work); the ties are given (YtjcjedolhejnaaaGreatDoorTie.lean); close each card by the builder's one call (the guide's Derived/Test/ToyasCard.lean, 'card_holds'). Laid BY PROGRAM, IN A SANDBOX (cutbox-door.mjs). By AI agents, Wed Nov 11 2026. No macro, syntax, notation, axiom, sorry.
-/
import Derived.Test.YtjcjedolhejnaaaGreatDoorRows
import GoSem.ClaimSeven
namespace Go.Proofs.YtjcjedolhejnaaaGreatDoor
namespace Rows

/-- THE TIED CARD OF 'laws.FnSkills'. -/
def fnSkillsCard : Claim7 := { stood := { row := fnSkillsRow, standIns := [], harness := (true, "4fae2fc87beb54da77257ff1fc21cd7afd6a480af7e7b66b41026ca0b22d167e"), looks := true }, kinds := [], alts := [], laidByText := true, laidKinds := [.data, .data, .data, .data, .sentinel, .sentinel, .pinned], laidTests := true, laidLooks := .later }
def FnSkillsCardSaid : Prop := Claim7.holds Tryz.pinned (.plain (OpenSpec.ofChange fnSkillsSpec)) fnSkillsCard

/-- THE SECOND FORM's CARD OF 'laws.FnSkills'. -/
def fnSkillsUptoCard : Claim7 := { stood := { row := fnSkillsUptoRow, standIns := [], harness := (true, "4fae2fc87beb54da77257ff1fc21cd7afd6a480af7e7b66b41026ca0b22d167e"), looks := true }, kinds := [], alts := [], laidByText := true, laidKinds := [.data, .data, .data, .data, .sentinel, .sentinel, .pinned], laidTests := true, laidLooks := .later }
def FnSkillsUptoCardSaid : Prop := Claim7.holds Tryz.pinned (.plain (OpenSpec.upto fnSkillsSpec)) fnSkillsUptoCard
end Rows
end Go.Proofs.YtjcjedolhejnaaaGreatDoor

/-
  DERIVED. GIVEN WITH THE SEED: THE CARDS: each row of YtjjmiapopjaoeaaDoorRows.lean that lists a variable, with what it lists TIED to the program's text (the seventh form; the later family's looks); each row that meets fmt, with fmt's text TOLD by the authors' own Lean function (tested against real Go, not proved from fmt's source: count such statements apart). THE CARD IS WHAT COUNTS. Prove the row's statement (the work); the ties are given (YtjjmiapopjaoeaaDoorTie.lean); close each card by the builder's one call (the guide's Derived/Test/ToyasCard.lean, 'card_holds'). Laid BY PROGRAM, IN A SANDBOX (cutbox-door.mjs). By AI agents, Wed Nov 11 2026. No macro, syntax, notation, axiom, sorry.
-/
import Derived.Test.YtjjmiapopjaoeaaDoorRows
import GoSem.ClaimSeven
namespace Go.Proofs.YtjjmiapopjaoeaaDoor
namespace Rows

/-- THE TIED CARD OF 'laws.FnExactParseSkills'. -/
def fnExactParseSkillsCard : Claim7 := { stood := { row := fnExactParseSkillsRow, standIns := [], harness := (true, "df8a19ce985447c93eda8a835999c0f9750b10b0118f86386670b39618ddc937"), looks := true }, kinds := [], alts := [], laidByText := true, laidKinds := [.data, .data, .data, .data, .sentinel, .sentinel, .pinned], laidTests := true, laidLooks := .later }
def FnExactParseSkillsCardSaid : Prop := Claim7.holds Tryd.pinned (.plain (OpenSpec.ofChange fnExactParseSkillsSpec)) fnExactParseSkillsCard

/-- THE SECOND FORM's CARD OF 'laws.FnExactParseSkills'. -/
def fnExactParseSkillsUptoCard : Claim7 := { stood := { row := fnExactParseSkillsUptoRow, standIns := [], harness := (true, "df8a19ce985447c93eda8a835999c0f9750b10b0118f86386670b39618ddc937"), looks := true }, kinds := [], alts := [], laidByText := true, laidKinds := [.data, .data, .data, .data, .sentinel, .sentinel, .pinned], laidTests := true, laidLooks := .later }
def FnExactParseSkillsUptoCardSaid : Prop := Claim7.holds Tryd.pinned (.plain (OpenSpec.upto fnExactParseSkillsSpec)) fnExactParseSkillsUptoCard
end Rows
end Go.Proofs.YtjjmiapopjaoeaaDoor

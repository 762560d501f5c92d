/-
  DERIVED. GIVEN WITH THE SEED: THE CARDS: each row of YtjiokhgmoalnpaaDoorRows.lean that lists a variable, with what it lists TIED to the program's text (the seventh form; the later family's looks); each row that meets fmt, with fmt's text TOLD by the authors' own Lean function (tested against real Go, not proved from fmt's source: count such statements apart). THE CARD IS WHAT COUNTS. Prove the row's statement (the work); the ties are given (YtjiokhgmoalnpaaDoorTie.lean); close each card by the builder's one call (the guide's Derived/Test/ToyasCard.lean, 'card_holds'). Laid BY PROGRAM, IN A SANDBOX (cutbox-door.mjs). By AI agents, Wed Nov 11 2026. No macro, syntax, notation, axiom, sorry.
-/
import Derived.Test.YtjiokhgmoalnpaaDoorRows
import GoSem.ClaimSeven
namespace Go.Proofs.YtjiokhgmoalnpaaDoor
namespace Rows

/-- THE TIED CARD OF 'laws.FnExactSkillsText'. -/
def fnExactSkillsTextCard : Claim7 := { stood := { row := fnExactSkillsTextRow, standIns := [], harness := (true, "007d378dd4a5221f8a1945aaf202465b46f7944b893ed5e8e08a0800280ce071"), looks := true }, kinds := [], alts := [], laidByText := true, laidKinds := [.data, .data, .data], laidTests := true, laidLooks := .later }
def FnExactSkillsTextCardSaid : Prop := Claim7.holds Tryd.pinned (.plain (OpenSpec.ofChange fnExactSkillsTextSpec)) fnExactSkillsTextCard

/-- THE TIED CARD OF 'laws.FnExactIncidentText'. -/
def fnExactIncidentTextCard : Claim7 := { stood := { row := fnExactIncidentTextRow, standIns := [], harness := (true, "007d378dd4a5221f8a1945aaf202465b46f7944b893ed5e8e08a0800280ce071"), looks := true }, kinds := [], alts := [], laidByText := true, laidKinds := [.data, .data, .data], laidTests := true, laidLooks := .later }
def FnExactIncidentTextCardSaid : Prop := Claim7.holds Tryd.pinned (.plain (OpenSpec.ofChange fnExactIncidentTextSpec)) fnExactIncidentTextCard

/-- THE TIED CARD OF 'laws.FnExactParseSkills'. -/
def fnExactParseSkillsCard : Claim7 := { stood := { row := fnExactParseSkillsRow, standIns := [], harness := (true, "007d378dd4a5221f8a1945aaf202465b46f7944b893ed5e8e08a0800280ce071"), looks := true }, kinds := [], alts := [], laidByText := true, laidKinds := [.data, .data, .data, .data, .sentinel, .sentinel, .pinned], laidTests := true, laidLooks := .later }
def FnExactParseSkillsCardSaid : Prop := Claim7.holds Tryd.pinned (.plain (OpenSpec.ofChange fnExactParseSkillsSpec)) fnExactParseSkillsCard

/-- THE TIED CARD OF 'laws.FnExactParseIncident'. -/
def fnExactParseIncidentCard : Claim7 := { stood := { row := fnExactParseIncidentRow, standIns := [], harness := (true, "007d378dd4a5221f8a1945aaf202465b46f7944b893ed5e8e08a0800280ce071"), looks := true }, kinds := [], alts := [], laidByText := true, laidKinds := [.data, .data, .data, .data, .sentinel, .sentinel, .pinned], laidTests := true, laidLooks := .later }
def FnExactParseIncidentCardSaid : Prop := Claim7.holds Tryd.pinned (.plain (OpenSpec.ofChange fnExactParseIncidentSpec)) fnExactParseIncidentCard

/-- THE SECOND FORM's CARD OF 'laws.FnExactSkillsText'. -/
def fnExactSkillsTextUptoCard : Claim7 := { stood := { row := fnExactSkillsTextUptoRow, standIns := [], harness := (true, "007d378dd4a5221f8a1945aaf202465b46f7944b893ed5e8e08a0800280ce071"), looks := true }, kinds := [], alts := [], laidByText := true, laidKinds := [.data, .data, .data], laidTests := true, laidLooks := .later }
def FnExactSkillsTextUptoCardSaid : Prop := Claim7.holds Tryd.pinned (.plain (OpenSpec.upto fnExactSkillsTextSpec)) fnExactSkillsTextUptoCard

/-- THE SECOND FORM's CARD OF 'laws.FnExactIncidentText'. -/
def fnExactIncidentTextUptoCard : Claim7 := { stood := { row := fnExactIncidentTextUptoRow, standIns := [], harness := (true, "007d378dd4a5221f8a1945aaf202465b46f7944b893ed5e8e08a0800280ce071"), looks := true }, kinds := [], alts := [], laidByText := true, laidKinds := [.data, .data, .data], laidTests := true, laidLooks := .later }
def FnExactIncidentTextUptoCardSaid : Prop := Claim7.holds Tryd.pinned (.plain (OpenSpec.upto fnExactIncidentTextSpec)) fnExactIncidentTextUptoCard

/-- THE SECOND FORM's CARD OF 'laws.FnExactParseSkills'. -/
def fnExactParseSkillsUptoCard : Claim7 := { stood := { row := fnExactParseSkillsUptoRow, standIns := [], harness := (true, "007d378dd4a5221f8a1945aaf202465b46f7944b893ed5e8e08a0800280ce071"), looks := true }, kinds := [], alts := [], laidByText := true, laidKinds := [.data, .data, .data, .data, .sentinel, .sentinel, .pinned], laidTests := true, laidLooks := .later }
def FnExactParseSkillsUptoCardSaid : Prop := Claim7.holds Tryd.pinned (.plain (OpenSpec.upto fnExactParseSkillsSpec)) fnExactParseSkillsUptoCard

/-- THE SECOND FORM's CARD OF 'laws.FnExactParseIncident'. -/
def fnExactParseIncidentUptoCard : Claim7 := { stood := { row := fnExactParseIncidentUptoRow, standIns := [], harness := (true, "007d378dd4a5221f8a1945aaf202465b46f7944b893ed5e8e08a0800280ce071"), looks := true }, kinds := [], alts := [], laidByText := true, laidKinds := [.data, .data, .data, .data, .sentinel, .sentinel, .pinned], laidTests := true, laidLooks := .later }
def FnExactParseIncidentUptoCardSaid : Prop := Claim7.holds Tryd.pinned (.plain (OpenSpec.upto fnExactParseIncidentSpec)) fnExactParseIncidentUptoCard
end Rows
end Go.Proofs.YtjiokhgmoalnpaaDoor

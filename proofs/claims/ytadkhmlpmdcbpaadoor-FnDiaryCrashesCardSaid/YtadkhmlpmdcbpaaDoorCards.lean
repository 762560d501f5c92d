/-
  DERIVED. GIVEN WITH THE SEED: THE CARDS: each row of YtadkhmlpmdcbpaaDoorRows.lean that lists a variable, with what it lists TIED to the program's text (the seventh form; the later family's looks); each row that meets fmt, with fmt's text TOLD by the authors' own Lean function (tested against real Go, not proved from fmt's source: count such statements apart). THE CARD IS WHAT COUNTS. Prove the row's statement (the work); the ties are given (YtadkhmlpmdcbpaaDoorTie.lean); close each card by the builder's one call (the guide's Derived/Test/ToyasCard.lean, 'card_holds'). Laid BY PROGRAM, IN A SANDBOX (cutbox-door.mjs). By AI agents, Wed Nov 11 2026. No macro, syntax, notation, axiom, sorry.
-/
import Derived.Test.YtadkhmlpmdcbpaaDoorRows
import GoSem.ClaimSeven
namespace Go.Proofs.YtadkhmlpmdcbpaaDoor
namespace Rows

/-- THE TIED CARD OF 'laws.FnDiaryCrashes'. -/
def fnDiaryCrashesCard : Claim7 := { stood := { row := fnDiaryCrashesRow, standIns := [], harness := (true, "48a906435ef0aa95d8ba6307b63e7dce9135c307517423064f996a2e5b00a83e"), looks := true }, kinds := [], alts := [], laidByText := true, laidKinds := [.data, .data, .data, .data, .sentinel, .sentinel, .pinned], laidTests := true, laidLooks := .later }
def FnDiaryCrashesCardSaid : Prop := Claim7.holds Tryd.pinned (.plain (OpenSpec.ofChange fnDiaryCrashesSpec)) fnDiaryCrashesCard

/-- THE SECOND FORM's CARD OF 'laws.FnDiaryCrashes'. -/
def fnDiaryCrashesUptoCard : Claim7 := { stood := { row := fnDiaryCrashesUptoRow, standIns := [], harness := (true, "48a906435ef0aa95d8ba6307b63e7dce9135c307517423064f996a2e5b00a83e"), looks := true }, kinds := [], alts := [], laidByText := true, laidKinds := [.data, .data, .data, .data, .sentinel, .sentinel, .pinned], laidTests := true, laidLooks := .later }
def FnDiaryCrashesUptoCardSaid : Prop := Claim7.holds Tryd.pinned (.plain (OpenSpec.upto fnDiaryCrashesSpec)) fnDiaryCrashesUptoCard
end Rows
end Go.Proofs.YtadkhmlpmdcbpaaDoor

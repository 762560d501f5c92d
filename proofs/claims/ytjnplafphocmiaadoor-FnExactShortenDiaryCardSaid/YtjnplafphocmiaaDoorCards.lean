/-
  DERIVED. GIVEN WITH THE SEED: THE CARDS: each row of YtjnplafphocmiaaDoorRows.lean that lists a variable, with what it lists TIED to the program's text (the seventh form; the later family's looks); each row that meets fmt, with fmt's text TOLD by the authors' own Lean function (tested against real Go, not proved from fmt's source: count such statements apart). THE CARD IS WHAT COUNTS. Prove the row's statement (the work); the ties are given (YtjnplafphocmiaaDoorTie.lean); close each card by the builder's one call (the guide's Derived/Test/ToyasCard.lean, 'card_holds'). Laid BY PROGRAM, IN A SANDBOX (cutbox-door.mjs). By AI agents, Wed Nov 11 2026. No macro, syntax, notation, axiom, sorry.
-/
import Derived.Test.YtjnplafphocmiaaDoorRows
import GoSem.ClaimSeven
namespace Go.Proofs.YtjnplafphocmiaaDoor
namespace Rows

/-- THE TIED CARD OF 'laws.FnExactStateLine'. -/
def fnExactStateLineCard : Claim7 := { stood := { row := fnExactStateLineRow, standIns := [], harness := (true, "d1fb50b53edd2f7cb93cc5d26a5f923e391acbe124670db07da8ae8f69d1d0bd"), looks := true }, kinds := [], alts := [], laidByText := true, laidKinds := [.data, .data, .data], laidTests := true, laidLooks := .later }
def FnExactStateLineCardSaid : Prop := Claim7.holds Tryd.pinned (.plain (OpenSpec.ofChange fnExactStateLineSpec)) fnExactStateLineCard

/-- THE TIED CARD OF 'laws.FnExactParseStateLine'. -/
def fnExactParseStateLineCard : Claim7 := { stood := { row := fnExactParseStateLineRow, standIns := [], harness := (true, "d1fb50b53edd2f7cb93cc5d26a5f923e391acbe124670db07da8ae8f69d1d0bd"), looks := true }, kinds := [], alts := [], laidByText := true, laidKinds := [.data, .data, .data, .data, .sentinel, .sentinel, .pinned], laidTests := true, laidLooks := .later }
def FnExactParseStateLineCardSaid : Prop := Claim7.holds Tryd.pinned (.plain (OpenSpec.ofChange fnExactParseStateLineSpec)) fnExactParseStateLineCard

/-- THE TIED CARD OF 'laws.FnExactRecoverDiary'. -/
def fnExactRecoverDiaryCard : Claim7 := { stood := { row := fnExactRecoverDiaryRow, standIns := [], harness := (true, "d1fb50b53edd2f7cb93cc5d26a5f923e391acbe124670db07da8ae8f69d1d0bd"), looks := true }, kinds := [], alts := [], laidByText := true, laidKinds := [.data, .data, .data, .data, .sentinel, .sentinel, .pinned], laidTests := true, laidLooks := .later }
def FnExactRecoverDiaryCardSaid : Prop := Claim7.holds Tryd.pinned (.plain (OpenSpec.ofChange fnExactRecoverDiarySpec)) fnExactRecoverDiaryCard

/-- THE TIED CARD OF 'laws.FnExactIsDiary'. -/
def fnExactIsDiaryCard : Claim7 := { stood := { row := fnExactIsDiaryRow, standIns := [], harness := (true, "d1fb50b53edd2f7cb93cc5d26a5f923e391acbe124670db07da8ae8f69d1d0bd"), looks := true }, kinds := [], alts := [], laidByText := true, laidKinds := [.data, .data, .data, .data, .sentinel, .sentinel, .pinned], laidTests := true, laidLooks := .later }
def FnExactIsDiaryCardSaid : Prop := Claim7.holds Tryd.pinned (.plain (OpenSpec.ofChange fnExactIsDiarySpec)) fnExactIsDiaryCard

/-- THE TIED CARD OF 'laws.FnExactCrashDiary'. -/
def fnExactCrashDiaryCard : Claim7 := { stood := { row := fnExactCrashDiaryRow, standIns := [], harness := (true, "d1fb50b53edd2f7cb93cc5d26a5f923e391acbe124670db07da8ae8f69d1d0bd"), looks := true }, kinds := [], alts := [], laidByText := true, laidKinds := [.data, .data, .data, .data, .sentinel, .sentinel, .pinned], laidTests := true, laidLooks := .later }
def FnExactCrashDiaryCardSaid : Prop := Claim7.holds Tryd.pinned (.plain (OpenSpec.ofChange fnExactCrashDiarySpec)) fnExactCrashDiaryCard

/-- THE TIED CARD OF 'laws.FnExactFlushDiary'. -/
def fnExactFlushDiaryCard : Claim7 := { stood := { row := fnExactFlushDiaryRow, standIns := [], harness := (true, "d1fb50b53edd2f7cb93cc5d26a5f923e391acbe124670db07da8ae8f69d1d0bd"), looks := true }, kinds := [], alts := [], laidByText := true, laidKinds := [.data, .data, .data, .data, .sentinel, .sentinel, .pinned], laidTests := true, laidLooks := .later }
def FnExactFlushDiaryCardSaid : Prop := Claim7.holds Tryd.pinned (.plain (OpenSpec.ofChange fnExactFlushDiarySpec)) fnExactFlushDiaryCard

/-- THE TIED CARD OF 'laws.FnExactWriteState'. -/
def fnExactWriteStateCard : Claim7 := { stood := { row := fnExactWriteStateRow, standIns := [], harness := (true, "d1fb50b53edd2f7cb93cc5d26a5f923e391acbe124670db07da8ae8f69d1d0bd"), looks := true }, kinds := [], alts := [], laidByText := true, laidKinds := [.data, .data, .data, .data, .sentinel, .sentinel, .pinned], laidTests := true, laidLooks := .later }
def FnExactWriteStateCardSaid : Prop := Claim7.holds Tryd.pinned (.plain (OpenSpec.ofChange fnExactWriteStateSpec)) fnExactWriteStateCard

/-- THE TIED CARD OF 'laws.FnExactWrittenStates'. -/
def fnExactWrittenStatesCard : Claim7 := { stood := { row := fnExactWrittenStatesRow, standIns := [], harness := (true, "d1fb50b53edd2f7cb93cc5d26a5f923e391acbe124670db07da8ae8f69d1d0bd"), looks := true }, kinds := [], alts := [], laidByText := true, laidKinds := [.data, .data, .data, .data, .sentinel, .sentinel, .pinned], laidTests := true, laidLooks := .later }
def FnExactWrittenStatesCardSaid : Prop := Claim7.holds Tryd.pinned (.plain (OpenSpec.ofChange fnExactWrittenStatesSpec)) fnExactWrittenStatesCard

/-- THE TIED CARD OF 'laws.FnExactLostStates'. -/
def fnExactLostStatesCard : Claim7 := { stood := { row := fnExactLostStatesRow, standIns := [], harness := (true, "d1fb50b53edd2f7cb93cc5d26a5f923e391acbe124670db07da8ae8f69d1d0bd"), looks := true }, kinds := [], alts := [], laidByText := true, laidKinds := [.data, .data, .data, .data, .sentinel, .sentinel, .pinned], laidTests := true, laidLooks := .later }
def FnExactLostStatesCardSaid : Prop := Claim7.holds Tryd.pinned (.plain (OpenSpec.ofChange fnExactLostStatesSpec)) fnExactLostStatesCard

/-- THE TIED CARD OF 'laws.FnExactShortenDiary'. -/
def fnExactShortenDiaryCard : Claim7 := { stood := { row := fnExactShortenDiaryRow, standIns := [], harness := (true, "d1fb50b53edd2f7cb93cc5d26a5f923e391acbe124670db07da8ae8f69d1d0bd"), looks := true }, kinds := [], alts := [], laidByText := true, laidKinds := [.data, .data, .data, .data, .sentinel, .sentinel, .pinned], laidTests := true, laidLooks := .later }
def FnExactShortenDiaryCardSaid : Prop := Claim7.holds Tryd.pinned (.plain (OpenSpec.ofChange fnExactShortenDiarySpec)) fnExactShortenDiaryCard

/-- THE TIED CARD OF 'laws.FnExactKnownStates'. -/
def fnExactKnownStatesCard : Claim7 := { stood := { row := fnExactKnownStatesRow, standIns := [], harness := (true, "d1fb50b53edd2f7cb93cc5d26a5f923e391acbe124670db07da8ae8f69d1d0bd"), looks := true }, kinds := [], alts := [], laidByText := true, laidKinds := [.data, .data, .data, .data, .sentinel, .sentinel, .pinned], laidTests := true, laidLooks := .later }
def FnExactKnownStatesCardSaid : Prop := Claim7.holds Tryd.pinned (.plain (OpenSpec.ofChange fnExactKnownStatesSpec)) fnExactKnownStatesCard

/-- THE SECOND FORM's CARD OF 'laws.FnExactStateLine'. -/
def fnExactStateLineUptoCard : Claim7 := { stood := { row := fnExactStateLineUptoRow, standIns := [], harness := (true, "d1fb50b53edd2f7cb93cc5d26a5f923e391acbe124670db07da8ae8f69d1d0bd"), looks := true }, kinds := [], alts := [], laidByText := true, laidKinds := [.data, .data, .data], laidTests := true, laidLooks := .later }
def FnExactStateLineUptoCardSaid : Prop := Claim7.holds Tryd.pinned (.plain (OpenSpec.upto fnExactStateLineSpec)) fnExactStateLineUptoCard

/-- THE SECOND FORM's CARD OF 'laws.FnExactParseStateLine'. -/
def fnExactParseStateLineUptoCard : Claim7 := { stood := { row := fnExactParseStateLineUptoRow, standIns := [], harness := (true, "d1fb50b53edd2f7cb93cc5d26a5f923e391acbe124670db07da8ae8f69d1d0bd"), looks := true }, kinds := [], alts := [], laidByText := true, laidKinds := [.data, .data, .data, .data, .sentinel, .sentinel, .pinned], laidTests := true, laidLooks := .later }
def FnExactParseStateLineUptoCardSaid : Prop := Claim7.holds Tryd.pinned (.plain (OpenSpec.upto fnExactParseStateLineSpec)) fnExactParseStateLineUptoCard

/-- THE SECOND FORM's CARD OF 'laws.FnExactRecoverDiary'. -/
def fnExactRecoverDiaryUptoCard : Claim7 := { stood := { row := fnExactRecoverDiaryUptoRow, standIns := [], harness := (true, "d1fb50b53edd2f7cb93cc5d26a5f923e391acbe124670db07da8ae8f69d1d0bd"), looks := true }, kinds := [], alts := [], laidByText := true, laidKinds := [.data, .data, .data, .data, .sentinel, .sentinel, .pinned], laidTests := true, laidLooks := .later }
def FnExactRecoverDiaryUptoCardSaid : Prop := Claim7.holds Tryd.pinned (.plain (OpenSpec.upto fnExactRecoverDiarySpec)) fnExactRecoverDiaryUptoCard

/-- THE SECOND FORM's CARD OF 'laws.FnExactIsDiary'. -/
def fnExactIsDiaryUptoCard : Claim7 := { stood := { row := fnExactIsDiaryUptoRow, standIns := [], harness := (true, "d1fb50b53edd2f7cb93cc5d26a5f923e391acbe124670db07da8ae8f69d1d0bd"), looks := true }, kinds := [], alts := [], laidByText := true, laidKinds := [.data, .data, .data, .data, .sentinel, .sentinel, .pinned], laidTests := true, laidLooks := .later }
def FnExactIsDiaryUptoCardSaid : Prop := Claim7.holds Tryd.pinned (.plain (OpenSpec.upto fnExactIsDiarySpec)) fnExactIsDiaryUptoCard

/-- THE SECOND FORM's CARD OF 'laws.FnExactCrashDiary'. -/
def fnExactCrashDiaryUptoCard : Claim7 := { stood := { row := fnExactCrashDiaryUptoRow, standIns := [], harness := (true, "d1fb50b53edd2f7cb93cc5d26a5f923e391acbe124670db07da8ae8f69d1d0bd"), looks := true }, kinds := [], alts := [], laidByText := true, laidKinds := [.data, .data, .data, .data, .sentinel, .sentinel, .pinned], laidTests := true, laidLooks := .later }
def FnExactCrashDiaryUptoCardSaid : Prop := Claim7.holds Tryd.pinned (.plain (OpenSpec.upto fnExactCrashDiarySpec)) fnExactCrashDiaryUptoCard

/-- THE SECOND FORM's CARD OF 'laws.FnExactFlushDiary'. -/
def fnExactFlushDiaryUptoCard : Claim7 := { stood := { row := fnExactFlushDiaryUptoRow, standIns := [], harness := (true, "d1fb50b53edd2f7cb93cc5d26a5f923e391acbe124670db07da8ae8f69d1d0bd"), looks := true }, kinds := [], alts := [], laidByText := true, laidKinds := [.data, .data, .data, .data, .sentinel, .sentinel, .pinned], laidTests := true, laidLooks := .later }
def FnExactFlushDiaryUptoCardSaid : Prop := Claim7.holds Tryd.pinned (.plain (OpenSpec.upto fnExactFlushDiarySpec)) fnExactFlushDiaryUptoCard

/-- THE SECOND FORM's CARD OF 'laws.FnExactWriteState'. -/
def fnExactWriteStateUptoCard : Claim7 := { stood := { row := fnExactWriteStateUptoRow, standIns := [], harness := (true, "d1fb50b53edd2f7cb93cc5d26a5f923e391acbe124670db07da8ae8f69d1d0bd"), looks := true }, kinds := [], alts := [], laidByText := true, laidKinds := [.data, .data, .data, .data, .sentinel, .sentinel, .pinned], laidTests := true, laidLooks := .later }
def FnExactWriteStateUptoCardSaid : Prop := Claim7.holds Tryd.pinned (.plain (OpenSpec.upto fnExactWriteStateSpec)) fnExactWriteStateUptoCard

/-- THE SECOND FORM's CARD OF 'laws.FnExactWrittenStates'. -/
def fnExactWrittenStatesUptoCard : Claim7 := { stood := { row := fnExactWrittenStatesUptoRow, standIns := [], harness := (true, "d1fb50b53edd2f7cb93cc5d26a5f923e391acbe124670db07da8ae8f69d1d0bd"), looks := true }, kinds := [], alts := [], laidByText := true, laidKinds := [.data, .data, .data, .data, .sentinel, .sentinel, .pinned], laidTests := true, laidLooks := .later }
def FnExactWrittenStatesUptoCardSaid : Prop := Claim7.holds Tryd.pinned (.plain (OpenSpec.upto fnExactWrittenStatesSpec)) fnExactWrittenStatesUptoCard

/-- THE SECOND FORM's CARD OF 'laws.FnExactLostStates'. -/
def fnExactLostStatesUptoCard : Claim7 := { stood := { row := fnExactLostStatesUptoRow, standIns := [], harness := (true, "d1fb50b53edd2f7cb93cc5d26a5f923e391acbe124670db07da8ae8f69d1d0bd"), looks := true }, kinds := [], alts := [], laidByText := true, laidKinds := [.data, .data, .data, .data, .sentinel, .sentinel, .pinned], laidTests := true, laidLooks := .later }
def FnExactLostStatesUptoCardSaid : Prop := Claim7.holds Tryd.pinned (.plain (OpenSpec.upto fnExactLostStatesSpec)) fnExactLostStatesUptoCard

/-- THE SECOND FORM's CARD OF 'laws.FnExactShortenDiary'. -/
def fnExactShortenDiaryUptoCard : Claim7 := { stood := { row := fnExactShortenDiaryUptoRow, standIns := [], harness := (true, "d1fb50b53edd2f7cb93cc5d26a5f923e391acbe124670db07da8ae8f69d1d0bd"), looks := true }, kinds := [], alts := [], laidByText := true, laidKinds := [.data, .data, .data, .data, .sentinel, .sentinel, .pinned], laidTests := true, laidLooks := .later }
def FnExactShortenDiaryUptoCardSaid : Prop := Claim7.holds Tryd.pinned (.plain (OpenSpec.upto fnExactShortenDiarySpec)) fnExactShortenDiaryUptoCard

/-- THE SECOND FORM's CARD OF 'laws.FnExactKnownStates'. -/
def fnExactKnownStatesUptoCard : Claim7 := { stood := { row := fnExactKnownStatesUptoRow, standIns := [], harness := (true, "d1fb50b53edd2f7cb93cc5d26a5f923e391acbe124670db07da8ae8f69d1d0bd"), looks := true }, kinds := [], alts := [], laidByText := true, laidKinds := [.data, .data, .data, .data, .sentinel, .sentinel, .pinned], laidTests := true, laidLooks := .later }
def FnExactKnownStatesUptoCardSaid : Prop := Claim7.holds Tryd.pinned (.plain (OpenSpec.upto fnExactKnownStatesSpec)) fnExactKnownStatesUptoCard
end Rows
end Go.Proofs.YtjnplafphocmiaaDoor

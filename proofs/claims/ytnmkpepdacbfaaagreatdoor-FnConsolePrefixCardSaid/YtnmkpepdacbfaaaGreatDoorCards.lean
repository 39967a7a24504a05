/-
  DERIVED. GIVEN WITH THE SEED: THE CARDS: each row of YtnmkpepdacbfaaaGreatDoorRows.lean that lists a variable, with what it lists TIED to the program's text (the seventh form; the later family's looks); each row that meets fmt, with fmt's text TOLD by the authors' own Lean function (tested against real Go, not proved from fmt's source: count such statements apart). THE CARD IS WHAT COUNTS. Prove the row's statement (the work); the ties are given (YtnmkpepdacbfaaaGreatDoorTie.lean); close each card by the builder's one call (the guide's Derived/Test/ToyasCard.lean, 'card_holds'). Laid BY PROGRAM, IN A SANDBOX (cutbox-door.mjs). By AI agents, Wed Nov 11 2026. No macro, syntax, notation, axiom, sorry.
-/
import Derived.Test.YtnmkpepdacbfaaaGreatDoorRows
import GoSem.ClaimSeven
namespace Go.Proofs.YtnmkpepdacbfaaaGreatDoor
namespace Rows

/-- THE TIED CARD OF 'laws.FnExactRunConsole'. -/
def fnExactRunConsoleCard : Claim7 := { stood := { row := fnExactRunConsoleRow, standIns := [], harness := (true, "63afe791225c6c2c3a6679de4a74432c914590667441b1266fc5c601e21c6d31"), looks := true }, kinds := [], alts := [], laidByText := true, laidKinds := [.data, .data, .data, .data, .sentinel, .sentinel, .pinned], laidTests := true, laidLooks := .later }
def FnExactRunConsoleCardSaid : Prop := Claim7.holds Tryz.pinned (.plain (OpenSpec.ofChange fnExactRunConsoleSpec)) fnExactRunConsoleCard

/-- THE TIED CARD OF 'laws.FnConsoleResults'. -/
def fnConsoleResultsCard : Claim7 := { stood := { row := fnConsoleResultsRow, standIns := [], harness := (true, "63afe791225c6c2c3a6679de4a74432c914590667441b1266fc5c601e21c6d31"), looks := true }, kinds := [], alts := [], laidByText := true, laidKinds := [.data, .data, .data, .data, .sentinel, .sentinel, .pinned], laidTests := true, laidLooks := .later }
def FnConsoleResultsCardSaid : Prop := Claim7.holds Tryz.pinned (.plain (OpenSpec.ofChange fnConsoleResultsSpec)) fnConsoleResultsCard

/-- THE TIED CARD OF 'laws.FnConsolePrefix'. -/
def fnConsolePrefixCard : Claim7 := { stood := { row := fnConsolePrefixRow, standIns := [], harness := (true, "63afe791225c6c2c3a6679de4a74432c914590667441b1266fc5c601e21c6d31"), looks := true }, kinds := [], alts := [], laidByText := true, laidKinds := [.data, .data, .data, .data, .sentinel, .sentinel, .pinned], laidTests := true, laidLooks := .later }
def FnConsolePrefixCardSaid : Prop := Claim7.holds Tryz.pinned (.plain (OpenSpec.ofChange fnConsolePrefixSpec)) fnConsolePrefixCard

/-- THE SECOND FORM's CARD OF 'laws.FnExactRunConsole'. -/
def fnExactRunConsoleUptoCard : Claim7 := { stood := { row := fnExactRunConsoleUptoRow, standIns := [], harness := (true, "63afe791225c6c2c3a6679de4a74432c914590667441b1266fc5c601e21c6d31"), looks := true }, kinds := [], alts := [], laidByText := true, laidKinds := [.data, .data, .data, .data, .sentinel, .sentinel, .pinned], laidTests := true, laidLooks := .later }
def FnExactRunConsoleUptoCardSaid : Prop := Claim7.holds Tryz.pinned (.plain (OpenSpec.upto fnExactRunConsoleSpec)) fnExactRunConsoleUptoCard

/-- THE SECOND FORM's CARD OF 'laws.FnConsoleResults'. -/
def fnConsoleResultsUptoCard : Claim7 := { stood := { row := fnConsoleResultsUptoRow, standIns := [], harness := (true, "63afe791225c6c2c3a6679de4a74432c914590667441b1266fc5c601e21c6d31"), looks := true }, kinds := [], alts := [], laidByText := true, laidKinds := [.data, .data, .data, .data, .sentinel, .sentinel, .pinned], laidTests := true, laidLooks := .later }
def FnConsoleResultsUptoCardSaid : Prop := Claim7.holds Tryz.pinned (.plain (OpenSpec.upto fnConsoleResultsSpec)) fnConsoleResultsUptoCard

/-- THE SECOND FORM's CARD OF 'laws.FnConsolePrefix'. -/
def fnConsolePrefixUptoCard : Claim7 := { stood := { row := fnConsolePrefixUptoRow, standIns := [], harness := (true, "63afe791225c6c2c3a6679de4a74432c914590667441b1266fc5c601e21c6d31"), looks := true }, kinds := [], alts := [], laidByText := true, laidKinds := [.data, .data, .data, .data, .sentinel, .sentinel, .pinned], laidTests := true, laidLooks := .later }
def FnConsolePrefixUptoCardSaid : Prop := Claim7.holds Tryz.pinned (.plain (OpenSpec.upto fnConsolePrefixSpec)) fnConsolePrefixUptoCard
end Rows
end Go.Proofs.YtnmkpepdacbfaaaGreatDoor

/-
  DERIVED. GIVEN WITH THE SEED: THE CARDS: each row of YthejclmonnpncaaGreatDoorRows.lean that lists a variable, with what it lists TIED to the program's text (the seventh form; the later family's looks); each row that meets fmt, with fmt's text TOLD by the authors' own Lean function (tested against real Go, not proved from fmt's source: count such statements apart). THE CARD IS WHAT COUNTS. Prove the row's statement (the work); the ties are given (YthejclmonnpncaaGreatDoorTie.lean); close each card by the builder's one call (the guide's Derived/Test/ToyasCard.lean, 'card_holds'). Laid BY PROGRAM, IN A SANDBOX (cutbox-door.mjs). By AI agents, Wed Nov 11 2026. No macro, syntax, notation, axiom, sorry.
-/
import Derived.Test.YthejclmonnpncaaGreatDoorRows
import GoSem.ClaimSeven
namespace Go.Proofs.YthejclmonnpncaaGreatDoor
namespace Rows

/-- THE TIED CARD OF 'laws.FnExactSearchLine'. -/
def fnExactSearchLineCard : Claim7 := { stood := { row := fnExactSearchLineRow, standIns := [], harness := (true, "732892087a7c0c8cc49112006e7f59ca7ac35350a0dbfb002591edaadc300204"), looks := false }, kinds := [], alts := [], laidByText := true, laidKinds := [.data, .data, .data], laidTests := true, laidLooks := .later }
def FnExactSearchLineCardSaid : Prop := Claim7.holds Tryz.pinned (.plain (OpenSpec.ofChange fnExactSearchLineSpec)) fnExactSearchLineCard

/-- THE SECOND FORM's CARD OF 'laws.FnExactSearchLine'. -/
def fnExactSearchLineUptoCard : Claim7 := { stood := { row := fnExactSearchLineUptoRow, standIns := [], harness := (true, "732892087a7c0c8cc49112006e7f59ca7ac35350a0dbfb002591edaadc300204"), looks := false }, kinds := [], alts := [], laidByText := true, laidKinds := [.data, .data, .data], laidTests := true, laidLooks := .later }
def FnExactSearchLineUptoCardSaid : Prop := Claim7.holds Tryz.pinned (.plain (OpenSpec.upto fnExactSearchLineSpec)) fnExactSearchLineUptoCard
end Rows
end Go.Proofs.YthejclmonnpncaaGreatDoor

/-
  DERIVED. GIVEN WITH THE SEED: THE CARDS: each row of YtcdkbpokannamaaDoorRows.lean that lists a variable, with what it lists TIED to the program's text (the seventh form; the later family's looks); each row that meets fmt, with fmt's text TOLD by the authors' own Lean function (tested against real Go, not proved from fmt's source: count such statements apart). THE CARD IS WHAT COUNTS. Prove the row's statement (the work); the ties are given (YtcdkbpokannamaaDoorTie.lean); close each card by the builder's one call (the guide's Derived/Test/ToyasCard.lean, 'card_holds'). Laid BY PROGRAM, IN A SANDBOX (cutbox-door.mjs). By AI agents, Wed Nov 11 2026. No macro, syntax, notation, axiom, sorry.
-/
import Derived.Test.YtcdkbpokannamaaDoorRows
import GoSem.ClaimSeven
namespace Go.Proofs.YtcdkbpokannamaaDoor
namespace Rows

/-- THE TIED CARD OF 'laws.FnExactFormatPattern'. -/
def fnExactFormatPatternCard : Claim7 := { stood := { row := fnExactFormatPatternRow, standIns := [], harness := (true, "bc0869679e26b4fe3597362fac38fcb2db34a1e0155cc61ca1fdb4c88ec2f275"), looks := false }, kinds := [], alts := [], laidByText := true, laidKinds := [.data, .data, .data], laidTests := true, laidLooks := .later }
def FnExactFormatPatternCardSaid : Prop := Claim7.holds Tryd.pinned (.plain (OpenSpec.ofChange fnExactFormatPatternSpec)) fnExactFormatPatternCard

/-- THE TIED CARD OF 'laws.FnExactWitnessLine'. -/
def fnExactWitnessLineCard : Claim7 := { stood := { row := fnExactWitnessLineRow, standIns := [], harness := (true, "bc0869679e26b4fe3597362fac38fcb2db34a1e0155cc61ca1fdb4c88ec2f275"), looks := false }, kinds := [], alts := [], laidByText := true, laidKinds := [.data, .data, .data], laidTests := true, laidLooks := .later }
def FnExactWitnessLineCardSaid : Prop := Claim7.holds Tryd.pinned (.plain (OpenSpec.ofChange fnExactWitnessLineSpec)) fnExactWitnessLineCard

/-- THE TIED CARD OF 'laws.FnPatterns'. -/
def fnPatternsCard : Claim7 := { stood := { row := fnPatternsRow, standIns := [], harness := (true, "bc0869679e26b4fe3597362fac38fcb2db34a1e0155cc61ca1fdb4c88ec2f275"), looks := false }, kinds := [], alts := [], laidByText := true, laidKinds := [.data, .data, .data], laidTests := true, laidLooks := .later }
def FnPatternsCardSaid : Prop := Claim7.holds Tryd.pinned (.plain (OpenSpec.ofChange fnPatternsSpec)) fnPatternsCard

/-- THE SECOND FORM's CARD OF 'laws.FnExactFormatPattern'. -/
def fnExactFormatPatternUptoCard : Claim7 := { stood := { row := fnExactFormatPatternUptoRow, standIns := [], harness := (true, "bc0869679e26b4fe3597362fac38fcb2db34a1e0155cc61ca1fdb4c88ec2f275"), looks := false }, kinds := [], alts := [], laidByText := true, laidKinds := [.data, .data, .data], laidTests := true, laidLooks := .later }
def FnExactFormatPatternUptoCardSaid : Prop := Claim7.holds Tryd.pinned (.plain (OpenSpec.upto fnExactFormatPatternSpec)) fnExactFormatPatternUptoCard

/-- THE SECOND FORM's CARD OF 'laws.FnExactWitnessLine'. -/
def fnExactWitnessLineUptoCard : Claim7 := { stood := { row := fnExactWitnessLineUptoRow, standIns := [], harness := (true, "bc0869679e26b4fe3597362fac38fcb2db34a1e0155cc61ca1fdb4c88ec2f275"), looks := false }, kinds := [], alts := [], laidByText := true, laidKinds := [.data, .data, .data], laidTests := true, laidLooks := .later }
def FnExactWitnessLineUptoCardSaid : Prop := Claim7.holds Tryd.pinned (.plain (OpenSpec.upto fnExactWitnessLineSpec)) fnExactWitnessLineUptoCard

/-- THE SECOND FORM's CARD OF 'laws.FnPatterns'. -/
def fnPatternsUptoCard : Claim7 := { stood := { row := fnPatternsUptoRow, standIns := [], harness := (true, "bc0869679e26b4fe3597362fac38fcb2db34a1e0155cc61ca1fdb4c88ec2f275"), looks := false }, kinds := [], alts := [], laidByText := true, laidKinds := [.data, .data, .data], laidTests := true, laidLooks := .later }
def FnPatternsUptoCardSaid : Prop := Claim7.holds Tryd.pinned (.plain (OpenSpec.upto fnPatternsSpec)) fnPatternsUptoCard
end Rows
end Go.Proofs.YtcdkbpokannamaaDoor

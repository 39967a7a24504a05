/-
  No cell of these rows narrows 'for every input' (looked for: loops, veiled, ifaces, maps, wideKeys, modest, calm, conditions, laid).
  DERIVED. THE GIVEN ROWS OF THIS SEAT. 6 by the template 'for every input the law returns true; each argument reads behind the call as it read before'; 0 by the template 'total and deterministic' (their statements: YtmfieiphcjenlaaTotals.lean).
  GIVEN WITH THE SEED: the statements are not yours to turn. If you find one false, say at which input.
  Laid BY PROGRAM, IN A SANDBOX (cutbox-rows.mjs): the forced cells as the released guide's own fill.sh prints them over the translation 5ca3e54e10754ece… (all of the seat's roots in one cut). By AI agents, Wed Nov 11 2026. No macro, syntax, notation, axiom, sorry.
-/
import Derived.Test.YtmfieiphcjenlaaChecked
import GoSem.Claim
import GoSem.ClaimJoined
import GoSem.ClaimMapViews
import Derived.JoinedTies
import Derived.KernelRfl
namespace Go.Proofs.Ytmfieiphcjenlaa
/- THE CELL 'sum', in the pinned program and in every row, IS THE sha256 OF THE DUMP (.gsa) THAT YtmfieiphcjenlaaProg.lean LOADS. Nothing in Lean hashes anything: it is a label: what it is worth is what the hold of that sum in a sandbox is worth. -/
noncomputable def Try.pinned : Pinned := { name := "ytmfieiphcjenlaa", sum := "5ca3e54e10754ece5c4d546e3640439429ffba4facc5ae64ca2fd604ab737486", checked := Try.checked }
namespace Rows
def none {H : Type} : Left H := { results := [], args := [] }

/-- 'laws.FnExactChaseStep': WHATEVER THE INPUT: true; the input reads as it did. -/
def fnExactChaseStepSpec : ChangeSpec := { name := "fnExactChaseStep", fn := fun _ => fun
  | [d1, d2, d3] => { results := [.lit (.bool true)], args := [d1, d2, d3] }
  | _ => none }
def fnExactChaseStepRow : OpenClaim := { program := "ytmfieiphcjenlaa", sum := "5ca3e54e10754ece5c4d546e3640439429ffba4facc5ae64ca2fd604ab737486", func := "loop.example/g01988/laws.FnExactChaseStep", spec := "fnExactChaseStep", apart := false }
def FnExactChaseStepSaid : Prop := fnExactChaseStepRow.holds Try.pinned (OpenSpec.ofChange fnExactChaseStepSpec)

/-- ITS FALSE NEIGHBOUR: 'it returns false'. Refute it at one input. -/
def fnExactChaseStepWrong : ChangeSpec := { name := "fnExactChaseStep", fn := fun _ => fun
  | [d1, d2, d3] => { results := [.lit (.bool false)], args := [d1, d2, d3] }
  | _ => none }
def FnExactChaseStepWrongFalsely : Prop := fnExactChaseStepRow.holds Try.pinned (OpenSpec.ofChange fnExactChaseStepWrong)

/-- 'laws.FnExactIsLossless': WHATEVER THE INPUT: true; the input reads as it did. -/
def fnExactIsLosslessSpec : ChangeSpec := { name := "fnExactIsLossless", fn := fun _ => fun
  | [d1, d2, d3] => { results := [.lit (.bool true)], args := [d1, d2, d3] }
  | _ => none }
def fnExactIsLosslessRow : OpenClaim := { program := "ytmfieiphcjenlaa", sum := "5ca3e54e10754ece5c4d546e3640439429ffba4facc5ae64ca2fd604ab737486", func := "loop.example/g01988/laws.FnExactIsLossless", spec := "fnExactIsLossless", apart := false }
def FnExactIsLosslessSaid : Prop := fnExactIsLosslessRow.holds Try.pinned (OpenSpec.ofChange fnExactIsLosslessSpec)

/-- ITS FALSE NEIGHBOUR: 'it returns false'. Refute it at one input. -/
def fnExactIsLosslessWrong : ChangeSpec := { name := "fnExactIsLossless", fn := fun _ => fun
  | [d1, d2, d3] => { results := [.lit (.bool false)], args := [d1, d2, d3] }
  | _ => none }
def FnExactIsLosslessWrongFalsely : Prop := fnExactIsLosslessRow.holds Try.pinned (OpenSpec.ofChange fnExactIsLosslessWrong)

/-- 'laws.FnExactLossTable': WHATEVER THE INPUT: true; the input reads as it did. -/
def fnExactLossTableSpec : ChangeSpec := { name := "fnExactLossTable", fn := fun _ => fun
  | [d1, d2, d3] => { results := [.lit (.bool true)], args := [d1, d2, d3] }
  | _ => none }
def fnExactLossTableRow : OpenClaim := { program := "ytmfieiphcjenlaa", sum := "5ca3e54e10754ece5c4d546e3640439429ffba4facc5ae64ca2fd604ab737486", func := "loop.example/g01988/laws.FnExactLossTable", spec := "fnExactLossTable", apart := false }
def FnExactLossTableSaid : Prop := fnExactLossTableRow.holds Try.pinned (OpenSpec.ofChange fnExactLossTableSpec)

/-- ITS FALSE NEIGHBOUR: 'it returns false'. Refute it at one input. -/
def fnExactLossTableWrong : ChangeSpec := { name := "fnExactLossTable", fn := fun _ => fun
  | [d1, d2, d3] => { results := [.lit (.bool false)], args := [d1, d2, d3] }
  | _ => none }
def FnExactLossTableWrongFalsely : Prop := fnExactLossTableRow.holds Try.pinned (OpenSpec.ofChange fnExactLossTableWrong)

/-- 'laws.FnExactDerivationLines': WHATEVER THE INPUT: true; the input reads as it did. -/
def fnExactDerivationLinesSpec : ChangeSpec := { name := "fnExactDerivationLines", fn := fun _ => fun
  | [d1, d2, d3] => { results := [.lit (.bool true)], args := [d1, d2, d3] }
  | _ => none }
def fnExactDerivationLinesRow : OpenClaim := { program := "ytmfieiphcjenlaa", sum := "5ca3e54e10754ece5c4d546e3640439429ffba4facc5ae64ca2fd604ab737486", func := "loop.example/g01988/laws.FnExactDerivationLines", spec := "fnExactDerivationLines", apart := false }
def FnExactDerivationLinesSaid : Prop := fnExactDerivationLinesRow.holds Try.pinned (OpenSpec.ofChange fnExactDerivationLinesSpec)

/-- ITS FALSE NEIGHBOUR: 'it returns false'. Refute it at one input. -/
def fnExactDerivationLinesWrong : ChangeSpec := { name := "fnExactDerivationLines", fn := fun _ => fun
  | [d1, d2, d3] => { results := [.lit (.bool false)], args := [d1, d2, d3] }
  | _ => none }
def FnExactDerivationLinesWrongFalsely : Prop := fnExactDerivationLinesRow.holds Try.pinned (OpenSpec.ofChange fnExactDerivationLinesWrong)

/-- 'laws.FnExactIsBoyce': WHATEVER THE INPUT: true; the input reads as it did. -/
def fnExactIsBoyceSpec : ChangeSpec := { name := "fnExactIsBoyce", fn := fun _ => fun
  | [d1, d2, d3] => { results := [.lit (.bool true)], args := [d1, d2, d3] }
  | _ => none }
def fnExactIsBoyceRow : OpenClaim := { program := "ytmfieiphcjenlaa", sum := "5ca3e54e10754ece5c4d546e3640439429ffba4facc5ae64ca2fd604ab737486", func := "loop.example/g01988/laws.FnExactIsBoyce", spec := "fnExactIsBoyce", unfollowed := true, recurses := true, apart := false }
def FnExactIsBoyceSaid : Prop := fnExactIsBoyceRow.holds Try.pinned (OpenSpec.ofChange fnExactIsBoyceSpec)

/-- ITS FALSE NEIGHBOUR: 'it returns false'. Refute it at one input. -/
def fnExactIsBoyceWrong : ChangeSpec := { name := "fnExactIsBoyce", fn := fun _ => fun
  | [d1, d2, d3] => { results := [.lit (.bool false)], args := [d1, d2, d3] }
  | _ => none }
def FnExactIsBoyceWrongFalsely : Prop := fnExactIsBoyceRow.holds Try.pinned (OpenSpec.ofChange fnExactIsBoyceWrong)

/-- 'laws.FnExactIsPreserving': WHATEVER THE INPUT: true; the input reads as it did. -/
def fnExactIsPreservingSpec : ChangeSpec := { name := "fnExactIsPreserving", fn := fun _ => fun
  | [d1, d2, d3] => { results := [.lit (.bool true)], args := [d1, d2, d3] }
  | _ => none }
def fnExactIsPreservingRow : OpenClaim := { program := "ytmfieiphcjenlaa", sum := "5ca3e54e10754ece5c4d546e3640439429ffba4facc5ae64ca2fd604ab737486", func := "loop.example/g01988/laws.FnExactIsPreserving", spec := "fnExactIsPreserving", unfollowed := true, recurses := true, apart := false }
def FnExactIsPreservingSaid : Prop := fnExactIsPreservingRow.holds Try.pinned (OpenSpec.ofChange fnExactIsPreservingSpec)

/-- ITS FALSE NEIGHBOUR: 'it returns false'. Refute it at one input. -/
def fnExactIsPreservingWrong : ChangeSpec := { name := "fnExactIsPreserving", fn := fun _ => fun
  | [d1, d2, d3] => { results := [.lit (.bool false)], args := [d1, d2, d3] }
  | _ => none }
def FnExactIsPreservingWrongFalsely : Prop := fnExactIsPreservingRow.holds Try.pinned (OpenSpec.ofChange fnExactIsPreservingWrong)

/- THE SECOND FORM. 'bulk': how many values and letters a reading holds, each counted each time it is reached (what is shared counts as often as it is met; a slice's spare places count too). A statement '..UptoSaid' is the law's where the arguments, and the package variables that the reading takes, are together of bulk at most 1048576: NARROWER than '..Said'. Prove '..Said' where nothing that the law and all that it calls make is longer than what came in: it says more and counts as full. Else prove '..UptoSaid'. A law counts once. -/
mutual
def uptoBulk {H : Type} : DataW H → Nat
  | .lit (.string bytes) => bytes.length + 1
  | .lit _ => 1
  | .nil => 1
  | .ptr d => uptoBulk d + 1
  | .slice elems spare => uptoBulkAll elems + uptoBulkAll spare + 1
  | .agg parts => uptoBulkAll parts + 1
  | .iface _ d => uptoBulk d + 1
  | .map entries => uptoBulkEntries entries + 1
  | .held _ => 1
def uptoBulkAll {H : Type} : List (DataW H) → Nat
  | [] => 0
  | d :: r => uptoBulk d + uptoBulkAll r
def uptoBulkEntries {H : Type} : List (Lit × DataW H) → Nat
  | [] => 0
  | x :: r => uptoBulkEntry x + uptoBulkEntries r
def uptoBulkEntry {H : Type} : Lit × DataW H → Nat
  | (.string bytes, d) => bytes.length + uptoBulk d + 1
  | (_, d) => uptoBulk d + 1
 end
def uptoSmall : (H : Type) → List (DataW H) → Bool := fun _ ds => decide (uptoBulkAll ds ≤ 1048576)
def OpenSpec.upto (s : _root_.Go.ChangeSpec) : _root_.Go.OpenSpec := { _root_.Go.OpenSpec.ofChange s with cond := some uptoSmall }

/-- 'laws.FnExactChaseStep', WHERE WHAT IT READS IS OF BULK AT MOST 1048576: true; the input reads as it did. -/
def fnExactChaseStepUptoRow : OpenClaim := { program := "ytmfieiphcjenlaa", sum := "5ca3e54e10754ece5c4d546e3640439429ffba4facc5ae64ca2fd604ab737486", func := "loop.example/g01988/laws.FnExactChaseStep", spec := "fnExactChaseStep", apart := false, narrowed := true }
def FnExactChaseStepUptoSaid : Prop := fnExactChaseStepUptoRow.holds Try.pinned (OpenSpec.upto fnExactChaseStepSpec)

/-- 'laws.FnExactIsLossless', WHERE WHAT IT READS IS OF BULK AT MOST 1048576: true; the input reads as it did. -/
def fnExactIsLosslessUptoRow : OpenClaim := { program := "ytmfieiphcjenlaa", sum := "5ca3e54e10754ece5c4d546e3640439429ffba4facc5ae64ca2fd604ab737486", func := "loop.example/g01988/laws.FnExactIsLossless", spec := "fnExactIsLossless", apart := false, narrowed := true }
def FnExactIsLosslessUptoSaid : Prop := fnExactIsLosslessUptoRow.holds Try.pinned (OpenSpec.upto fnExactIsLosslessSpec)

/-- 'laws.FnExactLossTable', WHERE WHAT IT READS IS OF BULK AT MOST 1048576: true; the input reads as it did. -/
def fnExactLossTableUptoRow : OpenClaim := { program := "ytmfieiphcjenlaa", sum := "5ca3e54e10754ece5c4d546e3640439429ffba4facc5ae64ca2fd604ab737486", func := "loop.example/g01988/laws.FnExactLossTable", spec := "fnExactLossTable", apart := false, narrowed := true }
def FnExactLossTableUptoSaid : Prop := fnExactLossTableUptoRow.holds Try.pinned (OpenSpec.upto fnExactLossTableSpec)

/-- 'laws.FnExactDerivationLines', WHERE WHAT IT READS IS OF BULK AT MOST 1048576: true; the input reads as it did. -/
def fnExactDerivationLinesUptoRow : OpenClaim := { program := "ytmfieiphcjenlaa", sum := "5ca3e54e10754ece5c4d546e3640439429ffba4facc5ae64ca2fd604ab737486", func := "loop.example/g01988/laws.FnExactDerivationLines", spec := "fnExactDerivationLines", apart := false, narrowed := true }
def FnExactDerivationLinesUptoSaid : Prop := fnExactDerivationLinesUptoRow.holds Try.pinned (OpenSpec.upto fnExactDerivationLinesSpec)

/-- 'laws.FnExactIsBoyce', WHERE WHAT IT READS IS OF BULK AT MOST 1048576: true; the input reads as it did. -/
def fnExactIsBoyceUptoRow : OpenClaim := { program := "ytmfieiphcjenlaa", sum := "5ca3e54e10754ece5c4d546e3640439429ffba4facc5ae64ca2fd604ab737486", func := "loop.example/g01988/laws.FnExactIsBoyce", spec := "fnExactIsBoyce", unfollowed := true, recurses := true, apart := false, narrowed := true }
def FnExactIsBoyceUptoSaid : Prop := fnExactIsBoyceUptoRow.holds Try.pinned (OpenSpec.upto fnExactIsBoyceSpec)

/-- 'laws.FnExactIsPreserving', WHERE WHAT IT READS IS OF BULK AT MOST 1048576: true; the input reads as it did. -/
def fnExactIsPreservingUptoRow : OpenClaim := { program := "ytmfieiphcjenlaa", sum := "5ca3e54e10754ece5c4d546e3640439429ffba4facc5ae64ca2fd604ab737486", func := "loop.example/g01988/laws.FnExactIsPreserving", spec := "fnExactIsPreserving", unfollowed := true, recurses := true, apart := false, narrowed := true }
def FnExactIsPreservingUptoSaid : Prop := fnExactIsPreservingUptoRow.holds Try.pinned (OpenSpec.upto fnExactIsPreservingSpec)

end Rows
end Go.Proofs.Ytmfieiphcjenlaa

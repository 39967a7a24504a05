/-
  No cell of these rows narrows 'for every input' (looked for: loops, veiled, ifaces, maps, wideKeys, modest, calm, conditions, laid).
  DERIVED. THE GIVEN ROWS OF THIS SEAT. 5 by the template 'for every input the law returns true; each argument reads behind the call as it read before'; 0 by the template 'total and deterministic' (their statements: YtphpccnlhmmlfaaTotals.lean).
  GIVEN WITH THE SEED: the statements are not yours to turn. If you find one false, say at which input.
  Laid BY PROGRAM, IN A SANDBOX (cutbox-rows.mjs): the forced cells as the released guide's own fill.sh prints them over the translation 1d182da191324fe8… (all of the seat's roots in one cut). By AI agents, Wed Nov 11 2026. No macro, syntax, notation, axiom, sorry.
-/
import Derived.Test.YtphpccnlhmmlfaaChecked
import GoSem.Claim
import GoSem.ClaimJoined
import GoSem.ClaimMapViews
import Derived.JoinedTies
import Derived.KernelRfl
namespace Go.Proofs.Ytphpccnlhmmlfaa
/- THE CELL 'sum', in the pinned program and in every row, IS THE sha256 OF THE DUMP (.gsa) THAT YtphpccnlhmmlfaaProg.lean LOADS. Nothing in Lean hashes anything: it is a label: what it is worth is what the hold of that sum in a sandbox is worth. -/
noncomputable def Try.pinned : Pinned := { name := "ytphpccnlhmmlfaa", sum := "1d182da191324fe862c7d7b8ec7cb5c82a8515c9d8f910e23514418625c1b232", checked := Try.checked }
namespace Rows
def none {H : Type} : Left H := { results := [], args := [] }

/-- 'laws.FnExactHoldsPattern': WHATEVER THE INPUT: true; the input reads as it did. -/
def fnExactHoldsPatternSpec : ChangeSpec := { name := "fnExactHoldsPattern", fn := fun _ => fun
  | [d1, d2, d3] => { results := [.lit (.bool true)], args := [d1, d2, d3] }
  | _ => none }
def fnExactHoldsPatternRow : OpenClaim := { program := "ytphpccnlhmmlfaa", sum := "1d182da191324fe862c7d7b8ec7cb5c82a8515c9d8f910e23514418625c1b232", func := "loop.example/g01988/laws.FnExactHoldsPattern", spec := "fnExactHoldsPattern", apart := false }
def FnExactHoldsPatternSaid : Prop := fnExactHoldsPatternRow.holds Try.pinned (OpenSpec.ofChange fnExactHoldsPatternSpec)

/-- ITS FALSE NEIGHBOUR: 'it returns false'. Refute it at one input. -/
def fnExactHoldsPatternWrong : ChangeSpec := { name := "fnExactHoldsPattern", fn := fun _ => fun
  | [d1, d2, d3] => { results := [.lit (.bool false)], args := [d1, d2, d3] }
  | _ => none }
def FnExactHoldsPatternWrongFalsely : Prop := fnExactHoldsPatternRow.holds Try.pinned (OpenSpec.ofChange fnExactHoldsPatternWrong)

/-- 'laws.FnExactPatternsOf': WHATEVER THE INPUT: true; the input reads as it did. -/
def fnExactPatternsOfSpec : ChangeSpec := { name := "fnExactPatternsOf", fn := fun _ => fun
  | [d1, d2, d3] => { results := [.lit (.bool true)], args := [d1, d2, d3] }
  | _ => none }
def fnExactPatternsOfRow : OpenClaim := { program := "ytphpccnlhmmlfaa", sum := "1d182da191324fe862c7d7b8ec7cb5c82a8515c9d8f910e23514418625c1b232", func := "loop.example/g01988/laws.FnExactPatternsOf", spec := "fnExactPatternsOf", apart := false }
def FnExactPatternsOfSaid : Prop := fnExactPatternsOfRow.holds Try.pinned (OpenSpec.ofChange fnExactPatternsOfSpec)

/-- ITS FALSE NEIGHBOUR: 'it returns false'. Refute it at one input. -/
def fnExactPatternsOfWrong : ChangeSpec := { name := "fnExactPatternsOf", fn := fun _ => fun
  | [d1, d2, d3] => { results := [.lit (.bool false)], args := [d1, d2, d3] }
  | _ => none }
def FnExactPatternsOfWrongFalsely : Prop := fnExactPatternsOfRow.holds Try.pinned (OpenSpec.ofChange fnExactPatternsOfWrong)

/-- 'laws.FnExactOrders': WHATEVER THE INPUT: true; the input reads as it did. -/
def fnExactOrdersSpec : ChangeSpec := { name := "fnExactOrders", fn := fun _ => fun
  | [d] => { results := [.lit (.bool true)], args := [d] }
  | _ => none }
def fnExactOrdersRow : OpenClaim := { program := "ytphpccnlhmmlfaa", sum := "1d182da191324fe862c7d7b8ec7cb5c82a8515c9d8f910e23514418625c1b232", func := "loop.example/g01988/laws.FnExactOrders", spec := "fnExactOrders", unfollowed := true, recurses := true, apart := false }
def FnExactOrdersSaid : Prop := fnExactOrdersRow.holds Try.pinned (OpenSpec.ofChange fnExactOrdersSpec)

/-- ITS FALSE NEIGHBOUR: 'it returns false'. Refute it at one input. -/
def fnExactOrdersWrong : ChangeSpec := { name := "fnExactOrders", fn := fun _ => fun
  | [d] => { results := [.lit (.bool false)], args := [d] }
  | _ => none }
def FnExactOrdersWrongFalsely : Prop := fnExactOrdersRow.holds Try.pinned (OpenSpec.ofChange fnExactOrdersWrong)

/-- 'laws.FnExactInclusions': WHATEVER THE INPUT: true; the input reads as it did. -/
def fnExactInclusionsSpec : ChangeSpec := { name := "fnExactInclusions", fn := fun _ => fun
  | [d] => { results := [.lit (.bool true)], args := [d] }
  | _ => none }
def fnExactInclusionsRow : OpenClaim := { program := "ytphpccnlhmmlfaa", sum := "1d182da191324fe862c7d7b8ec7cb5c82a8515c9d8f910e23514418625c1b232", func := "loop.example/g01988/laws.FnExactInclusions", spec := "fnExactInclusions", unfollowed := true, recurses := true, apart := false }
def FnExactInclusionsSaid : Prop := fnExactInclusionsRow.holds Try.pinned (OpenSpec.ofChange fnExactInclusionsSpec)

/-- ITS FALSE NEIGHBOUR: 'it returns false'. Refute it at one input. -/
def fnExactInclusionsWrong : ChangeSpec := { name := "fnExactInclusions", fn := fun _ => fun
  | [d] => { results := [.lit (.bool false)], args := [d] }
  | _ => none }
def FnExactInclusionsWrongFalsely : Prop := fnExactInclusionsRow.holds Try.pinned (OpenSpec.ofChange fnExactInclusionsWrong)

/-- 'laws.FnExactChaseStep': WHATEVER THE INPUT: true; the input reads as it did. -/
def fnExactChaseStepSpec : ChangeSpec := { name := "fnExactChaseStep", fn := fun _ => fun
  | [d1, d2, d3] => { results := [.lit (.bool true)], args := [d1, d2, d3] }
  | _ => none }
def fnExactChaseStepRow : OpenClaim := { program := "ytphpccnlhmmlfaa", sum := "1d182da191324fe862c7d7b8ec7cb5c82a8515c9d8f910e23514418625c1b232", func := "loop.example/g01988/laws.FnExactChaseStep", spec := "fnExactChaseStep", apart := false }
def FnExactChaseStepSaid : Prop := fnExactChaseStepRow.holds Try.pinned (OpenSpec.ofChange fnExactChaseStepSpec)

/-- ITS FALSE NEIGHBOUR: 'it returns false'. Refute it at one input. -/
def fnExactChaseStepWrong : ChangeSpec := { name := "fnExactChaseStep", fn := fun _ => fun
  | [d1, d2, d3] => { results := [.lit (.bool false)], args := [d1, d2, d3] }
  | _ => none }
def FnExactChaseStepWrongFalsely : Prop := fnExactChaseStepRow.holds Try.pinned (OpenSpec.ofChange fnExactChaseStepWrong)

/- THE SECOND FORM. 'bulk': how many values and letters a reading holds, each counted each time it is reached (what is shared counts as often as it is met; a slice's spare places count too). A statement '..UptoSaid' is the law's where the arguments, and the package variables that the reading takes, are together of bulk at most 1048576: NARROWER than '..Said'. Prove '..Said' where nothing that the law and all that it calls make is longer than what came in: it says more and counts as full. Else prove '..UptoSaid'. A law counts once. -/
mutual
def uptoBulk {H : Type} : DataW H → Nat
  | .lit (.string bytes) => bytes.length + 1
  | .lit _ => 1
  | .nil => 1
  | .ptr d => uptoBulk d + 1
  | .slice elems spare => uptoBulkAll elems + uptoBulkAll spare + 1
  | .agg parts => uptoBulkAll parts + 1
  | .iface _ d => uptoBulk d + 1
  | .map entries => uptoBulkEntries entries + 1
  | .held _ => 1
def uptoBulkAll {H : Type} : List (DataW H) → Nat
  | [] => 0
  | d :: r => uptoBulk d + uptoBulkAll r
def uptoBulkEntries {H : Type} : List (Lit × DataW H) → Nat
  | [] => 0
  | x :: r => uptoBulkEntry x + uptoBulkEntries r
def uptoBulkEntry {H : Type} : Lit × DataW H → Nat
  | (.string bytes, d) => bytes.length + uptoBulk d + 1
  | (_, d) => uptoBulk d + 1
 end
def uptoSmall : (H : Type) → List (DataW H) → Bool := fun _ ds => decide (uptoBulkAll ds ≤ 1048576)
def OpenSpec.upto (s : _root_.Go.ChangeSpec) : _root_.Go.OpenSpec := { _root_.Go.OpenSpec.ofChange s with cond := some uptoSmall }

/-- 'laws.FnExactHoldsPattern', WHERE WHAT IT READS IS OF BULK AT MOST 1048576: true; the input reads as it did. -/
def fnExactHoldsPatternUptoRow : OpenClaim := { program := "ytphpccnlhmmlfaa", sum := "1d182da191324fe862c7d7b8ec7cb5c82a8515c9d8f910e23514418625c1b232", func := "loop.example/g01988/laws.FnExactHoldsPattern", spec := "fnExactHoldsPattern", apart := false, narrowed := true }
def FnExactHoldsPatternUptoSaid : Prop := fnExactHoldsPatternUptoRow.holds Try.pinned (OpenSpec.upto fnExactHoldsPatternSpec)

/-- 'laws.FnExactPatternsOf', WHERE WHAT IT READS IS OF BULK AT MOST 1048576: true; the input reads as it did. -/
def fnExactPatternsOfUptoRow : OpenClaim := { program := "ytphpccnlhmmlfaa", sum := "1d182da191324fe862c7d7b8ec7cb5c82a8515c9d8f910e23514418625c1b232", func := "loop.example/g01988/laws.FnExactPatternsOf", spec := "fnExactPatternsOf", apart := false, narrowed := true }
def FnExactPatternsOfUptoSaid : Prop := fnExactPatternsOfUptoRow.holds Try.pinned (OpenSpec.upto fnExactPatternsOfSpec)

/-- 'laws.FnExactOrders', WHERE WHAT IT READS IS OF BULK AT MOST 1048576: true; the input reads as it did. -/
def fnExactOrdersUptoRow : OpenClaim := { program := "ytphpccnlhmmlfaa", sum := "1d182da191324fe862c7d7b8ec7cb5c82a8515c9d8f910e23514418625c1b232", func := "loop.example/g01988/laws.FnExactOrders", spec := "fnExactOrders", unfollowed := true, recurses := true, apart := false, narrowed := true }
def FnExactOrdersUptoSaid : Prop := fnExactOrdersUptoRow.holds Try.pinned (OpenSpec.upto fnExactOrdersSpec)

/-- 'laws.FnExactInclusions', WHERE WHAT IT READS IS OF BULK AT MOST 1048576: true; the input reads as it did. -/
def fnExactInclusionsUptoRow : OpenClaim := { program := "ytphpccnlhmmlfaa", sum := "1d182da191324fe862c7d7b8ec7cb5c82a8515c9d8f910e23514418625c1b232", func := "loop.example/g01988/laws.FnExactInclusions", spec := "fnExactInclusions", unfollowed := true, recurses := true, apart := false, narrowed := true }
def FnExactInclusionsUptoSaid : Prop := fnExactInclusionsUptoRow.holds Try.pinned (OpenSpec.upto fnExactInclusionsSpec)

/-- 'laws.FnExactChaseStep', WHERE WHAT IT READS IS OF BULK AT MOST 1048576: true; the input reads as it did. -/
def fnExactChaseStepUptoRow : OpenClaim := { program := "ytphpccnlhmmlfaa", sum := "1d182da191324fe862c7d7b8ec7cb5c82a8515c9d8f910e23514418625c1b232", func := "loop.example/g01988/laws.FnExactChaseStep", spec := "fnExactChaseStep", apart := false, narrowed := true }
def FnExactChaseStepUptoSaid : Prop := fnExactChaseStepUptoRow.holds Try.pinned (OpenSpec.upto fnExactChaseStepSpec)

end Rows
end Go.Proofs.Ytphpccnlhmmlfaa

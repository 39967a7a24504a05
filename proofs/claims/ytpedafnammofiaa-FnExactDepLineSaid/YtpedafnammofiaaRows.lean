/-
  No cell of these rows narrows 'for every input' (looked for: loops, veiled, ifaces, maps, wideKeys, modest, calm, conditions, laid).
  DERIVED. THE GIVEN ROWS OF THIS SEAT. 10 by the template 'for every input the law returns true; each argument reads behind the call as it read before'; 0 by the template 'total and deterministic' (their statements: YtpedafnammofiaaTotals.lean).
  GIVEN WITH THE SEED: the statements are not yours to turn. If you find one false, say at which input.
  Laid BY PROGRAM, IN A SANDBOX (cutbox-rows.mjs): the forced cells as the released guide's own fill.sh prints them over the translation 469584dcdb6d1db0… (all of the seat's roots in one cut). By AI agents, Wed Nov 11 2026. No macro, syntax, notation, axiom, sorry.
-/
import Derived.Test.YtpedafnammofiaaChecked
import GoSem.Claim
import GoSem.ClaimJoined
import GoSem.ClaimMapViews
import Derived.JoinedTies
import Derived.KernelRfl
namespace Go.Proofs.Ytpedafnammofiaa
/- THE CELL 'sum', in the pinned program and in every row, IS THE sha256 OF THE DUMP (.gsa) THAT YtpedafnammofiaaProg.lean LOADS. Nothing in Lean hashes anything: it is a label: what it is worth is what the hold of that sum in a sandbox is worth. -/
noncomputable def Try.pinned : Pinned := { name := "ytpedafnammofiaa", sum := "469584dcdb6d1db0a26d8637b4f089c337fe375dcd4760e46b37306bd87ac676", checked := Try.checked }
namespace Rows
def none {H : Type} : Left H := { results := [], args := [] }

/-- 'laws.FnExactChaseStart': WHATEVER THE INPUT: true; the input reads as it did. -/
def fnExactChaseStartSpec : ChangeSpec := { name := "fnExactChaseStart", fn := fun _ => fun
  | [d1, d2] => { results := [.lit (.bool true)], args := [d1, d2] }
  | _ => none }
def fnExactChaseStartRow : OpenClaim := { program := "ytpedafnammofiaa", sum := "469584dcdb6d1db0a26d8637b4f089c337fe375dcd4760e46b37306bd87ac676", func := "loop.example/g01988/laws.FnExactChaseStart", spec := "fnExactChaseStart", apart := false }
def FnExactChaseStartSaid : Prop := fnExactChaseStartRow.holds Try.pinned (OpenSpec.ofChange fnExactChaseStartSpec)

/-- ITS FALSE NEIGHBOUR: 'it returns false'. Refute it at one input. -/
def fnExactChaseStartWrong : ChangeSpec := { name := "fnExactChaseStart", fn := fun _ => fun
  | [d1, d2] => { results := [.lit (.bool false)], args := [d1, d2] }
  | _ => none }
def FnExactChaseStartWrongFalsely : Prop := fnExactChaseStartRow.holds Try.pinned (OpenSpec.ofChange fnExactChaseStartWrong)

/-- 'laws.FnExactOrderWitness': WHATEVER THE INPUT: true; the input reads as it did. -/
def fnExactOrderWitnessSpec : ChangeSpec := { name := "fnExactOrderWitness", fn := fun _ => fun
  | [d1, d2, d3] => { results := [.lit (.bool true)], args := [d1, d2, d3] }
  | _ => none }
def fnExactOrderWitnessRow : OpenClaim := { program := "ytpedafnammofiaa", sum := "469584dcdb6d1db0a26d8637b4f089c337fe375dcd4760e46b37306bd87ac676", func := "loop.example/g01988/laws.FnExactOrderWitness", spec := "fnExactOrderWitness", apart := false }
def FnExactOrderWitnessSaid : Prop := fnExactOrderWitnessRow.holds Try.pinned (OpenSpec.ofChange fnExactOrderWitnessSpec)

/-- ITS FALSE NEIGHBOUR: 'it returns false'. Refute it at one input. -/
def fnExactOrderWitnessWrong : ChangeSpec := { name := "fnExactOrderWitness", fn := fun _ => fun
  | [d1, d2, d3] => { results := [.lit (.bool false)], args := [d1, d2, d3] }
  | _ => none }
def FnExactOrderWitnessWrongFalsely : Prop := fnExactOrderWitnessRow.holds Try.pinned (OpenSpec.ofChange fnExactOrderWitnessWrong)

/-- 'laws.FnExactOrderHolds': WHATEVER THE INPUT: true; the input reads as it did. -/
def fnExactOrderHoldsSpec : ChangeSpec := { name := "fnExactOrderHolds", fn := fun _ => fun
  | [d1, d2, d3] => { results := [.lit (.bool true)], args := [d1, d2, d3] }
  | _ => none }
def fnExactOrderHoldsRow : OpenClaim := { program := "ytpedafnammofiaa", sum := "469584dcdb6d1db0a26d8637b4f089c337fe375dcd4760e46b37306bd87ac676", func := "loop.example/g01988/laws.FnExactOrderHolds", spec := "fnExactOrderHolds", apart := false }
def FnExactOrderHoldsSaid : Prop := fnExactOrderHoldsRow.holds Try.pinned (OpenSpec.ofChange fnExactOrderHoldsSpec)

/-- ITS FALSE NEIGHBOUR: 'it returns false'. Refute it at one input. -/
def fnExactOrderHoldsWrong : ChangeSpec := { name := "fnExactOrderHolds", fn := fun _ => fun
  | [d1, d2, d3] => { results := [.lit (.bool false)], args := [d1, d2, d3] }
  | _ => none }
def FnExactOrderHoldsWrongFalsely : Prop := fnExactOrderHoldsRow.holds Try.pinned (OpenSpec.ofChange fnExactOrderHoldsWrong)

/-- 'laws.FnExactSetLine': WHATEVER THE INPUT: true; the input reads as it did. -/
def fnExactSetLineSpec : ChangeSpec := { name := "fnExactSetLine", fn := fun _ => fun
  | [d] => { results := [.lit (.bool true)], args := [d] }
  | _ => none }
def fnExactSetLineRow : OpenClaim := { program := "ytpedafnammofiaa", sum := "469584dcdb6d1db0a26d8637b4f089c337fe375dcd4760e46b37306bd87ac676", func := "loop.example/g01988/laws.FnExactSetLine", spec := "fnExactSetLine", inPlace := ["internal/abi.NoEscape", "internal/bytealg.MakeNoZero"], apart := false }
def FnExactSetLineSaid : Prop := fnExactSetLineRow.holds Try.pinned (OpenSpec.ofChange fnExactSetLineSpec)

/-- ITS FALSE NEIGHBOUR: 'it returns false'. Refute it at one input. -/
def fnExactSetLineWrong : ChangeSpec := { name := "fnExactSetLine", fn := fun _ => fun
  | [d] => { results := [.lit (.bool false)], args := [d] }
  | _ => none }
def FnExactSetLineWrongFalsely : Prop := fnExactSetLineRow.holds Try.pinned (OpenSpec.ofChange fnExactSetLineWrong)

/-- 'laws.FnExactSupportOf': WHATEVER THE INPUT: true; the input reads as it did. -/
def fnExactSupportOfSpec : ChangeSpec := { name := "fnExactSupportOf", fn := fun _ => fun
  | [d1, d2] => { results := [.lit (.bool true)], args := [d1, d2] }
  | _ => none }
def fnExactSupportOfRow : OpenClaim := { program := "ytpedafnammofiaa", sum := "469584dcdb6d1db0a26d8637b4f089c337fe375dcd4760e46b37306bd87ac676", func := "loop.example/g01988/laws.FnExactSupportOf", spec := "fnExactSupportOf", apart := false }
def FnExactSupportOfSaid : Prop := fnExactSupportOfRow.holds Try.pinned (OpenSpec.ofChange fnExactSupportOfSpec)

/-- ITS FALSE NEIGHBOUR: 'it returns false'. Refute it at one input. -/
def fnExactSupportOfWrong : ChangeSpec := { name := "fnExactSupportOf", fn := fun _ => fun
  | [d1, d2] => { results := [.lit (.bool false)], args := [d1, d2] }
  | _ => none }
def FnExactSupportOfWrongFalsely : Prop := fnExactSupportOfRow.holds Try.pinned (OpenSpec.ofChange fnExactSupportOfWrong)

/-- 'laws.FnExactMissingValue': WHATEVER THE INPUT: true; the input reads as it did. -/
def fnExactMissingValueSpec : ChangeSpec := { name := "fnExactMissingValue", fn := fun _ => fun
  | [d1, d2] => { results := [.lit (.bool true)], args := [d1, d2] }
  | _ => none }
def fnExactMissingValueRow : OpenClaim := { program := "ytpedafnammofiaa", sum := "469584dcdb6d1db0a26d8637b4f089c337fe375dcd4760e46b37306bd87ac676", func := "loop.example/g01988/laws.FnExactMissingValue", spec := "fnExactMissingValue", apart := false }
def FnExactMissingValueSaid : Prop := fnExactMissingValueRow.holds Try.pinned (OpenSpec.ofChange fnExactMissingValueSpec)

/-- ITS FALSE NEIGHBOUR: 'it returns false'. Refute it at one input. -/
def fnExactMissingValueWrong : ChangeSpec := { name := "fnExactMissingValue", fn := fun _ => fun
  | [d1, d2] => { results := [.lit (.bool false)], args := [d1, d2] }
  | _ => none }
def FnExactMissingValueWrongFalsely : Prop := fnExactMissingValueRow.holds Try.pinned (OpenSpec.ofChange fnExactMissingValueWrong)

/-- 'laws.FnExactSelectRows': WHATEVER THE INPUT: true; the input reads as it did. -/
def fnExactSelectRowsSpec : ChangeSpec := { name := "fnExactSelectRows", fn := fun _ => fun
  | [d1, d2, d3] => { results := [.lit (.bool true)], args := [d1, d2, d3] }
  | _ => none }
def fnExactSelectRowsRow : OpenClaim := { program := "ytpedafnammofiaa", sum := "469584dcdb6d1db0a26d8637b4f089c337fe375dcd4760e46b37306bd87ac676", func := "loop.example/g01988/laws.FnExactSelectRows", spec := "fnExactSelectRows", apart := false }
def FnExactSelectRowsSaid : Prop := fnExactSelectRowsRow.holds Try.pinned (OpenSpec.ofChange fnExactSelectRowsSpec)

/-- ITS FALSE NEIGHBOUR: 'it returns false'. Refute it at one input. -/
def fnExactSelectRowsWrong : ChangeSpec := { name := "fnExactSelectRows", fn := fun _ => fun
  | [d1, d2, d3] => { results := [.lit (.bool false)], args := [d1, d2, d3] }
  | _ => none }
def FnExactSelectRowsWrongFalsely : Prop := fnExactSelectRowsRow.holds Try.pinned (OpenSpec.ofChange fnExactSelectRowsWrong)

/-- 'laws.FnExactDepLine': WHATEVER THE INPUT: true; the input reads as it did. -/
def fnExactDepLineSpec : ChangeSpec := { name := "fnExactDepLine", fn := fun _ => fun
  | [d] => { results := [.lit (.bool true)], args := [d] }
  | _ => none }
def fnExactDepLineRow : OpenClaim := { program := "ytpedafnammofiaa", sum := "469584dcdb6d1db0a26d8637b4f089c337fe375dcd4760e46b37306bd87ac676", func := "loop.example/g01988/laws.FnExactDepLine", spec := "fnExactDepLine", inPlace := ["internal/abi.NoEscape", "internal/bytealg.MakeNoZero"], apart := false }
def FnExactDepLineSaid : Prop := fnExactDepLineRow.holds Try.pinned (OpenSpec.ofChange fnExactDepLineSpec)

/-- ITS FALSE NEIGHBOUR: 'it returns false'. Refute it at one input. -/
def fnExactDepLineWrong : ChangeSpec := { name := "fnExactDepLine", fn := fun _ => fun
  | [d] => { results := [.lit (.bool false)], args := [d] }
  | _ => none }
def FnExactDepLineWrongFalsely : Prop := fnExactDepLineRow.holds Try.pinned (OpenSpec.ofChange fnExactDepLineWrong)

/-- 'laws.FnExactHoldsInclusion': WHATEVER THE INPUT: true; the input reads as it did. -/
def fnExactHoldsInclusionSpec : ChangeSpec := { name := "fnExactHoldsInclusion", fn := fun _ => fun
  | [d1, d2] => { results := [.lit (.bool true)], args := [d1, d2] }
  | _ => none }
def fnExactHoldsInclusionRow : OpenClaim := { program := "ytpedafnammofiaa", sum := "469584dcdb6d1db0a26d8637b4f089c337fe375dcd4760e46b37306bd87ac676", func := "loop.example/g01988/laws.FnExactHoldsInclusion", spec := "fnExactHoldsInclusion", apart := false }
def FnExactHoldsInclusionSaid : Prop := fnExactHoldsInclusionRow.holds Try.pinned (OpenSpec.ofChange fnExactHoldsInclusionSpec)

/-- ITS FALSE NEIGHBOUR: 'it returns false'. Refute it at one input. -/
def fnExactHoldsInclusionWrong : ChangeSpec := { name := "fnExactHoldsInclusion", fn := fun _ => fun
  | [d1, d2] => { results := [.lit (.bool false)], args := [d1, d2] }
  | _ => none }
def FnExactHoldsInclusionWrongFalsely : Prop := fnExactHoldsInclusionRow.holds Try.pinned (OpenSpec.ofChange fnExactHoldsInclusionWrong)

/-- 'laws.FnExactEqualMonitors': WHATEVER THE INPUT: true; the input reads as it did. -/
def fnExactEqualMonitorsSpec : ChangeSpec := { name := "fnExactEqualMonitors", fn := fun _ => fun
  | [d1, d2] => { results := [.lit (.bool true)], args := [d1, d2] }
  | _ => none }
def fnExactEqualMonitorsRow : OpenClaim := { program := "ytpedafnammofiaa", sum := "469584dcdb6d1db0a26d8637b4f089c337fe375dcd4760e46b37306bd87ac676", func := "loop.example/g01988/laws.FnExactEqualMonitors", spec := "fnExactEqualMonitors", unfollowed := true, recurses := true, apart := false }
def FnExactEqualMonitorsSaid : Prop := fnExactEqualMonitorsRow.holds Try.pinned (OpenSpec.ofChange fnExactEqualMonitorsSpec)

/-- ITS FALSE NEIGHBOUR: 'it returns false'. Refute it at one input. -/
def fnExactEqualMonitorsWrong : ChangeSpec := { name := "fnExactEqualMonitors", fn := fun _ => fun
  | [d1, d2] => { results := [.lit (.bool false)], args := [d1, d2] }
  | _ => none }
def FnExactEqualMonitorsWrongFalsely : Prop := fnExactEqualMonitorsRow.holds Try.pinned (OpenSpec.ofChange fnExactEqualMonitorsWrong)

/- THE SECOND FORM. 'bulk': how many values and letters a reading holds, each counted each time it is reached (what is shared counts as often as it is met; a slice's spare places count too). A statement '..UptoSaid' is the law's where the arguments, and the package variables that the reading takes, are together of bulk at most 1048576: NARROWER than '..Said'. Prove '..Said' where nothing that the law and all that it calls make is longer than what came in: it says more and counts as full. Else prove '..UptoSaid'. A law counts once. -/
mutual
def uptoBulk {H : Type} : DataW H → Nat
  | .lit (.string bytes) => bytes.length + 1
  | .lit _ => 1
  | .nil => 1
  | .ptr d => uptoBulk d + 1
  | .slice elems spare => uptoBulkAll elems + uptoBulkAll spare + 1
  | .agg parts => uptoBulkAll parts + 1
  | .iface _ d => uptoBulk d + 1
  | .map entries => uptoBulkEntries entries + 1
  | .held _ => 1
def uptoBulkAll {H : Type} : List (DataW H) → Nat
  | [] => 0
  | d :: r => uptoBulk d + uptoBulkAll r
def uptoBulkEntries {H : Type} : List (Lit × DataW H) → Nat
  | [] => 0
  | x :: r => uptoBulkEntry x + uptoBulkEntries r
def uptoBulkEntry {H : Type} : Lit × DataW H → Nat
  | (.string bytes, d) => bytes.length + uptoBulk d + 1
  | (_, d) => uptoBulk d + 1
 end
def uptoSmall : (H : Type) → List (DataW H) → Bool := fun _ ds => decide (uptoBulkAll ds ≤ 1048576)
def OpenSpec.upto (s : _root_.Go.ChangeSpec) : _root_.Go.OpenSpec := { _root_.Go.OpenSpec.ofChange s with cond := some uptoSmall }

/-- 'laws.FnExactChaseStart', WHERE WHAT IT READS IS OF BULK AT MOST 1048576: true; the input reads as it did. -/
def fnExactChaseStartUptoRow : OpenClaim := { program := "ytpedafnammofiaa", sum := "469584dcdb6d1db0a26d8637b4f089c337fe375dcd4760e46b37306bd87ac676", func := "loop.example/g01988/laws.FnExactChaseStart", spec := "fnExactChaseStart", apart := false, narrowed := true }
def FnExactChaseStartUptoSaid : Prop := fnExactChaseStartUptoRow.holds Try.pinned (OpenSpec.upto fnExactChaseStartSpec)

/-- 'laws.FnExactOrderWitness', WHERE WHAT IT READS IS OF BULK AT MOST 1048576: true; the input reads as it did. -/
def fnExactOrderWitnessUptoRow : OpenClaim := { program := "ytpedafnammofiaa", sum := "469584dcdb6d1db0a26d8637b4f089c337fe375dcd4760e46b37306bd87ac676", func := "loop.example/g01988/laws.FnExactOrderWitness", spec := "fnExactOrderWitness", apart := false, narrowed := true }
def FnExactOrderWitnessUptoSaid : Prop := fnExactOrderWitnessUptoRow.holds Try.pinned (OpenSpec.upto fnExactOrderWitnessSpec)

/-- 'laws.FnExactOrderHolds', WHERE WHAT IT READS IS OF BULK AT MOST 1048576: true; the input reads as it did. -/
def fnExactOrderHoldsUptoRow : OpenClaim := { program := "ytpedafnammofiaa", sum := "469584dcdb6d1db0a26d8637b4f089c337fe375dcd4760e46b37306bd87ac676", func := "loop.example/g01988/laws.FnExactOrderHolds", spec := "fnExactOrderHolds", apart := false, narrowed := true }
def FnExactOrderHoldsUptoSaid : Prop := fnExactOrderHoldsUptoRow.holds Try.pinned (OpenSpec.upto fnExactOrderHoldsSpec)

/-- 'laws.FnExactSetLine', WHERE WHAT IT READS IS OF BULK AT MOST 1048576: true; the input reads as it did. -/
def fnExactSetLineUptoRow : OpenClaim := { program := "ytpedafnammofiaa", sum := "469584dcdb6d1db0a26d8637b4f089c337fe375dcd4760e46b37306bd87ac676", func := "loop.example/g01988/laws.FnExactSetLine", spec := "fnExactSetLine", inPlace := ["internal/abi.NoEscape", "internal/bytealg.MakeNoZero"], apart := false, narrowed := true }
def FnExactSetLineUptoSaid : Prop := fnExactSetLineUptoRow.holds Try.pinned (OpenSpec.upto fnExactSetLineSpec)

/-- 'laws.FnExactSupportOf', WHERE WHAT IT READS IS OF BULK AT MOST 1048576: true; the input reads as it did. -/
def fnExactSupportOfUptoRow : OpenClaim := { program := "ytpedafnammofiaa", sum := "469584dcdb6d1db0a26d8637b4f089c337fe375dcd4760e46b37306bd87ac676", func := "loop.example/g01988/laws.FnExactSupportOf", spec := "fnExactSupportOf", apart := false, narrowed := true }
def FnExactSupportOfUptoSaid : Prop := fnExactSupportOfUptoRow.holds Try.pinned (OpenSpec.upto fnExactSupportOfSpec)

/-- 'laws.FnExactMissingValue', WHERE WHAT IT READS IS OF BULK AT MOST 1048576: true; the input reads as it did. -/
def fnExactMissingValueUptoRow : OpenClaim := { program := "ytpedafnammofiaa", sum := "469584dcdb6d1db0a26d8637b4f089c337fe375dcd4760e46b37306bd87ac676", func := "loop.example/g01988/laws.FnExactMissingValue", spec := "fnExactMissingValue", apart := false, narrowed := true }
def FnExactMissingValueUptoSaid : Prop := fnExactMissingValueUptoRow.holds Try.pinned (OpenSpec.upto fnExactMissingValueSpec)

/-- 'laws.FnExactSelectRows', WHERE WHAT IT READS IS OF BULK AT MOST 1048576: true; the input reads as it did. -/
def fnExactSelectRowsUptoRow : OpenClaim := { program := "ytpedafnammofiaa", sum := "469584dcdb6d1db0a26d8637b4f089c337fe375dcd4760e46b37306bd87ac676", func := "loop.example/g01988/laws.FnExactSelectRows", spec := "fnExactSelectRows", apart := false, narrowed := true }
def FnExactSelectRowsUptoSaid : Prop := fnExactSelectRowsUptoRow.holds Try.pinned (OpenSpec.upto fnExactSelectRowsSpec)

/-- 'laws.FnExactDepLine', WHERE WHAT IT READS IS OF BULK AT MOST 1048576: true; the input reads as it did. -/
def fnExactDepLineUptoRow : OpenClaim := { program := "ytpedafnammofiaa", sum := "469584dcdb6d1db0a26d8637b4f089c337fe375dcd4760e46b37306bd87ac676", func := "loop.example/g01988/laws.FnExactDepLine", spec := "fnExactDepLine", inPlace := ["internal/abi.NoEscape", "internal/bytealg.MakeNoZero"], apart := false, narrowed := true }
def FnExactDepLineUptoSaid : Prop := fnExactDepLineUptoRow.holds Try.pinned (OpenSpec.upto fnExactDepLineSpec)

/-- 'laws.FnExactHoldsInclusion', WHERE WHAT IT READS IS OF BULK AT MOST 1048576: true; the input reads as it did. -/
def fnExactHoldsInclusionUptoRow : OpenClaim := { program := "ytpedafnammofiaa", sum := "469584dcdb6d1db0a26d8637b4f089c337fe375dcd4760e46b37306bd87ac676", func := "loop.example/g01988/laws.FnExactHoldsInclusion", spec := "fnExactHoldsInclusion", apart := false, narrowed := true }
def FnExactHoldsInclusionUptoSaid : Prop := fnExactHoldsInclusionUptoRow.holds Try.pinned (OpenSpec.upto fnExactHoldsInclusionSpec)

/-- 'laws.FnExactEqualMonitors', WHERE WHAT IT READS IS OF BULK AT MOST 1048576: true; the input reads as it did. -/
def fnExactEqualMonitorsUptoRow : OpenClaim := { program := "ytpedafnammofiaa", sum := "469584dcdb6d1db0a26d8637b4f089c337fe375dcd4760e46b37306bd87ac676", func := "loop.example/g01988/laws.FnExactEqualMonitors", spec := "fnExactEqualMonitors", unfollowed := true, recurses := true, apart := false, narrowed := true }
def FnExactEqualMonitorsUptoSaid : Prop := fnExactEqualMonitorsUptoRow.holds Try.pinned (OpenSpec.upto fnExactEqualMonitorsSpec)

end Rows
end Go.Proofs.Ytpedafnammofiaa

/-
  No cell of these rows narrows 'for every input' (looked for: loops, veiled, ifaces, maps, wideKeys, modest, calm, conditions, laid).
  DERIVED. THE GIVEN ROWS OF THIS SEAT. 6 by the template 'for every input the law returns true; each argument reads behind the call as it read before'; 0 by the template 'total and deterministic' (their statements: YtgfbdbiebfhphaaTotals.lean).
  GIVEN WITH THE SEED: the statements are not yours to turn. If you find one false, say at which input.
  Laid BY PROGRAM, IN A SANDBOX (cutbox-rows.mjs): the forced cells as the released guide's own fill.sh prints them over the translation 1b1acaa7abb65924… (all of the seat's roots in one cut). By AI agents, Wed Nov 11 2026. No macro, syntax, notation, axiom, sorry.
-/
import Derived.Test.YtgfbdbiebfhphaaChecked
import GoSem.Claim
import GoSem.ClaimJoined
import GoSem.ClaimMapViews
import Derived.JoinedTies
import Derived.KernelRfl
namespace Go.Proofs.Ytgfbdbiebfhphaa
/- THE CELL 'sum', in the pinned program and in every row, IS THE sha256 OF THE DUMP (.gsa) THAT YtgfbdbiebfhphaaProg.lean LOADS. Nothing in Lean hashes anything: it is a label: what it is worth is what the hold of that sum in a sandbox is worth. -/
noncomputable def Try.pinned : Pinned := { name := "ytgfbdbiebfhphaa", sum := "1b1acaa7abb659249646e71db0191178cd9166a530af61c7629af1b4b5a36670", checked := Try.checked }
namespace Rows
def none {H : Type} : Left H := { results := [], args := [] }

/-- 'laws.FnExactSpecializeDeps': WHATEVER THE INPUT: true; the input reads as it did. -/
def fnExactSpecializeDepsSpec : ChangeSpec := { name := "fnExactSpecializeDeps", fn := fun _ => fun
  | [d1, d2, d3] => { results := [.lit (.bool true)], args := [d1, d2, d3] }
  | _ => none }
def fnExactSpecializeDepsRow : OpenClaim := { program := "ytgfbdbiebfhphaa", sum := "1b1acaa7abb659249646e71db0191178cd9166a530af61c7629af1b4b5a36670", func := "loop.example/g01988/laws.FnExactSpecializeDeps", spec := "fnExactSpecializeDeps", unfollowed := true, recurses := true, apart := false }
def FnExactSpecializeDepsSaid : Prop := fnExactSpecializeDepsRow.holds Try.pinned (OpenSpec.ofChange fnExactSpecializeDepsSpec)

/-- ITS FALSE NEIGHBOUR: 'it returns false'. Refute it at one input. -/
def fnExactSpecializeDepsWrong : ChangeSpec := { name := "fnExactSpecializeDeps", fn := fun _ => fun
  | [d1, d2, d3] => { results := [.lit (.bool false)], args := [d1, d2, d3] }
  | _ => none }
def FnExactSpecializeDepsWrongFalsely : Prop := fnExactSpecializeDepsRow.holds Try.pinned (OpenSpec.ofChange fnExactSpecializeDepsWrong)

/-- 'laws.FnExactIsMonitor': WHATEVER THE INPUT: true; the input reads as it did. -/
def fnExactIsMonitorSpec : ChangeSpec := { name := "fnExactIsMonitor", fn := fun _ => fun
  | [d] => { results := [.lit (.bool true)], args := [d] }
  | _ => none }
def fnExactIsMonitorRow : OpenClaim := { program := "ytgfbdbiebfhphaa", sum := "1b1acaa7abb659249646e71db0191178cd9166a530af61c7629af1b4b5a36670", func := "loop.example/g01988/laws.FnExactIsMonitor", spec := "fnExactIsMonitor", unfollowed := true, recurses := true, apart := false }
def FnExactIsMonitorSaid : Prop := fnExactIsMonitorRow.holds Try.pinned (OpenSpec.ofChange fnExactIsMonitorSpec)

/-- ITS FALSE NEIGHBOUR: 'it returns false'. Refute it at one input. -/
def fnExactIsMonitorWrong : ChangeSpec := { name := "fnExactIsMonitor", fn := fun _ => fun
  | [d] => { results := [.lit (.bool false)], args := [d] }
  | _ => none }
def FnExactIsMonitorWrongFalsely : Prop := fnExactIsMonitorRow.holds Try.pinned (OpenSpec.ofChange fnExactIsMonitorWrong)

/-- 'laws.FnExactSynthesizeThird': WHATEVER THE INPUT: true; the input reads as it did. -/
def fnExactSynthesizeThirdSpec : ChangeSpec := { name := "fnExactSynthesizeThird", fn := fun _ => fun
  | [d1, d2] => { results := [.lit (.bool true)], args := [d1, d2] }
  | _ => none }
def fnExactSynthesizeThirdRow : OpenClaim := { program := "ytgfbdbiebfhphaa", sum := "1b1acaa7abb659249646e71db0191178cd9166a530af61c7629af1b4b5a36670", func := "loop.example/g01988/laws.FnExactSynthesizeThird", spec := "fnExactSynthesizeThird", recurses := true, apart := false }
def FnExactSynthesizeThirdSaid : Prop := fnExactSynthesizeThirdRow.holds Try.pinned (OpenSpec.ofChange fnExactSynthesizeThirdSpec)

/-- ITS FALSE NEIGHBOUR: 'it returns false'. Refute it at one input. -/
def fnExactSynthesizeThirdWrong : ChangeSpec := { name := "fnExactSynthesizeThird", fn := fun _ => fun
  | [d1, d2] => { results := [.lit (.bool false)], args := [d1, d2] }
  | _ => none }
def FnExactSynthesizeThirdWrongFalsely : Prop := fnExactSynthesizeThirdRow.holds Try.pinned (OpenSpec.ofChange fnExactSynthesizeThirdWrong)

/-- 'laws.FnExactIsThird': WHATEVER THE INPUT: true; the input reads as it did. -/
def fnExactIsThirdSpec : ChangeSpec := { name := "fnExactIsThird", fn := fun _ => fun
  | [d1, d2, d3] => { results := [.lit (.bool true)], args := [d1, d2, d3] }
  | _ => none }
def fnExactIsThirdRow : OpenClaim := { program := "ytgfbdbiebfhphaa", sum := "1b1acaa7abb659249646e71db0191178cd9166a530af61c7629af1b4b5a36670", func := "loop.example/g01988/laws.FnExactIsThird", spec := "fnExactIsThird", unfollowed := true, recurses := true, apart := false }
def FnExactIsThirdSaid : Prop := fnExactIsThirdRow.holds Try.pinned (OpenSpec.ofChange fnExactIsThirdSpec)

/-- ITS FALSE NEIGHBOUR: 'it returns false'. Refute it at one input. -/
def fnExactIsThirdWrong : ChangeSpec := { name := "fnExactIsThird", fn := fun _ => fun
  | [d1, d2, d3] => { results := [.lit (.bool false)], args := [d1, d2, d3] }
  | _ => none }
def FnExactIsThirdWrongFalsely : Prop := fnExactIsThirdRow.holds Try.pinned (OpenSpec.ofChange fnExactIsThirdWrong)

/-- 'laws.FnExactDecomposeBoyce': WHATEVER THE INPUT: true; the input reads as it did. -/
def fnExactDecomposeBoyceSpec : ChangeSpec := { name := "fnExactDecomposeBoyce", fn := fun _ => fun
  | [d1, d2] => { results := [.lit (.bool true)], args := [d1, d2] }
  | _ => none }
def fnExactDecomposeBoyceRow : OpenClaim := { program := "ytgfbdbiebfhphaa", sum := "1b1acaa7abb659249646e71db0191178cd9166a530af61c7629af1b4b5a36670", func := "loop.example/g01988/laws.FnExactDecomposeBoyce", spec := "fnExactDecomposeBoyce", unfollowed := true, recurses := true, apart := false }
def FnExactDecomposeBoyceSaid : Prop := fnExactDecomposeBoyceRow.holds Try.pinned (OpenSpec.ofChange fnExactDecomposeBoyceSpec)

/-- ITS FALSE NEIGHBOUR: 'it returns false'. Refute it at one input. -/
def fnExactDecomposeBoyceWrong : ChangeSpec := { name := "fnExactDecomposeBoyce", fn := fun _ => fun
  | [d1, d2] => { results := [.lit (.bool false)], args := [d1, d2] }
  | _ => none }
def FnExactDecomposeBoyceWrongFalsely : Prop := fnExactDecomposeBoyceRow.holds Try.pinned (OpenSpec.ofChange fnExactDecomposeBoyceWrong)

/-- 'laws.FnExactNewMonitor': WHATEVER THE INPUT: true; the input reads as it did. -/
def fnExactNewMonitorSpec : ChangeSpec := { name := "fnExactNewMonitor", fn := fun _ => fun
  | [d1, d2] => { results := [.lit (.bool true)], args := [d1, d2] }
  | _ => none }
def fnExactNewMonitorRow : OpenClaim := { program := "ytgfbdbiebfhphaa", sum := "1b1acaa7abb659249646e71db0191178cd9166a530af61c7629af1b4b5a36670", func := "loop.example/g01988/laws.FnExactNewMonitor", spec := "fnExactNewMonitor", unfollowed := true, recurses := true, apart := false }
def FnExactNewMonitorSaid : Prop := fnExactNewMonitorRow.holds Try.pinned (OpenSpec.ofChange fnExactNewMonitorSpec)

/-- ITS FALSE NEIGHBOUR: 'it returns false'. Refute it at one input. -/
def fnExactNewMonitorWrong : ChangeSpec := { name := "fnExactNewMonitor", fn := fun _ => fun
  | [d1, d2] => { results := [.lit (.bool false)], args := [d1, d2] }
  | _ => none }
def FnExactNewMonitorWrongFalsely : Prop := fnExactNewMonitorRow.holds Try.pinned (OpenSpec.ofChange fnExactNewMonitorWrong)

/- THE SECOND FORM. 'bulk': how many values and letters a reading holds, each counted each time it is reached (what is shared counts as often as it is met; a slice's spare places count too). A statement '..UptoSaid' is the law's where the arguments, and the package variables that the reading takes, are together of bulk at most 1048576: NARROWER than '..Said'. Prove '..Said' where nothing that the law and all that it calls make is longer than what came in: it says more and counts as full. Else prove '..UptoSaid'. A law counts once. -/
mutual
def uptoBulk {H : Type} : DataW H → Nat
  | .lit (.string bytes) => bytes.length + 1
  | .lit _ => 1
  | .nil => 1
  | .ptr d => uptoBulk d + 1
  | .slice elems spare => uptoBulkAll elems + uptoBulkAll spare + 1
  | .agg parts => uptoBulkAll parts + 1
  | .iface _ d => uptoBulk d + 1
  | .map entries => uptoBulkEntries entries + 1
  | .held _ => 1
def uptoBulkAll {H : Type} : List (DataW H) → Nat
  | [] => 0
  | d :: r => uptoBulk d + uptoBulkAll r
def uptoBulkEntries {H : Type} : List (Lit × DataW H) → Nat
  | [] => 0
  | x :: r => uptoBulkEntry x + uptoBulkEntries r
def uptoBulkEntry {H : Type} : Lit × DataW H → Nat
  | (.string bytes, d) => bytes.length + uptoBulk d + 1
  | (_, d) => uptoBulk d + 1
 end
def uptoSmall : (H : Type) → List (DataW H) → Bool := fun _ ds => decide (uptoBulkAll ds ≤ 1048576)
def OpenSpec.upto (s : _root_.Go.ChangeSpec) : _root_.Go.OpenSpec := { _root_.Go.OpenSpec.ofChange s with cond := some uptoSmall }

/-- 'laws.FnExactSpecializeDeps', WHERE WHAT IT READS IS OF BULK AT MOST 1048576: true; the input reads as it did. -/
def fnExactSpecializeDepsUptoRow : OpenClaim := { program := "ytgfbdbiebfhphaa", sum := "1b1acaa7abb659249646e71db0191178cd9166a530af61c7629af1b4b5a36670", func := "loop.example/g01988/laws.FnExactSpecializeDeps", spec := "fnExactSpecializeDeps", unfollowed := true, recurses := true, apart := false, narrowed := true }
def FnExactSpecializeDepsUptoSaid : Prop := fnExactSpecializeDepsUptoRow.holds Try.pinned (OpenSpec.upto fnExactSpecializeDepsSpec)

/-- 'laws.FnExactIsMonitor', WHERE WHAT IT READS IS OF BULK AT MOST 1048576: true; the input reads as it did. -/
def fnExactIsMonitorUptoRow : OpenClaim := { program := "ytgfbdbiebfhphaa", sum := "1b1acaa7abb659249646e71db0191178cd9166a530af61c7629af1b4b5a36670", func := "loop.example/g01988/laws.FnExactIsMonitor", spec := "fnExactIsMonitor", unfollowed := true, recurses := true, apart := false, narrowed := true }
def FnExactIsMonitorUptoSaid : Prop := fnExactIsMonitorUptoRow.holds Try.pinned (OpenSpec.upto fnExactIsMonitorSpec)

/-- 'laws.FnExactSynthesizeThird', WHERE WHAT IT READS IS OF BULK AT MOST 1048576: true; the input reads as it did. -/
def fnExactSynthesizeThirdUptoRow : OpenClaim := { program := "ytgfbdbiebfhphaa", sum := "1b1acaa7abb659249646e71db0191178cd9166a530af61c7629af1b4b5a36670", func := "loop.example/g01988/laws.FnExactSynthesizeThird", spec := "fnExactSynthesizeThird", recurses := true, apart := false, narrowed := true }
def FnExactSynthesizeThirdUptoSaid : Prop := fnExactSynthesizeThirdUptoRow.holds Try.pinned (OpenSpec.upto fnExactSynthesizeThirdSpec)

/-- 'laws.FnExactIsThird', WHERE WHAT IT READS IS OF BULK AT MOST 1048576: true; the input reads as it did. -/
def fnExactIsThirdUptoRow : OpenClaim := { program := "ytgfbdbiebfhphaa", sum := "1b1acaa7abb659249646e71db0191178cd9166a530af61c7629af1b4b5a36670", func := "loop.example/g01988/laws.FnExactIsThird", spec := "fnExactIsThird", unfollowed := true, recurses := true, apart := false, narrowed := true }
def FnExactIsThirdUptoSaid : Prop := fnExactIsThirdUptoRow.holds Try.pinned (OpenSpec.upto fnExactIsThirdSpec)

/-- 'laws.FnExactDecomposeBoyce', WHERE WHAT IT READS IS OF BULK AT MOST 1048576: true; the input reads as it did. -/
def fnExactDecomposeBoyceUptoRow : OpenClaim := { program := "ytgfbdbiebfhphaa", sum := "1b1acaa7abb659249646e71db0191178cd9166a530af61c7629af1b4b5a36670", func := "loop.example/g01988/laws.FnExactDecomposeBoyce", spec := "fnExactDecomposeBoyce", unfollowed := true, recurses := true, apart := false, narrowed := true }
def FnExactDecomposeBoyceUptoSaid : Prop := fnExactDecomposeBoyceUptoRow.holds Try.pinned (OpenSpec.upto fnExactDecomposeBoyceSpec)

/-- 'laws.FnExactNewMonitor', WHERE WHAT IT READS IS OF BULK AT MOST 1048576: true; the input reads as it did. -/
def fnExactNewMonitorUptoRow : OpenClaim := { program := "ytgfbdbiebfhphaa", sum := "1b1acaa7abb659249646e71db0191178cd9166a530af61c7629af1b4b5a36670", func := "loop.example/g01988/laws.FnExactNewMonitor", spec := "fnExactNewMonitor", unfollowed := true, recurses := true, apart := false, narrowed := true }
def FnExactNewMonitorUptoSaid : Prop := fnExactNewMonitorUptoRow.holds Try.pinned (OpenSpec.upto fnExactNewMonitorSpec)

end Rows
end Go.Proofs.Ytgfbdbiebfhphaa

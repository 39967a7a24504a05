/-
  No cell of these rows narrows 'for every input' (looked for: loops, veiled, ifaces, maps, wideKeys, modest, calm, conditions, laid).
  DERIVED. THE GIVEN ROWS OF THIS SEAT. 4 by the template 'for every input the law returns true; each argument reads behind the call as it read before'; 0 by the template 'total and deterministic' (their statements: YtnjijpgnfjghfaaGreatTotals.lean).
  GIVEN WITH THE SEED: the statements are not yours to turn. If you find one false, say at which input.
  Laid BY PROGRAM, IN A SANDBOX (cutbox-rows.mjs): the forced cells as the released guide's own fill.sh prints them over the translation 2df05b38ec0955a4… (all of the seat's roots in one cut). By AI agents, Wed Nov 11 2026. No macro, syntax, notation, axiom, sorry.
-/
import Derived.Test.YtnjijpgnfjghfaaGreatChecked
import GoSem.Claim
import GoSem.ClaimJoined
import GoSem.ClaimMapViews
import Derived.JoinedTies
import Derived.KernelRfl
namespace Go.Proofs.YtnjijpgnfjghfaaGreat
/- THE CELL 'sum', in the pinned program and in every row, IS THE sha256 OF THE DUMP (.gsa) THAT YtnjijpgnfjghfaaGreatProg.lean LOADS. Nothing in Lean hashes anything: it is a label: what it is worth is what the hold of that sum in a sandbox is worth. -/
noncomputable def Tryz.pinned : Pinned := { name := "ytnjijpgnfjghfaagreat", sum := "2df05b38ec0955a47c4483317fec090bef33ea59986643932cf48a26d7f3e988", checked := Tryz.checked }
namespace Rows
def none {H : Type} : Left H := { results := [], args := [] }

/-- 'laws.FnExactInsertRow': WHATEVER THE INPUT: true; the input reads as it did. -/
def fnExactInsertRowSpec : ChangeSpec := { name := "fnExactInsertRow", fn := fun _ => fun
  | [d1, d2] => { results := [.lit (.bool true)], args := [d1, d2] }
  | _ => none }
def fnExactInsertRowRow : OpenClaim := { program := "ytnjijpgnfjghfaagreat", sum := "2df05b38ec0955a47c4483317fec090bef33ea59986643932cf48a26d7f3e988", func := "loop.example/g01988/laws.FnExactInsertRow", spec := "fnExactInsertRow", unfollowed := true, recurses := true, apart := false }
def FnExactInsertRowSaid : Prop := fnExactInsertRowRow.holds Tryz.pinned (OpenSpec.ofChange fnExactInsertRowSpec)

/-- ITS FALSE NEIGHBOUR: 'it returns false'. Refute it at one input. -/
def fnExactInsertRowWrong : ChangeSpec := { name := "fnExactInsertRow", fn := fun _ => fun
  | [d1, d2] => { results := [.lit (.bool false)], args := [d1, d2] }
  | _ => none }
def FnExactInsertRowWrongFalsely : Prop := fnExactInsertRowRow.holds Tryz.pinned (OpenSpec.ofChange fnExactInsertRowWrong)

/-- 'laws.FnExactDeleteRow': WHATEVER THE INPUT: true; the input reads as it did. -/
def fnExactDeleteRowSpec : ChangeSpec := { name := "fnExactDeleteRow", fn := fun _ => fun
  | [d1, d2] => { results := [.lit (.bool true)], args := [d1, d2] }
  | _ => none }
def fnExactDeleteRowRow : OpenClaim := { program := "ytnjijpgnfjghfaagreat", sum := "2df05b38ec0955a47c4483317fec090bef33ea59986643932cf48a26d7f3e988", func := "loop.example/g01988/laws.FnExactDeleteRow", spec := "fnExactDeleteRow", unfollowed := true, recurses := true, apart := false }
def FnExactDeleteRowSaid : Prop := fnExactDeleteRowRow.holds Tryz.pinned (OpenSpec.ofChange fnExactDeleteRowSpec)

/-- ITS FALSE NEIGHBOUR: 'it returns false'. Refute it at one input. -/
def fnExactDeleteRowWrong : ChangeSpec := { name := "fnExactDeleteRow", fn := fun _ => fun
  | [d1, d2] => { results := [.lit (.bool false)], args := [d1, d2] }
  | _ => none }
def FnExactDeleteRowWrongFalsely : Prop := fnExactDeleteRowRow.holds Tryz.pinned (OpenSpec.ofChange fnExactDeleteRowWrong)

/-- 'laws.FnExactSchemaLine': WHATEVER THE INPUT: true; the input reads as it did. -/
def fnExactSchemaLineSpec : ChangeSpec := { name := "fnExactSchemaLine", fn := fun _ => fun
  | [d1, d2] => { results := [.lit (.bool true)], args := [d1, d2] }
  | _ => none }
def fnExactSchemaLineRow : OpenClaim := { program := "ytnjijpgnfjghfaagreat", sum := "2df05b38ec0955a47c4483317fec090bef33ea59986643932cf48a26d7f3e988", func := "loop.example/g01988/laws.FnExactSchemaLine", spec := "fnExactSchemaLine", inPlace := ["internal/abi.NoEscape", "internal/bytealg.MakeNoZero"], unfollowed := true, recurses := true, apart := false }
def FnExactSchemaLineSaid : Prop := fnExactSchemaLineRow.holds Tryz.pinned (OpenSpec.ofChange fnExactSchemaLineSpec)

/-- ITS FALSE NEIGHBOUR: 'it returns false'. Refute it at one input. -/
def fnExactSchemaLineWrong : ChangeSpec := { name := "fnExactSchemaLine", fn := fun _ => fun
  | [d1, d2] => { results := [.lit (.bool false)], args := [d1, d2] }
  | _ => none }
def FnExactSchemaLineWrongFalsely : Prop := fnExactSchemaLineRow.holds Tryz.pinned (OpenSpec.ofChange fnExactSchemaLineWrong)

/-- 'laws.FnExactUpdateCell': WHATEVER THE INPUT: true; the input reads as it did. -/
def fnExactUpdateCellSpec : ChangeSpec := { name := "fnExactUpdateCell", fn := fun _ => fun
  | [d1, d2, d3, d4] => { results := [.lit (.bool true)], args := [d1, d2, d3, d4] }
  | _ => none }
def fnExactUpdateCellRow : OpenClaim := { program := "ytnjijpgnfjghfaagreat", sum := "2df05b38ec0955a47c4483317fec090bef33ea59986643932cf48a26d7f3e988", func := "loop.example/g01988/laws.FnExactUpdateCell", spec := "fnExactUpdateCell", unfollowed := true, recurses := true, apart := false }
def FnExactUpdateCellSaid : Prop := fnExactUpdateCellRow.holds Tryz.pinned (OpenSpec.ofChange fnExactUpdateCellSpec)

/-- ITS FALSE NEIGHBOUR: 'it returns false'. Refute it at one input. -/
def fnExactUpdateCellWrong : ChangeSpec := { name := "fnExactUpdateCell", fn := fun _ => fun
  | [d1, d2, d3, d4] => { results := [.lit (.bool false)], args := [d1, d2, d3, d4] }
  | _ => none }
def FnExactUpdateCellWrongFalsely : Prop := fnExactUpdateCellRow.holds Tryz.pinned (OpenSpec.ofChange fnExactUpdateCellWrong)

/- THE SECOND FORM. 'bulk': how many values and letters a reading holds, each counted each time it is reached (what is shared counts as often as it is met; a slice's spare places count too). A statement '..UptoSaid' is the law's where the arguments, and the package variables that the reading takes, are together of bulk at most 1048576: NARROWER than '..Said'. Prove '..Said' where nothing that the law and all that it calls make is longer than what came in: it says more and counts as full. Else prove '..UptoSaid'. A law counts once. -/
mutual
def uptoBulk {H : Type} : DataW H → Nat
  | .lit (.string bytes) => bytes.length + 1
  | .lit _ => 1
  | .nil => 1
  | .ptr d => uptoBulk d + 1
  | .slice elems spare => uptoBulkAll elems + uptoBulkAll spare + 1
  | .agg parts => uptoBulkAll parts + 1
  | .iface _ d => uptoBulk d + 1
  | .map entries => uptoBulkEntries entries + 1
  | .held _ => 1
def uptoBulkAll {H : Type} : List (DataW H) → Nat
  | [] => 0
  | d :: r => uptoBulk d + uptoBulkAll r
def uptoBulkEntries {H : Type} : List (Lit × DataW H) → Nat
  | [] => 0
  | x :: r => uptoBulkEntry x + uptoBulkEntries r
def uptoBulkEntry {H : Type} : Lit × DataW H → Nat
  | (.string bytes, d) => bytes.length + uptoBulk d + 1
  | (_, d) => uptoBulk d + 1
 end
def uptoSmall : (H : Type) → List (DataW H) → Bool := fun _ ds => decide (uptoBulkAll ds ≤ 1048576)
def OpenSpec.upto (s : _root_.Go.ChangeSpec) : _root_.Go.OpenSpec := { _root_.Go.OpenSpec.ofChange s with cond := some uptoSmall }

/-- 'laws.FnExactInsertRow', WHERE WHAT IT READS IS OF BULK AT MOST 1048576: true; the input reads as it did. -/
def fnExactInsertRowUptoRow : OpenClaim := { program := "ytnjijpgnfjghfaagreat", sum := "2df05b38ec0955a47c4483317fec090bef33ea59986643932cf48a26d7f3e988", func := "loop.example/g01988/laws.FnExactInsertRow", spec := "fnExactInsertRow", unfollowed := true, recurses := true, apart := false, narrowed := true }
def FnExactInsertRowUptoSaid : Prop := fnExactInsertRowUptoRow.holds Tryz.pinned (OpenSpec.upto fnExactInsertRowSpec)

/-- 'laws.FnExactDeleteRow', WHERE WHAT IT READS IS OF BULK AT MOST 1048576: true; the input reads as it did. -/
def fnExactDeleteRowUptoRow : OpenClaim := { program := "ytnjijpgnfjghfaagreat", sum := "2df05b38ec0955a47c4483317fec090bef33ea59986643932cf48a26d7f3e988", func := "loop.example/g01988/laws.FnExactDeleteRow", spec := "fnExactDeleteRow", unfollowed := true, recurses := true, apart := false, narrowed := true }
def FnExactDeleteRowUptoSaid : Prop := fnExactDeleteRowUptoRow.holds Tryz.pinned (OpenSpec.upto fnExactDeleteRowSpec)

/-- 'laws.FnExactSchemaLine', WHERE WHAT IT READS IS OF BULK AT MOST 1048576: true; the input reads as it did. -/
def fnExactSchemaLineUptoRow : OpenClaim := { program := "ytnjijpgnfjghfaagreat", sum := "2df05b38ec0955a47c4483317fec090bef33ea59986643932cf48a26d7f3e988", func := "loop.example/g01988/laws.FnExactSchemaLine", spec := "fnExactSchemaLine", inPlace := ["internal/abi.NoEscape", "internal/bytealg.MakeNoZero"], unfollowed := true, recurses := true, apart := false, narrowed := true }
def FnExactSchemaLineUptoSaid : Prop := fnExactSchemaLineUptoRow.holds Tryz.pinned (OpenSpec.upto fnExactSchemaLineSpec)

/-- 'laws.FnExactUpdateCell', WHERE WHAT IT READS IS OF BULK AT MOST 1048576: true; the input reads as it did. -/
def fnExactUpdateCellUptoRow : OpenClaim := { program := "ytnjijpgnfjghfaagreat", sum := "2df05b38ec0955a47c4483317fec090bef33ea59986643932cf48a26d7f3e988", func := "loop.example/g01988/laws.FnExactUpdateCell", spec := "fnExactUpdateCell", unfollowed := true, recurses := true, apart := false, narrowed := true }
def FnExactUpdateCellUptoSaid : Prop := fnExactUpdateCellUptoRow.holds Tryz.pinned (OpenSpec.upto fnExactUpdateCellSpec)

end Rows
end Go.Proofs.YtnjijpgnfjghfaaGreat

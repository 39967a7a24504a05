import Derived.Test.YthejclmonnpncaaGreatDoorOwnG9
import Derived.Test.YthejclmonnpncaaGreatDoorOwnG10
namespace Go.Own
open Go Go.Proofs
set_option linter.unusedSimpArgs false
set_option linter.unusedVariables false
set_option maxRecDepth 20000
set_option maxHeartbeats 2000000

attribute [local go_sem] unD_dL dL_length dL_get dL_set dL_inj wfD_dL scal2 beq2 pair_eta

/-- minimalDeps, whatever the test: a function that has captured two variables. -/
def cMinG (f : Nat) (c1 c2 : List D) (p : Int → Int → Bool) (n : Int) : Contract := ⟨[], false, fun
  | [.one (.v (.int .i64 m)), .fnc g [d1, d2]] => some (m = n ∧ g = f ∧ d1 = c1 ∧ d2 = c2, [⟨false, [.own 2 (dL (minDs p n)) 1]⟩], [])
  | _ => none⟩
/-! ProjectDeps, the program's. -/
def cPd1 : Contract := ⟨[], false, fun
  | [.agg [.v (.int .i64 a), .v (.int .i64 b)], .ptr [.v (.int .i64 set)], .ptr [.sl 2 l]] => some (WfD l ∧ (∀ d ∈ unD l, depR d) ∧ (0 ≤ a ∧ a ≤ 31) ∧ (0 ≤ b ∧ b ≤ 4), [⟨false, [.d (.v (.bool (pjB (unD l) set a b)))]⟩], [])
  | _ => none⟩
end Go.Own

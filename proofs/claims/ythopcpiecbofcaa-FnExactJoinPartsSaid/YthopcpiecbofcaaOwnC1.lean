import Derived.Test.YthopcpiecbofcaaOwnV8
namespace Go.Own
open Go Go.Proofs
set_option linter.unusedSimpArgs false
set_option linter.unusedVariables false
set_option maxRecDepth 20000
set_option maxHeartbeats 2000000

/-! OrderHolds -/
def ohB (c : Int) (rs : List (List Int)) (a b : Int) : Bool := colsOK c rs a b && !(ow c rs a b).2.2

def cOH : Contract := ⟨[], false, fun
  | [.agg [.v (.int .i64 c), .sl 1 l], .one (.v (.int .i64 a)), .one (.v (.int .i64 b))] => some (WfS l ∧ -9223372036854775808 ≤ c ∧ c ≤ 9223372036854775807, [⟨false, [.d (.v (.bool (ohB c (unS l) a b)))]⟩], [])
  | _ => none⟩

end Go.Own

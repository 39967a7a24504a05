import Derived.Test.YtlliofolbiebmaaGreatOwnY3
import Derived.Test.YtlliofolbiebmaaGreatOwnC8
set_option linter.unusedSimpArgs false
set_option linter.unusedVariables false
set_option maxRecDepth 20000
set_option maxHeartbeats 2000000
namespace Go.Own
open Go Go.Proofs
attribute [local go_sem] unD_dL dL_length dL_get dL_set dL_inj wfD_dL scal2 beq2 pair_eta
theorem dL_snoc {xs : List (Int × Int)} {a b : Int} : dL xs ++ [[D.v (.int .i64 a), D.v (.int .i64 b)]] = dL (xs ++ [(a, b)]) := by simp [dL]
end Go.Own

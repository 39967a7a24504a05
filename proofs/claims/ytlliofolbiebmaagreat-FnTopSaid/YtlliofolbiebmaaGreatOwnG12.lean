import Derived.Test.YtlliofolbiebmaaGreatOwnTb
import Derived.Test.YtlliofolbiebmaaGreatOwnT7
set_option linter.unusedSimpArgs false
set_option linter.unusedVariables false
set_option maxRecDepth 20000
set_option maxHeartbeats 2000000
namespace Go.Own
open Go Go.Proofs
attribute [local go_sem] unD_dL dL_length dL_get dL_set dL_inj wfD_dL scal2 beq2 pair_eta
end Go.Own

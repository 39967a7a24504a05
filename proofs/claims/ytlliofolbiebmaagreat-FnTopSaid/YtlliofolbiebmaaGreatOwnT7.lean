/- Own contracts. Conditions: as each theorem states them. -/
import Derived.Test.YtlliofolbiebmaaGreatOwnY1
import Derived.Test.YtlliofolbiebmaaGreatOwnE1
import Derived.Test.YtlliofolbiebmaaGreatOwnC7
set_option linter.unusedSimpArgs false
set_option linter.unusedVariables false
set_option maxRecDepth 20000
set_option maxHeartbeats 2000000
namespace Go.Own
open Go Go.Proofs
attribute [local go_sem] unD_dL dL_length dL_get dL_set dL_inj wfD_dL scal2 beq2 pair_eta
end Go.Own
namespace Go.Own
open Go Go.Proofs
attribute [local go_sem] unD_dL dL_length dL_get dL_set dL_inj wfD_dL scal2 beq2 pair_eta
end Go.Own
namespace Go.Own
open Go Go.Proofs
end Go.Own
namespace Go.Own
open Go Go.Proofs
attribute [local go_sem] unD_dL dL_length dL_get dL_set dL_inj wfD_dL scal2 beq2 pair_eta
end Go.Own

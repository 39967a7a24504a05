import Derived.Test.YtlliofolbiebmaaGreatOwnTd
set_option linter.unusedSimpArgs false
set_option linter.unusedVariables false
set_option maxRecDepth 20000
set_option maxHeartbeats 2000000
namespace Go.Own
open Go Go.Proofs
theorem unD_one {a b : Int} : unD [[D.v (.int .i64 a), D.v (.int .i64 b)]] = [(a, b)] := rfl
theorem wfD_one {a b : Int} : WfD [[D.v (.int .i64 a), D.v (.int .i64 b)]] ↔ True := by
 refine ⟨fun _ => trivial, fun _ => ⟨rfl, by show 1 ≤ maxLen; decide⟩⟩
attribute [local go_sem] unD_dL dL_length dL_get dL_set dL_inj wfD_dL scal2 beq2 pair_eta dL_scal unD_one wfD_one
end Go.Own

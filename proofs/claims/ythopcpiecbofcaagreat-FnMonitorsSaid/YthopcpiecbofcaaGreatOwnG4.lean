import Derived.Test.YthopcpiecbofcaaGreatOwnY2
set_option linter.unusedSimpArgs false
set_option linter.unusedVariables false
set_option maxRecDepth 20000
set_option maxHeartbeats 2000000
namespace Go.Own
open Go Go.Proofs
attribute [local go_sem] unD_dL dL_length dL_get dL_set dL_inj wfD_dL scal2 beq2 pair_eta
theorem insB_def {l x : Int} : insB l x = (bitI .andNot .i64 l x == 0) := rfl
theorem depOK_R {n l r : Int} (h : depOK n l r = true) : (0 ≤ l ∧ l ≤ 31) ∧ 0 ≤ r ∧ r ≤ 4 := by
 simp only [depOK, Bool.and_eq_true, inB_iff] at h
 have := isAttr_le h.1.2
 omega
end Go.Own

import Derived.Test.YtgfbdbiebfhphaaOwnF4
import Derived.Test.YtgfbdbiebfhphaaOwnF6
import Derived.Test.YtgfbdbiebfhphaaOwnC5
namespace Go.Own
open Go Go.Proofs
set_option linter.unusedSimpArgs false
set_option linter.unusedVariables false
set_option maxRecDepth 20000
set_option maxHeartbeats 2000000

attribute [local go_sem] unD_dL dL_length dL_get dL_set dL_inj wfD_dL scal2 beq2 pair_eta

def cLawNDI : Contract := ⟨[], false, fun
  | [.one (.v (.int .i64 n)), .one (.sl 2 l), .one (.sl 1 p)] => some (WfD l ∧ WfI p ∧ -9223372036854775808 ≤ n ∧ n ≤ 9223372036854775807, [⟨false, [.d (.v (.bool true))]⟩], [])
  | _ => none⟩

theorem ltR_facts {n : Int} {ds : List (Int × Int)} {ps : List Int} : (ltR n ds ps).length ≤ 10 ∧ (∀ r ∈ ltR n ds ps, r.length ≤ 5) ∧ tot (ltR n ds ps) ≤ 50 := by
  unfold ltR
  split
  · exact chF_facts
  · simp [tot]

end Go.Own

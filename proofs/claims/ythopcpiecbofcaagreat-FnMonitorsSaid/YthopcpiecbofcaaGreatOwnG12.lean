import Derived.Test.YthopcpiecbofcaaGreatOwnTb
import Derived.Test.YthopcpiecbofcaaGreatOwnT7
set_option linter.unusedSimpArgs false
set_option linter.unusedVariables false
set_option maxRecDepth 20000
set_option maxHeartbeats 2000000
namespace Go.Own
open Go Go.Proofs
attribute [local go_sem] unD_dL dL_length dL_get dL_set dL_inj wfD_dL scal2 beq2 pair_eta
theorem and_key2 : ∀ l x : Fin 32, (bitI .and .i64 ((x.val : Nat) : Int) ((l.val : Nat) : Int) != ((l.val : Nat) : Int)) = !insB ((l.val : Nat) : Int) ((x.val : Nat) : Int) := by decide +kernel
theorem and_ins2 {l x : Int} (hl : R5 l) (hx : R5 x) : (bitI .and .i64 x l != l) = !insB l x := by
 obtain ⟨l, rfl⟩ := hl.fin; obtain ⟨x, rfl⟩ := hx.fin
 exact and_key2 l x
end Go.Own

import Derived.Test.YtlliofolbiebmaaGreatOwnG4
import Derived.Test.YtlliofolbiebmaaGreatOwnG3
set_option linter.unusedSimpArgs false
set_option linter.unusedVariables false
set_option maxRecDepth 20000
set_option maxHeartbeats 2000000
namespace Go.Own
open Go Go.Proofs
attribute [local go_sem] unD_dL dL_length dL_get dL_set dL_inj wfD_dL scal2 beq2 pair_eta un3_d3L d3L_length d3L_get d3L_snoc scal3
theorem has_eq0 {x r : Int} (hr : 0 ≤ r ∧ r ≤ 4) (hx : R5 x) : (bitI .and .i64 (x.fdiv (2 ^ r.toNat)) 1 == 0) = !hasB x r := by
 obtain ⟨r, rfl⟩ := c5 hr
 obtain ⟨x, rfl⟩ := hx.fin
 have : ∀ x : Fin 32, ∀ r : Fin 5, (bitI .and .i64 (((x.val : Nat) : Int).fdiv (2 ^ ((r.val : Nat) : Int).toNat)) 1 == 0) = !hasB ((x.val : Nat) : Int) ((r.val : Nat) : Int) := by decide +kernel
 exact this x r
end Go.Own

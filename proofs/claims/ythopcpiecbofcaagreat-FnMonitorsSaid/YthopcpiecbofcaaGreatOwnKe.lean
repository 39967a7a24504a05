/-
  The law of monitors. Conditions: as each theorem states them.
-/
import Derived.Test.YthopcpiecbofcaaGreatOwnKc
import Derived.Test.YthopcpiecbofcaaGreatOwnKd
set_option linter.unusedSimpArgs false
set_option linter.unusedVariables false
set_option maxRecDepth 20000
set_option maxHeartbeats 4000000
namespace Go.Own
open Go Go.Proofs
theorem lawM_ok : ContractOK E0 3 cLawC := by
 refine ⟨lawM_00.1, ?_⟩
 intro args p rs ms hr hp
 unfold cLawC at hr
 dsimp only at hr
 split at hr
 ·rename_i l
  simp only [Option.some.injEq, Prod.mk.injEq] at hr
  obtain ⟨rfl, rfl, rfl⟩ := hr
  cases h1 : mB1 (unB l) <;> cases h2 : mB2 (unB l)
  ·exact lawM_00.2 _ _ _ _ rfl ⟨hp, h1, h2⟩
  ·exact lawM_01.2 _ _ _ _ rfl ⟨hp, h1, h2⟩
  ·exact lawM_10.2 _ _ _ _ rfl ⟨hp, h1, h2⟩
  ·exact lawM_11.2 _ _ _ _ rfl ⟨hp, h1, h2⟩
 ·cases hr
end Go.Own

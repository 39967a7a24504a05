/-
  The law of minimal dependencies. Conditions: as each theorem states them.
-/
import Derived.Test.YtlliofolbiebmaaGreatOwnA9
import Derived.Test.YtlliofolbiebmaaGreatOwnAd
set_option linter.unusedSimpArgs false
set_option linter.unusedVariables false
set_option maxRecDepth 20000
set_option maxHeartbeats 4000000
namespace Go.Own
open Go Go.Proofs
theorem lawT_ok : ContractOK E0 3 cLawC := by
 refine ⟨lawT_1.1, ?_⟩
 intro args p rs ms hr hp
 unfold cLawC at hr
 dsimp only at hr
 split at hr
 ·rename_i l
  simp only [Option.some.injEq, Prod.mk.injEq] at hr
  obtain ⟨rfl, rfl, rfl⟩ := hr
  by_cases h : (tW (unB l)).length ≤ 20
  ·exact lawT_1.2 _ _ _ _ rfl ⟨hp, h⟩
  ·exact lawT_2.2 _ _ _ _ rfl ⟨hp, by omega⟩
 ·cases hr
end Go.Own

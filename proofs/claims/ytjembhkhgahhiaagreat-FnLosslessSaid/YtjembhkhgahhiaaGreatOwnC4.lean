import Derived.Test.YtjembhkhgahhiaaGreatOwnZ5
set_option linter.unusedSimpArgs false
set_option linter.unusedVariables false
set_option maxRecDepth 20000
set_option maxHeartbeats 2000000
namespace Go.Own
open Go Go.Proofs
def tot : List (List Int) → Int
 | [] => 0
 | r :: rs => r.length + tot rs
theorem sL_set1 {rs : List (List Int)} {i : Nat} {r : List Int} : (sL rs).set i [D.sl 1 (iL r)] = sL (rs.set i r) := by
 simp [sL, List.map_set]
end Go.Own

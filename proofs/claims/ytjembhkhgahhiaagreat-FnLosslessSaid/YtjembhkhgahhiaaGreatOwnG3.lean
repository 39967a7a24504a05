import Derived.Test.YtjembhkhgahhiaaGreatOwnY5
set_option linter.unusedSimpArgs false
set_option linter.unusedVariables false
set_option maxRecDepth 20000
set_option maxHeartbeats 2000000
namespace Go.Own
open Go Go.Proofs
def dgF : Nat → Int → List Int → List Int
 | 0, _, acc => acc
 | k + 1, m, acc => if m = 0 then acc else dgF k (m / 10) ((48 + m % 10) :: acc)
def fiL (k : Int) : List Int := if k = 0 then [48] else dgF 20 k []
def fi (k : Int) : ByteArray := baOf (fiL k)
end Go.Own

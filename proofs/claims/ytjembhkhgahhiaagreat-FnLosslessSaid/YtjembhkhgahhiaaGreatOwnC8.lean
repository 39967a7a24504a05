import Derived.Test.YtjembhkhgahhiaaGreatOwnC5
import Derived.Test.YtjembhkhgahhiaaGreatOwnY3
import Derived.Test.YtjembhkhgahhiaaGreatOwnC4
import Derived.Test.YtjembhkhgahhiaaGreatOwnV8
set_option linter.unusedSimpArgs false
set_option linter.unusedVariables false
set_option maxRecDepth 20000
set_option maxHeartbeats 2000000
namespace Go.Own
open Go Go.Proofs
end Go.Own

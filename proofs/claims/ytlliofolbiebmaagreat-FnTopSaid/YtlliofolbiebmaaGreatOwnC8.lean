import Derived.Test.YtlliofolbiebmaaGreatOwnC5
import Derived.Test.YtlliofolbiebmaaGreatOwnY3
import Derived.Test.YtlliofolbiebmaaGreatOwnC4
import Derived.Test.YtlliofolbiebmaaGreatOwnTt
set_option linter.unusedSimpArgs false
set_option linter.unusedVariables false
set_option maxRecDepth 20000
set_option maxHeartbeats 2000000
namespace Go.Own
open Go Go.Proofs
end Go.Own

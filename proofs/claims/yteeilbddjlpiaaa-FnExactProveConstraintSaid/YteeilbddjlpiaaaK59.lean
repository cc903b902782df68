/- Drawn searches answer, and what they draw is small. -/
import Derived.Test.YteeilbddjlpiaaaK58
import Derived.Test.YteeilbddjlpiaaaK32
namespace Go.L
open Go Go.E
set_option linter.unusedVariables false
set_option linter.unusedSimpArgs false
set_option maxRecDepth 100000
end Go.L

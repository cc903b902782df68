/- Drawn proofs; the laws of proofs. -/
import Derived.Test.YteeilbddjlpiaaaGreatK30
import Derived.Test.YteeilbddjlpiaaaGreatK35
namespace Go.L
open Go Go.E
set_option linter.unusedVariables false
set_option linter.unusedSimpArgs false
set_option maxRecDepth 100000
end Go.L

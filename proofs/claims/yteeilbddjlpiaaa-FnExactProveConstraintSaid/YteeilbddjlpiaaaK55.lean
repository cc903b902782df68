/- Equality of constraints and proofs, on the program's side. -/
import Derived.Test.YteeilbddjlpiaaaK54
namespace Go.L
open Go Go.E
set_option linter.unusedVariables false
set_option linter.unusedSimpArgs false
set_option maxRecDepth 100000
end Go.L

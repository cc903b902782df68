/- Rules: what both sides compute, plainly; each is valid and sound. -/
import Derived.Test.YteeilbddjlpiaaaK29
namespace Go.L
open Go Go.E
set_option linter.unusedVariables false
set_option linter.unusedSimpArgs false
set_option maxRecDepth 100000
end Go.L

/- The reader of the draws. -/
import Derived.Test.YteeilbddjlpiaaaK1
import Derived.Test.YteeilbddjlpiaaaD1
namespace Go.L
open Go Go.E
set_option linter.unusedVariables false
set_option linter.unusedSimpArgs false
set_option maxRecDepth 100000
section
variable {α β σ τ : Type}
end
end Go.L

/- Equality of constraints; the parts of a step; the state of a proof; a step, on both sides. -/
import Derived.Test.YtiodhgbfceahfaaK32
namespace Go.L
open Go Go.E
set_option linter.unusedVariables false
set_option linter.unusedSimpArgs false
set_option maxRecDepth 100000
end Go.L

/- A proof runs alike on both sides; what it derives holds in all solutions. -/
import Derived.Test.YtiodhgbfceahfaaK33
namespace Go.L
open Go Go.E
set_option linter.unusedVariables false
set_option linter.unusedSimpArgs false
set_option maxRecDepth 100000
end Go.L

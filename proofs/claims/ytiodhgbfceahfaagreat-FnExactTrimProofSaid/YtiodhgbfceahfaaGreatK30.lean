/- Drawn constraints and problems: the draws answer, and what they draw is small. -/
import Derived.Test.YtiodhgbfceahfaaGreatK7r
import Derived.Test.YtiodhgbfceahfaaGreatK28
namespace Go.L
open Go Go.E
set_option linter.unusedVariables false
set_option linter.unusedSimpArgs false
set_option maxRecDepth 100000
end Go.L

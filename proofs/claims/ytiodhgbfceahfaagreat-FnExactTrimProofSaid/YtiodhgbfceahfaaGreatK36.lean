/- Drawn proofs; the laws of proofs. -/
import Derived.Test.YtiodhgbfceahfaaGreatK30
import Derived.Test.YtiodhgbfceahfaaGreatK35
namespace Go.L
open Go Go.E
set_option linter.unusedVariables false
set_option linter.unusedSimpArgs false
set_option maxRecDepth 100000
end Go.L

/- The laws of proofs: sound, prefixes, composition. -/
import Derived.Test.YtiodhgbfceahfaaGreatK36
namespace Go.L
open Go Go.E
set_option linter.unusedVariables false
set_option linter.unusedSimpArgs false
set_option maxRecDepth 100000
end Go.L

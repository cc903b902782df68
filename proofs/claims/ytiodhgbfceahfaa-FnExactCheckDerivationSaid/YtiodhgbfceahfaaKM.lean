/- What a result was told to hold, it holds: the loops that write each element. -/
import Derived.Test.YtiodhgbfceahfaaK1
namespace Go.L
open Go Go.E
set_option linter.unusedVariables false
set_option linter.unusedSimpArgs false
set_option maxRecDepth 100000
def FV : Nat := 2000000
end Go.L

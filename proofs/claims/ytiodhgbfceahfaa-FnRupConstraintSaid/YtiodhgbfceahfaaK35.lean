/- What a proof shows, on both sides: derived constraints, refutations, derivations. -/
import Derived.Test.YtiodhgbfceahfaaK34
namespace Go.L
open Go Go.E
set_option linter.unusedVariables false
set_option linter.unusedSimpArgs false
set_option maxRecDepth 100000
def lensC (list : List Con) : Prop := ∀ c ∈ list, c.terms.length ≤ ML
end Go.L

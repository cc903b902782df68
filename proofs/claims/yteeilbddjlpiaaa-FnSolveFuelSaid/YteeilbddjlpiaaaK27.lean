/- Values as assignments; negation; reverse unit propagation is sound and monotonic. -/
import Derived.Test.YteeilbddjlpiaaaK26
namespace Go.L
open Go Go.E
set_option linter.unusedVariables false
set_option linter.unusedSimpArgs false
set_option maxRecDepth 100000
theorem absI_neg (n : Int) : absI (-n) = absI n := by unfold absI; omega
/-! reverse unit propagation -/
def zeroP : List Int := List.replicate 12 0
theorem zeroP_ok : okP zeroP := by
  refine ⟨rfl, fun x hx => ?_⟩
  rw [List.eq_of_mem_replicate hx]; omega
end Go.L

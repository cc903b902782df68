/- Drawn constraints and problems: the draws answer, and what they draw is small. -/
import Derived.Test.YteeilbddjlpiaaaK7r
import Derived.Test.YteeilbddjlpiaaaK28
namespace Go.L
open Go Go.E
set_option linter.unusedVariables false
set_option linter.unusedSimpArgs false
set_option maxRecDepth 100000
theorem copy_ok (c : Con) (hc : c.terms.length ≤ 4000000) : s_l1Copy c = some c := by
  unfold s_l1Copy
  rw [app_le (by simp; omega)]
  rfl
end Go.L

/- Satisfaction: the program's side; numbered values. -/
import Derived.Test.YtiodhgbfceahfaaGreatK28
namespace Go.L
open Go Go.E
set_option linter.unusedVariables false
set_option linter.unusedSimpArgs false
set_option maxRecDepth 100000
theorem sumV_bound (v : List Bool) : ∀ (ts : List Term), (∀ t ∈ ts, okT t = true) → 0 ≤ sumV v ts ∧ sumV v ts ≤ 1000 * ts.length
  | [], _ => by simp [sumV, sumR]
  | t :: ts, h => by
    have := sumV_bound v ts fun u hu => h u (by simp [hu])
    obtain ⟨_, _, _, h3, h4⟩ := okT_lit (h t (by simp))
    unfold sumV at *
    simp only [sumR, List.length_cons]
    split <;> omega
end Go.L

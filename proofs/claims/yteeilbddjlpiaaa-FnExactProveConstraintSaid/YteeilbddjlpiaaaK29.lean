/- Satisfaction: the program's side; numbered values. -/
import Derived.Test.YteeilbddjlpiaaaK28
namespace Go.L
open Go Go.E
set_option linter.unusedVariables false
set_option linter.unusedSimpArgs false
set_option maxRecDepth 100000
theorem sumV_snoc (v : List Bool) (ts : List Term) (t : Term) : sumV v (ts ++ [t]) = if trueL v t.lit then sumV v ts + t.coef else sumV v ts := by
  have e : ∀ ts, sumV v ts = ts.foldl (fun n t => n + (if trueL v t.lit then t.coef else 0)) 0 := fun ts => by
    rw [foldl_sumR]; unfold sumV; omega
  rw [e, e, List.foldl_append, List.foldl_cons, List.foldl_nil]
  cases trueL v t.lit <;> simp
end Go.L

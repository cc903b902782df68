/- Rules: what both sides compute, plainly; each is valid and sound. -/
import Derived.Test.YteeilbddjlpiaaaK29
namespace Go.L
open Go Go.E
set_option linter.unusedVariables false
set_option linter.unusedSimpArgs false
set_option maxRecDepth 100000
def zeroC : Con := ⟨[], 0⟩
theorem sumR_snoc (f : Term → Int) (ts : List Term) (t : Term) : sumR f (ts ++ [t]) = sumR f ts + f t := by
  induction ts with
  | nil => simp [sumR]
  | cons u ts ih => rw [List.cons_append, sumR, ih, sumR]; omega
theorem take_snoc {α : Type} {xs : List α} {i : Nat} {x : α} (h : xs[i]? = some x) : xs.take (i + 1) = xs.take i ++ [x] := by rw [List.take_add_one, h]; rfl
def validC (c : Con) : Con × Bool := if okCon c then (c, true) else (zeroC, false)
end Go.L

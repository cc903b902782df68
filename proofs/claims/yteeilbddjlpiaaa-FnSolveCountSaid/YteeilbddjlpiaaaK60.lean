/- The laws of searching. -/
import Derived.Test.YteeilbddjlpiaaaK59
namespace Go.L
open Go Go.E
set_option linter.unusedVariables false
set_option linter.unusedSimpArgs false
set_option maxRecDepth 100000
theorem fuFU : FU ≤ FU := Nat.le_refl _
theorem FnSolveCount_ok (code : List UInt8) (g0 : code.length ≤ 9223372036854775807 ∧ ∀ x ∈ code, True) : ∃ fu, l_FnSolveCount fu code = some true := by
  refine ⟨FU, ?_⟩
  unfold l_FnSolveCount
  split
  · rfl
  obtain ⟨x, hx, h1, h2⟩ := drawSolve_ok code FU fuFU
  rw [hx, Option.bind_some, i_solve FU fuFU, Option.bind_some, s_solve FU fuFU _ (smL'_ML h1), Option.bind_some, i_count, Option.bind_some, s_count FU fuFU _ (smL'_ML h1)]
  simp only [beq_self_eq_true, if_true, Option.bind_some, Bool.true_and]
  congr 1
  rw [Bool.and_eq_true, Bool.or_eq_true, Bool.or_eq_true]
  refine ⟨?_, ?_⟩
  · by_cases e : (solveP FU x.1 x.2).1 = 1
    · obtain ⟨q1, q2, q3, _⟩ := solve_sat e
      exact .inr (decide_eq_true (count_pos q1 q2 q3))
    · exact .inl (by simpa using e)
  · by_cases e : (solveP FU x.1 x.2).1 = 2
    · exact .inr (by rw [count_zero (solve_unsat e).2]; rfl)
    · exact .inl (by simpa using e)
end Go.L

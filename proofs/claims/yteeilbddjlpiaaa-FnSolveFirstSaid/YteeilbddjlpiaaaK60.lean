/- The laws of searching. -/
import Derived.Test.YteeilbddjlpiaaaK59
namespace Go.L
open Go Go.E
set_option linter.unusedVariables false
set_option linter.unusedSimpArgs false
set_option maxRecDepth 100000
theorem fuFU : FU ≤ FU := Nat.le_refl _
theorem FnSolveFirst_ok (code : List UInt8) (g0 : code.length ≤ 9223372036854775807 ∧ ∀ x ∈ code, True) : ∃ fu, l_FnSolveFirst fu code = some true := by
  refine ⟨FU, ?_⟩
  unfold l_FnSolveFirst
  split
  · rfl
  obtain ⟨x, hx, h1, h2⟩ := drawSolve_ok code FU fuFU
  rw [hx, Option.bind_some, i_solve FU fuFU, Option.bind_some, s_solve FU fuFU _ (smL'_ML h1), Option.bind_some, cp_bools]
  by_cases e : (solveP FU x.1 x.2).1 = 1
  · obtain ⟨q1, q2, q3, q4⟩ := solve_sat e
    simp only [bne_self_eq_false, Bool.false_eq_true, if_false, decide_true, Bool.not_true, Option.bind_some, e, Bool.or_self]
    rw [cnt4096, Option.bind_some, all_values fun i v hi hv hl => by
      rw [l_FnSolveFirst_b1, hv, Option.bind_some, i_sat hl, Option.bind_some]
      cases ha : allV x.1 v with
      | false => simp
      | true => rw [q1, cp_before FU fuFU q2 hl (q4 v hl ha)]; rfl]
    rfl
  · simp [e]
end Go.L

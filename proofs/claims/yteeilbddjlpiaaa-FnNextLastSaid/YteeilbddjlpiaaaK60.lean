/- The laws of searching. -/
import Derived.Test.YteeilbddjlpiaaaK59
namespace Go.L
open Go Go.E
set_option linter.unusedVariables false
set_option linter.unusedSimpArgs false
set_option maxRecDepth 100000
theorem fuFU : FU ≤ FU := Nat.le_refl _
theorem FnNextLast_ok (code : List UInt8) (g0 : code.length ≤ 9223372036854775807 ∧ ∀ x ∈ code, True) : ∃ fu, l_FnNextLast fu code = some true := by
  refine ⟨FU, ?_⟩
  unfold l_FnNextLast
  split
  · rfl
  obtain ⟨x, hx, h1⟩ := drawNext_ok code FU fuFU
  rw [hx, Option.bind_some, i_next FU fuFU, Option.bind_some, s_next FU fuFU _ (smL'_ML h1), Option.bind_some, cp_bools]
  by_cases e : (nextP x.1 x.2).2 = true
  · obtain ⟨q1, q2, q3, q4⟩ := next_found e
    simp only [bne_self_eq_false, Bool.false_eq_true, if_false, decide_true, Bool.not_true, Option.bind_some, e, Bool.or_self]
    rw [i_next FU fuFU, Option.bind_some, i_solve FU fuFU, Option.bind_some, q4, e, cp_bools]
    simp only [if_true, decide_true, Option.bind_some]
    by_cases es : (solveP FU x.1 2000).1 = 1
    · obtain ⟨p1, p2, p3, p4⟩ := solve_sat es
      rw [cp_before FU fuFU p2 q2 (p4 _ q2 q3)]
      simp [es]
    · simp [es]
  · simp [e]
end Go.L

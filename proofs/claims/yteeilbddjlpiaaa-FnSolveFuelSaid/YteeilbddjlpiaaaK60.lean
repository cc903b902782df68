/- The laws of searching. -/
import Derived.Test.YteeilbddjlpiaaaK59
namespace Go.L
open Go Go.E
set_option linter.unusedVariables false
set_option linter.unusedSimpArgs false
set_option maxRecDepth 100000
theorem fuFU : FU ≤ FU := Nat.le_refl _
theorem FnSolveFuel_ok (code : List UInt8) (more : List UInt8) (g0 : code.length ≤ 9223372036854775807 ∧ ∀ x ∈ code, True) (g1 : more.length ≤ 9223372036854775807 ∧ ∀ x ∈ more, True) : ∃ fu, l_FnSolveFuel fu code more = some true := by
  refine ⟨FU, ?_⟩
  unfold l_FnSolveFuel
  split
  · rfl
  obtain ⟨x, hx, h1, h2⟩ := drawSolve_ok code FU fuFU
  rw [hx, Option.bind_some, i_solve FU fuFU, Option.bind_some, s_solve FU fuFU _ (smL'_ML h1), Option.bind_some]
  have ht0 : 0 ≤ Int.tmod (more.length : Int) 100 := Int.tmod_nonneg _ (by omega)
  have ht1 : Int.tmod (more.length : Int) 100 < 100 := Int.tmod_lt_of_pos _ (by omega)
  rw [i64_id (n := x.2 + Int.tmod (more.length : Int) 100) (by omega) (by omega)]
  split
  · simp
  · rename_i hc
    simp only [Bool.or_eq_true, bne_self_eq_false, beq_iff_eq, decide_eq_true_eq, not_or, Bool.false_eq_true, not_false_eq_true, true_and] at hc
    have hr := solve_range FU x.1 x.2
    have e : solveP FU x.1 (x.2 + Int.tmod (more.length : Int) 100) = solveP FU x.1 x.2 := solve_more (by omega) (by omega) (by omega)
    rw [i_solve FU fuFU, Option.bind_some, e, cp_bools, i_proof_same]
    simp
end Go.L

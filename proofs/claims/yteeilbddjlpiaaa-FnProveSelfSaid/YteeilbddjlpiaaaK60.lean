/- The laws of searching. -/
import Derived.Test.YteeilbddjlpiaaaK59
namespace Go.L
open Go Go.E
set_option linter.unusedVariables false
set_option linter.unusedSimpArgs false
set_option maxRecDepth 100000
theorem fuFU : FU ≤ FU := Nat.le_refl _
theorem FnProveSelf_ok (code : List UInt8) (more : List UInt8) (g0 : code.length ≤ 9223372036854775807 ∧ ∀ x ∈ code, True) (g1 : more.length ≤ 9223372036854775807 ∧ ∀ x ∈ more, True) : ∃ fu, l_FnProveSelf fu code more = some true := by
  refine ⟨FU, ?_⟩
  unfold l_FnProveSelf
  split
  · rfl
  obtain ⟨x, hx, h1, h2⟩ := drawProve_ok code FU fuFU
  rw [hx, Option.bind_some]
  by_cases e : (x.1.length : Int) = 0
  · rw [if_pos (by simpa using e), Option.bind_some, if_pos rfl, i_solve FU fuFU, Option.bind_some, s_solve FU fuFU _ (smL'_ML h1), Option.bind_some]
    simp
  · rw [if_neg (by simpa using e), s_problem _ (smL'_ML h1), Option.bind_some, Option.bind_some]
    cases hp : okProb x.1 with
    | false =>
      rw [if_pos (show (!false) = true from rfl), i_solve FU fuFU, Option.bind_some, s_solve FU fuFU _ (smL'_ML h1), Option.bind_some]
      simp
    | true =>
      rw [if_neg (by simp), if_neg e, Option.bind_some]
      obtain ⟨c, hc, hm⟩ := so_idx (P := fun c => c ∈ x.1) (xs := x.1) (k := Int.tmod (more.length : Int) (x.1.length : Int)) (Int.tmod_nonneg _ (by omega)) (Int.tmod_lt_of_pos _ (by omega)) fun _ h => h
      rw [hc, Option.bind_some, i_prove FU fuFU, Option.bind_some, Option.bind_some, s_prove FU fuFU _ (smL'_ML h1) _ (smL'_ML h1 c hm), Option.bind_some, cp_bools]
      simp only [beq_self_eq_true, if_true, decide_true, Option.bind_some, Bool.true_and]
      congr 1
      rw [bne_iff_ne]
      intro e
      obtain ⟨q1, q2, q3, q4, q5⟩ := prove_sat e
      unfold allV at q4
      rw [List.all_eq_true] at q4
      have := q4 c hm
      rw [q5] at this
      exact absurd this (by simp)
end Go.L

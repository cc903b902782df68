/- Solving: both sides, and what the answers say. -/
import Derived.Test.YteeilbddjlpiaaaK55
import Derived.Test.YteeilbddjlpiaaaK30
namespace Go.L
open Go Go.E
set_option linter.unusedVariables false
set_option linter.unusedSimpArgs false
set_option maxRecDepth 100000
/-! solving -/
def fuelOk (fuel : Int) : Bool := decide (0 ≤ fuel) && decide (fuel ≤ 2000)
def solveP (fu : Nat) (list : List Con) (fuel : Int) : Int × List Bool × List Step :=
  if okProb list && fuelOk fuel then
    if (srchP fu ⟨list, [], fuel⟩ []).2.1 = 2 then (2, [], (srchP fu ⟨list, [], fuel⟩ []).1.steps) else ((srchP fu ⟨list, [], fuel⟩ []).2.1, (srchP fu ⟨list, [], fuel⟩ []).2.2, [])
  else (3, [], [])
theorem start_ok {list : List Con} {fuel : Int} (h : okProb list = true) (hf : fuelOk fuel = true) : Sok ⟨list, [], fuel⟩ := by
  obtain ⟨h1, h2⟩ := okProb_parts h
  unfold fuelOk at hf
  rw [Bool.and_eq_true, decide_eq_true_eq, decide_eq_true_eq] at hf
  exact ⟨h1, by simpa using h2, by simp, hf.1, hf.2⟩
theorem i_solve (fu : Nat) (hf : FU ≤ fu) (list : List Con) (fuel : Int) : i_SolveProblem fu list fuel = some (solveP fu list fuel) := by
  have hF := hf
  unfold FU at hF
  unfold i_SolveProblem solveP
  rw [i_problem list, Option.bind_some]
  have hw : i_isFuel fuel = some (fuelOk fuel) := rfl
  by_cases hc : (okProb list && fuelOk fuel) = true
  · obtain ⟨h1, h2⟩ := Bool.and_eq_true _ _ ▸ hc
    have hs := start_ok h1 h2
    have h3 := (okProb_parts h1).2
    rw [if_pos hc, h1, hw, h2]
    simp only [Bool.not_true, Option.bind_some, Bool.false_eq_true, if_false]
    rw [i_clone_con _ (by omega), Option.bind_some]
    unfold i_searching_visit
    rw [i_srch fu hf fu ⟨list, [], fuel⟩ _ hs Dec.nil (by omega), Option.bind_some]
    obtain ⟨O, _, O3, O4, _⟩ := srch_ok fu _ _ hs Dec.nil
    unfold outI
    simp only
    rcases O3 with e | e | e
    · have := O4 (by omega)
      simp [e, this]
    · simp [e]
    · simp [e]
  · rw [if_neg hc]
    cases h1 : okProb list with
    | false => rfl
    | true =>
      rw [h1] at hc
      rw [hw]
      cases h2 : fuelOk fuel with
      | true => rw [h2] at hc; exact absurd rfl hc
      | false => rfl
theorem solve_ok {fu : Nat} {list : List Con} {fuel : Int} (h : (solveP fu list fuel).1 = 1 ∨ (solveP fu list fuel).1 = 2) : okProb list = true ∧ fuelOk fuel = true := by
  unfold solveP at h
  by_cases hc : (okProb list && fuelOk fuel) = true
  · exact Bool.and_eq_true _ _ ▸ hc
  · rw [if_neg hc] at h
    omega
theorem solve_sat {fu : Nat} {list : List Con} {fuel : Int} (h : (solveP fu list fuel).1 = 1) : okProb list = true ∧ (solveP fu list fuel).2.1.length = 12 ∧ allV list (solveP fu list fuel).2.1 = true ∧ ∀ v : List Bool, v.length = 12 → allV list v = true → firstR (solveP fu list fuel).2.1 v := by
  obtain ⟨h1, h2⟩ := solve_ok (.inl h)
  have hs := start_ok h1 h2
  have A := srch_ans fu _ _ hs Dec.nil
  unfold solveP at h ⊢
  rw [h1, h2] at h ⊢
  simp only [Bool.and_true, if_true] at h ⊢
  by_cases e : (srchP fu ⟨list, [], fuel⟩ []).2.1 = 2
  · rw [if_pos e] at h
    simp at h
  · rw [if_neg e] at h ⊢
    simp only at h ⊢
    obtain ⟨a, b, c⟩ := A.sat h
    exact ⟨trivial, a, b, fun v hv ha => A.first h v hv ha (by simp [ext])⟩
end Go.L

/- Equality of constraints and proofs, on the program's side. -/
import Derived.Test.YteeilbddjlpiaaaGreatK54
import Derived.Test.YteeilbddjlpiaaaGreatK33
namespace Go.L
open Go Go.E
set_option linter.unusedVariables false
set_option linter.unusedSimpArgs false
set_option maxRecDepth 100000
theorem i_step_same (s t : Step) : i_ProofSame_1 s t = some (decide (s = t)) := by
  unfold i_ProofSame_1
  rw [i_same]
  obtain ⟨k1, a1, b1, g1⟩ := s
  obtain ⟨k2, a2, b2, g2⟩ := t
  by_cases h1 : k1 = k2
  · by_cases h2 : a1 = a2
    · by_cases h3 : b1 = b2
      · by_cases h4 : g1 = g2 <;> simp [h1, h2, h3, h4]
      · simp [h1, h2, h3]
    · simp [h1, h2]
  · simp [h1]
theorem i_proof_same (a b : List Step) : i_ProofSame a b = some (decide (a = b)) := by
  unfold i_ProofSame slices_EqualFunc_implStep
  by_cases hl : a.length = b.length
  · rw [if_neg (by simp [hl]), equal_list a b (b := slices_EqualFunc_implStep_b1 b i_ProofSame_1) (fun i x => by
      rw [slices_EqualFunc_implStep_b1]
      congr 1
      funext y
      rw [i_step_same]
      by_cases h : x = y <;> simp [h]) hl]
    by_cases h : a = b <;> simp [h]
  · rw [if_pos (by simp; omega), decide_eq_false (by intro h; rw [h] at hl; exact hl rfl)]; rfl
theorem cp_bools (a b : List Bool) : l_cpBools a b = some (decide (a = b)) := by
  unfold l_cpBools
  by_cases hl : a.length = b.length
  · rw [if_neg (by simp [hl]), equal_list a b (b := l_cpBools_b1 b) (fun i x => by
      rw [l_cpBools_b1]
      congr 1
      funext y
      by_cases h : x = y <;> simp [h]) hl]
    by_cases h : a = b <;> simp [h]
  · rw [if_pos (by simp; omega), decide_eq_false (by intro h; rw [h] at hl; exact hl rfl)]
end Go.L

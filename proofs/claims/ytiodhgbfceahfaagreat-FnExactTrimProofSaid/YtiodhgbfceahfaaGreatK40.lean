/- A trimmed proof is a refutation; the laws of trimming. -/
import Derived.Test.YtiodhgbfceahfaaGreatK39
namespace Go.L
open Go Go.E
set_option linter.unusedVariables false
set_option linter.unusedSimpArgs false
set_option maxRecDepth 100000
theorem trimR_mem (n : Nat) (x : List Bool) : ∀ (ss : List Step) (k : Nat), ∀ t ∈ trimR n x ss k, ∃ s ∈ ss, t = renS n x s
  | [], _, t, h => by simp [trimR] at h
  | s :: ss, k, t, h => by
    rw [trimR] at h
    split at h
    · rcases List.mem_cons.1 h with rfl | h
      · exact ⟨s, by simp, rfl⟩
      · obtain ⟨u, hu, e⟩ := trimR_mem n x ss (k + 1) t h
        exact ⟨u, by simp [hu], e⟩
    · obtain ⟨u, hu, e⟩ := trimR_mem n x ss (k + 1) t h
      exact ⟨u, by simp [hu], e⟩
theorem trim_mem {list : List Con} {steps : List Step} : ∀ t ∈ (trimP list steps).1, ∃ s ∈ steps, t.kind = s.kind ∧ t.given = s.given ∧ s.kind ≠ 8 := by
  intro t ht
  unfold trimP at ht
  split at ht
  · obtain ⟨s, hs, rfl⟩ := trimR_mem _ _ _ _ t ht
    unfold byL at hs
    rw [List.mem_filter] at hs
    exact ⟨s, hs.1, rfl, rfl, by simpa using hs.2⟩
  · simp at ht
theorem trim_len (list : List Con) (steps : List Step) : (trimP list steps).1.length ≤ steps.length := by
  unfold trimP
  split
  · exact Nat.le_trans (trimR_len _ _ _ _) (byL_le steps)
  · simp
end Go.L

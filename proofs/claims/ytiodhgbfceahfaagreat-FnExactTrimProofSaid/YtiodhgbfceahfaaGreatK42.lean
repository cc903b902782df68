/- Running, refuting and deriving: the program's answer is the reference's. -/
import Derived.Test.YtiodhgbfceahfaaGreatK41
namespace Go.L
open Go Go.E
set_option linter.unusedVariables false
set_option linter.unusedSimpArgs false
set_option maxRecDepth 100000
theorem lenC_of {xs : List Con} (h : gCons xs) : xs.length ≤ ML ∧ ∀ c ∈ xs, c.terms.length ≤ ML := ⟨h.1, fun c hc => (h.2 c hc).1.1⟩
theorem lenS_of {xs : List Step} (h : gSteps xs) : xs.length ≤ ML ∧ ∀ s ∈ xs, s.given.terms.length ≤ ML := ⟨h.1, fun s hs => (h.2 s hs).2.2.2.1.1⟩
theorem smCs_lens {xs : List Con} (h : smCs xs) : lensC xs := fun c hc => by have := h.2 c hc; unfold smC at this; unfold ML; omega
theorem smSs_lens {xs : List Step} (h : smSs xs) : lens xs := fun s hs => by have := h.2 s hs; unfold smC at this; omega
theorem FUV : FU ≤ FV := by decide
end Go.L

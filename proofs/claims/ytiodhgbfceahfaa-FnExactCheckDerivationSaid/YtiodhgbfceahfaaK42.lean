/- Running, refuting and deriving: the program's answer is the reference's. -/
import Derived.Test.YtiodhgbfceahfaaK41
namespace Go.L
open Go Go.E
set_option linter.unusedVariables false
set_option linter.unusedSimpArgs false
set_option maxRecDepth 100000
theorem lenC_of {xs : List Con} (h : gCons xs) : xs.length ≤ ML ∧ ∀ c ∈ xs, c.terms.length ≤ ML := ⟨h.1, fun c hc => (h.2 c hc).1.1⟩
theorem lenS_of {xs : List Step} (h : gSteps xs) : xs.length ≤ ML ∧ ∀ s ∈ xs, s.given.terms.length ≤ ML := ⟨h.1, fun s hs => (h.2 s hs).2.2.2.1.1⟩
theorem smCs_lens {xs : List Con} (h : smCs xs) : lensC xs := fun c hc => by have := h.2 c hc; unfold smC at this; unfold ML; omega
theorem smSs_lens {xs : List Step} (h : smSs xs) : lens xs := fun s hs => by have := h.2 s hs; unfold smC at this; omega
theorem FUV : FU ≤ FV := by decide
theorem FnExactCheckDerivation_ok (aList : List Con) (aSteps : List Step) (aC : Con) (g0 : gCons aList) (g1 : gSteps aSteps) (g2 : gCon aC) : ∃ fu, l_FnExactCheckDerivation fu aList aSteps aC = some true := by
  refine ⟨FV, ?_⟩
  unfold l_FnExactCheckDerivation
  refine sz_law (szCons aList 1048576 (by omega) (by omega) (lenC_of g0).1 (lenC_of g0).2) (by omega) fun r p0 p1 hc => ?_
  refine sz_law (szSteps aSteps r p0 p1 (lenS_of g1).1 (lenS_of g1).2) p1 fun r2 q0 q1 hs => ?_
  refine sz_law (szCon aC r2 q0 q1 g2.1.1) q1 fun r3 _ _ hC => ?_
  have hml : aC.terms.length ≤ ML := by unfold smC at hC; unfold ML; omega
  simp only [toCons _ hc, toSteps _ hs, toCon _ hC, Option.bind_some, s_derB FV FUV (smCs_lens hc) (smSs_lens hs) hml, i_derB FV FUV, eqCons, eqSteps, eqCon]
  simp
end Go.L

/- Running, refuting and deriving: the program's answer is the reference's. -/
import Derived.Test.YtiodhgbfceahfaaK41
namespace Go.L
open Go Go.E
set_option linter.unusedVariables false
set_option linter.unusedSimpArgs false
set_option maxRecDepth 100000
theorem lenC_of {xs : List Con} (h : gCons xs) : xs.length ≤ ML ∧ ∀ c ∈ xs, c.terms.length ≤ ML := ⟨h.1, fun c hc => (h.2 c hc).1.1⟩
theorem lenS_of {xs : List Step} (h : gSteps xs) : xs.length ≤ ML ∧ ∀ s ∈ xs, s.given.terms.length ≤ ML := ⟨h.1, fun s hs => (h.2 s hs).2.2.2.1.1⟩
theorem smCs_lens {xs : List Con} (h : smCs xs) : lensC xs := fun c hc => by have := h.2 c hc; unfold smC at this; unfold ML; omega
theorem smSs_lens {xs : List Step} (h : smSs xs) : lens xs := fun s hs => by have := h.2 s hs; unfold smC at this; omega
theorem FUV : FU ≤ FV := by decide
theorem runP_small (list : List Con) (steps : List Step) : smCs (runP list steps).1 := by
  unfold runP
  split
  · rename_i h
    split
    · have hk := kept_ok (runL_ok h).1
      exact ⟨by have := hk.2; simp only; omega, fun c hc => by have := (okCon_parts (hk.1 c hc)).2.1; unfold smC; omega⟩
    · exact ⟨by simp, by simp⟩
  · exact ⟨by simp, by simp⟩
theorem FnExactRunProof_ok (aList : List Con) (aSteps : List Step) (g0 : gCons aList) (g1 : gSteps aSteps) : ∃ fu, l_FnExactRunProof fu aList aSteps = some true := by
  refine ⟨FV, ?_⟩
  unfold l_FnExactRunProof
  refine sz_law (szCons aList 1048576 (by omega) (by omega) (lenC_of g0).1 (lenC_of g0).2) (by omega) fun r p0 p1 hc => ?_
  refine sz_law (szSteps aSteps r p0 p1 (lenS_of g1).1 (lenS_of g1).2) p1 fun r2 _ _ hs => ?_
  obtain ⟨k1, a1, e1, _, u1, v1⟩ := mkCons aList hc FV (Nat.le_refl _) 1 (by omega) (by omega)
  obtain ⟨k2, a2, e2, _, u2, v2⟩ := mkSteps aSteps hs FV (Nat.le_refl _) k1 (by omega) (by omega)
  obtain ⟨k3, a3, e3, f3, u3, v3⟩ := mkCons (runP aList aSteps).1 (runP_small aList aSteps) FV (Nat.le_refl _) 1 (by omega) (by omega)
  simp only [toCons _ hc, toSteps _ hs, Option.bind_some, s_runP FV FUV (smCs_lens hc) (smSs_lens hs), i_runP FV FUV, eqCons, eqSteps, e1, e2, e3, f3]
  have n2 : decide (k2 < 0) = false := by simp; omega
  have n3 : decide (k3 < 0) = false := by simp; omega
  simp [n2, n3]
end Go.L

/- Values as assignments; negation; reverse unit propagation is sound and monotonic. -/
import Derived.Test.YtiodhgbfceahfaaGreatK26
namespace Go.L
open Go Go.E
set_option linter.unusedVariables false
set_option linter.unusedSimpArgs false
set_option maxRecDepth 100000
def trueL (v : List Bool) (l : Int) : Bool := if l > 0 then v.getD (l - 1).toNat false else !(v.getD (-l - 1).toNat false)
def sumV (v : List Bool) (ts : List Term) : Int := sumR (fun t => if trueL v t.lit then t.coef else 0) ts
def evalC (c : Con) (v : List Bool) : Bool := decide (sumV v c.terms ≥ c.bound)
/-! negation -/
def negC (c : Con) : Con := ⟨c.terms.map fun t => ⟨t.coef, -t.lit⟩, max 0 (tot c - c.bound + 1)⟩
theorem absI_neg (n : Int) : absI (-n) = absI n := by unfold absI; omega
theorem okT_neg {t : Term} (h : okT t = true) : okT ⟨t.coef, -t.lit⟩ = true := by
  obtain ⟨h0, h1, h2, h3, h4⟩ := okT_lit h
  unfold okT
  simp
  omega
theorem okTerms_neg : ∀ (ts : List Term) (b : Int), okTerms b ts = true → okTerms b (ts.map fun t => ⟨t.coef, -t.lit⟩) = true
  | [], _, _ => rfl
  | t :: ts, b, h => by
    rw [okTerms, Bool.and_eq_true, Bool.and_eq_true] at h
    rw [List.map_cons, okTerms, Bool.and_eq_true, Bool.and_eq_true]
    refine ⟨⟨okT_neg h.1.1, ?_⟩, ?_⟩
    · rw [absI_neg]; exact h.1.2
    · rw [absI_neg]; exact okTerms_neg ts _ h.2
theorem okCon_tot {c : Con} (h : okCon c = true) : 0 ≤ tot c ∧ tot c ≤ 12000 := by
  obtain ⟨_, h2, h3, _, _⟩ := okCon_parts h
  have := totT_bound c.terms h3
  unfold tot
  omega
theorem negC_ok {c : Con} (h : okCon c = true) : okCon (negC c) = true := by
  have ht := okCon_tot h
  obtain ⟨h1, _, _, h4, h5⟩ := okCon_parts h
  unfold okCon okB negC
  simp only [okTerms_neg _ _ h1]
  simp
  omega
/-! reverse unit propagation -/
def zeroP : List Int := List.replicate 12 0
theorem zeroP_ok : okP zeroP := by
  refine ⟨rfl, fun x hx => ?_⟩
  rw [List.eq_of_mem_replicate hx]; omega
def rupB (list : List Con) (c : Con) : Bool := decide (0 ≤ (prop 13 (list ++ [negC c]) zeroP).2)
end Go.L

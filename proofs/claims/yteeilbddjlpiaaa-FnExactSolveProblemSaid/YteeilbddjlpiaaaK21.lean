/- Constraints: sums of coefficients, problems. -/
import Derived.Test.YteeilbddjlpiaaaK20
namespace Go.L
open Go Go.E
set_option linter.unusedVariables false
set_option linter.unusedSimpArgs false
set_option maxRecDepth 100000
theorem okTerms_len : ∀ (ts : List Term) (b : Int), 0 ≤ b → okTerms b ts = true → (ts.length : Int) + b ≤ 12 ∨ ts = []
  | [], _, _, _ => .inr rfl
  | t :: ts, b, hb, h => by
    rw [okTerms, Bool.and_eq_true, Bool.and_eq_true] at h
    obtain ⟨⟨h1, h2⟩, h3⟩ := h
    obtain ⟨h0, l1, l2, _, _⟩ := okT_lit h1
    have h2 := of_decide_eq_true h2
    have ha : absI t.lit ≤ 12 := by unfold absI; omega
    left
    rcases okTerms_len ts (absI t.lit) (by omega) h3 with h | h
    · simp; omega
    · subst h; simp; omega
theorem okTerms_all : ∀ (ts : List Term) (b : Int), okTerms b ts = true → ∀ t ∈ ts, okT t = true
  | [], _, _, t, ht => by cases ht
  | t :: ts, b, h, u, hu => by
    rw [okTerms, Bool.and_eq_true, Bool.and_eq_true] at h
    rcases List.mem_cons.1 hu with rfl | hu
    · exact h.1.1
    · exact okTerms_all ts _ h.2 u hu
theorem okCon_parts {c : Con} (h : okCon c = true) : okTerms 0 c.terms = true ∧ c.terms.length ≤ 12 ∧ (∀ t ∈ c.terms, okT t = true) ∧ 0 ≤ c.bound ∧ c.bound ≤ 20000 := by
  unfold okCon okB at h
  simp at h
  refine ⟨h.1, ?_, okTerms_all _ _ h.1, h.2.1, h.2.2⟩
  rcases okTerms_len _ _ (Int.le_refl 0) h.1 with h | h
  · omega
  · rw [h]; simp
def okProb (list : List Con) : Bool := list.all okCon && decide ((list.length : Int) ≤ 400)
theorem s_problem (list : List Con) (hl : ∀ c ∈ list, c.terms.length ≤ ML) : s_ProblemValid list = some (okProb list) := by
  unfold s_ProblemValid okProb
  rw [range_all okCon false list]
  · cases list.all okCon <;> simp
  · intro i c hc
    show (s_ConstraintValid c).bind _ = _
    rw [s_valid c (hl c (List.mem_of_getElem? hc)), Option.bind_some]
    cases okCon c <;> rfl
theorem i_contains (s : List Con) {p : Con → Option Bool} {q : Con → Bool} (hp : ∀ c ∈ s, p c = some (q c)) : slices_ContainsFunc_implConstraint s p = some (s.any q) := by
  unfold slices_ContainsFunc_implConstraint slices_IndexFunc_implConstraint
  obtain ⟨j, h1, h2⟩ := range_index (q := q) (b := slices_IndexFunc_implConstraint_b1 p) s (fun i x hx => by show (p x).bind _ = _; rw [hp x (List.mem_of_getElem? hx)]; show (if _ then _ else _) = _; cases q x <;> rfl)
  rw [h1]
  cases j with
  | nx u => simp only at h2; rw [h2]; rfl
  | out t => simp only at h2; rw [h2.2]; simp [h2.1]
theorem i_problem (list : List Con) : i_ProblemValid list = some (okProb list) := by
  unfold i_ProblemValid i_allValid okProb
  rw [i_contains list (q := fun c => !okCon c) fun c _ => by unfold i_allValid_1; rw [i_valid]; rfl]
  have e : list.any (fun c => !okCon c) = !list.all okCon := any_not_all _ _
  rw [e]
  cases h : decide ((list.length : Int) ≤ 400) <;> simp [h]
end Go.L

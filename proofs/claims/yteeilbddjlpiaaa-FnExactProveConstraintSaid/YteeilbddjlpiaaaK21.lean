/- Constraints: sums of coefficients, problems. -/
import Derived.Test.YteeilbddjlpiaaaK20
namespace Go.L
open Go Go.E
set_option linter.unusedVariables false
set_option linter.unusedSimpArgs false
set_option maxRecDepth 100000
theorem okTerms_len : ∀ (ts : List Term) (b : Int), 0 ≤ b → okTerms b ts = true → (ts.length : Int) + b ≤ 12 ∨ ts = []
  | [], _, _, _ => .inr rfl
  | t :: ts, b, hb, h => by
    rw [okTerms, Bool.and_eq_true, Bool.and_eq_true] at h
    obtain ⟨⟨h1, h2⟩, h3⟩ := h
    obtain ⟨h0, l1, l2, _, _⟩ := okT_lit h1
    have h2 := of_decide_eq_true h2
    have ha : absI t.lit ≤ 12 := by unfold absI; omega
    left
    rcases okTerms_len ts (absI t.lit) (by omega) h3 with h | h
    · simp; omega
    · subst h; simp; omega
theorem okTerms_all : ∀ (ts : List Term) (b : Int), okTerms b ts = true → ∀ t ∈ ts, okT t = true
  | [], _, _, t, ht => by cases ht
  | t :: ts, b, h, u, hu => by
    rw [okTerms, Bool.and_eq_true, Bool.and_eq_true] at h
    rcases List.mem_cons.1 hu with rfl | hu
    · exact h.1.1
    · exact okTerms_all ts _ h.2 u hu
theorem okCon_parts {c : Con} (h : okCon c = true) : okTerms 0 c.terms = true ∧ c.terms.length ≤ 12 ∧ (∀ t ∈ c.terms, okT t = true) ∧ 0 ≤ c.bound ∧ c.bound ≤ 20000 := by
  unfold okCon okB at h
  simp at h
  refine ⟨h.1, ?_, okTerms_all _ _ h.1, h.2.1, h.2.2⟩
  rcases okTerms_len _ _ (Int.le_refl 0) h.1 with h | h
  · omega
  · rw [h]; simp
def totT (ts : List Term) : Int := ts.foldl (fun n t => n + t.coef) 0
theorem totT_snoc (ts : List Term) (t : Term) : totT (ts ++ [t]) = totT ts + t.coef := by simp [totT, List.foldl_append]
theorem totT_bound : ∀ (ts : List Term), (∀ t ∈ ts, okT t = true) → (ts.length : Int) ≤ totT ts ∧ totT ts ≤ 1000 * ts.length := by
  intro ts
  have key : ∀ (ts : List Term) (n : Int), (∀ t ∈ ts, okT t = true) → n + ts.length ≤ ts.foldl (fun n t => n + t.coef) n ∧ ts.foldl (fun n t => n + t.coef) n ≤ n + 1000 * ts.length := by
    intro ts
    induction ts with
    | nil => intro n _; simp
    | cons t ts ih =>
      intro n h
      obtain ⟨_, _, _, h3, h4⟩ := okT_lit (h t (by simp))
      have := ih (n + t.coef) fun u hu => h u (by simp [hu])
      simp only [List.foldl_cons, List.length_cons]
      omega
  intro h
  have := key ts 0 h
  unfold totT
  omega
theorem tot_loop {τ : Type} {b : Nat → Term → Int → Option (Lo Int τ)} (hb : ∀ i t n, b i t n = some (.cont (i64 (n + t.coef)))) (ts : List Term) (h : ∀ t ∈ ts, okT t = true) (hl : ts.length ≤ 12) :
    rangeL b ts 0 0 = some (.nx (totT ts)) := by
  have := range_to (b := b) (fun i => totT (ts.take i)) ts (by
    intro i t ht
    have hi := (List.getElem?_eq_some_iff.1 ht).1
    have e : ts.take (i + 1) = ts.take i ++ [t] := by rw [List.take_add_one, ht]; rfl
    have h1 := totT_bound (ts.take (i + 1)) fun u hu => h u (List.mem_of_mem_take hu)
    have h2 : (ts.take (i + 1)).length ≤ 12 := by simp; omega
    rw [hb, e, totT_snoc] at *
    rw [i64_id (by omega) (by omega)])
  simpa [totT] using this
def tot (c : Con) : Int := totT c.terms
theorem s_total {c : Con} (h : okCon c = true) : s_l1Total c = some (tot c) := by
  obtain ⟨_, h2, h3, _⟩ := okCon_parts h
  unfold s_l1Total
  rw [tot_loop (b := s_l1Total_b1) (fun _ _ _ => rfl) c.terms h3 h2]
  rfl
theorem i_total {c : Con} (h : okCon c = true) : i_Constraint_total c = some (tot c) := by
  obtain ⟨_, h2, h3, _⟩ := okCon_parts h
  unfold i_Constraint_total
  rw [tot_loop (b := i_Constraint_total_b1) (fun _ _ _ => rfl) c.terms h3 h2]
  rfl
def okProb (list : List Con) : Bool := list.all okCon && decide ((list.length : Int) ≤ 400)
theorem s_problem (list : List Con) (hl : ∀ c ∈ list, c.terms.length ≤ ML) : s_ProblemValid list = some (okProb list) := by
  unfold s_ProblemValid okProb
  rw [range_all okCon false list]
  · cases list.all okCon <;> simp
  · intro i c hc
    show (s_ConstraintValid c).bind _ = _
    rw [s_valid c (hl c (List.mem_of_getElem? hc)), Option.bind_some]
    cases okCon c <;> rfl
theorem i_contains (s : List Con) {p : Con → Option Bool} {q : Con → Bool} (hp : ∀ c ∈ s, p c = some (q c)) : slices_ContainsFunc_implConstraint s p = some (s.any q) := by
  unfold slices_ContainsFunc_implConstraint slices_IndexFunc_implConstraint
  obtain ⟨j, h1, h2⟩ := range_index (q := q) (b := slices_IndexFunc_implConstraint_b1 p) s (fun i x hx => by show (p x).bind _ = _; rw [hp x (List.mem_of_getElem? hx)]; show (if _ then _ else _) = _; cases q x <;> rfl)
  rw [h1]
  cases j with
  | nx u => simp only at h2; rw [h2]; rfl
  | out t => simp only at h2; rw [h2.2]; simp [h2.1]
theorem i_problem (list : List Con) : i_ProblemValid list = some (okProb list) := by
  unfold i_ProblemValid i_allValid okProb
  rw [i_contains list (q := fun c => !okCon c) fun c _ => by unfold i_allValid_1; rw [i_valid]; rfl]
  have e : list.any (fun c => !okCon c) = !list.all okCon := any_not_all _ _
  rw [e]
  cases h : decide ((list.length : Int) ≤ 400) <;> simp [h]
end Go.L

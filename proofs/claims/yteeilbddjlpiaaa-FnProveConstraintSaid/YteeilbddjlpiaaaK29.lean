/- Satisfaction: the program's side; numbered values. -/
import Derived.Test.YteeilbddjlpiaaaK28
namespace Go.L
open Go Go.E
set_option linter.unusedVariables false
set_option linter.unusedSimpArgs false
set_option maxRecDepth 100000
theorem idx_v {v : List Bool} (hv : v.length = 12) {k : Int} (h0 : 0 ≤ k) (h1 : k < 12) : idx v k = some (v.getD k.toNat false) := by
  have hl : k.toNat < v.length := by omega
  rw [idx_get h0 hl, List.getD_eq_getElem?_getD, List.getElem?_eq_getElem hl]
  rfl
theorem i_holds_eq {v : List Bool} (hv : v.length = 12) {l : Int} (hl : lit12 l) : i_holds l v = some (trueL v l) := by
  obtain ⟨h0, h1, h2⟩ := hl
  unfold i_holds i_variableOf trueL
  rw [i64_id (n := -l) (by omega) (by omega), Option.bind_some]
  by_cases h : l > 0
  · rw [show max l (-l) = l by omega, i64_id (by omega) (by omega), idx_v hv (by omega) (by omega), if_pos h]
    simp [h]
  · rw [show max l (-l) = -l by omega, i64_id (by omega) (by omega), idx_v hv (by omega) (by omega), if_neg h]
    simp [h]
theorem sumV_snoc (v : List Bool) (ts : List Term) (t : Term) : sumV v (ts ++ [t]) = if trueL v t.lit then sumV v ts + t.coef else sumV v ts := by
  have e : ∀ ts, sumV v ts = ts.foldl (fun n t => n + (if trueL v t.lit then t.coef else 0)) 0 := fun ts => by
    rw [foldl_sumR]; unfold sumV; omega
  rw [e, e, List.foldl_append, List.foldl_cons, List.foldl_nil]
  cases trueL v t.lit <;> simp
theorem sumV_bound (v : List Bool) : ∀ (ts : List Term), (∀ t ∈ ts, okT t = true) → 0 ≤ sumV v ts ∧ sumV v ts ≤ 1000 * ts.length
  | [], _ => by simp [sumV, sumR]
  | t :: ts, h => by
    have := sumV_bound v ts fun u hu => h u (by simp [hu])
    obtain ⟨_, _, _, h3, h4⟩ := okT_lit (h t (by simp))
    unfold sumV at *
    simp only [sumR, List.length_cons]
    split <;> omega
theorem i_cholds {v : List Bool} (hv : v.length = 12) {c : Con} (hc : okCon c = true) : i_Constraint_holds c v = some (evalC c v) := by
  obtain ⟨_, h2, h3, _, _⟩ := okCon_parts hc
  unfold i_Constraint_holds
  have := range_to (b := i_Constraint_holds_b1 v) (fun i => sumV v (c.terms.take i)) c.terms (by
    intro i t ht
    have e : c.terms.take (i + 1) = c.terms.take i ++ [t] := by rw [List.take_add_one, ht]; rfl
    have hk := h3 t (List.mem_of_getElem? ht)
    obtain ⟨_, _, _, q1, q2⟩ := okT_lit hk
    have hb := sumV_bound v (c.terms.take i) fun u hu => h3 u (List.mem_of_mem_take hu)
    have hl : (c.terms.take i).length ≤ 12 := by simp; omega
    rw [i_Constraint_holds_b1, i_holds_eq hv (okT_lit12 hk), Option.bind_some, e, sumV_snoc, i64_id (by omega) (by omega)]
    cases trueL v t.lit <;> rfl)
  have e0 : sumV v (c.terms.take 0) = 0 := rfl
  rw [e0] at this
  rw [this]
  simp [evalC]
theorem i_eval {v : List Bool} (hv : v.length = 12) (c : Con) : i_EvalConstraint c v = some (okCon c && evalC c v) := by
  unfold i_EvalConstraint
  rw [i_valid, Option.bind_some, hv]
  cases h : okCon c with
  | false => rfl
  | true => simp [i_cholds hv h]
theorem i_sat {v : List Bool} (hv : v.length = 12) (list : List Con) : i_SatisfiesAll list v = some (okProb list && allV list v) := by
  unfold i_SatisfiesAll
  rw [i_problem, Option.bind_some, hv]
  cases h : okProb list with
  | false => rfl
  | true =>
    obtain ⟨g1, _⟩ := okProb_parts h
    have e : i_satisfies list v = some (allV list v) := by
      unfold i_satisfies
      rw [i_contains list (q := fun c => !evalC c v) fun c hc => by unfold i_satisfies_1; rw [i_cholds hv (g1 c hc)]; rfl, Option.bind_some, any_not_all, Bool.not_not]
      rfl
    simp [e]
theorem cpValues_ok (n : Int) (h0 : 0 ≤ n) (h1 : n ≤ 1000000) : ∃ v, l_cpValues n = some v ∧ v.length = 12 := by
  unfold l_cpValues
  obtain ⟨j, hj, hQ⟩ := count_inv (b := l_cpValues_b1) (fun i (s : Int × List Bool) => s.2.length = i ∧ 0 ≤ s.1 ∧ s.1 ≤ n) (fun j => ∃ s, j = .nx s ∧ s.2.length = 12) 12 0
    (fun s h => ⟨s, rfl, h.1⟩) (fun i s h1 h2 hI => by
      obtain ⟨m, out⟩ := s
      obtain ⟨a, b, c⟩ := hI
      simp only at a b c
      refine ⟨_, by rw [l_cpValues_b1, app_le (by simp; omega)]; rfl, ?_⟩
      have d0 : 0 ≤ Int.tdiv m 2 := Int.tdiv_nonneg b (by omega)
      have d1 : Int.tdiv m 2 ≤ m := Int.tdiv_le_self _ b
      refine ⟨by simp [a], ?_⟩
      show 0 ≤ i64 (Int.tdiv m 2) ∧ i64 (Int.tdiv m 2) ≤ n
      rw [i64_id (by omega) (by omega)]
      omega) (n, []) ⟨rfl, h0, Int.le_refl _⟩
  have e : cntF 0 12 = some 12 := cntF_nat (n := 12) (by omega)
  rw [e, Option.bind_some, hj]
  obtain ⟨s, rfl, hs⟩ := hQ
  exact ⟨s.2, rfl, hs⟩
end Go.L

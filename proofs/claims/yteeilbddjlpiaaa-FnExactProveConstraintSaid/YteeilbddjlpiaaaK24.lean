/- Implied literals of a valid constraint, on both sides; what assigning does. -/
import Derived.Test.YteeilbddjlpiaaaK23
namespace Go.L
open Go Go.E
set_option linter.unusedVariables false
set_option linter.unusedSimpArgs false
set_option maxRecDepth 100000
def impT (p : List Int) (sl : Int) (t : Term) : Bool := (stt p t.lit == 0) && decide (t.coef > sl)
def impL (p : List Int) (sl : Int) (ts : List Term) : List Int := (ts.filter (impT p sl)).map (·.lit)
theorem impL_snoc (p : List Int) (sl : Int) (ts : List Term) (t : Term) : impL p sl (ts ++ [t]) = if impT p sl t then impL p sl ts ++ [t.lit] else impL p sl ts := by
  unfold impL
  rw [List.filter_append, List.map_append]
  cases h : impT p sl t <;> simp [h]
theorem impL_len (p : List Int) (sl : Int) (ts : List Term) : (impL p sl ts).length ≤ ts.length := by
  unfold impL
  rw [List.length_map]
  exact List.length_filter_le _ _
theorem i_implied {c : Con} (h : okCon c = true) {p : List Int} (hp : okP p) : i_Constraint_implied c p = some (impL p (slackC c p) c.terms) := by
  obtain ⟨_, h2, h3, _, _⟩ := okCon_parts h
  unfold i_Constraint_implied
  rw [i_slack h hp, Option.bind_some]
  have := range_to (b := i_Constraint_implied_b1 p (slackC c p)) (fun i => impL p (slackC c p) (c.terms.take i)) c.terms (by
    intro i t ht
    have e : c.terms.take (i + 1) = c.terms.take i ++ [t] := by rw [List.take_add_one, ht]; rfl
    have hk := h3 t (List.mem_of_getElem? ht)
    obtain ⟨h0, h1, h2', _, _⟩ := okT_lit hk
    have hl := impL_len p (slackC c p) (c.terms.take i)
    show (i_under t.lit p).bind _ = _
    rw [i_state hp h0 h1 h2', Option.bind_some, e, impL_snoc]
    have hl2 : (c.terms.take i).length ≤ 12 := by simp; omega
    rw [app_le (by simp; omega)]
    unfold impT
    cases hs : (stt p t.lit == 0) && decide (t.coef > slackC c p) <;> simp)
  have e0 : impL p (slackC c p) (c.terms.take 0) = [] := rfl
  rw [e0] at this
  rw [this]
  simp
theorem s_implied {c : Con} (h : okCon c = true) {p : List Int} (hp : okP p) (hs : 0 ≤ slackC c p) (fu : Nat) (hf : FU ≤ fu) : s_l3Implied fu c p = some (impL p (slackC c p) c.terms) := by
  obtain ⟨_, h2, h3, _, _⟩ := okCon_parts h
  unfold s_l3Implied
  rw [s_slack h hp, Option.bind_some]
  obtain ⟨j, hj, hQ⟩ := while_inv (b := s_l3Implied_b1 c p (slackC c p)) (fun n (s : List Int × Int) => ∃ i : Nat, s.2 = (i : Int) ∧ i + n = c.terms.length ∧ s.1 = impL p (slackC c p) (c.terms.take i))
    (fun j => ∃ k, j = .nx (impL p (slackC c p) c.terms, k)) (fun n s hI => by
      obtain ⟨out, k⟩ := s
      obtain ⟨i, hk, hi, ho⟩ := hI
      simp only at hk ho
      subst hk ho
      cases n with
      | zero =>
        refine ⟨.brk (impL p (slackC c p) (c.terms.take i), (i : Int)), ?_, ?_⟩
        · rw [s_l3Implied_b1, if_neg (by simp; omega)]
        · have : i = c.terms.length := by omega
          exact ⟨(i : Int), by rw [this, List.take_length]⟩
      | succ n =>
        have hil : i < c.terms.length := by omega
        have ht : c.terms[i]? = some c.terms[i] := List.getElem?_eq_getElem hil
        have e : c.terms.take (i + 1) = c.terms.take i ++ [c.terms[i]] := by rw [List.take_add_one, ht]; rfl
        have hk := h3 _ (List.getElem_mem hil)
        obtain ⟨h0, h1, h2', _, _⟩ := okT_lit hk
        have hl := impL_len p (slackC c p) (c.terms.take i)
        have hl2 : (c.terms.take i).length ≤ 12 := by simp; omega
        refine ⟨.cont (impL p (slackC c p) (c.terms.take (i + 1)), ((i + 1 : Nat) : Int)), ?_, n, by omega, i + 1, rfl, by omega, rfl⟩
        rw [s_l3Implied_b1, if_pos (by simp; omega), idx_nat, ht, Option.bind_some, s_state hp h0 h1 h2', Option.bind_some, e, impL_snoc, app_le (by simp; omega), i64_id (by omega) (by omega)]
        unfold impT
        cases hq : (stt p c.terms[i].lit == 0) && decide (c.terms[i].coef > slackC c p) <;> simp)
    fu c.terms.length ([], 0) ⟨0, rfl, by omega, rfl⟩ (by unfold FU at hf; omega)
  rw [hj]
  obtain ⟨k, rfl⟩ := hQ
  rfl
end Go.L

/- Slack and implied literals of a valid constraint, on both sides. -/
import Derived.Test.YteeilbddjlpiaaaK22
namespace Go.L
open Go Go.E
set_option linter.unusedVariables false
set_option linter.unusedSimpArgs false
set_option maxRecDepth 100000
/-- the coefficients of the literals that are not false -/
def keepT (p : List Int) (ts : List Term) : Int := ts.foldl (fun n t => if stt p t.lit ≥ 0 then n + t.coef else n) 0
def slackC (c : Con) (p : List Int) : Int := -c.bound + keepT p c.terms
theorem keepT_snoc (p : List Int) (ts : List Term) (t : Term) : keepT p (ts ++ [t]) = if stt p t.lit ≥ 0 then keepT p ts + t.coef else keepT p ts := by simp [keepT, List.foldl_append]
theorem keepT_bound (p : List Int) : ∀ (ts : List Term), (∀ t ∈ ts, okT t = true) → 0 ≤ keepT p ts ∧ keepT p ts ≤ 1000 * ts.length := by
  intro ts
  have key : ∀ (ts : List Term) (n : Int), (∀ t ∈ ts, okT t = true) → n ≤ ts.foldl (fun n t => if stt p t.lit ≥ 0 then n + t.coef else n) n ∧ ts.foldl (fun n t => if stt p t.lit ≥ 0 then n + t.coef else n) n ≤ n + 1000 * ts.length := by
    intro ts
    induction ts with
    | nil => intro n _; simp
    | cons t ts ih =>
      intro n h
      obtain ⟨_, _, _, h3, h4⟩ := okT_lit (h t (by simp))
      simp only [List.foldl_cons, List.length_cons]
      split
      · have := ih (n + t.coef) fun u hu => h u (by simp [hu])
        omega
      · have := ih n fun u hu => h u (by simp [hu])
        omega
  intro h
  have := key ts 0 h
  unfold keepT
  omega
theorem slack_loop {τ : Type} {p : List Int} {b : Nat → Term → Int → Option (Lo Int τ)} (c : Con) (h : okCon c = true)
    (hb : ∀ i t n, okT t = true → b i t n = some (.cont (if stt p t.lit ≥ 0 then i64 (n + t.coef) else n))) :
    rangeL b c.terms 0 (i64 (-c.bound)) = some (.nx (slackC c p)) := by
  obtain ⟨_, h2, h3, h4, h5⟩ := okCon_parts h
  have := range_to (b := b) (fun i => -c.bound + keepT p (c.terms.take i)) c.terms (by
    intro i t ht
    have hi := (List.getElem?_eq_some_iff.1 ht).1
    have e : c.terms.take (i + 1) = c.terms.take i ++ [t] := by rw [List.take_add_one, ht]; rfl
    have h1 := keepT_bound p (c.terms.take i) fun u hu => h3 u (List.mem_of_mem_take hu)
    have hl : (c.terms.take i).length ≤ 12 := by simp; omega
    have hk := h3 t (List.mem_of_getElem? ht)
    obtain ⟨_, _, _, q1, q2⟩ := okT_lit hk
    rw [hb _ _ _ hk, e, keepT_snoc]
    split
    · rw [i64_id (by omega) (by omega)]; congr 2; omega
    · rfl)
  rw [i64_id (by omega) (by omega)]
  simpa [keepT, slackC] using this
theorem s_slack {c : Con} (h : okCon c = true) {p : List Int} (hp : okP p) : s_l3Slack c p = some (slackC c p) := by
  unfold s_l3Slack
  rw [slack_loop (b := s_l3Slack_b1 p) (p := p) c h fun i t n hk => by
    obtain ⟨h0, h1, h2, _, _⟩ := okT_lit hk
    show (s_l3State p t.lit).bind _ = _
    rw [s_state hp h0 h1 h2, Option.bind_some]
    by_cases hs : stt p t.lit ≥ 0 <;> simp [hs]]
  rfl
theorem i_slack {c : Con} (h : okCon c = true) {p : List Int} (hp : okP p) : i_Constraint_slack c p = some (slackC c p) := by
  unfold i_Constraint_slack
  rw [slack_loop (b := i_Constraint_slack_b1 p) (p := p) c h fun i t n hk => by
    obtain ⟨h0, h1, h2, _, _⟩ := okT_lit hk
    show (i_under t.lit p).bind _ = _
    rw [i_state hp h0 h1 h2, Option.bind_some]
    by_cases hs : stt p t.lit ≥ 0 <;> simp [hs]]
  rfl
end Go.L

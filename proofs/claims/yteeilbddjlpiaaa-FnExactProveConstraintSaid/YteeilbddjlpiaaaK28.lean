/- Propagation and reverse unit propagation, on both sides. -/
import Derived.Test.YteeilbddjlpiaaaK27
namespace Go.L
open Go Go.E
set_option linter.unusedVariables false
set_option linter.unusedSimpArgs false
set_option maxRecDepth 100000
theorem prop_at : ∀ (n : Nat) (cs : List Con) (p : List Int) (p' : List Int) (a : Int), prop n cs p = (p', a) → a = -1 ∨ 0 ≤ a
  | 0, cs, p, p', a, h => by rw [prop] at h; simp at h; exact .inl h.2.symm
  | n + 1, cs, p, p', a, h => by
    rw [prop] at h
    split at h
    · simp at h; omega
    · split at h
      · exact prop_at n _ _ _ _ h
      · simp at h; exact .inl h.2.symm
theorem prop_while {τ : Type} {b : List Int × Bool → Option (Lo (List Int × Bool) τ)} (cs : List Con) (hc : ∀ c ∈ cs, okCon c = true) (res : List Int → Int → τ)
    (hb1 : ∀ p, okP p → b (p, true) = some (match pass cs 0 p false with | .conf p' i => .out (res p' (i : Int)) | .go p' m => .cont (p', m))) (hb2 : ∀ p, b (p, false) = some (.brk (p, false))) :
    ∀ (n k : Nat) (p : List Int), okP p → zer p < n → n < k → whileL b k (p, true) = some (if 0 ≤ (prop n cs p).2 then .out (res (prop n cs p).1 (prop n cs p).2) else .nx ((prop n cs p).1, false))
  | 0, _, p, _, hz, _ => by omega
  | n + 1, 0, p, _, _, hk => by omega
  | n + 1, 1, p, _, _, hk => by omega
  | n + 1, k + 2, p, hp, hz, hk => by
    show (b (p, true)).bind _ = _
    rw [hb1 p hp, prop]
    cases hpa : pass cs 0 p false with
    | conf p1 i => simp
    | go p1 m1 =>
      obtain ⟨g1, g2, g3⟩ := pass_zer cs 0 p false hp hc p1 m1 hpa
      cases m1 with
      | true =>
        have hz1 : zer p1 < n := by
          rcases g3 rfl with h | h
          · cases h
          · omega
        simpa using prop_while cs hc res hb1 hb2 n (k + 1) p1 g1 hz1 (by omega)
      | false =>
        show (b (p1, false)).bind _ = _
        rw [hb2]
        simp
theorem s_pass (fu : Nat) (hf : FU ≤ fu) : ∀ (cs : List Con) (i : Nat) (p : List Int) (m : Bool), okP p → (∀ c ∈ cs, okCon c = true) →
    rangeL (s_l3Propagate_b2 fu) cs i (p, m) = some (match pass cs i p m with | .conf p' j => .out (.out ((j : Int), p')) | .go p' m' => .nx (p', m'))
  | [], i, p, m, _, _ => rfl
  | c :: cs, i, p, m, hp, hc => by
    have hcc := hc c (by simp)
    show (s_l3Propagate_b2 fu i c (p, m)).bind _ = _
    rw [s_l3Propagate_b2, s_slack hcc hp, Option.bind_some, pass]
    by_cases h : slackC c p < 0
    · rw [if_pos h, if_pos (by simpa using h)]; rfl
    · rw [if_neg h, if_neg (by simpa using h), s_implied hcc hp (by omega) fu hf, Option.bind_some, s_asgs hp m _ (impL_lit hcc), Option.bind_some]
      exact s_pass fu hf cs (i + 1) _ _ (asgL_ok _ hp) fun x hx => hc x (by simp [hx])
theorem i_pass : ∀ (cs : List Con) (i : Nat) (p : List Int) (m : Bool), okP p → (∀ c ∈ cs, okCon c = true) →
    rangeL i_propagate_b2 cs i (p, m) = some (match pass cs i p m with | .conf p' j => .out (.out (p', (j : Int))) | .go p' m' => .nx (p', m'))
  | [], i, p, m, _, _ => rfl
  | c :: cs, i, p, m, hp, hc => by
    have hcc := hc c (by simp)
    show (i_propagate_b2 i c (p, m)).bind _ = _
    rw [i_propagate_b2, i_slack hcc hp, Option.bind_some, pass]
    by_cases h : slackC c p < 0
    · rw [if_pos h, if_pos (by simpa using h)]; rfl
    · rw [if_neg h, if_neg (by simpa using h), i_implied hcc hp, Option.bind_some, i_asgs hp m _ (impL_lit hcc), Option.bind_some]
      exact i_pass cs (i + 1) _ _ (asgL_ok _ hp) fun x hx => hc x (by simp [hx])
theorem zer_le {p : List Int} (hp : okP p) : zer p ≤ 12 := by
  have := List.countP_le_length (p := (· == 0)) (l := p)
  rw [hp.1] at this
  exact this
theorem s_prop (fu : Nat) (hf : FU ≤ fu) {cs : List Con} (hc : ∀ c ∈ cs, okCon c = true) {p : List Int} (hp : okP p) : s_l3Propagate fu cs p = some ((prop 13 cs p).2, (prop 13 cs p).1) := by
  have hz := zer_le hp
  unfold s_l3Propagate
  rw [prop_while (b := s_l3Propagate_b1 fu cs) cs hc (fun p a => (a, p)) (fun p hp => by
    rw [s_l3Propagate_b1, if_pos rfl, s_pass fu hf cs 0 p false hp hc]
    cases pass cs 0 p false <;> rfl) (fun p => by rw [s_l3Propagate_b1]; rfl) 13 fu p hp (by omega) (by unfold FU at hf; omega)]
  generalize hr : prop 13 cs p = r
  obtain ⟨p', a⟩ := r
  by_cases h : 0 ≤ a
  · simp [h]
  · have := prop_at _ _ _ _ _ hr
    obtain rfl : a = -1 := by omega
    simp
theorem i_clone_int (xs : List Int) (h : xs.length ≤ 4000000) : slices_Clone_int xs = some xs := by
  unfold slices_Clone_int
  rw [app_le (by simp; omega)]
  rfl
theorem i_prop (fu : Nat) (hf : FU ≤ fu) {cs : List Con} (hc : ∀ c ∈ cs, okCon c = true) {p : List Int} (hp : okP p) : i_propagate fu cs p = some (prop 13 cs p) := by
  have hz := zer_le hp
  unfold i_propagate
  rw [i_clone_int p (by rw [hp.1]; omega), Option.bind_some, prop_while (b := i_propagate_b1 cs) cs hc (fun p a => (p, a)) (fun p hp => by
    rw [i_propagate_b1, if_pos rfl, i_pass cs 0 p false hp hc]
    cases pass cs 0 p false <;> rfl) (fun p => by rw [i_propagate_b1]; rfl) 13 fu p hp (by omega) (by unfold FU at hf; omega)]
  generalize hr : prop 13 cs p = r
  obtain ⟨p', a⟩ := r
  by_cases h : 0 ≤ a
  · simp [h]
  · have := prop_at _ _ _ _ _ hr
    obtain rfl : a = -1 := by omega
    simp
/-! negation -/
theorem neg_loop {τ : Type} {b : Nat → Term → List Term → Option (Lo (List Term) τ)} {c : Con} (hc : okCon c = true)
    (hb : ∀ i t out, b i t out = (app out ([({ coef := t.coef, lit := i64 (-t.lit) } : Term)])).bind fun x => some (.cont x)) : rangeL b c.terms 0 [] = some (.nx (negC c).terms) := by
  obtain ⟨_, h2, h3, _, _⟩ := okCon_parts hc
  refine range_map (fun t => (⟨t.coef, -t.lit⟩ : Term)) c.terms fun i t out ht hl => ?_
  obtain ⟨_, h1, h2', _, _⟩ := okT_lit (h3 t (List.mem_of_getElem? ht))
  have hi := (List.getElem?_eq_some_iff.1 ht).1
  rw [hb, app_le (by simp; omega), Option.bind_some, i64_id (n := -t.lit) (by omega) (by omega)]
theorem s_neg {c : Con} (hc : okCon c = true) (hl : c.terms.length ≤ ML) : s_NegateConstraint c = some (negC c, true) := by
  have ht := okCon_tot hc
  obtain ⟨_, _, _, h4, h5⟩ := okCon_parts hc
  unfold s_NegateConstraint
  rw [s_valid c hl, Option.bind_some, hc, s_total hc]
  simp only [Bool.not_true, Bool.false_eq_true, if_false, Option.bind_some]
  rw [neg_loop hc (b := s_NegateConstraint_b1) fun _ _ _ => rfl]
  rw [i64_id (n := tot c - c.bound) (by omega) (by omega), i64_id (by omega) (by omega)]
  simp only [Option.bind_some]
  by_cases h : tot c - c.bound + 1 < 0
  · simp [h, negC]; omega
  · simp [h, negC]; omega
theorem i_neg {c : Con} (hc : okCon c = true) : i_Constraint_negation c = some (negC c) := by
  have ht := okCon_tot hc
  obtain ⟨_, _, _, h4, h5⟩ := okCon_parts hc
  unfold i_Constraint_negation
  rw [i_total hc, Option.bind_some, neg_loop hc (b := i_Constraint_negation_b1) fun _ _ _ => rfl]
  rw [i64_id (n := tot c - c.bound) (by omega) (by omega), i64_id (by omega) (by omega)]
  rfl
theorem mkZero : mkN 12 0 = some zeroP := mkN_le (n := 12) 0 (by omega)
theorem i_clone_con (xs : List Con) (h : xs.length ≤ 4000000) : slices_Clone_implConstraint xs = some xs := by
  unfold slices_Clone_implConstraint
  rw [app_le (by simp; omega)]
  rfl
theorem okProb_parts {list : List Con} (h : okProb list = true) : (∀ x ∈ list, okCon x = true) ∧ list.length ≤ 400 := by
  unfold okProb at h
  simp at h
  exact ⟨h.1, by omega⟩
end Go.L

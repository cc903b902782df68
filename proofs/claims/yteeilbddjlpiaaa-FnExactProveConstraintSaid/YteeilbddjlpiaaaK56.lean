/- Solving: both sides, and what the answers say. -/
import Derived.Test.YteeilbddjlpiaaaK55
import Derived.Test.YteeilbddjlpiaaaK30
namespace Go.L
open Go Go.E
set_option linter.unusedVariables false
set_option linter.unusedSimpArgs false
set_option maxRecDepth 100000
def stepOf (c : Con) : Step := ⟨7, 0, 0, c⟩
theorem srch_tail : ∀ (n : Nat) (s : Sst) (d : List Int), ∃ t : List Con, (srchP n s d).1.list = s.list ++ t ∧ (srchP n s d).1.steps = s.steps ++ t.map stepOf ∧ ∀ c ∈ t, c.terms.length ≤ 12
  | 0, s, d => ⟨[], (List.append_nil _).symm, (List.append_nil _).symm, by simp⟩
  | n + 1, s, d => by
    have hcase := srch_cases n s d
    generalize srchP (n + 1) s d = R at hcase ⊢
    have join : ∀ {s r q : Sst} {t u : List Con}, (r.list = s.list ++ t ∧ r.steps = s.steps ++ t.map stepOf ∧ ∀ c ∈ t, c.terms.length ≤ 12) → (q.list = r.list ++ u ∧ q.steps = r.steps ++ u.map stepOf ∧ ∀ c ∈ u, c.terms.length ≤ 12) →
        q.list = s.list ++ (t ++ u) ∧ q.steps = s.steps ++ (t ++ u).map stepOf ∧ ∀ c ∈ t ++ u, c.terms.length ≤ 12 := by
      rintro s r q t u ⟨a1, a2, a3⟩ ⟨b1, b2, b3⟩
      refine ⟨by rw [b1, a1, List.append_assoc], by rw [b2, a2, List.map_append, List.append_assoc], fun c hc => ?_⟩
      rcases List.mem_append.1 hc with hc | hc
      · exact a3 c hc
      · exact b3 c hc
    have one : ∀ (s : Sst) (f : Int), (learnP ⟨s.list, s.steps, f⟩ d).list = s.list ++ [clC (negL d)] ∧ (learnP ⟨s.list, s.steps, f⟩ d).steps = s.steps ++ [clC (negL d)].map stepOf ∧ ∀ c ∈ [clC (negL d)], c.terms.length ≤ 12 := fun s f => ⟨rfl, rfl, fun c hc => by
      rw [List.mem_singleton] at hc; subst hc; exact clC_len _⟩
    cases hcase with
    | dry h => exact ⟨[], (List.append_nil _).symm, (List.append_nil _).symm, by simp⟩
    | conf h1 h2 h => exact ⟨_, one s _⟩
    | leaf h1 h2 p h hf => exact ⟨[], (List.append_nil _).symm, (List.append_nil _).symm, by simp⟩
    | one h1 h2 p h hf r hr h3 =>
      have A := srch_tail n ⟨s.list, s.steps, s.fuel - 1⟩ (d ++ [freeP p 0])
      rw [hr] at A
      exact A
    | two h1 h2 p h hf r hr h3 q hq h4 =>
      obtain ⟨t, A⟩ := srch_tail n ⟨s.list, s.steps, s.fuel - 1⟩ (d ++ [freeP p 0])
      rw [hr] at A
      obtain ⟨u, B⟩ := srch_tail n r.1 (d ++ [-freeP p 0])
      rw [hq] at B
      exact ⟨_, join A B⟩
    | much h1 h2 p h hf r hr h3 q hq h4 h5 =>
      obtain ⟨t, A⟩ := srch_tail n ⟨s.list, s.steps, s.fuel - 1⟩ (d ++ [freeP p 0])
      rw [hr] at A
      obtain ⟨u, B⟩ := srch_tail n r.1 (d ++ [-freeP p 0])
      rw [hq] at B
      exact ⟨_, join A B⟩
    | fail h1 h2 p h hf r hr h3 q hq h4 h5 =>
      obtain ⟨t, A⟩ := srch_tail n ⟨s.list, s.steps, s.fuel - 1⟩ (d ++ [freeP p 0])
      rw [hr] at A
      obtain ⟨u, B⟩ := srch_tail n r.1 (d ++ [-freeP p 0])
      rw [hq] at B
      exact ⟨_, join (join A B) (one q.1 _)⟩
/-! solving -/
def fuelOk (fuel : Int) : Bool := decide (0 ≤ fuel) && decide (fuel ≤ 2000)
def solveP (fu : Nat) (list : List Con) (fuel : Int) : Int × List Bool × List Step :=
  if okProb list && fuelOk fuel then
    if (srchP fu ⟨list, [], fuel⟩ []).2.1 = 2 then (2, [], (srchP fu ⟨list, [], fuel⟩ []).1.steps) else ((srchP fu ⟨list, [], fuel⟩ []).2.1, (srchP fu ⟨list, [], fuel⟩ []).2.2, [])
  else (3, [], [])
theorem start_ok {list : List Con} {fuel : Int} (h : okProb list = true) (hf : fuelOk fuel = true) : Sok ⟨list, [], fuel⟩ := by
  obtain ⟨h1, h2⟩ := okProb_parts h
  unfold fuelOk at hf
  rw [Bool.and_eq_true, decide_eq_true_eq, decide_eq_true_eq] at hf
  exact ⟨h1, by simpa using h2, by simp, hf.1, hf.2⟩
theorem steps_copy {list : List Con} {b : Nat → Step → List Step → Option (Lo (List Step) (Int × (List Bool) × (List Step)))} (hb : ∀ i x out, b i x out = (s_l1Copy x.given).bind fun c => (app out ([({ kind := x.kind, a := x.a, b := x.b, given := c } : Step)])).bind fun y => some (.cont y))
    (steps : List Step) (hl : steps.length ≤ 1000) (h : ∀ s ∈ steps, s.given.terms.length ≤ 12) : rangeL b steps 0 [] = some (.nx steps) := by
  have := range_map (b := b) (fun s => s) steps fun i x out hx hlo => by
    have hi := (List.getElem?_eq_some_iff.1 hx).1
    have hm := h x (List.mem_of_getElem? hx)
    rw [hb, copy_ok x.given (by omega), Option.bind_some, app_le (by simp; omega)]
    rfl
  rw [this, List.map_id']
theorem s_solve (fu : Nat) (hf : FU ≤ fu) (list : List Con) (hl : ∀ c ∈ list, c.terms.length ≤ ML) (fuel : Int) : s_SolveProblem fu list fuel = some (solveP fu list fuel) := by
  have hF := hf
  unfold FU at hF
  unfold s_SolveProblem solveP
  rw [s_problem list hl, Option.bind_some]
  by_cases hc : (okProb list && fuelOk fuel) = true
  · obtain ⟨h1, h2⟩ := Bool.and_eq_true _ _ ▸ hc
    have hs := start_ok h1 h2
    have h3 := (okProb_parts h1).2
    have h4 : 0 ≤ fuel ∧ fuel ≤ 2000 := by unfold fuelOk at h2; simpa using h2
    rw [if_pos hc, if_neg (by rw [h1]; simp; omega), app_le (by simp; omega), Option.bind_some, List.nil_append]
    unfold s_l5Search
    rw [s_srch fu hf fu _ _ hs Dec.nil (by omega), Option.bind_some]
    obtain ⟨O, _, _, _, _⟩ := srch_ok fu _ _ hs Dec.nil
    obtain ⟨t, t1, t2, t3⟩ := srch_tail fu ⟨list, [], fuel⟩ []
    by_cases e : (srchP fu ⟨list, [], fuel⟩ []).2.1 = 2
    · rw [if_neg (by simp [e]), if_pos e, steps_copy (list := list) (fun i x out => by rw [s_SolveProblem_b1]) _ O.few (by
        rw [t2]
        intro s hs
        rw [List.nil_append] at hs
        obtain ⟨c, hc, rfl⟩ := List.mem_map.1 hs
        exact t3 c hc), Option.bind_some, e]
    · rw [if_pos (by simpa using e), if_neg e]
  · rw [if_neg hc, if_pos]
    cases h1 : okProb list with
    | false => rfl
    | true =>
      rw [h1] at hc
      unfold fuelOk at hc
      simp at hc
      simp
      omega
theorem i_solve (fu : Nat) (hf : FU ≤ fu) (list : List Con) (fuel : Int) : i_SolveProblem fu list fuel = some (solveP fu list fuel) := by
  have hF := hf
  unfold FU at hF
  unfold i_SolveProblem solveP
  rw [i_problem list, Option.bind_some]
  have hw : i_isFuel fuel = some (fuelOk fuel) := rfl
  by_cases hc : (okProb list && fuelOk fuel) = true
  · obtain ⟨h1, h2⟩ := Bool.and_eq_true _ _ ▸ hc
    have hs := start_ok h1 h2
    have h3 := (okProb_parts h1).2
    rw [if_pos hc, h1, hw, h2]
    simp only [Bool.not_true, Option.bind_some, Bool.false_eq_true, if_false]
    rw [i_clone_con _ (by omega), Option.bind_some]
    unfold i_searching_visit
    rw [i_srch fu hf fu ⟨list, [], fuel⟩ _ hs Dec.nil (by omega), Option.bind_some]
    obtain ⟨O, _, O3, O4, _⟩ := srch_ok fu _ _ hs Dec.nil
    unfold outI
    simp only
    rcases O3 with e | e | e
    · have := O4 (by omega)
      simp [e, this]
    · simp [e]
    · simp [e]
  · rw [if_neg hc]
    cases h1 : okProb list with
    | false => rfl
    | true =>
      rw [h1] at hc
      rw [hw]
      cases h2 : fuelOk fuel with
      | true => rw [h2] at hc; exact absurd rfl hc
      | false => rfl
/-! proofs by contradiction -/
def proveP (fu : Nat) (list : List Con) (c : Con) (fuel : Int) : Int × List Bool × List Step :=
  if okCon c && decide (list.length < 400) then solveP fu (list ++ [negC c]) fuel else (3, [], [])
theorem negC_len (c : Con) : (negC c).terms.length = c.terms.length := by simp [negC]
theorem s_prove (fu : Nat) (hf : FU ≤ fu) (list : List Con) (hl : ∀ c ∈ list, c.terms.length ≤ ML) (c : Con) (hc : c.terms.length ≤ ML) (fuel : Int) : s_ProveConstraint fu list c fuel = some (proveP fu list c fuel) := by
  unfold s_ProveConstraint proveP
  cases h : okCon c with
  | false =>
    have : s_NegateConstraint c = some (zeroC', false) := by
      unfold s_NegateConstraint
      rw [s_valid c hc, h]; rfl
    rw [this]; rfl
  | true =>
    rw [s_neg h hc, Option.bind_some]
    by_cases h2 : list.length < 400
    · rw [if_neg (by simp; omega), decide_eq_true h2, app_le (by simp; omega), Option.bind_some, app_le (by simp; omega), Option.bind_some, s_solve fu hf]
      · rfl
      · intro x hx
        rcases List.mem_append.1 hx with hx | hx
        · exact hl x hx
        · rw [List.mem_singleton] at hx; subst hx; simp only [negC_len]; exact hc
    · rw [if_pos (by simp; omega), decide_eq_false h2]; rfl
theorem i_prove (fu : Nat) (hf : FU ≤ fu) (list : List Con) (c : Con) (fuel : Int) : i_ProveConstraint fu list c fuel = some (proveP fu list c fuel) := by
  unfold i_ProveConstraint proveP
  rw [i_valid, Option.bind_some]
  cases h : okCon c with
  | false => rfl
  | true =>
    by_cases h2 : list.length < 400
    · rw [if_neg (by simp; omega), decide_eq_true h2, i_clone_con _ (by omega), Option.bind_some, i_neg h, Option.bind_some, app_le (by simp; omega), Option.bind_some, i_solve fu hf]
      rfl
    · rw [if_pos (by simp; omega), decide_eq_false h2]; rfl
end Go.L

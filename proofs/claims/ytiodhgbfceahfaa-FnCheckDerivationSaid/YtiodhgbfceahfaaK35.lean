/- What a proof shows, on both sides: derived constraints, refutations, derivations. -/
import Derived.Test.YtiodhgbfceahfaaK34
namespace Go.L
open Go Go.E
set_option linter.unusedVariables false
set_option linter.unusedSimpArgs false
set_option maxRecDepth 100000
def lens (steps : List Step) : Prop := ∀ s ∈ steps, s.given.terms.length ≤ 4000000
def lensC (list : List Con) : Prop := ∀ c ∈ list, c.terms.length ≤ ML
def runP (list : List Con) (steps : List Step) : List Con × Int :=
  if fitsB list steps then if (runL list steps).2 < 0 then (keptD (runL list steps).1, -1) else ([], (runL list steps).2) else ([], 0)
theorem runP_neg {list : List Con} {steps : List Step} (h : (runP list steps).2 < 0) : fitsB list steps = true ∧ (runL list steps).2 < 0 ∧ runP list steps = (keptD (runL list steps).1, -1) := by
  unfold runP at *
  split at h
  · rename_i h1
    split at h
    · rename_i h2
      exact ⟨h1, h2, by rw [if_pos h1, if_pos h2]⟩
    · rename_i h2; exact absurd h h2
  · cases h
theorem copies {τ : Type} {b : Nat → Con → List Con → Option (Lo (List Con) τ)} (xs : List Con) (hx : ∀ c ∈ xs, okCon c = true) (hl : xs.length ≤ 4000) (hb : ∀ i c out, c.terms.length ≤ 4000000 → b i c out = (app out [c]).bind fun x => some (.cont x)) : rangeL b xs 0 [] = some (.nx xs) := by
  have := range_map (b := b) id xs fun i c out hc hlen => by
    have hi := (List.getElem?_eq_some_iff.1 hc).1
    rw [hb i c out (by have := (okCon_parts (hx c (List.mem_of_getElem? hc))).2.1; omega), app_le (by simp; omega)]
    rfl
  simpa using this
theorem s_runP (fu : Nat) (hf : FU ≤ fu) {list : List Con} {steps : List Step} (hl : lensC list) (hs : lens steps) : s_RunProof fu list steps = some (runP list steps) := by
  unfold s_RunProof runP
  rw [s_fits list steps hl, Option.bind_some]
  cases h : fitsB list steps with
  | false => rfl
  | true =>
    rw [s_run fu hf h hs]
    simp only [Bool.not_true, Bool.false_eq_true, if_false, Option.bind_some, if_true]
    by_cases hn : (runL list steps).2 < 0
    · have hn' : ¬ (runL list steps).2 ≥ 0 := by omega
      obtain ⟨k1, k2⟩ := kept_ok (runL_ok h).1
      rw [if_neg (by simpa using hn'), if_pos hn, s_kept (runL_ok h).1, Option.bind_some, copies (b := s_RunProof_b1) _ k1 (by omega) fun i c out hc => by rw [s_RunProof_b1, copy_eq c hc]; rfl]
      rfl
    · have hn' : (runL list steps).2 ≥ 0 := by omega
      rw [if_pos (by simpa using hn'), if_neg hn]
/-! derivations -/
def derB (list : List Con) (steps : List Step) (c : Con) : Bool := fitsB list steps && (okCon c && (decide ((runL list steps).2 < 0) && (keptD (runL list steps).1).any fun d => coversC d c))
theorem i_derB (fu : Nat) (hf : FU ≤ fu) (list : List Con) (steps : List Step) (c : Con) : i_CheckDerivation fu list steps c = some (derB list steps c) := by
  unfold i_CheckDerivation derB
  rw [i_run_eq fu hf, Option.bind_some]
  unfold irunL
  cases h : fitsB list steps with
  | false => rfl
  | true =>
    by_cases hn : (runL list steps).2 < 0
    · rw [i_valid c]
      cases hc : okCon c with
      | false => simp [hn]
      | true =>
        have hd := (runL_ok h).1
        obtain ⟨k1, k2⟩ := kept_ok hd
        have e : slices_ContainsFunc_implConstraint (keptD (runL list steps).1) (i_CheckDerivation_1 c) = some ((keptD (runL list steps).1).any fun d => coversC d c) :=
          i_contains _ fun d hd => by rw [i_CheckDerivation_1, i_covers, k1 d hd, hc]; rfl
        simp [hn, i_left hd, e]
    · have hn' : ¬ (runL list steps).2 < 0 := hn
      simp [hn]
theorem s_derB (fu : Nat) (hf : FU ≤ fu) {list : List Con} {steps : List Step} {c : Con} (hl : lensC list) (hs : lens steps) (hcl : c.terms.length ≤ ML) : s_CheckDerivation fu list steps c = some (derB list steps c) := by
  unfold s_CheckDerivation derB
  rw [s_fits list steps hl, Option.bind_some]
  cases h : fitsB list steps with
  | false => rfl
  | true =>
    rw [s_valid c hcl]
    cases hc : okCon c with
    | false => simp
    | true =>
      have hd := (runL_ok h).1
      obtain ⟨k1, k2⟩ := kept_ok hd
      simp only [Bool.not_true, Bool.false_eq_true, if_false, Option.bind_some, Bool.true_and]
      rw [s_run fu hf h hs, Option.bind_some, s_kept hd, Option.bind_some]
      generalize hr : runL list steps = r at *
      have key : ∀ (n i k : Nat), i + n = (keptD r.1).length → n < k → whileL (s_CheckDerivation_b1 c r (keptD r.1)) k (i : Int) = some (if decide (r.2 < 0) && ((keptD r.1).drop i).any (fun d => coversC d c) then .out true else .nx (if r.2 < 0 then ((keptD r.1).length : Int) else (i : Int))) := by
        intro n
        induction n with
        | zero =>
          intro i k hi hk
          obtain ⟨k, rfl⟩ : ∃ k', k = k' + 1 := ⟨k - 1, by omega⟩
          show (s_CheckDerivation_b1 c r (keptD r.1) (i : Int)).bind _ = _
          rw [s_CheckDerivation_b1, if_neg (by simp; omega), List.drop_eq_nil_of_le (by omega)]
          have : (i : Int) = (keptD r.1).length := by omega
          simp [this]
        | succ n ih =>
          intro i k hi hk
          obtain ⟨k, rfl⟩ : ∃ k', k = k' + 1 := ⟨k - 1, by omega⟩
          show (s_CheckDerivation_b1 c r (keptD r.1) (i : Int)).bind _ = _
          have hil : i < (keptD r.1).length := by omega
          rw [s_CheckDerivation_b1]
          by_cases hn : r.2 < 0
          · rw [if_pos (by simp [hn]; omega), idx_lt hil, Option.bind_some, s_covers (k1 _ (List.getElem_mem hil)) hc, Option.bind_some, List.drop_eq_getElem_cons hil, List.any_cons]
            cases hcov : coversC (keptD r.1)[i] c with
            | true => simp [hn]
            | false =>
              rw [i64s hil (by omega)]
              simpa [hn] using ih (i + 1) k (by omega) (by omega)
          · rw [if_neg (by simp [hn])]
            simp [hn]
      have := key (keptD r.1).length 0 fu (by omega) (by unfold FU at hf; omega)
      rw [show ((0 : Nat) : Int) = 0 from rfl] at this
      rw [this, List.drop_zero]
      generalize (decide (r.2 < 0) && (keptD r.1).any fun d => coversC d c) = q
      cases q <;> rfl
theorem sumV_filter_le (v : List Bool) (q : Term → Bool) : ∀ (us : List Term), (∀ u ∈ us, okT u = true) → sumV v (us.filter q) ≤ sumV v us
  | [], _ => Int.le_refl _
  | w :: us, hu => by
    have ih := sumV_filter_le v q us fun x hx => hu x (by simp [hx])
    have hpos := (okT_lit (hu w (by simp))).2.2.2.1
    rw [List.filter_cons]
    split
    · unfold sumV at *; simp only [sumR]; omega
    · unfold sumV at *; simp only [sumR]; split <;> omega
theorem covers_sound {a b : Con} (ha : okCon a = true) (hb : okCon b = true) (h : coversC a b = true) (v : List Bool) (he : evalC a v = true) : evalC b v = true := by
  unfold coversC at h
  have h := of_decide_eq_true h
  rw [evalC_iff] at *
  obtain ⟨a1, a2, a3, _⟩ := okCon_parts ha
  obtain ⟨b1, b2, b3, _⟩ := okCon_parts hb
  -- the true literals of a that b has, with b's coefficients
  have h1 : sumV v a.terms - lossC a b ≤ sumR (fun t => if trueL v t.lit then coefC b.terms t.lit else 0) a.terms := by
    have := sumR_le (f := fun t => (if trueL v t.lit then t.coef else 0) - max 0 (t.coef - coefC b.terms t.lit)) (g := fun t => if trueL v t.lit then coefC b.terms t.lit else 0) a.terms fun t ht => by
      have q := okT_lit (a3 t ht)
      split <;> omega
    have e : ∀ ts : List Term, sumR (fun t => (if trueL v t.lit then t.coef else 0) - max 0 (t.coef - coefC b.terms t.lit)) ts = sumV v ts - sumR (fun t => max 0 (t.coef - coefC b.terms t.lit)) ts := by
      intro ts
      induction ts with
      | nil => rfl
      | cons t ts ih => unfold sumV at *; simp only [sumR]; omega
    rw [e] at this
    exact this
  have h2 : sumR (fun t => if trueL v t.lit then coefC b.terms t.lit else 0) a.terms ≤ sumV v b.terms := by
    -- each term of b is met at most once
    have key : ∀ (ts : List Term) (lo : Int) (us : List Term), okTerms lo ts = true → (∀ u ∈ us, okT u = true) → sumR (fun t => if trueL v t.lit then coefC us t.lit else 0) ts ≤ sumV v us := by
      intro ts
      induction ts with
      | nil =>
        intro lo us _ hu
        exact sumV_nonneg v us hu
      | cons t ts ih =>
        intro lo us ht hu
        rw [okTerms, Bool.and_eq_true, Bool.and_eq_true] at ht
        have hgt := okTerms_gt ts _ ht.2
        -- take the term of t out of us
        have hsplit : sumV v us = (if trueL v t.lit then coefC us t.lit else 0) + (sumV v us - (if trueL v t.lit then coefC us t.lit else 0)) := by omega
        have ih' := ih (absI t.lit) (us.filter fun u => !(u.lit == t.lit)) ht.2 fun u hu' => hu u (List.mem_filter.1 hu').1
        have he : ∀ t' ∈ ts, coefC (us.filter fun u => !(u.lit == t.lit)) t'.lit = coefC us t'.lit := by
          intro t' ht'
          have hne : t'.lit ≠ t.lit := by
            intro e
            have := hgt t' ht'
            rw [e] at this
            omega
          unfold coefC
          have : ∀ us : List Term, (us.filter fun u => !(u.lit == t.lit)).find? (fun u => u.lit == t'.lit) = us.find? (fun u => u.lit == t'.lit) := by
            intro us
            induction us with
            | nil => rfl
            | cons u us ih =>
              rw [List.filter_cons, List.find?_cons]
              by_cases h1 : u.lit = t'.lit
              · have h2 : ¬ u.lit = t.lit := by rw [h1]; exact hne
                simp [h1, hne]
              · have h1' : (u.lit == t'.lit) = false := by simpa using h1
                rw [h1']
                split
                · rw [List.find?_cons, h1']; exact ih
                · exact ih
          rw [this]
        rw [sumR_congr ts (g := fun t => if trueL v t.lit then coefC us t.lit else 0) fun t' ht' => by rw [he t' ht']] at ih'
        have hdrop : sumV v (us.filter fun u => !(u.lit == t.lit)) + (if trueL v t.lit then coefC us t.lit else 0) ≤ sumV v us := by
          clear ih ih' he hsplit
          induction us with
          | nil => simp [sumV, sumR, coefC]
          | cons u us ih =>
            have ih := ih fun x hx => hu x (by simp [hx])
            have hpos := (okT_lit (hu u (by simp))).2.2.2.1
            rw [List.filter_cons]
            have hnn := sumV_nonneg v us fun x hx => hu x (by simp [hx])
            have hnf := sumV_filter_le v (fun u : Term => !(u.lit == t.lit)) us fun x hx => hu x (by simp [hx])
            by_cases h1 : u.lit = t.lit
            · have hc : coefC (u :: us) t.lit = u.coef := by unfold coefC; rw [List.find?_cons]; simp [h1]
              have h2 : (!(u.lit == t.lit)) = false := by simp [h1]
              rw [hc, h2]
              simp only [Bool.false_eq_true, if_false]
              unfold sumV at *
              simp only [sumR, h1]
              omega
            · have hc : coefC (u :: us) t.lit = coefC us t.lit := by
                have : (u.lit == t.lit) = false := by simpa using h1
                unfold coefC; rw [List.find?_cons, this]
              have h2 : (!(u.lit == t.lit)) = true := by simp [h1]
              rw [hc, h2]
              simp only [if_true]
              unfold sumV at *
              simp only [sumR]
              omega
        simp only [sumR]
        omega
    exact key a.terms 0 b.terms a1 b3
  omega
theorem derB_sound {list : List Con} {steps : List Step} {c : Con} (h : derB list steps c = true) {v : List Bool} (hv : v.length = 12) (ha : allV list v = true) : evalC c v = true := by
  unfold derB at h
  rw [Bool.and_eq_true, Bool.and_eq_true, Bool.and_eq_true, List.any_eq_true] at h
  obtain ⟨h1, h2, _, d, hd, hcov⟩ := h
  have hk := kept_ok (runL_ok h1).1
  exact covers_sound (hk.1 d hd) h2 hcov v (runL_sound h1 hv ha d (keptL_mem _ _ d hd))
end Go.L

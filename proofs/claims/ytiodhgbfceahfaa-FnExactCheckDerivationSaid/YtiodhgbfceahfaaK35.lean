/- What a proof shows, on both sides: derived constraints, refutations, derivations. -/
import Derived.Test.YtiodhgbfceahfaaK34
namespace Go.L
open Go Go.E
set_option linter.unusedVariables false
set_option linter.unusedSimpArgs false
set_option maxRecDepth 100000
def lens (steps : List Step) : Prop := ∀ s ∈ steps, s.given.terms.length ≤ 4000000
def lensC (list : List Con) : Prop := ∀ c ∈ list, c.terms.length ≤ ML
/-! derivations -/
def derB (list : List Con) (steps : List Step) (c : Con) : Bool := fitsB list steps && (okCon c && (decide ((runL list steps).2 < 0) && (keptD (runL list steps).1).any fun d => coversC d c))
theorem i_derB (fu : Nat) (hf : FU ≤ fu) (list : List Con) (steps : List Step) (c : Con) : i_CheckDerivation fu list steps c = some (derB list steps c) := by
  unfold i_CheckDerivation derB
  rw [i_run_eq fu hf, Option.bind_some]
  unfold irunL
  cases h : fitsB list steps with
  | false => rfl
  | true =>
    by_cases hn : (runL list steps).2 < 0
    · rw [i_valid c]
      cases hc : okCon c with
      | false => simp [hn]
      | true =>
        have hd := (runL_ok h).1
        obtain ⟨k1, k2⟩ := kept_ok hd
        have e : slices_ContainsFunc_implConstraint (keptD (runL list steps).1) (i_CheckDerivation_1 c) = some ((keptD (runL list steps).1).any fun d => coversC d c) :=
          i_contains _ fun d hd => by rw [i_CheckDerivation_1, i_covers, k1 d hd, hc]; rfl
        simp [hn, i_left hd, e]
    · have hn' : ¬ (runL list steps).2 < 0 := hn
      simp [hn]
theorem s_derB (fu : Nat) (hf : FU ≤ fu) {list : List Con} {steps : List Step} {c : Con} (hl : lensC list) (hs : lens steps) (hcl : c.terms.length ≤ ML) : s_CheckDerivation fu list steps c = some (derB list steps c) := by
  unfold s_CheckDerivation derB
  rw [s_fits list steps hl, Option.bind_some]
  cases h : fitsB list steps with
  | false => rfl
  | true =>
    rw [s_valid c hcl]
    cases hc : okCon c with
    | false => simp
    | true =>
      have hd := (runL_ok h).1
      obtain ⟨k1, k2⟩ := kept_ok hd
      simp only [Bool.not_true, Bool.false_eq_true, if_false, Option.bind_some, Bool.true_and]
      rw [s_run fu hf h hs, Option.bind_some, s_kept hd, Option.bind_some]
      generalize hr : runL list steps = r at *
      have key : ∀ (n i k : Nat), i + n = (keptD r.1).length → n < k → whileL (s_CheckDerivation_b1 c r (keptD r.1)) k (i : Int) = some (if decide (r.2 < 0) && ((keptD r.1).drop i).any (fun d => coversC d c) then .out true else .nx (if r.2 < 0 then ((keptD r.1).length : Int) else (i : Int))) := by
        intro n
        induction n with
        | zero =>
          intro i k hi hk
          obtain ⟨k, rfl⟩ : ∃ k', k = k' + 1 := ⟨k - 1, by omega⟩
          show (s_CheckDerivation_b1 c r (keptD r.1) (i : Int)).bind _ = _
          rw [s_CheckDerivation_b1, if_neg (by simp; omega), List.drop_eq_nil_of_le (by omega)]
          have : (i : Int) = (keptD r.1).length := by omega
          simp [this]
        | succ n ih =>
          intro i k hi hk
          obtain ⟨k, rfl⟩ : ∃ k', k = k' + 1 := ⟨k - 1, by omega⟩
          show (s_CheckDerivation_b1 c r (keptD r.1) (i : Int)).bind _ = _
          have hil : i < (keptD r.1).length := by omega
          rw [s_CheckDerivation_b1]
          by_cases hn : r.2 < 0
          · rw [if_pos (by simp [hn]; omega), idx_lt hil, Option.bind_some, s_covers (k1 _ (List.getElem_mem hil)) hc, Option.bind_some, List.drop_eq_getElem_cons hil, List.any_cons]
            cases hcov : coversC (keptD r.1)[i] c with
            | true => simp [hn]
            | false =>
              rw [i64s hil (by omega)]
              simpa [hn] using ih (i + 1) k (by omega) (by omega)
          · rw [if_neg (by simp [hn])]
            simp [hn]
      have := key (keptD r.1).length 0 fu (by omega) (by unfold FU at hf; omega)
      rw [show ((0 : Nat) : Int) = 0 from rfl] at this
      rw [this, List.drop_zero]
      generalize (decide (r.2 < 0) && (keptD r.1).any fun d => coversC d c) = q
      cases q <;> rfl
end Go.L

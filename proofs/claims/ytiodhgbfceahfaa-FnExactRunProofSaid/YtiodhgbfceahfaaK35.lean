/- What a proof shows, on both sides: derived constraints, refutations, derivations. -/
import Derived.Test.YtiodhgbfceahfaaK34
namespace Go.L
open Go Go.E
set_option linter.unusedVariables false
set_option linter.unusedSimpArgs false
set_option maxRecDepth 100000
def lens (steps : List Step) : Prop := ∀ s ∈ steps, s.given.terms.length ≤ 4000000
def lensC (list : List Con) : Prop := ∀ c ∈ list, c.terms.length ≤ ML
def runP (list : List Con) (steps : List Step) : List Con × Int :=
  if fitsB list steps then if (runL list steps).2 < 0 then (keptD (runL list steps).1, -1) else ([], (runL list steps).2) else ([], 0)
theorem copies {τ : Type} {b : Nat → Con → List Con → Option (Lo (List Con) τ)} (xs : List Con) (hx : ∀ c ∈ xs, okCon c = true) (hl : xs.length ≤ 4000) (hb : ∀ i c out, c.terms.length ≤ 4000000 → b i c out = (app out [c]).bind fun x => some (.cont x)) : rangeL b xs 0 [] = some (.nx xs) := by
  have := range_map (b := b) id xs fun i c out hc hlen => by
    have hi := (List.getElem?_eq_some_iff.1 hc).1
    rw [hb i c out (by have := (okCon_parts (hx c (List.mem_of_getElem? hc))).2.1; omega), app_le (by simp; omega)]
    rfl
  simpa using this
theorem s_runP (fu : Nat) (hf : FU ≤ fu) {list : List Con} {steps : List Step} (hl : lensC list) (hs : lens steps) : s_RunProof fu list steps = some (runP list steps) := by
  unfold s_RunProof runP
  rw [s_fits list steps hl, Option.bind_some]
  cases h : fitsB list steps with
  | false => rfl
  | true =>
    rw [s_run fu hf h hs]
    simp only [Bool.not_true, Bool.false_eq_true, if_false, Option.bind_some, if_true]
    by_cases hn : (runL list steps).2 < 0
    · have hn' : ¬ (runL list steps).2 ≥ 0 := by omega
      obtain ⟨k1, k2⟩ := kept_ok (runL_ok h).1
      rw [if_neg (by simpa using hn'), if_pos hn, s_kept (runL_ok h).1, Option.bind_some, copies (b := s_RunProof_b1) _ k1 (by omega) fun i c out hc => by rw [s_RunProof_b1, copy_eq c hc]; rfl]
      rfl
    · have hn' : (runL list steps).2 ≥ 0 := by omega
      rw [if_pos (by simpa using hn'), if_neg hn]
theorem i_own (c : Con) (h : c.terms.length ≤ 4000000) : i_Constraint_own c = some c := by
  unfold i_Constraint_own
  rw [clone_term _ h]
  rfl
theorem i_runP (fu : Nat) (hf : FU ≤ fu) (list : List Con) (steps : List Step) : i_RunProof fu list steps = some (runP list steps) := by
  unfold i_RunProof runP
  rw [i_run_eq fu hf, Option.bind_some]
  unfold irunL
  cases h : fitsB list steps with
  | false => rfl
  | true =>
    simp only [if_true]
    by_cases hn : (runL list steps).2 < 0
    · obtain ⟨k1, k2⟩ := kept_ok (runL_ok h).1
      rw [if_pos hn, if_pos hn]
      simp only [Option.bind_some]
      rw [if_neg (by simp), i_left (runL_ok h).1, Option.bind_some]
      unfold i_ownAll
      rw [copies (b := i_ownAll_b1) _ k1 (by omega) fun i c out hc => by rw [i_ownAll_b1, i_own c hc]; rfl]
      rfl
    · rw [if_neg hn, if_neg hn]
      have hn' : (runL list steps).2 ≥ 0 := by omega
      simp [hn']
end Go.L

/- The laws of proofs: sound, prefixes, composition. -/
import Derived.Test.YtiodhgbfceahfaaK36
namespace Go.L
open Go Go.E
set_option linter.unusedVariables false
set_option linter.unusedSimpArgs false
set_option maxRecDepth 100000
theorem fuFU : FU ≤ FU := Nat.le_refl _
theorem cpProb (a b : List Con) : l_cpProblem a b = some (decide (a = b)) := by
  unfold l_cpProblem
  by_cases hl : a.length = b.length
  · rw [if_neg (by simp [hl]), equal_list a b (b := l_cpProblem_b1 b) (fun i x => by
      rw [l_cpProblem_b1]
      congr 1
      funext y
      rw [i_same]
      by_cases h : x = y <;> simp [h]) hl]
    by_cases h : a = b <;> simp [h]
  · rw [if_pos (by simp; omega), decide_eq_false (by intro h; rw [h] at hl; exact hl rfl)]
theorem FnRunProof_ok (code : List UInt8) (g0 : code.length ≤ 9223372036854775807 ∧ ∀ x ∈ code, True) : ∃ fu, l_FnRunProof fu code = some true := by
  refine ⟨FU, ?_⟩
  unfold l_FnRunProof
  split
  · rfl
  obtain ⟨x, hx, h1, h2⟩ := drawRun_ok code FU fuFU
  rw [hx, Option.bind_some, i_runP FU fuFU, Option.bind_some, s_runP FU fuFU (smL_ML h1) (smS_lens h2), Option.bind_some, cpProb]
  simp only [bne_self_eq_false, Bool.false_eq_true, if_false, Option.bind_some, decide_true, Bool.not_true, Bool.false_or, beq_self_eq_true, if_true]
  by_cases hn : (runP x.1 x.2).2 < 0
  · rw [if_neg (by simp; omega), cnt4096, Option.bind_some]
    obtain ⟨f1, f2, f3⟩ := runP_neg hn
    have hk := kept_ok (runL_ok f1).1
    rw [all_values fun i v _ hv hl => by
      rw [l_FnRunProof_b1, hv, Option.bind_some, i_sat hl, Option.bind_some]
      cases ha : allV x.1 v with
      | false => simp
      | true =>
        have h1 := (fits_parts f1).1
        rw [h1, Bool.and_self, if_neg (by simp), f3]
        have := range_all (fun _ => true) (Jn.out (Lo.out false)) (b := l_FnRunProof_b2 v) (keptD (runL x.1 x.2).1) fun i c hc => by
          have hm := List.mem_of_getElem? hc
          rw [l_FnRunProof_b2, i_eval hl, hk.1 c hm, runL_sound f1 hl ha c (keptL_mem _ _ c hm)]
          rfl
        rw [this]
        simp]
    rfl
  · rw [if_pos (by simp; omega)]
end Go.L

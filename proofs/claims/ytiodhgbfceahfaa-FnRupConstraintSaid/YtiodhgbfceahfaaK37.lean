/- The laws of proofs: sound, prefixes, composition. -/
import Derived.Test.YtiodhgbfceahfaaK36
namespace Go.L
open Go Go.E
set_option linter.unusedVariables false
set_option linter.unusedSimpArgs false
set_option maxRecDepth 100000
theorem fuFU : FU ≤ FU := Nat.le_refl _
theorem FnRupConstraint_ok (code : List UInt8) (g0 : code.length ≤ 9223372036854775807 ∧ ∀ x ∈ code, True) : ∃ fu, l_FnRupConstraint fu code = some true := by
  refine ⟨FU, ?_⟩
  unfold l_FnRupConstraint
  split
  · rfl
  obtain ⟨x, hx, h1, h2⟩ := drawRup_ok code FU fuFU
  have hc : x.2.terms.length ≤ ML := by unfold ML; omega
  rw [hx, Option.bind_some, i_RupC FU fuFU, Option.bind_some, s_RupC FU fuFU (smL_ML h1) hc, Option.bind_some, Option.bind_some]
  cases hr : rupC x.1 x.2 with
  | false => rfl
  | true =>
    rw [if_neg (by simp), cnt4096, Option.bind_some]
    unfold rupC at hr
    rw [Bool.and_eq_true, Bool.and_eq_true] at hr
    obtain ⟨q1, q2, q3⟩ := hr
    rw [all_values fun i v _ hv hl => by
      rw [l_FnRupConstraint_b1, hv, Option.bind_some, i_sat hl, Option.bind_some, i_eval hl]
      cases ha : allV x.1 v with
      | false => simp [q1]
      | true => simp [q1, q2, rup_sound (okProb_parts q1).1 q2 q3 hl ha]]
    rfl
end Go.L

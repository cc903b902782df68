/- The laws of proofs: sound, prefixes, composition. -/
import Derived.Test.YtiodhgbfceahfaaK36
namespace Go.L
open Go Go.E
set_option linter.unusedVariables false
set_option linter.unusedSimpArgs false
set_option maxRecDepth 100000
theorem fuFU : FU ≤ FU := Nat.le_refl _
theorem FnCheckDerivation_ok (code : List UInt8) (g0 : code.length ≤ 9223372036854775807 ∧ ∀ x ∈ code, True) : ∃ fu, l_FnCheckDerivation fu code = some true := by
  refine ⟨FU, ?_⟩
  unfold l_FnCheckDerivation
  split
  · rfl
  obtain ⟨x, hx, h1, h2, h3⟩ := drawDer_ok code FU fuFU
  have hc : x.2.2.terms.length ≤ ML := by unfold ML; omega
  rw [hx, Option.bind_some, i_derB FU fuFU, Option.bind_some, s_derB FU fuFU (smL_ML h1) (smS_lens h2) hc, Option.bind_some, Option.bind_some]
  cases hr : derB x.1 x.2.1 x.2.2 with
  | false => rfl
  | true =>
    have hcok : okCon x.2.2 = true := by unfold derB at hr; rw [Bool.and_eq_true, Bool.and_eq_true] at hr; exact hr.2.1
    rw [if_neg (by simp), cnt4096, Option.bind_some, all_values fun i v _ hv hl => by
      rw [l_FnCheckDerivation_b1, hv, Option.bind_some, i_sat hl, Option.bind_some, i_eval hl]
      cases ha : allV x.1 v with
      | false => simp
      | true => simp [hcok, derB_sound hr hl ha]]
    rfl
end Go.L

/- The laws of proofs: sound, prefixes, composition. -/
import Derived.Test.YtiodhgbfceahfaaK36
namespace Go.L
open Go Go.E
set_option linter.unusedVariables false
set_option linter.unusedSimpArgs false
set_option maxRecDepth 100000
theorem fuFU : FU ≤ FU := Nat.le_refl _
theorem FnCheckRefutation_ok (code : List UInt8) (g0 : code.length ≤ 9223372036854775807 ∧ ∀ x ∈ code, True) : ∃ fu, l_FnCheckRefutation fu code = some true := by
  refine ⟨FU, ?_⟩
  unfold l_FnCheckRefutation
  split
  · rfl
  obtain ⟨x, hx, h1, h2⟩ := drawRef_ok code FU fuFU
  rw [hx, Option.bind_some, i_refB FU fuFU, Option.bind_some, s_refB FU fuFU (smL_ML h1) (smS_lens h2), Option.bind_some, Option.bind_some]
  cases hr : refB x.1 x.2 with
  | false => rfl
  | true =>
    rw [if_neg (by simp), cnt4096, Option.bind_some, all_values fun i v _ hv hl => by
      rw [l_FnCheckRefutation_b1, hv, Option.bind_some, i_sat hl, Option.bind_some, refB_sound hr hl]
      simp]
    rfl
end Go.L

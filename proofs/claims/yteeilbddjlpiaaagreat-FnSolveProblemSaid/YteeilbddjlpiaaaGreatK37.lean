/- The laws of proofs: sound, prefixes, composition. -/
import Derived.Test.YteeilbddjlpiaaaGreatK36
namespace Go.L
open Go Go.E
set_option linter.unusedVariables false
set_option linter.unusedSimpArgs false
set_option maxRecDepth 100000
/-! composition -/
theorem kept_all : ∀ (cs : List Con), keptL cs (List.replicate cs.length false) = cs
  | [] => rfl
  | c :: cs => by rw [List.length_cons, List.replicate_succ, keptL, kept_all cs]; simp
theorem push_init (cs : List Con) (c : Con) : pushD (initD cs) c = initD (cs ++ [c]) := by
  unfold pushD initD
  rw [List.length_append, List.length_singleton, List.replicate_succ']
end Go.L

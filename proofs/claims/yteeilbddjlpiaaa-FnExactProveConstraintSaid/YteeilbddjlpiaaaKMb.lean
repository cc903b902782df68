/- Marks on truth values. -/
import Derived.Test.YteeilbddjlpiaaaK2g
import Derived.Test.YteeilbddjlpiaaaKM
namespace Go.L
open Go Go.E
set_option linter.unusedVariables false
set_option linter.unusedSimpArgs false
set_option maxRecDepth 100000
theorem mkBoolS (xs : List Bool) (hl : xs.length ≤ 1048576) (fu : Nat) (hf : FV ≤ fu) (k : Int) (h0 : 0 ≤ k) (hK : k + 1048576 ≤ 9223372036854775806) :
    ∃ k' a', l_markBoolS fu xs k = some (k', a') ∧ l_heldBoolS a' k = some k' ∧ k ≤ k' ∧ k' ≤ k + 1048576 := by
  obtain ⟨a', k', j, e, _, hch, h1, h2⟩ := mark_all (b := l_markBoolS_b1) (fun y k k' => y = (Int.tmod k 3 == 0) ∧ k' = k + 1 ∧ InI64 (k + 1)) 1 9223372036854775806 (by omega) xs hl
    (fun a k i x hx _ h0 h1 => ⟨(Int.tmod k 3 == 0), k + 1, by
      show (if decide ((i : Int) < (a.length : Int)) then _ else _) = _
      rw [mk_lt hx, if_pos rfl, idx_nat, hx, Option.bind_some, i64_id (n := k + 1) (by omega) (by omega)]; rfl, ⟨rfl, rfl, by unfold InI64; omega⟩, by omega, by omega⟩)
    (fun a k i h => by show (if decide ((i : Int) < (a.length : Int)) then _ else _) = _; rw [mk_ge h]; rfl) k fu hf h0 (by omega)
  refine ⟨k', a', ?_, ?_, h1, by omega⟩
  · unfold l_markBoolS; rw [e]; rfl
  · unfold l_heldBoolS
    rw [chain_range (b := l_heldBoolS_b1) (P := fun y k k' => y = (Int.tmod k 3 == 0) ∧ k' = k + 1 ∧ InI64 (k + 1)) ?_ a' 0 k k' hch]
    · rfl
    · rintro i y k k' ⟨rfl, rfl, hi⟩
      show (if ((Int.tmod k 3 == 0) != (Int.tmod k 3 == 0)) then _ else _) = _
      unfold InI64 at hi
      rw [bne_self_eq_false, if_neg (by simp), i64_id (by omega) (by omega)]
end Go.L

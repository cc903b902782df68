/- Satisfying, counting and the next solution: both sides. -/
import Derived.Test.YteeilbddjlpiaaaK57
namespace Go.L
open Go Go.E
set_option linter.unusedVariables false
set_option linter.unusedSimpArgs false
set_option maxRecDepth 100000
/-! which comes first -/
theorem cp_before (fu : Nat) (hf : FU ≤ fu) {a b : List Bool} (ha : a.length = 12) (hb : b.length = 12) (h : firstR a b) : l_cpBefore fu a b = some false := by
  unfold FU at hf
  unfold l_cpBefore
  obtain ⟨j, hj, hQ⟩ := while_inv (b := l_cpBefore_b1 a b) (fun m (s : Int) => ∃ i : Nat, s = (i : Int) ∧ i + m = 12 ∧ (a = b ∨ ∃ k, i ≤ k ∧ k < 12 ∧ (∀ j, j < k → a.getD j false = b.getD j false) ∧ a.getD k false = true ∧ b.getD k false = false))
    (fun j => match j with | .nx _ => True | .out t => t = false) (fun m s ⟨i, hi, hm, he⟩ => by
      subst hi
      cases m with
      | zero =>
        refine ⟨.brk (i : Int), ?_, trivial⟩
        rw [l_cpBefore_b1, if_neg (by simp; omega)]
      | succ m =>
        have hi : i < 12 := by omega
        have e1 : idx a (i : Int) = some (a.getD i false) := by rw [idx_nat, List.getElem?_eq_getElem (by omega), getD_at _ (by omega)]
        have e2 : idx b (i : Int) = some (b.getD i false) := by rw [idx_nat, List.getElem?_eq_getElem (by omega), getD_at _ (by omega)]
        rcases he with he | ⟨k, k1, k2, k3, k4, k5⟩
        · subst he
          refine ⟨.cont ((i + 1 : Nat) : Int), ?_, m, by omega, i + 1, rfl, by omega, .inl rfl⟩
          rw [l_cpBefore_b1, if_pos (by simp; omega), e1, Option.bind_some, Option.bind_some, if_neg (by simp), i64_id (by omega) (by omega)]
          rfl
        · by_cases e : i = k
          · subst e
            refine ⟨.out false, ?_, rfl⟩
            rw [l_cpBefore_b1, if_pos (by simp; omega), e1, e2, Option.bind_some, Option.bind_some, k4, k5]
            rfl
          · refine ⟨.cont ((i + 1 : Nat) : Int), ?_, m, by omega, i + 1, rfl, by omega, .inr ⟨k, by omega, k2, k3, k4, k5⟩⟩
            rw [l_cpBefore_b1, if_pos (by simp; omega), e1, e2, Option.bind_some, Option.bind_some, k3 i (by omega), if_neg (by simp), i64_id (by omega) (by omega)]
            rfl)
    fu 12 0 ⟨0, rfl, rfl, h.imp id fun ⟨k, h1, h2⟩ => ⟨k, Nat.zero_le _, h1, h2⟩⟩ (by omega)
  rw [hj, Option.bind_some]
  cases j with
  | nx s => rfl
  | out t => simp only at hQ ⊢; rw [hQ]
end Go.L

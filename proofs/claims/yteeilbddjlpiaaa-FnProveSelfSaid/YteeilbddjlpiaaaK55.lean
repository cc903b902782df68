/- Equality of constraints and proofs, on the program's side. -/
import Derived.Test.YteeilbddjlpiaaaK54
namespace Go.L
open Go Go.E
set_option linter.unusedVariables false
set_option linter.unusedSimpArgs false
set_option maxRecDepth 100000
theorem equal_list {α : Type} [DecidableEq α] (s1 s2 : List α) {b : Nat → α → Unit → Option (Lo Unit Bool)} (hb : ∀ (i : Nat) x, b i x () = (idx s2 (i : Int)).bind fun y => if decide (x = y) then some (.cont ()) else some (.out false)) (hl : s1.length = s2.length) :
    rangeL b s1 0 () = some (if decide (s1 = s2) then .nx () else .out false) := by
  rw [range_allI (fun i x => decide (s2[i]? = some x)) false s1 fun i x hx => by
    have hi := (List.getElem?_eq_some_iff.1 hx).1
    have h2 : i < s2.length := by omega
    rw [hb, idx_nat, List.getElem?_eq_getElem h2, Option.bind_some]
    by_cases h : x = s2[i]
    · simp [h]
    · simp [h, Ne.symm h]]
  congr 2
  have : allFrom (fun i x => decide (s2[i]? = some x)) s1 0 = decide (s1 = s2) := by
    rw [Bool.eq_iff_iff, allFrom_iff]
    simp only [decide_eq_true_eq, Nat.zero_add]
    constructor
    · intro h
      apply List.ext_getElem?
      intro i
      cases h1 : s1[i]? with
      | some x => rw [h i x h1]
      | none => rw [List.getElem?_eq_none_iff] at h1; rw [List.getElem?_eq_none (by omega)]
    · intro h i x hx
      rw [← h]; exact hx
  rw [this]
theorem cp_bools (a b : List Bool) : l_cpBools a b = some (decide (a = b)) := by
  unfold l_cpBools
  by_cases hl : a.length = b.length
  · rw [if_neg (by simp [hl]), equal_list a b (b := l_cpBools_b1 b) (fun i x => by
      rw [l_cpBools_b1]
      congr 1
      funext y
      by_cases h : x = y <;> simp [h]) hl]
    by_cases h : a = b <;> simp [h]
  · rw [if_pos (by simp; omega), decide_eq_false (by intro h; rw [h] at hl; exact hl rfl)]
end Go.L

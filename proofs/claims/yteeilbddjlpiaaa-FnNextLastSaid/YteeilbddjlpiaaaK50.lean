/- Clauses, on both sides. -/
import Derived.Test.YteeilbddjlpiaaaK29
namespace Go.L
open Go Go.E
set_option linter.unusedVariables false
set_option linter.unusedSimpArgs false
set_option maxRecDepth 100000
def zeroC' : Con := ⟨[], 0⟩
/-- the literal of a variable -/
def seenAt (ls : List Int) (v : Int) : Int := if ls.contains v then v else if ls.contains (-v) then -v else 0
def clT (ls : List Int) : Nat → List Term
  | 0 => []
  | n + 1 => clT ls n ++ (if seenAt ls ((n + 1 : Nat) : Int) ≠ 0 then [⟨1, seenAt ls ((n + 1 : Nat) : Int)⟩] else [])
def clC (ls : List Int) : Con := ⟨clT ls 12, 1⟩
def litOk (l : Int) : Bool := l != 0 && (decide (-12 ≤ l) && decide (l ≤ 12))
theorem litOk_iff {l : Int} : litOk l = true ↔ lit12 l := by unfold litOk lit12; simp
/-- all are literals, and no two contradict each other -/
def clOk (ls : List Int) : Bool := ls.all fun l => litOk l && !ls.contains (-l)
theorem clOk_iff {ls : List Int} : clOk ls = true ↔ ∀ l ∈ ls, lit12 l ∧ ¬ (-l) ∈ ls := by
  unfold clOk
  rw [List.all_eq_true]
  constructor
  · intro h l hl
    have := h l hl
    rw [Bool.and_eq_true, litOk_iff] at this
    exact ⟨this.1, by simpa using this.2⟩
  · intro h l hl
    rw [Bool.and_eq_true, litOk_iff]
    exact ⟨(h l hl).1, by simpa using (h l hl).2⟩
theorem take_snoc1 {α : Type} {xs : List α} {i : Nat} {x : α} (h : xs[i]? = some x) : xs.take (i + 1) = xs.take i ++ [x] := by rw [List.take_add_one, h]; rfl
theorem clT_len (ls : List Int) : ∀ n, (clT ls n).length ≤ n
  | 0 => Nat.le_refl _
  | n + 1 => by
    have := clT_len ls n
    rw [clT, List.length_append]
    split <;> simp <;> omega
end Go.L

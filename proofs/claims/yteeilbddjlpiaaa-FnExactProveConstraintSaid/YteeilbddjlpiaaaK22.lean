/- Partial assignments: the state of a literal, slack. -/
import Derived.Test.YteeilbddjlpiaaaK21
namespace Go.L
open Go Go.E
set_option linter.unusedVariables false
set_option linter.unusedSimpArgs false
set_option maxRecDepth 100000
def okP (p : List Int) : Prop := p.length = 12 ∧ ∀ x ∈ p, -1 ≤ x ∧ x ≤ 1
def stt (p : List Int) (l : Int) : Int := if l > 0 then p.getD (l - 1).toNat 0 else - p.getD (-l - 1).toNat 0
theorem okP_get {p : List Int} (hp : okP p) (k : Nat) (hk : k < 12) : p[k]? = some (p.getD k 0) ∧ -1 ≤ p.getD k 0 ∧ p.getD k 0 ≤ 1 := by
  have h : k < p.length := by rw [hp.1]; exact hk
  have e : p.getD k 0 = p[k] := by rw [List.getD_eq_getElem?_getD, List.getElem?_eq_getElem h]; rfl
  rw [e]
  exact ⟨List.getElem?_eq_getElem h, hp.2 _ (List.getElem_mem h)⟩
theorem idx_p {p : List Int} (hp : okP p) {k : Int} (h0 : 0 ≤ k) (h1 : k < 12) : idx p k = some (p.getD k.toNat 0) := by
  have := (okP_get hp k.toNat (by omega)).1
  obtain ⟨n, rfl⟩ : ∃ n : Nat, k = (n : Int) := ⟨k.toNat, by omega⟩
  rw [idx_nat]
  simpa using this
theorem stt_range {p : List Int} (hp : okP p) {l : Int} (h0 : l ≠ 0) (h1 : -12 ≤ l) (h2 : l ≤ 12) : -1 ≤ stt p l ∧ stt p l ≤ 1 := by
  unfold stt
  split
  · exact (okP_get hp _ (by omega)).2
  · have := (okP_get hp (-l - 1).toNat (by omega)).2; omega
theorem s_state {p : List Int} (hp : okP p) {l : Int} (h0 : l ≠ 0) (h1 : -12 ≤ l) (h2 : l ≤ 12) : s_l3State p l = some (stt p l) := by
  unfold s_l3State stt
  by_cases h : l > 0
  · rw [if_pos (by simpa using h), if_pos h, i64_id (by omega) (by omega), idx_p hp (by omega) (by omega)]; rfl
  · have hr := (okP_get hp (-l - 1).toNat (by omega)).2
    rw [if_neg (by simpa using h), if_neg h, i64_id (n := -l) (by omega) (by omega), i64_id (n := -l - 1) (by omega) (by omega), idx_p hp (by omega) (by omega), Option.bind_some, i64_id (by omega) (by omega)]
theorem i_state {p : List Int} (hp : okP p) {l : Int} (h0 : l ≠ 0) (h1 : -12 ≤ l) (h2 : l ≤ 12) : i_under l p = some (stt p l) := by
  unfold i_under stt
  by_cases h : l < 0
  · have hr := (okP_get hp (-l - 1).toNat (by omega)).2
    rw [if_pos (by simpa using h), if_neg (by omega), i64_id (n := -l) (by omega) (by omega), i64_id (n := -l - 1) (by omega) (by omega), idx_p hp (by omega) (by omega), Option.bind_some, i64_id (by omega) (by omega)]
  · rw [if_neg (by simpa using h), if_pos (by omega), i64_id (by omega) (by omega), idx_p hp (by omega) (by omega)]; rfl
end Go.L

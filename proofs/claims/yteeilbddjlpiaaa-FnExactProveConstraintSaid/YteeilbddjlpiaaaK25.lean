/- Assigning literals, on both sides. -/
import Derived.Test.YteeilbddjlpiaaaK24
namespace Go.L
open Go Go.E
set_option linter.unusedVariables false
set_option linter.unusedSimpArgs false
set_option maxRecDepth 100000
def asg (p : List Int) (l : Int) : List Int := if l > 0 then p.set (l - 1).toNat 1 else p.set (-l - 1).toNat (-1)
theorem asg_ok {p : List Int} (hp : okP p) (l : Int) : okP (asg p l) := by
  unfold asg
  split
  all_goals
    refine ⟨by rw [List.length_set]; exact hp.1, fun x hx => ?_⟩
    rcases List.mem_or_eq_of_mem_set hx with h | h
    · exact hp.2 x h
    · subst h; omega
theorem s_asg {p : List Int} (hp : okP p) {l : Int} (h0 : l ≠ 0) (h1 : -12 ≤ l) (h2 : l ≤ 12) : s_l3Assign p l = some (asg p l) := by
  unfold s_l3Assign asg
  by_cases h : l > 0
  · rw [if_pos (by simpa using h), if_pos h, i64_id (by omega) (by omega), idx_p hp (by omega) (by omega)]; rfl
  · rw [if_neg (by simpa using h), if_neg h, i64_id (n := -l) (by omega) (by omega), i64_id (n := -l - 1) (by omega) (by omega), idx_p hp (by omega) (by omega)]; rfl
def lit12 (l : Int) : Prop := l ≠ 0 ∧ -12 ≤ l ∧ l ≤ 12
def asgL (p : List Int) (ls : List Int) : List Int := ls.foldl asg p
theorem asgL_ok : ∀ (ls : List Int) {p : List Int}, okP p → okP (asgL p ls)
  | [], _, hp => hp
  | l :: ls, _, hp => asgL_ok ls (asg_ok hp l)
theorem asg_loop {τ : Type} {b : Nat → Int → (List Int × Bool) → Option (Lo (List Int × Bool) τ)} (hb : ∀ i l p m, okP p → lit12 l → b i l (p, m) = some (.cont (asg p l, true))) :
    ∀ (ls : List Int) (i : Nat) (p : List Int) (m : Bool), okP p → (∀ l ∈ ls, lit12 l) → rangeL b ls i (p, m) = some (.nx (asgL p ls, m || !ls.isEmpty))
  | [], i, p, m, _, _ => by simp [rangeL, asgL]
  | l :: ls, i, p, m, hp, hl => by
    show (b i l (p, m)).bind _ = _
    rw [hb i l p m hp (hl l (by simp))]
    show rangeL b ls (i + 1) (asg p l, true) = _
    rw [asg_loop hb ls (i + 1) _ true (asg_ok hp l) fun x hx => hl x (by simp [hx])]
    simp [asgL]
theorem s_asgs {p : List Int} (hp : okP p) (m : Bool) (ls : List Int) (hl : ∀ l ∈ ls, lit12 l) : rangeL s_l3Propagate_b3 ls 0 (p, m) = some (.nx (asgL p ls, m || !ls.isEmpty)) :=
  asg_loop (fun i l p m hp h => by show (s_l3Assign p l).bind _ = _; rw [s_asg hp h.1 h.2.1 h.2.2]; rfl) ls 0 p m hp hl
theorem i_asgs {p : List Int} (hp : okP p) (m : Bool) (ls : List Int) (hl : ∀ l ∈ ls, lit12 l) : rangeL i_propagate_b3 ls 0 (p, m) = some (.nx (asgL p ls, m || !ls.isEmpty)) :=
  asg_loop (fun i l p m hp h => by
    obtain ⟨h0, h1, h2⟩ := h
    rw [i_propagate_b3]; unfold asg
    by_cases h : l > 0
    · rw [if_pos h, if_pos (decide_eq_true h), i64_id (by omega) (by omega), idx_p hp (by omega) (by omega)]; rfl
    · rw [if_neg h, if_neg (by simpa using h), i64_id (n := -l) (by omega) (by omega), i64_id (n := -l - 1) (by omega) (by omega), idx_p hp (by omega) (by omega)]; rfl) ls 0 p m hp hl
end Go.L

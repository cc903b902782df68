/- What the search keeps, and what its answers say. -/
import Derived.Test.YteeilbddjlpiaaaK52
namespace Go.L
open Go Go.E
set_option linter.unusedVariables false
set_option linter.unusedSimpArgs false
set_option maxRecDepth 100000
/-- a sound state -/
structure Sok (s : Sst) : Prop where
  ok : ∀ c ∈ s.list, okCon c = true
  len : s.list.length ≤ 400 + s.steps.length
  few : s.steps.length ≤ 1000
  fuel0 : 0 ≤ s.fuel
  fuel1 : s.fuel ≤ 2000
theorem neg_clOk {d : List Int} (h : Dec d) : clOk (negL d) = true := distinct_ok (negL_lit h.lit) (negL_dis h.dis)
theorem Sok.learn {s : Sst} (h : Sok s) (hs : s.steps.length < 1000) {d : List Int} (hd : Dec d) : Sok (learnP s d) := by
  refine ⟨?_, ?_, ?_, h.fuel0, h.fuel1⟩
  · intro c hc
    rcases List.mem_append.1 hc with hc | hc
    · exact h.ok c hc
    · rw [List.mem_singleton] at hc; subst hc; exact clC_ok (neg_clOk hd)
  · have := h.len
    simp [learnP]; omega
  · simp [learnP]; omega
theorem Sok.less {s : Sst} (h : Sok s) (hf : s.fuel ≠ 0) : Sok ⟨s.list, s.steps, s.fuel - 1⟩ := by
  have := h.fuel0
  have := h.fuel1
  exact ⟨h.ok, h.len, h.few, by show (0 : Int) ≤ s.fuel - 1; omega, by show s.fuel - 1 ≤ 2000; omega⟩
theorem srch_ok : ∀ (n : Nat) (s : Sst) (d : List Int), Sok s → Dec d → Sok (srchP n s d).1 ∧ s.steps.length ≤ (srchP n s d).1.steps.length ∧ ((srchP n s d).2.1 = 0 ∨ (srchP n s d).2.1 = 1 ∨ (srchP n s d).2.1 = 2) ∧ ((srchP n s d).2.1 ≠ 1 → (srchP n s d).2.2 = []) ∧ ∃ t, (srchP n s d).1.list = s.list ++ t
  | 0, s, d, hs, hd => ⟨hs, Nat.le_refl _, .inl rfl, fun _ => rfl, [], (List.append_nil _).symm⟩
  | n + 1, s, d, hs, hd => by
    have hcase := srch_cases n s d
    generalize srchP (n + 1) s d = R at hcase ⊢
    cases hcase with
    | dry h => exact ⟨hs, Nat.le_refl _, .inl rfl, fun _ => rfl, [], (List.append_nil _).symm⟩
    | conf h1 h2 h => exact ⟨(hs.less h1).learn h2 hd, by simp [learnP], .inr (.inr rfl), fun _ => rfl, _, rfl⟩
    | leaf h1 h2 p h hf => exact ⟨hs.less h1, Nat.le_refl _, .inr (.inl rfl), fun h => absurd rfl h, [], (List.append_nil _).symm⟩
    | one h1 h2 p h hf r hr h3 =>
      obtain ⟨f1, f2, d1, d2⟩ := hd.free hs.ok h hf
      obtain ⟨a1, a2, a3, a4, a5⟩ := srch_ok n _ _ (hs.less h1) d1
      rw [hr] at a1 a2 a3 a4 a5
      exact ⟨a1, a2, a3, a4, a5⟩
    | two h1 h2 p h hf r hr h3 q hq h4 =>
      obtain ⟨f1, f2, d1, d2⟩ := hd.free hs.ok h hf
      obtain ⟨a1, a2, a3, a4, t, a5⟩ := srch_ok n _ _ (hs.less h1) d1
      rw [hr] at a1 a2 a3 a4 a5
      obtain ⟨b1, b2, b3, b4, u, b5⟩ := srch_ok n _ _ a1 d2
      rw [hq] at b1 b2 b3 b4 b5
      exact ⟨b1, Nat.le_trans a2 b2, b3, b4, t ++ u, by rw [b5, a5, List.append_assoc]⟩
    | much h1 h2 p h hf r hr h3 q hq h4 h5 =>
      obtain ⟨f1, f2, d1, d2⟩ := hd.free hs.ok h hf
      obtain ⟨a1, a2, a3, a4, t, a5⟩ := srch_ok n _ _ (hs.less h1) d1
      rw [hr] at a1 a2 a3 a4 a5
      obtain ⟨b1, b2, b3, b4, u, b5⟩ := srch_ok n _ _ a1 d2
      rw [hq] at b1 b2 b3 b4 b5
      exact ⟨b1, Nat.le_trans a2 b2, .inl rfl, fun _ => rfl, t ++ u, by show q.1.list = _; rw [b5, a5, List.append_assoc]⟩
    | fail h1 h2 p h hf r hr h3 q hq h4 h5 =>
      obtain ⟨f1, f2, d1, d2⟩ := hd.free hs.ok h hf
      obtain ⟨a1, a2, a3, a4, t, a5⟩ := srch_ok n _ _ (hs.less h1) d1
      rw [hr] at a1 a2 a3 a4 a5
      obtain ⟨b1, b2, b3, b4, u, b5⟩ := srch_ok n _ _ a1 d2
      rw [hq] at b1 b2 b3 b4 b5
      refine ⟨b1.learn h5 hd, ?_, .inr (.inr rfl), fun _ => rfl, t ++ (u ++ [clC (negL d)]), ?_⟩
      · have := Nat.le_trans a2 b2
        simp [learnP] at *; omega
      · show q.1.list ++ _ = _
        rw [b5, a5, List.append_assoc, List.append_assoc]
end Go.L

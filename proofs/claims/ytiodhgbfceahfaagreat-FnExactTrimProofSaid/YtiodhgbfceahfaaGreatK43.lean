/- Trimming: the program's answer is the reference's. -/
import Derived.Test.YtiodhgbfceahfaaGreatK40
import Derived.Test.YtiodhgbfceahfaaGreatK42
namespace Go.L
open Go Go.E
set_option linter.unusedVariables false
set_option linter.unusedSimpArgs false
set_option maxRecDepth 100000
theorem mkConsZ (xs : List Con) (h : smCs xs) (fu : Nat) (hf : FV ≤ fu) (k : Int) (h0 : 0 ≤ k) (hK : k ≤ 1000000000000000000) :
    ∃ k' a', l_markConstraintS fu xs k = some (k', a') ∧ k ≤ k' ∧ k' ≤ k + 2199024304128 := by
  obtain ⟨a', k', j, e, _, hch, h1, h2⟩ := mark_all (b := l_markConstraintS_b1 fu) (fun _ _ _ => True) 2097153 8000000000000000000 (by omega) xs h.1
    (fun a k i x hx hm h0 h1 => by
      obtain ⟨k1, y1, e1, g1, p1, q1⟩ := mkTerms x.terms (h.2 x hm) fu hf k h0 (by omega)
      have hi := (List.getElem?_eq_some_iff.1 hx).1
      refine ⟨⟨y1, k1⟩, k1 + 1, ?_, trivial, by omega, by omega⟩
      show (if decide ((i : Int) < (a.length : Int)) then _ else _) = _
      rw [mk_lt hx, if_pos rfl, idx_nat, hx, Option.bind_some, e1, Option.bind_some]
      simp only [Int.toNat_natCast, idx_set_self hx, Option.bind_some, List.set_set, i64_id (n := k1 + 1) (by omega) (by omega)])
    (fun a k i h => by show (if decide ((i : Int) < (a.length : Int)) then _ else _) = _; rw [mk_ge h]; rfl) k fu hf h0 (by omega)
  refine ⟨k', a', ?_, h1, by omega⟩
  unfold l_markConstraintS; rw [e]; rfl
theorem heldSteps {a' : List Step} {k k' : Int} (hch : chain PS a' k k') : l_heldStepS a' k = some k' := by
  unfold l_heldStepS
  rw [chain_range (b := l_heldStepS_b1 a') (P := PS) ?_ a' 0 k k' hch]
  · rfl
  · rintro i y k k' ⟨r1, r2, r3, q1, q2, s0, s1, q3, q4⟩
    have z1 : i64 (k + 1) = k + 1 := i64_id (by omega) (by omega)
    have z2 : i64 (k + 1 + 1) = k + 2 := by rw [i64_id (by omega) (by omega)]; omega
    have z3 : i64 (k + 2 + 1) = k + 3 := by rw [i64_id (by omega) (by omega)]; omega
    rw [l_heldStepS_b1]
    simp only [r1, r2, r3, z1, z2, z3, q1, q2, bne_self_eq_false, Bool.false_eq_true, if_false, Option.bind_some]
    rw [if_neg (by simp; omega), i64_id (by omega) (by omega)]
    congr 2
    omega
theorem trim_small {list : List Con} {steps : List Step} (h : smSs steps) : smSs (trimP list steps).1 := by
  have := trim_len list steps
  refine ⟨by have := h.1; omega, fun t ht => ?_⟩
  obtain ⟨s, hs, _, e, _⟩ := trim_mem t ht
  rw [e]; exact h.2 s hs
theorem FnExactTrimProof_ok (aList : List Con) (aSteps : List Step) (g0 : gCons aList) (g1 : gSteps aSteps) : ∃ fu, l_FnExactTrimProof fu aList aSteps = some true := by
  refine ⟨FV, ?_⟩
  unfold l_FnExactTrimProof
  refine sz_law (szCons aList 1048576 (by omega) (by omega) (lenC_of g0).1 (lenC_of g0).2) (by omega) fun r p0 p1 hc => ?_
  refine sz_law (szSteps aSteps r p0 p1 (lenS_of g1).1 (lenS_of g1).2) p1 fun r2 _ _ hs => ?_
  obtain ⟨k1, a1, e1, u1, v1⟩ := mkConsZ aList hc FV (Nat.le_refl _) 1 (by omega) (by omega)
  obtain ⟨k2, a2, e2, _, u2, v2⟩ := mkSteps aSteps hs FV (Nat.le_refl _) k1 (by omega) (by omega)
  obtain ⟨k3, a3, e3, f3, u3, v3⟩ := mkSteps (trimP aList aSteps).1 (trim_small hs) FV (Nat.le_refl _) 1 (by omega) (by omega)
  have f3 := heldSteps f3
  simp only [toCons _ hc, toSteps _ hs, Option.bind_some, s_trim FV FUV (smCs_lens hc) (smSs_lens hs), i_trim FV FUV (smSs_lens hs), eqCons, eqSteps, e1, e2, e3, f3]
  have n2 : decide (k2 < 0) = false := by simp; omega
  have n3 : decide (k3 < 0) = false := by simp; omega
  simp [n2, n3]
end Go.L

/- Solving and proving: the program's answer is the reference's. -/
import Derived.Test.YteeilbddjlpiaaaK60
import Derived.Test.YteeilbddjlpiaaaK41
import Derived.Test.YteeilbddjlpiaaaKMb
namespace Go.L
open Go Go.E
set_option linter.unusedVariables false
set_option linter.unusedSimpArgs false
set_option maxRecDepth 100000
theorem lenC_of' {xs : List Con} (h : gCons xs) : xs.length ≤ ML ∧ ∀ c ∈ xs, c.terms.length ≤ ML := ⟨h.1, fun c hc => (h.2 c hc).1.1⟩
theorem FUV' : FU ≤ FV := by decide
theorem mkConsD (xs : List Con) (h : smCs xs) (fu : Nat) (hf : FV ≤ fu) (k : Int) (h0 : 0 ≤ k) (hK : k ≤ 1000000000000000000) :
    ∃ k' a', l_markConstraintS fu xs k = some (k', a') ∧ k ≤ k' ∧ k' ≤ k + 2199024304128 := by
  obtain ⟨a', k', j, e, _, hch, h1, h2⟩ := mark_all (b := l_markConstraintS_b1 fu) (fun _ _ _ => True) 2097153 8000000000000000000 (by omega) xs h.1
    (fun a k i x hx hm h0 h1 => by
      obtain ⟨k1, y1, e1, g1, p1, q1⟩ := mkTerms x.terms (h.2 x hm) fu hf k h0 (by omega)
      have hi := (List.getElem?_eq_some_iff.1 hx).1
      refine ⟨⟨y1, k1⟩, k1 + 1, ?_, trivial, by omega, by omega⟩
      show (if decide ((i : Int) < (a.length : Int)) then _ else _) = _
      rw [mk_lt hx, if_pos rfl, idx_nat, hx, Option.bind_some, e1, Option.bind_some]
      simp only [Int.toNat_natCast, idx_set_self hx, Option.bind_some, List.set_set, i64_id (n := k1 + 1) (by omega) (by omega)])
    (fun a k i h => by show (if decide ((i : Int) < (a.length : Int)) then _ else _) = _; rw [mk_ge h]; rfl) k fu hf h0 (by omega)
  refine ⟨k', a', ?_, h1, by omega⟩
  unfold l_markConstraintS; rw [e]; rfl
theorem mkConD (x : Con) (h : smC x) (fu : Nat) (hf : FV ≤ fu) (k : Int) (h0 : 0 ≤ k) (hK : k ≤ 2000000000000000000) :
    ∃ k' a', l_markConstraint fu x k = some (k', a') ∧ k ≤ k' := by
  obtain ⟨k1, y1, e1, g1, p1, q1⟩ := mkTerms x.terms h fu hf k h0 (by omega)
  exact ⟨k1, _, by unfold l_markConstraint; rw [e1]; rfl, p1⟩
theorem eqBools (a : List Bool) : l_eqBoolS a a = some true :=
  same_list (one := fun x y => some (x == y)) rfl rfl (fun i x hx => by
    show (idx a (i : Int)).bind _ = _
    rw [idx_self hx]
    show (if (x != x) then _ else _) = _
    simp) fun x _ => by simp
theorem heldStepsD {a' : List Step} {k k' : Int} (hch : chain PS a' k k') : l_heldStepS a' k = some k' := by
  unfold l_heldStepS
  rw [chain_range (b := l_heldStepS_b1 a') (P := PS) ?_ a' 0 k k' hch]
  · rfl
  · rintro i y k k' ⟨r1, r2, r3, q1, q2, s0, s1, q3, q4⟩
    have z1 : i64 (k + 1) = k + 1 := i64_id (by omega) (by omega)
    have z2 : i64 (k + 1 + 1) = k + 2 := by rw [i64_id (by omega) (by omega)]; omega
    have z3 : i64 (k + 2 + 1) = k + 3 := by rw [i64_id (by omega) (by omega)]; omega
    rw [l_heldStepS_b1]
    simp only [r1, r2, r3, z1, z2, z3, q1, q2, bne_self_eq_false, Bool.false_eq_true, if_false, Option.bind_some]
    rw [if_neg (by simp; omega), i64_id (by omega) (by omega)]
    congr 2
    omega
theorem solve_small (fu : Nat) (list : List Con) (fuel : Int) : (solveP fu list fuel).2.1.length ≤ 12 ∧ smSs (solveP fu list fuel).2.2 := by
  have hz : smSs [] := ⟨by simp, by simp⟩
  by_cases hc : (okProb list && fuelOk fuel) = true
  · obtain ⟨h1, h2⟩ := Bool.and_eq_true _ _ ▸ hc
    have hs := start_ok h1 h2
    obtain ⟨O, _, O2, O3, _⟩ := srch_ok fu _ _ hs Dec.nil
    have A := srch_ans fu _ _ hs Dec.nil
    obtain ⟨t, t1, t2, t3⟩ := srch_tail fu ⟨list, [], fuel⟩ []
    unfold solveP
    rw [if_pos hc]
    by_cases e : (srchP fu ⟨list, [], fuel⟩ []).2.1 = 2
    · rw [if_pos e]
      refine ⟨by simp, by have := O.few; simp only; omega, fun s hs => ?_⟩
      simp only at hs
      rw [t2] at hs
      rw [List.nil_append] at hs
      obtain ⟨c, hc, rfl⟩ := List.mem_map.1 hs
      have := t3 c hc
      unfold smC stepOf
      simp only; omega
    · rw [if_neg e]
      refine ⟨?_, hz⟩
      by_cases e1 : (srchP fu ⟨list, [], fuel⟩ []).2.1 = 1
      · have := (A.sat e1).1; simp only; omega
      · simp only; rw [O3 e1]; simp
  · unfold solveP
    rw [if_neg hc]
    exact ⟨by simp, hz⟩
theorem prove_small (fu : Nat) (list : List Con) (c : Con) (fuel : Int) : (proveP fu list c fuel).2.1.length ≤ 12 ∧ smSs (proveP fu list c fuel).2.2 := by
  unfold proveP
  split
  · exact solve_small fu _ fuel
  · exact ⟨by simp, by simp, by simp⟩
theorem lens_ML {xs : List Con} (h : smCs xs) : ∀ c ∈ xs, c.terms.length ≤ ML := fun c hc => by have := h.2 c hc; unfold smC at this; unfold ML; omega
theorem FnExactProveConstraint_ok (aList : List Con) (aC : Con) (aFuel : Int) (g0 : gCons aList) (g1 : gCon aC) (g2 : InI64 aFuel) : ∃ fu, l_FnExactProveConstraint fu aList aC aFuel = some true := by
  refine ⟨FV, ?_⟩
  unfold l_FnExactProveConstraint
  refine sz_law (szCons aList 1048576 (by omega) (by omega) (lenC_of' g0).1 (lenC_of' g0).2) (by omega) fun r p0 p1 hc => ?_
  refine sz_law (szCon aC r p0 p1 g1.1.1) p1 fun r2 _ _ hC => ?_
  obtain ⟨sb, ss⟩ := prove_small FV aList aC aFuel
  have hml : aC.terms.length ≤ ML := by unfold smC at hC; unfold ML; omega
  obtain ⟨k1, a1, e1, u1, v1⟩ := mkConsD aList hc FV (Nat.le_refl _) 1 (by omega) (by omega)
  obtain ⟨k4, a4, e4, u4⟩ := mkConD aC hC FV (Nat.le_refl _) k1 (by omega) (by omega)
  obtain ⟨k2, a2, e2, f2, u2, v2⟩ := mkBoolS (proveP FV aList aC aFuel).2.1 (by omega) FV (Nat.le_refl _) 1 (by omega) (by omega)
  obtain ⟨k3, a3, e3, f3, u3, v3⟩ := mkSteps (proveP FV aList aC aFuel).2.2 ss FV (Nat.le_refl _) k2 (by omega) (by omega)
  have f3 := heldStepsD f3
  simp only [toCons _ hc, toCon _ hC, Option.bind_some, s_prove FV FUV' _ (lens_ML hc) _ hml, i_prove FV FUV', eqCons, eqCon, eqSteps, eqBools, e1, e2, e3, e4, f2, f3]
  have n1 : decide (k1 < 0) = false := by simp; omega
  have n2 : decide (k2 < 0) = false := by simp; omega
  have n3 : decide (k3 < 0) = false := by simp; omega
  have n4 : decide (k4 < 0) = false := by simp; omega
  simp [n1, n2, n3, n4]
end Go.L

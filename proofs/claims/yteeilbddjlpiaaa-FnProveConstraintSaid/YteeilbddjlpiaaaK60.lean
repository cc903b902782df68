/- The laws of searching. -/
import Derived.Test.YteeilbddjlpiaaaK59
namespace Go.L
open Go Go.E
set_option linter.unusedVariables false
set_option linter.unusedSimpArgs false
set_option maxRecDepth 100000
theorem fuFU : FU ≤ FU := Nat.le_refl _
theorem while_values {b : Int → Option (Lo Int Bool)} (fu : Nat) (hf : FU ≤ fu) (h0 : b 4096 = some (.brk 4096)) (h : ∀ (i : Nat) v, i < 4096 → l_cpValues (i : Int) = some v → v.length = 12 → b (i : Int) = some (.cont ((i + 1 : Nat) : Int))) : ∃ n, whileL b fu 0 = some (.nx n) := by
  unfold FU at hf
  obtain ⟨j, hj, hQ⟩ := while_inv (b := b) (fun m (s : Int) => ∃ i : Nat, s = (i : Int) ∧ i + m = 4096) (fun j => ∃ n, j = .nx n) (fun m s ⟨i, hi, hm⟩ => by
    subst hi
    cases m with
    | zero =>
      have : i = 4096 := by omega
      subst this
      exact ⟨_, h0, _, rfl⟩
    | succ m =>
      obtain ⟨v, hv, hl⟩ := cpValues_ok (i : Int) (by omega) (by omega)
      exact ⟨_, h i v (by omega) hv hl, m, by omega, i + 1, rfl, by omega⟩) fu 4096 0 ⟨0, rfl, rfl⟩ (by omega)
  obtain ⟨n, rfl⟩ := hQ
  exact ⟨n, hj⟩
theorem FnProveConstraint_ok (code : List UInt8) (g0 : code.length ≤ 9223372036854775807 ∧ ∀ x ∈ code, True) : ∃ fu, l_FnProveConstraint fu code = some true := by
  refine ⟨FU, ?_⟩
  unfold l_FnProveConstraint
  split
  · rfl
  obtain ⟨x, hx, h1, h2⟩ := drawProve_ok code FU fuFU
  rw [hx, Option.bind_some, i_prove FU fuFU, Option.bind_some, s_prove FU fuFU _ (smL'_ML h1) _ (by unfold ML; omega), Option.bind_some, cp_bools, i_proof_same]
  simp only [bne_self_eq_false, Bool.false_eq_true, if_false, decide_true, Bool.not_true, Option.bind_some]
  by_cases e : (proveP FU x.1 x.2.1 x.2.2).1 = 1
  · obtain ⟨q1, q2, q3, q4, q5⟩ := prove_sat e
    rw [if_pos (by simp [e]), i_sat q3, Option.bind_some, i_eval q3, q1, q2, q4, q5]
    rfl
  · rw [if_neg (by simpa using e)]
    by_cases e2 : (proveP FU x.1 x.2.1 x.2.2).1 = 2
    · obtain ⟨q1, q2⟩ := prove_unsat e2
      obtain ⟨n, hn⟩ := while_values (b := l_FnProveConstraint_b1 x (proveP FU x.1 x.2.1 x.2.2)) FU fuFU rfl (fun i v hi hv hl => by
        rw [l_FnProveConstraint_b1, if_pos (by rw [e2, decide_eq_true (by omega)]; rfl), hv, Option.bind_some, i_sat hl, Option.bind_some, i_eval hl, i64_id (by omega) (by omega), q1]
        cases ha : allV x.1 v with
        | false => simp
        | true => rw [q2 v hl ha]; cases okProb x.1 <;> simp)
      rw [hn]; rfl
    · have : whileL (l_FnProveConstraint_b1 x (proveP FU x.1 x.2.1 x.2.2)) FU 0 = some (.nx 0) := by
        obtain ⟨k, hk⟩ : ∃ k, FU = k + 1 := ⟨FU - 1, rfl⟩
        rw [hk]
        show (l_FnProveConstraint_b1 x (proveP (k + 1) x.1 x.2.1 x.2.2) 0).bind _ = _
        rw [l_FnProveConstraint_b1, if_neg (by rw [← hk]; simp [e2])]
        rfl
      rw [this]; rfl
end Go.L

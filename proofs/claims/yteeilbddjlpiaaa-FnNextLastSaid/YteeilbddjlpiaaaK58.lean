/- Satisfying, counting and the next solution: both sides. -/
import Derived.Test.YteeilbddjlpiaaaK57
namespace Go.L
open Go Go.E
set_option linter.unusedVariables false
set_option linter.unusedSimpArgs false
set_option maxRecDepth 100000
theorem s_true_eq {v : List Bool} (hv : v.length = 12) {l : Int} (hl : lit12 l) : s_l1True v l = some (trueL v l) := by
  obtain ⟨h0, h1, h2⟩ := hl
  unfold s_l1True trueL
  by_cases h : l > 0
  · rw [if_pos (by simpa using h), if_pos h, i64_id (by omega) (by omega), idx_v hv (by omega) (by omega)]; rfl
  · rw [if_neg (by simpa using h), if_neg h, i64_id (n := -l) (by omega) (by omega), i64_id (n := -l - 1) (by omega) (by omega), idx_v hv (by omega) (by omega)]; rfl
theorem s_evalC {v : List Bool} (hv : v.length = 12) {c : Con} (hc : okCon c = true) : s_l1Eval c v = some (evalC c v) := by
  obtain ⟨_, hl, ht, _, _⟩ := okCon_parts hc
  unfold s_l1Eval
  have := range_to (b := s_l1Eval_b1 v) (fun i => sumV v (c.terms.take i)) c.terms (fun i t hi => by
    have hm := List.mem_of_getElem? hi
    have hi' := (List.getElem?_eq_some_iff.1 hi).1
    have hk := ht t hm
    have hb := sumV_bound v (c.terms.take i) fun t h => ht t (List.mem_of_mem_take h)
    have hlen : (c.terms.take i).length ≤ 12 := by simp; omega
    have hco : 1 ≤ t.coef ∧ t.coef ≤ 1000 := by unfold okT at hk; simp at hk; omega
    rw [s_l1Eval_b1, s_true_eq hv (okT_lit12 hk), Option.bind_some, take_snoc1 hi, sumV_snoc]
    cases trueL v t.lit with
    | true => rw [if_pos rfl, if_pos rfl, i64_id (by omega) (by omega)]; rfl
    | false => rw [if_neg (by simp), if_neg (by simp)]; rfl)
  rw [show (0 : Int) = sumV v (c.terms.take 0) by simp [sumV, sumR], this, Option.bind_some, List.take_length]
  rfl
theorem s_all {v : List Bool} (hv : v.length = 12) {list : List Con} (hc : ∀ c ∈ list, okCon c = true) : s_l3All list v = some (allV list v) := by
  unfold s_l3All
  rw [range_all (fun c => evalC c v) false list fun i c hi => by
    rw [s_l3All_b1, s_evalC hv (hc c (List.mem_of_getElem? hi))]
    cases evalC c v <;> rfl, Option.bind_some]
  unfold allV
  cases list.all fun c => evalC c v <;> rfl
theorem i_all {v : List Bool} (hv : v.length = 12) {list : List Con} (hc : ∀ c ∈ list, okCon c = true) : i_satisfies list v = some (allV list v) := by
  unfold i_satisfies
  rw [i_contains list (q := fun c => !evalC c v) fun c h => by unfold i_satisfies_1; rw [i_cholds hv (hc c h)]; rfl, Option.bind_some, any_not_all, Bool.not_not]
  rfl
/-! the next solution -/
def nextN (list : List Con) : Nat → Nat → List Bool × Bool
  | 0, _ => ([], false)
  | m + 1, k => if allV list (numV k) then (numV k, true) else nextN list m (k + 1)
def nextP (list : List Con) (values : List Bool) : List Bool × Bool := if okProb list && decide (values.length = 12) then nextN list (4096 - foldN values 0) (foldN values 0) else ([], false)
theorem next_while (fu : Nat) (hf : FU ≤ fu) {list : List Con} {b : Int → Option (Lo Int (List Bool × Bool))} (h0 : b 4096 = some (.brk 4096))
    (hb : ∀ k : Nat, k < 4096 → b (k : Int) = some (if allV list (numV k) then .out (numV k, true) else .cont (((k + 1 : Nat) : Int)))) (k : Nat) (hk : k ≤ 4096) :
    ((whileL b fu (k : Int)).bind fun j => match j with | .nx _ => some ([], false) | .out t => some t) = some (nextN list (4096 - k) k) := by
  unfold FU at hf
  obtain ⟨j, hj, hQ⟩ := while_inv (b := b) (fun m (s : Int) => ∃ i : Nat, s = (i : Int) ∧ i + m = 4096 ∧ nextN list m i = nextN list (4096 - k) k)
    (fun j => match j with | .nx _ => nextN list (4096 - k) k = ([], false) | .out t => nextN list (4096 - k) k = t) (fun m s ⟨i, hi, hm, he⟩ => by
      subst hi
      cases m with
      | zero =>
        have : i = 4096 := by omega
        subst this
        exact ⟨_, h0, he.symm⟩
      | succ m =>
        rw [nextN] at he
        refine ⟨_, hb i (by omega), ?_⟩
        cases ha : allV list (numV i) with
        | true => rw [ha] at he; exact he.symm
        | false => rw [ha] at he; exact ⟨m, by omega, i + 1, rfl, by omega, he⟩)
    fu (4096 - k) (k : Int) ⟨k, rfl, by omega, rfl⟩ (by omega)
  rw [hj, Option.bind_some]
  cases j with
  | nx s => simp only at hQ ⊢; rw [hQ]
  | out t => simp only at hQ ⊢; rw [hQ]
theorem s_next (fu : Nat) (hf : FU ≤ fu) (list : List Con) (hl : ∀ c ∈ list, c.terms.length ≤ ML) (values : List Bool) : s_NextSolution fu list values = some (nextP list values) := by
  unfold s_NextSolution nextP
  rw [s_problem list hl, Option.bind_some]
  cases h : okProb list with
  | false => rfl
  | true =>
    have hc := (okProb_parts h).1
    by_cases h12 : values.length = 12
    · rw [if_neg (by simp; omega), decide_eq_true h12, s_number h12, Option.bind_some]
      exact next_while fu hf (b := s_NextSolution_b1 fu list) rfl (fun k hk => by
        rw [s_NextSolution_b1, if_pos (decide_eq_true (by omega)), s_values fu hf k hk, Option.bind_some, s_all (numV_len k) hc, Option.bind_some, Option.bind_some, i64_id (by omega) (by omega)]
        cases allV list (numV k) <;> rfl) _ (Nat.le_of_lt (numOf_lt h12))
    · rw [if_pos (by simp; omega), decide_eq_false h12]; rfl
theorem i_next (fu : Nat) (hf : FU ≤ fu) (list : List Con) (values : List Bool) : i_NextSolution fu list values = some (nextP list values) := by
  unfold i_NextSolution nextP
  rw [i_problem list, Option.bind_some]
  cases h : okProb list with
  | false => rfl
  | true =>
    have hc := (okProb_parts h).1
    by_cases h12 : values.length = 12
    · rw [if_neg (by simp; omega), decide_eq_true h12, i_number h12, Option.bind_some]
      exact next_while fu hf (b := i_NextSolution_b1 list) rfl (fun k hk => by
        rw [i_NextSolution_b1, if_pos (decide_eq_true (by omega)), i_num k hk, Option.bind_some, i_all (numV_len k) hc, Option.bind_some, i64_id (by omega) (by omega)]
        cases allV list (numV k) <;> rfl) _ (Nat.le_of_lt (numOf_lt h12))
    · rw [if_pos (by simp; omega), decide_eq_false h12]; rfl
theorem nextN_found (list : List Con) : ∀ (m k : Nat), k + m = 4096 → (nextN list m k).2 = true → ∃ n, n < 4096 ∧ nextN list m k = (numV n, true) ∧ allV list (numV n) = true
  | 0, k, _, h => by simp [nextN] at h
  | m + 1, k, hk, h => by
    rw [nextN] at h ⊢
    cases ha : allV list (numV k) with
    | true => exact ⟨k, by omega, rfl, ha⟩
    | false =>
      rw [ha] at h
      exact nextN_found list m (k + 1) (by omega) h
theorem next_found {list : List Con} {values : List Bool} (h : (nextP list values).2 = true) : okProb list = true ∧ (nextP list values).1.length = 12 ∧ allV list (nextP list values).1 = true ∧ nextP list (nextP list values).1 = nextP list values := by
  have e : okProb list = true ∧ values.length = 12 := by
    unfold nextP at h
    by_cases hc : (okProb list && decide (values.length = 12)) = true
    · rw [Bool.and_eq_true, decide_eq_true_eq] at hc; exact hc
    · rw [if_neg hc] at h; simp at h
  have h1 : nextP list values = nextN list (4096 - foldN values 0) (foldN values 0) := by
    unfold nextP; rw [e.1, decide_eq_true e.2]; rfl
  have hlt := numOf_lt e.2
  obtain ⟨n, n1, n2, n3⟩ := nextN_found list (4096 - foldN values 0) (foldN values 0) (by omega) (by rw [← h1]; exact h)
  rw [h1, n2]
  refine ⟨e.1, numV_len n, n3, ?_⟩
  unfold nextP
  rw [e.1, decide_eq_true (numV_len n)]
  simp only [Bool.and_true, if_true]
  rw [of_num n1, show 4096 - n = (4095 - n) + 1 by omega, nextN, n3]
  rfl
/-! which comes first -/
theorem cp_before (fu : Nat) (hf : FU ≤ fu) {a b : List Bool} (ha : a.length = 12) (hb : b.length = 12) (h : firstR a b) : l_cpBefore fu a b = some false := by
  unfold FU at hf
  unfold l_cpBefore
  obtain ⟨j, hj, hQ⟩ := while_inv (b := l_cpBefore_b1 a b) (fun m (s : Int) => ∃ i : Nat, s = (i : Int) ∧ i + m = 12 ∧ (a = b ∨ ∃ k, i ≤ k ∧ k < 12 ∧ (∀ j, j < k → a.getD j false = b.getD j false) ∧ a.getD k false = true ∧ b.getD k false = false))
    (fun j => match j with | .nx _ => True | .out t => t = false) (fun m s ⟨i, hi, hm, he⟩ => by
      subst hi
      cases m with
      | zero =>
        refine ⟨.brk (i : Int), ?_, trivial⟩
        rw [l_cpBefore_b1, if_neg (by simp; omega)]
      | succ m =>
        have hi : i < 12 := by omega
        have e1 : idx a (i : Int) = some (a.getD i false) := by rw [idx_nat, List.getElem?_eq_getElem (by omega), getD_at _ (by omega)]
        have e2 : idx b (i : Int) = some (b.getD i false) := by rw [idx_nat, List.getElem?_eq_getElem (by omega), getD_at _ (by omega)]
        rcases he with he | ⟨k, k1, k2, k3, k4, k5⟩
        · subst he
          refine ⟨.cont ((i + 1 : Nat) : Int), ?_, m, by omega, i + 1, rfl, by omega, .inl rfl⟩
          rw [l_cpBefore_b1, if_pos (by simp; omega), e1, Option.bind_some, Option.bind_some, if_neg (by simp), i64_id (by omega) (by omega)]
          rfl
        · by_cases e : i = k
          · subst e
            refine ⟨.out false, ?_, rfl⟩
            rw [l_cpBefore_b1, if_pos (by simp; omega), e1, e2, Option.bind_some, Option.bind_some, k4, k5]
            rfl
          · refine ⟨.cont ((i + 1 : Nat) : Int), ?_, m, by omega, i + 1, rfl, by omega, .inr ⟨k, by omega, k2, k3, k4, k5⟩⟩
            rw [l_cpBefore_b1, if_pos (by simp; omega), e1, e2, Option.bind_some, Option.bind_some, k3 i (by omega), if_neg (by simp), i64_id (by omega) (by omega)]
            rfl)
    fu 12 0 ⟨0, rfl, rfl, h.imp id fun ⟨k, h1, h2⟩ => ⟨k, Nat.zero_le _, h1, h2⟩⟩ (by omega)
  rw [hj, Option.bind_some]
  cases j with
  | nx s => rfl
  | out t => simp only at hQ ⊢; rw [hQ]
end Go.L

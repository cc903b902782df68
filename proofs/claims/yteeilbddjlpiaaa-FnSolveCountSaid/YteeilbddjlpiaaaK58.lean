/- Satisfying, counting and the next solution: both sides. -/
import Derived.Test.YteeilbddjlpiaaaK57
namespace Go.L
open Go Go.E
set_option linter.unusedVariables false
set_option linter.unusedSimpArgs false
set_option maxRecDepth 100000
theorem s_true_eq {v : List Bool} (hv : v.length = 12) {l : Int} (hl : lit12 l) : s_l1True v l = some (trueL v l) := by
  obtain ⟨h0, h1, h2⟩ := hl
  unfold s_l1True trueL
  by_cases h : l > 0
  · rw [if_pos (by simpa using h), if_pos h, i64_id (by omega) (by omega), idx_v hv (by omega) (by omega)]; rfl
  · rw [if_neg (by simpa using h), if_neg h, i64_id (n := -l) (by omega) (by omega), i64_id (n := -l - 1) (by omega) (by omega), idx_v hv (by omega) (by omega)]; rfl
theorem s_evalC {v : List Bool} (hv : v.length = 12) {c : Con} (hc : okCon c = true) : s_l1Eval c v = some (evalC c v) := by
  obtain ⟨_, hl, ht, _, _⟩ := okCon_parts hc
  unfold s_l1Eval
  have := range_to (b := s_l1Eval_b1 v) (fun i => sumV v (c.terms.take i)) c.terms (fun i t hi => by
    have hm := List.mem_of_getElem? hi
    have hi' := (List.getElem?_eq_some_iff.1 hi).1
    have hk := ht t hm
    have hb := sumV_bound v (c.terms.take i) fun t h => ht t (List.mem_of_mem_take h)
    have hlen : (c.terms.take i).length ≤ 12 := by simp; omega
    have hco : 1 ≤ t.coef ∧ t.coef ≤ 1000 := by unfold okT at hk; simp at hk; omega
    rw [s_l1Eval_b1, s_true_eq hv (okT_lit12 hk), Option.bind_some, take_snoc1 hi, sumV_snoc]
    cases trueL v t.lit with
    | true => rw [if_pos rfl, if_pos rfl, i64_id (by omega) (by omega)]; rfl
    | false => rw [if_neg (by simp), if_neg (by simp)]; rfl)
  rw [show (0 : Int) = sumV v (c.terms.take 0) by simp [sumV, sumR], this, Option.bind_some, List.take_length]
  rfl
theorem s_all {v : List Bool} (hv : v.length = 12) {list : List Con} (hc : ∀ c ∈ list, okCon c = true) : s_l3All list v = some (allV list v) := by
  unfold s_l3All
  rw [range_all (fun c => evalC c v) false list fun i c hi => by
    rw [s_l3All_b1, s_evalC hv (hc c (List.mem_of_getElem? hi))]
    cases evalC c v <;> rfl, Option.bind_some]
  unfold allV
  cases list.all fun c => evalC c v <;> rfl
theorem i_all {v : List Bool} (hv : v.length = 12) {list : List Con} (hc : ∀ c ∈ list, okCon c = true) : i_satisfies list v = some (allV list v) := by
  unfold i_satisfies
  rw [i_contains list (q := fun c => !evalC c v) fun c h => by unfold i_satisfies_1; rw [i_cholds hv (hc c h)]; rfl, Option.bind_some, any_not_all, Bool.not_not]
  rfl
/-! counting -/
def countN (list : List Con) (n : Nat) : Nat := (List.range n).countP fun k => allV list (numV k)
def countP' (list : List Con) : Int := if okProb list then ((countN list 4096 : Nat) : Int) else 0
theorem countN_succ (list : List Con) (n : Nat) : countN list (n + 1) = countN list n + (if allV list (numV n) then 1 else 0) := by
  unfold countN
  rw [List.range_succ, List.countP_append, List.countP_singleton]
theorem countN_le (list : List Con) (n : Nat) : countN list n ≤ n := by
  unfold countN
  have := List.countP_le_length (p := fun k => allV list (numV k)) (l := List.range n)
  simpa using this
theorem count_body (list : List Con) (i : Nat) (hi : i < 4096) : ((if allV list (numV i) then some (i64 (((countN list i : Nat) : Int) + 1)) else some ((countN list i : Nat) : Int)) : Option Int) = some ((countN list (i + 1) : Nat) : Int) := by
  have := countN_le list i
  rw [countN_succ]
  cases allV list (numV i) with
  | true => rw [if_pos rfl, if_pos rfl, i64_id (by omega) (by omega)]; rfl
  | false => rw [if_neg (by simp), if_neg (by simp)]; rfl
theorem s_count (fu : Nat) (hf : FU ≤ fu) (list : List Con) (hl : ∀ c ∈ list, c.terms.length ≤ ML) : s_CountSolutions fu list = some (countP' list) := by
  unfold s_CountSolutions countP'
  rw [s_problem list hl, Option.bind_some]
  cases h : okProb list with
  | false => rfl
  | true =>
    have hc := (okProb_parts h).1
    rw [if_neg (by simp), cnt4096, Option.bind_some]
    have := count_to (b := s_CountSolutions_b1 fu list) (fun i => ((countN list i : Nat) : Int)) 4096 0 (fun i _ hi => by
      have hi : i < 4096 := by omega
      rw [s_CountSolutions_b1, s_values fu hf i hi, Option.bind_some, s_all (numV_len i) hc, Option.bind_some, count_body list i hi]
      rfl)
    rw [show countL (s_CountSolutions_b1 fu list) 4096 0 0 = some (.nx ((countN list (0 + 4096) : Nat) : Int)) from this]
    rfl
theorem i_count (list : List Con) : i_CountSolutions list = some (countP' list) := by
  unfold i_CountSolutions countP'
  rw [i_problem list, Option.bind_some]
  cases h : okProb list with
  | false => rfl
  | true =>
    have hc := (okProb_parts h).1
    rw [if_neg (by simp), cnt4096, Option.bind_some]
    have := count_to (b := i_CountSolutions_b1 list) (fun i => ((countN list i : Nat) : Int)) 4096 0 (fun i _ hi => by
      have hi : i < 4096 := by omega
      rw [i_CountSolutions_b1, i_num i hi, Option.bind_some, i_all (numV_len i) hc, Option.bind_some, count_body list i hi]
      rfl)
    rw [show countL (i_CountSolutions_b1 list) 4096 0 0 = some (.nx ((countN list (0 + 4096) : Nat) : Int)) from this]
    rfl
theorem count_pos {list : List Con} (hp : okProb list = true) {v : List Bool} (hv : v.length = 12) (ha : allV list v = true) : 0 < countP' list := by
  unfold countP'
  rw [if_pos hp]
  have : 0 < countN list 4096 := by
    unfold countN
    rw [List.countP_pos_iff]
    exact ⟨foldN v 0, List.mem_range.2 (numOf_lt hv), by rw [num_of hv]; exact ha⟩
  omega
theorem count_zero {list : List Con} (h : ∀ v : List Bool, v.length = 12 → allV list v = false) : countP' list = 0 := by
  unfold countP'
  split
  · have : countN list 4096 = 0 := by
      unfold countN
      rw [List.countP_eq_zero]
      intro n _
      rw [h _ (numV_len n)]; simp
    omega
  · rfl
end Go.L

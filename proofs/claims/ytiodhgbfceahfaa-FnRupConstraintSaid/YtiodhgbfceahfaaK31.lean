/- Rules: what both sides compute, plainly; each is valid and sound. -/
import Derived.Test.YtiodhgbfceahfaaK29
namespace Go.L
open Go Go.E
set_option linter.unusedVariables false
set_option linter.unusedSimpArgs false
set_option maxRecDepth 100000
def zeroC : Con := ⟨[], 0⟩
/-! weakening -/
def isV (x : Int) (t : Term) : Bool := absI t.lit == x
def wS (x : Int) (ts : List Term) : Int := sumR (fun t => if isV x t then t.coef else 0) ts
def weakC (c : Con) (x : Int) : Con × Bool :=
  if okCon c && (decide (1 ≤ x) && decide (x ≤ 12)) then (⟨c.terms.filter (fun t => !isV x t), max 0 (c.bound - wS x c.terms)⟩, true) else (zeroC, false)
theorem sumR_snoc (f : Term → Int) (ts : List Term) (t : Term) : sumR f (ts ++ [t]) = sumR f ts + f t := by
  induction ts with
  | nil => simp [sumR]
  | cons u ts ih => rw [List.cons_append, sumR, ih, sumR]; omega
theorem sumR_bound {f : Term → Int} : ∀ (ts : List Term), (∀ t ∈ ts, 0 ≤ f t ∧ f t ≤ 1000) → 0 ≤ sumR f ts ∧ sumR f ts ≤ 1000 * ts.length
  | [], _ => by simp [sumR]
  | t :: ts, h => by
    have h1 := h t (by simp)
    have := sumR_bound (f := f) ts fun u hu => h u (by simp [hu])
    simp only [sumR, List.length_cons]; omega
theorem wS_bound (x : Int) (ts : List Term) (h : ∀ t ∈ ts, okT t = true) : 0 ≤ wS x ts ∧ wS x ts ≤ 1000 * ts.length :=
  sumR_bound ts fun t ht => by
    have := okT_lit (h t ht)
    show 0 ≤ (if isV x t then t.coef else 0) ∧ (if isV x t then t.coef else 0) ≤ 1000
    split <;> omega
theorem wS_snoc (x : Int) (ts : List Term) (t : Term) : wS x (ts ++ [t]) = wS x ts + (if isV x t then t.coef else 0) := sumR_snoc _ _ _
theorem take_snoc {α : Type} {xs : List α} {i : Nat} {x : α} (h : xs[i]? = some x) : xs.take (i + 1) = xs.take i ++ [x] := by rw [List.take_add_one, h]; rfl
theorem s_weak (c : Con) (x : Int) (hl : c.terms.length ≤ ML) : s_WeakenConstraint c x = some (weakC c x) := by
  unfold s_WeakenConstraint weakC
  rw [s_valid c hl, Option.bind_some]
  cases hc : okCon c with
  | false => rfl
  | true =>
    by_cases hx : 1 ≤ x ∧ x ≤ 12
    · have e : ((!true || decide (x < 1)) || decide (x > 12)) = false := by simp; omega
      have e' : (true && (decide (1 ≤ x) && decide (x ≤ 12))) = true := by simp [hx]
      rw [e, e', if_neg (by simp), if_pos rfl]
      obtain ⟨_, h2, h3, h4, h5⟩ := okCon_parts hc
      have := range_to (b := s_WeakenConstraint_b1 x) (fun i => ((c.terms.take i).filter (fun t => !isV x t), c.bound - wS x (c.terms.take i))) c.terms (by
        intro i t ht
        have hk := h3 t (List.mem_of_getElem? ht)
        obtain ⟨q0, q1, q2, q3, q4⟩ := okT_lit hk
        have hi := (List.getElem?_eq_some_iff.1 ht).1
        have hb := wS_bound x (c.terms.take i) fun u hu => h3 u (List.mem_of_mem_take hu)
        have hl : (c.terms.take i).length ≤ 12 := by simp; omega
        have hfl := List.length_filter_le (fun t : Term => !isV x t) (c.terms.take i)
        rw [s_WeakenConstraint_b1, s_abs t.lit (by omega) (by omega), Option.bind_some, take_snoc ht, List.filter_append, wS_snoc]
        show ((if isV x t then _ else _ : Option (List Term × Int)).bind _) = _
        cases he : isV x t with
        | true =>
          rw [i64_id (by omega) (by omega)]
          simp [he]; omega
        | false =>
          rw [app_le (by simp; omega)]
          simp [he])
      have e0 : (([] : List Term), c.bound) = ((c.terms.take 0).filter (fun t => !isV x t), c.bound - wS x (c.terms.take 0)) := by simp [wS, sumR]
      rw [e0, this]
      simp only [Option.bind_some, List.take_length]
      by_cases hn : c.bound - wS x c.terms < 0
      · simp only [hn, decide_true, if_true, Option.bind_some, Int.max_eq_left (Int.le_of_lt hn)]
      · simp only [hn, decide_false, Bool.false_eq_true, if_false, Option.bind_some, Int.max_eq_right (Int.not_lt.1 hn)]
    · have e : ((!true || decide (x < 1)) || decide (x > 12)) = true := by simp; omega
      have e' : (true && (decide (1 ≤ x) && decide (x ≤ 12))) = false := by simp; omega
      rw [e, e']
      rfl
end Go.L

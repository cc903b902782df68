/- The reference's and the program's checks of models agree. -/
import Derived.Test.YteojddfaiomfmaaL3
namespace Go.L
open Go Go.E
set_option linter.unusedVariables false

section
variable {α τ : Type}
def allFrom (q : Nat → α → Bool) : List α → Nat → Bool
  | [], _ => true
  | x :: xs, i => q i x && allFrom q xs (i + 1)
theorem allFrom_drop (q : Nat → α → Bool) (xs : List α) (i : Nat) (h : i < xs.length) : allFrom q (xs.drop i) i = (q i xs[i] && allFrom q (xs.drop (i + 1)) (i + 1)) := by
  rw [List.drop_eq_getElem_cons h]; rfl
theorem allFrom_const (q : α → Bool) : ∀ (xs : List α) (i : Nat), allFrom (fun _ x => q x) xs i = xs.all q
  | [], _ => rfl
  | x :: xs, i => by rw [allFrom, allFrom_const q xs, List.all_cons]
/-- a loop that stops at the first element that fails -/
theorem all_while (q : Nat → α → Bool) (xs : List α) (hx : xs.length ≤ ML) (t : τ) (b : Nat → Int → Option (Lo Int τ))
    (hb : ∀ (i : Nat) (x : α), i < xs.length → xs[i]? = some x → Ev (fun fu => b fu (i : Int)) (if q i x then .cont (((i + 1 : Nat) : Int)) else .out t))
    (he : ∀ fu, b fu (xs.length : Int) = some (.brk (xs.length : Int))) : EvW b 0 (if allFrom q xs 0 then .nx (xs.length : Int) else .out t) := by
  obtain ⟨j, hj, hQ⟩ := evw_loop (b := b) (fun n s => ∃ i : Nat, n = xs.length - i ∧ i ≤ xs.length ∧ s = (i : Int) ∧ allFrom q (xs.drop i) i = allFrom q xs 0)
    (fun j => j = (if allFrom q xs 0 then .nx (xs.length : Int) else .out t)) (by
      rintro n _ ⟨i, rfl, hi, rfl, ha⟩
      rcases Nat.lt_or_ge i xs.length with hlt | hge
      · have h1 := hb i _ hlt (List.getElem?_eq_getElem hlt)
        rw [allFrom_drop q xs i hlt] at ha
        cases hq : q i xs[i] with
        | true =>
          rw [hq] at h1 ha
          exact ⟨_, h1, _, by omega, i + 1, rfl, hlt, rfl, by simpa using ha⟩
        | false =>
          rw [hq] at h1 ha
          refine ⟨_, h1, ?_⟩
          show Jn.out t = _
          rw [← ha]; rfl
      · obtain rfl : i = xs.length := by omega
        refine ⟨.brk (xs.length : Int), Ev.of fun fu => he fu, ?_⟩
        rw [← ha]; simp [allFrom]) xs.length 0 ⟨0, by omega, by omega, rfl, by simp⟩
  subst hQ
  exact hj
theorem all_range (q : Nat → α → Bool) (t : τ) (b : Nat → α → Unit → Option (Lo Unit τ)) (xs0 : List α)
    (hb : ∀ (i : Nat) (x : α), xs0[i]? = some x → b i x () = some (if q i x then .cont () else .out t)) : ∀ (xs : List α) (i : Nat), xs0.drop i = xs → rangeL b xs i () = some (if allFrom q xs i then .nx () else .out t)
  | [], i, _ => rfl
  | x :: xs, i, h => by
    have hx : xs0[i]? = some x := by have := List.getElem?_drop (xs := xs0) (i := i) (j := 0); rw [h] at this; simpa using this.symm
    show (b i x ()).bind _ = _
    rw [hb i x hx]
    cases hq : q i x with
    | true =>
      show rangeL b xs (i + 1) () = _
      rw [all_range q t b xs0 hb xs (i + 1) (drop_next h)]
      simp [allFrom, hq]
    | false => simp [allFrom, hq]
end
theorem within_eq (n lo hi : Int) : i_within n lo hi = some (decide (lo ≤ n) && decide (n ≤ hi)) := rfl
/-! the library's searches -/
theorem idx_range {α : Type} (q : α → Bool) (b : Nat → α → Unit → Option (Lo Unit Int)) (hb : ∀ i x, b i x () = some (if q x then .out (i : Int) else .cont ())) :
    ∀ (xs : List α) (i : Nat), ∃ j, rangeL b xs i () = some j ∧ (match j with | .nx _ => xs.any q = false | .out t => 0 ≤ t ∧ xs.any q = true)
  | [], i => ⟨_, rfl, rfl⟩
  | x :: xs, i => by
    show ∃ j, (b i x ()).bind _ = some j ∧ _
    rw [hb i x]
    cases hq : q x with
    | true => exact ⟨.out (i : Int), rfl, by simp [hq]⟩
    | false =>
      obtain ⟨j, h1, h2⟩ := idx_range q b hb xs (i + 1)
      refine ⟨j, h1, ?_⟩
      cases j <;> simpa [hq] using h2
theorem containsInt (s : List Int) (v : Int) : slices_Contains_int s v = some (s.contains v) := by
  obtain ⟨j, h1, h2⟩ := idx_range (fun x => v == x) (slices_Index_int_b1 v) (fun i x => by show (if _ then _ else _) = _; cases v == x <;> rfl) s 0
  unfold slices_Contains_int slices_Index_int
  rw [h1]
  have hc : s.contains v = s.any (fun x => v == x) := by
    rw [Bool.eq_iff_iff]; simp
  rw [hc]
  cases j with
  | nx u => simp only at h2; rw [h2]; rfl
  | out t => simp only at h2; rw [h2.2]; simp [h2.1]
theorem containsFuncInt (s : List Int) (p : Int → Option Bool) (q : Int → Bool) (hp : ∀ x, p x = some (q x)) : slices_ContainsFunc_int s p = some (s.any q) := by
  obtain ⟨j, h1, h2⟩ := idx_range q (slices_IndexFunc_int_b1 p) (fun i x => by show (p x).bind _ = _; rw [hp]; show (if _ then _ else _) = _; cases q x <;> rfl) s 0
  unfold slices_ContainsFunc_int slices_IndexFunc_int
  rw [h1]
  cases j with
  | nx u => simp only at h2; rw [h2]; rfl
  | out t => simp only at h2; rw [h2.2]; simp [h2.1]
theorem containsFuncSint (s : List (List Int)) (p : List Int → Option Bool) (q : List Int → Bool) (hp : ∀ x, p x = some (q x)) : slices_ContainsFunc_Sint s p = some (s.any q) := by
  obtain ⟨j, h1, h2⟩ := idx_range q (slices_IndexFunc_Sint_b1 p) (fun i x => by show (p x).bind _ = _; rw [hp]; show (if _ then _ else _) = _; cases q x <;> rfl) s 0
  unfold slices_ContainsFunc_Sint slices_IndexFunc_Sint
  rw [h1]
  cases j with
  | nx u => simp only at h2; rw [h2]; rfl
  | out t => simp only at h2; rw [h2.2]; simp [h2.1]
theorem containsFuncRule (s : List Rule) (p : Rule → Option Bool) (q : Rule → Bool) (hp : ∀ x ∈ s, p x = some (q x)) : slices_ContainsFunc_implRule s p = some (s.any q) := by
  have h : ∃ j, rangeL (slices_IndexFunc_implRule_b1 p) s 0 () = some j ∧ (match j with | .nx _ => s.any q = false | .out t => 0 ≤ t ∧ s.any q = true) := by
    generalize 0 = i
    induction s generalizing i with
    | nil => exact ⟨_, rfl, rfl⟩
    | cons x xs ih =>
      show ∃ j, ((p x).bind _ : Option (Lo Unit Int)).bind _ = some j ∧ _
      rw [hp x (by simp)]
      cases hq : q x with
      | true => exact ⟨.out (i : Int), rfl, by simp [hq]⟩
      | false =>
        obtain ⟨j, h1, h2⟩ := ih (fun y hy => hp y (by simp [hy])) (i + 1)
        refine ⟨j, h1, ?_⟩
        cases j <;> simpa [hq] using h2
  obtain ⟨j, h1, h2⟩ := h
  unfold slices_ContainsFunc_implRule slices_IndexFunc_implRule
  rw [h1]
  cases j with
  | nx u => simp only at h2; rw [h2]; rfl
  | out t => simp only at h2; rw [h2.2]; simp [h2.1]
end Go.L

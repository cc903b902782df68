/- Laws of the lifted loops. -/
import Derived.Test.YteeilbddjlpiaaaG10
namespace Go.L
open Go Go.E
set_option linter.unusedVariables false
/-- fuel that serves all while loops -/
def FU : Nat := 1000000
def ML : Nat := 9223372036854775807
section
variable {α β σ τ : Type}
theorem idx_nat (xs : List α) (i : Nat) : idx xs (i : Int) = xs[i]? := by
  unfold idx; rw [if_pos (Int.natCast_nonneg i), Int.toNat_natCast]
theorem mkN_le {n : Nat} (x : α) (h : n ≤ 4294967296) : mkN (n : Int) x = some (List.replicate n x) := by
  unfold mkN
  rw [if_pos (by omega), Int.toNat_natCast]
theorem app_le {xs ys : List α} (h : xs.length + ys.length ≤ 4294967296) : app xs ys = some (xs ++ ys) := if_pos h
theorem cntF_of {s : Nat} {e : Int} (h : e ≤ 4294967296) (hs : s ≤ 4294967296) : cntF s e = some (e - s).toNat := if_pos ⟨h, hs⟩
/-- a loop over a list: the state is known at each index -/
theorem range_to {b : Nat → α → σ → Option (Lo σ τ)} (F : Nat → σ) (xs0 : List α) (h : ∀ i x, xs0[i]? = some x → b i x (F i) = some (.cont (F (i + 1)))) :
    rangeL b xs0 0 (F 0) = some (.nx (F xs0.length)) := by
  have key : ∀ (xs : List α) (i : Nat), xs0.drop i = xs → i ≤ xs0.length → rangeL b xs i (F i) = some (.nx (F xs0.length)) := by
    intro xs
    induction xs with
    | nil =>
      intro i hd hi
      rw [List.drop_eq_nil_iff] at hd
      obtain rfl : i = xs0.length := by omega
      rfl
    | cons x xs ih =>
      intro i hd hi
      have hx := drop_idx hd
      rw [idx_nat] at hx
      show (b i x (F i)).bind _ = _
      rw [h i x hx]
      exact ih (i + 1) (drop_next hd) (List.getElem?_eq_some_iff.1 hx).1
  exact key xs0 0 rfl (Nat.zero_le _)
/-- a counting loop: the state is known at each number -/
theorem count_to {b : Nat → σ → Option (Lo σ τ)} (F : Nat → σ) : ∀ (n s : Nat), (∀ i, s ≤ i → i < s + n → b i (F i) = some (.cont (F (i + 1)))) → countL b n s (F s) = some (.nx (F (s + n)))
  | 0, s, _ => rfl
  | n + 1, s, h => by
    show (b s (F s)).bind _ = _
    rw [h s (Nat.le_refl _) (by omega)]
    show countL b n (s + 1) (F (s + 1)) = _
    rw [count_to F n (s + 1) fun i h1 h2 => h i (by omega) (by omega)]
    congr 3; omega
/-- a loop over a list, by an invariant -/
theorem range_inv {b : Nat → α → σ → Option (Lo σ τ)} (xs0 : List α) (I : Nat → σ → Prop) (Q : Jn σ τ → Prop) (h0 : ∀ s, I xs0.length s → Q (.nx s))
    (h : ∀ i x s, xs0[i]? = some x → I i s → ∃ o, b i x s = some o ∧ (match o with | .cont s' => I (i + 1) s' | .brk s' => Q (.nx s') | .out t => Q (.out t))) (s : σ) (hs : I 0 s) :
    ∃ j, rangeL b xs0 0 s = some j ∧ Q j := by
  have key : ∀ (xs : List α) (i : Nat) (s : σ), xs0.drop i = xs → i ≤ xs0.length → I i s → ∃ j, rangeL b xs i s = some j ∧ Q j := by
    intro xs
    induction xs with
    | nil =>
      intro i s hd hi hI
      rw [List.drop_eq_nil_iff] at hd
      obtain rfl : i = xs0.length := by omega
      exact ⟨_, rfl, h0 s hI⟩
    | cons x xs ih =>
      intro i s hd hi hI
      have hx := drop_idx hd
      rw [idx_nat] at hx
      obtain ⟨o, hb, ho⟩ := h i x s hx hI
      have hl := (List.getElem?_eq_some_iff.1 hx).1
      cases o with
      | cont s' =>
        obtain ⟨j, hj, hQ⟩ := ih (i + 1) s' (drop_next hd) hl ho
        exact ⟨j, by show (b i x s).bind _ = _; rw [hb]; exact hj, hQ⟩
      | brk s' => exact ⟨_, by show (b i x s).bind _ = _; rw [hb]; rfl, ho⟩
      | out t => exact ⟨_, by show (b i x s).bind _ = _; rw [hb]; rfl, ho⟩
  exact key xs0 0 s rfl (Nat.zero_le _) hs
/-- a while loop, by an invariant with a number that falls -/
theorem while_inv {b : σ → Option (Lo σ τ)} (I : Nat → σ → Prop) (Q : Jn σ τ → Prop)
    (h : ∀ n s, I n s → ∃ o, b s = some o ∧ (match o with | .cont s' => ∃ m, m < n ∧ I m s' | .brk s' => Q (.nx s') | .out t => Q (.out t))) :
    ∀ k n s, I n s → n < k → ∃ j, whileL b k s = some j ∧ Q j := by
  intro k
  induction k with
  | zero => intro n s _ h; omega
  | succ k ih =>
    intro n s hI hk
    obtain ⟨o, hb, ho⟩ := h n s hI
    cases o with
    | cont s' =>
      obtain ⟨m, hm, hI'⟩ := ho
      obtain ⟨j, hj, hQ⟩ := ih m s' hI' (by omega)
      exact ⟨j, by show (b s).bind _ = _; rw [hb]; exact hj, hQ⟩
    | brk s' => exact ⟨_, by show (b s).bind _ = _; rw [hb]; rfl, ho⟩
    | out t => exact ⟨_, by show (b s).bind _ = _; rw [hb]; rfl, ho⟩
def allFrom (q : Nat → α → Bool) : List α → Nat → Bool
  | [], _ => true
  | x :: xs, i => q i x && allFrom q xs (i + 1)
theorem allFrom_const (q : α → Bool) : ∀ (xs : List α) (i : Nat), allFrom (fun _ x => q x) xs i = xs.all q
  | [], _ => rfl
  | x :: xs, i => by rw [allFrom, allFrom_const q xs, List.all_cons]
theorem range_allI (q : Nat → α → Bool) (t : τ) {b : Nat → α → Unit → Option (Lo Unit τ)} (xs0 : List α)
    (hb : ∀ (i : Nat) (x : α), xs0[i]? = some x → b i x () = some (if q i x then .cont () else .out t)) : rangeL b xs0 0 () = some (if allFrom q xs0 0 then .nx () else .out t) := by
  have key : ∀ (xs : List α) (i : Nat), xs0.drop i = xs → rangeL b xs i () = some (if allFrom q xs i then .nx () else .out t) := by
    intro xs
    induction xs with
    | nil => intro i _; rfl
    | cons x xs ih =>
      intro i h
      have hx := drop_idx h
      rw [idx_nat] at hx
      show (b i x ()).bind _ = _
      rw [hb i x hx]
      cases hq : q i x with
      | true => show rangeL b xs (i + 1) () = _; rw [ih (i + 1) (drop_next h)]; simp [allFrom, hq]
      | false => simp [allFrom, hq]
  exact key xs0 0 rfl
/-- a loop that stops at the first element that fails -/
theorem range_all (q : α → Bool) (t : τ) {b : Nat → α → Unit → Option (Lo Unit τ)} (xs0 : List α)
    (hb : ∀ (i : Nat) (x : α), xs0[i]? = some x → b i x () = some (if q x then .cont () else .out t)) : rangeL b xs0 0 () = some (if xs0.all q then .nx () else .out t) := by
  rw [range_allI (fun _ => q) t xs0 hb, allFrom_const]
theorem any_not_all (q : α → Bool) (xs : List α) : xs.any (fun x => !q x) = !xs.all q := by
  induction xs with
  | nil => rfl
  | cons x xs ih => rw [List.any_cons, List.all_cons, ih]; cases q x <;> cases xs.all q <;> rfl
/-- a list is built, element by element -/
theorem range_map {b : Nat → α → List β → Option (Lo (List β) τ)} (f : α → β) (xs0 : List α) (h : ∀ i x out, xs0[i]? = some x → out.length = i → b i x out = some (.cont (out ++ [f x]))) :
    rangeL b xs0 0 [] = some (.nx (xs0.map f)) := by
  have := range_to (b := b) (fun i => (xs0.take i).map f) xs0 (by
    intro i x hx
    have hi := (List.getElem?_eq_some_iff.1 hx).1
    rw [h i x _ hx (by simp; omega)]
    rw [List.take_add_one, hx]
    simp)
  simpa using this
theorem range_index {q : α → Bool} {b : Nat → α → Unit → Option (Lo Unit Int)} (xs0 : List α) (hb : ∀ i x, xs0[i]? = some x → b i x () = some (if q x then .out (i : Int) else .cont ())) :
    ∃ j, rangeL b xs0 0 () = some j ∧ (match j with | .nx _ => xs0.any q = false | .out t => 0 ≤ t ∧ xs0.any q = true) := by
  refine range_inv xs0 (fun i _ => (xs0.take i).any q = false) _ ?_ ?_ () (by simp)
  · intro s h; simpa using h
  · intro i x s hx hI
    have hi := (List.getElem?_eq_some_iff.1 hx).1
    refine ⟨_, hb i x hx, ?_⟩
    cases hq : q x with
    | true => exact ⟨by omega, List.any_eq_true.2 ⟨x, List.mem_of_getElem? hx, hq⟩⟩
    | false =>
      show (xs0.take (i + 1)).any q = false
      rw [List.take_add_one, hx, List.any_append, hI]
      simp [hq]
end
end Go.L

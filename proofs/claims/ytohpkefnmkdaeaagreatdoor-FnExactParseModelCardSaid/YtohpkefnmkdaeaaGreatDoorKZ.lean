/- The plain law: what the functions compute, and that it answers as the statement says. -/
import Derived.Test.YtohpkefnmkdaeaaGreatDoorG10
import Derived.Test.YtohpkefnmkdaeaaGreatDoorD1
import Derived.Lib.ItoaMem
import Derived.Lib.SplitLaws
namespace Go.L
open Go Go.E
set_option linter.unusedVariables false
def FU : Nat := 1000000
def ML : Nat := 9223372036854775807
section
variable {α β σ τ : Type}
theorem idx_nat (xs : List α) (i : Nat) : idx xs (i : Int) = xs[i]? := by
  unfold idx; rw [if_pos (Int.natCast_nonneg i), Int.toNat_natCast]
theorem idx_lt {xs : List α} {i : Nat} (h : i < xs.length) : idx xs (i : Int) = some xs[i] := by rw [idx_nat, List.getElem?_eq_getElem h]
theorem idx_get {xs : List α} {k : Int} (h0 : 0 ≤ k) (h : k.toNat < xs.length) : idx xs k = some xs[k.toNat] := by
  unfold idx; rw [if_pos h0, List.getElem?_eq_getElem h]
theorem sl_pre {xs : List α} {i : Nat} (h : i ≤ xs.length) : sl xs 0 (i : Int) = some (xs.take i) := by
  unfold sl
  rw [if_pos (by omega), Int.toNat_natCast]
  rfl
theorem app_le {xs ys : List α} (h : xs.length + ys.length ≤ 4294967296) : app xs ys = some (xs ++ ys) := if_pos h
theorem cntF_nat {n : Nat} (h : n ≤ 4294967296) : cntF 0 (n : Int) = some n := by
  unfold cntF
  rw [if_pos (by omega)]
  congr 1
theorem count_range (b : Nat → σ → Option (Lo σ τ)) : ∀ (n i j : Nat) (s : σ), countL b n i s = rangeL (fun _ k s => b k s) (List.range' i n) j s
  | 0, i, j, s => rfl
  | n + 1, i, j, s => by
    show (b i s).bind _ = rangeL _ (List.range' i (n + 1)) j s
    rw [List.range'_succ]
    show _ = (b i s).bind _
    congr 1
    funext o
    cases o with
    | cont s' => exact count_range b n (i + 1) (j + 1) s'
    | brk s' => rfl
    | out t => rfl
theorem range_to {b : Nat → α → σ → Option (Lo σ τ)} (F : Nat → σ) (xs0 : List α) (h : ∀ i x, xs0[i]? = some x → b i x (F i) = some (.cont (F (i + 1)))) :
    rangeL b xs0 0 (F 0) = some (.nx (F xs0.length)) := by
  have key : ∀ (xs : List α) (i : Nat), xs0.drop i = xs → i ≤ xs0.length → rangeL b xs i (F i) = some (.nx (F xs0.length)) := by
    intro xs
    induction xs with
    | nil =>
      intro i hd hi
      rw [List.drop_eq_nil_iff] at hd
      obtain rfl : i = xs0.length := by omega
      rfl
    | cons x xs ih =>
      intro i hd hi
      have hx := drop_idx hd
      rw [idx_nat] at hx
      show (b i x (F i)).bind _ = _
      rw [h i x hx]
      exact ih (i + 1) (drop_next hd) (List.getElem?_eq_some_iff.1 hx).1
  exact key xs0 0 rfl (Nat.zero_le _)
theorem count_to {b : Nat → σ → Option (Lo σ τ)} (F : Nat → σ) : ∀ (n s : Nat), (∀ i, s ≤ i → i < s + n → b i (F i) = some (.cont (F (i + 1)))) → countL b n s (F s) = some (.nx (F (s + n)))
  | 0, s, _ => rfl
  | n + 1, s, h => by
    show (b s (F s)).bind _ = _
    rw [h s (Nat.le_refl _) (by omega)]
    show countL b n (s + 1) (F (s + 1)) = _
    rw [count_to F n (s + 1) fun i h1 h2 => h i (by omega) (by omega)]
    congr 3; omega
theorem range_inv {b : Nat → α → σ → Option (Lo σ τ)} (xs0 : List α) (I : Nat → σ → Prop) (Q : Jn σ τ → Prop) (h0 : ∀ s, I xs0.length s → Q (.nx s))
    (h : ∀ i x s, xs0[i]? = some x → I i s → ∃ o, b i x s = some o ∧ (match o with | .cont s' => I (i + 1) s' | .brk s' => Q (.nx s') | .out t => Q (.out t))) (s : σ) (hs : I 0 s) :
    ∃ j, rangeL b xs0 0 s = some j ∧ Q j := by
  have key : ∀ (xs : List α) (i : Nat) (s : σ), xs0.drop i = xs → i ≤ xs0.length → I i s → ∃ j, rangeL b xs i s = some j ∧ Q j := by
    intro xs
    induction xs with
    | nil =>
      intro i s hd hi hI
      rw [List.drop_eq_nil_iff] at hd
      obtain rfl : i = xs0.length := by omega
      exact ⟨_, rfl, h0 s hI⟩
    | cons x xs ih =>
      intro i s hd hi hI
      have hx := drop_idx hd
      rw [idx_nat] at hx
      obtain ⟨o, hb, ho⟩ := h i x s hx hI
      have hl := (List.getElem?_eq_some_iff.1 hx).1
      cases o with
      | cont s' =>
        obtain ⟨j, hj, hQ⟩ := ih (i + 1) s' (drop_next hd) hl ho
        exact ⟨j, by show (b i x s).bind _ = _; rw [hb]; exact hj, hQ⟩
      | brk s' => exact ⟨_, by show (b i x s).bind _ = _; rw [hb]; rfl, ho⟩
      | out t => exact ⟨_, by show (b i x s).bind _ = _; rw [hb]; rfl, ho⟩
  exact key xs0 0 s rfl (Nat.zero_le _) hs
theorem count_inv {b : Nat → σ → Option (Lo σ τ)} (I : Nat → σ → Prop) (Q : Jn σ τ → Prop) : ∀ (n k : Nat) (h0 : ∀ s, I (k + n) s → Q (.nx s))
    (h : ∀ i s, k ≤ i → i < k + n → I i s → ∃ o, b i s = some o ∧ (match o with | .cont s' => I (i + 1) s' | .brk s' => Q (.nx s') | .out t => Q (.out t))) (s : σ) (hs : I k s),
    ∃ j, countL b n k s = some j ∧ Q j
  | 0, k, h0, h, s, hs => ⟨_, rfl, h0 s hs⟩
  | n + 1, k, h0, h, s, hs => by
    obtain ⟨o, hb, ho⟩ := h k s (Nat.le_refl _) (by omega) hs
    cases o with
    | cont s' =>
      obtain ⟨j, hj, hQ⟩ := count_inv I Q n (k + 1) (fun s hs => h0 s (by rwa [show k + (n + 1) = k + 1 + n from by omega])) (fun i s h1 h2 => h i s (by omega) (by omega)) s' ho
      exact ⟨j, by show (b k s).bind _ = _; rw [hb]; exact hj, hQ⟩
    | brk s' => exact ⟨_, by show (b k s).bind _ = _; rw [hb]; rfl, ho⟩
    | out t => exact ⟨_, by show (b k s).bind _ = _; rw [hb]; rfl, ho⟩
theorem while_inv {b : σ → Option (Lo σ τ)} (I : Nat → σ → Prop) (Q : Jn σ τ → Prop)
    (h : ∀ n s, I n s → ∃ o, b s = some o ∧ (match o with | .cont s' => ∃ m, m < n ∧ I m s' | .brk s' => Q (.nx s') | .out t => Q (.out t))) :
    ∀ k n s, I n s → n < k → ∃ j, whileL b k s = some j ∧ Q j := by
  intro k
  induction k with
  | zero => intro n s _ h; omega
  | succ k ih =>
    intro n s hI hk
    obtain ⟨o, hb, ho⟩ := h n s hI
    cases o with
    | cont s' =>
      obtain ⟨m, hm, hI'⟩ := ho
      obtain ⟨j, hj, hQ⟩ := ih m s' hI' (by omega)
      exact ⟨j, by show (b s).bind _ = _; rw [hb]; exact hj, hQ⟩
    | brk s' => exact ⟨_, by show (b s).bind _ = _; rw [hb]; rfl, ho⟩
    | out t => exact ⟨_, by show (b s).bind _ = _; rw [hb]; rfl, ho⟩
def allFrom (q : Nat → α → Bool) : List α → Nat → Bool
  | [], _ => true
  | x :: xs, i => q i x && allFrom q xs (i + 1)
theorem allFrom_const (q : α → Bool) : ∀ (xs : List α) (i : Nat), allFrom (fun _ x => q x) xs i = xs.all q
  | [], _ => rfl
  | x :: xs, i => by rw [allFrom, allFrom_const q xs, List.all_cons]
theorem allFrom_iff (q : Nat → α → Bool) : ∀ (xs : List α) (k : Nat), allFrom q xs k = true ↔ ∀ i x, xs[i]? = some x → q (k + i) x = true
  | [], k => by simp [allFrom]
  | x :: xs, k => by
    rw [allFrom, Bool.and_eq_true, allFrom_iff q xs (k + 1)]
    constructor
    · rintro ⟨h0, h⟩ i y hy
      cases i with
      | zero => simp at hy; subst hy; simpa using h0
      | succ i => have := h i y (by simpa using hy); rwa [show k + 1 + i = k + (i + 1) from by omega] at this
    · intro h
      exact ⟨by simpa using h 0 x rfl, fun i y hy => by have := h (i + 1) y (by simpa using hy); rwa [show k + (i + 1) = k + 1 + i from by omega] at this⟩
theorem range_allI (q : Nat → α → Bool) (t : τ) {b : Nat → α → Unit → Option (Lo Unit τ)} (xs0 : List α)
    (hb : ∀ (i : Nat) (x : α), xs0[i]? = some x → b i x () = some (if q i x then .cont () else .out t)) : rangeL b xs0 0 () = some (if allFrom q xs0 0 then .nx () else .out t) := by
  have key : ∀ (xs : List α) (i : Nat), xs0.drop i = xs → rangeL b xs i () = some (if allFrom q xs i then .nx () else .out t) := by
    intro xs
    induction xs with
    | nil => intro i _; rfl
    | cons x xs ih =>
      intro i h
      have hx := drop_idx h
      rw [idx_nat] at hx
      show (b i x ()).bind _ = _
      rw [hb i x hx]
      cases hq : q i x with
      | true => show rangeL b xs (i + 1) () = _; rw [ih (i + 1) (drop_next h)]; simp [allFrom, hq]
      | false => simp [allFrom, hq]
  exact key xs0 0 rfl
theorem range_all (q : α → Bool) (t : τ) {b : Nat → α → Unit → Option (Lo Unit τ)} (xs0 : List α)
    (hb : ∀ (i : Nat) (x : α), xs0[i]? = some x → b i x () = some (if q x then .cont () else .out t)) : rangeL b xs0 0 () = some (if xs0.all q then .nx () else .out t) := by
  rw [range_allI (fun _ => q) t xs0 hb, allFrom_const]
theorem any_not_all (q : α → Bool) (xs : List α) : xs.any (fun x => !q x) = !xs.all q := by
  induction xs with
  | nil => rfl
  | cons x xs ih => rw [List.any_cons, List.all_cons, ih]; cases q x <;> cases xs.all q <;> rfl
theorem range_map {b : Nat → α → List β → Option (Lo (List β) τ)} (f : α → β) (xs0 : List α) (h : ∀ i x out, xs0[i]? = some x → out.length = i → b i x out = some (.cont (out ++ [f x]))) :
    rangeL b xs0 0 [] = some (.nx (xs0.map f)) := by
  have := range_to (b := b) (fun i => (xs0.take i).map f) xs0 (by
    intro i x hx
    have hi := (List.getElem?_eq_some_iff.1 hx).1
    rw [h i x _ hx (by simp; omega)]
    rw [List.take_add_one, hx]
    simp)
  simpa using this
theorem range_index {q : α → Bool} {b : Nat → α → Unit → Option (Lo Unit Int)} (xs0 : List α) (hb : ∀ i x, xs0[i]? = some x → b i x () = some (if q x then .out (i : Int) else .cont ())) :
    ∃ j, rangeL b xs0 0 () = some j ∧ (match j with | .nx _ => xs0.any q = false | .out t => 0 ≤ t ∧ xs0.any q = true) := by
  refine range_inv xs0 (fun i _ => (xs0.take i).any q = false) _ ?_ ?_ () (by simp)
  · intro s h; simpa using h
  · intro i x s hx hI
    have hi := (List.getElem?_eq_some_iff.1 hx).1
    refine ⟨_, hb i x hx, ?_⟩
    cases hq : q x with
    | true => exact ⟨by omega, List.any_eq_true.2 ⟨x, List.mem_of_getElem? hx, hq⟩⟩
    | false =>
      show (xs0.take (i + 1)).any q = false
      rw [List.take_add_one, hx, List.any_append, hI]
      simp [hq]
end
end Go.L
namespace Go.L
open Go Go.E
set_option linter.unusedVariables false
theorem same_list {α : Type} {one : α → α → Option Bool} {xs : List α} {b : Nat → α → Unit → Option (Lo Unit Bool)} {all : Option Bool} {k : Jn Unit Bool → Option Bool}
    (e : all = if ((xs.length : Int) != (xs.length : Int)) then (some false) else ((rangeL b xs 0 ()).bind k)) (hk : k (.nx ()) = some true)
    (hb : ∀ i x, xs[i]? = some x → b i x () = (one x x).bind fun y => if (!y) then some (.out false) else some (.cont ())) (hone : ∀ x ∈ xs, one x x = some true) : all = some true := by
  rw [e, if_neg (by simp)]
  have h := range_all (fun _ => true) false (b := b) xs (fun i x hx => by rw [hb i x hx, hone x (List.mem_of_getElem? hx)]; rfl)
  rw [h]
  simp [hk]
theorem idx_self {α : Type} {xs : List α} {i : Nat} {x : α} (h : xs[i]? = some x) : idx xs (i : Int) = some x := by rw [idx_nat, h]
theorem eqIntS (a : List Int) : l_eqIntS a a = some true :=
  same_list (one := fun x y => some (x == y)) rfl rfl (fun i x hx => by show (idx a (i : Int)).bind _ = _; rw [idx_self hx]; simp) fun _ _ => by simp
theorem eqIntSS (a : List (List Int)) : l_eqIntSS a a = some true :=
  same_list (one := l_eqIntS) rfl rfl (fun i x hx => by show (idx a (i : Int)).bind _ = _; rw [idx_self hx]; rfl) fun x _ => eqIntS x
def smallR (r : Rule) : Prop := r.vars.length ≤ 1048576 ∧ r.coefs.length ≤ 1048576 ∧ r.rows.length ≤ 1048576 ∧ ∀ x ∈ r.rows, x.length ≤ 1048576
def smallM (m : Model) : Prop := m.sizes.length ≤ 1048576 ∧ m.rules.length ≤ 1048576 ∧ ∀ r ∈ m.rules, smallR r
theorem eqRule (a : Rule) : l_eqRule a a = some true := by
  unfold l_eqRule
  simp [eqIntS, eqIntSS]
theorem eqRuleS (a : List Rule) : l_eqRuleS a a = some true :=
  same_list (one := l_eqRule) rfl rfl (fun i x hx => by show (idx a (i : Int)).bind _ = _; rw [idx_self hx]; rfl) fun x _ => eqRule x
theorem eqModel (a : Model) : l_eqModel a a = some true := by
  unfold l_eqModel
  simp [eqIntS, eqRuleS]
end Go.L
namespace Go.L
open Go Go.E
set_option linter.unusedVariables false
theorem within_eq (n lo hi : Int) : i_within n lo hi = some (decide (lo ≤ n) && decide (n ≤ hi)) := rfl
theorem containsInt (s : List Int) (v : Int) : slices_Contains_int s v = some (s.contains v) := by
  obtain ⟨j, h1, h2⟩ := range_index (q := fun x => v == x) (b := slices_Index_int_b1 v) s (fun i x _ => by show (if _ then _ else _) = _; cases v == x <;> rfl)
  unfold slices_Contains_int slices_Index_int
  rw [h1]
  have hc : s.contains v = s.any (fun x => v == x) := by
    rw [Bool.eq_iff_iff]; simp
  rw [hc]
  cases j with
  | nx u => simp only at h2; rw [h2]; rfl
  | out t => simp only at h2; rw [h2.2]; simp [h2.1]
theorem containsFuncInt (s : List Int) (p : Int → Option Bool) (q : Int → Bool) (hp : ∀ x ∈ s, p x = some (q x)) : slices_ContainsFunc_int s p = some (s.any q) := by
  obtain ⟨j, h1, h2⟩ := range_index (q := q) (b := slices_IndexFunc_int_b1 p) s (fun i x hx => by show (p x).bind _ = _; rw [hp x (List.mem_of_getElem? hx)]; show (if _ then _ else _) = _; cases q x <;> rfl)
  unfold slices_ContainsFunc_int slices_IndexFunc_int
  rw [h1]
  cases j with
  | nx u => simp only at h2; rw [h2]; rfl
  | out t => simp only at h2; rw [h2.2]; simp [h2.1]
theorem containsFuncSint (s : List (List Int)) (p : List Int → Option Bool) (q : List Int → Bool) (hp : ∀ x ∈ s, p x = some (q x)) : slices_ContainsFunc_Sint s p = some (s.any q) := by
  obtain ⟨j, h1, h2⟩ := range_index (q := q) (b := slices_IndexFunc_Sint_b1 p) s (fun i x hx => by show (p x).bind _ = _; rw [hp x (List.mem_of_getElem? hx)]; show (if _ then _ else _) = _; cases q x <;> rfl)
  unfold slices_ContainsFunc_Sint slices_IndexFunc_Sint
  rw [h1]
  cases j with
  | nx u => simp only at h2; rw [h2]; rfl
  | out t => simp only at h2; rw [h2.2]; simp [h2.1]
theorem containsFuncRule (s : List Rule) (p : Rule → Option Bool) (q : Rule → Bool) (hp : ∀ x ∈ s, p x = some (q x)) : slices_ContainsFunc_implRule s p = some (s.any q) := by
  obtain ⟨j, h1, h2⟩ := range_index (q := q) (b := slices_IndexFunc_implRule_b1 p) s (fun i x hx => by show (p x).bind _ = _; rw [hp x (List.mem_of_getElem? hx)]; show (if _ then _ else _) = _; cases q x <;> rfl)
  unfold slices_ContainsFunc_implRule slices_IndexFunc_implRule
  rw [h1]
  cases j with
  | nx u => simp only at h2; rw [h2]; rfl
  | out t => simp only at h2; rw [h2.2]; simp [h2.1]
def gqVars (n : Nat) (xs : List Int) : Nat → Int → Bool := fun i x => decide (0 ≤ x) && decide (x < (n : Int)) && !(xs.take i).contains x
def okVars (n : Nat) (xs : List Int) : Bool := allFrom (gqVars n xs) xs 0
theorem notin_all (xs : List Int) (v : Int) : (!xs.contains v) = xs.all (fun y => !(y == v)) := by
  rw [Bool.eq_iff_iff]
  simp only [Bool.not_eq_true', List.all_eq_true, beq_eq_false_iff_ne, ne_eq]
  constructor
  · intro h y hy e; subst e; simp [hy] at h
  · intro h; simp; intro hv; exact h v hv rfl
theorem count_notin {τ : Type} (xs : List Int) (v : Int) (t : τ) (i : Nat) (hi : i ≤ xs.length) {b : Nat → Unit → Option (Lo Unit τ)}
    (hb : ∀ k, k < i → b k () = (idx xs (k : Int)).bind fun x => if (x == v) then (some (.out t)) else (some (.cont ()))) :
    countL b i 0 () = some (if !(xs.take i).contains v then .nx () else .out t) := by
  obtain ⟨j, hj, hQ⟩ := count_inv (b := b) (fun k _ => (xs.take k).all (fun y => !(y == v)) = true) (fun j => j = if (xs.take i).all (fun y => !(y == v)) then .nx () else .out t) i 0
    (by intro s h; rw [Nat.zero_add] at h; rw [h]; rfl)
    (by
      intro k s _ hk hI
      have hk' : k < xs.length := by omega
      rw [hb k (by omega), idx_lt hk', Option.bind_some]
      cases hx : xs[k] == v with
      | true =>
        refine ⟨.out t, rfl, ?_⟩
        have : (xs.take i).all (fun y => !(y == v)) = false := by
          rw [List.all_eq_false]
          exact ⟨xs[k], List.mem_iff_getElem.2 ⟨k, by simp; omega, by simp⟩, by simpa using hx⟩
        rw [this]; rfl
      | false =>
        refine ⟨.cont (), rfl, ?_⟩
        rw [List.take_add_one, List.getElem?_eq_getElem hk', List.all_append, hI]
        simp [hx]) () rfl
  rw [hj, hQ, notin_all]
theorem s_vars (m : Model) (xs : List Int) (hx : xs.length ≤ 1048576) : s_l6Vars m xs = some (okVars m.sizes.length xs && decide ((xs.length : Int) ≥ 1)) := by
  unfold s_l6Vars
  rw [range_allI (gqVars m.sizes.length xs) false xs]
  · unfold okVars
    cases allFrom (gqVars m.sizes.length xs) xs 0 <;> rfl
  · intro i x hix
    have hi := (List.getElem?_eq_some_iff.1 hix).1
    show (if _ then _ else _) = _
    rw [cntF_nat (by omega), Option.bind_some, count_notin xs x (.out false) i (by omega) fun k hk => rfl]
    unfold gqVars
    have e1 : decide (x < 0) = !decide (0 ≤ x) := by rw [← decide_not, decide_eq_decide]; omega
    have e2 : decide (x ≥ (m.sizes.length : Int)) = !decide (x < (m.sizes.length : Int)) := by rw [← decide_not, decide_eq_decide]; omega
    rw [e1, e2]
    cases decide (0 ≤ x) <;> cases decide (x < (m.sizes.length : Int)) <;> cases (xs.take i).contains x <;> rfl
theorem i_vars (r : Rule) (n : Nat) (hn : n ≤ ML) : rangeL (i_ruleValid_b1 r (n : Int)) r.vars 0 () = some (if okVars n r.vars then .nx () else .out false) := by
  refine range_allI (gqVars n r.vars) false r.vars ?_
  intro i x hxi
  have hi : i < r.vars.length := (List.getElem?_eq_some_iff.1 hxi).1
  show ((i_within x 0 (i64 ((n : Int) - 1))).bind _ : Option (Lo Unit Bool)) = _
  have hn' : (n : Int) ≤ 9223372036854775807 := by unfold ML at hn; omega
  rw [i64_id (by omega) (by omega), within_eq, Option.bind_some, sl_pre (by omega), Option.bind_some, containsInt]
  unfold gqVars
  have e : decide (x ≤ (n : Int) - 1) = decide (x < (n : Int)) := by rw [decide_eq_decide]; omega
  rw [e]
  cases decide (0 ≤ x) <;> cases decide (x < (n : Int)) <;> cases (r.vars.take i).contains x <;> rfl
def qCoef (x : Int) : Bool := decide (-9 ≤ x) && decide (x ≤ 9) && !(x == 0)
theorem s_linear (r : Rule) : s_l6Linear r = some (r.coefs.all qCoef && ((((r.coefs.length : Int) == (r.vars.length : Int)) && decide (r.bound ≥ -1000)) && decide (r.bound ≤ 1000))) := by
  unfold s_l6Linear
  rw [range_all qCoef false r.coefs]
  · cases r.coefs.all qCoef <;> rfl
  · intro i x hix
    show (if _ then _ else _) = _
    unfold qCoef
    have e1 : decide (x < -9) = !decide (-9 ≤ x) := by rw [← decide_not, decide_eq_decide]; omega
    have e2 : decide (x > 9) = !decide (x ≤ 9) := by rw [← decide_not, decide_eq_decide]; omega
    rw [e1, e2]
    cases decide (-9 ≤ x) <;> cases decide (x ≤ 9) <;> cases x == 0 <;> rfl
def qRow (n : Nat) (row : List Int) : Bool := ((row.length : Int) == (n : Int)) && row.all (fun x => decide (0 ≤ x) && decide (x ≤ 3))
theorem count_all {τ α : Type} (q : α → Bool) (xs : List α) (t : τ) {b : Nat → Unit → Option (Lo Unit τ)}
    (hb : ∀ k x, xs[k]? = some x → b k () = some (if q x then .cont () else .out t)) : countL b xs.length 0 () = some (if xs.all q then .nx () else .out t) := by
  rw [count_range b xs.length 0 0]
  have h1 : ∀ (ys : List α) (k j : Nat), xs.drop k = ys → rangeL (fun _ k s => b k s) (List.range' k ys.length) j () = rangeL (fun k _ s => b k s) ys k () := by
    intro ys
    induction ys with
    | nil => intro k j _; rfl
    | cons y ys ih =>
      intro k j hd
      show rangeL _ (List.range' k (ys.length + 1)) j () = _
      rw [List.range'_succ]
      show (b k ()).bind _ = (b k ()).bind _
      congr 1
      funext o
      cases o with
      | cont s => exact ih (k + 1) (j + 1) (drop_next hd)
      | brk s => rfl
      | out t => rfl
  rw [h1 xs 0 0 rfl, range_all q t xs hb]
theorem s_table (r : Rule) (hel : ∀ x ∈ r.rows, x.length ≤ 1048576) : s_l6Table r = some (r.rows.all (qRow r.vars.length) && decide ((r.rows.length : Int) ≤ 8)) := by
  unfold s_l6Table
  rw [range_all (qRow r.vars.length) false r.rows]
  · cases r.rows.all (qRow r.vars.length) <;> rfl
  · intro i row hix
    have hl := hel row (List.mem_of_getElem? hix)
    show (if _ then _ else _) = _
    rw [cntF_nat (by omega), Option.bind_some, count_all (fun x => decide (0 ≤ x) && decide (x ≤ 3)) row (.out false)]
    · unfold qRow bne
      cases (row.length : Int) == (r.vars.length : Int) <;> cases row.all (fun x => decide (0 ≤ x) && decide (x ≤ 3)) <;> rfl
    · intro k x hx
      show (idx row (k : Int)).bind _ = _
      rw [idx_self hx, Option.bind_some]
      have e1 : decide (x < 0) = !decide (0 ≤ x) := by rw [← decide_not, decide_eq_decide]; omega
      have e2 : decide (x > 3) = !decide (x ≤ 3) := by rw [← decide_not, decide_eq_decide]; omega
      rw [e1, e2]
      cases decide (0 ≤ x) <;> cases decide (x ≤ 3) <;> rfl
def okRule (n : Nat) (r : Rule) : Bool :=
  if ((!(okVars n r.vars && decide ((r.vars.length : Int) ≥ 1))) || ((r.kind != 1) && (((r.coefs.length : Int) != 0) || (r.bound != 0)))) || ((r.kind != 3) && ((r.rows.length : Int) != 0)) then false
  else if r.kind == 1 then r.coefs.all qCoef && ((((r.coefs.length : Int) == (r.vars.length : Int)) && decide (r.bound ≥ -1000)) && decide (r.bound ≤ 1000))
  else if r.kind == 2 then true
  else if r.kind == 3 then r.rows.all (qRow r.vars.length) && decide ((r.rows.length : Int) ≤ 8)
  else if r.kind == 4 then ((r.vars.length : Int) == 2) else false
theorem s_rule (m : Model) (r : Rule) (h : smallR r) : s_l6Rule m r = some (okRule m.sizes.length r) := by
  unfold s_l6Rule okRule
  rw [s_vars m r.vars h.1, Option.bind_some, s_linear r, s_table r h.2.2.2]
  simp only [Option.bind_some, apply_ite some]
theorem i_coefs (xs : List Int) : slices_ContainsFunc_int xs i_ruleValid_1 = some (!xs.all qCoef) := by
  rw [← any_not_all]
  refine containsFuncInt xs _ (fun x => !qCoef x) fun x _ => ?_
  unfold i_ruleValid_1 qCoef
  rw [within_eq]
  cases hx : x == 0 <;> cases h1 : decide (-9 ≤ x) <;> cases h2 : decide (x ≤ 9) <;> simp_all
theorem i_rows (r : Rule) : slices_ContainsFunc_Sint r.rows (i_ruleValid_2 r) = some (!r.rows.all (qRow r.vars.length)) := by
  rw [← any_not_all]
  refine containsFuncSint r.rows _ (fun x => !qRow r.vars.length x) fun row _ => ?_
  unfold i_ruleValid_2 qRow
  have e : slices_ContainsFunc_int row i_ruleValid_2_1 = some (!row.all (fun x => decide (0 ≤ x) && decide (x ≤ 3))) := by
    rw [← any_not_all]
    exact containsFuncInt row _ _ fun x _ => rfl
  rw [e]
  unfold bne
  cases (row.length : Int) == (r.vars.length : Int) <;> cases row.all (fun x => decide (0 ≤ x) && decide (x ≤ 3)) <;> rfl
theorem i_rule (r : Rule) (n : Nat) (hn : n ≤ ML) : i_ruleValid r (n : Int) = some (okRule n r) := by
  unfold i_ruleValid okRule
  rw [i_vars r n hn]
  cases hv : okVars n r.vars with
  | false => rfl
  | true =>
    show (if _ then _ else _) = _
    have e0 : ((r.vars.length : Int) == 0) = !decide ((r.vars.length : Int) ≥ 1) := by
      rw [Bool.eq_iff_iff, beq_iff_eq, Bool.not_eq_true', decide_eq_false_iff_not]; omega
    have e1 : decide ((r.coefs.length : Int) > 0) = ((r.coefs.length : Int) != 0) := by
      rw [Bool.eq_iff_iff, decide_eq_true_eq, bne_iff_ne]; omega
    have e2 : decide ((r.rows.length : Int) > 0) = ((r.rows.length : Int) != 0) := by
      rw [Bool.eq_iff_iff, decide_eq_true_eq, bne_iff_ne]; omega
    rw [e0, e1, e2, Bool.true_and]
    generalize (((!decide ((r.vars.length : Int) ≥ 1)) || ((r.kind != 1) && (((r.coefs.length : Int) != 0) || (r.bound != 0)))) || ((r.kind != 3) && ((r.rows.length : Int) != 0))) = c
    cases c with
    | true => rfl
    | false =>
      rw [if_neg Bool.false_ne_true, if_neg Bool.false_ne_true, i_coefs, i_rows, within_eq]
      cases hk1 : r.kind == 1 with
      | true =>
        rw [if_pos rfl, if_pos rfl]
        have e3 : decide (-1000 ≤ r.bound) = decide (r.bound ≥ -1000) := rfl
        rw [e3]
        cases (r.coefs.length : Int) == (r.vars.length : Int) <;> cases decide (r.bound ≥ -1000) <;> cases decide (r.bound ≤ 1000) <;> cases r.coefs.all qCoef <;> rfl
      | false =>
        rw [if_neg Bool.false_ne_true, if_neg Bool.false_ne_true]
        cases hk2 : r.kind == 2 with
        | true =>
          have hk : r.kind = 2 := by simpa using hk2
          rw [hk]; rfl
        | false =>
          rw [if_neg Bool.false_ne_true]
          cases hk3 : r.kind == 3 with
          | true =>
            rw [if_pos rfl, if_pos rfl]
            cases decide ((r.rows.length : Int) ≤ 8) <;> cases r.rows.all (qRow r.vars.length) <;> rfl
          | false =>
            rw [if_neg Bool.false_ne_true, if_neg Bool.false_ne_true]
            cases hk4 : r.kind == 4 with
            | true => rfl
            | false => rfl
def qSize (x : Int) : Bool := decide (0 ≤ x) && decide (x ≤ 3)
def gsum (xs : List Int) : Int := xs.foldl (fun n x => n + x + 1) 0
theorem gsum_next (xs : List Int) (i : Nat) (h : i < xs.length) : gsum (xs.take (i + 1)) = gsum (xs.take i) + xs[i] + 1 := by
  unfold gsum
  rw [List.take_add_one, List.getElem?_eq_getElem h, List.foldl_append]
  rfl
theorem all_next (q : Int → Bool) (xs : List Int) (i : Nat) (h : i < xs.length) : (xs.take (i + 1)).all q = ((xs.take i).all q && q xs[i]) := by
  rw [List.take_add_one, List.getElem?_eq_getElem h, List.all_append]
  simp
theorem all_false (q : Int → Bool) (xs : List Int) (i : Nat) (h : i < xs.length) (hq : q xs[i] = false) : xs.all q = false := by
  rw [List.all_eq_false]
  exact ⟨xs[i], List.getElem_mem h, by simp [hq]⟩
theorem qSize_iff {x : Int} : qSize x = true ↔ 0 ≤ x ∧ x ≤ 3 := by unfold qSize; simp
def okModel (m : Model) : Bool :=
  if (((decide ((m.sizes.length : Int) < 1)) || (decide ((m.sizes.length : Int) > 5))) || (decide (gsum m.sizes > 12))) || (decide ((m.rules.length : Int) > 8)) then false
  else m.sizes.all qSize && m.rules.all (okRule m.sizes.length)
theorem s_sizes (m : Model) (fu : Nat) (hf : FU ≤ fu) : ∃ j, whileL (s_ModelValid_b1 m) fu (0, 0) = some j ∧
    (match j with | .nx s => m.sizes.length ≤ 5 → s.1 = gsum m.sizes ∧ m.sizes.all qSize = true | .out t => t = false ∧ m.sizes.all qSize = false) := by
  refine while_inv (b := s_ModelValid_b1 m) (fun n s => n ≤ 5 ∧ ∃ i : Nat, n = 5 - i ∧ i ≤ m.sizes.length ∧ i ≤ 5 ∧ s.2 = (i : Int) ∧ s.1 = gsum (m.sizes.take i) ∧ (m.sizes.take i).all qSize = true ∧ 0 ≤ s.1 ∧ s.1 ≤ 4 * i)
    (fun j => match j with | .nx s => m.sizes.length ≤ 5 → s.1 = gsum m.sizes ∧ m.sizes.all qSize = true | .out t => t = false ∧ m.sizes.all qSize = false) ?_ fu 5 (0, 0) ⟨by omega, 0, by omega, by omega, by omega, rfl, rfl, rfl, by simp, by simp⟩ (by unfold FU at hf; omega)
  rintro n ⟨k, w⟩ ⟨hn5, i, rfl, hi, hi5, hw, hk, ha, hk0, hk1⟩
  simp only at hw hk hk0 hk1
  subst hw
  by_cases hlt : i < m.sizes.length ∧ i < 5
  · have hbody : s_ModelValid_b1 m (k, (i : Int)) = (if ((decide (m.sizes[i] < 0)) || (decide (m.sizes[i] > 3))) then (some (.out false)) else (some (.cont (i64 ((i64 (k + m.sizes[i])) + 1), i64 ((i : Int) + 1))))) := by
      show (if _ then _ else _) = _
      rw [if_pos (by simp; omega), idx_lt hlt.1]
      rfl
    cases hq : qSize m.sizes[i] with
    | true =>
      have hb := qSize_iff.1 hq
      refine ⟨.cont (k + m.sizes[i] + 1, ((i + 1 : Nat) : Int)), ?_, _, ?_, by omega, i + 1, rfl, hlt.1, hlt.2, rfl, ?_, ?_, ?_, ?_⟩
      · rw [hbody, if_neg (by simp; omega), i64_id (n := (i : Int) + 1) (by omega) (by omega), i64_id (n := k + m.sizes[i]) (by omega) (by omega), i64_id (by omega) (by omega)]
        rfl
      · omega
      · rw [gsum_next _ _ hlt.1, hk]
      · rw [all_next _ _ _ hlt.1, ha, hq]; rfl
      · show 0 ≤ k + m.sizes[i] + 1; omega
      · show k + m.sizes[i] + 1 ≤ 4 * ((i + 1 : Nat) : Int); omega
    | false =>
      refine ⟨.out false, ?_, rfl, all_false _ _ _ hlt.1 hq⟩
      have hnb : ¬ (0 ≤ m.sizes[i] ∧ m.sizes[i] ≤ 3) := fun h => by rw [qSize_iff.2 h] at hq; cases hq
      rw [hbody, if_pos (by simp; omega)]
  · refine ⟨.brk (k, (i : Int)), ?_, fun h5 => ?_⟩
    · show (if _ then _ else _) = _
      rw [if_neg (by simp; omega)]
    · obtain rfl : i = m.sizes.length := by omega
      rw [List.take_length] at hk ha
      exact ⟨hk, ha⟩
theorem s_model (m : Model) (h : smallM m) (fu : Nat) (hf : FU ≤ fu) : s_ModelValid fu m = some (okModel m) := by
  unfold s_ModelValid okModel
  obtain ⟨j, hj, hQ⟩ := s_sizes m fu hf
  rw [hj, Option.bind_some]
  cases j with
  | out t =>
    simp only at hQ
    obtain ⟨rfl, hf⟩ := hQ
    rw [hf, Bool.false_and, ite_self]
  | nx s =>
    obtain ⟨n, i⟩ := s
    by_cases h5 : m.sizes.length ≤ 5
    · obtain ⟨hn, ha⟩ := hQ h5
      simp only at hn
      subst hn
      rw [ha, Bool.true_and]
      have h2 : rangeL (s_ModelValid_b2 m) m.rules 0 () = some (if m.rules.all (okRule m.sizes.length) then .nx () else .out false) := by
        refine range_all _ _ _ fun i r hr => ?_
        show (s_l6Rule m r).bind _ = _
        rw [s_rule m r (h.2.2 r (List.mem_of_getElem? hr)), Option.bind_some]
        cases okRule m.sizes.length r <;> rfl
      simp only [h2, Option.bind_some]
      rw [apply_ite some]
      congr 1
      cases m.rules.all (okRule m.sizes.length) <;> rfl
    · have e : ((((decide ((m.sizes.length : Int) < 1)) || (decide ((m.sizes.length : Int) > 5))) || (decide (gsum m.sizes > 12))) || (decide ((m.rules.length : Int) > 8))) = true := by simp; omega
      have e' : ((((decide ((m.sizes.length : Int) < 1)) || (decide ((m.sizes.length : Int) > 5))) || (decide (n > 12))) || (decide ((m.rules.length : Int) > 8))) = true := by simp; omega
      simp only [e, e', if_true]
theorem i_sizes (m : Model) (h5 : m.sizes.length ≤ 5) : ∃ j, rangeL i_ModelValid_b1 m.sizes 0 0 = some j ∧
    (match j with | .nx s => s = gsum m.sizes ∧ m.sizes.all qSize = true | .out t => t = false ∧ m.sizes.all qSize = false) := by
  refine range_inv m.sizes (fun i c => c = gsum (m.sizes.take i) ∧ (m.sizes.take i).all qSize = true ∧ 0 ≤ c ∧ c ≤ 4 * i)
    (fun j => match j with | .nx s => s = gsum m.sizes ∧ m.sizes.all qSize = true | .out t => t = false ∧ m.sizes.all qSize = false) ?_ ?_ 0 ⟨rfl, rfl, by simp, by simp⟩
  · rintro c ⟨hc, ha, _, _⟩
    rw [List.take_length] at hc ha
    exact ⟨hc, ha⟩
  · rintro i x c hx ⟨hc, ha, h0, h1⟩
    have hi := (List.getElem?_eq_some_iff.1 hx).1
    obtain rfl : m.sizes[i] = x := (List.getElem?_eq_some_iff.1 hx).2
    cases hq : qSize m.sizes[i] with
    | true =>
      have hb := qSize_iff.1 hq
      refine ⟨.cont (c + m.sizes[i] + 1), ?_, by rw [gsum_next _ _ hi, hc], by rw [all_next _ _ _ hi, ha, hq]; rfl, by omega, by omega⟩
      simp only [i_ModelValid_b1, within_eq, Option.bind_some]
      have : (decide (0 ≤ m.sizes[i]) && decide (m.sizes[i] ≤ 3)) = true := hq
      rw [this, if_neg (by simp), i64_id (n := m.sizes[i] + 1) (by omega) (by omega), i64_id (by omega) (by omega)]
      rw [Int.add_assoc]
    | false =>
      refine ⟨.out false, ?_, rfl, all_false _ _ _ hi hq⟩
      simp only [i_ModelValid_b1, within_eq, Option.bind_some]
      have : (decide (0 ≤ m.sizes[i]) && decide (m.sizes[i] ≤ 3)) = false := hq
      rw [this]; rfl
theorem i_model (m : Model) (h : smallM m) : i_ModelValid m = some (okModel m) := by
  unfold i_ModelValid okModel
  rw [within_eq, Option.bind_some]
  by_cases h1 : 1 ≤ m.sizes.length ∧ m.sizes.length ≤ 5 ∧ m.rules.length ≤ 8
  · have e1 : ((!(decide (1 ≤ (m.sizes.length : Int)) && decide ((m.sizes.length : Int) ≤ 5))) || decide ((m.rules.length : Int) > 8)) = false := by
      rw [show decide (1 ≤ (m.sizes.length : Int)) = true from decide_eq_true (by omega), show decide ((m.sizes.length : Int) ≤ 5) = true from decide_eq_true (by omega), show decide ((m.rules.length : Int) > 8) = false from decide_eq_false (by omega)]
      rfl
    rw [e1, if_neg Bool.false_ne_true]
    have e2 : ((((decide ((m.sizes.length : Int) < 1)) || (decide ((m.sizes.length : Int) > 5))) || (decide (gsum m.sizes > 12))) || (decide ((m.rules.length : Int) > 8))) = decide (gsum m.sizes > 12) := by
      rw [show decide ((m.sizes.length : Int) < 1) = false from decide_eq_false (by omega), show decide ((m.sizes.length : Int) > 5) = false from decide_eq_false (by omega), show decide ((m.rules.length : Int) > 8) = false from decide_eq_false (by omega)]
      simp
    rw [e2]
    obtain ⟨j, hj, hQ⟩ := i_sizes m h1.2.1
    rw [hj, Option.bind_some]
    cases j with
    | out t =>
      simp only at hQ
      rw [hQ.1, hQ.2, Bool.false_and, ite_self]
    | nx c =>
      simp only at hQ
      obtain ⟨rfl, ha⟩ := hQ
      rw [ha, Bool.true_and]
      have e3 : slices_ContainsFunc_implRule m.rules (i_ModelValid_1 m) = some (!m.rules.all (okRule m.sizes.length)) := by
        rw [← any_not_all]
        refine containsFuncRule m.rules _ _ fun r hr => ?_
        unfold i_ModelValid_1
        rw [i_rule r _ (by have := h1.2.1; unfold ML; omega)]
        rfl
      have e4 : decide (gsum m.sizes ≤ 12) = !decide (gsum m.sizes > 12) := by rw [← decide_not, decide_eq_decide]; omega
      simp only [e3, e4]
      cases decide (gsum m.sizes > 12) <;> cases m.rules.all (okRule m.sizes.length) <;> rfl
  · have e1 : ((!(decide (1 ≤ (m.sizes.length : Int)) && decide ((m.sizes.length : Int) ≤ 5))) || decide ((m.rules.length : Int) > 8)) = true := by
      simp; omega
    have e2 : ((((decide ((m.sizes.length : Int) < 1)) || (decide ((m.sizes.length : Int) > 5))) || (decide (gsum m.sizes > 12))) || (decide ((m.rules.length : Int) > 8))) = true := by
      simp; omega
    rw [e1, e2, if_pos rfl, if_pos rfl]
theorem okModel_parts {m : Model} (h : okModel m = true) : 1 ≤ m.sizes.length ∧ m.sizes.length ≤ 5 ∧ m.sizes.all qSize = true ∧ m.rules.length ≤ 8 ∧ gsum m.sizes ≤ 12 ∧ m.rules.all (okRule m.sizes.length) = true := by
  unfold okModel at h
  split at h
  · cases h
  · rename_i hc
    simp at hc
    rw [Bool.and_eq_true] at h
    exact ⟨by omega, by omega, h.1, by omega, by omega, h.2⟩
end Go.L
namespace Go.L
open Go Go.E
set_option linter.unusedSimpArgs false
set_option linter.unusedVariables false
theorem bs_list (l : List UInt8) : (bs l).data.toList = l := by simp [bs]
theorem bs_size (l : List UInt8) : (bs l).size = l.length := by show l.toArray.size = _; simp
theorem bs_of (s : ByteArray) : s = bs s.data.toList := (bs_data s).symm
theorem cat_bs {a b : List UInt8} (h : a.length + b.length ≤ 9223372036854775807) : cat (bs a) (bs b) = some (bs (a ++ b)) := by
  unfold cat
  rw [if_pos (by rw [bs_size, bs_size]; exact h)]
  simp only [bs]
  exact congrArg some (ByteArray.ext (by simp))
theorem eq_bs (a b : List UInt8) : (ByteArray.toList (bs a) == ByteArray.toList (bs b)) = (a == b) := by
  simp only [bs, ByteArray.toList_mk]
theorem sidx_bs (l : List UInt8) (k : Int) : sidx (bs l) k = idx l k := by unfold sidx; rw [bs_list]
theorem ssl_bs {l : List UInt8} {a b : Int} (h0 : 0 ≤ a) (h1 : a ≤ b) (h2 : b ≤ (l.length : Int)) : ssl (bs l) a b = some (bs ((l.drop a.toNat).take (b.toNat - a.toNat))) := by
  unfold ssl
  rw [if_pos ⟨h0, h1, by rw [bs_size]; exact h2⟩]
  show some ((ByteArray.mk l.toArray).extract _ _) = _
  rw [ByteArray.extract_mk]
  rfl
theorem ssl_from {l : List UInt8} {a : Nat} (h : a ≤ l.length) : ssl (bs l) (a : Int) ((bs l).size : Int) = some (bs (l.drop a)) := by
  rw [bs_size, ssl_bs (by omega) (by omega) (by omega)]
  simp [List.take_of_length_le]
def dec (n : Nat) : List UInt8 := Go.Lib.decDigits n
theorem dec_small {n : Nat} (h : n < 10) : dec n = [UInt8.ofNat (48 + n)] := Go.Lib.decDigits_one h
theorem dec_big {n : Nat} (h : ¬ n < 10) : dec n = dec (n / 10) ++ [UInt8.ofNat (48 + n % 10)] := by
  unfold dec
  rw [Go.Lib.decDigits, dif_neg h]
theorem dec_len : ∀ (k n : Nat), n < 10 ^ (k + 1) → (dec n).length ≤ k + 1
  | 0, n, h => by rw [dec_small (by simpa using h)]; simp
  | k + 1, n, h => by
    by_cases hn : n < 10
    · rw [dec_small hn]; simp
    · rw [dec_big hn, List.length_append]
      have := dec_len k (n / 10) (by rw [Nat.div_lt_iff_lt_mul (by omega)]; rw [Nat.pow_succ] at h; omega)
      simp; omega
theorem dec_pos (n : Nat) : 1 ≤ (dec n).length := by
  by_cases hn : n < 10
  · rw [dec_small hn]; simp
  · rw [dec_big hn]; simp
theorem dec_len20 {n : Nat} (h : n ≤ 9223372036854775807) : (dec n).length ≤ 19 := dec_len 18 n (by omega)
theorem dec_digit : ∀ (n : Nat), ∀ b ∈ dec n, 48 ≤ b.toNat ∧ b.toNat ≤ 57 := by
  intro n
  induction n using Nat.strongRecOn with
  | ind n ih =>
    intro b hb
    by_cases hn : n < 10
    · rw [dec_small hn] at hb
      obtain rfl := List.mem_singleton.1 hb
      rw [UInt8.toNat_ofNat']
      omega
    · rw [dec_big hn] at hb
      rcases List.mem_append.1 hb with h | h
      · exact ih _ (by omega) b h
      · obtain rfl := List.mem_singleton.1 h
        rw [UInt8.toNat_ofNat']
        omega
def val (a : Nat) (l : List UInt8) : Nat := l.foldl (fun a b => a * 10 + (b.toNat - 48)) a
theorem val_ge : ∀ (l : List UInt8) (a : Nat), a ≤ val a l
  | [], a => Nat.le_refl a
  | b :: l, a => Nat.le_trans (by omega) (val_ge l (a * 10 + (b.toNat - 48)))
theorem val_dec : ∀ n, val 0 (dec n) = n := by
  intro n
  induction n using Nat.strongRecOn with
  | ind n ih =>
    by_cases hn : n < 10
    · rw [dec_small hn]
      simp only [val, List.foldl_cons, List.foldl_nil, UInt8.toNat_ofNat']
      omega
    · rw [dec_big hn]
      have := ih (n / 10) (by omega)
      unfold val at this ⊢
      rw [List.foldl_append, this]
      simp only [List.foldl_cons, List.foldl_nil, UInt8.toNat_ofNat']
      omega
theorem dec_head : ∀ (n : Nat), n ≠ 0 → (dec n)[0]? ≠ some 48 := by
  intro n
  induction n using Nat.strongRecOn with
  | ind n ih =>
    intro h0
    by_cases hn : n < 10
    · rw [dec_small hn]
      simp only [List.getElem?_cons_zero, ne_eq, Option.some.injEq]
      intro h
      have := congrArg UInt8.toNat h
      rw [UInt8.toNat_ofNat'] at this
      simp at this
      omega
    · rw [dec_big hn, List.getElem?_append_left (by have := dec_pos (n / 10); omega)]
      exact ih _ (by omega) (by omega)
theorem wrap_u8 {x : Int} (h0 : 0 ≤ x) (h1 : x < 256) : IntKind.u8.wrap x = x := by
  unfold IntKind.wrap IntKind.bits IntKind.signed
  simp
  omega
theorem u8w_nat {m : Nat} (h : m < 256) : u8w (m : Int) = UInt8.ofNat m := by
  unfold u8w
  rw [wrap_u8 (by omega) (by omega)]
  rfl
theorem itoa_nat {n : Nat} (h : n ≤ 9223372036854775807) : strconv_Itoa (n : Int) = some (bs (dec n)) := by
  unfold strconv_Itoa
  rw [if_pos ⟨by omega, by omega⟩, Go.Lib.itoa_nonneg]
  rfl
theorem itoa_of {n : Int} (h0 : 0 ≤ n) (h : n ≤ 9223372036854775807) : strconv_Itoa n = some (bs (dec n.toNat)) := by
  have := itoa_nat (n := n.toNat) (by omega)
  rwa [show ((n.toNat : Nat) : Int) = n by omega] at this
theorem itoa_neg {n : Nat} (h1 : 1 ≤ n) (h : n ≤ 9223372036854775808) : strconv_Itoa (-(n : Int)) = some (bs (45 :: dec n)) := by
  unfold strconv_Itoa
  rw [if_pos ⟨by omega, by omega⟩, Go.Lib.itoa_neg n h1]
  rfl
theorem s_dec_loop (n : Nat) (hn : n ≤ 9223372036854775807) (fu : Nat) (hf : 30 ≤ fu) : ∃ j, whileL s_l17Dec_b1 fu ((n : Int), (⟨#[]⟩ : ByteArray)) = some j ∧ ∃ (m : Nat) (o : List UInt8), j = .nx ((m : Int), bs o) ∧ m < 10 ∧ dec n = dec m ++ o := by
  refine while_inv (fun k s => ∃ (m : Nat) (o : List UInt8), s = ((m : Int), bs o) ∧ m ≤ n ∧ dec n = dec m ++ o ∧ k = (dec m).length) _ ?_ fu (dec n).length _ ⟨n, [], rfl, Nat.le_refl _, by simp, rfl⟩ (by have := dec_len20 hn; omega)
  rintro k s ⟨m, o, rfl, hm, hd, rfl⟩
  unfold s_l17Dec_b1
  by_cases h : m < 10
  · simp only []
    rw [if_neg (by simp only [decide_eq_true_eq]; omega)]
    exact ⟨_, rfl, m, o, rfl, h, hd⟩
  · simp only []
    have hl := dec_len20 hn
    rw [hd, List.length_append] at hl
    have hm1 := dec_pos m
    rw [if_pos (by simp only [decide_eq_true_eq]; omega), show Int.tmod (m : Int) 10 = ((m % 10 : Nat) : Int) from by rw [Int.tmod_eq_emod_of_nonneg (by omega)]; omega,
      show (i64 (48 + ((m % 10 : Nat) : Int))) = ((48 + m % 10 : Nat) : Int) from by rw [i64_id (by omega) (by omega)]; omega, u8w_nat (by omega), cat_bs (by simp; omega), Option.bind_some]
    refine ⟨_, rfl, _, ?_, m / 10, UInt8.ofNat (48 + m % 10) :: o, ?_, by omega, ?_, rfl⟩
    · rw [dec_big h]; simp
    · rw [show Int.tdiv (m : Int) 10 = ((m / 10 : Nat) : Int) from by rw [Int.tdiv_eq_ediv_of_nonneg (by omega)]; omega, i64_id (by omega) (by omega)]
      rfl
    · rw [hd, dec_big h]; simp
theorem s_dec {n : Nat} (hn : n ≤ 9223372036854775807) {fu : Nat} (hf : 30 ≤ fu) : s_l17Dec fu (n : Int) = some (bs (dec n)) := by
  obtain ⟨k, rfl⟩ : ∃ k, fu = k + 1 := ⟨fu - 1, by omega⟩
  unfold s_l17Dec
  show s_l17Dec_F (k + 1) (s_l17Dec_R (k + 1) k) (n : Int) = _
  unfold s_l17Dec_F
  rw [if_neg (by simp only [decide_eq_true_eq]; omega), if_neg (by simp only [decide_eq_true_eq]; omega)]
  obtain ⟨j, hj, m, o, rfl, hm, hd⟩ := s_dec_loop n hn (k + 1) hf
  rw [hj, Option.bind_some]
  have hl := dec_len20 hn
  rw [hd, List.length_append] at hl
  have hm1 := dec_pos m
  show Option.bind (cat (bs [u8w (i64 (48 + (m : Int)))]) (bs o)) _ = _
  rw [show (i64 (48 + (m : Int))) = ((48 + m : Nat) : Int) from by rw [i64_id (by omega) (by omega)]; omega, u8w_nat (by omega), cat_bs (by simp; omega), Option.bind_some, hd, dec_small hm]
theorem s_dec_of {n : Int} (h0 : 0 ≤ n) (h : n ≤ 9223372036854775807) {fu : Nat} (hf : 30 ≤ fu) : s_l17Dec fu n = some (bs (dec n.toNat)) := by
  have := s_dec (n := n.toNat) (by omega) hf
  rwa [show ((n.toNat : Nat) : Int) = n by omega] at this
end Go.L
namespace Go.L
open Go Go.E
set_option linter.unusedSimpArgs false
set_option linter.unusedVariables false
def splitC (c : UInt8) : List UInt8 → List (List UInt8)
  | [] => [[]]
  | b :: l => if b = c then [] :: splitC c l else match splitC c l with
    | [] => [[b]]
    | w :: ws => (b :: w) :: ws
theorem splitC_ne (c : UInt8) : ∀ l, splitC c l ≠ []
  | [] => by simp [splitC]
  | b :: l => by
    unfold splitC
    split
    · simp
    · split <;> simp
theorem splitC_none {c : UInt8} : ∀ {w : List UInt8}, c ∉ w → splitC c w = [w]
  | [], _ => rfl
  | b :: w, h => by
    have h1 : b ≠ c := fun e => h (by simp [e])
    rw [splitC, if_neg h1, splitC_none (fun e => h (List.mem_cons_of_mem _ e))]
theorem splitC_cut {c : UInt8} : ∀ {w : List UInt8} (r : List UInt8), c ∉ w → splitC c (w ++ c :: r) = w :: splitC c r
  | [], r, _ => by simp [splitC]
  | b :: w, r, h => by
    have h1 : b ≠ c := fun e => h (by simp [e])
    rw [List.cons_append, splitC, if_neg h1, splitC_cut r (fun e => h (List.mem_cons_of_mem _ e))]
theorem splitC_len (c : UInt8) : ∀ l, (splitC c l).length ≤ l.length + 1
  | [] => by simp [splitC]
  | b :: l => by
    have ih := splitC_len c l
    unfold splitC
    split
    · simp; omega
    · split
      · simp
      · rename_i h; rw [h] at ih; simp at ih ⊢; omega
theorem splitC_mem {c : UInt8} : ∀ {l : List UInt8} {w : List UInt8}, w ∈ splitC c l → w.length ≤ l.length
  | [], w, h => by simp [splitC] at h; subst h; simp
  | b :: l, w, h => by
    unfold splitC at h
    split at h
    · rcases List.mem_cons.1 h with rfl | h
      · simp
      · have := splitC_mem h; simp; omega
    · split at h
      · simp at h; subst h; simp
      · rename_i w' ws' e
        rcases List.mem_cons.1 h with rfl | h
        · have := splitC_mem (l := l) (w := w') (by rw [e]; simp); simp; omega
        · have := splitC_mem (l := l) (w := w) (by rw [e]; simp [h]); simp; omega
theorem first_cut {c : UInt8} {l : List UInt8} (h : c ∈ l) : ∃ w r, l = w ++ c :: r ∧ c ∉ w := List.eq_append_cons_of_mem h
theorem index_cut {c : UInt8} : ∀ {w : List UInt8} (r : List UInt8), c ∉ w → Go.Lib.index (w ++ c :: r) [c] = w.length
  | [], r, _ => by simp [Go.Lib.index, List.isPrefixOf]
  | b :: w, r, h => by
    have h1 : c ≠ b := fun e => h (by simp [e])
    have ih := index_cut r (fun e => h (List.mem_cons_of_mem _ e))
    rw [List.cons_append, Go.Lib.index, ih]
    simp [List.isPrefixOf, h1]
theorem splitK_eq (c : UInt8) : ∀ (k : Nat) (l : List UInt8), l.count c = k → Go.Lib.splitK [c] 0 k l = splitC c l
  | 0, l, h => by
    rw [Go.Lib.splitK, splitC_none (List.count_eq_zero.1 h)]
  | k + 1, l, h => by
    obtain ⟨w, r, rfl, hw⟩ := first_cut (List.count_pos_iff.1 (by omega : 0 < l.count c))
    have hr : r.count c = k := by
      rw [List.count_append, List.count_cons_self, List.count_eq_zero.2 hw] at h
      omega
    rw [Go.Lib.splitK, index_cut r hw, if_neg (by simp <;> omega), splitC_cut r hw]
    simp only [Int.toNat_natCast, Nat.add_zero, List.length_cons, List.length_nil]
    rw [List.take_left' rfl, show w ++ c :: r = (w ++ [c]) ++ r by simp, List.drop_left' (by simp), splitK_eq c k r hr]
theorem map_bs (xs : List ByteArray) : xs = (xs.map (·.data.toList)).map bs := by
  induction xs with
  | nil => rfl
  | cons x xs ih => rw [List.map_cons, List.map_cons, ← ih, ← bs_of]
theorem strings_split {l : List UInt8} {c : UInt8} (h : l.length < 4294967281) : strings_Split (bs l) (bs [c]) = some ((splitC c l).map bs) := by
  unfold strings_Split
  rw [if_pos ⟨by rw [bs_size]; exact h, by rw [bs_size]; simp⟩, map_bs (Go.Lib.splitB _ _ _ _), Go.Lib.splitB_data, bs_list, bs_list]
  congr 2
  refine splitK_eq c _ l ?_
  show _ = Go.Lib.count (bs l).data.toList (bs [c]).data.toList
  rw [bs_list, bs_list, Go.Lib.count_one]
theorem s_cut {l : List UInt8} {c : Nat} (hc : c < 256) (h : l.length ≤ 1048576) : s_l17Cut (bs l) (c : Int) = some ((splitC (UInt8.ofNat c) l).map bs) := by
  have hcc : ((UInt8.ofNat c).toNat) = c := by rw [UInt8.toNat_ofNat']; omega
  unfold s_l17Cut
  rw [bs_size, show ((l.length : Int) + 1) = ((l.length + 1 : Nat) : Int) by omega, cntF_nat (by omega), Option.bind_some]
  obtain ⟨j, hj, out, fr, rfl, rfl⟩ : ∃ j, countL (s_l17Cut_b1 (bs l) (c : Int)) (l.length + 1) 0 ([], 0) = some j ∧ ∃ (out : List (List UInt8)) (fr : Int), j = .nx (out.map bs, fr) ∧ out = splitC (UInt8.ofNat c) l := by
    refine count_inv (fun i s => ∃ (out : List (List UInt8)) (fr : Nat), s = (out.map bs, (fr : Int)) ∧ fr ≤ i ∧ out.length ≤ i ∧
      (i ≤ l.length → UInt8.ofNat c ∉ (l.drop fr).take (i - fr) ∧ out ++ splitC (UInt8.ofNat c) (l.drop fr) = splitC (UInt8.ofNat c) l) ∧ (l.length < i → out = splitC (UInt8.ofNat c) l)) _ (l.length + 1) 0 ?_ ?_ _ ⟨[], 0, rfl, Nat.le_refl _, Nat.le_refl _, fun _ => ⟨by simp, by simp⟩, fun h => by omega⟩
    · rintro s ⟨out, fr, rfl, _, _, _, h2⟩
      exact ⟨out, _, rfl, h2 (by omega)⟩
    · rintro i s _ hi ⟨out, fr, rfl, hfr, hol, h1, _⟩
      have hi : i ≤ l.length := by omega
      obtain ⟨h1, h2⟩ := h1 hi
      unfold s_l17Cut_b1
      simp only []
      have hend : ∀ (w : List UInt8), w = (l.drop fr).take (i - fr) → ((ssl (bs l) (fr : Int) (i : Int)).bind fun x23 => (app (out.map bs) ([x23])).bind fun x27 => some (x27, i64 ((i : Int) + 1))) = some ((out ++ [w]).map bs, ((i + 1 : Nat) : Int)) := by
        rintro w rfl
        rw [ssl_bs (by omega) (by omega) (by omega), Option.bind_some, app_le (by simp; omega), Option.bind_some, i64_id (by omega) (by omega)]
        simp
      by_cases he : i = l.length
      · subst he
        rw [if_pos (by simp [bs_size]), Option.bind_some]
        simp only [if_true]
        rw [hend _ rfl]
        simp only [Option.bind_some]
        refine ⟨_, rfl, _, l.length + 1, rfl, by omega, by simp; omega, fun h => by omega, fun _ => ?_⟩
        rw [← h2]
        have h3 : (l.drop fr).take (l.length - fr) = l.drop fr := List.take_of_length_le (by simp)
        rw [h3] at h1 ⊢
        rw [splitC_none h1]
      · have hlt : i < l.length := by omega
        rw [if_neg (by simp only [bs_size, beq_iff_eq]; omega), sidx_bs, idx_lt hlt, Option.bind_some, Option.bind_some]
        by_cases hb : l[i] = UInt8.ofNat c
        · have e1 : (((l[i]).toNat : Int) == (((c : Int).toNat : Nat) : Int)) = true := by rw [hb, hcc]; simp
          rw [e1]
          simp only [if_true]
          rw [hend _ rfl]
          simp only [Option.bind_some]
          refine ⟨_, rfl, _, i + 1, rfl, by omega, by simp; omega, fun _ => ⟨by simp, ?_⟩, fun h => by omega⟩
          rw [← h2, List.append_assoc]
          congr 1
          have hd : l.drop fr = (l.drop fr).take (i - fr) ++ UInt8.ofNat c :: l.drop (i + 1) := by
            have e2 : (l.drop fr).drop (i - fr) = l.drop i := by rw [List.drop_drop]; congr 1; omega
            have e3 : l.drop i = UInt8.ofNat c :: l.drop (i + 1) := by rw [List.drop_eq_getElem_cons hlt, hb]
            rw [← e3, ← e2, List.take_append_drop]
          rw [List.singleton_append]
          conv => rhs; rw [hd]
          rw [splitC_cut _ h1]
        · have e1 : (((l[i]).toNat : Int) == (((c : Int).toNat : Nat) : Int)) = false := by
            simp only [beq_eq_false_iff_ne]
            intro e
            exact hb (UInt8.toNat_inj.1 (by rw [hcc]; omega))
          rw [e1]
          simp only [Bool.false_eq_true, if_false, Option.bind_some]
          refine ⟨_, rfl, out, fr, rfl, by omega, by omega, fun _ => ⟨?_, h2⟩, fun h => by omega⟩
          have e4 : i + 1 - fr = (i - fr) + 1 := by omega
          have e5 : (l.drop fr)[i - fr]? = some l[i] := by rw [List.getElem?_drop, show fr + (i - fr) = i by omega, List.getElem?_eq_getElem hlt]
          rw [e4, List.take_add_one, e5]
          intro hm
          rcases List.mem_append.1 hm with h | h
          · exact h1 h
          · simp at h; exact hb h.symm
  rw [hj, Option.bind_some]
end Go.L
namespace Go.L
open Go Go.E
set_option linter.unusedSimpArgs false
set_option linter.unusedVariables false
set_option maxRecDepth 100000
theorem md_nodup {n : Nat} {xs : List Int} (h : okVars n xs = true) : xs.Nodup := by
  unfold okVars at h
  rw [allFrom_iff] at h
  unfold List.Nodup
  rw [List.pairwise_iff_getElem]
  intro i j hi hj hij e
  have := h j xs[j] (List.getElem?_eq_getElem hj)
  unfold gqVars at this
  rw [Bool.and_eq_true] at this
  have := this.2
  simp only [Bool.not_eq_true', List.contains_eq_mem, decide_eq_false_iff_not, Nat.zero_add] at this
  exact this (by rw [← e, List.mem_take_iff_getElem]; exact ⟨i, by omega, rfl⟩)
theorem md_range {n : Nat} {xs : List Int} (h : okVars n xs = true) : ∀ x ∈ xs, 0 ≤ x ∧ x < (n : Int) := by
  intro x hx
  unfold okVars at h
  rw [allFrom_iff] at h
  obtain ⟨i, hi, rfl⟩ := List.mem_iff_getElem.1 hx
  have := h i xs[i] (List.getElem?_eq_getElem hi)
  unfold gqVars at this
  simp at this
  omega
theorem md_one {xs : List Int} (h : xs.Nodup) (v : Int) : (xs.filter (· == v)).length ≤ 1 := by
  induction xs with
  | nil => simp
  | cons x xs ih =>
    rw [List.nodup_cons] at h
    rw [List.filter_cons]
    split
    · rename_i e
      have e : x = v := by simpa using e
      subst e
      have : xs.filter (· == x) = [] := by
        rw [List.filter_eq_nil_iff]
        intro y hy
        simp
        intro e
        subst e
        exact h.1 hy
      rw [this]; simp
    · exact ih h.2
theorem md_len : ∀ (n : Nat) (xs : List Int), xs.Nodup → (∀ x ∈ xs, 0 ≤ x ∧ x < (n : Int)) → xs.length ≤ n
  | 0, xs, _, h => by
    cases xs with
    | nil => simp
    | cons x xs => have := h x (by simp); omega
  | n + 1, xs, hn, h => by
    have h1 := md_one hn (n : Int)
    have h2 := md_len n (xs.filter fun x => !(x == (n : Int))) (List.Pairwise.filter _ hn) (by
      intro x hx
      rw [List.mem_filter] at hx
      have := h x hx.1
      have h3 : x ≠ (n : Int) := by simpa using hx.2
      omega)
    have h3 : xs.length = (xs.filter (· == (n : Int))).length + (xs.filter fun x => !(x == (n : Int))).length := by
      have := List.length_eq_countP_add_countP (· == (n : Int)) (l := xs)
      rw [List.countP_eq_length_filter, List.countP_eq_length_filter] at this
      rw [this]
      congr 2
      apply List.filter_congr
      intro x _
      cases x == (n : Int) <;> simp
    omega
def linR (r : Rule) : Prop := r.kind = 1 ∧ (∀ c ∈ r.coefs, -9 ≤ c ∧ c ≤ 9 ∧ c ≠ 0) ∧ r.coefs.length = r.vars.length ∧ -1000 ≤ r.bound ∧ r.bound ≤ 1000 ∧ r.rows = []
def tabR (r : Rule) : Prop := (r.kind = 2 ∨ r.kind = 3 ∨ r.kind = 4) ∧ r.coefs = [] ∧ r.bound = 0 ∧ (r.kind ≠ 3 → r.rows = []) ∧ (∀ row ∈ r.rows, row.length = r.vars.length ∧ ∀ x ∈ row, 0 ≤ x ∧ x ≤ 3) ∧ r.rows.length ≤ 8
theorem rule_facts {n : Nat} (hn : n ≤ 5) {r : Rule} (h : okRule n r = true) : (∀ x ∈ r.vars, 0 ≤ x ∧ x ≤ 4) ∧ r.vars.length ≤ 5 ∧ 1 ≤ r.vars.length ∧ (linR r ∨ tabR r) := by
  unfold okRule at h
  split at h
  · cases h
  rename_i hc
  simp only [Bool.or_eq_true, Bool.and_eq_true, Bool.not_eq_true', bne_iff_ne, ne_eq, not_or, not_and, decide_eq_true_eq, Bool.and_eq_false_iff, Bool.not_eq_false, decide_eq_false_iff_not] at hc
  obtain ⟨⟨⟨h1, h2⟩, h3⟩, h4⟩ := hc
  have hr := md_range h1
  have hl := md_len n _ (md_nodup h1) hr
  refine ⟨fun x hx => by have := hr x hx; omega, by omega, by omega, ?_⟩
  have nil_of : ∀ {α : Type} {xs : List α}, ¬ ¬ ((xs.length : Int) = 0) → xs = [] := fun h => List.length_eq_zero_iff.1 (by omega)
  split at h
  · rename_i hk
    have hk : r.kind = 1 := by simpa using hk
    simp only [Bool.and_eq_true, List.all_eq_true, decide_eq_true_eq, beq_iff_eq] at h
    refine .inl ⟨hk, fun c hc => ?_, by omega, by omega, by omega, nil_of (h4 (by omega))⟩
    have := h.1 c hc
    unfold qCoef at this
    simp at this
    exact ⟨by omega, by omega, this.2⟩
  rename_i hk
  have hk : ¬ r.kind = 1 := by simpa using hk
  have h3 := h3 hk
  have hco : r.coefs = [] := nil_of h3.1
  have hbo : r.bound = 0 := by omega
  refine .inr ?_
  split at h
  · rename_i hk
    have hk : r.kind = 2 := by simpa using hk
    have : r.rows = [] := nil_of (h4 (by omega))
    exact ⟨.inl hk, hco, hbo, fun _ => this, by simp [this], by simp [this]⟩
  split at h
  · rename_i hk
    have hk : r.kind = 3 := by simpa using hk
    simp only [Bool.and_eq_true, List.all_eq_true, decide_eq_true_eq] at h
    refine ⟨.inr (.inl hk), hco, hbo, fun h => absurd hk h, fun row hrow => ?_, by omega⟩
    have := h.1 row hrow
    unfold qRow at this
    simp only [Bool.and_eq_true, beq_iff_eq, List.all_eq_true, decide_eq_true_eq] at this
    exact ⟨by omega, this.2⟩
  split at h
  · rename_i hk
    have hk : r.kind = 4 := by simpa using hk
    have : r.rows = [] := nil_of (h4 (by omega))
    exact ⟨.inr (.inr hk), hco, hbo, fun _ => this, by simp [this], by simp [this]⟩
  · cases h
def digT (xs : List Int) : List UInt8 := xs.flatMap fun x => dec x.toNat
def sgnT (n : Int) : List UInt8 := if n < 0 then 45 :: dec (-n).toNat else dec n.toNat
def pairT (p : Int × Int) : List UInt8 := 32 :: sgnT p.1 ++ 32 :: dec p.2.toNat
def rowT (row : List Int) : List UInt8 := 32 :: digT row
def wordK (k : Int) : List UInt8 := if k = 1 then [108, 105, 110, 101, 97, 114] else if k = 2 then [100, 105, 102, 102, 101, 114, 101, 110, 116] else if k = 3 then [116, 97, 98, 108, 101] else [108, 101, 115, 115]
def linT (r : Rule) : List UInt8 := wordK 1 ++ (r.coefs.zip r.vars).flatMap pairT ++ [32, 62, 61, 32] ++ sgnT r.bound
def ruleT (r : Rule) : List UInt8 := if r.kind = 1 then linT r else wordK r.kind ++ rowT r.vars ++ r.rows.flatMap rowT
def lineT (r : Rule) : List UInt8 := ruleT r ++ [10]
def modelT (m : Model) : List UInt8 := [115, 105, 122, 101, 115, 32] ++ digT m.sizes ++ [10] ++ m.rules.flatMap lineT
def fmtM (m : Model) : List UInt8 := if okModel m then modelT m else []
theorem flat_next {α β : Type} (f : α → List β) {xs : List α} {i : Nat} {x : α} (h : xs[i]? = some x) : (xs.take (i + 1)).flatMap f = (xs.take i).flatMap f ++ f x := by
  rw [List.take_add_one, h, Option.toList_some, List.flatMap_append]
  simp
theorem flat_len {α β : Type} (f : α → List β) (c : Nat) : ∀ {xs : List α}, (∀ x ∈ xs, (f x).length ≤ c) → (xs.flatMap f).length ≤ c * xs.length
  | [], _ => by simp
  | x :: xs, h => by
    have h1 := h x (by simp)
    have h2 := flat_len f c (xs := xs) fun y hy => h y (by simp [hy])
    rw [List.flatMap_cons, List.length_append, List.length_cons, Nat.mul_succ]
    omega
theorem flat_len_take {α β : Type} (f : α → List β) (c : Nat) {xs : List α} (h : ∀ x ∈ xs, (f x).length ≤ c) (i : Nat) : ((xs.take i).flatMap f).length ≤ c * xs.length := by
  have h1 := flat_len f c (xs := xs.take i) fun x hx => h x (List.mem_of_mem_take hx)
  have h2 : (xs.take i).length ≤ xs.length := by rw [List.length_take]; omega
  exact Nat.le_trans h1 (Nat.mul_le_mul_left c h2)
theorem dec1 {x : Int} (h : 0 ≤ x ∧ x ≤ 9) : (dec x.toNat).length = 1 := by rw [dec_small (by omega)]; rfl
theorem digT_len {xs : List Int} (h : ∀ x ∈ xs, 0 ≤ x ∧ x ≤ 9) : (digT xs).length ≤ xs.length := by
  have := flat_len (fun x : Int => dec x.toNat) 1 (xs := xs) fun x hx => by rw [dec1 (h x hx)]; exact Nat.le_refl _
  unfold digT
  omega
theorem sgnT_len {n : Int} (h : -1000 ≤ n ∧ n ≤ 1000) : (sgnT n).length ≤ 5 := by
  unfold sgnT
  split
  · have := dec_len 3 (-n).toNat (by omega); simp only [List.length_cons]; omega
  · have := dec_len 3 n.toNat (by omega); omega
theorem itoa_sgn {n : Int} (h : -1000 ≤ n ∧ n ≤ 1000) : strconv_Itoa n = some (bs (sgnT n)) := by
  unfold sgnT
  split
  · have := itoa_neg (n := (-n).toNat) (by omega) (by omega)
    rwa [show -(((-n).toNat : Nat) : Int) = n by omega] at this
  · exact itoa_of (by omega) (by omega)
theorem s_signed {n : Int} (h : -1000 ≤ n ∧ n ≤ 1000) {fu : Nat} (hf : 30 ≤ fu) : s_l6Signed fu n = some (bs (sgnT n)) := by
  unfold s_l6Signed sgnT
  split
  · rename_i hl
    have hl := of_decide_eq_true hl
    have := dec_len 3 (-n).toNat (by omega)
    rw [i64_id (by omega) (by omega), s_dec_of (by omega) (by omega) hf, Option.bind_some, show (⟨#[45]⟩ : ByteArray) = bs [45] from rfl, cat_bs (by simp only [List.length_cons, List.length_nil]; omega), if_pos hl]
    rfl
  · rename_i hl
    have hl : ¬ n < 0 := by simpa using hl
    rw [s_dec_of (by omega) (by omega) hf, if_neg hl]
    rfl
theorem i_digs {xs : List Int} (h : ∀ x ∈ xs, 0 ≤ x ∧ x ≤ 9) (hl : xs.length ≤ 1048576) : i_digits xs = some (bs (digT xs)) := by
  unfold i_digits
  have hloop := range_to (b := i_digits_b1) (fun i => bs (digT (xs.take i))) xs fun i x hx => by
    have hxx := h x (List.mem_of_getElem? hx)
    have h1 := flat_len_take (fun x : Int => dec x.toNat) 1 (xs := xs) (fun x hx => by rw [dec1 (h x hx)]; exact Nat.le_refl _) i
    have h2 := dec1 hxx
    unfold i_digits_b1 digT
    rw [itoa_of hxx.1 (by omega), Option.bind_some, cat_bs (by omega), Option.bind_some, flat_next (fun x : Int => dec x.toNat) hx]
  rw [show (⟨#[]⟩ : ByteArray) = bs (digT (xs.take 0)) from rfl, hloop, Option.bind_some]
  simp only [List.take_length]
theorem s_digs {xs : List Int} (h : ∀ x ∈ xs, 0 ≤ x ∧ x ≤ 9) (hl : xs.length ≤ 1048576) {fu : Nat} (hf : 30 ≤ fu) : s_l6Digits fu xs = some (bs (digT xs)) := by
  unfold s_l6Digits
  have hloop := range_to (b := s_l6Digits_b1 fu) (fun i => bs (digT (xs.take i))) xs fun i x hx => by
    have hxx := h x (List.mem_of_getElem? hx)
    have h1 := flat_len_take (fun x : Int => dec x.toNat) 1 (xs := xs) (fun x hx => by rw [dec1 (h x hx)]; exact Nat.le_refl _) i
    have h2 := dec1 hxx
    unfold s_l6Digits_b1 digT
    rw [s_dec_of hxx.1 (by omega) hf, Option.bind_some, cat_bs (by omega), Option.bind_some, flat_next (fun x : Int => dec x.toNat) hx]
  rw [show (⟨#[]⟩ : ByteArray) = bs (digT (xs.take 0)) from rfl, hloop, Option.bind_some]
  simp only [List.take_length]
theorem zip_at {α β : Type} {xs : List α} {ys : List β} (h : xs.length = ys.length) {i : Nat} {y : β} (hy : ys[i]? = some y) : ∃ x, xs[i]? = some x ∧ (xs.zip ys)[i]? = some (x, y) := by
  have hi : i < ys.length := (List.getElem?_eq_some_iff.1 hy).1
  refine ⟨xs[i], List.getElem?_eq_getElem (by omega), ?_⟩
  rw [List.getElem?_zip_eq_some]
  exact ⟨List.getElem?_eq_getElem (by omega), hy⟩
theorem pairT_len {r : Rule} (hv : ∀ x ∈ r.vars, 0 ≤ x ∧ x ≤ 4) (h : linR r) : ∀ p ∈ r.coefs.zip r.vars, (pairT p).length ≤ 8 := by
  rintro ⟨c, v⟩ hp
  have h1 := h.2.1 c (List.of_mem_zip hp).1
  have h2 := dec1 (x := v) (by have := hv v (List.of_mem_zip hp).2; omega)
  have h3 := sgnT_len (n := c) (by omega)
  unfold pairT
  simp only [List.length_append, List.length_cons]
  omega
theorem zip_len {r : Rule} (hl : r.vars.length ≤ 5) (h : linR r) : (r.coefs.zip r.vars).length ≤ 5 := by rw [List.length_zip]; omega
theorem linT_len {r : Rule} (hv : ∀ x ∈ r.vars, 0 ≤ x ∧ x ≤ 4) (hl : r.vars.length ≤ 5) (h : linR r) : (linT r).length ≤ 60 := by
  have h1 := flat_len pairT 8 (pairT_len hv h)
  have h2 := zip_len hl h
  have h3 := sgnT_len (n := r.bound) ⟨h.2.2.2.1, h.2.2.2.2.1⟩
  unfold linT wordK
  simp only [List.length_append, List.length_cons, List.length_nil, if_true]
  omega
theorem i_lin {r : Rule} (hv : ∀ x ∈ r.vars, 0 ≤ x ∧ x ≤ 4) (hl : r.vars.length ≤ 5) (h : linR r) : i_Rule_text r = some (bs (linT r)) := by
  have hz := zip_len hl h
  have hloop := range_to (b := i_Rule_text_b1 r) (fun i => bs (wordK 1 ++ ((r.coefs.zip r.vars).take i).flatMap pairT)) r.vars fun i v hvi => by
    obtain ⟨c, hc, hz⟩ := zip_at h.2.2.1 hvi
    have hcc := h.2.1 c (List.mem_of_getElem? hc)
    have hvv := hv v (List.mem_of_getElem? hvi)
    have h1 := flat_len_take pairT 8 (pairT_len hv h) i
    have h2 := dec1 (x := v) (by omega)
    have h3 := sgnT_len (n := c) (by omega)
    have h4 : (wordK 1).length = 6 := rfl
    unfold i_Rule_text_b1
    rw [idx_nat, hc, Option.bind_some, itoa_sgn (by omega), Option.bind_some, show (⟨#[32]⟩ : ByteArray) = bs [32] from rfl, cat_bs (by simp only [List.length_cons, List.length_nil]; omega), Option.bind_some,
      cat_bs (by simp only [List.length_append, List.length_cons, List.length_nil]; omega), Option.bind_some, itoa_of (by omega) (by omega), Option.bind_some, cat_bs (by simp only [List.length_append, List.length_cons, List.length_nil]; omega), Option.bind_some,
      cat_bs (by simp only [List.length_append, List.length_cons, List.length_nil]; omega), Option.bind_some, flat_next pairT hz]
    unfold pairT
    simp only [List.append_assoc, List.cons_append, List.nil_append]
  have h1 := flat_len pairT 8 (pairT_len hv h)
  have h3 := sgnT_len (n := r.bound) ⟨h.2.2.2.1, h.2.2.2.2.1⟩
  have h4 : (wordK 1).length = 6 := rfl
  have hzl : r.vars.length = (r.coefs.zip r.vars).length := by rw [List.length_zip, h.2.2.1, Nat.min_self]
  unfold i_Rule_text i_ruleWords
  rw [Option.bind_some, h.1, show idx _ (1 : Int) = some (bs (wordK 1 ++ ((r.coefs.zip r.vars).take 0).flatMap pairT)) from rfl, Option.bind_some, if_pos (by decide), hloop, Option.bind_some]
  simp only []
  rw [hzl, List.take_length, show (⟨#[32, 62, 61, 32]⟩ : ByteArray) = bs [32, 62, 61, 32] from rfl, cat_bs (by simp only [List.length_append, List.length_cons, List.length_nil]; omega), Option.bind_some, itoa_sgn ⟨h.2.2.2.1, h.2.2.2.2.1⟩, Option.bind_some,
    cat_bs (by simp only [List.length_append, List.length_cons, List.length_nil]; omega)]
  rfl
theorem s_lin {r : Rule} (hv : ∀ x ∈ r.vars, 0 ≤ x ∧ x ≤ 4) (hl : r.vars.length ≤ 5) (h : linR r) {fu : Nat} (hf : 30 ≤ fu) : s_l6Line fu r = some (bs (linT r ++ [10])) := by
  have hz := zip_len hl h
  have hloop := range_to (b := s_l6Line_b1 fu r) (fun i => bs (wordK 1 ++ ((r.coefs.zip r.vars).take i).flatMap pairT)) r.vars fun i v hvi => by
    obtain ⟨c, hc, hz⟩ := zip_at h.2.2.1 hvi
    have hcc := h.2.1 c (List.mem_of_getElem? hc)
    have hvv := hv v (List.mem_of_getElem? hvi)
    have h1 := flat_len_take pairT 8 (pairT_len hv h) i
    have h2 := dec1 (x := v) (by omega)
    have h3 := sgnT_len (n := c) (by omega)
    have h4 : (wordK 1).length = 6 := rfl
    unfold s_l6Line_b1
    simp only []
    rw [show (⟨#[32]⟩ : ByteArray) = bs [32] from rfl, cat_bs (by simp only [List.length_append, List.length_cons, List.length_nil]; omega), Option.bind_some, idx_nat, hc, Option.bind_some, s_signed (by omega) hf, Option.bind_some,
      cat_bs (by simp only [List.length_append, List.length_cons, List.length_nil]; omega), Option.bind_some, cat_bs (by simp only [List.length_append, List.length_cons, List.length_nil]; omega), Option.bind_some, s_dec_of (by omega) (by omega) hf, Option.bind_some,
      cat_bs (by simp only [List.length_append, List.length_cons, List.length_nil]; omega), Option.bind_some, flat_next pairT hz]
    unfold pairT
    simp only [List.append_assoc, List.cons_append, List.nil_append]
  have h1 := flat_len pairT 8 (pairT_len hv h)
  have h3 := sgnT_len (n := r.bound) ⟨h.2.2.2.1, h.2.2.2.2.1⟩
  have h4 : (wordK 1).length = 6 := rfl
  have hzl : r.vars.length = (r.coefs.zip r.vars).length := by rw [List.length_zip, h.2.2.1, Nat.min_self]
  unfold s_l6Line
  rw [if_pos (by simp [h.1]), show (⟨#[108, 105, 110, 101, 97, 114]⟩ : ByteArray) = bs (wordK 1 ++ ((r.coefs.zip r.vars).take 0).flatMap pairT) from rfl, hloop, Option.bind_some]
  simp only []
  rw [hzl, List.take_length, show (⟨#[32, 62, 61, 32]⟩ : ByteArray) = bs [32, 62, 61, 32] from rfl, cat_bs (by simp only [List.length_append, List.length_cons, List.length_nil]; omega), Option.bind_some, s_signed ⟨h.2.2.2.1, h.2.2.2.2.1⟩ hf, Option.bind_some,
    cat_bs (by simp only [List.length_append, List.length_cons, List.length_nil]; omega), Option.bind_some, show (⟨#[10]⟩ : ByteArray) = bs [10] from rfl, cat_bs (by simp only [List.length_append, List.length_cons, List.length_nil]; omega)]
  rfl
theorem rowsT_len {r : Rule} (hl : r.vars.length ≤ 5) (h : tabR r) : ∀ row ∈ r.rows, (rowT row).length ≤ 6 := by
  intro row hrow
  obtain ⟨h1, h2⟩ := h.2.2.2.2.1 row hrow
  have := digT_len (xs := row) fun x hx => by have := h2 x hx; omega
  unfold rowT
  simp only [List.length_cons]
  omega
theorem i_tab {r : Rule} (hv : ∀ x ∈ r.vars, 0 ≤ x ∧ x ≤ 4) (hl : r.vars.length ≤ 5) (h : tabR r) : i_Rule_text r = some (bs (wordK r.kind ++ rowT r.vars ++ r.rows.flatMap rowT)) := by
  have hw : (wordK r.kind).length ≤ 9 := by rcases h.1 with e | e | e <;> rw [e] <;> decide
  have hd := digT_len (xs := r.vars) fun x hx => by have := hv x hx; omega
  have hr := h.2.2.2.2.2
  have hloop := range_to (b := i_Rule_text_b2) (fun i => bs (wordK r.kind ++ rowT r.vars ++ (r.rows.take i).flatMap rowT)) r.rows fun i row hri => by
    have hm := List.mem_of_getElem? hri
    obtain ⟨e1, e2⟩ := h.2.2.2.2.1 row hm
    have h1 := flat_len_take rowT 6 (rowsT_len hl h) i
    have h2 := digT_len (xs := row) fun x hx => by have := e2 x hx; omega
    unfold i_Rule_text_b2
    rw [i_digs (fun x hx => by have := e2 x hx; omega) (by omega), Option.bind_some, show (⟨#[32]⟩ : ByteArray) = bs [32] from rfl, cat_bs (by simp only [List.length_cons, List.length_nil]; omega), Option.bind_some,
      cat_bs (by unfold rowT; simp only [List.length_append, List.length_cons, List.length_nil]; unfold rowT at h1; omega), Option.bind_some, flat_next rowT hri]
    unfold rowT
    simp only [List.append_assoc, List.cons_append, List.nil_append]
  unfold i_Rule_text i_ruleWords
  rw [Option.bind_some, show idx _ r.kind = some (bs (wordK r.kind)) from by rcases h.1 with e | e | e <;> rw [e] <;> rfl, Option.bind_some, if_neg (by simp only [beq_iff_eq]; have := h.1; omega), i_digs (fun x hx => by have := hv x hx; omega) (by omega), Option.bind_some,
    show (⟨#[32]⟩ : ByteArray) = bs [32] from rfl, cat_bs (by simp only [List.length_cons, List.length_nil]; omega), Option.bind_some, cat_bs (by simp only [List.length_append, List.length_cons, List.length_nil]; omega), Option.bind_some,
    show bs (wordK r.kind ++ ([32] ++ digT r.vars)) = bs (wordK r.kind ++ rowT r.vars ++ (r.rows.take 0).flatMap rowT) from by simp [rowT], hloop, Option.bind_some]
  simp only [List.take_length]
theorem s_tab {r : Rule} (hv : ∀ x ∈ r.vars, 0 ≤ x ∧ x ≤ 4) (hl : r.vars.length ≤ 5) (h : tabR r) {fu : Nat} (hf : 30 ≤ fu) : s_l6Line fu r = some (bs (wordK r.kind ++ rowT r.vars ++ r.rows.flatMap rowT ++ [10])) := by
  have hd := digT_len (xs := r.vars) fun x hx => by have := hv x hx; omega
  have hr := h.2.2.2.2.2
  unfold s_l6Line
  rw [if_neg (by simp only [beq_iff_eq]; have := h.1; omega)]
  rcases h.1 with e | e | e
  · have hn := h.2.2.2.1 (by omega)
    rw [if_pos (by simp [e]), s_digs (fun x hx => by have := hv x hx; omega) (by omega) hf, Option.bind_some, show (⟨#[100, 105, 102, 102, 101, 114, 101, 110, 116, 32]⟩ : ByteArray) = bs [100, 105, 102, 102, 101, 114, 101, 110, 116, 32] from rfl,
      cat_bs (by simp only [List.length_cons, List.length_nil]; omega), Option.bind_some, show (⟨#[10]⟩ : ByteArray) = bs [10] from rfl, cat_bs (by simp only [List.length_append, List.length_cons, List.length_nil]; omega), Option.bind_some, hn, e]
    unfold wordK rowT
    simp
  · rw [if_neg (by simp [e]), if_neg (by simp [e])]
    have hloop := range_to (b := s_l6Line_b2 fu) (fun i => bs (wordK r.kind ++ rowT r.vars ++ (r.rows.take i).flatMap rowT)) r.rows fun i row hri => by
      have hm := List.mem_of_getElem? hri
      obtain ⟨e1, e2⟩ := h.2.2.2.2.1 row hm
      have h1 := flat_len_take rowT 6 (rowsT_len hl h) i
      have h2 := digT_len (xs := row) fun x hx => by have := e2 x hx; omega
      have hw : (wordK r.kind).length ≤ 9 := by rw [e]; decide
      unfold s_l6Line_b2
      simp only []
      rw [show (⟨#[32]⟩ : ByteArray) = bs [32] from rfl, cat_bs (by unfold rowT; simp only [List.length_append, List.length_cons, List.length_nil]; unfold rowT at h1; omega), Option.bind_some, s_digs (fun x hx => by have := e2 x hx; omega) (by omega) hf, Option.bind_some,
        cat_bs (by unfold rowT; simp only [List.length_append, List.length_cons, List.length_nil]; unfold rowT at h1; omega), Option.bind_some, flat_next rowT hri]
      unfold rowT
      simp only [List.append_assoc, List.cons_append, List.nil_append]
    have h1 := flat_len rowT 6 (rowsT_len hl h)
    rw [s_digs (fun x hx => by have := hv x hx; omega) (by omega) hf, Option.bind_some, show (⟨#[116, 97, 98, 108, 101, 32]⟩ : ByteArray) = bs [116, 97, 98, 108, 101, 32] from rfl, cat_bs (by simp only [List.length_cons, List.length_nil]; omega), Option.bind_some,
      show bs ([116, 97, 98, 108, 101, 32] ++ digT r.vars) = bs (wordK r.kind ++ rowT r.vars ++ (r.rows.take 0).flatMap rowT) from by rw [e]; simp [rowT, wordK], hloop, Option.bind_some]
    have hw : (wordK r.kind).length ≤ 9 := by rw [e]; decide
    simp only [List.take_length]
    rw [show (⟨#[10]⟩ : ByteArray) = bs [10] from rfl, cat_bs (by unfold rowT; simp only [List.length_append, List.length_cons, List.length_nil]; unfold rowT at h1; omega)]
    rfl
  · have hn := h.2.2.2.1 (by omega)
    rw [if_neg (by simp [e]), if_pos (by simp [e]), s_digs (fun x hx => by have := hv x hx; omega) (by omega) hf, Option.bind_some, show (⟨#[108, 101, 115, 115, 32]⟩ : ByteArray) = bs [108, 101, 115, 115, 32] from rfl,
      cat_bs (by simp only [List.length_cons, List.length_nil]; omega), Option.bind_some, show (⟨#[10]⟩ : ByteArray) = bs [10] from rfl, cat_bs (by simp only [List.length_append, List.length_cons, List.length_nil]; omega), Option.bind_some, hn, e]
    unfold wordK rowT
    simp
theorem ruleT_lin {r : Rule} (h : linR r) : ruleT r = linT r := by unfold ruleT; rw [if_pos h.1]
theorem ruleT_tab {r : Rule} (h : tabR r) : ruleT r = wordK r.kind ++ rowT r.vars ++ r.rows.flatMap rowT := by unfold ruleT; rw [if_neg (by have := h.1; omega)]
theorem i_ruleT {n : Nat} (hn : n ≤ 5) {r : Rule} (h : okRule n r = true) : i_Rule_text r = some (bs (ruleT r)) := by
  obtain ⟨h1, h2, h3, h | h⟩ := rule_facts hn h
  · rw [ruleT_lin h]; exact i_lin h1 h2 h
  · rw [ruleT_tab h]; exact i_tab h1 h2 h
theorem s_ruleT {n : Nat} (hn : n ≤ 5) {r : Rule} (h : okRule n r = true) {fu : Nat} (hf : 30 ≤ fu) : s_l6Line fu r = some (bs (lineT r)) := by
  unfold lineT
  obtain ⟨h1, h2, h3, h | h⟩ := rule_facts hn h
  · rw [ruleT_lin h]; exact s_lin h1 h2 h hf
  · rw [ruleT_tab h]; exact s_tab h1 h2 h hf
theorem lineT_len {n : Nat} (hn : n ≤ 5) {r : Rule} (h : okRule n r = true) : (lineT r).length ≤ 80 := by
  unfold lineT
  obtain ⟨h1, h2, h3, h | h⟩ := rule_facts hn h
  · rw [ruleT_lin h]
    have := linT_len h1 h2 h
    simp only [List.length_append, List.length_cons, List.length_nil]
    omega
  · rw [ruleT_tab h]
    have h4 := flat_len rowT 6 (rowsT_len h2 h)
    have h5 := h.2.2.2.2.2
    have hw : (wordK r.kind).length ≤ 9 := by rcases h.1 with e | e | e <;> rw [e] <;> decide
    have hd := digT_len (xs := r.vars) fun x hx => by have := h1 x hx; omega
    have hro : (rowT r.vars).length = (digT r.vars).length + 1 := rfl
    simp only [List.length_append, List.length_cons, List.length_nil]
    omega
theorem model_facts {m : Model} (h : okModel m = true) : 1 ≤ m.sizes.length ∧ m.sizes.length ≤ 5 ∧ (∀ x ∈ m.sizes, 0 ≤ x ∧ x ≤ 3) ∧ m.rules.length ≤ 8 ∧ ∀ r ∈ m.rules, okRule m.sizes.length r = true := by
  obtain ⟨h1, h2, h3, h4, h5, h6⟩ := okModel_parts h
  exact ⟨h1, h2, fun x hx => qSize_iff.1 (List.all_eq_true.1 h3 x hx), h4, fun r hr => List.all_eq_true.1 h6 r hr⟩
theorem i_formatT {m : Model} (h : okModel m = true) : i_formatModel m = some (bs (modelT m)) := by
  obtain ⟨h1, h2, h3, h4, h5⟩ := model_facts h
  have h7 := digT_len (xs := m.sizes) fun x hx => by have := h3 x hx; omega
  unfold i_formatModel
  have hloop := range_to (b := i_formatModel_b1) (fun i => bs ([115, 105, 122, 101, 115, 32] ++ digT m.sizes ++ [10] ++ (m.rules.take i).flatMap lineT)) m.rules fun i r hri => by
    have hm := List.mem_of_getElem? hri
    have e1 := flat_len_take lineT 80 (fun r hr => lineT_len h2 (h5 r hr)) i
    have e2 := lineT_len h2 (h5 r hm)
    have e3 : (lineT r).length = (ruleT r).length + 1 := by simp [lineT]
    unfold i_formatModel_b1
    rw [i_ruleT h2 (h5 r hm), Option.bind_some, show (⟨#[10]⟩ : ByteArray) = bs [10] from rfl, cat_bs (by simp only [List.length_cons, List.length_nil]; omega), Option.bind_some,
      cat_bs (by simp only [List.length_append, List.length_cons, List.length_nil]; omega), Option.bind_some, flat_next lineT hri]
    simp only [List.append_assoc, lineT]
  rw [i_digs (fun x hx => by have := h3 x hx; omega) (by omega), Option.bind_some, show (⟨#[115, 105, 122, 101, 115, 32]⟩ : ByteArray) = bs [115, 105, 122, 101, 115, 32] from rfl, cat_bs (by simp only [List.length_cons, List.length_nil]; omega), Option.bind_some,
    show (⟨#[10]⟩ : ByteArray) = bs [10] from rfl, cat_bs (by simp only [List.length_append, List.length_cons, List.length_nil]; omega), Option.bind_some,
    show bs ([115, 105, 122, 101, 115, 32] ++ digT m.sizes ++ [10]) = bs ([115, 105, 122, 101, 115, 32] ++ digT m.sizes ++ [10] ++ (m.rules.take 0).flatMap lineT) from by simp, hloop, Option.bind_some]
  simp only [List.take_length, Option.bind_some]
  rfl
theorem s_fmtM (m : Model) (hs : smallM m) {fu : Nat} (hf : FU ≤ fu) : s_FormatModel fu m = some (bs (fmtM m)) := by
  have hf3 : 30 ≤ fu := by unfold FU at hf; omega
  unfold s_FormatModel fmtM
  rw [s_model m hs fu hf, Option.bind_some]
  cases h : okModel m with
  | false => rfl
  | true =>
    obtain ⟨h1, h2, h3, h4, h5⟩ := model_facts h
    have h7 := digT_len (xs := m.sizes) fun x hx => by have := h3 x hx; omega
    simp only [Bool.not_true, Bool.false_eq_true, if_false, if_true]
    have hloop := range_to (b := s_FormatModel_b1 fu) (fun i => bs ([115, 105, 122, 101, 115, 32] ++ digT m.sizes ++ [10] ++ (m.rules.take i).flatMap lineT)) m.rules fun i r hri => by
      have hm := List.mem_of_getElem? hri
      have e1 := flat_len_take lineT 80 (fun r hr => lineT_len h2 (h5 r hr)) i
      have e2 := lineT_len h2 (h5 r hm)
      unfold s_FormatModel_b1
      rw [s_ruleT h2 (h5 r hm) hf3, Option.bind_some, cat_bs (by simp only [List.length_append, List.length_cons, List.length_nil]; omega), Option.bind_some, flat_next lineT hri]
      simp only [List.append_assoc]
    rw [s_digs (fun x hx => by have := h3 x hx; omega) (by omega) hf3, Option.bind_some, show (⟨#[115, 105, 122, 101, 115, 32]⟩ : ByteArray) = bs [115, 105, 122, 101, 115, 32] from rfl, cat_bs (by simp only [List.length_cons, List.length_nil]; omega), Option.bind_some,
      show (⟨#[10]⟩ : ByteArray) = bs [10] from rfl, cat_bs (by simp only [List.length_append, List.length_cons, List.length_nil]; omega), Option.bind_some,
      show bs ([115, 105, 122, 101, 115, 32] ++ digT m.sizes ++ [10]) = bs ([115, 105, 122, 101, 115, 32] ++ digT m.sizes ++ [10] ++ (m.rules.take 0).flatMap lineT) from by simp, hloop, Option.bind_some]
    simp only [List.take_length, Option.bind_some]
    rfl
end Go.L
namespace Go.L
open Go Go.E
set_option linter.unusedSimpArgs false
set_option linter.unusedVariables false
set_option maxRecDepth 100000
theorem dec_not {c : UInt8} (h : c.toNat < 48) (n : Nat) : c ∉ dec n := fun hm => by have := (dec_digit n c hm).1; omega
theorem sgnT_not {c : UInt8} (h : c.toNat < 45) (n : Int) : c ∉ sgnT n := by
  unfold sgnT
  split
  · intro hm
    rcases List.mem_cons.1 hm with e | e
    · subst e; simp at h
    · exact dec_not (by omega) _ e
  · exact dec_not (by omega) _
theorem digT_not {c : UInt8} (h : c.toNat < 48) (xs : List Int) : c ∉ digT xs := by
  unfold digT
  intro hm
  obtain ⟨x, _, hx⟩ := List.mem_flatMap.1 hm
  exact dec_not h _ hx
theorem wordK_not (c : UInt8) (h : c.toNat < 97) (k : Int) : c ∉ wordK k := by
  have h1 : ∀ l : List UInt8, (∀ b ∈ l, 97 ≤ b.toNat) → c ∉ l := fun l hl hm => by have := hl c hm; omega
  unfold wordK
  refine h1 _ ?_
  split
  · decide
  · split
    · decide
    · split
      · decide
      · decide
theorem split_join {c : UInt8} : ∀ (ws : List (List UInt8)) (w : List UInt8), c ∉ w → (∀ x ∈ ws, c ∉ x) → splitC c (w ++ ws.flatMap (fun x => c :: x)) = w :: ws
  | [], w, h, _ => by simp [splitC_none h]
  | x :: ws, w, h, hs => by
    rw [List.flatMap_cons, List.cons_append, splitC_cut _ h, split_join ws x (hs x (by simp)) fun y hy => hs y (by simp [hy])]
theorem split_ends {c : UInt8} : ∀ (ws : List (List UInt8)), (∀ w ∈ ws, c ∉ w) → splitC c (ws.flatMap fun w => w ++ [c]) = ws ++ [[]]
  | [], _ => rfl
  | w :: ws, h => by
    rw [List.flatMap_cons, List.append_assoc, List.singleton_append, splitC_cut _ (h w (by simp)), split_ends ws fun x hx => h x (by simp [hx])]
    rfl
def pairsW (l : List (Int × Int)) : List (List UInt8) := l.flatMap fun p => [sgnT p.1, dec p.2.toNat]
def linW (r : Rule) : List (List UInt8) := pairsW (r.coefs.zip r.vars) ++ [[62, 61], sgnT r.bound]
def wordsR (r : Rule) : List (List UInt8) := if r.kind = 1 then linW r else digT r.vars :: r.rows.map digT
theorem pairsW_join (c : List UInt8 → List UInt8) (l : List (Int × Int)) (h : c = fun x => 32 :: x) : (pairsW l).flatMap c = l.flatMap pairT := by
  subst h
  unfold pairsW
  induction l with
  | nil => rfl
  | cons p l ih =>
    rw [List.flatMap_cons, List.flatMap_append, ih, List.flatMap_cons]
    unfold pairT
    simp
theorem pairsW_mem {l : List (Int × Int)} {x : List UInt8} (h : x ∈ pairsW l) : ∃ p ∈ l, x = sgnT p.1 ∨ x = dec p.2.toNat := by
  obtain ⟨p, hp, hx⟩ := List.mem_flatMap.1 h
  refine ⟨p, hp, ?_⟩
  simpa using hx
theorem wordsR_not {c : UInt8} (h : c.toNat < 45) (r : Rule) : ∀ x ∈ wordsR r, c ∉ x := by
  intro x hx
  unfold wordsR at hx
  split at hx
  · unfold linW at hx
    rcases List.mem_append.1 hx with h1 | h1
    · obtain ⟨p, _, rfl | rfl⟩ := pairsW_mem h1
      · exact sgnT_not h _
      · exact dec_not (by omega) _
    · simp only [List.mem_cons, List.mem_nil_iff, or_false] at h1
      rcases h1 with rfl | rfl
      · intro hm
        simp only [List.mem_cons, List.mem_nil_iff, or_false] at hm
        rcases hm with rfl | rfl <;> simp at h
      · exact sgnT_not h _
  · rcases List.mem_cons.1 hx with rfl | h1
    · exact digT_not (by omega) _
    · obtain ⟨row, _, rfl⟩ := List.mem_map.1 h1
      exact digT_not (by omega) _
theorem ruleT_words (r : Rule) : ruleT r = wordK r.kind ++ (wordsR r).flatMap (fun x => 32 :: x) := by
  unfold ruleT wordsR
  split
  · rename_i h
    unfold linT linW
    rw [h, List.flatMap_append, pairsW_join _ _ rfl]
    simp
  · rw [List.flatMap_cons, List.flatMap_map]
    unfold rowT
    simp
theorem split_rule (r : Rule) : splitC 32 (ruleT r) = wordK r.kind :: wordsR r := by
  rw [ruleT_words, split_join _ _ (wordK_not 32 (by decide) _) (wordsR_not (by decide) r)]
theorem ruleT_not10 (r : Rule) : (10 : UInt8) ∉ ruleT r := by
  rw [ruleT_words]
  intro hm
  rcases List.mem_append.1 hm with h | h
  · exact wordK_not 10 (by decide) _ h
  · obtain ⟨x, hx, h1⟩ := List.mem_flatMap.1 h
    rcases List.mem_cons.1 h1 with h2 | h2
    · exact absurd h2 (by decide)
    · exact wordsR_not (by decide) r x hx h2
def headM (m : Model) : List UInt8 := [115, 105, 122, 101, 115, 32] ++ digT m.sizes
theorem modelT_lines (m : Model) : modelT m = (headM m :: m.rules.map ruleT).flatMap fun w => w ++ [10] := by
  unfold modelT headM lineT
  rw [List.flatMap_cons, List.flatMap_map]
theorem split_model (m : Model) : splitC 10 (modelT m) = headM m :: m.rules.map ruleT ++ [[]] := by
  rw [modelT_lines, split_ends]
  intro w hw
  rcases List.mem_cons.1 hw with rfl | h
  · unfold headM
    intro hm
    rcases List.mem_append.1 hm with h | h
    · exact absurd h (by decide)
    · exact digT_not (by decide) _ h
  · obtain ⟨r, _, rfl⟩ := List.mem_map.1 h
    exact ruleT_not10 r
def rdN (l : List UInt8) : Int := if l.head? = some 45 then -((val 0 (l.drop 1) : Nat) : Int) else ((val 0 l : Nat) : Int)
def rdD (l : List UInt8) : List Int := l.map fun b => (b.toNat : Int) - 48
theorem dec_head45 (n : Nat) : (dec n).head? ≠ some 45 := by
  intro h
  have := dec_digit n 45 (List.mem_of_mem_head? h)
  simp at this
theorem rdN_dec {x : Int} (h : 0 ≤ x) : rdN (dec x.toNat) = x := by
  unfold rdN
  rw [if_neg (dec_head45 _), val_dec]
  omega
theorem rdN_sgn (n : Int) : rdN (sgnT n) = n := by
  unfold sgnT
  split
  · unfold rdN
    rw [List.head?_cons, if_pos rfl, List.drop_one, List.tail_cons, val_dec]
    omega
  · exact rdN_dec (by omega)
theorem digT_map {xs : List Int} (h : ∀ x ∈ xs, 0 ≤ x ∧ x ≤ 9) : digT xs = xs.map fun x => UInt8.ofNat (48 + x.toNat) := by
  unfold digT
  induction xs with
  | nil => rfl
  | cons x xs ih =>
    have := h x (by simp)
    rw [List.flatMap_cons, List.map_cons, dec_small (by omega), ih fun y hy => h y (by simp [hy])]
    rfl
theorem rdD_dig {xs : List Int} (h : ∀ x ∈ xs, 0 ≤ x ∧ x ≤ 9) : rdD (digT xs) = xs := by
  rw [digT_map h]
  unfold rdD
  rw [List.map_map]
  conv => rhs; rw [← List.map_id xs]
  apply List.map_congr_left
  intro x hx
  have := h x hx
  simp only [Function.comp, UInt8.toNat_ofNat', id]
  omega
theorem digT_inj {xs ys : List Int} (hx : ∀ x ∈ xs, 0 ≤ x ∧ x ≤ 9) (hy : ∀ x ∈ ys, 0 ≤ x ∧ x ≤ 9) (h : digT xs = digT ys) : xs = ys := by rw [← rdD_dig hx, h, rdD_dig hy]
theorem wordK_inj {j k : Int} (hj : 1 ≤ j ∧ j ≤ 4) (hk : 1 ≤ k ∧ k ≤ 4) (h : wordK j = wordK k) : j = k := by
  obtain rfl | rfl | rfl | rfl : j = 1 ∨ j = 2 ∨ j = 3 ∨ j = 4 := by omega
  all_goals
    obtain rfl | rfl | rfl | rfl : k = 1 ∨ k = 2 ∨ k = 3 ∨ k = 4 := by omega
    all_goals first | rfl | exact absurd h (by decide)
theorem pairsW_len (l : List (Int × Int)) : (pairsW l).length = 2 * l.length := by
  induction l with
  | nil => rfl
  | cons p l ih => unfold pairsW at ih ⊢; rw [List.flatMap_cons, List.length_append, ih]; simp; omega
theorem pairsW_inj : ∀ {a b : List (Int × Int)}, (∀ p ∈ a, 0 ≤ p.2) → (∀ p ∈ b, 0 ≤ p.2) → pairsW a = pairsW b → a = b
  | [], [], _, _, _ => rfl
  | [], q :: b, _, _, h => by simp [pairsW] at h
  | p :: a, [], _, _, h => by simp [pairsW] at h
  | p :: a, q :: b, ha, hb, h => by
    unfold pairsW at h
    rw [List.flatMap_cons, List.flatMap_cons] at h
    simp only [List.cons_append, List.nil_append, List.cons.injEq] at h
    obtain ⟨h1, h2, h3⟩ := h
    have e1 : p.1 = q.1 := by rw [← rdN_sgn p.1, h1, rdN_sgn]
    have e2 : p.2 = q.2 := by rw [← rdN_dec (ha p (by simp)), h2, rdN_dec (hb q (by simp))]
    rw [pairsW_inj (fun x hx => ha x (by simp [hx])) (fun x hx => hb x (by simp [hx])) h3, Prod.ext e1 e2]
theorem zip_inj {α β : Type} {a a' : List α} {b b' : List β} (h : a.length = b.length) (h' : a'.length = b'.length) (e : a.zip b = a'.zip b') : a = a' ∧ b = b' := by
  have e1 := congrArg (List.map Prod.fst) e
  have e2 := congrArg (List.map Prod.snd) e
  rw [List.map_fst_zip (by omega), List.map_fst_zip (by omega)] at e1
  rw [List.map_snd_zip (by omega), List.map_snd_zip (by omega)] at e2
  exact ⟨e1, e2⟩
theorem rule_inj {n k : Nat} (hn : n ≤ 5) (hk : k ≤ 5) {r q : Rule} (hr : okRule n r = true) (hq : okRule k q = true) (h : ruleT r = ruleT q) : r = q := by
  obtain ⟨r1, r2, r3, r4⟩ := rule_facts hn hr
  obtain ⟨q1, q2, q3, q4⟩ := rule_facts hk hq
  have kr : 1 ≤ r.kind ∧ r.kind ≤ 4 := by
    rcases r4 with h | h
    · have := h.1; omega
    · have := h.1; omega
  have kq : 1 ≤ q.kind ∧ q.kind ≤ 4 := by
    rcases q4 with h | h
    · have := h.1; omega
    · have := h.1; omega
  have hs := congrArg (splitC 32) h
  rw [split_rule, split_rule, List.cons.injEq] at hs
  have ek := wordK_inj kr kq hs.1
  have hw := hs.2
  unfold wordsR at hw
  rcases r4 with ⟨a1, a2, a3, a4, a5, a6⟩ | ⟨a1, a2, a3, a4, a5, a6⟩
  · rcases q4 with ⟨b1, b2, b3, b4, b5, b6⟩ | ⟨b1, _⟩
    · rw [if_pos a1, if_pos b1] at hw
      unfold linW at hw
      have hl : (pairsW (r.coefs.zip r.vars)).length = (pairsW (q.coefs.zip q.vars)).length := by
        have := congrArg List.length hw
        simp only [List.length_append, List.length_cons, List.length_nil] at this
        omega
      obtain ⟨h1, h2⟩ := List.append_inj hw hl
      have e1 := pairsW_inj (fun p hp => (r1 p.2 (List.of_mem_zip (show (p.1, p.2) ∈ _ from hp)).2).1) (fun p hp => (q1 p.2 (List.of_mem_zip (show (p.1, p.2) ∈ _ from hp)).2).1) h1
      obtain ⟨e2, e3⟩ := zip_inj a3 b3 e1
      simp only [List.cons.injEq, and_true, true_and] at h2
      have e4 : r.bound = q.bound := by rw [← rdN_sgn r.bound, h2, rdN_sgn]
      obtain ⟨_, _, _, _, _⟩ := r
      obtain ⟨_, _, _, _, _⟩ := q
      simp only at ek e2 e3 e4 a6 b6
      subst ek e2 e3 e4 a6 b6
      rfl
    · omega
  · rcases q4 with ⟨b1, _⟩ | ⟨b1, b2, b3, b4, b5, b6⟩
    · omega
    · rw [if_neg (by omega), if_neg (by omega), List.cons.injEq] at hw
      have e1 := digT_inj (fun x hx => by have := r1 x hx; omega) (fun x hx => by have := q1 x hx; omega) hw.1
      have e2 : r.rows = q.rows := by
        have h2 := hw.2
        have hm : ∀ rows : List (List Int), (∀ row ∈ rows, ∀ x ∈ row, 0 ≤ x ∧ x ≤ 3) → (rows.map digT).map rdD = rows := by
          intro rows hrows
          rw [List.map_map]
          conv => rhs; rw [← List.map_id rows]
          apply List.map_congr_left
          intro row hrow
          exact rdD_dig fun x hx => by have := hrows row hrow x hx; omega
        rw [← hm r.rows fun row hrow => (a5 row hrow).2, h2, hm q.rows fun row hrow => (b5 row hrow).2]
      obtain ⟨_, _, _, _, _⟩ := r
      obtain ⟨_, _, _, _, _⟩ := q
      simp only at ek e1 e2 a2 a3 b2 b3
      subst ek e1 e2 a2 a3 b2 b3
      rfl
theorem map_inj {α β : Type} (f : α → β) : ∀ {xs ys : List α}, (∀ x ∈ xs, ∀ y ∈ ys, f x = f y → x = y) → xs.map f = ys.map f → xs = ys
  | [], [], _, _ => rfl
  | [], _ :: _, _, h => by simp at h
  | _ :: _, [], _, h => by simp at h
  | x :: xs, y :: ys, hf, h => by
    rw [List.map_cons, List.map_cons, List.cons.injEq] at h
    rw [hf x (by simp) y (by simp) h.1, map_inj f (fun a ha b hb => hf a (by simp [ha]) b (by simp [hb])) h.2]
theorem model_inj {a b : Model} (ha : okModel a = true) (hb : okModel b = true) (h : modelT a = modelT b) : a = b := by
  obtain ⟨a1, a2, a3, a4, a5⟩ := model_facts ha
  obtain ⟨b1, b2, b3, b4, b5⟩ := model_facts hb
  have hs := congrArg (splitC 10) h
  rw [split_model, split_model] at hs
  have hs := List.append_cancel_right hs
  rw [List.cons.injEq] at hs
  have e1 : a.sizes = b.sizes := by
    have := hs.1
    unfold headM at this
    exact digT_inj (fun x hx => by have := a3 x hx; omega) (fun x hx => by have := b3 x hx; omega) (List.append_cancel_left this)
  have e2 : a.rules = b.rules := map_inj ruleT (fun x hx y hy e => rule_inj a2 b2 (a5 x hx) (b5 y hy) e) hs.2
  obtain ⟨_, _⟩ := a
  obtain ⟨_, _⟩ := b
  simp only at e1 e2
  subst e1 e2
  rfl
end Go.L
namespace Go.L
open Go Go.E
set_option linter.unusedVariables false
set_option linter.unusedSimpArgs false
set_option maxRecDepth 100000
def So {α : Type} (x : Option α) (P : α → Prop) : Prop := ∃ a, x = some a ∧ P a
section
variable {α β σ τ : Type}
theorem so_some {a : α} {P : α → Prop} (h : P a) : So (some a) P := ⟨a, rfl, h⟩
theorem so_bind {x : Option α} {f : α → Option β} {P : α → Prop} {Q : β → Prop} (hx : So x P) (hf : ∀ a, P a → So (f a) Q) : So (x.bind f) Q := by
  obtain ⟨a, rfl, ha⟩ := hx
  exact hf a ha
theorem so_mono {x : Option α} {P Q : α → Prop} (hx : So x P) (h : ∀ a, P a → Q a) : So x Q := by
  obtain ⟨a, ha, hp⟩ := hx
  exact ⟨a, ha, h a hp⟩
theorem so_ite {c : Prop} [Decidable c] {x y : Option α} {P : α → Prop} (h1 : c → So x P) (h2 : ¬ c → So y P) : So (if c then x else y) P := by
  split
  · exact h1 ‹_›
  · exact h2 ‹_›
theorem so_idx {xs : List α} {k : Int} {P : α → Prop} (h0 : 0 ≤ k) (h1 : k < (xs.length : Int)) (h : ∀ x ∈ xs, P x) : So (idx xs k) P := by
  have hl : k.toNat < xs.length := by omega
  exact ⟨_, idx_get h0 hl, h _ (List.getElem_mem hl)⟩
theorem so_range {b : Nat → α → σ → Option (Lo σ τ)} (I : Nat → σ → Prop) (xs : List α) (s : σ) (h0 : I 0 s) (h : ∀ i x s, xs[i]? = some x → I i s → So (b i x s) fun o => ∃ s', o = .cont s' ∧ I (i + 1) s') :
    So (rangeL b xs 0 s) fun j => ∃ s', j = .nx s' ∧ I xs.length s' := by
  obtain ⟨j, hj, hQ⟩ := range_inv (b := b) xs I (fun j => ∃ s', j = .nx s' ∧ I xs.length s') (fun s hs => ⟨s, rfl, hs⟩) (fun i x s hx hI => by
    obtain ⟨o, ho, s', rfl, hs'⟩ := h i x s hx hI
    exact ⟨_, ho, hs'⟩) s h0
  exact ⟨j, hj, hQ⟩
end
end Go.L
namespace Go.L
open Go Go.E
set_option linter.unusedSimpArgs false
set_option linter.unusedVariables false
set_option maxRecDepth 100000
end Go.L
namespace Go.L
open Go Go.E
set_option linter.unusedSimpArgs false
set_option linter.unusedVariables false
end Go.L
namespace Go.L
open Go Go.E
set_option linter.unusedSimpArgs false
set_option linter.unusedVariables false
set_option maxRecDepth 100000
theorem parse_val : ∀ (l : List UInt8) (a : Nat), (∀ b ∈ l, 48 ≤ b.toNat ∧ b.toNat ≤ 57) → val a l ≤ 1000000000000 → Go.Lib.parseUint10 a l = .ok (val a l)
  | [], a, _, _ => rfl
  | b :: l, a, h, hv => by
    have h1 := h b (by simp)
    have h2 : a * 10 + (b.toNat - 48) ≤ val a (b :: l) := val_ge l _
    rw [Go.Lib.parseUint10, if_pos h1, if_neg (by omega), if_neg (by omega)]
    exact parse_val l _ (fun x hx => h x (by simp [hx])) hv
theorem atoi_dec {n : Nat} (h : n ≤ 1000000000000) : Go.Lib.atoiAll (dec n) = .ok (n : Int) := by
  have hd := dec_digit n
  have hv := val_dec n
  have hp := dec_pos n
  cases hl : dec n with
  | nil => rw [hl] at hp; simp at hp
  | cons c r =>
    rw [hl] at hd hv
    have hc := hd c (by simp)
    unfold Go.Lib.atoiAll
    simp only
    rw [if_neg (by omega), Go.Lib.parseMag, if_neg (by simp), parse_val _ _ hd (by omega), hv]
    simp only
    rw [if_neg (by omega), if_neg (by omega), if_neg (by omega)]
def numI (l : List UInt8) : Int := if (atoiR (bs l) (Go.Lib.atoiAll l)).2 then 0 else (atoiR (bs l) (Go.Lib.atoiAll l)).1
theorem i_num {l : List UInt8} (h : l.length ≤ 1048576) : i_number (bs l) = some (numI l) := by
  unfold i_number strconv_Atoi
  rw [if_pos (by rw [bs_size]; omega), Option.bind_some, bs_list]
  unfold numI
  split <;> rfl
theorem numI_dec {n : Nat} (h : n ≤ 1000000000000) : numI (dec n) = (n : Int) := by
  unfold numI
  rw [atoi_dec h]
  rfl
theorem s_num_some {l : List UInt8} (h : l.length ≤ 1048576) : So (s_l17Num (bs l)) fun _ => True := by
  unfold s_l17Num
  refine so_bind (P := fun b2 => b2 = true → 1 ≤ l.length) (so_ite (fun hc => ?_) fun _ => so_some (by simp)) fun b2 hb2 => ?_
  · have hc := of_decide_eq_true hc
    rw [bs_size] at hc
    rw [sidx_bs]
    exact so_bind (so_idx (P := fun _ => True) (by omega) (by omega) fun _ _ => trivial) fun _ _ => so_some fun _ => by omega
  refine so_bind (P := fun s => ∃ q : List UInt8, s = bs q ∧ q.length ≤ 1048576) (so_ite (fun hc => ?_) fun _ => so_some ⟨l, rfl, h⟩) fun s ⟨q, hs, hq⟩ => ?_
  · have := hb2 hc
    rw [show ((1 : Int)) = ((1 : Nat) : Int) from rfl, ssl_from this]
    exact so_bind (so_some (P := fun s => s = bs (l.drop 1)) rfl) fun s hs => so_some ⟨_, hs, by simp; omega⟩
  subst hs
  rw [bs_size, sidx_bs]
  refine so_bind (P := fun _ => True) (so_ite (fun _ => so_some trivial) fun hc => ?_) fun b10 _ => so_ite (fun _ => so_some trivial) fun _ => ?_
  · simp only [Bool.or_eq_true, beq_iff_eq, decide_eq_true_eq, not_or] at hc
    exact so_bind (so_idx (P := fun _ => True) (by omega) (by omega) fun _ _ => trivial) fun _ _ => so_some trivial
  rw [cntF_nat (by omega)]
  refine so_bind (so_some (P := fun k => k = q.length) rfl) fun k hk => ?_
  subst hk
  have hloop : So (countL (s_l17Num_b1 (bs q)) q.length 0 0) fun _ => True := by
    refine count_inv (fun _ _ => True) (fun _ => True) q.length 0 (fun _ _ => trivial) (fun i s _ hi _ => ?_) 0 trivial
    unfold s_l17Num_b1
    rw [sidx_bs, idx_lt (by omega), Option.bind_some]
    split
    · exact ⟨_, rfl, trivial⟩
    · exact ⟨_, rfl, trivial⟩
  refine so_bind hloop fun j _ => ?_
  cases j with
  | out t => exact so_some trivial
  | nx n => exact so_bind (so_ite (P := fun _ => True) (fun _ => so_some trivial) fun _ => so_some trivial) fun _ _ => so_some trivial
noncomputable def numS (l : List UInt8) : Int := ((s_l17Num (bs l)).getD (0, false)).1
theorem s_num {l : List UInt8} (h : l.length ≤ 1048576) : ∃ b, s_l17Num (bs l) = some (numS l, b) := by
  obtain ⟨r, hr, _⟩ := s_num_some h
  refine ⟨r.2, ?_⟩
  unfold numS
  rw [hr]
  rfl
theorem val_lt_take {l : List UInt8} {i : Nat} (hi : i < l.length) : val 0 (l.take (i + 1)) = val 0 (l.take i) * 10 + ((l[i]).toNat - 48) := by
  unfold val
  rw [List.take_add_one, List.getElem?_eq_getElem hi, Option.toList_some, List.foldl_append]
  rfl
theorem val_take_le {l : List UInt8} (i : Nat) : val 0 (l.take i) ≤ val 0 l := by
  have h : val 0 l = val (val 0 (l.take i)) (l.drop i) := by
    unfold val
    rw [← List.foldl_append, List.take_append_drop]
  rw [h]
  exact val_ge _ _
theorem s_num_dec {n : Nat} (h : n ≤ 1000000) : s_l17Num (bs (dec n)) = some ((n : Int), true) := by
  have hd := dec_digit n
  have hv := val_dec n
  have hp := dec_pos n
  have hlen := dec_len 6 n (by omega)
  have hh := dec_head n
  have h0 : (dec n).length ≠ 1 → n ≠ 0 := by
    rintro h1 rfl
    exact h1 (by rw [dec_small (by omega)]; rfl)
  generalize dec n = l at *
  obtain ⟨c, r, rfl⟩ : ∃ c r, l = c :: r := by
    cases l with
    | nil => simp at hp
    | cons c r => exact ⟨c, r, rfl⟩
  have hc := hd c (by simp)
  unfold s_l17Num
  simp only [bs_size, sidx_bs]
  rw [if_pos (by simp only [decide_eq_true_eq]; omega), show idx (c :: r) 0 = some c from rfl, Option.bind_some, Option.bind_some, show ((c.toNat : Int) == 45) = false from by simp only [beq_eq_false_iff_ne]; omega]
  simp only [Bool.false_eq_true, if_false, Option.bind_some, bs_size, sidx_bs, show idx (c :: r) 0 = some c from rfl]
  rw [if_neg (by simp only [Bool.or_eq_true, beq_iff_eq, decide_eq_true_eq, not_or]; omega), Option.bind_some]
  have hb : (((c.toNat : Int) == 48) && ((decide (((c :: r).length : Int) > 1)) || false)) = false := by
    cases hx : ((c.toNat : Int) == 48) with
    | false => rfl
    | true =>
      simp only [beq_iff_eq] at hx
      have e : c = 48 := UInt8.toNat_inj.1 (by show c.toNat = 48; omega)
      simp only [Bool.true_and, Bool.or_false, decide_eq_false_iff_not]
      intro hgt
      exact hh (h0 (by omega)) (by rw [e]; rfl)
  rw [hb]
  simp only [Bool.false_eq_true, if_false]
  rw [cntF_nat (by omega), Option.bind_some]
  have hloop := count_to (b := s_l17Num_b1 (bs (c :: r))) (fun i => ((val 0 ((c :: r).take i) : Nat) : Int)) (c :: r).length 0 (fun i _ hi => by
    have hi : i < (c :: r).length := by omega
    have hdi := hd (c :: r)[i] (List.getElem_mem hi)
    have hle := val_take_le (l := c :: r) (i + 1)
    have hst := val_lt_take hi
    unfold s_l17Num_b1
    rw [sidx_bs, idx_lt hi, Option.bind_some, if_neg (by simp only [Bool.or_eq_true, decide_eq_true_eq, not_or]; omega), wrap_u8 (by omega) (by omega), i64_id (n := (((c :: r)[i]).toNat : Int) - 48) (by omega) (by omega), i64_id (n := _ * 10) (by omega) (by omega), i64_id (by omega) (by omega)]
    congr 2
    omega)
  rw [Nat.zero_add] at hloop
  rw [show ((0 : Int)) = ((val 0 ((c :: r).take 0) : Nat) : Int) from rfl, hloop, Option.bind_some]
  simp only [List.take_length, hv, Option.bind_some]
theorem numS_dec {n : Nat} (h : n ≤ 1000000) : numS (dec n) = (n : Int) := by
  unfold numS
  rw [s_num_dec h]
  rfl
end Go.L
namespace Go.L
open Go Go.E
set_option linter.unusedVariables false
set_option linter.unusedSimpArgs false
set_option maxRecDepth 100000
def FV : Nat := 2000000
def chain {α : Type} (P : α → Int → Int → Prop) : List α → Int → Int → Prop
  | [], k, k' => k = k'
  | y :: ys, k, k' => ∃ k1, P y k k1 ∧ chain P ys k1 k'
theorem chain_range {α τ : Type} {P : α → Int → Int → Prop} {b : Nat → α → Int → Option (Lo Int τ)} (hb : ∀ i y k k', P y k k' → b i y k = some (.cont k')) :
    ∀ (ys : List α) (i : Nat) (k k' : Int), chain P ys k k' → rangeL b ys i k = some (.nx k')
  | [], i, k, k', h => by obtain rfl := h; rfl
  | y :: ys, i, k, k', ⟨k1, h1, h2⟩ => by show (b i y k).bind _ = _; rw [hb i y k k1 h1]; exact chain_range hb ys (i + 1) k1 k' h2
theorem drop_set_cons {α : Type} {a : List α} {i : Nat} {y : α} (h : a[i]? = some y) : a.drop i = y :: a.drop (i + 1) := by
  obtain ⟨hi, rfl⟩ := List.getElem?_eq_some_iff.1 h
  rw [List.drop_eq_getElem_cons hi]
theorem mark_loop {α τ : Type} {b : (List α × Int × Int) → Option (Lo (List α × Int × Int) τ)} (P : α → Int → Int → Prop) (c K : Int) (hc : 0 ≤ c) (xs : List α) (hlen : xs.length ≤ 1048576)
    (h : ∀ (a : List α) (k : Int) (i : Nat) (x : α), a[i]? = some x → x ∈ xs → 0 ≤ k → k ≤ K → ∃ y k', b (a, k, i) = some (.cont (a.set i y, k', i64 ((i : Int) + 1))) ∧ P y k k' ∧ k ≤ k' ∧ k' ≤ k + c)
    (hb : ∀ (a : List α) (k : Int) (i : Nat), a.length ≤ i → b (a, k, i) = some (.brk (a, k, i))) :
    ∀ (n : Nat) (i : Nat) (a : List α) (k : Int) (fu : Nat), xs.length = i + n → a.length = xs.length → (∀ j, i ≤ j → a[j]? = xs[j]?) → n < fu → 0 ≤ k → k + n * c ≤ K →
      ∃ a' k' j, whileL b fu (a, k, i) = some (.nx (a', k', j)) ∧ a'.length = xs.length ∧ (∀ j, j < i → a'[j]? = a[j]?) ∧ chain P (a'.drop i) k k' ∧ k ≤ k' ∧ k' ≤ k + n * c
  | 0, i, a, k, fu, hn, ha, hj, hf, h0, hK => by
    obtain ⟨f, rfl⟩ : ∃ f, fu = f + 1 := ⟨fu - 1, by omega⟩
    refine ⟨a, k, i, ?_, ha, fun _ _ => rfl, ?_, by omega, by simp⟩
    · show (b (a, k, (i : Int))).bind _ = _
      rw [hb a k i (by omega)]; rfl
    · rw [List.drop_of_length_le (by omega)]; rfl
  | n + 1, i, a, k, fu, hn, ha, hj, hf, h0, hK => by
    obtain ⟨f, rfl⟩ : ∃ f, fu = f + 1 := ⟨fu - 1, by omega⟩
    have hi : i < a.length := by omega
    have hx : a[i]? = some a[i] := List.getElem?_eq_getElem hi
    have hm : a[i] ∈ xs := by
      have := hj i (Nat.le_refl _)
      rw [hx] at this
      exact List.mem_of_getElem? this.symm
    have hnc : ((n + 1 : Nat) : Int) * c = n * c + c := by rw [Int.natCast_add, Int.add_mul]; simp
    have hpos : 0 ≤ (n : Int) * c := Int.mul_nonneg (by omega) hc
    obtain ⟨y, k1, e, hP, h1, h2⟩ := h a k i a[i] hx hm h0 (by omega)
    obtain ⟨a', k', j', e', hl', hs', hch, h3, h4⟩ := mark_loop P c K hc xs hlen h hb n (i + 1) (a.set i y) k1 f (by omega) (by rw [List.length_set]; exact ha)
      (fun j hij => by rw [List.getElem?_set_ne (by omega)]; exact hj j (by omega)) (by omega) (by omega) (by omega)
    refine ⟨a', k', j', ?_, hl', ?_, ?_, by omega, by omega⟩
    · show (b (a, k, (i : Int))).bind _ = _
      rw [e]
      show whileL b f (a.set i y, k1, i64 ((i : Int) + 1)) = _
      rw [i64_id (by omega) (by omega)]
      exact e'
    · intro j hji
      rw [hs' j (by omega), List.getElem?_set_ne (by omega)]
    · have hy : a'[i]? = some y := by rw [hs' i (by omega), List.getElem?_set_self (by omega)]
      rw [drop_set_cons hy]
      exact ⟨k1, hP, hch⟩
theorem mark_all {α τ : Type} {b : (List α × Int × Int) → Option (Lo (List α × Int × Int) τ)} (P : α → Int → Int → Prop) (c K : Int) (hc : 0 ≤ c) (xs : List α) (hlen : xs.length ≤ 1048576)
    (h : ∀ (a : List α) (k : Int) (i : Nat) (x : α), a[i]? = some x → x ∈ xs → 0 ≤ k → k ≤ K → ∃ y k', b (a, k, i) = some (.cont (a.set i y, k', i64 ((i : Int) + 1))) ∧ P y k k' ∧ k ≤ k' ∧ k' ≤ k + c)
    (hb : ∀ (a : List α) (k : Int) (i : Nat), a.length ≤ i → b (a, k, i) = some (.brk (a, k, i))) (k : Int) (fu : Nat) (hf : FV ≤ fu) (h0 : 0 ≤ k) (hK : k + 1048576 * c ≤ K) :
    ∃ a' k' j, whileL b fu (xs, k, 0) = some (.nx (a', k', j)) ∧ a'.length = xs.length ∧ chain P a' k k' ∧ k ≤ k' ∧ k' ≤ k + 1048576 * c := by
  have hm : (xs.length : Int) * c ≤ 1048576 * c := Int.mul_le_mul_of_nonneg_right (by omega) hc
  obtain ⟨a', k', j, e, hl, _, hch, h1, h2⟩ := mark_loop P c K hc xs hlen h hb xs.length 0 xs k fu (by omega) rfl (fun _ _ => rfl) (by unfold FV at hf; omega) h0 (by omega)
  exact ⟨a', k', j, e, hl, hch, h1, by omega⟩
theorem mk_lt {α : Type} {a : List α} {i : Nat} {x : α} (h : a[i]? = some x) : decide ((i : Int) < (a.length : Int)) = true := by
  have := (List.getElem?_eq_some_iff.1 h).1
  simpa using this
theorem mk_ge {α : Type} {a : List α} {i : Nat} (h : a.length ≤ i) : decide ((i : Int) < (a.length : Int)) = false := by simpa using h
theorem idx_set_self {α : Type} {a : List α} {i : Nat} {x y : α} (hx : a[i]? = some x) : idx (a.set i y) (i : Int) = some y := by
  rw [idx_nat, List.getElem?_set_self (List.getElem?_eq_some_iff.1 hx).1]
end Go.L
namespace Go.L
open Go Go.E
set_option linter.unusedVariables false
set_option linter.unusedSimpArgs false
set_option maxRecDepth 100000
theorem mkIntS (xs : List Int) (hl : xs.length ≤ 1048576) (fu : Nat) (hf : FV ≤ fu) (k : Int) (h0 : 0 ≤ k) (hK : k + 1048576 ≤ 9223372036854775806) :
    ∃ k' a', l_markIntS fu xs k = some (k', a') ∧ l_heldIntS a' k = some k' ∧ k ≤ k' ∧ k' ≤ k + 1048576 := by
  obtain ⟨a', k', j, e, _, hch, h1, h2⟩ := mark_all (b := l_markIntS_b1) (fun y k k' => y = k ∧ k' = k + 1 ∧ InI64 (k + 1)) 1 9223372036854775806 (by omega) xs hl
    (fun a k i x hx _ h0 h1 => ⟨k, k + 1, by
      show (if decide ((i : Int) < (a.length : Int)) then _ else _) = _
      rw [mk_lt hx, if_pos rfl, idx_nat, hx, Option.bind_some, i64_id (n := k + 1) (by omega) (by omega)]; rfl, ⟨rfl, rfl, by unfold InI64; omega⟩, by omega, by omega⟩)
    (fun a k i h => by show (if decide ((i : Int) < (a.length : Int)) then _ else _) = _; rw [mk_ge h]; rfl) k fu hf h0 (by omega)
  refine ⟨k', a', ?_, ?_, h1, by omega⟩
  · unfold l_markIntS; rw [e]; rfl
  · unfold l_heldIntS
    rw [chain_range (b := l_heldIntS_b1) (P := fun y k k' => y = k ∧ k' = k + 1 ∧ InI64 (k + 1)) ?_ a' 0 k k' hch]
    · rfl
    · rintro i y k k' ⟨rfl, rfl, hi⟩
      show (if (y != y) then _ else _) = _
      unfold InI64 at hi
      rw [bne_self_eq_false, if_neg (by simp), i64_id (by omega) (by omega)]
end Go.L
namespace Go.L
open Go Go.E
set_option linter.unusedSimpArgs false
set_option linter.unusedVariables false
set_option maxRecDepth 100000
end Go.L
namespace Go.L
open Go Go.E
set_option linter.unusedSimpArgs false
set_option linter.unusedVariables false
set_option maxRecDepth 100000
theorem idx_wm {ws : List (List UInt8)} {i : Nat} (h : i < ws.length) : idx (ws.map bs) (i : Int) = some (bs (ws.getD i [])) := by
  rw [idx_nat, List.getElem?_map, List.getElem?_eq_getElem h]
  simp [List.getD, List.getElem?_eq_getElem h]
theorem getD_wm {ws : List (List UInt8)} {c : Nat} (hw : ∀ w ∈ ws, w.length ≤ c) (i : Nat) : (ws.getD i []).length ≤ c := by
  unfold List.getD
  cases h : ws[i]? with
  | none => simp
  | some w => exact hw w (List.mem_of_getElem? h)
theorem atoi_negdec {n : Nat} (h : n ≤ 1000000000000) : Go.Lib.atoiAll (45 :: dec n) = .ok (-(n : Int)) := by
  have hd := dec_digit n
  have hv := val_dec n
  have hp := dec_pos n
  unfold Go.Lib.atoiAll
  simp only
  rw [if_pos (.inr rfl), Go.Lib.parseMag, if_neg (by intro e; rw [e] at hp; simp at hp), parse_val _ _ hd (by omega), hv]
  simp only
  rw [if_neg (fun h => h.1 rfl), if_neg (by omega), if_pos (show UInt8.toNat 45 = 45 from rfl)]
theorem numI_sgn {n : Int} (h : -1000 ≤ n ∧ n ≤ 1000) : numI (sgnT n) = n := by
  unfold sgnT
  split
  · unfold numI
    rw [atoi_negdec (by omega)]
    show (if false = true then 0 else -(((-n).toNat : Nat) : Int)) = n
    rw [if_neg (by decide)]
    omega
  · rename_i hn
    have := numI_dec (n := n.toNat) (by omega)
    omega
theorem s_read_some {l : List UInt8} (h : l.length ≤ 1048576) : So (s_l6Read (bs l)) fun _ => True := by
  unfold s_l6Read
  rw [bs_size]
  refine so_bind (P := fun b => b = true → 1 ≤ l.length) (so_ite (fun hc => ?_) fun _ => so_some nofun) fun b hb => ?_
  · have hc := of_decide_eq_true hc
    rw [sidx_bs]
    exact so_bind (so_idx (P := fun _ => True) (by omega) (by omega) fun _ _ => trivial) fun _ _ => so_some fun _ => by omega
  refine so_ite (fun hb2 => ?_) fun _ => ?_
  · have := hb hb2
    rw [← bs_size l, show ((1 : Int)) = ((1 : Nat) : Int) from rfl, ssl_from this, Option.bind_some]
    obtain ⟨c, hc⟩ := s_num (l := l.drop 1) (by simp; omega)
    rw [hc, Option.bind_some]
    exact so_some trivial
  · obtain ⟨c, hc⟩ := s_num (l := l) h
    rw [hc, Option.bind_some]
    exact so_some trivial
noncomputable def readS (l : List UInt8) : Int := (s_l6Read (bs l)).getD 0
theorem s_read {l : List UInt8} (h : l.length ≤ 1048576) : s_l6Read (bs l) = some (readS l) := by
  obtain ⟨r, hr, _⟩ := s_read_some h
  unfold readS
  rw [hr]
  rfl
theorem readS_sgn {n : Int} (h : -1000 ≤ n ∧ n ≤ 1000) : readS (sgnT n) = n := by
  unfold readS sgnT s_l6Read
  split
  · rename_i hn
    have hp := dec_pos (-n).toNat
    rw [bs_size, if_pos (by simp), sidx_bs, show idx (45 :: dec (-n).toNat) 0 = some 45 from rfl, Option.bind_some, Option.bind_some]
    simp only [show (((45 : UInt8).toNat : Int) == 45) = true from rfl, if_true]
    rw [← bs_size, show ((1 : Int)) = ((1 : Nat) : Int) from rfl, ssl_from (by simp), Option.bind_some, List.drop_one, List.tail_cons, s_num_dec (by omega), Option.bind_some]
    simp only [Option.getD_some]
    rw [i64_id (by omega) (by omega)]
    omega
  · rename_i hn
    have hp := dec_pos n.toNat
    have hd := dec_digit n.toNat
    have hr := s_num_dec (n := n.toNat) (by omega)
    generalize dec n.toNat = l at *
    obtain ⟨c, r, rfl⟩ : ∃ c r, l = c :: r := by
      cases l with
      | nil => simp at hp
      | cons c r => exact ⟨c, r, rfl⟩
    have hc := hd c (by simp)
    rw [bs_size, if_pos (by simp <;> omega), sidx_bs, show idx (c :: r) 0 = some c from rfl, Option.bind_some, Option.bind_some, show ((c.toNat : Int) == 45) = false from by simp only [beq_eq_false_iff_ne]; omega]
    simp only [Bool.false_eq_true, if_false, hr, Option.bind_some, Option.getD_some]
    omega
theorem numI_dec0 {x : Int} (h : 0 ≤ x ∧ x ≤ 9) : numI (dec x.toNat) = x := by
  have := numI_dec (n := x.toNat) (by omega)
  omega
theorem numS_dec0 {x : Int} (h : 0 ≤ x ∧ x ≤ 9) : numS (dec x.toNat) = x := by
  have := numS_dec (n := x.toNat) (by omega)
  omega
def rdDs (l : List UInt8) : List Int := l.map fun b => if (b.toNat : Int) - 48 < 0 ∨ (b.toNat : Int) - 48 > 9 then -1 else (b.toNat : Int) - 48
theorem rdD_len (l : List UInt8) : (rdD l).length = l.length := by simp [rdD]
theorem rdDs_len (l : List UInt8) : (rdDs l).length = l.length := by simp [rdDs]
theorem rdDs_dig {xs : List Int} (h : ∀ x ∈ xs, 0 ≤ x ∧ x ≤ 9) : rdDs (digT xs) = xs := by
  have e : rdDs (digT xs) = rdD (digT xs) := by
    unfold rdDs rdD
    apply List.map_congr_left
    intro b hb
    unfold digT at hb
    obtain ⟨x, _, hx⟩ := List.mem_flatMap.1 hb
    have := dec_digit _ b hx
    rw [if_neg (by omega)]
  rw [e, rdD_dig h]
theorem b_range (b : UInt8) : 0 ≤ (b.toNat : Int) ∧ (b.toNat : Int) ≤ 255 := by have := b.toNat_lt; omega
theorem take_map {α β : Type} (f : α → β) {xs : List α} {i : Nat} {x : α} (h : xs[i]? = some x) : (xs.take (i + 1)).map f = (xs.take i).map f ++ [f x] := by
  rw [List.take_add_one, h, Option.toList_some, List.map_append]
  rfl
theorem i_readDig {l : List UInt8} (h : l.length ≤ 1048576) : i_readDigits (bs l) = some (rdD l) := by
  unfold i_readDigits
  rw [bs_size, cntF_nat (by omega), Option.bind_some]
  have hloop := count_to (b := i_readDigits_b1 (bs l)) (fun i => (l.take i).map fun b => (b.toNat : Int) - 48) l.length 0 fun i _ hi => by
    have hi : i < l.length := by omega
    have hb := b_range l[i]
    unfold i_readDigits_b1
    simp only []
    rw [sidx_bs, idx_lt hi, Option.bind_some, i64_id (n := (l[i].toNat : Int)) (by omega) (by omega), i64_id (by omega) (by omega), app_le (by simp; omega), Option.bind_some, take_map _ (List.getElem?_eq_getElem hi)]
  rw [Nat.zero_add, List.take_length] at hloop
  rw [show (([] : List Int)) = ((l.take 0).map fun b => (b.toNat : Int) - 48) from rfl, hloop, Option.bind_some]
  rfl
theorem s_readDig {l : List UInt8} (h : l.length ≤ 1048576) : s_l6Numbers (bs l) = some (rdDs l) := by
  unfold s_l6Numbers
  rw [bs_size, cntF_nat (by omega), Option.bind_some]
  have hloop := count_to (b := s_l6Numbers_b1 (bs l)) (fun i => (l.take i).map fun b => if (b.toNat : Int) - 48 < 0 ∨ (b.toNat : Int) - 48 > 9 then -1 else (b.toNat : Int) - 48) l.length 0 fun i _ hi => by
    have hi : i < l.length := by omega
    have hb := b_range l[i]
    unfold s_l6Numbers_b1
    simp only []
    rw [sidx_bs, idx_lt hi, Option.bind_some, i64_id (n := (l[i].toNat : Int)) (by omega) (by omega), i64_id (by omega) (by omega), take_map _ (List.getElem?_eq_getElem hi)]
    by_cases hc : (l[i].toNat : Int) - 48 < 0 ∨ (l[i].toNat : Int) - 48 > 9
    · rw [if_pos (by simpa using hc), Option.bind_some, app_le (by simp; omega), Option.bind_some, if_pos hc]
    · rw [if_neg (by simpa using hc), Option.bind_some, app_le (by simp; omega), Option.bind_some, if_neg hc]
  rw [Nat.zero_add, List.take_length] at hloop
  rw [show (([] : List Int)) = ((l.take 0).map fun b => if (b.toNat : Int) - 48 < 0 ∨ (b.toNat : Int) - 48 > 9 then -1 else (b.toNat : Int) - 48) from rfl, hloop, Option.bind_some]
  rfl
theorem pw_get {p : Int × Int} (t : List (List UInt8)) : ∀ {z : List (Int × Int)} {j : Nat}, z[j]? = some p → (pairsW z ++ t).getD (2 * j) [] = sgnT p.1 ∧ (pairsW z ++ t).getD (2 * j + 1) [] = dec p.2.toNat
  | [], j, h => by simp at h
  | q :: z, 0, h => by
    simp at h
    subst h
    exact ⟨rfl, rfl⟩
  | q :: z, j + 1, h => by
    have ih := pw_get t (z := z) (j := j) (by simpa using h)
    have e : pairsW (q :: z) ++ t = sgnT q.1 :: dec q.2.toNat :: (pairsW z ++ t) := rfl
    rw [e, show 2 * (j + 1) = 2 * j + 1 + 1 by omega]
    simpa using ih
theorem pw_end (t : List (List UInt8)) : ∀ (z : List (Int × Int)) (i : Nat), (pairsW z ++ t).getD (2 * z.length + i) [] = t.getD i []
  | [], i => by simp [pairsW]
  | q :: z, i => by
    have ih := pw_end t z i
    have e : pairsW (q :: z) ++ t = sgnT q.1 :: dec q.2.toNat :: (pairsW z ++ t) := rfl
    rw [e, List.length_cons, show 2 * (z.length + 1) + i = 2 * z.length + i + 1 + 1 by omega]
    simpa using ih
def cols (num : List UInt8 → Int) (ws : List (List UInt8)) (k o : Nat) : List Int := (List.range k).map fun j => num (ws.getD (o + 2 * j) [])
theorem cols_len (num : List UInt8 → Int) (ws : List (List UInt8)) (k o : Nat) : (cols num ws k o).length = k := by simp [cols]
theorem cols_next (num : List UInt8 → Int) (ws : List (List UInt8)) (k o : Nat) : cols num ws (k + 1) o = cols num ws k o ++ [num (ws.getD (o + 2 * k) [])] := by
  unfold cols
  rw [List.range_succ, List.map_append]
  rfl
theorem range_map_eq {α : Type} {f : Nat → α} {xs : List α} {k : Nat} (hk : k = xs.length) (h : ∀ j x, xs[j]? = some x → f j = x) : (List.range k).map f = xs := by
  subst hk
  apply List.ext_getElem?
  intro i
  rw [List.getElem?_map]
  by_cases hi : i < xs.length
  · rw [List.getElem?_range hi, List.getElem?_eq_getElem hi]
    exact congrArg some (h i _ (List.getElem?_eq_getElem hi))
  · rw [List.getElem?_eq_none (by simpa using hi), List.getElem?_eq_none (by omega)]
    rfl
def kW (w : List UInt8) : Int := if w = wordK 1 then 1 else if w = wordK 2 then 2 else if w = wordK 3 then 3 else if w = wordK 4 then 4 else 0
theorem kW_word {k : Int} (h : 1 ≤ k ∧ k ≤ 4) : kW (wordK k) = k := by
  obtain rfl | rfl | rfl | rfl : k = 1 ∨ k = 2 ∨ k = 3 ∨ k = 4 := by omega
  all_goals decide
theorem i_indexW (w : List UInt8) : ∃ x, (i_ruleWords).bind (fun x25 => slices_Index_string x25 (bs w)) = some x ∧ max 0 x = kW w := by
  unfold i_ruleWords slices_Index_string
  rw [Option.bind_some]
  simp only [rangeL, slices_Index_string_b1, show (⟨#[]⟩ : ByteArray) = bs [] from rfl, show (⟨#[108, 105, 110, 101, 97, 114]⟩ : ByteArray) = bs (wordK 1) from rfl, show (⟨#[100, 105, 102, 102, 101, 114, 101, 110, 116]⟩ : ByteArray) = bs (wordK 2) from rfl,
    show (⟨#[116, 97, 98, 108, 101]⟩ : ByteArray) = bs (wordK 3) from rfl, show (⟨#[108, 101, 115, 115]⟩ : ByteArray) = bs (wordK 4) from rfl, eq_bs, beq_iff_eq]
  unfold kW
  by_cases h0 : w = []
  · subst h0; exact ⟨0, rfl, by decide⟩
  rw [if_neg h0]
  simp only [Option.bind_some]
  by_cases h1 : w = wordK 1
  · rw [if_pos h1, if_pos h1]; exact ⟨_, rfl, by decide⟩
  rw [if_neg h1, if_neg h1]
  simp only [Option.bind_some]
  by_cases h2 : w = wordK 2
  · rw [if_pos h2, if_pos h2]; exact ⟨_, rfl, by decide⟩
  rw [if_neg h2, if_neg h2]
  simp only [Option.bind_some]
  by_cases h3 : w = wordK 3
  · rw [if_pos h3, if_pos h3]; exact ⟨_, rfl, by decide⟩
  rw [if_neg h3, if_neg h3]
  simp only [Option.bind_some]
  by_cases h4 : w = wordK 4
  · rw [if_pos h4, if_pos h4]; exact ⟨_, rfl, by decide⟩
  rw [if_neg h4, if_neg h4]
  exact ⟨_, rfl, by decide⟩
def RP (l : List UInt8) (r : Rule) : Prop := smallR r ∧ ∀ n q, n ≤ 5 → okRule n q = true → ruleT q = l → r = q
theorem kinds_R {n : Nat} (hn : n ≤ 5) {q : Rule} (h : okRule n q = true) : 1 ≤ q.kind ∧ q.kind ≤ 4 := by
  obtain ⟨_, _, _, h | h⟩ := rule_facts hn h
  · have := h.1; omega
  · have := h.1; omega
theorem words_of {q : Rule} {l : List UInt8} (h : ruleT q = l) : splitC 32 l = wordK q.kind :: wordsR q := by rw [← h, split_rule]
theorem lin_cols {n : Nat} (hn : n ≤ 5) {q : Rule} (hq : okRule n q = true) (h1 : q.kind = 1) {nc nv nb : List UInt8 → Int} (hc : ∀ n, -1000 ≤ n ∧ n ≤ 1000 → nc (sgnT n) = n) (hv : ∀ x, 0 ≤ x ∧ x ≤ 9 → nv (dec x.toNat) = x) (hb : ∀ n, -1000 ≤ n ∧ n ≤ 1000 → nb (sgnT n) = n)
    {ws : List (List UInt8)} (hw : ws = wordK q.kind :: wordsR q) : ws.length = 3 + 2 * q.vars.length ∧ (∀ j, j < q.vars.length → ws.getD (1 + 2 * j) [] ≠ [62, 61]) ∧ ws.getD (1 + 2 * q.vars.length) [] = [62, 61] ∧
      (⟨1, cols nv ws q.vars.length 2, cols nc ws q.vars.length 1, nb (ws.getD (ws.length - 1) []), []⟩ : Rule) = q := by
  obtain ⟨f1, f2, f3, f | f⟩ := rule_facts hn hq
  · obtain ⟨g1, g2, g3, g4, g5, g6⟩ := f
    have hwr : wordsR q = pairsW (q.coefs.zip q.vars) ++ [[62, 61], sgnT q.bound] := by unfold wordsR; rw [if_pos h1]; rfl
    rw [hwr] at hw
    have hz : (q.coefs.zip q.vars).length = q.vars.length := by rw [List.length_zip]; omega
    have hlen : ws.length = 3 + 2 * q.vars.length := by
      rw [hw, List.length_cons, List.length_append, pairsW_len, hz]
      simp only [List.length_cons, List.length_nil]
      omega
    have hat : ∀ i, ws.getD (1 + i) [] = (pairsW (q.coefs.zip q.vars) ++ [[62, 61], sgnT q.bound]).getD i [] := fun i => by rw [hw, Nat.add_comm]; rfl
    have hend : ∀ i, ws.getD (1 + 2 * q.vars.length + i) [] = ([[62, 61], sgnT q.bound] : List (List UInt8)).getD i [] := fun i => by
      have := pw_end [[62, 61], sgnT q.bound] (q.coefs.zip q.vars) i
      rw [hz] at this
      rw [← this, Nat.add_assoc, hat]
    refine ⟨hlen, fun j hj => ?_, hend 0, ?_⟩
    · obtain ⟨c, hcj, hzj⟩ := zip_at g3 (List.getElem?_eq_getElem hj)
      rw [hat, (pw_get _ hzj).1]
      intro e
      have : (62 : UInt8) ∈ sgnT c := by rw [e]; simp
      unfold sgnT at this
      split at this
      · rcases List.mem_cons.1 this with h | h
        · exact absurd h (by decide)
        · have := dec_digit _ _ h; simp at this
      · have := dec_digit _ _ this; simp at this
    · have e1 : cols nv ws q.vars.length 2 = q.vars := range_map_eq rfl fun j v hvj => by
        obtain ⟨c, hcj, hzj⟩ := zip_at g3 hvj
        rw [show 2 + 2 * j = 1 + (2 * j + 1) by omega, hat, (pw_get _ hzj).2]
        have := f1 v (List.mem_of_getElem? hvj)
        exact hv v (by omega)
      have e2 : cols nc ws q.vars.length 1 = q.coefs := range_map_eq g3.symm fun j c hcj => by
        have hj : j < q.vars.length := by have := (List.getElem?_eq_some_iff.1 hcj).1; omega
        obtain ⟨c', hcj', hzj⟩ := zip_at g3 (List.getElem?_eq_getElem hj)
        rw [hcj] at hcj'
        cases hcj'
        rw [hat, (pw_get _ hzj).1]
        have := g2 c (List.mem_of_getElem? hcj)
        exact hc c (by omega)
      have e3 : nb (ws.getD (ws.length - 1) []) = q.bound := by
        rw [hlen, show 3 + 2 * q.vars.length - 1 = 1 + 2 * q.vars.length + 1 by omega, hend 1]
        exact hb _ (by omega)
      rw [e1, e2, e3]
      obtain ⟨_, _, _, _, _⟩ := q
      simp only at g6 h1
      rw [g6, h1]
  · have := f.1; omega
theorem tab_words {n : Nat} (hn : n ≤ 5) {q : Rule} (hq : okRule n q = true) (h1 : q.kind ≠ 1) {rd : List UInt8 → List Int} (hr : ∀ xs : List Int, (∀ x ∈ xs, 0 ≤ x ∧ x ≤ 9) → rd (digT xs) = xs)
    {ws : List (List UInt8)} (hw : ws = wordK q.kind :: wordsR q) : ws.length = 2 + q.rows.length ∧ q.rows.length ≤ 8 ∧ (q.kind ≠ 3 → q.rows = []) ∧
      (⟨q.kind, rd (ws.getD 1 []), [], 0, (ws.drop 2).map rd⟩ : Rule) = q := by
  obtain ⟨f1, f2, f3, f | f⟩ := rule_facts hn hq
  · have := f.1; omega
  · obtain ⟨g1, g2, g3, g4, g5, g6⟩ := f
    have hwr : wordsR q = digT q.vars :: q.rows.map digT := by unfold wordsR; rw [if_neg h1]
    rw [hwr] at hw
    subst hw
    refine ⟨by simp; omega, g6, g4, ?_⟩
    have e1 : rd (digT q.vars) = q.vars := hr _ fun x hx => by have := f1 x hx; omega
    have e2 : (q.rows.map digT).map rd = q.rows := by
      rw [List.map_map]
      conv => rhs; rw [← List.map_id q.rows]
      apply List.map_congr_left
      intro row hrow
      exact hr _ fun x hx => by have := (g5 row hrow).2 x hx; omega
    show (⟨q.kind, rd (digT q.vars), [], 0, (q.rows.map digT).map rd⟩ : Rule) = q
    rw [e1, e2]
    obtain ⟨_, _, _, _, _⟩ := q
    simp only at g2 g3
    rw [g2, g3]
theorem i_readR {l : List UInt8} (h : l.length ≤ 1048576) {fu : Nat} (hf : FV ≤ fu) : So (i_readRule fu (bs l)) (RP l) := by
  unfold FV at hf
  have hwl := splitC_len 32 l
  have hw : ∀ w ∈ splitC 32 l, w.length ≤ 1048576 := fun w hm => Nat.le_trans (splitC_mem hm) h
  have hne : (splitC 32 l).length ≠ 0 := by rw [Ne, List.length_eq_zero_iff]; exact splitC_ne 32 l
  have hq : ∀ q, ruleT q = l → splitC 32 l = wordK q.kind :: wordsR q := fun q e => words_of e
  unfold i_readRule
  rw [show (⟨#[32]⟩ : ByteArray) = bs [32] from rfl, strings_split (by omega), Option.bind_some]
  generalize splitC 32 l = ws at *
  obtain ⟨x, hx, hk⟩ := i_indexW (ws.getD 0 [])
  have hrw : ∀ {β : Type} (f : Int → Option β), ((i_ruleWords).bind fun x25 => (some (bs (ws.getD 0 []))).bind fun x28 => (slices_Index_string x25 x28).bind f) = f x := fun f => by
    have e : ((i_ruleWords).bind fun x25 => (some (bs (ws.getD 0 []))).bind fun x28 => (slices_Index_string x25 x28).bind f) = ((i_ruleWords).bind fun x25 => slices_Index_string x25 (bs (ws.getD 0 []))).bind f := by
      rw [Option.bind_assoc]; rfl
    rw [e, hx]
    rfl
  have h0 : idx (ws.map bs) 0 = some (bs (ws.getD 0 [])) := idx_wm (i := 0) (by omega)
  simp only [h0]
  rw [hrw]
  rw [hk]
  have hkind : ∀ n q, n ≤ 5 → okRule n q = true → ruleT q = l → kW (ws.getD 0 []) = q.kind := fun n q hn hok e => by
    rw [hq q e]
    exact kW_word (kinds_R hn hok)
  generalize hkw : kW (ws.getD 0 []) = k at *
  refine so_ite (fun h1 => ?_) fun h1 => ?_
  · have h1 : k = 1 := by simpa using h1
    subst h1
    refine so_bind (P := fun j => ∃ K, j = .nx (((1 + 2 * K : Nat) : Int), cols numI ws K 2, cols numI ws K 1) ∧ 1 + 2 * K ≤ ws.length ∧ (∀ j, j < K → ws.getD (1 + 2 * j) [] ≠ [62, 61]) ∧ (2 + 2 * K < ws.length → ws.getD (1 + 2 * K) [] = [62, 61])) ?_ ?_
    · refine while_inv (b := i_readRule_b1 (ws.map bs)) (fun n s => ∃ K, s = (((1 + 2 * K : Nat) : Int), cols numI ws K 2, cols numI ws K 1) ∧ 1 + 2 * K ≤ ws.length ∧ (∀ j, j < K → ws.getD (1 + 2 * j) [] ≠ [62, 61]) ∧ n = ws.length - K) _ ?_ fu ws.length _ ⟨0, rfl, by omega, by omega, rfl⟩ (by omega)
      rintro n s ⟨K, rfl, hK, hne2, rfl⟩
      unfold i_readRule_b1
      simp only [List.length_map]
      rw [show i64 (((1 + 2 * K : Nat) : Int) + 1) = ((2 + 2 * K : Nat) : Int) from by rw [i64_id (by omega) (by omega)]; omega]
      by_cases hlt : 2 + 2 * K < ws.length
      · rw [if_pos (by simp only [decide_eq_true_eq]; omega), idx_wm (by omega), Option.bind_some, show (⟨#[62, 61]⟩ : ByteArray) = bs [62, 61] from rfl, eq_bs, Option.bind_some]
        by_cases hg : ws.getD (1 + 2 * K) [] = [62, 61]
        · rw [hg]
          exact ⟨_, rfl, K, rfl, hK, hne2, fun _ => hg⟩
        · rw [if_pos (by simpa using hg), Option.bind_some, i_num (getD_wm hw _), Option.bind_some, app_le (by rw [cols_len]; simp; omega), Option.bind_some, idx_wm (by omega), Option.bind_some, i_num (getD_wm hw _), Option.bind_some, app_le (by rw [cols_len]; simp; omega), Option.bind_some]
          refine ⟨_, rfl, ws.length - (K + 1), by omega, K + 1, ?_, by omega, fun j hj => ?_, rfl⟩
          · rw [cols_next, cols_next, i64_id (by omega) (by omega), show (((1 + 2 * K : Nat) : Int) + 2) = ((1 + 2 * (K + 1) : Nat) : Int) by omega]
          · by_cases hjK : j = K
            · rw [hjK]; exact hg
            · exact hne2 j (by omega)
      · rw [if_neg (by simp only [decide_eq_true_eq]; omega), Option.bind_some, if_neg (by simp)]
        exact ⟨_, rfl, K, rfl, hK, hne2, fun h => absurd h hlt⟩
    · rintro _ ⟨K, rfl, hK, hne2, hge⟩
      simp only [List.length_map]
      rw [show i64 ((ws.length : Int) - 1) = ((ws.length - 1 : Nat) : Int) from by rw [i64_id (by omega) (by omega)]; omega, idx_wm (by omega), Option.bind_some, i_num (getD_wm hw _), Option.bind_some]
      refine so_some ⟨⟨by simp only [cols_len]; omega, by simp only [cols_len]; omega, by simp, by simp⟩, fun n q hn hok e => ?_⟩
      have hk1 : q.kind = 1 := (hkind n q hn hok e).symm
      obtain ⟨p1, p2, p3, p4⟩ := lin_cols hn hok hk1 (nc := numI) (nv := numI) (nb := numI) (fun n h => numI_sgn h) (fun x h => numI_dec0 h) (fun n h => numI_sgn h) (hq q e)
      have hKL : K = q.vars.length := by
        rcases Nat.lt_trichotomy K q.vars.length with hlt | heq | hgt
        · exact absurd (hge (by omega)) (p2 K hlt)
        · exact heq
        · exact absurd p3 (hne2 _ hgt)
      rw [hKL]
      exact p4
  · have h1 : k ≠ 1 := by simpa using h1
    simp only [List.length_map]
    refine so_bind (P := fun (o : List Int × List (List Int)) => (2 ≤ ws.length → o = (rdD (ws.getD 1 []), (ws.drop 2).map rdD)) ∧ (ws.length = 1 → o = ([], []))) (so_ite (fun hc => ?_) fun hc => so_some ⟨fun h => ?_, fun _ => rfl⟩) ?_
    · have hc : 1 < ws.length := by have := of_decide_eq_true hc; omega
      have e1 : idx (ws.map bs) 1 = some (bs (ws.getD 1 [])) := idx_wm (i := 1) hc
      have e2 : sl (ws.map bs) 2 (ws.length : Int) = some ((ws.drop 2).map bs) := by
        unfold sl
        rw [if_pos ⟨by omega, by omega, by rw [List.length_map]; omega⟩, show (2 : Int).toNat = 2 from rfl, List.map_drop]
        congr 1
        rw [List.take_of_length_le]
        simp
      have e3 := range_map (b := i_readRule_b2) (fun y : ByteArray => rdD y.data.toList) ((ws.drop 2).map bs) fun i y out hy ho => by
        rw [List.getElem?_map] at hy
        cases hwi : (ws.drop 2)[i]? with
        | none => rw [hwi] at hy; cases hy
        | some w =>
          rw [hwi] at hy
          cases hy
          have hm := List.mem_of_mem_drop (List.mem_of_getElem? hwi)
          have hi := (List.getElem?_eq_some_iff.1 hwi).1
          rw [List.length_drop] at hi
          unfold i_readRule_b2
          simp only []
          rw [i_readDig (hw w hm), Option.bind_some, app_le (by simp; omega), Option.bind_some, bs_list]
      rw [e1, Option.bind_some, i_readDig (getD_wm hw _), Option.bind_some, e2, Option.bind_some, e3, Option.bind_some]
      refine so_some ⟨fun _ => ?_, fun h => by omega⟩
      rw [List.map_map, show ((fun y : ByteArray => rdD y.data.toList) ∘ bs) = rdD from funext fun w => by simp only [Function.comp, bs_list]]
    · simp only [decide_eq_true_eq] at hc; omega
    · rintro ⟨a, b⟩ ⟨h2, h3⟩
      refine so_some ⟨?_, fun n q hn hok e => ?_⟩
      · by_cases hc : 2 ≤ ws.length
        · have h2 := h2 hc
          injection h2 with h2a h2b
          subst h2a h2b
          refine ⟨by simp only [rdD_len]; exact getD_wm hw _, by simp, by simp only [List.length_map, List.length_drop]; omega, fun x hx => ?_⟩
          obtain ⟨w, hwm, rfl⟩ := List.mem_map.1 hx
          rw [rdD_len]
          exact hw w (List.mem_of_mem_drop hwm)
        · have h3 := h3 (by omega)
          injection h3 with h3a h3b
          subst h3a h3b
          exact ⟨by simp, by simp, by simp, by simp⟩
      · have hk1 := hkind n q hn hok e
        obtain ⟨p1, p2, p3, p4⟩ := tab_words hn hok (by omega) (rd := rdD) (fun xs h => rdD_dig h) (hq q e)
        have h2 := h2 (by omega)
        injection h2 with h2a h2b
        subst h2a h2b
        rw [hk1]
        exact p4
end Go.L
namespace Go.L
open Go Go.E
set_option linter.unusedSimpArgs false
set_option linter.unusedVariables false
set_option maxRecDepth 100000
def rowsC (ws : List (List UInt8)) (k : Nat) : List (List Int) := (List.range k).map fun j => rdDs (ws.getD (2 + j) [])
theorem rowsC_next (ws : List (List UInt8)) (k : Nat) : rowsC ws (k + 1) = rowsC ws k ++ [rdDs (ws.getD (2 + k) [])] := by
  unfold rowsC
  rw [List.range_succ, List.map_append]
  rfl
theorem rowsC_len (ws : List (List UInt8)) (k : Nat) : (rowsC ws k).length = k := by simp [rowsC]
theorem rowsC_drop (ws : List (List UInt8)) (k : Nat) (h : ws.length = 2 + k) : rowsC ws k = (ws.drop 2).map rdDs := by
  refine range_map_eq (by rw [List.length_map, List.length_drop]; omega) fun j x hx => ?_
  rw [List.getElem?_map, List.getElem?_drop] at hx
  unfold List.getD
  cases h : ws[2 + j]? with
  | none => rw [h] at hx; cases hx
  | some w => rw [h] at hx; cases hx; rfl
theorem s_readR {l : List UInt8} (h : l.length ≤ 1048576) {fu : Nat} (hf : 100 ≤ fu) : So (s_l6Parse fu (bs l)) (RP l) := by
  have hwl := splitC_len 32 l
  have hw : ∀ w ∈ splitC 32 l, w.length ≤ 1048576 := fun w hm => Nat.le_trans (splitC_mem hm) h
  have hne : (splitC 32 l).length ≠ 0 := by rw [Ne, List.length_eq_zero_iff]; exact splitC_ne 32 l
  have hq : ∀ q, ruleT q = l → splitC 32 l = wordK q.kind :: wordsR q := fun q e => words_of e
  unfold s_l6Parse
  rw [show ((32 : Int)) = ((32 : Nat) : Int) from rfl, s_cut (by omega) h, show UInt8.ofNat 32 = 32 from rfl, Option.bind_some]
  generalize splitC 32 l = ws at *
  have h0 : idx (ws.map bs) 0 = some (bs (ws.getD 0 [])) := idx_wm (i := 0) (by omega)
  rw [h0, Option.bind_some]
  simp only [show (⟨#[108, 105, 110, 101, 97, 114]⟩ : ByteArray) = bs (wordK 1) from rfl, show (⟨#[100, 105, 102, 102, 101, 114, 101, 110, 116]⟩ : ByteArray) = bs (wordK 2) from rfl,
    show (⟨#[116, 97, 98, 108, 101]⟩ : ByteArray) = bs (wordK 3) from rfl, show (⟨#[108, 101, 115, 115]⟩ : ByteArray) = bs (wordK 4) from rfl, eq_bs, beq_iff_eq]
  have hkind : ∀ n q, n ≤ 5 → okRule n q = true → ruleT q = l → ws.getD 0 [] = wordK q.kind := fun n q hn hok e => by rw [hq q e]; rfl
  have hinj : ∀ n q, n ≤ 5 → okRule n q = true → ruleT q = l → ∀ k, 1 ≤ k ∧ k ≤ 4 → ws.getD 0 [] = wordK k → q.kind = k := fun n q hn hok e k hk e2 => wordK_inj (kinds_R hn hok) hk (by rw [← hkind n q hn hok e, e2])
  refine so_ite (fun h1 => ?_) fun h1 => ?_
  · refine so_bind (P := fun j => ∃ K, j = .nx (((1 + 2 * K : Nat) : Int), cols numS ws K 2, cols readS ws K 1) ∧ K ≤ 5 ∧ (∀ j, j < K → 4 + 2 * j < ws.length) ∧ ¬ (4 + 2 * K < ws.length ∧ 2 * K < 9)) ?_ ?_
    · refine while_inv (b := s_l6Parse_b1 (ws.map bs)) (fun n s => ∃ K, s = (((1 + 2 * K : Nat) : Int), cols numS ws K 2, cols readS ws K 1) ∧ K ≤ 5 ∧ (∀ j, j < K → 4 + 2 * j < ws.length) ∧ n = 5 - K) _ ?_ fu 5 _ ⟨0, rfl, by omega, by omega, rfl⟩ (by omega)
      rintro n s ⟨K, rfl, hK, hlt, rfl⟩
      unfold s_l6Parse_b1
      simp only [List.length_map]
      rw [show i64 (((1 + 2 * K : Nat) : Int) + 3) = ((4 + 2 * K : Nat) : Int) from by rw [i64_id (by omega) (by omega)]; omega]
      by_cases hc : 4 + 2 * K < ws.length ∧ 2 * K < 9
      · obtain ⟨c, hcn⟩ := s_num (l := ws.getD (1 + 2 * K + 1) []) (getD_wm hw _)
        rw [if_pos (by simp only [Bool.and_eq_true, decide_eq_true_eq]; omega), idx_wm (by omega), Option.bind_some, s_read (getD_wm hw _), Option.bind_some, app_le (by rw [cols_len]; simp; omega), Option.bind_some,
          show i64 (((1 + 2 * K : Nat) : Int) + 1) = ((1 + 2 * K + 1 : Nat) : Int) from by rw [i64_id (by omega) (by omega)]; omega, idx_wm (by omega), Option.bind_some, hcn, Option.bind_some, app_le (by rw [cols_len]; simp; omega), Option.bind_some]
        refine ⟨_, rfl, 5 - (K + 1), by omega, K + 1, ?_, by omega, fun j hj => ?_, rfl⟩
        · rw [cols_next, cols_next, i64_id (by omega) (by omega), show (((1 + 2 * K : Nat) : Int) + 2) = ((1 + 2 * (K + 1) : Nat) : Int) by omega, show 2 + 2 * K = 1 + 2 * K + 1 by omega]
        · by_cases hjK : j = K
          · rw [hjK]; exact hc.1
          · exact hlt j (by omega)
      · rw [if_neg (by simp only [Bool.and_eq_true, decide_eq_true_eq]; omega)]
        exact ⟨_, rfl, K, rfl, hK, hlt, hc⟩
    · rintro _ ⟨K, rfl, hK, hlt, hstop⟩
      simp only [List.length_map]
      rw [show i64 ((ws.length : Int) - 1) = ((ws.length - 1 : Nat) : Int) from by rw [i64_id (by omega) (by omega)]; omega, idx_wm (by omega), Option.bind_some, s_read (getD_wm hw _), Option.bind_some]
      refine so_some ⟨⟨by simp only [cols_len]; omega, by simp only [cols_len]; omega, by simp, by simp⟩, fun n q hn hok e => ?_⟩
      have hk1 : q.kind = 1 := hinj n q hn hok e 1 (by omega) h1
      obtain ⟨p1, p2, p3, p4⟩ := lin_cols hn hok hk1 (nc := readS) (nv := numS) (nb := readS) (fun n h => readS_sgn h) (fun x h => numS_dec0 h) (fun n h => readS_sgn h) (hq q e)
      have hl5 := (rule_facts hn hok).2.1
      have hKL : K = q.vars.length := by
        rcases Nat.lt_trichotomy K q.vars.length with h2 | h2 | h2
        · exact absurd ⟨by omega, by omega⟩ hstop
        · exact h2
        · have := hlt q.vars.length h2; omega
      rw [hKL]
      exact p4
  · refine so_bind (P := fun (o : Int × List (List Int)) => (o.2.length ≤ 1048576 ∧ ∀ x ∈ o.2, x.length ≤ 1048576) ∧ ∀ n q, n ≤ 5 → okRule n q = true → ruleT q = l → o = (q.kind, q.rows)) ?_ ?_
    · have hdone : ∀ k : Int, 2 ≤ k ∧ k ≤ 4 → k ≠ 3 → ws.getD 0 [] = wordK k → So (some ((k, []) : Int × List (List Int))) fun (o : Int × List (List Int)) => (o.2.length ≤ 1048576 ∧ ∀ x ∈ o.2, x.length ≤ 1048576) ∧ ∀ n q, n ≤ 5 → okRule n q = true → ruleT q = l → o = (q.kind, q.rows) := fun k hk hk3 e0 =>
        so_some ⟨⟨by simp, by simp⟩, fun n q hn hok e => by
          have hk1 := hinj n q hn hok e k (by omega) e0
          obtain ⟨p1, p2, p3, p4⟩ := tab_words hn hok (by omega) (rd := rdDs) (fun xs h => rdDs_dig h) (hq q e)
          rw [hk1, p3 (by omega)]⟩
      have hpass : ∀ {x : Option (Int × List (List Int))} {P : Int × List (List Int) → Prop}, So x P → So (x.bind fun (a, b) => some (a, b)) P := fun {x P} hx => so_bind hx fun ⟨a, b⟩ h => so_some h
      refine so_ite (fun h2 => hdone 2 (by omega) (by omega) h2) fun h2 => hpass (so_ite (fun h4 => hdone 4 (by omega) (by omega) h4) fun h4 => hpass (so_ite (fun h3 => ?_) fun h3 => ?_))
      · refine so_bind (P := fun j => ∃ K, j = .nx (((2 + K : Nat) : Int), rowsC ws K) ∧ K ≤ 9 ∧ (∀ j, j < K → 2 + j < ws.length) ∧ ¬ (2 + K < ws.length ∧ K < 9)) ?_ ?_
        · refine while_inv (b := s_l6Parse_b2 (ws.map bs)) (fun n s => ∃ K, s = (((2 + K : Nat) : Int), rowsC ws K) ∧ K ≤ 9 ∧ (∀ j, j < K → 2 + j < ws.length) ∧ n = 9 - K) _ ?_ fu 9 _ ⟨0, rfl, by omega, by omega, rfl⟩ (by omega)
          rintro n s ⟨K, rfl, hK, hlt, rfl⟩
          unfold s_l6Parse_b2
          simp only [List.length_map]
          by_cases hc : 2 + K < ws.length ∧ K < 9
          · rw [if_pos (by simp only [Bool.and_eq_true, decide_eq_true_eq]; omega), idx_wm (by omega), Option.bind_some, s_readDig (getD_wm hw _), Option.bind_some, app_le (by rw [rowsC_len]; simp; omega), Option.bind_some]
            refine ⟨_, rfl, 9 - (K + 1), by omega, K + 1, ?_, by omega, fun j hj => ?_, rfl⟩
            · rw [rowsC_next, i64_id (by omega) (by omega), show (((2 + K : Nat) : Int) + 1) = ((2 + (K + 1) : Nat) : Int) by omega]
            · by_cases hjK : j = K
              · rw [hjK]; exact hc.1
              · exact hlt j (by omega)
          · rw [if_neg (by simp only [Bool.and_eq_true, decide_eq_true_eq]; omega)]
            exact ⟨_, rfl, K, rfl, hK, hlt, hc⟩
        · rintro _ ⟨K, rfl, hK, hlt, hstop⟩
          refine so_some ⟨⟨by simp only [rowsC_len]; omega, fun x hx => ?_⟩, fun n q hn hok e => ?_⟩
          · obtain ⟨j, _, rfl⟩ := List.mem_map.1 hx
            rw [rdDs_len]
            exact getD_wm hw _
          · have hk1 := hinj n q hn hok e 3 (by omega) h3
            obtain ⟨p1, p2, p3, p4⟩ := tab_words hn hok (by omega) (rd := rdDs) (fun xs h => rdDs_dig h) (hq q e)
            have hKR : K = q.rows.length := by
              rcases Nat.lt_trichotomy K q.rows.length with h2 | h2 | h2
              · exact absurd ⟨by omega, by omega⟩ hstop
              · exact h2
              · have := hlt q.rows.length h2; omega
            have p5 := congrArg Rule.rows p4
            simp only at p5
            rw [hKR, rowsC_drop ws _ p1, p5, hk1]
      · refine so_some ⟨⟨by simp, by simp⟩, fun n q hn hok e => ?_⟩
        have hk := kinds_R hn hok
        have h0 := hkind n q hn hok e
        exfalso
        obtain h5 | h5 | h5 | h5 : q.kind = 1 ∨ q.kind = 2 ∨ q.kind = 3 ∨ q.kind = 4 := by omega
        all_goals rw [h5] at h0
        · exact h1 h0
        · exact h2 h0
        · exact h3 h0
        · exact h4 h0
    · rintro ⟨kd, rows⟩ ⟨⟨r1, r2⟩, r3⟩
      simp only [List.length_map]
      refine so_bind (P := fun (o : List Int) => o.length ≤ 1048576 ∧ (2 ≤ ws.length → o = rdDs (ws.getD 1 []))) (so_ite (fun hc => ?_) fun hc => so_some ⟨by simp, fun h => ?_⟩) ?_
      · have hc : 1 < ws.length := by have := of_decide_eq_true hc; omega
        have e1 : idx (ws.map bs) 1 = some (bs (ws.getD 1 [])) := idx_wm (i := 1) hc
        rw [e1, Option.bind_some, s_readDig (getD_wm hw _), Option.bind_some]
        exact so_some ⟨by rw [rdDs_len]; exact getD_wm hw _, fun _ => rfl⟩
      · simp only [decide_eq_true_eq] at hc; omega
      · rintro vs ⟨v1, v2⟩
        refine so_some ⟨⟨v1, by simp, r1, r2⟩, fun n q hn hok e => ?_⟩
        have h5 := r3 n q hn hok e
        injection h5 with h5a h5b
        have hk1 : q.kind ≠ 1 := fun hk1 => h1 (by rw [hkind n q hn hok e, hk1])
        obtain ⟨p1, p2, p3, p4⟩ := tab_words hn hok hk1 (rd := rdDs) (fun xs h => rdDs_dig h) (hq q e)
        have p6 := congrArg Rule.vars p4
        have p7 := congrArg Rule.coefs p4
        have p8 := congrArg Rule.bound p4
        simp only at p6 p7 p8
        rw [h5a, h5b, v2 (by omega), p6]
        rw [p6] at p4
        obtain ⟨_, _, _, _, _⟩ := q
        simp only at p7 p8 ⊢
        rw [p7, p8]
noncomputable def parseM (l : List UInt8) : Model × Bool := open Classical in if h : ∃ m, okModel m = true ∧ modelT m = l then (h.choose, true) else (⟨[], []⟩, false)
theorem parseM_model {m : Model} (h : okModel m = true) : parseM (modelT m) = (m, true) := by
  have hx : ∃ m', okModel m' = true ∧ modelT m' = modelT m := ⟨m, h, rfl⟩
  unfold parseM
  rw [dif_pos hx]
  exact Prod.ext (model_inj hx.choose_spec.1 h hx.choose_spec.2) rfl
theorem parseM_no {l : List UInt8} (h : ∀ m, okModel m = true → modelT m ≠ l) : parseM l = (⟨[], []⟩, false) := by
  unfold parseM
  rw [dif_neg]
  rintro ⟨m, h1, h2⟩
  exact h m h1 h2
theorem okModel_small {m : Model} (h : okModel m = true) : smallM m := by
  obtain ⟨h1, h2, h3, h4, h5⟩ := model_facts h
  refine ⟨by omega, by omega, fun r hr => ?_⟩
  obtain ⟨f1, f2, f3, f | f⟩ := rule_facts h2 (h5 r hr)
  · obtain ⟨g1, g2, g3, g4, g5, g6⟩ := f
    exact ⟨by omega, by omega, by rw [g6]; simp, by rw [g6]; simp⟩
  · obtain ⟨g1, g2, g3, g4, g5, g6⟩ := f
    exact ⟨by omega, by rw [g2]; simp, by omega, fun x hx => by have := (g5 x hx).1; omega⟩
theorem parseM_small (l : List UInt8) : smallM (parseM l).1 := by
  by_cases hx : ∃ m, okModel m = true ∧ modelT m = l
  · obtain ⟨m, h1, rfl⟩ := hx
    rw [parseM_model h1]
    exact okModel_small h1
  · rw [parseM_no fun m h1 h2 => hx ⟨m, h1, h2⟩]
    exact ⟨by simp, by simp, by simp⟩
theorem parseM_end {l : List UInt8} (m : Model) (hno : ∀ d, okModel d = true → modelT d = l → m = d) : parseM l = if okModel m && (modelT m == l) then (m, true) else (⟨[], []⟩, false) := by
  cases hok : okModel m with
  | true =>
    by_cases he : modelT m = l
    · subst he
      simp [parseM_model hok]
    · rw [if_neg (by simpa using he), parseM_no]
      intro d hd e
      have := hno d hd e
      subst this
      exact he e
  | false =>
    rw [if_neg (by simp), parseM_no]
    intro d hd e
    have := hno d hd e
    subst this
    rw [hok] at hd
    cases hd
theorem lines_read {one : ByteArray → Option Rule} {lines : List (List UInt8)} (hl : lines.length ≤ 1048577) (hone : ∀ w ∈ lines, So (one (bs w)) (RP w)) {τ : Type} {b : Nat → ByteArray → List Rule → Option (Lo (List Rule) τ)}
    (hb : ∀ i w o, b i w o = (one w).bind fun r => (app o [r]).bind fun x => some (.cont x)) :
    So (rangeL b (lines.map bs) 0 []) fun j => ∃ rs, j = .nx rs ∧ rs.length = lines.length ∧ (∀ (i : Nat) (w : List UInt8) (r : Rule), lines[i]? = some w → rs[i]? = some r → RP w r) := by
  refine so_mono (so_range (fun i (o : List Rule) => o.length = i ∧ ∀ (k : Nat) (w : List UInt8) (r : Rule), k < i → lines[k]? = some w → o[k]? = some r → RP w r) (lines.map bs) [] ⟨rfl, by omega⟩ ?_) ?_
  · rintro i x o hx ⟨h1, h2⟩
    rw [List.getElem?_map] at hx
    cases hw : lines[i]? with
    | none => rw [hw] at hx; cases hx
    | some w =>
      rw [hw] at hx
      cases hx
      have hi := (List.getElem?_eq_some_iff.1 hw).1
      rw [hb]
      refine so_bind (hone w (List.mem_of_getElem? hw)) fun r hr => ?_
      rw [app_le (by simp; omega), Option.bind_some]
      refine so_some ⟨_, rfl, by simp [h1], fun k w' r' hk hw' hr' => ?_⟩
      by_cases hki : k < i
      · rw [List.getElem?_append_left (by omega)] at hr'
        exact h2 k w' r' hki hw' hr'
      · have : k = i := by omega
        subst this
        rw [List.getElem?_append_right (by omega), h1] at hr'
        simp at hr'
        rw [hw] at hw'
        cases hw'
        subst hr'
        exact hr
  · rintro j ⟨rs, rfl, h1, h2⟩
    rw [List.length_map] at h1 h2
    refine ⟨rs, rfl, h1, fun i w r hw hr => h2 i w r ?_ hw hr⟩
    exact (List.getElem?_eq_some_iff.1 hw).1
theorem rules_are {lines : List (List UInt8)} {rs : List Rule} (h1 : rs.length = lines.length) (h2 : ∀ (i : Nat) (w : List UInt8) (r : Rule), lines[i]? = some w → rs[i]? = some r → RP w r) {m : Model} (hm : okModel m = true) (hl : lines = m.rules.map ruleT) : rs = m.rules := by
  obtain ⟨m1, m2, m3, m4, m5⟩ := model_facts hm
  have hlen : rs.length = m.rules.length := by rw [h1, hl, List.length_map]
  apply List.ext_getElem hlen
  intro i hi hi2
  have hw : lines[i]? = some (ruleT m.rules[i]) := by rw [hl, List.getElem?_map, List.getElem?_eq_getElem hi2]; rfl
  exact (h2 i _ _ hw (List.getElem?_eq_getElem hi)).2 _ _ m2 (m5 _ (List.getElem_mem hi2)) rfl
theorem rules_small {lines : List (List UInt8)} {rs : List Rule} (h1 : rs.length = lines.length) (h2 : ∀ (i : Nat) (w : List UInt8) (r : Rule), lines[i]? = some w → rs[i]? = some r → RP w r) : ∀ r ∈ rs, smallR r := by
  intro r hr
  obtain ⟨i, hi, rfl⟩ := List.mem_iff_getElem.1 hr
  exact (h2 i lines[i] _ (List.getElem?_eq_getElem (by omega)) (List.getElem?_eq_getElem hi)).1
theorem i_lines2 {l : List UInt8} (h : l.length ≤ 1048576) (most : Int) : i_linesOf (bs l) most =
    some (((splitC 10 l).take ((splitC 10 l).length - 1)).map bs, ((splitC 10 l).getD ((splitC 10 l).length - 1) [] == []) && decide ((((splitC 10 l).length - 1 : Nat) : Int) ≤ most)) := by
  have hne : (splitC 10 l).length ≠ 0 := by rw [Ne, List.length_eq_zero_iff]; exact splitC_ne 10 l
  have hwl := splitC_len 10 l
  unfold i_linesOf
  rw [show (⟨#[10]⟩ : ByteArray) = bs [10] from rfl, strings_split (by omega), Option.bind_some]
  generalize splitC 10 l = ws at *
  simp only [List.length_map]
  rw [show i64 ((ws.length : Int) - 1) = ((ws.length - 1 : Nat) : Int) from by rw [i64_id (by omega) (by omega)]; omega, sl_pre (by rw [List.length_map]; omega), Option.bind_some, idx_wm (by omega), Option.bind_some,
    show (⟨#[]⟩ : ByteArray) = bs [] from rfl, eq_bs, List.map_take]
theorem i_parseM {l : List UInt8} (h : l.length ≤ 1048576) {fu : Nat} (hf : FV ≤ fu) : i_ParseModel fu (bs l) = some (parseM l) := by
  have hw : ∀ w ∈ splitC 10 l, w.length ≤ 1048576 := fun w hm => Nat.le_trans (splitC_mem hm) h
  have hwl := splitC_len 10 l
  have hmod : ∀ m, okModel m = true → modelT m = l → splitC 10 l = headM m :: m.rules.map ruleT ++ [[]] := fun m _ e => by rw [← e, split_model]
  unfold i_ParseModel
  rw [i_lines2 h, Option.bind_some]
  generalize splitC 10 l = ws at *
  have no_of : ∀ {P : Prop}, P → (∀ m, okModel m = true → modelT m = l → ¬ P) → some ((⟨[], []⟩, false) : Model × Bool) = some (parseM l) := fun hp hx => congrArg some (parseM_no fun m h1 h2 => hx m h1 h2 hp).symm
  simp only [List.length_map, List.length_take]
  by_cases hc : (!((ws.getD (ws.length - 1) [] == []) && decide (((ws.length - 1 : Nat) : Int) ≤ 9)) || ((Min.min (ws.length - 1) ws.length : Nat) : Int) == 0) = true
  · rw [if_pos hc]
    refine no_of hc fun m hm e => ?_
    have hws := hmod m hm e
    obtain ⟨m1, m2, m3, m4, m5⟩ := model_facts hm
    have hlen : ws.length = m.rules.length + 2 := by rw [hws]; simp
    have hlast : ws.getD (ws.length - 1) [] = [] := by
      unfold List.getD
      rw [hlen, hws, List.getElem?_append_right (by simp)]
      simp
    rw [hlast]
    simp
    omega
  rw [if_neg hc]
  have hlen2 : 2 ≤ ws.length ∧ ws.length ≤ 10 := by
    simp only [Bool.or_eq_true, Bool.not_eq_true', Bool.and_eq_false_iff, decide_eq_false_iff_not, beq_iff_eq, not_or] at hc
    omega
  obtain ⟨w0, rest, rfl⟩ : ∃ w0 rest, ws = w0 :: rest := by
    cases ws with
    | nil => simp at hlen2
    | cons a b => exact ⟨a, b, rfl⟩
  simp only [List.length_cons] at hlen2
  have htk : List.take ((w0 :: rest).length - 1) (w0 :: rest) = w0 :: rest.take (rest.length - 1) := by
    rw [List.length_cons, show rest.length + 1 - 1 = (rest.length - 1) + 1 by omega, List.take_succ_cons]
  simp only [htk, List.map_cons]
  rw [show idx (bs w0 :: (rest.take (rest.length - 1)).map bs) 0 = some (bs w0) from rfl, Option.bind_some]
  unfold strings_CutPrefix
  rw [Option.bind_some, bs_list, show (⟨#[115, 105, 122, 101, 115, 32]⟩ : ByteArray) = bs [115, 105, 122, 101, 115, 32] from rfl, bs_list]
  have hw0 : w0.length ≤ 1048576 := hw w0 (by simp)
  by_cases hp : Go.Lib.hasPrefix w0 [115, 105, 122, 101, 115, 32] = true
  · simp only [hp, Bool.not_true, Bool.false_eq_true, if_false]
    have htl : (Go.Lib.trimPrefix w0 [115, 105, 122, 101, 115, 32]).length ≤ 1048576 := by
      unfold Go.Lib.trimPrefix
      rw [if_pos hp, List.length_drop]
      omega
    rw [i_readDig htl, Option.bind_some]
    have hsl : sl (bs w0 :: (rest.take (rest.length - 1)).map bs) 1 (((Min.min ((w0 :: rest).length - 1) (w0 :: rest).length : Nat) : Int)) = some ((rest.take (rest.length - 1)).map bs) := by
      unfold sl
      rw [if_pos ⟨by omega, by simp; omega, by simp; omega⟩]
      congr 1
      rw [show (1 : Int).toNat = 1 from rfl, List.take_of_length_le (by simp; omega), List.drop_one, List.tail_cons]
    rw [hsl, Option.bind_some]
    have hlines : ∀ w ∈ rest.take (rest.length - 1), w.length ≤ 1048576 := fun w hm => hw w (List.mem_cons_of_mem _ (List.mem_of_mem_take hm))
    obtain ⟨j, hj, rs, rfl, r1, r2⟩ := lines_read (one := i_readRule fu) (lines := rest.take (rest.length - 1)) (by rw [List.length_take]; omega) (fun w hm => i_readR (hlines w hm) hf) (b := i_ParseModel_b1 fu) fun i w o => rfl
    rw [hj, Option.bind_some]
    have hsm : smallM ⟨rdD (Go.Lib.trimPrefix w0 [115, 105, 122, 101, 115, 32]), rs⟩ := ⟨by simp only [rdD_len]; exact htl, by simp only [r1, List.length_take]; omega, rules_small r1 r2⟩
    simp only
    rw [i_model _ hsm, Option.bind_some, parseM_end ⟨rdD (Go.Lib.trimPrefix w0 [115, 105, 122, 101, 115, 32]), rs⟩ fun d hd e => ?_]
    · cases hok : okModel ⟨rdD (Go.Lib.trimPrefix w0 [115, 105, 122, 101, 115, 32]), rs⟩ with
      | false => rfl
      | true =>
        rw [i_formatT hok]
        simp only [Bool.not_true, Bool.false_eq_true, if_false, Option.bind_some, eq_bs, Bool.true_and]
        cases (modelT ⟨rdD (Go.Lib.trimPrefix w0 [115, 105, 122, 101, 115, 32]), rs⟩ == l) <;> rfl
    · have hws := hmod d hd e
      rw [List.cons_append, List.cons.injEq] at hws
      obtain ⟨d1, d2, d3, d4, d5⟩ := model_facts hd
      have hrs : rest.take (rest.length - 1) = d.rules.map ruleT := by rw [hws.2]; simp
      have e1 := rules_are r1 r2 hd hrs
      have e2 : rdD (Go.Lib.trimPrefix w0 [115, 105, 122, 101, 115, 32]) = d.sizes := by
        have : Go.Lib.trimPrefix w0 [115, 105, 122, 101, 115, 32] = digT d.sizes := by
          unfold Go.Lib.trimPrefix
          rw [if_pos hp, hws.1]
          rfl
        rw [this]
        exact rdD_dig fun x hx => by have := d3 x hx; omega
      rw [e1, e2]
  · have hp : Go.Lib.hasPrefix w0 [115, 105, 122, 101, 115, 32] = false := by simpa using hp
    simp only [hp, Bool.not_false, if_true]
    refine no_of hp fun m hm e => ?_
    have hws := hmod m hm e
    rw [List.cons_append, List.cons.injEq] at hws
    rw [hws.1]
    unfold headM Go.Lib.hasPrefix
    simp
end Go.L
namespace Go.L
open Go Go.E
set_option linter.unusedSimpArgs false
set_option linter.unusedVariables false
set_option maxRecDepth 100000
theorem s_parseM {l : List UInt8} (h : l.length ≤ 1048576) {fu : Nat} (hf : FV ≤ fu) : s_ParseModel fu (bs l) = some (parseM l) := by
  have hfu : FU ≤ fu ∧ 100 ≤ fu := by unfold FV at hf; unfold FU; omega
  have hw : ∀ w ∈ splitC 10 l, w.length ≤ 1048576 := fun w hm => Nat.le_trans (splitC_mem hm) h
  have hwl := splitC_len 10 l
  have hmod : ∀ m, okModel m = true → modelT m = l → splitC 10 l = headM m :: m.rules.map ruleT ++ [[]] := fun m _ e => by rw [← e, split_model]
  have hnil : l = [] → splitC 10 l = [[]] := fun e => by rw [e]; rfl
  unfold s_ParseModel
  rw [show ((10 : Int)) = ((10 : Nat) : Int) from rfl, s_cut (by omega) h, show UInt8.ofNat 10 = 10 from rfl, Option.bind_some]
  generalize splitC 10 l = ws at *
  have no_of : (∀ m, okModel m = true → modelT m = l → False) → some ((⟨[], []⟩, false) : Model × Bool) = some (parseM l) := fun hx => congrArg some (parseM_no fun m h1 h2 => hx m h1 h2).symm
  simp only [List.length_map]
  by_cases hc : (decide ((ws.length : Int) < 2) || decide ((ws.length : Int) > ((10 : Nat) : Int))) = true
  · rw [if_pos hc, Option.bind_some]
    simp only [if_true, Option.bind_some]
    refine no_of fun m hm e => ?_
    have hws := hmod m hm e
    obtain ⟨m1, m2, m3, m4, m5⟩ := model_facts hm
    have hlen : ws.length = m.rules.length + 2 := by rw [hws]; simp
    simp only [Bool.or_eq_true, decide_eq_true_eq] at hc
    omega
  rw [if_neg hc]
  have hlen2 : 2 ≤ ws.length ∧ ws.length ≤ 10 := by
    simp only [Bool.or_eq_true, decide_eq_true_eq, not_or] at hc
    omega
  have h0 : idx (ws.map bs) 0 = some (bs (ws.getD 0 [])) := idx_wm (i := 0) (by omega)
  have hw0 := getD_wm hw 0
  have hhead : ∀ m, okModel m = true → modelT m = l → ws.getD 0 [] = headM m := fun m hm e => by rw [hmod m hm e]; rfl
  rw [h0, Option.bind_some, Option.bind_some, bs_size]
  generalize hw0e : ws.getD 0 [] = w0 at *
  by_cases h7 : w0.length < 7
  · rw [show (decide ((w0.length : Int) < 7)) = true from by simp only [decide_eq_true_eq]; omega]
    simp only [if_true, Option.bind_some]
    refine no_of fun m hm e => ?_
    have := hhead m hm e
    obtain ⟨m1, m2, m3, m4, m5⟩ := model_facts hm
    rw [this] at h7
    unfold headM at h7
    rw [digT_map fun x hx => by have := m3 x hx; omega] at h7
    simp at h7
    omega
  rw [show (decide ((w0.length : Int) < 7)) = false from by simp only [decide_eq_false_iff_not]; omega]
  simp only [Bool.false_eq_true, if_false]
  rw [Option.bind_some, ssl_bs (by omega) (by omega) (by omega), Option.bind_some, show (⟨#[115, 105, 122, 101, 115, 32]⟩ : ByteArray) = bs [115, 105, 122, 101, 115, 32] from rfl, eq_bs, Option.bind_some]
  simp only [show Int.toNat 0 = 0 from rfl, show Int.toNat 6 = 6 from rfl, List.drop_zero, Nat.sub_zero]
  by_cases hp : w0.take 6 = [115, 105, 122, 101, 115, 32]
  · rw [hp]
    simp only [beq_self_eq_true, Bool.not_true, Bool.false_eq_true, if_false]
    rw [Option.bind_some, show ((6 : Int)) = ((6 : Nat) : Int) from rfl, ssl_from (by omega), Option.bind_some, s_readDig (by simp; omega), Option.bind_some]
    obtain ⟨j, hj, rs, hjq, r1, r2⟩ := while_inv (b := s_ParseModel_b1 fu (ws.map bs)) (fun n s => ∃ rs : List Rule, s = (((1 + rs.length : Nat) : Int), rs) ∧ rs.length + 2 ≤ ws.length ∧ (∀ (k : Nat) (r : Rule), rs[k]? = some r → RP (ws.getD (1 + k) []) r) ∧ n = ws.length - rs.length)
      (fun j => ∃ rs : List Rule, j = .nx (((1 + rs.length : Nat) : Int), rs) ∧ rs.length + 2 = ws.length ∧ (∀ (k : Nat) (r : Rule), rs[k]? = some r → RP (ws.getD (1 + k) []) r)) (by
        rintro n s ⟨rs, rfl, h1, h2, rfl⟩
        unfold s_ParseModel_b1
        simp only [List.length_map]
        rw [show i64 (((1 + rs.length : Nat) : Int) + 1) = ((2 + rs.length : Nat) : Int) from by rw [i64_id (by omega) (by omega)]; omega]
        by_cases hlt : 2 + rs.length < ws.length
        · obtain ⟨r, hr, hrp⟩ := s_readR (getD_wm hw (1 + rs.length)) hfu.2
          rw [if_pos (by simp only [decide_eq_true_eq]; omega), idx_wm (by omega), Option.bind_some, hr, Option.bind_some, app_le (by simp; omega), Option.bind_some]
          refine ⟨_, rfl, ws.length - (rs.length + 1), by omega, rs ++ [r], ?_, by simp; omega, fun k r' hk => ?_, by simp⟩
          · rw [List.length_append, List.length_singleton, show 1 + (rs.length + 1) = 2 + rs.length by omega]
          · by_cases hkl : k < rs.length
            · rw [List.getElem?_append_left hkl] at hk
              exact h2 k r' hk
            · have hk2 := (List.getElem?_eq_some_iff.1 hk).1
              simp at hk2
              have : k = rs.length := by omega
              subst this
              simp at hk
              subst hk
              exact hrp
        · rw [if_neg (by simp only [decide_eq_true_eq]; omega)]
          exact ⟨_, rfl, rs, rfl, by omega, h2⟩) fu ws.length (1, []) ⟨[], rfl, by simp; omega, by simp, by simp⟩ (by unfold FV at hf; omega)
    subst hjq
    rw [hj, Option.bind_some]
    have hsm : smallM ⟨rdDs (w0.drop 6), rs⟩ := ⟨by simp only [rdDs_len, List.length_drop]; omega, by simp only; omega, fun r hr => by
      obtain ⟨k, hk, rfl⟩ := List.mem_iff_getElem.1 hr
      exact (r2 k _ (List.getElem?_eq_getElem hk)).1⟩
    simp only
    rw [s_fmtM _ hsm hfu.1, Option.bind_some, eq_bs, parseM_end ⟨rdDs (w0.drop 6), rs⟩ fun d hd e => ?_]
    · have hl : l ≠ [] := fun e => by have := hnil e; rw [this] at hlen2; simp at hlen2
      unfold fmtM
      cases hok : okModel ⟨rdDs (w0.drop 6), rs⟩ with
      | false =>
        have : (([] : List UInt8) == l) = false := by
          cases l with
          | nil => exact absurd rfl hl
          | cons a b => rfl
        simp [this]
      | true =>
        simp only [if_true, Bool.true_and]
        cases (modelT ⟨rdDs (w0.drop 6), rs⟩ == l) <;> rfl
    · obtain ⟨d1, d2, d3, d4, d5⟩ := model_facts hd
      have hws := hmod d hd e
      have e1 : rs = d.rules := by
        have hlen : rs.length = d.rules.length := by have := congrArg List.length hws; simp at this; omega
        apply List.ext_getElem hlen
        intro i hi hi2
        refine (r2 i _ (List.getElem?_eq_getElem hi)).2 _ _ d2 (d5 _ (List.getElem_mem hi2)) ?_
        unfold List.getD
        rw [hws, Nat.add_comm, List.cons_append, List.getElem?_cons_succ, List.getElem?_append_left (by simpa using hi2), List.getElem?_map, List.getElem?_eq_getElem hi2]
        rfl
      have e2 : rdDs (w0.drop 6) = d.sizes := by
        rw [hhead d hd e]
        exact rdDs_dig fun x hx => by have := d3 x hx; omega
      rw [e1, e2]
  · rw [show (!(w0.take 6 == [115, 105, 122, 101, 115, 32])) = true from by simpa using hp]
    simp only [if_true]
    refine no_of fun m hm e => hp ?_
    rw [hhead m hm e]
    rfl
theorem mkRowsH (xs : List (List Int)) (hl : xs.length ≤ 1048576) (hel : ∀ x ∈ xs, x.length ≤ 1048576) (fu : Nat) (hf : FV ≤ fu) (k : Int) (h0 : 0 ≤ k) (hK : k + 1099511627776 + 1048576 ≤ 9223372036854775806) :
    ∃ k' a', l_markIntSS fu xs k = some (k', a') ∧ l_heldIntSS a' k = some k' ∧ k ≤ k' ∧ k' ≤ k + 1099511627776 := by
  obtain ⟨a', k', j, e, _, hch, h1, h2⟩ := mark_all (b := l_markIntSS_b1 fu) (fun y k k' => l_heldIntS y k = some k' ∧ 0 ≤ k') 1048576 (9223372036854775806 - 1048576) (by omega) xs hl
    (fun a k i x hx hm h0 h1 => by
      obtain ⟨k', y, e, e2, h2, h3⟩ := mkIntS x (hel x hm) fu hf k h0 (by omega)
      refine ⟨y, k', ?_, ⟨e2, by omega⟩, h2, h3⟩
      show (if decide ((i : Int) < (a.length : Int)) then _ else _) = _
      rw [mk_lt hx, if_pos rfl, idx_nat, hx, Option.bind_some, e, Option.bind_some]; rfl)
    (fun a k i h => by show (if decide ((i : Int) < (a.length : Int)) then _ else _) = _; rw [mk_ge h]; rfl) k fu hf h0 (by omega)
  refine ⟨k', a', by unfold l_markIntSS; rw [e]; rfl, ?_, h1, by omega⟩
  unfold l_heldIntSS
  rw [chain_range (b := l_heldIntSS_b1) (P := fun y k k' => l_heldIntS y k = some k' ∧ 0 ≤ k') ?_ a' 0 k k' hch]
  · rfl
  · rintro i y k k' ⟨q1, q2⟩
    unfold l_heldIntSS_b1
    simp only []
    rw [q1, Option.bind_some, if_neg (by simp; omega)]
def PR (y : Rule) (k k' : Int) : Prop := ∃ k1 k2, y.kind = k ∧ l_heldIntS y.vars (k + 1) = some k1 ∧ l_heldIntS y.coefs k1 = some k2 ∧ y.bound = k2 ∧ l_heldIntSS y.rows (k2 + 1) = some k' ∧ 0 ≤ k ∧ k ≤ 9000000000000000000 ∧ 0 ≤ k1 ∧ 0 ≤ k2 ∧ k2 ≤ 9100000000000000000 ∧ 0 ≤ k'
theorem mkRulesH (xs : List Rule) (hl : xs.length ≤ 1048576) (hel : ∀ x ∈ xs, smallR x) (fu : Nat) (hf : FV ≤ fu) (k : Int) (h0 : 0 ≤ k) (hK : k + 1048576 * 1099516870912 ≤ 9000000000000000000) :
    ∃ k' a', l_markRuleS fu xs k = some (k', a') ∧ l_heldRuleS a' k = some k' ∧ k ≤ k' ∧ k' ≤ k + 1048576 * 1099516870912 := by
  obtain ⟨a', k', j, e, _, hch, h1, h2⟩ := mark_all (b := l_markRuleS_b1 fu) PR 1099516870912 9000000000000000000 (by omega) xs hl
    (fun a k i x hx hm h0 h1 => by
      obtain ⟨s1, s2, s3, s4⟩ := hel x hm
      obtain ⟨k1, y1, e1, f1, p1, q1⟩ := mkIntS x.vars s1 fu hf (k + 1) (by omega) (by omega)
      obtain ⟨k2, y2, e2, f2, p2, q2⟩ := mkIntS x.coefs s2 fu hf k1 (by omega) (by omega)
      obtain ⟨k3, y3, e3, f3, p3, q3⟩ := mkRowsH x.rows s3 s4 fu hf (k2 + 1) (by omega) (by omega)
      refine ⟨({ kind := k, vars := y1, coefs := y2, bound := k2, rows := y3 } : Rule), k3, ?_, ⟨k1, k2, rfl, f1, f2, rfl, f3, h0, h1, by omega, by omega, by omega, by omega⟩, by omega, by omega⟩
      have hi := (List.getElem?_eq_some_iff.1 hx).1
      show (if decide ((i : Int) < (a.length : Int)) then _ else _) = _
      rw [mk_lt hx, if_pos rfl, idx_nat, hx, Option.bind_some]
      simp only [Int.toNat_natCast, idx_set_self hx, Option.bind_some, i64_id (n := k + 1) (by omega) (by omega), e1, List.set_set, e2, i64_id (n := k2 + 1) (by omega) (by omega), e3])
    (fun a k i h => by show (if decide ((i : Int) < (a.length : Int)) then _ else _) = _; rw [mk_ge h]; rfl) k fu hf h0 (by omega)
  refine ⟨k', a', by unfold l_markRuleS; rw [e]; rfl, ?_, h1, by omega⟩
  unfold l_heldRuleS
  rw [chain_range (b := l_heldRuleS_b1) (P := PR) ?_ a' 0 k k' hch]
  · rfl
  · rintro i y k k' ⟨k1, k2, q1, q2, q3, q4, q5, q6, q7, q8, q9, q10, q11⟩
    unfold l_heldRuleS_b1
    simp only []
    rw [q1, if_neg (by simp), i64_id (by omega) (by omega), q2, Option.bind_some, if_neg (by simp; omega), q3, Option.bind_some, if_neg (by simp; omega), q4, if_neg (by simp), i64_id (by omega) (by omega), q5, Option.bind_some, if_neg (by simp; omega)]
theorem mkModelH (m : Model) (hs : smallM m) (fu : Nat) (hf : FV ≤ fu) (k : Int) (h0 : 0 ≤ k) (hK : k + 1048576 + 1048576 * 1099516870912 ≤ 9000000000000000000) :
    ∃ k' a', l_markModel fu m k = some (k', a') ∧ l_heldModel a' k = some k' ∧ k ≤ k' := by
  obtain ⟨k1, y1, e1, f1, p1, q1⟩ := mkIntS m.sizes hs.1 fu hf k h0 (by omega)
  obtain ⟨k2, y2, e2, f2, p2, q2⟩ := mkRulesH m.rules hs.2.1 hs.2.2 fu hf k1 (by omega) (by omega)
  refine ⟨k2, ⟨y1, y2⟩, by unfold l_markModel; rw [e1, Option.bind_some, e2]; rfl, ?_, by omega⟩
  unfold l_heldModel
  simp only
  rw [f1, Option.bind_some, if_neg (by simp; omega), f2, Option.bind_some, if_neg (by simp; omega)]
theorem FnExactParseModel_ok (aText : ByteArray) (g0 : aText.size ≤ maxLen) : ∃ fu, l_FnExactParseModel fu aText = some true := by
  refine ⟨FV, ?_⟩
  unfold l_FnExactParseModel
  split
  · rfl
  · rename_i hs
    obtain ⟨l, rfl⟩ : ∃ l, aText = bs l := ⟨_, bs_of aText⟩
    have hl : l.length ≤ 1048576 := by rw [bs_size] at hs; simp only [decide_eq_true_eq] at hs; omega
    obtain ⟨k', a', e1, e2, h1⟩ := mkModelH (parseM l).1 (parseM_small l) FV (Nat.le_refl _) 1 (by omega) (by omega)
    simp only [s_parseM hl (Nat.le_refl FV), i_parseM hl (Nat.le_refl FV), Option.bind_some, eqModel, e1, e2]
    have n1 : decide (k' < 0) = false := by simp only [decide_eq_false_iff_not]; omega
    simp [n1]
end Go.L

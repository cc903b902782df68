/- Sorting literals by their variables; clauses, the program's side. -/
import Derived.Test.YteeilbddjlpiaaaK50
namespace Go.L
open Go Go.E
set_option linter.unusedVariables false
set_option linter.unusedSimpArgs false
set_option maxRecDepth 100000
def leA (a b : Int) : Prop := absI a ≤ absI b
theorem i_cmp {a b : Int} (ha : lit12 a) (hb : lit12 b) : i_ClauseOf_1 a b = some (absI a - absI b) := by
  obtain ⟨_, a1, a2⟩ := ha
  obtain ⟨_, b1, b2⟩ := hb
  unfold i_ClauseOf_1 i_variableOf
  rw [i64_id (n := -a) (by omega) (by omega), Option.bind_some, i64_id (n := -b) (by omega) (by omega), Option.bind_some]
  show some (i64 (absI a - absI b)) = _
  rw [i64_id (by unfold absI; omega) (by unfold absI; omega)]
theorem set_mid {α : Type} (pre : List α) (y x z : α) (r : List α) (k : Nat) (hk : k = pre.length) : (pre ++ x :: r).set k y = pre ++ y :: r := by
  subst hk
  rw [List.set_append_right _ _ (Nat.le_refl _), Nat.sub_self, List.set_cons_zero]
/-- one element walks down to its place -/
theorem ins_loop (a : Int) (ha : a = 0) (x : Int) (hx : lit12 x) (rest : List Int) : ∀ (n : Nat) (pre mid : List Int) (k : Nat), pre.length = n → n < k → pre.length ≤ 100 → (∀ y ∈ pre, lit12 y) →
    ∃ p q, p ++ q = pre ∧ whileL (slices_insertionSortCmpFunc_int_b2 a i_ClauseOf_1) k (pre ++ x :: (mid ++ rest), (n : Int)) = some (.nx (p ++ x :: (q ++ mid ++ rest), (p.length : Int))) ∧ (∀ y ∈ q, absI x < absI y) ∧ (∀ y, p.getLast? = some y → absI y ≤ absI x)
  | 0, pre, mid, k, hn, hk, h1, h2 => by
    obtain ⟨k, rfl⟩ : ∃ k', k = k' + 1 := ⟨k - 1, by omega⟩
    have hp : pre = [] := List.length_eq_zero_iff.1 hn
    subst hp ha
    refine ⟨[], [], rfl, ?_, by simp, by simp⟩
    show (slices_insertionSortCmpFunc_int_b2 0 i_ClauseOf_1 _).bind _ = _
    rw [slices_insertionSortCmpFunc_int_b2]
    simp
  | n + 1, pre, mid, k, hn, hk, h1, h2 => by
    obtain ⟨k, rfl⟩ : ∃ k', k = k' + 1 := ⟨k - 1, by omega⟩
    subst ha
    obtain ⟨pre', y, rfl⟩ : ∃ p y, pre = p ++ [y] := by
      refine ⟨pre.dropLast, pre.getLast (by intro h; subst h; simp at hn), ?_⟩
      exact (List.dropLast_concat_getLast _).symm
    have hl : pre'.length = n := by simpa using hn
    have hy := h2 y (by simp)
    have i1 : idx (pre' ++ [y] ++ x :: (mid ++ rest)) ((n + 1 : Nat) : Int) = some x := by
      rw [idx_nat, List.getElem?_append_right (by simp; omega)]
      simp [hl]
    have i2 : idx (pre' ++ [y] ++ x :: (mid ++ rest)) (i64 (((n + 1 : Nat) : Int) - 1)) = some y := by
      rw [i64_id (by omega) (by omega), show ((n + 1 : Nat) : Int) - 1 = (n : Int) by omega, idx_nat, List.append_assoc, List.getElem?_append_right (by omega), hl, Nat.sub_self]
      rfl
    have ec : (if decide (((n + 1 : Nat) : Int) > 0) then ((idx (pre' ++ [y] ++ x :: (mid ++ rest)) ((n + 1 : Nat) : Int)).bind fun x14 => (idx (pre' ++ [y] ++ x :: (mid ++ rest)) (i64 (((n + 1 : Nat) : Int) - 1))).bind fun x19 => (i_ClauseOf_1 x14 x19).bind fun x22 => some (decide (x22 < 0))) else some false) = some (decide (absI x < absI y)) := by
      rw [if_pos (decide_eq_true (by omega)), i1, Option.bind_some, i2, Option.bind_some, i_cmp hx hy, Option.bind_some]
      congr 1
      by_cases h : absI x < absI y
      · rw [decide_eq_true h, decide_eq_true (by omega)]
      · rw [decide_eq_false h, decide_eq_false (by omega)]
    by_cases hc : absI x < absI y
    · obtain ⟨p, q, e1, e2, e3, e4⟩ := ins_loop 0 rfl x hx rest n pre' (y :: mid) k hl (by omega) (by simp at h1; omega) (fun z hz => h2 z (by simp [hz]))
      refine ⟨p, q ++ [y], by rw [← e1]; simp, ?_, ?_, e4⟩
      · show (slices_insertionSortCmpFunc_int_b2 0 i_ClauseOf_1 _).bind _ = _
        rw [slices_insertionSortCmpFunc_int_b2, ec, Option.bind_some, decide_eq_true hc, if_pos rfl, i2, Option.bind_some, i1, Option.bind_some]
        have s1 : (pre' ++ [y] ++ x :: (mid ++ rest)).set (Int.toNat ((n + 1 : Nat) : Int)) y = pre' ++ [y] ++ y :: (mid ++ rest) := set_mid _ y x x _ _ (by simp; omega)
        have e5 : i64 (((n + 1 : Nat) : Int) - 1) = (n : Int) := by rw [i64_id (by omega) (by omega)]; omega
        rw [s1, e5]
        have i3 : idx (pre' ++ [y] ++ y :: (mid ++ rest)) (n : Int) = some y := by
          rw [idx_nat, List.append_assoc, List.getElem?_append_right (by omega), hl, Nat.sub_self]
          rfl
        rw [i3, Option.bind_some]
        have s2 : (pre' ++ [y] ++ y :: (mid ++ rest)).set (Int.toNat (n : Int)) x = pre' ++ x :: (y :: (mid ++ rest)) := by
          rw [List.append_assoc]
          exact set_mid pre' x y y _ _ (by simp; omega)
        rw [s2]
        show whileL (slices_insertionSortCmpFunc_int_b2 0 i_ClauseOf_1) k (pre' ++ x :: (y :: mid ++ rest), (n : Int)) = _
        rw [e2]
        simp
      · intro z hz
        rcases List.mem_append.1 hz with hz | hz
        · exact e3 z hz
        · rw [List.mem_singleton] at hz; subst hz; exact hc
    · refine ⟨pre' ++ [y], [], by simp, ?_, by simp, ?_⟩
      · show (slices_insertionSortCmpFunc_int_b2 0 i_ClauseOf_1 _).bind _ = _
        rw [slices_insertionSortCmpFunc_int_b2, ec, Option.bind_some, decide_eq_false hc]
        simp [hl]
      · intro z hz
        simp at hz
        subst hz
        omega
def sortedA (xs : List Int) : Prop := xs.Pairwise leA
theorem ins_sorted {p q : List Int} {x : Int} (h : sortedA (p ++ q)) (h1 : ∀ y ∈ q, absI x < absI y) (h2 : ∀ y, p.getLast? = some y → absI y ≤ absI x) : sortedA (p ++ x :: q) := by
  unfold sortedA at *
  rw [List.pairwise_append] at h
  obtain ⟨hp, hq, hpq⟩ := h
  have hpx : ∀ y ∈ p, leA y x := by
    intro y hy
    cases hlast : p.getLast? with
    | none => rw [List.getLast?_eq_none_iff] at hlast; subst hlast; cases hy
    | some z =>
      have hz := h2 z hlast
      have : leA y z := by
        obtain ⟨p', rfl⟩ : ∃ p', p = p' ++ [z] := by
          rw [List.getLast?_eq_some_iff] at hlast
          exact hlast
        rw [List.pairwise_append] at hp
        rcases List.mem_append.1 hy with hy | hy
        · exact hp.2.2 y hy z (by simp)
        · rw [List.mem_singleton] at hy; subst hy; exact Int.le_refl _
      exact Int.le_trans this hz
  rw [List.pairwise_append]
  refine ⟨hp, ?_, ?_⟩
  · rw [List.pairwise_cons]
    exact ⟨fun y hy => Int.le_of_lt (h1 y hy), hq⟩
  · intro y hy z hz
    rcases List.mem_cons.1 hz with rfl | hz
    · exact hpx y hy
    · exact hpq y hy z hz
/-- insertion sort, of a short list -/
theorem sort_loop (fu : Nat) (hf : FU ≤ fu) (ls : List Int) (hl : ∀ l ∈ ls, lit12 l) (h12 : ls.length ≤ 12) (h1 : 1 ≤ ls.length) : ∃ r, slices_insertionSortCmpFunc_int fu ls 0 (ls.length : Int) i_ClauseOf_1 = some r ∧ r.Perm ls ∧ sortedA r := by
  unfold FU at hf
  unfold slices_insertionSortCmpFunc_int
  obtain ⟨j, hj, hQ⟩ := while_inv (b := slices_insertionSortCmpFunc_int_b1 fu 0 (ls.length : Int) i_ClauseOf_1)
    (fun n (s : List Int × Int) => ∃ i : Nat, s.2 = (i : Int) ∧ i + n = ls.length ∧ ∃ P, s.1 = P ++ ls.drop i ∧ P.Perm (ls.take i) ∧ sortedA P)
    (fun j => ∃ r k, j = .nx (r, k) ∧ r.Perm ls ∧ sortedA r) (fun n s hI => by
      obtain ⟨d, k⟩ := s
      obtain ⟨i, hk, hi, P, hd, hp, hs⟩ := hI
      simp only at hk hd
      subst hk hd
      cases n with
      | zero =>
        refine ⟨_, by rw [slices_insertionSortCmpFunc_int_b1, if_neg (by simp; omega)], ?_⟩
        have : i = ls.length := by omega
        subst this
        rw [List.take_length] at hp
        exact ⟨_, _, rfl, by simpa using hp, by simpa using hs⟩
      | succ n =>
        have hil : i < ls.length := by omega
        have hdr : ls.drop i = ls[i] :: ls.drop (i + 1) := List.drop_eq_getElem_cons hil
        have hpl : P.length = i := by rw [hp.length_eq]; simp; omega
        have hP : ∀ y ∈ P, lit12 y := fun y hy => hl y (List.mem_of_mem_take (hp.mem_iff.1 hy))
        obtain ⟨p, q, e1, e2, e3, e4⟩ := ins_loop 0 rfl ls[i] (hl _ (List.getElem_mem hil)) (ls.drop (i + 1)) i P [] fu hpl (by omega) (by omega) hP
        refine ⟨.cont (p ++ ls[i] :: (q ++ [] ++ ls.drop (i + 1)), ((i + 1 : Nat) : Int)), ?_, n, by omega, i + 1, rfl, by omega, p ++ ls[i] :: q, by simp, ?_, ?_⟩
        · rw [slices_insertionSortCmpFunc_int_b1, if_pos (decide_eq_true (by omega)), hdr]
          show ((whileL _ fu (P ++ ls[i] :: ([] ++ ls.drop (i + 1)), (i : Int))).bind _) = _
          rw [e2, Option.bind_some]
          simp only
          rw [i64_id (by omega) (by omega)]
          rfl
        · rw [take_snoc1 (List.getElem?_eq_getElem hil)]
          have h1 : (p ++ ls[i] :: q).Perm (ls[i] :: (p ++ q)) := List.perm_middle
          rw [e1] at h1
          refine h1.trans ?_
          have h2 : (ls[i] :: P).Perm (ls[i] :: ls.take i) := hp.cons _
          refine h2.trans ?_
          exact (List.perm_append_singleton _ _).symm
        · rw [← e1] at hs
          exact ins_sorted hs e3 e4)
    fu (ls.length - 1) (ls, i64 (0 + 1)) ⟨1, by simp [i64_id], by omega, ls.take 1, (List.take_append_drop 1 ls).symm, List.Perm.refl _, by
      obtain ⟨a, t, rfl⟩ : ∃ a t, ls = a :: t := by
        cases ls with
        | nil => simp at h1
        | cons a t => exact ⟨a, t, rfl⟩
      simp [sortedA]⟩ (by omega)
  rw [hj]
  obtain ⟨r, k, rfl, h2, h3⟩ := hQ
  exact ⟨r, rfl, h2, h3⟩
theorem sort_all (fu : Nat) (hf : FU ≤ fu) (ls : List Int) (hl : ∀ l ∈ ls, lit12 l) (h12 : ls.length ≤ 12) : ∃ r, slices_SortFunc_int fu ls i_ClauseOf_1 = some r ∧ r.Perm ls ∧ sortedA r := by
  have hF := hf
  unfold FU at hf
  have h0 : ∃ r, slices_insertionSortCmpFunc_int fu ls 0 (ls.length : Int) i_ClauseOf_1 = some r ∧ r.Perm ls ∧ sortedA r := by
    by_cases h1 : 1 ≤ ls.length
    · exact sort_loop fu hF ls hl h12 h1
    · have : ls = [] := List.length_eq_zero_iff.1 (by omega)
      subst this
      refine ⟨[], ?_, List.Perm.refl _, List.Pairwise.nil⟩
      unfold slices_insertionSortCmpFunc_int
      obtain ⟨k, rfl⟩ : ∃ k, fu = k + 1 := ⟨fu - 1, by omega⟩
      have : whileL (slices_insertionSortCmpFunc_int_b1 (k + 1) 0 (([] : List Int).length : Int) i_ClauseOf_1) (k + 1) ([], i64 (0 + 1)) = some (.nx ([], i64 (0 + 1))) := by
        show (slices_insertionSortCmpFunc_int_b1 (k + 1) 0 (([] : List Int).length : Int) i_ClauseOf_1 ([], i64 (0 + 1))).bind _ = _
        rw [slices_insertionSortCmpFunc_int_b1, if_neg (by rw [i64_id (by omega) (by omega)]; simp)]
        rfl
      rw [this]
      rfl
  obtain ⟨r, h1, h2, h3⟩ := h0
  refine ⟨r, ?_, h2, h3⟩
  unfold slices_SortFunc_int
  have hb : bits_Len (IntKind.u64.wrap (ls.length : Int)) = some (Go.Lib.bitLen (IntKind.u64.wrap (ls.length : Int)).toNat : Int) := by
    unfold bits_Len
    have : IntKind.u64.wrap (ls.length : Int) = (ls.length : Int) := by rw [IntKind.wrap_u64]; omega
    rw [this, if_pos (by omega)]
  rw [hb, Option.bind_some]
  unfold slices_pdqsortCmpFunc_int
  obtain ⟨k, rfl⟩ : ∃ k, fu = k + 1 := ⟨fu - 1, by omega⟩
  have : whileL (slices_pdqsortCmpFunc_int_b1 (k + 1) ls 0 (ls.length : Int) i_ClauseOf_1) (k + 1) () = some (.out r) := by
    show (slices_pdqsortCmpFunc_int_b1 (k + 1) ls 0 (ls.length : Int) i_ClauseOf_1 ()).bind _ = _
    rw [slices_pdqsortCmpFunc_int_b1, i64_id (by omega) (by omega), if_pos (decide_eq_true (by omega)), h1]
    rfl
  rw [this]
  rfl
theorem i_containsI (xs : List Int) (v : Int) : slices_Contains_int xs v = some (xs.contains v) := by
  unfold slices_Contains_int slices_Index_int
  obtain ⟨j, h1, h2⟩ := range_index (q := fun x => v == x) (b := slices_Index_int_b1 v) xs (fun i x hx => by rw [slices_Index_int_b1]; cases v == x <;> rfl)
  rw [h1]
  have e : (xs.any fun x => v == x) = xs.contains v := by
    rw [List.contains_eq_any_beq]
  cases j with
  | nx u => simp only at h2; rw [← e, h2]; rfl
  | out t => simp only at h2; rw [← e, h2.2]; simp [h2.1]
/-- no neighbours are equal: nothing goes -/
theorem compact_id (ls : List Int) (hl : ls.length ≤ 1000) (h : ∀ i a b, ls[i]? = some a → ls[i + 1]? = some b → b ≠ a) : slices_Compact_int ls = some ls := by
  unfold slices_Compact_int
  by_cases h2 : ls.length < 2
  · rw [if_pos (decide_eq_true (by omega))]
  · rw [if_neg (by simp; omega), cntF_of (s := 1) (by omega) (by omega), Option.bind_some]
    have := count_to (b := slices_Compact_int_b1 ls) (fun _ => ()) ((ls.length : Int) - (1 : Nat)).toNat 1 (by
      intro i h1 h3
      obtain ⟨n, rfl⟩ : ∃ n, i = n + 1 := ⟨i - 1, by omega⟩
      have hn : n + 1 < ls.length := by omega
      have e1 : ls[n]? = some ls[n] := List.getElem?_eq_getElem (by omega)
      have e2 : ls[n + 1]? = some ls[n + 1] := List.getElem?_eq_getElem hn
      have hne := h n _ _ e1 e2
      have e3 : (ls[n + 1] == ls[n]) = false := by rw [beq_eq_false_iff_ne]; exact hne
      rw [slices_Compact_int_b1, idx_nat, e2, Option.bind_some, i64_id (by omega) (by omega), show ((n + 1 : Nat) : Int) - 1 = (n : Int) by omega, idx_nat, e1, Option.bind_some, e3]
      rfl)
    rw [this]
    rfl
/-! a sorted list of literals is what the variables' order gives -/
def strictA (xs : List Int) : Prop := xs.Pairwise fun a b => absI a < absI b
theorem filter_split (n : Int) : ∀ (xs : List Int), strictA xs → xs.filter (fun l => decide (absI l ≤ n + 1)) = xs.filter (fun l => decide (absI l ≤ n)) ++ xs.filter (fun l => decide (absI l = n + 1))
  | [], _ => rfl
  | x :: xs, h => by
    unfold strictA at h
    rw [List.pairwise_cons] at h
    have ih := filter_split n xs h.2
    have tl : ∀ m : Int, m < absI x → xs.filter (fun l => decide (absI l ≤ m)) = [] := fun m hm => by
      rw [List.filter_eq_nil_iff]
      intro y hy
      have := h.1 y hy
      simp; omega
    have cp : ∀ (p : Int → Bool), p x = true → (x :: xs).filter p = x :: xs.filter p := fun p hp => by rw [List.filter_cons, if_pos hp]
    have cn : ∀ (p : Int → Bool), p x = false → (x :: xs).filter p = xs.filter p := fun p hp => by rw [List.filter_cons, hp]; rfl
    by_cases h1 : absI x ≤ n
    · rw [cp (fun l => decide (absI l ≤ n + 1)) (decide_eq_true (by omega)), cp (fun l => decide (absI l ≤ n)) (decide_eq_true h1), cn (fun l => decide (absI l = n + 1)) (decide_eq_false (by omega)), ih, List.cons_append]
    · rw [cn (fun l => decide (absI l ≤ n)) (decide_eq_false h1)]
      rw [tl n (by omega), List.nil_append] at ih ⊢
      by_cases h2 : absI x = n + 1
      · rw [cp (fun l => decide (absI l ≤ n + 1)) (decide_eq_true (by omega)), cp (fun l => decide (absI l = n + 1)) (decide_eq_true h2), ih]
      · rw [cn (fun l => decide (absI l ≤ n + 1)) (decide_eq_false (by omega)), cn (fun l => decide (absI l = n + 1)) (decide_eq_false h2), ih]
theorem filter_one (v : Int) (hv : 0 < v) : ∀ (xs : List Int), strictA xs → (∀ x ∈ xs, lit12 x) → xs.filter (fun l => decide (absI l = v)) = (if seenAt xs v ≠ 0 then [seenAt xs v] else [])
  | [], _, _ => by simp [seenAt]
  | x :: xs, h, hl => by
    unfold strictA at h
    rw [List.pairwise_cons] at h
    have hx := hl x (by simp)
    obtain ⟨x0, _, _⟩ := hx
    rw [List.filter_cons]
    by_cases h1 : absI x = v
    · have e1 : xs.filter (fun l => decide (absI l = v)) = [] := by
        rw [List.filter_eq_nil_iff]
        intro y hy
        have := h.1 y hy
        simp; omega
      have hn : ∀ y ∈ xs, absI y ≠ v := fun y hy => by have := h.1 y hy; omega
      have hs : seenAt (x :: xs) v = x := by
        unfold seenAt
        unfold absI at h1
        simp only [List.contains_eq_mem, List.mem_cons, decide_eq_true_eq]
        by_cases hp : x > 0
        · have : v = x := by omega
          rw [if_pos (.inl this), this]
        · have e : v = -x := by omega
          have n1 : ¬ (v = x ∨ v ∈ xs) := by
            rintro (h | h)
            · omega
            · have := hn v h; unfold absI at this; omega
          rw [if_neg n1, if_pos (.inl (by omega))]
          omega
      rw [if_pos (decide_eq_true h1), e1, hs, if_pos x0]
    · have hs : seenAt (x :: xs) v = seenAt xs v := by
        unfold seenAt
        unfold absI at h1
        simp only [List.contains_eq_mem, List.mem_cons, decide_eq_true_eq]
        have n1 : (v = x ∨ v ∈ xs) ↔ v ∈ xs := ⟨fun h => h.elim (fun h => by exfalso; omega) id, .inr⟩
        have n2 : (-v = x ∨ -v ∈ xs) ↔ -v ∈ xs := ⟨fun h => h.elim (fun h => by exfalso; omega) id, .inr⟩
        simp only [n1, n2]
      rw [if_neg (by simpa using h1), hs]
      exact filter_one v hv xs h.2 fun y hy => hl y (by simp [hy])
theorem clT_filter (xs : List Int) (h : strictA xs) (hl : ∀ x ∈ xs, lit12 x) : ∀ n : Nat, clT xs n = (xs.filter fun l => decide (absI l ≤ (n : Int))).map fun l => (⟨1, l⟩ : Term)
  | 0 => by
    have : xs.filter (fun l => decide (absI l ≤ ((0 : Nat) : Int))) = [] := by
      rw [List.filter_eq_nil_iff]
      intro y hy
      have := (hl y hy).1
      unfold absI
      simp; omega
    rw [clT, this]; rfl
  | n + 1 => by
    rw [clT, clT_filter xs h hl n, show ((n + 1 : Nat) : Int) = (n : Int) + 1 by omega, filter_split (n : Int) xs h, List.map_append, filter_one ((n : Int) + 1) (by omega) xs h hl]
    congr 1
    split <;> rfl
theorem clT_sorted (xs : List Int) (h : strictA xs) (hl : ∀ x ∈ xs, lit12 x) : clT xs 12 = xs.map fun l => (⟨1, l⟩ : Term) := by
  rw [clT_filter xs h hl]
  congr 1
  rw [List.filter_eq_self]
  intro x hx
  obtain ⟨_, h1, h2⟩ := hl x hx
  unfold absI
  simp; omega
theorem seenAt_perm {xs ys : List Int} (h : ∀ x, x ∈ xs ↔ x ∈ ys) (v : Int) : seenAt xs v = seenAt ys v := by
  unfold seenAt
  simp only [List.contains_eq_mem, h]
theorem clT_perm {xs ys : List Int} (h : ∀ x, x ∈ xs ↔ x ∈ ys) : ∀ n, clT xs n = clT ys n
  | 0 => rfl
  | n + 1 => by rw [clT, clT, clT_perm h n, seenAt_perm h]
theorem nodup_at {α β : Type} (f : α → β) : ∀ (ls : List α) (i j : Nat) (a b : α), (ls.map f).Nodup → i < j → ls[i]? = some a → ls[j]? = some b → f a ≠ f b
  | x :: xs, 0, j + 1, a, b, h, _, ha, hb => by
    rw [List.map_cons, List.nodup_cons] at h
    simp only [List.getElem?_cons_zero, Option.some.injEq, List.getElem?_cons_succ] at ha hb
    subst ha
    intro e
    exact h.1 (by rw [e]; exact List.mem_map_of_mem (List.mem_of_getElem? hb))
  | x :: xs, i + 1, j + 1, a, b, h, hij, ha, hb => by
    rw [List.map_cons, List.nodup_cons] at h
    simp only [List.getElem?_cons_succ] at ha hb
    exact nodup_at f xs i j a b h.2 (by omega) ha hb
/-- literals of different variables -/
def distinctA (ls : List Int) : Prop := (ls.map absI).Nodup
theorem strict_of {xs : List Int} (h : sortedA xs) (hd : distinctA xs) : strictA xs := by
  unfold sortedA strictA distinctA at *
  induction xs with
  | nil => exact List.Pairwise.nil
  | cons x xs ih =>
    rw [List.pairwise_cons] at *
    rw [List.map_cons, List.nodup_cons] at hd
    refine ⟨fun y hy => ?_, ih h.2 hd.2⟩
    have h1 := h.1 y hy
    unfold leA at h1
    have h2 : absI x ≠ absI y := fun e => hd.1 (by rw [e]; exact List.mem_map_of_mem hy)
    omega
theorem distinct_ok {ls : List Int} (hl : ∀ l ∈ ls, lit12 l) (hd : distinctA ls) : clOk ls = true := by
  rw [clOk_iff]
  intro l h
  refine ⟨hl l h, fun hn => ?_⟩
  unfold distinctA at hd
  have hne : -l ≠ l := by have := (hl l h).1; omega
  obtain ⟨i, hi⟩ := List.getElem?_of_mem h
  obtain ⟨j, hj⟩ := List.getElem?_of_mem hn
  have hij : i ≠ j := by intro e; subst e; rw [hi] at hj; injection hj with hj; exact hne hj.symm
  have hil := (List.getElem?_eq_some_iff.1 hi).1
  have hjl := (List.getElem?_eq_some_iff.1 hj).1
  rcases Nat.lt_or_ge i j with hlt | hge
  · exact nodup_at absI ls i j l (-l) hd hlt hi hj (absI_neg l).symm
  · exact nodup_at absI ls j i (-l) l hd (by omega) hj hi (absI_neg l)
theorem i_clause (fu : Nat) (hf : FU ≤ fu) (ls : List Int) (hl : ∀ l ∈ ls, lit12 l) (hd : distinctA ls) (h12 : ls.length ≤ 12) : i_ClauseOf fu ls = some (clC ls, true) := by
  have hok := distinct_ok hl hd
  unfold i_ClauseOf
  rw [if_neg (by simp; omega), range_all (fun l => litOk l && !ls.contains (-l)) (zeroC', false) ls fun i l hli => by
    have hm := List.mem_of_getElem? hli
    have hlo := litOk_iff.2 (hl l hm)
    have h1 : i_isLiteral l = some true := by
      unfold i_isLiteral i_within
      unfold litOk at hlo
      rw [Bool.and_eq_true] at hlo
      rw [hlo.1]
      simp [hlo.2]
    have hl' := hl l hm
    rw [i_ClauseOf_b1, h1, i_containsI, i64_id (by have := hl'.2.2; omega) (by have := hl'.2.1; omega), hlo]
    cases ls.contains (-l) <;> rfl, Option.bind_some]
  have hall : (ls.all fun l => litOk l && !ls.contains (-l)) = true := hok
  rw [hall]
  simp only [if_true]
  rw [i_clone_int ls (by omega), Option.bind_some]
  obtain ⟨r, h1, h2, h3⟩ := sort_all fu hf ls hl h12
  have hdr : distinctA r := by
    unfold distinctA at *
    exact (h2.map absI).nodup_iff.2 hd
  have hrl : ∀ x ∈ r, lit12 x := fun x hx => hl x (h2.mem_iff.1 hx)
  have hst := strict_of h3 hdr
  have hlen := h2.length_eq
  rw [h1, Option.bind_some, compact_id r (by omega) (by
    intro i a b ha hb e
    subst e
    have hil := (List.getElem?_eq_some_iff.1 ha).1
    have hjl := (List.getElem?_eq_some_iff.1 hb).1
    unfold distinctA at hdr
    exact nodup_at absI r i (i + 1) b b hdr (by omega) ha hb rfl), Option.bind_some]
  have := range_map (b := i_ClauseOf_b2) (fun l => (⟨1, l⟩ : Term)) r fun i x out hx hlo => by
    have hi := (List.getElem?_eq_some_iff.1 hx).1
    rw [i_ClauseOf_b2, app_le (by simp; omega)]
    rfl
  rw [this, Option.bind_some, ← clT_sorted r hst hrl, clT_perm (fun x => h2.mem_iff)]
  rfl
end Go.L

/- The plain law: what the functions compute, and that it answers as the statement says. -/
import Derived.Test.YtbjllamkfmejlaaGreatKA
namespace Go.L
open Go Go.E
set_option linter.unusedVariables false
set_option linter.unusedSimpArgs false
set_option maxRecDepth 100000
theorem swap_loop {τ : Type} {b : List Int × Int → Option (Lo (List Int × Int) τ)}
    (h0 : ∀ d, b (d, 0) = some (.brk (d, 0)))
    (h1 : ∀ (pre : List Int) (y x : Int) (rest : List Int) (k : Nat), pre.length = k → k ≤ 100 → b (pre ++ y :: x :: rest, ((k + 1 : Nat) : Int)) = some (if decide (x < y) then .cont (pre ++ x :: y :: rest, (k : Int)) else .brk (pre ++ y :: x :: rest, ((k + 1 : Nat) : Int))))
    (x : Int) (rest : List Int) : ∀ (n : Nat) (pre mid : List Int) (k : Nat), pre.length = n → n < k → n ≤ 100 →
    ∃ p q s, p ++ q = pre ∧ whileL b k (pre ++ x :: (mid ++ rest), (n : Int)) = some (.nx (p ++ x :: (q ++ mid ++ rest), s)) ∧ (∀ y ∈ q, x < y) ∧ (∀ y, p.getLast? = some y → y ≤ x)
  | 0, pre, mid, k, hn, hk, h100 => by
    obtain ⟨k, rfl⟩ : ∃ k', k = k' + 1 := ⟨k - 1, by omega⟩
    have hp : pre = [] := List.length_eq_zero_iff.1 hn
    subst hp
    refine ⟨[], [], 0, rfl, ?_, by simp, by simp⟩
    show (b _).bind _ = _
    have := h0 ([] ++ x :: (mid ++ rest))
    rw [show (((0 : Nat) : Int)) = 0 from rfl, this]
    rfl
  | n + 1, pre, mid, k, hn, hk, h100 => by
    obtain ⟨k, rfl⟩ : ∃ k', k = k' + 1 := ⟨k - 1, by omega⟩
    obtain ⟨pre', y, rfl⟩ : ∃ p y, pre = p ++ [y] := ⟨pre.dropLast, pre.getLast (by intro h; subst h; simp at hn), (List.dropLast_concat_getLast _).symm⟩
    have hl : pre'.length = n := by simpa using hn
    have e := h1 pre' y x (mid ++ rest) n hl (by omega)
    rw [show pre' ++ [y] ++ x :: (mid ++ rest) = pre' ++ y :: x :: (mid ++ rest) by simp]
    by_cases hc : x < y
    · obtain ⟨p, q, s, e1, e2, e3, e4⟩ := swap_loop h0 h1 x rest n pre' (y :: mid) k hl (by omega) (by omega)
      refine ⟨p, q ++ [y], s, by rw [← e1]; simp, ?_, ?_, e4⟩
      · show (b _).bind _ = _
        rw [e, decide_eq_true hc, if_pos rfl]
        show whileL b k (pre' ++ x :: (y :: mid ++ rest), (n : Int)) = _
        rw [e2]
        simp
      · intro z hz
        rcases List.mem_append.1 hz with hz | hz
        · exact e3 z hz
        · rw [List.mem_singleton] at hz; subst hz; exact hc
    · refine ⟨pre' ++ [y], [], ((n + 1 : Nat) : Int), by simp, ?_, by simp, ?_⟩
      · show (b _).bind _ = _
        rw [e, decide_eq_false hc, if_neg (by simp)]
        show some (Jn.nx _) = _
        simp
      · intro z hz
        simp at hz
        subst hz
        omega
theorem ins_sortedI {p q : List Int} {x : Int} (h : (p ++ q).Pairwise (· ≤ ·)) (h1 : ∀ y ∈ q, x < y) (h2 : ∀ y, p.getLast? = some y → y ≤ x) : (p ++ x :: q).Pairwise (· ≤ ·) := by
  rw [List.pairwise_append] at h
  obtain ⟨hp, hq, hpq⟩ := h
  have hpx : ∀ y ∈ p, y ≤ x := by
    intro y hy
    cases hlast : p.getLast? with
    | none => rw [List.getLast?_eq_none_iff] at hlast; subst hlast; cases hy
    | some z =>
      have hz := h2 z hlast
      have : y ≤ z := by
        obtain ⟨p', rfl⟩ : ∃ p', p = p' ++ [z] := by
          rw [List.getLast?_eq_some_iff] at hlast
          exact hlast
        rw [List.pairwise_append] at hp
        rcases List.mem_append.1 hy with hy | hy
        · exact hp.2.2 y hy z (by simp)
        · rw [List.mem_singleton] at hy; subst hy; exact Int.le_refl _
      exact Int.le_trans this hz
  rw [List.pairwise_append]
  refine ⟨hp, ?_, ?_⟩
  · rw [List.pairwise_cons]
    exact ⟨fun y hy => Int.le_of_lt (h1 y hy), hq⟩
  · intro y hy z hz
    rcases List.mem_cons.1 hz with rfl | hz
    · exact hpx y hy
    · exact hpq y hy z hz
theorem outer_sort {τ : Type} {b2 : List Int × Int → Option (Lo (List Int × Int) τ)} {σ : Type} {b1 : List Int × Int → Option (Lo (List Int × Int) σ)} (fu : Nat) (hf : FU ≤ fu) (ls : List Int) (h12 : ls.length ≤ 100)
    (h0 : ∀ d, b2 (d, 0) = some (.brk (d, 0)))
    (h1 : ∀ (pre : List Int) (y x : Int) (rest : List Int) (k : Nat), pre.length = k → k ≤ 100 → b2 (pre ++ y :: x :: rest, ((k + 1 : Nat) : Int)) = some (if decide (x < y) then .cont (pre ++ x :: y :: rest, (k : Int)) else .brk (pre ++ y :: x :: rest, ((k + 1 : Nat) : Int))))
    (hout : ∀ d, d.length = ls.length → b1 (d, (ls.length : Int)) = some (.brk (d, (ls.length : Int))))
    (hin : ∀ (d : List Int) (i : Nat) (d' : List Int) (s : Int), d.length = ls.length → i < ls.length → whileL b2 fu (d, (i : Int)) = some (.nx (d', s)) → b1 (d, (i : Int)) = some (.cont (d', ((i + 1 : Nat) : Int)))) (i0 : Nat) (hi0 : i0 ≤ 1) (hi1 : i0 ≤ ls.length) :
    ∃ k, whileL b1 fu (ls, (i0 : Int)) = some (.nx (sortI ls, k)) := by
  have hF := hf
  unfold FU at hF
  obtain ⟨j, hj, hQ⟩ := while_inv (b := b1)
    (fun n (s : List Int × Int) => ∃ i : Nat, s.2 = (i : Int) ∧ i + n = ls.length ∧ ∃ P, s.1 = P ++ ls.drop i ∧ P.Perm (ls.take i) ∧ P.Pairwise (· ≤ ·))
    (fun j => ∃ k, j = .nx (sortI ls, k)) (fun n s hI => by
      obtain ⟨d, k⟩ := s
      obtain ⟨i, hk, hi, P, hd, hp, hs⟩ := hI
      simp only at hk hd
      subst hk hd
      have hpl : P.length = i := by rw [hp.length_eq]; simp; omega
      cases n with
      | zero =>
        have : i = ls.length := by omega
        subst this
        refine ⟨_, hout _ (by simp [hpl]), (ls.length : Int), ?_⟩
        rw [List.take_length] at hp
        simp only [List.drop_length, List.append_nil]
        rw [sorted_uniq (hp.trans (sortI_perm ls).symm) hs (sortI_sorted ls)]
      | succ n =>
        have hil : i < ls.length := by omega
        have hdr : ls.drop i = ls[i] :: ls.drop (i + 1) := List.drop_eq_getElem_cons hil
        obtain ⟨p, q, s, e1, e2, e3, e4⟩ := swap_loop h0 h1 ls[i] (ls.drop (i + 1)) i P [] fu hpl (by omega) (by omega)
        have hw : whileL b2 fu (P ++ ls.drop i, (i : Int)) = some (.nx (p ++ ls[i] :: (q ++ [] ++ ls.drop (i + 1)), s)) := by
          rw [hdr]; exact e2
        refine ⟨_, hin _ i _ s (by simp [hpl]; omega) hil hw, n, by omega, i + 1, rfl, by omega, p ++ ls[i] :: q, by simp, ?_, ?_⟩
        · rw [take_snoc1 (List.getElem?_eq_getElem hil)]
          have g1 : (p ++ ls[i] :: q).Perm (ls[i] :: (p ++ q)) := List.perm_middle
          rw [e1] at g1
          exact g1.trans ((hp.cons _).trans (List.perm_append_singleton _ _).symm)
        · rw [← e1] at hs
          exact ins_sortedI hs e3 e4)
    fu (ls.length - i0) (ls, (i0 : Int)) ⟨i0, rfl, by omega, ls.take i0, (List.take_append_drop i0 ls).symm, List.Perm.refl _, by
      have : (ls.take i0).length ≤ 1 := by simp; omega
      match h : ls.take i0, this with
      | [], _ => exact List.Pairwise.nil
      | [a], _ => simp⟩ (by omega)
  obtain ⟨k, rfl⟩ := hQ
  exact ⟨k, hj⟩
theorem two_at (pre : List Int) (y x : Int) (rest : List Int) (k : Nat) (hk : pre.length = k) : idx (pre ++ y :: x :: rest) ((k + 1 : Nat) : Int) = some x ∧ idx (pre ++ y :: x :: rest) (k : Int) = some y := by
  subst hk
  constructor
  · rw [idx_nat, List.getElem?_append_right (by omega), Nat.add_sub_cancel_left]; rfl
  · rw [idx_nat, List.getElem?_append_right (by omega), Nat.sub_self]; rfl
theorem two_set (pre : List Int) (y x u : Int) (rest : List Int) (k : Nat) (hk : pre.length = k) : (pre ++ y :: x :: rest).set (k + 1) u = pre ++ y :: u :: rest ∧ (pre ++ y :: x :: rest).set k u = pre ++ u :: x :: rest := by
  subst hk
  constructor
  · rw [List.set_append_right _ _ (by omega), Nat.add_sub_cancel_left]; rfl
  · rw [List.set_append_right _ _ (Nat.le_refl _), Nat.sub_self]; rfl
theorem s_sorted (fu : Nat) (hf : FU ≤ fu) (ls : List Int) (hl : ls.length ≤ 100) : s_l7Sorted fu ls = some (sortI ls) := by
  unfold s_l7Sorted
  rw [app_le (by simp; omega), Option.bind_some, List.nil_append]
  obtain ⟨k, h⟩ := outer_sort (b2 := s_l7Sorted_b2) (b1 := s_l7Sorted_b1 fu) fu hf ls hl
    (fun d => by rw [s_l7Sorted_b2]; rfl)
    (fun pre y x rest k hk h100 => by
      obtain ⟨t1, t2⟩ := two_at pre y x rest k hk
      have e5 : i64 (((k + 1 : Nat) : Int) - 1) = (k : Int) := by rw [i64_id (by omega) (by omega)]; omega
      rw [s_l7Sorted_b2, if_pos (decide_eq_true (by omega)), t1, e5, t2, Option.bind_some, Option.bind_some, Option.bind_some]
      by_cases h : x < y
      · rw [decide_eq_true h, if_pos rfl, if_pos rfl]
        have s1 := (two_set pre y x y rest k hk).1
        have s2 := (two_set pre y y x rest k hk).2
        have t3 := (two_at pre y y rest k hk).2
        show ((some x).bind fun x56 => _) = _
        simp only [Option.bind_some, Int.toNat_natCast, s1, t3, s2]
      · rw [decide_eq_false h]; rfl)
    (fun d hd => by rw [s_l7Sorted_b1, if_neg (by simp; omega)])
    (fun d i d' s hd hi hw => by
      rw [s_l7Sorted_b1, if_pos (decide_eq_true (by omega)), hw, Option.bind_some]
      simp only
      rw [i64_id (by omega) (by omega)]; rfl) 0 (by omega) (by omega)
  rw [show (0 : Int) = ((0 : Nat) : Int) from rfl, h]
  rfl
theorem i_sorted (fu : Nat) (hf : FU ≤ fu) (ls : List Int) (h1 : 1 ≤ ls.length) (hl : ls.length ≤ 12) : slices_Sort_int fu ls = some (sortI ls) := by
  unfold slices_Sort_int
  have hb : bits_Len (IntKind.u64.wrap (ls.length : Int)) = some (Go.Lib.bitLen (IntKind.u64.wrap (ls.length : Int)).toNat : Int) := by
    unfold bits_Len
    have : IntKind.u64.wrap (ls.length : Int) = (ls.length : Int) := by rw [IntKind.wrap_u64]; omega
    rw [this, if_pos (by omega)]
  rw [hb, Option.bind_some]
  obtain ⟨k, h⟩ := outer_sort (b2 := slices_insertionSortOrdered_int_b2 0) (b1 := slices_insertionSortOrdered_int_b1 fu 0 (ls.length : Int)) fu hf ls (by omega)
    (fun d => by rw [slices_insertionSortOrdered_int_b2]; rfl)
    (fun pre y x rest k hk h100 => by
      obtain ⟨t1, t2⟩ := two_at pre y x rest k hk
      have e5 : i64 (((k + 1 : Nat) : Int) - 1) = (k : Int) := by rw [i64_id (by omega) (by omega)]; omega
      have hless : cmp_Less_int x y = some (decide (x < y)) := by unfold cmp_Less_int cmp_isNaN_int; simp
      rw [slices_insertionSortOrdered_int_b2, if_pos (decide_eq_true (by omega)), t1, e5, t2, Option.bind_some, Option.bind_some, hless, Option.bind_some, Option.bind_some]
      by_cases h : x < y
      · rw [decide_eq_true h, if_pos rfl, if_pos rfl]
        have s1 := (two_set pre y x y rest k hk).1
        have s2 := (two_set pre y y x rest k hk).2
        have t3 := (two_at pre y y rest k hk).2
        show ((some y).bind fun x52 => _) = _
        simp only [Option.bind_some, Int.toNat_natCast, s1, t3, s2]
      · rw [decide_eq_false h]; rfl)
    (fun d hd => by rw [slices_insertionSortOrdered_int_b1, if_neg (by simp)])
    (fun d i d' s hd hi hw => by
      rw [slices_insertionSortOrdered_int_b1, if_pos (decide_eq_true (by omega)), hw, Option.bind_some]
      simp only
      rw [i64_id (by omega) (by omega)]; rfl) 1 (by omega) (by omega)
  unfold slices_pdqsortOrdered_int
  unfold FU at hf
  obtain ⟨n, rfl⟩ : ∃ n, fu = n + 1 := ⟨fu - 1, by omega⟩
  have : whileL (slices_pdqsortOrdered_int_b1 (n + 1) ls 0 (ls.length : Int)) (n + 1) () = some (.out (sortI ls)) := by
    show (slices_pdqsortOrdered_int_b1 (n + 1) ls 0 (ls.length : Int) ()).bind _ = _
    rw [slices_pdqsortOrdered_int_b1, i64_id (by omega) (by omega), if_pos (decide_eq_true (by omega))]
    unfold slices_insertionSortOrdered_int
    rw [i64_id (by omega) (by omega), show (0 : Int) + 1 = ((1 : Nat) : Int) from rfl, h]
    rfl
  rw [this]
  rfl
end Go.L
namespace Go.L
open Go Go.E
set_option linter.unusedVariables false
set_option linter.unusedSimpArgs false
set_option maxRecDepth 100000
def varN (r : Rule) (n : Nat) : Nat := (r.vars.getD n 0).toNat
theorem varN_at {m : Model} {r : Rule} (hv : okVars m.sizes.length r.vars = true) {n : Nat} {x : Int} (hx : r.vars[n]? = some x) : x = (varN r n : Int) ∧ varN r n < m.sizes.length ∧ n < r.vars.length := by
  have hb := (okVars_iff.1 hv).1 x (List.mem_of_getElem? hx)
  have e : varN r n = x.toNat := by unfold varN; rw [List.getD_eq_getElem?_getD, hx]; rfl
  exact ⟨by omega, by omega, (List.getElem?_eq_some_iff.1 hx).1⟩
theorem varN_lt {m : Model} {r : Rule} (hv : okVars m.sizes.length r.vars = true) {n : Nat} (hn : n < r.vars.length) : varN r n < m.sizes.length := (varN_at hv (List.getElem?_eq_getElem hn)).2.1
theorem varN_inj {m : Model} {r : Rule} (hv : okVars m.sizes.length r.vars = true) {i j : Nat} (hi : i < r.vars.length) (hj : j < r.vars.length) (h : varN r i = varN r j) : i = j := by
  have h1 := (varN_at hv (List.getElem?_eq_getElem hi)).1
  have h2 := (varN_at hv (List.getElem?_eq_getElem hj)).1
  have hd := distinct_nodup.1 (okVars_iff.1 hv).2
  have e : r.vars[i] = r.vars[j] := by rw [h1, h2, h]
  rcases Nat.lt_trichotomy i j with hlt | he | hgt
  · exact absurd e ((List.pairwise_iff_getElem.1 hd) i j hi hj hlt)
  · exact he
  · exact absurd e.symm ((List.pairwise_iff_getElem.1 hd) j i hj hi hgt)
theorem s_varN {m : Model} (hok : okModel m = true) {c v : Nat} (hc : c < m.sizes.length) (hv : v ≤ 3) : s_l7Var m (c : Int) (v : Int) = some (boolVar m c v) := by
  obtain ⟨h1, h5, ha, _⟩ := okModel_parts hok
  exact s_var m c v (by omega) h5 ha ⟨by omega, by omega⟩
theorem i_varN {m : Model} (hok : okModel m = true) {c v : Nat} (hc : c < m.sizes.length) (hv : v ≤ 3) : i_Model_boolVar m (c : Int) (v : Int) = some (boolVar m c v) := by
  obtain ⟨h1, h5, ha, _⟩ := okModel_parts hok
  exact i_var m c v (by omega) h5 ha ⟨by omega, by omega⟩
theorem var_same {m : Model} (hok : okModel m = true) {c d v u : Nat} (hc : c < m.sizes.length) (hd : d < m.sizes.length) (hv : v ≤ sizeAt m c) (hu : u ≤ sizeAt m d) (h : boolVar m c v = boolVar m d u) : c = d ∧ v = u := by
  have h1 := size_ok hok hc
  have h2 := size_ok hok hd
  have := bv_inj (okModel_parts hok).2.2.1 hc hd (v := (v : Int)) (u := (u : Int)) (by omega) (by omega) (by omega) (by omega) h
  exact ⟨this.1, by omega⟩
def diffTo (m : Model) (r : Rule) (v : Nat) : Nat → List Int
  | 0 => []
  | n + 1 => diffTo m r v n ++ (if v ≤ sizeAt m (varN r n) then [boolVar m (varN r n) v] else [])
theorem diffTo_len (m : Model) (r : Rule) (v : Nat) : ∀ n, (diffTo m r v n).length ≤ n
  | 0 => Nat.le_refl _
  | n + 1 => by
    have := diffTo_len m r v n
    rw [diffTo, List.length_append]
    split <;> simp <;> omega
theorem diffTo_mem {m : Model} {r : Rule} {v : Nat} {x : Int} : ∀ n, x ∈ diffTo m r v n ↔ ∃ j, j < n ∧ v ≤ sizeAt m (varN r j) ∧ x = boolVar m (varN r j) v
  | 0 => by simp [diffTo]
  | n + 1 => by
    rw [diffTo, List.mem_append, diffTo_mem n]
    constructor
    · rintro (⟨j, h1, h2, h3⟩ | h)
      · exact ⟨j, by omega, h2, h3⟩
      · split at h
        · rw [List.mem_singleton] at h; exact ⟨n, by omega, ‹_›, h⟩
        · cases h
    · rintro ⟨j, h1, h2, h3⟩
      by_cases e : j = n
      · subst e; right; rw [if_pos h2, h3]; simp
      · exact .inl ⟨j, by omega, h2, h3⟩
theorem diffTo_pos {m : Model} (hok : okModel m = true) {r : Rule} (hv : okVars m.sizes.length r.vars = true) (v : Nat) : ∀ x ∈ diffTo m r v r.vars.length, 1 ≤ x ∧ x ≤ 12 := by
  intro x hx
  obtain ⟨j, h1, h2, rfl⟩ := (diffTo_mem _).1 hx
  exact var_range hok (varN_lt hv h1) h2
def diffE (m : Model) (r : Rule) : Nat → List Con
  | 0 => []
  | v + 1 => diffE m r v ++ (if 1 < (diffTo m r v r.vars.length).length then [mostC (sortI (diffTo m r v r.vars.length))] else [])
theorem diffE_len (m : Model) (r : Rule) : ∀ n, (diffE m r n).length ≤ n
  | 0 => Nat.le_refl _
  | n + 1 => by
    have := diffE_len m r n
    rw [diffE, List.length_append]
    split <;> simp <;> omega
theorem sortI_pos {vs : List Int} (h : ∀ x ∈ vs, 1 ≤ x ∧ x ≤ 12) : ∀ x ∈ sortI vs, 1 ≤ x ∧ x ≤ 12 := fun x hx => h x ((sortI_perm vs).mem_iff.1 hx)
theorem s_diff (fu : Nat) (hf : FU ≤ fu) {m : Model} (hok : okModel m = true) {r : Rule} (hv : okVars m.sizes.length r.vars = true) : s_l7Different fu m r = some (diffE m r 4) := by
  have h5 := (okModel_parts hok).2.1
  have hl := okVars_len hv
  unfold s_l7Different
  rw [show cntF 0 (3 + 1) = some 4 from cntF_nat (n := 4) (by omega), Option.bind_some]
  have := count_to (b := s_l7Different_b1 fu m r) (fun v => diffE m r v) 4 0 (fun v _ hv4 => by
    have hin := range_to (b := s_l7Different_b2 m v) (fun n => diffTo m r v n) r.vars (fun n x hx => by
      obtain ⟨e, e2, e3⟩ := varN_at hv hx
      have hs := size_ok hok e2
      have hlen := diffTo_len m r v n
      rw [s_l7Different_b2, e, idx_lt e2, Option.bind_some, hs.1, diffTo]
      by_cases h : v ≤ sizeAt m (varN r n)
      · rw [if_pos (decide_eq_true (by omega)), s_varN hok e2 (by omega), Option.bind_some, app_le (by simp; omega), if_pos h]; rfl
      · rw [if_neg (by simp; omega), if_neg h, List.append_nil]; rfl)
    have hlen := diffTo_len m r v r.vars.length
    have hp := diffTo_pos hok hv v
    have hel := diffE_len m r v
    rw [s_l7Different_b1, show rangeL (s_l7Different_b2 m v) r.vars 0 [] = _ from hin, Option.bind_some, diffE]
    simp only
    by_cases h : 1 < (diffTo m r v r.vars.length).length
    · rw [if_pos (decide_eq_true (by omega)), s_sorted fu hf _ (by omega), Option.bind_some, s_most (sortI_pos hp) (by rw [(sortI_perm _).length_eq]; omega), Option.bind_some, app_le (by simp; omega), if_pos h]; rfl
    · rw [if_neg (by simp; omega), if_neg h, List.append_nil]; rfl)
  rw [show countL (s_l7Different_b1 fu m r) 4 0 [] = _ from this]
  rfl
theorem i_diff (fu : Nat) (hf : FU ≤ fu) {m : Model} (hok : okModel m = true) {r : Rule} (hv : okVars m.sizes.length r.vars = true) : countL (i_Model_encodeRule_b3 fu m r) 4 0 [] = some (.nx (diffE m r 4)) := by
  have h5 := (okModel_parts hok).2.1
  have hl := okVars_len hv
  exact count_to (b := i_Model_encodeRule_b3 fu m r) (fun v => diffE m r v) 4 0 (fun v _ hv4 => by
    have hin := range_to (b := i_Model_encodeRule_b4 m v) (fun n => diffTo m r v n) r.vars (fun n x hx => by
      obtain ⟨e, e2, e3⟩ := varN_at hv hx
      have hs := size_ok hok e2
      have hlen := diffTo_len m r v n
      rw [i_Model_encodeRule_b4, e, idx_lt e2, Option.bind_some, hs.1, diffTo]
      by_cases h : v ≤ sizeAt m (varN r n)
      · rw [if_pos (decide_eq_true (by omega)), i_varN hok e2 (by omega), Option.bind_some, app_le (by simp; omega), if_pos h]; rfl
      · rw [if_neg (by simp; omega), if_neg h, List.append_nil]; rfl)
    have hlen := diffTo_len m r v r.vars.length
    have hp := diffTo_pos hok hv v
    have hel := diffE_len m r v
    rw [i_Model_encodeRule_b3, show rangeL (i_Model_encodeRule_b4 m v) r.vars 0 [] = _ from hin, Option.bind_some, diffE]
    simp only
    by_cases h : 1 < (diffTo m r v r.vars.length).length
    · rw [if_pos (decide_eq_true (by omega)), i_sorted fu hf _ (by omega) (by omega), Option.bind_some, i_most (sortI_pos hp) (by rw [(sortI_perm _).length_eq]; omega), Option.bind_some, app_le (by simp; omega), if_pos h]; rfl
    · rw [if_neg (by simp; omega), if_neg h, List.append_nil]; rfl)
def linC (m : Model) (r : Rule) (n : Nat) (v : Nat) : Term := ⟨r.coefs.getD n 0 * (v : Int), boolVar m (varN r n) v⟩
def linT (m : Model) (r : Rule) : Nat → List Term
  | 0 => []
  | n + 1 => linT m r n ++ (List.range (sizeAt m (varN r n) + 1)).map (linC m r n)
theorem linT_mem {m : Model} {r : Rule} {t : Term} : ∀ n, t ∈ linT m r n ↔ ∃ j, j < n ∧ ∃ v, v ≤ sizeAt m (varN r j) ∧ t = linC m r j v
  | 0 => by simp [linT]
  | n + 1 => by
    rw [linT, List.mem_append, linT_mem n]
    constructor
    · rintro (⟨j, h1, h2⟩ | h)
      · exact ⟨j, by omega, h2⟩
      · obtain ⟨v, hv, rfl⟩ := List.mem_map.1 h
        rw [List.mem_range] at hv
        exact ⟨n, by omega, v, by omega, rfl⟩
    · rintro ⟨j, h1, v, h2, h3⟩
      by_cases e : j = n
      · subst e; right; exact List.mem_map.2 ⟨v, List.mem_range.2 (by omega), h3.symm⟩
      · exact .inl ⟨j, by omega, v, h2, h3⟩
theorem linT_len {m : Model} (hok : okModel m = true) {r : Rule} (hv : okVars m.sizes.length r.vars = true) : ∀ n, n ≤ r.vars.length → (linT m r n).length ≤ 4 * n
  | 0, _ => Nat.le_refl _
  | n + 1, hn => by
    have := linT_len hok hv n (by omega)
    have := (size_ok hok (varN_lt hv (n := n) (by omega))).2
    rw [linT, List.length_append, List.length_map, List.length_range]
    omega
theorem coef_at {r : Rule} (hc : r.coefs.all qCoef = true) (hl : r.coefs.length = r.vars.length) {n : Nat} (hn : n < r.vars.length) : idx r.coefs (n : Int) = some (r.coefs.getD n 0) ∧ -9 ≤ r.coefs.getD n 0 ∧ r.coefs.getD n 0 ≤ 9 := by
  have h1 : n < r.coefs.length := by omega
  have h2 := List.all_eq_true.1 hc r.coefs[n] (List.getElem_mem h1)
  unfold qCoef at h2
  simp at h2
  rw [idx_lt h1, getD_at _ h1]
  exact ⟨rfl, by omega, by omega⟩
theorem mul_small {c : Int} {v : Nat} (h1 : -9 ≤ c) (h2 : c ≤ 9) (hv : v ≤ 3) : -27 ≤ c * (v : Int) ∧ c * (v : Int) ≤ 27 := prod_bound ⟨h1, h2⟩ ⟨by omega, by omega⟩
theorem linC_ok {m : Model} (hok : okModel m = true) {r : Rule} (hv : okVars m.sizes.length r.vars = true) (hc : r.coefs.all qCoef = true) (hl : r.coefs.length = r.vars.length) {n v : Nat} (hn : n < r.vars.length) (hvn : v ≤ sizeAt m (varN r n)) : okLit (linC m r n v) ∧ 0 < (linC m r n v).lit := by
  have h1 := varN_lt hv hn
  have h2 := var_range hok h1 hvn
  have h3 := size_ok hok h1
  obtain ⟨_, h4, h5⟩ := coef_at hc hl hn
  have h6 := mul_small h4 h5 (v := v) (by omega)
  unfold linC okLit lit12
  simp only
  omega
theorem i_lin_loop {m : Model} (hok : okModel m = true) {r : Rule} (hv : okVars m.sizes.length r.vars = true) (hc : r.coefs.all qCoef = true) (hl : r.coefs.length = r.vars.length) : rangeL (i_Model_encodeRule_b1 m r) r.vars 0 [] = some (.nx (linT m r r.vars.length)) := by
  have h5 := (okModel_parts hok).2.1
  have hlen := okVars_len hv
  exact range_to (b := i_Model_encodeRule_b1 m r) (fun n => linT m r n) r.vars (fun n x hx => by
    obtain ⟨e, e2, e3⟩ := varN_at hv hx
    have hs := size_ok hok e2
    have hll := linT_len hok hv n (by omega)
    obtain ⟨c1, c2, c3⟩ := coef_at hc hl e3
    have hk : cntF 0 ((sizeAt m (varN r n) : Int) + 1) = some (sizeAt m (varN r n) + 1) := by rw [cntF_of (by omega) (by omega)]; congr 1
    have hin := count_to (b := i_Model_encodeRule_b2 m r n (varN r n : Int)) (fun k => linT m r n ++ (List.range k).map (linC m r n)) (sizeAt m (varN r n) + 1) 0 (fun k _ hk => by
      have hm := mul_small c2 c3 (v := k) (by omega)
      rw [i_Model_encodeRule_b2, c1, Option.bind_some, i_varN hok e2 (by omega), Option.bind_some, i64_id (by omega) (by omega), app_le (by simp; omega), List.range_succ, List.map_append, ← List.append_assoc]; rfl)
    rw [i_Model_encodeRule_b1, e, idx_lt e2, Option.bind_some, hs.1, i64_id (by omega) (by omega), hk, Option.bind_some]
    have hin0 : countL (i_Model_encodeRule_b2 m r n (varN r n : Int)) (sizeAt m (varN r n) + 1) 0 (linT m r n) = some (.nx (linT m r (n + 1))) := by
      have h0 := hin
      simp only [List.range_zero, List.map_nil, List.append_nil, Nat.zero_add] at h0
      rw [h0]; rfl
    rw [hin0]; rfl)
theorem netF_none {ts : List Term} {k : Int} (h : ∀ t ∈ ts, t.lit ≠ k ∧ t.lit ≠ -k) : netF ts k = 0 := sumR_zero _ fun t ht => by
  unfold con1
  rw [if_neg (h t ht).1, if_neg (h t ht).2]
theorem s_lin_loop (fu : Nat) (hf : FU ≤ fu) {m : Model} (hok : okModel m = true) {r : Rule} (hv : okVars m.sizes.length r.vars = true) (hc : r.coefs.all qCoef = true) (hl : r.coefs.length = r.vars.length) : rangeL (s_l7Linear_b1 fu m r) r.vars 0 (rowN []) = some (.nx (rowN (linT m r r.vars.length))) := by
  have hF := hf
  unfold FU at hF
  have h5 := (okModel_parts hok).2.1
  have hlen := okVars_len hv
  exact range_to (b := s_l7Linear_b1 fu m r) (fun n => rowN (linT m r n)) r.vars (fun n x hx => by
    obtain ⟨e, e2, e3⟩ := varN_at hv hx
    have hs := size_ok hok e2
    obtain ⟨c1, c2, c3⟩ := coef_at hc hl e3
    obtain ⟨j, hj, hQ⟩ := while_inv (b := s_l7Linear_b2 m r n (varN r n : Int)) (fun q (s : List Int × Int) => ∃ k : Nat, s.2 = (k : Int) ∧ k + q = sizeAt m (varN r n) + 1 ∧ s.1 = rowN (linT m r n ++ (List.range k).map (linC m r n)))
      (fun j => ∃ k, j = .nx (rowN (linT m r (n + 1)), k)) (fun q s ⟨k, hk, hq, hr⟩ => by
        obtain ⟨net, kk⟩ := s
        simp only at hk hr
        subst hk hr
        cases q with
        | zero =>
          have : k = sizeAt m (varN r n) + 1 := by omega
          subst this
          refine ⟨.brk (rowN (linT m r n ++ (List.range (sizeAt m (varN r n) + 1)).map (linC m r n)), ((sizeAt m (varN r n) + 1 : Nat) : Int)), by rw [s_l7Linear_b2, idx_lt e2, Option.bind_some, hs.1, if_neg (by simp; omega)], ((sizeAt m (varN r n) + 1 : Nat) : Int), rfl⟩
        | succ q =>
          have hkm : k ≤ sizeAt m (varN r n) := by omega
          have hr := var_range hok e2 hkm
          have hm := mul_small c2 c3 (v := k) (by omega)
          obtain ⟨hokl, hpos⟩ := linC_ok hok hv hc hl e3 hkm
          have hbn : ∃ b : Nat, boolVar m (varN r n) k = (b : Int) ∧ b < 13 := ⟨(boolVar m (varN r n) k).toNat, by omega, by omega⟩
          obtain ⟨b, hb, hb13⟩ := hbn
          have hz : netF (linT m r n ++ (List.range k).map (linC m r n)) (b : Int) = 0 := by
            refine netF_none fun t ht => ?_
            have : t.lit ≠ (b : Int) ∧ 0 < t.lit := by
              rcases List.mem_append.1 ht with ht | ht
              · obtain ⟨j, j1, v, j2, rfl⟩ := (linT_mem n).1 ht
                refine ⟨fun e4 => ?_, (linC_ok hok hv hc hl (by omega) j2).2⟩
                have e5 := var_same hok (varN_lt hv (n := j) (by omega)) e2 j2 hkm (by rw [hb]; exact e4)
                have := varN_inj hv (by omega) e3 e5.1
                omega
              · obtain ⟨v, hv2, rfl⟩ := List.mem_map.1 ht
                rw [List.mem_range] at hv2
                refine ⟨fun e4 => ?_, (linC_ok hok hv hc hl e3 (by omega)).2⟩
                have e5 := var_same hok e2 e2 (by omega) hkm (v := v) (by rw [hb]; exact e4)
                omega
            exact ⟨this.1, by omega⟩
          refine ⟨.cont (rowN (linT m r n ++ (List.range (k + 1)).map (linC m r n)), ((k + 1 : Nat) : Int)), ?_, q, by omega, k + 1, rfl, by omega, rfl⟩
          have hset := row_set (linT m r n ++ (List.range k).map (linC m r n)) (linC m r n k) hokl b (by unfold linC absI; simp only; omega) (r.coefs.getD n 0 * (k : Int)) (by rw [hz, if_pos hpos]; unfold linC; simp only; omega)
          rw [s_l7Linear_b2, idx_lt e2, Option.bind_some, hs.1, if_pos (decide_eq_true (by omega)), s_varN hok e2 (by omega), Option.bind_some, c1, Option.bind_some, hb, idx_nat, rowN_get _ b hb13, Option.bind_some, i64_id (by omega) (by omega), i64_id (by omega) (by omega), Int.toNat_natCast, hset, List.range_succ, List.map_append, ← List.append_assoc]
          rfl)
      fu (sizeAt m (varN r n) + 1) (rowN (linT m r n), 0) ⟨0, rfl, by omega, by simp⟩ (by omega)
    obtain ⟨k, rfl⟩ := hQ
    rw [s_l7Linear_b1, e, hj]; rfl)
def linE (m : Model) (r : Rule) : List Con := [(normC (linT m r r.vars.length) r.bound).1]
theorem linT_ok {m : Model} (hok : okModel m = true) {r : Rule} (hv : okVars m.sizes.length r.vars = true) (hc : r.coefs.all qCoef = true) (hl : r.coefs.length = r.vars.length) : (∀ t ∈ linT m r r.vars.length, okLit t ∧ 0 < t.lit) ∧ (linT m r r.vars.length).length ≤ 20 := by
  have h5 := (okModel_parts hok).2.1
  have hlen := okVars_len hv
  refine ⟨fun t ht => ?_, by have := linT_len hok hv r.vars.length (Nat.le_refl _); omega⟩
  obtain ⟨j, j1, v, j2, rfl⟩ := (linT_mem _).1 ht
  exact linC_ok hok hv hc hl j1 j2
theorem negS_zero {ts : List Term} (h : ∀ t ∈ ts, 0 < t.lit) : negS ts = 0 := sumR_zero _ fun t ht => by
  have := h t ht
  rw [if_neg (by omega)]
theorem s_lin (fu : Nat) (hf : FU ≤ fu) {m : Model} (hok : okModel m = true) {r : Rule} (hv : okVars m.sizes.length r.vars = true) (hc : r.coefs.all qCoef = true) (hl : r.coefs.length = r.vars.length) (hb : -1000 ≤ r.bound ∧ r.bound ≤ 1000) : s_l7Linear fu m r = some (linE m r) := by
  obtain ⟨h1, h2⟩ := linT_ok hok hv hc hl
  unfold s_l7Linear
  rw [mkRow0, Option.bind_some, s_lin_loop fu hf hok hv hc hl, Option.bind_some]
  simp only
  rw [s_norm (fun t ht => (h1 t ht).1) (by omega) r.bound (by omega), Option.bind_some]
  unfold linE normC
  rw [negS_zero fun t ht => (h1 t ht).2, Int.sub_zero]
theorem i_lin {m : Model} (hok : okModel m = true) {r : Rule} (hv : okVars m.sizes.length r.vars = true) (hc : r.coefs.all qCoef = true) (hl : r.coefs.length = r.vars.length) (hb : -1000 ≤ r.bound ∧ r.bound ≤ 1000) : ((i_normal (linT m r r.vars.length) r.bound).bind fun x102 => some [x102.1]) = some (linE m r) := by
  obtain ⟨h1, h2⟩ := linT_ok hok hv hc hl
  rw [i_norm (fun t ht => (h1 t ht).1) (by omega) r.bound (by omega), Option.bind_some]
  rfl
end Go.L
namespace Go.L
open Go Go.E
set_option linter.unusedVariables false
set_option linter.unusedSimpArgs false
set_option maxRecDepth 100000
def sizesR (m : Model) (r : Rule) : List Int := r.vars.map fun x => m.sizes.getD x.toNat 0
theorem sizesR_len (m : Model) (r : Rule) : (sizesR m r).length = r.vars.length := by simp [sizesR]
theorem sizesR_at {m : Model} (hok : okModel m = true) {r : Rule} (hv : okVars m.sizes.length r.vars = true) {n : Nat} (hn : n < r.vars.length) : (sizesR m r)[n]? = some (sizeAt m (varN r n) : Int) := by
  obtain ⟨e, e2, _⟩ := varN_at hv (List.getElem?_eq_getElem hn)
  have hs := size_ok hok e2
  unfold sizesR
  rw [List.getElem?_map, List.getElem?_eq_getElem hn, Option.map_some]
  rw [show r.vars[n].toNat = varN r n by omega, getD_at _ e2, hs.1]
theorem sizesR_ok {m : Model} (hok : okModel m = true) {r : Rule} (hv : okVars m.sizes.length r.vars = true) : (sizesR m r).all qSize = true := by
  rw [List.all_eq_true]
  intro x hx
  obtain ⟨n, hn⟩ := List.getElem?_of_mem hx
  have hl := (List.getElem?_eq_some_iff.1 hn).1
  rw [sizesR_len] at hl
  rw [sizesR_at hok hv hl] at hn
  injection hn with hn
  have := (size_ok hok (varN_lt hv hl)).2
  rw [qSize_iff]; omega
theorem row_at {m : Model} (hok : okModel m = true) {r : Rule} (hv : okVars m.sizes.length r.vars = true) {vs : List Int} (hf : fit (sizesR m r) vs) {n : Nat} (hn : n < r.vars.length) : ∃ v : Nat, vs[n]? = some (v : Int) ∧ vs.getD n 0 = (v : Int) ∧ v ≤ sizeAt m (varN r n) := by
  have hl := fit_len hf
  rw [sizesR_len] at hl
  have h1 := (fit_iff _ _).1 hf
  have hx : vs[n]? = some vs[n] := List.getElem?_eq_getElem (by omega)
  have h2 := h1.2 n vs[n] hx
  rw [List.getD_eq_getElem?_getD, sizesR_at hok hv hn] at h2
  simp only [Option.getD_some] at h2
  refine ⟨vs[n].toNat, ?_, ?_, by omega⟩
  · rw [hx]; congr 1; omega
  · rw [getD_at _ (by omega)]; omega
def litN (m : Model) (r : Rule) (vs : List Int) (n : Nat) : Int := -(boolVar m (varN r n) (vs.getD n 0))
def litsF (m : Model) (r : Rule) (vs : List Int) (n : Nat) : List Int := (List.range n).map (litN m r vs)
theorem litsF_succ (m : Model) (r : Rule) (vs : List Int) (n : Nat) : litsF m r vs (n + 1) = litsF m r vs n ++ [litN m r vs n] := by
  unfold litsF; rw [List.range_succ, List.map_append]; rfl
theorem litN_abs {m : Model} (hok : okModel m = true) {r : Rule} (hv : okVars m.sizes.length r.vars = true) {vs : List Int} (hf : fit (sizesR m r) vs) {n : Nat} (hn : n < r.vars.length) : ∃ v : Nat, vs.getD n 0 = (v : Int) ∧ v ≤ sizeAt m (varN r n) ∧ litN m r vs n = -(boolVar m (varN r n) v) ∧ absI (litN m r vs n) = boolVar m (varN r n) v ∧ lit12 (litN m r vs n) := by
  obtain ⟨v, h1, h2, h3⟩ := row_at hok hv hf hn
  have hr := var_range hok (varN_lt hv hn) h3
  refine ⟨v, h2, h3, by unfold litN; rw [h2], ?_, ?_⟩
  · unfold litN absI; rw [h2]; omega
  · unfold litN lit12; rw [h2]; omega
theorem litsF_lit {m : Model} (hok : okModel m = true) {r : Rule} (hv : okVars m.sizes.length r.vars = true) {vs : List Int} (hf : fit (sizesR m r) vs) : ∀ l ∈ litsF m r vs r.vars.length, lit12 l := by
  intro l hl
  obtain ⟨n, hn, rfl⟩ := List.mem_map.1 hl
  rw [List.mem_range] at hn
  obtain ⟨_, _, _, _, _, h⟩ := litN_abs hok hv hf hn
  exact h
theorem litsF_dis {m : Model} (hok : okModel m = true) {r : Rule} (hv : okVars m.sizes.length r.vars = true) {vs : List Int} (hf : fit (sizesR m r) vs) : distinctA (litsF m r vs r.vars.length) := by
  unfold distinctA litsF List.Nodup
  rw [List.map_map, List.pairwise_map]
  refine List.Pairwise.imp_of_mem ?_ List.pairwise_lt_range
  intro a b ha hb hab e
  rw [List.mem_range] at ha hb
  obtain ⟨v, _, h1, _, h2, _⟩ := litN_abs hok hv hf ha
  obtain ⟨u, _, g1, _, g2, _⟩ := litN_abs hok hv hf hb
  simp only [Function.comp] at e
  rw [h2, g2] at e
  have := var_same hok (varN_lt hv ha) (varN_lt hv hb) h1 g1 e
  have := varN_inj hv ha hb this.1
  omega
theorem litsF_len (m : Model) (r : Rule) (vs : List Int) (n : Nat) : (litsF m r vs n).length = n := by simp [litsF]
def forb1 (m : Model) (r : Rule) (vs : List Int) : List Con := if ruleHolds r vs then [] else [clC (litsF m r vs r.vars.length)]
def forbF (m : Model) (r : Rule) (css : List (List Int)) : List Con := css.flatMap (forb1 m r)
theorem forbF_len (m : Model) (r : Rule) : ∀ css : List (List Int), (forbF m r css).length ≤ css.length
  | [] => Nat.le_refl _
  | c :: css => by
    have := forbF_len m r css
    unfold forbF at *
    rw [List.flatMap_cons, List.length_append, List.length_cons]
    have : (forb1 m r c).length ≤ 1 := by unfold forb1; split <;> simp
    omega
def zerosR (r : Rule) : List Int := List.replicate r.vars.length 0
theorem zerosR_fit {m : Model} (hok : okModel m = true) {r : Rule} (hv : okVars m.sizes.length r.vars = true) : fit (sizesR m r) (zerosR r) := by
  have := (fit_zeros (sizesR m r) fun s hs => (qSize_iff.1 (List.all_eq_true.1 (sizesR_ok hok hv) s hs)).1).1
  rw [sizesR_len] at this
  exact this
def forbE (m : Model) (r : Rule) : List Con := forbF m r (enumC (sizesR m r) (zerosR r))
theorem vals_small {m : Model} (hok : okModel m = true) {r : Rule} (hv : okVars m.sizes.length r.vars = true) {vs : List Int} (hf : fit (sizesR m r) vs) : ∀ x ∈ vs, 0 ≤ x ∧ x ≤ 3 := by
  intro x hx
  obtain ⟨n, hn⟩ := List.getElem?_of_mem hx
  have hl := (List.getElem?_eq_some_iff.1 hn).1
  have hlen := fit_len hf
  rw [sizesR_len] at hlen
  obtain ⟨v, h1, _, h3⟩ := row_at hok hv hf (n := n) (by omega)
  rw [h1] at hn
  injection hn with hn
  have := (size_ok hok (varN_lt hv (n := n) (by omega))).2
  omega
theorem forb_len {m : Model} (hok : okModel m = true) {r : Rule} (hv : okVars m.sizes.length r.vars = true) : (forbE m r).length ≤ 1024 := by
  have hl5 := (okModel_parts hok).2.1
  have hl := okVars_len hv
  have h1 := forbF_len m r (enumC (sizesR m r) (zerosR r))
  have h2 := enum_len _ rfl (zerosR_fit hok hv)
  have h3 := rem_small (zerosR_fit hok hv) (sizesR_ok hok hv) (by rw [sizesR_len]; omega)
  unfold forbE
  omega
theorem i_lits {m : Model} (hok : okModel m = true) {r : Rule} (hv : okVars m.sizes.length r.vars = true) {vs : List Int} (hf : fit (sizesR m r) vs) : rangeL (i_Model_encodeRule_b9 m vs) r.vars 0 [] = some (.nx (litsF m r vs r.vars.length)) := by
  have hl5 := (okModel_parts hok).2.1
  have hl := okVars_len hv
  exact range_to (b := i_Model_encodeRule_b9 m vs) (fun n => litsF m r vs n) r.vars (fun n x hx => by
    obtain ⟨e, e2, e3⟩ := varN_at hv hx
    obtain ⟨v, h1, h2, h3⟩ := row_at hok hv hf e3
    obtain ⟨u, h4, h5, h6, h7, h8⟩ := litN_abs hok hv hf e3
    have huv : u = v := by omega
    subst huv
    have hs := size_ok hok e2
    rw [i_Model_encodeRule_b9, idx_nat, h1, Option.bind_some, e, i_varN hok e2 (by omega), Option.bind_some, i64_id (by have := h8.2.1; omega) (by have := h8.2.2; omega), app_le (by rw [litsF_len]; simp; omega), litsF_succ, h6]; rfl)
theorem i_forb (fu : Nat) (hfu : FU ≤ fu) {m : Model} (hok : okModel m = true) {r : Rule} (hr : okRule m.sizes.length r = true) : i_Model_encodeRule_i6 fu m r (sizesR m r) (zerosR r) = some (forbE m r) := by
  have hF := hfu
  unfold FU at hF
  have hv := (okRule_parts hr).1
  have hl5 := (okModel_parts hok).2.1
  have hl := okVars_len hv
  have hz := zerosR_fit hok hv
  have ha := sizesR_ok hok hv
  have hfl := forb_len hok hv
  unfold i_Model_encodeRule_i6
  rw [clone_int _ (by simp [zerosR]; omega), Option.bind_some]
  obtain ⟨j, hj, hQ⟩ := while_inv (b := i_Model_encodeRule_b7 fu m r (sizesR m r)) (fun k s => fit (sizesR m r) s.1 ∧ k = rem (sizesR m r) s.1 ∧ s.2 ++ forbF m r (enumC (sizesR m r) s.1) = forbE m r)
    (fun j => j = .out (forbE m r))
    (by
      rintro k ⟨cs, out⟩ ⟨hf, rfl, ht⟩
      simp only at hf ht
      have hlen := fit_len hf
      rw [sizesR_len] at hlen
      have hout : out.length ≤ 1024 := by rw [← ht] at hfl; simp at hfl; omega
      have hhold := i_holdsV m.sizes.length r cs hlen (by omega) (vals_small hok hv hf) hr
      obtain ⟨j, hjl, hw, hj0, hjs⟩ := i_step (sizesR m r) cs hf (by omega) fu hfu (b := i_Model_encodeRule_b10 (sizesR m r)) (fun _ _ => rfl)
      have hi8 : i_Model_encodeRule_i8 fu m r cs out = some (true, out ++ forb1 m r cs) := by
        unfold i_Model_encodeRule_i8 forb1
        rw [hhold, Option.bind_some]
        cases ruleHolds r cs with
        | true => simp
        | false =>
          rw [if_pos (show (!false) = true from rfl), i_lits hok hv hf, Option.bind_some]
          simp only
          rw [i_clause fu hfu _ (litsF_lit hok hv hf) (litsF_dis hok hv hf) (by rw [litsF_len]; omega), Option.bind_some, app_le (by simp; omega)]
          rfl
      have hbody : i_Model_encodeRule_b7 fu m r (sizesR m r) (cs, out) = (if decide (((j : Int) - 1) < 0) then (some (.out (out ++ forb1 m r cs))) else ((idx (zfrom cs j) ((j : Int) - 1)).bind fun x => some (.cont (((zfrom cs j).set (Int.toNat ((j : Int) - 1)) (i64 (x + 1))), out ++ forb1 m r cs)))) := by
        rw [i_Model_encodeRule_b7, hi8, Option.bind_some]
        simp only [if_true]
        rw [hw, Option.bind_some]
      rw [hbody]
      cases j with
      | zero =>
        refine ⟨_, by rw [if_pos (by simp)], ?_⟩
        show Jn.out _ = _
        rw [enum_none hf (hj0 rfl)] at ht
        unfold forbF at ht
        rw [List.flatMap_singleton] at ht
        rw [ht]
      | succ k =>
        obtain ⟨hk, hnx⟩ := hjs k rfl
        obtain ⟨hft, hrt⟩ := next_some hf hnx
        have hb := fit_get hf hk
        have h3 := vals_small hok hv hf cs[k] (List.getElem_mem hk)
        have e : (((k + 1 : Nat) : Int) - 1) = (k : Int) := by omega
        rw [e, if_neg (by simp), idx_nat, zfrom_get cs k hk, Option.bind_some, i64_id (by omega) (by omega), Int.toNat_natCast]
        refine ⟨_, rfl, rem (sizesR m r) ((zfrom cs (k + 1)).set k (cs[k] + 1)), ?_, hft, rfl, ?_⟩
        · show _ < rem (sizesR m r) cs
          omega
        · rw [enum_some hf hnx] at ht
          unfold forbF at ht ⊢
          rw [List.flatMap_cons, ← List.append_assoc] at ht
          exact ht)
    fu (rem (sizesR m r) (zerosR r)) (zerosR r, []) ⟨hz, rfl, rfl⟩ (by have := rem_small hz ha (by rw [sizesR_len]; omega); omega)
  rw [hj, hQ]
  rfl
def cellsS (m : Model) (r : Rule) (vs : List Int) : Nat → List Int
  | 0 => List.replicate m.sizes.length 0
  | n + 1 => (cellsS m r vs n).set (varN r n) (vs.getD n 0)
theorem cellsS_len (m : Model) (r : Rule) (vs : List Int) : ∀ n, (cellsS m r vs n).length = m.sizes.length
  | 0 => by simp [cellsS]
  | n + 1 => by rw [cellsS, List.length_set, cellsS_len m r vs n]
theorem cellsS_in {m : Model} (hok : okModel m = true) {r : Rule} (hv : okVars m.sizes.length r.vars = true) {vs : List Int} (hf : fit (sizesR m r) vs) : ∀ n, n ≤ r.vars.length → cellsIn m (cellsS m r vs n) = true
  | 0, _ => by
    rw [cellsIn_iff]
    refine ⟨by simp [cellsS], fun i x hx => ?_⟩
    unfold cellsS at hx
    have hi := (List.getElem?_eq_some_iff.1 hx).1
    rw [List.length_replicate] at hi
    rw [List.getElem?_replicate_of_lt hi] at hx
    injection hx with hx
    have := size_ok hok hi
    rw [getD_at _ hi]
    omega
  | n + 1, hn => by
    have ih := cellsIn_iff.1 (cellsS_in hok hv hf n (by omega))
    rw [cellsIn_iff]
    refine ⟨by rw [cellsS_len], fun i x hx => ?_⟩
    rw [cellsS, List.getElem?_set] at hx
    split at hx
    · rename_i e
      subst e
      split at hx
      · injection hx with hx
        obtain ⟨v, _, h2, h3⟩ := row_at hok hv hf (n := n) (by omega)
        have h4 := varN_lt hv (n := n) (by omega)
        have h5 := size_ok hok h4
        rw [getD_at _ h4]
        omega
      · cases hx
    · exact ih.2 i x hx
theorem cellsS_get {m : Model} {r : Rule} (hv : okVars m.sizes.length r.vars = true) (vs : List Int) : ∀ n, n ≤ r.vars.length → ∀ j, j < n → (cellsS m r vs n).getD (varN r j) 0 = vs.getD j 0
  | 0, _, j, h => by omega
  | n + 1, hn, j, h => by
    have hl := varN_lt hv (n := n) (by omega)
    rw [cellsS, List.getD_eq_getElem?_getD, List.getElem?_set]
    by_cases e : j = n
    · subst e
      rw [if_pos rfl, if_pos (by rw [cellsS_len]; exact hl)]; rfl
    · rw [if_neg (fun h' => e (varN_inj hv (by omega) (by omega) h'.symm)), ← List.getD_eq_getElem?_getD]
      exact cellsS_get hv vs n (by omega) j (by omega)
theorem valsOf_S {m : Model} (hok : okModel m = true) {r : Rule} (hv : okVars m.sizes.length r.vars = true) {vs : List Int} (hf : fit (sizesR m r) vs) : valsOf r (cellsS m r vs r.vars.length) = vs := by
  have hlen := fit_len hf
  rw [sizesR_len] at hlen
  apply List.ext_getElem (by simp [valsOf]; omega)
  intro n h1 h2
  have hn : n < r.vars.length := by omega
  obtain ⟨e, _, _⟩ := varN_at hv (List.getElem?_eq_getElem hn)
  have e0 : (valsOf r (cellsS m r vs r.vars.length))[n] = (cellsS m r vs r.vars.length).getD r.vars[n].toNat 0 := by simp [valsOf]
  rw [e0, show r.vars[n].toNat = varN r n by omega, cellsS_get hv vs _ (Nat.le_refl _) n hn, getD_at _ h2]
theorem s_forb (fu : Nat) (hfu : FU ≤ fu) {m : Model} (hs : smallM m) (hok : okModel m = true) {r : Rule} (hm : r ∈ m.rules) : s_l7Forbid fu m r = some (forbE m r) := by
  have hF := hfu
  unfold FU at hF
  have hr := okRule_mem hok hm
  have hv := (okRule_parts hr).1
  obtain ⟨h1, hl5, hall, _⟩ := okModel_parts hok
  have hl := okVars_len hv
  have hz := zerosR_fit hok hv
  have ha := sizesR_ok hok hv
  have hfl := forb_len hok hv
  unfold s_l7Forbid
  rw [range_map (b := s_l7Forbid_b1 m) (fun x => m.sizes.getD x.toNat 0) r.vars fun i x out hx ho => by
    have hi := (List.getElem?_eq_some_iff.1 hx).1
    obtain ⟨e, e2, _⟩ := varN_at hv hx
    rw [s_l7Forbid_b1, e, idx_lt e2, Option.bind_some, app_le (by simp; omega), Int.toNat_natCast, getD_at _ e2]; rfl, Option.bind_some]
  simp only
  rw [mkN_le _ (by omega), Option.bind_some]
  have hrem := rem_small hz ha (by rw [sizesR_len]; omega)
  obtain ⟨j, hj, hQ⟩ := while_inv (b := s_l7Forbid_b2 fu m r (sizesR m r)) (fun k s => (s.2.2 = true ∧ fit (sizesR m r) s.2.1 ∧ k = rem (sizesR m r) s.2.1 + 1 ∧ s.1 ++ forbF m r (enumC (sizesR m r) s.2.1) = forbE m r) ∨ (s.2.2 = false ∧ s.1 = forbE m r))
    (fun j => ∃ a b, j = .nx (forbE m r, a, b))
    (by
      rintro k ⟨out, cs, more⟩ h
      rcases h with ⟨hmore, hf, hk, ht⟩ | ⟨hmore, ht⟩
      · simp only at hmore hf hk ht
        subst hmore hk
        have hlen := fit_len hf
        rw [sizesR_len] at hlen
        have hout : out.length ≤ 1024 := by rw [← ht] at hfl; simp at hfl; omega
        have hin := range_to (b := s_l7Forbid_b3 m r) (fun n => (cellsS m r cs n, litsF m r cs n)) cs (fun n x hx => by
          have hn : n < r.vars.length := by rw [← hlen]; exact (List.getElem?_eq_some_iff.1 hx).1
          obtain ⟨e, e2, _⟩ := varN_at hv (List.getElem?_eq_getElem hn)
          obtain ⟨v, g1, g2, g3⟩ := row_at hok hv hf hn
          obtain ⟨u, g4, g5, g6, g7, g8⟩ := litN_abs hok hv hf hn
          have huv : u = v := by omega
          subst huv
          rw [g1] at hx
          injection hx with hx
          subst hx
          have hsz := size_ok hok e2
          rw [s_l7Forbid_b3, idx_lt hn, Option.bind_some, e, idx_nat, List.getElem?_eq_getElem (by rw [cellsS_len]; exact e2), Option.bind_some, s_varN hok e2 (by omega), Option.bind_some, i64_id (by have := g8.2.1; omega) (by have := g8.2.2; omega), app_le (by rw [litsF_len]; simp; omega), litsF_succ, g6, cellsS, g2, Int.toNat_natCast]; rfl)
        rw [hlen] at hin
        have hhold := s_holds hs hl5 hall (cellsS_in hok hv hf _ (Nat.le_refl _)) r hm hr
        rw [valsOf_S hok hv hf] at hhold
        have hnext := s_next ({ sizes := sizesR m r, rules := [] } : Model) cs hf (by omega) ha fu hfu
        have hbody : s_l7Forbid_b2 fu m r (sizesR m r) (out, cs, true) = some (.cont (out ++ forb1 m r cs, (match nextC (sizesR m r) cs with | some c => (c, true) | none => (List.replicate cs.length 0, false)))) := by
          rw [s_l7Forbid_b2, if_pos rfl, mkN_le _ (by omega), Option.bind_some]
          rw [show rangeL (s_l7Forbid_b3 m r) cs 0 (List.replicate m.sizes.length 0, []) = _ from hin, Option.bind_some]
          simp only
          rw [hhold, Option.bind_some, hnext]
          unfold forb1
          cases ruleHolds r cs with
          | true =>
            simp only [Bool.not_true, Bool.false_eq_true, if_false, if_true, Option.bind_some, List.append_nil]
            cases nextC (sizesR m r) cs <;> rfl
          | false =>
            rw [if_pos (show (!false) = true from rfl), s_clauseD (litsF_lit hok hv hf) (litsF_dis hok hv hf) (by rw [litsF_len]; omega), Option.bind_some, app_le (by simp; omega)]
            simp only [Option.bind_some, Bool.false_eq_true, if_false]
            cases nextC (sizesR m r) cs <;> rfl
        refine ⟨_, hbody, ?_⟩
        cases hn : nextC (sizesR m r) cs with
        | none =>
          refine ⟨0, by omega, .inr ⟨rfl, ?_⟩⟩
          rw [enum_none hf hn] at ht
          unfold forbF at ht
          rw [List.flatMap_singleton] at ht
          exact ht
        | some c =>
          obtain ⟨hft, hrt⟩ := next_some hf hn
          refine ⟨rem (sizesR m r) c + 1, by omega, .inl ⟨rfl, hft, rfl, ?_⟩⟩
          rw [enum_some hf hn] at ht
          unfold forbF at ht ⊢
          rw [List.flatMap_cons, ← List.append_assoc] at ht
          exact ht
      · simp only at hmore ht
        subst hmore ht
        refine ⟨.brk (forbE m r, cs, false), by rw [s_l7Forbid_b2, if_neg (by simp)], _, _, rfl⟩)
    fu (rem (sizesR m r) (zerosR r) + 1) ([], zerosR r, true) (.inl ⟨rfl, hz, rfl, rfl⟩) (by omega)
  have hj' : whileL (s_l7Forbid_b2 fu m r (List.map (fun x => m.sizes.getD x.toNat 0) r.vars)) fu ([], List.replicate r.vars.length 0, true) = some j := hj
  rw [hj']
  obtain ⟨a, b, rfl⟩ := hQ
  rfl
def ruleE (m : Model) (r : Rule) : List Con := if r.kind = 1 then linE m r else if r.kind = 2 then diffE m r 4 else forbE m r
theorem s_ruleE (fu : Nat) (hf : FU ≤ fu) {m : Model} (hs : smallM m) (hok : okModel m = true) {r : Rule} (hm : r ∈ m.rules) : s_l7Rule fu m r = some (ruleE m r) := by
  have hr := okRule_mem hok hm
  obtain ⟨hv, _, hk⟩ := okRule_parts hr
  unfold s_l7Rule ruleE
  rcases hk with ⟨hk, hc1, hc2, hb1, hb2⟩ | hk | ⟨hk, _⟩ | ⟨hk, _⟩
  · rw [hk, if_pos rfl, if_pos (show ((1 : Int) == 1) = true from rfl), s_lin fu hf hok hv hc1 hc2 ⟨hb1, hb2⟩]; rfl
  · rw [hk, if_neg (by decide), if_pos (by decide), if_neg (by decide), if_pos rfl, s_diff fu hf hok hv]; rfl
  · rw [hk, if_neg (by decide), if_neg (by decide), if_neg (by decide), if_neg (by decide), s_forb fu hf hs hok hm]; rfl
  · rw [hk, if_neg (by decide), if_neg (by decide), if_neg (by decide), if_neg (by decide), s_forb fu hf hs hok hm]; rfl
theorem i_ruleE (fu : Nat) (hf : FU ≤ fu) {m : Model} (hok : okModel m = true) {r : Rule} (hm : r ∈ m.rules) : i_Model_encodeRule fu m r = some (ruleE m r) := by
  have hr := okRule_mem hok hm
  obtain ⟨hv, _, hk⟩ := okRule_parts hr
  have hl5 := (okModel_parts hok).2.1
  have hl := okVars_len hv
  have hforb : (((rangeL (i_Model_encodeRule_b5 m) r.vars 0 ([])) : Option (Jn (List Int) (List Con))).bind fun j => match j with | .nx sizes_251 => ((mkN (sizes_251.length : Int) 0).bind fun x286 => (i_Model_encodeRule_i6 fu m r sizes_251 x286).bind fun g11_0_290 => some g11_0_290) | .out t => some t) = some (forbE m r) := by
    rw [range_map (b := i_Model_encodeRule_b5 m) (fun x => m.sizes.getD x.toNat 0) r.vars fun i x out hx ho => by
      have hi := (List.getElem?_eq_some_iff.1 hx).1
      obtain ⟨e, e2, _⟩ := varN_at hv hx
      rw [i_Model_encodeRule_b5, e, idx_lt e2, Option.bind_some, app_le (by simp; omega), Int.toNat_natCast, getD_at _ e2]; rfl, Option.bind_some]
    simp only
    rw [mkN_le _ (by simp; omega), Option.bind_some]
    have := i_forb fu hf hok hr
    unfold sizesR zerosR at this
    rw [List.length_map, this]; rfl
  unfold i_Model_encodeRule ruleE
  rcases hk with ⟨hk, hc1, hc2, hb1, hb2⟩ | hk | ⟨hk, _⟩ | ⟨hk, _⟩
  · rw [hk, if_pos rfl, if_pos (show ((1 : Int) == 1) = true from rfl), i_lin_loop hok hv hc1 hc2, Option.bind_some]
    exact i_lin hok hv hc1 hc2 ⟨hb1, hb2⟩
  · rw [hk, if_neg (by decide), if_pos (by decide), if_neg (by decide), if_pos rfl, show cntF 0 4 = some 4 from cntF_nat (n := 4) (by omega), Option.bind_some, i_diff fu hf hok hv]; rfl
  · rw [hk, if_neg (by decide), if_neg (by decide), if_neg (by decide), if_neg (by decide)]; exact hforb
  · rw [hk, if_neg (by decide), if_neg (by decide), if_neg (by decide), if_neg (by decide)]; exact hforb
theorem ruleE_len {m : Model} (hok : okModel m = true) {r : Rule} (hm : r ∈ m.rules) : (ruleE m r).length ≤ 1024 := by
  have hv := (okRule_parts (okRule_mem hok hm)).1
  unfold ruleE
  split
  · simp [linE]
  · split
    · have := diffE_len m r 4; omega
    · exact forb_len hok hv
def rulesE (m : Model) (n : Nat) : List Con := (m.rules.take n).flatMap (ruleE m)
theorem rulesE_succ {m : Model} {n : Nat} {r : Rule} (hr : m.rules[n]? = some r) : rulesE m (n + 1) = rulesE m n ++ ruleE m r := by
  unfold rulesE
  rw [take_snoc1 hr, List.flatMap_append, List.flatMap_singleton]
theorem rulesE_len {m : Model} (hok : okModel m = true) : ∀ n, n ≤ m.rules.length → (rulesE m n).length ≤ 1024 * n
  | 0, _ => by simp [rulesE]
  | n + 1, hn => by
    have := rulesE_len hok n (by omega)
    have hr : m.rules[n]? = some m.rules[n] := List.getElem?_eq_getElem (by omega)
    have := ruleE_len hok (List.mem_of_getElem? hr)
    rw [rulesE_succ hr, List.length_append]; omega
def encL2 (m : Model) : List Con := cellsE m m.sizes.length ++ rulesE m m.rules.length
def encM (m : Model) : List Con × Bool := if okModel m then (if (encL2 m).length > 400 then ([], false) else (encL2 m, true)) else ([], false)
theorem s_enc (fu : Nat) (hf : FU ≤ fu) {m : Model} (hs : smallM m) : s_EncodeModel fu m = some (encM m) := by
  unfold s_EncodeModel encM
  rw [s_model m hs fu hf, Option.bind_some]
  cases hok : okModel m with
  | false => rfl
  | true =>
    obtain ⟨h1, hl5, _, h8, _⟩ := okModel_parts hok
    have hcl := cellsE_len m m.sizes.length
    have hru := range_to (b := s_EncodeModel_b2 fu m) (fun n => cellsE m m.sizes.length ++ rulesE m n) m.rules (fun n r hr => by
      have hn := (List.getElem?_eq_some_iff.1 hr).1
      have hm := List.mem_of_getElem? hr
      have l1 := rulesE_len hok n (by omega)
      have l2 := ruleE_len hok hm
      rw [s_EncodeModel_b2, s_ruleE fu hf hs hok hm, Option.bind_some, app_le (by simp; omega), rulesE_succ hr, List.append_assoc]; rfl)
    rw [if_neg (by simp), s_cellsE hok, Option.bind_some]
    simp only
    have hru0 : rangeL (s_EncodeModel_b2 fu m) m.rules 0 (cellsE m m.sizes.length) = some (.nx (encL2 m)) := by
      rw [show cellsE m m.sizes.length = cellsE m m.sizes.length ++ rulesE m 0 by simp [rulesE], hru]; rfl
    rw [hru0, Option.bind_some]
    simp only [if_true]
    by_cases h : (encL2 m).length > 400
    · rw [if_pos (decide_eq_true (by omega)), if_pos h]
    · rw [if_neg (by simp; omega), if_neg h]
theorem i_enc (fu : Nat) (hf : FU ≤ fu) {m : Model} (hs : smallM m) : i_EncodeModel fu m = some (encM m) := by
  unfold i_EncodeModel encM
  rw [i_model m hs, Option.bind_some]
  cases hok : okModel m with
  | false => rfl
  | true =>
    obtain ⟨h1, hl5, _, h8, _⟩ := okModel_parts hok
    have hcl := cellsE_len m m.sizes.length
    have hru := range_to (b := i_EncodeModel_b2 fu m) (fun n => cellsE m m.sizes.length ++ rulesE m n) m.rules (fun n r hr => by
      have hn := (List.getElem?_eq_some_iff.1 hr).1
      have hm := List.mem_of_getElem? hr
      have l1 := rulesE_len hok n (by omega)
      have l2 := ruleE_len hok hm
      rw [i_EncodeModel_b2, i_ruleE fu hf hok hm, Option.bind_some, app_le (by simp; omega), rulesE_succ hr, List.append_assoc]; rfl)
    rw [if_neg (by simp), i_cellsE fu hf hok, Option.bind_some]
    simp only
    have hru0 : rangeL (i_EncodeModel_b2 fu m) m.rules 0 (cellsE m m.sizes.length) = some (.nx (encL2 m)) := by
      rw [show cellsE m m.sizes.length = cellsE m m.sizes.length ++ rulesE m 0 by simp [rulesE], hru]; rfl
    rw [hru0, Option.bind_some]
    simp only [if_true]
    by_cases h : (encL2 m).length > 400
    · rw [if_pos (decide_eq_true (by omega)), if_pos h]
    · rw [if_neg (by simp; omega), if_neg h]
end Go.L
namespace Go.L
open Go Go.E
set_option linter.unusedVariables false
set_option linter.unusedSimpArgs false
set_option maxRecDepth 100000
theorem trueL_pos (v : List Bool) {x : Int} (h : 1 ≤ x) : trueL v x = v.getD (x - 1).toNat false := by unfold trueL; rw [if_pos (by omega)]
theorem most_sum (v : List Bool) : ∀ (vs : List Int), (∀ x ∈ vs, 1 ≤ x ∧ x ≤ 12) → sumV v (vs.map fun x => (⟨1, -x⟩ : Term)) + ((vs.countP (trueL v) : Nat) : Int) = vs.length
  | [], _ => rfl
  | x :: vs, h => by
    have ih := most_sum v vs fun y hy => h y (by simp [hy])
    have hx := h x (by simp)
    rw [List.map_cons, List.countP_cons, List.length_cons]
    unfold sumV at *
    rw [sumR]
    simp only [trueL_neg v (show x ≠ 0 by omega)]
    cases trueL v x <;> simp <;> omega
theorem most_eval {v : List Bool} {vs : List Int} (h : ∀ x ∈ vs, 1 ≤ x ∧ x ≤ 12) : evalC (mostC vs) v = decide (vs.countP (trueL v) ≤ 1) := by
  have := most_sum v vs h
  unfold evalC mostC
  simp only
  rw [Bool.eq_iff_iff, decide_eq_true_eq, decide_eq_true_eq]
  omega
theorem clause_eval {v : List Bool} {vs : List Int} (h : ∀ x ∈ vs, 1 ≤ x ∧ x ≤ 12) (hn : vs.Nodup) : evalC (clC vs) v = decide (0 < vs.countP (trueL v)) := by
  rw [clC_eval (distinct_ok (pos_lit h) (pos_dis h hn)), Bool.eq_iff_iff, List.any_eq_true, decide_eq_true_eq, List.countP_pos_iff]
theorem varsC_count (m : Model) (hok : okModel m = true) (v : List Bool) {i : Nat} (hi : i < m.sizes.length) : (varsC m i).countP (trueL v) = (List.range (sizeAt m i + 1)).countP (isOn m v i) := by
  unfold varsC
  rw [List.countP_map]
  apply List.countP_congr
  intro k hk
  rw [List.mem_range] at hk
  have := var_range hok hi (v := k) (by omega)
  simp only [Function.comp]
  rw [trueL_pos v this.1]
  rfl
theorem onAll_count (m : Model) (v : List Bool) (i : Nat) : (onAll m v i).length = (List.range (sizeAt m i + 1)).countP (isOn m v i) := by
  unfold onAll onTo sizeAt
  rw [List.length_map, List.countP_eq_length_filter]
theorem cell_iff {m : Model} (hok : okModel m = true) (v : List Bool) {i : Nat} (hi : i < m.sizes.length) : allV (cellE m i) v = decide ((onAll m v i).length = 1) := by
  have hp := varsC_pos hok hi
  unfold allV cellE
  rw [List.all_cons, List.all_cons, List.all_nil, Bool.and_true, clause_eval hp (lt_nodup (varsC_sorted m i)), most_eval hp, varsC_count m hok v hi, onAll_count]
  rw [Bool.eq_iff_iff, Bool.and_eq_true, decide_eq_true_eq, decide_eq_true_eq, decide_eq_true_eq]
  omega
theorem allV_app (a b : List Con) (v : List Bool) : allV (a ++ b) v = (allV a v && allV b v) := by unfold allV; rw [List.all_append]
theorem cells_iff {m : Model} (hok : okModel m = true) (v : List Bool) : ∀ n, n ≤ m.sizes.length → (allV (cellsE m n) v = true ↔ ∀ i, i < n → (onAll m v i).length = 1)
  | 0, _ => ⟨fun _ i h => by omega, fun _ => rfl⟩
  | n + 1, hn => by
    rw [cellsE_succ, allV_app, Bool.and_eq_true, cells_iff hok v n (by omega), cell_iff hok v (by omega), decide_eq_true_eq]
    constructor
    · rintro ⟨h1, h2⟩ i hi
      by_cases e : i = n
      · subst e; exact h2
      · exact h1 i (by omega)
    · intro h
      exact ⟨fun i hi => h i (by omega), h n (by omega)⟩
structure Enc (m : Model) (v : List Bool) (cells : List Int) : Prop where
  len : v.length = 12
  fits : fit m.sizes cells
  on : ∀ i, i < m.sizes.length → ∀ k : Nat, k ≤ sizeAt m i → (isOn m v i k = true ↔ cells.getD i 0 = (k : Int))
theorem fit_at {m : Model} {cells : List Int} (hok : okModel m = true) (hf : fit m.sizes cells) {i : Nat} (hi : i < m.sizes.length) : ∃ c : Nat, cells.getD i 0 = (c : Int) ∧ c ≤ sizeAt m i ∧ cells[i]? = some (c : Int) := by
  have hl := fit_len hf
  have h1 := ((fit_iff _ _).1 hf).2 i cells[i] (List.getElem?_eq_getElem (by omega))
  have hs := size_ok hok hi
  rw [getD_at _ hi] at h1
  rw [getD_at _ (by omega), List.getElem?_eq_getElem (by omega)]
  exact ⟨cells[i].toNat, by omega, by omega, by congr 1; omega⟩
theorem count_one {p : Nat → Bool} {c : Nat} : ∀ n, c < n → (∀ k, k < n → (p k = true ↔ k = c)) → (List.range n).countP p = 1
  | 0, h, _ => by omega
  | n + 1, h, hp => by
    rw [List.range_succ, List.countP_append, List.countP_singleton]
    by_cases e : c = n
    · subst e
      have : (List.range c).countP p = 0 := by
        rw [List.countP_eq_zero]
        intro k hk
        rw [List.mem_range] at hk
        rw [hp k (by omega)]; omega
      rw [this, if_pos ((hp c (by omega)).2 rfl)]
    · rw [count_one n (by omega) fun k hk => hp k (by omega), if_neg (by rw [hp n (by omega)]; omega)]
theorem Enc.cell {m : Model} (hok : okModel m = true) {v : List Bool} {cells : List Int} (h : Enc m v cells) : ∀ i, i < m.sizes.length → (onAll m v i).length = 1 := by
  intro i hi
  obtain ⟨c, h1, h2, _⟩ := fit_at hok h.fits hi
  rw [onAll_count]
  exact count_one (c := c) _ (by omega) fun k hk => by rw [h.on i hi k (by omega), h1]; omega
theorem encode_enc {m : Model} (hok : okModel m = true) {cells : List Int} (hf : fit m.sizes cells) : Enc m (encL m cells cells.length) cells := by
  have hl := fit_len hf
  refine ⟨encL_len m cells _, hf, fun i hi k hk => ?_⟩
  have hr := var_range hok hi hk
  unfold isOn
  rw [encL_get m cells _ (by omega)]
  constructor
  · rintro ⟨j, hj, e⟩
    obtain ⟨c, c1, c2, _⟩ := fit_at hok hf (i := j) (by omega)
    have hr2 := var_range hok (i := j) (by omega) c2
    rw [c1] at e
    have e2 : boolVar m j c = boolVar m i k := by omega
    obtain ⟨e3, e4⟩ := var_same hok (by omega) hi c2 hk e2
    subst e3 e4
    exact c1
  · intro e
    exact ⟨i, by omega, by rw [e]⟩
theorem vals_at {m : Model} (hok : okModel m = true) {v : List Bool} {cells : List Int} (h : Enc m v cells) {r : Rule} (hv : okVars m.sizes.length r.vars = true) {n : Nat} (hn : n < r.vars.length) :
    ∃ c : Nat, c ≤ sizeAt m (varN r n) ∧ (valsOf r cells)[n]? = some (c : Int) ∧ (valsOf r cells).getD n 0 = (c : Int) ∧ ∀ k : Nat, k ≤ sizeAt m (varN r n) → trueL v (boolVar m (varN r n) k) = decide (k = c) := by
  obtain ⟨e, e2, _⟩ := varN_at hv (List.getElem?_eq_getElem hn)
  obtain ⟨c, c1, c2, c3⟩ := fit_at hok h.fits e2
  have hget : (valsOf r cells)[n]? = some (c : Int) := by
    unfold valsOf
    rw [List.getElem?_map, List.getElem?_eq_getElem hn, Option.map_some, show r.vars[n].toNat = varN r n by omega, c1]
  refine ⟨c, c2, hget, by rw [List.getD_eq_getElem?_getD, hget]; rfl, fun k hk => ?_⟩
  have hr := var_range hok e2 hk
  rw [trueL_pos v hr.1]
  have := h.on _ e2 k hk
  unfold isOn at this
  rw [Bool.eq_iff_iff, this, c1, decide_eq_true_eq]
  omega
theorem valsOf_len (r : Rule) (cells : List Int) : (valsOf r cells).length = r.vars.length := by simp [valsOf]
theorem valsOf_fit {m : Model} (hok : okModel m = true) {v : List Bool} {cells : List Int} (h : Enc m v cells) {r : Rule} (hv : okVars m.sizes.length r.vars = true) : fit (sizesR m r) (valsOf r cells) := by
  rw [fit_iff]
  refine ⟨by rw [valsOf_len, sizesR_len], fun i x hx => ?_⟩
  have hi : i < r.vars.length := by rw [← valsOf_len r cells]; exact (List.getElem?_eq_some_iff.1 hx).1
  obtain ⟨c, c1, c2, _⟩ := vals_at hok h hv hi
  rw [c2] at hx
  injection hx with hx
  rw [List.getD_eq_getElem?_getD, sizesR_at hok hv hi, Option.getD_some]
  omega
end Go.L
namespace Go.L
open Go Go.E
set_option linter.unusedVariables false
set_option linter.unusedSimpArgs false
set_option maxRecDepth 100000
theorem rem_inj : ∀ {ss as bs : List Int}, fit ss as → fit ss bs → rem ss as = rem ss bs → as = bs
  | [], [], [], _, _, _ => rfl
  | s :: ss, a :: as, b :: bs, ha, hb, h => by
    obtain ⟨⟨a0, a1⟩, a2⟩ := ha
    obtain ⟨⟨b0, b1⟩, b2⟩ := hb
    have l1 := rem_lt a2
    have l2 := rem_lt b2
    rw [rem, rem] at h
    have hp := prodS_pos ss
    have e1 : (s - a).toNat = (s - b).toNat := by
      have h1 : ((s - a).toNat * prodS ss + rem ss as) / prodS ss = (s - a).toNat := by
        rw [Nat.mul_comm, Nat.mul_add_div hp, Nat.div_eq_of_lt l1, Nat.add_zero]
      have h2 : ((s - b).toNat * prodS ss + rem ss bs) / prodS ss = (s - b).toNat := by
        rw [Nat.mul_comm, Nat.mul_add_div hp, Nat.div_eq_of_lt l2, Nat.add_zero]
      rw [← h1, ← h2, h]
    have e2 : a = b := by omega
    subst e2
    rw [rem_inj a2 b2 (by omega)]
theorem enum_mem : ∀ (d : Nat) {ss cs c : List Int}, fit ss cs → fit ss c → rem ss c + d = rem ss cs → c ∈ enumC ss cs
  | 0, ss, cs, c, h1, h2, h => by
    have := rem_inj h2 h1 (by omega)
    subst this
    cases hn : nextC ss c with
    | none => rw [enum_none h1 hn]; simp
    | some t => rw [enum_some h1 hn]; simp
  | d + 1, ss, cs, c, h1, h2, h => by
    cases hn : nextC ss cs with
    | none => have := next_none h1 hn; omega
    | some t =>
      obtain ⟨ht, hrt⟩ := next_some h1 hn
      rw [enum_some h1 hn]
      exact List.mem_cons_of_mem _ (enum_mem d ht h2 (by omega))
theorem enum_fits : ∀ (k : Nat) {ss cs : List Int}, rem ss cs = k → fit ss cs → ∀ c ∈ enumC ss cs, fit ss c
  | k, ss, cs, hr, hf, c, hc => by
    cases hn : nextC ss cs with
    | none => rw [enum_none hf hn] at hc; simp at hc; subst hc; exact hf
    | some t =>
      obtain ⟨ht, hrt⟩ := next_some hf hn
      rw [enum_some hf hn] at hc
      rcases List.mem_cons.1 hc with rfl | h
      · exact hf
      · cases k with
        | zero => omega
        | succ k => exact enum_fits k (by omega) ht c h
theorem enum_all {ss c : List Int} (h0 : ∀ s ∈ ss, 0 ≤ s) : c ∈ enumC ss (List.replicate ss.length 0) ↔ fit ss c := by
  obtain ⟨h1, h2⟩ := fit_zeros ss h0
  constructor
  · exact enum_fits _ rfl h1 c
  · intro h
    have := rem_lt h
    exact enum_mem (rem ss (List.replicate ss.length 0) - rem ss c) h1 h (by omega)
theorem all_zero {ss : List Int} (h : ss.all qSize = true) : ∀ s ∈ ss, 0 ≤ s := fun s hs => (qSize_iff.1 (List.all_eq_true.1 h s hs)).1
theorem enumR_all {m : Model} (hok : okModel m = true) {r : Rule} (hv : okVars m.sizes.length r.vars = true) {c : List Int} : c ∈ enumC (sizesR m r) (zerosR r) ↔ fit (sizesR m r) c := by
  have := enum_all (c := c) (all_zero (sizesR_ok hok hv))
  rw [sizesR_len] at this
  exact this
theorem forb_clause {m : Model} (hok : okModel m = true) {v : List Bool} {cells : List Int} (h : Enc m v cells) {r : Rule} (hv : okVars m.sizes.length r.vars = true) {vs : List Int} (hf : fit (sizesR m r) vs) : evalC (clC (litsF m r vs r.vars.length)) v = decide (vs ≠ valsOf r cells) := by
  rw [clC_eval (distinct_ok (litsF_lit hok hv hf) (litsF_dis hok hv hf)), Bool.eq_iff_iff, List.any_eq_true, decide_eq_true_eq]
  have hl := fit_len hf
  rw [sizesR_len] at hl
  have key : ∀ n, n < r.vars.length → (trueL v (litN m r vs n) = true ↔ vs[n]? ≠ (valsOf r cells)[n]?) := by
    intro n hn
    obtain ⟨u, u1, u2, u3, _, u5⟩ := litN_abs hok hv hf hn
    obtain ⟨w, w1, w2, w3⟩ := row_at hok hv hf hn
    obtain ⟨c, c1, c2, _, c4⟩ := vals_at hok h hv hn
    have hr := var_range hok (varN_lt hv hn) u2
    rw [u3, trueL_neg v (by omega), c4 u u2, w1, c2]
    simp only [Bool.not_eq_true', decide_eq_false_iff_not, ne_eq, Option.some.injEq]
    omega
  constructor
  · rintro ⟨l, hl', ht⟩ e
    obtain ⟨n, hn, rfl⟩ := List.mem_map.1 hl'
    rw [List.mem_range] at hn
    exact (key n hn).1 ht (by rw [e])
  · intro hne
    apply Classical.byContradiction
    intro hno
    apply hne
    apply List.ext_getElem?
    intro n
    by_cases hn : n < r.vars.length
    · apply Classical.byContradiction
      intro hd
      exact hno ⟨litN m r vs n, List.mem_map.2 ⟨n, List.mem_range.2 hn, rfl⟩, (key n hn).2 hd⟩
    · rw [List.getElem?_eq_none (by omega), List.getElem?_eq_none (by rw [valsOf_len]; omega)]
theorem allV_flat {α : Type} (f : α → List Con) (v : List Bool) : ∀ xs : List α, allV (xs.flatMap f) v = xs.all fun x => allV (f x) v
  | [] => rfl
  | x :: xs => by rw [List.flatMap_cons, allV_app, allV_flat f v xs, List.all_cons]
theorem forb_means {m : Model} (hok : okModel m = true) {v : List Bool} {cells : List Int} (h : Enc m v cells) {r : Rule} (hv : okVars m.sizes.length r.vars = true) : allV (forbE m r) v = ruleHolds r (valsOf r cells) := by
  unfold forbE forbF
  rw [allV_flat, Bool.eq_iff_iff, List.all_eq_true]
  have hone : ∀ vs, fit (sizesR m r) vs → allV (forb1 m r vs) v = (ruleHolds r vs || decide (vs ≠ valsOf r cells)) := by
    intro vs hf
    unfold forb1 allV
    cases ruleHolds r vs with
    | true => rfl
    | false => simp only [Bool.false_eq_true, if_false, List.all_cons, List.all_nil, Bool.and_true, Bool.false_or]; exact forb_clause hok h hv hf
  constructor
  · intro hall
    have hf := valsOf_fit hok h hv
    have := hall _ ((enumR_all hok hv).2 hf)
    rw [hone _ hf] at this
    simpa using this
  · intro hr vs hvs
    rw [hone vs ((enumR_all hok hv).1 hvs)]
    by_cases e : vs = valsOf r cells
    · subst e; rw [hr]; rfl
    · simp [e]
theorem diff_count {m : Model} (hok : okModel m = true) {v : List Bool} {cells : List Int} (h : Enc m v cells) {r : Rule} (hv : okVars m.sizes.length r.vars = true) (k : Nat) : ∀ n, n ≤ r.vars.length → (diffTo m r k n).countP (trueL v) = (((valsOf r cells).take n).filter (· == (k : Int))).length
  | 0, _ => by simp [diffTo]
  | n + 1, hn => by
    obtain ⟨c, c1, c2, _, c4⟩ := vals_at hok h hv (n := n) (by omega)
    rw [diffTo, List.countP_append, diff_count hok h hv k n (by omega), take_snoc1 c2, List.filter_append, List.length_append]
    congr 1
    by_cases hk : k ≤ sizeAt m (varN r n)
    · rw [if_pos hk, List.countP_singleton, c4 k hk, List.filter_cons, List.filter_nil]
      by_cases e : k = c
      · subst e; simp
      · have e2 : ¬ (c : Int) = (k : Int) := by omega
        simp [e, e2]
    · have e2 : ¬ (c : Int) = (k : Int) := by omega
      rw [if_neg hk, List.filter_cons, List.filter_nil]
      simp [e2]
theorem nodup_of_filter : ∀ {xs : List Int}, (∀ y ∈ xs, (xs.filter (· == y)).length ≤ 1) → xs.Nodup
  | [], _ => List.nodup_nil
  | x :: xs, h => by
    rw [List.nodup_cons]
    constructor
    · intro hx
      have := h x (by simp)
      rw [List.filter_cons, if_pos (by simp), List.length_cons] at this
      have h2 : 0 < (xs.filter (· == x)).length := List.length_pos_of_mem (List.mem_filter.2 ⟨hx, by simp⟩)
      omega
    · refine nodup_of_filter fun y hy => ?_
      have := h y (by simp [hy])
      rw [List.filter_cons] at this
      split at this
      · rw [List.length_cons] at this; omega
      · exact this
theorem diff_step {m : Model} (hok : okModel m = true) {v : List Bool} {r : Rule} (hv : okVars m.sizes.length r.vars = true) : ∀ n, allV (diffE m r n) v = true ↔ ∀ k, k < n → (diffTo m r k r.vars.length).countP (trueL v) ≤ 1
  | 0 => ⟨fun _ k h => by omega, fun _ => rfl⟩
  | n + 1 => by
    have hp := diffTo_pos hok hv n
    rw [diffE, allV_app, Bool.and_eq_true, diff_step hok hv n]
    have hone : allV (if 1 < (diffTo m r n r.vars.length).length then [mostC (sortI (diffTo m r n r.vars.length))] else []) v = true ↔ (diffTo m r n r.vars.length).countP (trueL v) ≤ 1 := by
      split
      · unfold allV
        rw [List.all_cons, List.all_nil, Bool.and_true, most_eval (sortI_pos hp), decide_eq_true_eq, (sortI_perm _).countP_eq]
      · have := List.countP_le_length (p := trueL v) (l := diffTo m r n r.vars.length)
        exact ⟨fun _ => by omega, fun _ => rfl⟩
    rw [hone]
    constructor
    · rintro ⟨h1, h2⟩ k hk
      by_cases e : k = n
      · subst e; exact h2
      · exact h1 k (by omega)
    · intro h
      exact ⟨fun k hk => h k (by omega), h n (by omega)⟩
theorem diff_means {m : Model} (hok : okModel m = true) {v : List Bool} {cells : List Int} (h : Enc m v cells) {r : Rule} (hv : okVars m.sizes.length r.vars = true) : allV (diffE m r 4) v = distinct (valsOf r cells) := by
  rw [Bool.eq_iff_iff, diff_step hok hv, distinct_nodup]
  have hlen := valsOf_len r cells
  have hc : ∀ k : Nat, (diffTo m r k r.vars.length).countP (trueL v) = ((valsOf r cells).filter (· == (k : Int))).length := fun k => by
    rw [diff_count hok h hv k _ (Nat.le_refl _), ← hlen, List.take_length]
  constructor
  · intro hall
    refine nodup_of_filter fun y hy => ?_
    have := vals_small hok hv (valsOf_fit hok h hv) y hy
    have := hall y.toNat (by omega)
    rw [hc, show ((y.toNat : Nat) : Int) = y by omega] at this
    exact this
  · intro hn k _
    rw [hc]
    exact filter_le_one hn _
theorem sumR_absB {f : Term → Int} (B : Int) : ∀ (ts : List Term), (∀ t ∈ ts, -B ≤ f t ∧ f t ≤ B) → -(B * (ts.length : Int)) ≤ sumR f ts ∧ sumR f ts ≤ B * ts.length
  | [], _ => by simp [sumR]
  | t :: ts, h => by
    have ih := sumR_absB B ts fun u hu => h u (by simp [hu])
    have ht := h t (by simp)
    rw [sumR, List.length_cons]
    have e : B * ((ts.length + 1 : Nat) : Int) = B * (ts.length : Int) + B := by rw [Int.natCast_add, Int.mul_add]; simp
    rw [e]
    omega
theorem lin_net {m : Model} (hok : okModel m = true) {r : Rule} (hv : okVars m.sizes.length r.vars = true) (hc : r.coefs.all qCoef = true) (hl : r.coefs.length = r.vars.length) (k : Int) : -540 ≤ netF (linT m r r.vars.length) k ∧ netF (linT m r r.vars.length) k ≤ 540 := by
  obtain ⟨h1, h2⟩ := linT_ok hok hv hc hl
  have := sumR_absB (f := con1 k) 27 (linT m r r.vars.length) fun t ht => by
    obtain ⟨j, j1, u, j2, rfl⟩ := (linT_mem _).1 ht
    obtain ⟨_, c2, c3⟩ := coef_at hc hl j1
    have hs := size_ok hok (varN_lt hv j1)
    have hm := mul_small c2 c3 (v := u) (by omega)
    unfold con1 linC
    simp only
    split
    · exact hm
    · split <;> omega
  unfold netF
  omega
theorem normT_ok {f : Int → Int} (hf : ∀ k, -540 ≤ f k ∧ f k ≤ 540) : ∀ n : Nat, n ≤ 12 → okTerms 0 (normT f n) = true ∧ ∀ t ∈ normT f n, absI t.lit ≤ (n : Int)
  | 0, _ => ⟨rfl, by simp [normT]⟩
  | n + 1, hn => by
    obtain ⟨h1, h2⟩ := normT_ok hf n (by omega)
    have hb := hf ((n + 1 : Nat) : Int)
    have one : ∀ c l : Int, 1 ≤ c → c ≤ 540 → absI l = ((n + 1 : Nat) : Int) → okTerms 0 (normT f n ++ [⟨c, l⟩]) = true ∧ ∀ t ∈ normT f n ++ [(⟨c, l⟩ : Term)], absI t.lit ≤ ((n + 1 : Nat) : Int) := by
      intro c l hc1 hc2 hl
      have hok : okT ⟨c, l⟩ = true := by
        unfold absI at hl
        unfold okT
        simp
        omega
      refine ⟨okTerms_snoc' hok (n := (n : Int)) (by simp only [hl]; omega) _ 0 h1 h2 (by omega), fun t ht => ?_⟩
      rcases List.mem_append.1 ht with ht | ht
      · have := h2 t ht; omega
      · rw [List.mem_singleton] at ht; subst ht; simp only [hl]; omega
    rw [normT]
    unfold piece
    split
    · exact one _ _ (by omega) (by omega) (by unfold absI; omega)
    · split
      · exact one _ _ (by omega) (by omega) (by unfold absI; omega)
      · rw [List.append_nil]
        exact ⟨h1, fun t ht => by have := h2 t ht; omega⟩
theorem minS_540 {f : Int → Int} (hf : ∀ k, -540 ≤ f k ∧ f k ≤ 540) : ∀ n : Nat, -(540 * (n : Int)) ≤ minS f n ∧ minS f n ≤ 0
  | 0 => by simp [minS]
  | n + 1 => by
    have h1 := minS_540 hf n
    have h2 := hf ((n + 1 : Nat) : Int)
    rw [minS]
    omega
theorem lin_norm {m : Model} (hok : okModel m = true) {r : Rule} (hv : okVars m.sizes.length r.vars = true) (hc : r.coefs.all qCoef = true) (hl : r.coefs.length = r.vars.length) (hb : -1000 ≤ r.bound ∧ r.bound ≤ 1000) :
    okCon (normC (linT m r r.vars.length) r.bound).1 = true ∧ ∀ v, evalC (normC (linT m r r.vars.length) r.bound).1 v = decide (r.bound ≤ sumV v (linT m r r.vars.length)) := by
  obtain ⟨h1, h2⟩ := linT_ok hok hv hc hl
  have hnet := lin_net hok hv hc hl
  have hneg := negS_zero fun t ht => (h1 t ht).2
  obtain ⟨o1, _⟩ := normT_ok hnet 12 (by omega)
  have hmin := minS_540 hnet 12
  have hokc : okCon ⟨normT (netF (linT m r r.vars.length)) 12, max 0 (r.bound - negS (linT m r r.vars.length) - minS (netF (linT m r r.vars.length)) 12)⟩ = true := by
    unfold okCon okB
    simp only [o1, Bool.true_and, Bool.and_eq_true, decide_eq_true_eq]
    omega
  have e : (normC (linT m r r.vars.length) r.bound).1 = ⟨normT (netF (linT m r r.vars.length)) 12, max 0 (r.bound - negS (linT m r r.vars.length) - minS (netF (linT m r r.vars.length)) 12)⟩ := by
    unfold normC validC
    rw [if_pos hokc]
  rw [e]
  refine ⟨hokc, fun v => ?_⟩
  have hs1 := net_sum v (linT m r r.vars.length) fun t ht => (h1 t ht).1
  have hs2 := norm_sum v (netF (linT m r r.vars.length)) 12
  have hs3 := sumV_nonneg v _ (okTerms_all _ _ o1)
  unfold evalC
  simp only
  rw [Bool.eq_iff_iff, decide_eq_true_eq, decide_eq_true_eq]
  omega
theorem lin_part {m : Model} (hok : okModel m = true) {v : List Bool} {cells : List Int} (h : Enc m v cells) {r : Rule} (hv : okVars m.sizes.length r.vars = true) {n : Nat} (hn : n < r.vars.length) (c : Nat) (hc : ∀ k : Nat, k ≤ sizeAt m (varN r n) → trueL v (boolVar m (varN r n) k) = decide (k = c)) : ∀ q, q ≤ sizeAt m (varN r n) + 1 → sumV v ((List.range q).map (linC m r n)) = if c < q then r.coefs.getD n 0 * (c : Int) else 0
  | 0, _ => by rw [if_neg (by omega)]; rfl
  | q + 1, hq => by
    rw [List.range_succ, List.map_append, List.map_singleton, sumV_snoc, lin_part hok h hv hn c hc q (by omega)]
    have := hc q (by omega)
    unfold linC
    simp only [this]
    by_cases e : q = c
    · subst e
      rw [if_pos (by simp), if_neg (by omega), if_pos (by omega)]; omega
    · rw [if_neg (by simpa using e)]
      by_cases hlt : c < q
      · rw [if_pos hlt, if_pos (by omega)]
      · rw [if_neg hlt, if_neg (by omega)]
theorem lin_sum {m : Model} (hok : okModel m = true) {v : List Bool} {cells : List Int} (h : Enc m v cells) {r : Rule} (hv : okVars m.sizes.length r.vars = true) (hl : r.coefs.length = r.vars.length) : ∀ n, n ≤ r.vars.length → sumV v (linT m r n) = dotTo r.coefs (valsOf r cells) n
  | 0, _ => by simp [linT, dotTo, sumV, sumR]
  | n + 1, hn => by
    obtain ⟨c, c1, c2, _, c4⟩ := vals_at hok h hv (n := n) (by omega)
    have hvl := valsOf_len r cells
    rw [linT, sumV_app, lin_sum hok h hv hl n (by omega), lin_part hok h hv (by omega) c c4 _ (Nat.le_refl _), if_pos (by omega), dot_next _ _ _ (by omega) (by omega), getD_at _ (show n < r.coefs.length by omega)]
    have : (valsOf r cells)[n] = (c : Int) := by
      have := List.getElem?_eq_getElem (l := valsOf r cells) (i := n) (by omega)
      rw [this] at c2; injection c2
    rw [this]
theorem rule_means {m : Model} (hok : okModel m = true) {v : List Bool} {cells : List Int} (h : Enc m v cells) {r : Rule} (hr : okRule m.sizes.length r = true) : allV (ruleE m r) v = ruleHolds r (valsOf r cells) := by
  obtain ⟨hv, _, hk⟩ := okRule_parts hr
  unfold ruleE
  rcases hk with ⟨hk, hc1, hc2, hb1, hb2⟩ | hk | ⟨hk, _⟩ | ⟨hk, _⟩
  · rw [if_pos hk]
    unfold linE allV ruleHolds
    rw [List.all_cons, List.all_nil, Bool.and_true, (lin_norm hok hv hc1 hc2 ⟨hb1, hb2⟩).2 v, lin_sum hok h hv hc2 _ (Nat.le_refl _), hk]
    rw [show r.vars.length = (valsOf r cells).length from (valsOf_len r cells).symm, dot_full _ _ (by rw [valsOf_len]; exact hc2)]
    rfl
  · rw [if_neg (by omega), if_pos hk, diff_means hok h hv]
    unfold ruleHolds
    rw [hk]; rfl
  · rw [if_neg (by omega), if_neg (by omega)]
    exact forb_means hok h hv
  · rw [if_neg (by omega), if_neg (by omega)]
    exact forb_means hok h hv
theorem rules_mean {m : Model} (hok : okModel m = true) {v : List Bool} {cells : List Int} (h : Enc m v cells) : allV (rulesE m m.rules.length) v = solves m cells := by
  unfold rulesE solves
  rw [allV_flat, List.take_length, Bool.eq_iff_iff, List.all_eq_true, List.all_eq_true]
  constructor
  · intro ha r hr; rw [← rule_means hok h (okRule_mem hok hr)]; exact ha r hr
  · intro ha r hr; rw [rule_means hok h (okRule_mem hok hr)]; exact ha r hr
end Go.L
namespace Go.L
open Go Go.E
set_option linter.unusedVariables false
set_option linter.unusedSimpArgs false
set_option maxRecDepth 100000
theorem asc_ok : ∀ (vs : List Int) (b : Int), vs.Pairwise (· < ·) → (∀ x ∈ vs, 1 ≤ x ∧ x ≤ 12 ∧ b < x) → okTerms b (vs.map fun x => (⟨1, -x⟩ : Term)) = true
  | [], _, _, _ => rfl
  | x :: vs, b, h, hx => by
    rw [List.pairwise_cons] at h
    obtain ⟨x1, x2, x3⟩ := hx x (by simp)
    have ha : absI (-x) = x := by unfold absI; omega
    rw [List.map_cons, okTerms]
    simp only [ha]
    have hk : okT (⟨1, -x⟩ : Term) = true := by unfold okT; simp; omega
    rw [hk, decide_eq_true x3, asc_ok vs x h.2 fun y hy => by have := h.1 y hy; have := hx y (by simp [hy]); omega]
    rfl
theorem most_ok {vs : List Int} (h : vs.Pairwise (· < ·)) (hp : ∀ x ∈ vs, 1 ≤ x ∧ x ≤ 12) (h1 : 1 ≤ vs.length) (h2 : vs.length ≤ 100) : okCon (mostC vs) = true := by
  unfold okCon okB mostC
  simp only [asc_ok vs 0 h fun x hx => by have := hp x hx; omega, Bool.true_and, Bool.and_eq_true, decide_eq_true_eq]
  omega
theorem cellsE_ok {m : Model} (hok : okModel m = true) : ∀ c ∈ cellsE m m.sizes.length, okCon c = true := by
  intro c hc
  obtain ⟨i, hi, hc⟩ := List.mem_flatMap.1 hc
  rw [List.mem_range] at hi
  have hp := varsC_pos hok hi
  have hs := size_ok hok hi
  have hl := varsC_len m i
  unfold cellE at hc
  rcases List.mem_cons.1 hc with rfl | hc
  · exact clC_ok (distinct_ok (pos_lit hp) (pos_dis hp (lt_nodup (varsC_sorted m i))))
  · rw [List.mem_singleton] at hc
    subst hc
    exact most_ok (varsC_sorted m i) hp (by omega) (by omega)
theorem diffTo_nodup {m : Model} (hok : okModel m = true) {r : Rule} (hv : okVars m.sizes.length r.vars = true) (v : Nat) : ∀ n, n ≤ r.vars.length → (diffTo m r v n).Nodup
  | 0, _ => List.nodup_nil
  | n + 1, hn => by
    rw [diffTo]
    by_cases h : v ≤ sizeAt m (varN r n)
    · rw [if_pos h, List.nodup_append]
      refine ⟨diffTo_nodup hok hv v n (by omega), by simp, ?_⟩
      intro a ha b hb e
      rw [List.mem_singleton] at hb
      subst hb e
      obtain ⟨j, j1, j2, j3⟩ := (diffTo_mem n).1 ha
      have := var_same hok (varN_lt hv (n := n) (by omega)) (varN_lt hv (n := j) (by omega)) h j2 j3
      have := varN_inj hv (by omega) (by omega) this.1
      omega
    · rw [if_neg h, List.append_nil]
      exact diffTo_nodup hok hv v n (by omega)
theorem strict_sort {vs : List Int} (hn : vs.Nodup) : (sortI vs).Pairwise (· < ·) := by
  have h1 := sortI_sorted vs
  have h2 : (sortI vs).Nodup := (sortI_perm vs).nodup_iff.2 hn
  exact (h1.and h2).imp fun ⟨a, b⟩ => by omega
theorem ruleE_ok {m : Model} (hok : okModel m = true) {r : Rule} (hm : r ∈ m.rules) : ∀ c ∈ ruleE m r, okCon c = true := by
  have hl5 := (okModel_parts hok).2.1
  obtain ⟨hv, _, hk⟩ := okRule_parts (okRule_mem hok hm)
  have hl := okVars_len hv
  have hforb : ∀ c ∈ forbE m r, okCon c = true := by
    intro c hc
    obtain ⟨vs, hvs, hc⟩ := List.mem_flatMap.1 hc
    have hf := (enumR_all hok hv).1 hvs
    unfold forb1 at hc
    split at hc
    · cases hc
    · rw [List.mem_singleton] at hc
      subst hc
      exact clC_ok (distinct_ok (litsF_lit hok hv hf) (litsF_dis hok hv hf))
  have hdiff : ∀ n, ∀ c ∈ diffE m r n, okCon c = true := by
    intro n
    induction n with
    | zero => simp [diffE]
    | succ n ih =>
      intro c hc
      rw [diffE] at hc
      rcases List.mem_append.1 hc with hc | hc
      · exact ih c hc
      · split at hc
        · rw [List.mem_singleton] at hc
          subst hc
          have hd := diffTo_len m r n r.vars.length
          exact most_ok (strict_sort (diffTo_nodup hok hv n _ (Nat.le_refl _))) (sortI_pos (diffTo_pos hok hv n)) (by rw [(sortI_perm _).length_eq]; omega) (by rw [(sortI_perm _).length_eq]; omega)
        · cases hc
  unfold ruleE
  rcases hk with ⟨hk, hc1, hc2, hb1, hb2⟩ | hk | ⟨hk, _⟩ | ⟨hk, _⟩
  · rw [if_pos hk]
    intro c hc
    unfold linE at hc
    rw [List.mem_singleton] at hc
    subst hc
    exact (lin_norm hok hv hc1 hc2 ⟨hb1, hb2⟩).1
  · rw [if_neg (by omega), if_pos hk]; exact hdiff 4
  · rw [if_neg (by omega), if_neg (by omega)]; exact hforb
  · rw [if_neg (by omega), if_neg (by omega)]; exact hforb
theorem encL2_ok {m : Model} (hok : okModel m = true) : ∀ c ∈ encL2 m, okCon c = true := by
  intro c hc
  rcases List.mem_append.1 hc with hc | hc
  · exact cellsE_ok hok c hc
  · obtain ⟨r, hr, hc⟩ := List.mem_flatMap.1 hc
    exact ruleE_ok hok (List.mem_of_mem_take hr) c hc
theorem okProb_of {list : List Con} (h : ∀ c ∈ list, okCon c = true) (hl : list.length ≤ 400) : okProb list = true := by
  unfold okProb
  rw [List.all_eq_true.2 h, decide_eq_true (by omega)]; rfl
theorem encM_yes {m : Model} (h : (encM m).2 = true) : okModel m = true ∧ encM m = (encL2 m, true) ∧ okProb (encL2 m) = true := by
  unfold encM at h ⊢
  cases hok : okModel m with
  | false => rw [hok] at h; simp at h
  | true =>
    rw [hok] at h
    simp only [if_true] at h ⊢
    by_cases hl : (encL2 m).length > 400
    · rw [if_pos hl] at h; simp at h
    · rw [if_neg hl]
      exact ⟨trivial, rfl, okProb_of (encL2_ok hok) (by omega)⟩
theorem enc_sat {m : Model} (hok : okModel m = true) {v : List Bool} {cells : List Int} (h : Enc m v cells) : allV (encL2 m) v = solves m cells := by
  unfold encL2
  rw [allV_app, rules_mean hok h, (cells_iff hok v _ (Nat.le_refl _)).2 (h.cell hok), Bool.true_and]
theorem drawEM_ok (code : List UInt8) (fu : Nat) (hf : FU ≤ fu) : s_DrawEncodeModel fu code = some () := by
  refine so_eq ?_
  unfold s_DrawEncodeModel
  exact so_anyB ⟨[], []⟩ (drawValid_ok code fu hf) s0 fun o ho => so_assert ho
theorem FUe : FU ≤ FU := Nat.le_refl _
end Go.L
namespace Go.L
open Go Go.E
set_option linter.unusedVariables false
set_option linter.unusedSimpArgs false
set_option maxRecDepth 100000
theorem count_none_of {m : Model} (hok : okModel m = true) (h : ∀ v : List Bool, v.length = 12 → allV (encL2 m) v = false) : countModel m = 0 := by
  unfold countModel countFrom
  rw [if_pos hok, List.countP_eq_zero]
  intro c hc hs
  have hf := (enum_all (all_zero (okModel_parts hok).2.2.1)).1 hc
  have he := encode_enc hok hf
  have := h _ he.len
  rw [enc_sat hok he, hs] at this
  cases this
theorem i_partial {p : List Int} (hp : okP p) : i_PartialValid p = some true := by
  unfold i_PartialValid
  rw [containsFuncInt p _ (fun n => !(decide (-1 ≤ n) && decide (n ≤ 1))) fun x _ => by unfold i_PartialValid_1; rw [within_eq]; rfl, hp.1]
  have : (p.any fun n => !(decide (-1 ≤ n) && decide (n ≤ 1))) = false := by
    rw [List.any_eq_false]
    intro x hx
    have := hp.2 x hx
    simp; omega
  rw [this]; rfl
theorem i_extends {p : List Int} (hp : okP p) {v : List Bool} (hv : v.length = 12) (h : LeP p (ofV v)) : i_ExtendsPartial p v = some true := by
  unfold i_ExtendsPartial
  rw [i_partial hp, Option.bind_some, hv, if_neg (by decide), range_to (b := i_ExtendsPartial_b1 v) (fun _ => ()) p fun i x hx => by
    have hi := (List.getElem?_eq_some_iff.1 hx).1
    rw [hp.1] at hi
    rw [i_ExtendsPartial_b1]
    by_cases e : x = 0
    · subst e; rfl
    · have hx' : p.getD i 0 = x := by rw [List.getD_eq_getElem?_getD, hx]; rfl
      have := h i hi (by rw [hx']; exact e)
      rw [hx', ofV_get v i (by omega)] at this
      rw [if_pos (by simpa using e), idx_nat, List.getElem?_eq_getElem (by omega), ← getD_at false (by omega), Option.bind_some]
      cases hb : v.getD i false with
      | true => rw [hb] at this; simp at this; subst this; rfl
      | false => rw [hb] at this; simp at this; subst this; rfl]
  rfl
theorem FnEncodeFilter_ok (code : List UInt8) (g0 : code.length ≤ 9223372036854775807 ∧ ∀ x ∈ code, True) : ∃ fu, l_FnEncodeFilter fu code = some true := by
  refine ⟨FU, ?_⟩
  unfold l_FnEncodeFilter
  split
  · rfl
  refine anyB_intro (drawEM_ok code FU FUe) (o0 := ⟨[], []⟩) s0 fun m hx => ?_
  have hs := small_s hx
  rw [i_enc FU FUe hs, Option.bind_some, s_enc FU FUe hs, Option.bind_some, cpProb]
  simp only [bne_self_eq_false, Bool.false_eq_true, if_false, decide_true, Bool.not_true, Option.bind_some, Bool.false_or, beq_self_eq_true, if_true]
  cases he : (encM m).2 with
  | false => simp
  | true =>
    obtain ⟨hok, e, hp⟩ := encM_yes he
    have hce := encL2_ok hok
    have hprop : i_Propagate FU (encL2 m) zeroP = some ((prop 13 (encL2 m) zeroP).1, (prop 13 (encL2 m) zeroP).2, true) := by
      unfold i_Propagate
      rw [i_problem, hp, Option.bind_some, i_partial zeroP_ok]
      simp only [Bool.not_true, Bool.false_eq_true, if_false, Option.bind_some]
      rw [i_prop FU FUe hce zeroP_ok]; rfl
    rw [if_neg (by simp), e, mkZero, Option.bind_some]
    simp only
    rw [hprop, Option.bind_some]
    simp only
    by_cases hc : (prop 13 (encL2 m) zeroP).2 ≥ 0
    · rw [if_pos (by simp; omega), if_pos trivial, i_count m hs FU FUe]
      have : countModel m = 0 := count_none_of hok fun v hv => by
        cases ha : allV (encL2 m) v with
        | false => rfl
        | true =>
          obtain ⟨p', e', _⟩ := prop_closed (ofV_ok hv) (all_closed hv hce ha) 13 zeroP zeroP_ok (zeroP_le _)
          rw [e'] at hc
          exact absurd hc (by simp)
      rw [this]; rfl
    · rw [if_neg (by simp; omega)]
      have h5 := (okModel_parts hok).2.1
      rw [mkN_le _ (by omega), Option.bind_some, i_nextModel m hs FU FUe _ (by simp; omega), Option.bind_some, i_encode m hs, Option.bind_some]
      cases hn : (nextModel m (List.replicate m.sizes.length 0)).2 with
      | false => rfl
      | true =>
        have hz := okModel_zeros hok
        have hnm : ∃ t, nextModel m (List.replicate m.sizes.length 0) = (t, true) ∧ first m (zeros m) = some t := by
          unfold nextModel at hn ⊢
          split at hn
          · rename_i hcells
            rw [if_pos hcells]
            change (match first m (zeros m) with | some t => (t, true) | none => ([], false)).2 = true at hn
            show ∃ t, (match first m (zeros m) with | some t => (t, true) | none => ([], false)) = (t, true) ∧ _
            cases hfst : first m (zeros m) with
            | none => rw [hfst] at hn; cases hn
            | some t => exact ⟨t, rfl, rfl⟩
          · cases hn
        obtain ⟨t, ht1, ht2⟩ := hnm
        obtain ⟨hf, hsol, _⟩ := firstN_spec m _ _ _ hz ht2
        have hen := encode_enc hok hf
        have hcells : okCells m t = true := by unfold okCells; rw [hok, cellsIn_fit.2 hf]; rfl
        have hencode : encode m t = (encL m t t.length, true) := by unfold encode; rw [if_pos hcells]
        have hall : allV (encL2 m) (encL m t t.length) = true := by rw [enc_sat hok hen]; exact hsol
        obtain ⟨p', e', hok', hle⟩ := prop_closed (ofV_ok hen.len) (all_closed hen.len hce hall) 13 zeroP zeroP_ok (zeroP_le _)
        rw [ht1, hencode, e']
        simp only [Bool.not_true, Bool.false_eq_true, if_false, if_true, Option.bind_some]
        rw [i_extends hok' hen.len hle]
        rfl
end Go.L
namespace Go.L
open Go Go.E
set_option linter.unusedVariables false
set_option linter.unusedSimpArgs false
set_option maxRecDepth 100000
end Go.L
namespace Go.L
open Go Go.E
set_option linter.unusedVariables false
set_option linter.unusedSimpArgs false
set_option maxRecDepth 100000
end Go.L

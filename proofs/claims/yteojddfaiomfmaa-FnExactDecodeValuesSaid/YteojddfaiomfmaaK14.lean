/- What a result was told to hold, it holds: marks. The laws on cells and truth values. -/
import Derived.Test.YteojddfaiomfmaaK5
import Derived.Test.YteojddfaiomfmaaK11
namespace Go.L
open Go Go.E
set_option linter.unusedVariables false
set_option linter.unusedSimpArgs false
set_option maxRecDepth 100000

def FV : Nat := 2000000
/-- from `k` to `k'`, element after element -/
def chain {α : Type} (P : α → Int → Int → Prop) : List α → Int → Int → Prop
  | [], k, k' => k = k'
  | y :: ys, k, k' => ∃ k1, P y k k1 ∧ chain P ys k1 k'
theorem chain_range {α τ : Type} {P : α → Int → Int → Prop} {b : Nat → α → Int → Option (Lo Int τ)} (hb : ∀ i y k k', P y k k' → b i y k = some (.cont k')) :
    ∀ (ys : List α) (i : Nat) (k k' : Int), chain P ys k k' → rangeL b ys i k = some (.nx k')
  | [], i, k, k', h => by obtain rfl := h; rfl
  | y :: ys, i, k, k', ⟨k1, h1, h2⟩ => by show (b i y k).bind _ = _; rw [hb i y k k1 h1]; exact chain_range hb ys (i + 1) k1 k' h2
theorem drop_set_cons {α : Type} {a : List α} {i : Nat} {y : α} (h : a[i]? = some y) : a.drop i = y :: a.drop (i + 1) := by
  obtain ⟨hi, rfl⟩ := List.getElem?_eq_some_iff.1 h
  rw [List.drop_eq_getElem_cons hi]
/-- a loop that writes each element -/
theorem mark_loop {α τ : Type} {b : (List α × Int × Int) → Option (Lo (List α × Int × Int) τ)} (P : α → Int → Int → Prop) (c K : Int) (hc : 0 ≤ c) (xs : List α) (hlen : xs.length ≤ 1048576)
    (h : ∀ (a : List α) (k : Int) (i : Nat) (x : α), a[i]? = some x → x ∈ xs → 0 ≤ k → k ≤ K → ∃ y k', b (a, k, i) = some (.cont (a.set i y, k', i64 ((i : Int) + 1))) ∧ P y k k' ∧ k ≤ k' ∧ k' ≤ k + c)
    (hb : ∀ (a : List α) (k : Int) (i : Nat), a.length ≤ i → b (a, k, i) = some (.brk (a, k, i))) :
    ∀ (n : Nat) (i : Nat) (a : List α) (k : Int) (fu : Nat), xs.length = i + n → a.length = xs.length → (∀ j, i ≤ j → a[j]? = xs[j]?) → n < fu → 0 ≤ k → k + n * c ≤ K →
      ∃ a' k' j, whileL b fu (a, k, i) = some (.nx (a', k', j)) ∧ a'.length = xs.length ∧ (∀ j, j < i → a'[j]? = a[j]?) ∧ chain P (a'.drop i) k k' ∧ k ≤ k' ∧ k' ≤ k + n * c
  | 0, i, a, k, fu, hn, ha, hj, hf, h0, hK => by
    obtain ⟨f, rfl⟩ : ∃ f, fu = f + 1 := ⟨fu - 1, by omega⟩
    refine ⟨a, k, i, ?_, ha, fun _ _ => rfl, ?_, by omega, by simp⟩
    · show (b (a, k, (i : Int))).bind _ = _
      rw [hb a k i (by omega)]; rfl
    · rw [List.drop_of_length_le (by omega)]; rfl
  | n + 1, i, a, k, fu, hn, ha, hj, hf, h0, hK => by
    obtain ⟨f, rfl⟩ : ∃ f, fu = f + 1 := ⟨fu - 1, by omega⟩
    have hi : i < a.length := by omega
    have hx : a[i]? = some a[i] := List.getElem?_eq_getElem hi
    have hm : a[i] ∈ xs := by
      have := hj i (Nat.le_refl _)
      rw [hx] at this
      exact List.mem_of_getElem? this.symm
    have hnc : ((n + 1 : Nat) : Int) * c = n * c + c := by rw [Int.natCast_add, Int.add_mul]; simp
    have hpos : 0 ≤ (n : Int) * c := Int.mul_nonneg (by omega) hc
    obtain ⟨y, k1, e, hP, h1, h2⟩ := h a k i a[i] hx hm h0 (by omega)
    obtain ⟨a', k', j', e', hl', hs', hch, h3, h4⟩ := mark_loop P c K hc xs hlen h hb n (i + 1) (a.set i y) k1 f (by omega) (by rw [List.length_set]; exact ha)
      (fun j hij => by rw [List.getElem?_set_ne (by omega)]; exact hj j (by omega)) (by omega) (by omega) (by omega)
    refine ⟨a', k', j', ?_, hl', ?_, ?_, by omega, by omega⟩
    · show (b (a, k, (i : Int))).bind _ = _
      rw [e]
      show whileL b f (a.set i y, k1, i64 ((i : Int) + 1)) = _
      rw [i64_id (by omega) (by omega)]
      exact e'
    · intro j hji
      rw [hs' j (by omega), List.getElem?_set_ne (by omega)]
    · have hy : a'[i]? = some y := by rw [hs' i (by omega), List.getElem?_set_self (by omega)]
      rw [drop_set_cons hy]
      exact ⟨k1, hP, hch⟩
theorem mark_all {α τ : Type} {b : (List α × Int × Int) → Option (Lo (List α × Int × Int) τ)} (P : α → Int → Int → Prop) (c K : Int) (hc : 0 ≤ c) (xs : List α) (hlen : xs.length ≤ 1048576)
    (h : ∀ (a : List α) (k : Int) (i : Nat) (x : α), a[i]? = some x → x ∈ xs → 0 ≤ k → k ≤ K → ∃ y k', b (a, k, i) = some (.cont (a.set i y, k', i64 ((i : Int) + 1))) ∧ P y k k' ∧ k ≤ k' ∧ k' ≤ k + c)
    (hb : ∀ (a : List α) (k : Int) (i : Nat), a.length ≤ i → b (a, k, i) = some (.brk (a, k, i))) (k : Int) (fu : Nat) (hf : FV ≤ fu) (h0 : 0 ≤ k) (hK : k + 1048576 * c ≤ K) :
    ∃ a' k' j, whileL b fu (xs, k, 0) = some (.nx (a', k', j)) ∧ a'.length = xs.length ∧ chain P a' k k' ∧ k ≤ k' ∧ k' ≤ k + 1048576 * c := by
  have hm : (xs.length : Int) * c ≤ 1048576 * c := Int.mul_le_mul_of_nonneg_right (by omega) hc
  obtain ⟨a', k', j, e, hl, _, hch, h1, h2⟩ := mark_loop P c K hc xs hlen h hb xs.length 0 xs k fu (by omega) rfl (fun _ _ => rfl) (by unfold FV at hf; omega) h0 (by omega)
  exact ⟨a', k', j, e, hl, hch, h1, by omega⟩
theorem mk_lt {α : Type} {a : List α} {i : Nat} {x : α} (h : a[i]? = some x) : decide ((i : Int) < (a.length : Int)) = true := by
  have := (List.getElem?_eq_some_iff.1 h).1
  simpa using this
theorem mk_ge {α : Type} {a : List α} {i : Nat} (h : a.length ≤ i) : decide ((i : Int) < (a.length : Int)) = false := by simpa using h
theorem mkIntS (xs : List Int) (hl : xs.length ≤ 1048576) (fu : Nat) (hf : FV ≤ fu) (k : Int) (h0 : 0 ≤ k) (hK : k + 1048576 ≤ 9223372036854775806) :
    ∃ k' a', l_markIntS fu xs k = some (k', a') ∧ l_heldIntS a' k = some k' ∧ k ≤ k' ∧ k' ≤ k + 1048576 := by
  obtain ⟨a', k', j, e, _, hch, h1, h2⟩ := mark_all (b := l_markIntS_b1) (fun y k k' => y = k ∧ k' = k + 1 ∧ InI64 (k + 1)) 1 9223372036854775806 (by omega) xs hl
    (fun a k i x hx _ h0 h1 => ⟨k, k + 1, by
      show (if decide ((i : Int) < (a.length : Int)) then _ else _) = _
      rw [mk_lt hx, if_pos rfl, idx_nat, hx, Option.bind_some, i64_id (n := k + 1) (by omega) (by omega)]; rfl, ⟨rfl, rfl, by unfold InI64; omega⟩, by omega, by omega⟩)
    (fun a k i h => by show (if decide ((i : Int) < (a.length : Int)) then _ else _) = _; rw [mk_ge h]; rfl) k fu hf h0 (by omega)
  refine ⟨k', a', ?_, ?_, h1, by omega⟩
  · unfold l_markIntS; rw [e]; rfl
  · unfold l_heldIntS
    rw [chain_range (b := l_heldIntS_b1) (P := fun y k k' => y = k ∧ k' = k + 1 ∧ InI64 (k + 1)) ?_ a' 0 k k' hch]
    · rfl
    · rintro i y k k' ⟨rfl, rfl, hi⟩
      show (if (y != y) then _ else _) = _
      unfold InI64 at hi
      rw [bne_self_eq_false, if_neg (by simp), i64_id (by omega) (by omega)]
theorem mkBoolS (xs : List Bool) (hl : xs.length ≤ 1048576) (fu : Nat) (hf : FV ≤ fu) (k : Int) (h0 : 0 ≤ k) (hK : k + 1048576 ≤ 9223372036854775806) :
    ∃ k' a', l_markBoolS fu xs k = some (k', a') ∧ l_heldBoolS a' k = some k' ∧ k ≤ k' ∧ k' ≤ k + 1048576 := by
  obtain ⟨a', k', j, e, _, hch, h1, h2⟩ := mark_all (b := l_markBoolS_b1) (fun y k k' => y = (Int.tmod k 3 == 0) ∧ k' = k + 1 ∧ InI64 (k + 1)) 1 9223372036854775806 (by omega) xs hl
    (fun a k i x hx _ h0 h1 => ⟨(Int.tmod k 3 == 0), k + 1, by
      show (if decide ((i : Int) < (a.length : Int)) then _ else _) = _
      rw [mk_lt hx, if_pos rfl, idx_nat, hx, Option.bind_some, i64_id (n := k + 1) (by omega) (by omega)]; rfl, ⟨rfl, rfl, by unfold InI64; omega⟩, by omega, by omega⟩)
    (fun a k i h => by show (if decide ((i : Int) < (a.length : Int)) then _ else _) = _; rw [mk_ge h]; rfl) k fu hf h0 (by omega)
  refine ⟨k', a', ?_, ?_, h1, by omega⟩
  · unfold l_markBoolS; rw [e]; rfl
  · unfold l_heldBoolS
    rw [chain_range (b := l_heldBoolS_b1) (P := fun y k k' => y = (Int.tmod k 3 == 0) ∧ k' = k + 1 ∧ InI64 (k + 1)) ?_ a' 0 k k' hch]
    · rfl
    · rintro i y k k' ⟨rfl, rfl, hi⟩
      show (if ((Int.tmod k 3 == 0) != (Int.tmod k 3 == 0)) then _ else _) = _
      unfold InI64 at hi
      rw [bne_self_eq_false, if_neg (by simp), i64_id (by omega) (by omega)]
theorem mkIntSS (xs : List (List Int)) (hl : xs.length ≤ 1048576) (hel : ∀ x ∈ xs, x.length ≤ 1048576) (fu : Nat) (hf : FV ≤ fu) (k : Int) (h0 : 0 ≤ k) (hK : k + 1099511627776 + 1048576 ≤ 9223372036854775806) :
    ∃ k' a', l_markIntSS fu xs k = some (k', a') ∧ k ≤ k' ∧ k' ≤ k + 1099511627776 := by
  obtain ⟨a', k', j, e, _, hch, h1, h2⟩ := mark_all (b := l_markIntSS_b1 fu) (fun y k k' => True) 1048576 (9223372036854775806 - 1048576) (by omega) xs hl
    (fun a k i x hx hm h0 h1 => by
      obtain ⟨k', y, e, _, h2, h3⟩ := mkIntS x (hel x hm) fu hf k h0 (by omega)
      refine ⟨y, k', ?_, trivial, h2, h3⟩
      show (if decide ((i : Int) < (a.length : Int)) then _ else _) = _
      rw [mk_lt hx, if_pos rfl, idx_nat, hx, Option.bind_some, e, Option.bind_some]; rfl)
    (fun a k i h => by show (if decide ((i : Int) < (a.length : Int)) then _ else _) = _; rw [mk_ge h]; rfl) k fu hf h0 (by omega)
  exact ⟨k', a', by unfold l_markIntSS; rw [e]; rfl, h1, by omega⟩
theorem idx_set_self {α : Type} {a : List α} {i : Nat} {x y : α} (hx : a[i]? = some x) : idx (a.set i y) (i : Int) = some y := by
  rw [idx_nat, List.getElem?_set_self (List.getElem?_eq_some_iff.1 hx).1]
theorem mkRuleS (xs : List Rule) (hl : xs.length ≤ 1048576) (hel : ∀ x ∈ xs, smallR x) (fu : Nat) (hf : FV ≤ fu) (k : Int) (h0 : 0 ≤ k) (hK : k + 1048576 * 1099516870912 ≤ 9000000000000000000) :
    ∃ k' a', l_markRuleS fu xs k = some (k', a') ∧ k ≤ k' ∧ k' ≤ k + 1048576 * 1099516870912 := by
  obtain ⟨a', k', j, e, _, hch, h1, h2⟩ := mark_all (b := l_markRuleS_b1 fu) (fun y k k' => True) 1099516870912 9000000000000000000 (by omega) xs hl
    (fun a k i x hx hm h0 h1 => by
      obtain ⟨s1, s2, s3, s4⟩ := hel x hm
      obtain ⟨k1, y1, e1, _, p1, q1⟩ := mkIntS x.vars s1 fu hf (k + 1) (by omega) (by omega)
      obtain ⟨k2, y2, e2, _, p2, q2⟩ := mkIntS x.coefs s2 fu hf k1 (by omega) (by omega)
      obtain ⟨k3, y3, e3, p3, q3⟩ := mkIntSS x.rows s3 s4 fu hf (k2 + 1) (by omega) (by omega)
      refine ⟨({ kind := k, vars := y1, coefs := y2, bound := k2, rows := y3 } : Rule), k3, ?_, trivial, by omega, by omega⟩
      have hi := (List.getElem?_eq_some_iff.1 hx).1
      show (if decide ((i : Int) < (a.length : Int)) then _ else _) = _
      rw [mk_lt hx, if_pos rfl, idx_nat, hx, Option.bind_some]
      simp only [Int.toNat_natCast, idx_set_self hx, Option.bind_some, i64_id (n := k + 1) (by omega) (by omega), e1, List.set_set, e2, i64_id (n := k2 + 1) (by omega) (by omega), e3])
    (fun a k i h => by show (if decide ((i : Int) < (a.length : Int)) then _ else _) = _; rw [mk_ge h]; rfl) k fu hf h0 (by omega)
  exact ⟨k', a', by unfold l_markRuleS; rw [e]; rfl, h1, by omega⟩
theorem mkModel (m : Model) (hs : smallM m) (fu : Nat) (hf : FV ≤ fu) (k : Int) (h0 : 0 ≤ k) (hK : k + 1048576 + 1048576 * 1099516870912 ≤ 9000000000000000000) :
    ∃ k' a', l_markModel fu m k = some (k', a') ∧ k ≤ k' ∧ k' ≤ k + 1048576 + 1048576 * 1099516870912 := by
  obtain ⟨k1, y1, e1, _, p1, q1⟩ := mkIntS m.sizes hs.1 fu hf k h0 (by omega)
  obtain ⟨k2, y2, e2, p2, q2⟩ := mkRuleS m.rules hs.2.1 hs.2.2 fu hf k1 (by omega) (by omega)
  exact ⟨k2, _, by unfold l_markModel; rw [e1, Option.bind_some, e2]; rfl, by omega, by omega⟩
theorem FnExactEncodeCells_ok (m : Model) (cells : List Int) (g0 : gModel m) (g2 : gInts cells) : ∃ fu, l_FnExactEncodeCells fu m cells = some true := by
  refine ⟨FV, ?_⟩
  unfold l_FnExactEncodeCells
  refine len_law fun hl => sz_law (szModel m 1048576 (by omega) (by omega) (lenM_of g0)) (by omega) fun r _ _ hs => ?_
  have hF : FU ≤ FV := by decide
  obtain ⟨k1, m', e1, p1, q1⟩ := mkModel m hs FV (Nat.le_refl _) 1 (by omega) (by omega)
  obtain ⟨k2, c', e2, _, p2, q2⟩ := mkIntS cells hl FV (Nat.le_refl _) k1 (by omega) (by omega)
  have hb : (encode m cells).1.length ≤ 1048576 := by
    unfold encode
    split
    · rw [encL_len]; omega
    · simp
  obtain ⟨k3, b', e3, h3, p3, q3⟩ := mkBoolS (encode m cells).1 hb FV (Nat.le_refl _) 1 (by omega) (by omega)
  simp only [toModel m hs, toIntS cells hl, s_encode m hs FV hF, i_encode m hs, eqModel, eqIntS, eqBoolS, e1, e2, e3, h3, Option.bind_some]
  have n2 : decide (k2 < 0) = false := by simp; omega
  have n3 : decide (k3 < 0) = false := by simp; omega
  simp [n2, n3]
theorem dec_len (m : Model) (values : List Bool) : ∀ (k c : Nat) (out : List Int), (decFrom m values k c out).1.length ≤ out.length + k
  | 0, c, out => by simp [decFrom]
  | k + 1, c, out => by
    rw [decFrom]
    split
    · rename_i h
      have := dec_len m values k (c + 1) (out ++ onAll m values c)
      rw [List.length_append, h] at this
      omega
    · simp
theorem FnExactDecodeValues_ok (m : Model) (values : List Bool) (g0 : gModel m) (g2 : values.length ≤ 9223372036854775807 ∧ ∀ x ∈ values, True) : ∃ fu, l_FnExactDecodeValues fu m values = some true := by
  refine ⟨FV, ?_⟩
  unfold l_FnExactDecodeValues
  refine len_law fun hl => sz_law (szModel m 1048576 (by omega) (by omega) (lenM_of g0)) (by omega) fun r _ _ hs => ?_
  have hF : FU ≤ FV := by decide
  obtain ⟨k1, m', e1, p1, q1⟩ := mkModel m hs FV (Nat.le_refl _) 1 (by omega) (by omega)
  obtain ⟨k2, c', e2, _, p2, q2⟩ := mkBoolS values hl FV (Nat.le_refl _) k1 (by omega) (by omega)
  have hb : (decode m values).1.length ≤ 1048576 := by
    unfold decode
    split
    · have := dec_len m values m.sizes.length 0 []
      have := hs.1
      simp at *
      omega
    · simp
  obtain ⟨k3, b', e3, h3, p3, q3⟩ := mkIntS (decode m values).1 hb FV (Nat.le_refl _) 1 (by omega) (by omega)
  simp only [toModel m hs, toBoolS values hl, s_decode m hs FV hF, i_decode m hs, eqModel, eqIntS, eqBoolS, e1, e2, e3, h3, Option.bind_some]
  have n2 : decide (k2 < 0) = false := by simp; omega
  have n3 : decide (k3 < 0) = false := by simp; omega
  simp [n2, n3]
end Go.L

/- Assignments by number; counting; the next solution. -/
import Derived.Test.YteeilbddjlpiaaaK56
namespace Go.L
open Go Go.E
set_option linter.unusedVariables false
set_option linter.unusedSimpArgs false
set_option maxRecDepth 100000
/-- the assignment of a number: the first variable is the highest place -/
def numV (n : Nat) : List Bool := (List.range 12).map fun k => n / 2 ^ (11 - k) % 2 == 1
theorem numV_len (n : Nat) : (numV n).length = 12 := by simp [numV]
theorem numV_get (n k : Nat) (h : k < 12) : (numV n)[k]? = some (n / 2 ^ (11 - k) % 2 == 1) := by
  unfold numV
  rw [List.getElem?_map, List.getElem?_range h]
  rfl
theorem mkF : mkN 12 false = some (List.replicate 12 false) := mkN_le (n := 12) false (by omega)
theorem i64_nat {a : Nat} (h : a < 5000) : i64 (a : Int) = (a : Int) := i64_id (by omega) (by omega)
theorem s_values (fu : Nat) (hf : FU ≤ fu) (n : Nat) (hn : n < 4096) : s_l5Values fu (n : Int) = some (numV n) := by
  unfold FU at hf
  unfold s_l5Values
  rw [mkF, Option.bind_some]
  obtain ⟨j, hj, hQ⟩ := while_inv (b := s_l5Values_b1)
    (fun m (s : Int × List Bool × Int) => m ≤ 12 ∧ s.1 = ((n / 2 ^ (12 - m) : Nat) : Int) ∧ s.2.2 = (m : Int) - 1 ∧ s.2.1.length = 12 ∧ ∀ k, m ≤ k → k < 12 → s.2.1[k]? = some (n / 2 ^ (11 - k) % 2 == 1))
    (fun j => ∃ a b, j = .nx (a, numV n, b)) (fun m s hI => by
      obtain ⟨a, out, i⟩ := s
      obtain ⟨hm, ha, hi, hlen, hI⟩ := hI
      simp only at ha hi hlen hI
      subst ha hi
      cases m with
      | zero =>
        refine ⟨.brk (((n / 2 ^ (12 - 0) : Nat) : Int), out, ((0 : Nat) : Int) - 1), by rw [s_l5Values_b1, if_neg (by simp)], ((n / 2 ^ (12 - 0) : Nat) : Int), ((0 : Nat) : Int) - 1, ?_⟩
        have : out = numV n := by
          apply List.ext_getElem?
          intro k
          by_cases hk : k < 12
          · rw [hI k (by omega) hk, numV_get n k hk]
          · rw [List.getElem?_eq_none (by omega), List.getElem?_eq_none (by rw [numV_len]; omega)]
        rw [this]
      | succ m =>
        have e1 : ((m + 1 : Nat) : Int) - 1 = (m : Int) := by omega
        have hdm : n / 2 ^ (12 - (m + 1)) / 2 = n / 2 ^ (12 - m) := by
          rw [Nat.div_div_eq_div_mul, ← Nat.pow_succ]
          congr 2; omega
        have hle : n / 2 ^ (12 - (m + 1)) ≤ n := Nat.div_le_self _ _
        refine ⟨.cont (((n / 2 ^ (12 - m) : Nat) : Int), out.set m (n / 2 ^ (11 - m) % 2 == 1), (m : Int) - 1), ?_, m, by omega, by omega, rfl, rfl, by simp [hlen], fun k h1 h2 => ?_⟩
        · rw [s_l5Values_b1, if_pos (decide_eq_true (by omega)), e1, idx_nat, List.getElem?_eq_getElem (by omega), Option.bind_some]
          have t5 : n / 2 ^ (11 - m) ≤ n := Nat.div_le_self _ _
          have t1 : Int.tdiv ((n / 2 ^ (12 - (m + 1)) : Nat) : Int) 2 = ((n / 2 ^ (12 - m) : Nat) : Int) := by
            rw [← hdm]; exact (Int.ofNat_tdiv _ 2).symm
          have t2 : Int.tmod ((n / 2 ^ (12 - (m + 1)) : Nat) : Int) 2 = ((n / 2 ^ (11 - m) % 2 : Nat) : Int) := by
            rw [show 11 - m = 12 - (m + 1) by omega]; exact (Int.ofNat_tmod _ 2).symm
          have t3 : n / 2 ^ (12 - m) ≤ n := Nat.div_le_self _ _
          rw [t1, t2, i64_nat (a := n / 2 ^ (12 - m)) (by omega), i64_id (n := (m : Int) - 1) (by omega) (by omega)]
          have t4 : (((n / 2 ^ (11 - m) % 2 : Nat) : Int) == 1) = (n / 2 ^ (11 - m) % 2 == 1) := by
            rw [Bool.eq_iff_iff, beq_iff_eq, beq_iff_eq]; omega
          rw [t4]
          rfl
        · rw [List.getElem?_set]
          by_cases e : m = k
          · subst e
            rw [if_pos rfl, if_pos (by omega)]
          · rw [if_neg e]
            exact hI k (by omega) h2)
    fu 12 ((n : Int), List.replicate 12 false, 11) ⟨Nat.le_refl _, by simp, by simp, by simp, fun k h1 h2 => by omega⟩ (by omega)
  rw [hj]
  obtain ⟨a, b, rfl⟩ := hQ
  rfl
theorem and_one {n : Nat} (h : n < 4096) : andI .i64 (n : Int) 1 = ((n % 2 : Nat) : Int) := by
  unfold andI
  have h1 : (BitVec.ofInt (IntKind.bits .i64) (n : Int) &&& BitVec.ofInt (IntKind.bits .i64) 1).toNat = n % 2 := by
    show (BitVec.ofInt 64 (n : Int) &&& BitVec.ofInt 64 1).toNat = n % 2
    rw [BitVec.toNat_and, BitVec.toNat_ofInt, BitVec.toNat_ofInt]
    have : ((n : Int) % ((2 ^ 64 : Nat) : Int)).toNat = n := by omega
    rw [this]
    have : ((1 : Int) % ((2 ^ 64 : Nat) : Int)).toNat = 1 := by decide
    rw [this, Nat.and_one_is_mod]
  rw [h1]
  exact i64_id (by omega) (by omega)
theorem i_num (n : Nat) (hn : n < 4096) : i_numbered (n : Int) = some (numV n) := by
  unfold i_numbered
  rw [mkF, Option.bind_some]
  obtain ⟨j, hj, hQ⟩ := range_inv (b := i_numbered_b1 (n : Int)) (List.replicate 12 false) (fun i (s : List Bool) => s.length = 12 ∧ ∀ k, k < i → s[k]? = some (n / 2 ^ (11 - k) % 2 == 1))
    (fun j => j = .nx (numV n)) (fun s ⟨h1, h2⟩ => by
      have : s = numV n := by
        apply List.ext_getElem?
        intro k
        by_cases hk : k < 12
        · rw [h2 k (by simpa using hk), numV_get n k hk]
        · rw [List.getElem?_eq_none (by omega), List.getElem?_eq_none (by rw [numV_len]; omega)]
      rw [this]) (fun i x s hx ⟨h1, h2⟩ => by
      have hi : i < 12 := by have := (List.getElem?_eq_some_iff.1 hx).1; simpa using this
      refine ⟨.cont (s.set i (n / 2 ^ (11 - i) % 2 == 1)), ?_, by simp [h1], fun k hk => ?_⟩
      · rw [i_numbered_b1, i64_id (by omega) (by omega), if_neg (by omega), Option.bind_some, idx_nat, List.getElem?_eq_getElem (by omega), Option.bind_some]
        have e1 : Int.toNat (11 - (i : Int)) = 11 - i := by omega
        have e2 : min (11 - i) (IntKind.bits .i64) = 11 - i := by show min (11 - i) 64 = _; omega
        have e3 : Int.fdiv (n : Int) (2 ^ (11 - i)) = ((n / 2 ^ (11 - i) : Nat) : Int) := by
          rw [Int.fdiv_eq_ediv_of_nonneg _ (by exact Int.le_of_lt (Int.pow_pos (by omega)))]
          rw [Int.natCast_ediv]; congr 1
        rw [e1, e2, e3, and_one (by have := Nat.div_le_self n (2 ^ (11 - i)); omega)]
        have t4 : (((n / 2 ^ (11 - i) % 2 : Nat) : Int) == 1) = (n / 2 ^ (11 - i) % 2 == 1) := by
          rw [Bool.eq_iff_iff, beq_iff_eq, beq_iff_eq]; omega
        rw [t4]
        rfl
      · rw [List.getElem?_set]
        by_cases e : i = k
        · subst e
          rw [if_pos rfl, if_pos (by omega)]
        · rw [if_neg e]
          exact h2 k (by omega)) (List.replicate 12 false) ⟨by simp, fun k hk => by omega⟩
  rw [hj, hQ]
  rfl
/-- the number of an assignment -/
def foldN (vs : List Bool) (n : Nat) : Nat := vs.foldl (fun n b => n * 2 + (if b then 1 else 0)) n
theorem foldN_lt : ∀ (vs : List Bool) (n : Nat), foldN vs n < (n + 1) * 2 ^ vs.length
  | [], n => by simp [foldN]
  | b :: vs, n => by
    have := foldN_lt vs (n * 2 + (if b then 1 else 0))
    show foldN vs (n * 2 + (if b then 1 else 0)) < _
    refine Nat.lt_of_lt_of_le this ?_
    rw [List.length_cons, Nat.pow_succ, ← Nat.mul_assoc, Nat.mul_right_comm]
    apply Nat.mul_le_mul_right
    split <;> omega
theorem num_loop {τ : Type} {b : Nat → Bool → Int → Option (Lo Int τ)} (hb : ∀ i x n, b i x n = (if x then some (i64 ((i64 (n * 2)) + 1)) else some (i64 (n * 2))).bind fun y => some (.cont y)) :
    ∀ (vs : List Bool) (i n : Nat), (n + 1) * 2 ^ vs.length ≤ 4096 → rangeL b vs i (n : Int) = some (.nx ((foldN vs n : Nat) : Int))
  | [], i, n, _ => rfl
  | x :: vs, i, n, h => by
    have h1 : (n + 1) * 2 * 2 ^ vs.length ≤ 4096 := by rw [List.length_cons, Nat.pow_succ, ← Nat.mul_assoc, Nat.mul_right_comm] at h; exact h
    have h2 : (n + 1) * 2 ≤ 4096 := Nat.le_trans (Nat.le_mul_of_pos_right _ (Nat.pow_pos (by omega))) h1
    show (b i x (n : Int)).bind _ = _
    rw [hb, i64_id (n := (n : Int) * 2) (by omega) (by omega), i64_id (n := (n : Int) * 2 + 1) (by omega) (by omega)]
    have e : (if x then some ((n : Int) * 2 + 1) else some ((n : Int) * 2)) = some ((n * 2 + (if x then 1 else 0) : Nat) : Int) := by cases x <;> simp
    rw [e]
    show rangeL b vs (i + 1) _ = _
    rw [num_loop hb vs (i + 1) _ (by
      refine Nat.le_trans (Nat.mul_le_mul_right _ ?_) h1
      split <;> omega)]
    rfl
theorem s_number {vs : List Bool} (h : vs.length = 12) : s_l5Number vs = some ((foldN vs 0 : Nat) : Int) := by
  unfold s_l5Number
  have := num_loop (b := s_l5Number_b1) (fun i x n => by rw [s_l5Number_b1]) vs 0 0 (by rw [h]; decide)
  rw [show (0 : Int) = ((0 : Nat) : Int) from rfl, this]
  rfl
theorem i_number {vs : List Bool} (h : vs.length = 12) : i_numberOf vs = some ((foldN vs 0 : Nat) : Int) := by
  unfold i_numberOf
  have := num_loop (b := i_numberOf_b1) (fun i x n => by rw [i_numberOf_b1]) vs 0 0 (by rw [h]; decide)
  rw [show (0 : Int) = ((0 : Nat) : Int) from rfl, this]
  rfl
theorem foldN_mod (vs : List Bool) (b : Bool) (n : Nat) : foldN (vs ++ [b]) n = foldN vs n * 2 + (if b then 1 else 0) := by
  simp [foldN, List.foldl_append]
theorem numOf_lt {vs : List Bool} (h : vs.length = 12) : foldN vs 0 < 4096 := by
  have := foldN_lt vs 0
  rw [h] at this
  simpa using this
theorem foldN_numV : ∀ (m n : Nat), n < 2 ^ m → foldN ((List.range m).map fun k => n / 2 ^ (m - 1 - k) % 2 == 1) 0 = n
  | 0, n, h => by simp [foldN]; omega
  | m + 1, n, h => by
    rw [List.range_succ, List.map_append, List.map_singleton, foldN_mod]
    have e : (List.range m).map (fun k => n / 2 ^ (m + 1 - 1 - k) % 2 == 1) = (List.range m).map fun k => n / 2 / 2 ^ (m - 1 - k) % 2 == 1 := by
      apply List.map_congr_left
      intro k hk
      rw [List.mem_range] at hk
      rw [Nat.div_div_eq_div_mul, ← Nat.pow_succ', show (m - 1 - k).succ = m + 1 - 1 - k by omega]
    rw [e, foldN_numV m (n / 2) (by rw [Nat.pow_succ] at h; omega), show m + 1 - 1 - m = 0 by omega, Nat.pow_zero, Nat.div_one]
    by_cases h1 : n % 2 = 1
    · rw [h1]; simp; omega
    · have : n % 2 = 0 := by omega
      rw [this]; simp; omega
theorem of_num {n : Nat} (h : n < 4096) : foldN (numV n) 0 = n := foldN_numV 12 n h
end Go.L

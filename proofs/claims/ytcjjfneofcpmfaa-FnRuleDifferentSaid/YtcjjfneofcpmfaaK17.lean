/- The law on different cells. -/
import Derived.Test.YtcjjfneofcpmfaaK8
namespace Go.L
open Go Go.E
set_option linter.unusedVariables false
set_option linter.unusedSimpArgs false
set_option maxRecDepth 100000

theorem distinct_iff (vs : List Int) : distinct vs = true ↔ vs.Nodup := by
  unfold distinct
  rw [allFrom_iff, List.Nodup, List.pairwise_iff_getElem]
  constructor
  · intro h i j hi hj hij he
    have := h j vs[j] (List.getElem?_eq_getElem hj)
    simp only [Nat.zero_add, Bool.not_eq_true'] at this
    rw [← Bool.not_eq_true, List.contains_iff_mem] at this
    exact this (List.mem_iff_getElem.2 ⟨i, by simp; omega, by simp [he]⟩)
  · intro h i x hx
    obtain ⟨hi, rfl⟩ := List.getElem?_eq_some_iff.1 hx
    simp only [Nat.zero_add, Bool.not_eq_true']
    rw [← Bool.not_eq_true, List.contains_iff_mem]
    intro hm
    obtain ⟨j, hj, he⟩ := List.mem_iff_getElem.1 hm
    simp at hj he
    exact h j i (by omega) hi (by omega) he
def inn (cells : List Int) (x : Int) : Nat → Bool
  | 0 => false
  | k + 1 => inn cells x k || (x == cells.getD k 0)
def twi (cells : List Int) : Nat → Bool
  | 0 => false
  | i + 1 => twi cells i || inn cells (cells.getD i 0) i
theorem inn_eq (cells : List Int) (x : Int) : ∀ k, k ≤ cells.length → inn cells x k = (cells.take k).contains x
  | 0, _ => rfl
  | k + 1, h => by
    rw [inn, inn_eq cells x k (by omega), List.take_add_one, List.getElem?_eq_getElem (show k < cells.length by omega), getD_lt (show k < cells.length by omega), Bool.eq_iff_iff]
    simp only [Bool.or_eq_true, List.contains_iff_mem, beq_iff_eq, List.mem_append, Option.toList, List.mem_singleton]
theorem twi_eq (cells : List Int) : ∀ i, i ≤ cells.length → (twi cells i = false ↔ (cells.take i).Nodup)
  | 0, _ => by simp [twi]
  | i + 1, h => by
    rw [twi, inn_eq _ _ _ (by omega), Bool.or_eq_false_iff, twi_eq cells i (by omega), List.take_add_one, List.getElem?_eq_getElem (show i < cells.length by omega), getD_lt (show i < cells.length by omega)]
    rw [List.nodup_append]
    constructor
    · rintro ⟨h1, h2⟩
      refine ⟨h1, by simp, fun a ha b hb => ?_⟩
      simp at hb; subst hb
      rintro rfl
      rw [← Bool.not_eq_true, List.contains_iff_mem] at h2
      exact h2 ha
    · rintro ⟨h1, _, h2⟩
      refine ⟨h1, ?_⟩
      rw [← Bool.not_eq_true, List.contains_iff_mem]
      intro hm
      exact h2 _ hm _ (by simp) rfl
def downV (n k : Nat) : List Int := ((List.range n).drop k).reverse.map fun (i : Nat) => (i : Int)
def difR (n k : Nat) : Rule := { kind := 2, vars := downV n k, coefs := [], bound := 0, rows := [] }
theorem downV_step {n k : Nat} (h : k < n) : downV n k = downV n (k + 1) ++ [(k : Int)] := by
  unfold downV
  rw [List.drop_eq_getElem_cons (by simpa using h)]
  simp
theorem downV_len (n k : Nat) : (downV n k).length = n - k := by simp [downV]
theorem dif_loop (n : Nat) (hn : n ≤ 1000) : ∀ (k fu : Nat), k ≤ n → k < fu → ∃ j, whileL l_FnRuleDifferent_b1 fu ((k : Int) - 1, [difR n k]) = some (.nx (j, [difR n 0]))
  | 0, fu, _, hf => by
    obtain ⟨f, rfl⟩ : ∃ f, fu = f + 1 := ⟨fu - 1, by omega⟩
    exact ⟨_, rfl⟩
  | k + 1, fu, hk, hf => by
    obtain ⟨f, rfl⟩ : ∃ f, fu = f + 1 := ⟨fu - 1, by omega⟩
    obtain ⟨j, hj⟩ := dif_loop n hn k f (by omega) (by omega)
    refine ⟨j, ?_⟩
    show (l_FnRuleDifferent_b1 (((k + 1 : Nat) : Int) - 1, [difR n (k + 1)])).bind _ = _
    have e : l_FnRuleDifferent_b1 (((k + 1 : Nat) : Int) - 1, [difR n (k + 1)]) = some (.cont ((k : Int) - 1, [difR n k])) := by
      rw [show ((k + 1 : Nat) : Int) - 1 = (k : Int) by omega]
      rw [l_FnRuleDifferent_b1, if_pos (by simp)]
      show (app (downV n (k + 1)) [(k : Int)]).bind _ = _
      rw [app_le (by rw [downV_len]; simp; omega), ← downV_step (by omega), Option.bind_some, i64_id (by omega) (by omega)]
      rfl
    rw [e]
    exact hj
theorem dif_vals (cells : List Int) : valsOf (difR cells.length 0) cells = cells.reverse := by
  unfold valsOf difR downV
  simp only [List.drop_zero, List.map_map]
  rw [List.map_reverse]
  congr 1
  refine List.ext_getElem (by simp) fun i h1 h2 => ?_
  simp at h1
  simp [h1]
theorem FnRuleDifferent_ok (code : List UInt8) (g0 : code.length ≤ 9223372036854775807 ∧ ∀ x ∈ code, True) : ∃ fu, l_FnRuleDifferent fu code = some true := by
  refine ⟨FU, ?_⟩
  unfold l_FnRuleDifferent
  split
  · rfl
  refine anyB_intro (drawRuleHolds_ok code FU (Nat.le_refl _)) (o0 := (⟨[], []⟩, 0, [])) ⟨s0, by simp [sOut]⟩ fun o ho => ?_
  obtain ⟨m, r0, cells⟩ := o
  obtain ⟨hm, hc⟩ := ho
  simp only at hm hc ⊢
  have hs := small_s hm
  have hn : m.sizes.length ≤ 1000 := hm.1
  have hcl : cells.length ≤ 1048576 := by unfold sOut at hc; omega
  obtain ⟨j, hj⟩ := dif_loop m.sizes.length hn m.sizes.length FU (Nat.le_refl _) (by unfold FU; omega)
  have e0 : (i64 ((m.sizes.length : Int) - 1), [({ kind := 2, vars := [], coefs := [], bound := 0, rows := [] } : Rule)]) = ((m.sizes.length : Int) - 1, [difR m.sizes.length m.sizes.length]) := by
    rw [i64_id (by omega) (by omega)]
    simp [difR, downV]
  rw [e0, hj, Option.bind_some]
  simp only
  have hs2 : smallM ⟨m.sizes, [difR m.sizes.length 0]⟩ := ⟨hs.1, by simp, fun r hr => by
    simp at hr; subst hr
    exact ⟨by simp only [difR]; rw [downV_len]; omega, by simp [difR], by simp [difR], by simp [difR]⟩⟩
  rw [i_ruleHolds _ hs2, s_ruleHolds _ hs2 FU (Nat.le_refl _), i_cells _ hs2]
  simp only [Option.bind_some, bne_self_eq_false, Bool.false_eq_true, if_false]
  cases hok : okCells ⟨m.sizes, [difR m.sizes.length 0]⟩ cells with
  | false => simp
  | true =>
    obtain ⟨hokm, hci⟩ := okCells_parts hok
    have hlen : cells.length = m.sizes.length := fit_len (cellsIn_fit.1 hci)
    simp only [Bool.not_true, Bool.false_eq_true, if_false]
    have hin : ∀ (x : Int) (t : Bool) (i : Nat), i ≤ cells.length → countL (l_FnRuleDifferent_b3 (m, r0, cells) x) i 0 t = some (.nx (t || inn cells x i)) := by
      intro x t i hi
      have h := count_to (b := l_FnRuleDifferent_b3 (m, r0, cells) x) (fun j => t || inn cells x j) i 0 (by
        intro j _ hj
        show (if (t || inn cells x j) then some true else (idx cells (j : Int)).bind fun x157 => some (x == x157)).bind _ = _
        rw [idx_lt (show j < cells.length by omega), inn, getD_lt (show j < cells.length by omega)]
        cases t <;> cases inn cells x j <;> simp)
      simpa [inn] using h
    have hout := range_to (b := l_FnRuleDifferent_b2 (m, r0, cells)) (fun i => twi cells i) cells (by
      intro i x hx
      obtain ⟨hi, rfl⟩ := List.getElem?_eq_some_iff.1 hx
      show (cntF 0 (i : Int)).bind _ = _
      rw [cntF_nat (by omega), Option.bind_some, hin _ _ i (by omega), twi, getD_lt hi]
      rfl)
    have hout' : rangeL (l_FnRuleDifferent_b2 (m, r0, cells)) cells 0 false = some (.nx (twi cells cells.length)) := hout
    rw [hout', Option.bind_some]
    have e1 : holdsAt ⟨m.sizes, [difR m.sizes.length 0]⟩ 0 cells = distinct cells.reverse := by
      unfold holdsAt
      rw [hok, ← hlen]
      show ((true && _) && ruleHolds (difR cells.length 0) (valsOf (difR cells.length 0) cells)) = _
      rw [dif_vals]
      simp [ruleHolds, difR]
    rw [e1]
    have e2 : distinct cells.reverse = !twi cells cells.length := by
      have h1 := distinct_iff cells.reverse
      have hr : cells.reverse.Nodup ↔ cells.Nodup := by
        unfold List.Nodup
        rw [List.pairwise_reverse]
        exact ⟨fun h => h.imp fun h e => h e.symm, fun h => h.imp fun h e => h e.symm⟩
      rw [hr] at h1
      have h2 := twi_eq cells cells.length (Nat.le_refl _)
      rw [List.take_length] at h2
      cases ht : twi cells cells.length with
      | false => simp; exact h1.2 (h2.1 ht)
      | true =>
        cases hd : distinct cells.reverse with
        | false => rfl
        | true => rw [h2.2 (h1.1 hd)] at ht; cases ht
    rw [e2]
    cases twi cells cells.length <;> rfl
end Go.L

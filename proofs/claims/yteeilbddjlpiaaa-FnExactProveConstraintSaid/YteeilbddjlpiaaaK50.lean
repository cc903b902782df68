/- Clauses, on both sides. -/
import Derived.Test.YteeilbddjlpiaaaK29
namespace Go.L
open Go Go.E
set_option linter.unusedVariables false
set_option linter.unusedSimpArgs false
set_option maxRecDepth 100000
def zeroC' : Con := ⟨[], 0⟩
/-- the literal of a variable -/
def seenAt (ls : List Int) (v : Int) : Int := if ls.contains v then v else if ls.contains (-v) then -v else 0
def clT (ls : List Int) : Nat → List Term
  | 0 => []
  | n + 1 => clT ls n ++ (if seenAt ls ((n + 1 : Nat) : Int) ≠ 0 then [⟨1, seenAt ls ((n + 1 : Nat) : Int)⟩] else [])
def clC (ls : List Int) : Con := ⟨clT ls 12, 1⟩
def litOk (l : Int) : Bool := l != 0 && (decide (-12 ≤ l) && decide (l ≤ 12))
theorem litOk_iff {l : Int} : litOk l = true ↔ lit12 l := by unfold litOk lit12; simp
/-- all are literals, and no two contradict each other -/
def clOk (ls : List Int) : Bool := ls.all fun l => litOk l && !ls.contains (-l)
def clauseP (ls : List Int) : Con × Bool := if ls.length ≤ 40 && clOk ls then (clC ls, true) else (zeroC', false)
theorem clOk_iff {ls : List Int} : clOk ls = true ↔ ∀ l ∈ ls, lit12 l ∧ ¬ (-l) ∈ ls := by
  unfold clOk
  rw [List.all_eq_true]
  constructor
  · intro h l hl
    have := h l hl
    rw [Bool.and_eq_true, litOk_iff] at this
    exact ⟨this.1, by simpa using this.2⟩
  · intro h l hl
    rw [Bool.and_eq_true, litOk_iff]
    exact ⟨(h l hl).1, by simpa using (h l hl).2⟩
def seenR (ls : List Int) : List Int := (List.range 13).map fun (k : Nat) => seenAt ls (k : Int)
theorem seenR_get (ls : List Int) (k : Nat) (h : k < 13) : (seenR ls)[k]? = some (seenAt ls (k : Int)) := by
  unfold seenR
  rw [List.getElem?_map, List.getElem?_range h]
  rfl
theorem seenR_len (ls : List Int) : (seenR ls).length = 13 := by simp [seenR]
theorem seenAt_snoc {ls : List Int} {l : Int} (hl : lit12 l) (h : ¬ (-l) ∈ ls) (h0 : ∀ x ∈ ls, lit12 x) (k : Nat) (hk : k < 13) : seenAt (ls ++ [l]) (k : Int) = if (k : Int) = absI l then l else seenAt ls (k : Int) := by
  obtain ⟨a0, a1, a2⟩ := hl
  unfold seenAt absI
  simp only [List.contains_eq_mem, List.mem_append, List.mem_singleton, decide_eq_true_eq]
  by_cases e : (k : Int) = max l (-l)
  · rw [if_pos e]
    by_cases hp : l > 0
    · have ek : (k : Int) = l := by omega
      rw [if_pos (.inr ek), ek]
    · have ek : (k : Int) = -l := by omega
      have n1 : ¬ ((k : Int) ∈ ls ∨ (k : Int) = l) := by
        rintro (h1 | h1)
        · rw [ek] at h1; exact h h1
        · omega
      rw [if_neg n1, if_pos (.inr (by omega))]
      omega
  · rw [if_neg e]
    have n1 : ((k : Int) ∈ ls ∨ (k : Int) = l) ↔ (k : Int) ∈ ls := ⟨fun h => h.elim id fun h => by exfalso; omega, .inl⟩
    have n2 : (-(k : Int) ∈ ls ∨ -(k : Int) = l) ↔ -(k : Int) ∈ ls := ⟨fun h => h.elim id fun h => by exfalso; omega, .inl⟩
    simp only [n1, n2]
theorem mk13 : mkN 13 (0 : Int) = some (seenR []) := by
  have : List.replicate 13 (0 : Int) = seenR [] := by decide
  rw [← this]; exact mkN_le (n := 13) (0 : Int) (by omega)
theorem take_snoc1 {α : Type} {xs : List α} {i : Nat} {x : α} (h : xs[i]? = some x) : xs.take (i + 1) = xs.take i ++ [x] := by rw [List.take_add_one, h]; rfl
theorem clT_len (ls : List Int) : ∀ n, (clT ls n).length ≤ n
  | 0 => Nat.le_refl _
  | n + 1 => by
    have := clT_len ls n
    rw [clT, List.length_append]
    split <;> simp <;> omega
theorem s_abs' {l : Int} (h : lit12 l) : s_l1Abs l = some (absI l) := s_abs l (by have := h.2.1; omega) (by have := h.2.2; omega)
theorem s_clause (ls : List Int) : s_ClauseOf ls = some (clauseP ls) := by
  unfold s_ClauseOf clauseP
  rw [mk13, Option.bind_some]
  by_cases h40 : ls.length ≤ 40
  · rw [if_neg (by simp; omega)]
    have hd : decide (ls.length ≤ 40) = true := decide_eq_true h40
    rw [hd, Bool.true_and]
    obtain ⟨j, hj, hQ⟩ := range_inv (b := s_ClauseOf_b1) ls (fun i s => s = seenR (ls.take i) ∧ clOk (ls.take i) = true)
      (fun j => match j with | .nx s => s = seenR ls ∧ clOk ls = true | .out t => t = (zeroC', false) ∧ clOk ls = false)
      (fun s h => by simpa using h) (by
        rintro i l s hl ⟨rfl, hok⟩
        have hi := (List.getElem?_eq_some_iff.1 hl).1
        have hml := List.mem_of_getElem? hl
        rw [s_ClauseOf_b1]
        unfold s_l1Lit
        cases hlo : litOk l with
        | false =>
          refine ⟨.out (zeroC', false), ?_, rfl, ?_⟩
          · have : (((l != 0) && (decide (l ≥ (-12)))) && (decide (l ≤ 12))) = false := by rw [← hlo]; unfold litOk; rw [Bool.and_assoc]
            rw [this]; rfl
          · cases hc : clOk ls with
            | false => rfl
            | true => rw [litOk_iff.2 (clOk_iff.1 hc l hml).1] at hlo; cases hlo
        | true =>
          have h12 := litOk_iff.1 hlo
          obtain ⟨a0, a1, a2⟩ := h12
          have : (((l != 0) && (decide (l ≥ (-12)))) && (decide (l ≤ 12))) = true := by rw [← hlo]; unfold litOk; rw [Bool.and_assoc]
          rw [this]
          simp only [Option.bind_some, Bool.not_true, Bool.false_eq_true, if_false]
          obtain ⟨k, hk⟩ : ∃ k : Nat, absI l = (k : Int) := ⟨(absI l).toNat, by unfold absI; omega⟩
          have hk13 : k < 13 := by unfold absI at hk; omega
          rw [s_abs' ⟨a0, a1, a2⟩, Option.bind_some, hk, idx_nat, seenR_get _ _ hk13, Option.bind_some, i64_id (by omega) (by omega)]
          have hnn : ∀ x ∈ ls.take i, lit12 x := fun x hx => (clOk_iff.1 hok x hx).1
          by_cases hc : (-l) ∈ ls.take i
          · refine ⟨.out (zeroC', false), ?_, rfl, ?_⟩
            · have hs : seenAt (ls.take i) (k : Int) = -l := by
                have hnl : ¬ l ∈ ls.take i := fun h => by
                  have := (clOk_iff.1 hok (-l) hc).2
                  rw [Int.neg_neg] at this
                  exact this h
                unfold seenAt
                unfold absI at hk
                simp only [List.contains_eq_mem, decide_eq_true_eq]
                by_cases hp : l > 0
                · have e1 : (k : Int) = l := by omega
                  rw [e1, if_neg hnl, if_pos hc]
                · have e1 : (k : Int) = -l := by omega
                  rw [e1, if_pos hc]
              rw [hs, beq_self_eq_true]
              rfl
            · cases hx : clOk ls with
              | false => rfl
              | true => exact absurd (List.mem_of_mem_take hc) (clOk_iff.1 hx l hml).2
          · have hs : (seenAt (ls.take i) (k : Int) == -l) = false := by
              unfold seenAt
              unfold absI at hk
              simp only [List.contains_eq_mem, decide_eq_true_eq]
              rw [beq_eq_false_iff_ne]
              intro e
              split at e
              · rename_i hm; rw [e] at hm; exact hc hm
              · split at e
                · rename_i hm; rw [e] at hm; exact hc hm
                · omega
            rw [hs]
            refine ⟨.cont (seenR (ls.take (i + 1))), ?_, rfl, ?_⟩
            · simp only [Bool.false_eq_true, if_false, Int.toNat_natCast]
              congr 2
              rw [take_snoc1 hl]
              apply List.ext_getElem?
              intro q
              by_cases hq : q < 13
              · rw [seenR_get _ _ hq, List.getElem?_set, seenAt_snoc ⟨a0, a1, a2⟩ hc hnn q hq, seenR_len, seenR_get _ _ hq]
                by_cases e : k = q
                · subst e; rw [if_pos rfl, if_pos hk13, hk, if_pos rfl]
                · rw [if_neg e, hk, if_neg (by omega)]
              · rw [List.getElem?_eq_none (by rw [List.length_set, seenR_len]; omega), List.getElem?_eq_none (by rw [seenR_len]; omega)]
            · rw [take_snoc1 hl, clOk_iff]
              intro x hx
              rcases List.mem_append.1 hx with hx | hx
              · have := clOk_iff.1 hok x hx
                refine ⟨this.1, fun hm => ?_⟩
                rcases List.mem_append.1 hm with hm | hm
                · exact this.2 hm
                · rw [List.mem_singleton] at hm
                  apply hc
                  rw [← hm, Int.neg_neg]; exact hx
              · rw [List.mem_singleton] at hx
                subst hx
                refine ⟨⟨a0, a1, a2⟩, fun hm => ?_⟩
                rcases List.mem_append.1 hm with hm | hm
                · exact hc hm
                · rw [List.mem_singleton] at hm; omega) (seenR []) ⟨rfl, rfl⟩
    rw [hj, Option.bind_some]
    cases j with
    | out t => obtain ⟨rfl, h⟩ := hQ; rw [h]; rfl
    | nx s =>
      obtain ⟨rfl, h⟩ := hQ
      rw [h]
      simp only [if_true]
      have e : cntF 1 (12 + 1) = some 12 := by rw [cntF_of (s := 1) (by omega) (by omega)]; congr 1
      rw [e, Option.bind_some]
      have := count_to (b := s_ClauseOf_b2 (seenR ls)) (fun i => clT ls (i - 1)) 12 1 (by
        intro i h1 h2
        obtain ⟨n, rfl⟩ : ∃ n, i = n + 1 := ⟨i - 1, by omega⟩
        have hl := clT_len ls n
        rw [s_ClauseOf_b2, idx_nat, seenR_get _ _ (by omega), Option.bind_some]
        simp only [Nat.add_sub_cancel, clT]
        by_cases hz : seenAt ls ((n + 1 : Nat) : Int) = 0
        · have hz' : (seenAt ls ((n + 1 : Nat) : Int) != 0) = false := by simpa using hz
          rw [hz', if_neg (by simp), if_neg (by simpa using hz), List.append_nil]
          rfl
        · have hz' : (seenAt ls ((n + 1 : Nat) : Int) != 0) = true := by simpa using hz
          rw [hz', if_pos rfl, app_le (by simp; omega), if_pos hz]
          rfl)
      have e0 : ([] : List Term) = clT ls (1 - 1) := rfl
      rw [e0, this]
      rfl
  · rw [if_pos (by simp; omega), decide_eq_false h40]
    rfl
end Go.L

/- Models that are valid; the variables of their cells. -/
import Derived.Test.YteojddfaiomfmaaL6
namespace Go.L
open Go Go.E
set_option linter.unusedVariables false

def qSize (x : Int) : Bool := decide (0 ≤ x) && decide (x ≤ 3)
def gsum (xs : List Int) : Int := xs.foldl (fun n x => n + x + 1) 0
theorem gsum_next (xs : List Int) (i : Nat) (h : i < xs.length) : gsum (xs.take (i + 1)) = gsum (xs.take i) + xs[i] + 1 := by
  unfold gsum
  rw [List.take_add_one, List.getElem?_eq_getElem h, List.foldl_append]
  rfl
theorem all_next (q : Int → Bool) (xs : List Int) (i : Nat) (h : i < xs.length) : (xs.take (i + 1)).all q = ((xs.take i).all q && q xs[i]) := by
  rw [List.take_add_one, List.getElem?_eq_getElem h, List.all_append]
  simp
theorem all_false (q : Int → Bool) (xs : List Int) (i : Nat) (h : i < xs.length) (hq : q xs[i] = false) : xs.all q = false := by
  rw [List.all_eq_false]
  exact ⟨xs[i], List.getElem_mem h, by simp [hq]⟩
theorem qSize_iff {x : Int} : qSize x = true ↔ 0 ≤ x ∧ x ≤ 3 := by unfold qSize; simp
def okModel (m : Model) : Bool :=
  if (((decide ((m.sizes.length : Int) < 1)) || (decide ((m.sizes.length : Int) > 5))) || (decide (gsum m.sizes > 12))) || (decide ((m.rules.length : Int) > 8)) then false
  else m.sizes.all qSize && m.rules.all (okRule m.sizes.length)
theorem s_sizes (m : Model) (hx : m.sizes.length ≤ ML) : ∃ j, EvW (fun _ => s_ModelValid_b1 m) (0, 0) j ∧
    (match j with | .nx s => m.sizes.length ≤ 5 → s.1 = gsum m.sizes ∧ m.sizes.all qSize = true | .out t => t = false ∧ m.sizes.all qSize = false) := by
  refine evw_loop (b := fun _ => s_ModelValid_b1 m) (fun n s => ∃ i : Nat, n = m.sizes.length - i ∧ i ≤ m.sizes.length ∧ i ≤ 5 ∧ s.2 = (i : Int) ∧ s.1 = gsum (m.sizes.take i) ∧ (m.sizes.take i).all qSize = true ∧ 0 ≤ s.1 ∧ s.1 ≤ 4 * i)
    (fun j => match j with | .nx s => m.sizes.length ≤ 5 → s.1 = gsum m.sizes ∧ m.sizes.all qSize = true | .out t => t = false ∧ m.sizes.all qSize = false) ?_ m.sizes.length (0, 0) ⟨0, by omega, by omega, by omega, rfl, rfl, rfl, by simp, by simp⟩
  rintro n ⟨k, w⟩ ⟨i, rfl, hi, hi5, hw, hk, ha, hk0, hk1⟩
  simp only at hw hk hk0 hk1
  subst hw
  by_cases hlt : i < m.sizes.length ∧ i < 5
  · have hbody : ∀ fu : Nat, s_ModelValid_b1 m (k, (i : Int)) = (if ((decide (m.sizes[i] < 0)) || (decide (m.sizes[i] > 3))) then (some (.out false)) else (some (.cont (i64 ((i64 (k + m.sizes[i])) + 1), i64 ((i : Int) + 1))))) := by
      intro fu
      show (if _ then _ else _) = _
      rw [if_pos (by simp; omega), idx_lt hlt.1]
      rfl
    cases hq : qSize m.sizes[i] with
    | true =>
      have hb := qSize_iff.1 hq
      refine ⟨.cont (k + m.sizes[i] + 1, ((i + 1 : Nat) : Int)), Ev.of fun fu => ?_, _, ?_, i + 1, rfl, hlt.1, hlt.2, rfl, ?_, ?_, ?_, ?_⟩
      · rw [hbody fu, if_neg (by simp; omega), i64s hlt.1 hx, i64_id (n := k + m.sizes[i]) (by omega) (by omega), i64_id (by omega) (by omega)]
      · omega
      · rw [gsum_next _ _ hlt.1, hk]
      · rw [all_next _ _ _ hlt.1, ha, hq]; rfl
      · show 0 ≤ k + m.sizes[i] + 1; omega
      · show k + m.sizes[i] + 1 ≤ 4 * ((i + 1 : Nat) : Int); omega
    | false =>
      refine ⟨.out false, Ev.of fun fu => ?_, rfl, all_false _ _ _ hlt.1 hq⟩
      have hnb : ¬ (0 ≤ m.sizes[i] ∧ m.sizes[i] ≤ 3) := fun h => by rw [qSize_iff.2 h] at hq; cases hq
      rw [hbody fu, if_pos (by simp; omega)]
  · refine ⟨.brk (k, (i : Int)), Ev.of fun fu => ?_, fun h5 => ?_⟩
    · show (if _ then _ else _) = _
      rw [if_neg (by simp; omega)]
    · obtain rfl : i = m.sizes.length := by omega
      rw [List.take_length] at hk ha
      exact ⟨hk, ha⟩
theorem s_rules (m : Model) (hx : m.rules.length ≤ ML) (hel : ∀ r ∈ m.rules, lenR r) : EvW (fun fu => s_ModelValid_b2 fu m) 0 (if m.rules.all (okRule m.sizes.length) then .nx (m.rules.length : Int) else .out false) := by
  have h := all_while (τ := Bool) (fun _ => okRule m.sizes.length) m.rules hx false (fun fu => s_ModelValid_b2 fu m)
    (by
      intro i r hi hr
      refine Ev.congr (g := fun fu => (s_l6Rule fu m r).bind fun x44 => if (!x44) then (some (.out false)) else (some (.cont (i64 ((i : Int) + 1))))) ?_ fun fu => by
        show (if _ then _ else _) = _
        rw [if_pos (by simp; omega), idx_nat, hr]
        rfl
      refine (s_rule m r (hel r (List.mem_of_getElem? hr))).bind (Ev.of fun fu => ?_)
      rw [i64s hi hx]
      cases okRule m.sizes.length r <;> rfl)
    (by
      intro fu
      show (if _ then _ else _) = _
      rw [if_neg (by simp)])
  rw [allFrom_const] at h
  exact h
theorem s_model (m : Model) (h : lenM m) : Ev (fun fu => s_ModelValid fu m) (okModel m) := by
  unfold s_ModelValid okModel
  obtain ⟨j, hj, hQ⟩ := s_sizes m h.1
  cases j with
  | out t =>
    simp only at hQ
    obtain ⟨rfl, hf⟩ := hQ
    rw [hf, Bool.false_and]
    rw [ite_self]
    exact hj.ev.bind (Ev.ret _)
  | nx s =>
    obtain ⟨n, i⟩ := s
    refine hj.ev.bind ?_
    by_cases h5 : m.sizes.length ≤ 5
    · obtain ⟨hn, ha⟩ := hQ h5
      simp only at hn
      subst hn
      rw [ha, Bool.true_and]
      refine Ev.ite (fun hc => ?_) fun hc => ?_
      · rw [if_pos hc]; exact Ev.ret _
      · rw [hc, if_neg Bool.false_ne_true]
        have h2 := s_rules m h.2.1 h.2.2
        refine h2.ev.bind ?_
        cases m.rules.all (okRule m.sizes.length) <;> exact Ev.ret _
    · rw [if_pos (by simp; omega)]
      exact Ev.ite (fun hc => Ev.ret _) fun hc => by simp at hc; omega
theorem i_sizes (m : Model) (h5 : m.sizes.length ≤ 5) : ∃ j, rangeL i_ModelValid_b1 m.sizes 0 0 = some j ∧
    (match j with | .nx s => s = gsum m.sizes ∧ m.sizes.all qSize = true | .out t => t = false ∧ m.sizes.all qSize = false) := by
  refine range_loop (fun i rest c => m.sizes.drop i = rest ∧ c = gsum (m.sizes.take i) ∧ (m.sizes.take i).all qSize = true ∧ 0 ≤ c ∧ c ≤ 4 * i)
    (fun j => match j with | .nx s => s = gsum m.sizes ∧ m.sizes.all qSize = true | .out t => t = false ∧ m.sizes.all qSize = false) ?_ ?_ m.sizes 0 0 ⟨rfl, rfl, rfl, by simp, by simp⟩
  · rintro i c ⟨hd, hc, ha, _, _⟩
    have hl : m.sizes.length ≤ i := by
      rw [List.drop_eq_nil_iff] at hd; exact hd
    rw [List.take_of_length_le hl] at hc ha
    exact ⟨hc, ha⟩
  · rintro i x xs c ⟨hd, hc, ha, h0, h1⟩
    have hx := drop_idx hd
    have hi : i < m.sizes.length := by
      rw [idx_nat] at hx; exact (List.getElem?_eq_some_iff.1 hx).1
    have hxe : x = m.sizes[i] := by rw [idx_lt hi] at hx; injection hx with hx; exact hx.symm
    subst hxe
    cases hq : qSize m.sizes[i] with
    | true =>
      have hb := qSize_iff.1 hq
      refine ⟨.cont (c + m.sizes[i] + 1), ?_, drop_next hd, by rw [gsum_next _ _ hi, hc], by rw [all_next _ _ _ hi, ha, hq]; rfl, by omega, by omega⟩
      simp only [i_ModelValid_b1, within_eq, Option.bind_some]
      have : (decide (0 ≤ m.sizes[i]) && decide (m.sizes[i] ≤ 3)) = true := hq
      rw [this, if_neg (by simp), i64_id (n := m.sizes[i] + 1) (by omega) (by omega), i64_id (by omega) (by omega)]
      rw [Int.add_assoc]
    | false =>
      refine ⟨.out false, ?_, rfl, all_false _ _ _ hi hq⟩
      simp only [i_ModelValid_b1, within_eq, Option.bind_some]
      have : (decide (0 ≤ m.sizes[i]) && decide (m.sizes[i] ≤ 3)) = false := hq
      rw [this]; rfl
theorem i_model (m : Model) (h : lenM m) : i_ModelValid m = some (okModel m) := by
  unfold i_ModelValid okModel
  rw [within_eq, Option.bind_some]
  by_cases h1 : 1 ≤ m.sizes.length ∧ m.sizes.length ≤ 5 ∧ m.rules.length ≤ 8
  · have e1 : ((!(decide (1 ≤ (m.sizes.length : Int)) && decide ((m.sizes.length : Int) ≤ 5))) || decide ((m.rules.length : Int) > 8)) = false := by
      rw [show decide (1 ≤ (m.sizes.length : Int)) = true from decide_eq_true (by omega), show decide ((m.sizes.length : Int) ≤ 5) = true from decide_eq_true (by omega), show decide ((m.rules.length : Int) > 8) = false from decide_eq_false (by omega)]
      rfl
    rw [e1, if_neg Bool.false_ne_true]
    have e2 : ((((decide ((m.sizes.length : Int) < 1)) || (decide ((m.sizes.length : Int) > 5))) || (decide (gsum m.sizes > 12))) || (decide ((m.rules.length : Int) > 8))) = decide (gsum m.sizes > 12) := by
      rw [show decide ((m.sizes.length : Int) < 1) = false from decide_eq_false (by omega), show decide ((m.sizes.length : Int) > 5) = false from decide_eq_false (by omega), show decide ((m.rules.length : Int) > 8) = false from decide_eq_false (by omega)]
      simp
    rw [e2]
    obtain ⟨j, hj, hQ⟩ := i_sizes m h1.2.1
    rw [hj, Option.bind_some]
    cases j with
    | out t =>
      simp only at hQ
      rw [hQ.1, hQ.2, Bool.false_and, ite_self]
    | nx c =>
      simp only at hQ
      obtain ⟨rfl, ha⟩ := hQ
      rw [ha, Bool.true_and]
      have e3 : slices_ContainsFunc_implRule m.rules (i_ModelValid_1 m) = some (!m.rules.all (okRule m.sizes.length)) := by
        rw [← any_not_all]
        refine containsFuncRule m.rules _ _ fun r hr => ?_
        unfold i_ModelValid_1
        rw [i_rule r _ h.1 (h.2.2 r hr)]
        rfl
      have e4 : decide (gsum m.sizes ≤ 12) = !decide (gsum m.sizes > 12) := by rw [← decide_not, decide_eq_decide]; omega
      simp only [e3, e4]
      cases decide (gsum m.sizes > 12) <;> cases m.rules.all (okRule m.sizes.length) <;> rfl
  · have e1 : ((!(decide (1 ≤ (m.sizes.length : Int)) && decide ((m.sizes.length : Int) ≤ 5))) || decide ((m.rules.length : Int) > 8)) = true := by
      simp; omega
    have e2 : ((((decide ((m.sizes.length : Int) < 1)) || (decide ((m.sizes.length : Int) > 5))) || (decide (gsum m.sizes > 12))) || (decide ((m.rules.length : Int) > 8))) = true := by
      simp; omega
    rw [e1, e2, if_pos rfl, if_pos rfl]
end Go.L

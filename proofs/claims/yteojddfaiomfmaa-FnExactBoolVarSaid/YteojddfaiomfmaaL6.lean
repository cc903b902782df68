/- Rules and models that are valid: both sides say the same. -/
import Derived.Test.YteojddfaiomfmaaL5
namespace Go.L
open Go Go.E
set_option linter.unusedVariables false

def okRule (n : Nat) (r : Rule) : Bool :=
  if ((!(okVars n r.vars && decide ((r.vars.length : Int) ≥ 1))) || ((r.kind != 1) && (((r.coefs.length : Int) != 0) || (r.bound != 0)))) || ((r.kind != 3) && ((r.rows.length : Int) != 0)) then false
  else if r.kind == 1 then r.coefs.all qCoef && ((((r.coefs.length : Int) == (r.vars.length : Int)) && decide (r.bound ≥ -1000)) && decide (r.bound ≤ 1000))
  else if r.kind == 2 then true
  else if r.kind == 3 then r.rows.all (qRow r.vars.length) && decide ((r.rows.length : Int) ≤ 8)
  else if r.kind == 4 then ((r.vars.length : Int) == 2) else false
theorem s_rule (m : Model) (r : Rule) (h : lenR r) : Ev (fun fu => s_l6Rule fu m r) (okRule m.sizes.length r) := by
  unfold s_l6Rule okRule
  refine (s_vars m r.vars h.1).bind ?_
  generalize hc : (((!(okVars m.sizes.length r.vars && decide ((r.vars.length : Int) ≥ 1))) || ((r.kind != 1) && (((r.coefs.length : Int) != 0) || (r.bound != 0)))) || ((r.kind != 3) && ((r.rows.length : Int) != 0))) = c
  cases c with
  | true => exact Ev.ret _
  | false =>
    refine Ev.ite (fun h => nomatch h) fun _ => ?_
    rw [if_neg Bool.false_ne_true]
    cases hk1 : r.kind == 1 with
    | true => exact (s_linear r h.2.1).bind (Ev.ret _)
    | false =>
      refine Ev.ite (fun h => nomatch h) fun _ => ?_
      rw [if_neg Bool.false_ne_true]
      cases hk2 : r.kind == 2 with
      | true => exact Ev.ret _
      | false =>
        refine Ev.ite (fun h => nomatch h) fun _ => ?_
        rw [if_neg Bool.false_ne_true]
        cases hk3 : r.kind == 3 with
        | true => exact (s_table r h.2.2.1 h.2.2.2).bind (Ev.ret _)
        | false =>
          refine Ev.ite (fun h => nomatch h) fun _ => ?_
          rw [if_neg Bool.false_ne_true]
          cases hk4 : r.kind == 4 with
          | true => exact Ev.ret _
          | false => exact Ev.ret _
theorem any_not_all {α : Type} (q : α → Bool) (xs : List α) : xs.any (fun x => !q x) = !xs.all q := by
  induction xs with
  | nil => rfl
  | cons x xs ih => rw [List.any_cons, List.all_cons, ih]; cases q x <;> cases xs.all q <;> rfl
theorem i_coefs (xs : List Int) : slices_ContainsFunc_int xs i_ruleValid_1 = some (!xs.all qCoef) := by
  rw [← any_not_all]
  refine containsFuncInt xs _ (fun x => !qCoef x) fun x => ?_
  unfold i_ruleValid_1 qCoef
  rw [within_eq]
  cases hx : x == 0 <;> cases h1 : decide (-9 ≤ x) <;> cases h2 : decide (x ≤ 9) <;> simp_all
theorem i_rows (r : Rule) : slices_ContainsFunc_Sint r.rows (i_ruleValid_2 r) = some (!r.rows.all (qRow r.vars.length)) := by
  rw [← any_not_all]
  refine containsFuncSint r.rows _ (fun x => !qRow r.vars.length x) fun row => ?_
  unfold i_ruleValid_2 qRow
  have e : slices_ContainsFunc_int row i_ruleValid_2_1 = some (!row.all (fun x => decide (0 ≤ x) && decide (x ≤ 3))) := by
    rw [← any_not_all]
    exact containsFuncInt row _ _ fun x => rfl
  rw [e]
  unfold bne
  cases (row.length : Int) == (r.vars.length : Int) <;> cases row.all (fun x => decide (0 ≤ x) && decide (x ≤ 3)) <;> rfl
theorem i_rule (r : Rule) (n : Nat) (hn : n ≤ ML) (h : lenR r) : i_ruleValid r (n : Int) = some (okRule n r) := by
  unfold i_ruleValid okRule
  rw [i_vars r n hn h.1]
  cases hv : okVars n r.vars with
  | false => rfl
  | true =>
    show (if _ then _ else _) = _
    have e0 : ((r.vars.length : Int) == 0) = !decide ((r.vars.length : Int) ≥ 1) := by
      rw [Bool.eq_iff_iff, beq_iff_eq, Bool.not_eq_true', decide_eq_false_iff_not]; omega
    have e1 : decide ((r.coefs.length : Int) > 0) = ((r.coefs.length : Int) != 0) := by
      rw [Bool.eq_iff_iff, decide_eq_true_eq, bne_iff_ne]; omega
    have e2 : decide ((r.rows.length : Int) > 0) = ((r.rows.length : Int) != 0) := by
      rw [Bool.eq_iff_iff, decide_eq_true_eq, bne_iff_ne]; omega
    rw [e0, e1, e2, Bool.true_and]
    generalize (((!decide ((r.vars.length : Int) ≥ 1)) || ((r.kind != 1) && (((r.coefs.length : Int) != 0) || (r.bound != 0)))) || ((r.kind != 3) && ((r.rows.length : Int) != 0))) = c
    cases c with
    | true => rfl
    | false =>
      rw [if_neg Bool.false_ne_true, if_neg Bool.false_ne_true, i_coefs, i_rows, within_eq]
      cases hk1 : r.kind == 1 with
      | true =>
        rw [if_pos rfl, if_pos rfl]
        have e3 : decide (-1000 ≤ r.bound) = decide (r.bound ≥ -1000) := rfl
        rw [e3]
        cases (r.coefs.length : Int) == (r.vars.length : Int) <;> cases decide (r.bound ≥ -1000) <;> cases decide (r.bound ≤ 1000) <;> cases r.coefs.all qCoef <;> rfl
      | false =>
        rw [if_neg Bool.false_ne_true, if_neg Bool.false_ne_true]
        cases hk2 : r.kind == 2 with
        | true =>
          have hk : r.kind = 2 := by simpa using hk2
          rw [hk]; rfl
        | false =>
          rw [if_neg Bool.false_ne_true]
          cases hk3 : r.kind == 3 with
          | true =>
            rw [if_pos rfl, if_pos rfl]
            cases decide ((r.rows.length : Int) ≤ 8) <;> cases r.rows.all (qRow r.vars.length) <;> rfl
          | false =>
            rw [if_neg Bool.false_ne_true, if_neg Bool.false_ne_true]
            cases hk4 : r.kind == 4 with
            | true => rfl
            | false => rfl
end Go.L

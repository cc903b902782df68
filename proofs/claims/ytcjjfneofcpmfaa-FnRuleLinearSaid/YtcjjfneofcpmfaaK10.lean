/- The laws on rules of drawn models. -/
import Derived.Test.YtcjjfneofcpmfaaK9
namespace Go.L
open Go Go.E
set_option linter.unusedVariables false
set_option linter.unusedSimpArgs false
set_option maxRecDepth 100000

theorem holdsAt_of {m : Model} {cells : List Int} (hc : okCells m cells = true) {i : Nat} {r : Rule} (hr : m.rules[i]? = some r) : holdsAt m (i : Int) cells = ruleHolds r (valsOf r cells) := by
  have hi := (List.getElem?_eq_some_iff.1 hr).1
  unfold holdsAt
  rw [hc, Int.toNat_natCast, hr]
  simp
  omega
theorem FnRuleLess_ok (code : List UInt8) (g0 : code.length ≤ 9223372036854775807 ∧ ∀ x ∈ code, True) : ∃ fu, l_FnRuleLess fu code = some true := by
  refine ⟨FU, ?_⟩
  unfold l_FnRuleLess
  split
  · rfl
  refine anyB_intro (drawRuleHolds_ok code FU (Nat.le_refl _)) (o0 := (⟨[], []⟩, 0, [])) ⟨s0, by simp [sOut]⟩ fun x hx => ?_
  obtain ⟨m, _, cells⟩ := x
  simp only at hx ⊢
  have hs := small_s hx.1
  split
  · rfl
  rename_i hl2
  simp only [decide_eq_true_eq] at hl2
  generalize hM : ({ sizes := m.sizes, rules := [({ kind := 4, vars := [0, 1], coefs := [], bound := 0, rows := [] } : Rule), ({ kind := 4, vars := [1, 0], coefs := [], bound := 0, rows := [] } : Rule), ({ kind := 1, vars := [0, 1], coefs := [(-1), 1], bound := 1, rows := [] } : Rule)] } : Model) = M
  have hS : smallM M := by
    subst hM
    refine ⟨hs.1, by simp, fun r hr => ?_⟩
    simp at hr
    rcases hr with rfl | rfl | rfl <;> exact ⟨by simp, by simp, by simp, by simp⟩
  rw [i_ruleHolds M hS, i_ruleHolds M hS, i_ruleHolds M hS, s_ruleHolds M hS FU (Nat.le_refl _), s_ruleHolds M hS FU (Nat.le_refl _), i_cells M hS]
  simp only [Option.bind_some, bne_self_eq_false, Bool.false_eq_true, if_false, beq_self_eq_true, if_true]
  cases hc : okCells M cells with
  | false => rfl
  | true =>
    simp only [Bool.not_true, Bool.false_eq_true, if_false]
    have hfit := cellsIn_iff.1 (okCells_parts hc).2
    have hlen : cells.length = m.sizes.length := by rw [hfit.1, ← hM]
    have h0 : 0 < cells.length := by omega
    have h1 : 1 < cells.length := by omega
    have e0 := holdsAt_of hc (i := 0) (r := { kind := 4, vars := [0, 1], coefs := [], bound := 0, rows := [] }) (by rw [← hM]; rfl)
    have e1 := holdsAt_of hc (i := 1) (r := { kind := 4, vars := [1, 0], coefs := [], bound := 0, rows := [] }) (by rw [← hM]; rfl)
    have e2 := holdsAt_of hc (i := 2) (r := { kind := 1, vars := [0, 1], coefs := [(-1), 1], bound := 1, rows := [] }) (by rw [← hM]; rfl)
    have d0 : cells.getD 0 0 = cells[0] := by simp [List.getD_eq_getElem?_getD, h0]
    have d1 : cells.getD 1 0 = cells[1] := by simp [List.getD_eq_getElem?_getD, h1]
    have f0 : holdsAt M 0 cells = decide (cells[0] < cells[1]) := by
      show holdsAt M ((0 : Nat) : Int) cells = _
      rw [e0]
      show decide (cells.getD 0 0 < cells.getD 1 0) = _
      rw [d0, d1]
    have f1 : holdsAt M 1 cells = decide (cells[1] < cells[0]) := by
      show holdsAt M ((1 : Nat) : Int) cells = _
      rw [e1]
      show decide (cells.getD 1 0 < cells.getD 0 0) = _
      rw [d0, d1]
    have f2 : holdsAt M 2 cells = decide (cells[0] < cells[1]) := by
      show holdsAt M ((2 : Nat) : Int) cells = _
      rw [e2]
      show decide (0 + (-1) * cells.getD 0 0 + 1 * cells.getD 1 0 ≥ 1) = _
      rw [d0, d1, decide_eq_decide]
      omega
    have i0 : idx cells 0 = some cells[0] := idx_lt (i := 0) h0
    have i1 : idx cells 1 = some cells[1] := idx_lt (i := 1) h1
    rw [f0, f1, f2, i0, i1]
    simp only [Option.bind_some]
    rcases Int.lt_trichotomy cells[0] cells[1] with h | h | h
    · have n1 : ¬ cells[1] < cells[0] := by omega
      have n2 : cells[0] ≠ cells[1] := by omega
      simp [h, n1, n2]
    · simp [h]
    · have n1 : ¬ cells[0] < cells[1] := by omega
      have n2 : cells[0] ≠ cells[1] := by omega
      simp [h, n1, n2]
theorem dot_neg (cs vs : List Int) : dot (cs.map fun x => -x) vs = - dot cs vs := by
  have key : ∀ (cs vs : List Int) (a : Int), ((cs.map fun x => -x).zip vs).foldl (fun n p => n + p.1 * p.2) (-a) = - (cs.zip vs).foldl (fun n p => n + p.1 * p.2) a := by
    intro cs
    induction cs with
    | nil => intro vs a; simp
    | cons c cs ih =>
      intro vs a
      cases vs with
      | nil => simp
      | cons v vs =>
        simp only [List.map_cons, List.zip_cons_cons, List.foldl_cons]
        rw [← ih vs (a + c * v)]
        congr 1
        rw [Int.neg_mul]; omega
  have := key cs vs 0
  simpa [dot] using this
theorem okRule_linear {n : Nat} {r : Rule} (h : okRule n r = true) (hk : r.kind = 1) : okVars n r.vars = true ∧ 1 ≤ r.vars.length ∧ r.coefs.all qCoef = true ∧ r.coefs.length = r.vars.length ∧ -1000 ≤ r.bound ∧ r.bound ≤ 1000 := by
  unfold okRule at h
  rw [hk] at h
  simp at h
  refine ⟨h.1.1.1, by have := h.1.1.2; omega, ?_, by have := h.2.2.1.1; omega, h.2.2.1.2, h.2.2.2⟩
  rw [List.all_eq_true]
  exact h.2.1
theorem okRule_of {n : Nat} {r : Rule} (hk : r.kind = 1) (hr : r.rows = []) (h1 : okVars n r.vars = true) (h2 : 1 ≤ r.vars.length) (h3 : r.coefs.all qCoef = true) (h4 : r.coefs.length = r.vars.length) (h5 : -1000 ≤ r.bound) (h6 : r.bound ≤ 1000) : okRule n r = true := by
  unfold okRule
  rw [hk, hr, h1]
  rw [List.all_eq_true] at h3
  simp [h4, h5, h6]
  exact ⟨by omega, h3⟩
theorem FnRuleLinear_ok (code : List UInt8) (g0 : code.length ≤ 9223372036854775807 ∧ ∀ x ∈ code, True) : ∃ fu, l_FnRuleLinear fu code = some true := by
  refine ⟨FU, ?_⟩
  unfold l_FnRuleLinear
  split
  · rfl
  refine anyB_intro (drawRuleHolds_ok code FU (Nat.le_refl _)) (o0 := (⟨[], []⟩, 0, [])) ⟨s0, by simp [sOut]⟩ fun x hx => ?_
  obtain ⟨m, rule, cells⟩ := x
  simp only at hx ⊢
  have hs := small_s hx.1
  rw [i_ruleHolds m hs, s_ruleHolds m hs FU (Nat.le_refl _), i_cells m hs]
  simp only [Option.bind_some, bne_self_eq_false, Bool.false_eq_true, if_false, beq_self_eq_true, if_true]
  cases hc : okCells m cells with
  | false => simp
  | true =>
    simp only [Bool.not_true, Bool.false_or]
    by_cases hr : 0 ≤ rule ∧ rule < (m.rules.length : Int)
    · obtain ⟨k, rfl⟩ : ∃ k : Nat, rule = (k : Int) := ⟨rule.toNat, by omega⟩
      have hk : k < m.rules.length := by omega
      have e1 : ((decide ((k : Int) < 0)) || (decide ((k : Int) ≥ (m.rules.length : Int)))) = false := by simp; omega
      rw [e1, idx_lt hk]
      simp only [Bool.false_eq_true, if_false, Option.bind_some]
      by_cases hkind : m.rules[k].kind = 1
      · rw [hkind]
        simp only [bne_self_eq_false, Bool.false_eq_true, if_false, Option.bind_some]
        by_cases hbd : m.rules[k].bound = -1000
        · rw [hbd]; rfl
        · have e2 : (m.rules[k].bound == -1000) = false := by simpa using hbd
          rw [e2]
          simp only [Bool.false_eq_true, if_false]
          obtain ⟨hm, hci⟩ := okCells_parts hc
          have hmem := List.getElem_mem hk
          obtain ⟨v1, v2, c1, c2, b1, b2⟩ := okRule_linear (okRule_mem hm hmem) hkind
          have hsr := hs.2.2 _ hmem
          have hq : ∀ x ∈ m.rules[k].coefs, -9 ≤ x ∧ x ≤ 9 ∧ x ≠ 0 := fun x hx => by
            have := List.all_eq_true.1 c1 x hx
            unfold qCoef at this
            simp at this
            omega
          have hloop : rangeL l_FnRuleLinear_b1 m.rules[k].coefs 0 ([] : List Int) = some (.nx (m.rules[k].coefs.map fun x => -x)) := by
            refine range_map (fun x => -x) _ fun i x out hx ho => ?_
            have hi := (List.getElem?_eq_some_iff.1 hx).1
            have := hq x (List.mem_of_getElem? hx)
            have hl := hsr.2.1
            show (app out [i64 (-x)]).bind _ = _
            rw [i64_id (by omega) (by omega), app_le (by simp; omega)]
            rfl
          rw [hloop, Option.bind_some]
          simp only
          rw [i64_id (n := 1 - m.rules[k].bound) (by omega) (by omega)]
          generalize hM : ({ sizes := m.sizes, rules := [({ kind := 1, vars := m.rules[k].vars, coefs := m.rules[k].coefs.map (fun x => -x), bound := 1 - m.rules[k].bound, rows := [] } : Rule)] } : Model) = M
          have hS : smallM M := by
            subst hM
            refine ⟨hs.1, by simp, fun r hr => ?_⟩
            simp at hr
            subst hr
            exact ⟨hsr.1, by simp; exact hsr.2.1, by simp, by simp⟩
          rw [i_ruleHolds M hS]
          obtain ⟨p1, p5, pa, _, pg, _⟩ := okModel_parts hm
          have hokM : okModel M = true := by
            subst hM
            unfold okModel
            rw [if_neg (by simp; omega)]
            simp only
            rw [pa, Bool.true_and, List.all_eq_true]
            intro r hr
            simp at hr
            subst hr
            refine okRule_of rfl rfl v1 v2 ?_ (by simp; exact c2) (by simp only; omega) (by simp only; omega)
            rw [List.all_eq_true]
            intro x hx
            obtain ⟨y, hy, rfl⟩ := List.mem_map.1 hx
            have := hq y hy
            unfold qCoef
            simp; omega
          have hcM : okCells M cells = true := by
            unfold okCells
            rw [hokM, Bool.true_and]
            rw [cellsIn_iff] at hci ⊢
            subst hM
            exact hci
          have f1 := holdsAt_of hcM (i := 0) (r := { kind := 1, vars := m.rules[k].vars, coefs := m.rules[k].coefs.map (fun x => -x), bound := 1 - m.rules[k].bound, rows := [] }) (by rw [← hM]; rfl)
          have f2 := holdsAt_of hc (i := k) (List.getElem?_eq_getElem hk)
          have f1' : holdsAt M 0 cells = decide (dot (m.rules[k].coefs.map fun x => -x) (valsOf m.rules[k] cells) ≥ 1 - m.rules[k].bound) := by
            show holdsAt M ((0 : Nat) : Int) cells = _
            rw [f1]; rfl
          have f2' : holdsAt m (k : Int) cells = decide (dot m.rules[k].coefs (valsOf m.rules[k] cells) ≥ m.rules[k].bound) := by
            rw [f2]; unfold ruleHolds; rw [hkind]; rfl
          rw [f1', f2', dot_neg]
          simp only [Option.bind_some, Option.some.injEq, beq_iff_eq]
          rw [← decide_not, decide_eq_decide]
          omega
      · have e2 : (m.rules[k].kind != 1) = true := by simpa using hkind
        rw [e2]
        simp
    · have e1 : ((decide (rule < 0)) || (decide (rule ≥ (m.rules.length : Int)))) = true := by simp; omega
      rw [e1]
      simp
end Go.L

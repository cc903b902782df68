/- Rules that are valid: both sides. -/
import Derived.Test.YteojddfaiomfmaaL4
namespace Go.L
open Go Go.E
set_option linter.unusedVariables false

def gqVars (n : Nat) (xs : List Int) : Nat → Int → Bool := fun i x => decide (0 ≤ x) && decide (x < (n : Int)) && !(xs.take i).contains x
def okVars (n : Nat) (xs : List Int) : Bool := allFrom (gqVars n xs) xs 0
theorem notin_all (xs : List Int) (v : Int) : (!xs.contains v) = xs.all (fun y => !(y == v)) := by
  rw [Bool.eq_iff_iff]
  simp only [Bool.not_eq_true', List.all_eq_true, beq_eq_false_iff_ne, ne_eq]
  constructor
  · intro h y hy e; subst e; simp [hy] at h
  · intro h; simp; intro hv; exact h v hv rfl
theorem vars_inner (xs : List Int) (i : Nat) (hi : i < xs.length) (hx : xs.length ≤ ML) (v : Int) :
    EvW (fun _ => s_l6Vars_b2 xs (i : Int) v) 0 (if !(xs.take i).contains v then .nx (i : Int) else .out (.out false)) := by
  have hl : (xs.take i).length = i := by simp; omega
  have h := all_while (τ := Lo Int Bool) (fun _ y => !(y == v)) (xs.take i) (by rw [hl]; omega) (.out false) (fun _ => s_l6Vars_b2 xs (i : Int) v)
    (by
      intro k x hk hxk
      rw [hl] at hk
      have hxk' : xs[k]? = some x := by rw [List.getElem?_take_of_lt hk] at hxk; exact hxk
      refine Ev.of fun fu => ?_
      show (if _ then _ else _) = _
      rw [if_pos (by simp; omega), idx_nat, hxk', i64s (n := xs.length) (by omega) hx]
      show (if _ then _ else _) = _
      cases x == v <;> rfl)
    (by
      intro fu
      show (if _ then _ else _) = _
      rw [if_neg (by simp; omega)])
  rw [allFrom_const, ← notin_all, hl] at h
  exact h
theorem s_vars (m : Model) (xs : List Int) (hx : xs.length ≤ ML) : Ev (fun fu => s_l6Vars fu m xs) (okVars m.sizes.length xs && decide ((xs.length : Int) ≥ 1)) := by
  unfold s_l6Vars
  have h := all_while (τ := Bool) (gqVars m.sizes.length xs) xs hx false (fun fu => s_l6Vars_b1 fu m xs)
    (by
      intro i x hi hxi
      have hi1 := vars_inner xs i hi hx x
      refine Ev.congr (g := fun fu => if ((decide (x < 0)) || (decide (x ≥ (m.sizes.length : Int)))) then (some (.out false)) else (((whileL (s_l6Vars_b2 xs (i : Int) x) fu 0) : Option (Jn (Int) (Lo (Int) (Bool)))).bind fun j => match j with | .nx k_33 => (some (.cont (i64 ((i : Int) + 1)))) | .out t => some t)) ?_ fun fu => by
        show (if _ then _ else _) = _
        rw [if_pos (by simp; omega), idx_nat, hxi]
        rfl
      refine Ev.ite (fun hc => ?_) fun hc => ?_
      · have : gqVars m.sizes.length xs i x = false := by
          simp at hc
          unfold gqVars
          rcases hc with hc | hc
          · simp [show ¬ (0 ≤ x) by omega]
          · simp [show ¬ (x < (m.sizes.length : Int)) by omega]
        rw [this]
        exact Ev.ret _
      · simp at hc
        have hq : gqVars m.sizes.length xs i x = !(xs.take i).contains x := by
          unfold gqVars
          simp [hc.1, hc.2]
        rw [hq]
        cases hn : !(xs.take i).contains x with
        | true =>
          rw [hn] at hi1
          exact hi1.ev.bind (Ev.of fun fu => by rw [i64s hi hx]; rfl)
        | false =>
          rw [hn] at hi1
          exact hi1.ev.bind (Ev.ret _))
    (by
      intro fu
      show (if _ then _ else _) = _
      rw [if_neg (by simp)])
  refine h.ev.bind ?_
  unfold okVars
  cases allFrom (gqVars m.sizes.length xs) xs 0 with
  | true => exact Ev.ret _
  | false => exact Ev.ret _
theorem i_vars (r : Rule) (n : Nat) (hn : n ≤ ML) (hx : r.vars.length ≤ ML) : rangeL (i_ruleValid_b1 r (n : Int)) r.vars 0 () = some (if okVars n r.vars then .nx () else .out false) := by
  refine all_range (gqVars n r.vars) false _ r.vars ?_ r.vars 0 rfl
  intro i x hxi
  have hi : i < r.vars.length := (List.getElem?_eq_some_iff.1 hxi).1
  show ((i_within x 0 (i64 ((n : Int) - 1))).bind _ : Option (Lo Unit Bool)) = _
  have hn' : (n : Int) ≤ 9223372036854775807 := by unfold ML at hn; omega
  rw [i64_id (by omega) (by omega), within_eq, Option.bind_some, sl_pre (by omega), Option.bind_some, containsInt]
  unfold gqVars
  have e : decide (x ≤ (n : Int) - 1) = decide (x < (n : Int)) := by rw [decide_eq_decide]; omega
  rw [e]
  cases decide (0 ≤ x) <;> cases decide (x < (n : Int)) <;> cases (r.vars.take i).contains x <;> rfl
def qCoef (x : Int) : Bool := decide (-9 ≤ x) && decide (x ≤ 9) && !(x == 0)
theorem s_linear (r : Rule) (hx : r.coefs.length ≤ ML) : Ev (fun fu => s_l6Linear fu r) (r.coefs.all qCoef && ((((r.coefs.length : Int) == (r.vars.length : Int)) && decide (r.bound ≥ -1000)) && decide (r.bound ≤ 1000))) := by
  unfold s_l6Linear
  have h := all_while (τ := Bool) (fun _ => qCoef) r.coefs hx false (fun _ => s_l6Linear_b1 r)
    (by
      intro i x hi hxi
      refine Ev.of fun fu => ?_
      show (if _ then _ else _) = _
      rw [if_pos (by simp; omega), idx_nat, hxi, i64s hi hx]
      show (if _ then _ else _) = _
      unfold qCoef
      have e1 : decide (x < -9) = !decide (-9 ≤ x) := by rw [← decide_not, decide_eq_decide]; omega
      have e2 : decide (x > 9) = !decide (x ≤ 9) := by rw [← decide_not, decide_eq_decide]; omega
      rw [e1, e2]
      cases decide (-9 ≤ x) <;> cases decide (x ≤ 9) <;> cases x == 0 <;> rfl)
    (by
      intro fu
      show (if _ then _ else _) = _
      rw [if_neg (by simp)])
  rw [allFrom_const] at h
  refine h.ev.bind ?_
  cases r.coefs.all qCoef with
  | true => exact Ev.ret _
  | false => exact Ev.ret _
def qRow (n : Nat) (row : List Int) : Bool := ((row.length : Int) == (n : Int)) && row.all (fun x => decide (0 ≤ x) && decide (x ≤ 3))
theorem s_table (r : Rule) (hx : r.rows.length ≤ ML) (hel : ∀ x ∈ r.rows, x.length ≤ ML) : Ev (fun fu => s_l6Table fu r) (r.rows.all (qRow r.vars.length) && decide ((r.rows.length : Int) ≤ 8)) := by
  unfold s_l6Table
  have h := all_while (τ := Bool) (fun _ => qRow r.vars.length) r.rows hx false (fun fu => s_l6Table_b1 fu r)
    (by
      intro i row hi hxi
      have hrow : row.length ≤ ML := hel row (List.mem_of_getElem? hxi)
      have hin := all_while (τ := Lo Int Bool) (fun _ x => decide (0 ≤ x) && decide (x ≤ 3)) row hrow (.out false) (fun _ => s_l6Table_b2 row)
        (by
          intro k x hk hxk
          refine Ev.of fun fu => ?_
          show (if _ then _ else _) = _
          rw [if_pos (by simp; omega), idx_nat, hxk, i64s hk hrow]
          show (if _ then _ else _) = _
          have e1 : decide (x < 0) = !decide (0 ≤ x) := by rw [← decide_not, decide_eq_decide]; omega
          have e2 : decide (x > 3) = !decide (x ≤ 3) := by rw [← decide_not, decide_eq_decide]; omega
          rw [e1, e2]
          cases decide (0 ≤ x) <;> cases decide (x ≤ 3) <;> rfl)
        (by
          intro fu
          show (if _ then _ else _) = _
          rw [if_neg (by simp)])
      rw [allFrom_const] at hin
      refine Ev.congr (g := fun fu => if ((row.length : Int) != (r.vars.length : Int)) then (some (.out false)) else (((whileL (s_l6Table_b2 row) fu 0) : Option (Jn (Int) (Lo (Int) (Bool)))).bind fun j => match j with | .nx k_20 => (some (.cont (i64 ((i : Int) + 1)))) | .out t => some t)) ?_ fun fu => by
        show (if _ then _ else _) = _
        rw [if_pos (by simp; omega), idx_nat, hxi]
        rfl
      unfold qRow
      refine Ev.ite (fun hc => ?_) fun hc => ?_
      · have : ((row.length : Int) == (r.vars.length : Int)) = false := by simpa [bne] using hc
        rw [this]; exact Ev.ret _
      · have : ((row.length : Int) == (r.vars.length : Int)) = true := by simpa [bne] using hc
        rw [this, Bool.true_and]
        cases hq : row.all (fun x => decide (0 ≤ x) && decide (x ≤ 3)) with
        | true =>
          rw [hq] at hin
          exact hin.ev.bind (Ev.of fun fu => by rw [i64s hi hx]; rfl)
        | false =>
          rw [hq] at hin
          exact hin.ev.bind (Ev.ret _))
    (by
      intro fu
      show (if _ then _ else _) = _
      rw [if_neg (by simp)])
  rw [allFrom_const] at h
  refine h.ev.bind ?_
  cases r.rows.all (qRow r.vars.length) with
  | true => exact Ev.ret _
  | false => exact Ev.ret _
end Go.L

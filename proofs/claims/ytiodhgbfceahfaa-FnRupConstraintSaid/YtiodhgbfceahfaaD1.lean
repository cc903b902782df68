/- Part of a proof by program: D1. -/
import Derived.Test.YtiodhgbfceahfaaG11
namespace Go.L
open Go Go.E
set_option linter.unusedVariables false
def s_l1Lit (n_ : Int) : Option (Bool) :=
  some (((n_ != 0) && (decide (n_ ≥ (-12)))) && (decide (n_ ≤ 12)))
def s_l1Abs (n_ : Int) : Option (Int) :=
  if decide (n_ < 0) then (some (i64 (-n_))) else (some n_)
def s_ConstraintValid_b1 (c : Con) (i_5 : Nat) (x_8 : Term) : (Unit) → Option (Lo (Unit) (Bool))
  | () => (s_l1Lit x_8.lit).bind fun x29 => (if (((!x29) || (decide (x_8.coef < 1))) || (decide (x_8.coef > 1000))) then some true else ((if decide ((i_5 : Int) > 0) then ((idx c.terms (i64 ((i_5 : Int) - 1))).bind fun x31 => (s_l1Abs x31.lit).bind fun x41 => (s_l1Abs x_8.lit).bind fun x48 => some (decide (x41 ≥ x48))) else some false).bind fun b50 => some b50)).bind fun b51 => if b51 then (some (.out false)) else (some (.cont ()))
def s_ConstraintValid (c : Con) : Option (Bool) :=
  ((rangeL (s_ConstraintValid_b1 c) c.terms 0 ()) : Option (Jn (Unit) (Bool))).bind fun j => match j with | .nx _ => (some ((decide (c.bound ≥ 0)) && (decide (c.bound ≤ 20000)))) | .out t => some t
def s_ProblemValid_b1 (_i_1 : Nat) (x_2 : Con) : (Unit) → Option (Lo (Unit) (Bool))
  | () => (s_ConstraintValid x_2).bind fun x13 => if (!x13) then (some (.out false)) else (some (.cont ()))
def s_ProblemValid (list : List Con) : Option (Bool) :=
  ((rangeL s_ProblemValid_b1 list 0 ()) : Option (Jn (Unit) (Bool))).bind fun j => match j with | .nx _ => (some (decide ((list.length : Int) ≤ 400))) | .out t => some t
def s_WeakenConstraint_b1 (variable_ : Int) (_i_36 : Nat) (x_42 : Term) : ((List Term) × Int) → Option (Lo ((List Term) × Int) (Con × Bool))
  | (g33_0_37, g33_1_39) => (s_l1Abs x_42.lit).bind fun x54 => ((if (x54 == variable_) then (some (g33_0_37, i64 (g33_1_39 - x_42.coef))) else ((app g33_0_37 ([x_42])).bind fun x99 => some (x99, g33_1_39))) : Option ((List Term) × Int)).bind fun (g33_0_66, g33_1_68) => some (.cont (g33_0_66, g33_1_68))
def s_WeakenConstraint (c : Con) (variable_ : Int) : Option (Con × Bool) :=
  (s_ConstraintValid c).bind fun x14 => if (((!x14) || (decide (variable_ < 1))) || (decide (variable_ > 12))) then (some (({ terms := [], bound := 0 } : Con), false)) else (((rangeL (s_WeakenConstraint_b1 variable_) c.terms 0 ([], c.bound)) : Option (Jn ((List Term) × Int) (Con × Bool))).bind fun j => match j with | .nx (g33_0_37, g33_1_39) => (((if decide (g33_1_39 < 0) then (some 0) else (some g33_1_39)) : Option (Int)).bind fun g33_1_126 => some (({ terms := g33_0_37, bound := g33_1_126 } : Con), true)) | .out t => some t)
def s_l1Total_b1 (_i_5 : Nat) (x_7 : Term) : (Int) → Option (Lo (Int) (Int))
  | n_6 => some (.cont (i64 (n_6 + x_7.coef)))
def s_l1Total (c : Con) : Option (Int) :=
  ((rangeL s_l1Total_b1 c.terms 0 0) : Option (Jn (Int) (Int))).bind fun j => match j with | .nx n_6 => (some n_6) | .out t => some t
def s_NegateConstraint_b1 (_i_55 : Nat) (x_60 : Term) : (List Term) → Option (Lo (List Term) (Con × Bool))
  | g53_0_56 => (app g53_0_56 ([({ coef := x_60.coef, lit := i64 (-x_60.lit) } : Term)])).bind fun x74 => some (.cont x74)
def s_NegateConstraint (c : Con) : Option (Con × Bool) :=
  (s_ConstraintValid c).bind fun x14 => if (!x14) then (some (({ terms := [], bound := 0 } : Con), false)) else ((s_l1Total c).bind fun x31 => ((rangeL s_NegateConstraint_b1 c.terms 0 ([])) : Option (Jn (List Term) (Con × Bool))).bind fun j => match j with | .nx g53_0_56 => (((if decide ((i64 ((i64 (x31 - c.bound)) + 1)) < 0) then (some 0) else (some (i64 ((i64 (x31 - c.bound)) + 1)))) : Option (Int)).bind fun g53_1_115 => some (({ terms := g53_0_56, bound := g53_1_115 } : Con), true)) | .out t => some t)
def s_l3State (p : List Int) (lit : Int) : Option (Int) :=
  if decide (lit > 0) then ((idx p (i64 (lit - 1))).bind fun x2 => some x2) else ((idx p (i64 ((i64 (-lit)) - 1))).bind fun x11 => some (i64 (-x11)))
def s_l3Slack_b1 (p : List Int) (_i_5 : Nat) (x_7 : Term) : (Int) → Option (Lo (Int) (Int))
  | n_6 => (s_l3State p x_7.lit).bind fun x18 => ((if decide (x18 ≥ 0) then (some (i64 (n_6 + x_7.coef))) else (some n_6)) : Option (Int)).bind fun n_30 => some (.cont n_30)
def s_l3Slack (c : Con) (p : List Int) : Option (Int) :=
  ((rangeL (s_l3Slack_b1 p) c.terms 0 (i64 (-c.bound))) : Option (Jn (Int) (Int))).bind fun j => match j with | .nx n_6 => (some n_6) | .out t => some t
def s_l3Implied_b1 (c : Con) (p : List Int) (x16 : Int) : ((List Int) × Int) → Option (Lo ((List Int) × Int) (List Int))
  | (out_27, i_29) => if ((decide (i_29 < (c.terms.length : Int))) && (decide (x16 ≥ 0))) then ((idx c.terms i_29).bind fun x34 => (s_l3State p x34.lit).bind fun x44 => ((if ((x44 == 0) && (decide (x34.coef > x16))) then ((app out_27 ([x34.lit])).bind fun x77 => some x77) else (some out_27)) : Option (List Int)).bind fun out_66 => some (.cont (out_66, i64 (i_29 + 1)))) else (some (.brk (out_27, i_29)))
def s_l3Implied (fu : Nat) (c : Con) (p : List Int) : Option (List Int) :=
  (s_l3Slack c p).bind fun x16 => ((whileL (s_l3Implied_b1 c p x16) fu ([], 0)) : Option (Jn ((List Int) × Int) (List Int))).bind fun j => match j with | .nx (out_27, i_29) => (some out_27) | .out t => some t
def s_l3Assign (p : List Int) (lit : Int) : Option (List Int) :=
  ((if decide (lit > 0) then ((idx p (i64 (lit - 1))).bind fun x4 => some (p.set (Int.toNat (i64 (lit - 1))) 1)) else ((idx p (i64 ((i64 (-lit)) - 1))).bind fun x11 => some (p.set (Int.toNat (i64 ((i64 (-lit)) - 1))) (-1)))) : Option (List Int)).bind fun kp_1 => some kp_1
def s_l3Propagate_b3 (_i_60 : Nat) (x_63 : Int) : ((List Int) × Bool) → Option (Lo ((List Int) × Bool) (Lo ((List Int) × Bool) (Lo ((List Int) × Bool) (Int × (List Int)))))
  | (p_61, changed_62) => (s_l3Assign p_61 x_63).bind fun x74 => some (.cont (x74, true))
def s_l3Propagate_b2 (fu : Nat) (i_6 : Nat) (x_9 : Con) : ((List Int) × Bool) → Option (Lo ((List Int) × Bool) (Lo ((List Int) × Bool) (Int × (List Int))))
  | (p_7, changed_8) => (s_l3Slack x_9 p_7).bind fun x21 => if decide (x21 < 0) then (some (.out (.out ((i_6 : Int), p_7)))) else ((s_l3Implied fu x_9 p_7).bind fun x45 => ((rangeL s_l3Propagate_b3 x45 0 (p_7, changed_8)) : Option (Jn ((List Int) × Bool) (Lo ((List Int) × Bool) (Lo ((List Int) × Bool) (Int × (List Int)))))).bind fun j => match j with | .nx (p_61, changed_62) => (some (.cont (p_61, changed_62))) | .out t => some t)
def s_l3Propagate_b1 (fu : Nat) (list : List Con) : ((List Int) × Bool) → Option (Lo ((List Int) × Bool) (Int × (List Int)))
  | (p_2, changed_3) => if changed_3 then (((rangeL (s_l3Propagate_b2 fu) list 0 (p_2, false)) : Option (Jn ((List Int) × Bool) (Lo ((List Int) × Bool) (Int × (List Int))))).bind fun j => match j with | .nx (p_7, changed_8) => (some (.cont (p_7, changed_8))) | .out t => some t) else (some (.brk (p_2, changed_3)))
def s_l3Propagate (fu : Nat) (list : List Con) (p : List Int) : Option (Int × (List Int)) :=
  ((whileL (s_l3Propagate_b1 fu list) fu (p, true)) : Option (Jn ((List Int) × Bool) (Int × (List Int)))).bind fun j => match j with | .nx (p_2, changed_3) => (some ((-1), p_2)) | .out t => some t
def s_l3Rup (fu : Nat) (list : List Con) (c : Con) : Option (Bool) :=
  (s_NegateConstraint c).bind fun x10 => (app ([]) list).bind fun x29 => (app x29 ([x10.1])).bind fun x36 => (mkN 12 0).bind fun x69 => (s_l3Propagate fu x36 x69).bind fun x79 => some (decide (x79.1 ≥ 0))
def s_l1Copy (c : Con) : Option (Con) :=
  (app ([]) c.terms).bind fun x12 => some ({ terms := x12, bound := c.bound } : Con)
def slices_IndexFunc_implConstraint_b1 (f_ : (Con → Option Bool)) (i_1 : Nat) (x_2 : Con) : (Unit) → Option (Lo (Unit) (Int))
  | () => (f_ x_2).bind fun x8 => if x8 then (some (.out (i_1 : Int))) else (some (.cont ()))
def slices_IndexFunc_implConstraint (s : List Con) (f_ : (Con → Option Bool)) : Option (Int) :=
  ((rangeL (slices_IndexFunc_implConstraint_b1 f_) s 0 ()) : Option (Jn (Unit) (Int))).bind fun j => match j with | .nx _ => (some (-1)) | .out t => some t
def slices_ContainsFunc_implConstraint (s : List Con) (f_ : (Con → Option Bool)) : Option (Bool) :=
  (slices_IndexFunc_implConstraint s f_).bind fun x6 => some (decide (x6 ≥ 0))
def i_within (n_ : Int) (low : Int) (high : Int) : Option (Bool) :=
  some ((decide (low ≤ n_)) && (decide (n_ ≤ high)))
def i_isLiteral (l : Int) : Option (Bool) :=
  (if (l != 0) then ((i_within l (-12) 12).bind fun x6 => some x6) else some false).bind fun b8 => some b8
def i_variableOf (l : Int) : Option (Int) :=
  some (max l (i64 (-l)))
def i_ConstraintValid_b1 (_i_5 : Nat) (x_7 : Term) : (Int) → Option (Lo (Int) (Bool))
  | before_6 => (i_isLiteral x_7.lit).bind fun x28 => (if (!x28) then some true else ((i_variableOf x_7.lit).bind fun x35 => some (decide (x35 ≤ before_6)))).bind fun b37 => (if b37 then some true else ((i_within x_7.coef 1 1000).bind fun x43 => some (!x43))).bind fun b45 => if b45 then (some (.out false)) else ((i_variableOf x_7.lit).bind fun x80 => some (.cont x80))
def i_ConstraintValid (c : Con) : Option (Bool) :=
  ((rangeL i_ConstraintValid_b1 c.terms 0 0) : Option (Jn (Int) (Bool))).bind fun j => match j with | .nx before_6 => ((i_within c.bound 0 20000).bind fun x93 => some x93) | .out t => some t
def i_allValid_1 (c : Con) : Option (Bool) :=
  (i_ConstraintValid c).bind fun x10 => some (!x10)
def i_allValid (list : List Con) : Option (Bool) :=
  (slices_ContainsFunc_implConstraint list i_allValid_1).bind fun x6 => some (!x6)
def i_ProblemValid (list : List Con) : Option (Bool) :=
  (if decide ((list.length : Int) ≤ 400) then ((i_allValid list).bind fun x6 => some x6) else some false).bind fun b8 => some b8
def slices_Clone_implConstraint (s : List Con) : Option (List Con) :=
  (app ([]) s).bind fun x7 => some x7
def slices_Clone_int (s : List Int) : Option (List Int) :=
  (app ([]) s).bind fun x7 => some x7
def i_under (l : Int) (p : List Int) : Option (Int) :=
  if decide (l < 0) then ((idx p (i64 ((i64 (-l)) - 1))).bind fun x2 => some (i64 (-x2))) else ((idx p (i64 (l - 1))).bind fun x11 => some x11)
def i_Constraint_slack_b1 (p : List Int) (_i_5 : Nat) (x_7 : Term) : (Int) → Option (Lo (Int) (Int))
  | out_6 => (i_under x_7.lit p).bind fun x28 => ((if decide (x28 ≥ 0) then (some (i64 (out_6 + x_7.coef))) else (some out_6)) : Option (Int)).bind fun out_36 => some (.cont out_36)
def i_Constraint_slack (c : Con) (p : List Int) : Option (Int) :=
  ((rangeL (i_Constraint_slack_b1 p) c.terms 0 (i64 (-c.bound))) : Option (Jn (Int) (Int))).bind fun j => match j with | .nx out_6 => (some out_6) | .out t => some t
def i_Constraint_implied_b1 (p : List Int) (x10 : Int) (_i_18 : Nat) (x_21 : Term) : (List Int) → Option (Lo (List Int) (List Int))
  | out_19 => (i_under x_21.lit p).bind fun x43 => ((if ((x43 == 0) && (decide (x_21.coef > x10))) then ((app out_19 ([x_21.lit])).bind fun x60 => some x60) else (some out_19)) : Option (List Int)).bind fun out_53 => some (.cont out_53)
def i_Constraint_implied (c : Con) (p : List Int) : Option (List Int) :=
  (i_Constraint_slack c p).bind fun x10 => ((rangeL (i_Constraint_implied_b1 p x10) c.terms 0 ([])) : Option (Jn (List Int) (List Int))).bind fun j => match j with | .nx out_19 => (some out_19) | .out t => some t
def i_propagate_b3 (_i_73 : Nat) (x_76 : Int) : ((List Int) × Bool) → Option (Lo ((List Int) × Bool) (Lo ((List Int) × Bool) (Lo ((List Int) × Bool) ((List Int) × Int))))
  | (out_74, made_75) => ((if decide (x_76 > 0) then ((idx out_74 (i64 (x_76 - 1))).bind fun x89 => some (out_74.set (Int.toNat (i64 (x_76 - 1))) 1)) else ((idx out_74 (i64 ((i64 (-x_76)) - 1))).bind fun x96 => some (out_74.set (Int.toNat (i64 ((i64 (-x_76)) - 1))) (-1)))) : Option (List Int)).bind fun out_86 => some (.cont (out_86, true))
def i_propagate_b2 (i_21 : Nat) (x_24 : Con) : ((List Int) × Bool) → Option (Lo ((List Int) × Bool) (Lo ((List Int) × Bool) ((List Int) × Int)))
  | (out_22, made_23) => (i_Constraint_slack x_24 out_22).bind fun x46 => if decide (x46 < 0) then (some (.out (.out (out_22, (i_21 : Int))))) else ((i_Constraint_implied x_24 out_22).bind fun x62 => ((rangeL i_propagate_b3 x62 0 (out_22, made_23)) : Option (Jn ((List Int) × Bool) (Lo ((List Int) × Bool) (Lo ((List Int) × Bool) ((List Int) × Int))))).bind fun j => match j with | .nx (out_74, made_75) => (some (.cont (out_74, made_75))) | .out t => some t)
def i_propagate_b1 (list : List Con) : ((List Int) × Bool) → Option (Lo ((List Int) × Bool) ((List Int) × Int))
  | (out_17, made_18) => if made_18 then (((rangeL i_propagate_b2 list 0 (out_17, false)) : Option (Jn ((List Int) × Bool) (Lo ((List Int) × Bool) ((List Int) × Int)))).bind fun j => match j with | .nx (out_22, made_23) => (some (.cont (out_22, made_23))) | .out t => some t) else (some (.brk (out_17, made_18)))
def i_propagate (fu : Nat) (list : List Con) (p : List Int) : Option ((List Int) × Int) :=
  (slices_Clone_int p).bind fun x6 => ((whileL (i_propagate_b1 list) fu (x6, true)) : Option (Jn ((List Int) × Bool) ((List Int) × Int))).bind fun j => match j with | .nx (out_17, made_18) => (some (out_17, (-1))) | .out t => some t
def i_Constraint_total_b1 (_i_5 : Nat) (x_7 : Term) : (Int) → Option (Lo (Int) (Int))
  | sum_6 => some (.cont (i64 (sum_6 + x_7.coef)))
def i_Constraint_total (c : Con) : Option (Int) :=
  ((rangeL i_Constraint_total_b1 c.terms 0 0) : Option (Jn (Int) (Int))).bind fun j => match j with | .nx sum_6 => (some sum_6) | .out t => some t
def i_Constraint_negation_b1 (_i_38 : Nat) (x_41 : Term) : (List Term) → Option (Lo (List Term) (Con))
  | g36_0_39 => (app g36_0_39 ([({ coef := x_41.coef, lit := i64 (-x_41.lit) } : Term)])).bind fun x61 => some (.cont x61)
def i_Constraint_negation (c : Con) : Option (Con) :=
  (i_Constraint_total c).bind fun x14 => ((rangeL i_Constraint_negation_b1 c.terms 0 ([])) : Option (Jn (List Term) (Con))).bind fun j => match j with | .nx g36_0_39 => (some ({ terms := g36_0_39, bound := max 0 (i64 ((i64 (x14 - c.bound)) + 1)) } : Con)) | .out t => some t
def i_rup (fu : Nat) (list : List Con) (c : Con) : Option (Bool) :=
  (slices_Clone_implConstraint list).bind fun x5 => (i_Constraint_negation c).bind fun x13 => (app x5 ([x13])).bind fun x19 => (mkN 12 0).bind fun x25 => (i_propagate fu x19 x25).bind fun x36 => some (decide (x36.2 ≥ 0))
def s_l17Open (code : List UInt8) : Option (Rd) :=
  ((if decide ((code.length : Int) > 2000) then ((sl code 0 2000).bind fun x5 => some x5) else (some code)) : Option (List UInt8)).bind fun code_1 => some ({ b := code_1, p := 0 } : Rd)
def s_l17Rd_pick (r_ : Rd) (n_ : Int) : Option (Int × Int) :=
  if ((decide (n_ < 1)) || ((r_.b.length : Int) == 0)) then (some (0, i64 (r_.p + 1))) else (if decide ((i64 ((i64 (r_.p + 1)) - 1)) < (r_.b.length : Int)) then ((idx r_.b (i64 ((i64 (r_.p + 1)) - 1))).bind fun x7 => (if n_ = 0 then none else some ()).bind fun _ => some (Int.tmod (i64 (x7.toNat : Int)) n_, i64 (r_.p + 1))) else ((if (r_.b.length : Int) = 0 then none else some ()).bind fun _ => (idx r_.b (Int.tmod (i64 ((i64 (r_.p + 1)) - 1)) (r_.b.length : Int))).bind fun x18 => (if (r_.b.length : Int) = 0 then none else some ()).bind fun _ => (idx r_.b (Int.tmod (i64 ((i64 ((i64 ((i64 (r_.p + 1)) - 1)) * 7)) + 3)) (r_.b.length : Int))).bind fun x24 => (if (r_.b.length : Int) = 0 then none else some ()).bind fun _ => (if n_ = 0 then none else some ()).bind fun _ => some (Int.tmod (xorI .i64 (i64 ((i64 ((i64 ((i64 ((i64 (x18.toNat : Int)) * 131)) + (i64 ((i64 (x24.toNat : Int)) * 1117)))) + (i64 ((i64 ((i64 (r_.p + 1)) - 1)) * 29)))) + (i64 ((i64 (Int.tdiv (i64 ((i64 (r_.p + 1)) - 1)) (r_.b.length : Int))) * 53)))) (i64 (Int.tdiv (i64 ((i64 ((i64 ((i64 ((i64 (x18.toNat : Int)) * 131)) + (i64 ((i64 (x24.toNat : Int)) * 1117)))) + (i64 ((i64 ((i64 (r_.p + 1)) - 1)) * 29)))) + (i64 ((i64 (Int.tdiv (i64 ((i64 (r_.p + 1)) - 1)) (r_.b.length : Int))) * 53)))) 64))) n_, i64 (r_.p + 1))))
def s_l17Rd_num (r_ : Rd) (list : List Int) : Option (Int × Int) :=
  (s_l17Rd_pick r_ (list.length : Int)).bind fun x6 => (idx list x6.1).bind fun x8 => some (x8, x6.2)
def s_l1Mutate (r_ : Rd) (c : Con) : Option (Con × Int) :=
  (s_l1Copy c).bind fun x14 => (s_l17Rd_pick r_ 40).bind fun x35 => ((if (x35.1 == 0) then ((s_l17Rd_num ({ b := r_.b, p := x35.2 } : Rd) ([(-1), 20001, 9223372036854775807])).bind fun x60 => some (x60.2, x14.terms, x60.1)) else (((if (x35.1 == 1) then (((if decide ((x14.terms.length : Int) > 0) then ((s_l17Rd_num ({ b := r_.b, p := x35.2 } : Rd) ([0, (-1), 1001])).bind fun x96 => (idx x14.terms 0).bind fun x98 => some (x96.2, (x14.terms.set (Int.toNat 0) ({ x98 with coef := x96.1 })))) else (some (x35.2, x14.terms))) : Option (Int × (List Term))).bind fun (g_0_1_81, g27_0_82) => some (g_0_1_81, g27_0_82)) else (((if (x35.1 == 2) then (((if decide ((x14.terms.length : Int) > 0) then ((s_l17Rd_num ({ b := r_.b, p := x35.2 } : Rd) ([0, 13, (-13), 1, (-9223372036854775808)])).bind fun x149 => (idx x14.terms (i64 ((x14.terms.length : Int) - 1))).bind fun x151 => some (x149.2, (x14.terms.set (Int.toNat (i64 ((x14.terms.length : Int) - 1))) ({ x151 with lit := x149.1 })))) else (some (x35.2, x14.terms))) : Option (Int × (List Term))).bind fun (g_0_1_134, g27_0_135) => some (g_0_1_134, g27_0_135)) else (((if (x35.1 == 3) then ((app x14.terms ([({ coef := 1, lit := 1 } : Term)])).bind fun x187 => some x187) else (some x14.terms)) : Option (List Term)).bind fun g27_0_180 => some (x35.2, g27_0_180))) : Option (Int × (List Term))).bind fun (g_0_1_127, g27_0_128) => some (g_0_1_127, g27_0_128))) : Option (Int × (List Term))).bind fun (g_0_1_74, g27_0_75) => some (g_0_1_74, g27_0_75, x14.bound))) : Option (Int × (List Term) × Int)).bind fun (g_0_1_43, g27_0_44, g27_1_46) => some (({ terms := g27_0_44, bound := g27_1_46 } : Con), g_0_1_43)
def s_l3Mutate (r_ : Rd) (list : List Con) : Option ((List Con) × Int) :=
  (app ([]) list).bind fun x4 => (if decide ((x4.length : Int) > 0) then ((s_l17Rd_pick r_ 20).bind fun x19 => some ((x19.1 == 0), x19.2)) else some (false, r_.p)).bind fun b21 => ((if b21.1 then ((s_l17Rd_pick ({ b := r_.b, p := b21.2 } : Rd) (x4.length : Int)).bind fun x41 => (idx x4 x41.1).bind fun x49 => (s_l1Mutate ({ b := r_.b, p := x41.2 } : Rd) x49).bind fun x59 => (s_l1Mutate ({ b := r_.b, p := x59.2 } : Rd) x59.1).bind fun x68 => (s_l1Mutate ({ b := r_.b, p := x68.2 } : Rd) x68.1).bind fun x77 => some ((x4.set (Int.toNat x41.1) x77.1), x77.2)) else (some (x4, b21.2))) : Option ((List Con) × Int)).bind fun (out_30, g_0_1_31) => some (out_30, g_0_1_31)
def s_l1Draw_b1 (r_ : Rd) (i_11 : Nat) : (Int × (List Term)) → Option (Lo (Int × (List Term)) (Con × Int))
  | (g_0_1_12, g8_0_13) => (s_l17Rd_pick ({ b := r_.b, p := g_0_1_12 } : Rd) 2).bind fun x24 => ((if (x24.1 == 0) then ((s_l17Rd_num ({ b := r_.b, p := x24.2 } : Rd) ([1, 1, 2, 3, 1, 5, 4])).bind fun x46 => (s_l17Rd_pick ({ b := r_.b, p := x46.2 } : Rd) 2).bind fun x69 => ((if (x69.1 == 0) then (some (i64 (-(i_11 : Int)))) else (some (i_11 : Int))) : Option (Int)).bind fun g61_1_77 => (app g8_0_13 ([({ coef := x46.1, lit := g61_1_77 } : Term)])).bind fun x85 => some (x69.2, x85)) else (some (x24.2, g8_0_13))) : Option (Int × (List Term))).bind fun (g_0_1_32, g8_0_33) => some (.cont (g_0_1_32, g8_0_33))
def s_l1Draw (r_ : Rd) (most : Int) : Option (Con × Int) :=
  (cntF 1 (most + 1)).bind fun k16 => ((countL (s_l1Draw_b1 r_) k16 1 (r_.p, [])) : Option (Jn (Int × (List Term)) (Con × Int))).bind fun j => match j with | .nx (g_0_1_12, g8_0_13) => ((s_l1Total ({ terms := g8_0_13, bound := 0 } : Con)).bind fun x103 => (s_l17Rd_num ({ b := r_.b, p := g_0_1_12 } : Rd) ([1, 2, 1, 3, 0])).bind fun x121 => (s_l17Rd_pick ({ b := r_.b, p := x121.2 } : Rd) 4).bind fun x140 => ((if (x140.1 == 0) then ((s_l17Rd_pick ({ b := r_.b, p := x140.2 } : Rd) (i64 (x103 + 2))).bind fun x157 => some (x157.2, x157.1)) else (some (x140.2, x121.1))) : Option (Int × Int)).bind fun (g_0_1_148, g8_1_149) => some (({ terms := g8_0_13, bound := g8_1_149 } : Con), g_0_1_148)) | .out t => some t
def s_l3Problem_b1 (r_ : Rd) (x16 : Int × Int) : ((List Con) × Int × Int) → Option (Lo ((List Con) × Int × Int) ((List Con) × Int))
  | (out_50, i_52, g_0_1_53) => if decide (i_52 > 0) then ((s_l1Draw ({ b := r_.b, p := g_0_1_53 } : Rd) x16.1).bind fun x61 => (app out_50 ([x61.1])).bind fun x67 => some (.cont (x67, i64 (i_52 - 1), x61.2))) else (some (.brk (out_50, i_52, g_0_1_53)))
def s_l3Problem (fu : Nat) (r_ : Rd) : Option ((List Con) × Int) :=
  (s_l17Rd_num r_ ([4, 5, 3, 6])).bind fun x16 => (s_l17Rd_num ({ b := r_.b, p := x16.2 } : Rd) ([4, 6, 3, 8, 2, 1, 0])).bind fun x37 => ((whileL (s_l3Problem_b1 r_ x16) fu ([], x37.1, x37.2)) : Option (Jn ((List Con) × Int × Int) ((List Con) × Int))).bind fun j => match j with | .nx (out_50, i_52, g_0_1_53) => (some (out_50, g_0_1_53)) | .out t => some t
def s_DrawRupConstraint (fu : Nat) (code : List UInt8) : Option ((List Con) × Con) :=
  (s_l17Open code).bind fun x5 => (s_l3Problem fu x5).bind fun x13 => (s_l3Mutate ({ b := x5.b, p := x13.2 } : Rd) x13.1).bind fun x19 => (s_l1Draw ({ b := x5.b, p := x19.2 } : Rd) 4).bind fun x39 => (if decide ((x19.1.length : Int) > 0) then ((s_l17Rd_pick ({ b := x5.b, p := x39.2 } : Rd) 3).bind fun x60 => some ((x60.1 == 0), x60.2)) else some (false, x39.2)).bind fun b62 => ((if b62.1 then ((idx x19.1 0).bind fun x79 => (s_l17Rd_pick ({ b := x5.b, p := b62.2 } : Rd) 4).bind fun x89 => (s_WeakenConstraint x79 (i64 (1 + x89.1))).bind fun x96 => some (x96.1.terms, x96.1.bound, x89.2)) else (some (x39.1.terms, x39.1.bound, b62.2))) : Option ((List Term) × Int × Int)).bind fun (g52_0_71, g52_1_73, r7_0_1_74) => (s_l1Mutate ({ b := x5.b, p := r7_0_1_74 } : Rd) ({ terms := g52_0_71, bound := g52_1_73 } : Con)).bind fun x149 => some (x19.1, x149.1)
def i_RupConstraint (fu : Nat) (list : List Con) (c : Con) : Option (Bool) :=
  (i_ProblemValid list).bind fun x10 => (if x10 then ((i_ConstraintValid c).bind fun x17 => some x17) else some false).bind fun b19 => (if b19 then ((i_rup fu list c).bind fun x25 => some x25) else some false).bind fun b27 => some b27
def s_RupConstraint (fu : Nat) (list : List Con) (c : Con) : Option (Bool) :=
  (s_ProblemValid list).bind fun x10 => (if x10 then ((s_ConstraintValid c).bind fun x17 => some x17) else some false).bind fun b19 => (if b19 then ((s_l3Rup fu list c).bind fun x25 => some x25) else some false).bind fun b27 => some b27
def l_cpValues_b1 (_i_7 : Nat) : (Int × (List Bool)) → Option (Lo (Int × (List Bool)) (List Bool))
  | (n_8, out_9) => (app out_9 ([((Int.tmod n_8 2) == 1)])).bind fun x17 => some (.cont (i64 (Int.tdiv n_8 2), x17))
def l_cpValues (n_ : Int) : Option (List Bool) :=
  (cntF 0 12).bind fun k12 => ((countL l_cpValues_b1 k12 0 (n_, [])) : Option (Jn (Int × (List Bool)) (List Bool))).bind fun j => match j with | .nx (n_8, out_9) => (some out_9) | .out t => some t
def i_holds (l : Int) (values : List Bool) : Option (Bool) :=
  (i_variableOf l).bind fun x6 => (idx values (i64 (x6 - 1))).bind fun x8 => some (x8 == (decide (l > 0)))
def i_Constraint_holds_b1 (values : List Bool) (_i_5 : Nat) (x_7 : Term) : (Int) → Option (Lo (Int) (Bool))
  | sum_6 => (i_holds x_7.lit values).bind fun x28 => ((if x28 then (some (i64 (sum_6 + x_7.coef))) else (some sum_6)) : Option (Int)).bind fun sum_36 => some (.cont sum_36)
def i_Constraint_holds (c : Con) (values : List Bool) : Option (Bool) :=
  ((rangeL (i_Constraint_holds_b1 values) c.terms 0 0) : Option (Jn (Int) (Bool))).bind fun j => match j with | .nx sum_6 => (some (decide (sum_6 ≥ c.bound))) | .out t => some t
def i_satisfies_1 (c1 : List Bool) (c : Con) : Option (Bool) :=
  (i_Constraint_holds c c1).bind fun x10 => some (!x10)
def i_satisfies (list : List Con) (values : List Bool) : Option (Bool) :=
  (slices_ContainsFunc_implConstraint list (i_satisfies_1 values)).bind fun x10 => some (!x10)
def i_SatisfiesAll (list : List Con) (values : List Bool) : Option (Bool) :=
  (i_ProblemValid list).bind fun x6 => (if (x6 && ((values.length : Int) == 12)) then ((i_satisfies list values).bind fun x13 => some x13) else some false).bind fun b15 => some b15
def i_EvalConstraint (c : Con) (values : List Bool) : Option (Bool) :=
  (i_ConstraintValid c).bind fun x10 => (if (x10 && ((values.length : Int) == 12)) then ((i_Constraint_holds c values).bind fun x17 => some x17) else some false).bind fun b19 => some b19
def l_FnRupConstraint_b1 (x2 : (List Con) × Con) (i_69 : Nat) : (Unit) → Option (Lo (Unit) (Bool))
  | () => (l_cpValues (i_69 : Int)).bind fun x78 => (i_SatisfiesAll x2.1 x78).bind fun x95 => (if x95 then ((i_EvalConstraint x2.2 x78).bind fun x104 => some (!x104)) else some false).bind fun b106 => if b106 then (some (.out false)) else (some (.cont ()))
def l_FnRupConstraint (fu : Nat) (code : List UInt8) : Option (Bool) :=
  if decide ((code.length : Int) > 1048576) then (some true) else ((s_DrawRupConstraint fu code).bind fun x2 => (i_RupConstraint fu x2.1 x2.2).bind fun x22 => (s_RupConstraint fu x2.1 x2.2).bind fun x39 => if ((x22 != x39) || (!x22)) then ((s_RupConstraint fu x2.1 x2.2).bind fun x59 => some (x22 == x59)) else ((cntF 0 4096).bind fun k71 => ((countL (l_FnRupConstraint_b1 x2) k71 0 ()) : Option (Jn (Unit) (Bool))).bind fun j => match j with | .nx _ => (some true) | .out t => some t))
end Go.L

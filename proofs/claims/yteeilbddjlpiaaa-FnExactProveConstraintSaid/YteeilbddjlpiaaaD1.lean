/- Part of a proof by program: D1. -/
import Derived.Test.YteeilbddjlpiaaaG12
namespace Go.L
open Go Go.E
set_option linter.unusedVariables false
def s_l1Copy (c : Con) : Option (Con) :=
  (app ([]) c.terms).bind fun x12 => some ({ terms := x12, bound := c.bound } : Con)
def s_l1Total_b1 (_i_5 : Nat) (x_7 : Term) : (Int) → Option (Lo (Int) (Int))
  | n_6 => some (.cont (i64 (n_6 + x_7.coef)))
def s_l1Total (c : Con) : Option (Int) :=
  ((rangeL s_l1Total_b1 c.terms 0 0) : Option (Jn (Int) (Int))).bind fun j => match j with | .nx n_6 => (some n_6) | .out t => some t
def slices_IndexFunc_implConstraint_b1 (f_ : (Con → Option Bool)) (i_1 : Nat) (x_2 : Con) : (Unit) → Option (Lo (Unit) (Int))
  | () => (f_ x_2).bind fun x8 => if x8 then (some (.out (i_1 : Int))) else (some (.cont ()))
def slices_IndexFunc_implConstraint (s : List Con) (f_ : (Con → Option Bool)) : Option (Int) :=
  ((rangeL (slices_IndexFunc_implConstraint_b1 f_) s 0 ()) : Option (Jn (Unit) (Int))).bind fun j => match j with | .nx _ => (some (-1)) | .out t => some t
def slices_ContainsFunc_implConstraint (s : List Con) (f_ : (Con → Option Bool)) : Option (Bool) :=
  (slices_IndexFunc_implConstraint s f_).bind fun x6 => some (decide (x6 ≥ 0))
def i_within (n_ : Int) (low : Int) (high : Int) : Option (Bool) :=
  some ((decide (low ≤ n_)) && (decide (n_ ≤ high)))
def i_isLiteral (l : Int) : Option (Bool) :=
  (if (l != 0) then ((i_within l (-12) 12).bind fun x6 => some x6) else some false).bind fun b8 => some b8
def i_variableOf (l : Int) : Option (Int) :=
  some (max l (i64 (-l)))
def i_ConstraintValid_b1 (_i_5 : Nat) (x_7 : Term) : (Int) → Option (Lo (Int) (Bool))
  | before_6 => (i_isLiteral x_7.lit).bind fun x28 => (if (!x28) then some true else ((i_variableOf x_7.lit).bind fun x35 => some (decide (x35 ≤ before_6)))).bind fun b37 => (if b37 then some true else ((i_within x_7.coef 1 1000).bind fun x43 => some (!x43))).bind fun b45 => if b45 then (some (.out false)) else ((i_variableOf x_7.lit).bind fun x80 => some (.cont x80))
def i_ConstraintValid (c : Con) : Option (Bool) :=
  ((rangeL i_ConstraintValid_b1 c.terms 0 0) : Option (Jn (Int) (Bool))).bind fun j => match j with | .nx before_6 => ((i_within c.bound 0 20000).bind fun x93 => some x93) | .out t => some t
def i_allValid_1 (c : Con) : Option (Bool) :=
  (i_ConstraintValid c).bind fun x10 => some (!x10)
def i_allValid (list : List Con) : Option (Bool) :=
  (slices_ContainsFunc_implConstraint list i_allValid_1).bind fun x6 => some (!x6)
def i_ProblemValid (list : List Con) : Option (Bool) :=
  (if decide ((list.length : Int) ≤ 400) then ((i_allValid list).bind fun x6 => some x6) else some false).bind fun b8 => some b8
def s_l1Lit (n_ : Int) : Option (Bool) :=
  some (((n_ != 0) && (decide (n_ ≥ (-12)))) && (decide (n_ ≤ 12)))
def s_l1Abs (n_ : Int) : Option (Int) :=
  if decide (n_ < 0) then (some (i64 (-n_))) else (some n_)
def s_ConstraintValid_b1 (c : Con) (i_5 : Nat) (x_8 : Term) : (Unit) → Option (Lo (Unit) (Bool))
  | () => (s_l1Lit x_8.lit).bind fun x29 => (if (((!x29) || (decide (x_8.coef < 1))) || (decide (x_8.coef > 1000))) then some true else ((if decide ((i_5 : Int) > 0) then ((idx c.terms (i64 ((i_5 : Int) - 1))).bind fun x31 => (s_l1Abs x31.lit).bind fun x41 => (s_l1Abs x_8.lit).bind fun x48 => some (decide (x41 ≥ x48))) else some false).bind fun b50 => some b50)).bind fun b51 => if b51 then (some (.out false)) else (some (.cont ()))
def s_ConstraintValid (c : Con) : Option (Bool) :=
  ((rangeL (s_ConstraintValid_b1 c) c.terms 0 ()) : Option (Jn (Unit) (Bool))).bind fun j => match j with | .nx _ => (some ((decide (c.bound ≥ 0)) && (decide (c.bound ≤ 20000)))) | .out t => some t
def s_ProblemValid_b1 (_i_1 : Nat) (x_2 : Con) : (Unit) → Option (Lo (Unit) (Bool))
  | () => (s_ConstraintValid x_2).bind fun x13 => if (!x13) then (some (.out false)) else (some (.cont ()))
def s_ProblemValid (list : List Con) : Option (Bool) :=
  ((rangeL s_ProblemValid_b1 list 0 ()) : Option (Jn (Unit) (Bool))).bind fun j => match j with | .nx _ => (some (decide ((list.length : Int) ≤ 400))) | .out t => some t
def i_isFuel (fuel : Int) : Option (Bool) :=
  (i_within fuel 0 2000).bind fun x6 => some x6
def slices_Clone_implConstraint (s : List Con) : Option (List Con) :=
  (app ([]) s).bind fun x7 => some x7
def slices_Clone_int (s : List Int) : Option (List Int) :=
  (app ([]) s).bind fun x7 => some x7
def i_under (l : Int) (p : List Int) : Option (Int) :=
  if decide (l < 0) then ((idx p (i64 ((i64 (-l)) - 1))).bind fun x2 => some (i64 (-x2))) else ((idx p (i64 (l - 1))).bind fun x11 => some x11)
def i_Constraint_slack_b1 (p : List Int) (_i_5 : Nat) (x_7 : Term) : (Int) → Option (Lo (Int) (Int))
  | out_6 => (i_under x_7.lit p).bind fun x28 => ((if decide (x28 ≥ 0) then (some (i64 (out_6 + x_7.coef))) else (some out_6)) : Option (Int)).bind fun out_36 => some (.cont out_36)
def i_Constraint_slack (c : Con) (p : List Int) : Option (Int) :=
  ((rangeL (i_Constraint_slack_b1 p) c.terms 0 (i64 (-c.bound))) : Option (Jn (Int) (Int))).bind fun j => match j with | .nx out_6 => (some out_6) | .out t => some t
def i_Constraint_implied_b1 (p : List Int) (x10 : Int) (_i_18 : Nat) (x_21 : Term) : (List Int) → Option (Lo (List Int) (List Int))
  | out_19 => (i_under x_21.lit p).bind fun x43 => ((if ((x43 == 0) && (decide (x_21.coef > x10))) then ((app out_19 ([x_21.lit])).bind fun x60 => some x60) else (some out_19)) : Option (List Int)).bind fun out_53 => some (.cont out_53)
def i_Constraint_implied (c : Con) (p : List Int) : Option (List Int) :=
  (i_Constraint_slack c p).bind fun x10 => ((rangeL (i_Constraint_implied_b1 p x10) c.terms 0 ([])) : Option (Jn (List Int) (List Int))).bind fun j => match j with | .nx out_19 => (some out_19) | .out t => some t
def i_propagate_b3 (_i_73 : Nat) (x_76 : Int) : ((List Int) × Bool) → Option (Lo ((List Int) × Bool) (Lo ((List Int) × Bool) (Lo ((List Int) × Bool) ((List Int) × Int))))
  | (out_74, made_75) => ((if decide (x_76 > 0) then ((idx out_74 (i64 (x_76 - 1))).bind fun x89 => some (out_74.set (Int.toNat (i64 (x_76 - 1))) 1)) else ((idx out_74 (i64 ((i64 (-x_76)) - 1))).bind fun x96 => some (out_74.set (Int.toNat (i64 ((i64 (-x_76)) - 1))) (-1)))) : Option (List Int)).bind fun out_86 => some (.cont (out_86, true))
def i_propagate_b2 (i_21 : Nat) (x_24 : Con) : ((List Int) × Bool) → Option (Lo ((List Int) × Bool) (Lo ((List Int) × Bool) ((List Int) × Int)))
  | (out_22, made_23) => (i_Constraint_slack x_24 out_22).bind fun x46 => if decide (x46 < 0) then (some (.out (.out (out_22, (i_21 : Int))))) else ((i_Constraint_implied x_24 out_22).bind fun x62 => ((rangeL i_propagate_b3 x62 0 (out_22, made_23)) : Option (Jn ((List Int) × Bool) (Lo ((List Int) × Bool) (Lo ((List Int) × Bool) ((List Int) × Int))))).bind fun j => match j with | .nx (out_74, made_75) => (some (.cont (out_74, made_75))) | .out t => some t)
def i_propagate_b1 (list : List Con) : ((List Int) × Bool) → Option (Lo ((List Int) × Bool) ((List Int) × Int))
  | (out_17, made_18) => if made_18 then (((rangeL i_propagate_b2 list 0 (out_17, false)) : Option (Jn ((List Int) × Bool) (Lo ((List Int) × Bool) ((List Int) × Int)))).bind fun j => match j with | .nx (out_22, made_23) => (some (.cont (out_22, made_23))) | .out t => some t) else (some (.brk (out_17, made_18)))
def i_propagate (fu : Nat) (list : List Con) (p : List Int) : Option ((List Int) × Int) :=
  (slices_Clone_int p).bind fun x6 => ((whileL (i_propagate_b1 list) fu (x6, true)) : Option (Jn ((List Int) × Bool) ((List Int) × Int))).bind fun j => match j with | .nx (out_17, made_18) => (some (out_17, (-1))) | .out t => some t
def i_valuesOf_b1 (i_1 : Nat) (x_4 : Int) : (List Bool) → Option (Lo (List Bool) ((List Bool) × Int × Bool))
  | out_2 => if (x_4 == 0) then (some (.out ([], i64 ((i_1 : Int) + 1), false))) else ((app out_2 ([decide (x_4 > 0)])).bind fun x20 => some (.cont x20))
def i_valuesOf (p : List Int) : Option ((List Bool) × Int × Bool) :=
  ((rangeL i_valuesOf_b1 p 0 ([])) : Option (Jn (List Bool) ((List Bool) × Int × Bool))).bind fun j => match j with | .nx out_2 => (some (out_2, 0, true)) | .out t => some t
def slices_Index_int_b1 (v_ : Int) (i_1 : Nat) (x_2 : Int) : (Unit) → Option (Lo (Unit) (Int))
  | () => if (v_ == x_2) then (some (.out (i_1 : Int))) else (some (.cont ()))
def slices_Index_int (s : List Int) (v_ : Int) : Option (Int) :=
  ((rangeL (slices_Index_int_b1 v_) s 0 ()) : Option (Jn (Unit) (Int))).bind fun j => match j with | .nx _ => (some (-1)) | .out t => some t
def slices_Contains_int (s : List Int) (v_ : Int) : Option (Bool) :=
  (slices_Index_int s v_).bind fun x6 => some (decide (x6 ≥ 0))
def slices_insertionSortCmpFunc_int_b2 (a : Int) (cmp : (Int → Int → Option Int)) : ((List Int) × Int) → Option (Lo ((List Int) × Int) (Lo ((List Int) × Int) (List Int)))
  | (data_9, j_10) => (if decide (j_10 > a) then ((idx data_9 j_10).bind fun x14 => (idx data_9 (i64 (j_10 - 1))).bind fun x19 => (cmp x14 x19).bind fun x22 => some (decide (x22 < 0))) else some false).bind fun b29 => if b29 then ((idx data_9 (i64 (j_10 - 1))).bind fun x52 => (idx data_9 j_10).bind fun x57 => (idx (data_9.set (Int.toNat j_10) x52) (i64 (j_10 - 1))).bind fun x61 => some (.cont (((data_9.set (Int.toNat j_10) x52).set (Int.toNat (i64 (j_10 - 1))) x57), i64 (j_10 - 1)))) else (some (.brk (data_9, j_10)))
def slices_insertionSortCmpFunc_int_b1 (fu : Nat) (a : Int) (b : Int) (cmp : (Int → Int → Option Int)) : ((List Int) × Int) → Option (Lo ((List Int) × Int) (List Int))
  | (data_2, i_3) => if decide (i_3 < b) then (((whileL (slices_insertionSortCmpFunc_int_b2 a cmp) fu (data_2, i_3)) : Option (Jn ((List Int) × Int) (Lo ((List Int) × Int) (List Int)))).bind fun j => match j with | .nx (data_9, j_10) => (some (.cont (data_9, i64 (i_3 + 1)))) | .out t => some t) else (some (.brk (data_2, i_3)))
def slices_insertionSortCmpFunc_int (fu : Nat) (data : List Int) (a : Int) (b : Int) (cmp : (Int → Int → Option Int)) : Option (List Int) :=
  ((whileL (slices_insertionSortCmpFunc_int_b1 fu a b cmp) fu (data, i64 (a + 1))) : Option (Jn ((List Int) × Int) (List Int))).bind fun j => match j with | .nx (data_2, i_3) => (some data_2) | .out t => some t
def slices_nextPowerOfTwo (length : Int) : Option (Int) :=
  (bits_Len (IntKind.u64.wrap length)).bind fun x6 => (if x6 < 0 then none else some ()).bind fun _ => some (IntKind.u64.wrap (1 * 2 ^ (min (Int.toNat x6) (IntKind.bits .u64))))
def slices_pdqsortCmpFunc_int_b1 (fu : Nat) (data : List Int) (a : Int) (b : Int) (cmp : (Int → Int → Option Int)) : (Unit) → Option (Lo (Unit) (List Int))
  | () => if decide ((i64 (b - a)) ≤ 12) then ((slices_insertionSortCmpFunc_int fu data a b cmp).bind fun x9 => some (.out x9)) else (none)
def slices_pdqsortCmpFunc_int (fu : Nat) (data : List Int) (a : Int) (b : Int) (_limit : Int) (cmp : (Int → Int → Option Int)) : Option (List Int) :=
  ((whileL (slices_pdqsortCmpFunc_int_b1 fu data a b cmp) fu ()) : Option (Jn (Unit) (List Int))).bind fun j => match j with | .nx _ => (some data) | .out t => some t
def slices_SortFunc_int (fu : Nat) (x : List Int) (cmp : (Int → Int → Option Int)) : Option (List Int) :=
  (bits_Len (IntKind.u64.wrap (x.length : Int))).bind fun x6 => (slices_pdqsortCmpFunc_int fu x 0 (x.length : Int) x6 cmp).bind fun x13 => some x13
def i_ClauseOf_1 (a : Int) (b : Int) : Option (Int) :=
  (i_variableOf a).bind fun x6 => (i_variableOf b).bind fun x13 => some (i64 (x6 - x13))
def slices_Compact_int_b1 (s : List Int) (i_2 : Nat) : (Unit) → Option (Lo (Unit) (List Int))
  | () => (idx s (i_2 : Int)).bind fun x8 => (idx s (i64 ((i_2 : Int) - 1))).bind fun x13 => ((if (x8 == x13) then (none) else (some ())) : Option (Unit)).bind fun _ => some (.cont ())
def slices_Compact_int (s : List Int) : Option (List Int) :=
  if decide ((s.length : Int) < 2) then (some s) else ((cntF 1 (s.length : Int)).bind fun k6 => ((countL (slices_Compact_int_b1 s) k6 1 ()) : Option (Jn (Unit) (List Int))).bind fun j => match j with | .nx _ => (some s) | .out t => some t)
def i_ClauseOf_b1 (lits : List Int) (_i_9 : Nat) (x_10 : Int) : (Unit) → Option (Lo (Unit) (Con × Bool))
  | () => (i_isLiteral x_10).bind fun x25 => (if (!x25) then some true else ((slices_Contains_int lits (i64 (-x_10))).bind fun x32 => some x32)).bind fun b34 => if b34 then (some (.out (({ terms := [], bound := 0 } : Con), false))) else (some (.cont ()))
def i_ClauseOf_b2 (_i_97 : Nat) (x_100 : Int) : (List Term) → Option (Lo (List Term) (Con × Bool))
  | g85_0_98 => (app g85_0_98 ([({ coef := 1, lit := x_100 } : Term)])).bind fun x114 => some (.cont x114)
def i_ClauseOf (fu : Nat) (lits : List Int) : Option (Con × Bool) :=
  if decide ((lits.length : Int) > 40) then (some (({ terms := [], bound := 0 } : Con), false)) else (((rangeL (i_ClauseOf_b1 lits) lits 0 ()) : Option (Jn (Unit) (Con × Bool))).bind fun j => match j with | .nx _ => ((slices_Clone_int lits).bind fun x58 => (slices_SortFunc_int fu x58 i_ClauseOf_1).bind fun x73 => (slices_Compact_int x73).bind fun x91 => ((rangeL i_ClauseOf_b2 x91 0 ([])) : Option (Jn (List Term) (Con × Bool))).bind fun j => match j with | .nx g85_0_98 => (some (({ terms := g85_0_98, bound := 1 } : Con), true)) | .out t => some t) | .out t => some t)
def slices_Clone_implTerm (s : List Term) : Option (List Term) :=
  (app ([]) s).bind fun x7 => some x7
def i_Constraint_own (c : Con) : Option (Con) :=
  (slices_Clone_implTerm c.terms).bind fun x14 => some ({ terms := x14, bound := c.bound } : Con)
def i_searching_fail_b1 (_i_1 : Nat) (x_4 : Int) : (List Int) → Option (Lo (List Int) ((List Con) × (List Step)))
  | lits_2 => (app lits_2 ([i64 (-x_4)])).bind fun x18 => some (.cont x18)
def i_searching_fail (fu : Nat) (s : Srch) (decisions : List Int) : Option ((List Con) × (List Step)) :=
  ((rangeL i_searching_fail_b1 decisions 0 ([])) : Option (Jn (List Int) ((List Con) × (List Step)))).bind fun j => match j with | .nx lits_2 => ((i_ClauseOf fu lits_2).bind fun x34 => (app s.list ([x34.1])).bind fun x57 => (i_Constraint_own x34.1).bind fun x83 => (app s.steps ([({ kind := 7, a := 0, b := 0, given := x83 } : Step)])).bind fun x89 => some (x57, x89)) | .out t => some t
def i_searching_visit_b1 (_i_16 : Nat) (x_18 : Int) : (List Int) → Option (Lo (List Int) ((List Bool) × Bool × (List Con) × Int × (List Step) × Bool))
  | p_17 => (i_variableOf x_18).bind fun x33 => (idx p_17 (i64 (x33 - 1))).bind fun x35 => ((if decide (x_18 < 0) then ((idx (p_17.set (Int.toNat (i64 (x33 - 1))) 1) (i64 ((i64 (-x_18)) - 1))).bind fun x51 => some ((p_17.set (Int.toNat (i64 (x33 - 1))) 1).set (Int.toNat (i64 ((i64 (-x_18)) - 1))) (-1))) else (some (p_17.set (Int.toNat (i64 (x33 - 1))) 1))) : Option (List Int)).bind fun p_48 => some (.cont p_48)
def i_searching_visit_b2 (decisions : List Int) (rec_ : (Srch → (List Int) → Option ((List Bool) × Bool × (List Con) × Int × (List Step) × Bool))) (_i_107 : Nat) (x_116 : Int) : ((List Con) × Int × (List Step) × Bool) → Option (Lo ((List Con) × Int × (List Step) × Bool) (Jn ((List Con) × Int × (List Step) × Bool) ((List Bool) × Bool × (List Con) × Int × (List Step) × Bool)))
  | (g_0_0_108, g_0_1_110, g_0_2_111, g_0_3_113) => (slices_Clone_int decisions).bind fun x127 => (app x127 ([x_116])).bind fun x133 => (rec_ ({ list := g_0_0_108, fuel := g_0_1_110, steps := g_0_2_111, much := g_0_3_113 } : Srch) x133).bind fun x140 => if (x140.2.1 || x140.2.2.2.2.2) then (some (.out (.out (x140.1, x140.2.1, x140.2.2.1, x140.2.2.2.1, x140.2.2.2.2.1, x140.2.2.2.2.2)))) else (some (.cont (x140.2.2.1, x140.2.2.2.1, x140.2.2.2.2.1, x140.2.2.2.2.2)))
def i_searching_visit_F (fu : Nat) (rec_ : Srch → (List Int) → Option ((List Bool) × Bool × (List Con) × Int × (List Step) × Bool)) (s : Srch) (decisions : List Int) : Option ((List Bool) × Bool × (List Con) × Int × (List Step) × Bool) :=
  if ((s.fuel == 0) || (decide ((s.steps.length : Int) ≥ 1000))) then (some ([], false, s.list, s.fuel, s.steps, true)) else ((mkN 12 0).bind fun x9 => ((rangeL i_searching_visit_b1 decisions 0 x9) : Option (Jn (List Int) ((List Bool) × Bool × (List Con) × Int × (List Step) × Bool))).bind fun j => match j with | .nx p_17 => ((i_propagate fu s.list p_17).bind fun x61 => ((if decide (x61.2 < 0) then ((i_valuesOf x61.1).bind fun x89 => if x89.2.2 then (some (.out (x89.1, true, s.list, i64 (s.fuel - 1), s.steps, s.much))) else (((rangeL (i_searching_visit_b2 decisions rec_) ([x89.2.1, i64 (-x89.2.1)]) 0 (s.list, i64 (s.fuel - 1), s.steps, s.much)) : Option (Jn ((List Con) × Int × (List Step) × Bool) (Jn ((List Con) × Int × (List Step) × Bool) ((List Bool) × Bool × (List Con) × Int × (List Step) × Bool)))).bind fun j => match j with | .nx (g_0_0_108, g_0_1_110, g_0_2_111, g_0_3_113) => (if decide ((g_0_2_111.length : Int) ≥ 1000) then (some (.out ([], false, g_0_0_108, g_0_1_110, g_0_2_111, true))) else (some (.nx (g_0_0_108, g_0_1_110, g_0_2_111, g_0_3_113)))) | .out t => some t)) else (some (.nx (s.list, i64 (s.fuel - 1), s.steps, s.much)))) : Option (Jn ((List Con) × Int × (List Step) × Bool) ((List Bool) × Bool × (List Con) × Int × (List Step) × Bool))).bind fun j => match j with | .nx (g_0_0_73, g_0_1_75, g_0_2_76, g_0_3_78) => ((i_searching_fail fu ({ list := g_0_0_73, fuel := g_0_1_75, steps := g_0_2_76, much := g_0_3_78 } : Srch) decisions).bind fun x172 => some ([], false, x172.1, g_0_1_75, x172.2, g_0_3_78)) | .out t => some t) | .out t => some t)
def i_searching_visit_R (fu : Nat) : Nat → Srch → (List Int) → Option ((List Bool) × Bool × (List Con) × Int × (List Step) × Bool)
  | 0 => fun _ _ => none
  | n + 1 => i_searching_visit_F fu (i_searching_visit_R fu n)
def i_searching_visit (fu : Nat) (s : Srch) (decisions : List Int) : Option ((List Bool) × Bool × (List Con) × Int × (List Step) × Bool) := i_searching_visit_R fu fu s decisions
def i_SolveProblem (fu : Nat) (list : List Con) (fuel : Int) : Option (Int × (List Bool) × (List Step)) :=
  (i_ProblemValid list).bind fun x6 => (if (!x6) then some true else ((i_isFuel fuel).bind fun x13 => some (!x13))).bind fun b15 => if b15 then (some (3, [], [])) else ((slices_Clone_implConstraint list).bind fun x33 => (i_searching_visit fu ({ list := x33, fuel := fuel, steps := [], much := false } : Srch) ([])).bind fun x43 => if x43.2.1 then (some (1, x43.1, [])) else (if x43.2.2.2.2.2 then (some (0, [], [])) else (some (2, [], x43.2.2.2.2.1))))
def s_l3Assign (p : List Int) (lit : Int) : Option (List Int) :=
  ((if decide (lit > 0) then ((idx p (i64 (lit - 1))).bind fun x4 => some (p.set (Int.toNat (i64 (lit - 1))) 1)) else ((idx p (i64 ((i64 (-lit)) - 1))).bind fun x11 => some (p.set (Int.toNat (i64 ((i64 (-lit)) - 1))) (-1)))) : Option (List Int)).bind fun kp_1 => some kp_1
def s_l3State (p : List Int) (lit : Int) : Option (Int) :=
  if decide (lit > 0) then ((idx p (i64 (lit - 1))).bind fun x2 => some x2) else ((idx p (i64 ((i64 (-lit)) - 1))).bind fun x11 => some (i64 (-x11)))
def s_l3Slack_b1 (p : List Int) (_i_5 : Nat) (x_7 : Term) : (Int) → Option (Lo (Int) (Int))
  | n_6 => (s_l3State p x_7.lit).bind fun x18 => ((if decide (x18 ≥ 0) then (some (i64 (n_6 + x_7.coef))) else (some n_6)) : Option (Int)).bind fun n_30 => some (.cont n_30)
def s_l3Slack (c : Con) (p : List Int) : Option (Int) :=
  ((rangeL (s_l3Slack_b1 p) c.terms 0 (i64 (-c.bound))) : Option (Jn (Int) (Int))).bind fun j => match j with | .nx n_6 => (some n_6) | .out t => some t
def s_l3Implied_b1 (c : Con) (p : List Int) (x16 : Int) : ((List Int) × Int) → Option (Lo ((List Int) × Int) (List Int))
  | (out_27, i_29) => if ((decide (i_29 < (c.terms.length : Int))) && (decide (x16 ≥ 0))) then ((idx c.terms i_29).bind fun x34 => (s_l3State p x34.lit).bind fun x44 => ((if ((x44 == 0) && (decide (x34.coef > x16))) then ((app out_27 ([x34.lit])).bind fun x77 => some x77) else (some out_27)) : Option (List Int)).bind fun out_66 => some (.cont (out_66, i64 (i_29 + 1)))) else (some (.brk (out_27, i_29)))
def s_l3Implied (fu : Nat) (c : Con) (p : List Int) : Option (List Int) :=
  (s_l3Slack c p).bind fun x16 => ((whileL (s_l3Implied_b1 c p x16) fu ([], 0)) : Option (Jn ((List Int) × Int) (List Int))).bind fun j => match j with | .nx (out_27, i_29) => (some out_27) | .out t => some t
def s_l3Propagate_b3 (_i_60 : Nat) (x_63 : Int) : ((List Int) × Bool) → Option (Lo ((List Int) × Bool) (Lo ((List Int) × Bool) (Lo ((List Int) × Bool) (Int × (List Int)))))
  | (p_61, changed_62) => (s_l3Assign p_61 x_63).bind fun x74 => some (.cont (x74, true))
def s_l3Propagate_b2 (fu : Nat) (i_6 : Nat) (x_9 : Con) : ((List Int) × Bool) → Option (Lo ((List Int) × Bool) (Lo ((List Int) × Bool) (Int × (List Int))))
  | (p_7, changed_8) => (s_l3Slack x_9 p_7).bind fun x21 => if decide (x21 < 0) then (some (.out (.out ((i_6 : Int), p_7)))) else ((s_l3Implied fu x_9 p_7).bind fun x45 => ((rangeL s_l3Propagate_b3 x45 0 (p_7, changed_8)) : Option (Jn ((List Int) × Bool) (Lo ((List Int) × Bool) (Lo ((List Int) × Bool) (Int × (List Int)))))).bind fun j => match j with | .nx (p_61, changed_62) => (some (.cont (p_61, changed_62))) | .out t => some t)
def s_l3Propagate_b1 (fu : Nat) (list : List Con) : ((List Int) × Bool) → Option (Lo ((List Int) × Bool) (Int × (List Int)))
  | (p_2, changed_3) => if changed_3 then (((rangeL (s_l3Propagate_b2 fu) list 0 (p_2, false)) : Option (Jn ((List Int) × Bool) (Lo ((List Int) × Bool) (Int × (List Int))))).bind fun j => match j with | .nx (p_7, changed_8) => (some (.cont (p_7, changed_8))) | .out t => some t) else (some (.brk (p_2, changed_3)))
def s_l3Propagate (fu : Nat) (list : List Con) (p : List Int) : Option (Int × (List Int)) :=
  ((whileL (s_l3Propagate_b1 fu list) fu (p, true)) : Option (Jn ((List Int) × Bool) (Int × (List Int)))).bind fun j => match j with | .nx (p_2, changed_3) => (some ((-1), p_2)) | .out t => some t
def s_ClauseOf_b1 (_i_16 : Nat) (x_20 : Int) : (List Int) → Option (Lo (List Int) (Con × Bool))
  | seen_17 => (s_l1Lit x_20).bind fun x31 => if (!x31) then (some (.out (({ terms := [], bound := 0 } : Con), false))) else ((s_l1Abs x_20).bind fun x56 => (idx seen_17 x56).bind fun x68 => if (x68 == (i64 (-x_20))) then (some (.out (({ terms := [], bound := 0 } : Con), false))) else (some (.cont (seen_17.set (Int.toNat x56) x_20))))
def s_ClauseOf_b2 (seen_17 : List Int) (i_114 : Nat) : (List Term) → Option (Lo (List Term) (Con × Bool))
  | g111_0_115 => (idx seen_17 (i_114 : Int)).bind fun x123 => ((if (x123 != 0) then ((app g111_0_115 ([({ coef := 1, lit := x123 } : Term)])).bind fun x143 => some x143) else (some g111_0_115)) : Option (List Term)).bind fun g111_0_132 => some (.cont g111_0_132)
def s_ClauseOf (lits : List Int) : Option (Con × Bool) :=
  (mkN 13 0).bind fun x5 => if decide ((lits.length : Int) > 40) then (some (({ terms := [], bound := 0 } : Con), false)) else (((rangeL s_ClauseOf_b1 lits 0 x5) : Option (Jn (List Int) (Con × Bool))).bind fun j => match j with | .nx seen_17 => ((cntF 1 (12 + 1)).bind fun k120 => ((countL (s_ClauseOf_b2 seen_17) k120 1 ([])) : Option (Jn (List Term) (Con × Bool))).bind fun j => match j with | .nx g111_0_115 => (some (({ terms := g111_0_115, bound := 1 } : Con), true)) | .out t => some t) | .out t => some t)
def s_l5Learn_b1 (_i_15 : Nat) (x_18 : Int) : (List Int) → Option (Lo (List Int) (Sst))
  | lits_16 => (app lits_16 ([i64 (-x_18)])).bind fun x27 => some (.cont x27)
def s_l5Learn (s : Sst) (decisions : List Int) : Option (Sst) :=
  ((rangeL s_l5Learn_b1 decisions 0 ([])) : Option (Jn (List Int) (Sst))).bind fun j => match j with | .nx lits_16 => ((s_ClauseOf lits_16).bind fun x47 => (app s.list ([x47.1])).bind fun x72 => (app s.steps ([({ kind := 7, a := 0, b := 0, given := x47.1 } : Step)])).bind fun x92 => some ({ list := x72, steps := x92, fuel := s.fuel } : Sst)) | .out t => some t
def s_l5Free_b1 (i_1 : Nat) (x_2 : Int) : (Unit) → Option (Lo (Unit) (Int))
  | () => if (x_2 == 0) then (some (.out (i64 ((i_1 : Int) + 1)))) else (some (.cont ()))
def s_l5Free (p : List Int) : Option (Int) :=
  ((rangeL s_l5Free_b1 p 0 ()) : Option (Jn (Unit) (Int))).bind fun j => match j with | .nx _ => (some 0) | .out t => some t
def s_l5Search_b1 (_i_29 : Nat) (x_31 : Int) : (List Int) → Option (Lo (List Int) (Sst × Int × (List Bool)))
  | p_30 => (s_l3Assign p_30 x_31).bind fun x42 => some (.cont x42)
def s_l5Search_b2 (_i_107 : Nat) (x_110 : Int) : (List Bool) → Option (Lo (List Bool) (Sst × Int × (List Bool)))
  | values_108 => (app values_108 ([decide (x_110 > 0)])).bind fun x119 => some (.cont x119)
def s_l5Search_b3 (decisions : List Int) (rec_ : (Sst → (List Int) → Option (Sst × Int × (List Bool)))) (_i_141 : Nat) (x_149 : Int) : ((List Con) × (List Step) × Int) → Option (Lo ((List Con) × (List Step) × Int) (Sst × Int × (List Bool)))
  | (g5_0_142, g5_1_144, g5_2_146) => (app ([]) decisions).bind fun x164 => (app x164 ([x_149])).bind fun x171 => (rec_ ({ list := g5_0_142, steps := g5_1_144, fuel := g5_2_146 } : Sst) x171).bind fun x178 => if (x178.2.1 != 2) then (some (.out (x178.1, x178.2.1, x178.2.2))) else (some (.cont (x178.1.list, x178.1.steps, x178.1.fuel)))
def s_l5Search_F (fu : Nat) (rec_ : Sst → (List Int) → Option (Sst × Int × (List Bool))) (s : Sst) (decisions : List Int) : Option (Sst × Int × (List Bool)) :=
  if ((s.fuel == 0) || (decide ((s.steps.length : Int) ≥ 1000))) then (some (s, 0, [])) else ((mkN 12 0).bind fun x22 => ((rangeL s_l5Search_b1 decisions 0 x22) : Option (Jn (List Int) (Sst × Int × (List Bool)))).bind fun j => match j with | .nx p_30 => ((s_l3Propagate fu s.list p_30).bind fun x60 => if decide (x60.1 ≥ 0) then ((s_l5Learn ({ list := s.list, steps := s.steps, fuel := i64 (s.fuel - 1) } : Sst) decisions).bind fun x70 => some (x70, 2, [])) else ((s_l5Free x60.2).bind fun x91 => if (x91 == 0) then (((rangeL s_l5Search_b2 x60.2 0 ([])) : Option (Jn (List Bool) (Sst × Int × (List Bool)))).bind fun j => match j with | .nx values_108 => (some (({ list := s.list, steps := s.steps, fuel := i64 (s.fuel - 1) } : Sst), 1, values_108)) | .out t => some t) else (((rangeL (s_l5Search_b3 decisions rec_) ([x91, i64 (-x91)]) 0 (s.list, s.steps, i64 (s.fuel - 1))) : Option (Jn ((List Con) × (List Step) × Int) (Sst × Int × (List Bool)))).bind fun j => match j with | .nx (g5_0_142, g5_1_144, g5_2_146) => (if decide ((g5_1_144.length : Int) ≥ 1000) then (some (({ list := g5_0_142, steps := g5_1_144, fuel := g5_2_146 } : Sst), 0, [])) else ((s_l5Learn ({ list := g5_0_142, steps := g5_1_144, fuel := g5_2_146 } : Sst) decisions).bind fun x251 => some (x251, 2, []))) | .out t => some t))) | .out t => some t)
def s_l5Search_R (fu : Nat) : Nat → Sst → (List Int) → Option (Sst × Int × (List Bool))
  | 0 => fun _ _ => none
  | n + 1 => s_l5Search_F fu (s_l5Search_R fu n)
def s_l5Search (fu : Nat) (s : Sst) (decisions : List Int) : Option (Sst × Int × (List Bool)) := s_l5Search_R fu fu s decisions
def s_SolveProblem_b1 (_i_74 : Nat) (x_77 : Step) : (List Step) → Option (Lo (List Step) (Int × (List Bool) × (List Step)))
  | out_75 => (s_l1Copy x_77.given).bind fun x98 => (app out_75 ([({ kind := x_77.kind, a := x_77.a, b := x_77.b, given := x98 } : Step)])).bind fun x113 => some (.cont x113)
def s_SolveProblem (fu : Nat) (list : List Con) (fuel : Int) : Option (Int × (List Bool) × (List Step)) :=
  (s_ProblemValid list).bind fun x6 => if (((!x6) || (decide (fuel < 0))) || (decide (fuel > 2000))) then (some (3, [], [])) else ((app ([]) list).bind fun x34 => (s_l5Search fu ({ list := x34, steps := [], fuel := fuel } : Sst) ([])).bind fun x39 => if (x39.2.1 != 2) then (some (x39.2.1, x39.2.2, [])) else (((rangeL s_SolveProblem_b1 x39.1.steps 0 ([])) : Option (Jn (List Step) (Int × (List Bool) × (List Step)))).bind fun j => match j with | .nx out_75 => (some (x39.2.1, [], out_75)) | .out t => some t))
def i_Constraint_total_b1 (_i_5 : Nat) (x_7 : Term) : (Int) → Option (Lo (Int) (Int))
  | sum_6 => some (.cont (i64 (sum_6 + x_7.coef)))
def i_Constraint_total (c : Con) : Option (Int) :=
  ((rangeL i_Constraint_total_b1 c.terms 0 0) : Option (Jn (Int) (Int))).bind fun j => match j with | .nx sum_6 => (some sum_6) | .out t => some t
def i_Constraint_negation_b1 (_i_38 : Nat) (x_41 : Term) : (List Term) → Option (Lo (List Term) (Con))
  | g36_0_39 => (app g36_0_39 ([({ coef := x_41.coef, lit := i64 (-x_41.lit) } : Term)])).bind fun x61 => some (.cont x61)
def i_Constraint_negation (c : Con) : Option (Con) :=
  (i_Constraint_total c).bind fun x14 => ((rangeL i_Constraint_negation_b1 c.terms 0 ([])) : Option (Jn (List Term) (Con))).bind fun j => match j with | .nx g36_0_39 => (some ({ terms := g36_0_39, bound := max 0 (i64 ((i64 (x14 - c.bound)) + 1)) } : Con)) | .out t => some t
def i_ProveConstraint (fu : Nat) (list : List Con) (c : Con) (fuel : Int) : Option (Int × (List Bool) × (List Step)) :=
  (i_ConstraintValid c).bind fun x10 => if ((!x10) || (decide ((list.length : Int) ≥ 400))) then (some (3, [], [])) else ((slices_Clone_implConstraint list).bind fun x23 => (i_Constraint_negation c).bind fun x31 => (app x23 ([x31])).bind fun x37 => (i_SolveProblem fu x37 fuel).bind fun x49 => some (x49.1, x49.2.1, x49.2.2))
def s_NegateConstraint_b1 (_i_55 : Nat) (x_60 : Term) : (List Term) → Option (Lo (List Term) (Con × Bool))
  | g53_0_56 => (app g53_0_56 ([({ coef := x_60.coef, lit := i64 (-x_60.lit) } : Term)])).bind fun x74 => some (.cont x74)
def s_NegateConstraint (c : Con) : Option (Con × Bool) :=
  (s_ConstraintValid c).bind fun x14 => if (!x14) then (some (({ terms := [], bound := 0 } : Con), false)) else ((s_l1Total c).bind fun x31 => ((rangeL s_NegateConstraint_b1 c.terms 0 ([])) : Option (Jn (List Term) (Con × Bool))).bind fun j => match j with | .nx g53_0_56 => (((if decide ((i64 ((i64 (x31 - c.bound)) + 1)) < 0) then (some 0) else (some (i64 ((i64 (x31 - c.bound)) + 1)))) : Option (Int)).bind fun g53_1_115 => some (({ terms := g53_0_56, bound := g53_1_115 } : Con), true)) | .out t => some t)
def s_ProveConstraint (fu : Nat) (list : List Con) (c : Con) (fuel : Int) : Option (Int × (List Bool) × (List Step)) :=
  (s_NegateConstraint c).bind fun x10 => if ((!x10.2) || (decide ((list.length : Int) ≥ 400))) then (some (3, [], [])) else ((app ([]) list).bind fun x44 => (app x44 ([x10.1])).bind fun x51 => (s_SolveProblem fu x51 fuel).bind fun x63 => some (x63.1, x63.2.1, x63.2.2))
def l_szTermS (a : List Term) (left : Int) : Option (Int) :=
  if decide ((i64 (left - (a.length : Int))) < 0) then (some (-1)) else (some (i64 (left - (a.length : Int))))
def l_szConstraint (a : Con) (left : Int) : Option (Int) :=
  (l_szTermS a.terms left).bind fun x10 => if decide (x10 < 0) then (some (-1)) else (some x10)
def l_szConstraintS_b1 (_i_2 : Nat) (x_4 : Con) : (Int) → Option (Lo (Int) (Int))
  | left_3 => (l_szConstraint x_4 left_3).bind fun x15 => if decide (x15 < 0) then (some (.out (-1))) else (some (.cont x15))
def l_szConstraintS (a : List Con) (left : Int) : Option (Int) :=
  if decide ((i64 (left - (a.length : Int))) < 0) then (some (-1)) else (((rangeL l_szConstraintS_b1 a 0 (i64 (left - (a.length : Int)))) : Option (Jn (Int) (Int))).bind fun j => match j with | .nx left_3 => (some left_3) | .out t => some t)
def l_toTerm (a : Term) : Option (Term) :=
  some a
def l_toTermS_b1 (i_8 : Nat) (x_10 : Term) : (List Term) → Option (Lo (List Term) (List Term))
  | out_9 => (l_toTerm x_10).bind fun x21 => (idx out_9 (i_8 : Int)).bind fun x23 => some (.cont (out_9.set (Int.toNat (i_8 : Int)) x21))
def l_toTermS (a : List Term) : Option (List Term) :=
  (mkN (a.length : Int) ({ coef := 0, lit := 0 } : Term)).bind fun x1 => ((rangeL l_toTermS_b1 a 0 x1) : Option (Jn (List Term) (List Term))).bind fun j => match j with | .nx out_9 => (some out_9) | .out t => some t
def l_toConstraint (a : Con) : Option (Con) :=
  (l_toTermS a.terms).bind fun x18 => some ({ terms := x18, bound := a.bound } : Con)
def l_toConstraintS_b1 (i_8 : Nat) (x_10 : Con) : (List Con) → Option (Lo (List Con) (List Con))
  | out_9 => (l_toConstraint x_10).bind fun x21 => (idx out_9 (i_8 : Int)).bind fun x24 => some (.cont (out_9.set (Int.toNat (i_8 : Int)) x21))
def l_toConstraintS (a : List Con) : Option (List Con) :=
  (mkN (a.length : Int) ({ terms := [], bound := 0 } : Con)).bind fun x1 => ((rangeL l_toConstraintS_b1 a 0 x1) : Option (Jn (List Con) (List Con))).bind fun j => match j with | .nx out_9 => (some out_9) | .out t => some t
def l_eqBoolS_b1 (b : List Bool) (i_2 : Nat) (x_5 : Bool) : (Unit) → Option (Lo (Unit) (Bool))
  | () => (idx b (i_2 : Int)).bind fun x11 => if (x_5 != x11) then (some (.out false)) else (some (.cont ()))
def l_eqBoolS (a : List Bool) (b : List Bool) : Option (Bool) :=
  if ((a.length : Int) != (b.length : Int)) then (some false) else (((rangeL (l_eqBoolS_b1 b) a 0 ()) : Option (Jn (Unit) (Bool))).bind fun j => match j with | .nx _ => (some true) | .out t => some t)
def l_eqTerm (a : Term) (b : Term) : Option (Bool) :=
  if (a.coef != b.coef) then (some false) else (if (a.lit != b.lit) then (some false) else (some true))
def l_eqTermS_b1 (b : List Term) (i_2 : Nat) (x_5 : Term) : (Unit) → Option (Lo (Unit) (Bool))
  | () => (idx b (i_2 : Int)).bind fun x11 => (l_eqTerm x_5 x11).bind fun x21 => if (!x21) then (some (.out false)) else (some (.cont ()))
def l_eqTermS (a : List Term) (b : List Term) : Option (Bool) :=
  if ((a.length : Int) != (b.length : Int)) then (some false) else (((rangeL (l_eqTermS_b1 b) a 0 ()) : Option (Jn (Unit) (Bool))).bind fun j => match j with | .nx _ => (some true) | .out t => some t)
def l_eqConstraint (a : Con) (b : Con) : Option (Bool) :=
  (l_eqTermS a.terms b.terms).bind fun x14 => if (!x14) then (some false) else (if (a.bound != b.bound) then (some false) else (some true))
def l_eqStep (a : Step) (b : Step) : Option (Bool) :=
  if (a.kind != b.kind) then (some false) else (if (a.a != b.a) then (some false) else (if (a.b != b.b) then (some false) else ((l_eqConstraint a.given b.given).bind fun x17 => if (!x17) then (some false) else (some true))))
def l_eqStepS_b1 (b : List Step) (i_2 : Nat) (x_5 : Step) : (Unit) → Option (Lo (Unit) (Bool))
  | () => (idx b (i_2 : Int)).bind fun x11 => (l_eqStep x_5 x11).bind fun x21 => if (!x21) then (some (.out false)) else (some (.cont ()))
def l_eqStepS (a : List Step) (b : List Step) : Option (Bool) :=
  if ((a.length : Int) != (b.length : Int)) then (some false) else (((rangeL (l_eqStepS_b1 b) a 0 ()) : Option (Jn (Unit) (Bool))).bind fun j => match j with | .nx _ => (some true) | .out t => some t)
def l_eqConstraintS_b1 (b : List Con) (i_2 : Nat) (x_5 : Con) : (Unit) → Option (Lo (Unit) (Bool))
  | () => (idx b (i_2 : Int)).bind fun x11 => (l_eqConstraint x_5 x11).bind fun x21 => if (!x21) then (some (.out false)) else (some (.cont ()))
def l_eqConstraintS (a : List Con) (b : List Con) : Option (Bool) :=
  if ((a.length : Int) != (b.length : Int)) then (some false) else (((rangeL (l_eqConstraintS_b1 b) a 0 ()) : Option (Jn (Unit) (Bool))).bind fun j => match j with | .nx _ => (some true) | .out t => some t)
def l_markTermS_b1 : ((List Term) × Int × Int) → Option (Lo ((List Term) × Int × Int) (Int × (List Term)))
  | (a_5, k_6, i_7) => if decide (i_7 < (a_5.length : Int)) then ((idx a_5 i_7).bind fun x10 => (idx (a_5.set (Int.toNat i_7) ({ x10 with coef := k_6 })) i_7).bind fun x17 => some (.cont (((a_5.set (Int.toNat i_7) ({ x10 with coef := k_6 })).set (Int.toNat i_7) ({ x17 with lit := i64 (k_6 + 1) })), i64 ((i64 (k_6 + 1)) + 1), i64 (i_7 + 1)))) else (some (.brk (a_5, k_6, i_7)))
def l_markTermS (fu : Nat) (a : List Term) (k : Int) : Option (Int × (List Term)) :=
  ((whileL l_markTermS_b1 fu (a, k, 0)) : Option (Jn ((List Term) × Int × Int) (Int × (List Term)))).bind fun j => match j with | .nx (a_5, k_6, i_7) => (some (k_6, a_5)) | .out t => some t
def l_markConstraintS_b1 (fu : Nat) : ((List Con) × Int × Int) → Option (Lo ((List Con) × Int × Int) (Int × (List Con)))
  | (a_5, k_6, i_7) => if decide (i_7 < (a_5.length : Int)) then ((idx a_5 i_7).bind fun x10 => (l_markTermS fu x10.terms k_6).bind fun x20 => (idx (a_5.set (Int.toNat i_7) ({ terms := x20.2, bound := x10.bound } : Con)) i_7).bind fun x32 => some (.cont (((a_5.set (Int.toNat i_7) ({ terms := x20.2, bound := x10.bound } : Con)).set (Int.toNat i_7) ({ x32 with bound := x20.1 })), i64 (x20.1 + 1), i64 (i_7 + 1)))) else (some (.brk (a_5, k_6, i_7)))
def l_markConstraintS (fu : Nat) (a : List Con) (k : Int) : Option (Int × (List Con)) :=
  ((whileL (l_markConstraintS_b1 fu) fu (a, k, 0)) : Option (Jn ((List Con) × Int × Int) (Int × (List Con)))).bind fun j => match j with | .nx (a_5, k_6, i_7) => (some (k_6, a_5)) | .out t => some t
def l_markBoolS_b1 : ((List Bool) × Int × Int) → Option (Lo ((List Bool) × Int × Int) (Int × (List Bool)))
  | (a_5, k_6, i_7) => if decide (i_7 < (a_5.length : Int)) then ((idx a_5 i_7).bind fun x10 => some (.cont ((a_5.set (Int.toNat i_7) ((Int.tmod k_6 3) == 0)), i64 (k_6 + 1), i64 (i_7 + 1)))) else (some (.brk (a_5, k_6, i_7)))
def l_markBoolS (fu : Nat) (a : List Bool) (k : Int) : Option (Int × (List Bool)) :=
  ((whileL l_markBoolS_b1 fu (a, k, 0)) : Option (Jn ((List Bool) × Int × Int) (Int × (List Bool)))).bind fun j => match j with | .nx (a_5, k_6, i_7) => (some (k_6, a_5)) | .out t => some t
def l_markStepS_b1 (fu : Nat) (a : List Step) : ((List Step) × Int × Int) → Option (Lo ((List Step) × Int × Int) (Int × (List Step)))
  | (a_5, k_6, i_7) => if decide (i_7 < (a_5.length : Int)) then ((idx a_5 i_7).bind fun x10 => (idx (a_5.set (Int.toNat i_7) ({ x10 with kind := k_6 })) i_7).bind fun x17 => (idx ((a_5.set (Int.toNat i_7) ({ x10 with kind := k_6 })).set (Int.toNat i_7) ({ x17 with a := i64 (k_6 + 1) })) i_7).bind fun x20 => (idx (((a_5.set (Int.toNat i_7) ({ x10 with kind := k_6 })).set (Int.toNat i_7) ({ x17 with a := i64 (k_6 + 1) })).set (Int.toNat i_7) ({ x20 with b := i64 ((i64 (k_6 + 1)) + 1) })) i_7).bind fun x23 => (l_markTermS fu x23.given.terms (i64 ((i64 ((i64 (k_6 + 1)) + 1)) + 1))).bind fun x31 => (idx ((((a_5.set (Int.toNat i_7) ({ x10 with kind := k_6 })).set (Int.toNat i_7) ({ x17 with a := i64 (k_6 + 1) })).set (Int.toNat i_7) ({ x20 with b := i64 ((i64 (k_6 + 1)) + 1) })).set (Int.toNat i_7) ({ kind := x23.kind, a := x23.a, b := x23.b, given := ({ terms := x31.2, bound := x23.given.bound } : Con) } : Step)) i_7).bind fun x41 => some (.cont ((((((a_5.set (Int.toNat i_7) ({ x10 with kind := k_6 })).set (Int.toNat i_7) ({ x17 with a := i64 (k_6 + 1) })).set (Int.toNat i_7) ({ x20 with b := i64 ((i64 (k_6 + 1)) + 1) })).set (Int.toNat i_7) ({ kind := x23.kind, a := x23.a, b := x23.b, given := ({ terms := x31.2, bound := x23.given.bound } : Con) } : Step)).set (Int.toNat i_7) ({ x41 with given := { x41.given with bound := x31.1 } })), i64 (x31.1 + 1), i64 (i_7 + 1)))) else (some (.brk (a_5, k_6, i_7)))
def l_markStepS (fu : Nat) (a : List Step) (k : Int) : Option (Int × (List Step)) :=
  ((whileL (l_markStepS_b1 fu a) fu (a, k, 0)) : Option (Jn ((List Step) × Int × Int) (Int × (List Step)))).bind fun j => match j with | .nx (a_5, k_6, i_7) => (some (k_6, a_5)) | .out t => some t
def l_heldBoolS_b1 (_i_1 : Nat) (x_3 : Bool) : (Int) → Option (Lo (Int) (Int))
  | k_2 => if (x_3 != ((Int.tmod k_2 3) == 0)) then (some (.out (-1))) else (some (.cont (i64 (k_2 + 1))))
def l_heldBoolS (a : List Bool) (k : Int) : Option (Int) :=
  ((rangeL l_heldBoolS_b1 a 0 k) : Option (Jn (Int) (Int))).bind fun j => match j with | .nx k_2 => (some k_2) | .out t => some t
def l_heldTermS_b1 (_i_1 : Nat) (x_3 : Term) : (Int) → Option (Lo (Int) (Int))
  | k_2 => if (x_3.coef != k_2) then (some (.out (-1))) else (if (x_3.lit != (i64 (k_2 + 1))) then (some (.out (-1))) else (some (.cont (i64 ((i64 (k_2 + 1)) + 1)))))
def l_heldTermS (a : List Term) (k : Int) : Option (Int) :=
  ((rangeL l_heldTermS_b1 a 0 k) : Option (Jn (Int) (Int))).bind fun j => match j with | .nx k_2 => (some k_2) | .out t => some t
def l_heldStepS_b1 (a : List Step) (_i_1 : Nat) (x_3 : Step) : (Int) → Option (Lo (Int) (Int))
  | k_2 => if (x_3.kind != k_2) then (some (.out (-1))) else (if (x_3.a != (i64 (k_2 + 1))) then (some (.out (-1))) else (if (x_3.b != (i64 ((i64 (k_2 + 1)) + 1))) then (some (.out (-1))) else ((l_heldTermS x_3.given.terms (i64 ((i64 ((i64 (k_2 + 1)) + 1)) + 1))).bind fun x41 => if decide (x41 < 0) then (some (.out (-1))) else (if (x_3.given.bound != x41) then (some (.out (-1))) else (some (.cont (i64 (x41 + 1))))))))
def l_heldStepS (a : List Step) (k : Int) : Option (Int) :=
  ((rangeL (l_heldStepS_b1 a) a 0 k) : Option (Jn (Int) (Int))).bind fun j => match j with | .nx k_2 => (some k_2) | .out t => some t
def l_markConstraint (fu : Nat) (a : Con) (k : Int) : Option (Int × Con) :=
  (l_markTermS fu a.terms k).bind fun x10 => some (x10.1, ({ terms := x10.2, bound := a.bound } : Con))
def l_FnExactProveConstraint (fu : Nat) (aList : List Con) (aC : Con) (aFuel : Int) : Option (Bool) :=
  (l_szConstraintS aList 1048576).bind fun x10 => if decide (x10 < 0) then (some true) else ((l_szConstraint aC x10).bind fun x24 => if decide (x24 < 0) then (some true) else ((l_toConstraintS aList).bind fun x38 => (l_toConstraint aC).bind fun x46 => (s_ProveConstraint fu x38 x46 aFuel).bind fun x56 => (l_toConstraintS aList).bind fun x123 => (l_toConstraint aC).bind fun x138 => (i_ProveConstraint fu x123 x138 aFuel).bind fun x161 => (if (x161.1 != x56.1) then some true else ((l_eqBoolS x161.2.1 x56.2.1).bind fun x182 => some (!x182))).bind fun b184 => (if b184 then some true else ((l_eqStepS x161.2.2 x56.2.2).bind fun x192 => some (!x192))).bind fun b194 => if b194 then (some false) else ((l_toConstraintS aList).bind fun x229 => (l_eqConstraintS x123 x229).bind fun x239 => if (!x239) then (some false) else ((l_toConstraint aC).bind fun x262 => (l_eqConstraint x138 x262).bind fun x272 => if (!x272) then (some false) else ((l_markConstraintS fu x123 1).bind fun x304 => (l_markConstraint fu x138 x304.1).bind fun x317 => (if ((decide (x317.1 < 0)) || (x161.1 != x56.1)) then some true else ((l_eqBoolS x161.2.1 x56.2.1).bind fun x332 => some (!x332))).bind fun b334 => (if b334 then some true else ((l_eqStepS x161.2.2 x56.2.2).bind fun x342 => some (!x342))).bind fun b344 => if b344 then (some false) else ((l_markBoolS fu x161.2.1 1).bind fun x407 => (l_markStepS fu x161.2.2 x407.1).bind fun x420 => (l_heldBoolS x407.2 1).bind fun x434 => if decide (x434 < 0) then (some false) else ((l_heldStepS x420.2 x434).bind fun x450 => if decide (x450 < 0) then (some false) else (if (x450 != x420.1) then (some false) else ((l_toConstraintS aList).bind fun x466 => (l_toConstraint aC).bind fun x474 => (i_ProveConstraint fu x466 x474 aFuel).bind fun x484 => (if (x484.1 != x56.1) then some true else ((l_eqBoolS x484.2.1 x56.2.1).bind fun x553 => some (!x553))).bind fun b555 => (if b555 then some true else ((l_eqStepS x484.2.2 x56.2.2).bind fun x563 => some (!x563))).bind fun b565 => if b565 then (some false) else ((l_heldBoolS x407.2 1).bind fun x601 => if decide (x601 < 0) then (some false) else ((l_heldStepS x420.2 x601).bind fun x617 => if decide (x617 < 0) then (some false) else (if (x617 != x420.1) then (some false) else (some true)))))))))))))
end Go.L

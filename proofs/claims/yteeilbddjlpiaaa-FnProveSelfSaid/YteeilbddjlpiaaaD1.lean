/- Part of a proof by program: D1. -/
import Derived.Test.YteeilbddjlpiaaaG12
namespace Go.L
open Go Go.E
set_option linter.unusedVariables false
def s_l17Open (code : List UInt8) : Option (Rd) :=
  ((if decide ((code.length : Int) > 2000) then ((sl code 0 2000).bind fun x5 => some x5) else (some code)) : Option (List UInt8)).bind fun code_1 => some ({ b := code_1, p := 0 } : Rd)
def s_l17Rd_pick (r_ : Rd) (n_ : Int) : Option (Int × Int) :=
  if ((decide (n_ < 1)) || ((r_.b.length : Int) == 0)) then (some (0, i64 (r_.p + 1))) else (if decide ((i64 ((i64 (r_.p + 1)) - 1)) < (r_.b.length : Int)) then ((idx r_.b (i64 ((i64 (r_.p + 1)) - 1))).bind fun x7 => (if n_ = 0 then none else some ()).bind fun _ => some (Int.tmod (i64 (x7.toNat : Int)) n_, i64 (r_.p + 1))) else ((if (r_.b.length : Int) = 0 then none else some ()).bind fun _ => (idx r_.b (Int.tmod (i64 ((i64 (r_.p + 1)) - 1)) (r_.b.length : Int))).bind fun x18 => (if (r_.b.length : Int) = 0 then none else some ()).bind fun _ => (idx r_.b (Int.tmod (i64 ((i64 ((i64 ((i64 (r_.p + 1)) - 1)) * 7)) + 3)) (r_.b.length : Int))).bind fun x24 => (if (r_.b.length : Int) = 0 then none else some ()).bind fun _ => (if n_ = 0 then none else some ()).bind fun _ => some (Int.tmod (xorI .i64 (i64 ((i64 ((i64 ((i64 ((i64 (x18.toNat : Int)) * 131)) + (i64 ((i64 (x24.toNat : Int)) * 1117)))) + (i64 ((i64 ((i64 (r_.p + 1)) - 1)) * 29)))) + (i64 ((i64 (Int.tdiv (i64 ((i64 (r_.p + 1)) - 1)) (r_.b.length : Int))) * 53)))) (i64 (Int.tdiv (i64 ((i64 ((i64 ((i64 ((i64 (x18.toNat : Int)) * 131)) + (i64 ((i64 (x24.toNat : Int)) * 1117)))) + (i64 ((i64 ((i64 (r_.p + 1)) - 1)) * 29)))) + (i64 ((i64 (Int.tdiv (i64 ((i64 (r_.p + 1)) - 1)) (r_.b.length : Int))) * 53)))) 64))) n_, i64 (r_.p + 1))))
def s_l1Copy (c : Con) : Option (Con) :=
  (app ([]) c.terms).bind fun x12 => some ({ terms := x12, bound := c.bound } : Con)
def s_l17Rd_num (r_ : Rd) (list : List Int) : Option (Int × Int) :=
  (s_l17Rd_pick r_ (list.length : Int)).bind fun x6 => (idx list x6.1).bind fun x8 => some (x8, x6.2)
def s_l1Mutate (r_ : Rd) (c : Con) : Option (Con × Int) :=
  (s_l1Copy c).bind fun x14 => (s_l17Rd_pick r_ 40).bind fun x35 => ((if (x35.1 == 0) then ((s_l17Rd_num ({ b := r_.b, p := x35.2 } : Rd) ([(-1), 20001, 9223372036854775807])).bind fun x60 => some (x60.2, x14.terms, x60.1)) else (((if (x35.1 == 1) then (((if decide ((x14.terms.length : Int) > 0) then ((s_l17Rd_num ({ b := r_.b, p := x35.2 } : Rd) ([0, (-1), 1001])).bind fun x96 => (idx x14.terms 0).bind fun x98 => some (x96.2, (x14.terms.set (Int.toNat 0) ({ x98 with coef := x96.1 })))) else (some (x35.2, x14.terms))) : Option (Int × (List Term))).bind fun (g_0_1_81, g27_0_82) => some (g_0_1_81, g27_0_82)) else (((if (x35.1 == 2) then (((if decide ((x14.terms.length : Int) > 0) then ((s_l17Rd_num ({ b := r_.b, p := x35.2 } : Rd) ([0, 13, (-13), 1, (-9223372036854775808)])).bind fun x149 => (idx x14.terms (i64 ((x14.terms.length : Int) - 1))).bind fun x151 => some (x149.2, (x14.terms.set (Int.toNat (i64 ((x14.terms.length : Int) - 1))) ({ x151 with lit := x149.1 })))) else (some (x35.2, x14.terms))) : Option (Int × (List Term))).bind fun (g_0_1_134, g27_0_135) => some (g_0_1_134, g27_0_135)) else (((if (x35.1 == 3) then ((app x14.terms ([({ coef := 1, lit := 1 } : Term)])).bind fun x187 => some x187) else (some x14.terms)) : Option (List Term)).bind fun g27_0_180 => some (x35.2, g27_0_180))) : Option (Int × (List Term))).bind fun (g_0_1_127, g27_0_128) => some (g_0_1_127, g27_0_128))) : Option (Int × (List Term))).bind fun (g_0_1_74, g27_0_75) => some (g_0_1_74, g27_0_75, x14.bound))) : Option (Int × (List Term) × Int)).bind fun (g_0_1_43, g27_0_44, g27_1_46) => some (({ terms := g27_0_44, bound := g27_1_46 } : Con), g_0_1_43)
def s_l3Mutate (r_ : Rd) (list : List Con) : Option ((List Con) × Int) :=
  (app ([]) list).bind fun x4 => (if decide ((x4.length : Int) > 0) then ((s_l17Rd_pick r_ 20).bind fun x19 => some ((x19.1 == 0), x19.2)) else some (false, r_.p)).bind fun b21 => ((if b21.1 then ((s_l17Rd_pick ({ b := r_.b, p := b21.2 } : Rd) (x4.length : Int)).bind fun x41 => (idx x4 x41.1).bind fun x49 => (s_l1Mutate ({ b := r_.b, p := x41.2 } : Rd) x49).bind fun x59 => (s_l1Mutate ({ b := r_.b, p := x59.2 } : Rd) x59.1).bind fun x68 => (s_l1Mutate ({ b := r_.b, p := x68.2 } : Rd) x68.1).bind fun x77 => some ((x4.set (Int.toNat x41.1) x77.1), x77.2)) else (some (x4, b21.2))) : Option ((List Con) × Int)).bind fun (out_30, g_0_1_31) => some (out_30, g_0_1_31)
def s_l1Total_b1 (_i_5 : Nat) (x_7 : Term) : (Int) → Option (Lo (Int) (Int))
  | n_6 => some (.cont (i64 (n_6 + x_7.coef)))
def s_l1Total (c : Con) : Option (Int) :=
  ((rangeL s_l1Total_b1 c.terms 0 0) : Option (Jn (Int) (Int))).bind fun j => match j with | .nx n_6 => (some n_6) | .out t => some t
def s_l1Draw_b1 (r_ : Rd) (i_11 : Nat) : (Int × (List Term)) → Option (Lo (Int × (List Term)) (Con × Int))
  | (g_0_1_12, g8_0_13) => (s_l17Rd_pick ({ b := r_.b, p := g_0_1_12 } : Rd) 2).bind fun x24 => ((if (x24.1 == 0) then ((s_l17Rd_num ({ b := r_.b, p := x24.2 } : Rd) ([1, 1, 2, 3, 1, 5, 4])).bind fun x46 => (s_l17Rd_pick ({ b := r_.b, p := x46.2 } : Rd) 2).bind fun x69 => ((if (x69.1 == 0) then (some (i64 (-(i_11 : Int)))) else (some (i_11 : Int))) : Option (Int)).bind fun g61_1_77 => (app g8_0_13 ([({ coef := x46.1, lit := g61_1_77 } : Term)])).bind fun x85 => some (x69.2, x85)) else (some (x24.2, g8_0_13))) : Option (Int × (List Term))).bind fun (g_0_1_32, g8_0_33) => some (.cont (g_0_1_32, g8_0_33))
def s_l1Draw (r_ : Rd) (most : Int) : Option (Con × Int) :=
  (cntF 1 (most + 1)).bind fun k16 => ((countL (s_l1Draw_b1 r_) k16 1 (r_.p, [])) : Option (Jn (Int × (List Term)) (Con × Int))).bind fun j => match j with | .nx (g_0_1_12, g8_0_13) => ((s_l1Total ({ terms := g8_0_13, bound := 0 } : Con)).bind fun x103 => (s_l17Rd_num ({ b := r_.b, p := g_0_1_12 } : Rd) ([1, 2, 1, 3, 0])).bind fun x121 => (s_l17Rd_pick ({ b := r_.b, p := x121.2 } : Rd) 4).bind fun x140 => ((if (x140.1 == 0) then ((s_l17Rd_pick ({ b := r_.b, p := x140.2 } : Rd) (i64 (x103 + 2))).bind fun x157 => some (x157.2, x157.1)) else (some (x140.2, x121.1))) : Option (Int × Int)).bind fun (g_0_1_148, g8_1_149) => some (({ terms := g8_0_13, bound := g8_1_149 } : Con), g_0_1_148)) | .out t => some t
def s_l3Problem_b1 (r_ : Rd) (x16 : Int × Int) : ((List Con) × Int × Int) → Option (Lo ((List Con) × Int × Int) ((List Con) × Int))
  | (out_50, i_52, g_0_1_53) => if decide (i_52 > 0) then ((s_l1Draw ({ b := r_.b, p := g_0_1_53 } : Rd) x16.1).bind fun x61 => (app out_50 ([x61.1])).bind fun x67 => some (.cont (x67, i64 (i_52 - 1), x61.2))) else (some (.brk (out_50, i_52, g_0_1_53)))
def s_l3Problem (fu : Nat) (r_ : Rd) : Option ((List Con) × Int) :=
  (s_l17Rd_num r_ ([4, 5, 3, 6])).bind fun x16 => (s_l17Rd_num ({ b := r_.b, p := x16.2 } : Rd) ([4, 6, 3, 8, 2, 1, 0])).bind fun x37 => ((whileL (s_l3Problem_b1 r_ x16) fu ([], x37.1, x37.2)) : Option (Jn ((List Con) × Int × Int) ((List Con) × Int))).bind fun j => match j with | .nx (out_50, i_52, g_0_1_53) => (some (out_50, g_0_1_53)) | .out t => some t
def slices_IndexFunc_implConstraint_b1 (f_ : (Con → Option Bool)) (i_1 : Nat) (x_2 : Con) : (Unit) → Option (Lo (Unit) (Int))
  | () => (f_ x_2).bind fun x8 => if x8 then (some (.out (i_1 : Int))) else (some (.cont ()))
def slices_IndexFunc_implConstraint (s : List Con) (f_ : (Con → Option Bool)) : Option (Int) :=
  ((rangeL (slices_IndexFunc_implConstraint_b1 f_) s 0 ()) : Option (Jn (Unit) (Int))).bind fun j => match j with | .nx _ => (some (-1)) | .out t => some t
def slices_ContainsFunc_implConstraint (s : List Con) (f_ : (Con → Option Bool)) : Option (Bool) :=
  (slices_IndexFunc_implConstraint s f_).bind fun x6 => some (decide (x6 ≥ 0))
def i_within (n_ : Int) (low : Int) (high : Int) : Option (Bool) :=
  some ((decide (low ≤ n_)) && (decide (n_ ≤ high)))
def i_isLiteral (l : Int) : Option (Bool) :=
  (if (l != 0) then ((i_within l (-12) 12).bind fun x6 => some x6) else some false).bind fun b8 => some b8
def i_variableOf (l : Int) : Option (Int) :=
  some (max l (i64 (-l)))
def i_ConstraintValid_b1 (_i_5 : Nat) (x_7 : Term) : (Int) → Option (Lo (Int) (Bool))
  | before_6 => (i_isLiteral x_7.lit).bind fun x28 => (if (!x28) then some true else ((i_variableOf x_7.lit).bind fun x35 => some (decide (x35 ≤ before_6)))).bind fun b37 => (if b37 then some true else ((i_within x_7.coef 1 1000).bind fun x43 => some (!x43))).bind fun b45 => if b45 then (some (.out false)) else ((i_variableOf x_7.lit).bind fun x80 => some (.cont x80))
def i_ConstraintValid (c : Con) : Option (Bool) :=
  ((rangeL i_ConstraintValid_b1 c.terms 0 0) : Option (Jn (Int) (Bool))).bind fun j => match j with | .nx before_6 => ((i_within c.bound 0 20000).bind fun x93 => some x93) | .out t => some t
def i_allValid_1 (c : Con) : Option (Bool) :=
  (i_ConstraintValid c).bind fun x10 => some (!x10)
def i_allValid (list : List Con) : Option (Bool) :=
  (slices_ContainsFunc_implConstraint list i_allValid_1).bind fun x6 => some (!x6)
def i_ProblemValid (list : List Con) : Option (Bool) :=
  (if decide ((list.length : Int) ≤ 400) then ((i_allValid list).bind fun x6 => some x6) else some false).bind fun b8 => some b8
def s_l1Lit (n_ : Int) : Option (Bool) :=
  some (((n_ != 0) && (decide (n_ ≥ (-12)))) && (decide (n_ ≤ 12)))
def s_l1Abs (n_ : Int) : Option (Int) :=
  if decide (n_ < 0) then (some (i64 (-n_))) else (some n_)
def s_ConstraintValid_b1 (c : Con) (i_5 : Nat) (x_8 : Term) : (Unit) → Option (Lo (Unit) (Bool))
  | () => (s_l1Lit x_8.lit).bind fun x29 => (if (((!x29) || (decide (x_8.coef < 1))) || (decide (x_8.coef > 1000))) then some true else ((if decide ((i_5 : Int) > 0) then ((idx c.terms (i64 ((i_5 : Int) - 1))).bind fun x31 => (s_l1Abs x31.lit).bind fun x41 => (s_l1Abs x_8.lit).bind fun x48 => some (decide (x41 ≥ x48))) else some false).bind fun b50 => some b50)).bind fun b51 => if b51 then (some (.out false)) else (some (.cont ()))
def s_ConstraintValid (c : Con) : Option (Bool) :=
  ((rangeL (s_ConstraintValid_b1 c) c.terms 0 ()) : Option (Jn (Unit) (Bool))).bind fun j => match j with | .nx _ => (some ((decide (c.bound ≥ 0)) && (decide (c.bound ≤ 20000)))) | .out t => some t
def s_ProblemValid_b1 (_i_1 : Nat) (x_2 : Con) : (Unit) → Option (Lo (Unit) (Bool))
  | () => (s_ConstraintValid x_2).bind fun x13 => if (!x13) then (some (.out false)) else (some (.cont ()))
def s_ProblemValid (list : List Con) : Option (Bool) :=
  ((rangeL s_ProblemValid_b1 list 0 ()) : Option (Jn (Unit) (Bool))).bind fun j => match j with | .nx _ => (some (decide ((list.length : Int) ≤ 400))) | .out t => some t
def l_cpBools_b1 (b : List Bool) (i_2 : Nat) (x_5 : Bool) : (Unit) → Option (Lo (Unit) (Bool))
  | () => (idx b (i_2 : Int)).bind fun x11 => if (x_5 != x11) then (some (.out false)) else (some (.cont ()))
def l_cpBools (a : List Bool) (b : List Bool) : Option (Bool) :=
  if ((a.length : Int) != (b.length : Int)) then (some false) else (((rangeL (l_cpBools_b1 b) a 0 ()) : Option (Jn (Unit) (Bool))).bind fun j => match j with | .nx _ => (some true) | .out t => some t)
def i_isFuel (fuel : Int) : Option (Bool) :=
  (i_within fuel 0 2000).bind fun x6 => some x6
def slices_Clone_implConstraint (s : List Con) : Option (List Con) :=
  (app ([]) s).bind fun x7 => some x7
def slices_Clone_int (s : List Int) : Option (List Int) :=
  (app ([]) s).bind fun x7 => some x7
def i_under (l : Int) (p : List Int) : Option (Int) :=
  if decide (l < 0) then ((idx p (i64 ((i64 (-l)) - 1))).bind fun x2 => some (i64 (-x2))) else ((idx p (i64 (l - 1))).bind fun x11 => some x11)
def i_Constraint_slack_b1 (p : List Int) (_i_5 : Nat) (x_7 : Term) : (Int) → Option (Lo (Int) (Int))
  | out_6 => (i_under x_7.lit p).bind fun x28 => ((if decide (x28 ≥ 0) then (some (i64 (out_6 + x_7.coef))) else (some out_6)) : Option (Int)).bind fun out_36 => some (.cont out_36)
def i_Constraint_slack (c : Con) (p : List Int) : Option (Int) :=
  ((rangeL (i_Constraint_slack_b1 p) c.terms 0 (i64 (-c.bound))) : Option (Jn (Int) (Int))).bind fun j => match j with | .nx out_6 => (some out_6) | .out t => some t
def i_Constraint_implied_b1 (p : List Int) (x10 : Int) (_i_18 : Nat) (x_21 : Term) : (List Int) → Option (Lo (List Int) (List Int))
  | out_19 => (i_under x_21.lit p).bind fun x43 => ((if ((x43 == 0) && (decide (x_21.coef > x10))) then ((app out_19 ([x_21.lit])).bind fun x60 => some x60) else (some out_19)) : Option (List Int)).bind fun out_53 => some (.cont out_53)
def i_Constraint_implied (c : Con) (p : List Int) : Option (List Int) :=
  (i_Constraint_slack c p).bind fun x10 => ((rangeL (i_Constraint_implied_b1 p x10) c.terms 0 ([])) : Option (Jn (List Int) (List Int))).bind fun j => match j with | .nx out_19 => (some out_19) | .out t => some t
def i_propagate_b3 (_i_73 : Nat) (x_76 : Int) : ((List Int) × Bool) → Option (Lo ((List Int) × Bool) (Lo ((List Int) × Bool) (Lo ((List Int) × Bool) ((List Int) × Int))))
  | (out_74, made_75) => ((if decide (x_76 > 0) then ((idx out_74 (i64 (x_76 - 1))).bind fun x89 => some (out_74.set (Int.toNat (i64 (x_76 - 1))) 1)) else ((idx out_74 (i64 ((i64 (-x_76)) - 1))).bind fun x96 => some (out_74.set (Int.toNat (i64 ((i64 (-x_76)) - 1))) (-1)))) : Option (List Int)).bind fun out_86 => some (.cont (out_86, true))
def i_propagate_b2 (i_21 : Nat) (x_24 : Con) : ((List Int) × Bool) → Option (Lo ((List Int) × Bool) (Lo ((List Int) × Bool) ((List Int) × Int)))
  | (out_22, made_23) => (i_Constraint_slack x_24 out_22).bind fun x46 => if decide (x46 < 0) then (some (.out (.out (out_22, (i_21 : Int))))) else ((i_Constraint_implied x_24 out_22).bind fun x62 => ((rangeL i_propagate_b3 x62 0 (out_22, made_23)) : Option (Jn ((List Int) × Bool) (Lo ((List Int) × Bool) (Lo ((List Int) × Bool) ((List Int) × Int))))).bind fun j => match j with | .nx (out_74, made_75) => (some (.cont (out_74, made_75))) | .out t => some t)
def i_propagate_b1 (list : List Con) : ((List Int) × Bool) → Option (Lo ((List Int) × Bool) ((List Int) × Int))
  | (out_17, made_18) => if made_18 then (((rangeL i_propagate_b2 list 0 (out_17, false)) : Option (Jn ((List Int) × Bool) (Lo ((List Int) × Bool) ((List Int) × Int)))).bind fun j => match j with | .nx (out_22, made_23) => (some (.cont (out_22, made_23))) | .out t => some t) else (some (.brk (out_17, made_18)))
def i_propagate (fu : Nat) (list : List Con) (p : List Int) : Option ((List Int) × Int) :=
  (slices_Clone_int p).bind fun x6 => ((whileL (i_propagate_b1 list) fu (x6, true)) : Option (Jn ((List Int) × Bool) ((List Int) × Int))).bind fun j => match j with | .nx (out_17, made_18) => (some (out_17, (-1))) | .out t => some t
def i_valuesOf_b1 (i_1 : Nat) (x_4 : Int) : (List Bool) → Option (Lo (List Bool) ((List Bool) × Int × Bool))
  | out_2 => if (x_4 == 0) then (some (.out ([], i64 ((i_1 : Int) + 1), false))) else ((app out_2 ([decide (x_4 > 0)])).bind fun x20 => some (.cont x20))
def i_valuesOf (p : List Int) : Option ((List Bool) × Int × Bool) :=
  ((rangeL i_valuesOf_b1 p 0 ([])) : Option (Jn (List Bool) ((List Bool) × Int × Bool))).bind fun j => match j with | .nx out_2 => (some (out_2, 0, true)) | .out t => some t
def slices_Index_int_b1 (v_ : Int) (i_1 : Nat) (x_2 : Int) : (Unit) → Option (Lo (Unit) (Int))
  | () => if (v_ == x_2) then (some (.out (i_1 : Int))) else (some (.cont ()))
def slices_Index_int (s : List Int) (v_ : Int) : Option (Int) :=
  ((rangeL (slices_Index_int_b1 v_) s 0 ()) : Option (Jn (Unit) (Int))).bind fun j => match j with | .nx _ => (some (-1)) | .out t => some t
def slices_Contains_int (s : List Int) (v_ : Int) : Option (Bool) :=
  (slices_Index_int s v_).bind fun x6 => some (decide (x6 ≥ 0))
def slices_insertionSortCmpFunc_int_b2 (a : Int) (cmp : (Int → Int → Option Int)) : ((List Int) × Int) → Option (Lo ((List Int) × Int) (Lo ((List Int) × Int) (List Int)))
  | (data_9, j_10) => (if decide (j_10 > a) then ((idx data_9 j_10).bind fun x14 => (idx data_9 (i64 (j_10 - 1))).bind fun x19 => (cmp x14 x19).bind fun x22 => some (decide (x22 < 0))) else some false).bind fun b29 => if b29 then ((idx data_9 (i64 (j_10 - 1))).bind fun x52 => (idx data_9 j_10).bind fun x57 => (idx (data_9.set (Int.toNat j_10) x52) (i64 (j_10 - 1))).bind fun x61 => some (.cont (((data_9.set (Int.toNat j_10) x52).set (Int.toNat (i64 (j_10 - 1))) x57), i64 (j_10 - 1)))) else (some (.brk (data_9, j_10)))
def slices_insertionSortCmpFunc_int_b1 (fu : Nat) (a : Int) (b : Int) (cmp : (Int → Int → Option Int)) : ((List Int) × Int) → Option (Lo ((List Int) × Int) (List Int))
  | (data_2, i_3) => if decide (i_3 < b) then (((whileL (slices_insertionSortCmpFunc_int_b2 a cmp) fu (data_2, i_3)) : Option (Jn ((List Int) × Int) (Lo ((List Int) × Int) (List Int)))).bind fun j => match j with | .nx (data_9, j_10) => (some (.cont (data_9, i64 (i_3 + 1)))) | .out t => some t) else (some (.brk (data_2, i_3)))
def slices_insertionSortCmpFunc_int (fu : Nat) (data : List Int) (a : Int) (b : Int) (cmp : (Int → Int → Option Int)) : Option (List Int) :=
  ((whileL (slices_insertionSortCmpFunc_int_b1 fu a b cmp) fu (data, i64 (a + 1))) : Option (Jn ((List Int) × Int) (List Int))).bind fun j => match j with | .nx (data_2, i_3) => (some data_2) | .out t => some t
def slices_nextPowerOfTwo (length : Int) : Option (Int) :=
  (bits_Len (IntKind.u64.wrap length)).bind fun x6 => (if x6 < 0 then none else some ()).bind fun _ => some (IntKind.u64.wrap (1 * 2 ^ (min (Int.toNat x6) (IntKind.bits .u64))))
def slices_pdqsortCmpFunc_int_b1 (fu : Nat) (data : List Int) (a : Int) (b : Int) (cmp : (Int → Int → Option Int)) : (Unit) → Option (Lo (Unit) (List Int))
  | () => if decide ((i64 (b - a)) ≤ 12) then ((slices_insertionSortCmpFunc_int fu data a b cmp).bind fun x9 => some (.out x9)) else (none)
def slices_pdqsortCmpFunc_int (fu : Nat) (data : List Int) (a : Int) (b : Int) (_limit : Int) (cmp : (Int → Int → Option Int)) : Option (List Int) :=
  ((whileL (slices_pdqsortCmpFunc_int_b1 fu data a b cmp) fu ()) : Option (Jn (Unit) (List Int))).bind fun j => match j with | .nx _ => (some data) | .out t => some t
def slices_SortFunc_int (fu : Nat) (x : List Int) (cmp : (Int → Int → Option Int)) : Option (List Int) :=
  (bits_Len (IntKind.u64.wrap (x.length : Int))).bind fun x6 => (slices_pdqsortCmpFunc_int fu x 0 (x.length : Int) x6 cmp).bind fun x13 => some x13
def i_ClauseOf_1 (a : Int) (b : Int) : Option (Int) :=
  (i_variableOf a).bind fun x6 => (i_variableOf b).bind fun x13 => some (i64 (x6 - x13))
def slices_Compact_int_b1 (s : List Int) (i_2 : Nat) : (Unit) → Option (Lo (Unit) (List Int))
  | () => (idx s (i_2 : Int)).bind fun x8 => (idx s (i64 ((i_2 : Int) - 1))).bind fun x13 => ((if (x8 == x13) then (none) else (some ())) : Option (Unit)).bind fun _ => some (.cont ())
def slices_Compact_int (s : List Int) : Option (List Int) :=
  if decide ((s.length : Int) < 2) then (some s) else ((cntF 1 (s.length : Int)).bind fun k6 => ((countL (slices_Compact_int_b1 s) k6 1 ()) : Option (Jn (Unit) (List Int))).bind fun j => match j with | .nx _ => (some s) | .out t => some t)
def i_ClauseOf_b1 (lits : List Int) (_i_9 : Nat) (x_10 : Int) : (Unit) → Option (Lo (Unit) (Con × Bool))
  | () => (i_isLiteral x_10).bind fun x25 => (if (!x25) then some true else ((slices_Contains_int lits (i64 (-x_10))).bind fun x32 => some x32)).bind fun b34 => if b34 then (some (.out (({ terms := [], bound := 0 } : Con), false))) else (some (.cont ()))
def i_ClauseOf_b2 (_i_97 : Nat) (x_100 : Int) : (List Term) → Option (Lo (List Term) (Con × Bool))
  | g85_0_98 => (app g85_0_98 ([({ coef := 1, lit := x_100 } : Term)])).bind fun x114 => some (.cont x114)
def i_ClauseOf (fu : Nat) (lits : List Int) : Option (Con × Bool) :=
  if decide ((lits.length : Int) > 40) then (some (({ terms := [], bound := 0 } : Con), false)) else (((rangeL (i_ClauseOf_b1 lits) lits 0 ()) : Option (Jn (Unit) (Con × Bool))).bind fun j => match j with | .nx _ => ((slices_Clone_int lits).bind fun x58 => (slices_SortFunc_int fu x58 i_ClauseOf_1).bind fun x73 => (slices_Compact_int x73).bind fun x91 => ((rangeL i_ClauseOf_b2 x91 0 ([])) : Option (Jn (List Term) (Con × Bool))).bind fun j => match j with | .nx g85_0_98 => (some (({ terms := g85_0_98, bound := 1 } : Con), true)) | .out t => some t) | .out t => some t)
def slices_Clone_implTerm (s : List Term) : Option (List Term) :=
  (app ([]) s).bind fun x7 => some x7
def i_Constraint_own (c : Con) : Option (Con) :=
  (slices_Clone_implTerm c.terms).bind fun x14 => some ({ terms := x14, bound := c.bound } : Con)
def i_searching_fail_b1 (_i_1 : Nat) (x_4 : Int) : (List Int) → Option (Lo (List Int) ((List Con) × (List Step)))
  | lits_2 => (app lits_2 ([i64 (-x_4)])).bind fun x18 => some (.cont x18)
def i_searching_fail (fu : Nat) (s : Srch) (decisions : List Int) : Option ((List Con) × (List Step)) :=
  ((rangeL i_searching_fail_b1 decisions 0 ([])) : Option (Jn (List Int) ((List Con) × (List Step)))).bind fun j => match j with | .nx lits_2 => ((i_ClauseOf fu lits_2).bind fun x34 => (app s.list ([x34.1])).bind fun x57 => (i_Constraint_own x34.1).bind fun x83 => (app s.steps ([({ kind := 7, a := 0, b := 0, given := x83 } : Step)])).bind fun x89 => some (x57, x89)) | .out t => some t
def i_searching_visit_b1 (_i_16 : Nat) (x_18 : Int) : (List Int) → Option (Lo (List Int) ((List Bool) × Bool × (List Con) × Int × (List Step) × Bool))
  | p_17 => (i_variableOf x_18).bind fun x33 => (idx p_17 (i64 (x33 - 1))).bind fun x35 => ((if decide (x_18 < 0) then ((idx (p_17.set (Int.toNat (i64 (x33 - 1))) 1) (i64 ((i64 (-x_18)) - 1))).bind fun x51 => some ((p_17.set (Int.toNat (i64 (x33 - 1))) 1).set (Int.toNat (i64 ((i64 (-x_18)) - 1))) (-1))) else (some (p_17.set (Int.toNat (i64 (x33 - 1))) 1))) : Option (List Int)).bind fun p_48 => some (.cont p_48)
def i_searching_visit_b2 (decisions : List Int) (rec_ : (Srch → (List Int) → Option ((List Bool) × Bool × (List Con) × Int × (List Step) × Bool))) (_i_107 : Nat) (x_116 : Int) : ((List Con) × Int × (List Step) × Bool) → Option (Lo ((List Con) × Int × (List Step) × Bool) (Jn ((List Con) × Int × (List Step) × Bool) ((List Bool) × Bool × (List Con) × Int × (List Step) × Bool)))
  | (g_0_0_108, g_0_1_110, g_0_2_111, g_0_3_113) => (slices_Clone_int decisions).bind fun x127 => (app x127 ([x_116])).bind fun x133 => (rec_ ({ list := g_0_0_108, fuel := g_0_1_110, steps := g_0_2_111, much := g_0_3_113 } : Srch) x133).bind fun x140 => if (x140.2.1 || x140.2.2.2.2.2) then (some (.out (.out (x140.1, x140.2.1, x140.2.2.1, x140.2.2.2.1, x140.2.2.2.2.1, x140.2.2.2.2.2)))) else (some (.cont (x140.2.2.1, x140.2.2.2.1, x140.2.2.2.2.1, x140.2.2.2.2.2)))
def i_searching_visit_F (fu : Nat) (rec_ : Srch → (List Int) → Option ((List Bool) × Bool × (List Con) × Int × (List Step) × Bool)) (s : Srch) (decisions : List Int) : Option ((List Bool) × Bool × (List Con) × Int × (List Step) × Bool) :=
  if ((s.fuel == 0) || (decide ((s.steps.length : Int) ≥ 1000))) then (some ([], false, s.list, s.fuel, s.steps, true)) else ((mkN 12 0).bind fun x9 => ((rangeL i_searching_visit_b1 decisions 0 x9) : Option (Jn (List Int) ((List Bool) × Bool × (List Con) × Int × (List Step) × Bool))).bind fun j => match j with | .nx p_17 => ((i_propagate fu s.list p_17).bind fun x61 => ((if decide (x61.2 < 0) then ((i_valuesOf x61.1).bind fun x89 => if x89.2.2 then (some (.out (x89.1, true, s.list, i64 (s.fuel - 1), s.steps, s.much))) else (((rangeL (i_searching_visit_b2 decisions rec_) ([x89.2.1, i64 (-x89.2.1)]) 0 (s.list, i64 (s.fuel - 1), s.steps, s.much)) : Option (Jn ((List Con) × Int × (List Step) × Bool) (Jn ((List Con) × Int × (List Step) × Bool) ((List Bool) × Bool × (List Con) × Int × (List Step) × Bool)))).bind fun j => match j with | .nx (g_0_0_108, g_0_1_110, g_0_2_111, g_0_3_113) => (if decide ((g_0_2_111.length : Int) ≥ 1000) then (some (.out ([], false, g_0_0_108, g_0_1_110, g_0_2_111, true))) else (some (.nx (g_0_0_108, g_0_1_110, g_0_2_111, g_0_3_113)))) | .out t => some t)) else (some (.nx (s.list, i64 (s.fuel - 1), s.steps, s.much)))) : Option (Jn ((List Con) × Int × (List Step) × Bool) ((List Bool) × Bool × (List Con) × Int × (List Step) × Bool))).bind fun j => match j with | .nx (g_0_0_73, g_0_1_75, g_0_2_76, g_0_3_78) => ((i_searching_fail fu ({ list := g_0_0_73, fuel := g_0_1_75, steps := g_0_2_76, much := g_0_3_78 } : Srch) decisions).bind fun x172 => some ([], false, x172.1, g_0_1_75, x172.2, g_0_3_78)) | .out t => some t) | .out t => some t)
def i_searching_visit_R (fu : Nat) : Nat → Srch → (List Int) → Option ((List Bool) × Bool × (List Con) × Int × (List Step) × Bool)
  | 0 => fun _ _ => none
  | n + 1 => i_searching_visit_F fu (i_searching_visit_R fu n)
def i_searching_visit (fu : Nat) (s : Srch) (decisions : List Int) : Option ((List Bool) × Bool × (List Con) × Int × (List Step) × Bool) := i_searching_visit_R fu fu s decisions
def i_SolveProblem (fu : Nat) (list : List Con) (fuel : Int) : Option (Int × (List Bool) × (List Step)) :=
  (i_ProblemValid list).bind fun x6 => (if (!x6) then some true else ((i_isFuel fuel).bind fun x13 => some (!x13))).bind fun b15 => if b15 then (some (3, [], [])) else ((slices_Clone_implConstraint list).bind fun x33 => (i_searching_visit fu ({ list := x33, fuel := fuel, steps := [], much := false } : Srch) ([])).bind fun x43 => if x43.2.1 then (some (1, x43.1, [])) else (if x43.2.2.2.2.2 then (some (0, [], [])) else (some (2, [], x43.2.2.2.2.1))))
def s_l5Fuel (r_ : Rd) : Option (Int × Int) :=
  (s_l17Rd_num r_ ([200, 100, 300, 2, 5, 0, 1, (-1), 2001])).bind fun x10 => some (x10.1, x10.2)
def s_l3Assign (p : List Int) (lit : Int) : Option (List Int) :=
  ((if decide (lit > 0) then ((idx p (i64 (lit - 1))).bind fun x4 => some (p.set (Int.toNat (i64 (lit - 1))) 1)) else ((idx p (i64 ((i64 (-lit)) - 1))).bind fun x11 => some (p.set (Int.toNat (i64 ((i64 (-lit)) - 1))) (-1)))) : Option (List Int)).bind fun kp_1 => some kp_1
def s_l3State (p : List Int) (lit : Int) : Option (Int) :=
  if decide (lit > 0) then ((idx p (i64 (lit - 1))).bind fun x2 => some x2) else ((idx p (i64 ((i64 (-lit)) - 1))).bind fun x11 => some (i64 (-x11)))
def s_l3Slack_b1 (p : List Int) (_i_5 : Nat) (x_7 : Term) : (Int) → Option (Lo (Int) (Int))
  | n_6 => (s_l3State p x_7.lit).bind fun x18 => ((if decide (x18 ≥ 0) then (some (i64 (n_6 + x_7.coef))) else (some n_6)) : Option (Int)).bind fun n_30 => some (.cont n_30)
def s_l3Slack (c : Con) (p : List Int) : Option (Int) :=
  ((rangeL (s_l3Slack_b1 p) c.terms 0 (i64 (-c.bound))) : Option (Jn (Int) (Int))).bind fun j => match j with | .nx n_6 => (some n_6) | .out t => some t
def s_l3Implied_b1 (c : Con) (p : List Int) (x16 : Int) : ((List Int) × Int) → Option (Lo ((List Int) × Int) (List Int))
  | (out_27, i_29) => if ((decide (i_29 < (c.terms.length : Int))) && (decide (x16 ≥ 0))) then ((idx c.terms i_29).bind fun x34 => (s_l3State p x34.lit).bind fun x44 => ((if ((x44 == 0) && (decide (x34.coef > x16))) then ((app out_27 ([x34.lit])).bind fun x77 => some x77) else (some out_27)) : Option (List Int)).bind fun out_66 => some (.cont (out_66, i64 (i_29 + 1)))) else (some (.brk (out_27, i_29)))
def s_l3Implied (fu : Nat) (c : Con) (p : List Int) : Option (List Int) :=
  (s_l3Slack c p).bind fun x16 => ((whileL (s_l3Implied_b1 c p x16) fu ([], 0)) : Option (Jn ((List Int) × Int) (List Int))).bind fun j => match j with | .nx (out_27, i_29) => (some out_27) | .out t => some t
def s_l3Propagate_b3 (_i_60 : Nat) (x_63 : Int) : ((List Int) × Bool) → Option (Lo ((List Int) × Bool) (Lo ((List Int) × Bool) (Lo ((List Int) × Bool) (Int × (List Int)))))
  | (p_61, changed_62) => (s_l3Assign p_61 x_63).bind fun x74 => some (.cont (x74, true))
def s_l3Propagate_b2 (fu : Nat) (i_6 : Nat) (x_9 : Con) : ((List Int) × Bool) → Option (Lo ((List Int) × Bool) (Lo ((List Int) × Bool) (Int × (List Int))))
  | (p_7, changed_8) => (s_l3Slack x_9 p_7).bind fun x21 => if decide (x21 < 0) then (some (.out (.out ((i_6 : Int), p_7)))) else ((s_l3Implied fu x_9 p_7).bind fun x45 => ((rangeL s_l3Propagate_b3 x45 0 (p_7, changed_8)) : Option (Jn ((List Int) × Bool) (Lo ((List Int) × Bool) (Lo ((List Int) × Bool) (Int × (List Int)))))).bind fun j => match j with | .nx (p_61, changed_62) => (some (.cont (p_61, changed_62))) | .out t => some t)
def s_l3Propagate_b1 (fu : Nat) (list : List Con) : ((List Int) × Bool) → Option (Lo ((List Int) × Bool) (Int × (List Int)))
  | (p_2, changed_3) => if changed_3 then (((rangeL (s_l3Propagate_b2 fu) list 0 (p_2, false)) : Option (Jn ((List Int) × Bool) (Lo ((List Int) × Bool) (Int × (List Int))))).bind fun j => match j with | .nx (p_7, changed_8) => (some (.cont (p_7, changed_8))) | .out t => some t) else (some (.brk (p_2, changed_3)))
def s_l3Propagate (fu : Nat) (list : List Con) (p : List Int) : Option (Int × (List Int)) :=
  ((whileL (s_l3Propagate_b1 fu list) fu (p, true)) : Option (Jn ((List Int) × Bool) (Int × (List Int)))).bind fun j => match j with | .nx (p_2, changed_3) => (some ((-1), p_2)) | .out t => some t
def s_ClauseOf_b1 (_i_16 : Nat) (x_20 : Int) : (List Int) → Option (Lo (List Int) (Con × Bool))
  | seen_17 => (s_l1Lit x_20).bind fun x31 => if (!x31) then (some (.out (({ terms := [], bound := 0 } : Con), false))) else ((s_l1Abs x_20).bind fun x56 => (idx seen_17 x56).bind fun x68 => if (x68 == (i64 (-x_20))) then (some (.out (({ terms := [], bound := 0 } : Con), false))) else (some (.cont (seen_17.set (Int.toNat x56) x_20))))
def s_ClauseOf_b2 (seen_17 : List Int) (i_114 : Nat) : (List Term) → Option (Lo (List Term) (Con × Bool))
  | g111_0_115 => (idx seen_17 (i_114 : Int)).bind fun x123 => ((if (x123 != 0) then ((app g111_0_115 ([({ coef := 1, lit := x123 } : Term)])).bind fun x143 => some x143) else (some g111_0_115)) : Option (List Term)).bind fun g111_0_132 => some (.cont g111_0_132)
def s_ClauseOf (lits : List Int) : Option (Con × Bool) :=
  (mkN 13 0).bind fun x5 => if decide ((lits.length : Int) > 40) then (some (({ terms := [], bound := 0 } : Con), false)) else (((rangeL s_ClauseOf_b1 lits 0 x5) : Option (Jn (List Int) (Con × Bool))).bind fun j => match j with | .nx seen_17 => ((cntF 1 (12 + 1)).bind fun k120 => ((countL (s_ClauseOf_b2 seen_17) k120 1 ([])) : Option (Jn (List Term) (Con × Bool))).bind fun j => match j with | .nx g111_0_115 => (some (({ terms := g111_0_115, bound := 1 } : Con), true)) | .out t => some t) | .out t => some t)
def s_l5Learn_b1 (_i_15 : Nat) (x_18 : Int) : (List Int) → Option (Lo (List Int) (Sst))
  | lits_16 => (app lits_16 ([i64 (-x_18)])).bind fun x27 => some (.cont x27)
def s_l5Learn (s : Sst) (decisions : List Int) : Option (Sst) :=
  ((rangeL s_l5Learn_b1 decisions 0 ([])) : Option (Jn (List Int) (Sst))).bind fun j => match j with | .nx lits_16 => ((s_ClauseOf lits_16).bind fun x47 => (app s.list ([x47.1])).bind fun x72 => (app s.steps ([({ kind := 7, a := 0, b := 0, given := x47.1 } : Step)])).bind fun x92 => some ({ list := x72, steps := x92, fuel := s.fuel } : Sst)) | .out t => some t
def s_l5Free_b1 (i_1 : Nat) (x_2 : Int) : (Unit) → Option (Lo (Unit) (Int))
  | () => if (x_2 == 0) then (some (.out (i64 ((i_1 : Int) + 1)))) else (some (.cont ()))
def s_l5Free (p : List Int) : Option (Int) :=
  ((rangeL s_l5Free_b1 p 0 ()) : Option (Jn (Unit) (Int))).bind fun j => match j with | .nx _ => (some 0) | .out t => some t
def s_l5Search_b1 (_i_29 : Nat) (x_31 : Int) : (List Int) → Option (Lo (List Int) (Sst × Int × (List Bool)))
  | p_30 => (s_l3Assign p_30 x_31).bind fun x42 => some (.cont x42)
def s_l5Search_b2 (_i_107 : Nat) (x_110 : Int) : (List Bool) → Option (Lo (List Bool) (Sst × Int × (List Bool)))
  | values_108 => (app values_108 ([decide (x_110 > 0)])).bind fun x119 => some (.cont x119)
def s_l5Search_b3 (decisions : List Int) (rec_ : (Sst → (List Int) → Option (Sst × Int × (List Bool)))) (_i_141 : Nat) (x_149 : Int) : ((List Con) × (List Step) × Int) → Option (Lo ((List Con) × (List Step) × Int) (Sst × Int × (List Bool)))
  | (g5_0_142, g5_1_144, g5_2_146) => (app ([]) decisions).bind fun x164 => (app x164 ([x_149])).bind fun x171 => (rec_ ({ list := g5_0_142, steps := g5_1_144, fuel := g5_2_146 } : Sst) x171).bind fun x178 => if (x178.2.1 != 2) then (some (.out (x178.1, x178.2.1, x178.2.2))) else (some (.cont (x178.1.list, x178.1.steps, x178.1.fuel)))
def s_l5Search_F (fu : Nat) (rec_ : Sst → (List Int) → Option (Sst × Int × (List Bool))) (s : Sst) (decisions : List Int) : Option (Sst × Int × (List Bool)) :=
  if ((s.fuel == 0) || (decide ((s.steps.length : Int) ≥ 1000))) then (some (s, 0, [])) else ((mkN 12 0).bind fun x22 => ((rangeL s_l5Search_b1 decisions 0 x22) : Option (Jn (List Int) (Sst × Int × (List Bool)))).bind fun j => match j with | .nx p_30 => ((s_l3Propagate fu s.list p_30).bind fun x60 => if decide (x60.1 ≥ 0) then ((s_l5Learn ({ list := s.list, steps := s.steps, fuel := i64 (s.fuel - 1) } : Sst) decisions).bind fun x70 => some (x70, 2, [])) else ((s_l5Free x60.2).bind fun x91 => if (x91 == 0) then (((rangeL s_l5Search_b2 x60.2 0 ([])) : Option (Jn (List Bool) (Sst × Int × (List Bool)))).bind fun j => match j with | .nx values_108 => (some (({ list := s.list, steps := s.steps, fuel := i64 (s.fuel - 1) } : Sst), 1, values_108)) | .out t => some t) else (((rangeL (s_l5Search_b3 decisions rec_) ([x91, i64 (-x91)]) 0 (s.list, s.steps, i64 (s.fuel - 1))) : Option (Jn ((List Con) × (List Step) × Int) (Sst × Int × (List Bool)))).bind fun j => match j with | .nx (g5_0_142, g5_1_144, g5_2_146) => (if decide ((g5_1_144.length : Int) ≥ 1000) then (some (({ list := g5_0_142, steps := g5_1_144, fuel := g5_2_146 } : Sst), 0, [])) else ((s_l5Learn ({ list := g5_0_142, steps := g5_1_144, fuel := g5_2_146 } : Sst) decisions).bind fun x251 => some (x251, 2, []))) | .out t => some t))) | .out t => some t)
def s_l5Search_R (fu : Nat) : Nat → Sst → (List Int) → Option (Sst × Int × (List Bool))
  | 0 => fun _ _ => none
  | n + 1 => s_l5Search_F fu (s_l5Search_R fu n)
def s_l5Search (fu : Nat) (s : Sst) (decisions : List Int) : Option (Sst × Int × (List Bool)) := s_l5Search_R fu fu s decisions
def s_SolveProblem_b1 (_i_74 : Nat) (x_77 : Step) : (List Step) → Option (Lo (List Step) (Int × (List Bool) × (List Step)))
  | out_75 => (s_l1Copy x_77.given).bind fun x98 => (app out_75 ([({ kind := x_77.kind, a := x_77.a, b := x_77.b, given := x98 } : Step)])).bind fun x113 => some (.cont x113)
def s_SolveProblem (fu : Nat) (list : List Con) (fuel : Int) : Option (Int × (List Bool) × (List Step)) :=
  (s_ProblemValid list).bind fun x6 => if (((!x6) || (decide (fuel < 0))) || (decide (fuel > 2000))) then (some (3, [], [])) else ((app ([]) list).bind fun x34 => (s_l5Search fu ({ list := x34, steps := [], fuel := fuel } : Sst) ([])).bind fun x39 => if (x39.2.1 != 2) then (some (x39.2.1, x39.2.2, [])) else (((rangeL s_SolveProblem_b1 x39.1.steps 0 ([])) : Option (Jn (List Step) (Int × (List Bool) × (List Step)))).bind fun j => match j with | .nx out_75 => (some (x39.2.1, [], out_75)) | .out t => some t))
def s_l1Net_b1 (_i_8 : Nat) (x_13 : Term) : (Int × (List Int)) → Option (Lo (Int × (List Int)) ((List Int) × Int))
  | (bound_9, net_10) => ((if decide (x_13.lit > 0) then ((idx net_10 x_13.lit).bind fun x35 => some (bound_9, (net_10.set (Int.toNat x_13.lit) (i64 (x35 + x_13.coef))))) else ((idx net_10 (i64 (-x_13.lit))).bind fun x49 => some (i64 (bound_9 - x_13.coef), (net_10.set (Int.toNat (i64 (-x_13.lit))) (i64 (x49 - x_13.coef)))))) : Option (Int × (List Int))).bind fun (bound_29, net_30) => some (.cont (bound_29, net_30))
def s_l1Net (terms : List Term) (bound : Int) : Option ((List Int) × Int) :=
  (mkN 13 0).bind fun x1 => ((rangeL s_l1Net_b1 terms 0 (bound, x1)) : Option (Jn (Int × (List Int)) ((List Int) × Int))).bind fun j => match j with | .nx (bound_9, net_10) => (some (net_10, bound_9)) | .out t => some t
def s_l1Normal_b1 (net : List Int) (i_11 : Nat) : (Int × (List Term)) → Option (Lo (Int × (List Term)) (Con × Bool))
  | (bound_12, g8_0_13) => (idx net (i_11 : Int)).bind fun x21 => ((if decide (x21 > 0) then ((app g8_0_13 ([({ coef := x21, lit := (i_11 : Int) } : Term)])).bind fun x43 => some x43) else (some g8_0_13)) : Option (List Term)).bind fun g8_0_30 => ((if decide (x21 < 0) then ((app g8_0_30 ([({ coef := i64 (-x21), lit := i64 (-(i_11 : Int)) } : Term)])).bind fun x92 => some (i64 (bound_12 - x21), x92)) else (some (bound_12, g8_0_30))) : Option (Int × (List Term))).bind fun (bound_78, g8_0_79) => some (.cont (bound_78, g8_0_79))
def s_l1Normal (net : List Int) (bound : Int) : Option (Con × Bool) :=
  (cntF 1 (12 + 1)).bind fun k18 => ((countL (s_l1Normal_b1 net) k18 1 (bound, [])) : Option (Jn (Int × (List Term)) (Con × Bool))).bind fun j => match j with | .nx (bound_12, g8_0_13) => (((if decide (bound_12 < 0) then (some 0) else (some bound_12)) : Option (Int)).bind fun bound_127 => (s_ConstraintValid ({ terms := g8_0_13, bound := bound_127 } : Con)).bind fun x138 => if (!x138) then (some (({ terms := [], bound := 0 } : Con), false)) else (some (({ terms := g8_0_13, bound := bound_127 } : Con), true))) | .out t => some t
def s_AddConstraints (a : Con) (b : Con) : Option (Con × Bool) :=
  (s_ConstraintValid a).bind fun x18 => (if (!x18) then some true else ((s_ConstraintValid b).bind fun x25 => some (!x25))).bind fun b27 => if b27 then (some (({ terms := [], bound := 0 } : Con), false)) else ((app ([]) a.terms).bind fun x49 => (app x49 b.terms).bind fun x53 => (s_l1Net x53 (i64 (a.bound + b.bound))).bind fun x63 => (s_l1Normal x63.1 x63.2).bind fun x115 => some (x115.1, x115.2))
def s_DrawProveConstraint (fu : Nat) (code : List UInt8) : Option ((List Con) × Con × Int) :=
  (s_l17Open code).bind fun x5 => (s_l3Problem fu x5).bind fun x13 => (s_l3Mutate ({ b := x5.b, p := x13.2 } : Rd) x13.1).bind fun x19 => (s_l1Draw ({ b := x5.b, p := x19.2 } : Rd) 4).bind fun x39 => (s_l1Mutate ({ b := x5.b, p := x39.2 } : Rd) x39.1).bind fun x48 => (if decide ((x19.1.length : Int) > 1) then ((s_l17Rd_pick ({ b := x5.b, p := x48.2 } : Rd) 2).bind fun x77 => some ((x77.1 == 0), x77.2)) else some (false, x48.2)).bind fun b79 => ((if b79.1 then ((idx x19.1 0).bind fun x95 => (idx x19.1 1).bind fun x100 => (s_AddConstraints x95 x100).bind fun x108 => some (x108.1.terms, x108.1.bound)) else (some (x48.1.terms, x48.1.bound))) : Option ((List Term) × Int)).bind fun (g69_0_88, g69_1_90) => (s_l5Fuel ({ b := x5.b, p := b79.2 } : Rd)).bind fun x153 => some (x19.1, ({ terms := g69_0_88, bound := g69_1_90 } : Con), x153.1)
def i_Constraint_total_b1 (_i_5 : Nat) (x_7 : Term) : (Int) → Option (Lo (Int) (Int))
  | sum_6 => some (.cont (i64 (sum_6 + x_7.coef)))
def i_Constraint_total (c : Con) : Option (Int) :=
  ((rangeL i_Constraint_total_b1 c.terms 0 0) : Option (Jn (Int) (Int))).bind fun j => match j with | .nx sum_6 => (some sum_6) | .out t => some t
def i_Constraint_negation_b1 (_i_38 : Nat) (x_41 : Term) : (List Term) → Option (Lo (List Term) (Con))
  | g36_0_39 => (app g36_0_39 ([({ coef := x_41.coef, lit := i64 (-x_41.lit) } : Term)])).bind fun x61 => some (.cont x61)
def i_Constraint_negation (c : Con) : Option (Con) :=
  (i_Constraint_total c).bind fun x14 => ((rangeL i_Constraint_negation_b1 c.terms 0 ([])) : Option (Jn (List Term) (Con))).bind fun j => match j with | .nx g36_0_39 => (some ({ terms := g36_0_39, bound := max 0 (i64 ((i64 (x14 - c.bound)) + 1)) } : Con)) | .out t => some t
def i_ProveConstraint (fu : Nat) (list : List Con) (c : Con) (fuel : Int) : Option (Int × (List Bool) × (List Step)) :=
  (i_ConstraintValid c).bind fun x10 => if ((!x10) || (decide ((list.length : Int) ≥ 400))) then (some (3, [], [])) else ((slices_Clone_implConstraint list).bind fun x23 => (i_Constraint_negation c).bind fun x31 => (app x23 ([x31])).bind fun x37 => (i_SolveProblem fu x37 fuel).bind fun x49 => some (x49.1, x49.2.1, x49.2.2))
def s_NegateConstraint_b1 (_i_55 : Nat) (x_60 : Term) : (List Term) → Option (Lo (List Term) (Con × Bool))
  | g53_0_56 => (app g53_0_56 ([({ coef := x_60.coef, lit := i64 (-x_60.lit) } : Term)])).bind fun x74 => some (.cont x74)
def s_NegateConstraint (c : Con) : Option (Con × Bool) :=
  (s_ConstraintValid c).bind fun x14 => if (!x14) then (some (({ terms := [], bound := 0 } : Con), false)) else ((s_l1Total c).bind fun x31 => ((rangeL s_NegateConstraint_b1 c.terms 0 ([])) : Option (Jn (List Term) (Con × Bool))).bind fun j => match j with | .nx g53_0_56 => (((if decide ((i64 ((i64 (x31 - c.bound)) + 1)) < 0) then (some 0) else (some (i64 ((i64 (x31 - c.bound)) + 1)))) : Option (Int)).bind fun g53_1_115 => some (({ terms := g53_0_56, bound := g53_1_115 } : Con), true)) | .out t => some t)
def s_ProveConstraint (fu : Nat) (list : List Con) (c : Con) (fuel : Int) : Option (Int × (List Bool) × (List Step)) :=
  (s_NegateConstraint c).bind fun x10 => if ((!x10.2) || (decide ((list.length : Int) ≥ 400))) then (some (3, [], [])) else ((app ([]) list).bind fun x44 => (app x44 ([x10.1])).bind fun x51 => (s_SolveProblem fu x51 fuel).bind fun x63 => some (x63.1, x63.2.1, x63.2.2))
def l_FnProveSelf (fu : Nat) (code : List UInt8) (more : List UInt8) : Option (Bool) :=
  if ((decide ((code.length : Int) > 1048576)) || (decide ((more.length : Int) > 1048576))) then (some true) else ((s_DrawProveConstraint fu code).bind fun x4 => (if ((x4.1.length : Int) == 0) then some true else ((s_ProblemValid x4.1).bind fun x23 => some (!x23))).bind fun b25 => if b25 then ((i_SolveProblem fu x4.1 x4.2.2).bind fun x42 => (s_SolveProblem fu x4.1 x4.2.2).bind fun x61 => some (x42.1 == x61.1)) else ((if (x4.1.length : Int) = 0 then none else some ()).bind fun _ => (idx x4.1 (Int.tmod (more.length : Int) (x4.1.length : Int))).bind fun x75 => (i_ProveConstraint fu x4.1 x75 x4.2.2).bind fun x86 => (if (x4.1.length : Int) = 0 then none else some ()).bind fun _ => (s_ProveConstraint fu x4.1 x75 x4.2.2).bind fun x112 => (if (x86.1 == x112.1) then ((l_cpBools x86.2.1 x112.2.1).bind fun x134 => some x134) else some false).bind fun b136 => some (b136 && (x86.1 != 1))))
end Go.L

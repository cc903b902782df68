/- Part of a proof by program: D1. -/
import Derived.Test.YteeilbddjlpiaaaG13
namespace Go.L
open Go Go.E
set_option linter.unusedVariables false
def s_l17Open (code : List UInt8) : Option (Rd) :=
  ((if decide ((code.length : Int) > 2000) then ((sl code 0 2000).bind fun x5 => some x5) else (some code)) : Option (List UInt8)).bind fun code_1 => some ({ b := code_1, p := 0 } : Rd)
def s_l17Rd_pick (r_ : Rd) (n_ : Int) : Option (Int × Int) :=
  if ((decide (n_ < 1)) || ((r_.b.length : Int) == 0)) then (some (0, i64 (r_.p + 1))) else (if decide ((i64 ((i64 (r_.p + 1)) - 1)) < (r_.b.length : Int)) then ((idx r_.b (i64 ((i64 (r_.p + 1)) - 1))).bind fun x7 => (if n_ = 0 then none else some ()).bind fun _ => some (Int.tmod (i64 (x7.toNat : Int)) n_, i64 (r_.p + 1))) else ((if (r_.b.length : Int) = 0 then none else some ()).bind fun _ => (idx r_.b (Int.tmod (i64 ((i64 (r_.p + 1)) - 1)) (r_.b.length : Int))).bind fun x18 => (if (r_.b.length : Int) = 0 then none else some ()).bind fun _ => (idx r_.b (Int.tmod (i64 ((i64 ((i64 ((i64 (r_.p + 1)) - 1)) * 7)) + 3)) (r_.b.length : Int))).bind fun x24 => (if (r_.b.length : Int) = 0 then none else some ()).bind fun _ => (if n_ = 0 then none else some ()).bind fun _ => some (Int.tmod (xorI .i64 (i64 ((i64 ((i64 ((i64 ((i64 (x18.toNat : Int)) * 131)) + (i64 ((i64 (x24.toNat : Int)) * 1117)))) + (i64 ((i64 ((i64 (r_.p + 1)) - 1)) * 29)))) + (i64 ((i64 (Int.tdiv (i64 ((i64 (r_.p + 1)) - 1)) (r_.b.length : Int))) * 53)))) (i64 (Int.tdiv (i64 ((i64 ((i64 ((i64 ((i64 (x18.toNat : Int)) * 131)) + (i64 ((i64 (x24.toNat : Int)) * 1117)))) + (i64 ((i64 ((i64 (r_.p + 1)) - 1)) * 29)))) + (i64 ((i64 (Int.tdiv (i64 ((i64 (r_.p + 1)) - 1)) (r_.b.length : Int))) * 53)))) 64))) n_, i64 (r_.p + 1))))
def s_l1Copy (c : Con) : Option (Con) :=
  (app ([]) c.terms).bind fun x12 => some ({ terms := x12, bound := c.bound } : Con)
def s_l17Rd_num (r_ : Rd) (list : List Int) : Option (Int × Int) :=
  (s_l17Rd_pick r_ (list.length : Int)).bind fun x6 => (idx list x6.1).bind fun x8 => some (x8, x6.2)
def s_l1Mutate (r_ : Rd) (c : Con) : Option (Con × Int) :=
  (s_l1Copy c).bind fun x14 => (s_l17Rd_pick r_ 40).bind fun x35 => ((if (x35.1 == 0) then ((s_l17Rd_num ({ b := r_.b, p := x35.2 } : Rd) ([(-1), 20001, 9223372036854775807])).bind fun x60 => some (x60.2, x14.terms, x60.1)) else (((if (x35.1 == 1) then (((if decide ((x14.terms.length : Int) > 0) then ((s_l17Rd_num ({ b := r_.b, p := x35.2 } : Rd) ([0, (-1), 1001])).bind fun x96 => (idx x14.terms 0).bind fun x98 => some (x96.2, (x14.terms.set (Int.toNat 0) ({ x98 with coef := x96.1 })))) else (some (x35.2, x14.terms))) : Option (Int × (List Term))).bind fun (g_0_1_81, g27_0_82) => some (g_0_1_81, g27_0_82)) else (((if (x35.1 == 2) then (((if decide ((x14.terms.length : Int) > 0) then ((s_l17Rd_num ({ b := r_.b, p := x35.2 } : Rd) ([0, 13, (-13), 1, (-9223372036854775808)])).bind fun x149 => (idx x14.terms (i64 ((x14.terms.length : Int) - 1))).bind fun x151 => some (x149.2, (x14.terms.set (Int.toNat (i64 ((x14.terms.length : Int) - 1))) ({ x151 with lit := x149.1 })))) else (some (x35.2, x14.terms))) : Option (Int × (List Term))).bind fun (g_0_1_134, g27_0_135) => some (g_0_1_134, g27_0_135)) else (((if (x35.1 == 3) then ((app x14.terms ([({ coef := 1, lit := 1 } : Term)])).bind fun x187 => some x187) else (some x14.terms)) : Option (List Term)).bind fun g27_0_180 => some (x35.2, g27_0_180))) : Option (Int × (List Term))).bind fun (g_0_1_127, g27_0_128) => some (g_0_1_127, g27_0_128))) : Option (Int × (List Term))).bind fun (g_0_1_74, g27_0_75) => some (g_0_1_74, g27_0_75, x14.bound))) : Option (Int × (List Term) × Int)).bind fun (g_0_1_43, g27_0_44, g27_1_46) => some (({ terms := g27_0_44, bound := g27_1_46 } : Con), g_0_1_43)
def s_l1Total_b1 (_i_5 : Nat) (x_7 : Term) : (Int) → Option (Lo (Int) (Int))
  | n_6 => some (.cont (i64 (n_6 + x_7.coef)))
def s_l1Total (c : Con) : Option (Int) :=
  ((rangeL s_l1Total_b1 c.terms 0 0) : Option (Jn (Int) (Int))).bind fun j => match j with | .nx n_6 => (some n_6) | .out t => some t
def s_l1Draw_b1 (r_ : Rd) (i_11 : Nat) : (Int × (List Term)) → Option (Lo (Int × (List Term)) (Con × Int))
  | (g_0_1_12, g8_0_13) => (s_l17Rd_pick ({ b := r_.b, p := g_0_1_12 } : Rd) 2).bind fun x24 => ((if (x24.1 == 0) then ((s_l17Rd_num ({ b := r_.b, p := x24.2 } : Rd) ([1, 1, 2, 3, 1, 5, 4])).bind fun x46 => (s_l17Rd_pick ({ b := r_.b, p := x46.2 } : Rd) 2).bind fun x69 => ((if (x69.1 == 0) then (some (i64 (-(i_11 : Int)))) else (some (i_11 : Int))) : Option (Int)).bind fun g61_1_77 => (app g8_0_13 ([({ coef := x46.1, lit := g61_1_77 } : Term)])).bind fun x85 => some (x69.2, x85)) else (some (x24.2, g8_0_13))) : Option (Int × (List Term))).bind fun (g_0_1_32, g8_0_33) => some (.cont (g_0_1_32, g8_0_33))
def s_l1Draw (r_ : Rd) (most : Int) : Option (Con × Int) :=
  (cntF 1 (most + 1)).bind fun k16 => ((countL (s_l1Draw_b1 r_) k16 1 (r_.p, [])) : Option (Jn (Int × (List Term)) (Con × Int))).bind fun j => match j with | .nx (g_0_1_12, g8_0_13) => ((s_l1Total ({ terms := g8_0_13, bound := 0 } : Con)).bind fun x103 => (s_l17Rd_num ({ b := r_.b, p := g_0_1_12 } : Rd) ([1, 2, 1, 3, 0])).bind fun x121 => (s_l17Rd_pick ({ b := r_.b, p := x121.2 } : Rd) 4).bind fun x140 => ((if (x140.1 == 0) then ((s_l17Rd_pick ({ b := r_.b, p := x140.2 } : Rd) (i64 (x103 + 2))).bind fun x157 => some (x157.2, x157.1)) else (some (x140.2, x121.1))) : Option (Int × Int)).bind fun (g_0_1_148, g8_1_149) => some (({ terms := g8_0_13, bound := g8_1_149 } : Con), g_0_1_148)) | .out t => some t
def s_l1Values_b1 (r_ : Rd) (_i_7 : Nat) : ((List Bool) × Int) → Option (Lo ((List Bool) × Int) ((List Bool) × Int))
  | (out_8, g_0_1_10) => (s_l17Rd_pick ({ b := r_.b, p := g_0_1_10 } : Rd) 2).bind fun x19 => (app out_8 ([(x19.1 == 0)])).bind fun x24 => some (.cont (x24, x19.2))
def s_l1Values (r_ : Rd) : Option ((List Bool) × Int) :=
  (cntF 0 12).bind fun k12 => ((countL (s_l1Values_b1 r_) k12 0 ([], r_.p)) : Option (Jn ((List Bool) × Int) ((List Bool) × Int))).bind fun j => match j with | .nx (out_8, g_0_1_10) => ((s_l17Rd_pick ({ b := r_.b, p := g_0_1_10 } : Rd) 40).bind fun x45 => if (x45.1 == 0) then ((sl out_8 0 11).bind fun x54 => some (x54, x45.2)) else (some (out_8, x45.2))) | .out t => some t
def i_within (n_ : Int) (low : Int) (high : Int) : Option (Bool) :=
  some ((decide (low ≤ n_)) && (decide (n_ ≤ high)))
def i_isLiteral (l : Int) : Option (Bool) :=
  (if (l != 0) then ((i_within l (-12) 12).bind fun x6 => some x6) else some false).bind fun b8 => some b8
def i_variableOf (l : Int) : Option (Int) :=
  some (max l (i64 (-l)))
def i_ConstraintValid_b1 (_i_5 : Nat) (x_7 : Term) : (Int) → Option (Lo (Int) (Bool))
  | before_6 => (i_isLiteral x_7.lit).bind fun x28 => (if (!x28) then some true else ((i_variableOf x_7.lit).bind fun x35 => some (decide (x35 ≤ before_6)))).bind fun b37 => (if b37 then some true else ((i_within x_7.coef 1 1000).bind fun x43 => some (!x43))).bind fun b45 => if b45 then (some (.out false)) else ((i_variableOf x_7.lit).bind fun x74 => some (.cont x74))
def i_ConstraintValid (c : Con) : Option (Bool) :=
  ((rangeL i_ConstraintValid_b1 c.terms 0 0) : Option (Jn (Int) (Bool))).bind fun j => match j with | .nx before_6 => ((i_within c.bound 0 20000).bind fun x87 => some x87) | .out t => some t
def i_holds (l : Int) (values : List Bool) : Option (Bool) :=
  (i_variableOf l).bind fun x6 => (idx values (i64 (x6 - 1))).bind fun x8 => some (x8 == (decide (l > 0)))
def i_Constraint_holds_b1 (values : List Bool) (_i_5 : Nat) (x_7 : Term) : (Int) → Option (Lo (Int) (Bool))
  | sum_6 => (i_holds x_7.lit values).bind fun x28 => ((if x28 then (some (i64 (sum_6 + x_7.coef))) else (some sum_6)) : Option (Int)).bind fun sum_36 => some (.cont sum_36)
def i_Constraint_holds (c : Con) (values : List Bool) : Option (Bool) :=
  ((rangeL (i_Constraint_holds_b1 values) c.terms 0 0) : Option (Jn (Int) (Bool))).bind fun j => match j with | .nx sum_6 => (some (decide (sum_6 ≥ c.bound))) | .out t => some t
def s_l1Lit (n_ : Int) : Option (Bool) :=
  some (((n_ != 0) && (decide (n_ ≥ (-12)))) && (decide (n_ ≤ 12)))
def s_l1Abs (n_ : Int) : Option (Int) :=
  if decide (n_ < 0) then (some (i64 (-n_))) else (some n_)
def slices_Clone_int (s : List Int) : Option (List Int) :=
  (app ([]) s).bind fun x7 => some x7
def slices_Index_int_b1 (v_ : Int) (i_1 : Nat) (x_2 : Int) : (Unit) → Option (Lo (Unit) (Int))
  | () => if (v_ == x_2) then (some (.out (i_1 : Int))) else (some (.cont ()))
def slices_Index_int (s : List Int) (v_ : Int) : Option (Int) :=
  ((rangeL (slices_Index_int_b1 v_) s 0 ()) : Option (Jn (Unit) (Int))).bind fun j => match j with | .nx _ => (some (-1)) | .out t => some t
def slices_Contains_int (s : List Int) (v_ : Int) : Option (Bool) :=
  (slices_Index_int s v_).bind fun x6 => some (decide (x6 ≥ 0))
def slices_insertionSortCmpFunc_int_b2 (a : Int) (cmp : (Int → Int → Option Int)) : ((List Int) × Int) → Option (Lo ((List Int) × Int) (Lo ((List Int) × Int) (List Int)))
  | (data_9, j_10) => (if decide (j_10 > a) then ((idx data_9 j_10).bind fun x14 => (idx data_9 (i64 (j_10 - 1))).bind fun x19 => (cmp x14 x19).bind fun x22 => some (decide (x22 < 0))) else some false).bind fun b29 => if b29 then ((idx data_9 (i64 (j_10 - 1))).bind fun x52 => (idx data_9 j_10).bind fun x57 => (idx (data_9.set (Int.toNat j_10) x52) (i64 (j_10 - 1))).bind fun x61 => some (.cont (((data_9.set (Int.toNat j_10) x52).set (Int.toNat (i64 (j_10 - 1))) x57), i64 (j_10 - 1)))) else (some (.brk (data_9, j_10)))
def slices_insertionSortCmpFunc_int_b1 (fu : Nat) (a : Int) (b : Int) (cmp : (Int → Int → Option Int)) : ((List Int) × Int) → Option (Lo ((List Int) × Int) (List Int))
  | (data_2, i_3) => if decide (i_3 < b) then (((whileL (slices_insertionSortCmpFunc_int_b2 a cmp) fu (data_2, i_3)) : Option (Jn ((List Int) × Int) (Lo ((List Int) × Int) (List Int)))).bind fun j => match j with | .nx (data_9, j_10) => (some (.cont (data_9, i64 (i_3 + 1)))) | .out t => some t) else (some (.brk (data_2, i_3)))
def slices_insertionSortCmpFunc_int (fu : Nat) (data : List Int) (a : Int) (b : Int) (cmp : (Int → Int → Option Int)) : Option (List Int) :=
  ((whileL (slices_insertionSortCmpFunc_int_b1 fu a b cmp) fu (data, i64 (a + 1))) : Option (Jn ((List Int) × Int) (List Int))).bind fun j => match j with | .nx (data_2, i_3) => (some data_2) | .out t => some t
def slices_nextPowerOfTwo (length : Int) : Option (Int) :=
  (bits_Len (IntKind.u64.wrap length)).bind fun x6 => (if x6 < 0 then none else some ()).bind fun _ => some (IntKind.u64.wrap (1 * 2 ^ (min (Int.toNat x6) (IntKind.bits .u64))))
def slices_pdqsortCmpFunc_int_b1 (fu : Nat) (data : List Int) (a : Int) (b : Int) (cmp : (Int → Int → Option Int)) : (Unit) → Option (Lo (Unit) (List Int))
  | () => if decide ((i64 (b - a)) ≤ 12) then ((slices_insertionSortCmpFunc_int fu data a b cmp).bind fun x9 => some (.out x9)) else (none)
def slices_pdqsortCmpFunc_int (fu : Nat) (data : List Int) (a : Int) (b : Int) (_limit : Int) (cmp : (Int → Int → Option Int)) : Option (List Int) :=
  ((whileL (slices_pdqsortCmpFunc_int_b1 fu data a b cmp) fu ()) : Option (Jn (Unit) (List Int))).bind fun j => match j with | .nx _ => (some data) | .out t => some t
def slices_SortFunc_int (fu : Nat) (x : List Int) (cmp : (Int → Int → Option Int)) : Option (List Int) :=
  (bits_Len (IntKind.u64.wrap (x.length : Int))).bind fun x6 => (slices_pdqsortCmpFunc_int fu x 0 (x.length : Int) x6 cmp).bind fun x13 => some x13
def i_ClauseOf_1 (a : Int) (b : Int) : Option (Int) :=
  (i_variableOf a).bind fun x6 => (i_variableOf b).bind fun x13 => some (i64 (x6 - x13))
def i_ClauseOf_b1 (lits : List Int) (_i_9 : Nat) (x_10 : Int) : (Unit) → Option (Lo (Unit) (Con × Bool))
  | () => (i_isLiteral x_10).bind fun x25 => (if (!x25) then some true else ((slices_Contains_int lits (i64 (-x_10))).bind fun x32 => some x32)).bind fun b34 => if b34 then (some (.out (({ terms := [], bound := 0 } : Con), false))) else (some (.cont ()))
def i_ClauseOf_b2 (_i_103 : Nat) (x_106 : Int) : (List Term) → Option (Lo (List Term) (Con × Bool))
  | g85_0_104 => (app g85_0_104 ([({ coef := 1, lit := x_106 } : Term)])).bind fun x120 => some (.cont x120)
def i_ClauseOf (fu : Nat) (lits : List Int) : Option (Con × Bool) :=
  if decide ((lits.length : Int) > 40) then (some (({ terms := [], bound := 0 } : Con), false)) else (((rangeL (i_ClauseOf_b1 lits) lits 0 ()) : Option (Jn (Unit) (Con × Bool))).bind fun j => match j with | .nx _ => ((slices_Clone_int lits).bind fun x58 => (slices_SortFunc_int fu x58 i_ClauseOf_1).bind fun x73 => (slices_Compact_int x73).bind fun x93 => ((rangeL i_ClauseOf_b2 x93 0 ([])) : Option (Jn (List Term) (Con × Bool))).bind fun j => match j with | .nx g85_0_104 => (some (({ terms := g85_0_104, bound := 1 } : Con), true)) | .out t => some t) | .out t => some t)
def s_ClauseOf_b1 (_i_16 : Nat) (x_20 : Int) : (List Int) → Option (Lo (List Int) (Con × Bool))
  | seen_17 => (s_l1Lit x_20).bind fun x31 => if (!x31) then (some (.out (({ terms := [], bound := 0 } : Con), false))) else ((s_l1Abs x_20).bind fun x56 => (idx seen_17 x56).bind fun x68 => if (x68 == (i64 (-x_20))) then (some (.out (({ terms := [], bound := 0 } : Con), false))) else (some (.cont (seen_17.set (Int.toNat x56) x_20))))
def s_ClauseOf_b2 (seen_17 : List Int) (i_114 : Nat) : (List Term) → Option (Lo (List Term) (Con × Bool))
  | g111_0_115 => (idx seen_17 (i_114 : Int)).bind fun x123 => ((if (x123 != 0) then ((app g111_0_115 ([({ coef := 1, lit := x123 } : Term)])).bind fun x143 => some x143) else (some g111_0_115)) : Option (List Term)).bind fun g111_0_132 => some (.cont g111_0_132)
def s_ClauseOf (lits : List Int) : Option (Con × Bool) :=
  (mkN 13 0).bind fun x5 => if decide ((lits.length : Int) > 40) then (some (({ terms := [], bound := 0 } : Con), false)) else (((rangeL s_ClauseOf_b1 lits 0 x5) : Option (Jn (List Int) (Con × Bool))).bind fun j => match j with | .nx seen_17 => ((cntF 1 (12 + 1)).bind fun k120 => ((countL (s_ClauseOf_b2 seen_17) k120 1 ([])) : Option (Jn (List Term) (Con × Bool))).bind fun j => match j with | .nx g111_0_115 => (some (({ terms := g111_0_115, bound := 1 } : Con), true)) | .out t => some t) | .out t => some t)
def slices_Equal_implTerm_b1 (s2 : List Term) (i_2 : Nat) (x_5 : Term) : (Unit) → Option (Lo (Unit) (Bool))
  | () => (idx s2 (i_2 : Int)).bind fun x11 => if (!(x_5 == x11)) then (some (.out false)) else (some (.cont ()))
def slices_Equal_implTerm (s1 : List Term) (s2 : List Term) : Option (Bool) :=
  if ((s1.length : Int) != (s2.length : Int)) then (some false) else (((rangeL (slices_Equal_implTerm_b1 s2) s1 0 ()) : Option (Jn (Unit) (Bool))).bind fun j => match j with | .nx _ => (some true) | .out t => some t)
def i_ConstraintSame (a : Con) (b : Con) : Option (Bool) :=
  (if (a.bound == b.bound) then ((slices_Equal_implTerm a.terms b.terms).bind fun x14 => some x14) else some false).bind fun b16 => some b16
def i_EvalConstraint (c : Con) (values : List Bool) : Option (Bool) :=
  (i_ConstraintValid c).bind fun x10 => (if (x10 && ((values.length : Int) == 12)) then ((i_Constraint_holds c values).bind fun x17 => some x17) else some false).bind fun b19 => some b19
def s_DrawClauseOf_b1 (x1 : Rd) : ((List Int) × Int × Int) → Option (Lo ((List Int) × Int × Int) (List Int))
  | (out_32, i_34, r3_0_1_35) => if decide (i_34 > 0) then ((s_l17Rd_num ({ b := x1.b, p := r3_0_1_35 } : Rd) ([1, (-2), 3, 2, (-1), 4, 12, (-5), 6])).bind fun x47 => (app out_32 ([x47.1])).bind fun x52 => some (.cont (x52, i64 (i_34 - 1), x47.2))) else (some (.brk (out_32, i_34, r3_0_1_35)))
def s_DrawClauseOf (fu : Nat) (code : List UInt8) : Option (List Int) :=
  (s_l17Open code).bind fun x1 => (s_l17Rd_num x1 ([3, 2, 4, 1, 0, 6])).bind fun x19 => ((whileL (s_DrawClauseOf_b1 x1) fu ([], x19.1, x19.2)) : Option (Jn ((List Int) × Int × Int) (List Int))).bind fun j => match j with | .nx (out_32, i_34, r3_0_1_35) => ((if decide ((out_32.length : Int) > 0) then ((s_l17Rd_pick ({ b := x1.b, p := r3_0_1_35 } : Rd) 20).bind fun x77 => some ((x77.1 == 0), x77.2)) else some (false, r3_0_1_35)).bind fun b79 => ((if b79.1 then ((s_l17Rd_num ({ b := x1.b, p := b79.2 } : Rd) ([0, 13, (-9223372036854775808)])).bind fun x100 => (idx out_32 0).bind fun x102 => some (out_32.set (Int.toNat 0) x100.1)) else (some out_32)) : Option (List Int)).bind fun out_88 => some out_88) | .out t => some t
def s_l1Constraint (r_ : Rd) : Option (Con × Int) :=
  (s_l17Rd_num r_ ([4, 5, 3, 6, 12])).bind fun x14 => (s_l1Draw ({ b := r_.b, p := x14.2 } : Rd) x14.1).bind fun x21 => (s_l17Rd_pick ({ b := r_.b, p := x21.2 } : Rd) 12).bind fun x52 => ((if ((x52.1 == 0) && (decide ((x21.1.terms.length : Int) > 0))) then ((s_l17Rd_num ({ b := r_.b, p := x52.2 } : Rd) ([1000, 999, 100])).bind fun x78 => (idx x21.1.terms 0).bind fun x80 => (s_l17Rd_num ({ b := r_.b, p := x78.2 } : Rd) ([1000, 500, 20000, 1])).bind fun x118 => some (x118.2, (x21.1.terms.set (Int.toNat 0) ({ x80 with coef := x78.1 })), x118.1)) else (some (x52.2, x21.1.terms, x21.1.bound))) : Option (Int × (List Term) × Int)).bind fun (g_0_1_62, g44_0_63, g44_1_64) => some (({ terms := g44_0_63, bound := g44_1_64 } : Con), g_0_1_62)
def s_DrawEvalConstraint (code : List UInt8) : Option (Con × (List Bool)) :=
  (s_l17Open code).bind fun x5 => (s_l1Constraint x5).bind fun x13 => (s_l1Mutate ({ b := x5.b, p := x13.2 } : Rd) x13.1).bind fun x22 => (s_l1Values ({ b := x5.b, p := x22.2 } : Rd)).bind fun x51 => some (x22.1, x51.1)
def l_FnClauseOf_b1 (x24 : Con × (List Bool)) (_i_134 : Nat) (x_136 : Int) : (Bool) → Option (Lo (Bool) (Bool))
  | some__135 => (if some__135 then some true else ((if decide (x_136 > 0) then ((idx x24.2 (i64 (x_136 - 1))).bind fun x146 => some x146) else some false).bind fun b151 => some b151)).bind fun b152 => (if b152 then some true else ((if decide (x_136 < 0) then ((idx x24.2 (i64 ((i64 (-x_136)) - 1))).bind fun x153 => some (!x153)) else some false).bind fun b156 => some b156)).bind fun b157 => some (.cont b157)
def l_FnClauseOf (fu : Nat) (code : List UInt8) (more : List UInt8) : Option (Bool) :=
  if ((decide ((code.length : Int) > 1048576)) || (decide ((more.length : Int) > 1048576))) then (some true) else ((s_DrawClauseOf fu code).bind fun x9 => (s_DrawEvalConstraint more).bind fun x24 => (i_ClauseOf fu x9).bind fun x48 => (s_ClauseOf x9).bind fun x71 => (if (x48.2 != x71.2) then some true else ((i_ConstraintSame x48.1 x71.1).bind fun x95 => some (!x95))).bind fun b97 => if ((b97 || (!x48.2)) || ((x24.2.length : Int) != 12)) then ((if (x48.2 == x71.2) then ((i_ConstraintSame x48.1 x71.1).bind fun x121 => some x121) else some false).bind fun b123 => some b123) else (((rangeL (l_FnClauseOf_b1 x24) x9 0 false) : Option (Jn (Bool) (Bool))).bind fun j => match j with | .nx some__135 => ((i_ConstraintValid x48.1).bind fun x182 => (if x182 then ((i_EvalConstraint x48.1 x24.2).bind fun x191 => some (x191 == some__135)) else some false).bind fun b193 => some b193) | .out t => some t))
end Go.L

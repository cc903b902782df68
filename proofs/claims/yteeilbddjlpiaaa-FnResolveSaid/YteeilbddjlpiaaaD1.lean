/- Part of a proof by program: D1. -/
import Derived.Test.YteeilbddjlpiaaaG13
namespace Go.L
open Go Go.E
set_option linter.unusedVariables false
def s_l17Open (code : List UInt8) : Option (Rd) :=
  ((if decide ((code.length : Int) > 2000) then ((sl code 0 2000).bind fun x5 => some x5) else (some code)) : Option (List UInt8)).bind fun code_1 => some ({ b := code_1, p := 0 } : Rd)
def s_l17Rd_pick (r_ : Rd) (n_ : Int) : Option (Int × Int) :=
  if ((decide (n_ < 1)) || ((r_.b.length : Int) == 0)) then (some (0, i64 (r_.p + 1))) else (if decide ((i64 ((i64 (r_.p + 1)) - 1)) < (r_.b.length : Int)) then ((idx r_.b (i64 ((i64 (r_.p + 1)) - 1))).bind fun x7 => (if n_ = 0 then none else some ()).bind fun _ => some (Int.tmod (i64 (x7.toNat : Int)) n_, i64 (r_.p + 1))) else ((if (r_.b.length : Int) = 0 then none else some ()).bind fun _ => (idx r_.b (Int.tmod (i64 ((i64 (r_.p + 1)) - 1)) (r_.b.length : Int))).bind fun x18 => (if (r_.b.length : Int) = 0 then none else some ()).bind fun _ => (idx r_.b (Int.tmod (i64 ((i64 ((i64 ((i64 (r_.p + 1)) - 1)) * 7)) + 3)) (r_.b.length : Int))).bind fun x24 => (if (r_.b.length : Int) = 0 then none else some ()).bind fun _ => (if n_ = 0 then none else some ()).bind fun _ => some (Int.tmod (xorI .i64 (i64 ((i64 ((i64 ((i64 ((i64 (x18.toNat : Int)) * 131)) + (i64 ((i64 (x24.toNat : Int)) * 1117)))) + (i64 ((i64 ((i64 (r_.p + 1)) - 1)) * 29)))) + (i64 ((i64 (Int.tdiv (i64 ((i64 (r_.p + 1)) - 1)) (r_.b.length : Int))) * 53)))) (i64 (Int.tdiv (i64 ((i64 ((i64 ((i64 ((i64 (x18.toNat : Int)) * 131)) + (i64 ((i64 (x24.toNat : Int)) * 1117)))) + (i64 ((i64 ((i64 (r_.p + 1)) - 1)) * 29)))) + (i64 ((i64 (Int.tdiv (i64 ((i64 (r_.p + 1)) - 1)) (r_.b.length : Int))) * 53)))) 64))) n_, i64 (r_.p + 1))))
def s_l17Rd_num (r_ : Rd) (list : List Int) : Option (Int × Int) :=
  (s_l17Rd_pick r_ (list.length : Int)).bind fun x6 => (idx list x6.1).bind fun x8 => some (x8, x6.2)
def i_within (n_ : Int) (low : Int) (high : Int) : Option (Bool) :=
  some ((decide (low ≤ n_)) && (decide (n_ ≤ high)))
def i_isLiteral (l : Int) : Option (Bool) :=
  (if (l != 0) then ((i_within l (-12) 12).bind fun x6 => some x6) else some false).bind fun b8 => some b8
def i_variableOf (l : Int) : Option (Int) :=
  some (max l (i64 (-l)))
def i_ConstraintValid_b1 (_i_5 : Nat) (x_7 : Term) : (Int) → Option (Lo (Int) (Bool))
  | before_6 => (i_isLiteral x_7.lit).bind fun x28 => (if (!x28) then some true else ((i_variableOf x_7.lit).bind fun x35 => some (decide (x35 ≤ before_6)))).bind fun b37 => (if b37 then some true else ((i_within x_7.coef 1 1000).bind fun x43 => some (!x43))).bind fun b45 => if b45 then (some (.out false)) else ((i_variableOf x_7.lit).bind fun x74 => some (.cont x74))
def i_ConstraintValid (c : Con) : Option (Bool) :=
  ((rangeL i_ConstraintValid_b1 c.terms 0 0) : Option (Jn (Int) (Bool))).bind fun j => match j with | .nx before_6 => ((i_within c.bound 0 20000).bind fun x87 => some x87) | .out t => some t
def s_l1Lit (n_ : Int) : Option (Bool) :=
  some (((n_ != 0) && (decide (n_ ≥ (-12)))) && (decide (n_ ≤ 12)))
def s_l1Abs (n_ : Int) : Option (Int) :=
  if decide (n_ < 0) then (some (i64 (-n_))) else (some n_)
def slices_Clone_int (s : List Int) : Option (List Int) :=
  (app ([]) s).bind fun x7 => some x7
def slices_Index_int_b1 (v_ : Int) (i_1 : Nat) (x_2 : Int) : (Unit) → Option (Lo (Unit) (Int))
  | () => if (v_ == x_2) then (some (.out (i_1 : Int))) else (some (.cont ()))
def slices_Index_int (s : List Int) (v_ : Int) : Option (Int) :=
  ((rangeL (slices_Index_int_b1 v_) s 0 ()) : Option (Jn (Unit) (Int))).bind fun j => match j with | .nx _ => (some (-1)) | .out t => some t
def slices_Contains_int (s : List Int) (v_ : Int) : Option (Bool) :=
  (slices_Index_int s v_).bind fun x6 => some (decide (x6 ≥ 0))
def slices_insertionSortCmpFunc_int_b2 (a : Int) (cmp : (Int → Int → Option Int)) : ((List Int) × Int) → Option (Lo ((List Int) × Int) (Lo ((List Int) × Int) (List Int)))
  | (data_9, j_10) => (if decide (j_10 > a) then ((idx data_9 j_10).bind fun x14 => (idx data_9 (i64 (j_10 - 1))).bind fun x19 => (cmp x14 x19).bind fun x22 => some (decide (x22 < 0))) else some false).bind fun b29 => if b29 then ((idx data_9 (i64 (j_10 - 1))).bind fun x52 => (idx data_9 j_10).bind fun x57 => (idx (data_9.set (Int.toNat j_10) x52) (i64 (j_10 - 1))).bind fun x61 => some (.cont (((data_9.set (Int.toNat j_10) x52).set (Int.toNat (i64 (j_10 - 1))) x57), i64 (j_10 - 1)))) else (some (.brk (data_9, j_10)))
def slices_insertionSortCmpFunc_int_b1 (fu : Nat) (a : Int) (b : Int) (cmp : (Int → Int → Option Int)) : ((List Int) × Int) → Option (Lo ((List Int) × Int) (List Int))
  | (data_2, i_3) => if decide (i_3 < b) then (((whileL (slices_insertionSortCmpFunc_int_b2 a cmp) fu (data_2, i_3)) : Option (Jn ((List Int) × Int) (Lo ((List Int) × Int) (List Int)))).bind fun j => match j with | .nx (data_9, j_10) => (some (.cont (data_9, i64 (i_3 + 1)))) | .out t => some t) else (some (.brk (data_2, i_3)))
def slices_insertionSortCmpFunc_int (fu : Nat) (data : List Int) (a : Int) (b : Int) (cmp : (Int → Int → Option Int)) : Option (List Int) :=
  ((whileL (slices_insertionSortCmpFunc_int_b1 fu a b cmp) fu (data, i64 (a + 1))) : Option (Jn ((List Int) × Int) (List Int))).bind fun j => match j with | .nx (data_2, i_3) => (some data_2) | .out t => some t
def slices_nextPowerOfTwo (length : Int) : Option (Int) :=
  (bits_Len (IntKind.u64.wrap length)).bind fun x6 => (if x6 < 0 then none else some ()).bind fun _ => some (IntKind.u64.wrap (1 * 2 ^ (min (Int.toNat x6) (IntKind.bits .u64))))
def slices_pdqsortCmpFunc_int_b1 (fu : Nat) (data : List Int) (a : Int) (b : Int) (cmp : (Int → Int → Option Int)) : (Unit) → Option (Lo (Unit) (List Int))
  | () => if decide ((i64 (b - a)) ≤ 12) then ((slices_insertionSortCmpFunc_int fu data a b cmp).bind fun x9 => some (.out x9)) else (none)
def slices_pdqsortCmpFunc_int (fu : Nat) (data : List Int) (a : Int) (b : Int) (_limit : Int) (cmp : (Int → Int → Option Int)) : Option (List Int) :=
  ((whileL (slices_pdqsortCmpFunc_int_b1 fu data a b cmp) fu ()) : Option (Jn (Unit) (List Int))).bind fun j => match j with | .nx _ => (some data) | .out t => some t
def slices_SortFunc_int (fu : Nat) (x : List Int) (cmp : (Int → Int → Option Int)) : Option (List Int) :=
  (bits_Len (IntKind.u64.wrap (x.length : Int))).bind fun x6 => (slices_pdqsortCmpFunc_int fu x 0 (x.length : Int) x6 cmp).bind fun x13 => some x13
def i_ClauseOf_1 (a : Int) (b : Int) : Option (Int) :=
  (i_variableOf a).bind fun x6 => (i_variableOf b).bind fun x13 => some (i64 (x6 - x13))
def i_ClauseOf_b1 (lits : List Int) (_i_9 : Nat) (x_10 : Int) : (Unit) → Option (Lo (Unit) (Con × Bool))
  | () => (i_isLiteral x_10).bind fun x25 => (if (!x25) then some true else ((slices_Contains_int lits (i64 (-x_10))).bind fun x32 => some x32)).bind fun b34 => if b34 then (some (.out (({ terms := [], bound := 0 } : Con), false))) else (some (.cont ()))
def i_ClauseOf_b2 (_i_103 : Nat) (x_106 : Int) : (List Term) → Option (Lo (List Term) (Con × Bool))
  | g85_0_104 => (app g85_0_104 ([({ coef := 1, lit := x_106 } : Term)])).bind fun x120 => some (.cont x120)
def i_ClauseOf (fu : Nat) (lits : List Int) : Option (Con × Bool) :=
  if decide ((lits.length : Int) > 40) then (some (({ terms := [], bound := 0 } : Con), false)) else (((rangeL (i_ClauseOf_b1 lits) lits 0 ()) : Option (Jn (Unit) (Con × Bool))).bind fun j => match j with | .nx _ => ((slices_Clone_int lits).bind fun x58 => (slices_SortFunc_int fu x58 i_ClauseOf_1).bind fun x73 => (slices_Compact_int x73).bind fun x93 => ((rangeL i_ClauseOf_b2 x93 0 ([])) : Option (Jn (List Term) (Con × Bool))).bind fun j => match j with | .nx g85_0_104 => (some (({ terms := g85_0_104, bound := 1 } : Con), true)) | .out t => some t) | .out t => some t)
def slices_Clone_implTerm (s : List Term) : Option (List Term) :=
  (app ([]) s).bind fun x7 => some x7
def i_Constraint_own (c : Con) : Option (Con) :=
  (slices_Clone_implTerm c.terms).bind fun x14 => some ({ terms := x14, bound := c.bound } : Con)
def s_ClauseOf_b1 (_i_16 : Nat) (x_20 : Int) : (List Int) → Option (Lo (List Int) (Con × Bool))
  | seen_17 => (s_l1Lit x_20).bind fun x31 => if (!x31) then (some (.out (({ terms := [], bound := 0 } : Con), false))) else ((s_l1Abs x_20).bind fun x56 => (idx seen_17 x56).bind fun x68 => if (x68 == (i64 (-x_20))) then (some (.out (({ terms := [], bound := 0 } : Con), false))) else (some (.cont (seen_17.set (Int.toNat x56) x_20))))
def s_ClauseOf_b2 (seen_17 : List Int) (i_114 : Nat) : (List Term) → Option (Lo (List Term) (Con × Bool))
  | g111_0_115 => (idx seen_17 (i_114 : Int)).bind fun x123 => ((if (x123 != 0) then ((app g111_0_115 ([({ coef := 1, lit := x123 } : Term)])).bind fun x143 => some x143) else (some g111_0_115)) : Option (List Term)).bind fun g111_0_132 => some (.cont g111_0_132)
def s_ClauseOf (lits : List Int) : Option (Con × Bool) :=
  (mkN 13 0).bind fun x5 => if decide ((lits.length : Int) > 40) then (some (({ terms := [], bound := 0 } : Con), false)) else (((rangeL s_ClauseOf_b1 lits 0 x5) : Option (Jn (List Int) (Con × Bool))).bind fun j => match j with | .nx seen_17 => ((cntF 1 (12 + 1)).bind fun k120 => ((countL (s_ClauseOf_b2 seen_17) k120 1 ([])) : Option (Jn (List Term) (Con × Bool))).bind fun j => match j with | .nx g111_0_115 => (some (({ terms := g111_0_115, bound := 1 } : Con), true)) | .out t => some t) | .out t => some t)
def slices_Equal_implTerm_b1 (s2 : List Term) (i_2 : Nat) (x_5 : Term) : (Unit) → Option (Lo (Unit) (Bool))
  | () => (idx s2 (i_2 : Int)).bind fun x11 => if (!(x_5 == x11)) then (some (.out false)) else (some (.cont ()))
def slices_Equal_implTerm (s1 : List Term) (s2 : List Term) : Option (Bool) :=
  if ((s1.length : Int) != (s2.length : Int)) then (some false) else (((rangeL (slices_Equal_implTerm_b1 s2) s1 0 ()) : Option (Jn (Unit) (Bool))).bind fun j => match j with | .nx _ => (some true) | .out t => some t)
def i_ConstraintSame (a : Con) (b : Con) : Option (Bool) :=
  (if (a.bound == b.bound) then ((slices_Equal_implTerm a.terms b.terms).bind fun x14 => some x14) else some false).bind fun b16 => some b16
def s_DrawClauseOf_b1 (x1 : Rd) : ((List Int) × Int × Int) → Option (Lo ((List Int) × Int × Int) (List Int))
  | (out_32, i_34, r3_0_1_35) => if decide (i_34 > 0) then ((s_l17Rd_num ({ b := x1.b, p := r3_0_1_35 } : Rd) ([1, (-2), 3, 2, (-1), 4, 12, (-5), 6])).bind fun x47 => (app out_32 ([x47.1])).bind fun x52 => some (.cont (x52, i64 (i_34 - 1), x47.2))) else (some (.brk (out_32, i_34, r3_0_1_35)))
def s_DrawClauseOf (fu : Nat) (code : List UInt8) : Option (List Int) :=
  (s_l17Open code).bind fun x1 => (s_l17Rd_num x1 ([3, 2, 4, 1, 0, 6])).bind fun x19 => ((whileL (s_DrawClauseOf_b1 x1) fu ([], x19.1, x19.2)) : Option (Jn ((List Int) × Int × Int) (List Int))).bind fun j => match j with | .nx (out_32, i_34, r3_0_1_35) => ((if decide ((out_32.length : Int) > 0) then ((s_l17Rd_pick ({ b := x1.b, p := r3_0_1_35 } : Rd) 20).bind fun x77 => some ((x77.1 == 0), x77.2)) else some (false, r3_0_1_35)).bind fun b79 => ((if b79.1 then ((s_l17Rd_num ({ b := x1.b, p := b79.2 } : Rd) ([0, 13, (-9223372036854775808)])).bind fun x100 => (idx out_32 0).bind fun x102 => some (out_32.set (Int.toNat 0) x100.1)) else (some out_32)) : Option (List Int)).bind fun out_88 => some out_88) | .out t => some t
def i_Constraint_valid (c : Con) : Option (Con × Bool) :=
  (i_ConstraintValid c).bind fun x14 => if (!x14) then (some (({ terms := [], bound := 0 } : Con), false)) else (some (c, true))
def i_normal_b1 (_i_13 : Nat) (x_18 : Term) : (Int × (List Int)) → Option (Lo (Int × (List Int)) (Con × Bool))
  | (bound_14, ag11_15) => ((if decide (x_18.lit < 0) then ((idx ag11_15 (i64 (-x_18.lit))).bind fun x40 => some (i64 (bound_14 - x_18.coef), (ag11_15.set (Int.toNat (i64 (-x_18.lit))) (i64 (x40 - x_18.coef))))) else ((idx ag11_15 x_18.lit).bind fun x44 => some (bound_14, (ag11_15.set (Int.toNat x_18.lit) (i64 (x44 + x_18.coef)))))) : Option (Int × (List Int))).bind fun (bound_34, ag11_35) => some (.cont (bound_34, ag11_35))
def i_normal_b2 (ag11_15 : List Int) (i_56 : Nat) : (Int × (List Term)) → Option (Lo (Int × (List Term)) (Con × Bool))
  | (bound_57, g51_0_58) => (idx ag11_15 (i_56 : Int)).bind fun x64 => ((if decide (x64 > 0) then ((app g51_0_58 ([({ coef := x64, lit := (i_56 : Int) } : Term)])).bind fun x73 => some (bound_57, x73)) else (((if decide (x64 < 0) then ((app g51_0_58 ([({ coef := i64 (-x64), lit := i64 (-(i_56 : Int)) } : Term)])).bind fun x93 => some (i64 (bound_57 - x64), x93)) else (some (bound_57, g51_0_58))) : Option (Int × (List Term))).bind fun (bound_85, g51_0_86) => some (bound_85, g51_0_86))) : Option (Int × (List Term))).bind fun (bound_65, g51_0_66) => some (.cont (bound_65, g51_0_66))
def i_normal (terms : List Term) (bound : Int) : Option (Con × Bool) :=
  ((rangeL i_normal_b1 terms 0 (bound, (List.replicate 13 (0 : Int)))) : Option (Jn (Int × (List Int)) (Con × Bool))).bind fun j => match j with | .nx (bound_14, ag11_15) => ((cntF 0 13).bind fun k61 => ((countL (i_normal_b2 ag11_15) k61 0 (bound_14, [])) : Option (Jn (Int × (List Term)) (Con × Bool))).bind fun j => match j with | .nx (bound_57, g51_0_58) => ((i_Constraint_valid ({ terms := g51_0_58, bound := max 0 bound_57 } : Con)).bind fun x110 => some (x110.1, x110.2)) | .out t => some t) | .out t => some t
def slices_Concat_implTerm_b1 (_i_1 : Nat) (x_3 : List Term) : (Int) → Option (Lo (Int) (List Term))
  | size_2 => ((if decide ((i64 (size_2 + (x_3.length : Int))) < 0) then (none) else (some ())) : Option (Unit)).bind fun _ => some (.cont (i64 (size_2 + (x_3.length : Int))))
def slices_Concat_implTerm_i2 (size_2 : Int) : Option (List Term) :=
  ((if decide (size_2 < 0) then (none) else (some ())) : Option (Unit)).bind fun _ => ((if decide ((i64 (size_2 - (i64 (0 - 0)))) > 0) then ((mkN (i64 (size_2 - (i64 (0 - 0)))) ({ coef := 0, lit := 0 } : Term)).bind fun x27 => (sl x27 0 0).bind fun x31 => some x31) else (some ([]))) : Option (List Term)).bind fun s_23 => some s_23
def slices_Concat_implTerm_b3 (_i_40 : Nat) (x_43 : List Term) : (List Term) → Option (Lo (List Term) (List Term))
  | newslice_41 => (app newslice_41 x_43).bind fun x53 => some (.cont x53)
def slices_Concat_implTerm (slices : List (List Term)) : Option (List Term) :=
  ((rangeL slices_Concat_implTerm_b1 slices 0 0) : Option (Jn (Int) (List Term))).bind fun j => match j with | .nx size_2 => ((slices_Concat_implTerm_i2 size_2).bind fun ret0_15 => ((rangeL slices_Concat_implTerm_b3 slices 0 ret0_15) : Option (Jn (List Term) (List Term))).bind fun j => match j with | .nx newslice_41 => (some newslice_41) | .out t => some t) | .out t => some t
def i_AddConstraints (a : Con) (b : Con) : Option (Con × Bool) :=
  (i_ConstraintValid a).bind fun x18 => (if (!x18) then some true else ((i_ConstraintValid b).bind fun x25 => some (!x25))).bind fun b27 => if b27 then (some (({ terms := [], bound := 0 } : Con), false)) else ((slices_Concat_implTerm ([a.terms, b.terms])).bind fun x54 => (i_normal x54 (i64 (a.bound + b.bound))).bind fun x60 => some (x60.1, x60.2))
def i_Constraint_changed_b1 (change : (Int → Option Int)) (i_45 : Nat) (_x_49 : Term) : (List Term) → Option (Lo (List Term) (Con × Bool))
  | g27_0_46 => (idx g27_0_46 (i_45 : Int)).bind fun x51 => (change x51.coef).bind fun x56 => some (.cont (g27_0_46.set (Int.toNat (i_45 : Int)) ({ x51 with coef := x56 })))
def i_Constraint_changed (c : Con) (change : (Int → Option Int)) : Option (Con × Bool) :=
  (i_Constraint_own c).bind fun x14 => (change c.bound).bind fun x30 => ((rangeL (i_Constraint_changed_b1 change) x14.terms 0 x14.terms) : Option (Jn (List Term) (Con × Bool))).bind fun j => match j with | .nx g27_0_46 => ((i_Constraint_valid ({ terms := g27_0_46, bound := x30 } : Con)).bind fun x87 => some (x87.1, x87.2)) | .out t => some t
def i_DivideConstraint_1 (c1 : Int) (n_ : Int) : Option (Int) :=
  (if c1 = 0 then none else some ()).bind fun _ => some (i64 (Int.tdiv (i64 ((i64 (n_ + c1)) - 1)) c1))
def i_DivideConstraint (c : Con) (k : Int) : Option (Con × Bool) :=
  (i_ConstraintValid c).bind fun x18 => (if (!x18) then some true else ((i_within k 1 1000).bind fun x25 => some (!x25))).bind fun b27 => if b27 then (some (({ terms := [], bound := 0 } : Con), false)) else ((i_Constraint_changed c (i_DivideConstraint_1 k)).bind fun x48 => some (x48.1, x48.2))
def l_FnResolve (fu : Nat) (code : List UInt8) : Option (Bool) :=
  if decide ((code.length : Int) > 1048576) then (some true) else ((s_DrawClauseOf fu code).bind fun x7 => (app ([11]) x7).bind fun x20 => (i_ClauseOf fu x20).bind fun x30 => (app ([11]) x7).bind fun x56 => (s_ClauseOf x56).bind fun x66 => (if (x30.2 != x66.2) then some true else ((i_ConstraintSame x30.1 x66.1).bind fun x96 => some (!x96))).bind fun b98 => if (b98 || (!x30.2)) then ((if (x30.2 == x66.2) then ((i_ConstraintSame x30.1 x66.1).bind fun x119 => some x119) else some false).bind fun b121 => some b121) else ((app ([(-11)]) x7).bind fun x135 => (i_ClauseOf fu x135).bind fun x145 => if (!x145.2) then (some true) else ((i_AddConstraints x30.1 x145.1).bind fun x175 => (i_DivideConstraint x175.1 2).bind fun x190 => (i_ClauseOf fu x7).bind fun x205 => (if ((x175.2 && x190.2) && x205.2) then ((i_ConstraintSame x190.1 x205.1).bind fun x228 => some x228) else some false).bind fun b230 => some b230)))
end Go.L

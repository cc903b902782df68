/- Part of a proof by program: D1. -/
import Derived.Test.YtbjllamkfmejlaaGreatG12
namespace Go.L
open Go Go.E
set_option linter.unusedVariables false
def i_within (n_ : Int) (low : Int) (high : Int) : Option (Bool) :=
  some ((decide (low ≤ n_)) && (decide (n_ ≤ high)))
def slices_IndexFunc_implRule_b1 (f_ : (Rule → Option Bool)) (i_1 : Nat) (x_2 : Rule) : (Unit) → Option (Lo (Unit) (Int))
  | () => (f_ x_2).bind fun x8 => if x8 then (some (.out (i_1 : Int))) else (some (.cont ()))
def slices_IndexFunc_implRule (s : List Rule) (f_ : (Rule → Option Bool)) : Option (Int) :=
  ((rangeL (slices_IndexFunc_implRule_b1 f_) s 0 ()) : Option (Jn (Unit) (Int))).bind fun j => match j with | .nx _ => (some (-1)) | .out t => some t
def slices_ContainsFunc_implRule (s : List Rule) (f_ : (Rule → Option Bool)) : Option (Bool) :=
  (slices_IndexFunc_implRule s f_).bind fun x6 => some (decide (x6 ≥ 0))
def slices_Index_int_b1 (v_ : Int) (i_1 : Nat) (x_2 : Int) : (Unit) → Option (Lo (Unit) (Int))
  | () => if (v_ == x_2) then (some (.out (i_1 : Int))) else (some (.cont ()))
def slices_Index_int (s : List Int) (v_ : Int) : Option (Int) :=
  ((rangeL (slices_Index_int_b1 v_) s 0 ()) : Option (Jn (Unit) (Int))).bind fun j => match j with | .nx _ => (some (-1)) | .out t => some t
def slices_Contains_int (s : List Int) (v_ : Int) : Option (Bool) :=
  (slices_Index_int s v_).bind fun x6 => some (decide (x6 ≥ 0))
def slices_IndexFunc_int_b1 (f_ : (Int → Option Bool)) (i_1 : Nat) (x_2 : Int) : (Unit) → Option (Lo (Unit) (Int))
  | () => (f_ x_2).bind fun x8 => if x8 then (some (.out (i_1 : Int))) else (some (.cont ()))
def slices_IndexFunc_int (s : List Int) (f_ : (Int → Option Bool)) : Option (Int) :=
  ((rangeL (slices_IndexFunc_int_b1 f_) s 0 ()) : Option (Jn (Unit) (Int))).bind fun j => match j with | .nx _ => (some (-1)) | .out t => some t
def slices_ContainsFunc_int (s : List Int) (f_ : (Int → Option Bool)) : Option (Bool) :=
  (slices_IndexFunc_int s f_).bind fun x6 => some (decide (x6 ≥ 0))
def i_ruleValid_1 (n_ : Int) : Option (Bool) :=
  (if (n_ == 0) then some true else ((i_within n_ (-9) 9).bind fun x6 => some (!x6))).bind fun b8 => some b8
def slices_IndexFunc_Sint_b1 (f_ : ((List Int) → Option Bool)) (i_1 : Nat) (x_2 : List Int) : (Unit) → Option (Lo (Unit) (Int))
  | () => (f_ x_2).bind fun x8 => if x8 then (some (.out (i_1 : Int))) else (some (.cont ()))
def slices_IndexFunc_Sint (s : List (List Int)) (f_ : ((List Int) → Option Bool)) : Option (Int) :=
  ((rangeL (slices_IndexFunc_Sint_b1 f_) s 0 ()) : Option (Jn (Unit) (Int))).bind fun j => match j with | .nx _ => (some (-1)) | .out t => some t
def slices_ContainsFunc_Sint (s : List (List Int)) (f_ : ((List Int) → Option Bool)) : Option (Bool) :=
  (slices_IndexFunc_Sint s f_).bind fun x6 => some (decide (x6 ≥ 0))
def i_ruleValid_2_1 (n_ : Int) : Option (Bool) :=
  (i_within n_ 0 3).bind fun x6 => some (!x6)
def i_ruleValid_2 (c1 : Rule) (row : List Int) : Option (Bool) :=
  (if ((row.length : Int) != (c1.vars.length : Int)) then some true else ((slices_ContainsFunc_int row i_ruleValid_2_1).bind fun x6 => some x6)).bind fun b8 => some b8
def i_ruleValid_b1 (r_ : Rule) (cells : Int) (i_5 : Nat) (x_6 : Int) : (Unit) → Option (Lo (Unit) (Bool))
  | () => (i_within x_6 0 (i64 (cells - 1))).bind fun x21 => (if (!x21) then some true else ((sl r_.vars 0 (i_5 : Int)).bind fun x23 => (slices_Contains_int x23 x_6).bind fun x31 => some x31)).bind fun b33 => if b33 then (some (.out false)) else (some (.cont ()))
def i_ruleValid (r_ : Rule) (cells : Int) : Option (Bool) :=
  ((rangeL (i_ruleValid_b1 r_ cells) r_.vars 0 ()) : Option (Jn (Unit) (Bool))).bind fun j => match j with | .nx _ => (if ((((r_.vars.length : Int) == 0) || ((r_.kind != 1) && ((decide ((r_.coefs.length : Int) > 0)) || (r_.bound != 0)))) || ((r_.kind != 3) && (decide ((r_.rows.length : Int) > 0)))) then (some false) else (if (r_.kind == 1) then ((if ((r_.coefs.length : Int) == (r_.vars.length : Int)) then ((i_within r_.bound (-1000) 1000).bind fun x70 => some x70) else some false).bind fun b72 => (if b72 then ((slices_ContainsFunc_int r_.coefs i_ruleValid_1).bind fun x78 => some (!x78)) else some false).bind fun b80 => some b80) else (if (r_.kind == 3) then ((if decide ((r_.rows.length : Int) ≤ 8) then ((slices_ContainsFunc_Sint r_.rows (i_ruleValid_2 r_)).bind fun x111 => some (!x111)) else some false).bind fun b113 => some b113) else (if (r_.kind == 4) then (some ((r_.vars.length : Int) == 2)) else (some (r_.kind == 2)))))) | .out t => some t
def i_ModelValid_1 (c1 : Model) (r_ : Rule) : Option (Bool) :=
  (i_ruleValid r_ (c1.sizes.length : Int)).bind fun x10 => some (!x10)
def i_ModelValid_b1 (_i_21 : Nat) (x_23 : Int) : (Int) → Option (Lo (Int) (Bool))
  | count_22 => (i_within x_23 0 3).bind fun x38 => if (!x38) then (some (.out false)) else (some (.cont (i64 (count_22 + (i64 (x_23 + 1))))))
def i_ModelValid (m : Model) : Option (Bool) :=
  (i_within (m.sizes.length : Int) 1 5).bind fun x10 => if ((!x10) || (decide ((m.rules.length : Int) > 8))) then (some false) else (((rangeL i_ModelValid_b1 m.sizes 0 0) : Option (Jn (Int) (Bool))).bind fun j => match j with | .nx count_22 => ((if decide (count_22 ≤ 12) then ((slices_ContainsFunc_implRule m.rules (i_ModelValid_1 m)).bind fun x52 => some (!x52)) else some false).bind fun b54 => some b54) | .out t => some t)
def i_Model_boolVar_b1 (_i_10 : Nat) (x_12 : Int) : (Int) → Option (Lo (Int) (Int))
  | v_11 => some (.cont (i64 (v_11 + (i64 (x_12 + 1)))))
def i_Model_boolVar (m : Model) (cell : Int) (value : Int) : Option (Int) :=
  (sl m.sizes 0 cell).bind fun x5 => ((rangeL i_Model_boolVar_b1 x5 0 (i64 (1 + value))) : Option (Jn (Int) (Int))).bind fun j => match j with | .nx v_11 => (some v_11) | .out t => some t
def i_Model_varsOf_b1 (m : Model) (cell : Int) (i_14 : Nat) : (List Int) → Option (Lo (List Int) (List Int))
  | out_15 => (i_Model_boolVar m cell (i_14 : Int)).bind fun x26 => (app out_15 ([x26])).bind fun x31 => some (.cont x31)
def i_Model_varsOf (m : Model) (cell : Int) : Option (List Int) :=
  (idx m.sizes cell).bind fun x5 => (cntF 0 (i64 (x5 + 1))).bind fun k18 => ((countL (i_Model_varsOf_b1 m cell) k18 0 ([])) : Option (Jn (List Int) (List Int))).bind fun j => match j with | .nx out_15 => (some out_15) | .out t => some t
def slices_Clone_int (s : List Int) : Option (List Int) :=
  (app ([]) s).bind fun x7 => some x7
def i_isLiteral (l : Int) : Option (Bool) :=
  (if (l != 0) then ((i_within l (-12) 12).bind fun x6 => some x6) else some false).bind fun b8 => some b8
def slices_insertionSortCmpFunc_int_b2 (a : Int) (cmp : (Int → Int → Option Int)) : ((List Int) × Int) → Option (Lo ((List Int) × Int) (Lo ((List Int) × Int) (List Int)))
  | (data_9, j_10) => (if decide (j_10 > a) then ((idx data_9 j_10).bind fun x14 => (idx data_9 (i64 (j_10 - 1))).bind fun x19 => (cmp x14 x19).bind fun x22 => some (decide (x22 < 0))) else some false).bind fun b29 => if b29 then ((idx data_9 (i64 (j_10 - 1))).bind fun x52 => (idx data_9 j_10).bind fun x57 => (idx (data_9.set (Int.toNat j_10) x52) (i64 (j_10 - 1))).bind fun x61 => some (.cont (((data_9.set (Int.toNat j_10) x52).set (Int.toNat (i64 (j_10 - 1))) x57), i64 (j_10 - 1)))) else (some (.brk (data_9, j_10)))
def slices_insertionSortCmpFunc_int_b1 (fu : Nat) (a : Int) (b : Int) (cmp : (Int → Int → Option Int)) : ((List Int) × Int) → Option (Lo ((List Int) × Int) (List Int))
  | (data_2, i_3) => if decide (i_3 < b) then (((whileL (slices_insertionSortCmpFunc_int_b2 a cmp) fu (data_2, i_3)) : Option (Jn ((List Int) × Int) (Lo ((List Int) × Int) (List Int)))).bind fun j => match j with | .nx (data_9, j_10) => (some (.cont (data_9, i64 (i_3 + 1)))) | .out t => some t) else (some (.brk (data_2, i_3)))
def slices_insertionSortCmpFunc_int (fu : Nat) (data : List Int) (a : Int) (b : Int) (cmp : (Int → Int → Option Int)) : Option (List Int) :=
  ((whileL (slices_insertionSortCmpFunc_int_b1 fu a b cmp) fu (data, i64 (a + 1))) : Option (Jn ((List Int) × Int) (List Int))).bind fun j => match j with | .nx (data_2, i_3) => (some data_2) | .out t => some t
def slices_nextPowerOfTwo (length : Int) : Option (Int) :=
  (bits_Len (IntKind.u64.wrap length)).bind fun x6 => (if x6 < 0 then none else some ()).bind fun _ => some (IntKind.u64.wrap (1 * 2 ^ (min (Int.toNat x6) (IntKind.bits .u64))))
def slices_pdqsortCmpFunc_int_b1 (fu : Nat) (data : List Int) (a : Int) (b : Int) (cmp : (Int → Int → Option Int)) : (Unit) → Option (Lo (Unit) (List Int))
  | () => if decide ((i64 (b - a)) ≤ 12) then ((slices_insertionSortCmpFunc_int fu data a b cmp).bind fun x9 => some (.out x9)) else (none)
def slices_pdqsortCmpFunc_int (fu : Nat) (data : List Int) (a : Int) (b : Int) (_limit : Int) (cmp : (Int → Int → Option Int)) : Option (List Int) :=
  ((whileL (slices_pdqsortCmpFunc_int_b1 fu data a b cmp) fu ()) : Option (Jn (Unit) (List Int))).bind fun j => match j with | .nx _ => (some data) | .out t => some t
def slices_SortFunc_int (fu : Nat) (x : List Int) (cmp : (Int → Int → Option Int)) : Option (List Int) :=
  (bits_Len (IntKind.u64.wrap (x.length : Int))).bind fun x6 => (slices_pdqsortCmpFunc_int fu x 0 (x.length : Int) x6 cmp).bind fun x13 => some x13
def i_variableOf (l : Int) : Option (Int) :=
  some (max l (i64 (-l)))
def i_ClauseOf_1 (a : Int) (b : Int) : Option (Int) :=
  (i_variableOf a).bind fun x6 => (i_variableOf b).bind fun x13 => some (i64 (x6 - x13))
def slices_Compact_int_b1 (s : List Int) (i_2 : Nat) : (Unit) → Option (Lo (Unit) (List Int))
  | () => (idx s (i_2 : Int)).bind fun x8 => (idx s (i64 ((i_2 : Int) - 1))).bind fun x13 => ((if (x8 == x13) then (none) else (some ())) : Option (Unit)).bind fun _ => some (.cont ())
def slices_Compact_int (s : List Int) : Option (List Int) :=
  if decide ((s.length : Int) < 2) then (some s) else ((cntF 1 (s.length : Int)).bind fun k6 => ((countL (slices_Compact_int_b1 s) k6 1 ()) : Option (Jn (Unit) (List Int))).bind fun j => match j with | .nx _ => (some s) | .out t => some t)
def i_ClauseOf_b1 (lits : List Int) (_i_9 : Nat) (x_10 : Int) : (Unit) → Option (Lo (Unit) (Con × Bool))
  | () => (i_isLiteral x_10).bind fun x25 => (if (!x25) then some true else ((slices_Contains_int lits (i64 (-x_10))).bind fun x32 => some x32)).bind fun b34 => if b34 then (some (.out (({ terms := [], bound := 0 } : Con), false))) else (some (.cont ()))
def i_ClauseOf_b2 (_i_97 : Nat) (x_100 : Int) : (List Term) → Option (Lo (List Term) (Con × Bool))
  | g85_0_98 => (app g85_0_98 ([({ coef := 1, lit := x_100 } : Term)])).bind fun x114 => some (.cont x114)
def i_ClauseOf (fu : Nat) (lits : List Int) : Option (Con × Bool) :=
  if decide ((lits.length : Int) > 40) then (some (({ terms := [], bound := 0 } : Con), false)) else (((rangeL (i_ClauseOf_b1 lits) lits 0 ()) : Option (Jn (Unit) (Con × Bool))).bind fun j => match j with | .nx _ => ((slices_Clone_int lits).bind fun x58 => (slices_SortFunc_int fu x58 i_ClauseOf_1).bind fun x73 => (slices_Compact_int x73).bind fun x91 => ((rangeL i_ClauseOf_b2 x91 0 ([])) : Option (Jn (List Term) (Con × Bool))).bind fun j => match j with | .nx g85_0_98 => (some (({ terms := g85_0_98, bound := 1 } : Con), true)) | .out t => some t) | .out t => some t)
def i_atMostOne_b1 (_i_11 : Nat) (x_14 : Int) : (List Term) → Option (Lo (List Term) (Con))
  | g8_0_12 => (app g8_0_12 ([({ coef := 1, lit := i64 (-x_14) } : Term)])).bind fun x28 => some (.cont x28)
def i_atMostOne (vars : List Int) : Option (Con) :=
  ((rangeL i_atMostOne_b1 vars 0 ([])) : Option (Jn (List Term) (Con))).bind fun j => match j with | .nx g8_0_12 => (some ({ terms := g8_0_12, bound := i64 ((vars.length : Int) - 1) } : Con)) | .out t => some t
def i_each_b2 (sizes : List Int) : ((List Int) × Int) → Option (Lo ((List Int) × Int) (Lo (List Int) (Unit)))
  | (cells_37, i_38) => (if decide (i_38 ≥ 0) then ((idx cells_37 i_38).bind fun x42 => (idx sizes i_38).bind fun x47 => some (x42 == x47)) else some false).bind fun b52 => if b52 then ((idx cells_37 i_38).bind fun x75 => some (.cont ((cells_37.set (Int.toNat i_38) 0), i64 (i_38 - 1)))) else (some (.brk (cells_37, i_38)))
def i_each_b1 (fu : Nat) (sizes : List Int) (told : ((List Int) → Option Bool)) : (List Int) → Option (Lo (List Int) (Unit))
  | cells_17 => (told cells_17).bind fun x21 => if x21 then (((whileL (i_each_b2 sizes) fu (cells_17, i64 ((cells_17.length : Int) - 1))) : Option (Jn ((List Int) × Int) (Lo (List Int) (Unit)))).bind fun j => match j with | .nx (cells_37, i_38) => (if decide (i_38 < 0) then (some (.out ())) else ((idx cells_37 i_38).bind fun x83 => some (.cont (cells_37.set (Int.toNat i_38) (i64 (x83 + 1)))))) | .out t => some t) else (some (.brk cells_17))
def i_each (fu : Nat) (sizes : List Int) (from_ : List Int) (told : ((List Int) → Option Bool)) : Option (Unit) :=
  (slices_Clone_int from_).bind fun x6 => ((whileL (i_each_b1 fu sizes told) fu x6) : Option (Jn (List Int) (Unit))).bind fun j => match j with | .nx cells_17 => (some ()) | .out t => some t
def i_ConstraintValid_b1 (_i_5 : Nat) (x_7 : Term) : (Int) → Option (Lo (Int) (Bool))
  | before_6 => (i_isLiteral x_7.lit).bind fun x28 => (if (!x28) then some true else ((i_variableOf x_7.lit).bind fun x35 => some (decide (x35 ≤ before_6)))).bind fun b37 => (if b37 then some true else ((i_within x_7.coef 1 1000).bind fun x43 => some (!x43))).bind fun b45 => if b45 then (some (.out false)) else ((i_variableOf x_7.lit).bind fun x80 => some (.cont x80))
def i_ConstraintValid (c : Con) : Option (Bool) :=
  ((rangeL i_ConstraintValid_b1 c.terms 0 0) : Option (Jn (Int) (Bool))).bind fun j => match j with | .nx before_6 => ((i_within c.bound 0 20000).bind fun x93 => some x93) | .out t => some t
def i_Constraint_valid (c : Con) : Option (Con × Bool) :=
  (i_ConstraintValid c).bind fun x15 => if (!x15) then (some (({ terms := [], bound := 0 } : Con), false)) else (some (c, true))
def i_normal_b1 (_i_13 : Nat) (x_18 : Term) : (Int × (List Int)) → Option (Lo (Int × (List Int)) (Con × Bool))
  | (bound_14, ag11_15) => ((if decide (x_18.lit < 0) then ((idx ag11_15 (i64 (-x_18.lit))).bind fun x40 => some (i64 (bound_14 - x_18.coef), (ag11_15.set (Int.toNat (i64 (-x_18.lit))) (i64 (x40 - x_18.coef))))) else ((idx ag11_15 x_18.lit).bind fun x44 => some (bound_14, (ag11_15.set (Int.toNat x_18.lit) (i64 (x44 + x_18.coef)))))) : Option (Int × (List Int))).bind fun (bound_34, ag11_35) => some (.cont (bound_34, ag11_35))
def i_normal_b2 (ag11_15 : List Int) (i_56 : Nat) : (Int × (List Term)) → Option (Lo (Int × (List Term)) (Con × Bool))
  | (bound_57, g51_0_58) => (idx ag11_15 (i_56 : Int)).bind fun x64 => ((if decide (x64 > 0) then ((app g51_0_58 ([({ coef := x64, lit := (i_56 : Int) } : Term)])).bind fun x73 => some (bound_57, x73)) else (((if decide (x64 < 0) then ((app g51_0_58 ([({ coef := i64 (-x64), lit := i64 (-(i_56 : Int)) } : Term)])).bind fun x93 => some (i64 (bound_57 - x64), x93)) else (some (bound_57, g51_0_58))) : Option (Int × (List Term))).bind fun (bound_85, g51_0_86) => some (bound_85, g51_0_86))) : Option (Int × (List Term))).bind fun (bound_65, g51_0_66) => some (.cont (bound_65, g51_0_66))
def i_normal (terms : List Term) (bound : Int) : Option (Con × Bool) :=
  ((rangeL i_normal_b1 terms 0 (bound, (List.replicate 13 (0 : Int)))) : Option (Jn (Int × (List Int)) (Con × Bool))).bind fun j => match j with | .nx (bound_14, ag11_15) => ((cntF 0 13).bind fun k61 => ((countL (i_normal_b2 ag11_15) k61 0 (bound_14, [])) : Option (Jn (Int × (List Term)) (Con × Bool))).bind fun j => match j with | .nx (bound_57, g51_0_58) => ((i_Constraint_valid ({ terms := g51_0_58, bound := max 0 bound_57 } : Con)).bind fun x112 => some (x112.1, x112.2)) | .out t => some t) | .out t => some t
def cmp_isNaN_int (x : Int) : Option (Bool) :=
  some (x != x)
def cmp_Less_int (x : Int) (y : Int) : Option (Bool) :=
  (cmp_isNaN_int x).bind fun x6 => (if x6 then ((cmp_isNaN_int y).bind fun x13 => some (!x13)) else some false).bind fun b15 => some (b15 || (decide (x < y)))
def slices_insertionSortOrdered_int_b2 (a : Int) : ((List Int) × Int) → Option (Lo ((List Int) × Int) (Lo ((List Int) × Int) (List Int)))
  | (data_9, j_10) => (if decide (j_10 > a) then ((idx data_9 j_10).bind fun x14 => (idx data_9 (i64 (j_10 - 1))).bind fun x19 => (cmp_Less_int x14 x19).bind fun x27 => some x27) else some false).bind fun b29 => if b29 then ((idx data_9 (i64 (j_10 - 1))).bind fun x52 => (idx data_9 j_10).bind fun x57 => (idx (data_9.set (Int.toNat j_10) x52) (i64 (j_10 - 1))).bind fun x61 => some (.cont (((data_9.set (Int.toNat j_10) x52).set (Int.toNat (i64 (j_10 - 1))) x57), i64 (j_10 - 1)))) else (some (.brk (data_9, j_10)))
def slices_insertionSortOrdered_int_b1 (fu : Nat) (a : Int) (b : Int) : ((List Int) × Int) → Option (Lo ((List Int) × Int) (List Int))
  | (data_2, i_3) => if decide (i_3 < b) then (((whileL (slices_insertionSortOrdered_int_b2 a) fu (data_2, i_3)) : Option (Jn ((List Int) × Int) (Lo ((List Int) × Int) (List Int)))).bind fun j => match j with | .nx (data_9, j_10) => (some (.cont (data_9, i64 (i_3 + 1)))) | .out t => some t) else (some (.brk (data_2, i_3)))
def slices_insertionSortOrdered_int (fu : Nat) (data : List Int) (a : Int) (b : Int) : Option (List Int) :=
  ((whileL (slices_insertionSortOrdered_int_b1 fu a b) fu (data, i64 (a + 1))) : Option (Jn ((List Int) × Int) (List Int))).bind fun j => match j with | .nx (data_2, i_3) => (some data_2) | .out t => some t
def slices_pdqsortOrdered_int_b1 (fu : Nat) (data : List Int) (a : Int) (b : Int) : (Unit) → Option (Lo (Unit) (List Int))
  | () => if decide ((i64 (b - a)) ≤ 12) then ((slices_insertionSortOrdered_int fu data a b).bind fun x9 => some (.out x9)) else (none)
def slices_pdqsortOrdered_int (fu : Nat) (data : List Int) (a : Int) (b : Int) (_limit : Int) : Option (List Int) :=
  ((whileL (slices_pdqsortOrdered_int_b1 fu data a b) fu ()) : Option (Jn (Unit) (List Int))).bind fun j => match j with | .nx _ => (some data) | .out t => some t
def slices_Sort_int (fu : Nat) (x : List Int) : Option (List Int) :=
  (bits_Len (IntKind.u64.wrap (x.length : Int))).bind fun x6 => (slices_pdqsortOrdered_int fu x 0 (x.length : Int) x6).bind fun x13 => some x13
def slices_Equal_int_b1 (s2 : List Int) (i_2 : Nat) (x_5 : Int) : (Unit) → Option (Lo (Unit) (Bool))
  | () => (idx s2 (i_2 : Int)).bind fun x11 => if (x_5 != x11) then (some (.out false)) else (some (.cont ()))
def slices_Equal_int (s1 : List Int) (s2 : List Int) : Option (Bool) :=
  if ((s1.length : Int) != (s2.length : Int)) then (some false) else (((rangeL (slices_Equal_int_b1 s2) s1 0 ()) : Option (Jn (Unit) (Bool))).bind fun j => match j with | .nx _ => (some true) | .out t => some t)
def i_Rule_holds_1 (c1 : List Int) (row : List Int) : Option (Bool) :=
  (slices_Equal_int row c1).bind fun x6 => some x6
def i_Rule_holds_b1 (r_ : Rule) (i_10 : Nat) (x_12 : Int) : (Int) → Option (Lo (Int) (Bool))
  | sum_11 => (idx r_.coefs (i_10 : Int)).bind fun x22 => some (.cont (i64 (sum_11 + (i64 (x22 * x_12)))))
def i_Rule_holds_b2 (vals : List Int) (i_32 : Nat) (x_33 : Int) : (Unit) → Option (Lo (Unit) (Bool))
  | () => (sl vals 0 (i_32 : Int)).bind fun x43 => (slices_Contains_int x43 x_33).bind fun x51 => if x51 then (some (.out false)) else (some (.cont ()))
def i_Rule_holds (r_ : Rule) (vals : List Int) : Option (Bool) :=
  if (r_.kind == 1) then (((rangeL (i_Rule_holds_b1 r_) vals 0 0) : Option (Jn (Int) (Bool))).bind fun j => match j with | .nx sum_11 => (some (decide (sum_11 ≥ r_.bound))) | .out t => some t) else (if (r_.kind == 2) then (((rangeL (i_Rule_holds_b2 vals) vals 0 ()) : Option (Jn (Unit) (Bool))).bind fun j => match j with | .nx _ => (some true) | .out t => some t) else (if (r_.kind == 3) then ((slices_ContainsFunc_Sint r_.rows (i_Rule_holds_1 vals)).bind fun x68 => some x68) else ((idx vals 0).bind fun x77 => (idx vals 1).bind fun x82 => some (decide (x77 < x82)))))
def i_Model_encodeRule_b2 (m : Model) (r_ : Rule) (i_14 : Nat) (x_19 : Int) (i_39 : Nat) : (List Term) → Option (Lo (List Term) (Lo (List Term) (List Con)))
  | terms_40 => (idx r_.coefs (i_14 : Int)).bind fun x47 => (i_Model_boolVar m x_19 (i_39 : Int)).bind fun x57 => (app terms_40 ([({ coef := i64 (x47 * (i_39 : Int)), lit := x57 } : Term)])).bind fun x62 => some (.cont x62)
def i_Model_encodeRule_b1 (m : Model) (r_ : Rule) (i_14 : Nat) (x_19 : Int) : (List Term) → Option (Lo (List Term) (List Con))
  | terms_15 => (idx m.sizes x_19).bind fun x30 => (cntF 0 (i64 (x30 + 1))).bind fun k45 => ((countL (i_Model_encodeRule_b2 m r_ i_14 x_19) k45 0 terms_15) : Option (Jn (List Term) (Lo (List Term) (List Con)))).bind fun j => match j with | .nx terms_40 => (some (.cont terms_40)) | .out t => some t
def i_Model_encodeRule_b4 (m : Model) (i_129 : Nat) (_i_138 : Nat) (x_141 : Int) : (List Int) → Option (Lo (List Int) (Lo (List Con) (List Con)))
  | vars_139 => (idx m.sizes x_141).bind fun x152 => ((if decide ((i_129 : Int) ≤ x152) then ((i_Model_boolVar m x_141 (i_129 : Int)).bind fun x170 => (app vars_139 ([x170])).bind fun x175 => some x175) else (some vars_139)) : Option (List Int)).bind fun vars_161 => some (.cont vars_161)
def i_Model_encodeRule_b3 (fu : Nat) (m : Model) (r_ : Rule) (i_129 : Nat) : (List Con) → Option (Lo (List Con) (List Con))
  | g11_0_130 => ((rangeL (i_Model_encodeRule_b4 m i_129) r_.vars 0 ([])) : Option (Jn (List Int) (Lo (List Con) (List Con)))).bind fun j => match j with | .nx vars_139 => (((if decide ((vars_139.length : Int) > 1) then ((slices_Sort_int fu vars_139).bind fun x202 => (i_atMostOne x202).bind fun x216 => (app g11_0_130 ([x216])).bind fun x222 => some x222) else (some g11_0_130)) : Option (List Con)).bind fun g11_0_191 => some (.cont g11_0_191)) | .out t => some t
def i_Model_encodeRule_b5 (m : Model) (_i_256 : Nat) (x_259 : Int) : (List Int) → Option (Lo (List Int) (List Con))
  | sizes_257 => (idx m.sizes x_259).bind fun x270 => (app sizes_257 ([x270])).bind fun x278 => some (.cont x278)
def i_Model_encodeRule_b9 (m : Model) (cells_327 : List Int) (i_367 : Nat) (x_372 : Int) : (List Int) → Option (Lo (List Int) (List Con))
  | lits_368 => (idx cells_327 (i_367 : Int)).bind fun x383 => (i_Model_boolVar m x_372 x383).bind fun x393 => (app lits_368 ([i64 (-x393)])).bind fun x398 => some (.cont x398)
def i_Model_encodeRule_i8 (fu : Nat) (m : Model) (r_ : Rule) (cells_327 : List Int) (g11_0_328 : List Con) : Option (Bool × (List Con)) :=
  (i_Rule_holds r_ cells_327).bind fun x352 => ((if (!x352) then (((rangeL (i_Model_encodeRule_b9 m cells_327) r_.vars 0 ([])) : Option (Jn (List Int) (List Con))).bind fun j => match j with | .nx lits_368 => ((i_ClauseOf fu lits_368).bind fun x437 => (app g11_0_328 ([x437.1])).bind fun x457 => some x457) | .out t => some t) else (some g11_0_328)) : Option (List Con)).bind fun g11_0_361 => some (true, g11_0_361)
def i_Model_encodeRule_b10 (sizes_257 : List Int) : ((List Int) × Int) → Option (Lo ((List Int) × Int) (Lo ((List Int) × (List Con)) (List Con)))
  | (cells_471, i_472) => (if decide (i_472 ≥ 0) then ((idx cells_471 i_472).bind fun x476 => (idx sizes_257 i_472).bind fun x481 => some (x476 == x481)) else some false).bind fun b486 => if b486 then ((idx cells_471 i_472).bind fun x505 => some (.cont ((cells_471.set (Int.toNat i_472) 0), i64 (i_472 - 1)))) else (some (.brk (cells_471, i_472)))
def i_Model_encodeRule_b7 (fu : Nat) (m : Model) (r_ : Rule) (sizes_257 : List Int) : ((List Int) × (List Con)) → Option (Lo ((List Int) × (List Con)) (List Con))
  | (cells_327, g11_0_328) => (i_Model_encodeRule_i8 fu m r_ cells_327 g11_0_328).bind fun (ret0_334, g11_0_335) => if ret0_334 then (((whileL (i_Model_encodeRule_b10 sizes_257) fu (cells_327, i64 ((cells_327.length : Int) - 1))) : Option (Jn ((List Int) × Int) (Lo ((List Int) × (List Con)) (List Con)))).bind fun j => match j with | .nx (cells_471, i_472) => (if decide (i_472 < 0) then (some (.out g11_0_335)) else ((idx cells_471 i_472).bind fun x513 => some (.cont ((cells_471.set (Int.toNat i_472) (i64 (x513 + 1))), g11_0_335)))) | .out t => some t) else (some (.brk (cells_327, g11_0_335)))
def i_Model_encodeRule_i6 (fu : Nat) (m : Model) (r_ : Rule) (sizes_257 : List Int) (x292 : List Int) : Option (List Con) :=
  (slices_Clone_int x292).bind fun x315 => ((whileL (i_Model_encodeRule_b7 fu m r_ sizes_257) fu (x315, [])) : Option (Jn ((List Int) × (List Con)) (List Con))).bind fun j => match j with | .nx (cells_327, g11_0_328) => (some g11_0_328) | .out t => some t
def i_Model_encodeRule (fu : Nat) (m : Model) (r_ : Rule) : Option (List Con) :=
  if (r_.kind == 1) then (((rangeL (i_Model_encodeRule_b1 m r_) r_.vars 0 ([])) : Option (Jn (List Term) (List Con))).bind fun j => match j with | .nx terms_15 => ((i_normal terms_15 r_.bound).bind fun x105 => some ([x105.1])) | .out t => some t) else (if (r_.kind == 2) then ((cntF 0 4).bind fun k135 => ((countL (i_Model_encodeRule_b3 fu m r_) k135 0 ([])) : Option (Jn (List Con) (List Con))).bind fun j => match j with | .nx g11_0_130 => (some g11_0_130) | .out t => some t) else (((rangeL (i_Model_encodeRule_b5 m) r_.vars 0 ([])) : Option (Jn (List Int) (List Con))).bind fun j => match j with | .nx sizes_257 => ((mkN (sizes_257.length : Int) 0).bind fun x292 => (i_Model_encodeRule_i6 fu m r_ sizes_257 x292).bind fun g11_0_296 => some g11_0_296) | .out t => some t))
def i_EncodeModel_b1 (fu : Nat) (m : Model) (i_20 : Nat) (_x_25 : Int) : (List Con) → Option (Lo (List Con) ((List Con) × Bool))
  | out_21 => (i_Model_varsOf m (i_20 : Int)).bind fun x33 => (i_ClauseOf fu x33).bind fun x49 => (i_atMostOne x33).bind fun x72 => (app out_21 ([x49.1, x72])).bind fun x78 => some (.cont x78)
def i_EncodeModel_b2 (fu : Nat) (m : Model) (_i_110 : Nat) (x_113 : Rule) : (List Con) → Option (Lo (List Con) ((List Con) × Bool))
  | out_111 => (i_Model_encodeRule fu m x_113).bind fun x134 => (app out_111 x134).bind fun x137 => some (.cont x137)
def i_EncodeModel (fu : Nat) (m : Model) : Option ((List Con) × Bool) :=
  (i_ModelValid m).bind fun x10 => if (!x10) then (some ([], false)) else (((rangeL (i_EncodeModel_b1 fu m) m.sizes 0 ([])) : Option (Jn (List Con) ((List Con) × Bool))).bind fun j => match j with | .nx out_21 => (((rangeL (i_EncodeModel_b2 fu m) m.rules 0 out_21) : Option (Jn (List Con) ((List Con) × Bool))).bind fun j => match j with | .nx out_111 => (if decide ((out_111.length : Int) > 400) then (some ([], false)) else (some (out_111, true))) | .out t => some t) | .out t => some t)
def s_l6Vars_b2 (list : List Int) (x_8 : Int) (i_54 : Nat) : (Unit) → Option (Lo (Unit) (Lo (Unit) (Bool)))
  | () => (idx list (i_54 : Int)).bind fun x60 => if (x60 == x_8) then (some (.out (.out false))) else (some (.cont ()))
def s_l6Vars_b1 (m : Model) (list : List Int) (i_5 : Nat) (x_8 : Int) : (Unit) → Option (Lo (Unit) (Bool))
  | () => if ((decide (x_8 < 0)) || (decide (x_8 ≥ (m.sizes.length : Int)))) then (some (.out false)) else ((cntF 0 (i_5 : Int)).bind fun k58 => ((countL (s_l6Vars_b2 list x_8) k58 0 ()) : Option (Jn (Unit) (Lo (Unit) (Bool)))).bind fun j => match j with | .nx _ => (some (.cont ())) | .out t => some t)
def s_l6Vars (m : Model) (list : List Int) : Option (Bool) :=
  ((rangeL (s_l6Vars_b1 m list) list 0 ()) : Option (Jn (Unit) (Bool))).bind fun j => match j with | .nx _ => (some (decide ((list.length : Int) ≥ 1))) | .out t => some t
def s_l6Linear_b1 (_i_5 : Nat) (x_6 : Int) : (Unit) → Option (Lo (Unit) (Bool))
  | () => if (((decide (x_6 < (-9))) || (decide (x_6 > 9))) || (x_6 == 0)) then (some (.out false)) else (some (.cont ()))
def s_l6Linear (r_ : Rule) : Option (Bool) :=
  ((rangeL s_l6Linear_b1 r_.coefs 0 ()) : Option (Jn (Unit) (Bool))).bind fun j => match j with | .nx _ => (some ((((r_.coefs.length : Int) == (r_.vars.length : Int)) && (decide (r_.bound ≥ (-1000)))) && (decide (r_.bound ≤ 1000)))) | .out t => some t
def s_l6Table_b2 (x_8 : List Int) (i_27 : Nat) : (Unit) → Option (Lo (Unit) (Lo (Unit) (Bool)))
  | () => (idx x_8 (i_27 : Int)).bind fun x43 => if ((decide (x43 < 0)) || (decide (x43 > 3))) then (some (.out (.out false))) else (some (.cont ()))
def s_l6Table_b1 (r_ : Rule) (_i_5 : Nat) (x_8 : List Int) : (Unit) → Option (Lo (Unit) (Bool))
  | () => if ((x_8.length : Int) != (r_.vars.length : Int)) then (some (.out false)) else ((cntF 0 (x_8.length : Int)).bind fun k29 => ((countL (s_l6Table_b2 x_8) k29 0 ()) : Option (Jn (Unit) (Lo (Unit) (Bool)))).bind fun j => match j with | .nx _ => (some (.cont ())) | .out t => some t)
def s_l6Table (r_ : Rule) : Option (Bool) :=
  ((rangeL (s_l6Table_b1 r_) r_.rows 0 ()) : Option (Jn (Unit) (Bool))).bind fun j => match j with | .nx _ => (some (decide ((r_.rows.length : Int) ≤ 8))) | .out t => some t
def s_l6Rule (m : Model) (r_ : Rule) : Option (Bool) :=
  (s_l6Vars m r_.vars).bind fun x14 => if (((!x14) || ((r_.kind != 1) && (((r_.coefs.length : Int) != 0) || (r_.bound != 0)))) || ((r_.kind != 3) && ((r_.rows.length : Int) != 0))) then (some false) else (if (r_.kind == 1) then ((s_l6Linear r_).bind fun x41 => some x41) else (if (r_.kind == 2) then (some true) else (if (r_.kind == 3) then ((s_l6Table r_).bind fun x56 => some x56) else (if (r_.kind == 4) then (some ((r_.vars.length : Int) == 2)) else (some false)))))
def s_ModelValid_b1 (m : Model) : (Int × Int) → Option (Lo (Int × Int) (Bool))
  | (n_8, i_9) => if ((decide (i_9 < (m.sizes.length : Int))) && (decide (i_9 < 5))) then ((idx m.sizes i_9).bind fun x14 => if ((decide (x14 < 0)) || (decide (x14 > 3))) then (some (.out false)) else (some (.cont (i64 ((i64 (n_8 + x14)) + 1), i64 (i_9 + 1))))) else (some (.brk (n_8, i_9)))
def s_ModelValid_b2 (m : Model) (_i_51 : Nat) (x_54 : Rule) : (Unit) → Option (Lo (Unit) (Bool))
  | () => (s_l6Rule m x_54).bind fun x65 => if (!x65) then (some (.out false)) else (some (.cont ()))
def s_ModelValid (fu : Nat) (m : Model) : Option (Bool) :=
  ((whileL (s_ModelValid_b1 m) fu (0, 0)) : Option (Jn (Int × Int) (Bool))).bind fun j => match j with | .nx (n_8, i_9) => (if ((((decide ((m.sizes.length : Int) < 1)) || (decide ((m.sizes.length : Int) > 5))) || (decide (n_8 > 12))) || (decide ((m.rules.length : Int) > 8))) then (some false) else (((rangeL (s_ModelValid_b2 m) m.rules 0 ()) : Option (Jn (Unit) (Bool))).bind fun j => match j with | .nx _ => (some true) | .out t => some t)) | .out t => some t
def s_l7Var_b1 (m : Model) (i_5 : Nat) : (Int) → Option (Lo (Int) (Int))
  | n_6 => (idx m.sizes (i_5 : Int)).bind fun x10 => some (.cont (i64 ((i64 (n_6 + x10)) + 1)))
def s_l7Var (m : Model) (cell : Int) (value : Int) : Option (Int) :=
  (cntF 0 cell).bind fun k8 => ((countL (s_l7Var_b1 m) k8 0 (i64 (1 + value))) : Option (Jn (Int) (Int))).bind fun j => match j with | .nx n_6 => (some n_6) | .out t => some t
def s_l1Lit (n_ : Int) : Option (Bool) :=
  some (((n_ != 0) && (decide (n_ ≥ (-12)))) && (decide (n_ ≤ 12)))
def s_l1Abs (n_ : Int) : Option (Int) :=
  if decide (n_ < 0) then (some (i64 (-n_))) else (some n_)
def s_ClauseOf_b1 (_i_16 : Nat) (x_20 : Int) : (List Int) → Option (Lo (List Int) (Con × Bool))
  | seen_17 => (s_l1Lit x_20).bind fun x31 => if (!x31) then (some (.out (({ terms := [], bound := 0 } : Con), false))) else ((s_l1Abs x_20).bind fun x56 => (idx seen_17 x56).bind fun x68 => if (x68 == (i64 (-x_20))) then (some (.out (({ terms := [], bound := 0 } : Con), false))) else (some (.cont (seen_17.set (Int.toNat x56) x_20))))
def s_ClauseOf_b2 (seen_17 : List Int) (i_114 : Nat) : (List Term) → Option (Lo (List Term) (Con × Bool))
  | g111_0_115 => (idx seen_17 (i_114 : Int)).bind fun x123 => ((if (x123 != 0) then ((app g111_0_115 ([({ coef := 1, lit := x123 } : Term)])).bind fun x143 => some x143) else (some g111_0_115)) : Option (List Term)).bind fun g111_0_132 => some (.cont g111_0_132)
def s_ClauseOf (lits : List Int) : Option (Con × Bool) :=
  (mkN 13 0).bind fun x5 => if decide ((lits.length : Int) > 40) then (some (({ terms := [], bound := 0 } : Con), false)) else (((rangeL s_ClauseOf_b1 lits 0 x5) : Option (Jn (List Int) (Con × Bool))).bind fun j => match j with | .nx seen_17 => ((cntF 1 (12 + 1)).bind fun k120 => ((countL (s_ClauseOf_b2 seen_17) k120 1 ([])) : Option (Jn (List Term) (Con × Bool))).bind fun j => match j with | .nx g111_0_115 => (some (({ terms := g111_0_115, bound := 1 } : Con), true)) | .out t => some t) | .out t => some t)
def s_l7Most_b1 (_i_11 : Nat) (x_16 : Int) : (List Term) → Option (Lo (List Term) (Con))
  | g8_0_12 => (app g8_0_12 ([({ coef := 1, lit := i64 (-x_16) } : Term)])).bind fun x26 => some (.cont x26)
def s_l7Most (vars : List Int) : Option (Con) :=
  ((rangeL s_l7Most_b1 vars 0 ([])) : Option (Jn (List Term) (Con))).bind fun j => match j with | .nx g8_0_12 => (some ({ terms := g8_0_12, bound := i64 ((vars.length : Int) - 1) } : Con)) | .out t => some t
def s_l7Cell_b1 (m : Model) (cell : Int) (i_14 : Nat) : (List Int) → Option (Lo (List Int) (List Con))
  | vars_15 => (s_l7Var m cell (i_14 : Int)).bind fun x33 => (app vars_15 ([x33])).bind fun x38 => some (.cont x38)
def s_l7Cell (m : Model) (cell : Int) : Option (List Con) :=
  (idx m.sizes cell).bind fun x13 => (cntF 0 (x13 + 1)).bind fun k18 => ((countL (s_l7Cell_b1 m cell) k18 0 ([])) : Option (Jn (List Int) (List Con))).bind fun j => match j with | .nx vars_15 => ((s_ClauseOf vars_15).bind fun x60 => (s_l7Most vars_15).bind fun x83 => some ([x60.1, x83])) | .out t => some t
def s_ConstraintValid_b1 (c : Con) (i_5 : Nat) (x_8 : Term) : (Unit) → Option (Lo (Unit) (Bool))
  | () => (s_l1Lit x_8.lit).bind fun x29 => (if (((!x29) || (decide (x_8.coef < 1))) || (decide (x_8.coef > 1000))) then some true else ((if decide ((i_5 : Int) > 0) then ((idx c.terms (i64 ((i_5 : Int) - 1))).bind fun x31 => (s_l1Abs x31.lit).bind fun x41 => (s_l1Abs x_8.lit).bind fun x48 => some (decide (x41 ≥ x48))) else some false).bind fun b50 => some b50)).bind fun b51 => if b51 then (some (.out false)) else (some (.cont ()))
def s_ConstraintValid (c : Con) : Option (Bool) :=
  ((rangeL (s_ConstraintValid_b1 c) c.terms 0 ()) : Option (Jn (Unit) (Bool))).bind fun j => match j with | .nx _ => (some ((decide (c.bound ≥ 0)) && (decide (c.bound ≤ 20000)))) | .out t => some t
def s_l1Normal_b1 (net : List Int) (i_11 : Nat) : (Int × (List Term)) → Option (Lo (Int × (List Term)) (Con × Bool))
  | (bound_12, g8_0_13) => (idx net (i_11 : Int)).bind fun x21 => ((if decide (x21 > 0) then ((app g8_0_13 ([({ coef := x21, lit := (i_11 : Int) } : Term)])).bind fun x43 => some x43) else (some g8_0_13)) : Option (List Term)).bind fun g8_0_30 => ((if decide (x21 < 0) then ((app g8_0_30 ([({ coef := i64 (-x21), lit := i64 (-(i_11 : Int)) } : Term)])).bind fun x92 => some (i64 (bound_12 - x21), x92)) else (some (bound_12, g8_0_30))) : Option (Int × (List Term))).bind fun (bound_78, g8_0_79) => some (.cont (bound_78, g8_0_79))
def s_l1Normal (net : List Int) (bound : Int) : Option (Con × Bool) :=
  (cntF 1 (12 + 1)).bind fun k18 => ((countL (s_l1Normal_b1 net) k18 1 (bound, [])) : Option (Jn (Int × (List Term)) (Con × Bool))).bind fun j => match j with | .nx (bound_12, g8_0_13) => (((if decide (bound_12 < 0) then (some 0) else (some bound_12)) : Option (Int)).bind fun bound_127 => (s_ConstraintValid ({ terms := g8_0_13, bound := bound_127 } : Con)).bind fun x138 => if (!x138) then (some (({ terms := [], bound := 0 } : Con), false)) else (some (({ terms := g8_0_13, bound := bound_127 } : Con), true))) | .out t => some t
def s_l7Linear_b2 (m : Model) (r_ : Rule) (i_16 : Nat) (x_20 : Int) : ((List Int) × Int) → Option (Lo ((List Int) × Int) (Lo (List Int) (List Con)))
  | (net_23, k_24) => (idx m.sizes x_20).bind fun x32 => if decide (k_24 ≤ x32) then ((s_l7Var m x_20 k_24).bind fun x68 => (idx r_.coefs (i_16 : Int)).bind fun x70 => (idx net_23 x68).bind fun x75 => some (.cont ((net_23.set (Int.toNat x68) (i64 (x70 * k_24))), i64 (k_24 + 1)))) else (some (.brk (net_23, k_24)))
def s_l7Linear_b1 (fu : Nat) (m : Model) (r_ : Rule) (i_16 : Nat) (x_20 : Int) : (List Int) → Option (Lo (List Int) (List Con))
  | net_17 => ((whileL (s_l7Linear_b2 m r_ i_16 x_20) fu (net_17, 0)) : Option (Jn ((List Int) × Int) (Lo (List Int) (List Con)))).bind fun j => match j with | .nx (net_23, k_24) => (some (.cont net_23)) | .out t => some t
def s_l7Linear (fu : Nat) (m : Model) (r_ : Rule) : Option (List Con) :=
  (mkN 13 0).bind fun x9 => ((rangeL (s_l7Linear_b1 fu m r_) r_.vars 0 x9) : Option (Jn (List Int) (List Con))).bind fun j => match j with | .nx net_17 => ((s_l1Normal net_17 r_.bound).bind fun x121 => some ([x121.1])) | .out t => some t
def s_l7Sorted_b2 : ((List Int) × Int) → Option (Lo ((List Int) × Int) (Lo ((List Int) × Int) (List Int)))
  | (out_26, k_27) => (if decide (k_27 > 0) then ((idx out_26 k_27).bind fun x31 => (idx out_26 (i64 (k_27 - 1))).bind fun x36 => some (decide (x31 < x36))) else some false).bind fun b39 => if b39 then ((idx out_26 k_27).bind fun x56 => (idx out_26 (i64 (k_27 - 1))).bind fun x65 => (idx (out_26.set (Int.toNat k_27) x65) (i64 (k_27 - 1))).bind fun x72 => some (.cont (((out_26.set (Int.toNat k_27) x65).set (Int.toNat (i64 (k_27 - 1))) x56), i64 (k_27 - 1)))) else (some (.brk (out_26, k_27)))
def s_l7Sorted_b1 (fu : Nat) : ((List Int) × Int) → Option (Lo ((List Int) × Int) (List Int))
  | (out_19, i_20) => if decide (i_20 < (out_19.length : Int)) then (((whileL s_l7Sorted_b2 fu (out_19, i_20)) : Option (Jn ((List Int) × Int) (Lo ((List Int) × Int) (List Int)))).bind fun j => match j with | .nx (out_26, k_27) => (some (.cont (out_26, i64 (i_20 + 1)))) | .out t => some t) else (some (.brk (out_19, i_20)))
def s_l7Sorted (fu : Nat) (list : List Int) : Option (List Int) :=
  (app ([]) list).bind fun x4 => ((whileL (s_l7Sorted_b1 fu) fu (x4, 0)) : Option (Jn ((List Int) × Int) (List Int))).bind fun j => match j with | .nx (out_19, i_20) => (some out_19) | .out t => some t
def s_l7Different_b2 (m : Model) (i_15 : Nat) (_i_29 : Nat) (x_34 : Int) : (List Int) → Option (Lo (List Int) (Lo (List Con) (List Con)))
  | vars_30 => (idx m.sizes x_34).bind fun x40 => ((if decide ((i_15 : Int) ≤ x40) then ((s_l7Var m x_34 (i_15 : Int)).bind fun x81 => (app vars_30 ([x81])).bind fun x86 => some x86) else (some vars_30)) : Option (List Int)).bind fun vars_66 => some (.cont vars_66)
def s_l7Different_b1 (fu : Nat) (m : Model) (r_ : Rule) (i_15 : Nat) : (List Con) → Option (Lo (List Con) (List Con))
  | out_16 => ((rangeL (s_l7Different_b2 m i_15) r_.vars 0 ([])) : Option (Jn (List Int) (Lo (List Con) (List Con)))).bind fun j => match j with | .nx vars_30 => (((if decide ((vars_30.length : Int) > 1) then ((s_l7Sorted fu vars_30).bind fun x133 => (s_l7Most x133).bind fun x142 => (app out_16 ([x142])).bind fun x148 => some x148) else (some out_16)) : Option (List Con)).bind fun out_123 => some (.cont out_123)) | .out t => some t
def s_l7Different (fu : Nat) (m : Model) (r_ : Rule) : Option (List Con) :=
  (cntF 0 (3 + 1)).bind fun k21 => ((countL (s_l7Different_b1 fu m r_) k21 0 ([])) : Option (Jn (List Con) (List Con))).bind fun j => match j with | .nx out_16 => (some out_16) | .out t => some t
def s_l6Ints_b1 (b : List Int) (i_2 : Nat) (x_5 : Int) : (Unit) → Option (Lo (Unit) (Bool))
  | () => (idx b (i_2 : Int)).bind fun x11 => if (x_5 != x11) then (some (.out false)) else (some (.cont ()))
def s_l6Ints (a : List Int) (b : List Int) : Option (Bool) :=
  if ((a.length : Int) != (b.length : Int)) then (some false) else (((rangeL (s_l6Ints_b1 b) a 0 ()) : Option (Jn (Unit) (Bool))).bind fun j => match j with | .nx _ => (some true) | .out t => some t)
def s_l6Holds_b1 (cells : List Int) (_i_11 : Nat) (x_14 : Int) : (List Int) → Option (Lo (List Int) (Bool))
  | list_12 => (idx cells x_14).bind fun x20 => (app list_12 ([x20])).bind fun x28 => some (.cont x28)
def s_l6Holds_b2 (r_ : Rule) (i_47 : Nat) (x_51 : Int) : (Int) → Option (Lo (Int) (Bool))
  | n_48 => (idx r_.coefs (i_47 : Int)).bind fun x53 => some (.cont (i64 (n_48 + (i64 (x53 * x_51)))))
def s_l6Holds_b4 (list_12 : List Int) (x_83 : Int) (i_85 : Nat) : (Unit) → Option (Lo (Unit) (Lo (Unit) (Bool)))
  | () => (idx list_12 (i_85 : Int)).bind fun x91 => if (x91 == x_83) then (some (.out (.out false))) else (some (.cont ()))
def s_l6Holds_b3 (list_12 : List Int) (i_80 : Nat) (x_83 : Int) : (Unit) → Option (Lo (Unit) (Bool))
  | () => (cntF 0 (i_80 : Int)).bind fun k89 => ((countL (s_l6Holds_b4 list_12 x_83) k89 0 ()) : Option (Jn (Unit) (Lo (Unit) (Bool)))).bind fun j => match j with | .nx _ => (some (.cont ())) | .out t => some t
def s_l6Holds_b5 (list_12 : List Int) (_i_130 : Nat) (x_131 : List Int) : (Unit) → Option (Lo (Unit) (Bool))
  | () => (s_l6Ints x_131 list_12).bind fun x143 => if x143 then (some (.out true)) else (some (.cont ()))
def s_l6Holds (r_ : Rule) (cells : List Int) : Option (Bool) :=
  ((rangeL (s_l6Holds_b1 cells) r_.vars 0 ([])) : Option (Jn (List Int) (Bool))).bind fun j => match j with | .nx list_12 => (if (r_.kind == 1) then (((rangeL (s_l6Holds_b2 r_) list_12 0 0) : Option (Jn (Int) (Bool))).bind fun j => match j with | .nx n_48 => (some (decide (n_48 ≥ r_.bound))) | .out t => some t) else (if (r_.kind == 2) then (((rangeL (s_l6Holds_b3 list_12) list_12 0 ()) : Option (Jn (Unit) (Bool))).bind fun j => match j with | .nx _ => (some true) | .out t => some t) else (if (r_.kind == 4) then ((idx list_12 0).bind fun x111 => (idx list_12 1).bind fun x116 => some (decide (x111 < x116))) else (((rangeL (s_l6Holds_b5 list_12) r_.rows 0 ()) : Option (Jn (Unit) (Bool))).bind fun j => match j with | .nx _ => (some false) | .out t => some t)))) | .out t => some t
def s_l6Next_b1 (m : Model) : ((List Int) × Int) → Option (Lo ((List Int) × Int) ((List Int) × Bool))
  | (out_19, i_20) => if decide (i_20 ≥ 0) then ((idx out_19 i_20).bind fun x25 => (idx m.sizes i_20).bind fun x30 => if decide (x25 < x30) then (some (.out ((out_19.set (Int.toNat i_20) (i64 (x25 + 1))), true))) else (some (.cont ((out_19.set (Int.toNat i_20) 0), i64 (i_20 - 1))))) else (some (.brk (out_19, i_20)))
def s_l6Next (fu : Nat) (m : Model) (cells : List Int) : Option ((List Int) × Bool) :=
  (app ([]) cells).bind fun x8 => ((whileL (s_l6Next_b1 m) fu (x8, i64 ((x8.length : Int) - 1))) : Option (Jn ((List Int) × Int) ((List Int) × Bool))).bind fun j => match j with | .nx (out_19, i_20) => (some (out_19, false)) | .out t => some t
def s_l7Forbid_b1 (m : Model) (_i_15 : Nat) (x_20 : Int) : (List Int) → Option (Lo (List Int) (List Con))
  | g12_0_16 => (idx m.sizes x_20).bind fun x27 => (app g12_0_16 ([x27])).bind fun x35 => some (.cont x35)
def s_l7Forbid_b3 (m : Model) (r_ : Rule) (i_108 : Nat) (x_114 : Int) : ((List Int) × (List Int)) → Option (Lo ((List Int) × (List Int)) (Lo ((List Con) × (List Int) × Bool) (List Con)))
  | (cells_109, lits_110) => (idx r_.vars (i_108 : Int)).bind fun x116 => (idx cells_109 x116).bind fun x125 => (s_l7Var m x116 x_114).bind fun x160 => (app lits_110 ([i64 (-x160)])).bind fun x165 => some (.cont ((cells_109.set (Int.toNat x116) x_114), x165))
def s_l7Forbid_b2 (fu : Nat) (m : Model) (r_ : Rule) (g12_0_16 : List Int) : ((List Con) × (List Int) × Bool) → Option (Lo ((List Con) × (List Int) × Bool) (List Con))
  | (out_86, row_88, more_90) => if more_90 then ((mkN (m.sizes.length : Int) 0).bind fun x95 => ((rangeL (s_l7Forbid_b3 m r_) row_88 0 (x95, [])) : Option (Jn ((List Int) × (List Int)) (Lo ((List Con) × (List Int) × Bool) (List Con)))).bind fun j => match j with | .nx (cells_109, lits_110) => ((s_l6Holds r_ cells_109).bind fun x212 => ((if (!x212) then ((s_ClauseOf lits_110).bind fun x231 => (app out_86 ([x231.1])).bind fun x251 => some x251) else (some out_86)) : Option (List Con)).bind fun out_221 => (s_l6Next fu ({ sizes := g12_0_16, rules := [] } : Model) row_88).bind fun x268 => some (.cont (out_221, x268.1, x268.2))) | .out t => some t) else (some (.brk (out_86, row_88, more_90)))
def s_l7Forbid (fu : Nat) (m : Model) (r_ : Rule) : Option (List Con) :=
  ((rangeL (s_l7Forbid_b1 m) r_.vars 0 ([])) : Option (Jn (List Int) (List Con))).bind fun j => match j with | .nx g12_0_16 => ((mkN (r_.vars.length : Int) 0).bind fun x78 => ((whileL (s_l7Forbid_b2 fu m r_ g12_0_16) fu ([], x78, true)) : Option (Jn ((List Con) × (List Int) × Bool) (List Con))).bind fun j => match j with | .nx (out_86, row_88, more_90) => (some out_86) | .out t => some t) | .out t => some t
def s_l7Rule (fu : Nat) (m : Model) (r_ : Rule) : Option (List Con) :=
  if (r_.kind == 1) then ((s_l7Linear fu m r_).bind fun x15 => some x15) else (if (r_.kind == 2) then ((s_l7Different fu m r_).bind fun x31 => some x31) else ((s_l7Forbid fu m r_).bind fun x46 => some x46))
def s_EncodeModel_b1 (m : Model) (i_31 : Nat) (_x_34 : Int) : (List Con) → Option (Lo (List Con) ((List Con) × Bool))
  | out_32 => (s_l7Cell m (i_31 : Int)).bind fun x41 => (app out_32 x41).bind fun x44 => some (.cont x44)
def s_EncodeModel_b2 (fu : Nat) (m : Model) (_i_58 : Nat) (x_63 : Rule) : (List Con) → Option (Lo (List Con) ((List Con) × Bool))
  | out_59 => (s_l7Rule fu m x_63).bind fun x74 => (app out_59 x74).bind fun x77 => some (.cont x77)
def s_EncodeModel (fu : Nat) (m : Model) : Option ((List Con) × Bool) :=
  (s_ModelValid fu m).bind fun x10 => if (!x10) then (some ([], false)) else (((rangeL (s_EncodeModel_b1 m) m.sizes 0 ([])) : Option (Jn (List Con) ((List Con) × Bool))).bind fun j => match j with | .nx out_32 => (((rangeL (s_EncodeModel_b2 fu m) m.rules 0 out_32) : Option (Jn (List Con) ((List Con) × Bool))).bind fun j => match j with | .nx out_59 => (if decide ((out_59.length : Int) > 400) then (some ([], false)) else (some (out_59, true))) | .out t => some t) | .out t => some t)
def l_szIntS (a : List Int) (left : Int) : Option (Int) :=
  if decide ((i64 (left - (a.length : Int))) < 0) then (some (-1)) else (some (i64 (left - (a.length : Int))))
def l_szIntSS_b1 (_i_2 : Nat) (x_4 : List Int) : (Int) → Option (Lo (Int) (Int))
  | left_3 => (l_szIntS x_4 left_3).bind fun x15 => if decide (x15 < 0) then (some (.out (-1))) else (some (.cont x15))
def l_szIntSS (a : List (List Int)) (left : Int) : Option (Int) :=
  if decide ((i64 (left - (a.length : Int))) < 0) then (some (-1)) else (((rangeL l_szIntSS_b1 a 0 (i64 (left - (a.length : Int)))) : Option (Jn (Int) (Int))).bind fun j => match j with | .nx left_3 => (some left_3) | .out t => some t)
def l_szRule (a : Rule) (left : Int) : Option (Int) :=
  (l_szIntS a.vars left).bind fun x10 => if decide (x10 < 0) then (some (-1)) else ((l_szIntS a.coefs x10).bind fun x24 => if decide (x24 < 0) then (some (-1)) else ((l_szIntSS a.rows x24).bind fun x38 => if decide (x38 < 0) then (some (-1)) else (some x38)))
def l_szRuleS_b1 (_i_2 : Nat) (x_4 : Rule) : (Int) → Option (Lo (Int) (Int))
  | left_3 => (l_szRule x_4 left_3).bind fun x15 => if decide (x15 < 0) then (some (.out (-1))) else (some (.cont x15))
def l_szRuleS (a : List Rule) (left : Int) : Option (Int) :=
  if decide ((i64 (left - (a.length : Int))) < 0) then (some (-1)) else (((rangeL l_szRuleS_b1 a 0 (i64 (left - (a.length : Int)))) : Option (Jn (Int) (Int))).bind fun j => match j with | .nx left_3 => (some left_3) | .out t => some t)
def l_szModel (a : Model) (left : Int) : Option (Int) :=
  (l_szIntS a.sizes left).bind fun x10 => if decide (x10 < 0) then (some (-1)) else ((l_szRuleS a.rules x10).bind fun x24 => if decide (x24 < 0) then (some (-1)) else (some x24))
def l_toIntS_b1 (i_8 : Nat) (x_10 : Int) : (List Int) → Option (Lo (List Int) (List Int))
  | out_9 => (idx out_9 (i_8 : Int)).bind fun x16 => some (.cont (out_9.set (Int.toNat (i_8 : Int)) x_10))
def l_toIntS (a : List Int) : Option (List Int) :=
  (mkN (a.length : Int) 0).bind fun x1 => ((rangeL l_toIntS_b1 a 0 x1) : Option (Jn (List Int) (List Int))).bind fun j => match j with | .nx out_9 => (some out_9) | .out t => some t
def l_toIntSS_b1 (i_8 : Nat) (x_10 : List Int) : (List (List Int)) → Option (Lo (List (List Int)) (List (List Int)))
  | out_9 => (l_toIntS x_10).bind fun x21 => (idx out_9 (i_8 : Int)).bind fun x24 => some (.cont (out_9.set (Int.toNat (i_8 : Int)) x21))
def l_toIntSS (a : List (List Int)) : Option (List (List Int)) :=
  (mkN (a.length : Int) ([])).bind fun x1 => ((rangeL l_toIntSS_b1 a 0 x1) : Option (Jn (List (List Int)) (List (List Int)))).bind fun j => match j with | .nx out_9 => (some out_9) | .out t => some t
def l_toRule (a : Rule) : Option (Rule) :=
  (l_toIntS a.vars).bind fun x20 => (l_toIntS a.coefs).bind fun x37 => (l_toIntSS a.rows).bind fun x56 => some ({ kind := a.kind, vars := x20, coefs := x37, bound := a.bound, rows := x56 } : Rule)
def l_toRuleS_b1 (i_8 : Nat) (x_10 : Rule) : (List Rule) → Option (Lo (List Rule) (List Rule))
  | out_9 => (l_toRule x_10).bind fun x21 => (idx out_9 (i_8 : Int)).bind fun x26 => some (.cont (out_9.set (Int.toNat (i_8 : Int)) x21))
def l_toRuleS (a : List Rule) : Option (List Rule) :=
  (mkN (a.length : Int) ({ kind := 0, vars := [], coefs := [], bound := 0, rows := [] } : Rule)).bind fun x1 => ((rangeL l_toRuleS_b1 a 0 x1) : Option (Jn (List Rule) (List Rule))).bind fun j => match j with | .nx out_9 => (some out_9) | .out t => some t
def l_toModel (a : Model) : Option (Model) :=
  (l_toIntS a.sizes).bind fun x18 => (l_toRuleS a.rules).bind fun x35 => some ({ sizes := x18, rules := x35 } : Model)
def l_eqTerm (a : Term) (b : Term) : Option (Bool) :=
  if (a.coef != b.coef) then (some false) else (if (a.lit != b.lit) then (some false) else (some true))
def l_eqTermS_b1 (b : List Term) (i_2 : Nat) (x_5 : Term) : (Unit) → Option (Lo (Unit) (Bool))
  | () => (idx b (i_2 : Int)).bind fun x11 => (l_eqTerm x_5 x11).bind fun x21 => if (!x21) then (some (.out false)) else (some (.cont ()))
def l_eqTermS (a : List Term) (b : List Term) : Option (Bool) :=
  if ((a.length : Int) != (b.length : Int)) then (some false) else (((rangeL (l_eqTermS_b1 b) a 0 ()) : Option (Jn (Unit) (Bool))).bind fun j => match j with | .nx _ => (some true) | .out t => some t)
def l_eqConstraint (a : Con) (b : Con) : Option (Bool) :=
  (l_eqTermS a.terms b.terms).bind fun x14 => if (!x14) then (some false) else (if (a.bound != b.bound) then (some false) else (some true))
def l_eqConstraintS_b1 (b : List Con) (i_2 : Nat) (x_5 : Con) : (Unit) → Option (Lo (Unit) (Bool))
  | () => (idx b (i_2 : Int)).bind fun x11 => (l_eqConstraint x_5 x11).bind fun x21 => if (!x21) then (some (.out false)) else (some (.cont ()))
def l_eqConstraintS (a : List Con) (b : List Con) : Option (Bool) :=
  if ((a.length : Int) != (b.length : Int)) then (some false) else (((rangeL (l_eqConstraintS_b1 b) a 0 ()) : Option (Jn (Unit) (Bool))).bind fun j => match j with | .nx _ => (some true) | .out t => some t)
def l_eqIntS_b1 (b : List Int) (i_2 : Nat) (x_5 : Int) : (Unit) → Option (Lo (Unit) (Bool))
  | () => (idx b (i_2 : Int)).bind fun x11 => if (x_5 != x11) then (some (.out false)) else (some (.cont ()))
def l_eqIntS (a : List Int) (b : List Int) : Option (Bool) :=
  if ((a.length : Int) != (b.length : Int)) then (some false) else (((rangeL (l_eqIntS_b1 b) a 0 ()) : Option (Jn (Unit) (Bool))).bind fun j => match j with | .nx _ => (some true) | .out t => some t)
def l_eqIntSS_b1 (b : List (List Int)) (i_2 : Nat) (x_5 : List Int) : (Unit) → Option (Lo (Unit) (Bool))
  | () => (idx b (i_2 : Int)).bind fun x11 => (l_eqIntS x_5 x11).bind fun x21 => if (!x21) then (some (.out false)) else (some (.cont ()))
def l_eqIntSS (a : List (List Int)) (b : List (List Int)) : Option (Bool) :=
  if ((a.length : Int) != (b.length : Int)) then (some false) else (((rangeL (l_eqIntSS_b1 b) a 0 ()) : Option (Jn (Unit) (Bool))).bind fun j => match j with | .nx _ => (some true) | .out t => some t)
def l_eqRule (a : Rule) (b : Rule) : Option (Bool) :=
  if (a.kind != b.kind) then (some false) else ((l_eqIntS a.vars b.vars).bind fun x15 => if (!x15) then (some false) else ((l_eqIntS a.coefs b.coefs).bind fun x29 => if (!x29) then (some false) else (if (a.bound != b.bound) then (some false) else ((l_eqIntSS a.rows b.rows).bind fun x44 => if (!x44) then (some false) else (some true)))))
def l_eqRuleS_b1 (b : List Rule) (i_2 : Nat) (x_5 : Rule) : (Unit) → Option (Lo (Unit) (Bool))
  | () => (idx b (i_2 : Int)).bind fun x11 => (l_eqRule x_5 x11).bind fun x21 => if (!x21) then (some (.out false)) else (some (.cont ()))
def l_eqRuleS (a : List Rule) (b : List Rule) : Option (Bool) :=
  if ((a.length : Int) != (b.length : Int)) then (some false) else (((rangeL (l_eqRuleS_b1 b) a 0 ()) : Option (Jn (Unit) (Bool))).bind fun j => match j with | .nx _ => (some true) | .out t => some t)
def l_eqModel (a : Model) (b : Model) : Option (Bool) :=
  (l_eqIntS a.sizes b.sizes).bind fun x14 => if (!x14) then (some false) else ((l_eqRuleS a.rules b.rules).bind fun x28 => if (!x28) then (some false) else (some true))
def l_markIntS_b1 : ((List Int) × Int × Int) → Option (Lo ((List Int) × Int × Int) (Int × (List Int)))
  | (a_5, k_6, i_7) => if decide (i_7 < (a_5.length : Int)) then ((idx a_5 i_7).bind fun x10 => some (.cont ((a_5.set (Int.toNat i_7) k_6), i64 (k_6 + 1), i64 (i_7 + 1)))) else (some (.brk (a_5, k_6, i_7)))
def l_markIntS (fu : Nat) (a : List Int) (k : Int) : Option (Int × (List Int)) :=
  ((whileL l_markIntS_b1 fu (a, k, 0)) : Option (Jn ((List Int) × Int × Int) (Int × (List Int)))).bind fun j => match j with | .nx (a_5, k_6, i_7) => (some (k_6, a_5)) | .out t => some t
def l_markIntSS_b1 (fu : Nat) : ((List (List Int)) × Int × Int) → Option (Lo ((List (List Int)) × Int × Int) (Int × (List (List Int))))
  | (a_5, k_6, i_7) => if decide (i_7 < (a_5.length : Int)) then ((idx a_5 i_7).bind fun x10 => (l_markIntS fu x10 k_6).bind fun x20 => some (.cont ((a_5.set (Int.toNat i_7) x20.2), x20.1, i64 (i_7 + 1)))) else (some (.brk (a_5, k_6, i_7)))
def l_markIntSS (fu : Nat) (a : List (List Int)) (k : Int) : Option (Int × (List (List Int))) :=
  ((whileL (l_markIntSS_b1 fu) fu (a, k, 0)) : Option (Jn ((List (List Int)) × Int × Int) (Int × (List (List Int))))).bind fun j => match j with | .nx (a_5, k_6, i_7) => (some (k_6, a_5)) | .out t => some t
def l_markRuleS_b1 (fu : Nat) : ((List Rule) × Int × Int) → Option (Lo ((List Rule) × Int × Int) (Int × (List Rule)))
  | (a_5, k_6, i_7) => if decide (i_7 < (a_5.length : Int)) then ((idx a_5 i_7).bind fun x10 => (idx (a_5.set (Int.toNat i_7) ({ x10 with kind := k_6 })) i_7).bind fun x17 => (l_markIntS fu x17.vars (i64 (k_6 + 1))).bind fun x27 => (idx ((a_5.set (Int.toNat i_7) ({ x10 with kind := k_6 })).set (Int.toNat i_7) ({ kind := x17.kind, vars := x27.2, coefs := x17.coefs, bound := x17.bound, rows := x17.rows } : Rule)) i_7).bind fun x39 => (l_markIntS fu x39.coefs x27.1).bind fun x49 => (idx (((a_5.set (Int.toNat i_7) ({ x10 with kind := k_6 })).set (Int.toNat i_7) ({ kind := x17.kind, vars := x27.2, coefs := x17.coefs, bound := x17.bound, rows := x17.rows } : Rule)).set (Int.toNat i_7) ({ kind := x39.kind, vars := x39.vars, coefs := x49.2, bound := x39.bound, rows := x39.rows } : Rule)) i_7).bind fun x61 => (idx ((((a_5.set (Int.toNat i_7) ({ x10 with kind := k_6 })).set (Int.toNat i_7) ({ kind := x17.kind, vars := x27.2, coefs := x17.coefs, bound := x17.bound, rows := x17.rows } : Rule)).set (Int.toNat i_7) ({ kind := x39.kind, vars := x39.vars, coefs := x49.2, bound := x39.bound, rows := x39.rows } : Rule)).set (Int.toNat i_7) ({ x61 with bound := x49.1 })) i_7).bind fun x64 => (l_markIntSS fu x64.rows (i64 (x49.1 + 1))).bind fun x74 => some (.cont ((((((a_5.set (Int.toNat i_7) ({ x10 with kind := k_6 })).set (Int.toNat i_7) ({ kind := x17.kind, vars := x27.2, coefs := x17.coefs, bound := x17.bound, rows := x17.rows } : Rule)).set (Int.toNat i_7) ({ kind := x39.kind, vars := x39.vars, coefs := x49.2, bound := x39.bound, rows := x39.rows } : Rule)).set (Int.toNat i_7) ({ x61 with bound := x49.1 })).set (Int.toNat i_7) ({ kind := x64.kind, vars := x64.vars, coefs := x64.coefs, bound := x64.bound, rows := x74.2 } : Rule)), x74.1, i64 (i_7 + 1)))) else (some (.brk (a_5, k_6, i_7)))
def l_markRuleS (fu : Nat) (a : List Rule) (k : Int) : Option (Int × (List Rule)) :=
  ((whileL (l_markRuleS_b1 fu) fu (a, k, 0)) : Option (Jn ((List Rule) × Int × Int) (Int × (List Rule)))).bind fun j => match j with | .nx (a_5, k_6, i_7) => (some (k_6, a_5)) | .out t => some t
def l_markModel (fu : Nat) (a : Model) (k : Int) : Option (Int × Model) :=
  (l_markIntS fu a.sizes k).bind fun x10 => (l_markRuleS fu a.rules x10.1).bind fun x23 => some (x23.1, ({ sizes := x10.2, rules := x23.2 } : Model))
def l_markTermS_b1 : ((List Term) × Int × Int) → Option (Lo ((List Term) × Int × Int) (Int × (List Term)))
  | (a_5, k_6, i_7) => if decide (i_7 < (a_5.length : Int)) then ((idx a_5 i_7).bind fun x10 => (idx (a_5.set (Int.toNat i_7) ({ x10 with coef := k_6 })) i_7).bind fun x17 => some (.cont (((a_5.set (Int.toNat i_7) ({ x10 with coef := k_6 })).set (Int.toNat i_7) ({ x17 with lit := i64 (k_6 + 1) })), i64 ((i64 (k_6 + 1)) + 1), i64 (i_7 + 1)))) else (some (.brk (a_5, k_6, i_7)))
def l_markTermS (fu : Nat) (a : List Term) (k : Int) : Option (Int × (List Term)) :=
  ((whileL l_markTermS_b1 fu (a, k, 0)) : Option (Jn ((List Term) × Int × Int) (Int × (List Term)))).bind fun j => match j with | .nx (a_5, k_6, i_7) => (some (k_6, a_5)) | .out t => some t
def l_markConstraintS_b1 (fu : Nat) : ((List Con) × Int × Int) → Option (Lo ((List Con) × Int × Int) (Int × (List Con)))
  | (a_5, k_6, i_7) => if decide (i_7 < (a_5.length : Int)) then ((idx a_5 i_7).bind fun x10 => (l_markTermS fu x10.terms k_6).bind fun x20 => (idx (a_5.set (Int.toNat i_7) ({ terms := x20.2, bound := x10.bound } : Con)) i_7).bind fun x32 => some (.cont (((a_5.set (Int.toNat i_7) ({ terms := x20.2, bound := x10.bound } : Con)).set (Int.toNat i_7) ({ x32 with bound := x20.1 })), i64 (x20.1 + 1), i64 (i_7 + 1)))) else (some (.brk (a_5, k_6, i_7)))
def l_markConstraintS (fu : Nat) (a : List Con) (k : Int) : Option (Int × (List Con)) :=
  ((whileL (l_markConstraintS_b1 fu) fu (a, k, 0)) : Option (Jn ((List Con) × Int × Int) (Int × (List Con)))).bind fun j => match j with | .nx (a_5, k_6, i_7) => (some (k_6, a_5)) | .out t => some t
def l_heldTermS_b1 (_i_1 : Nat) (x_3 : Term) : (Int) → Option (Lo (Int) (Int))
  | k_2 => if (x_3.coef != k_2) then (some (.out (-1))) else (if (x_3.lit != (i64 (k_2 + 1))) then (some (.out (-1))) else (some (.cont (i64 ((i64 (k_2 + 1)) + 1)))))
def l_heldTermS (a : List Term) (k : Int) : Option (Int) :=
  ((rangeL l_heldTermS_b1 a 0 k) : Option (Jn (Int) (Int))).bind fun j => match j with | .nx k_2 => (some k_2) | .out t => some t
def l_heldConstraintS_b1 (_i_1 : Nat) (x_3 : Con) : (Int) → Option (Lo (Int) (Int))
  | k_2 => (l_heldTermS x_3.terms k_2).bind fun x14 => if decide (x14 < 0) then (some (.out (-1))) else (if (x_3.bound != x14) then (some (.out (-1))) else (some (.cont (i64 (x14 + 1)))))
def l_heldConstraintS (a : List Con) (k : Int) : Option (Int) :=
  ((rangeL l_heldConstraintS_b1 a 0 k) : Option (Jn (Int) (Int))).bind fun j => match j with | .nx k_2 => (some k_2) | .out t => some t
def l_FnExactEncodeModel (fu : Nat) (aM : Model) : Option (Bool) :=
  (l_szModel aM 1048576).bind fun x10 => if decide (x10 < 0) then (some true) else ((l_toModel aM).bind fun x24 => (s_EncodeModel fu x24).bind fun x35 => (l_toModel aM).bind fun x60 => (i_EncodeModel fu x60).bind fun x85 => (l_eqConstraintS x85.1 x35.1).bind fun x104 => if ((!x104) || (x85.2 != x35.2)) then (some false) else ((l_toModel aM).bind fun x122 => (l_eqModel x60 x122).bind fun x135 => if (!x135) then (some false) else ((l_markModel fu x60 1).bind fun x171 => (if decide (x171.1 < 0) then some true else ((l_eqConstraintS x85.1 x35.1).bind fun x186 => some (!x186))).bind fun b188 => if (b188 || (x85.2 != x35.2)) then (some false) else ((l_markConstraintS fu x85.1 1).bind fun x207 => (l_heldConstraintS x207.2 1).bind fun x221 => if decide (x221 < 0) then (some false) else (if (x221 != x207.1) then (some false) else ((l_toModel aM).bind fun x237 => (i_EncodeModel fu x237).bind fun x248 => (l_eqConstraintS x248.1 x35.1).bind fun x275 => if ((!x275) || (x248.2 != x35.2)) then (some false) else ((l_heldConstraintS x207.2 1).bind fun x294 => if decide (x294 < 0) then (some false) else (if (x294 != x207.1) then (some false) else (some true)))))))))
end Go.L

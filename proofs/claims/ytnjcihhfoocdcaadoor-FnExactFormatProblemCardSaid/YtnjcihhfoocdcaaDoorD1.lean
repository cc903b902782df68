/- Part of a proof by program: D1. -/
import Derived.Test.YtnjcihhfoocdcaaDoorG15
namespace Go.L
open Go Go.E
set_option linter.unusedVariables false
def l_szTermS (a : List Term) (left : Int) : Option (Int) :=
  if decide ((i64 (left - (a.length : Int))) < 0) then (some (-1)) else (some (i64 (left - (a.length : Int))))
def l_szConstraint (a : Con) (left : Int) : Option (Int) :=
  (l_szTermS a.terms left).bind fun x10 => if decide (x10 < 0) then (some (-1)) else (some x10)
def s_l1Lit (n_ : Int) : Option (Bool) :=
  some (((n_ != 0) && (decide (n_ ≥ (-12)))) && (decide (n_ ≤ 12)))
def s_l1Abs (n_ : Int) : Option (Int) :=
  if decide (n_ < 0) then (some (i64 (-n_))) else (some n_)
def s_ConstraintValid_b1 (c : Con) (i_5 : Nat) (x_8 : Term) : (Unit) → Option (Lo (Unit) (Bool))
  | () => (s_l1Lit x_8.lit).bind fun x29 => (if (((!x29) || (decide (x_8.coef < 1))) || (decide (x_8.coef > 1000))) then some true else ((if decide ((i_5 : Int) > 0) then ((idx c.terms (i64 ((i_5 : Int) - 1))).bind fun x31 => (s_l1Abs x31.lit).bind fun x41 => (s_l1Abs x_8.lit).bind fun x48 => some (decide (x41 ≥ x48))) else some false).bind fun b50 => some b50)).bind fun b51 => if b51 then (some (.out false)) else (some (.cont ()))
def s_ConstraintValid (c : Con) : Option (Bool) :=
  ((rangeL (s_ConstraintValid_b1 c) c.terms 0 ()) : Option (Jn (Unit) (Bool))).bind fun j => match j with | .nx _ => (some ((decide (c.bound ≥ 0)) && (decide (c.bound ≤ 20000)))) | .out t => some t
def s_l17Dec_b1 : (Int × ByteArray) → Option (Lo (Int × ByteArray) (ByteArray))
  | (n_18, out_19) => if decide (n_18 > 9) then ((cat (bs [(u8w (i64 (48 + (Int.tmod n_18 10))))]) out_19).bind fun x25 => some (.cont (i64 (Int.tdiv n_18 10), x25))) else (some (.brk (n_18, out_19)))
def s_l17Dec_F (fu : Nat) (rec_ : Int → Option ByteArray) (n_ : Int) : Option (ByteArray) :=
  if decide (n_ < (-9223372036854775807)) then (some (⟨#[45, 57, 50, 50, 51, 51, 55, 50, 48, 51, 54, 56, 53, 52, 55, 55, 53, 56, 48, 56]⟩ : ByteArray)) else (if decide (n_ < 0) then ((rec_ (i64 (-n_))).bind fun x8 => (cat (⟨#[45]⟩ : ByteArray) x8).bind fun x10 => some x10) else (((whileL s_l17Dec_b1 fu (n_, (⟨#[]⟩ : ByteArray))) : Option (Jn (Int × ByteArray) (ByteArray))).bind fun j => match j with | .nx (n_18, out_19) => ((cat (bs [(u8w (i64 (48 + n_18)))]) out_19).bind fun x32 => some x32) | .out t => some t))
def s_l17Dec_R (fu : Nat) : Nat → Int → Option ByteArray
  | 0 => fun _ => none
  | n + 1 => s_l17Dec_F fu (s_l17Dec_R fu n)
def s_l17Dec (fu : Nat) (n_ : Int) : Option ByteArray := s_l17Dec_R fu fu n_
def s_l1Name (fu : Nat) (lit : Int) : Option (ByteArray) :=
  if decide (lit < 0) then ((s_l17Dec fu (i64 (-lit))).bind fun x7 => (cat (⟨#[126, 120]⟩ : ByteArray) x7).bind fun x9 => some x9) else ((s_l17Dec fu lit).bind fun x21 => (cat (⟨#[120]⟩ : ByteArray) x21).bind fun x23 => some x23)
def s_l1Text_b1 (fu : Nat) (_i_5 : Nat) (x_9 : Term) : (ByteArray) → Option (Lo (ByteArray) (ByteArray))
  | out_6 => (s_l17Dec fu x_9.coef).bind fun x20 => (cat out_6 x20).bind fun x22 => (cat x22 (⟨#[32]⟩ : ByteArray)).bind fun x23 => (s_l1Name fu x_9.lit).bind fun x33 => (cat x23 x33).bind fun x35 => (cat x35 (⟨#[32]⟩ : ByteArray)).bind fun x36 => some (.cont x36)
def s_l1Text (fu : Nat) (c : Con) : Option (ByteArray) :=
  ((rangeL (s_l1Text_b1 fu) c.terms 0 (⟨#[]⟩ : ByteArray)) : Option (Jn (ByteArray) (ByteArray))).bind fun j => match j with | .nx out_6 => ((cat out_6 (⟨#[62, 61, 32]⟩ : ByteArray)).bind fun x86 => (s_l17Dec fu c.bound).bind fun x92 => (cat x86 x92).bind fun x94 => some x94) | .out t => some t
def l_toTerm (a : Term) : Option (Term) :=
  some a
def l_toTermS_b1 (i_8 : Nat) (x_10 : Term) : (List Term) → Option (Lo (List Term) (List Term))
  | out_9 => (l_toTerm x_10).bind fun x21 => (idx out_9 (i_8 : Int)).bind fun x23 => some (.cont (out_9.set (Int.toNat (i_8 : Int)) x21))
def l_toTermS (a : List Term) : Option (List Term) :=
  (mkN (a.length : Int) ({ coef := 0, lit := 0 } : Term)).bind fun x1 => ((rangeL l_toTermS_b1 a 0 x1) : Option (Jn (List Term) (List Term))).bind fun j => match j with | .nx out_9 => (some out_9) | .out t => some t
def l_toConstraint (a : Con) : Option (Con) :=
  (l_toTermS a.terms).bind fun x18 => some ({ terms := x18, bound := a.bound } : Con)
def i_within (n_ : Int) (low : Int) (high : Int) : Option (Bool) :=
  some ((decide (low ≤ n_)) && (decide (n_ ≤ high)))
def i_isLiteral (l : Int) : Option (Bool) :=
  (if (l != 0) then ((i_within l (-12) 12).bind fun x6 => some x6) else some false).bind fun b8 => some b8
def i_variableOf (l : Int) : Option (Int) :=
  some (max l (i64 (-l)))
def i_ConstraintValid_b1 (_i_5 : Nat) (x_7 : Term) : (Int) → Option (Lo (Int) (Bool))
  | before_6 => (i_isLiteral x_7.lit).bind fun x28 => (if (!x28) then some true else ((i_variableOf x_7.lit).bind fun x35 => some (decide (x35 ≤ before_6)))).bind fun b37 => (if b37 then some true else ((i_within x_7.coef 1 1000).bind fun x43 => some (!x43))).bind fun b45 => if b45 then (some (.out false)) else ((i_variableOf x_7.lit).bind fun x80 => some (.cont x80))
def i_ConstraintValid (c : Con) : Option (Bool) :=
  ((rangeL i_ConstraintValid_b1 c.terms 0 0) : Option (Jn (Int) (Bool))).bind fun j => match j with | .nx before_6 => ((i_within c.bound 0 20000).bind fun x93 => some x93) | .out t => some t
def i_literalText (l : Int) : Option (ByteArray) :=
  if decide (l < 0) then ((strconv_Itoa (i64 (-l))).bind fun x7 => (cat (⟨#[126, 120]⟩ : ByteArray) x7).bind fun x9 => some x9) else ((strconv_Itoa l).bind fun x21 => (cat (⟨#[120]⟩ : ByteArray) x21).bind fun x23 => some x23)
def i_Constraint_text_b1 (_i_5 : Nat) (x_9 : Term) : (ByteArray) → Option (Lo (ByteArray) (ByteArray))
  | out_6 => (strconv_Itoa x_9.coef).bind fun x30 => (cat x30 (⟨#[32]⟩ : ByteArray)).bind fun x32 => (i_literalText x_9.lit).bind fun x38 => (cat x32 x38).bind fun x40 => (cat x40 (⟨#[32]⟩ : ByteArray)).bind fun x41 => (cat out_6 x41).bind fun x42 => some (.cont x42)
def i_Constraint_text (c : Con) : Option (ByteArray) :=
  ((rangeL i_Constraint_text_b1 c.terms 0 (⟨#[]⟩ : ByteArray)) : Option (Jn (ByteArray) (ByteArray))).bind fun j => match j with | .nx out_6 => ((cat out_6 (⟨#[62, 61, 32]⟩ : ByteArray)).bind fun x68 => (strconv_Itoa c.bound).bind fun x74 => (cat x68 x74).bind fun x76 => some x76) | .out t => some t
def l_eqTerm (a : Term) (b : Term) : Option (Bool) :=
  if (a.coef != b.coef) then (some false) else (if (a.lit != b.lit) then (some false) else (some true))
def l_eqTermS_b1 (b : List Term) (i_2 : Nat) (x_5 : Term) : (Unit) → Option (Lo (Unit) (Bool))
  | () => (idx b (i_2 : Int)).bind fun x11 => (l_eqTerm x_5 x11).bind fun x21 => if (!x21) then (some (.out false)) else (some (.cont ()))
def l_eqTermS (a : List Term) (b : List Term) : Option (Bool) :=
  if ((a.length : Int) != (b.length : Int)) then (some false) else (((rangeL (l_eqTermS_b1 b) a 0 ()) : Option (Jn (Unit) (Bool))).bind fun j => match j with | .nx _ => (some true) | .out t => some t)
def l_eqConstraint (a : Con) (b : Con) : Option (Bool) :=
  (l_eqTermS a.terms b.terms).bind fun x14 => if (!x14) then (some false) else (if (a.bound != b.bound) then (some false) else (some true))
def l_szConstraintS_b1 (_i_2 : Nat) (x_4 : Con) : (Int) → Option (Lo (Int) (Int))
  | left_3 => (l_szConstraint x_4 left_3).bind fun x15 => if decide (x15 < 0) then (some (.out (-1))) else (some (.cont x15))
def l_szConstraintS (a : List Con) (left : Int) : Option (Int) :=
  if decide ((i64 (left - (a.length : Int))) < 0) then (some (-1)) else (((rangeL l_szConstraintS_b1 a 0 (i64 (left - (a.length : Int)))) : Option (Jn (Int) (Int))).bind fun j => match j with | .nx left_3 => (some left_3) | .out t => some t)
def s_ProblemValid_b1 (_i_1 : Nat) (x_2 : Con) : (Unit) → Option (Lo (Unit) (Bool))
  | () => (s_ConstraintValid x_2).bind fun x13 => if (!x13) then (some (.out false)) else (some (.cont ()))
def s_ProblemValid (list : List Con) : Option (Bool) :=
  ((rangeL s_ProblemValid_b1 list 0 ()) : Option (Jn (Unit) (Bool))).bind fun j => match j with | .nx _ => (some (decide ((list.length : Int) ≤ 400))) | .out t => some t
def s_FormatProblem_b1 (fu : Nat) (_i_15 : Nat) (x_17 : Con) : (ByteArray) → Option (Lo (ByteArray) (ByteArray))
  | out_16 => (s_l1Text fu x_17).bind fun x28 => (cat out_16 x28).bind fun x30 => (cat x30 (⟨#[10]⟩ : ByteArray)).bind fun x31 => some (.cont x31)
def s_FormatProblem (fu : Nat) (list : List Con) : Option (ByteArray) :=
  (s_ProblemValid list).bind fun x6 => if (!x6) then (some (⟨#[]⟩ : ByteArray)) else (((rangeL (s_FormatProblem_b1 fu) list 0 (⟨#[]⟩ : ByteArray)) : Option (Jn (ByteArray) (ByteArray))).bind fun j => match j with | .nx out_16 => (some out_16) | .out t => some t)
def l_toConstraintS_b1 (i_8 : Nat) (x_10 : Con) : (List Con) → Option (Lo (List Con) (List Con))
  | out_9 => (l_toConstraint x_10).bind fun x21 => (idx out_9 (i_8 : Int)).bind fun x24 => some (.cont (out_9.set (Int.toNat (i_8 : Int)) x21))
def l_toConstraintS (a : List Con) : Option (List Con) :=
  (mkN (a.length : Int) ({ terms := [], bound := 0 } : Con)).bind fun x1 => ((rangeL l_toConstraintS_b1 a 0 x1) : Option (Jn (List Con) (List Con))).bind fun j => match j with | .nx out_9 => (some out_9) | .out t => some t
def slices_IndexFunc_implConstraint_b1 (f_ : (Con → Option Bool)) (i_1 : Nat) (x_2 : Con) : (Unit) → Option (Lo (Unit) (Int))
  | () => (f_ x_2).bind fun x8 => if x8 then (some (.out (i_1 : Int))) else (some (.cont ()))
def slices_IndexFunc_implConstraint (s : List Con) (f_ : (Con → Option Bool)) : Option (Int) :=
  ((rangeL (slices_IndexFunc_implConstraint_b1 f_) s 0 ()) : Option (Jn (Unit) (Int))).bind fun j => match j with | .nx _ => (some (-1)) | .out t => some t
def slices_ContainsFunc_implConstraint (s : List Con) (f_ : (Con → Option Bool)) : Option (Bool) :=
  (slices_IndexFunc_implConstraint s f_).bind fun x6 => some (decide (x6 ≥ 0))
def i_allValid_1 (c : Con) : Option (Bool) :=
  (i_ConstraintValid c).bind fun x10 => some (!x10)
def i_allValid (list : List Con) : Option (Bool) :=
  (slices_ContainsFunc_implConstraint list i_allValid_1).bind fun x6 => some (!x6)
def i_ProblemValid (list : List Con) : Option (Bool) :=
  (if decide ((list.length : Int) ≤ 400) then ((i_allValid list).bind fun x6 => some x6) else some false).bind fun b8 => some b8
def i_FormatProblem_b1 (_i_23 : Nat) (x_25 : Con) : (ByteArray) → Option (Lo (ByteArray) (ByteArray))
  | ag19_24 => (i_Constraint_text x_25).bind fun x46 => (cat x46 (⟨#[10]⟩ : ByteArray)).bind fun x48 => (catB ag19_24 x48).bind fun x50 => some (.cont x50)
def i_FormatProblem (list : List Con) : Option (ByteArray) :=
  (i_ProblemValid list).bind fun x6 => if (!x6) then (some (⟨#[]⟩ : ByteArray)) else (((rangeL i_FormatProblem_b1 list 0 ByteArray.empty) : Option (Jn (ByteArray) (ByteArray))).bind fun j => match j with | .nx ag19_24 => (some ag19_24) | .out t => some t)
def l_eqConstraintS_b1 (b : List Con) (i_2 : Nat) (x_5 : Con) : (Unit) → Option (Lo (Unit) (Bool))
  | () => (idx b (i_2 : Int)).bind fun x11 => (l_eqConstraint x_5 x11).bind fun x21 => if (!x21) then (some (.out false)) else (some (.cont ()))
def l_eqConstraintS (a : List Con) (b : List Con) : Option (Bool) :=
  if ((a.length : Int) != (b.length : Int)) then (some false) else (((rangeL (l_eqConstraintS_b1 b) a 0 ()) : Option (Jn (Unit) (Bool))).bind fun j => match j with | .nx _ => (some true) | .out t => some t)
def l_FnExactFormatProblem (fu : Nat) (aList : List Con) : Option (Bool) :=
  (l_szConstraintS aList 1048576).bind fun x6 => if decide (x6 < 0) then (some true) else ((l_toConstraintS aList).bind fun x20 => (s_FormatProblem fu x20).bind fun x29 => (l_toConstraintS aList).bind fun x50 => (i_FormatProblem x50).bind fun x66 => if (!(ByteArray.toList x66 == ByteArray.toList x29)) then (some false) else ((l_toConstraintS aList).bind fun x81 => (l_eqConstraintS x50 x81).bind fun x91 => if (!x91) then (some false) else (some true)))
end Go.L

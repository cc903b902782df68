/- Part of a proof by program: D1. -/
import Derived.Test.YtnjcihhfoocdcaaDoorG15
namespace Go.L
open Go Go.E
set_option linter.unusedVariables false
def s_l1Lit (n_ : Int) : Option (Bool) :=
  some (((n_ != 0) && (decide (n_ ≥ (-12)))) && (decide (n_ ≤ 12)))
def s_l1Abs (n_ : Int) : Option (Int) :=
  if decide (n_ < 0) then (some (i64 (-n_))) else (some n_)
def s_ConstraintValid_b1 (c : Con) (i_5 : Nat) (x_8 : Term) : (Unit) → Option (Lo (Unit) (Bool))
  | () => (s_l1Lit x_8.lit).bind fun x29 => (if (((!x29) || (decide (x_8.coef < 1))) || (decide (x_8.coef > 1000))) then some true else ((if decide ((i_5 : Int) > 0) then ((idx c.terms (i64 ((i_5 : Int) - 1))).bind fun x31 => (s_l1Abs x31.lit).bind fun x41 => (s_l1Abs x_8.lit).bind fun x48 => some (decide (x41 ≥ x48))) else some false).bind fun b50 => some b50)).bind fun b51 => if b51 then (some (.out false)) else (some (.cont ()))
def s_ConstraintValid (c : Con) : Option (Bool) :=
  ((rangeL (s_ConstraintValid_b1 c) c.terms 0 ()) : Option (Jn (Unit) (Bool))).bind fun j => match j with | .nx _ => (some ((decide (c.bound ≥ 0)) && (decide (c.bound ≤ 20000)))) | .out t => some t
def s_l17Dec_b1 : (Int × ByteArray) → Option (Lo (Int × ByteArray) (ByteArray))
  | (n_18, out_19) => if decide (n_18 > 9) then ((cat (bs [(u8w (i64 (48 + (Int.tmod n_18 10))))]) out_19).bind fun x25 => some (.cont (i64 (Int.tdiv n_18 10), x25))) else (some (.brk (n_18, out_19)))
def s_l17Dec_F (fu : Nat) (rec_ : Int → Option ByteArray) (n_ : Int) : Option (ByteArray) :=
  if decide (n_ < (-9223372036854775807)) then (some (⟨#[45, 57, 50, 50, 51, 51, 55, 50, 48, 51, 54, 56, 53, 52, 55, 55, 53, 56, 48, 56]⟩ : ByteArray)) else (if decide (n_ < 0) then ((rec_ (i64 (-n_))).bind fun x8 => (cat (⟨#[45]⟩ : ByteArray) x8).bind fun x10 => some x10) else (((whileL s_l17Dec_b1 fu (n_, (⟨#[]⟩ : ByteArray))) : Option (Jn (Int × ByteArray) (ByteArray))).bind fun j => match j with | .nx (n_18, out_19) => ((cat (bs [(u8w (i64 (48 + n_18)))]) out_19).bind fun x32 => some x32) | .out t => some t))
def s_l17Dec_R (fu : Nat) : Nat → Int → Option ByteArray
  | 0 => fun _ => none
  | n + 1 => s_l17Dec_F fu (s_l17Dec_R fu n)
def s_l17Dec (fu : Nat) (n_ : Int) : Option ByteArray := s_l17Dec_R fu fu n_
def s_l1Name (fu : Nat) (lit : Int) : Option (ByteArray) :=
  if decide (lit < 0) then ((s_l17Dec fu (i64 (-lit))).bind fun x7 => (cat (⟨#[126, 120]⟩ : ByteArray) x7).bind fun x9 => some x9) else ((s_l17Dec fu lit).bind fun x21 => (cat (⟨#[120]⟩ : ByteArray) x21).bind fun x23 => some x23)
def s_l1Text_b1 (fu : Nat) (_i_5 : Nat) (x_9 : Term) : (ByteArray) → Option (Lo (ByteArray) (ByteArray))
  | out_6 => (s_l17Dec fu x_9.coef).bind fun x20 => (cat out_6 x20).bind fun x22 => (cat x22 (⟨#[32]⟩ : ByteArray)).bind fun x23 => (s_l1Name fu x_9.lit).bind fun x33 => (cat x23 x33).bind fun x35 => (cat x35 (⟨#[32]⟩ : ByteArray)).bind fun x36 => some (.cont x36)
def s_l1Text (fu : Nat) (c : Con) : Option (ByteArray) :=
  ((rangeL (s_l1Text_b1 fu) c.terms 0 (⟨#[]⟩ : ByteArray)) : Option (Jn (ByteArray) (ByteArray))).bind fun j => match j with | .nx out_6 => ((cat out_6 (⟨#[62, 61, 32]⟩ : ByteArray)).bind fun x86 => (s_l17Dec fu c.bound).bind fun x92 => (cat x86 x92).bind fun x94 => some x94) | .out t => some t
def s_FormatConstraint (fu : Nat) (c : Con) : Option (ByteArray) :=
  (s_ConstraintValid c).bind fun x10 => if (!x10) then (some (⟨#[]⟩ : ByteArray)) else ((s_l1Text fu c).bind fun x24 => some x24)
def i_within (n_ : Int) (low : Int) (high : Int) : Option (Bool) :=
  some ((decide (low ≤ n_)) && (decide (n_ ≤ high)))
def i_isLiteral (l : Int) : Option (Bool) :=
  (if (l != 0) then ((i_within l (-12) 12).bind fun x6 => some x6) else some false).bind fun b8 => some b8
def i_variableOf (l : Int) : Option (Int) :=
  some (max l (i64 (-l)))
def i_ConstraintValid_b1 (_i_5 : Nat) (x_7 : Term) : (Int) → Option (Lo (Int) (Bool))
  | before_6 => (i_isLiteral x_7.lit).bind fun x28 => (if (!x28) then some true else ((i_variableOf x_7.lit).bind fun x35 => some (decide (x35 ≤ before_6)))).bind fun b37 => (if b37 then some true else ((i_within x_7.coef 1 1000).bind fun x43 => some (!x43))).bind fun b45 => if b45 then (some (.out false)) else ((i_variableOf x_7.lit).bind fun x80 => some (.cont x80))
def i_ConstraintValid (c : Con) : Option (Bool) :=
  ((rangeL i_ConstraintValid_b1 c.terms 0 0) : Option (Jn (Int) (Bool))).bind fun j => match j with | .nx before_6 => ((i_within c.bound 0 20000).bind fun x93 => some x93) | .out t => some t
def i_literalText (l : Int) : Option (ByteArray) :=
  if decide (l < 0) then ((strconv_Itoa (i64 (-l))).bind fun x7 => (cat (⟨#[126, 120]⟩ : ByteArray) x7).bind fun x9 => some x9) else ((strconv_Itoa l).bind fun x21 => (cat (⟨#[120]⟩ : ByteArray) x21).bind fun x23 => some x23)
def i_Constraint_text_b1 (_i_5 : Nat) (x_9 : Term) : (ByteArray) → Option (Lo (ByteArray) (ByteArray))
  | out_6 => (strconv_Itoa x_9.coef).bind fun x30 => (cat x30 (⟨#[32]⟩ : ByteArray)).bind fun x32 => (i_literalText x_9.lit).bind fun x38 => (cat x32 x38).bind fun x40 => (cat x40 (⟨#[32]⟩ : ByteArray)).bind fun x41 => (cat out_6 x41).bind fun x42 => some (.cont x42)
def i_Constraint_text (c : Con) : Option (ByteArray) :=
  ((rangeL i_Constraint_text_b1 c.terms 0 (⟨#[]⟩ : ByteArray)) : Option (Jn (ByteArray) (ByteArray))).bind fun j => match j with | .nx out_6 => ((cat out_6 (⟨#[62, 61, 32]⟩ : ByteArray)).bind fun x68 => (strconv_Itoa c.bound).bind fun x74 => (cat x68 x74).bind fun x76 => some x76) | .out t => some t
def l_eqTerm (a : Term) (b : Term) : Option (Bool) :=
  if (a.coef != b.coef) then (some false) else (if (a.lit != b.lit) then (some false) else (some true))
def l_eqTermS_b1 (b : List Term) (i_2 : Nat) (x_5 : Term) : (Unit) → Option (Lo (Unit) (Bool))
  | () => (idx b (i_2 : Int)).bind fun x11 => (l_eqTerm x_5 x11).bind fun x21 => if (!x21) then (some (.out false)) else (some (.cont ()))
def l_eqTermS (a : List Term) (b : List Term) : Option (Bool) :=
  if ((a.length : Int) != (b.length : Int)) then (some false) else (((rangeL (l_eqTermS_b1 b) a 0 ()) : Option (Jn (Unit) (Bool))).bind fun j => match j with | .nx _ => (some true) | .out t => some t)
def l_eqConstraint (a : Con) (b : Con) : Option (Bool) :=
  (l_eqTermS a.terms b.terms).bind fun x14 => if (!x14) then (some false) else (if (a.bound != b.bound) then (some false) else (some true))
def s_l17Cut_b1 (s : ByteArray) (c : Int) (i_7 : Nat) : ((List ByteArray) × Int) → Option (Lo ((List ByteArray) × Int) (List ByteArray))
  | (out_8, from__10) => (if ((i_7 : Int) == (s.size : Int)) then some true else ((sidx s (i_7 : Int)).bind fun x14 => some ((x14.toNat : Int) == (c.toNat : Int)))).bind fun b15 => ((if b15 then ((ssl s from__10 (i_7 : Int)).bind fun x23 => (app out_8 ([x23])).bind fun x27 => some (x27, i64 ((i_7 : Int) + 1))) else (some (out_8, from__10))) : Option ((List ByteArray) × Int)).bind fun (out_18, from__20) => some (.cont (out_18, from__20))
def s_l17Cut (s : ByteArray) (c : Int) : Option (List ByteArray) :=
  (cntF 0 ((s.size : Int) + 1)).bind fun k12 => ((countL (s_l17Cut_b1 s c) k12 0 ([], 0)) : Option (Jn ((List ByteArray) × Int) (List ByteArray))).bind fun j => match j with | .nx (out_8, from__10) => (some out_8) | .out t => some t
def s_l17Num_b1 (s_5 : ByteArray) (i_20 : Nat) : (Int) → Option (Lo (Int) (Int × Bool))
  | n_21 => (sidx s_5 (i_20 : Int)).bind fun x25 => if ((decide ((x25.toNat : Int) < 48)) || (decide ((x25.toNat : Int) > 57))) then (some (.out (0, false))) else (some (.cont (i64 ((i64 (n_21 * 10)) + (i64 (IntKind.u8.wrap ((x25.toNat : Int) - 48)))))))
def s_l17Num (s : ByteArray) : Option (Int × Bool) :=
  (if decide ((s.size : Int) > 0) then ((sidx s 0).bind fun x1 => some ((x1.toNat : Int) == 45)) else some false).bind fun b2 => ((if b2 then ((ssl s 1 (s.size : Int)).bind fun x8 => some x8) else (some s)) : Option (ByteArray)).bind fun s_5 => (if (((s_5.size : Int) == 0) || (decide ((s_5.size : Int) > 17))) then some true else ((sidx s_5 0).bind fun x9 => some (((x9.toNat : Int) == 48) && ((decide ((s_5.size : Int) > 1)) || b2)))).bind fun b10 => if b10 then (some (0, false)) else ((cntF 0 (s_5.size : Int)).bind fun k23 => ((countL (s_l17Num_b1 s_5) k23 0 0) : Option (Jn (Int) (Int × Bool))).bind fun j => match j with | .nx n_21 => (((if b2 then (some (i64 (-n_21))) else (some n_21)) : Option (Int)).bind fun n_29 => some (n_29, true)) | .out t => some t)
def s_l1Literal (s : ByteArray) : Option (Int) :=
  (if decide ((s.size : Int) > 0) then ((sidx s 0).bind fun x1 => some ((x1.toNat : Int) == 126)) else some false).bind fun b2 => ((if b2 then ((ssl s 1 (s.size : Int)).bind fun x9 => some (x9, (-1))) else (some (s, 1))) : Option (ByteArray × Int)).bind fun (s_5, sign_6) => (if decide ((s_5.size : Int) < 2) then some true else ((sidx s_5 0).bind fun x10 => some ((x10.toNat : Int) != 120))).bind fun b11 => if b11 then (some 0) else ((ssl s_5 1 (s_5.size : Int)).bind fun x15 => (s_l17Num x15).bind fun x21 => if (((!x21.2) || (decide (x21.1 < 1))) || (decide (x21.1 > 12))) then (some 0) else (some (i64 (sign_6 * x21.1))))
def s_ParseConstraint_b1 (x10 : List ByteArray) : (Int × (List Term)) → Option (Lo (Int × (List Term)) (Con × Bool))
  | (i_61, g57_0_62) => if decide ((i64 (i_61 + 2)) < (x10.length : Int)) then ((idx x10 i_61).bind fun x69 => (s_l17Num x69).bind fun x79 => (idx x10 (i64 (i_61 + 1))).bind fun x91 => (s_l1Literal x91).bind fun x99 => (app g57_0_62 ([({ coef := x79.1, lit := x99 } : Term)])).bind fun x104 => some (.cont (i64 (i_61 + 2), x104))) else (some (.brk (i_61, g57_0_62)))
def s_ParseConstraint (fu : Nat) (text : ByteArray) : Option (Con × Bool) :=
  (s_l17Cut text 32).bind fun x10 => (if (((decide ((x10.length : Int) < 2)) || ((Int.tmod (x10.length : Int) 2) != 0)) || (decide ((x10.length : Int) > 26))) then some true else ((idx x10 (i64 ((x10.length : Int) - 2))).bind fun x20 => some (!(ByteArray.toList x20 == ByteArray.toList (⟨#[62, 61]⟩ : ByteArray))))).bind fun b25 => if b25 then (some (({ terms := [], bound := 0 } : Con), false)) else (((whileL (s_ParseConstraint_b1 x10) fu (0, [])) : Option (Jn (Int × (List Term)) (Con × Bool))).bind fun j => match j with | .nx (i_61, g57_0_62) => ((idx x10 (i64 ((x10.length : Int) - 1))).bind fun x137 => (s_l17Num x137).bind fun x147 => (s_FormatConstraint fu ({ terms := g57_0_62, bound := x147.1 } : Con)).bind fun x167 => if (!(ByteArray.toList x167 == ByteArray.toList text)) then (some (({ terms := [], bound := 0 } : Con), false)) else (some (({ terms := g57_0_62, bound := x147.1 } : Con), true))) | .out t => some t)
def i_number (s : ByteArray) : Option (Int) :=
  (strconv_Atoi s).bind fun x6 => if x6.2 then (some 0) else (some x6.1)
def i_readLiteral (s : ByteArray) : Option (Int) :=
  (strings_CutPrefix s (⟨#[126]⟩ : ByteArray)).bind fun x6 => (strings_TrimPrefix x6.1 (⟨#[120]⟩ : ByteArray)).bind fun x19 => (i_number x19).bind fun x26 => ((if x6.2 then (some (i64 (-x26))) else (some x26)) : Option (Int)).bind fun l_40 => (i_isLiteral l_40).bind fun x48 => (if (!x48) then some true else ((i_literalText l_40).bind fun x55 => some (!(ByteArray.toList x55 == ByteArray.toList s)))).bind fun b57 => if b57 then (some 0) else (some l_40)
def i_ParseConstraint_b1 (x10 : List ByteArray) : (Int × (List Term)) → Option (Lo (Int × (List Term)) (Con × Bool))
  | (i_57, g53_0_58) => if decide (i_57 < (i64 ((x10.length : Int) - 2))) then ((idx x10 i_57).bind fun x65 => (i_number x65).bind fun x75 => (idx x10 (i64 (i_57 + 1))).bind fun x77 => (i_readLiteral x77).bind fun x85 => (app g53_0_58 ([({ coef := x75, lit := x85 } : Term)])).bind fun x90 => some (.cont (i64 (i_57 + 2), x90))) else (some (.brk (i_57, g53_0_58)))
def i_ParseConstraint (fu : Nat) (text : ByteArray) : Option (Con × Bool) :=
  (strings_Split text (⟨#[32]⟩ : ByteArray)).bind fun x10 => if (((decide ((i64 ((x10.length : Int) - 2)) < 0)) || (decide ((i64 ((x10.length : Int) - 2)) > 24))) || ((Int.tmod (i64 ((x10.length : Int) - 2)) 2) != 0)) then (some (({ terms := [], bound := 0 } : Con), false)) else ((idx x10 (i64 ((i64 ((x10.length : Int) - 2)) + 1))).bind fun x28 => (i_number x28).bind fun x38 => ((whileL (i_ParseConstraint_b1 x10) fu (0, [])) : Option (Jn (Int × (List Term)) (Con × Bool))).bind fun j => match j with | .nx (i_57, g53_0_58) => ((i_ConstraintValid ({ terms := g53_0_58, bound := x38 } : Con)).bind fun x147 => (if (!x147) then some true else ((i_Constraint_text ({ terms := g53_0_58, bound := x38 } : Con)).bind fun x155 => some (!(ByteArray.toList x155 == ByteArray.toList text)))).bind fun b157 => if b157 then (some (({ terms := [], bound := 0 } : Con), false)) else (some (({ terms := g53_0_58, bound := x38 } : Con), true))) | .out t => some t)
def l_markTermS_b1 : ((List Term) × Int × Int) → Option (Lo ((List Term) × Int × Int) (Int × (List Term)))
  | (a_5, k_6, i_7) => if decide (i_7 < (a_5.length : Int)) then ((idx a_5 i_7).bind fun x10 => (idx (a_5.set (Int.toNat i_7) ({ x10 with coef := k_6 })) i_7).bind fun x17 => some (.cont (((a_5.set (Int.toNat i_7) ({ x10 with coef := k_6 })).set (Int.toNat i_7) ({ x17 with lit := i64 (k_6 + 1) })), i64 ((i64 (k_6 + 1)) + 1), i64 (i_7 + 1)))) else (some (.brk (a_5, k_6, i_7)))
def l_markTermS (fu : Nat) (a : List Term) (k : Int) : Option (Int × (List Term)) :=
  ((whileL l_markTermS_b1 fu (a, k, 0)) : Option (Jn ((List Term) × Int × Int) (Int × (List Term)))).bind fun j => match j with | .nx (a_5, k_6, i_7) => (some (k_6, a_5)) | .out t => some t
def l_heldTermS_b1 (_i_1 : Nat) (x_3 : Term) : (Int) → Option (Lo (Int) (Int))
  | k_2 => if (x_3.coef != k_2) then (some (.out (-1))) else (if (x_3.lit != (i64 (k_2 + 1))) then (some (.out (-1))) else (some (.cont (i64 ((i64 (k_2 + 1)) + 1)))))
def l_heldTermS (a : List Term) (k : Int) : Option (Int) :=
  ((rangeL l_heldTermS_b1 a 0 k) : Option (Jn (Int) (Int))).bind fun j => match j with | .nx k_2 => (some k_2) | .out t => some t
def l_eqConstraintS_b1 (b : List Con) (i_2 : Nat) (x_5 : Con) : (Unit) → Option (Lo (Unit) (Bool))
  | () => (idx b (i_2 : Int)).bind fun x11 => (l_eqConstraint x_5 x11).bind fun x21 => if (!x21) then (some (.out false)) else (some (.cont ()))
def l_eqConstraintS (a : List Con) (b : List Con) : Option (Bool) :=
  if ((a.length : Int) != (b.length : Int)) then (some false) else (((rangeL (l_eqConstraintS_b1 b) a 0 ()) : Option (Jn (Unit) (Bool))).bind fun j => match j with | .nx _ => (some true) | .out t => some t)
def s_ParseProblem_b1 (fu : Nat) (x6 : List ByteArray) : ((List Con) × Int) → Option (Lo ((List Con) × Int) ((List Con) × Bool))
  | (out_38, i_40) => if decide ((i64 (i_40 + 1)) < (x6.length : Int)) then ((idx x6 i_40).bind fun x43 => (s_ParseConstraint fu x43).bind fun x53 => if (!x53.2) then (some (.out ([], false))) else ((app out_38 ([x53.1])).bind fun x83 => some (.cont (x83, i64 (i_40 + 1))))) else (some (.brk (out_38, i_40)))
def s_ParseProblem (fu : Nat) (text : ByteArray) : Option ((List Con) × Bool) :=
  (s_l17Cut text 10).bind fun x6 => (if decide ((x6.length : Int) > 401) then some true else ((idx x6 (i64 ((x6.length : Int) - 1))).bind fun x22 => some (!(ByteArray.toList x22 == ByteArray.toList (⟨#[]⟩ : ByteArray))))).bind fun b27 => if b27 then (some ([], false)) else (((whileL (s_ParseProblem_b1 fu x6) fu ([], 0)) : Option (Jn ((List Con) × Int) ((List Con) × Bool))).bind fun j => match j with | .nx (out_38, i_40) => (some (out_38, true)) | .out t => some t)
def i_linesOf (text : ByteArray) (most : Int) : Option ((List ByteArray) × Bool) :=
  (strings_Split text (⟨#[10]⟩ : ByteArray)).bind fun x6 => (sl x6 0 (i64 ((x6.length : Int) - 1))).bind fun x19 => (idx x6 (i64 ((x6.length : Int) - 1))).bind fun x22 => some (x19, ((ByteArray.toList x22 == ByteArray.toList (⟨#[]⟩ : ByteArray)) && (decide ((i64 ((x6.length : Int) - 1)) ≤ most))))
def i_ParseProblem_b1 (fu : Nat) (_i_6 : Nat) (x_9 : ByteArray) : (List Con) → Option (Lo (List Con) ((List Con) × Bool))
  | list_7 => (i_ParseConstraint fu x_9).bind fun x25 => if (!x25.2) then (some (.out ([], false))) else ((app list_7 ([x25.1])).bind fun x46 => some (.cont x46))
def i_ParseProblem (fu : Nat) (text : ByteArray) : Option ((List Con) × Bool) :=
  (i_linesOf text 400).bind fun x1 => if (!x1.2) then (some ([], false)) else (((rangeL (i_ParseProblem_b1 fu) x1.1 0 ([])) : Option (Jn (List Con) ((List Con) × Bool))).bind fun j => match j with | .nx list_7 => (some (list_7, true)) | .out t => some t)
def l_markConstraintS_b1 (fu : Nat) : ((List Con) × Int × Int) → Option (Lo ((List Con) × Int × Int) (Int × (List Con)))
  | (a_5, k_6, i_7) => if decide (i_7 < (a_5.length : Int)) then ((idx a_5 i_7).bind fun x10 => (l_markTermS fu x10.terms k_6).bind fun x20 => (idx (a_5.set (Int.toNat i_7) ({ terms := x20.2, bound := x10.bound } : Con)) i_7).bind fun x32 => some (.cont (((a_5.set (Int.toNat i_7) ({ terms := x20.2, bound := x10.bound } : Con)).set (Int.toNat i_7) ({ x32 with bound := x20.1 })), i64 (x20.1 + 1), i64 (i_7 + 1)))) else (some (.brk (a_5, k_6, i_7)))
def l_markConstraintS (fu : Nat) (a : List Con) (k : Int) : Option (Int × (List Con)) :=
  ((whileL (l_markConstraintS_b1 fu) fu (a, k, 0)) : Option (Jn ((List Con) × Int × Int) (Int × (List Con)))).bind fun j => match j with | .nx (a_5, k_6, i_7) => (some (k_6, a_5)) | .out t => some t
def l_heldConstraintS_b1 (_i_1 : Nat) (x_3 : Con) : (Int) → Option (Lo (Int) (Int))
  | k_2 => (l_heldTermS x_3.terms k_2).bind fun x14 => if decide (x14 < 0) then (some (.out (-1))) else (if (x_3.bound != x14) then (some (.out (-1))) else (some (.cont (i64 (x14 + 1)))))
def l_heldConstraintS (a : List Con) (k : Int) : Option (Int) :=
  ((rangeL l_heldConstraintS_b1 a 0 k) : Option (Jn (Int) (Int))).bind fun j => match j with | .nx k_2 => (some k_2) | .out t => some t
def l_FnExactParseProblem (fu : Nat) (aText : ByteArray) : Option (Bool) :=
  if decide ((aText.size : Int) > 1048576) then (some true) else ((s_ParseProblem fu aText).bind fun x7 => (i_ParseProblem fu aText).bind fun x22 => (l_eqConstraintS x22.1 x7.1).bind fun x39 => if ((!x39) || (x22.2 != x7.2)) then (some false) else ((l_markConstraintS fu x22.1 1).bind fun x57 => (l_heldConstraintS x57.2 1).bind fun x71 => if decide (x71 < 0) then (some false) else (if (x71 != x57.1) then (some false) else ((i_ParseProblem fu aText).bind fun x87 => (l_eqConstraintS x87.1 x7.1).bind fun x104 => if ((!x104) || (x87.2 != x7.2)) then (some false) else ((l_heldConstraintS x57.2 1).bind fun x123 => if decide (x123 < 0) then (some false) else (if (x123 != x57.1) then (some false) else (some true)))))))
end Go.L

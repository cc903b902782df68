/- Part of a proof by program: D1. -/
import Derived.Test.YtnjcihhfoocdcaaGreatDoorG15
namespace Go.L
open Go Go.E
set_option linter.unusedVariables false
def s_l17Open (code : List UInt8) : Option (Rd) :=
  ((if decide ((code.length : Int) > 2000) then ((sl code 0 2000).bind fun x5 => some x5) else (some code)) : Option (List UInt8)).bind fun code_1 => some ({ b := code_1, p := 0 } : Rd)
def s_l17Rd_pick (r_ : Rd) (n_ : Int) : Option (Int × Int) :=
  if ((decide (n_ < 1)) || ((r_.b.length : Int) == 0)) then (some (0, i64 (r_.p + 1))) else (if decide ((i64 ((i64 (r_.p + 1)) - 1)) < (r_.b.length : Int)) then ((idx r_.b (i64 ((i64 (r_.p + 1)) - 1))).bind fun x7 => (if n_ = 0 then none else some ()).bind fun _ => some (Int.tmod (i64 (x7.toNat : Int)) n_, i64 (r_.p + 1))) else ((if (r_.b.length : Int) = 0 then none else some ()).bind fun _ => (idx r_.b (Int.tmod (i64 ((i64 (r_.p + 1)) - 1)) (r_.b.length : Int))).bind fun x18 => (if (r_.b.length : Int) = 0 then none else some ()).bind fun _ => (idx r_.b (Int.tmod (i64 ((i64 ((i64 ((i64 (r_.p + 1)) - 1)) * 7)) + 3)) (r_.b.length : Int))).bind fun x24 => (if (r_.b.length : Int) = 0 then none else some ()).bind fun _ => (if n_ = 0 then none else some ()).bind fun _ => some (Int.tmod (xorI .i64 (i64 ((i64 ((i64 ((i64 ((i64 (x18.toNat : Int)) * 131)) + (i64 ((i64 (x24.toNat : Int)) * 1117)))) + (i64 ((i64 ((i64 (r_.p + 1)) - 1)) * 29)))) + (i64 ((i64 (Int.tdiv (i64 ((i64 (r_.p + 1)) - 1)) (r_.b.length : Int))) * 53)))) (i64 (Int.tdiv (i64 ((i64 ((i64 ((i64 ((i64 (x18.toNat : Int)) * 131)) + (i64 ((i64 (x24.toNat : Int)) * 1117)))) + (i64 ((i64 ((i64 (r_.p + 1)) - 1)) * 29)))) + (i64 ((i64 (Int.tdiv (i64 ((i64 (r_.p + 1)) - 1)) (r_.b.length : Int))) * 53)))) 64))) n_, i64 (r_.p + 1))))
def s_l17Rd_num (r_ : Rd) (list : List Int) : Option (Int × Int) :=
  (s_l17Rd_pick r_ (list.length : Int)).bind fun x6 => (idx list x6.1).bind fun x8 => some (x8, x6.2)
def s_l1Total_b1 (_i_5 : Nat) (x_7 : Term) : (Int) → Option (Lo (Int) (Int))
  | n_6 => some (.cont (i64 (n_6 + x_7.coef)))
def s_l1Total (c : Con) : Option (Int) :=
  ((rangeL s_l1Total_b1 c.terms 0 0) : Option (Jn (Int) (Int))).bind fun j => match j with | .nx n_6 => (some n_6) | .out t => some t
def s_l1Draw_b1 (r_ : Rd) (i_11 : Nat) : (Int × (List Term)) → Option (Lo (Int × (List Term)) (Con × Int))
  | (g_0_1_12, g8_0_13) => (s_l17Rd_pick ({ b := r_.b, p := g_0_1_12 } : Rd) 2).bind fun x24 => ((if (x24.1 == 0) then ((s_l17Rd_num ({ b := r_.b, p := x24.2 } : Rd) ([1, 1, 2, 3, 1, 5, 4])).bind fun x46 => (s_l17Rd_pick ({ b := r_.b, p := x46.2 } : Rd) 2).bind fun x69 => ((if (x69.1 == 0) then (some (i64 (-(i_11 : Int)))) else (some (i_11 : Int))) : Option (Int)).bind fun g61_1_77 => (app g8_0_13 ([({ coef := x46.1, lit := g61_1_77 } : Term)])).bind fun x85 => some (x69.2, x85)) else (some (x24.2, g8_0_13))) : Option (Int × (List Term))).bind fun (g_0_1_32, g8_0_33) => some (.cont (g_0_1_32, g8_0_33))
def s_l1Draw (r_ : Rd) (most : Int) : Option (Con × Int) :=
  (cntF 1 (most + 1)).bind fun k16 => ((countL (s_l1Draw_b1 r_) k16 1 (r_.p, [])) : Option (Jn (Int × (List Term)) (Con × Int))).bind fun j => match j with | .nx (g_0_1_12, g8_0_13) => ((s_l1Total ({ terms := g8_0_13, bound := 0 } : Con)).bind fun x103 => (s_l17Rd_num ({ b := r_.b, p := g_0_1_12 } : Rd) ([1, 2, 1, 3, 0])).bind fun x121 => (s_l17Rd_pick ({ b := r_.b, p := x121.2 } : Rd) 4).bind fun x140 => ((if (x140.1 == 0) then ((s_l17Rd_pick ({ b := r_.b, p := x140.2 } : Rd) (i64 (x103 + 2))).bind fun x157 => some (x157.2, x157.1)) else (some (x140.2, x121.1))) : Option (Int × Int)).bind fun (g_0_1_148, g8_1_149) => some (({ terms := g8_0_13, bound := g8_1_149 } : Con), g_0_1_148)) | .out t => some t
def s_l3Problem_b1 (r_ : Rd) (x16 : Int × Int) : ((List Con) × Int × Int) → Option (Lo ((List Con) × Int × Int) ((List Con) × Int))
  | (out_50, i_52, g_0_1_53) => if decide (i_52 > 0) then ((s_l1Draw ({ b := r_.b, p := g_0_1_53 } : Rd) x16.1).bind fun x61 => (app out_50 ([x61.1])).bind fun x67 => some (.cont (x67, i64 (i_52 - 1), x61.2))) else (some (.brk (out_50, i_52, g_0_1_53)))
def s_l3Problem (fu : Nat) (r_ : Rd) : Option ((List Con) × Int) :=
  (s_l17Rd_num r_ ([4, 5, 3, 6])).bind fun x16 => (s_l17Rd_num ({ b := r_.b, p := x16.2 } : Rd) ([4, 6, 3, 8, 2, 1, 0])).bind fun x37 => ((whileL (s_l3Problem_b1 r_ x16) fu ([], x37.1, x37.2)) : Option (Jn ((List Con) × Int × Int) ((List Con) × Int))).bind fun j => match j with | .nx (out_50, i_52, g_0_1_53) => (some (out_50, g_0_1_53)) | .out t => some t
def s_l1Copy (c : Con) : Option (Con) :=
  (app ([]) c.terms).bind fun x12 => some ({ terms := x12, bound := c.bound } : Con)
def s_l1Mutate (r_ : Rd) (c : Con) : Option (Con × Int) :=
  (s_l1Copy c).bind fun x14 => (s_l17Rd_pick r_ 40).bind fun x35 => ((if (x35.1 == 0) then ((s_l17Rd_num ({ b := r_.b, p := x35.2 } : Rd) ([(-1), 20001, 9223372036854775807])).bind fun x60 => some (x60.2, x14.terms, x60.1)) else (((if (x35.1 == 1) then (((if decide ((x14.terms.length : Int) > 0) then ((s_l17Rd_num ({ b := r_.b, p := x35.2 } : Rd) ([0, (-1), 1001])).bind fun x96 => (idx x14.terms 0).bind fun x98 => some (x96.2, (x14.terms.set (Int.toNat 0) ({ x98 with coef := x96.1 })))) else (some (x35.2, x14.terms))) : Option (Int × (List Term))).bind fun (g_0_1_81, g27_0_82) => some (g_0_1_81, g27_0_82)) else (((if (x35.1 == 2) then (((if decide ((x14.terms.length : Int) > 0) then ((s_l17Rd_num ({ b := r_.b, p := x35.2 } : Rd) ([0, 13, (-13), 1, (-9223372036854775808)])).bind fun x149 => (idx x14.terms (i64 ((x14.terms.length : Int) - 1))).bind fun x151 => some (x149.2, (x14.terms.set (Int.toNat (i64 ((x14.terms.length : Int) - 1))) ({ x151 with lit := x149.1 })))) else (some (x35.2, x14.terms))) : Option (Int × (List Term))).bind fun (g_0_1_134, g27_0_135) => some (g_0_1_134, g27_0_135)) else (((if (x35.1 == 3) then ((app x14.terms ([({ coef := 1, lit := 1 } : Term)])).bind fun x187 => some x187) else (some x14.terms)) : Option (List Term)).bind fun g27_0_180 => some (x35.2, g27_0_180))) : Option (Int × (List Term))).bind fun (g_0_1_127, g27_0_128) => some (g_0_1_127, g27_0_128))) : Option (Int × (List Term))).bind fun (g_0_1_74, g27_0_75) => some (g_0_1_74, g27_0_75, x14.bound))) : Option (Int × (List Term) × Int)).bind fun (g_0_1_43, g27_0_44, g27_1_46) => some (({ terms := g27_0_44, bound := g27_1_46 } : Con), g_0_1_43)
def s_l3Mutate (r_ : Rd) (list : List Con) : Option ((List Con) × Int) :=
  (app ([]) list).bind fun x4 => (if decide ((x4.length : Int) > 0) then ((s_l17Rd_pick r_ 20).bind fun x19 => some ((x19.1 == 0), x19.2)) else some (false, r_.p)).bind fun b21 => ((if b21.1 then ((s_l17Rd_pick ({ b := r_.b, p := b21.2 } : Rd) (x4.length : Int)).bind fun x41 => (idx x4 x41.1).bind fun x49 => (s_l1Mutate ({ b := r_.b, p := x41.2 } : Rd) x49).bind fun x59 => (s_l1Mutate ({ b := r_.b, p := x59.2 } : Rd) x59.1).bind fun x68 => (s_l1Mutate ({ b := r_.b, p := x68.2 } : Rd) x68.1).bind fun x77 => some ((x4.set (Int.toNat x41.1) x77.1), x77.2)) else (some (x4, b21.2))) : Option ((List Con) × Int)).bind fun (out_30, g_0_1_31) => some (out_30, g_0_1_31)
def s_DrawProblemValid (fu : Nat) (code : List UInt8) : Option (List Con) :=
  (s_l17Open code).bind fun x1 => (s_l3Problem fu x1).bind fun x9 => (s_l3Mutate ({ b := x1.b, p := x9.2 } : Rd) x9.1).bind fun x15 => (s_l3Mutate ({ b := x1.b, p := x15.2 } : Rd) x15.1).bind fun x21 => some x21.1
def s_DrawFormatProblem (fu : Nat) (code : List UInt8) : Option (List Con) :=
  (s_DrawProblemValid fu code).bind fun x1 => some x1
def slices_IndexFunc_implConstraint_b1 (f_ : (Con → Option Bool)) (i_1 : Nat) (x_2 : Con) : (Unit) → Option (Lo (Unit) (Int))
  | () => (f_ x_2).bind fun x8 => if x8 then (some (.out (i_1 : Int))) else (some (.cont ()))
def slices_IndexFunc_implConstraint (s : List Con) (f_ : (Con → Option Bool)) : Option (Int) :=
  ((rangeL (slices_IndexFunc_implConstraint_b1 f_) s 0 ()) : Option (Jn (Unit) (Int))).bind fun j => match j with | .nx _ => (some (-1)) | .out t => some t
def slices_ContainsFunc_implConstraint (s : List Con) (f_ : (Con → Option Bool)) : Option (Bool) :=
  (slices_IndexFunc_implConstraint s f_).bind fun x6 => some (decide (x6 ≥ 0))
def i_within (n_ : Int) (low : Int) (high : Int) : Option (Bool) :=
  some ((decide (low ≤ n_)) && (decide (n_ ≤ high)))
def i_isLiteral (l : Int) : Option (Bool) :=
  (if (l != 0) then ((i_within l (-12) 12).bind fun x6 => some x6) else some false).bind fun b8 => some b8
def i_variableOf (l : Int) : Option (Int) :=
  some (max l (i64 (-l)))
def i_ConstraintValid_b1 (_i_5 : Nat) (x_7 : Term) : (Int) → Option (Lo (Int) (Bool))
  | before_6 => (i_isLiteral x_7.lit).bind fun x28 => (if (!x28) then some true else ((i_variableOf x_7.lit).bind fun x35 => some (decide (x35 ≤ before_6)))).bind fun b37 => (if b37 then some true else ((i_within x_7.coef 1 1000).bind fun x43 => some (!x43))).bind fun b45 => if b45 then (some (.out false)) else ((i_variableOf x_7.lit).bind fun x80 => some (.cont x80))
def i_ConstraintValid (c : Con) : Option (Bool) :=
  ((rangeL i_ConstraintValid_b1 c.terms 0 0) : Option (Jn (Int) (Bool))).bind fun j => match j with | .nx before_6 => ((i_within c.bound 0 20000).bind fun x93 => some x93) | .out t => some t
def i_allValid_1 (c : Con) : Option (Bool) :=
  (i_ConstraintValid c).bind fun x10 => some (!x10)
def i_allValid (list : List Con) : Option (Bool) :=
  (slices_ContainsFunc_implConstraint list i_allValid_1).bind fun x6 => some (!x6)
def i_ProblemValid (list : List Con) : Option (Bool) :=
  (if decide ((list.length : Int) ≤ 400) then ((i_allValid list).bind fun x6 => some x6) else some false).bind fun b8 => some b8
def i_literalText (l : Int) : Option (ByteArray) :=
  if decide (l < 0) then ((strconv_Itoa (i64 (-l))).bind fun x7 => (cat (⟨#[126, 120]⟩ : ByteArray) x7).bind fun x9 => some x9) else ((strconv_Itoa l).bind fun x21 => (cat (⟨#[120]⟩ : ByteArray) x21).bind fun x23 => some x23)
def i_Constraint_text_b1 (_i_5 : Nat) (x_9 : Term) : (ByteArray) → Option (Lo (ByteArray) (ByteArray))
  | out_6 => (strconv_Itoa x_9.coef).bind fun x30 => (cat x30 (⟨#[32]⟩ : ByteArray)).bind fun x32 => (i_literalText x_9.lit).bind fun x38 => (cat x32 x38).bind fun x40 => (cat x40 (⟨#[32]⟩ : ByteArray)).bind fun x41 => (cat out_6 x41).bind fun x42 => some (.cont x42)
def i_Constraint_text (c : Con) : Option (ByteArray) :=
  ((rangeL i_Constraint_text_b1 c.terms 0 (⟨#[]⟩ : ByteArray)) : Option (Jn (ByteArray) (ByteArray))).bind fun j => match j with | .nx out_6 => ((cat out_6 (⟨#[62, 61, 32]⟩ : ByteArray)).bind fun x68 => (strconv_Itoa c.bound).bind fun x74 => (cat x68 x74).bind fun x76 => some x76) | .out t => some t
def i_FormatProblem_b1 (_i_23 : Nat) (x_25 : Con) : (ByteArray) → Option (Lo (ByteArray) (ByteArray))
  | ag19_24 => (i_Constraint_text x_25).bind fun x46 => (cat x46 (⟨#[10]⟩ : ByteArray)).bind fun x48 => (catB ag19_24 x48).bind fun x50 => some (.cont x50)
def i_FormatProblem (list : List Con) : Option (ByteArray) :=
  (i_ProblemValid list).bind fun x6 => if (!x6) then (some (⟨#[]⟩ : ByteArray)) else (((rangeL i_FormatProblem_b1 list 0 ByteArray.empty) : Option (Jn (ByteArray) (ByteArray))).bind fun j => match j with | .nx ag19_24 => (some ag19_24) | .out t => some t)
def i_linesOf (text : ByteArray) (most : Int) : Option ((List ByteArray) × Bool) :=
  (strings_Split text (⟨#[10]⟩ : ByteArray)).bind fun x6 => (sl x6 0 (i64 ((x6.length : Int) - 1))).bind fun x19 => (idx x6 (i64 ((x6.length : Int) - 1))).bind fun x22 => some (x19, ((ByteArray.toList x22 == ByteArray.toList (⟨#[]⟩ : ByteArray)) && (decide ((i64 ((x6.length : Int) - 1)) ≤ most))))
def i_number (s : ByteArray) : Option (Int) :=
  (strconv_Atoi s).bind fun x6 => if x6.2 then (some 0) else (some x6.1)
def i_readLiteral (s : ByteArray) : Option (Int) :=
  (strings_CutPrefix s (⟨#[126]⟩ : ByteArray)).bind fun x6 => (strings_TrimPrefix x6.1 (⟨#[120]⟩ : ByteArray)).bind fun x19 => (i_number x19).bind fun x26 => ((if x6.2 then (some (i64 (-x26))) else (some x26)) : Option (Int)).bind fun l_40 => (i_isLiteral l_40).bind fun x48 => (if (!x48) then some true else ((i_literalText l_40).bind fun x55 => some (!(ByteArray.toList x55 == ByteArray.toList s)))).bind fun b57 => if b57 then (some 0) else (some l_40)
def i_ParseConstraint_b1 (x10 : List ByteArray) : (Int × (List Term)) → Option (Lo (Int × (List Term)) (Con × Bool))
  | (i_57, g53_0_58) => if decide (i_57 < (i64 ((x10.length : Int) - 2))) then ((idx x10 i_57).bind fun x65 => (i_number x65).bind fun x75 => (idx x10 (i64 (i_57 + 1))).bind fun x77 => (i_readLiteral x77).bind fun x85 => (app g53_0_58 ([({ coef := x75, lit := x85 } : Term)])).bind fun x90 => some (.cont (i64 (i_57 + 2), x90))) else (some (.brk (i_57, g53_0_58)))
def i_ParseConstraint (fu : Nat) (text : ByteArray) : Option (Con × Bool) :=
  (strings_Split text (⟨#[32]⟩ : ByteArray)).bind fun x10 => if (((decide ((i64 ((x10.length : Int) - 2)) < 0)) || (decide ((i64 ((x10.length : Int) - 2)) > 24))) || ((Int.tmod (i64 ((x10.length : Int) - 2)) 2) != 0)) then (some (({ terms := [], bound := 0 } : Con), false)) else ((idx x10 (i64 ((i64 ((x10.length : Int) - 2)) + 1))).bind fun x28 => (i_number x28).bind fun x38 => ((whileL (i_ParseConstraint_b1 x10) fu (0, [])) : Option (Jn (Int × (List Term)) (Con × Bool))).bind fun j => match j with | .nx (i_57, g53_0_58) => ((i_ConstraintValid ({ terms := g53_0_58, bound := x38 } : Con)).bind fun x147 => (if (!x147) then some true else ((i_Constraint_text ({ terms := g53_0_58, bound := x38 } : Con)).bind fun x155 => some (!(ByteArray.toList x155 == ByteArray.toList text)))).bind fun b157 => if b157 then (some (({ terms := [], bound := 0 } : Con), false)) else (some (({ terms := g53_0_58, bound := x38 } : Con), true))) | .out t => some t)
def i_ParseProblem_b1 (fu : Nat) (_i_6 : Nat) (x_9 : ByteArray) : (List Con) → Option (Lo (List Con) ((List Con) × Bool))
  | list_7 => (i_ParseConstraint fu x_9).bind fun x25 => if (!x25.2) then (some (.out ([], false))) else ((app list_7 ([x25.1])).bind fun x46 => some (.cont x46))
def i_ParseProblem (fu : Nat) (text : ByteArray) : Option ((List Con) × Bool) :=
  (i_linesOf text 400).bind fun x1 => if (!x1.2) then (some ([], false)) else (((rangeL (i_ParseProblem_b1 fu) x1.1 0 ([])) : Option (Jn (List Con) ((List Con) × Bool))).bind fun j => match j with | .nx list_7 => (some (list_7, true)) | .out t => some t)
def s_l1Lit (n_ : Int) : Option (Bool) :=
  some (((n_ != 0) && (decide (n_ ≥ (-12)))) && (decide (n_ ≤ 12)))
def s_l1Abs (n_ : Int) : Option (Int) :=
  if decide (n_ < 0) then (some (i64 (-n_))) else (some n_)
def s_ConstraintValid_b1 (c : Con) (i_5 : Nat) (x_8 : Term) : (Unit) → Option (Lo (Unit) (Bool))
  | () => (s_l1Lit x_8.lit).bind fun x29 => (if (((!x29) || (decide (x_8.coef < 1))) || (decide (x_8.coef > 1000))) then some true else ((if decide ((i_5 : Int) > 0) then ((idx c.terms (i64 ((i_5 : Int) - 1))).bind fun x31 => (s_l1Abs x31.lit).bind fun x41 => (s_l1Abs x_8.lit).bind fun x48 => some (decide (x41 ≥ x48))) else some false).bind fun b50 => some b50)).bind fun b51 => if b51 then (some (.out false)) else (some (.cont ()))
def s_ConstraintValid (c : Con) : Option (Bool) :=
  ((rangeL (s_ConstraintValid_b1 c) c.terms 0 ()) : Option (Jn (Unit) (Bool))).bind fun j => match j with | .nx _ => (some ((decide (c.bound ≥ 0)) && (decide (c.bound ≤ 20000)))) | .out t => some t
def s_ProblemValid_b1 (_i_1 : Nat) (x_2 : Con) : (Unit) → Option (Lo (Unit) (Bool))
  | () => (s_ConstraintValid x_2).bind fun x13 => if (!x13) then (some (.out false)) else (some (.cont ()))
def s_ProblemValid (list : List Con) : Option (Bool) :=
  ((rangeL s_ProblemValid_b1 list 0 ()) : Option (Jn (Unit) (Bool))).bind fun j => match j with | .nx _ => (some (decide ((list.length : Int) ≤ 400))) | .out t => some t
def s_l17Dec_b1 : (Int × ByteArray) → Option (Lo (Int × ByteArray) (ByteArray))
  | (n_18, out_19) => if decide (n_18 > 9) then ((cat (bs [(u8w (i64 (48 + (Int.tmod n_18 10))))]) out_19).bind fun x25 => some (.cont (i64 (Int.tdiv n_18 10), x25))) else (some (.brk (n_18, out_19)))
def s_l17Dec_F (fu : Nat) (rec_ : Int → Option ByteArray) (n_ : Int) : Option (ByteArray) :=
  if decide (n_ < (-9223372036854775807)) then (some (⟨#[45, 57, 50, 50, 51, 51, 55, 50, 48, 51, 54, 56, 53, 52, 55, 55, 53, 56, 48, 56]⟩ : ByteArray)) else (if decide (n_ < 0) then ((rec_ (i64 (-n_))).bind fun x8 => (cat (⟨#[45]⟩ : ByteArray) x8).bind fun x10 => some x10) else (((whileL s_l17Dec_b1 fu (n_, (⟨#[]⟩ : ByteArray))) : Option (Jn (Int × ByteArray) (ByteArray))).bind fun j => match j with | .nx (n_18, out_19) => ((cat (bs [(u8w (i64 (48 + n_18)))]) out_19).bind fun x32 => some x32) | .out t => some t))
def s_l17Dec_R (fu : Nat) : Nat → Int → Option ByteArray
  | 0 => fun _ => none
  | n + 1 => s_l17Dec_F fu (s_l17Dec_R fu n)
def s_l17Dec (fu : Nat) (n_ : Int) : Option ByteArray := s_l17Dec_R fu fu n_
def s_l1Name (fu : Nat) (lit : Int) : Option (ByteArray) :=
  if decide (lit < 0) then ((s_l17Dec fu (i64 (-lit))).bind fun x7 => (cat (⟨#[126, 120]⟩ : ByteArray) x7).bind fun x9 => some x9) else ((s_l17Dec fu lit).bind fun x21 => (cat (⟨#[120]⟩ : ByteArray) x21).bind fun x23 => some x23)
def s_l1Text_b1 (fu : Nat) (_i_5 : Nat) (x_9 : Term) : (ByteArray) → Option (Lo (ByteArray) (ByteArray))
  | out_6 => (s_l17Dec fu x_9.coef).bind fun x20 => (cat out_6 x20).bind fun x22 => (cat x22 (⟨#[32]⟩ : ByteArray)).bind fun x23 => (s_l1Name fu x_9.lit).bind fun x33 => (cat x23 x33).bind fun x35 => (cat x35 (⟨#[32]⟩ : ByteArray)).bind fun x36 => some (.cont x36)
def s_l1Text (fu : Nat) (c : Con) : Option (ByteArray) :=
  ((rangeL (s_l1Text_b1 fu) c.terms 0 (⟨#[]⟩ : ByteArray)) : Option (Jn (ByteArray) (ByteArray))).bind fun j => match j with | .nx out_6 => ((cat out_6 (⟨#[62, 61, 32]⟩ : ByteArray)).bind fun x86 => (s_l17Dec fu c.bound).bind fun x92 => (cat x86 x92).bind fun x94 => some x94) | .out t => some t
def s_FormatProblem_b1 (fu : Nat) (_i_15 : Nat) (x_17 : Con) : (ByteArray) → Option (Lo (ByteArray) (ByteArray))
  | out_16 => (s_l1Text fu x_17).bind fun x28 => (cat out_16 x28).bind fun x30 => (cat x30 (⟨#[10]⟩ : ByteArray)).bind fun x31 => some (.cont x31)
def s_FormatProblem (fu : Nat) (list : List Con) : Option (ByteArray) :=
  (s_ProblemValid list).bind fun x6 => if (!x6) then (some (⟨#[]⟩ : ByteArray)) else (((rangeL (s_FormatProblem_b1 fu) list 0 (⟨#[]⟩ : ByteArray)) : Option (Jn (ByteArray) (ByteArray))).bind fun j => match j with | .nx out_16 => (some out_16) | .out t => some t)
def slices_Equal_implTerm_b1 (s2 : List Term) (i_2 : Nat) (x_5 : Term) : (Unit) → Option (Lo (Unit) (Bool))
  | () => (idx s2 (i_2 : Int)).bind fun x11 => if (!(x_5 == x11)) then (some (.out false)) else (some (.cont ()))
def slices_Equal_implTerm (s1 : List Term) (s2 : List Term) : Option (Bool) :=
  if ((s1.length : Int) != (s2.length : Int)) then (some false) else (((rangeL (slices_Equal_implTerm_b1 s2) s1 0 ()) : Option (Jn (Unit) (Bool))).bind fun j => match j with | .nx _ => (some true) | .out t => some t)
def i_ConstraintSame (a : Con) (b : Con) : Option (Bool) :=
  (if (a.bound == b.bound) then ((slices_Equal_implTerm a.terms b.terms).bind fun x14 => some x14) else some false).bind fun b16 => some b16
def l_cpProblem_b1 (b : List Con) (i_2 : Nat) (x_5 : Con) : (Unit) → Option (Lo (Unit) (Bool))
  | () => (idx b (i_2 : Int)).bind fun x11 => (i_ConstraintSame x_5 x11).bind fun x21 => if (!x21) then (some (.out false)) else (some (.cont ()))
def l_cpProblem (a : List Con) (b : List Con) : Option (Bool) :=
  if ((a.length : Int) != (b.length : Int)) then (some false) else (((rangeL (l_cpProblem_b1 b) a 0 ()) : Option (Jn (Unit) (Bool))).bind fun j => match j with | .nx _ => (some true) | .out t => some t)
def s_l17Rd_of (r_ : Rd) (list : List ByteArray) : Option (ByteArray × Int) :=
  (s_l17Rd_pick r_ (list.length : Int)).bind fun x6 => (idx list x6.1).bind fun x8 => some (x8, x6.2)
def s_l1Bend (r_ : Rd) (s : ByteArray) (bits : List ByteArray) : Option (ByteArray × Int) :=
  (if ((s.size : Int) == 0) then some (true, r_.p) else ((s_l17Rd_pick r_ 2).bind fun x6 => some ((x6.1 == 0), x6.2))).bind fun b8 => if b8.1 then (some (s, b8.2)) else ((s_l17Rd_pick ({ b := r_.b, p := b8.2 } : Rd) (s.size : Int)).bind fun x23 => (ssl s 0 x23.1).bind fun x31 => (s_l17Rd_of ({ b := r_.b, p := x23.2 } : Rd) bits).bind fun x37 => (cat x31 x37.1).bind fun x39 => (s_l17Rd_pick ({ b := r_.b, p := x37.2 } : Rd) 2).bind fun x45 => (ssl s (i64 (x23.1 + x45.1)) (s.size : Int)).bind fun x47 => (cat x39 x47).bind fun x48 => some (x48, x45.2))
def s_DrawParseProblem (fu : Nat) (code : List UInt8) : Option (ByteArray) :=
  (s_l17Open code).bind fun x1 => (s_l3Problem fu x1).bind fun x9 => (s_FormatProblem fu x9.1).bind fun x18 => (s_l1Bend ({ b := x1.b, p := x9.2 } : Rd) x18 ([(⟨#[]⟩ : ByteArray), (⟨#[32]⟩ : ByteArray), (⟨#[10]⟩ : ByteArray), (⟨#[49]⟩ : ByteArray), (⟨#[120]⟩ : ByteArray), (⟨#[126]⟩ : ByteArray)])).bind fun x29 => some x29.1
def s_l17Cut_b1 (s : ByteArray) (c : Int) (i_7 : Nat) : ((List ByteArray) × Int) → Option (Lo ((List ByteArray) × Int) (List ByteArray))
  | (out_8, from__10) => (if ((i_7 : Int) == (s.size : Int)) then some true else ((sidx s (i_7 : Int)).bind fun x14 => some ((x14.toNat : Int) == (c.toNat : Int)))).bind fun b15 => ((if b15 then ((ssl s from__10 (i_7 : Int)).bind fun x23 => (app out_8 ([x23])).bind fun x27 => some (x27, i64 ((i_7 : Int) + 1))) else (some (out_8, from__10))) : Option ((List ByteArray) × Int)).bind fun (out_18, from__20) => some (.cont (out_18, from__20))
def s_l17Cut (s : ByteArray) (c : Int) : Option (List ByteArray) :=
  (cntF 0 ((s.size : Int) + 1)).bind fun k12 => ((countL (s_l17Cut_b1 s c) k12 0 ([], 0)) : Option (Jn ((List ByteArray) × Int) (List ByteArray))).bind fun j => match j with | .nx (out_8, from__10) => (some out_8) | .out t => some t
def s_l17Num_b1 (s_5 : ByteArray) (i_20 : Nat) : (Int) → Option (Lo (Int) (Int × Bool))
  | n_21 => (sidx s_5 (i_20 : Int)).bind fun x25 => if ((decide ((x25.toNat : Int) < 48)) || (decide ((x25.toNat : Int) > 57))) then (some (.out (0, false))) else (some (.cont (i64 ((i64 (n_21 * 10)) + (i64 (IntKind.u8.wrap ((x25.toNat : Int) - 48)))))))
def s_l17Num (s : ByteArray) : Option (Int × Bool) :=
  (if decide ((s.size : Int) > 0) then ((sidx s 0).bind fun x1 => some ((x1.toNat : Int) == 45)) else some false).bind fun b2 => ((if b2 then ((ssl s 1 (s.size : Int)).bind fun x8 => some x8) else (some s)) : Option (ByteArray)).bind fun s_5 => (if (((s_5.size : Int) == 0) || (decide ((s_5.size : Int) > 17))) then some true else ((sidx s_5 0).bind fun x9 => some (((x9.toNat : Int) == 48) && ((decide ((s_5.size : Int) > 1)) || b2)))).bind fun b10 => if b10 then (some (0, false)) else ((cntF 0 (s_5.size : Int)).bind fun k23 => ((countL (s_l17Num_b1 s_5) k23 0 0) : Option (Jn (Int) (Int × Bool))).bind fun j => match j with | .nx n_21 => (((if b2 then (some (i64 (-n_21))) else (some n_21)) : Option (Int)).bind fun n_29 => some (n_29, true)) | .out t => some t)
def s_l1Literal (s : ByteArray) : Option (Int) :=
  (if decide ((s.size : Int) > 0) then ((sidx s 0).bind fun x1 => some ((x1.toNat : Int) == 126)) else some false).bind fun b2 => ((if b2 then ((ssl s 1 (s.size : Int)).bind fun x9 => some (x9, (-1))) else (some (s, 1))) : Option (ByteArray × Int)).bind fun (s_5, sign_6) => (if decide ((s_5.size : Int) < 2) then some true else ((sidx s_5 0).bind fun x10 => some ((x10.toNat : Int) != 120))).bind fun b11 => if b11 then (some 0) else ((ssl s_5 1 (s_5.size : Int)).bind fun x15 => (s_l17Num x15).bind fun x21 => if (((!x21.2) || (decide (x21.1 < 1))) || (decide (x21.1 > 12))) then (some 0) else (some (i64 (sign_6 * x21.1))))
def s_FormatConstraint (fu : Nat) (c : Con) : Option (ByteArray) :=
  (s_ConstraintValid c).bind fun x10 => if (!x10) then (some (⟨#[]⟩ : ByteArray)) else ((s_l1Text fu c).bind fun x24 => some x24)
def s_ParseConstraint_b1 (x10 : List ByteArray) : (Int × (List Term)) → Option (Lo (Int × (List Term)) (Con × Bool))
  | (i_61, g57_0_62) => if decide ((i64 (i_61 + 2)) < (x10.length : Int)) then ((idx x10 i_61).bind fun x69 => (s_l17Num x69).bind fun x79 => (idx x10 (i64 (i_61 + 1))).bind fun x91 => (s_l1Literal x91).bind fun x99 => (app g57_0_62 ([({ coef := x79.1, lit := x99 } : Term)])).bind fun x104 => some (.cont (i64 (i_61 + 2), x104))) else (some (.brk (i_61, g57_0_62)))
def s_ParseConstraint (fu : Nat) (text : ByteArray) : Option (Con × Bool) :=
  (s_l17Cut text 32).bind fun x10 => (if (((decide ((x10.length : Int) < 2)) || ((Int.tmod (x10.length : Int) 2) != 0)) || (decide ((x10.length : Int) > 26))) then some true else ((idx x10 (i64 ((x10.length : Int) - 2))).bind fun x20 => some (!(ByteArray.toList x20 == ByteArray.toList (⟨#[62, 61]⟩ : ByteArray))))).bind fun b25 => if b25 then (some (({ terms := [], bound := 0 } : Con), false)) else (((whileL (s_ParseConstraint_b1 x10) fu (0, [])) : Option (Jn (Int × (List Term)) (Con × Bool))).bind fun j => match j with | .nx (i_61, g57_0_62) => ((idx x10 (i64 ((x10.length : Int) - 1))).bind fun x137 => (s_l17Num x137).bind fun x147 => (s_FormatConstraint fu ({ terms := g57_0_62, bound := x147.1 } : Con)).bind fun x167 => if (!(ByteArray.toList x167 == ByteArray.toList text)) then (some (({ terms := [], bound := 0 } : Con), false)) else (some (({ terms := g57_0_62, bound := x147.1 } : Con), true))) | .out t => some t)
def s_ParseProblem_b1 (fu : Nat) (x6 : List ByteArray) : ((List Con) × Int) → Option (Lo ((List Con) × Int) ((List Con) × Bool))
  | (out_38, i_40) => if decide ((i64 (i_40 + 1)) < (x6.length : Int)) then ((idx x6 i_40).bind fun x43 => (s_ParseConstraint fu x43).bind fun x53 => if (!x53.2) then (some (.out ([], false))) else ((app out_38 ([x53.1])).bind fun x83 => some (.cont (x83, i64 (i_40 + 1))))) else (some (.brk (out_38, i_40)))
def s_ParseProblem (fu : Nat) (text : ByteArray) : Option ((List Con) × Bool) :=
  (s_l17Cut text 10).bind fun x6 => (if decide ((x6.length : Int) > 401) then some true else ((idx x6 (i64 ((x6.length : Int) - 1))).bind fun x22 => some (!(ByteArray.toList x22 == ByteArray.toList (⟨#[]⟩ : ByteArray))))).bind fun b27 => if b27 then (some ([], false)) else (((whileL (s_ParseProblem_b1 fu x6) fu ([], 0)) : Option (Jn ((List Con) × Int) ((List Con) × Bool))).bind fun j => match j with | .nx (out_38, i_40) => (some (out_38, true)) | .out t => some t)
def l_FnProblemText (fu : Nat) (code : List UInt8) (more : List UInt8) : Option (Bool) :=
  if ((decide ((code.length : Int) > 1048576)) || (decide ((more.length : Int) > 1048576))) then (some true) else ((s_DrawFormatProblem fu code).bind fun x4 => (i_FormatProblem x4).bind fun x15 => (i_ParseProblem fu x15).bind fun x29 => (s_FormatProblem fu x4).bind fun x45 => (if (!(ByteArray.toList x15 == ByteArray.toList x45)) then some true else ((i_ProblemValid x4).bind fun x53 => (s_ProblemValid x4).bind fun x61 => some (x53 != x61))).bind fun b63 => (if (b63 || (!x29.2)) then some true else ((i_ProblemValid x4).bind fun x70 => (if x70 then ((l_cpProblem x29.1 x4).bind fun x79 => some (!x79)) else some false).bind fun b81 => some b81)).bind fun b82 => if b82 then (some false) else ((s_DrawParseProblem fu more).bind fun x182 => (i_ParseProblem fu x182).bind fun x195 => (s_ParseProblem fu x182).bind fun x210 => (if (x195.2 == x210.2) then ((l_cpProblem x195.1 x210.1).bind fun x227 => some x227) else some false).bind fun b229 => (if b229 then ((if (!x195.2) then some true else ((i_FormatProblem x195.1).bind fun x236 => some (ByteArray.toList x236 == ByteArray.toList x182))).bind fun b238 => some b238) else some false).bind fun b239 => some b239))
end Go.L

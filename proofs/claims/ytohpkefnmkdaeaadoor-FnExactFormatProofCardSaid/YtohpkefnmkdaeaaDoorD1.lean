/- Part of a proof by program: D1. -/
import Derived.Test.YtohpkefnmkdaeaaDoorG15
namespace Go.L
open Go Go.E
set_option linter.unusedVariables false
def i_within (n_ : Int) (low : Int) (high : Int) : Option (Bool) :=
  some ((decide (low ≤ n_)) && (decide (n_ ≤ high)))
def s_l17Dec_b1 : (Int × ByteArray) → Option (Lo (Int × ByteArray) (ByteArray))
  | (n_18, out_19) => if decide (n_18 > 9) then ((cat (bs [(u8w (i64 (48 + (Int.tmod n_18 10))))]) out_19).bind fun x25 => some (.cont (i64 (Int.tdiv n_18 10), x25))) else (some (.brk (n_18, out_19)))
def s_l17Dec_F (fu : Nat) (rec_ : Int → Option ByteArray) (n_ : Int) : Option (ByteArray) :=
  if decide (n_ < (-9223372036854775807)) then (some (⟨#[45, 57, 50, 50, 51, 51, 55, 50, 48, 51, 54, 56, 53, 52, 55, 55, 53, 56, 48, 56]⟩ : ByteArray)) else (if decide (n_ < 0) then ((rec_ (i64 (-n_))).bind fun x8 => (cat (⟨#[45]⟩ : ByteArray) x8).bind fun x10 => some x10) else (((whileL s_l17Dec_b1 fu (n_, (⟨#[]⟩ : ByteArray))) : Option (Jn (Int × ByteArray) (ByteArray))).bind fun j => match j with | .nx (n_18, out_19) => ((cat (bs [(u8w (i64 (48 + n_18)))]) out_19).bind fun x32 => some x32) | .out t => some t))
def s_l17Dec_R (fu : Nat) : Nat → Int → Option ByteArray
  | 0 => fun _ => none
  | n + 1 => s_l17Dec_F fu (s_l17Dec_R fu n)
def s_l17Dec (fu : Nat) (n_ : Int) : Option ByteArray := s_l17Dec_R fu fu n_
def l_szTermS (a : List Term) (left : Int) : Option (Int) :=
  if decide ((i64 (left - (a.length : Int))) < 0) then (some (-1)) else (some (i64 (left - (a.length : Int))))
def l_szConstraint (a : Con) (left : Int) : Option (Int) :=
  (l_szTermS a.terms left).bind fun x10 => if decide (x10 < 0) then (some (-1)) else (some x10)
def l_szStep (a : Step) (left : Int) : Option (Int) :=
  (l_szConstraint a.given left).bind fun x10 => if decide (x10 < 0) then (some (-1)) else (some x10)
def l_szStepS_b1 (_i_2 : Nat) (x_4 : Step) : (Int) → Option (Lo (Int) (Int))
  | left_3 => (l_szStep x_4 left_3).bind fun x15 => if decide (x15 < 0) then (some (.out (-1))) else (some (.cont x15))
def l_szStepS (a : List Step) (left : Int) : Option (Int) :=
  if decide ((i64 (left - (a.length : Int))) < 0) then (some (-1)) else (((rangeL l_szStepS_b1 a 0 (i64 (left - (a.length : Int)))) : Option (Jn (Int) (Int))).bind fun j => match j with | .nx left_3 => (some left_3) | .out t => some t)
def s_l4Parts (s : Step) : Option (Bool) :=
  ((if (s.kind == 1) then (some (s.kind == 1)) else (((if (s.kind == 2) then (some (s.kind == 2)) else (((if (s.kind == 3) then (some (s.kind == 3)) else (some (s.kind == 5))) : Option (Bool)).bind fun t17_13 => some t17_13)) : Option (Bool)).bind fun t17_10 => some t17_10)) : Option (Bool)).bind fun t17_7 => if t17_7 then (some (((s.given.terms.length : Int) == 0) && (s.given.bound == 0))) else (((if (s.kind == 4) then (some (s.kind == 4)) else (((if (s.kind == 6) then (some (s.kind == 6)) else (some (s.kind == 8))) : Option (Bool)).bind fun t23_20 => some t23_20)) : Option (Bool)).bind fun t23_17 => if t23_17 then (some ((((s.given.terms.length : Int) == 0) && (s.given.bound == 0)) && (s.b == 0))) else (if (s.kind == 7) then (some ((s.a == 0) && (s.b == 0))) else (some false)))
def s_l4Words : Option (List ByteArray) :=
  some ([(⟨#[]⟩ : ByteArray), (⟨#[97, 100, 100]⟩ : ByteArray), (⟨#[109, 117, 108, 116, 105, 112, 108, 121]⟩ : ByteArray), (⟨#[100, 105, 118, 105, 100, 101]⟩ : ByteArray), (⟨#[115, 97, 116, 117, 114, 97, 116, 101]⟩ : ByteArray), (⟨#[119, 101, 97, 107, 101, 110]⟩ : ByteArray), (⟨#[108, 105, 116, 101, 114, 97, 108]⟩ : ByteArray), (⟨#[114, 117, 112]⟩ : ByteArray), (⟨#[100, 101, 108, 101, 116, 101]⟩ : ByteArray)])
def s_l1Lit (n_ : Int) : Option (Bool) :=
  some (((n_ != 0) && (decide (n_ ≥ (-12)))) && (decide (n_ ≤ 12)))
def s_l1Abs (n_ : Int) : Option (Int) :=
  if decide (n_ < 0) then (some (i64 (-n_))) else (some n_)
def s_ConstraintValid_b1 (c : Con) (i_5 : Nat) (x_8 : Term) : (Unit) → Option (Lo (Unit) (Bool))
  | () => (s_l1Lit x_8.lit).bind fun x29 => (if (((!x29) || (decide (x_8.coef < 1))) || (decide (x_8.coef > 1000))) then some true else ((if decide ((i_5 : Int) > 0) then ((idx c.terms (i64 ((i_5 : Int) - 1))).bind fun x31 => (s_l1Abs x31.lit).bind fun x41 => (s_l1Abs x_8.lit).bind fun x48 => some (decide (x41 ≥ x48))) else some false).bind fun b50 => some b50)).bind fun b51 => if b51 then (some (.out false)) else (some (.cont ()))
def s_ConstraintValid (c : Con) : Option (Bool) :=
  ((rangeL (s_ConstraintValid_b1 c) c.terms 0 ()) : Option (Jn (Unit) (Bool))).bind fun j => match j with | .nx _ => (some ((decide (c.bound ≥ 0)) && (decide (c.bound ≤ 20000)))) | .out t => some t
def s_l1Name (fu : Nat) (lit : Int) : Option (ByteArray) :=
  if decide (lit < 0) then ((s_l17Dec fu (i64 (-lit))).bind fun x7 => (cat (⟨#[126, 120]⟩ : ByteArray) x7).bind fun x9 => some x9) else ((s_l17Dec fu lit).bind fun x21 => (cat (⟨#[120]⟩ : ByteArray) x21).bind fun x23 => some x23)
def s_l1Text_b1 (fu : Nat) (_i_5 : Nat) (x_9 : Term) : (ByteArray) → Option (Lo (ByteArray) (ByteArray))
  | out_6 => (s_l17Dec fu x_9.coef).bind fun x20 => (cat out_6 x20).bind fun x22 => (cat x22 (⟨#[32]⟩ : ByteArray)).bind fun x23 => (s_l1Name fu x_9.lit).bind fun x33 => (cat x23 x33).bind fun x35 => (cat x35 (⟨#[32]⟩ : ByteArray)).bind fun x36 => some (.cont x36)
def s_l1Text (fu : Nat) (c : Con) : Option (ByteArray) :=
  ((rangeL (s_l1Text_b1 fu) c.terms 0 (⟨#[]⟩ : ByteArray)) : Option (Jn (ByteArray) (ByteArray))).bind fun j => match j with | .nx out_6 => ((cat out_6 (⟨#[62, 61, 32]⟩ : ByteArray)).bind fun x86 => (s_l17Dec fu c.bound).bind fun x92 => (cat x86 x92).bind fun x94 => some x94) | .out t => some t
def s_l4Line (fu : Nat) (s : Step) : Option (ByteArray) :=
  (s_l4Parts s).bind fun x10 => if (!x10) then (some (⟨#[]⟩ : ByteArray)) else ((s_l4Words).bind fun x24 => (idx x24 s.kind).bind fun x27 => if (s.kind == 7) then ((s_ConstraintValid s.given).bind fun x58 => if (!x58) then (some (⟨#[]⟩ : ByteArray)) else ((cat x27 (⟨#[32]⟩ : ByteArray)).bind fun x67 => (s_l1Text fu s.given).bind fun x73 => (cat x67 x73).bind fun x75 => some x75)) else (if (s.kind == 6) then ((s_l1Lit s.a).bind fun x88 => if (!x88) then (some (⟨#[]⟩ : ByteArray)) else ((cat x27 (⟨#[32]⟩ : ByteArray)).bind fun x97 => (s_l1Name fu s.a).bind fun x103 => (cat x97 x103).bind fun x105 => some x105)) else (if ((((decide (s.a < 0)) || (decide (s.a > 20000))) || (decide (s.b < 0))) || (decide (s.b > 20000))) then (some (⟨#[]⟩ : ByteArray)) else ((cat x27 (⟨#[32]⟩ : ByteArray)).bind fun x121 => (s_l17Dec fu s.a).bind fun x127 => (cat x121 x127).bind fun x129 => ((if ((s.kind != 4) && (s.kind != 8)) then ((cat x129 (⟨#[32]⟩ : ByteArray)).bind fun x141 => (s_l17Dec fu s.b).bind fun x147 => (cat x141 x147).bind fun x149 => some x149) else (some x129)) : Option (ByteArray)).bind fun out_138 => some out_138))))
def s_FormatProof_b1 (fu : Nat) (_i_2 : Nat) (x_4 : Step) : (ByteArray) → Option (Lo (ByteArray) (ByteArray))
  | out_3 => (s_l4Line fu x_4).bind fun x15 => if (ByteArray.toList x15 == ByteArray.toList (⟨#[]⟩ : ByteArray)) then (some (.out (⟨#[]⟩ : ByteArray))) else ((cat out_3 x15).bind fun x28 => (cat x28 (⟨#[10]⟩ : ByteArray)).bind fun x29 => some (.cont x29))
def s_FormatProof (fu : Nat) (steps : List Step) : Option (ByteArray) :=
  if decide ((steps.length : Int) > 1000) then (some (⟨#[]⟩ : ByteArray)) else (((rangeL (s_FormatProof_b1 fu) steps 0 (⟨#[]⟩ : ByteArray)) : Option (Jn (ByteArray) (ByteArray))).bind fun j => match j with | .nx out_3 => (some out_3) | .out t => some t)
def l_toTerm (a : Term) : Option (Term) :=
  some a
def l_toTermS_b1 (i_8 : Nat) (x_10 : Term) : (List Term) → Option (Lo (List Term) (List Term))
  | out_9 => (l_toTerm x_10).bind fun x21 => (idx out_9 (i_8 : Int)).bind fun x23 => some (.cont (out_9.set (Int.toNat (i_8 : Int)) x21))
def l_toTermS (a : List Term) : Option (List Term) :=
  (mkN (a.length : Int) ({ coef := 0, lit := 0 } : Term)).bind fun x1 => ((rangeL l_toTermS_b1 a 0 x1) : Option (Jn (List Term) (List Term))).bind fun j => match j with | .nx out_9 => (some out_9) | .out t => some t
def l_toConstraint (a : Con) : Option (Con) :=
  (l_toTermS a.terms).bind fun x18 => some ({ terms := x18, bound := a.bound } : Con)
def l_toStep (a : Step) : Option (Step) :=
  (l_toConstraint a.given).bind fun x24 => some ({ kind := a.kind, a := a.a, b := a.b, given := x24 } : Step)
def l_toStepS_b1 (i_8 : Nat) (x_10 : Step) : (List Step) → Option (Lo (List Step) (List Step))
  | out_9 => (l_toStep x_10).bind fun x21 => (idx out_9 (i_8 : Int)).bind fun x24 => some (.cont (out_9.set (Int.toNat (i_8 : Int)) x21))
def l_toStepS (a : List Step) : Option (List Step) :=
  (mkN (a.length : Int) ({ kind := 0, a := 0, b := 0, given := ({ terms := [], bound := 0 } : Con) } : Step)).bind fun x1 => ((rangeL l_toStepS_b1 a 0 x1) : Option (Jn (List Step) (List Step))).bind fun j => match j with | .nx out_9 => (some out_9) | .out t => some t
def i_refers (kind : Int) : Option (Int × Bool) :=
  if (kind == 1) then (some (2, false)) else (((if (kind == 2) then (some (kind == 2)) else (((if (kind == 3) then (some (kind == 3)) else (some (kind == 5))) : Option (Bool)).bind fun t7_5 => some t7_5)) : Option (Bool)).bind fun t7_2 => if t7_2 then (some (1, true)) else (((if (kind == 4) then (some (kind == 4)) else (some (kind == 8))) : Option (Bool)).bind fun t11_9 => if t11_9 then (some (1, false)) else (((if (kind == 6) then (some (kind == 6)) else (some (kind == 7))) : Option (Bool)).bind fun t14_13 => if t14_13 then (some (0, false)) else (some ((-1), false)))))
def slices_Equal_implTerm_b1 (s2 : List Term) (i_2 : Nat) (x_5 : Term) : (Unit) → Option (Lo (Unit) (Bool))
  | () => (idx s2 (i_2 : Int)).bind fun x11 => if (!(x_5 == x11)) then (some (.out false)) else (some (.cont ()))
def slices_Equal_implTerm (s1 : List Term) (s2 : List Term) : Option (Bool) :=
  if ((s1.length : Int) != (s2.length : Int)) then (some false) else (((rangeL (slices_Equal_implTerm_b1 s2) s1 0 ()) : Option (Jn (Unit) (Bool))).bind fun j => match j with | .nx _ => (some true) | .out t => some t)
def i_ConstraintSame (a : Con) (b : Con) : Option (Bool) :=
  (if (a.bound == b.bound) then ((slices_Equal_implTerm a.terms b.terms).bind fun x14 => some x14) else some false).bind fun b16 => some b16
def i_Step_shaped (s : Step) : Option (Bool) :=
  (i_refers s.kind).bind fun x10 => (if (((decide (x10.1 ≥ 0)) && (((decide (x10.1 > 0)) || (s.kind == 6)) || (s.a == 0))) && (((x10.1 == 2) || x10.2) || (s.b == 0))) then ((if (s.kind == 7) then some true else ((i_ConstraintSame s.given ({ terms := [], bound := 0 } : Con)).bind fun x23 => some x23)).bind fun b25 => some b25) else some false).bind fun b26 => some b26
def i_isLiteral (l : Int) : Option (Bool) :=
  (if (l != 0) then ((i_within l (-12) 12).bind fun x6 => some x6) else some false).bind fun b8 => some b8
def i_variableOf (l : Int) : Option (Int) :=
  some (max l (i64 (-l)))
def i_ConstraintValid_b1 (_i_5 : Nat) (x_7 : Term) : (Int) → Option (Lo (Int) (Bool))
  | before_6 => (i_isLiteral x_7.lit).bind fun x28 => (if (!x28) then some true else ((i_variableOf x_7.lit).bind fun x35 => some (decide (x35 ≤ before_6)))).bind fun b37 => (if b37 then some true else ((i_within x_7.coef 1 1000).bind fun x43 => some (!x43))).bind fun b45 => if b45 then (some (.out false)) else ((i_variableOf x_7.lit).bind fun x80 => some (.cont x80))
def i_ConstraintValid (c : Con) : Option (Bool) :=
  ((rangeL i_ConstraintValid_b1 c.terms 0 0) : Option (Jn (Int) (Bool))).bind fun j => match j with | .nx before_6 => ((i_within c.bound 0 20000).bind fun x93 => some x93) | .out t => some t
def i_Step_writable (s : Step) : Option (Bool) :=
  (i_Step_shaped s).bind fun x10 => if (!x10) then (some false) else (if (s.kind == 6) then ((i_isLiteral s.a).bind fun x25 => some x25) else (if (s.kind == 7) then ((i_ConstraintValid s.given).bind fun x39 => some x39) else ((i_within s.a 0 20000).bind fun x52 => (if x52 then ((i_within s.b 0 20000).bind fun x59 => some x59) else some false).bind fun b61 => some b61)))
def i_stepWords : Option (List ByteArray) :=
  some ([(⟨#[]⟩ : ByteArray), (⟨#[97, 100, 100]⟩ : ByteArray), (⟨#[109, 117, 108, 116, 105, 112, 108, 121]⟩ : ByteArray), (⟨#[100, 105, 118, 105, 100, 101]⟩ : ByteArray), (⟨#[115, 97, 116, 117, 114, 97, 116, 101]⟩ : ByteArray), (⟨#[119, 101, 97, 107, 101, 110]⟩ : ByteArray), (⟨#[108, 105, 116, 101, 114, 97, 108]⟩ : ByteArray), (⟨#[114, 117, 112]⟩ : ByteArray), (⟨#[100, 101, 108, 101, 116, 101]⟩ : ByteArray)])
def i_literalText (l : Int) : Option (ByteArray) :=
  if decide (l < 0) then ((strconv_Itoa (i64 (-l))).bind fun x7 => (cat (⟨#[126, 120]⟩ : ByteArray) x7).bind fun x9 => some x9) else ((strconv_Itoa l).bind fun x21 => (cat (⟨#[120]⟩ : ByteArray) x21).bind fun x23 => some x23)
def i_Constraint_text_b1 (_i_5 : Nat) (x_9 : Term) : (ByteArray) → Option (Lo (ByteArray) (ByteArray))
  | out_6 => (strconv_Itoa x_9.coef).bind fun x30 => (cat x30 (⟨#[32]⟩ : ByteArray)).bind fun x32 => (i_literalText x_9.lit).bind fun x38 => (cat x32 x38).bind fun x40 => (cat x40 (⟨#[32]⟩ : ByteArray)).bind fun x41 => (cat out_6 x41).bind fun x42 => some (.cont x42)
def i_Constraint_text (c : Con) : Option (ByteArray) :=
  ((rangeL i_Constraint_text_b1 c.terms 0 (⟨#[]⟩ : ByteArray)) : Option (Jn (ByteArray) (ByteArray))).bind fun j => match j with | .nx out_6 => ((cat out_6 (⟨#[62, 61, 32]⟩ : ByteArray)).bind fun x68 => (strconv_Itoa c.bound).bind fun x74 => (cat x68 x74).bind fun x76 => some x76) | .out t => some t
def i_Step_text (s : Step) : Option (ByteArray) :=
  (i_stepWords).bind fun x10 => (idx x10 s.kind).bind fun x13 => (cat x13 (⟨#[32]⟩ : ByteArray)).bind fun x18 => (i_refers s.kind).bind fun x44 => if (s.kind == 6) then ((i_literalText s.a).bind fun x58 => (cat x18 x58).bind fun x60 => some x60) else (if (s.kind == 7) then ((i_Constraint_text s.given).bind fun x73 => (cat x18 x73).bind fun x75 => some x75) else (if ((decide (x44.1 > 1)) || x44.2) then ((strconv_Itoa s.a).bind fun x90 => (cat x18 x90).bind fun x92 => (cat x92 (⟨#[32]⟩ : ByteArray)).bind fun x93 => (strconv_Itoa s.b).bind fun x99 => (cat x93 x99).bind fun x101 => some x101) else ((strconv_Itoa s.a).bind fun x132 => (cat x18 x132).bind fun x134 => some x134)))
def i_FormatProof_b1 (_i_10 : Nat) (x_12 : Step) : (ByteArray) → Option (Lo (ByteArray) (ByteArray))
  | ag6_11 => (i_Step_writable x_12).bind fun x33 => if (!x33) then (some (.out (⟨#[]⟩ : ByteArray))) else ((i_Step_text x_12).bind fun x47 => (cat x47 (⟨#[10]⟩ : ByteArray)).bind fun x49 => (catB ag6_11 x49).bind fun x51 => some (.cont x51))
def i_FormatProof (steps : List Step) : Option (ByteArray) :=
  if decide ((steps.length : Int) > 1000) then (some (⟨#[]⟩ : ByteArray)) else (((rangeL i_FormatProof_b1 steps 0 ByteArray.empty) : Option (Jn (ByteArray) (ByteArray))).bind fun j => match j with | .nx ag6_11 => (some ag6_11) | .out t => some t)
def l_eqTerm (a : Term) (b : Term) : Option (Bool) :=
  if (a.coef != b.coef) then (some false) else (if (a.lit != b.lit) then (some false) else (some true))
def l_eqTermS_b1 (b : List Term) (i_2 : Nat) (x_5 : Term) : (Unit) → Option (Lo (Unit) (Bool))
  | () => (idx b (i_2 : Int)).bind fun x11 => (l_eqTerm x_5 x11).bind fun x21 => if (!x21) then (some (.out false)) else (some (.cont ()))
def l_eqTermS (a : List Term) (b : List Term) : Option (Bool) :=
  if ((a.length : Int) != (b.length : Int)) then (some false) else (((rangeL (l_eqTermS_b1 b) a 0 ()) : Option (Jn (Unit) (Bool))).bind fun j => match j with | .nx _ => (some true) | .out t => some t)
def l_eqConstraint (a : Con) (b : Con) : Option (Bool) :=
  (l_eqTermS a.terms b.terms).bind fun x14 => if (!x14) then (some false) else (if (a.bound != b.bound) then (some false) else (some true))
def l_eqStep (a : Step) (b : Step) : Option (Bool) :=
  if (a.kind != b.kind) then (some false) else (if (a.a != b.a) then (some false) else (if (a.b != b.b) then (some false) else ((l_eqConstraint a.given b.given).bind fun x17 => if (!x17) then (some false) else (some true))))
def l_eqStepS_b1 (b : List Step) (i_2 : Nat) (x_5 : Step) : (Unit) → Option (Lo (Unit) (Bool))
  | () => (idx b (i_2 : Int)).bind fun x11 => (l_eqStep x_5 x11).bind fun x21 => if (!x21) then (some (.out false)) else (some (.cont ()))
def l_eqStepS (a : List Step) (b : List Step) : Option (Bool) :=
  if ((a.length : Int) != (b.length : Int)) then (some false) else (((rangeL (l_eqStepS_b1 b) a 0 ()) : Option (Jn (Unit) (Bool))).bind fun j => match j with | .nx _ => (some true) | .out t => some t)
def l_FnExactFormatProof (fu : Nat) (aSteps : List Step) : Option (Bool) :=
  (l_szStepS aSteps 1048576).bind fun x6 => if decide (x6 < 0) then (some true) else ((l_toStepS aSteps).bind fun x20 => (s_FormatProof fu x20).bind fun x29 => (l_toStepS aSteps).bind fun x50 => (i_FormatProof x50).bind fun x66 => if (!(ByteArray.toList x66 == ByteArray.toList x29)) then (some false) else ((l_toStepS aSteps).bind fun x81 => (l_eqStepS x50 x81).bind fun x91 => if (!x91) then (some false) else (some true)))
end Go.L

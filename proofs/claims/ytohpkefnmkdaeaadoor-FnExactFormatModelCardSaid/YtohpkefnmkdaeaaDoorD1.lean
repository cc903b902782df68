/- Part of a proof by program: D1. -/
import Derived.Test.YtohpkefnmkdaeaaDoorG15
namespace Go.L
open Go Go.E
set_option linter.unusedVariables false
def i_within (n_ : Int) (low : Int) (high : Int) : Option (Bool) :=
  some ((decide (low ≤ n_)) && (decide (n_ ≤ high)))
def slices_IndexFunc_implRule_b1 (f_ : (Rule → Option Bool)) (i_1 : Nat) (x_2 : Rule) : (Unit) → Option (Lo (Unit) (Int))
  | () => (f_ x_2).bind fun x8 => if x8 then (some (.out (i_1 : Int))) else (some (.cont ()))
def slices_IndexFunc_implRule (s : List Rule) (f_ : (Rule → Option Bool)) : Option (Int) :=
  ((rangeL (slices_IndexFunc_implRule_b1 f_) s 0 ()) : Option (Jn (Unit) (Int))).bind fun j => match j with | .nx _ => (some (-1)) | .out t => some t
def slices_ContainsFunc_implRule (s : List Rule) (f_ : (Rule → Option Bool)) : Option (Bool) :=
  (slices_IndexFunc_implRule s f_).bind fun x6 => some (decide (x6 ≥ 0))
def slices_Index_int_b1 (v_ : Int) (i_1 : Nat) (x_2 : Int) : (Unit) → Option (Lo (Unit) (Int))
  | () => if (v_ == x_2) then (some (.out (i_1 : Int))) else (some (.cont ()))
def slices_Index_int (s : List Int) (v_ : Int) : Option (Int) :=
  ((rangeL (slices_Index_int_b1 v_) s 0 ()) : Option (Jn (Unit) (Int))).bind fun j => match j with | .nx _ => (some (-1)) | .out t => some t
def slices_Contains_int (s : List Int) (v_ : Int) : Option (Bool) :=
  (slices_Index_int s v_).bind fun x6 => some (decide (x6 ≥ 0))
def slices_IndexFunc_int_b1 (f_ : (Int → Option Bool)) (i_1 : Nat) (x_2 : Int) : (Unit) → Option (Lo (Unit) (Int))
  | () => (f_ x_2).bind fun x8 => if x8 then (some (.out (i_1 : Int))) else (some (.cont ()))
def slices_IndexFunc_int (s : List Int) (f_ : (Int → Option Bool)) : Option (Int) :=
  ((rangeL (slices_IndexFunc_int_b1 f_) s 0 ()) : Option (Jn (Unit) (Int))).bind fun j => match j with | .nx _ => (some (-1)) | .out t => some t
def slices_ContainsFunc_int (s : List Int) (f_ : (Int → Option Bool)) : Option (Bool) :=
  (slices_IndexFunc_int s f_).bind fun x6 => some (decide (x6 ≥ 0))
def i_ruleValid_1 (n_ : Int) : Option (Bool) :=
  (if (n_ == 0) then some true else ((i_within n_ (-9) 9).bind fun x6 => some (!x6))).bind fun b8 => some b8
def slices_IndexFunc_Sint_b1 (f_ : ((List Int) → Option Bool)) (i_1 : Nat) (x_2 : List Int) : (Unit) → Option (Lo (Unit) (Int))
  | () => (f_ x_2).bind fun x8 => if x8 then (some (.out (i_1 : Int))) else (some (.cont ()))
def slices_IndexFunc_Sint (s : List (List Int)) (f_ : ((List Int) → Option Bool)) : Option (Int) :=
  ((rangeL (slices_IndexFunc_Sint_b1 f_) s 0 ()) : Option (Jn (Unit) (Int))).bind fun j => match j with | .nx _ => (some (-1)) | .out t => some t
def slices_ContainsFunc_Sint (s : List (List Int)) (f_ : ((List Int) → Option Bool)) : Option (Bool) :=
  (slices_IndexFunc_Sint s f_).bind fun x6 => some (decide (x6 ≥ 0))
def i_ruleValid_2_1 (n_ : Int) : Option (Bool) :=
  (i_within n_ 0 3).bind fun x6 => some (!x6)
def i_ruleValid_2 (c1 : Rule) (row : List Int) : Option (Bool) :=
  (if ((row.length : Int) != (c1.vars.length : Int)) then some true else ((slices_ContainsFunc_int row i_ruleValid_2_1).bind fun x6 => some x6)).bind fun b8 => some b8
def i_ruleValid_b1 (r_ : Rule) (cells : Int) (i_5 : Nat) (x_6 : Int) : (Unit) → Option (Lo (Unit) (Bool))
  | () => (i_within x_6 0 (i64 (cells - 1))).bind fun x21 => (if (!x21) then some true else ((sl r_.vars 0 (i_5 : Int)).bind fun x23 => (slices_Contains_int x23 x_6).bind fun x31 => some x31)).bind fun b33 => if b33 then (some (.out false)) else (some (.cont ()))
def i_ruleValid (r_ : Rule) (cells : Int) : Option (Bool) :=
  ((rangeL (i_ruleValid_b1 r_ cells) r_.vars 0 ()) : Option (Jn (Unit) (Bool))).bind fun j => match j with | .nx _ => (if ((((r_.vars.length : Int) == 0) || ((r_.kind != 1) && ((decide ((r_.coefs.length : Int) > 0)) || (r_.bound != 0)))) || ((r_.kind != 3) && (decide ((r_.rows.length : Int) > 0)))) then (some false) else (if (r_.kind == 1) then ((if ((r_.coefs.length : Int) == (r_.vars.length : Int)) then ((i_within r_.bound (-1000) 1000).bind fun x70 => some x70) else some false).bind fun b72 => (if b72 then ((slices_ContainsFunc_int r_.coefs i_ruleValid_1).bind fun x78 => some (!x78)) else some false).bind fun b80 => some b80) else (if (r_.kind == 3) then ((if decide ((r_.rows.length : Int) ≤ 8) then ((slices_ContainsFunc_Sint r_.rows (i_ruleValid_2 r_)).bind fun x111 => some (!x111)) else some false).bind fun b113 => some b113) else (if (r_.kind == 4) then (some ((r_.vars.length : Int) == 2)) else (some (r_.kind == 2)))))) | .out t => some t
def i_ModelValid_1 (c1 : Model) (r_ : Rule) : Option (Bool) :=
  (i_ruleValid r_ (c1.sizes.length : Int)).bind fun x10 => some (!x10)
def i_ModelValid_b1 (_i_21 : Nat) (x_23 : Int) : (Int) → Option (Lo (Int) (Bool))
  | count_22 => (i_within x_23 0 3).bind fun x38 => if (!x38) then (some (.out false)) else (some (.cont (i64 (count_22 + (i64 (x_23 + 1))))))
def i_ModelValid (m : Model) : Option (Bool) :=
  (i_within (m.sizes.length : Int) 1 5).bind fun x10 => if ((!x10) || (decide ((m.rules.length : Int) > 8))) then (some false) else (((rangeL i_ModelValid_b1 m.sizes 0 0) : Option (Jn (Int) (Bool))).bind fun j => match j with | .nx count_22 => ((if decide (count_22 ≤ 12) then ((slices_ContainsFunc_implRule m.rules (i_ModelValid_1 m)).bind fun x52 => some (!x52)) else some false).bind fun b54 => some b54) | .out t => some t)
def i_digits_b1 (_i_1 : Nat) (x_3 : Int) : (ByteArray) → Option (Lo (ByteArray) (ByteArray))
  | out_2 => (strconv_Itoa x_3).bind fun x18 => (cat out_2 x18).bind fun x20 => some (.cont x20)
def i_digits (list : List Int) : Option (ByteArray) :=
  ((rangeL i_digits_b1 list 0 (⟨#[]⟩ : ByteArray)) : Option (Jn (ByteArray) (ByteArray))).bind fun j => match j with | .nx out_2 => (some out_2) | .out t => some t
def i_ruleWords : Option (List ByteArray) :=
  some ([(⟨#[]⟩ : ByteArray), (⟨#[108, 105, 110, 101, 97, 114]⟩ : ByteArray), (⟨#[100, 105, 102, 102, 101, 114, 101, 110, 116]⟩ : ByteArray), (⟨#[116, 97, 98, 108, 101]⟩ : ByteArray), (⟨#[108, 101, 115, 115]⟩ : ByteArray)])
def i_Rule_text_b1 (r_ : Rule) (i_39 : Nat) (x_41 : Int) : (ByteArray) → Option (Lo (ByteArray) (ByteArray))
  | out_40 => (idx r_.coefs (i_39 : Int)).bind fun x51 => (strconv_Itoa x51).bind fun x61 => (cat (⟨#[32]⟩ : ByteArray) x61).bind fun x63 => (cat x63 (⟨#[32]⟩ : ByteArray)).bind fun x64 => (strconv_Itoa x_41).bind fun x70 => (cat x64 x70).bind fun x72 => (cat out_40 x72).bind fun x73 => some (.cont x73)
def i_Rule_text_b2 (_i_120 : Nat) (x_122 : List Int) : (ByteArray) → Option (Lo (ByteArray) (ByteArray))
  | out_121 => (i_digits x_122).bind fun x137 => (cat (⟨#[32]⟩ : ByteArray) x137).bind fun x139 => (cat out_121 x139).bind fun x140 => some (.cont x140)
def i_Rule_text (r_ : Rule) : Option (ByteArray) :=
  (i_ruleWords).bind fun x10 => (idx x10 r_.kind).bind fun x13 => if (r_.kind == 1) then (((rangeL (i_Rule_text_b1 r_) r_.vars 0 x13) : Option (Jn (ByteArray) (ByteArray))).bind fun j => match j with | .nx out_40 => ((cat out_40 (⟨#[32, 62, 61, 32]⟩ : ByteArray)).bind fun x90 => (strconv_Itoa r_.bound).bind fun x96 => (cat x90 x96).bind fun x98 => some x98) | .out t => some t) else ((i_digits r_.vars).bind fun x110 => (cat (⟨#[32]⟩ : ByteArray) x110).bind fun x112 => (cat x13 x112).bind fun x113 => ((rangeL i_Rule_text_b2 r_.rows 0 x113) : Option (Jn (ByteArray) (ByteArray))).bind fun j => match j with | .nx out_121 => (some out_121) | .out t => some t)
def i_formatModel_b1 (_i_20 : Nat) (x_22 : Rule) : (ByteArray) → Option (Lo (ByteArray) (ByteArray))
  | out_21 => (i_Rule_text x_22).bind fun x43 => (cat x43 (⟨#[10]⟩ : ByteArray)).bind fun x45 => (cat out_21 x45).bind fun x46 => some (.cont x46)
def i_formatModel (m : Model) : Option (ByteArray) :=
  (i_digits m.sizes).bind fun x10 => (cat (⟨#[115, 105, 122, 101, 115, 32]⟩ : ByteArray) x10).bind fun x12 => (cat x12 (⟨#[10]⟩ : ByteArray)).bind fun x13 => ((rangeL i_formatModel_b1 m.rules 0 x13) : Option (Jn (ByteArray) (ByteArray))).bind fun j => match j with | .nx out_21 => (some out_21) | .out t => some t
def i_FormatModel (m : Model) : Option (ByteArray) :=
  (i_ModelValid m).bind fun x10 => if (!x10) then (some (⟨#[]⟩ : ByteArray)) else ((i_formatModel m).bind fun x24 => some x24)
def l_szIntS (a : List Int) (left : Int) : Option (Int) :=
  if decide ((i64 (left - (a.length : Int))) < 0) then (some (-1)) else (some (i64 (left - (a.length : Int))))
def l_szIntSS_b1 (_i_2 : Nat) (x_4 : List Int) : (Int) → Option (Lo (Int) (Int))
  | left_3 => (l_szIntS x_4 left_3).bind fun x15 => if decide (x15 < 0) then (some (.out (-1))) else (some (.cont x15))
def l_szIntSS (a : List (List Int)) (left : Int) : Option (Int) :=
  if decide ((i64 (left - (a.length : Int))) < 0) then (some (-1)) else (((rangeL l_szIntSS_b1 a 0 (i64 (left - (a.length : Int)))) : Option (Jn (Int) (Int))).bind fun j => match j with | .nx left_3 => (some left_3) | .out t => some t)
def l_szRule (a : Rule) (left : Int) : Option (Int) :=
  (l_szIntS a.vars left).bind fun x10 => if decide (x10 < 0) then (some (-1)) else ((l_szIntS a.coefs x10).bind fun x24 => if decide (x24 < 0) then (some (-1)) else ((l_szIntSS a.rows x24).bind fun x38 => if decide (x38 < 0) then (some (-1)) else (some x38)))
def l_szRuleS_b1 (_i_2 : Nat) (x_4 : Rule) : (Int) → Option (Lo (Int) (Int))
  | left_3 => (l_szRule x_4 left_3).bind fun x15 => if decide (x15 < 0) then (some (.out (-1))) else (some (.cont x15))
def l_szRuleS (a : List Rule) (left : Int) : Option (Int) :=
  if decide ((i64 (left - (a.length : Int))) < 0) then (some (-1)) else (((rangeL l_szRuleS_b1 a 0 (i64 (left - (a.length : Int)))) : Option (Jn (Int) (Int))).bind fun j => match j with | .nx left_3 => (some left_3) | .out t => some t)
def l_szModel (a : Model) (left : Int) : Option (Int) :=
  (l_szIntS a.sizes left).bind fun x10 => if decide (x10 < 0) then (some (-1)) else ((l_szRuleS a.rules x10).bind fun x24 => if decide (x24 < 0) then (some (-1)) else (some x24))
def s_l6Vars_b2 (list : List Int) (x_8 : Int) (i_54 : Nat) : (Unit) → Option (Lo (Unit) (Lo (Unit) (Bool)))
  | () => (idx list (i_54 : Int)).bind fun x60 => if (x60 == x_8) then (some (.out (.out false))) else (some (.cont ()))
def s_l6Vars_b1 (m : Model) (list : List Int) (i_5 : Nat) (x_8 : Int) : (Unit) → Option (Lo (Unit) (Bool))
  | () => if ((decide (x_8 < 0)) || (decide (x_8 ≥ (m.sizes.length : Int)))) then (some (.out false)) else ((cntF 0 (i_5 : Int)).bind fun k58 => ((countL (s_l6Vars_b2 list x_8) k58 0 ()) : Option (Jn (Unit) (Lo (Unit) (Bool)))).bind fun j => match j with | .nx _ => (some (.cont ())) | .out t => some t)
def s_l6Vars (m : Model) (list : List Int) : Option (Bool) :=
  ((rangeL (s_l6Vars_b1 m list) list 0 ()) : Option (Jn (Unit) (Bool))).bind fun j => match j with | .nx _ => (some (decide ((list.length : Int) ≥ 1))) | .out t => some t
def s_l6Linear_b1 (_i_5 : Nat) (x_6 : Int) : (Unit) → Option (Lo (Unit) (Bool))
  | () => if (((decide (x_6 < (-9))) || (decide (x_6 > 9))) || (x_6 == 0)) then (some (.out false)) else (some (.cont ()))
def s_l6Linear (r_ : Rule) : Option (Bool) :=
  ((rangeL s_l6Linear_b1 r_.coefs 0 ()) : Option (Jn (Unit) (Bool))).bind fun j => match j with | .nx _ => (some ((((r_.coefs.length : Int) == (r_.vars.length : Int)) && (decide (r_.bound ≥ (-1000)))) && (decide (r_.bound ≤ 1000)))) | .out t => some t
def s_l6Table_b2 (x_8 : List Int) (i_27 : Nat) : (Unit) → Option (Lo (Unit) (Lo (Unit) (Bool)))
  | () => (idx x_8 (i_27 : Int)).bind fun x43 => if ((decide (x43 < 0)) || (decide (x43 > 3))) then (some (.out (.out false))) else (some (.cont ()))
def s_l6Table_b1 (r_ : Rule) (_i_5 : Nat) (x_8 : List Int) : (Unit) → Option (Lo (Unit) (Bool))
  | () => if ((x_8.length : Int) != (r_.vars.length : Int)) then (some (.out false)) else ((cntF 0 (x_8.length : Int)).bind fun k29 => ((countL (s_l6Table_b2 x_8) k29 0 ()) : Option (Jn (Unit) (Lo (Unit) (Bool)))).bind fun j => match j with | .nx _ => (some (.cont ())) | .out t => some t)
def s_l6Table (r_ : Rule) : Option (Bool) :=
  ((rangeL (s_l6Table_b1 r_) r_.rows 0 ()) : Option (Jn (Unit) (Bool))).bind fun j => match j with | .nx _ => (some (decide ((r_.rows.length : Int) ≤ 8))) | .out t => some t
def s_l6Rule (m : Model) (r_ : Rule) : Option (Bool) :=
  (s_l6Vars m r_.vars).bind fun x14 => if (((!x14) || ((r_.kind != 1) && (((r_.coefs.length : Int) != 0) || (r_.bound != 0)))) || ((r_.kind != 3) && ((r_.rows.length : Int) != 0))) then (some false) else (if (r_.kind == 1) then ((s_l6Linear r_).bind fun x41 => some x41) else (if (r_.kind == 2) then (some true) else (if (r_.kind == 3) then ((s_l6Table r_).bind fun x56 => some x56) else (if (r_.kind == 4) then (some ((r_.vars.length : Int) == 2)) else (some false)))))
def s_ModelValid_b1 (m : Model) : (Int × Int) → Option (Lo (Int × Int) (Bool))
  | (n_8, i_9) => if ((decide (i_9 < (m.sizes.length : Int))) && (decide (i_9 < 5))) then ((idx m.sizes i_9).bind fun x14 => if ((decide (x14 < 0)) || (decide (x14 > 3))) then (some (.out false)) else (some (.cont (i64 ((i64 (n_8 + x14)) + 1), i64 (i_9 + 1))))) else (some (.brk (n_8, i_9)))
def s_ModelValid_b2 (m : Model) (_i_51 : Nat) (x_54 : Rule) : (Unit) → Option (Lo (Unit) (Bool))
  | () => (s_l6Rule m x_54).bind fun x65 => if (!x65) then (some (.out false)) else (some (.cont ()))
def s_ModelValid (fu : Nat) (m : Model) : Option (Bool) :=
  ((whileL (s_ModelValid_b1 m) fu (0, 0)) : Option (Jn (Int × Int) (Bool))).bind fun j => match j with | .nx (n_8, i_9) => (if ((((decide ((m.sizes.length : Int) < 1)) || (decide ((m.sizes.length : Int) > 5))) || (decide (n_8 > 12))) || (decide ((m.rules.length : Int) > 8))) then (some false) else (((rangeL (s_ModelValid_b2 m) m.rules 0 ()) : Option (Jn (Unit) (Bool))).bind fun j => match j with | .nx _ => (some true) | .out t => some t)) | .out t => some t
def s_l17Dec_b1 : (Int × ByteArray) → Option (Lo (Int × ByteArray) (ByteArray))
  | (n_18, out_19) => if decide (n_18 > 9) then ((cat (bs [(u8w (i64 (48 + (Int.tmod n_18 10))))]) out_19).bind fun x25 => some (.cont (i64 (Int.tdiv n_18 10), x25))) else (some (.brk (n_18, out_19)))
def s_l17Dec_F (fu : Nat) (rec_ : Int → Option ByteArray) (n_ : Int) : Option (ByteArray) :=
  if decide (n_ < (-9223372036854775807)) then (some (⟨#[45, 57, 50, 50, 51, 51, 55, 50, 48, 51, 54, 56, 53, 52, 55, 55, 53, 56, 48, 56]⟩ : ByteArray)) else (if decide (n_ < 0) then ((rec_ (i64 (-n_))).bind fun x8 => (cat (⟨#[45]⟩ : ByteArray) x8).bind fun x10 => some x10) else (((whileL s_l17Dec_b1 fu (n_, (⟨#[]⟩ : ByteArray))) : Option (Jn (Int × ByteArray) (ByteArray))).bind fun j => match j with | .nx (n_18, out_19) => ((cat (bs [(u8w (i64 (48 + n_18)))]) out_19).bind fun x32 => some x32) | .out t => some t))
def s_l17Dec_R (fu : Nat) : Nat → Int → Option ByteArray
  | 0 => fun _ => none
  | n + 1 => s_l17Dec_F fu (s_l17Dec_R fu n)
def s_l17Dec (fu : Nat) (n_ : Int) : Option ByteArray := s_l17Dec_R fu fu n_
def s_l6Digits_b1 (fu : Nat) (_i_1 : Nat) (x_3 : Int) : (ByteArray) → Option (Lo (ByteArray) (ByteArray))
  | out_2 => (s_l17Dec fu x_3).bind fun x14 => (cat out_2 x14).bind fun x16 => some (.cont x16)
def s_l6Digits (fu : Nat) (list : List Int) : Option (ByteArray) :=
  ((rangeL (s_l6Digits_b1 fu) list 0 (⟨#[]⟩ : ByteArray)) : Option (Jn (ByteArray) (ByteArray))).bind fun j => match j with | .nx out_2 => (some out_2) | .out t => some t
def s_l6Signed (fu : Nat) (n_ : Int) : Option (ByteArray) :=
  if decide (n_ < 0) then ((s_l17Dec fu (i64 (-n_))).bind fun x7 => (cat (⟨#[45]⟩ : ByteArray) x7).bind fun x9 => some x9) else ((s_l17Dec fu n_).bind fun x21 => some x21)
def s_l6Line_b1 (fu : Nat) (r_ : Rule) (i_6 : Nat) (x_10 : Int) : (ByteArray) → Option (Lo (ByteArray) (ByteArray))
  | out_7 => (cat out_7 (⟨#[32]⟩ : ByteArray)).bind fun x12 => (idx r_.coefs (i_6 : Int)).bind fun x13 => (s_l6Signed fu x13).bind fun x23 => (cat x12 x23).bind fun x25 => (cat x25 (⟨#[32]⟩ : ByteArray)).bind fun x26 => (s_l17Dec fu x_10).bind fun x36 => (cat x26 x36).bind fun x38 => some (.cont x38)
def s_l6Line_b2 (fu : Nat) (_i_146 : Nat) (x_148 : List Int) : (ByteArray) → Option (Lo (ByteArray) (ByteArray))
  | out_147 => (cat out_147 (⟨#[32]⟩ : ByteArray)).bind fun x150 => (s_l6Digits fu x_148).bind fun x160 => (cat x150 x160).bind fun x162 => some (.cont x162)
def s_l6Line (fu : Nat) (r_ : Rule) : Option (ByteArray) :=
  if (r_.kind == 1) then (((rangeL (s_l6Line_b1 fu r_) r_.vars 0 (⟨#[108, 105, 110, 101, 97, 114]⟩ : ByteArray)) : Option (Jn (ByteArray) (ByteArray))).bind fun j => match j with | .nx out_7 => ((cat out_7 (⟨#[32, 62, 61, 32]⟩ : ByteArray)).bind fun x84 => (s_l6Signed fu r_.bound).bind fun x90 => (cat x84 x90).bind fun x92 => (cat x92 (⟨#[10]⟩ : ByteArray)).bind fun x93 => some x93) | .out t => some t) else (if (r_.kind == 2) then ((s_l6Digits fu r_.vars).bind fun x106 => (cat (⟨#[100, 105, 102, 102, 101, 114, 101, 110, 116, 32]⟩ : ByteArray) x106).bind fun x108 => (cat x108 (⟨#[10]⟩ : ByteArray)).bind fun x109 => some x109) else (if (r_.kind == 4) then ((s_l6Digits fu r_.vars).bind fun x122 => (cat (⟨#[108, 101, 115, 115, 32]⟩ : ByteArray) x122).bind fun x124 => (cat x124 (⟨#[10]⟩ : ByteArray)).bind fun x125 => some x125) else ((s_l6Digits fu r_.vars).bind fun x137 => (cat (⟨#[116, 97, 98, 108, 101, 32]⟩ : ByteArray) x137).bind fun x139 => ((rangeL (s_l6Line_b2 fu) r_.rows 0 x139) : Option (Jn (ByteArray) (ByteArray))).bind fun j => match j with | .nx out_147 => ((cat out_147 (⟨#[10]⟩ : ByteArray)).bind fun x173 => some x173) | .out t => some t)))
def s_FormatModel_b1 (fu : Nat) (_i_34 : Nat) (x_36 : Rule) : (ByteArray) → Option (Lo (ByteArray) (ByteArray))
  | out_35 => (s_l6Line fu x_36).bind fun x47 => (cat out_35 x47).bind fun x49 => some (.cont x49)
def s_FormatModel (fu : Nat) (m : Model) : Option (ByteArray) :=
  (s_ModelValid fu m).bind fun x10 => if (!x10) then (some (⟨#[]⟩ : ByteArray)) else ((s_l6Digits fu m.sizes).bind fun x24 => (cat (⟨#[115, 105, 122, 101, 115, 32]⟩ : ByteArray) x24).bind fun x26 => (cat x26 (⟨#[10]⟩ : ByteArray)).bind fun x27 => ((rangeL (s_FormatModel_b1 fu) m.rules 0 x27) : Option (Jn (ByteArray) (ByteArray))).bind fun j => match j with | .nx out_35 => (some out_35) | .out t => some t)
def l_toIntS_b1 (i_8 : Nat) (x_10 : Int) : (List Int) → Option (Lo (List Int) (List Int))
  | out_9 => (idx out_9 (i_8 : Int)).bind fun x16 => some (.cont (out_9.set (Int.toNat (i_8 : Int)) x_10))
def l_toIntS (a : List Int) : Option (List Int) :=
  (mkN (a.length : Int) 0).bind fun x1 => ((rangeL l_toIntS_b1 a 0 x1) : Option (Jn (List Int) (List Int))).bind fun j => match j with | .nx out_9 => (some out_9) | .out t => some t
def l_toIntSS_b1 (i_8 : Nat) (x_10 : List Int) : (List (List Int)) → Option (Lo (List (List Int)) (List (List Int)))
  | out_9 => (l_toIntS x_10).bind fun x21 => (idx out_9 (i_8 : Int)).bind fun x24 => some (.cont (out_9.set (Int.toNat (i_8 : Int)) x21))
def l_toIntSS (a : List (List Int)) : Option (List (List Int)) :=
  (mkN (a.length : Int) ([])).bind fun x1 => ((rangeL l_toIntSS_b1 a 0 x1) : Option (Jn (List (List Int)) (List (List Int)))).bind fun j => match j with | .nx out_9 => (some out_9) | .out t => some t
def l_toRule (a : Rule) : Option (Rule) :=
  (l_toIntS a.vars).bind fun x20 => (l_toIntS a.coefs).bind fun x37 => (l_toIntSS a.rows).bind fun x56 => some ({ kind := a.kind, vars := x20, coefs := x37, bound := a.bound, rows := x56 } : Rule)
def l_toRuleS_b1 (i_8 : Nat) (x_10 : Rule) : (List Rule) → Option (Lo (List Rule) (List Rule))
  | out_9 => (l_toRule x_10).bind fun x21 => (idx out_9 (i_8 : Int)).bind fun x26 => some (.cont (out_9.set (Int.toNat (i_8 : Int)) x21))
def l_toRuleS (a : List Rule) : Option (List Rule) :=
  (mkN (a.length : Int) ({ kind := 0, vars := [], coefs := [], bound := 0, rows := [] } : Rule)).bind fun x1 => ((rangeL l_toRuleS_b1 a 0 x1) : Option (Jn (List Rule) (List Rule))).bind fun j => match j with | .nx out_9 => (some out_9) | .out t => some t
def l_toModel (a : Model) : Option (Model) :=
  (l_toIntS a.sizes).bind fun x18 => (l_toRuleS a.rules).bind fun x35 => some ({ sizes := x18, rules := x35 } : Model)
def l_eqIntS_b1 (b : List Int) (i_2 : Nat) (x_5 : Int) : (Unit) → Option (Lo (Unit) (Bool))
  | () => (idx b (i_2 : Int)).bind fun x11 => if (x_5 != x11) then (some (.out false)) else (some (.cont ()))
def l_eqIntS (a : List Int) (b : List Int) : Option (Bool) :=
  if ((a.length : Int) != (b.length : Int)) then (some false) else (((rangeL (l_eqIntS_b1 b) a 0 ()) : Option (Jn (Unit) (Bool))).bind fun j => match j with | .nx _ => (some true) | .out t => some t)
def l_eqIntSS_b1 (b : List (List Int)) (i_2 : Nat) (x_5 : List Int) : (Unit) → Option (Lo (Unit) (Bool))
  | () => (idx b (i_2 : Int)).bind fun x11 => (l_eqIntS x_5 x11).bind fun x21 => if (!x21) then (some (.out false)) else (some (.cont ()))
def l_eqIntSS (a : List (List Int)) (b : List (List Int)) : Option (Bool) :=
  if ((a.length : Int) != (b.length : Int)) then (some false) else (((rangeL (l_eqIntSS_b1 b) a 0 ()) : Option (Jn (Unit) (Bool))).bind fun j => match j with | .nx _ => (some true) | .out t => some t)
def l_eqRule (a : Rule) (b : Rule) : Option (Bool) :=
  if (a.kind != b.kind) then (some false) else ((l_eqIntS a.vars b.vars).bind fun x15 => if (!x15) then (some false) else ((l_eqIntS a.coefs b.coefs).bind fun x29 => if (!x29) then (some false) else (if (a.bound != b.bound) then (some false) else ((l_eqIntSS a.rows b.rows).bind fun x44 => if (!x44) then (some false) else (some true)))))
def l_eqRuleS_b1 (b : List Rule) (i_2 : Nat) (x_5 : Rule) : (Unit) → Option (Lo (Unit) (Bool))
  | () => (idx b (i_2 : Int)).bind fun x11 => (l_eqRule x_5 x11).bind fun x21 => if (!x21) then (some (.out false)) else (some (.cont ()))
def l_eqRuleS (a : List Rule) (b : List Rule) : Option (Bool) :=
  if ((a.length : Int) != (b.length : Int)) then (some false) else (((rangeL (l_eqRuleS_b1 b) a 0 ()) : Option (Jn (Unit) (Bool))).bind fun j => match j with | .nx _ => (some true) | .out t => some t)
def l_eqModel (a : Model) (b : Model) : Option (Bool) :=
  (l_eqIntS a.sizes b.sizes).bind fun x14 => if (!x14) then (some false) else ((l_eqRuleS a.rules b.rules).bind fun x28 => if (!x28) then (some false) else (some true))
def l_FnExactFormatModel (fu : Nat) (aM : Model) : Option (Bool) :=
  (l_szModel aM 1048576).bind fun x10 => if decide (x10 < 0) then (some true) else ((l_toModel aM).bind fun x24 => (s_FormatModel fu x24).bind fun x35 => (l_toModel aM).bind fun x58 => (i_FormatModel x58).bind fun x83 => if (!(ByteArray.toList x83 == ByteArray.toList x35)) then (some false) else ((l_toModel aM).bind fun x99 => (l_eqModel x58 x99).bind fun x112 => if (!x112) then (some false) else (some true)))
end Go.L

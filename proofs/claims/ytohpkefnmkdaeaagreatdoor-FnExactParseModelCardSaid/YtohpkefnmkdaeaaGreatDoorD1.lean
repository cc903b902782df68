/- Part of a proof by program: D1. -/
import Derived.Test.YtohpkefnmkdaeaaGreatDoorG15
namespace Go.L
open Go Go.E
set_option linter.unusedVariables false
def s_l6Vars_b2 (list : List Int) (x_8 : Int) (i_54 : Nat) : (Unit) → Option (Lo (Unit) (Lo (Unit) (Bool)))
  | () => (idx list (i_54 : Int)).bind fun x60 => if (x60 == x_8) then (some (.out (.out false))) else (some (.cont ()))
def s_l6Vars_b1 (m : Model) (list : List Int) (i_5 : Nat) (x_8 : Int) : (Unit) → Option (Lo (Unit) (Bool))
  | () => if ((decide (x_8 < 0)) || (decide (x_8 ≥ (m.sizes.length : Int)))) then (some (.out false)) else ((cntF 0 (i_5 : Int)).bind fun k58 => ((countL (s_l6Vars_b2 list x_8) k58 0 ()) : Option (Jn (Unit) (Lo (Unit) (Bool)))).bind fun j => match j with | .nx _ => (some (.cont ())) | .out t => some t)
def s_l6Vars (m : Model) (list : List Int) : Option (Bool) :=
  ((rangeL (s_l6Vars_b1 m list) list 0 ()) : Option (Jn (Unit) (Bool))).bind fun j => match j with | .nx _ => (some (decide ((list.length : Int) ≥ 1))) | .out t => some t
def s_l6Linear_b1 (_i_5 : Nat) (x_6 : Int) : (Unit) → Option (Lo (Unit) (Bool))
  | () => if (((decide (x_6 < (-9))) || (decide (x_6 > 9))) || (x_6 == 0)) then (some (.out false)) else (some (.cont ()))
def s_l6Linear (r_ : Rule) : Option (Bool) :=
  ((rangeL s_l6Linear_b1 r_.coefs 0 ()) : Option (Jn (Unit) (Bool))).bind fun j => match j with | .nx _ => (some ((((r_.coefs.length : Int) == (r_.vars.length : Int)) && (decide (r_.bound ≥ (-1000)))) && (decide (r_.bound ≤ 1000)))) | .out t => some t
def s_l6Table_b2 (x_8 : List Int) (i_27 : Nat) : (Unit) → Option (Lo (Unit) (Lo (Unit) (Bool)))
  | () => (idx x_8 (i_27 : Int)).bind fun x43 => if ((decide (x43 < 0)) || (decide (x43 > 3))) then (some (.out (.out false))) else (some (.cont ()))
def s_l6Table_b1 (r_ : Rule) (_i_5 : Nat) (x_8 : List Int) : (Unit) → Option (Lo (Unit) (Bool))
  | () => if ((x_8.length : Int) != (r_.vars.length : Int)) then (some (.out false)) else ((cntF 0 (x_8.length : Int)).bind fun k29 => ((countL (s_l6Table_b2 x_8) k29 0 ()) : Option (Jn (Unit) (Lo (Unit) (Bool)))).bind fun j => match j with | .nx _ => (some (.cont ())) | .out t => some t)
def s_l6Table (r_ : Rule) : Option (Bool) :=
  ((rangeL (s_l6Table_b1 r_) r_.rows 0 ()) : Option (Jn (Unit) (Bool))).bind fun j => match j with | .nx _ => (some (decide ((r_.rows.length : Int) ≤ 8))) | .out t => some t
def s_l6Rule (m : Model) (r_ : Rule) : Option (Bool) :=
  (s_l6Vars m r_.vars).bind fun x14 => if (((!x14) || ((r_.kind != 1) && (((r_.coefs.length : Int) != 0) || (r_.bound != 0)))) || ((r_.kind != 3) && ((r_.rows.length : Int) != 0))) then (some false) else (if (r_.kind == 1) then ((s_l6Linear r_).bind fun x41 => some x41) else (if (r_.kind == 2) then (some true) else (if (r_.kind == 3) then ((s_l6Table r_).bind fun x56 => some x56) else (if (r_.kind == 4) then (some ((r_.vars.length : Int) == 2)) else (some false)))))
def s_ModelValid_b1 (m : Model) : (Int × Int) → Option (Lo (Int × Int) (Bool))
  | (n_8, i_9) => if ((decide (i_9 < (m.sizes.length : Int))) && (decide (i_9 < 5))) then ((idx m.sizes i_9).bind fun x14 => if ((decide (x14 < 0)) || (decide (x14 > 3))) then (some (.out false)) else (some (.cont (i64 ((i64 (n_8 + x14)) + 1), i64 (i_9 + 1))))) else (some (.brk (n_8, i_9)))
def s_ModelValid_b2 (m : Model) (_i_51 : Nat) (x_54 : Rule) : (Unit) → Option (Lo (Unit) (Bool))
  | () => (s_l6Rule m x_54).bind fun x65 => if (!x65) then (some (.out false)) else (some (.cont ()))
def s_ModelValid (fu : Nat) (m : Model) : Option (Bool) :=
  ((whileL (s_ModelValid_b1 m) fu (0, 0)) : Option (Jn (Int × Int) (Bool))).bind fun j => match j with | .nx (n_8, i_9) => (if ((((decide ((m.sizes.length : Int) < 1)) || (decide ((m.sizes.length : Int) > 5))) || (decide (n_8 > 12))) || (decide ((m.rules.length : Int) > 8))) then (some false) else (((rangeL (s_ModelValid_b2 m) m.rules 0 ()) : Option (Jn (Unit) (Bool))).bind fun j => match j with | .nx _ => (some true) | .out t => some t)) | .out t => some t
def s_l17Dec_b1 : (Int × ByteArray) → Option (Lo (Int × ByteArray) (ByteArray))
  | (n_18, out_19) => if decide (n_18 > 9) then ((cat (bs [(u8w (i64 (48 + (Int.tmod n_18 10))))]) out_19).bind fun x25 => some (.cont (i64 (Int.tdiv n_18 10), x25))) else (some (.brk (n_18, out_19)))
def s_l17Dec_F (fu : Nat) (rec_ : Int → Option ByteArray) (n_ : Int) : Option (ByteArray) :=
  if decide (n_ < (-9223372036854775807)) then (some (⟨#[45, 57, 50, 50, 51, 51, 55, 50, 48, 51, 54, 56, 53, 52, 55, 55, 53, 56, 48, 56]⟩ : ByteArray)) else (if decide (n_ < 0) then ((rec_ (i64 (-n_))).bind fun x8 => (cat (⟨#[45]⟩ : ByteArray) x8).bind fun x10 => some x10) else (((whileL s_l17Dec_b1 fu (n_, (⟨#[]⟩ : ByteArray))) : Option (Jn (Int × ByteArray) (ByteArray))).bind fun j => match j with | .nx (n_18, out_19) => ((cat (bs [(u8w (i64 (48 + n_18)))]) out_19).bind fun x32 => some x32) | .out t => some t))
def s_l17Dec_R (fu : Nat) : Nat → Int → Option ByteArray
  | 0 => fun _ => none
  | n + 1 => s_l17Dec_F fu (s_l17Dec_R fu n)
def s_l17Dec (fu : Nat) (n_ : Int) : Option ByteArray := s_l17Dec_R fu fu n_
def s_l6Digits_b1 (fu : Nat) (_i_1 : Nat) (x_3 : Int) : (ByteArray) → Option (Lo (ByteArray) (ByteArray))
  | out_2 => (s_l17Dec fu x_3).bind fun x14 => (cat out_2 x14).bind fun x16 => some (.cont x16)
def s_l6Digits (fu : Nat) (list : List Int) : Option (ByteArray) :=
  ((rangeL (s_l6Digits_b1 fu) list 0 (⟨#[]⟩ : ByteArray)) : Option (Jn (ByteArray) (ByteArray))).bind fun j => match j with | .nx out_2 => (some out_2) | .out t => some t
def s_l6Signed (fu : Nat) (n_ : Int) : Option (ByteArray) :=
  if decide (n_ < 0) then ((s_l17Dec fu (i64 (-n_))).bind fun x7 => (cat (⟨#[45]⟩ : ByteArray) x7).bind fun x9 => some x9) else ((s_l17Dec fu n_).bind fun x21 => some x21)
def s_l6Line_b1 (fu : Nat) (r_ : Rule) (i_6 : Nat) (x_10 : Int) : (ByteArray) → Option (Lo (ByteArray) (ByteArray))
  | out_7 => (cat out_7 (⟨#[32]⟩ : ByteArray)).bind fun x12 => (idx r_.coefs (i_6 : Int)).bind fun x13 => (s_l6Signed fu x13).bind fun x23 => (cat x12 x23).bind fun x25 => (cat x25 (⟨#[32]⟩ : ByteArray)).bind fun x26 => (s_l17Dec fu x_10).bind fun x36 => (cat x26 x36).bind fun x38 => some (.cont x38)
def s_l6Line_b2 (fu : Nat) (_i_146 : Nat) (x_148 : List Int) : (ByteArray) → Option (Lo (ByteArray) (ByteArray))
  | out_147 => (cat out_147 (⟨#[32]⟩ : ByteArray)).bind fun x150 => (s_l6Digits fu x_148).bind fun x160 => (cat x150 x160).bind fun x162 => some (.cont x162)
def s_l6Line (fu : Nat) (r_ : Rule) : Option (ByteArray) :=
  if (r_.kind == 1) then (((rangeL (s_l6Line_b1 fu r_) r_.vars 0 (⟨#[108, 105, 110, 101, 97, 114]⟩ : ByteArray)) : Option (Jn (ByteArray) (ByteArray))).bind fun j => match j with | .nx out_7 => ((cat out_7 (⟨#[32, 62, 61, 32]⟩ : ByteArray)).bind fun x84 => (s_l6Signed fu r_.bound).bind fun x90 => (cat x84 x90).bind fun x92 => (cat x92 (⟨#[10]⟩ : ByteArray)).bind fun x93 => some x93) | .out t => some t) else (if (r_.kind == 2) then ((s_l6Digits fu r_.vars).bind fun x106 => (cat (⟨#[100, 105, 102, 102, 101, 114, 101, 110, 116, 32]⟩ : ByteArray) x106).bind fun x108 => (cat x108 (⟨#[10]⟩ : ByteArray)).bind fun x109 => some x109) else (if (r_.kind == 4) then ((s_l6Digits fu r_.vars).bind fun x122 => (cat (⟨#[108, 101, 115, 115, 32]⟩ : ByteArray) x122).bind fun x124 => (cat x124 (⟨#[10]⟩ : ByteArray)).bind fun x125 => some x125) else ((s_l6Digits fu r_.vars).bind fun x137 => (cat (⟨#[116, 97, 98, 108, 101, 32]⟩ : ByteArray) x137).bind fun x139 => ((rangeL (s_l6Line_b2 fu) r_.rows 0 x139) : Option (Jn (ByteArray) (ByteArray))).bind fun j => match j with | .nx out_147 => ((cat out_147 (⟨#[10]⟩ : ByteArray)).bind fun x173 => some x173) | .out t => some t)))
def s_FormatModel_b1 (fu : Nat) (_i_34 : Nat) (x_36 : Rule) : (ByteArray) → Option (Lo (ByteArray) (ByteArray))
  | out_35 => (s_l6Line fu x_36).bind fun x47 => (cat out_35 x47).bind fun x49 => some (.cont x49)
def s_FormatModel (fu : Nat) (m : Model) : Option (ByteArray) :=
  (s_ModelValid fu m).bind fun x10 => if (!x10) then (some (⟨#[]⟩ : ByteArray)) else ((s_l6Digits fu m.sizes).bind fun x24 => (cat (⟨#[115, 105, 122, 101, 115, 32]⟩ : ByteArray) x24).bind fun x26 => (cat x26 (⟨#[10]⟩ : ByteArray)).bind fun x27 => ((rangeL (s_FormatModel_b1 fu) m.rules 0 x27) : Option (Jn (ByteArray) (ByteArray))).bind fun j => match j with | .nx out_35 => (some out_35) | .out t => some t)
def s_l17Cut_b1 (s : ByteArray) (c : Int) (i_7 : Nat) : ((List ByteArray) × Int) → Option (Lo ((List ByteArray) × Int) (List ByteArray))
  | (out_8, from__10) => (if ((i_7 : Int) == (s.size : Int)) then some true else ((sidx s (i_7 : Int)).bind fun x14 => some ((x14.toNat : Int) == (c.toNat : Int)))).bind fun b15 => ((if b15 then ((ssl s from__10 (i_7 : Int)).bind fun x23 => (app out_8 ([x23])).bind fun x27 => some (x27, i64 ((i_7 : Int) + 1))) else (some (out_8, from__10))) : Option ((List ByteArray) × Int)).bind fun (out_18, from__20) => some (.cont (out_18, from__20))
def s_l17Cut (s : ByteArray) (c : Int) : Option (List ByteArray) :=
  (cntF 0 ((s.size : Int) + 1)).bind fun k12 => ((countL (s_l17Cut_b1 s c) k12 0 ([], 0)) : Option (Jn ((List ByteArray) × Int) (List ByteArray))).bind fun j => match j with | .nx (out_8, from__10) => (some out_8) | .out t => some t
def s_l6Numbers_b1 (s : ByteArray) (i_7 : Nat) : (List Int) → Option (Lo (List Int) (List Int))
  | out_8 => (sidx s (i_7 : Int)).bind fun x13 => ((if ((decide ((i64 ((i64 (x13.toNat : Int)) - 48)) < 0)) || (decide ((i64 ((i64 (x13.toNat : Int)) - 48)) > 9))) then (some (-1)) else (some (i64 ((i64 (x13.toNat : Int)) - 48)))) : Option (Int)).bind fun n_16 => (app out_8 ([n_16])).bind fun x22 => some (.cont x22)
def s_l6Numbers (s : ByteArray) : Option (List Int) :=
  (cntF 0 (s.size : Int)).bind fun k11 => ((countL (s_l6Numbers_b1 s) k11 0 ([])) : Option (Jn (List Int) (List Int))).bind fun j => match j with | .nx out_8 => (some out_8) | .out t => some t
def s_l17Num_b1 (s_5 : ByteArray) (i_20 : Nat) : (Int) → Option (Lo (Int) (Int × Bool))
  | n_21 => (sidx s_5 (i_20 : Int)).bind fun x25 => if ((decide ((x25.toNat : Int) < 48)) || (decide ((x25.toNat : Int) > 57))) then (some (.out (0, false))) else (some (.cont (i64 ((i64 (n_21 * 10)) + (i64 (IntKind.u8.wrap ((x25.toNat : Int) - 48)))))))
def s_l17Num (s : ByteArray) : Option (Int × Bool) :=
  (if decide ((s.size : Int) > 0) then ((sidx s 0).bind fun x1 => some ((x1.toNat : Int) == 45)) else some false).bind fun b2 => ((if b2 then ((ssl s 1 (s.size : Int)).bind fun x8 => some x8) else (some s)) : Option (ByteArray)).bind fun s_5 => (if (((s_5.size : Int) == 0) || (decide ((s_5.size : Int) > 17))) then some true else ((sidx s_5 0).bind fun x9 => some (((x9.toNat : Int) == 48) && ((decide ((s_5.size : Int) > 1)) || b2)))).bind fun b10 => if b10 then (some (0, false)) else ((cntF 0 (s_5.size : Int)).bind fun k23 => ((countL (s_l17Num_b1 s_5) k23 0 0) : Option (Jn (Int) (Int × Bool))).bind fun j => match j with | .nx n_21 => (((if b2 then (some (i64 (-n_21))) else (some n_21)) : Option (Int)).bind fun n_29 => some (n_29, true)) | .out t => some t)
def s_l6Read (s : ByteArray) : Option (Int) :=
  (if decide ((s.size : Int) > 0) then ((sidx s 0).bind fun x1 => some ((x1.toNat : Int) == 45)) else some false).bind fun b2 => if b2 then ((ssl s 1 (s.size : Int)).bind fun x6 => (s_l17Num x6).bind fun x12 => some (i64 (-x12.1))) else ((s_l17Num s).bind fun x25 => some x25.1)
def s_l6Parse_b1 (x10 : List ByteArray) : (Int × (List Int) × (List Int)) → Option (Lo (Int × (List Int) × (List Int)) (Rule))
  | (i_39, g23_1_40, g23_2_42) => if ((decide ((i64 (i_39 + 3)) < (x10.length : Int))) && (decide (i_39 < 10))) then ((idx x10 i_39).bind fun x52 => (s_l6Read x52).bind fun x62 => (app g23_2_42 ([x62])).bind fun x67 => (idx x10 (i64 (i_39 + 1))).bind fun x102 => (s_l17Num x102).bind fun x110 => (app g23_1_40 ([x110.1])).bind fun x123 => some (.cont (i64 (i_39 + 2), x123, x67))) else (some (.brk (i_39, g23_1_40, g23_2_42)))
def s_l6Parse_b2 (x10 : List ByteArray) : (Int × (List (List Int))) → Option (Lo (Int × (List (List Int))) (Int × (List (List Int))))
  | (i_193, g23_4_194) => if ((decide (i_193 < (x10.length : Int))) && (decide (i_193 < 11))) then ((idx x10 i_193).bind fun x203 => (s_l6Numbers x203).bind fun x213 => (app g23_4_194 ([x213])).bind fun x219 => some (.cont (i64 (i_193 + 1), x219))) else (some (.brk (i_193, g23_4_194)))
def s_l6Parse (fu : Nat) (line : ByteArray) : Option (Rule) :=
  (s_l17Cut line 32).bind fun x10 => (idx x10 0).bind fun x26 => if (ByteArray.toList x26 == ByteArray.toList (⟨#[108, 105, 110, 101, 97, 114]⟩ : ByteArray)) then (((whileL (s_l6Parse_b1 x10) fu (1, [], [])) : Option (Jn (Int × (List Int) × (List Int)) (Rule))).bind fun j => match j with | .nx (i_39, g23_1_40, g23_2_42) => ((idx x10 (i64 ((x10.length : Int) - 1))).bind fun x135 => (s_l6Read x135).bind fun x145 => some ({ kind := 1, vars := g23_1_40, coefs := g23_2_42, bound := x145, rows := [] } : Rule)) | .out t => some t) else (((if (ByteArray.toList x26 == ByteArray.toList (⟨#[100, 105, 102, 102, 101, 114, 101, 110, 116]⟩ : ByteArray)) then (some (2, [])) else (((if (ByteArray.toList x26 == ByteArray.toList (⟨#[108, 101, 115, 115]⟩ : ByteArray)) then (some (4, [])) else (((if (ByteArray.toList x26 == ByteArray.toList (⟨#[116, 97, 98, 108, 101]⟩ : ByteArray)) then (((whileL (s_l6Parse_b2 x10) fu (2, [])) : Option (Jn (Int × (List (List Int))) (Int × (List (List Int))))).bind fun j => match j with | .nx (i_193, g23_4_194) => (some (3, g23_4_194)) | .out t => some t) else (some (0, []))) : Option (Int × (List (List Int)))).bind fun (g23_0_182, g23_4_183) => some (g23_0_182, g23_4_183))) : Option (Int × (List (List Int)))).bind fun (g23_0_172, g23_4_173) => some (g23_0_172, g23_4_173))) : Option (Int × (List (List Int)))).bind fun (g23_0_162, g23_4_163) => ((if decide ((x10.length : Int) > 1) then ((idx x10 1).bind fun x262 => (s_l6Numbers x262).bind fun x272 => some x272) else (some ([]))) : Option (List Int)).bind fun g23_1_258 => some ({ kind := g23_0_162, vars := g23_1_258, coefs := [], bound := 0, rows := g23_4_163 } : Rule))
def s_ParseModel_b1 (fu : Nat) (x10 : List ByteArray) : (Int × (List Rule)) → Option (Lo (Int × (List Rule)) (Model × Bool))
  | (i_97, g92_1_98) => if decide ((i64 (i_97 + 1)) < (x10.length : Int)) then ((idx x10 i_97).bind fun x105 => (s_l6Parse fu x105).bind fun x115 => (app g92_1_98 ([x115])).bind fun x123 => some (.cont (i64 (i_97 + 1), x123))) else (some (.brk (i_97, g92_1_98)))
def s_ParseModel (fu : Nat) (text : ByteArray) : Option (Model × Bool) :=
  (s_l17Cut text 10).bind fun x10 => (if ((decide ((x10.length : Int) < 2)) || (decide ((x10.length : Int) > 10))) then some true else ((idx x10 0).bind fun x20 => some (decide ((x20.size : Int) < 7)))).bind fun b25 => (if b25 then some true else ((idx x10 0).bind fun x26 => (ssl x26 0 6).bind fun x29 => some (!(ByteArray.toList x29 == ByteArray.toList (⟨#[115, 105, 122, 101, 115, 32]⟩ : ByteArray))))).bind fun b30 => if b30 then (some (({ sizes := [], rules := [] } : Model), false)) else ((idx x10 0).bind fun x64 => (ssl x64 6 (x64.size : Int)).bind fun x69 => (s_l6Numbers x69).bind fun x75 => ((whileL (s_ParseModel_b1 fu x10) fu (1, [])) : Option (Jn (Int × (List Rule)) (Model × Bool))).bind fun j => match j with | .nx (i_97, g92_1_98) => ((s_FormatModel fu ({ sizes := x75, rules := g92_1_98 } : Model)).bind fun x172 => if (!(ByteArray.toList x172 == ByteArray.toList text)) then (some (({ sizes := [], rules := [] } : Model), false)) else (some (({ sizes := x75, rules := g92_1_98 } : Model), true))) | .out t => some t)
def i_within (n_ : Int) (low : Int) (high : Int) : Option (Bool) :=
  some ((decide (low ≤ n_)) && (decide (n_ ≤ high)))
def slices_IndexFunc_implRule_b1 (f_ : (Rule → Option Bool)) (i_1 : Nat) (x_2 : Rule) : (Unit) → Option (Lo (Unit) (Int))
  | () => (f_ x_2).bind fun x8 => if x8 then (some (.out (i_1 : Int))) else (some (.cont ()))
def slices_IndexFunc_implRule (s : List Rule) (f_ : (Rule → Option Bool)) : Option (Int) :=
  ((rangeL (slices_IndexFunc_implRule_b1 f_) s 0 ()) : Option (Jn (Unit) (Int))).bind fun j => match j with | .nx _ => (some (-1)) | .out t => some t
def slices_ContainsFunc_implRule (s : List Rule) (f_ : (Rule → Option Bool)) : Option (Bool) :=
  (slices_IndexFunc_implRule s f_).bind fun x6 => some (decide (x6 ≥ 0))
def slices_Index_int_b1 (v_ : Int) (i_1 : Nat) (x_2 : Int) : (Unit) → Option (Lo (Unit) (Int))
  | () => if (v_ == x_2) then (some (.out (i_1 : Int))) else (some (.cont ()))
def slices_Index_int (s : List Int) (v_ : Int) : Option (Int) :=
  ((rangeL (slices_Index_int_b1 v_) s 0 ()) : Option (Jn (Unit) (Int))).bind fun j => match j with | .nx _ => (some (-1)) | .out t => some t
def slices_Contains_int (s : List Int) (v_ : Int) : Option (Bool) :=
  (slices_Index_int s v_).bind fun x6 => some (decide (x6 ≥ 0))
def slices_IndexFunc_int_b1 (f_ : (Int → Option Bool)) (i_1 : Nat) (x_2 : Int) : (Unit) → Option (Lo (Unit) (Int))
  | () => (f_ x_2).bind fun x8 => if x8 then (some (.out (i_1 : Int))) else (some (.cont ()))
def slices_IndexFunc_int (s : List Int) (f_ : (Int → Option Bool)) : Option (Int) :=
  ((rangeL (slices_IndexFunc_int_b1 f_) s 0 ()) : Option (Jn (Unit) (Int))).bind fun j => match j with | .nx _ => (some (-1)) | .out t => some t
def slices_ContainsFunc_int (s : List Int) (f_ : (Int → Option Bool)) : Option (Bool) :=
  (slices_IndexFunc_int s f_).bind fun x6 => some (decide (x6 ≥ 0))
def i_ruleValid_1 (n_ : Int) : Option (Bool) :=
  (if (n_ == 0) then some true else ((i_within n_ (-9) 9).bind fun x6 => some (!x6))).bind fun b8 => some b8
def slices_IndexFunc_Sint_b1 (f_ : ((List Int) → Option Bool)) (i_1 : Nat) (x_2 : List Int) : (Unit) → Option (Lo (Unit) (Int))
  | () => (f_ x_2).bind fun x8 => if x8 then (some (.out (i_1 : Int))) else (some (.cont ()))
def slices_IndexFunc_Sint (s : List (List Int)) (f_ : ((List Int) → Option Bool)) : Option (Int) :=
  ((rangeL (slices_IndexFunc_Sint_b1 f_) s 0 ()) : Option (Jn (Unit) (Int))).bind fun j => match j with | .nx _ => (some (-1)) | .out t => some t
def slices_ContainsFunc_Sint (s : List (List Int)) (f_ : ((List Int) → Option Bool)) : Option (Bool) :=
  (slices_IndexFunc_Sint s f_).bind fun x6 => some (decide (x6 ≥ 0))
def i_ruleValid_2_1 (n_ : Int) : Option (Bool) :=
  (i_within n_ 0 3).bind fun x6 => some (!x6)
def i_ruleValid_2 (c1 : Rule) (row : List Int) : Option (Bool) :=
  (if ((row.length : Int) != (c1.vars.length : Int)) then some true else ((slices_ContainsFunc_int row i_ruleValid_2_1).bind fun x6 => some x6)).bind fun b8 => some b8
def i_ruleValid_b1 (r_ : Rule) (cells : Int) (i_5 : Nat) (x_6 : Int) : (Unit) → Option (Lo (Unit) (Bool))
  | () => (i_within x_6 0 (i64 (cells - 1))).bind fun x21 => (if (!x21) then some true else ((sl r_.vars 0 (i_5 : Int)).bind fun x23 => (slices_Contains_int x23 x_6).bind fun x31 => some x31)).bind fun b33 => if b33 then (some (.out false)) else (some (.cont ()))
def i_ruleValid (r_ : Rule) (cells : Int) : Option (Bool) :=
  ((rangeL (i_ruleValid_b1 r_ cells) r_.vars 0 ()) : Option (Jn (Unit) (Bool))).bind fun j => match j with | .nx _ => (if ((((r_.vars.length : Int) == 0) || ((r_.kind != 1) && ((decide ((r_.coefs.length : Int) > 0)) || (r_.bound != 0)))) || ((r_.kind != 3) && (decide ((r_.rows.length : Int) > 0)))) then (some false) else (if (r_.kind == 1) then ((if ((r_.coefs.length : Int) == (r_.vars.length : Int)) then ((i_within r_.bound (-1000) 1000).bind fun x70 => some x70) else some false).bind fun b72 => (if b72 then ((slices_ContainsFunc_int r_.coefs i_ruleValid_1).bind fun x78 => some (!x78)) else some false).bind fun b80 => some b80) else (if (r_.kind == 3) then ((if decide ((r_.rows.length : Int) ≤ 8) then ((slices_ContainsFunc_Sint r_.rows (i_ruleValid_2 r_)).bind fun x111 => some (!x111)) else some false).bind fun b113 => some b113) else (if (r_.kind == 4) then (some ((r_.vars.length : Int) == 2)) else (some (r_.kind == 2)))))) | .out t => some t
def i_ModelValid_1 (c1 : Model) (r_ : Rule) : Option (Bool) :=
  (i_ruleValid r_ (c1.sizes.length : Int)).bind fun x10 => some (!x10)
def i_ModelValid_b1 (_i_21 : Nat) (x_23 : Int) : (Int) → Option (Lo (Int) (Bool))
  | count_22 => (i_within x_23 0 3).bind fun x38 => if (!x38) then (some (.out false)) else (some (.cont (i64 (count_22 + (i64 (x_23 + 1))))))
def i_ModelValid (m : Model) : Option (Bool) :=
  (i_within (m.sizes.length : Int) 1 5).bind fun x10 => if ((!x10) || (decide ((m.rules.length : Int) > 8))) then (some false) else (((rangeL i_ModelValid_b1 m.sizes 0 0) : Option (Jn (Int) (Bool))).bind fun j => match j with | .nx count_22 => ((if decide (count_22 ≤ 12) then ((slices_ContainsFunc_implRule m.rules (i_ModelValid_1 m)).bind fun x52 => some (!x52)) else some false).bind fun b54 => some b54) | .out t => some t)
def i_linesOf (text : ByteArray) (most : Int) : Option ((List ByteArray) × Bool) :=
  (strings_Split text (⟨#[10]⟩ : ByteArray)).bind fun x6 => (sl x6 0 (i64 ((x6.length : Int) - 1))).bind fun x19 => (idx x6 (i64 ((x6.length : Int) - 1))).bind fun x22 => some (x19, ((ByteArray.toList x22 == ByteArray.toList (⟨#[]⟩ : ByteArray)) && (decide ((i64 ((x6.length : Int) - 1)) ≤ most))))
def i_readDigits_b1 (s : ByteArray) (i_1 : Nat) : (List Int) → Option (Lo (List Int) (List Int))
  | out_2 => (sidx s (i_1 : Int)).bind fun x8 => (app out_2 ([i64 ((i64 (x8.toNat : Int)) - 48)])).bind fun x12 => some (.cont x12)
def i_readDigits (s : ByteArray) : Option (List Int) :=
  (cntF 0 (s.size : Int)).bind fun k5 => ((countL (i_readDigits_b1 s) k5 0 ([])) : Option (Jn (List Int) (List Int))).bind fun j => match j with | .nx out_2 => (some out_2) | .out t => some t
def slices_Index_string_b1 (v_ : ByteArray) (i_1 : Nat) (x_2 : ByteArray) : (Unit) → Option (Lo (Unit) (Int))
  | () => if (ByteArray.toList v_ == ByteArray.toList x_2) then (some (.out (i_1 : Int))) else (some (.cont ()))
def slices_Index_string (s : List ByteArray) (v_ : ByteArray) : Option (Int) :=
  ((rangeL (slices_Index_string_b1 v_) s 0 ()) : Option (Jn (Unit) (Int))).bind fun j => match j with | .nx _ => (some (-1)) | .out t => some t
def i_ruleWords : Option (List ByteArray) :=
  some ([(⟨#[]⟩ : ByteArray), (⟨#[108, 105, 110, 101, 97, 114]⟩ : ByteArray), (⟨#[100, 105, 102, 102, 101, 114, 101, 110, 116]⟩ : ByteArray), (⟨#[116, 97, 98, 108, 101]⟩ : ByteArray), (⟨#[108, 101, 115, 115]⟩ : ByteArray)])
def i_number (s : ByteArray) : Option (Int) :=
  (strconv_Atoi s).bind fun x6 => if x6.2 then (some 0) else (some x6.1)
def i_readRule_b1 (x10 : List ByteArray) : (Int × (List Int) × (List Int)) → Option (Lo (Int × (List Int) × (List Int)) (Rule))
  | (i_88, g84_1_89, g84_2_91) => (if decide ((i64 (i_88 + 1)) < (x10.length : Int)) then ((idx x10 i_88).bind fun x98 => some (!(ByteArray.toList x98 == ByteArray.toList (⟨#[62, 61]⟩ : ByteArray)))) else some false).bind fun b103 => if b103 then ((idx x10 i_88).bind fun x111 => (i_number x111).bind fun x121 => (app g84_2_91 ([x121])).bind fun x126 => (idx x10 (i64 (i_88 + 1))).bind fun x130 => (i_number x130).bind fun x138 => (app g84_1_89 ([x138])).bind fun x143 => some (.cont (i64 (i_88 + 2), x143, x126))) else (some (.brk (i_88, g84_1_89, g84_2_91)))
def i_readRule_b2 (_i_282 : Nat) (x_287 : ByteArray) : (List (List Int)) → Option (Lo (List (List Int)) ((List Int) × (List (List Int))))
  | g84_4_283 => (i_readDigits x_287).bind fun x303 => (app g84_4_283 ([x303])).bind fun x309 => some (.cont x309)
def i_readRule (fu : Nat) (line : ByteArray) : Option (Rule) :=
  (strings_Split line (⟨#[32]⟩ : ByteArray)).bind fun x10 => (i_ruleWords).bind fun x25 => (idx x10 0).bind fun x28 => (slices_Index_string x25 x28).bind fun x39 => if ((max 0 x39) == 1) then (((whileL (i_readRule_b1 x10) fu (1, [], [])) : Option (Jn (Int × (List Int) × (List Int)) (Rule))).bind fun j => match j with | .nx (i_88, g84_1_89, g84_2_91) => ((idx x10 (i64 ((x10.length : Int) - 1))).bind fun x214 => (i_number x214).bind fun x224 => some ({ kind := max 0 x39, vars := g84_1_89, coefs := g84_2_91, bound := x224, rows := [] } : Rule)) | .out t => some t) else (((if decide ((x10.length : Int) > 1) then ((idx x10 1).bind fun x249 => (i_readDigits x249).bind fun x257 => (sl x10 2 (x10.length : Int)).bind fun x271 => ((rangeL i_readRule_b2 x271 0 ([])) : Option (Jn (List (List Int)) ((List Int) × (List (List Int))))).bind fun j => match j with | .nx g84_4_283 => (some (x257, g84_4_283)) | .out t => some t) else (some ([], []))) : Option ((List Int) × (List (List Int)))).bind fun (g84_1_241, g84_4_243) => some ({ kind := max 0 x39, vars := g84_1_241, coefs := [], bound := 0, rows := g84_4_243 } : Rule))
def i_digits_b1 (_i_1 : Nat) (x_3 : Int) : (ByteArray) → Option (Lo (ByteArray) (ByteArray))
  | out_2 => (strconv_Itoa x_3).bind fun x18 => (cat out_2 x18).bind fun x20 => some (.cont x20)
def i_digits (list : List Int) : Option (ByteArray) :=
  ((rangeL i_digits_b1 list 0 (⟨#[]⟩ : ByteArray)) : Option (Jn (ByteArray) (ByteArray))).bind fun j => match j with | .nx out_2 => (some out_2) | .out t => some t
def i_Rule_text_b1 (r_ : Rule) (i_39 : Nat) (x_41 : Int) : (ByteArray) → Option (Lo (ByteArray) (ByteArray))
  | out_40 => (idx r_.coefs (i_39 : Int)).bind fun x51 => (strconv_Itoa x51).bind fun x61 => (cat (⟨#[32]⟩ : ByteArray) x61).bind fun x63 => (cat x63 (⟨#[32]⟩ : ByteArray)).bind fun x64 => (strconv_Itoa x_41).bind fun x70 => (cat x64 x70).bind fun x72 => (cat out_40 x72).bind fun x73 => some (.cont x73)
def i_Rule_text_b2 (_i_120 : Nat) (x_122 : List Int) : (ByteArray) → Option (Lo (ByteArray) (ByteArray))
  | out_121 => (i_digits x_122).bind fun x137 => (cat (⟨#[32]⟩ : ByteArray) x137).bind fun x139 => (cat out_121 x139).bind fun x140 => some (.cont x140)
def i_Rule_text (r_ : Rule) : Option (ByteArray) :=
  (i_ruleWords).bind fun x10 => (idx x10 r_.kind).bind fun x13 => if (r_.kind == 1) then (((rangeL (i_Rule_text_b1 r_) r_.vars 0 x13) : Option (Jn (ByteArray) (ByteArray))).bind fun j => match j with | .nx out_40 => ((cat out_40 (⟨#[32, 62, 61, 32]⟩ : ByteArray)).bind fun x90 => (strconv_Itoa r_.bound).bind fun x96 => (cat x90 x96).bind fun x98 => some x98) | .out t => some t) else ((i_digits r_.vars).bind fun x110 => (cat (⟨#[32]⟩ : ByteArray) x110).bind fun x112 => (cat x13 x112).bind fun x113 => ((rangeL i_Rule_text_b2 r_.rows 0 x113) : Option (Jn (ByteArray) (ByteArray))).bind fun j => match j with | .nx out_121 => (some out_121) | .out t => some t)
def i_formatModel_b1 (_i_20 : Nat) (x_22 : Rule) : (ByteArray) → Option (Lo (ByteArray) (ByteArray))
  | out_21 => (i_Rule_text x_22).bind fun x43 => (cat x43 (⟨#[10]⟩ : ByteArray)).bind fun x45 => (cat out_21 x45).bind fun x46 => some (.cont x46)
def i_formatModel (m : Model) : Option (ByteArray) :=
  (i_digits m.sizes).bind fun x10 => (cat (⟨#[115, 105, 122, 101, 115, 32]⟩ : ByteArray) x10).bind fun x12 => (cat x12 (⟨#[10]⟩ : ByteArray)).bind fun x13 => ((rangeL i_formatModel_b1 m.rules 0 x13) : Option (Jn (ByteArray) (ByteArray))).bind fun j => match j with | .nx out_21 => (some out_21) | .out t => some t
def i_ParseModel_b1 (fu : Nat) (_i_68 : Nat) (x_73 : ByteArray) : (List Rule) → Option (Lo (List Rule) (Model × Bool))
  | g60_1_69 => (i_readRule fu x_73).bind fun x89 => (app g60_1_69 ([x89])).bind fun x97 => some (.cont x97)
def i_ParseModel (fu : Nat) (text : ByteArray) : Option (Model × Bool) :=
  (i_linesOf text 9).bind fun x5 => if ((!x5.2) || ((x5.1.length : Int) == 0)) then (some (({ sizes := [], rules := [] } : Model), false)) else ((idx x5.1 0).bind fun x15 => (strings_CutPrefix x15 (⟨#[115, 105, 122, 101, 115, 32]⟩ : ByteArray)).bind fun x25 => if (!x25.2) then (some (({ sizes := [], rules := [] } : Model), false)) else ((i_readDigits x25.1).bind fun x47 => (sl x5.1 1 (x5.1.length : Int)).bind fun x63 => ((rangeL (i_ParseModel_b1 fu) x63 0 ([])) : Option (Jn (List Rule) (Model × Bool))).bind fun j => match j with | .nx g60_1_69 => ((i_ModelValid ({ sizes := x47, rules := g60_1_69 } : Model)).bind fun x140 => (if (!x140) then some true else ((i_formatModel ({ sizes := x47, rules := g60_1_69 } : Model)).bind fun x149 => some (!(ByteArray.toList x149 == ByteArray.toList text)))).bind fun b151 => if b151 then (some (({ sizes := [], rules := [] } : Model), false)) else (some (({ sizes := x47, rules := g60_1_69 } : Model), true))) | .out t => some t))
def l_eqIntS_b1 (b : List Int) (i_2 : Nat) (x_5 : Int) : (Unit) → Option (Lo (Unit) (Bool))
  | () => (idx b (i_2 : Int)).bind fun x11 => if (x_5 != x11) then (some (.out false)) else (some (.cont ()))
def l_eqIntS (a : List Int) (b : List Int) : Option (Bool) :=
  if ((a.length : Int) != (b.length : Int)) then (some false) else (((rangeL (l_eqIntS_b1 b) a 0 ()) : Option (Jn (Unit) (Bool))).bind fun j => match j with | .nx _ => (some true) | .out t => some t)
def l_eqIntSS_b1 (b : List (List Int)) (i_2 : Nat) (x_5 : List Int) : (Unit) → Option (Lo (Unit) (Bool))
  | () => (idx b (i_2 : Int)).bind fun x11 => (l_eqIntS x_5 x11).bind fun x21 => if (!x21) then (some (.out false)) else (some (.cont ()))
def l_eqIntSS (a : List (List Int)) (b : List (List Int)) : Option (Bool) :=
  if ((a.length : Int) != (b.length : Int)) then (some false) else (((rangeL (l_eqIntSS_b1 b) a 0 ()) : Option (Jn (Unit) (Bool))).bind fun j => match j with | .nx _ => (some true) | .out t => some t)
def l_eqRule (a : Rule) (b : Rule) : Option (Bool) :=
  if (a.kind != b.kind) then (some false) else ((l_eqIntS a.vars b.vars).bind fun x15 => if (!x15) then (some false) else ((l_eqIntS a.coefs b.coefs).bind fun x29 => if (!x29) then (some false) else (if (a.bound != b.bound) then (some false) else ((l_eqIntSS a.rows b.rows).bind fun x44 => if (!x44) then (some false) else (some true)))))
def l_eqRuleS_b1 (b : List Rule) (i_2 : Nat) (x_5 : Rule) : (Unit) → Option (Lo (Unit) (Bool))
  | () => (idx b (i_2 : Int)).bind fun x11 => (l_eqRule x_5 x11).bind fun x21 => if (!x21) then (some (.out false)) else (some (.cont ()))
def l_eqRuleS (a : List Rule) (b : List Rule) : Option (Bool) :=
  if ((a.length : Int) != (b.length : Int)) then (some false) else (((rangeL (l_eqRuleS_b1 b) a 0 ()) : Option (Jn (Unit) (Bool))).bind fun j => match j with | .nx _ => (some true) | .out t => some t)
def l_eqModel (a : Model) (b : Model) : Option (Bool) :=
  (l_eqIntS a.sizes b.sizes).bind fun x14 => if (!x14) then (some false) else ((l_eqRuleS a.rules b.rules).bind fun x28 => if (!x28) then (some false) else (some true))
def l_markIntS_b1 : ((List Int) × Int × Int) → Option (Lo ((List Int) × Int × Int) (Int × (List Int)))
  | (a_5, k_6, i_7) => if decide (i_7 < (a_5.length : Int)) then ((idx a_5 i_7).bind fun x10 => some (.cont ((a_5.set (Int.toNat i_7) k_6), i64 (k_6 + 1), i64 (i_7 + 1)))) else (some (.brk (a_5, k_6, i_7)))
def l_markIntS (fu : Nat) (a : List Int) (k : Int) : Option (Int × (List Int)) :=
  ((whileL l_markIntS_b1 fu (a, k, 0)) : Option (Jn ((List Int) × Int × Int) (Int × (List Int)))).bind fun j => match j with | .nx (a_5, k_6, i_7) => (some (k_6, a_5)) | .out t => some t
def l_markIntSS_b1 (fu : Nat) : ((List (List Int)) × Int × Int) → Option (Lo ((List (List Int)) × Int × Int) (Int × (List (List Int))))
  | (a_5, k_6, i_7) => if decide (i_7 < (a_5.length : Int)) then ((idx a_5 i_7).bind fun x10 => (l_markIntS fu x10 k_6).bind fun x20 => some (.cont ((a_5.set (Int.toNat i_7) x20.2), x20.1, i64 (i_7 + 1)))) else (some (.brk (a_5, k_6, i_7)))
def l_markIntSS (fu : Nat) (a : List (List Int)) (k : Int) : Option (Int × (List (List Int))) :=
  ((whileL (l_markIntSS_b1 fu) fu (a, k, 0)) : Option (Jn ((List (List Int)) × Int × Int) (Int × (List (List Int))))).bind fun j => match j with | .nx (a_5, k_6, i_7) => (some (k_6, a_5)) | .out t => some t
def l_markRuleS_b1 (fu : Nat) : ((List Rule) × Int × Int) → Option (Lo ((List Rule) × Int × Int) (Int × (List Rule)))
  | (a_5, k_6, i_7) => if decide (i_7 < (a_5.length : Int)) then ((idx a_5 i_7).bind fun x10 => (idx (a_5.set (Int.toNat i_7) ({ x10 with kind := k_6 })) i_7).bind fun x17 => (l_markIntS fu x17.vars (i64 (k_6 + 1))).bind fun x27 => (idx ((a_5.set (Int.toNat i_7) ({ x10 with kind := k_6 })).set (Int.toNat i_7) ({ kind := x17.kind, vars := x27.2, coefs := x17.coefs, bound := x17.bound, rows := x17.rows } : Rule)) i_7).bind fun x39 => (l_markIntS fu x39.coefs x27.1).bind fun x49 => (idx (((a_5.set (Int.toNat i_7) ({ x10 with kind := k_6 })).set (Int.toNat i_7) ({ kind := x17.kind, vars := x27.2, coefs := x17.coefs, bound := x17.bound, rows := x17.rows } : Rule)).set (Int.toNat i_7) ({ kind := x39.kind, vars := x39.vars, coefs := x49.2, bound := x39.bound, rows := x39.rows } : Rule)) i_7).bind fun x61 => (idx ((((a_5.set (Int.toNat i_7) ({ x10 with kind := k_6 })).set (Int.toNat i_7) ({ kind := x17.kind, vars := x27.2, coefs := x17.coefs, bound := x17.bound, rows := x17.rows } : Rule)).set (Int.toNat i_7) ({ kind := x39.kind, vars := x39.vars, coefs := x49.2, bound := x39.bound, rows := x39.rows } : Rule)).set (Int.toNat i_7) ({ x61 with bound := x49.1 })) i_7).bind fun x64 => (l_markIntSS fu x64.rows (i64 (x49.1 + 1))).bind fun x74 => some (.cont ((((((a_5.set (Int.toNat i_7) ({ x10 with kind := k_6 })).set (Int.toNat i_7) ({ kind := x17.kind, vars := x27.2, coefs := x17.coefs, bound := x17.bound, rows := x17.rows } : Rule)).set (Int.toNat i_7) ({ kind := x39.kind, vars := x39.vars, coefs := x49.2, bound := x39.bound, rows := x39.rows } : Rule)).set (Int.toNat i_7) ({ x61 with bound := x49.1 })).set (Int.toNat i_7) ({ kind := x64.kind, vars := x64.vars, coefs := x64.coefs, bound := x64.bound, rows := x74.2 } : Rule)), x74.1, i64 (i_7 + 1)))) else (some (.brk (a_5, k_6, i_7)))
def l_markRuleS (fu : Nat) (a : List Rule) (k : Int) : Option (Int × (List Rule)) :=
  ((whileL (l_markRuleS_b1 fu) fu (a, k, 0)) : Option (Jn ((List Rule) × Int × Int) (Int × (List Rule)))).bind fun j => match j with | .nx (a_5, k_6, i_7) => (some (k_6, a_5)) | .out t => some t
def l_markModel (fu : Nat) (a : Model) (k : Int) : Option (Int × Model) :=
  (l_markIntS fu a.sizes k).bind fun x10 => (l_markRuleS fu a.rules x10.1).bind fun x23 => some (x23.1, ({ sizes := x10.2, rules := x23.2 } : Model))
def l_heldIntS_b1 (_i_1 : Nat) (x_3 : Int) : (Int) → Option (Lo (Int) (Int))
  | k_2 => if (x_3 != k_2) then (some (.out (-1))) else (some (.cont (i64 (k_2 + 1))))
def l_heldIntS (a : List Int) (k : Int) : Option (Int) :=
  ((rangeL l_heldIntS_b1 a 0 k) : Option (Jn (Int) (Int))).bind fun j => match j with | .nx k_2 => (some k_2) | .out t => some t
def l_heldIntSS_b1 (_i_1 : Nat) (x_3 : List Int) : (Int) → Option (Lo (Int) (Int))
  | k_2 => (l_heldIntS x_3 k_2).bind fun x14 => if decide (x14 < 0) then (some (.out (-1))) else (some (.cont x14))
def l_heldIntSS (a : List (List Int)) (k : Int) : Option (Int) :=
  ((rangeL l_heldIntSS_b1 a 0 k) : Option (Jn (Int) (Int))).bind fun j => match j with | .nx k_2 => (some k_2) | .out t => some t
def l_heldRuleS_b1 (_i_1 : Nat) (x_3 : Rule) : (Int) → Option (Lo (Int) (Int))
  | k_2 => if (x_3.kind != k_2) then (some (.out (-1))) else ((l_heldIntS x_3.vars (i64 (k_2 + 1))).bind fun x23 => if decide (x23 < 0) then (some (.out (-1))) else ((l_heldIntS x_3.coefs x23).bind fun x45 => if decide (x45 < 0) then (some (.out (-1))) else (if (x_3.bound != x45) then (some (.out (-1))) else ((l_heldIntSS x_3.rows (i64 (x45 + 1))).bind fun x76 => if decide (x76 < 0) then (some (.out (-1))) else (some (.cont x76))))))
def l_heldRuleS (a : List Rule) (k : Int) : Option (Int) :=
  ((rangeL l_heldRuleS_b1 a 0 k) : Option (Jn (Int) (Int))).bind fun j => match j with | .nx k_2 => (some k_2) | .out t => some t
def l_heldModel (a : Model) (k : Int) : Option (Int) :=
  (l_heldIntS a.sizes k).bind fun x10 => if decide (x10 < 0) then (some (-1)) else ((l_heldRuleS a.rules x10).bind fun x24 => if decide (x24 < 0) then (some (-1)) else (some x24))
def l_FnExactParseModel (fu : Nat) (aText : ByteArray) : Option (Bool) :=
  if decide ((aText.size : Int) > 1048576) then (some true) else ((s_ParseModel fu aText).bind fun x7 => (i_ParseModel fu aText).bind fun x30 => (l_eqModel x30.1 x7.1).bind fun x57 => if ((!x57) || (x30.2 != x7.2)) then (some false) else ((l_markModel fu x30.1 1).bind fun x77 => (l_heldModel x77.2 1).bind fun x92 => if decide (x92 < 0) then (some false) else (if (x92 != x77.1) then (some false) else ((i_ParseModel fu aText).bind fun x109 => (l_eqModel x109.1 x7.1).bind fun x136 => if ((!x136) || (x109.2 != x7.2)) then (some false) else ((l_heldModel x77.2 1).bind fun x158 => if decide (x158 < 0) then (some false) else (if (x158 != x77.1) then (some false) else (some true)))))))
end Go.L

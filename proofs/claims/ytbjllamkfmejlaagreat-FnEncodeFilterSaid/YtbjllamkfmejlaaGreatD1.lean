/- Part of a proof by program: D1. -/
import Derived.Test.YtbjllamkfmejlaaGreatG12
namespace Go.L
open Go Go.E
set_option linter.unusedVariables false
def s_l17Open (code : List UInt8) : Option (Rd) :=
  ((if decide ((code.length : Int) > 2000) then ((sl code 0 2000).bind fun x5 => some x5) else (some code)) : Option (List UInt8)).bind fun code_1 => some ({ b := code_1, p := 0 } : Rd)
def s_l17Rd_pick (r_ : Rd) (n_ : Int) : Option (Int × Int) :=
  if ((decide (n_ < 1)) || ((r_.b.length : Int) == 0)) then (some (0, i64 (r_.p + 1))) else (if decide ((i64 ((i64 (r_.p + 1)) - 1)) < (r_.b.length : Int)) then ((idx r_.b (i64 ((i64 (r_.p + 1)) - 1))).bind fun x7 => (if n_ = 0 then none else some ()).bind fun _ => some (Int.tmod (i64 (x7.toNat : Int)) n_, i64 (r_.p + 1))) else ((if (r_.b.length : Int) = 0 then none else some ()).bind fun _ => (idx r_.b (Int.tmod (i64 ((i64 (r_.p + 1)) - 1)) (r_.b.length : Int))).bind fun x18 => (if (r_.b.length : Int) = 0 then none else some ()).bind fun _ => (idx r_.b (Int.tmod (i64 ((i64 ((i64 ((i64 (r_.p + 1)) - 1)) * 7)) + 3)) (r_.b.length : Int))).bind fun x24 => (if (r_.b.length : Int) = 0 then none else some ()).bind fun _ => (if n_ = 0 then none else some ()).bind fun _ => some (Int.tmod (xorI .i64 (i64 ((i64 ((i64 ((i64 ((i64 (x18.toNat : Int)) * 131)) + (i64 ((i64 (x24.toNat : Int)) * 1117)))) + (i64 ((i64 ((i64 (r_.p + 1)) - 1)) * 29)))) + (i64 ((i64 (Int.tdiv (i64 ((i64 (r_.p + 1)) - 1)) (r_.b.length : Int))) * 53)))) (i64 (Int.tdiv (i64 ((i64 ((i64 ((i64 ((i64 (x18.toNat : Int)) * 131)) + (i64 ((i64 (x24.toNat : Int)) * 1117)))) + (i64 ((i64 ((i64 (r_.p + 1)) - 1)) * 29)))) + (i64 ((i64 (Int.tdiv (i64 ((i64 (r_.p + 1)) - 1)) (r_.b.length : Int))) * 53)))) 64))) n_, i64 (r_.p + 1))))
def s_l17Rd_num (r_ : Rd) (list : List Int) : Option (Int × Int) :=
  (s_l17Rd_pick r_ (list.length : Int)).bind fun x6 => (idx list x6.1).bind fun x8 => some (x8, x6.2)
def s_l6Copy_b2 (_i_103 : Nat) (x_108 : List Int) : (List (List Int)) → Option (Lo (List (List Int)) (Lo (List Rule) (Model)))
  | g101_4_104 => (app ([]) x_108).bind fun x118 => (app g101_4_104 ([x118])).bind fun x125 => some (.cont x125)
def s_l6Copy_b1 (_i_28 : Nat) (x_33 : Rule) : (List Rule) → Option (Lo (List Rule) (Model))
  | g25_1_29 => (app ([]) x_33.vars).bind fun x53 => (app ([]) x_33.coefs).bind fun x60 => ((rangeL s_l6Copy_b2 x_33.rows 0 ([])) : Option (Jn (List (List Int)) (Lo (List Rule) (Model)))).bind fun j => match j with | .nx g101_4_104 => ((app g25_1_29 ([({ kind := x_33.kind, vars := x53, coefs := x60, bound := x_33.bound, rows := g101_4_104 } : Rule)])).bind fun x170 => some (.cont x170)) | .out t => some t
def s_l6Copy (m : Model) : Option (Model) :=
  (app ([]) m.sizes).bind fun x12 => ((rangeL s_l6Copy_b1 m.rules 0 ([])) : Option (Jn (List Rule) (Model))).bind fun j => match j with | .nx g25_1_29 => (some ({ sizes := x12, rules := g25_1_29 } : Model)) | .out t => some t
def s_l6Mutate_b1 : (List Int) → Option (Lo (List Int) (Unit))
  | g29_0_105 => if decide ((g29_0_105.length : Int) ≤ 5) then ((app g29_0_105 ([0])).bind fun x112 => some (.cont x112)) else (some (.brk g29_0_105))
noncomputable def s_l6Mutate (fu : Nat) (r_ : Rd) (m : Model) : Option (Unit) :=
  (s_l6Copy m).bind fun x14 => (s_l17Rd_pick r_ 50).bind fun x37 => if (x37.1 == 0) then (if decide ((x14.sizes.length : Int) > 0) then ((s_l17Rd_num ({ b := r_.b, p := x37.2 } : Rd) ([(-1), 4, 3, 9223372036854775807])).bind fun x56 => (idx x14.sizes 0).bind fun x58 => assertM (sModel ({ sizes := (x14.sizes.set (Int.toNat 0) x56.1), rules := x14.rules } : Model) ∧ rdOk r_.p x56.2)) else (assertM (sModel x14 ∧ rdOk r_.p x37.2))) else (if (x37.1 == 1) then (((whileL s_l6Mutate_b1 fu x14.sizes) : Option (Jn (List Int) (Unit))).bind fun j => match j with | .nx g29_0_105 => (assertM (sModel ({ sizes := g29_0_105, rules := x14.rules } : Model) ∧ rdOk r_.p x37.2)) | .out t => some t) else (if (x37.1 == 2) then (if decide ((x14.rules.length : Int) > 0) then ((s_l17Rd_num ({ b := r_.b, p := x37.2 } : Rd) ([0, 5, 1, 2, 3])).bind fun x143 => (idx x14.rules 0).bind fun x145 => assertM (sModel ({ sizes := x14.sizes, rules := (x14.rules.set (Int.toNat 0) ({ x145 with kind := x143.1 })) } : Model) ∧ rdOk r_.p x143.2)) else (assertM (sModel x14 ∧ rdOk r_.p x37.2))) else (if (x37.1 == 3) then ((if decide ((x14.rules.length : Int) > 0) then ((idx x14.rules (i64 ((x14.rules.length : Int) - 1))).bind fun x191 => some (decide ((x191.vars.length : Int) > 0))) else some false).bind fun b195 => if b195 then ((idx x14.rules (i64 ((x14.rules.length : Int) - 1))).bind fun x202 => (s_l17Rd_num ({ b := r_.b, p := x37.2 } : Rd) ([(-1), 5, 1, 0])).bind fun x218 => (idx x202.vars 0).bind fun x220 => assertM (sModel ({ sizes := x14.sizes, rules := (x14.rules.set (Int.toNat (i64 ((x14.rules.length : Int) - 1))) ({ kind := x202.kind, vars := (x202.vars.set (Int.toNat 0) x218.1), coefs := x202.coefs, bound := x202.bound, rows := x202.rows } : Rule)) } : Model) ∧ rdOk r_.p x218.2)) else (assertM (sModel x14 ∧ rdOk r_.p x37.2))) else (if (x37.1 == 4) then (if decide ((x14.rules.length : Int) > 0) then ((s_l17Rd_num ({ b := r_.b, p := x37.2 } : Rd) ([1001, (-1001), 1000])).bind fun x289 => (idx x14.rules 0).bind fun x291 => assertM (sModel ({ sizes := x14.sizes, rules := (x14.rules.set (Int.toNat 0) ({ x291 with bound := x289.1 })) } : Model) ∧ rdOk r_.p x289.2)) else (assertM (sModel x14 ∧ rdOk r_.p x37.2))) else (if (x37.1 == 5) then (assertM (sModel ({ sizes := [], rules := [] } : Model) ∧ rdOk r_.p x37.2)) else (assertM (sModel x14 ∧ rdOk r_.p x37.2)))))))
def s_l6Some_b1 (r_ : Rd) (i_11 : Nat) (_x_15 : Int) : ((List Int) × Int) → Option (Lo ((List Int) × Int) ((List Int) × Int))
  | (out_12, g_0_1_14) => (s_l17Rd_pick ({ b := r_.b, p := g_0_1_14 } : Rd) 3).bind fun x22 => ((if decide (x22.1 > 0) then ((app out_12 ([(i_11 : Int)])).bind fun x37 => some x37) else (some out_12)) : Option (List Int)).bind fun out_30 => some (.cont (out_30, x22.2))
def s_l6Some_b2 (m : Model) (least : Int) : ((List Int) × Int) → Option (Lo ((List Int) × Int) ((List Int) × Int))
  | (out_50, v_52) => if ((decide ((out_50.length : Int) < least)) && (decide (v_52 < (m.sizes.length : Int)))) then ((if ((out_50.length : Int) == 0) then some true else ((idx out_50 (i64 ((out_50.length : Int) - 1))).bind fun x57 => some (decide (x57 < v_52)))).bind fun b62 => ((if b62 then ((app out_50 ([v_52])).bind fun x76 => some x76) else (some out_50)) : Option (List Int)).bind fun out_69 => some (.cont (out_69, i64 (v_52 + 1)))) else (some (.brk (out_50, v_52)))
def s_l6Some_b3 (i_98 : Nat) : (List Int) → Option (Lo (List Int) (List Int))
  | out_99 => (app out_99 ([(i_98 : Int)])).bind fun x107 => some (.cont x107)
def s_l6Some (fu : Nat) (r_ : Rd) (m : Model) (least : Int) : Option ((List Int) × Int) :=
  ((rangeL (s_l6Some_b1 r_) m.sizes 0 ([], r_.p)) : Option (Jn ((List Int) × Int) ((List Int) × Int))).bind fun j => match j with | .nx (out_12, g_0_1_14) => (((whileL (s_l6Some_b2 m least) fu (out_12, 0)) : Option (Jn ((List Int) × Int) ((List Int) × Int))).bind fun j => match j with | .nx (out_50, v_52) => (((if ((decide ((out_50.length : Int) < least)) || ((out_50.length : Int) == 0)) then ((cntF 0 least).bind fun k102 => ((countL s_l6Some_b3 k102 0 ([])) : Option (Jn (List Int) (List Int))).bind fun j => match j with | .nx out_99 => (some out_99) | .out t => some t) else (some out_50)) : Option (List Int)).bind fun out_88 => (if decide ((out_88.length : Int) > 1) then ((s_l17Rd_pick ({ b := r_.b, p := g_0_1_14 } : Rd) 3).bind fun x122 => some ((x122.1 == 0), x122.2)) else some (false, g_0_1_14)).bind fun b124 => ((if b124.1 then ((idx out_88 0).bind fun x136 => (idx out_88 1).bind fun x145 => (idx (out_88.set (Int.toNat 0) x145) 1).bind fun x152 => some ((out_88.set (Int.toNat 0) x145).set (Int.toNat 1) x136)) else (some out_88)) : Option (List Int)).bind fun out_133 => some (out_133, b124.2)) | .out t => some t) | .out t => some t
def s_l6Draw_b1 (r_ : Rd) (_i_65 : Nat) (_x_71 : Int) : (Int × (List Int)) → Option (Lo (Int × (List Int)) (Int × (List Int) × (List Int) × Int × (List (List Int))))
  | (g_0_1_66, g33_2_67) => (s_l17Rd_num ({ b := r_.b, p := g_0_1_66 } : Rd) ([1, (-1), 2, 1, (-2), 3])).bind fun x83 => (app g33_2_67 ([x83.1])).bind fun x88 => some (.cont (x83.2, x88))
def s_l6Draw_b3 (r_ : Rd) (_i_192 : Nat) (_x_196 : Int) : ((List Int) × Int) → Option (Lo ((List Int) × Int) (Lo (Int × Int × (List (List Int))) (Int × (List Int) × (List (List Int)))))
  | (row_193, g_0_1_195) => (s_l17Rd_pick ({ b := r_.b, p := g_0_1_195 } : Rd) 4).bind fun x203 => (app row_193 ([x203.1])).bind fun x208 => some (.cont (x208, x203.2))
def s_l6Draw_b2 (r_ : Rd) (x41 : (List Int) × Int) : (Int × Int × (List (List Int))) → Option (Lo (Int × Int × (List (List Int))) (Int × (List Int) × (List (List Int))))
  | (i_179, g_0_1_180, g33_4_181) => if decide (i_179 > 0) then (((rangeL (s_l6Draw_b3 r_) x41.1 0 ([], g_0_1_180)) : Option (Jn ((List Int) × Int) (Lo (Int × Int × (List (List Int))) (Int × (List Int) × (List (List Int)))))).bind fun j => match j with | .nx (row_193, g_0_1_195) => ((app g33_4_181 ([row_193])).bind fun x227 => some (.cont (i64 (i_179 - 1), g_0_1_195, x227))) | .out t => some t) else (some (.brk (i_179, g_0_1_180, g33_4_181)))
def s_l6Draw (fu : Nat) (r_ : Rd) (m : Model) : Option (Rule × Int) :=
  (s_l17Rd_num r_ ([1, 2, 3, 4, 1])).bind fun x18 => (s_l6Some fu ({ b := r_.b, p := x18.2 } : Rd) m 1).bind fun x41 => ((if (x18.1 == 1) then (((rangeL (s_l6Draw_b1 r_) x41.1 0 (x41.2, [])) : Option (Jn (Int × (List Int)) (Int × (List Int) × (List Int) × Int × (List (List Int))))).bind fun j => match j with | .nx (g_0_1_66, g33_2_67) => ((s_l17Rd_num ({ b := r_.b, p := g_0_1_66 } : Rd) ([1, 2, 0, (-1), 3, (-3), 4])).bind fun x135 => some (x135.2, x41.1, g33_2_67, x135.1, [])) | .out t => some t) else (((if (x18.1 == 3) then ((s_l17Rd_num ({ b := r_.b, p := x41.2 } : Rd) ([3, 4, 2, 6, 0, 8])).bind fun x166 => ((whileL (s_l6Draw_b2 r_ x41) fu (x166.1, x166.2, [])) : Option (Jn (Int × Int × (List (List Int))) (Int × (List Int) × (List (List Int))))).bind fun j => match j with | .nx (i_179, g_0_1_180, g33_4_181) => (some (g_0_1_180, x41.1, g33_4_181)) | .out t => some t) else (((if (x18.1 == 4) then ((s_l6Some fu ({ b := r_.b, p := x41.2 } : Rd) m 2).bind fun x249 => (sl x249.1 0 2).bind fun x252 => some (x249.2, x252)) else (some (x41.2, x41.1))) : Option (Int × (List Int))).bind fun (g_0_1_239, g33_1_240) => some (g_0_1_239, g33_1_240, []))) : Option (Int × (List Int) × (List (List Int)))).bind fun (g_0_1_150, g33_1_151, g33_4_153) => some (g_0_1_150, g33_1_151, [], 0, g33_4_153))) : Option (Int × (List Int) × (List Int) × Int × (List (List Int)))).bind fun (g_0_1_53, g33_1_54, g33_2_56, g33_3_58, g33_4_59) => some (({ kind := x18.1, vars := g33_1_54, coefs := g33_2_56, bound := g33_3_58, rows := g33_4_59 } : Rule), g_0_1_53)
def s_l6Model_b1 (r_ : Rd) : (Int × Int × (List Int)) → Option (Lo (Int × Int × (List Int)) (Model × Int))
  | (i_33, g_0_1_34, g8_0_35) => if decide (i_33 > 0) then ((s_l17Rd_num ({ b := r_.b, p := g_0_1_34 } : Rd) ([2, 1, 3, 2, 0])).bind fun x51 => (app g8_0_35 ([x51.1])).bind fun x56 => some (.cont (i64 (i_33 - 1), x51.2, x56))) else (some (.brk (i_33, g_0_1_34, g8_0_35)))
def s_l6Model_b3 (_i_105 : Nat) (x_107 : Int) : (Int) → Option (Lo (Int) (Lo (Int × (List Int)) (Model × Int)))
  | n_106 => some (.cont (i64 ((i64 (n_106 + x_107)) + 1)))
def s_l6Model_b2 : (Int × (List Int)) → Option (Lo (Int × (List Int)) (Model × Int))
  | (n_95, g8_0_96) => if (n_95 == 0) then (((rangeL s_l6Model_b3 g8_0_96 0 n_95) : Option (Jn (Int) (Lo (Int × (List Int)) (Model × Int)))).bind fun j => match j with | .nx n_106 => (((if decide (n_106 > 12) then ((sl g8_0_96 0 (i64 ((g8_0_96.length : Int) - 1))).bind fun x122 => some (0, x122)) else (some (n_106, g8_0_96))) : Option (Int × (List Int))).bind fun (n_117, g8_0_118) => some (.cont (n_117, g8_0_118))) | .out t => some t) else (some (.brk (n_95, g8_0_96)))
def s_l6Model_b4 (fu : Nat) (r_ : Rd) (g8_0_96 : List Int) : (Int × Int × (List Rule)) → Option (Lo (Int × Int × (List Rule)) (Model × Int))
  | (i_151, g_0_1_152, g8_1_153) => if decide (i_151 > 0) then ((s_l6Draw fu ({ b := r_.b, p := g_0_1_152 } : Rd) ({ sizes := g8_0_96, rules := g8_1_153 } : Model)).bind fun x166 => (app g8_1_153 ([x166.1])).bind fun x174 => some (.cont (i64 (i_151 - 1), x166.2, x174))) else (some (.brk (i_151, g_0_1_152, g8_1_153)))
def s_l6Model (fu : Nat) (r_ : Rd) : Option (Model × Int) :=
  (s_l17Rd_num r_ ([3, 2, 4, 3])).bind fun x20 => ((whileL (s_l6Model_b1 r_) fu (x20.1, x20.2, [])) : Option (Jn (Int × Int × (List Int)) (Model × Int))).bind fun j => match j with | .nx (i_33, g_0_1_34, g8_0_35) => (((whileL s_l6Model_b2 fu (0, g8_0_35)) : Option (Jn (Int × (List Int)) (Model × Int))).bind fun j => match j with | .nx (n_95, g8_0_96) => ((s_l17Rd_num ({ b := r_.b, p := g_0_1_34 } : Rd) ([2, 3, 1, 4, 0])).bind fun x138 => ((whileL (s_l6Model_b4 fu r_ g8_0_96) fu (x138.1, x138.2, [])) : Option (Jn (Int × Int × (List Rule)) (Model × Int))).bind fun j => match j with | .nx (i_151, g_0_1_152, g8_1_153) => (some (({ sizes := g8_0_96, rules := g8_1_153 } : Model), g_0_1_152)) | .out t => some t) | .out t => some t) | .out t => some t
noncomputable def s_DrawModelValid (fu : Nat) (code : List UInt8) : Option (Unit) :=
  (s_l17Open code).bind fun x5 => (s_l6Model fu x5).bind fun x8 => anyB (s_l6Mutate fu ({ b := x5.b, p := x8.2 } : Rd) x8.1) (fun o : Model × Int => sModel o.1 ∧ rdOk x8.2 o.2) fun x14 => assertM (sModel x14.1)
noncomputable def s_DrawEncodeModel (fu : Nat) (code : List UInt8) : Option (Unit) :=
  anyB (s_DrawModelValid fu code) (fun o : Model => sModel o) fun x5 => assertM (sModel x5)
def i_within (n_ : Int) (low : Int) (high : Int) : Option (Bool) :=
  some ((decide (low ≤ n_)) && (decide (n_ ≤ high)))
def slices_IndexFunc_implRule_b1 (f_ : (Rule → Option Bool)) (i_1 : Nat) (x_2 : Rule) : (Unit) → Option (Lo (Unit) (Int))
  | () => (f_ x_2).bind fun x8 => if x8 then (some (.out (i_1 : Int))) else (some (.cont ()))
def slices_IndexFunc_implRule (s : List Rule) (f_ : (Rule → Option Bool)) : Option (Int) :=
  ((rangeL (slices_IndexFunc_implRule_b1 f_) s 0 ()) : Option (Jn (Unit) (Int))).bind fun j => match j with | .nx _ => (some (-1)) | .out t => some t
def slices_ContainsFunc_implRule (s : List Rule) (f_ : (Rule → Option Bool)) : Option (Bool) :=
  (slices_IndexFunc_implRule s f_).bind fun x6 => some (decide (x6 ≥ 0))
def slices_Index_int_b1 (v_ : Int) (i_1 : Nat) (x_2 : Int) : (Unit) → Option (Lo (Unit) (Int))
  | () => if (v_ == x_2) then (some (.out (i_1 : Int))) else (some (.cont ()))
def slices_Index_int (s : List Int) (v_ : Int) : Option (Int) :=
  ((rangeL (slices_Index_int_b1 v_) s 0 ()) : Option (Jn (Unit) (Int))).bind fun j => match j with | .nx _ => (some (-1)) | .out t => some t
def slices_Contains_int (s : List Int) (v_ : Int) : Option (Bool) :=
  (slices_Index_int s v_).bind fun x6 => some (decide (x6 ≥ 0))
def slices_IndexFunc_int_b1 (f_ : (Int → Option Bool)) (i_1 : Nat) (x_2 : Int) : (Unit) → Option (Lo (Unit) (Int))
  | () => (f_ x_2).bind fun x8 => if x8 then (some (.out (i_1 : Int))) else (some (.cont ()))
def slices_IndexFunc_int (s : List Int) (f_ : (Int → Option Bool)) : Option (Int) :=
  ((rangeL (slices_IndexFunc_int_b1 f_) s 0 ()) : Option (Jn (Unit) (Int))).bind fun j => match j with | .nx _ => (some (-1)) | .out t => some t
def slices_ContainsFunc_int (s : List Int) (f_ : (Int → Option Bool)) : Option (Bool) :=
  (slices_IndexFunc_int s f_).bind fun x6 => some (decide (x6 ≥ 0))
def i_ruleValid_1 (n_ : Int) : Option (Bool) :=
  (if (n_ == 0) then some true else ((i_within n_ (-9) 9).bind fun x6 => some (!x6))).bind fun b8 => some b8
def slices_IndexFunc_Sint_b1 (f_ : ((List Int) → Option Bool)) (i_1 : Nat) (x_2 : List Int) : (Unit) → Option (Lo (Unit) (Int))
  | () => (f_ x_2).bind fun x8 => if x8 then (some (.out (i_1 : Int))) else (some (.cont ()))
def slices_IndexFunc_Sint (s : List (List Int)) (f_ : ((List Int) → Option Bool)) : Option (Int) :=
  ((rangeL (slices_IndexFunc_Sint_b1 f_) s 0 ()) : Option (Jn (Unit) (Int))).bind fun j => match j with | .nx _ => (some (-1)) | .out t => some t
def slices_ContainsFunc_Sint (s : List (List Int)) (f_ : ((List Int) → Option Bool)) : Option (Bool) :=
  (slices_IndexFunc_Sint s f_).bind fun x6 => some (decide (x6 ≥ 0))
def i_ruleValid_2_1 (n_ : Int) : Option (Bool) :=
  (i_within n_ 0 3).bind fun x6 => some (!x6)
def i_ruleValid_2 (c1 : Rule) (row : List Int) : Option (Bool) :=
  (if ((row.length : Int) != (c1.vars.length : Int)) then some true else ((slices_ContainsFunc_int row i_ruleValid_2_1).bind fun x6 => some x6)).bind fun b8 => some b8
def i_ruleValid_b1 (r_ : Rule) (cells : Int) (i_5 : Nat) (x_6 : Int) : (Unit) → Option (Lo (Unit) (Bool))
  | () => (i_within x_6 0 (i64 (cells - 1))).bind fun x21 => (if (!x21) then some true else ((sl r_.vars 0 (i_5 : Int)).bind fun x23 => (slices_Contains_int x23 x_6).bind fun x31 => some x31)).bind fun b33 => if b33 then (some (.out false)) else (some (.cont ()))
def i_ruleValid (r_ : Rule) (cells : Int) : Option (Bool) :=
  ((rangeL (i_ruleValid_b1 r_ cells) r_.vars 0 ()) : Option (Jn (Unit) (Bool))).bind fun j => match j with | .nx _ => (if ((((r_.vars.length : Int) == 0) || ((r_.kind != 1) && ((decide ((r_.coefs.length : Int) > 0)) || (r_.bound != 0)))) || ((r_.kind != 3) && (decide ((r_.rows.length : Int) > 0)))) then (some false) else (if (r_.kind == 1) then ((if ((r_.coefs.length : Int) == (r_.vars.length : Int)) then ((i_within r_.bound (-1000) 1000).bind fun x70 => some x70) else some false).bind fun b72 => (if b72 then ((slices_ContainsFunc_int r_.coefs i_ruleValid_1).bind fun x78 => some (!x78)) else some false).bind fun b80 => some b80) else (if (r_.kind == 3) then ((if decide ((r_.rows.length : Int) ≤ 8) then ((slices_ContainsFunc_Sint r_.rows (i_ruleValid_2 r_)).bind fun x111 => some (!x111)) else some false).bind fun b113 => some b113) else (if (r_.kind == 4) then (some ((r_.vars.length : Int) == 2)) else (some (r_.kind == 2)))))) | .out t => some t
def i_ModelValid_1 (c1 : Model) (r_ : Rule) : Option (Bool) :=
  (i_ruleValid r_ (c1.sizes.length : Int)).bind fun x10 => some (!x10)
def i_ModelValid_b1 (_i_21 : Nat) (x_23 : Int) : (Int) → Option (Lo (Int) (Bool))
  | count_22 => (i_within x_23 0 3).bind fun x38 => if (!x38) then (some (.out false)) else (some (.cont (i64 (count_22 + (i64 (x_23 + 1))))))
def i_ModelValid (m : Model) : Option (Bool) :=
  (i_within (m.sizes.length : Int) 1 5).bind fun x10 => if ((!x10) || (decide ((m.rules.length : Int) > 8))) then (some false) else (((rangeL i_ModelValid_b1 m.sizes 0 0) : Option (Jn (Int) (Bool))).bind fun j => match j with | .nx count_22 => ((if decide (count_22 ≤ 12) then ((slices_ContainsFunc_implRule m.rules (i_ModelValid_1 m)).bind fun x52 => some (!x52)) else some false).bind fun b54 => some b54) | .out t => some t)
def i_Model_boolVar_b1 (_i_10 : Nat) (x_12 : Int) : (Int) → Option (Lo (Int) (Int))
  | v_11 => some (.cont (i64 (v_11 + (i64 (x_12 + 1)))))
def i_Model_boolVar (m : Model) (cell : Int) (value : Int) : Option (Int) :=
  (sl m.sizes 0 cell).bind fun x5 => ((rangeL i_Model_boolVar_b1 x5 0 (i64 (1 + value))) : Option (Jn (Int) (Int))).bind fun j => match j with | .nx v_11 => (some v_11) | .out t => some t
def i_Model_varsOf_b1 (m : Model) (cell : Int) (i_14 : Nat) : (List Int) → Option (Lo (List Int) (List Int))
  | out_15 => (i_Model_boolVar m cell (i_14 : Int)).bind fun x26 => (app out_15 ([x26])).bind fun x31 => some (.cont x31)
def i_Model_varsOf (m : Model) (cell : Int) : Option (List Int) :=
  (idx m.sizes cell).bind fun x5 => (cntF 0 (i64 (x5 + 1))).bind fun k18 => ((countL (i_Model_varsOf_b1 m cell) k18 0 ([])) : Option (Jn (List Int) (List Int))).bind fun j => match j with | .nx out_15 => (some out_15) | .out t => some t
def slices_Clone_int (s : List Int) : Option (List Int) :=
  (app ([]) s).bind fun x7 => some x7
def i_isLiteral (l : Int) : Option (Bool) :=
  (if (l != 0) then ((i_within l (-12) 12).bind fun x6 => some x6) else some false).bind fun b8 => some b8
def slices_insertionSortCmpFunc_int_b2 (a : Int) (cmp : (Int → Int → Option Int)) : ((List Int) × Int) → Option (Lo ((List Int) × Int) (Lo ((List Int) × Int) (List Int)))
  | (data_9, j_10) => (if decide (j_10 > a) then ((idx data_9 j_10).bind fun x14 => (idx data_9 (i64 (j_10 - 1))).bind fun x19 => (cmp x14 x19).bind fun x22 => some (decide (x22 < 0))) else some false).bind fun b29 => if b29 then ((idx data_9 (i64 (j_10 - 1))).bind fun x52 => (idx data_9 j_10).bind fun x57 => (idx (data_9.set (Int.toNat j_10) x52) (i64 (j_10 - 1))).bind fun x61 => some (.cont (((data_9.set (Int.toNat j_10) x52).set (Int.toNat (i64 (j_10 - 1))) x57), i64 (j_10 - 1)))) else (some (.brk (data_9, j_10)))
def slices_insertionSortCmpFunc_int_b1 (fu : Nat) (a : Int) (b : Int) (cmp : (Int → Int → Option Int)) : ((List Int) × Int) → Option (Lo ((List Int) × Int) (List Int))
  | (data_2, i_3) => if decide (i_3 < b) then (((whileL (slices_insertionSortCmpFunc_int_b2 a cmp) fu (data_2, i_3)) : Option (Jn ((List Int) × Int) (Lo ((List Int) × Int) (List Int)))).bind fun j => match j with | .nx (data_9, j_10) => (some (.cont (data_9, i64 (i_3 + 1)))) | .out t => some t) else (some (.brk (data_2, i_3)))
def slices_insertionSortCmpFunc_int (fu : Nat) (data : List Int) (a : Int) (b : Int) (cmp : (Int → Int → Option Int)) : Option (List Int) :=
  ((whileL (slices_insertionSortCmpFunc_int_b1 fu a b cmp) fu (data, i64 (a + 1))) : Option (Jn ((List Int) × Int) (List Int))).bind fun j => match j with | .nx (data_2, i_3) => (some data_2) | .out t => some t
def slices_nextPowerOfTwo (length : Int) : Option (Int) :=
  (bits_Len (IntKind.u64.wrap length)).bind fun x6 => (if x6 < 0 then none else some ()).bind fun _ => some (IntKind.u64.wrap (1 * 2 ^ (min (Int.toNat x6) (IntKind.bits .u64))))
def slices_pdqsortCmpFunc_int_b1 (fu : Nat) (data : List Int) (a : Int) (b : Int) (cmp : (Int → Int → Option Int)) : (Unit) → Option (Lo (Unit) (List Int))
  | () => if decide ((i64 (b - a)) ≤ 12) then ((slices_insertionSortCmpFunc_int fu data a b cmp).bind fun x9 => some (.out x9)) else (none)
def slices_pdqsortCmpFunc_int (fu : Nat) (data : List Int) (a : Int) (b : Int) (_limit : Int) (cmp : (Int → Int → Option Int)) : Option (List Int) :=
  ((whileL (slices_pdqsortCmpFunc_int_b1 fu data a b cmp) fu ()) : Option (Jn (Unit) (List Int))).bind fun j => match j with | .nx _ => (some data) | .out t => some t
def slices_SortFunc_int (fu : Nat) (x : List Int) (cmp : (Int → Int → Option Int)) : Option (List Int) :=
  (bits_Len (IntKind.u64.wrap (x.length : Int))).bind fun x6 => (slices_pdqsortCmpFunc_int fu x 0 (x.length : Int) x6 cmp).bind fun x13 => some x13
def i_variableOf (l : Int) : Option (Int) :=
  some (max l (i64 (-l)))
def i_ClauseOf_1 (a : Int) (b : Int) : Option (Int) :=
  (i_variableOf a).bind fun x6 => (i_variableOf b).bind fun x13 => some (i64 (x6 - x13))
def slices_Compact_int_b1 (s : List Int) (i_2 : Nat) : (Unit) → Option (Lo (Unit) (List Int))
  | () => (idx s (i_2 : Int)).bind fun x8 => (idx s (i64 ((i_2 : Int) - 1))).bind fun x13 => ((if (x8 == x13) then (none) else (some ())) : Option (Unit)).bind fun _ => some (.cont ())
def slices_Compact_int (s : List Int) : Option (List Int) :=
  if decide ((s.length : Int) < 2) then (some s) else ((cntF 1 (s.length : Int)).bind fun k6 => ((countL (slices_Compact_int_b1 s) k6 1 ()) : Option (Jn (Unit) (List Int))).bind fun j => match j with | .nx _ => (some s) | .out t => some t)
def i_ClauseOf_b1 (lits : List Int) (_i_9 : Nat) (x_10 : Int) : (Unit) → Option (Lo (Unit) (Con × Bool))
  | () => (i_isLiteral x_10).bind fun x25 => (if (!x25) then some true else ((slices_Contains_int lits (i64 (-x_10))).bind fun x32 => some x32)).bind fun b34 => if b34 then (some (.out (({ terms := [], bound := 0 } : Con), false))) else (some (.cont ()))
def i_ClauseOf_b2 (_i_97 : Nat) (x_100 : Int) : (List Term) → Option (Lo (List Term) (Con × Bool))
  | g85_0_98 => (app g85_0_98 ([({ coef := 1, lit := x_100 } : Term)])).bind fun x114 => some (.cont x114)
def i_ClauseOf (fu : Nat) (lits : List Int) : Option (Con × Bool) :=
  if decide ((lits.length : Int) > 40) then (some (({ terms := [], bound := 0 } : Con), false)) else (((rangeL (i_ClauseOf_b1 lits) lits 0 ()) : Option (Jn (Unit) (Con × Bool))).bind fun j => match j with | .nx _ => ((slices_Clone_int lits).bind fun x58 => (slices_SortFunc_int fu x58 i_ClauseOf_1).bind fun x73 => (slices_Compact_int x73).bind fun x91 => ((rangeL i_ClauseOf_b2 x91 0 ([])) : Option (Jn (List Term) (Con × Bool))).bind fun j => match j with | .nx g85_0_98 => (some (({ terms := g85_0_98, bound := 1 } : Con), true)) | .out t => some t) | .out t => some t)
def i_atMostOne_b1 (_i_11 : Nat) (x_14 : Int) : (List Term) → Option (Lo (List Term) (Con))
  | g8_0_12 => (app g8_0_12 ([({ coef := 1, lit := i64 (-x_14) } : Term)])).bind fun x28 => some (.cont x28)
def i_atMostOne (vars : List Int) : Option (Con) :=
  ((rangeL i_atMostOne_b1 vars 0 ([])) : Option (Jn (List Term) (Con))).bind fun j => match j with | .nx g8_0_12 => (some ({ terms := g8_0_12, bound := i64 ((vars.length : Int) - 1) } : Con)) | .out t => some t
def i_each_b2 (sizes : List Int) : ((List Int) × Int) → Option (Lo ((List Int) × Int) (Lo (List Int) (Unit)))
  | (cells_37, i_38) => (if decide (i_38 ≥ 0) then ((idx cells_37 i_38).bind fun x42 => (idx sizes i_38).bind fun x47 => some (x42 == x47)) else some false).bind fun b52 => if b52 then ((idx cells_37 i_38).bind fun x75 => some (.cont ((cells_37.set (Int.toNat i_38) 0), i64 (i_38 - 1)))) else (some (.brk (cells_37, i_38)))
def i_each_b1 (fu : Nat) (sizes : List Int) (told : ((List Int) → Option Bool)) : (List Int) → Option (Lo (List Int) (Unit))
  | cells_17 => (told cells_17).bind fun x21 => if x21 then (((whileL (i_each_b2 sizes) fu (cells_17, i64 ((cells_17.length : Int) - 1))) : Option (Jn ((List Int) × Int) (Lo (List Int) (Unit)))).bind fun j => match j with | .nx (cells_37, i_38) => (if decide (i_38 < 0) then (some (.out ())) else ((idx cells_37 i_38).bind fun x83 => some (.cont (cells_37.set (Int.toNat i_38) (i64 (x83 + 1)))))) | .out t => some t) else (some (.brk cells_17))
def i_each (fu : Nat) (sizes : List Int) (from_ : List Int) (told : ((List Int) → Option Bool)) : Option (Unit) :=
  (slices_Clone_int from_).bind fun x6 => ((whileL (i_each_b1 fu sizes told) fu x6) : Option (Jn (List Int) (Unit))).bind fun j => match j with | .nx cells_17 => (some ()) | .out t => some t
def i_ConstraintValid_b1 (_i_5 : Nat) (x_7 : Term) : (Int) → Option (Lo (Int) (Bool))
  | before_6 => (i_isLiteral x_7.lit).bind fun x28 => (if (!x28) then some true else ((i_variableOf x_7.lit).bind fun x35 => some (decide (x35 ≤ before_6)))).bind fun b37 => (if b37 then some true else ((i_within x_7.coef 1 1000).bind fun x43 => some (!x43))).bind fun b45 => if b45 then (some (.out false)) else ((i_variableOf x_7.lit).bind fun x80 => some (.cont x80))
def i_ConstraintValid (c : Con) : Option (Bool) :=
  ((rangeL i_ConstraintValid_b1 c.terms 0 0) : Option (Jn (Int) (Bool))).bind fun j => match j with | .nx before_6 => ((i_within c.bound 0 20000).bind fun x93 => some x93) | .out t => some t
def i_Constraint_valid (c : Con) : Option (Con × Bool) :=
  (i_ConstraintValid c).bind fun x14 => if (!x14) then (some (({ terms := [], bound := 0 } : Con), false)) else (some (c, true))
def i_normal_b1 (_i_13 : Nat) (x_18 : Term) : (Int × (List Int)) → Option (Lo (Int × (List Int)) (Con × Bool))
  | (bound_14, ag11_15) => ((if decide (x_18.lit < 0) then ((idx ag11_15 (i64 (-x_18.lit))).bind fun x40 => some (i64 (bound_14 - x_18.coef), (ag11_15.set (Int.toNat (i64 (-x_18.lit))) (i64 (x40 - x_18.coef))))) else ((idx ag11_15 x_18.lit).bind fun x44 => some (bound_14, (ag11_15.set (Int.toNat x_18.lit) (i64 (x44 + x_18.coef)))))) : Option (Int × (List Int))).bind fun (bound_34, ag11_35) => some (.cont (bound_34, ag11_35))
def i_normal_b2 (ag11_15 : List Int) (i_56 : Nat) : (Int × (List Term)) → Option (Lo (Int × (List Term)) (Con × Bool))
  | (bound_57, g51_0_58) => (idx ag11_15 (i_56 : Int)).bind fun x64 => ((if decide (x64 > 0) then ((app g51_0_58 ([({ coef := x64, lit := (i_56 : Int) } : Term)])).bind fun x73 => some (bound_57, x73)) else (((if decide (x64 < 0) then ((app g51_0_58 ([({ coef := i64 (-x64), lit := i64 (-(i_56 : Int)) } : Term)])).bind fun x93 => some (i64 (bound_57 - x64), x93)) else (some (bound_57, g51_0_58))) : Option (Int × (List Term))).bind fun (bound_85, g51_0_86) => some (bound_85, g51_0_86))) : Option (Int × (List Term))).bind fun (bound_65, g51_0_66) => some (.cont (bound_65, g51_0_66))
def i_normal (terms : List Term) (bound : Int) : Option (Con × Bool) :=
  ((rangeL i_normal_b1 terms 0 (bound, (List.replicate 13 (0 : Int)))) : Option (Jn (Int × (List Int)) (Con × Bool))).bind fun j => match j with | .nx (bound_14, ag11_15) => ((cntF 0 13).bind fun k61 => ((countL (i_normal_b2 ag11_15) k61 0 (bound_14, [])) : Option (Jn (Int × (List Term)) (Con × Bool))).bind fun j => match j with | .nx (bound_57, g51_0_58) => ((i_Constraint_valid ({ terms := g51_0_58, bound := max 0 bound_57 } : Con)).bind fun x110 => some (x110.1, x110.2)) | .out t => some t) | .out t => some t
def cmp_isNaN_int (x : Int) : Option (Bool) :=
  some (x != x)
def cmp_Less_int (x : Int) (y : Int) : Option (Bool) :=
  (cmp_isNaN_int x).bind fun x6 => (if x6 then ((cmp_isNaN_int y).bind fun x13 => some (!x13)) else some false).bind fun b15 => some (b15 || (decide (x < y)))
def slices_insertionSortOrdered_int_b2 (a : Int) : ((List Int) × Int) → Option (Lo ((List Int) × Int) (Lo ((List Int) × Int) (List Int)))
  | (data_9, j_10) => (if decide (j_10 > a) then ((idx data_9 j_10).bind fun x14 => (idx data_9 (i64 (j_10 - 1))).bind fun x19 => (cmp_Less_int x14 x19).bind fun x27 => some x27) else some false).bind fun b29 => if b29 then ((idx data_9 (i64 (j_10 - 1))).bind fun x52 => (idx data_9 j_10).bind fun x57 => (idx (data_9.set (Int.toNat j_10) x52) (i64 (j_10 - 1))).bind fun x61 => some (.cont (((data_9.set (Int.toNat j_10) x52).set (Int.toNat (i64 (j_10 - 1))) x57), i64 (j_10 - 1)))) else (some (.brk (data_9, j_10)))
def slices_insertionSortOrdered_int_b1 (fu : Nat) (a : Int) (b : Int) : ((List Int) × Int) → Option (Lo ((List Int) × Int) (List Int))
  | (data_2, i_3) => if decide (i_3 < b) then (((whileL (slices_insertionSortOrdered_int_b2 a) fu (data_2, i_3)) : Option (Jn ((List Int) × Int) (Lo ((List Int) × Int) (List Int)))).bind fun j => match j with | .nx (data_9, j_10) => (some (.cont (data_9, i64 (i_3 + 1)))) | .out t => some t) else (some (.brk (data_2, i_3)))
def slices_insertionSortOrdered_int (fu : Nat) (data : List Int) (a : Int) (b : Int) : Option (List Int) :=
  ((whileL (slices_insertionSortOrdered_int_b1 fu a b) fu (data, i64 (a + 1))) : Option (Jn ((List Int) × Int) (List Int))).bind fun j => match j with | .nx (data_2, i_3) => (some data_2) | .out t => some t
def slices_pdqsortOrdered_int_b1 (fu : Nat) (data : List Int) (a : Int) (b : Int) : (Unit) → Option (Lo (Unit) (List Int))
  | () => if decide ((i64 (b - a)) ≤ 12) then ((slices_insertionSortOrdered_int fu data a b).bind fun x9 => some (.out x9)) else (none)
def slices_pdqsortOrdered_int (fu : Nat) (data : List Int) (a : Int) (b : Int) (_limit : Int) : Option (List Int) :=
  ((whileL (slices_pdqsortOrdered_int_b1 fu data a b) fu ()) : Option (Jn (Unit) (List Int))).bind fun j => match j with | .nx _ => (some data) | .out t => some t
def slices_Sort_int (fu : Nat) (x : List Int) : Option (List Int) :=
  (bits_Len (IntKind.u64.wrap (x.length : Int))).bind fun x6 => (slices_pdqsortOrdered_int fu x 0 (x.length : Int) x6).bind fun x13 => some x13
def slices_Equal_int_b1 (s2 : List Int) (i_2 : Nat) (x_5 : Int) : (Unit) → Option (Lo (Unit) (Bool))
  | () => (idx s2 (i_2 : Int)).bind fun x11 => if (x_5 != x11) then (some (.out false)) else (some (.cont ()))
def slices_Equal_int (s1 : List Int) (s2 : List Int) : Option (Bool) :=
  if ((s1.length : Int) != (s2.length : Int)) then (some false) else (((rangeL (slices_Equal_int_b1 s2) s1 0 ()) : Option (Jn (Unit) (Bool))).bind fun j => match j with | .nx _ => (some true) | .out t => some t)
def i_Rule_holds_1 (c1 : List Int) (row : List Int) : Option (Bool) :=
  (slices_Equal_int row c1).bind fun x6 => some x6
def i_Rule_holds_b1 (r_ : Rule) (i_10 : Nat) (x_12 : Int) : (Int) → Option (Lo (Int) (Bool))
  | sum_11 => (idx r_.coefs (i_10 : Int)).bind fun x22 => some (.cont (i64 (sum_11 + (i64 (x22 * x_12)))))
def i_Rule_holds_b2 (vals : List Int) (i_32 : Nat) (x_33 : Int) : (Unit) → Option (Lo (Unit) (Bool))
  | () => (sl vals 0 (i_32 : Int)).bind fun x43 => (slices_Contains_int x43 x_33).bind fun x51 => if x51 then (some (.out false)) else (some (.cont ()))
def i_Rule_holds (r_ : Rule) (vals : List Int) : Option (Bool) :=
  if (r_.kind == 1) then (((rangeL (i_Rule_holds_b1 r_) vals 0 0) : Option (Jn (Int) (Bool))).bind fun j => match j with | .nx sum_11 => (some (decide (sum_11 ≥ r_.bound))) | .out t => some t) else (if (r_.kind == 2) then (((rangeL (i_Rule_holds_b2 vals) vals 0 ()) : Option (Jn (Unit) (Bool))).bind fun j => match j with | .nx _ => (some true) | .out t => some t) else (if (r_.kind == 3) then ((slices_ContainsFunc_Sint r_.rows (i_Rule_holds_1 vals)).bind fun x68 => some x68) else ((idx vals 0).bind fun x77 => (idx vals 1).bind fun x82 => some (decide (x77 < x82)))))
def i_Model_encodeRule_b2 (m : Model) (r_ : Rule) (i_14 : Nat) (x_19 : Int) (i_39 : Nat) : (List Term) → Option (Lo (List Term) (Lo (List Term) (List Con)))
  | terms_40 => (idx r_.coefs (i_14 : Int)).bind fun x47 => (i_Model_boolVar m x_19 (i_39 : Int)).bind fun x57 => (app terms_40 ([({ coef := i64 (x47 * (i_39 : Int)), lit := x57 } : Term)])).bind fun x62 => some (.cont x62)
def i_Model_encodeRule_b1 (m : Model) (r_ : Rule) (i_14 : Nat) (x_19 : Int) : (List Term) → Option (Lo (List Term) (List Con))
  | terms_15 => (idx m.sizes x_19).bind fun x30 => (cntF 0 (i64 (x30 + 1))).bind fun k45 => ((countL (i_Model_encodeRule_b2 m r_ i_14 x_19) k45 0 terms_15) : Option (Jn (List Term) (Lo (List Term) (List Con)))).bind fun j => match j with | .nx terms_40 => (some (.cont terms_40)) | .out t => some t
def i_Model_encodeRule_b4 (m : Model) (i_121 : Nat) (_i_130 : Nat) (x_133 : Int) : (List Int) → Option (Lo (List Int) (Lo (List Con) (List Con)))
  | vars_131 => (idx m.sizes x_133).bind fun x144 => ((if decide ((i_121 : Int) ≤ x144) then ((i_Model_boolVar m x_133 (i_121 : Int)).bind fun x162 => (app vars_131 ([x162])).bind fun x167 => some x167) else (some vars_131)) : Option (List Int)).bind fun vars_153 => some (.cont vars_153)
def i_Model_encodeRule_b3 (fu : Nat) (m : Model) (r_ : Rule) (i_121 : Nat) : (List Con) → Option (Lo (List Con) (List Con))
  | g11_0_122 => ((rangeL (i_Model_encodeRule_b4 m i_121) r_.vars 0 ([])) : Option (Jn (List Int) (Lo (List Con) (List Con)))).bind fun j => match j with | .nx vars_131 => (((if decide ((vars_131.length : Int) > 1) then ((slices_Sort_int fu vars_131).bind fun x194 => (i_atMostOne x194).bind fun x208 => (app g11_0_122 ([x208])).bind fun x214 => some x214) else (some g11_0_122)) : Option (List Con)).bind fun g11_0_183 => some (.cont g11_0_183)) | .out t => some t
def i_Model_encodeRule_b5 (m : Model) (_i_250 : Nat) (x_253 : Int) : (List Int) → Option (Lo (List Int) (List Con))
  | sizes_251 => (idx m.sizes x_253).bind fun x264 => (app sizes_251 ([x264])).bind fun x272 => some (.cont x272)
def i_Model_encodeRule_b9 (m : Model) (cells_321 : List Int) (i_361 : Nat) (x_366 : Int) : (List Int) → Option (Lo (List Int) (List Con))
  | lits_362 => (idx cells_321 (i_361 : Int)).bind fun x377 => (i_Model_boolVar m x_366 x377).bind fun x387 => (app lits_362 ([i64 (-x387)])).bind fun x392 => some (.cont x392)
def i_Model_encodeRule_i8 (fu : Nat) (m : Model) (r_ : Rule) (cells_321 : List Int) (g11_0_322 : List Con) : Option (Bool × (List Con)) :=
  (i_Rule_holds r_ cells_321).bind fun x346 => ((if (!x346) then (((rangeL (i_Model_encodeRule_b9 m cells_321) r_.vars 0 ([])) : Option (Jn (List Int) (List Con))).bind fun j => match j with | .nx lits_362 => ((i_ClauseOf fu lits_362).bind fun x431 => (app g11_0_322 ([x431.1])).bind fun x451 => some x451) | .out t => some t) else (some g11_0_322)) : Option (List Con)).bind fun g11_0_355 => some (true, g11_0_355)
def i_Model_encodeRule_b10 (sizes_251 : List Int) : ((List Int) × Int) → Option (Lo ((List Int) × Int) (Lo ((List Int) × (List Con)) (List Con)))
  | (cells_465, i_466) => (if decide (i_466 ≥ 0) then ((idx cells_465 i_466).bind fun x470 => (idx sizes_251 i_466).bind fun x475 => some (x470 == x475)) else some false).bind fun b480 => if b480 then ((idx cells_465 i_466).bind fun x499 => some (.cont ((cells_465.set (Int.toNat i_466) 0), i64 (i_466 - 1)))) else (some (.brk (cells_465, i_466)))
def i_Model_encodeRule_b7 (fu : Nat) (m : Model) (r_ : Rule) (sizes_251 : List Int) : ((List Int) × (List Con)) → Option (Lo ((List Int) × (List Con)) (List Con))
  | (cells_321, g11_0_322) => (i_Model_encodeRule_i8 fu m r_ cells_321 g11_0_322).bind fun (ret0_328, g11_0_329) => if ret0_328 then (((whileL (i_Model_encodeRule_b10 sizes_251) fu (cells_321, i64 ((cells_321.length : Int) - 1))) : Option (Jn ((List Int) × Int) (Lo ((List Int) × (List Con)) (List Con)))).bind fun j => match j with | .nx (cells_465, i_466) => (if decide (i_466 < 0) then (some (.out g11_0_329)) else ((idx cells_465 i_466).bind fun x507 => some (.cont ((cells_465.set (Int.toNat i_466) (i64 (x507 + 1))), g11_0_329)))) | .out t => some t) else (some (.brk (cells_321, g11_0_329)))
def i_Model_encodeRule_i6 (fu : Nat) (m : Model) (r_ : Rule) (sizes_251 : List Int) (x286 : List Int) : Option (List Con) :=
  (slices_Clone_int x286).bind fun x309 => ((whileL (i_Model_encodeRule_b7 fu m r_ sizes_251) fu (x309, [])) : Option (Jn ((List Int) × (List Con)) (List Con))).bind fun j => match j with | .nx (cells_321, g11_0_322) => (some g11_0_322) | .out t => some t
def i_Model_encodeRule (fu : Nat) (m : Model) (r_ : Rule) : Option (List Con) :=
  if (r_.kind == 1) then (((rangeL (i_Model_encodeRule_b1 m r_) r_.vars 0 ([])) : Option (Jn (List Term) (List Con))).bind fun j => match j with | .nx terms_15 => ((i_normal terms_15 r_.bound).bind fun x102 => some ([x102.1])) | .out t => some t) else (if (r_.kind == 2) then ((cntF 0 4).bind fun k127 => ((countL (i_Model_encodeRule_b3 fu m r_) k127 0 ([])) : Option (Jn (List Con) (List Con))).bind fun j => match j with | .nx g11_0_122 => (some g11_0_122) | .out t => some t) else (((rangeL (i_Model_encodeRule_b5 m) r_.vars 0 ([])) : Option (Jn (List Int) (List Con))).bind fun j => match j with | .nx sizes_251 => ((mkN (sizes_251.length : Int) 0).bind fun x286 => (i_Model_encodeRule_i6 fu m r_ sizes_251 x286).bind fun g11_0_290 => some g11_0_290) | .out t => some t))
def i_EncodeModel_b1 (fu : Nat) (m : Model) (i_20 : Nat) (_x_25 : Int) : (List Con) → Option (Lo (List Con) ((List Con) × Bool))
  | out_21 => (i_Model_varsOf m (i_20 : Int)).bind fun x33 => (i_ClauseOf fu x33).bind fun x49 => (i_atMostOne x33).bind fun x72 => (app out_21 ([x49.1, x72])).bind fun x78 => some (.cont x78)
def i_EncodeModel_b2 (fu : Nat) (m : Model) (_i_110 : Nat) (x_115 : Rule) : (List Con) → Option (Lo (List Con) ((List Con) × Bool))
  | out_111 => (i_Model_encodeRule fu m x_115).bind fun x133 => (app out_111 x133).bind fun x136 => some (.cont x136)
def i_EncodeModel (fu : Nat) (m : Model) : Option ((List Con) × Bool) :=
  (i_ModelValid m).bind fun x10 => if (!x10) then (some ([], false)) else (((rangeL (i_EncodeModel_b1 fu m) m.sizes 0 ([])) : Option (Jn (List Con) ((List Con) × Bool))).bind fun j => match j with | .nx out_21 => (((rangeL (i_EncodeModel_b2 fu m) m.rules 0 out_21) : Option (Jn (List Con) ((List Con) × Bool))).bind fun j => match j with | .nx out_111 => (if decide ((out_111.length : Int) > 400) then (some ([], false)) else (some (out_111, true))) | .out t => some t) | .out t => some t)
def s_l6Vars_b2 (list : List Int) (x_8 : Int) (i_54 : Nat) : (Unit) → Option (Lo (Unit) (Lo (Unit) (Bool)))
  | () => (idx list (i_54 : Int)).bind fun x60 => if (x60 == x_8) then (some (.out (.out false))) else (some (.cont ()))
def s_l6Vars_b1 (m : Model) (list : List Int) (i_5 : Nat) (x_8 : Int) : (Unit) → Option (Lo (Unit) (Bool))
  | () => if ((decide (x_8 < 0)) || (decide (x_8 ≥ (m.sizes.length : Int)))) then (some (.out false)) else ((cntF 0 (i_5 : Int)).bind fun k58 => ((countL (s_l6Vars_b2 list x_8) k58 0 ()) : Option (Jn (Unit) (Lo (Unit) (Bool)))).bind fun j => match j with | .nx _ => (some (.cont ())) | .out t => some t)
def s_l6Vars (m : Model) (list : List Int) : Option (Bool) :=
  ((rangeL (s_l6Vars_b1 m list) list 0 ()) : Option (Jn (Unit) (Bool))).bind fun j => match j with | .nx _ => (some (decide ((list.length : Int) ≥ 1))) | .out t => some t
def s_l6Linear_b1 (_i_5 : Nat) (x_6 : Int) : (Unit) → Option (Lo (Unit) (Bool))
  | () => if (((decide (x_6 < (-9))) || (decide (x_6 > 9))) || (x_6 == 0)) then (some (.out false)) else (some (.cont ()))
def s_l6Linear (r_ : Rule) : Option (Bool) :=
  ((rangeL s_l6Linear_b1 r_.coefs 0 ()) : Option (Jn (Unit) (Bool))).bind fun j => match j with | .nx _ => (some ((((r_.coefs.length : Int) == (r_.vars.length : Int)) && (decide (r_.bound ≥ (-1000)))) && (decide (r_.bound ≤ 1000)))) | .out t => some t
def s_l6Table_b2 (x_8 : List Int) (i_27 : Nat) : (Unit) → Option (Lo (Unit) (Lo (Unit) (Bool)))
  | () => (idx x_8 (i_27 : Int)).bind fun x43 => if ((decide (x43 < 0)) || (decide (x43 > 3))) then (some (.out (.out false))) else (some (.cont ()))
def s_l6Table_b1 (r_ : Rule) (_i_5 : Nat) (x_8 : List Int) : (Unit) → Option (Lo (Unit) (Bool))
  | () => if ((x_8.length : Int) != (r_.vars.length : Int)) then (some (.out false)) else ((cntF 0 (x_8.length : Int)).bind fun k29 => ((countL (s_l6Table_b2 x_8) k29 0 ()) : Option (Jn (Unit) (Lo (Unit) (Bool)))).bind fun j => match j with | .nx _ => (some (.cont ())) | .out t => some t)
def s_l6Table (r_ : Rule) : Option (Bool) :=
  ((rangeL (s_l6Table_b1 r_) r_.rows 0 ()) : Option (Jn (Unit) (Bool))).bind fun j => match j with | .nx _ => (some (decide ((r_.rows.length : Int) ≤ 8))) | .out t => some t
def s_l6Rule (m : Model) (r_ : Rule) : Option (Bool) :=
  (s_l6Vars m r_.vars).bind fun x14 => if (((!x14) || ((r_.kind != 1) && (((r_.coefs.length : Int) != 0) || (r_.bound != 0)))) || ((r_.kind != 3) && ((r_.rows.length : Int) != 0))) then (some false) else (if (r_.kind == 1) then ((s_l6Linear r_).bind fun x41 => some x41) else (if (r_.kind == 2) then (some true) else (if (r_.kind == 3) then ((s_l6Table r_).bind fun x56 => some x56) else (if (r_.kind == 4) then (some ((r_.vars.length : Int) == 2)) else (some false)))))
def s_ModelValid_b1 (m : Model) : (Int × Int) → Option (Lo (Int × Int) (Bool))
  | (n_8, i_9) => if ((decide (i_9 < (m.sizes.length : Int))) && (decide (i_9 < 5))) then ((idx m.sizes i_9).bind fun x14 => if ((decide (x14 < 0)) || (decide (x14 > 3))) then (some (.out false)) else (some (.cont (i64 ((i64 (n_8 + x14)) + 1), i64 (i_9 + 1))))) else (some (.brk (n_8, i_9)))
def s_ModelValid_b2 (m : Model) (_i_51 : Nat) (x_54 : Rule) : (Unit) → Option (Lo (Unit) (Bool))
  | () => (s_l6Rule m x_54).bind fun x65 => if (!x65) then (some (.out false)) else (some (.cont ()))
def s_ModelValid (fu : Nat) (m : Model) : Option (Bool) :=
  ((whileL (s_ModelValid_b1 m) fu (0, 0)) : Option (Jn (Int × Int) (Bool))).bind fun j => match j with | .nx (n_8, i_9) => (if ((((decide ((m.sizes.length : Int) < 1)) || (decide ((m.sizes.length : Int) > 5))) || (decide (n_8 > 12))) || (decide ((m.rules.length : Int) > 8))) then (some false) else (((rangeL (s_ModelValid_b2 m) m.rules 0 ()) : Option (Jn (Unit) (Bool))).bind fun j => match j with | .nx _ => (some true) | .out t => some t)) | .out t => some t
def s_l7Var_b1 (m : Model) (i_5 : Nat) : (Int) → Option (Lo (Int) (Int))
  | n_6 => (idx m.sizes (i_5 : Int)).bind fun x10 => some (.cont (i64 ((i64 (n_6 + x10)) + 1)))
def s_l7Var (m : Model) (cell : Int) (value : Int) : Option (Int) :=
  (cntF 0 cell).bind fun k8 => ((countL (s_l7Var_b1 m) k8 0 (i64 (1 + value))) : Option (Jn (Int) (Int))).bind fun j => match j with | .nx n_6 => (some n_6) | .out t => some t
def s_l1Lit (n_ : Int) : Option (Bool) :=
  some (((n_ != 0) && (decide (n_ ≥ (-12)))) && (decide (n_ ≤ 12)))
def s_l1Abs (n_ : Int) : Option (Int) :=
  if decide (n_ < 0) then (some (i64 (-n_))) else (some n_)
def s_ClauseOf_b1 (_i_16 : Nat) (x_20 : Int) : (List Int) → Option (Lo (List Int) (Con × Bool))
  | seen_17 => (s_l1Lit x_20).bind fun x31 => if (!x31) then (some (.out (({ terms := [], bound := 0 } : Con), false))) else ((s_l1Abs x_20).bind fun x56 => (idx seen_17 x56).bind fun x68 => if (x68 == (i64 (-x_20))) then (some (.out (({ terms := [], bound := 0 } : Con), false))) else (some (.cont (seen_17.set (Int.toNat x56) x_20))))
def s_ClauseOf_b2 (seen_17 : List Int) (i_114 : Nat) : (List Term) → Option (Lo (List Term) (Con × Bool))
  | g111_0_115 => (idx seen_17 (i_114 : Int)).bind fun x123 => ((if (x123 != 0) then ((app g111_0_115 ([({ coef := 1, lit := x123 } : Term)])).bind fun x143 => some x143) else (some g111_0_115)) : Option (List Term)).bind fun g111_0_132 => some (.cont g111_0_132)
def s_ClauseOf (lits : List Int) : Option (Con × Bool) :=
  (mkN 13 0).bind fun x5 => if decide ((lits.length : Int) > 40) then (some (({ terms := [], bound := 0 } : Con), false)) else (((rangeL s_ClauseOf_b1 lits 0 x5) : Option (Jn (List Int) (Con × Bool))).bind fun j => match j with | .nx seen_17 => ((cntF 1 (12 + 1)).bind fun k120 => ((countL (s_ClauseOf_b2 seen_17) k120 1 ([])) : Option (Jn (List Term) (Con × Bool))).bind fun j => match j with | .nx g111_0_115 => (some (({ terms := g111_0_115, bound := 1 } : Con), true)) | .out t => some t) | .out t => some t)
def s_l7Most_b1 (_i_11 : Nat) (x_16 : Int) : (List Term) → Option (Lo (List Term) (Con))
  | g8_0_12 => (app g8_0_12 ([({ coef := 1, lit := i64 (-x_16) } : Term)])).bind fun x26 => some (.cont x26)
def s_l7Most (vars : List Int) : Option (Con) :=
  ((rangeL s_l7Most_b1 vars 0 ([])) : Option (Jn (List Term) (Con))).bind fun j => match j with | .nx g8_0_12 => (some ({ terms := g8_0_12, bound := i64 ((vars.length : Int) - 1) } : Con)) | .out t => some t
def s_l7Cell_b1 (m : Model) (cell : Int) (i_14 : Nat) : (List Int) → Option (Lo (List Int) (List Con))
  | vars_15 => (s_l7Var m cell (i_14 : Int)).bind fun x33 => (app vars_15 ([x33])).bind fun x38 => some (.cont x38)
def s_l7Cell (m : Model) (cell : Int) : Option (List Con) :=
  (idx m.sizes cell).bind fun x13 => (cntF 0 (x13 + 1)).bind fun k18 => ((countL (s_l7Cell_b1 m cell) k18 0 ([])) : Option (Jn (List Int) (List Con))).bind fun j => match j with | .nx vars_15 => ((s_ClauseOf vars_15).bind fun x60 => (s_l7Most vars_15).bind fun x83 => some ([x60.1, x83])) | .out t => some t
def s_ConstraintValid_b1 (c : Con) (i_5 : Nat) (x_8 : Term) : (Unit) → Option (Lo (Unit) (Bool))
  | () => (s_l1Lit x_8.lit).bind fun x29 => (if (((!x29) || (decide (x_8.coef < 1))) || (decide (x_8.coef > 1000))) then some true else ((if decide ((i_5 : Int) > 0) then ((idx c.terms (i64 ((i_5 : Int) - 1))).bind fun x31 => (s_l1Abs x31.lit).bind fun x41 => (s_l1Abs x_8.lit).bind fun x48 => some (decide (x41 ≥ x48))) else some false).bind fun b50 => some b50)).bind fun b51 => if b51 then (some (.out false)) else (some (.cont ()))
def s_ConstraintValid (c : Con) : Option (Bool) :=
  ((rangeL (s_ConstraintValid_b1 c) c.terms 0 ()) : Option (Jn (Unit) (Bool))).bind fun j => match j with | .nx _ => (some ((decide (c.bound ≥ 0)) && (decide (c.bound ≤ 20000)))) | .out t => some t
def s_l1Normal_b1 (net : List Int) (i_11 : Nat) : (Int × (List Term)) → Option (Lo (Int × (List Term)) (Con × Bool))
  | (bound_12, g8_0_13) => (idx net (i_11 : Int)).bind fun x21 => ((if decide (x21 > 0) then ((app g8_0_13 ([({ coef := x21, lit := (i_11 : Int) } : Term)])).bind fun x43 => some x43) else (some g8_0_13)) : Option (List Term)).bind fun g8_0_30 => ((if decide (x21 < 0) then ((app g8_0_30 ([({ coef := i64 (-x21), lit := i64 (-(i_11 : Int)) } : Term)])).bind fun x92 => some (i64 (bound_12 - x21), x92)) else (some (bound_12, g8_0_30))) : Option (Int × (List Term))).bind fun (bound_78, g8_0_79) => some (.cont (bound_78, g8_0_79))
def s_l1Normal (net : List Int) (bound : Int) : Option (Con × Bool) :=
  (cntF 1 (12 + 1)).bind fun k18 => ((countL (s_l1Normal_b1 net) k18 1 (bound, [])) : Option (Jn (Int × (List Term)) (Con × Bool))).bind fun j => match j with | .nx (bound_12, g8_0_13) => (((if decide (bound_12 < 0) then (some 0) else (some bound_12)) : Option (Int)).bind fun bound_127 => (s_ConstraintValid ({ terms := g8_0_13, bound := bound_127 } : Con)).bind fun x138 => if (!x138) then (some (({ terms := [], bound := 0 } : Con), false)) else (some (({ terms := g8_0_13, bound := bound_127 } : Con), true))) | .out t => some t
def s_l7Linear_b2 (m : Model) (r_ : Rule) (i_16 : Nat) (x_20 : Int) : ((List Int) × Int) → Option (Lo ((List Int) × Int) (Lo (List Int) (List Con)))
  | (net_23, k_24) => (idx m.sizes x_20).bind fun x32 => if decide (k_24 ≤ x32) then ((s_l7Var m x_20 k_24).bind fun x68 => (idx r_.coefs (i_16 : Int)).bind fun x70 => (idx net_23 x68).bind fun x75 => some (.cont ((net_23.set (Int.toNat x68) (i64 (x70 * k_24))), i64 (k_24 + 1)))) else (some (.brk (net_23, k_24)))
def s_l7Linear_b1 (fu : Nat) (m : Model) (r_ : Rule) (i_16 : Nat) (x_20 : Int) : (List Int) → Option (Lo (List Int) (List Con))
  | net_17 => ((whileL (s_l7Linear_b2 m r_ i_16 x_20) fu (net_17, 0)) : Option (Jn ((List Int) × Int) (Lo (List Int) (List Con)))).bind fun j => match j with | .nx (net_23, k_24) => (some (.cont net_23)) | .out t => some t
def s_l7Linear (fu : Nat) (m : Model) (r_ : Rule) : Option (List Con) :=
  (mkN 13 0).bind fun x9 => ((rangeL (s_l7Linear_b1 fu m r_) r_.vars 0 x9) : Option (Jn (List Int) (List Con))).bind fun j => match j with | .nx net_17 => ((s_l1Normal net_17 r_.bound).bind fun x121 => some ([x121.1])) | .out t => some t
def s_l7Sorted_b2 : ((List Int) × Int) → Option (Lo ((List Int) × Int) (Lo ((List Int) × Int) (List Int)))
  | (out_26, k_27) => (if decide (k_27 > 0) then ((idx out_26 k_27).bind fun x31 => (idx out_26 (i64 (k_27 - 1))).bind fun x36 => some (decide (x31 < x36))) else some false).bind fun b39 => if b39 then ((idx out_26 k_27).bind fun x56 => (idx out_26 (i64 (k_27 - 1))).bind fun x65 => (idx (out_26.set (Int.toNat k_27) x65) (i64 (k_27 - 1))).bind fun x72 => some (.cont (((out_26.set (Int.toNat k_27) x65).set (Int.toNat (i64 (k_27 - 1))) x56), i64 (k_27 - 1)))) else (some (.brk (out_26, k_27)))
def s_l7Sorted_b1 (fu : Nat) : ((List Int) × Int) → Option (Lo ((List Int) × Int) (List Int))
  | (out_19, i_20) => if decide (i_20 < (out_19.length : Int)) then (((whileL s_l7Sorted_b2 fu (out_19, i_20)) : Option (Jn ((List Int) × Int) (Lo ((List Int) × Int) (List Int)))).bind fun j => match j with | .nx (out_26, k_27) => (some (.cont (out_26, i64 (i_20 + 1)))) | .out t => some t) else (some (.brk (out_19, i_20)))
def s_l7Sorted (fu : Nat) (list : List Int) : Option (List Int) :=
  (app ([]) list).bind fun x4 => ((whileL (s_l7Sorted_b1 fu) fu (x4, 0)) : Option (Jn ((List Int) × Int) (List Int))).bind fun j => match j with | .nx (out_19, i_20) => (some out_19) | .out t => some t
def s_l7Different_b2 (m : Model) (i_15 : Nat) (_i_29 : Nat) (x_34 : Int) : (List Int) → Option (Lo (List Int) (Lo (List Con) (List Con)))
  | vars_30 => (idx m.sizes x_34).bind fun x40 => ((if decide ((i_15 : Int) ≤ x40) then ((s_l7Var m x_34 (i_15 : Int)).bind fun x81 => (app vars_30 ([x81])).bind fun x86 => some x86) else (some vars_30)) : Option (List Int)).bind fun vars_66 => some (.cont vars_66)
def s_l7Different_b1 (fu : Nat) (m : Model) (r_ : Rule) (i_15 : Nat) : (List Con) → Option (Lo (List Con) (List Con))
  | out_16 => ((rangeL (s_l7Different_b2 m i_15) r_.vars 0 ([])) : Option (Jn (List Int) (Lo (List Con) (List Con)))).bind fun j => match j with | .nx vars_30 => (((if decide ((vars_30.length : Int) > 1) then ((s_l7Sorted fu vars_30).bind fun x133 => (s_l7Most x133).bind fun x142 => (app out_16 ([x142])).bind fun x148 => some x148) else (some out_16)) : Option (List Con)).bind fun out_123 => some (.cont out_123)) | .out t => some t
def s_l7Different (fu : Nat) (m : Model) (r_ : Rule) : Option (List Con) :=
  (cntF 0 (3 + 1)).bind fun k21 => ((countL (s_l7Different_b1 fu m r_) k21 0 ([])) : Option (Jn (List Con) (List Con))).bind fun j => match j with | .nx out_16 => (some out_16) | .out t => some t
def s_l6Ints_b1 (b : List Int) (i_2 : Nat) (x_5 : Int) : (Unit) → Option (Lo (Unit) (Bool))
  | () => (idx b (i_2 : Int)).bind fun x11 => if (x_5 != x11) then (some (.out false)) else (some (.cont ()))
def s_l6Ints (a : List Int) (b : List Int) : Option (Bool) :=
  if ((a.length : Int) != (b.length : Int)) then (some false) else (((rangeL (s_l6Ints_b1 b) a 0 ()) : Option (Jn (Unit) (Bool))).bind fun j => match j with | .nx _ => (some true) | .out t => some t)
def s_l6Holds_b1 (cells : List Int) (_i_11 : Nat) (x_14 : Int) : (List Int) → Option (Lo (List Int) (Bool))
  | list_12 => (idx cells x_14).bind fun x20 => (app list_12 ([x20])).bind fun x28 => some (.cont x28)
def s_l6Holds_b2 (r_ : Rule) (i_47 : Nat) (x_51 : Int) : (Int) → Option (Lo (Int) (Bool))
  | n_48 => (idx r_.coefs (i_47 : Int)).bind fun x53 => some (.cont (i64 (n_48 + (i64 (x53 * x_51)))))
def s_l6Holds_b4 (list_12 : List Int) (x_83 : Int) (i_85 : Nat) : (Unit) → Option (Lo (Unit) (Lo (Unit) (Bool)))
  | () => (idx list_12 (i_85 : Int)).bind fun x91 => if (x91 == x_83) then (some (.out (.out false))) else (some (.cont ()))
def s_l6Holds_b3 (list_12 : List Int) (i_80 : Nat) (x_83 : Int) : (Unit) → Option (Lo (Unit) (Bool))
  | () => (cntF 0 (i_80 : Int)).bind fun k89 => ((countL (s_l6Holds_b4 list_12 x_83) k89 0 ()) : Option (Jn (Unit) (Lo (Unit) (Bool)))).bind fun j => match j with | .nx _ => (some (.cont ())) | .out t => some t
def s_l6Holds_b5 (list_12 : List Int) (_i_130 : Nat) (x_131 : List Int) : (Unit) → Option (Lo (Unit) (Bool))
  | () => (s_l6Ints x_131 list_12).bind fun x143 => if x143 then (some (.out true)) else (some (.cont ()))
def s_l6Holds (r_ : Rule) (cells : List Int) : Option (Bool) :=
  ((rangeL (s_l6Holds_b1 cells) r_.vars 0 ([])) : Option (Jn (List Int) (Bool))).bind fun j => match j with | .nx list_12 => (if (r_.kind == 1) then (((rangeL (s_l6Holds_b2 r_) list_12 0 0) : Option (Jn (Int) (Bool))).bind fun j => match j with | .nx n_48 => (some (decide (n_48 ≥ r_.bound))) | .out t => some t) else (if (r_.kind == 2) then (((rangeL (s_l6Holds_b3 list_12) list_12 0 ()) : Option (Jn (Unit) (Bool))).bind fun j => match j with | .nx _ => (some true) | .out t => some t) else (if (r_.kind == 4) then ((idx list_12 0).bind fun x111 => (idx list_12 1).bind fun x116 => some (decide (x111 < x116))) else (((rangeL (s_l6Holds_b5 list_12) r_.rows 0 ()) : Option (Jn (Unit) (Bool))).bind fun j => match j with | .nx _ => (some false) | .out t => some t)))) | .out t => some t
def s_l6Next_b1 (m : Model) : ((List Int) × Int) → Option (Lo ((List Int) × Int) ((List Int) × Bool))
  | (out_19, i_20) => if decide (i_20 ≥ 0) then ((idx out_19 i_20).bind fun x25 => (idx m.sizes i_20).bind fun x30 => if decide (x25 < x30) then (some (.out ((out_19.set (Int.toNat i_20) (i64 (x25 + 1))), true))) else (some (.cont ((out_19.set (Int.toNat i_20) 0), i64 (i_20 - 1))))) else (some (.brk (out_19, i_20)))
def s_l6Next (fu : Nat) (m : Model) (cells : List Int) : Option ((List Int) × Bool) :=
  (app ([]) cells).bind fun x8 => ((whileL (s_l6Next_b1 m) fu (x8, i64 ((x8.length : Int) - 1))) : Option (Jn ((List Int) × Int) ((List Int) × Bool))).bind fun j => match j with | .nx (out_19, i_20) => (some (out_19, false)) | .out t => some t
def s_l7Forbid_b1 (m : Model) (_i_15 : Nat) (x_20 : Int) : (List Int) → Option (Lo (List Int) (List Con))
  | g12_0_16 => (idx m.sizes x_20).bind fun x27 => (app g12_0_16 ([x27])).bind fun x35 => some (.cont x35)
def s_l7Forbid_b3 (m : Model) (r_ : Rule) (i_108 : Nat) (x_114 : Int) : ((List Int) × (List Int)) → Option (Lo ((List Int) × (List Int)) (Lo ((List Con) × (List Int) × Bool) (List Con)))
  | (cells_109, lits_110) => (idx r_.vars (i_108 : Int)).bind fun x116 => (idx cells_109 x116).bind fun x125 => (s_l7Var m x116 x_114).bind fun x160 => (app lits_110 ([i64 (-x160)])).bind fun x165 => some (.cont ((cells_109.set (Int.toNat x116) x_114), x165))
def s_l7Forbid_b2 (fu : Nat) (m : Model) (r_ : Rule) (g12_0_16 : List Int) : ((List Con) × (List Int) × Bool) → Option (Lo ((List Con) × (List Int) × Bool) (List Con))
  | (out_86, row_88, more_90) => if more_90 then ((mkN (m.sizes.length : Int) 0).bind fun x95 => ((rangeL (s_l7Forbid_b3 m r_) row_88 0 (x95, [])) : Option (Jn ((List Int) × (List Int)) (Lo ((List Con) × (List Int) × Bool) (List Con)))).bind fun j => match j with | .nx (cells_109, lits_110) => ((s_l6Holds r_ cells_109).bind fun x212 => ((if (!x212) then ((s_ClauseOf lits_110).bind fun x231 => (app out_86 ([x231.1])).bind fun x251 => some x251) else (some out_86)) : Option (List Con)).bind fun out_221 => (s_l6Next fu ({ sizes := g12_0_16, rules := [] } : Model) row_88).bind fun x268 => some (.cont (out_221, x268.1, x268.2))) | .out t => some t) else (some (.brk (out_86, row_88, more_90)))
def s_l7Forbid (fu : Nat) (m : Model) (r_ : Rule) : Option (List Con) :=
  ((rangeL (s_l7Forbid_b1 m) r_.vars 0 ([])) : Option (Jn (List Int) (List Con))).bind fun j => match j with | .nx g12_0_16 => ((mkN (r_.vars.length : Int) 0).bind fun x78 => ((whileL (s_l7Forbid_b2 fu m r_ g12_0_16) fu ([], x78, true)) : Option (Jn ((List Con) × (List Int) × Bool) (List Con))).bind fun j => match j with | .nx (out_86, row_88, more_90) => (some out_86) | .out t => some t) | .out t => some t
def s_l7Rule (fu : Nat) (m : Model) (r_ : Rule) : Option (List Con) :=
  if (r_.kind == 1) then ((s_l7Linear fu m r_).bind fun x15 => some x15) else (if (r_.kind == 2) then ((s_l7Different fu m r_).bind fun x31 => some x31) else ((s_l7Forbid fu m r_).bind fun x46 => some x46))
def s_EncodeModel_b1 (m : Model) (i_31 : Nat) (_x_34 : Int) : (List Con) → Option (Lo (List Con) ((List Con) × Bool))
  | out_32 => (s_l7Cell m (i_31 : Int)).bind fun x41 => (app out_32 x41).bind fun x44 => some (.cont x44)
def s_EncodeModel_b2 (fu : Nat) (m : Model) (_i_58 : Nat) (x_63 : Rule) : (List Con) → Option (Lo (List Con) ((List Con) × Bool))
  | out_59 => (s_l7Rule fu m x_63).bind fun x74 => (app out_59 x74).bind fun x77 => some (.cont x77)
def s_EncodeModel (fu : Nat) (m : Model) : Option ((List Con) × Bool) :=
  (s_ModelValid fu m).bind fun x10 => if (!x10) then (some ([], false)) else (((rangeL (s_EncodeModel_b1 m) m.sizes 0 ([])) : Option (Jn (List Con) ((List Con) × Bool))).bind fun j => match j with | .nx out_32 => (((rangeL (s_EncodeModel_b2 fu m) m.rules 0 out_32) : Option (Jn (List Con) ((List Con) × Bool))).bind fun j => match j with | .nx out_59 => (if decide ((out_59.length : Int) > 400) then (some ([], false)) else (some (out_59, true))) | .out t => some t) | .out t => some t)
def slices_Equal_implTerm_b1 (s2 : List Term) (i_2 : Nat) (x_5 : Term) : (Unit) → Option (Lo (Unit) (Bool))
  | () => (idx s2 (i_2 : Int)).bind fun x11 => if (!(x_5 == x11)) then (some (.out false)) else (some (.cont ()))
def slices_Equal_implTerm (s1 : List Term) (s2 : List Term) : Option (Bool) :=
  if ((s1.length : Int) != (s2.length : Int)) then (some false) else (((rangeL (slices_Equal_implTerm_b1 s2) s1 0 ()) : Option (Jn (Unit) (Bool))).bind fun j => match j with | .nx _ => (some true) | .out t => some t)
def i_ConstraintSame (a : Con) (b : Con) : Option (Bool) :=
  (if (a.bound == b.bound) then ((slices_Equal_implTerm a.terms b.terms).bind fun x14 => some x14) else some false).bind fun b16 => some b16
def l_cpProblem_b1 (b : List Con) (i_2 : Nat) (x_5 : Con) : (Unit) → Option (Lo (Unit) (Bool))
  | () => (idx b (i_2 : Int)).bind fun x11 => (i_ConstraintSame x_5 x11).bind fun x21 => if (!x21) then (some (.out false)) else (some (.cont ()))
def l_cpProblem (a : List Con) (b : List Con) : Option (Bool) :=
  if ((a.length : Int) != (b.length : Int)) then (some false) else (((rangeL (l_cpProblem_b1 b) a 0 ()) : Option (Jn (Unit) (Bool))).bind fun j => match j with | .nx _ => (some true) | .out t => some t)
def slices_IndexFunc_implConstraint_b1 (f_ : (Con → Option Bool)) (i_1 : Nat) (x_2 : Con) : (Unit) → Option (Lo (Unit) (Int))
  | () => (f_ x_2).bind fun x8 => if x8 then (some (.out (i_1 : Int))) else (some (.cont ()))
def slices_IndexFunc_implConstraint (s : List Con) (f_ : (Con → Option Bool)) : Option (Int) :=
  ((rangeL (slices_IndexFunc_implConstraint_b1 f_) s 0 ()) : Option (Jn (Unit) (Int))).bind fun j => match j with | .nx _ => (some (-1)) | .out t => some t
def slices_ContainsFunc_implConstraint (s : List Con) (f_ : (Con → Option Bool)) : Option (Bool) :=
  (slices_IndexFunc_implConstraint s f_).bind fun x6 => some (decide (x6 ≥ 0))
def i_allValid_1 (c : Con) : Option (Bool) :=
  (i_ConstraintValid c).bind fun x10 => some (!x10)
def i_allValid (list : List Con) : Option (Bool) :=
  (slices_ContainsFunc_implConstraint list i_allValid_1).bind fun x6 => some (!x6)
def i_ProblemValid (list : List Con) : Option (Bool) :=
  (if decide ((list.length : Int) ≤ 400) then ((i_allValid list).bind fun x6 => some x6) else some false).bind fun b8 => some b8
def i_PartialValid_1 (n_ : Int) : Option (Bool) :=
  (i_within n_ (-1) 1).bind fun x6 => some (!x6)
def i_PartialValid (p : List Int) : Option (Bool) :=
  (if ((p.length : Int) == 12) then ((slices_ContainsFunc_int p i_PartialValid_1).bind fun x6 => some (!x6)) else some false).bind fun b8 => some b8
def i_under (l : Int) (p : List Int) : Option (Int) :=
  if decide (l < 0) then ((idx p (i64 ((i64 (-l)) - 1))).bind fun x2 => some (i64 (-x2))) else ((idx p (i64 (l - 1))).bind fun x11 => some x11)
def i_Constraint_slack_b1 (p : List Int) (_i_5 : Nat) (x_7 : Term) : (Int) → Option (Lo (Int) (Int))
  | out_6 => (i_under x_7.lit p).bind fun x28 => ((if decide (x28 ≥ 0) then (some (i64 (out_6 + x_7.coef))) else (some out_6)) : Option (Int)).bind fun out_36 => some (.cont out_36)
def i_Constraint_slack (c : Con) (p : List Int) : Option (Int) :=
  ((rangeL (i_Constraint_slack_b1 p) c.terms 0 (i64 (-c.bound))) : Option (Jn (Int) (Int))).bind fun j => match j with | .nx out_6 => (some out_6) | .out t => some t
def i_Constraint_implied_b1 (p : List Int) (x10 : Int) (_i_18 : Nat) (x_21 : Term) : (List Int) → Option (Lo (List Int) (List Int))
  | out_19 => (i_under x_21.lit p).bind fun x43 => ((if ((x43 == 0) && (decide (x_21.coef > x10))) then ((app out_19 ([x_21.lit])).bind fun x60 => some x60) else (some out_19)) : Option (List Int)).bind fun out_53 => some (.cont out_53)
def i_Constraint_implied (c : Con) (p : List Int) : Option (List Int) :=
  (i_Constraint_slack c p).bind fun x10 => ((rangeL (i_Constraint_implied_b1 p x10) c.terms 0 ([])) : Option (Jn (List Int) (List Int))).bind fun j => match j with | .nx out_19 => (some out_19) | .out t => some t
def i_propagate_b3 (_i_73 : Nat) (x_76 : Int) : ((List Int) × Bool) → Option (Lo ((List Int) × Bool) (Lo ((List Int) × Bool) (Lo ((List Int) × Bool) ((List Int) × Int))))
  | (out_74, made_75) => ((if decide (x_76 > 0) then ((idx out_74 (i64 (x_76 - 1))).bind fun x89 => some (out_74.set (Int.toNat (i64 (x_76 - 1))) 1)) else ((idx out_74 (i64 ((i64 (-x_76)) - 1))).bind fun x96 => some (out_74.set (Int.toNat (i64 ((i64 (-x_76)) - 1))) (-1)))) : Option (List Int)).bind fun out_86 => some (.cont (out_86, true))
def i_propagate_b2 (i_21 : Nat) (x_24 : Con) : ((List Int) × Bool) → Option (Lo ((List Int) × Bool) (Lo ((List Int) × Bool) ((List Int) × Int)))
  | (out_22, made_23) => (i_Constraint_slack x_24 out_22).bind fun x46 => if decide (x46 < 0) then (some (.out (.out (out_22, (i_21 : Int))))) else ((i_Constraint_implied x_24 out_22).bind fun x62 => ((rangeL i_propagate_b3 x62 0 (out_22, made_23)) : Option (Jn ((List Int) × Bool) (Lo ((List Int) × Bool) (Lo ((List Int) × Bool) ((List Int) × Int))))).bind fun j => match j with | .nx (out_74, made_75) => (some (.cont (out_74, made_75))) | .out t => some t)
def i_propagate_b1 (list : List Con) : ((List Int) × Bool) → Option (Lo ((List Int) × Bool) ((List Int) × Int))
  | (out_17, made_18) => if made_18 then (((rangeL i_propagate_b2 list 0 (out_17, false)) : Option (Jn ((List Int) × Bool) (Lo ((List Int) × Bool) ((List Int) × Int)))).bind fun j => match j with | .nx (out_22, made_23) => (some (.cont (out_22, made_23))) | .out t => some t) else (some (.brk (out_17, made_18)))
def i_propagate (fu : Nat) (list : List Con) (p : List Int) : Option ((List Int) × Int) :=
  (slices_Clone_int p).bind fun x6 => ((whileL (i_propagate_b1 list) fu (x6, true)) : Option (Jn ((List Int) × Bool) ((List Int) × Int))).bind fun j => match j with | .nx (out_17, made_18) => (some (out_17, (-1))) | .out t => some t
def i_Propagate (fu : Nat) (list : List Con) (p : List Int) : Option ((List Int) × Int × Bool) :=
  (i_ProblemValid list).bind fun x6 => (if (!x6) then some true else ((i_PartialValid p).bind fun x13 => some (!x13))).bind fun b15 => if b15 then (some ([], (-1), false)) else ((i_propagate fu list p).bind fun x37 => some (x37.1, x37.2, true))
def i_Rule_at_b1 (cells : List Int) (_i_5 : Nat) (x_8 : Int) : (List Int) → Option (Lo (List Int) (Bool))
  | vals_6 => (idx cells x_8).bind fun x19 => (app vals_6 ([x19])).bind fun x27 => some (.cont x27)
def i_Rule_at (r_ : Rule) (cells : List Int) : Option (Bool) :=
  ((rangeL (i_Rule_at_b1 cells) r_.vars 0 ([])) : Option (Jn (List Int) (Bool))).bind fun j => match j with | .nx vals_6 => ((i_Rule_holds r_ vals_6).bind fun x47 => some x47) | .out t => some t
def i_Model_solves_1 (c1 : List Int) (r_ : Rule) : Option (Bool) :=
  (i_Rule_at r_ c1).bind fun x10 => some (!x10)
def i_Model_solves (m : Model) (cells : List Int) : Option (Bool) :=
  (slices_ContainsFunc_implRule m.rules (i_Model_solves_1 cells)).bind fun x14 => some (!x14)
def i_CountModel_i3 (m : Model) (cells_63 : List Int) (g22_0_64 : Int) : Option (Bool × Int) :=
  (i_Model_solves m cells_63).bind fun x80 => ((if x80 then (some (i64 (g22_0_64 + 1))) else (some g22_0_64)) : Option (Int)).bind fun g22_0_89 => some (true, g22_0_89)
def i_CountModel_b4 (m : Model) : ((List Int) × Int) → Option (Lo ((List Int) × Int) (Lo ((List Int) × Int) (Int)))
  | (cells_96, i_97) => (if decide (i_97 ≥ 0) then ((idx cells_96 i_97).bind fun x101 => (idx m.sizes i_97).bind fun x106 => some (x101 == x106)) else some false).bind fun b111 => if b111 then ((idx cells_96 i_97).bind fun x134 => some (.cont ((cells_96.set (Int.toNat i_97) 0), i64 (i_97 - 1)))) else (some (.brk (cells_96, i_97)))
def i_CountModel_b2 (fu : Nat) (m : Model) : ((List Int) × Int) → Option (Lo ((List Int) × Int) (Int))
  | (cells_63, g22_0_64) => (i_CountModel_i3 m cells_63 g22_0_64).bind fun (ret0_68, g22_0_69) => if ret0_68 then (((whileL (i_CountModel_b4 m) fu (cells_63, i64 ((cells_63.length : Int) - 1))) : Option (Jn ((List Int) × Int) (Lo ((List Int) × Int) (Int)))).bind fun j => match j with | .nx (cells_96, i_97) => (if decide (i_97 < 0) then (some (.out g22_0_69)) else ((idx cells_96 i_97).bind fun x142 => some (.cont ((cells_96.set (Int.toNat i_97) (i64 (x142 + 1))), g22_0_69)))) | .out t => some t) else (some (.brk (cells_63, g22_0_69)))
def i_CountModel_i1 (fu : Nat) (m : Model) (x25 : List Int) : Option (Int) :=
  (slices_Clone_int x25).bind fun x51 => ((whileL (i_CountModel_b2 fu m) fu (x51, 0)) : Option (Jn ((List Int) × Int) (Int))).bind fun j => match j with | .nx (cells_63, g22_0_64) => (some g22_0_64) | .out t => some t
def i_CountModel (fu : Nat) (m : Model) : Option (Int) :=
  (i_ModelValid m).bind fun x10 => if (!x10) then (some 0) else ((mkN (m.sizes.length : Int) 0).bind fun x25 => (i_CountModel_i1 fu m x25).bind fun g22_0_29 => some g22_0_29)
def i_CellsValid_b1 (m : Model) (i_21 : Nat) (x_22 : Int) : (Unit) → Option (Lo (Unit) (Bool))
  | () => (idx m.sizes (i_21 : Int)).bind fun x32 => (i_within x_22 0 x32).bind fun x42 => if (!x42) then (some (.out false)) else (some (.cont ()))
def i_CellsValid (m : Model) (cells : List Int) : Option (Bool) :=
  (i_ModelValid m).bind fun x10 => if ((!x10) || ((cells.length : Int) != (m.sizes.length : Int))) then (some false) else (((rangeL (i_CellsValid_b1 m) cells 0 ()) : Option (Jn (Unit) (Bool))).bind fun j => match j with | .nx _ => (some true) | .out t => some t)
def i_NextModel_i3 (m : Model) (cells_53 : List Int) (g22_0_54 : List Int) : Option (Bool × (List Int)) :=
  (i_Model_solves m cells_53).bind fun x77 => ((if x77 then ((slices_Clone_int cells_53).bind fun x97 => (if List.isEmpty x97 then none else some ()).bind fun _ => some x97) else (some g22_0_54)) : Option (List Int)).bind fun g22_0_86 => some ((List.isEmpty g22_0_86), g22_0_86)
def i_NextModel_b4 (m : Model) : ((List Int) × Int) → Option (Lo ((List Int) × Int) (Lo ((List Int) × (List Int)) (List Int)))
  | (cells_114, i_115) => (if decide (i_115 ≥ 0) then ((idx cells_114 i_115).bind fun x119 => (idx m.sizes i_115).bind fun x124 => some (x119 == x124)) else some false).bind fun b129 => if b129 then ((idx cells_114 i_115).bind fun x152 => some (.cont ((cells_114.set (Int.toNat i_115) 0), i64 (i_115 - 1)))) else (some (.brk (cells_114, i_115)))
def i_NextModel_b2 (fu : Nat) (m : Model) : ((List Int) × (List Int)) → Option (Lo ((List Int) × (List Int)) (List Int))
  | (cells_53, g22_0_54) => (i_NextModel_i3 m cells_53 g22_0_54).bind fun (ret0_61, g22_0_62) => if ret0_61 then (((whileL (i_NextModel_b4 m) fu (cells_53, i64 ((cells_53.length : Int) - 1))) : Option (Jn ((List Int) × Int) (Lo ((List Int) × (List Int)) (List Int)))).bind fun j => match j with | .nx (cells_114, i_115) => (if decide (i_115 < 0) then (some (.out g22_0_62)) else ((idx cells_114 i_115).bind fun x160 => some (.cont ((cells_114.set (Int.toNat i_115) (i64 (x160 + 1))), g22_0_62)))) | .out t => some t) else (some (.brk (cells_53, g22_0_62)))
def i_NextModel_i1 (fu : Nat) (m : Model) (cells : List Int) : Option (List Int) :=
  (slices_Clone_int cells).bind fun x41 => (if List.isEmpty x41 then none else some ()).bind fun _ => ((whileL (i_NextModel_b2 fu m) fu (x41, [])) : Option (Jn ((List Int) × (List Int)) (List Int))).bind fun j => match j with | .nx (cells_53, g22_0_54) => (some g22_0_54) | .out t => some t
def i_NextModel (fu : Nat) (m : Model) (cells : List Int) : Option ((List Int) × Bool) :=
  (i_CellsValid m cells).bind fun x10 => if (!x10) then (some ([], false)) else ((i_NextModel_i1 fu m cells).bind fun g22_0_24 => some (g22_0_24, (!(List.isEmpty g22_0_24))))
def i_EncodeCells_b1 (m : Model) (i_27 : Nat) (x_29 : Int) : (List Bool) → Option (Lo (List Bool) ((List Bool) × Bool))
  | out_28 => (i_Model_boolVar m (i_27 : Int) x_29).bind fun x44 => (idx out_28 (i64 (x44 - 1))).bind fun x46 => some (.cont (out_28.set (Int.toNat (i64 (x44 - 1))) true))
def i_EncodeCells (m : Model) (cells : List Int) : Option ((List Bool) × Bool) :=
  (i_CellsValid m cells).bind fun x10 => if (!x10) then (some ([], false)) else ((mkN 12 false).bind fun x20 => ((rangeL (i_EncodeCells_b1 m) cells 0 x20) : Option (Jn (List Bool) ((List Bool) × Bool))).bind fun j => match j with | .nx out_28 => (some (out_28, true)) | .out t => some t)
def i_ExtendsPartial_b1 (values : List Bool) (i_17 : Nat) (x_18 : Int) : (Unit) → Option (Lo (Unit) (Bool))
  | () => (if (x_18 != 0) then ((idx values (i_17 : Int)).bind fun x28 => some (x28 != (decide (x_18 > 0)))) else some false).bind fun b33 => if b33 then (some (.out false)) else (some (.cont ()))
def i_ExtendsPartial (p : List Int) (values : List Bool) : Option (Bool) :=
  (i_PartialValid p).bind fun x6 => if ((!x6) || ((values.length : Int) != 12)) then (some false) else (((rangeL (i_ExtendsPartial_b1 values) p 0 ()) : Option (Jn (Unit) (Bool))).bind fun j => match j with | .nx _ => (some true) | .out t => some t)
noncomputable def l_FnEncodeFilter (fu : Nat) (code : List UInt8) : Option (Bool) :=
  if decide ((code.length : Int) > 1048576) then (some true) else (anyB (s_DrawEncodeModel fu code) (fun o : Model => sModel o) fun x2 => (i_EncodeModel fu x2).bind fun x11 => (s_EncodeModel fu x2).bind fun x21 => (if (x11.2 != x21.2) then some true else ((l_cpProblem x11.1 x21.1).bind fun x38 => some (!x38))).bind fun b40 => if (b40 || (!x11.2)) then ((if (x11.2 == x21.2) then ((l_cpProblem x11.1 x21.1).bind fun x61 => some x61) else some false).bind fun b63 => some b63) else ((mkN 12 0).bind fun x74 => (i_Propagate fu x11.1 x74).bind fun x85 => if ((!x85.2.2) || (decide (x85.2.1 ≥ 0))) then ((if x85.2.2 then ((i_CountModel fu x2).bind fun x108 => some (x108 == 0)) else some false).bind fun b110 => some b110) else ((mkN (x2.sizes.length : Int) 0).bind fun x119 => (i_NextModel fu x2 x119).bind fun x132 => (i_EncodeCells x2 x132.1).bind fun x149 => (if (!x132.2) then some true else ((if x149.2 then ((i_ExtendsPartial x85.1 x149.1).bind fun x167 => some x167) else some false).bind fun b169 => some b169)).bind fun b170 => some b170)))
end Go.L

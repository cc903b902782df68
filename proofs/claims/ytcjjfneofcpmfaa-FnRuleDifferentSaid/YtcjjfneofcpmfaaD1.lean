/- Part of a proof by program: D1. -/
import Derived.Test.YtcjjfneofcpmfaaG10
namespace Go.L
open Go Go.E
set_option linter.unusedVariables false

def s_l17Open (code : List UInt8) : Option (Rd) :=
  ((if decide ((code.length : Int) > 2000) then ((sl code 0 2000).bind fun x5 => some x5) else (some code)) : Option (List UInt8)).bind fun code_1 => some ({ b := code_1, p := 0 } : Rd)
def s_l17Rd_pick (r_ : Rd) (n_ : Int) : Option (Int × Int) :=
  if ((decide (n_ < 1)) || ((r_.b.length : Int) == 0)) then (some (0, i64 (r_.p + 1))) else (if decide ((i64 ((i64 (r_.p + 1)) - 1)) < (r_.b.length : Int)) then ((idx r_.b (i64 ((i64 (r_.p + 1)) - 1))).bind fun x7 => (if n_ = 0 then none else some ()).bind fun _ => some (Int.tmod (i64 (x7.toNat : Int)) n_, i64 (r_.p + 1))) else ((if (r_.b.length : Int) = 0 then none else some ()).bind fun _ => (idx r_.b (Int.tmod (i64 ((i64 (r_.p + 1)) - 1)) (r_.b.length : Int))).bind fun x18 => (if (r_.b.length : Int) = 0 then none else some ()).bind fun _ => (idx r_.b (Int.tmod (i64 ((i64 ((i64 ((i64 (r_.p + 1)) - 1)) * 7)) + 3)) (r_.b.length : Int))).bind fun x24 => (if (r_.b.length : Int) = 0 then none else some ()).bind fun _ => (if n_ = 0 then none else some ()).bind fun _ => some (Int.tmod (xorI .i64 (i64 ((i64 ((i64 ((i64 ((i64 (x18.toNat : Int)) * 131)) + (i64 ((i64 (x24.toNat : Int)) * 1117)))) + (i64 ((i64 ((i64 (r_.p + 1)) - 1)) * 29)))) + (i64 ((i64 (Int.tdiv (i64 ((i64 (r_.p + 1)) - 1)) (r_.b.length : Int))) * 53)))) (i64 (Int.tdiv (i64 ((i64 ((i64 ((i64 ((i64 (x18.toNat : Int)) * 131)) + (i64 ((i64 (x24.toNat : Int)) * 1117)))) + (i64 ((i64 ((i64 (r_.p + 1)) - 1)) * 29)))) + (i64 ((i64 (Int.tdiv (i64 ((i64 (r_.p + 1)) - 1)) (r_.b.length : Int))) * 53)))) 64))) n_, i64 (r_.p + 1))))
def s_l17Rd_num (r_ : Rd) (list : List Int) : Option (Int × Int) :=
  (s_l17Rd_pick r_ (list.length : Int)).bind fun x6 => (idx list x6.1).bind fun x8 => some (x8, x6.2)
def s_l6Copy_b2 (_i_103 : Nat) (x_108 : List Int) : (List (List Int)) → Option (Lo (List (List Int)) (Lo (List Rule) (Model)))
  | g101_4_104 => (app ([]) x_108).bind fun x118 => (app g101_4_104 ([x118])).bind fun x125 => some (.cont x125)
def s_l6Copy_b1 (_i_28 : Nat) (x_33 : Rule) : (List Rule) → Option (Lo (List Rule) (Model))
  | g25_1_29 => (app ([]) x_33.vars).bind fun x53 => (app ([]) x_33.coefs).bind fun x60 => ((rangeL s_l6Copy_b2 x_33.rows 0 ([])) : Option (Jn (List (List Int)) (Lo (List Rule) (Model)))).bind fun j => match j with | .nx g101_4_104 => ((app g25_1_29 ([({ kind := x_33.kind, vars := x53, coefs := x60, bound := x_33.bound, rows := g101_4_104 } : Rule)])).bind fun x170 => some (.cont x170)) | .out t => some t
def s_l6Copy (m : Model) : Option (Model) :=
  (app ([]) m.sizes).bind fun x12 => ((rangeL s_l6Copy_b1 m.rules 0 ([])) : Option (Jn (List Rule) (Model))).bind fun j => match j with | .nx g25_1_29 => (some ({ sizes := x12, rules := g25_1_29 } : Model)) | .out t => some t
def s_l6Mutate_b1 : (List Int) → Option (Lo (List Int) (Unit))
  | g29_0_105 => if decide ((g29_0_105.length : Int) ≤ 5) then ((app g29_0_105 ([0])).bind fun x112 => some (.cont x112)) else (some (.brk g29_0_105))
noncomputable def s_l6Mutate (fu : Nat) (r_ : Rd) (m : Model) : Option (Unit) :=
  (s_l6Copy m).bind fun x14 => (s_l17Rd_pick r_ 50).bind fun x37 => if (x37.1 == 0) then (if decide ((x14.sizes.length : Int) > 0) then ((s_l17Rd_num ({ b := r_.b, p := x37.2 } : Rd) ([(-1), 4, 3, 9223372036854775807])).bind fun x56 => (idx x14.sizes 0).bind fun x58 => assertM (sModel ({ sizes := (x14.sizes.set (Int.toNat 0) x56.1), rules := x14.rules } : Model) ∧ rdOk r_.p x56.2)) else (assertM (sModel x14 ∧ rdOk r_.p x37.2))) else (if (x37.1 == 1) then (((whileL s_l6Mutate_b1 fu x14.sizes) : Option (Jn (List Int) (Unit))).bind fun j => match j with | .nx g29_0_105 => (assertM (sModel ({ sizes := g29_0_105, rules := x14.rules } : Model) ∧ rdOk r_.p x37.2)) | .out t => some t) else (if (x37.1 == 2) then (if decide ((x14.rules.length : Int) > 0) then ((s_l17Rd_num ({ b := r_.b, p := x37.2 } : Rd) ([0, 5, 1, 2, 3])).bind fun x143 => (idx x14.rules 0).bind fun x145 => assertM (sModel ({ sizes := x14.sizes, rules := (x14.rules.set (Int.toNat 0) ({ x145 with kind := x143.1 })) } : Model) ∧ rdOk r_.p x143.2)) else (assertM (sModel x14 ∧ rdOk r_.p x37.2))) else (if (x37.1 == 3) then ((if decide ((x14.rules.length : Int) > 0) then ((idx x14.rules (i64 ((x14.rules.length : Int) - 1))).bind fun x191 => some (decide ((x191.vars.length : Int) > 0))) else some false).bind fun b195 => if b195 then ((idx x14.rules (i64 ((x14.rules.length : Int) - 1))).bind fun x202 => (s_l17Rd_num ({ b := r_.b, p := x37.2 } : Rd) ([(-1), 5, 1, 0])).bind fun x218 => (idx x202.vars 0).bind fun x220 => assertM (sModel ({ sizes := x14.sizes, rules := (x14.rules.set (Int.toNat (i64 ((x14.rules.length : Int) - 1))) ({ kind := x202.kind, vars := (x202.vars.set (Int.toNat 0) x218.1), coefs := x202.coefs, bound := x202.bound, rows := x202.rows } : Rule)) } : Model) ∧ rdOk r_.p x218.2)) else (assertM (sModel x14 ∧ rdOk r_.p x37.2))) else (if (x37.1 == 4) then (if decide ((x14.rules.length : Int) > 0) then ((s_l17Rd_num ({ b := r_.b, p := x37.2 } : Rd) ([1001, (-1001), 1000])).bind fun x289 => (idx x14.rules 0).bind fun x291 => assertM (sModel ({ sizes := x14.sizes, rules := (x14.rules.set (Int.toNat 0) ({ x291 with bound := x289.1 })) } : Model) ∧ rdOk r_.p x289.2)) else (assertM (sModel x14 ∧ rdOk r_.p x37.2))) else (if (x37.1 == 5) then (assertM (sModel ({ sizes := [], rules := [] } : Model) ∧ rdOk r_.p x37.2)) else (assertM (sModel x14 ∧ rdOk r_.p x37.2)))))))
def s_l6Some_b1 (r_ : Rd) (i_11 : Nat) (_x_15 : Int) : ((List Int) × Int) → Option (Lo ((List Int) × Int) ((List Int) × Int))
  | (out_12, g_0_1_14) => (s_l17Rd_pick ({ b := r_.b, p := g_0_1_14 } : Rd) 3).bind fun x22 => ((if decide (x22.1 > 0) then ((app out_12 ([(i_11 : Int)])).bind fun x37 => some x37) else (some out_12)) : Option (List Int)).bind fun out_30 => some (.cont (out_30, x22.2))
def s_l6Some_b2 (m : Model) (least : Int) : ((List Int) × Int) → Option (Lo ((List Int) × Int) ((List Int) × Int))
  | (out_50, v_52) => if ((decide ((out_50.length : Int) < least)) && (decide (v_52 < (m.sizes.length : Int)))) then ((if ((out_50.length : Int) == 0) then some true else ((idx out_50 (i64 ((out_50.length : Int) - 1))).bind fun x57 => some (decide (x57 < v_52)))).bind fun b62 => ((if b62 then ((app out_50 ([v_52])).bind fun x76 => some x76) else (some out_50)) : Option (List Int)).bind fun out_69 => some (.cont (out_69, i64 (v_52 + 1)))) else (some (.brk (out_50, v_52)))
def s_l6Some_b3 (i_98 : Nat) : (List Int) → Option (Lo (List Int) (List Int))
  | out_99 => (app out_99 ([(i_98 : Int)])).bind fun x107 => some (.cont x107)
def s_l6Some (fu : Nat) (r_ : Rd) (m : Model) (least : Int) : Option ((List Int) × Int) :=
  ((rangeL (s_l6Some_b1 r_) m.sizes 0 ([], r_.p)) : Option (Jn ((List Int) × Int) ((List Int) × Int))).bind fun j => match j with | .nx (out_12, g_0_1_14) => (((whileL (s_l6Some_b2 m least) fu (out_12, 0)) : Option (Jn ((List Int) × Int) ((List Int) × Int))).bind fun j => match j with | .nx (out_50, v_52) => (((if ((decide ((out_50.length : Int) < least)) || ((out_50.length : Int) == 0)) then ((cntF 0 least).bind fun k102 => ((countL s_l6Some_b3 k102 0 ([])) : Option (Jn (List Int) (List Int))).bind fun j => match j with | .nx out_99 => (some out_99) | .out t => some t) else (some out_50)) : Option (List Int)).bind fun out_88 => (if decide ((out_88.length : Int) > 1) then ((s_l17Rd_pick ({ b := r_.b, p := g_0_1_14 } : Rd) 3).bind fun x122 => some ((x122.1 == 0), x122.2)) else some (false, g_0_1_14)).bind fun b124 => ((if b124.1 then ((idx out_88 0).bind fun x136 => (idx out_88 1).bind fun x145 => (idx (out_88.set (Int.toNat 0) x145) 1).bind fun x152 => some ((out_88.set (Int.toNat 0) x145).set (Int.toNat 1) x136)) else (some out_88)) : Option (List Int)).bind fun out_133 => some (out_133, b124.2)) | .out t => some t) | .out t => some t
def s_l6Draw_b1 (r_ : Rd) (_i_65 : Nat) (_x_71 : Int) : (Int × (List Int)) → Option (Lo (Int × (List Int)) (Int × (List Int) × (List Int) × Int × (List (List Int))))
  | (g_0_1_66, g33_2_67) => (s_l17Rd_num ({ b := r_.b, p := g_0_1_66 } : Rd) ([1, (-1), 2, 1, (-2), 3])).bind fun x83 => (app g33_2_67 ([x83.1])).bind fun x88 => some (.cont (x83.2, x88))
def s_l6Draw_b3 (r_ : Rd) (_i_192 : Nat) (_x_196 : Int) : ((List Int) × Int) → Option (Lo ((List Int) × Int) (Lo (Int × Int × (List (List Int))) (Int × (List Int) × (List (List Int)))))
  | (row_193, g_0_1_195) => (s_l17Rd_pick ({ b := r_.b, p := g_0_1_195 } : Rd) 4).bind fun x203 => (app row_193 ([x203.1])).bind fun x208 => some (.cont (x208, x203.2))
def s_l6Draw_b2 (r_ : Rd) (x41 : (List Int) × Int) : (Int × Int × (List (List Int))) → Option (Lo (Int × Int × (List (List Int))) (Int × (List Int) × (List (List Int))))
  | (i_179, g_0_1_180, g33_4_181) => if decide (i_179 > 0) then (((rangeL (s_l6Draw_b3 r_) x41.1 0 ([], g_0_1_180)) : Option (Jn ((List Int) × Int) (Lo (Int × Int × (List (List Int))) (Int × (List Int) × (List (List Int)))))).bind fun j => match j with | .nx (row_193, g_0_1_195) => ((app g33_4_181 ([row_193])).bind fun x227 => some (.cont (i64 (i_179 - 1), g_0_1_195, x227))) | .out t => some t) else (some (.brk (i_179, g_0_1_180, g33_4_181)))
def s_l6Draw (fu : Nat) (r_ : Rd) (m : Model) : Option (Rule × Int) :=
  (s_l17Rd_num r_ ([1, 2, 3, 4, 1])).bind fun x18 => (s_l6Some fu ({ b := r_.b, p := x18.2 } : Rd) m 1).bind fun x41 => ((if (x18.1 == 1) then (((rangeL (s_l6Draw_b1 r_) x41.1 0 (x41.2, [])) : Option (Jn (Int × (List Int)) (Int × (List Int) × (List Int) × Int × (List (List Int))))).bind fun j => match j with | .nx (g_0_1_66, g33_2_67) => ((s_l17Rd_num ({ b := r_.b, p := g_0_1_66 } : Rd) ([1, 2, 0, (-1), 3, (-3), 4])).bind fun x135 => some (x135.2, x41.1, g33_2_67, x135.1, [])) | .out t => some t) else (((if (x18.1 == 3) then ((s_l17Rd_num ({ b := r_.b, p := x41.2 } : Rd) ([3, 4, 2, 6, 0, 8])).bind fun x166 => ((whileL (s_l6Draw_b2 r_ x41) fu (x166.1, x166.2, [])) : Option (Jn (Int × Int × (List (List Int))) (Int × (List Int) × (List (List Int))))).bind fun j => match j with | .nx (i_179, g_0_1_180, g33_4_181) => (some (g_0_1_180, x41.1, g33_4_181)) | .out t => some t) else (((if (x18.1 == 4) then ((s_l6Some fu ({ b := r_.b, p := x41.2 } : Rd) m 2).bind fun x249 => (sl x249.1 0 2).bind fun x252 => some (x249.2, x252)) else (some (x41.2, x41.1))) : Option (Int × (List Int))).bind fun (g_0_1_239, g33_1_240) => some (g_0_1_239, g33_1_240, []))) : Option (Int × (List Int) × (List (List Int)))).bind fun (g_0_1_150, g33_1_151, g33_4_153) => some (g_0_1_150, g33_1_151, [], 0, g33_4_153))) : Option (Int × (List Int) × (List Int) × Int × (List (List Int)))).bind fun (g_0_1_53, g33_1_54, g33_2_56, g33_3_58, g33_4_59) => some (({ kind := x18.1, vars := g33_1_54, coefs := g33_2_56, bound := g33_3_58, rows := g33_4_59 } : Rule), g_0_1_53)
def s_l6Model_b1 (r_ : Rd) : (Int × Int × (List Int)) → Option (Lo (Int × Int × (List Int)) (Model × Int))
  | (i_33, g_0_1_34, g8_0_35) => if decide (i_33 > 0) then ((s_l17Rd_num ({ b := r_.b, p := g_0_1_34 } : Rd) ([2, 1, 3, 2, 0])).bind fun x51 => (app g8_0_35 ([x51.1])).bind fun x56 => some (.cont (i64 (i_33 - 1), x51.2, x56))) else (some (.brk (i_33, g_0_1_34, g8_0_35)))
def s_l6Model_b3 (_i_105 : Nat) (x_107 : Int) : (Int) → Option (Lo (Int) (Lo (Int × (List Int)) (Model × Int)))
  | n_106 => some (.cont (i64 ((i64 (n_106 + x_107)) + 1)))
def s_l6Model_b2 : (Int × (List Int)) → Option (Lo (Int × (List Int)) (Model × Int))
  | (n_95, g8_0_96) => if (n_95 == 0) then (((rangeL s_l6Model_b3 g8_0_96 0 n_95) : Option (Jn (Int) (Lo (Int × (List Int)) (Model × Int)))).bind fun j => match j with | .nx n_106 => (((if decide (n_106 > 12) then ((sl g8_0_96 0 (i64 ((g8_0_96.length : Int) - 1))).bind fun x122 => some (0, x122)) else (some (n_106, g8_0_96))) : Option (Int × (List Int))).bind fun (n_117, g8_0_118) => some (.cont (n_117, g8_0_118))) | .out t => some t) else (some (.brk (n_95, g8_0_96)))
def s_l6Model_b4 (fu : Nat) (r_ : Rd) (g8_0_96 : List Int) : (Int × Int × (List Rule)) → Option (Lo (Int × Int × (List Rule)) (Model × Int))
  | (i_151, g_0_1_152, g8_1_153) => if decide (i_151 > 0) then ((s_l6Draw fu ({ b := r_.b, p := g_0_1_152 } : Rd) ({ sizes := g8_0_96, rules := g8_1_153 } : Model)).bind fun x166 => (app g8_1_153 ([x166.1])).bind fun x174 => some (.cont (i64 (i_151 - 1), x166.2, x174))) else (some (.brk (i_151, g_0_1_152, g8_1_153)))
def s_l6Model (fu : Nat) (r_ : Rd) : Option (Model × Int) :=
  (s_l17Rd_num r_ ([3, 2, 4, 3])).bind fun x20 => ((whileL (s_l6Model_b1 r_) fu (x20.1, x20.2, [])) : Option (Jn (Int × Int × (List Int)) (Model × Int))).bind fun j => match j with | .nx (i_33, g_0_1_34, g8_0_35) => (((whileL s_l6Model_b2 fu (0, g8_0_35)) : Option (Jn (Int × (List Int)) (Model × Int))).bind fun j => match j with | .nx (n_95, g8_0_96) => ((s_l17Rd_num ({ b := r_.b, p := g_0_1_34 } : Rd) ([2, 3, 1, 4, 0])).bind fun x138 => ((whileL (s_l6Model_b4 fu r_ g8_0_96) fu (x138.1, x138.2, [])) : Option (Jn (Int × Int × (List Rule)) (Model × Int))).bind fun j => match j with | .nx (i_151, g_0_1_152, g8_1_153) => (some (({ sizes := g8_0_96, rules := g8_1_153 } : Model), g_0_1_152)) | .out t => some t) | .out t => some t) | .out t => some t
noncomputable def s_DrawBoolVar (fu : Nat) (code : List UInt8) : Option (Unit) :=
  (s_l17Open code).bind fun x5 => (s_l6Model fu x5).bind fun x8 => anyB (s_l6Mutate fu ({ b := x5.b, p := x8.2 } : Rd) x8.1) (fun o : Model × Int => sModel o.1 ∧ rdOk x8.2 o.2) fun x14 => (s_l17Rd_num ({ b := x5.b, p := x14.2 } : Rd) ([0, 1, 2, 3, (-1), 5])).bind fun x37 => (s_l17Rd_num ({ b := x5.b, p := x37.2 } : Rd) ([0, 1, 2, 3, (-1), 4])).bind fun x48 => assertM (sModel x14.1)
def i_within (n_ : Int) (low : Int) (high : Int) : Option (Bool) :=
  some ((decide (low ≤ n_)) && (decide (n_ ≤ high)))
def slices_IndexFunc_implRule_b1 (f_ : (Rule → Option Bool)) (i_1 : Nat) (x_2 : Rule) : (Unit) → Option (Lo (Unit) (Int))
  | () => (f_ x_2).bind fun x8 => if x8 then (some (.out (i_1 : Int))) else (some (.cont ()))
def slices_IndexFunc_implRule (s : List Rule) (f_ : (Rule → Option Bool)) : Option (Int) :=
  ((rangeL (slices_IndexFunc_implRule_b1 f_) s 0 ()) : Option (Jn (Unit) (Int))).bind fun j => match j with | .nx _ => (some (-1)) | .out t => some t
def slices_ContainsFunc_implRule (s : List Rule) (f_ : (Rule → Option Bool)) : Option (Bool) :=
  (slices_IndexFunc_implRule s f_).bind fun x6 => some (decide (x6 ≥ 0))
def slices_Index_int_b1 (v_ : Int) (i_1 : Nat) (x_2 : Int) : (Unit) → Option (Lo (Unit) (Int))
  | () => if (v_ == x_2) then (some (.out (i_1 : Int))) else (some (.cont ()))
def slices_Index_int (s : List Int) (v_ : Int) : Option (Int) :=
  ((rangeL (slices_Index_int_b1 v_) s 0 ()) : Option (Jn (Unit) (Int))).bind fun j => match j with | .nx _ => (some (-1)) | .out t => some t
def slices_Contains_int (s : List Int) (v_ : Int) : Option (Bool) :=
  (slices_Index_int s v_).bind fun x6 => some (decide (x6 ≥ 0))
def slices_IndexFunc_int_b1 (f_ : (Int → Option Bool)) (i_1 : Nat) (x_2 : Int) : (Unit) → Option (Lo (Unit) (Int))
  | () => (f_ x_2).bind fun x8 => if x8 then (some (.out (i_1 : Int))) else (some (.cont ()))
def slices_IndexFunc_int (s : List Int) (f_ : (Int → Option Bool)) : Option (Int) :=
  ((rangeL (slices_IndexFunc_int_b1 f_) s 0 ()) : Option (Jn (Unit) (Int))).bind fun j => match j with | .nx _ => (some (-1)) | .out t => some t
def slices_ContainsFunc_int (s : List Int) (f_ : (Int → Option Bool)) : Option (Bool) :=
  (slices_IndexFunc_int s f_).bind fun x6 => some (decide (x6 ≥ 0))
def i_ruleValid_1 (n_ : Int) : Option (Bool) :=
  (if (n_ == 0) then some true else ((i_within n_ (-9) 9).bind fun x6 => some (!x6))).bind fun b8 => some b8
def slices_IndexFunc_Sint_b1 (f_ : ((List Int) → Option Bool)) (i_1 : Nat) (x_2 : List Int) : (Unit) → Option (Lo (Unit) (Int))
  | () => (f_ x_2).bind fun x8 => if x8 then (some (.out (i_1 : Int))) else (some (.cont ()))
def slices_IndexFunc_Sint (s : List (List Int)) (f_ : ((List Int) → Option Bool)) : Option (Int) :=
  ((rangeL (slices_IndexFunc_Sint_b1 f_) s 0 ()) : Option (Jn (Unit) (Int))).bind fun j => match j with | .nx _ => (some (-1)) | .out t => some t
def slices_ContainsFunc_Sint (s : List (List Int)) (f_ : ((List Int) → Option Bool)) : Option (Bool) :=
  (slices_IndexFunc_Sint s f_).bind fun x6 => some (decide (x6 ≥ 0))
def i_ruleValid_2_1 (n_ : Int) : Option (Bool) :=
  (i_within n_ 0 3).bind fun x6 => some (!x6)
def i_ruleValid_2 (c1 : Rule) (row : List Int) : Option (Bool) :=
  (if ((row.length : Int) != (c1.vars.length : Int)) then some true else ((slices_ContainsFunc_int row i_ruleValid_2_1).bind fun x6 => some x6)).bind fun b8 => some b8
def i_ruleValid_b1 (r_ : Rule) (cells : Int) (i_5 : Nat) (x_6 : Int) : (Unit) → Option (Lo (Unit) (Bool))
  | () => (i_within x_6 0 (i64 (cells - 1))).bind fun x21 => (if (!x21) then some true else ((sl r_.vars 0 (i_5 : Int)).bind fun x23 => (slices_Contains_int x23 x_6).bind fun x31 => some x31)).bind fun b33 => if b33 then (some (.out false)) else (some (.cont ()))
def i_ruleValid (r_ : Rule) (cells : Int) : Option (Bool) :=
  ((rangeL (i_ruleValid_b1 r_ cells) r_.vars 0 ()) : Option (Jn (Unit) (Bool))).bind fun j => match j with | .nx _ => (if ((((r_.vars.length : Int) == 0) || ((r_.kind != 1) && ((decide ((r_.coefs.length : Int) > 0)) || (r_.bound != 0)))) || ((r_.kind != 3) && (decide ((r_.rows.length : Int) > 0)))) then (some false) else (if (r_.kind == 1) then ((if ((r_.coefs.length : Int) == (r_.vars.length : Int)) then ((i_within r_.bound (-1000) 1000).bind fun x70 => some x70) else some false).bind fun b72 => (if b72 then ((slices_ContainsFunc_int r_.coefs i_ruleValid_1).bind fun x78 => some (!x78)) else some false).bind fun b80 => some b80) else (if (r_.kind == 3) then ((if decide ((r_.rows.length : Int) ≤ 8) then ((slices_ContainsFunc_Sint r_.rows (i_ruleValid_2 r_)).bind fun x111 => some (!x111)) else some false).bind fun b113 => some b113) else (if (r_.kind == 4) then (some ((r_.vars.length : Int) == 2)) else (some (r_.kind == 2)))))) | .out t => some t
def i_ModelValid_1 (c1 : Model) (r_ : Rule) : Option (Bool) :=
  (i_ruleValid r_ (c1.sizes.length : Int)).bind fun x10 => some (!x10)
def i_ModelValid_b1 (_i_21 : Nat) (x_23 : Int) : (Int) → Option (Lo (Int) (Bool))
  | count_22 => (i_within x_23 0 3).bind fun x38 => if (!x38) then (some (.out false)) else (some (.cont (i64 (count_22 + (i64 (x_23 + 1))))))
def i_ModelValid (m : Model) : Option (Bool) :=
  (i_within (m.sizes.length : Int) 1 5).bind fun x10 => if ((!x10) || (decide ((m.rules.length : Int) > 8))) then (some false) else (((rangeL i_ModelValid_b1 m.sizes 0 0) : Option (Jn (Int) (Bool))).bind fun j => match j with | .nx count_22 => ((if decide (count_22 ≤ 12) then ((slices_ContainsFunc_implRule m.rules (i_ModelValid_1 m)).bind fun x52 => some (!x52)) else some false).bind fun b54 => some b54) | .out t => some t)
def i_Model_boolVar_b1 (_i_10 : Nat) (x_12 : Int) : (Int) → Option (Lo (Int) (Int))
  | v_11 => some (.cont (i64 (v_11 + (i64 (x_12 + 1)))))
def i_Model_boolVar (m : Model) (cell : Int) (value : Int) : Option (Int) :=
  (sl m.sizes 0 cell).bind fun x5 => ((rangeL i_Model_boolVar_b1 x5 0 (i64 (1 + value))) : Option (Jn (Int) (Int))).bind fun j => match j with | .nx v_11 => (some v_11) | .out t => some t
def i_BoolVar (m : Model) (cell : Int) (value : Int) : Option (Int) :=
  (i_ModelValid m).bind fun x10 => (if (!x10) then some true else ((i_within cell 0 (i64 ((m.sizes.length : Int) - 1))).bind fun x17 => some (!x17))).bind fun b19 => (if b19 then some true else ((idx m.sizes cell).bind fun x20 => (i_within value 0 x20).bind fun x30 => some (!x30))).bind fun b32 => if b32 then (some 0) else ((i_Model_boolVar m cell value).bind fun x75 => some x75)
def s_l6Vars_b2 (list : List Int) (x_8 : Int) (i_54 : Nat) : (Unit) → Option (Lo (Unit) (Lo (Unit) (Bool)))
  | () => (idx list (i_54 : Int)).bind fun x60 => if (x60 == x_8) then (some (.out (.out false))) else (some (.cont ()))
def s_l6Vars_b1 (m : Model) (list : List Int) (i_5 : Nat) (x_8 : Int) : (Unit) → Option (Lo (Unit) (Bool))
  | () => if ((decide (x_8 < 0)) || (decide (x_8 ≥ (m.sizes.length : Int)))) then (some (.out false)) else ((cntF 0 (i_5 : Int)).bind fun k58 => ((countL (s_l6Vars_b2 list x_8) k58 0 ()) : Option (Jn (Unit) (Lo (Unit) (Bool)))).bind fun j => match j with | .nx _ => (some (.cont ())) | .out t => some t)
def s_l6Vars (m : Model) (list : List Int) : Option (Bool) :=
  ((rangeL (s_l6Vars_b1 m list) list 0 ()) : Option (Jn (Unit) (Bool))).bind fun j => match j with | .nx _ => (some (decide ((list.length : Int) ≥ 1))) | .out t => some t
def s_l6Linear_b1 (_i_5 : Nat) (x_6 : Int) : (Unit) → Option (Lo (Unit) (Bool))
  | () => if (((decide (x_6 < (-9))) || (decide (x_6 > 9))) || (x_6 == 0)) then (some (.out false)) else (some (.cont ()))
def s_l6Linear (r_ : Rule) : Option (Bool) :=
  ((rangeL s_l6Linear_b1 r_.coefs 0 ()) : Option (Jn (Unit) (Bool))).bind fun j => match j with | .nx _ => (some ((((r_.coefs.length : Int) == (r_.vars.length : Int)) && (decide (r_.bound ≥ (-1000)))) && (decide (r_.bound ≤ 1000)))) | .out t => some t
def s_l6Table_b2 (x_8 : List Int) (i_27 : Nat) : (Unit) → Option (Lo (Unit) (Lo (Unit) (Bool)))
  | () => (idx x_8 (i_27 : Int)).bind fun x43 => if ((decide (x43 < 0)) || (decide (x43 > 3))) then (some (.out (.out false))) else (some (.cont ()))
def s_l6Table_b1 (r_ : Rule) (_i_5 : Nat) (x_8 : List Int) : (Unit) → Option (Lo (Unit) (Bool))
  | () => if ((x_8.length : Int) != (r_.vars.length : Int)) then (some (.out false)) else ((cntF 0 (x_8.length : Int)).bind fun k29 => ((countL (s_l6Table_b2 x_8) k29 0 ()) : Option (Jn (Unit) (Lo (Unit) (Bool)))).bind fun j => match j with | .nx _ => (some (.cont ())) | .out t => some t)
def s_l6Table (r_ : Rule) : Option (Bool) :=
  ((rangeL (s_l6Table_b1 r_) r_.rows 0 ()) : Option (Jn (Unit) (Bool))).bind fun j => match j with | .nx _ => (some (decide ((r_.rows.length : Int) ≤ 8))) | .out t => some t
def s_l6Rule (m : Model) (r_ : Rule) : Option (Bool) :=
  (s_l6Vars m r_.vars).bind fun x14 => if (((!x14) || ((r_.kind != 1) && (((r_.coefs.length : Int) != 0) || (r_.bound != 0)))) || ((r_.kind != 3) && ((r_.rows.length : Int) != 0))) then (some false) else (if (r_.kind == 1) then ((s_l6Linear r_).bind fun x41 => some x41) else (if (r_.kind == 2) then (some true) else (if (r_.kind == 3) then ((s_l6Table r_).bind fun x56 => some x56) else (if (r_.kind == 4) then (some ((r_.vars.length : Int) == 2)) else (some false)))))
def s_ModelValid_b1 (m : Model) : (Int × Int) → Option (Lo (Int × Int) (Bool))
  | (n_8, i_9) => if ((decide (i_9 < (m.sizes.length : Int))) && (decide (i_9 < 5))) then ((idx m.sizes i_9).bind fun x14 => if ((decide (x14 < 0)) || (decide (x14 > 3))) then (some (.out false)) else (some (.cont (i64 ((i64 (n_8 + x14)) + 1), i64 (i_9 + 1))))) else (some (.brk (n_8, i_9)))
def s_ModelValid_b2 (m : Model) (_i_51 : Nat) (x_54 : Rule) : (Unit) → Option (Lo (Unit) (Bool))
  | () => (s_l6Rule m x_54).bind fun x65 => if (!x65) then (some (.out false)) else (some (.cont ()))
def s_ModelValid (fu : Nat) (m : Model) : Option (Bool) :=
  ((whileL (s_ModelValid_b1 m) fu (0, 0)) : Option (Jn (Int × Int) (Bool))).bind fun j => match j with | .nx (n_8, i_9) => (if ((((decide ((m.sizes.length : Int) < 1)) || (decide ((m.sizes.length : Int) > 5))) || (decide (n_8 > 12))) || (decide ((m.rules.length : Int) > 8))) then (some false) else (((rangeL (s_ModelValid_b2 m) m.rules 0 ()) : Option (Jn (Unit) (Bool))).bind fun j => match j with | .nx _ => (some true) | .out t => some t)) | .out t => some t
def s_l7Var_b1 (m : Model) (i_5 : Nat) : (Int) → Option (Lo (Int) (Int))
  | n_6 => (idx m.sizes (i_5 : Int)).bind fun x10 => some (.cont (i64 ((i64 (n_6 + x10)) + 1)))
def s_l7Var (m : Model) (cell : Int) (value : Int) : Option (Int) :=
  (cntF 0 cell).bind fun k8 => ((countL (s_l7Var_b1 m) k8 0 (i64 (1 + value))) : Option (Jn (Int) (Int))).bind fun j => match j with | .nx n_6 => (some n_6) | .out t => some t
def s_BoolVar (fu : Nat) (m : Model) (cell : Int) (value : Int) : Option (Int) :=
  (s_ModelValid fu m).bind fun x10 => (if ((((!x10) || (decide (cell < 0))) || (decide (cell ≥ (m.sizes.length : Int)))) || (decide (value < 0))) then some true else ((idx m.sizes cell).bind fun x12 => some (decide (value > x12)))).bind fun b17 => if b17 then (some 0) else ((s_l7Var m cell value).bind fun x78 => some x78)
def i_FreeVars (m : Model) : Option (Int) :=
  (i_ModelValid m).bind fun x10 => if (!x10) then (some 0) else ((idx m.sizes (i64 ((m.sizes.length : Int) - 1))).bind fun x19 => (i_Model_boolVar m (i64 ((m.sizes.length : Int) - 1)) x19).bind fun x29 => some (i64 (12 - x29)))
noncomputable def l_FnBoolVar (fu : Nat) (code : List UInt8) (more : List UInt8) : Option (Bool) :=
  if ((decide ((code.length : Int) > 1048576)) || (decide ((more.length : Int) > 1048576))) then (some true) else (anyB (s_DrawBoolVar fu code) (fun o : Model × Int × Int => sModel o.1) fun x4 => anyB (s_DrawBoolVar fu more) (fun o : Model × Int × Int => sModel o.1) fun x13 => (i_BoolVar x4.1 x4.2.1 x4.2.2).bind fun x27 => (i_BoolVar x4.1 x13.2.1 x13.2.2).bind fun x40 => (s_BoolVar fu x4.1 x4.2.1 x4.2.2).bind fun x53 => if (((x27 != x53) || (x27 == 0)) || (x40 == 0)) then ((s_BoolVar fu x4.1 x4.2.1 x4.2.2).bind fun x71 => some (x27 == x71)) else ((if (((x27 == x40) == ((x4.2.1 == x13.2.1) && (x4.2.2 == x13.2.2))) && (decide (x27 ≥ 1))) then ((i_FreeVars x4.1).bind fun x84 => some (decide (x27 ≤ (i64 (12 - x84))))) else some false).bind fun b86 => some b86))
def s_l6DrawCells_b1 (r_ : Rd) (_i_11 : Nat) (x_15 : Int) : ((List Int) × Int) → Option (Lo ((List Int) × Int) ((List Int) × Int))
  | (out_12, g_0_1_14) => ((if ((decide ((i64 (x_15 + 1)) < 1)) || (decide ((i64 (x_15 + 1)) > 4))) then (some 1) else (some (i64 (x_15 + 1)))) : Option (Int)).bind fun n_27 => (s_l17Rd_pick ({ b := r_.b, p := g_0_1_14 } : Rd) n_27).bind fun x35 => (app out_12 ([x35.1])).bind fun x40 => some (.cont (x40, x35.2))
def s_l6DrawCells (r_ : Rd) (m : Model) : Option ((List Int) × Int) :=
  ((rangeL (s_l6DrawCells_b1 r_) m.sizes 0 ([], r_.p)) : Option (Jn ((List Int) × Int) ((List Int) × Int))).bind fun j => match j with | .nx (out_12, g_0_1_14) => ((s_l17Rd_pick ({ b := r_.b, p := g_0_1_14 } : Rd) 40).bind fun x61 => ((if (x61.1 == 0) then ((app out_12 ([0])).bind fun x77 => some (x77, x61.2)) else (((if (x61.1 == 1) then (((if decide ((out_12.length : Int) > 0) then ((s_l17Rd_num ({ b := r_.b, p := x61.2 } : Rd) ([(-1), 4, 9223372036854775807])).bind fun x104 => (idx out_12 0).bind fun x106 => some ((out_12.set (Int.toNat 0) x104.1), x104.2)) else (some (out_12, x61.2))) : Option ((List Int) × Int)).bind fun (out_91, g_0_1_92) => some (out_91, g_0_1_92)) else (some (out_12, x61.2))) : Option ((List Int) × Int)).bind fun (out_87, g_0_1_88) => some (out_87, g_0_1_88))) : Option ((List Int) × Int)).bind fun (out_69, g_0_1_71) => some (out_69, g_0_1_71)) | .out t => some t
noncomputable def s_DrawRuleHolds (fu : Nat) (code : List UInt8) : Option (Unit) :=
  (s_l17Open code).bind fun x5 => (s_l6Model fu x5).bind fun x8 => anyB (s_l6Mutate fu ({ b := x5.b, p := x8.2 } : Rd) x8.1) (fun o : Model × Int => sModel o.1 ∧ rdOk x8.2 o.2) fun x14 => (s_l17Rd_num ({ b := x5.b, p := x14.2 } : Rd) ([0, 0, 1, 2, (-1), 8])).bind fun x37 => (s_l6DrawCells ({ b := x5.b, p := x37.2 } : Rd) x14.1).bind fun x44 => assertM (sModel x14.1 ∧ sOut x44.1)
def i_CellsValid_b1 (m : Model) (i_21 : Nat) (x_22 : Int) : (Unit) → Option (Lo (Unit) (Bool))
  | () => (idx m.sizes (i_21 : Int)).bind fun x32 => (i_within x_22 0 x32).bind fun x42 => if (!x42) then (some (.out false)) else (some (.cont ()))
def i_CellsValid (m : Model) (cells : List Int) : Option (Bool) :=
  (i_ModelValid m).bind fun x10 => if ((!x10) || ((cells.length : Int) != (m.sizes.length : Int))) then (some false) else (((rangeL (i_CellsValid_b1 m) cells 0 ()) : Option (Jn (Unit) (Bool))).bind fun j => match j with | .nx _ => (some true) | .out t => some t)
def i_isRule (m : Model) (rule : Int) : Option (Bool) :=
  (i_within rule 0 (i64 ((m.rules.length : Int) - 1))).bind fun x10 => some x10
def slices_Equal_int_b1 (s2 : List Int) (i_2 : Nat) (x_5 : Int) : (Unit) → Option (Lo (Unit) (Bool))
  | () => (idx s2 (i_2 : Int)).bind fun x11 => if (x_5 != x11) then (some (.out false)) else (some (.cont ()))
def slices_Equal_int (s1 : List Int) (s2 : List Int) : Option (Bool) :=
  if ((s1.length : Int) != (s2.length : Int)) then (some false) else (((rangeL (slices_Equal_int_b1 s2) s1 0 ()) : Option (Jn (Unit) (Bool))).bind fun j => match j with | .nx _ => (some true) | .out t => some t)
def i_Rule_holds_1 (c1 : List Int) (row : List Int) : Option (Bool) :=
  (slices_Equal_int row c1).bind fun x6 => some x6
def i_Rule_holds_b1 (r_ : Rule) (i_10 : Nat) (x_12 : Int) : (Int) → Option (Lo (Int) (Bool))
  | sum_11 => (idx r_.coefs (i_10 : Int)).bind fun x22 => some (.cont (i64 (sum_11 + (i64 (x22 * x_12)))))
def i_Rule_holds_b2 (vals : List Int) (i_32 : Nat) (x_33 : Int) : (Unit) → Option (Lo (Unit) (Bool))
  | () => (sl vals 0 (i_32 : Int)).bind fun x43 => (slices_Contains_int x43 x_33).bind fun x51 => if x51 then (some (.out false)) else (some (.cont ()))
def i_Rule_holds (r_ : Rule) (vals : List Int) : Option (Bool) :=
  if (r_.kind == 1) then (((rangeL (i_Rule_holds_b1 r_) vals 0 0) : Option (Jn (Int) (Bool))).bind fun j => match j with | .nx sum_11 => (some (decide (sum_11 ≥ r_.bound))) | .out t => some t) else (if (r_.kind == 2) then (((rangeL (i_Rule_holds_b2 vals) vals 0 ()) : Option (Jn (Unit) (Bool))).bind fun j => match j with | .nx _ => (some true) | .out t => some t) else (if (r_.kind == 3) then ((slices_ContainsFunc_Sint r_.rows (i_Rule_holds_1 vals)).bind fun x68 => some x68) else ((idx vals 0).bind fun x77 => (idx vals 1).bind fun x82 => some (decide (x77 < x82)))))
def i_Rule_at_b1 (cells : List Int) (_i_5 : Nat) (x_8 : Int) : (List Int) → Option (Lo (List Int) (Bool))
  | vals_6 => (idx cells x_8).bind fun x19 => (app vals_6 ([x19])).bind fun x27 => some (.cont x27)
def i_Rule_at (r_ : Rule) (cells : List Int) : Option (Bool) :=
  ((rangeL (i_Rule_at_b1 cells) r_.vars 0 ([])) : Option (Jn (List Int) (Bool))).bind fun j => match j with | .nx vals_6 => ((i_Rule_holds r_ vals_6).bind fun x47 => some x47) | .out t => some t
def i_RuleHolds (m : Model) (rule : Int) (cells : List Int) : Option (Bool) :=
  (i_CellsValid m cells).bind fun x10 => (if x10 then ((i_isRule m rule).bind fun x17 => some x17) else some false).bind fun b19 => (if b19 then ((idx m.rules rule).bind fun x20 => (i_Rule_at x20 cells).bind fun x30 => some x30) else some false).bind fun b32 => some b32
def s_l6Cells_b1 (m : Model) (i_6 : Nat) (x_9 : Int) : (Unit) → Option (Lo (Unit) (Bool))
  | () => (if decide (x_9 < 0) then some true else ((idx m.sizes (i_6 : Int)).bind fun x19 => some (decide (x_9 > x19)))).bind fun b24 => if b24 then (some (.out false)) else (some (.cont ()))
def s_l6Cells (m : Model) (cells : List Int) : Option (Bool) :=
  if ((cells.length : Int) != (m.sizes.length : Int)) then (some false) else (((rangeL (s_l6Cells_b1 m) cells 0 ()) : Option (Jn (Unit) (Bool))).bind fun j => match j with | .nx _ => (some true) | .out t => some t)
def s_CellsValid (fu : Nat) (m : Model) (cells : List Int) : Option (Bool) :=
  (s_ModelValid fu m).bind fun x10 => (if x10 then ((s_l6Cells m cells).bind fun x17 => some x17) else some false).bind fun b19 => some b19
def s_l6Ints_b1 (b : List Int) (i_2 : Nat) (x_5 : Int) : (Unit) → Option (Lo (Unit) (Bool))
  | () => (idx b (i_2 : Int)).bind fun x11 => if (x_5 != x11) then (some (.out false)) else (some (.cont ()))
def s_l6Ints (a : List Int) (b : List Int) : Option (Bool) :=
  if ((a.length : Int) != (b.length : Int)) then (some false) else (((rangeL (s_l6Ints_b1 b) a 0 ()) : Option (Jn (Unit) (Bool))).bind fun j => match j with | .nx _ => (some true) | .out t => some t)
def s_l6Holds_b1 (cells : List Int) (_i_11 : Nat) (x_14 : Int) : (List Int) → Option (Lo (List Int) (Bool))
  | list_12 => (idx cells x_14).bind fun x20 => (app list_12 ([x20])).bind fun x28 => some (.cont x28)
def s_l6Holds_b2 (r_ : Rule) (i_47 : Nat) (x_51 : Int) : (Int) → Option (Lo (Int) (Bool))
  | n_48 => (idx r_.coefs (i_47 : Int)).bind fun x53 => some (.cont (i64 (n_48 + (i64 (x53 * x_51)))))
def s_l6Holds_b4 (list_12 : List Int) (x_83 : Int) (i_85 : Nat) : (Unit) → Option (Lo (Unit) (Lo (Unit) (Bool)))
  | () => (idx list_12 (i_85 : Int)).bind fun x91 => if (x91 == x_83) then (some (.out (.out false))) else (some (.cont ()))
def s_l6Holds_b3 (list_12 : List Int) (i_80 : Nat) (x_83 : Int) : (Unit) → Option (Lo (Unit) (Bool))
  | () => (cntF 0 (i_80 : Int)).bind fun k89 => ((countL (s_l6Holds_b4 list_12 x_83) k89 0 ()) : Option (Jn (Unit) (Lo (Unit) (Bool)))).bind fun j => match j with | .nx _ => (some (.cont ())) | .out t => some t
def s_l6Holds_b5 (list_12 : List Int) (_i_130 : Nat) (x_131 : List Int) : (Unit) → Option (Lo (Unit) (Bool))
  | () => (s_l6Ints x_131 list_12).bind fun x143 => if x143 then (some (.out true)) else (some (.cont ()))
def s_l6Holds (r_ : Rule) (cells : List Int) : Option (Bool) :=
  ((rangeL (s_l6Holds_b1 cells) r_.vars 0 ([])) : Option (Jn (List Int) (Bool))).bind fun j => match j with | .nx list_12 => (if (r_.kind == 1) then (((rangeL (s_l6Holds_b2 r_) list_12 0 0) : Option (Jn (Int) (Bool))).bind fun j => match j with | .nx n_48 => (some (decide (n_48 ≥ r_.bound))) | .out t => some t) else (if (r_.kind == 2) then (((rangeL (s_l6Holds_b3 list_12) list_12 0 ()) : Option (Jn (Unit) (Bool))).bind fun j => match j with | .nx _ => (some true) | .out t => some t) else (if (r_.kind == 4) then ((idx list_12 0).bind fun x111 => (idx list_12 1).bind fun x116 => some (decide (x111 < x116))) else (((rangeL (s_l6Holds_b5 list_12) r_.rows 0 ()) : Option (Jn (Unit) (Bool))).bind fun j => match j with | .nx _ => (some false) | .out t => some t)))) | .out t => some t
def s_RuleHolds (fu : Nat) (m : Model) (rule : Int) (cells : List Int) : Option (Bool) :=
  (s_CellsValid fu m cells).bind fun x10 => (if ((x10 && (decide (rule ≥ 0))) && (decide (rule < (m.rules.length : Int)))) then ((idx m.rules rule).bind fun x12 => (s_l6Holds x12 cells).bind fun x22 => some x22) else some false).bind fun b24 => some b24
def l_FnRuleDifferent_b1 : (Int × (List Rule)) → Option (Lo (Int × (List Rule)) (Bool))
  | (i_30, g26_1_31) => if decide (i_30 ≥ 0) then ((idx g26_1_31 0).bind fun x36 => (app x36.vars ([i_30])).bind fun x46 => some (.cont (i64 (i_30 - 1), (g26_1_31.set (Int.toNat 0) ({ kind := x36.kind, vars := x46, coefs := x36.coefs, bound := x36.bound, rows := x36.rows } : Rule))))) else (some (.brk (i_30, g26_1_31)))
def l_FnRuleDifferent_b3 (x2 : Model × Int × (List Int)) (x_148 : Int) (i_150 : Nat) : (Bool) → Option (Lo (Bool) (Lo (Bool) (Bool)))
  | twice_151 => (if twice_151 then some true else ((idx x2.2.2 (i_150 : Int)).bind fun x161 => some (x_148 == x161))).bind fun b166 => some (.cont b166)
def l_FnRuleDifferent_b2 (x2 : Model × Int × (List Int)) (i_144 : Nat) (x_148 : Int) : (Bool) → Option (Lo (Bool) (Bool))
  | twice_145 => (cntF 0 (i_144 : Int)).bind fun k155 => ((countL (l_FnRuleDifferent_b3 x2 x_148) k155 0 twice_145) : Option (Jn (Bool) (Lo (Bool) (Bool)))).bind fun j => match j with | .nx twice_151 => (some (.cont twice_151)) | .out t => some t
noncomputable def l_FnRuleDifferent (fu : Nat) (code : List UInt8) : Option (Bool) :=
  if decide ((code.length : Int) > 1048576) then (some true) else (anyB (s_DrawRuleHolds fu code) (fun o : Model × Int × (List Int) => sModel o.1 ∧ sOut o.2.2) fun x2 => ((whileL l_FnRuleDifferent_b1 fu (i64 ((x2.1.sizes.length : Int) - 1), [({ kind := 2, vars := [], coefs := [], bound := 0, rows := [] } : Rule)])) : Option (Jn (Int × (List Rule)) (Bool))).bind fun j => match j with | .nx (i_30, g26_1_31) => ((i_RuleHolds ({ sizes := x2.1.sizes, rules := g26_1_31 } : Model) 0 x2.2.2).bind fun x86 => (s_RuleHolds fu ({ sizes := x2.1.sizes, rules := g26_1_31 } : Model) 0 x2.2.2).bind fun x101 => (if (x86 != x101) then some true else ((i_CellsValid ({ sizes := x2.1.sizes, rules := g26_1_31 } : Model) x2.2.2).bind fun x109 => some (!x109))).bind fun b111 => if b111 then ((s_RuleHolds fu ({ sizes := x2.1.sizes, rules := g26_1_31 } : Model) 0 x2.2.2).bind fun x135 => some (x86 == x135)) else (((rangeL (l_FnRuleDifferent_b2 x2) x2.2.2 0 false) : Option (Jn (Bool) (Bool))).bind fun j => match j with | .nx twice_145 => (some (x86 != twice_145)) | .out t => some t)) | .out t => some t)
noncomputable def l_FnRuleLess (fu : Nat) (code : List UInt8) : Option (Bool) :=
  if decide ((code.length : Int) > 1048576) then (some true) else (anyB (s_DrawRuleHolds fu code) (fun o : Model × Int × (List Int) => sModel o.1 ∧ sOut o.2.2) fun x2 => if decide ((x2.1.sizes.length : Int) < 2) then (some true) else ((i_RuleHolds ({ sizes := x2.1.sizes, rules := [({ kind := 4, vars := [0, 1], coefs := [], bound := 0, rows := [] } : Rule), ({ kind := 4, vars := [1, 0], coefs := [], bound := 0, rows := [] } : Rule), ({ kind := 1, vars := [0, 1], coefs := [(-1), 1], bound := 1, rows := [] } : Rule)] } : Model) 0 x2.2.2).bind fun x64 => (i_RuleHolds ({ sizes := x2.1.sizes, rules := [({ kind := 4, vars := [0, 1], coefs := [], bound := 0, rows := [] } : Rule), ({ kind := 4, vars := [1, 0], coefs := [], bound := 0, rows := [] } : Rule), ({ kind := 1, vars := [0, 1], coefs := [(-1), 1], bound := 1, rows := [] } : Rule)] } : Model) 1 x2.2.2).bind fun x79 => (s_RuleHolds fu ({ sizes := x2.1.sizes, rules := [({ kind := 4, vars := [0, 1], coefs := [], bound := 0, rows := [] } : Rule), ({ kind := 4, vars := [1, 0], coefs := [], bound := 0, rows := [] } : Rule), ({ kind := 1, vars := [0, 1], coefs := [(-1), 1], bound := 1, rows := [] } : Rule)] } : Model) 0 x2.2.2).bind fun x94 => (if (x64 != x94) then some true else ((s_RuleHolds fu ({ sizes := x2.1.sizes, rules := [({ kind := 4, vars := [0, 1], coefs := [], bound := 0, rows := [] } : Rule), ({ kind := 4, vars := [1, 0], coefs := [], bound := 0, rows := [] } : Rule), ({ kind := 1, vars := [0, 1], coefs := [(-1), 1], bound := 1, rows := [] } : Rule)] } : Model) 1 x2.2.2).bind fun x102 => some (x79 != x102))).bind fun b104 => (if b104 then some true else ((i_CellsValid ({ sizes := x2.1.sizes, rules := [({ kind := 4, vars := [0, 1], coefs := [], bound := 0, rows := [] } : Rule), ({ kind := 4, vars := [1, 0], coefs := [], bound := 0, rows := [] } : Rule), ({ kind := 1, vars := [0, 1], coefs := [(-1), 1], bound := 1, rows := [] } : Rule)] } : Model) x2.2.2).bind fun x111 => some (!x111))).bind fun b113 => if b113 then ((s_RuleHolds fu ({ sizes := x2.1.sizes, rules := [({ kind := 4, vars := [0, 1], coefs := [], bound := 0, rows := [] } : Rule), ({ kind := 4, vars := [1, 0], coefs := [], bound := 0, rows := [] } : Rule), ({ kind := 1, vars := [0, 1], coefs := [(-1), 1], bound := 1, rows := [] } : Rule)] } : Model) 0 x2.2.2).bind fun x153 => (if (x64 == x153) then ((s_RuleHolds fu ({ sizes := x2.1.sizes, rules := [({ kind := 4, vars := [0, 1], coefs := [], bound := 0, rows := [] } : Rule), ({ kind := 4, vars := [1, 0], coefs := [], bound := 0, rows := [] } : Rule), ({ kind := 1, vars := [0, 1], coefs := [(-1), 1], bound := 1, rows := [] } : Rule)] } : Model) 1 x2.2.2).bind fun x161 => some (x79 == x161)) else some false).bind fun b163 => some b163) else ((if (!(x64 && x79)) then ((idx x2.2.2 0).bind fun x180 => (idx x2.2.2 1).bind fun x185 => some ((x64 || x79) == (x180 != x185))) else some false).bind fun b190 => (if b190 then ((i_RuleHolds ({ sizes := x2.1.sizes, rules := [({ kind := 4, vars := [0, 1], coefs := [], bound := 0, rows := [] } : Rule), ({ kind := 4, vars := [1, 0], coefs := [], bound := 0, rows := [] } : Rule), ({ kind := 1, vars := [0, 1], coefs := [(-1), 1], bound := 1, rows := [] } : Rule)] } : Model) 2 x2.2.2).bind fun x197 => some (x197 == x64)) else some false).bind fun b199 => some b199)))
def l_FnRuleLinear_b1 (_i_226 : Nat) (x_231 : Int) : (List Int) → Option (Lo (List Int) (Bool))
  | g223_2_227 => (app g223_2_227 ([i64 (-x_231)])).bind fun x241 => some (.cont x241)
noncomputable def l_FnRuleLinear (fu : Nat) (code : List UInt8) : Option (Bool) :=
  if decide ((code.length : Int) > 1048576) then (some true) else (anyB (s_DrawRuleHolds fu code) (fun o : Model × Int × (List Int) => sModel o.1 ∧ sOut o.2.2) fun x2 => (i_RuleHolds x2.1 x2.2.1 x2.2.2).bind fun x16 => (s_RuleHolds fu x2.1 x2.2.1 x2.2.2).bind fun x29 => (if (x16 != x29) then some true else ((i_CellsValid x2.1 x2.2.2).bind fun x36 => some (!x36))).bind fun b38 => (if ((b38 || (decide (x2.2.1 < 0))) || (decide (x2.2.1 ≥ (x2.1.rules.length : Int)))) then some true else ((idx x2.1.rules x2.2.1).bind fun x39 => some (x39.kind != 1))).bind fun b44 => (if b44 then some true else ((idx x2.1.rules x2.2.1).bind fun x45 => some (x45.bound == (-1000)))).bind fun b50 => if b50 then ((s_RuleHolds fu x2.1 x2.2.1 x2.2.2).bind fun x197 => some (x16 == x197)) else ((idx x2.1.rules x2.2.1).bind fun x205 => ((rangeL l_FnRuleLinear_b1 x205.coefs 0 ([])) : Option (Jn (List Int) (Bool))).bind fun j => match j with | .nx g223_2_227 => ((i_RuleHolds ({ sizes := x2.1.sizes, rules := [({ kind := 1, vars := x205.vars, coefs := g223_2_227, bound := i64 (1 - x205.bound), rows := [] } : Rule)] } : Model) 0 x2.2.2).bind fun x282 => some (x282 == (!x16))) | .out t => some t))
noncomputable def s_DrawCellsValid (fu : Nat) (code : List UInt8) : Option (Unit) :=
  (s_l17Open code).bind fun x5 => (s_l6Model fu x5).bind fun x8 => anyB (s_l6Mutate fu ({ b := x5.b, p := x8.2 } : Rd) x8.1) (fun o : Model × Int => sModel o.1 ∧ rdOk x8.2 o.2) fun x14 => (s_l6DrawCells ({ b := x5.b, p := x14.2 } : Rd) x14.1).bind fun x33 => assertM (sModel x14.1 ∧ sOut x33.1)
noncomputable def s_DrawSolvesModel (fu : Nat) (code : List UInt8) : Option (Unit) :=
  anyB (s_DrawCellsValid fu code) (fun o : Model × (List Int) => sModel o.1 ∧ sOut o.2) fun x5 => assertM (sModel x5.1 ∧ sOut x5.2)
def i_Model_solves_1 (c1 : List Int) (r_ : Rule) : Option (Bool) :=
  (i_Rule_at r_ c1).bind fun x10 => some (!x10)
def i_Model_solves (m : Model) (cells : List Int) : Option (Bool) :=
  (slices_ContainsFunc_implRule m.rules (i_Model_solves_1 cells)).bind fun x14 => some (!x14)
def i_SolvesModel (m : Model) (cells : List Int) : Option (Bool) :=
  (i_CellsValid m cells).bind fun x10 => (if x10 then ((i_Model_solves m cells).bind fun x17 => some x17) else some false).bind fun b19 => some b19
def s_l6Solves_b1 (cells : List Int) (_i_5 : Nat) (x_6 : Rule) : (Unit) → Option (Lo (Unit) (Bool))
  | () => (s_l6Holds x_6 cells).bind fun x17 => if (!x17) then (some (.out false)) else (some (.cont ()))
def s_l6Solves (m : Model) (cells : List Int) : Option (Bool) :=
  ((rangeL (s_l6Solves_b1 cells) m.rules 0 ()) : Option (Jn (Unit) (Bool))).bind fun j => match j with | .nx _ => (some true) | .out t => some t
def s_SolvesModel (fu : Nat) (m : Model) (cells : List Int) : Option (Bool) :=
  (s_CellsValid fu m cells).bind fun x10 => (if x10 then ((s_l6Solves m cells).bind fun x17 => some x17) else some false).bind fun b19 => some b19
def l_FnSolvesModel_b1 (x2 : Model × (List Int)) (i_239 : Nat) (_x_241 : Rule) : (Bool) → Option (Lo (Bool) (Bool))
  | all_240 => (if all_240 then ((i_RuleHolds x2.1 (i_239 : Int) x2.2).bind fun x248 => some x248) else some false).bind fun b250 => some (.cont b250)
noncomputable def l_FnSolvesModel (fu : Nat) (code : List UInt8) : Option (Bool) :=
  if decide ((code.length : Int) > 1048576) then (some true) else (anyB (s_DrawSolvesModel fu code) (fun o : Model × (List Int) => sModel o.1 ∧ sOut o.2) fun x2 => (i_SolvesModel x2.1 x2.2).bind fun x16 => (s_SolvesModel fu x2.1 x2.2).bind fun x29 => (if (x16 != x29) then some true else ((i_CellsValid x2.1 x2.2).bind fun x36 => (s_CellsValid fu x2.1 x2.2).bind fun x43 => some (x36 != x43))).bind fun b45 => (if b45 then some true else ((i_CellsValid x2.1 x2.2).bind fun x51 => some (!x51))).bind fun b53 => if b53 then ((s_SolvesModel fu x2.1 x2.2).bind fun x175 => (if (x16 == x175) then ((i_CellsValid x2.1 x2.2).bind fun x182 => (s_CellsValid fu x2.1 x2.2).bind fun x189 => some (x182 == x189)) else some false).bind fun b191 => some b191) else (((rangeL (l_FnSolvesModel_b1 x2) x2.1.rules 0 true) : Option (Jn (Bool) (Bool))).bind fun j => match j with | .nx all_240 => (some (x16 == all_240)) | .out t => some t))
noncomputable def s_DrawModelValid (fu : Nat) (code : List UInt8) : Option (Unit) :=
  (s_l17Open code).bind fun x5 => (s_l6Model fu x5).bind fun x8 => anyB (s_l6Mutate fu ({ b := x5.b, p := x8.2 } : Rd) x8.1) (fun o : Model × Int => sModel o.1 ∧ rdOk x8.2 o.2) fun x14 => assertM (sModel x14.1)
noncomputable def s_DrawCountModel (fu : Nat) (code : List UInt8) : Option (Unit) :=
  anyB (s_DrawModelValid fu code) (fun o : Model => sModel o) fun x5 => assertM (sModel x5)
def slices_Clone_int (s : List Int) : Option (List Int) :=
  (app ([]) s).bind fun x7 => some x7
def i_each_b2 (sizes : List Int) : ((List Int) × Int) → Option (Lo ((List Int) × Int) (Lo (List Int) (Unit)))
  | (cells_37, i_38) => (if decide (i_38 ≥ 0) then ((idx cells_37 i_38).bind fun x42 => (idx sizes i_38).bind fun x47 => some (x42 == x47)) else some false).bind fun b52 => if b52 then ((idx cells_37 i_38).bind fun x75 => some (.cont ((cells_37.set (Int.toNat i_38) 0), i64 (i_38 - 1)))) else (some (.brk (cells_37, i_38)))
def i_each_b1 (fu : Nat) (sizes : List Int) (told : ((List Int) → Option Bool)) : (List Int) → Option (Lo (List Int) (Unit))
  | cells_17 => (told cells_17).bind fun x21 => if x21 then (((whileL (i_each_b2 sizes) fu (cells_17, i64 ((cells_17.length : Int) - 1))) : Option (Jn ((List Int) × Int) (Lo (List Int) (Unit)))).bind fun j => match j with | .nx (cells_37, i_38) => (if decide (i_38 < 0) then (some (.out ())) else ((idx cells_37 i_38).bind fun x83 => some (.cont (cells_37.set (Int.toNat i_38) (i64 (x83 + 1)))))) | .out t => some t) else (some (.brk cells_17))
def i_each (fu : Nat) (sizes : List Int) (from_ : List Int) (told : ((List Int) → Option Bool)) : Option (Unit) :=
  (slices_Clone_int from_).bind fun x6 => ((whileL (i_each_b1 fu sizes told) fu x6) : Option (Jn (List Int) (Unit))).bind fun j => match j with | .nx cells_17 => (some ()) | .out t => some t
def i_CountModel_i3 (m : Model) (cells_63 : List Int) (g22_0_64 : Int) : Option (Bool × Int) :=
  (i_Model_solves m cells_63).bind fun x80 => ((if x80 then (some (i64 (g22_0_64 + 1))) else (some g22_0_64)) : Option (Int)).bind fun g22_0_89 => some (true, g22_0_89)
def i_CountModel_b4 (m : Model) : ((List Int) × Int) → Option (Lo ((List Int) × Int) (Lo ((List Int) × Int) (Int)))
  | (cells_96, i_97) => (if decide (i_97 ≥ 0) then ((idx cells_96 i_97).bind fun x101 => (idx m.sizes i_97).bind fun x106 => some (x101 == x106)) else some false).bind fun b111 => if b111 then ((idx cells_96 i_97).bind fun x134 => some (.cont ((cells_96.set (Int.toNat i_97) 0), i64 (i_97 - 1)))) else (some (.brk (cells_96, i_97)))
def i_CountModel_b2 (fu : Nat) (m : Model) : ((List Int) × Int) → Option (Lo ((List Int) × Int) (Int))
  | (cells_63, g22_0_64) => (i_CountModel_i3 m cells_63 g22_0_64).bind fun (ret0_68, g22_0_69) => if ret0_68 then (((whileL (i_CountModel_b4 m) fu (cells_63, i64 ((cells_63.length : Int) - 1))) : Option (Jn ((List Int) × Int) (Lo ((List Int) × Int) (Int)))).bind fun j => match j with | .nx (cells_96, i_97) => (if decide (i_97 < 0) then (some (.out g22_0_69)) else ((idx cells_96 i_97).bind fun x142 => some (.cont ((cells_96.set (Int.toNat i_97) (i64 (x142 + 1))), g22_0_69)))) | .out t => some t) else (some (.brk (cells_63, g22_0_69)))
def i_CountModel_i1 (fu : Nat) (m : Model) (x25 : List Int) : Option (Int) :=
  (slices_Clone_int x25).bind fun x51 => ((whileL (i_CountModel_b2 fu m) fu (x51, 0)) : Option (Jn ((List Int) × Int) (Int))).bind fun j => match j with | .nx (cells_63, g22_0_64) => (some g22_0_64) | .out t => some t
def i_CountModel (fu : Nat) (m : Model) : Option (Int) :=
  (i_ModelValid m).bind fun x10 => if (!x10) then (some 0) else ((mkN (m.sizes.length : Int) 0).bind fun x25 => (i_CountModel_i1 fu m x25).bind fun g22_0_29 => some g22_0_29)
def s_l6Next_b1 (m : Model) : ((List Int) × Int) → Option (Lo ((List Int) × Int) ((List Int) × Bool))
  | (out_19, i_20) => if decide (i_20 ≥ 0) then ((idx out_19 i_20).bind fun x25 => (idx m.sizes i_20).bind fun x30 => if decide (x25 < x30) then (some (.out ((out_19.set (Int.toNat i_20) (i64 (x25 + 1))), true))) else (some (.cont ((out_19.set (Int.toNat i_20) 0), i64 (i_20 - 1))))) else (some (.brk (out_19, i_20)))
def s_l6Next (fu : Nat) (m : Model) (cells : List Int) : Option ((List Int) × Bool) :=
  (app ([]) cells).bind fun x8 => ((whileL (s_l6Next_b1 m) fu (x8, i64 ((x8.length : Int) - 1))) : Option (Jn ((List Int) × Int) ((List Int) × Bool))).bind fun j => match j with | .nx (out_19, i_20) => (some (out_19, false)) | .out t => some t
def s_CountModel_b1 (fu : Nat) (m : Model) : (Int × (List Int) × Bool) → Option (Lo (Int × (List Int) × Bool) (Int))
  | (n_27, cells_28, more_30) => if more_30 then ((s_l6Solves m cells_28).bind fun x39 => ((if x39 then (some (i64 (n_27 + 1))) else (some n_27)) : Option (Int)).bind fun n_48 => (s_l6Next fu m cells_28).bind fun x57 => some (.cont (n_48, x57.1, x57.2))) else (some (.brk (n_27, cells_28, more_30)))
def s_CountModel (fu : Nat) (m : Model) : Option (Int) :=
  (s_ModelValid fu m).bind fun x10 => if (!x10) then (some 0) else ((mkN (m.sizes.length : Int) 0).bind fun x19 => ((whileL (s_CountModel_b1 fu m) fu (0, x19, true)) : Option (Jn (Int × (List Int) × Bool) (Int))).bind fun j => match j with | .nx (n_27, cells_28, more_30) => (some n_27) | .out t => some t)
def l_FnCountModel_b1 (fu : Nat) (more : List UInt8) (x4 : Model) (i_75 : Nat) : (Int) → Option (Lo (Int) (Bool))
  | sum_76 => (app ([]) x4.rules).bind fun x93 => (app x93 ([({ kind := 3, vars := [Int.tmod (more.length : Int) (x4.sizes.length : Int)], coefs := [], bound := 0, rows := [[(i_75 : Int)]] } : Rule)])).bind fun x110 => (i_CountModel fu ({ sizes := x4.sizes, rules := x110 } : Model)).bind fun x189 => some (.cont (i64 (sum_76 + x189)))
noncomputable def l_FnCountModel (fu : Nat) (code : List UInt8) (more : List UInt8) : Option (Bool) :=
  if ((decide ((code.length : Int) > 1048576)) || (decide ((more.length : Int) > 1048576))) then (some true) else (anyB (s_DrawCountModel fu code) (fun o : Model => sModel o) fun x4 => (i_CountModel fu x4).bind fun x18 => (s_CountModel fu x4).bind fun x31 => (if (x18 != x31) then some true else ((i_ModelValid x4).bind fun x38 => some (!x38))).bind fun b40 => if (b40 || ((x4.rules.length : Int) == 8)) then ((s_CountModel fu x4).bind fun x63 => some (x18 == x63)) else ((if (x4.sizes.length : Int) = 0 then none else some ()).bind fun _ => (idx x4.sizes (Int.tmod (more.length : Int) (x4.sizes.length : Int))).bind fun x74 => (cntF 0 (x74 + 1)).bind fun k80 => ((countL (l_FnCountModel_b1 fu more x4) k80 0 0) : Option (Jn (Int) (Bool))).bind fun j => match j with | .nx sum_76 => (some (sum_76 == x18)) | .out t => some t))
def l_FnModelMore_b1 (_i_70 : Nat) (x_72 : Int) : (Int) → Option (Lo (Int) (Bool))
  | all_71 => some (.cont (i64 (all_71 * (i64 (x_72 + 1)))))
noncomputable def l_FnModelMore (fu : Nat) (code : List UInt8) (more : List UInt8) : Option (Bool) :=
  if ((decide ((code.length : Int) > 1048576)) || (decide ((more.length : Int) > 1048576))) then (some true) else (anyB (s_DrawCountModel fu code) (fun o : Model => sModel o) fun x4 => (i_CountModel fu x4).bind fun x18 => (s_CountModel fu x4).bind fun x31 => (if (x18 != x31) then some true else ((i_ModelValid x4).bind fun x38 => some (!x38))).bind fun b40 => if b40 then ((s_CountModel fu x4).bind fun x61 => some (x18 == x61)) else ((if (i64 ((x4.rules.length : Int) + 1)) = 0 then none else some ()).bind fun _ => ((rangeL l_FnModelMore_b1 x4.sizes 0 1) : Option (Jn (Int) (Bool))).bind fun j => match j with | .nx all_71 => ((sl x4.rules 0 (Int.tmod (more.length : Int) (i64 ((x4.rules.length : Int) + 1)))).bind fun x82 => (i_CountModel fu ({ sizes := x4.sizes, rules := x82 } : Model)).bind fun x90 => (if ((decide (x18 ≤ x90)) && (decide (x90 ≤ all_71))) then ((i_CountModel fu ({ sizes := x4.sizes, rules := [] } : Model)).bind fun x109 => some (x109 == all_71)) else some false).bind fun b111 => some b111) | .out t => some t))
def s_EncodeCells_b1 (m : Model) (i_32 : Nat) (x_36 : Int) : (List Bool) → Option (Lo (List Bool) ((List Bool) × Bool))
  | out_33 => (s_l7Var m (i_32 : Int) x_36).bind fun x47 => (idx out_33 (i64 (x47 - 1))).bind fun x49 => some (.cont (out_33.set (Int.toNat (i64 (x47 - 1))) true))
def s_EncodeCells (fu : Nat) (m : Model) (cells : List Int) : Option ((List Bool) × Bool) :=
  (s_CellsValid fu m cells).bind fun x10 => if (!x10) then (some ([], false)) else ((mkN 12 false).bind fun x25 => ((rangeL (s_EncodeCells_b1 m) cells 0 x25) : Option (Jn (List Bool) ((List Bool) × Bool))).bind fun j => match j with | .nx out_33 => (some (out_33, true)) | .out t => some t)
def s_l1Values_b1 (r_ : Rd) (_i_7 : Nat) : ((List Bool) × Int) → Option (Lo ((List Bool) × Int) ((List Bool) × Int))
  | (out_8, g_0_1_10) => (s_l17Rd_pick ({ b := r_.b, p := g_0_1_10 } : Rd) 2).bind fun x19 => (app out_8 ([(x19.1 == 0)])).bind fun x24 => some (.cont (x24, x19.2))
def s_l1Values (r_ : Rd) : Option ((List Bool) × Int) :=
  (cntF 0 12).bind fun k12 => ((countL (s_l1Values_b1 r_) k12 0 ([], r_.p)) : Option (Jn ((List Bool) × Int) ((List Bool) × Int))).bind fun j => match j with | .nx (out_8, g_0_1_10) => ((s_l17Rd_pick ({ b := r_.b, p := g_0_1_10 } : Rd) 40).bind fun x45 => if (x45.1 == 0) then ((sl out_8 0 11).bind fun x54 => some (x54, x45.2)) else (some (out_8, x45.2))) | .out t => some t
noncomputable def s_DrawDecodeValues (fu : Nat) (code : List UInt8) : Option (Unit) :=
  (s_l17Open code).bind fun x5 => (s_l6Model fu x5).bind fun x8 => anyB (s_l6Mutate fu ({ b := x5.b, p := x8.2 } : Rd) x8.1) (fun o : Model × Int => sModel o.1 ∧ rdOk x8.2 o.2) fun x14 => (s_l6DrawCells ({ b := x5.b, p := x14.2 } : Rd) x14.1).bind fun x33 => (s_EncodeCells fu x14.1 x33.1).bind fun x42 => (if (!x42.2) then some (true, x33.2) else ((s_l17Rd_pick ({ b := x5.b, p := x33.2 } : Rd) 4).bind fun x87 => some ((x87.1 == 0), x87.2))).bind fun b89 => if b89.1 then ((s_l1Values ({ b := x5.b, p := b89.2 } : Rd)).bind fun x104 => assertM (sModel x14.1 ∧ sBools x104.1)) else ((s_l17Rd_pick ({ b := x5.b, p := b89.2 } : Rd) 4).bind fun x133 => if (x133.1 == 0) then ((s_l17Rd_pick ({ b := x5.b, p := x133.2 } : Rd) 12).bind fun x147 => (idx x42.1 x147.1).bind fun x155 => assertM (sModel x14.1 ∧ sBools (x42.1.set (Int.toNat x147.1) (!x155)))) else (assertM (sModel x14.1 ∧ sBools x42.1)))
def i_Model_varsOf_b1 (m : Model) (cell : Int) (i_14 : Nat) : (List Int) → Option (Lo (List Int) (List Int))
  | out_15 => (i_Model_boolVar m cell (i_14 : Int)).bind fun x26 => (app out_15 ([x26])).bind fun x31 => some (.cont x31)
def i_Model_varsOf (m : Model) (cell : Int) : Option (List Int) :=
  (idx m.sizes cell).bind fun x5 => (cntF 0 (i64 (x5 + 1))).bind fun k18 => ((countL (i_Model_varsOf_b1 m cell) k18 0 ([])) : Option (Jn (List Int) (List Int))).bind fun j => match j with | .nx out_15 => (some out_15) | .out t => some t
def i_DecodeValues_b2 (values : List Bool) (i_43 : Nat) (x_47 : Int) : ((List Int) × Int) → Option (Lo ((List Int) × Int) (Lo (List Int) ((List Int) × Bool)))
  | (out_44, count_46) => (idx values (i64 (x_47 - 1))).bind fun x57 => ((if x57 then ((app out_44 ([(i_43 : Int)])).bind fun x74 => some (x74, i64 (count_46 + 1))) else (some (out_44, count_46))) : Option ((List Int) × Int)).bind fun (out_66, count_68) => some (.cont (out_66, count_68))
def i_DecodeValues_b1 (m : Model) (values : List Bool) (i_22 : Nat) (_x_25 : Int) : (List Int) → Option (Lo (List Int) ((List Int) × Bool))
  | out_23 => (i_Model_varsOf m (i_22 : Int)).bind fun x33 => ((rangeL (i_DecodeValues_b2 values) x33 0 (out_23, 0)) : Option (Jn ((List Int) × Int) (Lo (List Int) ((List Int) × Bool)))).bind fun j => match j with | .nx (out_44, count_46) => (if (count_46 != 1) then (some (.out ([], false))) else (some (.cont out_44))) | .out t => some t
def i_DecodeValues (m : Model) (values : List Bool) : Option ((List Int) × Bool) :=
  (i_ModelValid m).bind fun x10 => if ((!x10) || ((values.length : Int) != 12)) then (some ([], false)) else (((rangeL (i_DecodeValues_b1 m values) m.sizes 0 ([])) : Option (Jn (List Int) ((List Int) × Bool))).bind fun j => match j with | .nx out_23 => (some (out_23, true)) | .out t => some t)
def s_DecodeValues_b2 (m : Model) (values : List Bool) (i_33 : Nat) (i_38 : Nat) : (Int × Int) → Option (Lo (Int × Int) (Lo (List Int) ((List Int) × Bool)))
  | (v_39, n_40) => (s_l7Var m (i_33 : Int) (i_38 : Int)).bind fun x57 => (idx values (i64 (x57 - 1))).bind fun x59 => ((if x59 then (some ((i_38 : Int), i64 (n_40 + 1))) else (some (v_39, n_40))) : Option (Int × Int)).bind fun (v_74, n_75) => some (.cont (v_74, n_75))
def s_DecodeValues_b1 (m : Model) (values : List Bool) (i_33 : Nat) (x_36 : Int) : (List Int) → Option (Lo (List Int) ((List Int) × Bool))
  | out_34 => (cntF 0 (x_36 + 1)).bind fun k42 => ((countL (s_DecodeValues_b2 m values i_33) k42 0 ((-1), 0)) : Option (Jn (Int × Int) (Lo (List Int) ((List Int) × Bool)))).bind fun j => match j with | .nx (v_39, n_40) => (if (n_40 != 1) then (some (.out ([], false))) else ((app out_34 ([v_39])).bind fun x88 => some (.cont x88))) | .out t => some t
def s_DecodeValues (fu : Nat) (m : Model) (values : List Bool) : Option ((List Int) × Bool) :=
  (s_ModelValid fu m).bind fun x10 => if ((!x10) || ((values.length : Int) != 12)) then (some ([], false)) else (((rangeL (s_DecodeValues_b1 m values) m.sizes 0 ([])) : Option (Jn (List Int) ((List Int) × Bool))).bind fun j => match j with | .nx out_34 => (some (out_34, true)) | .out t => some t)
def l_cpInts_b1 (b : List Int) (i_2 : Nat) (x_5 : Int) : (Unit) → Option (Lo (Unit) (Bool))
  | () => (idx b (i_2 : Int)).bind fun x11 => if (x_5 != x11) then (some (.out false)) else (some (.cont ()))
def l_cpInts (a : List Int) (b : List Int) : Option (Bool) :=
  if ((a.length : Int) != (b.length : Int)) then (some false) else (((rangeL (l_cpInts_b1 b) a 0 ()) : Option (Jn (Unit) (Bool))).bind fun j => match j with | .nx _ => (some true) | .out t => some t)
def i_EncodeCells_b1 (m : Model) (i_27 : Nat) (x_29 : Int) : (List Bool) → Option (Lo (List Bool) ((List Bool) × Bool))
  | out_28 => (i_Model_boolVar m (i_27 : Int) x_29).bind fun x44 => (idx out_28 (i64 (x44 - 1))).bind fun x46 => some (.cont (out_28.set (Int.toNat (i64 (x44 - 1))) true))
def i_EncodeCells (m : Model) (cells : List Int) : Option ((List Bool) × Bool) :=
  (i_CellsValid m cells).bind fun x10 => if (!x10) then (some ([], false)) else ((mkN 12 false).bind fun x20 => ((rangeL (i_EncodeCells_b1 m) cells 0 x20) : Option (Jn (List Bool) ((List Bool) × Bool))).bind fun j => match j with | .nx out_28 => (some (out_28, true)) | .out t => some t)
def l_FnDecodeValues_b1 (x2 : Model × (List Bool)) (x90 : (List Bool) × Bool) : (Int) → Option (Lo (Int) (Bool))
  | i_103 => (i_FreeVars x2.1).bind fun x112 => if ((decide (i_103 < (i64 (12 - x112)))) && x90.2) then ((idx x90.1 i_103).bind fun x123 => (idx x2.2 i_103).bind fun x128 => if (x123 != x128) then (some (.out false)) else (some (.cont (i64 (i_103 + 1))))) else (some (.brk i_103))
noncomputable def l_FnDecodeValues (fu : Nat) (code : List UInt8) : Option (Bool) :=
  if decide ((code.length : Int) > 1048576) then (some true) else (anyB (s_DrawDecodeValues fu code) (fun o : Model × (List Bool) => sModel o.1 ∧ sBools o.2) fun x2 => (i_DecodeValues x2.1 x2.2).bind fun x16 => (s_DecodeValues fu x2.1 x2.2).bind fun x31 => (if (x16.2 != x31.2) then some true else ((l_cpInts x16.1 x31.1).bind fun x48 => some (!x48))).bind fun b50 => if (b50 || (!x16.2)) then ((if (x16.2 == x31.2) then ((l_cpInts x16.1 x31.1).bind fun x71 => some x71) else some false).bind fun b73 => some b73) else ((i_EncodeCells x2.1 x16.1).bind fun x90 => ((whileL (l_FnDecodeValues_b1 x2 x90) fu 0) : Option (Jn (Int) (Bool))).bind fun j => match j with | .nx i_103 => ((i_DecodeValues x2.1 x90.1).bind fun x157 => (if (x90.2 && x157.2) then ((l_cpInts x157.1 x16.1).bind fun x175 => some x175) else some false).bind fun b177 => some b177) | .out t => some t))
noncomputable def s_DrawNextModel (fu : Nat) (code : List UInt8) : Option (Unit) :=
  anyB (s_DrawCellsValid fu code) (fun o : Model × (List Int) => sModel o.1 ∧ sOut o.2) fun x5 => assertM (sModel x5.1 ∧ sOut x5.2)
def i_NextModel_i3 (m : Model) (cells_53 : List Int) (g22_0_54 : List Int) : Option (Bool × (List Int)) :=
  (i_Model_solves m cells_53).bind fun x77 => ((if x77 then ((slices_Clone_int cells_53).bind fun x97 => (if List.isEmpty x97 then none else some ()).bind fun _ => some x97) else (some g22_0_54)) : Option (List Int)).bind fun g22_0_86 => some ((List.isEmpty g22_0_86), g22_0_86)
def i_NextModel_b4 (m : Model) : ((List Int) × Int) → Option (Lo ((List Int) × Int) (Lo ((List Int) × (List Int)) (List Int)))
  | (cells_114, i_115) => (if decide (i_115 ≥ 0) then ((idx cells_114 i_115).bind fun x119 => (idx m.sizes i_115).bind fun x124 => some (x119 == x124)) else some false).bind fun b129 => if b129 then ((idx cells_114 i_115).bind fun x152 => some (.cont ((cells_114.set (Int.toNat i_115) 0), i64 (i_115 - 1)))) else (some (.brk (cells_114, i_115)))
def i_NextModel_b2 (fu : Nat) (m : Model) : ((List Int) × (List Int)) → Option (Lo ((List Int) × (List Int)) (List Int))
  | (cells_53, g22_0_54) => (i_NextModel_i3 m cells_53 g22_0_54).bind fun (ret0_61, g22_0_62) => if ret0_61 then (((whileL (i_NextModel_b4 m) fu (cells_53, i64 ((cells_53.length : Int) - 1))) : Option (Jn ((List Int) × Int) (Lo ((List Int) × (List Int)) (List Int)))).bind fun j => match j with | .nx (cells_114, i_115) => (if decide (i_115 < 0) then (some (.out g22_0_62)) else ((idx cells_114 i_115).bind fun x160 => some (.cont ((cells_114.set (Int.toNat i_115) (i64 (x160 + 1))), g22_0_62)))) | .out t => some t) else (some (.brk (cells_53, g22_0_62)))
def i_NextModel_i1 (fu : Nat) (m : Model) (cells : List Int) : Option (List Int) :=
  (slices_Clone_int cells).bind fun x41 => (if List.isEmpty x41 then none else some ()).bind fun _ => ((whileL (i_NextModel_b2 fu m) fu (x41, [])) : Option (Jn ((List Int) × (List Int)) (List Int))).bind fun j => match j with | .nx (cells_53, g22_0_54) => (some g22_0_54) | .out t => some t
def i_NextModel (fu : Nat) (m : Model) (cells : List Int) : Option ((List Int) × Bool) :=
  (i_CellsValid m cells).bind fun x10 => if (!x10) then (some ([], false)) else ((i_NextModel_i1 fu m cells).bind fun g22_0_24 => some (g22_0_24, (!(List.isEmpty g22_0_24))))
def s_NextModel_b1 (fu : Nat) (m : Model) : ((List Int) × Bool) → Option (Lo ((List Int) × Bool) ((List Int) × Bool))
  | (out_39, more_41) => if more_41 then ((s_l6Solves m out_39).bind fun x50 => if x50 then (some (.out (out_39, true))) else ((s_l6Next fu m out_39).bind fun x66 => some (.cont (x66.1, x66.2)))) else (some (.brk (out_39, more_41)))
def s_NextModel (fu : Nat) (m : Model) (cells : List Int) : Option ((List Int) × Bool) :=
  (s_CellsValid fu m cells).bind fun x10 => if (!x10) then (some ([], false)) else ((app ([]) cells).bind fun x28 => ((whileL (s_NextModel_b1 fu m) fu (x28, true)) : Option (Jn ((List Int) × Bool) ((List Int) × Bool))).bind fun j => match j with | .nx (out_39, more_41) => (some ([], false)) | .out t => some t)
def l_cpLess_b1 (a : List Int) (b : List Int) : (Int) → Option (Lo (Int) (Bool))
  | i_3 => if ((decide (i_3 < (a.length : Int))) && (decide (i_3 < (b.length : Int)))) then ((idx a i_3).bind fun x10 => (idx b i_3).bind fun x15 => if (x10 != x15) then (some (.out (decide (x10 < x15)))) else (some (.cont (i64 (i_3 + 1))))) else (some (.brk i_3))
def l_cpLess (fu : Nat) (a : List Int) (b : List Int) : Option (Bool) :=
  ((whileL (l_cpLess_b1 a b) fu 0) : Option (Jn (Int) (Bool))).bind fun j => match j with | .nx i_3 => (some false) | .out t => some t
noncomputable def l_FnNextModel (fu : Nat) (code : List UInt8) : Option (Bool) :=
  if decide ((code.length : Int) > 1048576) then (some true) else (anyB (s_DrawNextModel fu code) (fun o : Model × (List Int) => sModel o.1 ∧ sOut o.2) fun x2 => (i_NextModel fu x2.1 x2.2).bind fun x16 => (s_NextModel fu x2.1 x2.2).bind fun x31 => (if (x16.2 != x31.2) then some true else ((l_cpInts x16.1 x31.1).bind fun x48 => some (!x48))).bind fun b50 => if (b50 || (!x16.2)) then ((if (x16.2 == x31.2) then ((l_cpInts x16.1 x31.1).bind fun x71 => some x71) else some false).bind fun b73 => some b73) else ((i_NextModel fu x2.1 x16.1).bind fun x90 => (i_SolvesModel x2.1 x16.1).bind fun x107 => (if x107 then ((l_cpLess fu x16.1 x2.2).bind fun x115 => some (!x115)) else some false).bind fun b117 => (if (b117 && x90.2) then ((l_cpInts x90.1 x16.1).bind fun x125 => some x125) else some false).bind fun b127 => (if b127 then ((i_SolvesModel x2.1 x2.2).bind fun x133 => (l_cpInts x16.1 x2.2).bind fun x141 => some (x133 == x141)) else some false).bind fun b143 => some b143))
def l_szIntS (a : List Int) (left : Int) : Option (Int) :=
  if decide ((i64 (left - (a.length : Int))) < 0) then (some (-1)) else (some (i64 (left - (a.length : Int))))
def l_szIntSS_b1 (_i_2 : Nat) (x_4 : List Int) : (Int) → Option (Lo (Int) (Int))
  | left_3 => (l_szIntS x_4 left_3).bind fun x15 => if decide (x15 < 0) then (some (.out (-1))) else (some (.cont x15))
def l_szIntSS (a : List (List Int)) (left : Int) : Option (Int) :=
  if decide ((i64 (left - (a.length : Int))) < 0) then (some (-1)) else (((rangeL l_szIntSS_b1 a 0 (i64 (left - (a.length : Int)))) : Option (Jn (Int) (Int))).bind fun j => match j with | .nx left_3 => (some left_3) | .out t => some t)
def l_szRule (a : Rule) (left : Int) : Option (Int) :=
  (l_szIntS a.vars left).bind fun x10 => if decide (x10 < 0) then (some (-1)) else ((l_szIntS a.coefs x10).bind fun x24 => if decide (x24 < 0) then (some (-1)) else ((l_szIntSS a.rows x24).bind fun x38 => if decide (x38 < 0) then (some (-1)) else (some x38)))
def l_szRuleS_b1 (_i_2 : Nat) (x_4 : Rule) : (Int) → Option (Lo (Int) (Int))
  | left_3 => (l_szRule x_4 left_3).bind fun x15 => if decide (x15 < 0) then (some (.out (-1))) else (some (.cont x15))
def l_szRuleS (a : List Rule) (left : Int) : Option (Int) :=
  if decide ((i64 (left - (a.length : Int))) < 0) then (some (-1)) else (((rangeL l_szRuleS_b1 a 0 (i64 (left - (a.length : Int)))) : Option (Jn (Int) (Int))).bind fun j => match j with | .nx left_3 => (some left_3) | .out t => some t)
def l_szModel (a : Model) (left : Int) : Option (Int) :=
  (l_szIntS a.sizes left).bind fun x10 => if decide (x10 < 0) then (some (-1)) else ((l_szRuleS a.rules x10).bind fun x24 => if decide (x24 < 0) then (some (-1)) else (some x24))
def l_toIntS_b1 (i_8 : Nat) (x_10 : Int) : (List Int) → Option (Lo (List Int) (List Int))
  | out_9 => (idx out_9 (i_8 : Int)).bind fun x16 => some (.cont (out_9.set (Int.toNat (i_8 : Int)) x_10))
def l_toIntS (a : List Int) : Option (List Int) :=
  (mkN (a.length : Int) 0).bind fun x1 => ((rangeL l_toIntS_b1 a 0 x1) : Option (Jn (List Int) (List Int))).bind fun j => match j with | .nx out_9 => (some out_9) | .out t => some t
def l_toIntSS_b1 (i_8 : Nat) (x_10 : List Int) : (List (List Int)) → Option (Lo (List (List Int)) (List (List Int)))
  | out_9 => (l_toIntS x_10).bind fun x21 => (idx out_9 (i_8 : Int)).bind fun x24 => some (.cont (out_9.set (Int.toNat (i_8 : Int)) x21))
def l_toIntSS (a : List (List Int)) : Option (List (List Int)) :=
  (mkN (a.length : Int) ([])).bind fun x1 => ((rangeL l_toIntSS_b1 a 0 x1) : Option (Jn (List (List Int)) (List (List Int)))).bind fun j => match j with | .nx out_9 => (some out_9) | .out t => some t
def l_toRule (a : Rule) : Option (Rule) :=
  (l_toIntS a.vars).bind fun x20 => (l_toIntS a.coefs).bind fun x37 => (l_toIntSS a.rows).bind fun x56 => some ({ kind := a.kind, vars := x20, coefs := x37, bound := a.bound, rows := x56 } : Rule)
def l_toRuleS_b1 (i_8 : Nat) (x_10 : Rule) : (List Rule) → Option (Lo (List Rule) (List Rule))
  | out_9 => (l_toRule x_10).bind fun x21 => (idx out_9 (i_8 : Int)).bind fun x26 => some (.cont (out_9.set (Int.toNat (i_8 : Int)) x21))
def l_toRuleS (a : List Rule) : Option (List Rule) :=
  (mkN (a.length : Int) ({ kind := 0, vars := [], coefs := [], bound := 0, rows := [] } : Rule)).bind fun x1 => ((rangeL l_toRuleS_b1 a 0 x1) : Option (Jn (List Rule) (List Rule))).bind fun j => match j with | .nx out_9 => (some out_9) | .out t => some t
def l_toModel (a : Model) : Option (Model) :=
  (l_toIntS a.sizes).bind fun x18 => (l_toRuleS a.rules).bind fun x35 => some ({ sizes := x18, rules := x35 } : Model)
def l_eqIntS_b1 (b : List Int) (i_2 : Nat) (x_5 : Int) : (Unit) → Option (Lo (Unit) (Bool))
  | () => (idx b (i_2 : Int)).bind fun x11 => if (x_5 != x11) then (some (.out false)) else (some (.cont ()))
def l_eqIntS (a : List Int) (b : List Int) : Option (Bool) :=
  if ((a.length : Int) != (b.length : Int)) then (some false) else (((rangeL (l_eqIntS_b1 b) a 0 ()) : Option (Jn (Unit) (Bool))).bind fun j => match j with | .nx _ => (some true) | .out t => some t)
def l_eqIntSS_b1 (b : List (List Int)) (i_2 : Nat) (x_5 : List Int) : (Unit) → Option (Lo (Unit) (Bool))
  | () => (idx b (i_2 : Int)).bind fun x11 => (l_eqIntS x_5 x11).bind fun x21 => if (!x21) then (some (.out false)) else (some (.cont ()))
def l_eqIntSS (a : List (List Int)) (b : List (List Int)) : Option (Bool) :=
  if ((a.length : Int) != (b.length : Int)) then (some false) else (((rangeL (l_eqIntSS_b1 b) a 0 ()) : Option (Jn (Unit) (Bool))).bind fun j => match j with | .nx _ => (some true) | .out t => some t)
def l_eqRule (a : Rule) (b : Rule) : Option (Bool) :=
  if (a.kind != b.kind) then (some false) else ((l_eqIntS a.vars b.vars).bind fun x15 => if (!x15) then (some false) else ((l_eqIntS a.coefs b.coefs).bind fun x29 => if (!x29) then (some false) else (if (a.bound != b.bound) then (some false) else ((l_eqIntSS a.rows b.rows).bind fun x44 => if (!x44) then (some false) else (some true)))))
def l_eqRuleS_b1 (b : List Rule) (i_2 : Nat) (x_5 : Rule) : (Unit) → Option (Lo (Unit) (Bool))
  | () => (idx b (i_2 : Int)).bind fun x11 => (l_eqRule x_5 x11).bind fun x21 => if (!x21) then (some (.out false)) else (some (.cont ()))
def l_eqRuleS (a : List Rule) (b : List Rule) : Option (Bool) :=
  if ((a.length : Int) != (b.length : Int)) then (some false) else (((rangeL (l_eqRuleS_b1 b) a 0 ()) : Option (Jn (Unit) (Bool))).bind fun j => match j with | .nx _ => (some true) | .out t => some t)
def l_eqModel (a : Model) (b : Model) : Option (Bool) :=
  (l_eqIntS a.sizes b.sizes).bind fun x14 => if (!x14) then (some false) else ((l_eqRuleS a.rules b.rules).bind fun x28 => if (!x28) then (some false) else (some true))
def l_markIntS_b1 : ((List Int) × Int × Int) → Option (Lo ((List Int) × Int × Int) (Int × (List Int)))
  | (a_5, k_6, i_7) => if decide (i_7 < (a_5.length : Int)) then ((idx a_5 i_7).bind fun x10 => some (.cont ((a_5.set (Int.toNat i_7) k_6), i64 (k_6 + 1), i64 (i_7 + 1)))) else (some (.brk (a_5, k_6, i_7)))
def l_markIntS (fu : Nat) (a : List Int) (k : Int) : Option (Int × (List Int)) :=
  ((whileL l_markIntS_b1 fu (a, k, 0)) : Option (Jn ((List Int) × Int × Int) (Int × (List Int)))).bind fun j => match j with | .nx (a_5, k_6, i_7) => (some (k_6, a_5)) | .out t => some t
def l_markIntSS_b1 (fu : Nat) : ((List (List Int)) × Int × Int) → Option (Lo ((List (List Int)) × Int × Int) (Int × (List (List Int))))
  | (a_5, k_6, i_7) => if decide (i_7 < (a_5.length : Int)) then ((idx a_5 i_7).bind fun x10 => (l_markIntS fu x10 k_6).bind fun x20 => some (.cont ((a_5.set (Int.toNat i_7) x20.2), x20.1, i64 (i_7 + 1)))) else (some (.brk (a_5, k_6, i_7)))
def l_markIntSS (fu : Nat) (a : List (List Int)) (k : Int) : Option (Int × (List (List Int))) :=
  ((whileL (l_markIntSS_b1 fu) fu (a, k, 0)) : Option (Jn ((List (List Int)) × Int × Int) (Int × (List (List Int))))).bind fun j => match j with | .nx (a_5, k_6, i_7) => (some (k_6, a_5)) | .out t => some t
def l_markRuleS_b1 (fu : Nat) : ((List Rule) × Int × Int) → Option (Lo ((List Rule) × Int × Int) (Int × (List Rule)))
  | (a_5, k_6, i_7) => if decide (i_7 < (a_5.length : Int)) then ((idx a_5 i_7).bind fun x10 => (idx (a_5.set (Int.toNat i_7) ({ x10 with kind := k_6 })) i_7).bind fun x17 => (l_markIntS fu x17.vars (i64 (k_6 + 1))).bind fun x27 => (idx ((a_5.set (Int.toNat i_7) ({ x10 with kind := k_6 })).set (Int.toNat i_7) ({ kind := x17.kind, vars := x27.2, coefs := x17.coefs, bound := x17.bound, rows := x17.rows } : Rule)) i_7).bind fun x39 => (l_markIntS fu x39.coefs x27.1).bind fun x49 => (idx (((a_5.set (Int.toNat i_7) ({ x10 with kind := k_6 })).set (Int.toNat i_7) ({ kind := x17.kind, vars := x27.2, coefs := x17.coefs, bound := x17.bound, rows := x17.rows } : Rule)).set (Int.toNat i_7) ({ kind := x39.kind, vars := x39.vars, coefs := x49.2, bound := x39.bound, rows := x39.rows } : Rule)) i_7).bind fun x61 => (idx ((((a_5.set (Int.toNat i_7) ({ x10 with kind := k_6 })).set (Int.toNat i_7) ({ kind := x17.kind, vars := x27.2, coefs := x17.coefs, bound := x17.bound, rows := x17.rows } : Rule)).set (Int.toNat i_7) ({ kind := x39.kind, vars := x39.vars, coefs := x49.2, bound := x39.bound, rows := x39.rows } : Rule)).set (Int.toNat i_7) ({ x61 with bound := x49.1 })) i_7).bind fun x64 => (l_markIntSS fu x64.rows (i64 (x49.1 + 1))).bind fun x74 => some (.cont ((((((a_5.set (Int.toNat i_7) ({ x10 with kind := k_6 })).set (Int.toNat i_7) ({ kind := x17.kind, vars := x27.2, coefs := x17.coefs, bound := x17.bound, rows := x17.rows } : Rule)).set (Int.toNat i_7) ({ kind := x39.kind, vars := x39.vars, coefs := x49.2, bound := x39.bound, rows := x39.rows } : Rule)).set (Int.toNat i_7) ({ x61 with bound := x49.1 })).set (Int.toNat i_7) ({ kind := x64.kind, vars := x64.vars, coefs := x64.coefs, bound := x64.bound, rows := x74.2 } : Rule)), x74.1, i64 (i_7 + 1)))) else (some (.brk (a_5, k_6, i_7)))
def l_markRuleS (fu : Nat) (a : List Rule) (k : Int) : Option (Int × (List Rule)) :=
  ((whileL (l_markRuleS_b1 fu) fu (a, k, 0)) : Option (Jn ((List Rule) × Int × Int) (Int × (List Rule)))).bind fun j => match j with | .nx (a_5, k_6, i_7) => (some (k_6, a_5)) | .out t => some t
def l_markModel (fu : Nat) (a : Model) (k : Int) : Option (Int × Model) :=
  (l_markIntS fu a.sizes k).bind fun x10 => (l_markRuleS fu a.rules x10.1).bind fun x23 => some (x23.1, ({ sizes := x10.2, rules := x23.2 } : Model))
def l_heldIntS_b1 (_i_1 : Nat) (x_3 : Int) : (Int) → Option (Lo (Int) (Int))
  | k_2 => if (x_3 != k_2) then (some (.out (-1))) else (some (.cont (i64 (k_2 + 1))))
def l_heldIntS (a : List Int) (k : Int) : Option (Int) :=
  ((rangeL l_heldIntS_b1 a 0 k) : Option (Jn (Int) (Int))).bind fun j => match j with | .nx k_2 => (some k_2) | .out t => some t
def l_FnExactNextModel (fu : Nat) (aM : Model) (aCells : List Int) : Option (Bool) :=
  if decide ((aCells.length : Int) > 1048576) then (some true) else ((l_szModel aM 1048576).bind fun x11 => if decide (x11 < 0) then (some true) else ((l_toModel aM).bind fun x25 => (l_toIntS aCells).bind fun x34 => (s_NextModel fu x25 x34).bind fun x45 => (l_toModel aM).bind fun x78 => (l_toIntS aCells).bind fun x101 => (i_NextModel fu x78 x101).bind fun x119 => (l_eqIntS x119.1 x45.1).bind fun x139 => if ((!x139) || (x119.2 != x45.2)) then (some false) else ((l_toModel aM).bind fun x157 => (l_eqModel x78 x157).bind fun x170 => if (!x170) then (some false) else ((l_toIntS aCells).bind fun x206 => (l_eqIntS x101 x206).bind fun x216 => if (!x216) then (some false) else ((l_markModel fu x78 1).bind fun x239 => (l_markIntS fu x101 x239.1).bind fun x252 => (if decide (x252.1 < 0) then some true else ((l_eqIntS x119.1 x45.1).bind fun x267 => some (!x267))).bind fun b269 => if (b269 || (x119.2 != x45.2)) then (some false) else ((l_markIntS fu x119.1 1).bind fun x288 => (l_heldIntS x288.2 1).bind fun x302 => if decide (x302 < 0) then (some false) else (if (x302 != x288.1) then (some false) else ((l_toModel aM).bind fun x318 => (l_toIntS aCells).bind fun x327 => (i_NextModel fu x318 x327).bind fun x338 => (l_eqIntS x338.1 x45.1).bind fun x373 => if ((!x373) || (x338.2 != x45.2)) then (some false) else ((l_heldIntS x288.2 1).bind fun x392 => if decide (x392 < 0) then (some false) else (if (x392 != x288.1) then (some false) else (some true)))))))))))
end Go.L

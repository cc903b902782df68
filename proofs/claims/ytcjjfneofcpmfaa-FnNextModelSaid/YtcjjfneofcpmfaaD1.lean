/- Part of a proof by program: D1. -/
import Derived.Test.YtcjjfneofcpmfaaE10
namespace Go.L
open Go Go.E
set_option linter.unusedVariables false

def s_l17Open (code : List UInt8) : Option (Rd) :=
  ((if decide ((code.length : Int) > 2000) then ((sl code 0 2000).bind fun x4 => some x4) else (some code)) : Option (List UInt8)).bind fun code_1 => some ({ b := code_1, p := 0 } : Rd)
def s_l17Rd_pick (r_ : Rd) (n_ : Int) : Option (Int × Int) :=
  if ((decide (n_ < 1)) || ((r_.b.length : Int) == 0)) then (some (0, i64 (r_.p + 1))) else (if decide ((i64 ((i64 (r_.p + 1)) - 1)) < (r_.b.length : Int)) then ((idx r_.b (i64 ((i64 (r_.p + 1)) - 1))).bind fun x7 => (if n_ = 0 then none else some ()).bind fun _ => some (Int.tmod (i64 (x7.toNat : Int)) n_, i64 (r_.p + 1))) else ((if (r_.b.length : Int) = 0 then none else some ()).bind fun _ => (idx r_.b (Int.tmod (i64 ((i64 (r_.p + 1)) - 1)) (r_.b.length : Int))).bind fun x14 => (if (r_.b.length : Int) = 0 then none else some ()).bind fun _ => (idx r_.b (Int.tmod (i64 ((i64 ((i64 ((i64 (r_.p + 1)) - 1)) * 7)) + 3)) (r_.b.length : Int))).bind fun x18 => (if (r_.b.length : Int) = 0 then none else some ()).bind fun _ => (if n_ = 0 then none else some ()).bind fun _ => some (Int.tmod (xorI .i64 (i64 ((i64 ((i64 ((i64 ((i64 (x14.toNat : Int)) * 131)) + (i64 ((i64 (x18.toNat : Int)) * 1117)))) + (i64 ((i64 ((i64 (r_.p + 1)) - 1)) * 29)))) + (i64 ((i64 (Int.tdiv (i64 ((i64 (r_.p + 1)) - 1)) (r_.b.length : Int))) * 53)))) (i64 (Int.tdiv (i64 ((i64 ((i64 ((i64 ((i64 (x14.toNat : Int)) * 131)) + (i64 ((i64 (x18.toNat : Int)) * 1117)))) + (i64 ((i64 ((i64 (r_.p + 1)) - 1)) * 29)))) + (i64 ((i64 (Int.tdiv (i64 ((i64 (r_.p + 1)) - 1)) (r_.b.length : Int))) * 53)))) 64))) n_, i64 (r_.p + 1))))
def s_l17Rd_num (r_ : Rd) (list : List Int) : Option (Int × Int) :=
  (s_l17Rd_pick r_ (list.length : Int)).bind fun x1 => (idx list x1.1).bind fun x3 => some (x3, x1.2)
def s_l6Copy_b2 (_i_87 : Nat) (x_89 : List Int) : (List (List Int)) → Option (Lo (List (List Int)) (Lo (List Rule) (Model)))
  | g84_4_88 => (app ([]) x_89).bind fun x95 => (app g84_4_88 ([x95])).bind fun x100 => some (.cont x100)
def s_l6Copy_b1 (_i_28 : Nat) (x_30 : Rule) : (List Rule) → Option (Lo (List Rule) (Model))
  | g23_1_29 => (app ([]) x_30.vars).bind fun x45 => (app ([]) x_30.coefs).bind fun x51 => ((rangeL s_l6Copy_b2 x_30.rows 0 ([])) : Option (Jn (List (List Int)) (Lo (List Rule) (Model)))).bind fun j => match j with | .nx g84_4_88 => ((app g23_1_29 ([({ kind := x_30.kind, vars := x45, coefs := x51, bound := x_30.bound, rows := g84_4_88 } : Rule)])).bind fun x132 => some (.cont x132)) | .out t => some t
def s_l6Copy (m : Model) : Option (Model) :=
  (app ([]) m.sizes).bind fun x13 => ((rangeL s_l6Copy_b1 m.rules 0 ([])) : Option (Jn (List Rule) (Model))).bind fun j => match j with | .nx g23_1_29 => (some ({ sizes := x13, rules := g23_1_29 } : Model)) | .out t => some t
def s_l6Mutate_b1 : (List Int) → Option (Lo (List Int) (Unit))
  | g19_0_56 => if decide ((g19_0_56.length : Int) ≤ 5) then ((app g19_0_56 ([0])).bind fun x62 => some (.cont x62)) else (some (.brk g19_0_56))
noncomputable def s_l6Mutate (fu : Nat) (r_ : Rd) (m : Model) : Option (Unit) :=
  (s_l6Copy m).bind fun x11 => (s_l17Rd_pick r_ 50).bind fun x23 => if (x23.1 == 0) then (if decide ((x11.sizes.length : Int) > 0) then ((s_l17Rd_num ({ b := r_.b, p := x23.2 } : Rd) ([(-1), 4, 3, 9223372036854775807])).bind fun x31 => (idx x11.sizes 0).bind fun x33 => (assertM (sInts x11.sizes ∧ sRules x11.rules)).bind fun _ => anyM (fun o : (List Int) × (List Rule) => sInts o.1 ∧ sRules o.2) fun x37 => assertM (sModel ({ sizes := x37.1, rules := x37.2 } : Model) ∧ rdOk r_.p x31.2)) else (assertM (sModel x11 ∧ rdOk r_.p x23.2))) else (if (x23.1 == 1) then (((whileL s_l6Mutate_b1 fu x11.sizes) : Option (Jn (List Int) (Unit))).bind fun j => match j with | .nx g19_0_56 => (assertM (sModel ({ sizes := g19_0_56, rules := x11.rules } : Model) ∧ rdOk r_.p x23.2)) | .out t => some t) else (if (x23.1 == 2) then (if decide ((x11.rules.length : Int) > 0) then ((s_l17Rd_num ({ b := r_.b, p := x23.2 } : Rd) ([0, 5, 1, 2, 3])).bind fun x78 => (idx x11.rules 0).bind fun x80 => assertM (sModel ({ sizes := x11.sizes, rules := (x11.rules.set (Int.toNat 0) ({ kind := x78.1, vars := x80.vars, coefs := x80.coefs, bound := x80.bound, rows := x80.rows } : Rule)) } : Model) ∧ rdOk r_.p x78.2)) else (assertM (sModel x11 ∧ rdOk r_.p x23.2))) else (if (x23.1 == 3) then ((if decide ((x11.rules.length : Int) > 0) then ((idx x11.rules (i64 ((x11.rules.length : Int) - 1))).bind fun x101 => some (decide ((x101.vars.length : Int) > 0))) else some false).bind fun b104 => if b104 then ((idx x11.rules (i64 ((x11.rules.length : Int) - 1))).bind fun x110 => (s_l17Rd_num ({ b := r_.b, p := x23.2 } : Rd) ([(-1), 5, 1, 0])).bind fun x116 => (idx x110.vars 0).bind fun x118 => (assertM (sInts x11.sizes ∧ sRules x11.rules)).bind fun _ => anyM (fun o : (List Int) × (List Rule) => sInts o.1 ∧ sRules o.2) fun x122 => assertM (sModel ({ sizes := x122.1, rules := x122.2 } : Model) ∧ rdOk r_.p x116.2)) else (assertM (sModel x11 ∧ rdOk r_.p x23.2))) else (if (x23.1 == 4) then (if decide ((x11.rules.length : Int) > 0) then ((s_l17Rd_num ({ b := r_.b, p := x23.2 } : Rd) ([1001, (-1001), 1000])).bind fun x151 => (idx x11.rules 0).bind fun x153 => assertM (sModel ({ sizes := x11.sizes, rules := (x11.rules.set (Int.toNat 0) ({ kind := x153.kind, vars := x153.vars, coefs := x153.coefs, bound := x151.1, rows := x153.rows } : Rule)) } : Model) ∧ rdOk r_.p x151.2)) else (assertM (sModel x11 ∧ rdOk r_.p x23.2))) else (if (x23.1 == 5) then (assertM (sModel ({ sizes := [], rules := [] } : Model) ∧ rdOk r_.p x23.2)) else (assertM (sModel x11 ∧ rdOk r_.p x23.2)))))))
def s_l6Some_b1 (r_ : Rd) (i_9 : Nat) (_x_12 : Int) : ((List Int) × Int) → Option (Lo ((List Int) × Int) ((List Int) × Int))
  | (out_10, g_r_1_11) => (s_l17Rd_pick ({ b := r_.b, p := g_r_1_11 } : Rd) 3).bind fun x14 => ((if decide (x14.1 > 0) then ((app out_10 ([(i_9 : Int)])).bind fun x23 => some x23) else (some out_10)) : Option (List Int)).bind fun out_17 => some (.cont (out_17, x14.2))
def s_l6Some_b2 (m : Model) (least : Int) : ((List Int) × Int) → Option (Lo ((List Int) × Int) ((List Int) × Int))
  | (out_33, v_34) => if ((decide ((out_33.length : Int) < least)) && (decide (v_34 < (m.sizes.length : Int)))) then ((if ((out_33.length : Int) == 0) then some true else ((idx out_33 (i64 ((out_33.length : Int) - 1))).bind fun x39 => some (decide (x39 < v_34)))).bind fun b42 => ((if b42 then ((app out_33 ([v_34])).bind fun x53 => some x53) else (some out_33)) : Option (List Int)).bind fun out_47 => some (.cont (out_47, i64 (v_34 + 1)))) else (some (.brk (out_33, v_34)))
def s_l6Some_b3 (i_70 : Nat) : (List Int) → Option (Lo (List Int) (List Int))
  | out_71 => (app out_71 ([(i_70 : Int)])).bind fun x78 => some (.cont x78)
def s_l6Some (fu : Nat) (r_ : Rd) (m : Model) (least : Int) : Option ((List Int) × Int) :=
  ((rangeL (s_l6Some_b1 r_) m.sizes 0 ([], r_.p)) : Option (Jn ((List Int) × Int) ((List Int) × Int))).bind fun j => match j with | .nx (out_10, g_r_1_11) => (((whileL (s_l6Some_b2 m least) fu (out_10, 0)) : Option (Jn ((List Int) × Int) ((List Int) × Int))).bind fun j => match j with | .nx (out_33, v_34) => (((if ((decide ((out_33.length : Int) < least)) || ((out_33.length : Int) == 0)) then ((cntF 0 least).bind fun k73 => ((countL s_l6Some_b3 k73 0 ([])) : Option (Jn (List Int) (List Int))).bind fun j => match j with | .nx out_71 => (some out_71) | .out t => some t) else (some out_33)) : Option (List Int)).bind fun out_62 => (if decide ((out_62.length : Int) > 1) then ((s_l17Rd_pick ({ b := r_.b, p := g_r_1_11 } : Rd) 3).bind fun x85 => some ((x85.1 == 0), x85.2)) else some (false, g_r_1_11)).bind fun b87 => ((if b87.1 then ((idx out_62 0).bind fun x94 => (idx out_62 1).bind fun x99 => (idx (out_62.set (Int.toNat 0) x99) 1).bind fun x110 => some ((out_62.set (Int.toNat 0) x99).set (Int.toNat 1) x94)) else (some out_62)) : Option (List Int)).bind fun out_91 => some (out_91, b87.2)) | .out t => some t) | .out t => some t
def s_l6Draw_b1 (r_ : Rd) (_i_36 : Nat) (_x_40 : Int) : (Int × (List Int)) → Option (Lo (Int × (List Int)) (Int × (List Int) × (List Int) × Int × (List (List Int))))
  | (g_r_1_37, g20_2_38) => (s_l17Rd_num ({ b := r_.b, p := g_r_1_37 } : Rd) ([1, (-1), 2, 1, (-2), 3])).bind fun x46 => (app g20_2_38 ([x46.1])).bind fun x53 => some (.cont (x46.2, x53))
def s_l6Draw_b3 (r_ : Rd) (_i_118 : Nat) (_x_121 : Int) : ((List Int) × Int) → Option (Lo ((List Int) × Int) (Lo (Int × Int × (List (List Int))) (Int × (List Int) × (List (List Int)))))
  | (row_119, g_r_1_120) => (s_l17Rd_pick ({ b := r_.b, p := g_r_1_120 } : Rd) 4).bind fun x123 => (app row_119 ([x123.1])).bind fun x128 => some (.cont (x128, x123.2))
def s_l6Draw_b2 (r_ : Rd) (x24 : (List Int) × Int) : (Int × Int × (List (List Int))) → Option (Lo (Int × Int × (List (List Int))) (Int × (List Int) × (List (List Int))))
  | (i_108, g_r_1_109, g20_4_110) => if decide (i_108 > 0) then (((rangeL (s_l6Draw_b3 r_) x24.1 0 ([], g_r_1_109)) : Option (Jn ((List Int) × Int) (Lo (Int × Int × (List (List Int))) (Int × (List Int) × (List (List Int)))))).bind fun j => match j with | .nx (row_119, g_r_1_120) => ((app g20_4_110 ([row_119])).bind fun x140 => some (.cont (i64 (i_108 - 1), g_r_1_120, x140))) | .out t => some t) else (some (.brk (i_108, g_r_1_109, g20_4_110)))
def s_l6Draw (fu : Nat) (r_ : Rd) (m : Model) : Option (Rule × Int) :=
  (s_l17Rd_num r_ ([1, 2, 3, 4, 1])).bind fun x11 => (s_l6Some fu ({ b := r_.b, p := x11.2 } : Rd) m 1).bind fun x24 => ((if (x11.1 == 1) then (((rangeL (s_l6Draw_b1 r_) x24.1 0 (x24.2, [])) : Option (Jn (Int × (List Int)) (Int × (List Int) × (List Int) × Int × (List (List Int))))).bind fun j => match j with | .nx (g_r_1_37, g20_2_38) => ((s_l17Rd_num ({ b := r_.b, p := g_r_1_37 } : Rd) ([1, 2, 0, (-1), 3, (-3), 4])).bind fun x84 => some (x84.2, x24.1, g20_2_38, x84.1, [])) | .out t => some t) else (((if (x11.1 == 3) then ((s_l17Rd_num ({ b := r_.b, p := x24.2 } : Rd) ([3, 4, 2, 6, 0, 8])).bind fun x101 => ((whileL (s_l6Draw_b2 r_ x24) fu (x101.1, x101.2, [])) : Option (Jn (Int × Int × (List (List Int))) (Int × (List Int) × (List (List Int))))).bind fun j => match j with | .nx (i_108, g_r_1_109, g20_4_110) => (some (g_r_1_109, x24.1, g20_4_110)) | .out t => some t) else (((if (x11.1 == 4) then ((s_l6Some fu ({ b := r_.b, p := x24.2 } : Rd) m 2).bind fun x153 => (sl x153.1 0 2).bind fun x156 => some (x153.2, x156)) else (some (x24.2, x24.1))) : Option (Int × (List Int))).bind fun (g_r_1_149, g20_1_150) => some (g_r_1_149, g20_1_150, []))) : Option (Int × (List Int) × (List (List Int)))).bind fun (g_r_1_93, g20_1_94, g20_4_95) => some (g_r_1_93, g20_1_94, [], 0, g20_4_95))) : Option (Int × (List Int) × (List Int) × Int × (List (List Int)))).bind fun (g_r_1_29, g20_1_30, g20_2_31, g20_3_32, g20_4_33) => some (({ kind := x11.1, vars := g20_1_30, coefs := g20_2_31, bound := g20_3_32, rows := g20_4_33 } : Rule), g_r_1_29)
def s_l6Model_b1 (r_ : Rd) : (Int × Int × (List Int)) → Option (Lo (Int × Int × (List Int)) (Model × Int))
  | (i_21, g_r_1_22, g9_0_23) => if decide (i_21 > 0) then ((s_l17Rd_num ({ b := r_.b, p := g_r_1_22 } : Rd) ([2, 1, 3, 2, 0])).bind fun x29 => (app g9_0_23 ([x29.1])).bind fun x35 => some (.cont (i64 (i_21 - 1), x29.2, x35))) else (some (.brk (i_21, g_r_1_22, g9_0_23)))
def s_l6Model_b3 (_i_63 : Nat) (x_65 : Int) : (Int) → Option (Lo (Int) (Lo (Int × (List Int)) (Model × Int)))
  | n_64 => some (.cont (i64 ((i64 (n_64 + x_65)) + 1)))
def s_l6Model_b2 : (Int × (List Int)) → Option (Lo (Int × (List Int)) (Model × Int))
  | (n_59, g9_0_60) => if (n_59 == 0) then (((rangeL s_l6Model_b3 g9_0_60 0 n_59) : Option (Jn (Int) (Lo (Int × (List Int)) (Model × Int)))).bind fun j => match j with | .nx n_64 => (((if decide (n_64 > 12) then ((sl g9_0_60 0 (i64 ((g9_0_60.length : Int) - 1))).bind fun x75 => some (0, x75)) else (some (n_64, g9_0_60))) : Option (Int × (List Int))).bind fun (n_71, g9_0_72) => some (.cont (n_71, g9_0_72))) | .out t => some t) else (some (.brk (n_59, g9_0_60)))
def s_l6Model_b4 (fu : Nat) (r_ : Rd) (g9_0_60 : List Int) : (Int × Int × (List Rule)) → Option (Lo (Int × Int × (List Rule)) (Model × Int))
  | (i_88, g_r_1_89, g9_1_90) => if decide (i_88 > 0) then ((s_l6Draw fu ({ b := r_.b, p := g_r_1_89 } : Rd) ({ sizes := g9_0_60, rules := g9_1_90 } : Model)).bind fun x93 => (app g9_1_90 ([x93.1])).bind fun x98 => some (.cont (i64 (i_88 - 1), x93.2, x98))) else (some (.brk (i_88, g_r_1_89, g9_1_90)))
def s_l6Model (fu : Nat) (r_ : Rd) : Option (Model × Int) :=
  (s_l17Rd_num r_ ([3, 2, 4, 3])).bind fun x15 => ((whileL (s_l6Model_b1 r_) fu (x15.1, x15.2, [])) : Option (Jn (Int × Int × (List Int)) (Model × Int))).bind fun j => match j with | .nx (i_21, g_r_1_22, g9_0_23) => (((whileL s_l6Model_b2 fu (0, g9_0_23)) : Option (Jn (Int × (List Int)) (Model × Int))).bind fun j => match j with | .nx (n_59, g9_0_60) => ((s_l17Rd_num ({ b := r_.b, p := g_r_1_22 } : Rd) ([2, 3, 1, 4, 0])).bind fun x82 => ((whileL (s_l6Model_b4 fu r_ g9_0_60) fu (x82.1, x82.2, [])) : Option (Jn (Int × Int × (List Rule)) (Model × Int))).bind fun j => match j with | .nx (i_88, g_r_1_89, g9_1_90) => (some (({ sizes := g9_0_60, rules := g9_1_90 } : Model), g_r_1_89)) | .out t => some t) | .out t => some t) | .out t => some t
noncomputable def s_DrawBoolVar (fu : Nat) (code : List UInt8) : Option (Unit) :=
  (s_l17Open code).bind fun x5 => (s_l6Model fu x5).bind fun x8 => anyB (s_l6Mutate fu ({ b := x5.b, p := x8.2 } : Rd) x8.1) (fun o : Model × Int => sModel o.1 ∧ rdOk x8.2 o.2) fun x10 => (s_l17Rd_num ({ b := x5.b, p := x10.2 } : Rd) ([0, 1, 2, 3, (-1), 5])).bind fun x24 => (s_l17Rd_num ({ b := x5.b, p := x24.2 } : Rd) ([0, 1, 2, 3, (-1), 4])).bind fun x29 => assertM (sModel x10.1)
def i_within (n_ : Int) (low : Int) (high : Int) : Option (Bool) :=
  some ((decide (low ≤ n_)) && (decide (n_ ≤ high)))
def slices_IndexFunc_implRule_b1 (f_ : (Rule → Option Bool)) (i_1 : Nat) (x_2 : Rule) : (Unit) → Option (Lo (Unit) (Int))
  | () => (f_ x_2).bind fun x6 => if x6 then (some (.out (i_1 : Int))) else (some (.cont ()))
def slices_IndexFunc_implRule (s : List Rule) (f_ : (Rule → Option Bool)) : Option (Int) :=
  ((rangeL (slices_IndexFunc_implRule_b1 f_) s 0 ()) : Option (Jn (Unit) (Int))).bind fun j => match j with | .nx _ => (some (-1)) | .out t => some t
def slices_ContainsFunc_implRule (s : List Rule) (f_ : (Rule → Option Bool)) : Option (Bool) :=
  (slices_IndexFunc_implRule s f_).bind fun x1 => some (decide (x1 ≥ 0))
def slices_Index_int_b1 (v_ : Int) (i_1 : Nat) (x_2 : Int) : (Unit) → Option (Lo (Unit) (Int))
  | () => if (v_ == x_2) then (some (.out (i_1 : Int))) else (some (.cont ()))
def slices_Index_int (s : List Int) (v_ : Int) : Option (Int) :=
  ((rangeL (slices_Index_int_b1 v_) s 0 ()) : Option (Jn (Unit) (Int))).bind fun j => match j with | .nx _ => (some (-1)) | .out t => some t
def slices_Contains_int (s : List Int) (v_ : Int) : Option (Bool) :=
  (slices_Index_int s v_).bind fun x1 => some (decide (x1 ≥ 0))
def slices_IndexFunc_int_b1 (f_ : (Int → Option Bool)) (i_1 : Nat) (x_2 : Int) : (Unit) → Option (Lo (Unit) (Int))
  | () => (f_ x_2).bind fun x6 => if x6 then (some (.out (i_1 : Int))) else (some (.cont ()))
def slices_IndexFunc_int (s : List Int) (f_ : (Int → Option Bool)) : Option (Int) :=
  ((rangeL (slices_IndexFunc_int_b1 f_) s 0 ()) : Option (Jn (Unit) (Int))).bind fun j => match j with | .nx _ => (some (-1)) | .out t => some t
def slices_ContainsFunc_int (s : List Int) (f_ : (Int → Option Bool)) : Option (Bool) :=
  (slices_IndexFunc_int s f_).bind fun x1 => some (decide (x1 ≥ 0))
def i_ruleValid_1 (n_ : Int) : Option (Bool) :=
  (if (n_ == 0) then some true else ((i_within n_ (-9) 9).bind fun x1 => some (!x1))).bind fun b3 => some b3
def slices_IndexFunc_Sint_b1 (f_ : (List Int → Option Bool)) (i_1 : Nat) (x_2 : List Int) : (Unit) → Option (Lo (Unit) (Int))
  | () => (f_ x_2).bind fun x6 => if x6 then (some (.out (i_1 : Int))) else (some (.cont ()))
def slices_IndexFunc_Sint (s : List (List Int)) (f_ : (List Int → Option Bool)) : Option (Int) :=
  ((rangeL (slices_IndexFunc_Sint_b1 f_) s 0 ()) : Option (Jn (Unit) (Int))).bind fun j => match j with | .nx _ => (some (-1)) | .out t => some t
def slices_ContainsFunc_Sint (s : List (List Int)) (f_ : (List Int → Option Bool)) : Option (Bool) :=
  (slices_IndexFunc_Sint s f_).bind fun x1 => some (decide (x1 ≥ 0))
def i_ruleValid_2_1 (n_ : Int) : Option (Bool) :=
  (i_within n_ 0 3).bind fun x1 => some (!x1)
def i_ruleValid_2 (c1 : Rule) (row : List Int) : Option (Bool) :=
  (if ((row.length : Int) != (c1.vars.length : Int)) then some true else ((slices_ContainsFunc_int row i_ruleValid_2_1).bind fun x1 => some x1)).bind fun b3 => some b3
def i_ruleValid_b1 (r_ : Rule) (cells : Int) (i_5 : Nat) (x_6 : Int) : (Unit) → Option (Lo (Unit) (Bool))
  | () => (i_within x_6 0 (i64 (cells - 1))).bind fun x12 => (if (!x12) then some true else ((sl r_.vars 0 (i_5 : Int)).bind fun x14 => (slices_Contains_int x14 x_6).bind fun x16 => some x16)).bind fun b18 => if b18 then (some (.out false)) else (some (.cont ()))
def i_ruleValid (r_ : Rule) (cells : Int) : Option (Bool) :=
  ((rangeL (i_ruleValid_b1 r_ cells) r_.vars 0 ()) : Option (Jn (Unit) (Bool))).bind fun j => match j with | .nx _ => (if ((((r_.vars.length : Int) == 0) || ((r_.kind != 1) && ((decide ((r_.coefs.length : Int) > 0)) || (r_.bound != 0)))) || ((r_.kind != 3) && (decide ((r_.rows.length : Int) > 0)))) then (some false) else (if (r_.kind == 1) then ((if ((r_.coefs.length : Int) == (r_.vars.length : Int)) then ((i_within r_.bound (-1000) 1000).bind fun x39 => some x39) else some false).bind fun b41 => (if b41 then ((slices_ContainsFunc_int r_.coefs i_ruleValid_1).bind fun x42 => some (!x42)) else some false).bind fun b44 => some b44) else (if (r_.kind == 3) then ((if decide ((r_.rows.length : Int) ≤ 8) then ((slices_ContainsFunc_Sint r_.rows (i_ruleValid_2 r_)).bind fun x55 => some (!x55)) else some false).bind fun b57 => some b57) else (if (r_.kind == 4) then (some ((r_.vars.length : Int) == 2)) else (some (r_.kind == 2)))))) | .out t => some t
def i_ModelValid_1 (c1 : Model) (r_ : Rule) : Option (Bool) :=
  (i_ruleValid r_ (c1.sizes.length : Int)).bind fun x5 => some (!x5)
def i_ModelValid_b1 (_i_11 : Nat) (x_13 : Int) : (Int) → Option (Lo (Int) (Bool))
  | count_12 => (i_within x_13 0 3).bind fun x19 => if (!x19) then (some (.out false)) else (some (.cont (i64 (count_12 + (i64 (x_13 + 1))))))
def i_ModelValid (m : Model) : Option (Bool) :=
  (i_within (m.sizes.length : Int) 1 5).bind fun x5 => if ((!x5) || (decide ((m.rules.length : Int) > 8))) then (some false) else (((rangeL i_ModelValid_b1 m.sizes 0 0) : Option (Jn (Int) (Bool))).bind fun j => match j with | .nx count_12 => ((if decide (count_12 ≤ 12) then ((slices_ContainsFunc_implRule m.rules (i_ModelValid_1 m)).bind fun x23 => some (!x23)) else some false).bind fun b25 => some b25) | .out t => some t)
def i_Model_boolVar_b1 (_i_8 : Nat) (x_10 : Int) : (Int) → Option (Lo (Int) (Int))
  | v_9 => some (.cont (i64 (v_9 + (i64 (x_10 + 1)))))
def i_Model_boolVar (m : Model) (cell : Int) (value : Int) : Option (Int) :=
  (sl m.sizes 0 cell).bind fun x5 => ((rangeL i_Model_boolVar_b1 x5 0 (i64 (1 + value))) : Option (Jn (Int) (Int))).bind fun j => match j with | .nx v_9 => (some v_9) | .out t => some t
def i_BoolVar (m : Model) (cell : Int) (value : Int) : Option (Int) :=
  (i_ModelValid m).bind fun x5 => (if (!x5) then some true else ((i_within cell 0 (i64 ((m.sizes.length : Int) - 1))).bind fun x7 => some (!x7))).bind fun b9 => (if b9 then some true else ((idx m.sizes cell).bind fun x10 => (i_within value 0 x10).bind fun x13 => some (!x13))).bind fun b15 => if b15 then (some 0) else ((i_Model_boolVar m cell value).bind fun x29 => some x29)
def s_l6Vars_b2 (list : List Int) (x_6 : Int) (i_31 : Nat) : (Unit) → Option (Lo (Unit) (Lo (Unit) (Bool)))
  | () => (idx list (i_31 : Int)).bind fun x35 => if (x35 == x_6) then (some (.out (.out false))) else (some (.cont ()))
def s_l6Vars_b1 (m : Model) (list : List Int) (i_5 : Nat) (x_6 : Int) : (Unit) → Option (Lo (Unit) (Bool))
  | () => if ((decide (x_6 < 0)) || (decide (x_6 ≥ (m.sizes.length : Int)))) then (some (.out false)) else ((cntF 0 (i_5 : Int)).bind fun k33 => ((countL (s_l6Vars_b2 list x_6) k33 0 ()) : Option (Jn (Unit) (Lo (Unit) (Bool)))).bind fun j => match j with | .nx _ => (some (.cont ())) | .out t => some t)
def s_l6Vars (m : Model) (list : List Int) : Option (Bool) :=
  ((rangeL (s_l6Vars_b1 m list) list 0 ()) : Option (Jn (Unit) (Bool))).bind fun j => match j with | .nx _ => (some (decide ((list.length : Int) ≥ 1))) | .out t => some t
def s_l6Linear_b1 (_i_5 : Nat) (x_6 : Int) : (Unit) → Option (Lo (Unit) (Bool))
  | () => if (((decide (x_6 < (-9))) || (decide (x_6 > 9))) || (x_6 == 0)) then (some (.out false)) else (some (.cont ()))
def s_l6Linear (r_ : Rule) : Option (Bool) :=
  ((rangeL s_l6Linear_b1 r_.coefs 0 ()) : Option (Jn (Unit) (Bool))).bind fun j => match j with | .nx _ => (some ((((r_.coefs.length : Int) == (r_.vars.length : Int)) && (decide (r_.bound ≥ (-1000)))) && (decide (r_.bound ≤ 1000)))) | .out t => some t
def s_l6Table_b2 (x_6 : List Int) (i_18 : Nat) : (Unit) → Option (Lo (Unit) (Lo (Unit) (Bool)))
  | () => (idx x_6 (i_18 : Int)).bind fun x28 => if ((decide (x28 < 0)) || (decide (x28 > 3))) then (some (.out (.out false))) else (some (.cont ()))
def s_l6Table_b1 (r_ : Rule) (_i_5 : Nat) (x_6 : List Int) : (Unit) → Option (Lo (Unit) (Bool))
  | () => if ((x_6.length : Int) != (r_.vars.length : Int)) then (some (.out false)) else ((cntF 0 (x_6.length : Int)).bind fun k20 => ((countL (s_l6Table_b2 x_6) k20 0 ()) : Option (Jn (Unit) (Lo (Unit) (Bool)))).bind fun j => match j with | .nx _ => (some (.cont ())) | .out t => some t)
def s_l6Table (r_ : Rule) : Option (Bool) :=
  ((rangeL (s_l6Table_b1 r_) r_.rows 0 ()) : Option (Jn (Unit) (Bool))).bind fun j => match j with | .nx _ => (some (decide ((r_.rows.length : Int) ≤ 8))) | .out t => some t
def s_l6Rule (m : Model) (r_ : Rule) : Option (Bool) :=
  (s_l6Vars m r_.vars).bind fun x9 => if (((!x9) || ((r_.kind != 1) && (((r_.coefs.length : Int) != 0) || (r_.bound != 0)))) || ((r_.kind != 3) && ((r_.rows.length : Int) != 0))) then (some false) else (if (r_.kind == 1) then ((s_l6Linear r_).bind fun x26 => some x26) else (if (r_.kind == 2) then (some true) else (if (r_.kind == 3) then ((s_l6Table r_).bind fun x31 => some x31) else (if (r_.kind == 4) then (some ((r_.vars.length : Int) == 2)) else (some false)))))
def s_ModelValid_b1 (m : Model) : (Int × Int) → Option (Lo (Int × Int) (Bool))
  | (n_8, i_9) => if ((decide (i_9 < (m.sizes.length : Int))) && (decide (i_9 < 5))) then ((idx m.sizes i_9).bind fun x14 => if ((decide (x14 < 0)) || (decide (x14 > 3))) then (some (.out false)) else (some (.cont (i64 ((i64 (n_8 + x14)) + 1), i64 (i_9 + 1))))) else (some (.brk (n_8, i_9)))
def s_ModelValid_b2 (m : Model) (_i_39 : Nat) (x_40 : Rule) : (Unit) → Option (Lo (Unit) (Bool))
  | () => (s_l6Rule m x_40).bind fun x44 => if (!x44) then (some (.out false)) else (some (.cont ()))
def s_ModelValid (fu : Nat) (m : Model) : Option (Bool) :=
  ((whileL (s_ModelValid_b1 m) fu (0, 0)) : Option (Jn (Int × Int) (Bool))).bind fun j => match j with | .nx (n_8, i_9) => (if ((((decide ((m.sizes.length : Int) < 1)) || (decide ((m.sizes.length : Int) > 5))) || (decide (n_8 > 12))) || (decide ((m.rules.length : Int) > 8))) then (some false) else (((rangeL (s_ModelValid_b2 m) m.rules 0 ()) : Option (Jn (Unit) (Bool))).bind fun j => match j with | .nx _ => (some true) | .out t => some t)) | .out t => some t
def s_l7Var_b1 (m : Model) (i_5 : Nat) : (Int) → Option (Lo (Int) (Int))
  | n_6 => (idx m.sizes (i_5 : Int)).bind fun x10 => some (.cont (i64 ((i64 (n_6 + x10)) + 1)))
def s_l7Var (m : Model) (cell : Int) (value : Int) : Option (Int) :=
  (cntF 0 cell).bind fun k8 => ((countL (s_l7Var_b1 m) k8 0 (i64 (1 + value))) : Option (Jn (Int) (Int))).bind fun j => match j with | .nx n_6 => (some n_6) | .out t => some t
def s_BoolVar (fu : Nat) (m : Model) (cell : Int) (value : Int) : Option (Int) :=
  (s_ModelValid fu m).bind fun x5 => (if ((((!x5) || (decide (cell < 0))) || (decide (cell ≥ (m.sizes.length : Int)))) || (decide (value < 0))) then some true else ((idx m.sizes cell).bind fun x7 => some (decide (value > x7)))).bind fun b10 => if b10 then (some 0) else ((s_l7Var m cell value).bind fun x45 => some x45)
def i_FreeVars (m : Model) : Option (Int) :=
  (i_ModelValid m).bind fun x5 => if (!x5) then (some 0) else ((idx m.sizes (i64 ((m.sizes.length : Int) - 1))).bind fun x9 => (i_Model_boolVar m (i64 ((m.sizes.length : Int) - 1)) x9).bind fun x12 => some (i64 (12 - x12)))
noncomputable def l_FnBoolVar (fu : Nat) (code : List UInt8) (more : List UInt8) : Option (Bool) :=
  if ((decide ((code.length : Int) > 1048576)) || (decide ((more.length : Int) > 1048576))) then (some true) else (anyB (s_DrawBoolVar fu code) (fun o : Model × Int × Int => sModel o.1) fun x4 => anyB (s_DrawBoolVar fu more) (fun o : Model × Int × Int => sModel o.1) fun x13 => (i_BoolVar x4.1 x4.2.1 x4.2.2).bind fun x24 => (i_BoolVar x4.1 x13.2.1 x13.2.2).bind fun x27 => (s_BoolVar fu x4.1 x4.2.1 x4.2.2).bind fun x30 => if (((x24 != x30) || (x24 == 0)) || (x27 == 0)) then ((s_BoolVar fu x4.1 x4.2.1 x4.2.2).bind fun x38 => some (x24 == x38)) else ((if (((x24 == x27) == ((x4.2.1 == x13.2.1) && (x4.2.2 == x13.2.2))) && (decide (x24 ≥ 1))) then ((i_FreeVars x4.1).bind fun x41 => some (decide (x24 ≤ (i64 (12 - x41))))) else some false).bind fun b43 => some b43))
def s_l6DrawCells_b1 (r_ : Rd) (_i_9 : Nat) (x_12 : Int) : ((List Int) × Int) → Option (Lo ((List Int) × Int) ((List Int) × Int))
  | (out_10, g_r_1_11) => ((if ((decide ((i64 (x_12 + 1)) < 1)) || (decide ((i64 (x_12 + 1)) > 4))) then (some 1) else (some (i64 (x_12 + 1)))) : Option (Int)).bind fun n_20 => (s_l17Rd_pick ({ b := r_.b, p := g_r_1_11 } : Rd) n_20).bind fun x23 => (app out_10 ([x23.1])).bind fun x28 => some (.cont (x28, x23.2))
def s_l6DrawCells (r_ : Rd) (m : Model) : Option ((List Int) × Int) :=
  ((rangeL (s_l6DrawCells_b1 r_) m.sizes 0 ([], r_.p)) : Option (Jn ((List Int) × Int) ((List Int) × Int))).bind fun j => match j with | .nx (out_10, g_r_1_11) => ((s_l17Rd_pick ({ b := r_.b, p := g_r_1_11 } : Rd) 40).bind fun x36 => ((if (x36.1 == 0) then ((app out_10 ([0])).bind fun x46 => some (x46, x36.2)) else (((if (x36.1 == 1) then (((if decide ((out_10.length : Int) > 0) then ((s_l17Rd_num ({ b := r_.b, p := x36.2 } : Rd) ([(-1), 4, 9223372036854775807])).bind fun x64 => (idx out_10 0).bind fun x66 => some ((out_10.set (Int.toNat 0) x64.1), x64.2)) else (some (out_10, x36.2))) : Option ((List Int) × Int)).bind fun (out_57, g_r_1_58) => some (out_57, g_r_1_58)) else (some (out_10, x36.2))) : Option ((List Int) × Int)).bind fun (out_53, g_r_1_54) => some (out_53, g_r_1_54))) : Option ((List Int) × Int)).bind fun (out_39, g_r_1_40) => some (out_39, g_r_1_40)) | .out t => some t
noncomputable def s_DrawRuleHolds (fu : Nat) (code : List UInt8) : Option (Unit) :=
  (s_l17Open code).bind fun x5 => (s_l6Model fu x5).bind fun x8 => anyB (s_l6Mutate fu ({ b := x5.b, p := x8.2 } : Rd) x8.1) (fun o : Model × Int => sModel o.1 ∧ rdOk x8.2 o.2) fun x10 => (s_l17Rd_num ({ b := x5.b, p := x10.2 } : Rd) ([0, 0, 1, 2, (-1), 8])).bind fun x24 => (s_l6DrawCells ({ b := x5.b, p := x24.2 } : Rd) x10.1).bind fun x26 => assertM (sModel x10.1 ∧ sOut x26.1)
def i_CellsValid_b1 (m : Model) (i_11 : Nat) (x_12 : Int) : (Unit) → Option (Lo (Unit) (Bool))
  | () => (idx m.sizes (i_11 : Int)).bind fun x18 => (i_within x_12 0 x18).bind fun x21 => if (!x21) then (some (.out false)) else (some (.cont ()))
def i_CellsValid (m : Model) (cells : List Int) : Option (Bool) :=
  (i_ModelValid m).bind fun x5 => if ((!x5) || ((cells.length : Int) != (m.sizes.length : Int))) then (some false) else (((rangeL (i_CellsValid_b1 m) cells 0 ()) : Option (Jn (Unit) (Bool))).bind fun j => match j with | .nx _ => (some true) | .out t => some t)
def i_isRule (m : Model) (rule : Int) : Option (Bool) :=
  (i_within rule 0 (i64 ((m.rules.length : Int) - 1))).bind fun x5 => some x5
def slices_Equal_int_b1 (s2 : List Int) (i_2 : Nat) (x_3 : Int) : (Unit) → Option (Lo (Unit) (Bool))
  | () => (idx s2 (i_2 : Int)).bind fun x7 => if (x_3 != x7) then (some (.out false)) else (some (.cont ()))
def slices_Equal_int (s1 : List Int) (s2 : List Int) : Option (Bool) :=
  if ((s1.length : Int) != (s2.length : Int)) then (some false) else (((rangeL (slices_Equal_int_b1 s2) s1 0 ()) : Option (Jn (Unit) (Bool))).bind fun j => match j with | .nx _ => (some true) | .out t => some t)
def i_Rule_holds_1 (c1 : List Int) (row : List Int) : Option (Bool) :=
  (slices_Equal_int row c1).bind fun x1 => some x1
def i_Rule_holds_b1 (r_ : Rule) (i_10 : Nat) (x_12 : Int) : (Int) → Option (Lo (Int) (Bool))
  | sum_11 => (idx r_.coefs (i_10 : Int)).bind fun x18 => some (.cont (i64 (sum_11 + (i64 (x18 * x_12)))))
def i_Rule_holds_b2 (vals : List Int) (i_24 : Nat) (x_25 : Int) : (Unit) → Option (Lo (Unit) (Bool))
  | () => (sl vals 0 (i_24 : Int)).bind fun x31 => (slices_Contains_int x31 x_25).bind fun x33 => if x33 then (some (.out false)) else (some (.cont ()))
def i_Rule_holds (r_ : Rule) (vals : List Int) : Option (Bool) :=
  if (r_.kind == 1) then (((rangeL (i_Rule_holds_b1 r_) vals 0 0) : Option (Jn (Int) (Bool))).bind fun j => match j with | .nx sum_11 => (some (decide (sum_11 ≥ r_.bound))) | .out t => some t) else (if (r_.kind == 2) then (((rangeL (i_Rule_holds_b2 vals) vals 0 ()) : Option (Jn (Unit) (Bool))).bind fun j => match j with | .nx _ => (some true) | .out t => some t) else (if (r_.kind == 3) then ((slices_ContainsFunc_Sint r_.rows (i_Rule_holds_1 vals)).bind fun x39 => some x39) else ((idx vals 0).bind fun x43 => (idx vals 1).bind fun x46 => some (decide (x43 < x46)))))
def i_Rule_at_b1 (cells : List Int) (_i_5 : Nat) (x_7 : Int) : (List Int) → Option (Lo (List Int) (Bool))
  | vals_6 => (idx cells x_7).bind fun x13 => (app vals_6 ([x13])).bind fun x19 => some (.cont x19)
def i_Rule_at (r_ : Rule) (cells : List Int) : Option (Bool) :=
  ((rangeL (i_Rule_at_b1 cells) r_.vars 0 ([])) : Option (Jn (List Int) (Bool))).bind fun j => match j with | .nx vals_6 => ((i_Rule_holds r_ vals_6).bind fun x28 => some x28) | .out t => some t
def i_RuleHolds (m : Model) (rule : Int) (cells : List Int) : Option (Bool) :=
  (i_CellsValid m cells).bind fun x5 => (if x5 then ((i_isRule m rule).bind fun x7 => some x7) else some false).bind fun b9 => (if b9 then ((idx m.rules rule).bind fun x10 => (i_Rule_at x10 cells).bind fun x13 => some x13) else some false).bind fun b15 => some b15
def s_l6Cells_b1 (m : Model) (i_6 : Nat) (x_7 : Int) : (Unit) → Option (Lo (Unit) (Bool))
  | () => (if decide (x_7 < 0) then some true else ((idx m.sizes (i_6 : Int)).bind fun x13 => some (decide (x_7 > x13)))).bind fun b16 => if b16 then (some (.out false)) else (some (.cont ()))
def s_l6Cells (m : Model) (cells : List Int) : Option (Bool) :=
  if ((cells.length : Int) != (m.sizes.length : Int)) then (some false) else (((rangeL (s_l6Cells_b1 m) cells 0 ()) : Option (Jn (Unit) (Bool))).bind fun j => match j with | .nx _ => (some true) | .out t => some t)
def s_CellsValid (fu : Nat) (m : Model) (cells : List Int) : Option (Bool) :=
  (s_ModelValid fu m).bind fun x5 => (if x5 then ((s_l6Cells m cells).bind fun x7 => some x7) else some false).bind fun b9 => some b9
def s_l6Ints_b1 (b : List Int) (i_2 : Nat) (x_3 : Int) : (Unit) → Option (Lo (Unit) (Bool))
  | () => (idx b (i_2 : Int)).bind fun x7 => if (x_3 != x7) then (some (.out false)) else (some (.cont ()))
def s_l6Ints (a : List Int) (b : List Int) : Option (Bool) :=
  if ((a.length : Int) != (b.length : Int)) then (some false) else (((rangeL (s_l6Ints_b1 b) a 0 ()) : Option (Jn (Unit) (Bool))).bind fun j => match j with | .nx _ => (some true) | .out t => some t)
def s_l6Holds_b1 (cells : List Int) (_i_9 : Nat) (x_11 : Int) : (List Int) → Option (Lo (List Int) (Bool))
  | list_10 => (idx cells x_11).bind fun x15 => (app list_10 ([x15])).bind fun x21 => some (.cont x21)
def s_l6Holds_b2 (r_ : Rule) (i_33 : Nat) (x_35 : Int) : (Int) → Option (Lo (Int) (Bool))
  | n_34 => (idx r_.coefs (i_33 : Int)).bind fun x37 => some (.cont (i64 (n_34 + (i64 (x37 * x_35)))))
def s_l6Holds_b4 (list_10 : List Int) (x_55 : Int) (i_57 : Nat) : (Unit) → Option (Lo (Unit) (Lo (Unit) (Bool)))
  | () => (idx list_10 (i_57 : Int)).bind fun x61 => if (x61 == x_55) then (some (.out (.out false))) else (some (.cont ()))
def s_l6Holds_b3 (list_10 : List Int) (i_54 : Nat) (x_55 : Int) : (Unit) → Option (Lo (Unit) (Bool))
  | () => (cntF 0 (i_54 : Int)).bind fun k59 => ((countL (s_l6Holds_b4 list_10 x_55) k59 0 ()) : Option (Jn (Unit) (Lo (Unit) (Bool)))).bind fun j => match j with | .nx _ => (some (.cont ())) | .out t => some t
def s_l6Holds_b5 (list_10 : List Int) (_i_96 : Nat) (x_97 : List Int) : (Unit) → Option (Lo (Unit) (Bool))
  | () => (s_l6Ints x_97 list_10).bind fun x101 => if x101 then (some (.out true)) else (some (.cont ()))
def s_l6Holds (r_ : Rule) (cells : List Int) : Option (Bool) :=
  ((rangeL (s_l6Holds_b1 cells) r_.vars 0 ([])) : Option (Jn (List Int) (Bool))).bind fun j => match j with | .nx list_10 => (if (r_.kind == 1) then (((rangeL (s_l6Holds_b2 r_) list_10 0 0) : Option (Jn (Int) (Bool))).bind fun j => match j with | .nx n_34 => (some (decide (n_34 ≥ r_.bound))) | .out t => some t) else (if (r_.kind == 2) then (((rangeL (s_l6Holds_b3 list_10) list_10 0 ()) : Option (Jn (Unit) (Bool))).bind fun j => match j with | .nx _ => (some true) | .out t => some t) else (if (r_.kind == 4) then ((idx list_10 0).bind fun x79 => (idx list_10 1).bind fun x82 => some (decide (x79 < x82))) else (((rangeL (s_l6Holds_b5 list_10) r_.rows 0 ()) : Option (Jn (Unit) (Bool))).bind fun j => match j with | .nx _ => (some false) | .out t => some t)))) | .out t => some t
def s_RuleHolds (fu : Nat) (m : Model) (rule : Int) (cells : List Int) : Option (Bool) :=
  (s_CellsValid fu m cells).bind fun x5 => (if ((x5 && (decide (rule ≥ 0))) && (decide (rule < (m.rules.length : Int)))) then ((idx m.rules rule).bind fun x7 => (s_l6Holds x7 cells).bind fun x10 => some x10) else some false).bind fun b12 => some b12
noncomputable def l_FnRuleLess (fu : Nat) (code : List UInt8) : Option (Bool) :=
  if decide ((code.length : Int) > 1048576) then (some true) else (anyB (s_DrawRuleHolds fu code) (fun o : Model × Int × (List Int) => sModel o.1 ∧ sOut o.2.2) fun x2 => if decide ((x2.1.sizes.length : Int) < 2) then (some true) else ((i_RuleHolds ({ sizes := x2.1.sizes, rules := [({ kind := 4, vars := [0, 1], coefs := [], bound := 0, rows := [] } : Rule), ({ kind := 4, vars := [1, 0], coefs := [], bound := 0, rows := [] } : Rule), ({ kind := 1, vars := [0, 1], coefs := [(-1), 1], bound := 1, rows := [] } : Rule)] } : Model) 0 x2.2.2).bind fun x51 => (i_RuleHolds ({ sizes := x2.1.sizes, rules := [({ kind := 4, vars := [0, 1], coefs := [], bound := 0, rows := [] } : Rule), ({ kind := 4, vars := [1, 0], coefs := [], bound := 0, rows := [] } : Rule), ({ kind := 1, vars := [0, 1], coefs := [(-1), 1], bound := 1, rows := [] } : Rule)] } : Model) 1 x2.2.2).bind fun x54 => (s_RuleHolds fu ({ sizes := x2.1.sizes, rules := [({ kind := 4, vars := [0, 1], coefs := [], bound := 0, rows := [] } : Rule), ({ kind := 4, vars := [1, 0], coefs := [], bound := 0, rows := [] } : Rule), ({ kind := 1, vars := [0, 1], coefs := [(-1), 1], bound := 1, rows := [] } : Rule)] } : Model) 0 x2.2.2).bind fun x57 => (if (x51 != x57) then some true else ((s_RuleHolds fu ({ sizes := x2.1.sizes, rules := [({ kind := 4, vars := [0, 1], coefs := [], bound := 0, rows := [] } : Rule), ({ kind := 4, vars := [1, 0], coefs := [], bound := 0, rows := [] } : Rule), ({ kind := 1, vars := [0, 1], coefs := [(-1), 1], bound := 1, rows := [] } : Rule)] } : Model) 1 x2.2.2).bind fun x59 => some (x54 != x59))).bind fun b61 => (if b61 then some true else ((i_CellsValid ({ sizes := x2.1.sizes, rules := [({ kind := 4, vars := [0, 1], coefs := [], bound := 0, rows := [] } : Rule), ({ kind := 4, vars := [1, 0], coefs := [], bound := 0, rows := [] } : Rule), ({ kind := 1, vars := [0, 1], coefs := [(-1), 1], bound := 1, rows := [] } : Rule)] } : Model) x2.2.2).bind fun x62 => some (!x62))).bind fun b64 => if b64 then ((s_RuleHolds fu ({ sizes := x2.1.sizes, rules := [({ kind := 4, vars := [0, 1], coefs := [], bound := 0, rows := [] } : Rule), ({ kind := 4, vars := [1, 0], coefs := [], bound := 0, rows := [] } : Rule), ({ kind := 1, vars := [0, 1], coefs := [(-1), 1], bound := 1, rows := [] } : Rule)] } : Model) 0 x2.2.2).bind fun x74 => (if (x51 == x74) then ((s_RuleHolds fu ({ sizes := x2.1.sizes, rules := [({ kind := 4, vars := [0, 1], coefs := [], bound := 0, rows := [] } : Rule), ({ kind := 4, vars := [1, 0], coefs := [], bound := 0, rows := [] } : Rule), ({ kind := 1, vars := [0, 1], coefs := [(-1), 1], bound := 1, rows := [] } : Rule)] } : Model) 1 x2.2.2).bind fun x76 => some (x54 == x76)) else some false).bind fun b78 => some b78) else ((if (!(x51 && x54)) then ((idx x2.2.2 0).bind fun x83 => (idx x2.2.2 1).bind fun x86 => some ((x51 || x54) == (x83 != x86))) else some false).bind fun b89 => (if b89 then ((i_RuleHolds ({ sizes := x2.1.sizes, rules := [({ kind := 4, vars := [0, 1], coefs := [], bound := 0, rows := [] } : Rule), ({ kind := 4, vars := [1, 0], coefs := [], bound := 0, rows := [] } : Rule), ({ kind := 1, vars := [0, 1], coefs := [(-1), 1], bound := 1, rows := [] } : Rule)] } : Model) 2 x2.2.2).bind fun x90 => some (x90 == x51)) else some false).bind fun b92 => some b92)))
def l_FnRuleLinear_b1 (_i_133 : Nat) (x_135 : Int) : (List Int) → Option (Lo (List Int) (Bool))
  | g129_2_134 => (app g129_2_134 ([i64 (-x_135)])).bind fun x142 => some (.cont x142)
noncomputable def l_FnRuleLinear (fu : Nat) (code : List UInt8) : Option (Bool) :=
  if decide ((code.length : Int) > 1048576) then (some true) else (anyB (s_DrawRuleHolds fu code) (fun o : Model × Int × (List Int) => sModel o.1 ∧ sOut o.2.2) fun x2 => (i_RuleHolds x2.1 x2.2.1 x2.2.2).bind fun x11 => (s_RuleHolds fu x2.1 x2.2.1 x2.2.2).bind fun x14 => (if (x11 != x14) then some true else ((i_CellsValid x2.1 x2.2.2).bind fun x16 => some (!x16))).bind fun b18 => (if ((b18 || (decide (x2.2.1 < 0))) || (decide (x2.2.1 ≥ (x2.1.rules.length : Int)))) then some true else ((idx x2.1.rules x2.2.1).bind fun x19 => some (x19.kind != 1))).bind fun b22 => (if b22 then some true else ((idx x2.1.rules x2.2.1).bind fun x23 => some (x23.bound == (-1000)))).bind fun b26 => if b26 then ((s_RuleHolds fu x2.1 x2.2.1 x2.2.2).bind fun x110 => some (x11 == x110)) else ((idx x2.1.rules x2.2.1).bind fun x114 => ((rangeL l_FnRuleLinear_b1 x114.coefs 0 ([])) : Option (Jn (List Int) (Bool))).bind fun j => match j with | .nx g129_2_134 => ((i_RuleHolds ({ sizes := x2.1.sizes, rules := [({ kind := 1, vars := x114.vars, coefs := g129_2_134, bound := i64 (1 - x114.bound), rows := [] } : Rule)] } : Model) 0 x2.2.2).bind fun x163 => some (x163 == (!x11))) | .out t => some t))
noncomputable def s_DrawCellsValid (fu : Nat) (code : List UInt8) : Option (Unit) :=
  (s_l17Open code).bind fun x5 => (s_l6Model fu x5).bind fun x8 => anyB (s_l6Mutate fu ({ b := x5.b, p := x8.2 } : Rd) x8.1) (fun o : Model × Int => sModel o.1 ∧ rdOk x8.2 o.2) fun x10 => (s_l6DrawCells ({ b := x5.b, p := x10.2 } : Rd) x10.1).bind fun x22 => assertM (sModel x10.1 ∧ sOut x22.1)
noncomputable def s_DrawSolvesModel (fu : Nat) (code : List UInt8) : Option (Unit) :=
  anyB (s_DrawCellsValid fu code) (fun o : Model × (List Int) => sModel o.1 ∧ sOut o.2) fun x5 => assertM (sModel x5.1 ∧ sOut x5.2)
def i_Model_solves_1 (c1 : List Int) (r_ : Rule) : Option (Bool) :=
  (i_Rule_at r_ c1).bind fun x5 => some (!x5)
def i_Model_solves (m : Model) (cells : List Int) : Option (Bool) :=
  (slices_ContainsFunc_implRule m.rules (i_Model_solves_1 cells)).bind fun x9 => some (!x9)
def i_SolvesModel (m : Model) (cells : List Int) : Option (Bool) :=
  (i_CellsValid m cells).bind fun x5 => (if x5 then ((i_Model_solves m cells).bind fun x7 => some x7) else some false).bind fun b9 => some b9
def s_l6Solves_b1 (cells : List Int) (_i_5 : Nat) (x_6 : Rule) : (Unit) → Option (Lo (Unit) (Bool))
  | () => (s_l6Holds x_6 cells).bind fun x10 => if (!x10) then (some (.out false)) else (some (.cont ()))
def s_l6Solves (m : Model) (cells : List Int) : Option (Bool) :=
  ((rangeL (s_l6Solves_b1 cells) m.rules 0 ()) : Option (Jn (Unit) (Bool))).bind fun j => match j with | .nx _ => (some true) | .out t => some t
def s_SolvesModel (fu : Nat) (m : Model) (cells : List Int) : Option (Bool) :=
  (s_CellsValid fu m cells).bind fun x5 => (if x5 then ((s_l6Solves m cells).bind fun x7 => some x7) else some false).bind fun b9 => some b9
def l_FnSolvesModel_b1 (x2 : Model × (List Int)) (i_65 : Nat) (_x_67 : Rule) : (Bool) → Option (Lo (Bool) (Bool))
  | all_66 => (if all_66 then ((i_RuleHolds x2.1 (i_65 : Int) x2.2).bind fun x69 => some x69) else some false).bind fun b71 => some (.cont b71)
noncomputable def l_FnSolvesModel (fu : Nat) (code : List UInt8) : Option (Bool) :=
  if decide ((code.length : Int) > 1048576) then (some true) else (anyB (s_DrawSolvesModel fu code) (fun o : Model × (List Int) => sModel o.1 ∧ sOut o.2) fun x2 => (i_SolvesModel x2.1 x2.2).bind fun x11 => (s_SolvesModel fu x2.1 x2.2).bind fun x14 => (if (x11 != x14) then some true else ((i_CellsValid x2.1 x2.2).bind fun x16 => (s_CellsValid fu x2.1 x2.2).bind fun x18 => some (x16 != x18))).bind fun b20 => (if b20 then some true else ((i_CellsValid x2.1 x2.2).bind fun x21 => some (!x21))).bind fun b23 => if b23 then ((s_SolvesModel fu x2.1 x2.2).bind fun x48 => (if (x11 == x48) then ((i_CellsValid x2.1 x2.2).bind fun x50 => (s_CellsValid fu x2.1 x2.2).bind fun x52 => some (x50 == x52)) else some false).bind fun b54 => some b54) else (((rangeL (l_FnSolvesModel_b1 x2) x2.1.rules 0 true) : Option (Jn (Bool) (Bool))).bind fun j => match j with | .nx all_66 => (some (x11 == all_66)) | .out t => some t))
noncomputable def s_DrawModelValid (fu : Nat) (code : List UInt8) : Option (Unit) :=
  (s_l17Open code).bind fun x5 => (s_l6Model fu x5).bind fun x8 => anyB (s_l6Mutate fu ({ b := x5.b, p := x8.2 } : Rd) x8.1) (fun o : Model × Int => sModel o.1 ∧ rdOk x8.2 o.2) fun x10 => assertM (sModel x10.1)
noncomputable def s_DrawCountModel (fu : Nat) (code : List UInt8) : Option (Unit) :=
  anyB (s_DrawModelValid fu code) (fun o : Model => sModel o) fun x5 => assertM (sModel x5)
def slices_Clone_int (s : List Int) : Option (List Int) :=
  (app ([]) s).bind fun x5 => some x5
def i_each_b2 (sizes : List Int) : ((List Int) × Int) → Option (Lo ((List Int) × Int) (Lo (List Int) (Unit)))
  | (cells_11, i_12) => (if decide (i_12 ≥ 0) then ((idx cells_11 i_12).bind fun x14 => (idx sizes i_12).bind fun x17 => some (x14 == x17)) else some false).bind fun b20 => if b20 then ((idx cells_11 i_12).bind fun x35 => some (.cont ((cells_11.set (Int.toNat i_12) 0), i64 (i_12 - 1)))) else (some (.brk (cells_11, i_12)))
def i_each_b1 (fu : Nat) (sizes : List Int) (told : (List Int → Option Bool)) : (List Int) → Option (Lo (List Int) (Unit))
  | cells_5 => (told cells_5).bind fun x7 => if x7 then (((whileL (i_each_b2 sizes) fu (cells_5, i64 ((cells_5.length : Int) - 1))) : Option (Jn ((List Int) × Int) (Lo (List Int) (Unit)))).bind fun j => match j with | .nx (cells_11, i_12) => (if decide (i_12 < 0) then (some (.out ())) else ((idx cells_11 i_12).bind fun x43 => some (.cont (cells_11.set (Int.toNat i_12) (i64 (x43 + 1)))))) | .out t => some t) else (some (.brk cells_5))
def i_each (fu : Nat) (sizes : List Int) (from_ : List Int) (told : (List Int → Option Bool)) : Option (Unit) :=
  (slices_Clone_int from_).bind fun x1 => ((whileL (i_each_b1 fu sizes told) fu x1) : Option (Jn (List Int) (Unit))).bind fun j => match j with | .nx cells_5 => (some ()) | .out t => some t
def i_CountModel_i3 (m : Model) (cells_35 : List Int) (g12_0_36 : Int) : Option (Bool × Int) :=
  (i_Model_solves m cells_35).bind fun x45 => ((if x45 then (some (i64 (g12_0_36 + 1))) else (some g12_0_36)) : Option (Int)).bind fun g12_0_48 => some (true, g12_0_48)
def i_CountModel_b4 (m : Model) : ((List Int) × Int) → Option (Lo ((List Int) × Int) (Lo ((List Int) × Int) (Int)))
  | (cells_55, i_56) => (if decide (i_56 ≥ 0) then ((idx cells_55 i_56).bind fun x59 => (idx m.sizes i_56).bind fun x62 => some (x59 == x62)) else some false).bind fun b65 => if b65 then ((idx cells_55 i_56).bind fun x80 => some (.cont ((cells_55.set (Int.toNat i_56) 0), i64 (i_56 - 1)))) else (some (.brk (cells_55, i_56)))
def i_CountModel_b2 (fu : Nat) (m : Model) : ((List Int) × Int) → Option (Lo ((List Int) × Int) (Int))
  | (cells_35, g12_0_36) => (i_CountModel_i3 m cells_35 g12_0_36).bind fun (ret0_39, g12_0_40) => if ret0_39 then (((whileL (i_CountModel_b4 m) fu (cells_35, i64 ((cells_35.length : Int) - 1))) : Option (Jn ((List Int) × Int) (Lo ((List Int) × Int) (Int)))).bind fun j => match j with | .nx (cells_55, i_56) => (if decide (i_56 < 0) then (some (.out g12_0_40)) else ((idx cells_55 i_56).bind fun x88 => some (.cont ((cells_55.set (Int.toNat i_56) (i64 (x88 + 1))), g12_0_40)))) | .out t => some t) else (some (.brk (cells_35, g12_0_40)))
def i_CountModel_i1 (fu : Nat) (m : Model) (x15 : List Int) : Option (Int) :=
  (slices_Clone_int x15).bind fun x27 => ((whileL (i_CountModel_b2 fu m) fu (x27, 0)) : Option (Jn ((List Int) × Int) (Int))).bind fun j => match j with | .nx (cells_35, g12_0_36) => (some g12_0_36) | .out t => some t
def i_CountModel (fu : Nat) (m : Model) : Option (Int) :=
  (i_ModelValid m).bind fun x5 => if (!x5) then (some 0) else ((mkN (m.sizes.length : Int) 0).bind fun x15 => (i_CountModel_i1 fu m x15).bind fun g12_0_18 => some g12_0_18)
def s_l6Next_b1 (m : Model) : ((List Int) × Int) → Option (Lo ((List Int) × Int) ((List Int) × Bool))
  | (out_13, i_14) => if decide (i_14 ≥ 0) then ((idx out_13 i_14).bind fun x17 => (idx m.sizes i_14).bind fun x20 => if decide (x17 < x20) then (some (.out ((out_13.set (Int.toNat i_14) (i64 (x17 + 1))), true))) else (some (.cont ((out_13.set (Int.toNat i_14) 0), i64 (i_14 - 1))))) else (some (.brk (out_13, i_14)))
def s_l6Next (fu : Nat) (m : Model) (cells : List Int) : Option ((List Int) × Bool) :=
  (app ([]) cells).bind fun x7 => ((whileL (s_l6Next_b1 m) fu (x7, i64 ((x7.length : Int) - 1))) : Option (Jn ((List Int) × Int) ((List Int) × Bool))).bind fun j => match j with | .nx (out_13, i_14) => (some (out_13, false)) | .out t => some t
def s_CountModel_b1 (fu : Nat) (m : Model) : (Int × (List Int) × Bool) → Option (Lo (Int × (List Int) × Bool) (Int))
  | (n_13, cells_14, more_15) => if more_15 then ((s_l6Solves m cells_14).bind fun x18 => ((if x18 then (some (i64 (n_13 + 1))) else (some n_13)) : Option (Int)).bind fun n_21 => (s_l6Next fu m cells_14).bind fun x24 => some (.cont (n_21, x24.1, x24.2))) else (some (.brk (n_13, cells_14, more_15)))
def s_CountModel (fu : Nat) (m : Model) : Option (Int) :=
  (s_ModelValid fu m).bind fun x5 => if (!x5) then (some 0) else ((mkN (m.sizes.length : Int) 0).bind fun x9 => ((whileL (s_CountModel_b1 fu m) fu (0, x9, true)) : Option (Jn (Int × (List Int) × Bool) (Int))).bind fun j => match j with | .nx (n_13, cells_14, more_15) => (some n_13) | .out t => some t)
def l_FnModelMore_b1 (_i_30 : Nat) (x_32 : Int) : (Int) → Option (Lo (Int) (Bool))
  | all_31 => some (.cont (i64 (all_31 * (i64 (x_32 + 1)))))
noncomputable def l_FnModelMore (fu : Nat) (code : List UInt8) (more : List UInt8) : Option (Bool) :=
  if ((decide ((code.length : Int) > 1048576)) || (decide ((more.length : Int) > 1048576))) then (some true) else (anyB (s_DrawCountModel fu code) (fun o : Model => sModel o) fun x4 => (i_CountModel fu x4).bind fun x13 => (s_CountModel fu x4).bind fun x16 => (if (x13 != x16) then some true else ((i_ModelValid x4).bind fun x18 => some (!x18))).bind fun b20 => if b20 then ((s_CountModel fu x4).bind fun x26 => some (x13 == x26)) else ((if (i64 ((x4.rules.length : Int) + 1)) = 0 then none else some ()).bind fun _ => ((rangeL l_FnModelMore_b1 x4.sizes 0 1) : Option (Jn (Int) (Bool))).bind fun j => match j with | .nx all_31 => ((sl x4.rules 0 (Int.tmod (more.length : Int) (i64 ((x4.rules.length : Int) + 1)))).bind fun x38 => (i_CountModel fu ({ sizes := x4.sizes, rules := x38 } : Model)).bind fun x40 => (if ((decide (x13 ≤ x40)) && (decide (x40 ≤ all_31))) then ((i_CountModel fu ({ sizes := x4.sizes, rules := [] } : Model)).bind fun x47 => some (x47 == all_31)) else some false).bind fun b49 => some b49) | .out t => some t))
def s_EncodeCells_b1 (m : Model) (i_16 : Nat) (x_18 : Int) : (List Bool) → Option (Lo (List Bool) ((List Bool) × Bool))
  | out_17 => (s_l7Var m (i_16 : Int) x_18).bind fun x22 => (idx out_17 (i64 (x22 - 1))).bind fun x24 => some (.cont (out_17.set (Int.toNat (i64 (x22 - 1))) true))
def s_EncodeCells (fu : Nat) (m : Model) (cells : List Int) : Option ((List Bool) × Bool) :=
  (s_CellsValid fu m cells).bind fun x5 => if (!x5) then (some ([], false)) else ((mkN 12 false).bind fun x13 => ((rangeL (s_EncodeCells_b1 m) cells 0 x13) : Option (Jn (List Bool) ((List Bool) × Bool))).bind fun j => match j with | .nx out_17 => (some (out_17, true)) | .out t => some t)
def s_l1Values_b1 (r_ : Rd) (_i_5 : Nat) : ((List Bool) × Int) → Option (Lo ((List Bool) × Int) ((List Bool) × Int))
  | (out_6, g_r_1_7) => (s_l17Rd_pick ({ b := r_.b, p := g_r_1_7 } : Rd) 2).bind fun x11 => (app out_6 ([(x11.1 == 0)])).bind fun x16 => some (.cont (x16, x11.2))
def s_l1Values (r_ : Rd) : Option ((List Bool) × Int) :=
  (cntF 0 12).bind fun k9 => ((countL (s_l1Values_b1 r_) k9 0 ([], r_.p)) : Option (Jn ((List Bool) × Int) ((List Bool) × Int))).bind fun j => match j with | .nx (out_6, g_r_1_7) => ((s_l17Rd_pick ({ b := r_.b, p := g_r_1_7 } : Rd) 40).bind fun x24 => if (x24.1 == 0) then ((sl out_6 0 11).bind fun x28 => some (x28, x24.2)) else (some (out_6, x24.2))) | .out t => some t
noncomputable def s_DrawDecodeValues (fu : Nat) (code : List UInt8) : Option (Unit) :=
  (s_l17Open code).bind fun x5 => (s_l6Model fu x5).bind fun x8 => anyB (s_l6Mutate fu ({ b := x5.b, p := x8.2 } : Rd) x8.1) (fun o : Model × Int => sModel o.1 ∧ rdOk x8.2 o.2) fun x10 => (s_l6DrawCells ({ b := x5.b, p := x10.2 } : Rd) x10.1).bind fun x22 => (s_EncodeCells fu x10.1 x22.1).bind fun x24 => (if (!x24.2) then some (true, x22.2) else ((s_l17Rd_pick ({ b := x5.b, p := x22.2 } : Rd) 4).bind fun x37 => some ((x37.1 == 0), x37.2))).bind fun b39 => if b39.1 then ((s_l1Values ({ b := x5.b, p := b39.2 } : Rd)).bind fun x45 => assertM (sModel x10.1 ∧ sBools x45.1)) else ((s_l17Rd_pick ({ b := x5.b, p := b39.2 } : Rd) 4).bind fun x53 => if (x53.1 == 0) then ((s_l17Rd_pick ({ b := x5.b, p := x53.2 } : Rd) 12).bind fun x57 => (idx x24.1 x57.1).bind fun x60 => assertM (sModel x10.1 ∧ sBools (x24.1.set (Int.toNat x57.1) (!x60)))) else (assertM (sModel x10.1 ∧ sBools x24.1)))
def i_Model_varsOf_b1 (m : Model) (cell : Int) (i_10 : Nat) : (List Int) → Option (Lo (List Int) (List Int))
  | out_11 => (i_Model_boolVar m cell (i_10 : Int)).bind fun x15 => (app out_11 ([x15])).bind fun x20 => some (.cont x20)
def i_Model_varsOf (m : Model) (cell : Int) : Option (List Int) :=
  (idx m.sizes cell).bind fun x5 => (cntF 0 (i64 (x5 + 1))).bind fun k13 => ((countL (i_Model_varsOf_b1 m cell) k13 0 ([])) : Option (Jn (List Int) (List Int))).bind fun j => match j with | .nx out_11 => (some out_11) | .out t => some t
def i_DecodeValues_b2 (values : List Bool) (i_20 : Nat) (x_24 : Int) : ((List Int) × Int) → Option (Lo ((List Int) × Int) (Lo (List Int) ((List Int) × Bool)))
  | (out_21, count_22) => (idx values (i64 (x_24 - 1))).bind fun x30 => ((if x30 then ((app out_21 ([(i_20 : Int)])).bind fun x44 => some (x44, i64 (count_22 + 1))) else (some (out_21, count_22))) : Option ((List Int) × Int)).bind fun (out_35, count_36) => some (.cont (out_35, count_36))
def i_DecodeValues_b1 (m : Model) (values : List Bool) (i_11 : Nat) (_x_13 : Int) : (List Int) → Option (Lo (List Int) ((List Int) × Bool))
  | out_12 => (i_Model_varsOf m (i_11 : Int)).bind fun x15 => ((rangeL (i_DecodeValues_b2 values) x15 0 (out_12, 0)) : Option (Jn ((List Int) × Int) (Lo (List Int) ((List Int) × Bool)))).bind fun j => match j with | .nx (out_21, count_22) => (if (count_22 != 1) then (some (.out ([], false))) else (some (.cont out_21))) | .out t => some t
def i_DecodeValues (m : Model) (values : List Bool) : Option ((List Int) × Bool) :=
  (i_ModelValid m).bind fun x5 => if ((!x5) || ((values.length : Int) != 12)) then (some ([], false)) else (((rangeL (i_DecodeValues_b1 m values) m.sizes 0 ([])) : Option (Jn (List Int) ((List Int) × Bool))).bind fun j => match j with | .nx out_12 => (some (out_12, true)) | .out t => some t)
def s_DecodeValues_b2 (m : Model) (values : List Bool) (i_19 : Nat) (i_23 : Nat) : (Int × Int) → Option (Lo (Int × Int) (Lo (List Int) ((List Int) × Bool)))
  | (v_24, n_25) => (s_l7Var m (i_19 : Int) (i_23 : Int)).bind fun x33 => (idx values (i64 (x33 - 1))).bind fun x35 => ((if x35 then (some ((i_23 : Int), i64 (n_25 + 1))) else (some (v_24, n_25))) : Option (Int × Int)).bind fun (v_41, n_42) => some (.cont (v_41, n_42))
def s_DecodeValues_b1 (m : Model) (values : List Bool) (i_19 : Nat) (x_21 : Int) : (List Int) → Option (Lo (List Int) ((List Int) × Bool))
  | out_20 => (cntF 0 (x_21 + 1)).bind fun k27 => ((countL (s_DecodeValues_b2 m values i_19) k27 0 ((-1), 0)) : Option (Jn (Int × Int) (Lo (List Int) ((List Int) × Bool)))).bind fun j => match j with | .nx (v_24, n_25) => (if (n_25 != 1) then (some (.out ([], false))) else ((app out_20 ([v_24])).bind fun x54 => some (.cont x54))) | .out t => some t
def s_DecodeValues (fu : Nat) (m : Model) (values : List Bool) : Option ((List Int) × Bool) :=
  (s_ModelValid fu m).bind fun x5 => if ((!x5) || ((values.length : Int) != 12)) then (some ([], false)) else (((rangeL (s_DecodeValues_b1 m values) m.sizes 0 ([])) : Option (Jn (List Int) ((List Int) × Bool))).bind fun j => match j with | .nx out_20 => (some (out_20, true)) | .out t => some t)
def l_cpInts_b1 (b : List Int) (i_2 : Nat) (x_3 : Int) : (Unit) → Option (Lo (Unit) (Bool))
  | () => (idx b (i_2 : Int)).bind fun x7 => if (x_3 != x7) then (some (.out false)) else (some (.cont ()))
def l_cpInts (a : List Int) (b : List Int) : Option (Bool) :=
  if ((a.length : Int) != (b.length : Int)) then (some false) else (((rangeL (l_cpInts_b1 b) a 0 ()) : Option (Jn (Unit) (Bool))).bind fun j => match j with | .nx _ => (some true) | .out t => some t)
def i_EncodeCells_b1 (m : Model) (i_12 : Nat) (x_14 : Int) : (List Bool) → Option (Lo (List Bool) ((List Bool) × Bool))
  | out_13 => (i_Model_boolVar m (i_12 : Int) x_14).bind fun x20 => (idx out_13 (i64 (x20 - 1))).bind fun x22 => some (.cont (out_13.set (Int.toNat (i64 (x20 - 1))) true))
def i_EncodeCells (m : Model) (cells : List Int) : Option ((List Bool) × Bool) :=
  (i_CellsValid m cells).bind fun x5 => if (!x5) then (some ([], false)) else ((mkN 12 false).bind fun x9 => ((rangeL (i_EncodeCells_b1 m) cells 0 x9) : Option (Jn (List Bool) ((List Bool) × Bool))).bind fun j => match j with | .nx out_13 => (some (out_13, true)) | .out t => some t)
def l_FnDecodeValues_b1 (x2 : Model × (List Bool)) (x34 : (List Bool) × Bool) : (Int) → Option (Lo (Int) (Bool))
  | i_39 => (i_FreeVars x2.1).bind fun x41 => if ((decide (i_39 < (i64 (12 - x41)))) && x34.2) then ((idx x34.1 i_39).bind fun x47 => (idx x2.2 i_39).bind fun x50 => if (x47 != x50) then (some (.out false)) else (some (.cont (i64 (i_39 + 1))))) else (some (.brk i_39))
noncomputable def l_FnDecodeValues (fu : Nat) (code : List UInt8) : Option (Bool) :=
  if decide ((code.length : Int) > 1048576) then (some true) else (anyB (s_DrawDecodeValues fu code) (fun o : Model × (List Bool) => sModel o.1 ∧ sBools o.2) fun x2 => (i_DecodeValues x2.1 x2.2).bind fun x11 => (s_DecodeValues fu x2.1 x2.2).bind fun x14 => (if (x11.2 != x14.2) then some true else ((l_cpInts x11.1 x14.1).bind fun x19 => some (!x19))).bind fun b21 => if (b21 || (!x11.2)) then ((if (x11.2 == x14.2) then ((l_cpInts x11.1 x14.1).bind fun x28 => some x28) else some false).bind fun b30 => some b30) else ((i_EncodeCells x2.1 x11.1).bind fun x34 => ((whileL (l_FnDecodeValues_b1 x2 x34) fu 0) : Option (Jn (Int) (Bool))).bind fun j => match j with | .nx i_39 => ((i_DecodeValues x2.1 x34.1).bind fun x65 => (if (x34.2 && x65.2) then ((l_cpInts x65.1 x11.1).bind fun x70 => some x70) else some false).bind fun b72 => some b72) | .out t => some t))
noncomputable def s_DrawNextModel (fu : Nat) (code : List UInt8) : Option (Unit) :=
  anyB (s_DrawCellsValid fu code) (fun o : Model × (List Int) => sModel o.1 ∧ sOut o.2) fun x5 => assertM (sModel x5.1 ∧ sOut x5.2)
def i_NextModel_i3 (m : Model) (cells_24 : List Int) (g11_0_25 : List Int) : Option (Bool × (List Int)) :=
  (i_Model_solves m cells_24).bind fun x39 => ((if x39 then ((slices_Clone_int cells_24).bind fun x47 => (if List.isEmpty x47 then none else some ()).bind fun _ => some x47) else (some g11_0_25)) : Option (List Int)).bind fun g11_0_42 => some ((List.isEmpty g11_0_42), g11_0_42)
def i_NextModel_b4 (m : Model) : ((List Int) × Int) → Option (Lo ((List Int) × Int) (Lo ((List Int) × (List Int)) (List Int)))
  | (cells_60, i_61) => (if decide (i_61 ≥ 0) then ((idx cells_60 i_61).bind fun x64 => (idx m.sizes i_61).bind fun x67 => some (x64 == x67)) else some false).bind fun b70 => if b70 then ((idx cells_60 i_61).bind fun x85 => some (.cont ((cells_60.set (Int.toNat i_61) 0), i64 (i_61 - 1)))) else (some (.brk (cells_60, i_61)))
def i_NextModel_b2 (fu : Nat) (m : Model) : ((List Int) × (List Int)) → Option (Lo ((List Int) × (List Int)) (List Int))
  | (cells_24, g11_0_25) => (i_NextModel_i3 m cells_24 g11_0_25).bind fun (ret0_29, g11_0_30) => if ret0_29 then (((whileL (i_NextModel_b4 m) fu (cells_24, i64 ((cells_24.length : Int) - 1))) : Option (Jn ((List Int) × Int) (Lo ((List Int) × (List Int)) (List Int)))).bind fun j => match j with | .nx (cells_60, i_61) => (if decide (i_61 < 0) then (some (.out g11_0_30)) else ((idx cells_60 i_61).bind fun x93 => some (.cont ((cells_60.set (Int.toNat i_61) (i64 (x93 + 1))), g11_0_30)))) | .out t => some t) else (some (.brk (cells_24, g11_0_30)))
def i_NextModel_i1 (fu : Nat) (m : Model) (cells : List Int) : Option (List Int) :=
  (slices_Clone_int cells).bind fun x19 => (if List.isEmpty x19 then none else some ()).bind fun _ => ((whileL (i_NextModel_b2 fu m) fu (x19, [])) : Option (Jn ((List Int) × (List Int)) (List Int))).bind fun j => match j with | .nx (cells_24, g11_0_25) => (some g11_0_25) | .out t => some t
def i_NextModel (fu : Nat) (m : Model) (cells : List Int) : Option ((List Int) × Bool) :=
  (i_CellsValid m cells).bind fun x5 => if (!x5) then (some ([], false)) else ((i_NextModel_i1 fu m cells).bind fun g11_0_13 => some (g11_0_13, (!(List.isEmpty g11_0_13))))
def s_NextModel_b1 (fu : Nat) (m : Model) : ((List Int) × Bool) → Option (Lo ((List Int) × Bool) ((List Int) × Bool))
  | (out_21, more_22) => if more_22 then ((s_l6Solves m out_21).bind fun x25 => if x25 then (some (.out (out_21, true))) else ((s_l6Next fu m out_21).bind fun x29 => some (.cont (x29.1, x29.2)))) else (some (.brk (out_21, more_22)))
def s_NextModel (fu : Nat) (m : Model) (cells : List Int) : Option ((List Int) × Bool) :=
  (s_CellsValid fu m cells).bind fun x5 => if (!x5) then (some ([], false)) else ((app ([]) cells).bind fun x15 => ((whileL (s_NextModel_b1 fu m) fu (x15, true)) : Option (Jn ((List Int) × Bool) ((List Int) × Bool))).bind fun j => match j with | .nx (out_21, more_22) => (some ([], false)) | .out t => some t)
def l_cpLess_b1 (a : List Int) (b : List Int) : (Int) → Option (Lo (Int) (Bool))
  | i_3 => if ((decide (i_3 < (a.length : Int))) && (decide (i_3 < (b.length : Int)))) then ((idx a i_3).bind fun x8 => (idx b i_3).bind fun x11 => if (x8 != x11) then (some (.out (decide (x8 < x11)))) else (some (.cont (i64 (i_3 + 1))))) else (some (.brk i_3))
def l_cpLess (fu : Nat) (a : List Int) (b : List Int) : Option (Bool) :=
  ((whileL (l_cpLess_b1 a b) fu 0) : Option (Jn (Int) (Bool))).bind fun j => match j with | .nx i_3 => (some false) | .out t => some t
noncomputable def l_FnNextModel (fu : Nat) (code : List UInt8) : Option (Bool) :=
  if decide ((code.length : Int) > 1048576) then (some true) else (anyB (s_DrawNextModel fu code) (fun o : Model × (List Int) => sModel o.1 ∧ sOut o.2) fun x2 => (i_NextModel fu x2.1 x2.2).bind fun x11 => (s_NextModel fu x2.1 x2.2).bind fun x14 => (if (x11.2 != x14.2) then some true else ((l_cpInts x11.1 x14.1).bind fun x19 => some (!x19))).bind fun b21 => if (b21 || (!x11.2)) then ((if (x11.2 == x14.2) then ((l_cpInts x11.1 x14.1).bind fun x28 => some x28) else some false).bind fun b30 => some b30) else ((i_NextModel fu x2.1 x11.1).bind fun x34 => (i_SolvesModel x2.1 x11.1).bind fun x40 => (if x40 then ((l_cpLess fu x11.1 x2.2).bind fun x42 => some (!x42)) else some false).bind fun b44 => (if (b44 && x34.2) then ((l_cpInts x34.1 x11.1).bind fun x45 => some x45) else some false).bind fun b47 => (if b47 then ((i_SolvesModel x2.1 x2.2).bind fun x48 => (l_cpInts x11.1 x2.2).bind fun x50 => some (x48 == x50)) else some false).bind fun b52 => some b52))
def l_szIntS (a : List Int) (left : Int) : Option (Int) :=
  if decide ((i64 (left - (a.length : Int))) < 0) then (some (-1)) else (some (i64 (left - (a.length : Int))))
def l_szIntSS_b1 (_i_2 : Nat) (x_4 : List Int) : (Int) → Option (Lo (Int) (Int))
  | left_3 => (l_szIntS x_4 left_3).bind fun x8 => if decide (x8 < 0) then (some (.out (-1))) else (some (.cont x8))
def l_szIntSS (a : List (List Int)) (left : Int) : Option (Int) :=
  if decide ((i64 (left - (a.length : Int))) < 0) then (some (-1)) else (((rangeL l_szIntSS_b1 a 0 (i64 (left - (a.length : Int)))) : Option (Jn (Int) (Int))).bind fun j => match j with | .nx left_3 => (some left_3) | .out t => some t)
def l_szRule (a : Rule) (left : Int) : Option (Int) :=
  (l_szIntS a.vars left).bind fun x5 => if decide (x5 < 0) then (some (-1)) else ((l_szIntS a.coefs x5).bind fun x9 => if decide (x9 < 0) then (some (-1)) else ((l_szIntSS a.rows x9).bind fun x13 => if decide (x13 < 0) then (some (-1)) else (some x13)))
def l_szRuleS_b1 (_i_2 : Nat) (x_4 : Rule) : (Int) → Option (Lo (Int) (Int))
  | left_3 => (l_szRule x_4 left_3).bind fun x8 => if decide (x8 < 0) then (some (.out (-1))) else (some (.cont x8))
def l_szRuleS (a : List Rule) (left : Int) : Option (Int) :=
  if decide ((i64 (left - (a.length : Int))) < 0) then (some (-1)) else (((rangeL l_szRuleS_b1 a 0 (i64 (left - (a.length : Int)))) : Option (Jn (Int) (Int))).bind fun j => match j with | .nx left_3 => (some left_3) | .out t => some t)
def l_szModel (a : Model) (left : Int) : Option (Int) :=
  (l_szIntS a.sizes left).bind fun x5 => if decide (x5 < 0) then (some (-1)) else ((l_szRuleS a.rules x5).bind fun x9 => if decide (x9 < 0) then (some (-1)) else (some x9))
def l_toIntS_b1 (i_4 : Nat) (x_6 : Int) : (List Int) → Option (Lo (List Int) (List Int))
  | out_5 => (idx out_5 (i_4 : Int)).bind fun x10 => some (.cont (out_5.set (Int.toNat (i_4 : Int)) x_6))
def l_toIntS (a : List Int) : Option (List Int) :=
  (mkN (a.length : Int) 0).bind fun x1 => ((rangeL l_toIntS_b1 a 0 x1) : Option (Jn (List Int) (List Int))).bind fun j => match j with | .nx out_5 => (some out_5) | .out t => some t
def l_toIntSS_b1 (i_4 : Nat) (x_6 : List Int) : (List (List Int)) → Option (Lo (List (List Int)) (List (List Int)))
  | out_5 => (l_toIntS x_6).bind fun x10 => (idx out_5 (i_4 : Int)).bind fun x12 => some (.cont (out_5.set (Int.toNat (i_4 : Int)) x10))
def l_toIntSS (a : List (List Int)) : Option (List (List Int)) :=
  (mkN (a.length : Int) ([])).bind fun x1 => ((rangeL l_toIntSS_b1 a 0 x1) : Option (Jn (List (List Int)) (List (List Int)))).bind fun j => match j with | .nx out_5 => (some out_5) | .out t => some t
def l_toRule (a : Rule) : Option (Rule) :=
  (l_toIntS a.vars).bind fun x17 => (l_toIntS a.coefs).bind fun x22 => (l_toIntSS a.rows).bind fun x31 => some ({ kind := a.kind, vars := x17, coefs := x22, bound := a.bound, rows := x31 } : Rule)
def l_toRuleS_b1 (i_4 : Nat) (x_6 : Rule) : (List Rule) → Option (Lo (List Rule) (List Rule))
  | out_5 => (l_toRule x_6).bind fun x10 => (idx out_5 (i_4 : Int)).bind fun x12 => some (.cont (out_5.set (Int.toNat (i_4 : Int)) x10))
def l_toRuleS (a : List Rule) : Option (List Rule) :=
  (mkN (a.length : Int) ({ kind := 0, vars := [], coefs := [], bound := 0, rows := [] } : Rule)).bind fun x1 => ((rangeL l_toRuleS_b1 a 0 x1) : Option (Jn (List Rule) (List Rule))).bind fun j => match j with | .nx out_5 => (some out_5) | .out t => some t
def l_toModel (a : Model) : Option (Model) :=
  (l_toIntS a.sizes).bind fun x15 => (l_toRuleS a.rules).bind fun x20 => some ({ sizes := x15, rules := x20 } : Model)
def l_eqIntS_b1 (b : List Int) (i_2 : Nat) (x_3 : Int) : (Unit) → Option (Lo (Unit) (Bool))
  | () => (idx b (i_2 : Int)).bind fun x7 => if (x_3 != x7) then (some (.out false)) else (some (.cont ()))
def l_eqIntS (a : List Int) (b : List Int) : Option (Bool) :=
  if ((a.length : Int) != (b.length : Int)) then (some false) else (((rangeL (l_eqIntS_b1 b) a 0 ()) : Option (Jn (Unit) (Bool))).bind fun j => match j with | .nx _ => (some true) | .out t => some t)
def l_eqIntSS_b1 (b : List (List Int)) (i_2 : Nat) (x_3 : List Int) : (Unit) → Option (Lo (Unit) (Bool))
  | () => (idx b (i_2 : Int)).bind fun x7 => (l_eqIntS x_3 x7).bind fun x10 => if (!x10) then (some (.out false)) else (some (.cont ()))
def l_eqIntSS (a : List (List Int)) (b : List (List Int)) : Option (Bool) :=
  if ((a.length : Int) != (b.length : Int)) then (some false) else (((rangeL (l_eqIntSS_b1 b) a 0 ()) : Option (Jn (Unit) (Bool))).bind fun j => match j with | .nx _ => (some true) | .out t => some t)
def l_eqRule (a : Rule) (b : Rule) : Option (Bool) :=
  if (a.kind != b.kind) then (some false) else ((l_eqIntS a.vars b.vars).bind fun x12 => if (!x12) then (some false) else ((l_eqIntS a.coefs b.coefs).bind fun x16 => if (!x16) then (some false) else (if (a.bound != b.bound) then (some false) else ((l_eqIntSS a.rows b.rows).bind fun x21 => if (!x21) then (some false) else (some true)))))
def l_eqRuleS_b1 (b : List Rule) (i_2 : Nat) (x_3 : Rule) : (Unit) → Option (Lo (Unit) (Bool))
  | () => (idx b (i_2 : Int)).bind fun x7 => (l_eqRule x_3 x7).bind fun x10 => if (!x10) then (some (.out false)) else (some (.cont ()))
def l_eqRuleS (a : List Rule) (b : List Rule) : Option (Bool) :=
  if ((a.length : Int) != (b.length : Int)) then (some false) else (((rangeL (l_eqRuleS_b1 b) a 0 ()) : Option (Jn (Unit) (Bool))).bind fun j => match j with | .nx _ => (some true) | .out t => some t)
def l_eqModel (a : Model) (b : Model) : Option (Bool) :=
  (l_eqIntS a.sizes b.sizes).bind fun x11 => if (!x11) then (some false) else ((l_eqRuleS a.rules b.rules).bind fun x15 => if (!x15) then (some false) else (some true))
def l_heldIntS_b1 (_i_1 : Nat) (x_3 : Int) : (Int) → Option (Lo (Int) (Int))
  | k_2 => if (x_3 != k_2) then (some (.out (-1))) else (some (.cont (i64 (k_2 + 1))))
def l_heldIntS (a : List Int) (k : Int) : Option (Int) :=
  ((rangeL l_heldIntS_b1 a 0 k) : Option (Jn (Int) (Int))).bind fun j => match j with | .nx k_2 => (some k_2) | .out t => some t
end Go.L

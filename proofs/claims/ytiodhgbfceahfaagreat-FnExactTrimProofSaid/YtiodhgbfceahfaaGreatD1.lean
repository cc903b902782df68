/- Part of a proof by program: D1. -/
import Derived.Test.YtiodhgbfceahfaaGreatG11
namespace Go.L
open Go Go.E
set_option linter.unusedVariables false
def l_szTermS (a : List Term) (left : Int) : Option (Int) :=
  if decide ((i64 (left - (a.length : Int))) < 0) then (some (-1)) else (some (i64 (left - (a.length : Int))))
def l_szConstraint (a : Con) (left : Int) : Option (Int) :=
  (l_szTermS a.terms left).bind fun x10 => if decide (x10 < 0) then (some (-1)) else (some x10)
def l_szConstraintS_b1 (_i_2 : Nat) (x_4 : Con) : (Int) → Option (Lo (Int) (Int))
  | left_3 => (l_szConstraint x_4 left_3).bind fun x15 => if decide (x15 < 0) then (some (.out (-1))) else (some (.cont x15))
def l_szConstraintS (a : List Con) (left : Int) : Option (Int) :=
  if decide ((i64 (left - (a.length : Int))) < 0) then (some (-1)) else (((rangeL l_szConstraintS_b1 a 0 (i64 (left - (a.length : Int)))) : Option (Jn (Int) (Int))).bind fun j => match j with | .nx left_3 => (some left_3) | .out t => some t)
def l_szStep (a : Step) (left : Int) : Option (Int) :=
  (l_szConstraint a.given left).bind fun x10 => if decide (x10 < 0) then (some (-1)) else (some x10)
def l_szStepS_b1 (_i_2 : Nat) (x_4 : Step) : (Int) → Option (Lo (Int) (Int))
  | left_3 => (l_szStep x_4 left_3).bind fun x15 => if decide (x15 < 0) then (some (.out (-1))) else (some (.cont x15))
def l_szStepS (a : List Step) (left : Int) : Option (Int) :=
  if decide ((i64 (left - (a.length : Int))) < 0) then (some (-1)) else (((rangeL l_szStepS_b1 a 0 (i64 (left - (a.length : Int)))) : Option (Jn (Int) (Int))).bind fun j => match j with | .nx left_3 => (some left_3) | .out t => some t)
def s_l4Parts (s : Step) : Option (Bool) :=
  ((if (s.kind == 1) then (some (s.kind == 1)) else (((if (s.kind == 2) then (some (s.kind == 2)) else (((if (s.kind == 3) then (some (s.kind == 3)) else (some (s.kind == 5))) : Option (Bool)).bind fun t17_13 => some t17_13)) : Option (Bool)).bind fun t17_10 => some t17_10)) : Option (Bool)).bind fun t17_7 => if t17_7 then (some (((s.given.terms.length : Int) == 0) && (s.given.bound == 0))) else (((if (s.kind == 4) then (some (s.kind == 4)) else (((if (s.kind == 6) then (some (s.kind == 6)) else (some (s.kind == 8))) : Option (Bool)).bind fun t23_20 => some t23_20)) : Option (Bool)).bind fun t23_17 => if t23_17 then (some ((((s.given.terms.length : Int) == 0) && (s.given.bound == 0)) && (s.b == 0))) else (if (s.kind == 7) then (some ((s.a == 0) && (s.b == 0))) else (some false)))
def s_l4Live (d : Db) (k : Int) : Option (Bool) :=
  (if ((decide (k ≥ 0)) && (decide (k < (d.list.length : Int)))) then ((idx d.gone k).bind fun x5 => some (!x5)) else some false).bind fun b10 => some b10
def s_l1Copy (c : Con) : Option (Con) :=
  (app ([]) c.terms).bind fun x12 => some ({ terms := x12, bound := c.bound } : Con)
def s_l1Lit (n_ : Int) : Option (Bool) :=
  some (((n_ != 0) && (decide (n_ ≥ (-12)))) && (decide (n_ ≤ 12)))
def s_LiteralAxiom (lit : Int) : Option (Con × Bool) :=
  (s_l1Lit lit).bind fun x10 => if (!x10) then (some (({ terms := [], bound := 0 } : Con), false)) else (some (({ terms := [({ coef := 1, lit := lit } : Term)], bound := 0 } : Con), true))
def s_l1Abs (n_ : Int) : Option (Int) :=
  if decide (n_ < 0) then (some (i64 (-n_))) else (some n_)
def s_ConstraintValid_b1 (c : Con) (i_5 : Nat) (x_8 : Term) : (Unit) → Option (Lo (Unit) (Bool))
  | () => (s_l1Lit x_8.lit).bind fun x29 => (if (((!x29) || (decide (x_8.coef < 1))) || (decide (x_8.coef > 1000))) then some true else ((if decide ((i_5 : Int) > 0) then ((idx c.terms (i64 ((i_5 : Int) - 1))).bind fun x31 => (s_l1Abs x31.lit).bind fun x41 => (s_l1Abs x_8.lit).bind fun x48 => some (decide (x41 ≥ x48))) else some false).bind fun b50 => some b50)).bind fun b51 => if b51 then (some (.out false)) else (some (.cont ()))
def s_ConstraintValid (c : Con) : Option (Bool) :=
  ((rangeL (s_ConstraintValid_b1 c) c.terms 0 ()) : Option (Jn (Unit) (Bool))).bind fun j => match j with | .nx _ => (some ((decide (c.bound ≥ 0)) && (decide (c.bound ≤ 20000)))) | .out t => some t
def s_l1Total_b1 (_i_5 : Nat) (x_7 : Term) : (Int) → Option (Lo (Int) (Int))
  | n_6 => some (.cont (i64 (n_6 + x_7.coef)))
def s_l1Total (c : Con) : Option (Int) :=
  ((rangeL s_l1Total_b1 c.terms 0 0) : Option (Jn (Int) (Int))).bind fun j => match j with | .nx n_6 => (some n_6) | .out t => some t
def s_NegateConstraint_b1 (_i_55 : Nat) (x_60 : Term) : (List Term) → Option (Lo (List Term) (Con × Bool))
  | g53_0_56 => (app g53_0_56 ([({ coef := x_60.coef, lit := i64 (-x_60.lit) } : Term)])).bind fun x74 => some (.cont x74)
def s_NegateConstraint (c : Con) : Option (Con × Bool) :=
  (s_ConstraintValid c).bind fun x14 => if (!x14) then (some (({ terms := [], bound := 0 } : Con), false)) else ((s_l1Total c).bind fun x31 => ((rangeL s_NegateConstraint_b1 c.terms 0 ([])) : Option (Jn (List Term) (Con × Bool))).bind fun j => match j with | .nx g53_0_56 => (((if decide ((i64 ((i64 (x31 - c.bound)) + 1)) < 0) then (some 0) else (some (i64 ((i64 (x31 - c.bound)) + 1)))) : Option (Int)).bind fun g53_1_115 => some (({ terms := g53_0_56, bound := g53_1_115 } : Con), true)) | .out t => some t)
def s_l3State (p : List Int) (lit : Int) : Option (Int) :=
  if decide (lit > 0) then ((idx p (i64 (lit - 1))).bind fun x2 => some x2) else ((idx p (i64 ((i64 (-lit)) - 1))).bind fun x11 => some (i64 (-x11)))
def s_l3Slack_b1 (p : List Int) (_i_5 : Nat) (x_7 : Term) : (Int) → Option (Lo (Int) (Int))
  | n_6 => (s_l3State p x_7.lit).bind fun x18 => ((if decide (x18 ≥ 0) then (some (i64 (n_6 + x_7.coef))) else (some n_6)) : Option (Int)).bind fun n_30 => some (.cont n_30)
def s_l3Slack (c : Con) (p : List Int) : Option (Int) :=
  ((rangeL (s_l3Slack_b1 p) c.terms 0 (i64 (-c.bound))) : Option (Jn (Int) (Int))).bind fun j => match j with | .nx n_6 => (some n_6) | .out t => some t
def s_l3Implied_b1 (c : Con) (p : List Int) (x16 : Int) : ((List Int) × Int) → Option (Lo ((List Int) × Int) (List Int))
  | (out_27, i_29) => if ((decide (i_29 < (c.terms.length : Int))) && (decide (x16 ≥ 0))) then ((idx c.terms i_29).bind fun x34 => (s_l3State p x34.lit).bind fun x44 => ((if ((x44 == 0) && (decide (x34.coef > x16))) then ((app out_27 ([x34.lit])).bind fun x77 => some x77) else (some out_27)) : Option (List Int)).bind fun out_66 => some (.cont (out_66, i64 (i_29 + 1)))) else (some (.brk (out_27, i_29)))
def s_l3Implied (fu : Nat) (c : Con) (p : List Int) : Option (List Int) :=
  (s_l3Slack c p).bind fun x16 => ((whileL (s_l3Implied_b1 c p x16) fu ([], 0)) : Option (Jn ((List Int) × Int) (List Int))).bind fun j => match j with | .nx (out_27, i_29) => (some out_27) | .out t => some t
def s_l3Assign (p : List Int) (lit : Int) : Option (List Int) :=
  ((if decide (lit > 0) then ((idx p (i64 (lit - 1))).bind fun x4 => some (p.set (Int.toNat (i64 (lit - 1))) 1)) else ((idx p (i64 ((i64 (-lit)) - 1))).bind fun x11 => some (p.set (Int.toNat (i64 ((i64 (-lit)) - 1))) (-1)))) : Option (List Int)).bind fun kp_1 => some kp_1
def s_l3Propagate_b3 (_i_60 : Nat) (x_63 : Int) : ((List Int) × Bool) → Option (Lo ((List Int) × Bool) (Lo ((List Int) × Bool) (Lo ((List Int) × Bool) (Int × (List Int)))))
  | (p_61, changed_62) => (s_l3Assign p_61 x_63).bind fun x74 => some (.cont (x74, true))
def s_l3Propagate_b2 (fu : Nat) (i_6 : Nat) (x_9 : Con) : ((List Int) × Bool) → Option (Lo ((List Int) × Bool) (Lo ((List Int) × Bool) (Int × (List Int))))
  | (p_7, changed_8) => (s_l3Slack x_9 p_7).bind fun x21 => if decide (x21 < 0) then (some (.out (.out ((i_6 : Int), p_7)))) else ((s_l3Implied fu x_9 p_7).bind fun x45 => ((rangeL s_l3Propagate_b3 x45 0 (p_7, changed_8)) : Option (Jn ((List Int) × Bool) (Lo ((List Int) × Bool) (Lo ((List Int) × Bool) (Int × (List Int)))))).bind fun j => match j with | .nx (p_61, changed_62) => (some (.cont (p_61, changed_62))) | .out t => some t)
def s_l3Propagate_b1 (fu : Nat) (list : List Con) : ((List Int) × Bool) → Option (Lo ((List Int) × Bool) (Int × (List Int)))
  | (p_2, changed_3) => if changed_3 then (((rangeL (s_l3Propagate_b2 fu) list 0 (p_2, false)) : Option (Jn ((List Int) × Bool) (Lo ((List Int) × Bool) (Int × (List Int))))).bind fun j => match j with | .nx (p_7, changed_8) => (some (.cont (p_7, changed_8))) | .out t => some t) else (some (.brk (p_2, changed_3)))
def s_l3Propagate (fu : Nat) (list : List Con) (p : List Int) : Option (Int × (List Int)) :=
  ((whileL (s_l3Propagate_b1 fu list) fu (p, true)) : Option (Jn ((List Int) × Bool) (Int × (List Int)))).bind fun j => match j with | .nx (p_2, changed_3) => (some ((-1), p_2)) | .out t => some t
def s_l3Rup (fu : Nat) (list : List Con) (c : Con) : Option (Bool) :=
  (s_NegateConstraint c).bind fun x10 => (app ([]) list).bind fun x29 => (app x29 ([x10.1])).bind fun x36 => (mkN 12 0).bind fun x69 => (s_l3Propagate fu x36 x69).bind fun x79 => some (decide (x79.1 ≥ 0))
def s_l4Kept_b1 (d : Db) (i_11 : Nat) (x_14 : Con) : (List Con) → Option (Lo (List Con) (List Con))
  | out_12 => (idx d.gone (i_11 : Int)).bind fun x16 => ((if (!x16) then ((app out_12 ([x_14])).bind fun x36 => some x36) else (some out_12)) : Option (List Con)).bind fun out_25 => some (.cont out_25)
def s_l4Kept (d : Db) : Option (List Con) :=
  ((rangeL (s_l4Kept_b1 d) d.list 0 ([])) : Option (Jn (List Con) (List Con))).bind fun j => match j with | .nx out_12 => (some out_12) | .out t => some t
def s_l1Net_b1 (_i_8 : Nat) (x_13 : Term) : (Int × (List Int)) → Option (Lo (Int × (List Int)) ((List Int) × Int))
  | (bound_9, net_10) => ((if decide (x_13.lit > 0) then ((idx net_10 x_13.lit).bind fun x35 => some (bound_9, (net_10.set (Int.toNat x_13.lit) (i64 (x35 + x_13.coef))))) else ((idx net_10 (i64 (-x_13.lit))).bind fun x49 => some (i64 (bound_9 - x_13.coef), (net_10.set (Int.toNat (i64 (-x_13.lit))) (i64 (x49 - x_13.coef)))))) : Option (Int × (List Int))).bind fun (bound_29, net_30) => some (.cont (bound_29, net_30))
def s_l1Net (terms : List Term) (bound : Int) : Option ((List Int) × Int) :=
  (mkN 13 0).bind fun x1 => ((rangeL s_l1Net_b1 terms 0 (bound, x1)) : Option (Jn (Int × (List Int)) ((List Int) × Int))).bind fun j => match j with | .nx (bound_9, net_10) => (some (net_10, bound_9)) | .out t => some t
def s_l1Normal_b1 (net : List Int) (i_11 : Nat) : (Int × (List Term)) → Option (Lo (Int × (List Term)) (Con × Bool))
  | (bound_12, g8_0_13) => (idx net (i_11 : Int)).bind fun x21 => ((if decide (x21 > 0) then ((app g8_0_13 ([({ coef := x21, lit := (i_11 : Int) } : Term)])).bind fun x43 => some x43) else (some g8_0_13)) : Option (List Term)).bind fun g8_0_30 => ((if decide (x21 < 0) then ((app g8_0_30 ([({ coef := i64 (-x21), lit := i64 (-(i_11 : Int)) } : Term)])).bind fun x92 => some (i64 (bound_12 - x21), x92)) else (some (bound_12, g8_0_30))) : Option (Int × (List Term))).bind fun (bound_78, g8_0_79) => some (.cont (bound_78, g8_0_79))
def s_l1Normal (net : List Int) (bound : Int) : Option (Con × Bool) :=
  (cntF 1 (12 + 1)).bind fun k18 => ((countL (s_l1Normal_b1 net) k18 1 (bound, [])) : Option (Jn (Int × (List Term)) (Con × Bool))).bind fun j => match j with | .nx (bound_12, g8_0_13) => (((if decide (bound_12 < 0) then (some 0) else (some bound_12)) : Option (Int)).bind fun bound_127 => (s_ConstraintValid ({ terms := g8_0_13, bound := bound_127 } : Con)).bind fun x138 => if (!x138) then (some (({ terms := [], bound := 0 } : Con), false)) else (some (({ terms := g8_0_13, bound := bound_127 } : Con), true))) | .out t => some t
def s_AddConstraints (a : Con) (b : Con) : Option (Con × Bool) :=
  (s_ConstraintValid a).bind fun x18 => (if (!x18) then some true else ((s_ConstraintValid b).bind fun x25 => some (!x25))).bind fun b27 => if b27 then (some (({ terms := [], bound := 0 } : Con), false)) else ((app ([]) a.terms).bind fun x49 => (app x49 b.terms).bind fun x53 => (s_l1Net x53 (i64 (a.bound + b.bound))).bind fun x63 => (s_l1Normal x63.1 x63.2).bind fun x115 => some (x115.1, x115.2))
def s_MultiplyConstraint_b1 (k : Int) (_i_36 : Nat) (x_41 : Term) : (List Term) → Option (Lo (List Term) (Con × Bool))
  | g33_0_37 => (app g33_0_37 ([({ coef := i64 (x_41.coef * k), lit := x_41.lit } : Term)])).bind fun x55 => some (.cont x55)
def s_MultiplyConstraint (c : Con) (k : Int) : Option (Con × Bool) :=
  (s_ConstraintValid c).bind fun x14 => if (((!x14) || (decide (k < 1))) || (decide (k > 1000))) then (some (({ terms := [], bound := 0 } : Con), false)) else (((rangeL (s_MultiplyConstraint_b1 k) c.terms 0 ([])) : Option (Jn (List Term) (Con × Bool))).bind fun j => match j with | .nx g33_0_37 => ((s_ConstraintValid ({ terms := g33_0_37, bound := i64 (c.bound * k) } : Con)).bind fun x102 => if (!x102) then (some (({ terms := [], bound := 0 } : Con), false)) else (some (({ terms := g33_0_37, bound := i64 (c.bound * k) } : Con), true))) | .out t => some t)
def s_l2Up (n_ : Int) (k : Int) : Option (Int) :=
  (if k = 0 then none else some ()).bind fun _ => some (i64 (Int.tdiv (i64 ((i64 (n_ + k)) - 1)) k))
def s_DivideConstraint_b1 (k : Int) (_i_49 : Nat) (x_54 : Term) : (List Term) → Option (Lo (List Term) (Con × Bool))
  | g46_0_50 => (s_l2Up x_54.coef k).bind fun x66 => (app g46_0_50 ([({ coef := x66, lit := x_54.lit } : Term)])).bind fun x75 => some (.cont x75)
def s_DivideConstraint (c : Con) (k : Int) : Option (Con × Bool) :=
  (s_ConstraintValid c).bind fun x14 => if (((!x14) || (decide (k < 1))) || (decide (k > 1000))) then (some (({ terms := [], bound := 0 } : Con), false)) else ((s_l2Up c.bound k).bind fun x35 => ((rangeL (s_DivideConstraint_b1 k) c.terms 0 ([])) : Option (Jn (List Term) (Con × Bool))).bind fun j => match j with | .nx g46_0_50 => (some (({ terms := g46_0_50, bound := x35 } : Con), true)) | .out t => some t)
def s_l2Saturate_b1 (c : Con) : (Int × (List Term)) → Option (Lo (Int × (List Term)) (Con))
  | (i_17, g12_0_18) => if ((decide (i_17 < (c.terms.length : Int))) && (decide (c.bound > 0))) then ((idx c.terms i_17).bind fun x25 => ((if decide (x25.coef > c.bound) then (some c.bound) else (some x25.coef)) : Option (Int)).bind fun g37_0_40 => (app g12_0_18 ([({ coef := g37_0_40, lit := x25.lit } : Term)])).bind fun x48 => some (.cont (i64 (i_17 + 1), x48))) else (some (.brk (i_17, g12_0_18)))
def s_l2Saturate (fu : Nat) (c : Con) : Option (Con) :=
  ((whileL (s_l2Saturate_b1 c) fu (0, [])) : Option (Jn (Int × (List Term)) (Con))).bind fun j => match j with | .nx (i_17, g12_0_18) => (some ({ terms := g12_0_18, bound := c.bound } : Con)) | .out t => some t
def s_SaturateConstraint (fu : Nat) (c : Con) : Option (Con × Bool) :=
  (s_ConstraintValid c).bind fun x14 => if (!x14) then (some (({ terms := [], bound := 0 } : Con), false)) else ((s_l2Saturate fu c).bind fun x31 => some (x31, true))
def s_WeakenConstraint_b1 (variable_ : Int) (_i_36 : Nat) (x_42 : Term) : ((List Term) × Int) → Option (Lo ((List Term) × Int) (Con × Bool))
  | (g33_0_37, g33_1_39) => (s_l1Abs x_42.lit).bind fun x54 => ((if (x54 == variable_) then (some (g33_0_37, i64 (g33_1_39 - x_42.coef))) else ((app g33_0_37 ([x_42])).bind fun x99 => some (x99, g33_1_39))) : Option ((List Term) × Int)).bind fun (g33_0_66, g33_1_68) => some (.cont (g33_0_66, g33_1_68))
def s_WeakenConstraint (c : Con) (variable_ : Int) : Option (Con × Bool) :=
  (s_ConstraintValid c).bind fun x14 => if (((!x14) || (decide (variable_ < 1))) || (decide (variable_ > 12))) then (some (({ terms := [], bound := 0 } : Con), false)) else (((rangeL (s_WeakenConstraint_b1 variable_) c.terms 0 ([], c.bound)) : Option (Jn ((List Term) × Int) (Con × Bool))).bind fun j => match j with | .nx (g33_0_37, g33_1_39) => (((if decide (g33_1_39 < 0) then (some 0) else (some g33_1_39)) : Option (Int)).bind fun g33_1_126 => some (({ terms := g33_0_37, bound := g33_1_126 } : Con), true)) | .out t => some t)
def s_l4Derive (fu : Nat) (d : Db) (s : Step) : Option (Con × Bool) :=
  if (s.kind == 6) then ((s_LiteralAxiom s.a).bind fun x19 => some (x19.1, x19.2)) else (if (s.kind == 7) then ((s_l1Copy s.given).bind fun x37 => (s_ConstraintValid s.given).bind fun x45 => (if x45 then ((s_l4Kept d).bind fun x47 => (s_l3Rup fu x47 s.given).bind fun x56 => some x56) else some false).bind fun b58 => some (x37, b58)) else ((s_l4Live d s.a).bind fun x149 => if (!x149) then (some (({ terms := [], bound := 0 } : Con), false)) else ((idx d.list s.a).bind fun x161 => if (s.kind == 1) then ((s_l4Live d s.b).bind fun x182 => if (!x182) then (some (({ terms := [], bound := 0 } : Con), false)) else ((idx d.list s.b).bind fun x194 => (s_AddConstraints x161 x194).bind fun x204 => some (x204.1, x204.2))) else (if (s.kind == 2) then ((s_MultiplyConstraint x161 s.b).bind fun x246 => some (x246.1, x246.2)) else (if (s.kind == 3) then ((s_DivideConstraint x161 s.b).bind fun x264 => some (x264.1, x264.2)) else (if (s.kind == 4) then ((s_SaturateConstraint fu x161).bind fun x282 => some (x282.1, x282.2)) else ((s_WeakenConstraint x161 s.b).bind fun x299 => some (x299.1, x299.2))))))))
def s_l4Run_b1 (fu : Nat) (list : List Con) (i_48 : Nat) (x_55 : Step) : ((List Con) × (List Bool)) → Option (Lo ((List Con) × (List Bool)) (Db × Int))
  | (g46_0_49, g46_1_51) => (((s_l4Parts x_55).bind fun x83 => if (!x83) then (some (.out (.out (({ list := g46_0_49, gone := g46_1_51 } : Db), (i_48 : Int))))) else (if (x_55.kind == 8) then ((s_l4Live ({ list := g46_0_49, gone := g46_1_51 } : Db) x_55.a).bind fun x102 => if (!x102) then (some (.out (.out (({ list := g46_0_49, gone := g46_1_51 } : Db), (i_48 : Int))))) else ((idx g46_1_51 x_55.a).bind fun x115 => some (.nx (g46_0_49, (g46_1_51.set (Int.toNat x_55.a) true))))) else ((s_l4Derive fu ({ list := g46_0_49, gone := g46_1_51 } : Db) x_55).bind fun x129 => if (!x129.2) then (some (.out (.out (({ list := g46_0_49, gone := g46_1_51 } : Db), (i_48 : Int))))) else ((app g46_0_49 ([x129.1])).bind fun x153 => (app g46_1_51 ([false])).bind fun x172 => some (.nx (x153, x172)))))) : Option (Jn ((List Con) × (List Bool)) (Lo ((List Con) × (List Bool)) (Db × Int)))).bind fun j => match j with | .nx (g46_0_57, g46_1_59) => (some (.cont (g46_0_57, g46_1_59))) | .out t => some t
def s_l4Run (fu : Nat) (list : List Con) (steps : List Step) : Option (Db × Int) :=
  (app ([]) list).bind fun x8 => (mkN (list.length : Int) false).bind fun x12 => ((rangeL (s_l4Run_b1 fu list) steps 0 (x8, x12)) : Option (Jn ((List Con) × (List Bool)) (Db × Int))).bind fun j => match j with | .nx (g46_0_49, g46_1_51) => (some (({ list := g46_0_49, gone := g46_1_51 } : Db), (-1))) | .out t => some t
def s_ConstraintFalse (c : Con) : Option (Bool) :=
  (s_ConstraintValid c).bind fun x10 => (if x10 then ((s_l1Total c).bind fun x17 => some (decide (x17 < c.bound))) else some false).bind fun b19 => some b19
def s_l4False_b1 (d : Db) (i_5 : Nat) (x_6 : Con) : (Unit) → Option (Lo (Unit) (Int))
  | () => (idx d.gone (i_5 : Int)).bind fun x8 => (if (!x8) then ((s_ConstraintFalse x_6).bind fun x22 => some x22) else some false).bind fun b24 => if b24 then (some (.out (i_5 : Int))) else (some (.cont ()))
def s_l4False (d : Db) : Option (Int) :=
  ((rangeL (s_l4False_b1 d) d.list 0 ()) : Option (Jn (Unit) (Int))).bind fun j => match j with | .nx _ => (some (-1)) | .out t => some t
def s_ProblemValid_b1 (_i_1 : Nat) (x_2 : Con) : (Unit) → Option (Lo (Unit) (Bool))
  | () => (s_ConstraintValid x_2).bind fun x13 => if (!x13) then (some (.out false)) else (some (.cont ()))
def s_ProblemValid (list : List Con) : Option (Bool) :=
  ((rangeL s_ProblemValid_b1 list 0 ()) : Option (Jn (Unit) (Bool))).bind fun j => match j with | .nx _ => (some (decide ((list.length : Int) ≤ 400))) | .out t => some t
def s_l4Fits (list : List Con) (steps : List Step) : Option (Bool) :=
  (s_ProblemValid list).bind fun x6 => some (x6 && (decide ((steps.length : Int) ≤ 1000)))
def s_CheckRefutation (fu : Nat) (list : List Con) (steps : List Step) : Option (Bool) :=
  (s_l4Fits list steps).bind fun x6 => if (!x6) then (some false) else ((s_l4Run fu list steps).bind fun x15 => (if decide (x15.2 < 0) then ((s_l4False x15.1).bind fun x35 => some (decide (x35 ≥ 0))) else some false).bind fun b37 => some b37)
def s_l4Needs_b1 (i_21 : Nat) : (List Bool) → Option (Lo (List Bool) (List Bool))
  | need_22 => (idx need_22 (i_21 : Int)).bind fun x26 => some (.cont (need_22.set (Int.toNat (i_21 : Int)) true))
def s_l4Needs (need : List Bool) (s : Step) (at_ : Int) : Option (List Bool) :=
  ((if (s.kind == 1) then ((idx need s.a).bind fun x8 => (idx (need.set (Int.toNat s.a) true) s.b).bind fun x15 => some ((need.set (Int.toNat s.a) true).set (Int.toNat s.b) true)) else (((if (s.kind == 7) then ((cntF 0 at_).bind fun k24 => ((countL s_l4Needs_b1 k24 0 need) : Option (Jn (List Bool) (List Bool))).bind fun j => match j with | .nx need_22 => (some need_22) | .out t => some t) else (((if (s.kind == 2) then (some (s.kind == 2)) else (((if (s.kind == 3) then (some (s.kind == 3)) else (((if (s.kind == 4) then (some (s.kind == 4)) else (some (s.kind == 5))) : Option (Bool)).bind fun t29_39 => some t29_39)) : Option (Bool)).bind fun t29_36 => some t29_36)) : Option (Bool)).bind fun t29_33 => ((if t29_33 then ((idx need s.a).bind fun x45 => some (need.set (Int.toNat s.a) true)) else (some need)) : Option (List Bool)).bind fun kp_42 => some kp_42)) : Option (List Bool)).bind fun kp_18 => some kp_18)) : Option (List Bool)).bind fun kp_5 => some kp_5
def s_TrimProof_b1 (i_71 : Nat) (x_74 : Step) : (List Int) → Option (Lo (List Int) ((List Step) × Bool))
  | from__72 => ((if (x_74.kind != 8) then ((app from__72 ([(i_71 : Int)])).bind fun x91 => some x91) else (some from__72)) : Option (List Int)).bind fun from__84 => some (.cont from__84)
def s_TrimProof_b2 (list : List Con) (steps : List Step) (from__72 : List Int) : ((List Bool) × Int) → Option (Lo ((List Bool) × Int) ((List Step) × Bool))
  | (need_102, k_103) => if decide (k_103 ≥ (list.length : Int)) then ((idx need_102 k_103).bind fun x106 => ((if x106 then ((idx from__72 (i64 (k_103 - (list.length : Int)))).bind fun x118 => (idx steps x118).bind fun x123 => (s_l4Needs need_102 x123 k_103).bind fun x133 => some x133) else (some need_102)) : Option (List Bool)).bind fun need_115 => some (.cont (need_115, i64 (k_103 - 1)))) else (some (.brk (need_102, k_103)))
def s_TrimProof_b3 (list : List Con) (need_102 : List Bool) (i_155 : Nat) (_x_159 : Con) : ((List Int) × Int) → Option (Lo ((List Int) × Int) ((List Step) × Bool))
  | (at__156, next_158) => (app at__156 ([next_158])).bind fun x164 => (if decide ((i_155 : Int) < (list.length : Int)) then some true else ((idx need_102 (i_155 : Int)).bind fun x174 => some x174)).bind fun b179 => ((if b179 then (some (i64 (next_158 + 1))) else (some next_158)) : Option (Int)).bind fun next_186 => some (.cont (x164, next_186))
def s_TrimProof_b4 (list : List Con) (steps : List Step) (x21 : Db × Int) (from__72 : List Int) (need_102 : List Bool) (at__156 : List Int) : ((List Step) × Int) → Option (Lo ((List Step) × Int) ((List Step) × Bool))
  | (out_196, k_198) => if decide (k_198 < (x21.1.list.length : Int)) then ((idx need_102 k_198).bind fun x201 => ((if x201 then ((idx from__72 (i64 (k_198 - (list.length : Int)))).bind fun x214 => (idx steps x214).bind fun x219 => ((if ((x219.kind != 6) && (x219.kind != 7)) then ((idx at__156 x219.a).bind fun x243 => some x243) else (some x219.a)) : Option (Int)).bind fun g235_1_240 => ((if (x219.kind == 1) then ((idx at__156 x219.b).bind fun x257 => some x257) else (some x219.b)) : Option (Int)).bind fun g235_2_254 => (s_l1Copy x219.given).bind fun x273 => (app out_196 ([({ kind := x219.kind, a := g235_1_240, b := g235_2_254, given := x273 } : Step)])).bind fun x288 => some x288) else (some out_196)) : Option (List Step)).bind fun out_210 => some (.cont (out_210, i64 (k_198 + 1)))) else (some (.brk (out_196, k_198)))
def s_TrimProof (fu : Nat) (list : List Con) (steps : List Step) : Option ((List Step) × Bool) :=
  (s_CheckRefutation fu list steps).bind fun x6 => if (!x6) then (some ([], false)) else ((s_l4Run fu list steps).bind fun x21 => (mkN (x21.1.list.length : Int) false).bind fun x34 => (s_l4False x21.1).bind fun x48 => (idx x34 x48).bind fun x50 => ((rangeL s_TrimProof_b1 steps 0 ([])) : Option (Jn (List Int) ((List Step) × Bool))).bind fun j => match j with | .nx from__72 => (((whileL (s_TrimProof_b2 list steps from__72) fu ((x34.set (Int.toNat x48) true), i64 ((x21.1.list.length : Int) - 1))) : Option (Jn ((List Bool) × Int) ((List Step) × Bool))).bind fun j => match j with | .nx (need_102, k_103) => (((rangeL (s_TrimProof_b3 list need_102) x21.1.list 0 ([], 0)) : Option (Jn ((List Int) × Int) ((List Step) × Bool))).bind fun j => match j with | .nx (at__156, next_158) => (((whileL (s_TrimProof_b4 list steps x21 from__72 need_102 at__156) fu ([], (list.length : Int))) : Option (Jn ((List Step) × Int) ((List Step) × Bool))).bind fun j => match j with | .nx (out_196, k_198) => (some (out_196, true)) | .out t => some t) | .out t => some t) | .out t => some t) | .out t => some t)
def l_toTerm (a : Term) : Option (Term) :=
  some a
def l_toTermS_b1 (i_8 : Nat) (x_10 : Term) : (List Term) → Option (Lo (List Term) (List Term))
  | out_9 => (l_toTerm x_10).bind fun x21 => (idx out_9 (i_8 : Int)).bind fun x23 => some (.cont (out_9.set (Int.toNat (i_8 : Int)) x21))
def l_toTermS (a : List Term) : Option (List Term) :=
  (mkN (a.length : Int) ({ coef := 0, lit := 0 } : Term)).bind fun x1 => ((rangeL l_toTermS_b1 a 0 x1) : Option (Jn (List Term) (List Term))).bind fun j => match j with | .nx out_9 => (some out_9) | .out t => some t
def l_toConstraint (a : Con) : Option (Con) :=
  (l_toTermS a.terms).bind fun x18 => some ({ terms := x18, bound := a.bound } : Con)
def l_toConstraintS_b1 (i_8 : Nat) (x_10 : Con) : (List Con) → Option (Lo (List Con) (List Con))
  | out_9 => (l_toConstraint x_10).bind fun x21 => (idx out_9 (i_8 : Int)).bind fun x24 => some (.cont (out_9.set (Int.toNat (i_8 : Int)) x21))
def l_toConstraintS (a : List Con) : Option (List Con) :=
  (mkN (a.length : Int) ({ terms := [], bound := 0 } : Con)).bind fun x1 => ((rangeL l_toConstraintS_b1 a 0 x1) : Option (Jn (List Con) (List Con))).bind fun j => match j with | .nx out_9 => (some out_9) | .out t => some t
def l_toStep (a : Step) : Option (Step) :=
  (l_toConstraint a.given).bind fun x24 => some ({ kind := a.kind, a := a.a, b := a.b, given := x24 } : Step)
def l_toStepS_b1 (i_8 : Nat) (x_10 : Step) : (List Step) → Option (Lo (List Step) (List Step))
  | out_9 => (l_toStep x_10).bind fun x21 => (idx out_9 (i_8 : Int)).bind fun x24 => some (.cont (out_9.set (Int.toNat (i_8 : Int)) x21))
def l_toStepS (a : List Step) : Option (List Step) :=
  (mkN (a.length : Int) ({ kind := 0, a := 0, b := 0, given := ({ terms := [], bound := 0 } : Con) } : Step)).bind fun x1 => ((rangeL l_toStepS_b1 a 0 x1) : Option (Jn (List Step) (List Step))).bind fun j => match j with | .nx out_9 => (some out_9) | .out t => some t
def i_refers (kind : Int) : Option (Int × Bool) :=
  if (kind == 1) then (some (2, false)) else (((if (kind == 2) then (some (kind == 2)) else (((if (kind == 3) then (some (kind == 3)) else (some (kind == 5))) : Option (Bool)).bind fun t7_5 => some t7_5)) : Option (Bool)).bind fun t7_2 => if t7_2 then (some (1, true)) else (((if (kind == 4) then (some (kind == 4)) else (some (kind == 8))) : Option (Bool)).bind fun t11_9 => if t11_9 then (some (1, false)) else (((if (kind == 6) then (some (kind == 6)) else (some (kind == 7))) : Option (Bool)).bind fun t14_13 => if t14_13 then (some (0, false)) else (some ((-1), false)))))
def slices_IndexFunc_implConstraint_b1 (f_ : (Con → Option Bool)) (i_1 : Nat) (x_2 : Con) : (Unit) → Option (Lo (Unit) (Int))
  | () => (f_ x_2).bind fun x8 => if x8 then (some (.out (i_1 : Int))) else (some (.cont ()))
def slices_IndexFunc_implConstraint (s : List Con) (f_ : (Con → Option Bool)) : Option (Int) :=
  ((rangeL (slices_IndexFunc_implConstraint_b1 f_) s 0 ()) : Option (Jn (Unit) (Int))).bind fun j => match j with | .nx _ => (some (-1)) | .out t => some t
def slices_ContainsFunc_implConstraint (s : List Con) (f_ : (Con → Option Bool)) : Option (Bool) :=
  (slices_IndexFunc_implConstraint s f_).bind fun x6 => some (decide (x6 ≥ 0))
def i_within (n_ : Int) (low : Int) (high : Int) : Option (Bool) :=
  some ((decide (low ≤ n_)) && (decide (n_ ≤ high)))
def i_isLiteral (l : Int) : Option (Bool) :=
  (if (l != 0) then ((i_within l (-12) 12).bind fun x6 => some x6) else some false).bind fun b8 => some b8
def i_variableOf (l : Int) : Option (Int) :=
  some (max l (i64 (-l)))
def i_ConstraintValid_b1 (_i_5 : Nat) (x_7 : Term) : (Int) → Option (Lo (Int) (Bool))
  | before_6 => (i_isLiteral x_7.lit).bind fun x28 => (if (!x28) then some true else ((i_variableOf x_7.lit).bind fun x35 => some (decide (x35 ≤ before_6)))).bind fun b37 => (if b37 then some true else ((i_within x_7.coef 1 1000).bind fun x43 => some (!x43))).bind fun b45 => if b45 then (some (.out false)) else ((i_variableOf x_7.lit).bind fun x80 => some (.cont x80))
def i_ConstraintValid (c : Con) : Option (Bool) :=
  ((rangeL i_ConstraintValid_b1 c.terms 0 0) : Option (Jn (Int) (Bool))).bind fun j => match j with | .nx before_6 => ((i_within c.bound 0 20000).bind fun x93 => some x93) | .out t => some t
def i_allValid_1 (c : Con) : Option (Bool) :=
  (i_ConstraintValid c).bind fun x10 => some (!x10)
def i_allValid (list : List Con) : Option (Bool) :=
  (slices_ContainsFunc_implConstraint list i_allValid_1).bind fun x6 => some (!x6)
def i_ProblemValid (list : List Con) : Option (Bool) :=
  (if decide ((list.length : Int) ≤ 400) then ((i_allValid list).bind fun x6 => some x6) else some false).bind fun b8 => some b8
def slices_Clone_implConstraint (s : List Con) : Option (List Con) :=
  (app ([]) s).bind fun x7 => some x7
def slices_Equal_implTerm_b1 (s2 : List Term) (i_2 : Nat) (x_5 : Term) : (Unit) → Option (Lo (Unit) (Bool))
  | () => (idx s2 (i_2 : Int)).bind fun x11 => if (!(x_5 == x11)) then (some (.out false)) else (some (.cont ()))
def slices_Equal_implTerm (s1 : List Term) (s2 : List Term) : Option (Bool) :=
  if ((s1.length : Int) != (s2.length : Int)) then (some false) else (((rangeL (slices_Equal_implTerm_b1 s2) s1 0 ()) : Option (Jn (Unit) (Bool))).bind fun j => match j with | .nx _ => (some true) | .out t => some t)
def i_ConstraintSame (a : Con) (b : Con) : Option (Bool) :=
  (if (a.bound == b.bound) then ((slices_Equal_implTerm a.terms b.terms).bind fun x14 => some x14) else some false).bind fun b16 => some b16
def i_Step_shaped (s : Step) : Option (Bool) :=
  (i_refers s.kind).bind fun x10 => (if (((decide (x10.1 ≥ 0)) && (((decide (x10.1 > 0)) || (s.kind == 6)) || (s.a == 0))) && (((x10.1 == 2) || x10.2) || (s.b == 0))) then ((if (s.kind == 7) then some true else ((i_ConstraintSame s.given ({ terms := [], bound := 0 } : Con)).bind fun x23 => some x23)).bind fun b25 => some b25) else some false).bind fun b26 => some b26
def i_running_has (r_ : Db) (i : Int) : Option (Bool) :=
  (i_within i 0 (i64 ((r_.list.length : Int) - 1))).bind fun x6 => (if x6 then ((idx r_.gone i).bind fun x8 => some (!x8)) else some false).bind fun b13 => some b13
def i_Constraint_valid (c : Con) : Option (Con × Bool) :=
  (i_ConstraintValid c).bind fun x14 => if (!x14) then (some (({ terms := [], bound := 0 } : Con), false)) else (some (c, true))
def i_normal_b1 (_i_13 : Nat) (x_18 : Term) : (Int × (List Int)) → Option (Lo (Int × (List Int)) (Con × Bool))
  | (bound_14, ag11_15) => ((if decide (x_18.lit < 0) then ((idx ag11_15 (i64 (-x_18.lit))).bind fun x40 => some (i64 (bound_14 - x_18.coef), (ag11_15.set (Int.toNat (i64 (-x_18.lit))) (i64 (x40 - x_18.coef))))) else ((idx ag11_15 x_18.lit).bind fun x44 => some (bound_14, (ag11_15.set (Int.toNat x_18.lit) (i64 (x44 + x_18.coef)))))) : Option (Int × (List Int))).bind fun (bound_34, ag11_35) => some (.cont (bound_34, ag11_35))
def i_normal_b2 (ag11_15 : List Int) (i_56 : Nat) : (Int × (List Term)) → Option (Lo (Int × (List Term)) (Con × Bool))
  | (bound_57, g51_0_58) => (idx ag11_15 (i_56 : Int)).bind fun x64 => ((if decide (x64 > 0) then ((app g51_0_58 ([({ coef := x64, lit := (i_56 : Int) } : Term)])).bind fun x73 => some (bound_57, x73)) else (((if decide (x64 < 0) then ((app g51_0_58 ([({ coef := i64 (-x64), lit := i64 (-(i_56 : Int)) } : Term)])).bind fun x93 => some (i64 (bound_57 - x64), x93)) else (some (bound_57, g51_0_58))) : Option (Int × (List Term))).bind fun (bound_85, g51_0_86) => some (bound_85, g51_0_86))) : Option (Int × (List Term))).bind fun (bound_65, g51_0_66) => some (.cont (bound_65, g51_0_66))
def i_normal (terms : List Term) (bound : Int) : Option (Con × Bool) :=
  ((rangeL i_normal_b1 terms 0 (bound, (List.replicate 13 (0 : Int)))) : Option (Jn (Int × (List Int)) (Con × Bool))).bind fun j => match j with | .nx (bound_14, ag11_15) => ((cntF 0 13).bind fun k61 => ((countL (i_normal_b2 ag11_15) k61 0 (bound_14, [])) : Option (Jn (Int × (List Term)) (Con × Bool))).bind fun j => match j with | .nx (bound_57, g51_0_58) => ((i_Constraint_valid ({ terms := g51_0_58, bound := max 0 bound_57 } : Con)).bind fun x110 => some (x110.1, x110.2)) | .out t => some t) | .out t => some t
def slices_Concat_implTerm_b1 (_i_1 : Nat) (x_3 : List Term) : (Int) → Option (Lo (Int) (List Term))
  | size_2 => ((if decide ((i64 (size_2 + (x_3.length : Int))) < 0) then (none) else (some ())) : Option (Unit)).bind fun _ => some (.cont (i64 (size_2 + (x_3.length : Int))))
def slices_Concat_implTerm_i2 (size_2 : Int) : Option (List Term) :=
  ((if decide (size_2 < 0) then (none) else (some ())) : Option (Unit)).bind fun _ => ((if decide ((i64 (size_2 - (i64 (0 - 0)))) > 0) then ((mkN (i64 (size_2 - (i64 (0 - 0)))) ({ coef := 0, lit := 0 } : Term)).bind fun x27 => (sl x27 0 0).bind fun x31 => some x31) else (some ([]))) : Option (List Term)).bind fun s_23 => some s_23
def slices_Concat_implTerm_b3 (_i_40 : Nat) (x_43 : List Term) : (List Term) → Option (Lo (List Term) (List Term))
  | newslice_41 => (app newslice_41 x_43).bind fun x53 => some (.cont x53)
def slices_Concat_implTerm (slices : List (List Term)) : Option (List Term) :=
  ((rangeL slices_Concat_implTerm_b1 slices 0 0) : Option (Jn (Int) (List Term))).bind fun j => match j with | .nx size_2 => ((slices_Concat_implTerm_i2 size_2).bind fun ret0_15 => ((rangeL slices_Concat_implTerm_b3 slices 0 ret0_15) : Option (Jn (List Term) (List Term))).bind fun j => match j with | .nx newslice_41 => (some newslice_41) | .out t => some t) | .out t => some t
def i_AddConstraints (a : Con) (b : Con) : Option (Con × Bool) :=
  (i_ConstraintValid a).bind fun x18 => (if (!x18) then some true else ((i_ConstraintValid b).bind fun x25 => some (!x25))).bind fun b27 => if b27 then (some (({ terms := [], bound := 0 } : Con), false)) else ((slices_Concat_implTerm ([a.terms, b.terms])).bind fun x54 => (i_normal x54 (i64 (a.bound + b.bound))).bind fun x60 => some (x60.1, x60.2))
def slices_Clone_implTerm (s : List Term) : Option (List Term) :=
  (app ([]) s).bind fun x7 => some x7
def i_Constraint_own (c : Con) : Option (Con) :=
  (slices_Clone_implTerm c.terms).bind fun x14 => some ({ terms := x14, bound := c.bound } : Con)
def i_Constraint_changed_b1 (change : (Int → Option Int)) (i_45 : Nat) (_x_49 : Term) : (List Term) → Option (Lo (List Term) (Con × Bool))
  | g27_0_46 => (idx g27_0_46 (i_45 : Int)).bind fun x51 => (change x51.coef).bind fun x56 => some (.cont (g27_0_46.set (Int.toNat (i_45 : Int)) ({ x51 with coef := x56 })))
def i_Constraint_changed (c : Con) (change : (Int → Option Int)) : Option (Con × Bool) :=
  (i_Constraint_own c).bind fun x14 => (change c.bound).bind fun x30 => ((rangeL (i_Constraint_changed_b1 change) x14.terms 0 x14.terms) : Option (Jn (List Term) (Con × Bool))).bind fun j => match j with | .nx g27_0_46 => ((i_Constraint_valid ({ terms := g27_0_46, bound := x30 } : Con)).bind fun x87 => some (x87.1, x87.2)) | .out t => some t
def i_MultiplyConstraint_1 (c1 : Int) (n_ : Int) : Option (Int) :=
  some (i64 (n_ * c1))
def i_MultiplyConstraint (c : Con) (k : Int) : Option (Con × Bool) :=
  (i_ConstraintValid c).bind fun x18 => (if (!x18) then some true else ((i_within k 1 1000).bind fun x25 => some (!x25))).bind fun b27 => if b27 then (some (({ terms := [], bound := 0 } : Con), false)) else ((i_Constraint_changed c (i_MultiplyConstraint_1 k)).bind fun x48 => some (x48.1, x48.2))
def i_DivideConstraint_1 (c1 : Int) (n_ : Int) : Option (Int) :=
  (if c1 = 0 then none else some ()).bind fun _ => some (i64 (Int.tdiv (i64 ((i64 (n_ + c1)) - 1)) c1))
def i_DivideConstraint (c : Con) (k : Int) : Option (Con × Bool) :=
  (i_ConstraintValid c).bind fun x18 => (if (!x18) then some true else ((i_within k 1 1000).bind fun x25 => some (!x25))).bind fun b27 => if b27 then (some (({ terms := [], bound := 0 } : Con), false)) else ((i_Constraint_changed c (i_DivideConstraint_1 k)).bind fun x48 => some (x48.1, x48.2))
def i_SaturateConstraint_b1 (c : Con) (_i_36 : Nat) (x_39 : Term) : (List Term) → Option (Lo (List Term) (List Term))
  | g29_0_37 => (app g29_0_37 ([({ coef := min x_39.coef c.bound, lit := x_39.lit } : Term)])).bind fun x59 => some (.cont x59)
def i_SaturateConstraint (c : Con) : Option (Con × Bool) :=
  (i_ConstraintValid c).bind fun x14 => if (!x14) then (some (({ terms := [], bound := 0 } : Con), false)) else (((if decide (c.bound > 0) then (((rangeL (i_SaturateConstraint_b1 c) c.terms 0 ([])) : Option (Jn (List Term) (List Term))).bind fun j => match j with | .nx g29_0_37 => (some g29_0_37) | .out t => some t) else (some ([]))) : Option (List Term)).bind fun g29_0_32 => some (({ terms := g29_0_32, bound := c.bound } : Con), true))
def i_WeakenConstraint_b1 (c : Con) (variable_ : Int) (_i_48 : Nat) (x_52 : Term) : ((List Term) × Int) → Option (Lo ((List Term) × Int) (Con × Bool))
  | (g45_0_49, g45_1_51) => (i_variableOf x_52.lit).bind fun x74 => ((if (x74 == variable_) then (some (g45_0_49, max 0 (i64 (c.bound - x_52.coef)))) else ((app g45_0_49 ([x_52])).bind fun x92 => some (x92, g45_1_51))) : Option ((List Term) × Int)).bind fun (g45_0_82, g45_1_84) => some (.cont (g45_0_82, g45_1_84))
def i_WeakenConstraint (c : Con) (variable_ : Int) : Option (Con × Bool) :=
  (i_ConstraintValid c).bind fun x14 => (if (!x14) then some true else ((i_within variable_ 1 12).bind fun x21 => some (!x21))).bind fun b23 => if b23 then (some (({ terms := [], bound := 0 } : Con), false)) else (((rangeL (i_WeakenConstraint_b1 c variable_) c.terms 0 ([], c.bound)) : Option (Jn ((List Term) × Int) (Con × Bool))).bind fun j => match j with | .nx (g45_0_49, g45_1_51) => (some (({ terms := g45_0_49, bound := g45_1_51 } : Con), true)) | .out t => some t)
def i_LiteralAxiom (lit : Int) : Option (Con × Bool) :=
  (i_isLiteral lit).bind fun x10 => if (!x10) then (some (({ terms := [], bound := 0 } : Con), false)) else (some (({ terms := [({ coef := 1, lit := lit } : Term)], bound := 0 } : Con), true))
def slices_Clone_int (s : List Int) : Option (List Int) :=
  (app ([]) s).bind fun x7 => some x7
def i_under (l : Int) (p : List Int) : Option (Int) :=
  if decide (l < 0) then ((idx p (i64 ((i64 (-l)) - 1))).bind fun x2 => some (i64 (-x2))) else ((idx p (i64 (l - 1))).bind fun x11 => some x11)
def i_Constraint_slack_b1 (p : List Int) (_i_5 : Nat) (x_7 : Term) : (Int) → Option (Lo (Int) (Int))
  | out_6 => (i_under x_7.lit p).bind fun x28 => ((if decide (x28 ≥ 0) then (some (i64 (out_6 + x_7.coef))) else (some out_6)) : Option (Int)).bind fun out_36 => some (.cont out_36)
def i_Constraint_slack (c : Con) (p : List Int) : Option (Int) :=
  ((rangeL (i_Constraint_slack_b1 p) c.terms 0 (i64 (-c.bound))) : Option (Jn (Int) (Int))).bind fun j => match j with | .nx out_6 => (some out_6) | .out t => some t
def i_Constraint_implied_b1 (p : List Int) (x10 : Int) (_i_18 : Nat) (x_21 : Term) : (List Int) → Option (Lo (List Int) (List Int))
  | out_19 => (i_under x_21.lit p).bind fun x43 => ((if ((x43 == 0) && (decide (x_21.coef > x10))) then ((app out_19 ([x_21.lit])).bind fun x60 => some x60) else (some out_19)) : Option (List Int)).bind fun out_53 => some (.cont out_53)
def i_Constraint_implied (c : Con) (p : List Int) : Option (List Int) :=
  (i_Constraint_slack c p).bind fun x10 => ((rangeL (i_Constraint_implied_b1 p x10) c.terms 0 ([])) : Option (Jn (List Int) (List Int))).bind fun j => match j with | .nx out_19 => (some out_19) | .out t => some t
def i_propagate_b3 (_i_73 : Nat) (x_76 : Int) : ((List Int) × Bool) → Option (Lo ((List Int) × Bool) (Lo ((List Int) × Bool) (Lo ((List Int) × Bool) ((List Int) × Int))))
  | (out_74, made_75) => ((if decide (x_76 > 0) then ((idx out_74 (i64 (x_76 - 1))).bind fun x89 => some (out_74.set (Int.toNat (i64 (x_76 - 1))) 1)) else ((idx out_74 (i64 ((i64 (-x_76)) - 1))).bind fun x96 => some (out_74.set (Int.toNat (i64 ((i64 (-x_76)) - 1))) (-1)))) : Option (List Int)).bind fun out_86 => some (.cont (out_86, true))
def i_propagate_b2 (i_21 : Nat) (x_24 : Con) : ((List Int) × Bool) → Option (Lo ((List Int) × Bool) (Lo ((List Int) × Bool) ((List Int) × Int)))
  | (out_22, made_23) => (i_Constraint_slack x_24 out_22).bind fun x46 => if decide (x46 < 0) then (some (.out (.out (out_22, (i_21 : Int))))) else ((i_Constraint_implied x_24 out_22).bind fun x62 => ((rangeL i_propagate_b3 x62 0 (out_22, made_23)) : Option (Jn ((List Int) × Bool) (Lo ((List Int) × Bool) (Lo ((List Int) × Bool) ((List Int) × Int))))).bind fun j => match j with | .nx (out_74, made_75) => (some (.cont (out_74, made_75))) | .out t => some t)
def i_propagate_b1 (list : List Con) : ((List Int) × Bool) → Option (Lo ((List Int) × Bool) ((List Int) × Int))
  | (out_17, made_18) => if made_18 then (((rangeL i_propagate_b2 list 0 (out_17, false)) : Option (Jn ((List Int) × Bool) (Lo ((List Int) × Bool) ((List Int) × Int)))).bind fun j => match j with | .nx (out_22, made_23) => (some (.cont (out_22, made_23))) | .out t => some t) else (some (.brk (out_17, made_18)))
def i_propagate (fu : Nat) (list : List Con) (p : List Int) : Option ((List Int) × Int) :=
  (slices_Clone_int p).bind fun x6 => ((whileL (i_propagate_b1 list) fu (x6, true)) : Option (Jn ((List Int) × Bool) ((List Int) × Int))).bind fun j => match j with | .nx (out_17, made_18) => (some (out_17, (-1))) | .out t => some t
def i_Constraint_total_b1 (_i_5 : Nat) (x_7 : Term) : (Int) → Option (Lo (Int) (Int))
  | sum_6 => some (.cont (i64 (sum_6 + x_7.coef)))
def i_Constraint_total (c : Con) : Option (Int) :=
  ((rangeL i_Constraint_total_b1 c.terms 0 0) : Option (Jn (Int) (Int))).bind fun j => match j with | .nx sum_6 => (some sum_6) | .out t => some t
def i_Constraint_negation_b1 (_i_38 : Nat) (x_41 : Term) : (List Term) → Option (Lo (List Term) (Con))
  | g36_0_39 => (app g36_0_39 ([({ coef := x_41.coef, lit := i64 (-x_41.lit) } : Term)])).bind fun x61 => some (.cont x61)
def i_Constraint_negation (c : Con) : Option (Con) :=
  (i_Constraint_total c).bind fun x14 => ((rangeL i_Constraint_negation_b1 c.terms 0 ([])) : Option (Jn (List Term) (Con))).bind fun j => match j with | .nx g36_0_39 => (some ({ terms := g36_0_39, bound := max 0 (i64 ((i64 (x14 - c.bound)) + 1)) } : Con)) | .out t => some t
def i_rup (fu : Nat) (list : List Con) (c : Con) : Option (Bool) :=
  (slices_Clone_implConstraint list).bind fun x5 => (i_Constraint_negation c).bind fun x13 => (app x5 ([x13])).bind fun x19 => (mkN 12 0).bind fun x25 => (i_propagate fu x19 x25).bind fun x36 => some (decide (x36.2 ≥ 0))
def i_running_left_b1 (r_ : Db) (i_1 : Nat) (x_4 : Con) : (List Con) → Option (Lo (List Con) (List Con))
  | out_2 => (idx r_.gone (i_1 : Int)).bind fun x21 => ((if (!x21) then ((app out_2 ([x_4])).bind fun x37 => some x37) else (some out_2)) : Option (List Con)).bind fun out_30 => some (.cont out_30)
def i_running_left (r_ : Db) : Option (List Con) :=
  ((rangeL (i_running_left_b1 r_) r_.list 0 ([])) : Option (Jn (List Con) (List Con))).bind fun j => match j with | .nx out_2 => (some out_2) | .out t => some t
def i_running_step (fu : Nat) (r_ : Db) (s : Step) : Option (Bool × (List Con) × (List Bool)) :=
  (i_refers s.kind).bind fun x10 => (i_Step_shaped s).bind fun x23 => (if (!x23) then some true else ((if decide (x10.1 > 0) then ((i_running_has r_ s.a).bind fun x25 => some (!x25)) else some false).bind fun b27 => some b27)).bind fun b28 => (if b28 then some true else ((if decide (x10.1 > 1) then ((i_running_has r_ s.b).bind fun x29 => some (!x29)) else some false).bind fun b31 => some b31)).bind fun b32 => if b32 then (some (false, r_.list, r_.gone)) else (if (s.kind == 8) then ((idx r_.gone s.a).bind fun x60 => some (true, r_.list, (r_.gone.set (Int.toNat s.a) true))) else (((if (s.kind == 1) then ((idx r_.list s.a).bind fun x76 => (idx r_.list s.b).bind fun x81 => (i_AddConstraints x76 x81).bind fun x84 => some (x84.2, x84.1.terms, x84.1.bound)) else (((if (s.kind == 2) then ((idx r_.list s.a).bind fun x120 => (i_MultiplyConstraint x120 s.b).bind fun x125 => some (x125.2, x125.1.terms, x125.1.bound)) else (((if (s.kind == 3) then ((idx r_.list s.a).bind fun x156 => (i_DivideConstraint x156 s.b).bind fun x161 => some (x161.2, x161.1.terms, x161.1.bound)) else (((if (s.kind == 4) then ((idx r_.list s.a).bind fun x192 => (i_SaturateConstraint x192).bind fun x202 => some (x202.2, x202.1.terms, x202.1.bound)) else (((if (s.kind == 5) then ((idx r_.list s.a).bind fun x248 => (i_WeakenConstraint x248 s.b).bind fun x258 => some (x258.2, x258.1.terms, x258.1.bound)) else (((if (s.kind == 6) then ((i_LiteralAxiom s.a).bind fun x309 => some (x309.2, x309.1.terms, x309.1.bound)) else (((if (s.kind == 7) then ((i_ConstraintValid s.given).bind fun x337 => (if x337 then ((i_running_left r_).bind fun x339 => (i_rup fu x339 s.given).bind fun x348 => some x348) else some false).bind fun b350 => some (b350, s.given.terms, s.given.bound)) else (some (false, [], 0))) : Option (Bool × (List Term) × Int)).bind fun (ok_324, g57_0_325, g57_1_327) => some (ok_324, g57_0_325, g57_1_327))) : Option (Bool × (List Term) × Int)).bind fun (ok_296, g57_0_297, g57_1_299) => some (ok_296, g57_0_297, g57_1_299))) : Option (Bool × (List Term) × Int)).bind fun (ok_240, g57_0_241, g57_1_243) => some (ok_240, g57_0_241, g57_1_243))) : Option (Bool × (List Term) × Int)).bind fun (ok_184, g57_0_185, g57_1_187) => some (ok_184, g57_0_185, g57_1_187))) : Option (Bool × (List Term) × Int)).bind fun (ok_148, g57_0_149, g57_1_151) => some (ok_148, g57_0_149, g57_1_151))) : Option (Bool × (List Term) × Int)).bind fun (ok_112, g57_0_113, g57_1_115) => some (ok_112, g57_0_113, g57_1_115))) : Option (Bool × (List Term) × Int)).bind fun (ok_68, g57_0_69, g57_1_71) => (app r_.list ([({ terms := g57_0_69, bound := g57_1_71 } : Con)])).bind fun x409 => (app r_.gone ([false])).bind fun x416 => some (ok_68, x409, x416)))
def i_run_b1 (fu : Nat) (list : List Con) (i_42 : Nat) (x_49 : Step) : ((List Con) × (List Bool)) → Option (Lo ((List Con) × (List Bool)) ((Option Db) × Int))
  | (g40_0_43, g40_1_45) => (i_running_step fu ({ list := g40_0_43, gone := g40_1_45 } : Db) x_49).bind fun x65 => if (!x65.1) then (some (.out (none, (i_42 : Int)))) else (some (.cont (x65.2.1, x65.2.2)))
def i_run (fu : Nat) (list : List Con) (steps : List Step) : Option ((Option Db) × Int) :=
  (i_ProblemValid list).bind fun x6 => if ((!x6) || (decide ((steps.length : Int) > 1000))) then (some (none, 0)) else ((slices_Clone_implConstraint list).bind fun x18 => (mkN (list.length : Int) false).bind fun x21 => ((rangeL (i_run_b1 fu list) steps 0 (x18, x21)) : Option (Jn ((List Con) × (List Bool)) ((Option Db) × Int))).bind fun j => match j with | .nx (g40_0_43, g40_1_45) => (some ((some ({ list := g40_0_43, gone := g40_1_45 } : Db)), (-1))) | .out t => some t)
def i_ConstraintFalse (c : Con) : Option (Bool) :=
  (i_ConstraintValid c).bind fun x10 => (if x10 then ((i_Constraint_total c).bind fun x17 => some (decide (c.bound > x17))) else some false).bind fun b19 => some b19
def i_refuting_b1 (x9 : Db) (i_15 : Nat) (x_16 : Con) : (Unit) → Option (Lo (Unit) ((Option Db) × Int))
  | () => (idx x9.gone (i_15 : Int)).bind fun x32 => (if (!x32) then ((i_ConstraintFalse x_16).bind fun x42 => some x42) else some false).bind fun b44 => if b44 then (some (.out ((some x9), (i_15 : Int)))) else (some (.cont ()))
def i_refuting (fu : Nat) (list : List Con) (steps : List Step) : Option ((Option Db) × Int) :=
  (i_run fu list steps).bind fun x1 => if decide (x1.2 ≥ 0) then (some (none, (-1))) else (x1.1.bind fun x9 => ((rangeL (i_refuting_b1 x9) x9.list 0 ()) : Option (Jn (Unit) ((Option Db) × Int))).bind fun j => match j with | .nx _ => (some ((some x9), (-1))) | .out t => some t)
def i_needed_b1 (_i_8 : Nat) (x_11 : Step) : (List Step) → Option (Lo (List Step) ((List Bool) × Bool))
  | by__9 => ((if (x_11.kind != 8) then ((app by__9 ([x_11])).bind fun x35 => some x35) else (some by__9)) : Option (List Step)).bind fun by__28 => some (.cont by__28)
def i_needed_b3 (i_114 : Nat) : (List Bool) → Option (Lo (List Bool) (List Bool))
  | out_115 => (idx out_115 (i_114 : Int)).bind fun x119 => some (.cont (out_115.set (Int.toNat (i_114 : Int)) true))
def i_needed_b2 (list : List Con) (by__9 : List Step) : ((List Bool) × Int) → Option (Lo ((List Bool) × Int) ((List Bool) × Bool))
  | (out_67, i_68) => if decide (i_68 ≥ (list.length : Int)) then ((idx by__9 (i64 (i_68 - (list.length : Int)))).bind fun x71 => (i_refers x71.kind).bind fun x91 => (idx out_67 i_68).bind fun x99 => ((if (!x99) then (some out_67) else (((if (x71.kind == 7) then ((cntF 0 i_68).bind fun k117 => ((countL i_needed_b3 k117 0 out_67) : Option (Jn (List Bool) (List Bool))).bind fun j => match j with | .nx out_115 => (some out_115) | .out t => some t) else (((if decide (x91.1 > 0) then ((idx out_67 x71.a).bind fun x129 => ((if decide (x91.1 > 1) then ((idx (out_67.set (Int.toNat x71.a) true) x71.b).bind fun x135 => some ((out_67.set (Int.toNat x71.a) true).set (Int.toNat x71.b) true)) else (some (out_67.set (Int.toNat x71.a) true))) : Option (List Bool)).bind fun out_132 => some out_132) else (some out_67)) : Option (List Bool)).bind fun out_126 => some out_126)) : Option (List Bool)).bind fun out_111 => some out_111)) : Option (List Bool)).bind fun out_108 => some (.cont (out_108, i64 (i_68 - 1)))) else (some (.brk (out_67, i_68)))
def i_needed (fu : Nat) (list : List Con) (steps : List Step) : Option ((List Bool) × Bool) :=
  (i_refuting fu list steps).bind fun x1 => if decide (x1.2 < 0) then (some ([], false)) else (((rangeL i_needed_b1 steps 0 ([])) : Option (Jn (List Step) ((List Bool) × Bool))).bind fun j => match j with | .nx by__9 => (x1.1.bind fun x46 => (mkN (x46.list.length : Int) false).bind fun x49 => (idx x49 x1.2).bind fun x59 => ((whileL (i_needed_b2 list by__9) fu ((x49.set (Int.toNat x1.2) true), i64 ((x46.list.length : Int) - 1))) : Option (Jn ((List Bool) × Int) ((List Bool) × Bool))).bind fun j => match j with | .nx (out_67, i_68) => (some (out_67, true)) | .out t => some t) | .out t => some t)
def i_TrimProof_b1 (i_18 : Nat) (_x_21 : Con) : (List Int) → Option (Lo (List Int) ((List Step) × Bool))
  | place_19 => (app place_19 ([(i_18 : Int)])).bind fun x27 => some (.cont x27)
def i_TrimProof_b2 (list : List Con) (x6 : (List Bool) × Bool) (_i_37 : Nat) (x_42 : Step) : ((List Int) × (List Step)) → Option (Lo ((List Int) × (List Step)) ((List Step) × Bool))
  | (place_38, out_40) => ((if (x_42.kind == 8) then (some (.nx (place_38, out_40))) else ((idx x6.1 (place_38.length : Int)).bind fun x65 => (app place_38 ([i64 ((list.length : Int) + (out_40.length : Int))])).bind fun x77 => if (!x65) then (some (.nx (x77, out_40))) else ((i_refers x_42.kind).bind fun x93 => ((if decide (x93.1 > 0) then ((idx x77 x_42.a).bind fun x104 => some x104) else (some x_42.a)) : Option (Int)).bind fun g61_1_101 => ((if decide (x93.1 > 1) then ((idx x77 x_42.b).bind fun x118 => some x118) else (some x_42.b)) : Option (Int)).bind fun g61_2_115 => (i_Constraint_own x_42.given).bind fun x134 => (app out_40 ([({ kind := x_42.kind, a := g61_1_101, b := g61_2_115, given := x134 } : Step)])).bind fun x149 => some (.nx (x77, x149))))) : Option (Jn ((List Int) × (List Step)) (Lo ((List Int) × (List Step)) ((List Step) × Bool)))).bind fun j => match j with | .nx (place_45, out_47) => (some (.cont (place_45, out_47))) | .out t => some t
def i_TrimProof (fu : Nat) (list : List Con) (steps : List Step) : Option ((List Step) × Bool) :=
  (i_needed fu list steps).bind fun x6 => if (!x6.2) then (some ([], false)) else (((rangeL i_TrimProof_b1 list 0 ([])) : Option (Jn (List Int) ((List Step) × Bool))).bind fun j => match j with | .nx place_19 => (((rangeL (i_TrimProof_b2 list x6) steps 0 (place_19, [])) : Option (Jn ((List Int) × (List Step)) ((List Step) × Bool))).bind fun j => match j with | .nx (place_38, out_40) => (some (out_40, true)) | .out t => some t) | .out t => some t)
def l_eqTerm (a : Term) (b : Term) : Option (Bool) :=
  if (a.coef != b.coef) then (some false) else (if (a.lit != b.lit) then (some false) else (some true))
def l_eqTermS_b1 (b : List Term) (i_2 : Nat) (x_5 : Term) : (Unit) → Option (Lo (Unit) (Bool))
  | () => (idx b (i_2 : Int)).bind fun x11 => (l_eqTerm x_5 x11).bind fun x21 => if (!x21) then (some (.out false)) else (some (.cont ()))
def l_eqTermS (a : List Term) (b : List Term) : Option (Bool) :=
  if ((a.length : Int) != (b.length : Int)) then (some false) else (((rangeL (l_eqTermS_b1 b) a 0 ()) : Option (Jn (Unit) (Bool))).bind fun j => match j with | .nx _ => (some true) | .out t => some t)
def l_eqConstraint (a : Con) (b : Con) : Option (Bool) :=
  (l_eqTermS a.terms b.terms).bind fun x14 => if (!x14) then (some false) else (if (a.bound != b.bound) then (some false) else (some true))
def l_eqStep (a : Step) (b : Step) : Option (Bool) :=
  if (a.kind != b.kind) then (some false) else (if (a.a != b.a) then (some false) else (if (a.b != b.b) then (some false) else ((l_eqConstraint a.given b.given).bind fun x17 => if (!x17) then (some false) else (some true))))
def l_eqStepS_b1 (b : List Step) (i_2 : Nat) (x_5 : Step) : (Unit) → Option (Lo (Unit) (Bool))
  | () => (idx b (i_2 : Int)).bind fun x11 => (l_eqStep x_5 x11).bind fun x21 => if (!x21) then (some (.out false)) else (some (.cont ()))
def l_eqStepS (a : List Step) (b : List Step) : Option (Bool) :=
  if ((a.length : Int) != (b.length : Int)) then (some false) else (((rangeL (l_eqStepS_b1 b) a 0 ()) : Option (Jn (Unit) (Bool))).bind fun j => match j with | .nx _ => (some true) | .out t => some t)
def l_eqConstraintS_b1 (b : List Con) (i_2 : Nat) (x_5 : Con) : (Unit) → Option (Lo (Unit) (Bool))
  | () => (idx b (i_2 : Int)).bind fun x11 => (l_eqConstraint x_5 x11).bind fun x21 => if (!x21) then (some (.out false)) else (some (.cont ()))
def l_eqConstraintS (a : List Con) (b : List Con) : Option (Bool) :=
  if ((a.length : Int) != (b.length : Int)) then (some false) else (((rangeL (l_eqConstraintS_b1 b) a 0 ()) : Option (Jn (Unit) (Bool))).bind fun j => match j with | .nx _ => (some true) | .out t => some t)
def l_markTermS_b1 : ((List Term) × Int × Int) → Option (Lo ((List Term) × Int × Int) (Int × (List Term)))
  | (a_5, k_6, i_7) => if decide (i_7 < (a_5.length : Int)) then ((idx a_5 i_7).bind fun x10 => (idx (a_5.set (Int.toNat i_7) ({ x10 with coef := k_6 })) i_7).bind fun x17 => some (.cont (((a_5.set (Int.toNat i_7) ({ x10 with coef := k_6 })).set (Int.toNat i_7) ({ x17 with lit := i64 (k_6 + 1) })), i64 ((i64 (k_6 + 1)) + 1), i64 (i_7 + 1)))) else (some (.brk (a_5, k_6, i_7)))
def l_markTermS (fu : Nat) (a : List Term) (k : Int) : Option (Int × (List Term)) :=
  ((whileL l_markTermS_b1 fu (a, k, 0)) : Option (Jn ((List Term) × Int × Int) (Int × (List Term)))).bind fun j => match j with | .nx (a_5, k_6, i_7) => (some (k_6, a_5)) | .out t => some t
def l_markConstraintS_b1 (fu : Nat) : ((List Con) × Int × Int) → Option (Lo ((List Con) × Int × Int) (Int × (List Con)))
  | (a_5, k_6, i_7) => if decide (i_7 < (a_5.length : Int)) then ((idx a_5 i_7).bind fun x10 => (l_markTermS fu x10.terms k_6).bind fun x20 => (idx (a_5.set (Int.toNat i_7) ({ terms := x20.2, bound := x10.bound } : Con)) i_7).bind fun x32 => some (.cont (((a_5.set (Int.toNat i_7) ({ terms := x20.2, bound := x10.bound } : Con)).set (Int.toNat i_7) ({ x32 with bound := x20.1 })), i64 (x20.1 + 1), i64 (i_7 + 1)))) else (some (.brk (a_5, k_6, i_7)))
def l_markConstraintS (fu : Nat) (a : List Con) (k : Int) : Option (Int × (List Con)) :=
  ((whileL (l_markConstraintS_b1 fu) fu (a, k, 0)) : Option (Jn ((List Con) × Int × Int) (Int × (List Con)))).bind fun j => match j with | .nx (a_5, k_6, i_7) => (some (k_6, a_5)) | .out t => some t
def l_markStepS_b1 (fu : Nat) (a : List Step) : ((List Step) × Int × Int) → Option (Lo ((List Step) × Int × Int) (Int × (List Step)))
  | (a_5, k_6, i_7) => if decide (i_7 < (a_5.length : Int)) then ((idx a_5 i_7).bind fun x10 => (idx (a_5.set (Int.toNat i_7) ({ x10 with kind := k_6 })) i_7).bind fun x17 => (idx ((a_5.set (Int.toNat i_7) ({ x10 with kind := k_6 })).set (Int.toNat i_7) ({ x17 with a := i64 (k_6 + 1) })) i_7).bind fun x20 => (idx (((a_5.set (Int.toNat i_7) ({ x10 with kind := k_6 })).set (Int.toNat i_7) ({ x17 with a := i64 (k_6 + 1) })).set (Int.toNat i_7) ({ x20 with b := i64 ((i64 (k_6 + 1)) + 1) })) i_7).bind fun x23 => (l_markTermS fu x23.given.terms (i64 ((i64 ((i64 (k_6 + 1)) + 1)) + 1))).bind fun x31 => (idx ((((a_5.set (Int.toNat i_7) ({ x10 with kind := k_6 })).set (Int.toNat i_7) ({ x17 with a := i64 (k_6 + 1) })).set (Int.toNat i_7) ({ x20 with b := i64 ((i64 (k_6 + 1)) + 1) })).set (Int.toNat i_7) ({ kind := x23.kind, a := x23.a, b := x23.b, given := ({ terms := x31.2, bound := x23.given.bound } : Con) } : Step)) i_7).bind fun x41 => some (.cont ((((((a_5.set (Int.toNat i_7) ({ x10 with kind := k_6 })).set (Int.toNat i_7) ({ x17 with a := i64 (k_6 + 1) })).set (Int.toNat i_7) ({ x20 with b := i64 ((i64 (k_6 + 1)) + 1) })).set (Int.toNat i_7) ({ kind := x23.kind, a := x23.a, b := x23.b, given := ({ terms := x31.2, bound := x23.given.bound } : Con) } : Step)).set (Int.toNat i_7) ({ x41 with given := { x41.given with bound := x31.1 } })), i64 (x31.1 + 1), i64 (i_7 + 1)))) else (some (.brk (a_5, k_6, i_7)))
def l_markStepS (fu : Nat) (a : List Step) (k : Int) : Option (Int × (List Step)) :=
  ((whileL (l_markStepS_b1 fu a) fu (a, k, 0)) : Option (Jn ((List Step) × Int × Int) (Int × (List Step)))).bind fun j => match j with | .nx (a_5, k_6, i_7) => (some (k_6, a_5)) | .out t => some t
def l_heldTermS_b1 (_i_1 : Nat) (x_3 : Term) : (Int) → Option (Lo (Int) (Int))
  | k_2 => if (x_3.coef != k_2) then (some (.out (-1))) else (if (x_3.lit != (i64 (k_2 + 1))) then (some (.out (-1))) else (some (.cont (i64 ((i64 (k_2 + 1)) + 1)))))
def l_heldTermS (a : List Term) (k : Int) : Option (Int) :=
  ((rangeL l_heldTermS_b1 a 0 k) : Option (Jn (Int) (Int))).bind fun j => match j with | .nx k_2 => (some k_2) | .out t => some t
def l_heldStepS_b1 (a : List Step) (_i_1 : Nat) (x_3 : Step) : (Int) → Option (Lo (Int) (Int))
  | k_2 => if (x_3.kind != k_2) then (some (.out (-1))) else (if (x_3.a != (i64 (k_2 + 1))) then (some (.out (-1))) else (if (x_3.b != (i64 ((i64 (k_2 + 1)) + 1))) then (some (.out (-1))) else ((l_heldTermS x_3.given.terms (i64 ((i64 ((i64 (k_2 + 1)) + 1)) + 1))).bind fun x41 => if decide (x41 < 0) then (some (.out (-1))) else (if (x_3.given.bound != x41) then (some (.out (-1))) else (some (.cont (i64 (x41 + 1))))))))
def l_heldStepS (a : List Step) (k : Int) : Option (Int) :=
  ((rangeL (l_heldStepS_b1 a) a 0 k) : Option (Jn (Int) (Int))).bind fun j => match j with | .nx k_2 => (some k_2) | .out t => some t
def l_FnExactTrimProof (fu : Nat) (aList : List Con) (aSteps : List Step) : Option (Bool) :=
  (l_szConstraintS aList 1048576).bind fun x6 => if decide (x6 < 0) then (some true) else ((l_szStepS aSteps x6).bind fun x20 => if decide (x20 < 0) then (some true) else ((l_toConstraintS aList).bind fun x34 => (l_toStepS aSteps).bind fun x42 => (s_TrimProof fu x34 x42).bind fun x52 => (l_toConstraintS aList).bind fun x83 => (l_toStepS aSteps).bind fun x98 => (i_TrimProof fu x83 x98).bind fun x115 => (l_eqStepS x115.1 x52.1).bind fun x134 => if ((!x134) || (x115.2 != x52.2)) then (some false) else ((l_toConstraintS aList).bind fun x152 => (l_eqConstraintS x83 x152).bind fun x162 => if (!x162) then (some false) else ((l_toStepS aSteps).bind fun x185 => (l_eqStepS x98 x185).bind fun x195 => if (!x195) then (some false) else ((l_markConstraintS fu x83 1).bind fun x218 => (l_markStepS fu x98 x218.1).bind fun x231 => (if decide (x231.1 < 0) then some true else ((l_eqStepS x115.1 x52.1).bind fun x246 => some (!x246))).bind fun b248 => if (b248 || (x115.2 != x52.2)) then (some false) else ((l_markStepS fu x115.1 1).bind fun x267 => (l_heldStepS x267.2 1).bind fun x281 => if decide (x281 < 0) then (some false) else (if (x281 != x267.1) then (some false) else ((l_toConstraintS aList).bind fun x297 => (l_toStepS aSteps).bind fun x305 => (i_TrimProof fu x297 x305).bind fun x315 => (l_eqStepS x315.1 x52.1).bind fun x348 => if ((!x348) || (x315.2 != x52.2)) then (some false) else ((l_heldStepS x267.2 1).bind fun x367 => if decide (x367 < 0) then (some false) else (if (x367 != x267.1) then (some false) else (some true)))))))))))
end Go.L

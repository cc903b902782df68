/- Part of a proof by program: D1. -/
import Derived.Test.YtbjllamkfmejlaaGreatG12
namespace Go.L
open Go Go.E
set_option linter.unusedVariables false
def og (code:List UInt8):Option (Rd):=
 ((if decide ((code.length:Int) > 2000) then ((sl code 0 2000).bind fun x5=>some x5) else (some code)):Option (List UInt8)).bind fun code_1=>some ({ b:=code_1,p:=0 }:Rd)
def fL (r_:Rd) (n_:Int):Option (Int × Int):=
 if ((decide (n_<1)) || ((r_.b.length:Int) == 0)) then (some (0,i64 (r_.p+1))) else (if decide ((i64 ((i64 (r_.p+1)) - 1))<(r_.b.length:Int)) then ((idx r_.b (i64 ((i64 (r_.p+1)) - 1))).bind fun x7=>(if n_=0 then none else some ()).bind fun _=>some (Int.tmod (i64 (x7.toNat:Int)) n_,i64 (r_.p+1))) else ((if (r_.b.length:Int)=0 then none else some ()).bind fun _=>(idx r_.b (Int.tmod (i64 ((i64 (r_.p+1)) - 1)) (r_.b.length:Int))).bind fun x18=>(if (r_.b.length:Int)=0 then none else some ()).bind fun _=>(idx r_.b (Int.tmod (i64 ((i64 ((i64 ((i64 (r_.p+1)) - 1)) * 7))+3)) (r_.b.length:Int))).bind fun x24=>(if (r_.b.length:Int)=0 then none else some ()).bind fun _=>(if n_=0 then none else some ()).bind fun _=>some (Int.tmod (zW .i64 (i64 ((i64 ((i64 ((i64 ((i64 (x18.toNat:Int)) * 131))+(i64 ((i64 (x24.toNat:Int)) * 1117))))+(i64 ((i64 ((i64 (r_.p+1)) - 1)) * 29))))+(i64 ((i64 (Int.tdiv (i64 ((i64 (r_.p+1)) - 1)) (r_.b.length:Int))) * 53)))) (i64 (Int.tdiv (i64 ((i64 ((i64 ((i64 ((i64 (x18.toNat:Int)) * 131))+(i64 ((i64 (x24.toNat:Int)) * 1117))))+(i64 ((i64 ((i64 (r_.p+1)) - 1)) * 29))))+(i64 ((i64 (Int.tdiv (i64 ((i64 (r_.p+1)) - 1)) (r_.b.length:Int))) * 53)))) 64))) n_,i64 (r_.p+1))))
def dy (r_:Rd) (list:List Int):Option (Int × Int):=
 (fL r_ (list.length:Int)).bind fun x6=>(idx list x6.1).bind fun x8=>some (x8,x6.2)
def qs (_i_103:Nat) (x_108:List Int):(List (List Int))→Option (Lo (List (List Int)) (Lo (List Rule) (Model)))
 | g101_4_104=>(app ([]) x_108).bind fun x118=>(app g101_4_104 ([x118])).bind fun x125=>some (.cont x125)
def pJ (_i_28:Nat) (x_33:Rule):(List Rule)→Option (Lo (List Rule) (Model))
 | g25_1_29=>(app ([]) x_33.vars).bind fun x53=>(app ([]) x_33.coefs).bind fun x60=>((aw qs x_33.rows 0 ([])):Option (Jn (List (List Int)) (Lo (List Rule) (Model)))).bind fun j=>match j with | .nx g101_4_104=>((app g25_1_29 ([({ kind:=x_33.kind,vars:=x53,coefs:=x60,bound:=x_33.bound,rows:=g101_4_104 }:Rule)])).bind fun x170=>some (.cont x170)) | .out t=>some t
def p8 (m:Model):Option (Model):=
 (app ([]) m.sizes).bind fun x12=>((aw pJ m.rules 0 ([])):Option (Jn (List Rule) (Model))).bind fun j=>match j with | .nx g25_1_29=>(some ({ sizes:=x12,rules:=g25_1_29 }:Model)) | .out t=>some t
def lE:(List Int)→Option (Lo (List Int) (Unit))
 | g29_0_105=>if decide ((g29_0_105.length:Int)≤5) then ((app g29_0_105 ([0])).bind fun x112=>some (.cont x112)) else (some (.brk g29_0_105))
noncomputable def mT (fu:Nat) (r_:Rd) (m:Model):Option (Unit):=
 (p8 m).bind fun x14=>(fL r_ 50).bind fun x37=>if (x37.1 == 0) then (if decide ((x14.sizes.length:Int) > 0) then ((dy ({ b:=r_.b,p:=x37.2 }:Rd) ([(-1),4,3,9223372036854775807])).bind fun x56=>(idx x14.sizes 0).bind fun x58=>fO (fD ({ sizes:=(x14.sizes.set (Int.toNat 0) x56.1),rules:=x14.rules }:Model)∧nK r_.p x56.2)) else (fO (fD x14∧nK r_.p x37.2))) else (if (x37.1 == 1) then (((bx lE fu x14.sizes):Option (Jn (List Int) (Unit))).bind fun j=>match j with | .nx g29_0_105=>(fO (fD ({ sizes:=g29_0_105,rules:=x14.rules }:Model)∧nK r_.p x37.2)) | .out t=>some t) else (if (x37.1 == 2) then (if decide ((x14.rules.length:Int) > 0) then ((dy ({ b:=r_.b,p:=x37.2 }:Rd) ([0,5,1,2,3])).bind fun x143=>(idx x14.rules 0).bind fun x145=>fO (fD ({ sizes:=x14.sizes,rules:=(x14.rules.set (Int.toNat 0) ({ x145 with kind:=x143.1 })) }:Model)∧nK r_.p x143.2)) else (fO (fD x14∧nK r_.p x37.2))) else (if (x37.1 == 3) then ((if decide ((x14.rules.length:Int) > 0) then ((idx x14.rules (i64 ((x14.rules.length:Int) - 1))).bind fun x191=>some (decide ((x191.vars.length:Int) > 0))) else some false).bind fun b195=>if b195 then ((idx x14.rules (i64 ((x14.rules.length:Int) - 1))).bind fun x202=>(dy ({ b:=r_.b,p:=x37.2 }:Rd) ([(-1),5,1,0])).bind fun x218=>(idx x202.vars 0).bind fun x220=>fO (fD ({ sizes:=x14.sizes,rules:=(x14.rules.set (Int.toNat (i64 ((x14.rules.length:Int) - 1))) ({ kind:=x202.kind,vars:=(x202.vars.set (Int.toNat 0) x218.1),coefs:=x202.coefs,bound:=x202.bound,rows:=x202.rows }:Rule)) }:Model)∧nK r_.p x218.2)) else (fO (fD x14∧nK r_.p x37.2))) else (if (x37.1 == 4) then (if decide ((x14.rules.length:Int) > 0) then ((dy ({ b:=r_.b,p:=x37.2 }:Rd) ([1001,(-1001),1000])).bind fun x289=>(idx x14.rules 0).bind fun x291=>fO (fD ({ sizes:=x14.sizes,rules:=(x14.rules.set (Int.toNat 0) ({ x291 with bound:=x289.1 })) }:Model)∧nK r_.p x289.2)) else (fO (fD x14∧nK r_.p x37.2))) else (if (x37.1 == 5) then (fO (fD ({ sizes:=[],rules:=[] }:Model)∧nK r_.p x37.2)) else (fO (fD x14∧nK r_.p x37.2)))))))
def nA (r_:Rd) (i_11:Nat) (_x_15:Int):((List Int) × Int)→Option (Lo ((List Int) × Int) ((List Int) × Int))
 | (out_12,g_0_1_14)=>(fL ({ b:=r_.b,p:=g_0_1_14 }:Rd) 3).bind fun x22=>((if decide (x22.1 > 0) then ((app out_12 ([(i_11:Int)])).bind fun x37=>some x37) else (some out_12)):Option (List Int)).bind fun out_30=>some (.cont (out_30,x22.2))
def nk (m:Model) (least:Int):((List Int) × Int)→Option (Lo ((List Int) × Int) ((List Int) × Int))
 | (out_50,v_52)=>if ((decide ((out_50.length:Int)<least)) && (decide (v_52<(m.sizes.length:Int)))) then ((if ((out_50.length:Int) == 0) then some true else ((idx out_50 (i64 ((out_50.length:Int) - 1))).bind fun x57=>some (decide (x57<v_52)))).bind fun b62=>((if b62 then ((app out_50 ([v_52])).bind fun x76=>some x76) else (some out_50)):Option (List Int)).bind fun out_69=>some (.cont (out_69,i64 (v_52+1)))) else (some (.brk (out_50,v_52)))
def nC (i_98:Nat):(List Int)→Option (Lo (List Int) (List Int))
 | out_99=>(app out_99 ([(i_98:Int)])).bind fun x107=>some (.cont x107)
def oe (fu:Nat) (r_:Rd) (m:Model) (least:Int):Option ((List Int) × Int):=
 ((aw (nA r_) m.sizes 0 ([],r_.p)):Option (Jn ((List Int) × Int) ((List Int) × Int))).bind fun j=>match j with | .nx (out_12,g_0_1_14)=>(((bx (nk m least) fu (out_12,0)):Option (Jn ((List Int) × Int) ((List Int) × Int))).bind fun j=>match j with | .nx (out_50,v_52)=>(((if ((decide ((out_50.length:Int)<least)) || ((out_50.length:Int) == 0)) then ((jL 0 least).bind fun k102=>((cI nC k102 0 ([])):Option (Jn (List Int) (List Int))).bind fun j=>match j with | .nx out_99=>(some out_99) | .out t=>some t) else (some out_50)):Option (List Int)).bind fun out_88=>(if decide ((out_88.length:Int) > 1) then ((fL ({ b:=r_.b,p:=g_0_1_14 }:Rd) 3).bind fun x122=>some ((x122.1 == 0),x122.2)) else some (false,g_0_1_14)).bind fun b124=>((if b124.1 then ((idx out_88 0).bind fun x136=>(idx out_88 1).bind fun x145=>(idx (out_88.set (Int.toNat 0) x145) 1).bind fun x152=>some ((out_88.set (Int.toNat 0) x145).set (Int.toNat 1) x136)) else (some out_88)):Option (List Int)).bind fun out_133=>some (out_133,b124.2)) | .out t=>some t) | .out t=>some t
def nh (r_:Rd) (_i_65:Nat) (_x_71:Int):(Int × (List Int))→Option (Lo (Int × (List Int)) (Int × (List Int) × (List Int) × Int × (List (List Int))))
 | (g_0_1_66,g33_2_67)=>(dy ({ b:=r_.b,p:=g_0_1_66 }:Rd) ([1,(-1),2,1,(-2),3])).bind fun x83=>(app g33_2_67 ([x83.1])).bind fun x88=>some (.cont (x83.2,x88))
def nv (r_:Rd) (_i_192:Nat) (_x_196:Int):((List Int) × Int)→Option (Lo ((List Int) × Int) (Lo (Int × Int × (List (List Int))) (Int × (List Int) × (List (List Int)))))
 | (row_193,g_0_1_195)=>(fL ({ b:=r_.b,p:=g_0_1_195 }:Rd) 4).bind fun x203=>(app row_193 ([x203.1])).bind fun x208=>some (.cont (x208,x203.2))
def nm (r_:Rd) (x41:(List Int) × Int):(Int × Int × (List (List Int)))→Option (Lo (Int × Int × (List (List Int))) (Int × (List Int) × (List (List Int))))
 | (i_179,g_0_1_180,g33_4_181)=>if decide (i_179 > 0) then (((aw (nv r_) x41.1 0 ([],g_0_1_180)):Option (Jn ((List Int) × Int) (Lo (Int × Int × (List (List Int))) (Int × (List Int) × (List (List Int)))))).bind fun j=>match j with | .nx (row_193,g_0_1_195)=>((app g33_4_181 ([row_193])).bind fun x227=>some (.cont (i64 (i_179 - 1),g_0_1_195,x227))) | .out t=>some t) else (some (.brk (i_179,g_0_1_180,g33_4_181)))
def ql (fu:Nat) (r_:Rd) (m:Model):Option (Rule × Int):=
 (dy r_ ([1,2,3,4,1])).bind fun x18=>(oe fu ({ b:=r_.b,p:=x18.2 }:Rd) m 1).bind fun x41=>((if (x18.1 == 1) then (((aw (nh r_) x41.1 0 (x41.2,[])):Option (Jn (Int × (List Int)) (Int × (List Int) × (List Int) × Int × (List (List Int))))).bind fun j=>match j with | .nx (g_0_1_66,g33_2_67)=>((dy ({ b:=r_.b,p:=g_0_1_66 }:Rd) ([1,2,0,(-1),3,(-3),4])).bind fun x135=>some (x135.2,x41.1,g33_2_67,x135.1,[])) | .out t=>some t) else (((if (x18.1 == 3) then ((dy ({ b:=r_.b,p:=x41.2 }:Rd) ([3,4,2,6,0,8])).bind fun x166=>((bx (nm r_ x41) fu (x166.1,x166.2,[])):Option (Jn (Int × Int × (List (List Int))) (Int × (List Int) × (List (List Int))))).bind fun j=>match j with | .nx (i_179,g_0_1_180,g33_4_181)=>(some (g_0_1_180,x41.1,g33_4_181)) | .out t=>some t) else (((if (x18.1 == 4) then ((oe fu ({ b:=r_.b,p:=x41.2 }:Rd) m 2).bind fun x249=>(sl x249.1 0 2).bind fun x252=>some (x249.2,x252)) else (some (x41.2,x41.1))):Option (Int × (List Int))).bind fun (g_0_1_239,g33_1_240)=>some (g_0_1_239,g33_1_240,[]))):Option (Int × (List Int) × (List (List Int)))).bind fun (g_0_1_150,g33_1_151,g33_4_153)=>some (g_0_1_150,g33_1_151,[],0,g33_4_153))):Option (Int × (List Int) × (List Int) × Int × (List (List Int)))).bind fun (g_0_1_53,g33_1_54,g33_2_56,g33_3_58,g33_4_59)=>some (({ kind:=x18.1,vars:=g33_1_54,coefs:=g33_2_56,bound:=g33_3_58,rows:=g33_4_59 }:Rule),g_0_1_53)
def mj (r_:Rd):(Int × Int × (List Int))→Option (Lo (Int × Int × (List Int)) (Model × Int))
 | (i_33,g_0_1_34,g8_0_35)=>if decide (i_33 > 0) then ((dy ({ b:=r_.b,p:=g_0_1_34 }:Rd) ([2,1,3,2,0])).bind fun x51=>(app g8_0_35 ([x51.1])).bind fun x56=>some (.cont (i64 (i_33 - 1),x51.2,x56))) else (some (.brk (i_33,g_0_1_34,g8_0_35)))
def oO (_i_105:Nat) (x_107:Int):(Int)→Option (Lo (Int) (Lo (Int × (List Int)) (Model × Int)))
 | n_106=>some (.cont (i64 ((i64 (n_106+x_107))+1)))
def mm:(Int × (List Int))→Option (Lo (Int × (List Int)) (Model × Int))
 | (n_95,g8_0_96)=>if (n_95 == 0) then (((aw oO g8_0_96 0 n_95):Option (Jn (Int) (Lo (Int × (List Int)) (Model × Int)))).bind fun j=>match j with | .nx n_106=>(((if decide (n_106 > 12) then ((sl g8_0_96 0 (i64 ((g8_0_96.length:Int) - 1))).bind fun x122=>some (0,x122)) else (some (n_106,g8_0_96))):Option (Int × (List Int))).bind fun (n_117,g8_0_118)=>some (.cont (n_117,g8_0_118))) | .out t=>some t) else (some (.brk (n_95,g8_0_96)))
def mv (fu:Nat) (r_:Rd) (g8_0_96:List Int):(Int × Int × (List Rule))→Option (Lo (Int × Int × (List Rule)) (Model × Int))
 | (i_151,g_0_1_152,g8_1_153)=>if decide (i_151 > 0) then ((ql fu ({ b:=r_.b,p:=g_0_1_152 }:Rd) ({ sizes:=g8_0_96,rules:=g8_1_153 }:Model)).bind fun x166=>(app g8_1_153 ([x166.1])).bind fun x174=>some (.cont (i64 (i_151 - 1),x166.2,x174))) else (some (.brk (i_151,g_0_1_152,g8_1_153)))
def nZ (fu:Nat) (r_:Rd):Option (Model × Int):=
 (dy r_ ([3,2,4,3])).bind fun x20=>((bx (mj r_) fu (x20.1,x20.2,[])):Option (Jn (Int × Int × (List Int)) (Model × Int))).bind fun j=>match j with | .nx (i_33,g_0_1_34,g8_0_35)=>(((bx mm fu (0,g8_0_35)):Option (Jn (Int × (List Int)) (Model × Int))).bind fun j=>match j with | .nx (n_95,g8_0_96)=>((dy ({ b:=r_.b,p:=g_0_1_34 }:Rd) ([2,3,1,4,0])).bind fun x138=>((bx (mv fu r_ g8_0_96) fu (x138.1,x138.2,[])):Option (Jn (Int × Int × (List Rule)) (Model × Int))).bind fun j=>match j with | .nx (i_151,g_0_1_152,g8_1_153)=>(some (({ sizes:=g8_0_96,rules:=g8_1_153 }:Model),g_0_1_152)) | .out t=>some t) | .out t=>some t) | .out t=>some t
noncomputable def ie (fu:Nat) (code:List UInt8):Option (Unit):=
 (og code).bind fun x5=>(nZ fu x5).bind fun x8=>zG (mT fu ({ b:=x5.b,p:=x8.2 }:Rd) x8.1) (fun o:Model × Int=>fD o.1∧nK x8.2 o.2) fun x14=>fO (fD x14.1)
noncomputable def gK (fu:Nat) (code:List UInt8):Option (Unit):=
 zG (ie fu code) (fun o:Model=>fD o) fun x5=>fO (fD x5)
def cX (n_:Int) (low:Int) (high:Int):Option (Bool):=
 some ((decide (low≤n_)) && (decide (n_≤high)))
def dV (f_:(Rule→Option Bool)) (i_1:Nat) (x_2:Rule):(Unit)→Option (Lo (Unit) (Int))
 | ()=>(f_ x_2).bind fun x8=>if x8 then (some (.out (i_1:Int))) else (some (.cont ()))
def eK (s:List Rule) (f_:(Rule→Option Bool)):Option (Int):=
 ((aw (dV f_) s 0 ()):Option (Jn (Unit) (Int))).bind fun j=>match j with | .nx _=>(some (-1)) | .out t=>some t
def cm (s:List Rule) (f_:(Rule→Option Bool)):Option (Bool):=
 (eK s f_).bind fun x6=>some (decide (x6 ≥ 0))
def eE (v_:Int) (i_1:Nat) (x_2:Int):(Unit)→Option (Lo (Unit) (Int))
 | ()=>if (v_ == x_2) then (some (.out (i_1:Int))) else (some (.cont ()))
def iu (s:List Int) (v_:Int):Option (Int):=
 ((aw (eE v_) s 0 ()):Option (Jn (Unit) (Int))).bind fun j=>match j with | .nx _=>(some (-1)) | .out t=>some t
def cV (s:List Int) (v_:Int):Option (Bool):=
 (iu s v_).bind fun x6=>some (decide (x6 ≥ 0))
def fC (f_:(Int→Option Bool)) (i_1:Nat) (x_2:Int):(Unit)→Option (Lo (Unit) (Int))
 | ()=>(f_ x_2).bind fun x8=>if x8 then (some (.out (i_1:Int))) else (some (.cont ()))
def gV (s:List Int) (f_:(Int→Option Bool)):Option (Int):=
 ((aw (fC f_) s 0 ()):Option (Jn (Unit) (Int))).bind fun j=>match j with | .nx _=>(some (-1)) | .out t=>some t
def cE (s:List Int) (f_:(Int→Option Bool)):Option (Bool):=
 (gV s f_).bind fun x6=>some (decide (x6 ≥ 0))
def gY (n_:Int):Option (Bool):=
 (if (n_ == 0) then some true else ((cX n_ (-9) 9).bind fun x6=>some (!x6))).bind fun b8=>some b8
def fg (f_:((List Int)→Option Bool)) (i_1:Nat) (x_2:List Int):(Unit)→Option (Lo (Unit) (Int))
 | ()=>(f_ x_2).bind fun x8=>if x8 then (some (.out (i_1:Int))) else (some (.cont ()))
def gy (s:List (List Int)) (f_:((List Int)→Option Bool)):Option (Int):=
 ((aw (fg f_) s 0 ()):Option (Jn (Unit) (Int))).bind fun j=>match j with | .nx _=>(some (-1)) | .out t=>some t
def cT (s:List (List Int)) (f_:((List Int)→Option Bool)):Option (Bool):=
 (gy s f_).bind fun x6=>some (decide (x6 ≥ 0))
def gJ (n_:Int):Option (Bool):=
 (cX n_ 0 3).bind fun x6=>some (!x6)
def gX (c1:Rule) (row:List Int):Option (Bool):=
 (if ((row.length:Int) != (c1.vars.length:Int)) then some true else ((cE row gJ).bind fun x6=>some x6)).bind fun b8=>some b8
def kQ (r_:Rule) (cells:Int) (i_5:Nat) (x_6:Int):(Unit)→Option (Lo (Unit) (Bool))
 | ()=>(cX x_6 0 (i64 (cells - 1))).bind fun x21=>(if (!x21) then some true else ((sl r_.vars 0 (i_5:Int)).bind fun x23=>(cV x23 x_6).bind fun x31=>some x31)).bind fun b33=>if b33 then (some (.out false)) else (some (.cont ()))
def lO (r_:Rule) (cells:Int):Option (Bool):=
 ((aw (kQ r_ cells) r_.vars 0 ()):Option (Jn (Unit) (Bool))).bind fun j=>match j with | .nx _=>(if ((((r_.vars.length:Int) == 0) || ((r_.kind != 1) && ((decide ((r_.coefs.length:Int) > 0)) || (r_.bound != 0)))) || ((r_.kind != 3) && (decide ((r_.rows.length:Int) > 0)))) then (some false) else (if (r_.kind == 1) then ((if ((r_.coefs.length:Int) == (r_.vars.length:Int)) then ((cX r_.bound (-1000) 1000).bind fun x69=>some x69) else some false).bind fun b71=>(if b71 then ((cE r_.coefs gY).bind fun x77=>some (!x77)) else some false).bind fun b79=>some b79) else (if (r_.kind == 3) then ((if decide ((r_.rows.length:Int)≤8) then ((cT r_.rows (gX r_)).bind fun x103=>some (!x103)) else some false).bind fun b105=>some b105) else (if (r_.kind == 4) then (some ((r_.vars.length:Int) == 2)) else (some (r_.kind == 2)))))) | .out t=>some t
def gv (c1:Model) (r_:Rule):Option (Bool):=
 (lO r_ (c1.sizes.length:Int)).bind fun x10=>some (!x10)
def gI (_i_21:Nat) (x_23:Int):(Int)→Option (Lo (Int) (Bool))
 | count_22=>(cX x_23 0 3).bind fun x38=>if (!x38) then (some (.out false)) else (some (.cont (i64 (count_22+(i64 (x_23+1))))))
def gQ (m:Model):Option (Bool):=
 (cX (m.sizes.length:Int) 1 5).bind fun x10=>if ((!x10) || (decide ((m.rules.length:Int) > 8))) then (some false) else (((aw gI m.sizes 0 0):Option (Jn (Int) (Bool))).bind fun j=>match j with | .nx count_22=>((if decide (count_22≤12) then ((cm m.rules (gv m)).bind fun x52=>some (!x52)) else some false).bind fun b54=>some b54) | .out t=>some t)
def gn (_i_10:Nat) (x_12:Int):(Int)→Option (Lo (Int) (Int))
 | v_11=>some (.cont (i64 (v_11+(i64 (x_12+1)))))
def dz (m:Model) (cell:Int) (value:Int):Option (Int):=
 (sl m.sizes 0 cell).bind fun x5=>((aw gn x5 0 (i64 (1+value))):Option (Jn (Int) (Int))).bind fun j=>match j with | .nx v_11=>(some v_11) | .out t=>some t
def ji (m:Model) (cell:Int) (i_14:Nat):(List Int)→Option (Lo (List Int) (List Int))
 | out_15=>(dz m cell (i_14:Int)).bind fun x26=>(app out_15 ([x26])).bind fun x31=>some (.cont x31)
def gl (m:Model) (cell:Int):Option (List Int):=
 (idx m.sizes cell).bind fun x5=>(jL 0 (i64 (x5+1))).bind fun k18=>((cI (ji m cell) k18 0 ([])):Option (Jn (List Int) (List Int))).bind fun j=>match j with | .nx out_15=>(some out_15) | .out t=>some t
def cJ (s:List Int):Option (List Int):=
 (app ([]) s).bind fun x7=>some x7
def gP (l:Int):Option (Bool):=
 (if (l != 0) then ((cX l (-12) 12).bind fun x6=>some x6) else some false).bind fun b8=>some b8
def bc (a:Int) (cmp:(Int→Int→Option Int)):((List Int) × Int)→Option (Lo ((List Int) × Int) (Lo ((List Int) × Int) (List Int)))
 | (data_9,j_10)=>(if decide (j_10 > a) then ((idx data_9 j_10).bind fun x14=>(idx data_9 (i64 (j_10 - 1))).bind fun x19=>(cmp x14 x19).bind fun x22=>some (decide (x22<0))) else some false).bind fun b29=>if b29 then ((idx data_9 (i64 (j_10 - 1))).bind fun x52=>(idx data_9 j_10).bind fun x57=>(idx (data_9.set (Int.toNat j_10) x52) (i64 (j_10 - 1))).bind fun x61=>some (.cont (((data_9.set (Int.toNat j_10) x52).set (Int.toNat (i64 (j_10 - 1))) x57),i64 (j_10 - 1)))) else (some (.brk (data_9,j_10)))
def br (fu:Nat) (a:Int) (b:Int) (cmp:(Int→Int→Option Int)):((List Int) × Int)→Option (Lo ((List Int) × Int) (List Int))
 | (data_2,i_3)=>if decide (i_3<b) then (((bx (bc a cmp) fu (data_2,i_3)):Option (Jn ((List Int) × Int) (Lo ((List Int) × Int) (List Int)))).bind fun j=>match j with | .nx (data_9,j_10)=>(some (.cont (data_9,i64 (i_3+1)))) | .out t=>some t) else (some (.brk (data_2,i_3)))
def bQ (fu:Nat) (data:List Int) (a:Int) (b:Int) (cmp:(Int→Int→Option Int)):Option (List Int):=
 ((bx (br fu a b cmp) fu (data,i64 (a+1))):Option (Jn ((List Int) × Int) (List Int))).bind fun j=>match j with | .nx (data_2,i_3)=>(some data_2) | .out t=>some t
def ln (length:Int):Option (Int):=
 (bits_Len (IntKind.u64.wrap length)).bind fun x6=>(if x6<0 then none else some ()).bind fun _=>some (IntKind.u64.wrap (1 * 2 ^ (min (Int.toNat x6) (IntKind.bits .u64))))
def cK (fu:Nat) (data:List Int) (a:Int) (b:Int) (cmp:(Int→Int→Option Int)):(Unit)→Option (Lo (Unit) (List Int))
 | ()=>if decide ((i64 (b - a))≤12) then ((bQ fu data a b cmp).bind fun x9=>some (.out x9)) else (none)
def eL (fu:Nat) (data:List Int) (a:Int) (b:Int) (_limit:Int) (cmp:(Int→Int→Option Int)):Option (List Int):=
 ((bx (cK fu data a b cmp) fu ()):Option (Jn (Unit) (List Int))).bind fun j=>match j with | .nx _=>(some data) | .out t=>some t
def fF (fu:Nat) (x:List Int) (cmp:(Int→Int→Option Int)):Option (List Int):=
 (bits_Len (IntKind.u64.wrap (x.length:Int))).bind fun x6=>(eL fu x 0 (x.length:Int) x6 cmp).bind fun x13=>some x13
def dW (l:Int):Option (Int):=
 some (max l (i64 (-l)))
def b7 (a:Int) (b:Int):Option (Int):=
 (dW a).bind fun x6=>(dW b).bind fun x13=>some (i64 (x6 - x13))
def eQ (s:List Int) (i_2:Nat):(Unit)→Option (Lo (Unit) (List Int))
 | ()=>(idx s (i_2:Int)).bind fun x8=>(idx s (i64 ((i_2:Int) - 1))).bind fun x13=>((if (x8 == x13) then (none) else (some ())):Option (Unit)).bind fun _=>some (.cont ())
def gu (s:List Int):Option (List Int):=
 if decide ((s.length:Int)<2) then (some s) else ((jL 1 (s.length:Int)).bind fun k6=>((cI (eQ s) k6 1 ()):Option (Jn (Unit) (List Int))).bind fun j=>match j with | .nx _=>(some s) | .out t=>some t)
def lz (lits:List Int) (_i_9:Nat) (x_10:Int):(Unit)→Option (Lo (Unit) (Con × Bool))
 | ()=>(gP x_10).bind fun x25=>(if (!x25) then some true else ((cV lits (i64 (-x_10))).bind fun x32=>some x32)).bind fun b34=>if b34 then (some (.out (({ terms:=[],bound:=0 }:Con),false))) else (some (.cont ()))
def j0 (_i_97:Nat) (x_100:Int):(List Term)→Option (Lo (List Term) (Con × Bool))
 | g85_0_98=>(app g85_0_98 ([({ coef:=1,lit:=x_100 }:Term)])).bind fun x114=>some (.cont x114)
def ku (fu:Nat) (lits:List Int):Option (Con × Bool):=
 if decide ((lits.length:Int) > 40) then (some (({ terms:=[],bound:=0 }:Con),false)) else (((aw (lz lits) lits 0 ()):Option (Jn (Unit) (Con × Bool))).bind fun j=>match j with | .nx _=>((cJ lits).bind fun x58=>(fF fu x58 b7).bind fun x73=>(gu x73).bind fun x91=>((aw j0 x91 0 ([])):Option (Jn (List Term) (Con × Bool))).bind fun j=>match j with | .nx g85_0_98=>(some (({ terms:=g85_0_98,bound:=1 }:Con),true)) | .out t=>some t) | .out t=>some t)
def kU (_i_11:Nat) (x_14:Int):(List Term)→Option (Lo (List Term) (Con))
 | g8_0_12=>(app g8_0_12 ([({ coef:=1,lit:=i64 (-x_14) }:Term)])).bind fun x28=>some (.cont x28)
def kD (vars:List Int):Option (Con):=
 ((aw kU vars 0 ([])):Option (Jn (List Term) (Con))).bind fun j=>match j with | .nx g8_0_12=>(some ({ terms:=g8_0_12,bound:=i64 ((vars.length:Int) - 1) }:Con)) | .out t=>some t
def s7 (sizes:List Int):((List Int) × Int)→Option (Lo ((List Int) × Int) (Lo (List Int) (Unit)))
 | (cells_37,i_38)=>(if decide (i_38 ≥ 0) then ((idx cells_37 i_38).bind fun x42=>(idx sizes i_38).bind fun x47=>some (x42 == x47)) else some false).bind fun b52=>if b52 then ((idx cells_37 i_38).bind fun x75=>some (.cont ((cells_37.set (Int.toNat i_38) 0),i64 (i_38 - 1)))) else (some (.brk (cells_37,i_38)))
def s3 (fu:Nat) (sizes:List Int) (told:((List Int)→Option Bool)):(List Int)→Option (Lo (List Int) (Unit))
 | cells_17=>(told cells_17).bind fun x21=>if x21 then (((bx (s7 sizes) fu (cells_17,i64 ((cells_17.length:Int) - 1))):Option (Jn ((List Int) × Int) (Lo (List Int) (Unit)))).bind fun j=>match j with | .nx (cells_37,i_38)=>(if decide (i_38<0) then (some (.out ())) else ((idx cells_37 i_38).bind fun x83=>some (.cont (cells_37.set (Int.toNat i_38) (i64 (x83+1)))))) | .out t=>some t) else (some (.brk cells_17))
def C0 (fu:Nat) (sizes:List Int) (from_:List Int) (told:((List Int)→Option Bool)):Option (Unit):=
 (cJ from_).bind fun x6=>((bx (s3 fu sizes told) fu x6):Option (Jn (List Int) (Unit))).bind fun j=>match j with | .nx cells_17=>(some ()) | .out t=>some t
def dw (_i_5:Nat) (x_7:Term):(Int)→Option (Lo (Int) (Bool))
 | before_6=>(gP x_7.lit).bind fun x28=>(if (!x28) then some true else ((dW x_7.lit).bind fun x35=>some (decide (x35≤before_6)))).bind fun b37=>(if b37 then some true else ((cX x_7.coef 1 1000).bind fun x43=>some (!x43))).bind fun b45=>if b45 then (some (.out false)) else ((dW x_7.lit).bind fun x74=>some (.cont x74))
def bW (c:Con):Option (Bool):=
 ((aw dw c.terms 0 0):Option (Jn (Int) (Bool))).bind fun j=>match j with | .nx before_6=>((cX c.bound 0 20000).bind fun x87=>some x87) | .out t=>some t
def e6 (c:Con):Option (Con × Bool):=
 (bW c).bind fun x14=>if (!x14) then (some (({ terms:=[],bound:=0 }:Con),false)) else (some (c,true))
def kz (_i_13:Nat) (x_18:Term):(Int × (List Int))→Option (Lo (Int × (List Int)) (Con × Bool))
 | (bound_14,ag11_15)=>((if decide (x_18.lit<0) then ((idx ag11_15 (i64 (-x_18.lit))).bind fun x40=>some (i64 (bound_14 - x_18.coef),(ag11_15.set (Int.toNat (i64 (-x_18.lit))) (i64 (x40 - x_18.coef))))) else ((idx ag11_15 x_18.lit).bind fun x44=>some (bound_14,(ag11_15.set (Int.toNat x_18.lit) (i64 (x44+x_18.coef)))))):Option (Int × (List Int))).bind fun (bound_34,ag11_35)=>some (.cont (bound_34,ag11_35))
def fS (ag11_15:List Int) (i_56:Nat):(Int × (List Term))→Option (Lo (Int × (List Term)) (Con × Bool))
 | (bound_57,g51_0_58)=>(idx ag11_15 (i_56:Int)).bind fun x64=>((if decide (x64 > 0) then ((app g51_0_58 ([({ coef:=x64,lit:=(i_56:Int) }:Term)])).bind fun x73=>some (bound_57,x73)) else (((if decide (x64<0) then ((app g51_0_58 ([({ coef:=i64 (-x64),lit:=i64 (-(i_56:Int)) }:Term)])).bind fun x93=>some (i64 (bound_57 - x64),x93)) else (some (bound_57,g51_0_58))):Option (Int × (List Term))).bind fun (bound_85,g51_0_86)=>some (bound_85,g51_0_86))):Option (Int × (List Term))).bind fun (bound_65,g51_0_66)=>some (.cont (bound_65,g51_0_66))
def mR (terms:List Term) (bound:Int):Option (Con × Bool):=
 ((aw kz terms 0 (bound,(List.replicate 13 (0:Int)))):Option (Jn (Int × (List Int)) (Con × Bool))).bind fun j=>match j with | .nx (bound_14,ag11_15)=>((jL 0 13).bind fun k61=>((cI (fS ag11_15) k61 0 (bound_14,[])):Option (Jn (Int × (List Term)) (Con × Bool))).bind fun j=>match j with | .nx (bound_57,g51_0_58)=>((e6 ({ terms:=g51_0_58,bound:=max 0 bound_57 }:Con)).bind fun x110=>some (x110.1,x110.2)) | .out t=>some t) | .out t=>some t
def ki (x:Int):Option (Bool):=
 some (x != x)
def lb (x:Int) (y:Int):Option (Bool):=
 (ki x).bind fun x6=>(if x6 then ((ki y).bind fun x13=>some (!x13)) else some false).bind fun b15=>some (b15 || (decide (x<y)))
def bX (a:Int):((List Int) × Int)→Option (Lo ((List Int) × Int) (Lo ((List Int) × Int) (List Int)))
 | (data_9,j_10)=>(if decide (j_10 > a) then ((idx data_9 j_10).bind fun x14=>(idx data_9 (i64 (j_10 - 1))).bind fun x19=>(lb x14 x19).bind fun x27=>some x27) else some false).bind fun b29=>if b29 then ((idx data_9 (i64 (j_10 - 1))).bind fun x52=>(idx data_9 j_10).bind fun x57=>(idx (data_9.set (Int.toNat j_10) x52) (i64 (j_10 - 1))).bind fun x61=>some (.cont (((data_9.set (Int.toNat j_10) x52).set (Int.toNat (i64 (j_10 - 1))) x57),i64 (j_10 - 1)))) else (some (.brk (data_9,j_10)))
def bY (fu:Nat) (a:Int) (b:Int):((List Int) × Int)→Option (Lo ((List Int) × Int) (List Int))
 | (data_2,i_3)=>if decide (i_3<b) then (((bx (bX a) fu (data_2,i_3)):Option (Jn ((List Int) × Int) (Lo ((List Int) × Int) (List Int)))).bind fun j=>match j with | .nx (data_9,j_10)=>(some (.cont (data_9,i64 (i_3+1)))) | .out t=>some t) else (some (.brk (data_2,i_3)))
def du (fu:Nat) (data:List Int) (a:Int) (b:Int):Option (List Int):=
 ((bx (bY fu a b) fu (data,i64 (a+1))):Option (Jn ((List Int) × Int) (List Int))).bind fun j=>match j with | .nx (data_2,i_3)=>(some data_2) | .out t=>some t
def cL (fu:Nat) (data:List Int) (a:Int) (b:Int):(Unit)→Option (Lo (Unit) (List Int))
 | ()=>if decide ((i64 (b - a))≤12) then ((du fu data a b).bind fun x9=>some (.out x9)) else (none)
def eO (fu:Nat) (data:List Int) (a:Int) (b:Int) (_limit:Int):Option (List Int):=
 ((bx (cL fu data a b) fu ()):Option (Jn (Unit) (List Int))).bind fun j=>match j with | .nx _=>(some data) | .out t=>some t
def iG (fu:Nat) (x:List Int):Option (List Int):=
 (bits_Len (IntKind.u64.wrap (x.length:Int))).bind fun x6=>(eO fu x 0 (x.length:Int) x6).bind fun x13=>some x13
def hU (s2:List Int) (i_2:Nat) (x_5:Int):(Unit)→Option (Lo (Unit) (Bool))
 | ()=>(idx s2 (i_2:Int)).bind fun x11=>if (x_5 != x11) then (some (.out false)) else (some (.cont ()))
def jO (s1:List Int) (s2:List Int):Option (Bool):=
 if ((s1.length:Int) != (s2.length:Int)) then (some false) else (((aw (hU s2) s1 0 ()):Option (Jn (Unit) (Bool))).bind fun j=>match j with | .nx _=>(some true) | .out t=>some t)
def ig (c1:List Int) (row:List Int):Option (Bool):=
 (jO row c1).bind fun x6=>some x6
def kl (r_:Rule) (i_10:Nat) (x_12:Int):(Int)→Option (Lo (Int) (Bool))
 | sum_11=>(idx r_.coefs (i_10:Int)).bind fun x22=>some (.cont (i64 (sum_11+(i64 (x22 * x_12)))))
def lX (vals:List Int) (i_32:Nat) (x_33:Int):(Unit)→Option (Lo (Unit) (Bool))
 | ()=>(sl vals 0 (i_32:Int)).bind fun x43=>(cV x43 x_33).bind fun x51=>if x51 then (some (.out false)) else (some (.cont ()))
def jP (r_:Rule) (vals:List Int):Option (Bool):=
 if (r_.kind == 1) then (((aw (kl r_) vals 0 0):Option (Jn (Int) (Bool))).bind fun j=>match j with | .nx sum_11=>(some (decide (sum_11 ≥ r_.bound))) | .out t=>some t) else (if (r_.kind == 2) then (((aw (lX vals) vals 0 ()):Option (Jn (Unit) (Bool))).bind fun j=>match j with | .nx _=>(some true) | .out t=>some t) else (if (r_.kind == 3) then ((cT r_.rows (ig vals)).bind fun x68=>some x68) else ((idx vals 0).bind fun x77=>(idx vals 1).bind fun x82=>some (decide (x77<x82)))))
def dI (m:Model) (r_:Rule) (i_14:Nat) (x_19:Int) (i_39:Nat):(List Term)→Option (Lo (List Term) (Lo (List Term) (List Con)))
 | terms_40=>(idx r_.coefs (i_14:Int)).bind fun x47=>(dz m x_19 (i_39:Int)).bind fun x57=>(app terms_40 ([({ coef:=i64 (x47 * (i_39:Int)),lit:=x57 }:Term)])).bind fun x62=>some (.cont x62)
def dO (m:Model) (r_:Rule) (i_14:Nat) (x_19:Int):(List Term)→Option (Lo (List Term) (List Con))
 | terms_15=>(idx m.sizes x_19).bind fun x30=>(jL 0 (i64 (x30+1))).bind fun k45=>((cI (dI m r_ i_14 x_19) k45 0 terms_15):Option (Jn (List Term) (Lo (List Term) (List Con)))).bind fun j=>match j with | .nx terms_40=>(some (.cont terms_40)) | .out t=>some t
def dM (m:Model) (i_121:Nat) (_i_130:Nat) (x_133:Int):(List Int)→Option (Lo (List Int) (Lo (List Con) (List Con)))
 | vars_131=>(idx m.sizes x_133).bind fun x144=>((if decide ((i_121:Int)≤x144) then ((dz m x_133 (i_121:Int)).bind fun x162=>(app vars_131 ([x162])).bind fun x167=>some x167) else (some vars_131)):Option (List Int)).bind fun vars_153=>some (.cont vars_153)
def dL (fu:Nat) (m:Model) (r_:Rule) (i_121:Nat):(List Con)→Option (Lo (List Con) (List Con))
 | g11_0_122=>((aw (dM m i_121) r_.vars 0 ([])):Option (Jn (List Int) (Lo (List Con) (List Con)))).bind fun j=>match j with | .nx vars_131=>(((if decide ((vars_131.length:Int) > 1) then ((iG fu vars_131).bind fun x194=>(kD x194).bind fun x208=>(app g11_0_122 ([x208])).bind fun x214=>some x214) else (some g11_0_122)):Option (List Con)).bind fun g11_0_183=>some (.cont g11_0_183)) | .out t=>some t
def dH (m:Model) (_i_250:Nat) (x_253:Int):(List Int)→Option (Lo (List Int) (List Con))
 | sizes_251=>(idx m.sizes x_253).bind fun x264=>(app sizes_251 ([x264])).bind fun x272=>some (.cont x272)
def dJ (m:Model) (cells_321:List Int) (i_361:Nat) (x_366:Int):(List Int)→Option (Lo (List Int) (List Con))
 | lits_362=>(idx cells_321 (i_361:Int)).bind fun x377=>(dz m x_366 x377).bind fun x387=>(app lits_362 ([i64 (-x387)])).bind fun x392=>some (.cont x392)
def gx (fu:Nat) (m:Model) (r_:Rule) (cells_321:List Int) (g11_0_322:List Con):Option (Bool × (List Con)):=
 (jP r_ cells_321).bind fun x346=>((if (!x346) then (((aw (dJ m cells_321) r_.vars 0 ([])):Option (Jn (List Int) (List Con))).bind fun j=>match j with | .nx lits_362=>((ku fu lits_362).bind fun x431=>(app g11_0_322 ([x431.1])).bind fun x451=>some x451) | .out t=>some t) else (some g11_0_322)):Option (List Con)).bind fun g11_0_355=>some (true,g11_0_355)
def fP (sizes_251:List Int):((List Int) × Int)→Option (Lo ((List Int) × Int) (Lo ((List Int) × (List Con)) (List Con)))
 | (cells_465,i_466)=>(if decide (i_466 ≥ 0) then ((idx cells_465 i_466).bind fun x470=>(idx sizes_251 i_466).bind fun x475=>some (x470 == x475)) else some false).bind fun b480=>if b480 then ((idx cells_465 i_466).bind fun x499=>some (.cont ((cells_465.set (Int.toNat i_466) 0),i64 (i_466 - 1)))) else (some (.brk (cells_465,i_466)))
def dK (fu:Nat) (m:Model) (r_:Rule) (sizes_251:List Int):((List Int) × (List Con))→Option (Lo ((List Int) × (List Con)) (List Con))
 | (cells_321,g11_0_322)=>(gx fu m r_ cells_321 g11_0_322).bind fun (ret0_328,g11_0_329)=>if ret0_328 then (((bx (fP sizes_251) fu (cells_321,i64 ((cells_321.length:Int) - 1))):Option (Jn ((List Int) × Int) (Lo ((List Int) × (List Con)) (List Con)))).bind fun j=>match j with | .nx (cells_465,i_466)=>(if decide (i_466<0) then (some (.out g11_0_329)) else ((idx cells_465 i_466).bind fun x507=>some (.cont ((cells_465.set (Int.toNat i_466) (i64 (x507+1))),g11_0_329)))) | .out t=>some t) else (some (.brk (cells_321,g11_0_329)))
def eU (fu:Nat) (m:Model) (r_:Rule) (sizes_251:List Int) (x286:List Int):Option (List Con):=
 (cJ x286).bind fun x309=>((bx (dK fu m r_ sizes_251) fu (x309,[])):Option (Jn ((List Int) × (List Con)) (List Con))).bind fun j=>match j with | .nx (cells_321,g11_0_322)=>(some g11_0_322) | .out t=>some t
def gp (fu:Nat) (m:Model) (r_:Rule):Option (List Con):=
 if (r_.kind == 1) then (((aw (dO m r_) r_.vars 0 ([])):Option (Jn (List Term) (List Con))).bind fun j=>match j with | .nx terms_15=>((mR terms_15 r_.bound).bind fun x102=>some ([x102.1])) | .out t=>some t) else (if (r_.kind == 2) then ((jL 0 4).bind fun k127=>((cI (dL fu m r_) k127 0 ([])):Option (Jn (List Con) (List Con))).bind fun j=>match j with | .nx g11_0_122=>(some g11_0_122) | .out t=>some t) else (((aw (dH m) r_.vars 0 ([])):Option (Jn (List Int) (List Con))).bind fun j=>match j with | .nx sizes_251=>((wi (sizes_251.length:Int) 0).bind fun x286=>(eU fu m r_ sizes_251 x286).bind fun g11_0_290=>some g11_0_290) | .out t=>some t))
def gg (fu:Nat) (m:Model) (i_20:Nat) (_x_25:Int):(List Con)→Option (Lo (List Con) ((List Con) × Bool))
 | out_21=>(gl m (i_20:Int)).bind fun x33=>(ku fu x33).bind fun x49=>(kD x33).bind fun x72=>(app out_21 ([x49.1,x72])).bind fun x78=>some (.cont x78)
def ga (fu:Nat) (m:Model) (_i_110:Nat) (x_115:Rule):(List Con)→Option (Lo (List Con) ((List Con) × Bool))
 | out_111=>(gp fu m x_115).bind fun x133=>(app out_111 x133).bind fun x136=>some (.cont x136)
def kf (fu:Nat) (m:Model):Option ((List Con) × Bool):=
 (gQ m).bind fun x10=>if (!x10) then (some ([],false)) else (((aw (gg fu m) m.sizes 0 ([])):Option (Jn (List Con) ((List Con) × Bool))).bind fun j=>match j with | .nx out_21=>(((aw (ga fu m) m.rules 0 out_21):Option (Jn (List Con) ((List Con) × Bool))).bind fun j=>match j with | .nx out_111=>(if decide ((out_111.length:Int) > 400) then (some ([],false)) else (some (out_111,true))) | .out t=>some t) | .out t=>some t)
def qo (list:List Int) (x_8:Int) (i_54:Nat):(Unit)→Option (Lo (Unit) (Lo (Unit) (Bool)))
 | ()=>(idx list (i_54:Int)).bind fun x60=>if (x60 == x_8) then (some (.out (.out false))) else (some (.cont ()))
def pZ (m:Model) (list:List Int) (i_5:Nat) (x_8:Int):(Unit)→Option (Lo (Unit) (Bool))
 | ()=>if ((decide (x_8<0)) || (decide (x_8 ≥ (m.sizes.length:Int)))) then (some (.out false)) else ((jL 0 (i_5:Int)).bind fun k58=>((cI (qo list x_8) k58 0 ()):Option (Jn (Unit) (Lo (Unit) (Bool)))).bind fun j=>match j with | .nx _=>(some (.cont ())) | .out t=>some t)
def qc (m:Model) (list:List Int):Option (Bool):=
 ((aw (pZ m list) list 0 ()):Option (Jn (Unit) (Bool))).bind fun j=>match j with | .nx _=>(some (decide ((list.length:Int) ≥ 1))) | .out t=>some t
def nI (_i_5:Nat) (x_6:Int):(Unit)→Option (Lo (Unit) (Bool))
 | ()=>if (((decide (x_6<(-9))) || (decide (x_6 > 9))) || (x_6 == 0)) then (some (.out false)) else (some (.cont ()))
def mU (r_:Rule):Option (Bool):=
 ((aw nI r_.coefs 0 ()):Option (Jn (Unit) (Bool))).bind fun j=>match j with | .nx _=>(some ((((r_.coefs.length:Int) == (r_.vars.length:Int)) && (decide (r_.bound ≥ (-1000)))) && (decide (r_.bound≤1000)))) | .out t=>some t
def pa (x_8:List Int) (i_27:Nat):(Unit)→Option (Lo (Unit) (Lo (Unit) (Bool)))
 | ()=>(idx x_8 (i_27:Int)).bind fun x43=>if ((decide (x43<0)) || (decide (x43 > 3))) then (some (.out (.out false))) else (some (.cont ()))
def oQ (r_:Rule) (_i_5:Nat) (x_8:List Int):(Unit)→Option (Lo (Unit) (Bool))
 | ()=>if ((x_8.length:Int) != (r_.vars.length:Int)) then (some (.out false)) else ((jL 0 (x_8.length:Int)).bind fun k29=>((cI (pa x_8) k29 0 ()):Option (Jn (Unit) (Lo (Unit) (Bool)))).bind fun j=>match j with | .nx _=>(some (.cont ())) | .out t=>some t)
def ov (r_:Rule):Option (Bool):=
 ((aw (oQ r_) r_.rows 0 ()):Option (Jn (Unit) (Bool))).bind fun j=>match j with | .nx _=>(some (decide ((r_.rows.length:Int)≤8))) | .out t=>some t
def od (m:Model) (r_:Rule):Option (Bool):=
 (qc m r_.vars).bind fun x14=>if (((!x14) || ((r_.kind != 1) && (((r_.coefs.length:Int) != 0) || (r_.bound != 0)))) || ((r_.kind != 3) && ((r_.rows.length:Int) != 0))) then (some false) else (if (r_.kind == 1) then ((mU r_).bind fun x40=>some x40) else (if (r_.kind == 2) then (some true) else (if (r_.kind == 3) then ((ov r_).bind fun x55=>some x55) else (if (r_.kind == 4) then (some ((r_.vars.length:Int) == 2)) else (some false)))))
def gF (m:Model):(Int × Int)→Option (Lo (Int × Int) (Bool))
 | (n_8,i_9)=>if ((decide (i_9<(m.sizes.length:Int))) && (decide (i_9<5))) then ((idx m.sizes i_9).bind fun x14=>if ((decide (x14<0)) || (decide (x14 > 3))) then (some (.out false)) else (some (.cont (i64 ((i64 (n_8+x14))+1),i64 (i_9+1))))) else (some (.brk (n_8,i_9)))
def kp (m:Model) (_i_50:Nat) (x_53:Rule):(Unit)→Option (Lo (Unit) (Bool))
 | ()=>(od m x_53).bind fun x64=>if (!x64) then (some (.out false)) else (some (.cont ()))
def ld (fu:Nat) (m:Model):Option (Bool):=
 ((bx (gF m) fu (0,0)):Option (Jn (Int × Int) (Bool))).bind fun j=>match j with | .nx (n_8,i_9)=>(if ((((decide ((m.sizes.length:Int)<1)) || (decide ((m.sizes.length:Int) > 5))) || (decide (n_8 > 12))) || (decide ((m.rules.length:Int) > 8))) then (some false) else (((aw (kp m) m.rules 0 ()):Option (Jn (Unit) (Bool))).bind fun j=>match j with | .nx _=>(some true) | .out t=>some t)) | .out t=>some t
def pf (m:Model) (i_5:Nat):(Int)→Option (Lo (Int) (Int))
 | n_6=>(idx m.sizes (i_5:Int)).bind fun x10=>some (.cont (i64 ((i64 (n_6+x10))+1)))
def lC (m:Model) (cell:Int) (value:Int):Option (Int):=
 (jL 0 cell).bind fun k8=>((cI (pf m) k8 0 (i64 (1+value))):Option (Jn (Int) (Int))).bind fun j=>match j with | .nx n_6=>(some n_6) | .out t=>some t
def qQ (n_:Int):Option (Bool):=
 some (((n_ != 0) && (decide (n_ ≥ (-12)))) && (decide (n_≤12)))
def nr (n_:Int):Option (Int):=
 if decide (n_<0) then (some (i64 (-n_))) else (some n_)
def ka (_i_16:Nat) (x_20:Int):(List Int)→Option (Lo (List Int) (Con × Bool))
 | seen_17=>(qQ x_20).bind fun x31=>if (!x31) then (some (.out (({ terms:=[],bound:=0 }:Con),false))) else ((nr x_20).bind fun x56=>(idx seen_17 x56).bind fun x68=>if (x68 == (i64 (-x_20))) then (some (.out (({ terms:=[],bound:=0 }:Con),false))) else (some (.cont (seen_17.set (Int.toNat x56) x_20))))
def jW (seen_17:List Int) (i_114:Nat):(List Term)→Option (Lo (List Term) (Con × Bool))
 | g111_0_115=>(idx seen_17 (i_114:Int)).bind fun x123=>((if (x123 != 0) then ((app g111_0_115 ([({ coef:=1,lit:=x123 }:Term)])).bind fun x143=>some x143) else (some g111_0_115)):Option (List Term)).bind fun g111_0_132=>some (.cont g111_0_132)
def jk (lits:List Int):Option (Con × Bool):=
 (wi 13 0).bind fun x5=>if decide ((lits.length:Int) > 40) then (some (({ terms:=[],bound:=0 }:Con),false)) else (((aw ka lits 0 x5):Option (Jn (List Int) (Con × Bool))).bind fun j=>match j with | .nx seen_17=>((jL 1 (12+1)).bind fun k120=>((cI (jW seen_17) k120 1 ([])):Option (Jn (List Term) (Con × Bool))).bind fun j=>match j with | .nx g111_0_115=>(some (({ terms:=g111_0_115,bound:=1 }:Con),true)) | .out t=>some t) | .out t=>some t)
def nu (_i_11:Nat) (x_16:Int):(List Term)→Option (Lo (List Term) (Con))
 | g8_0_12=>(app g8_0_12 ([({ coef:=1,lit:=i64 (-x_16) }:Term)])).bind fun x26=>some (.cont x26)
def m4 (vars:List Int):Option (Con):=
 ((aw nu vars 0 ([])):Option (Jn (List Term) (Con))).bind fun j=>match j with | .nx g8_0_12=>(some ({ terms:=g8_0_12,bound:=i64 ((vars.length:Int) - 1) }:Con)) | .out t=>some t
def lK (m:Model) (cell:Int) (i_14:Nat):(List Int)→Option (Lo (List Int) (List Con))
 | vars_15=>(lC m cell (i_14:Int)).bind fun x33=>(app vars_15 ([x33])).bind fun x38=>some (.cont x38)
def qu (m:Model) (cell:Int):Option (List Con):=
 (idx m.sizes cell).bind fun x13=>(jL 0 (x13+1)).bind fun k18=>((cI (lK m cell) k18 0 ([])):Option (Jn (List Int) (List Con))).bind fun j=>match j with | .nx vars_15=>((jk vars_15).bind fun x60=>(m4 vars_15).bind fun x83=>some ([x60.1,x83])) | .out t=>some t
def dx (c:Con) (i_5:Nat) (x_8:Term):(Unit)→Option (Lo (Unit) (Bool))
 | ()=>(qQ x_8.lit).bind fun x29=>(if (((!x29) || (decide (x_8.coef<1))) || (decide (x_8.coef > 1000))) then some true else ((if decide ((i_5:Int) > 0) then ((idx c.terms (i64 ((i_5:Int) - 1))).bind fun x31=>(nr x31.lit).bind fun x41=>(nr x_8.lit).bind fun x48=>some (decide (x41 ≥ x48))) else some false).bind fun b50=>some b50)).bind fun b51=>if b51 then (some (.out false)) else (some (.cont ()))
def gL (c:Con):Option (Bool):=
 ((aw (dx c) c.terms 0 ()):Option (Jn (Unit) (Bool))).bind fun j=>match j with | .nx _=>(some ((decide (c.bound ≥ 0)) && (decide (c.bound≤20000)))) | .out t=>some t
def ke (net:List Int) (i_11:Nat):(Int × (List Term))→Option (Lo (Int × (List Term)) (Con × Bool))
 | (bound_12,g8_0_13)=>(idx net (i_11:Int)).bind fun x21=>((if decide (x21 > 0) then ((app g8_0_13 ([({ coef:=x21,lit:=(i_11:Int) }:Term)])).bind fun x43=>some x43) else (some g8_0_13)):Option (List Term)).bind fun g8_0_30=>((if decide (x21<0) then ((app g8_0_30 ([({ coef:=i64 (-x21),lit:=i64 (-(i_11:Int)) }:Term)])).bind fun x92=>some (i64 (bound_12 - x21),x92)) else (some (bound_12,g8_0_30))):Option (Int × (List Term))).bind fun (bound_78,g8_0_79)=>some (.cont (bound_78,g8_0_79))
def nc (net:List Int) (bound:Int):Option (Con × Bool):=
 (jL 1 (12+1)).bind fun k18=>((cI (ke net) k18 1 (bound,[])):Option (Jn (Int × (List Term)) (Con × Bool))).bind fun j=>match j with | .nx (bound_12,g8_0_13)=>(((if decide (bound_12<0) then (some 0) else (some bound_12)):Option (Int)).bind fun bound_127=>(gL ({ terms:=g8_0_13,bound:=bound_127 }:Con)).bind fun x138=>if (!x138) then (some (({ terms:=[],bound:=0 }:Con),false)) else (some (({ terms:=g8_0_13,bound:=bound_127 }:Con),true))) | .out t=>some t
def iM (m:Model) (r_:Rule) (i_16:Nat) (x_20:Int):((List Int) × Int)→Option (Lo ((List Int) × Int) (Lo (List Int) (List Con)))
 | (net_23,k_24)=>(idx m.sizes x_20).bind fun x32=>if decide (k_24≤x32) then ((lC m x_20 k_24).bind fun x68=>(idx r_.coefs (i_16:Int)).bind fun x70=>(idx net_23 x68).bind fun x75=>some (.cont ((net_23.set (Int.toNat x68) (i64 (x70 * k_24))),i64 (k_24+1)))) else (some (.brk (net_23,k_24)))
def iR (fu:Nat) (m:Model) (r_:Rule) (i_16:Nat) (x_20:Int):(List Int)→Option (Lo (List Int) (List Con))
 | net_17=>((bx (iM m r_ i_16 x_20) fu (net_17,0)):Option (Jn ((List Int) × Int) (Lo (List Int) (List Con)))).bind fun j=>match j with | .nx (net_23,k_24)=>(some (.cont net_23)) | .out t=>some t
def mP (fu:Nat) (m:Model) (r_:Rule):Option (List Con):=
 (wi 13 0).bind fun x9=>((aw (iR fu m r_) r_.vars 0 x9):Option (Jn (List Int) (List Con))).bind fun j=>match j with | .nx net_17=>((nc net_17 r_.bound).bind fun x121=>some ([x121.1])) | .out t=>some t
def iS:((List Int) × Int)→Option (Lo ((List Int) × Int) (Lo ((List Int) × Int) (List Int)))
 | (out_26,k_27)=>(if decide (k_27 > 0) then ((idx out_26 k_27).bind fun x31=>(idx out_26 (i64 (k_27 - 1))).bind fun x36=>some (decide (x31<x36))) else some false).bind fun b39=>if b39 then ((idx out_26 k_27).bind fun x56=>(idx out_26 (i64 (k_27 - 1))).bind fun x65=>(idx (out_26.set (Int.toNat k_27) x65) (i64 (k_27 - 1))).bind fun x72=>some (.cont (((out_26.set (Int.toNat k_27) x65).set (Int.toNat (i64 (k_27 - 1))) x56),i64 (k_27 - 1)))) else (some (.brk (out_26,k_27)))
def iK (fu:Nat):((List Int) × Int)→Option (Lo ((List Int) × Int) (List Int))
 | (out_19,i_20)=>if decide (i_20<(out_19.length:Int)) then (((bx iS fu (out_19,i_20)):Option (Jn ((List Int) × Int) (Lo ((List Int) × Int) (List Int)))).bind fun j=>match j with | .nx (out_26,k_27)=>(some (.cont (out_26,i64 (i_20+1)))) | .out t=>some t) else (some (.brk (out_19,i_20)))
def nb (fu:Nat) (list:List Int):Option (List Int):=
 (app ([]) list).bind fun x4=>((bx (iK fu) fu (x4,0)):Option (Jn ((List Int) × Int) (List Int))).bind fun j=>match j with | .nx (out_19,i_20)=>(some out_19) | .out t=>some t
def gf (m:Model) (i_15:Nat) (_i_29:Nat) (x_34:Int):(List Int)→Option (Lo (List Int) (Lo (List Con) (List Con)))
 | vars_30=>(idx m.sizes x_34).bind fun x40=>((if decide ((i_15:Int)≤x40) then ((lC m x_34 (i_15:Int)).bind fun x81=>(app vars_30 ([x81])).bind fun x86=>some x86) else (some vars_30)):Option (List Int)).bind fun vars_66=>some (.cont vars_66)
def gb (fu:Nat) (m:Model) (r_:Rule) (i_15:Nat):(List Con)→Option (Lo (List Con) (List Con))
 | out_16=>((aw (gf m i_15) r_.vars 0 ([])):Option (Jn (List Int) (Lo (List Con) (List Con)))).bind fun j=>match j with | .nx vars_30=>(((if decide ((vars_30.length:Int) > 1) then ((nb fu vars_30).bind fun x133=>(m4 x133).bind fun x142=>(app out_16 ([x142])).bind fun x148=>some x148) else (some out_16)):Option (List Con)).bind fun out_123=>some (.cont out_123)) | .out t=>some t
def kd (fu:Nat) (m:Model) (r_:Rule):Option (List Con):=
 (jL 0 (3+1)).bind fun k21=>((cI (gb fu m r_) k21 0 ([])):Option (Jn (List Con) (List Con))).bind fun j=>match j with | .nx out_16=>(some out_16) | .out t=>some t
def nf (b:List Int) (i_2:Nat) (x_5:Int):(Unit)→Option (Lo (Unit) (Bool))
 | ()=>(idx b (i_2:Int)).bind fun x11=>if (x_5 != x11) then (some (.out false)) else (some (.cont ()))
def pL (a:List Int) (b:List Int):Option (Bool):=
 if ((a.length:Int) != (b.length:Int)) then (some false) else (((aw (nf b) a 0 ()):Option (Jn (Unit) (Bool))).bind fun j=>match j with | .nx _=>(some true) | .out t=>some t)
def mn (cells:List Int) (_i_11:Nat) (x_14:Int):(List Int)→Option (Lo (List Int) (Bool))
 | list_12=>(idx cells x_14).bind fun x20=>(app list_12 ([x20])).bind fun x28=>some (.cont x28)
def mo (r_:Rule) (i_47:Nat) (x_51:Int):(Int)→Option (Lo (Int) (Bool))
 | n_48=>(idx r_.coefs (i_47:Int)).bind fun x53=>some (.cont (i64 (n_48+(i64 (x53 * x_51)))))
def oT (list_12:List Int) (x_83:Int) (i_85:Nat):(Unit)→Option (Lo (Unit) (Lo (Unit) (Bool)))
 | ()=>(idx list_12 (i_85:Int)).bind fun x91=>if (x91 == x_83) then (some (.out (.out false))) else (some (.cont ()))
def pe (list_12:List Int) (i_80:Nat) (x_83:Int):(Unit)→Option (Lo (Unit) (Bool))
 | ()=>(jL 0 (i_80:Int)).bind fun k89=>((cI (oT list_12 x_83) k89 0 ()):Option (Jn (Unit) (Lo (Unit) (Bool)))).bind fun j=>match j with | .nx _=>(some (.cont ())) | .out t=>some t
def pj (list_12:List Int) (_i_130:Nat) (x_131:List Int):(Unit)→Option (Lo (Unit) (Bool))
 | ()=>(pL x_131 list_12).bind fun x143=>if x143 then (some (.out true)) else (some (.cont ()))
def ou (r_:Rule) (cells:List Int):Option (Bool):=
 ((aw (mn cells) r_.vars 0 ([])):Option (Jn (List Int) (Bool))).bind fun j=>match j with | .nx list_12=>(if (r_.kind == 1) then (((aw (mo r_) list_12 0 0):Option (Jn (Int) (Bool))).bind fun j=>match j with | .nx n_48=>(some (decide (n_48 ≥ r_.bound))) | .out t=>some t) else (if (r_.kind == 2) then (((aw (pe list_12) list_12 0 ()):Option (Jn (Unit) (Bool))).bind fun j=>match j with | .nx _=>(some true) | .out t=>some t) else (if (r_.kind == 4) then ((idx list_12 0).bind fun x111=>(idx list_12 1).bind fun x116=>some (decide (x111<x116))) else (((aw (pj list_12) r_.rows 0 ()):Option (Jn (Unit) (Bool))).bind fun j=>match j with | .nx _=>(some false) | .out t=>some t)))) | .out t=>some t
def js (m:Model):((List Int) × Int)→Option (Lo ((List Int) × Int) ((List Int) × Bool))
 | (out_19,i_20)=>if decide (i_20 ≥ 0) then ((idx out_19 i_20).bind fun x25=>(idx m.sizes i_20).bind fun x30=>if decide (x25<x30) then (some (.out ((out_19.set (Int.toNat i_20) (i64 (x25+1))),true))) else (some (.cont ((out_19.set (Int.toNat i_20) 0),i64 (i_20 - 1))))) else (some (.brk (out_19,i_20)))
def qe (fu:Nat) (m:Model) (cells:List Int):Option ((List Int) × Bool):=
 (app ([]) cells).bind fun x8=>((bx (js m) fu (x8,i64 ((x8.length:Int) - 1))):Option (Jn ((List Int) × Int) ((List Int) × Bool))).bind fun j=>match j with | .nx (out_19,i_20)=>(some (out_19,false)) | .out t=>some t
def kh (m:Model) (_i_15:Nat) (x_20:Int):(List Int)→Option (Lo (List Int) (List Con))
 | g12_0_16=>(idx m.sizes x_20).bind fun x27=>(app g12_0_16 ([x27])).bind fun x35=>some (.cont x35)
def iQ (m:Model) (r_:Rule) (i_108:Nat) (x_114:Int):((List Int) × (List Int))→Option (Lo ((List Int) × (List Int)) (Lo ((List Con) × (List Int) × Bool) (List Con)))
 | (cells_109,lits_110)=>(idx r_.vars (i_108:Int)).bind fun x116=>(idx cells_109 x116).bind fun x125=>(lC m x116 x_114).bind fun x160=>(app lits_110 ([i64 (-x160)])).bind fun x165=>some (.cont ((cells_109.set (Int.toNat x116) x_114),x165))
def fQ (fu:Nat) (m:Model) (r_:Rule) (g12_0_16:List Int):((List Con) × (List Int) × Bool)→Option (Lo ((List Con) × (List Int) × Bool) (List Con))
 | (out_86,row_88,more_90)=>if more_90 then ((wi (m.sizes.length:Int) 0).bind fun x95=>((aw (iQ m r_) row_88 0 (x95,[])):Option (Jn ((List Int) × (List Int)) (Lo ((List Con) × (List Int) × Bool) (List Con)))).bind fun j=>match j with | .nx (cells_109,lits_110)=>((ou r_ cells_109).bind fun x212=>((if (!x212) then ((jk lits_110).bind fun x231=>(app out_86 ([x231.1])).bind fun x251=>some x251) else (some out_86)):Option (List Con)).bind fun out_221=>(qe fu ({ sizes:=g12_0_16,rules:=[] }:Model) row_88).bind fun x268=>some (.cont (out_221,x268.1,x268.2))) | .out t=>some t) else (some (.brk (out_86,row_88,more_90)))
def mO (fu:Nat) (m:Model) (r_:Rule):Option (List Con):=
 ((aw (kh m) r_.vars 0 ([])):Option (Jn (List Int) (List Con))).bind fun j=>match j with | .nx g12_0_16=>((wi (r_.vars.length:Int) 0).bind fun x78=>((bx (fQ fu m r_ g12_0_16) fu ([],x78,true)):Option (Jn ((List Con) × (List Int) × Bool) (List Con))).bind fun j=>match j with | .nx (out_86,row_88,more_90)=>(some out_86) | .out t=>some t) | .out t=>some t
def pO (fu:Nat) (m:Model) (r_:Rule):Option (List Con):=
 if (r_.kind == 1) then ((mP fu m r_).bind fun x15=>some x15) else (if (r_.kind == 2) then ((kd fu m r_).bind fun x31=>some x31) else ((mO fu m r_).bind fun x46=>some x46))
def fX (m:Model) (i_31:Nat) (_x_34:Int):(List Con)→Option (Lo (List Con) ((List Con) × Bool))
 | out_32=>(qu m (i_31:Int)).bind fun x41=>(app out_32 x41).bind fun x44=>some (.cont x44)
def fU (fu:Nat) (m:Model) (_i_58:Nat) (x_63:Rule):(List Con)→Option (Lo (List Con) ((List Con) × Bool))
 | out_59=>(pO fu m x_63).bind fun x74=>(app out_59 x74).bind fun x77=>some (.cont x77)
def kc (fu:Nat) (m:Model):Option ((List Con) × Bool):=
 (ld fu m).bind fun x10=>if (!x10) then (some ([],false)) else (((aw (fX m) m.sizes 0 ([])):Option (Jn (List Con) ((List Con) × Bool))).bind fun j=>match j with | .nx out_32=>(((aw (fU fu m) m.rules 0 out_32):Option (Jn (List Con) ((List Con) × Bool))).bind fun j=>match j with | .nx out_59=>(if decide ((out_59.length:Int) > 400) then (some ([],false)) else (some (out_59,true))) | .out t=>some t) | .out t=>some t)
def dP (s2:List Term) (i_2:Nat) (x_5:Term):(Unit)→Option (Lo (Unit) (Bool))
 | ()=>(idx s2 (i_2:Int)).bind fun x11=>if (!(x_5 == x11)) then (some (.out false)) else (some (.cont ()))
def eV (s1:List Term) (s2:List Term):Option (Bool):=
 if ((s1.length:Int) != (s2.length:Int)) then (some false) else (((aw (dP s2) s1 0 ()):Option (Jn (Unit) (Bool))).bind fun j=>match j with | .nx _=>(some true) | .out t=>some t)
def fW (a:Con) (b:Con):Option (Bool):=
 (if (a.bound == b.bound) then ((eV a.terms b.terms).bind fun x14=>some x14) else some false).bind fun b16=>some b16
def jF (b:List Con) (i_2:Nat) (x_5:Con):(Unit)→Option (Lo (Unit) (Bool))
 | ()=>(idx b (i_2:Int)).bind fun x11=>(fW x_5 x11).bind fun x21=>if (!x21) then (some (.out false)) else (some (.cont ()))
def kx (a:List Con) (b:List Con):Option (Bool):=
 if ((a.length:Int) != (b.length:Int)) then (some false) else (((aw (jF b) a 0 ()):Option (Jn (Unit) (Bool))).bind fun j=>match j with | .nx _=>(some true) | .out t=>some t)
def di (f_:(Con→Option Bool)) (i_1:Nat) (x_2:Con):(Unit)→Option (Lo (Unit) (Int))
 | ()=>(f_ x_2).bind fun x8=>if x8 then (some (.out (i_1:Int))) else (some (.cont ()))
def dv (s:List Con) (f_:(Con→Option Bool)):Option (Int):=
 ((aw (di f_) s 0 ()):Option (Jn (Unit) (Int))).bind fun j=>match j with | .nx _=>(some (-1)) | .out t=>some t
def cD (s:List Con) (f_:(Con→Option Bool)):Option (Bool):=
 (dv s f_).bind fun x6=>some (decide (x6 ≥ 0))
def jK (c:Con):Option (Bool):=
 (bW c).bind fun x10=>some (!x10)
def oJ (list:List Con):Option (Bool):=
 (cD list jK).bind fun x6=>some (!x6)
def il (list:List Con):Option (Bool):=
 (if decide ((list.length:Int)≤400) then ((oJ list).bind fun x6=>some x6) else some false).bind fun b8=>some b8
def np (l:Int) (p:List Int):Option (Int):=
 if decide (l<0) then ((idx p (i64 ((i64 (-l)) - 1))).bind fun x2=>some (i64 (-x2))) else ((idx p (i64 (l - 1))).bind fun x11=>some x11)
def gz (p:List Int) (_i_5:Nat) (x_7:Term):(Int)→Option (Lo (Int) (Int))
 | out_6=>(np x_7.lit p).bind fun x28=>((if decide (x28 ≥ 0) then (some (i64 (out_6+x_7.coef))) else (some out_6)):Option (Int)).bind fun out_36=>some (.cont out_36)
def e7 (c:Con) (p:List Int):Option (Int):=
 ((aw (gz p) c.terms 0 (i64 (-c.bound))):Option (Jn (Int) (Int))).bind fun j=>match j with | .nx out_6=>(some out_6) | .out t=>some t
def fx (p:List Int) (x10:Int) (_i_18:Nat) (x_21:Term):(List Int)→Option (Lo (List Int) (List Int))
 | out_19=>(np x_21.lit p).bind fun x43=>((if ((x43 == 0) && (decide (x_21.coef > x10))) then ((app out_19 ([x_21.lit])).bind fun x60=>some x60) else (some out_19)):Option (List Int)).bind fun out_53=>some (.cont out_53)
def fi (c:Con) (p:List Int):Option (List Int):=
 (e7 c p).bind fun x10=>((aw (fx p x10) c.terms 0 ([])):Option (Jn (List Int) (List Int))).bind fun j=>match j with | .nx out_19=>(some out_19) | .out t=>some t
def jz (_i_73:Nat) (x_76:Int):((List Int) × Bool)→Option (Lo ((List Int) × Bool) (Lo ((List Int) × Bool) (Lo ((List Int) × Bool) ((List Int) × Int))))
 | (out_74,made_75)=>((if decide (x_76 > 0) then ((idx out_74 (i64 (x_76 - 1))).bind fun x89=>some (out_74.set (Int.toNat (i64 (x_76 - 1))) 1)) else ((idx out_74 (i64 ((i64 (-x_76)) - 1))).bind fun x96=>some (out_74.set (Int.toNat (i64 ((i64 (-x_76)) - 1))) (-1)))):Option (List Int)).bind fun out_86=>some (.cont (out_86,true))
def ir (i_21:Nat) (x_24:Con):((List Int) × Bool)→Option (Lo ((List Int) × Bool) (Lo ((List Int) × Bool) ((List Int) × Int)))
 | (out_22,made_23)=>(e7 x_24 out_22).bind fun x46=>if decide (x46<0) then (some (.out (.out (out_22,(i_21:Int))))) else ((fi x_24 out_22).bind fun x62=>((aw jz x62 0 (out_22,made_23)):Option (Jn ((List Int) × Bool) (Lo ((List Int) × Bool) (Lo ((List Int) × Bool) ((List Int) × Int))))).bind fun j=>match j with | .nx (out_74,made_75)=>(some (.cont (out_74,made_75))) | .out t=>some t)
def iv (list:List Con):((List Int) × Bool)→Option (Lo ((List Int) × Bool) ((List Int) × Int))
 | (out_17,made_18)=>if made_18 then (((aw ir list 0 (out_17,false)):Option (Jn ((List Int) × Bool) (Lo ((List Int) × Bool) ((List Int) × Int)))).bind fun j=>match j with | .nx (out_22,made_23)=>(some (.cont (out_22,made_23))) | .out t=>some t) else (some (.brk (out_17,made_18)))
def kC (fu:Nat) (list:List Con) (p:List Int):Option ((List Int) × Int):=
 (cJ p).bind fun x6=>((bx (iv list) fu (x6,true)):Option (Jn ((List Int) × Bool) ((List Int) × Int))).bind fun j=>match j with | .nx (out_17,made_18)=>(some (out_17,(-1))) | .out t=>some t
def mr (cells:List Int) (_i_5:Nat) (x_8:Int):(List Int)→Option (Lo (List Int) (Bool))
 | vals_6=>(idx cells x_8).bind fun x19=>(app vals_6 ([x19])).bind fun x27=>some (.cont x27)
def oc (r_:Rule) (cells:List Int):Option (Bool):=
 ((aw (mr cells) r_.vars 0 ([])):Option (Jn (List Int) (Bool))).bind fun j=>match j with | .nx vals_6=>((jP r_ vals_6).bind fun x47=>some x47) | .out t=>some t
def fY (c1:List Int) (r_:Rule):Option (Bool):=
 (oc r_ c1).bind fun x10=>some (!x10)
def hZ (m:Model) (cells:List Int):Option (Bool):=
 (cm m.rules (fY cells)).bind fun x14=>some (!x14)
def iF (m:Model) (cells_63:List Int) (g22_0_64:Int):Option (Bool × Int):=
 (hZ m cells_63).bind fun x80=>((if x80 then (some (i64 (g22_0_64+1))) else (some g22_0_64)):Option (Int)).bind fun g22_0_89=>some (true,g22_0_89)
def kj (m:Model):((List Int) × Int)→Option (Lo ((List Int) × Int) (Lo ((List Int) × Int) (Int)))
 | (cells_96,i_97)=>(if decide (i_97 ≥ 0) then ((idx cells_96 i_97).bind fun x101=>(idx m.sizes i_97).bind fun x106=>some (x101 == x106)) else some false).bind fun b111=>if b111 then ((idx cells_96 i_97).bind fun x134=>some (.cont ((cells_96.set (Int.toNat i_97) 0),i64 (i_97 - 1)))) else (some (.brk (cells_96,i_97)))
def gH (fu:Nat) (m:Model):((List Int) × Int)→Option (Lo ((List Int) × Int) (Int))
 | (cells_63,g22_0_64)=>(iF m cells_63 g22_0_64).bind fun (ret0_68,g22_0_69)=>if ret0_68 then (((bx (kj m) fu (cells_63,i64 ((cells_63.length:Int) - 1))):Option (Jn ((List Int) × Int) (Lo ((List Int) × Int) (Int)))).bind fun j=>match j with | .nx (cells_96,i_97)=>(if decide (i_97<0) then (some (.out g22_0_69)) else ((idx cells_96 i_97).bind fun x142=>some (.cont ((cells_96.set (Int.toNat i_97) (i64 (x142+1))),g22_0_69)))) | .out t=>some t) else (some (.brk (cells_63,g22_0_69)))
def lW (fu:Nat) (m:Model) (x25:List Int):Option (Int):=
 (cJ x25).bind fun x51=>((bx (gH fu m) fu (x51,0)):Option (Jn ((List Int) × Int) (Int))).bind fun j=>match j with | .nx (cells_63,g22_0_64)=>(some g22_0_64) | .out t=>some t
def kR (fu:Nat) (m:Model):Option (Int):=
 (gQ m).bind fun x10=>if (!x10) then (some 0) else ((wi (m.sizes.length:Int) 0).bind fun x25=>(lW fu m x25).bind fun g22_0_29=>some g22_0_29)
def lV (m:Model) (i_21:Nat) (x_22:Int):(Unit)→Option (Lo (Unit) (Bool))
 | ()=>(idx m.sizes (i_21:Int)).bind fun x32=>(cX x_22 0 x32).bind fun x42=>if (!x42) then (some (.out false)) else (some (.cont ()))
def lf (m:Model) (cells:List Int):Option (Bool):=
 (gQ m).bind fun x10=>if ((!x10) || ((cells.length:Int) != (m.sizes.length:Int))) then (some false) else (((aw (lV m) cells 0 ()):Option (Jn (Unit) (Bool))).bind fun j=>match j with | .nx _=>(some true) | .out t=>some t)
def sy (fuel:Int):Option (Bool):=
 (cX fuel 0 2000).bind fun x6=>some x6
def cz (s:List Con):Option (List Con):=
 (app ([]) s).bind fun x7=>some x7
def gW (i_1:Nat) (x_4:Int):(List Bool)→Option (Lo (List Bool) ((List Bool) × Int × Bool))
 | out_2=>if (x_4 == 0) then (some (.out ([],i64 ((i_1:Int)+1),false))) else ((app out_2 ([decide (x_4 > 0)])).bind fun x20=>some (.cont x20))
def mQ (p:List Int):Option ((List Bool) × Int × Bool):=
 ((aw gW p 0 ([])):Option (Jn (List Bool) ((List Bool) × Int × Bool))).bind fun j=>match j with | .nx out_2=>(some (out_2,0,true)) | .out t=>some t
def eW (s:List Term):Option (List Term):=
 (app ([]) s).bind fun x7=>some x7
def eZ (c:Con):Option (Con):=
 (eW c.terms).bind fun x14=>some ({ terms:=x14,bound:=c.bound }:Con)
def hT (_i_1:Nat) (x_4:Int):(List Int)→Option (Lo (List Int) ((List Con) × (List Step)))
 | lits_2=>(app lits_2 ([i64 (-x_4)])).bind fun x18=>some (.cont x18)
def im (fu:Nat) (s:Srch) (decisions:List Int):Option ((List Con) × (List Step)):=
 ((aw hT decisions 0 ([])):Option (Jn (List Int) ((List Con) × (List Step)))).bind fun j=>match j with | .nx lits_2=>((ku fu lits_2).bind fun x34=>(app s.list ([x34.1])).bind fun x57=>(eZ x34.1).bind fun x83=>(app s.steps ([({ kind:=7,a:=0,b:=0,given:=x83 }:Step)])).bind fun x89=>some (x57,x89)) | .out t=>some t
def fk (_i_16:Nat) (x_18:Int):(List Int)→Option (Lo (List Int) ((List Bool) × Bool × (List Con) × Int × (List Step) × Bool))
 | p_17=>(dW x_18).bind fun x33=>(idx p_17 (i64 (x33 - 1))).bind fun x35=>((if decide (x_18<0) then ((idx (p_17.set (Int.toNat (i64 (x33 - 1))) 1) (i64 ((i64 (-x_18)) - 1))).bind fun x51=>some ((p_17.set (Int.toNat (i64 (x33 - 1))) 1).set (Int.toNat (i64 ((i64 (-x_18)) - 1))) (-1))) else (some (p_17.set (Int.toNat (i64 (x33 - 1))) 1))):Option (List Int)).bind fun p_48=>some (.cont p_48)
def aS (decisions:List Int) (rec_:(Srch→(List Int)→Option ((List Bool) × Bool × (List Con) × Int × (List Step) × Bool))) (_i_107:Nat) (x_116:Int):((List Con) × Int × (List Step) × Bool)→Option (Lo ((List Con) × Int × (List Step) × Bool) (Jn ((List Con) × Int × (List Step) × Bool) ((List Bool) × Bool × (List Con) × Int × (List Step) × Bool)))
 | (g_0_0_108,g_0_1_110,g_0_2_111,g_0_3_113)=>(cJ decisions).bind fun x127=>(app x127 ([x_116])).bind fun x133=>(rec_ ({ list:=g_0_0_108,fuel:=g_0_1_110,steps:=g_0_2_111,much:=g_0_3_113 }:Srch) x133).bind fun x140=>if (x140.2.1 || x140.2.2.2.2.2) then (some (.out (.out (x140.1,x140.2.1,x140.2.2.1,x140.2.2.2.1,x140.2.2.2.2.1,x140.2.2.2.2.2)))) else (some (.cont (x140.2.2.1,x140.2.2.2.1,x140.2.2.2.2.1,x140.2.2.2.2.2)))
def fG (fu:Nat) (rec_:Srch→(List Int)→Option ((List Bool) × Bool × (List Con) × Int × (List Step) × Bool)) (s:Srch) (decisions:List Int):Option ((List Bool) × Bool × (List Con) × Int × (List Step) × Bool):=
 if ((s.fuel == 0) || (decide ((s.steps.length:Int) ≥ 1000))) then (some ([],false,s.list,s.fuel,s.steps,true)) else ((wi 12 0).bind fun x9=>((aw fk decisions 0 x9):Option (Jn (List Int) ((List Bool) × Bool × (List Con) × Int × (List Step) × Bool))).bind fun j=>match j with | .nx p_17=>((kC fu s.list p_17).bind fun x61=>((if decide (x61.2<0) then ((mQ x61.1).bind fun x89=>if x89.2.2 then (some (.out (x89.1,true,s.list,i64 (s.fuel - 1),s.steps,s.much))) else (((aw (aS decisions rec_) ([x89.2.1,i64 (-x89.2.1)]) 0 (s.list,i64 (s.fuel - 1),s.steps,s.much)):Option (Jn ((List Con) × Int × (List Step) × Bool) (Jn ((List Con) × Int × (List Step) × Bool) ((List Bool) × Bool × (List Con) × Int × (List Step) × Bool)))).bind fun j=>match j with | .nx (g_0_0_108,g_0_1_110,g_0_2_111,g_0_3_113)=>(if decide ((g_0_2_111.length:Int) ≥ 1000) then (some (.out ([],false,g_0_0_108,g_0_1_110,g_0_2_111,true))) else (some (.nx (g_0_0_108,g_0_1_110,g_0_2_111,g_0_3_113)))) | .out t=>some t)) else (some (.nx (s.list,i64 (s.fuel - 1),s.steps,s.much)))):Option (Jn ((List Con) × Int × (List Step) × Bool) ((List Bool) × Bool × (List Con) × Int × (List Step) × Bool))).bind fun j=>match j with | .nx (g_0_0_73,g_0_1_75,g_0_2_76,g_0_3_78)=>((im fu ({ list:=g_0_0_73,fuel:=g_0_1_75,steps:=g_0_2_76,much:=g_0_3_78 }:Srch) decisions).bind fun x172=>some ([],false,x172.1,g_0_1_75,x172.2,g_0_3_78)) | .out t=>some t) | .out t=>some t)
def bb (fu:Nat):Nat→Srch→(List Int)→Option ((List Bool) × Bool × (List Con) × Int × (List Step) × Bool)
 | 0=>fun _ _=>none
 | n+1=>fG fu (bb fu n)
def la (fu:Nat) (s:Srch) (decisions:List Int):Option ((List Bool) × Bool × (List Con) × Int × (List Step) × Bool):=bb fu fu s decisions
def jG (fu:Nat) (list:List Con) (fuel:Int):Option (Int × (List Bool) × (List Step)):=
 (il list).bind fun x6=>(if (!x6) then some true else ((sy fuel).bind fun x13=>some (!x13))).bind fun b15=>if b15 then (some (3,[],[])) else ((cz list).bind fun x33=>(la fu ({ list:=x33,fuel:=fuel,steps:=[],much:=false }:Srch) ([])).bind fun x43=>if x43.2.1 then (some (1,x43.1,[])) else (if x43.2.2.2.2.2 then (some (0,[],[])) else (some (2,[],x43.2.2.2.2.1))))
def jh (values:List Bool) (i_43:Nat) (x_47:Int):((List Int) × Int)→Option (Lo ((List Int) × Int) (Lo (List Int) ((List Int) × Bool)))
 | (out_44,count_46)=>(idx values (i64 (x_47 - 1))).bind fun x57=>((if x57 then ((app out_44 ([(i_43:Int)])).bind fun x74=>some (x74,i64 (count_46+1))) else (some (out_44,count_46))):Option ((List Int) × Int)).bind fun (out_66,count_68)=>some (.cont (out_66,count_68))
def gR (m:Model) (values:List Bool) (i_22:Nat) (_x_25:Int):(List Int)→Option (Lo (List Int) ((List Int) × Bool))
 | out_23=>(gl m (i_22:Int)).bind fun x33=>((aw (jh values) x33 0 (out_23,0)):Option (Jn ((List Int) × Int) (Lo (List Int) ((List Int) × Bool)))).bind fun j=>match j with | .nx (out_44,count_46)=>(if (count_46 != 1) then (some (.out ([],false))) else (some (.cont out_44))) | .out t=>some t
def jr (m:Model) (values:List Bool):Option ((List Int) × Bool):=
 (gQ m).bind fun x10=>if ((!x10) || ((values.length:Int) != 12)) then (some ([],false)) else (((aw (gR m values) m.sizes 0 ([])):Option (Jn (List Int) ((List Int) × Bool))).bind fun j=>match j with | .nx out_23=>(some (out_23,true)) | .out t=>some t)
def kb (m:Model) (cells:List Int):Option (Bool):=
 (lf m cells).bind fun x10=>(if x10 then ((hZ m cells).bind fun x17=>some x17) else some false).bind fun b19=>some b19
def nT (kind:Int):Option (Int × Bool):=
 if (kind == 1) then (some (2,false)) else (((if (kind == 2) then (some (kind == 2)) else (((if (kind == 3) then (some (kind == 3)) else (some (kind == 5))):Option (Bool)).bind fun t7_5=>some t7_5)):Option (Bool)).bind fun t7_2=>if t7_2 then (some (1,true)) else (((if (kind == 4) then (some (kind == 4)) else (some (kind == 8))):Option (Bool)).bind fun t11_9=>if t11_9 then (some (1,false)) else (((if (kind == 6) then (some (kind == 6)) else (some (kind == 7))):Option (Bool)).bind fun t14_13=>if t14_13 then (some (0,false)) else (some ((-1),false)))))
def jX (s:Step):Option (Bool):=
 (nT s.kind).bind fun x10=>(if (((decide (x10.1 ≥ 0)) && (((decide (x10.1 > 0)) || (s.kind == 6)) || (s.a == 0))) && (((x10.1 == 2) || x10.2) || (s.b == 0))) then ((if (s.kind == 7) then some true else ((fW s.given ({ terms:=[],bound:=0 }:Con)).bind fun x23=>some x23)).bind fun b25=>some b25) else some false).bind fun b26=>some b26
def iP (r_:Db) (i:Int):Option (Bool):=
 (cX i 0 (i64 ((r_.list.length:Int) - 1))).bind fun x6=>(if x6 then ((idx r_.gone i).bind fun x8=>some (!x8)) else some false).bind fun b13=>some b13
def ct (_i_1:Nat) (x_3:List Term):(Int)→Option (Lo (Int) (List Term))
 | size_2=>((if decide ((i64 (size_2+(x_3.length:Int)))<0) then (none) else (some ())):Option (Unit)).bind fun _=>some (.cont (i64 (size_2+(x_3.length:Int))))
def eM (size_2:Int):Option (List Term):=
 ((if decide (size_2<0) then (none) else (some ())):Option (Unit)).bind fun _=>((if decide ((i64 (size_2 - (i64 (0 - 0)))) > 0) then ((wi (i64 (size_2 - (i64 (0 - 0)))) ({ coef:=0,lit:=0 }:Term)).bind fun x27=>(sl x27 0 0).bind fun x31=>some x31) else (some ([]))):Option (List Term)).bind fun s_23=>some s_23
def eN (_i_40:Nat) (x_43:List Term):(List Term)→Option (Lo (List Term) (List Term))
 | newslice_41=>(app newslice_41 x_43).bind fun x53=>some (.cont x53)
def eB (slices:List (List Term)):Option (List Term):=
 ((aw ct slices 0 0):Option (Jn (Int) (List Term))).bind fun j=>match j with | .nx size_2=>((eM size_2).bind fun ret0_15=>((aw eN slices 0 ret0_15):Option (Jn (List Term) (List Term))).bind fun j=>match j with | .nx newslice_41=>(some newslice_41) | .out t=>some t) | .out t=>some t
def iw (a:Con) (b:Con):Option (Con × Bool):=
 (bW a).bind fun x18=>(if (!x18) then some true else ((bW b).bind fun x25=>some (!x25))).bind fun b27=>if b27 then (some (({ terms:=[],bound:=0 }:Con),false)) else ((eB ([a.terms,b.terms])).bind fun x54=>(mR x54 (i64 (a.bound+b.bound))).bind fun x60=>some (x60.1,x60.2))
def dZ (change:(Int→Option Int)) (i_45:Nat) (_x_49:Term):(List Term)→Option (Lo (List Term) (Con × Bool))
 | g27_0_46=>(idx g27_0_46 (i_45:Int)).bind fun x51=>(change x51.coef).bind fun x56=>some (.cont (g27_0_46.set (Int.toNat (i_45:Int)) ({ x51 with coef:=x56 })))
def ea (c:Con) (change:(Int→Option Int)):Option (Con × Bool):=
 (eZ c).bind fun x14=>(change c.bound).bind fun x30=>((aw (dZ change) x14.terms 0 x14.terms):Option (Jn (List Term) (Con × Bool))).bind fun j=>match j with | .nx g27_0_46=>((e6 ({ terms:=g27_0_46,bound:=x30 }:Con)).bind fun x87=>some (x87.1,x87.2)) | .out t=>some t
def cQ (c1:Int) (n_:Int):Option (Int):=
 some (i64 (n_ * c1))
def fl (c:Con) (k:Int):Option (Con × Bool):=
 (bW c).bind fun x18=>(if (!x18) then some true else ((cX k 1 1000).bind fun x25=>some (!x25))).bind fun b27=>if b27 then (some (({ terms:=[],bound:=0 }:Con),false)) else ((ea c (cQ k)).bind fun x48=>some (x48.1,x48.2))
def dh (c1:Int) (n_:Int):Option (Int):=
 (if c1=0 then none else some ()).bind fun _=>some (i64 (Int.tdiv (i64 ((i64 (n_+c1)) - 1)) c1))
def gm (c:Con) (k:Int):Option (Con × Bool):=
 (bW c).bind fun x18=>(if (!x18) then some true else ((cX k 1 1000).bind fun x25=>some (!x25))).bind fun b27=>if b27 then (some (({ terms:=[],bound:=0 }:Con),false)) else ((ea c (dh k)).bind fun x48=>some (x48.1,x48.2))
def ef (c:Con) (_i_36:Nat) (x_39:Term):(List Term)→Option (Lo (List Term) (List Term))
 | g29_0_37=>(app g29_0_37 ([({ coef:=min x_39.coef c.bound,lit:=x_39.lit }:Term)])).bind fun x59=>some (.cont x59)
def fm (c:Con):Option (Con × Bool):=
 (bW c).bind fun x14=>if (!x14) then (some (({ terms:=[],bound:=0 }:Con),false)) else (((if decide (c.bound > 0) then (((aw (ef c) c.terms 0 ([])):Option (Jn (List Term) (List Term))).bind fun j=>match j with | .nx g29_0_37=>(some g29_0_37) | .out t=>some t) else (some ([]))):Option (List Term)).bind fun g29_0_32=>some (({ terms:=g29_0_32,bound:=c.bound }:Con),true))
def eS (c:Con) (variable_:Int) (_i_48:Nat) (x_52:Term):((List Term) × Int)→Option (Lo ((List Term) × Int) (Con × Bool))
 | (g45_0_49,g45_1_51)=>(dW x_52.lit).bind fun x74=>((if (x74 == variable_) then (some (g45_0_49,max 0 (i64 (c.bound - x_52.coef)))) else ((app g45_0_49 ([x_52])).bind fun x92=>some (x92,g45_1_51))):Option ((List Term) × Int)).bind fun (g45_0_82,g45_1_84)=>some (.cont (g45_0_82,g45_1_84))
def gi (c:Con) (variable_:Int):Option (Con × Bool):=
 (bW c).bind fun x14=>(if (!x14) then some true else ((cX variable_ 1 12).bind fun x21=>some (!x21))).bind fun b23=>if b23 then (some (({ terms:=[],bound:=0 }:Con),false)) else (((aw (eS c variable_) c.terms 0 ([],c.bound)):Option (Jn ((List Term) × Int) (Con × Bool))).bind fun j=>match j with | .nx (g45_0_49,g45_1_51)=>(some (({ terms:=g45_0_49,bound:=g45_1_51 }:Con),true)) | .out t=>some t)
def jy (lit:Int):Option (Con × Bool):=
 (gP lit).bind fun x10=>if (!x10) then (some (({ terms:=[],bound:=0 }:Con),false)) else (some (({ terms:=[({ coef:=1,lit:=lit }:Term)],bound:=0 }:Con),true))
def gA (_i_5:Nat) (x_7:Term):(Int)→Option (Lo (Int) (Int))
 | sum_6=>some (.cont (i64 (sum_6+x_7.coef)))
def eY (c:Con):Option (Int):=
 ((aw gA c.terms 0 0):Option (Jn (Int) (Int))).bind fun j=>match j with | .nx sum_6=>(some sum_6) | .out t=>some t
def fe (_i_38:Nat) (x_41:Term):(List Term)→Option (Lo (List Term) (Con))
 | g36_0_39=>(app g36_0_39 ([({ coef:=x_41.coef,lit:=i64 (-x_41.lit) }:Term)])).bind fun x61=>some (.cont x61)
def eR (c:Con):Option (Con):=
 (eY c).bind fun x14=>((aw fe c.terms 0 ([])):Option (Jn (List Term) (Con))).bind fun j=>match j with | .nx g36_0_39=>(some ({ terms:=g36_0_39,bound:=max 0 (i64 ((i64 (x14 - c.bound))+1)) }:Con)) | .out t=>some t
def zh (fu:Nat) (list:List Con) (c:Con):Option (Bool):=
 (cz list).bind fun x5=>(eR c).bind fun x13=>(app x5 ([x13])).bind fun x19=>(wi 12 0).bind fun x25=>(kC fu x19 x25).bind fun x36=>some (decide (x36.2 ≥ 0))
def iY (r_:Db) (i_1:Nat) (x_4:Con):(List Con)→Option (Lo (List Con) (List Con))
 | out_2=>(idx r_.gone (i_1:Int)).bind fun x21=>((if (!x21) then ((app out_2 ([x_4])).bind fun x37=>some x37) else (some out_2)):Option (List Con)).bind fun out_30=>some (.cont out_30)
def jA (r_:Db):Option (List Con):=
 ((aw (iY r_) r_.list 0 ([])):Option (Jn (List Con) (List Con))).bind fun j=>match j with | .nx out_2=>(some out_2) | .out t=>some t
def ia (fu:Nat) (r_:Db) (s:Step):Option (Bool × (List Con) × (List Bool)):=
 (nT s.kind).bind fun x10=>(jX s).bind fun x23=>(if (!x23) then some true else ((if decide (x10.1 > 0) then ((iP r_ s.a).bind fun x25=>some (!x25)) else some false).bind fun b27=>some b27)).bind fun b28=>(if b28 then some true else ((if decide (x10.1 > 1) then ((iP r_ s.b).bind fun x29=>some (!x29)) else some false).bind fun b31=>some b31)).bind fun b32=>if b32 then (some (false,r_.list,r_.gone)) else (if (s.kind == 8) then ((idx r_.gone s.a).bind fun x58=>some (true,r_.list,(r_.gone.set (Int.toNat s.a) true))) else (((if (s.kind == 1) then ((idx r_.list s.a).bind fun x74=>(idx r_.list s.b).bind fun x79=>(iw x74 x79).bind fun x82=>some (x82.2,x82.1.terms,x82.1.bound)) else (((if (s.kind == 2) then ((idx r_.list s.a).bind fun x118=>(fl x118 s.b).bind fun x123=>some (x123.2,x123.1.terms,x123.1.bound)) else (((if (s.kind == 3) then ((idx r_.list s.a).bind fun x154=>(gm x154 s.b).bind fun x159=>some (x159.2,x159.1.terms,x159.1.bound)) else (((if (s.kind == 4) then ((idx r_.list s.a).bind fun x190=>(fm x190).bind fun x200=>some (x200.2,x200.1.terms,x200.1.bound)) else (((if (s.kind == 5) then ((idx r_.list s.a).bind fun x246=>(gi x246 s.b).bind fun x256=>some (x256.2,x256.1.terms,x256.1.bound)) else (((if (s.kind == 6) then ((jy s.a).bind fun x307=>some (x307.2,x307.1.terms,x307.1.bound)) else (((if (s.kind == 7) then ((bW s.given).bind fun x335=>(if x335 then ((jA r_).bind fun x337=>(zh fu x337 s.given).bind fun x346=>some x346) else some false).bind fun b348=>some (b348,s.given.terms,s.given.bound)) else (some (false,[],0))):Option (Bool × (List Term) × Int)).bind fun (ok_322,g55_0_323,g55_1_325)=>some (ok_322,g55_0_323,g55_1_325))):Option (Bool × (List Term) × Int)).bind fun (ok_294,g55_0_295,g55_1_297)=>some (ok_294,g55_0_295,g55_1_297))):Option (Bool × (List Term) × Int)).bind fun (ok_238,g55_0_239,g55_1_241)=>some (ok_238,g55_0_239,g55_1_241))):Option (Bool × (List Term) × Int)).bind fun (ok_182,g55_0_183,g55_1_185)=>some (ok_182,g55_0_183,g55_1_185))):Option (Bool × (List Term) × Int)).bind fun (ok_146,g55_0_147,g55_1_149)=>some (ok_146,g55_0_147,g55_1_149))):Option (Bool × (List Term) × Int)).bind fun (ok_110,g55_0_111,g55_1_113)=>some (ok_110,g55_0_111,g55_1_113))):Option (Bool × (List Term) × Int)).bind fun (ok_66,g55_0_67,g55_1_69)=>(app r_.list ([({ terms:=g55_0_67,bound:=g55_1_69 }:Con)])).bind fun x407=>(app r_.gone ([false])).bind fun x414=>some (ok_66,x407,x414)))
def nW (fu:Nat) (list:List Con) (i_42:Nat) (x_49:Step):((List Con) × (List Bool))→Option (Lo ((List Con) × (List Bool)) ((Option Db) × Int))
 | (g40_0_43,g40_1_45)=>(ia fu ({ list:=g40_0_43,gone:=g40_1_45 }:Db) x_49).bind fun x65=>if (!x65.1) then (some (.out (none,(i_42:Int)))) else (some (.cont (x65.2.1,x65.2.2)))
def zt (fu:Nat) (list:List Con) (steps:List Step):Option ((Option Db) × Int):=
 (il list).bind fun x6=>if ((!x6) || (decide ((steps.length:Int) > 1000))) then (some (none,0)) else ((cz list).bind fun x18=>(wi (list.length:Int) false).bind fun x21=>((aw (nW fu list) steps 0 (x18,x21)):Option (Jn ((List Con) × (List Bool)) ((Option Db) × Int))).bind fun j=>match j with | .nx (g40_0_43,g40_1_45)=>(some ((some ({ list:=g40_0_43,gone:=g40_1_45 }:Db)),(-1))) | .out t=>some t)
def gM (c:Con):Option (Bool):=
 (bW c).bind fun x10=>(if x10 then ((eY c).bind fun x17=>some (decide (c.bound > x17))) else some false).bind fun b19=>some b19
def j9 (x9:Db) (i_15:Nat) (x_16:Con):(Unit)→Option (Lo (Unit) ((Option Db) × Int))
 | ()=>(idx x9.gone (i_15:Int)).bind fun x32=>(if (!x32) then ((gM x_16).bind fun x42=>some x42) else some false).bind fun b44=>if b44 then (some (.out ((some x9),(i_15:Int)))) else (some (.cont ()))
def mG (fu:Nat) (list:List Con) (steps:List Step):Option ((Option Db) × Int):=
 (zt fu list steps).bind fun x1=>if decide (x1.2 ≥ 0) then (some (none,(-1))) else (x1.1.bind fun x9=>((aw (j9 x9) x9.list 0 ()):Option (Jn (Unit) ((Option Db) × Int))).bind fun j=>match j with | .nx _=>(some ((some x9),(-1))) | .out t=>some t)
def gT (fu:Nat) (list:List Con) (steps:List Step):Option (Bool):=
 (mG fu list steps).bind fun x1=>some (decide (x1.2 ≥ 0))
noncomputable def jN (fu:Nat) (code:List UInt8):Option (Bool):=
 if decide ((code.length:Int) > 1048576) then (some true) else (zG (gK fu code) (fun o:Model=>fD o) fun x2=>(kf fu x2).bind fun x11=>(kc fu x2).bind fun x21=>(if (x11.2 != x21.2) then some true else ((kx x11.1 x21.1).bind fun x38=>some (!x38))).bind fun b40=>if (b40 || (!x11.2)) then ((if (x11.2 == x21.2) then ((kx x11.1 x21.1).bind fun x61=>some x61) else some false).bind fun b63=>some b63) else ((jG fu x11.1 2000).bind fun x80=>if (x80.1 == 1) then ((jr x2 x80.2.1).bind fun x100=>(if x100.2 then ((kb x2 x100.1).bind fun x117=>some x117) else some false).bind fun b119=>some b119) else ((if (x80.1 == 0) then some true else ((if (x80.1 == 2) then ((kR fu x2).bind fun x134=>some (x134 == 0)) else some false).bind fun b136=>(if b136 then ((gT fu x11.1 x80.2.2).bind fun x144=>some x144) else some false).bind fun b146=>some b146)).bind fun b147=>some b147)))
end Go.L

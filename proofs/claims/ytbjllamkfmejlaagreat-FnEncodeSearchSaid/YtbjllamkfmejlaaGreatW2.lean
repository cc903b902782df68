/- Part of a proof by program: W2. -/
import Derived.Test.YtbjllamkfmejlaaGreatD1
import Derived.Test.YtbjllamkfmejlaaGreatW1
namespace Go.Proofs.YtbjllamkfmejlaaGreat
open Go Go.E Go.L Go.RowKit
open Tryz hiding bits_Len
set_option linter.unusedVariables false
set_option linter.unusedSimpArgs false
set_option maxRecDepth 100000
theorem pc {fu:Nat} {lits:List Int} {v0:Value} {H:FH} {w:World} (Z:ab H w []) (h0:(rS 3 RP.int).rel H [v0] lits) {r:Con × Bool} (hF:ku fu lits=some r):C prog 48 #[v0] w fun v w'=>∃ (u1:Value),v=.tuple #[.agg #[u1,I r.1.bound],Bo r.2]∧ab H w' [oF 122 au u1 r.1.terms]:=by
 unfold ku at hF
 refine aE func48 U ntmps48 U (sq (dS (cs:=#[S0,I 0]) U zeroValue73 U Z (fun g3 w4 Z=>aB U (nq (sq (mV v0 U (aW U underlying23 U (ai h0) (c9 U U U (nn (al (b:=decide ((lits.length:Int) > 40)) U (fun gd=>?_) (fun gd=>?_)))))))))))
 have hF:=(az gd).symm.trans hF
 refine sq (da U (cC ) (eg  ) (bg (vs:=#[S0,I 0]) (cs2:=#[S0,I 0]) 0 U sizeOf73 U U U (aj U (aj U aK)) Z U (by show 0+2≤2; decide) U (fun w7 Z=>aB U (nn (aA (dc (v1:=.agg #[S0,I 0]) (v2:=Bo false) results48 (bC isAgg73 sizeOf73 U (ab.aM 0 Z U) U) U ?_))))))
 obtain rfl:=so hF
 have Z:=ab.bE (R:=(OR.bu au)) (e:=122) Z
 exact ⟨S0,U,(ab.aG 1 Z)⟩
 have hF:=(ay gd).symm.trans hF
 refine aq (ao (sq (mV v0 U (aW U underlying23 U (ai h0) (mI U (nn ?_))))))
 have en:List.length lits≤9223372036854775807:=bB (ai h0)
 obtain ⟨g6,a3,hF⟩:=bind_some hF
 obtain ⟨hz,e2⟩:=ca fun f w_=>g6=.nx ()∧f 0=v0∧f 2=Pt g3∧ab H w_ ([box g3 73 #[S0,I 0]])
 refine av hz ?_ ?_
 refine ak ?_
 obtain ⟨g7,c6⟩:=ff fun n f w_=>∃ b2:Nat,∃ an:List Int,n=an.length∧List.drop b2 lits=an∧b2+an.length=lits.length∧aw (lz lits) an b2 ()=some g6∧f 0=v0∧f 2=Pt g3∧f 14=v0∧f 15=I (lits.length:Int)∧f 16=I b2∧ab H w_ ([box g3 73 #[S0,I 0]])
 refine a8 g7 (n:=lits.length) ?_ ?_
 exact ij c6 ⟨0,lits,U,U,Nat.zero_add _,a3,U,U,U,U,U,Z⟩
 intro j3 f w_ hI
 obtain ⟨b2,an,rfl,e3,c3,a3,b3,a0,b4,b5,a5,Z⟩:=ik c6 hI
 refine sq (bh U a5 b5 (nq (al (b:=decide ((b2:Int)<(lits.length:Int))) U (fun c7=>?_) (fun c7=>?_))))
 have g0:=of_decide_eq_true c7
 rcases an with _ | ⟨e4,c4⟩
 exact absurd g0 (by simp at c3; omega)
 obtain ⟨j4,ag,a3⟩:=aJ a3
 rw [lz] at ag
 have g1:=aY e3
 refine aq (ao (ak (sq (bP (r:=RP.int) U underlying23 sizeOf3 b4 h0 a5 g1 (fun j5 j6 hy cp g2=>?_)))))
 obtain rfl:_=[_]:=cp
 refine bt U isAgg3 U (At.cell (dn.at g2 Z.sub) (j:=0) U) (aI U (nq ?_))
 obtain ⟨hA,g8,ag⟩:=bind_some ag
 obtain ⟨g9,a6,ag⟩:=bind_some ag
 obtain ⟨hB,c8⟩:=ca fun f w_=>f 0=v0∧f 2=Pt g3∧f 14=v0∧f 15=I (lits.length:Int)∧f 16=I b2∧f 28=Bo g9∧ab H w_ ([box g3 73 #[S0,I 0]])
 refine av hB ?_ ?_
 refine ae (mI U ?_)
 obtain ⟨h3,j7,hC,j8,hD⟩:=Z.borrow
 refine ar U call96 (b9 U) (nG (l:=e4) hC g8) ?_
 rintro _ kk ⟨rfl,Z⟩
 have Z:=hD Z c0
 refine bL U U (mB U (aD (d:=23) (b:=(!hA)) U (fun dd=>?_) (fun dd=>?_)))
 rw [az dd] at a6
 refine ps U (ps U (ps U (ps U (dU a6 U (nn (rj c8 ⟨b3,a0,b4,b5,a5,U,Z⟩))))))
 rw [ay dd] at a6
 obtain ⟨ks,ha,a6⟩:=bind_some a6
 refine mF b3 U (mI U (kg U U ?_))
 obtain ⟨h4,hE,hG,ky,hJ⟩:=Z.borrow
 refine ar U call97 (cu U U) (iW (s:=lits) (v_:=i64 (-e4)) hG (RP.mono _ h0 hE) ha) ?_
 rintro _ k0 ⟨rfl,Z⟩
 have Z:=hJ Z c0
 refine dU a6 U (nn (rj c8 ⟨b3,a0,b4,b5,a5,U,Z⟩))
 intro f w_ hR
 obtain ⟨b3,a0,b4,b5,a5,hb,Z⟩:=rk c8 hR
 refine al (b:=g9) hb (fun dg=>?_) (fun dg=>?_)
 have ag:=(az dg).symm.trans ag
 refine sq (da U (cC ) (eg  ) (bg (vs:=#[S0,I 0]) (cs2:=#[S0,I 0]) 0 U sizeOf73 a0 U U (aj U (aj U aK)) Z U (by show 0+2≤2; decide) U (fun lo Z=>aB U (nn (aA (dc (v1:=.agg #[S0,I 0]) (v2:=Bo false) results48 (bC isAgg73 sizeOf73 a0 (ab.aM 0 Z U) U) U ?_))))))
 obtain rfl:=so ag
 obtain rfl:=so a3
 obtain rfl:=so hF
 have Z:=ab.bE (R:=(OR.bu au)) (e:=122) Z
 exact ⟨S0,U,(ab.aG 1 Z)⟩
 have ag:=(ay dg).symm.trans ag
 refine aq (ae (bf U a5 U (mI U (nn ?_))))
 obtain rfl:=so ag
 show ∃ m,m<_∧g7 m _ _
 refine ⟨c4.length,by simp,?_⟩
 exact ij c6 ⟨b2+1,c4,U,aL e3,by simp at c3; omega,a3,b3,a0,b4,b5,((eI (aO (n:=lits.length) (by simp at c3; omega) en))),Z⟩
 rcases an with _ | ⟨_,_⟩
 obtain rfl:=aT a3
 refine a9 (rj e2 ⟨U,b3,a0,Z⟩)
 exact absurd (of_decide_eq_false c7) (by simp at c3; omega)
 intro f w_ hR
 obtain ⟨rfl,b3,a0,Z⟩:=rk e2 hR
 refine ao ?_
 obtain ⟨hK,hc,hF⟩:=bind_some hF
 refine ae (mF b3 U ?_)
 obtain ⟨h5,hN,hP,l0,hQ⟩:=Z.borrow
 refine ar U call62 (b9 U) (eX (s:=lits) hP (RP.mono _ h0 hN) hc) ?_
 rintro bd l1 ⟨_,rfl,Z⟩
 have Z:=hQ Z (co bk c0)
 refine aV bd U (nq ?_)
 obtain ⟨hf,hg,hF⟩:=bind_some hF
 refine ae (mV bd U ?_)
 obtain ⟨hh,l2,hS,l3,hV⟩:=Z.lS [_]
 have hi:xG prog RP.int RP.int false (Value.int .i64) b7 (.func (.func 99) #[] #[]) hh:=by
   refine ⟨_,_,U,call99,fun H_ w_ hE_ hs_ hj hk hl hn y_ args_ ho hp hy_ ha_=>?_⟩
   obtain rfl:hj=[_]:=ho
   obtain rfl:hk=[_]:=hp
   obtain rfl:=kZ (b:=#[I hl,I hn]) ha_
   exact vf (a:=hl) (b:=hn) hs_  hy_
 refine ar U call98 (cu U U) (pC (x:=hK) (cmp:=b7) hS hi hg) ?_
 rintro _ l4 ⟨rfl,Z⟩
 have Z:=hV Z (co bk c0)
 refine ns (da U (bG U) (mL (I 1) U) (dS (cs:=#[S0,I 0]) U zeroValue73 U Z (fun et l5 Z=>bg (vs:=#[S0,I 1]) (cs2:=#[S0,I 1]) 0 U sizeOf73 U U U (aj U (aj U aK)) Z U (by show 0+2≤2; decide) U (fun l7 Z=>nq (ao ?_)))))
 obtain ⟨b8,hq,hF⟩:=bind_some hF
 refine ae (mV bd U ?_)
 have Z:=Z.get 1 U
 obtain ⟨hW,h1,Z,dj⟩:=ab.freeze Z
 have dj:(rS 3 RP.int).rel hW [bd] hf:=dj
 refine ar U call101 (b9 U) (pK (s:=hf) Z dj hq) ?_
 rintro g4 l8 ⟨hr,h2,_,rfl,bs,Z⟩
 refine aW U underlying23 U (ai bs) (mI U (nn ?_))
 have ds:List.length b8≤9223372036854775807:=bB (ai bs)
 obtain ⟨e5,a2,hF⟩:=bind_some hF
 obtain ⟨hs,ec⟩:=ca fun f w_=>∃ J:List Term,∃ o,e5=.nx J∧f 2=Pt g3∧f 7=Pt et∧ab hr w_ ([oF 122 au o J,box et 73 #[o,I 1],box g3 73 #[S0,I 0]])
 refine av hs ?_ ?_
 refine ak ?_
 obtain ⟨fa,c1⟩:=ff fun n f w_=>∃ a4:Nat,∃ af:List Int,∃ J:List Term,∃ o,n=af.length∧List.drop a4 b8=af∧a4+af.length=b8.length∧aw j0 af a4 J=some e5∧f 2=Pt g3∧f 7=Pt et∧f 37=g4∧f 38=I (b8.length:Int)∧f 39=I a4∧ab hr w_ ([oF 122 au o J,box et 73 #[o,I 1],box g3 73 #[S0,I 0]])
 have Z:=ab.bE (R:=(OR.bu au)) (e:=122) Z
 refine a8 fa (n:=b8.length) ?_ ?_
 exact ij c1 ⟨0,b8,[],S0,U,U,Nat.zero_add _,a2,a0,U,U,U,U,Z⟩
 intro h6 f w_ hI
 obtain ⟨a4,af,J,o,rfl,ee,b0,a2,a0,c5,fo,fs,ej,Z⟩:=ik c1 hI
 refine sq (bh U ej fs (nq (al (b:=decide ((a4:Int)<(b8.length:Int))) U (fun c2=>?_) (fun c2=>?_))))
 have eu:=of_decide_eq_true c2
 rcases af with _ | ⟨a1,ch⟩
 exact absurd eu (by simp at b0; omega)
 obtain ⟨h7,b1,a2⟩:=aJ a2
 rw [j0] at b1
 have e0:=aY ee
 refine aq (ao (ak (sq (bP (r:=RP.int) U underlying23 sizeOf3 fo bs ej e0 (fun h8 h9 ht cn e1=>?_)))))
 obtain rfl:_=[_]:=cn
 refine bt U isAgg3 U (At.cell (dn.at e1 Z.sub) (j:=0) U) (aI U (nn ?_))
 obtain ⟨hv,g5,b1⟩:=bind_some b1
 refine ae (fA 0 ck c5 U (bw 1 Z isAgg71 U U U (mI U (da U (iB U U) (eF (I 1) (I a1) U U) (cS U (bG U) (gh (I 1) (I a1) ) Z (fun hx ih Z=>?_))))))
 have Z:=ab.dr (r:=au) (cs:=[I 1,I a1]) (x:=({ coef:=1,lit:=a1 }:Term)) Z (bM.2 U)
 have Z:=ab.bS (R:=(OR.bu au)) [([I 1,I a1],({ coef:=1,lit:=a1 }:Term))] [({ coef:=1,lit:=a1 }:Term)] 1 Z U U U (by decide)
 have Z:=Z.get 1 U
 refine cj (v:=o) (u:=(Sl hx 1 1)) U lN U U Z g5 (fun ek jn Z=>fA 0 ck c5 U (ei (v:=ek) (cs2:=#[ek,I 1]) 1 U sizeOf71 U U (aH (ab.len 0 Z U)) Z U U U (fun j1 Z=>nn (ae (bf U ej U (mI U (nn ?_)))))))
 obtain rfl:=so b1
 have Z:=Z.aU [2,1,2] U
 show ∃ m,m<_∧fa m _ _
 refine ⟨ch.length,by simp,?_⟩
 exact ij c1 ⟨a4+1,ch,hv,ek,U,aL ee,by simp at b0; omega,a2,a0,c5,fo,fs,((eI (aO (n:=b8.length) (by simp at b0; omega) ds))),Z⟩
 rcases af with _ | ⟨_,_⟩
 obtain rfl:=aT a2
 refine a9 (rj ec ⟨J,o,U,a0,c5,Z⟩)
 exact absurd (of_decide_eq_false c2) (by simp at b0; omega)
 intro f w_ hR
 obtain ⟨J,o,rfl,a0,c5,Z⟩:=rk ec hR
 refine sq (a7 (cs:=[o,I 1]) U isAgg73 sizeOf73 c5 (At.bK (de.at (ab.aM 1 Z U)) 0 2) U (bg (vs:=#[o,I 1]) (cs2:=#[o,I 1]) 2 U sizeOf73 a0 U U (aj (aH (ab.len 0 Z U)) (aj U aK)) Z U (by show 0+2≤2; decide) U (fun j2 Z=>aB U (nn (aA (dc (v1:=.agg #[o,I 1]) (v2:=Bo true) results48 (bC isAgg73 sizeOf73 a0 (ab.aM 0 Z U) U) U ?_))))))
 obtain rfl:=so hF
 have Z:=Z.get 1 U
 exact ⟨o,U,(ab.down (ab.aG 1 Z) (Le.trans h1 h2) (co bI c0))⟩
theorem ri {vars:List Int} {v0:Value} {H:FH} {w:World} (Z:ab H w []) (h0:(rS 3 RP.int).rel H [v0] vars) {r:Con} (hF:kD vars=some r):C prog 49 #[v0] w fun v w'=>∃ (u1:Value),v=.agg #[u1,I r.bound]∧ab H w' [oF 122 au u1 r.terms]:=by
 unfold kD at hF
 refine aE func49 U ntmps49 U (sq (dS (cs:=#[S0,I 0]) U zeroValue73 U Z (fun g3 w4 Z=>ns (mV v0 U (aW U underlying23 U (ai h0) (db U U U (da U (bG U) (mL (I (i64 ((vars.length:Int) - 1))) U) (dS (cs:=#[S0,I 0]) U zeroValue73 U Z (fun g8 w9 Z=>bg (vs:=#[S0,I (i64 ((vars.length:Int) - 1))]) (cs2:=#[S0,I (i64 ((vars.length:Int) - 1))]) 0 U sizeOf73 U U U (aj U (aj U aK)) Z U (by show 0+2≤2; decide) U (fun c8 Z=>nq (sq (mV v0 U (aW U underlying23 U (ai h0) (mI U (nn ?_)))))))))))))))
 have b1:List.length vars≤9223372036854775807:=bB (ai h0)
 obtain ⟨c1,a0,hF⟩:=bind_some hF
 obtain ⟨c5,b2⟩:=ca fun f w_=>∃ J:List Term,∃ o,c1=.nx J∧f 2=Pt g3∧f 3=Pt g8∧ab H w_ ([oF 122 au o J,box g8 73 #[o,I (i64 ((vars.length:Int) - 1))],box g3 73 #[S0,I 0]])
 refine av c5 ?_ ?_
 refine ak ?_
 obtain ⟨c2,a6⟩:=ff fun n f w_=>∃ ag:Nat,∃ af:List Int,∃ J:List Term,∃ o,n=af.length∧List.drop ag vars=af∧ag+af.length=vars.length∧aw kU af ag J=some c1∧f 2=Pt g3∧f 3=Pt g8∧f 10=v0∧f 11=I (vars.length:Int)∧f 12=I ag∧ab H w_ ([oF 122 au o J,box g8 73 #[o,I (i64 ((vars.length:Int) - 1))],box g3 73 #[S0,I 0]])
 have Z:=ab.bE (R:=(OR.bu au)) (e:=122) Z
 refine a8 c2 (n:=vars.length) ?_ ?_
 exact ij a6 ⟨0,vars,[],S0,U,U,Nat.zero_add _,a0,U,U,U,U,U,Z⟩
 intro dd f w_ hI
 obtain ⟨ag,af,J,o,rfl,b3,a2,a0,bd,a5,b4,b5,bs,Z⟩:=ik a6 hI
 refine sq (bh U bs b5 (nq (al (b:=decide ((ag:Int)<(vars.length:Int))) U (fun b0=>?_) (fun b0=>?_))))
 have b8:=of_decide_eq_true b0
 rcases af with _ | ⟨an,a3⟩
 exact absurd b8 (by simp at a2; omega)
 obtain ⟨dg,a4,a0⟩:=aJ a0
 rw [kU] at a4
 have ch:=aY b3
 refine aq (ao (ak (sq (bP (r:=RP.int) U underlying23 sizeOf3 b4 h0 bs ch (fun dj ds c4 a1 cn=>?_)))))
 obtain rfl:_=[_]:=a1
 refine bt U isAgg3 U (At.cell (dn.at cn Z.sub) (j:=0) U) (aI U (nn ?_))
 obtain ⟨c6,c3,a4⟩:=bind_some a4
 refine ae (fA 0 ck a5 U (bw 1 Z isAgg71 U U U (mI U (kg U U (da U (iB U U) (eF (I 1) (I (i64 (-an))) U U) (cS U (bG U) (gh (I 1) (I (i64 (-an))) ) Z (fun c7 ec Z=>?_)))))))
 have Z:=ab.dr (r:=au) (cs:=[I 1,I (i64 (-an))]) (x:=({ coef:=1,lit:=i64 (-an) }:Term)) Z (bM.2 U)
 have Z:=ab.bS (R:=(OR.bu au)) [([I 1,I (i64 (-an))],({ coef:=1,lit:=i64 (-an) }:Term))] [({ coef:=1,lit:=i64 (-an) }:Term)] 1 Z U U U (by decide)
 have Z:=Z.get 1 U
 refine cj (v:=o) (u:=(Sl c7 1 1)) U lN U U Z c3 (fun cp ee Z=>fA 0 ck a5 U (ei (v:=cp) (cs2:=#[cp,I (i64 ((vars.length:Int) - 1))]) 1 U sizeOf71 U U (aH (ab.len 0 Z U)) Z U U U (fun ej Z=>nn (ae (bf U bs U (mI U (nn ?_)))))))
 obtain rfl:=so a4
 have Z:=Z.aU [2,1,2] U
 show ∃ m,m<_∧c2 m _ _
 refine ⟨a3.length,by simp,?_⟩
 exact ij a6 ⟨ag+1,a3,c6,cp,U,aL b3,by simp at a2; omega,a0,bd,a5,b4,b5,((eI (aO (n:=vars.length) (by simp at a2; omega) b1))),Z⟩
 rcases af with _ | ⟨_,_⟩
 obtain rfl:=aT a0
 refine a9 (rj b2 ⟨J,o,U,bd,a5,Z⟩)
 exact absurd (of_decide_eq_false b0) (by simp at a2; omega)
 intro f w_ hR
 obtain ⟨J,o,rfl,bd,a5,Z⟩:=rk b2 hR
 refine sq (a7 (cs:=[o,I (i64 ((vars.length:Int) - 1))]) U isAgg73 sizeOf73 a5 (At.bK (de.at (ab.aM 1 Z U)) 0 2) U (bg (vs:=#[o,I (i64 ((vars.length:Int) - 1))]) (cs2:=#[o,I (i64 ((vars.length:Int) - 1))]) 2 U sizeOf73 bd U U (aj (aH (ab.len 0 Z U)) (aj U aK)) Z U (by show 0+2≤2; decide) U (fun ek Z=>nn (aA (aN (v1:=.agg #[o,I (i64 ((vars.length:Int) - 1))]) results49 (bC isAgg73 sizeOf73 bd (ab.aM 0 Z U) U) ?_)))))
 obtain rfl:=so hF
 have Z:=Z.get 1 U
 exact ⟨o,U,(ab.aG 1 Z)⟩
theorem FE {fu:Nat} {sizes:List Int} {from_:List Int} {told:((List Int)→Option Bool)} {v0:Value} {v1:Value} {v2:Value} {H:FH} {w:World} (Z:ab H w []) (h0:(rS 3 RP.int).rel H [v0] sizes) (h1:(rS 3 RP.int).rel H [v1] from_) (h2:lQ prog (rS 3 RP.int) false Value.bool told v2 H) {r:Unit} (hF:C0 fu sizes from_ told=some r):C prog 57 #[v0,v1,v2] w fun v w'=>v=.tuple #[]∧ab H w' []:=by
 unfold C0 at hF
 obtain ⟨b8,bs,rfl,c6,gd⟩:=h2
 refine aE func57 U ntmps57 U (ao ?_)
 obtain ⟨x6,hl,hF⟩:=bind_some hF
 refine ae (mV v1 U ?_)
 obtain ⟨hE,hn,ho,hG,hp⟩:=Z.borrow
 refine ar U call62 (b9 U) (eX (s:=from_) ho (RP.mono _ h1 hn) hl) ?_
 rintro an hJ ⟨_,rfl,Z⟩
 have Z:=hp Z (co bk c0)
 refine aV an U (nn ?_)
 obtain ⟨g0,a6,hF⟩:=bind_some hF
 obtain ⟨hq,et⟩:=ca fun f w_=>∃ af:List Int,∃ b0,g0=.nx af∧Le H b0∧ab b0 w_ ([])
 refine av hq ?_ ?_
 refine ak ?_
 obtain ⟨g1,c7⟩:=ff fun n f w_=>∃ af:List Int,∃ b0,bx (s3 fu sizes told) n af=some g0∧Le H b0∧f 0=v0∧f 2=.func (.func b8) #[] bs∧f 6=an∧ab b0 w_ ([oF 3 RP.int an af])
 refine a8 g1 (n:=fu) ?_ ?_
 exact ij c7 ⟨x6,H,a6,(Le.refl _),U,U,U,Z⟩
 intro e2 f w_ hI
 obtain ⟨af,b0,a6,cp,b4,b5,a3,Z⟩:=ik c7 hI
 rcases e2 with _ | e2
 exact (cl a6).elim
 obtain ⟨hK,a0,a6⟩:=cq a6
 rw [s3] at a0
 refine ao (ao ?_)
 obtain ⟨hr,g2,a0⟩:=bind_some a0
 refine ae (mF b5 U (mF a3 U ?_))
 obtain ⟨g3,hs,ht,hv,hx⟩:=Z.borrow
 have g4:(rS 3 RP.int).rel g3 [an] af:=cg 0 hv U
 refine lD (args:=#[an]) U c6 U (b9 U) (gd _ _ (Le.trans cp hs) ht [an] _ _ _ g4 g2 (lG U)) ?_
 rintro _ hN ⟨rfl,Z⟩
 have Z:=hx Z c0
 refine nn (al (b:=hr) U (fun c8=>?_) (fun c8=>?_))
 have a0:=(az c8).symm.trans a0
 refine aq (ak (sq (mF a3 U (aW U underlying23 U (ab.len 0 Z U) (db U U U (aI U (nq ?_)))))))
 obtain ⟨g5,b1,a0⟩:=bind_some a0
 obtain ⟨hy,eu⟩:=ca fun f w_=>∃ o:List Int,∃ J:Int,∃ ch,g5=.nx (o,J)∧Le b0 ch∧f 0=v0∧f 2=.func (.func b8) #[] bs∧f 6=an∧f 7=I J∧ab ch w_ ([oF 3 RP.int an o])
 refine av hy ?_ ?_
 refine ak ?_
 obtain ⟨g6,dd⟩:=ff fun n f w_=>∃ o:List Int,∃ J:Int,∃ ch,bx (s7 sizes) n (o,J)=some g5∧Le b0 ch∧f 0=v0∧f 2=.func (.func b8) #[] bs∧f 6=an∧f 7=I J∧ab ch w_ ([oF 3 RP.int an o])
 refine a8 g6 (n:=fu) ?_ ?_
 exact ij dd ⟨af,i64 ((af.length:Int) - 1),b0,b1,(Le.refl _),b4,b5,a3,U,Z⟩
 intro e3 f w_ hI
 obtain ⟨o,J,ch,b1,c4,b4,b5,a3,a5,Z⟩:=ik dd hI
 rcases e3 with _ | e3
 exact (cl b1).elim
 obtain ⟨hP,a2,b1⟩:=cq b1
 rw [s7] at a2
 refine ao (ao ?_)
 obtain ⟨ek,bd,a2⟩:=bind_some a2
 obtain ⟨hz,dg⟩:=ca fun f w_=>∃ dj,Le ch dj∧f 0=v0∧f 2=.func (.func b8) #[] bs∧f 6=an∧f 7=I J∧f 28=Bo ek∧ab dj w_ ([oF 3 RP.int an o])
 refine av hz ?_ ?_
 rcases Bool.eq_false_or_eq_true (decide (J ≥ 0)) with ag | ag
 rw [az ag] at bd
 obtain ⟨g7,ds,bd⟩:=bind_some bd
 obtain ⟨e4,g8,bd⟩:=bind_some bd
 obtain ⟨hA,g9,e0,_,_⟩:=ab.row 0 Z U ds
 refine bT 11 [aZ (I J),aZ (Bo (decide (J ≥ 0))),aZ (Bo (decide (J ≥ 0))),aZ (an),aZ (I J),aZ (.pointer (some ⟨hA,Int.toNat J * 1,none⟩)),aZ (I g7),aZ (v0),aZ (I J),gC RP.int e4 0,aZ (I e4)] [oF 3 RP.int an o] [] ([]) [([],[]),([],[]),([],[]),([],[]),([],[]),([],[]),([],[]),([],[]),([],[]),([],[]),([],[])] (S:=[]) aP (by kernel_rfl) U (by kernel_rfl) (ad (ah _) (ad (ah _) (ad (ah _) (ad (ah _) (ad (ah _) (ad (ah _) (ad (ah _) (ad (ah _) (ad (ah _) (ad (bU _ _ _) (ad (ah _) bV))))))))))) Z ?_ (fun f w_ c5 a1 b2 b3 Z=>?_)
 refine aa (fun f w_ _ _ s _ _ Z=>mF ((s 7 U).trans a5) U (nO U U Z)) (aa (fun f w_ _ _ _ _ p Z=>hY U (p 0 16 U U) U (nO U U Z)) (aa (fun f w_ _ _ _ _ p Z=>mF (p 1 17 U U) U (nO U U Z)) (aa (fun f w_ _ _ s _ p Z=>iV (v:=an) (bm U (cB (p 2 18 U U) ag) U) ((s 6 U).trans a3) (nO U U Z)) (aa (fun f w_ _ _ s _ p Z=>iV (v:=I J) (bm U (cB (p 2 18 U U) ag) U) ((s 7 U).trans a5) (nO U U Z)) (aa (fun f w_ _ _ _ _ p Z=>bJ (R:=(OR.bu RP.int)) (tb:=0) 0 (bm U (cB (p 2 18 U U) ag) U) underlying23 sizeOf3 (p 3 19 U U) e0 (by first | rfl | simp) (p 4 20 U U) ds (nO U U Z)) (aa ?_ ?_))))))
 intro f w_ c5 ha a1 b2 a4 Z
 obtain ⟨hB,hb,e5⟩:=ab.fE 0 Z U e0 ds
 obtain rfl:_=[_]:=hb
 refine bt (v:=I g7) (bm U (cB (a4 2 18 U U) ag) U) isAgg3 (a4 5 21 U U) (At.cell e5 (j:=0) U) (ax ⟨U,_,_,U,Le.refl _,fun _ _=>rfl,Z⟩)
 refine aa (fun f w_ _ _ s _ p Z=>iV (v:=v0) (bm U (cB (p 2 18 U U) ag) U) ((s 0 U).trans b4) (nO U U Z)) (aa (fun f w_ _ _ s _ p Z=>iV (v:=I J) (bm U (cB (p 2 18 U U) ag) U) ((s 7 U).trans a5) (nO U U Z)) (aa ?_ ?_))
 intro f w_ c5 ha a1 b2 a4 Z
 refine bP (r:=RP.int) (bm U (cB (a4 2 18 U U) ag) U) underlying23 sizeOf3 (a4 7 23 U U) (RP.mono _ h0 (Le.trans (Le.trans cp c4) b2)) (a4 8 24 U U) g8 (fun hQ hS hk c1 fa=>?_)
 obtain rfl:_=[_]:=c1
 exact ax ⟨U,_,_,U,Le.refl _,fun _ _=>⟨_,_,_,U,U,fa⟩,Z⟩
 refine aa ?_ ?_
 intro f w_ c5 ha a1 b2 a4 Z
 obtain ⟨hV,hW,hC,hc,c2,fo⟩:=(a4 9 25 U U)
 obtain rfl:_=[_]:=c2
 refine bt (v:=I e4) (bm U (cB (a4 2 18 U U) ag) U) isAgg3 hc (At.cell (dn.at fo Z.sub) (j:=0) U) (ax ⟨U,_,_,U,Le.refl _,fun _ _=>rfl,Z⟩)
 exact aQ
 refine bD (bm U (cB (b3 2 18 U U) ag) U) (b3 6 22 U U) (b3 10 26 U U) (aC (v:=Bo ek) U (cB (b3 2 18 U U) ag) (congrArg Value.bool (so bd)) (nn (rj dg ⟨c5,b2,((a1 0 U).trans b4),((a1 2 U).trans b5),((a1 6 U).trans a3),((a1 7 U).trans a5),U,Z⟩)))
 rw [ay ag] at bd
 refine cv 11 [I J,Bo (decide (J ≥ 0)),Bo (decide (J ≥ 0)),undef,undef,undef,undef,undef,undef,undef,undef] [oF 3 RP.int an o] [] ([]) [([],[]),([],[]),([],[]),([],[]),([],[]),([],[]),([],[]),([],[]),([],[]),([],[]),([],[])] (S:=[]) aP (by kernel_rfl) U (by kernel_rfl) Z ?_ (fun f w_ c5 a1 b2 b3 Z=>?_)
 refine aa (fun f w_ _ _ s _ _ Z=>mF ((s 7 U).trans a5) U (nO U U Z)) (aa (fun f w_ _ _ _ _ p Z=>hY U (p 0 16 U U) U (nO U U Z)) (aa (fun f w_ _ _ _ _ p Z=>mF (p 1 17 U U) U (nO U U Z)) (oP (fun _ _ p=>gN (p 2 18 U U) ag U) (fun _=>rfl) (oP (fun _ _ p=>gN (p 2 18 U U) ag U) (fun _=>rfl) (oP (fun _ _ p=>gN (p 2 18 U U) ag U) (fun _=>rfl) (oP (fun _ _ p=>gN (p 2 18 U U) ag U) (fun _=>rfl) (oP (fun _ _ p=>gN (p 2 18 U U) ag U) (fun _=>rfl) (oP (fun _ _ p=>gN (p 2 18 U U) ag U) (fun _=>rfl) (oP (fun _ _ p=>gN (p 2 18 U U) ag U) (fun _=>rfl) (oP (fun _ _ p=>gN (p 2 18 U U) ag U) (fun _=>rfl) (aQ)))))))))))
 refine ps (rn U (cB (b3 2 18 U U) ag) U U) (aC (v:=Bo ek) U (cB (b3 2 18 U U) ag) (congrArg Value.bool (so bd)) (nn (rj dg ⟨c5,b2,((a1 0 U).trans b4),((a1 2 U).trans b5),((a1 6 U).trans a3),((a1 7 U).trans a5),U,Z⟩)))
 intro f w_ hR
 obtain ⟨dj,hf,b4,b5,a3,a5,hg,Z⟩:=rk dg hR
 refine al (b:=ek) hg (fun ec=>?_) (fun ec=>?_)
 have a2:=(az ec).symm.trans a2
 refine aq (ak (ao ?_))
 obtain ⟨h3,ee,a2⟩:=bind_some a2
 refine ae (mF a3 U (mF a5 U ?_))
 obtain ⟨h4,hh,e1,_,_⟩:=ab.row 0 Z U ee
 refine bJ (R:=(OR.bu RP.int)) (tb:=0) 0 U underlying23 sizeOf3 U e1 (by first | rfl | simp) U ee ?_
 have Z:=ab.dr (r:=RP.int) (cs:=[I 0]) (x:=0) Z U
 refine fj (u:=I 0) U sizeOf3 U U U e1 Z ee (fun h5 Z=>?_)
 refine nn (ae (mF a5 U (db U U U (aI U (nn ?_)))))
 obtain rfl:=so a2
 show ∃ m,m<_∧g6 m _ _
 refine ⟨e3,Nat.lt_succ_self _,?_⟩
 exact ij dd ⟨(o.set (Int.toNat J) 0),i64 (J - 1),dj,b1,(Le.trans c4 hf),b4,b5,a3,U,Z⟩
 have a2:=(ay ec).symm.trans a2
 refine a9 ?_
 obtain rfl:=so a2
 obtain rfl:=so b1
 exact rj eu ⟨o,J,dj,U,(Le.trans c4 hf),b4,b5,a3,a5,Z⟩
 intro f w_ hR
 obtain ⟨o,J,ch,rfl,c4,b4,b5,a3,a5,Z⟩:=rk eu hR
 refine ao (sq (mF a5 U (bh U U U (nn (al (b:=decide (J<0)) U (fun ej=>?_) (fun ej=>?_))))))
 have a0:=(az ej).symm.trans a0
 refine aA (sW results57 ?_)
 obtain rfl:=so a0
 obtain rfl:=so a6
 obtain rfl:=so hF
 exact ⟨U,(ab.down (ab.aG 0 Z) (Le.trans cp c4) c0)⟩
 have a0:=(ay ej).symm.trans a0
 refine aq ?_
 obtain ⟨en,cn,a0⟩:=bind_some a0
 refine ae (mF a3 U (mF a5 U ?_))
 obtain ⟨h6,hi,c3,_,_⟩:=ab.row 0 Z U cn
 refine bJ (R:=(OR.bu RP.int)) (tb:=0) 0 U underlying23 sizeOf3 U c3 (by first | rfl | simp) U cn ?_
 obtain ⟨hD,hj,fs⟩:=ab.fE 0 Z U c3 cn
 obtain rfl:_=[_]:=hj
 refine bt U isAgg3 U (At.cell fs (j:=0) U) (bf U U U (bJ (R:=(OR.bu RP.int)) (tb:=0) 0 U underlying23 sizeOf3 U c3 (by first | rfl | simp) U cn ?_))
 have Z:=ab.dr (r:=RP.int) (cs:=[I (i64 (en+1))]) (x:=(i64 (en+1))) Z U
 refine fj (u:=I (i64 (en+1))) U sizeOf3 U U U c3 Z cn (fun h7 Z=>?_)
 refine nn ?_
 obtain rfl:=so a0
 show ∃ m,m<_∧g1 m _ _
 refine ⟨e2,Nat.lt_succ_self _,?_⟩
 exact ij c7 ⟨(o.set (Int.toNat J) (i64 (en+1))),ch,a6,(Le.trans cp c4),b4,b5,a3,Z⟩
 have a0:=(ay c8).symm.trans a0
 refine a9 ?_
 obtain rfl:=so a0
 obtain rfl:=so a6
 exact rj et ⟨af,b0,U,cp,(ab.aG 0 Z)⟩
 intro f w_ hR
 obtain ⟨af,b0,rfl,cp,Z⟩:=rk et hR
 refine sW results57 ?_
 obtain rfl:=so hF
 exact ⟨U,(ab.down Z cp c0)⟩
theorem bZ {c:Con} {v0_0:Value} {H:FH} {w:World} (Z:ab H w []) (h0_0:(rS 122 au).rel H [v0_0] c.terms) {r:Bool} (hF:bW c=some r):C prog 130 #[.agg #[v0_0,I c.bound]] w fun v w'=>v=Bo r∧ab H w' []:=by
 unfold bW at hF
 refine aE func130 U ntmps130 U (sq (cr (v:=.agg #[v0_0,I c.bound]) (cs:=#[v0_0,I c.bound]) U U U Z (fun g3 w4 Z=>aB U (ns (aI U (nq (sq (fA 0 ck U U (bw 0 Z isAgg71 U U U (aW U underlying71 U (ai h0_0) (mI U (nn ?_))))))))))))
 have b4:List.length c.terms≤9223372036854775807:=bB (ai h0_0)
 obtain ⟨j7,a1,hF⟩:=bind_some hF
 obtain ⟨R7,cn⟩:=ca fun f w_=>∃ j:Int,j7=.nx j∧f 1=Pt g3∧ab H w_ ([box g3 73 #[v0_0,I c.bound]])
 refine av R7 ?_ ?_
 refine ak ?_
 obtain ⟨I7,b5⟩:=ff fun n f w_=>∃ an:Nat,∃ af:List Term,∃ j:Int,n=af.length∧List.drop an c.terms=af∧an+af.length=c.terms.length∧aw dw af an j=some j7∧f 1=Pt g3∧f 3=I j∧f 7=v0_0∧f 8=I (c.terms.length:Int)∧f 9=I an∧ab H w_ ([box g3 73 #[v0_0,I c.bound]])
 refine a8 I7 (n:=c.terms.length) ?_ ?_
 exact ij b5 ⟨0,c.terms,0,U,U,Nat.zero_add _,a1,U,U,U,U,U,Z⟩
 intro n7 f w_ hI
 obtain ⟨an,af,j,rfl,cp,b3,a1,a0,ec,a5,a6,a2,Z⟩:=ik b5 hI
 refine sq (bh U a2 a6 (nq (al (b:=decide ((an:Int)<(c.terms.length:Int))) U (fun b8=>?_) (fun b8=>?_))))
 have c1:=of_decide_eq_true b8
 rcases af with _ | ⟨R,bd⟩
 exact absurd c1 (by simp at b3; omega)
 obtain ⟨o7,o,a1⟩:=aJ a1
 rw [dw] at o
 have c2:=aY cp
 refine aq (ao (ak (sq (bP (r:=au) U underlying71 sizeOf122 a5 h0_0 a2 c2 (fun g4 g5 ds a3 ch=>?_)))))
 obtain rfl:=bM.1 a3
 refine a7 (cs:=[I R.coef,I R.lit]) U isAgg122 sizeOf122 U (At.sub (dn.at ch Z.sub) 0 2) U (dS (cs:=#[I 0,I 0]) U zeroValue122 U Z (fun c3 g6 Z=>bg (vs:=#[I R.coef,I R.lit]) (cs2:=#[I R.coef,I R.lit]) 0 U sizeOf122 U U U (aj U (aj U aK)) Z U (by show 0+2≤2; decide) U (fun g7 Z=>nq (ao ?_))))
 obtain ⟨ee,c4,o⟩:=bind_some o
 obtain ⟨c5,ag,o⟩:=bind_some o
 obtain ⟨c6,J,o⟩:=bind_some o
 obtain ⟨ej,a4⟩:=ca fun f w_=>f 1=Pt g3∧f 5=Pt c3∧f 7=v0_0∧f 8=I (c.terms.length:Int)∧f 9=I an∧f 29=Bo c6∧ab H w_ ([box c3 122 #[I R.coef,I R.lit],box g3 73 #[v0_0,I c.bound]])
 refine av ej ?_ ?_
 refine ae (fA 1 eC U U (bw 0 Z isAgg3 U U U ?_))
 obtain ⟨fu,g8,ek,g9,en⟩:=Z.borrow
 refine ar U call96 (b9 U) (nG (l:=R.lit) ek c4) ?_
 rintro _ ha ⟨rfl,Z⟩
 have Z:=en Z c0
 refine bL U U (mB U (aD (d:=17) (b:=(!ee)) U (fun bs=>?_) (fun bs=>?_)))
 rw [az bs] at ag
 refine ps U (ps U (ps U (ps U (ps U (dU ag U (mB U (aD (d:=24) (b:=c5) U (fun b0=>?_) (fun b0=>?_))))))))
 rw [az b0] at J
 refine ps U (ps U (ps U (ps U (dU J U (nn (rj a4 ⟨a0,U,a5,a6,a2,U,Z⟩))))))
 exact gj (so ag).symm b0
 rw [ay bs] at ag
 obtain ⟨hb,c7,ag⟩:=bind_some ag
 refine fA 1 eC U U (bw 0 Z isAgg3 U U U ?_)
 obtain ⟨gd,hc,et,hf,eu⟩:=Z.borrow
 refine ar U call100 (b9 U) (hX (l:=R.lit) et c7) ?_
 rintro _ hg ⟨rfl,Z⟩
 have Z:=eu Z c0
 refine mF ec U (kE U U U (dU ag U (mB U (aD (d:=24) (b:=c5) U (fun b1=>?_) (fun b1=>?_)))))
 rw [az b1] at J
 refine ps U (ps U (ps U (ps U (dU J U (nn (rj a4 ⟨a0,U,a5,a6,a2,U,Z⟩))))))
 rw [ay b1] at J
 obtain ⟨hh,c8,J⟩:=bind_some J
 refine fA 0 ep U U (bw 0 Z isAgg3 U U U ?_)
 obtain ⟨g0,hi,e0,hj,e1⟩:=Z.borrow
 refine ar U call92 (k9 U U U) (dY (n_:=R.coef) (low:=1) (high:=1000) e0 c8) ?_
 rintro _ hk ⟨rfl,Z⟩
 have Z:=e1 Z c0
 refine bL U U (dU J U (nn (rj a4 ⟨a0,U,a5,a6,a2,U,Z⟩)))
 intro f w_ hR
 obtain ⟨a0,e2,a5,a6,a2,dd,Z⟩:=rk a4 hR
 refine al (b:=c6) dd (fun b2=>?_) (fun b2=>?_)
 have o:=(az b2).symm.trans o
 refine sq (aB U (nn (aA (aN (v1:=Bo false) results130 U ?_))))
 obtain rfl:=so o
 obtain rfl:=so a1
 obtain rfl:=so hF
 exact ⟨U,(ab.aG 0 Z)⟩
 have o:=(ay b2).symm.trans o
 refine aq ?_
 obtain ⟨e3,dg,o⟩:=bind_some o
 refine ae (fA 1 eC e2 U (bw 0 Z isAgg3 U U U ?_))
 obtain ⟨g1,hl,e4,hn,e5⟩:=Z.borrow
 refine ar U call100 (b9 U) (hX (l:=R.lit) e4 dg) ?_
 rintro _ ho ⟨rfl,Z⟩
 have Z:=e5 Z c0
 refine aI U (nn (ae (bf U a2 U (mI U (nn ?_)))))
 obtain rfl:=so o
 have Z:=Z.get 1 U
 show ∃ m,m<_∧I7 m _ _
 refine ⟨bd.length,by simp,?_⟩
 exact ij b5 ⟨an+1,bd,e3,U,aL cp,by simp at b3; omega,a1,a0,U,a5,a6,((eI (aO (n:=c.terms.length) (by simp at b3; omega) b4))),(ab.aG 1 Z)⟩
 rcases af with _ | ⟨_,_⟩
 obtain rfl:=aT a1
 refine a9 (rj cn ⟨j,U,a0,Z⟩)
 exact absurd (of_decide_eq_false b8) (by simp at b3; omega)
 intro f w_ hR
 obtain ⟨j,rfl,a0,Z⟩:=rk cn hR
 refine ao ?_
 obtain ⟨fa,dj,hF⟩:=bind_some hF
 refine ae (fA 1 fy a0 U (bw 0 Z isAgg3 U U U ?_))
 obtain ⟨g2,hp,fo,hq,fs⟩:=Z.borrow
 refine ar U call92 (k9 U U U) (dY (n_:=c.bound) (low:=0) (high:=20000) fo dj) ?_
 rintro _ hr ⟨rfl,Z⟩
 have Z:=fs Z c0
 refine aB U (nn (aA (aN (v1:=Bo fa) results130 U ?_)))
 obtain rfl:=so hF
 exact ⟨U,(ab.aG 0 Z)⟩
theorem lJ {c:Con} {v0_0:Value} {H:FH} {w:World} {R:List Ass} (Z:ab H w R) (h0_0:(rS 122 au).rel H [v0_0] c.terms) {r:Con × Bool} (hF:e6 c=some r):C prog 144 #[.agg #[v0_0,I c.bound]] w fun v w'=>∃ H':FH,Le H H'∧∃ (u1:Value),v=.tuple #[.agg #[u1,I r.1.bound],Bo r.2]∧(rS 122 au).rel H' [u1] r.1.terms∧ab H' w' (R):=by
 unfold e6 at hF
 refine aE func144 U ntmps144 U (sq (cr (v:=.agg #[v0_0,I c.bound]) (cs:=#[v0_0,I c.bound]) U U U Z (fun g5 w6 Z=>dS (cs:=#[S0,I 0]) U zeroValue73 U Z (fun g7 w8 Z=>aB U (nq (ao ?_))))))
 obtain ⟨J,o,hF⟩:=bind_some hF
 refine ae (a7 (cs:=[v0_0,I c.bound]) U isAgg73 sizeOf73 U (At.bK (de.at (ab.aM 1 Z U)) 0 2) U ?_)
 obtain ⟨a0,af,ag,a1,an⟩:=Z.borrow
 refine ar U call130 (b9 U) (bZ (c:=c) ag (RP.mono _ h0_0 af) o) ?_
 rintro _ a2 ⟨rfl,Z⟩
 have Z:=an Z c0
 refine bL U U (nn (al (b:=(!J)) U (fun j=>?_) (fun j=>?_)))
 have hF:=(az j).symm.trans hF
 refine sq (da U (cC ) (eg  ) (bg (vs:=#[S0,I 0]) (cs2:=#[S0,I 0]) 0 U sizeOf73 U U U (aj U (aj U aK)) Z U (by show 0+2≤2; decide) U (fun a3 Z=>aB U (nn (aA (dc (v1:=.agg #[S0,I 0]) (v2:=Bo false) results144 (bC isAgg73 sizeOf73 U (ab.aM 0 Z U) U) U ?_))))))
 obtain rfl:=so hF
 have Z:=ab.drop 0 Z U
 have Z:=ab.drop 0 Z U
 exact ⟨H,(Le.refl _),S0,U,(fw _ _ _),Z⟩
 have hF:=(ay j).symm.trans hF
 refine aq (sq (a7 (cs:=[v0_0,I c.bound]) U isAgg73 sizeOf73 U (At.bK (de.at (ab.aM 1 Z U)) 0 2) U (bg (vs:=#[v0_0,I c.bound]) (cs2:=#[v0_0,I c.bound]) 0 U sizeOf73 U U U (aj (aH (ai h0_0)) (aj U aK)) Z U (by show 0+2≤2; decide) U (fun a4 Z=>aB U (nn (aA (dc (v1:=.agg #[v0_0,I c.bound]) (v2:=Bo true) results144 (bC isAgg73 sizeOf73 U (ab.aM 0 Z U) U) U ?_)))))))
 obtain rfl:=so hF
 have Z:=ab.drop 0 Z U
 have Z:=ab.drop 0 Z U
 exact ⟨H,(Le.refl _),v0_0,U,h0_0,Z⟩
theorem uI {terms:List Term} {bound:Int} {v0:Value} {H:FH} {w:World} {R:List Ass} (Z:ab H w R) (h0:(rS 122 au).rel H [v0] terms) {r:Con × Bool} (hF:mR terms bound=some r):C prog 102 #[v0,I bound] w fun v w'=>∃ H':FH,Le H H'∧∃ (u1:Value),v=.tuple #[.agg #[u1,I r.1.bound],Bo r.2]∧(rS 122 au).rel H' [u1] r.1.terms∧ab H' w' (R):=by
 unfold mR at hF
 refine aE func102 U ntmps102 U (sq (dS (cs:=#[S0,I 0]) U zeroValue73 U Z (fun g3 w4 Z=>aB U (ns (dS (cs:=qR (List.replicate 13 (0:Int))) U zeroValue149 U Z (fun c2 j3 Z=>?_))))))
 have Z:=ab.Fk (List.replicate 13 (0:Int)) 13 U U Z
 refine nq (sq (mV v0 U (aW U underlying71 U (ai h0) (mI U (nn ?_)))))
 have hc:List.length terms≤9223372036854775807:=bB (ai h0)
 obtain ⟨ht,c3,hF⟩:=bind_some hF
 obtain ⟨hQ,hh⟩:=ca fun f w_=>∃ an:Int,∃ J:List Int,∃ b3,ht=.nx (an,J)∧Le H b3∧f 1=I an∧f 4=Pt g3∧f 6=Pt c2∧ab b3 w_ (arr c2 149 13 J :: box g3 73 #[S0,I 0] :: R)
 refine av hQ ?_ ?_
 refine ak ?_
 obtain ⟨hv,fo⟩:=ff fun n f w_=>∃ b5:Nat,∃ b0:List Term,∃ an:Int,∃ J:List Int,∃ b3,n=b0.length∧List.drop b5 terms=b0∧b5+b0.length=terms.length∧aw kz b0 b5 (an,J)=some ht∧Le H b3∧f 1=I an∧f 4=Pt g3∧f 6=Pt c2∧f 12=v0∧f 13=I (terms.length:Int)∧f 14=I b5∧ab b3 w_ (arr c2 149 13 J :: box g3 73 #[S0,I 0] :: R)
 refine a8 hv (n:=terms.length) ?_ ?_
 exact ij fo ⟨0,terms,bound,(List.replicate 13 (0:Int)),H,U,U,Nat.zero_add _,c3,(Le.refl _),U,U,U,U,U,U,Z⟩
 intro j4 f w_ hI
 obtain ⟨b5,b0,an,J,b3,rfl,hi,et,c3,fs,a4,a1,cn,dj,ds,c4,Z⟩:=ik fo hI
 refine sq (bh U c4 ds (nq (al (b:=decide ((b5:Int)<(terms.length:Int))) U (fun fu=>?_) (fun fu=>?_))))
 have hl:=of_decide_eq_true fu
 rcases b0 with _ | ⟨a0,eu⟩
 exact absurd hl (by simp at et; omega)
 obtain ⟨j5,e0,c3⟩:=aJ c3
 rw [kz] at e0
 have hn:=aY hi
 refine aq (ao (ak (sq (bP (r:=au) U underlying71 sizeOf122 dj (RP.mono _ h0 fs) c4 hn (fun j6 j7 hP ek ho=>?_)))))
 obtain rfl:=bM.1 ek
 refine a7 (cs:=[I a0.coef,I a0.lit]) U isAgg122 sizeOf122 U (At.sub (dn.at ho Z.sub) 0 2) U (dS (cs:=#[I 0,I 0]) U zeroValue122 U Z (fun e4 j8 Z=>bg (vs:=#[I a0.coef,I a0.lit]) (cs2:=#[I a0.coef,I a0.lit]) 0 U sizeOf122 U U U (aj U (aj U aK)) Z U (by show 0+2≤2; decide) U (fun kk Z=>ns (fA 1 eC U U (bw 0 Z isAgg3 U U U (bh U U U (nn ?_)))))))
 obtain ⟨⟨c5,ec⟩,a6,e0⟩:=bind_some e0
 obtain ⟨hS,gd⟩:=ca fun f w_=>∃ hf,Le b3 hf∧f 1=I c5∧f 4=Pt g3∧f 6=Pt c2∧f 12=v0∧f 13=I (terms.length:Int)∧f 14=I b5∧ab hf w_ (arr c2 149 13 ec :: box g3 73 #[S0,I 0] :: R)
 refine av hS ?_ ?_
 refine al (b:=decide (a0.lit<0)) U (fun g0=>?_) (fun g0=>?_)
 have a6:=(az g0).symm.trans a6
 refine sq (mF a4 U (fA 0 ep U U (bw 0 Z isAgg3 U U U (db U U U (aI U (nn ?_))))))
 obtain ⟨hV,e1,a6⟩:=bind_some a6
 refine cv 7 [Pq e4 1,I a0.lit,I (i64 (-a0.lit)),Value.pointer (some ⟨c2,Int.toNat (i64 (-a0.lit)) * 1,none⟩),I hV,Pt e4,I a0.coef] [box e4 122 #[I a0.coef,I a0.lit],arr c2 149 13 J,box g3 73 #[S0,I 0]] [] (R) [([],[]),([],[]),([],[]),([],[]),([],[]),([],[]),([],[])] (S:=[]) aP (by kernel_rfl) U (by kernel_rfl) Z ?_ (fun f w_ hW cp hx g1 Z=>?_)
 refine aa (fun f w_ _ _ s _ _ Z=>fA 1 eC ((s 8 U).trans U) U (nO U U Z)) (aa (fun f w_ _ _ _ _ p Z=>bw 0 Z isAgg3 (p 0 25 U U) U U (nO U U Z)) (aa (fun f w_ _ _ _ _ p Z=>kg U (p 1 26 U U) (nO U U Z)) (aa (fun f w_ _ _ s _ p Z=>AQ 1 U underlying149 sizeOf3 ((s 6 U).trans cn) (p 2 27 U U) Z U e1 (nO U U Z)) (aa (fun f w_ _ _ _ _ p Z=>El 1 U isAgg3 (p 3 28 U U) Z U e1 (nO U U Z)) (aa (fun f w_ _ _ s _ _ Z=>fA 0 ep ((s 8 U).trans U) U (nO U U Z)) (aa (fun f w_ _ _ _ _ p Z=>bw 0 Z isAgg3 (p 5 30 U U) U U (nO U U Z)) (aQ)))))))
 refine db U (g1 4 29 U U) (g1 6 31 U U) (AQ 1 U underlying149 sizeOf3 ((cp 6 U).trans cn) (g1 2 27 U U) Z U e1 ?_)
 have Z:=Z.get 1 U
 refine Eu U sizeOf3 U U Z e1 (fun ks Z=>nn ?_)
 obtain ⟨rfl,rfl⟩:=xV a6
 have Z:=Z.aU [2,1] U
 have Z:=ab.drop 2 Z U
 exact rj gd ⟨hW,hx,((cp 1 U).trans U),((cp 4 U).trans a1),((cp 6 U).trans cn),((cp 12 U).trans dj),((cp 13 U).trans ds),((cp 14 U).trans c4),Z⟩
 have a6:=(ay g0).symm.trans a6
 obtain ⟨h1,e2,a6⟩:=bind_some a6
 refine cv 6 [Pq e4 1,I a0.lit,Value.pointer (some ⟨c2,Int.toNat a0.lit * 1,none⟩),I h1,Pt e4,I a0.coef] [box e4 122 #[I a0.coef,I a0.lit],arr c2 149 13 J,box g3 73 #[S0,I 0]] [] (R) [([],[]),([],[]),([],[]),([],[]),([],[]),([],[])] (S:=[]) aP (by kernel_rfl) U (by kernel_rfl) Z ?_ (fun f w_ h2 c1 hy g2 Z=>?_)
 refine aa (fun f w_ _ _ s _ _ Z=>fA 1 eC ((s 8 U).trans U) U (nO U U Z)) (aa (fun f w_ _ _ _ _ p Z=>bw 0 Z isAgg3 (p 0 34 U U) U U (nO U U Z)) (aa (fun f w_ _ _ s _ p Z=>AQ 1 U underlying149 sizeOf3 ((s 6 U).trans cn) (p 1 35 U U) Z U e2 (nO U U Z)) (aa (fun f w_ _ _ _ _ p Z=>El 1 U isAgg3 (p 2 36 U U) Z U e2 (nO U U Z)) (aa (fun f w_ _ _ s _ _ Z=>fA 0 ep ((s 8 U).trans U) U (nO U U Z)) (aa (fun f w_ _ _ _ _ p Z=>bw 0 Z isAgg3 (p 4 38 U U) U U (nO U U Z)) (aQ))))))
 refine bf U (g2 3 37 U U) (g2 5 39 U U) (AQ 1 U underlying149 sizeOf3 ((c1 6 U).trans cn) (g2 1 35 U U) Z U e2 ?_)
 have Z:=Z.get 1 U
 refine Eu U sizeOf3 U U Z e2 (fun ky Z=>nn ?_)
 obtain ⟨rfl,rfl⟩:=xV a6
 have Z:=Z.aU [2,1] U
 have Z:=ab.drop 2 Z U
 exact rj gd ⟨h2,hy,((c1 1 U).trans a4),((c1 4 U).trans a1),((c1 6 U).trans cn),((c1 12 U).trans dj),((c1 13 U).trans ds),((c1 14 U).trans c4),Z⟩
 intro f w_ hR
 obtain ⟨hf,h3,a4,a1,cn,dj,ds,c4,Z⟩:=rk gd hR
 refine ae (bf U c4 U (mI U (nn ?_)))
 obtain rfl:=so e0
 show ∃ m,m<_∧hv m _ _
 refine ⟨eu.length,by simp,?_⟩
 exact ij fo ⟨b5+1,eu,c5,ec,hf,U,aL hi,by simp at et; omega,c3,(Le.trans fs h3),a4,a1,cn,dj,ds,((eI (aO (n:=terms.length) (by simp at et; omega) hc))),Z⟩
 rcases b0 with _ | ⟨_,_⟩
 obtain rfl:=aT c3
 refine a9 (rj hh ⟨an,J,b3,U,fs,a4,a1,cn,Z⟩)
 exact absurd (of_decide_eq_false fu) (by simp at et; omega)
 intro f w_ hR
 obtain ⟨an,J,b3,rfl,fs,a4,a1,cn,Z⟩:=rk hh hR
 refine sq (da U (cC ) (eg  ) (dS (cs:=#[S0,I 0]) U zeroValue73 U Z (fun ee k0 Z=>bg (vs:=#[S0,I 0]) (cs2:=#[S0,I 0]) 0 U sizeOf73 U U U (aj U (aj U aK)) Z U (by show 0+2≤2; decide) U (fun lo Z=>nq (sq ?_)))))
 have hp:=(ab.y4 1 Z U).2
 refine EH 1 U isAgg149 sizeOf149 cn Z U (mI U (nn ?_))
 obtain ⟨hg,g4,hF⟩:=bind_some hF
 obtain ⟨hz,c6,hF⟩:=bind_some hF
 obtain ⟨h4,hj⟩:=ca fun f w_=>∃ o:Int,∃ af:List Term,∃ j,hz=.nx (o,af)∧f 1=I o∧f 4=Pt g3∧f 9=Pt ee∧ab b3 w_ (oF 122 au j af :: box ee 73 #[j,I 0] :: box g3 73 #[S0,I 0] :: R)
 refine av h4 ?_ ?_
 refine ak ?_
 obtain ⟨hA,g5⟩:=ff fun n f w_=>∃ ag:Nat,∃ b4:Nat,∃ o:Int,∃ af:List Term,∃ j,b4=n∧0≤ag∧ag+b4=0+hg∧cI (fS J) b4 ag (o,af)=some hz∧f 1=I o∧f 4=Pt g3∧f 9=Pt ee∧f 44=(.agg (qR J))∧f 45=I ag∧ab b3 w_ (oF 122 au j af :: box ee 73 #[j,I 0] :: box g3 73 #[S0,I 0] :: R)
 have Z:=ab.bE (R:=(OR.bu au)) (e:=122) Z
 have Z:=Z.aU [3,2,2] U
 have Z:=ab.drop 3 Z U
 refine a8 hA (n:=hg) ?_ ?_
 exact ij g5 ⟨0,hg,an,[],S0,U,Nat.le_refl _,U,c6,a4,a1,U,U,U,Z⟩
 intro l0 f w_ hI
 obtain ⟨ag,b4,o,af,j,rfl,hB,hk,c6,a4,a1,b1,b8,bd,Z⟩:=ik g5 hI
 refine sq (bh U bd U (nq (al (b:=decide ((ag:Int)<13)) U (fun g6=>?_) (fun g6=>?_))))
 have hq:=of_decide_eq_true g6
 rcases b4 with _ | e3
 exact absurd hq (lA hk g4)
 obtain ⟨l1,c7,c6⟩:=eA c6
 rw [fS] at c7
 refine aq (ao (ak (ao ?_)))
 obtain ⟨a5,hC,c7⟩:=bind_some c7
 refine ae (mF bd U (Fj U underlying149 sizeOf3 isAgg3 b8 bd hp hC (aI U (aI U (nn (ak (sq (mI U (c9 U U U (aB U (nn ?_)))))))))))
 obtain ⟨⟨c8,dd⟩,bs,c7⟩:=bind_some c7
 obtain ⟨h5,g7⟩:=ca fun f w_=>∃ a2,f 1=I c8∧f 4=Pt g3∧f 9=Pt ee∧f 44=(.agg (qR J))∧f 45=I ag∧ab b3 w_ (oF 122 au a2 dd :: box ee 73 #[a2,I 0] :: box g3 73 #[S0,I 0] :: R)
 refine av h5 ?_ ?_
 refine al (b:=decide (a5 > 0)) U (fun g8=>?_) (fun g8=>?_)
 have bs:=(az g8).symm.trans bs
 obtain ⟨l2,hD,bs⟩:=bind_some bs
 refine ae (fA 0 ck b1 U (bw 1 Z isAgg71 U U U (mI U (mI U (da U (iB U U) (eF (I a5) (I ag) U U) (cS U (bG U) (gh (I a5) (I ag) ) Z (fun h6 l3 Z=>?_)))))))
 have Z:=ab.dr (r:=au) (cs:=[I a5,I ag]) (x:=({ coef:=a5,lit:=(ag:Int) }:Term)) Z (bM.2 U)
 have Z:=ab.bS (R:=(OR.bu au)) [([I a5,I ag],({ coef:=a5,lit:=(ag:Int) }:Term))] [({ coef:=a5,lit:=(ag:Int) }:Term)] 1 Z U U U (by decide)
 have Z:=Z.get 1 U
 refine cj (v:=j) (u:=(Sl h6 1 1)) U lN U U Z hD (fun hr l4 Z=>fA 0 ck b1 U (ei (v:=hr) (cs2:=#[hr,I 0]) 1 U sizeOf71 U U (aH (ab.len 0 Z U)) Z U U U (fun l5 Z=>nn ?_)))
 obtain ⟨rfl,rfl⟩:=xV bs
 have Z:=Z.aU [2,1,2] U
 exact rj g7 ⟨hr,a4,a1,b1,b8,bd,Z⟩
 have bs:=(ay g8).symm.trans bs
 refine sq (mI U (bh U U U (aB U (nn ?_))))
 obtain ⟨⟨e5,fa⟩,ch,bs⟩:=bind_some bs
 obtain ⟨h7,g9⟩:=ca fun f w_=>∃ a3,f 1=I e5∧f 4=Pt g3∧f 9=Pt ee∧f 44=(.agg (qR J))∧f 45=I ag∧ab b3 w_ (oF 122 au a3 fa :: box ee 73 #[a3,I 0] :: box g3 73 #[S0,I 0] :: R)
 refine av h7 ?_ ?_
 refine al (b:=decide (a5<0)) U (fun ha=>?_) (fun ha=>?_)
 have ch:=(az ha).symm.trans ch
 refine ao ?_
 obtain ⟨l7,hE,ch⟩:=bind_some ch
 refine ae (fA 0 ck b1 U (bw 1 Z isAgg71 U U U (mI U (kg U U (mI U (kg U U (da U (iB U U) (eF (I (i64 (-a5))) (I (i64 (-(ag:Int)))) U U) (cS U (bG U) (gh (I (i64 (-a5))) (I (i64 (-(ag:Int)))) ) Z (fun h8 l8 Z=>?_)))))))))
 have Z:=ab.dr (r:=au) (cs:=[I (i64 (-a5)),I (i64 (-(ag:Int)))]) (x:=({ coef:=i64 (-a5),lit:=i64 (-(ag:Int)) }:Term)) Z (bM.2 U)
 have Z:=ab.bS (R:=(OR.bu au)) [([I (i64 (-a5)),I (i64 (-(ag:Int)))],({ coef:=i64 (-a5),lit:=i64 (-(ag:Int)) }:Term))] [({ coef:=i64 (-a5),lit:=i64 (-(ag:Int)) }:Term)] 1 Z U U U (by decide)
 have Z:=Z.get 1 U
 refine cj (v:=j) (u:=(Sl h8 1 1)) U lN U U Z hE (fun hb h9 Z=>fA 0 ck b1 U (ei (v:=hb) (cs2:=#[hb,I 0]) 1 U sizeOf71 U U (aH (ab.len 0 Z U)) Z U U U (fun ih Z=>nn (ae (mF a4 U (mI U (db U U U (aI U (nn ?_)))))))))
 obtain ⟨rfl,rfl⟩:=xV ch
 have Z:=Z.aU [2,1,2] U
 exact rj g9 ⟨hb,U,a1,b1,b8,bd,Z⟩
 have ch:=(ay ha).symm.trans ch
 refine aq ?_
 obtain ⟨rfl,rfl⟩:=xV ch
 exact rj g9 ⟨j,a4,a1,b1,b8,bd,Z⟩
 intro f w_ hR
 obtain ⟨a3,a4,a1,b1,b8,bd,Z⟩:=rk g9 hR
 obtain ⟨rfl,rfl⟩:=xV bs
 exact rj g7 ⟨a3,a4,a1,b1,b8,bd,Z⟩
 intro f w_ hR
 obtain ⟨a2,a4,a1,b1,b8,bd,Z⟩:=rk g7 hR
 refine ae (bf U bd U (mI U (nn ?_)))
 obtain rfl:=so c7
 show ∃ m,m<_∧hA m _ _
 refine ⟨e3,Nat.lt_succ_self _,?_⟩
 exact ij g5 ⟨ag+1,e3,c8,dd,a2,U,by omega,by omega,c6,a4,a1,b1,b8,((eI (aO (n:=0+hg) (by omega) (jg g4)))),Z⟩
 rcases b4 with _ | _
 obtain rfl:=eo c6
 refine a9 (rj hj ⟨o,af,j,U,a4,a1,b1,Z⟩)
 exact absurd (jZ hB hk g4) (of_decide_eq_false g6)
 intro f w_ hR
 obtain ⟨o,af,j,rfl,a4,a1,b1,Z⟩:=rk hj hR
 refine sq (mF a4 U (AI U U U (fA 1 fy b1 U (ei (v:=I (max 0 o)) (cs2:=#[j,I (max 0 o)]) 1 U sizeOf3 U U U Z U U U (fun jn Z=>nq ?_)))))
 obtain ⟨dg,hs,hF⟩:=bind_some hF
 refine ae (a7 (cs:=[j,I (max 0 o)]) U isAgg73 sizeOf73 b1 (At.bK (de.at (ab.aM 0 Z U)) 0 2) U ?_)
 have Z:=Z.get 1 U
 obtain ⟨hG,hJ,Z,en⟩:=ab.freeze Z
 have en:(rS 122 au).rel hG [j] af:=en
 refine ar U call144 (b9 U) (lJ (c:=({ terms:=af,bound:=max 0 o }:Con)) Z en hs) ?_
 rintro _ j1 ⟨hK,hN,b2,rfl,ej,Z⟩
 refine dF (v:=.agg #[b2,I dg.1.bound]) U U U (dF (v:=Bo dg.2) U U U (bg (vs:=#[b2,I dg.1.bound]) (cs2:=#[b2,I dg.1.bound]) 1 U sizeOf73 a1 U U (aj (aH (ai ej)) (aj U aK)) Z U (by show 0+2≤2; decide) U (fun j2 Z=>aB U (nn (aA (dc (v1:=.agg #[b2,I dg.1.bound]) (v2:=Bo dg.2) results102 (bC isAgg73 sizeOf73 a1 (ab.aM 0 Z U) U) U ?_))))))
 obtain rfl:=so hF
 have Z:=ab.drop 0 Z U
 have Z:=ab.drop 0 Z U
 exact ⟨hK,(Le.trans (Le.trans fs hJ) hN),b2,U,ej,Z⟩
theorem py {x:Int} {H:FH} {w:World} (Z:ab H w []) {r:Bool} (hF:ki x=some r):C prog 211 #[I x] w fun v w'=>v=Bo r∧ab H w' []:=by
 unfold ki at hF
 refine aE func211 U ntmps211 U (sq (aB U (ns (mI U (mI U (gS U U U (aB U (nn (aA (aN (v1:=Bo (x != x)) results211 U ?_))))))))))
 obtain rfl:=so hF
 exact ⟨U,Z⟩
theorem u9 {x:Int} {y:Int} {H:FH} {w:World} (Z:ab H w []) {r:Bool} (hF:lb x y=some r):C prog 186 #[I x,I y] w fun v w'=>v=Bo r∧ab H w' []:=by
 unfold lb at hF
 refine aE func186 U ntmps186 U (sq (aB U (nq ?_)))
 obtain ⟨x6,a0,hF⟩:=bind_some hF
 obtain ⟨o,j,hF⟩:=bind_some hF
 obtain ⟨a1,J⟩:=ca fun f w_=>f 4=Bo (o || (decide (x<y)))∧ab H w_ ([])
 refine av a1 ?_ ?_
 refine ae (mI U ?_)
 obtain ⟨bd,b0,a2,b1,a3⟩:=Z.borrow
 refine ar U call211 (b9 U) (py (x:=x) a2 a0) ?_
 rintro _ b2 ⟨rfl,Z⟩
 have Z:=a3 Z c0
 refine mB U (aD (d:=7) (b:=x6) U (fun R=>?_) (fun R=>?_))
 rw [az R] at j
 obtain ⟨b3,an,j⟩:=bind_some j
 refine mI U ?_
 obtain ⟨bs,b4,a4,b5,a5⟩:=Z.borrow
 refine ar U call211 (b9 U) (py (x:=y) a4 an) ?_
 rintro _ b8 ⟨rfl,Z⟩
 have Z:=a5 Z c0
 refine bL U U (dU j U (mB U (aD (d:=12) (b:=o) U (fun af=>?_) (fun af=>?_))))
 refine ps U (ps U (ps U (aC (v:=Bo (o || (decide (x<y)))) U U (fK af) (aB U (nn (rj J ⟨U,Z⟩))))))
 refine mI U (mI U (bh U U U (aC (v:=Bo (o || (decide (x<y)))) U U (fb af U) (aB U (nn (rj J ⟨U,Z⟩))))))
 rw [ay R] at j
 refine ps U (ps U (ps U (dU j U (mB U (aD (d:=12) (b:=o) U (fun ag=>?_) (fun ag=>?_))))))
 exact gj ag (so j).symm
 refine mI U (mI U (bh U U U (aC (v:=Bo (o || (decide (x<y)))) U U (fb ag U) (aB U (nn (rj J ⟨U,Z⟩))))))
 intro f w_ hR
 obtain ⟨a6,Z⟩:=rk J hR
 refine aA (aN (v1:=Bo (o || (decide (x<y)))) results186 a6 ?_)
 obtain rfl:=so hF
 exact ⟨U,Z⟩
theorem kK {fu:Nat} {data:List Int} {a:Int} {b:Int} {v0:Value} {H:FH} {w:World} (Z:ab H w [oF 3 RP.int v0 data]) {r:List Int} (hF:du fu data a b=some r):C prog 180 #[v0,I a,I b] w fun v w'=>v=.tuple #[]∧ab H w' [oF 3 RP.int v0 r]:=by
 unfold du at hF
 refine aE func180 U ntmps180 U (sq (mI U (bf U U U (aI U (nn ?_)))))
 obtain ⟨j6,c2,hF⟩:=bind_some hF
 obtain ⟨R6,g0⟩:=ca fun f w_=>∃ ag:List Int,∃ a6:Int,∃ H4,j6=.nx (ag,a6)∧Le H H4∧ab H4 w_ ([oF 3 RP.int v0 ag])
 refine av R6 ?_ ?_
 refine ak ?_
 obtain ⟨I6,e0⟩:=ff fun n f w_=>∃ ag:List Int,∃ a6:Int,∃ H4,bx (bY fu a b) n (ag,a6)=some j6∧Le H H4∧f 0=v0∧f 1=I a∧f 2=I b∧f 6=I a6∧ab H4 w_ ([oF 3 RP.int v0 ag])
 refine a8 I6 (n:=fu) ?_ ?_
 exact ij e0 ⟨data,i64 (a+1),H,c2,(Le.refl _),U,U,U,U,Z⟩
 intro n6 f w_ hI
 obtain ⟨ag,a6,H4,c2,l5,a4,b0,b8,b1,Z⟩:=ik e0 hI
 rcases n6 with _ | n6
 exact (cl c2).elim
 obtain ⟨o6,ch,c2⟩:=cq c2
 rw [bY] at ch
 refine ao (sq (mF b1 U (mF b8 U (bh U U U (nn (al (b:=decide (a6<b)) U (fun e1=>?_) (fun e1=>?_)))))))
 have ch:=(az e1).symm.trans ch
 refine aq (ao (ak (sq (mF b1 U (aI U (nn ?_))))))
 obtain ⟨g1,b2,ch⟩:=bind_some ch
 obtain ⟨hf,en⟩:=ca fun f w_=>∃ o:List Int,∃ J:Int,∃ cn,g1=.nx (o,J)∧Le H4 cn∧f 0=v0∧f 1=I a∧f 2=I b∧f 6=I a6∧ab cn w_ ([oF 3 RP.int v0 o])
 refine av hf ?_ ?_
 refine ak ?_
 obtain ⟨g2,c6⟩:=ff fun n f w_=>∃ o:List Int,∃ J:Int,∃ cn,bx (bX a) n (o,J)=some g1∧Le H4 cn∧f 0=v0∧f 1=I a∧f 2=I b∧f 6=I a6∧f 7=I J∧ab cn w_ ([oF 3 RP.int v0 o])
 refine a8 g2 (n:=fu) ?_ ?_
 exact ij c6 ⟨ag,a6,H4,b2,(Le.refl _),a4,b0,b8,b1,U,Z⟩
 intro e2 f w_ hI
 obtain ⟨o,J,cn,b2,ee,a4,b0,b8,b1,bs,Z⟩:=ik c6 hI
 rcases e2 with _ | e2
 exact (cl b2).elim
 obtain ⟨hq,an,b2⟩:=cq b2
 rw [bX] at an
 refine ao (ao ?_)
 obtain ⟨ej,a3,an⟩:=bind_some an
 obtain ⟨hg,c7⟩:=ca fun f w_=>∃ ek,Le cn ek∧f 0=v0∧f 1=I a∧f 2=I b∧f 6=I a6∧f 7=I J∧f 30=Bo ej∧ab ek w_ ([oF 3 RP.int v0 o])
 refine av hg ?_ ?_
 rcases Bool.eq_false_or_eq_true (decide (J > a)) with af | af
 rw [az af] at a3
 obtain ⟨e3,c8,a3⟩:=bind_some a3
 obtain ⟨e4,et,a3⟩:=bind_some a3
 obtain ⟨hr,g3,a3⟩:=bind_some a3
 obtain ⟨g4,g5,c4,_,_⟩:=ab.row 0 Z U c8
 refine cv 13 [I J,I a,Bo (decide (J > a)),Bo (decide (J > a)),v0,I J,Value.pointer (some ⟨g4,Int.toNat J * 1,none⟩),I e3,v0,I J,I (i64 (J - 1)),Value.pointer (some ⟨g4,Int.toNat (i64 (J - 1)) * 1,none⟩),I e4] [oF 3 RP.int v0 o] [] ([]) [([],[]),([],[]),([],[]),([],[]),([],[]),([],[]),([],[]),([],[]),([],[]),([],[]),([],[]),([],[]),([],[])] (S:=[]) aP (by kernel_rfl) U (by kernel_rfl) Z ?_ (fun f w_ dd a1 cp b3 Z=>?_)
 refine aa (fun f w_ _ _ s _ _ Z=>mF ((s 7 U).trans bs) U (nO U U Z)) (aa (fun f w_ _ _ s _ _ Z=>mF ((s 1 U).trans b0) U (nO U U Z)) (aa (fun f w_ _ _ _ _ p Z=>c9 U (p 0 16 U U) (p 1 17 U U) (nO U U Z)) (aa (fun f w_ _ _ _ _ p Z=>mF (p 2 18 U U) U (nO U U Z)) (aa (fun f w_ _ _ s _ p Z=>iV (v:=v0) (bm U (cB (p 3 19 U U) af) U) ((s 0 U).trans a4) (nO U U Z)) (aa (fun f w_ _ _ s _ p Z=>iV (v:=I J) (bm U (cB (p 3 19 U U) af) U) ((s 7 U).trans bs) (nO U U Z)) (aa (fun f w_ _ _ _ _ p Z=>bJ (R:=(OR.bu RP.int)) (tb:=0) 0 (bm U (cB (p 3 19 U U) af) U) underlying23 sizeOf3 (p 4 20 U U) c4 (by first | rfl | simp) (p 5 21 U U) c8 (nO U U Z)) (aa ?_ ?_)))))))
 intro f w_ dd hh a1 cp c1 Z
 obtain ⟨hk,g6,e5⟩:=ab.fE 0 Z U c4 c8
 obtain rfl:_=[_]:=g6
 refine bt (v:=I e3) (bm U (cB (c1 3 19 U U) af) U) isAgg3 (c1 6 22 U U) (At.cell e5 (j:=0) U) (ax ⟨U,_,_,U,Le.refl _,fun _ _=>rfl,Z⟩)
 refine aa (fun f w_ _ _ s _ p Z=>iV (v:=v0) (bm U (cB (p 3 19 U U) af) U) ((s 0 U).trans a4) (nO U U Z)) (aa (fun f w_ _ _ s _ p Z=>iV (v:=I J) (bm U (cB (p 3 19 U U) af) U) ((s 7 U).trans bs) (nO U U Z)) (aa (fun f w_ _ _ _ _ p Z=>db (bm U (cB (p 3 19 U U) af) U) (p 9 25 U U) U (nO U U Z)) (aa (fun f w_ _ _ _ _ p Z=>bJ (R:=(OR.bu RP.int)) (tb:=0) 0 (bm U (cB (p 3 19 U U) af) U) underlying23 sizeOf3 (p 8 24 U U) c4 (by first | rfl | simp) (p 10 26 U U) et (nO U U Z)) (aa ?_ ?_))))
 intro f w_ dd hh a1 cp c1 Z
 obtain ⟨hl,g7,fa⟩:=ab.fE 0 Z U c4 et
 obtain rfl:_=[_]:=g7
 refine bt (v:=I e4) (bm U (cB (c1 3 19 U U) af) U) isAgg3 (c1 11 27 U U) (At.cell fa (j:=0) U) (ax ⟨U,_,_,U,Le.refl _,fun _ _=>rfl,Z⟩)
 exact aQ
 obtain ⟨hn,hs,hi,ht,hj⟩:=Z.borrow
 refine ar (bm U (cB (b3 3 19 U U) af) U) call186 (cu (b3 7 23 U U) (b3 12 28 U U)) (u9 (x:=e3) (y:=e4) hi g3) ?_
 rintro _ hv ⟨rfl,Z⟩
 have Z:=hj Z c0
 refine aC (v:=Bo ej) U (cB (b3 3 19 U U) af) (congrArg Value.bool (so a3)) (nn (rj c7 ⟨dd,cp,((a1 0 U).trans a4),((a1 1 U).trans b0),((a1 2 U).trans b8),((a1 6 U).trans b1),((a1 7 U).trans bs),U,Z⟩))
 rw [ay af] at a3
 refine cv 13 [I J,I a,Bo (decide (J > a)),Bo (decide (J > a)),undef,undef,undef,undef,undef,undef,undef,undef,undef] [oF 3 RP.int v0 o] [] ([]) [([],[]),([],[]),([],[]),([],[]),([],[]),([],[]),([],[]),([],[]),([],[]),([],[]),([],[]),([],[]),([],[])] (S:=[]) aP (by kernel_rfl) U (by kernel_rfl) Z ?_ (fun f w_ dd a1 cp b3 Z=>?_)
 refine aa (fun f w_ _ _ s _ _ Z=>mF ((s 7 U).trans bs) U (nO U U Z)) (aa (fun f w_ _ _ s _ _ Z=>mF ((s 1 U).trans b0) U (nO U U Z)) (aa (fun f w_ _ _ _ _ p Z=>c9 U (p 0 16 U U) (p 1 17 U U) (nO U U Z)) (aa (fun f w_ _ _ _ _ p Z=>mF (p 2 18 U U) U (nO U U Z)) (oP (fun _ _ p=>gN (p 3 19 U U) af U) (fun _=>rfl) (oP (fun _ _ p=>gN (p 3 19 U U) af U) (fun _=>rfl) (oP (fun _ _ p=>gN (p 3 19 U U) af U) (fun _=>rfl) (oP (fun _ _ p=>gN (p 3 19 U U) af U) (fun _=>rfl) (oP (fun _ _ p=>gN (p 3 19 U U) af U) (fun _=>rfl) (oP (fun _ _ p=>gN (p 3 19 U U) af U) (fun _=>rfl) (oP (fun _ _ p=>gN (p 3 19 U U) af U) (fun _=>rfl) (oP (fun _ _ p=>gN (p 3 19 U U) af U) (fun _=>rfl) (oP (fun _ _ p=>gN (p 3 19 U U) af U) (fun _=>rfl) (aQ)))))))))))))
 refine ps (rn U (cB (b3 3 19 U U) af) U U) (aC (v:=Bo ej) U (cB (b3 3 19 U U) af) (congrArg Value.bool (so a3)) (nn (rj c7 ⟨dd,cp,((a1 0 U).trans a4),((a1 1 U).trans b0),((a1 2 U).trans b8),((a1 6 U).trans b1),((a1 7 U).trans bs),U,Z⟩)))
 intro f w_ hR
 obtain ⟨ek,g8,a4,b0,b8,b1,bs,g9,Z⟩:=rk c7 hR
 refine al (b:=ej) g9 (fun dg=>?_) (fun dg=>?_)
 have an:=(az dg).symm.trans an
 refine aq (ao (ak ?_))
 obtain ⟨c3,dj,an⟩:=bind_some an
 obtain ⟨ds,c5,an⟩:=bind_some an
 obtain ⟨hx,eu,an⟩:=bind_some an
 obtain ⟨fo,ha,bd,_,_⟩:=ab.row 0 Z U dj
 refine cv 16 [v0,I J,v0,I J,I (i64 (J - 1)),v0,I J,I (i64 (J - 1)),Value.pointer (some ⟨fo,Int.toNat (i64 (J - 1)) * 1,none⟩),I c3,v0,I J,Value.pointer (some ⟨fo,Int.toNat J * 1,none⟩),I ds,Value.pointer (some ⟨fo,Int.toNat J * 1,none⟩),none] [] [.base (oF 3 RP.int v0 o) (some 15),.madeN 15 [] (fun vs_=>oF 3 RP.int v0 (o.set (Int.toNat J) c3)) none] ([]) [([],[]),([],[]),([],[]),([],[]),([],[]),([],[]),([],[]),([],[]),([0],[0]),([0],[0]),([],[]),([],[]),([0],[0]),([0],[0]),([0],[0]),([0],[1])] (S:=[(none,[],some 15),(some 15,[],none)]) aP (by kernel_rfl) U (by kernel_rfl) Z ?_ (fun f w_ a5 a2 b4 ec Z=>?_)
 refine aa (fun f w_ _ _ s _ _ Z=>mF ((s 0 U).trans a4) U (nO U U Z)) (aa (fun f w_ _ _ s _ _ Z=>mF ((s 7 U).trans bs) U (nO U U Z)) (aa (fun f w_ _ _ s _ _ Z=>mF ((s 0 U).trans a4) U (nO U U Z)) (aa (fun f w_ _ _ s _ _ Z=>mF ((s 7 U).trans bs) U (nO U U Z)) (aa (fun f w_ _ _ _ _ p Z=>db U (p 3 36 U U) U (nO U U Z)) (aa (fun f w_ _ _ s _ _ Z=>mF ((s 0 U).trans a4) U (nO U U Z)) (aa (fun f w_ _ _ s _ _ Z=>mF ((s 7 U).trans bs) U (nO U U Z)) (aa (fun f w_ _ _ _ _ p Z=>db U (p 6 39 U U) U (nO U U Z)) (aa ?_ ?_))))))))
 intro f w_ a5 b5 a2 b4 a0 Z
 have Z:ab a5 w_ (oF 3 RP.int v0 o :: b5):=Z
 refine bJ (R:=(OR.bu RP.int)) (tb:=0) 0 U underlying23 sizeOf3 (a0 5 38 U U) bd (by first | rfl | simp) (a0 7 40 U U) dj (ax ⟨U,_,_,U,Le.refl _,fun _ _=>rfl,Z⟩)
 refine aa ?_ ?_
 intro f w_ a5 b5 a2 b4 a0 Z
 have Z:ab a5 w_ (oF 3 RP.int v0 o :: b5):=Z
 obtain ⟨ho,hb,fs⟩:=ab.fE 0 Z U bd dj
 obtain rfl:_=[_]:=hb
 refine bt U isAgg3 (a0 8 41 U U) (At.cell fs (j:=0) U) (ax ⟨U,_,_,U,Le.refl _,fun _ _=>rfl,Z⟩)
 refine aa (fun f w_ _ _ s _ _ Z=>mF ((s 0 U).trans a4) U (nO U U Z)) (aa (fun f w_ _ _ s _ _ Z=>mF ((s 7 U).trans bs) U (nO U U Z)) (aa ?_ ?_))
 intro f w_ a5 b5 a2 b4 a0 Z
 have Z:ab a5 w_ (oF 3 RP.int v0 o :: b5):=Z
 refine bJ (R:=(OR.bu RP.int)) (tb:=0) 0 U underlying23 sizeOf3 (a0 10 43 U U) bd (by first | rfl | simp) (a0 11 44 U U) c5 (ax ⟨U,_,_,U,Le.refl _,fun _ _=>rfl,Z⟩)
 refine aa ?_ ?_
 intro f w_ a5 b5 a2 b4 a0 Z
 have Z:ab a5 w_ (oF 3 RP.int v0 o :: b5):=Z
 obtain ⟨hp,hc,gd⟩:=ab.fE 0 Z U bd c5
 obtain rfl:_=[_]:=hc
 refine bt U isAgg3 (a0 12 45 U U) (At.cell gd (j:=0) U) (ax ⟨U,_,_,U,Le.refl _,fun _ _=>rfl,Z⟩)
 refine aa ?_ ?_
 intro f w_ a5 b5 a2 b4 a0 Z
 have Z:ab a5 w_ (oF 3 RP.int v0 o :: b5):=Z
 refine bJ (R:=(OR.bu RP.int)) (tb:=0) 0 U underlying23 sizeOf3 (a0 0 33 U U) bd (by first | rfl | simp) (a0 1 34 U U) c5 (ax ⟨U,_,_,U,Le.refl _,fun _ _=>rfl,Z⟩)
 refine aa ?_ ?_
 intro f w_ a5 b5 a2 b4 a0 Z
 have Z:ab a5 w_ (oF 3 RP.int v0 o :: b5):=Z
 have Z:=ab.dr (r:=RP.int) (cs:=[I c3]) (x:=c3) Z U
 refine fj (u:=I c3) U sizeOf3 U (a0 14 47 U U) (a0 9 42 U U) bd Z c5 (fun hy Z=>?_)
 exact ax ⟨U,Bo false,_,U,Le.refl _,(fun _ h=>nomatch h),Z⟩
 exact aQ
 have Z:ab a5 w_ ([oF 3 RP.int v0 (o.set (Int.toNat J) c3)]):=Z
 refine bJ (R:=(OR.bu RP.int)) (tb:=0) 0 U underlying23 sizeOf3 (ec 2 35 U U) bd (by first | rfl | simp) (ec 4 37 U U) eu ?_
 have Z:=ab.dr (r:=RP.int) (cs:=[I ds]) (x:=ds) Z U
 refine fj (u:=I ds) U sizeOf3 U U (ec 13 46 U U) bd Z eu (fun hz Z=>?_)
 refine nn (ae (mF ((a2 7 U).trans bs) U (db U U U (aI U (nn ?_)))))
 obtain rfl:=so an
 show ∃ m,m<_∧g2 m _ _
 refine ⟨e2,Nat.lt_succ_self _,?_⟩
 exact ij c6 ⟨((o.set (Int.toNat J) c3).set (Int.toNat (i64 (J - 1))) ds),i64 (J - 1),a5,b2,(Le.trans (Le.trans ee g8) b4),((a2 0 U).trans a4),((a2 1 U).trans b0),((a2 2 U).trans b8),((a2 6 U).trans b1),U,Z⟩
 have an:=(ay dg).symm.trans an
 refine a9 ?_
 obtain rfl:=so an
 obtain rfl:=so b2
 exact rj en ⟨o,J,ek,U,(Le.trans ee g8),a4,b0,b8,b1,Z⟩
 intro f w_ hR
 obtain ⟨o,J,cn,rfl,ee,a4,b0,b8,b1,Z⟩:=rk en hR
 refine ae (mF b1 U (bf U U U (aI U (nn ?_))))
 obtain rfl:=so ch
 show ∃ m,m<_∧I6 m _ _
 refine ⟨n6,Nat.lt_succ_self _,?_⟩
 exact ij e0 ⟨o,i64 (a6+1),cn,c2,(Le.trans l5 ee),a4,b0,b8,U,Z⟩
 have ch:=(ay e1).symm.trans ch
 refine a9 ?_
 obtain rfl:=so ch
 obtain rfl:=so c2
 exact rj g0 ⟨ag,a6,H4,U,l5,Z⟩
 intro f w_ hR
 obtain ⟨ag,a6,H4,rfl,l5,Z⟩:=rk g0 hR
 refine sW results180 ?_
 obtain rfl:=so hF
 exact ⟨U,(ab.down Z l5 (co bk c0))⟩
theorem mu {fu:Nat} {data:List Int} {a:Int} {b:Int} {limit:Int} {v0:Value} {H:FH} {w:World} (Z:ab H w [oF 3 RP.int v0 data]) {r:List Int} (hF:eO fu data a b limit=some r):C prog 145 #[v0,I a,I b,I limit] w fun v w'=>v=.tuple #[]∧ab H w' [oF 3 RP.int v0 r]:=by
 unfold eO at hF
 refine aE func145 U ntmps145 U (sq (aB U (ns (aB U (nn ?_)))))
 obtain ⟨j2,o,hF⟩:=bind_some hF
 obtain ⟨R2,an⟩:=ca fun f w_=>j2=.nx ()∧ab H w_ ([oF 3 RP.int v0 data])
 refine av R2 ?_ ?_
 refine ak ?_
 obtain ⟨I2,R⟩:=ff fun n f w_=>bx (cL fu data a b) n ()=some j2∧f 0=v0∧f 1=I a∧f 2=I b∧ab H w_ ([oF 3 RP.int v0 data])
 refine a8 I2 (n:=fu) ?_ ?_
 exact ij R ⟨o,U,U,U,Z⟩
 intro n2 f w_ hI
 obtain ⟨o,a0,af,ag,Z⟩:=ik R hI
 rcases n2 with _ | n2
 exact (cl o).elim
 obtain ⟨o2,j,o⟩:=cq o
 rw [cL] at j
 refine ak (sq (mF ag U (mF af U (db U U U (aI U (nq (sq (mI U (kE U U U (nn (al (b:=decide ((i64 (b - a))≤12)) U (fun J=>?_) (fun J=>?_))))))))))))
 have j:=(az J).symm.trans j
 refine ao ?_
 obtain ⟨x9,a1,j⟩:=bind_some j
 refine ae (mF a0 U (mF af U (mF ag U ?_)))
 obtain ⟨a4,a5,a2,a6,a3⟩:=Z.lS [_]
 refine ar U call180 (k9 U U U) (kK (data:=data) (a:=a) (b:=b) a2 a1) ?_
 rintro _ bd ⟨rfl,Z⟩
 have Z:=a3 Z (co bk c0)
 refine nn (aA (sW results145 ?_))
 obtain rfl:=so j
 obtain rfl:=so o
 obtain rfl:=so hF
 exact ⟨U,Z⟩
 have j:=(ay J).symm.trans j
 refine aq ?_
 cases j
 intro f w_ hR
 obtain ⟨rfl,Z⟩:=rk an hR
 refine sW results145 ?_
 obtain rfl:=so hF
 exact ⟨U,Z⟩
theorem sC {fu:Nat} {x:List Int} {v0:Value} {H:FH} {w:World} (Z:ab H w [oF 3 RP.int v0 x]) {r:List Int} (hF:iG fu x=some r):C prog 103 #[v0] w fun v w'=>v=.tuple #[]∧ab H w' [oF 3 RP.int v0 r]:=by
 unfold iG at hF
 refine aE func103 U ntmps103 U (sq (mV v0 U (aW U underlying23 U (ab.len 0 Z U) (aI U (nn ?_)))))
 obtain ⟨x6,o,hF⟩:=bind_some hF
 obtain ⟨a0,j,hF⟩:=bind_some hF
 refine ae (mV v0 U (mI U (mI U (BA (n:=(x.length:Int)) U U ⟨_,underlying3⟩ underlying148 ?_))))
 obtain ⟨ag,a1,I,a2,J⟩:=Z.borrow
 refine ar U call143 (b9 U) (rq (x_:=IntKind.u64.wrap (x.length:Int)) I o) ?_
 rintro _ a3 ⟨rfl,Z⟩
 have Z:=J Z c0
 obtain ⟨an,a4,R,a5,af⟩:=Z.lS [_]
 refine ar U call145 (Fl U U U U) (mu (data:=x) (a:=0) (b:=(x.length:Int)) (limit:=x6) R j) ?_
 rintro _ a6 ⟨rfl,Z⟩
 have Z:=af Z (co bk c0)
 refine nn (sW results103 ?_)
 obtain rfl:=so hF
 exact ⟨U,Z⟩
theorem rG {s1:List Int} {s2:List Int} {v0:Value} {v1:Value} {H:FH} {w:World} (Z:ab H w []) (h0:(rS 3 RP.int).rel H [v0] s1) (h1:(rS 3 RP.int).rel H [v1] s2) {r:Bool} (hF:jO s1 s2=some r):C prog 147 #[v0,v1] w fun v w'=>v=Bo r∧ab H w' []:=by
 unfold jO at hF
 refine aE func147 U ntmps147 U (sq (aB U (nq (sq (mV v0 U (aW U underlying23 U (ai h0) (mV v1 U (aW U underlying23 U (ai h1) (gS U U U (nn (al (b:=((s1.length:Int) != (s2.length:Int))) U (fun b3=>?_) (fun b3=>?_))))))))))))
 have hF:=(az b3).symm.trans hF
 refine sq (aB U (nn (aA (aN (v1:=Bo false) results147 U ?_))))
 obtain rfl:=so hF
 exact ⟨U,Z⟩
 have hF:=(ay b3).symm.trans hF
 refine aq (ao (sq (mV v0 U (aW U underlying23 U (ai h0) (mI U (nn ?_))))))
 have b4:List.length s1≤9223372036854775807:=bB (ai h0)
 obtain ⟨j5,a0,hF⟩:=bind_some hF
 obtain ⟨R5,c5⟩:=ca fun f w_=>∃ H3,j5=.nx ()∧Le H H3∧ab H3 w_ ([])
 refine av R5 ?_ ?_
 refine ak ?_
 obtain ⟨I5,b5⟩:=ff fun n f w_=>∃ ag:Nat,∃ af:List Int,∃ H3,n=af.length∧List.drop ag s1=af∧ag+af.length=s1.length∧aw (hU s2) af ag ()=some j5∧Le H H3∧f 0=v0∧f 1=v1∧f 12=I (s1.length:Int)∧f 13=I ag∧ab H3 w_ ([])
 refine a8 I5 (n:=s1.length) ?_ ?_
 exact ij b5 ⟨0,s1,H,U,U,Nat.zero_add _,a0,(Le.refl _),U,U,U,U,Z⟩
 intro n5 f w_ hI
 obtain ⟨ag,af,H3,rfl,c6,b0,a0,l4,c7,c8,b1,a5,Z⟩:=ik b5 hI
 refine sq (bh U a5 b1 (nq (al (b:=decide ((ag:Int)<(s1.length:Int))) U (fun b8=>?_) (fun b8=>?_))))
 have dd:=of_decide_eq_true b8
 rcases af with _ | ⟨ch,a6⟩
 exact absurd dd (by simp at b0; omega)
 obtain ⟨o5,an,a0⟩:=aJ a0
 rw [hU] at an
 have dg:=aY c6
 refine aq (ao (ak (sq (mF a5 U (aI U (nq ?_))))))
 obtain ⟨cn,dj,an⟩:=bind_some an
 refine bT 8 [aZ (v0),aZ (I ag),gC RP.int ch 0,aZ (I ch),aZ (v1),aZ (I ag),gC RP.int cn 0,aZ (I cn)] [] [] ([]) [([],[]),([],[]),([],[]),([],[]),([],[]),([],[]),([],[]),([],[])] (S:=[]) aP (by kernel_rfl) U (by kernel_rfl) (ad (ah _) (ad (ah _) (ad (bU _ _ _) (ad (ah _) (ad (ah _) (ad (ah _) (ad (bU _ _ _) (ad (ah _) bV)))))))) Z ?_ (fun f w_ bd J R b2 Z=>?_)
 refine aa (fun f w_ _ _ s _ _ Z=>mF ((s 0 U).trans c7) U (nO U U Z)) (aa (fun f w_ _ _ s _ _ Z=>mF ((s 5 U).trans U) U (nO U U Z)) (aa ?_ ?_))
 intro f w_ bd cp J R o Z
 refine bP (r:=RP.int) U underlying23 sizeOf3 (o 0 16 U U) (RP.mono _ h0 (Le.trans l4 R)) (o 1 17 U U) dg (fun et eu ee a1 c1=>?_)
 obtain rfl:_=[_]:=a1
 exact ax ⟨U,_,_,U,Le.refl _,fun _ _=>⟨_,_,_,U,U,c1⟩,Z⟩
 refine aa ?_ ?_
 intro f w_ bd cp J R o Z
 obtain ⟨e0,e1,ek,ds,a2,c2⟩:=(o 2 18 U U)
 obtain rfl:_=[_]:=a2
 refine bt U isAgg3 ds (At.cell (dn.at c2 Z.sub) (j:=0) U) (ax ⟨U,_,_,U,Le.refl _,fun _ _=>rfl,Z⟩)
 refine aa (fun f w_ _ _ s _ _ Z=>mF ((s 1 U).trans c8) U (nO U U Z)) (aa (fun f w_ _ _ s _ _ Z=>mF ((s 5 U).trans U) U (nO U U Z)) (aa ?_ ?_))
 intro f w_ bd cp J R o Z
 refine bP (r:=RP.int) U underlying23 sizeOf3 (o 4 20 U U) (RP.mono _ h1 (Le.trans l4 R)) (o 5 21 U U) dj (fun e2 e3 ej a3 c3=>?_)
 obtain rfl:_=[_]:=a3
 exact ax ⟨U,_,_,U,Le.refl _,fun _ _=>⟨_,_,_,U,U,c3⟩,Z⟩
 refine aa ?_ ?_
 intro f w_ bd cp J R o Z
 obtain ⟨e4,e5,en,ec,a4,c4⟩:=(o 6 22 U U)
 obtain rfl:_=[_]:=a4
 refine bt U isAgg3 ec (At.cell (dn.at c4 Z.sub) (j:=0) U) (ax ⟨U,_,_,U,Le.refl _,fun _ _=>rfl,Z⟩)
 exact aQ
 refine gS U (b2 3 19 U U) (b2 7 23 U U) (nn (al (b:=(ch != cn)) U (fun bs=>?_) (fun bs=>?_)))
 have an:=(az bs).symm.trans an
 refine sq (aB U (nn (aA (aN (v1:=Bo false) results147 U ?_))))
 obtain rfl:=so an
 obtain rfl:=so a0
 obtain rfl:=so hF
 exact ⟨U,(ab.down Z (Le.trans l4 R) c0)⟩
 have an:=(ay bs).symm.trans an
 refine aq (ae (bf U ((J 13 U).trans a5) U (mI U (nn ?_))))
 obtain rfl:=so an
 show ∃ m,m<_∧I5 m _ _
 refine ⟨a6.length,by simp,?_⟩
 exact ij b5 ⟨ag+1,a6,bd,U,aL c6,by simp at b0; omega,a0,(Le.trans l4 R),((J 0 U).trans c7),((J 1 U).trans c8),((J 12 U).trans b1),((eI (aO (n:=s1.length) (by simp at b0; omega) b4))),Z⟩
 rcases af with _ | ⟨_,_⟩
 obtain rfl:=aT a0
 refine a9 (rj c5 ⟨H3,U,l4,Z⟩)
 exact absurd (of_decide_eq_false b8) (by simp at b0; omega)
 intro f w_ hR
 obtain ⟨H3,rfl,l4,Z⟩:=rk c5 hR
 refine sq (aB U (nn (aA (aN (v1:=Bo true) results147 U ?_))))
 obtain rfl:=so hF
 exact ⟨U,(ab.down Z l4 c0)⟩
theorem sT {c1:List Int} {row:List Int} {v0:Value} {g_c1:Nat} {v1_0:Value} {H:FH} {w:World} (Z:ab H w []) (h0:(rS 3 RP.int).rel H [v0] row) (hat_g_c1:dn H g_c1 0 [v1_0]) (h1_0:(rS 3 RP.int).rel H [v1_0] c1) {r:Bool} (hF:ig c1 row=some r):C prog 146 #[v0,Pt g_c1] w fun v w'=>v=Bo r∧ab H w' []:=by
 unfold ig at hF
 refine aE func146 U ntmps146 U (sq (aB U (nq ?_)))
 obtain ⟨x6,o,hF⟩:=bind_some hF
 refine ae (mV v0 U (bt U isAgg23 U (At.ll (dn.at hat_g_c1 Z.sub) (j:=0) U) ?_))
 obtain ⟨R,l9,I,af,J⟩:=Z.borrow
 refine ar U call147 (cu U U) (rG (s1:=row) (s2:=c1) I (RP.mono _ h0 l9) (RP.mono _ h1_0 l9) o) ?_
 rintro _ ag ⟨rfl,Z⟩
 have Z:=J Z c0
 refine aB U (nn (aA (aN (v1:=Bo x6) results146 U ?_)))
 obtain rfl:=so hF
 exact ⟨U,Z⟩
theorem qb {r_:Rule} {vals:List Int} {v0_1:Value} {v0_2:Value} {v0_4:Value} {v1:Value} {H:FH} {w:World} (Z:ab H w []) (h0_1:(rS 3 RP.int).rel H [v0_1] r_.vars) (h0_2:(rS 3 RP.int).rel H [v0_2] r_.coefs) (h0_4:(rS 23 (rS 3 RP.int)).rel H [v0_4] r_.rows) (h1:(rS 3 RP.int).rel H [v1] vals) {r:Bool} (hF:jP r_ vals=some r):C prog 105 #[.agg #[I r_.kind,v0_1,v0_2,I r_.bound,v0_4],v1] w fun v w'=>v=Bo r∧ab H w' []:=by
 unfold jP at hF
 refine aE func105 U ntmps105 U (sq (cr (v:=.agg #[I r_.kind,v0_1,v0_2,I r_.bound,v0_4]) (cs:=#[I r_.kind,v0_1,v0_2,I r_.bound,v0_4]) U U U Z (fun g5 w6 Z=>cr (v:=v1) (cs:=#[v1]) U U (bl (aH (ai h1))) Z (fun g7 w8 Z=>aB U (nq (sq (fA 0 gB U U (bw 1 Z isAgg3 U U U (nn (ak (sq (bD U U U (aB U (nn (al (b:=(r_.kind == 1)) U (fun fa=>?_) (fun fa=>?_))))))))))))))))
 have hF:=(az fa).symm.trans hF
 refine sq (aI U (nq (sq (bw 0 Z isAgg23 U U U (aW U underlying23 U (ai h1) (mI U (nn ?_)))))))
 have dg:List.length vals≤9223372036854775807:=bB (ai h1)
 obtain ⟨hb,a3,hF⟩:=bind_some hF
 obtain ⟨hD,en⟩:=ca fun f w_=>∃ o:Int,hb=.nx o∧f 2=Pt g5∧f 5=I o∧ab H w_ ([box g5 79 #[I r_.kind,v0_1,v0_2,I r_.bound,v0_4]])
 refine av hD ?_ ?_
 refine ak ?_
 obtain ⟨hc,c2⟩:=ff fun n f w_=>∃ an:Nat,∃ R:List Int,∃ o:Int,n=R.length∧List.drop an vals=R∧an+R.length=vals.length∧aw (kl r_) R an o=some hb∧f 2=Pt g5∧f 5=I o∧f 14=v1∧f 15=I (vals.length:Int)∧f 16=I an∧ab H w_ ([box g5 79 #[I r_.kind,v0_1,v0_2,I r_.bound,v0_4]])
 have Z:=Z.get 1 U
 refine a8 hc (n:=vals.length) ?_ ?_
 exact ij c2 ⟨0,vals,0,U,U,Nat.zero_add _,a3,U,U,U,U,U,(ab.aG 1 Z)⟩
 intro j1 f w_ hI
 obtain ⟨an,R,o,rfl,et,b2,a3,c3,dj,eu,e0,b3,Z⟩:=ik c2 hI
 refine sq (bh U b3 e0 (nq (al (b:=decide ((an:Int)<(vals.length:Int))) U (fun c4=>?_) (fun c4=>?_))))
 have fo:=of_decide_eq_true c4
 rcases R with _ | ⟨hf,b4⟩
 exact absurd fo (by simp at b2; omega)
 obtain ⟨j2,b5,a3⟩:=aJ a3
 rw [kl] at b5
 have fs:=aY et
 refine aq (ao (ak (sq (mF b3 U (bP (r:=RP.int) U underlying23 sizeOf3 eu h1 b3 fs (fun j3 j4 hz bd fu=>?_))))))
 obtain rfl:_=[_]:=bd
 refine bt U isAgg3 U (At.cell (dn.at fu Z.sub) (j:=0) U) (aI U (aI U (nn ?_)))
 obtain ⟨hE,hg,b5⟩:=bind_some b5
 refine ae (mF dj U (fA 2 hO c3 U (bw 0 Z isAgg23 U U U (mI U (bP (r:=RP.int) U underlying23 sizeOf3 U h0_2 U hg (fun j5 j6 hA bs gd=>?_))))))
 obtain rfl:_=[_]:=bs
 refine bt U isAgg3 U (At.cell (dn.at gd Z.sub) (j:=0) U) (mI U (rf U U U (bf U U U (aI U (nn (ae (bf U b3 U (mI U (nn ?_)))))))))
 obtain rfl:=so b5
 show ∃ m,m<_∧hc m _ _
 refine ⟨b4.length,by simp,?_⟩
 exact ij c2 ⟨an+1,b4,i64 (o+(i64 (hE * hf))),U,aL et,by simp at b2; omega,a3,c3,U,eu,e0,((eI (aO (n:=vals.length) (by simp at b2; omega) dg))),Z⟩
 rcases R with _ | ⟨_,_⟩
 obtain rfl:=aT a3
 refine a9 (rj en ⟨o,U,c3,dj,Z⟩)
 exact absurd (of_decide_eq_false c4) (by simp at b2; omega)
 intro f w_ hR
 obtain ⟨o,rfl,c3,dj,Z⟩:=rk en hR
 refine sq (mF dj U (fA 3 km c3 U (bw 0 Z isAgg3 U U U (hY U U U (aB U (nn (aA (aN (v1:=Bo (decide (o ≥ r_.bound))) results105 U ?_))))))))
 obtain rfl:=so hF
 exact ⟨U,(ab.aG 0 Z)⟩
 have hF:=(ay fa).symm.trans hF
 refine sq (bD U U U (aB U (nn (al (b:=(r_.kind == 2)) U (fun c5=>?_) (fun c5=>?_)))))
 have hF:=(az c5).symm.trans hF
 refine ao (sq (bw 0 Z isAgg23 U U U (aW U underlying23 U (ai h1) (mI U (nn ?_)))))
 have ds:List.length vals≤9223372036854775807:=bB (ai h1)
 obtain ⟨hh,a0,hF⟩:=bind_some hF
 obtain ⟨hG,e1⟩:=ca fun f w_=>hh=.nx ()∧ab H w_ ([])
 refine av hG ?_ ?_
 refine ak ?_
 obtain ⟨hi,c6⟩:=ff fun n f w_=>∃ ag:Nat,∃ af:List Int,n=af.length∧List.drop ag vals=af∧ag+af.length=vals.length∧aw (lX vals) af ag ()=some hh∧f 3=Pt g7∧f 37=v1∧f 38=I (vals.length:Int)∧f 39=I ag∧ab H w_ ([box g7 23 #[v1]])
 refine a8 hi (n:=vals.length) ?_ ?_
 exact ij c6 ⟨0,vals,U,U,Nat.zero_add _,a0,U,U,U,U,(ab.aG 1 Z)⟩
 intro j7 f w_ hI
 obtain ⟨ag,af,rfl,e2,b8,a0,hj,e3,e4,ch,Z⟩:=ik c6 hI
 refine sq (bh U ch e4 (nq (al (b:=decide ((ag:Int)<(vals.length:Int))) U (fun c7=>?_) (fun c7=>?_))))
 have g0:=of_decide_eq_true c7
 rcases af with _ | ⟨hk,cn⟩
 exact absurd g0 (by simp at b8; omega)
 obtain ⟨j8,J,a0⟩:=aJ a0
 rw [lX] at J
 have g1:=aY e2
 refine aq (ao (ak (sq (mF ch U (bP (r:=RP.int) U underlying23 sizeOf3 e3 h1 ch g1 (fun kk ks hB b0 g2=>?_))))))
 obtain rfl:_=[_]:=b0
 refine bt U isAgg3 U (At.cell (dn.at g2 Z.sub) (j:=0) U) (aI U (aI U (nq ?_)))
 obtain ⟨hJ,hl,J⟩:=bind_some J
 obtain ⟨hK,hn,J⟩:=bind_some J
 refine ae (bw 0 Z isAgg23 hj U U (mI U (Cg (a:=0) (b:=(ag:Int)) U eb U h1 U U hl (fun ky ho=>mI U ?_))))
 obtain ⟨h5,hN,hP,k0,hQ⟩:=Z.borrow
 refine ar U call97 (cu U U) (iW (s:=hJ) (v_:=hk) hP (RP.mono _ ho hN) hn) ?_
 rintro _ lo ⟨rfl,Z⟩
 have Z:=hQ Z c0
 refine nn (al (b:=hK) U (fun c8=>?_) (fun c8=>?_))
 have J:=(az c8).symm.trans J
 refine sq (aB U (nn (aA (aN (v1:=Bo false) results105 U ?_))))
 obtain rfl:=so J
 obtain rfl:=so a0
 obtain rfl:=so hF
 exact ⟨U,(ab.aG 0 Z)⟩
 have J:=(ay c8).symm.trans J
 refine aq (ae (bf U ch U (mI U (nn ?_))))
 obtain rfl:=so J
 show ∃ m,m<_∧hi m _ _
 refine ⟨cn.length,by simp,?_⟩
 exact ij c6 ⟨ag+1,cn,U,aL e2,by simp at b8; omega,a0,hj,e3,e4,((eI (aO (n:=vals.length) (by simp at b8; omega) ds))),Z⟩
 rcases af with _ | ⟨_,_⟩
 obtain rfl:=aT a0
 refine a9 (rj e1 ⟨U,(ab.aG 0 Z)⟩)
 exact absurd (of_decide_eq_false c7) (by simp at b8; omega)
 intro f w_ hR
 obtain ⟨rfl,Z⟩:=rk e1 hR
 refine sq (aB U (nn (aA (aN (v1:=Bo true) results105 U ?_))))
 obtain rfl:=so hF
 exact ⟨U,Z⟩
 have hF:=(ay c5).symm.trans hF
 refine sq (bD U U U (aB U (nn (al (b:=(r_.kind == 3)) U (fun dd=>?_) (fun dd=>?_)))))
 have hF:=(az dd).symm.trans hF
 refine ao ?_
 obtain ⟨hS,hp,hF⟩:=bind_some hF
 refine ae (fA 4 ez U U (bw 1 Z isAgg77 U U U (yt U (b9 U) ?_)))
 obtain ⟨hq,hr,hV,hW,h0⟩:=Z.borrow
 have hs:lQ prog (rS 3 RP.int) false Value.bool (ig vals) (.func (.func 146) #[] #[Pt g7]) hq:=by
   refine ⟨_,_,U,call146,fun H_ w_ hE_ hs_ cs_ x_ y_ args_ hr_ hy_ ha_=>?_⟩
   obtain ⟨h2,rfl,ht⟩:=kP hr_
   obtain rfl:=kZ (b:=#[h2,Pt g7]) ha_
   exact sT (c1:=vals) (row:=x_) hs_ ht (dn.le (dn.of (xj 0 hW U)) hE_) (RP.mono _ (RP.mono _ h1 hr) hE_) hy_
 refine ar U call138 (cu U U) (jB (s:=r_.rows) (f_:=(ig vals)) hV (RP.mono _ h0_4 hr) hs hp) ?_
 rintro _ l0 ⟨rfl,Z⟩
 have Z:=h0 Z c0
 refine aB U (nn (aA (aN (v1:=Bo hS) results105 U ?_)))
 obtain rfl:=so hF
 exact ⟨U,(ab.aG 0 Z)⟩
 have hF:=(ay dd).symm.trans hF
 refine aq (ao ?_)
 obtain ⟨g3,hv,hF⟩:=bind_some hF
 obtain ⟨g4,hx,hF⟩:=bind_some hF
 have Z:=ab.drop 1 Z U
 refine bT 6 [aZ (v1),gC RP.int g3 0,aZ (I g3),aZ (v1),gC RP.int g4 0,aZ (I g4)] [box g7 23 #[v1]] [] ([]) [([],[]),([],[]),([],[]),([],[]),([],[]),([],[])] (S:=[]) aP (by kernel_rfl) U (by kernel_rfl) (ad (ah _) (ad (bU _ _ _) (ad (ah _) (ad (ah _) (ad (bU _ _ _) (ad (ah _) bV)))))) Z ?_ (fun f w_ ec cp a1 e5 Z=>?_)
 refine aa (fun f w_ _ _ s _ _ Z=>bw 0 Z isAgg23 ((s 3 U).trans U) U U (nO U U Z)) (aa ?_ ?_)
 intro f w_ ec g6 cp a1 a2 Z
 refine bP (r:=RP.int) U underlying23 sizeOf3 (a2 0 56 U U) (RP.mono _ h1 a1) U hv (fun l1 l2 hC b1 g8=>?_)
 obtain rfl:_=[_]:=b1
 exact ax ⟨U,_,_,U,Le.refl _,fun _ _=>⟨_,_,_,U,U,g8⟩,Z⟩
 refine aa ?_ ?_
 intro f w_ ec g6 cp a1 a2 Z
 obtain ⟨h6,h7,h3,g9,a4,ee⟩:=(a2 1 57 U U)
 obtain rfl:_=[_]:=a4
 refine bt U isAgg3 g9 (At.cell (dn.at ee Z.sub) (j:=0) U) (ax ⟨U,_,_,U,Le.refl _,fun _ _=>rfl,Z⟩)
 refine aa (fun f w_ _ _ s _ _ Z=>bw 0 Z isAgg23 ((s 3 U).trans U) U U (nO U U Z)) (aa ?_ ?_)
 intro f w_ ec g6 cp a1 a2 Z
 refine bP (r:=RP.int) U underlying23 sizeOf3 (a2 3 59 U U) (RP.mono _ h1 a1) U hx (fun h8 h9 hy a5 ej=>?_)
 obtain rfl:_=[_]:=a5
 exact ax ⟨U,_,_,U,Le.refl _,fun _ _=>⟨_,_,_,U,U,ej⟩,Z⟩
 refine aa ?_ ?_
 intro f w_ ec g6 cp a1 a2 Z
 obtain ⟨ih,jn,h4,ha,a6,ek⟩:=(a2 4 60 U U)
 obtain rfl:_=[_]:=a6
 refine bt U isAgg3 ha (At.cell (dn.at ek Z.sub) (j:=0) U) (ax ⟨U,_,_,U,Le.refl _,fun _ _=>rfl,Z⟩)
 exact aQ
 refine bh U (e5 2 58 U U) (e5 5 61 U U) (aB U (nn (aA (aN (v1:=Bo (decide (g3<g4))) results105 U ?_))))
 obtain rfl:=so hF
 exact ⟨U,(ab.down (ab.aG 0 Z) a1 c0)⟩
theorem qt {fu:Nat} {m:Model} {r_:Rule} {v0_0:Value} {v0_1:Value} {v1_1:Value} {v1_2:Value} {v1_4:Value} {H:FH} {w:World} {R:List Ass} (Z:ab H w R) (h0_0:(rS 3 RP.int).rel H [v0_0] m.sizes) (h0_1:(rS 79 (cY 3 23)).rel H [v0_1] m.rules) (h1_1:(rS 3 RP.int).rel H [v1_1] r_.vars) (h1_2:(rS 3 RP.int).rel H [v1_2] r_.coefs) (h1_4:(rS 23 (rS 3 RP.int)).rel H [v1_4] r_.rows) {r:List Con} (hF:gp fu m r_=some r):C prog 50 #[.agg #[v0_0,v0_1],.agg #[I r_.kind,v1_1,v1_2,I r_.bound,v1_4]] w fun v w'=>∃ H':FH,Le H H'∧∃ (u1:Value),v=u1∧ab H' w' (oF 73 (ba 122) u1 r :: R):=by
 unfold gp at hF
 refine aE func50 U ntmps50 U (sq (cr (v:=.agg #[v0_0,v0_1]) (cs:=#[v0_0,v0_1]) U U U Z (fun g5 w6 Z=>cr (v:=.agg #[I r_.kind,v1_1,v1_2,I r_.bound,v1_4]) (cs:=#[I r_.kind,v1_1,v1_2,I r_.bound,v1_4]) U U U Z (fun g7 w8 Z=>aV S0 U (ns (dS (cs:=#[S0]) U zeroValue28 U Z (fun b2 Kk Z=>nq (sq (fA 0 gB U U (bw 1 Z isAgg3 U U U (nn (ak (sq (bD U U U (aB U (nn (al (b:=(r_.kind == 1)) U (fun tB=>?_) (fun tB=>?_))))))))))))))))))
 have hF:=(az tB).symm.trans hF
 refine sq (aV S0 U (nq (sq (fA 1 cM U U (bw 1 Z isAgg23 U U U (aW U underlying23 U (ai h1_1) (mI U (nn ?_))))))))
 have Bs:List.length r_.vars≤9223372036854775807:=bB (ai h1_1)
 obtain ⟨HH,h7,hF⟩:=bind_some hF
 obtain ⟨IZ,Gn⟩:=ca fun f w_=>∃ b5:List Term,∃ hN,∃ b3,HH=.nx b5∧Le H hN∧f 3=Pt g7∧f 6=b3∧ab hN w_ (oF 122 au b3 b5 :: box g7 79 #[I r_.kind,v1_1,v1_2,I r_.bound,v1_4] :: R)
 refine av IZ ?_ ?_
 refine ak ?_
 obtain ⟨HI,tC⟩:=ff fun n f w_=>∃ fs:Nat,∃ hf:List Int,∃ b5:List Term,∃ hN,∃ b3,n=hf.length∧List.drop fs r_.vars=hf∧fs+hf.length=r_.vars.length∧aw (dO m r_) hf fs b5=some HH∧Le H hN∧f 2=Pt g5∧f 3=Pt g7∧f 6=b3∧f 24=v1_1∧f 25=I (r_.vars.length:Int)∧f 26=I fs∧ab hN w_ (oF 122 au b3 b5 :: box g7 79 #[I r_.kind,v1_1,v1_2,I r_.bound,v1_4] :: box g5 26 #[v0_0,v0_1] :: R)
 have Z:=ab.bE (R:=(OR.bu au)) (e:=122) Z
 have Z:=Z.aU [3,3,2] U
 have Z:=ab.drop 3 Z U
 refine a8 HI (n:=r_.vars.length) ?_ ?_
 exact ij tC ⟨0,r_.vars,[],H,S0,U,U,Nat.zero_add _,h7,(Le.refl _),U,U,U,U,U,U,Z⟩
 intro Kl f w_ hI
 obtain ⟨fs,hf,b5,hN,b3,rfl,Gp,r0,h7,j4,b4,cp,c5,hP,hQ,hn,Z⟩:=ik tC hI
 refine sq (bh U hn hQ (nq (al (b:=decide ((fs:Int)<(r_.vars.length:Int))) U (fun tS=>?_) (fun tS=>?_))))
 have GW:=of_decide_eq_true tS
 rcases hf with _ | ⟨r1,r2⟩
 exact absurd GW (by simp at r0; omega)
 obtain ⟨Km,hE,h7⟩:=aJ h7
 rw [dO] at hE
 have GX:=aY Gp
 refine aq (ao (ak (sq (mF hn U (bP (r:=RP.int) U underlying23 sizeOf3 hP (RP.mono _ h1_1 j4) hn GX (fun Kn Ko IV n1 GY=>?_))))))
 obtain rfl:_=[_]:=n1
 refine bt U isAgg3 U (At.cell (dn.at GY Z.sub) (j:=0) U) (aI U (aI U (nq ?_)))
 obtain ⟨HJ,HK,hE⟩:=bind_some hE
 refine ae (fA 0 bN b4 U (bw 2 Z isAgg23 U U U (mI U (bP (r:=RP.int) U underlying23 sizeOf3 U (RP.mono _ h0_0 j4) U HK (fun Kp Kq IW n2 GZ=>?_)))))
 obtain rfl:_=[_]:=n2
 refine bt U isAgg3 U (At.cell (dn.at GZ Z.sub) (j:=0) U) (bf U U U (mI U (nn ?_)))
 obtain ⟨Cs,tT,hE⟩:=bind_some hE
 obtain ⟨HL,h8,hE⟩:=bind_some hE
 obtain ⟨I0,Gq⟩:=ca fun f w_=>∃ b8:List Term,∃ j5,∃ a4,HL=.nx b8∧Le hN j5∧f 2=Pt g5∧f 3=Pt g7∧f 6=a4∧f 24=v1_1∧f 25=I (r_.vars.length:Int)∧f 26=I fs∧ab j5 w_ (oF 122 au a4 b8 :: box g7 79 #[I r_.kind,v1_1,v1_2,I r_.bound,v1_4] :: box g5 26 #[v0_0,v0_1] :: R)
 refine av I0 ?_ ?_
 refine ak ?_
 obtain ⟨HM,u0⟩:=ff fun n f w_=>∃ c4:Nat,∃ hq:Nat,∃ b8:List Term,∃ j5,∃ a4,hq=n∧0≤c4∧c4+hq=0+Cs∧cI (dI m r_ fs r1) hq c4 b8=some HL∧Le hN j5∧f 2=Pt g5∧f 3=Pt g7∧f 6=a4∧f 7=I fs∧f 8=I r1∧f 24=v1_1∧f 25=I (r_.vars.length:Int)∧f 26=I fs∧f 36=I (i64 (HJ+1))∧f 37=I c4∧ab j5 w_ (oF 122 au a4 b8 :: box g7 79 #[I r_.kind,v1_1,v1_2,I r_.bound,v1_4] :: box g5 26 #[v0_0,v0_1] :: R)
 refine a8 HM (n:=Cs) ?_ ?_
 exact ij u0 ⟨0,Cs,b5,hN,b3,U,Nat.le_refl _,U,h8,(Le.refl _),b4,cp,c5,U,U,hP,hQ,hn,U,U,Z⟩
 intro Kr f w_ hI
 obtain ⟨c4,hq,b8,j5,a4,rfl,HN,Gr,h8,n3,b4,cp,c5,g8,HO,hP,hQ,hn,Gs,u2,Z⟩:=ik u0 hI
 refine sq (bh U u2 Gs (nq (al (b:=decide ((c4:Int)<(i64 (HJ+1)))) U (fun u3=>?_) (fun u3=>?_))))
 have G0:=of_decide_eq_true u3
 rcases hq with _ | r3
 exact absurd G0 (lA Gr tT)
 obtain ⟨Ks,hG,h8⟩:=eA h8
 rw [dI] at hG
 refine aq (ao (ak (sq (mF u2 U (aI U (nn ?_))))))
 obtain ⟨hr,HP,hG⟩:=bind_some hG
 obtain ⟨hS,HQ,hG⟩:=bind_some hG
 obtain ⟨I1,HR,hG⟩:=bind_some hG
 refine bT 14 [aZ (a4),aZ (Pq g7 2),aZ (v1_2),aZ (I fs),gC RP.int hr 0,aZ (I hr),aZ (I c4),aZ (I (i64 (hr * (c4:Int)))),aZ (.agg #[v0_0,v0_1]),aZ (I r1),aZ (I c4),aZ (I hS),aZ (.agg #[I (i64 (hr * (c4:Int))),I hS]),gE] [oF 122 au a4 b8,box g7 79 #[I r_.kind,v1_1,v1_2,I r_.bound,v1_4],box g5 26 #[v0_0,v0_1]] [.made 13 53 (fun v_=>oF 122 au v_ ([({ coef:=i64 (hr * (c4:Int)),lit:=hS }:Term)])) none] (R) [([],[]),([],[]),([],[]),([],[]),([],[]),([],[]),([],[]),([],[]),([],[]),([],[]),([],[]),([],[]),([],[]),([],[0])] (S:=[(some 13,[53],none)]) aP (by kernel_rfl) U (by kernel_rfl) (ad (ah _) (ad (ah _) (ad (ah _) (ad (ah _) (ad (bU _ _ _) (ad (ah _) (ad (ah _) (ad (ah _) (ad (ah _) (ad (ah _) (ad (ah _) (ad (ah _) (ad (ah _) (ad (bO) bV)))))))))))))) Z ?_ (fun f w_ ts en hJ HS Z=>?_)
 refine aa (fun f w_ _ _ s _ _ Z=>mF ((s 6 U).trans c5) U (nO U U Z)) (aa (fun f w_ _ _ s _ _ Z=>fA 2 hO ((s 3 U).trans cp) U (nO U U Z)) (aa (fun f w_ _ _ _ _ p Z=>bw 1 Z isAgg23 (p 1 41 U U) U U (nO U U Z)) (aa (fun f w_ _ _ s _ _ Z=>mF ((s 7 U).trans g8) U (nO U U Z)) (aa ?_ ?_))))
 intro f w_ ts G1 en hJ g9 Z
 refine bP (r:=RP.int) U underlying23 sizeOf3 (g9 2 42 U U) (RP.mono _ h1_2 (Le.trans (Le.trans j4 n3) hJ)) (g9 3 43 U U) HP (fun Kt Ku IX n4 G2=>?_)
 obtain rfl:_=[_]:=n4
 exact ax ⟨U,_,_,U,Le.refl _,fun _ _=>⟨_,_,_,U,U,G2⟩,Z⟩
 refine aa ?_ ?_
 intro f w_ ts G1 en hJ g9 Z
 obtain ⟨Kv,Kw,Jf,HT,n5,G3⟩:=(g9 4 44 U U)
 obtain rfl:_=[_]:=n5
 refine bt U isAgg3 HT (At.cell (dn.at G3 Z.sub) (j:=0) U) (ax ⟨U,_,_,U,Le.refl _,fun _ _=>rfl,Z⟩)
 refine aa (fun f w_ _ _ s _ _ Z=>mF ((s 9 U).trans U) U (nO U U Z)) (aa (fun f w_ _ _ _ _ p Z=>rf U (p 5 45 U U) (p 6 46 U U) (nO U U Z)) (aa (fun f w_ _ _ s _ _ Z=>a7 (cs:=[v0_0,v0_1]) U isAgg26 sizeOf26 ((s 2 U).trans b4) (At.bK (de.at (ab.aM 2 Z U)) 0 2) U (nO U U Z)) (aa (fun f w_ _ _ s _ _ Z=>mF ((s 8 U).trans HO) U (nO U U Z)) (aa (fun f w_ _ _ s _ _ Z=>mF ((s 9 U).trans U) U (nO U U Z)) (aa ?_ ?_)))))
 intro f w_ ts G1 en hJ g9 Z
 obtain ⟨Jg,HU,I2,Kx,I3⟩:=Z.borrow
 refine ar U call63 (k9 (g9 8 48 U U) (g9 9 49 U U) (g9 10 50 U U)) (iZ (m:=m) (cell:=r1) (value:=(c4:Int)) I2 (RP.mono _ h0_0 (Le.trans (Le.trans (Le.trans j4 n3) hJ) HU)) (RP.mono _ h0_1 (Le.trans (Le.trans (Le.trans j4 n3) hJ) HU)) HQ) ?_
 rintro _ Ky ⟨rfl,Z⟩
 have Z:=I3 Z c0
 exact ax ⟨U,_,_,U,Le.refl _,fun _ _=>rfl,Z⟩
 refine aa (fun f w_ _ _ _ _ p Z=>da U (iB (p 7 47 U U) (p 11 51 U U)) (eF (I (i64 (hr * (c4:Int)))) (I hS) U U) (nO U U Z)) (aa ?_ ?_)
 intro f w_ ts G1 en hJ g9 Z
 refine cS U (bG (g9 12 52 U U)) (gh (I (i64 (hr * (c4:Int)))) (I hS) ) Z (fun Kz KA Z=>?_)
 have Z:=ab.dr (r:=au) (cs:=[I (i64 (hr * (c4:Int))),I hS]) (x:=({ coef:=i64 (hr * (c4:Int)),lit:=hS }:Term)) Z (bM.2 U)
 have Z:=ab.bS (R:=(OR.bu au)) [([I (i64 (hr * (c4:Int))),I hS],({ coef:=i64 (hr * (c4:Int)),lit:=hS }:Term))] [({ coef:=i64 (hr * (c4:Int)),lit:=hS }:Term)] 1 Z U U U (by decide)
 have Z:=Z.aU [3,3,3] U
 exact ax ⟨U,_,_,U,Le.refl _,fun _ _=>trivial,Z⟩
 exact aQ
 have Z:ab ts w_ (oF 122 au a4 b8 :: box g7 79 #[I r_.kind,v1_1,v1_2,I r_.bound,v1_4] :: box g5 26 #[v0_0,v0_1] :: oF 122 au (f 53) ([({ coef:=i64 (hr * (c4:Int)),lit:=hS }:Term)]) :: R):=Z
 have Z:=Z.aU [3,1] U
 refine cj (v:=a4) (u:=(f 53)) U lN (HS 0 40 U U) U Z HR (fun HV KB Z=>aV HV U (nn (ae (bf U ((en 37 U).trans u2) U (mI U (nn ?_))))))
 obtain rfl:=so hG
 show ∃ m,m<_∧HM m _ _
 refine ⟨r3,Nat.lt_succ_self _,?_⟩
 exact ij u0 ⟨c4+1,r3,I1,ts,HV,U,by omega,by omega,h8,(Le.trans n3 hJ),((en 2 U).trans b4),((en 3 U).trans cp),U,((en 7 U).trans g8),((en 8 U).trans HO),((en 24 U).trans hP),((en 25 U).trans hQ),((en 26 U).trans hn),((en 36 U).trans Gs),((eI (aO (n:=0+Cs) (by omega) (jg tT)))),Z⟩
 rcases hq with _ | _
 obtain rfl:=eo h8
 refine a9 (rj Gq ⟨b8,j5,a4,U,n3,b4,cp,c5,hP,hQ,hn,Z⟩)
 exact absurd (jZ HN Gr tT) (of_decide_eq_false u3)
 intro f w_ hR
 obtain ⟨b8,j5,a4,rfl,n3,b4,cp,c5,hP,hQ,hn,Z⟩:=rk Gq hR
 refine ae (bf U hn U (mI U (nn ?_)))
 obtain rfl:=so hE
 show ∃ m,m<_∧HI m _ _
 refine ⟨r2.length,by simp,?_⟩
 exact ij tC ⟨fs+1,r2,b8,j5,a4,U,aL Gp,by simp at r0; omega,h7,(Le.trans j4 n3),b4,cp,c5,hP,hQ,((eI (aO (n:=r_.vars.length) (by simp at r0; omega) Bs))),Z⟩
 rcases hf with _ | ⟨_,_⟩
 obtain rfl:=aT h7
 refine a9 ?_
 have Z:=ab.drop 2 Z U
 exact rj Gn ⟨b5,hN,b3,U,j4,cp,c5,Z⟩
 exact absurd (of_decide_eq_false tS) (by simp at r0; omega)
 intro f w_ hR
 obtain ⟨b5,hN,b3,rfl,j4,cp,c5,Z⟩:=rk Gn hR
 refine ao ?_
 obtain ⟨et,G4,hF⟩:=bind_some hF
 refine ae (mF c5 U (fA 3 km cp U (bw 1 Z isAgg3 U U U ?_)))
 obtain ⟨HW,HX,Z,n6⟩:=ab.freeze Z
 have n6:(rS 122 au).rel HW [b3] b5:=n6
 refine ar U call102 (cu U U) (uI (terms:=b5) (bound:=r_.bound) Z n6 G4) ?_
 rintro _ Jh ⟨HY,HZ,dj,rfl,k0,Z⟩
 refine mV (.tuple #[.agg #[dj,I et.1.bound],Bo et.2]) U (dF (v:=.agg #[dj,I et.1.bound]) U U U (dF (v:=Bo et.2) U U U (dS (cs:=#[S0,I 0]) U zeroValue73 U Z (fun Ji Jj Z=>bg (vs:=#[dj,I et.1.bound]) (cs2:=#[dj,I et.1.bound]) 0 U sizeOf73 U U U (aj (aH (ai k0)) (aj U aK)) Z U (by show 0+2≤2; decide) U (fun Jk Z=>aB U (ax (sq (a7 (cs:=[dj,I et.1.bound]) U isAgg73 sizeOf73 U (At.bK (de.at (ab.aM 0 Z U)) 0 2) U (cS U (bG U) (iO (dj) (I et.1.bound) ) Z (fun u4 Jl Z=>?_))))))))))
 have Z:=ab.dr (r:=(ba 122)) (cs:=[dj,I et.1.bound]) (x:=et.1) Z (dR.2 ⟨_,U,k0⟩)
 have Z:=ab.bS (R:=(OR.bu (ba 122))) [([dj,I et.1.bound],et.1)] [et.1] 1 Z U U U (by decide)
 refine aV (Sl u4 1 1) U (nn (aA (aN (v1:=(Sl u4 1 1)) results50 U ?_)))
 obtain rfl:=so hF
 have Z:=ab.drop 1 Z U
 have Z:=ab.drop 1 Z U
 exact ⟨HY,(Le.trans (Le.trans j4 HX) HZ),(Sl u4 1 1),U,Z⟩
 have hF:=(ay tB).symm.trans hF
 refine sq (bD U U U (aB U (nn (al (b:=(r_.kind == 2)) U (fun n7=>?_) (fun n7=>?_)))))
 have hF:=(az n7).symm.trans hF
 refine ao (sq (mI U (nn ?_)))
 obtain ⟨ss,n8,hF⟩:=bind_some hF
 obtain ⟨Gt,hs,hF⟩:=bind_some hF
 obtain ⟨H0,u5⟩:=ca fun f w_=>∃ a1:List Con,∃ eu,∃ o,Gt=.nx a1∧Le H eu∧f 5=Pt b2∧ab eu w_ (oS 73 (cP 122) o a1 :: box b2 28 #[o] :: R)
 refine av H0 ?_ ?_
 refine ak ?_
 obtain ⟨Gu,ob⟩:=ff fun n f w_=>∃ c3:Nat,∃ g6:Nat,∃ a1:List Con,∃ eu,∃ o,g6=n∧0≤c3∧c3+g6=0+ss∧cI (dL fu m r_) g6 c3 a1=some Gt∧Le H eu∧f 2=Pt g5∧f 3=Pt g7∧f 5=Pt b2∧f 68=I c3∧ab eu w_ (oS 73 (cP 122) o a1 :: box b2 28 #[o] :: box g7 79 #[I r_.kind,v1_1,v1_2,I r_.bound,v1_4] :: box g5 26 #[v0_0,v0_1] :: R)
 have Z:=ab.bE (R:=(cP 122)) (e:=73) Z
 refine a8 Gu (n:=ss) ?_ ?_
 exact ij ob ⟨0,ss,[],H,S0,U,Nat.le_refl _,U,hs,(Le.refl _),U,U,U,U,Z⟩
 intro Jm f w_ hI
 obtain ⟨c3,g6,a1,eu,o,rfl,G5,u6,hs,ha,b4,cp,c8,ds,Z⟩:=ik ob hI
 refine sq (bh U ds U (nq (al (b:=decide ((c3:Int)<4)) U (fun oh=>?_) (fun oh=>?_))))
 have Db:=of_decide_eq_true oh
 rcases g6 with _ | lo
 exact absurd Db (lA u6 n8)
 obtain ⟨Jn,ht,hs⟩:=eA hs
 rw [dL] at ht
 refine aq (ao (ak (sq (mF ds U (aI U (ns (aV S0 U (nq (sq (fA 1 cM cp U (bw 2 Z isAgg23 U U U (aW U underlying23 U (ai (RP.mono _ h1_1 ha)) (mI U (nn ?_))))))))))))))
 have v3:List.length r_.vars≤9223372036854775807:=bB (ai (RP.mono _ h1_1 ha))
 obtain ⟨Gv,hv,ht⟩:=bind_some ht
 obtain ⟨H2,v8⟩:=ca fun f w_=>∃ ch:List Int,∃ a2,Gv=.nx ch∧f 2=Pt g5∧f 3=Pt g7∧f 5=Pt b2∧f 13=a2∧f 68=I c3∧ab eu w_ (oF 3 RP.int a2 ch :: oS 73 (cP 122) o a1 :: box b2 28 #[o] :: box g7 79 #[I r_.kind,v1_1,v1_2,I r_.bound,v1_4] :: box g5 26 #[v0_0,v0_1] :: R)
 refine av H2 ?_ ?_
 refine ak ?_
 obtain ⟨Gw,oj⟩:=ff fun n f w_=>∃ g1:Nat,∃ e1:List Int,∃ ch:List Int,∃ a2,n=e1.length∧List.drop g1 r_.vars=e1∧g1+e1.length=r_.vars.length∧aw (dM m c3) e1 g1 ch=some Gv∧f 2=Pt g5∧f 3=Pt g7∧f 5=Pt b2∧f 12=I c3∧f 13=a2∧f 68=I c3∧f 72=v1_1∧f 73=I (r_.vars.length:Int)∧f 74=I g1∧ab eu w_ (oF 3 RP.int a2 ch :: oS 73 (cP 122) o a1 :: box b2 28 #[o] :: box g7 79 #[I r_.kind,v1_1,v1_2,I r_.bound,v1_4] :: box g5 26 #[v0_0,v0_1] :: R)
 have Z:=ab.bE (R:=(OR.bu RP.int)) (e:=3) Z
 refine a8 Gw (n:=r_.vars.length) ?_ ?_
 exact ij oj ⟨0,r_.vars,[],S0,U,U,Nat.zero_add _,hv,b4,cp,c8,U,U,ds,U,U,U,Z⟩
 intro Jo f w_ hI
 obtain ⟨g1,e1,ch,a2,rfl,v9,j6,hv,b4,cp,c8,h9,ho,ds,l0,l1,ih,Z⟩:=ik oj hI
 refine sq (bh U ih l1 (nq (al (b:=decide ((g1:Int)<(r_.vars.length:Int))) U (fun oq=>?_) (fun oq=>?_))))
 have D1:=of_decide_eq_true oq
 rcases e1 with _ | ⟨G6,l2⟩
 exact absurd D1 (by simp at j6; omega)
 obtain ⟨Jp,hx,hv⟩:=aJ hv
 rw [dM] at hx
 have ET:=aY v9
 refine aq (ao (ak (sq (bP (r:=RP.int) U underlying23 sizeOf3 l0 (RP.mono _ h1_1 ha) ih ET (fun Jq Jr H3 l3 Fs=>?_)))))
 obtain rfl:_=[_]:=l3
 refine bt U isAgg3 U (At.cell (dn.at Fs Z.sub) (j:=0) U) (aI U (nq ?_))
 obtain ⟨H4,G7,hx⟩:=bind_some hx
 refine ae (mF h9 U (fA 0 bN b4 U (bw 4 Z isAgg23 U U U (mI U (bP (r:=RP.int) U underlying23 sizeOf3 U (RP.mono _ h0_0 ha) U G7 (fun Js Jt H5 l4 F0=>?_))))))
 obtain rfl:_=[_]:=l4
 refine bt U isAgg3 U (At.cell (dn.at F0 Z.sub) (j:=0) U) (kE U U U (nn ?_))
 obtain ⟨jn,ek,hx⟩:=bind_some hx
 obtain ⟨H6,o0⟩:=ca fun f w_=>∃ e2,f 2=Pt g5∧f 3=Pt g7∧f 5=Pt b2∧f 12=I c3∧f 13=e2∧f 68=I c3∧f 72=v1_1∧f 73=I (r_.vars.length:Int)∧f 74=I g1∧ab eu w_ (oF 3 RP.int e2 jn :: oS 73 (cP 122) o a1 :: box b2 28 #[o] :: box g7 79 #[I r_.kind,v1_1,v1_2,I r_.bound,v1_4] :: box g5 26 #[v0_0,v0_1] :: R)
 refine av H6 ?_ ?_
 refine al (b:=decide ((c3:Int)≤H4)) U (fun o1=>?_) (fun o1=>?_)
 have ek:=(az o1).symm.trans ek
 obtain ⟨j1,G8,ek⟩:=bind_some ek
 obtain ⟨Ju,G9,ek⟩:=bind_some ek
 refine ae (mF ho U (a7 (cs:=[v0_0,v0_1]) U isAgg26 sizeOf26 b4 (At.bK (de.at (ab.aM 4 Z U)) 0 2) U (mI U (mF h9 U ?_))))
 obtain ⟨I4,Gx,H7,Jv,H8⟩:=Z.borrow
 refine ar U call63 (k9 U U U) (iZ (m:=m) (cell:=G6) (value:=(c3:Int)) H7 (RP.mono _ h0_0 (Le.trans ha Gx)) (RP.mono _ h0_1 (Le.trans ha Gx)) G8) ?_
 rintro _ Jw ⟨rfl,Z⟩
 have Z:=H8 Z c0
 refine cS U (bG U) (dp (I j1) U) Z (fun H9 Jx Z=>?_)
 have Z:=ab.dr (r:=RP.int) (cs:=[I j1]) (x:=j1) Z U
 have Z:=ab.bS (R:=(OR.bu RP.int)) [([I j1],j1)] [j1] 1 Z U U U (by decide)
 have Z:=Z.get 1 U
 refine cj (v:=a2) (u:=(Sl H9 1 1)) U eb U U Z G9 (fun Gy Jy Z=>aV Gy U (nn ?_))
 obtain rfl:=so ek
 exact rj o0 ⟨Gy,b4,cp,c8,h9,U,ds,l0,l1,ih,Z⟩
 have ek:=(ay o1).symm.trans ek
 refine aq ?_
 obtain rfl:=so ek
 exact rj o0 ⟨a2,b4,cp,c8,h9,ho,ds,l0,l1,ih,Z⟩
 intro f w_ hR
 obtain ⟨e2,b4,cp,c8,h9,ho,ds,l0,l1,ih,Z⟩:=rk o0 hR
 refine ae (bf U ih U (mI U (nn ?_)))
 obtain rfl:=so hx
 show ∃ m,m<_∧Gw m _ _
 refine ⟨l2.length,by simp,?_⟩
 exact ij oj ⟨g1+1,l2,jn,e2,U,aL v9,by simp at j6; omega,hv,b4,cp,c8,h9,ho,ds,l0,l1,((eI (aO (n:=r_.vars.length) (by simp at j6; omega) v3))),Z⟩
 rcases e1 with _ | ⟨_,_⟩
 obtain rfl:=aT hv
 refine a9 (rj v8 ⟨ch,a2,U,b4,cp,c8,ho,ds,Z⟩)
 exact absurd (of_decide_eq_false oq) (by simp at j6; omega)
 intro f w_ hR
 obtain ⟨ch,a2,rfl,b4,cp,c8,ho,ds,Z⟩:=rk v8 hR
 refine sq (mF ho U (aW U underlying23 U (ab.len 0 Z U) (c9 U U U (nn ?_))))
 obtain ⟨hV,c6,ht⟩:=bind_some ht
 obtain ⟨Ia,o2⟩:=ca fun f w_=>∃ sx,∃ ec,Le eu sx∧f 2=Pt g5∧f 3=Pt g7∧f 5=Pt b2∧f 68=I c3∧ab sx w_ (oS 73 (cP 122) ec hV :: box b2 28 #[ec] :: box g7 79 #[I r_.kind,v1_1,v1_2,I r_.bound,v1_4] :: box g5 26 #[v0_0,v0_1] :: R)
 refine av Ia ?_ ?_
 refine al (b:=decide ((ch.length:Int) > 1)) U (fun o3=>?_) (fun o3=>?_)
 have c6:=(az o3).symm.trans c6
 refine ao ?_
 obtain ⟨hW,Ha,c6⟩:=bind_some c6
 refine ae (mF ho U ?_)
 obtain ⟨I5,Jz,Ib,JA,Ic⟩:=Z.lS [_]
 refine ar U call103 (b9 U) (sC (x:=ch) Ib Ha) ?_
 rintro _ JB ⟨rfl,Z⟩
 have Z:=Ic Z (co bk c0)
 refine nn ?_
 obtain ⟨gd,Hb,c6⟩:=bind_some c6
 obtain ⟨JC,Hc,c6⟩:=bind_some c6
 refine bT 4 [aZ (o),aZ (a2),xW fun I6=>aZ (.agg #[I6,I gd.bound]),gE] [oF 3 RP.int a2 hW,oS 73 (cP 122) o a1,box b2 28 #[o],box g7 79 #[I r_.kind,v1_1,v1_2,I r_.bound,v1_4],box g5 26 #[v0_0,v0_1]] [.made 2 100 (fun v_=>oF 122 au (dm v_ 0) gd.terms) (some 3),.made 3 101 (fun v_=>oS 73 (cP 122) v_ ([gd])) none] (R) [([],[]),([],[]),([],[0]),([0],[1])] (S:=[(some 2,[100],some 3),(some 3,[101],none)]) aP (by kernel_rfl) U (by kernel_rfl) (ad (ah _) (ad (ah _) (ad (fh fun _=>ah _) (ad (bO) bV)))) Z ?_ (fun f w_ h0 hg o4 Hd Z=>?_)
 refine aa (fun f w_ _ _ s _ _ Z=>bw 2 Z isAgg28 ((s 5 U).trans c8) U U (nO U U Z)) (aa (fun f w_ _ _ s _ _ Z=>mF ((s 13 U).trans ho) U (nO U U Z)) (aa ?_ ?_))
 intro f w_ h0 sz hg o4 o5 Z
 obtain ⟨He,JD,Ie,Ig,Ih⟩:=Z.borrow
 have Hf:(rS 3 RP.int).rel He [a2] hW:=cg 0 Ig U
 refine ar U call49 (b9 (o5 1 99 U U)) (ri (vars:=hW) Ie Hf Hb) ?_
 rintro _ JE ⟨IY,rfl,Z⟩
 have Z:=Ih Z (co bI c0)
 have Z:=Z.aU [5,5,5,5,5] U
 exact ax ⟨U,_,_,U,Le.refl _,fun _ _=>⟨_,U⟩,Z⟩
 refine aa ?_ ?_
 intro f w_ h0 sz hg o4 o5 Z
 have Z:ab h0 w_ (oF 3 RP.int a2 hW :: oS 73 (cP 122) o a1 :: box b2 28 #[o] :: box g7 79 #[I r_.kind,v1_1,v1_2,I r_.bound,v1_4] :: box g5 26 #[v0_0,v0_1] :: own (OR.bq 122 (OR.bu au)) [(dm (f 100) 0)] gd.terms :: sz):=Z
 obtain ⟨j7,w0⟩:=(o5 2 100 U U)
 have hren:ab h0 w_ (oF 3 RP.int a2 hW :: oS 73 (cP 122) o a1 :: box b2 28 #[o] :: box g7 79 #[I r_.kind,v1_1,v1_2,I r_.bound,v1_4] :: box g5 26 #[v0_0,v0_1] :: own (OR.bq 122 (OR.bu au)) [(dm (f 100) 0)] gd.terms :: sz):=Z
 rw [w0] at hren
 have Z:ab h0 w_ (oF 3 RP.int a2 hW :: oS 73 (cP 122) o a1 :: box b2 28 #[o] :: box g7 79 #[I r_.kind,v1_1,v1_2,I r_.bound,v1_4] :: box g5 26 #[v0_0,v0_1] :: oF 122 au j7 gd.terms :: sz):=hren
 refine cS U (bG w0) (iO (j7) (I gd.bound) ) Z (fun JF JG Z=>?_)
 have Z:=Z.get 6 U
 have Z:=gr (c:=gd) Z
 have Z:=ab.bS (R:=(cP 122)) [([j7,I gd.bound],gd)] [gd] 1 Z U U U (by decide)
 have Z:=Z.aU [5,5,5,5,5] U
 exact ax ⟨U,_,_,U,Le.refl _,fun _ _=>trivial,Z⟩
 exact aQ
 have Z:ab h0 w_ (oF 3 RP.int a2 hW :: oS 73 (cP 122) o a1 :: box b2 28 #[o] :: box g7 79 #[I r_.kind,v1_1,v1_2,I r_.bound,v1_4] :: box g5 26 #[v0_0,v0_1] :: oS 73 (cP 122) (f 101) ([gd]) :: R):=Z
 have Z:=Z.aU [5,2] U
 refine cj (v:=o) (u:=(f 101)) U nU (Hd 0 98 U U) U Z Hc (fun w1 JH Z=>ei (v:=w1) (cs2:=#[w1]) 2 U sizeOf28 ((hg 5 U).trans c8) U (aH (ab.len 0 Z U)) Z U U U (fun JI Z=>nn ?_))
 obtain rfl:=so c6
 have Z:=Z.aU [4,4,2,3] U
 have Z:=ab.drop 4 Z U
 exact rj o2 ⟨h0,w1,o4,((hg 2 U).trans b4),((hg 3 U).trans cp),((hg 5 U).trans c8),((hg 68 U).trans ds),Z⟩
 have c6:=(ay o3).symm.trans c6
 refine aq ?_
 obtain rfl:=so c6
 have Z:=Z.aU [4,4,4,4] U
 have Z:=ab.drop 4 Z U
 exact rj o2 ⟨eu,o,(Le.refl _),b4,cp,c8,ds,Z⟩
 intro f w_ hR
 obtain ⟨sx,ec,Ii,b4,cp,c8,ds,Z⟩:=rk o2 hR
 refine ae (bf U ds U (mI U (nn ?_)))
 obtain rfl:=so ht
 show ∃ m,m<_∧Gu m _ _
 refine ⟨lo,Nat.lt_succ_self _,?_⟩
 exact ij ob ⟨c3+1,lo,hV,sx,ec,U,by omega,by omega,hs,(Le.trans ha Ii),b4,cp,c8,((eI (aO (n:=0+ss) (by omega) (jg n8)))),Z⟩
 rcases g6 with _ | _
 obtain rfl:=eo hs
 refine a9 ?_
 have Z:=ab.drop 2 Z U
 have Z:=ab.drop 2 Z U
 exact rj u5 ⟨a1,eu,o,U,ha,c8,Z⟩
 exact absurd (jZ G5 u6 n8) (of_decide_eq_false oh)
 intro f w_ hR
 obtain ⟨a1,eu,o,rfl,ha,c8,Z⟩:=rk u5 hR
 refine sq (bw 1 Z isAgg28 c8 U U (aV o U (nn (aA (aN (v1:=o) results50 U ?_)))))
 obtain rfl:=so hF
 obtain ⟨Gz,Ij,Z⟩:=ab.shallow Z
 have Z:ab Gz w_ (oF 73 (ba 122) o a1 :: _):=Z
 have Z:=ab.drop 1 Z U
 exact ⟨Gz,(Le.trans ha Ij),o,U,Z⟩
 have hF:=(ay n7).symm.trans hF
 refine aq (sq (aV S0 U (ax (ao (sq (fA 1 cM U U (bw 1 Z isAgg23 U U U (aW U underlying23 U (ai h1_1) (mI U (nn ?_))))))))))
 have w2:List.length r_.vars≤9223372036854775807:=bB (ai h1_1)
 obtain ⟨GA,hy,hF⟩:=bind_some hF
 obtain ⟨Ik,w3⟩:=ca fun f w_=>∃ af:List Int,∃ J,GA=.nx af∧f 2=Pt g5∧f 3=Pt g7∧f 5=Pt b2∧f 16=J∧ab H w_ (oF 3 RP.int J af :: box b2 28 #[S0] :: box g7 79 #[I r_.kind,v1_1,v1_2,I r_.bound,v1_4] :: box g5 26 #[v0_0,v0_1] :: R)
 refine av Ik ?_ ?_
 refine ak ?_
 obtain ⟨GB,o6⟩:=ff fun n f w_=>∃ hh:Nat,∃ e3:List Int,∃ af:List Int,∃ J,n=e3.length∧List.drop hh r_.vars=e3∧hh+e3.length=r_.vars.length∧aw (dH m) e3 hh af=some GA∧f 2=Pt g5∧f 3=Pt g7∧f 5=Pt b2∧f 16=J∧f 106=v1_1∧f 107=I (r_.vars.length:Int)∧f 108=I hh∧ab H w_ (oF 3 RP.int J af :: box b2 28 #[S0] :: box g7 79 #[I r_.kind,v1_1,v1_2,I r_.bound,v1_4] :: box g5 26 #[v0_0,v0_1] :: R)
 have Z:=ab.bE (R:=(OR.bu RP.int)) (e:=3) Z
 refine a8 GB (n:=r_.vars.length) ?_ ?_
 exact ij o6 ⟨0,r_.vars,[],S0,U,U,Nat.zero_add _,hy,U,U,U,U,U,U,U,Z⟩
 intro JJ f w_ hI
 obtain ⟨hh,e3,af,J,rfl,w4,j8,hy,b4,cp,c8,hK,w5,w7,o7,Z⟩:=ik o6 hI
 refine sq (bh U o7 w7 (nq (al (b:=decide ((hh:Int)<(r_.vars.length:Int))) U (fun o8=>?_) (fun o8=>?_))))
 have F1:=of_decide_eq_true o8
 rcases e3 with _ | ⟨I7,l5⟩
 exact absurd F1 (by simp at j8; omega)
 obtain ⟨JK,hz,hy⟩:=aJ hy
 rw [dH] at hz
 have F2:=aY w4
 refine aq (ao (ak (sq (bP (r:=RP.int) U underlying23 sizeOf3 w5 h1_1 o7 F2 (fun JL JM Il l7 F3=>?_)))))
 obtain rfl:_=[_]:=l7
 refine bt U isAgg3 U (At.cell (dn.at F3 Z.sub) (j:=0) U) (aI U (nn ?_))
 obtain ⟨j2,Hg,hz⟩:=bind_some hz
 obtain ⟨Im,Hh,hz⟩:=bind_some hz
 refine ae (mF hK U (fA 0 bN b4 U (bw 3 Z isAgg23 U U U (mI U (bP (r:=RP.int) U underlying23 sizeOf3 U h0_0 U Hg (fun JN JO Io l8 F4=>?_))))))
 obtain rfl:_=[_]:=l8
 refine bt U isAgg3 U (At.cell (dn.at F4 Z.sub) (j:=0) U) (cS U (bG U) (dp (I j2) U) Z (fun Ip JP Z=>?_))
 have Z:=ab.dr (r:=RP.int) (cs:=[I j2]) (x:=j2) Z U
 have Z:=ab.bS (R:=(OR.bu RP.int)) [([I j2],j2)] [j2] 1 Z U U U (by decide)
 have Z:=Z.get 1 U
 refine cj (v:=J) (u:=(Sl Ip 1 1)) U eb U U Z Hh (fun GC JQ Z=>aV GC U (nn (ae (bf U o7 U (mI U (nn ?_))))))
 obtain rfl:=so hz
 show ∃ m,m<_∧GB m _ _
 refine ⟨l5.length,by simp,?_⟩
 exact ij o6 ⟨hh+1,l5,Im,GC,U,aL w4,by simp at j8; omega,hy,b4,cp,c8,U,w5,w7,((eI (aO (n:=r_.vars.length) (by simp at j8; omega) w2))),Z⟩
 rcases e3 with _ | ⟨_,_⟩
 obtain rfl:=aT hy
 refine a9 (rj w3 ⟨af,J,U,b4,cp,c8,hK,Z⟩)
 exact absurd (of_decide_eq_false o8) (by simp at j8; omega)
 intro f w_ hR
 obtain ⟨af,J,rfl,b4,cp,c8,hK,Z⟩:=rk w3 hR
 refine ao ?_
 obtain ⟨GD,Hi,hF⟩:=bind_some hF
 obtain ⟨h1,Hj,hF⟩:=bind_some hF
 refine ae (mF hK U (mF hK U (aW U underlying23 U (ab.len 0 Z U) (xk (R:=(OR.bu RP.int)) (z0:=0) (zc:=[I 0]) U eb (by kernel_rfl) (fun _ _=>⟨U,U⟩) U U Hi Z (fun w9 JR Z=>yt U (k9 cp b4 c8) ?_)))))
 obtain ⟨x0,kk⟩:∃ RV_:Value→World→Prop,RV_=fun v w_=>∃ x1,∃ c1,v=.tuple #[]∧Le H x1∧ab x1 w_ (oS 73 (cP 122) c1 h1 :: box b2 28 #[c1] :: R):=⟨_,U⟩
 refine ar (args:=#[J,w9,.func (.func 104) #[] #[Pt g7,Pt g5,Pt b2]]) (R:=x0) U call57 (k9 U U U) ?_ ?_
 refine aE func57 U ntmps57 U ?_
 have hi:=Hj
 unfold eU at hi
 refine ao ?_
 obtain ⟨Iq,Hk,hi⟩:=bind_some hi
 refine ae (mV w9 U ?_)
 obtain ⟨Hl,JS,Ir,Is,It⟩:=Z.borrow
 have Hm:(rS 3 RP.int).rel Hl [w9] GD:=cg 0 Is U
 refine ar U call62 (b9 U) (eX (s:=GD) Ir Hm Hk) ?_
 rintro a3 JT ⟨_,rfl,Z⟩
 have Z:=It Z (co bk c0)
 refine aV a3 U (nn ?_)
 obtain ⟨GF,g2,hi⟩:=bind_some hi
 obtain ⟨Iu,x2⟩:=ca fun f w_=>∃ a0:List Int,∃ bs:List Con,∃ ee,∃ ag,GF=.nx (a0,bs)∧Le H ee∧ab ee w_ (oS 73 (cP 122) ag bs :: box b2 28 #[ag] :: R)
 refine av Iu ?_ ?_
 refine ak ?_
 obtain ⟨GG,o9⟩:=ff fun n f w_=>∃ a0:List Int,∃ bs:List Con,∃ ee,∃ ag,bx (dK fu m r_ af) n (a0,bs)=some GF∧Le H ee∧f 0=J∧f 2=.func (.func 104) #[] #[Pt g7,Pt g5,Pt b2]∧f 6=a3∧ab ee w_ (oF 3 RP.int J af :: oF 3 RP.int a3 a0 :: oS 73 (cP 122) ag bs :: box b2 28 #[ag] :: box g5 26 #[v0_0,v0_1] :: box g7 79 #[I r_.kind,v1_1,v1_2,I r_.bound,v1_4] :: R)
 have Z:=ab.bE (R:=(cP 122)) (e:=73) Z
 have Z:=Z.aU [5,6,6,3,4,6] U
 have Z:=ab.drop 6 Z U
 refine a8 GG (n:=fu) ?_ ?_
 exact ij o9 ⟨Iq,[],H,S0,g2,(Le.refl _),U,U,U,Z⟩
 intro x3 f w_ hI
 obtain ⟨a0,bs,ee,ag,g2,e0,hA,b4,c5,Z⟩:=ik o9 hI
 rcases x3 with _ | x3
 exact (cl g2).elim
 obtain ⟨JU,cn,g2⟩:=cq g2
 rw [dK] at cn
 refine ao (ao ?_)
 obtain ⟨⟨j3,c2⟩,Hn,cn⟩:=bind_some cn
 refine ae (mF b4 U (mF c5 U ?_))
 obtain ⟨GH,p0⟩:∃ RV_:Value→World→Prop,RV_=fun v w_=>∃ h2,∃ an,v=Bo j3∧Le ee h2∧ab h2 w_ (oF 3 RP.int J af :: oF 3 RP.int a3 a0 :: oS 73 (cP 122) an c2 :: box b2 28 #[an] :: box g5 26 #[v0_0,v0_1] :: box g7 79 #[I r_.kind,v1_1,v1_2,I r_.bound,v1_4] :: R):=⟨_,U⟩
 refine lD (args:=#[a3]) (R:=GH) U call104 U (b9 U) ?_ ?_
 show C _ _ #[a3,Pt g7,Pt g5,Pt b2] _ _
 refine aE func104 U ntmps104 U ?_
 have hB:=Hn
 unfold gx at hB
 refine sq (aB U (nq (ao ?_)))
 obtain ⟨Iv,Ho,hB⟩:=bind_some hB
 refine ae (a7 (cs:=[I r_.kind,v1_1,v1_2,I r_.bound,v1_4]) U isAgg79 sizeOf79 U (At.bK (de.at (ab.aM 5 Z U)) 0 5) U (mV a3 U ?_))
 obtain ⟨Hp,x4,Iw,Ix,Iy⟩:=Z.borrow
 have Hq:(rS 3 RP.int).rel Hp [a3] a0:=cg 1 Ix U
 refine ar U call105 (cu U U) (qb (r_:=r_) (vals:=a0) Iw (RP.mono _ h1_1 (Le.trans e0 x4)) (RP.mono _ h1_2 (Le.trans e0 x4)) (RP.mono _ h1_4 (Le.trans e0 x4)) Hq Ho) ?_
 rintro _ JV ⟨rfl,Z⟩
 have Z:=Iy Z c0
 refine bL U U (nn ?_)
 obtain ⟨p1,c7,hB⟩:=bind_some hB
 obtain ⟨Iz,p2⟩:=ca fun f w_=>∃ ti,∃ ej,Le ee ti∧ab ti w_ (oF 3 RP.int J af :: oF 3 RP.int a3 a0 :: oS 73 (cP 122) ej p1 :: box b2 28 #[ej] :: box g5 26 #[v0_0,v0_1] :: box g7 79 #[I r_.kind,v1_1,v1_2,I r_.bound,v1_4] :: R)
 refine av Iz ?_ ?_
 refine al (b:=(!Iv)) U (fun p3=>?_) (fun p3=>?_)
 have c7:=(az p3).symm.trans c7
 refine sq (aV S0 U (nq (sq (fA 1 cM U U (bw 5 Z isAgg23 U U U (aW U underlying23 U (ai (RP.mono _ h1_1 e0)) (mI U (nn ?_))))))))
 have x5:List.length r_.vars≤9223372036854775807:=bB (ai (RP.mono _ h1_1 e0))
 obtain ⟨GI,hC,c7⟩:=bind_some c7
 obtain ⟨IA,x6⟩:=ca fun f w_=>∃ b1:List Int,∃ hp,∃ a5,GI=.nx b1∧Le ee hp∧f 3=Pt b2∧f 6=a5∧ab hp w_ (oF 3 RP.int a3 a0 :: oF 3 RP.int a5 b1 :: oF 3 RP.int J af :: oS 73 (cP 122) ag bs :: box b2 28 #[ag] :: box g5 26 #[v0_0,v0_1] :: box g7 79 #[I r_.kind,v1_1,v1_2,I r_.bound,v1_4] :: R)
 refine av IA ?_ ?_
 refine ak ?_
 obtain ⟨GJ,p4⟩:=ff fun n f w_=>∃ e4:Nat,∃ e5:List Int,∃ b1:List Int,∃ hp,∃ a5,n=e5.length∧List.drop e4 r_.vars=e5∧e4+e5.length=r_.vars.length∧aw (dJ m a0) e5 e4 b1=some GI∧Le ee hp∧f 0=a3∧f 2=Pt g5∧f 3=Pt b2∧f 6=a5∧f 16=v1_1∧f 17=I (r_.vars.length:Int)∧f 18=I e4∧ab hp w_ (oF 3 RP.int a3 a0 :: oF 3 RP.int a5 b1 :: oF 3 RP.int J af :: oS 73 (cP 122) ag bs :: box b2 28 #[ag] :: box g5 26 #[v0_0,v0_1] :: box g7 79 #[I r_.kind,v1_1,v1_2,I r_.bound,v1_4] :: R)
 have Z:=ab.bE (R:=(OR.bu RP.int)) (e:=3) Z
 have Z:=Z.aU [6,6,6,6,5,5,6] U
 refine a8 GJ (n:=r_.vars.length) ?_ ?_
 exact ij p4 ⟨0,r_.vars,[],ee,S0,U,U,Nat.zero_add _,hC,(Le.refl _),U,U,U,U,U,U,U,Z⟩
 intro JW f w_ hI
 obtain ⟨e4,e5,b1,hp,a5,rfl,x7,ks,hC,h3,hA,b4,cp,c5,hK,GK,tl,Z⟩:=ik p4 hI
 refine sq (bh U tl GK (nq (al (b:=decide ((e4:Int)<(r_.vars.length:Int))) U (fun p5=>?_) (fun p5=>?_))))
 have F5:=of_decide_eq_true p5
 rcases e5 with _ | ⟨x8,l9⟩
 exact absurd F5 (by simp at ks; omega)
 obtain ⟨JX,g3,hC⟩:=aJ hC
 rw [dJ] at g3
 have F6:=aY x7
 refine aq (ao (ak (sq (mF tl U (bP (r:=RP.int) U underlying23 sizeOf3 hK (RP.mono _ h1_1 (Le.trans e0 h3)) tl F6 (fun JY JZ IB mg F7=>?_))))))
 obtain rfl:_=[_]:=mg
 refine bt U isAgg3 U (At.cell (dn.at F7 Z.sub) (j:=0) U) (aI U (aI U (nn ?_)))
 obtain ⟨GL,p6,g3⟩:=bind_some g3
 obtain ⟨hb,Hr,g3⟩:=bind_some g3
 obtain ⟨IC,Hs,g3⟩:=bind_some g3
 obtain ⟨ID,HC,x9,_,_⟩:=ab.row 0 Z U p6
 refine cv 10 [a5,Value.agg #[v0_0,v0_1],I x8,a3,I e4,Value.pointer (some ⟨ID,Int.toNat (e4:Int) * 1,none⟩),I GL,I hb,I (i64 (-hb)),none] [oF 3 RP.int a3 a0,oF 3 RP.int a5 b1,oF 3 RP.int J af,oS 73 (cP 122) ag bs,box b2 28 #[ag],box g5 26 #[v0_0,v0_1],box g7 79 #[I r_.kind,v1_1,v1_2,I r_.bound,v1_4]] [.made 9 32 (fun v_=>oF 3 RP.int v_ ([i64 (-hb)])) none] (R) [([],[]),([],[]),([],[]),([],[]),([],[]),([],[]),([],[]),([],[]),([],[]),([],[0])] (S:=[(some 9,[32],none)]) aP (by kernel_rfl) U (by kernel_rfl) Z ?_ (fun f w_ m0 fa hD Ht Z=>?_)
 refine aa (fun f w_ _ _ s _ _ Z=>mF ((s 6 U).trans c5) U (nO U U Z)) (aa (fun f w_ _ _ s _ _ Z=>a7 (cs:=[v0_0,v0_1]) U isAgg26 sizeOf26 ((s 2 U).trans b4) (At.bK (de.at (ab.aM 5 Z U)) 0 2) U (nO U U Z)) (aa (fun f w_ _ _ s _ _ Z=>mF ((s 8 U).trans U) U (nO U U Z)) (aa (fun f w_ _ _ s _ _ Z=>mF ((s 0 U).trans hA) U (nO U U Z)) (aa (fun f w_ _ _ s _ _ Z=>mF ((s 7 U).trans U) U (nO U U Z)) (aa (fun f w_ _ _ _ _ p Z=>bJ (R:=(OR.bu RP.int)) (tb:=0) 0 U underlying23 sizeOf3 (p 3 26 U U) x9 (by first | rfl | simp) (p 4 27 U U) p6 (nO U U Z)) (aa ?_ ?_))))))
 intro f w_ m0 GM fa hD hj Z
 obtain ⟨I8,Hu,F8⟩:=ab.fE 0 Z U x9 p6
 obtain rfl:_=[_]:=Hu
 refine bt U isAgg3 (hj 5 28 U U) (At.cell F8 (j:=0) U) (ax ⟨U,_,_,U,Le.refl _,fun _ _=>rfl,Z⟩)
 refine aa ?_ ?_
 intro f w_ m0 GM fa hD hj Z
 obtain ⟨I9,GN,IE,J0,IF⟩:=Z.borrow
 refine ar U call63 (k9 (hj 1 24 U U) (hj 2 25 U U) (hj 6 29 U U)) (iZ (m:=m) (cell:=x8) (value:=GL) IE (RP.mono _ h0_0 (Le.trans (Le.trans (Le.trans e0 h3) hD) GN)) (RP.mono _ h0_1 (Le.trans (Le.trans (Le.trans e0 h3) hD) GN)) Hr) ?_
 rintro _ J1 ⟨rfl,Z⟩
 have Z:=IF Z c0
 exact ax ⟨U,_,_,U,Le.refl _,fun _ _=>rfl,Z⟩
 refine aa (fun f w_ _ _ _ _ p Z=>kg U (p 7 30 U U) (nO U U Z)) (aa ?_ ?_)
 intro f w_ m0 GM fa hD hj Z
 refine cS U (bG (hj 8 31 U U)) (dp (I (i64 (-hb))) U) Z (fun J2 J3 Z=>?_)
 have Z:=ab.dr (r:=RP.int) (cs:=[I (i64 (-hb))]) (x:=(i64 (-hb))) Z U
 have Z:=ab.bS (R:=(OR.bu RP.int)) [([I (i64 (-hb))],i64 (-hb))] [i64 (-hb)] 1 Z U U U (by decide)
 have Z:=Z.aU [7,7,7,7,7,7,7] U
 exact ax ⟨U,_,_,U,Le.refl _,fun _ _=>trivial,Z⟩
 exact aQ
 have Z:ab m0 w_ (oF 3 RP.int a3 a0 :: oF 3 RP.int a5 b1 :: oF 3 RP.int J af :: oS 73 (cP 122) ag bs :: box b2 28 #[ag] :: box g5 26 #[v0_0,v0_1] :: box g7 79 #[I r_.kind,v1_1,v1_2,I r_.bound,v1_4] :: oF 3 RP.int (f 32) ([i64 (-hb)]) :: R):=Z
 have Z:=Z.aU [7,2] U
 refine cj (v:=a5) (u:=(f 32)) U eb (Ht 0 23 U U) U Z Hs (fun GO J4 Z=>aV GO U (nn (ae (bf U ((fa 18 U).trans tl) U (mI U (nn ?_))))))
 obtain rfl:=so g3
 have Z:=Z.aU [6,6,6,6,6,5,6] U
 show ∃ m,m<_∧GJ m _ _
 refine ⟨l9.length,by simp,?_⟩
 exact ij p4 ⟨e4+1,l9,IC,m0,GO,U,aL x7,by simp at ks; omega,hC,(Le.trans h3 hD),((fa 0 U).trans hA),((fa 2 U).trans b4),((fa 3 U).trans cp),U,((fa 16 U).trans hK),((fa 17 U).trans GK),((eI (aO (n:=r_.vars.length) (by simp at ks; omega) x5))),Z⟩
 rcases e5 with _ | ⟨_,_⟩
 obtain rfl:=aT hC
 refine a9 (rj x6 ⟨b1,hp,a5,U,h3,cp,c5,Z⟩)
 exact absurd (of_decide_eq_false p5) (by simp at ks; omega)
 intro f w_ hR
 obtain ⟨b1,hp,a5,rfl,h3,cp,c5,Z⟩:=rk x6 hR
 refine ao ?_
 obtain ⟨g0,Hv,c7⟩:=bind_some c7
 refine ae (mF c5 U ?_)
 obtain ⟨Hw,J5,IG,IH,II⟩:=Z.borrow
 have Hx:(rS 3 RP.int).rel Hw [a5] b1:=cg 1 IH U
 refine ar U call48 (b9 U) (pc (lits:=b1) IG Hx Hv) ?_
 rintro _ J6 ⟨fo,rfl,Z⟩
 have Z:=II Z (co bI c0)
 refine mV (.tuple #[.agg #[fo,I g0.1.bound],Bo g0.2]) U (dF (v:=.agg #[fo,I g0.1.bound]) U U U (dF (v:=Bo g0.2) U U U (dS (cs:=#[S0,I 0]) U zeroValue73 U Z (fun J7 J8 Z=>bg (vs:=#[fo,I g0.1.bound]) (cs2:=#[fo,I g0.1.bound]) 0 U sizeOf73 U U U (aj (aH (ab.len 1 Z U)) (aj U aK)) Z U (by show 0+2≤2; decide) U (fun J9 Z=>aB U (nn ?_))))))
 obtain ⟨Ka,Hy,c7⟩:=bind_some c7
 refine ae (bw 6 Z isAgg28 cp U U (a7 (cs:=[fo,I g0.1.bound]) U isAgg73 sizeOf73 U (At.bK (de.at (ab.aM 0 Z U)) 0 2) U (cS U (bG U) (iO (fo) (I g0.1.bound) ) Z (fun IJ Kb Z=>?_))))
 have Z:=Z.get 2 U
 have Z:=gr (c:=g0.1) Z
 have Z:=ab.bS (R:=(cP 122)) [([fo,I g0.1.bound],g0.1)] [g0.1] 1 Z U U U (by decide)
 have Z:=Z.get 5 U
 refine cj (v:=ag) (u:=(Sl IJ 1 1)) U nU U U Z Hy (fun ys Kc Z=>ei (v:=ys) (cs2:=#[ys]) 5 U sizeOf28 cp U (aH (ab.len 0 Z U)) Z U U U (fun Kd Z=>nn ?_))
 obtain rfl:=so c7
 have Z:=Z.aU [7,7,2,3,5,7] U
 have Z:=ab.drop 6 Z U
 have Z:=ab.drop 6 Z U
 exact rj p2 ⟨hp,ys,h3,Z⟩
 have c7:=(ay p3).symm.trans c7
 refine aq ?_
 obtain rfl:=so c7
 exact rj p2 ⟨ee,ag,(Le.refl _),Z⟩
 intro f w_ hR
 obtain ⟨ti,ej,IK,Z⟩:=rk p2 hR
 refine sq (aB U (nn (aA (aN (v1:=Bo true) results104 U ?_))))
 obtain ⟨rfl,rfl⟩:=xV hB
 show GH _ _
 rw [p0]
 exact ⟨ti,ej,U,IK,Z⟩
 intro Ja w_ hR
 rw [p0] at hR
 obtain ⟨h2,an,Gi,y1,Z⟩:=hR
 obtain rfl:=Gi.symm
 clear p0
 refine nn (al (b:=j3) U (fun q0=>?_) (fun q0=>?_))
 have cn:=(az q0).symm.trans cn
 refine aq (ak (sq (mF c5 U (aW U underlying23 U (ab.len 1 Z U) (db U U U (aI U (ax (ao ?_))))))))
 obtain ⟨GP,hk,cn⟩:=bind_some cn
 obtain ⟨IL,y2⟩:=ca fun f w_=>∃ a6:List Int,∃ bd:Int,∃ hc,GP=.nx (a6,bd)∧Le h2 hc∧f 0=J∧f 2=.func (.func 104) #[] #[Pt g7,Pt g5,Pt b2]∧f 6=a3∧f 7=I bd∧ab hc w_ (oF 3 RP.int J af :: oF 3 RP.int a3 a6 :: oS 73 (cP 122) an c2 :: box b2 28 #[an] :: box g5 26 #[v0_0,v0_1] :: box g7 79 #[I r_.kind,v1_1,v1_2,I r_.bound,v1_4] :: R)
 refine av IL ?_ ?_
 refine ak ?_
 obtain ⟨GQ,q1⟩:=ff fun n f w_=>∃ a6:List Int,∃ bd:Int,∃ hc,bx (fP af) n (a6,bd)=some GP∧Le h2 hc∧f 0=J∧f 2=.func (.func 104) #[] #[Pt g7,Pt g5,Pt b2]∧f 6=a3∧f 7=I bd∧ab hc w_ (oF 3 RP.int J af :: oF 3 RP.int a3 a6 :: oS 73 (cP 122) an c2 :: box b2 28 #[an] :: box g5 26 #[v0_0,v0_1] :: box g7 79 #[I r_.kind,v1_1,v1_2,I r_.bound,v1_4] :: R)
 refine a8 GQ (n:=fu) ?_ ?_
 exact ij q1 ⟨a0,i64 ((a0.length:Int) - 1),h2,hk,(Le.refl _),hA,b4,c5,U,Z⟩
 intro zs f w_ hI
 obtain ⟨a6,bd,hc,hk,m1,hA,b4,c5,g8,Z⟩:=ik q1 hI
 rcases zs with _ | zs
 exact (cl hk).elim
 obtain ⟨Ke,dd,hk⟩:=cq hk
 rw [fP] at dd
 refine ao (ao ?_)
 obtain ⟨tn,g4,dd⟩:=bind_some dd
 obtain ⟨IM,q2⟩:=ca fun f w_=>∃ m2,Le hc m2∧f 0=J∧f 2=.func (.func 104) #[] #[Pt g7,Pt g5,Pt b2]∧f 6=a3∧f 7=I bd∧f 28=Bo tn∧ab m2 w_ (oF 3 RP.int J af :: oF 3 RP.int a3 a6 :: oS 73 (cP 122) an c2 :: box b2 28 #[an] :: box g5 26 #[v0_0,v0_1] :: box g7 79 #[I r_.kind,v1_1,v1_2,I r_.bound,v1_4] :: R)
 refine av IM ?_ ?_
 rcases Bool.eq_false_or_eq_true (decide (bd ≥ 0)) with b0 | b0
 rw [az b0] at g4
 obtain ⟨GR,q3,g4⟩:=bind_some g4
 obtain ⟨GS,q4,g4⟩:=bind_some g4
 obtain ⟨IN,HD,zz,_,_⟩:=ab.row 1 Z U q3
 obtain ⟨IP,HE,z1,_,_⟩:=ab.row 0 Z U q4
 refine cv 11 [I bd,Bo (decide (bd ≥ 0)),Bo (decide (bd ≥ 0)),a3,I bd,Value.pointer (some ⟨IN,Int.toNat bd * 1,none⟩),I GR,J,I bd,Value.pointer (some ⟨IP,Int.toNat bd * 1,none⟩),I GS] [oF 3 RP.int J af,oF 3 RP.int a3 a6,oS 73 (cP 122) an c2,box b2 28 #[an],box g5 26 #[v0_0,v0_1],box g7 79 #[I r_.kind,v1_1,v1_2,I r_.bound,v1_4]] [] (R) [([],[]),([],[]),([],[]),([],[]),([],[]),([],[]),([],[]),([],[]),([],[]),([],[]),([],[])] (S:=[]) aP (by kernel_rfl) U (by kernel_rfl) Z ?_ (fun f w_ n0 dg h4 hl Z=>?_)
 refine aa (fun f w_ _ _ s _ _ Z=>mF ((s 7 U).trans g8) U (nO U U Z)) (aa (fun f w_ _ _ _ _ p Z=>hY U (p 0 16 U U) U (nO U U Z)) (aa (fun f w_ _ _ _ _ p Z=>mF (p 1 17 U U) U (nO U U Z)) (aa (fun f w_ _ _ s _ p Z=>iV (v:=a3) (bm U (cB (p 2 18 U U) b0) U) ((s 6 U).trans c5) (nO U U Z)) (aa (fun f w_ _ _ s _ p Z=>iV (v:=I bd) (bm U (cB (p 2 18 U U) b0) U) ((s 7 U).trans g8) (nO U U Z)) (aa (fun f w_ _ _ _ _ p Z=>bJ (R:=(OR.bu RP.int)) (tb:=0) 0 (bm U (cB (p 2 18 U U) b0) U) underlying23 sizeOf3 (p 3 19 U U) zz (by first | rfl | simp) (p 4 20 U U) q3 (nO U U Z)) (aa ?_ ?_))))))
 intro f w_ n0 IQ dg h4 h5 Z
 obtain ⟨Jb,Hz,Gj⟩:=ab.fE 1 Z U zz q3
 obtain rfl:_=[_]:=Hz
 refine bt (v:=I GR) (bm U (cB (h5 2 18 U U) b0) U) isAgg3 (h5 5 21 U U) (At.cell Gj (j:=0) U) (ax ⟨U,_,_,U,Le.refl _,fun _ _=>rfl,Z⟩)
 refine aa (fun f w_ _ _ s _ p Z=>iV (v:=J) (bm U (cB (p 2 18 U U) b0) U) ((s 0 U).trans hA) (nO U U Z)) (aa (fun f w_ _ _ s _ p Z=>iV (v:=I bd) (bm U (cB (p 2 18 U U) b0) U) ((s 7 U).trans g8) (nO U U Z)) (aa (fun f w_ _ _ _ _ p Z=>bJ (R:=(OR.bu RP.int)) (tb:=0) 0 (bm U (cB (p 2 18 U U) b0) U) underlying23 sizeOf3 (p 7 23 U U) z1 (by first | rfl | simp) (p 8 24 U U) q4 (nO U U Z)) (aa ?_ ?_)))
 intro f w_ n0 IQ dg h4 h5 Z
 obtain ⟨Jc,HA,Gk⟩:=ab.fE 0 Z U z1 q4
 obtain rfl:_=[_]:=HA
 refine bt (v:=I GS) (bm U (cB (h5 2 18 U U) b0) U) isAgg3 (h5 9 25 U U) (At.cell Gk (j:=0) U) (ax ⟨U,_,_,U,Le.refl _,fun _ _=>rfl,Z⟩)
 exact aQ
 refine bD (bm U (cB (hl 2 18 U U) b0) U) (hl 6 22 U U) (hl 10 26 U U) (aC (v:=Bo tn) U (cB (hl 2 18 U U) b0) (congrArg Value.bool (so g4)) (nn (rj q2 ⟨n0,h4,((dg 0 U).trans hA),((dg 2 U).trans b4),((dg 6 U).trans c5),((dg 7 U).trans g8),U,Z⟩)))
 rw [ay b0] at g4
 refine cv 11 [I bd,Bo (decide (bd ≥ 0)),Bo (decide (bd ≥ 0)),undef,undef,undef,undef,undef,undef,undef,undef] [oF 3 RP.int J af,oF 3 RP.int a3 a6,oS 73 (cP 122) an c2,box b2 28 #[an],box g5 26 #[v0_0,v0_1],box g7 79 #[I r_.kind,v1_1,v1_2,I r_.bound,v1_4]] [] (R) [([],[]),([],[]),([],[]),([],[]),([],[]),([],[]),([],[]),([],[]),([],[]),([],[]),([],[])] (S:=[]) aP (by kernel_rfl) U (by kernel_rfl) Z ?_ (fun f w_ n0 dg h4 hl Z=>?_)
 refine aa (fun f w_ _ _ s _ _ Z=>mF ((s 7 U).trans g8) U (nO U U Z)) (aa (fun f w_ _ _ _ _ p Z=>hY U (p 0 16 U U) U (nO U U Z)) (aa (fun f w_ _ _ _ _ p Z=>mF (p 1 17 U U) U (nO U U Z)) (oP (fun _ _ p=>gN (p 2 18 U U) b0 U) (fun _=>rfl) (oP (fun _ _ p=>gN (p 2 18 U U) b0 U) (fun _=>rfl) (oP (fun _ _ p=>gN (p 2 18 U U) b0 U) (fun _=>rfl) (oP (fun _ _ p=>gN (p 2 18 U U) b0 U) (fun _=>rfl) (oP (fun _ _ p=>gN (p 2 18 U U) b0 U) (fun _=>rfl) (oP (fun _ _ p=>gN (p 2 18 U U) b0 U) (fun _=>rfl) (oP (fun _ _ p=>gN (p 2 18 U U) b0 U) (fun _=>rfl) (oP (fun _ _ p=>gN (p 2 18 U U) b0 U) (fun _=>rfl) (aQ)))))))))))
 refine ps (rn U (cB (hl 2 18 U U) b0) U U) (aC (v:=Bo tn) U (cB (hl 2 18 U U) b0) (congrArg Value.bool (so g4)) (nn (rj q2 ⟨n0,h4,((dg 0 U).trans hA),((dg 2 U).trans b4),((dg 6 U).trans c5),((dg 7 U).trans g8),U,Z⟩)))
 intro f w_ hR
 obtain ⟨m2,GU,hA,b4,c5,g8,IS,Z⟩:=rk q2 hR
 refine al (b:=tn) IS (fun q8=>?_) (fun q8=>?_)
 have dd:=(az q8).symm.trans dd
 refine aq (ak (ao ?_))
 obtain ⟨Kf,ra,dd⟩:=bind_some dd
 refine ae (mF c5 U (mF g8 U ?_))
 obtain ⟨Kg,HF,As,_,_⟩:=ab.row 1 Z U ra
 refine bJ (R:=(OR.bu RP.int)) (tb:=0) 0 U underlying23 sizeOf3 U As (by first | rfl | simp) U ra ?_
 have Z:=ab.dr (r:=RP.int) (cs:=[I 0]) (x:=0) Z U
 have Z:=Z.aU [2,1] U
 refine fj (u:=I 0) U sizeOf3 U U U As Z ra (fun Kh Z=>?_)
 refine nn (ae (mF g8 U (db U U U (aI U (nn ?_)))))
 obtain rfl:=so dd
 have Z:=Z.aU [5,5,5,5,4,5] U
 show ∃ m,m<_∧GQ m _ _
 refine ⟨zs,Nat.lt_succ_self _,?_⟩
 exact ij q1 ⟨(a6.set (Int.toNat bd) 0),i64 (bd - 1),m2,hk,(Le.trans m1 GU),hA,b4,c5,U,Z⟩
 have dd:=(ay q8).symm.trans dd
 refine a9 ?_
 obtain rfl:=so dd
 obtain rfl:=so hk
 exact rj y2 ⟨a6,bd,m2,U,(Le.trans m1 GU),hA,b4,c5,g8,Z⟩
 intro f w_ hR
 obtain ⟨a6,bd,hc,rfl,m1,hA,b4,c5,g8,Z⟩:=rk y2 hR
 refine ao (sq (mF g8 U (bh U U U (nn (al (b:=decide (bd<0)) U (fun rv=>?_) (fun rv=>?_))))))
 have cn:=(az rv).symm.trans cn
 refine aA (sW results57 ?_)
 obtain rfl:=so cn
 obtain rfl:=so g2
 obtain rfl:=so hi
 have Z:=Z.aU [3,3] U
 have Z:=ab.drop 2 Z U
 have Z:=ab.drop 2 Z U
 have Z:=ab.drop 2 Z U
 have Z:=ab.drop 2 Z U
 show x0 _ _
 rw [kk]
 exact ⟨hc,an,U,(Le.trans (Le.trans e0 y1) m1),Z⟩
 have cn:=(ay rv).symm.trans cn
 refine aq ?_
 obtain ⟨tr,h6,cn⟩:=bind_some cn
 refine ae (mF c5 U (mF g8 U ?_))
 obtain ⟨Ki,HG,ky,_,_⟩:=ab.row 1 Z U h6
 refine bJ (R:=(OR.bu RP.int)) (tb:=0) 0 U underlying23 sizeOf3 U ky (by first | rfl | simp) U h6 ?_
 obtain ⟨Jd,HB,Gl⟩:=ab.fE 1 Z U ky h6
 obtain rfl:_=[_]:=HB
 refine bt U isAgg3 U (At.cell Gl (j:=0) U) (bf U U U (bJ (R:=(OR.bu RP.int)) (tb:=0) 0 U underlying23 sizeOf3 U ky (by first | rfl | simp) U h6 ?_))
 have Z:=ab.dr (r:=RP.int) (cs:=[I (i64 (tr+1))]) (x:=(i64 (tr+1))) Z U
 have Z:=Z.aU [2,1] U
 refine fj (u:=I (i64 (tr+1))) U sizeOf3 U U U ky Z h6 (fun Kj Z=>?_)
 refine nn ?_
 obtain rfl:=so cn
 have Z:=Z.aU [5,5,5,5,4,5] U
 show ∃ m,m<_∧GG m _ _
 refine ⟨x3,Nat.lt_succ_self _,?_⟩
 exact ij o9 ⟨(a6.set (Int.toNat bd) (i64 (tr+1))),c2,hc,an,g2,(Le.trans (Le.trans e0 y1) m1),hA,b4,c5,Z⟩
 have cn:=(ay q0).symm.trans cn
 refine a9 ?_
 obtain rfl:=so cn
 obtain rfl:=so g2
 have Z:=Z.aU [3,3] U
 have Z:=ab.drop 2 Z U
 have Z:=ab.drop 2 Z U
 have Z:=ab.drop 2 Z U
 have Z:=ab.drop 2 Z U
 exact rj x2 ⟨a0,c2,h2,an,U,(Le.trans e0 y1),Z⟩
 intro f w_ hR
 obtain ⟨a0,bs,ee,ag,rfl,e0,Z⟩:=rk x2 hR
 obtain rfl:=so hi
 refine FF results57 ?_
 show x0 _ _
 rw [kk]
 exact ⟨ee,ag,U,e0,Z⟩
 intro Je w_ hR
 rw [kk] at hR
 obtain ⟨x1,c1,Gm,IT,Z⟩:=hR
 obtain rfl:=Gm.symm
 clear kk
 refine ax (sq (bw 1 Z isAgg28 c8 U U (aV c1 U (nn (aA (aN (v1:=c1) results50 U ?_))))))
 obtain rfl:=so hF
 obtain ⟨GV,IU,Z⟩:=ab.shallow Z
 have Z:ab GV w_ (oF 73 (ba 122) c1 h1 :: _):=Z
 have Z:=ab.drop 1 Z U
 exact ⟨GV,(Le.trans IT IU),c1,U,Z⟩
theorem tI {fu:Nat} {m:Model} {v0_0:Value} {v0_1:Value} {H:FH} {w:World} {R:List Ass} (Z:ab H w R) (h0_0:(rS 3 RP.int).rel H [v0_0] m.sizes) (h0_1:(rS 79 (cY 3 23)).rel H [v0_1] m.rules) {r:(List Con) × Bool} (hF:kf fu m=some r):C prog 13 #[.agg #[v0_0,v0_1]] w fun v w'=>∃ H':FH,Le H H'∧∃ (u1:Value),v=.tuple #[u1,Bo r.2]∧ab H' w' (oF 73 (ba 122) u1 r.1 :: R):=by
 unfold kf at hF
 refine aE func13 U ntmps13 U (sq (cr (v:=.agg #[v0_0,v0_1]) (cs:=#[v0_0,v0_1]) U U U Z (fun g3 w4 Z=>aV S0 U (aB U (nq (ao ?_))))))
 obtain ⟨hP,hl,hF⟩:=bind_some hF
 refine ae (a7 (cs:=[v0_0,v0_1]) U isAgg26 sizeOf26 U (At.bK (de.at (ab.aM 0 Z U)) 0 2) U ?_)
 obtain ⟨ih,hn,hQ,l2,hS⟩:=Z.borrow
 refine ar U call46 (b9 U) (kY (m:=m) hQ (RP.mono _ h0_0 hn) (RP.mono _ h0_1 hn) hl) ?_
 rintro _ l3 ⟨rfl,Z⟩
 have Z:=hS Z c0
 refine bL U U (nn (al (b:=(!hP)) U (fun et=>?_) (fun et=>?_)))
 have hF:=(az et).symm.trans hF
 refine sq (aV S0 U (aB U (nn (aA (dc (v1:=S0) (v2:=Bo false) results13 U U ?_)))))
 obtain rfl:=so hF
 have Z:=ab.bE (R:=(OR.bu (ba 122))) (e:=73) Z
 have Z:=ab.drop 1 Z U
 exact ⟨H,(Le.refl _),S0,U,Z⟩
 have hF:=(ay et).symm.trans hF
 refine aq (sq (aV S0 U (nq (sq (fA 0 bN U U (bw 0 Z isAgg23 U U U (aW U underlying23 U (ai h0_0) (mI U (nn ?_)))))))))
 have gd:List.length m.sizes≤9223372036854775807:=bB (ai h0_0)
 obtain ⟨ho,cp,hF⟩:=bind_some hF
 obtain ⟨hV,g6⟩:=ca fun f w_=>∃ J:List Con,∃ ch,∃ j,ho=.nx J∧Le H ch∧f 1=Pt g3∧f 4=j∧ab ch w_ (oS 73 (cP 122) j J :: box g3 26 #[v0_0,v0_1] :: R)
 refine av hV ?_ ?_
 refine ak ?_
 obtain ⟨hp,eu⟩:=ff fun n f w_=>∃ b0:Nat,∃ a5:List Int,∃ J:List Con,∃ ch,∃ j,n=a5.length∧List.drop b0 m.sizes=a5∧b0+a5.length=m.sizes.length∧aw (gg fu m) a5 b0 J=some ho∧Le H ch∧f 1=Pt g3∧f 4=j∧f 16=I (m.sizes.length:Int)∧f 17=I b0∧ab ch w_ (oS 73 (cP 122) j J :: box g3 26 #[v0_0,v0_1] :: R)
 have Z:=ab.bE (R:=(cP 122)) (e:=73) Z
 refine a8 hp (n:=m.sizes.length) ?_ ?_
 exact ij eu ⟨0,m.sizes,[],H,S0,U,U,Nat.zero_add _,cp,(Le.refl _),U,U,U,U,Z⟩
 intro l4 f w_ hI
 obtain ⟨b0,a5,J,ch,j,rfl,g7,ej,cp,b2,c1,cn,g8,e0,Z⟩:=ik eu hI
 refine sq (bh U e0 g8 (nq (al (b:=decide ((b0:Int)<(m.sizes.length:Int))) U (fun e1=>?_) (fun e1=>?_))))
 have hi:=of_decide_eq_true e1
 rcases a5 with _ | ⟨jn,ek⟩
 exact absurd hi (by simp at ej; omega)
 obtain ⟨l5,a3,cp⟩:=aJ cp
 rw [gg] at a3
 have hW:=aY g7
 refine aq (ao (ak (sq (mF e0 U (aI U (nq ?_))))))
 obtain ⟨c2,hq,a3⟩:=bind_some a3
 refine ae (a7 (cs:=[v0_0,v0_1]) U isAgg26 sizeOf26 c1 (At.bK (de.at (ab.aM 1 Z U)) 0 2) U (mI U ?_))
 obtain ⟨j1,hr,h0,l7,h1⟩:=Z.borrow
 refine ar U call47 (cu U U) (nV (m:=m) (cell:=(b0:Int)) h0 (RP.mono _ h0_0 (Le.trans b2 hr)) (RP.mono _ h0_1 (Le.trans b2 hr)) hq) ?_
 rintro a0 l8 ⟨_,rfl,Z⟩
 have Z:=h1 Z (co bk c0)
 refine aV a0 U (nq ?_)
 obtain ⟨an,hs,a3⟩:=bind_some a3
 refine ae (mV a0 U ?_)
 obtain ⟨ht,l9,h2,h3,h4⟩:=Z.borrow
 have hv:(rS 3 RP.int).rel ht [a0] c2:=cg 0 h3 U
 refine ar U call48 (b9 U) (pc (lits:=c2) h2 hv hs) ?_
 rintro _ mg ⟨af,rfl,Z⟩
 have Z:=h4 Z (co bI c0)
 refine mV (.tuple #[.agg #[af,I an.1.bound],Bo an.2]) U (dF (v:=.agg #[af,I an.1.bound]) U U U (dF (v:=Bo an.2) U U U (dS (cs:=#[S0,I 0]) U zeroValue73 U Z (fun e2 m0 Z=>bg (vs:=#[af,I an.1.bound]) (cs2:=#[af,I an.1.bound]) 0 U sizeOf73 U U U (aj (aH (ab.len 1 Z U)) (aj U aK)) Z U (by show 0+2≤2; decide) U (fun m1 Z=>aB U (nn ?_))))))
 obtain ⟨b3,hx,a3⟩:=bind_some a3
 obtain ⟨h5,hy,a3⟩:=bind_some a3
 have Z:=Z.aU [1,4,4,4,4] U
 refine bT 5 [aZ (j),aZ (.agg #[af,I an.1.bound]),aZ (a0),xW fun h6=>aZ (.agg #[h6,I b3.bound]),gE] [box e2 73 #[af,I an.1.bound],oF 3 RP.int a0 c2,oS 73 (cP 122) j J,box g3 26 #[v0_0,v0_1]] [.base (oF 122 au af an.1.terms) (some 4),.made 3 31 (fun v_=>oF 122 au (dm v_ 0) b3.terms) (some 4),.made 4 32 (fun v_=>oS 73 (cP 122) v_ ([an.1,b3])) none] (R) [([],[]),([],[]),([],[]),([],[1]),([0,1],[2])] (S:=[(none,[],some 4),(some 3,[31],some 4),(some 4,[32],none)]) aP (by kernel_rfl) U (by kernel_rfl) (ad (ah _) (ad (ah _) (ad (ah _) (ad (fh fun _=>ah _) (ad (bO) bV))))) Z ?_ (fun f w_ dj c5 e3 hz Z=>?_)
 refine aa (fun f w_ _ _ s _ _ Z=>mF ((s 4 U).trans cn) U (nO U U Z)) (aa (fun f w_ _ _ s _ _ Z=>a7 (cs:=[af,I an.1.bound]) U isAgg73 sizeOf73 ((s 7 U).trans U) (At.bK (de.at (ab.aM 0 Z U)) 0 2) U (nO U U Z)) (aa (fun f w_ _ _ s _ _ Z=>mF ((s 6 U).trans U) U (nO U U Z)) (aa ?_ ?_)))
 intro f w_ dj g0 c5 e3 en Z
 obtain ⟨hA,m2,h7,h8,h9⟩:=Z.borrow
 have hB:(rS 3 RP.int).rel hA [a0] c2:=cg 1 h8 U
 refine ar U call49 (b9 (en 2 30 U U)) (ri (vars:=c2) h7 hB hx) ?_
 rintro _ j2 ⟨hN,rfl,Z⟩
 have Z:=h9 Z (co bI c0)
 have Z:=Z.aU [4,4,4,4] U
 exact ax ⟨U,_,_,U,Le.refl _,fun _ _=>⟨_,U⟩,Z⟩
 refine aa ?_ ?_
 intro f w_ dj g0 c5 e3 en Z
 have Z:ab dj w_ (box e2 73 #[af,I an.1.bound] :: oF 3 RP.int a0 c2 :: oS 73 (cP 122) j J :: box g3 26 #[v0_0,v0_1] :: oF 122 au af an.1.terms :: own (OR.bq 122 (OR.bu au)) [(dm (f 31) 0)] b3.terms :: g0):=Z
 obtain ⟨c3,e4⟩:=(en 3 31 U U)
 have hren:ab dj w_ (box e2 73 #[af,I an.1.bound] :: oF 3 RP.int a0 c2 :: oS 73 (cP 122) j J :: box g3 26 #[v0_0,v0_1] :: oF 122 au af an.1.terms :: own (OR.bq 122 (OR.bu au)) [(dm (f 31) 0)] b3.terms :: g0):=Z
 rw [e4] at hren
 have Z:ab dj w_ (box e2 73 #[af,I an.1.bound] :: oF 3 RP.int a0 c2 :: oS 73 (cP 122) j J :: box g3 26 #[v0_0,v0_1] :: oF 122 au af an.1.terms :: oF 122 au c3 b3.terms :: g0):=hren
 refine cS U (iB (en 1 29 U U) e4) (tj (af) (I an.1.bound) (c3) (I b3.bound) ) Z (fun j3 j4 Z=>?_)
 have Z:=Z.get 6 U
 have Z:=gr (c:=b3) Z
 have Z:=Z.get 6 U
 have Z:=gr (c:=an.1) Z
 have Z:=ab.bS (R:=(cP 122)) [([af,I an.1.bound],an.1),([c3,I b3.bound],b3)] [an.1,b3] 2 Z U U U (by decide)
 have Z:=Z.aU [4,4,4,4] U
 exact ax ⟨U,_,_,U,Le.refl _,fun _ _=>trivial,Z⟩
 exact aQ
 have Z:ab dj w_ (box e2 73 #[af,I an.1.bound] :: oF 3 RP.int a0 c2 :: oS 73 (cP 122) j J :: box g3 26 #[v0_0,v0_1] :: oS 73 (cP 122) (f 32) ([an.1,b3]) :: R):=Z
 have Z:=Z.aU [4,3] U
 refine cj (v:=j) (u:=(f 32)) U nU (hz 0 28 U U) U Z hy (fun g9 j5 Z=>aV g9 U (nn (ae (bf U ((c5 17 U).trans e0) U (mI U (nn ?_))))))
 obtain rfl:=so a3
 have Z:=Z.aU [3,1] U
 have Z:=ab.drop 2 Z U
 have Z:=ab.drop 2 Z U
 show ∃ m,m<_∧hp m _ _
 refine ⟨ek.length,by simp,?_⟩
 exact ij eu ⟨b0+1,ek,h5,dj,g9,U,aL g7,by simp at ej; omega,cp,(Le.trans b2 e3),((c5 1 U).trans c1),U,((c5 16 U).trans g8),((eI (aO (n:=m.sizes.length) (by simp at ej; omega) gd))),Z⟩
 rcases a5 with _ | ⟨_,_⟩
 obtain rfl:=aT cp
 refine a9 (rj g6 ⟨J,ch,j,U,b2,c1,cn,Z⟩)
 exact absurd (of_decide_eq_false e1) (by simp at ej; omega)
 intro f w_ hR
 obtain ⟨J,ch,j,rfl,b2,c1,cn,Z⟩:=rk g6 hR
 refine ao (sq (fA 1 fB c1 U (bw 1 Z isAgg24 U U U (aW U underlying24 U (ai (RP.mono _ h0_1 b2)) (mI U (nn ?_))))))
 have e5:List.length m.rules≤9223372036854775807:=bB (ai (RP.mono _ h0_1 b2))
 obtain ⟨ha,bd,hF⟩:=bind_some hF
 obtain ⟨hC,fa⟩:=ca fun f w_=>∃ ag:List Con,∃ a4,∃ o,ha=.nx ag∧Le ch a4∧f 4=o∧ab a4 w_ (oF 73 (ba 122) o ag :: R)
 refine av hC ?_ ?_
 refine ak ?_
 obtain ⟨hb,ds⟩:=ff fun n f w_=>∃ a6:Nat,∃ a1:List Rule,∃ ag:List Con,∃ a4,∃ o,n=a1.length∧List.drop a6 m.rules=a1∧a6+a1.length=m.rules.length∧aw (ga fu m) a1 a6 ag=some ha∧Le ch a4∧f 1=Pt g3∧f 4=o∧f 36=v0_1∧f 37=I (m.rules.length:Int)∧f 38=I a6∧ab a4 w_ (oF 73 (ba 122) o ag :: box g3 26 #[v0_0,v0_1] :: R)
 obtain ⟨hc,hD,Z⟩:=ab.shallow Z
 have Z:ab hc w_ (oF 73 (ba 122) j J :: _):=Z
 refine a8 hb (n:=m.rules.length) ?_ ?_
 exact ij ds ⟨0,m.rules,J,hc,j,U,U,Nat.zero_add _,bd,hD,c1,cn,U,U,U,Z⟩
 intro j6 f w_ hI
 obtain ⟨a6,a1,ag,a4,o,rfl,fo,c4,bd,b1,c1,cn,hf,hg,fs,Z⟩:=ik ds hI
 refine sq (bh U fs hg (ax (ao (al (b:=decide ((a6:Int)<(m.rules.length:Int))) U (fun ec=>?_) (fun ec=>?_)))))
 have g1:=of_decide_eq_true ec
 rcases a1 with _ | ⟨a2,c6⟩
 exact absurd g1 (by simp at c4; omega)
 obtain ⟨j7,bs,bd⟩:=aJ bd
 rw [ga] at bs
 have g2:=aY fo
 refine aq (ao (ak (sq (bP (r:=(cY 3 23)) U underlying24 sizeOf79 hf (RP.mono _ h0_1 (Le.trans b2 b1)) fs g2 (fun j8 kk hE c7 g4=>?_)))))
 obtain ⟨b4,b5,b8,rfl,c8,dd,dg⟩:=iL.1 c7
 refine a7 (cs:=[I a2.kind,b4,b5,I a2.bound,b8]) U isAgg79 sizeOf79 U (At.sub (dn.at g4 Z.sub) 0 5) U (dS (cs:=#[I 0,S0,S0,I 0,S0]) U zeroValue79 U Z (fun ks ky Z=>bg (vs:=#[I a2.kind,b4,b5,I a2.bound,b8]) (cs2:=#[I a2.kind,b4,b5,I a2.bound,b8]) 0 U sizeOf79 U U U (aj U (aj (aH (ai c8)) (aj (aH (ai dd)) (aj U (aj (aH (ai dg)) aK))))) Z U (by show 0+5≤5; decide) U (fun k0 Z=>nn ?_)))
 obtain ⟨lo,hj,bs⟩:=bind_some bs
 obtain ⟨hG,hk,bs⟩:=bind_some bs
 refine ae (mF cn U (a7 (cs:=[v0_0,v0_1]) U isAgg26 sizeOf26 c1 (At.bK (de.at (ab.aM 2 Z U)) 0 2) U (a7 (cs:=[I a2.kind,b4,b5,I a2.bound,b8]) U isAgg79 sizeOf79 U (At.bK (de.at (ab.aM 0 Z U)) 0 5) U (ar U call50 (cu U U) (qt (m:=m) (r_:=a2) Z (RP.mono _ h0_0 (Le.trans b2 b1)) (RP.mono _ h0_1 (Le.trans b2 b1)) c8 dd dg hj) ?_))))
 rintro g5 l0 ⟨hJ,hK,_,rfl,Z⟩
 have Z:=Z.get 2 U
 refine cj (v:=o) (u:=g5) U nU U U Z hk (fun hh l1 Z=>aV hh U (nn (ae (bf U fs U (mI U (nn ?_))))))
 obtain rfl:=so bs
 have Z:=Z.aU [2,1] U
 have Z:=ab.drop 2 Z U
 show ∃ m,m<_∧hb m _ _
 refine ⟨c6.length,by simp,?_⟩
 exact ij ds ⟨a6+1,c6,hG,hJ,hh,U,aL fo,by simp at c4; omega,bd,(Le.trans b1 hK),c1,U,hf,hg,((eI (aO (n:=m.rules.length) (by simp at c4; omega) e5))),Z⟩
 rcases a1 with _ | ⟨_,_⟩
 obtain rfl:=aT bd
 refine a9 ?_
 have Z:=ab.drop 1 Z U
 exact rj fa ⟨ag,a4,o,U,b1,cn,Z⟩
 exact absurd (of_decide_eq_false ec) (by simp at c4; omega)
 intro f w_ hR
 obtain ⟨ag,a4,o,rfl,b1,cn,Z⟩:=rk fa hR
 refine ao (sq (mF cn U (aW U underlying28 U (ab.len 0 Z U) (c9 U U U (nn (al (b:=decide ((ag.length:Int) > 400)) U (fun ee=>?_) (fun ee=>?_)))))))
 have hF:=(az ee).symm.trans hF
 refine sq (aV S0 U (aB U (nn (aA (dc (v1:=S0) (v2:=Bo false) results13 U U ?_)))))
 obtain rfl:=so hF
 have Z:=ab.bE (R:=(OR.bu (ba 122))) (e:=73) Z
 have Z:=ab.drop 1 Z U
 exact ⟨a4,(Le.trans b2 b1),S0,U,Z⟩
 have hF:=(ay ee).symm.trans hF
 refine aq (sq (mF cn U (aV o U (aB U (nn (aA (dc (v1:=o) (v2:=Bo true) results13 U U ?_)))))))
 obtain rfl:=so hF
 exact ⟨a4,(Le.trans b2 b1),o,U,Z⟩
theorem zI {m:Model} {list:List Int} {v0_0:Value} {v0_1:Value} {v1:Value} {H:FH} {w:World} (Z:ab H w []) (h0_0:(rS 3 RP.int).rel H [v0_0] m.sizes) (h0_1:(rS 79 (cY 3 23)).rel H [v0_1] m.rules) (h1:(rS 3 RP.int).rel H [v1] list) {r:Bool} (hF:qc m list=some r):C prog 148 #[.agg #[v0_0,v0_1],v1] w fun v w'=>v=Bo r∧ab H w' []:=by
 unfold qc at hF
 refine aE func148 U ntmps148 U (sq (cr (v:=.agg #[v0_0,v0_1]) (cs:=#[v0_0,v0_1]) U U U Z (fun g3 w4 Z=>aB U (nq (sq (aI U (nn ?_)))))))
 have fo:List.length list≤9223372036854775807:=bB (ai h1)
 obtain ⟨j8,b8,hF⟩:=bind_some hF
 obtain ⟨R8,hg⟩:=ca fun f w_=>∃ H6,j8=.nx ()∧Le H H6∧f 1=v1∧ab H6 w_ ([])
 refine av R8 ?_ ?_
 refine ak ?_
 obtain ⟨I8,fs⟩:=ff fun n f w_=>∃ a0:Nat,∃ b0:List Int,∃ H6,n=b0.length∧List.drop a0 list=b0∧a0+b0.length=list.length∧aw (pZ m list) b0 a0 ()=some j8∧Le H H6∧f 1=v1∧f 2=Pt g3∧f 5=I a0∧ab H6 w_ ([box g3 26 #[v0_0,v0_1]])
 refine a8 I8 (n:=list.length) ?_ ?_
 exact ij fs ⟨0,list,H,U,U,Nat.zero_add _,b8,(Le.refl _),U,U,U,Z⟩
 intro n8 f w_ hI
 obtain ⟨a0,b0,H6,rfl,hh,e2,b8,l7,an,b3,a1,Z⟩:=ik fs hI
 refine ao (sq (mF a1 U (mF an U (aW U underlying23 U (ai (RP.mono _ h1 l7)) (bh U U U (nn (al (b:=decide ((a0:Int)<(list.length:Int))) U (fun fu=>?_) (fun fu=>?_))))))))
 have hi:=of_decide_eq_true fu
 rcases b0 with _ | ⟨R,ds⟩
 exact absurd hi (by simp at e2; omega)
 obtain ⟨o8,bs,b8⟩:=aJ b8
 rw [pZ] at bs
 have dd:=aY hh
 refine aq (ao (ak (ao (ao ?_))))
 obtain ⟨hB,ec⟩:=ca fun f w_=>∃ dj,Le H6 dj∧f 1=v1∧f 2=Pt g3∧f 5=I a0∧f 27=Bo ((decide (R<0)) || (decide (R ≥ (m.sizes.length:Int))))∧ab dj w_ ([box g3 26 #[v0_0,v0_1]])
 refine av hB ?_ ?_
 rcases Bool.eq_false_or_eq_true (decide (R<0)) with o | o
 refine bT 13 [aZ (v1),aZ (I a0),gC RP.int R 0,aZ (I R),aZ (Bo (decide (R<0))),aZ (Bo (decide (R<0))),aZ (undef),aZ (undef),aZ (undef),aZ (undef),aZ (undef),aZ (undef),aZ (undef)] [box g3 26 #[v0_0,v0_1]] [] ([]) [([],[]),([],[]),([],[]),([],[]),([],[]),([],[]),([],[]),([],[]),([],[]),([],[]),([],[]),([],[]),([],[])] (S:=[]) aP (by kernel_rfl) U (by kernel_rfl) (ad (ah _) (ad (ah _) (ad (bU _ _ _) (ad (ah _) (ad (ah _) (ad (ah _) (ad (ah _) (ad (ah _) (ad (ah _) (ad (ah _) (ad (ah _) (ad (ah _) (ad (ah _) bV))))))))))))) Z ?_ (fun f w_ b4 ag af b1 Z=>?_)
 refine aa (fun f w_ _ _ s _ _ Z=>mF ((s 1 U).trans an) U (nO U U Z)) (aa (fun f w_ _ _ s _ _ Z=>mF ((s 5 U).trans a1) U (nO U U Z)) (aa ?_ ?_))
 intro f w_ b4 ee ag af J Z
 refine bP (r:=RP.int) U underlying23 sizeOf3 (J 0 13 U U) (RP.mono _ h1 (Le.trans l7 af)) (J 1 14 U U) dd (fun hN hP hv ch gd=>?_)
 obtain rfl:_=[_]:=ch
 exact ax ⟨U,_,_,U,Le.refl _,fun _ _=>⟨_,_,_,U,U,gd⟩,Z⟩
 refine aa ?_ ?_
 intro f w_ b4 ee ag af J Z
 obtain ⟨hQ,hS,hD,hj,cn,g0⟩:=(J 2 15 U U)
 obtain rfl:_=[_]:=cn
 refine bt U isAgg3 hj (At.cell (dn.at g0 Z.sub) (j:=0) U) (ax ⟨U,_,_,U,Le.refl _,fun _ _=>rfl,Z⟩)
 refine aa (fun f w_ _ _ _ _ p Z=>bh U (p 3 16 U U) U (nO U U Z)) (aa (fun f w_ _ _ _ _ p Z=>mF (p 4 17 U U) U (nO U U Z)) (oP (fun _ _ p=>gN (p 5 18 U U) o U) (fun _=>rfl) (oP (fun _ _ p=>gN (p 5 18 U U) o U) (fun _=>rfl) (oP (fun _ _ p=>gN (p 5 18 U U) o U) (fun _=>rfl) (oP (fun _ _ p=>gN (p 5 18 U U) o U) (fun _=>rfl) (oP (fun _ _ p=>gN (p 5 18 U U) o U) (fun _=>rfl) (oP (fun _ _ p=>gN (p 5 18 U U) o U) (fun _=>rfl) (oP (fun _ _ p=>gN (p 5 18 U U) o U) (fun _=>rfl) (aQ)))))))))
 refine ps (rn U (cB (b1 5 18 U U) o) U U) (aC (v:=Bo ((decide (R<0)) || (decide (R ≥ (m.sizes.length:Int))))) U (cB (b1 5 18 U U) o) (fK o) (nn (rj ec ⟨b4,af,((ag 1 U).trans an),((ag 2 U).trans b3),((ag 5 U).trans a1),U,Z⟩)))
 refine bT 13 [aZ (v1),aZ (I a0),gC RP.int R 0,aZ (I R),aZ (Bo (decide (R<0))),aZ (Bo (decide (R<0))),aZ (v1),aZ (I a0),gC RP.int R 0,aZ (I R),aZ (Pt g3),aZ (v0_0),aZ (I (m.sizes.length:Int))] [box g3 26 #[v0_0,v0_1]] [] ([]) [([],[]),([],[]),([],[]),([],[]),([],[]),([],[]),([],[]),([],[]),([],[]),([],[]),([],[]),([],[]),([],[])] (S:=[]) aP (by kernel_rfl) U (by kernel_rfl) (ad (ah _) (ad (ah _) (ad (bU _ _ _) (ad (ah _) (ad (ah _) (ad (ah _) (ad (ah _) (ad (ah _) (ad (bU _ _ _) (ad (ah _) (ad (ah _) (ad (ah _) (ad (ah _) bV))))))))))))) Z ?_ (fun f w_ b4 ag af b1 Z=>?_)
 refine aa (fun f w_ _ _ s _ _ Z=>mF ((s 1 U).trans an) U (nO U U Z)) (aa (fun f w_ _ _ s _ _ Z=>mF ((s 5 U).trans a1) U (nO U U Z)) (aa ?_ ?_))
 intro f w_ b4 ee ag af J Z
 refine bP (r:=RP.int) U underlying23 sizeOf3 (J 0 13 U U) (RP.mono _ h1 (Le.trans l7 af)) (J 1 14 U U) dd (fun hV hW hx cp g1=>?_)
 obtain rfl:_=[_]:=cp
 exact ax ⟨U,_,_,U,Le.refl _,fun _ _=>⟨_,_,_,U,U,g1⟩,Z⟩
 refine aa ?_ ?_
 intro f w_ b4 ee ag af J Z
 obtain ⟨h0,h2,hE,hk,c1,g2⟩:=(J 2 15 U U)
 obtain rfl:_=[_]:=c1
 refine bt U isAgg3 hk (At.cell (dn.at g2 Z.sub) (j:=0) U) (ax ⟨U,_,_,U,Le.refl _,fun _ _=>rfl,Z⟩)
 refine aa (fun f w_ _ _ _ _ p Z=>bh U (p 3 16 U U) U (nO U U Z)) (aa (fun f w_ _ _ _ _ p Z=>mF (p 4 17 U U) U (nO U U Z)) (aa (fun f w_ _ _ s _ p Z=>iV (v:=v1) (bm U (cB (p 5 18 U U) o) U) ((s 1 U).trans an) (nO U U Z)) (aa (fun f w_ _ _ s _ p Z=>iV (v:=I a0) (bm U (cB (p 5 18 U U) o) U) ((s 5 U).trans a1) (nO U U Z)) (aa ?_ ?_))))
 intro f w_ b4 ee ag af J Z
 refine bP (r:=RP.int) (bm U (cB (J 5 18 U U) o) U) underlying23 sizeOf3 (J 6 19 U U) (RP.mono _ h1 (Le.trans l7 af)) (J 7 20 U U) dd (fun h3 h4 hy c2 g4=>?_)
 obtain rfl:_=[_]:=c2
 exact ax ⟨U,_,_,U,Le.refl _,fun _ _=>⟨_,_,_,U,U,g4⟩,Z⟩
 refine aa ?_ ?_
 intro f w_ b4 ee ag af J Z
 obtain ⟨h5,h6,hG,hl,c3,g5⟩:=(J 8 21 U U)
 obtain rfl:_=[_]:=c3
 refine bt (v:=I R) (bm U (cB (J 5 18 U U) o) U) isAgg3 hl (At.cell (dn.at g5 Z.sub) (j:=0) U) (ax ⟨U,_,_,U,Le.refl _,fun _ _=>rfl,Z⟩)
 refine aa (fun f w_ _ _ s _ p Z=>sA (o':=0) (bm U (cB (p 5 18 U U) o) U) bN ((s 2 U).trans b3) U (nO U U Z)) (aa (fun f w_ _ _ _ _ p Z=>bt (v:=v0_0) (bm U (cB (p 5 18 U U) o) U) isAgg23 (p 10 23 U U) (At.ll (de.at (ab.aM 0 Z U)) (j:=0) U) (nO U U Z)) (aa (fun f w_ _ _ _ af p Z=>aW (bm U (cB (p 5 18 U U) o) U) underlying23 (p 11 24 U U) (ai (RP.mono _ h0_0 (Le.trans l7 af))) (nO U U Z)) (aQ)))
 refine hY (bm U (cB (b1 5 18 U U) o) U) (b1 9 22 U U) (b1 12 25 U U) (aC (v:=Bo ((decide (R<0)) || (decide (R ≥ (m.sizes.length:Int))))) U (cB (b1 5 18 U U) o) (fb o U) (nn (rj ec ⟨b4,af,((ag 1 U).trans an),((ag 2 U).trans b3),((ag 5 U).trans a1),U,Z⟩)))
 intro f w_ hR
 obtain ⟨dj,ej,an,b3,a1,hn,Z⟩:=rk ec hR
 refine al (b:=((decide (R<0)) || (decide (R ≥ (m.sizes.length:Int))))) hn (fun ek=>?_) (fun ek=>?_)
 have bs:=(az ek).symm.trans bs
 refine sq (aB U (nn (aA (aN (v1:=Bo false) results148 U ?_))))
 obtain rfl:=so bs
 obtain rfl:=so b8
 obtain rfl:=so hF
 exact ⟨U,(ab.down (ab.aG 0 Z) (Le.trans l7 ej) c0)⟩
 have bs:=(ay ek).symm.trans bs
 refine aq (sq (aI U (nn ?_)))
 obtain ⟨e3,en,bs⟩:=bind_some bs
 obtain ⟨ho,b2,bs⟩:=bind_some bs
 obtain ⟨hC,e4⟩:=ca fun f w_=>∃ b5,ho=.nx ()∧Le dj b5∧f 1=v1∧f 2=Pt g3∧f 5=I a0∧ab b5 w_ ([box g3 26 #[v0_0,v0_1]])
 refine av hC ?_ ?_
 refine ak ?_
 obtain ⟨hp,et⟩:=ff fun n f w_=>∃ a5:Nat,∃ a4:Nat,∃ b5,a4=n∧0≤a5∧a5+a4=0+e3∧cI (qo list R) a4 a5 ()=some ho∧Le dj b5∧f 1=v1∧f 2=Pt g3∧f 5=I a0∧f 6=I a5∧ab b5 w_ ([box g3 26 #[v0_0,v0_1]])
 refine a8 hp (n:=e3) ?_ ?_
 exact ij et ⟨0,e3,dj,U,Nat.le_refl _,U,b2,(Le.refl _),an,b3,a1,U,Z⟩
 intro h7 f w_ hI
 obtain ⟨a5,a4,b5,rfl,hq,e5,b2,c4,an,b3,a1,g6,Z⟩:=ik et hI
 refine ao (sq (mF g6 U (mF a1 U (bh U U U (nn (al (b:=decide ((a5:Int)<(a0:Int))) U (fun eu=>?_) (fun eu=>?_)))))))
 have g7:=of_decide_eq_true eu
 rcases a4 with _ | dg
 exact absurd g7 (lA e5 en)
 obtain ⟨h8,a2,b2⟩:=eA b2
 rw [qo] at a2
 refine aq (ao (ak (ao ?_)))
 obtain ⟨g8,hr,a2⟩:=bind_some a2
 refine bT 8 [aZ (v1),aZ (I a5),gC RP.int g8 0,aZ (I g8),aZ (v1),aZ (I a0),gC RP.int R 0,aZ (I R)] [box g3 26 #[v0_0,v0_1]] [] ([]) [([],[]),([],[]),([],[]),([],[]),([],[]),([],[]),([],[]),([],[])] (S:=[]) aP (by kernel_rfl) U (by kernel_rfl) (ad (ah _) (ad (ah _) (ad (bU _ _ _) (ad (ah _) (ad (ah _) (ad (ah _) (ad (bU _ _ _) (ad (ah _) bV)))))))) Z ?_ (fun f w_ e0 a6 bd fa Z=>?_)
 refine aa (fun f w_ _ _ s _ _ Z=>mF ((s 1 U).trans an) U (nO U U Z)) (aa (fun f w_ _ _ s _ _ Z=>mF ((s 6 U).trans g6) U (nO U U Z)) (aa ?_ ?_))
 intro f w_ e0 g9 a6 bd a3 Z
 refine bP (r:=RP.int) U underlying23 sizeOf3 (a3 0 33 U U) (RP.mono _ h1 (Le.trans (Le.trans (Le.trans l7 ej) c4) bd)) (a3 1 34 U U) hr (fun h9 ih hz c5 ha=>?_)
 obtain rfl:_=[_]:=c5
 exact ax ⟨U,_,_,U,Le.refl _,fun _ _=>⟨_,_,_,U,U,ha⟩,Z⟩
 refine aa ?_ ?_
 intro f w_ e0 g9 a6 bd a3 Z
 obtain ⟨jn,j1,hJ,hs,c6,hb⟩:=(a3 2 35 U U)
 obtain rfl:_=[_]:=c6
 refine bt U isAgg3 hs (At.cell (dn.at hb Z.sub) (j:=0) U) (ax ⟨U,_,_,U,Le.refl _,fun _ _=>rfl,Z⟩)
 refine aa (fun f w_ _ _ s _ _ Z=>mF ((s 1 U).trans an) U (nO U U Z)) (aa (fun f w_ _ _ s _ _ Z=>mF ((s 5 U).trans a1) U (nO U U Z)) (aa ?_ ?_))
 intro f w_ e0 g9 a6 bd a3 Z
 refine bP (r:=RP.int) U underlying23 sizeOf3 (a3 4 37 U U) (RP.mono _ h1 (Le.trans (Le.trans (Le.trans l7 ej) c4) bd)) (a3 5 38 U U) dd (fun j2 j3 hA c7 hc=>?_)
 obtain rfl:_=[_]:=c7
 exact ax ⟨U,_,_,U,Le.refl _,fun _ _=>⟨_,_,_,U,U,hc⟩,Z⟩
 refine aa ?_ ?_
 intro f w_ e0 g9 a6 bd a3 Z
 obtain ⟨j4,j5,hK,ht,c8,hf⟩:=(a3 6 39 U U)
 obtain rfl:_=[_]:=c8
 refine bt U isAgg3 ht (At.cell (dn.at hf Z.sub) (j:=0) U) (ax ⟨U,_,_,U,Le.refl _,fun _ _=>rfl,Z⟩)
 exact aQ
 refine bD U (fa 3 36 U U) (fa 7 40 U U) (nn (al (b:=(g8 == R)) U (fun e1=>?_) (fun e1=>?_)))
 have a2:=(az e1).symm.trans a2
 refine sq (aB U (nn (aA (aN (v1:=Bo false) results148 U ?_))))
 obtain rfl:=so a2
 obtain rfl:=so b2
 obtain rfl:=so bs
 obtain rfl:=so b8
 obtain rfl:=so hF
 exact ⟨U,(ab.down (ab.aG 0 Z) (Le.trans (Le.trans (Le.trans l7 ej) c4) bd) c0)⟩
 have a2:=(ay e1).symm.trans a2
 refine aq (ae (mF ((a6 6 U).trans g6) U (bf U U U (aI U (nn ?_)))))
 obtain rfl:=so a2
 show ∃ m,m<_∧hp m _ _
 refine ⟨dg,Nat.lt_succ_self _,?_⟩
 exact ij et ⟨a5+1,dg,e0,U,by omega,by omega,b2,(Le.trans c4 bd),((a6 1 U).trans an),((a6 2 U).trans b3),((a6 5 U).trans a1),((eI (aO (n:=0+e3) (by omega) (jg en)))),Z⟩
 rcases a4 with _ | _
 obtain rfl:=eo b2
 refine a9 (rj e4 ⟨b5,U,c4,an,b3,a1,Z⟩)
 exact absurd (jZ hq e5 en) (of_decide_eq_false eu)
 intro f w_ hR
 obtain ⟨b5,rfl,c4,an,b3,a1,Z⟩:=rk e4 hR
 refine ae (mF a1 U (bf U U U (aI U (nn ?_))))
 obtain rfl:=so bs
 show ∃ m,m<_∧I8 m _ _
 refine ⟨ds.length,by simp,?_⟩
 exact ij fs ⟨a0+1,ds,b5,U,aL hh,by simp at e2; omega,b8,(Le.trans (Le.trans l7 ej) c4),an,b3,((eI (aO (n:=list.length) (by simp at e2; omega) fo))),Z⟩
 rcases b0 with _ | ⟨_,_⟩
 obtain rfl:=aT b8
 refine a9 (rj hg ⟨H6,U,l7,an,(ab.aG 0 Z)⟩)
 exact absurd (of_decide_eq_false fu) (by simp at e2; omega)
 intro f w_ hR
 obtain ⟨H6,rfl,l7,an,Z⟩:=rk hg hR
 refine sq (mF an U (aW U underlying23 U (ai (RP.mono _ h1 l7)) (hY U U U (aB U (nn (aA (aN (v1:=Bo (decide ((list.length:Int) ≥ 1))) results148 U ?_)))))))
 obtain rfl:=so hF
 exact ⟨U,(ab.down Z l7 c0)⟩
theorem xQ {r_:Rule} {v0_1:Value} {v0_2:Value} {v0_4:Value} {H:FH} {w:World} (Z:ab H w []) (h0_1:(rS 3 RP.int).rel H [v0_1] r_.vars) (h0_2:(rS 3 RP.int).rel H [v0_2] r_.coefs) (h0_4:(rS 23 (rS 3 RP.int)).rel H [v0_4] r_.rows) {r:Bool} (hF:mU r_=some r):C prog 149 #[.agg #[I r_.kind,v0_1,v0_2,I r_.bound,v0_4]] w fun v w'=>v=Bo r∧ab H w' []:=by
 unfold mU at hF
 refine aE func149 U ntmps149 U (sq (cr (v:=.agg #[I r_.kind,v0_1,v0_2,I r_.bound,v0_4]) (cs:=#[I r_.kind,v0_1,v0_2,I r_.bound,v0_4]) U U U Z (fun g3 w4 Z=>aB U (nq (sq (aI U (nn ?_)))))))
 have ch:List.length r_.coefs≤9223372036854775807:=bB (ai h0_2)
 obtain ⟨j6,an,hF⟩:=bind_some hF
 obtain ⟨R6,c4⟩:=ca fun f w_=>j6=.nx ()∧f 1=Pt g3∧ab H w_ ([box g3 79 #[I r_.kind,v0_1,v0_2,I r_.bound,v0_4]])
 refine av R6 ?_ ?_
 refine ak ?_
 obtain ⟨I6,cn⟩:=ff fun n f w_=>∃ ag:Nat,∃ R:List Int,n=R.length∧List.drop ag r_.coefs=R∧ag+R.length=r_.coefs.length∧aw nI R ag ()=some j6∧f 1=Pt g3∧f 3=I ag∧ab H w_ ([box g3 79 #[I r_.kind,v0_1,v0_2,I r_.bound,v0_4]])
 refine a8 I6 (n:=r_.coefs.length) ?_ ?_
 exact ij cn ⟨0,r_.coefs,U,U,Nat.zero_add _,an,U,U,Z⟩
 intro n6 f w_ hI
 obtain ⟨ag,R,rfl,c5,b8,an,J,af,Z⟩:=ik cn hI
 refine ao (sq (mF af U (fA 2 hO J U (bw 0 Z isAgg23 U U U (aW U underlying23 U (ai h0_2) (bh U U U (nn (al (b:=decide ((ag:Int)<(r_.coefs.length:Int))) U (fun cp=>?_) (fun cp=>?_)))))))))
 have c6:=of_decide_eq_true cp
 rcases R with _ | ⟨o,bs⟩
 exact absurd c6 (by simp at b8; omega)
 obtain ⟨o6,a0,an⟩:=aJ an
 rw [nI] at a0
 have b0:=aY c5
 refine aq (ao (ak (ao ?_)))
 obtain ⟨dj,a4⟩:=ca fun f w_=>f 1=Pt g3∧f 3=I ag∧f 32=Bo (((decide (o<(-9))) || (decide (o > 9))) || (o == 0))∧ab H w_ ([box g3 79 #[I r_.kind,v0_1,v0_2,I r_.bound,v0_4]])
 refine av dj ?_ ?_
 refine ae (fA 2 hO J U (bw 0 Z isAgg23 U U U (mF af U (bP (r:=RP.int) U underlying23 sizeOf3 U h0_2 U b0 (fun ee ej c8 a1 c1=>?_)))))
 obtain rfl:_=[_]:=a1
 refine bt U isAgg3 U (At.cell (dn.at c1 Z.sub) (j:=0) U) (bh U U U (mB U (aD (d:=17) (b:=decide (o<(-9))) U (fun a5=>?_) (fun a5=>?_))))
 refine ps U (ps U (ps U (ps U (ps U (ps U (aC (v:=Bo ((decide (o<(-9))) || (decide (o > 9)))) U U (fK a5) (mB U (aD (d:=25) (b:=((decide (o<(-9))) || (decide (o > 9)))) U (fun b1=>?_) (fun b1=>?_)))))))))
 refine ps U (ps U (ps U (ps U (ps U (ps U (aC (v:=Bo (((decide (o<(-9))) || (decide (o > 9))) || (o == 0))) U U (fK b1) (nn (rj a4 ⟨J,af,U,Z⟩))))))))
 exact gj (Bv a5) b1
 refine fA 2 hO J U (bw 0 Z isAgg23 U U U (mF af U (bP (r:=RP.int) U underlying23 sizeOf3 U h0_2 U b0 (fun ek en dd a2 c2=>?_))))
 obtain rfl:_=[_]:=a2
 refine bt U isAgg3 U (At.cell (dn.at c2 Z.sub) (j:=0) U) (c9 U U U (aC (v:=Bo ((decide (o<(-9))) || (decide (o > 9)))) U U (fb a5 U) (mB U (aD (d:=25) (b:=((decide (o<(-9))) || (decide (o > 9)))) U (fun b2=>?_) (fun b2=>?_)))))
 refine ps U (ps U (ps U (ps U (ps U (ps U (aC (v:=Bo (((decide (o<(-9))) || (decide (o > 9))) || (o == 0))) U U (fK b2) (nn (rj a4 ⟨J,af,U,Z⟩))))))))
 refine fA 2 hO J U (bw 0 Z isAgg23 U U U (mF af U (bP (r:=RP.int) U underlying23 sizeOf3 U h0_2 U b0 (fun et eu dg a3 c3=>?_))))
 obtain rfl:_=[_]:=a3
 refine bt U isAgg3 U (At.cell (dn.at c3 Z.sub) (j:=0) U) (bD U U U (aC (v:=Bo (((decide (o<(-9))) || (decide (o > 9))) || (o == 0))) U U (fb b2 U) (nn (rj a4 ⟨J,af,U,Z⟩))))
 intro f w_ hR
 obtain ⟨J,af,c7,Z⟩:=rk a4 hR
 refine al (b:=(((decide (o<(-9))) || (decide (o > 9))) || (o == 0))) c7 (fun b3=>?_) (fun b3=>?_)
 have a0:=(az b3).symm.trans a0
 refine sq (aB U (nn (aA (aN (v1:=Bo false) results149 U ?_))))
 obtain rfl:=so a0
 obtain rfl:=so an
 obtain rfl:=so hF
 exact ⟨U,(ab.aG 0 Z)⟩
 have a0:=(ay b3).symm.trans a0
 refine aq (ae (mF af U (bf U U U (aI U (nn ?_)))))
 obtain rfl:=so a0
 show ∃ m,m<_∧I6 m _ _
 refine ⟨bs.length,by simp,?_⟩
 exact ij cn ⟨ag+1,bs,U,aL c5,by simp at b8; omega,an,J,((eI (aO (n:=r_.coefs.length) (by simp at b8; omega) ch))),Z⟩
 rcases R with _ | ⟨_,_⟩
 obtain rfl:=aT an
 refine a9 (rj c4 ⟨U,J,Z⟩)
 exact absurd (of_decide_eq_false cp) (by simp at b8; omega)
 intro f w_ hR
 obtain ⟨rfl,J,Z⟩:=rk c4 hR
 refine ao ?_
 obtain ⟨ds,a6⟩:=ca fun f w_=>f 2=Bo ((((r_.coefs.length:Int) == (r_.vars.length:Int)) && (decide (r_.bound ≥ (-1000)))) && (decide (r_.bound≤1000)))∧ab H w_ ([])
 refine av ds ?_ ?_
 refine ae (fA 2 hO J U (bw 0 Z isAgg23 U U U (aW U underlying23 U (ai h0_2) (fA 1 cM J U (bw 0 Z isAgg23 U U U (aW U underlying23 U (ai h0_1) (bD U U U (mB U (aD (d:=40) (b:=((r_.coefs.length:Int) == (r_.vars.length:Int))) U (fun bd=>?_) (fun bd=>?_))))))))))
 refine fA 3 km J U (bw 0 Z isAgg3 U U U (hY U U U (aC (v:=Bo (((r_.coefs.length:Int) == (r_.vars.length:Int)) && (decide (r_.bound ≥ (-1000))))) U U (gw bd U) (mB U (aD (d:=45) (b:=(((r_.coefs.length:Int) == (r_.vars.length:Int)) && (decide (r_.bound ≥ (-1000))))) U (fun b4=>?_) (fun b4=>?_))))))
 refine fA 3 km J U (bw 0 Z isAgg3 U U U (kE U U U (aC (v:=Bo ((((r_.coefs.length:Int) == (r_.vars.length:Int)) && (decide (r_.bound ≥ (-1000)))) && (decide (r_.bound≤1000)))) U U (gw b4 U) (aB U (nn (rj a6 ⟨U,(ab.aG 0 Z)⟩))))))
 refine ps U (ps U (ps U (aC (v:=Bo ((((r_.coefs.length:Int) == (r_.vars.length:Int)) && (decide (r_.bound ≥ (-1000)))) && (decide (r_.bound≤1000)))) U U (jc b4) (aB U (nn (rj a6 ⟨U,(ab.aG 0 Z)⟩))))))
 refine ps U (ps U (ps U (aC (v:=Bo (((r_.coefs.length:Int) == (r_.vars.length:Int)) && (decide (r_.bound ≥ (-1000))))) U U (jc bd) (mB U (aD (d:=45) (b:=(((r_.coefs.length:Int) == (r_.vars.length:Int)) && (decide (r_.bound ≥ (-1000))))) U (fun b5=>?_) (fun b5=>?_))))))
 exact gj b5 (Ah bd)
 refine ps U (ps U (ps U (aC (v:=Bo ((((r_.coefs.length:Int) == (r_.vars.length:Int)) && (decide (r_.bound ≥ (-1000)))) && (decide (r_.bound≤1000)))) U U (jc b5) (aB U (nn (rj a6 ⟨U,(ab.aG 0 Z)⟩))))))
 intro f w_ hR
 obtain ⟨ec,Z⟩:=rk a6 hR
 refine aA (aN (v1:=Bo ((((r_.coefs.length:Int) == (r_.vars.length:Int)) && (decide (r_.bound ≥ (-1000)))) && (decide (r_.bound≤1000)))) results149 ec ?_)
 obtain rfl:=so hF
 exact ⟨U,Z⟩
theorem yP {r_:Rule} {v0_1:Value} {v0_2:Value} {v0_4:Value} {H:FH} {w:World} (Z:ab H w []) (h0_1:(rS 3 RP.int).rel H [v0_1] r_.vars) (h0_2:(rS 3 RP.int).rel H [v0_2] r_.coefs) (h0_4:(rS 23 (rS 3 RP.int)).rel H [v0_4] r_.rows) {r:Bool} (hF:ov r_=some r):C prog 150 #[.agg #[I r_.kind,v0_1,v0_2,I r_.bound,v0_4]] w fun v w'=>v=Bo r∧ab H w' []:=by
 unfold ov at hF
 refine aE func150 U ntmps150 U (sq (cr (v:=.agg #[I r_.kind,v0_1,v0_2,I r_.bound,v0_4]) (cs:=#[I r_.kind,v0_1,v0_2,I r_.bound,v0_4]) U U U Z (fun g3 w4 Z=>aB U (nq (sq (aI U (nn ?_)))))))
 have ek:List.length r_.rows≤9223372036854775807:=bB (ai h0_4)
 obtain ⟨j8,bd,hF⟩:=bind_some hF
 obtain ⟨R8,fo⟩:=ca fun f w_=>∃ H6,j8=.nx ()∧Le H H6∧f 1=Pt g3∧ab H6 w_ ([box g3 79 #[I r_.kind,v0_1,v0_2,I r_.bound,v0_4]])
 refine av R8 ?_ ?_
 refine ak ?_
 obtain ⟨I8,en⟩:=ff fun n f w_=>∃ a1:Nat,∃ a2:List (List Int),∃ H6,n=a2.length∧List.drop a1 r_.rows=a2∧a1+a2.length=r_.rows.length∧aw (oQ r_) a2 a1 ()=some j8∧Le H H6∧f 1=Pt g3∧f 3=I a1∧ab H6 w_ ([box g3 79 #[I r_.kind,v0_1,v0_2,I r_.bound,v0_4]])
 refine a8 I8 (n:=r_.rows.length) ?_ ?_
 exact ij en ⟨0,r_.rows,H,U,U,Nat.zero_add _,bd,(Le.refl _),U,U,Z⟩
 intro n8 f w_ hI
 obtain ⟨a1,a2,H6,rfl,fs,dg,bd,l7,J,R,Z⟩:=ik en hI
 refine ao (sq (mF R U (fA 4 ez J U (bw 0 Z isAgg77 U U U (aW U underlying77 U (ai (RP.mono _ h0_4 l7)) (bh U U U (nn (al (b:=decide ((a1:Int)<(r_.rows.length:Int))) U (fun et=>?_) (fun et=>?_)))))))))
 have fu:=of_decide_eq_true et
 rcases a2 with _ | ⟨b1,c2⟩
 exact absurd fu (by simp at dg; omega)
 obtain ⟨o8,a0,bd⟩:=aJ bd
 rw [oQ] at a0
 have cp:=aY fs
 refine aq (ao (ak (ao (ao (bT 9 [aZ (Pq g3 4),aZ (v0_4),aZ (I a1),gC (rS 3 RP.int) b1 0,eJ (rS 3 RP.int) b1,aZ (I (b1.length:Int)),aZ (Pq g3 1),aZ (v0_1),aZ (I (r_.vars.length:Int))] [box g3 79 #[I r_.kind,v0_1,v0_2,I r_.bound,v0_4]] [] ([]) [([],[]),([],[]),([],[]),([],[]),([],[]),([],[]),([],[]),([],[]),([],[])] (S:=[]) aP (by kernel_rfl) U (by kernel_rfl) (ad (ah _) (ad (ah _) (ad (ah _) (ad (bU _ _ _) (ad (cA _ _) (ad (ah _) (ad (ah _) (ad (ah _) (ad (ah _) bV))))))))) Z ?_ (fun f w_ bs b0 o ds Z=>?_))))))
 refine aa (fun f w_ _ _ s _ _ Z=>fA 4 ez ((s 1 U).trans J) U (nO U U Z)) (aa (fun f w_ _ _ _ _ p Z=>bw 0 Z isAgg77 (p 0 12 U U) U U (nO U U Z)) (aa (fun f w_ _ _ s _ _ Z=>mF ((s 3 U).trans R) U (nO U U Z)) (aa ?_ ?_)))
 intro f w_ bs gd b0 o a5 Z
 refine bP (r:=(rS 3 RP.int)) U underlying77 sizeOf23 (a5 1 13 U U) (RP.mono _ h0_4 (Le.trans l7 o)) (a5 2 14 U U) cp (fun ho hp hb a3 eu=>?_)
 obtain ⟨hq,rfl,hl⟩:=kP a3
 exact ax ⟨U,_,_,U,Le.refl _,fun _ _=>⟨_,_,_,U,a3,eu⟩,Z⟩
 refine aa ?_ ?_
 intro f w_ bs gd b0 o a5 Z
 obtain ⟨hr,hs,hn,g0,b2,e0⟩:=(a5 3 15 U U)
 obtain ⟨ht,rfl,g1⟩:=kP b2
 refine bt U isAgg23 g0 (At.cell (dn.at e0 Z.sub) (j:=0) U) (ax ⟨U,_,_,U,Le.refl _,fun _ _=>g1,Z⟩)
 refine aa ?_ ?_
 intro f w_ bs gd b0 o a5 Z
 have g2:(rS 3 RP.int).rel bs [f 16] b1:=(a5 4 16 U U)
 refine aW U underlying23 U (ai g2) (ax ⟨U,_,_,U,Le.refl _,fun _ _=>rfl,Z⟩)
 refine aa (fun f w_ _ _ s _ _ Z=>fA 1 cM ((s 1 U).trans J) U (nO U U Z)) (aa (fun f w_ _ _ _ _ p Z=>bw 0 Z isAgg23 (p 6 18 U U) U U (nO U U Z)) (aa (fun f w_ _ _ _ o p Z=>aW U underlying23 (p 7 19 U U) (ai (RP.mono _ h0_1 (Le.trans l7 o))) (nO U U Z)) (aQ)))
 refine gS U (ds 5 17 U U) (ds 8 20 U U) (nn (al (b:=((b1.length:Int) != (r_.vars.length:Int))) U (fun c3=>?_) (fun c3=>?_)))
 have a0:=(az c3).symm.trans a0
 refine sq (aB U (nn (aA (aN (v1:=Bo false) results150 U ?_))))
 obtain rfl:=so a0
 obtain rfl:=so bd
 obtain rfl:=so hF
 exact ⟨U,(ab.down (ab.aG 0 Z) (Le.trans l7 o) c0)⟩
 have a0:=(ay c3).symm.trans a0
 refine aq (sq (aI U (nn ?_)))
 obtain ⟨dj,c4,a0⟩:=bind_some a0
 obtain ⟨g4,a4,a0⟩:=bind_some a0
 obtain ⟨hj,ec⟩:=ca fun f w_=>g4=.nx ()∧f 1=Pt g3∧f 3=I a1∧ab bs w_ ([box g3 79 #[I r_.kind,v0_1,v0_2,I r_.bound,v0_4]])
 refine av hj ?_ ?_
 refine ak ?_
 obtain ⟨g5,c5⟩:=ff fun n f w_=>∃ an:Nat,∃ ag:Nat,ag=n∧0≤an∧an+ag=0+dj∧cI (pa b1) ag an ()=some g4∧f 1=Pt g3∧f 3=I a1∧f 4=I an∧ab bs w_ ([box g3 79 #[I r_.kind,v0_1,v0_2,I r_.bound,v0_4]])
 refine a8 g5 (n:=dj) ?_ ?_
 exact ij c5 ⟨0,dj,U,Nat.le_refl _,U,a4,((b0 1 U).trans J),((b0 3 U).trans R),U,Z⟩
 intro hv f w_ hI
 obtain ⟨an,ag,rfl,g6,ee,a4,J,R,b3,Z⟩:=ik c5 hI
 refine ao (sq (mF b3 U (fA 4 ez J U (bw 0 Z isAgg77 U U U (mF R U (bP (r:=(rS 3 RP.int)) U underlying77 sizeOf23 U (RP.mono _ h0_4 (Le.trans l7 o)) U cp (fun hx hy hc b4 e1=>?_)))))))
 obtain ⟨hz,rfl,g7⟩:=kP b4
 refine bt U isAgg23 U (At.cell (dn.at e1 Z.sub) (j:=0) U) (aW U underlying23 U (ai g7) (bh U U U (nn (al (b:=decide ((an:Int)<(b1.length:Int))) U (fun c6=>?_) (fun c6=>?_)))))
 have e2:=of_decide_eq_true c6
 rcases ag with _ | c1
 exact absurd e2 (lA ee c4)
 obtain ⟨hA,af,a4⟩:=eA a4
 rw [pa] at af
 refine aq (ao (ak (ao ?_)))
 obtain ⟨a6,ej,af⟩:=bind_some af
 obtain ⟨hk,c7⟩:=ca fun f w_=>f 1=Pt g3∧f 3=I a1∧f 4=I an∧f 51=Bo ((decide (a6<0)) || (decide (a6 > 3)))∧ab bs w_ ([box g3 79 #[I r_.kind,v0_1,v0_2,I r_.bound,v0_4]])
 refine av hk ?_ ?_
 refine ae (fA 4 ez J U (bw 0 Z isAgg77 U U U (mF R U (bP (r:=(rS 3 RP.int)) U underlying77 sizeOf23 U (RP.mono _ h0_4 (Le.trans l7 o)) U cp (fun hB hC hf b5 e3=>?_)))))
 obtain ⟨hD,rfl,g8⟩:=kP b5
 refine bt U isAgg23 U (At.cell (dn.at e3 Z.sub) (j:=0) U) (mF b3 U (bP (r:=RP.int) U underlying23 sizeOf3 U g8 U ej (fun hE hG hg b8 e4=>?_)))
 obtain rfl:_=[_]:=b8
 refine bt U isAgg3 U (At.cell (dn.at e4 Z.sub) (j:=0) U) (bh U U U (mB U (aD (d:=41) (b:=decide (a6<0)) U (fun c8=>?_) (fun c8=>?_))))
 refine ps U (ps U (ps U (ps U (ps U (ps U (ps U (ps U (ps U (aC (v:=Bo ((decide (a6<0)) || (decide (a6 > 3)))) U U (fK c8) (nn (rj c7 ⟨J,R,b3,U,Z⟩)))))))))))
 refine fA 4 ez J U (bw 0 Z isAgg77 U U U (mF R U (bP (r:=(rS 3 RP.int)) U underlying77 sizeOf23 U (RP.mono _ h0_4 (Le.trans l7 o)) U cp (fun hJ hK hh ch e5=>?_))))
 obtain ⟨hN,rfl,g9⟩:=kP ch
 refine bt U isAgg23 U (At.cell (dn.at e5 Z.sub) (j:=0) U) (mF b3 U (bP (r:=RP.int) U underlying23 sizeOf3 U g9 U ej (fun hP hQ hi cn fa=>?_)))
 obtain rfl:_=[_]:=cn
 refine bt U isAgg3 U (At.cell (dn.at fa Z.sub) (j:=0) U) (c9 U U U (aC (v:=Bo ((decide (a6<0)) || (decide (a6 > 3)))) U U (fb c8 U) (nn (rj c7 ⟨J,R,b3,U,Z⟩))))
 intro f w_ hR
 obtain ⟨J,R,b3,ha,Z⟩:=rk c7 hR
 refine al (b:=((decide (a6<0)) || (decide (a6 > 3)))) ha (fun dd=>?_) (fun dd=>?_)
 have af:=(az dd).symm.trans af
 refine sq (aB U (nn (aA (aN (v1:=Bo false) results150 U ?_))))
 obtain rfl:=so af
 obtain rfl:=so a4
 obtain rfl:=so a0
 obtain rfl:=so bd
 obtain rfl:=so hF
 exact ⟨U,(ab.down (ab.aG 0 Z) (Le.trans l7 o) c0)⟩
 have af:=(ay dd).symm.trans af
 refine aq (ae (mF b3 U (bf U U U (aI U (nn ?_)))))
 obtain rfl:=so af
 show ∃ m,m<_∧g5 m _ _
 refine ⟨c1,Nat.lt_succ_self _,?_⟩
 exact ij c5 ⟨an+1,c1,U,by omega,by omega,a4,J,R,((eI (aO (n:=0+dj) (by omega) (jg c4)))),Z⟩
 rcases ag with _ | _
 obtain rfl:=eo a4
 refine a9 (rj ec ⟨U,J,R,Z⟩)
 exact absurd (jZ g6 ee c4) (of_decide_eq_false c6)
 intro f w_ hR
 obtain ⟨rfl,J,R,Z⟩:=rk ec hR
 refine ae (mF R U (bf U U U (aI U (nn ?_))))
 obtain rfl:=so a0
 show ∃ m,m<_∧I8 m _ _
 refine ⟨c2.length,by simp,?_⟩
 exact ij en ⟨a1+1,c2,bs,U,aL fs,by simp at dg; omega,bd,(Le.trans l7 o),J,((eI (aO (n:=r_.rows.length) (by simp at dg; omega) ek))),Z⟩
 rcases a2 with _ | ⟨_,_⟩
 obtain rfl:=aT bd
 refine a9 (rj fo ⟨H6,U,l7,J,Z⟩)
 exact absurd (of_decide_eq_false et) (by simp at dg; omega)
 intro f w_ hR
 obtain ⟨H6,rfl,l7,J,Z⟩:=rk fo hR
 refine sq (fA 4 ez J U (bw 0 Z isAgg77 U U U (aW U underlying77 U (ai (RP.mono _ h0_4 l7)) (kE U U U (aB U (nn (aA (aN (v1:=Bo (decide ((r_.rows.length:Int)≤8))) results150 U ?_))))))))
 obtain rfl:=so hF
 exact ⟨U,(ab.down (ab.aG 0 Z) l7 c0)⟩
theorem zD {m:Model} {r_:Rule} {v0_0:Value} {v0_1:Value} {v1_1:Value} {v1_2:Value} {v1_4:Value} {H:FH} {w:World} (Z:ab H w []) (h0_0:(rS 3 RP.int).rel H [v0_0] m.sizes) (h0_1:(rS 79 (cY 3 23)).rel H [v0_1] m.rules) (h1_1:(rS 3 RP.int).rel H [v1_1] r_.vars) (h1_2:(rS 3 RP.int).rel H [v1_2] r_.coefs) (h1_4:(rS 23 (rS 3 RP.int)).rel H [v1_4] r_.rows) {r:Bool} (hF:od m r_=some r):C prog 106 #[.agg #[v0_0,v0_1],.agg #[I r_.kind,v1_1,v1_2,I r_.bound,v1_4]] w fun v w'=>v=Bo r∧ab H w' []:=by
 unfold od at hF
 refine aE func106 U ntmps106 U (sq (cr (v:=.agg #[v0_0,v0_1]) (cs:=#[v0_0,v0_1]) U U U Z (fun g5 w6 Z=>cr (v:=.agg #[I r_.kind,v1_1,v1_2,I r_.bound,v1_4]) (cs:=#[I r_.kind,v1_1,v1_2,I r_.bound,v1_4]) U U U Z (fun g7 w8 Z=>aB U (nq (ao ?_))))))
 obtain ⟨j,b5,hF⟩:=bind_some hF
 obtain ⟨cp,o⟩:=ca fun f w_=>f 3=Pt g7∧f 36=Bo (((!j) || ((r_.kind != 1) && (((r_.coefs.length:Int) != 0) || (r_.bound != 0)))) || ((r_.kind != 3) && ((r_.rows.length:Int) != 0)))∧ab H w_ ([box g7 79 #[I r_.kind,v1_1,v1_2,I r_.bound,v1_4]])
 refine av cp ?_ ?_
 refine ae (a7 (cs:=[v0_0,v0_1]) U isAgg26 sizeOf26 U (At.bK (de.at (ab.aM 1 Z U)) 0 2) U (fA 1 cM U U (bw 0 Z isAgg23 U U U ?_)))
 obtain ⟨dd,b2,c1,ds,c2⟩:=Z.borrow
 refine ar U call148 (cu U U) (zI (m:=m) (list:=r_.vars) c1 (RP.mono _ h0_0 b2) (RP.mono _ h0_1 b2) (RP.mono _ h1_1 b2) b5) ?_
 rintro _ ec ⟨rfl,Z⟩
 have Z:=c2 Z c0
 refine bL U U (mB U (aD (d:=10) (b:=(!j)) U (fun J=>?_) (fun J=>?_)))
 refine ps U (ps U (ps U (ps U (ps U (ps U (ps U (ps U (ps U (ps U (ps U (ps U (ps U (ps U (aC (v:=Bo ((!j) || ((r_.kind != 1) && (((r_.coefs.length:Int) != 0) || (r_.bound != 0))))) U U (fK J) (mB U (aD (d:=26) (b:=((!j) || ((r_.kind != 1) && (((r_.coefs.length:Int) != 0) || (r_.bound != 0))))) U (fun a0=>?_) (fun a0=>?_)))))))))))))))))
 refine ps U (ps U (ps U (ps U (ps U (ps U (ps U (ps U (ps U (aC (v:=Bo (((!j) || ((r_.kind != 1) && (((r_.coefs.length:Int) != 0) || (r_.bound != 0)))) || ((r_.kind != 3) && ((r_.rows.length:Int) != 0)))) U U (fK a0) (nn (rj o ⟨U,U,(ab.aG 1 Z)⟩)))))))))))
 exact gj (Bv J) a0
 refine fA 0 gB U U (bw 0 Z isAgg3 U U U (gS U U U (mB U (aD (d:=14) (b:=(r_.kind != 1)) U (fun R=>?_) (fun R=>?_)))))
 refine fA 2 hO U U (bw 0 Z isAgg23 U U U (aW U underlying23 U (ai h1_2) (gS U U U (mB U (aD (d:=19) (b:=((r_.coefs.length:Int) != 0)) U (fun a1=>?_) (fun a1=>?_))))))
 refine ps U (ps U (ps U (aC (v:=Bo (((r_.coefs.length:Int) != 0) || (r_.bound != 0))) U U (fK a1) (aC (v:=Bo ((r_.kind != 1) && (((r_.coefs.length:Int) != 0) || (r_.bound != 0)))) U U (gw R U) (aC (v:=Bo ((!j) || ((r_.kind != 1) && (((r_.coefs.length:Int) != 0) || (r_.bound != 0))))) U U (fb J U) (mB U (aD (d:=26) (b:=((!j) || ((r_.kind != 1) && (((r_.coefs.length:Int) != 0) || (r_.bound != 0))))) U (fun af=>?_) (fun af=>?_))))))))
 refine ps U (ps U (ps U (ps U (ps U (ps U (ps U (ps U (ps U (aC (v:=Bo (((!j) || ((r_.kind != 1) && (((r_.coefs.length:Int) != 0) || (r_.bound != 0)))) || ((r_.kind != 3) && ((r_.rows.length:Int) != 0)))) U U (fK af) (nn (rj o ⟨U,U,(ab.aG 1 Z)⟩)))))))))))
 refine fA 0 gB U U (bw 0 Z isAgg3 U U U (gS U U U (mB U (aD (d:=30) (b:=(r_.kind != 3)) U (fun a2=>?_) (fun a2=>?_)))))
 refine fA 4 ez U U (bw 0 Z isAgg77 U U U (aW U underlying77 U (ai h1_4) (gS U U U (aC (v:=Bo ((r_.kind != 3) && ((r_.rows.length:Int) != 0))) U U (gw a2 U) (aC (v:=Bo (((!j) || ((r_.kind != 1) && (((r_.coefs.length:Int) != 0) || (r_.bound != 0)))) || ((r_.kind != 3) && ((r_.rows.length:Int) != 0)))) U U (fb af U) (nn (rj o ⟨U,U,(ab.aG 1 Z)⟩)))))))
 refine ps U (ps U (ps U (ps U (aC (v:=Bo ((r_.kind != 3) && ((r_.rows.length:Int) != 0))) U U (jc a2) (aC (v:=Bo (((!j) || ((r_.kind != 1) && (((r_.coefs.length:Int) != 0) || (r_.bound != 0)))) || ((r_.kind != 3) && ((r_.rows.length:Int) != 0)))) U U (fb af U) (nn (rj o ⟨U,U,(ab.aG 1 Z)⟩)))))))
 refine fA 3 km U U (bw 0 Z isAgg3 U U U (gS U U U (aC (v:=Bo (((r_.coefs.length:Int) != 0) || (r_.bound != 0))) U U (fb a1 U) (aC (v:=Bo ((r_.kind != 1) && (((r_.coefs.length:Int) != 0) || (r_.bound != 0)))) U U (gw R U) (aC (v:=Bo ((!j) || ((r_.kind != 1) && (((r_.coefs.length:Int) != 0) || (r_.bound != 0))))) U U (fb J U) (mB U (aD (d:=26) (b:=((!j) || ((r_.kind != 1) && (((r_.coefs.length:Int) != 0) || (r_.bound != 0))))) U (fun ag=>?_) (fun ag=>?_))))))))
 refine ps U (ps U (ps U (ps U (ps U (ps U (ps U (ps U (ps U (aC (v:=Bo (((!j) || ((r_.kind != 1) && (((r_.coefs.length:Int) != 0) || (r_.bound != 0)))) || ((r_.kind != 3) && ((r_.rows.length:Int) != 0)))) U U (fK ag) (nn (rj o ⟨U,U,(ab.aG 1 Z)⟩)))))))))))
 refine fA 0 gB U U (bw 0 Z isAgg3 U U U (gS U U U (mB U (aD (d:=30) (b:=(r_.kind != 3)) U (fun a3=>?_) (fun a3=>?_)))))
 refine fA 4 ez U U (bw 0 Z isAgg77 U U U (aW U underlying77 U (ai h1_4) (gS U U U (aC (v:=Bo ((r_.kind != 3) && ((r_.rows.length:Int) != 0))) U U (gw a3 U) (aC (v:=Bo (((!j) || ((r_.kind != 1) && (((r_.coefs.length:Int) != 0) || (r_.bound != 0)))) || ((r_.kind != 3) && ((r_.rows.length:Int) != 0)))) U U (fb ag U) (nn (rj o ⟨U,U,(ab.aG 1 Z)⟩)))))))
 refine ps U (ps U (ps U (ps U (aC (v:=Bo ((r_.kind != 3) && ((r_.rows.length:Int) != 0))) U U (jc a3) (aC (v:=Bo (((!j) || ((r_.kind != 1) && (((r_.coefs.length:Int) != 0) || (r_.bound != 0)))) || ((r_.kind != 3) && ((r_.rows.length:Int) != 0)))) U U (fb ag U) (nn (rj o ⟨U,U,(ab.aG 1 Z)⟩)))))))
 refine ps U (ps U (ps U (ps U (ps U (ps U (ps U (ps U (ps U (aC (v:=Bo ((r_.kind != 1) && (((r_.coefs.length:Int) != 0) || (r_.bound != 0)))) U U (jc R) (aC (v:=Bo ((!j) || ((r_.kind != 1) && (((r_.coefs.length:Int) != 0) || (r_.bound != 0))))) U U (fb J U) (mB U (aD (d:=26) (b:=((!j) || ((r_.kind != 1) && (((r_.coefs.length:Int) != 0) || (r_.bound != 0))))) U (fun an=>?_) (fun an=>?_)))))))))))))
 refine ps U (ps U (ps U (ps U (ps U (ps U (ps U (ps U (ps U (aC (v:=Bo (((!j) || ((r_.kind != 1) && (((r_.coefs.length:Int) != 0) || (r_.bound != 0)))) || ((r_.kind != 3) && ((r_.rows.length:Int) != 0)))) U U (fK an) (nn (rj o ⟨U,U,(ab.aG 1 Z)⟩)))))))))))
 refine fA 0 gB U U (bw 0 Z isAgg3 U U U (gS U U U (mB U (aD (d:=30) (b:=(r_.kind != 3)) U (fun a4=>?_) (fun a4=>?_)))))
 refine fA 4 ez U U (bw 0 Z isAgg77 U U U (aW U underlying77 U (ai h1_4) (gS U U U (aC (v:=Bo ((r_.kind != 3) && ((r_.rows.length:Int) != 0))) U U (gw a4 U) (aC (v:=Bo (((!j) || ((r_.kind != 1) && (((r_.coefs.length:Int) != 0) || (r_.bound != 0)))) || ((r_.kind != 3) && ((r_.rows.length:Int) != 0)))) U U (fb an U) (nn (rj o ⟨U,U,(ab.aG 1 Z)⟩)))))))
 refine ps U (ps U (ps U (ps U (aC (v:=Bo ((r_.kind != 3) && ((r_.rows.length:Int) != 0))) U U (jc a4) (aC (v:=Bo (((!j) || ((r_.kind != 1) && (((r_.coefs.length:Int) != 0) || (r_.bound != 0)))) || ((r_.kind != 3) && ((r_.rows.length:Int) != 0)))) U U (fb an U) (nn (rj o ⟨U,U,(ab.aG 1 Z)⟩)))))))
 intro f w_ hR
 obtain ⟨b1,b8,Z⟩:=rk o hR
 refine al (b:=(((!j) || ((r_.kind != 1) && (((r_.coefs.length:Int) != 0) || (r_.bound != 0)))) || ((r_.kind != 3) && ((r_.rows.length:Int) != 0)))) b8 (fun a5=>?_) (fun a5=>?_)
 have hF:=(az a5).symm.trans hF
 refine sq (aB U (nn (aA (aN (v1:=Bo false) results106 U ?_))))
 obtain rfl:=so hF
 exact ⟨U,(ab.aG 0 Z)⟩
 have hF:=(ay a5).symm.trans hF
 refine aq (ao (sq (fA 0 gB b1 U (bw 0 Z isAgg3 U U U (nn (ak (sq (bD U U U (aB U (nn (al (b:=(r_.kind == 1)) U (fun a6=>?_) (fun a6=>?_))))))))))))
 have hF:=(az a6).symm.trans hF
 refine ao ?_
 obtain ⟨c3,ch,hF⟩:=bind_some hF
 refine ae (a7 (cs:=[I r_.kind,v1_1,v1_2,I r_.bound,v1_4]) U isAgg79 sizeOf79 b1 (At.bK (de.at (ab.aM 0 Z U)) 0 5) U ?_)
 obtain ⟨dg,b3,c4,ee,c5⟩:=Z.borrow
 refine ar U call149 (b9 U) (xQ (r_:=r_) c4 (RP.mono _ h1_1 b3) (RP.mono _ h1_2 b3) (RP.mono _ h1_4 b3) ch) ?_
 rintro _ ej ⟨rfl,Z⟩
 have Z:=c5 Z c0
 refine aB U (nn (aA (aN (v1:=Bo c3) results106 U ?_)))
 obtain rfl:=so hF
 exact ⟨U,(ab.aG 0 Z)⟩
 have hF:=(ay a6).symm.trans hF
 refine sq (bD U U U (aB U (nn (al (b:=(r_.kind == 2)) U (fun bd=>?_) (fun bd=>?_)))))
 have hF:=(az bd).symm.trans hF
 refine sq (aB U (nn (aA (aN (v1:=Bo true) results106 U ?_))))
 obtain rfl:=so hF
 exact ⟨U,(ab.aG 0 Z)⟩
 have hF:=(ay bd).symm.trans hF
 refine sq (bD U U U (aB U (nn (al (b:=(r_.kind == 3)) U (fun bs=>?_) (fun bs=>?_)))))
 have hF:=(az bs).symm.trans hF
 refine ao ?_
 obtain ⟨c6,cn,hF⟩:=bind_some hF
 refine ae (a7 (cs:=[I r_.kind,v1_1,v1_2,I r_.bound,v1_4]) U isAgg79 sizeOf79 b1 (At.bK (de.at (ab.aM 0 Z U)) 0 5) U ?_)
 obtain ⟨dj,b4,c7,ek,c8⟩:=Z.borrow
 refine ar U call150 (b9 U) (yP (r_:=r_) c7 (RP.mono _ h1_1 b4) (RP.mono _ h1_2 b4) (RP.mono _ h1_4 b4) cn) ?_
 rintro _ en ⟨rfl,Z⟩
 have Z:=c8 Z c0
 refine aB U (nn (aA (aN (v1:=Bo c6) results106 U ?_)))
 obtain rfl:=so hF
 exact ⟨U,(ab.aG 0 Z)⟩
 have hF:=(ay bs).symm.trans hF
 refine sq (bD U U U (aB U (nn (al (b:=(r_.kind == 4)) U (fun b0=>?_) (fun b0=>?_)))))
 have hF:=(az b0).symm.trans hF
 refine sq (fA 1 cM b1 U (bw 0 Z isAgg23 U U U (aW U underlying23 U (ai h1_1) (bD U U U (aB U (nn (aA (aN (v1:=Bo ((r_.vars.length:Int) == 2)) results106 U ?_))))))))
 obtain rfl:=so hF
 exact ⟨U,(ab.aG 0 Z)⟩
 have hF:=(ay b0).symm.trans hF
 refine aq (sq (aB U (nn (aA (aN (v1:=Bo false) results106 U ?_)))))
 obtain rfl:=so hF
 exact ⟨U,(ab.aG 0 Z)⟩
theorem vr {fu:Nat} {m:Model} {v0_0:Value} {v0_1:Value} {H:FH} {w:World} (Z:ab H w []) (h0_0:(rS 3 RP.int).rel H [v0_0] m.sizes) (h0_1:(rS 79 (cY 3 23)).rel H [v0_1] m.rules) {r:Bool} (hF:ld fu m=some r):C prog 51 #[.agg #[v0_0,v0_1]] w fun v w'=>v=Bo r∧ab H w' []:=by
 unfold ld at hF
 refine aE func51 U ntmps51 U (sq (cr (v:=.agg #[v0_0,v0_1]) (cs:=#[v0_0,v0_1]) U U U Z (fun g3 w4 Z=>aB U (ns (aI U (nq (sq (aI U (nn ?_)))))))))
 obtain ⟨hi,a1,hF⟩:=bind_some hF
 obtain ⟨hC,fs⟩:=ca fun f w_=>∃ J:Int,∃ af:Int,hi=.nx (J,af)∧f 1=Pt g3∧f 3=I J∧ab H w_ ([box g3 26 #[v0_0,v0_1]])
 refine av hC ?_ ?_
 refine ak ?_
 obtain ⟨hj,c5⟩:=ff fun n f w_=>∃ J:Int,∃ af:Int,bx (gF m) n (J,af)=some hi∧f 1=Pt g3∧f 3=I J∧f 4=I af∧ab H w_ ([box g3 26 #[v0_0,v0_1]])
 refine a8 hj (n:=fu) ?_ ?_
 exact ij c5 ⟨0,0,a1,U,U,U,Z⟩
 intro g2 f w_ hI
 obtain ⟨J,af,a1,o,bd,a3,Z⟩:=ik c5 hI
 rcases g2 with _ | g2
 exact (cl a1).elim
 obtain ⟨h8,R,a1⟩:=cq a1
 rw [gF] at R
 refine ao (ao ?_)
 obtain ⟨hD,c6⟩:=ca fun f w_=>f 1=Pt g3∧f 3=I J∧f 4=I af∧f 14=Bo ((decide (af<(m.sizes.length:Int))) && (decide (af<5)))∧ab H w_ ([box g3 26 #[v0_0,v0_1]])
 refine av hD ?_ ?_
 refine ae (mF a3 U (fA 0 bN o U (bw 0 Z isAgg23 U U U (aW U underlying23 U (ai h0_0) (bh U U U (mB U (aD (d:=11) (b:=decide (af<(m.sizes.length:Int))) U (fun c7=>?_) (fun c7=>?_))))))))
 refine mF a3 U (bh U U U (aC (v:=Bo ((decide (af<(m.sizes.length:Int))) && (decide (af<5)))) U U (gw c7 U) (nn (rj c6 ⟨o,bd,a3,U,Z⟩))))
 refine ps U (ps U (aC (v:=Bo ((decide (af<(m.sizes.length:Int))) && (decide (af<5)))) U U (jc c7) (nn (rj c6 ⟨o,bd,a3,U,Z⟩))))
 intro f w_ hR
 obtain ⟨o,bd,a3,hk,Z⟩:=rk c6 hR
 refine al (b:=((decide (af<(m.sizes.length:Int))) && (decide (af<5)))) hk (fun c8=>?_) (fun c8=>?_)
 have R:=(az c8).symm.trans R
 refine aq (ao (ak (ao (ao ?_))))
 obtain ⟨bs,dd,R⟩:=bind_some R
 obtain ⟨hE,dg⟩:=ca fun f w_=>f 1=Pt g3∧f 3=I J∧f 4=I af∧f 30=Bo ((decide (bs<0)) || (decide (bs > 3)))∧ab H w_ ([box g3 26 #[v0_0,v0_1]])
 refine av hE ?_ ?_
 refine ae (fA 0 bN o U (bw 0 Z isAgg23 U U U (mF a3 U (bP (r:=RP.int) U underlying23 sizeOf3 U h0_0 U dd (fun h9 ih ht b3 g4=>?_)))))
 obtain rfl:_=[_]:=b3
 refine bt U isAgg3 U (At.cell (dn.at g4 Z.sub) (j:=0) U) (bh U U U (mB U (aD (d:=23) (b:=decide (bs<0)) U (fun dj=>?_) (fun dj=>?_))))
 refine ps U (ps U (ps U (ps U (ps U (ps U (aC (v:=Bo ((decide (bs<0)) || (decide (bs > 3)))) U U (fK dj) (nn (rj dg ⟨o,bd,a3,U,Z⟩))))))))
 refine fA 0 bN o U (bw 0 Z isAgg23 U U U (mF a3 U (bP (r:=RP.int) U underlying23 sizeOf3 U h0_0 U dd (fun jn j1 hv b4 g5=>?_))))
 obtain rfl:_=[_]:=b4
 refine bt U isAgg3 U (At.cell (dn.at g5 Z.sub) (j:=0) U) (c9 U U U (aC (v:=Bo ((decide (bs<0)) || (decide (bs > 3)))) U U (fb dj U) (nn (rj dg ⟨o,bd,a3,U,Z⟩))))
 intro f w_ hR
 obtain ⟨o,bd,a3,hl,Z⟩:=rk dg hR
 refine al (b:=((decide (bs<0)) || (decide (bs > 3)))) hl (fun ds=>?_) (fun ds=>?_)
 have R:=(az ds).symm.trans R
 refine sq (aB U (nn (aA (aN (v1:=Bo false) results51 U ?_))))
 obtain rfl:=so R
 obtain rfl:=so a1
 obtain rfl:=so hF
 exact ⟨U,(ab.aG 0 Z)⟩
 have R:=(ay ds).symm.trans R
 refine aq (ae (mF bd U (fA 0 bN o U (bw 0 Z isAgg23 U U U (mF a3 U (bP (r:=RP.int) U underlying23 sizeOf3 U h0_0 U dd (fun j2 j3 hx b5 g6=>?_)))))))
 obtain rfl:_=[_]:=b5
 refine bt U isAgg3 U (At.cell (dn.at g6 Z.sub) (j:=0) U) (bf U U U (bf U U U (aI U (nn (ae (mF a3 U (bf U U U (aI U (nn ?_)))))))))
 obtain rfl:=so R
 show ∃ m,m<_∧hj m _ _
 refine ⟨g2,Nat.lt_succ_self _,?_⟩
 exact ij c5 ⟨i64 ((i64 (J+bs))+1),i64 (af+1),a1,o,U,U,Z⟩
 have R:=(ay c8).symm.trans R
 refine a9 ?_
 obtain rfl:=so R
 obtain rfl:=so a1
 exact rj fs ⟨J,af,U,o,bd,Z⟩
 intro f w_ hR
 obtain ⟨J,af,rfl,o,bd,Z⟩:=rk fs hR
 refine ao (ao ?_)
 obtain ⟨hG,b1⟩:=ca fun f w_=>f 1=Pt g3∧f 58=Bo ((((decide ((m.sizes.length:Int)<1)) || (decide ((m.sizes.length:Int) > 5))) || (decide (J > 12))) || (decide ((m.rules.length:Int) > 8)))∧ab H w_ ([box g3 26 #[v0_0,v0_1]])
 refine av hG ?_ ?_
 refine ae (fA 0 bN o U (bw 0 Z isAgg23 U U U (aW U underlying23 U (ai h0_0) (bh U U U (mB U (aD (d:=43) (b:=decide ((m.sizes.length:Int)<1)) U (fun ch=>?_) (fun ch=>?_)))))))
 refine ps U (ps U (ps U (ps U (aC (v:=Bo ((decide ((m.sizes.length:Int)<1)) || (decide ((m.sizes.length:Int) > 5)))) U U (fK ch) (mB U (aD (d:=49) (b:=((decide ((m.sizes.length:Int)<1)) || (decide ((m.sizes.length:Int) > 5)))) U (fun cn=>?_) (fun cn=>?_)))))))
 refine ps U (ps U (aC (v:=Bo (((decide ((m.sizes.length:Int)<1)) || (decide ((m.sizes.length:Int) > 5))) || (decide (J > 12)))) U U (fK cn) (mB U (aD (d:=53) (b:=(((decide ((m.sizes.length:Int)<1)) || (decide ((m.sizes.length:Int) > 5))) || (decide (J > 12)))) U (fun ec=>?_) (fun ec=>?_)))))
 refine ps U (ps U (ps U (ps U (aC (v:=Bo ((((decide ((m.sizes.length:Int)<1)) || (decide ((m.sizes.length:Int) > 5))) || (decide (J > 12))) || (decide ((m.rules.length:Int) > 8)))) U U (fK ec) (nn (rj b1 ⟨o,U,Z⟩))))))
 exact gj (Bv cn) ec
 exact gj (Bv ch) cn
 refine fA 0 bN o U (bw 0 Z isAgg23 U U U (aW U underlying23 U (ai h0_0) (c9 U U U (aC (v:=Bo ((decide ((m.sizes.length:Int)<1)) || (decide ((m.sizes.length:Int) > 5)))) U U (fb ch U) (mB U (aD (d:=49) (b:=((decide ((m.sizes.length:Int)<1)) || (decide ((m.sizes.length:Int) > 5)))) U (fun cp=>?_) (fun cp=>?_)))))))
 refine ps U (ps U (aC (v:=Bo (((decide ((m.sizes.length:Int)<1)) || (decide ((m.sizes.length:Int) > 5))) || (decide (J > 12)))) U U (fK cp) (mB U (aD (d:=53) (b:=(((decide ((m.sizes.length:Int)<1)) || (decide ((m.sizes.length:Int) > 5))) || (decide (J > 12)))) U (fun ee=>?_) (fun ee=>?_)))))
 refine ps U (ps U (ps U (ps U (aC (v:=Bo ((((decide ((m.sizes.length:Int)<1)) || (decide ((m.sizes.length:Int) > 5))) || (decide (J > 12))) || (decide ((m.rules.length:Int) > 8)))) U U (fK ee) (nn (rj b1 ⟨o,U,Z⟩))))))
 exact gj (Bv cp) ee
 refine mF bd U (c9 U U U (aC (v:=Bo (((decide ((m.sizes.length:Int)<1)) || (decide ((m.sizes.length:Int) > 5))) || (decide (J > 12)))) U U (fb cp U) (mB U (aD (d:=53) (b:=(((decide ((m.sizes.length:Int)<1)) || (decide ((m.sizes.length:Int) > 5))) || (decide (J > 12)))) U (fun ej=>?_) (fun ej=>?_)))))
 refine ps U (ps U (ps U (ps U (aC (v:=Bo ((((decide ((m.sizes.length:Int)<1)) || (decide ((m.sizes.length:Int) > 5))) || (decide (J > 12))) || (decide ((m.rules.length:Int) > 8)))) U U (fK ej) (nn (rj b1 ⟨o,U,Z⟩))))))
 refine fA 1 fB o U (bw 0 Z isAgg24 U U U (aW U underlying24 U (ai h0_1) (c9 U U U (aC (v:=Bo ((((decide ((m.sizes.length:Int)<1)) || (decide ((m.sizes.length:Int) > 5))) || (decide (J > 12))) || (decide ((m.rules.length:Int) > 8)))) U U (fb ej U) (nn (rj b1 ⟨o,U,Z⟩))))))
 intro f w_ hR
 obtain ⟨o,hn,Z⟩:=rk b1 hR
 refine al (b:=((((decide ((m.sizes.length:Int)<1)) || (decide ((m.sizes.length:Int) > 5))) || (decide (J > 12))) || (decide ((m.rules.length:Int) > 8)))) hn (fun ek=>?_) (fun ek=>?_)
 have hF:=(az ek).symm.trans hF
 refine sq (aB U (nn (aA (aN (v1:=Bo false) results51 U ?_))))
 obtain rfl:=so hF
 exact ⟨U,(ab.aG 0 Z)⟩
 have hF:=(ay ek).symm.trans hF
 refine aq (ao (sq (aI U (nn ?_))))
 have e1:List.length m.rules≤9223372036854775807:=bB (ai h0_1)
 obtain ⟨ho,a4,hF⟩:=bind_some hF
 obtain ⟨hJ,gd⟩:=ca fun f w_=>∃ b2,ho=.nx ()∧Le H b2∧ab b2 w_ ([])
 refine av hJ ?_ ?_
 refine ak ?_
 obtain ⟨hp,en⟩:=ff fun n f w_=>∃ a2:Nat,∃ ag:List Rule,∃ b2,n=ag.length∧List.drop a2 m.rules=ag∧a2+ag.length=m.rules.length∧aw (kp m) ag a2 ()=some ho∧Le H b2∧f 1=Pt g3∧f 5=I a2∧ab b2 w_ ([box g3 26 #[v0_0,v0_1]])
 refine a8 hp (n:=m.rules.length) ?_ ?_
 exact ij en ⟨0,m.rules,H,U,U,Nat.zero_add _,a4,(Le.refl _),o,U,Z⟩
 intro j4 f w_ hI
 obtain ⟨a2,ag,b2,rfl,g0,c1,a4,b0,o,g7,Z⟩:=ik en hI
 refine ao (sq (mF g7 U (fA 1 fB o U (bw 0 Z isAgg24 U U U (aW U underlying24 U (ai (RP.mono _ h0_1 b0)) (bh U U U (nn (al (b:=decide ((a2:Int)<(m.rules.length:Int))) U (fun et=>?_) (fun et=>?_)))))))))
 have g8:=of_decide_eq_true et
 rcases ag with _ | ⟨an,c2⟩
 exact absurd g8 (by simp at c1; omega)
 obtain ⟨j5,a0,a4⟩:=aJ a4
 rw [kp] at a0
 have g9:=aY g0
 refine aq (ao (ak (ao ?_)))
 obtain ⟨hK,hq,a0⟩:=bind_some a0
 refine bT 6 [aZ (.agg #[v0_0,v0_1]),aZ (Pq g3 1),aZ (v0_1),aZ (I a2),gC (cY 3 23) an 0,tf (eJ (rS 3 RP.int) an.vars) fun hN=>tf (eJ (rS 3 RP.int) an.coefs) fun hP=>tf (eJ (rS 23 (rS 3 RP.int)) an.rows) fun hQ=>aZ (.agg #[I an.kind,hN,hP,I an.bound,hQ])] [box g3 26 #[v0_0,v0_1]] [] ([]) [([],[]),([],[]),([],[]),([],[]),([],[]),([],[])] (S:=[]) aP (by kernel_rfl) U (by kernel_rfl) (ad (ah _) (ad (ah _) (ad (ah _) (ad (ah _) (ad (bU _ _ _) (ad (dk (cA _ _) fun _=>dk (cA _ _) fun _=>dk (cA _ _) fun _=>ah _) bV)))))) Z ?_ (fun f w_ ha c3 a5 g1 Z=>?_)
 refine aa (fun f w_ _ _ s _ _ Z=>a7 (cs:=[v0_0,v0_1]) U isAgg26 sizeOf26 ((s 1 U).trans o) (At.bK (de.at (ab.aM 0 Z U)) 0 2) U (nO U U Z)) (aa (fun f w_ _ _ s _ _ Z=>fA 1 fB ((s 1 U).trans o) U (nO U U Z)) (aa (fun f w_ _ _ _ _ p Z=>bw 0 Z isAgg24 (p 1 67 U U) U U (nO U U Z)) (aa (fun f w_ _ _ s _ _ Z=>mF ((s 5 U).trans g7) U (nO U U Z)) (aa ?_ ?_))))
 intro f w_ ha hS c3 a5 c4 Z
 refine bP (r:=(cY 3 23)) U underlying24 sizeOf79 (c4 2 68 U U) (RP.mono _ h0_1 (Le.trans b0 a5)) (c4 3 69 U U) g9 (fun j6 j7 hy a6 hb=>?_)
 obtain ⟨hV,hW,h0,rfl,hz,hA,hB⟩:=iL.1 a6
 exact ax ⟨U,_,_,U,Le.refl _,fun _ _=>⟨_,_,_,U,a6,hb⟩,Z⟩
 refine aa ?_ ?_
 intro f w_ ha hS c3 a5 c4 Z
 obtain ⟨j8,kk,h6,hr,b8,hc⟩:=(c4 4 70 U U)
 obtain ⟨hf,hg,hh,rfl,e2,e3,e4⟩:=iL.1 b8
 refine a7 (cs:=[I an.kind,hf,hg,I an.bound,hh]) U isAgg79 sizeOf79 hr (At.sub (dn.at hc Z.sub) 0 5) U (ax ⟨U,_,_,U,Le.refl _,fun _ _=>⟨_,e2,_,e3,_,e4,U⟩,Z⟩)
 exact aQ
 obtain ⟨h1,e5,h2,fa,h3,fo,hs⟩:=(g1 5 71 U U)
 obtain ⟨h7,eu,h4,ks,h5⟩:=Z.borrow
 refine ar U call106 (cu (g1 0 66 U U) hs) (zD (m:=m) (r_:=an) h4 (RP.mono _ h0_0 (Le.trans (Le.trans b0 a5) eu)) (RP.mono _ h0_1 (Le.trans (Le.trans b0 a5) eu)) (RP.mono _ e5 eu) (RP.mono _ fa eu) (RP.mono _ fo eu) hq) ?_
 rintro _ ky ⟨rfl,Z⟩
 have Z:=h5 Z c0
 refine bL U U (nn (al (b:=(!hK)) U (fun e0=>?_) (fun e0=>?_)))
 have a0:=(az e0).symm.trans a0
 refine sq (aB U (nn (aA (aN (v1:=Bo false) results51 U ?_))))
 obtain rfl:=so a0
 obtain rfl:=so a4
 obtain rfl:=so hF
 exact ⟨U,(ab.down (ab.aG 0 Z) (Le.trans b0 a5) c0)⟩
 have a0:=(ay e0).symm.trans a0
 refine aq (ae (mF ((c3 5 U).trans g7) U (bf U U U (aI U (nn ?_)))))
 obtain rfl:=so a0
 show ∃ m,m<_∧hp m _ _
 refine ⟨c2.length,by simp,?_⟩
 exact ij en ⟨a2+1,c2,ha,U,aL g0,by simp at c1; omega,a4,(Le.trans b0 a5),((c3 1 U).trans o),((eI (aO (n:=m.rules.length) (by simp at c1; omega) e1))),Z⟩
 rcases ag with _ | ⟨_,_⟩
 obtain rfl:=aT a4
 refine a9 (rj gd ⟨b2,U,b0,(ab.aG 0 Z)⟩)
 exact absurd (of_decide_eq_false et) (by simp at c1; omega)
 intro f w_ hR
 obtain ⟨b2,rfl,b0,Z⟩:=rk gd hR
 refine sq (aB U (nn (aA (aN (v1:=Bo true) results51 U ?_))))
 obtain rfl:=so hF
 exact ⟨U,(ab.down Z b0 c0)⟩
theorem qB {m:Model} {cell:Int} {value:Int} {v0_0:Value} {v0_1:Value} {H:FH} {w:World} (Z:ab H w []) (h0_0:(rS 3 RP.int).rel H [v0_0] m.sizes) (h0_1:(rS 79 (cY 3 23)).rel H [v0_1] m.rules) {r:Int} (hF:lC m cell value=some r):C prog 70 #[.agg #[v0_0,v0_1],I cell,I value] w fun v w'=>v=I r∧ab H w' []:=by
 unfold lC at hF
 refine aE func70 U ntmps70 U (sq (cr (v:=.agg #[v0_0,v0_1]) (cs:=#[v0_0,v0_1]) U U U Z (fun g3 w4 Z=>aI U (ns (mI U (bf U U U (aI U (nq (sq (aI U (nn ?_)))))))))))
 obtain ⟨k8,a2,hF⟩:=bind_some hF
 obtain ⟨j7,ag,hF⟩:=bind_some hF
 obtain ⟨R7,bd⟩:=ca fun f w_=>∃ o:Int,j7=.nx o∧f 7=I o∧ab H w_ ([])
 refine av R7 ?_ ?_
 refine ak ?_
 obtain ⟨I7,a3⟩:=ff fun n f w_=>∃ R:Nat,∃ J:Nat,∃ o:Int,J=n∧0≤R∧R+J=0+k8∧cI (pf m) J R o=some j7∧f 1=I cell∧f 3=Pt g3∧f 7=I o∧f 8=I R∧ab H w_ ([box g3 26 #[v0_0,v0_1]])
 refine a8 I7 (n:=k8) ?_ ?_
 exact ij a3 ⟨0,k8,i64 (1+value),U,Nat.le_refl _,U,ag,U,U,U,U,Z⟩
 intro n7 f w_ hI
 obtain ⟨R,J,o,rfl,b5,bs,ag,b0,b1,a0,a4,Z⟩:=ik a3 hI
 refine ao (sq (mF a4 U (mF b0 U (bh U U U (nn (al (b:=decide ((R:Int)<cell)) U (fun a5=>?_) (fun a5=>?_)))))))
 have b2:=of_decide_eq_true a5
 rcases J with _ | an
 exact absurd b2 (lA bs a2)
 obtain ⟨o7,a1,ag⟩:=eA ag
 rw [pf] at a1
 refine aq (ao (ak ?_))
 obtain ⟨b8,b3,a1⟩:=bind_some a1
 refine ae (mF a0 U (fA 0 bN b1 U (bw 0 Z isAgg23 U U U (mF a4 U (bP (r:=RP.int) U underlying23 sizeOf3 U h0_0 U b3 (fun ch cn b4 af a6=>?_))))))
 obtain rfl:_=[_]:=af
 refine bt U isAgg3 U (At.cell (dn.at a6 Z.sub) (j:=0) U) (bf U U U (bf U U U (aI U (nn (ae (mF a4 U (bf U U U (aI U (nn ?_)))))))))
 obtain rfl:=so a1
 show ∃ m,m<_∧I7 m _ _
 refine ⟨an,Nat.lt_succ_self _,?_⟩
 exact ij a3 ⟨R+1,an,i64 ((i64 (o+b8))+1),U,by omega,by omega,ag,b0,b1,U,((eI (aO (n:=0+k8) (by omega) (jg a2)))),Z⟩
 rcases J with _ | _
 obtain rfl:=eo ag
 refine a9 (rj bd ⟨o,U,a0,(ab.aG 0 Z)⟩)
 exact absurd (jZ b5 bs a2) (of_decide_eq_false a5)
 intro f w_ hR
 obtain ⟨o,rfl,a0,Z⟩:=rk bd hR
 refine sq (mF a0 U (aI U (nn (aA (aN (v1:=I o) results70 U ?_)))))
 obtain rfl:=so hF
 exact ⟨U,Z⟩
theorem mx {n_:Int} {H:FH} {w:World} (Z:ab H w []) {r:Bool} (hF:qQ n_=some r):C prog 151 #[I n_] w fun v w'=>v=Bo r∧ab H w' []:=by
 unfold qQ at hF
 refine aE func151 U ntmps151 U (sq (aB U (nq ?_)))
 obtain ⟨R1,j⟩:=ca fun f w_=>f 2=Bo (((n_ != 0) && (decide (n_ ≥ (-12)))) && (decide (n_≤12)))∧ab H w_ ([])
 refine av R1 ?_ ?_
 refine ae (mI U (gS U U U (mB U (aD (d:=5) (b:=(n_ != 0)) U (fun o=>?_) (fun o=>?_)))))
 refine mI U (hY U U U (aC (v:=Bo ((n_ != 0) && (decide (n_ ≥ (-12))))) U U (gw o U) (mB U (aD (d:=9) (b:=((n_ != 0) && (decide (n_ ≥ (-12))))) U (fun J=>?_) (fun J=>?_)))))
 refine mI U (kE U U U (aC (v:=Bo (((n_ != 0) && (decide (n_ ≥ (-12)))) && (decide (n_≤12)))) U U (gw J U) (aB U (nn (rj j ⟨U,Z⟩)))))
 refine ps U (ps U (aC (v:=Bo (((n_ != 0) && (decide (n_ ≥ (-12)))) && (decide (n_≤12)))) U U (jc J) (aB U (nn (rj j ⟨U,Z⟩)))))
 refine ps U (ps U (aC (v:=Bo ((n_ != 0) && (decide (n_ ≥ (-12))))) U U (jc o) (mB U (aD (d:=9) (b:=((n_ != 0) && (decide (n_ ≥ (-12))))) U (fun R=>?_) (fun R=>?_)))))
 exact gj R (Ah o)
 refine ps U (ps U (aC (v:=Bo (((n_ != 0) && (decide (n_ ≥ (-12)))) && (decide (n_≤12)))) U U (jc R) (aB U (nn (rj j ⟨U,Z⟩)))))
 intro f w_ hR
 obtain ⟨af,Z⟩:=rk j hR
 refine aA (aN (v1:=Bo (((n_ != 0) && (decide (n_ ≥ (-12)))) && (decide (n_≤12)))) results151 af ?_)
 obtain rfl:=so hF
 exact ⟨U,Z⟩
theorem sZ {n_:Int} {H:FH} {w:World} (Z:ab H w []) {r:Int} (hF:nr n_=some r):C prog 152 #[I n_] w fun v w'=>v=I r∧ab H w' []:=by
 unfold nr at hF
 refine aE func152 U ntmps152 U (sq (aI U (nq (sq (mI U (bh U U U (nn (al (b:=decide (n_<0)) U (fun j=>?_) (fun j=>?_)))))))))
 have hF:=(az j).symm.trans hF
 refine sq (mI U (kg U U (aI U (nn (aA (aN (v1:=I (i64 (-n_))) results152 U ?_))))))
 obtain rfl:=so hF
 exact ⟨U,Z⟩
 have hF:=(ay j).symm.trans hF
 refine aq (sq (mI U (aI U (nn (aA (aN (v1:=I n_) results152 U ?_))))))
 obtain rfl:=so hF
 exact ⟨U,Z⟩
theorem sg {lits:List Int} {v0:Value} {H:FH} {w:World} (Z:ab H w []) (h0:(rS 3 RP.int).rel H [v0] lits) {r:Con × Bool} (hF:jk lits=some r):C prog 107 #[v0] w fun v w'=>∃ (u1:Value),v=.tuple #[.agg #[u1,I r.1.bound],Bo r.2]∧ab H w' [oF 122 au u1 r.1.terms]:=by
 unfold jk at hF
 refine aE func107 U ntmps107 U (sq (dS (cs:=#[S0,I 0]) U zeroValue73 U Z (fun g3 w4 Z=>aB U (nq ?_))))
 obtain ⟨x5,h7,hF⟩:=bind_some hF
 refine ae (xk (R:=(OR.bu RP.int)) (z0:=0) (zc:=[I 0]) U eb (by kernel_rfl) (fun _ _=>⟨U,U⟩) U U h7 Z (fun v9 mg Z=>aV v9 U (nq (sq (mV v0 U (aW U underlying23 U (ai h0) (c9 U U U (nn (al (b:=decide ((lits.length:Int) > 40)) U (fun g0=>?_) (fun g0=>?_))))))))))
 have hF:=(az g0).symm.trans hF
 refine sq (da U (cC ) (eg  ) (bg (vs:=#[S0,I 0]) (cs2:=#[S0,I 0]) 1 U sizeOf73 U U U (aj U (aj U aK)) Z U (by show 0+2≤2; decide) U (fun m0 Z=>aB U (nn (aA (dc (v1:=.agg #[S0,I 0]) (v2:=Bo false) results107 (bC isAgg73 sizeOf73 U (ab.aM 0 Z U) U) U ?_))))))
 obtain rfl:=so hF
 have Z:=ab.bE (R:=(OR.bu au)) (e:=122) Z
 exact ⟨S0,U,(ab.aG 1 Z)⟩
 have hF:=(ay g0).symm.trans hF
 refine aq (ao (sq (aI U (nn ?_))))
 have g9:List.length lits≤9223372036854775807:=bB (ai h0)
 obtain ⟨hC,b5,hF⟩:=bind_some hF
 obtain ⟨h8,hh⟩:=ca fun f w_=>∃ af:List Int,∃ cn,hC=.nx af∧Le H cn∧f 2=Pt g3∧f 4=v9∧ab cn w_ ([oF 3 RP.int v9 af,box g3 73 #[S0,I 0]])
 refine av h8 ?_ ?_
 refine ak ?_
 obtain ⟨hD,g1⟩:=ff fun n f w_=>∃ b8:Nat,∃ bs:List Int,∃ af:List Int,∃ cn,n=bs.length∧List.drop b8 lits=bs∧b8+bs.length=lits.length∧aw ka bs b8 af=some hC∧Le H cn∧f 0=v0∧f 2=Pt g3∧f 4=v9∧f 5=I b8∧ab cn w_ ([oF 3 RP.int v9 af,box g3 73 #[S0,I 0]])
 refine a8 hD (n:=lits.length) ?_ ?_
 exact ij g1 ⟨0,lits,x5,H,U,U,Nat.zero_add _,b5,(Le.refl _),U,U,U,U,Z⟩
 intro m1 f w_ hI
 obtain ⟨b8,bs,af,cn,rfl,hi,e2,b5,cp,fu,a3,b2,gd,Z⟩:=ik g1 hI
 refine ao (sq (mF gd U (mF fu U (aW U underlying23 U (ai (RP.mono _ h0 cp)) (bh U U U (nn (al (b:=decide ((b8:Int)<(lits.length:Int))) U (fun g2=>?_) (fun g2=>?_))))))))
 have hn:=of_decide_eq_true g2
 rcases bs with _ | ⟨a6,e3⟩
 exact absurd hn (by simp at e2; omega)
 obtain ⟨m2,ag,b5⟩:=aJ b5
 rw [ka] at ag
 have c4:=aY hi
 refine aq (ao (ak (ao (ao ?_))))
 obtain ⟨h9,hE,ag⟩:=bind_some ag
 refine ae (mF fu U (mF gd U (bP (r:=RP.int) U underlying23 sizeOf3 U (RP.mono _ h0 cp) U c4 (fun n0 n1 h4 dg ho=>?_))))
 obtain rfl:_=[_]:=dg
 refine bt U isAgg3 U (At.cell (dn.at ho Z.sub) (j:=0) U) ?_
 obtain ⟨j6,n2,ih,n3,jn⟩:=Z.borrow
 refine ar U call151 (b9 U) (mx (n_:=a6) ih hE) ?_
 rintro _ n4 ⟨rfl,Z⟩
 have Z:=jn Z c0
 refine bL U U (nn (al (b:=(!h9)) U (fun g4=>?_) (fun g4=>?_)))
 have ag:=(az g4).symm.trans ag
 refine sq (da U (cC ) (eg  ) (bg (vs:=#[S0,I 0]) (cs2:=#[S0,I 0]) 1 U sizeOf73 a3 U U (aj U (aj U aK)) Z U (by show 0+2≤2; decide) U (fun n5 Z=>aB U (nn (aA (dc (v1:=.agg #[S0,I 0]) (v2:=Bo false) results107 (bC isAgg73 sizeOf73 a3 (ab.aM 0 Z U) U) U ?_))))))
 obtain rfl:=so ag
 obtain rfl:=so b5
 obtain rfl:=so hF
 have Z:=ab.bE (R:=(OR.bu au)) (e:=122) Z
 exact ⟨S0,U,(ab.down (ab.aG 1 Z) cp (co bI c0))⟩
 have ag:=(ay g4).symm.trans ag
 refine aq (ao ?_)
 obtain ⟨hp,hG,ag⟩:=bind_some ag
 refine ae (mF fu U (mF gd U (bP (r:=RP.int) U underlying23 sizeOf3 U (RP.mono _ h0 cp) U c4 (fun n6 n7 h5 dj hq=>?_))))
 obtain rfl:_=[_]:=dj
 refine bt U isAgg3 U (At.cell (dn.at hq Z.sub) (j:=0) U) ?_
 obtain ⟨j7,n8,j1,ob,j2⟩:=Z.borrow
 refine ar U call152 (b9 U) (sZ (n_:=a6) j1 hG) ?_
 rintro _ oh ⟨rfl,Z⟩
 have Z:=j2 Z c0
 refine aI U (nq (ao ?_))
 obtain ⟨hJ,c7,ag⟩:=bind_some ag
 obtain ⟨j3,hK,e4,_,_⟩:=ab.row 0 Z U c7
 refine bT 9 [aZ (v9),aZ (I hp),aZ (.pointer (some ⟨j3,Int.toNat hp * 1,none⟩)),aZ (I hJ),aZ (v0),aZ (I b8),gC RP.int a6 0,aZ (I a6),aZ (I (i64 (-a6)))] [oF 3 RP.int v9 af,box g3 73 #[S0,I 0]] [] ([]) [([],[]),([],[]),([],[]),([],[]),([],[]),([],[]),([],[]),([],[]),([],[])] (S:=[]) aP (by kernel_rfl) U (by kernel_rfl) (ad (ah _) (ad (ah _) (ad (ah _) (ad (ah _) (ad (ah _) (ad (ah _) (ad (bU _ _ _) (ad (ah _) (ad (ah _) bV))))))))) Z ?_ (fun f w_ ha a1 c1 hj Z=>?_)
 refine aa (fun f w_ _ _ s _ _ Z=>mF ((s 4 U).trans b2) U (nO U U Z)) (aa (fun f w_ _ _ s _ _ Z=>mF ((s 6 U).trans U) U (nO U U Z)) (aa (fun f w_ _ _ _ _ p Z=>bJ (R:=(OR.bu RP.int)) (tb:=0) 0 U underlying23 sizeOf3 (p 0 32 U U) e4 (by first | rfl | simp) (p 1 33 U U) c7 (nO U U Z)) (aa ?_ ?_)))
 intro f w_ ha hN a1 c1 c3 Z
 obtain ⟨j8,hP,hr⟩:=ab.fE 0 Z U e4 c7
 obtain rfl:_=[_]:=hP
 refine bt U isAgg3 (c3 2 34 U U) (At.cell hr (j:=0) U) (ax ⟨U,_,_,U,Le.refl _,fun _ _=>rfl,Z⟩)
 refine aa (fun f w_ _ _ s _ _ Z=>mF ((s 0 U).trans fu) U (nO U U Z)) (aa (fun f w_ _ _ s _ _ Z=>mF ((s 5 U).trans gd) U (nO U U Z)) (aa ?_ ?_))
 intro f w_ ha hN a1 c1 c3 Z
 refine bP (r:=RP.int) U underlying23 sizeOf3 (c3 4 36 U U) (RP.mono _ h0 (Le.trans cp c1)) (c3 5 37 U U) c4 (fun oj oq h6 ds hs=>?_)
 obtain rfl:_=[_]:=ds
 exact ax ⟨U,_,_,U,Le.refl _,fun _ _=>⟨_,_,_,U,U,hs⟩,Z⟩
 refine aa ?_ ?_
 intro f w_ ha hN a1 c1 c3 Z
 obtain ⟨o0,o1,kk,hQ,ec,ht⟩:=(c3 6 38 U U)
 obtain rfl:_=[_]:=ec
 refine bt U isAgg3 hQ (At.cell (dn.at ht Z.sub) (j:=0) U) (ax ⟨U,_,_,U,Le.refl _,fun _ _=>rfl,Z⟩)
 refine aa (fun f w_ _ _ _ _ p Z=>kg U (p 7 39 U U) (nO U U Z)) (aQ)
 refine bD U (hj 3 35 U U) (hj 8 40 U U) (nn (al (b:=(hJ == (i64 (-a6)))) U (fun g5=>?_) (fun g5=>?_)))
 have ag:=(az g5).symm.trans ag
 refine sq (da U (cC ) (eg  ) (bg (vs:=#[S0,I 0]) (cs2:=#[S0,I 0]) 1 U sizeOf73 ((a1 2 U).trans a3) U U (aj U (aj U aK)) Z U (by show 0+2≤2; decide) U (fun o2 Z=>aB U (nn (aA (dc (v1:=.agg #[S0,I 0]) (v2:=Bo false) results107 (bC isAgg73 sizeOf73 ((a1 2 U).trans a3) (ab.aM 0 Z U) U) U ?_))))))
 obtain rfl:=so ag
 obtain rfl:=so b5
 obtain rfl:=so hF
 have Z:=ab.bE (R:=(OR.bu au)) (e:=122) Z
 exact ⟨S0,U,(ab.down (ab.aG 1 Z) (Le.trans cp c1) (co bI c0))⟩
 have ag:=(ay g5).symm.trans ag
 refine aq (ae (mF ((a1 4 U).trans b2) U (mF ((a1 6 U).trans U) U (mF ((a1 0 U).trans fu) U (mF ((a1 5 U).trans gd) U (bP (r:=RP.int) U underlying23 sizeOf3 U (RP.mono _ h0 (Le.trans cp c1)) U c4 (fun ks ky hS c8 hb=>?_)))))))
 obtain rfl:_=[_]:=c8
 refine bt U isAgg3 U (At.cell (dn.at hb Z.sub) (j:=0) U) (bJ (R:=(OR.bu RP.int)) (tb:=0) 0 U underlying23 sizeOf3 U e4 (by first | rfl | simp) U c7 ?_)
 have Z:=ab.dr (r:=RP.int) (cs:=[I a6]) (x:=a6) Z U
 refine fj (u:=I a6) U sizeOf3 U U U e4 Z c7 (fun k0 Z=>?_)
 refine nn (ae (mF ((a1 5 U).trans gd) U (bf U U U (aI U (nn ?_)))))
 obtain rfl:=so ag
 show ∃ m,m<_∧hD m _ _
 refine ⟨e3.length,by simp,?_⟩
 exact ij g1 ⟨b8+1,e3,(af.set (Int.toNat hp) a6),ha,U,aL hi,by simp at e2; omega,b5,(Le.trans cp c1),((a1 0 U).trans fu),((a1 2 U).trans a3),((a1 4 U).trans b2),((eI (aO (n:=lits.length) (by simp at e2; omega) g9))),Z⟩
 rcases bs with _ | ⟨_,_⟩
 obtain rfl:=aT b5
 refine a9 (rj hh ⟨af,cn,U,cp,a3,b2,Z⟩)
 exact absurd (of_decide_eq_false g2) (by simp at e2; omega)
 intro f w_ hR
 obtain ⟨af,cn,rfl,cp,a3,b2,Z⟩:=rk hh hR
 refine sq (da U (bG U) (mL (I 1) U) (dS (cs:=#[S0,I 0]) U zeroValue73 U Z (fun b1 lo Z=>bg (vs:=#[S0,I 1]) (cs2:=#[S0,I 1]) 0 U sizeOf73 U U U (aj U (aj U aK)) Z U (by show 0+2≤2; decide) U (fun l0 Z=>nq (sq (aI U (nn ?_)))))))
 obtain ⟨e5,ee,hF⟩:=bind_some hF
 obtain ⟨hk,b3,hF⟩:=bind_some hF
 obtain ⟨hV,g6⟩:=ca fun f w_=>∃ J:List Term,∃ bd,∃ o,hk=.nx J∧Le cn bd∧f 2=Pt g3∧f 7=Pt b1∧ab bd w_ ([oF 122 au o J,box b1 73 #[o,I 1],box g3 73 #[S0,I 0]])
 refine av hV ?_ ?_
 refine ak ?_
 obtain ⟨hl,ej⟩:=ff fun n f w_=>∃ a0:Nat,∃ a5:Nat,∃ J:List Term,∃ bd,∃ o,a5=n∧1≤a0∧a0+a5=1+e5∧cI (jW af) a5 a0 J=some hk∧Le cn bd∧f 2=Pt g3∧f 4=v9∧f 7=Pt b1∧f 8=I a0∧ab bd w_ ([oF 3 RP.int v9 af,oF 122 au o J,box b1 73 #[o,I 1],box g3 73 #[S0,I 0]])
 have Z:=ab.bE (R:=(OR.bu au)) (e:=122) Z
 have Z:=Z.aU [3,2,2,3] U
 refine a8 hl (n:=e5) ?_ ?_
 exact ij ej ⟨1,e5,[],cn,S0,U,Nat.le_refl _,U,b3,(Le.refl _),a3,b2,U,U,Z⟩
 intro l1 f w_ hI
 obtain ⟨a0,a5,J,bd,o,rfl,hv,g7,b3,fa,a3,b2,c5,ek,Z⟩:=ik ej hI
 refine ao (sq (mF ek U (kE U U U (nn (al (b:=decide ((a0:Int)≤12)) U (fun en=>?_) (fun en=>?_))))))
 have hc:=of_decide_eq_true en
 rcases a5 with _ | dd
 exact absurd hc (rV g7 ee)
 obtain ⟨l2,b4,b3⟩:=eA b3
 rw [jW] at b4
 refine aq (ao (ak (ao ?_)))
 obtain ⟨a2,c2,b4⟩:=bind_some b4
 refine ae (mF b2 U (mF ek U ?_))
 obtain ⟨hW,hB,c6,_,_⟩:=ab.row 0 Z U c2
 refine bJ (R:=(OR.bu RP.int)) (tb:=0) 0 U underlying23 sizeOf3 U c6 (by first | rfl | simp) U c2 ?_
 obtain ⟨j4,hx,hf⟩:=ab.fE 0 Z U c6 c2
 obtain rfl:_=[_]:=hx
 refine bt U isAgg3 U (At.cell hf (j:=0) U) (gS U U U (nn ?_))
 obtain ⟨ch,a4,b4⟩:=bind_some b4
 obtain ⟨h1,et⟩:=ca fun f w_=>∃ fo,∃ an,Le bd fo∧f 2=Pt g3∧f 4=v9∧f 7=Pt b1∧f 8=I a0∧ab fo w_ ([oF 3 RP.int v9 af,oF 122 au an ch,box b1 73 #[an,I 1],box g3 73 #[S0,I 0]])
 refine av h1 ?_ ?_
 refine al (b:=(a2 != 0)) U (fun eu=>?_) (fun eu=>?_)
 have a4:=(az eu).symm.trans a4
 obtain ⟨l3,hy,a4⟩:=bind_some a4
 refine cv 8 [Pt b1,o,v9,I a0,Value.pointer (some ⟨hW,Int.toNat (a0:Int) * 1,none⟩),I a2,Value.agg #[I 1,I a2],none] [oF 3 RP.int v9 af,oF 122 au o J,box b1 73 #[o,I 1],box g3 73 #[S0,I 0]] [.made 7 67 (fun v_=>oF 122 au v_ ([({ coef:=1,lit:=a2 }:Term)])) none] ([]) [([],[]),([],[]),([],[]),([],[]),([],[]),([],[]),([],[]),([],[0])] (S:=[(some 7,[67],none)]) aP (by kernel_rfl) U (by kernel_rfl) Z ?_ (fun f w_ fs b0 e0 hz Z=>?_)
 refine aa (fun f w_ _ _ s _ _ Z=>fA 0 ck ((s 7 U).trans c5) U (nO U U Z)) (aa (fun f w_ _ _ _ _ p Z=>bw 2 Z isAgg71 (p 0 60 U U) U U (nO U U Z)) (aa (fun f w_ _ _ s _ _ Z=>mF ((s 4 U).trans b2) U (nO U U Z)) (aa (fun f w_ _ _ s _ _ Z=>mF ((s 8 U).trans ek) U (nO U U Z)) (aa (fun f w_ _ _ _ _ p Z=>bJ (R:=(OR.bu RP.int)) (tb:=0) 0 U underlying23 sizeOf3 (p 2 62 U U) c6 (by first | rfl | simp) (p 3 63 U U) c2 (nO U U Z)) (aa ?_ ?_)))))
 intro f w_ fs h2 b0 e0 e1 Z
 obtain ⟨j5,hA,hg⟩:=ab.fE 0 Z U c6 c2
 obtain rfl:_=[_]:=hA
 refine bt U isAgg3 (e1 4 64 U U) (At.cell hg (j:=0) U) (ax ⟨U,_,_,U,Le.refl _,fun _ _=>rfl,Z⟩)
 refine aa (fun f w_ _ _ _ _ p Z=>da U (iB U (p 5 65 U U)) (eF (I 1) (I a2) U U) (nO U U Z)) (aa ?_ ?_)
 intro f w_ fs h2 b0 e0 e1 Z
 refine cS U (bG (e1 6 66 U U)) (gh (I 1) (I a2) ) Z (fun l4 l5 Z=>?_)
 have Z:=ab.dr (r:=au) (cs:=[I 1,I a2]) (x:=({ coef:=1,lit:=a2 }:Term)) Z (bM.2 U)
 have Z:=ab.bS (R:=(OR.bu au)) [([I 1,I a2],({ coef:=1,lit:=a2 }:Term))] [({ coef:=1,lit:=a2 }:Term)] 1 Z U U U (by decide)
 have Z:=Z.aU [4,4,4,4] U
 exact ax ⟨U,_,_,U,Le.refl _,fun _ _=>trivial,Z⟩
 exact aQ
 have Z:ab fs w_ ([oF 3 RP.int v9 af,oF 122 au o J,box b1 73 #[o,I 1],box g3 73 #[S0,I 0],oF 122 au (f 67) ([({ coef:=1,lit:=a2 }:Term)])]):=Z
 have Z:=Z.aU [4,2] U
 refine cj (v:=o) (u:=(f 67)) U lN (hz 1 61 U U) U Z hy (fun g8 l7 Z=>fA 0 ck ((b0 7 U).trans c5) U (ei (v:=g8) (cs2:=#[g8,I 1]) 2 U sizeOf71 U U (aH (ab.len 0 Z U)) Z U U U (fun l8 Z=>nn ?_)))
 obtain rfl:=so a4
 have Z:=Z.aU [3,1,2,3] U
 exact rj et ⟨fs,g8,e0,((b0 2 U).trans a3),((b0 4 U).trans b2),((b0 7 U).trans c5),((b0 8 U).trans ek),Z⟩
 have a4:=(ay eu).symm.trans a4
 refine aq ?_
 obtain rfl:=so a4
 exact rj et ⟨bd,o,(Le.refl _),a3,b2,c5,ek,Z⟩
 intro f w_ hR
 obtain ⟨fo,an,h3,a3,b2,c5,ek,Z⟩:=rk et hR
 refine ae (mF ek U (bf U U U (aI U (nn ?_))))
 obtain rfl:=so b4
 show ∃ m,m<_∧hl m _ _
 refine ⟨dd,Nat.lt_succ_self _,?_⟩
 exact ij ej ⟨a0+1,dd,ch,fo,an,U,by omega,by omega,b3,(Le.trans fa h3),a3,b2,c5,((eI (aO (n:=1+e5) (by omega) (jg ee)))),Z⟩
 rcases a5 with _ | _
 obtain rfl:=eo b3
 refine a9 ?_
 have Z:=Z.aU [3,3,3] U
 exact rj g6 ⟨J,bd,o,U,fa,a3,c5,(ab.aG 3 Z)⟩
 exact absurd (qK hv g7 ee) (of_decide_eq_false en)
 intro f w_ hR
 obtain ⟨J,bd,o,rfl,fa,a3,c5,Z⟩:=rk g6 hR
 refine sq (a7 (cs:=[o,I 1]) U isAgg73 sizeOf73 c5 (At.bK (de.at (ab.aM 1 Z U)) 0 2) U (bg (vs:=#[o,I 1]) (cs2:=#[o,I 1]) 2 U sizeOf73 a3 U U (aj (aH (ab.len 0 Z U)) (aj U aK)) Z U (by show 0+2≤2; decide) U (fun l9 Z=>aB U (nn (aA (dc (v1:=.agg #[o,I 1]) (v2:=Bo true) results107 (bC isAgg73 sizeOf73 a3 (ab.aM 0 Z U) U) U ?_))))))
 obtain rfl:=so hF
 have Z:=Z.get 1 U
 exact ⟨o,U,(ab.down (ab.aG 1 Z) (Le.trans cp fa) (co bI c0))⟩
theorem vq {vars:List Int} {v0:Value} {H:FH} {w:World} (Z:ab H w []) (h0:(rS 3 RP.int).rel H [v0] vars) {r:Con} (hF:m4 vars=some r):C prog 108 #[v0] w fun v w'=>∃ (u1:Value),v=.agg #[u1,I r.bound]∧ab H w' [oF 122 au u1 r.terms]:=by
 unfold m4 at hF
 refine aE func108 U ntmps108 U (sq (dS (cs:=#[S0,I 0]) U zeroValue73 U Z (fun g3 w4 Z=>ns (mV v0 U (aW U underlying23 U (ai h0) (db U U U (da U (bG U) (mL (I (i64 ((vars.length:Int) - 1))) U) (dS (cs:=#[S0,I 0]) U zeroValue73 U Z (fun g8 w9 Z=>bg (vs:=#[S0,I (i64 ((vars.length:Int) - 1))]) (cs2:=#[S0,I (i64 ((vars.length:Int) - 1))]) 0 U sizeOf73 U U U (aj U (aj U aK)) Z U (by show 0+2≤2; decide) U (fun et Z=>nq (sq (aI U (nn ?_)))))))))))))
 have ch:List.length vars≤9223372036854775807:=bB (ai h0)
 obtain ⟨c8,a1,hF⟩:=bind_some hF
 obtain ⟨ej,cn⟩:=ca fun f w_=>∃ J:List Term,∃ a3,∃ o,c8=.nx J∧Le H a3∧f 2=Pt g3∧f 3=Pt g8∧ab a3 w_ ([oF 122 au o J,box g8 73 #[o,I (i64 ((vars.length:Int) - 1))],box g3 73 #[S0,I 0]])
 refine av ej ?_ ?_
 refine ak ?_
 obtain ⟨dd,b3⟩:=ff fun n f w_=>∃ an:Nat,∃ ag:List Int,∃ J:List Term,∃ a3,∃ o,n=ag.length∧List.drop an vars=ag∧an+ag.length=vars.length∧aw nu ag an J=some c8∧Le H a3∧f 0=v0∧f 2=Pt g3∧f 3=Pt g8∧f 4=I an∧ab a3 w_ ([oF 122 au o J,box g8 73 #[o,I (i64 ((vars.length:Int) - 1))],box g3 73 #[S0,I 0]])
 have Z:=ab.bE (R:=(OR.bu au)) (e:=122) Z
 refine a8 dd (n:=vars.length) ?_ ?_
 exact ij b3 ⟨0,vars,[],H,S0,U,U,Nat.zero_add _,a1,(Le.refl _),U,U,U,U,Z⟩
 intro eu f w_ hI
 obtain ⟨an,ag,J,a3,o,rfl,cp,bd,a1,b1,c1,b4,b2,c2,Z⟩:=ik b3 hI
 refine ao (sq (mF c2 U (mF c1 U (aW U underlying23 U (ai (RP.mono _ h0 b1)) (bh U U U (nn (al (b:=decide ((an:Int)<(vars.length:Int))) U (fun b5=>?_) (fun b5=>?_))))))))
 have c3:=of_decide_eq_true b5
 rcases ag with _ | ⟨af,bs⟩
 exact absurd c3 (by simp at bd; omega)
 obtain ⟨e0,b0,a1⟩:=aJ a1
 rw [nu] at b0
 have c4:=aY cp
 refine aq (ao (ak ?_))
 obtain ⟨ek,dg,b0⟩:=bind_some b0
 refine bT 9 [aZ (Pt g8),aZ (o),aZ (v0),aZ (I an),gC RP.int af 0,aZ (I af),aZ (I (i64 (-af))),aZ (.agg #[I 1,I (i64 (-af))]),gE] [oF 122 au o J,box g8 73 #[o,I (i64 ((vars.length:Int) - 1))],box g3 73 #[S0,I 0]] [.made 8 23 (fun v_=>oF 122 au v_ ([({ coef:=1,lit:=i64 (-af) }:Term)])) none] ([]) [([],[]),([],[]),([],[]),([],[]),([],[]),([],[]),([],[]),([],[]),([],[0])] (S:=[(some 8,[23],none)]) aP (by kernel_rfl) U (by kernel_rfl) (ad (ah _) (ad (ah _) (ad (ah _) (ad (ah _) (ad (bU _ _ _) (ad (ah _) (ad (ah _) (ad (ah _) (ad (bO) bV))))))))) Z ?_ (fun f w_ b8 a0 a4 dj Z=>?_)
 refine aa (fun f w_ _ _ s _ _ Z=>fA 0 ck ((s 3 U).trans b2) U (nO U U Z)) (aa (fun f w_ _ _ _ _ p Z=>bw 1 Z isAgg71 (p 0 15 U U) U U (nO U U Z)) (aa (fun f w_ _ _ s _ _ Z=>mF ((s 0 U).trans c1) U (nO U U Z)) (aa (fun f w_ _ _ s _ _ Z=>mF ((s 4 U).trans c2) U (nO U U Z)) (aa ?_ ?_))))
 intro f w_ b8 ds a0 a4 a2 Z
 refine bP (r:=RP.int) U underlying23 sizeOf3 (a2 2 17 U U) (RP.mono _ h0 (Le.trans b1 a4)) (a2 3 18 U U) c4 (fun e1 e2 ee a5 c5=>?_)
 obtain rfl:_=[_]:=a5
 exact ax ⟨U,_,_,U,Le.refl _,fun _ _=>⟨_,_,_,U,U,c5⟩,Z⟩
 refine aa ?_ ?_
 intro f w_ b8 ds a0 a4 a2 Z
 obtain ⟨e3,e4,en,ec,a6,c6⟩:=(a2 4 19 U U)
 obtain rfl:_=[_]:=a6
 refine bt U isAgg3 ec (At.cell (dn.at c6 Z.sub) (j:=0) U) (ax ⟨U,_,_,U,Le.refl _,fun _ _=>rfl,Z⟩)
 refine aa (fun f w_ _ _ _ _ p Z=>kg U (p 5 20 U U) (nO U U Z)) (aa (fun f w_ _ _ _ _ p Z=>da U (iB U (p 6 21 U U)) (eF (I 1) (I (i64 (-af))) U U) (nO U U Z)) (aa ?_ ?_))
 intro f w_ b8 ds a0 a4 a2 Z
 refine cS U (bG (a2 7 22 U U)) (gh (I 1) (I (i64 (-af))) ) Z (fun e5 fa Z=>?_)
 have Z:=ab.dr (r:=au) (cs:=[I 1,I (i64 (-af))]) (x:=({ coef:=1,lit:=i64 (-af) }:Term)) Z (bM.2 U)
 have Z:=ab.bS (R:=(OR.bu au)) [([I 1,I (i64 (-af))],({ coef:=1,lit:=i64 (-af) }:Term))] [({ coef:=1,lit:=i64 (-af) }:Term)] 1 Z U U U (by decide)
 have Z:=Z.aU [3,3,3] U
 exact ax ⟨U,_,_,U,Le.refl _,fun _ _=>trivial,Z⟩
 exact aQ
 have Z:ab b8 w_ ([oF 122 au o J,box g8 73 #[o,I (i64 ((vars.length:Int) - 1))],box g3 73 #[S0,I 0],oF 122 au (f 23) ([({ coef:=1,lit:=i64 (-af) }:Term)])]):=Z
 have Z:=Z.aU [3,1] U
 refine cj (v:=o) (u:=(f 23)) U lN (dj 1 16 U U) U Z dg (fun c7 fo Z=>fA 0 ck ((a0 3 U).trans b2) U (ei (v:=c7) (cs2:=#[c7,I (i64 ((vars.length:Int) - 1))]) 1 U sizeOf71 U U (aH (ab.len 0 Z U)) Z U U U (fun fs Z=>nn (ae (mF ((a0 4 U).trans c2) U (bf U U U (aI U (nn ?_))))))))
 obtain rfl:=so b0
 have Z:=Z.aU [2,1,2] U
 show ∃ m,m<_∧dd m _ _
 refine ⟨bs.length,by simp,?_⟩
 exact ij b3 ⟨an+1,bs,ek,b8,c7,U,aL cp,by simp at bd; omega,a1,(Le.trans b1 a4),((a0 0 U).trans c1),((a0 2 U).trans b4),((a0 3 U).trans b2),((eI (aO (n:=vars.length) (by simp at bd; omega) ch))),Z⟩
 rcases ag with _ | ⟨_,_⟩
 obtain rfl:=aT a1
 refine a9 (rj cn ⟨J,a3,o,U,b1,b4,b2,Z⟩)
 exact absurd (of_decide_eq_false b5) (by simp at bd; omega)
 intro f w_ hR
 obtain ⟨J,a3,o,rfl,b1,b4,b2,Z⟩:=rk cn hR
 refine sq (a7 (cs:=[o,I (i64 ((vars.length:Int) - 1))]) U isAgg73 sizeOf73 b2 (At.bK (de.at (ab.aM 1 Z U)) 0 2) U (bg (vs:=#[o,I (i64 ((vars.length:Int) - 1))]) (cs2:=#[o,I (i64 ((vars.length:Int) - 1))]) 2 U sizeOf73 b4 U U (aj (aH (ab.len 0 Z U)) (aj U aK)) Z U (by show 0+2≤2; decide) U (fun fu Z=>nn (aA (aN (v1:=.agg #[o,I (i64 ((vars.length:Int) - 1))]) results108 (bC isAgg73 sizeOf73 b4 (ab.aM 0 Z U) U) ?_)))))
 obtain rfl:=so hF
 have Z:=Z.get 1 U
 exact ⟨o,U,(ab.down (ab.aG 1 Z) b1 (co bI c0))⟩
end Go.Proofs.YtbjllamkfmejlaaGreat

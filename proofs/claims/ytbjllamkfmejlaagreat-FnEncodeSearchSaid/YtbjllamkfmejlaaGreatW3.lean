/- Part of a proof by program: W3. -/
import Derived.Test.YtbjllamkfmejlaaGreatD1
import Derived.Test.YtbjllamkfmejlaaGreatW2
namespace Go.Proofs.YtbjllamkfmejlaaGreat
open Go Go.E Go.L Go.RowKit
open Tryz hiding bits_Len
set_option linter.unusedVariables false
set_option linter.unusedSimpArgs false
set_option maxRecDepth 100000
theorem zC {m:Model} {cell:Int} {v0_0:Value} {v0_1:Value} {H:FH} {w:World} (Z:ab H w []) (h0_0:(rS 3 RP.int).rel H [v0_0] m.sizes) (h0_1:(rS 79 (cY 3 23)).rel H [v0_1] m.rules) {r:List Con} (hF:qu m cell=some r):C prog 52 #[.agg #[v0_0,v0_1],I cell] w fun v w'=>∃ (u1:Value),v=u1∧ab H w' [oS 73 (cP 122) u1 r]:=by
 unfold qu at hF
 refine aE func52 U ntmps52 U (sq (cr (v:=.agg #[v0_0,v0_1]) (cs:=#[v0_0,v0_1]) U U U Z (fun g3 w4 Z=>aV S0 U (ns (cS U cC (jd  ) Z (fun g8 w9 Z=>?_))))))
 have Z:=ab.bS (R:=(OR.bu RP.int)) [] [] 0 Z U U U (by decide)
 refine aV (Sl g8 0 0) U (nq (sq (aI U (nn ?_))))
 obtain ⟨fu,dd,hF⟩:=bind_some hF
 obtain ⟨b5,bs,hF⟩:=bind_some hF
 obtain ⟨dg,a2,hF⟩:=bind_some hF
 obtain ⟨gd,cn⟩:=ca fun f w_=>∃ J:List Int,∃ o,dg=.nx J∧f 5=o∧ab H w_ ([oF 3 RP.int o J])
 refine av gd ?_ ?_
 refine ak ?_
 obtain ⟨dj,b0⟩:=ff fun n f w_=>∃ a0:Nat,∃ an:Nat,∃ J:List Int,∃ o,an=n∧0≤a0∧a0+an=0+b5∧cI (lK m cell) an a0 J=some dg∧f 1=I cell∧f 2=Pt g3∧f 5=o∧f 6=I a0∧ab H w_ ([oF 3 RP.int o J,box g3 26 #[v0_0,v0_1]])
 refine a8 dj (n:=b5) ?_ ?_
 exact ij b0 ⟨0,b5,[],(Sl g8 0 0),U,Nat.le_refl _,U,a2,U,U,U,U,Z⟩
 intro hf f w_ hI
 obtain ⟨a0,an,J,o,rfl,ds,cp,a2,c3,c4,b1,c5,Z⟩:=ik b0 hI
 refine ao (sq (mF c5 U (fA 0 bN c4 U (bw 1 Z isAgg23 U U U (mF c3 U (bP (r:=RP.int) U underlying23 sizeOf3 U h0_0 U dd (fun hg hh fo a5 c6=>?_)))))))
 obtain rfl:_=[_]:=a5
 refine bt U isAgg3 U (At.cell (dn.at c6 Z.sub) (j:=0) U) (kE U U U (nn (al (b:=decide ((a0:Int)≤fu)) U (fun b2=>?_) (fun b2=>?_))))
 have c7:=of_decide_eq_true b2
 rcases an with _ | a6
 exact absurd c7 (rV cp bs)
 obtain ⟨hi,a3,a2⟩:=eA a2
 rw [lK] at a3
 refine aq (ao (ak ?_))
 obtain ⟨bd,ec,a3⟩:=bind_some a3
 obtain ⟨g0,ee,a3⟩:=bind_some a3
 refine ae (mF b1 U (a7 (cs:=[v0_0,v0_1]) U isAgg26 sizeOf26 c4 (At.bK (de.at (ab.aM 1 Z U)) 0 2) U (mF c3 U (mF c5 U ?_))))
 obtain ⟨ha,ej,g1,hj,g2⟩:=Z.borrow
 refine ar U call70 (k9 U U U) (qB (m:=m) (cell:=cell) (value:=(a0:Int)) g1 (RP.mono _ h0_0 ej) (RP.mono _ h0_1 ej) ec) ?_
 rintro _ hk ⟨rfl,Z⟩
 have Z:=g2 Z c0
 refine cS U (bG U) (dp (I bd) U) Z (fun g4 hl Z=>?_)
 have Z:=ab.dr (r:=RP.int) (cs:=[I bd]) (x:=bd) Z U
 have Z:=ab.bS (R:=(OR.bu RP.int)) [([I bd],bd)] [bd] 1 Z U U U (by decide)
 have Z:=Z.get 1 U
 refine cj (v:=o) (u:=(Sl g4 1 1)) U eb U U Z ee (fun ek hn Z=>aV ek U (nn (ae (mF c5 U (bf U U U (aI U (nn ?_)))))))
 obtain rfl:=so a3
 show ∃ m,m<_∧dj m _ _
 refine ⟨a6,Nat.lt_succ_self _,?_⟩
 exact ij b0 ⟨a0+1,a6,g0,ek,U,by omega,by omega,a2,c3,c4,U,((eI (aO (n:=0+b5) (by omega) (jg bs)))),Z⟩
 rcases an with _ | _
 obtain rfl:=eo a2
 refine a9 (rj cn ⟨J,o,U,b1,(ab.aG 1 Z)⟩)
 exact absurd (qK ds cp bs) (of_decide_eq_false b2)
 intro f w_ hR
 obtain ⟨J,o,rfl,b1,Z⟩:=rk cn hR
 refine ao ?_
 obtain ⟨ag,en,hF⟩:=bind_some hF
 refine ae (mF b1 U ?_)
 obtain ⟨et,ho,g5,g6,g7⟩:=Z.borrow
 have eu:(rS 3 RP.int).rel et [o] J:=cg 0 g6 U
 refine ar U call107 (b9 U) (sg (lits:=J) g5 eu en) ?_
 rintro _ hp ⟨af,rfl,Z⟩
 have Z:=g7 Z (co bI c0)
 refine mV (.tuple #[.agg #[af,I ag.1.bound],Bo ag.2]) U (dF (v:=.agg #[af,I ag.1.bound]) U U U (dF (v:=Bo ag.2) U U U (dS (cs:=#[S0,I 0]) U zeroValue73 U Z (fun b8 hq Z=>bg (vs:=#[af,I ag.1.bound]) (cs2:=#[af,I ag.1.bound]) 0 U sizeOf73 U U U (aj (aH (ab.len 1 Z U)) (aj U aK)) Z U (by show 0+2≤2; decide) U (fun hr Z=>aB U (nq ?_))))))
 obtain ⟨a1,e0,hF⟩:=bind_some hF
 refine bT 3 [aZ (.agg #[af,I ag.1.bound]),aZ (o),xW fun g9=>aZ (.agg #[g9,I a1.bound])] [box b8 73 #[af,I ag.1.bound],oF 122 au af ag.1.terms,oF 3 RP.int o J] [.made 2 33 (fun v_=>oF 122 au (dm v_ 0) a1.terms) none] ([]) [([],[]),([],[]),([],[0])] (S:=[(some 2,[33],none)]) aP (by kernel_rfl) U (by kernel_rfl) (ad (ah _) (ad (ah _) (ad (fh fun _=>ah _) bV))) Z ?_ (fun f w_ ch e1 c1 c2 Z=>?_)
 refine aa (fun f w_ _ _ s _ _ Z=>a7 (cs:=[af,I ag.1.bound]) U isAgg73 sizeOf73 ((s 7 U).trans U) (At.bK (de.at (ab.aM 0 Z U)) 0 2) U (nO U U Z)) (aa (fun f w_ _ _ s _ _ Z=>mF ((s 5 U).trans b1) U (nO U U Z)) (aa ?_ ?_))
 intro f w_ ch hs e1 c1 e2 Z
 obtain ⟨e3,ht,e4,e5,fa⟩:=Z.borrow
 have c8:(rS 3 RP.int).rel e3 [o] J:=cg 2 e5 U
 refine ar U call108 (b9 (e2 1 32 U U)) (vq (vars:=J) e4 c8 e0) ?_
 rintro _ hb ⟨fs,rfl,Z⟩
 have Z:=fa Z (co bI c0)
 have Z:=Z.aU [3,3,3] U
 exact ax ⟨U,_,_,U,Le.refl _,fun _ _=>⟨_,U⟩,Z⟩
 exact aQ
 have Z:ab ch w_ ([box b8 73 #[af,I ag.1.bound],oF 122 au af ag.1.terms,oF 3 RP.int o J,own (OR.bq 122 (OR.bu au)) [(dm (f 33) 0)] a1.terms]):=Z
 obtain ⟨a4,b3⟩:=(c2 2 33 U U)
 have hren:ab ch w_ ([box b8 73 #[af,I ag.1.bound],oF 122 au af ag.1.terms,oF 3 RP.int o J,own (OR.bq 122 (OR.bu au)) [(dm (f 33) 0)] a1.terms]):=Z
 rw [b3] at hren
 have Z:ab ch w_ ([box b8 73 #[af,I ag.1.bound],oF 122 au af ag.1.terms,oF 3 RP.int o J,oF 122 au a4 a1.terms]):=hren
 refine cS U (iB (c2 0 31 U U) b3) (tj (af) (I ag.1.bound) (a4) (I a1.bound) ) Z (fun b4 hc Z=>?_)
 have Z:=Z.get 4 U
 have Z:=gr (c:=a1) Z
 have Z:=Z.get 3 U
 have Z:=gr (c:=ag.1) Z
 have Z:=ab.bS (R:=(cP 122)) [([af,I ag.1.bound],ag.1),([a4,I a1.bound],a1)] [ag.1,a1] 2 Z U U U (by decide)
 refine aV (Sl b4 2 2) U (nn (aA (aN (v1:=(Sl b4 2 2)) results52 U ?_)))
 obtain rfl:=so hF
 exact ⟨(Sl b4 2 2),U,(ab.down (ab.aG 1 Z) c1 (co ed c0))⟩
theorem qS {c:Con} {v0_0:Value} {H:FH} {w:World} (Z:ab H w []) (h0_0:(rS 122 au).rel H [v0_0] c.terms) {r:Bool} (hF:gL c=some r):C prog 189 #[.agg #[v0_0,I c.bound]] w fun v w'=>v=Bo r∧ab H w' []:=by
 unfold gL at hF
 refine aE func189 U ntmps189 U (sq (cr (v:=.agg #[v0_0,I c.bound]) (cs:=#[v0_0,I c.bound]) U U U Z (fun g3 w4 Z=>aB U (nq (sq (aI U (nn ?_)))))))
 have en:List.length c.terms≤9223372036854775807:=bB (ai h0_0)
 obtain ⟨j8,c4,hF⟩:=bind_some hF
 obtain ⟨R8,e3⟩:=ca fun f w_=>∃ H6,j8=.nx ()∧Le H H6∧f 1=Pt g3∧ab H6 w_ ([box g3 73 #[v0_0,I c.bound]])
 refine av R8 ?_ ?_
 refine ak ?_
 obtain ⟨I8,et⟩:=ff fun n f w_=>∃ a4:Nat,∃ b4:List Term,∃ H6,n=b4.length∧List.drop a4 c.terms=b4∧a4+b4.length=c.terms.length∧aw (dx c) b4 a4 ()=some j8∧Le H H6∧f 1=Pt g3∧f 3=I a4∧ab H6 w_ ([box g3 73 #[v0_0,I c.bound]])
 refine a8 I8 (n:=c.terms.length) ?_ ?_
 exact ij et ⟨0,c.terms,H,U,U,Nat.zero_add _,c4,(Le.refl _),U,U,Z⟩
 intro n8 f w_ hI
 obtain ⟨a4,b4,H6,rfl,e4,ds,c4,l7,b0,b3,Z⟩:=ik et hI
 refine ao (sq (mF b3 U (fA 0 ck b0 U (bw 0 Z isAgg71 U U U (aW U underlying71 U (ai (RP.mono _ h0_0 l7)) (bh U U U (nn (al (b:=decide ((a4:Int)<(c.terms.length:Int))) U (fun eu=>?_) (fun eu=>?_)))))))))
 have e5:=of_decide_eq_true eu
 rcases b4 with _ | ⟨o,dg⟩
 exact absurd e5 (by simp at ds; omega)
 obtain ⟨o8,b5,c4⟩:=aJ c4
 rw [dx] at b5
 have fa:=aY e4
 refine aq (ao (ak (sq (fA 0 ck b0 U (bw 0 Z isAgg71 U U U (mF b3 U (bP (r:=au) U underlying71 sizeOf122 U (RP.mono _ h0_0 l7) U fa (fun h5 h6 hg c5 e0=>?_))))))))
 obtain rfl:=bM.1 c5
 refine a7 (cs:=[I o.coef,I o.lit]) U isAgg122 sizeOf122 U (At.sub (dn.at e0 Z.sub) 0 2) U (dS (cs:=#[I 0,I 0]) U zeroValue122 U Z (fun a5 h7 Z=>bg (vs:=#[I o.coef,I o.lit]) (cs2:=#[I o.coef,I o.lit]) 0 U sizeOf122 U U U (aj U (aj U aK)) Z U (by show 0+2≤2; decide) U (fun h8 Z=>nq ?_)))
 obtain ⟨J,c1,b5⟩:=bind_some b5
 obtain ⟨c6,bd,b5⟩:=bind_some b5
 obtain ⟨hh,b8⟩:=ca fun f w_=>∃ ec,Le H6 ec∧f 1=Pt g3∧f 3=I a4∧f 48=Bo c6∧ab ec w_ ([box g3 73 #[v0_0,I c.bound]])
 refine av hh ?_ ?_
 rcases Bool.eq_false_or_eq_true (!J) with ag | ag
 have ch:((!J) || (decide (o.coef<1)))=true:=Bv ag
 have cn:(((!J) || (decide (o.coef<1))) || (decide (o.coef > 1000)))=true:=Bv ch
 rw [az cn] at bd
 refine cv 28 [Pq a5 1,I o.lit,Bo J,Bo (!J),Bo (!J),undef,undef,undef,Bo ((!J) || (decide (o.coef<1))),Bo ((!J) || (decide (o.coef<1))),undef,undef,undef,Bo (((!J) || (decide (o.coef<1))) || (decide (o.coef > 1000))),Bo (((!J) || (decide (o.coef<1))) || (decide (o.coef > 1000))),undef,undef,undef,undef,undef,undef,undef,undef,undef,undef,undef,undef,undef] [box a5 122 #[I o.coef,I o.lit],box g3 73 #[v0_0,I c.bound]] [] ([]) [([],[]),([],[]),([],[]),([],[]),([],[]),([],[]),([],[]),([],[]),([],[]),([],[]),([],[]),([],[]),([],[]),([],[]),([],[]),([],[]),([],[]),([],[]),([],[]),([],[]),([],[]),([],[]),([],[]),([],[]),([],[]),([],[]),([],[]),([],[])] (S:=[]) aP (by kernel_rfl) U (by kernel_rfl) Z ?_ (fun f w_ a6 an a2 af Z=>?_)
 refine aa (fun f w_ _ _ s _ _ Z=>fA 1 eC ((s 4 U).trans U) U (nO U U Z)) (aa (fun f w_ _ _ _ _ p Z=>bw 0 Z isAgg3 (p 0 17 U U) U U (nO U U Z)) (aa ?_ ?_))
 intro f w_ a6 c2 an a2 a0 Z
 obtain ⟨hz,h9,hi,ih,hj⟩:=Z.borrow
 refine ar U call151 (b9 (a0 1 18 U U)) (mx (n_:=o.lit) hi c1) ?_
 rintro _ jn ⟨rfl,Z⟩
 have Z:=hj Z c0
 exact ax ⟨U,_,_,U,Le.refl _,fun _ _=>rfl,Z⟩
 refine aa (fun f w_ _ _ _ _ p Z=>bL U (p 2 19 U U) (nO U U Z)) (aa (fun f w_ _ _ _ _ p Z=>mF (p 3 20 U U) U (nO U U Z)) (oP (fun _ _ p=>gN (p 4 21 U U) ag U) (fun _=>rfl) (oP (fun _ _ p=>gN (p 4 21 U U) ag U) (fun _=>rfl) (oP (fun _ _ p=>gN (p 4 21 U U) ag U) (fun _=>rfl) (aa (fun f w_ _ _ _ _ p Z=>BU (v:=Bo ((!J) || (decide (o.coef<1)))) (p 4 21 U U) ag U (fK ag) (nO U U Z)) (aa (fun f w_ _ _ _ _ p Z=>mF (p 8 25 U U) U (nO U U Z)) (oP (fun _ _ p=>gN (p 9 26 U U) ch U) (fun _=>rfl) (oP (fun _ _ p=>gN (p 9 26 U U) ch U) (fun _=>rfl) (oP (fun _ _ p=>gN (p 9 26 U U) ch U) (fun _=>rfl) (aa (fun f w_ _ _ _ _ p Z=>BU (v:=Bo (((!J) || (decide (o.coef<1))) || (decide (o.coef > 1000)))) (p 9 26 U U) ch U (fK ch) (nO U U Z)) (aa (fun f w_ _ _ _ _ p Z=>mF (p 13 30 U U) U (nO U U Z)) (oP (fun _ _ p=>gN (p 14 31 U U) cn U) (fun _=>rfl) (oP (fun _ _ p=>gN (p 14 31 U U) cn U) (fun _=>rfl) (oP (fun _ _ p=>gN (p 14 31 U U) cn U) (fun _=>rfl) (oP (fun _ _ p=>cH U (p 17 34 U U) U) (fun _=>rfl) (oP (fun _ _ p=>cH U (p 17 34 U U) U) (fun _=>rfl) (oP (fun _ _ p=>cH U (p 17 34 U U) U) (fun _=>rfl) (oP (fun _ _ p=>cH U (p 17 34 U U) U) (fun _=>rfl) (oP (fun _ _ p=>cH U (p 17 34 U U) U) (fun _=>rfl) (oP (fun _ _ p=>cH U (p 17 34 U U) U) (fun _=>rfl) (oP (fun _ _ p=>cH U (p 17 34 U U) U) (fun _=>rfl) (oP (fun _ _ p=>cH U (p 17 34 U U) U) (fun _=>rfl) (oP (fun _ _ p=>cH U (p 17 34 U U) U) (fun _=>rfl) (oP (fun _ _ p=>cH U (p 17 34 U U) U) (fun _=>rfl) (aQ)))))))))))))))))))))))))
 refine ps (cH U (af 17 34 U U) U) (ps (cH U (af 17 34 U U) U) (ps (rn U (cB (af 14 31 U U) cn) U U) (aC (v:=Bo c6) U (cB (af 14 31 U U) cn) (congrArg Value.bool (so bd)) (nn ?_))))
 have Z:=Z.get 1 U
 exact rj b8 ⟨a6,a2,((an 1 U).trans b0),((an 3 U).trans b3),U,(ab.aG 1 Z)⟩
 rcases Bool.eq_false_or_eq_true ((!J) || (decide (o.coef<1))) with a1 | a1
 have cp:(((!J) || (decide (o.coef<1))) || (decide (o.coef > 1000)))=true:=Bv a1
 rw [az cp] at bd
 refine cv 28 [Pq a5 1,I o.lit,Bo J,Bo (!J),Bo (!J),Pt a5,I o.coef,Bo (decide (o.coef<1)),Bo ((!J) || (decide (o.coef<1))),Bo ((!J) || (decide (o.coef<1))),undef,undef,undef,Bo (((!J) || (decide (o.coef<1))) || (decide (o.coef > 1000))),Bo (((!J) || (decide (o.coef<1))) || (decide (o.coef > 1000))),undef,undef,undef,undef,undef,undef,undef,undef,undef,undef,undef,undef,undef] [box a5 122 #[I o.coef,I o.lit],box g3 73 #[v0_0,I c.bound]] [] ([]) [([],[]),([],[]),([],[]),([],[]),([],[]),([],[]),([],[]),([],[]),([],[]),([],[]),([],[]),([],[]),([],[]),([],[]),([],[]),([],[]),([],[]),([],[]),([],[]),([],[]),([],[]),([],[]),([],[]),([],[]),([],[]),([],[]),([],[]),([],[])] (S:=[]) aP (by kernel_rfl) U (by kernel_rfl) Z ?_ (fun f w_ a6 an a2 af Z=>?_)
 refine aa (fun f w_ _ _ s _ _ Z=>fA 1 eC ((s 4 U).trans U) U (nO U U Z)) (aa (fun f w_ _ _ _ _ p Z=>bw 0 Z isAgg3 (p 0 17 U U) U U (nO U U Z)) (aa ?_ ?_))
 intro f w_ a6 c2 an a2 a0 Z
 obtain ⟨hA,j1,hk,j2,hl⟩:=Z.borrow
 refine ar U call151 (b9 (a0 1 18 U U)) (mx (n_:=o.lit) hk c1) ?_
 rintro _ j3 ⟨rfl,Z⟩
 have Z:=hl Z c0
 exact ax ⟨U,_,_,U,Le.refl _,fun _ _=>rfl,Z⟩
 refine aa (fun f w_ _ _ _ _ p Z=>bL U (p 2 19 U U) (nO U U Z)) (aa (fun f w_ _ _ _ _ p Z=>mF (p 3 20 U U) U (nO U U Z)) (aa (fun f w_ _ _ s _ p Z=>sA (o':=0) (bm U (cB (p 4 21 U U) ag) U) ep ((s 4 U).trans U) U (nO U U Z)) (aa (fun f w_ _ _ _ _ p Z=>bt (v:=I o.coef) (bm U (cB (p 4 21 U U) ag) U) isAgg3 (p 5 22 U U) (At.ll (de.at (ab.aM 0 Z U)) (j:=0) U) (nO U U Z)) (aa (fun f w_ _ _ _ _ p Z=>bh (bm U (cB (p 4 21 U U) ag) U) (p 6 23 U U) U (nO U U Z)) (aa (fun f w_ _ _ _ _ p Z=>BU (v:=Bo ((!J) || (decide (o.coef<1)))) (p 4 21 U U) ag U (fb ag (p 7 24 U U)) (nO U U Z)) (aa (fun f w_ _ _ _ _ p Z=>mF (p 8 25 U U) U (nO U U Z)) (oP (fun _ _ p=>gN (p 9 26 U U) a1 U) (fun _=>rfl) (oP (fun _ _ p=>gN (p 9 26 U U) a1 U) (fun _=>rfl) (oP (fun _ _ p=>gN (p 9 26 U U) a1 U) (fun _=>rfl) (aa (fun f w_ _ _ _ _ p Z=>BU (v:=Bo (((!J) || (decide (o.coef<1))) || (decide (o.coef > 1000)))) (p 9 26 U U) a1 U (fK a1) (nO U U Z)) (aa (fun f w_ _ _ _ _ p Z=>mF (p 13 30 U U) U (nO U U Z)) (oP (fun _ _ p=>gN (p 14 31 U U) cp U) (fun _=>rfl) (oP (fun _ _ p=>gN (p 14 31 U U) cp U) (fun _=>rfl) (oP (fun _ _ p=>gN (p 14 31 U U) cp U) (fun _=>rfl) (oP (fun _ _ p=>cH U (p 17 34 U U) U) (fun _=>rfl) (oP (fun _ _ p=>cH U (p 17 34 U U) U) (fun _=>rfl) (oP (fun _ _ p=>cH U (p 17 34 U U) U) (fun _=>rfl) (oP (fun _ _ p=>cH U (p 17 34 U U) U) (fun _=>rfl) (oP (fun _ _ p=>cH U (p 17 34 U U) U) (fun _=>rfl) (oP (fun _ _ p=>cH U (p 17 34 U U) U) (fun _=>rfl) (oP (fun _ _ p=>cH U (p 17 34 U U) U) (fun _=>rfl) (oP (fun _ _ p=>cH U (p 17 34 U U) U) (fun _=>rfl) (oP (fun _ _ p=>cH U (p 17 34 U U) U) (fun _=>rfl) (oP (fun _ _ p=>cH U (p 17 34 U U) U) (fun _=>rfl) (aQ)))))))))))))))))))))))))
 refine ps (cH U (af 17 34 U U) U) (ps (cH U (af 17 34 U U) U) (ps (rn U (cB (af 14 31 U U) cp) U U) (aC (v:=Bo c6) U (cB (af 14 31 U U) cp) (congrArg Value.bool (so bd)) (nn ?_))))
 have Z:=Z.get 1 U
 exact rj b8 ⟨a6,a2,((an 1 U).trans b0),((an 3 U).trans b3),U,(ab.aG 1 Z)⟩
 rcases Bool.eq_false_or_eq_true (((!J) || (decide (o.coef<1))) || (decide (o.coef > 1000))) with a3 | a3
 rw [az a3] at bd
 refine cv 28 [Pq a5 1,I o.lit,Bo J,Bo (!J),Bo (!J),Pt a5,I o.coef,Bo (decide (o.coef<1)),Bo ((!J) || (decide (o.coef<1))),Bo ((!J) || (decide (o.coef<1))),Pt a5,I o.coef,Bo (decide (o.coef > 1000)),Bo (((!J) || (decide (o.coef<1))) || (decide (o.coef > 1000))),Bo (((!J) || (decide (o.coef<1))) || (decide (o.coef > 1000))),undef,undef,undef,undef,undef,undef,undef,undef,undef,undef,undef,undef,undef] [box a5 122 #[I o.coef,I o.lit],box g3 73 #[v0_0,I c.bound]] [] ([]) [([],[]),([],[]),([],[]),([],[]),([],[]),([],[]),([],[]),([],[]),([],[]),([],[]),([],[]),([],[]),([],[]),([],[]),([],[]),([],[]),([],[]),([],[]),([],[]),([],[]),([],[]),([],[]),([],[]),([],[]),([],[]),([],[]),([],[]),([],[])] (S:=[]) aP (by kernel_rfl) U (by kernel_rfl) Z ?_ (fun f w_ a6 an a2 af Z=>?_)
 refine aa (fun f w_ _ _ s _ _ Z=>fA 1 eC ((s 4 U).trans U) U (nO U U Z)) (aa (fun f w_ _ _ _ _ p Z=>bw 0 Z isAgg3 (p 0 17 U U) U U (nO U U Z)) (aa ?_ ?_))
 intro f w_ a6 c2 an a2 a0 Z
 obtain ⟨hB,j4,hn,j5,ho⟩:=Z.borrow
 refine ar U call151 (b9 (a0 1 18 U U)) (mx (n_:=o.lit) hn c1) ?_
 rintro _ j6 ⟨rfl,Z⟩
 have Z:=ho Z c0
 exact ax ⟨U,_,_,U,Le.refl _,fun _ _=>rfl,Z⟩
 refine aa (fun f w_ _ _ _ _ p Z=>bL U (p 2 19 U U) (nO U U Z)) (aa (fun f w_ _ _ _ _ p Z=>mF (p 3 20 U U) U (nO U U Z)) (aa (fun f w_ _ _ s _ p Z=>sA (o':=0) (bm U (cB (p 4 21 U U) ag) U) ep ((s 4 U).trans U) U (nO U U Z)) (aa (fun f w_ _ _ _ _ p Z=>bt (v:=I o.coef) (bm U (cB (p 4 21 U U) ag) U) isAgg3 (p 5 22 U U) (At.ll (de.at (ab.aM 0 Z U)) (j:=0) U) (nO U U Z)) (aa (fun f w_ _ _ _ _ p Z=>bh (bm U (cB (p 4 21 U U) ag) U) (p 6 23 U U) U (nO U U Z)) (aa (fun f w_ _ _ _ _ p Z=>BU (v:=Bo ((!J) || (decide (o.coef<1)))) (p 4 21 U U) ag U (fb ag (p 7 24 U U)) (nO U U Z)) (aa (fun f w_ _ _ _ _ p Z=>mF (p 8 25 U U) U (nO U U Z)) (aa (fun f w_ _ _ s _ p Z=>sA (o':=0) (bm U (cB (p 9 26 U U) a1) U) ep ((s 4 U).trans U) U (nO U U Z)) (aa (fun f w_ _ _ _ _ p Z=>bt (v:=I o.coef) (bm U (cB (p 9 26 U U) a1) U) isAgg3 (p 10 27 U U) (At.ll (de.at (ab.aM 0 Z U)) (j:=0) U) (nO U U Z)) (aa (fun f w_ _ _ _ _ p Z=>c9 (bm U (cB (p 9 26 U U) a1) U) (p 11 28 U U) U (nO U U Z)) (aa (fun f w_ _ _ _ _ p Z=>BU (v:=Bo (((!J) || (decide (o.coef<1))) || (decide (o.coef > 1000)))) (p 9 26 U U) a1 U (fb a1 (p 12 29 U U)) (nO U U Z)) (aa (fun f w_ _ _ _ _ p Z=>mF (p 13 30 U U) U (nO U U Z)) (oP (fun _ _ p=>gN (p 14 31 U U) a3 U) (fun _=>rfl) (oP (fun _ _ p=>gN (p 14 31 U U) a3 U) (fun _=>rfl) (oP (fun _ _ p=>gN (p 14 31 U U) a3 U) (fun _=>rfl) (oP (fun _ _ p=>cH U (p 17 34 U U) U) (fun _=>rfl) (oP (fun _ _ p=>cH U (p 17 34 U U) U) (fun _=>rfl) (oP (fun _ _ p=>cH U (p 17 34 U U) U) (fun _=>rfl) (oP (fun _ _ p=>cH U (p 17 34 U U) U) (fun _=>rfl) (oP (fun _ _ p=>cH U (p 17 34 U U) U) (fun _=>rfl) (oP (fun _ _ p=>cH U (p 17 34 U U) U) (fun _=>rfl) (oP (fun _ _ p=>cH U (p 17 34 U U) U) (fun _=>rfl) (oP (fun _ _ p=>cH U (p 17 34 U U) U) (fun _=>rfl) (oP (fun _ _ p=>cH U (p 17 34 U U) U) (fun _=>rfl) (oP (fun _ _ p=>cH U (p 17 34 U U) U) (fun _=>rfl) (aQ)))))))))))))))))))))))))
 refine ps (cH U (af 17 34 U U) U) (ps (cH U (af 17 34 U U) U) (ps (rn U (cB (af 14 31 U U) a3) U U) (aC (v:=Bo c6) U (cB (af 14 31 U U) a3) (congrArg Value.bool (so bd)) (nn ?_))))
 have Z:=Z.get 1 U
 exact rj b8 ⟨a6,a2,((an 1 U).trans b0),((an 3 U).trans b3),U,(ab.aG 1 Z)⟩
 rw [ay a3] at bd
 obtain ⟨fo,bs,bd⟩:=bind_some bd
 rcases Bool.eq_false_or_eq_true (decide ((a4:Int) > 0)) with R | R
 rw [az R] at bs
 obtain ⟨dj,fs,bs⟩:=bind_some bs
 obtain ⟨hp,fu,bs⟩:=bind_some bs
 obtain ⟨j7,gd,bs⟩:=bind_some bs
 refine bT 28 [aZ (Pq a5 1),aZ (I o.lit),aZ (Bo J),aZ (Bo (!J)),aZ (Bo (!J)),aZ (Pt a5),aZ (I o.coef),aZ (Bo (decide (o.coef<1))),aZ (Bo ((!J) || (decide (o.coef<1)))),aZ (Bo ((!J) || (decide (o.coef<1)))),aZ (Pt a5),aZ (I o.coef),aZ (Bo (decide (o.coef > 1000))),aZ (Bo (((!J) || (decide (o.coef<1))) || (decide (o.coef > 1000)))),aZ (Bo (((!J) || (decide (o.coef<1))) || (decide (o.coef > 1000)))),aZ (I a4),aZ (Bo (decide ((a4:Int) > 0))),aZ (Bo (decide ((a4:Int) > 0))),aZ (Pt g3),aZ (v0_0),aZ (I a4),aZ (I (i64 ((a4:Int) - 1))),gC au dj 0,gC au dj 1,aZ (I dj.lit),aZ (I hp),aZ (Pq a5 1),aZ (I o.lit)] [box a5 122 #[I o.coef,I o.lit],box g3 73 #[v0_0,I c.bound]] [] ([]) [([],[]),([],[]),([],[]),([],[]),([],[]),([],[]),([],[]),([],[]),([],[]),([],[]),([],[]),([],[]),([],[]),([],[]),([],[]),([],[]),([],[]),([],[]),([],[]),([],[]),([],[]),([],[]),([],[]),([],[]),([],[]),([],[]),([],[]),([],[])] (S:=[]) aP (by kernel_rfl) U (by kernel_rfl) (ad (ah _) (ad (ah _) (ad (ah _) (ad (ah _) (ad (ah _) (ad (ah _) (ad (ah _) (ad (ah _) (ad (ah _) (ad (ah _) (ad (ah _) (ad (ah _) (ad (ah _) (ad (ah _) (ad (ah _) (ad (ah _) (ad (ah _) (ad (ah _) (ad (ah _) (ad (ah _) (ad (ah _) (ad (ah _) (ad (bU _ _ _) (ad (bU _ _ _) (ad (ah _) (ad (ah _) (ad (ah _) (ad (ah _) bV)))))))))))))))))))))))))))) Z ?_ (fun f w_ a6 an a2 af Z=>?_)
 refine aa (fun f w_ _ _ s _ _ Z=>fA 1 eC ((s 4 U).trans U) U (nO U U Z)) (aa (fun f w_ _ _ _ _ p Z=>bw 0 Z isAgg3 (p 0 17 U U) U U (nO U U Z)) (aa ?_ ?_))
 intro f w_ a6 c2 an a2 a0 Z
 obtain ⟨hq,hC,g0,hD,g1⟩:=Z.borrow
 refine ar U call151 (b9 (a0 1 18 U U)) (mx (n_:=o.lit) g0 c1) ?_
 rintro _ hE ⟨rfl,Z⟩
 have Z:=g1 Z c0
 exact ax ⟨U,_,_,U,Le.refl _,fun _ _=>rfl,Z⟩
 refine aa (fun f w_ _ _ _ _ p Z=>bL U (p 2 19 U U) (nO U U Z)) (aa (fun f w_ _ _ _ _ p Z=>mF (p 3 20 U U) U (nO U U Z)) (aa (fun f w_ _ _ s _ p Z=>sA (o':=0) (bm U (cB (p 4 21 U U) ag) U) ep ((s 4 U).trans U) U (nO U U Z)) (aa (fun f w_ _ _ _ _ p Z=>bt (v:=I o.coef) (bm U (cB (p 4 21 U U) ag) U) isAgg3 (p 5 22 U U) (At.ll (de.at (ab.aM 0 Z U)) (j:=0) U) (nO U U Z)) (aa (fun f w_ _ _ _ _ p Z=>bh (bm U (cB (p 4 21 U U) ag) U) (p 6 23 U U) U (nO U U Z)) (aa (fun f w_ _ _ _ _ p Z=>BU (v:=Bo ((!J) || (decide (o.coef<1)))) (p 4 21 U U) ag U (fb ag (p 7 24 U U)) (nO U U Z)) (aa (fun f w_ _ _ _ _ p Z=>mF (p 8 25 U U) U (nO U U Z)) (aa (fun f w_ _ _ s _ p Z=>sA (o':=0) (bm U (cB (p 9 26 U U) a1) U) ep ((s 4 U).trans U) U (nO U U Z)) (aa (fun f w_ _ _ _ _ p Z=>bt (v:=I o.coef) (bm U (cB (p 9 26 U U) a1) U) isAgg3 (p 10 27 U U) (At.ll (de.at (ab.aM 0 Z U)) (j:=0) U) (nO U U Z)) (aa (fun f w_ _ _ _ _ p Z=>c9 (bm U (cB (p 9 26 U U) a1) U) (p 11 28 U U) U (nO U U Z)) (aa (fun f w_ _ _ _ _ p Z=>BU (v:=Bo (((!J) || (decide (o.coef<1))) || (decide (o.coef > 1000)))) (p 9 26 U U) a1 U (fb a1 (p 12 29 U U)) (nO U U Z)) (aa (fun f w_ _ _ _ _ p Z=>mF (p 13 30 U U) U (nO U U Z)) (aa (fun f w_ _ _ s _ p Z=>iV (v:=I a4) (bm U (cB (p 14 31 U U) a3) U) ((s 3 U).trans b3) (nO U U Z)) (aa (fun f w_ _ _ _ _ p Z=>c9 (bm U (cB (p 14 31 U U) a3) U) (p 15 32 U U) U (nO U U Z)) (aa (fun f w_ _ _ _ _ p Z=>iV (v:=Bo (decide ((a4:Int) > 0))) (bm U (cB (p 14 31 U U) a3) U) (p 16 33 U U) (nO U U Z)) (aa (fun f w_ _ _ s _ p Z=>sA (o':=0) (bm U (cB (p 17 34 U U) R) U) ck ((s 1 U).trans b0) U (nO U U Z)) (aa (fun f w_ _ _ _ _ p Z=>bt (v:=v0_0) (bm U (cB (p 17 34 U U) R) U) isAgg71 (p 18 35 U U) (At.ll (de.at (ab.aM 1 Z U)) (j:=0) U) (nO U U Z)) (aa (fun f w_ _ _ s _ p Z=>iV (v:=I a4) (bm U (cB (p 17 34 U U) R) U) ((s 3 U).trans b3) (nO U U Z)) (aa (fun f w_ _ _ _ _ p Z=>db (bm U (cB (p 17 34 U U) R) U) (p 20 37 U U) U (nO U U Z)) (aa ?_ ?_)))))))))))))))))))
 intro f w_ a6 c2 an a2 a0 Z
 refine bP (r:=au) (bm U (cB (a0 17 34 U U) R) U) underlying71 sizeOf122 (a0 19 36 U U) (RP.mono _ h0_0 (Le.trans l7 a2)) (a0 21 38 U U) fs (fun hG hJ g2 b1 ee=>?_)
 obtain rfl:=bM.1 b1
 exact ax ⟨U,_,_,U,Le.refl _,fun _ _=>⟨_,_,_,U,b1,ee⟩,Z⟩
 refine aa ?_ ?_
 intro f w_ a6 c2 an a2 a0 Z
 obtain ⟨hK,g4,hr,e1,b2,ej⟩:=(a0 22 39 U U)
 obtain rfl:=bM.1 b2
 refine sA (o':=g4+1) (bm U (cB (a0 17 34 U U) R) U) eC e1 U (ax ⟨U,_,_,U,Le.refl _,fun _ _=>⟨_,_,_,U,b2,ej⟩,Z⟩)
 refine aa ?_ ?_
 intro f w_ a6 c2 an a2 a0 Z
 obtain ⟨hN,hP,hs,e2,c3,ek⟩:=(a0 23 40 U U)
 obtain rfl:=bM.1 c3
 refine bt (v:=I dj.lit) (bm U (cB (a0 17 34 U U) R) U) isAgg3 e2 (At.cell (dn.at ek Z.sub) (j:=1) U) (ax ⟨U,_,_,U,Le.refl _,fun _ _=>rfl,Z⟩)
 refine aa ?_ ?_
 intro f w_ a6 c2 an a2 a0 Z
 obtain ⟨ht,hQ,g5,hS,g6⟩:=Z.borrow
 refine ar (bm U (cB (a0 17 34 U U) R) U) call152 (b9 (a0 24 41 U U)) (sZ (n_:=dj.lit) g5 fu) ?_
 rintro _ hV ⟨rfl,Z⟩
 have Z:=g6 Z c0
 exact ax ⟨U,_,_,U,Le.refl _,fun _ _=>rfl,Z⟩
 refine aa (fun f w_ _ _ s _ p Z=>sA (o':=1) (bm U (cB (p 17 34 U U) R) U) eC ((s 4 U).trans U) U (nO U U Z)) (aa (fun f w_ _ _ _ _ p Z=>bt (v:=I o.lit) (bm U (cB (p 17 34 U U) R) U) isAgg3 (p 26 43 U U) (At.ll (de.at (ab.aM 0 Z U)) (j:=1) U) (nO U U Z)) (aQ))
 obtain ⟨hv,hW,g7,h0,g8⟩:=Z.borrow
 refine ar (bm U (cB (af 17 34 U U) R) U) call152 (b9 (af 27 44 U U)) (sZ (n_:=o.lit) g7 gd) ?_
 rintro _ h1 ⟨rfl,Z⟩
 have Z:=g8 Z c0
 refine hY (bm U (cB (af 17 34 U U) R) U) (af 25 42 U U) U (aC (v:=Bo fo) (bm U (cB (af 14 31 U U) a3) U) (cB (af 17 34 U U) R) (congrArg Value.bool (so bs)) (aC (v:=Bo c6) U (cB (af 14 31 U U) a3) (congrArg Value.bool (so bd)) (nn ?_)))
 have Z:=Z.get 1 U
 exact rj b8 ⟨a6,a2,((an 1 U).trans b0),((an 3 U).trans b3),U,(ab.aG 1 Z)⟩
 rw [ay R] at bs
 refine cv 28 [Pq a5 1,I o.lit,Bo J,Bo (!J),Bo (!J),Pt a5,I o.coef,Bo (decide (o.coef<1)),Bo ((!J) || (decide (o.coef<1))),Bo ((!J) || (decide (o.coef<1))),Pt a5,I o.coef,Bo (decide (o.coef > 1000)),Bo (((!J) || (decide (o.coef<1))) || (decide (o.coef > 1000))),Bo (((!J) || (decide (o.coef<1))) || (decide (o.coef > 1000))),I a4,Bo (decide ((a4:Int) > 0)),Bo (decide ((a4:Int) > 0)),undef,undef,undef,undef,undef,undef,undef,undef,undef,undef] [box a5 122 #[I o.coef,I o.lit],box g3 73 #[v0_0,I c.bound]] [] ([]) [([],[]),([],[]),([],[]),([],[]),([],[]),([],[]),([],[]),([],[]),([],[]),([],[]),([],[]),([],[]),([],[]),([],[]),([],[]),([],[]),([],[]),([],[]),([],[]),([],[]),([],[]),([],[]),([],[]),([],[]),([],[]),([],[]),([],[]),([],[])] (S:=[]) aP (by kernel_rfl) U (by kernel_rfl) Z ?_ (fun f w_ a6 an a2 af Z=>?_)
 refine aa (fun f w_ _ _ s _ _ Z=>fA 1 eC ((s 4 U).trans U) U (nO U U Z)) (aa (fun f w_ _ _ _ _ p Z=>bw 0 Z isAgg3 (p 0 17 U U) U U (nO U U Z)) (aa ?_ ?_))
 intro f w_ a6 c2 an a2 a0 Z
 obtain ⟨hx,h2,g9,h3,ha⟩:=Z.borrow
 refine ar U call151 (b9 (a0 1 18 U U)) (mx (n_:=o.lit) g9 c1) ?_
 rintro _ h4 ⟨rfl,Z⟩
 have Z:=ha Z c0
 exact ax ⟨U,_,_,U,Le.refl _,fun _ _=>rfl,Z⟩
 refine aa (fun f w_ _ _ _ _ p Z=>bL U (p 2 19 U U) (nO U U Z)) (aa (fun f w_ _ _ _ _ p Z=>mF (p 3 20 U U) U (nO U U Z)) (aa (fun f w_ _ _ s _ p Z=>sA (o':=0) (bm U (cB (p 4 21 U U) ag) U) ep ((s 4 U).trans U) U (nO U U Z)) (aa (fun f w_ _ _ _ _ p Z=>bt (v:=I o.coef) (bm U (cB (p 4 21 U U) ag) U) isAgg3 (p 5 22 U U) (At.ll (de.at (ab.aM 0 Z U)) (j:=0) U) (nO U U Z)) (aa (fun f w_ _ _ _ _ p Z=>bh (bm U (cB (p 4 21 U U) ag) U) (p 6 23 U U) U (nO U U Z)) (aa (fun f w_ _ _ _ _ p Z=>BU (v:=Bo ((!J) || (decide (o.coef<1)))) (p 4 21 U U) ag U (fb ag (p 7 24 U U)) (nO U U Z)) (aa (fun f w_ _ _ _ _ p Z=>mF (p 8 25 U U) U (nO U U Z)) (aa (fun f w_ _ _ s _ p Z=>sA (o':=0) (bm U (cB (p 9 26 U U) a1) U) ep ((s 4 U).trans U) U (nO U U Z)) (aa (fun f w_ _ _ _ _ p Z=>bt (v:=I o.coef) (bm U (cB (p 9 26 U U) a1) U) isAgg3 (p 10 27 U U) (At.ll (de.at (ab.aM 0 Z U)) (j:=0) U) (nO U U Z)) (aa (fun f w_ _ _ _ _ p Z=>c9 (bm U (cB (p 9 26 U U) a1) U) (p 11 28 U U) U (nO U U Z)) (aa (fun f w_ _ _ _ _ p Z=>BU (v:=Bo (((!J) || (decide (o.coef<1))) || (decide (o.coef > 1000)))) (p 9 26 U U) a1 U (fb a1 (p 12 29 U U)) (nO U U Z)) (aa (fun f w_ _ _ _ _ p Z=>mF (p 13 30 U U) U (nO U U Z)) (aa (fun f w_ _ _ s _ p Z=>iV (v:=I a4) (bm U (cB (p 14 31 U U) a3) U) ((s 3 U).trans b3) (nO U U Z)) (aa (fun f w_ _ _ _ _ p Z=>c9 (bm U (cB (p 14 31 U U) a3) U) (p 15 32 U U) U (nO U U Z)) (aa (fun f w_ _ _ _ _ p Z=>iV (v:=Bo (decide ((a4:Int) > 0))) (bm U (cB (p 14 31 U U) a3) U) (p 16 33 U U) (nO U U Z)) (oP (fun _ _ p=>gN (p 17 34 U U) R U) (fun _=>rfl) (oP (fun _ _ p=>gN (p 17 34 U U) R U) (fun _=>rfl) (oP (fun _ _ p=>gN (p 17 34 U U) R U) (fun _=>rfl) (oP (fun _ _ p=>gN (p 17 34 U U) R U) (fun _=>rfl) (oP (fun _ _ p=>gN (p 17 34 U U) R U) (fun _=>rfl) (oP (fun _ _ p=>gN (p 17 34 U U) R U) (fun _=>rfl) (oP (fun _ _ p=>gN (p 17 34 U U) R U) (fun _=>rfl) (oP (fun _ _ p=>gN (p 17 34 U U) R U) (fun _=>rfl) (oP (fun _ _ p=>gN (p 17 34 U U) R U) (fun _=>rfl) (oP (fun _ _ p=>gN (p 17 34 U U) R U) (fun _=>rfl) (aQ)))))))))))))))))))))))))
 refine ps (rn U (cB (af 17 34 U U) R) U U) (ps (rn U (cB (af 17 34 U U) R) U U) (aC (v:=Bo fo) (bm U (cB (af 14 31 U U) a3) U) (cB (af 17 34 U U) R) (congrArg Value.bool (so bs)) (aC (v:=Bo c6) U (cB (af 14 31 U U) a3) (congrArg Value.bool (so bd)) (nn ?_))))
 have Z:=Z.get 1 U
 exact rj b8 ⟨a6,a2,((an 1 U).trans b0),((an 3 U).trans b3),U,(ab.aG 1 Z)⟩
 intro f w_ hR
 obtain ⟨ec,hb,b0,b3,hc,Z⟩:=rk b8 hR
 refine al (b:=c6) hc (fun c7=>?_) (fun c7=>?_)
 have b5:=(az c7).symm.trans b5
 refine sq (aB U (nn (aA (aN (v1:=Bo false) results189 U ?_))))
 obtain rfl:=so b5
 obtain rfl:=so c4
 obtain rfl:=so hF
 exact ⟨U,(ab.down (ab.aG 0 Z) (Le.trans l7 hb) c0)⟩
 have b5:=(ay c7).symm.trans b5
 refine aq (ae (mF b3 U (bf U U U (aI U (nn ?_)))))
 obtain rfl:=so b5
 show ∃ m,m<_∧I8 m _ _
 refine ⟨dg.length,by simp,?_⟩
 exact ij et ⟨a4+1,dg,ec,U,aL e4,by simp at ds; omega,c4,(Le.trans l7 hb),b0,((eI (aO (n:=c.terms.length) (by simp at ds; omega) en))),Z⟩
 rcases b4 with _ | ⟨_,_⟩
 obtain rfl:=aT c4
 refine a9 (rj e3 ⟨H6,U,l7,b0,Z⟩)
 exact absurd (of_decide_eq_false eu) (by simp at ds; omega)
 intro f w_ hR
 obtain ⟨H6,rfl,l7,b0,Z⟩:=rk e3 hR
 refine ao ?_
 obtain ⟨hf,c8⟩:=ca fun f w_=>f 2=Bo ((decide (c.bound ≥ 0)) && (decide (c.bound≤20000)))∧ab H6 w_ ([])
 refine av hf ?_ ?_
 refine ae (fA 1 fy b0 U (bw 0 Z isAgg3 U U U (hY U U U (mB U (aD (d:=52) (b:=decide (c.bound ≥ 0)) U (fun dd=>?_) (fun dd=>?_))))))
 refine fA 1 fy b0 U (bw 0 Z isAgg3 U U U (kE U U U (aC (v:=Bo ((decide (c.bound ≥ 0)) && (decide (c.bound≤20000)))) U U (gw dd U) (aB U (nn (rj c8 ⟨U,(ab.aG 0 Z)⟩))))))
 refine ps U (ps U (ps U (aC (v:=Bo ((decide (c.bound ≥ 0)) && (decide (c.bound≤20000)))) U U (jc dd) (aB U (nn (rj c8 ⟨U,(ab.aG 0 Z)⟩))))))
 intro f w_ hR
 obtain ⟨hy,Z⟩:=rk c8 hR
 refine aA (aN (v1:=Bo ((decide (c.bound ≥ 0)) && (decide (c.bound≤20000)))) results189 hy ?_)
 obtain rfl:=so hF
 exact ⟨U,(ab.down Z l7 c0)⟩
theorem xq {net:List Int} {bound:Int} {v0:Value} {H:FH} {w:World} (Z:ab H w []) (h0:(rS 3 RP.int).rel H [v0] net) {r:Con × Bool} (hF:nc net bound=some r):C prog 153 #[v0,I bound] w fun v w'=>∃ (u1:Value),v=.tuple #[.agg #[u1,I r.1.bound],Bo r.2]∧ab H w' [oF 122 au u1 r.1.terms]:=by
 unfold nc at hF
 refine aE func153 U ntmps153 U (sq (dS (cs:=#[S0,I 0]) U zeroValue73 U Z (fun g3 w4 Z=>aB U (ns (da U (cC ) (eg  ) (dS (cs:=#[S0,I 0]) U zeroValue73 U Z (fun g8 w9 Z=>bg (vs:=#[S0,I 0]) (cs2:=#[S0,I 0]) 0 U sizeOf73 U U U (aj U (aj U aK)) Z U (by show 0+2≤2; decide) U (fun j5 Z=>nq (sq (aI U (nn ?_)))))))))))
 obtain ⟨gd,eu,hF⟩:=bind_some hF
 obtain ⟨hl,cp,hF⟩:=bind_some hF
 obtain ⟨hN,g6⟩:=ca fun f w_=>∃ an:Int,∃ af:List Term,∃ b8,∃ o,hl=.nx (an,af)∧Le H b8∧f 1=I an∧f 4=Pt g3∧f 6=Pt g8∧ab b8 w_ ([oF 122 au o af,box g8 73 #[o,I 0],box g3 73 #[S0,I 0]])
 refine av hN ?_ ?_
 refine ak ?_
 obtain ⟨hn,e0⟩:=ff fun n f w_=>∃ J:Nat,∃ bs:Nat,∃ an:Int,∃ af:List Term,∃ b8,∃ o,bs=n∧1≤J∧J+bs=1+gd∧cI (ke net) bs J (an,af)=some hl∧Le H b8∧f 0=v0∧f 1=I an∧f 4=Pt g3∧f 6=Pt g8∧f 7=I J∧ab b8 w_ ([oF 122 au o af,box g8 73 #[o,I 0],box g3 73 #[S0,I 0]])
 have Z:=ab.bE (R:=(OR.bu au)) (e:=122) Z
 refine a8 hn (n:=gd) ?_ ?_
 exact ij e0 ⟨1,gd,bound,[],H,S0,U,Nat.le_refl _,U,cp,(Le.refl _),U,U,U,U,U,Z⟩
 intro j6 f w_ hI
 obtain ⟨J,bs,an,af,b8,o,rfl,ho,g7,cp,cn,b5,b0,a5,a2,a6,Z⟩:=ik e0 hI
 refine ao (sq (mF a6 U (kE U U U (nn (al (b:=decide ((J:Int)≤12)) U (fun e1=>?_) (fun e1=>?_))))))
 have g9:=of_decide_eq_true e1
 rcases bs with _ | et
 exact absurd g9 (rV g7 eu)
 obtain ⟨j7,b2,cp⟩:=eA cp
 rw [ke] at b2
 refine aq (ao (ak (ao (ao ?_))))
 obtain ⟨a1,c5,b2⟩:=bind_some b2
 refine ae (mF b5 U (mF a6 U (bP (r:=RP.int) U underlying23 sizeOf3 U (RP.mono _ h0 cn) U c5 (fun j8 kk hG dj ha=>?_))))
 obtain rfl:_=[_]:=dj
 refine bt U isAgg3 U (At.cell (dn.at ha Z.sub) (j:=0) U) (c9 U U U (nn ?_))
 obtain ⟨ch,b3,b2⟩:=bind_some b2
 obtain ⟨hP,e2⟩:=ca fun f w_=>∃ e3,∃ a0,Le b8 e3∧f 0=v0∧f 1=I an∧f 4=Pt g3∧f 6=Pt g8∧f 7=I J∧ab e3 w_ ([oF 122 au a0 ch,box g8 73 #[a0,I 0],box g3 73 #[S0,I 0]])
 refine av hP ?_ ?_
 refine al (b:=decide (a1 > 0)) U (fun e4=>?_) (fun e4=>?_)
 have b3:=(az e4).symm.trans b3
 obtain ⟨ks,hp,b3⟩:=bind_some b3
 refine bT 9 [aZ (Pt g8),aZ (o),aZ (v0),aZ (I J),gC RP.int a1 0,aZ (I a1),aZ (I J),aZ (.agg #[I a1,I J]),gE] [oF 122 au o af,box g8 73 #[o,I 0],box g3 73 #[S0,I 0]] [.made 8 26 (fun v_=>oF 122 au v_ ([({ coef:=a1,lit:=(J:Int) }:Term)])) none] ([]) [([],[]),([],[]),([],[]),([],[]),([],[]),([],[]),([],[]),([],[]),([],[0])] (S:=[(some 8,[26],none)]) aP (by kernel_rfl) U (by kernel_rfl) (ad (ah _) (ad (ah _) (ad (ah _) (ad (ah _) (ad (bU _ _ _) (ad (ah _) (ad (ah _) (ad (ah _) (ad (bO) bV))))))))) Z ?_ (fun f w_ e5 bd c6 hq Z=>?_)
 refine aa (fun f w_ _ _ s _ _ Z=>fA 0 ck ((s 6 U).trans a2) U (nO U U Z)) (aa (fun f w_ _ _ _ _ p Z=>bw 1 Z isAgg71 (p 0 18 U U) U U (nO U U Z)) (aa (fun f w_ _ _ s _ _ Z=>mF ((s 0 U).trans b5) U (nO U U Z)) (aa (fun f w_ _ _ s _ _ Z=>mF ((s 7 U).trans a6) U (nO U U Z)) (aa ?_ ?_))))
 intro f w_ e5 hr bd c6 c1 Z
 refine bP (r:=RP.int) U underlying23 sizeOf3 (c1 2 20 U U) (RP.mono _ h0 (Le.trans cn c6)) (c1 3 21 U U) c5 (fun ky k0 hJ ds hb=>?_)
 obtain rfl:_=[_]:=ds
 exact ax ⟨U,_,_,U,Le.refl _,fun _ _=>⟨_,_,_,U,U,hb⟩,Z⟩
 refine aa ?_ ?_
 intro f w_ e5 hr bd c6 c1 Z
 obtain ⟨lo,l0,hW,hs,ec,hc⟩:=(c1 4 22 U U)
 obtain rfl:_=[_]:=ec
 refine bt U isAgg3 hs (At.cell (dn.at hc Z.sub) (j:=0) U) (ax ⟨U,_,_,U,Le.refl _,fun _ _=>rfl,Z⟩)
 refine aa (fun f w_ _ _ s _ _ Z=>mF ((s 7 U).trans a6) U (nO U U Z)) (aa (fun f w_ _ _ _ _ p Z=>da U (iB (p 5 23 U U) (p 6 24 U U)) (eF (I a1) (I J) U U) (nO U U Z)) (aa ?_ ?_))
 intro f w_ e5 hr bd c6 c1 Z
 refine cS U (bG (c1 7 25 U U)) (gh (I a1) (I J) ) Z (fun l1 l2 Z=>?_)
 have Z:=ab.dr (r:=au) (cs:=[I a1,I J]) (x:=({ coef:=a1,lit:=(J:Int) }:Term)) Z (bM.2 U)
 have Z:=ab.bS (R:=(OR.bu au)) [([I a1,I J],({ coef:=a1,lit:=(J:Int) }:Term))] [({ coef:=a1,lit:=(J:Int) }:Term)] 1 Z U U U (by decide)
 have Z:=Z.aU [3,3,3] U
 exact ax ⟨U,_,_,U,Le.refl _,fun _ _=>trivial,Z⟩
 exact aQ
 have Z:ab e5 w_ ([oF 122 au o af,box g8 73 #[o,I 0],box g3 73 #[S0,I 0],oF 122 au (f 26) ([({ coef:=a1,lit:=(J:Int) }:Term)])]):=Z
 have Z:=Z.aU [3,1] U
 refine cj (v:=o) (u:=(f 26)) U lN (hq 1 19 U U) U Z hp (fun hf l3 Z=>fA 0 ck ((bd 6 U).trans a2) U (ei (v:=hf) (cs2:=#[hf,I 0]) 1 U sizeOf71 U U (aH (ab.len 0 Z U)) Z U U U (fun l4 Z=>nn ?_)))
 obtain rfl:=so b3
 have Z:=Z.aU [2,1,2] U
 exact rj e2 ⟨e5,hf,c6,((bd 0 U).trans b5),((bd 1 U).trans b0),((bd 4 U).trans a5),((bd 6 U).trans a2),((bd 7 U).trans a6),Z⟩
 have b3:=(ay e4).symm.trans b3
 refine aq ?_
 obtain rfl:=so b3
 exact rj e2 ⟨b8,o,(Le.refl _),b5,b0,a5,a2,a6,Z⟩
 intro f w_ hR
 obtain ⟨e3,a0,g0,b5,b0,a5,a2,a6,Z⟩:=rk e2 hR
 refine sq (mF b5 U (mF a6 U (bP (r:=RP.int) U underlying23 sizeOf3 U (RP.mono _ h0 (Le.trans cn g0)) U c5 (fun l5 l7 hK ee hg=>?_))))
 obtain rfl:_=[_]:=ee
 refine bt U isAgg3 U (At.cell (dn.at hg Z.sub) (j:=0) U) (bh U U U (nn ?_))
 obtain ⟨⟨c2,c7⟩,b4,b2⟩:=bind_some b2
 obtain ⟨hQ,fa⟩:=ca fun f w_=>∃ g1,∃ a4,Le e3 g1∧f 0=v0∧f 1=I c2∧f 4=Pt g3∧f 6=Pt g8∧f 7=I J∧ab g1 w_ ([oF 122 au a4 c7,box g8 73 #[a4,I 0],box g3 73 #[S0,I 0]])
 refine av hQ ?_ ?_
 refine al (b:=decide (a1<0)) U (fun fo=>?_) (fun fo=>?_)
 have b4:=(az fo).symm.trans b4
 refine ao ?_
 obtain ⟨l8,ht,b4⟩:=bind_some b4
 refine bT 11 [aZ (Pt g8),aZ (a0),aZ (v0),aZ (I J),gC RP.int a1 0,aZ (I a1),aZ (I (i64 (-a1))),aZ (I J),aZ (I (i64 (-(J:Int)))),aZ (.agg #[I (i64 (-a1)),I (i64 (-(J:Int)))]),gE] [oF 122 au a0 ch,box g8 73 #[a0,I 0],box g3 73 #[S0,I 0]] [.made 10 44 (fun v_=>oF 122 au v_ ([({ coef:=i64 (-a1),lit:=i64 (-(J:Int)) }:Term)])) none] ([]) [([],[]),([],[]),([],[]),([],[]),([],[]),([],[]),([],[]),([],[]),([],[]),([],[]),([],[0])] (S:=[(some 10,[44],none)]) aP (by kernel_rfl) U (by kernel_rfl) (ad (ah _) (ad (ah _) (ad (ah _) (ad (ah _) (ad (bU _ _ _) (ad (ah _) (ad (ah _) (ad (ah _) (ad (ah _) (ad (ah _) (ad (bO) bV))))))))))) Z ?_ (fun f w_ fs a3 c3 hv Z=>?_)
 refine aa (fun f w_ _ _ s _ _ Z=>fA 0 ck ((s 6 U).trans a2) U (nO U U Z)) (aa (fun f w_ _ _ _ _ p Z=>bw 1 Z isAgg71 (p 0 34 U U) U U (nO U U Z)) (aa (fun f w_ _ _ s _ _ Z=>mF ((s 0 U).trans b5) U (nO U U Z)) (aa (fun f w_ _ _ s _ _ Z=>mF ((s 7 U).trans a6) U (nO U U Z)) (aa ?_ ?_))))
 intro f w_ fs hx a3 c3 c4 Z
 refine bP (r:=RP.int) U underlying23 sizeOf3 (c4 2 36 U U) (RP.mono _ h0 (Le.trans (Le.trans cn g0) c3)) (c4 3 37 U U) c5 (fun h1 h2 hy c8 g2=>?_)
 obtain rfl:_=[_]:=c8
 exact ax ⟨U,_,_,U,Le.refl _,fun _ _=>⟨_,_,_,U,U,g2⟩,Z⟩
 refine aa ?_ ?_
 intro f w_ fs hx a3 c3 c4 Z
 obtain ⟨h3,h4,hS,hh,dd,g4⟩:=(c4 4 38 U U)
 obtain rfl:_=[_]:=dd
 refine bt U isAgg3 hh (At.cell (dn.at g4 Z.sub) (j:=0) U) (ax ⟨U,_,_,U,Le.refl _,fun _ _=>rfl,Z⟩)
 refine aa (fun f w_ _ _ _ _ p Z=>kg U (p 5 39 U U) (nO U U Z)) (aa (fun f w_ _ _ s _ _ Z=>mF ((s 7 U).trans a6) U (nO U U Z)) (aa (fun f w_ _ _ _ _ p Z=>kg U (p 7 41 U U) (nO U U Z)) (aa (fun f w_ _ _ _ _ p Z=>da U (iB (p 6 40 U U) (p 8 42 U U)) (eF (I (i64 (-a1))) (I (i64 (-(J:Int)))) U U) (nO U U Z)) (aa ?_ ?_))))
 intro f w_ fs hx a3 c3 c4 Z
 refine cS U (bG (c4 9 43 U U)) (gh (I (i64 (-a1))) (I (i64 (-(J:Int)))) ) Z (fun h5 h6 Z=>?_)
 have Z:=ab.dr (r:=au) (cs:=[I (i64 (-a1)),I (i64 (-(J:Int)))]) (x:=({ coef:=i64 (-a1),lit:=i64 (-(J:Int)) }:Term)) Z (bM.2 U)
 have Z:=ab.bS (R:=(OR.bu au)) [([I (i64 (-a1)),I (i64 (-(J:Int)))],({ coef:=i64 (-a1),lit:=i64 (-(J:Int)) }:Term))] [({ coef:=i64 (-a1),lit:=i64 (-(J:Int)) }:Term)] 1 Z U U U (by decide)
 have Z:=Z.aU [3,3,3] U
 exact ax ⟨U,_,_,U,Le.refl _,fun _ _=>trivial,Z⟩
 exact aQ
 have Z:ab fs w_ ([oF 122 au a0 ch,box g8 73 #[a0,I 0],box g3 73 #[S0,I 0],oF 122 au (f 44) ([({ coef:=i64 (-a1),lit:=i64 (-(J:Int)) }:Term)])]):=Z
 have Z:=Z.aU [3,1] U
 refine cj (v:=a0) (u:=(f 44)) U lN (hv 1 35 U U) U Z ht (fun fu h7 Z=>fA 0 ck ((a3 6 U).trans a2) U (ei (v:=fu) (cs2:=#[fu,I 0]) 1 U sizeOf71 U U (aH (ab.len 0 Z U)) Z U U U (fun h8 Z=>nn (ae (mF ((a3 1 U).trans b0) U (mF ((a3 0 U).trans b5) U (mF ((a3 7 U).trans a6) U (bP (r:=RP.int) U underlying23 sizeOf3 U (RP.mono _ h0 (Le.trans (Le.trans cn g0) c3)) U c5 (fun h9 ih hz dg g5=>?_)))))))))
 obtain rfl:_=[_]:=dg
 refine bt U isAgg3 U (At.cell (dn.at g5 Z.sub) (j:=0) U) (db U U U (aI U (nn ?_)))
 obtain ⟨rfl,rfl⟩:=xV b4
 have Z:=Z.aU [2,1,2] U
 exact rj fa ⟨fs,fu,c3,((a3 0 U).trans b5),U,((a3 4 U).trans a5),((a3 6 U).trans a2),((a3 7 U).trans a6),Z⟩
 have b4:=(ay fo).symm.trans b4
 refine aq ?_
 obtain ⟨rfl,rfl⟩:=xV b4
 exact rj fa ⟨e3,a0,(Le.refl _),b5,b0,a5,a2,a6,Z⟩
 intro f w_ hR
 obtain ⟨g1,a4,hV,b5,b0,a5,a2,a6,Z⟩:=rk fa hR
 refine ae (mF a6 U (bf U U U (aI U (nn ?_))))
 obtain rfl:=so b2
 show ∃ m,m<_∧hn m _ _
 refine ⟨et,Nat.lt_succ_self _,?_⟩
 exact ij e0 ⟨J+1,et,c2,c7,g1,a4,U,by omega,by omega,cp,(Le.trans (Le.trans cn g0) hV),b5,b0,a5,a2,((eI (aO (n:=1+gd) (by omega) (jg eu)))),Z⟩
 rcases bs with _ | _
 obtain rfl:=eo cp
 refine a9 (rj g6 ⟨an,af,b8,o,U,cn,b0,a5,a2,Z⟩)
 exact absurd (qK ho g7 eu) (of_decide_eq_false e1)
 intro f w_ hR
 obtain ⟨an,af,b8,o,rfl,cn,b0,a5,a2,Z⟩:=rk g6 hR
 refine ao (sq (mF b0 U (bh U U U (nn ?_))))
 obtain ⟨ag,b1,hF⟩:=bind_some hF
 obtain ⟨hA,ej⟩:=ca fun f w_=>f 1=I ag∧f 4=Pt g3∧f 6=Pt g8∧ab b8 w_ ([oF 122 au o af,box g8 73 #[o,I 0],box g3 73 #[S0,I 0]])
 refine av hA ?_ ?_
 refine al (b:=decide (an<0)) U (fun ek=>?_) (fun ek=>?_)
 have b1:=(az ek).symm.trans b1
 refine ae (aI U (nn ?_))
 obtain rfl:=so b1
 exact rj ej ⟨U,a5,a2,Z⟩
 have b1:=(ay ek).symm.trans b1
 refine aq ?_
 obtain rfl:=so b1
 exact rj ej ⟨b0,a5,a2,Z⟩
 intro f w_ hR
 obtain ⟨b0,a5,a2,Z⟩:=rk ej hR
 refine sq (mF b0 U (fA 1 fy a2 U (ei (v:=I ag) (cs2:=#[o,I ag]) 1 U sizeOf3 U U U Z U U U (fun jn Z=>ax (ao (ao ?_))))))
 obtain ⟨hB,hi,hF⟩:=bind_some hF
 refine ae (a7 (cs:=[o,I ag]) U isAgg73 sizeOf73 a2 (At.bK (de.at (ab.aM 0 Z U)) 0 2) U ?_)
 obtain ⟨hj,j1,hC,hD,hE⟩:=Z.borrow
 have hk:(rS 122 au).rel hj [o] af:=cg 1 hD U
 refine ar U call189 (b9 U) (qS (c:=({ terms:=af,bound:=ag }:Con)) hC hk hi) ?_
 rintro _ j2 ⟨rfl,Z⟩
 have Z:=hE Z c0
 refine bL U U (nn (al (b:=(!hB)) U (fun en=>?_) (fun en=>?_)))
 have hF:=(az en).symm.trans hF
 refine sq (da U (cC ) (eg  ) (bg (vs:=#[S0,I 0]) (cs2:=#[S0,I 0]) 2 U sizeOf73 a5 U U (aj U (aj U aK)) Z U (by show 0+2≤2; decide) U (fun j3 Z=>aB U (nn (aA (dc (v1:=.agg #[S0,I 0]) (v2:=Bo false) results153 (bC isAgg73 sizeOf73 a5 (ab.aM 0 Z U) U) U ?_))))))
 obtain rfl:=so hF
 have Z:=ab.bE (R:=(OR.bu au)) (e:=122) Z
 exact ⟨S0,U,(ab.down (ab.aG 1 Z) cn (co bI c0))⟩
 have hF:=(ay en).symm.trans hF
 refine aq (sq (a7 (cs:=[o,I ag]) U isAgg73 sizeOf73 a2 (At.bK (de.at (ab.aM 0 Z U)) 0 2) U (bg (vs:=#[o,I ag]) (cs2:=#[o,I ag]) 2 U sizeOf73 a5 U U (aj (aH (ab.len 1 Z U)) (aj U aK)) Z U (by show 0+2≤2; decide) U (fun j4 Z=>aB U (nn (aA (dc (v1:=.agg #[o,I ag]) (v2:=Bo true) results153 (bC isAgg73 sizeOf73 a5 (ab.aM 0 Z U) U) U ?_)))))))
 obtain rfl:=so hF
 have Z:=Z.get 2 U
 exact ⟨o,U,(ab.down (ab.aG 1 Z) cn (co bI c0))⟩
theorem xL {fu:Nat} {m:Model} {r_:Rule} {v0_0:Value} {v0_1:Value} {v1_1:Value} {v1_2:Value} {v1_4:Value} {H:FH} {w:World} (Z:ab H w []) (h0_0:(rS 3 RP.int).rel H [v0_0] m.sizes) (h0_1:(rS 79 (cY 3 23)).rel H [v0_1] m.rules) (h1_1:(rS 3 RP.int).rel H [v1_1] r_.vars) (h1_2:(rS 3 RP.int).rel H [v1_2] r_.coefs) (h1_4:(rS 23 (rS 3 RP.int)).rel H [v1_4] r_.rows) {r:List Con} (hF:mP fu m r_=some r):C prog 109 #[.agg #[v0_0,v0_1],.agg #[I r_.kind,v1_1,v1_2,I r_.bound,v1_4]] w fun v w'=>∃ (u1:Value),v=u1∧ab H w' [oS 73 (cP 122) u1 r]:=by
 unfold mP at hF
 refine aE func109 U ntmps109 U (sq (cr (v:=.agg #[v0_0,v0_1]) (cs:=#[v0_0,v0_1]) U U U Z (fun g5 w6 Z=>cr (v:=.agg #[I r_.kind,v1_1,v1_2,I r_.bound,v1_4]) (cs:=#[I r_.kind,v1_1,v1_2,I r_.bound,v1_4]) U U U Z (fun g7 w8 Z=>aV S0 U (nq ?_)))))
 obtain ⟨x9,hV,hF⟩:=bind_some hF
 refine ae (xk (R:=(OR.bu RP.int)) (z0:=0) (zc:=[I 0]) U eb (by kernel_rfl) (fun _ _=>⟨U,U⟩) U U hV Z (fun b0 kk Z=>aV b0 U (nq (sq (aI U (nn ?_))))))
 have fa:List.length r_.vars≤9223372036854775807:=bB (ai h1_1)
 obtain ⟨hq,cn,hF⟩:=bind_some hF
 obtain ⟨hW,g1⟩:=ca fun f w_=>∃ af:List Int,∃ b2,hq=.nx af∧Le H b2∧f 3=Pt g7∧f 5=b0∧ab b2 w_ ([oF 3 RP.int b0 af,box g7 79 #[I r_.kind,v1_1,v1_2,I r_.bound,v1_4]])
 refine av hW ?_ ?_
 refine ak ?_
 obtain ⟨hr,ek⟩:=ff fun n f w_=>∃ a0:Nat,∃ bd:List Int,∃ af:List Int,∃ b2,n=bd.length∧List.drop a0 r_.vars=bd∧a0+bd.length=r_.vars.length∧aw (iR fu m r_) bd a0 af=some hq∧Le H b2∧f 2=Pt g5∧f 3=Pt g7∧f 5=b0∧f 6=I a0∧ab b2 w_ ([oF 3 RP.int b0 af,box g7 79 #[I r_.kind,v1_1,v1_2,I r_.bound,v1_4],box g5 26 #[v0_0,v0_1]])
 refine a8 hr (n:=r_.vars.length) ?_ ?_
 exact ij ek ⟨0,r_.vars,x9,H,U,U,Nat.zero_add _,cn,(Le.refl _),U,U,U,U,Z⟩
 intro ks f w_ hI
 obtain ⟨a0,bd,af,b2,rfl,g2,ds,cn,b3,c1,b1,b5,b8,Z⟩:=ik ek hI
 refine ao (sq (mF b8 U (fA 1 cM b1 U (bw 1 Z isAgg23 U U U (aW U underlying23 U (ai (RP.mono _ h1_1 b3)) (bh U U U (nn (al (b:=decide ((a0:Int)<(r_.vars.length:Int))) U (fun en=>?_) (fun en=>?_)))))))))
 have g8:=of_decide_eq_true en
 rcases bd with _ | ⟨cp,ec⟩
 exact absurd g8 (by simp at ds; omega)
 obtain ⟨ky,ee,cn⟩:=aJ cn
 rw [iR] at ee
 have et:=aY g2
 refine aq (ao (ak (sq (aI U (nn ?_)))))
 obtain ⟨hs,b4,ee⟩:=bind_some ee
 obtain ⟨h0,g3⟩:=ca fun f w_=>∃ J:List Int,∃ ag:Int,∃ c2,hs=.nx (J,ag)∧Le b2 c2∧f 2=Pt g5∧f 3=Pt g7∧f 5=b0∧f 6=I a0∧ab c2 w_ ([oF 3 RP.int b0 J,box g7 79 #[I r_.kind,v1_1,v1_2,I r_.bound,v1_4],box g5 26 #[v0_0,v0_1]])
 refine av h0 ?_ ?_
 refine ak ?_
 obtain ⟨ht,eu⟩:=ff fun n f w_=>∃ J:List Int,∃ ag:Int,∃ c2,bx (iM m r_ a0 cp) n (J,ag)=some hs∧Le b2 c2∧f 2=Pt g5∧f 3=Pt g7∧f 5=b0∧f 6=I a0∧f 7=I ag∧ab c2 w_ ([oF 3 RP.int b0 J,box g7 79 #[I r_.kind,v1_1,v1_2,I r_.bound,v1_4],box g5 26 #[v0_0,v0_1]])
 refine a8 ht (n:=fu) ?_ ?_
 exact ij eu ⟨af,0,b2,b4,(Le.refl _),c1,b1,b5,b8,U,Z⟩
 intro g9 f w_ hI
 obtain ⟨J,ag,c2,b4,ch,c1,b1,b5,b8,fo,Z⟩:=ik eu hI
 rcases g9 with _ | g9
 exact (cl b4).elim
 obtain ⟨k0,an,b4⟩:=cq b4
 rw [iM] at an
 refine ao (ao ?_)
 obtain ⟨ha,hv,an⟩:=bind_some an
 refine bT 10 [aZ (I ag),aZ (Pt g5),aZ (v0_0),aZ (Pq g7 1),aZ (v1_1),aZ (I a0),gC RP.int cp 0,aZ (I cp),gC RP.int ha 0,aZ (I ha)] [oF 3 RP.int b0 J,box g7 79 #[I r_.kind,v1_1,v1_2,I r_.bound,v1_4],box g5 26 #[v0_0,v0_1]] [] ([]) [([],[]),([],[]),([],[]),([],[]),([],[]),([],[]),([],[]),([],[]),([],[]),([],[])] (S:=[]) aP (by kernel_rfl) U (by kernel_rfl) (ad (ah _) (ad (ah _) (ad (ah _) (ad (ah _) (ad (ah _) (ad (ah _) (ad (bU _ _ _) (ad (ah _) (ad (bU _ _ _) (ad (ah _) bV)))))))))) Z ?_ (fun f w_ e0 o a3 g4 Z=>?_)
 refine aa (fun f w_ _ _ s _ _ Z=>mF ((s 7 U).trans fo) U (nO U U Z)) (aa (fun f w_ _ _ s _ _ Z=>fA 0 bN ((s 2 U).trans c1) U (nO U U Z)) (aa (fun f w_ _ _ _ _ p Z=>bw 2 Z isAgg23 (p 1 19 U U) U U (nO U U Z)) (aa (fun f w_ _ _ s _ _ Z=>fA 1 cM ((s 3 U).trans b1) U (nO U U Z)) (aa (fun f w_ _ _ _ _ p Z=>bw 1 Z isAgg23 (p 3 21 U U) U U (nO U U Z)) (aa (fun f w_ _ _ s _ _ Z=>mF ((s 6 U).trans b8) U (nO U U Z)) (aa ?_ ?_))))))
 intro f w_ e0 hb o a3 bs Z
 refine bP (r:=RP.int) U underlying23 sizeOf3 (bs 4 22 U U) (RP.mono _ h1_1 (Le.trans (Le.trans b3 ch) a3)) (bs 5 23 U U) et (fun lo l0 hP c5 hc=>?_)
 obtain rfl:_=[_]:=c5
 exact ax ⟨U,_,_,U,Le.refl _,fun _ _=>⟨_,_,_,U,U,hc⟩,Z⟩
 refine aa ?_ ?_
 intro f w_ e0 hb o a3 bs Z
 obtain ⟨l1,l2,h3,hx,c6,hf⟩:=(bs 6 24 U U)
 obtain rfl:_=[_]:=c6
 refine bt U isAgg3 hx (At.cell (dn.at hf Z.sub) (j:=0) U) (ax ⟨U,_,_,U,Le.refl _,fun _ _=>rfl,Z⟩)
 refine aa ?_ ?_
 intro f w_ e0 hb o a3 bs Z
 refine bP (r:=RP.int) U underlying23 sizeOf3 (bs 2 20 U U) (RP.mono _ h0_0 (Le.trans (Le.trans b3 ch) a3)) (bs 7 25 U U) hv (fun l3 l4 hQ c7 hg=>?_)
 obtain rfl:_=[_]:=c7
 exact ax ⟨U,_,_,U,Le.refl _,fun _ _=>⟨_,_,_,U,U,hg⟩,Z⟩
 refine aa ?_ ?_
 intro f w_ e0 hb o a3 bs Z
 obtain ⟨l5,l7,h4,hy,c8,hh⟩:=(bs 8 26 U U)
 obtain rfl:_=[_]:=c8
 refine bt U isAgg3 hy (At.cell (dn.at hh Z.sub) (j:=0) U) (ax ⟨U,_,_,U,Le.refl _,fun _ _=>rfl,Z⟩)
 exact aQ
 refine kE U (g4 0 18 U U) (g4 9 27 U U) (nn (al (b:=decide (ag≤ha)) U (fun e1=>?_) (fun e1=>?_)))
 have an:=(az e1).symm.trans an
 refine aq (ao (ak ?_))
 obtain ⟨hz,hA,an⟩:=bind_some an
 obtain ⟨dd,hB,an⟩:=bind_some an
 obtain ⟨l8,e2,an⟩:=bind_some an
 refine bT 16 [aZ (b0),aZ (.agg #[v0_0,v0_1]),aZ (Pq g7 1),aZ (v1_1),aZ (I a0),gC RP.int cp 0,aZ (I cp),aZ (I ag),aZ (I hz),aZ (Pq g7 2),aZ (v1_2),aZ (I a0),gC RP.int dd 0,aZ (I dd),aZ (I ag),aZ (I (i64 (dd * ag)))] [oF 3 RP.int b0 J,box g7 79 #[I r_.kind,v1_1,v1_2,I r_.bound,v1_4],box g5 26 #[v0_0,v0_1]] [] ([]) [([],[]),([],[]),([],[]),([],[]),([],[]),([],[]),([],[]),([],[]),([],[]),([],[]),([],[]),([],[]),([],[]),([],[]),([],[]),([],[])] (S:=[]) aP (by kernel_rfl) U (by kernel_rfl) (ad (ah _) (ad (ah _) (ad (ah _) (ad (ah _) (ad (ah _) (ad (bU _ _ _) (ad (ah _) (ad (ah _) (ad (ah _) (ad (ah _) (ad (ah _) (ad (ah _) (ad (bU _ _ _) (ad (ah _) (ad (ah _) (ad (ah _) bV)))))))))))))))) Z ?_ (fun f w_ ej a5 a6 e3 Z=>?_)
 refine aa (fun f w_ _ _ s _ _ Z=>mF ((s 5 U).trans ((o 5 U).trans b5)) U (nO U U Z)) (aa (fun f w_ _ _ s _ _ Z=>a7 (cs:=[v0_0,v0_1]) U isAgg26 sizeOf26 ((s 2 U).trans ((o 2 U).trans c1)) (At.bK (de.at (ab.aM 2 Z U)) 0 2) U (nO U U Z)) (aa (fun f w_ _ _ s _ _ Z=>fA 1 cM ((s 3 U).trans ((o 3 U).trans b1)) U (nO U U Z)) (aa (fun f w_ _ _ _ _ p Z=>bw 1 Z isAgg23 (p 2 33 U U) U U (nO U U Z)) (aa (fun f w_ _ _ s _ _ Z=>mF ((s 6 U).trans ((o 6 U).trans b8)) U (nO U U Z)) (aa ?_ ?_)))))
 intro f w_ ej fs a5 a6 a1 Z
 refine bP (r:=RP.int) U underlying23 sizeOf3 (a1 3 34 U U) (RP.mono _ h1_1 (Le.trans (Le.trans (Le.trans b3 ch) a3) a6)) (a1 4 35 U U) et (fun l9 mg hS dg hi=>?_)
 obtain rfl:_=[_]:=dg
 exact ax ⟨U,_,_,U,Le.refl _,fun _ _=>⟨_,_,_,U,U,hi⟩,Z⟩
 refine aa ?_ ?_
 intro f w_ ej fs a5 a6 a1 Z
 obtain ⟨m0,m1,h5,hC,dj,hj⟩:=(a1 5 36 U U)
 obtain rfl:_=[_]:=dj
 refine bt U isAgg3 hC (At.cell (dn.at hj Z.sub) (j:=0) U) (ax ⟨U,_,_,U,Le.refl _,fun _ _=>rfl,Z⟩)
 refine aa (fun f w_ _ _ s _ _ Z=>mF ((s 7 U).trans ((o 7 U).trans fo)) U (nO U U Z)) (aa ?_ ?_)
 intro f w_ ej fs a5 a6 a1 Z
 obtain ⟨h1,g6,hD,h6,hE⟩:=Z.borrow
 refine ar U call70 (k9 (a1 1 32 U U) (a1 6 37 U U) (a1 7 38 U U)) (qB (m:=m) (cell:=cp) (value:=ag) hD (RP.mono _ h0_0 (Le.trans (Le.trans (Le.trans (Le.trans b3 ch) a3) a6) g6)) (RP.mono _ h0_1 (Le.trans (Le.trans (Le.trans (Le.trans b3 ch) a3) a6) g6)) hA) ?_
 rintro _ h7 ⟨rfl,Z⟩
 have Z:=hE Z c0
 exact ax ⟨U,_,_,U,Le.refl _,fun _ _=>rfl,Z⟩
 refine aa (fun f w_ _ _ s _ _ Z=>fA 2 hO ((s 3 U).trans ((o 3 U).trans b1)) U (nO U U Z)) (aa (fun f w_ _ _ _ _ p Z=>bw 1 Z isAgg23 (p 9 40 U U) U U (nO U U Z)) (aa (fun f w_ _ _ s _ _ Z=>mF ((s 6 U).trans ((o 6 U).trans b8)) U (nO U U Z)) (aa ?_ ?_)))
 intro f w_ ej fs a5 a6 a1 Z
 refine bP (r:=RP.int) U underlying23 sizeOf3 (a1 10 41 U U) (RP.mono _ h1_2 (Le.trans (Le.trans (Le.trans b3 ch) a3) a6)) (a1 11 42 U U) hB (fun h8 h9 hG c3 gd=>?_)
 obtain rfl:_=[_]:=c3
 exact ax ⟨U,_,_,U,Le.refl _,fun _ _=>⟨_,_,_,U,U,gd⟩,Z⟩
 refine aa ?_ ?_
 intro f w_ ej fs a5 a6 a1 Z
 obtain ⟨ih,jn,h2,hk,c4,g0⟩:=(a1 12 43 U U)
 obtain rfl:_=[_]:=c4
 refine bt U isAgg3 hk (At.cell (dn.at g0 Z.sub) (j:=0) U) (ax ⟨U,_,_,U,Le.refl _,fun _ _=>rfl,Z⟩)
 refine aa (fun f w_ _ _ s _ _ Z=>mF ((s 7 U).trans ((o 7 U).trans fo)) U (nO U U Z)) (aa (fun f w_ _ _ _ _ p Z=>rf U (p 13 44 U U) (p 14 45 U U) (nO U U Z)) (aQ))
 obtain ⟨j1,hp,e4,_,_⟩:=ab.row 0 Z U e2
 refine bJ (R:=(OR.bu RP.int)) (tb:=0) 0 U underlying23 sizeOf3 (e3 0 31 U U) e4 (by first | rfl | simp) (e3 8 39 U U) e2 ?_
 have Z:=ab.dr (r:=RP.int) (cs:=[I (i64 (dd * ag))]) (x:=(i64 (dd * ag))) Z U
 refine fj (u:=I (i64 (dd * ag))) U sizeOf3 U U (e3 15 46 U U) e4 Z e2 (fun j2 Z=>?_)
 refine nn (ae (mF ((a5 7 U).trans ((o 7 U).trans fo)) U (bf U U U (aI U (nn ?_)))))
 obtain rfl:=so an
 show ∃ m,m<_∧ht m _ _
 refine ⟨g9,Nat.lt_succ_self _,?_⟩
 exact ij eu ⟨(J.set (Int.toNat hz) (i64 (dd * ag))),i64 (ag+1),ej,b4,(Le.trans (Le.trans ch a3) a6),((a5 2 U).trans ((o 2 U).trans c1)),((a5 3 U).trans ((o 3 U).trans b1)),((a5 5 U).trans ((o 5 U).trans b5)),((a5 6 U).trans ((o 6 U).trans b8)),U,Z⟩
 have an:=(ay e1).symm.trans an
 refine a9 ?_
 obtain rfl:=so an
 obtain rfl:=so b4
 exact rj g3 ⟨J,ag,e0,U,(Le.trans ch a3),((o 2 U).trans c1),((o 3 U).trans b1),((o 5 U).trans b5),((o 6 U).trans b8),Z⟩
 intro f w_ hR
 obtain ⟨J,ag,c2,rfl,ch,c1,b1,b5,b8,Z⟩:=rk g3 hR
 refine ae (mF b8 U (bf U U U (aI U (nn ?_))))
 obtain rfl:=so ee
 show ∃ m,m<_∧hr m _ _
 refine ⟨ec.length,by simp,?_⟩
 exact ij ek ⟨a0+1,ec,J,c2,U,aL g2,by simp at ds; omega,cn,(Le.trans b3 ch),c1,b1,b5,((eI (aO (n:=r_.vars.length) (by simp at ds; omega) fa))),Z⟩
 rcases bd with _ | ⟨_,_⟩
 obtain rfl:=aT cn
 refine a9 (rj g1 ⟨af,b2,U,b3,b1,b5,(ab.aG 2 Z)⟩)
 exact absurd (of_decide_eq_false en) (by simp at ds; omega)
 intro f w_ hR
 obtain ⟨af,b2,rfl,b3,b1,b5,Z⟩:=rk g1 hR
 refine ao ?_
 obtain ⟨a4,hl,hF⟩:=bind_some hF
 refine ae (mF b5 U (fA 3 km b1 U (bw 1 Z isAgg3 U U U ?_)))
 obtain ⟨hn,j3,hJ,hK,hN⟩:=Z.borrow
 have ho:(rS 3 RP.int).rel hn [b0] af:=cg 0 hK U
 refine ar U call153 (cu U U) (xq (net:=af) (bound:=r_.bound) hJ ho hl) ?_
 rintro _ j4 ⟨a2,rfl,Z⟩
 have Z:=hN Z (co bI c0)
 refine mV (.tuple #[.agg #[a2,I a4.1.bound],Bo a4.2]) U (dF (v:=.agg #[a2,I a4.1.bound]) U U U (dF (v:=Bo a4.2) U U U (dS (cs:=#[S0,I 0]) U zeroValue73 U Z (fun j5 j6 Z=>bg (vs:=#[a2,I a4.1.bound]) (cs2:=#[a2,I a4.1.bound]) 0 U sizeOf73 U U U (aj (aH (ab.len 1 Z U)) (aj U aK)) Z U (by show 0+2≤2; decide) U (fun j7 Z=>aB U (ax (sq (a7 (cs:=[a2,I a4.1.bound]) U isAgg73 sizeOf73 U (At.bK (de.at (ab.aM 0 Z U)) 0 2) U (cS U (bG U) (iO (a2) (I a4.1.bound) ) Z (fun e5 j8 Z=>?_))))))))))
 have Z:=Z.get 2 U
 have Z:=gr (c:=a4.1) Z
 have Z:=ab.bS (R:=(cP 122)) [([a2,I a4.1.bound],a4.1)] [a4.1] 1 Z U U U (by decide)
 refine aV (Sl e5 1 1) U (nn (aA (aN (v1:=(Sl e5 1 1)) results109 U ?_)))
 obtain rfl:=so hF
 exact ⟨(Sl e5 1 1),U,(ab.down (ab.aG 1 Z) b3 (co ed c0))⟩
theorem xy {fu:Nat} {list:List Int} {v0:Value} {H:FH} {w:World} (Z:ab H w []) (h0:(rS 3 RP.int).rel H [v0] list) {r:List Int} (hF:nb fu list=some r):C prog 154 #[v0] w fun v w'=>∃ (u1:Value),v=u1∧ab H w' [oF 3 RP.int u1 r]:=by
 unfold nb at hF
 refine aE func154 U ntmps154 U (sq (aV S0 U (nq ?_)))
 obtain ⟨x4,g9,hF⟩:=bind_some hF
 refine ae (cS U cC (jd  ) Z (fun g8 w9 Z=>?_))
 have Z:=ab.bS (R:=(OR.bu RP.int)) [] [] 0 Z U U U (by decide)
 refine mV v0 U (qZ (v:=(Sl g8 0 0)) (u:=v0) U eb U U Z h0 g9 (fun v11 hk Z=>aV v11 U (nq (sq (aI U (nn ?_))))))
 obtain ⟨e3,bd,hF⟩:=bind_some hF
 obtain ⟨ha,ds⟩:=ca fun f w_=>∃ ag:List Int,∃ a0:Int,∃ bs,e3=.nx (ag,a0)∧Le H bs∧f 3=v11∧ab bs w_ ([oF 3 RP.int v11 ag])
 refine av ha ?_ ?_
 refine ak ?_
 obtain ⟨e4,cn⟩:=ff fun n f w_=>∃ ag:List Int,∃ a0:Int,∃ bs,bx (iK fu) n (ag,a0)=some e3∧Le H bs∧f 3=v11∧f 4=I a0∧ab bs w_ ([oF 3 RP.int v11 ag])
 refine a8 e4 (n:=fu) ?_ ?_
 exact ij cn ⟨x4,0,H,bd,(Le.refl _),U,U,Z⟩
 intro en f w_ hI
 obtain ⟨ag,a0,bs,bd,c7,a1,b0,Z⟩:=ik cn hI
 rcases en with _ | en
 exact (cl bd).elim
 obtain ⟨hl,a2,bd⟩:=cq bd
 rw [iK] at a2
 refine ao (sq (mF b0 U (mF a1 U (aW U underlying23 U (ab.len 0 Z U) (bh U U U (nn (al (b:=decide (a0<(ag.length:Int))) U (fun cp=>?_) (fun cp=>?_))))))))
 have a2:=(az cp).symm.trans a2
 refine aq (ao (ak (sq (mF b0 U (aI U (nn ?_))))))
 obtain ⟨e5,b1,a2⟩:=bind_some a2
 obtain ⟨hb,ec⟩:=ca fun f w_=>∃ af:List Int,∃ o:Int,∃ b3,e5=.nx (af,o)∧Le bs b3∧f 3=v11∧f 4=I a0∧ab b3 w_ ([oF 3 RP.int v11 af])
 refine av hb ?_ ?_
 refine ak ?_
 obtain ⟨fa,c1⟩:=ff fun n f w_=>∃ af:List Int,∃ o:Int,∃ b3,bx iS n (af,o)=some e5∧Le bs b3∧f 3=v11∧f 4=I a0∧f 5=I o∧ab b3 w_ ([oF 3 RP.int v11 af])
 refine a8 fa (n:=fu) ?_ ?_
 exact ij c1 ⟨ag,a0,bs,b1,(Le.refl _),a1,b0,U,Z⟩
 intro et f w_ hI
 obtain ⟨af,o,b3,b1,c8,a1,b0,a6,Z⟩:=ik c1 hI
 rcases et with _ | et
 exact (cl b1).elim
 obtain ⟨hn,an,b1⟩:=cq b1
 rw [iS] at an
 refine ao (ao ?_)
 obtain ⟨dd,a4,an⟩:=bind_some an
 obtain ⟨hc,c2⟩:=ca fun f w_=>∃ c3,Le b3 c3∧f 3=v11∧f 4=I a0∧f 5=I o∧f 30=Bo dd∧ab c3 w_ ([oF 3 RP.int v11 af])
 refine av hc ?_ ?_
 rcases Bool.eq_false_or_eq_true (decide (o > 0)) with J | J
 rw [az J] at a4
 obtain ⟨fo,c4,a4⟩:=bind_some a4
 obtain ⟨fs,ee,a4⟩:=bind_some a4
 obtain ⟨gd,g0,ch,_,_⟩:=ab.row 0 Z U c4
 refine cv 12 [I o,Bo (decide (o > 0)),Bo (decide (o > 0)),v11,I o,Value.pointer (some ⟨gd,Int.toNat o * 1,none⟩),I fo,v11,I o,I (i64 (o - 1)),Value.pointer (some ⟨gd,Int.toNat (i64 (o - 1)) * 1,none⟩),I fs] [oF 3 RP.int v11 af] [] ([]) [([],[]),([],[]),([],[]),([],[]),([],[]),([],[]),([],[]),([],[]),([],[]),([],[]),([],[]),([],[])] (S:=[]) aP (by kernel_rfl) U (by kernel_rfl) Z ?_ (fun f w_ c5 a3 b4 b2 Z=>?_)
 refine aa (fun f w_ _ _ s _ _ Z=>mF ((s 5 U).trans a6) U (nO U U Z)) (aa (fun f w_ _ _ _ _ p Z=>c9 U (p 0 17 U U) U (nO U U Z)) (aa (fun f w_ _ _ _ _ p Z=>mF (p 1 18 U U) U (nO U U Z)) (aa (fun f w_ _ _ s _ p Z=>iV (v:=v11) (bm U (cB (p 2 19 U U) J) U) ((s 3 U).trans a1) (nO U U Z)) (aa (fun f w_ _ _ s _ p Z=>iV (v:=I o) (bm U (cB (p 2 19 U U) J) U) ((s 5 U).trans a6) (nO U U Z)) (aa (fun f w_ _ _ _ _ p Z=>bJ (R:=(OR.bu RP.int)) (tb:=0) 0 (bm U (cB (p 2 19 U U) J) U) underlying23 sizeOf3 (p 3 20 U U) ch (by first | rfl | simp) (p 4 21 U U) c4 (nO U U Z)) (aa ?_ ?_))))))
 intro f w_ c5 hf a3 b4 b5 Z
 obtain ⟨hg,g1,eu⟩:=ab.fE 0 Z U ch c4
 obtain rfl:_=[_]:=g1
 refine bt (v:=I fo) (bm U (cB (b5 2 19 U U) J) U) isAgg3 (b5 5 22 U U) (At.cell eu (j:=0) U) (ax ⟨U,_,_,U,Le.refl _,fun _ _=>rfl,Z⟩)
 refine aa (fun f w_ _ _ s _ p Z=>iV (v:=v11) (bm U (cB (p 2 19 U U) J) U) ((s 3 U).trans a1) (nO U U Z)) (aa (fun f w_ _ _ s _ p Z=>iV (v:=I o) (bm U (cB (p 2 19 U U) J) U) ((s 5 U).trans a6) (nO U U Z)) (aa (fun f w_ _ _ _ _ p Z=>db (bm U (cB (p 2 19 U U) J) U) (p 8 25 U U) U (nO U U Z)) (aa (fun f w_ _ _ _ _ p Z=>bJ (R:=(OR.bu RP.int)) (tb:=0) 0 (bm U (cB (p 2 19 U U) J) U) underlying23 sizeOf3 (p 7 24 U U) ch (by first | rfl | simp) (p 9 26 U U) ee (nO U U Z)) (aa ?_ ?_))))
 intro f w_ c5 hf a3 b4 b5 Z
 obtain ⟨hh,g2,e0⟩:=ab.fE 0 Z U ch ee
 obtain rfl:_=[_]:=g2
 refine bt (v:=I fs) (bm U (cB (b5 2 19 U U) J) U) isAgg3 (b5 10 27 U U) (At.cell e0 (j:=0) U) (ax ⟨U,_,_,U,Le.refl _,fun _ _=>rfl,Z⟩)
 exact aQ
 refine bh (bm U (cB (b2 2 19 U U) J) U) (b2 6 23 U U) (b2 11 28 U U) (aC (v:=Bo dd) U (cB (b2 2 19 U U) J) (congrArg Value.bool (so a4)) (nn (rj c2 ⟨c5,b4,((a3 3 U).trans a1),((a3 4 U).trans b0),((a3 5 U).trans a6),U,Z⟩)))
 rw [ay J] at a4
 refine cv 12 [I o,Bo (decide (o > 0)),Bo (decide (o > 0)),undef,undef,undef,undef,undef,undef,undef,undef,undef] [oF 3 RP.int v11 af] [] ([]) [([],[]),([],[]),([],[]),([],[]),([],[]),([],[]),([],[]),([],[]),([],[]),([],[]),([],[]),([],[])] (S:=[]) aP (by kernel_rfl) U (by kernel_rfl) Z ?_ (fun f w_ c5 a3 b4 b2 Z=>?_)
 refine aa (fun f w_ _ _ s _ _ Z=>mF ((s 5 U).trans a6) U (nO U U Z)) (aa (fun f w_ _ _ _ _ p Z=>c9 U (p 0 17 U U) U (nO U U Z)) (aa (fun f w_ _ _ _ _ p Z=>mF (p 1 18 U U) U (nO U U Z)) (oP (fun _ _ p=>gN (p 2 19 U U) J U) (fun _=>rfl) (oP (fun _ _ p=>gN (p 2 19 U U) J U) (fun _=>rfl) (oP (fun _ _ p=>gN (p 2 19 U U) J U) (fun _=>rfl) (oP (fun _ _ p=>gN (p 2 19 U U) J U) (fun _=>rfl) (oP (fun _ _ p=>gN (p 2 19 U U) J U) (fun _=>rfl) (oP (fun _ _ p=>gN (p 2 19 U U) J U) (fun _=>rfl) (oP (fun _ _ p=>gN (p 2 19 U U) J U) (fun _=>rfl) (oP (fun _ _ p=>gN (p 2 19 U U) J U) (fun _=>rfl) (oP (fun _ _ p=>gN (p 2 19 U U) J U) (fun _=>rfl) (aQ))))))))))))
 refine ps (rn U (cB (b2 2 19 U U) J) U U) (aC (v:=Bo dd) U (cB (b2 2 19 U U) J) (congrArg Value.bool (so a4)) (nn (rj c2 ⟨c5,b4,((a3 3 U).trans a1),((a3 4 U).trans b0),((a3 5 U).trans a6),U,Z⟩)))
 intro f w_ hR
 obtain ⟨c3,g3,a1,b0,a6,g4,Z⟩:=rk c2 hR
 refine al (b:=dd) g4 (fun c6=>?_) (fun c6=>?_)
 have an:=(az c6).symm.trans an
 refine aq (ao (ak (ao ?_)))
 obtain ⟨dg,b8,an⟩:=bind_some an
 refine ae (mF a1 U (mF a6 U ?_))
 obtain ⟨ho,g5,a5,_,_⟩:=ab.row 0 Z U b8
 refine bJ (R:=(OR.bu RP.int)) (tb:=0) 0 U underlying23 sizeOf3 U a5 (by first | rfl | simp) U b8 ?_
 obtain ⟨hi,g6,e1⟩:=ab.fE 0 Z U a5 b8
 obtain rfl:_=[_]:=g6
 refine bt U isAgg3 U (At.cell e1 (j:=0) U) (aI U (ax (ao ?_)))
 obtain ⟨dj,ej,an⟩:=bind_some an
 refine ae (mF a1 U (mF a6 U (mF a1 U (mF a6 U (db U U U (bJ (R:=(OR.bu RP.int)) (tb:=0) 0 U underlying23 sizeOf3 U a5 (by first | rfl | simp) U ej ?_))))))
 obtain ⟨hj,g7,e2⟩:=ab.fE 0 Z U a5 ej
 obtain rfl:_=[_]:=g7
 refine bt U isAgg3 U (At.cell e2 (j:=0) U) (bJ (R:=(OR.bu RP.int)) (tb:=0) 0 U underlying23 sizeOf3 U a5 (by first | rfl | simp) U b8 ?_)
 have Z:=ab.dr (r:=RP.int) (cs:=[I dj]) (x:=dj) Z U
 refine fj (u:=I dj) U sizeOf3 U U U a5 Z b8 (fun hp Z=>?_)
 refine nn ?_
 obtain ⟨hq,ek,an⟩:=bind_some an
 refine ae (mF a1 U (mF a6 U (db U U U (mI U (bJ (R:=(OR.bu RP.int)) (tb:=0) 0 U underlying23 sizeOf3 U a5 (by first | rfl | simp) U ek ?_)))))
 have Z:=ab.dr (r:=RP.int) (cs:=[I dg]) (x:=dg) Z U
 refine fj (u:=I dg) U sizeOf3 U U U a5 Z ek (fun hr Z=>?_)
 refine nn (ae (mF a6 U (db U U U (aI U (nn ?_)))))
 obtain rfl:=so an
 show ∃ m,m<_∧fa m _ _
 refine ⟨et,Nat.lt_succ_self _,?_⟩
 exact ij c1 ⟨((af.set (Int.toNat o) dj).set (Int.toNat (i64 (o - 1))) dg),i64 (o - 1),c3,b1,(Le.trans c8 g3),a1,b0,U,Z⟩
 have an:=(ay c6).symm.trans an
 refine a9 ?_
 obtain rfl:=so an
 obtain rfl:=so b1
 exact rj ec ⟨af,o,c3,U,(Le.trans c8 g3),a1,b0,Z⟩
 intro f w_ hR
 obtain ⟨af,o,b3,rfl,c8,a1,b0,Z⟩:=rk ec hR
 refine ae (mF b0 U (bf U U U (aI U (nn ?_))))
 obtain rfl:=so a2
 show ∃ m,m<_∧e4 m _ _
 refine ⟨en,Nat.lt_succ_self _,?_⟩
 exact ij cn ⟨af,i64 (a0+1),b3,bd,(Le.trans c7 c8),a1,U,Z⟩
 have a2:=(ay cp).symm.trans a2
 refine a9 ?_
 obtain rfl:=so a2
 obtain rfl:=so bd
 exact rj ds ⟨ag,a0,bs,U,c7,a1,Z⟩
 intro f w_ hR
 obtain ⟨ag,a0,bs,rfl,c7,a1,Z⟩:=rk ds hR
 refine sq (mF a1 U (aV v11 U (nn (aA (aN (v1:=v11) results154 U ?_)))))
 obtain rfl:=so hF
 exact ⟨v11,U,(ab.down Z c7 (co bk c0))⟩
theorem tJ {fu:Nat} {m:Model} {r_:Rule} {v0_0:Value} {v0_1:Value} {v1_1:Value} {v1_2:Value} {v1_4:Value} {H:FH} {w:World} (Z:ab H w []) (h0_0:(rS 3 RP.int).rel H [v0_0] m.sizes) (h0_1:(rS 79 (cY 3 23)).rel H [v0_1] m.rules) (h1_1:(rS 3 RP.int).rel H [v1_1] r_.vars) (h1_2:(rS 3 RP.int).rel H [v1_2] r_.coefs) (h1_4:(rS 23 (rS 3 RP.int)).rel H [v1_4] r_.rows) {r:List Con} (hF:kd fu m r_=some r):C prog 110 #[.agg #[v0_0,v0_1],.agg #[I r_.kind,v1_1,v1_2,I r_.bound,v1_4]] w fun v w'=>∃ (u1:Value),v=u1∧ab H w' [oS 73 (cP 122) u1 r]:=by
 unfold kd at hF
 refine aE func110 U ntmps110 U (sq (cr (v:=.agg #[v0_0,v0_1]) (cs:=#[v0_0,v0_1]) U U U Z (fun g5 w6 Z=>cr (v:=.agg #[I r_.kind,v1_1,v1_2,I r_.bound,v1_4]) (cs:=#[I r_.kind,v1_1,v1_2,I r_.bound,v1_4]) U U U Z (fun g7 w8 Z=>aV S0 U (ns (cS U cC (qw  ) Z (fun hP n7 Z=>?_)))))))
 have Z:=ab.bS (R:=(OR.bu (ba 122))) [] [] 0 Z U U U (by decide)
 refine aV (Sl hP 0 0) U (nq (sq (aI U (nn ?_))))
 obtain ⟨g8,fs,hF⟩:=bind_some hF
 obtain ⟨hQ,c3,hF⟩:=bind_some hF
 obtain ⟨ks,hg⟩:=ca fun f w_=>∃ ag:List Con,∃ cn,∃ o,hQ=.nx ag∧Le H cn∧f 5=o∧ab cn w_ ([oS 73 (cP 122) o ag])
 refine av ks ?_ ?_
 refine ak ?_
 obtain ⟨hS,gd⟩:=ff fun n f w_=>∃ a1:Nat,∃ b8:Nat,∃ ag:List Con,∃ cn,∃ o,b8=n∧0≤a1∧a1+b8=0+g8∧cI (gb fu m r_) b8 a1 ag=some hQ∧Le H cn∧f 2=Pt g5∧f 3=Pt g7∧f 5=o∧f 6=I a1∧ab cn w_ ([oS 73 (cP 122) o ag,box g7 79 #[I r_.kind,v1_1,v1_2,I r_.bound,v1_4],box g5 26 #[v0_0,v0_1]])
 have Z:=ab.uL (R:=(OR.bu (ba 122))) (R':=(cP 122)) U Z
 refine a8 hS (n:=g8) ?_ ?_
 exact ij gd ⟨0,g8,[],H,(Sl hP 0 0),U,Nat.le_refl _,U,c3,(Le.refl _),U,U,U,U,Z⟩
 intro n8 f w_ hI
 obtain ⟨a1,b8,ag,cn,o,rfl,hV,hh,c3,cp,b3,bs,b0,b1,Z⟩:=ik gd hI
 refine ao (sq (mF b1 U (kE U U U (nn (al (b:=decide ((a1:Int)≤3)) U (fun g0=>?_) (fun g0=>?_))))))
 have hq:=of_decide_eq_true g0
 rcases b8 with _ | e2
 exact absurd hq (rV hh fs)
 obtain ⟨ob,c4,c3⟩:=eA c3
 rw [gb] at c4
 refine aq (ao (ak (sq (cS U cC (jd  ) Z (fun hW oh Z=>?_)))))
 have Z:=ab.bS (R:=(OR.bu RP.int)) [] [] 0 Z U U U (by decide)
 refine aV (Sl hW 0 0) U (nq (sq (aI U (nn ?_))))
 have g9:List.length r_.vars≤9223372036854775807:=bB (ai (RP.mono _ h1_1 cp))
 obtain ⟨h0,c5,c4⟩:=bind_some c4
 obtain ⟨ky,hi⟩:=ca fun f w_=>∃ af:List Int,∃ c1,∃ J,h0=.nx af∧Le cn c1∧f 2=Pt g5∧f 3=Pt g7∧f 5=o∧f 6=I a1∧f 7=J∧ab c1 w_ ([oS 73 (cP 122) o ag,oF 3 RP.int J af,box g7 79 #[I r_.kind,v1_1,v1_2,I r_.bound,v1_4],box g5 26 #[v0_0,v0_1]])
 refine av ky ?_ ?_
 refine ak ?_
 obtain ⟨h1,g1⟩:=ff fun n f w_=>∃ a4:Nat,∃ b2:List Int,∃ af:List Int,∃ c1,∃ J,n=b2.length∧List.drop a4 r_.vars=b2∧a4+b2.length=r_.vars.length∧aw (gf m a1) b2 a4 af=some h0∧Le cn c1∧f 2=Pt g5∧f 3=Pt g7∧f 5=o∧f 6=I a1∧f 7=J∧f 8=I a4∧ab c1 w_ ([oS 73 (cP 122) o ag,oF 3 RP.int J af,box g7 79 #[I r_.kind,v1_1,v1_2,I r_.bound,v1_4],box g5 26 #[v0_0,v0_1]])
 have Z:=Z.aU [3,3,2,3] U
 refine a8 h1 (n:=r_.vars.length) ?_ ?_
 exact ij g1 ⟨0,r_.vars,[],cn,(Sl hW 0 0),U,U,Nat.zero_add _,c5,(Le.refl _),b3,bs,b0,b1,U,U,Z⟩
 intro oj f w_ hI
 obtain ⟨a4,b2,af,c1,J,rfl,hj,e3,c5,c2,b3,bs,b0,b1,c8,ej,Z⟩:=ik g1 hI
 refine ao (sq (mF ej U (fA 1 cM bs U (bw 2 Z isAgg23 U U U (aW U underlying23 U (ai (RP.mono _ h1_1 (Le.trans cp c2))) (bh U U U (nn (al (b:=decide ((a4:Int)<(r_.vars.length:Int))) U (fun g2=>?_) (fun g2=>?_)))))))))
 have hr:=of_decide_eq_true g2
 rcases b2 with _ | ⟨dd,e4⟩
 exact absurd hr (by simp at e3; omega)
 obtain ⟨oq,c6,c5⟩:=aJ c5
 rw [gf] at c6
 have g3:=aY hj
 refine aq (ao (ak (ao ?_)))
 obtain ⟨hs,h2,c6⟩:=bind_some c6
 refine bT 10 [aZ (I a1),aZ (Pt g5),aZ (v0_0),aZ (Pq g7 1),aZ (v1_1),aZ (I a4),gC RP.int dd 0,aZ (I dd),gC RP.int hs 0,aZ (I hs)] [oS 73 (cP 122) o ag,oF 3 RP.int J af,box g7 79 #[I r_.kind,v1_1,v1_2,I r_.bound,v1_4],box g5 26 #[v0_0,v0_1]] [] ([]) [([],[]),([],[]),([],[]),([],[]),([],[]),([],[]),([],[]),([],[]),([],[]),([],[])] (S:=[]) aP (by kernel_rfl) U (by kernel_rfl) (ad (ah _) (ad (ah _) (ad (ah _) (ad (ah _) (ad (ah _) (ad (ah _) (ad (bU _ _ _) (ad (ah _) (ad (bU _ _ _) (ad (ah _) bV)))))))))) Z ?_ (fun f w_ fa an a5 hk Z=>?_)
 refine aa (fun f w_ _ _ s _ _ Z=>mF ((s 6 U).trans b1) U (nO U U Z)) (aa (fun f w_ _ _ s _ _ Z=>fA 0 bN ((s 2 U).trans b3) U (nO U U Z)) (aa (fun f w_ _ _ _ _ p Z=>bw 3 Z isAgg23 (p 1 23 U U) U U (nO U U Z)) (aa (fun f w_ _ _ s _ _ Z=>fA 1 cM ((s 3 U).trans bs) U (nO U U Z)) (aa (fun f w_ _ _ _ _ p Z=>bw 2 Z isAgg23 (p 3 25 U U) U U (nO U U Z)) (aa (fun f w_ _ _ s _ _ Z=>mF ((s 8 U).trans ej) U (nO U U Z)) (aa ?_ ?_))))))
 intro f w_ fa ht an a5 b4 Z
 refine bP (r:=RP.int) U underlying23 sizeOf3 (b4 4 26 U U) (RP.mono _ h1_1 (Le.trans (Le.trans cp c2) a5)) (b4 5 27 U U) g3 (fun o0 o1 j8 ek hv=>?_)
 obtain rfl:_=[_]:=ek
 exact ax ⟨U,_,_,U,Le.refl _,fun _ _=>⟨_,_,_,U,U,hv⟩,Z⟩
 refine aa ?_ ?_
 intro f w_ fa ht an a5 b4 Z
 obtain ⟨o2,o3,l2,h3,en,hx⟩:=(b4 6 28 U U)
 obtain rfl:_=[_]:=en
 refine bt U isAgg3 h3 (At.cell (dn.at hx Z.sub) (j:=0) U) (ax ⟨U,_,_,U,Le.refl _,fun _ _=>rfl,Z⟩)
 refine aa ?_ ?_
 intro f w_ fa ht an a5 b4 Z
 refine bP (r:=RP.int) U underlying23 sizeOf3 (b4 2 24 U U) (RP.mono _ h0_0 (Le.trans (Le.trans cp c2) a5)) (b4 7 29 U U) h2 (fun o4 o5 kk et hy=>?_)
 obtain rfl:_=[_]:=et
 exact ax ⟨U,_,_,U,Le.refl _,fun _ _=>⟨_,_,_,U,U,hy⟩,Z⟩
 refine aa ?_ ?_
 intro f w_ fa ht an a5 b4 Z
 obtain ⟨o6,o7,l3,h4,eu,hz⟩:=(b4 8 30 U U)
 obtain rfl:_=[_]:=eu
 refine bt U isAgg3 h4 (At.cell (dn.at hz Z.sub) (j:=0) U) (ax ⟨U,_,_,U,Le.refl _,fun _ _=>rfl,Z⟩)
 exact aQ
 refine kE U (hk 0 22 U U) (hk 9 31 U U) (nn ?_)
 obtain ⟨dg,a6,c6⟩:=bind_some c6
 obtain ⟨k0,g4⟩:=ca fun f w_=>∃ ha,∃ a2,Le fa ha∧f 2=Pt g5∧f 3=Pt g7∧f 5=o∧f 6=I a1∧f 7=a2∧f 8=I a4∧ab ha w_ ([oS 73 (cP 122) o ag,oF 3 RP.int a2 dg,box g7 79 #[I r_.kind,v1_1,v1_2,I r_.bound,v1_4],box g5 26 #[v0_0,v0_1]])
 refine av k0 ?_ ?_
 refine al (b:=decide ((a1:Int)≤hs)) U (fun g6=>?_) (fun g6=>?_)
 have a6:=(az g6).symm.trans a6
 obtain ⟨c7,h5,a6⟩:=bind_some a6
 obtain ⟨o8,h6,a6⟩:=bind_some a6
 refine bT 10 [aZ (J),aZ (.agg #[v0_0,v0_1]),aZ (Pq g7 1),aZ (v1_1),aZ (I a4),gC RP.int dd 0,aZ (I dd),aZ (I a1),aZ (I c7),gE] [oS 73 (cP 122) o ag,oF 3 RP.int J af,box g7 79 #[I r_.kind,v1_1,v1_2,I r_.bound,v1_4],box g5 26 #[v0_0,v0_1]] [.made 9 42 (fun v_=>oF 3 RP.int v_ ([c7])) none] ([]) [([],[]),([],[]),([],[]),([],[]),([],[]),([],[]),([],[]),([],[]),([],[]),([],[0])] (S:=[(some 9,[42],none)]) aP (by kernel_rfl) U (by kernel_rfl) (ad (ah _) (ad (ah _) (ad (ah _) (ad (ah _) (ad (ah _) (ad (bU _ _ _) (ad (ah _) (ad (ah _) (ad (ah _) (ad (bO) bV)))))))))) Z ?_ (fun f w_ fo b5 ch h7 Z=>?_)
 refine aa (fun f w_ _ _ s _ _ Z=>mF ((s 7 U).trans ((an 7 U).trans c8)) U (nO U U Z)) (aa (fun f w_ _ _ s _ _ Z=>a7 (cs:=[v0_0,v0_1]) U isAgg26 sizeOf26 ((s 2 U).trans ((an 2 U).trans b3)) (At.bK (de.at (ab.aM 3 Z U)) 0 2) U (nO U U Z)) (aa (fun f w_ _ _ s _ _ Z=>fA 1 cM ((s 3 U).trans ((an 3 U).trans bs)) U (nO U U Z)) (aa (fun f w_ _ _ _ _ p Z=>bw 2 Z isAgg23 (p 2 35 U U) U U (nO U U Z)) (aa (fun f w_ _ _ s _ _ Z=>mF ((s 8 U).trans ((an 8 U).trans ej)) U (nO U U Z)) (aa ?_ ?_)))))
 intro f w_ fo hA b5 ch bd Z
 refine bP (r:=RP.int) U underlying23 sizeOf3 (bd 3 36 U U) (RP.mono _ h1_1 (Le.trans (Le.trans (Le.trans cp c2) a5) ch)) (bd 4 37 U U) g3 (fun l4 l5 h8 dj hb=>?_)
 obtain rfl:_=[_]:=dj
 exact ax ⟨U,_,_,U,Le.refl _,fun _ _=>⟨_,_,_,U,U,hb⟩,Z⟩
 refine aa ?_ ?_
 intro f w_ fo hA b5 ch bd Z
 obtain ⟨l7,l8,lo,hB,ds,hc⟩:=(bd 5 38 U U)
 obtain rfl:_=[_]:=ds
 refine bt U isAgg3 hB (At.cell (dn.at hc Z.sub) (j:=0) U) (ax ⟨U,_,_,U,Le.refl _,fun _ _=>rfl,Z⟩)
 refine aa (fun f w_ _ _ s _ _ Z=>mF ((s 6 U).trans ((an 6 U).trans b1)) U (nO U U Z)) (aa ?_ ?_)
 intro f w_ fo hA b5 ch bd Z
 obtain ⟨l0,hl,h9,l9,ih⟩:=Z.borrow
 refine ar U call70 (k9 (bd 1 34 U U) (bd 6 39 U U) (bd 7 40 U U)) (qB (m:=m) (cell:=dd) (value:=(a1:Int)) h9 (RP.mono _ h0_0 (Le.trans (Le.trans (Le.trans (Le.trans cp c2) a5) ch) hl)) (RP.mono _ h0_1 (Le.trans (Le.trans (Le.trans (Le.trans cp c2) a5) ch) hl)) h5) ?_
 rintro _ mg ⟨rfl,Z⟩
 have Z:=ih Z c0
 exact ax ⟨U,_,_,U,Le.refl _,fun _ _=>rfl,Z⟩
 refine aa ?_ ?_
 intro f w_ fo hA b5 ch bd Z
 refine cS U (bG (bd 8 41 U U)) (dp (I c7) U) Z (fun m0 m1 Z=>?_)
 have Z:=ab.dr (r:=RP.int) (cs:=[I c7]) (x:=c7) Z U
 have Z:=ab.bS (R:=(OR.bu RP.int)) [([I c7],c7)] [c7] 1 Z U U U (by decide)
 have Z:=Z.aU [4,4,4,4] U
 exact ax ⟨U,_,_,U,Le.refl _,fun _ _=>trivial,Z⟩
 exact aQ
 have Z:ab fo w_ ([oS 73 (cP 122) o ag,oF 3 RP.int J af,box g7 79 #[I r_.kind,v1_1,v1_2,I r_.bound,v1_4],box g5 26 #[v0_0,v0_1],oF 3 RP.int (f 42) ([c7])]):=Z
 have Z:=Z.aU [4,2] U
 refine cj (v:=J) (u:=(f 42)) U eb (h7 0 33 U U) U Z h6 (fun hn m2 Z=>aV hn U (nn ?_))
 obtain rfl:=so a6
 have Z:=Z.aU [3,3,2,3] U
 exact rj g4 ⟨fo,hn,ch,((b5 2 U).trans ((an 2 U).trans b3)),((b5 3 U).trans ((an 3 U).trans bs)),((b5 5 U).trans ((an 5 U).trans b0)),((b5 6 U).trans ((an 6 U).trans b1)),U,((b5 8 U).trans ((an 8 U).trans ej)),Z⟩
 have a6:=(ay g6).symm.trans a6
 refine aq ?_
 obtain rfl:=so a6
 exact rj g4 ⟨fa,J,(Le.refl _),((an 2 U).trans b3),((an 3 U).trans bs),((an 5 U).trans b0),((an 6 U).trans b1),((an 7 U).trans c8),((an 8 U).trans ej),Z⟩
 intro f w_ hR
 obtain ⟨ha,a2,l1,b3,bs,b0,b1,c8,ej,Z⟩:=rk g4 hR
 refine ae (mF ej U (bf U U U (aI U (nn ?_))))
 obtain rfl:=so c6
 show ∃ m,m<_∧h1 m _ _
 refine ⟨e4.length,by simp,?_⟩
 exact ij g1 ⟨a4+1,e4,dg,ha,a2,U,aL hj,by simp at e3; omega,c5,(Le.trans (Le.trans c2 a5) l1),b3,bs,b0,b1,c8,((eI (aO (n:=r_.vars.length) (by simp at e3; omega) g9))),Z⟩
 rcases b2 with _ | ⟨_,_⟩
 obtain rfl:=aT c5
 refine a9 (rj hi ⟨af,c1,J,U,c2,b3,bs,b0,b1,c8,Z⟩)
 exact absurd (of_decide_eq_false g2) (by simp at e3; omega)
 intro f w_ hR
 obtain ⟨af,c1,J,rfl,c2,b3,bs,b0,b1,c8,Z⟩:=rk hi hR
 refine sq (mF c8 U (aW U underlying23 U (ab.len 1 Z U) (c9 U U U (nn ?_))))
 obtain ⟨ec,a0,c4⟩:=bind_some c4
 obtain ⟨jn,e0⟩:=ca fun f w_=>∃ a3,f 2=Pt g5∧f 3=Pt g7∧f 5=a3∧f 6=I a1∧ab c1 w_ ([oS 73 (cP 122) a3 ec,box g7 79 #[I r_.kind,v1_1,v1_2,I r_.bound,v1_4],box g5 26 #[v0_0,v0_1]])
 refine av jn ?_ ?_
 refine al (b:=decide ((af.length:Int) > 1)) U (fun e1=>?_) (fun e1=>?_)
 have a0:=(az e1).symm.trans a0
 obtain ⟨ho,hC,a0⟩:=bind_some a0
 obtain ⟨ee,hD,a0⟩:=bind_some a0
 obtain ⟨n0,hE,a0⟩:=bind_some a0
 refine ae (mF b0 U (mF c8 U ?_))
 obtain ⟨hG,n1,j1,j2,j3⟩:=Z.borrow
 have hJ:(rS 3 RP.int).rel hG [J] af:=cg 1 j2 U
 refine ar U call154 (b9 U) (xy (list:=af) j1 hJ hC) ?_
 rintro hf n2 ⟨_,rfl,Z⟩
 have Z:=j3 Z (co bk c0)
 obtain ⟨hK,n3,j4,j5,j6⟩:=Z.borrow
 have hN:(rS 3 RP.int).rel hK [hf] ho:=cg 0 j5 U
 refine ar U call108 (b9 U) (vq (vars:=ho) j4 hN hD) ?_
 rintro _ n4 ⟨e5,rfl,Z⟩
 have Z:=j6 Z (co bI c0)
 refine cS U (bG U) (iO (e5) (I ee.bound) ) Z (fun j7 n5 Z=>?_)
 have Z:=Z.get 1 U
 have Z:=gr (c:=ee) Z
 have Z:=ab.bS (R:=(cP 122)) [([e5,I ee.bound],ee)] [ee] 1 Z U U U (by decide)
 have Z:=Z.get 2 U
 refine cj (v:=o) (u:=(Sl j7 1 1)) U nU U U Z hE (fun hp n6 Z=>aV hp U (nn ?_))
 obtain rfl:=so a0
 have Z:=Z.aU [4,4,2] U
 exact rj e0 ⟨hp,b3,bs,U,b1,(ab.aG 3 Z)⟩
 have a0:=(ay e1).symm.trans a0
 refine aq ?_
 obtain rfl:=so a0
 have Z:=Z.aU [3,3,2] U
 exact rj e0 ⟨o,b3,bs,b0,b1,(ab.aG 3 Z)⟩
 intro f w_ hR
 obtain ⟨a3,b3,bs,b0,b1,Z⟩:=rk e0 hR
 refine ae (mF b1 U (bf U U U (aI U (nn ?_))))
 obtain rfl:=so c4
 show ∃ m,m<_∧hS m _ _
 refine ⟨e2,Nat.lt_succ_self _,?_⟩
 exact ij gd ⟨a1+1,e2,ec,c1,a3,U,by omega,by omega,c3,(Le.trans cp c2),b3,bs,b0,((eI (aO (n:=0+g8) (by omega) (jg fs)))),Z⟩
 rcases b8 with _ | _
 obtain rfl:=eo c3
 refine a9 (rj hg ⟨ag,cn,o,U,cp,b0,(ab.aG 1 Z)⟩)
 exact absurd (qK hV hh fs) (of_decide_eq_false g0)
 intro f w_ hR
 obtain ⟨ag,cn,o,rfl,cp,b0,Z⟩:=rk hg hR
 refine sq (mF b0 U (aV o U (nn (aA (aN (v1:=o) results110 U ?_)))))
 obtain rfl:=so hF
 exact ⟨o,U,(ab.down Z cp (co ed c0))⟩
theorem Aa {a:List Int} {b:List Int} {v0:Value} {v1:Value} {H:FH} {w:World} (Z:ab H w []) (h0:(rS 3 RP.int).rel H [v0] a) (h1:(rS 3 RP.int).rel H [v1] b) {r:Bool} (hF:pL a b=some r):C prog 190 #[v0,v1] w fun v w'=>v=Bo r∧ab H w' []:=by
 unfold pL at hF
 refine aE func190 U ntmps190 U (sq (aB U (nq (sq (mV v0 U (aW U underlying23 U (ai h0) (mV v1 U (aW U underlying23 U (ai h1) (gS U U U (nn (al (b:=((a.length:Int) != (b.length:Int))) U (fun b2=>?_) (fun b2=>?_))))))))))))
 have hF:=(az b2).symm.trans hF
 refine sq (aB U (nn (aA (aN (v1:=Bo false) results190 U ?_))))
 obtain rfl:=so hF
 exact ⟨U,Z⟩
 have hF:=(ay b2).symm.trans hF
 refine aq (ao (sq (aI U (nn ?_))))
 have b3:List.length a≤9223372036854775807:=bB (ai h0)
 obtain ⟨j5,a0,hF⟩:=bind_some hF
 obtain ⟨R5,c5⟩:=ca fun f w_=>∃ H3,j5=.nx ()∧Le H H3∧ab H3 w_ ([])
 refine av R5 ?_ ?_
 refine ak ?_
 obtain ⟨I5,b4⟩:=ff fun n f w_=>∃ ag:Nat,∃ R:List Int,∃ H3,n=R.length∧List.drop ag a=R∧ag+R.length=a.length∧aw (nf b) R ag ()=some j5∧Le H H3∧f 0=v0∧f 1=v1∧f 5=I ag∧ab H3 w_ ([])
 refine a8 I5 (n:=a.length) ?_ ?_
 exact ij b4 ⟨0,a,H,U,U,Nat.zero_add _,a0,(Le.refl _),U,U,U,Z⟩
 intro n5 f w_ hI
 obtain ⟨ag,R,H3,rfl,c6,bs,a0,l4,b5,c7,b0,Z⟩:=ik b4 hI
 refine ao (sq (mF b0 U (mF b5 U (aW U underlying23 U (ai (RP.mono _ h0 l4)) (bh U U U (nn (al (b:=decide ((ag:Int)<(a.length:Int))) U (fun b8=>?_) (fun b8=>?_))))))))
 have c8:=of_decide_eq_true b8
 rcases R with _ | ⟨ch,a5⟩
 exact absurd c8 (by simp at bs; omega)
 obtain ⟨o5,an,a0⟩:=aJ a0
 rw [nf] at an
 have dd:=aY c6
 refine aq (ao (ak (ao ?_)))
 obtain ⟨cn,dg,an⟩:=bind_some an
 refine bT 8 [aZ (v0),aZ (I ag),gC RP.int ch 0,aZ (I ch),aZ (v1),aZ (I ag),gC RP.int cn 0,aZ (I cn)] [] [] ([]) [([],[]),([],[]),([],[]),([],[]),([],[]),([],[]),([],[]),([],[])] (S:=[]) aP (by kernel_rfl) U (by kernel_rfl) (ad (ah _) (ad (ah _) (ad (bU _ _ _) (ad (ah _) (ad (ah _) (ad (ah _) (ad (bU _ _ _) (ad (ah _) bV)))))))) Z ?_ (fun f w_ a6 af J b1 Z=>?_)
 refine aa (fun f w_ _ _ s _ _ Z=>mF ((s 0 U).trans b5) U (nO U U Z)) (aa (fun f w_ _ _ s _ _ Z=>mF ((s 5 U).trans b0) U (nO U U Z)) (aa ?_ ?_))
 intro f w_ a6 cp af J o Z
 refine bP (r:=RP.int) U underlying23 sizeOf3 (o 0 17 U U) (RP.mono _ h0 (Le.trans l4 J)) (o 1 18 U U) dd (fun en et ec a1 c1=>?_)
 obtain rfl:_=[_]:=a1
 exact ax ⟨U,_,_,U,Le.refl _,fun _ _=>⟨_,_,_,U,U,c1⟩,Z⟩
 refine aa ?_ ?_
 intro f w_ a6 cp af J o Z
 obtain ⟨eu,e0,ej,dj,a2,c2⟩:=(o 2 19 U U)
 obtain rfl:_=[_]:=a2
 refine bt U isAgg3 dj (At.cell (dn.at c2 Z.sub) (j:=0) U) (ax ⟨U,_,_,U,Le.refl _,fun _ _=>rfl,Z⟩)
 refine aa (fun f w_ _ _ s _ _ Z=>mF ((s 1 U).trans c7) U (nO U U Z)) (aa (fun f w_ _ _ s _ _ Z=>mF ((s 5 U).trans b0) U (nO U U Z)) (aa ?_ ?_))
 intro f w_ a6 cp af J o Z
 refine bP (r:=RP.int) U underlying23 sizeOf3 (o 4 21 U U) (RP.mono _ h1 (Le.trans l4 J)) (o 5 22 U U) dg (fun e1 e2 ee a3 c3=>?_)
 obtain rfl:_=[_]:=a3
 exact ax ⟨U,_,_,U,Le.refl _,fun _ _=>⟨_,_,_,U,U,c3⟩,Z⟩
 refine aa ?_ ?_
 intro f w_ a6 cp af J o Z
 obtain ⟨e3,e4,ek,ds,a4,c4⟩:=(o 6 23 U U)
 obtain rfl:_=[_]:=a4
 refine bt U isAgg3 ds (At.cell (dn.at c4 Z.sub) (j:=0) U) (ax ⟨U,_,_,U,Le.refl _,fun _ _=>rfl,Z⟩)
 exact aQ
 refine gS U (b1 3 20 U U) (b1 7 24 U U) (nn (al (b:=(ch != cn)) U (fun bd=>?_) (fun bd=>?_)))
 have an:=(az bd).symm.trans an
 refine sq (aB U (nn (aA (aN (v1:=Bo false) results190 U ?_))))
 obtain rfl:=so an
 obtain rfl:=so a0
 obtain rfl:=so hF
 exact ⟨U,(ab.down Z (Le.trans l4 J) c0)⟩
 have an:=(ay bd).symm.trans an
 refine aq (ae (mF ((af 5 U).trans b0) U (bf U U U (aI U (nn ?_)))))
 obtain rfl:=so an
 show ∃ m,m<_∧I5 m _ _
 refine ⟨a5.length,by simp,?_⟩
 exact ij b4 ⟨ag+1,a5,a6,U,aL c6,by simp at bs; omega,a0,(Le.trans l4 J),((af 0 U).trans b5),((af 1 U).trans c7),((eI (aO (n:=a.length) (by simp at bs; omega) b3))),Z⟩
 rcases R with _ | ⟨_,_⟩
 obtain rfl:=aT a0
 refine a9 (rj c5 ⟨H3,U,l4,Z⟩)
 exact absurd (of_decide_eq_false b8) (by simp at bs; omega)
 intro f w_ hR
 obtain ⟨H3,rfl,l4,Z⟩:=rk c5 hR
 refine sq (aB U (nn (aA (aN (v1:=Bo true) results190 U ?_))))
 obtain rfl:=so hF
 exact ⟨U,(ab.down Z l4 c0)⟩
theorem xX {r_:Rule} {cells:List Int} {v0_1:Value} {v0_2:Value} {v0_4:Value} {v1:Value} {H:FH} {w:World} (Z:ab H w []) (h0_1:(rS 3 RP.int).rel H [v0_1] r_.vars) (h0_2:(rS 3 RP.int).rel H [v0_2] r_.coefs) (h0_4:(rS 23 (rS 3 RP.int)).rel H [v0_4] r_.rows) (h1:(rS 3 RP.int).rel H [v1] cells) {r:Bool} (hF:ou r_ cells=some r):C prog 155 #[.agg #[I r_.kind,v0_1,v0_2,I r_.bound,v0_4],v1] w fun v w'=>v=Bo r∧ab H w' []:=by
 unfold ou at hF
 refine aE func155 U ntmps155 U (sq (cr (v:=.agg #[I r_.kind,v0_1,v0_2,I r_.bound,v0_4]) (cs:=#[I r_.kind,v0_1,v0_2,I r_.bound,v0_4]) U U U Z (fun g3 w4 Z=>aB U (ns (cS U cC (jd  ) Z (fun g8 w9 Z=>?_))))))
 have Z:=ab.bS (R:=(OR.bu RP.int)) [] [] 0 Z U U U (by decide)
 refine aV (Sl g8 0 0) U (nq (sq (aI U (nn ?_))))
 have hE:List.length r_.vars≤9223372036854775807:=bB (ai h0_1)
 obtain ⟨n7,cn,hF⟩:=bind_some hF
 obtain ⟨r1,h6⟩:=ca fun f w_=>∃ o:List Int,∃ J,n7=.nx o∧f 2=Pt g3∧f 5=J∧ab H w_ ([oF 3 RP.int J o,box g3 79 #[I r_.kind,v0_1,v0_2,I r_.bound,v0_4]])
 refine av r1 ?_ ?_
 refine ak ?_
 obtain ⟨n8,g7⟩:=ff fun n f w_=>∃ b3:Nat,∃ a4:List Int,∃ o:List Int,∃ J,n=a4.length∧List.drop b3 r_.vars=a4∧b3+a4.length=r_.vars.length∧aw (mn cells) a4 b3 o=some n7∧f 1=v1∧f 2=Pt g3∧f 5=J∧f 6=I b3∧ab H w_ ([oF 3 RP.int J o,box g3 79 #[I r_.kind,v0_1,v0_2,I r_.bound,v0_4]])
 refine a8 n8 (n:=r_.vars.length) ?_ ?_
 exact ij g7 ⟨0,r_.vars,[],(Sl g8 0 0),U,U,Nat.zero_add _,cn,U,U,U,U,Z⟩
 intro u6 f w_ hI
 obtain ⟨b3,a4,o,J,rfl,h7,fo,cn,ob,a1,af,k0,Z⟩:=ik g7 hI
 refine ao (sq (mF k0 U (fA 1 cM a1 U (bw 1 Z isAgg23 U U U (aW U underlying23 U (ai h0_1) (bh U U U (nn (al (b:=decide ((b3:Int)<(r_.vars.length:Int))) U (fun g9=>?_) (fun g9=>?_)))))))))
 have lo:=of_decide_eq_true g9
 rcases a4 with _ | ⟨tC,fs⟩
 exact absurd lo (by simp at fo; omega)
 obtain ⟨vs,cp,cn⟩:=aJ cn
 rw [mn] at cp
 have l0:=aY h7
 refine aq (ao (ak ?_))
 obtain ⟨g6,oh,cp⟩:=bind_some cp
 obtain ⟨r2,oj,cp⟩:=bind_some cp
 refine ae (mF af U (mF ob U (fA 1 cM a1 U (bw 1 Z isAgg23 U U U (mF k0 U (bP (r:=RP.int) U underlying23 sizeOf3 U h0_1 U l0 (fun v3 v8 ra ee l1=>?_)))))))
 obtain rfl:_=[_]:=ee
 refine bt U isAgg3 U (At.cell (dn.at l1 Z.sub) (j:=0) U) (bP (r:=RP.int) U underlying23 sizeOf3 U h1 U oh (fun v9 w0 rv ej l2=>?_))
 obtain rfl:_=[_]:=ej
 refine bt U isAgg3 U (At.cell (dn.at l2 Z.sub) (j:=0) U) (cS U (bG U) (dp (I g6) U) Z (fun r3 w1 Z=>?_))
 have Z:=ab.dr (r:=RP.int) (cs:=[I g6]) (x:=g6) Z U
 have Z:=ab.bS (R:=(OR.bu RP.int)) [([I g6],g6)] [g6] 1 Z U U U (by decide)
 have Z:=Z.get 1 U
 refine cj (v:=J) (u:=(Sl r3 1 1)) U eb U U Z oj (fun oq w2 Z=>aV oq U (nn (ae (mF k0 U (bf U U U (aI U (nn ?_)))))))
 obtain rfl:=so cp
 show ∃ m,m<_∧n8 m _ _
 refine ⟨fs.length,by simp,?_⟩
 exact ij g7 ⟨b3+1,fs,r2,oq,U,aL h7,by simp at fo; omega,cn,ob,a1,U,((eI (aO (n:=r_.vars.length) (by simp at fo; omega) hE))),Z⟩
 rcases a4 with _ | ⟨_,_⟩
 obtain rfl:=aT cn
 refine a9 (rj h6 ⟨o,J,U,a1,af,Z⟩)
 exact absurd (of_decide_eq_false g9) (by simp at fo; omega)
 intro f w_ hR
 obtain ⟨o,J,rfl,a1,af,Z⟩:=rk h6 hR
 refine ao (sq (fA 0 gB a1 U (bw 1 Z isAgg3 U U U (nn (ak (sq (bD U U U (aB U (nn (al (b:=(r_.kind == 1)) U (fun ha=>?_) (fun ha=>?_)))))))))))
 have hF:=(az ha).symm.trans hF
 refine sq (aI U (nq (sq (aI U (nn ?_)))))
 have hG:List.length o≤9223372036854775807:=bB (ab.len 0 Z U)
 obtain ⟨o0,c1,hF⟩:=bind_some hF
 obtain ⟨ss,h8⟩:=ca fun f w_=>∃ a2:Int,∃ dd,o0=.nx a2∧Le H dd∧f 2=Pt g3∧f 7=I a2∧ab dd w_ ([box g3 79 #[I r_.kind,v0_1,v0_2,I r_.bound,v0_4]])
 refine av ss ?_ ?_
 refine ak ?_
 obtain ⟨o1,hb⟩:=ff fun n f w_=>∃ a3:Nat,∃ a5:List Int,∃ a2:Int,∃ dd,n=a5.length∧List.drop a3 o=a5∧a3+a5.length=o.length∧aw (mo r_) a5 a3 a2=some o0∧Le H dd∧f 2=Pt g3∧f 5=J∧f 7=I a2∧f 8=I a3∧ab dd w_ ([oF 3 RP.int J o,box g3 79 #[I r_.kind,v0_1,v0_2,I r_.bound,v0_4]])
 refine a8 o1 (n:=o.length) ?_ ?_
 exact ij hb ⟨0,o,0,H,U,U,Nat.zero_add _,c1,(Le.refl _),a1,af,U,U,Z⟩
 intro w3 f w_ hI
 obtain ⟨a3,a5,a2,dd,rfl,h9,fu,c1,hc,a1,af,hJ,hK,Z⟩:=ik hb hI
 refine ao (sq (mF hK U (mF af U (aW U underlying23 U (ab.len 0 Z U) (bh U U U (nn (al (b:=decide ((a3:Int)<(o.length:Int))) U (fun hf=>?_) (fun hf=>?_))))))))
 have l3:=of_decide_eq_true hf
 rcases a5 with _ | ⟨hg,gd⟩
 exact absurd l3 (by simp at fu; omega)
 obtain ⟨w5,g0,c1⟩:=aJ c1
 rw [mo] at g0
 have ek:=aY h9
 refine aq (ao (ak ?_))
 obtain ⟨hN,o2,g0⟩:=bind_some g0
 obtain ⟨sx,o3,ih,_,_⟩:=ab.row 0 Z U ek
 refine bT 11 [aZ (I a2),aZ (Pq g3 2),aZ (v0_2),aZ (I a3),gC RP.int hN 0,aZ (I hN),aZ (J),aZ (I a3),aZ (.pointer (some ⟨sx,Int.toNat (a3:Int) * 1,none⟩)),aZ (I hg),aZ (I (i64 (hN * hg)))] [oF 3 RP.int J o,box g3 79 #[I r_.kind,v0_1,v0_2,I r_.bound,v0_4]] [] ([]) [([],[]),([],[]),([],[]),([],[]),([],[]),([],[]),([],[]),([],[]),([],[]),([],[]),([],[])] (S:=[]) aP (by kernel_rfl) U (by kernel_rfl) (ad (ah _) (ad (ah _) (ad (ah _) (ad (ah _) (ad (bU _ _ _) (ad (ah _) (ad (ah _) (ad (ah _) (ad (ah _) (ad (ah _) (ad (ah _) bV))))))))))) Z ?_ (fun f w_ hP c2 dg jn Z=>?_)
 refine aa (fun f w_ _ _ s _ _ Z=>mF ((s 7 U).trans hJ) U (nO U U Z)) (aa (fun f w_ _ _ s _ _ Z=>fA 2 hO ((s 2 U).trans a1) U (nO U U Z)) (aa (fun f w_ _ _ _ _ p Z=>bw 1 Z isAgg23 (p 1 42 U U) U U (nO U U Z)) (aa (fun f w_ _ _ s _ _ Z=>mF ((s 8 U).trans hK) U (nO U U Z)) (aa ?_ ?_))))
 intro f w_ hP o4 c2 dg c3 Z
 refine bP (r:=RP.int) U underlying23 sizeOf3 (c3 2 43 U U) (RP.mono _ h0_2 (Le.trans hc dg)) (c3 3 44 U U) o2 (fun w6 w7 r0 en l4=>?_)
 obtain rfl:_=[_]:=en
 exact ax ⟨U,_,_,U,Le.refl _,fun _ _=>⟨_,_,_,U,U,l4⟩,Z⟩
 refine aa ?_ ?_
 intro f w_ hP o4 c2 dg c3 Z
 obtain ⟨w8,x0,tS,o5,et,l5⟩:=(c3 4 45 U U)
 obtain rfl:_=[_]:=et
 refine bt U isAgg3 o5 (At.cell (dn.at l5 Z.sub) (j:=0) U) (ax ⟨U,_,_,U,Le.refl _,fun _ _=>rfl,Z⟩)
 refine aa (fun f w_ _ _ s _ _ Z=>mF ((s 5 U).trans af) U (nO U U Z)) (aa (fun f w_ _ _ s _ _ Z=>mF ((s 8 U).trans hK) U (nO U U Z)) (aa (fun f w_ _ _ _ _ p Z=>bJ (R:=(OR.bu RP.int)) (tb:=0) 0 U underlying23 sizeOf3 (p 6 47 U U) ih (by first | rfl | simp) (p 7 48 U U) ek (nO U U Z)) (aa ?_ ?_)))
 intro f w_ hP o4 c2 dg c3 Z
 obtain ⟨tT,o6,l7⟩:=ab.fE 0 Z U ih ek
 obtain rfl:_=[_]:=o6
 refine bt U isAgg3 (c3 8 49 U U) (At.cell l7 (j:=0) U) (ax ⟨U,_,_,U,Le.refl _,fun _ _=>rfl,Z⟩)
 refine aa (fun f w_ _ _ _ _ p Z=>rf U (p 5 46 U U) (p 9 50 U U) (nO U U Z)) (aQ)
 refine bf U (jn 0 41 U U) (jn 10 51 U U) (aI U (nn (ae (mF ((c2 8 U).trans hK) U (bf U U U (aI U (nn ?_)))))))
 obtain rfl:=so g0
 show ∃ m,m<_∧o1 m _ _
 refine ⟨gd.length,by simp,?_⟩
 exact ij hb ⟨a3+1,gd,i64 (a2+(i64 (hN * hg))),hP,U,aL h9,by simp at fu; omega,c1,(Le.trans hc dg),((c2 2 U).trans a1),((c2 5 U).trans af),U,((eI (aO (n:=o.length) (by simp at fu; omega) hG))),Z⟩
 rcases a5 with _ | ⟨_,_⟩
 obtain rfl:=aT c1
 refine a9 ?_
 have Z:=Z.get 1 U
 exact rj h8 ⟨a2,dd,U,hc,a1,hJ,(ab.aG 1 Z)⟩
 exact absurd (of_decide_eq_false hf) (by simp at fu; omega)
 intro f w_ hR
 obtain ⟨a2,dd,rfl,hc,a1,hJ,Z⟩:=rk h8 hR
 refine sq (mF hJ U (fA 3 km a1 U (bw 0 Z isAgg3 U U U (hY U U U (aB U (nn (aA (aN (v1:=Bo (decide (a2 ≥ r_.bound))) results155 U ?_))))))))
 obtain rfl:=so hF
 exact ⟨U,(ab.down (ab.aG 0 Z) hc c0)⟩
 have hF:=(ay ha).symm.trans hF
 refine sq (bD U U U (aB U (nn (al (b:=(r_.kind == 2)) U (fun hh=>?_) (fun hh=>?_)))))
 have hF:=(az hh).symm.trans hF
 refine ao (sq (aI U (nn ?_)))
 have hQ:List.length o≤9223372036854775807:=bB (ab.len 0 Z U)
 obtain ⟨o7,b4,hF⟩:=bind_some hF
 obtain ⟨sz,j1⟩:=ca fun f w_=>∃ b5,o7=.nx ()∧Le H b5∧ab b5 w_ ([])
 refine av sz ?_ ?_
 refine ak ?_
 obtain ⟨o8,hi⟩:=ff fun n f w_=>∃ a0:Nat,∃ a6:List Int,∃ b5,n=a6.length∧List.drop a0 o=a6∧a0+a6.length=o.length∧aw (pe o) a6 a0 ()=some o7∧Le H b5∧f 5=J∧f 9=I a0∧ab b5 w_ ([oF 3 RP.int J o])
 refine a8 o8 (n:=o.length) ?_ ?_
 exact ij hi ⟨0,o,H,U,U,Nat.zero_add _,b4,(Le.refl _),af,U,(ab.aG 1 Z)⟩
 intro x1 f w_ hI
 obtain ⟨a0,a6,b5,rfl,j2,g1,b4,hj,af,c4,Z⟩:=ik hi hI
 refine ao (sq (mF c4 U (mF af U (aW U underlying23 U (ab.len 0 Z U) (bh U U U (nn (al (b:=decide ((a0:Int)<(o.length:Int))) U (fun hk=>?_) (fun hk=>?_))))))))
 have l8:=of_decide_eq_true hk
 rcases a6 with _ | ⟨hl,g2⟩
 exact absurd l8 (by simp at g1; omega)
 obtain ⟨x2,b8,b4⟩:=aJ b4
 rw [pe] at b8
 have hn:=aY j2
 refine aq (ao (ak (sq (aI U (nn ?_)))))
 obtain ⟨hS,ho,b8⟩:=bind_some b8
 obtain ⟨o9,ch,b8⟩:=bind_some b8
 obtain ⟨ti,j3⟩:=ca fun f w_=>∃ c5,o9=.nx ()∧Le b5 c5∧f 5=J∧f 9=I a0∧ab c5 w_ ([oF 3 RP.int J o])
 refine av ti ?_ ?_
 refine ak ?_
 obtain ⟨p0,hp⟩:=ff fun n f w_=>∃ b0:Nat,∃ b2:Nat,∃ c5,b2=n∧0≤b0∧b0+b2=0+hS∧cI (oT o hl) b2 b0 ()=some o9∧Le b5 c5∧f 5=J∧f 9=I a0∧f 10=I b0∧ab c5 w_ ([oF 3 RP.int J o])
 refine a8 p0 (n:=hS) ?_ ?_
 exact ij hp ⟨0,hS,b5,U,Nat.le_refl _,U,ch,(Le.refl _),af,c4,U,Z⟩
 intro x3 f w_ hI
 obtain ⟨b0,b2,c5,rfl,p1,j4,ch,hq,af,c4,hr,Z⟩:=ik hp hI
 refine ao (sq (mF hr U (mF c4 U (bh U U U (nn (al (b:=decide ((b0:Int)<(a0:Int))) U (fun hs=>?_) (fun hs=>?_)))))))
 have l9:=of_decide_eq_true hs
 rcases b2 with _ | g4
 exact absurd l9 (lA j4 ho)
 obtain ⟨x4,b1,ch⟩:=eA ch
 rw [oT] at b1
 refine aq (ao (ak (ao ?_)))
 obtain ⟨p2,ht,b1⟩:=bind_some b1
 obtain ⟨p3,p4,c6,_,_⟩:=ab.row 0 Z U ht
 refine cv 8 [J,I b0,Value.pointer (some ⟨p3,Int.toNat (b0:Int) * 1,none⟩),I p2,J,I a0,Value.pointer (some ⟨p3,Int.toNat (a0:Int) * 1,none⟩),I hl] [oF 3 RP.int J o] [] ([]) [([],[]),([],[]),([],[]),([],[]),([],[]),([],[]),([],[]),([],[])] (S:=[]) aP (by kernel_rfl) U (by kernel_rfl) Z ?_ (fun f w_ mg dj g5 j5 Z=>?_)
 refine aa (fun f w_ _ _ s _ _ Z=>mF ((s 5 U).trans af) U (nO U U Z)) (aa (fun f w_ _ _ s _ _ Z=>mF ((s 10 U).trans hr) U (nO U U Z)) (aa (fun f w_ _ _ _ _ p Z=>bJ (R:=(OR.bu RP.int)) (tb:=0) 0 U underlying23 sizeOf3 (p 0 70 U U) c6 (by first | rfl | simp) (p 1 71 U U) ht (nO U U Z)) (aa ?_ ?_)))
 intro f w_ mg tl dj g5 hv Z
 obtain ⟨tn,m0,hV⟩:=ab.fE 0 Z U c6 ht
 obtain rfl:_=[_]:=m0
 refine bt U isAgg3 (hv 2 72 U U) (At.cell hV (j:=0) U) (ax ⟨U,_,_,U,Le.refl _,fun _ _=>rfl,Z⟩)
 refine aa (fun f w_ _ _ s _ _ Z=>mF ((s 5 U).trans af) U (nO U U Z)) (aa (fun f w_ _ _ s _ _ Z=>mF ((s 9 U).trans c4) U (nO U U Z)) (aa (fun f w_ _ _ _ _ p Z=>bJ (R:=(OR.bu RP.int)) (tb:=0) 0 U underlying23 sizeOf3 (p 4 74 U U) c6 (by first | rfl | simp) (p 5 75 U U) hn (nO U U Z)) (aa ?_ ?_)))
 intro f w_ mg tl dj g5 hv Z
 obtain ⟨tr,m1,hW⟩:=ab.fE 0 Z U c6 hn
 obtain rfl:_=[_]:=m1
 refine bt U isAgg3 (hv 6 76 U U) (At.cell hW (j:=0) U) (ax ⟨U,_,_,U,Le.refl _,fun _ _=>rfl,Z⟩)
 exact aQ
 refine bD U (j5 3 73 U U) (j5 7 77 U U) (nn (al (b:=(p2 == hl)) U (fun eu=>?_) (fun eu=>?_)))
 have b1:=(az eu).symm.trans b1
 refine sq (aB U (nn (aA (aN (v1:=Bo false) results155 U ?_))))
 obtain rfl:=so b1
 obtain rfl:=so ch
 obtain rfl:=so b8
 obtain rfl:=so b4
 obtain rfl:=so hF
 exact ⟨U,(ab.down (ab.aG 0 Z) (Le.trans (Le.trans hj hq) g5) c0)⟩
 have b1:=(ay eu).symm.trans b1
 refine aq (ae (mF ((dj 10 U).trans hr) U (bf U U U (aI U (nn ?_)))))
 obtain rfl:=so b1
 show ∃ m,m<_∧p0 m _ _
 refine ⟨g4,Nat.lt_succ_self _,?_⟩
 exact ij hp ⟨b0+1,g4,mg,U,by omega,by omega,ch,(Le.trans hq g5),((dj 5 U).trans af),((dj 9 U).trans c4),((eI (aO (n:=0+hS) (by omega) (jg ho)))),Z⟩
 rcases b2 with _ | _
 obtain rfl:=eo ch
 refine a9 (rj j3 ⟨c5,U,hq,af,c4,Z⟩)
 exact absurd (jZ p1 j4 ho) (of_decide_eq_false hs)
 intro f w_ hR
 obtain ⟨c5,rfl,hq,af,c4,Z⟩:=rk j3 hR
 refine ae (mF c4 U (bf U U U (aI U (nn ?_))))
 obtain rfl:=so b8
 show ∃ m,m<_∧o8 m _ _
 refine ⟨g2.length,by simp,?_⟩
 exact ij hi ⟨a0+1,g2,c5,U,aL j2,by simp at g1; omega,b4,(Le.trans hj hq),af,((eI (aO (n:=o.length) (by simp at g1; omega) hQ))),Z⟩
 rcases a6 with _ | ⟨_,_⟩
 obtain rfl:=aT b4
 refine a9 (rj j1 ⟨b5,U,hj,(ab.aG 0 Z)⟩)
 exact absurd (of_decide_eq_false hk) (by simp at g1; omega)
 intro f w_ hR
 obtain ⟨b5,rfl,hj,Z⟩:=rk j1 hR
 refine sq (aB U (nn (aA (aN (v1:=Bo true) results155 U ?_))))
 obtain rfl:=so hF
 exact ⟨U,(ab.down Z hj c0)⟩
 have hF:=(ay hh).symm.trans hF
 refine sq (bD U U U (aB U (nn (al (b:=(r_.kind == 4)) U (fun e0=>?_) (fun e0=>?_)))))
 have hF:=(az e0).symm.trans hF
 refine ao ?_
 obtain ⟨j6,e1,hF⟩:=bind_some hF
 obtain ⟨j7,hx,hF⟩:=bind_some hF
 have Z:=ab.drop 1 Z U
 obtain ⟨j8,n6,c7,_,_⟩:=ab.row 0 Z U e1
 refine cv 6 [J,Value.pointer (some ⟨j8,Int.toNat 0 * 1,none⟩),I j6,J,Value.pointer (some ⟨j8,Int.toNat 1 * 1,none⟩),I j7] [oF 3 RP.int J o] [] ([]) [([],[]),([],[]),([],[]),([],[]),([],[]),([],[])] (S:=[]) aP (by kernel_rfl) U (by kernel_rfl) Z ?_ (fun f w_ kk hy e2 hz Z=>?_)
 refine aa (fun f w_ _ _ s _ _ Z=>mF ((s 5 U).trans af) U (nO U U Z)) (aa (fun f w_ _ _ _ _ p Z=>bJ (R:=(OR.bu RP.int)) (tb:=0) 0 U underlying23 sizeOf3 (p 0 81 U U) c7 (by first | rfl | simp) U e1 (nO U U Z)) (aa ?_ ?_))
 intro f w_ kk p5 hy e2 e3 Z
 obtain ⟨ts,m2,h0⟩:=ab.fE 0 Z U c7 e1
 obtain rfl:_=[_]:=m2
 refine bt U isAgg3 (e3 1 82 U U) (At.cell h0 (j:=0) U) (ax ⟨U,_,_,U,Le.refl _,fun _ _=>rfl,Z⟩)
 refine aa (fun f w_ _ _ s _ _ Z=>mF ((s 5 U).trans af) U (nO U U Z)) (aa (fun f w_ _ _ _ _ p Z=>bJ (R:=(OR.bu RP.int)) (tb:=0) 0 U underlying23 sizeOf3 (p 3 84 U U) c7 (by first | rfl | simp) U hx (nO U U Z)) (aa ?_ ?_))
 intro f w_ kk p5 hy e2 e3 Z
 obtain ⟨tB,n0,h2⟩:=ab.fE 0 Z U c7 hx
 obtain rfl:_=[_]:=n0
 refine bt U isAgg3 (e3 4 85 U U) (At.cell h2 (j:=0) U) (ax ⟨U,_,_,U,Le.refl _,fun _ _=>rfl,Z⟩)
 exact aQ
 refine bh U (hz 2 83 U U) (hz 5 86 U U) (aB U (nn (aA (aN (v1:=Bo (decide (j6<j7))) results155 U ?_))))
 obtain rfl:=so hF
 exact ⟨U,(ab.down (ab.aG 0 Z) e2 c0)⟩
 have hF:=(ay e0).symm.trans hF
 refine aq (ao (sq (aI U (nn ?_))))
 have hA:List.length r_.rows≤9223372036854775807:=bB (ai h0_4)
 obtain ⟨ks,bd,hF⟩:=bind_some hF
 obtain ⟨p6,hB⟩:=ca fun f w_=>ks=.nx ()∧ab H w_ ([])
 refine av p6 ?_ ?_
 refine ak ?_
 obtain ⟨ky,e4⟩:=ff fun n f w_=>∃ bs:Nat,∃ ag:List (List Int),n=ag.length∧List.drop bs r_.rows=ag∧bs+ag.length=r_.rows.length∧aw (pj o) ag bs ()=some ks∧f 2=Pt g3∧f 5=J∧f 11=I bs∧ab H w_ ([oF 3 RP.int J o,box g3 79 #[I r_.kind,v0_1,v0_2,I r_.bound,v0_4]])
 refine a8 ky (n:=r_.rows.length) ?_ ?_
 exact ij e4 ⟨0,r_.rows,U,U,Nat.zero_add _,bd,a1,af,U,Z⟩
 intro u0 f w_ hI
 obtain ⟨bs,ag,rfl,hC,c8,bd,a1,af,hD,Z⟩:=ik e4 hI
 refine ao (sq (mF hD U (fA 4 ez a1 U (bw 1 Z isAgg77 U U U (aW U underlying77 U (ai h0_4) (bh U U U (nn (al (b:=decide ((bs:Int)<(r_.rows.length:Int))) U (fun e5=>?_) (fun e5=>?_)))))))))
 have h3:=of_decide_eq_true e5
 rcases ag with _ | ⟨n1,ds⟩
 exact absurd h3 (by simp at c8; omega)
 obtain ⟨u1,an,bd⟩:=aJ bd
 rw [pj] at an
 have h4:=aY hC
 refine aq (ao (ak (ao ?_)))
 obtain ⟨q0,n2,an⟩:=bind_some an
 refine ae (fA 4 ez a1 U (bw 1 Z isAgg77 U U U (mF hD U (bP (r:=(rS 3 RP.int)) U underlying77 sizeOf23 U h0_4 U h4 (fun u2 u3 q1 ec h5=>?_)))))
 obtain ⟨u4,rfl,n3⟩:=kP ec
 refine bt U isAgg23 U (At.cell (dn.at h5 Z.sub) (j:=0) U) (mF af U ?_)
 obtain ⟨n4,q2,q3,q4,q8⟩:=Z.borrow
 have n5:(rS 3 RP.int).rel n4 [J] o:=cg 0 q4 U
 refine ar U call190 (cu U U) (Aa (a:=n1) (b:=o) q3 (RP.mono _ n3 q2) n5 n2) ?_
 rintro _ u5 ⟨rfl,Z⟩
 have Z:=q8 Z c0
 refine nn (al (b:=q0) U (fun fa=>?_) (fun fa=>?_))
 have an:=(az fa).symm.trans an
 refine sq (aB U (nn (aA (aN (v1:=Bo true) results155 U ?_))))
 obtain rfl:=so an
 obtain rfl:=so bd
 obtain rfl:=so hF
 exact ⟨U,(ab.aG 0 Z)⟩
 have an:=(ay fa).symm.trans an
 refine aq (ae (mF hD U (bf U U U (aI U (nn ?_)))))
 obtain rfl:=so an
 show ∃ m,m<_∧ky m _ _
 refine ⟨ds.length,by simp,?_⟩
 exact ij e4 ⟨bs+1,ds,U,aL hC,by simp at c8; omega,bd,a1,af,((eI (aO (n:=r_.rows.length) (by simp at c8; omega) hA))),Z⟩
 rcases ag with _ | ⟨_,_⟩
 obtain rfl:=aT bd
 refine a9 (rj hB ⟨U,(ab.aG 0 Z)⟩)
 exact absurd (of_decide_eq_false e5) (by simp at c8; omega)
 intro f w_ hR
 obtain ⟨rfl,Z⟩:=rk hB hR
 refine sq (aB U (nn (aA (aN (v1:=Bo false) results155 U ?_))))
 obtain rfl:=so hF
 exact ⟨U,Z⟩
theorem z2 {fu:Nat} {m:Model} {cells:List Int} {v0_0:Value} {v0_1:Value} {v1:Value} {H:FH} {w:World} (Z:ab H w []) (h0_0:(rS 3 RP.int).rel H [v0_0] m.sizes) (h0_1:(rS 79 (cY 3 23)).rel H [v0_1] m.rules) (h1:(rS 3 RP.int).rel H [v1] cells) {r:(List Int) × Bool} (hF:qe fu m cells=some r):C prog 156 #[.agg #[v0_0,v0_1],v1] w fun v w'=>∃ (u1:Value),v=.tuple #[u1,Bo r.2]∧ab H w' [oF 3 RP.int u1 r.1]:=by
 unfold qe at hF
 refine aE func156 U ntmps156 U (sq (cr (v:=.agg #[v0_0,v0_1]) (cs:=#[v0_0,v0_1]) U U U Z (fun g3 w4 Z=>aV S0 U (aB U (nq ?_)))))
 obtain ⟨x8,ek,hF⟩:=bind_some hF
 refine ae (cS U cC (jd  ) Z (fun en e3 Z=>?_))
 have Z:=ab.bS (R:=(OR.bu RP.int)) [] [] 0 Z U U U (by decide)
 refine mV v1 U (qZ (v:=(Sl en 0 0)) (u:=v1) U eb U U Z h1 ek (fun an e4 Z=>aV an U (nq (sq (mV an U (aW U underlying23 U (ab.len 0 Z U) (db U U U (aI U (nn ?_)))))))))
 obtain ⟨c6,a1,hF⟩:=bind_some hF
 obtain ⟨et,ch⟩:=ca fun f w_=>∃ o:List Int,∃ af:Int,∃ a6,c6=.nx (o,af)∧Le H a6∧f 6=an∧ab a6 w_ ([oF 3 RP.int an o])
 refine av et ?_ ?_
 refine ak ?_
 obtain ⟨c7,b2⟩:=ff fun n f w_=>∃ o:List Int,∃ af:Int,∃ a6,bx (js m) n (o,af)=some c6∧Le H a6∧f 2=Pt g3∧f 6=an∧f 7=I af∧ab a6 w_ ([oF 3 RP.int an o,box g3 26 #[v0_0,v0_1]])
 refine a8 c7 (n:=fu) ?_ ?_
 exact ij b2 ⟨x8,i64 ((x8.length:Int) - 1),H,a1,(Le.refl _),U,U,U,Z⟩
 intro cp f w_ hI
 obtain ⟨o,af,a6,a1,b1,c8,a5,bd,Z⟩:=ik b2 hI
 rcases cp with _ | cp
 exact (cl a1).elim
 obtain ⟨e5,J,a1⟩:=cq a1
 rw [js] at J
 refine ao (sq (mF bd U (hY U U U (nn (al (b:=decide (af ≥ 0)) U (fun b3=>?_) (fun b3=>?_))))))
 have J:=(az b3).symm.trans J
 refine aq (ao (ak (ao (ao ?_))))
 obtain ⟨b4,a0,J⟩:=bind_some J
 obtain ⟨c1,dd,J⟩:=bind_some J
 obtain ⟨eu,dg,a2,_,_⟩:=ab.row 0 Z U a0
 refine bT 9 [aZ (an),aZ (I af),aZ (.pointer (some ⟨eu,Int.toNat af * 1,none⟩)),aZ (I b4),aZ (Pt g3),aZ (v0_0),aZ (I af),gC RP.int c1 0,aZ (I c1)] [oF 3 RP.int an o,box g3 26 #[v0_0,v0_1]] [] ([]) [([],[]),([],[]),([],[]),([],[]),([],[]),([],[]),([],[]),([],[]),([],[])] (S:=[]) aP (by kernel_rfl) U (by kernel_rfl) (ad (ah _) (ad (ah _) (ad (ah _) (ad (ah _) (ad (ah _) (ad (ah _) (ad (ah _) (ad (bU _ _ _) (ad (ah _) bV))))))))) Z ?_ (fun f w_ b8 ag a3 cn Z=>?_)
 refine aa (fun f w_ _ _ s _ _ Z=>mF ((s 6 U).trans a5) U (nO U U Z)) (aa (fun f w_ _ _ s _ _ Z=>mF ((s 7 U).trans bd) U (nO U U Z)) (aa (fun f w_ _ _ _ _ p Z=>bJ (R:=(OR.bu RP.int)) (tb:=0) 0 U underlying23 sizeOf3 (p 0 18 U U) a2 (by first | rfl | simp) (p 1 19 U U) a0 (nO U U Z)) (aa ?_ ?_)))
 intro f w_ b8 dj ag a3 a4 Z
 obtain ⟨e0,ds,c2⟩:=ab.fE 0 Z U a2 a0
 obtain rfl:_=[_]:=ds
 refine bt U isAgg3 (a4 2 20 U U) (At.cell c2 (j:=0) U) (ax ⟨U,_,_,U,Le.refl _,fun _ _=>rfl,Z⟩)
 refine aa (fun f w_ _ _ s _ _ Z=>fA 0 bN ((s 2 U).trans c8) U (nO U U Z)) (aa (fun f w_ _ _ _ _ p Z=>bw 1 Z isAgg23 (p 4 22 U U) U U (nO U U Z)) (aa (fun f w_ _ _ s _ _ Z=>mF ((s 7 U).trans bd) U (nO U U Z)) (aa ?_ ?_)))
 intro f w_ b8 dj ag a3 a4 Z
 refine bP (r:=RP.int) U underlying23 sizeOf3 (a4 5 23 U U) (RP.mono _ h0_0 (Le.trans b1 a3)) (a4 6 24 U U) dd (fun fa fo ej bs c3=>?_)
 obtain rfl:_=[_]:=bs
 exact ax ⟨U,_,_,U,Le.refl _,fun _ _=>⟨_,_,_,U,U,c3⟩,Z⟩
 refine aa ?_ ?_
 intro f w_ b8 dj ag a3 a4 Z
 obtain ⟨fs,gd,e1,ec,b0,c4⟩:=(a4 7 25 U U)
 obtain rfl:_=[_]:=b0
 refine bt U isAgg3 ec (At.cell (dn.at c4 Z.sub) (j:=0) U) (ax ⟨U,_,_,U,Le.refl _,fun _ _=>rfl,Z⟩)
 exact aQ
 refine bh U (cn 3 21 U U) (cn 8 26 U U) (nn (al (b:=decide (b4<c1)) U (fun b5=>?_) (fun b5=>?_)))
 have J:=(az b5).symm.trans J
 refine sq (mF ((ag 6 U).trans a5) U (mF ((ag 7 U).trans bd) U (mF ((ag 6 U).trans a5) U (mF ((ag 7 U).trans bd) U (bJ (R:=(OR.bu RP.int)) (tb:=0) 0 U underlying23 sizeOf3 U a2 (by first | rfl | simp) U a0 ?_)))))
 obtain ⟨e2,ee,c5⟩:=ab.fE 0 Z U a2 a0
 obtain rfl:_=[_]:=ee
 refine bt U isAgg3 U (At.cell c5 (j:=0) U) (bf U U U (bJ (R:=(OR.bu RP.int)) (tb:=0) 0 U underlying23 sizeOf3 U a2 (by first | rfl | simp) U a0 ?_))
 have Z:=ab.dr (r:=RP.int) (cs:=[I (i64 (b4+1))]) (x:=(i64 (b4+1))) Z U
 refine fj (u:=I (i64 (b4+1))) U sizeOf3 U U U a2 Z a0 (fun g0 Z=>?_)
 refine ax (sq (mF ((ag 6 U).trans a5) U (aV an U (aB U (nn (aA (dc (v1:=an) (v2:=Bo true) results156 U U ?_)))))))
 obtain rfl:=so J
 obtain rfl:=so a1
 obtain rfl:=so hF
 exact ⟨an,U,(ab.down (ab.aG 1 Z) (Le.trans b1 a3) (co bk c0))⟩
 have J:=(ay b5).symm.trans J
 refine aq (ae (mF ((ag 6 U).trans a5) U (mF ((ag 7 U).trans bd) U (bJ (R:=(OR.bu RP.int)) (tb:=0) 0 U underlying23 sizeOf3 U a2 (by first | rfl | simp) U a0 ?_))))
 have Z:=ab.dr (r:=RP.int) (cs:=[I 0]) (x:=0) Z U
 refine fj (u:=I 0) U sizeOf3 U U U a2 Z a0 (fun g1 Z=>?_)
 refine nn (ae (mF ((ag 7 U).trans bd) U (db U U U (aI U (nn ?_)))))
 obtain rfl:=so J
 show ∃ m,m<_∧c7 m _ _
 refine ⟨cp,Nat.lt_succ_self _,?_⟩
 exact ij b2 ⟨(o.set (Int.toNat af) 0),i64 (af - 1),b8,a1,(Le.trans b1 a3),((ag 2 U).trans c8),((ag 6 U).trans a5),U,Z⟩
 have J:=(ay b3).symm.trans J
 refine a9 ?_
 obtain rfl:=so J
 obtain rfl:=so a1
 exact rj ch ⟨o,af,a6,U,b1,a5,(ab.aG 1 Z)⟩
 intro f w_ hR
 obtain ⟨o,af,a6,rfl,b1,a5,Z⟩:=rk ch hR
 refine sq (mF a5 U (aV an U (aB U (nn (aA (dc (v1:=an) (v2:=Bo false) results156 U U ?_))))))
 obtain rfl:=so hF
 exact ⟨an,U,(ab.down Z b1 (co bk c0))⟩
theorem xg {fu:Nat} {m:Model} {r_:Rule} {v0_0:Value} {v0_1:Value} {v1_1:Value} {v1_2:Value} {v1_4:Value} {H:FH} {w:World} (Z:ab H w []) (h0_0:(rS 3 RP.int).rel H [v0_0] m.sizes) (h0_1:(rS 79 (cY 3 23)).rel H [v0_1] m.rules) (h1_1:(rS 3 RP.int).rel H [v1_1] r_.vars) (h1_2:(rS 3 RP.int).rel H [v1_2] r_.coefs) (h1_4:(rS 23 (rS 3 RP.int)).rel H [v1_4] r_.rows) {r:List Con} (hF:mO fu m r_=some r):C prog 111 #[.agg #[v0_0,v0_1],.agg #[I r_.kind,v1_1,v1_2,I r_.bound,v1_4]] w fun v w'=>∃ (u1:Value),v=u1∧ab H w' [oS 73 (cP 122) u1 r]:=by
 unfold mO at hF
 refine aE func111 U ntmps111 U (sq (cr (v:=.agg #[v0_0,v0_1]) (cs:=#[v0_0,v0_1]) U U U Z (fun g5 w6 Z=>cr (v:=.agg #[I r_.kind,v1_1,v1_2,I r_.bound,v1_4]) (cs:=#[I r_.kind,v1_1,v1_2,I r_.bound,v1_4]) U U U Z (fun g7 w8 Z=>aV S0 U (ns (da U (cC ) (xi  ) (dS (cs:=#[S0,S0]) U zeroValue26 U Z (fun cp y2 Z=>bg (vs:=#[S0,S0]) (cs2:=#[S0,S0]) 0 U sizeOf26 U U U (aj U (aj U aK)) Z U (by show 0+2≤2; decide) U (fun zs Z=>nq (sq (aI U (nn ?_))))))))))))
 have hP:List.length r_.vars≤9223372036854775807:=bB (ai h1_1)
 obtain ⟨n7,fs,hF⟩:=bind_some hF
 obtain ⟨r1,h4⟩:=ca fun f w_=>∃ J:List Int,∃ e2,∃ o,n7=.nx J∧Le H e2∧f 2=Pt g5∧f 3=Pt g7∧f 5=Pt cp∧ab e2 w_ ([oF 3 RP.int o J,box cp 26 #[o,S0],box g7 79 #[I r_.kind,v1_1,v1_2,I r_.bound,v1_4],box g5 26 #[v0_0,v0_1]])
 refine av r1 ?_ ?_
 refine ak ?_
 obtain ⟨n8,hx⟩:=ff fun n f w_=>∃ ej:Nat,∃ dj:List Int,∃ J:List Int,∃ e2,∃ o,n=dj.length∧List.drop ej r_.vars=dj∧ej+dj.length=r_.vars.length∧aw (kh m) dj ej J=some n7∧Le H e2∧f 2=Pt g5∧f 3=Pt g7∧f 5=Pt cp∧f 6=I ej∧ab e2 w_ ([oF 3 RP.int o J,box cp 26 #[o,S0],box g7 79 #[I r_.kind,v1_1,v1_2,I r_.bound,v1_4],box g5 26 #[v0_0,v0_1]])
 have Z:=ab.bE (R:=(OR.bu RP.int)) (e:=3) Z
 refine a8 n8 (n:=r_.vars.length) ?_ ?_
 exact ij hx ⟨0,r_.vars,[],H,S0,U,U,Nat.zero_add _,fs,(Le.refl _),U,U,U,U,Z⟩
 intro zz f w_ hI
 obtain ⟨ej,dj,J,e2,o,rfl,h5,hq,fs,c7,c1,b3,c2,j6,Z⟩:=ik hx hI
 refine ao (sq (mF j6 U (fA 1 cM b3 U (bw 2 Z isAgg23 U U U (aW U underlying23 U (ai (RP.mono _ h1_1 c7)) (bh U U U (nn (al (b:=decide ((ej:Int)<(r_.vars.length:Int))) U (fun hy=>?_) (fun hy=>?_)))))))))
 have j7:=of_decide_eq_true hy
 rcases dj with _ | ⟨h6,hr⟩
 exact absurd j7 (by simp at hq; omega)
 obtain ⟨z1,gd,fs⟩:=aJ fs
 rw [kh] at gd
 have j8:=aY h5
 refine aq (ao (ak ?_))
 obtain ⟨fa,ob,gd⟩:=bind_some gd
 obtain ⟨r2,oh,gd⟩:=bind_some gd
 refine bT 12 [aZ (Pt cp),aZ (o),aZ (Pt g5),aZ (v0_0),aZ (Pq g7 1),aZ (v1_1),aZ (I ej),gC RP.int h6 0,aZ (I h6),gC RP.int fa 0,aZ (I fa),gE] [oF 3 RP.int o J,box cp 26 #[o,S0],box g7 79 #[I r_.kind,v1_1,v1_2,I r_.bound,v1_4],box g5 26 #[v0_0,v0_1]] [.made 11 34 (fun v_=>oF 3 RP.int v_ ([fa])) none] ([]) [([],[]),([],[]),([],[]),([],[]),([],[]),([],[]),([],[]),([],[]),([],[]),([],[]),([],[]),([],[0])] (S:=[(some 11,[34],none)]) aP (by kernel_rfl) U (by kernel_rfl) (ad (ah _) (ad (ah _) (ad (ah _) (ad (ah _) (ad (ah _) (ad (ah _) (ad (ah _) (ad (bU _ _ _) (ad (ah _) (ad (bU _ _ _) (ad (ah _) (ad (bO) bV)))))))))))) Z ?_ (fun f w_ hc c8 ek oj Z=>?_)
 refine aa (fun f w_ _ _ s _ _ Z=>fA 0 bN ((s 5 U).trans c2) U (nO U U Z)) (aa (fun f w_ _ _ _ _ p Z=>bw 1 Z isAgg23 (p 0 23 U U) U U (nO U U Z)) (aa (fun f w_ _ _ s _ _ Z=>fA 0 bN ((s 2 U).trans c1) U (nO U U Z)) (aa (fun f w_ _ _ _ _ p Z=>bw 3 Z isAgg23 (p 2 25 U U) U U (nO U U Z)) (aa (fun f w_ _ _ s _ _ Z=>fA 1 cM ((s 3 U).trans b3) U (nO U U Z)) (aa (fun f w_ _ _ _ _ p Z=>bw 2 Z isAgg23 (p 4 27 U U) U U (nO U U Z)) (aa (fun f w_ _ _ s _ _ Z=>mF ((s 6 U).trans j6) U (nO U U Z)) (aa ?_ ?_)))))))
 intro f w_ hc hQ c8 ek c3 Z
 refine bP (r:=RP.int) U underlying23 sizeOf3 (c3 5 28 U U) (RP.mono _ h1_1 (Le.trans c7 ek)) (c3 6 29 U U) j8 (fun As Bs rv hf kk=>?_)
 obtain rfl:_=[_]:=hf
 exact ax ⟨U,_,_,U,Le.refl _,fun _ _=>⟨_,_,_,U,U,kk⟩,Z⟩
 refine aa ?_ ?_
 intro f w_ hc hQ c8 ek c3 Z
 obtain ⟨Cs,Db,tB,oq,hg,ks⟩:=(c3 7 30 U U)
 obtain rfl:_=[_]:=hg
 refine bt U isAgg3 oq (At.cell (dn.at ks Z.sub) (j:=0) U) (ax ⟨U,_,_,U,Le.refl _,fun _ _=>rfl,Z⟩)
 refine aa ?_ ?_
 intro f w_ hc hQ c8 ek c3 Z
 refine bP (r:=RP.int) U underlying23 sizeOf3 (c3 3 26 U U) (RP.mono _ h0_0 (Le.trans c7 ek)) (c3 8 31 U U) ob (fun D1 ET r0 hh ky=>?_)
 obtain rfl:_=[_]:=hh
 exact ax ⟨U,_,_,U,Le.refl _,fun _ _=>⟨_,_,_,U,U,ky⟩,Z⟩
 refine aa ?_ ?_
 intro f w_ hc hQ c8 ek c3 Z
 obtain ⟨Fs,F0,tC,o0,hi,k0⟩:=(c3 9 32 U U)
 obtain rfl:_=[_]:=hi
 refine bt U isAgg3 o0 (At.cell (dn.at k0 Z.sub) (j:=0) U) (ax ⟨U,_,_,U,Le.refl _,fun _ _=>rfl,Z⟩)
 refine aa ?_ ?_
 intro f w_ hc hQ c8 ek c3 Z
 refine cS U (bG (c3 10 33 U U)) (dp (I fa) U) Z (fun F1 F2 Z=>?_)
 have Z:=ab.dr (r:=RP.int) (cs:=[I fa]) (x:=fa) Z U
 have Z:=ab.bS (R:=(OR.bu RP.int)) [([I fa],fa)] [fa] 1 Z U U U (by decide)
 have Z:=Z.aU [4,4,4,4] U
 exact ax ⟨U,_,_,U,Le.refl _,fun _ _=>trivial,Z⟩
 exact aQ
 have Z:ab hc w_ ([oF 3 RP.int o J,box cp 26 #[o,S0],box g7 79 #[I r_.kind,v1_1,v1_2,I r_.bound,v1_4],box g5 26 #[v0_0,v0_1],oF 3 RP.int (f 34) ([fa])]):=Z
 have Z:=Z.aU [4,1] U
 refine cj (v:=o) (u:=(f 34)) U eb (oj 1 24 U U) U Z oh (fun lo F3 Z=>fA 0 bN ((c8 5 U).trans c2) U (ei (v:=lo) (cs2:=#[lo,S0]) 1 U sizeOf23 U U (aH (ab.len 0 Z U)) Z U U U (fun F4 Z=>nn (ae (mF ((c8 6 U).trans j6) U (bf U U U (aI U (nn ?_))))))))
 obtain rfl:=so gd
 have Z:=Z.aU [3,3,2,3] U
 show ∃ m,m<_∧n8 m _ _
 refine ⟨hr.length,by simp,?_⟩
 exact ij hx ⟨ej+1,hr,r2,hc,lo,U,aL h5,by simp at hq; omega,fs,(Le.trans c7 ek),((c8 2 U).trans c1),((c8 3 U).trans b3),((c8 5 U).trans c2),((eI (aO (n:=r_.vars.length) (by simp at hq; omega) hP))),Z⟩
 rcases dj with _ | ⟨_,_⟩
 obtain rfl:=aT fs
 refine a9 (rj h4 ⟨J,e2,o,U,c7,c1,b3,c2,Z⟩)
 exact absurd (of_decide_eq_false hy) (by simp at hq; omega)
 intro f w_ hR
 obtain ⟨J,e2,o,rfl,c7,c1,b3,c2,Z⟩:=rk h4 hR
 refine sq (cS U cC (qw  ) Z (fun o1 F5 Z=>?_))
 have Z:=ab.bS (R:=(OR.bu (ba 122))) [] [] 0 Z U U U (by decide)
 refine aV (Sl o1 0 0) U (ax (ao ?_))
 obtain ⟨r3,o2,hF⟩:=bind_some hF
 refine ae (fA 1 cM b3 U (bw 3 Z isAgg23 U U U (aW U underlying23 U (ai (RP.mono _ h1_1 c7)) (xk (R:=(OR.bu RP.int)) (z0:=0) (zc:=[I 0]) U eb (by kernel_rfl) (fun _ _=>⟨U,U⟩) U U o2 Z (fun o3 F6 Z=>aV o3 U (nq (sq (aB U (nn ?_)))))))))
 obtain ⟨o4,e3,hF⟩:=bind_some hF
 obtain ⟨ss,h7⟩:=ca fun f w_=>∃ a3:List Con,∃ a0:List Int,∃ a6:Bool,∃ e4,∃ af,o4=.nx (a3,a0,a6)∧Le e2 e4∧f 7=af∧ab e4 w_ ([oS 73 (cP 122) af a3])
 refine av ss ?_ ?_
 refine ak ?_
 obtain ⟨o5,hz⟩:=ff fun n f w_=>∃ a3:List Con,∃ a0:List Int,∃ a6:Bool,∃ e4,∃ af a2:Value,bx (fQ fu m r_ J) n (a3,a0,a6)=some o4∧Le e2 e4∧f 2=Pt g5∧f 3=Pt g7∧f 5=Pt cp∧f 7=af∧f 8=a2∧f 9=Bo a6∧ab e4 w_ ([oS 73 (cP 122) af a3,oF 3 RP.int a2 a0,oF 3 RP.int o J,box cp 26 #[o,S0],box g7 79 #[I r_.kind,v1_1,v1_2,I r_.bound,v1_4],box g5 26 #[v0_0,v0_1]])
 have Z:=Z.get 1 U
 have Z:=ab.uL (R:=(OR.bu (ba 122))) (R':=(cP 122)) U Z
 refine a8 o5 (n:=fu) ?_ ?_
 exact ij hz ⟨[],r3,true,e2,(Sl o1 0 0),o3,e3,(Le.refl _),c1,b3,c2,U,U,U,Z⟩
 intro l0 f w_ hI
 obtain ⟨a3,a0,a6,e4,af,a2,e3,et,c1,b3,c2,eu,e0,sx,Z⟩:=ik hz hI
 rcases l0 with _ | l0
 exact (cl e3).elim
 obtain ⟨F7,bd,e3⟩:=cq e3
 rw [fQ] at bd
 refine ao (sq (mF sx U (nn (al (b:=a6) U (fun hA=>?_) (fun hA=>?_)))))
 have bd:=(az hA).symm.trans bd
 refine aq (ak (ao ?_))
 obtain ⟨sz,o6,bd⟩:=bind_some bd
 refine ae (fA 0 bN c1 U (bw 5 Z isAgg23 U U U (aW U underlying23 U (ai (RP.mono _ h0_0 (Le.trans c7 et))) (xk (R:=(OR.bu RP.int)) (z0:=0) (zc:=[I 0]) U eb (by kernel_rfl) (fun _ _=>⟨U,U⟩) U U o6 Z (fun fo tS Z=>aV fo U (ns (cS U cC (jd  ) Z (fun h8 tT Z=>?_))))))))
 have Z:=ab.bS (R:=(OR.bu RP.int)) [] [] 0 Z U U U (by decide)
 refine aV (Sl h8 0 0) U (nq (sq (aI U (nn ?_))))
 have hB:List.length a0≤9223372036854775807:=bB (ab.len 3 Z U)
 obtain ⟨h9,ec,bd⟩:=bind_some bd
 obtain ⟨o7,hC⟩:=ca fun f w_=>∃ ag:List Int,∃ a1:List Int,∃ dd,∃ an,h9=.nx (ag,a1)∧Le e4 dd∧f 2=Pt g5∧f 3=Pt g7∧f 5=Pt cp∧f 7=af∧f 8=a2∧f 10=fo∧f 11=an∧ab dd w_ ([oS 73 (cP 122) af a3,oF 3 RP.int a2 a0,oF 3 RP.int fo ag,oF 3 RP.int an a1,oF 3 RP.int o J,box cp 26 #[o,S0],box g7 79 #[I r_.kind,v1_1,v1_2,I r_.bound,v1_4],box g5 26 #[v0_0,v0_1]])
 refine av o7 ?_ ?_
 refine ak ?_
 obtain ⟨ih,hj⟩:=ff fun n f w_=>∃ a5:Nat,∃ b4:List Int,∃ ag:List Int,∃ a1:List Int,∃ dd,∃ an,n=b4.length∧List.drop a5 a0=b4∧a5+b4.length=a0.length∧aw (iQ m r_) b4 a5 (ag,a1)=some h9∧Le e4 dd∧f 2=Pt g5∧f 3=Pt g7∧f 5=Pt cp∧f 7=af∧f 8=a2∧f 10=fo∧f 11=an∧f 12=I a5∧ab dd w_ ([oS 73 (cP 122) af a3,oF 3 RP.int a2 a0,oF 3 RP.int fo ag,oF 3 RP.int an a1,oF 3 RP.int o J,box cp 26 #[o,S0],box g7 79 #[I r_.kind,v1_1,v1_2,I r_.bound,v1_4],box g5 26 #[v0_0,v0_1]])
 have Z:=Z.aU [7,7,7,7,4,5,7,7] U
 refine a8 ih (n:=a0.length) ?_ ?_
 exact ij hj ⟨0,a0,sz,[],e4,(Sl h8 0 0),U,U,Nat.zero_add _,ec,(Le.refl _),c1,b3,c2,eu,e0,U,U,U,Z⟩
 intro u0 f w_ hI
 obtain ⟨a5,b4,ag,a1,dd,an,rfl,hD,g1,ec,c4,c1,b3,c2,eu,e0,g3,hs,g0,Z⟩:=ik hj hI
 refine ao (sq (mF g0 U (mF e0 U (aW U underlying23 U (ab.len 1 Z U) (bh U U U (nn (al (b:=decide ((a5:Int)<(a0.length:Int))) U (fun hk=>?_) (fun hk=>?_))))))))
 have hS:=of_decide_eq_true hk
 rcases b4 with _ | ⟨b5,g4⟩
 exact absurd hS (by simp at g1; omega)
 obtain ⟨u2,b1,ec⟩:=aJ ec
 rw [iQ] at b1
 have ds:=aY hD
 refine aq (ao (ak (ao ?_)))
 obtain ⟨en,hE,b1⟩:=bind_some b1
 obtain ⟨u3,hl,b1⟩:=bind_some b1
 obtain ⟨jn,n5,g2,_,_⟩:=ab.row 1 Z U ds
 refine bT 10 [aZ (fo),aZ (Pq g7 1),aZ (v1_1),aZ (I a5),gC RP.int en 0,aZ (I en),aZ (a2),aZ (I a5),aZ (.pointer (some ⟨jn,Int.toNat (a5:Int) * 1,none⟩)),aZ (I b5)] [oS 73 (cP 122) af a3,oF 3 RP.int a2 a0,oF 3 RP.int fo ag,oF 3 RP.int an a1,oF 3 RP.int o J,box cp 26 #[o,S0],box g7 79 #[I r_.kind,v1_1,v1_2,I r_.bound,v1_4],box g5 26 #[v0_0,v0_1]] [] ([]) [([],[]),([],[]),([],[]),([],[]),([],[]),([],[]),([],[]),([],[]),([],[]),([],[])] (S:=[]) aP (by kernel_rfl) U (by kernel_rfl) (ad (ah _) (ad (ah _) (ad (ah _) (ad (ah _) (ad (bU _ _ _) (ad (ah _) (ad (ah _) (ad (ah _) (ad (ah _) (ad (ah _) bV)))))))))) Z ?_ (fun f w_ hG a4 c5 hn Z=>?_)
 refine aa (fun f w_ _ _ s _ _ Z=>mF ((s 10 U).trans g3) U (nO U U Z)) (aa (fun f w_ _ _ s _ _ Z=>fA 1 cM ((s 3 U).trans b3) U (nO U U Z)) (aa (fun f w_ _ _ _ _ p Z=>bw 6 Z isAgg23 (p 1 55 U U) U U (nO U U Z)) (aa (fun f w_ _ _ s _ _ Z=>mF ((s 12 U).trans g0) U (nO U U Z)) (aa ?_ ?_))))
 intro f w_ hG j1 a4 c5 ee Z
 refine bP (r:=RP.int) U underlying23 sizeOf3 (ee 2 56 U U) (RP.mono _ h1_1 (Le.trans (Le.trans (Le.trans c7 et) c4) c5)) (ee 3 57 U U) hE (fun u4 u5 o8 g6 hV=>?_)
 obtain rfl:_=[_]:=g6
 exact ax ⟨U,_,_,U,Le.refl _,fun _ _=>⟨_,_,_,U,U,hV⟩,Z⟩
 refine aa ?_ ?_
 intro f w_ hG j1 a4 c5 ee Z
 obtain ⟨u6,v3,ti,l1,g8,hW⟩:=(ee 4 58 U U)
 obtain rfl:_=[_]:=g8
 refine bt U isAgg3 l1 (At.cell (dn.at hW Z.sub) (j:=0) U) (ax ⟨U,_,_,U,Le.refl _,fun _ _=>rfl,Z⟩)
 refine aa (fun f w_ _ _ s _ _ Z=>mF ((s 8 U).trans e0) U (nO U U Z)) (aa (fun f w_ _ _ s _ _ Z=>mF ((s 12 U).trans g0) U (nO U U Z)) (aa (fun f w_ _ _ _ _ p Z=>bJ (R:=(OR.bu RP.int)) (tb:=0) 0 U underlying23 sizeOf3 (p 6 60 U U) g2 (by first | rfl | simp) (p 7 61 U U) ds (nO U U Z)) (aa ?_ ?_)))
 intro f w_ hG j1 a4 c5 ee Z
 obtain ⟨tl,l2,h0⟩:=ab.fE 1 Z U g2 ds
 obtain rfl:_=[_]:=l2
 refine bt U isAgg3 (ee 8 62 U U) (At.cell h0 (j:=0) U) (ax ⟨U,_,_,U,Le.refl _,fun _ _=>rfl,Z⟩)
 exact aQ
 obtain ⟨v8,n6,hJ,_,_⟩:=ab.row 2 Z U hl
 refine bJ (R:=(OR.bu RP.int)) (tb:=0) 0 U underlying23 sizeOf3 (hn 0 54 U U) hJ (by first | rfl | simp) (hn 5 59 U U) hl ?_
 have Z:=ab.dr (r:=RP.int) (cs:=[I b5]) (x:=b5) Z U
 have Z:=Z.aU [3,1] U
 refine fj (u:=I b5) U sizeOf3 U U (hn 9 63 U U) hJ Z hl (fun v9 Z=>?_)
 refine nn ?_
 obtain ⟨dg,l3,b1⟩:=bind_some b1
 obtain ⟨o9,l4,b1⟩:=bind_some b1
 refine bT 14 [aZ (an),aZ (.agg #[v0_0,v0_1]),aZ (Pq g7 1),aZ (v1_1),aZ (I a5),gC RP.int en 0,aZ (I en),aZ (a2),aZ (I a5),aZ (.pointer (some ⟨jn,Int.toNat (a5:Int) * 1,none⟩)),aZ (I b5),aZ (I dg),aZ (I (i64 (-dg))),gE] [oF 3 RP.int fo (ag.set (Int.toNat en) b5),oS 73 (cP 122) af a3,oF 3 RP.int a2 a0,oF 3 RP.int an a1,oF 3 RP.int o J,box cp 26 #[o,S0],box g7 79 #[I r_.kind,v1_1,v1_2,I r_.bound,v1_4],box g5 26 #[v0_0,v0_1]] [.made 13 78 (fun v_=>oF 3 RP.int v_ ([i64 (-dg)])) none] ([]) [([],[]),([],[]),([],[]),([],[]),([],[]),([],[]),([],[]),([],[]),([],[]),([],[]),([],[]),([],[]),([],[]),([],[0])] (S:=[(some 13,[78],none)]) aP (by kernel_rfl) U (by kernel_rfl) (ad (ah _) (ad (ah _) (ad (ah _) (ad (ah _) (ad (ah _) (ad (bU _ _ _) (ad (ah _) (ad (ah _) (ad (ah _) (ad (ah _) (ad (ah _) (ad (ah _) (ad (ah _) (ad (bO) bV)))))))))))))) Z ?_ (fun f w_ e5 bs b8 l5 Z=>?_)
 refine aa (fun f w_ _ _ s _ _ Z=>mF ((s 11 U).trans ((a4 11 U).trans hs)) U (nO U U Z)) (aa (fun f w_ _ _ s _ _ Z=>a7 (cs:=[v0_0,v0_1]) U isAgg26 sizeOf26 ((s 2 U).trans ((a4 2 U).trans c1)) (At.bK (de.at (ab.aM 7 Z U)) 0 2) U (nO U U Z)) (aa (fun f w_ _ _ s _ _ Z=>fA 1 cM ((s 3 U).trans ((a4 3 U).trans b3)) U (nO U U Z)) (aa (fun f w_ _ _ _ _ p Z=>bw 6 Z isAgg23 (p 2 67 U U) U U (nO U U Z)) (aa (fun f w_ _ _ s _ _ Z=>mF ((s 12 U).trans ((a4 12 U).trans g0)) U (nO U U Z)) (aa ?_ ?_)))))
 intro f w_ e5 ht bs b8 b0 Z
 refine bP (r:=RP.int) U underlying23 sizeOf3 (b0 3 68 U U) (RP.mono _ h1_1 (Le.trans (Le.trans (Le.trans (Le.trans c7 et) c4) c5) b8)) (b0 4 69 U U) hE (fun w0 w1 p0 g9 h1=>?_)
 obtain rfl:_=[_]:=g9
 exact ax ⟨U,_,_,U,Le.refl _,fun _ _=>⟨_,_,_,U,U,h1⟩,Z⟩
 refine aa ?_ ?_
 intro f w_ e5 ht bs b8 b0 Z
 obtain ⟨w2,w3,tn,l7,ha,h2⟩:=(b0 5 70 U U)
 obtain rfl:_=[_]:=ha
 refine bt U isAgg3 l7 (At.cell (dn.at h2 Z.sub) (j:=0) U) (ax ⟨U,_,_,U,Le.refl _,fun _ _=>rfl,Z⟩)
 refine aa (fun f w_ _ _ s _ _ Z=>mF ((s 8 U).trans ((a4 8 U).trans e0)) U (nO U U Z)) (aa (fun f w_ _ _ s _ _ Z=>mF ((s 12 U).trans ((a4 12 U).trans g0)) U (nO U U Z)) (aa (fun f w_ _ _ _ _ p Z=>bJ (R:=(OR.bu RP.int)) (tb:=0) 0 U underlying23 sizeOf3 (p 7 72 U U) g2 (by first | rfl | simp) (p 8 73 U U) ds (nO U U Z)) (aa ?_ ?_)))
 intro f w_ e5 ht bs b8 b0 Z
 obtain ⟨tr,l8,h3⟩:=ab.fE 2 Z U g2 ds
 obtain rfl:_=[_]:=l8
 refine bt U isAgg3 (b0 9 74 U U) (At.cell h3 (j:=0) U) (ax ⟨U,_,_,U,Le.refl _,fun _ _=>rfl,Z⟩)
 refine aa ?_ ?_
 intro f w_ e5 ht bs b8 b0 Z
 obtain ⟨ts,j2,p1,w4,p2⟩:=Z.borrow
 refine ar U call70 (k9 (b0 1 66 U U) (b0 6 71 U U) (b0 10 75 U U)) (qB (m:=m) (cell:=en) (value:=b5) p1 (RP.mono _ h0_0 (Le.trans (Le.trans (Le.trans (Le.trans (Le.trans c7 et) c4) c5) b8) j2)) (RP.mono _ h0_1 (Le.trans (Le.trans (Le.trans (Le.trans (Le.trans c7 et) c4) c5) b8) j2)) l3) ?_
 rintro _ w5 ⟨rfl,Z⟩
 have Z:=p2 Z c0
 exact ax ⟨U,_,_,U,Le.refl _,fun _ _=>rfl,Z⟩
 refine aa (fun f w_ _ _ _ _ p Z=>kg U (p 11 76 U U) (nO U U Z)) (aa ?_ ?_)
 intro f w_ e5 ht bs b8 b0 Z
 refine cS U (bG (b0 12 77 U U)) (dp (I (i64 (-dg))) U) Z (fun w7 w9 Z=>?_)
 have Z:=ab.dr (r:=RP.int) (cs:=[I (i64 (-dg))]) (x:=(i64 (-dg))) Z U
 have Z:=ab.bS (R:=(OR.bu RP.int)) [([I (i64 (-dg))],i64 (-dg))] [i64 (-dg)] 1 Z U U U (by decide)
 have Z:=Z.aU [8,8,8,8,8,8,8,8] U
 exact ax ⟨U,_,_,U,Le.refl _,fun _ _=>trivial,Z⟩
 exact aQ
 have Z:ab e5 w_ ([oF 3 RP.int fo (ag.set (Int.toNat en) b5),oS 73 (cP 122) af a3,oF 3 RP.int a2 a0,oF 3 RP.int an a1,oF 3 RP.int o J,box cp 26 #[o,S0],box g7 79 #[I r_.kind,v1_1,v1_2,I r_.bound,v1_4],box g5 26 #[v0_0,v0_1],oF 3 RP.int (f 78) ([i64 (-dg)])]):=Z
 have Z:=Z.aU [8,4] U
 refine cj (v:=an) (u:=(f 78)) U eb (l5 0 65 U U) U Z l4 (fun j3 x0 Z=>aV j3 U (nn (ae (mF ((bs 12 U).trans ((a4 12 U).trans g0)) U (bf U U U (aI U (nn ?_)))))))
 obtain rfl:=so b1
 have Z:=Z.aU [7,7,7,7,4,5,7,7] U
 show ∃ m,m<_∧ih m _ _
 refine ⟨g4.length,by simp,?_⟩
 exact ij hj ⟨a5+1,g4,(ag.set (Int.toNat en) b5),o9,e5,j3,U,aL hD,by simp at g1; omega,ec,(Le.trans (Le.trans c4 c5) b8),((bs 2 U).trans ((a4 2 U).trans c1)),((bs 3 U).trans ((a4 3 U).trans b3)),((bs 5 U).trans ((a4 5 U).trans c2)),((bs 7 U).trans ((a4 7 U).trans eu)),((bs 8 U).trans ((a4 8 U).trans e0)),((bs 10 U).trans ((a4 10 U).trans g3)),U,((eI (aO (n:=a0.length) (by simp at g1; omega) hB))),Z⟩
 rcases b4 with _ | ⟨_,_⟩
 obtain rfl:=aT ec
 refine a9 (rj hC ⟨ag,a1,dd,an,U,c4,c1,b3,c2,eu,e0,g3,hs,Z⟩)
 exact absurd (of_decide_eq_false hk) (by simp at g1; omega)
 intro f w_ hR
 obtain ⟨ag,a1,dd,an,rfl,c4,c1,b3,c2,eu,e0,g3,hs,Z⟩:=rk hC hR
 refine ao (ao ?_)
 obtain ⟨p3,l9,bd⟩:=bind_some bd
 refine ae (a7 (cs:=[I r_.kind,v1_1,v1_2,I r_.bound,v1_4]) U isAgg79 sizeOf79 b3 (At.bK (de.at (ab.aM 6 Z U)) 0 5) U (mF g3 U ?_))
 obtain ⟨mg,hK,p4,p5,p6⟩:=Z.borrow
 have m0:(rS 3 RP.int).rel mg [fo] ag:=cg 2 p5 U
 refine ar U call155 (cu U U) (xX (r_:=r_) (cells:=ag) p4 (RP.mono _ h1_1 (Le.trans (Le.trans (Le.trans c7 et) c4) hK)) (RP.mono _ h1_2 (Le.trans (Le.trans (Le.trans c7 et) c4) hK)) (RP.mono _ h1_4 (Le.trans (Le.trans (Le.trans c7 et) c4) hK)) m0 l9) ?_
 rintro _ x1 ⟨rfl,Z⟩
 have Z:=p6 Z c0
 refine bL U U (nn ?_)
 obtain ⟨hb,b2,bd⟩:=bind_some bd
 obtain ⟨q0,ho⟩:=ca fun f w_=>∃ c6,f 2=Pt g5∧f 3=Pt g7∧f 5=Pt cp∧f 7=c6∧f 8=a2∧ab dd w_ ([oS 73 (cP 122) c6 hb,oF 3 RP.int a2 a0,oF 3 RP.int o J,box cp 26 #[o,S0],box g7 79 #[I r_.kind,v1_1,v1_2,I r_.bound,v1_4],box g5 26 #[v0_0,v0_1]])
 refine av q0 ?_ ?_
 refine al (b:=(!p3)) U (fun hp=>?_) (fun hp=>?_)
 have b2:=(az hp).symm.trans b2
 refine ao ?_
 obtain ⟨cn,m1,b2⟩:=bind_some b2
 refine ae (mF hs U ?_)
 obtain ⟨m2,x2,q1,q2,q3⟩:=Z.borrow
 have n0:(rS 3 RP.int).rel m2 [an] a1:=cg 3 q2 U
 refine ar U call107 (b9 U) (sg (lits:=a1) q1 n0 m1) ?_
 rintro _ x3 ⟨ch,rfl,Z⟩
 have Z:=q3 Z (co bI c0)
 refine mV (.tuple #[.agg #[ch,I cn.1.bound],Bo cn.2]) U (dF (v:=.agg #[ch,I cn.1.bound]) U U U (dF (v:=Bo cn.2) U U U (dS (cs:=#[S0,I 0]) U zeroValue73 U Z (fun x4 x5 Z=>bg (vs:=#[ch,I cn.1.bound]) (cs2:=#[ch,I cn.1.bound]) 0 U sizeOf73 U U U (aj (aH (ab.len 1 Z U)) (aj U aK)) Z U (by show 0+2≤2; decide) U (fun x6 Z=>aB U (nn ?_))))))
 obtain ⟨x7,n1,b2⟩:=bind_some b2
 refine ae (mF eu U (a7 (cs:=[ch,I cn.1.bound]) U isAgg73 sizeOf73 U (At.bK (de.at (ab.aM 0 Z U)) 0 2) U (cS U (bG U) (iO (ch) (I cn.1.bound) ) Z (fun q4 x8 Z=>?_))))
 have Z:=Z.get 2 U
 have Z:=gr (c:=cn.1) Z
 have Z:=ab.bS (R:=(cP 122)) [([ch,I cn.1.bound],cn.1)] [cn.1] 1 Z U U U (by decide)
 have Z:=Z.get 2 U
 refine cj (v:=af) (u:=(Sl q4 1 1)) U nU U U Z n1 (fun j4 x9 Z=>aV j4 U (nn ?_))
 obtain rfl:=so b2
 have Z:=Z.aU [8,8,8,8,6,5] U
 exact rj ho ⟨j4,c1,b3,c2,U,e0,(ab.aG 6 Z)⟩
 have b2:=(ay hp).symm.trans b2
 refine aq ?_
 obtain rfl:=so b2
 have Z:=Z.aU [7,7,7,7,5,5] U
 exact rj ho ⟨af,c1,b3,c2,eu,e0,(ab.aG 6 Z)⟩
 intro f w_ hR
 obtain ⟨c6,c1,b3,c2,eu,e0,Z⟩:=rk ho hR
 obtain ⟨hv,n2,bd⟩:=bind_some bd
 refine ae (a7 (cs:=[o,S0]) U isAgg26 sizeOf26 c2 (At.bK (de.at (ab.aM 3 Z U)) 0 2) U (mF e0 U ?_))
 obtain ⟨hN,ys,q8,j5,ra⟩:=Z.borrow
 have n3:(rS 3 RP.int).rel hN [o] J:=cg 2 j5 U
 have n4:(rS 3 RP.int).rel hN [a2] a0:=cg 1 j5 U
 refine ar U call156 (cu U U) (z2 (m:=({ sizes:=J,rules:=[] }:Model)) (cells:=a0) q8 n3 (fw _ _ _) n4 n2) ?_
 rintro _ y1 ⟨e1,rfl,Z⟩
 have Z:=ra Z (co bk c0)
 refine mV (.tuple #[e1,Bo hv.2]) U (dF (v:=e1) U U U (dF (v:=Bo hv.2) U U U (aV e1 U (aB U (nn ?_)))))
 obtain rfl:=so bd
 have Z:=Z.aU [6,6,6,6,4,5] U
 show ∃ m,m<_∧o5 m _ _
 refine ⟨l0,Nat.lt_succ_self _,?_⟩
 exact ij hz ⟨hb,hv.1,hv.2,dd,c6,e1,e3,(Le.trans et c4),c1,b3,c2,eu,U,U,(ab.aG 6 Z)⟩
 have bd:=(ay hA).symm.trans bd
 refine a9 ?_
 obtain rfl:=so bd
 obtain rfl:=so e3
 exact rj h7 ⟨a3,a0,a6,e4,af,U,et,eu,(ab.aG 1 Z)⟩
 intro f w_ hR
 obtain ⟨a3,a0,a6,e4,af,rfl,et,eu,Z⟩:=rk h7 hR
 refine sq (mF eu U (aV af U (nn (aA (aN (v1:=af) results111 U ?_)))))
 obtain rfl:=so hF
 exact ⟨af,U,(ab.down Z (Le.trans c7 et) (co ed c0))⟩
theorem zL {fu:Nat} {m:Model} {r_:Rule} {v0_0:Value} {v0_1:Value} {v1_1:Value} {v1_2:Value} {v1_4:Value} {H:FH} {w:World} (Z:ab H w []) (h0_0:(rS 3 RP.int).rel H [v0_0] m.sizes) (h0_1:(rS 79 (cY 3 23)).rel H [v0_1] m.rules) (h1_1:(rS 3 RP.int).rel H [v1_1] r_.vars) (h1_2:(rS 3 RP.int).rel H [v1_2] r_.coefs) (h1_4:(rS 23 (rS 3 RP.int)).rel H [v1_4] r_.rows) {r:List Con} (hF:pO fu m r_=some r):C prog 53 #[.agg #[v0_0,v0_1],.agg #[I r_.kind,v1_1,v1_2,I r_.bound,v1_4]] w fun v w'=>∃ (u1:Value),v=u1∧ab H w' [oS 73 (cP 122) u1 r]:=by
 unfold pO at hF
 refine aE func53 U ntmps53 U (sq (cr (v:=.agg #[v0_0,v0_1]) (cs:=#[v0_0,v0_1]) U U U Z (fun g5 w6 Z=>cr (v:=.agg #[I r_.kind,v1_1,v1_2,I r_.bound,v1_4]) (cs:=#[I r_.kind,v1_1,v1_2,I r_.bound,v1_4]) U U U Z (fun g7 w8 Z=>aV S0 U (nq (sq (fA 0 gB U U (bw 0 Z isAgg3 U U U (nn (ak (sq (bD U U U (aB U (nn (al (b:=(r_.kind == 1)) U (fun a0=>?_) (fun a0=>?_))))))))))))))))
 have hF:=(az a0).symm.trans hF
 refine ao ?_
 obtain ⟨b4,a1,hF⟩:=bind_some hF
 refine ae (a7 (cs:=[v0_0,v0_1]) U isAgg26 sizeOf26 U (At.bK (de.at (ab.aM 1 Z U)) 0 2) U (a7 (cs:=[I r_.kind,v1_1,v1_2,I r_.bound,v1_4]) U isAgg79 sizeOf79 U (At.bK (de.at (ab.aM 0 Z U)) 0 5) U ?_))
 obtain ⟨b1,R,a4,b5,a5⟩:=Z.borrow
 refine ar U call109 (cu U U) (xL (m:=m) (r_:=r_) a4 (RP.mono _ h0_0 R) (RP.mono _ h0_1 R) (RP.mono _ h1_1 R) (RP.mono _ h1_2 R) (RP.mono _ h1_4 R) a1) ?_
 rintro j b8 ⟨_,rfl,Z⟩
 have Z:=a5 Z (co ed c0)
 refine aV j U (nn (aA (aN (v1:=j) results53 U ?_)))
 obtain rfl:=so hF
 exact ⟨j,U,(ab.aG 1 Z)⟩
 have hF:=(ay a0).symm.trans hF
 refine sq (bD U U U (aB U (nn (al (b:=(r_.kind == 2)) U (fun af=>?_) (fun af=>?_)))))
 have hF:=(az af).symm.trans hF
 refine ao ?_
 obtain ⟨ch,a2,hF⟩:=bind_some hF
 refine ae (a7 (cs:=[v0_0,v0_1]) U isAgg26 sizeOf26 U (At.bK (de.at (ab.aM 1 Z U)) 0 2) U (a7 (cs:=[I r_.kind,v1_1,v1_2,I r_.bound,v1_4]) U isAgg79 sizeOf79 U (At.bK (de.at (ab.aM 0 Z U)) 0 5) U ?_))
 obtain ⟨b2,ag,a6,cn,bd⟩:=Z.borrow
 refine ar U call110 (cu U U) (tJ (m:=m) (r_:=r_) a6 (RP.mono _ h0_0 ag) (RP.mono _ h0_1 ag) (RP.mono _ h1_1 ag) (RP.mono _ h1_2 ag) (RP.mono _ h1_4 ag) a2) ?_
 rintro o cp ⟨_,rfl,Z⟩
 have Z:=bd Z (co ed c0)
 refine aV o U (nn (aA (aN (v1:=o) results53 U ?_)))
 obtain rfl:=so hF
 exact ⟨o,U,(ab.aG 1 Z)⟩
 have hF:=(ay af).symm.trans hF
 refine aq (ao ?_)
 obtain ⟨c1,a3,hF⟩:=bind_some hF
 refine ae (a7 (cs:=[v0_0,v0_1]) U isAgg26 sizeOf26 U (At.bK (de.at (ab.aM 1 Z U)) 0 2) U (a7 (cs:=[I r_.kind,v1_1,v1_2,I r_.bound,v1_4]) U isAgg79 sizeOf79 U (At.bK (de.at (ab.aM 0 Z U)) 0 5) U ?_))
 obtain ⟨b3,an,bs,c2,b0⟩:=Z.borrow
 refine ar U call111 (cu U U) (xg (m:=m) (r_:=r_) bs (RP.mono _ h0_0 an) (RP.mono _ h0_1 an) (RP.mono _ h1_1 an) (RP.mono _ h1_2 an) (RP.mono _ h1_4 an) a3) ?_
 rintro J c3 ⟨_,rfl,Z⟩
 have Z:=b0 Z (co ed c0)
 refine aV J U (nn (aA (aN (v1:=J) results53 U ?_)))
 obtain rfl:=so hF
 exact ⟨J,U,(ab.aG 1 Z)⟩
theorem tM {fu:Nat} {m:Model} {v0_0:Value} {v0_1:Value} {H:FH} {w:World} (Z:ab H w []) (h0_0:(rS 3 RP.int).rel H [v0_0] m.sizes) (h0_1:(rS 79 (cY 3 23)).rel H [v0_1] m.rules) {r:(List Con) × Bool} (hF:kc fu m=some r):C prog 14 #[.agg #[v0_0,v0_1]] w fun v w'=>∃ (u1:Value),v=.tuple #[u1,Bo r.2]∧ab H w' [oS 73 (cP 122) u1 r.1]:=by
 unfold kc at hF
 refine aE func14 U ntmps14 U (sq (cr (v:=.agg #[v0_0,v0_1]) (cs:=#[v0_0,v0_1]) U U U Z (fun g3 w4 Z=>aV S0 U (aB U (nq (ao ?_))))))
 obtain ⟨hB,g7,hF⟩:=bind_some hF
 refine ae (a7 (cs:=[v0_0,v0_1]) U isAgg26 sizeOf26 U (At.bK (de.at (ab.aM 0 Z U)) 0 2) U ?_)
 obtain ⟨h7,g8,hC,j4,hD⟩:=Z.borrow
 refine ar U call51 (b9 U) (vr (m:=m) hC (RP.mono _ h0_0 g8) (RP.mono _ h0_1 g8) g7) ?_
 rintro _ j5 ⟨rfl,Z⟩
 have Z:=hD Z c0
 refine bL U U (nn (al (b:=(!hB)) U (fun c4=>?_) (fun c4=>?_)))
 have hF:=(az c4).symm.trans hF
 refine sq (cS U cC (qw  ) Z (fun e4 j6 Z=>?_))
 have Z:=ab.bS (R:=(OR.bu (ba 122))) [] [] 0 Z U U U (by decide)
 refine aV (Sl e4 0 0) U (aB U (nn (aA (dc (v1:=(Sl e4 0 0)) (v2:=Bo false) results14 U U ?_))))
 obtain rfl:=so hF
 have Z:=ab.uL (R:=(OR.bu (ba 122))) (R':=(cP 122)) U Z
 exact ⟨(Sl e4 0 0),U,(ab.aG 1 Z)⟩
 have hF:=(ay c4).symm.trans hF
 refine aq (sq (cS U cC (qw  ) Z (fun g9 j7 Z=>?_)))
 have Z:=ab.bS (R:=(OR.bu (ba 122))) [] [] 0 Z U U U (by decide)
 refine aV (Sl g9 0 0) U (nq (sq (aI U (nn ?_))))
 have dj:List.length m.sizes≤9223372036854775807:=bB (ai h0_0)
 obtain ⟨ha,bs,hF⟩:=bind_some hF
 obtain ⟨hE,eu⟩:=ca fun f w_=>∃ af:List Con,∃ o,ha=.nx af∧f 1=Pt g3∧f 4=o∧ab H w_ ([oS 73 (cP 122) o af,box g3 26 #[v0_0,v0_1]])
 refine av hE ?_ ?_
 refine ak ?_
 obtain ⟨hb,c5⟩:=ff fun n f w_=>∃ a1:Nat,∃ ag:List Int,∃ af:List Con,∃ o,n=ag.length∧List.drop a1 m.sizes=ag∧a1+ag.length=m.sizes.length∧aw (fX m) ag a1 af=some ha∧f 1=Pt g3∧f 4=o∧f 5=I a1∧ab H w_ ([oS 73 (cP 122) o af,box g3 26 #[v0_0,v0_1]])
 have Z:=ab.uL (R:=(OR.bu (ba 122))) (R':=(cP 122)) U Z
 refine a8 hb (n:=m.sizes.length) ?_ ?_
 exact ij c5 ⟨0,m.sizes,[],(Sl g9 0 0),U,U,Nat.zero_add _,bs,U,U,U,Z⟩
 intro j8 f w_ hI
 obtain ⟨a1,ag,af,o,rfl,e0,cp,bs,a3,bd,e5,Z⟩:=ik c5 hI
 refine ao (sq (mF e5 U (fA 0 bN a3 U (bw 1 Z isAgg23 U U U (aW U underlying23 U (ai h0_0) (bh U U U (nn (al (b:=decide ((a1:Int)<(m.sizes.length:Int))) U (fun c6=>?_) (fun c6=>?_)))))))))
 have fa:=of_decide_eq_true c6
 rcases ag with _ | ⟨h8,c1⟩
 exact absurd fa (by simp at cp; omega)
 obtain ⟨kk,b0,bs⟩:=aJ bs
 rw [fX] at b0
 have hG:=aY e0
 refine aq (ao (ak ?_))
 obtain ⟨ks,hc,b0⟩:=bind_some b0
 obtain ⟨hJ,hf,b0⟩:=bind_some b0
 refine ae (mF bd U (a7 (cs:=[v0_0,v0_1]) U isAgg26 sizeOf26 a3 (At.bK (de.at (ab.aM 1 Z U)) 0 2) U (mF e5 U ?_)))
 obtain ⟨h9,hg,hK,ky,hN⟩:=Z.borrow
 refine ar U call52 (cu U U) (zC (m:=m) (cell:=(a1:Int)) hK (RP.mono _ h0_0 hg) (RP.mono _ h0_1 hg) hc) ?_
 rintro fo k0 ⟨_,rfl,Z⟩
 have Z:=hN Z (co ed c0)
 have Z:=Z.get 1 U
 refine cj (v:=o) (u:=fo) U nU U U Z hf (fun hh lo Z=>aV hh U (nn (ae (mF e5 U (bf U U U (aI U (nn ?_)))))))
 obtain rfl:=so b0
 show ∃ m,m<_∧hb m _ _
 refine ⟨c1.length,by simp,?_⟩
 exact ij c5 ⟨a1+1,c1,hJ,hh,U,aL e0,by simp at cp; omega,bs,a3,U,((eI (aO (n:=m.sizes.length) (by simp at cp; omega) dj))),Z⟩
 rcases ag with _ | ⟨_,_⟩
 obtain rfl:=aT bs
 refine a9 (rj eu ⟨af,o,U,a3,bd,Z⟩)
 exact absurd (of_decide_eq_false c6) (by simp at cp; omega)
 intro f w_ hR
 obtain ⟨af,o,rfl,a3,bd,Z⟩:=rk eu hR
 refine ao (sq (aI U (nn ?_)))
 have ds:List.length m.rules≤9223372036854775807:=bB (ai h0_1)
 obtain ⟨hi,b1,hF⟩:=bind_some hF
 obtain ⟨hP,e1⟩:=ca fun f w_=>∃ J:List Con,∃ b4,∃ j,hi=.nx J∧Le H b4∧f 4=j∧ab b4 w_ ([oS 73 (cP 122) j J])
 refine av hP ?_ ?_
 refine ak ?_
 obtain ⟨hj,c7⟩:=ff fun n f w_=>∃ a2:Nat,∃ an:List Rule,∃ J:List Con,∃ b4,∃ j,n=an.length∧List.drop a2 m.rules=an∧a2+an.length=m.rules.length∧aw (fU fu m) an a2 J=some hi∧Le H b4∧f 1=Pt g3∧f 4=j∧f 6=I a2∧ab b4 w_ ([oS 73 (cP 122) j J,box g3 26 #[v0_0,v0_1]])
 refine a8 hj (n:=m.rules.length) ?_ ?_
 exact ij c7 ⟨0,m.rules,af,H,o,U,U,Nat.zero_add _,b1,(Le.refl _),a3,bd,U,Z⟩
 intro l0 f w_ hI
 obtain ⟨a2,an,J,b4,j,rfl,e2,c2,b1,b3,a3,bd,fs,Z⟩:=ik c7 hI
 refine ao (sq (mF fs U (fA 1 fB a3 U (bw 1 Z isAgg24 U U U (aW U underlying24 U (ai (RP.mono _ h0_1 b3)) (bh U U U (nn (al (b:=decide ((a2:Int)<(m.rules.length:Int))) U (fun c8=>?_) (fun c8=>?_)))))))))
 have gd:=of_decide_eq_true c8
 rcases an with _ | ⟨a0,c3⟩
 exact absurd gd (by simp at c2; omega)
 obtain ⟨l1,b2,b1⟩:=aJ b1
 rw [fU] at b2
 have g0:=aY e2
 refine aq (ao (ak ?_))
 obtain ⟨hk,hl,b2⟩:=bind_some b2
 obtain ⟨hQ,hn,b2⟩:=bind_some b2
 refine bT 8 [aZ (j),aZ (.agg #[v0_0,v0_1]),aZ (Pq g3 1),aZ (v0_1),aZ (I a2),gC (cY 3 23) a0 0,tf (eJ (rS 3 RP.int) a0.vars) fun hS=>tf (eJ (rS 3 RP.int) a0.coefs) fun hV=>tf (eJ (rS 23 (rS 3 RP.int)) a0.rows) fun hW=>aZ (.agg #[I a0.kind,hS,hV,I a0.bound,hW]),gE] [oS 73 (cP 122) j J,box g3 26 #[v0_0,v0_1]] [.made 7 38 (fun v_=>oS 73 (cP 122) v_ hk) none] ([]) [([],[]),([],[]),([],[]),([],[]),([],[]),([],[]),([],[]),([],[0])] (S:=[(some 7,[38],none)]) aP (by kernel_rfl) U (by kernel_rfl) (ad (ah _) (ad (ah _) (ad (ah _) (ad (ah _) (ad (ah _) (ad (bU _ _ _) (ad (dk (cA _ _) fun _=>dk (cA _ _) fun _=>dk (cA _ _) fun _=>ah _) (ad (bO) bV)))))))) Z ?_ (fun f w_ dd b5 a4 ho Z=>?_)
 refine aa (fun f w_ _ _ s _ _ Z=>mF ((s 4 U).trans bd) U (nO U U Z)) (aa (fun f w_ _ _ s _ _ Z=>a7 (cs:=[v0_0,v0_1]) U isAgg26 sizeOf26 ((s 1 U).trans a3) (At.bK (de.at (ab.aM 1 Z U)) 0 2) U (nO U U Z)) (aa (fun f w_ _ _ s _ _ Z=>fA 1 fB ((s 1 U).trans a3) U (nO U U Z)) (aa (fun f w_ _ _ _ _ p Z=>bw 1 Z isAgg24 (p 2 33 U U) U U (nO U U Z)) (aa (fun f w_ _ _ s _ _ Z=>mF ((s 6 U).trans fs) U (nO U U Z)) (aa ?_ ?_)))))
 intro f w_ dd hp b5 a4 a5 Z
 refine bP (r:=(cY 3 23)) U underlying24 sizeOf79 (a5 3 34 U U) (RP.mono _ h0_1 (Le.trans b3 a4)) (a5 4 35 U U) g0 (fun l2 l3 hv a6 g1=>?_)
 obtain ⟨h0,h1,h2,rfl,hx,hy,hz⟩:=iL.1 a6
 exact ax ⟨U,_,_,U,Le.refl _,fun _ _=>⟨_,_,_,U,a6,g1⟩,Z⟩
 refine aa ?_ ?_
 intro f w_ dd hp b5 a4 a5 Z
 obtain ⟨l4,l5,ih,hq,ch,g2⟩:=(a5 5 36 U U)
 obtain ⟨g4,g5,g6,rfl,ec,ee,ej⟩:=iL.1 ch
 refine a7 (cs:=[I a0.kind,g4,g5,I a0.bound,g6]) U isAgg79 sizeOf79 hq (At.sub (dn.at g2 Z.sub) 0 5) U (ax ⟨U,_,_,U,Le.refl _,fun _ _=>⟨_,ec,_,ee,_,ej,U⟩,Z⟩)
 refine aa ?_ ?_
 intro f w_ dd hp b5 a4 a5 Z
 obtain ⟨h3,ek,h4,en,h5,et,hr⟩:=(a5 6 37 U U)
 obtain ⟨h6,b8,hs,jn,ht⟩:=Z.borrow
 refine ar U call53 (cu (a5 1 32 U U) hr) (zL (m:=m) (r_:=a0) hs (RP.mono _ h0_0 (Le.trans (Le.trans b3 a4) b8)) (RP.mono _ h0_1 (Le.trans (Le.trans b3 a4) b8)) (RP.mono _ ek b8) (RP.mono _ en b8) (RP.mono _ et b8) hl) ?_
 rintro hA j1 ⟨_,rfl,Z⟩
 have Z:=ht Z (co ed c0)
 have Z:=Z.aU [2,2] U
 exact ax ⟨U,_,_,U,Le.refl _,fun _ _=>trivial,Z⟩
 exact aQ
 have Z:ab dd w_ ([oS 73 (cP 122) j J,box g3 26 #[v0_0,v0_1],oS 73 (cP 122) (f 38) hk]):=Z
 have Z:=Z.aU [2,1] U
 refine cj (v:=j) (u:=(f 38)) U nU (ho 0 31 U U) U Z hn (fun e3 j2 Z=>aV e3 U (nn (ae (mF ((b5 6 U).trans fs) U (bf U U U (aI U (nn ?_)))))))
 obtain rfl:=so b2
 show ∃ m,m<_∧hj m _ _
 refine ⟨c3.length,by simp,?_⟩
 exact ij c7 ⟨a2+1,c3,hQ,dd,e3,U,aL e2,by simp at c2; omega,b1,(Le.trans b3 a4),((b5 1 U).trans a3),U,((eI (aO (n:=m.rules.length) (by simp at c2; omega) ds))),Z⟩
 rcases an with _ | ⟨_,_⟩
 obtain rfl:=aT b1
 refine a9 (rj e1 ⟨J,b4,j,U,b3,bd,(ab.aG 1 Z)⟩)
 exact absurd (of_decide_eq_false c8) (by simp at c2; omega)
 intro f w_ hR
 obtain ⟨J,b4,j,rfl,b3,bd,Z⟩:=rk e1 hR
 refine ao (sq (mF bd U (aW U underlying28 U (ab.len 0 Z U) (c9 U U U (nn (al (b:=decide ((J.length:Int) > 400)) U (fun cn=>?_) (fun cn=>?_)))))))
 have hF:=(az cn).symm.trans hF
 refine sq (cS U cC (qw  ) Z (fun dg j3 Z=>?_))
 have Z:=ab.bS (R:=(OR.bu (ba 122))) [] [] 0 Z U U U (by decide)
 refine aV (Sl dg 0 0) U (aB U (nn (aA (dc (v1:=(Sl dg 0 0)) (v2:=Bo false) results14 U U ?_))))
 obtain rfl:=so hF
 have Z:=ab.uL (R:=(OR.bu (ba 122))) (R':=(cP 122)) U Z
 exact ⟨(Sl dg 0 0),U,(ab.down (ab.aG 1 Z) b3 (co ed c0))⟩
 have hF:=(ay cn).symm.trans hF
 refine aq (sq (mF bd U (aV j U (aB U (nn (aA (dc (v1:=j) (v2:=Bo true) results14 U U ?_)))))))
 obtain rfl:=so hF
 exact ⟨j,U,(ab.down Z b3 (co ed c0))⟩
theorem nX {s1:List Term} {s2:List Term} {v0:Value} {v1:Value} {H:FH} {w:World} (Z:ab H w []) (h0:(rS 122 au).rel H [v0] s1) (h1:(rS 122 au).rel H [v1] s2) {r:Bool} (hF:eV s1 s2=some r):C prog 112 #[v0,v1] w fun v w'=>v=Bo r∧ab H w' []:=by
 unfold eV at hF
 refine aE func112 U ntmps112 U (sq (aB U (nq (sq (mV v0 U (aW U underlying71 U (ai h0) (mV v1 U (aW U underlying71 U (ai h1) (gS U U U (nn (al (b:=((s1.length:Int) != (s2.length:Int))) U (fun b4=>?_) (fun b4=>?_))))))))))))
 have hF:=(az b4).symm.trans hF
 refine sq (aB U (nn (aA (aN (v1:=Bo false) results112 U ?_))))
 obtain rfl:=so hF
 exact ⟨U,Z⟩
 have hF:=(ay b4).symm.trans hF
 refine aq (ao (sq (mV v0 U (aW U underlying71 U (ai h0) (mI U (nn ?_))))))
 have b5:List.length s1≤9223372036854775807:=bB (ai h0)
 obtain ⟨j5,a3,hF⟩:=bind_some hF
 obtain ⟨R5,c4⟩:=ca fun f w_=>∃ H3,j5=.nx ()∧Le H H3∧ab H3 w_ ([])
 refine av R5 ?_ ?_
 refine ak ?_
 obtain ⟨I5,b8⟩:=ff fun n f w_=>∃ an:Nat,∃ R:List Term,∃ H3,n=R.length∧List.drop an s1=R∧an+R.length=s1.length∧aw (dP s2) R an ()=some j5∧Le H H3∧f 0=v0∧f 1=v1∧f 12=I (s1.length:Int)∧f 13=I an∧ab H3 w_ ([])
 refine a8 I5 (n:=s1.length) ?_ ?_
 exact ij b8 ⟨0,s1,H,U,U,Nat.zero_add _,a3,(Le.refl _),U,U,U,U,Z⟩
 intro n5 f w_ hI
 obtain ⟨an,R,H3,rfl,c5,b1,a3,l4,c6,c7,b2,a6,Z⟩:=ik b8 hI
 refine sq (bh U a6 b2 (nq (al (b:=decide ((an:Int)<(s1.length:Int))) U (fun ch=>?_) (fun ch=>?_))))
 have c8:=of_decide_eq_true ch
 rcases R with _ | ⟨a1,bd⟩
 exact absurd c8 (by simp at b1; omega)
 obtain ⟨o5,a0,a3⟩:=aJ a3
 rw [dP] at a0
 have dd:=aY c5
 refine aq (ao (ak (sq (mF a6 U (aI U (nq ?_))))))
 obtain ⟨a2,dg,a0⟩:=bind_some a0
 refine bT 8 [aZ (v0),aZ (I an),gC au a1 0,aZ (.agg #[I a1.coef,I a1.lit]),aZ (v1),aZ (I an),gC au a2 0,aZ (.agg #[I a2.coef,I a2.lit])] [] [] ([]) [([],[]),([],[]),([],[]),([],[]),([],[]),([],[]),([],[]),([],[])] (S:=[]) aP (by kernel_rfl) U (by kernel_rfl) (ad (ah _) (ad (ah _) (ad (bU _ _ _) (ad (ah _) (ad (ah _) (ad (ah _) (ad (bU _ _ _) (ad (ah _) bV)))))))) Z ?_ (fun f w_ bs o J b3 Z=>?_)
 refine aa (fun f w_ _ _ s _ _ Z=>mF ((s 0 U).trans c6) U (nO U U Z)) (aa (fun f w_ _ _ s _ _ Z=>mF ((s 5 U).trans U) U (nO U U Z)) (aa ?_ ?_))
 intro f w_ bs cn o J j Z
 refine bP (r:=au) U underlying71 sizeOf122 (j 0 16 U U) (RP.mono _ h0 (Le.trans l4 J)) (j 1 17 U U) dd (fun en et ec af cp=>?_)
 obtain rfl:=bM.1 af
 exact ax ⟨U,_,_,U,Le.refl _,fun _ _=>⟨_,_,_,U,af,cp⟩,Z⟩
 refine aa ?_ ?_
 intro f w_ bs cn o J j Z
 obtain ⟨eu,e0,ej,dj,a4,c1⟩:=(j 2 18 U U)
 obtain rfl:=bM.1 a4
 refine a7 (cs:=[I a1.coef,I a1.lit]) U isAgg122 sizeOf122 dj (At.sub (dn.at c1 Z.sub) 0 2) U (ax ⟨U,_,_,U,Le.refl _,fun _ _=>rfl,Z⟩)
 refine aa (fun f w_ _ _ s _ _ Z=>mF ((s 1 U).trans c7) U (nO U U Z)) (aa (fun f w_ _ _ s _ _ Z=>mF ((s 5 U).trans U) U (nO U U Z)) (aa ?_ ?_))
 intro f w_ bs cn o J j Z
 refine bP (r:=au) U underlying71 sizeOf122 (j 4 20 U U) (RP.mono _ h1 (Le.trans l4 J)) (j 5 21 U U) dg (fun e1 e2 ee ag c2=>?_)
 obtain rfl:=bM.1 ag
 exact ax ⟨U,_,_,U,Le.refl _,fun _ _=>⟨_,_,_,U,ag,c2⟩,Z⟩
 refine aa ?_ ?_
 intro f w_ bs cn o J j Z
 obtain ⟨e3,e4,ek,ds,a5,c3⟩:=(j 6 22 U U)
 obtain rfl:=bM.1 a5
 refine a7 (cs:=[I a2.coef,I a2.lit]) U isAgg122 sizeOf122 ds (At.sub (dn.at c3 Z.sub) 0 2) U (ax ⟨U,_,_,U,Le.refl _,fun _ _=>rfl,Z⟩)
 exact aQ
 refine E4 (x1:=a1.coef) (x2:=a1.lit) (y1:=a2.coef) (y2:=a2.lit) U zJ (b3 3 19 U U) (b3 7 23 U U) (nn (al (b:=(!(a1 == a2))) U (fun b0=>?_) (fun b0=>?_)))
 have a0:=(az b0).symm.trans a0
 refine sq (aB U (nn (aA (aN (v1:=Bo false) results112 U ?_))))
 obtain rfl:=so a0
 obtain rfl:=so a3
 obtain rfl:=so hF
 exact ⟨U,(ab.down Z (Le.trans l4 J) c0)⟩
 have a0:=(ay b0).symm.trans a0
 refine aq (ae (bf U ((o 13 U).trans a6) U (mI U (nn ?_))))
 obtain rfl:=so a0
 show ∃ m,m<_∧I5 m _ _
 refine ⟨bd.length,by simp,?_⟩
 exact ij b8 ⟨an+1,bd,bs,U,aL c5,by simp at b1; omega,a3,(Le.trans l4 J),((o 0 U).trans c6),((o 1 U).trans c7),((o 12 U).trans b2),((eI (aO (n:=s1.length) (by simp at b1; omega) b5))),Z⟩
 rcases R with _ | ⟨_,_⟩
 obtain rfl:=aT a3
 refine a9 (rj c4 ⟨H3,U,l4,Z⟩)
 exact absurd (of_decide_eq_false ch) (by simp at b1; omega)
 intro f w_ hR
 obtain ⟨H3,rfl,l4,Z⟩:=rk c4 hR
 refine sq (aB U (nn (aA (aN (v1:=Bo true) results112 U ?_))))
 obtain rfl:=so hF
 exact ⟨U,(ab.down Z l4 c0)⟩
theorem cR {a:Con} {b:Con} {v0_0:Value} {v1_0:Value} {H:FH} {w:World} (Z:ab H w []) (h0_0:(rS 122 au).rel H [v0_0] a.terms) (h1_0:(rS 122 au).rel H [v1_0] b.terms) {r:Bool} (hF:fW a b=some r):C prog 54 #[.agg #[v0_0,I a.bound],.agg #[v1_0,I b.bound]] w fun v w'=>v=Bo r∧ab H w' []:=by
 unfold fW at hF
 refine aE func54 U ntmps54 U (sq (cr (v:=.agg #[v0_0,I a.bound]) (cs:=#[v0_0,I a.bound]) U U U Z (fun g5 w6 Z=>cr (v:=.agg #[v1_0,I b.bound]) (cs:=#[v1_0,I b.bound]) U U U Z (fun g7 w8 Z=>aB U (nq ?_)))))
 obtain ⟨R,j,hF⟩:=bind_some hF
 obtain ⟨an,o⟩:=ca fun f w_=>f 4=Bo R∧ab H w_ ([])
 refine av an ?_ ?_
 refine ae (fA 1 fy U U (bw 1 Z isAgg3 U U U (fA 1 fy U U (bw 0 Z isAgg3 U U U (bD U U U (mB U (aD (d:=10) (b:=(a.bound == b.bound)) U (fun J=>?_) (fun J=>?_))))))))
 rw [az J] at j
 obtain ⟨a4,af,j⟩:=bind_some j
 refine fA 0 ck U U (bw 1 Z isAgg71 U U U (fA 0 ck U U (bw 0 Z isAgg71 U U U ?_)))
 obtain ⟨a3,ag,a0,a5,a1⟩:=Z.borrow
 refine ar U call112 (cu U U) (nX (s1:=a.terms) (s2:=b.terms) a0 (RP.mono _ h0_0 ag) (RP.mono _ h1_0 ag) af) ?_
 rintro _ a6 ⟨rfl,Z⟩
 have Z:=a1 Z c0
 refine dU j U (aB U (nn (rj o ⟨U,(ab.aG 0 Z)⟩)))
 rw [ay J] at j
 refine ps U (ps U (ps U (ps U (ps U (dU j U (aB U (nn (rj o ⟨U,(ab.aG 0 Z)⟩))))))))
 intro f w_ hR
 obtain ⟨a2,Z⟩:=rk o hR
 refine aA (aN (v1:=Bo R) results54 a2 ?_)
 obtain rfl:=so hF
 exact ⟨U,Z⟩
theorem q6 {a:List Con} {b:List Con} {v0:Value} {v1:Value} {H:FH} {w:World} (Z:ab H w []) (h0:(rS 73 (ba 122)).rel H [v0] a) (h1:(rS 73 (ba 122)).rel H [v1] b) {r:Bool} (hF:kx a b=some r):C prog 15 #[v0,v1] w fun v w'=>v=Bo r∧ab H w' []:=by
 unfold kx at hF
 refine aE func15 U ntmps15 U (sq (aB U (nq (sq (mV v0 U (aW U underlying28 U (ai h0) (mV v1 U (aW U underlying28 U (ai h1) (gS U U U (nn (al (b:=((a.length:Int) != (b.length:Int))) U (fun ch=>?_) (fun ch=>?_))))))))))))
 have hF:=(az ch).symm.trans hF
 refine sq (aB U (nn (aA (aN (v1:=Bo false) results15 U ?_))))
 obtain rfl:=so hF
 exact ⟨U,Z⟩
 have hF:=(ay ch).symm.trans hF
 refine aq (ao (sq (aI U (nn ?_))))
 have cn:List.length a≤9223372036854775807:=bB (ai h0)
 obtain ⟨j5,a1,hF⟩:=bind_some hF
 obtain ⟨R5,dj⟩:=ca fun f w_=>∃ H3,j5=.nx ()∧Le H H3∧ab H3 w_ ([])
 refine av R5 ?_ ?_
 refine ak ?_
 obtain ⟨I5,cp⟩:=ff fun n f w_=>∃ a0:Nat,∃ J:List Con,∃ H3,n=J.length∧List.drop a0 a=J∧a0+J.length=a.length∧aw (jF b) J a0 ()=some j5∧Le H H3∧f 0=v0∧f 1=v1∧f 5=I a0∧ab H3 w_ ([])
 refine a8 I5 (n:=a.length) ?_ ?_
 exact ij cp ⟨0,a,H,U,U,Nat.zero_add _,a1,(Le.refl _),U,U,U,Z⟩
 intro n5 f w_ hI
 obtain ⟨a0,J,H3,rfl,ds,b0,a1,l4,c1,ec,b1,Z⟩:=ik cp hI
 refine ao (sq (mF b1 U (mF c1 U (aW U underlying28 U (ai (RP.mono _ h0 l4)) (bh U U U (nn (al (b:=decide ((a0:Int)<(a.length:Int))) U (fun c2=>?_) (fun c2=>?_))))))))
 have ee:=of_decide_eq_true c2
 rcases J with _ | ⟨a4,a5⟩
 exact absurd ee (by simp at b0; omega)
 obtain ⟨o5,R,a1⟩:=aJ a1
 rw [jF] at R
 have ej:=aY ds
 refine aq (ao (ak (ao ?_)))
 obtain ⟨a6,ek,R⟩:=bind_some R
 obtain ⟨fo,en,R⟩:=bind_some R
 refine bT 8 [aZ (v0),aZ (I a0),gC (ba 122) a4 0,tf (eJ (rS 122 au) a4.terms) fun c3=>aZ (.agg #[c3,I a4.bound]),aZ (v1),aZ (I a0),gC (ba 122) a6 0,tf (eJ (rS 122 au) a6.terms) fun c3=>aZ (.agg #[c3,I a6.bound])] [] [] ([]) [([],[]),([],[]),([],[]),([],[]),([],[]),([],[]),([],[]),([],[])] (S:=[]) aP (by kernel_rfl) U (by kernel_rfl) (ad (ah _) (ad (ah _) (ad (bU _ _ _) (ad (dk (cA _ _) fun _=>ah _) (ad (ah _) (ad (ah _) (ad (bU _ _ _) (ad (dk (cA _ _) fun _=>ah _) bV)))))))) Z ?_ (fun f w_ bd af o b8 Z=>?_)
 refine aa (fun f w_ _ _ s _ _ Z=>mF ((s 0 U).trans c1) U (nO U U Z)) (aa (fun f w_ _ _ s _ _ Z=>mF ((s 5 U).trans b1) U (nO U U Z)) (aa ?_ ?_))
 intro f w_ bd c4 af o j Z
 refine bP (r:=(ba 122)) U underlying28 sizeOf73 (j 0 17 U U) (RP.mono _ h0 (Le.trans l4 o)) (j 1 18 U U) ej (fun g6 g7 e3 ag c5=>?_)
 obtain ⟨fs,rfl,e4⟩:=dR.1 ag
 exact ax ⟨U,_,_,U,Le.refl _,fun _ _=>⟨_,_,_,U,ag,c5⟩,Z⟩
 refine aa ?_ ?_
 intro f w_ bd c4 af o j Z
 obtain ⟨g8,g9,g3,et,a2,c6⟩:=(j 2 19 U U)
 obtain ⟨c7,rfl,b2⟩:=dR.1 a2
 refine a7 (cs:=[c7,I a4.bound]) U isAgg73 sizeOf73 et (At.sub (dn.at c6 Z.sub) 0 2) U (ax ⟨U,_,_,U,Le.refl _,fun _ _=>⟨_,b2,U⟩,Z⟩)
 refine aa (fun f w_ _ _ s _ _ Z=>mF ((s 1 U).trans ec) U (nO U U Z)) (aa (fun f w_ _ _ s _ _ Z=>mF ((s 5 U).trans b1) U (nO U U Z)) (aa ?_ ?_))
 intro f w_ bd c4 af o j Z
 refine bP (r:=(ba 122)) U underlying28 sizeOf73 (j 4 21 U U) (RP.mono _ h1 (Le.trans l4 o)) (j 5 22 U U) ek (fun ha hb e5 an c8=>?_)
 obtain ⟨fu,rfl,fa⟩:=dR.1 an
 exact ax ⟨U,_,_,U,Le.refl _,fun _ _=>⟨_,_,_,U,an,c8⟩,Z⟩
 refine aa ?_ ?_
 intro f w_ bd c4 af o j Z
 obtain ⟨hc,hf,g4,eu,a3,dd⟩:=(j 6 23 U U)
 obtain ⟨dg,rfl,b3⟩:=dR.1 a3
 refine a7 (cs:=[dg,I a6.bound]) U isAgg73 sizeOf73 eu (At.sub (dn.at dd Z.sub) 0 2) U (ax ⟨U,_,_,U,Le.refl _,fun _ _=>⟨_,b3,U⟩,Z⟩)
 exact aQ
 obtain ⟨gd,b4,e0⟩:=(b8 3 20 U U)
 obtain ⟨g0,b5,e1⟩:=(b8 7 24 U U)
 obtain ⟨g5,e2,g1,hg,g2⟩:=Z.borrow
 refine ar U call54 (cu e0 e1) (cR (a:=a4) (b:=a6) g1 (RP.mono _ b4 e2) (RP.mono _ b5 e2) en) ?_
 rintro _ hh ⟨rfl,Z⟩
 have Z:=g2 Z c0
 refine bL U U (nn (al (b:=(!fo)) U (fun bs=>?_) (fun bs=>?_)))
 have R:=(az bs).symm.trans R
 refine sq (aB U (nn (aA (aN (v1:=Bo false) results15 U ?_))))
 obtain rfl:=so R
 obtain rfl:=so a1
 obtain rfl:=so hF
 exact ⟨U,(ab.down Z (Le.trans l4 o) c0)⟩
 have R:=(ay bs).symm.trans R
 refine aq (ae (mF ((af 5 U).trans b1) U (bf U U U (aI U (nn ?_)))))
 obtain rfl:=so R
 show ∃ m,m<_∧I5 m _ _
 refine ⟨a5.length,by simp,?_⟩
 exact ij cp ⟨a0+1,a5,bd,U,aL ds,by simp at b0; omega,a1,(Le.trans l4 o),((af 0 U).trans c1),((af 1 U).trans ec),((eI (aO (n:=a.length) (by simp at b0; omega) cn))),Z⟩
 rcases J with _ | ⟨_,_⟩
 obtain rfl:=aT a1
 refine a9 (rj dj ⟨H3,U,l4,Z⟩)
 exact absurd (of_decide_eq_false c2) (by simp at b0; omega)
 intro f w_ hR
 obtain ⟨H3,rfl,l4,Z⟩:=rk dj hR
 refine sq (aB U (nn (aA (aN (v1:=Bo true) results15 U ?_))))
 obtain rfl:=so hF
 exact ⟨U,(ab.down Z l4 c0)⟩
theorem kI {s:List Con} {f_:(Con→Option Bool)} {v0:Value} {v1:Value} {H:FH} {w:World} (Z:ab H w []) (h0:(rS 73 (ba 122)).rel H [v0] s) (h1:lQ prog (ba 122) true Value.bool f_ v1 H) {r:Int} (hF:dv s f_=some r):C prog 162 #[v0,v1] w fun v w'=>v=I r∧ab H w' []:=by
 unfold dv at hF
 obtain ⟨a5,a2,rfl,an,b3⟩:=h1
 refine aE func162 U ntmps162 U (sq (aI U (nq (sq (mV v0 U (aW U underlying28 U (ai h0) (mI U (nn ?_))))))))
 have a6:List.length s≤9223372036854775807:=bB (ai h0)
 obtain ⟨j2,R,hF⟩:=bind_some hF
 obtain ⟨R2,b4⟩:=ca fun f w_=>j2=.nx ()∧ab H w_ ([])
 refine av R2 ?_ ?_
 refine ak ?_
 obtain ⟨I2,bd⟩:=ff fun n f w_=>∃ J:Nat,∃ j:List Con,n=j.length∧List.drop J s=j∧J+j.length=s.length∧aw (di f_) j J ()=some j2∧f 0=v0∧f 1=.func (.func a5) #[] a2∧f 7=I (s.length:Int)∧f 8=I J∧ab H w_ ([])
 refine a8 I2 (n:=s.length) ?_ ?_
 exact ij bd ⟨0,s,U,U,Nat.zero_add _,R,U,U,U,U,Z⟩
 intro n2 f w_ hI
 obtain ⟨J,j,rfl,b5,a3,R,b8,ch,cn,bs,Z⟩:=ik bd hI
 refine sq (bh U bs cn (nq (al (b:=decide ((J:Int)<(s.length:Int))) U (fun b0=>?_) (fun b0=>?_))))
 have cp:=of_decide_eq_true b0
 rcases j with _ | ⟨b1,a0⟩
 exact absurd cp (by simp at a3; omega)
 obtain ⟨o2,o,R⟩:=aJ R
 rw [di] at o
 have c1:=aY b5
 refine aq (ao (ak (sq (mF bs U (aI U (nq ?_))))))
 obtain ⟨x8,c4,o⟩:=bind_some o
 refine ae (mF ch U (mF b8 U (mI U (bP (r:=(ba 122)) U underlying28 sizeOf73 U h0 U c1 (fun c8 dd c3 af b2=>?_)))))
 obtain ⟨ag,rfl,a4⟩:=dR.1 af
 refine a7 (cs:=[ag,I b1.bound]) U isAgg73 sizeOf73 U (At.sub (dn.at b2 Z.sub) 0 2) U ?_
 obtain ⟨c7,c2,c5,dg,c6⟩:=Z.borrow
 refine lD (args:=#[.agg #[ag,I b1.bound]]) U an U (b9 U) (b3 _ _ c2 c5 [ag,I b1.bound] _ _ _ (dR.2 ⟨_,U,(RP.mono _ a4 c2)⟩) c4 (lG U)) ?_
 rintro _ dj ⟨rfl,Z⟩
 have Z:=c6 Z c0
 refine nn (al (b:=x8) U (fun a1=>?_) (fun a1=>?_))
 have o:=(az a1).symm.trans o
 refine sq (mI U (aI U (nn (aA (aN (v1:=I J) results162 U ?_)))))
 obtain rfl:=so o
 obtain rfl:=so R
 obtain rfl:=so hF
 exact ⟨U,Z⟩
 have o:=(ay a1).symm.trans o
 refine aq (ae (bf U bs U (mI U (nn ?_))))
 obtain rfl:=so o
 show ∃ m,m<_∧I2 m _ _
 refine ⟨a0.length,by simp,?_⟩
 exact ij bd ⟨J+1,a0,U,aL b5,by simp at a3; omega,R,b8,ch,cn,((eI (aO (n:=s.length) (by simp at a3; omega) a6))),Z⟩
 rcases j with _ | ⟨_,_⟩
 obtain rfl:=aT R
 refine a9 (rj b4 ⟨U,Z⟩)
 exact absurd (of_decide_eq_false b0) (by simp at a3; omega)
 intro f w_ hR
 obtain ⟨rfl,Z⟩:=rk b4 hR
 refine sq (aI U (nn (aA (aN (v1:=I (-1)) results162 U ?_))))
 obtain rfl:=so hF
 exact ⟨U,Z⟩
theorem jU {s:List Con} {f_:(Con→Option Bool)} {v0:Value} {v1:Value} {H:FH} {w:World} (Z:ab H w []) (h0:(rS 73 (ba 122)).rel H [v0] s) (h1:lQ prog (ba 122) true Value.bool f_ v1 H) {r:Bool} (hF:cD s f_=some r):C prog 123 #[v0,v1] w fun v w'=>v=Bo r∧ab H w' []:=by
 unfold cD at hF
 obtain ⟨I,o,rfl,j,J⟩:=h1
 refine aE func123 U ntmps123 U (sq (aB U (nq ?_)))
 obtain ⟨x6,R,hF⟩:=bind_some hF
 refine ae (mV v0 U (mV (.func (.func I) #[] o) U ?_))
 obtain ⟨an,l9,af,a0,ag⟩:=Z.borrow
 refine ar U call162 (cu U U) (kI (s:=s) (f_:=f_) af (RP.mono _ h0 l9) (lQ.le ⟨_,_,U,j,J⟩ l9) R) ?_
 rintro _ a1 ⟨rfl,Z⟩
 have Z:=ag Z c0
 refine hY U U U (aB U (nn (aA (aN (v1:=Bo (decide (x6 ≥ 0))) results123 U ?_))))
 obtain rfl:=so hF
 exact ⟨U,Z⟩
theorem uE {c:Con} {v0_0:Value} {H:FH} {w:World} (Z:ab H w []) (h0_0:(rS 122 au).rel H [v0_0] c.terms) {r:Bool} (hF:jK c=some r):C prog 129 #[.agg #[v0_0,I c.bound]] w fun v w'=>v=Bo r∧ab H w' []:=by
 unfold jK at hF
 refine aE func129 U ntmps129 U (sq (cr (v:=.agg #[v0_0,I c.bound]) (cs:=#[v0_0,I c.bound]) U U U Z (fun g3 w4 Z=>aB U (nq ?_))))
 obtain ⟨o,j,hF⟩:=bind_some hF
 refine ae (a7 (cs:=[v0_0,I c.bound]) U isAgg73 sizeOf73 U (At.bK (de.at (ab.aM 0 Z U)) 0 2) U ?_)
 obtain ⟨ag,J,R,an,af⟩:=Z.borrow
 refine ar U call130 (b9 U) (bZ (c:=c) R (RP.mono _ h0_0 J) j) ?_
 rintro _ a0 ⟨rfl,Z⟩
 have Z:=af Z c0
 refine bL U U (aB U (nn (aA (aN (v1:=Bo (!o)) results129 U ?_))))
 obtain rfl:=so hF
 exact ⟨U,(ab.aG 0 Z)⟩
theorem xS {list:List Con} {v0:Value} {H:FH} {w:World} (Z:ab H w []) (h0:(rS 73 (ba 122)).rel H [v0] list) {r:Bool} (hF:oJ list=some r):C prog 80 #[v0] w fun v w'=>v=Bo r∧ab H w' []:=by
 unfold oJ at hF
 refine aE func80 U ntmps80 U (sq (aB U (nq ?_)))
 obtain ⟨x6,J,hF⟩:=bind_some hF
 refine ae (mV v0 U ?_)
 obtain ⟨R,l9,af,a0,ag⟩:=Z.borrow
 have j:lQ prog (ba 122) true Value.bool jK (.func (.func 129) #[] #[]) R:=by
   refine ⟨_,_,U,call129,fun H_ w_ hE_ hs_ cs_ x_ y_ args_ hr_ hy_ ha_=>?_⟩
   obtain ⟨an,rfl,o⟩:=dR.1 hr_
   obtain rfl:=kZ (b:=#[.agg #[an,I x_.bound]]) ha_
   exact uE (c:=x_) hs_ o hy_
 refine ar U call123 (cu U U) (jU (s:=list) (f_:=jK) af (RP.mono _ h0 l9) j J) ?_
 rintro _ a1 ⟨rfl,Z⟩
 have Z:=ag Z c0
 refine bL U U (aB U (nn (aA (aN (v1:=Bo (!x6)) results80 U ?_))))
 obtain rfl:=so hF
 exact ⟨U,Z⟩
theorem oB {list:List Con} {v0:Value} {H:FH} {w:World} (Z:ab H w []) (h0:(rS 73 (ba 122)).rel H [v0] list) {r:Bool} (hF:il list=some r):C prog 37 #[v0] w fun v w'=>v=Bo r∧ab H w' []:=by
 unfold il at hF
 refine aE func37 U ntmps37 U (sq (aB U (nq ?_)))
 obtain ⟨b8,j,hF⟩:=bind_some hF
 obtain ⟨R9,I⟩:=ca fun f w_=>f 2=Bo b8∧ab H w_ ([])
 refine av R9 ?_ ?_
 refine ae (mV v0 U (aW U underlying28 U (ai h0) (kE U U U (mB U (aD (d:=6) (b:=decide ((list.length:Int)≤400)) U (fun o=>?_) (fun o=>?_))))))
 rw [az o] at j
 obtain ⟨x6,J,j⟩:=bind_some j
 refine mV v0 U ?_
 obtain ⟨a0,R,af,a1,ag⟩:=Z.borrow
 refine ar U call80 (b9 U) (xS (list:=list) af (RP.mono _ h0 R) J) ?_
 rintro _ a2 ⟨rfl,Z⟩
 have Z:=ag Z c0
 refine dU j U (aB U (nn (rj I ⟨U,Z⟩)))
 rw [ay o] at j
 refine ps U (ps U (dU j U (aB U (nn (rj I ⟨U,Z⟩)))))
 intro f w_ hR
 obtain ⟨an,Z⟩:=rk I hR
 refine aA (aN (v1:=Bo b8) results37 an ?_)
 obtain rfl:=so hF
 exact ⟨U,Z⟩
theorem wM {l:Int} {p:List Int} {v1:Value} {H:FH} {w:World} (Z:ab H w []) (h1:(rS 3 RP.int).rel H [v1] p) {r:Int} (hF:np l p=some r):C prog 158 #[I l,v1] w fun v w'=>v=I r∧ab H w' []:=by
 unfold np at hF
 refine aE func158 U ntmps158 U (sq (aI U (nq (sq (mI U (bh U U U (nn (al (b:=decide (l<0)) U (fun R=>?_) (fun R=>?_)))))))))
 have hF:=(az R).symm.trans hF
 refine ao ?_
 obtain ⟨x2,a1,hF⟩:=bind_some hF
 refine ae (mV v1 U (mI U (kg U U (db U U U (bP (r:=RP.int) U underlying23 sizeOf3 U h1 U a1 (fun g7 o8 a2 J ag=>?_))))))
 obtain rfl:_=[_]:=J
 refine bt U isAgg3 U (At.cell (dn.at ag Z.sub) (j:=0) U) (kg U U (aI U (nn (aA (aN (v1:=I (i64 (-x2))) results158 U ?_)))))
 obtain rfl:=so hF
 exact ⟨U,Z⟩
 have hF:=(ay R).symm.trans hF
 refine aq (ao ?_)
 obtain ⟨a3,an,hF⟩:=bind_some hF
 refine ae (mV v1 U (mI U (db U U U (bP (r:=RP.int) U underlying23 sizeOf3 U h1 U an (fun a4 a5 a0 o af=>?_)))))
 obtain rfl:_=[_]:=o
 refine bt U isAgg3 U (At.cell (dn.at af Z.sub) (j:=0) U) (aI U (nn (aA (aN (v1:=I a3) results158 U ?_))))
 obtain rfl:=so hF
 exact ⟨U,Z⟩
theorem lI {c:Con} {p:List Int} {v0_0:Value} {v1:Value} {H:FH} {w:World} (Z:ab H w []) (h0_0:(rS 122 au).rel H [v0_0] c.terms) (h1:(rS 3 RP.int).rel H [v1] p) {r:Int} (hF:e7 c p=some r):C prog 115 #[.agg #[v0_0,I c.bound],v1] w fun v w'=>v=I r∧ab H w' []:=by
 unfold e7 at hF
 refine aE func115 U ntmps115 U (sq (cr (v:=.agg #[v0_0,I c.bound]) (cs:=#[v0_0,I c.bound]) U U U Z (fun g3 w4 Z=>aI U (ns (fA 1 fy U U (bw 0 Z isAgg3 U U U (kg U U (aI U (nq (sq (fA 0 ck U U (bw 0 Z isAgg71 U U U (aW U underlying71 U (ai h0_0) (mI U (nn ?_)))))))))))))))
 have b2:List.length c.terms≤9223372036854775807:=bB (ai h0_0)
 obtain ⟨j7,a4,hF⟩:=bind_some hF
 obtain ⟨R7,b8⟩:=ca fun f w_=>∃ j:Int,j7=.nx j∧f 5=I j∧ab H w_ ([])
 refine av R7 ?_ ?_
 refine ak ?_
 obtain ⟨I7,b3⟩:=ff fun n f w_=>∃ af:Nat,∃ o:List Term,∃ j:Int,n=o.length∧List.drop af c.terms=o∧af+o.length=c.terms.length∧aw (gz p) o af j=some j7∧f 1=v1∧f 5=I j∧f 12=v0_0∧f 13=I (c.terms.length:Int)∧f 14=I af∧ab H w_ ([])
 refine a8 I7 (n:=c.terms.length) ?_ ?_
 exact ij b3 ⟨0,c.terms,i64 (-c.bound),U,U,Nat.zero_add _,a4,U,U,U,U,U,(ab.aG 0 Z)⟩
 intro n7 f w_ hI
 obtain ⟨af,o,j,rfl,ch,b1,a4,a6,a0,ag,an,J,Z⟩:=ik b3 hI
 refine sq (bh U J an (nq (al (b:=decide ((af:Int)<(c.terms.length:Int))) U (fun b4=>?_) (fun b4=>?_))))
 have cn:=of_decide_eq_true b4
 rcases o with _ | ⟨a1,bd⟩
 exact absurd cn (by simp at b1; omega)
 obtain ⟨o7,a5,a4⟩:=aJ a4
 rw [gz] at a5
 have cp:=aY ch
 refine aq (ao (ak (sq (bP (r:=au) U underlying71 sizeOf122 ag h0_0 J cp (fun dd dg c2 a2 b5=>?_)))))
 obtain rfl:=bM.1 a2
 refine a7 (cs:=[I a1.coef,I a1.lit]) U isAgg122 sizeOf122 U (At.sub (dn.at b5 Z.sub) 0 2) U (dS (cs:=#[I 0,I 0]) U zeroValue122 U Z (fun dj ds Z=>bg (vs:=#[I a1.coef,I a1.lit]) (cs2:=#[I a1.coef,I a1.lit]) 0 U sizeOf122 U U U (aj U (aj U aK)) Z U (by show 0+2≤2; decide) U (fun ec Z=>nq ?_)))
 obtain ⟨c3,c1,a5⟩:=bind_some a5
 refine ae (fA 1 eC U U (bw 0 Z isAgg3 U U U (mF a6 U ?_)))
 obtain ⟨c8,c4,c5,ee,c6⟩:=Z.borrow
 refine ar U call158 (cu U U) (wM (l:=a1.lit) (p:=p) c5 (RP.mono _ h1 c4) c1) ?_
 rintro _ ej ⟨rfl,Z⟩
 have Z:=c6 Z c0
 refine hY U U U (nn ?_)
 obtain ⟨a3,R,a5⟩:=bind_some a5
 obtain ⟨c7,bs⟩:=ca fun f w_=>f 1=v1∧f 5=I a3∧f 12=v0_0∧f 13=I (c.terms.length:Int)∧f 14=I af∧ab H w_ ([])
 refine av c7 ?_ ?_
 refine al (b:=decide (c3 ≥ 0)) U (fun b0=>?_) (fun b0=>?_)
 have R:=(az b0).symm.trans R
 refine ae (mF a0 U (fA 0 ep U U (bw 0 Z isAgg3 U U U (bf U U U (aI U (nn ?_))))))
 obtain rfl:=so R
 exact rj bs ⟨a6,U,ag,an,J,(ab.aG 0 Z)⟩
 have R:=(ay b0).symm.trans R
 refine aq ?_
 obtain rfl:=so R
 exact rj bs ⟨a6,a0,ag,an,J,(ab.aG 0 Z)⟩
 intro f w_ hR
 obtain ⟨a6,a0,ag,an,J,Z⟩:=rk bs hR
 refine ae (bf U J U (mI U (nn ?_)))
 obtain rfl:=so a5
 show ∃ m,m<_∧I7 m _ _
 refine ⟨bd.length,by simp,?_⟩
 exact ij b3 ⟨af+1,bd,a3,U,aL ch,by simp at b1; omega,a4,a6,a0,ag,an,((eI (aO (n:=c.terms.length) (by simp at b1; omega) b2))),Z⟩
 rcases o with _ | ⟨_,_⟩
 obtain rfl:=aT a4
 refine a9 (rj b8 ⟨j,U,a0,Z⟩)
 exact absurd (of_decide_eq_false b4) (by simp at b1; omega)
 intro f w_ hR
 obtain ⟨j,rfl,a0,Z⟩:=rk b8 hR
 refine sq (mF a0 U (aI U (nn (aA (aN (v1:=I j) results115 U ?_)))))
 obtain rfl:=so hF
 exact ⟨U,Z⟩
theorem po {c:Con} {p:List Int} {v0_0:Value} {v1:Value} {H:FH} {w:World} (Z:ab H w []) (h0_0:(rS 122 au).rel H [v0_0] c.terms) (h1:(rS 3 RP.int).rel H [v1] p) {r:List Int} (hF:fi c p=some r):C prog 116 #[.agg #[v0_0,I c.bound],v1] w fun v w'=>∃ (u1:Value),v=u1∧ab H w' [oF 3 RP.int u1 r]:=by
 unfold fi at hF
 refine aE func116 U ntmps116 U (sq (cr (v:=.agg #[v0_0,I c.bound]) (cs:=#[v0_0,I c.bound]) U U U Z (fun g3 w4 Z=>aV S0 U (nq ?_))))
 obtain ⟨bd,dd,hF⟩:=bind_some hF
 refine ae (a7 (cs:=[v0_0,I c.bound]) U isAgg73 sizeOf73 U (At.bK (de.at (ab.aM 0 Z U)) 0 2) U (mV v1 U ?_))
 obtain ⟨fu,dg,eu,g0,e0⟩:=Z.borrow
 refine ar U call115 (cu U U) (lI (c:=c) (p:=p) eu (RP.mono _ h0_0 dg) (RP.mono _ h1 dg) dd) ?_
 rintro _ g1 ⟨rfl,Z⟩
 have Z:=e0 Z c0
 refine aI U (ns (aV S0 U (nq (sq (fA 0 ck U U (bw 0 Z isAgg71 U U U (aW U underlying71 U (ai h0_0) (mI U (nn ?_)))))))))
 have c3:List.length c.terms≤9223372036854775807:=bB (ai h0_0)
 obtain ⟨dj,a5,hF⟩:=bind_some hF
 obtain ⟨e1,c4⟩:=ca fun f w_=>∃ J:List Int,∃ j,dj=.nx J∧f 6=j∧ab H w_ ([oF 3 RP.int j J])
 refine av e1 ?_ ?_
 refine ak ?_
 obtain ⟨ds,b5⟩:=ff fun n f w_=>∃ ag:Nat,∃ af:List Term,∃ J:List Int,∃ j,n=af.length∧List.drop ag c.terms=af∧ag+af.length=c.terms.length∧aw (fx p bd) af ag J=some dj∧f 1=v1∧f 5=I bd∧f 6=j∧f 13=v0_0∧f 14=I (c.terms.length:Int)∧f 15=I ag∧ab H w_ ([oF 3 RP.int j J])
 have Z:=ab.bE (R:=(OR.bu RP.int)) (e:=3) Z
 refine a8 ds (n:=c.terms.length) ?_ ?_
 exact ij b5 ⟨0,c.terms,[],S0,U,U,Nat.zero_add _,a5,U,U,U,U,U,U,(ab.aG 1 Z)⟩
 intro g2 f w_ hI
 obtain ⟨ag,af,J,j,rfl,c5,b2,a5,bs,b0,a4,a1,a2,an,Z⟩:=ik b5 hI
 refine sq (bh U an a2 (nq (al (b:=decide ((ag:Int)<(c.terms.length:Int))) U (fun b8=>?_) (fun b8=>?_))))
 have c6:=of_decide_eq_true b8
 rcases af with _ | ⟨o,b3⟩
 exact absurd c6 (by simp at b2; omega)
 obtain ⟨g4,a6,a5⟩:=aJ a5
 rw [fx] at a6
 have c7:=aY c5
 refine aq (ao (ak (sq (bP (r:=au) U underlying71 sizeOf122 a1 h0_0 an c7 (fun g5 g6 et b1 c8=>?_)))))
 obtain rfl:=bM.1 b1
 refine a7 (cs:=[I o.coef,I o.lit]) U isAgg122 sizeOf122 U (At.sub (dn.at c8 Z.sub) 0 2) U (dS (cs:=#[I 0,I 0]) U zeroValue122 U Z (fun ec g7 Z=>bg (vs:=#[I o.coef,I o.lit]) (cs2:=#[I o.coef,I o.lit]) 0 U sizeOf122 U U U (aj U (aj U aK)) Z U (by show 0+2≤2; decide) U (fun g8 Z=>nq ?_)))
 obtain ⟨ch,ee,a6⟩:=bind_some a6
 obtain ⟨e2,cn⟩:=ca fun f w_=>f 1=v1∧f 5=I bd∧f 6=j∧f 8=Pt ec∧f 13=v0_0∧f 14=I (c.terms.length:Int)∧f 15=I ag∧f 29=Bo ((ch == 0) && (decide (o.coef > bd)))∧ab H w_ ([oF 3 RP.int j J,box ec 122 #[I o.coef,I o.lit]])
 refine av e2 ?_ ?_
 refine ae (fA 1 eC U U (bw 0 Z isAgg3 U U U (mF bs U ?_)))
 obtain ⟨gd,e3,e4,g9,e5⟩:=Z.borrow
 refine ar U call158 (cu U U) (wM (l:=o.lit) (p:=p) e4 (RP.mono _ h1 e3) ee) ?_
 rintro _ ha ⟨rfl,Z⟩
 have Z:=e5 Z c0
 refine bD U U U (mB U (aD (d:=24) (b:=(ch == 0)) U (fun cp=>?_) (fun cp=>?_)))
 refine fA 0 ep U U (bw 0 Z isAgg3 U U U (mF b0 U (c9 U U U (aC (v:=Bo ((ch == 0) && (decide (o.coef > bd)))) U U (gw cp U) (nn ?_)))))
 have Z:=Z.get 1 U
 exact rj cn ⟨bs,b0,a4,U,a1,a2,an,U,Z⟩
 refine ps U (ps U (ps U (ps U (aC (v:=Bo ((ch == 0) && (decide (o.coef > bd)))) U U (jc cp) (nn ?_)))))
 have Z:=Z.get 1 U
 exact rj cn ⟨bs,b0,a4,U,a1,a2,an,U,Z⟩
 intro f w_ hR
 obtain ⟨bs,b0,a4,fa,a1,a2,an,ej,Z⟩:=rk cn hR
 obtain ⟨b4,a3,a6⟩:=bind_some a6
 obtain ⟨fo,c1⟩:=ca fun f w_=>∃ a0,f 1=v1∧f 5=I bd∧f 6=a0∧f 13=v0_0∧f 14=I (c.terms.length:Int)∧f 15=I ag∧ab H w_ ([oF 3 RP.int a0 b4])
 refine av fo ?_ ?_
 refine al (b:=((ch == 0) && (decide (o.coef > bd)))) ej (fun c2=>?_) (fun c2=>?_)
 have a3:=(az c2).symm.trans a3
 obtain ⟨hb,ek,a3⟩:=bind_some a3
 refine ae (mF a4 U (fA 1 eC fa U (bw 1 Z isAgg3 U U U (cS U (bG U) (dp (I o.lit) U) Z (fun fs hc Z=>?_)))))
 have Z:=ab.dr (r:=RP.int) (cs:=[I o.lit]) (x:=o.lit) Z U
 have Z:=ab.bS (R:=(OR.bu RP.int)) [([I o.lit],o.lit)] [o.lit] 1 Z U U U (by decide)
 have Z:=Z.get 1 U
 refine cj (v:=j) (u:=(Sl fs 1 1)) U eb U U Z ek (fun en hf Z=>aV en U (nn ?_))
 obtain rfl:=so a3
 exact rj c1 ⟨en,bs,b0,U,a1,a2,an,(ab.aG 1 Z)⟩
 have a3:=(ay c2).symm.trans a3
 refine aq ?_
 obtain rfl:=so a3
 exact rj c1 ⟨j,bs,b0,a4,a1,a2,an,(ab.aG 1 Z)⟩
 intro f w_ hR
 obtain ⟨a0,bs,b0,a4,a1,a2,an,Z⟩:=rk c1 hR
 refine ae (bf U an U (mI U (nn ?_)))
 obtain rfl:=so a6
 show ∃ m,m<_∧ds m _ _
 refine ⟨b3.length,by simp,?_⟩
 exact ij b5 ⟨ag+1,b3,b4,a0,U,aL c5,by simp at b2; omega,a5,bs,b0,a4,a1,a2,((eI (aO (n:=c.terms.length) (by simp at b2; omega) c3))),Z⟩
 rcases af with _ | ⟨_,_⟩
 obtain rfl:=aT a5
 refine a9 (rj c4 ⟨J,j,U,a4,Z⟩)
 exact absurd (of_decide_eq_false b8) (by simp at b2; omega)
 intro f w_ hR
 obtain ⟨J,j,rfl,a4,Z⟩:=rk c4 hR
 refine sq (mF a4 U (aV j U (nn (aA (aN (v1:=j) results116 U ?_)))))
 obtain rfl:=so hF
 exact ⟨j,U,Z⟩
theorem rh {fu:Nat} {list:List Con} {p:List Int} {v0:Value} {v1:Value} {H:FH} {w:World} (Z:ab H w []) (h0:(rS 73 (ba 122)).rel H [v0] list) (h1:(rS 3 RP.int).rel H [v1] p) {r:(List Int) × Int} (hF:kC fu list p=some r):C prog 56 #[v0,v1] w fun v w'=>∃ (u1:Value),v=.tuple #[u1,I r.2]∧ab H w' [oF 3 RP.int u1 r.1]:=by
 unfold kC at hF
 refine aE func56 U ntmps56 U (sq (aV S0 U (aI U (nq ?_))))
 obtain ⟨x6,hA,hF⟩:=bind_some hF
 refine ae (mV v1 U ?_)
 obtain ⟨h8,hB,hC,h9,hD⟩:=Z.borrow
 refine ar U call62 (b9 U) (eX (s:=p) hC (RP.mono _ h1 hB) hA) ?_
 rintro o ih ⟨_,rfl,Z⟩
 have Z:=hD Z (co bk c0)
 refine aV o U (nq (sq (aB U (nn ?_))))
 obtain ⟨hg,b4,hF⟩:=bind_some hF
 obtain ⟨hE,g0⟩:=ca fun f w_=>∃ a0:List Int,∃ an:Bool,hg=.nx (a0,an)∧f 6=o∧ab H w_ ([oF 3 RP.int o a0])
 refine av hE ?_ ?_
 refine ak ?_
 obtain ⟨hh,ek⟩:=ff fun n f w_=>∃ a0:List Int,∃ an:Bool,bx (iv list) n (a0,an)=some hg∧f 0=v0∧f 6=o∧f 7=Bo an∧ab H w_ ([oF 3 RP.int o a0])
 refine a8 hh (n:=fu) ?_ ?_
 exact ij ek ⟨x6,true,b4,U,U,U,Z⟩
 intro g7 f w_ hI
 obtain ⟨a0,an,b4,b1,a2,b8,Z⟩:=ik ek hI
 rcases g7 with _ | g7
 exact (cl b4).elim
 obtain ⟨jn,a6,b4⟩:=cq b4
 rw [iv] at a6
 refine ao (sq (mF b8 U (nn (al (b:=an) U (fun en=>?_) (fun en=>?_)))))
 have a6:=(az en).symm.trans a6
 refine aq (ak (sq (aB U (ns (mF b1 U (aW U underlying28 U (ai h0) (mI U (nn ?_))))))))
 have fs:List.length list≤9223372036854775807:=bB (ai h0)
 obtain ⟨hi,ch,a6⟩:=bind_some a6
 obtain ⟨hG,g1⟩:=ca fun f w_=>∃ J:List Int,∃ af:Bool,hi=.nx (J,af)∧f 0=v0∧f 6=o∧f 7=Bo af∧ab H w_ ([oF 3 RP.int o J])
 refine av hG ?_ ?_
 refine ak ?_
 obtain ⟨hj,et⟩:=ff fun n f w_=>∃ a5:Nat,∃ b2:List Con,∃ J:List Int,∃ af:Bool,n=b2.length∧List.drop a5 list=b2∧a5+b2.length=list.length∧aw ir b2 a5 (J,af)=some hi∧f 0=v0∧f 6=o∧f 7=Bo af∧f 15=v0∧f 16=I (list.length:Int)∧f 17=I a5∧ab H w_ ([oF 3 RP.int o J])
 refine a8 hj (n:=list.length) ?_ ?_
 exact ij et ⟨0,list,a0,false,U,U,Nat.zero_add _,ch,b1,a2,U,U,U,U,Z⟩
 intro j1 f w_ hI
 obtain ⟨a5,b2,J,af,rfl,g2,dg,ch,b1,a2,b8,bd,bs,a4,Z⟩:=ik et hI
 refine sq (bh U a4 bs (nq (al (b:=decide ((a5:Int)<(list.length:Int))) U (fun eu=>?_) (fun eu=>?_))))
 have g8:=of_decide_eq_true eu
 rcases b2 with _ | ⟨cn,dj⟩
 exact absurd g8 (by simp at dg; omega)
 obtain ⟨j2,a3,ch⟩:=aJ ch
 rw [ir] at a3
 have g9:=aY g2
 refine aq (ao (ak (sq (mF a4 U (bP (r:=(ba 122)) U underlying28 sizeOf73 bd h0 a4 g9 (fun j3 j4 hz c8 ha=>?_))))))
 obtain ⟨cp,rfl,c4⟩:=dR.1 c8
 refine a7 (cs:=[cp,I cn.bound]) U isAgg73 sizeOf73 U (At.sub (dn.at ha Z.sub) 0 2) U (dS (cs:=#[S0,I 0]) U zeroValue73 U Z (fun j5 j6 Z=>aI U (bg (vs:=#[cp,I cn.bound]) (cs2:=#[cp,I cn.bound]) 0 U sizeOf73 U U U (aj (aH (ai c4)) (aj U aK)) Z U (by show 0+2≤2; decide) U (fun j7 Z=>nq (ao ?_)))))
 obtain ⟨hJ,hk,a3⟩:=bind_some a3
 refine ae (a7 (cs:=[cp,I cn.bound]) U isAgg73 sizeOf73 U (At.bK (de.at (ab.aM 0 Z U)) 0 2) U (mF a2 U ?_))
 obtain ⟨hl,hK,hN,hP,hQ⟩:=Z.borrow
 have hn:(rS 3 RP.int).rel hl [o] J:=cg 1 hP U
 refine ar U call115 (cu U U) (lI (c:=cn) (p:=J) hN (RP.mono _ c4 hK) hn hk) ?_
 rintro _ j8 ⟨rfl,Z⟩
 have Z:=hQ Z c0
 refine bh U U U (nn (al (b:=decide (hJ<0)) U (fun e0=>?_) (fun e0=>?_)))
 have a3:=(az e0).symm.trans a3
 refine sq (mF a2 U (mI U (aV o U (aI U (nn (aA (dc (v1:=o) (v2:=I a5) results56 U U ?_)))))))
 obtain rfl:=so a3
 obtain rfl:=so ch
 obtain rfl:=so a6
 obtain rfl:=so b4
 obtain rfl:=so hF
 have Z:=Z.get 1 U
 exact ⟨o,U,(ab.aG 1 Z)⟩
 have a3:=(ay e0).symm.trans a3
 refine aq (ao ?_)
 obtain ⟨c1,ho,a3⟩:=bind_some a3
 refine ae (a7 (cs:=[cp,I cn.bound]) U isAgg73 sizeOf73 U (At.bK (de.at (ab.aM 0 Z U)) 0 2) U (mF a2 U ?_))
 obtain ⟨hp,hS,hV,hW,h2⟩:=Z.borrow
 have hq:(rS 3 RP.int).rel hp [o] J:=cg 1 hW U
 refine ar U call116 (cu U U) (po (c:=cn) (p:=J) hV (RP.mono _ c4 hS) hq ho) ?_
 rintro c5 kk ⟨_,rfl,Z⟩
 have Z:=h2 Z (co bk c0)
 refine aW U underlying23 U (ab.len 0 Z U) (mI U (nn ?_))
 have gd:List.length c1≤9223372036854775807:=bB (ab.len 0 Z U)
 obtain ⟨hr,c2,a3⟩:=bind_some a3
 obtain ⟨h3,g3⟩:=ca fun f w_=>∃ a1:List Int,∃ ag:Bool,hr=.nx (a1,ag)∧f 0=v0∧f 6=o∧f 7=Bo ag∧f 15=v0∧f 16=I (list.length:Int)∧f 17=I a5∧ab H w_ ([oF 3 RP.int o a1])
 refine av h3 ?_ ?_
 refine ak ?_
 obtain ⟨hs,e1⟩:=ff fun n f w_=>∃ b5:Nat,∃ b3:List Int,∃ a1:List Int,∃ ag:Bool,n=b3.length∧List.drop b5 c1=b3∧b5+b3.length=c1.length∧aw jz b3 b5 (a1,ag)=some hr∧f 0=v0∧f 6=o∧f 7=Bo ag∧f 15=v0∧f 16=I (list.length:Int)∧f 17=I a5∧f 30=c5∧f 31=I (c1.length:Int)∧f 32=I b5∧ab H w_ ([oF 3 RP.int o a1,oF 3 RP.int c5 c1])
 have Z:=Z.get 2 U
 refine a8 hs (n:=c1.length) ?_ ?_
 exact ij e1 ⟨0,c1,J,af,U,U,Nat.zero_add _,c2,b1,a2,b8,bd,bs,a4,U,U,U,(ab.aG 2 Z)⟩
 intro ks f w_ hI
 obtain ⟨b5,b3,a1,ag,rfl,g4,ds,c2,b1,a2,b8,bd,bs,a4,c6,c7,c3,Z⟩:=ik e1 hI
 refine sq (bh U c3 c7 (nq (al (b:=decide ((b5:Int)<(c1.length:Int))) U (fun e2=>?_) (fun e2=>?_))))
 have hb:=of_decide_eq_true e2
 rcases b3 with _ | ⟨ht,ec⟩
 exact absurd hb (by simp at ds; omega)
 obtain ⟨ky,ee,c2⟩:=aJ c2
 rw [jz] at ee
 have dd:=aY g4
 refine aq (ao (ak (sq ?_)))
 obtain ⟨k0,hv,g5,_,_⟩:=ab.row 1 Z U dd
 refine bJ (R:=(OR.bu RP.int)) (tb:=0) 0 U underlying23 sizeOf3 c6 g5 (by first | rfl | simp) c3 dd ?_
 obtain ⟨h5,hx,hc⟩:=ab.fE 1 Z U g5 dd
 obtain rfl:_=[_]:=hx
 refine bt U isAgg3 U (At.cell hc (j:=0) U) (aI U (ns (aB U (ns (mI U (c9 U U U (nn ?_)))))))
 obtain ⟨ej,b0,ee⟩:=bind_some ee
 obtain ⟨h4,e3⟩:=ca fun f w_=>f 0=v0∧f 6=o∧f 7=Bo true∧f 15=v0∧f 16=I (list.length:Int)∧f 17=I a5∧f 30=c5∧f 31=I (c1.length:Int)∧f 32=I b5∧ab H w_ ([oF 3 RP.int o ej,oF 3 RP.int c5 c1])
 refine av h4 ?_ ?_
 refine al (b:=decide (ht > 0)) U (fun e4=>?_) (fun e4=>?_)
 have b0:=(az e4).symm.trans b0
 obtain ⟨lo,e5,b0⟩:=bind_some b0
 refine ae (mF a2 U (mI U (db U U U ?_)))
 obtain ⟨l0,hy,g6,_,_⟩:=ab.row 0 Z U e5
 refine bJ (R:=(OR.bu RP.int)) (tb:=0) 0 U underlying23 sizeOf3 U g6 (by first | rfl | simp) U e5 ?_
 have Z:=ab.dr (r:=RP.int) (cs:=[I 1]) (x:=1) Z U
 refine fj (u:=I 1) U sizeOf3 U U U g6 Z e5 (fun l1 Z=>?_)
 refine nn ?_
 obtain rfl:=so b0
 exact rj e3 ⟨b1,a2,U,bd,bs,a4,c6,c7,c3,Z⟩
 have b0:=(ay e4).symm.trans b0
 obtain ⟨l2,fa,b0⟩:=bind_some b0
 refine ae (mF a2 U (mI U (kg U U (db U U U ?_))))
 obtain ⟨h6,hf,fo,_,_⟩:=ab.row 0 Z U fa
 refine bJ (R:=(OR.bu RP.int)) (tb:=0) 0 U underlying23 sizeOf3 U fo (by first | rfl | simp) U fa ?_
 have Z:=ab.dr (r:=RP.int) (cs:=[I (-1)]) (x:=(-1)) Z U
 refine fj (u:=I (-1)) U sizeOf3 U U U fo Z fa (fun h7 Z=>?_)
 refine nn ?_
 obtain rfl:=so b0
 exact rj e3 ⟨b1,a2,U,bd,bs,a4,c6,c7,c3,Z⟩
 intro f w_ hR
 obtain ⟨b1,a2,b8,bd,bs,a4,c6,c7,c3,Z⟩:=rk e3 hR
 refine ae (bf U c3 U (mI U (nn ?_)))
 obtain rfl:=so ee
 show ∃ m,m<_∧hs m _ _
 refine ⟨ec.length,by simp,?_⟩
 exact ij e1 ⟨b5+1,ec,ej,true,U,aL g4,by simp at ds; omega,c2,b1,a2,b8,bd,bs,a4,c6,c7,((eI (aO (n:=c1.length) (by simp at ds; omega) gd))),Z⟩
 rcases b3 with _ | ⟨_,_⟩
 obtain rfl:=aT c2
 refine a9 (rj g3 ⟨a1,ag,U,b1,a2,b8,bd,bs,a4,(ab.aG 1 Z)⟩)
 exact absurd (of_decide_eq_false e2) (by simp at ds; omega)
 intro f w_ hR
 obtain ⟨a1,ag,rfl,b1,a2,b8,bd,bs,a4,Z⟩:=rk g3 hR
 refine ae (bf U a4 U (mI U (nn ?_)))
 obtain rfl:=so a3
 show ∃ m,m<_∧hj m _ _
 refine ⟨dj.length,by simp,?_⟩
 exact ij et ⟨a5+1,dj,a1,ag,U,aL g2,by simp at dg; omega,ch,b1,a2,b8,bd,bs,((eI (aO (n:=list.length) (by simp at dg; omega) fs))),Z⟩
 rcases b2 with _ | ⟨_,_⟩
 obtain rfl:=aT ch
 refine a9 (rj g1 ⟨J,af,U,b1,a2,b8,Z⟩)
 exact absurd (of_decide_eq_false eu) (by simp at dg; omega)
 intro f w_ hR
 obtain ⟨J,af,rfl,b1,a2,b8,Z⟩:=rk g1 hR
 obtain rfl:=so a6
 show ∃ m,m<_∧hh m _ _
 refine ⟨g7,Nat.lt_succ_self _,?_⟩
 exact ij ek ⟨J,af,b4,b1,a2,b8,Z⟩
 have a6:=(ay en).symm.trans a6
 refine a9 ?_
 obtain rfl:=so a6
 obtain rfl:=so b4
 exact rj g0 ⟨a0,an,U,a2,Z⟩
 intro f w_ hR
 obtain ⟨a0,an,rfl,a2,Z⟩:=rk g0 hR
 refine sq (mF a2 U (aV o U (aI U (nn (aA (dc (v1:=o) (v2:=I (-1)) results56 U U ?_))))))
 obtain rfl:=so hF
 exact ⟨o,U,Z⟩
theorem yA {r_:Rule} {cells:List Int} {v0_1:Value} {v0_2:Value} {v0_4:Value} {v1:Value} {H:FH} {w:World} (Z:ab H w []) (h0_1:(rS 3 RP.int).rel H [v0_1] r_.vars) (h0_2:(rS 3 RP.int).rel H [v0_2] r_.coefs) (h0_4:(rS 23 (rS 3 RP.int)).rel H [v0_4] r_.rows) (h1:(rS 3 RP.int).rel H [v1] cells) {r:Bool} (hF:oc r_ cells=some r):C prog 78 #[.agg #[I r_.kind,v0_1,v0_2,I r_.bound,v0_4],v1] w fun v w'=>v=Bo r∧ab H w' []:=by
 unfold oc at hF
 refine aE func78 U ntmps78 U (sq (cr (v:=.agg #[I r_.kind,v0_1,v0_2,I r_.bound,v0_4]) (cs:=#[I r_.kind,v0_1,v0_2,I r_.bound,v0_4]) U U U Z (fun g3 w4 Z=>aB U (ns (aV S0 U (nq (sq (fA 1 cM U U (bw 0 Z isAgg23 U U U (aW U underlying23 U (ai h0_1) (mI U (nn ?_))))))))))))
 have b2:List.length r_.vars≤9223372036854775807:=bB (ai h0_1)
 obtain ⟨j8,a1,hF⟩:=bind_some hF
 obtain ⟨R8,ch⟩:=ca fun f w_=>∃ J:List Int,∃ o,j8=.nx J∧f 2=Pt g3∧f 5=o∧ab H w_ ([oF 3 RP.int o J,box g3 79 #[I r_.kind,v0_1,v0_2,I r_.bound,v0_4]])
 refine av R8 ?_ ?_
 refine ak ?_
 obtain ⟨I8,b3⟩:=ff fun n f w_=>∃ ag:Nat,∃ af:List Int,∃ J:List Int,∃ o,n=af.length∧List.drop ag r_.vars=af∧ag+af.length=r_.vars.length∧aw (mr cells) af ag J=some j8∧f 1=v1∧f 2=Pt g3∧f 5=o∧f 9=v0_1∧f 10=I (r_.vars.length:Int)∧f 11=I ag∧ab H w_ ([oF 3 RP.int o J,box g3 79 #[I r_.kind,v0_1,v0_2,I r_.bound,v0_4]])
 have Z:=ab.bE (R:=(OR.bu RP.int)) (e:=3) Z
 refine a8 I8 (n:=r_.vars.length) ?_ ?_
 exact ij b3 ⟨0,r_.vars,[],S0,U,U,Nat.zero_add _,a1,U,U,U,U,U,U,Z⟩
 intro n8 f w_ hI
 obtain ⟨ag,af,J,o,rfl,cn,bd,a1,cp,bs,b0,c1,b1,a4,Z⟩:=ik b3 hI
 refine sq (bh U a4 b1 (nq (al (b:=decide ((ag:Int)<(r_.vars.length:Int))) U (fun a5=>?_) (fun a5=>?_))))
 have c2:=of_decide_eq_true a5
 rcases af with _ | ⟨et,a6⟩
 exact absurd c2 (by simp at bd; omega)
 obtain ⟨o8,a2,a1⟩:=aJ a1
 rw [mr] at a2
 have c3:=aY cn
 refine aq (ao (ak (sq (bP (r:=RP.int) U underlying23 sizeOf3 c1 h0_1 a4 c3 (fun eu e0 dg an b4=>?_)))))
 obtain rfl:_=[_]:=an
 refine bt U isAgg3 U (At.cell (dn.at b4 Z.sub) (j:=0) U) (aI U (nn ?_))
 obtain ⟨a3,c4,a2⟩:=bind_some a2
 obtain ⟨ds,c5,a2⟩:=bind_some a2
 refine ae (mF b0 U (mF cp U (mI U (bP (r:=RP.int) U underlying23 sizeOf3 U h1 U c4 (fun e1 e2 dj a0 b5=>?_)))))
 obtain rfl:_=[_]:=a0
 refine bt U isAgg3 U (At.cell (dn.at b5 Z.sub) (j:=0) U) (cS U (bG U) (dp (I a3) U) Z (fun ec e3 Z=>?_))
 have Z:=ab.dr (r:=RP.int) (cs:=[I a3]) (x:=a3) Z U
 have Z:=ab.bS (R:=(OR.bu RP.int)) [([I a3],a3)] [a3] 1 Z U U U (by decide)
 have Z:=Z.get 1 U
 refine cj (v:=o) (u:=(Sl ec 1 1)) U eb U U Z c5 (fun c6 e4 Z=>aV c6 U (nn (ae (bf U a4 U (mI U (nn ?_))))))
 obtain rfl:=so a2
 show ∃ m,m<_∧I8 m _ _
 refine ⟨a6.length,by simp,?_⟩
 exact ij b3 ⟨ag+1,a6,ds,c6,U,aL cn,by simp at bd; omega,a1,cp,bs,U,c1,b1,((eI (aO (n:=r_.vars.length) (by simp at bd; omega) b2))),Z⟩
 rcases af with _ | ⟨_,_⟩
 obtain rfl:=aT a1
 refine a9 (rj ch ⟨J,o,U,bs,b0,Z⟩)
 exact absurd (of_decide_eq_false a5) (by simp at bd; omega)
 intro f w_ hR
 obtain ⟨J,o,rfl,bs,b0,Z⟩:=rk ch hR
 refine ao ?_
 obtain ⟨ee,c7,hF⟩:=bind_some hF
 refine ae (a7 (cs:=[I r_.kind,v0_1,v0_2,I r_.bound,v0_4]) U isAgg79 sizeOf79 bs (At.bK (de.at (ab.aM 1 Z U)) 0 5) U (mF b0 U ?_))
 obtain ⟨c8,b8,ej,ek,en⟩:=Z.borrow
 have dd:(rS 3 RP.int).rel c8 [o] J:=cg 0 ek U
 refine ar U call105 (cu U U) (qb (r_:=r_) (vals:=J) ej (RP.mono _ h0_1 b8) (RP.mono _ h0_2 b8) (RP.mono _ h0_4 b8) dd c7) ?_
 rintro _ e5 ⟨rfl,Z⟩
 have Z:=en Z c0
 refine aB U (nn (aA (aN (v1:=Bo ee) results78 U ?_)))
 obtain rfl:=so hF
 exact ⟨U,(ab.aG 0 Z)⟩
theorem ry {c1:List Int} {r_:Rule} {v0_1:Value} {v0_2:Value} {v0_4:Value} {g_c1:Nat} {v1_0:Value} {H:FH} {w:World} (Z:ab H w []) (h0_1:(rS 3 RP.int).rel H [v0_1] r_.vars) (h0_2:(rS 3 RP.int).rel H [v0_2] r_.coefs) (h0_4:(rS 23 (rS 3 RP.int)).rel H [v0_4] r_.rows) (hat_g_c1:dn H g_c1 0 [v1_0]) (h1_0:(rS 3 RP.int).rel H [v1_0] c1) {r:Bool} (hF:fY c1 r_=some r):C prog 117 #[.agg #[I r_.kind,v0_1,v0_2,I r_.bound,v0_4],Pt g_c1] w fun v w'=>v=Bo r∧ab H w' []:=by
 unfold fY at hF
 refine aE func117 U ntmps117 U (sq (cr (v:=.agg #[I r_.kind,v0_1,v0_2,I r_.bound,v0_4]) (cs:=#[I r_.kind,v0_1,v0_2,I r_.bound,v0_4]) U U U Z (fun g3 w4 Z=>aB U (nq ?_))))
 obtain ⟨R,J,hF⟩:=bind_some hF
 refine ae (a7 (cs:=[I r_.kind,v0_1,v0_2,I r_.bound,v0_4]) U isAgg79 sizeOf79 U (At.bK (de.at (ab.aM 0 Z U)) 0 5) U (bt U isAgg23 U (At.ll (dn.at hat_g_c1 Z.sub) (j:=0) U) ?_))
 obtain ⟨an,o,af,a0,ag⟩:=Z.borrow
 refine ar U call78 (cu U U) (yA (r_:=r_) (cells:=c1) af (RP.mono _ h0_1 o) (RP.mono _ h0_2 o) (RP.mono _ h0_4 o) (RP.mono _ h1_0 o) J) ?_
 rintro _ a1 ⟨rfl,Z⟩
 have Z:=ag Z c0
 refine bL U U (aB U (nn (aA (aN (v1:=Bo (!R)) results117 U ?_))))
 obtain rfl:=so hF
 exact ⟨U,(ab.aG 0 Z)⟩
theorem n9 {m:Model} {cells:List Int} {v0_0:Value} {v0_1:Value} {v1:Value} {H:FH} {w:World} (Z:ab H w []) (h0_0:(rS 3 RP.int).rel H [v0_0] m.sizes) (h0_1:(rS 79 (cY 3 23)).rel H [v0_1] m.rules) (h1:(rS 3 RP.int).rel H [v1] cells) {r:Bool} (hF:hZ m cells=some r):C prog 59 #[.agg #[v0_0,v0_1],v1] w fun v w'=>v=Bo r∧ab H w' []:=by
 unfold hZ at hF
 refine aE func59 U ntmps59 U (sq (cr (v:=.agg #[v0_0,v0_1]) (cs:=#[v0_0,v0_1]) U U U Z (fun g5 w6 Z=>cr (v:=v1) (cs:=#[v1]) U U (bl (aH (ai h1))) Z (fun g7 w8 Z=>aB U (nq ?_)))))
 obtain ⟨a0,j,hF⟩:=bind_some hF
 refine ae (fA 1 fB U U (bw 1 Z isAgg24 U U U (yt U (b9 U) ?_)))
 obtain ⟨o,J,a1,a2,a3⟩:=Z.borrow
 have R:lQ prog (cY 3 23) true Value.bool (fY cells) (.func (.func 117) #[] #[Pt g7]) o:=by
   refine ⟨_,_,U,call117,fun H_ w_ hE_ hs_ cs_ x_ y_ args_ hr_ hy_ ha_=>?_⟩
   obtain ⟨a4,a5,a6,rfl,af,ag,an⟩:=iL.1 hr_
   obtain rfl:=kZ (b:=#[.agg #[I x_.kind,a4,a5,I x_.bound,a6],Pt g7]) ha_
   exact ry (c1:=cells) (r_:=x_) hs_ af ag an (dn.le (dn.of (xj 0 a2 U)) hE_) (RP.mono _ (RP.mono _ h1 J) hE_) hy_
 refine ar U call93 (cu U U) (ic (s:=m.rules) (f_:=(fY cells)) a1 (RP.mono _ h0_1 J) R j) ?_
 rintro _ bd ⟨rfl,Z⟩
 have Z:=a3 Z c0
 refine bL U U (aB U (nn (aA (aN (v1:=Bo (!a0)) results59 U ?_))))
 obtain rfl:=so hF
 exact ⟨U,(ab.aG 0 Z)⟩
theorem vy {fu:Nat} {m:Model} {v0_0:Value} {v0_1:Value} {H:FH} {w:World} (Z:ab H w []) (h0_0:(rS 3 RP.int).rel H [v0_0] m.sizes) (h0_1:(rS 79 (cY 3 23)).rel H [v0_1] m.rules) {r:Int} (hF:kR fu m=some r):C prog 17 #[.agg #[v0_0,v0_1]] w fun v w'=>v=I r∧ab H w' []:=by
 unfold kR at hF
 refine aE func17 U ntmps17 U (sq (cr (v:=.agg #[v0_0,v0_1]) (cs:=#[v0_0,v0_1]) U U U Z (fun g3 w4 Z=>aI U (nq (ao ?_)))))
 obtain ⟨h8,hC,hF⟩:=bind_some hF
 refine ae (a7 (cs:=[v0_0,v0_1]) U isAgg26 sizeOf26 U (At.bK (de.at (ab.aM 0 Z U)) 0 2) U ?_)
 obtain ⟨l0,hD,h9,n0,ih⟩:=Z.borrow
 refine ar U call46 (b9 U) (kY (m:=m) h9 (RP.mono _ h0_0 hD) (RP.mono _ h0_1 hD) hC) ?_
 rintro _ n1 ⟨rfl,Z⟩
 have Z:=ih Z c0
 refine bL U U (nn (al (b:=(!h8)) U (fun fa=>?_) (fun fa=>?_)))
 have hF:=(az fa).symm.trans hF
 refine sq (aI U (nn (aA (aN (v1:=I 0) results17 U ?_))))
 obtain rfl:=so hF
 exact ⟨U,(ab.aG 0 Z)⟩
 have hF:=(ay fa).symm.trans hF
 refine aq (sq (dS (cs:=#[I 0]) U zeroValue3 U Z (fun a5 n2 Z=>ei (v:=I 0) (cs2:=#[I 0]) 0 U sizeOf3 U U U Z U U U (fun n3 Z=>nq ?_))))
 obtain ⟨g7,hE,hF⟩:=bind_some hF
 obtain ⟨c3,hG,hF⟩:=bind_some hF
 refine cv 7 [Pt g3,v0_0,Pt g3,v0_0,I (m.sizes.length:Int),none,Value.func (.func 58) #[] #[Pt g3,Pt a5]] [box a5 3 #[I 0],box g3 26 #[v0_0,v0_1]] [.made 5 12 (fun v_=>oF 3 RP.int v_ g7) none] ([]) [([],[]),([],[]),([],[]),([],[]),([],[]),([],[0]),([],[])] (S:=[(some 5,[12],none)]) aP (by kernel_rfl) U (by kernel_rfl) Z ?_ (fun f w_ e3 hc b8 hf Z=>?_)
 refine aa (fun f w_ _ _ s _ _ Z=>fA 0 bN ((s 1 U).trans U) U (nO U U Z)) (aa (fun f w_ _ _ _ _ p Z=>bw 1 Z isAgg23 (p 0 7 U U) U U (nO U U Z)) (aa (fun f w_ _ _ s _ _ Z=>fA 0 bN ((s 1 U).trans U) U (nO U U Z)) (aa (fun f w_ _ _ _ _ p Z=>bw 1 Z isAgg23 (p 2 9 U U) U U (nO U U Z)) (aa (fun f w_ _ _ _ b8 p Z=>aW U underlying23 (p 3 10 U U) (ai (RP.mono _ h0_0 b8)) (nO U U Z)) (aa ?_ ?_)))))
 intro f w_ e3 n4 hc b8 hg Z
 refine xk (R:=(OR.bu RP.int)) (z0:=0) (zc:=[I 0]) U eb (by kernel_rfl) (fun _ _=>⟨U,U⟩) (hg 4 11 U U) (hg 4 11 U U) hE Z (fun n5 n6 Z=>?_)
 have Z:=Z.aU [2,2] U
 exact ax ⟨U,_,_,U,Le.refl _,fun _ _=>trivial,Z⟩
 refine aa (fun f w_ _ _ s _ _ Z=>yt U (cu ((s 1 U).trans U) ((s 3 U).trans U)) (nO U U Z)) (aQ)
 have Z:ab e3 w_ ([box a5 3 #[I 0],box g3 26 #[v0_0,v0_1],oF 3 RP.int (f 12) g7]):=Z
 obtain ⟨ho,eu⟩:∃ RV_:Value→World→Prop,RV_=fun v w_=>∃ hp,v=.tuple #[]∧Le e3 hp∧ab hp w_ ([box a5 3 #[I c3]]):=⟨_,U⟩
 refine ar (args:=#[v0_0,(f 12),.func (.func 58) #[] #[Pt g3,Pt a5]]) (R:=ho) U call57 (k9 (hf 1 8 U U) U (hf 6 13 U U)) ?_ ?_
 refine aE func57 U ntmps57 U ?_
 have ch:=hG
 unfold lW at ch
 refine ao ?_
 obtain ⟨jn,hJ,ch⟩:=bind_some ch
 refine ae (mV (f 12) U ?_)
 obtain ⟨hK,n7,j1,j2,j3⟩:=Z.borrow
 have hN:(rS 3 RP.int).rel hK [(f 12)] g7:=cg 2 j2 U
 refine ar U call62 (b9 U) (eX (s:=g7) j1 hN hJ) ?_
 rintro ag n8 ⟨_,rfl,Z⟩
 have Z:=j3 Z (co bk c0)
 refine aV ag U (nn ?_)
 obtain ⟨hP,b5,ch⟩:=bind_some ch
 obtain ⟨j4,hh⟩:=ca fun f w_=>∃ o:List Int,∃ a0:Int,∃ b2,hP=.nx (o,a0)∧Le e3 b2∧ab b2 w_ ([box a5 3 #[I a0]])
 refine av j4 ?_ ?_
 refine ak ?_
 obtain ⟨hQ,fo⟩:=ff fun n f w_=>∃ o:List Int,∃ a0:Int,∃ b2,bx (gH fu m) n (o,a0)=some hP∧Le e3 b2∧f 0=v0_0∧f 2=.func (.func 58) #[] #[Pt g3,Pt a5]∧f 6=ag∧ab b2 w_ ([oF 3 RP.int ag o,box a5 3 #[I a0],box g3 26 #[v0_0,v0_1]])
 refine a8 hQ (n:=fu) ?_ ?_
 exact ij fo ⟨jn,0,e3,b5,(Le.refl _),U,U,U,(ab.aG 3 Z)⟩
 intro hq f w_ hI
 obtain ⟨o,a0,b2,b5,c8,cp,c1,b3,Z⟩:=ik fo hI
 rcases hq with _ | hq
 exact (cl b5).elim
 obtain ⟨ob,a2,b5⟩:=cq b5
 rw [gH] at a2
 refine ao (ao ?_)
 obtain ⟨⟨dd,a1⟩,hS,a2⟩:=bind_some a2
 refine ae (mF c1 U (mF b3 U ?_))
 obtain ⟨hV,fs⟩:∃ RV_:Value→World→Prop,RV_=fun v w_=>v=Bo dd∧ab b2 w_ ([oF 3 RP.int ag o,box a5 3 #[I a1],box g3 26 #[v0_0,v0_1]]):=⟨_,U⟩
 refine lD (args:=#[ag]) (R:=hV) U call58 U (b9 U) ?_ ?_
 show C _ _ #[ag,Pt g3,Pt a5] _ _
 refine aE func58 U ntmps58 U ?_
 have c4:=hS
 unfold iF at c4
 refine sq (aB U (nq (ao ?_)))
 obtain ⟨j5,hW,c4⟩:=bind_some c4
 refine ae (a7 (cs:=[v0_0,v0_1]) U isAgg26 sizeOf26 U (At.bK (de.at (ab.aM 2 Z U)) 0 2) U (mV ag U ?_))
 obtain ⟨h0,h1,j6,j7,j8⟩:=Z.borrow
 have h2:(rS 3 RP.int).rel h0 [ag] o:=cg 0 j7 U
 refine ar U call59 (cu U U) (n9 (m:=m) (cells:=o) j6 (RP.mono _ h0_0 (Le.trans (Le.trans b8 c8) h1)) (RP.mono _ h0_1 (Le.trans (Le.trans b8 c8) h1)) h2 hW) ?_
 rintro _ oh ⟨rfl,Z⟩
 have Z:=j8 Z c0
 refine nn ?_
 obtain ⟨e4,c5,c4⟩:=bind_some c4
 obtain ⟨kk,e0⟩:=ca fun f w_=>ab b2 w_ ([oF 3 RP.int ag o,box a5 3 #[I e4],box g3 26 #[v0_0,v0_1]])
 refine av kk ?_ ?_
 refine al (b:=j5) U (fun gd=>?_) (fun gd=>?_)
 have c5:=(az gd).symm.trans c5
 refine ae (bw 1 Z isAgg3 U U U (bf U U U (ei (v:=I (i64 (a0+1))) (cs2:=#[I (i64 (a0+1))]) 1 U sizeOf3 U U U Z U U U (fun oj Z=>nn ?_))))
 obtain rfl:=so c5
 have Z:=Z.aU [2,1,2] U
 exact rj e0 Z
 have c5:=(ay gd).symm.trans c5
 refine aq ?_
 obtain rfl:=so c5
 exact rj e0 Z
 intro f w_ hR
 rw [e0] at hR
 have Z:=hR
 clear e0
 refine sq (aB U (nn (aA (aN (v1:=Bo true) results58 U ?_))))
 obtain ⟨rfl,rfl⟩:=xV c4
 show hV _ _
 rw [fs]
 exact ⟨U,Z⟩
 intro l1 w_ hR
 rw [fs] at hR
 obtain ⟨hr,Z⟩:=hR
 obtain rfl:=hr.symm
 clear fs
 refine nn (al (b:=dd) U (fun g0=>?_) (fun g0=>?_))
 have a2:=(az g0).symm.trans a2
 refine aq (ak (sq (mF b3 U (aW U underlying23 U (ab.len 0 Z U) (db U U U (aI U (nq ?_)))))))
 obtain ⟨hi,bs,a2⟩:=bind_some a2
 obtain ⟨h3,g1⟩:=ca fun f w_=>∃ J:List Int,∃ an:Int,∃ c2,hi=.nx (J,an)∧Le b2 c2∧f 0=v0_0∧f 2=.func (.func 58) #[] #[Pt g3,Pt a5]∧f 6=ag∧f 7=I an∧ab c2 w_ ([oF 3 RP.int ag J,box a5 3 #[I a1],box g3 26 #[v0_0,v0_1]])
 refine av h3 ?_ ?_
 refine ak ?_
 obtain ⟨hj,ec⟩:=ff fun n f w_=>∃ J:List Int,∃ an:Int,∃ c2,bx (kj m) n (J,an)=some hi∧Le b2 c2∧f 0=v0_0∧f 2=.func (.func 58) #[] #[Pt g3,Pt a5]∧f 6=ag∧f 7=I an∧ab c2 w_ ([oF 3 RP.int ag J,box a5 3 #[I a1],box g3 26 #[v0_0,v0_1]])
 refine a8 hj (n:=fu) ?_ ?_
 exact ij ec ⟨o,i64 ((o.length:Int) - 1),b2,bs,(Le.refl _),cp,c1,b3,U,Z⟩
 intro g2 f w_ hI
 obtain ⟨J,an,c2,bs,e5,cp,c1,b3,b4,Z⟩:=ik ec hI
 rcases g2 with _ | g2
 exact (cl bs).elim
 obtain ⟨l2,a4,bs⟩:=cq bs
 rw [kj] at a4
 refine ao (ao ?_)
 obtain ⟨e1,bd,a4⟩:=bind_some a4
 obtain ⟨h4,ee⟩:=ca fun f w_=>∃ dg,Le c2 dg∧f 0=v0_0∧f 2=.func (.func 58) #[] #[Pt g3,Pt a5]∧f 6=ag∧f 7=I an∧f 28=Bo e1∧ab dg w_ ([oF 3 RP.int ag J,box a5 3 #[I a1],box g3 26 #[v0_0,v0_1]])
 refine av h4 ?_ ?_
 rcases Bool.eq_false_or_eq_true (decide (an ≥ 0)) with af | af
 rw [az af] at bd
 obtain ⟨hk,ej,bd⟩:=bind_some bd
 obtain ⟨g4,hs,bd⟩:=bind_some bd
 obtain ⟨h5,hz,g5,_,_⟩:=ab.row 0 Z U ej
 refine bT 11 [aZ (I an),aZ (Bo (decide (an ≥ 0))),aZ (Bo (decide (an ≥ 0))),aZ (ag),aZ (I an),aZ (.pointer (some ⟨h5,Int.toNat an * 1,none⟩)),aZ (I hk),aZ (v0_0),aZ (I an),gC RP.int g4 0,aZ (I g4)] [oF 3 RP.int ag J,box a5 3 #[I a1],box g3 26 #[v0_0,v0_1]] [] ([]) [([],[]),([],[]),([],[]),([],[]),([],[]),([],[]),([],[]),([],[]),([],[]),([],[]),([],[])] (S:=[]) aP (by kernel_rfl) U (by kernel_rfl) (ad (ah _) (ad (ah _) (ad (ah _) (ad (ah _) (ad (ah _) (ad (ah _) (ad (ah _) (ad (ah _) (ad (ah _) (ad (bU _ _ _) (ad (ah _) bV))))))))))) Z ?_ (fun f w_ c6 a3 b0 b1 Z=>?_)
 refine aa (fun f w_ _ _ s _ _ Z=>mF ((s 7 U).trans b4) U (nO U U Z)) (aa (fun f w_ _ _ _ _ p Z=>hY U (p 0 16 U U) U (nO U U Z)) (aa (fun f w_ _ _ _ _ p Z=>mF (p 1 17 U U) U (nO U U Z)) (aa (fun f w_ _ _ s _ p Z=>iV (v:=ag) (bm U (cB (p 2 18 U U) af) U) ((s 6 U).trans b3) (nO U U Z)) (aa (fun f w_ _ _ s _ p Z=>iV (v:=I an) (bm U (cB (p 2 18 U U) af) U) ((s 7 U).trans b4) (nO U U Z)) (aa (fun f w_ _ _ _ _ p Z=>bJ (R:=(OR.bu RP.int)) (tb:=0) 0 (bm U (cB (p 2 18 U U) af) U) underlying23 sizeOf3 (p 3 19 U U) g5 (by first | rfl | simp) (p 4 20 U U) ej (nO U U Z)) (aa ?_ ?_))))))
 intro f w_ c6 hl a3 b0 a6 Z
 obtain ⟨ks,ht,g8⟩:=ab.fE 0 Z U g5 ej
 obtain rfl:_=[_]:=ht
 refine bt (v:=I hk) (bm U (cB (a6 2 18 U U) af) U) isAgg3 (a6 5 21 U U) (At.cell g8 (j:=0) U) (ax ⟨U,_,_,U,Le.refl _,fun _ _=>rfl,Z⟩)
 refine aa (fun f w_ _ _ s _ p Z=>iV (v:=v0_0) (bm U (cB (p 2 18 U U) af) U) ((s 0 U).trans cp) (nO U U Z)) (aa (fun f w_ _ _ s _ p Z=>iV (v:=I an) (bm U (cB (p 2 18 U U) af) U) ((s 7 U).trans b4) (nO U U Z)) (aa ?_ ?_))
 intro f w_ c6 hl a3 b0 a6 Z
 refine bP (r:=RP.int) (bm U (cB (a6 2 18 U U) af) U) underlying23 sizeOf3 (a6 7 23 U U) (RP.mono _ h0_0 (Le.trans (Le.trans (Le.trans b8 c8) e5) b0)) (a6 8 24 U U) hs (fun l3 l4 h6 dj g9=>?_)
 obtain rfl:_=[_]:=dj
 exact ax ⟨U,_,_,U,Le.refl _,fun _ _=>⟨_,_,_,U,U,g9⟩,Z⟩
 refine aa ?_ ?_
 intro f w_ c6 hl a3 b0 a6 Z
 obtain ⟨l5,l7,ky,hv,ds,ha⟩:=(a6 9 25 U U)
 obtain rfl:_=[_]:=ds
 refine bt (v:=I g4) (bm U (cB (a6 2 18 U U) af) U) isAgg3 hv (At.cell (dn.at ha Z.sub) (j:=0) U) (ax ⟨U,_,_,U,Le.refl _,fun _ _=>rfl,Z⟩)
 exact aQ
 refine bD (bm U (cB (b1 2 18 U U) af) U) (b1 6 22 U U) (b1 10 26 U U) (aC (v:=Bo e1) U (cB (b1 2 18 U U) af) (congrArg Value.bool (so bd)) (nn (rj ee ⟨c6,b0,((a3 0 U).trans cp),((a3 2 U).trans c1),((a3 6 U).trans b3),((a3 7 U).trans b4),U,Z⟩)))
 rw [ay af] at bd
 refine cv 11 [I an,Bo (decide (an ≥ 0)),Bo (decide (an ≥ 0)),undef,undef,undef,undef,undef,undef,undef,undef] [oF 3 RP.int ag J,box a5 3 #[I a1],box g3 26 #[v0_0,v0_1]] [] ([]) [([],[]),([],[]),([],[]),([],[]),([],[]),([],[]),([],[]),([],[]),([],[]),([],[]),([],[])] (S:=[]) aP (by kernel_rfl) U (by kernel_rfl) Z ?_ (fun f w_ c6 a3 b0 b1 Z=>?_)
 refine aa (fun f w_ _ _ s _ _ Z=>mF ((s 7 U).trans b4) U (nO U U Z)) (aa (fun f w_ _ _ _ _ p Z=>hY U (p 0 16 U U) U (nO U U Z)) (aa (fun f w_ _ _ _ _ p Z=>mF (p 1 17 U U) U (nO U U Z)) (oP (fun _ _ p=>gN (p 2 18 U U) af U) (fun _=>rfl) (oP (fun _ _ p=>gN (p 2 18 U U) af U) (fun _=>rfl) (oP (fun _ _ p=>gN (p 2 18 U U) af U) (fun _=>rfl) (oP (fun _ _ p=>gN (p 2 18 U U) af U) (fun _=>rfl) (oP (fun _ _ p=>gN (p 2 18 U U) af U) (fun _=>rfl) (oP (fun _ _ p=>gN (p 2 18 U U) af U) (fun _=>rfl) (oP (fun _ _ p=>gN (p 2 18 U U) af U) (fun _=>rfl) (oP (fun _ _ p=>gN (p 2 18 U U) af U) (fun _=>rfl) (aQ)))))))))))
 refine ps (rn U (cB (b1 2 18 U U) af) U U) (aC (v:=Bo e1) U (cB (b1 2 18 U U) af) (congrArg Value.bool (so bd)) (nn (rj ee ⟨c6,b0,((a3 0 U).trans cp),((a3 2 U).trans c1),((a3 6 U).trans b3),((a3 7 U).trans b4),U,Z⟩)))
 intro f w_ hR
 obtain ⟨dg,hn,cp,c1,b3,b4,h7,Z⟩:=rk ee hR
 refine al (b:=e1) h7 (fun ek=>?_) (fun ek=>?_)
 have a4:=(az ek).symm.trans a4
 refine aq (ak (ao ?_))
 obtain ⟨l8,en,a4⟩:=bind_some a4
 refine ae (mF b3 U (mF b4 U ?_))
 obtain ⟨l9,hA,g6,_,_⟩:=ab.row 0 Z U en
 refine bJ (R:=(OR.bu RP.int)) (tb:=0) 0 U underlying23 sizeOf3 U g6 (by first | rfl | simp) U en ?_
 have Z:=ab.dr (r:=RP.int) (cs:=[I 0]) (x:=0) Z U
 refine fj (u:=I 0) U sizeOf3 U U U g6 Z en (fun mg Z=>?_)
 refine nn (ae (mF b4 U (db U U U (aI U (nn ?_)))))
 obtain rfl:=so a4
 show ∃ m,m<_∧hj m _ _
 refine ⟨g2,Nat.lt_succ_self _,?_⟩
 exact ij ec ⟨(J.set (Int.toNat an) 0),i64 (an - 1),dg,bs,(Le.trans e5 hn),cp,c1,b3,U,Z⟩
 have a4:=(ay ek).symm.trans a4
 refine a9 ?_
 obtain rfl:=so a4
 obtain rfl:=so bs
 exact rj g1 ⟨J,an,dg,U,(Le.trans e5 hn),cp,c1,b3,b4,Z⟩
 intro f w_ hR
 obtain ⟨J,an,c2,rfl,e5,cp,c1,b3,b4,Z⟩:=rk g1 hR
 refine ao (sq (mF b4 U (bh U U U (nn (al (b:=decide (an<0)) U (fun et=>?_) (fun et=>?_))))))
 have a2:=(az et).symm.trans a2
 refine aA (sW results57 ?_)
 obtain rfl:=so a2
 obtain rfl:=so b5
 obtain rfl:=so ch
 have Z:=Z.get 1 U
 show ho _ _
 rw [eu]
 exact ⟨c2,U,(Le.trans c8 e5),(ab.aG 1 Z)⟩
 have a2:=(ay et).symm.trans a2
 refine aq ?_
 obtain ⟨e2,cn,a2⟩:=bind_some a2
 refine ae (mF b3 U (mF b4 U ?_))
 obtain ⟨m0,hB,c7,_,_⟩:=ab.row 0 Z U cn
 refine bJ (R:=(OR.bu RP.int)) (tb:=0) 0 U underlying23 sizeOf3 U c7 (by first | rfl | simp) U cn ?_
 obtain ⟨k0,hx,hb⟩:=ab.fE 0 Z U c7 cn
 obtain rfl:_=[_]:=hx
 refine bt U isAgg3 U (At.cell hb (j:=0) U) (bf U U U (bJ (R:=(OR.bu RP.int)) (tb:=0) 0 U underlying23 sizeOf3 U c7 (by first | rfl | simp) U cn ?_))
 have Z:=ab.dr (r:=RP.int) (cs:=[I (i64 (e2+1))]) (x:=(i64 (e2+1))) Z U
 refine fj (u:=I (i64 (e2+1))) U sizeOf3 U U U c7 Z cn (fun m1 Z=>?_)
 refine nn ?_
 obtain rfl:=so a2
 show ∃ m,m<_∧hQ m _ _
 refine ⟨hq,Nat.lt_succ_self _,?_⟩
 exact ij fo ⟨(J.set (Int.toNat an) (i64 (e2+1))),a1,c2,b5,(Le.trans c8 e5),cp,c1,b3,Z⟩
 have a2:=(ay g0).symm.trans a2
 refine a9 ?_
 obtain rfl:=so a2
 obtain rfl:=so b5
 have Z:=Z.get 1 U
 exact rj hh ⟨o,a1,b2,U,c8,(ab.aG 1 Z)⟩
 intro f w_ hR
 obtain ⟨o,a0,b2,rfl,c8,Z⟩:=rk hh hR
 obtain rfl:=so ch
 refine FF results57 ?_
 show ho _ _
 rw [eu]
 exact ⟨b2,U,c8,Z⟩
 intro m2 w_ hR
 rw [eu] at hR
 obtain ⟨hp,hy,lo,Z⟩:=hR
 obtain rfl:=hy.symm
 clear eu
 refine ax (sq (bw 0 Z isAgg3 ((hc 3 U).trans U) U U (aI U (nn (aA (aN (v1:=I c3) results17 U ?_))))))
 obtain rfl:=so hF
 exact ⟨U,(ab.down (ab.aG 0 Z) (Le.trans b8 lo) c0)⟩
theorem uM {m:Model} {cells:List Int} {v0_0:Value} {v0_1:Value} {v1:Value} {H:FH} {w:World} (Z:ab H w []) (h0_0:(rS 3 RP.int).rel H [v0_0] m.sizes) (h0_1:(rS 79 (cY 3 23)).rel H [v0_1] m.rules) (h1:(rS 3 RP.int).rel H [v1] cells) {r:Bool} (hF:lf m cells=some r):C prog 60 #[.agg #[v0_0,v0_1],v1] w fun v w'=>v=Bo r∧ab H w' []:=by
 unfold lf at hF
 refine aE func60 U ntmps60 U (sq (cr (v:=.agg #[v0_0,v0_1]) (cs:=#[v0_0,v0_1]) U U U Z (fun g3 w4 Z=>aB U (nq (ao ?_)))))
 obtain ⟨a3,c2,hF⟩:=bind_some hF
 obtain ⟨ds,a4⟩:=ca fun f w_=>f 1=v1∧f 2=Pt g3∧f 17=Bo ((!a3) || ((cells.length:Int) != (m.sizes.length:Int)))∧ab H w_ ([box g3 26 #[v0_0,v0_1]])
 refine av ds ?_ ?_
 refine ae (a7 (cs:=[v0_0,v0_1]) U isAgg26 sizeOf26 U (At.bK (de.at (ab.aM 0 Z U)) 0 2) U ?_)
 obtain ⟨e1,c3,ec,e3,ee⟩:=Z.borrow
 refine ar U call46 (b9 U) (kY (m:=m) ec (RP.mono _ h0_0 c3) (RP.mono _ h0_1 c3) c2) ?_
 rintro _ e4 ⟨rfl,Z⟩
 have Z:=ee Z c0
 refine bL U U (mB U (aD (d:=10) (b:=(!a3)) U (fun a5=>?_) (fun a5=>?_)))
 refine ps U (ps U (ps U (ps U (ps U (ps U (aC (v:=Bo ((!a3) || ((cells.length:Int) != (m.sizes.length:Int)))) U U (fK a5) (nn (rj a4 ⟨U,U,U,Z⟩))))))))
 refine mV v1 U (aW U underlying23 U (ai h1) (fA 0 bN U U (bw 0 Z isAgg23 U U U (aW U underlying23 U (ai h0_0) (gS U U U (aC (v:=Bo ((!a3) || ((cells.length:Int) != (m.sizes.length:Int)))) U U (fb a5 U) (nn (rj a4 ⟨U,U,U,Z⟩))))))))
 intro f w_ hR
 obtain ⟨ej,b1,c4,Z⟩:=rk a4 hR
 refine al (b:=((!a3) || ((cells.length:Int) != (m.sizes.length:Int)))) c4 (fun a6=>?_) (fun a6=>?_)
 have hF:=(az a6).symm.trans hF
 refine sq (aB U (nn (aA (aN (v1:=Bo false) results60 U ?_))))
 obtain rfl:=so hF
 exact ⟨U,(ab.aG 0 Z)⟩
 have hF:=(ay a6).symm.trans hF
 refine aq (ao (sq (mF ej U (aW U underlying23 U (ai h1) (mI U (nn ?_))))))
 have b2:List.length cells≤9223372036854775807:=bB (ai h1)
 obtain ⟨c5,R,hF⟩:=bind_some hF
 obtain ⟨ek,b3⟩:=ca fun f w_=>c5=.nx ()∧ab H w_ ([])
 refine av ek ?_ ?_
 refine ak ?_
 obtain ⟨c6,bd⟩:=ff fun n f w_=>∃ af:Nat,∃ J:List Int,n=J.length∧List.drop af cells=J∧af+J.length=cells.length∧aw (lV m) J af ()=some c5∧f 2=Pt g3∧f 18=v1∧f 19=I (cells.length:Int)∧f 20=I af∧ab H w_ ([box g3 26 #[v0_0,v0_1]])
 refine a8 c6 (n:=cells.length) ?_ ?_
 exact ij bd ⟨0,cells,U,U,Nat.zero_add _,R,b1,U,U,U,Z⟩
 intro e5 f w_ hI
 obtain ⟨af,J,rfl,b4,a0,R,b1,b5,b8,a1,Z⟩:=ik bd hI
 refine sq (bh U a1 b8 (nq (al (b:=decide ((af:Int)<(cells.length:Int))) U (fun bs=>?_) (fun bs=>?_))))
 have ch:=of_decide_eq_true bs
 rcases J with _ | ⟨c7,a2⟩
 exact absurd ch (by simp at a0; omega)
 obtain ⟨fa,o,R⟩:=aJ R
 rw [lV] at o
 have cn:=aY b4
 refine aq (ao (ak (sq (mF a1 U (bP (r:=RP.int) U underlying23 sizeOf3 b5 h1 a1 cn (fun fo fs dg ag cp=>?_))))))
 obtain rfl:_=[_]:=ag
 refine bt U isAgg3 U (At.cell (dn.at cp Z.sub) (j:=0) U) (aI U (aI U (nq ?_)))
 obtain ⟨en,c8,o⟩:=bind_some o
 obtain ⟨et,dd,o⟩:=bind_some o
 refine ae (mI U (fA 0 bN b1 U (bw 0 Z isAgg23 U U U (mI U (bP (r:=RP.int) U underlying23 sizeOf3 U h0_0 U c8 (fun fu gd dj an c1=>?_))))))
 obtain rfl:_=[_]:=an
 refine bt U isAgg3 U (At.cell (dn.at c1 Z.sub) (j:=0) U) ?_
 obtain ⟨e2,g0,eu,g1,e0⟩:=Z.borrow
 refine ar U call92 (k9 U U U) (dY (n_:=c7) (low:=0) (high:=en) eu dd) ?_
 rintro _ g2 ⟨rfl,Z⟩
 have Z:=e0 Z c0
 refine bL U U (nn (al (b:=(!et)) U (fun b0=>?_) (fun b0=>?_)))
 have o:=(az b0).symm.trans o
 refine sq (aB U (nn (aA (aN (v1:=Bo false) results60 U ?_))))
 obtain rfl:=so o
 obtain rfl:=so R
 obtain rfl:=so hF
 exact ⟨U,(ab.aG 0 Z)⟩
 have o:=(ay b0).symm.trans o
 refine aq (ae (bf U a1 U (mI U (nn ?_))))
 obtain rfl:=so o
 show ∃ m,m<_∧c6 m _ _
 refine ⟨a2.length,by simp,?_⟩
 exact ij bd ⟨af+1,a2,U,aL b4,by simp at a0; omega,R,b1,b5,b8,((eI (aO (n:=cells.length) (by simp at a0; omega) b2))),Z⟩
 rcases J with _ | ⟨_,_⟩
 obtain rfl:=aT R
 refine a9 (rj b3 ⟨U,(ab.aG 0 Z)⟩)
 exact absurd (of_decide_eq_false bs) (by simp at a0; omega)
 intro f w_ hR
 obtain ⟨rfl,Z⟩:=rk b3 hR
 refine sq (aB U (nn (aA (aN (v1:=Bo true) results60 U ?_))))
 obtain rfl:=so hF
 exact ⟨U,Z⟩
theorem zV {fuel:Int} {H:FH} {w:World} (Z:ab H w []) {r:Bool} (hF:sy fuel=some r):C prog 64 #[I fuel] w fun v w'=>v=Bo r∧ab H w' []:=by
 unfold sy at hF
 refine aE func64 U ntmps64 U (sq (aB U (nq ?_)))
 obtain ⟨x6,j,hF⟩:=bind_some hF
 refine ae (mI U ?_)
 obtain ⟨R,l9,o,af,J⟩:=Z.borrow
 refine ar U call92 (k9 U U U) (dY (n_:=fuel) (low:=0) (high:=2000) o j) ?_
 rintro _ ag ⟨rfl,Z⟩
 have Z:=J Z c0
 refine aB U (nn (aA (aN (v1:=Bo x6) results64 U ?_)))
 obtain rfl:=so hF
 exact ⟨U,Z⟩
end Go.Proofs.YtbjllamkfmejlaaGreat

/- Part of a proof by program: W5. -/
import Derived.Test.YtbjllamkfmejlaaGreatD1
import Derived.Test.YtbjllamkfmejlaaGreatW4
namespace Go.Proofs.YtbjllamkfmejlaaGreat
open Go Go.E Go.L Go.RowKit
open Tryz hiding bits_Len
set_option linter.unusedVariables false
set_option linter.unusedSimpArgs false
set_option maxRecDepth 100000
theorem Ee {fu:Nat} {list:List Con} {steps:List Step} {v0:Value} {v1:Value} {H:FH} {w:World} {R:List Ass} (Z:ab H w R) (h0:(rS 73 (ba 122)).rel H [v0] list) (h1:(rS 158 (wo 122)).rel H [v1] steps) {r:(Option Db) × Int} (hF:zt fu list steps=some r):C prog 120 #[v0,v1] w fun v w'=>∃ H':FH,Le H H'∧∃ (u1:Value),v=.tuple #[u1,I r.2]∧ab H' w' (BW u1 r.1 (fun (d_:Db) (g_:Nat) (u_:Value × Value)=>[box g_ 131 #[u_.1,u_.2],oF 73 (ba 122) u_.1 d_.list,oF 4 RP.bool u_.2 d_.gone]) :: R):=by
 unfold zt at hF
 refine aE func120 U ntmps120 U (sq (aV (.pointer none) U (aI U (nq (ao ?_)))))
 obtain ⟨x6,fs,hF⟩:=bind_some hF
 obtain ⟨R8,dd⟩:=ca fun f w_=>f 0=v0∧f 1=v1∧f 16=Bo ((!x6) || (decide ((steps.length:Int) > 1000)))∧ab H w_ (R)
 refine av R8 ?_ ?_
 refine ae (mV v0 U ?_)
 obtain ⟨g8,gd,g0,g9,g1⟩:=Z.borrow
 refine ar U call37 (b9 U) (oB (list:=list) g0 (RP.mono _ h0 gd) fs) ?_
 rintro _ ha ⟨rfl,Z⟩
 have Z:=g1 Z c0
 refine bL U U (mB U (aD (d:=12) (b:=(!x6)) U (fun b8=>?_) (fun b8=>?_)))
 refine ps U (ps U (ps U (aC (v:=Bo ((!x6) || (decide ((steps.length:Int) > 1000)))) U U (fK b8) (nn (rj dd ⟨U,U,U,Z⟩)))))
 refine mV v1 U (aW U underlying42 U (ai h1) (c9 U U U (aC (v:=Bo ((!x6) || (decide ((steps.length:Int) > 1000)))) U U (fb b8 U) (nn (rj dd ⟨U,U,U,Z⟩)))))
 intro f w_ hR
 obtain ⟨et,g2,eu,Z⟩:=rk dd hR
 refine al (b:=((!x6) || (decide ((steps.length:Int) > 1000)))) eu (fun ch=>?_) (fun ch=>?_)
 have hF:=(az ch).symm.trans hF
 refine sq (aV (.pointer none) U (aI U (nn (aA (dc (v1:=.pointer none) (v2:=I 0) results120 U U ?_)))))
 obtain rfl:=so hF
 have Z:=ab.xh (fun (d_:Db) (g_:Nat) (u_:Value × Value)=>[box g_ 131 #[u_.1,u_.2],oF 73 (ba 122) u_.1 d_.list,oF 4 RP.bool u_.2 d_.gone]) Z
 exact ⟨H,(Le.refl _),.pointer none,U,Z⟩
 have hF:=(ay ch).symm.trans hF
 refine aq (ao ?_)
 obtain ⟨dg,e0,hF⟩:=bind_some hF
 obtain ⟨dj,e1,hF⟩:=bind_some hF
 refine cv 5 [v0,none,v0,I (list.length:Int),none] [] [.made 1 18 (fun v_=>oF 73 (ba 122) v_ dg) none,.made 4 21 (fun v_=>oF 4 RP.bool v_ dj) none] (R) [([],[]),([],[0]),([],[]),([],[]),([],[1])] (S:=[(some 1,[18],none),(some 4,[21],none)]) aP (by kernel_rfl) U (by kernel_rfl) Z ?_ (fun f w_ b4 cn an g7 Z=>?_)
 refine aa (fun f w_ _ _ s _ _ Z=>mF ((s 0 U).trans et) U (nO U U Z)) (aa ?_ ?_)
 intro f w_ b4 g3 cn an bs Z
 refine ar U call65 (b9 (bs 0 17 U U)) (fp (s:=list) Z (RP.mono _ h0 an) e0) ?_
 rintro g4 hb ⟨hc,g5,_,rfl,Z⟩
 exact ax ⟨U,_,_,U,g5,fun _ _=>trivial,Z⟩
 refine aa (fun f w_ _ _ s _ _ Z=>mF ((s 0 U).trans et) U (nO U U Z)) (aa (fun f w_ _ _ _ an p Z=>aW U underlying28 (p 2 19 U U) (ai (RP.mono _ h0 an)) (nO U U Z)) (aa ?_ ?_))
 intro f w_ b4 g3 cn an bs Z
 refine xk (R:=(OR.bu RP.bool)) (z0:=false) (zc:=[Bo false]) U Cm (by kernel_rfl) (fun _ _=>⟨U,U⟩) (bs 3 20 U U) (bs 3 20 U U) e1 Z (fun hf hg Z=>ax ⟨U,_,_,U,Le.refl _,fun _ _=>trivial,Z⟩)
 exact aQ
 have Z:ab b4 w_ (oF 73 (ba 122) (f 18) dg :: oF 4 RP.bool (f 21) dj :: R):=Z
 refine da U (iB U U) (y9 ((f 18)) ((f 21)) (aH (ab.len 0 Z U)) (aH (ab.len 1 Z U))) (cr (v:=.agg #[(f 18),(f 21)]) (cs:=#[(f 18),(f 21)]) U U U Z (fun a4 hh Z=>aV (Pt a4) U (ax (ao (sq (mF ((cn 1 U).trans g2) U (aW U underlying42 U (ai (RP.mono _ h1 an)) (mI U (nn ?_)))))))))
 have c4:List.length steps≤9223372036854775807:=bB (ai (RP.mono _ h1 an))
 obtain ⟨e2,a3,hF⟩:=bind_some hF
 obtain ⟨g6,c5⟩:=ca fun f w_=>∃ J:List Con,∃ af:List Bool,∃ a5,∃ j o:Value,e2=.nx (J,af)∧Le b4 a5∧f 6=Pt a4∧ab a5 w_ (oF 73 (ba 122) j J :: oF 4 RP.bool o af :: box a4 131 #[j,o] :: R)
 refine av g6 ?_ ?_
 refine ak ?_
 obtain ⟨e3,cp⟩:=ff fun n f w_=>∃ a2:Nat,∃ a0:List Step,∃ J:List Con,∃ af:List Bool,∃ a5,∃ j o:Value,n=a0.length∧List.drop a2 steps=a0∧a2+a0.length=steps.length∧aw (nW fu list) a0 a2 (J,af)=some e2∧Le b4 a5∧f 6=Pt a4∧f 24=v1∧f 25=I (steps.length:Int)∧f 26=I a2∧ab a5 w_ (oF 73 (ba 122) j J :: oF 4 RP.bool o af :: box a4 131 #[j,o] :: R)
 have Z:=Z.aU [2,2] U
 refine a8 e3 (n:=steps.length) ?_ ?_
 exact ij cp ⟨0,steps,dg,dj,b4,(f 18),(f 21),U,U,Nat.zero_add _,a3,(Le.refl _),U,U,U,U,Z⟩
 intro hi f w_ hI
 obtain ⟨a2,a0,J,af,a5,j,o,rfl,c6,b0,a3,b5,c1,c7,c8,b1,Z⟩:=ik cp hI
 refine sq (bh U b1 c8 (nq (al (b:=decide ((a2:Int)<(steps.length:Int))) U (fun c2=>?_) (fun c2=>?_))))
 have ds:=of_decide_eq_true c2
 rcases a0 with _ | ⟨ag,b2⟩
 exact absurd ds (by simp at b0; omega)
 obtain ⟨hj,a1,a3⟩:=aJ a3
 rw [nW] at a1
 have ec:=aY c6
 refine aq (ao (ak (sq (mF b1 U (bP (r:=(wo 122)) U underlying42 sizeOf158 c7 (RP.mono _ h1 (Le.trans an b5)) b1 ec (fun hk hl fo bd ee=>?_))))))
 obtain ⟨a6,rfl,b3⟩:=BT.1 bd
 refine a7 (cs:=[I ag.kind,I ag.a,I ag.b,a6,I ag.given.bound]) U isAgg158 sizeOf158 U (At.sub (dn.at ee Z.sub) 0 5) U (dS (cs:=#[I 0,I 0,I 0,S0,I 0]) U zeroValue158 U Z (fun hn ho Z=>aI U (bg (vs:=#[I ag.kind,I ag.a,I ag.b,a6,I ag.given.bound]) (cs2:=#[I ag.kind,I ag.a,I ag.b,a6,I ag.given.bound]) 0 U sizeOf158 U U U (aj U (aj U (aj U (aj (aH (ai b3)) (aj U aK))))) Z U (by show 0+5≤5; decide) U (fun hp Z=>nq ?_))))
 obtain ⟨ej,e4,a1⟩:=bind_some a1
 refine ae (mF c1 U (a7 (cs:=[I ag.kind,I ag.a,I ag.b,a6,I ag.given.bound]) U isAgg158 sizeOf158 U (At.bK (de.at (ab.aM 0 Z U)) 0 5) U ?_))
 have Z:=Z.aU [2,2,3] U
 refine ar U call160 (cu U U) (sO (r_:=({ list:=J,gone:=af }:Db)) (s:=ag) Z b3 e4) ?_
 rintro _ hq ⟨e5,fa,ek,en,rfl,Z⟩
 refine bL U U (nn (al (b:=(!ej.1)) U (fun c3=>?_) (fun c3=>?_)))
 have a1:=(az c3).symm.trans a1
 refine sq (mI U (aV (.pointer none) U (aI U (nn (aA (dc (v1:=.pointer none) (v2:=I a2) results120 U U ?_))))))
 obtain rfl:=so a1
 obtain rfl:=so a3
 obtain rfl:=so hF
 have Z:=ab.xh (fun (d_:Db) (g_:Nat) (u_:Value × Value)=>[box g_ 131 #[u_.1,u_.2],oF 73 (ba 122) u_.1 d_.list,oF 4 RP.bool u_.2 d_.gone]) Z
 have Z:=ab.drop 1 Z U
 have Z:=ab.drop 1 Z U
 have Z:=ab.drop 1 Z U
 have Z:=ab.drop 1 Z U
 exact ⟨e5,(Le.trans (Le.trans an b5) fa),.pointer none,U,Z⟩
 have a1:=(ay c3).symm.trans a1
 refine aq (ae (bf U b1 U (mI U (nn ?_))))
 obtain rfl:=so a1
 have Z:=Z.aU [2,2] U
 have Z:=ab.drop 3 Z U
 show ∃ m,m<_∧e3 m _ _
 refine ⟨b2.length,by simp,?_⟩
 exact ij cp ⟨a2+1,b2,ej.2.1,ej.2.2,e5,ek,en,U,aL c6,by simp at b0; omega,a3,(Le.trans b5 fa),c1,c7,c8,((eI (aO (n:=steps.length) (by simp at b0; omega) c4))),Z⟩
 rcases a0 with _ | ⟨_,_⟩
 obtain rfl:=aT a3
 refine a9 (rj c5 ⟨J,af,a5,j,o,U,b5,c1,Z⟩)
 exact absurd (of_decide_eq_false c2) (by simp at b0; omega)
 intro f w_ hR
 obtain ⟨J,af,a5,j,o,rfl,b5,c1,Z⟩:=rk c5 hR
 refine sq (mF c1 U (aV (Pt a4) U (aI U (nn (aA (dc (v1:=Pt a4) (v2:=I (-1)) results120 U U ?_))))))
 obtain rfl:=so hF
 have Z:=Z.aU [1,1,2] U
 have Z:=ab.xU (fun (d_:Db) (g_:Nat) (u_:Value × Value)=>[box g_ 131 #[u_.1,u_.2],oF 73 (ba 122) u_.1 d_.list,oF 4 RP.bool u_.2 d_.gone]) ({ list:=J,gone:=af }:Db) a4 (j,o) Z
 exact ⟨a5,(Le.trans an b5),Pt a4,U,Z⟩
theorem qW {c:Con} {v0_0:Value} {H:FH} {w:World} (Z:ab H w []) (h0_0:(rS 122 au).rel H [v0_0] c.terms) {r:Bool} (hF:gM c=some r):C prog 121 #[.agg #[v0_0,I c.bound]] w fun v w'=>v=Bo r∧ab H w' []:=by
 unfold gM at hF
 refine aE func121 U ntmps121 U (sq (cr (v:=.agg #[v0_0,I c.bound]) (cs:=#[v0_0,I c.bound]) U U U Z (fun g3 w4 Z=>aB U (nq ?_))))
 obtain ⟨a1,a4,hF⟩:=bind_some hF
 obtain ⟨a3,af,hF⟩:=bind_some hF
 obtain ⟨bs,a2⟩:=ca fun f w_=>∃ a5,Le H a5∧f 2=Bo a3∧ab a5 w_ ([])
 refine av bs ?_ ?_
 rcases Bool.eq_false_or_eq_true a1 with o | o
 rw [az o] at af
 obtain ⟨b0,a6,af⟩:=bind_some af
 refine cv 7 [Value.agg #[v0_0,I c.bound],Bo a1,Bo a1,Pq g3 1,I c.bound,Value.agg #[v0_0,I c.bound],I b0] [box g3 73 #[v0_0,I c.bound]] [] ([]) [([],[]),([],[]),([],[]),([],[]),([],[]),([],[]),([],[])] (S:=[]) aP (by kernel_rfl) U (by kernel_rfl) Z ?_ (fun f w_ a0 an J R Z=>?_)
 refine aa (fun f w_ _ _ s _ _ Z=>a7 (cs:=[v0_0,I c.bound]) U isAgg73 sizeOf73 ((s 1 U).trans U) (At.bK (de.at (ab.aM 0 Z U)) 0 2) U (nO U U Z)) (aa ?_ ?_)
 intro f w_ a0 bd an J ag Z
 obtain ⟨c3,b1,b2,c6,b3⟩:=Z.borrow
 refine ar U call130 (b9 (ag 0 3 U U)) (bZ (c:=c) b2 (RP.mono _ h0_0 (Le.trans J b1)) a4) ?_
 rintro _ c7 ⟨rfl,Z⟩
 have Z:=b3 Z c0
 exact ax ⟨U,_,_,U,Le.refl _,fun _ _=>rfl,Z⟩
 refine aa (fun f w_ _ _ _ _ p Z=>mF (p 1 4 U U) U (nO U U Z)) (aa (fun f w_ _ _ s _ p Z=>sA (o':=1) (bm U (cB (p 2 5 U U) o) U) fy ((s 1 U).trans U) U (nO U U Z)) (aa (fun f w_ _ _ _ _ p Z=>bt (v:=I c.bound) (bm U (cB (p 2 5 U U) o) U) isAgg3 (p 3 6 U U) (At.ll (de.at (ab.aM 0 Z U)) (j:=1) U) (nO U U Z)) (aa (fun f w_ _ _ s _ p Z=>a7 (cs:=[v0_0,I c.bound]) (bm U (cB (p 2 5 U U) o) U) isAgg73 sizeOf73 ((s 1 U).trans U) (At.bK (de.at (ab.aM 0 Z U)) 0 2) U (nO U U Z)) (aa ?_ ?_))))
 intro f w_ a0 bd an J ag Z
 obtain ⟨c4,b4,b5,c8,b8⟩:=Z.borrow
 refine ar (bm U (cB (ag 2 5 U U) o) U) call161 (b9 (ag 5 8 U U)) (lT (c:=c) b5 (RP.mono _ h0_0 (Le.trans J b4)) a6) ?_
 rintro _ dd ⟨rfl,Z⟩
 have Z:=b8 Z c0
 exact ax ⟨U,_,_,U,Le.refl _,fun _ _=>rfl,Z⟩
 exact aQ
 refine c9 (bm U (cB (R 2 5 U U) o) U) (R 4 7 U U) (R 6 9 U U) (aC (v:=Bo a3) U (cB (R 2 5 U U) o) (congrArg Value.bool (so af)) (aB U (nn (rj a2 ⟨a0,J,U,(ab.aG 0 Z)⟩))))
 rw [ay o] at af
 refine cv 7 [Value.agg #[v0_0,I c.bound],Bo a1,Bo a1,undef,undef,undef,undef] [box g3 73 #[v0_0,I c.bound]] [] ([]) [([],[]),([],[]),([],[]),([],[]),([],[]),([],[]),([],[])] (S:=[]) aP (by kernel_rfl) U (by kernel_rfl) Z ?_ (fun f w_ a0 an J R Z=>?_)
 refine aa (fun f w_ _ _ s _ _ Z=>a7 (cs:=[v0_0,I c.bound]) U isAgg73 sizeOf73 ((s 1 U).trans U) (At.bK (de.at (ab.aM 0 Z U)) 0 2) U (nO U U Z)) (aa ?_ ?_)
 intro f w_ a0 bd an J ag Z
 obtain ⟨c5,ch,cn,dg,cp⟩:=Z.borrow
 refine ar U call130 (b9 (ag 0 3 U U)) (bZ (c:=c) cn (RP.mono _ h0_0 (Le.trans J ch)) a4) ?_
 rintro _ dj ⟨rfl,Z⟩
 have Z:=cp Z c0
 exact ax ⟨U,_,_,U,Le.refl _,fun _ _=>rfl,Z⟩
 refine aa (fun f w_ _ _ _ _ p Z=>mF (p 1 4 U U) U (nO U U Z)) (oP (fun _ _ p=>gN (p 2 5 U U) o U) (fun _=>rfl) (oP (fun _ _ p=>gN (p 2 5 U U) o U) (fun _=>rfl) (oP (fun _ _ p=>gN (p 2 5 U U) o U) (fun _=>rfl) (oP (fun _ _ p=>gN (p 2 5 U U) o U) (fun _=>rfl) (aQ)))))
 refine ps (rn U (cB (R 2 5 U U) o) U U) (aC (v:=Bo a3) U (cB (R 2 5 U U) o) (congrArg Value.bool (so af)) (aB U (nn (rj a2 ⟨a0,J,U,(ab.aG 0 Z)⟩))))
 intro f w_ hR
 obtain ⟨a5,c1,c2,Z⟩:=rk a2 hR
 refine aA (aN (v1:=Bo a3) results121 c2 ?_)
 obtain rfl:=so hF
 exact ⟨U,(ab.down Z c1 c0)⟩
theorem xB {fu:Nat} {list:List Con} {steps:List Step} {v0:Value} {v1:Value} {H:FH} {w:World} {R:List Ass} (Z:ab H w R) (h0:(rS 73 (ba 122)).rel H [v0] list) (h1:(rS 158 (wo 122)).rel H [v1] steps) {r:(Option Db) × Int} (hF:mG fu list steps=some r):C prog 67 #[v0,v1] w fun v w'=>∃ H':FH,Le H H'∧∃ (u1:Value),v=.tuple #[u1,I r.2]∧ab H' w' (BW u1 r.1 (fun (d_:Db) (g_:Nat) (u_:Value × Value)=>[box g_ 131 #[u_.1,u_.2],oF 73 (ba 122) u_.1 d_.list,oF 4 RP.bool u_.2 d_.gone]) :: R):=by
 unfold mG at hF
 refine aE func67 U ntmps67 U (sq (aV (.pointer none) U (aI U (nq ?_))))
 obtain ⟨x1,e1,hF⟩:=bind_some hF
 refine ae (mV v0 U (mV v1 U (ar U call120 (cu U U) (Ee (list:=list) (steps:=steps) Z h0 h1 e1) ?_)))
 rintro _ w4 ⟨H4,l4,b1,rfl,Z⟩
 refine mV (.tuple #[b1,I x1.2]) U (dF (v:=b1) U U U (dF (v:=I x1.2) U U U (aV b1 U (aI U (nq (sq (mI U (hY U U U (nn (al (b:=decide (x1.2 ≥ 0)) U (fun c8=>?_) (fun c8=>?_)))))))))))
 have hF:=(az c8).symm.trans hF
 refine sq (aV (.pointer none) U (aI U (nn (aA (dc (v1:=.pointer none) (v2:=I (-1)) results67 U U ?_)))))
 obtain rfl:=so hF
 have Z:=ab.xh (fun (d_:Db) (g_:Nat) (u_:Value × Value)=>[box g_ 131 #[u_.1,u_.2],oF 73 (ba 122) u_.1 d_.list,oF 4 RP.bool u_.2 d_.gone]) Z
 have Z:=ab.drop 1 Z U
 exact ⟨H4,l4,.pointer none,U,Z⟩
 have hF:=(ay c8).symm.trans hF
 refine aq (ao (ao ?_))
 obtain ⟨x9,e2,hF⟩:=bind_some hF
 refine ae (mV b1 U ?_)
 obtain ⟨af,⟨o,J⟩,b5,Z⟩:=ab.Ft e2 Z
 have Z:ab H4 w4 (box af 131 #[o,J] :: oF 73 (ba 122) o x9.list :: oF 4 RP.bool J x9.gone :: R):=Z
 refine hH U b5 (fA 0 jx U U (bw 0 Z isAgg28 U U U (aW U underlying28 U (ab.len 1 Z U) (mI U (nn ?_)))))
 have c3:List.length x9.list≤9223372036854775807:=bB (ab.len 1 Z U)
 obtain ⟨ds,a1,hF⟩:=bind_some hF
 obtain ⟨e3,c4⟩:=ca fun f w_=>ds=.nx ()∧f 6=Pt af∧ab H4 w_ (oF 73 (ba 122) o x9.list :: oF 4 RP.bool J x9.gone :: box af 131 #[o,J] :: R)
 refine av e3 ?_ ?_
 refine ak ?_
 obtain ⟨ec,b8⟩:=ff fun n f w_=>∃ an:Nat,∃ a0:List Con,n=a0.length∧List.drop an x9.list=a0∧an+a0.length=x9.list.length∧aw (j9 x9) a0 an ()=some ds∧f 6=Pt af∧f 21=o∧f 22=I (x9.list.length:Int)∧f 23=I an∧ab H4 w_ (oF 73 (ba 122) o x9.list :: oF 4 RP.bool J x9.gone :: box af 131 #[o,J] :: R)
 have Z:=Z.aU [2,2] U
 refine a8 ec (n:=x9.list.length) ?_ ?_
 exact ij b8 ⟨0,x9.list,U,U,Nat.zero_add _,a1,b5,U,U,U,Z⟩
 intro g3 f w_ hI
 obtain ⟨an,a0,rfl,c5,b2,a1,a4,a6,bd,a2,Z⟩:=ik b8 hI
 refine sq (bh U a2 bd (nq (al (b:=decide ((an:Int)<(x9.list.length:Int))) U (fun ch=>?_) (fun ch=>?_))))
 have dd:=of_decide_eq_true ch
 rcases a0 with _ | ⟨bs,b3⟩
 exact absurd dd (by simp at b2; omega)
 obtain ⟨g4,ag,a1⟩:=aJ a1
 rw [j9] at ag
 have b0:=aY c5
 refine aq (ao (ak (sq (mF a2 U ?_))))
 obtain ⟨g5,ee,c6,_,_⟩:=ab.row 0 Z U b0
 refine bJ (R:=(OR.bu (ba 122))) (tb:=0) 0 U underlying28 sizeOf73 a6 c6 (by first | rfl | simp) a2 b0 ?_
 obtain ⟨g0,ej,dg⟩:=ab.fE 0 Z U c6 b0
 obtain ⟨a5,rfl,b4⟩:=dR.1 ej
 refine a7 (cs:=[a5,I bs.bound]) U isAgg73 sizeOf73 U (At.sub dg 0 2) U (dS (cs:=#[S0,I 0]) U zeroValue73 U Z (fun g6 g7 Z=>aI U (bg (vs:=#[a5,I bs.bound]) (cs2:=#[a5,I bs.bound]) 0 U sizeOf73 U U U (aj (aH (ai b4)) (aj U aK)) Z U (by show 0+2≤2; decide) U (fun g8 Z=>nq ?_))))
 obtain ⟨e4,cn,ag⟩:=bind_some ag
 obtain ⟨ek,a3,ag⟩:=bind_some ag
 obtain ⟨e5,cp⟩:=ca fun f w_=>f 6=Pt af∧f 8=I an∧f 21=o∧f 22=I (x9.list.length:Int)∧f 23=I an∧f 39=Bo ek∧ab H4 w_ (oF 73 (ba 122) o x9.list :: oF 4 RP.bool J x9.gone :: box af 131 #[o,J] :: R)
 refine av e5 ?_ ?_
 refine ae (mF a4 U (hH U U (fA 1 ox U U (bw 3 Z isAgg37 U U U (mI U ?_)))))
 obtain ⟨g9,en,c7,_,_⟩:=ab.row 2 Z U cn
 refine bJ (R:=(OR.bu RP.bool)) (tb:=0) 0 U underlying37 sizeOf4 U c7 (by first | rfl | simp) U cn ?_
 obtain ⟨g1,et,dj⟩:=ab.fE 2 Z U c7 cn
 obtain rfl:_=[_]:=et
 refine bt U isAgg4 U (At.cell dj (j:=0) U) (bL U U (mB U (aD (d:=36) (b:=(!e4)) U (fun c1=>?_) (fun c1=>?_))))
 rw [az c1] at a3
 obtain ⟨ha,eu,a3⟩:=bind_some a3
 refine a7 (cs:=[a5,I bs.bound]) U isAgg73 sizeOf73 U (At.bK (de.at (ab.aM 0 Z U)) 0 2) U ?_
 obtain ⟨g2,fa,fo,hb,fs⟩:=Z.borrow
 refine ar U call121 (b9 U) (qW (c:=bs) fo (RP.mono _ b4 fa) eu) ?_
 rintro _ hc ⟨rfl,Z⟩
 have Z:=fs Z c0
 refine dU a3 U (nn ?_)
 have Z:=Z.aU [3,3,3] U
 have Z:=ab.drop 3 Z U
 exact rj cp ⟨a4,U,a6,bd,a2,U,Z⟩
 rw [ay c1] at a3
 refine ps U (ps U (dU a3 U (nn ?_)))
 have Z:=Z.aU [3,3,3] U
 have Z:=ab.drop 3 Z U
 exact rj cp ⟨a4,U,a6,bd,a2,U,Z⟩
 intro f w_ hR
 obtain ⟨a4,gd,a6,bd,a2,e0,Z⟩:=rk cp hR
 refine al (b:=ek) e0 (fun c2=>?_) (fun c2=>?_)
 have ag:=(az c2).symm.trans ag
 refine sq (mF a4 U (mF gd U (aV (Pt af) U (aI U (nn (aA (dc (v1:=Pt af) (v2:=I an) results67 U U ?_)))))))
 obtain rfl:=so ag
 obtain rfl:=so a1
 obtain rfl:=so hF
 have Z:=Z.aU [1,1,2] U
 have Z:=ab.xU (fun (d_:Db) (g_:Nat) (u_:Value × Value)=>[box g_ 131 #[u_.1,u_.2],oF 73 (ba 122) u_.1 d_.list,oF 4 RP.bool u_.2 d_.gone]) x9 af (o,J) Z
 exact ⟨H4,l4,Pt af,U,Z⟩
 have ag:=(ay c2).symm.trans ag
 refine aq (ae (bf U a2 U (mI U (nn ?_))))
 obtain rfl:=so ag
 show ∃ m,m<_∧ec m _ _
 refine ⟨b3.length,by simp,?_⟩
 exact ij b8 ⟨an+1,b3,U,aL c5,by simp at b2; omega,a1,a4,a6,bd,((eI (aO (n:=x9.list.length) (by simp at b2; omega) c3))),Z⟩
 rcases a0 with _ | ⟨_,_⟩
 obtain rfl:=aT a1
 refine a9 (rj c4 ⟨U,a4,Z⟩)
 exact absurd (of_decide_eq_false ch) (by simp at b2; omega)
 intro f w_ hR
 obtain ⟨rfl,a4,Z⟩:=rk c4 hR
 refine sq (mF a4 U (aV (Pt af) U (aI U (nn (aA (dc (v1:=Pt af) (v2:=I (-1)) results67 U U ?_))))))
 obtain rfl:=so hF
 have Z:=Z.aU [1,1,2] U
 have Z:=ab.xU (fun (d_:Db) (g_:Nat) (u_:Value × Value)=>[box g_ 131 #[u_.1,u_.2],oF 73 (ba 122) u_.1 d_.list,oF 4 RP.bool u_.2 d_.gone]) x9 af (o,J) Z
 exact ⟨H4,l4,Pt af,U,Z⟩
theorem qX {fu:Nat} {list:List Con} {steps:List Step} {v0:Value} {v1:Value} {H:FH} {w:World} (Z:ab H w []) (h0:(rS 73 (ba 122)).rel H [v0] list) (h1:(rS 158 (wo 122)).rel H [v1] steps) {r:Bool} (hF:gT fu list steps=some r):C prog 24 #[v0,v1] w fun v w'=>v=Bo r∧ab H w' []:=by
 unfold gT at hF
 refine aE func24 U ntmps24 U (sq (aB U (nq ?_)))
 obtain ⟨x1,o,hF⟩:=bind_some hF
 refine ae (mV v0 U (mV v1 U (ar U call67 (cu U U) (xB (list:=list) (steps:=steps) Z h0 h1 o) ?_)))
 rintro _ w4 ⟨H4,l4,j,rfl,Z⟩
 refine mV (.tuple #[j,I x1.2]) U (dF (v:=j) U U U (dF (v:=I x1.2) U U U (aV j U (aI U (ns (mI U (hY U U U (aB U (nn (aA (aN (v1:=Bo (decide (x1.2 ≥ 0))) results24 U ?_)))))))))))
 obtain rfl:=so hF
 exact ⟨U,(ab.down (ab.aG 0 Z) l4 c0)⟩
theorem rM {fu:Nat} {code:List UInt8} {v0:Value} {H:FH} {w:World} (Z:ab H w []) (h0:(rS 5 RP.u8).rel H [v0] code) {r:Bool} (hF:jN fu code=some r):C prog 4 #[v0] w fun v w'=>v=Bo r∧ab H w' []:=by
 unfold jN at hF
 refine aE func4 U ntmps4 U (sq (aB U (nq (sq (mV v0 U (aW U underlying22 U (ai h0) (c9 U U U (nn (al (b:=decide ((code.length:Int) > 1048576)) U (fun e3=>?_) (fun e3=>?_))))))))))
 have hF:=(az e3).symm.trans hF
 refine sq (aB U (nn (aA (aN (v1:=Bo true) results4 U ?_))))
 obtain rfl:=so hF
 exact ⟨U,Z⟩
 have hF:=(ay e3).symm.trans hF
 refine aq (ao ?_)
 obtain ⟨hE,hF⟩:=s5 hF
 refine ae (mV v0 U (ar U call12 (b9 U) (qY (code:=code) Z h0 hE) ?_))
 rintro _ w7 ⟨x2,hG,H7,l7,a3,a4,rfl,a0,a1,Z⟩
 have hF:=hF x2 hG
 refine dS (cs:=#[S0,S0]) U zeroValue26 U Z (fun g8 w9 Z=>bg (vs:=#[a3,a4]) (cs2:=#[a3,a4]) 0 U sizeOf26 U U U (aj (aH (ai a0)) (aj (aH (ai a1)) aK)) Z U (by show 0+2≤2; decide) U (fun j7 Z=>nq ?_))
 obtain ⟨j,g6,hF⟩:=bind_some hF
 refine ae (a7 (cs:=[a3,a4]) U isAgg26 sizeOf26 U (At.bK (de.at (ab.aM 0 Z U)) 0 2) U (ar U call13 (b9 U) (tI (m:=x2) Z a0 a1 g6) ?_))
 rintro _ j8 ⟨ec,a6,o,rfl,Z⟩
 refine mV (.tuple #[o,Bo j.2]) U (dF (v:=o) U U U (dF (v:=Bo j.2) U U U (aV o U (aB U (nq ?_)))))
 obtain ⟨a5,g7,hF⟩:=bind_some hF
 refine ae (a7 (cs:=[a3,a4]) U isAgg26 sizeOf26 U (At.bK (de.at (ab.aM 1 Z U)) 0 2) U ?_)
 obtain ⟨h7,g9,hI,kk,hJ⟩:=Z.borrow
 refine ar U call14 (b9 U) (tM (m:=x2) hI (RP.mono _ a0 (Le.trans a6 g9)) (RP.mono _ a1 (Le.trans a6 g9)) g7) ?_
 rintro _ ks ⟨R,rfl,Z⟩
 have Z:=hJ Z (co ed c0)
 refine mV (.tuple #[R,Bo a5.2]) U (dF (v:=R) U U U (dF (v:=Bo a5.2) U U U (aV R U (aB U (nq (ao ?_))))))
 obtain ⟨b5,bd,hF⟩:=bind_some hF
 obtain ⟨hK,c3⟩:=ca fun f w_=>f 3=Pt g8∧f 4=o∧f 5=Bo j.2∧f 6=R∧f 7=Bo a5.2∧f 40=Bo (b5 || (!j.2))∧ab ec w_ ([oF 73 (ba 122) o j.1,oS 73 (cP 122) R a5.1,box g8 26 #[a3,a4]])
 refine av hK ?_ ?_
 refine ae (mB U (mB U (EF (b:=j.2) (c:=a5.2) U underlying4 U U (mB U (aD (d:=31) (b:=(j.2 != a5.2)) U (fun c4=>?_) (fun c4=>?_))))))
 rw [az c4] at bd
 refine ps U (ps U (ps U (ps U (dU bd U (mB U (aD (d:=37) (b:=b5) U (fun c5=>?_) (fun c5=>?_)))))))
 refine ps U (ps U (aC (v:=Bo (b5 || (!j.2))) U U (fK c5) (nn ?_)))
 have Z:=Z.aU [2,1,2] U
 exact rj c3 ⟨U,U,U,U,U,U,Z⟩
 exact gj (so bd).symm c5
 rw [ay c4] at bd
 obtain ⟨ky,ha,bd⟩:=bind_some bd
 refine mV o U (mV R U ?_)
 obtain ⟨ee,k0,hN,hb,hP⟩:=Z.borrow
 have hc:(rS 73 (ba 122)).rel ee [o] j.1:=cg 1 hb U
 have hf:(rS 73 (ba 122)).rel ee [R] a5.1:=cg 0 hb U
 refine ar U call15 (cu U U) (q6 (a:=j.1) (b:=a5.1) hN hc hf ha) ?_
 rintro _ lo ⟨rfl,Z⟩
 have Z:=hP Z c0
 refine bL U U (dU bd U (mB U (aD (d:=37) (b:=b5) U (fun c6=>?_) (fun c6=>?_))))
 refine ps U (ps U (aC (v:=Bo (b5 || (!j.2))) U U (fK c6) (nn ?_)))
 have Z:=Z.aU [2,1,2] U
 exact rj c3 ⟨U,U,U,U,U,U,Z⟩
 refine mB U (bL U U (aC (v:=Bo (b5 || (!j.2))) U U (fb c6 U) (nn ?_)))
 have Z:=Z.aU [2,1,2] U
 exact rj c3 ⟨U,U,U,U,U,U,Z⟩
 intro f w_ hR
 obtain ⟨e4,e5,hQ,hS,hV,hg,Z⟩:=rk c3 hR
 refine al (b:=(b5 || (!j.2))) hg (fun c7=>?_) (fun c7=>?_)
 have hF:=(az c7).symm.trans hF
 refine ao ?_
 obtain ⟨hh,b2,hF⟩:=bind_some hF
 obtain ⟨hW,c8⟩:=ca fun f w_=>f 2=Bo hh∧ab ec w_ ([])
 refine av hW ?_ ?_
 refine ae (mF hQ U (mF hV U (EM (b:=j.2) (c:=a5.2) U underlying4 U U (mB U (aD (d:=44) (b:=(j.2 == a5.2)) U (fun dd=>?_) (fun dd=>?_))))))
 rw [az dd] at b2
 obtain ⟨l0,hi,b2⟩:=bind_some b2
 refine mF e5 U (mF hS U ?_)
 obtain ⟨ej,l1,h1,hj,h2⟩:=Z.borrow
 have hk:(rS 73 (ba 122)).rel ej [o] j.1:=cg 0 hj U
 have hl:(rS 73 (ba 122)).rel ej [R] a5.1:=cg 1 hj U
 refine ar U call15 (cu U U) (q6 (a:=j.1) (b:=a5.1) h1 hk hl hi) ?_
 rintro _ l2 ⟨rfl,Z⟩
 have Z:=h2 Z c0
 refine dU b2 U (aB U (nn (rj c8 ⟨U,(ab.aG 0 Z)⟩)))
 rw [ay dd] at b2
 refine ps U (ps U (ps U (dU b2 U (aB U (nn (rj c8 ⟨U,(ab.aG 0 Z)⟩))))))
 intro f w_ hR
 obtain ⟨dg,Z⟩:=rk c8 hR
 refine aA (aN (v1:=Bo hh) results4 dg ?_)
 obtain rfl:=so hF
 exact ⟨U,(ab.down Z (Le.trans l7 a6) c0)⟩
 have hF:=(ay c7).symm.trans hF
 refine aq (ao ?_)
 obtain ⟨b3,hn,hF⟩:=bind_some hF
 refine ae (mF e5 U ?_)
 obtain ⟨ho,l3,h3,h4,h5⟩:=Z.borrow
 have hp:(rS 73 (ba 122)).rel ho [o] j.1:=cg 0 h4 U
 refine ar U call21 (cu U U) (s4 (list:=j.1) (fuel:=2000) h3 hp hn) ?_
 rintro _ l4 ⟨bs,b0,rfl,Z⟩
 have Z:=h5 Z (co lP (co mh c0))
 refine mV (.tuple #[I b3.1,bs,b0]) U (dF (v:=I b3.1) U U U (dF (v:=bs) U U U (dF (v:=b0) U U U (aI U (aV bs U (aV b0 U (nq (sq (mI U (bD U U U (nn (al (b:=(b3.1 == 1)) U (fun dj=>?_) (fun dj=>?_)))))))))))))
 have hF:=(az dj).symm.trans hF
 refine ao ?_
 obtain ⟨b4,fa,hF⟩:=bind_some hF
 refine ae (a7 (cs:=[a3,a4]) U isAgg26 sizeOf26 e4 (At.bK (de.at (ab.aM 4 Z U)) 0 2) U (mV bs U ?_))
 obtain ⟨fo,ek,hq,hr,hs⟩:=Z.borrow
 have fs:(rS 4 RP.bool).rel fo [bs] b3.2.1:=cg 0 hr U
 refine ar U call22 (cu U U) (sM (m:=x2) (values:=b3.2.1) hq (RP.mono _ a0 (Le.trans a6 ek)) (RP.mono _ a1 (Le.trans a6 ek)) fs fa) ?_
 rintro _ h8 ⟨an,rfl,Z⟩
 have Z:=hs Z (co bk c0)
 refine mV (.tuple #[an,Bo b4.2]) U (dF (v:=an) U U U (dF (v:=Bo b4.2) U U U (aV an U (aB U (nq ?_)))))
 obtain ⟨en,a2,hF⟩:=bind_some hF
 obtain ⟨ht,b8⟩:=ca fun f w_=>f 2=Bo en∧ab ec w_ ([])
 refine av ht ?_ ?_
 refine ae (mB U (mB U (aD (d:=64) (b:=b4.2) U (fun ch=>?_) (fun ch=>?_))))
 rw [az ch] at a2
 obtain ⟨h9,gd,a2⟩:=bind_some a2
 refine a7 (cs:=[a3,a4]) U isAgg26 sizeOf26 e4 (At.bK (de.at (ab.aM 5 Z U)) 0 2) U (mV an U ?_)
 obtain ⟨g0,et,hv,hx,hy⟩:=Z.borrow
 have g1:(rS 3 RP.int).rel g0 [an] b4.1:=cg 0 hx U
 refine ar U call23 (cu U U) (tK (m:=x2) (cells:=b4.1) hv (RP.mono _ a0 (Le.trans a6 et)) (RP.mono _ a1 (Le.trans a6 et)) g1 gd) ?_
 rintro _ ih ⟨rfl,Z⟩
 have Z:=hy Z c0
 refine dU a2 U (aB U (nn (rj b8 ⟨U,(ab.aG 0 Z)⟩)))
 rw [ay ch] at a2
 refine ps U (ps U (ps U (dU a2 U (aB U (nn (rj b8 ⟨U,(ab.aG 0 Z)⟩))))))
 intro f w_ hR
 obtain ⟨dg,Z⟩:=rk b8 hR
 refine aA (aN (v1:=Bo en) results4 dg ?_)
 obtain rfl:=so hF
 exact ⟨U,(ab.down Z (Le.trans l7 a6) c0)⟩
 have hF:=(ay dj).symm.trans hF
 refine aq (ao ?_)
 obtain ⟨eu,J,hF⟩:=bind_some hF
 obtain ⟨hz,b1⟩:=ca fun f w_=>f 2=Bo eu∧ab ec w_ ([])
 refine av hz ?_ ?_
 refine ae (mI U (bD U U U (mB U (aD (d:=71) (b:=(b3.1 == 0)) U (fun cn=>?_) (fun cn=>?_)))))
 rw [az cn] at J
 refine ps U (ps U (ps U (ps U (ps U (ps U (ps U (ps U (ps U (ps U (ps U (ps U (dU J U (aB U (nn (rj b1 ⟨U,(ab.aG 0 Z)⟩)))))))))))))))
 rw [ay cn] at J
 obtain ⟨e0,ag,J⟩:=bind_some J
 obtain ⟨jn,af,J⟩:=bind_some J
 refine mI U (bD U U U (mB U (aD (d:=74) (b:=(b3.1 == 2)) U (fun cp=>?_) (fun cp=>?_))))
 rw [az cp] at ag
 obtain ⟨j1,g2,ag⟩:=bind_some ag
 refine a7 (cs:=[a3,a4]) U isAgg26 sizeOf26 e4 (At.bK (de.at (ab.aM 4 Z U)) 0 2) U ?_
 obtain ⟨h6,e1,hA,j2,hB⟩:=Z.borrow
 refine ar U call17 (b9 U) (vy (m:=x2) hA (RP.mono _ a0 (Le.trans a6 e1)) (RP.mono _ a1 (Le.trans a6 e1)) g2) ?_
 rintro _ j3 ⟨rfl,Z⟩
 have Z:=hB Z c0
 refine bD U U U (dU ag U (mB U (aD (d:=79) (b:=e0) U (fun c1=>?_) (fun c1=>?_))))
 rw [az c1] at af
 obtain ⟨j4,g3,af⟩:=bind_some af
 refine mF e5 U (mV b0 U ?_)
 obtain ⟨ds,j5,hC,e2,hD⟩:=Z.borrow
 have g4:(rS 73 (ba 122)).rel ds [o] j.1:=cg 2 e2 U
 have g5:(rS 158 (wo 122)).rel ds [b0] b3.2.2:=cg 1 e2 U
 refine ar U call24 (cu U U) (qX (list:=j.1) (steps:=b3.2.2) hC g4 g5 g3) ?_
 rintro _ j6 ⟨rfl,Z⟩
 have Z:=hD Z c0
 refine dU af U (dU J U (aB U (nn (rj b1 ⟨U,(ab.aG 0 Z)⟩))))
 rw [ay c1] at af
 refine ps U (ps U (ps U (dU af U (dU J U (aB U (nn (rj b1 ⟨U,(ab.aG 0 Z)⟩)))))))
 rw [ay cp] at ag
 refine ps U (ps U (ps U (dU ag U (mB U (aD (d:=79) (b:=e0) U (fun c2=>?_) (fun c2=>?_))))))
 exact gj c2 (so ag).symm
 rw [ay c2] at af
 refine ps U (ps U (ps U (dU af U (dU J U (aB U (nn (rj b1 ⟨U,(ab.aG 0 Z)⟩)))))))
 intro f w_ hR
 obtain ⟨dg,Z⟩:=rk b1 hR
 refine aA (aN (v1:=Bo eu) results4 dg ?_)
 obtain rfl:=so hF
 exact ⟨U,(ab.down Z (Le.trans l7 a6) c0)⟩
end Go.Proofs.YtbjllamkfmejlaaGreat

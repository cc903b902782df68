/- Part of a proof by program: W4. -/
import Derived.Test.YtbjllamkfmejlaaGreatD1
import Derived.Test.YtbjllamkfmejlaaGreatW3
namespace Go.Proofs.YtbjllamkfmejlaaGreat
open Go Go.E Go.L Go.RowKit
open Tryz hiding bits_Len
set_option linter.unusedVariables false
set_option linter.unusedSimpArgs false
set_option maxRecDepth 100000
theorem fp {s:List Con} {v0:Value} {H:FH} {w:World} {R:List Ass} (Z:ab H w R) (h0:(rS 73 (ba 122)).rel H [v0] s) {r:List Con} (hF:cz s=some r):C prog 65 #[v0] w fun v w'=>∃ H':FH,Le H H'∧∃ (u1:Value),v=u1∧ab H' w' (oF 73 (ba 122) u1 r :: R):=by
 unfold cz at hF
 refine aE func65 U ntmps65 U (sq (aV S0 U (nq (sq (mV v0 U ?_)))))
 obtain ⟨a1,ag,o,_,_⟩:=(ai h0)
 refine xC (a:=a1) U underlying28 (Eq.trans U o) U ?_
 rw [← o]
 refine nn ?_
 rcases Bool.eq_false_or_eq_true (ta v0) with j | j
 refine al (b:=true) (Eq.trans U (congrArg Value.bool j)) (fun _=>?_) (fun h=>nomatch h)
 obtain rfl:=zS h0 j
 refine sq (aV S0 U (nn (aA (aN (v1:=S0) results65 U ?_))))
 simp [app] at hF
 subst hF
 have Z:=ab.bE (R:=(OR.bu (ba 122))) (e:=73) Z
 exact ⟨H,(Le.refl _),S0,U,Z⟩
 refine al (b:=false) (Eq.trans U (congrArg Value.bool j)) (fun h=>nomatch h) (fun _=>?_)
 refine aq (ao ?_)
 obtain ⟨x7,J,hF⟩:=bind_some hF
 refine ae (cS U cC (qw  ) Z (fun af an Z=>?_))
 have Z:=ab.bS (R:=(OR.bu (ba 122))) [] [] 0 Z U U U (by decide)
 refine mV v0 U (qZ (v:=(Sl af 0 0)) (u:=v0) U nU U U Z h0 J (fun I a0 Z=>aV I U (nn (aA (aN (v1:=I) results65 U ?_)))))
 obtain rfl:=so hF
 exact ⟨H,(Le.refl _),I,U,Z⟩
theorem xo {p:List Int} {v0:Value} {H:FH} {w:World} (Z:ab H w []) (h0:(rS 3 RP.int).rel H [v0] p) {r:(List Bool) × Int × Bool} (hF:mQ p=some r):C prog 118 #[v0] w fun v w'=>∃ (u1:Value),v=.tuple #[u1,I r.2.1,Bo r.2.2]∧ab H w' [oF 4 RP.bool u1 r.1]:=by
 unfold mQ at hF
 refine aE func118 U ntmps118 U (sq (aV S0 U (aI U (aB U (ns (aV S0 U (nq (sq (mV v0 U (aW U underlying23 U (ai h0) (mI U (nn ?_))))))))))))
 have bs:List.length p≤9223372036854775807:=bB (ai h0)
 obtain ⟨j4,a0,hF⟩:=bind_some hF
 obtain ⟨R4,b3⟩:=ca fun f w_=>∃ J:List Bool,∃ o,j4=.nx J∧f 5=o∧ab H w_ ([oF 4 RP.bool o J])
 refine av R4 ?_ ?_
 refine ak ?_
 obtain ⟨I4,b0⟩:=ff fun n f w_=>∃ an:Nat,∃ af:List Int,∃ J:List Bool,∃ o,n=af.length∧List.drop an p=af∧an+af.length=p.length∧aw gW af an J=some j4∧f 5=o∧f 8=v0∧f 9=I (p.length:Int)∧f 10=I an∧ab H w_ ([oF 4 RP.bool o J])
 have Z:=ab.bE (R:=(OR.bu RP.bool)) (e:=4) Z
 refine a8 I4 (n:=p.length) ?_ ?_
 exact ij b0 ⟨0,p,[],S0,U,U,Nat.zero_add _,a0,U,U,U,U,Z⟩
 intro n4 f w_ hI
 obtain ⟨an,af,J,o,rfl,b4,a6,a0,bd,b5,b8,a3,Z⟩:=ik b0 hI
 refine sq (bh U a3 b8 (nq (al (b:=decide ((an:Int)<(p.length:Int))) U (fun b1=>?_) (fun b1=>?_))))
 have ch:=of_decide_eq_true b1
 rcases af with _ | ⟨a1,a4⟩
 exact absurd ch (by simp at a6; omega)
 obtain ⟨o4,ag,a0⟩:=aJ a0
 rw [gW] at ag
 have cn:=aY b4
 refine aq (ao (ak (sq (mF a3 U (bP (r:=RP.int) U underlying23 sizeOf3 b5 h0 a3 cn (fun c5 c6 c2 a2 b2=>?_))))))
 obtain rfl:_=[_]:=a2
 refine bt U isAgg3 U (At.cell (dn.at b2 Z.sub) (j:=0) U) (aI U (aI U (nq (sq (mI U (bD U U U (nn (al (b:=(a1 == 0)) U (fun a5=>?_) (fun a5=>?_)))))))))
 have ag:=(az a5).symm.trans ag
 refine sq (mI U (bf U U U (aV S0 U (aI U (aB U (nn (aA (wy (v1:=S0) (v2:=I (i64 ((an:Int)+1))) (v3:=Bo false) results118 U U U ?_))))))))
 obtain rfl:=so ag
 obtain rfl:=so a0
 obtain rfl:=so hF
 have Z:=ab.bE (R:=(OR.bu RP.bool)) (e:=4) Z
 exact ⟨S0,U,(ab.aG 1 Z)⟩
 have ag:=(ay a5).symm.trans ag
 refine aq ?_
 obtain ⟨c3,cp,ag⟩:=bind_some ag
 refine ae (mF bd U (mI U (c9 U U U (cS U (bG U) (wV (Bo (decide (a1 > 0))) U) Z (fun c4 c7 Z=>?_)))))
 have Z:=ab.dr (r:=RP.bool) (cs:=[Bo (decide (a1 > 0))]) (x:=(decide (a1 > 0))) Z U
 have Z:=ab.bS (R:=(OR.bu RP.bool)) [([Bo (decide (a1 > 0))],decide (a1 > 0))] [decide (a1 > 0)] 1 Z U U U (by decide)
 have Z:=Z.get 1 U
 refine cj (v:=o) (u:=(Sl c4 1 1)) U Cm U U Z cp (fun c1 c8 Z=>aV c1 U (nn (ae (bf U a3 U (mI U (nn ?_))))))
 obtain rfl:=so ag
 show ∃ m,m<_∧I4 m _ _
 refine ⟨a4.length,by simp,?_⟩
 exact ij b0 ⟨an+1,a4,c3,c1,U,aL b4,by simp at a6; omega,a0,U,b5,b8,((eI (aO (n:=p.length) (by simp at a6; omega) bs))),Z⟩
 rcases af with _ | ⟨_,_⟩
 obtain rfl:=aT a0
 refine a9 (rj b3 ⟨J,o,U,bd,Z⟩)
 exact absurd (of_decide_eq_false b1) (by simp at a6; omega)
 intro f w_ hR
 obtain ⟨J,o,rfl,bd,Z⟩:=rk b3 hR
 refine sq (mF bd U (aV o U (aI U (aB U (nn (aA (wy (v1:=o) (v2:=I 0) (v3:=Bo true) results118 U U U ?_)))))))
 obtain rfl:=so hF
 exact ⟨o,U,Z⟩
theorem om {s:List Term} {v0:Value} {H:FH} {w:World} (Z:ab H w []) (h0:(rS 122 au).rel H [v0] s) {r:List Term} (hF:eW s=some r):C prog 191 #[v0] w fun v w'=>∃ (u1:Value),v=u1∧ab H w' [oF 122 au u1 r]:=by
 unfold eW at hF
 refine aE func191 U ntmps191 U (sq (aV S0 U (nq (sq (mV v0 U ?_)))))
 obtain ⟨a1,ag,o,_,_⟩:=(ai h0)
 refine xC (a:=a1) U underlying71 (Eq.trans U o) U ?_
 rw [← o]
 refine nn ?_
 rcases Bool.eq_false_or_eq_true (ta v0) with j | j
 refine al (b:=true) (Eq.trans U (congrArg Value.bool j)) (fun _=>?_) (fun h=>nomatch h)
 obtain rfl:=zS h0 j
 refine sq (aV S0 U (nn (aA (aN (v1:=S0) results191 U ?_))))
 simp [app] at hF
 subst hF
 have Z:=ab.bE (R:=(OR.bu au)) (e:=122) Z
 exact ⟨S0,U,Z⟩
 refine al (b:=false) (Eq.trans U (congrArg Value.bool j)) (fun h=>nomatch h) (fun _=>?_)
 refine aq (ao ?_)
 obtain ⟨x7,J,hF⟩:=bind_some hF
 refine ae (cS U cC (D5  ) Z (fun af an Z=>?_))
 have Z:=ab.bS (R:=(OR.bu au)) [] [] 0 Z U U U (by decide)
 refine mV v0 U (qZ (v:=(Sl af 0 0)) (u:=v0) U lN U U Z h0 J (fun I a0 Z=>aV I U (nn (aA (aN (v1:=I) results191 U ?_)))))
 obtain rfl:=so hF
 exact ⟨I,U,Z⟩
theorem mZ {c:Con} {v0_0:Value} {H:FH} {w:World} (Z:ab H w []) (h0_0:(rS 122 au).rel H [v0_0] c.terms) {r:Con} (hF:eZ c=some r):C prog 159 #[.agg #[v0_0,I c.bound]] w fun v w'=>∃ (u1:Value),v=.agg #[u1,I r.bound]∧ab H w' [oF 122 au u1 r.terms]:=by
 unfold eZ at hF
 refine aE func159 U ntmps159 U (sq (cr (v:=.agg #[v0_0,I c.bound]) (cs:=#[v0_0,I c.bound]) U U U Z (fun g5 w6 Z=>dS (cs:=#[S0,I 0]) U zeroValue73 U Z (fun g7 w8 Z=>nq ?_))))
 obtain ⟨an,o,hF⟩:=bind_some hF
 refine ae (fA 0 ck U U (bw 1 Z isAgg71 U U U ?_))
 obtain ⟨ag,J,R,a0,af⟩:=Z.borrow
 refine ar U call191 (b9 U) (om (s:=c.terms) R (RP.mono _ h0_0 J) o) ?_
 rintro j a1 ⟨_,rfl,Z⟩
 have Z:=af Z (co bI c0)
 refine fA 0 ck U U (ei (v:=j) (cs2:=#[j,I c.bound]) 2 U sizeOf71 U U (aH (ab.len 0 Z U)) Z U U U (fun a2 Z=>ns (a7 (cs:=[j,I c.bound]) U isAgg73 sizeOf73 U (At.bK (de.at (ab.aM 0 Z U)) 0 2) U (bg (vs:=#[j,I c.bound]) (cs2:=#[j,I c.bound]) 2 U sizeOf73 U U U (aj (aH (ab.len 1 Z U)) (aj U aK)) Z U (by show 0+2≤2; decide) U (fun a3 Z=>nn (aA (aN (v1:=.agg #[j,I c.bound]) results159 (bC isAgg73 sizeOf73 U (ab.aM 0 Z U) U) ?_)))))))
 obtain rfl:=so hF
 have Z:=Z.get 2 U
 exact ⟨j,U,(ab.aG 1 Z)⟩
theorem rz {fu:Nat} {s:Srch} {decisions:List Int} {g_0:Nat} {v0_0:Value} {v0_2:Value} {v1:Value} {H:FH} {w:World} {R:List Ass} (Z:ab H w (box g_0 94 #[v0_0,I s.fuel,v0_2,Bo s.much] :: oF 73 (ba 122) v0_0 s.list :: oS 158 (eG 122) v0_2 s.steps :: R)) (h1:(rS 3 RP.int).rel H [v1] decisions) {r:(List Con) × (List Step)} (hF:im fu s decisions=some r):C prog 119 #[Pt g_0,v1] w fun v w'=>∃ H':FH,Le H H'∧∃ (u1:Value) (u2:Value),v=.tuple #[]∧ab H' w' (box g_0 94 #[u1,I s.fuel,u2,Bo s.much] :: oF 73 (ba 122) u1 r.1 :: oS 158 (eG 122) u2 r.2 :: R):=by
 unfold im at hF
 refine aE func119 U ntmps119 U (sq (aV S0 U (nq (sq (mV v1 U (aW U underlying23 U (ai h1) (mI U (nn ?_))))))))
 have dj:List.length decisions≤9223372036854775807:=bB (ai h1)
 obtain ⟨j4,cn,hF⟩:=bind_some hF
 obtain ⟨R4,ej⟩:=ca fun f w_=>∃ an:List Int,∃ J,j4=.nx an∧f 0=Pt g_0∧f 4=J∧ab H w_ (oF 3 RP.int J an :: oF 73 (ba 122) v0_0 s.list :: oS 158 (eG 122) v0_2 s.steps :: box g_0 94 #[v0_0,I s.fuel,v0_2,Bo s.much] :: R)
 refine av R4 ?_ ?_
 refine ak ?_
 obtain ⟨I4,ds⟩:=ff fun n f w_=>∃ b2:Nat,∃ a3:List Int,∃ an:List Int,∃ J,n=a3.length∧List.drop b2 decisions=a3∧b2+a3.length=decisions.length∧aw hT a3 b2 an=some j4∧f 0=Pt g_0∧f 4=J∧f 9=v1∧f 10=I (decisions.length:Int)∧f 11=I b2∧ab H w_ (oF 3 RP.int J an :: oF 73 (ba 122) v0_0 s.list :: oS 158 (eG 122) v0_2 s.steps :: box g_0 94 #[v0_0,I s.fuel,v0_2,Bo s.much] :: R)
 have Z:=ab.bE (R:=(OR.bu RP.int)) (e:=3) Z
 have Z:=Z.aU [1,3,3,3] U
 refine a8 I4 (n:=decisions.length) ?_ ?_
 exact ij ds ⟨0,decisions,[],S0,U,U,Nat.zero_add _,cn,U,U,U,U,U,Z⟩
 intro n4 f w_ hI
 obtain ⟨b2,a3,an,J,rfl,ek,c6,cn,b3,c7,en,dg,c1,Z⟩:=ik ds hI
 refine sq (bh U c1 dg (nq (al (b:=decide ((b2:Int)<(decisions.length:Int))) U (fun ec=>?_) (fun ec=>?_))))
 have et:=of_decide_eq_true ec
 rcases a3 with _ | ⟨cp,c2⟩
 exact absurd et (by simp at c6; omega)
 obtain ⟨o4,c8,cn⟩:=aJ cn
 rw [hT] at c8
 have eu:=aY ek
 refine aq (ao (ak (sq (bP (r:=RP.int) U underlying23 sizeOf3 en h1 c1 eu (fun hr hs g5 b4 ee=>?_)))))
 obtain rfl:_=[_]:=b4
 refine bt U isAgg3 U (At.cell (dn.at ee Z.sub) (j:=0) U) (aI U (nn ?_))
 obtain ⟨g7,e0,c8⟩:=bind_some c8
 refine ae (mF c7 U (mI U (kg U U (cS U (bG U) (dp (I (i64 (-cp))) U) Z (fun g8 ht Z=>?_)))))
 have Z:=ab.dr (r:=RP.int) (cs:=[I (i64 (-cp))]) (x:=(i64 (-cp))) Z U
 have Z:=ab.bS (R:=(OR.bu RP.int)) [([I (i64 (-cp))],i64 (-cp))] [i64 (-cp)] 1 Z U U U (by decide)
 have Z:=Z.get 1 U
 refine cj (v:=J) (u:=(Sl g8 1 1)) U eb U U Z e0 (fun e1 hv Z=>aV e1 U (nn (ae (bf U c1 U (mI U (nn ?_))))))
 obtain rfl:=so c8
 show ∃ m,m<_∧I4 m _ _
 refine ⟨c2.length,by simp,?_⟩
 exact ij ds ⟨b2+1,c2,g7,e1,U,aL ek,by simp at c6; omega,cn,b3,U,en,dg,((eI (aO (n:=decisions.length) (by simp at c6; omega) dj))),Z⟩
 rcases a3 with _ | ⟨_,_⟩
 obtain rfl:=aT cn
 refine a9 (rj ej ⟨an,J,U,b3,c7,Z⟩)
 exact absurd (of_decide_eq_false ec) (by simp at c6; omega)
 intro f w_ hR
 obtain ⟨an,J,rfl,b3,c7,Z⟩:=rk ej hR
 refine ao ?_
 obtain ⟨af,e2,hF⟩:=bind_some hF
 refine ae (mF c7 U ?_)
 obtain ⟨e3,hx,g9,ha,hb⟩:=Z.borrow
 have e4:(rS 3 RP.int).rel e3 [J] an:=cg 0 ha U
 refine ar U call48 (b9 U) (pc (lits:=an) g9 e4 e2) ?_
 rintro _ hy ⟨o,rfl,Z⟩
 have Z:=hb Z (co bI c0)
 refine mV (.tuple #[.agg #[o,I af.1.bound],Bo af.2]) U (dF (v:=.agg #[o,I af.1.bound]) U U U (dF (v:=Bo af.2) U U U (dS (cs:=#[S0,I 0]) U zeroValue73 U Z (fun a2 hz Z=>bg (vs:=#[o,I af.1.bound]) (cs2:=#[o,I af.1.bound]) 0 U sizeOf73 U U U (aj (aH (ab.len 1 Z U)) (aj U aK)) Z U (by show 0+2≤2; decide) U (fun hA Z=>aB U (nq ?_))))))
 have Z:=Z.get 1 U
 obtain ⟨hc,hf,Z,b5⟩:=ab.freeze Z
 have b5:(rS 122 au).rel hc [o] af.1.terms:=b5
 obtain ⟨a4,e5,hF⟩:=bind_some hF
 have Z:=ab.drop 1 Z U
 have Z:=Z.aU [1,3,3,3] U
 refine cv 8 [Pt g_0,Pt g_0,Pt g_0,Pt g_0,v0_0,Value.agg #[o,I af.1.bound],none,none] [box a2 73 #[o,I af.1.bound],oS 158 (eG 122) v0_2 s.steps,box g_0 94 #[v0_0,I s.fuel,v0_2,Bo s.much]] [.base (oF 73 (ba 122) v0_0 s.list) (some 7),.made 6 32 (fun v_=>oF 73 (ba 122) v_ ([af.1])) (some 7),.made 7 33 (fun v_=>oF 73 (ba 122) v_ a4) none] (R) [([],[]),([],[]),([],[]),([],[]),([],[]),([],[]),([],[1]),([0,1],[2])] (S:=[(none,[],some 7),(some 6,[32],some 7),(some 7,[33],none)]) aP (by kernel_rfl) U (by kernel_rfl) Z ?_ (fun f w_ dd b0 b1 fa Z=>?_)
 refine aa (fun f w_ _ _ s _ _ Z=>mF ((s 0 U).trans b3) U (nO U U Z)) (aa (fun f w_ _ _ s _ _ Z=>mF ((s 0 U).trans b3) U (nO U U Z)) (aa (fun f w_ _ _ _ _ p Z=>hH U (p 1 27 U U) (nO U U Z)) (aa (fun f w_ _ _ _ _ p Z=>fA 0 xf (p 2 28 U U) U (nO U U Z)) (aa (fun f w_ _ _ _ _ p Z=>bw 2 Z isAgg28 (p 3 29 U U) U U (nO U U Z)) (aa (fun f w_ _ _ s _ _ Z=>a7 (cs:=[o,I af.1.bound]) U isAgg73 sizeOf73 ((s 7 U).trans U) (At.bK (de.at (ab.aM 0 Z U)) 0 2) U (nO U U Z)) (aa ?_ ?_))))))
 intro f w_ dd fo b0 b1 c3 Z
 refine cS U (bG (c3 5 31 U U)) (iO (o) (I af.1.bound) ) Z (fun hB hC Z=>?_)
 have Z:=ab.dr (r:=(ba 122)) (cs:=[o,I af.1.bound]) (x:=af.1) Z (dR.2 ⟨_,U,(RP.mono _ b5 b1)⟩)
 have Z:=ab.bS (R:=(OR.bu (ba 122))) [([o,I af.1.bound],af.1)] [af.1] 1 Z U U U (by decide)
 have Z:=Z.aU [3,3,3] U
 exact ax ⟨U,_,_,U,Le.refl _,fun _ _=>trivial,Z⟩
 refine aa ?_ ?_
 intro f w_ dd fo b0 b1 c3 Z
 have Z:ab dd w_ (box a2 73 #[o,I af.1.bound] :: oS 158 (eG 122) v0_2 s.steps :: box g_0 94 #[v0_0,I s.fuel,v0_2,Bo s.much] :: oF 73 (ba 122) v0_0 s.list :: oF 73 (ba 122) (f 32) ([af.1]) :: fo):=Z
 have Z:=Z.aU [4,4] U
 refine cj (v:=v0_0) (u:=(f 32)) U nU (c3 4 30 U U) U Z e5 (fun hD hE Z=>?_)
 have Z:=Z.aU [3,3,3] U
 exact ax ⟨U,_,_,U,Le.refl _,fun _ _=>trivial,Z⟩
 exact aQ
 have Z:ab dd w_ (box a2 73 #[o,I af.1.bound] :: oS 158 (eG 122) v0_2 s.steps :: box g_0 94 #[v0_0,I s.fuel,v0_2,Bo s.much] :: oF 73 (ba 122) (f 33) a4 :: R):=Z
 refine hH U (fa 0 26 U U) (fA 0 xf U U (ei (v:=(f 33)) (cs2:=#[(f 33),I s.fuel,v0_2,Bo s.much]) 2 U sizeOf28 U U (aH (ab.len 3 Z U)) Z U U U (fun hG Z=>nn ?_)))
 obtain ⟨a0,fs,hF⟩:=bind_some hF
 obtain ⟨gd,g0,hF⟩:=bind_some hF
 rename Fr=>ag
 have Z:=Z.aU [2,3,3,3] U
 refine bT 10 [aZ (Pt g_0),aZ (Pt g_0),aZ (Pt g_0),aZ (Pq g_0 2),aZ (v0_2),aZ (.agg #[o,I af.1.bound]),xW fun hg=>aZ (.agg #[hg,I a0.bound]),xW fun hh=>aZ (.agg #[I 7,I 0,I 0,hh,I a0.bound]),gE,gE] [box g_0 94 #[(ag 33),I s.fuel,v0_2,Bo s.much],box a2 73 #[o,I af.1.bound],oF 73 (ba 122) (ag 33) a4] [.base (oS 158 (eG 122) v0_2 s.steps) (some 9),.made 6 42 (fun v_=>oF 122 au (dm v_ 0) a0.terms) (some 7),.made 7 43 (fun v_=>oF 122 au (dm v_ 3) a0.terms) (some 8),.made 8 44 (fun v_=>oS 158 (eG 122) v_ ([({ kind:=7,a:=0,b:=0,given:=a0 }:Step)])) (some 9),.made 9 45 (fun v_=>oS 158 (eG 122) v_ gd) none] (R) [([],[]),([],[]),([],[]),([],[]),([],[]),([],[]),([],[1]),([1],[2]),([2],[3]),([0,3],[4])] (S:=[(none,[],some 9),(some 6,[42],some 7),(some 7,[43],some 8),(some 8,[44],some 9),(some 9,[45],none)]) aP (by kernel_rfl) U (by kernel_rfl) (ad (ah _) (ad (ah _) (ad (ah _) (ad (ah _) (ad (ah _) (ad (ah _) (ad (fh fun _=>ah _) (ad (fh fun _=>ah _) (ad (bO) (ad (bO) bV)))))))))) Z ?_ (fun f w_ a1 b8 bd g1 Z=>?_)
 refine aa (fun f w_ _ _ s _ _ Z=>mF ((s 0 U).trans ((b0 0 U).trans b3)) U (nO U U Z)) (aa (fun f w_ _ _ s _ _ Z=>mF ((s 0 U).trans ((b0 0 U).trans b3)) U (nO U U Z)) (aa (fun f w_ _ _ _ _ p Z=>hH U (p 1 37 U U) (nO U U Z)) (aa (fun f w_ _ _ _ _ p Z=>fA 2 si (p 2 38 U U) U (nO U U Z)) (aa (fun f w_ _ _ _ _ p Z=>bw 0 Z isAgg42 (p 3 39 U U) U U (nO U U Z)) (aa (fun f w_ _ _ s _ _ Z=>a7 (cs:=[o,I af.1.bound]) U isAgg73 sizeOf73 ((s 7 U).trans ((b0 7 U).trans U)) (At.bK (de.at (ab.aM 1 Z U)) 0 2) U (nO U U Z)) (aa ?_ ?_))))))
 intro f w_ a1 a6 b8 bd a5 Z
 obtain ⟨hi,g2,g3,hj,g4⟩:=Z.borrow
 refine ar U call159 (b9 (a5 5 41 U U)) (mZ (c:=af.1) g3 (RP.mono _ b5 (Le.trans (Le.trans b1 bd) g2)) fs) ?_
 rintro _ hk ⟨g6,rfl,Z⟩
 have Z:=g4 Z (co bI c0)
 have Z:=Z.aU [3,3,3] U
 exact ax ⟨U,_,_,U,Le.refl _,fun _ _=>⟨_,U⟩,Z⟩
 refine aa ?_ ?_
 intro f w_ a1 a6 b8 bd a5 Z
 have Z:ab a1 w_ (box g_0 94 #[(ag 33),I s.fuel,v0_2,Bo s.much] :: box a2 73 #[o,I af.1.bound] :: oF 73 (ba 122) (ag 33) a4 :: own (OR.bq 122 (OR.bu au)) [(dm (f 42) 0)] a0.terms :: a6):=Z
 obtain ⟨ch,c4⟩:=(a5 6 42 U U)
 have hren:ab a1 w_ (box g_0 94 #[(ag 33),I s.fuel,v0_2,Bo s.much] :: box a2 73 #[o,I af.1.bound] :: oF 73 (ba 122) (ag 33) a4 :: own (OR.bq 122 (OR.bu au)) [(dm (f 42) 0)] a0.terms :: a6):=Z
 rw [c4] at hren
 have Z:ab a1 w_ (box g_0 94 #[(ag 33),I s.fuel,v0_2,Bo s.much] :: box a2 73 #[o,I af.1.bound] :: oF 73 (ba 122) (ag 33) a4 :: oF 122 au ch a0.terms :: a6):=hren
 refine da U (iB U c4) (vU (I 7) (ch) (I a0.bound) U) (ax ⟨U,_,_,U,Le.refl _,fun _ _=>⟨_,U⟩,Z⟩)
 refine aa ?_ ?_
 intro f w_ a1 a6 b8 bd a5 Z
 have Z:ab a1 w_ (box g_0 94 #[(ag 33),I s.fuel,v0_2,Bo s.much] :: box a2 73 #[o,I af.1.bound] :: oF 73 (ba 122) (ag 33) a4 :: own (OR.bq 122 (OR.bu au)) [(dm (f 43) 3)] a0.terms :: a6):=Z
 obtain ⟨bs,c5⟩:=(a5 7 43 U U)
 have hren:ab a1 w_ (box g_0 94 #[(ag 33),I s.fuel,v0_2,Bo s.much] :: box a2 73 #[o,I af.1.bound] :: oF 73 (ba 122) (ag 33) a4 :: own (OR.bq 122 (OR.bu au)) [(dm (f 43) 3)] a0.terms :: a6):=Z
 rw [c5] at hren
 have Z:ab a1 w_ (box g_0 94 #[(ag 33),I s.fuel,v0_2,Bo s.much] :: box a2 73 #[o,I af.1.bound] :: oF 73 (ba 122) (ag 33) a4 :: oF 122 au bs a0.terms :: a6):=hren
 refine cS U (bG c5) (Bk (I 7) (I 0) (I 0) (bs) (I a0.bound) ) Z (fun hl hn Z=>?_)
 have Z:=Z.get 4 U
 have Z:=y6 (s:=({ kind:=7,a:=0,b:=0,given:=a0 }:Step)) Z
 have Z:=ab.bS (R:=(eG 122)) [([I 7,I 0,I 0,bs,I a0.bound],({ kind:=7,a:=0,b:=0,given:=a0 }:Step))] [({ kind:=7,a:=0,b:=0,given:=a0 }:Step)] 1 Z U U U (by decide)
 have Z:=Z.aU [3,3,3] U
 exact ax ⟨U,_,_,U,Le.refl _,fun _ _=>trivial,Z⟩
 refine aa ?_ ?_
 intro f w_ a1 a6 b8 bd a5 Z
 have Z:ab a1 w_ (box g_0 94 #[(ag 33),I s.fuel,v0_2,Bo s.much] :: box a2 73 #[o,I af.1.bound] :: oF 73 (ba 122) (ag 33) a4 :: oS 158 (eG 122) v0_2 s.steps :: oS 158 (eG 122) (f 44) ([({ kind:=7,a:=0,b:=0,given:=a0 }:Step)]) :: a6):=Z
 have Z:=Z.aU [4,4] U
 refine cj (v:=v0_2) (u:=(f 44)) U FB (a5 4 40 U U) U Z g0 (fun ho hp Z=>?_)
 have Z:=Z.aU [3,3,3] U
 exact ax ⟨U,_,_,U,Le.refl _,fun _ _=>trivial,Z⟩
 exact aQ
 have Z:ab a1 w_ (box g_0 94 #[(ag 33),I s.fuel,v0_2,Bo s.much] :: box a2 73 #[o,I af.1.bound] :: oF 73 (ba 122) (ag 33) a4 :: oS 158 (eG 122) (f 45) gd :: R):=Z
 refine hH U (g1 0 36 U U) (fA 2 si U U (ei (v:=(f 45)) (cs2:=#[(ag 33),I s.fuel,(f 45),Bo s.much]) 0 U sizeOf42 U U (aH (ab.len 3 Z U)) Z U U U (fun hq Z=>nn (sW results119 ?_))))
 obtain rfl:=so hF
 have Z:=Z.aU [3,3,2] U
 have Z:=ab.drop 3 Z U
 exact ⟨a1,(Le.trans (Le.trans hf b1) bd),(ag 33),(f 45),U,Z⟩
theorem pF {fu:Nat} {rec_:Srch→(List Int)→Option ((List Bool) × Bool × (List Con) × Int × (List Step) × Bool)} (hrec:∀{s:Srch} {decisions:List Int} {g_0:Nat} {v0_0:Value} {v0_2:Value} {v1:Value} {H:FH} {w:World} {R:List Ass} (Z:ab H w (box g_0 94 #[v0_0,I s.fuel,v0_2,Bo s.much] :: oF 73 (ba 122) v0_0 s.list :: oS 158 (eG 122) v0_2 s.steps :: R)) (h1:(rS 3 RP.int).rel H [v1] decisions) {r:(List Bool) × Bool × (List Con) × Int × (List Step) × Bool} (hF:rec_ s decisions=some r),C prog 66 #[Pt g_0,v1] w fun v w'=>∃ H':FH,Le H H'∧∃ (u1:Value) (u2:Value) (u3:Value),v=.tuple #[u1,Bo r.2.1]∧ab H' w' (oF 4 RP.bool u1 r.1 :: box g_0 94 #[u2,I r.2.2.2.1,u3,Bo r.2.2.2.2.2] :: oF 73 (ba 122) u2 r.2.2.1 :: oS 158 (eG 122) u3 r.2.2.2.2.1 :: R)) {s:Srch} {decisions:List Int} {g_0:Nat} {v0_0:Value} {v0_2:Value} {v1:Value} {H:FH} {w:World} {R:List Ass} (Z:ab H w (box g_0 94 #[v0_0,I s.fuel,v0_2,Bo s.much] :: oF 73 (ba 122) v0_0 s.list :: oS 158 (eG 122) v0_2 s.steps :: R)) (h1:(rS 3 RP.int).rel H [v1] decisions) {r:(List Bool) × Bool × (List Con) × Int × (List Step) × Bool} (hF:fG fu rec_ s decisions=some r):C prog 66 #[Pt g_0,v1] w fun v w'=>∃ H':FH,Le H H'∧∃ (u1:Value) (u2:Value) (u3:Value),v=.tuple #[u1,Bo r.2.1]∧ab H' w' (oF 4 RP.bool u1 r.1 :: box g_0 94 #[u2,I r.2.2.2.1,u3,Bo r.2.2.2.2.2] :: oF 73 (ba 122) u2 r.2.2.1 :: oS 158 (eG 122) u3 r.2.2.2.2.1 :: R):=by
 unfold fG at hF
 refine aE func66 U ntmps66 U (sq (aV S0 U (aB U (nq (ao ?_)))))
 obtain ⟨R1,hD⟩:=ca fun f w_=>f 0=Pt g_0∧f 1=v1∧f 29=Bo ((s.fuel == 0) || (decide ((s.steps.length:Int) ≥ 1000)))∧ab H w_ (oF 73 (ba 122) v0_0 s.list :: oS 158 (eG 122) v0_2 s.steps :: box g_0 94 #[v0_0,I s.fuel,v0_2,Bo s.much] :: R)
 refine av R1 ?_ ?_
 refine ae (mV (Pt g_0) U (hH U U (fA 1 xJ U U (bw 0 Z isAgg3 U U U (bD U U U (mB U (aD (d:=22) (b:=(s.fuel == 0)) U (fun hE=>?_) (fun hE=>?_))))))))
 refine ps U (ps U (ps U (ps U (ps U (ps U (aC (v:=Bo ((s.fuel == 0) || (decide ((s.steps.length:Int) ≥ 1000)))) U U (fK hE) (nn ?_)))))))
 have Z:=Z.aU [2,2] U
 exact rj hD ⟨U,U,U,Z⟩
 refine mV (Pt g_0) U (hH U U (fA 2 si U U (bw 0 Z isAgg42 U U U (aW U underlying42 U (ab.len 2 Z U) (hY U U U (aC (v:=Bo ((s.fuel == 0) || (decide ((s.steps.length:Int) ≥ 1000)))) U U (fb hE U) (nn ?_)))))))
 have Z:=Z.aU [2,2] U
 exact rj hD ⟨U,U,U,Z⟩
 intro f w_ hR
 obtain ⟨a4,a6,h3,Z⟩:=rk hD hR
 refine al (b:=((s.fuel == 0) || (decide ((s.steps.length:Int) ≥ 1000)))) h3 (fun hG=>?_) (fun hG=>?_)
 have hF:=(az hG).symm.trans hF
 refine sq (mF a4 U (hH U U (fA 3 tV U U (ei (v:=Bo true) (cs2:=#[v0_0,I s.fuel,v0_2,Bo true]) 2 U sizeOf4 U U U Z U U U (fun w5 Z=>ns (aV S0 U (aB U (nn (aA (dc (v1:=S0) (v2:=Bo false) results66 U U ?_))))))))))
 obtain rfl:=so hF
 have Z:=ab.bE (R:=(OR.bu RP.bool)) (e:=4) Z
 exact ⟨H,(Le.refl _),S0,v0_0,v0_2,U,Z⟩
 have hF:=(ay hG).symm.trans hF
 refine aq (sq (mF a4 U (hH U U (fA 1 xJ U U (bw 2 Z isAgg3 U U U (db U U U (hH U U (fA 1 xJ U U (ei (v:=I (i64 (s.fuel - 1))) (cs2:=#[v0_0,I (i64 (s.fuel - 1)),v0_2,Bo s.much]) 2 U sizeOf3 U U U Z U U U (fun w8 Z=>nq ?_))))))))))
 obtain ⟨x9,l4,hF⟩:=bind_some hF
 refine ae (xk (R:=(OR.bu RP.int)) (z0:=0) (zc:=[I 0]) U eb (by kernel_rfl) (fun _ _=>⟨U,U⟩) U U l4 Z (fun ej o6 Z=>aV ej U (nq (sq (mF a6 U (aW U underlying23 U (ai h1) (mI U (nn ?_))))))))
 have hj:List.length decisions≤9223372036854775807:=bB (ai h1)
 obtain ⟨h4,dj,hF⟩:=bind_some hF
 obtain ⟨l5,hq⟩:=ca fun f w_=>∃ b5:List Int,h4=.nx b5∧f 0=Pt g_0∧f 1=v1∧f 6=ej∧ab H w_ (oF 3 RP.int ej b5 :: oF 73 (ba 122) v0_0 s.list :: oS 158 (eG 122) v0_2 s.steps :: box g_0 94 #[v0_0,I (i64 (s.fuel - 1)),v0_2,Bo s.much] :: R)
 refine av l5 ?_ ?_
 refine ak ?_
 obtain ⟨h5,g5⟩:=ff fun n f w_=>∃ c4:Nat,∃ ch:List Int,∃ b5:List Int,n=ch.length∧List.drop c4 decisions=ch∧c4+ch.length=decisions.length∧aw fk ch c4 b5=some h4∧f 0=Pt g_0∧f 1=v1∧f 6=ej∧f 41=v1∧f 42=I (decisions.length:Int)∧f 43=I c4∧ab H w_ (oF 3 RP.int ej b5 :: oF 73 (ba 122) v0_0 s.list :: oS 158 (eG 122) v0_2 s.steps :: box g_0 94 #[v0_0,I (i64 (s.fuel - 1)),v0_2,Bo s.much] :: R)
 have Z:=Z.aU [1,3,3,3] U
 refine a8 h5 (n:=decisions.length) ?_ ?_
 exact ij g5 ⟨0,decisions,x9,U,U,Nat.zero_add _,dj,a4,a6,U,U,U,U,Z⟩
 intro o7 f w_ hI
 obtain ⟨c4,ch,b5,rfl,hr,g1,dj,a4,a6,ee,ek,en,ds,Z⟩:=ik g5 hI
 refine sq (bh U ds en (nq (al (b:=decide ((c4:Int)<(decisions.length:Int))) U (fun g6=>?_) (fun g6=>?_))))
 have hJ:=of_decide_eq_true g6
 rcases ch with _ | ⟨hs,g2⟩
 exact absurd hJ (by simp at g1; omega)
 obtain ⟨o8,c5,dj⟩:=aJ dj
 rw [fk] at c5
 have hK:=aY hr
 refine aq (ao (ak (sq (bP (r:=RP.int) U underlying23 sizeOf3 ek h1 ds hK (fun o9 p0 l3 e2 hN=>?_)))))
 obtain rfl:_=[_]:=e2
 refine bt U isAgg3 U (At.cell (dn.at hN Z.sub) (j:=0) U) (aI U (nq ?_))
 obtain ⟨p1,h6,c5⟩:=bind_some c5
 obtain ⟨p2,g7,c5⟩:=bind_some c5
 refine ae (mF ee U (mI U ?_))
 obtain ⟨n6,p3,l7,p4,l8⟩:=Z.borrow
 refine ar U call100 (b9 U) (hX (l:=hs) l7 h6) ?_
 rintro _ p5 ⟨rfl,Z⟩
 have Z:=l8 Z c0
 refine db U U U ?_
 obtain ⟨p6,h7,g3,_,_⟩:=ab.row 0 Z U g7
 refine bJ (R:=(OR.bu RP.int)) (tb:=0) 0 U underlying23 sizeOf3 U g3 (by first | rfl | simp) U g7 ?_
 have Z:=ab.dr (r:=RP.int) (cs:=[I 1]) (x:=1) Z U
 refine fj (u:=I 1) U sizeOf3 U U U g3 Z g7 (fun q0 Z=>?_)
 refine ns (mI U (bh U U U (nn ?_)))
 obtain ⟨ht,c6,c5⟩:=bind_some c5
 obtain ⟨l9,g8⟩:=ca fun f w_=>f 0=Pt g_0∧f 1=v1∧f 6=ej∧f 41=v1∧f 42=I (decisions.length:Int)∧f 43=I c4∧ab H w_ (oF 3 RP.int ej ht :: oF 73 (ba 122) v0_0 s.list :: oS 158 (eG 122) v0_2 s.steps :: box g_0 94 #[v0_0,I (i64 (s.fuel - 1)),v0_2,Bo s.much] :: R)
 refine av l9 ?_ ?_
 refine al (b:=decide (hs<0)) U (fun g9=>?_) (fun g9=>?_)
 have c6:=(az g9).symm.trans c6
 obtain ⟨q1,hv,c6⟩:=bind_some c6
 refine ae (mF ee U (mI U (kg U U (db U U U (bJ (R:=(OR.bu RP.int)) (tb:=0) 0 U underlying23 sizeOf3 U g3 (by first | rfl | simp) U hv ?_)))))
 have Z:=ab.dr (r:=RP.int) (cs:=[I (-1)]) (x:=(-1)) Z U
 refine fj (u:=I (-1)) U sizeOf3 U U U g3 Z hv (fun q2 Z=>?_)
 refine nn ?_
 obtain rfl:=so c6
 exact rj g8 ⟨a4,a6,ee,ek,en,ds,Z⟩
 have c6:=(ay g9).symm.trans c6
 refine aq ?_
 obtain rfl:=so c6
 exact rj g8 ⟨a4,a6,ee,ek,en,ds,Z⟩
 intro f w_ hR
 obtain ⟨a4,a6,ee,ek,en,ds,Z⟩:=rk g8 hR
 refine ae (bf U ds U (mI U (nn ?_)))
 obtain rfl:=so c5
 show ∃ m,m<_∧h5 m _ _
 refine ⟨g2.length,by simp,?_⟩
 exact ij g5 ⟨c4+1,g2,ht,U,aL hr,by simp at g1; omega,dj,a4,a6,ee,ek,en,((eI (aO (n:=decisions.length) (by simp at g1; omega) hj))),Z⟩
 rcases ch with _ | ⟨_,_⟩
 obtain rfl:=aT dj
 refine a9 (rj hq ⟨b5,U,a4,a6,ee,Z⟩)
 exact absurd (of_decide_eq_false g6) (by simp at g1; omega)
 intro f w_ hR
 obtain ⟨b5,rfl,a4,a6,ee,Z⟩:=rk hq hR
 refine ao ?_
 obtain ⟨ha,h8,hF⟩:=bind_some hF
 refine ae (mF a4 U (hH U U (fA 0 xf U U (bw 3 Z isAgg28 U U U (mF ee U ?_)))))
 obtain ⟨hx,q3,mg,h9,m0⟩:=Z.borrow
 have ih:(rS 73 (ba 122)).rel hx [v0_0] s.list:=cg 1 h9 U
 have jn:(rS 3 RP.int).rel hx [ej] b5:=cg 0 h9 U
 refine ar U call56 (cu U U) (rh (list:=s.list) (p:=b5) mg ih jn h8) ?_
 rintro _ q4 ⟨dd,rfl,Z⟩
 have Z:=m0 Z (co bk c0)
 refine mV (.tuple #[dd,I ha.2]) U (dF (v:=dd) U U U (dF (v:=I ha.2) U U U (aV dd U (aI U (nq (sq (mI U (bh U U U (nn ?_)))))))))
 obtain ⟨m1,a3,hF⟩:=bind_some hF
 obtain ⟨m2,hb⟩:=ca fun f w_=>∃ b1:List Con,∃ b2:Int,∃ b3:List Step,∃ b4:Bool,∃ hP,∃ cn cp:Value,m1=.nx (b1,b2,b3,b4)∧Le H hP∧f 0=Pt g_0∧f 1=v1∧ab hP w_ (oF 73 (ba 122) cn b1 :: oS 158 (eG 122) cp b3 :: box g_0 94 #[cn,I b2,cp,Bo b4] :: R)
 refine av m2 ?_ ?_
 refine al (b:=decide (ha.2<0)) U (fun hc=>?_) (fun hc=>?_)
 have a3:=(az hc).symm.trans a3
 refine ao ?_
 obtain ⟨a1,j1,a3⟩:=bind_some a3
 refine ae (mV dd U ?_)
 obtain ⟨j2,q8,n0,n1,n2⟩:=Z.borrow
 have j3:(rS 3 RP.int).rel j2 [dd] ha.1:=cg 0 n1 U
 refine ar U call118 (b9 U) (xo (p:=ha.1) n0 j3 j1) ?_
 rintro _ ra ⟨c1,rfl,Z⟩
 have Z:=n2 Z (co lP c0)
 refine mV (.tuple #[c1,I a1.2.1,Bo a1.2.2]) U (dF (v:=c1) U U U (dF (v:=I a1.2.1) U U U (dF (v:=Bo a1.2.2) U U U (aV c1 U (aI U (aB U (nq (sq (mB U (nn (al (b:=a1.2.2) U (fun e3=>?_) (fun e3=>?_))))))))))))
 have a3:=(az e3).symm.trans a3
 refine sq (mV c1 U (aV c1 U (aB U (nn (aA (dc (v1:=c1) (v2:=Bo true) results66 U U ?_))))))
 obtain rfl:=so a3
 obtain rfl:=so hF
 have Z:=Z.aU [4,4,5,3] U
 have Z:=ab.drop 4 Z U
 have Z:=ab.drop 4 Z U
 exact ⟨H,(Le.refl _),c1,v0_0,v0_2,U,Z⟩
 have a3:=(ay e3).symm.trans a3
 refine aq (ao (sq (mI U (mI U (kg U U (cS U (iB U U) (yl (I a1.2.1) (I (i64 (-a1.2.1))) U U) Z (fun et n7 Z=>?_)))))))
 have Z:=ab.dr (r:=RP.int) (cs:=[I (i64 (-a1.2.1))]) (x:=(i64 (-a1.2.1))) Z U
 have Z:=ab.dr (r:=RP.int) (cs:=[I a1.2.1]) (x:=a1.2.1) Z U
 have Z:=ab.bS (R:=(OR.bu RP.int)) [([I a1.2.1],a1.2.1),([I (i64 (-a1.2.1))],i64 (-a1.2.1))] [a1.2.1,i64 (-a1.2.1)] 2 Z U U U (by decide)
 refine aW U underlying23 U (ab.len 0 Z U) (mI U (nn ?_))
 have hf:List.length ([a1.2.1,i64 (-a1.2.1)])≤9223372036854775807:=bB (ab.len 0 Z U)
 obtain ⟨hy,c2,a3⟩:=bind_some a3
 obtain ⟨j4,hg⟩:=ca fun f w_=>∃ an:List Con,∃ af:Int,∃ ag:List Step,∃ a0:Bool,∃ b8,∃ o J:Value,hy=.nx (an,af,ag,a0)∧Le H b8∧f 0=Pt g_0∧f 1=v1∧ab b8 w_ (oF 73 (ba 122) o an :: oS 158 (eG 122) J ag :: box g_0 94 #[o,I af,J,Bo a0] :: R)
 refine av j4 ?_ ?_
 refine ak ?_
 obtain ⟨hz,e4⟩:=ff fun n f w_=>∃ b0:Nat,∃ bs:List Int,∃ an:List Con,∃ af:Int,∃ ag:List Step,∃ a0:Bool,∃ b8,∃ o J:Value,n=bs.length∧List.drop b0 ([a1.2.1,i64 (-a1.2.1)])=bs∧b0+bs.length=([a1.2.1,i64 (-a1.2.1)]).length∧aw (aS decisions rec_) bs b0 (an,af,ag,a0)=some hy∧Le H b8∧f 0=Pt g_0∧f 1=v1∧f 82=(Sl et 2 2)∧f 83=I (([a1.2.1,i64 (-a1.2.1)]).length:Int)∧f 84=I b0∧ab b8 w_ (oF 3 RP.int (Sl et 2 2) ([a1.2.1,i64 (-a1.2.1)]) :: oF 73 (ba 122) o an :: oS 158 (eG 122) J ag :: box g_0 94 #[o,I af,J,Bo a0] :: R)
 have Z:=Z.aU [6,6,6,3] U
 have Z:=ab.drop 4 Z U
 have Z:=ab.drop 4 Z U
 have Z:=ab.drop 4 Z U
 refine a8 hz (n:=([a1.2.1,i64 (-a1.2.1)]).length) ?_ ?_
 exact ij e4 ⟨0,[a1.2.1,i64 (-a1.2.1)],s.list,i64 (s.fuel - 1),s.steps,s.much,H,v0_0,v0_2,U,U,Nat.zero_add _,c2,(Le.refl _),a4,a6,U,U,U,Z⟩
 intro n8 f w_ hI
 obtain ⟨b0,bs,an,af,ag,a0,b8,o,J,rfl,hh,n3,c2,dg,a4,a6,eu,e0,ec,Z⟩:=ik e4 hI
 refine sq (bh U ec e0 (nq (al (b:=decide ((b0:Int)<(([a1.2.1,i64 (-a1.2.1)]).length:Int))) U (fun e5=>?_) (fun e5=>?_))))
 have hk:=of_decide_eq_true e5
 rcases bs with _ | ⟨c3,e1⟩
 exact absurd hk (by simp only [List.length_cons,List.length_nil] at *; omega)
 obtain ⟨ob,a5,c2⟩:=aJ c2
 rw [aS] at a5
 have g4:=aY hh
 refine aq (ao (ak (sq (bJ (R:=(OR.bu RP.int)) (tb:=0) (g:=et) 0 U underlying23 sizeOf3 eu U (by first | rfl | simp) ec g4 ?_))))
 obtain ⟨n4,hQ,hl⟩:=ab.fE 0 Z U U g4
 obtain rfl:_=[_]:=hQ
 refine bt U isAgg3 U (At.cell hl (j:=0) U) (aI U (nq ?_))
 obtain ⟨oh,hS,a5⟩:=bind_some a5
 obtain ⟨hA,hV,a5⟩:=bind_some a5
 obtain ⟨a2,hW,a5⟩:=bind_some a5
 refine ae (mF a4 U (mF a6 U ?_))
 obtain ⟨n5,j5,j6,oj,j7⟩:=Z.borrow
 refine ar U call62 (b9 U) (eX (s:=decisions) j6 (RP.mono _ h1 (Le.trans dg j5)) hS) ?_
 rintro hn oq ⟨_,rfl,Z⟩
 have Z:=j7 Z (co bk c0)
 refine mI U (cS U (bG U) (dp (I c3) U) Z (fun j8 o0 Z=>?_))
 have Z:=ab.dr (r:=RP.int) (cs:=[I c3]) (x:=c3) Z U
 have Z:=ab.bS (R:=(OR.bu RP.int)) [([I c3],c3)] [c3] 1 Z U U U (by decide)
 have Z:=Z.get 1 U
 refine cj (v:=hn) (u:=(Sl j8 1 1)) U eb U U Z hV (fun kk o1 Z=>?_)
 obtain ⟨ks,hB,Z,fa⟩:=ab.freeze Z
 have fa:(rS 3 RP.int).rel ks [kk] hA:=fa
 have Z:=Z.aU [2,2,3] U
 refine ar U call66 (cu U U) (hrec (s:=({ list:=an,fuel:=af,steps:=ag,much:=a0 }:Srch)) (decisions:=hA) Z fa hW) ?_
 rintro _ o2 ⟨hi,hC,bd,c7,c8,rfl,Z⟩
 refine mV (.tuple #[bd,Bo a2.2.1]) U (dF (v:=bd) U U U (dF (v:=Bo a2.2.1) U U U (aV bd U (aB U (nq ?_)))))
 obtain ⟨ky,fo⟩:=ca fun f w_=>f 0=Pt g_0∧f 1=v1∧f 15=bd∧f 16=Bo a2.2.1∧f 82=(Sl et 2 2)∧f 83=I (([a1.2.1,i64 (-a1.2.1)]).length:Int)∧f 84=I b0∧f 104=Bo (a2.2.1 || a2.2.2.2.2.2)∧ab hi w_ (oF 4 RP.bool bd a2.1 :: oF 3 RP.int (Sl et 2 2) ([a1.2.1,i64 (-a1.2.1)]) :: oF 73 (ba 122) c7 a2.2.2.1 :: oS 158 (eG 122) c8 a2.2.2.2.2.1 :: box g_0 94 #[c7,I a2.2.2.2.1,c8,Bo a2.2.2.2.2.2] :: R)
 refine av ky ?_ ?_
 refine ae (mB U (mB U (aD (d:=99) (b:=a2.2.1) U (fun fs=>?_) (fun fs=>?_))))
 refine ps U (ps U (ps U (ps U (aC (v:=Bo (a2.2.1 || a2.2.2.2.2.2)) U U (fK fs) (nn ?_)))))
 have Z:=Z.aU [1,3,3,4,4] U
 exact rj fo ⟨a4,a6,U,U,eu,e0,ec,U,Z⟩
 refine mF a4 U (hH U U (fA 3 tV U U (bw 1 Z isAgg4 U U U (aC (v:=Bo (a2.2.1 || a2.2.2.2.2.2)) U U (fb fs U) (nn ?_)))))
 have Z:=Z.aU [1,3,3,4,4] U
 exact rj fo ⟨a4,a6,U,U,eu,e0,ec,U,Z⟩
 intro f w_ hR
 obtain ⟨a4,a6,k0,lo,eu,e0,ec,h0,Z⟩:=rk fo hR
 refine al (b:=(a2.2.1 || a2.2.2.2.2.2)) h0 (fun gd=>?_) (fun gd=>?_)
 have a5:=(az gd).symm.trans a5
 refine sq (mF k0 U (mF lo U (aV bd U (aB U (nn (aA (dc (v1:=bd) (v2:=Bo a2.2.1) results66 U U ?_)))))))
 obtain rfl:=so a5
 obtain rfl:=so c2
 obtain rfl:=so a3
 obtain rfl:=so hF
 have Z:=Z.aU [3,3,4,3] U
 have Z:=ab.drop 4 Z U
 exact ⟨hi,(Le.trans (Le.trans dg hB) hC),bd,c7,c8,U,Z⟩
 have a5:=(ay gd).symm.trans a5
 refine aq (ae (bf U ec U (mI U (nn ?_))))
 obtain rfl:=so a5
 have Z:=Z.aU [4,4,4,4] U
 have Z:=ab.drop 4 Z U
 show ∃ m,m<_∧hz m _ _
 refine ⟨e1.length,by simp,?_⟩
 exact ij e4 ⟨b0+1,e1,a2.2.2.1,a2.2.2.2.1,a2.2.2.2.2.1,a2.2.2.2.2.2,hi,c7,c8,U,aL hh,by simp only [List.length_cons,List.length_nil] at *; omega,c2,(Le.trans (Le.trans dg hB) hC),a4,a6,eu,e0,((eI (aO (n:=([a1.2.1,i64 (-a1.2.1)]).length) (by simp only [List.length_cons,List.length_nil] at *; omega) hf))),Z⟩
 rcases bs with _ | ⟨_,_⟩
 obtain rfl:=aT c2
 refine a9 ?_
 have Z:=Z.aU [3,3,3] U
 have Z:=ab.drop 3 Z U
 exact rj hg ⟨an,af,ag,a0,b8,o,J,U,dg,a4,a6,Z⟩
 exact absurd (of_decide_eq_false e5) (by simp only [List.length_cons,List.length_nil] at *; omega)
 intro f w_ hR
 obtain ⟨an,af,ag,a0,b8,o,J,rfl,dg,a4,a6,Z⟩:=rk hg hR
 refine sq (mF a4 U (hH U U (fA 2 si U U (bw 2 Z isAgg42 U U U (aW U underlying42 U (ab.len 1 Z U) (hY U U U (nn (al (b:=decide ((ag.length:Int) ≥ 1000)) U (fun g0=>?_) (fun g0=>?_)))))))))
 have a3:=(az g0).symm.trans a3
 refine sq (mF a4 U (hH U U (fA 3 tV U U (ei (v:=Bo true) (cs2:=#[o,I af,J,Bo true]) 2 U sizeOf4 U U U Z U U U (fun o3 Z=>ns (aV S0 U (aB U (nn (aA (dc (v1:=S0) (v2:=Bo false) results66 U U ?_))))))))))
 obtain rfl:=so a3
 obtain rfl:=so hF
 have Z:=ab.bE (R:=(OR.bu RP.bool)) (e:=4) Z
 exact ⟨b8,dg,S0,o,J,U,Z⟩
 have a3:=(ay g0).symm.trans a3
 refine aq ?_
 obtain rfl:=so a3
 exact rj hb ⟨an,af,ag,a0,b8,o,J,U,dg,a4,a6,Z⟩
 have a3:=(ay hc).symm.trans a3
 refine aq ?_
 obtain rfl:=so a3
 have Z:=Z.aU [4,4,4] U
 have Z:=ab.drop 3 Z U
 have Z:=ab.drop 3 Z U
 exact rj hb ⟨s.list,i64 (s.fuel - 1),s.steps,s.much,H,v0_0,v0_2,U,(Le.refl _),a4,a6,Z⟩
 intro f w_ hR
 obtain ⟨b1,b2,b3,b4,hP,cn,cp,rfl,l0,a4,a6,Z⟩:=rk hb hR
 refine ao ?_
 obtain ⟨o4,h2,hF⟩:=bind_some hF
 refine ae (mF a4 U (mF a6 U ?_))
 have Z:=Z.aU [1,1,2] U
 refine ar U call119 (cu U U) (rz (s:=({ list:=b1,fuel:=b2,steps:=b3,much:=b4 }:Srch)) (decisions:=decisions) Z (RP.mono _ h1 l0) h2) ?_
 rintro _ o5 ⟨l1,l2,ho,hp,rfl,Z⟩
 refine ns (aV S0 U (aB U (nn (aA (dc (v1:=S0) (v2:=Bo false) results66 U U ?_)))))
 obtain rfl:=so hF
 have Z:=ab.bE (R:=(OR.bu RP.bool)) (e:=4) Z
 exact ⟨l1,(Le.trans l0 l2),S0,ho,hp,U,Z⟩
theorem pB {fu:Nat}:∀(n:Nat) {s:Srch} {decisions:List Int} {g_0:Nat} {v0_0:Value} {v0_2:Value} {v1:Value} {H:FH} {w:World} {R:List Ass} (Z:ab H w (box g_0 94 #[v0_0,I s.fuel,v0_2,Bo s.much] :: oF 73 (ba 122) v0_0 s.list :: oS 158 (eG 122) v0_2 s.steps :: R)) (h1:(rS 3 RP.int).rel H [v1] decisions) {r:(List Bool) × Bool × (List Con) × Int × (List Step) × Bool} (hF:bb fu n s decisions=some r),C prog 66 #[Pt g_0,v1] w fun v w'=>∃ H':FH,Le H H'∧∃ (u1:Value) (u2:Value) (u3:Value),v=.tuple #[u1,Bo r.2.1]∧ab H' w' (oF 4 RP.bool u1 r.1 :: box g_0 94 #[u2,I r.2.2.2.1,u3,Bo r.2.2.2.2.2] :: oF 73 (ba 122) u2 r.2.2.1 :: oS 158 (eG 122) u3 r.2.2.2.2.1 :: R):=by
 intro n
 induction n with
 | zero=>intros; rename_i hF; cases hF
 | succ n ih=>intros; rename_i Z h1 _ hF; exact pF ih Z h1 hF
theorem qU {fu:Nat} {s:Srch} {decisions:List Int} {g_0:Nat} {v0_0:Value} {v0_2:Value} {v1:Value} {H:FH} {w:World} {R:List Ass} (Z:ab H w (box g_0 94 #[v0_0,I s.fuel,v0_2,Bo s.much] :: oF 73 (ba 122) v0_0 s.list :: oS 158 (eG 122) v0_2 s.steps :: R)) (h1:(rS 3 RP.int).rel H [v1] decisions) {r:(List Bool) × Bool × (List Con) × Int × (List Step) × Bool} (hF:la fu s decisions=some r):C prog 66 #[Pt g_0,v1] w fun v w'=>∃ H':FH,Le H H'∧∃ (u1:Value) (u2:Value) (u3:Value),v=.tuple #[u1,Bo r.2.1]∧ab H' w' (oF 4 RP.bool u1 r.1 :: box g_0 94 #[u2,I r.2.2.2.1,u3,Bo r.2.2.2.2.2] :: oF 73 (ba 122) u2 r.2.2.1 :: oS 158 (eG 122) u3 r.2.2.2.2.1 :: R):=pB fu Z h1 hF
theorem s4 {fu:Nat} {list:List Con} {fuel:Int} {v0:Value} {H:FH} {w:World} (Z:ab H w []) (h0:(rS 73 (ba 122)).rel H [v0] list) {r:Int × (List Bool) × (List Step)} (hF:jG fu list fuel=some r):C prog 21 #[v0,I fuel] w fun v w'=>∃ (u1:Value) (u2:Value),v=.tuple #[I r.1,u1,u2]∧ab H w' [oF 4 RP.bool u1 r.2.1,oS 158 (eG 122) u2 r.2.2]:=by
 unfold jG at hF
 refine aE func21 U ntmps21 U (sq (aI U (aV S0 U (aV S0 U (nq (ao ?_))))))
 obtain ⟨x6,b8,hF⟩:=bind_some hF
 obtain ⟨b0,J,hF⟩:=bind_some hF
 obtain ⟨ch,a0⟩:=ca fun f w_=>f 0=v0∧f 1=I fuel∧f 17=Bo b0∧ab H w_ ([])
 refine av ch ?_ ?_
 refine ae (mV v0 U ?_)
 obtain ⟨c7,cn,cp,dg,c1⟩:=Z.borrow
 refine ar U call37 (b9 U) (oB (list:=list) cp (RP.mono _ h0 cn) b8) ?_
 rintro _ dj ⟨rfl,Z⟩
 have Z:=c1 Z c0
 refine bL U U (mB U (aD (d:=13) (b:=(!x6)) U (fun a1=>?_) (fun a1=>?_)))
 rw [az a1] at J
 refine ps U (ps U (ps U (dU J U (nn (rj a0 ⟨U,U,U,Z⟩)))))
 rw [ay a1] at J
 obtain ⟨ds,b1,J⟩:=bind_some J
 refine mI U ?_
 obtain ⟨c8,ec,c2,ee,c3⟩:=Z.borrow
 refine ar U call64 (b9 U) (zV (fuel:=fuel) c2 b1) ?_
 rintro _ ej ⟨rfl,Z⟩
 have Z:=c3 Z c0
 refine bL U U (dU J U (nn (rj a0 ⟨U,U,U,Z⟩)))
 intro f w_ hR
 obtain ⟨c4,c5,b2,Z⟩:=rk a0 hR
 refine al (b:=b0) b2 (fun a2=>?_) (fun a2=>?_)
 have hF:=(az a2).symm.trans hF
 refine sq (aI U (aV S0 U (aV S0 U (nn (aA (wy (v1:=I 3) (v2:=S0) (v3:=S0) results21 U U U ?_))))))
 obtain rfl:=so hF
 have Z:=ab.bE (R:=(OR.bu RP.bool)) (e:=4) Z
 have Z:=ab.bE (R:=(eG 122)) (e:=158) Z
 have Z:=Z.get 1 U
 exact ⟨S0,S0,U,Z⟩
 have hF:=(ay a2).symm.trans hF
 refine aq (ao ?_)
 obtain ⟨c6,b3,hF⟩:=bind_some hF
 refine ae (mF c4 U (ar U call65 (b9 U) (fp (s:=list) Z h0 b3) ?_))
 rintro ag ek ⟨en,bd,_,rfl,Z⟩
 refine mF c5 U (da U (iB U U) (zy (ag) (I fuel) (aH (ab.len 0 Z U)) U) (cr (v:=.agg #[ag,I fuel,S0,Bo false]) (cs:=#[ag,I fuel,S0,Bo false]) U U U Z (fun an et Z=>aV (Pt an) U (nq ?_))))
 obtain ⟨af,b4,hF⟩:=bind_some hF
 refine ae (mV (Pt an) U ?_)
 have Z:=ab.bE (R:=(eG 122)) (e:=158) Z
 have Z:=Z.aU [2,2] U
 refine ar U call66 (cu U U) (qU (s:=({ list:=c6,fuel:=fuel,steps:=[],much:=false }:Srch)) (decisions:=[]) Z (fw _ _ _) b4) ?_
 rintro _ eu ⟨e0,bs,j,a3,o,rfl,Z⟩
 refine mV (.tuple #[j,Bo af.2.1]) U (dF (v:=j) U U U (dF (v:=Bo af.2.1) U U U (aV j U (aB U (nq (ak (sq (mB U (aB U (nn (al (b:=af.2.1) U (fun a4=>?_) (fun a4=>?_))))))))))))
 have hF:=(az a4).symm.trans hF
 refine sq (mV j U (aI U (aV j U (aV S0 U (nn (aA (wy (v1:=I 1) (v2:=j) (v3:=S0) results21 U U U ?_)))))))
 obtain rfl:=so hF
 have Z:=ab.bE (R:=(eG 122)) (e:=158) Z
 have Z:=Z.get 1 U
 exact ⟨j,S0,U,(ab.down (ab.aG 2 Z) (Le.trans bd bs) (co lP (co mh c0)))⟩
 have hF:=(ay a4).symm.trans hF
 refine sq (mV (Pt an) U (hH U U (fA 3 tV U U (bw 1 Z isAgg4 U U U (aB U (nn (al (b:=af.2.2.2.2.2) U (fun a5=>?_) (fun a5=>?_))))))))
 have hF:=(az a5).symm.trans hF
 refine sq (aI U (aV S0 U (aV S0 U (nn (aA (wy (v1:=I 0) (v2:=S0) (v3:=S0) results21 U U U ?_))))))
 obtain rfl:=so hF
 have Z:=ab.bE (R:=(OR.bu RP.bool)) (e:=4) Z
 have Z:=ab.bE (R:=(eG 122)) (e:=158) Z
 have Z:=Z.get 1 U
 exact ⟨S0,S0,U,(ab.down (ab.aG 2 Z) (Le.trans bd bs) (co lP (co mh c0)))⟩
 have hF:=(ay a5).symm.trans hF
 refine aq (ao ?_)
 have Z:=ab.drop 0 Z U
 refine cv 6 [Pt an,Pt an,Pq an 2,o,I 2,S0] [box an 94 #[a3,I af.2.2.2.1,o,Bo af.2.2.2.2.2],oF 73 (ba 122) a3 af.2.2.1,oS 158 (eG 122) o af.2.2.2.2.1] [] ([]) [([],[]),([],[]),([],[]),([],[]),([],[]),([],[])] (S:=[]) aP (by kernel_rfl) U (by kernel_rfl) Z ?_ (fun f w_ e1 dd b5 a6 Z=>?_)
 refine aa (fun f w_ _ _ s _ _ Z=>mF ((s 7 U).trans U) U (nO U U Z)) (aa (fun f w_ _ _ _ _ p Z=>hH U (p 0 36 U U) (nO U U Z)) (aa (fun f w_ _ _ _ _ p Z=>fA 2 si (p 1 37 U U) U (nO U U Z)) (aa (fun f w_ _ _ _ _ p Z=>bw 0 Z isAgg42 (p 2 38 U U) U U (nO U U Z)) (aa (fun f w_ _ _ _ _ _ Z=>aI U (nO U U Z)) (aa (fun f w_ _ _ _ _ _ Z=>aV S0 U (nO U U Z)) (aQ))))))
 refine aF (a6 3 39 U U) U (nn (aA (wy (v1:=I 2) (v2:=S0) (v3:=o) results21 (a6 4 4 U U) (a6 5 5 U U) U ?_)))
 obtain rfl:=so hF
 have Z:=ab.bE (R:=(OR.bu RP.bool)) (e:=4) Z
 have Z:=Z.aU [3,1] U
 exact ⟨S0,o,U,(ab.down (ab.aG 2 Z) (Le.trans (Le.trans bd bs) b5) (co lP (co mh c0)))⟩
theorem sM {m:Model} {values:List Bool} {v0_0:Value} {v0_1:Value} {v1:Value} {H:FH} {w:World} (Z:ab H w []) (h0_0:(rS 3 RP.int).rel H [v0_0] m.sizes) (h0_1:(rS 79 (cY 3 23)).rel H [v0_1] m.rules) (h1:(rS 4 RP.bool).rel H [v1] values) {r:(List Int) × Bool} (hF:jr m values=some r):C prog 22 #[.agg #[v0_0,v0_1],v1] w fun v w'=>∃ (u1:Value),v=.tuple #[u1,Bo r.2]∧ab H w' [oF 3 RP.int u1 r.1]:=by
 unfold jr at hF
 refine aE func22 U ntmps22 U (sq (cr (v:=.agg #[v0_0,v0_1]) (cs:=#[v0_0,v0_1]) U U U Z (fun g3 w4 Z=>aV S0 U (aB U (nq (ao ?_))))))
 obtain ⟨dj,g2,hF⟩:=bind_some hF
 obtain ⟨hk,ds⟩:=ca fun f w_=>f 1=v1∧f 2=Pt g3∧f 18=Bo ((!dj) || ((values.length:Int) != 12))∧ab H w_ ([box g3 26 #[v0_0,v0_1]])
 refine av hk ?_ ?_
 refine ae (a7 (cs:=[v0_0,v0_1]) U isAgg26 sizeOf26 U (At.bK (de.at (ab.aM 0 Z U)) 0 2) U ?_)
 obtain ⟨hy,g4,hl,hD,hn⟩:=Z.borrow
 refine ar U call46 (b9 U) (kY (m:=m) hl (RP.mono _ h0_0 g4) (RP.mono _ h0_1 g4) g2) ?_
 rintro _ hE ⟨rfl,Z⟩
 have Z:=hn Z c0
 refine bL U U (mB U (aD (d:=14) (b:=(!dj)) U (fun ec=>?_) (fun ec=>?_)))
 refine ps U (ps U (ps U (aC (v:=Bo ((!dj) || ((values.length:Int) != 12))) U U (fK ec) (nn (rj ds ⟨U,U,U,Z⟩)))))
 refine mV v1 U (aW U underlying37 U (ai h1) (gS U U U (aC (v:=Bo ((!dj) || ((values.length:Int) != 12))) U U (fb ec U) (nn (rj ds ⟨U,U,U,Z⟩)))))
 intro f w_ hR
 obtain ⟨b1,bs,g5,Z⟩:=rk ds hR
 refine al (b:=((!dj) || ((values.length:Int) != 12))) g5 (fun ee=>?_) (fun ee=>?_)
 have hF:=(az ee).symm.trans hF
 refine sq (aV S0 U (aB U (nn (aA (dc (v1:=S0) (v2:=Bo false) results22 U U ?_)))))
 obtain rfl:=so hF
 have Z:=ab.bE (R:=(OR.bu RP.int)) (e:=3) Z
 exact ⟨S0,U,(ab.aG 1 Z)⟩
 have hF:=(ay ee).symm.trans hF
 refine aq (sq (aV S0 U (nq (sq (fA 0 bN bs U (bw 0 Z isAgg23 U U U (aW U underlying23 U (ai h0_0) (mI U (nn ?_)))))))))
 have e2:List.length m.sizes≤9223372036854775807:=bB (ai h0_0)
 obtain ⟨g6,b3,hF⟩:=bind_some hF
 obtain ⟨ho,e4⟩:=ca fun f w_=>∃ ag:List Int,∃ o,g6=.nx ag∧f 6=o∧ab H w_ ([oF 3 RP.int o ag])
 refine av ho ?_ ?_
 refine ak ?_
 obtain ⟨g7,ej⟩:=ff fun n f w_=>∃ a1:Nat,∃ a5:List Int,∃ ag:List Int,∃ o,n=a5.length∧List.drop a1 m.sizes=a5∧a1+a5.length=m.sizes.length∧aw (gR m values) a5 a1 ag=some g6∧f 1=v1∧f 2=Pt g3∧f 6=o∧f 21=I (m.sizes.length:Int)∧f 22=I a1∧ab H w_ ([oF 3 RP.int o ag,box g3 26 #[v0_0,v0_1]])
 have Z:=ab.bE (R:=(OR.bu RP.int)) (e:=3) Z
 refine a8 g7 (n:=m.sizes.length) ?_ ?_
 exact ij ej ⟨0,m.sizes,[],S0,U,U,Nat.zero_add _,b3,b1,bs,U,U,U,Z⟩
 intro hG f w_ hI
 obtain ⟨a1,a5,ag,o,rfl,e5,c6,b3,b1,bs,b2,a4,a2,Z⟩:=ik ej hI
 refine sq (bh U a2 a4 (nq (al (b:=decide ((a1:Int)<(m.sizes.length:Int))) U (fun ek=>?_) (fun ek=>?_))))
 have fu:=of_decide_eq_true ek
 rcases a5 with _ | ⟨hz,c7⟩
 exact absurd fu (by simp at c6; omega)
 obtain ⟨hJ,a3,b3⟩:=aJ b3
 rw [gR] at a3
 have hp:=aY e5
 refine aq (ao (ak (sq (mF a2 U (aI U (ns (aI U (nq (ao ?_)))))))))
 obtain ⟨b4,g8,a3⟩:=bind_some a3
 refine ae (a7 (cs:=[v0_0,v0_1]) U isAgg26 sizeOf26 bs (At.bK (de.at (ab.aM 1 Z U)) 0 2) U (mI U ?_))
 obtain ⟨hA,g9,hq,hK,hr⟩:=Z.borrow
 refine ar U call47 (cu U U) (nV (m:=m) (cell:=(a1:Int)) hq (RP.mono _ h0_0 g9) (RP.mono _ h0_1 g9) g8) ?_
 rintro cp hN ⟨_,rfl,Z⟩
 have Z:=hr Z (co bk c0)
 refine aW U underlying23 U (ab.len 0 Z U) (mI U (nn ?_))
 have e3:List.length b4≤9223372036854775807:=bB (ab.len 0 Z U)
 obtain ⟨ha,b8,a3⟩:=bind_some a3
 obtain ⟨hs,fa⟩:=ca fun f w_=>∃ an:List Int,∃ af:Int,∃ J,ha=.nx (an,af)∧f 1=v1∧f 2=Pt g3∧f 6=J∧f 8=I af∧f 21=I (m.sizes.length:Int)∧f 22=I a1∧ab H w_ ([oF 3 RP.int J an,box g3 26 #[v0_0,v0_1]])
 refine av hs ?_ ?_
 refine ak ?_
 obtain ⟨hb,en⟩:=ff fun n f w_=>∃ a0:Nat,∃ a6:List Int,∃ an:List Int,∃ af:Int,∃ J,n=a6.length∧List.drop a0 b4=a6∧a0+a6.length=b4.length∧aw (jh values) a6 a0 (an,af)=some ha∧f 1=v1∧f 2=Pt g3∧f 6=J∧f 8=I af∧f 21=I (m.sizes.length:Int)∧f 22=I a1∧f 27=cp∧f 28=I (b4.length:Int)∧f 29=I a0∧ab H w_ ([oF 3 RP.int J an,oF 3 RP.int cp b4,box g3 26 #[v0_0,v0_1]])
 have Z:=Z.aU [2,1,2] U
 refine a8 hb (n:=b4.length) ?_ ?_
 exact ij en ⟨0,b4,ag,0,o,U,U,Nat.zero_add _,b8,b1,bs,b2,U,a4,a2,U,U,U,Z⟩
 intro hP f w_ hI
 obtain ⟨a0,a6,an,af,J,rfl,fo,c8,b8,b1,bs,b2,c3,a4,a2,c1,c2,b5,Z⟩:=ik en hI
 refine sq (bh U b5 c2 (nq (al (b:=decide ((a0:Int)<(b4.length:Int))) U (fun et=>?_) (fun et=>?_))))
 have gd:=of_decide_eq_true et
 rcases a6 with _ | ⟨hB,dd⟩
 exact absurd gd (by simp at c8; omega)
 obtain ⟨hQ,ch,b8⟩:=aJ b8
 rw [jh] at ch
 have c4:=aY fo
 refine aq (ao (ak (sq (mF b5 U ?_))))
 obtain ⟨hS,hc,fs,_,_⟩:=ab.row 1 Z U c4
 refine bJ (R:=(OR.bu RP.int)) (tb:=0) 0 U underlying23 sizeOf3 c1 fs (by first | rfl | simp) b5 c4 ?_
 obtain ⟨hC,hf,g0⟩:=ab.fE 1 Z U fs c4
 obtain rfl:_=[_]:=hf
 refine bt U isAgg3 U (At.cell g0 (j:=0) U) (aI U (aI U (nq ?_)))
 obtain ⟨ht,hg,ch⟩:=bind_some ch
 refine ae (mF b1 U (mI U (db U U U (bP (r:=RP.bool) U underlying37 sizeOf4 U h1 U hg (fun hV hW hj c5 g1=>?_)))))
 obtain rfl:_=[_]:=c5
 refine bt U isAgg4 U (At.cell (dn.at g1 Z.sub) (j:=0) U) (nn ?_)
 obtain ⟨⟨dg,cn⟩,b0,ch⟩:=bind_some ch
 obtain ⟨hv,eu⟩:=ca fun f w_=>∃ bd,f 1=v1∧f 2=Pt g3∧f 6=bd∧f 8=I cn∧f 21=I (m.sizes.length:Int)∧f 22=I a1∧f 27=cp∧f 28=I (b4.length:Int)∧f 29=I a0∧ab H w_ ([oF 3 RP.int bd dg,oF 3 RP.int cp b4,box g3 26 #[v0_0,v0_1]])
 refine av hv ?_ ?_
 refine al (b:=ht) U (fun e0=>?_) (fun e0=>?_)
 have b0:=(az e0).symm.trans b0
 refine ao ?_
 obtain ⟨h0,hh,b0⟩:=bind_some b0
 refine ae (mF b2 U (mI U (cS U (bG U) (dp (I a0) U) Z (fun hx h2 Z=>?_))))
 have Z:=ab.dr (r:=RP.int) (cs:=[I a0]) (x:=(a0:Int)) Z U
 have Z:=ab.bS (R:=(OR.bu RP.int)) [([I a0],(a0:Int))] [(a0:Int)] 1 Z U U U (by decide)
 have Z:=Z.get 1 U
 refine cj (v:=J) (u:=(Sl hx 1 1)) U eb U U Z hh (fun hi h3 Z=>aV hi U (nn (ae (mF c3 U (bf U U U (aI U (nn ?_)))))))
 obtain ⟨rfl,rfl⟩:=xV b0
 exact rj eu ⟨hi,b1,bs,U,U,a4,a2,c1,c2,b5,Z⟩
 have b0:=(ay e0).symm.trans b0
 refine aq ?_
 obtain ⟨rfl,rfl⟩:=xV b0
 exact rj eu ⟨J,b1,bs,b2,c3,a4,a2,c1,c2,b5,Z⟩
 intro f w_ hR
 obtain ⟨bd,b1,bs,b2,c3,a4,a2,c1,c2,b5,Z⟩:=rk eu hR
 refine ae (bf U b5 U (mI U (nn ?_)))
 obtain rfl:=so ch
 show ∃ m,m<_∧hb m _ _
 refine ⟨dd.length,by simp,?_⟩
 exact ij en ⟨a0+1,dd,dg,cn,bd,U,aL fo,by simp at c8; omega,b8,b1,bs,b2,c3,a4,a2,c1,c2,((eI (aO (n:=b4.length) (by simp at c8; omega) e3))),Z⟩
 rcases a6 with _ | ⟨_,_⟩
 obtain rfl:=aT b8
 refine a9 ?_
 have Z:=Z.aU [2,1] U
 exact rj fa ⟨an,af,J,U,b1,bs,b2,c3,a4,a2,(ab.aG 2 Z)⟩
 exact absurd (of_decide_eq_false et) (by simp at c8; omega)
 intro f w_ hR
 obtain ⟨an,af,J,rfl,b1,bs,b2,c3,a4,a2,Z⟩:=rk fa hR
 refine sq (mF c3 U (gS U U U (nn (al (b:=(af != 1)) U (fun e1=>?_) (fun e1=>?_)))))
 have a3:=(az e1).symm.trans a3
 refine sq (aV S0 U (aB U (nn (aA (dc (v1:=S0) (v2:=Bo false) results22 U U ?_)))))
 obtain rfl:=so a3
 obtain rfl:=so b3
 obtain rfl:=so hF
 have Z:=ab.bE (R:=(OR.bu RP.int)) (e:=3) Z
 exact ⟨S0,U,(ab.aG 1 Z)⟩
 have a3:=(ay e1).symm.trans a3
 refine aq (ae (bf U a2 U (mI U (nn ?_))))
 obtain rfl:=so a3
 show ∃ m,m<_∧g7 m _ _
 refine ⟨c7.length,by simp,?_⟩
 exact ij ej ⟨a1+1,c7,an,J,U,aL e5,by simp at c6; omega,b3,b1,bs,b2,a4,((eI (aO (n:=m.sizes.length) (by simp at c6; omega) e2))),Z⟩
 rcases a5 with _ | ⟨_,_⟩
 obtain rfl:=aT b3
 refine a9 (rj e4 ⟨ag,o,U,b2,(ab.aG 1 Z)⟩)
 exact absurd (of_decide_eq_false ek) (by simp at c6; omega)
 intro f w_ hR
 obtain ⟨ag,o,rfl,b2,Z⟩:=rk e4 hR
 refine sq (mF b2 U (aV o U (aB U (nn (aA (dc (v1:=o) (v2:=Bo true) results22 U U ?_))))))
 obtain rfl:=so hF
 exact ⟨o,U,Z⟩
theorem tK {m:Model} {cells:List Int} {v0_0:Value} {v0_1:Value} {v1:Value} {H:FH} {w:World} (Z:ab H w []) (h0_0:(rS 3 RP.int).rel H [v0_0] m.sizes) (h0_1:(rS 79 (cY 3 23)).rel H [v0_1] m.rules) (h1:(rS 3 RP.int).rel H [v1] cells) {r:Bool} (hF:kb m cells=some r):C prog 23 #[.agg #[v0_0,v0_1],v1] w fun v w'=>v=Bo r∧ab H w' []:=by
 unfold kb at hF
 refine aE func23 U ntmps23 U (sq (cr (v:=.agg #[v0_0,v0_1]) (cs:=#[v0_0,v0_1]) U U U Z (fun g3 w4 Z=>aB U (nq ?_))))
 obtain ⟨a0,af,hF⟩:=bind_some hF
 obtain ⟨ag,j,hF⟩:=bind_some hF
 obtain ⟨a1,o⟩:=ca fun f w_=>f 4=Bo ag∧ab H w_ ([])
 refine av a1 ?_ ?_
 refine ae (a7 (cs:=[v0_0,v0_1]) U isAgg26 sizeOf26 U (At.bK (de.at (ab.aM 0 Z U)) 0 2) U (mV v1 U ?_))
 obtain ⟨bd,J,a2,b0,a3⟩:=Z.borrow
 refine ar U call60 (cu U U) (uM (m:=m) (cells:=cells) a2 (RP.mono _ h0_0 J) (RP.mono _ h0_1 J) (RP.mono _ h1 J) af) ?_
 rintro _ b1 ⟨rfl,Z⟩
 have Z:=a3 Z c0
 refine mB U (aD (d:=8) (b:=a0) U (fun I=>?_) (fun I=>?_))
 rw [az I] at j
 obtain ⟨b2,an,j⟩:=bind_some j
 refine a7 (cs:=[v0_0,v0_1]) U isAgg26 sizeOf26 U (At.bK (de.at (ab.aM 0 Z U)) 0 2) U (mV v1 U ?_)
 obtain ⟨bs,R,a4,b3,a5⟩:=Z.borrow
 refine ar U call59 (cu U U) (n9 (m:=m) (cells:=cells) a4 (RP.mono _ h0_0 R) (RP.mono _ h0_1 R) (RP.mono _ h1 R) an) ?_
 rintro _ b4 ⟨rfl,Z⟩
 have Z:=a5 Z c0
 refine dU j U (aB U (nn (rj o ⟨U,(ab.aG 0 Z)⟩)))
 rw [ay I] at j
 refine ps U (ps U (ps U (dU j U (aB U (nn (rj o ⟨U,(ab.aG 0 Z)⟩))))))
 intro f w_ hR
 obtain ⟨a6,Z⟩:=rk o hR
 refine aA (aN (v1:=Bo ag) results23 a6 ?_)
 obtain rfl:=so hF
 exact ⟨U,Z⟩
theorem uZ {kind:Int} {H:FH} {w:World} (Z:ab H w []) {r:Int × Bool} (hF:nT kind=some r):C prog 192 #[I kind] w fun v w'=>v=.tuple #[I r.1,Bo r.2]∧ab H w' []:=by
 unfold nT at hF
 refine aE func192 U ntmps192 U (sq (aI U (aB U (nq (sq (mI U (nn (ak (sq (bD U U U (aB U (nn (al (b:=(kind == 1)) U (fun bd=>?_) (fun bd=>?_))))))))))))))
 have hF:=(az bd).symm.trans hF
 refine sq (aI U (aB U (nn (aA (dc (v1:=I 2) (v2:=Bo false) results192 U U ?_)))))
 obtain rfl:=so hF
 exact ⟨U,Z⟩
 have hF:=(ay bd).symm.trans hF
 refine ao (sq (bD U U U (aB U (nn ?_))))
 obtain ⟨a6,R,hF⟩:=bind_some hF
 obtain ⟨R3,bs⟩:=ca fun f w_=>f 4=I kind∧f 7=Bo a6∧ab H w_ ([])
 refine av R3 ?_ ?_
 refine al (b:=(kind == 2)) U (fun b0=>?_) (fun b0=>?_)
 have R:=(az b0).symm.trans R
 refine aq ?_
 obtain rfl:=so R
 exact rj bs ⟨U,U,Z⟩
 have R:=(ay b0).symm.trans R
 refine sq (bD U U U (aB U (nn ?_)))
 obtain ⟨b5,ag,R⟩:=bind_some R
 obtain ⟨R6,b1⟩:=ca fun f w_=>f 4=I kind∧f 7=Bo b5∧ab H w_ ([])
 refine av R6 ?_ ?_
 refine al (b:=(kind == 3)) U (fun b2=>?_) (fun b2=>?_)
 have ag:=(az b2).symm.trans ag
 refine aq ?_
 obtain rfl:=so ag
 exact rj b1 ⟨U,U,Z⟩
 have ag:=(ay b2).symm.trans ag
 refine ae (bD U U U (aB U (nn ?_)))
 obtain rfl:=so ag
 exact rj b1 ⟨U,U,Z⟩
 intro f w_ hR
 obtain ⟨J,b3,Z⟩:=rk b1 hR
 obtain rfl:=so R
 exact rj bs ⟨J,b3,Z⟩
 intro f w_ hR
 obtain ⟨J,b3,Z⟩:=rk bs hR
 refine al (b:=a6) b3 (fun b4=>?_) (fun b4=>?_)
 have hF:=(az b4).symm.trans hF
 refine sq (aI U (aB U (nn (aA (dc (v1:=I 1) (v2:=Bo true) results192 U U ?_)))))
 obtain rfl:=so hF
 exact ⟨U,Z⟩
 have hF:=(ay b4).symm.trans hF
 refine ao (sq (bD U J U (aB U (nn ?_))))
 obtain ⟨an,j,hF⟩:=bind_some hF
 obtain ⟨cn,a0⟩:=ca fun f w_=>f 4=I kind∧f 11=Bo an∧ab H w_ ([])
 refine av cn ?_ ?_
 refine al (b:=(kind == 4)) U (fun a1=>?_) (fun a1=>?_)
 have j:=(az a1).symm.trans j
 refine aq ?_
 obtain rfl:=so j
 exact rj a0 ⟨J,U,Z⟩
 have j:=(ay a1).symm.trans j
 refine ae (bD U J U (aB U (nn ?_)))
 obtain rfl:=so j
 exact rj a0 ⟨J,U,Z⟩
 intro f w_ hR
 obtain ⟨J,b8,Z⟩:=rk a0 hR
 refine al (b:=an) b8 (fun a2=>?_) (fun a2=>?_)
 have hF:=(az a2).symm.trans hF
 refine sq (aI U (aB U (nn (aA (dc (v1:=I 1) (v2:=Bo false) results192 U U ?_)))))
 obtain rfl:=so hF
 exact ⟨U,Z⟩
 have hF:=(ay a2).symm.trans hF
 refine ao (sq (bD U J U (aB U (nn ?_))))
 obtain ⟨af,o,hF⟩:=bind_some hF
 obtain ⟨cp,a3⟩:=ca fun f w_=>f 14=Bo af∧ab H w_ ([])
 refine av cp ?_ ?_
 refine al (b:=(kind == 6)) U (fun a4=>?_) (fun a4=>?_)
 have o:=(az a4).symm.trans o
 refine aq ?_
 obtain rfl:=so o
 exact rj a3 ⟨U,Z⟩
 have o:=(ay a4).symm.trans o
 refine ae (bD U J U (aB U (nn ?_)))
 obtain rfl:=so o
 exact rj a3 ⟨U,Z⟩
 intro f w_ hR
 obtain ⟨ch,Z⟩:=rk a3 hR
 refine al (b:=af) ch (fun a5=>?_) (fun a5=>?_)
 have hF:=(az a5).symm.trans hF
 refine sq (aI U (aB U (nn (aA (dc (v1:=I 0) (v2:=Bo false) results192 U U ?_)))))
 obtain rfl:=so hF
 exact ⟨U,Z⟩
 have hF:=(ay a5).symm.trans hF
 refine aq (sq (aI U (aB U (nn (aA (dc (v1:=I (-1)) (v2:=Bo false) results192 U U ?_))))))
 obtain rfl:=so hF
 exact ⟨U,Z⟩
theorem tG {s:Step} {v0_3:Value} {H:FH} {w:World} (Z:ab H w []) (h0_3:(rS 122 au).rel H [v0_3] s.given.terms) {r:Bool} (hF:jX s=some r):C prog 193 #[.agg #[I s.kind,I s.a,I s.b,v0_3,I s.given.bound]] w fun v w'=>v=Bo r∧ab H w' []:=by
 unfold jX at hF
 refine aE func193 U ntmps193 U (sq (cr (v:=.agg #[I s.kind,I s.a,I s.b,v0_3,I s.given.bound]) (cs:=#[I s.kind,I s.a,I s.b,v0_3,I s.given.bound]) U U U Z (fun g3 w4 Z=>aB U (nq ?_))))
 obtain ⟨j,e1,hF⟩:=bind_some hF
 refine ae (fA 0 iq U U (bw 0 Z isAgg3 U U U ?_))
 obtain ⟨ht,hK,fu,hN,gd⟩:=Z.borrow
 refine ar U call192 (b9 U) (uZ (kind:=s.kind) fu e1) ?_
 rintro _ hP ⟨rfl,Z⟩
 have Z:=gd Z c0
 refine mV (.tuple #[I j.1,Bo j.2]) U (dF (v:=I j.1) U U U (dF (v:=Bo j.2) U U U (aI U (aB U (nq ?_)))))
 obtain ⟨e2,o,hF⟩:=bind_some hF
 obtain ⟨g0,R⟩:=ca fun f w_=>f 2=Bo e2∧ab H w_ ([])
 refine av g0 ?_ ?_
 refine ae (mI U (hY U U U (mB U (aD (d:=13) (b:=decide (j.1 ≥ 0)) U (fun ag=>?_) (fun ag=>?_)))))
 refine mI U (c9 U U U (mB U (aD (d:=16) (b:=decide (j.1 > 0)) U (fun b3=>?_) (fun b3=>?_))))
 refine ps U (ps U (ps U (aC (v:=Bo ((decide (j.1 > 0)) || (s.kind == 6))) U U (fK b3) (mB U (aD (d:=21) (b:=((decide (j.1 > 0)) || (s.kind == 6))) U (fun ch=>?_) (fun ch=>?_))))))
 refine ps U (ps U (ps U (aC (v:=Bo (((decide (j.1 > 0)) || (s.kind == 6)) || (s.a == 0))) U U (fK ch) (aC (v:=Bo ((decide (j.1 ≥ 0)) && (((decide (j.1 > 0)) || (s.kind == 6)) || (s.a == 0)))) U U (gw ag U) (mB U (aD (d:=27) (b:=((decide (j.1 ≥ 0)) && (((decide (j.1 > 0)) || (s.kind == 6)) || (s.a == 0)))) U (fun an=>?_) (fun an=>?_)))))))
 refine mI U (bD U U U (mB U (aD (d:=30) (b:=(j.1 == 2)) U (fun b4=>?_) (fun b4=>?_))))
 refine ps U (aC (v:=Bo ((j.1 == 2) || j.2)) U U (fK b4) (mB U (aD (d:=33) (b:=((j.1 == 2) || j.2)) U (fun cn=>?_) (fun cn=>?_))))
 refine ps U (ps U (ps U (aC (v:=Bo (((j.1 == 2) || j.2) || (s.b == 0))) U U (fK cn) (aC (v:=Bo (((decide (j.1 ≥ 0)) && (((decide (j.1 > 0)) || (s.kind == 6)) || (s.a == 0))) && (((j.1 == 2) || j.2) || (s.b == 0)))) U U (gw an U) (mB U (aD (d:=39) (b:=(((decide (j.1 ≥ 0)) && (((decide (j.1 > 0)) || (s.kind == 6)) || (s.a == 0))) && (((j.1 == 2) || j.2) || (s.b == 0)))) U (fun cp=>?_) (fun cp=>?_)))))))
 rw [az cp] at o
 obtain ⟨a3,J,o⟩:=bind_some o
 refine fA 0 iq U U (bw 0 Z isAgg3 U U U (bD U U U (mB U (aD (d:=43) (b:=(s.kind == 7)) U (fun c1=>?_) (fun c1=>?_)))))
 rw [az c1] at J
 refine ps U (ps U (ps U (ps U (dU J U (dU o U (aB U (nn (rj R ⟨U,(ab.aG 0 Z)⟩))))))))
 rw [ay c1] at J
 obtain ⟨a4,af,J⟩:=bind_some J
 refine fA 3 gO U U (a7 (cs:=[v0_3,I s.given.bound]) U isAgg73 sizeOf73 U (At.bK (de.at (ab.aM 0 Z U)) 3 2) U (da U (cC ) (eg  ) ?_))
 obtain ⟨hv,g1,g2,hQ,g4⟩:=Z.borrow
 refine ar U call54 (cu U U) (cR (a:=s.given) (b:=({ terms:=[],bound:=0 }:Con)) g2 (RP.mono _ h0_3 g1) (fw _ _ _) af) ?_
 rintro _ hS ⟨rfl,Z⟩
 have Z:=g4 Z c0
 refine dU J U (dU o U (aB U (nn (rj R ⟨U,(ab.aG 0 Z)⟩))))
 rw [ay cp] at o
 refine ps U (ps U (ps U (ps U (ps U (ps U (ps U (ps U (ps U (dU o U (aB U (nn (rj R ⟨U,(ab.aG 0 Z)⟩))))))))))))
 exact gj (Bv b4) cn
 refine mB U (aC (v:=Bo ((j.1 == 2) || j.2)) U U (fb b4 U) (mB U (aD (d:=33) (b:=((j.1 == 2) || j.2)) U (fun c2=>?_) (fun c2=>?_))))
 refine ps U (ps U (ps U (aC (v:=Bo (((j.1 == 2) || j.2) || (s.b == 0))) U U (fK c2) (aC (v:=Bo (((decide (j.1 ≥ 0)) && (((decide (j.1 > 0)) || (s.kind == 6)) || (s.a == 0))) && (((j.1 == 2) || j.2) || (s.b == 0)))) U U (gw an U) (mB U (aD (d:=39) (b:=(((decide (j.1 ≥ 0)) && (((decide (j.1 > 0)) || (s.kind == 6)) || (s.a == 0))) && (((j.1 == 2) || j.2) || (s.b == 0)))) U (fun c3=>?_) (fun c3=>?_)))))))
 rw [az c3] at o
 obtain ⟨a3,J,o⟩:=bind_some o
 refine fA 0 iq U U (bw 0 Z isAgg3 U U U (bD U U U (mB U (aD (d:=43) (b:=(s.kind == 7)) U (fun c4=>?_) (fun c4=>?_)))))
 rw [az c4] at J
 refine ps U (ps U (ps U (ps U (dU J U (dU o U (aB U (nn (rj R ⟨U,(ab.aG 0 Z)⟩))))))))
 rw [ay c4] at J
 obtain ⟨a4,af,J⟩:=bind_some J
 refine fA 3 gO U U (a7 (cs:=[v0_3,I s.given.bound]) U isAgg73 sizeOf73 U (At.bK (de.at (ab.aM 0 Z U)) 3 2) U (da U (cC ) (eg  ) ?_))
 obtain ⟨hx,g5,g6,hV,g7⟩:=Z.borrow
 refine ar U call54 (cu U U) (cR (a:=s.given) (b:=({ terms:=[],bound:=0 }:Con)) g6 (RP.mono _ h0_3 g5) (fw _ _ _) af) ?_
 rintro _ hW ⟨rfl,Z⟩
 have Z:=g7 Z c0
 refine dU J U (dU o U (aB U (nn (rj R ⟨U,(ab.aG 0 Z)⟩))))
 rw [ay c3] at o
 refine ps U (ps U (ps U (ps U (ps U (ps U (ps U (ps U (ps U (dU o U (aB U (nn (rj R ⟨U,(ab.aG 0 Z)⟩))))))))))))
 refine fA 2 kL U U (bw 0 Z isAgg3 U U U (bD U U U (aC (v:=Bo (((j.1 == 2) || j.2) || (s.b == 0))) U U (fb c2 U) (aC (v:=Bo (((decide (j.1 ≥ 0)) && (((decide (j.1 > 0)) || (s.kind == 6)) || (s.a == 0))) && (((j.1 == 2) || j.2) || (s.b == 0)))) U U (gw an U) (mB U (aD (d:=39) (b:=(((decide (j.1 ≥ 0)) && (((decide (j.1 > 0)) || (s.kind == 6)) || (s.a == 0))) && (((j.1 == 2) || j.2) || (s.b == 0)))) U (fun c5=>?_) (fun c5=>?_)))))))
 rw [az c5] at o
 obtain ⟨a3,J,o⟩:=bind_some o
 refine fA 0 iq U U (bw 0 Z isAgg3 U U U (bD U U U (mB U (aD (d:=43) (b:=(s.kind == 7)) U (fun c6=>?_) (fun c6=>?_)))))
 rw [az c6] at J
 refine ps U (ps U (ps U (ps U (dU J U (dU o U (aB U (nn (rj R ⟨U,(ab.aG 0 Z)⟩))))))))
 rw [ay c6] at J
 obtain ⟨a4,af,J⟩:=bind_some J
 refine fA 3 gO U U (a7 (cs:=[v0_3,I s.given.bound]) U isAgg73 sizeOf73 U (At.bK (de.at (ab.aM 0 Z U)) 3 2) U (da U (cC ) (eg  ) ?_))
 obtain ⟨hy,g8,g9,h0,ha⟩:=Z.borrow
 refine ar U call54 (cu U U) (cR (a:=s.given) (b:=({ terms:=[],bound:=0 }:Con)) g9 (RP.mono _ h0_3 g8) (fw _ _ _) af) ?_
 rintro _ h1 ⟨rfl,Z⟩
 have Z:=ha Z c0
 refine dU J U (dU o U (aB U (nn (rj R ⟨U,(ab.aG 0 Z)⟩))))
 rw [ay c5] at o
 refine ps U (ps U (ps U (ps U (ps U (ps U (ps U (ps U (ps U (dU o U (aB U (nn (rj R ⟨U,(ab.aG 0 Z)⟩))))))))))))
 refine ps U (ps U (ps U (ps U (ps U (ps U (ps U (ps U (ps U (ps U (aC (v:=Bo (((decide (j.1 ≥ 0)) && (((decide (j.1 > 0)) || (s.kind == 6)) || (s.a == 0))) && (((j.1 == 2) || j.2) || (s.b == 0)))) U U (jc an) (mB U (aD (d:=39) (b:=(((decide (j.1 ≥ 0)) && (((decide (j.1 > 0)) || (s.kind == 6)) || (s.a == 0))) && (((j.1 == 2) || j.2) || (s.b == 0)))) U (fun c7=>?_) (fun c7=>?_)))))))))))))
 exact gj c7 (Ah an)
 rw [ay c7] at o
 refine ps U (ps U (ps U (ps U (ps U (ps U (ps U (ps U (ps U (dU o U (aB U (nn (rj R ⟨U,(ab.aG 0 Z)⟩))))))))))))
 exact gj (Bv b3) ch
 refine fA 0 iq U U (bw 0 Z isAgg3 U U U (bD U U U (aC (v:=Bo ((decide (j.1 > 0)) || (s.kind == 6))) U U (fb b3 U) (mB U (aD (d:=21) (b:=((decide (j.1 > 0)) || (s.kind == 6))) U (fun c8=>?_) (fun c8=>?_))))))
 refine ps U (ps U (ps U (aC (v:=Bo (((decide (j.1 > 0)) || (s.kind == 6)) || (s.a == 0))) U U (fK c8) (aC (v:=Bo ((decide (j.1 ≥ 0)) && (((decide (j.1 > 0)) || (s.kind == 6)) || (s.a == 0)))) U U (gw ag U) (mB U (aD (d:=27) (b:=((decide (j.1 ≥ 0)) && (((decide (j.1 > 0)) || (s.kind == 6)) || (s.a == 0)))) U (fun a0=>?_) (fun a0=>?_)))))))
 refine mI U (bD U U U (mB U (aD (d:=30) (b:=(j.1 == 2)) U (fun b5=>?_) (fun b5=>?_))))
 refine ps U (aC (v:=Bo ((j.1 == 2) || j.2)) U U (fK b5) (mB U (aD (d:=33) (b:=((j.1 == 2) || j.2)) U (fun dd=>?_) (fun dd=>?_))))
 refine ps U (ps U (ps U (aC (v:=Bo (((j.1 == 2) || j.2) || (s.b == 0))) U U (fK dd) (aC (v:=Bo (((decide (j.1 ≥ 0)) && (((decide (j.1 > 0)) || (s.kind == 6)) || (s.a == 0))) && (((j.1 == 2) || j.2) || (s.b == 0)))) U U (gw a0 U) (mB U (aD (d:=39) (b:=(((decide (j.1 ≥ 0)) && (((decide (j.1 > 0)) || (s.kind == 6)) || (s.a == 0))) && (((j.1 == 2) || j.2) || (s.b == 0)))) U (fun dg=>?_) (fun dg=>?_)))))))
 rw [az dg] at o
 obtain ⟨a3,J,o⟩:=bind_some o
 refine fA 0 iq U U (bw 0 Z isAgg3 U U U (bD U U U (mB U (aD (d:=43) (b:=(s.kind == 7)) U (fun dj=>?_) (fun dj=>?_)))))
 rw [az dj] at J
 refine ps U (ps U (ps U (ps U (dU J U (dU o U (aB U (nn (rj R ⟨U,(ab.aG 0 Z)⟩))))))))
 rw [ay dj] at J
 obtain ⟨a4,af,J⟩:=bind_some J
 refine fA 3 gO U U (a7 (cs:=[v0_3,I s.given.bound]) U isAgg73 sizeOf73 U (At.bK (de.at (ab.aM 0 Z U)) 3 2) U (da U (cC ) (eg  ) ?_))
 obtain ⟨hz,hb,hc,h2,hf⟩:=Z.borrow
 refine ar U call54 (cu U U) (cR (a:=s.given) (b:=({ terms:=[],bound:=0 }:Con)) hc (RP.mono _ h0_3 hb) (fw _ _ _) af) ?_
 rintro _ h3 ⟨rfl,Z⟩
 have Z:=hf Z c0
 refine dU J U (dU o U (aB U (nn (rj R ⟨U,(ab.aG 0 Z)⟩))))
 rw [ay dg] at o
 refine ps U (ps U (ps U (ps U (ps U (ps U (ps U (ps U (ps U (dU o U (aB U (nn (rj R ⟨U,(ab.aG 0 Z)⟩))))))))))))
 exact gj (Bv b5) dd
 refine mB U (aC (v:=Bo ((j.1 == 2) || j.2)) U U (fb b5 U) (mB U (aD (d:=33) (b:=((j.1 == 2) || j.2)) U (fun ds=>?_) (fun ds=>?_))))
 refine ps U (ps U (ps U (aC (v:=Bo (((j.1 == 2) || j.2) || (s.b == 0))) U U (fK ds) (aC (v:=Bo (((decide (j.1 ≥ 0)) && (((decide (j.1 > 0)) || (s.kind == 6)) || (s.a == 0))) && (((j.1 == 2) || j.2) || (s.b == 0)))) U U (gw a0 U) (mB U (aD (d:=39) (b:=(((decide (j.1 ≥ 0)) && (((decide (j.1 > 0)) || (s.kind == 6)) || (s.a == 0))) && (((j.1 == 2) || j.2) || (s.b == 0)))) U (fun ec=>?_) (fun ec=>?_)))))))
 rw [az ec] at o
 obtain ⟨a3,J,o⟩:=bind_some o
 refine fA 0 iq U U (bw 0 Z isAgg3 U U U (bD U U U (mB U (aD (d:=43) (b:=(s.kind == 7)) U (fun ee=>?_) (fun ee=>?_)))))
 rw [az ee] at J
 refine ps U (ps U (ps U (ps U (dU J U (dU o U (aB U (nn (rj R ⟨U,(ab.aG 0 Z)⟩))))))))
 rw [ay ee] at J
 obtain ⟨a4,af,J⟩:=bind_some J
 refine fA 3 gO U U (a7 (cs:=[v0_3,I s.given.bound]) U isAgg73 sizeOf73 U (At.bK (de.at (ab.aM 0 Z U)) 3 2) U (da U (cC ) (eg  ) ?_))
 obtain ⟨hA,hg,hh,h4,hi⟩:=Z.borrow
 refine ar U call54 (cu U U) (cR (a:=s.given) (b:=({ terms:=[],bound:=0 }:Con)) hh (RP.mono _ h0_3 hg) (fw _ _ _) af) ?_
 rintro _ h5 ⟨rfl,Z⟩
 have Z:=hi Z c0
 refine dU J U (dU o U (aB U (nn (rj R ⟨U,(ab.aG 0 Z)⟩))))
 rw [ay ec] at o
 refine ps U (ps U (ps U (ps U (ps U (ps U (ps U (ps U (ps U (dU o U (aB U (nn (rj R ⟨U,(ab.aG 0 Z)⟩))))))))))))
 refine fA 2 kL U U (bw 0 Z isAgg3 U U U (bD U U U (aC (v:=Bo (((j.1 == 2) || j.2) || (s.b == 0))) U U (fb ds U) (aC (v:=Bo (((decide (j.1 ≥ 0)) && (((decide (j.1 > 0)) || (s.kind == 6)) || (s.a == 0))) && (((j.1 == 2) || j.2) || (s.b == 0)))) U U (gw a0 U) (mB U (aD (d:=39) (b:=(((decide (j.1 ≥ 0)) && (((decide (j.1 > 0)) || (s.kind == 6)) || (s.a == 0))) && (((j.1 == 2) || j.2) || (s.b == 0)))) U (fun ej=>?_) (fun ej=>?_)))))))
 rw [az ej] at o
 obtain ⟨a3,J,o⟩:=bind_some o
 refine fA 0 iq U U (bw 0 Z isAgg3 U U U (bD U U U (mB U (aD (d:=43) (b:=(s.kind == 7)) U (fun ek=>?_) (fun ek=>?_)))))
 rw [az ek] at J
 refine ps U (ps U (ps U (ps U (dU J U (dU o U (aB U (nn (rj R ⟨U,(ab.aG 0 Z)⟩))))))))
 rw [ay ek] at J
 obtain ⟨a4,af,J⟩:=bind_some J
 refine fA 3 gO U U (a7 (cs:=[v0_3,I s.given.bound]) U isAgg73 sizeOf73 U (At.bK (de.at (ab.aM 0 Z U)) 3 2) U (da U (cC ) (eg  ) ?_))
 obtain ⟨hB,hj,hk,h6,hl⟩:=Z.borrow
 refine ar U call54 (cu U U) (cR (a:=s.given) (b:=({ terms:=[],bound:=0 }:Con)) hk (RP.mono _ h0_3 hj) (fw _ _ _) af) ?_
 rintro _ h7 ⟨rfl,Z⟩
 have Z:=hl Z c0
 refine dU J U (dU o U (aB U (nn (rj R ⟨U,(ab.aG 0 Z)⟩))))
 rw [ay ej] at o
 refine ps U (ps U (ps U (ps U (ps U (ps U (ps U (ps U (ps U (dU o U (aB U (nn (rj R ⟨U,(ab.aG 0 Z)⟩))))))))))))
 refine ps U (ps U (ps U (ps U (ps U (ps U (ps U (ps U (ps U (ps U (aC (v:=Bo (((decide (j.1 ≥ 0)) && (((decide (j.1 > 0)) || (s.kind == 6)) || (s.a == 0))) && (((j.1 == 2) || j.2) || (s.b == 0)))) U U (jc a0) (mB U (aD (d:=39) (b:=(((decide (j.1 ≥ 0)) && (((decide (j.1 > 0)) || (s.kind == 6)) || (s.a == 0))) && (((j.1 == 2) || j.2) || (s.b == 0)))) U (fun en=>?_) (fun en=>?_)))))))))))))
 exact gj en (Ah a0)
 rw [ay en] at o
 refine ps U (ps U (ps U (ps U (ps U (ps U (ps U (ps U (ps U (dU o U (aB U (nn (rj R ⟨U,(ab.aG 0 Z)⟩))))))))))))
 refine fA 1 kW U U (bw 0 Z isAgg3 U U U (bD U U U (aC (v:=Bo (((decide (j.1 > 0)) || (s.kind == 6)) || (s.a == 0))) U U (fb c8 U) (aC (v:=Bo ((decide (j.1 ≥ 0)) && (((decide (j.1 > 0)) || (s.kind == 6)) || (s.a == 0)))) U U (gw ag U) (mB U (aD (d:=27) (b:=((decide (j.1 ≥ 0)) && (((decide (j.1 > 0)) || (s.kind == 6)) || (s.a == 0)))) U (fun a1=>?_) (fun a1=>?_)))))))
 refine mI U (bD U U U (mB U (aD (d:=30) (b:=(j.1 == 2)) U (fun b8=>?_) (fun b8=>?_))))
 refine ps U (aC (v:=Bo ((j.1 == 2) || j.2)) U U (fK b8) (mB U (aD (d:=33) (b:=((j.1 == 2) || j.2)) U (fun et=>?_) (fun et=>?_))))
 refine ps U (ps U (ps U (aC (v:=Bo (((j.1 == 2) || j.2) || (s.b == 0))) U U (fK et) (aC (v:=Bo (((decide (j.1 ≥ 0)) && (((decide (j.1 > 0)) || (s.kind == 6)) || (s.a == 0))) && (((j.1 == 2) || j.2) || (s.b == 0)))) U U (gw a1 U) (mB U (aD (d:=39) (b:=(((decide (j.1 ≥ 0)) && (((decide (j.1 > 0)) || (s.kind == 6)) || (s.a == 0))) && (((j.1 == 2) || j.2) || (s.b == 0)))) U (fun eu=>?_) (fun eu=>?_)))))))
 rw [az eu] at o
 obtain ⟨a3,J,o⟩:=bind_some o
 refine fA 0 iq U U (bw 0 Z isAgg3 U U U (bD U U U (mB U (aD (d:=43) (b:=(s.kind == 7)) U (fun e0=>?_) (fun e0=>?_)))))
 rw [az e0] at J
 refine ps U (ps U (ps U (ps U (dU J U (dU o U (aB U (nn (rj R ⟨U,(ab.aG 0 Z)⟩))))))))
 rw [ay e0] at J
 obtain ⟨a4,af,J⟩:=bind_some J
 refine fA 3 gO U U (a7 (cs:=[v0_3,I s.given.bound]) U isAgg73 sizeOf73 U (At.bK (de.at (ab.aM 0 Z U)) 3 2) U (da U (cC ) (eg  ) ?_))
 obtain ⟨hC,hn,ho,h8,hp⟩:=Z.borrow
 refine ar U call54 (cu U U) (cR (a:=s.given) (b:=({ terms:=[],bound:=0 }:Con)) ho (RP.mono _ h0_3 hn) (fw _ _ _) af) ?_
 rintro _ hD ⟨rfl,Z⟩
 have Z:=hp Z c0
 refine dU J U (dU o U (aB U (nn (rj R ⟨U,(ab.aG 0 Z)⟩))))
 rw [ay eu] at o
 refine ps U (ps U (ps U (ps U (ps U (ps U (ps U (ps U (ps U (dU o U (aB U (nn (rj R ⟨U,(ab.aG 0 Z)⟩))))))))))))
 exact gj (Bv b8) et
 refine mB U (aC (v:=Bo ((j.1 == 2) || j.2)) U U (fb b8 U) (mB U (aD (d:=33) (b:=((j.1 == 2) || j.2)) U (fun a5=>?_) (fun a5=>?_))))
 refine ps U (ps U (ps U (aC (v:=Bo (((j.1 == 2) || j.2) || (s.b == 0))) U U (fK a5) (aC (v:=Bo (((decide (j.1 ≥ 0)) && (((decide (j.1 > 0)) || (s.kind == 6)) || (s.a == 0))) && (((j.1 == 2) || j.2) || (s.b == 0)))) U U (gw a1 U) (mB U (aD (d:=39) (b:=(((decide (j.1 ≥ 0)) && (((decide (j.1 > 0)) || (s.kind == 6)) || (s.a == 0))) && (((j.1 == 2) || j.2) || (s.b == 0)))) U (fun a6=>?_) (fun a6=>?_)))))))
 rw [az a6] at o
 obtain ⟨a3,J,o⟩:=bind_some o
 refine fA 0 iq U U (bw 0 Z isAgg3 U U U (bD U U U (mB U (aD (d:=43) (b:=(s.kind == 7)) U (fun bd=>?_) (fun bd=>?_)))))
 rw [az bd] at J
 refine ps U (ps U (ps U (ps U (dU J U (dU o U (aB U (nn (rj R ⟨U,(ab.aG 0 Z)⟩))))))))
 rw [ay bd] at J
 obtain ⟨a4,af,J⟩:=bind_some J
 refine fA 3 gO U U (a7 (cs:=[v0_3,I s.given.bound]) U isAgg73 sizeOf73 U (At.bK (de.at (ab.aM 0 Z U)) 3 2) U (da U (cC ) (eg  ) ?_))
 obtain ⟨hq,e3,e4,hE,e5⟩:=Z.borrow
 refine ar U call54 (cu U U) (cR (a:=s.given) (b:=({ terms:=[],bound:=0 }:Con)) e4 (RP.mono _ h0_3 e3) (fw _ _ _) af) ?_
 rintro _ hG ⟨rfl,Z⟩
 have Z:=e5 Z c0
 refine dU J U (dU o U (aB U (nn (rj R ⟨U,(ab.aG 0 Z)⟩))))
 rw [ay a6] at o
 refine ps U (ps U (ps U (ps U (ps U (ps U (ps U (ps U (ps U (dU o U (aB U (nn (rj R ⟨U,(ab.aG 0 Z)⟩))))))))))))
 refine fA 2 kL U U (bw 0 Z isAgg3 U U U (bD U U U (aC (v:=Bo (((j.1 == 2) || j.2) || (s.b == 0))) U U (fb a5 U) (aC (v:=Bo (((decide (j.1 ≥ 0)) && (((decide (j.1 > 0)) || (s.kind == 6)) || (s.a == 0))) && (((j.1 == 2) || j.2) || (s.b == 0)))) U U (gw a1 U) (mB U (aD (d:=39) (b:=(((decide (j.1 ≥ 0)) && (((decide (j.1 > 0)) || (s.kind == 6)) || (s.a == 0))) && (((j.1 == 2) || j.2) || (s.b == 0)))) U (fun bs=>?_) (fun bs=>?_)))))))
 rw [az bs] at o
 obtain ⟨a3,J,o⟩:=bind_some o
 refine fA 0 iq U U (bw 0 Z isAgg3 U U U (bD U U U (mB U (aD (d:=43) (b:=(s.kind == 7)) U (fun b0=>?_) (fun b0=>?_)))))
 rw [az b0] at J
 refine ps U (ps U (ps U (ps U (dU J U (dU o U (aB U (nn (rj R ⟨U,(ab.aG 0 Z)⟩))))))))
 rw [ay b0] at J
 obtain ⟨a4,af,J⟩:=bind_some J
 refine fA 3 gO U U (a7 (cs:=[v0_3,I s.given.bound]) U isAgg73 sizeOf73 U (At.bK (de.at (ab.aM 0 Z U)) 3 2) U (da U (cC ) (eg  ) ?_))
 obtain ⟨hr,fa,fo,hI,fs⟩:=Z.borrow
 refine ar U call54 (cu U U) (cR (a:=s.given) (b:=({ terms:=[],bound:=0 }:Con)) fo (RP.mono _ h0_3 fa) (fw _ _ _) af) ?_
 rintro _ hJ ⟨rfl,Z⟩
 have Z:=fs Z c0
 refine dU J U (dU o U (aB U (nn (rj R ⟨U,(ab.aG 0 Z)⟩))))
 rw [ay bs] at o
 refine ps U (ps U (ps U (ps U (ps U (ps U (ps U (ps U (ps U (dU o U (aB U (nn (rj R ⟨U,(ab.aG 0 Z)⟩))))))))))))
 refine ps U (ps U (ps U (ps U (ps U (ps U (ps U (ps U (ps U (ps U (aC (v:=Bo (((decide (j.1 ≥ 0)) && (((decide (j.1 > 0)) || (s.kind == 6)) || (s.a == 0))) && (((j.1 == 2) || j.2) || (s.b == 0)))) U U (jc a1) (mB U (aD (d:=39) (b:=(((decide (j.1 ≥ 0)) && (((decide (j.1 > 0)) || (s.kind == 6)) || (s.a == 0))) && (((j.1 == 2) || j.2) || (s.b == 0)))) U (fun b1=>?_) (fun b1=>?_)))))))))))))
 exact gj b1 (Ah a1)
 rw [ay b1] at o
 refine ps U (ps U (ps U (ps U (ps U (ps U (ps U (ps U (ps U (dU o U (aB U (nn (rj R ⟨U,(ab.aG 0 Z)⟩))))))))))))
 refine ps U (ps U (ps U (ps U (ps U (ps U (ps U (ps U (ps U (ps U (ps U (ps U (aC (v:=Bo ((decide (j.1 ≥ 0)) && (((decide (j.1 > 0)) || (s.kind == 6)) || (s.a == 0)))) U U (jc ag) (mB U (aD (d:=27) (b:=((decide (j.1 ≥ 0)) && (((decide (j.1 > 0)) || (s.kind == 6)) || (s.a == 0)))) U (fun a2=>?_) (fun a2=>?_)))))))))))))))
 exact gj a2 (Ah ag)
 refine ps U (ps U (ps U (ps U (ps U (ps U (ps U (ps U (ps U (ps U (aC (v:=Bo (((decide (j.1 ≥ 0)) && (((decide (j.1 > 0)) || (s.kind == 6)) || (s.a == 0))) && (((j.1 == 2) || j.2) || (s.b == 0)))) U U (jc a2) (mB U (aD (d:=39) (b:=(((decide (j.1 ≥ 0)) && (((decide (j.1 > 0)) || (s.kind == 6)) || (s.a == 0))) && (((j.1 == 2) || j.2) || (s.b == 0)))) U (fun b2=>?_) (fun b2=>?_)))))))))))))
 exact gj b2 (Ah a2)
 rw [ay b2] at o
 refine ps U (ps U (ps U (ps U (ps U (ps U (ps U (ps U (ps U (dU o U (aB U (nn (rj R ⟨U,(ab.aG 0 Z)⟩))))))))))))
 intro f w_ hR
 obtain ⟨hs,Z⟩:=rk R hR
 refine aA (aN (v1:=Bo e2) results193 hs ?_)
 obtain rfl:=so hF
 exact ⟨U,Z⟩
theorem lZ {r_:Db} {i:Int} {g_0:Nat} {v0_0:Value} {v0_1:Value} {H:FH} {w:World} {R:List Ass} (Z:ab H w (box g_0 131 #[v0_0,v0_1] :: oF 73 (ba 122) v0_0 r_.list :: oF 4 RP.bool v0_1 r_.gone :: R)) {r:Bool} (hF:iP r_ i=some r):C prog 194 #[Pt g_0,I i] w fun v w'=>∃ H':FH,Le H H'∧v=Bo r∧ab H' w' (box g_0 131 #[v0_0,v0_1] :: oF 73 (ba 122) v0_0 r_.list :: oF 4 RP.bool v0_1 r_.gone :: R):=by
 unfold iP at hF
 refine aE func194 U ntmps194 U (sq (aB U (nq ?_)))
 obtain ⟨x6,a4,hF⟩:=bind_some hF
 obtain ⟨a1,o,hF⟩:=bind_some hF
 obtain ⟨a5,J⟩:=ca fun f w_=>f 4=Bo a1∧ab H w_ (oF 73 (ba 122) v0_0 r_.list :: oF 4 RP.bool v0_1 r_.gone :: box g_0 131 #[v0_0,v0_1] :: R)
 refine av a5 ?_ ?_
 refine ae (mI U (mV (Pt g_0) U (hH U U (fA 0 jx U U (bw 0 Z isAgg28 U U U (aW U underlying28 U (ab.len 1 Z U) (db U U U ?_)))))))
 obtain ⟨b0,b2,a6,b3,bd⟩:=Z.borrow
 refine ar U call92 (k9 U U U) (dY (n_:=i) (low:=0) (high:=i64 ((r_.list.length:Int) - 1)) a6 a4) ?_
 rintro _ b4 ⟨rfl,Z⟩
 have Z:=bd Z c0
 refine mB U (aD (d:=13) (b:=x6) U (fun af=>?_) (fun af=>?_))
 rw [az af] at o
 obtain ⟨x8,an,o⟩:=bind_some o
 refine mV (Pt g_0) U (hH U U (fA 1 ox U U (bw 0 Z isAgg37 U U U (mI U ?_))))
 obtain ⟨b5,a2,ag,_,_⟩:=ab.row 2 Z U an
 refine bJ (R:=(OR.bu RP.bool)) (tb:=0) 0 U underlying37 sizeOf4 U ag (by first | rfl | simp) U an ?_
 obtain ⟨b1,a3,a0⟩:=ab.fE 2 Z U ag an
 obtain rfl:_=[_]:=a3
 refine bt U isAgg4 U (At.cell a0 (j:=0) U) (bL U U (dU o U (aB U (nn ?_))))
 have Z:=Z.aU [2,2] U
 exact rj J ⟨U,Z⟩
 rw [ay af] at o
 refine ps U (ps U (ps U (ps U (ps U (ps U (ps U (ps U (dU o U (aB U (nn ?_))))))))))
 have Z:=Z.aU [2,2] U
 exact rj J ⟨U,Z⟩
 intro f w_ hR
 obtain ⟨bs,Z⟩:=rk J hR
 refine aA (aN (v1:=Bo a1) results194 bs ?_)
 obtain rfl:=so hF
 have Z:=Z.aU [1,1,2] U
 exact ⟨H,(Le.refl _),U,Z⟩
theorem nH {slices:List (List Term)} {v0:Value} {H:FH} {w:World} (Z:ab H w []) (h0:(rS 71 (rS 122 au)).rel H [v0] slices) {r:List Term} (hF:eB slices=some r):C prog 212 #[v0] w fun v w'=>∃ (u1:Value),v=u1∧ab H w' [oF 122 au u1 r]:=by
 unfold eB at hF
 refine aE func212 U ntmps212 U (sq (aV S0 U (ns (aI U (nq (sq (mV v0 U (aW U underlying209 U (ai h0) (mI U (nn ?_))))))))))
 have e2:List.length slices≤9223372036854775807:=bB (ai h0)
 obtain ⟨j3,cp,hF⟩:=bind_some hF
 obtain ⟨R3,g1⟩:=ca fun f w_=>∃ af:Int,j3=.nx af∧f 0=v0∧f 3=I af∧ab H w_ ([])
 refine av R3 ?_ ?_
 refine ak ?_
 obtain ⟨I3,e3⟩:=ff fun n f w_=>∃ bd:Nat,∃ a3:List (List Term),∃ af:Int,n=a3.length∧List.drop bd slices=a3∧bd+a3.length=slices.length∧aw ct a3 bd af=some j3∧f 0=v0∧f 3=I af∧f 9=v0∧f 10=I (slices.length:Int)∧f 11=I bd∧ab H w_ ([])
 refine a8 I3 (n:=slices.length) ?_ ?_
 exact ij e3 ⟨0,slices,0,U,U,Nat.zero_add _,cp,U,U,U,U,U,Z⟩
 intro n3 f w_ hI
 obtain ⟨bd,a3,af,rfl,g2,dj,cp,a0,c1,ds,b5,bs,Z⟩:=ik e3 hI
 refine sq (bh U bs b5 (nq (al (b:=decide ((bd:Int)<(slices.length:Int))) U (fun e4=>?_) (fun e4=>?_))))
 have g3:=of_decide_eq_true e4
 rcases a3 with _ | ⟨e5,c2⟩
 exact absurd g3 (by simp at dj; omega)
 obtain ⟨o3,ec,cp⟩:=aJ cp
 rw [ct] at ec
 have g4:=aY g2
 refine aq (ao (ak (sq (bP (r:=(rS 122 au)) U underlying209 sizeOf71 ds h0 bs g4 (fun g9 hy hn b3 fa=>?_)))))
 obtain ⟨g5,rfl,g6⟩:=kP b3
 refine bt U isAgg71 U (At.cell (dn.at fa Z.sub) (j:=0) U) (aV g5 U (ns (mF c1 U (mV g5 U (aW U underlying71 U (ai g6) (bf U U U (aI U (ns (mI U (bh U U U (nn ?_)))))))))))
 obtain ⟨_,b0,ec⟩:=bind_some ec
 obtain ⟨ho,ek⟩:=ca fun f w_=>f 0=v0∧f 3=I (i64 (af+(e5.length:Int)))∧f 9=v0∧f 10=I (slices.length:Int)∧f 11=I bd∧ab H w_ ([])
 refine av ho ?_ ?_
 refine al (b:=decide ((i64 (af+(e5.length:Int)))<0)) U (fun c3=>?_) (fun c3=>?_)
 have b0:=(az c3).symm.trans b0
 cases b0
 have b0:=(ay c3).symm.trans b0
 refine aq (rj ek ⟨a0,U,ds,b5,bs,Z⟩)
 intro f w_ hR
 obtain ⟨a0,c1,ds,b5,bs,Z⟩:=rk ek hR
 refine ae (bf U bs U (mI U (nn ?_)))
 obtain rfl:=so ec
 show ∃ m,m<_∧I3 m _ _
 refine ⟨c2.length,by simp,?_⟩
 exact ij e3 ⟨bd+1,c2,i64 (af+(e5.length:Int)),U,aL g2,by simp at dj; omega,cp,a0,c1,ds,b5,((eI (aO (n:=slices.length) (by simp at dj; omega) e2))),Z⟩
 rcases a3 with _ | ⟨_,_⟩
 obtain rfl:=aT cp
 refine a9 (rj g1 ⟨af,U,a0,c1,Z⟩)
 exact absurd (of_decide_eq_false e4) (by simp at dj; omega)
 intro f w_ hR
 obtain ⟨af,rfl,a0,c1,Z⟩:=rk g1 hR
 refine ao ?_
 obtain ⟨b1,g7,hF⟩:=bind_some hF
 refine ae (mF c1 U ?_)
 obtain ⟨g8,c4⟩:∃ RV_:Value→World→Prop,RV_=fun v w_=>∃ ag,v=ag∧ab H w_ ([oF 122 au ag b1]):=⟨_,U⟩
 refine ar (args:=#[S0,I af]) (R:=g8) U call219 (cu U U) ?_ ?_
 refine aE func219 U ntmps219 U ?_
 have a5:=g7
 unfold eM at a5
 refine sq (aV S0 U (nq (sq (mI U (bh U U U (nn ?_))))))
 obtain ⟨_,b2,a5⟩:=bind_some a5
 obtain ⟨hp,en⟩:=ca fun f w_=>f 0=S0∧f 1=I af∧ab H w_ ([])
 refine av hp ?_ ?_
 refine al (b:=decide (af<0)) U (fun c5=>?_) (fun c5=>?_)
 have b2:=(az c5).symm.trans b2
 cases b2
 have b2:=(ay c5).symm.trans b2
 refine aq (rj en ⟨U,U,Z⟩)
 intro f w_ hR
 obtain ⟨a0,hq,Z⟩:=rk en hR
 refine ao (sq (mF hq U (mF a0 U (Cv U underlying71 U (mF a0 U (aW U underlying71 U (ai (r:=RP.int) (t:=0) (fw _ _ H)) (db U U U (db U U U (aI U (ns (mI U (c9 U U U (nn ?_)))))))))))))
 obtain ⟨ha,an,a5⟩:=bind_some a5
 obtain ⟨hr,c6⟩:=ca fun f w_=>∃ a2,f 0=a2∧ab H w_ ([oF 122 au a2 ha])
 refine av hr ?_ ?_
 refine al (b:=decide ((i64 (af - (i64 (0 - 0)))) > 0)) U (fun c7=>?_) (fun c7=>?_)
 have an:=(az c7).symm.trans an
 obtain ⟨hz,hb,an⟩:=bind_some an
 obtain ⟨hA,hc,an⟩:=bind_some an
 refine ae (mF a0 U (mF a0 U (Cv U underlying71 U (FI U lN U U (mI U (Fg (R:=(OR.bu au)) (z0:=({ coef:=0,lit:=0 }:Term)) (zc:=[I 0,I 0]) U lN underlying3 (by kernel_rfl) (fun _ _=>⟨U,bM.2 U⟩) U U hb Z (fun hB hC Z=>mF a0 U (aW U underlying71 U (ai (r:=RP.int) (t:=0) (fw _ _ H)) (Et (R:=(OR.bu au)) (b:=0) U lN U Z trivial U hc (fun hf Z=>aV hf U (nn ?_)))))))))))
 obtain rfl:=so an
 exact rj c6 ⟨hf,U,Z⟩
 have an:=(ay c7).symm.trans an
 refine aq ?_
 obtain rfl:=so an
 have Z:=ab.bE (R:=(OR.bu au)) (e:=122) Z
 exact rj c6 ⟨S0,a0,Z⟩
 intro f w_ hR
 obtain ⟨a2,a0,Z⟩:=rk c6 hR
 refine sq (mF a0 U (aV a2 U (nn (aA (aN (v1:=a2) results219 U ?_)))))
 obtain rfl:=so a5
 show g8 _ _
 rw [c4]
 exact ⟨a2,U,Z⟩
 intro hv w_ hR
 rw [c4] at hR
 obtain ⟨ag,fo,Z⟩:=hR
 obtain rfl:=fo.symm
 clear c4
 refine aV ag U (nq (sq (mF a0 U (aW U underlying209 U (ai h0) (mI U (nn ?_))))))
 have ee:List.length slices≤9223372036854775807:=bB (ai h0)
 obtain ⟨hg,a6,hF⟩:=bind_some hF
 obtain ⟨hs,et⟩:=ca fun f w_=>∃ J:List Term,∃ o,hg=.nx J∧f 6=o∧ab H w_ ([oF 122 au o J])
 refine av hs ?_ ?_
 refine ak ?_
 obtain ⟨hh,c8⟩:=ff fun n f w_=>∃ a4:Nat,∃ a1:List (List Term),∃ J:List Term,∃ o,n=a1.length∧List.drop a4 slices=a1∧a4+a1.length=slices.length∧aw eN a1 a4 J=some hg∧f 6=o∧f 25=v0∧f 26=I (slices.length:Int)∧f 27=I a4∧ab H w_ ([oF 122 au o J])
 refine a8 hh (n:=slices.length) ?_ ?_
 exact ij c8 ⟨0,slices,b1,ag,U,U,Nat.zero_add _,a6,U,U,U,U,Z⟩
 intro hD f w_ hI
 obtain ⟨a4,a1,J,o,rfl,eu,b8,a6,ej,e0,e1,dd,Z⟩:=ik c8 hI
 refine sq (bh U dd e1 (nq (al (b:=decide ((a4:Int)<(slices.length:Int))) U (fun dg=>?_) (fun dg=>?_))))
 have fs:=of_decide_eq_true dg
 rcases a1 with _ | ⟨hx,ch⟩
 exact absurd fs (by simp at b8; omega)
 obtain ⟨hE,cn,a6⟩:=aJ a6
 rw [eN] at cn
 have fu:=aY eu
 refine aq (ao (ak (sq (bP (r:=(rS 122 au)) U underlying209 sizeOf71 e0 h0 dd fu (fun hG hJ hl b4 gd=>?_)))))
 obtain ⟨g0,rfl,hi⟩:=kP b4
 refine bt U isAgg71 U (At.cell (dn.at gd Z.sub) (j:=0) U) (aV g0 U (nn ?_))
 obtain ⟨ht,hj,cn⟩:=bind_some cn
 refine ae (mF ej U (mV g0 U (qZ (v:=o) (u:=g0) U lN U U Z hi hj (fun hk hK Z=>aV hk U (nn (ae (bf U dd U (mI U (nn ?_)))))))))
 obtain rfl:=so cn
 show ∃ m,m<_∧hh m _ _
 refine ⟨ch.length,by simp,?_⟩
 exact ij c8 ⟨a4+1,ch,ht,hk,U,aL eu,by simp at b8; omega,a6,U,e0,e1,((eI (aO (n:=slices.length) (by simp at b8; omega) ee))),Z⟩
 rcases a1 with _ | ⟨_,_⟩
 obtain rfl:=aT a6
 refine a9 (rj et ⟨J,o,U,ej,Z⟩)
 exact absurd (of_decide_eq_false dg) (by simp at b8; omega)
 intro f w_ hR
 obtain ⟨J,o,rfl,ej,Z⟩:=rk et hR
 refine sq (mF ej U (aV o U (nn (aA (aN (v1:=o) results212 U ?_)))))
 obtain rfl:=so hF
 exact ⟨o,U,Z⟩
theorem rK {a:Con} {b:Con} {v0_0:Value} {v1_0:Value} {H:FH} {w:World} {R:List Ass} (Z:ab H w R) (h0_0:(rS 122 au).rel H [v0_0] a.terms) (h1_0:(rS 122 au).rel H [v1_0] b.terms) {r:Con × Bool} (hF:iw a b=some r):C prog 195 #[.agg #[v0_0,I a.bound],.agg #[v1_0,I b.bound]] w fun v w'=>∃ H':FH,Le H H'∧∃ (u1:Value),v=.tuple #[.agg #[u1,I r.1.bound],Bo r.2]∧(rS 122 au).rel H' [u1] r.1.terms∧ab H' w' (R):=by
 unfold iw at hF
 refine aE func195 U ntmps195 U (sq (cr (v:=.agg #[v0_0,I a.bound]) (cs:=#[v0_0,I a.bound]) U U U Z (fun g7 w8 Z=>cr (v:=.agg #[v1_0,I b.bound]) (cs:=#[v1_0,I b.bound]) U U U Z (fun g9 ha Z=>dS (cs:=#[S0,I 0]) U zeroValue73 U Z (fun a2 hb Z=>aB U (nq (ao ?_)))))))
 obtain ⟨ej,c2,hF⟩:=bind_some hF
 obtain ⟨c3,an,hF⟩:=bind_some hF
 obtain ⟨ek,a4⟩:=ca fun f w_=>f 2=Pt g7∧f 3=Pt g9∧f 4=Pt a2∧f 13=Bo c3∧ab H w_ (box a2 73 #[S0,I 0] :: box g9 73 #[v1_0,I b.bound] :: box g7 73 #[v0_0,I a.bound] :: R)
 refine av ek ?_ ?_
 refine ae (a7 (cs:=[v0_0,I a.bound]) U isAgg73 sizeOf73 U (At.bK (de.at (ab.aM 2 Z U)) 0 2) U ?_)
 obtain ⟨g5,en,et,hc,eu⟩:=Z.borrow
 refine ar U call130 (b9 U) (bZ (c:=a) et (RP.mono _ h0_0 en) c2) ?_
 rintro _ hf ⟨rfl,Z⟩
 have Z:=eu Z c0
 refine bL U U (mB U (aD (d:=9) (b:=(!ej)) U (fun a5=>?_) (fun a5=>?_)))
 rw [az a5] at an
 refine ps U (ps U (ps U (dU an U (nn (rj a4 ⟨U,U,U,U,Z⟩)))))
 rw [ay a5] at an
 obtain ⟨hg,c4,an⟩:=bind_some an
 refine a7 (cs:=[v1_0,I b.bound]) U isAgg73 sizeOf73 U (At.bK (de.at (ab.aM 1 Z U)) 0 2) U ?_
 obtain ⟨g6,e0,e1,hh,e2⟩:=Z.borrow
 refine ar U call130 (b9 U) (bZ (c:=b) e1 (RP.mono _ h1_0 e0) c4) ?_
 rintro _ hi ⟨rfl,Z⟩
 have Z:=e2 Z c0
 refine bL U U (dU an U (nn (rj a4 ⟨U,U,U,U,Z⟩)))
 intro f w_ hR
 obtain ⟨c5,c6,bs,c7,Z⟩:=rk a4 hR
 refine al (b:=c3) c7 (fun a6=>?_) (fun a6=>?_)
 have hF:=(az a6).symm.trans hF
 refine sq (da U (cC ) (eg  ) (bg (vs:=#[S0,I 0]) (cs2:=#[S0,I 0]) 0 U sizeOf73 bs U U (aj U (aj U aK)) Z U (by show 0+2≤2; decide) U (fun hj Z=>aB U (nn (aA (dc (v1:=.agg #[S0,I 0]) (v2:=Bo false) results195 (bC isAgg73 sizeOf73 bs (ab.aM 0 Z U) U) U ?_))))))
 obtain rfl:=so hF
 have Z:=ab.drop 0 Z U
 have Z:=ab.drop 0 Z U
 have Z:=ab.drop 0 Z U
 exact ⟨H,(Le.refl _),S0,U,(fw _ _ _),Z⟩
 have hF:=(ay a6).symm.trans hF
 refine aq (ao ?_)
 obtain ⟨b0,c8,hF⟩:=bind_some hF
 obtain ⟨J,dd,hF⟩:=bind_some hF
 refine bT 14 [aZ (Pt g7),aZ (v0_0),aZ (Pt g9),aZ (v1_0),gE,gE,aZ (Pq g7 1),aZ (I a.bound),aZ (Pq g9 1),aZ (I b.bound),aZ (I (i64 (a.bound+b.bound))),sm (tf (eJ (rS 122 au) J.1.terms) fun cn=>aZ (.agg #[cn,I J.1.bound])) (aZ (Bo J.2)),tf (eJ (rS 122 au) J.1.terms) fun cn=>aZ (.agg #[cn,I J.1.bound]),aZ (Bo J.2)] [box a2 73 #[S0,I 0],box g9 73 #[v1_0,I b.bound],box g7 73 #[v0_0,I a.bound]] [.made 4 19 (fun v_=>oF 71 (rS 122 au) v_ ([a.terms,b.terms])) none,.made 5 20 (fun v_=>oF 122 au v_ b0) (some 11)] (R) [([],[]),([],[]),([],[]),([],[]),([],[0]),([0],[0,1]),([],[]),([],[]),([],[]),([],[]),([],[]),([1],[]),([],[]),([],[])] (S:=[(some 4,[19],none),(some 5,[20],some 11)]) aP (by kernel_rfl) U (by kernel_rfl) (ad (ah _) (ad (ah _) (ad (ah _) (ad (ah _) (ad (bO) (ad (bO) (ad (ah _) (ad (ah _) (ad (ah _) (ad (ah _) (ad (ah _) (ad (fZ (dk (cA _ _) fun _=>ah _) (ah _)) (ad (dk (cA _ _) fun _=>ah _) (ad (ah _) bV)))))))))))))) Z ?_ (fun f w_ a0 ag j ch Z=>?_)
 refine aa (fun f w_ _ _ s _ _ Z=>fA 0 ck ((s 2 U).trans c5) U (nO U U Z)) (aa (fun f w_ _ _ _ _ p Z=>bw 2 Z isAgg71 (p 0 15 U U) U U (nO U U Z)) (aa (fun f w_ _ _ s _ _ Z=>fA 0 ck ((s 3 U).trans c6) U (nO U U Z)) (aa (fun f w_ _ _ _ _ p Z=>bw 1 Z isAgg71 (p 2 17 U U) U U (nO U U Z)) (aa ?_ ?_))))
 intro f w_ a0 a3 ag j o Z
 refine cS U (iB (o 1 16 U U) (o 3 18 U U)) (xD (v0_0) (v1_0) (aH (ai (RP.mono _ h0_0 j))) (aH (ai (RP.mono _ h1_0 j)))) Z (fun hk hl Z=>?_)
 have Z:=ab.dr (r:=(rS 122 au)) (cs:=[v1_0]) (x:=b.terms) Z (RP.mono _ h1_0 j)
 have Z:=ab.dr (r:=(rS 122 au)) (cs:=[v0_0]) (x:=a.terms) Z (RP.mono _ h0_0 j)
 have Z:=ab.bS (R:=(OR.bu (rS 122 au))) [([v0_0],a.terms),([v1_0],b.terms)] [a.terms,b.terms] 2 Z U U U (by decide)
 have Z:=Z.aU [3,3,3] U
 exact ax ⟨U,_,_,U,Le.refl _,fun _ _=>trivial,Z⟩
 refine aa ?_ ?_
 intro f w_ a0 a3 ag j o Z
 have Z:ab a0 w_ (box a2 73 #[S0,I 0] :: box g9 73 #[v1_0,I b.bound] :: box g7 73 #[v0_0,I a.bound] :: oF 71 (rS 122 au) (f 19) ([a.terms,b.terms]) :: a3):=Z
 obtain ⟨dg,hn,e3,e4,e5⟩:=Z.borrow
 have dj:(rS 71 (rS 122 au)).rel dg [(f 19)] ([a.terms,b.terms]):=cg 3 e4 U
 refine ar U call212 (b9 U) (nH (slices:=[a.terms,b.terms]) e3 dj c8) ?_
 rintro fa ho ⟨_,rfl,Z⟩
 have Z:=e5 Z (co bI c0)
 have Z:=Z.aU [4,4,4,4] U
 exact ax ⟨U,_,_,U,Le.refl _,fun _ _=>trivial,Z⟩
 refine aa (fun f w_ _ _ s _ _ Z=>fA 1 fy ((s 2 U).trans c5) U (nO U U Z)) (aa (fun f w_ _ _ _ _ p Z=>bw 2 Z isAgg3 (p 6 21 U U) U U (nO U U Z)) (aa (fun f w_ _ _ s _ _ Z=>fA 1 fy ((s 3 U).trans c6) U (nO U U Z)) (aa (fun f w_ _ _ _ _ p Z=>bw 1 Z isAgg3 (p 8 23 U U) U U (nO U U Z)) (aa (fun f w_ _ _ _ _ p Z=>bf U (p 7 22 U U) (p 9 24 U U) (nO U U Z)) (aa ?_ ?_)))))
 intro f w_ a0 a3 ag j o Z
 have Z:ab a0 w_ (box a2 73 #[S0,I 0] :: box g9 73 #[v1_0,I b.bound] :: box g7 73 #[v0_0,I a.bound] :: oF 122 au (f 20) b0 :: a3):=Z
 have Z:=Z.get 3 U
 obtain ⟨fo,fs,Z,bd⟩:=ab.freeze Z
 have bd:(rS 122 au).rel fo [(f 20)] b0:=bd
 refine ar U call102 (cu U (o 10 25 U U)) (uI (terms:=b0) (bound:=i64 (a.bound+b.bound)) Z bd dd) ?_
 rintro _ hp ⟨hq,fu,gd,rfl,b1,Z⟩
 exact ax ⟨U,_,_,U,(Le.trans fs fu),fun _ _=>⟨_,_,U,⟨_,b1,U⟩,U⟩,Z⟩
 refine aa ?_ ?_
 intro f w_ a0 a3 ag j o Z
 obtain ⟨g0,g1,ds,b2,b3⟩:=(o 11 26 U U)
 obtain ⟨cp,b4,rfl⟩:=b2
 obtain rfl:=b3
 refine dF (v:=.agg #[cp,I J.1.bound]) U ds U (ax ⟨U,_,_,U,Le.refl _,fun _ _=>⟨_,b4,U⟩,Z⟩)
 refine aa ?_ ?_
 intro f w_ a0 a3 ag j o Z
 obtain ⟨g2,g3,ec,b5,b8⟩:=(o 11 26 U U)
 obtain ⟨g4,ee,rfl⟩:=b5
 obtain rfl:=b8
 refine dF (v:=Bo J.2) U ec U (ax ⟨U,_,_,U,Le.refl _,fun _ _=>rfl,Z⟩)
 exact aQ
 have Z:ab a0 w_ (box a2 73 #[S0,I 0] :: box g9 73 #[v1_0,I b.bound] :: box g7 73 #[v0_0,I a.bound] :: oF 71 (rS 122 au) (f 19) ([a.terms,b.terms]) :: R):=Z
 obtain ⟨af,a1,c1⟩:=(ch 12 27 U U)
 refine bg (vs:=#[af,I J.1.bound]) (cs2:=#[af,I J.1.bound]) 0 U sizeOf73 ((ag 4 U).trans bs) c1 U (aj (aH (ai a1)) (aj U aK)) Z U (by show 0+2≤2; decide) U (fun g8 Z=>aF (ch 13 28 U U) U (nn (aA (dc (v1:=.agg #[af,I J.1.bound]) (v2:=Bo J.2) results195 (bC isAgg73 sizeOf73 ((ag 4 U).trans bs) (ab.aM 0 Z U) U) U ?_))))
 obtain rfl:=so hF
 have Z:=ab.drop 0 Z U
 have Z:=ab.drop 0 Z U
 have Z:=ab.drop 0 Z U
 have Z:=ab.drop 0 Z U
 exact ⟨a0,j,af,U,a1,Z⟩
theorem kO {c:Con} {change:(Int→Option Int)} {v0_0:Value} {v1:Value} {H:FH} {w:World} {R:List Ass} (Z:ab H w R) (h0_0:(rS 122 au).rel H [v0_0] c.terms) (h1:lQ prog RP.int false (Value.int .i64) change v1 H) {r:Con × Bool} (hF:ea c change=some r):C prog 213 #[.agg #[v0_0,I c.bound],v1] w fun v w'=>∃ H':FH,Le H H'∧∃ (u1:Value),v=.tuple #[.agg #[u1,I r.1.bound],Bo r.2]∧(rS 122 au).rel H' [u1] r.1.terms∧ab H' w' (R):=by
 unfold ea at hF
 obtain ⟨bs,a4,rfl,a5,dj⟩:=h1
 refine aE func213 U ntmps213 U (sq (cr (v:=.agg #[v0_0,I c.bound]) (cs:=#[v0_0,I c.bound]) U U U Z (fun g5 w6 Z=>dS (cs:=#[S0,I 0]) U zeroValue73 U Z (fun g7 w8 Z=>aB U (nq ?_)))))
 obtain ⟨an,et,hF⟩:=bind_some hF
 refine ae (a7 (cs:=[v0_0,I c.bound]) U isAgg73 sizeOf73 U (At.bK (de.at (ab.aM 1 Z U)) 0 2) U ?_)
 obtain ⟨hh,fs,fu,hn,gd⟩:=Z.borrow
 refine ar U call159 (b9 U) (mZ (c:=c) fu (RP.mono _ h0_0 fs) et) ?_
 rintro _ ho ⟨J,rfl,Z⟩
 have Z:=gd Z (co bI c0)
 refine dS (cs:=#[S0,I 0]) U zeroValue73 U Z (fun b0 hp Z=>bg (vs:=#[J,I an.bound]) (cs2:=#[J,I an.bound]) 0 U sizeOf73 U U U (aj (aH (ab.len 1 Z U)) (aj U aK)) Z U (by show 0+2≤2; decide) U (fun hq Z=>nq ?_))
 obtain ⟨b1,eu,hF⟩:=bind_some hF
 refine ae (mV (.func (.func bs) #[] a4) U (fA 1 fy U U (bw 3 Z isAgg3 U U U ?_)))
 obtain ⟨hi,g0,g1,hr,g2⟩:=Z.borrow
 refine lD (args:=#[I c.bound]) U a5 U (b9 U) (dj _ _ g0 g1 [I c.bound] _ _ _ U eu (lG U)) ?_
 rintro _ hs ⟨rfl,Z⟩
 have Z:=g2 Z c0
 refine fA 1 fy U U (ei (v:=I b1) (cs2:=#[J,I b1]) 0 U sizeOf3 U U U Z U U U (fun ht Z=>nq (sq (fA 0 ck U U (bw 0 Z isAgg71 U U U (aW U underlying71 U (ab.len 1 Z U) (mI U (nn ?_))))))))
 have dd:List.length an.terms≤9223372036854775807:=bB (ab.len 1 Z U)
 obtain ⟨e0,a2,hF⟩:=bind_some hF
 obtain ⟨g3,ds⟩:=ca fun f w_=>∃ o:List Term,∃ a6,e0=.nx o∧Le H a6∧f 4=Pt g7∧f 6=Pt b0∧ab a6 w_ (oF 122 au J o :: box b0 73 #[J,I b1] :: box g7 73 #[S0,I 0] :: R)
 refine av g3 ?_ ?_
 refine ak ?_
 obtain ⟨e1,c1⟩:=ff fun n f w_=>∃ af:Nat,∃ ag:List Term,∃ o:List Term,∃ a6,n=ag.length∧List.drop af an.terms=ag∧af+ag.length=an.terms.length∧aw (dZ change) ag af o=some e0∧Le H a6∧f 1=.func (.func bs) #[] a4∧f 4=Pt g7∧f 6=Pt b0∧f 17=I (an.terms.length:Int)∧f 18=I af∧ab a6 w_ (oF 122 au J o :: box b0 73 #[J,I b1] :: box g7 73 #[S0,I 0] :: R)
 have Z:=Z.aU [2,1,2] U
 have Z:=ab.drop 3 Z U
 refine a8 e1 (n:=an.terms.length) ?_ ?_
 exact ij c1 ⟨0,an.terms,an.terms,H,U,U,Nat.zero_add _,a2,(Le.refl _),U,U,U,U,U,Z⟩
 intro hv f w_ hI
 obtain ⟨af,ag,o,a6,rfl,ec,b2,a2,c2,e2,c3,cn,ee,c4,Z⟩:=ik c1 hI
 refine sq (bh U c4 ee (nq (al (b:=decide ((af:Int)<(an.terms.length:Int))) U (fun c5=>?_) (fun c5=>?_))))
 have ej:=of_decide_eq_true c5
 rcases ag with _ | ⟨hj,b3⟩
 exact absurd ej (by simp at b2; omega)
 obtain ⟨hx,a3,a2⟩:=aJ a2
 rw [dZ] at a3
 have g4:=aY ec
 refine aq (ao (ak (sq (mF c4 U (aI U (nn ?_))))))
 obtain ⟨c6,bd,a3⟩:=bind_some a3
 obtain ⟨dg,e3,a3⟩:=bind_some a3
 obtain ⟨e4,e5,b4,_,_⟩:=ab.row 0 Z U bd
 refine cv 11 [Pt b0,J,I af,Value.func (.func bs) #[] a4,Pt b0,J,I af,Value.pointer (some ⟨e4,Int.toNat (af:Int) * 2,none⟩),Value.pointer (some ⟨e4,Int.toNat (af:Int) * 2+0,none⟩),I c6.coef,I dg] [oF 122 au J o,box b0 73 #[J,I b1],box g7 73 #[S0,I 0]] [] (R) [([],[]),([],[]),([],[]),([],[]),([],[]),([],[]),([],[]),([],[]),([],[]),([],[]),([],[])] (S:=[]) aP (by kernel_rfl) U (by kernel_rfl) Z ?_ (fun f w_ ek a0 b5 c7 Z=>?_)
 refine aa (fun f w_ _ _ s _ _ Z=>fA 0 ck ((s 6 U).trans cn) U (nO U U Z)) (aa (fun f w_ _ _ _ _ p Z=>bw 1 Z isAgg71 (p 0 21 U U) U U (nO U U Z)) (aa (fun f w_ _ _ s _ _ Z=>mF ((s 7 U).trans U) U (nO U U Z)) (aa (fun f w_ _ _ s _ _ Z=>mF ((s 1 U).trans e2) U (nO U U Z)) (aa (fun f w_ _ _ s _ _ Z=>fA 0 ck ((s 6 U).trans cn) U (nO U U Z)) (aa (fun f w_ _ _ _ _ p Z=>bw 1 Z isAgg71 (p 4 25 U U) U U (nO U U Z)) (aa (fun f w_ _ _ s _ _ Z=>mF ((s 7 U).trans U) U (nO U U Z)) (aa (fun f w_ _ _ _ _ p Z=>bJ (R:=(OR.bu au)) (tb:=0) 0 U underlying71 sizeOf122 (p 5 26 U U) b4 (by first | rfl | simp) (p 6 27 U U) bd (nO U U Z)) (aa (fun f w_ _ _ _ _ p Z=>fA (Int.toNat (af:Int) * 2+0) ep (p 7 28 U U) U (nO U U Z)) (aa ?_ ?_)))))))))
 intro f w_ ek g6 a0 b5 b8 Z
 obtain ⟨hk,fa,en⟩:=ab.fE 0 Z U b4 bd
 obtain rfl:=bM.1 fa
 refine bt U isAgg3 (b8 8 29 U U) (At.cell en (j:=0) U) (ax ⟨U,_,_,U,Le.refl _,fun _ _=>rfl,Z⟩)
 refine aa ?_ ?_
 intro f w_ ek g6 a0 b5 b8 Z
 obtain ⟨hl,g8,g9,hy,ha⟩:=Z.borrow
 refine lD (args:=#[I c6.coef]) U a5 (b8 3 24 U U) (b9 (b8 9 30 U U)) (dj _ _ (Le.trans (Le.trans c2 b5) g8) g9 [I c6.coef] _ _ _ U e3 (lG U)) ?_
 rintro _ hz ⟨rfl,Z⟩
 have Z:=ha Z c0
 exact ax ⟨U,_,_,U,Le.refl _,fun _ _=>rfl,Z⟩
 exact aQ
 refine bJ (R:=(OR.bu au)) (tb:=0) 0 U underlying71 sizeOf122 (c7 1 22 U U) b4 (by first | rfl | simp) (c7 2 23 U U) bd (fA (Int.toNat (af:Int) * 2+0) ep U U (BV (j:=0) (u:=I dg) (z:={ c6 with coef:=dg }) U sizeOf3 U U (c7 10 31 U U) U b4 Z bd xw (fun hA Z=>nn (ae (bf U ((a0 18 U).trans c4) U (mI U (nn ?_)))))))
 obtain rfl:=so a3
 show ∃ m,m<_∧e1 m _ _
 refine ⟨b3.length,by simp,?_⟩
 exact ij c1 ⟨af+1,b3,(o.set (Int.toNat (af:Int)) ({ c6 with coef:=dg })),ek,U,aL ec,by simp at b2; omega,a2,(Le.trans c2 b5),((a0 1 U).trans e2),((a0 4 U).trans c3),((a0 6 U).trans cn),((a0 17 U).trans ee),((eI (aO (n:=an.terms.length) (by simp at b2; omega) dd))),Z⟩
 rcases ag with _ | ⟨_,_⟩
 obtain rfl:=aT a2
 refine a9 (rj ds ⟨o,a6,U,c2,c3,cn,Z⟩)
 exact absurd (of_decide_eq_false c5) (by simp at b2; omega)
 intro f w_ hR
 obtain ⟨o,a6,rfl,c2,c3,cn,Z⟩:=rk ds hR
 refine ao ?_
 obtain ⟨cp,fo,hF⟩:=bind_some hF
 refine ae (a7 (cs:=[J,I b1]) U isAgg73 sizeOf73 cn (At.bK (de.at (ab.aM 1 Z U)) 0 2) U ?_)
 obtain ⟨hb,hc,Z,c8⟩:=ab.freeze Z
 have c8:(rS 122 au).rel hb [J] o:=c8
 refine ar U call144 (b9 U) (lJ (c:=({ terms:=o,bound:=b1 }:Con)) Z c8 fo) ?_
 rintro _ hB ⟨hf,hg,a1,rfl,ch,Z⟩
 refine dF (v:=.agg #[a1,I cp.1.bound]) U U U (dF (v:=Bo cp.2) U U U (bg (vs:=#[a1,I cp.1.bound]) (cs2:=#[a1,I cp.1.bound]) 1 U sizeOf73 c3 U U (aj (aH (ai ch)) (aj U aK)) Z U (by show 0+2≤2; decide) U (fun hC Z=>aB U (nn (aA (dc (v1:=.agg #[a1,I cp.1.bound]) (v2:=Bo cp.2) results213 (bC isAgg73 sizeOf73 c3 (ab.aM 0 Z U) U) U ?_))))))
 obtain rfl:=so hF
 have Z:=ab.drop 0 Z U
 have Z:=ab.drop 0 Z U
 exact ⟨hf,(Le.trans (Le.trans c2 hc) hg),a1,U,ch,Z⟩
theorem nD {c1:Int} {n_:Int} {g_c1:Nat} {H:FH} {w:World} (Z:ab H w []) (hat_g_c1:dn H g_c1 0 [I c1]) {r:Int} (hF:cQ c1 n_=some r):C prog 214 #[I n_,Pt g_c1] w fun v w'=>v=I r∧ab H w' []:=by
 unfold cQ at hF
 refine aE func214 U ntmps214 U (sq (aI U (ns (mI U (bt U isAgg3 U (At.ll (dn.at hat_g_c1 Z.sub) (j:=0) U) (rf U U U (aI U (nn (aA (aN (v1:=I (i64 (n_ * c1))) results214 U ?_))))))))))
 obtain rfl:=so hF
 exact ⟨U,Z⟩
theorem oM {c:Con} {k:Int} {v0_0:Value} {H:FH} {w:World} {R:List Ass} (Z:ab H w R) (h0_0:(rS 122 au).rel H [v0_0] c.terms) {r:Con × Bool} (hF:fl c k=some r):C prog 196 #[.agg #[v0_0,I c.bound],I k] w fun v w'=>∃ H':FH,Le H H'∧∃ (u1:Value),v=.tuple #[.agg #[u1,I r.1.bound],Bo r.2]∧(rS 122 au).rel H' [u1] r.1.terms∧ab H' w' (R):=by
 unfold fl at hF
 refine aE func196 U ntmps196 U (sq (cr (v:=.agg #[v0_0,I c.bound]) (cs:=#[v0_0,I c.bound]) U U U Z (fun g7 w8 Z=>cr (v:=I k) (cs:=#[I k]) U U U Z (fun g9 dd Z=>dS (cs:=#[S0,I 0]) U zeroValue73 U Z (fun a4 dg Z=>aB U (nq (ao ?_)))))))
 obtain ⟨b4,a5,hF⟩:=bind_some hF
 obtain ⟨a6,o,hF⟩:=bind_some hF
 obtain ⟨b5,an⟩:=ca fun f w_=>f 2=Pt g7∧f 3=Pt g9∧f 4=Pt a4∧f 13=Bo a6∧ab H w_ (box a4 73 #[S0,I 0] :: box g9 3 #[I k] :: box g7 73 #[v0_0,I c.bound] :: R)
 refine av b5 ?_ ?_
 refine ae (a7 (cs:=[v0_0,I c.bound]) U isAgg73 sizeOf73 U (At.bK (de.at (ab.aM 2 Z U)) 0 2) U ?_)
 obtain ⟨c7,b8,ch,dj,cn⟩:=Z.borrow
 refine ar U call130 (b9 U) (bZ (c:=c) ch (RP.mono _ h0_0 b8) a5) ?_
 rintro _ ds ⟨rfl,Z⟩
 have Z:=cn Z c0
 refine bL U U (mB U (aD (d:=9) (b:=(!b4)) U (fun a0=>?_) (fun a0=>?_)))
 rw [az a0] at o
 refine ps U (ps U (ps U (dU o U (nn (rj an ⟨U,U,U,U,Z⟩)))))
 rw [ay a0] at o
 obtain ⟨ec,bd,o⟩:=bind_some o
 refine bw 1 Z isAgg3 U U U ?_
 obtain ⟨c8,ee,cp,ej,c2⟩:=Z.borrow
 refine ar U call92 (k9 U U U) (dY (n_:=k) (low:=1) (high:=1000) cp bd) ?_
 rintro _ ek ⟨rfl,Z⟩
 have Z:=c2 Z c0
 refine bL U U (dU o U (nn (rj an ⟨U,U,U,U,Z⟩)))
 intro f w_ hR
 obtain ⟨c3,c4,a2,bs,Z⟩:=rk an hR
 refine al (b:=a6) bs (fun a1=>?_) (fun a1=>?_)
 have hF:=(az a1).symm.trans hF
 refine sq (da U (cC ) (eg  ) (bg (vs:=#[S0,I 0]) (cs2:=#[S0,I 0]) 0 U sizeOf73 a2 U U (aj U (aj U aK)) Z U (by show 0+2≤2; decide) U (fun en Z=>aB U (nn (aA (dc (v1:=.agg #[S0,I 0]) (v2:=Bo false) results196 (bC isAgg73 sizeOf73 a2 (ab.aM 0 Z U) U) U ?_))))))
 obtain rfl:=so hF
 have Z:=ab.drop 0 Z U
 have Z:=ab.drop 0 Z U
 have Z:=ab.drop 0 Z U
 exact ⟨H,(Le.refl _),S0,U,(fw _ _ _),Z⟩
 have hF:=(ay a1).symm.trans hF
 refine aq (ao ?_)
 obtain ⟨af,b0,hF⟩:=bind_some hF
 refine ae (a7 (cs:=[v0_0,I c.bound]) U isAgg73 sizeOf73 c3 (At.bK (de.at (ab.aM 2 Z U)) 0 2) U (yt U (b9 c4) ?_))
 have Z:=Z.get 1 U
 obtain ⟨b1,b2,Z,ag⟩:=ab.freeze Z
 have a3:dn b1 g9 0 [I k]:=dn.of ag
 have b3:lQ prog RP.int false (Value.int .i64) (cQ k) (.func (.func 214) #[] #[Pt g9]) b1:=by
   refine ⟨_,_,U,call214,fun H_ w_ hE_ hs_ cs_ x_ y_ args_ hr_ hy_ ha_=>?_⟩
   obtain rfl:cs_=[_]:=hr_
   obtain rfl:=kZ (b:=#[I x_,Pt g9]) ha_
   exact nD (c1:=k) (n_:=x_) hs_ (dn.le (dn.le a3 (Le.refl _)) hE_) hy_
 refine ar U call213 (cu U U) (kO (c:=c) (change:=(cQ k)) Z (RP.mono _ h0_0 b2) b3 b0) ?_
 rintro _ et ⟨c5,c6,j,rfl,J,Z⟩
 refine dF (v:=.agg #[j,I af.1.bound]) U U U (dF (v:=Bo af.2) U U U (bg (vs:=#[j,I af.1.bound]) (cs2:=#[j,I af.1.bound]) 0 U sizeOf73 a2 U U (aj (aH (ai J)) (aj U aK)) Z U (by show 0+2≤2; decide) U (fun eu Z=>aB U (nn (aA (dc (v1:=.agg #[j,I af.1.bound]) (v2:=Bo af.2) results196 (bC isAgg73 sizeOf73 a2 (ab.aM 0 Z U) U) U ?_))))))
 obtain rfl:=so hF
 have Z:=ab.drop 0 Z U
 have Z:=ab.drop 0 Z U
 exact ⟨c5,(Le.trans b2 c6),j,U,J,Z⟩
theorem oW {c1:Int} {n_:Int} {g_c1:Nat} {H:FH} {w:World} (Z:ab H w []) (hat_g_c1:dn H g_c1 0 [I c1]) {r:Int} (hF:dh c1 n_=some r):C prog 215 #[I n_,Pt g_c1] w fun v w'=>v=I r∧ab H w' []:=by
 unfold dh at hF
 refine aE func215 U ntmps215 U (sq (aI U (nq ?_)))
 obtain ⟨q1,o,hF⟩:=bind_some hF
 refine ae (mI U (bt U isAgg3 U (At.ll (dn.at hat_g_c1 Z.sub) (j:=0) U) (bf U U U (db U U U (bt U isAgg3 U (At.ll (dn.at hat_g_c1 Z.sub) (j:=0) U) (Co (m:=i64 ((i64 (n_+c1)) - 1)) (n:=c1) U U U (fun he=>by rw [if_pos he] at o; cases o) (aI U (nn (aA (aN (v1:=I (i64 (Int.tdiv (i64 ((i64 (n_+c1)) - 1)) c1))) results215 U ?_))))))))))
 obtain rfl:=so hF
 exact ⟨U,Z⟩
theorem pX {c:Con} {k:Int} {v0_0:Value} {H:FH} {w:World} {R:List Ass} (Z:ab H w R) (h0_0:(rS 122 au).rel H [v0_0] c.terms) {r:Con × Bool} (hF:gm c k=some r):C prog 197 #[.agg #[v0_0,I c.bound],I k] w fun v w'=>∃ H':FH,Le H H'∧∃ (u1:Value),v=.tuple #[.agg #[u1,I r.1.bound],Bo r.2]∧(rS 122 au).rel H' [u1] r.1.terms∧ab H' w' (R):=by
 unfold gm at hF
 refine aE func197 U ntmps197 U (sq (cr (v:=.agg #[v0_0,I c.bound]) (cs:=#[v0_0,I c.bound]) U U U Z (fun g7 w8 Z=>cr (v:=I k) (cs:=#[I k]) U U U Z (fun g9 dd Z=>dS (cs:=#[S0,I 0]) U zeroValue73 U Z (fun a4 dg Z=>aB U (nq (ao ?_)))))))
 obtain ⟨b4,a5,hF⟩:=bind_some hF
 obtain ⟨a6,o,hF⟩:=bind_some hF
 obtain ⟨b5,an⟩:=ca fun f w_=>f 2=Pt g7∧f 3=Pt g9∧f 4=Pt a4∧f 13=Bo a6∧ab H w_ (box a4 73 #[S0,I 0] :: box g9 3 #[I k] :: box g7 73 #[v0_0,I c.bound] :: R)
 refine av b5 ?_ ?_
 refine ae (a7 (cs:=[v0_0,I c.bound]) U isAgg73 sizeOf73 U (At.bK (de.at (ab.aM 2 Z U)) 0 2) U ?_)
 obtain ⟨c7,b8,ch,dj,cn⟩:=Z.borrow
 refine ar U call130 (b9 U) (bZ (c:=c) ch (RP.mono _ h0_0 b8) a5) ?_
 rintro _ ds ⟨rfl,Z⟩
 have Z:=cn Z c0
 refine bL U U (mB U (aD (d:=9) (b:=(!b4)) U (fun a0=>?_) (fun a0=>?_)))
 rw [az a0] at o
 refine ps U (ps U (ps U (dU o U (nn (rj an ⟨U,U,U,U,Z⟩)))))
 rw [ay a0] at o
 obtain ⟨ec,bd,o⟩:=bind_some o
 refine bw 1 Z isAgg3 U U U ?_
 obtain ⟨c8,ee,cp,ej,c2⟩:=Z.borrow
 refine ar U call92 (k9 U U U) (dY (n_:=k) (low:=1) (high:=1000) cp bd) ?_
 rintro _ ek ⟨rfl,Z⟩
 have Z:=c2 Z c0
 refine bL U U (dU o U (nn (rj an ⟨U,U,U,U,Z⟩)))
 intro f w_ hR
 obtain ⟨c3,c4,a2,bs,Z⟩:=rk an hR
 refine al (b:=a6) bs (fun a1=>?_) (fun a1=>?_)
 have hF:=(az a1).symm.trans hF
 refine sq (da U (cC ) (eg  ) (bg (vs:=#[S0,I 0]) (cs2:=#[S0,I 0]) 0 U sizeOf73 a2 U U (aj U (aj U aK)) Z U (by show 0+2≤2; decide) U (fun en Z=>aB U (nn (aA (dc (v1:=.agg #[S0,I 0]) (v2:=Bo false) results197 (bC isAgg73 sizeOf73 a2 (ab.aM 0 Z U) U) U ?_))))))
 obtain rfl:=so hF
 have Z:=ab.drop 0 Z U
 have Z:=ab.drop 0 Z U
 have Z:=ab.drop 0 Z U
 exact ⟨H,(Le.refl _),S0,U,(fw _ _ _),Z⟩
 have hF:=(ay a1).symm.trans hF
 refine aq (ao ?_)
 obtain ⟨af,b0,hF⟩:=bind_some hF
 refine ae (a7 (cs:=[v0_0,I c.bound]) U isAgg73 sizeOf73 c3 (At.bK (de.at (ab.aM 2 Z U)) 0 2) U (yt U (b9 c4) ?_))
 have Z:=Z.get 1 U
 obtain ⟨b1,b2,Z,ag⟩:=ab.freeze Z
 have a3:dn b1 g9 0 [I k]:=dn.of ag
 have b3:lQ prog RP.int false (Value.int .i64) (dh k) (.func (.func 215) #[] #[Pt g9]) b1:=by
   refine ⟨_,_,U,call215,fun H_ w_ hE_ hs_ cs_ x_ y_ args_ hr_ hy_ ha_=>?_⟩
   obtain rfl:cs_=[_]:=hr_
   obtain rfl:=kZ (b:=#[I x_,Pt g9]) ha_
   exact oW (c1:=k) (n_:=x_) hs_ (dn.le (dn.le a3 (Le.refl _)) hE_) hy_
 refine ar U call213 (cu U U) (kO (c:=c) (change:=(dh k)) Z (RP.mono _ h0_0 b2) b3 b0) ?_
 rintro _ et ⟨c5,c6,j,rfl,J,Z⟩
 refine dF (v:=.agg #[j,I af.1.bound]) U U U (dF (v:=Bo af.2) U U U (bg (vs:=#[j,I af.1.bound]) (cs2:=#[j,I af.1.bound]) 0 U sizeOf73 a2 U U (aj (aH (ai J)) (aj U aK)) Z U (by show 0+2≤2; decide) U (fun eu Z=>aB U (nn (aA (dc (v1:=.agg #[j,I af.1.bound]) (v2:=Bo af.2) results197 (bC isAgg73 sizeOf73 a2 (ab.aM 0 Z U) U) U ?_))))))
 obtain rfl:=so hF
 have Z:=ab.drop 0 Z U
 have Z:=ab.drop 0 Z U
 exact ⟨c5,(Le.trans b2 c6),j,U,J,Z⟩
theorem oX {c:Con} {v0_0:Value} {H:FH} {w:World} (Z:ab H w []) (h0_0:(rS 122 au).rel H [v0_0] c.terms) {r:Con × Bool} (hF:fm c=some r):C prog 198 #[.agg #[v0_0,I c.bound]] w fun v w'=>∃ (u1:Value),v=.tuple #[.agg #[u1,I r.1.bound],Bo r.2]∧ab H w' [oF 122 au u1 r.1.terms]:=by
 unfold fm at hF
 refine aE func198 U ntmps198 U (sq (cr (v:=.agg #[v0_0,I c.bound]) (cs:=#[v0_0,I c.bound]) U U U Z (fun g5 w6 Z=>dS (cs:=#[S0,I 0]) U zeroValue73 U Z (fun g7 w8 Z=>aB U (nq (ao ?_))))))
 obtain ⟨ec,c7,hF⟩:=bind_some hF
 refine ae (a7 (cs:=[v0_0,I c.bound]) U isAgg73 sizeOf73 U (At.bK (de.at (ab.aM 1 Z U)) 0 2) U ?_)
 obtain ⟨e1,ee,ej,e2,ek⟩:=Z.borrow
 refine ar U call130 (b9 U) (bZ (c:=c) ej (RP.mono _ h0_0 ee) c7) ?_
 rintro _ e3 ⟨rfl,Z⟩
 have Z:=ek Z c0
 refine bL U U (nn (al (b:=(!ec)) U (fun b1=>?_) (fun b1=>?_)))
 have hF:=(az b1).symm.trans hF
 refine sq (da U (cC ) (eg  ) (bg (vs:=#[S0,I 0]) (cs2:=#[S0,I 0]) 0 U sizeOf73 U U U (aj U (aj U aK)) Z U (by show 0+2≤2; decide) U (fun e4 Z=>aB U (nn (aA (dc (v1:=.agg #[S0,I 0]) (v2:=Bo false) results198 (bC isAgg73 sizeOf73 U (ab.aM 0 Z U) U) U ?_))))))
 obtain rfl:=so hF
 have Z:=ab.bE (R:=(OR.bu au)) (e:=122) Z
 exact ⟨S0,U,(ab.aG 1 Z)⟩
 have hF:=(ay b1).symm.trans hF
 refine aq (sq (fA 1 fy U U (bw 1 Z isAgg3 U U U (da U (bG U) (mL (I c.bound) U) (dS (cs:=#[S0,I 0]) U zeroValue73 U Z (fun bs e5 Z=>bg (vs:=#[S0,I c.bound]) (cs2:=#[S0,I c.bound]) 0 U sizeOf73 U U U (aj U (aj U aK)) Z U (by show 0+2≤2; decide) U (fun fa Z=>nq (sq (fA 1 fy U U (bw 2 Z isAgg3 U U U (c9 U U U (nn ?_))))))))))))
 obtain ⟨b0,an,hF⟩:=bind_some hF
 obtain ⟨en,b2⟩:=ca fun f w_=>∃ o,f 2=Pt g7∧f 4=Pt bs∧ab H w_ ([oF 122 au o b0,box bs 73 #[o,I c.bound],box g7 73 #[S0,I 0]])
 refine av en ?_ ?_
 refine al (b:=decide (c.bound > 0)) U (fun b3=>?_) (fun b3=>?_)
 have an:=(az b3).symm.trans an
 refine sq (fA 0 ck U U (bw 2 Z isAgg71 U U U (aW U underlying71 U (ai h0_0) (mI U (nn ?_)))))
 have ch:List.length c.terms≤9223372036854775807:=bB (ai h0_0)
 obtain ⟨c8,a1,an⟩:=bind_some an
 obtain ⟨et,cn⟩:=ca fun f w_=>∃ J:List Term,∃ j,c8=.nx J∧f 2=Pt g7∧f 4=Pt bs∧ab H w_ ([oF 122 au j J,box bs 73 #[j,I c.bound],box g7 73 #[S0,I 0]])
 refine av et ?_ ?_
 refine ak ?_
 obtain ⟨dd,b4⟩:=ff fun n f w_=>∃ a0:Nat,∃ ag:List Term,∃ J:List Term,∃ j,n=ag.length∧List.drop a0 c.terms=ag∧a0+ag.length=c.terms.length∧aw (ef c) ag a0 J=some c8∧f 1=Pt g5∧f 2=Pt g7∧f 4=Pt bs∧f 18=v0_0∧f 19=I (c.terms.length:Int)∧f 20=I a0∧ab H w_ ([oF 122 au j J,box bs 73 #[j,I c.bound],box g7 73 #[S0,I 0],box g5 73 #[v0_0,I c.bound]])
 have Z:=ab.bE (R:=(OR.bu au)) (e:=122) Z
 refine a8 dd (n:=c.terms.length) ?_ ?_
 exact ij b4 ⟨0,c.terms,[],S0,U,U,Nat.zero_add _,a1,U,U,U,U,U,U,Z⟩
 intro fo f w_ hI
 obtain ⟨a0,ag,J,j,rfl,cp,a5,a1,dg,a3,a2,c1,c2,b5,Z⟩:=ik b4 hI
 refine sq (bh U b5 c2 (nq (al (b:=decide ((a0:Int)<(c.terms.length:Int))) U (fun b8=>?_) (fun b8=>?_))))
 have c3:=of_decide_eq_true b8
 rcases ag with _ | ⟨af,a6⟩
 exact absurd c3 (by simp at a5; omega)
 obtain ⟨fs,bd,a1⟩:=aJ a1
 rw [ef] at bd
 have c4:=aY cp
 refine aq (ao (ak (sq (bP (r:=au) U underlying71 sizeOf122 c1 h0_0 b5 c4 (fun fu gd ds a4 c5=>?_)))))
 obtain rfl:=bM.1 a4
 refine a7 (cs:=[I af.coef,I af.lit]) U isAgg122 sizeOf122 U (At.sub (dn.at c5 Z.sub) 0 2) U (dS (cs:=#[I 0,I 0]) U zeroValue122 U Z (fun g0 g1 Z=>bg (vs:=#[I af.coef,I af.lit]) (cs2:=#[I af.coef,I af.lit]) 0 U sizeOf122 U U U (aj U (aj U aK)) Z U (by show 0+2≤2; decide) U (fun g2 Z=>nn ?_)))
 obtain ⟨eu,dj,bd⟩:=bind_some bd
 refine ae (fA 0 ck a2 U (bw 2 Z isAgg71 U U U (fA 0 ep U U (bw 0 Z isAgg3 U U U (fA 1 fy dg U (bw 4 Z isAgg3 U U U (FL U U U (fA 1 eC U U (bw 0 Z isAgg3 U U U (da U (iB U U) (eF (I (min af.coef c.bound)) (I af.lit) U U) (cS U (bG U) (gh (I (min af.coef c.bound)) (I af.lit) ) Z (fun e0 g3 Z=>?_))))))))))))
 have Z:=ab.dr (r:=au) (cs:=[I (min af.coef c.bound),I af.lit]) (x:=({ coef:=min af.coef c.bound,lit:=af.lit }:Term)) Z (bM.2 U)
 have Z:=ab.bS (R:=(OR.bu au)) [([I (min af.coef c.bound),I af.lit],({ coef:=min af.coef c.bound,lit:=af.lit }:Term))] [({ coef:=min af.coef c.bound,lit:=af.lit }:Term)] 1 Z U U U (by decide)
 have Z:=Z.get 2 U
 refine cj (v:=j) (u:=(Sl e0 1 1)) U lN U U Z dj (fun c6 g4 Z=>fA 0 ck a2 U (ei (v:=c6) (cs2:=#[c6,I c.bound]) 2 U sizeOf71 U U (aH (ab.len 0 Z U)) Z U U U (fun g6 Z=>nn (ae (bf U b5 U (mI U (nn ?_)))))))
 obtain rfl:=so bd
 have Z:=Z.aU [4,4,2,3] U
 show ∃ m,m<_∧dd m _ _
 refine ⟨a6.length,by simp,?_⟩
 exact ij b4 ⟨a0+1,a6,eu,c6,U,aL cp,by simp at a5; omega,a1,dg,a3,a2,c1,c2,((eI (aO (n:=c.terms.length) (by simp at a5; omega) ch))),(ab.aG 4 Z)⟩
 rcases ag with _ | ⟨_,_⟩
 obtain rfl:=aT a1
 refine a9 (rj cn ⟨J,j,U,a3,a2,(ab.aG 3 Z)⟩)
 exact absurd (of_decide_eq_false b8) (by simp at a5; omega)
 intro f w_ hR
 obtain ⟨J,j,rfl,a3,a2,Z⟩:=rk cn hR
 obtain rfl:=so an
 exact rj b2 ⟨j,a3,a2,Z⟩
 have an:=(ay b3).symm.trans an
 refine aq ?_
 obtain rfl:=so an
 have Z:=ab.bE (R:=(OR.bu au)) (e:=122) Z
 exact rj b2 ⟨S0,U,U,(ab.aG 3 Z)⟩
 intro f w_ hR
 obtain ⟨o,a3,a2,Z⟩:=rk b2 hR
 refine sq (a7 (cs:=[o,I c.bound]) U isAgg73 sizeOf73 a2 (At.bK (de.at (ab.aM 1 Z U)) 0 2) U (bg (vs:=#[o,I c.bound]) (cs2:=#[o,I c.bound]) 2 U sizeOf73 a3 U U (aj (aH (ab.len 0 Z U)) (aj U aK)) Z U (by show 0+2≤2; decide) U (fun g8 Z=>aB U (nn (aA (dc (v1:=.agg #[o,I c.bound]) (v2:=Bo true) results198 (bC isAgg73 sizeOf73 a3 (ab.aM 0 Z U) U) U ?_))))))
 obtain rfl:=so hF
 have Z:=Z.get 1 U
 exact ⟨o,U,(ab.aG 1 Z)⟩
theorem p7 {c:Con} {variable_:Int} {v0_0:Value} {H:FH} {w:World} (Z:ab H w []) (h0_0:(rS 122 au).rel H [v0_0] c.terms) {r:Con × Bool} (hF:gi c variable_=some r):C prog 199 #[.agg #[v0_0,I c.bound],I variable_] w fun v w'=>∃ (u1:Value),v=.tuple #[.agg #[u1,I r.1.bound],Bo r.2]∧ab H w' [oF 122 au u1 r.1.terms]:=by
 unfold gi at hF
 refine aE func199 U ntmps199 U (sq (cr (v:=.agg #[v0_0,I c.bound]) (cs:=#[v0_0,I c.bound]) U U U Z (fun g5 w6 Z=>dS (cs:=#[S0,I 0]) U zeroValue73 U Z (fun g7 w8 Z=>aB U (nq (ao ?_))))))
 obtain ⟨e3,ee,hF⟩:=bind_some hF
 obtain ⟨ej,a4,hF⟩:=bind_some hF
 obtain ⟨e4,cp⟩:=ca fun f w_=>f 1=I variable_∧f 2=Pt g5∧f 4=Pt g7∧f 16=Bo ej∧ab H w_ ([box g7 73 #[S0,I 0],box g5 73 #[v0_0,I c.bound]])
 refine av e4 ?_ ?_
 refine ae (a7 (cs:=[v0_0,I c.bound]) U isAgg73 sizeOf73 U (At.bK (de.at (ab.aM 1 Z U)) 0 2) U ?_)
 obtain ⟨g6,e5,fa,hf,fo⟩:=Z.borrow
 refine ar U call130 (b9 U) (bZ (c:=c) fa (RP.mono _ h0_0 e5) ee) ?_
 rintro _ hg ⟨rfl,Z⟩
 have Z:=fo Z c0
 refine bL U U (mB U (aD (d:=12) (b:=(!e3)) U (fun c1=>?_) (fun c1=>?_)))
 rw [az c1] at a4
 refine ps U (ps U (ps U (dU a4 U (nn (rj cp ⟨U,U,U,U,Z⟩)))))
 rw [ay c1] at a4
 obtain ⟨hh,ek,a4⟩:=bind_some a4
 refine mI U ?_
 obtain ⟨g8,hi,fs,hj,fu⟩:=Z.borrow
 refine ar U call92 (k9 U U U) (dY (n_:=variable_) (low:=1) (high:=12) fs ek) ?_
 rintro _ hk ⟨rfl,Z⟩
 have Z:=fu Z c0
 refine bL U U (dU a4 U (nn (rj cp ⟨U,U,U,U,Z⟩)))
 intro f w_ hR
 obtain ⟨b4,b1,a2,en,Z⟩:=rk cp hR
 refine al (b:=ej) en (fun c2=>?_) (fun c2=>?_)
 have hF:=(az c2).symm.trans hF
 refine sq (da U (cC ) (eg  ) (bg (vs:=#[S0,I 0]) (cs2:=#[S0,I 0]) 0 U sizeOf73 a2 U U (aj U (aj U aK)) Z U (by show 0+2≤2; decide) U (fun hl Z=>aB U (nn (aA (dc (v1:=.agg #[S0,I 0]) (v2:=Bo false) results199 (bC isAgg73 sizeOf73 a2 (ab.aM 0 Z U) U) U ?_))))))
 obtain rfl:=so hF
 have Z:=ab.bE (R:=(OR.bu au)) (e:=122) Z
 exact ⟨S0,U,(ab.aG 1 Z)⟩
 have hF:=(ay c2).symm.trans hF
 refine aq (sq (fA 1 fy b1 U (bw 1 Z isAgg3 U U U (da U (bG U) (mL (I c.bound) U) (dS (cs:=#[S0,I 0]) U zeroValue73 U Z (fun cn hn Z=>bg (vs:=#[S0,I c.bound]) (cs2:=#[S0,I c.bound]) 0 U sizeOf73 U U U (aj U (aj U aK)) Z U (by show 0+2≤2; decide) U (fun ho Z=>nq (sq (fA 0 ck b1 U (bw 2 Z isAgg71 U U U (aW U underlying71 U (ai h0_0) (mI U (nn ?_)))))))))))))
 have c8:List.length c.terms≤9223372036854775807:=bB (ai h0_0)
 obtain ⟨et,a5,hF⟩:=bind_some hF
 obtain ⟨gd,dd⟩:=ca fun f w_=>∃ J:List Term,∃ o:Int,∃ j,et=.nx (J,o)∧f 4=Pt g7∧f 6=Pt cn∧ab H w_ ([oF 122 au j J,box cn 73 #[j,I o],box g7 73 #[S0,I 0]])
 refine av gd ?_ ?_
 refine ak ?_
 obtain ⟨eu,c3⟩:=ff fun n f w_=>∃ a0:Nat,∃ an:List Term,∃ J:List Term,∃ o:Int,∃ j,n=an.length∧List.drop a0 c.terms=an∧a0+an.length=c.terms.length∧aw (eS c variable_) an a0 (J,o)=some et∧f 1=I variable_∧f 2=Pt g5∧f 4=Pt g7∧f 6=Pt cn∧f 22=v0_0∧f 23=I (c.terms.length:Int)∧f 24=I a0∧ab H w_ ([oF 122 au j J,box cn 73 #[j,I o],box g7 73 #[S0,I 0],box g5 73 #[v0_0,I c.bound]])
 have Z:=ab.bE (R:=(OR.bu au)) (e:=122) Z
 refine a8 eu (n:=c.terms.length) ?_ ?_
 exact ij c3 ⟨0,c.terms,[],c.bound,S0,U,U,Nat.zero_add _,a5,b4,b1,a2,U,U,U,U,Z⟩
 intro hp f w_ hI
 obtain ⟨a0,an,J,o,j,rfl,dg,b8,a5,b4,b1,a2,a3,b2,b3,a6,Z⟩:=ik c3 hI
 refine sq (bh U a6 b3 (nq (al (b:=decide ((a0:Int)<(c.terms.length:Int))) U (fun c4=>?_) (fun c4=>?_))))
 have dj:=of_decide_eq_true c4
 rcases an with _ | ⟨af,ch⟩
 exact absurd dj (by simp at b8; omega)
 obtain ⟨hq,bd,a5⟩:=aJ a5
 rw [eS] at bd
 have ds:=aY dg
 refine aq (ao (ak (sq (bP (r:=au) U underlying71 sizeOf122 b2 h0_0 a6 ds (fun hr hs e2 b5 ec=>?_)))))
 obtain rfl:=bM.1 b5
 refine a7 (cs:=[I af.coef,I af.lit]) U isAgg122 sizeOf122 U (At.sub (dn.at ec Z.sub) 0 2) U (dS (cs:=#[I 0,I 0]) U zeroValue122 U Z (fun ht hv Z=>bg (vs:=#[I af.coef,I af.lit]) (cs2:=#[I af.coef,I af.lit]) 0 U sizeOf122 U U U (aj U (aj U aK)) Z U (by show 0+2≤2; decide) U (fun hx Z=>nq ?_)))
 obtain ⟨g0,e0,bd⟩:=bind_some bd
 refine ae (fA 1 eC U U (bw 0 Z isAgg3 U U U ?_))
 obtain ⟨g9,hy,g1,hz,g2⟩:=Z.borrow
 refine ar U call100 (b9 U) (hX (l:=af.lit) g1 e0) ?_
 rintro _ hA ⟨rfl,Z⟩
 have Z:=g2 Z c0
 refine mF b4 U (bD U U U (nn ?_))
 obtain ⟨⟨bs,b0⟩,a1,bd⟩:=bind_some bd
 obtain ⟨g3,c5⟩:=ca fun f w_=>∃ ag,f 1=I variable_∧f 2=Pt g5∧f 4=Pt g7∧f 6=Pt cn∧f 22=v0_0∧f 23=I (c.terms.length:Int)∧f 24=I a0∧ab H w_ ([oF 122 au ag bs,box cn 73 #[ag,I b0],box g7 73 #[S0,I 0],box g5 73 #[v0_0,I c.bound]])
 refine av g3 ?_ ?_
 refine al (b:=(g0 == variable_)) U (fun c6=>?_) (fun c6=>?_)
 have a1:=(az c6).symm.trans a1
 refine ae (fA 1 fy b1 U (bw 4 Z isAgg3 U U U (fA 0 ep U U (bw 0 Z isAgg3 U U U (db U U U (AI U U U (fA 1 fy a3 U (ei (v:=I (max 0 (i64 (c.bound - af.coef)))) (cs2:=#[j,I (max 0 (i64 (c.bound - af.coef)))]) 2 U sizeOf3 U U U Z U U U (fun hB Z=>nn ?_)))))))))
 obtain ⟨rfl,rfl⟩:=xV a1
 have Z:=Z.aU [4,4,2,4] U
 exact rj c5 ⟨j,b4,b1,a2,a3,b2,b3,a6,(ab.aG 4 Z)⟩
 have a1:=(ay c6).symm.trans a1
 obtain ⟨hC,e1,a1⟩:=bind_some a1
 refine ae (fA 0 ck a3 U (bw 2 Z isAgg71 U U U (a7 (cs:=[I af.coef,I af.lit]) U isAgg122 sizeOf122 U (At.bK (de.at (ab.aM 0 Z U)) 0 2) U (cS U (bG U) (gh (I af.coef) (I af.lit) ) Z (fun g4 hD Z=>?_)))))
 have Z:=ab.dr (r:=au) (cs:=[I af.coef,I af.lit]) (x:=af) Z (bM.2 U)
 have Z:=ab.bS (R:=(OR.bu au)) [([I af.coef,I af.lit],af)] [af] 1 Z U U U (by decide)
 have Z:=Z.get 2 U
 refine cj (v:=j) (u:=(Sl g4 1 1)) U lN U U Z e1 (fun c7 ha Z=>fA 0 ck a3 U (ei (v:=c7) (cs2:=#[c7,I o]) 2 U sizeOf71 U U (aH (ab.len 0 Z U)) Z U U U (fun hb Z=>nn ?_)))
 obtain ⟨rfl,rfl⟩:=xV a1
 have Z:=Z.aU [4,4,2,3] U
 exact rj c5 ⟨c7,b4,b1,a2,a3,b2,b3,a6,(ab.aG 4 Z)⟩
 intro f w_ hR
 obtain ⟨ag,b4,b1,a2,a3,b2,b3,a6,Z⟩:=rk c5 hR
 refine ae (bf U a6 U (mI U (nn ?_)))
 obtain rfl:=so bd
 show ∃ m,m<_∧eu m _ _
 refine ⟨ch.length,by simp,?_⟩
 exact ij c3 ⟨a0+1,ch,bs,b0,ag,U,aL dg,by simp at b8; omega,a5,b4,b1,a2,a3,b2,b3,((eI (aO (n:=c.terms.length) (by simp at b8; omega) c8))),Z⟩
 rcases an with _ | ⟨_,_⟩
 obtain rfl:=aT a5
 refine a9 (rj dd ⟨J,o,j,U,a2,a3,(ab.aG 3 Z)⟩)
 exact absurd (of_decide_eq_false c4) (by simp at b8; omega)
 intro f w_ hR
 obtain ⟨J,o,j,rfl,a2,a3,Z⟩:=rk dd hR
 refine sq (a7 (cs:=[j,I o]) U isAgg73 sizeOf73 a3 (At.bK (de.at (ab.aM 1 Z U)) 0 2) U (bg (vs:=#[j,I o]) (cs2:=#[j,I o]) 2 U sizeOf73 a2 U U (aj (aH (ab.len 0 Z U)) (aj U aK)) Z U (by show 0+2≤2; decide) U (fun hc Z=>aB U (nn (aA (dc (v1:=.agg #[j,I o]) (v2:=Bo true) results199 (bC isAgg73 sizeOf73 a2 (ab.aM 0 Z U) U) U ?_))))))
 obtain rfl:=so hF
 have Z:=Z.get 1 U
 exact ⟨j,U,(ab.aG 1 Z)⟩
theorem sP {lit:Int} {H:FH} {w:World} (Z:ab H w []) {r:Con × Bool} (hF:jy lit=some r):C prog 200 #[I lit] w fun v w'=>∃ (u1:Value),v=.tuple #[.agg #[u1,I r.1.bound],Bo r.2]∧ab H w' [oF 122 au u1 r.1.terms]:=by
 unfold jy at hF
 refine aE func200 U ntmps200 U (sq (dS (cs:=#[S0,I 0]) U zeroValue73 U Z (fun g3 w4 Z=>aB U (nq (ao ?_)))))
 obtain ⟨af,J,hF⟩:=bind_some hF
 refine ae (mI U ?_)
 obtain ⟨a0,a1,ag,a2,an⟩:=Z.borrow
 refine ar U call96 (b9 U) (nG (l:=lit) ag J) ?_
 rintro _ a3 ⟨rfl,Z⟩
 have Z:=an Z c0
 refine bL U U (nn (al (b:=(!af)) U (fun j=>?_) (fun j=>?_)))
 have hF:=(az j).symm.trans hF
 refine sq (da U (cC ) (eg  ) (bg (vs:=#[S0,I 0]) (cs2:=#[S0,I 0]) 0 U sizeOf73 U U U (aj U (aj U aK)) Z U (by show 0+2≤2; decide) U (fun a4 Z=>aB U (nn (aA (dc (v1:=.agg #[S0,I 0]) (v2:=Bo false) results200 (bC isAgg73 sizeOf73 U (ab.aM 0 Z U) U) U ?_))))))
 obtain rfl:=so hF
 have Z:=ab.bE (R:=(OR.bu au)) (e:=122) Z
 exact ⟨S0,U,(ab.aG 1 Z)⟩
 have hF:=(ay j).symm.trans hF
 refine aq (sq (mI U (da U (iB U U) (eF (I 1) (I lit) U U) (cS U (bG U) (gh (I 1) (I lit) ) Z (fun o a5 Z=>?_)))))
 have Z:=ab.dr (r:=au) (cs:=[I 1,I lit]) (x:=({ coef:=1,lit:=lit }:Term)) Z (bM.2 U)
 have Z:=ab.bS (R:=(OR.bu au)) [([I 1,I lit],({ coef:=1,lit:=lit }:Term))] [({ coef:=1,lit:=lit }:Term)] 1 Z U U U (by decide)
 refine da U (bG U) (Cy ((Sl o 1 1)) (aH (ab.len 0 Z U))) (bg (vs:=#[(Sl o 1 1),I 0]) (cs2:=#[(Sl o 1 1),I 0]) 1 U sizeOf73 U U U (aj (aH (ab.len 0 Z U)) (aj U aK)) Z U (by show 0+2≤2; decide) U (fun a6 Z=>aB U (nn (aA (dc (v1:=.agg #[(Sl o 1 1),I 0]) (v2:=Bo true) results200 (bC isAgg73 sizeOf73 U (ab.aM 0 Z U) U) U ?_)))))
 obtain rfl:=so hF
 have Z:=Z.get 1 U
 exact ⟨(Sl o 1 1),U,(ab.aG 1 Z)⟩
theorem lT {c:Con} {v0_0:Value} {H:FH} {w:World} (Z:ab H w []) (h0_0:(rS 122 au).rel H [v0_0] c.terms) {r:Int} (hF:eY c=some r):C prog 161 #[.agg #[v0_0,I c.bound]] w fun v w'=>v=I r∧ab H w' []:=by
 unfold eY at hF
 refine aE func161 U ntmps161 U (sq (cr (v:=.agg #[v0_0,I c.bound]) (cs:=#[v0_0,I c.bound]) U U U Z (fun g3 w4 Z=>aI U (ns (aI U (nq (sq (fA 0 ck U U (bw 0 Z isAgg71 U U U (aW U underlying71 U (ai h0_0) (mI U (nn ?_))))))))))))
 have a2:List.length c.terms≤9223372036854775807:=bB (ai h0_0)
 obtain ⟨j7,ag,hF⟩:=bind_some hF
 obtain ⟨R7,bd⟩:=ca fun f w_=>∃ j:Int,j7=.nx j∧f 3=I j∧ab H w_ ([])
 refine av R7 ?_ ?_
 refine ak ?_
 obtain ⟨I7,a3⟩:=ff fun n f w_=>∃ J:Nat,∃ o:List Term,∃ j:Int,n=o.length∧List.drop J c.terms=o∧J+o.length=c.terms.length∧aw gA o J j=some j7∧f 3=I j∧f 7=v0_0∧f 8=I (c.terms.length:Int)∧f 9=I J∧ab H w_ ([])
 refine a8 I7 (n:=c.terms.length) ?_ ?_
 exact ij a3 ⟨0,c.terms,0,U,U,Nat.zero_add _,ag,U,U,U,U,(ab.aG 0 Z)⟩
 intro n7 f w_ hI
 obtain ⟨J,o,j,rfl,bs,a0,ag,a1,b0,b1,a4,Z⟩:=ik a3 hI
 refine sq (bh U a4 b1 (nq (al (b:=decide ((J:Int)<(c.terms.length:Int))) U (fun a5=>?_) (fun a5=>?_))))
 have b2:=of_decide_eq_true a5
 rcases o with _ | ⟨R,an⟩
 exact absurd b2 (by simp at a0; omega)
 obtain ⟨o7,b3,ag⟩:=aJ ag
 rw [gA] at b3
 have b4:=aY bs
 refine aq (ao (ak (sq (bP (r:=au) U underlying71 sizeOf122 b0 h0_0 a4 b4 (fun b8 ch b5 af a6=>?_)))))
 obtain rfl:=bM.1 af
 refine a7 (cs:=[I R.coef,I R.lit]) U isAgg122 sizeOf122 U (At.sub (dn.at a6 Z.sub) 0 2) U (dS (cs:=#[I 0,I 0]) U zeroValue122 U Z (fun cn cp Z=>bg (vs:=#[I R.coef,I R.lit]) (cs2:=#[I R.coef,I R.lit]) 0 U sizeOf122 U U U (aj U (aj U aK)) Z U (by show 0+2≤2; decide) U (fun c1 Z=>nn (ae (mF a1 U (fA 0 ep U U (bw 0 Z isAgg3 U U U (bf U U U (aI U (nn (ae (bf U a4 U (mI U (nn ?_))))))))))))))
 obtain rfl:=so b3
 show ∃ m,m<_∧I7 m _ _
 refine ⟨an.length,by simp,?_⟩
 exact ij a3 ⟨J+1,an,i64 (j+R.coef),U,aL bs,by simp at a0; omega,ag,U,b0,b1,((eI (aO (n:=c.terms.length) (by simp at a0; omega) a2))),(ab.aG 0 Z)⟩
 rcases o with _ | ⟨_,_⟩
 obtain rfl:=aT ag
 refine a9 (rj bd ⟨j,U,a1,Z⟩)
 exact absurd (of_decide_eq_false a5) (by simp at a0; omega)
 intro f w_ hR
 obtain ⟨j,rfl,a1,Z⟩:=rk bd hR
 refine sq (mF a1 U (aI U (nn (aA (aN (v1:=I j) results161 U ?_)))))
 obtain rfl:=so hF
 exact ⟨U,Z⟩
theorem oa {c:Con} {v0_0:Value} {H:FH} {w:World} (Z:ab H w []) (h0_0:(rS 122 au).rel H [v0_0] c.terms) {r:Con} (hF:eR c=some r):C prog 216 #[.agg #[v0_0,I c.bound]] w fun v w'=>∃ (u1:Value),v=.agg #[u1,I r.bound]∧ab H w' [oF 122 au u1 r.terms]:=by
 unfold eR at hF
 refine aE func216 U ntmps216 U (sq (cr (v:=.agg #[v0_0,I c.bound]) (cs:=#[v0_0,I c.bound]) U U U Z (fun g5 w6 Z=>dS (cs:=#[S0,I 0]) U zeroValue73 U Z (fun g7 w8 Z=>nq ?_))))
 obtain ⟨af,c7,hF⟩:=bind_some hF
 refine cv 9 [Value.agg #[v0_0,I c.bound],I af,Pq g5 1,I c.bound,I (i64 (af - c.bound)),I (i64 ((i64 (af - c.bound))+1)),I (max 0 (i64 ((i64 (af - c.bound))+1))),Value.agg #[S0,I (max 0 (i64 ((i64 (af - c.bound))+1)))],none] [box g7 73 #[S0,I 0],box g5 73 #[v0_0,I c.bound]] [.made 8 3 (fun v_=>uw v_ 73 #[S0,I 0]) none] ([]) [([],[]),([],[]),([],[]),([],[]),([],[]),([],[]),([],[]),([],[]),([],[0])] (S:=[(some 8,[3],none)]) aP (by kernel_rfl) U (by kernel_rfl) Z ?_ (fun f w_ bs a3 an c8 Z=>?_)
 refine aa (fun f w_ _ _ s _ _ Z=>a7 (cs:=[v0_0,I c.bound]) U isAgg73 sizeOf73 ((s 1 U).trans U) (At.bK (de.at (ab.aM 1 Z U)) 0 2) U (nO U U Z)) (aa ?_ ?_)
 intro f w_ bs ec a3 an b8 Z
 obtain ⟨e1,ee,ej,e2,ek⟩:=Z.borrow
 refine ar U call161 (b9 (b8 0 6 U U)) (lT (c:=c) ej (RP.mono _ h0_0 (Le.trans an ee)) c7) ?_
 rintro _ e3 ⟨rfl,Z⟩
 have Z:=ek Z c0
 exact ax ⟨U,_,_,U,Le.refl _,fun _ _=>rfl,Z⟩
 refine aa (fun f w_ _ _ s _ _ Z=>fA 1 fy ((s 1 U).trans U) U (nO U U Z)) (aa (fun f w_ _ _ _ _ p Z=>bw 1 Z isAgg3 (p 2 8 U U) U U (nO U U Z)) (aa (fun f w_ _ _ _ _ p Z=>db U (p 1 7 U U) (p 3 9 U U) (nO U U Z)) (aa (fun f w_ _ _ _ _ p Z=>bf U (p 4 10 U U) U (nO U U Z)) (aa (fun f w_ _ _ _ _ p Z=>AI U U (p 5 11 U U) (nO U U Z)) (aa (fun f w_ _ _ _ _ p Z=>da U (bG (p 6 12 U U)) (mL (I (max 0 (i64 ((i64 (af - c.bound))+1)))) U) (nO U U Z)) (aa ?_ ?_))))))
 intro f w_ bs ec a3 an b8 Z
 refine dS (cs:=#[S0,I 0]) U zeroValue73 U Z (fun en e4 Z=>?_)
 have Z:=Z.aU [2,2,2] U
 have Z:=ab.uw (v:=Pt en) U Z
 have Z:=Z.aU [2,2] U
 exact ax ⟨U,_,_,U,Le.refl _,fun _ _=>trivial,Z⟩
 exact aQ
 have Z:ab bs w_ ([box g7 73 #[S0,I 0],box g5 73 #[v0_0,I c.bound],uw (f 3) 73 #[S0,I 0]]):=Z
 obtain ⟨b4,ch,Z⟩:=ab.CW (ab.get 2 Z U)
 refine bg (vs:=#[S0,I (max 0 (i64 ((i64 (af - c.bound))+1)))]) (cs2:=#[S0,I (max 0 (i64 ((i64 (af - c.bound))+1)))]) 0 U sizeOf73 ch (c8 7 13 U U) U (aj U (aj U aK)) Z U (by show 0+2≤2; decide) U (fun e5 Z=>ax (ao (sq (fA 0 ck ((a3 1 U).trans U) U (bw 2 Z isAgg71 U U U (aW U underlying71 U (ai (RP.mono _ h0_0 an)) (mI U (nn ?_))))))))
 have b5:List.length c.terms≤9223372036854775807:=bB (ai (RP.mono _ h0_0 an))
 obtain ⟨dd,a1,hF⟩:=bind_some hF
 obtain ⟨et,cn⟩:=ca fun f w_=>∃ o:List Term,∃ j,dd=.nx o∧f 2=Pt g7∧f 3=Pt b4∧ab bs w_ ([oF 122 au j o,box b4 73 #[j,I (max 0 (i64 ((i64 (af - c.bound))+1)))],box g7 73 #[S0,I 0]])
 refine av et ?_ ?_
 refine ak ?_
 obtain ⟨dg,b0⟩:=ff fun n f w_=>∃ a0:Nat,∃ ag:List Term,∃ o:List Term,∃ j,n=ag.length∧List.drop a0 c.terms=ag∧a0+ag.length=c.terms.length∧aw fe ag a0 o=some dd∧f 2=Pt g7∧f 3=Pt b4∧f 15=v0_0∧f 16=I (c.terms.length:Int)∧f 17=I a0∧ab bs w_ ([oF 122 au j o,box b4 73 #[j,I (max 0 (i64 ((i64 (af - c.bound))+1)))],box g7 73 #[S0,I 0]])
 have Z:=ab.bE (R:=(OR.bu au)) (e:=122) Z
 refine a8 dg (n:=c.terms.length) ?_ ?_
 exact ij b0 ⟨0,c.terms,[],S0,U,U,Nat.zero_add _,a1,((a3 2 U).trans U),ch,U,U,U,(ab.aG 3 Z)⟩
 intro fa f w_ hI
 obtain ⟨a0,ag,o,j,rfl,cp,a4,a1,b1,bd,c1,c2,b2,Z⟩:=ik b0 hI
 refine sq (bh U b2 c2 (nq (al (b:=decide ((a0:Int)<(c.terms.length:Int))) U (fun b3=>?_) (fun b3=>?_))))
 have c3:=of_decide_eq_true b3
 rcases ag with _ | ⟨J,a5⟩
 exact absurd c3 (by simp at a4; omega)
 obtain ⟨fo,a6,a1⟩:=aJ a1
 rw [fe] at a6
 have c4:=aY cp
 refine aq (ao (ak (sq (bP (r:=au) U underlying71 sizeOf122 c1 (RP.mono _ h0_0 an) b2 c4 (fun fs fu ds a2 c5=>?_)))))
 obtain rfl:=bM.1 a2
 refine a7 (cs:=[I J.coef,I J.lit]) U isAgg122 sizeOf122 U (At.sub (dn.at c5 Z.sub) 0 2) U (dS (cs:=#[I 0,I 0]) U zeroValue122 U Z (fun gd g0 Z=>bg (vs:=#[I J.coef,I J.lit]) (cs2:=#[I J.coef,I J.lit]) 0 U sizeOf122 U U U (aj U (aj U aK)) Z U (by show 0+2≤2; decide) U (fun g1 Z=>nn ?_)))
 obtain ⟨eu,dj,a6⟩:=bind_some a6
 refine ae (fA 0 ck bd U (bw 2 Z isAgg71 U U U (fA 0 ep U U (bw 0 Z isAgg3 U U U (fA 1 eC U U (bw 0 Z isAgg3 U U U (kg U U (da U (iB U U) (eF (I J.coef) (I (i64 (-J.lit))) U U) (cS U (bG U) (gh (I J.coef) (I (i64 (-J.lit))) ) Z (fun e0 g2 Z=>?_))))))))))
 have Z:=ab.dr (r:=au) (cs:=[I J.coef,I (i64 (-J.lit))]) (x:=({ coef:=J.coef,lit:=i64 (-J.lit) }:Term)) Z (bM.2 U)
 have Z:=ab.bS (R:=(OR.bu au)) [([I J.coef,I (i64 (-J.lit))],({ coef:=J.coef,lit:=i64 (-J.lit) }:Term))] [({ coef:=J.coef,lit:=i64 (-J.lit) }:Term)] 1 Z U U U (by decide)
 have Z:=Z.get 2 U
 refine cj (v:=j) (u:=(Sl e0 1 1)) U lN U U Z dj (fun c6 g3 Z=>fA 0 ck bd U (ei (v:=c6) (cs2:=#[c6,I (max 0 (i64 ((i64 (af - c.bound))+1)))]) 2 U sizeOf71 U U (aH (ab.len 0 Z U)) Z U U U (fun g4 Z=>nn (ae (bf U b2 U (mI U (nn ?_)))))))
 obtain rfl:=so a6
 have Z:=Z.aU [3,1,2] U
 show ∃ m,m<_∧dg m _ _
 refine ⟨a5.length,by simp,?_⟩
 exact ij b0 ⟨a0+1,a5,eu,c6,U,aL cp,by simp at a4; omega,a1,b1,bd,c1,c2,((eI (aO (n:=c.terms.length) (by simp at a4; omega) b5))),(ab.aG 3 Z)⟩
 rcases ag with _ | ⟨_,_⟩
 obtain rfl:=aT a1
 refine a9 (rj cn ⟨o,j,U,b1,bd,Z⟩)
 exact absurd (of_decide_eq_false b3) (by simp at a4; omega)
 intro f w_ hR
 obtain ⟨o,j,rfl,b1,bd,Z⟩:=rk cn hR
 refine sq (a7 (cs:=[j,I (max 0 (i64 ((i64 (af - c.bound))+1)))]) U isAgg73 sizeOf73 bd (At.bK (de.at (ab.aM 1 Z U)) 0 2) U (bg (vs:=#[j,I (max 0 (i64 ((i64 (af - c.bound))+1)))]) (cs2:=#[j,I (max 0 (i64 ((i64 (af - c.bound))+1)))]) 2 U sizeOf73 b1 U U (aj (aH (ab.len 0 Z U)) (aj U aK)) Z U (by show 0+2≤2; decide) U (fun g6 Z=>nn (aA (aN (v1:=.agg #[j,I (max 0 (i64 ((i64 (af - c.bound))+1)))]) results216 (bC isAgg73 sizeOf73 b1 (ab.aM 0 Z U) U) ?_)))))
 obtain rfl:=so hF
 have Z:=Z.get 1 U
 exact ⟨j,U,(ab.down (ab.aG 1 Z) an (co bI c0))⟩
theorem Dw {fu:Nat} {list:List Con} {c:Con} {v0:Value} {v1_0:Value} {H:FH} {w:World} (Z:ab H w []) (h0:(rS 73 (ba 122)).rel H [v0] list) (h1_0:(rS 122 au).rel H [v1_0] c.terms) {r:Bool} (hF:zh fu list c=some r):C prog 201 #[v0,.agg #[v1_0,I c.bound]] w fun v w'=>v=Bo r∧ab H w' []:=by
 unfold zh at hF
 refine aE func201 U ntmps201 U (sq (cr (v:=.agg #[v1_0,I c.bound]) (cs:=#[v1_0,I c.bound]) U U U Z (fun g3 w4 Z=>aB U (nq ?_))))
 obtain ⟨x5,ds,hF⟩:=bind_some hF
 obtain ⟨a0,b8,hF⟩:=bind_some hF
 obtain ⟨a3,ch,hF⟩:=bind_some hF
 obtain ⟨a4,cn,hF⟩:=bind_some hF
 obtain ⟨ag,cp,hF⟩:=bind_some hF
 refine bT 12 [aZ (v0),gE,aZ (.agg #[v1_0,I c.bound]),xW fun ec=>aZ (.agg #[ec,I a0.bound]),gE,gE,gE,sm (gE) (aZ (I ag.2)),sm (gE) (aZ (I ag.2)),gE,aZ (I ag.2),gE] [box g3 73 #[v1_0,I c.bound]] [.made 1 9 (fun v_=>oF 73 (ba 122) v_ x5) (some 5),.made 3 11 (fun v_=>oF 122 au (dm v_ 0) a0.terms) (some 4),.made 4 12 (fun v_=>oS 73 (cP 122) v_ ([a0])) (some 5),.made 5 13 (fun v_=>oF 73 (ba 122) v_ a3) none,.made 6 14 (fun v_=>oF 3 RP.int v_ a4) none,.made 7 15 (fun v_=>oF 3 RP.int (pE v_ 0) ag.1) (some 8),.made 8 7 (fun v_=>oF 3 RP.int (pE v_ 0) ag.1) (some 9),.made 9 16 (fun v_=>oF 3 RP.int v_ ag.1) (some 11),.made 11 5 (fun v_=>oF 3 RP.int v_ ag.1) none] ([]) [([],[]),([],[0]),([],[]),([],[1]),([1],[2]),([0,2],[3]),([],[4]),([3,4],[3,4,5]),([5],[6]),([6],[7]),([],[]),([7],[8])] (S:=[(some 1,[9],some 5),(some 3,[11],some 4),(some 4,[12],some 5),(some 5,[13],none),(some 6,[14],none),(some 7,[15],some 8),(some 8,[7],some 9),(some 9,[16],some 11),(some 11,[5],none)]) aP (by kernel_rfl) U (by kernel_rfl) (ad (ah _) (ad (bO) (ad (ah _) (ad (fh fun _=>ah _) (ad (bO) (ad (bO) (ad (bO) (ad (fZ (bO) (ah _)) (ad (fZ (bO) (ah _)) (ad (bO) (ad (ah _) (ad (bO) bV)))))))))))) Z ?_ (fun f w_ j an af c1 Z=>?_)
 refine aa (fun f w_ _ _ s _ _ Z=>mF ((s 0 U).trans U) U (nO U U Z)) (aa ?_ ?_)
 intro f w_ j J an af o Z
 refine ar U call65 (b9 (o 0 8 U U)) (fp (s:=list) Z (RP.mono _ h0 af) ds) ?_
 rintro ee fa ⟨fo,ej,_,rfl,Z⟩
 have Z:=Z.get 1 U
 exact ax ⟨U,_,_,U,ej,fun _ _=>trivial,Z⟩
 refine aa (fun f w_ _ _ s _ _ Z=>a7 (cs:=[v1_0,I c.bound]) U isAgg73 sizeOf73 ((s 3 U).trans U) (At.bK (de.at (ab.aM 0 Z U)) 0 2) U (nO U U Z)) (aa ?_ ?_)
 intro f w_ j J an af o Z
 obtain ⟨e4,ek,en,fs,et⟩:=Z.borrow
 refine ar U call216 (b9 (o 2 10 U U)) (oa (c:=c) en (RP.mono _ h1_0 (Le.trans af ek)) b8) ?_
 rintro _ gd ⟨eu,rfl,Z⟩
 have Z:=et Z (co bI c0)
 have Z:=Z.get 1 U
 exact ax ⟨U,_,_,U,Le.refl _,fun _ _=>⟨_,U⟩,Z⟩
 refine aa ?_ ?_
 intro f w_ j J an af o Z
 have Z:ab j w_ (box g3 73 #[v1_0,I c.bound] :: own (OR.bq 122 (OR.bu au)) [(dm (f 11) 0)] a0.terms :: J):=Z
 obtain ⟨a1,b2⟩:=(o 3 11 U U)
 have hren:ab j w_ (box g3 73 #[v1_0,I c.bound] :: own (OR.bq 122 (OR.bu au)) [(dm (f 11) 0)] a0.terms :: J):=Z
 rw [b2] at hren
 have Z:ab j w_ (box g3 73 #[v1_0,I c.bound] :: oF 122 au a1 a0.terms :: J):=hren
 refine cS U (bG b2) (iO (a1) (I a0.bound) ) Z (fun g0 g1 Z=>?_)
 have Z:=Z.get 2 U
 have Z:=gr (c:=a0) Z
 have Z:=ab.bS (R:=(cP 122)) [([a1,I a0.bound],a0)] [a0] 1 Z U U U (by decide)
 have Z:=Z.get 1 U
 exact ax ⟨U,_,_,U,Le.refl _,fun _ _=>trivial,Z⟩
 refine aa ?_ ?_
 intro f w_ j J an af o Z
 have Z:ab j w_ (box g3 73 #[v1_0,I c.bound] :: oF 73 (ba 122) (f 9) x5 :: oS 73 (cP 122) (f 12) ([a0]) :: J):=Z
 have Z:=Z.get 2 U
 obtain ⟨e0,e1,Z⟩:=ab.shallow Z
 have Z:ab e0 w_ (oF 73 (ba 122) (f 12) ([a0]) :: _):=Z
 have Z:=Z.get 2 U
 refine cj (v:=(f 9)) (u:=(f 12)) U nU U U Z ch (fun g2 g4 Z=>?_)
 have Z:=Z.get 1 U
 exact ax ⟨U,_,_,U,e1,fun _ _=>trivial,Z⟩
 refine aa ?_ ?_
 intro f w_ j J an af o Z
 refine xk (R:=(OR.bu RP.int)) (z0:=0) (zc:=[I 0]) U eb (by kernel_rfl) (fun _ _=>⟨U,U⟩) U U cn Z (fun g5 g6 Z=>?_)
 have Z:=Z.get 1 U
 exact ax ⟨U,_,_,U,Le.refl _,fun _ _=>trivial,Z⟩
 refine aa ?_ ?_
 intro f w_ j J an af o Z
 have Z:ab j w_ (box g3 73 #[v1_0,I c.bound] :: oF 73 (ba 122) (f 13) a3 :: oF 3 RP.int (f 14) a4 :: J):=Z
 obtain ⟨b3,g7,e2,c2,e3⟩:=Z.borrow
 have c3:(rS 73 (ba 122)).rel b3 [(f 13)] a3:=cg 1 c2 U
 have b4:(rS 3 RP.int).rel b3 [(f 14)] a4:=cg 2 c2 U
 refine ar U call56 (cu U U) (rh (list:=a3) (p:=a4) e2 c3 b4 cp) ?_
 rintro _ e5 ⟨c7,rfl,Z⟩
 have Z:=e3 Z (co bk c0)
 have Z:=Z.aU [3,3,3] U
 exact ax ⟨U,_,_,U,Le.refl _,fun _ _=>⟨_,_,U,trivial,U⟩,Z⟩
 refine aa ?_ ?_
 intro f w_ j J an af o Z
 have Z:ab j w_ (box g3 73 #[v1_0,I c.bound] :: own (OR.bq 3 (OR.bu RP.int)) [(pE (f 15) 0)] ag.1 :: J):=Z
 obtain ⟨b1,c8,a5,c4,a6⟩:=(o 7 15 U U)
 obtain rfl:=a6
 have hren:ab j w_ (box g3 73 #[v1_0,I c.bound] :: own (OR.bq 3 (OR.bu RP.int)) [(pE (f 15) 0)] ag.1 :: J):=Z
 rw [a5] at hren
 have Z:ab j w_ (box g3 73 #[v1_0,I c.bound] :: oF 3 RP.int b1 ag.1 :: J):=hren
 refine mF a5 U (ax ⟨U,_,_,U,Le.refl _,fun _ _=>⟨_,_,U,trivial,U⟩,Z⟩)
 refine aa ?_ ?_
 intro f w_ j J an af o Z
 have Z:ab j w_ (box g3 73 #[v1_0,I c.bound] :: own (OR.bq 3 (OR.bu RP.int)) [(pE (f 7) 0)] ag.1 :: J):=Z
 obtain ⟨a2,dd,bd,c5,bs⟩:=(o 8 7 U U)
 obtain rfl:=bs
 have hren:ab j w_ (box g3 73 #[v1_0,I c.bound] :: own (OR.bq 3 (OR.bu RP.int)) [(pE (f 7) 0)] ag.1 :: J):=Z
 rw [bd] at hren
 have Z:ab j w_ (box g3 73 #[v1_0,I c.bound] :: oF 3 RP.int a2 ag.1 :: J):=hren
 refine dF (v:=a2) U bd U (ax ⟨U,_,_,U,Le.refl _,fun _ _=>trivial,Z⟩)
 refine aa ?_ ?_
 intro f w_ j J an af o Z
 obtain ⟨dg,dj,b5,c6,b0⟩:=(o 8 7 U U)
 obtain rfl:=b0
 refine dF (v:=I ag.2) U b5 U (ax ⟨U,_,_,U,Le.refl _,fun _ _=>rfl,Z⟩)
 refine aa ?_ ?_
 intro f w_ j J an af o Z
 have Z:ab j w_ (box g3 73 #[v1_0,I c.bound] :: oF 3 RP.int (f 16) ag.1 :: J):=Z
 refine aV (f 16) U (ax ⟨U,_,_,U,Le.refl _,fun _ _=>trivial,Z⟩)
 exact aQ
 have Z:ab j w_ ([box g3 73 #[v1_0,I c.bound],oF 73 (ba 122) (f 13) a3,oF 3 RP.int (f 14) a4,oF 3 RP.int (f 5) ag.1]):=Z
 refine aF (c1 10 17 U U) U (ax (sq (mI U (hY U U U (aB U (nn (aA (aN (v1:=Bo (decide (ag.2 ≥ 0))) results201 U ?_))))))))
 obtain rfl:=so hF
 exact ⟨U,(ab.down (ab.aG 0 Z) af c0)⟩
theorem sN {r_:Db} {g_0:Nat} {v0_0:Value} {v0_1:Value} {H:FH} {w:World} {R:List Ass} (Z:ab H w (box g_0 131 #[v0_0,v0_1] :: oF 73 (ba 122) v0_0 r_.list :: oF 4 RP.bool v0_1 r_.gone :: R)) {r:List Con} (hF:jA r_=some r):C prog 202 #[Pt g_0] w fun v w'=>∃ H':FH,Le H H'∧∃ (u1:Value),v=u1∧ab H' w' (oF 73 (ba 122) u1 r :: box g_0 131 #[v0_0,v0_1] :: oF 73 (ba 122) v0_0 r_.list :: oF 4 RP.bool v0_1 r_.gone :: R):=by
 unfold jA at hF
 refine aE func202 U ntmps202 U (sq (aV S0 U (ns (aV S0 U (nq (sq (mV (Pt g_0) U (hH U U (fA 0 jx U U (bw 0 Z isAgg28 U U U (aW U underlying28 U (ab.len 1 Z U) (mI U (nn ?_)))))))))))))
 have c2:List.length r_.list≤9223372036854775807:=bB (ab.len 1 Z U)
 obtain ⟨j4,bs,hF⟩:=bind_some hF
 obtain ⟨R4,c7⟩:=ca fun f w_=>∃ J:List Con,∃ o,j4=.nx J∧f 3=o∧ab H w_ (oF 73 (ba 122) o J :: oF 73 (ba 122) v0_0 r_.list :: oF 4 RP.bool v0_1 r_.gone :: box g_0 131 #[v0_0,v0_1] :: R)
 refine av R4 ?_ ?_
 refine ak ?_
 obtain ⟨I4,c3⟩:=ff fun n f w_=>∃ a3:Nat,∃ a0:List Con,∃ J:List Con,∃ o,n=a0.length∧List.drop a3 r_.list=a0∧a3+a0.length=r_.list.length∧aw (iY r_) a0 a3 J=some j4∧f 0=Pt g_0∧f 3=o∧f 9=v0_0∧f 10=I (r_.list.length:Int)∧f 11=I a3∧ab H w_ (oF 73 (ba 122) o J :: oF 73 (ba 122) v0_0 r_.list :: oF 4 RP.bool v0_1 r_.gone :: box g_0 131 #[v0_0,v0_1] :: R)
 have Z:=ab.bE (R:=(OR.bu (ba 122))) (e:=73) Z
 have Z:=Z.aU [1,3,3,3] U
 refine a8 I4 (n:=r_.list.length) ?_ ?_
 exact ij c3 ⟨0,r_.list,[],S0,U,U,Nat.zero_add _,bs,U,U,U,U,U,Z⟩
 intro n4 f w_ hI
 obtain ⟨a3,a0,J,o,rfl,c8,cn,bs,b1,a5,b2,a4,a1,Z⟩:=ik c3 hI
 refine sq (bh U a1 a4 (nq (al (b:=decide ((a3:Int)<(r_.list.length:Int))) U (fun c4=>?_) (fun c4=>?_))))
 have dd:=of_decide_eq_true c4
 rcases a0 with _ | ⟨a2,b3⟩
 exact absurd dd (by simp at cn; omega)
 obtain ⟨o4,b0,bs⟩:=aJ bs
 rw [iY] at b0
 have b4:=aY c8
 refine aq (ao (ak (sq (mF a1 U ?_))))
 obtain ⟨e1,dg,cp,_,_⟩:=ab.row 1 Z U b4
 refine bJ (R:=(OR.bu (ba 122))) (tb:=0) 0 U underlying28 sizeOf73 b2 cp (by first | rfl | simp) a1 b4 ?_
 obtain ⟨eu,dj,c5⟩:=ab.fE 1 Z U cp b4
 obtain ⟨af,rfl,a6⟩:=dR.1 dj
 refine a7 (cs:=[af,I a2.bound]) U isAgg73 sizeOf73 U (At.sub c5 0 2) U (dS (cs:=#[S0,I 0]) U zeroValue73 U Z (fun e2 e3 Z=>aI U (bg (vs:=#[af,I a2.bound]) (cs2:=#[af,I a2.bound]) 0 U sizeOf73 U U U (aj (aH (ai a6)) (aj U aK)) Z U (by show 0+2≤2; decide) U (fun e4 Z=>nq ?_))))
 obtain ⟨ek,b5,b0⟩:=bind_some b0
 refine ae (mF b1 U (hH U U (fA 1 ox U U (bw 4 Z isAgg37 U U U (mI U ?_)))))
 obtain ⟨e5,ds,c1,_,_⟩:=ab.row 3 Z U b5
 refine bJ (R:=(OR.bu RP.bool)) (tb:=0) 0 U underlying37 sizeOf4 U c1 (by first | rfl | simp) U b5 ?_
 obtain ⟨e0,ec,c6⟩:=ab.fE 3 Z U c1 b5
 obtain rfl:_=[_]:=ec
 refine bt U isAgg4 U (At.cell c6 (j:=0) U) (bL U U (nn ?_))
 obtain ⟨bd,an,b0⟩:=bind_some b0
 obtain ⟨en,b8⟩:=ca fun f w_=>∃ ag,f 0=Pt g_0∧f 3=ag∧f 9=v0_0∧f 10=I (r_.list.length:Int)∧f 11=I a3∧ab H w_ (oF 73 (ba 122) ag bd :: oF 73 (ba 122) v0_0 r_.list :: oF 4 RP.bool v0_1 r_.gone :: box g_0 131 #[v0_0,v0_1] :: R)
 refine av en ?_ ?_
 refine al (b:=(!ek)) U (fun ch=>?_) (fun ch=>?_)
 have an:=(az ch).symm.trans an
 obtain ⟨fa,ee,an⟩:=bind_some an
 refine ae (mF a5 U (a7 (cs:=[af,I a2.bound]) U isAgg73 sizeOf73 U (At.bK (de.at (ab.aM 0 Z U)) 0 2) U (cS U (bG U) (iO (af) (I a2.bound) ) Z (fun et fo Z=>?_))))
 have Z:=ab.dr (r:=(ba 122)) (cs:=[af,I a2.bound]) (x:=a2) Z (dR.2 ⟨_,U,a6⟩)
 have Z:=ab.bS (R:=(OR.bu (ba 122))) [([af,I a2.bound],a2)] [a2] 1 Z U U U (by decide)
 have Z:=Z.get 2 U
 refine cj (v:=o) (u:=(Sl et 1 1)) U nU U U Z ee (fun ej fs Z=>aV ej U (nn ?_))
 obtain rfl:=so an
 have Z:=Z.aU [4,4,4,3] U
 have Z:=ab.drop 4 Z U
 exact rj b8 ⟨ej,b1,U,b2,a4,a1,Z⟩
 have an:=(ay ch).symm.trans an
 refine aq ?_
 obtain rfl:=so an
 have Z:=Z.aU [4,4,4,4] U
 have Z:=ab.drop 4 Z U
 exact rj b8 ⟨o,b1,a5,b2,a4,a1,Z⟩
 intro f w_ hR
 obtain ⟨ag,b1,a5,b2,a4,a1,Z⟩:=rk b8 hR
 refine ae (bf U a1 U (mI U (nn ?_)))
 obtain rfl:=so b0
 show ∃ m,m<_∧I4 m _ _
 refine ⟨b3.length,by simp,?_⟩
 exact ij c3 ⟨a3+1,b3,bd,ag,U,aL c8,by simp at cn; omega,bs,b1,a5,b2,a4,((eI (aO (n:=r_.list.length) (by simp at cn; omega) c2))),Z⟩
 rcases a0 with _ | ⟨_,_⟩
 obtain rfl:=aT bs
 refine a9 (rj c7 ⟨J,o,U,a5,Z⟩)
 exact absurd (of_decide_eq_false c4) (by simp at cn; omega)
 intro f w_ hR
 obtain ⟨J,o,rfl,a5,Z⟩:=rk c7 hR
 refine sq (mF a5 U (aV o U (nn (aA (aN (v1:=o) results202 U ?_)))))
 obtain rfl:=so hF
 have Z:=Z.aU [2,2,3,3] U
 exact ⟨H,(Le.refl _),o,U,Z⟩
theorem sO {fu:Nat} {r_:Db} {s:Step} {g_0:Nat} {v0_0:Value} {v0_1:Value} {v1_3:Value} {H:FH} {w:World} {R:List Ass} (Z:ab H w (box g_0 131 #[v0_0,v0_1] :: oF 73 (ba 122) v0_0 r_.list :: oF 4 RP.bool v0_1 r_.gone :: R)) (h1_3:(rS 122 au).rel H [v1_3] s.given.terms) {r:Bool × (List Con) × (List Bool)} (hF:ia fu r_ s=some r):C prog 160 #[Pt g_0,.agg #[I s.kind,I s.a,I s.b,v1_3,I s.given.bound]] w fun v w'=>∃ H':FH,Le H H'∧∃ (u1:Value) (u2:Value),v=Bo r.1∧ab H' w' (box g_0 131 #[u1,u2] :: oF 73 (ba 122) u1 r.2.1 :: oF 4 RP.bool u2 r.2.2 :: R):=by
 unfold ia at hF
 refine aE func160 U ntmps160 U (sq (cr (v:=.agg #[I s.kind,I s.a,I s.b,v1_3,I s.given.bound]) (cs:=#[I s.kind,I s.a,I s.b,v1_3,I s.given.bound]) U U U Z (fun g3 w4 Z=>aB U (nq ?_))))
 obtain ⟨hP,Hn,hF⟩:=bind_some hF
 refine ae (fA 0 iq U U (bw 0 Z isAgg3 U U U ?_))
 obtain ⟨JL,Kn,Jk,Ko,Jl⟩:=Z.borrow
 refine ar U call192 (b9 U) (uZ (kind:=s.kind) Jk Hn) ?_
 rintro _ Kp ⟨rfl,Z⟩
 have Z:=Jl Z c0
 refine mV (.tuple #[I hP.1,Bo hP.2]) U (dF (v:=I hP.1) U U U (dF (v:=Bo hP.2) U U U (aI U (aB U (nq (ao ?_))))))
 obtain ⟨Jm,Ho,hF⟩:=bind_some hF
 obtain ⟨GB,hb,hF⟩:=bind_some hF
 obtain ⟨Hp,cn,hF⟩:=bind_some hF
 obtain ⟨Jn,hc⟩:=ca fun f w_=>∃ g9,Le H g9∧f 0=Pt g_0∧f 3=Pt g3∧f 39=Bo Hp∧ab g9 w_ (oF 73 (ba 122) v0_0 r_.list :: oF 4 RP.bool v0_1 r_.gone :: box g_0 131 #[v0_0,v0_1] :: box g3 158 #[I s.kind,I s.a,I s.b,v1_3,I s.given.bound] :: R)
 refine av Jn ?_ ?_
 refine ae (a7 (cs:=[I s.kind,I s.a,I s.b,v1_3,I s.given.bound]) U isAgg158 sizeOf158 U (At.bK (de.at (ab.aM 0 Z U)) 0 5) U ?_)
 obtain ⟨JM,Jo,Jp,Kq,Jq⟩:=Z.borrow
 refine ar U call193 (b9 U) (tG (s:=s) Jp (RP.mono _ h1_3 Jo) Ho) ?_
 rintro _ Kr ⟨rfl,Z⟩
 have Z:=Jq Z c0
 refine bL U U (mB U (aD (d:=18) (b:=(!Jm)) U (fun n5=>?_) (fun n5=>?_)))
 rw [az n5] at hb
 refine ps U (ps U (ps U (ps U (ps U (ps U (ps U (ps U (ps U (dU hb U (mB U (aD (d:=29) (b:=GB) U (fun n6=>?_) (fun n6=>?_))))))))))))
 rw [az n6] at cn
 refine ps U (ps U (ps U (ps U (ps U (ps U (ps U (ps U (ps U (dU cn U (nn ?_))))))))))
 have Z:=Z.aU [1,3,3] U
 exact rj hc ⟨H,(Le.refl _),U,U,U,Z⟩
 exact gj (so hb).symm n6
 rw [ay n5] at hb
 obtain ⟨Ks,hl,hb⟩:=bind_some hb
 refine mI U (c9 U U U (mB U (aD (d:=21) (b:=decide (hP.1 > 0)) U (fun n7=>?_) (fun n7=>?_))))
 rw [az n7] at hl
 obtain ⟨Kt,Hq,hl⟩:=bind_some hl
 refine mV (Pt g_0) U (fA 1 kW U U (bw 0 Z isAgg3 U U U ?_))
 have Z:=Z.aU [3,3,3] U
 refine ar U call194 (cu U U) (lZ (r_:=r_) (i:=s.a) Z Hq) ?_
 rintro _ Ku ⟨Hr,GC,rfl,Z⟩
 refine bL U U (dU hl U (dU hb U (mB U (aD (d:=29) (b:=GB) U (fun n8=>?_) (fun n8=>?_)))))
 rw [az n8] at cn
 refine ps U (ps U (ps U (ps U (ps U (ps U (ps U (ps U (ps U (dU cn U (nn ?_))))))))))
 have Z:=Z.aU [3,1,3,3] U
 exact rj hc ⟨Hr,GC,U,U,U,Z⟩
 rw [ay n8] at cn
 obtain ⟨Jr,en,cn⟩:=bind_some cn
 refine mI U (c9 U U U (mB U (aD (d:=32) (b:=decide (hP.1 > 1)) U (fun ob=>?_) (fun ob=>?_))))
 rw [az ob] at en
 obtain ⟨Js,oh,en⟩:=bind_some en
 refine mV (Pt g_0) U (fA 2 kL U U (bw 3 Z isAgg3 U U U (ar U call194 (cu U U) (lZ (r_:=r_) (i:=s.b) Z oh) ?_)))
 rintro _ Kv ⟨Jt,Ju,rfl,Z⟩
 refine bL U U (dU en U (dU cn U (nn ?_)))
 have Z:=Z.aU [3,1,3,3] U
 exact rj hc ⟨Jt,(Le.trans GC Ju),U,U,U,Z⟩
 rw [ay ob] at en
 refine ps U (ps U (ps U (ps U (ps U (dU en U (dU cn U (nn ?_)))))))
 have Z:=Z.aU [3,1,3,3] U
 exact rj hc ⟨Hr,GC,U,U,U,Z⟩
 rw [ay n7] at hl
 refine ps U (ps U (ps U (ps U (ps U (dU hl U (dU hb U (mB U (aD (d:=29) (b:=GB) U (fun oj=>?_) (fun oj=>?_)))))))))
 rw [az oj] at cn
 refine ps U (ps U (ps U (ps U (ps U (ps U (ps U (ps U (ps U (dU cn U (nn ?_))))))))))
 have Z:=Z.aU [1,3,3] U
 exact rj hc ⟨H,(Le.refl _),U,U,U,Z⟩
 rw [ay oj] at cn
 obtain ⟨Jr,en,cn⟩:=bind_some cn
 refine mI U (c9 U U U (mB U (aD (d:=32) (b:=decide (hP.1 > 1)) U (fun oq=>?_) (fun oq=>?_))))
 rw [az oq] at en
 obtain ⟨Js,oh,en⟩:=bind_some en
 refine mV (Pt g_0) U (fA 2 kL U U (bw 0 Z isAgg3 U U U ?_))
 have Z:=Z.aU [3,3,3] U
 refine ar U call194 (cu U U) (lZ (r_:=r_) (i:=s.b) Z oh) ?_
 rintro _ Kw ⟨Jv,Jw,rfl,Z⟩
 refine bL U U (dU en U (dU cn U (nn ?_)))
 have Z:=Z.aU [3,1,3,3] U
 exact rj hc ⟨Jv,Jw,U,U,U,Z⟩
 rw [ay oq] at en
 refine ps U (ps U (ps U (ps U (ps U (dU en U (dU cn U (nn ?_)))))))
 have Z:=Z.aU [1,3,3] U
 exact rj hc ⟨H,(Le.refl _),U,U,U,Z⟩
 intro f w_ hR
 obtain ⟨g9,hk,a0,fa,Hs,Z⟩:=rk hc hR
 refine al (b:=Hp) Hs (fun o0=>?_) (fun o0=>?_)
 have hF:=(az o0).symm.trans hF
 refine sq (aB U (nn (aA (aN (v1:=Bo false) results160 U ?_))))
 obtain rfl:=so hF
 have Z:=Z.aU [1,1,2] U
 have Z:=ab.drop 3 Z U
 exact ⟨g9,hk,v0_0,v0_1,U,Z⟩
 have hF:=(ay o0).symm.trans hF
 refine aq (sq (dS (cs:=#[S0,I 0]) U zeroValue73 U Z (fun j Kx Z=>ns (aB U (nq (sq (fA 0 iq fa U (bw 4 Z isAgg3 U U U (nn (ak (sq (bD U U U (aB U (nn (al (b:=(s.kind == 8)) U (fun o1=>?_) (fun o1=>?_))))))))))))))))
 have hF:=(az o1).symm.trans hF
 refine ao ?_
 obtain ⟨Ky,o2,hF⟩:=bind_some hF
 have Z:=ab.drop 0 Z U
 refine cv 6 [Pt g_0,Pt g_0,Pq g_0 1,v0_1,Pq g3 1,I s.a] [oF 73 (ba 122) v0_0 r_.list,oF 4 RP.bool v0_1 r_.gone,box g_0 131 #[v0_0,v0_1],box g3 158 #[I s.kind,I s.a,I s.b,v1_3,I s.given.bound]] [] (R) [([],[]),([],[]),([],[]),([],[]),([],[]),([],[])] (S:=[]) aP (by kernel_rfl) U (by kernel_rfl) Z ?_ (fun f w_ Jx JN Ht Gt Z=>?_)
 refine aa (fun f w_ _ _ s _ _ Z=>mF ((s 0 U).trans a0) U (nO U U Z)) (aa (fun f w_ _ _ _ _ p Z=>hH U (p 0 44 U U) (nO U U Z)) (aa (fun f w_ _ _ _ _ p Z=>fA 1 ox (p 1 45 U U) U (nO U U Z)) (aa (fun f w_ _ _ _ _ p Z=>bw 2 Z isAgg37 (p 2 46 U U) U U (nO U U Z)) (aa (fun f w_ _ _ s _ _ Z=>fA 1 kW ((s 3 U).trans fa) U (nO U U Z)) (aa (fun f w_ _ _ _ _ p Z=>bw 3 Z isAgg3 (p 4 48 U U) U U (nO U U Z)) (aQ))))))
 obtain ⟨Kz,Hu,Gu,_,_⟩:=ab.row 1 Z U o2
 refine bJ (R:=(OR.bu RP.bool)) (tb:=0) 0 U underlying37 sizeOf4 (Gt 3 47 U U) Gu (by first | rfl | simp) (Gt 5 49 U U) o2 ?_
 have Z:=ab.dr (r:=RP.bool) (cs:=[Bo true]) (x:=true) Z U
 have Z:=Z.aU [2,1] U
 refine fj (u:=Bo true) U sizeOf4 U U U Gu Z o2 (fun KA Z=>?_)
 refine ns (aB U (nn (aA (aN (v1:=Bo true) results160 U ?_))))
 obtain rfl:=so hF
 have Z:=Z.aU [1,2] U
 have Z:=ab.drop 3 Z U
 exact ⟨Jx,(Le.trans hk Ht),v0_0,v0_1,U,Z⟩
 have hF:=(ay o1).symm.trans hF
 refine sq (bD U U U (aB U (nn ?_)))
 obtain ⟨⟨o3,cp,o⟩,c4,hF⟩:=bind_some hF
 obtain ⟨Jy,o4⟩:=ca fun f w_=>∃ z1,∃ J,Le g9 z1∧f 0=Pt g_0∧f 7=Pt j∧f 8=Bo o3∧(rS 122 au).rel z1 [J] cp∧ab z1 w_ (oF 73 (ba 122) v0_0 r_.list :: oF 4 RP.bool v0_1 r_.gone :: box g_0 131 #[v0_0,v0_1] :: box j 73 #[J,I o] :: R)
 refine av Jy ?_ ?_
 refine al (b:=(s.kind == 1)) U (fun o5=>?_) (fun o5=>?_)
 have c4:=(az o5).symm.trans c4
 obtain ⟨As,o6,c4⟩:=bind_some c4
 obtain ⟨Bs,Gv,c4⟩:=bind_some c4
 obtain ⟨e5,Hv,c4⟩:=bind_some c4
 obtain ⟨Hw,Hx,l7,_,_⟩:=ab.row 1 Z U o6
 have Z:=Z.aU [4,4,4,4] U
 refine bT 21 [aZ (Pt g_0),aZ (Pt g_0),aZ (Pt g_0),aZ (v0_0),aZ (Pq g3 1),aZ (I s.a),aZ (.pointer (some ⟨Hw,Int.toNat s.a * 2,none⟩)),tf (eJ (rS 122 au) As.terms) fun an=>aZ (.agg #[an,I As.bound]),aZ (Pt g_0),aZ (Pt g_0),aZ (Pt g_0),aZ (v0_0),aZ (Pq g3 2),aZ (I s.b),aZ (.pointer (some ⟨Hw,Int.toNat s.b * 2,none⟩)),tf (eJ (rS 122 au) Bs.terms) fun an=>aZ (.agg #[an,I Bs.bound]),sm (tf (eJ (rS 122 au) e5.1.terms) fun an=>aZ (.agg #[an,I e5.1.bound])) (aZ (Bo e5.2)),sm (tf (eJ (rS 122 au) e5.1.terms) fun an=>aZ (.agg #[an,I e5.1.bound])) (aZ (Bo e5.2)),tf (eJ (rS 122 au) e5.1.terms) fun an=>aZ (.agg #[an,I e5.1.bound]),aZ (Bo e5.2),gE] [oF 73 (ba 122) v0_0 r_.list,oF 4 RP.bool v0_1 r_.gone,box g_0 131 #[v0_0,v0_1],box g3 158 #[I s.kind,I s.a,I s.b,v1_3,I s.given.bound]] [.base (box j 73 #[S0,I 0]) (some 20),.madeN 20 [71] (fun vs_=>box j 73 #[(dm (vs_.getD 0 undef) 0),I e5.1.bound]) none] (R) [([],[]),([],[]),([],[]),([],[]),([],[]),([],[]),([],[]),([],[]),([],[]),([],[]),([],[]),([],[]),([],[]),([],[]),([],[]),([],[]),([],[]),([],[]),([],[]),([],[]),([0],[1])] (S:=[(none,[],some 20),(some 20,[71],none)]) aP (by kernel_rfl) U (by kernel_rfl) (ad (ah _) (ad (ah _) (ad (ah _) (ad (ah _) (ad (ah _) (ad (ah _) (ad (ah _) (ad (dk (cA _ _) fun _=>ah _) (ad (ah _) (ad (ah _) (ad (ah _) (ad (ah _) (ad (ah _) (ad (ah _) (ad (ah _) (ad (dk (cA _ _) fun _=>ah _) (ad (fZ (dk (cA _ _) fun _=>ah _) (ah _)) (ad (fZ (dk (cA _ _) fun _=>ah _) (ah _)) (ad (dk (cA _ _) fun _=>ah _) (ad (ah _) (ad (bO) bV))))))))))))))))))))) Z ?_ (fun f w_ ha g1 hf Gw Z=>?_)
 refine aa (fun f w_ _ _ s _ _ Z=>mF ((s 0 U).trans a0) U (nO U U Z)) (aa (fun f w_ _ _ _ _ p Z=>hH U (p 0 54 U U) (nO U U Z)) (aa (fun f w_ _ _ _ _ p Z=>fA 0 jx (p 1 55 U U) U (nO U U Z)) (aa (fun f w_ _ _ _ _ p Z=>bw 2 Z isAgg28 (p 2 56 U U) U U (nO U U Z)) (aa (fun f w_ _ _ s _ _ Z=>fA 1 kW ((s 3 U).trans fa) U (nO U U Z)) (aa (fun f w_ _ _ _ _ p Z=>bw 3 Z isAgg3 (p 4 58 U U) U U (nO U U Z)) (aa (fun f w_ _ _ _ _ p Z=>bJ (R:=(OR.bu (ba 122))) (tb:=0) 0 U underlying28 sizeOf73 (p 3 57 U U) l7 (by first | rfl | simp) (p 5 59 U U) o6 (nO U U Z)) (aa ?_ ?_)))))))
 intro f w_ ha hy g1 hf c5 Z
 obtain ⟨JO,Hy,GD⟩:=ab.fE 0 Z U l7 o6
 obtain ⟨GF,rfl,Cs⟩:=dR.1 Hy
 refine a7 (cs:=[GF,I As.bound]) U isAgg73 sizeOf73 (c5 6 60 U U) (At.sub GD 0 2) U (ax ⟨U,_,_,U,Le.refl _,fun _ _=>⟨_,Cs,U⟩,Z⟩)
 refine aa (fun f w_ _ _ s _ _ Z=>mF ((s 0 U).trans a0) U (nO U U Z)) (aa (fun f w_ _ _ _ _ p Z=>hH U (p 8 62 U U) (nO U U Z)) (aa (fun f w_ _ _ _ _ p Z=>fA 0 jx (p 9 63 U U) U (nO U U Z)) (aa (fun f w_ _ _ _ _ p Z=>bw 2 Z isAgg28 (p 10 64 U U) U U (nO U U Z)) (aa (fun f w_ _ _ s _ _ Z=>fA 2 kL ((s 3 U).trans fa) U (nO U U Z)) (aa (fun f w_ _ _ _ _ p Z=>bw 3 Z isAgg3 (p 12 66 U U) U U (nO U U Z)) (aa (fun f w_ _ _ _ _ p Z=>bJ (R:=(OR.bu (ba 122))) (tb:=0) 0 U underlying28 sizeOf73 (p 11 65 U U) l7 (by first | rfl | simp) (p 13 67 U U) Gv (nO U U Z)) (aa ?_ ?_)))))))
 intro f w_ ha hy g1 hf c5 Z
 obtain ⟨JP,Hz,GG⟩:=ab.fE 0 Z U l7 Gv
 obtain ⟨GH,rfl,D1⟩:=dR.1 Hz
 refine a7 (cs:=[GH,I Bs.bound]) U isAgg73 sizeOf73 (c5 14 68 U U) (At.sub GG 0 2) U (ax ⟨U,_,_,U,Le.refl _,fun _ _=>⟨_,D1,U⟩,Z⟩)
 refine aa ?_ ?_
 intro f w_ ha hy g1 hf c5 Z
 obtain ⟨Jz,ET,HA⟩:=(c5 7 61 U U)
 obtain ⟨JA,Fs,HB⟩:=(c5 15 69 U U)
 refine ar U call195 (cu HA HB) (rK (a:=As) (b:=Bs) Z ET Fs Hv) ?_
 rintro _ JQ ⟨JR,HC,Iw,rfl,o7,Z⟩
 exact ax ⟨U,_,_,U,HC,fun _ _=>⟨_,_,U,⟨_,o7,U⟩,U⟩,Z⟩
 refine aa ?_ ?_
 intro f w_ ha hy g1 hf c5 Z
 obtain ⟨Ix,Iy,GI,o8,o9⟩:=(c5 16 70 U U)
 obtain ⟨Iz,p0,rfl⟩:=o8
 obtain rfl:=o9
 refine mF GI U (ax ⟨U,_,_,U,Le.refl _,fun _ _=>⟨_,_,U,⟨_,p0,U⟩,U⟩,Z⟩)
 refine aa ?_ ?_
 intro f w_ ha hy g1 hf c5 Z
 obtain ⟨IA,IB,GJ,p1,p2⟩:=(c5 17 53 U U)
 obtain ⟨F0,p3,rfl⟩:=p1
 obtain rfl:=p2
 refine dF (v:=.agg #[F0,I e5.1.bound]) U GJ U (ax ⟨U,_,_,U,Le.refl _,fun _ _=>⟨_,p3,U⟩,Z⟩)
 refine aa ?_ ?_
 intro f w_ ha hy g1 hf c5 Z
 obtain ⟨IC,ID,GK,p4,p5⟩:=(c5 17 53 U U)
 obtain ⟨IE,HD,rfl⟩:=p4
 obtain rfl:=p5
 refine dF (v:=Bo e5.2) U GK U (ax ⟨U,_,_,U,Le.refl _,fun _ _=>rfl,Z⟩)
 refine aa ?_ ?_
 intro f w_ ha hy g1 hf c5 Z
 have Z:ab ha w_ (oF 73 (ba 122) v0_0 r_.list :: oF 4 RP.bool v0_1 r_.gone :: box g_0 131 #[v0_0,v0_1] :: box g3 158 #[I s.kind,I s.a,I s.b,v1_3,I s.given.bound] :: box j 73 #[S0,I 0] :: hy):=Z
 obtain ⟨l8,p6,q0⟩:=(c5 18 71 U U)
 refine bg (vs:=#[l8,I e5.1.bound]) (cs2:=#[l8,I e5.1.bound]) 4 U sizeOf73 ((g1 7 U).trans U) q0 U (aj (aH (ai p6)) (aj U aK)) Z U (by show 0+2≤2; decide) U (fun HE Z=>?_)
 have Z:=Z.aU [4,4,4,4] U
 have Z:ab ha HE (oF 73 (ba 122) v0_0 r_.list :: oF 4 RP.bool v0_1 r_.gone :: box g_0 131 #[v0_0,v0_1] :: box g3 158 #[I s.kind,I s.a,I s.b,v1_3,I s.given.bound] :: box j 73 #[(dm (f 71) 0),I e5.1.bound] :: hy):=by rw [q0]; exact Z
 exact ax ⟨U,Bo false,_,U,Le.refl _,(fun _ h=>nomatch h),Z⟩
 exact aQ
 have Z:ab ha w_ (oF 73 (ba 122) v0_0 r_.list :: oF 4 RP.bool v0_1 r_.gone :: box g_0 131 #[v0_0,v0_1] :: box g3 158 #[I s.kind,I s.a,I s.b,v1_3,I s.given.bound] :: box j 73 #[(dm (f 71) 0),I e5.1.bound] :: R):=Z
 obtain ⟨l9,q1,GL⟩:=(Gw 18 71 U U)
 have hren:ab ha w_ (oF 73 (ba 122) v0_0 r_.list :: oF 4 RP.bool v0_1 r_.gone :: box g_0 131 #[v0_0,v0_1] :: box g3 158 #[I s.kind,I s.a,I s.b,v1_3,I s.given.bound] :: box j 73 #[(dm (f 71) 0),I e5.1.bound] :: R):=Z
 rw [GL] at hren
 have Z:ab ha w_ (oF 73 (ba 122) v0_0 r_.list :: oF 4 RP.bool v0_1 r_.gone :: box g_0 131 #[v0_0,v0_1] :: box g3 158 #[I s.kind,I s.a,I s.b,v1_3,I s.given.bound] :: box j 73 #[l9,I e5.1.bound] :: R):=hren
 refine aF (Gw 19 72 U U) U (nn ?_)
 obtain ⟨rfl,rfl,rfl⟩:=zw c4
 have Z:=Z.aU [4,3,3,3] U
 have Z:=ab.drop 4 Z U
 exact rj o4 ⟨ha,l9,hf,((g1 0 U).trans a0),((g1 7 U).trans U),U,q1,Z⟩
 have c4:=(ay o5).symm.trans c4
 refine sq (bD U U U (aB U (nn ?_)))
 obtain ⟨⟨F1,hQ,hS⟩,b0,c4⟩:=bind_some c4
 obtain ⟨HF,hV⟩:=ca fun f w_=>∃ hz,∃ c6,Le g9 hz∧f 0=Pt g_0∧f 7=Pt j∧f 8=Bo F1∧(rS 122 au).rel hz [c6] hQ∧ab hz w_ (oF 73 (ba 122) v0_0 r_.list :: oF 4 RP.bool v0_1 r_.gone :: box g_0 131 #[v0_0,v0_1] :: box j 73 #[c6,I hS] :: R)
 refine av HF ?_ ?_
 refine al (b:=(s.kind == 2)) U (fun hW=>?_) (fun hW=>?_)
 have b0:=(az hW).symm.trans b0
 obtain ⟨mg,h0,b0⟩:=bind_some b0
 obtain ⟨a3,GM,b0⟩:=bind_some b0
 obtain ⟨HG,Hj,q2,_,_⟩:=ab.row 1 Z U h0
 have Z:=Z.aU [4,4,4,4] U
 refine bT 15 [aZ (Pt g_0),aZ (Pt g_0),aZ (Pt g_0),aZ (v0_0),aZ (Pq g3 1),aZ (I s.a),aZ (.pointer (some ⟨HG,Int.toNat s.a * 2,none⟩)),tf (eJ (rS 122 au) mg.terms) fun an=>aZ (.agg #[an,I mg.bound]),aZ (Pq g3 2),aZ (I s.b),sm (tf (eJ (rS 122 au) a3.1.terms) fun an=>aZ (.agg #[an,I a3.1.bound])) (aZ (Bo a3.2)),sm (tf (eJ (rS 122 au) a3.1.terms) fun an=>aZ (.agg #[an,I a3.1.bound])) (aZ (Bo a3.2)),tf (eJ (rS 122 au) a3.1.terms) fun an=>aZ (.agg #[an,I a3.1.bound]),aZ (Bo a3.2),gE] [oF 73 (ba 122) v0_0 r_.list,oF 4 RP.bool v0_1 r_.gone,box g_0 131 #[v0_0,v0_1],box g3 158 #[I s.kind,I s.a,I s.b,v1_3,I s.given.bound]] [.base (box j 73 #[S0,I 0]) (some 14),.madeN 14 [87] (fun vs_=>box j 73 #[(dm (vs_.getD 0 undef) 0),I a3.1.bound]) none] (R) [([],[]),([],[]),([],[]),([],[]),([],[]),([],[]),([],[]),([],[]),([],[]),([],[]),([],[]),([],[]),([],[]),([],[]),([0],[1])] (S:=[(none,[],some 14),(some 14,[87],none)]) aP (by kernel_rfl) U (by kernel_rfl) (ad (ah _) (ad (ah _) (ad (ah _) (ad (ah _) (ad (ah _) (ad (ah _) (ad (ah _) (ad (dk (cA _ _) fun _=>ah _) (ad (ah _) (ad (ah _) (ad (fZ (dk (cA _ _) fun _=>ah _) (ah _)) (ad (fZ (dk (cA _ _) fun _=>ah _) (ah _)) (ad (dk (cA _ _) fun _=>ah _) (ad (ah _) (ad (bO) bV))))))))))))))) Z ?_ (fun f w_ e3 et g2 q3 Z=>?_)
 refine aa (fun f w_ _ _ s _ _ Z=>mF ((s 0 U).trans a0) U (nO U U Z)) (aa (fun f w_ _ _ _ _ p Z=>hH U (p 0 76 U U) (nO U U Z)) (aa (fun f w_ _ _ _ _ p Z=>fA 0 jx (p 1 77 U U) U (nO U U Z)) (aa (fun f w_ _ _ _ _ p Z=>bw 2 Z isAgg28 (p 2 78 U U) U U (nO U U Z)) (aa (fun f w_ _ _ s _ _ Z=>fA 1 kW ((s 3 U).trans fa) U (nO U U Z)) (aa (fun f w_ _ _ _ _ p Z=>bw 3 Z isAgg3 (p 4 80 U U) U U (nO U U Z)) (aa (fun f w_ _ _ _ _ p Z=>bJ (R:=(OR.bu (ba 122))) (tb:=0) 0 U underlying28 sizeOf73 (p 3 79 U U) q2 (by first | rfl | simp) (p 5 81 U U) h0 (nO U U Z)) (aa ?_ ?_)))))))
 intro f w_ e3 hh et g2 b1 Z
 obtain ⟨JB,GN,F2⟩:=ab.fE 0 Z U q2 h0
 obtain ⟨F3,rfl,q4⟩:=dR.1 GN
 refine a7 (cs:=[F3,I mg.bound]) U isAgg73 sizeOf73 (b1 6 82 U U) (At.sub F2 0 2) U (ax ⟨U,_,_,U,Le.refl _,fun _ _=>⟨_,q4,U⟩,Z⟩)
 refine aa (fun f w_ _ _ s _ _ Z=>fA 2 kL ((s 3 U).trans fa) U (nO U U Z)) (aa (fun f w_ _ _ _ _ p Z=>bw 3 Z isAgg3 (p 8 84 U U) U U (nO U U Z)) (aa ?_ ?_))
 intro f w_ e3 hh et g2 b1 Z
 obtain ⟨IF,q8,GO⟩:=(b1 7 83 U U)
 refine ar U call196 (cu GO (b1 9 85 U U)) (oM (c:=mg) (k:=s.b) Z q8 GM) ?_
 rintro _ JS ⟨JT,HH,IG,rfl,ra,Z⟩
 exact ax ⟨U,_,_,U,HH,fun _ _=>⟨_,_,U,⟨_,ra,U⟩,U⟩,Z⟩
 refine aa ?_ ?_
 intro f w_ e3 hh et g2 b1 Z
 obtain ⟨IH,II,GP,rv,r0⟩:=(b1 10 86 U U)
 obtain ⟨IJ,r1,rfl⟩:=rv
 obtain rfl:=r0
 refine mF GP U (ax ⟨U,_,_,U,Le.refl _,fun _ _=>⟨_,_,U,⟨_,r1,U⟩,U⟩,Z⟩)
 refine aa ?_ ?_
 intro f w_ e3 hh et g2 b1 Z
 obtain ⟨IK,IL,GQ,r2,r3⟩:=(b1 11 75 U U)
 obtain ⟨F4,ss,rfl⟩:=r2
 obtain rfl:=r3
 refine dF (v:=.agg #[F4,I a3.1.bound]) U GQ U (ax ⟨U,_,_,U,Le.refl _,fun _ _=>⟨_,ss,U⟩,Z⟩)
 refine aa ?_ ?_
 intro f w_ e3 hh et g2 b1 Z
 obtain ⟨IM,IN,GR,sx,sz⟩:=(b1 11 75 U U)
 obtain ⟨IP,HI,rfl⟩:=sx
 obtain rfl:=sz
 refine dF (v:=Bo a3.2) U GR U (ax ⟨U,_,_,U,Le.refl _,fun _ _=>rfl,Z⟩)
 refine aa ?_ ?_
 intro f w_ e3 hh et g2 b1 Z
 have Z:ab e3 w_ (oF 73 (ba 122) v0_0 r_.list :: oF 4 RP.bool v0_1 r_.gone :: box g_0 131 #[v0_0,v0_1] :: box g3 158 #[I s.kind,I s.a,I s.b,v1_3,I s.given.bound] :: box j 73 #[S0,I 0] :: hh):=Z
 obtain ⟨m0,ti,tl⟩:=(b1 12 87 U U)
 refine bg (vs:=#[m0,I a3.1.bound]) (cs2:=#[m0,I a3.1.bound]) 4 U sizeOf73 ((et 7 U).trans U) tl U (aj (aH (ai ti)) (aj U aK)) Z U (by show 0+2≤2; decide) U (fun HJ Z=>?_)
 have Z:=Z.aU [4,4,4,4] U
 have Z:ab e3 HJ (oF 73 (ba 122) v0_0 r_.list :: oF 4 RP.bool v0_1 r_.gone :: box g_0 131 #[v0_0,v0_1] :: box g3 158 #[I s.kind,I s.a,I s.b,v1_3,I s.given.bound] :: box j 73 #[(dm (f 87) 0),I a3.1.bound] :: hh):=by rw [tl]; exact Z
 exact ax ⟨U,Bo false,_,U,Le.refl _,(fun _ h=>nomatch h),Z⟩
 exact aQ
 have Z:ab e3 w_ (oF 73 (ba 122) v0_0 r_.list :: oF 4 RP.bool v0_1 r_.gone :: box g_0 131 #[v0_0,v0_1] :: box g3 158 #[I s.kind,I s.a,I s.b,v1_3,I s.given.bound] :: box j 73 #[(dm (f 87) 0),I a3.1.bound] :: R):=Z
 obtain ⟨m1,tn,GS⟩:=(q3 12 87 U U)
 have hren:ab e3 w_ (oF 73 (ba 122) v0_0 r_.list :: oF 4 RP.bool v0_1 r_.gone :: box g_0 131 #[v0_0,v0_1] :: box g3 158 #[I s.kind,I s.a,I s.b,v1_3,I s.given.bound] :: box j 73 #[(dm (f 87) 0),I a3.1.bound] :: R):=Z
 rw [GS] at hren
 have Z:ab e3 w_ (oF 73 (ba 122) v0_0 r_.list :: oF 4 RP.bool v0_1 r_.gone :: box g_0 131 #[v0_0,v0_1] :: box g3 158 #[I s.kind,I s.a,I s.b,v1_3,I s.given.bound] :: box j 73 #[m1,I a3.1.bound] :: R):=hren
 refine aF (q3 13 88 U U) U (nn ?_)
 obtain ⟨rfl,rfl,rfl⟩:=zw b0
 have Z:=Z.aU [4,3,3,3] U
 have Z:=ab.drop 4 Z U
 exact rj hV ⟨e3,m1,g2,((et 0 U).trans a0),((et 7 U).trans U),U,tn,Z⟩
 have b0:=(ay hW).symm.trans b0
 refine sq (bD U U U (aB U (nn ?_)))
 obtain ⟨⟨F5,h1,h2⟩,b2,b0⟩:=bind_some b0
 obtain ⟨HK,h3⟩:=ca fun f w_=>∃ hA,∃ c7,Le g9 hA∧f 0=Pt g_0∧f 7=Pt j∧f 8=Bo F5∧(rS 122 au).rel hA [c7] h1∧ab hA w_ (oF 73 (ba 122) v0_0 r_.list :: oF 4 RP.bool v0_1 r_.gone :: box g_0 131 #[v0_0,v0_1] :: box j 73 #[c7,I h2] :: R)
 refine av HK ?_ ?_
 refine al (b:=(s.kind == 3)) U (fun h4=>?_) (fun h4=>?_)
 have b2:=(az h4).symm.trans b2
 obtain ⟨m2,h5,b2⟩:=bind_some b2
 obtain ⟨a4,GU,b2⟩:=bind_some b2
 obtain ⟨HL,Hk,tr,_,_⟩:=ab.row 1 Z U h5
 have Z:=Z.aU [4,4,4,4] U
 refine bT 15 [aZ (Pt g_0),aZ (Pt g_0),aZ (Pt g_0),aZ (v0_0),aZ (Pq g3 1),aZ (I s.a),aZ (.pointer (some ⟨HL,Int.toNat s.a * 2,none⟩)),tf (eJ (rS 122 au) m2.terms) fun an=>aZ (.agg #[an,I m2.bound]),aZ (Pq g3 2),aZ (I s.b),sm (tf (eJ (rS 122 au) a4.1.terms) fun an=>aZ (.agg #[an,I a4.1.bound])) (aZ (Bo a4.2)),sm (tf (eJ (rS 122 au) a4.1.terms) fun an=>aZ (.agg #[an,I a4.1.bound])) (aZ (Bo a4.2)),tf (eJ (rS 122 au) a4.1.terms) fun an=>aZ (.agg #[an,I a4.1.bound]),aZ (Bo a4.2),gE] [oF 73 (ba 122) v0_0 r_.list,oF 4 RP.bool v0_1 r_.gone,box g_0 131 #[v0_0,v0_1],box g3 158 #[I s.kind,I s.a,I s.b,v1_3,I s.given.bound]] [.base (box j 73 #[S0,I 0]) (some 14),.madeN 14 [103] (fun vs_=>box j 73 #[(dm (vs_.getD 0 undef) 0),I a4.1.bound]) none] (R) [([],[]),([],[]),([],[]),([],[]),([],[]),([],[]),([],[]),([],[]),([],[]),([],[]),([],[]),([],[]),([],[]),([],[]),([0],[1])] (S:=[(none,[],some 14),(some 14,[103],none)]) aP (by kernel_rfl) U (by kernel_rfl) (ad (ah _) (ad (ah _) (ad (ah _) (ad (ah _) (ad (ah _) (ad (ah _) (ad (ah _) (ad (dk (cA _ _) fun _=>ah _) (ad (ah _) (ad (ah _) (ad (fZ (dk (cA _ _) fun _=>ah _) (ah _)) (ad (fZ (dk (cA _ _) fun _=>ah _) (ah _)) (ad (dk (cA _ _) fun _=>ah _) (ad (ah _) (ad (bO) bV))))))))))))))) Z ?_ (fun f w_ e4 eu g4 ts Z=>?_)
 refine aa (fun f w_ _ _ s _ _ Z=>mF ((s 0 U).trans a0) U (nO U U Z)) (aa (fun f w_ _ _ _ _ p Z=>hH U (p 0 92 U U) (nO U U Z)) (aa (fun f w_ _ _ _ _ p Z=>fA 0 jx (p 1 93 U U) U (nO U U Z)) (aa (fun f w_ _ _ _ _ p Z=>bw 2 Z isAgg28 (p 2 94 U U) U U (nO U U Z)) (aa (fun f w_ _ _ s _ _ Z=>fA 1 kW ((s 3 U).trans fa) U (nO U U Z)) (aa (fun f w_ _ _ _ _ p Z=>bw 3 Z isAgg3 (p 4 96 U U) U U (nO U U Z)) (aa (fun f w_ _ _ _ _ p Z=>bJ (R:=(OR.bu (ba 122))) (tb:=0) 0 U underlying28 sizeOf73 (p 3 95 U U) tr (by first | rfl | simp) (p 5 97 U U) h5 (nO U U Z)) (aa ?_ ?_)))))))
 intro f w_ e4 hi eu g4 b3 Z
 obtain ⟨JC,GV,F6⟩:=ab.fE 0 Z U tr h5
 obtain ⟨F7,rfl,tB⟩:=dR.1 GV
 refine a7 (cs:=[F7,I m2.bound]) U isAgg73 sizeOf73 (b3 6 98 U U) (At.sub F6 0 2) U (ax ⟨U,_,_,U,Le.refl _,fun _ _=>⟨_,tB,U⟩,Z⟩)
 refine aa (fun f w_ _ _ s _ _ Z=>fA 2 kL ((s 3 U).trans fa) U (nO U U Z)) (aa (fun f w_ _ _ _ _ p Z=>bw 3 Z isAgg3 (p 8 100 U U) U U (nO U U Z)) (aa ?_ ?_))
 intro f w_ e4 hi eu g4 b3 Z
 obtain ⟨IQ,tC,GW⟩:=(b3 7 99 U U)
 refine ar U call197 (cu GW (b3 9 101 U U)) (pX (c:=m2) (k:=s.b) Z tC GU) ?_
 rintro _ JU ⟨JV,HM,IS,rfl,tS,Z⟩
 exact ax ⟨U,_,_,U,HM,fun _ _=>⟨_,_,U,⟨_,tS,U⟩,U⟩,Z⟩
 refine aa ?_ ?_
 intro f w_ e4 hi eu g4 b3 Z
 obtain ⟨IT,IU,GX,tT,u0⟩:=(b3 10 102 U U)
 obtain ⟨IV,u3,rfl⟩:=tT
 obtain rfl:=u0
 refine mF GX U (ax ⟨U,_,_,U,Le.refl _,fun _ _=>⟨_,_,U,⟨_,u3,U⟩,U⟩,Z⟩)
 refine aa ?_ ?_
 intro f w_ e4 hi eu g4 b3 Z
 obtain ⟨IW,IX,GY,u4,u5⟩:=(b3 11 91 U U)
 obtain ⟨F8,u6,rfl⟩:=u4
 obtain rfl:=u5
 refine dF (v:=.agg #[F8,I a4.1.bound]) U GY U (ax ⟨U,_,_,U,Le.refl _,fun _ _=>⟨_,u6,U⟩,Z⟩)
 refine aa ?_ ?_
 intro f w_ e4 hi eu g4 b3 Z
 obtain ⟨IY,IZ,GZ,v3,v8⟩:=(b3 11 91 U U)
 obtain ⟨I0,HN,rfl⟩:=v3
 obtain rfl:=v8
 refine dF (v:=Bo a4.2) U GZ U (ax ⟨U,_,_,U,Le.refl _,fun _ _=>rfl,Z⟩)
 refine aa ?_ ?_
 intro f w_ e4 hi eu g4 b3 Z
 have Z:ab e4 w_ (oF 73 (ba 122) v0_0 r_.list :: oF 4 RP.bool v0_1 r_.gone :: box g_0 131 #[v0_0,v0_1] :: box g3 158 #[I s.kind,I s.a,I s.b,v1_3,I s.given.bound] :: box j 73 #[S0,I 0] :: hi):=Z
 obtain ⟨nx,v9,w0⟩:=(b3 12 103 U U)
 refine bg (vs:=#[nx,I a4.1.bound]) (cs2:=#[nx,I a4.1.bound]) 4 U sizeOf73 ((eu 7 U).trans U) w0 U (aj (aH (ai v9)) (aj U aK)) Z U (by show 0+2≤2; decide) U (fun HO Z=>?_)
 have Z:=Z.aU [4,4,4,4] U
 have Z:ab e4 HO (oF 73 (ba 122) v0_0 r_.list :: oF 4 RP.bool v0_1 r_.gone :: box g_0 131 #[v0_0,v0_1] :: box g3 158 #[I s.kind,I s.a,I s.b,v1_3,I s.given.bound] :: box j 73 #[(dm (f 103) 0),I a4.1.bound] :: hi):=by rw [w0]; exact Z
 exact ax ⟨U,Bo false,_,U,Le.refl _,(fun _ h=>nomatch h),Z⟩
 exact aQ
 have Z:ab e4 w_ (oF 73 (ba 122) v0_0 r_.list :: oF 4 RP.bool v0_1 r_.gone :: box g_0 131 #[v0_0,v0_1] :: box g3 158 #[I s.kind,I s.a,I s.b,v1_3,I s.given.bound] :: box j 73 #[(dm (f 103) 0),I a4.1.bound] :: R):=Z
 obtain ⟨n0,w1,G0⟩:=(ts 12 103 U U)
 have hren:ab e4 w_ (oF 73 (ba 122) v0_0 r_.list :: oF 4 RP.bool v0_1 r_.gone :: box g_0 131 #[v0_0,v0_1] :: box g3 158 #[I s.kind,I s.a,I s.b,v1_3,I s.given.bound] :: box j 73 #[(dm (f 103) 0),I a4.1.bound] :: R):=Z
 rw [G0] at hren
 have Z:ab e4 w_ (oF 73 (ba 122) v0_0 r_.list :: oF 4 RP.bool v0_1 r_.gone :: box g_0 131 #[v0_0,v0_1] :: box g3 158 #[I s.kind,I s.a,I s.b,v1_3,I s.given.bound] :: box j 73 #[n0,I a4.1.bound] :: R):=hren
 refine aF (ts 13 104 U U) U (nn ?_)
 obtain ⟨rfl,rfl,rfl⟩:=zw b2
 have Z:=Z.aU [4,3,3,3] U
 have Z:=ab.drop 4 Z U
 exact rj h3 ⟨e4,n0,g4,((eu 0 U).trans a0),((eu 7 U).trans U),U,w1,Z⟩
 have b2:=(ay h4).symm.trans b2
 refine sq (bD U U U (aB U (nn ?_)))
 obtain ⟨⟨Gi,h6,h7⟩,b4,b2⟩:=bind_some b2
 obtain ⟨HP,h8⟩:=ca fun f w_=>∃ hB,∃ c8,Le g9 hB∧f 0=Pt g_0∧f 7=Pt j∧f 8=Bo Gi∧(rS 122 au).rel hB [c8] h6∧ab hB w_ (oF 73 (ba 122) v0_0 r_.list :: oF 4 RP.bool v0_1 r_.gone :: box g_0 131 #[v0_0,v0_1] :: box j 73 #[c8,I h7] :: R)
 refine av HP ?_ ?_
 refine al (b:=(s.kind == 4)) U (fun h9=>?_) (fun h9=>?_)
 have b4:=(az h9).symm.trans b4
 obtain ⟨n1,ih,b4⟩:=bind_some b4
 obtain ⟨af,G1,b4⟩:=bind_some b4
 obtain ⟨HQ,Hl,w2,_,_⟩:=ab.row 1 Z U ih
 have Z:=Z.aU [4,4,4,4] U
 refine bT 13 [aZ (Pt g_0),aZ (Pt g_0),aZ (Pt g_0),aZ (v0_0),aZ (Pq g3 1),aZ (I s.a),aZ (.pointer (some ⟨HQ,Int.toNat s.a * 2,none⟩)),tf (eJ (rS 122 au) n1.terms) fun an=>aZ (.agg #[an,I n1.bound]),sm (xW fun an=>aZ (.agg #[an,I af.1.bound])) (aZ (Bo af.2)),sm (xW fun an=>aZ (.agg #[an,I af.1.bound])) (aZ (Bo af.2)),xW fun an=>aZ (.agg #[an,I af.1.bound]),aZ (Bo af.2),gE] [oF 73 (ba 122) v0_0 r_.list,oF 4 RP.bool v0_1 r_.gone,box g_0 131 #[v0_0,v0_1],box g3 158 #[I s.kind,I s.a,I s.b,v1_3,I s.given.bound]] [.base (box j 73 #[S0,I 0]) (some 12),.made 8 116 (fun v_=>own (OR.bq 122 (OR.bu au)) [(dm (pE v_ 0) 0)] af.1.terms) (some 9),.made 9 107 (fun v_=>own (OR.bq 122 (OR.bu au)) [(dm (pE v_ 0) 0)] af.1.terms) (some 10),.made 10 117 (fun v_=>oF 122 au (dm v_ 0) af.1.terms) none,.madeN 12 [117] (fun vs_=>box j 73 #[(dm (vs_.getD 0 undef) 0),I af.1.bound]) none] (R) [([],[]),([],[]),([],[]),([],[]),([],[]),([],[]),([],[]),([],[]),([],[1]),([1],[2]),([2],[3]),([],[]),([0,3],[3,4])] (S:=[(none,[],some 12),(some 8,[116],some 9),(some 9,[107],some 10),(some 10,[117],none),(some 12,[117],none)]) aP (by kernel_rfl) U (by kernel_rfl) (ad (ah _) (ad (ah _) (ad (ah _) (ad (ah _) (ad (ah _) (ad (ah _) (ad (ah _) (ad (dk (cA _ _) fun _=>ah _) (ad (fZ (fh fun _=>ah _) (ah _)) (ad (fZ (fh fun _=>ah _) (ah _)) (ad (fh fun _=>ah _) (ad (ah _) (ad (bO) bV))))))))))))) Z ?_ (fun f w_ bd e0 g5 G2 Z=>?_)
 refine aa (fun f w_ _ _ s _ _ Z=>mF ((s 0 U).trans a0) U (nO U U Z)) (aa (fun f w_ _ _ _ _ p Z=>hH U (p 0 108 U U) (nO U U Z)) (aa (fun f w_ _ _ _ _ p Z=>fA 0 jx (p 1 109 U U) U (nO U U Z)) (aa (fun f w_ _ _ _ _ p Z=>bw 2 Z isAgg28 (p 2 110 U U) U U (nO U U Z)) (aa (fun f w_ _ _ s _ _ Z=>fA 1 kW ((s 3 U).trans fa) U (nO U U Z)) (aa (fun f w_ _ _ _ _ p Z=>bw 3 Z isAgg3 (p 4 112 U U) U U (nO U U Z)) (aa (fun f w_ _ _ _ _ p Z=>bJ (R:=(OR.bu (ba 122))) (tb:=0) 0 U underlying28 sizeOf73 (p 3 111 U U) w2 (by first | rfl | simp) (p 5 113 U U) ih (nO U U Z)) (aa ?_ ?_)))))))
 intro f w_ bd c1 e0 g5 c2 Z
 obtain ⟨JD,G3,Gj⟩:=ab.fE 0 Z U w2 ih
 obtain ⟨Gk,rfl,w3⟩:=dR.1 G3
 refine a7 (cs:=[Gk,I n1.bound]) U isAgg73 sizeOf73 (c2 6 114 U U) (At.sub Gj 0 2) U (ax ⟨U,_,_,U,Le.refl _,fun _ _=>⟨_,w3,U⟩,Z⟩)
 refine aa ?_ ?_
 intro f w_ bd c1 e0 g5 c2 Z
 obtain ⟨I1,w5,G4⟩:=(c2 7 115 U U)
 obtain ⟨JE,HR,HS,JW,HT⟩:=Z.borrow
 refine ar U call198 (b9 G4) (oX (c:=n1) HS (RP.mono _ w5 HR) G1) ?_
 rintro _ JX ⟨I2,rfl,Z⟩
 have Z:=HT Z (co bI c0)
 have Z:=Z.aU [4,4,4,4] U
 exact ax ⟨U,_,_,U,Le.refl _,fun _ _=>⟨_,_,U,⟨_,U⟩,U⟩,Z⟩
 refine aa ?_ ?_
 intro f w_ bd c1 e0 g5 c2 Z
 have Z:ab bd w_ (oF 73 (ba 122) v0_0 r_.list :: oF 4 RP.bool v0_1 r_.gone :: box g_0 131 #[v0_0,v0_1] :: box g3 158 #[I s.kind,I s.a,I s.b,v1_3,I s.given.bound] :: own (OR.bq 122 (OR.bu au)) [(dm (pE (f 116) 0) 0)] af.1.terms :: c1):=Z
 obtain ⟨I3,I4,w6,w7,w8⟩:=(c2 8 116 U U)
 obtain ⟨Gl,rfl⟩:=w7
 obtain rfl:=w8
 have hren:ab bd w_ (oF 73 (ba 122) v0_0 r_.list :: oF 4 RP.bool v0_1 r_.gone :: box g_0 131 #[v0_0,v0_1] :: box g3 158 #[I s.kind,I s.a,I s.b,v1_3,I s.given.bound] :: own (OR.bq 122 (OR.bu au)) [(dm (pE (f 116) 0) 0)] af.1.terms :: c1):=Z
 rw [w6] at hren
 have Z:ab bd w_ (oF 73 (ba 122) v0_0 r_.list :: oF 4 RP.bool v0_1 r_.gone :: box g_0 131 #[v0_0,v0_1] :: box g3 158 #[I s.kind,I s.a,I s.b,v1_3,I s.given.bound] :: oF 122 au Gl af.1.terms :: c1):=hren
 refine mF w6 U (ax ⟨U,_,_,U,Le.refl _,fun _ _=>⟨_,_,U,⟨_,U⟩,U⟩,Z⟩)
 refine aa ?_ ?_
 intro f w_ bd c1 e0 g5 c2 Z
 have Z:ab bd w_ (oF 73 (ba 122) v0_0 r_.list :: oF 4 RP.bool v0_1 r_.gone :: box g_0 131 #[v0_0,v0_1] :: box g3 158 #[I s.kind,I s.a,I s.b,v1_3,I s.given.bound] :: own (OR.bq 122 (OR.bu au)) [(dm (pE (f 107) 0) 0)] af.1.terms :: c1):=Z
 obtain ⟨I5,I6,w9,x0,x1⟩:=(c2 9 107 U U)
 obtain ⟨n2,rfl⟩:=x0
 obtain rfl:=x1
 have hren:ab bd w_ (oF 73 (ba 122) v0_0 r_.list :: oF 4 RP.bool v0_1 r_.gone :: box g_0 131 #[v0_0,v0_1] :: box g3 158 #[I s.kind,I s.a,I s.b,v1_3,I s.given.bound] :: own (OR.bq 122 (OR.bu au)) [(dm (pE (f 107) 0) 0)] af.1.terms :: c1):=Z
 rw [w9] at hren
 have Z:ab bd w_ (oF 73 (ba 122) v0_0 r_.list :: oF 4 RP.bool v0_1 r_.gone :: box g_0 131 #[v0_0,v0_1] :: box g3 158 #[I s.kind,I s.a,I s.b,v1_3,I s.given.bound] :: oF 122 au n2 af.1.terms :: c1):=hren
 refine dF (v:=.agg #[n2,I af.1.bound]) U w9 U (ax ⟨U,_,_,U,Le.refl _,fun _ _=>⟨_,U⟩,Z⟩)
 refine aa ?_ ?_
 intro f w_ bd c1 e0 g5 c2 Z
 obtain ⟨I7,I8,G5,x2,x3⟩:=(c2 9 107 U U)
 obtain ⟨I9,rfl⟩:=x2
 obtain rfl:=x3
 refine dF (v:=Bo af.2) U G5 U (ax ⟨U,_,_,U,Le.refl _,fun _ _=>rfl,Z⟩)
 refine aa ?_ ?_
 intro f w_ bd c1 e0 g5 c2 Z
 have Z:ab bd w_ (oF 73 (ba 122) v0_0 r_.list :: oF 4 RP.bool v0_1 r_.gone :: box g_0 131 #[v0_0,v0_1] :: box g3 158 #[I s.kind,I s.a,I s.b,v1_3,I s.given.bound] :: box j 73 #[S0,I 0] :: own (OR.bq 122 (OR.bu au)) [(dm (f 117) 0)] af.1.terms :: c1):=Z
 obtain ⟨hn,jn⟩:=(c2 10 117 U U)
 have hren:ab bd w_ (oF 73 (ba 122) v0_0 r_.list :: oF 4 RP.bool v0_1 r_.gone :: box g_0 131 #[v0_0,v0_1] :: box g3 158 #[I s.kind,I s.a,I s.b,v1_3,I s.given.bound] :: box j 73 #[S0,I 0] :: own (OR.bq 122 (OR.bu au)) [(dm (f 117) 0)] af.1.terms :: c1):=Z
 rw [jn] at hren
 have Z:ab bd w_ (oF 73 (ba 122) v0_0 r_.list :: oF 4 RP.bool v0_1 r_.gone :: box g_0 131 #[v0_0,v0_1] :: box g3 158 #[I s.kind,I s.a,I s.b,v1_3,I s.given.bound] :: box j 73 #[S0,I 0] :: oF 122 au hn af.1.terms :: c1):=hren
 refine bg (vs:=#[hn,I af.1.bound]) (cs2:=#[hn,I af.1.bound]) 4 U sizeOf73 ((e0 7 U).trans U) jn U (aj (aH (ab.len 5 Z U)) (aj U aK)) Z U (by show 0+2≤2; decide) U (fun HU Z=>?_)
 have Z:=Z.aU [5,5,5,5,5] U
 have Z:ab bd HU (oF 73 (ba 122) v0_0 r_.list :: oF 4 RP.bool v0_1 r_.gone :: box g_0 131 #[v0_0,v0_1] :: box g3 158 #[I s.kind,I s.a,I s.b,v1_3,I s.given.bound] :: own (OR.bq 122 (OR.bu au)) [(dm (f 117) 0)] af.1.terms :: box j 73 #[(dm (f 117) 0),I af.1.bound] :: c1):=by rw [jn]; exact Z
 exact ax ⟨U,Bo false,_,U,Le.refl _,(fun _ h=>nomatch h),Z⟩
 exact aQ
 have Z:ab bd w_ (oF 73 (ba 122) v0_0 r_.list :: oF 4 RP.bool v0_1 r_.gone :: box g_0 131 #[v0_0,v0_1] :: box g3 158 #[I s.kind,I s.a,I s.b,v1_3,I s.given.bound] :: own (OR.bq 122 (OR.bu au)) [(dm (f 117) 0)] af.1.terms :: box j 73 #[(dm (f 117) 0),I af.1.bound] :: R):=Z
 refine aF (G2 11 118 U U) U (nn ?_)
 obtain ⟨rfl,rfl,rfl⟩:=zw b4
 have Z:=Z.get 4 U
 obtain ⟨Gx,HV,Z,j1⟩:=ab.freeze Z
 have j1:(rS 122 au).rel Gx [(dm (f 117) 0)] af.1.terms:=j1
 have Z:=Z.aU [4,3,3,3] U
 have Z:=ab.drop 4 Z U
 exact rj h8 ⟨Gx,(dm (f 117) 0),(Le.trans g5 HV),((e0 0 U).trans a0),((e0 7 U).trans U),U,j1,Z⟩
 have b4:=(ay h9).symm.trans b4
 refine sq (bD U U U (aB U (nn ?_)))
 obtain ⟨⟨Gm,j2,j3⟩,b5,b4⟩:=bind_some b4
 obtain ⟨HW,j4⟩:=ca fun f w_=>∃ hC,∃ dd,Le g9 hC∧f 0=Pt g_0∧f 7=Pt j∧f 8=Bo Gm∧(rS 122 au).rel hC [dd] j2∧ab hC w_ (oF 73 (ba 122) v0_0 r_.list :: oF 4 RP.bool v0_1 r_.gone :: box g_0 131 #[v0_0,v0_1] :: box j 73 #[dd,I j3] :: R)
 refine av HW ?_ ?_
 refine al (b:=(s.kind == 5)) U (fun j5=>?_) (fun j5=>?_)
 have b5:=(az j5).symm.trans b5
 obtain ⟨n3,j6,b5⟩:=bind_some b5
 obtain ⟨ag,G6,b5⟩:=bind_some b5
 obtain ⟨HX,Hm,x4,_,_⟩:=ab.row 1 Z U j6
 have Z:=Z.aU [4,4,4,4] U
 refine bT 15 [aZ (Pt g_0),aZ (Pt g_0),aZ (Pt g_0),aZ (v0_0),aZ (Pq g3 1),aZ (I s.a),aZ (.pointer (some ⟨HX,Int.toNat s.a * 2,none⟩)),tf (eJ (rS 122 au) n3.terms) fun an=>aZ (.agg #[an,I n3.bound]),aZ (Pq g3 2),aZ (I s.b),sm (xW fun an=>aZ (.agg #[an,I ag.1.bound])) (aZ (Bo ag.2)),sm (xW fun an=>aZ (.agg #[an,I ag.1.bound])) (aZ (Bo ag.2)),xW fun an=>aZ (.agg #[an,I ag.1.bound]),aZ (Bo ag.2),gE] [oF 73 (ba 122) v0_0 r_.list,oF 4 RP.bool v0_1 r_.gone,box g_0 131 #[v0_0,v0_1],box g3 158 #[I s.kind,I s.a,I s.b,v1_3,I s.given.bound]] [.base (box j 73 #[S0,I 0]) (some 14),.made 10 132 (fun v_=>own (OR.bq 122 (OR.bu au)) [(dm (pE v_ 0) 0)] ag.1.terms) (some 11),.made 11 121 (fun v_=>own (OR.bq 122 (OR.bu au)) [(dm (pE v_ 0) 0)] ag.1.terms) (some 12),.made 12 133 (fun v_=>oF 122 au (dm v_ 0) ag.1.terms) none,.madeN 14 [133] (fun vs_=>box j 73 #[(dm (vs_.getD 0 undef) 0),I ag.1.bound]) none] (R) [([],[]),([],[]),([],[]),([],[]),([],[]),([],[]),([],[]),([],[]),([],[]),([],[]),([],[1]),([1],[2]),([2],[3]),([],[]),([0,3],[3,4])] (S:=[(none,[],some 14),(some 10,[132],some 11),(some 11,[121],some 12),(some 12,[133],none),(some 14,[133],none)]) aP (by kernel_rfl) U (by kernel_rfl) (ad (ah _) (ad (ah _) (ad (ah _) (ad (ah _) (ad (ah _) (ad (ah _) (ad (ah _) (ad (dk (cA _ _) fun _=>ah _) (ad (ah _) (ad (ah _) (ad (fZ (fh fun _=>ah _) (ah _)) (ad (fZ (fh fun _=>ah _) (ah _)) (ad (fh fun _=>ah _) (ad (ah _) (ad (bO) bV))))))))))))))) Z ?_ (fun f w_ bs e1 g6 G7 Z=>?_)
 refine aa (fun f w_ _ _ s _ _ Z=>mF ((s 0 U).trans a0) U (nO U U Z)) (aa (fun f w_ _ _ _ _ p Z=>hH U (p 0 122 U U) (nO U U Z)) (aa (fun f w_ _ _ _ _ p Z=>fA 0 jx (p 1 123 U U) U (nO U U Z)) (aa (fun f w_ _ _ _ _ p Z=>bw 2 Z isAgg28 (p 2 124 U U) U U (nO U U Z)) (aa (fun f w_ _ _ s _ _ Z=>fA 1 kW ((s 3 U).trans fa) U (nO U U Z)) (aa (fun f w_ _ _ _ _ p Z=>bw 3 Z isAgg3 (p 4 126 U U) U U (nO U U Z)) (aa (fun f w_ _ _ _ _ p Z=>bJ (R:=(OR.bu (ba 122))) (tb:=0) 0 U underlying28 sizeOf73 (p 3 125 U U) x4 (by first | rfl | simp) (p 5 127 U U) j6 (nO U U Z)) (aa ?_ ?_)))))))
 intro f w_ bs c3 e1 g6 b8 Z
 obtain ⟨JF,G8,Gn⟩:=ab.fE 0 Z U x4 j6
 obtain ⟨Gp,rfl,x5⟩:=dR.1 G8
 refine a7 (cs:=[Gp,I n3.bound]) U isAgg73 sizeOf73 (b8 6 128 U U) (At.sub Gn 0 2) U (ax ⟨U,_,_,U,Le.refl _,fun _ _=>⟨_,x5,U⟩,Z⟩)
 refine aa (fun f w_ _ _ s _ _ Z=>fA 2 kL ((s 3 U).trans fa) U (nO U U Z)) (aa (fun f w_ _ _ _ _ p Z=>bw 3 Z isAgg3 (p 8 130 U U) U U (nO U U Z)) (aa ?_ ?_))
 intro f w_ bs c3 e1 g6 b8 Z
 obtain ⟨Ja,x6,G9⟩:=(b8 7 129 U U)
 obtain ⟨JG,HY,HZ,JY,H0⟩:=Z.borrow
 refine ar U call199 (cu G9 (b8 9 131 U U)) (p7 (c:=n3) (variable_:=s.b) HZ (RP.mono _ x6 HY) G6) ?_
 rintro _ JZ ⟨Jb,rfl,Z⟩
 have Z:=H0 Z (co bI c0)
 have Z:=Z.aU [4,4,4,4] U
 exact ax ⟨U,_,_,U,Le.refl _,fun _ _=>⟨_,_,U,⟨_,U⟩,U⟩,Z⟩
 refine aa ?_ ?_
 intro f w_ bs c3 e1 g6 b8 Z
 have Z:ab bs w_ (oF 73 (ba 122) v0_0 r_.list :: oF 4 RP.bool v0_1 r_.gone :: box g_0 131 #[v0_0,v0_1] :: box g3 158 #[I s.kind,I s.a,I s.b,v1_3,I s.given.bound] :: own (OR.bq 122 (OR.bu au)) [(dm (pE (f 132) 0) 0)] ag.1.terms :: c3):=Z
 obtain ⟨Jc,Jd,x7,x8,x9⟩:=(b8 10 132 U U)
 obtain ⟨Gq,rfl⟩:=x8
 obtain rfl:=x9
 have hren:ab bs w_ (oF 73 (ba 122) v0_0 r_.list :: oF 4 RP.bool v0_1 r_.gone :: box g_0 131 #[v0_0,v0_1] :: box g3 158 #[I s.kind,I s.a,I s.b,v1_3,I s.given.bound] :: own (OR.bq 122 (OR.bu au)) [(dm (pE (f 132) 0) 0)] ag.1.terms :: c3):=Z
 rw [x7] at hren
 have Z:ab bs w_ (oF 73 (ba 122) v0_0 r_.list :: oF 4 RP.bool v0_1 r_.gone :: box g_0 131 #[v0_0,v0_1] :: box g3 158 #[I s.kind,I s.a,I s.b,v1_3,I s.given.bound] :: oF 122 au Gq ag.1.terms :: c3):=hren
 refine mF x7 U (ax ⟨U,_,_,U,Le.refl _,fun _ _=>⟨_,_,U,⟨_,U⟩,U⟩,Z⟩)
 refine aa ?_ ?_
 intro f w_ bs c3 e1 g6 b8 Z
 have Z:ab bs w_ (oF 73 (ba 122) v0_0 r_.list :: oF 4 RP.bool v0_1 r_.gone :: box g_0 131 #[v0_0,v0_1] :: box g3 158 #[I s.kind,I s.a,I s.b,v1_3,I s.given.bound] :: own (OR.bq 122 (OR.bu au)) [(dm (pE (f 121) 0) 0)] ag.1.terms :: c3):=Z
 obtain ⟨Je,Jf,ys,y1,y2⟩:=(b8 11 121 U U)
 obtain ⟨n4,rfl⟩:=y1
 obtain rfl:=y2
 have hren:ab bs w_ (oF 73 (ba 122) v0_0 r_.list :: oF 4 RP.bool v0_1 r_.gone :: box g_0 131 #[v0_0,v0_1] :: box g3 158 #[I s.kind,I s.a,I s.b,v1_3,I s.given.bound] :: own (OR.bq 122 (OR.bu au)) [(dm (pE (f 121) 0) 0)] ag.1.terms :: c3):=Z
 rw [ys] at hren
 have Z:ab bs w_ (oF 73 (ba 122) v0_0 r_.list :: oF 4 RP.bool v0_1 r_.gone :: box g_0 131 #[v0_0,v0_1] :: box g3 158 #[I s.kind,I s.a,I s.b,v1_3,I s.given.bound] :: oF 122 au n4 ag.1.terms :: c3):=hren
 refine dF (v:=.agg #[n4,I ag.1.bound]) U ys U (ax ⟨U,_,_,U,Le.refl _,fun _ _=>⟨_,U⟩,Z⟩)
 refine aa ?_ ?_
 intro f w_ bs c3 e1 g6 b8 Z
 obtain ⟨Jg,Jh,Ha,zc,zs⟩:=(b8 11 121 U U)
 obtain ⟨Ji,rfl⟩:=zc
 obtain rfl:=zs
 refine dF (v:=Bo ag.2) U Ha U (ax ⟨U,_,_,U,Le.refl _,fun _ _=>rfl,Z⟩)
 refine aa ?_ ?_
 intro f w_ bs c3 e1 g6 b8 Z
 have Z:ab bs w_ (oF 73 (ba 122) v0_0 r_.list :: oF 4 RP.bool v0_1 r_.gone :: box g_0 131 #[v0_0,v0_1] :: box g3 158 #[I s.kind,I s.a,I s.b,v1_3,I s.given.bound] :: box j 73 #[S0,I 0] :: own (OR.bq 122 (OR.bu au)) [(dm (f 133) 0)] ag.1.terms :: c3):=Z
 obtain ⟨ho,j7⟩:=(b8 12 133 U U)
 have hren:ab bs w_ (oF 73 (ba 122) v0_0 r_.list :: oF 4 RP.bool v0_1 r_.gone :: box g_0 131 #[v0_0,v0_1] :: box g3 158 #[I s.kind,I s.a,I s.b,v1_3,I s.given.bound] :: box j 73 #[S0,I 0] :: own (OR.bq 122 (OR.bu au)) [(dm (f 133) 0)] ag.1.terms :: c3):=Z
 rw [j7] at hren
 have Z:ab bs w_ (oF 73 (ba 122) v0_0 r_.list :: oF 4 RP.bool v0_1 r_.gone :: box g_0 131 #[v0_0,v0_1] :: box g3 158 #[I s.kind,I s.a,I s.b,v1_3,I s.given.bound] :: box j 73 #[S0,I 0] :: oF 122 au ho ag.1.terms :: c3):=hren
 refine bg (vs:=#[ho,I ag.1.bound]) (cs2:=#[ho,I ag.1.bound]) 4 U sizeOf73 ((e1 7 U).trans U) j7 U (aj (aH (ab.len 5 Z U)) (aj U aK)) Z U (by show 0+2≤2; decide) U (fun H2 Z=>?_)
 have Z:=Z.aU [5,5,5,5,5] U
 have Z:ab bs H2 (oF 73 (ba 122) v0_0 r_.list :: oF 4 RP.bool v0_1 r_.gone :: box g_0 131 #[v0_0,v0_1] :: box g3 158 #[I s.kind,I s.a,I s.b,v1_3,I s.given.bound] :: own (OR.bq 122 (OR.bu au)) [(dm (f 133) 0)] ag.1.terms :: box j 73 #[(dm (f 133) 0),I ag.1.bound] :: c3):=by rw [j7]; exact Z
 exact ax ⟨U,Bo false,_,U,Le.refl _,(fun _ h=>nomatch h),Z⟩
 exact aQ
 have Z:ab bs w_ (oF 73 (ba 122) v0_0 r_.list :: oF 4 RP.bool v0_1 r_.gone :: box g_0 131 #[v0_0,v0_1] :: box g3 158 #[I s.kind,I s.a,I s.b,v1_3,I s.given.bound] :: own (OR.bq 122 (OR.bu au)) [(dm (f 133) 0)] ag.1.terms :: box j 73 #[(dm (f 133) 0),I ag.1.bound] :: R):=Z
 refine aF (G7 13 134 U U) U (nn ?_)
 obtain ⟨rfl,rfl,rfl⟩:=zw b5
 have Z:=Z.get 4 U
 obtain ⟨Gy,H3,Z,j8⟩:=ab.freeze Z
 have j8:(rS 122 au).rel Gy [(dm (f 133) 0)] ag.1.terms:=j8
 have Z:=Z.aU [4,3,3,3] U
 have Z:=ab.drop 4 Z U
 exact rj j4 ⟨Gy,(dm (f 133) 0),(Le.trans g6 H3),((e1 0 U).trans a0),((e1 7 U).trans U),U,j8,Z⟩
 have b5:=(ay j5).symm.trans b5
 refine sq (bD U U U (aB U (nn ?_)))
 obtain ⟨⟨Gr,kk,ks⟩,ej,b5⟩:=bind_some b5
 obtain ⟨H4,ky⟩:=ca fun f w_=>∃ hD,∃ dg,Le g9 hD∧f 0=Pt g_0∧f 7=Pt j∧f 8=Bo Gr∧(rS 122 au).rel hD [dg] kk∧ab hD w_ (oF 73 (ba 122) v0_0 r_.list :: oF 4 RP.bool v0_1 r_.gone :: box g_0 131 #[v0_0,v0_1] :: box j 73 #[dg,I ks] :: R)
 refine av H4 ?_ ?_
 refine al (b:=(s.kind == 6)) U (fun k0=>?_) (fun k0=>?_)
 have ej:=(az k0).symm.trans ej
 obtain ⟨hj,Hb,ej⟩:=bind_some ej
 refine ae (fA 1 kW fa U (bw 4 Z isAgg3 U U U ?_))
 obtain ⟨JH,J0,H5,J1,H6⟩:=Z.borrow
 refine ar U call200 (b9 U) (sP (lit:=s.a) H5 Hb) ?_
 rintro _ J2 ⟨g0,rfl,Z⟩
 have Z:=H6 Z (co bI c0)
 refine mV (.tuple #[.agg #[g0,I hj.1.bound],Bo hj.2]) U (dF (v:=.agg #[g0,I hj.1.bound]) U U U (dF (v:=Bo hj.2) U U U (bg (vs:=#[g0,I hj.1.bound]) (cs2:=#[g0,I hj.1.bound]) 1 U sizeOf73 U U U (aj (aH (ab.len 0 Z U)) (aj U aK)) Z U (by show 0+2≤2; decide) U (fun J3 Z=>aB U (nn ?_)))))
 obtain ⟨rfl,rfl,rfl⟩:=zw ej
 have Z:=Z.get 1 U
 obtain ⟨Gz,H7,Z,lo⟩:=ab.freeze Z
 have lo:(rS 122 au).rel Gz [g0] hj.1.terms:=lo
 have Z:=Z.aU [3,3,3] U
 have Z:=ab.drop 4 Z U
 exact rj ky ⟨Gz,g0,H7,a0,U,U,lo,Z⟩
 have ej:=(ay k0).symm.trans ej
 refine sq (bD U U U (aB U (nn ?_)))
 obtain ⟨⟨Gs,l0,l1⟩,ek,ej⟩:=bind_some ej
 obtain ⟨H8,l2⟩:=ca fun f w_=>∃ hE,∃ dj,Le g9 hE∧f 0=Pt g_0∧f 7=Pt j∧f 8=Bo Gs∧(rS 122 au).rel hE [dj] l0∧ab hE w_ (oF 73 (ba 122) v0_0 r_.list :: oF 4 RP.bool v0_1 r_.gone :: box g_0 131 #[v0_0,v0_1] :: box j 73 #[dj,I l1] :: R)
 refine av H8 ?_ ?_
 refine al (b:=(s.kind == 7)) U (fun l3=>?_) (fun l3=>?_)
 have ek:=(az l3).symm.trans ek
 obtain ⟨hG,zz,ek⟩:=bind_some ek
 obtain ⟨hI,fo,ek⟩:=bind_some ek
 obtain ⟨H9,l4⟩:=ca fun f w_=>∃ hJ,∃ ds,Le g9 hJ∧f 0=Pt g_0∧f 7=Pt j∧f 8=Bo hI∧(rS 122 au).rel hJ [ds] s.given.terms∧ab hJ w_ (oF 73 (ba 122) v0_0 r_.list :: oF 4 RP.bool v0_1 r_.gone :: box g_0 131 #[v0_0,v0_1] :: box j 73 #[ds,I s.given.bound] :: R)
 refine av H9 ?_ ?_
 rcases Bool.eq_false_or_eq_true hG with a2 | a2
 rw [az a2] at fo
 obtain ⟨hK,Hc,fo⟩:=bind_some fo
 obtain ⟨Ia,Hd,fo⟩:=bind_some fo
 have Z:=Z.aU [4,4,4,4] U
 refine cv 13 [Pq g3 3,Value.agg #[v1_3,I s.given.bound],Pq g3 3,Value.agg #[v1_3,I s.given.bound],Bo hG,Bo hG,Pt g_0,none,Pq g3 3,Value.agg #[v1_3,I s.given.bound],Bo Ia,Bo hI,none] [oF 73 (ba 122) v0_0 r_.list,oF 4 RP.bool v0_1 r_.gone,box g_0 131 #[v0_0,v0_1],box g3 158 #[I s.kind,I s.a,I s.b,v1_3,I s.given.bound]] [.base (box j 73 #[S0,I 0]) (some 12),.made 7 152 (fun v_=>oF 73 (ba 122) v_ hK) none,.madeN 12 [] (fun vs_=>box j 73 #[v1_3,I s.given.bound]) none] (R) [([],[]),([],[]),([],[]),([],[]),([],[]),([],[]),([],[]),([],[1]),([],[]),([],[]),([1],[1]),([],[]),([0],[2])] (S:=[(none,[],some 12),(some 7,[152],none),(some 12,[],none)]) aP (by kernel_rfl) U (by kernel_rfl) Z ?_ (fun f w_ ec a5 a1 l5 Z=>?_)
 refine aa (fun f w_ _ _ s _ _ Z=>fA 3 gO ((s 3 U).trans fa) U (nO U U Z)) (aa (fun f w_ _ _ _ _ p Z=>a7 (cs:=[v1_3,I s.given.bound]) U isAgg73 sizeOf73 (p 0 145 U U) (At.bK (de.at (ab.aM 3 Z U)) 3 2) U (nO U U Z)) (aa (fun f w_ _ _ s _ _ Z=>fA 3 gO ((s 3 U).trans fa) U (nO U U Z)) (aa (fun f w_ _ _ _ _ p Z=>a7 (cs:=[v1_3,I s.given.bound]) U isAgg73 sizeOf73 (p 2 147 U U) (At.bK (de.at (ab.aM 3 Z U)) 3 2) U (nO U U Z)) (aa ?_ ?_))))
 intro f w_ ec hg a5 a1 a6 Z
 obtain ⟨JI,Ib,Ic,J4,Ie⟩:=Z.borrow
 refine ar U call130 (b9 (a6 3 148 U U)) (bZ (c:=s.given) Ic (RP.mono _ h1_3 (Le.trans (Le.trans hk a1) Ib)) zz) ?_
 rintro _ J5 ⟨rfl,Z⟩
 have Z:=Ie Z c0
 exact ax ⟨U,_,_,U,Le.refl _,fun _ _=>rfl,Z⟩
 refine aa (fun f w_ _ _ _ _ p Z=>mF (p 4 149 U U) U (nO U U Z)) (aa (fun f w_ _ _ s _ p Z=>iV (v:=Pt g_0) (bm U (cB (p 5 150 U U) a2) U) ((s 0 U).trans a0) (nO U U Z)) (aa ?_ ?_))
 intro f w_ ec hg a5 a1 a6 Z
 have Z:=Z.aU [1,1,2] U
 refine ar (bm U (cB (a6 5 150 U U) a2) U) call202 (b9 (a6 6 151 U U)) (sN (r_:=r_) Z Hc) ?_
 rintro Jj J6 ⟨J7,Ig,_,rfl,Z⟩
 have Z:=Z.aU [4,2,4,4] U
 exact ax ⟨U,_,_,U,Ig,fun _ _=>trivial,Z⟩
 refine aa (fun f w_ _ _ s _ p Z=>sA (o':=3) (bm U (cB (p 5 150 U U) a2) U) gO ((s 3 U).trans fa) U (nO U U Z)) (aa (fun f w_ _ _ _ _ p Z=>a7 (cs:=[v1_3,I s.given.bound]) (bm U (cB (p 5 150 U U) a2) U) isAgg73 sizeOf73 (p 8 153 U U) (At.bK (de.at (ab.aM 3 Z U)) 3 2) U (nO U U Z)) (aa ?_ ?_))
 intro f w_ ec hg a5 a1 a6 Z
 have Z:ab ec w_ (oF 73 (ba 122) v0_0 r_.list :: oF 4 RP.bool v0_1 r_.gone :: box g_0 131 #[v0_0,v0_1] :: box g3 158 #[I s.kind,I s.a,I s.b,v1_3,I s.given.bound] :: oF 73 (ba 122) (f 152) hK :: hg):=Z
 obtain ⟨He,Ih,Ii,Ij,Ik⟩:=Z.borrow
 have Hf:(rS 73 (ba 122)).rel He [(f 152)] hK:=cg 4 Ij U
 refine ar (bm U (cB (a6 5 150 U U) a2) U) call201 (cu U (a6 9 154 U U)) (Dw (list:=hK) (c:=s.given) Ii Hf (RP.mono _ h1_3 (Le.trans (Le.trans hk a1) Ih)) Hd) ?_
 rintro _ J8 ⟨rfl,Z⟩
 have Z:=Ik Z c0
 exact ax ⟨U,_,_,U,Le.refl _,fun _ _=>rfl,Z⟩
 refine aa (fun f w_ _ _ _ _ p Z=>BU (v:=Bo hI) (p 5 150 U U) a2 U (Eq.trans (p 10 155 U U) (congrArg Value.bool (so fo))) (nO U U Z)) (aa ?_ ?_)
 intro f w_ ec hg a5 a1 a6 Z
 have Z:ab ec w_ (oF 73 (ba 122) v0_0 r_.list :: oF 4 RP.bool v0_1 r_.gone :: box g_0 131 #[v0_0,v0_1] :: box g3 158 #[I s.kind,I s.a,I s.b,v1_3,I s.given.bound] :: box j 73 #[S0,I 0] :: hg):=Z
 refine bg (vs:=#[v1_3,I s.given.bound]) (cs2:=#[v1_3,I s.given.bound]) 4 U sizeOf73 ((a5 7 U).trans U) (a6 1 146 U U) U (aj (aH (ai (RP.mono _ h1_3 (Le.trans hk a1)))) (aj U aK)) Z U (by show 0+2≤2; decide) U (fun J9 Z=>?_)
 have Z:=Z.aU [4,4,4,4] U
 exact ax ⟨U,Bo false,_,U,Le.refl _,(fun _ h=>nomatch h),Z⟩
 exact aQ
 have Z:ab ec w_ (oF 73 (ba 122) v0_0 r_.list :: oF 4 RP.bool v0_1 r_.gone :: box g_0 131 #[v0_0,v0_1] :: box g3 158 #[I s.kind,I s.a,I s.b,v1_3,I s.given.bound] :: oF 73 (ba 122) (f 152) hK :: box j 73 #[v1_3,I s.given.bound] :: R):=Z
 refine aF (l5 11 156 U U) U (nn ?_)
 have Z:=Z.aU [5,3,3,3] U
 have Z:=ab.drop 4 Z U
 have Z:=ab.drop 4 Z U
 exact rj l4 ⟨ec,v1_3,a1,((a5 0 U).trans a0),((a5 7 U).trans U),U,(RP.mono _ h1_3 (Le.trans hk a1)),Z⟩
 rw [ay a2] at fo
 have Z:=Z.aU [4,4,4,4] U
 refine cv 13 [Pq g3 3,Value.agg #[v1_3,I s.given.bound],Pq g3 3,Value.agg #[v1_3,I s.given.bound],Bo hG,Bo hG,undef,undef,undef,undef,undef,Bo hI,none] [oF 73 (ba 122) v0_0 r_.list,oF 4 RP.bool v0_1 r_.gone,box g_0 131 #[v0_0,v0_1],box g3 158 #[I s.kind,I s.a,I s.b,v1_3,I s.given.bound]] [.base (box j 73 #[S0,I 0]) (some 12),.madeN 12 [] (fun vs_=>box j 73 #[v1_3,I s.given.bound]) none] (R) [([],[]),([],[]),([],[]),([],[]),([],[]),([],[]),([],[]),([],[]),([],[]),([],[]),([],[]),([],[]),([0],[1])] (S:=[(none,[],some 12),(some 12,[],none)]) aP (by kernel_rfl) U (by kernel_rfl) Z ?_ (fun f w_ ec a5 a1 l5 Z=>?_)
 refine aa (fun f w_ _ _ s _ _ Z=>fA 3 gO ((s 3 U).trans fa) U (nO U U Z)) (aa (fun f w_ _ _ _ _ p Z=>a7 (cs:=[v1_3,I s.given.bound]) U isAgg73 sizeOf73 (p 0 145 U U) (At.bK (de.at (ab.aM 3 Z U)) 3 2) U (nO U U Z)) (aa (fun f w_ _ _ s _ _ Z=>fA 3 gO ((s 3 U).trans fa) U (nO U U Z)) (aa (fun f w_ _ _ _ _ p Z=>a7 (cs:=[v1_3,I s.given.bound]) U isAgg73 sizeOf73 (p 2 147 U U) (At.bK (de.at (ab.aM 3 Z U)) 3 2) U (nO U U Z)) (aa ?_ ?_))))
 intro f w_ ec hg a5 a1 a6 Z
 obtain ⟨JJ,Il,Im,Ka,Io⟩:=Z.borrow
 refine ar U call130 (b9 (a6 3 148 U U)) (bZ (c:=s.given) Im (RP.mono _ h1_3 (Le.trans (Le.trans hk a1) Il)) zz) ?_
 rintro _ Kb ⟨rfl,Z⟩
 have Z:=Io Z c0
 exact ax ⟨U,_,_,U,Le.refl _,fun _ _=>rfl,Z⟩
 refine aa (fun f w_ _ _ _ _ p Z=>mF (p 4 149 U U) U (nO U U Z)) (oP (fun _ _ p=>gN (p 5 150 U U) a2 U) (fun _=>rfl) (oP (fun _ _ p=>gN (p 5 150 U U) a2 U) (fun _=>rfl) (oP (fun _ _ p=>gN (p 5 150 U U) a2 U) (fun _=>rfl) (oP (fun _ _ p=>gN (p 5 150 U U) a2 U) (fun _=>rfl) (oP (fun _ _ p=>gN (p 5 150 U U) a2 U) (fun _=>rfl) (aa (fun f w_ _ _ _ _ p Z=>BU (v:=Bo hI) (p 5 150 U U) a2 U (congrArg Value.bool (so fo)) (nO U U Z)) (aa ?_ ?_)))))))
 intro f w_ ec hg a5 a1 a6 Z
 have Z:ab ec w_ (oF 73 (ba 122) v0_0 r_.list :: oF 4 RP.bool v0_1 r_.gone :: box g_0 131 #[v0_0,v0_1] :: box g3 158 #[I s.kind,I s.a,I s.b,v1_3,I s.given.bound] :: box j 73 #[S0,I 0] :: hg):=Z
 refine bg (vs:=#[v1_3,I s.given.bound]) (cs2:=#[v1_3,I s.given.bound]) 4 U sizeOf73 ((a5 7 U).trans U) (a6 1 146 U U) U (aj (aH (ai (RP.mono _ h1_3 (Le.trans hk a1)))) (aj U aK)) Z U (by show 0+2≤2; decide) U (fun Kc Z=>?_)
 have Z:=Z.aU [4,4,4,4] U
 exact ax ⟨U,Bo false,_,U,Le.refl _,(fun _ h=>nomatch h),Z⟩
 exact aQ
 have Z:ab ec w_ (oF 73 (ba 122) v0_0 r_.list :: oF 4 RP.bool v0_1 r_.gone :: box g_0 131 #[v0_0,v0_1] :: box g3 158 #[I s.kind,I s.a,I s.b,v1_3,I s.given.bound] :: box j 73 #[v1_3,I s.given.bound] :: R):=Z
 refine aF (l5 11 156 U U) U (nn ?_)
 have Z:=Z.aU [4,3,3,3] U
 have Z:=ab.drop 4 Z U
 exact rj l4 ⟨ec,v1_3,a1,((a5 0 U).trans a0),((a5 7 U).trans U),U,(RP.mono _ h1_3 (Le.trans hk a1)),Z⟩
 intro f w_ hR
 obtain ⟨hJ,ds,Ip,a0,g7,g8,hp,Z⟩:=rk l4 hR
 obtain ⟨rfl,rfl,rfl⟩:=zw ek
 exact rj l2 ⟨hJ,ds,Ip,a0,g7,g8,hp,Z⟩
 have ek:=(ay l3).symm.trans ek
 refine aq ?_
 obtain ⟨rfl,rfl,rfl⟩:=zw ek
 have Z:=Z.aU [3,3,3] U
 have Z:=ab.drop 4 Z U
 exact rj l2 ⟨g9,S0,(Le.refl _),a0,U,U,(fw _ _ _),Z⟩
 intro f w_ hR
 obtain ⟨hE,dj,Iq,a0,g7,g8,hq,Z⟩:=rk l2 hR
 obtain ⟨rfl,rfl,rfl⟩:=zw ej
 exact rj ky ⟨hE,dj,Iq,a0,g7,g8,hq,Z⟩
 intro f w_ hR
 obtain ⟨hD,dg,Ir,a0,g7,g8,hr,Z⟩:=rk ky hR
 obtain ⟨rfl,rfl,rfl⟩:=zw b5
 exact rj j4 ⟨hD,dg,Ir,a0,g7,g8,hr,Z⟩
 intro f w_ hR
 obtain ⟨hC,dd,Is,a0,g7,g8,hs,Z⟩:=rk j4 hR
 obtain ⟨rfl,rfl,rfl⟩:=zw b4
 exact rj h8 ⟨hC,dd,Is,a0,g7,g8,hs,Z⟩
 intro f w_ hR
 obtain ⟨hB,c8,It,a0,g7,g8,ht,Z⟩:=rk h8 hR
 obtain ⟨rfl,rfl,rfl⟩:=zw b2
 exact rj h3 ⟨hB,c8,It,a0,g7,g8,ht,Z⟩
 intro f w_ hR
 obtain ⟨hA,c7,Iu,a0,g7,g8,hv,Z⟩:=rk h3 hR
 obtain ⟨rfl,rfl,rfl⟩:=zw b0
 exact rj hV ⟨hA,c7,Iu,a0,g7,g8,hv,Z⟩
 intro f w_ hR
 obtain ⟨hz,c6,Iv,a0,g7,g8,hx,Z⟩:=rk hV hR
 obtain ⟨rfl,rfl,rfl⟩:=zw c4
 exact rj o4 ⟨hz,c6,Iv,a0,g7,g8,hx,Z⟩
 intro f w_ hR
 obtain ⟨z1,J,JK,a0,g7,g8,hN,Z⟩:=rk o4 hR
 refine ao ?_
 obtain ⟨z0,Hg,hF⟩:=bind_some hF
 obtain ⟨GA,Hh,hF⟩:=bind_some hF
 have Z:=Z.aU [2,2,2,3] U
 refine cv 18 [Pt g_0,Pt g_0,Pt g_0,Pt g_0,Pt g_0,v0_0,Value.agg #[J,I o],none,none,Pt g_0,Pt g_0,Pq g_0 1,v0_1,none,none,Pt g_0,Pt g_0,none] [box j 73 #[J,I o]] [.base (oF 73 (ba 122) v0_0 r_.list) (some 8),.base (oF 4 RP.bool v0_1 r_.gone) (some 14),.base (box g_0 131 #[v0_0,v0_1]) (some 17),.made 7 164 (fun v_=>oF 73 (ba 122) v_ ([({ terms:=cp,bound:=o }:Con)])) (some 8),.made 8 165 (fun v_=>oF 73 (ba 122) v_ z0) none,.made 13 170 (fun v_=>oF 4 RP.bool v_ ([false])) (some 14),.made 14 171 (fun v_=>oF 4 RP.bool v_ GA) none,.madeN 17 [165] (fun vs_=>box g_0 131 #[(vs_.getD 0 undef),v0_1]) none] (R) [([],[]),([],[]),([],[]),([],[]),([],[]),([2],[2]),([],[]),([],[3]),([0,3],[4]),([],[]),([],[]),([],[]),([2],[2]),([],[5]),([1,5],[6]),([],[]),([],[]),([2,4],[4,7])] (S:=[(none,[],some 8),(none,[],some 14),(none,[],some 17),(some 7,[164],some 8),(some 8,[165],none),(some 13,[170],some 14),(some 14,[171],none),(some 17,[165],none)]) aP (by kernel_rfl) U (by kernel_rfl) Z ?_ (fun f w_ ee fs e2 Hi Z=>?_)
 refine aa (fun f w_ _ _ s _ _ Z=>mF ((s 0 U).trans a0) U (nO U U Z)) (aa (fun f w_ _ _ s _ _ Z=>mF ((s 0 U).trans a0) U (nO U U Z)) (aa (fun f w_ _ _ s _ _ Z=>mF ((s 0 U).trans a0) U (nO U U Z)) (aa (fun f w_ _ _ _ _ p Z=>hH U (p 2 159 U U) (nO U U Z)) (aa (fun f w_ _ _ _ _ p Z=>fA 0 jx (p 3 160 U U) U (nO U U Z)) (aa ?_ ?_)))))
 intro f w_ ee gd fs e2 ch Z
 have Z:ab ee w_ (box j 73 #[J,I o] :: box g_0 131 #[v0_0,v0_1] :: gd):=Z
 refine bw 1 Z isAgg28 (ch 4 161 U U) U U (ax ⟨U,_,_,U,Le.refl _,fun _ _=>rfl,Z⟩)
 refine aa (fun f w_ _ _ s _ _ Z=>a7 (cs:=[J,I o]) U isAgg73 sizeOf73 ((s 7 U).trans g7) (At.bK (de.at (ab.aM 0 Z U)) 0 2) U (nO U U Z)) (aa ?_ ?_)
 intro f w_ ee gd fs e2 ch Z
 refine cS U (bG (ch 6 163 U U)) (iO (J) (I o) ) Z (fun Kd Ke Z=>?_)
 have Z:=ab.dr (r:=(ba 122)) (cs:=[J,I o]) (x:=({ terms:=cp,bound:=o }:Con)) Z (dR.2 ⟨_,U,(RP.mono _ hN e2)⟩)
 have Z:=ab.bS (R:=(OR.bu (ba 122))) [([J,I o],({ terms:=cp,bound:=o }:Con))] [({ terms:=cp,bound:=o }:Con)] 1 Z U U U (by decide)
 have Z:=Z.get 1 U
 exact ax ⟨U,_,_,U,Le.refl _,fun _ _=>trivial,Z⟩
 refine aa ?_ ?_
 intro f w_ ee gd fs e2 ch Z
 have Z:ab ee w_ (box j 73 #[J,I o] :: oF 73 (ba 122) v0_0 r_.list :: oF 73 (ba 122) (f 164) ([({ terms:=cp,bound:=o }:Con)]) :: gd):=Z
 have Z:=Z.aU [2,2] U
 refine cj (v:=v0_0) (u:=(f 164)) U nU (ch 5 162 U U) U Z Hg (fun Kf Kg Z=>?_)
 have Z:=Z.get 1 U
 exact ax ⟨U,_,_,U,Le.refl _,fun _ _=>trivial,Z⟩
 refine aa (fun f w_ _ _ s _ _ Z=>mF ((s 0 U).trans a0) U (nO U U Z)) (aa (fun f w_ _ _ _ _ p Z=>hH U (p 9 166 U U) (nO U U Z)) (aa (fun f w_ _ _ _ _ p Z=>fA 1 ox (p 10 167 U U) U (nO U U Z)) (aa ?_ ?_)))
 intro f w_ ee gd fs e2 ch Z
 have Z:ab ee w_ (box j 73 #[J,I o] :: box g_0 131 #[v0_0,v0_1] :: gd):=Z
 refine bw 1 Z isAgg37 (ch 11 168 U U) U U (ax ⟨U,_,_,U,Le.refl _,fun _ _=>rfl,Z⟩)
 refine aa ?_ ?_
 intro f w_ ee gd fs e2 ch Z
 refine cS U (bG U) (wV (Bo false) U) Z (fun Kh Ki Z=>?_)
 have Z:=ab.dr (r:=RP.bool) (cs:=[Bo false]) (x:=false) Z U
 have Z:=ab.bS (R:=(OR.bu RP.bool)) [([Bo false],false)] [false] 1 Z U U U (by decide)
 have Z:=Z.get 1 U
 exact ax ⟨U,_,_,U,Le.refl _,fun _ _=>trivial,Z⟩
 refine aa ?_ ?_
 intro f w_ ee gd fs e2 ch Z
 have Z:ab ee w_ (box j 73 #[J,I o] :: oF 4 RP.bool v0_1 r_.gone :: oF 4 RP.bool (f 170) ([false]) :: gd):=Z
 have Z:=Z.aU [2,2] U
 refine cj (v:=v0_1) (u:=(f 170)) U Cm (ch 12 169 U U) U Z Hh (fun Kj Kk Z=>?_)
 have Z:=Z.get 1 U
 exact ax ⟨U,_,_,U,Le.refl _,fun _ _=>trivial,Z⟩
 refine aa (fun f w_ _ _ _ _ p Z=>hH U (p 0 157 U U) (nO U U Z)) (aa (fun f w_ _ _ _ _ p Z=>fA 0 jx (p 15 172 U U) U (nO U U Z)) (aa ?_ ?_))
 intro f w_ ee gd fs e2 ch Z
 have Z:ab ee w_ (box j 73 #[J,I o] :: box g_0 131 #[v0_0,v0_1] :: oF 73 (ba 122) (f 165) z0 :: gd):=Z
 refine ei (v:=(f 165)) (cs2:=#[(f 165),v0_1]) 1 U sizeOf28 (ch 16 173 U U) U (aH (ab.len 2 Z U)) Z U U U (fun Kl Z=>?_)
 have Z:=Z.aU [2,2] U
 exact ax ⟨U,Bo false,_,U,Le.refl _,(fun _ h=>nomatch h),Z⟩
 exact aQ
 have Z:ab ee w_ (box j 73 #[J,I o] :: oF 73 (ba 122) (f 165) z0 :: oF 4 RP.bool (f 171) GA :: box g_0 131 #[(f 165),v0_1] :: R):=Z
 refine hH U (Hi 1 158 U U) (fA 1 ox U U (ei (v:=(f 171)) (cs2:=#[(f 165),(f 171)]) 3 U sizeOf37 U U (aH (ab.len 2 Z U)) Z U U U (fun Km Z=>ax (sq (mF ((fs 8 U).trans g8) U (aB U (nn (aA (aN (v1:=Bo o3) results160 U ?_)))))))))
 obtain rfl:=so hF
 have Z:=Z.aU [3,3,2] U
 have Z:=ab.drop 3 Z U
 exact ⟨ee,(Le.trans (Le.trans hk JK) e2),(f 165),(f 171),U,Z⟩
end Go.Proofs.YtbjllamkfmejlaaGreat

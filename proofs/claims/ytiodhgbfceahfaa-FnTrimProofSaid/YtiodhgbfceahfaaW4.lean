/- Part of a proof by program: W4. -/
import Derived.Test.YtiodhgbfceahfaaD1
import Derived.Test.YtiodhgbfceahfaaW3
namespace Go.Proofs.Ytiodhgbfceahfaa
open Go Go.E Go.L Go.RowKit
set_option linter.unusedVariables false
set_option linter.unusedSimpArgs false
set_option maxRecDepth 100000
theorem s_l4Refuted_c {fu : Nat} {r_ : Rd} {g_0 : Nat} {v0_0 : Value} {H : FH} {w : World} {R : List Ass} (hst : Star H w (box g_0 126 #[v0_0,I r_.p] :: R)) (h0_0 : (rS 5 RP.u8).rel H [v0_0] r_.b) {r : (List Con) × (List Step) × Int} (hF : s_l4Refuted fu r_ = some r) :
 C Try.prog 86 #[Pt g_0] w fun v w'=>∃ H' : FH,Le H H'∧∃ (u1 : Value) (u2 : Value),v = .tuple #[u1,u2]∧(rS 41 (rCon 117)).rel H' [u1] r.1∧Star H' w' (oF 63 (rStep 117) u2 r.2.1 :: box g_0 126 #[v0_0,I r.2.2] :: R):=by
 unfold s_l4Refuted at hF
 refine C_enter Try.func86 rfl Try.ntmps86 rfl (sq (aV S0 rfl (aV S0 rfl (nq ?_))))
 obtain ⟨x6,hx6,hF⟩:=bind_some hF
 refine W_region (mV (Pt g_0) rfl ?_)
 obtain ⟨H9b,l10,s11,z12,k13⟩:=hst.lend [_]
 refine L_call rfl Try.call69 (ops1 rfl) (s_l3Problem_c (r_:=r_) s11 (RP.mono _ h0_0 l10) hx6) ?_
 rintro r14_0 w14 ⟨_,rfl,hst⟩
 have hst:=k13 hst (co closed_oCon (cb c0))
 refine aV r14_0 rfl (nq ?_)
 obtain ⟨x21,hx21,hF⟩:=bind_some hF
 refine W_region (mV (Pt g_0) rfl ?_)
 have hst:=hst.get 1 rfl
 obtain ⟨H23b,l24,s25,z26,k27⟩:=hst.lend [_]
 refine L_call rfl Try.call71 (ops2 rfl rfl) (s_l17Rd_pick_c (r_:=({ b:=r_.b,p:=x6.2 } : Rd)) (n_:=3) s25 (RP.mono _ h0_0 l24) hx21) ?_
 rintro _ w28 ⟨rfl,hst⟩
 have hst:=k27 hst (cb c0)
 refine L_add rfl rfl rfl (aI rfl (nq ?_))
 obtain ⟨x35,hx35,hF⟩:=bind_some hF
 refine W_region (mV r14_0 rfl (mI rfl (L_bld rfl (parts2 rfl rfl) (bld_117_0_1 (I 1) (I (i64 (1 + x21.1))) rfl rfl) (L_bld rfl (parts2 rfl rfl) (bld_117_0_1 (I 1) (I 5) rfl rfl) (L_bs rfl (parts2 rfl rfl) (bs_39_2_2_2 (I 1) (I (i64 (1 + x21.1))) (I 1) (I 5) ) hst (fun g39 w40 hst=>?_))))))
 have hst:=Star.addF (r:=rTerm) (cs:=[I 1,I 5]) (x:=({ coef:=1,lit:=5 } : Term)) hst (rTerm_iff.2 rfl)
 have hst:=Star.addF (r:=rTerm) (cs:=[I 1,I (i64 (1 + x21.1))]) (x:=({ coef:=1,lit:=i64 (1 + x21.1) } : Term)) hst (rTerm_iff.2 rfl)
 have hst:=Star.mkRow (R:=(OR.frz rTerm)) [([I 1,I (i64 (1 + x21.1))],({ coef:=1,lit:=i64 (1 + x21.1) } : Term)),([I 1,I 5],({ coef:=1,lit:=5 } : Term))] [({ coef:=1,lit:=i64 (1 + x21.1) } : Term),({ coef:=1,lit:=5 } : Term)] 2 hst rfl rfl rfl (by decide)
 refine L_bld rfl (parts2 rfl rfl) (bld_41_0_1 ((Sl g39 2 2)) (I 2) (one_len (Star.len 0 hst rfl)) rfl) (L_bs rfl (parts1 rfl) (bs_27_1_2 ((Sl g39 2 2)) (I 2) ) hst (fun g42 w43 hst=>?_))
 have hst:=hst.get 1 rfl
 have hst:=oCon_close (c:=({ terms:=[({ coef:=1,lit:=i64 (1 + x21.1) } : Term),({ coef:=1,lit:=5 } : Term)],bound:=2 } : Con)) hst
 have hst:=Star.mkRow (R:=(oCon 117)) [([(Sl g39 2 2),I 2],({ terms:=[({ coef:=1,lit:=i64 (1 + x21.1) } : Term),({ coef:=1,lit:=5 } : Term)],bound:=2 } : Con))] [({ terms:=[({ coef:=1,lit:=i64 (1 + x21.1) } : Term),({ coef:=1,lit:=5 } : Term)],bound:=2 } : Con)] 1 hst rfl rfl rfl (by decide)
 have hst:=hst.get 2 rfl
 refine L_appM (v:=r14_0) (u:=(Sl g42 1 1)) rfl et_27 rfl rfl hst hx35 (fun v45 w46 hst=>aV v45 rfl (nq ?_))
 obtain ⟨x54,hx54,hF⟩:=bind_some hF
 refine W_region (mV v45 rfl (mI rfl (L_neg rfl rfl (L_bld rfl (parts2 rfl rfl) (bld_117_0_1 (I 1) (I (i64 (-(i64 (1 + x21.1))))) rfl rfl) (L_bld rfl (parts2 rfl rfl) (bld_117_0_1 (I 1) (I (-5)) rfl rfl) (L_bs rfl (parts2 rfl rfl) (bs_39_2_2_2 (I 1) (I (i64 (-(i64 (1 + x21.1))))) (I 1) (I (-5)) ) hst (fun g58 w59 hst=>?_)))))))
 have hst:=Star.addF (r:=rTerm) (cs:=[I 1,I (-5)]) (x:=({ coef:=1,lit:=(-5) } : Term)) hst (rTerm_iff.2 rfl)
 have hst:=Star.addF (r:=rTerm) (cs:=[I 1,I (i64 (-(i64 (1 + x21.1))))]) (x:=({ coef:=1,lit:=i64 (-(i64 (1 + x21.1))) } : Term)) hst (rTerm_iff.2 rfl)
 have hst:=Star.mkRow (R:=(OR.frz rTerm)) [([I 1,I (i64 (-(i64 (1 + x21.1))))],({ coef:=1,lit:=i64 (-(i64 (1 + x21.1))) } : Term)),([I 1,I (-5)],({ coef:=1,lit:=(-5) } : Term))] [({ coef:=1,lit:=i64 (-(i64 (1 + x21.1))) } : Term),({ coef:=1,lit:=(-5) } : Term)] 2 hst rfl rfl rfl (by decide)
 refine L_bld rfl (parts2 rfl rfl) (bld_41_0_1 ((Sl g58 2 2)) (I 1) (one_len (Star.len 0 hst rfl)) rfl) (L_bs rfl (parts1 rfl) (bs_27_1_2 ((Sl g58 2 2)) (I 1) ) hst (fun g61 w62 hst=>?_))
 have hst:=hst.get 1 rfl
 have hst:=oCon_close (c:=({ terms:=[({ coef:=1,lit:=i64 (-(i64 (1 + x21.1))) } : Term),({ coef:=1,lit:=(-5) } : Term)],bound:=1 } : Con)) hst
 have hst:=Star.mkRow (R:=(oCon 117)) [([(Sl g58 2 2),I 1],({ terms:=[({ coef:=1,lit:=i64 (-(i64 (1 + x21.1))) } : Term),({ coef:=1,lit:=(-5) } : Term)],bound:=1 } : Con))] [({ terms:=[({ coef:=1,lit:=i64 (-(i64 (1 + x21.1))) } : Term),({ coef:=1,lit:=(-5) } : Term)],bound:=1 } : Con)] 1 hst rfl rfl rfl (by decide)
 have hst:=hst.get 1 rfl
 refine L_appM (v:=v45) (u:=(Sl g61 1 1)) rfl et_27 rfl rfl hst hx54 (fun v64 w65 hst=>aV v64 rfl (ns (mV v64 rfl (L_len rfl Try.underlying27 rfl (Star.len 0 hst rfl) (aI rfl (nq ?_))))))
 obtain ⟨x67,hx67,hF⟩:=bind_some hF
 obtain ⟨x73,hx73,hF⟩:=bind_some hF
 refine W_region (mV (Pt g_0) rfl (mV v64 rfl (mI rfl (L_sub rfl rfl rfl ?_))))
 obtain ⟨H77,l78,hst,hz79⟩:=Star.freeze hst
 have hz79 : (rS 41 (rCon 117)).rel H77 [v64] x54:=hz79
 refine L_sl (a:=0) (b:=i64 ((x54.length : Int) - 2)) rfl et_27 rfl hz79 rfl rfl hx67 (fun v76 hs80=>L_call rfl Try.call118 (ops2 rfl rfl) (s_l4Random_c (r_:=({ b:=r_.b,p:=x21.2 } : Rd)) (list:=x67) hst (RP.mono _ h0_0 l78) hs80 hx73) ?_)
 rintro r81_0 w81 ⟨H81,l81,_,rfl,hst⟩
 refine aV r81_0 rfl (nq ?_)
 obtain ⟨x89,hx89,hF⟩:=bind_some hF
 refine W_region (mV v64 rfl (mV r81_0 rfl ?_))
 obtain ⟨H92b,l93,s94,z95,k96⟩:=hst.borrow
 have hb97 : (rS 63 (rStep 117)).rel H92b [r81_0] x73.1:=fz_own 0 z95 rfl
 refine L_call rfl Try.call35 (ops2 rfl rfl) (s_RunProof_c (list:=x54) (steps:=x73.1) s94 (RP.mono _ hz79 (Le.trans l81 l93)) hb97 hx89) ?_
 rintro _ w98 ⟨r98_0,rfl,hst⟩
 have hst:=k96 hst (co closed_oCon c0)
 refine mV (.tuple #[r98_0,I x89.2]) rfl (L_ex (v:=r98_0) rfl rfl rfl (L_ex (v:=I x89.2) rfl rfl rfl (aV r98_0 rfl (aI rfl (nq (W_seq ?_))))))
 obtain ⟨R100,hR100⟩:=exR fun f w_=>f 0 = Pt g_0∧f 4 = v64∧f 6 = I (x54.length : Int)∧f 7 = r81_0∧f 53 = Bo ((decide (x89.2 ≥ 0)) || ((x54.length : Int) != (x54.length : Int)))∧Star H81 w_ (oF 63 (rStep 117) r81_0 x73.1 :: box g_0 126 #[v0_0,I x73.2] :: R)
 refine W_join R100 ?_ ?_
 refine W_region (mI rfl (L_geq rfl rfl rfl (mB rfl (L_split (d:=48) (b:=decide (x89.2 ≥ 0)) rfl (fun hc101=>?_) (fun hc101=>?_)))))
 refine ps rfl (ps rfl (ps rfl (ps rfl (L_pick (v:=Bo ((decide (x89.2 ≥ 0)) || ((x54.length : Int) != (x54.length : Int)))) rfl rfl (or_t hc101) (nn ?_)))))
 have hst:=hst.gets [2,2] rfl
 have hst:=Star.drop 2 hst rfl
 exact rj hR100 ⟨rfl,rfl,rfl,rfl,rfl,hst⟩
 refine mV v64 rfl (L_len rfl Try.underlying27 rfl (slice_len (RP.mono _ hz79 l81)) (mI rfl (L_neq rfl rfl rfl (L_pick (v:=Bo ((decide (x89.2 ≥ 0)) || ((x54.length : Int) != (x54.length : Int)))) rfl rfl (or_f hc101 rfl) (nn ?_)))))
 have hst:=hst.gets [2,2] rfl
 have hst:=Star.drop 2 hst rfl
 exact rj hR100 ⟨rfl,rfl,rfl,rfl,rfl,hst⟩
 intro f w_ hR
 obtain ⟨sf0,sf4,sf6,sf7,sf53,hst⟩:=rk hR100 hR
 obtain ⟨steps_102,hA104,hF⟩:=bind_some hF
 obtain ⟨R104,hR104⟩:=exR fun f w_=>∃ v102_steps : Value,f 0 = Pt g_0∧f 4 = v64∧f 6 = I (x54.length : Int)∧f 7 = v102_steps∧Star H81 w_ (oF 63 (rStep 117) v102_steps steps_102 :: box g_0 126 #[v0_0,I x73.2] :: R)
 refine W_join R104 ?_ ?_
 refine W_cond (b:=((decide (x89.2 ≥ 0)) || ((x54.length : Int) != (x54.length : Int)))) sf53 (fun hc105=>?_) (fun hc105=>?_)
 have hA104:=(ite_t hc105).symm.trans hA104
 refine W_region (L_bs rfl parts0 (bs_29_0  ) hst (fun g109 w110 hst=>?_))
 have hst:=Star.mkRow (R:=(OR.frz (rStep 117))) [] [] 0 hst rfl rfl rfl (by decide)
 refine aV (Sl g109 0 0) rfl (nn ?_)
 obtain rfl:=so hA104
 have hst:=hst.gets [2,1] rfl
 have hst:=Star.drop 2 hst rfl
 exact rj hR104 ⟨(Sl g109 0 0),sf0,sf4,sf6,rfl,hst⟩
 have hA104:=(ite_f hc105).symm.trans hA104
 refine W_skip ?_
 obtain rfl:=so hA104
 exact rj hR104 ⟨r81_0,sf0,sf4,sf6,sf7,hst⟩
 intro f w_ hR
 obtain ⟨v102_steps,sf0,sf4,sf6,sf7,hst⟩:=rk hR104 hR
 refine W_seq (W_seq ?_)
 obtain ⟨x117,hx117,hF⟩:=bind_some hF
 refine W_region (mF sf0 rfl ?_)
 have hst:=hst.get 1 rfl
 obtain ⟨H119b,l120,s121,z122,k123⟩:=hst.lend [_]
 refine L_call rfl Try.call71 (ops2 rfl rfl) (s_l17Rd_pick_c (r_:=({ b:=r_.b,p:=x73.2 } : Rd)) (n_:=2) s121 (RP.mono _ h0_0 (Le.trans (Le.trans l78 l81) l120)) hx117) ?_
 rintro _ w124 ⟨rfl,hst⟩
 have hst:=k123 hst (cb c0)
 refine L_eql rfl rfl rfl (nn (W_cond (b:=(x117.1 == 0)) rfl (fun hc125=>?_) (fun hc125=>?_)))
 have hF:=(ite_t hc125).symm.trans hF
 refine W_seq ?_
 obtain ⟨x130,hx130,hF⟩:=bind_some hF
 refine W_region (mF sf4 rfl (mF sf7 rfl (L_bld rfl (parts1 rfl) (bld_41_1 (I 1) rfl) (L_bld rfl (parts2 rfl rfl) (bld_63_0_3x2 (I 7) (S0) (I 1) rfl) (L_bs rfl (parts1 rfl) (bs_29_1_5 (I 7) (I 0) (I 0) (S0) (I 1) ) hst (fun g136 w137 hst=>?_))))))
 have hst:=Star.addNil (R:=(OR.frz rTerm)) (e:=117) hst
 have hst:=oStep_close (s:=({ kind:=7,a:=0,b:=0,given:=({ terms:=[],bound:=1 } : Con) } : Step)) hst
 have hst:=Star.mkRow (R:=(oStep 117)) [([I 7,I 0,I 0,S0,I 1],({ kind:=7,a:=0,b:=0,given:=({ terms:=[],bound:=1 } : Con) } : Step))] [({ kind:=7,a:=0,b:=0,given:=({ terms:=[],bound:=1 } : Con) } : Step)] 1 hst rfl rfl rfl (by decide)
 obtain ⟨H140,l141,hst⟩:=Star.shallow hst
 have hst : Star H140 w137 (oF 63 (rStep 117) (Sl g136 1 1) ([({ kind:=7,a:=0,b:=0,given:=({ terms:=[],bound:=1 } : Con) } : Step)]) :: _):=hst
 have hst:=hst.get 2 rfl
 refine L_appM (v:=v102_steps) (u:=(Sl g136 1 1)) rfl et_29 rfl rfl hst hx130 (fun v142 w143 hst=>aV v64 rfl (aV v142 rfl (nn (W_ret (retG2 (v1:=v64) (v2:=v142) Try.results86 rfl rfl ?_)))))
 obtain rfl:=so hF
 exact ⟨H140,(Le.trans (Le.trans l78 l81) l141),v64,v142,rfl,(RP.mono _ hz79 (Le.trans l81 l141)),hst⟩
 have hF:=(ite_f hc125).symm.trans hF
 refine W_skip (W_seq ?_)
 obtain ⟨x149,hx149,hF⟩:=bind_some hF
 refine W_region (mF sf4 rfl (mF sf7 rfl (mF sf6 rfl (L_sub rfl rfl rfl (mF sf6 rfl (L_sub rfl rfl rfl (L_bld rfl (parts3 rfl rfl rfl) (bld_63_0_1_2 (I 1) (I (i64 ((x54.length : Int) - 2))) (I (i64 ((x54.length : Int) - 1))) rfl rfl rfl) (L_bs rfl (parts1 rfl) (bs_29_1_5 (I 1) (I (i64 ((x54.length : Int) - 2))) (I (i64 ((x54.length : Int) - 1))) (S0) (I 0) ) hst (fun g155 w156 hst=>?_)))))))))
 have hst:=Star.addNil (R:=(OR.frz rTerm)) (e:=117) hst
 have hst:=oStep_close (s:=({ kind:=1,a:=i64 ((x54.length : Int) - 2),b:=i64 ((x54.length : Int) - 1),given:=({ terms:=[],bound:=0 } : Con) } : Step)) hst
 have hst:=Star.mkRow (R:=(oStep 117)) [([I 1,I (i64 ((x54.length : Int) - 2)),I (i64 ((x54.length : Int) - 1)),S0,I 0],({ kind:=1,a:=i64 ((x54.length : Int) - 2),b:=i64 ((x54.length : Int) - 1),given:=({ terms:=[],bound:=0 } : Con) } : Step))] [({ kind:=1,a:=i64 ((x54.length : Int) - 2),b:=i64 ((x54.length : Int) - 1),given:=({ terms:=[],bound:=0 } : Con) } : Step)] 1 hst rfl rfl rfl (by decide)
 obtain ⟨H159,l160,hst⟩:=Star.shallow hst
 have hst : Star H159 w156 (oF 63 (rStep 117) (Sl g155 1 1) ([({ kind:=1,a:=i64 ((x54.length : Int) - 2),b:=i64 ((x54.length : Int) - 1),given:=({ terms:=[],bound:=0 } : Con) } : Step)]) :: _):=hst
 have hst:=hst.get 2 rfl
 refine L_appM (v:=v102_steps) (u:=(Sl g155 1 1)) rfl et_29 rfl rfl hst hx149 (fun v161 w162 hst=>aV v64 rfl (aV v161 rfl (nn (W_ret (retG2 (v1:=v64) (v2:=v161) Try.results86 rfl rfl ?_)))))
 obtain rfl:=so hF
 exact ⟨H159,(Le.trans (Le.trans l78 l81) l160),v64,v161,rfl,(RP.mono _ hz79 (Le.trans l81 l160)),hst⟩
theorem s_l4Pair_c {fu : Nat} {r_ : Rd} {g_0 : Nat} {v0_0 : Value} {H : FH} {w : World} {R : List Ass} (hst : Star H w (box g_0 126 #[v0_0,I r_.p] :: R)) (h0_0 : (rS 5 RP.u8).rel H [v0_0] r_.b) {r : (List Con) × (List Step) × Int} (hF : s_l4Pair fu r_ = some r) :
 C Try.prog 79 #[Pt g_0] w fun v w'=>∃ H' : FH,Le H H'∧∃ (u1 : Value) (u2 : Value),v = .tuple #[u1,u2]∧(rS 41 (rCon 117)).rel H' [u1] r.1∧Star H' w' (oF 63 (rStep 117) u2 r.2.1 :: box g_0 126 #[v0_0,I r.2.2] :: R):=by
 unfold s_l4Pair at hF
 refine C_enter Try.func79 rfl Try.ntmps79 rfl (sq (aV S0 rfl (aV S0 rfl (nq (W_seq ?_)))))
 obtain ⟨x6,hx6,hF⟩:=bind_some hF
 refine W_region (mV (Pt g_0) rfl ?_)
 obtain ⟨H8b,l9,s10,z11,k12⟩:=hst.lend [_]
 refine L_call rfl Try.call71 (ops2 rfl rfl) (s_l17Rd_pick_c (r_:=r_) (n_:=2) s10 (RP.mono _ h0_0 l9) hx6) ?_
 rintro _ w13 ⟨rfl,hst⟩
 have hst:=k12 hst (cb c0)
 refine L_eql rfl rfl rfl (nn (W_cond (b:=(x6.1 == 0)) rfl (fun hc14=>?_) (fun hc14=>?_)))
 have hF:=(ite_t hc14).symm.trans hF
 refine W_seq ?_
 obtain ⟨x15,hx15,hF⟩:=bind_some hF
 refine W_region (mV (Pt g_0) rfl (L_call rfl Try.call86 (ops1 rfl) (s_l4Refuted_c (r_:=({ b:=r_.b,p:=x6.2 } : Rd)) hst h0_0 hx15) ?_))
 rintro _ w18 ⟨H18,l18,r18_0,r18_1,rfl,hr18_0,hst⟩
 refine L_ex (v:=r18_0) rfl rfl rfl (L_ex (v:=r18_1) rfl rfl rfl (aV r18_0 rfl (aV r18_1 rfl (nn (W_ret (retG2 (v1:=r18_0) (v2:=r18_1) Try.results79 rfl rfl ?_))))))
 obtain rfl:=so hF
 exact ⟨H18,l18,r18_0,r18_1,rfl,hr18_0,hst⟩
 have hF:=(ite_f hc14).symm.trans hF
 refine W_skip (W_seq ?_)
 obtain ⟨x25,hx25,hF⟩:=bind_some hF
 obtain ⟨x31,hx31,hF⟩:=bind_some hF
 refine W_region (mV (Pt g_0) rfl (mV (Pt g_0) rfl ?_))
 obtain ⟨H34b,l35,s36,z37,k38⟩:=hst.lend [_]
 refine L_call rfl Try.call69 (ops1 rfl) (s_l3Problem_c (r_:=({ b:=r_.b,p:=x6.2 } : Rd)) s36 (RP.mono _ h0_0 l35) hx25) ?_
 rintro r39_0 w39 ⟨_,rfl,hst⟩
 have hst:=k38 hst (co closed_oCon (cb c0))
 obtain ⟨H41,l42,hst,hz43⟩:=Star.freeze hst
 have hz43 : (rS 41 (rCon 117)).rel H41 [r39_0] x25.1:=hz43
 refine L_call rfl Try.call68 (ops2 rfl rfl) (s_l3Mutate_c (r_:=({ b:=r_.b,p:=x25.2 } : Rd)) (list:=x25.1) hst (RP.mono _ h0_0 l42) hz43 hx31) ?_
 rintro r44_0 w44 ⟨H44,l44,_,rfl,hst⟩
 refine aV r44_0 rfl (nq ?_)
 obtain ⟨x49,hx49,hF⟩:=bind_some hF
 refine W_region (mV r44_0 rfl (mV (Pt g_0) rfl (mV r44_0 rfl ?_)))
 obtain ⟨H52,l53,hst,hz54⟩:=Star.freeze hst
 have hz54 : (rS 41 (rCon 117)).rel H52 [r44_0] x31.1:=hz54
 refine L_call rfl Try.call118 (ops2 rfl rfl) (s_l4Random_c (r_:=({ b:=r_.b,p:=x31.2 } : Rd)) (list:=x31.1) hst (RP.mono _ h0_0 (Le.trans (Le.trans l42 l44) l53)) hz54 hx49) ?_
 rintro r55_0 w55 ⟨H55,l55,_,rfl,hst⟩
 refine aV r44_0 rfl (aV r55_0 rfl (nn (W_ret (retG2 (v1:=r44_0) (v2:=r55_0) Try.results79 rfl rfl ?_))))
 obtain rfl:=so hF
 exact ⟨H55,(Le.trans (Le.trans (Le.trans l42 l44) l53) l55),r44_0,r55_0,rfl,(RP.mono _ hz54 l55),hst⟩
theorem s_DrawTrimProof_c {fu : Nat} {code : List UInt8} {v0 : Value} {H : FH} {w : World} {R : List Ass} (hst : Star H w R) (h0 : (rS 5 RP.u8).rel H [v0] code) {r : (List Con) × (List Step)} (hF : s_DrawTrimProof fu code = some r) :
 C Try.prog 43 #[v0] w fun v w'=>∃ H' : FH,Le H H'∧∃ (u1 : Value) (u2 : Value),v = .tuple #[u1,u2]∧(rS 41 (rCon 117)).rel H' [u1] r.1∧Star H' w' (oF 63 (rStep 117) u2 r.2 :: R):=by
 unfold s_DrawTrimProof at hF
 refine C_enter Try.func43 rfl Try.ntmps43 rfl (sq (aV S0 rfl (aV S0 rfl (nq ?_))))
 obtain ⟨x1,hx1,hF⟩:=bind_some hF
 refine W_region (mV v0 rfl (L_call rfl Try.call67 (ops1 rfl) (s_l17Open_c (code:=code) hst h0 hx1) ?_))
 rintro _ w3 ⟨H3,l3,r3_0,r3_1,rfl,hr3_1,hst⟩
 refine aV (Pt r3_0) rfl (nq (W_seq ?_))
 obtain ⟨x9,hx9,hF⟩:=bind_some hF
 refine W_region (mV (Pt r3_0) rfl ?_)
 obtain ⟨H11b,l12,s13,z14,k15⟩:=hst.lend [_]
 refine L_call rfl Try.call71 (ops2 rfl rfl) (s_l17Rd_pick_c (r_:=x1) (n_:=8) s13 (RP.mono _ hr3_1 l12) hx9) ?_
 rintro _ w16 ⟨rfl,hst⟩
 have hst:=k15 hst (cb c0)
 refine L_eql rfl rfl rfl (nn (W_cond (b:=(x9.1 == 0)) rfl (fun hc17=>?_) (fun hc17=>?_)))
 have hF:=(ite_t hc17).symm.trans hF
 refine W_seq ?_
 obtain ⟨x18,hx18,hF⟩:=bind_some hF
 refine W_region (mV (Pt r3_0) rfl (L_call rfl Try.call79 (ops1 rfl) (s_l4Pair_c (r_:=({ b:=x1.b,p:=x9.2 } : Rd)) hst hr3_1 hx18) ?_))
 rintro _ w21 ⟨H21,l21,r21_0,r21_1,rfl,hr21_0,hst⟩
 refine L_ex (v:=r21_0) rfl rfl rfl (L_ex (v:=r21_1) rfl rfl rfl (aV r21_0 rfl (aV r21_1 rfl (nn (W_ret (retG2 (v1:=r21_0) (v2:=r21_1) Try.results43 rfl rfl ?_))))))
 obtain rfl:=so hF
 have hst:=Star.drop 1 hst rfl
 exact ⟨H21,(Le.trans l3 l21),r21_0,r21_1,rfl,hr21_0,hst⟩
 have hF:=(ite_f hc17).symm.trans hF
 refine W_skip (W_seq ?_)
 obtain ⟨x23,hx23,hF⟩:=bind_some hF
 refine W_region (mV (Pt r3_0) rfl (L_call rfl Try.call86 (ops1 rfl) (s_l4Refuted_c (r_:=({ b:=x1.b,p:=x9.2 } : Rd)) hst hr3_1 hx23) ?_))
 rintro _ w26 ⟨H26,l26,r26_0,r26_1,rfl,hr26_0,hst⟩
 refine L_ex (v:=r26_0) rfl rfl rfl (L_ex (v:=r26_1) rfl rfl rfl (aV r26_0 rfl (aV r26_1 rfl (nn (W_ret (retG2 (v1:=r26_0) (v2:=r26_1) Try.results43 rfl rfl ?_))))))
 obtain rfl:=so hF
 have hst:=Star.drop 1 hst rfl
 exact ⟨H26,(Le.trans l3 l26),r26_0,r26_1,rfl,hr26_0,hst⟩
theorem i_needed_c {fu : Nat} {list : List Con} {steps : List Step} {v0 : Value} {v1 : Value} {H : FH} {w : World} (hst : Star H w []) (h0 : (rS 41 (rCon 117)).rel H [v0] list) (h1 : (rS 63 (rStep 117)).rel H [v1] steps) {r : (List Bool) × Bool} (hF : i_needed fu list steps = some r) :
 C Try.prog 87 #[v0,v1] w fun v w'=>∃ (u1 : Value),v = .tuple #[u1,Bo r.2]∧Star H w' [oF 4 RP.bool u1 r.1]:=by
 unfold i_needed at hF
 refine C_enter Try.func87 rfl Try.ntmps87 rfl (sq (aV S0 rfl (aB rfl (nq ?_))))
 obtain ⟨x1,hx1,hF⟩:=bind_some hF
 refine W_region (mV v0 rfl (mV v1 rfl (L_call rfl Try.call53 (ops2 rfl rfl) (i_refuting_c (list:=list) (steps:=steps) hst h0 h1 hx1) ?_)))
 rintro _ w4 ⟨H4,l4,r4_0,rfl,hst⟩
 refine mV (.tuple #[r4_0,I x1.2]) rfl (L_ex (v:=r4_0) rfl rfl rfl (L_ex (v:=I x1.2) rfl rfl rfl (aV r4_0 rfl (aI rfl (nq (sq (mI rfl (L_lss rfl rfl rfl (nn (W_cond (b:=decide (x1.2 < 0)) rfl (fun hc6=>?_) (fun hc6=>?_)))))))))))
 have hF:=(ite_t hc6).symm.trans hF
 refine sq (aV S0 rfl (aB rfl (nn (W_ret (retG2 (v1:=S0) (v2:=Bo false) Try.results87 rfl rfl ?_)))))
 obtain rfl:=so hF
 have hst:=Star.addNil (R:=(OR.frz RP.bool)) (e:=4) hst
 exact ⟨S0,rfl,(Star.down (Star.keepN 1 hst) l4 (co closed_bool c0))⟩
 have hF:=(ite_f hc6).symm.trans hF
 refine W_skip (sq (aV S0 rfl (nq (sq (mV v1 rfl (L_len rfl Try.underlying29 rfl (slice_len (RP.mono _ h1 l4)) (mI rfl (nn ?_))))))))
 have hlen11 : List.length steps≤9223372036854775807:=len_le (slice_len (RP.mono _ h1 l4))
 obtain ⟨j11,hL11,hF⟩:=bind_some hF
 obtain ⟨R11,hR11⟩:=exR fun f w_=>∃ by__9 : List Step,∃ v9_by_ : Value,j11 = .nx by__9∧f 0 = v0∧f 6 = r4_0∧f 7 = I x1.2∧f 8 = v9_by_∧Star H4 w_ ([oF 63 (rStep 117) v9_by_ by__9,optA r4_0 x1.1 (fun (d_ : Db) (g_ : Nat) (u_ : Value × Value)=>[box g_ 115 #[u_.1,u_.2],oF 41 (rCon 117) u_.1 d_.list,oF 4 RP.bool u_.2 d_.gone])])
 refine W_join R11 ?_ ?_
 refine W_block ?_
 obtain ⟨I11,hI11⟩:=exI fun n f w_=>∃ i_8 : Nat,∃ suf11 : List Step,∃ by__9 : List Step,∃ v9_by_ : Value,n = suf11.length∧List.drop i_8 steps = suf11∧i_8 + suf11.length = steps.length∧rangeL i_needed_b1 suf11 i_8 by__9 = some j11∧f 0 = v0∧f 6 = r4_0∧f 7 = I x1.2∧f 8 = v9_by_∧f 25 = v1∧f 26 = I (steps.length : Int)∧f 27 = I i_8∧Star H4 w_ ([oF 63 (rStep 117) v9_by_ by__9,optA r4_0 x1.1 (fun (d_ : Db) (g_ : Nat) (u_ : Value × Value)=>[box g_ 115 #[u_.1,u_.2],oF 41 (rCon 117) u_.1 d_.list,oF 4 RP.bool u_.2 d_.gone])])
 have hst:=Star.addNil (R:=(OR.frz (rStep 117))) (e:=63) hst
 refine W_loop I11 (n:=steps.length) ?_ ?_
 exact ij hI11 ⟨0,steps,[],S0,rfl,rfl,Nat.zero_add _,hL11,rfl,rfl,rfl,rfl,rfl,rfl,rfl,hst⟩
 intro n11 f w_ hI
 obtain ⟨i_8,suf11,by__9,v9_by_,rfl,hd11,hl11,hL11,sf0,sf6,sf7,sf8,sf25,sf26,sf27,hst⟩:=ik hI11 hI
 refine sq (L_lss rfl sf27 sf26 (nq (W_cond (b:=decide ((i_8 : Int) < (steps.length : Int))) rfl (fun hc13=>?_) (fun hc13=>?_))))
 have hlt11:=of_decide_eq_true hc13
 rcases suf11 with _ | ⟨x_11,rest11⟩
 exact absurd hlt11 (by simp at hl11; omega)
 obtain ⟨o11,hB11,hL11⟩:=range_cons hL11
 rw [i_needed_b1] at hB11
 have hix11:=drop_idx hd11
 refine W_skip (W_seq (W_block (sq (L_ix (r:=(rStep 117)) rfl Try.underlying29 Try.sizeOf63 sf25 (RP.mono _ h1 l4) sf27 hix11 (fun g21 o22 cs_g21 hrk_hat23 hat23=>?_)))))
 obtain ⟨u24_0,rfl,hu24_0⟩:=rStep_iff.1 hrk_hat23
 refine L_lda (cs:=[I x_11.kind,I x_11.a,I x_11.b,u24_0,I x_11.given.bound]) rfl Try.isAgg63 Try.sizeOf63 rfl (At.sub (AtH.at hat23 hst.sub) 0 5) rfl (L_al (cs:=#[I 0,I 0,I 0,S0,I 0]) rfl Try.zeroValue63 rfl hst (fun g25 w26 hst=>L_staB (vs:=#[I x_11.kind,I x_11.a,I x_11.b,u24_0,I x_11.given.bound]) (cs2:=#[I x_11.kind,I x_11.a,I x_11.b,u24_0,I x_11.given.bound]) 0 rfl Try.sizeOf63 rfl rfl rfl (ones_cons rfl (ones_cons rfl (ones_cons rfl (ones_cons (one_len (slice_len hu24_0)) (ones_cons rfl ones_nil))))) hst rfl (by show 0 + 5≤5; decide) rfl (fun w27 hst=>ns (fA 0 fa_63_0 rfl rfl (ldB 0 hst Try.isAgg3 rfl rfl rfl (L_neq rfl rfl rfl (nn ?_)))))))
 obtain ⟨by__28,hA30,hB11⟩:=bind_some hB11
 obtain ⟨R30,hR30⟩:=exR fun f w_=>∃ v28_by_ : Value,f 0 = v0∧f 6 = r4_0∧f 7 = I x1.2∧f 8 = v28_by_∧f 25 = v1∧f 26 = I (steps.length : Int)∧f 27 = I i_8∧Star H4 w_ ([oF 63 (rStep 117) v28_by_ by__28,optA r4_0 x1.1 (fun (d_ : Db) (g_ : Nat) (u_ : Value × Value)=>[box g_ 115 #[u_.1,u_.2],oF 41 (rCon 117) u_.1 d_.list,oF 4 RP.bool u_.2 d_.gone])])
 refine W_join R30 ?_ ?_
 refine W_cond (b:=(x_11.kind != 8)) rfl (fun hc31=>?_) (fun hc31=>?_)
 have hA30:=(ite_t hc31).symm.trans hA30
 obtain ⟨x35,hx35,hA30⟩:=bind_some hA30
 refine W_region (mF sf8 rfl (L_lda (cs:=[I x_11.kind,I x_11.a,I x_11.b,u24_0,I x_11.given.bound]) rfl Try.isAgg63 Try.sizeOf63 rfl (At.sub0 (Blk.at (Star.blkAt 0 hst rfl)) 0 5) rfl (L_bs rfl (parts1 rfl) (bs_29_1_5 (I x_11.kind) (I x_11.a) (I x_11.b) (u24_0) (I x_11.given.bound) ) hst (fun g39 w40 hst=>?_))))
 have hst:=Star.addF (r:=(rStep 117)) (cs:=[I x_11.kind,I x_11.a,I x_11.b,u24_0,I x_11.given.bound]) (x:=x_11) hst (rStep_iff.2 ⟨_,rfl,hu24_0⟩)
 have hst:=Star.mkRow (R:=(OR.frz (rStep 117))) [([I x_11.kind,I x_11.a,I x_11.b,u24_0,I x_11.given.bound],x_11)] [x_11] 1 hst rfl rfl rfl (by decide)
 have hst:=hst.get 2 rfl
 refine L_appM (v:=v9_by_) (u:=(Sl g39 1 1)) rfl et_29 rfl rfl hst hx35 (fun v42 w43 hst=>aV v42 rfl (nn ?_))
 obtain rfl:=so hA30
 have hst:=hst.gets [2,1] rfl
 exact rj hR30 ⟨v42,sf0,sf6,sf7,rfl,sf25,sf26,sf27,(Star.keepN 2 hst)⟩
 have hA30:=(ite_f hc31).symm.trans hA30
 refine W_skip ?_
 obtain rfl:=so hA30
 have hst:=hst.gets [2,2] rfl
 exact rj hR30 ⟨v9_by_,sf0,sf6,sf7,sf8,sf25,sf26,sf27,(Star.keepN 2 hst)⟩
 intro f w_ hR
 obtain ⟨v28_by_,sf0,sf6,sf7,sf8,sf25,sf26,sf27,hst⟩:=rk hR30 hR
 refine W_region (L_add rfl sf27 rfl (mI rfl (nn ?_)))
 obtain rfl:=so hB11
 show ∃ m,m < _∧I11 m _ _
 refine ⟨rest11.length,by simp,?_⟩
 exact ij hI11 ⟨i_8 + 1,rest11,by__28,v28_by_,rfl,drop_next hd11,by simp at hl11; omega,hL11,sf0,sf6,sf7,sf8,sf25,sf26,(Eq.trans rfl (congrArg (Value.int .i64) (i64_succ (n:=steps.length) (by simp at hl11; omega) hlen11))),hst⟩
 rcases suf11 with _ | ⟨_,_⟩
 obtain rfl:=range_nil hL11
 refine W_exit (rj hR11 ⟨by__9,v9_by_,rfl,sf0,sf6,sf7,sf8,hst⟩)
 exact absurd (of_decide_eq_false hc13) (by simp at hl11; omega)
 intro f w_ hR
 obtain ⟨by__9,v9_by_,rfl,sf0,sf6,sf7,sf8,hst⟩:=rk hR11 hR
 refine W_seq ?_
 obtain ⟨x46,hx46,hF⟩:=bind_some hF
 obtain ⟨x49,hx49,hF⟩:=bind_some hF
 refine W_region (mF sf6 rfl ?_)
 have hst:=hst.get 1 rfl
 obtain ⟨go53,⟨uo53_0,uo53_1⟩,hvo53,hst⟩:=Star.unopt hx46 hst
 have hst : Star H4 w_ ([box go53 115 #[uo53_0,uo53_1],oF 41 (rCon 117) uo53_0 x46.list,oF 4 RP.bool uo53_1 x46.gone,oF 63 (rStep 117) v9_by_ by__9]):=hst
 refine L_nc rfl hvo53 (fA 0 fa_115_0 rfl rfl (ldB 0 hst Try.isAgg27 rfl rfl rfl (L_len rfl Try.underlying27 rfl (Star.len 1 hst rfl) (L_mk (R:=(OR.frz RP.bool)) (z0:=false) (zc:=[Bo false]) rfl et_49 (by kernel_rfl) (fun _ _=>⟨rfl,rfl⟩) rfl rfl hx49 hst (fun v56 w57 hst=>aV v56 rfl (nq ?_))))))
 obtain ⟨x59,hx59,hF⟩:=bind_some hF
 refine W_region (mV v56 rfl (mF sf7 rfl ?_))
 obtain ⟨g63,cap_g63,hv64,_,_⟩:=Star.row 0 hst rfl hx59
 refine L_ixO (R:=(OR.frz RP.bool)) (tb:=0) 0 rfl Try.underlying49 Try.sizeOf4 rfl hv64 (by first | rfl | simp) rfl hx59 ?_
 have hst:=Star.addF (r:=RP.bool) (cs:=[Bo true]) (x:=true) hst rfl
 refine L_stE1 (u:=Bo true) rfl Try.sizeOf4 rfl rfl rfl hv64 hst hx59 (fun w65 hst=>nq (sq (mF (Eq.trans sf6 hvo53) rfl (L_nc rfl rfl (fA 0 fa_115_0 rfl rfl (ldB 1 hst Try.isAgg27 rfl rfl rfl (L_len rfl Try.underlying27 rfl (Star.len 2 hst rfl) (L_sub rfl rfl rfl (aI rfl (nn ?_))))))))))
 obtain ⟨j69,hL69,hF⟩:=bind_some hF
 obtain ⟨R69,hR69⟩:=exR fun f w_=>∃ out_67 : List Bool,∃ i_68 : Int,j69 = .nx (out_67,i_68)∧f 11 = v56∧Star H4 w_ ([oF 4 RP.bool v56 out_67])
 refine W_join R69 ?_ ?_
 refine W_block ?_
 obtain ⟨I69,hI69⟩:=exI fun n f w_=>∃ out_67 : List Bool,∃ i_68 : Int,whileL (i_needed_b2 list by__9) n (out_67,i_68) = some j69∧f 0 = v0∧f 8 = v9_by_∧f 11 = v56∧f 12 = I i_68∧Star H4 w_ ([oF 63 (rStep 117) v9_by_ by__9,oF 4 RP.bool v56 out_67])
 have hst:=hst.get 4 rfl
 refine W_loop I69 (n:=fu) ?_ ?_
 exact ij hI69 ⟨(x49.set (Int.toNat x1.2) true),i64 ((x46.list.length : Int) - 1),hL69,sf0,sf8,rfl,rfl,(Star.keepN 2 hst)⟩
 intro n69 f w_ hI
 obtain ⟨out_67,i_68,hL69,sf0,sf8,sf11,sf12,hst⟩:=ik hI69 hI
 rcases n69 with _ | n69
 exact (while_zero hL69).elim
 obtain ⟨o69,hB69,hL69⟩:=while_succ hL69
 rw [i_needed_b2] at hB69
 refine W_seq (sq (mF sf12 rfl (mF sf0 rfl (L_len rfl Try.underlying27 rfl (slice_len (RP.mono _ h0 l4)) (L_geq rfl rfl rfl (nn (W_cond (b:=decide (i_68 ≥ (list.length : Int))) rfl (fun hc70=>?_) (fun hc70=>?_))))))))
 have hB69:=(ite_t hc70).symm.trans hB69
 refine W_skip (W_seq (W_block (W_seq ?_)))
 obtain ⟨x71,hx71,hB69⟩:=bind_some hB69
 refine W_region (mF sf8 rfl (mF sf12 rfl (mF sf0 rfl (L_len rfl Try.underlying27 rfl (slice_len (RP.mono _ h0 l4)) (L_sub rfl rfl rfl ?_)))))
 obtain ⟨g79,cap_g79,hv80,_,_⟩:=Star.row 0 hst rfl hx71
 refine L_ixO (R:=(OR.frz (rStep 117))) (tb:=0) 0 rfl Try.underlying29 Try.sizeOf63 rfl hv80 (by first | rfl | simp) rfl hx71 ?_
 obtain ⟨cs81,hr81,hat81⟩:=Star.eltF 0 hst rfl hv80 hx71
 obtain ⟨u82_0,rfl,hu82_0⟩:=rStep_iff.1 hr81
 refine L_lda (cs:=[I x71.kind,I x71.a,I x71.b,u82_0,I x71.given.bound]) rfl Try.isAgg63 Try.sizeOf63 rfl (At.sub hat81 0 5) rfl (L_al (cs:=#[I 0,I 0,I 0,S0,I 0]) rfl Try.zeroValue63 rfl hst (fun g83 w84 hst=>L_staB (vs:=#[I x71.kind,I x71.a,I x71.b,u82_0,I x71.given.bound]) (cs2:=#[I x71.kind,I x71.a,I x71.b,u82_0,I x71.given.bound]) 0 rfl Try.sizeOf63 rfl rfl rfl (ones_cons rfl (ones_cons rfl (ones_cons rfl (ones_cons (one_len (slice_len hu82_0)) (ones_cons rfl ones_nil))))) hst rfl (by show 0 + 5≤5; decide) rfl (fun w85 hst=>nq ?_)))
 obtain ⟨x91,hx91,hB69⟩:=bind_some hB69
 refine W_region (fA 0 fa_63_0 rfl rfl (ldB 0 hst Try.isAgg3 rfl rfl rfl ?_))
 obtain ⟨H93b,l94,s95,z96,k97⟩:=hst.borrow
 refine L_call rfl Try.call88 (ops1 rfl) (i_refers_c (kind:=x71.kind) s95 hx91) ?_
 rintro _ w98 ⟨rfl,hst⟩
 have hst:=k97 hst c0
 refine mV (.tuple #[I x91.1,Bo x91.2]) rfl (L_ex (v:=I x91.1) rfl rfl rfl (L_ex (v:=Bo x91.2) rfl rfl rfl (aI rfl (aB rfl (nn (W_block (W_seq ?_)))))))
 obtain ⟨x99,hx99,hB69⟩:=bind_some hB69
 refine W_region (mF sf11 rfl (mF sf12 rfl ?_))
 obtain ⟨g104,cap_g104,hv105,_,_⟩:=Star.row 2 hst rfl hx99
 refine L_ixO (R:=(OR.frz RP.bool)) (tb:=0) 0 rfl Try.underlying49 Try.sizeOf4 rfl hv105 (by first | rfl | simp) rfl hx99 ?_
 obtain ⟨cs106,hr106,hat106⟩:=Star.eltF 2 hst rfl hv105 hx99
 obtain rfl : _ = [_]:=hr106
 refine L_ld rfl Try.isAgg4 rfl (At.cell hat106 (j:=0) rfl) (L_not_ rfl rfl (aB rfl (nn ?_)))
 obtain ⟨out_108,hA109,hB69⟩:=bind_some hB69
 obtain ⟨R109,hR109⟩:=exR fun f w_=>f 0 = v0∧f 8 = v9_by_∧f 11 = v56∧f 12 = I i_68∧Star H4 w_ ([oF 63 (rStep 117) v9_by_ by__9,oF 4 RP.bool v56 out_108])
 refine W_join R109 ?_ ?_
 refine W_cond (b:=(!x99)) rfl (fun hc110=>?_) (fun hc110=>?_)
 have hA109:=(ite_t hc110).symm.trans hA109
 refine W_skip ?_
 obtain rfl:=so hA109
 have hst:=hst.gets [2,2] rfl
 exact rj hR109 ⟨sf0,sf8,sf11,sf12,(Star.keepN 2 hst)⟩
 have hA109:=(ite_f hc110).symm.trans hA109
 refine sq (fA 0 fa_63_0 rfl rfl (ldB 0 hst Try.isAgg3 rfl rfl rfl (L_eql rfl rfl rfl (aB rfl (nn ?_)))))
 obtain ⟨out_111,hA112,hA109⟩:=bind_some hA109
 obtain ⟨R112,hR112⟩:=exR fun f w_=>f 0 = v0∧f 8 = v9_by_∧f 11 = v56∧f 12 = I i_68∧Star H4 w_ ([oF 63 (rStep 117) v9_by_ by__9,oF 4 RP.bool v56 out_111])
 refine W_join R112 ?_ ?_
 refine W_cond (b:=(x71.kind == 7)) rfl (fun hc113=>?_) (fun hc113=>?_)
 have hA112:=(ite_t hc113).symm.trans hA112
 refine sq (mF sf12 rfl (mI rfl (nn ?_)))
 obtain ⟨k117,hk117,hA112⟩:=bind_some hA112
 obtain ⟨j116,hL116,hA112⟩:=bind_some hA112
 obtain ⟨R116,hR116⟩:=exR fun f w_=>∃ out_115 : List Bool,j116 = .nx out_115∧f 0 = v0∧f 8 = v9_by_∧f 11 = v56∧f 12 = I i_68∧Star H4 w_ ([oF 63 (rStep 117) v9_by_ by__9,oF 4 RP.bool v56 out_115])
 refine W_join R116 ?_ ?_
 refine W_block ?_
 obtain ⟨I116,hI116⟩:=exI fun n f w_=>∃ i_114 : Nat,∃ suf116 : Nat,∃ out_115 : List Bool,suf116 = n∧0≤i_114∧i_114 + suf116 = 0 + k117∧countL i_needed_b3 suf116 i_114 out_115 = some j116∧f 0 = v0∧f 8 = v9_by_∧f 11 = v56∧f 12 = I i_68∧f 83 = I i_68∧f 84 = I i_114∧Star H4 w_ ([oF 63 (rStep 117) v9_by_ by__9,oF 4 RP.bool v56 out_115])
 have hst:=hst.gets [2,2] rfl
 refine W_loop I116 (n:=k117) ?_ ?_
 exact ij hI116 ⟨0,k117,out_67,rfl,Nat.le_refl _,rfl,hL116,sf0,sf8,sf11,sf12,rfl,rfl,(Star.keepN 2 hst)⟩
 intro n116 f w_ hI
 obtain ⟨i_114,suf116,out_115,rfl,hs116,hl116,hL116,sf0,sf8,sf11,sf12,sf83,sf84,hst⟩:=ik hI116 hI
 refine sq (L_lss rfl sf84 sf83 (nq (W_cond (b:=decide ((i_114 : Int) < i_68)) rfl (fun hc118=>?_) (fun hc118=>?_))))
 have hlt116:=of_decide_eq_true hc118
 rcases suf116 with _ | rest116
 exact absurd hlt116 (cntF_no hl116 hk117)
 obtain ⟨o116,hB116,hL116⟩:=count_succ hL116
 rw [i_needed_b3] at hB116
 refine W_skip (W_seq (W_block (sq (mF sf84 rfl (aI rfl (nn ?_))))))
 obtain ⟨x119,hx119,hB116⟩:=bind_some hB116
 refine W_region (mF sf11 rfl (mI rfl ?_))
 obtain ⟨g123,cap_g123,hv124,_,_⟩:=Star.row 1 hst rfl hx119
 refine L_ixO (R:=(OR.frz RP.bool)) (tb:=0) 0 rfl Try.underlying49 Try.sizeOf4 rfl hv124 (by first | rfl | simp) rfl hx119 ?_
 have hst:=Star.addF (r:=RP.bool) (cs:=[Bo true]) (x:=true) hst rfl
 have hst:=hst.gets [2,1] rfl
 refine L_stE1 (u:=Bo true) rfl Try.sizeOf4 rfl rfl rfl hv124 hst hx119 (fun w125 hst=>nn (W_region (L_add rfl sf84 rfl (mI rfl (nn ?_)))))
 obtain rfl:=so hB116
 have hst:=hst.get 1 rfl
 show ∃ m,m < _∧I116 m _ _
 refine ⟨rest116,Nat.lt_succ_self _,?_⟩
 exact ij hI116 ⟨i_114 + 1,rest116,(out_115.set (Int.toNat (i_114 : Int)) true),rfl,by omega,by omega,hL116,sf0,sf8,sf11,sf12,sf83,(Eq.trans rfl (congrArg (Value.int .i64) (i64_succ (n:=0 + k117) (by omega) (cntF_le hk117)))),hst⟩
 rcases suf116 with _ | _
 obtain rfl:=count_zero hL116
 refine W_exit (rj hR116 ⟨out_115,rfl,sf0,sf8,sf11,sf12,hst⟩)
 exact absurd (cntF_yes hs116 hl116 hk117) (of_decide_eq_false hc118)
 intro f w_ hR
 obtain ⟨out_115,rfl,sf0,sf8,sf11,sf12,hst⟩:=rk hR116 hR
 obtain rfl:=so hA112
 exact rj hR112 ⟨sf0,sf8,sf11,sf12,hst⟩
 have hA112:=(ite_f hc113).symm.trans hA112
 refine sq (mI rfl (L_gtr rfl rfl rfl (aB rfl (nn ?_))))
 obtain ⟨out_126,hA127,hA112⟩:=bind_some hA112
 obtain ⟨R127,hR127⟩:=exR fun f w_=>f 0 = v0∧f 8 = v9_by_∧f 11 = v56∧f 12 = I i_68∧Star H4 w_ ([oF 63 (rStep 117) v9_by_ by__9,oF 4 RP.bool v56 out_126])
 refine W_join R127 ?_ ?_
 refine W_cond (b:=decide (x91.1 > 0)) rfl (fun hc128=>?_) (fun hc128=>?_)
 have hA127:=(ite_t hc128).symm.trans hA127
 refine W_seq ?_
 obtain ⟨x129,hx129,hA127⟩:=bind_some hA127
 refine W_region (mF sf11 rfl (fA 1 fa_63_1 rfl rfl (ldB 0 hst Try.isAgg3 rfl rfl rfl (L_ixO (R:=(OR.frz RP.bool)) (tb:=0) 0 rfl Try.underlying49 Try.sizeOf4 rfl hv105 (by first | rfl | simp) rfl hx129 ?_))))
 have hst:=Star.addF (r:=RP.bool) (cs:=[Bo true]) (x:=true) hst rfl
 have hst:=hst.gets [3,1] rfl
 refine L_stE1 (u:=Bo true) rfl Try.sizeOf4 rfl rfl rfl hv105 hst hx129 (fun w131 hst=>ns (mI rfl (L_gtr rfl rfl rfl (nn ?_))))
 obtain ⟨out_132,hA133,hA127⟩:=bind_some hA127
 obtain ⟨R133,hR133⟩:=exR fun f w_=>f 0 = v0∧f 8 = v9_by_∧f 11 = v56∧f 12 = I i_68∧Star H4 w_ ([oF 63 (rStep 117) v9_by_ by__9,oF 4 RP.bool v56 out_132])
 refine W_join R133 ?_ ?_
 refine W_cond (b:=decide (x91.1 > 1)) rfl (fun hc134=>?_) (fun hc134=>?_)
 have hA133:=(ite_t hc134).symm.trans hA133
 obtain ⟨x135,hx135,hA133⟩:=bind_some hA133
 refine W_region (mF sf11 rfl (fA 2 fa_63_2 rfl rfl (ldB 1 hst Try.isAgg3 rfl rfl rfl (L_ixO (R:=(OR.frz RP.bool)) (tb:=0) 0 rfl Try.underlying49 Try.sizeOf4 rfl hv105 (by first | rfl | simp) rfl hx135 ?_))))
 have hst:=Star.addF (r:=RP.bool) (cs:=[Bo true]) (x:=true) hst rfl
 refine L_stE1 (u:=Bo true) rfl Try.sizeOf4 rfl rfl rfl hv105 hst hx135 (fun w137 hst=>nn ?_)
 obtain rfl:=so hA133
 have hst:=hst.get 2 rfl
 exact rj hR133 ⟨sf0,sf8,sf11,sf12,(Star.keepN 2 hst)⟩
 have hA133:=(ite_f hc134).symm.trans hA133
 refine W_skip ?_
 obtain rfl:=so hA133
 have hst:=hst.get 2 rfl
 exact rj hR133 ⟨sf0,sf8,sf11,sf12,(Star.keepN 2 hst)⟩
 intro f w_ hR
 obtain ⟨sf0,sf8,sf11,sf12,hst⟩:=rk hR133 hR
 obtain rfl:=so hA127
 exact rj hR127 ⟨sf0,sf8,sf11,sf12,hst⟩
 have hA127:=(ite_f hc128).symm.trans hA127
 refine W_skip ?_
 obtain rfl:=so hA127
 have hst:=hst.gets [2,2] rfl
 exact rj hR127 ⟨sf0,sf8,sf11,sf12,(Star.keepN 2 hst)⟩
 intro f w_ hR
 obtain ⟨sf0,sf8,sf11,sf12,hst⟩:=rk hR127 hR
 obtain rfl:=so hA112
 exact rj hR112 ⟨sf0,sf8,sf11,sf12,hst⟩
 intro f w_ hR
 obtain ⟨sf0,sf8,sf11,sf12,hst⟩:=rk hR112 hR
 obtain rfl:=so hA109
 exact rj hR109 ⟨sf0,sf8,sf11,sf12,hst⟩
 intro f w_ hR
 obtain ⟨sf0,sf8,sf11,sf12,hst⟩:=rk hR109 hR
 refine W_region (mF sf12 rfl (L_sub rfl rfl rfl (aI rfl (nn ?_))))
 obtain rfl:=so hB69
 show ∃ m,m < _∧I69 m _ _
 refine ⟨n69,Nat.lt_succ_self _,?_⟩
 exact ij hI69 ⟨out_108,i64 (i_68 - 1),hL69,sf0,sf8,sf11,rfl,hst⟩
 have hB69:=(ite_f hc70).symm.trans hB69
 refine W_exit ?_
 obtain rfl:=so hB69
 obtain rfl:=so hL69
 have hst:=hst.get 1 rfl
 exact rj hR69 ⟨out_67,i_68,rfl,sf11,(Star.keepN 1 hst)⟩
 intro f w_ hR
 obtain ⟨out_67,i_68,rfl,sf11,hst⟩:=rk hR69 hR
 refine sq (mF sf11 rfl (aV v56 rfl (aB rfl (nn (W_ret (retG2 (v1:=v56) (v2:=Bo true) Try.results87 rfl rfl ?_))))))
 obtain rfl:=so hF
 exact ⟨v56,rfl,(Star.down hst l4 (co closed_bool c0))⟩
theorem i_TrimProof_c {fu : Nat} {list : List Con} {steps : List Step} {v0 : Value} {v1 : Value} {H : FH} {w : World} (hst : Star H w []) (h0 : (rS 41 (rCon 117)).rel H [v0] list) (h1 : (rS 63 (rStep 117)).rel H [v1] steps) {r : (List Step) × Bool} (hF : i_TrimProof fu list steps = some r) :
 C Try.prog 44 #[v0,v1] w fun v w'=>∃ (u1 : Value),v = .tuple #[u1,Bo r.2]∧Star H w' [oS 63 (oStep 117) u1 r.1]:=by
 unfold i_TrimProof at hF
 refine C_enter Try.func44 rfl Try.ntmps44 rfl (sq (aV S0 rfl (aB rfl (nq ?_))))
 obtain ⟨x6,hx6,hF⟩:=bind_some hF
 refine W_region (mV v0 rfl (mV v1 rfl ?_))
 obtain ⟨H9b,l10,s11,z12,k13⟩:=hst.borrow
 refine L_call rfl Try.call87 (ops2 rfl rfl) (i_needed_c (list:=list) (steps:=steps) s11 (RP.mono _ h0 l10) (RP.mono _ h1 l10) hx6) ?_
 rintro _ w14 ⟨r14_0,rfl,hst⟩
 have hst:=k13 hst (co closed_bool c0)
 refine mV (.tuple #[r14_0,Bo x6.2]) rfl (L_ex (v:=r14_0) rfl rfl rfl (L_ex (v:=Bo x6.2) rfl rfl rfl (aV r14_0 rfl (aB rfl (nq (sq (mB rfl (L_not_ rfl rfl (nn (W_cond (b:=(!x6.2)) rfl (fun hc16=>?_) (fun hc16=>?_)))))))))))
 have hF:=(ite_t hc16).symm.trans hF
 refine sq (aV S0 rfl (aB rfl (nn (W_ret (retG2 (v1:=S0) (v2:=Bo false) Try.results44 rfl rfl ?_)))))
 obtain rfl:=so hF
 have hst:=Star.addNil (R:=(oStep 117)) (e:=63) hst
 exact ⟨S0,rfl,(Star.keepN 1 hst)⟩
 have hF:=(ite_f hc16).symm.trans hF
 refine W_skip (sq (aV S0 rfl (nq (sq (mV v0 rfl (L_len rfl Try.underlying27 rfl (slice_len h0) (mI rfl (nn ?_))))))))
 have hlen21 : List.length list≤9223372036854775807:=len_le (slice_len h0)
 obtain ⟨j21,hL21,hF⟩:=bind_some hF
 obtain ⟨R21,hR21⟩:=exR fun f w_=>∃ place_19 : List Int,∃ v19_place : Value,j21 = .nx place_19∧f 0 = v0∧f 1 = v1∧f 6 = r14_0∧f 8 = v19_place∧Star H w_ ([oF 4 RP.bool r14_0 x6.1,oF 3 RP.int v19_place place_19])
 refine W_join R21 ?_ ?_
 refine W_block ?_
 obtain ⟨I21,hI21⟩:=exI fun n f w_=>∃ i_18 : Nat,∃ suf21 : List Con,∃ place_19 : List Int,∃ v19_place : Value,n = suf21.length∧List.drop i_18 list = suf21∧i_18 + suf21.length = list.length∧rangeL i_TrimProof_b1 suf21 i_18 place_19 = some j21∧f 0 = v0∧f 1 = v1∧f 6 = r14_0∧f 8 = v19_place∧f 26 = I (list.length : Int)∧f 27 = I i_18∧Star H w_ ([oF 4 RP.bool r14_0 x6.1,oF 3 RP.int v19_place place_19])
 have hst:=Star.addNil (R:=(OR.frz RP.int)) (e:=3) hst
 have hst:=hst.get 1 rfl
 refine W_loop I21 (n:=list.length) ?_ ?_
 exact ij hI21 ⟨0,list,[],S0,rfl,rfl,Nat.zero_add _,hL21,rfl,rfl,rfl,rfl,rfl,rfl,hst⟩
 intro n21 f w_ hI
 obtain ⟨i_18,suf21,place_19,v19_place,rfl,hd21,hl21,hL21,sf0,sf1,sf6,sf8,sf26,sf27,hst⟩:=ik hI21 hI
 refine sq (L_lss rfl sf27 sf26 (nq (W_cond (b:=decide ((i_18 : Int) < (list.length : Int))) rfl (fun hc23=>?_) (fun hc23=>?_))))
 have hlt21:=of_decide_eq_true hc23
 rcases suf21 with _ | ⟨x_21,rest21⟩
 exact absurd hlt21 (by simp at hl21; omega)
 obtain ⟨o21,hB21,hL21⟩:=range_cons hL21
 rw [i_TrimProof_b1] at hB21
 have hix21:=drop_idx hd21
 refine W_skip (W_seq (W_block (sq (mF sf27 rfl (aI rfl (nn ?_))))))
 obtain ⟨x27,hx27,hB21⟩:=bind_some hB21
 refine W_region (mF sf8 rfl (mI rfl (L_bs rfl (parts1 rfl) (bs_105_1_0 (I i_18) rfl) hst (fun g31 w32 hst=>?_))))
 have hst:=Star.addF (r:=RP.int) (cs:=[I i_18]) (x:=(i_18 : Int)) hst rfl
 have hst:=Star.mkRow (R:=(OR.frz RP.int)) [([I i_18],(i_18 : Int))] [(i_18 : Int)] 1 hst rfl rfl rfl (by decide)
 have hst:=hst.get 2 rfl
 refine L_appM (v:=v19_place) (u:=(Sl g31 1 1)) rfl et_105 rfl rfl hst hx27 (fun v34 w35 hst=>aV v34 rfl (nn (W_region (L_add rfl sf27 rfl (mI rfl (nn ?_))))))
 obtain rfl:=so hB21
 have hst:=hst.get 1 rfl
 show ∃ m,m < _∧I21 m _ _
 refine ⟨rest21.length,by simp,?_⟩
 exact ij hI21 ⟨i_18 + 1,rest21,x27,v34,rfl,drop_next hd21,by simp at hl21; omega,hL21,sf0,sf1,sf6,rfl,sf26,(Eq.trans rfl (congrArg (Value.int .i64) (i64_succ (n:=list.length) (by simp at hl21; omega) hlen21))),hst⟩
 rcases suf21 with _ | ⟨_,_⟩
 obtain rfl:=range_nil hL21
 refine W_exit (rj hR21 ⟨place_19,v19_place,rfl,sf0,sf1,sf6,sf8,hst⟩)
 exact absurd (of_decide_eq_false hc23) (by simp at hl21; omega)
 intro f w_ hR
 obtain ⟨place_19,v19_place,rfl,sf0,sf1,sf6,sf8,hst⟩:=rk hR21 hR
 refine sq (aV S0 rfl (nq (sq (mF sf1 rfl (L_len rfl Try.underlying29 rfl (slice_len h1) (mI rfl (nn ?_)))))))
 have hlen42 : List.length steps≤9223372036854775807:=len_le (slice_len h1)
 obtain ⟨j42,hL42,hF⟩:=bind_some hF
 obtain ⟨R42,hR42⟩:=exR fun f w_=>∃ place_38 : List Int,∃ out_40 : List Step,∃ v40_out : Value,j42 = .nx (place_38,out_40)∧f 10 = v40_out∧Star H w_ ([oS 63 (oStep 117) v40_out out_40])
 refine W_join R42 ?_ ?_
 refine W_block ?_
 obtain ⟨I42,hI42⟩:=exI fun n f w_=>∃ i_37 : Nat,∃ suf42 : List Step,∃ place_38 : List Int,∃ out_40 : List Step,∃ v38_place v40_out : Value,n = suf42.length∧List.drop i_37 steps = suf42∧i_37 + suf42.length = steps.length∧rangeL (i_TrimProof_b2 list x6) suf42 i_37 (place_38,out_40) = some j42∧f 0 = v0∧f 6 = r14_0∧f 8 = v38_place∧f 10 = v40_out∧f 35 = v1∧f 36 = I (steps.length : Int)∧f 37 = I i_37∧Star H w_ ([oF 4 RP.bool r14_0 x6.1,oF 3 RP.int v38_place place_38,oS 63 (oStep 117) v40_out out_40])
 have hst:=Star.addNil (R:=(oStep 117)) (e:=63) hst
 have hst:=hst.gets [2,2] rfl
 refine W_loop I42 (n:=steps.length) ?_ ?_
 exact ij hI42 ⟨0,steps,place_19,[],v19_place,S0,rfl,rfl,Nat.zero_add _,hL42,sf0,sf6,sf8,rfl,rfl,rfl,rfl,hst⟩
 intro n42 f w_ hI
 obtain ⟨i_37,suf42,place_38,out_40,v38_place,v40_out,rfl,hd42,hl42,hL42,sf0,sf6,sf8,sf10,sf35,sf36,sf37,hst⟩:=ik hI42 hI
 refine sq (L_lss rfl sf37 sf36 (nq (W_cond (b:=decide ((i_37 : Int) < (steps.length : Int))) rfl (fun hc44=>?_) (fun hc44=>?_))))
 have hlt42:=of_decide_eq_true hc44
 rcases suf42 with _ | ⟨x_42,rest42⟩
 exact absurd hlt42 (by simp at hl42; omega)
 obtain ⟨o42,hB42,hL42⟩:=range_cons hL42
 rw [i_TrimProof_b2] at hB42
 have hix42:=drop_idx hd42
 refine W_skip (W_seq ?_)
 obtain ⟨j49,hA49,hB42⟩:=bind_some hB42
 obtain ⟨R49,hR49⟩:=exR fun f w_=>∃ place_45 : List Int,∃ out_47 : List Step,∃ v45_place v47_out : Value,j49 = .nx (place_45,out_47)∧f 0 = v0∧f 6 = r14_0∧f 8 = v45_place∧f 10 = v47_out∧f 35 = v1∧f 36 = I (steps.length : Int)∧f 37 = I i_37∧Star H w_ ([oF 4 RP.bool r14_0 x6.1,oF 3 RP.int v45_place place_45,oS 63 (oStep 117) v47_out out_47])
 refine W_join R49 ?_ ?_
 refine W_block (sq (L_ix (r:=(rStep 117)) rfl Try.underlying29 Try.sizeOf63 sf35 h1 sf37 hix42 (fun g57 o58 cs_g57 hrk_hat59 hat59=>?_)))
 obtain ⟨u60_0,rfl,hu60_0⟩:=rStep_iff.1 hrk_hat59
 refine L_lda (cs:=[I x_42.kind,I x_42.a,I x_42.b,u60_0,I x_42.given.bound]) rfl Try.isAgg63 Try.sizeOf63 rfl (At.sub (AtH.at hat59 hst.sub) 0 5) rfl (L_al (cs:=#[I 0,I 0,I 0,S0,I 0]) rfl Try.zeroValue63 rfl hst (fun g61 w62 hst=>L_staB (vs:=#[I x_42.kind,I x_42.a,I x_42.b,u60_0,I x_42.given.bound]) (cs2:=#[I x_42.kind,I x_42.a,I x_42.b,u60_0,I x_42.given.bound]) 0 rfl Try.sizeOf63 rfl rfl rfl (ones_cons rfl (ones_cons rfl (ones_cons rfl (ones_cons (one_len (slice_len hu60_0)) (ones_cons rfl ones_nil))))) hst rfl (by show 0 + 5≤5; decide) rfl (fun w63 hst=>nq (sq (fA 0 fa_63_0 rfl rfl (ldB 0 hst Try.isAgg3 rfl rfl rfl (L_eql rfl rfl rfl (nn (W_cond (b:=(x_42.kind == 8)) rfl (fun hc64=>?_) (fun hc64=>?_))))))))))
 have hA49:=(ite_t hc64).symm.trans hA49
 refine W_exit ?_
 obtain rfl:=so hA49
 have hst:=hst.gets [3,3,3] rfl
 exact rj hR49 ⟨place_38,out_40,v38_place,v40_out,rfl,sf0,sf6,sf8,sf10,sf35,sf36,sf37,(Star.keepN 3 hst)⟩
 have hA49:=(ite_f hc64).symm.trans hA49
 refine W_skip (sq (mF sf0 rfl (L_len rfl Try.underlying27 rfl (slice_len h0) (mF sf10 rfl (L_len rfl Try.underlying29 rfl (Star.len 3 hst rfl) (L_add rfl rfl rfl (aI rfl (nq ?_))))))))
 obtain ⟨x65,hx65,hA49⟩:=bind_some hA49
 refine W_region (mF sf6 rfl (mF sf8 rfl (L_len rfl Try.underlying105 rfl (Star.len 2 hst rfl) ?_)))
 obtain ⟨g70,cap_g70,hv71,_,_⟩:=Star.row 1 hst rfl hx65
 refine L_ixO (R:=(OR.frz RP.bool)) (tb:=0) 0 rfl Try.underlying49 Try.sizeOf4 rfl hv71 (by first | rfl | simp) rfl hx65 ?_
 obtain ⟨cs72,hr72,hat72⟩:=Star.eltF 1 hst rfl hv71 hx65
 obtain rfl : _ = [_]:=hr72
 refine L_ld rfl Try.isAgg4 rfl (At.cell hat72 (j:=0) rfl) (aB rfl (nq ?_))
 obtain ⟨x77,hx77,hA49⟩:=bind_some hA49
 refine W_region (mF sf8 rfl (mI rfl (L_bs rfl (parts1 rfl) (bs_105_1_0 (I (i64 ((list.length : Int) + (out_40.length : Int)))) rfl) hst (fun g81 w82 hst=>?_))))
 have hst:=Star.addF (r:=RP.int) (cs:=[I (i64 ((list.length : Int) + (out_40.length : Int)))]) (x:=(i64 ((list.length : Int) + (out_40.length : Int)))) hst rfl
 have hst:=Star.mkRow (R:=(OR.frz RP.int)) [([I (i64 ((list.length : Int) + (out_40.length : Int)))],i64 ((list.length : Int) + (out_40.length : Int)))] [i64 ((list.length : Int) + (out_40.length : Int))] 1 hst rfl rfl rfl (by decide)
 have hst:=hst.get 3 rfl
 refine L_appM (v:=v38_place) (u:=(Sl g81 1 1)) rfl et_105 rfl rfl hst hx77 (fun v84 w85 hst=>aV v84 rfl (nq (sq (mB rfl (L_not_ rfl rfl (nn (W_cond (b:=(!x65)) rfl (fun hc87=>?_) (fun hc87=>?_))))))))
 have hA49:=(ite_t hc87).symm.trans hA49
 refine W_exit ?_
 obtain rfl:=so hA49
 have hst:=hst.gets [3,1,3] rfl
 exact rj hR49 ⟨x77,out_40,v84,v40_out,rfl,sf0,sf6,rfl,sf10,sf35,sf36,sf37,(Star.keepN 3 hst)⟩
 have hA49:=(ite_f hc87).symm.trans hA49
 refine W_skip (W_seq ?_)
 obtain ⟨x93,hx93,hA49⟩:=bind_some hA49
 refine W_region (fA 0 fa_63_0 rfl rfl (ldB 1 hst Try.isAgg3 rfl rfl rfl ?_))
 obtain ⟨H95b,l96,s97,z98,k99⟩:=hst.borrow
 refine L_call rfl Try.call88 (ops1 rfl) (i_refers_c (kind:=x_42.kind) s97 hx93) ?_
 rintro _ w100 ⟨rfl,hst⟩
 have hst:=k99 hst c0
 refine mV (.tuple #[I x93.1,Bo x93.2]) rfl (L_ex (v:=I x93.1) rfl rfl rfl (L_ex (v:=Bo x93.2) rfl rfl rfl (aI rfl (aB rfl (nq (sq (mI rfl (L_gtr rfl rfl rfl (nn ?_)))))))))
 obtain ⟨g61_1_101,hA102,hA49⟩:=bind_some hA49
 obtain ⟨R102,hR102⟩:=exR fun f w_=>f 0 = v0∧f 6 = r14_0∧f 8 = v84∧f 10 = v40_out∧f 12 = Pt g61∧f 15 = I x93.1∧f 35 = v1∧f 36 = I (steps.length : Int)∧f 37 = I i_37∧Star H w_ ([oF 4 RP.bool r14_0 x6.1,oF 3 RP.int v84 x77,oS 63 (oStep 117) v40_out out_40,box g61 63 #[I x_42.kind,I g61_1_101,I x_42.b,u60_0,I x_42.given.bound]])
 refine W_join R102 ?_ ?_
 refine W_cond (b:=decide (x93.1 > 0)) rfl (fun hc103=>?_) (fun hc103=>?_)
 have hA102:=(ite_t hc103).symm.trans hA102
 obtain ⟨x104,hx104,hA102⟩:=bind_some hA102
 refine W_region (mV v84 rfl (fA 1 fa_63_1 rfl rfl (ldB 1 hst Try.isAgg3 rfl rfl rfl ?_)))
 obtain ⟨g110,cap_g110,hv111,_,_⟩:=Star.row 0 hst rfl hx104
 refine L_ixO (R:=(OR.frz RP.int)) (tb:=0) 0 rfl Try.underlying105 Try.sizeOf3 rfl hv111 (by first | rfl | simp) rfl hx104 ?_
 obtain ⟨cs112,hr112,hat112⟩:=Star.eltF 0 hst rfl hv111 hx104
 obtain rfl : _ = [_]:=hr112
 refine L_ld rfl Try.isAgg3 rfl (At.cell hat112 (j:=0) rfl) (fA 1 fa_63_1 rfl rfl (L_stB (v:=I x104) (cs2:=#[I x_42.kind,I x104,I x_42.b,u60_0,I x_42.given.bound]) 1 rfl Try.sizeOf3 rfl rfl rfl hst rfl rfl rfl (fun w114 hst=>nn ?_)))
 obtain rfl:=so hA102
 have hst:=hst.gets [3,2,3] rfl
 exact rj hR102 ⟨sf0,sf6,rfl,sf10,rfl,rfl,sf35,sf36,sf37,hst⟩
 have hA102:=(ite_f hc103).symm.trans hA102
 refine W_skip ?_
 obtain rfl:=so hA102
 have hst:=hst.gets [1,3,2,3] rfl
 exact rj hR102 ⟨sf0,sf6,rfl,sf10,rfl,rfl,sf35,sf36,sf37,hst⟩
 intro f w_ hR
 obtain ⟨sf0,sf6,sf8,sf10,sf12,sf15,sf35,sf36,sf37,hst⟩:=rk hR102 hR
 refine W_seq (sq (mF sf15 rfl (L_gtr rfl rfl rfl (nn ?_))))
 obtain ⟨g61_2_115,hA116,hA49⟩:=bind_some hA49
 obtain ⟨R116,hR116⟩:=exR fun f w_=>f 0 = v0∧f 6 = r14_0∧f 8 = v84∧f 10 = v40_out∧f 12 = Pt g61∧f 35 = v1∧f 36 = I (steps.length : Int)∧f 37 = I i_37∧Star H w_ ([oF 4 RP.bool r14_0 x6.1,oF 3 RP.int v84 x77,oS 63 (oStep 117) v40_out out_40,box g61 63 #[I x_42.kind,I g61_1_101,I g61_2_115,u60_0,I x_42.given.bound]])
 refine W_join R116 ?_ ?_
 refine W_cond (b:=decide (x93.1 > 1)) rfl (fun hc117=>?_) (fun hc117=>?_)
 have hA116:=(ite_t hc117).symm.trans hA116
 obtain ⟨x118,hx118,hA116⟩:=bind_some hA116
 refine W_region (mF sf8 rfl (fA 2 fa_63_2 sf12 rfl (ldB 3 hst Try.isAgg3 rfl rfl rfl ?_)))
 obtain ⟨g124,cap_g124,hv125,_,_⟩:=Star.row 1 hst rfl hx118
 refine L_ixO (R:=(OR.frz RP.int)) (tb:=0) 0 rfl Try.underlying105 Try.sizeOf3 rfl hv125 (by first | rfl | simp) rfl hx118 ?_
 obtain ⟨cs126,hr126,hat126⟩:=Star.eltF 1 hst rfl hv125 hx118
 obtain rfl : _ = [_]:=hr126
 refine L_ld rfl Try.isAgg3 rfl (At.cell hat126 (j:=0) rfl) (fA 2 fa_63_2 sf12 rfl (L_stB (v:=I x118) (cs2:=#[I x_42.kind,I g61_1_101,I x118,u60_0,I x_42.given.bound]) 3 rfl Try.sizeOf3 rfl rfl rfl hst rfl rfl rfl (fun w128 hst=>nn ?_)))
 obtain rfl:=so hA116
 have hst:=hst.gets [3,3,3] rfl
 exact rj hR116 ⟨sf0,sf6,sf8,sf10,sf12,sf35,sf36,sf37,hst⟩
 have hA116:=(ite_f hc117).symm.trans hA116
 refine W_skip ?_
 obtain rfl:=so hA116
 exact rj hR116 ⟨sf0,sf6,sf8,sf10,sf12,sf35,sf36,sf37,hst⟩
 intro f w_ hR
 obtain ⟨sf0,sf6,sf8,sf10,sf12,sf35,sf36,sf37,hst⟩:=rk hR116 hR
 refine W_seq ?_
 obtain ⟨x134,hx134,hA49⟩:=bind_some hA49
 refine W_region (fA 3 fa_63_3 sf12 rfl (L_lda (cs:=[u60_0,I x_42.given.bound]) rfl Try.isAgg41 Try.sizeOf41 rfl (At.sub0 (Blk.at (Star.blkAt 3 hst rfl)) 3 2) rfl ?_))
 obtain ⟨H138b,l139,s140,z141,k142⟩:=hst.borrow
 refine L_call rfl Try.call89 (ops1 rfl) (i_Constraint_own_c (c:=x_42.given) s140 (RP.mono _ hu60_0 l139) hx134) ?_
 rintro _ w143 ⟨r143_0,rfl,hst⟩
 have hst:=k142 hst (co closed_term c0)
 refine fA 3 fa_63_3 sf12 rfl (L_staB (vs:=#[r143_0,I x134.bound]) (cs2:=#[I x_42.kind,I g61_1_101,I g61_2_115,r143_0,I x134.bound]) 4 rfl Try.sizeOf41 rfl rfl rfl (ones_cons (one_len (Star.len 0 hst rfl)) (ones_cons rfl ones_nil)) hst rfl (by show 3 + 2≤5; decide) rfl (fun w145 hst=>nn ?_))
 obtain ⟨x149,hx149,hA49⟩:=bind_some hA49
 refine W_region (mF sf10 rfl (L_lda (cs:=[I x_42.kind,I g61_1_101,I g61_2_115,r143_0,I x134.bound]) rfl Try.isAgg63 Try.sizeOf63 sf12 (At.sub0 (Blk.at (Star.blkAt 0 hst rfl)) 0 5) rfl (L_bs rfl (parts1 rfl) (bs_29_1_5 (I x_42.kind) (I g61_1_101) (I g61_2_115) (r143_0) (I x134.bound) ) hst (fun g153 w154 hst=>?_))))
 have hst:=hst.get 2 rfl
 have hst:=oStep_close (s:=({ kind:=x_42.kind,a:=g61_1_101,b:=g61_2_115,given:=x134 } : Step)) hst
 have hst:=Star.mkRow (R:=(oStep 117)) [([I x_42.kind,I g61_1_101,I g61_2_115,r143_0,I x134.bound],({ kind:=x_42.kind,a:=g61_1_101,b:=g61_2_115,given:=x134 } : Step))] [({ kind:=x_42.kind,a:=g61_1_101,b:=g61_2_115,given:=x134 } : Step)] 1 hst rfl rfl rfl (by decide)
 have hst:=hst.get 4 rfl
 refine L_appM (v:=v40_out) (u:=(Sl g153 1 1)) rfl et_29 rfl rfl hst hx149 (fun v156 w157 hst=>aV v156 rfl (nn ?_))
 obtain rfl:=so hA49
 have hst:=hst.gets [3,3] rfl
 exact rj hR49 ⟨x77,x149,v84,v156,rfl,sf0,sf6,sf8,rfl,sf35,sf36,sf37,(Star.keepN 3 hst)⟩
 intro f w_ hR
 obtain ⟨place_45,out_47,v45_place,v47_out,rfl,sf0,sf6,sf8,sf10,sf35,sf36,sf37,hst⟩:=rk hR49 hR
 refine W_region (L_add rfl sf37 rfl (mI rfl (nn ?_)))
 obtain rfl:=so hB42
 show ∃ m,m < _∧I42 m _ _
 refine ⟨rest42.length,by simp,?_⟩
 exact ij hI42 ⟨i_37 + 1,rest42,place_45,out_47,v45_place,v47_out,rfl,drop_next hd42,by simp at hl42; omega,hL42,sf0,sf6,sf8,sf10,sf35,sf36,(Eq.trans rfl (congrArg (Value.int .i64) (i64_succ (n:=steps.length) (by simp at hl42; omega) hlen42))),hst⟩
 rcases suf42 with _ | ⟨_,_⟩
 obtain rfl:=range_nil hL42
 refine W_exit ?_
 have hst:=hst.get 2 rfl
 exact rj hR42 ⟨place_38,out_40,v40_out,rfl,sf10,(Star.keepN 1 hst)⟩
 exact absurd (of_decide_eq_false hc44) (by simp at hl42; omega)
 intro f w_ hR
 obtain ⟨place_38,out_40,v40_out,rfl,sf10,hst⟩:=rk hR42 hR
 refine sq (mF sf10 rfl (aV v40_out rfl (aB rfl (nn (W_ret (retG2 (v1:=v40_out) (v2:=Bo true) Try.results44 rfl rfl ?_))))))
 obtain rfl:=so hF
 exact ⟨v40_out,rfl,hst⟩
theorem s_l4Needs_c {need : List Bool} {s : Step} {at_ : Int} {v0 : Value} {v1_3 : Value} {H : FH} {w : World} (hst : Star H w [oF 4 RP.bool v0 need]) (h1_3 : (rS 117 rTerm).rel H [v1_3] s.given.terms) {r : List Bool} (hF : s_l4Needs need s at_ = some r) :
 C Try.prog 90 #[v0,.agg #[I s.kind,I s.a,I s.b,v1_3,I s.given.bound],I at_] w fun v w'=>v = .tuple #[]∧Star H w' [oF 4 RP.bool v0 r]:=by
 unfold s_l4Needs at hF
 refine C_enter Try.func90 rfl Try.ntmps90 rfl (sq (L_box (v:=.agg #[I s.kind,I s.a,I s.b,v1_3,I s.given.bound]) (cs:=#[I s.kind,I s.a,I s.b,v1_3,I s.given.bound]) rfl rfl rfl hst (fun g3 w4 hst=>ns (fA 0 fa_63_0 rfl rfl (ldB 0 hst Try.isAgg3 rfl rfl rfl (nn (W_block (sq (L_eql rfl rfl rfl (aB rfl (nn ?_)))))))))))
 obtain ⟨kp_5,hA6,hF⟩:=bind_some hF
 obtain ⟨R6,hR6⟩:=exR fun f w_=>Star H w_ ([oF 4 RP.bool v0 kp_5])
 refine W_join R6 ?_ ?_
 refine W_cond (b:=(s.kind == 1)) rfl (fun hc7=>?_) (fun hc7=>?_)
 have hA6:=(ite_t hc7).symm.trans hA6
 refine W_seq ?_
 obtain ⟨x8,hx8,hA6⟩:=bind_some hA6
 refine W_region (mV v0 rfl (fA 1 fa_63_1 rfl rfl (ldB 0 hst Try.isAgg3 rfl rfl rfl ?_)))
 obtain ⟨g12,cap_g12,hv13,_,_⟩:=Star.row 1 hst rfl hx8
 refine L_ixO (R:=(OR.frz RP.bool)) (tb:=0) 0 rfl Try.underlying49 Try.sizeOf4 rfl hv13 (by first | rfl | simp) rfl hx8 ?_
 have hst:=Star.addF (r:=RP.bool) (cs:=[Bo true]) (x:=true) hst rfl
 have hst:=hst.gets [2,1] rfl
 refine L_stE1 (u:=Bo true) rfl Try.sizeOf4 rfl rfl rfl hv13 hst hx8 (fun w14 hst=>nn ?_)
 obtain ⟨x15,hx15,hA6⟩:=bind_some hA6
 refine W_region (mV v0 rfl (fA 2 fa_63_2 rfl rfl (ldB 1 hst Try.isAgg3 rfl rfl rfl (L_ixO (R:=(OR.frz RP.bool)) (tb:=0) 0 rfl Try.underlying49 Try.sizeOf4 rfl hv13 (by first | rfl | simp) rfl hx15 ?_))))
 have hst:=Star.addF (r:=RP.bool) (cs:=[Bo true]) (x:=true) hst rfl
 refine L_stE1 (u:=Bo true) rfl Try.sizeOf4 rfl rfl rfl hv13 hst hx15 (fun w17 hst=>nn ?_)
 obtain rfl:=so hA6
 exact rj hR6 (Star.keepN 1 hst)
 have hA6:=(ite_f hc7).symm.trans hA6
 refine sq (L_eql rfl rfl rfl (aB rfl (nn ?_)))
 obtain ⟨kp_18,hA19,hA6⟩:=bind_some hA6
 obtain ⟨R19,hR19⟩:=exR fun f w_=>Star H w_ ([oF 4 RP.bool v0 kp_18])
 refine W_join R19 ?_ ?_
 refine W_cond (b:=(s.kind == 7)) rfl (fun hc20=>?_) (fun hc20=>?_)
 have hA19:=(ite_t hc20).symm.trans hA19
 refine sq (aI rfl (nn ?_))
 obtain ⟨k24,hk24,hA19⟩:=bind_some hA19
 obtain ⟨j23,hL23,hA19⟩:=bind_some hA19
 obtain ⟨R23,hR23⟩:=exR fun f w_=>∃ need_22 : List Bool,j23 = .nx need_22∧Star H w_ ([oF 4 RP.bool v0 need_22])
 refine W_join R23 ?_ ?_
 refine W_block ?_
 obtain ⟨I23,hI23⟩:=exI fun n f w_=>∃ i_21 : Nat,∃ suf23 : Nat,∃ need_22 : List Bool,suf23 = n∧0≤i_21∧i_21 + suf23 = 0 + k24∧countL s_l4Needs_b1 suf23 i_21 need_22 = some j23∧f 0 = v0∧f 2 = I at_∧f 6 = I i_21∧Star H w_ ([oF 4 RP.bool v0 need_22])
 have hst:=hst.get 1 rfl
 refine W_loop I23 (n:=k24) ?_ ?_
 exact ij hI23 ⟨0,k24,need,rfl,Nat.le_refl _,rfl,hL23,rfl,rfl,rfl,(Star.keepN 1 hst)⟩
 intro n23 f w_ hI
 obtain ⟨i_21,suf23,need_22,rfl,hs23,hl23,hL23,sf0,sf2,sf6,hst⟩:=ik hI23 hI
 refine W_seq (sq (mF sf6 rfl (mF sf2 rfl (L_lss rfl rfl rfl (nn (W_cond (b:=decide ((i_21 : Int) < at_)) rfl (fun hc25=>?_) (fun hc25=>?_)))))))
 have hlt23:=of_decide_eq_true hc25
 rcases suf23 with _ | rest23
 exact absurd hlt23 (cntF_no hl23 hk24)
 obtain ⟨o23,hB23,hL23⟩:=count_succ hL23
 rw [s_l4Needs_b1] at hB23
 refine W_skip (W_seq (W_block ?_))
 obtain ⟨x26,hx26,hB23⟩:=bind_some hB23
 refine W_region (mF sf0 rfl (mF sf6 rfl ?_))
 obtain ⟨g30,cap_g30,hv31,_,_⟩:=Star.row 0 hst rfl hx26
 refine L_ixO (R:=(OR.frz RP.bool)) (tb:=0) 0 rfl Try.underlying49 Try.sizeOf4 rfl hv31 (by first | rfl | simp) rfl hx26 ?_
 have hst:=Star.addF (r:=RP.bool) (cs:=[Bo true]) (x:=true) hst rfl
 refine L_stE1 (u:=Bo true) rfl Try.sizeOf4 rfl rfl rfl hv31 hst hx26 (fun w32 hst=>nn (W_region (mF sf6 rfl (L_add rfl rfl rfl (aI rfl (nn ?_))))))
 obtain rfl:=so hB23
 show ∃ m,m < _∧I23 m _ _
 refine ⟨rest23,Nat.lt_succ_self _,?_⟩
 exact ij hI23 ⟨i_21 + 1,rest23,(need_22.set (Int.toNat (i_21 : Int)) true),rfl,by omega,by omega,hL23,sf0,sf2,(Eq.trans rfl (congrArg (Value.int .i64) (i64_succ (n:=0 + k24) (by omega) (cntF_le hk24)))),hst⟩
 rcases suf23 with _ | _
 obtain rfl:=count_zero hL23
 refine W_exit (rj hR23 ⟨need_22,rfl,hst⟩)
 exact absurd (cntF_yes hs23 hl23 hk24) (of_decide_eq_false hc25)
 intro f w_ hR
 obtain ⟨need_22,rfl,hst⟩:=rk hR23 hR
 obtain rfl:=so hA19
 exact rj hR19 hst
 have hA19:=(ite_f hc20).symm.trans hA19
 refine W_seq (sq (L_eql rfl rfl rfl (aB rfl (nn ?_))))
 obtain ⟨t29_33,hA34,hA19⟩:=bind_some hA19
 obtain ⟨R34,hR34⟩:=exR fun f w_=>f 0 = v0∧f 4 = Pt g3∧f 29 = Bo t29_33∧Star H w_ ([oF 4 RP.bool v0 need,box g3 63 #[I s.kind,I s.a,I s.b,v1_3,I s.given.bound]])
 refine W_join R34 ?_ ?_
 refine W_cond (b:=(s.kind == 2)) rfl (fun hc35=>?_) (fun hc35=>?_)
 have hA34:=(ite_t hc35).symm.trans hA34
 refine W_skip ?_
 obtain rfl:=so hA34
 have hst:=hst.get 1 rfl
 exact rj hR34 ⟨rfl,rfl,rfl,hst⟩
 have hA34:=(ite_f hc35).symm.trans hA34
 refine sq (L_eql rfl rfl rfl (aB rfl (nn ?_)))
 obtain ⟨t29_36,hA37,hA34⟩:=bind_some hA34
 obtain ⟨R37,hR37⟩:=exR fun f w_=>f 0 = v0∧f 4 = Pt g3∧f 29 = Bo t29_36∧Star H w_ ([oF 4 RP.bool v0 need,box g3 63 #[I s.kind,I s.a,I s.b,v1_3,I s.given.bound]])
 refine W_join R37 ?_ ?_
 refine W_cond (b:=(s.kind == 3)) rfl (fun hc38=>?_) (fun hc38=>?_)
 have hA37:=(ite_t hc38).symm.trans hA37
 refine W_skip ?_
 obtain rfl:=so hA37
 have hst:=hst.get 1 rfl
 exact rj hR37 ⟨rfl,rfl,rfl,hst⟩
 have hA37:=(ite_f hc38).symm.trans hA37
 refine sq (L_eql rfl rfl rfl (aB rfl (nn ?_)))
 obtain ⟨t29_39,hA40,hA37⟩:=bind_some hA37
 obtain ⟨R40,hR40⟩:=exR fun f w_=>f 0 = v0∧f 4 = Pt g3∧f 29 = Bo t29_39∧Star H w_ ([oF 4 RP.bool v0 need,box g3 63 #[I s.kind,I s.a,I s.b,v1_3,I s.given.bound]])
 refine W_join R40 ?_ ?_
 refine W_cond (b:=(s.kind == 4)) rfl (fun hc41=>?_) (fun hc41=>?_)
 have hA40:=(ite_t hc41).symm.trans hA40
 refine W_skip ?_
 obtain rfl:=so hA40
 have hst:=hst.get 1 rfl
 exact rj hR40 ⟨rfl,rfl,rfl,hst⟩
 have hA40:=(ite_f hc41).symm.trans hA40
 refine W_region (L_eql rfl rfl rfl (aB rfl (nn ?_)))
 obtain rfl:=so hA40
 have hst:=hst.get 1 rfl
 exact rj hR40 ⟨rfl,rfl,rfl,hst⟩
 intro f w_ hR
 obtain ⟨sf0,sf4,sf29,hst⟩:=rk hR40 hR
 obtain rfl:=so hA37
 exact rj hR37 ⟨sf0,sf4,sf29,hst⟩
 intro f w_ hR
 obtain ⟨sf0,sf4,sf29,hst⟩:=rk hR37 hR
 obtain rfl:=so hA34
 exact rj hR34 ⟨sf0,sf4,sf29,hst⟩
 intro f w_ hR
 obtain ⟨sf0,sf4,sf29,hst⟩:=rk hR34 hR
 obtain ⟨kp_42,hA43,hA19⟩:=bind_some hA19
 obtain ⟨R43,hR43⟩:=exR fun f w_=>Star H w_ ([oF 4 RP.bool v0 kp_42])
 refine W_join R43 ?_ ?_
 refine W_cond (b:=t29_33) sf29 (fun hc44=>?_) (fun hc44=>?_)
 have hA43:=(ite_t hc44).symm.trans hA43
 obtain ⟨x45,hx45,hA43⟩:=bind_some hA43
 refine W_region (mF sf0 rfl (fA 1 fa_63_1 sf4 rfl (ldB 1 hst Try.isAgg3 rfl rfl rfl ?_)))
 obtain ⟨g49,cap_g49,hv50,_,_⟩:=Star.row 0 hst rfl hx45
 refine L_ixO (R:=(OR.frz RP.bool)) (tb:=0) 0 rfl Try.underlying49 Try.sizeOf4 rfl hv50 (by first | rfl | simp) rfl hx45 ?_
 have hst:=Star.addF (r:=RP.bool) (cs:=[Bo true]) (x:=true) hst rfl
 refine L_stE1 (u:=Bo true) rfl Try.sizeOf4 rfl rfl rfl hv50 hst hx45 (fun w51 hst=>nn ?_)
 obtain rfl:=so hA43
 exact rj hR43 (Star.keepN 1 hst)
 have hA43:=(ite_f hc44).symm.trans hA43
 refine W_skip ?_
 obtain rfl:=so hA43
 exact rj hR43 (Star.keepN 1 hst)
 intro f w_ hR
 rw [hR43] at hR
 have hst:=hR
 clear hR43
 obtain rfl:=so hA19
 exact rj hR19 hst
 intro f w_ hR
 rw [hR19] at hR
 have hst:=hR
 clear hR19
 obtain rfl:=so hA6
 exact rj hR6 hst
 intro f w_ hR
 rw [hR6] at hR
 have hst:=hR
 clear hR6
 refine ret0 Try.results90 ?_
 obtain rfl:=so hF
 exact ⟨rfl,hst⟩
theorem s_TrimProof_c {fu : Nat} {list : List Con} {steps : List Step} {v0 : Value} {v1 : Value} {H : FH} {w : World} (hst : Star H w []) (h0 : (rS 41 (rCon 117)).rel H [v0] list) (h1 : (rS 63 (rStep 117)).rel H [v1] steps) {r : (List Step) × Bool} (hF : s_TrimProof fu list steps = some r) :
 C Try.prog 45 #[v0,v1] w fun v w'=>∃ (u1 : Value),v = .tuple #[u1,Bo r.2]∧Star H w' [oS 63 (oStep 117) u1 r.1]:=by
 unfold s_TrimProof at hF
 refine C_enter Try.func45 rfl Try.ntmps45 rfl (sq (aV S0 rfl (aB rfl (nq (W_seq ?_)))))
 obtain ⟨x6,hx6,hF⟩:=bind_some hF
 refine W_region (mV v0 rfl (mV v1 rfl ?_))
 obtain ⟨H8b,l9,s10,z11,k12⟩:=hst.borrow
 refine L_call rfl Try.call16 (ops2 rfl rfl) (s_CheckRefutation_c (list:=list) (steps:=steps) s10 (RP.mono _ h0 l9) (RP.mono _ h1 l9) hx6) ?_
 rintro _ w13 ⟨rfl,hst⟩
 have hst:=k12 hst c0
 refine L_not_ rfl rfl (nn (W_cond (b:=(!x6)) rfl (fun hc14=>?_) (fun hc14=>?_)))
 have hF:=(ite_t hc14).symm.trans hF
 refine sq (L_bs rfl parts0 (bs_29_0  ) hst (fun g18 w19 hst=>?_))
 have hst:=Star.mkRow (R:=(OR.frz (rStep 117))) [] [] 0 hst rfl rfl rfl (by decide)
 refine aV (Sl g18 0 0) rfl (aB rfl (nn (W_ret (retG2 (v1:=(Sl g18 0 0)) (v2:=Bo false) Try.results45 rfl rfl ?_))))
 obtain rfl:=so hF
 have hst:=Star.recast (R:=(OR.frz (rStep 117))) (R':=(oStep 117)) rfl hst
 exact ⟨(Sl g18 0 0),rfl,hst⟩
 have hF:=(ite_f hc14).symm.trans hF
 refine W_skip (W_seq ?_)
 obtain ⟨x21,hx21,hF⟩:=bind_some hF
 refine W_region (mV v0 rfl (mV v1 rfl (L_call rfl Try.call50 (ops2 rfl rfl) (s_l4Run_c (list:=list) (steps:=steps) hst h0 h1 hx21) ?_)))
 rintro _ w28 ⟨H28,l28,r28_0,r28_1,rfl,hst⟩
 refine mV (.tuple #[.agg #[r28_0,r28_1],I x21.2]) rfl (L_ex (v:=.agg #[r28_0,r28_1]) rfl rfl rfl (L_ex (v:=I x21.2) rfl rfl rfl (L_al (cs:=#[S0,S0]) rfl Try.zeroValue73 rfl hst (fun g31 w32 hst=>L_staB (vs:=#[r28_0,r28_1]) (cs2:=#[r28_0,r28_1]) 0 rfl Try.sizeOf73 rfl rfl rfl (ones_cons (one_len (Star.len 1 hst rfl)) (ones_cons (one_len (Star.len 2 hst rfl)) ones_nil)) hst rfl (by show 0 + 2≤2; decide) rfl (fun w33 hst=>aI rfl (nq ?_))))))
 obtain ⟨x34,hx34,hF⟩:=bind_some hF
 refine W_region (fA 0 fa_73_0 rfl rfl (ldB 0 hst Try.isAgg27 rfl rfl rfl (L_len rfl Try.underlying27 rfl (Star.len 1 hst rfl) (L_mk (R:=(OR.frz RP.bool)) (z0:=false) (zc:=[Bo false]) rfl et_49 (by kernel_rfl) (fun _ _=>⟨rfl,rfl⟩) rfl rfl hx34 hst (fun v38 w39 hst=>aV v38 rfl (nq ?_))))))
 obtain ⟨x48,hx48,hF⟩:=bind_some hF
 obtain ⟨x50,hx50,hF⟩:=bind_some hF
 refine W_region (mV v38 rfl (L_lda (cs:=[r28_0,r28_1]) rfl Try.isAgg73 Try.sizeOf73 rfl (At.sub0 (Blk.at (Star.blkAt 1 hst rfl)) 0 2) rfl ?_))
 obtain ⟨H54b,l55,s56,z57,k58⟩:=hst.borrow
 have hb59 : (rS 41 (rCon 117)).rel H54b [r28_0] x21.1.list:=fz_own 2 z57 rfl
 have hb60 : (rS 4 RP.bool).rel H54b [r28_1] x21.1.gone:=fz_own 3 z57 rfl
 refine L_call rfl Try.call51 (ops1 rfl) (s_l4False_c (d:=x21.1) s56 hb59 hb60 hx48) ?_
 rintro _ w61 ⟨rfl,hst⟩
 have hst:=k58 hst c0
 obtain ⟨g62,cap_g62,hv63,_,_⟩:=Star.row 0 hst rfl hx50
 refine L_ixO (R:=(OR.frz RP.bool)) (tb:=0) 0 rfl Try.underlying49 Try.sizeOf4 rfl hv63 (by first | rfl | simp) rfl hx50 ?_
 have hst:=Star.addF (r:=RP.bool) (cs:=[Bo true]) (x:=true) hst rfl
 refine L_stE1 (u:=Bo true) rfl Try.sizeOf4 rfl rfl rfl hv63 hst hx50 (fun w64 hst=>ns (L_bs rfl parts0 (bs_105_0  ) hst (fun g68 w69 hst=>?_)))
 have hst:=Star.mkRow (R:=(OR.frz RP.int)) [] [] 0 hst rfl rfl rfl (by decide)
 refine aV (Sl g68 0 0) rfl (nq (sq (aI rfl (nn ?_))))
 have hlen74 : List.length steps≤9223372036854775807:=len_le (slice_len (RP.mono _ h1 l28))
 obtain ⟨j74,hL74,hF⟩:=bind_some hF
 obtain ⟨R74,hR74⟩:=exR fun f w_=>∃ from__72 : List Int,∃ v72_from_ : Value,j74 = .nx from__72∧f 0 = v0∧f 1 = v1∧f 6 = Pt g31∧f 8 = v38∧f 9 = v72_from_∧Star H28 w_ ([oF 4 RP.bool v38 (x34.set (Int.toNat x48) true),oF 3 RP.int v72_from_ from__72,oF 41 (rCon 117) r28_0 x21.1.list,oF 4 RP.bool r28_1 x21.1.gone,box g31 73 #[r28_0,r28_1]])
 refine W_join R74 ?_ ?_
 refine W_block ?_
 obtain ⟨I74,hI74⟩:=exI fun n f w_=>∃ i_71 : Nat,∃ suf74 : List Step,∃ from__72 : List Int,∃ v72_from_ : Value,n = suf74.length∧List.drop i_71 steps = suf74∧i_71 + suf74.length = steps.length∧rangeL s_TrimProof_b1 suf74 i_71 from__72 = some j74∧f 0 = v0∧f 1 = v1∧f 6 = Pt g31∧f 8 = v38∧f 9 = v72_from_∧f 10 = I i_71∧Star H28 w_ ([oF 4 RP.bool v38 (x34.set (Int.toNat x48) true),oF 3 RP.int v72_from_ from__72,oF 41 (rCon 117) r28_0 x21.1.list,oF 4 RP.bool r28_1 x21.1.gone,box g31 73 #[r28_0,r28_1]])
 have hst:=hst.gets [2,4,4,3,4] rfl
 refine W_loop I74 (n:=steps.length) ?_ ?_
 exact ij hI74 ⟨0,steps,[],(Sl g68 0 0),rfl,rfl,Nat.zero_add _,hL74,rfl,rfl,rfl,rfl,rfl,rfl,hst⟩
 intro n74 f w_ hI
 obtain ⟨i_71,suf74,from__72,v72_from_,rfl,hd74,hl74,hL74,sf0,sf1,sf6,sf8,sf9,sf10,hst⟩:=ik hI74 hI
 refine W_seq (sq (mF sf10 rfl (mF sf1 rfl (L_len rfl Try.underlying29 rfl (slice_len (RP.mono _ h1 l28)) (L_lss rfl rfl rfl (nn (W_cond (b:=decide ((i_71 : Int) < (steps.length : Int))) rfl (fun hc75=>?_) (fun hc75=>?_))))))))
 have hlt74:=of_decide_eq_true hc75
 rcases suf74 with _ | ⟨x_74,rest74⟩
 exact absurd hlt74 (by simp at hl74; omega)
 obtain ⟨o74,hB74,hL74⟩:=range_cons hL74
 rw [s_TrimProof_b1] at hB74
 have hix74:=drop_idx hd74
 refine W_skip (W_seq (W_block (sq (mF sf1 rfl (mF sf10 rfl (L_ix (r:=(rStep 117)) rfl Try.underlying29 Try.sizeOf63 rfl (RP.mono _ h1 l28) rfl hix74 (fun g80 o81 cs_g80 hrk_hat82 hat82=>?_)))))))
 obtain ⟨u83_0,rfl,hu83_0⟩:=rStep_iff.1 hrk_hat82
 refine fA o81 fa_63_0 rfl rfl (L_ld rfl Try.isAgg3 rfl (At.cell (AtH.at hat82 hst.sub) (j:=0) rfl) (L_neq rfl rfl rfl (nn ?_)))
 obtain ⟨from__84,hA86,hB74⟩:=bind_some hB74
 obtain ⟨R86,hR86⟩:=exR fun f w_=>∃ v84_from_ : Value,f 0 = v0∧f 1 = v1∧f 6 = Pt g31∧f 8 = v38∧f 9 = v84_from_∧f 10 = I i_71∧Star H28 w_ ([oF 4 RP.bool v38 (x34.set (Int.toNat x48) true),oF 3 RP.int v84_from_ from__84,oF 41 (rCon 117) r28_0 x21.1.list,oF 4 RP.bool r28_1 x21.1.gone,box g31 73 #[r28_0,r28_1]])
 refine W_join R86 ?_ ?_
 refine W_cond (b:=(x_74.kind != 8)) rfl (fun hc87=>?_) (fun hc87=>?_)
 have hA86:=(ite_t hc87).symm.trans hA86
 obtain ⟨x91,hx91,hA86⟩:=bind_some hA86
 refine W_region (mF sf9 rfl (mF sf10 rfl (L_bs rfl (parts1 rfl) (bs_105_1_0 (I i_71) rfl) hst (fun g95 w96 hst=>?_))))
 have hst:=Star.addF (r:=RP.int) (cs:=[I i_71]) (x:=(i_71 : Int)) hst rfl
 have hst:=Star.mkRow (R:=(OR.frz RP.int)) [([I i_71],(i_71 : Int))] [(i_71 : Int)] 1 hst rfl rfl rfl (by decide)
 have hst:=hst.get 2 rfl
 refine L_appM (v:=v72_from_) (u:=(Sl g95 1 1)) rfl et_105 rfl rfl hst hx91 (fun v98 w99 hst=>aV v98 rfl (nn ?_))
 obtain rfl:=so hA86
 have hst:=hst.gets [4,4,4,3,4] rfl
 exact rj hR86 ⟨v98,sf0,sf1,sf6,sf8,rfl,sf10,hst⟩
 have hA86:=(ite_f hc87).symm.trans hA86
 refine W_skip ?_
 obtain rfl:=so hA86
 exact rj hR86 ⟨v72_from_,sf0,sf1,sf6,sf8,sf9,sf10,hst⟩
 intro f w_ hR
 obtain ⟨v84_from_,sf0,sf1,sf6,sf8,sf9,sf10,hst⟩:=rk hR86 hR
 refine W_region (mF sf10 rfl (L_add rfl rfl rfl (aI rfl (nn ?_))))
 obtain rfl:=so hB74
 show ∃ m,m < _∧I74 m _ _
 refine ⟨rest74.length,by simp,?_⟩
 exact ij hI74 ⟨i_71 + 1,rest74,from__84,v84_from_,rfl,drop_next hd74,by simp at hl74; omega,hL74,sf0,sf1,sf6,sf8,sf9,(Eq.trans rfl (congrArg (Value.int .i64) (i64_succ (n:=steps.length) (by simp at hl74; omega) hlen74))),hst⟩
 rcases suf74 with _ | ⟨_,_⟩
 obtain rfl:=range_nil hL74
 refine W_exit (rj hR74 ⟨from__72,v72_from_,rfl,sf0,sf1,sf6,sf8,sf9,hst⟩)
 exact absurd (of_decide_eq_false hc75) (by simp at hl74; omega)
 intro f w_ hR
 obtain ⟨from__72,v72_from_,rfl,sf0,sf1,sf6,sf8,sf9,hst⟩:=rk hR74 hR
 refine sq (mF sf0 rfl (L_len rfl Try.underlying27 rfl (slice_len (RP.mono _ h0 l28)) (aI rfl (nq (sq (fA 0 fa_73_0 sf6 rfl (ldB 4 hst Try.isAgg27 rfl rfl rfl (L_len rfl Try.underlying27 rfl (Star.len 2 hst rfl) (L_sub rfl rfl rfl (aI rfl (nn ?_)))))))))))
 obtain ⟨j104,hL104,hF⟩:=bind_some hF
 obtain ⟨R104,hR104⟩:=exR fun f w_=>∃ need_102 : List Bool,∃ k_103 : Int,j104 = .nx (need_102,k_103)∧f 1 = v1∧f 6 = Pt g31∧f 8 = v38∧f 9 = v72_from_∧f 11 = I (list.length : Int)∧Star H28 w_ ([oF 4 RP.bool v38 need_102,oF 3 RP.int v72_from_ from__72,oF 41 (rCon 117) r28_0 x21.1.list,oF 4 RP.bool r28_1 x21.1.gone,box g31 73 #[r28_0,r28_1]])
 refine W_join R104 ?_ ?_
 refine W_block ?_
 obtain ⟨I104,hI104⟩:=exI fun n f w_=>∃ need_102 : List Bool,∃ k_103 : Int,whileL (s_TrimProof_b2 list steps from__72) n (need_102,k_103) = some j104∧f 1 = v1∧f 6 = Pt g31∧f 8 = v38∧f 9 = v72_from_∧f 11 = I (list.length : Int)∧f 12 = I k_103∧Star H28 w_ ([oF 4 RP.bool v38 need_102,oF 3 RP.int v72_from_ from__72,oF 41 (rCon 117) r28_0 x21.1.list,oF 4 RP.bool r28_1 x21.1.gone,box g31 73 #[r28_0,r28_1]])
 refine W_loop I104 (n:=fu) ?_ ?_
 exact ij hI104 ⟨(x34.set (Int.toNat x48) true),i64 ((x21.1.list.length : Int) - 1),hL104,sf1,sf6,sf8,sf9,rfl,rfl,hst⟩
 intro n104 f w_ hI
 obtain ⟨need_102,k_103,hL104,sf1,sf6,sf8,sf9,sf11,sf12,hst⟩:=ik hI104 hI
 rcases n104 with _ | n104
 exact (while_zero hL104).elim
 obtain ⟨o104,hB104,hL104⟩:=while_succ hL104
 rw [s_TrimProof_b2] at hB104
 refine W_seq (sq (mF sf12 rfl (mF sf11 rfl (L_geq rfl rfl rfl (nn (W_cond (b:=decide (k_103 ≥ (list.length : Int))) rfl (fun hc105=>?_) (fun hc105=>?_)))))))
 have hB104:=(ite_t hc105).symm.trans hB104
 refine W_skip (W_seq (W_block (W_seq ?_)))
 obtain ⟨x106,hx106,hB104⟩:=bind_some hB104
 refine W_region (mF sf8 rfl (mF sf12 rfl ?_))
 obtain ⟨g111,cap_g111,hv112,_,_⟩:=Star.row 0 hst rfl hx106
 refine L_ixO (R:=(OR.frz RP.bool)) (tb:=0) 0 rfl Try.underlying49 Try.sizeOf4 rfl hv112 (by first | rfl | simp) rfl hx106 ?_
 obtain ⟨cs113,hr113,hat113⟩:=Star.eltF 0 hst rfl hv112 hx106
 obtain rfl : _ = [_]:=hr113
 refine L_ld rfl Try.isAgg4 rfl (At.cell hat113 (j:=0) rfl) (nn ?_)
 obtain ⟨need_115,hA116,hB104⟩:=bind_some hB104
 obtain ⟨R116,hR116⟩:=exR fun f w_=>f 1 = v1∧f 6 = Pt g31∧f 8 = v38∧f 9 = v72_from_∧f 11 = I (list.length : Int)∧f 12 = I k_103∧Star H28 w_ ([oF 4 RP.bool v38 need_115,oF 3 RP.int v72_from_ from__72,oF 41 (rCon 117) r28_0 x21.1.list,oF 4 RP.bool r28_1 x21.1.gone,box g31 73 #[r28_0,r28_1]])
 refine W_join R116 ?_ ?_
 refine W_cond (b:=x106) rfl (fun hc117=>?_) (fun hc117=>?_)
 have hA116:=(ite_t hc117).symm.trans hA116
 obtain ⟨x118,hx118,hA116⟩:=bind_some hA116
 obtain ⟨x123,hx123,hA116⟩:=bind_some hA116
 obtain ⟨x133,hx133,hA116⟩:=bind_some hA116
 refine W_region (mF sf8 rfl (mF sf1 rfl (mF sf9 rfl (mF sf12 rfl (mF sf11 rfl (L_sub rfl rfl rfl ?_))))))
 obtain ⟨g135,cap_g135,hv136,_,_⟩:=Star.row 1 hst rfl hx118
 refine L_ixO (R:=(OR.frz RP.int)) (tb:=0) 0 rfl Try.underlying105 Try.sizeOf3 rfl hv136 (by first | rfl | simp) rfl hx118 ?_
 obtain ⟨cs137,hr137,hat137⟩:=Star.eltF 1 hst rfl hv136 hx118
 obtain rfl : _ = [_]:=hr137
 refine L_ld rfl Try.isAgg3 rfl (At.cell hat137 (j:=0) rfl) (L_ix (r:=(rStep 117)) rfl Try.underlying29 Try.sizeOf63 rfl (RP.mono _ h1 l28) rfl hx123 (fun g139 o140 cs_g139 hrk_hat141 hat141=>?_))
 obtain ⟨u142_0,rfl,hu142_0⟩:=rStep_iff.1 hrk_hat141
 refine L_lda (cs:=[I x123.kind,I x123.a,I x123.b,u142_0,I x123.given.bound]) rfl Try.isAgg63 Try.sizeOf63 rfl (At.sub (AtH.at hat141 hst.sub) 0 5) rfl (mF sf12 rfl ?_)
 obtain ⟨H143b,l144,s145,z146,k147⟩:=hst.lend [_]
 refine L_call rfl Try.call90 (ops3 rfl rfl rfl) (s_l4Needs_c (need:=need_102) (s:=x123) (at_:=k_103) s145 (RP.mono _ hu142_0 l144) hx133) ?_
 rintro _ w148 ⟨rfl,hst⟩
 have hst:=k147 hst (co closed_bool c0)
 refine nn ?_
 obtain rfl:=so hA116
 exact rj hR116 ⟨sf1,sf6,sf8,sf9,sf11,sf12,hst⟩
 have hA116:=(ite_f hc117).symm.trans hA116
 refine W_skip ?_
 obtain rfl:=so hA116
 exact rj hR116 ⟨sf1,sf6,sf8,sf9,sf11,sf12,hst⟩
 intro f w_ hR
 obtain ⟨sf1,sf6,sf8,sf9,sf11,sf12,hst⟩:=rk hR116 hR
 refine W_region (mF sf12 rfl (L_sub rfl rfl rfl (aI rfl (nn ?_))))
 obtain rfl:=so hB104
 show ∃ m,m < _∧I104 m _ _
 refine ⟨n104,Nat.lt_succ_self _,?_⟩
 exact ij hI104 ⟨need_115,i64 (k_103 - 1),hL104,sf1,sf6,sf8,sf9,sf11,rfl,hst⟩
 have hB104:=(ite_f hc105).symm.trans hB104
 refine W_exit ?_
 obtain rfl:=so hB104
 obtain rfl:=so hL104
 exact rj hR104 ⟨need_102,k_103,rfl,sf1,sf6,sf8,sf9,sf11,hst⟩
 intro f w_ hR
 obtain ⟨need_102,k_103,rfl,sf1,sf6,sf8,sf9,sf11,hst⟩:=rk hR104 hR
 refine sq (L_bs rfl parts0 (bs_105_0  ) hst (fun g152 w153 hst=>?_))
 have hst:=Star.mkRow (R:=(OR.frz RP.int)) [] [] 0 hst rfl rfl rfl (by decide)
 refine aV (Sl g152 0 0) rfl (ns (aI rfl (nq (sq (aI rfl (nn ?_))))))
 have hlen159 : List.length x21.1.list≤9223372036854775807:=len_le (Star.len 3 hst rfl)
 obtain ⟨j159,hL159,hF⟩:=bind_some hF
 obtain ⟨R159,hR159⟩:=exR fun f w_=>∃ at__156 : List Int,∃ next_158 : Int,∃ v156_at_ : Value,j159 = .nx (at__156,next_158)∧f 1 = v1∧f 6 = Pt g31∧f 8 = v38∧f 9 = v72_from_∧f 11 = I (list.length : Int)∧f 13 = v156_at_∧Star H28 w_ ([oF 4 RP.bool v38 need_102,oF 3 RP.int v72_from_ from__72,oF 3 RP.int v156_at_ at__156,oF 41 (rCon 117) r28_0 x21.1.list,oF 4 RP.bool r28_1 x21.1.gone,box g31 73 #[r28_0,r28_1]])
 refine W_join R159 ?_ ?_
 refine W_block ?_
 obtain ⟨I159,hI159⟩:=exI fun n f w_=>∃ i_155 : Nat,∃ suf159 : List Con,∃ at__156 : List Int,∃ next_158 : Int,∃ v156_at_ : Value,n = suf159.length∧List.drop i_155 x21.1.list = suf159∧i_155 + suf159.length = x21.1.list.length∧rangeL (s_TrimProof_b3 list need_102) suf159 i_155 (at__156,next_158) = some j159∧f 1 = v1∧f 6 = Pt g31∧f 8 = v38∧f 9 = v72_from_∧f 11 = I (list.length : Int)∧f 13 = v156_at_∧f 14 = I next_158∧f 15 = I i_155∧Star H28 w_ ([oF 4 RP.bool v38 need_102,oF 3 RP.int v72_from_ from__72,oF 3 RP.int v156_at_ at__156,oF 41 (rCon 117) r28_0 x21.1.list,oF 4 RP.bool r28_1 x21.1.gone,box g31 73 #[r28_0,r28_1]])
 have hst:=hst.gets [5,5,5,3,5,5] rfl
 refine W_loop I159 (n:=x21.1.list.length) ?_ ?_
 exact ij hI159 ⟨0,x21.1.list,[],0,(Sl g152 0 0),rfl,rfl,Nat.zero_add _,hL159,sf1,sf6,sf8,sf9,sf11,rfl,rfl,rfl,hst⟩
 intro n159 f w_ hI
 obtain ⟨i_155,suf159,at__156,next_158,v156_at_,rfl,hd159,hl159,hL159,sf1,sf6,sf8,sf9,sf11,sf13,sf14,sf15,hst⟩:=ik hI159 hI
 refine W_seq (sq (mF sf15 rfl (fA 0 fa_73_0 sf6 rfl (ldB 5 hst Try.isAgg27 rfl rfl rfl (L_len rfl Try.underlying27 rfl (Star.len 3 hst rfl) (L_lss rfl rfl rfl (nn (W_cond (b:=decide ((i_155 : Int) < (x21.1.list.length : Int))) rfl (fun hc160=>?_) (fun hc160=>?_)))))))))
 have hlt159:=of_decide_eq_true hc160
 rcases suf159 with _ | ⟨x_159,rest159⟩
 exact absurd hlt159 (by simp at hl159; omega)
 obtain ⟨o159,hB159,hL159⟩:=range_cons hL159
 rw [s_TrimProof_b3] at hB159
 have hix159:=drop_idx hd159
 refine W_skip (W_seq (W_block (W_seq ?_)))
 obtain ⟨x164,hx164,hB159⟩:=bind_some hB159
 refine W_region (mF sf13 rfl (mF sf14 rfl (L_bs rfl (parts1 rfl) (bs_105_1_0 (I next_158) rfl) hst (fun g168 w169 hst=>?_))))
 have hst:=Star.addF (r:=RP.int) (cs:=[I next_158]) (x:=next_158) hst rfl
 have hst:=Star.mkRow (R:=(OR.frz RP.int)) [([I next_158],next_158)] [next_158] 1 hst rfl rfl rfl (by decide)
 have hst:=hst.get 3 rfl
 refine L_appM (v:=v156_at_) (u:=(Sl g168 1 1)) rfl et_105 rfl rfl hst hx164 (fun v171 w172 hst=>aV v171 rfl (nq ?_))
 obtain ⟨b179,hb179,hB159⟩:=bind_some hB159
 obtain ⟨R180,hR180⟩:=exR fun f w_=>f 1 = v1∧f 6 = Pt g31∧f 8 = v38∧f 9 = v72_from_∧f 11 = I (list.length : Int)∧f 13 = v171∧f 14 = I next_158∧f 15 = I i_155∧f 102 = Bo b179∧Star H28 w_ ([oF 4 RP.bool v38 need_102,oF 3 RP.int v72_from_ from__72,oF 3 RP.int v171 x164,oF 41 (rCon 117) r28_0 x21.1.list,oF 4 RP.bool r28_1 x21.1.gone,box g31 73 #[r28_0,r28_1]])
 refine W_join R180 ?_ ?_
 refine W_region (mF sf15 rfl (mF sf11 rfl (L_lss rfl rfl rfl (mB rfl (L_split (d:=97) (b:=decide ((i_155 : Int) < (list.length : Int))) rfl (fun hc181=>?_) (fun hc181=>?_))))))
 rw [ite_t hc181] at hb179
 refine ps rfl (ps rfl (ps rfl (ps rfl (L_pick (v:=Bo b179) rfl rfl (congrArg Value.bool (so hb179)) (nn ?_)))))
 have hst:=hst.gets [5,5,5,3,5,5] rfl
 exact rj hR180 ⟨sf1,sf6,sf8,sf9,sf11,rfl,sf14,sf15,rfl,hst⟩
 rw [ite_f hc181] at hb179
 obtain ⟨x174,hx174,hb179⟩:=bind_some hb179
 refine mF sf8 rfl (mF sf15 rfl ?_)
 obtain ⟨g182,cap_g182,hv183,_,_⟩:=Star.row 1 hst rfl hx174
 refine L_ixO (R:=(OR.frz RP.bool)) (tb:=0) 0 rfl Try.underlying49 Try.sizeOf4 rfl hv183 (by first | rfl | simp) rfl hx174 ?_
 obtain ⟨cs184,hr184,hat184⟩:=Star.eltF 1 hst rfl hv183 hx174
 obtain rfl : _ = [_]:=hr184
 refine L_ld rfl Try.isAgg4 rfl (At.cell hat184 (j:=0) rfl) (L_pick (v:=Bo b179) rfl rfl (congrArg Value.bool (so hb179)) (nn ?_))
 have hst:=hst.gets [5,5,5,3,5,5] rfl
 exact rj hR180 ⟨sf1,sf6,sf8,sf9,sf11,rfl,sf14,sf15,rfl,hst⟩
 intro f w_ hR
 obtain ⟨sf1,sf6,sf8,sf9,sf11,sf13,sf14,sf15,sf102,hst⟩:=rk hR180 hR
 obtain ⟨next_186,hA187,hB159⟩:=bind_some hB159
 obtain ⟨R187,hR187⟩:=exR fun f w_=>f 1 = v1∧f 6 = Pt g31∧f 8 = v38∧f 9 = v72_from_∧f 11 = I (list.length : Int)∧f 13 = v171∧f 14 = I next_186∧f 15 = I i_155∧Star H28 w_ ([oF 4 RP.bool v38 need_102,oF 3 RP.int v72_from_ from__72,oF 3 RP.int v171 x164,oF 41 (rCon 117) r28_0 x21.1.list,oF 4 RP.bool r28_1 x21.1.gone,box g31 73 #[r28_0,r28_1]])
 refine W_join R187 ?_ ?_
 refine W_cond (b:=b179) sf102 (fun hc188=>?_) (fun hc188=>?_)
 have hA187:=(ite_t hc188).symm.trans hA187
 refine W_region (mF sf14 rfl (L_add rfl rfl rfl (aI rfl (nn ?_))))
 obtain rfl:=so hA187
 exact rj hR187 ⟨sf1,sf6,sf8,sf9,sf11,sf13,rfl,sf15,hst⟩
 have hA187:=(ite_f hc188).symm.trans hA187
 refine W_skip ?_
 obtain rfl:=so hA187
 exact rj hR187 ⟨sf1,sf6,sf8,sf9,sf11,sf13,sf14,sf15,hst⟩
 intro f w_ hR
 obtain ⟨sf1,sf6,sf8,sf9,sf11,sf13,sf14,sf15,hst⟩:=rk hR187 hR
 refine W_region (mF sf15 rfl (L_add rfl rfl rfl (aI rfl (nn ?_))))
 obtain rfl:=so hB159
 show ∃ m,m < _∧I159 m _ _
 refine ⟨rest159.length,by simp,?_⟩
 exact ij hI159 ⟨i_155 + 1,rest159,x164,next_186,v171,rfl,drop_next hd159,by simp at hl159; omega,hL159,sf1,sf6,sf8,sf9,sf11,sf13,sf14,(Eq.trans rfl (congrArg (Value.int .i64) (i64_succ (n:=x21.1.list.length) (by simp at hl159; omega) hlen159))),hst⟩
 rcases suf159 with _ | ⟨_,_⟩
 obtain rfl:=range_nil hL159
 refine W_exit (rj hR159 ⟨at__156,next_158,v156_at_,rfl,sf1,sf6,sf8,sf9,sf11,sf13,hst⟩)
 exact absurd (of_decide_eq_false hc160) (by simp at hl159; omega)
 intro f w_ hR
 obtain ⟨at__156,next_158,v156_at_,rfl,sf1,sf6,sf8,sf9,sf11,sf13,hst⟩:=rk hR159 hR
 refine sq (L_bs rfl parts0 (bs_29_0  ) hst (fun g192 w193 hst=>?_))
 have hst:=Star.mkRow (R:=(OR.frz (rStep 117))) [] [] 0 hst rfl rfl rfl (by decide)
 refine aV (Sl g192 0 0) rfl (nq (sq (mF sf11 rfl (aI rfl (nn ?_)))))
 obtain ⟨j199,hL199,hF⟩:=bind_some hF
 obtain ⟨R199,hR199⟩:=exR fun f w_=>∃ out_196 : List Step,∃ k_198 : Int,∃ v196_out : Value,j199 = .nx (out_196,k_198)∧f 16 = v196_out∧Star H28 w_ ([oS 63 (oStep 117) v196_out out_196])
 refine W_join R199 ?_ ?_
 refine W_block ?_
 obtain ⟨I199,hI199⟩:=exI fun n f w_=>∃ out_196 : List Step,∃ k_198 : Int,∃ v196_out : Value,whileL (s_TrimProof_b4 list steps x21 from__72 need_102 at__156) n (out_196,k_198) = some j199∧f 1 = v1∧f 6 = Pt g31∧f 8 = v38∧f 9 = v72_from_∧f 11 = I (list.length : Int)∧f 13 = v156_at_∧f 16 = v196_out∧f 17 = I k_198∧Star H28 w_ ([oF 4 RP.bool v38 need_102,oF 3 RP.int v72_from_ from__72,oF 3 RP.int v156_at_ at__156,oS 63 (oStep 117) v196_out out_196,oF 41 (rCon 117) r28_0 x21.1.list,oF 4 RP.bool r28_1 x21.1.gone,box g31 73 #[r28_0,r28_1]])
 have hst:=Star.recast (R:=(OR.frz (rStep 117))) (R':=(oStep 117)) rfl hst
 have hst:=hst.gets [6,6,6,3,6,6,6] rfl
 refine W_loop I199 (n:=fu) ?_ ?_
 exact ij hI199 ⟨[],(list.length : Int),(Sl g192 0 0),hL199,sf1,sf6,sf8,sf9,sf11,sf13,rfl,rfl,hst⟩
 intro n199 f w_ hI
 obtain ⟨out_196,k_198,v196_out,hL199,sf1,sf6,sf8,sf9,sf11,sf13,sf16,sf17,hst⟩:=ik hI199 hI
 rcases n199 with _ | n199
 exact (while_zero hL199).elim
 obtain ⟨o199,hB199,hL199⟩:=while_succ hL199
 rw [s_TrimProof_b4] at hB199
 refine W_seq (sq (mF sf17 rfl (fA 0 fa_73_0 sf6 rfl (ldB 6 hst Try.isAgg27 rfl rfl rfl (L_len rfl Try.underlying27 rfl (Star.len 4 hst rfl) (L_lss rfl rfl rfl (nn (W_cond (b:=decide (k_198 < (x21.1.list.length : Int))) rfl (fun hc200=>?_) (fun hc200=>?_)))))))))
 have hB199:=(ite_t hc200).symm.trans hB199
 refine W_skip (W_seq (W_block (W_seq ?_)))
 obtain ⟨x201,hx201,hB199⟩:=bind_some hB199
 refine W_region (mF sf8 rfl (mF sf17 rfl ?_))
 obtain ⟨g206,cap_g206,hv207,_,_⟩:=Star.row 0 hst rfl hx201
 refine L_ixO (R:=(OR.frz RP.bool)) (tb:=0) 0 rfl Try.underlying49 Try.sizeOf4 rfl hv207 (by first | rfl | simp) rfl hx201 ?_
 obtain ⟨cs208,hr208,hat208⟩:=Star.eltF 0 hst rfl hv207 hx201
 obtain rfl : _ = [_]:=hr208
 refine L_ld rfl Try.isAgg4 rfl (At.cell hat208 (j:=0) rfl) (nn ?_)
 obtain ⟨out_210,hA212,hB199⟩:=bind_some hB199
 obtain ⟨R212,hR212⟩:=exR fun f w_=>∃ v210_out : Value,f 1 = v1∧f 6 = Pt g31∧f 8 = v38∧f 9 = v72_from_∧f 11 = I (list.length : Int)∧f 13 = v156_at_∧f 16 = v210_out∧f 17 = I k_198∧Star H28 w_ ([oF 4 RP.bool v38 need_102,oF 3 RP.int v72_from_ from__72,oF 3 RP.int v156_at_ at__156,oS 63 (oStep 117) v210_out out_210,oF 41 (rCon 117) r28_0 x21.1.list,oF 4 RP.bool r28_1 x21.1.gone,box g31 73 #[r28_0,r28_1]])
 refine W_join R212 ?_ ?_
 refine W_cond (b:=x201) rfl (fun hc213=>?_) (fun hc213=>?_)
 have hA212:=(ite_t hc213).symm.trans hA212
 refine W_seq ?_
 obtain ⟨x214,hx214,hA212⟩:=bind_some hA212
 obtain ⟨x219,hx219,hA212⟩:=bind_some hA212
 refine W_region (mF sf1 rfl (mF sf9 rfl (mF sf17 rfl (mF sf11 rfl (L_sub rfl rfl rfl ?_)))))
 obtain ⟨g227,cap_g227,hv228,_,_⟩:=Star.row 1 hst rfl hx214
 refine L_ixO (R:=(OR.frz RP.int)) (tb:=0) 0 rfl Try.underlying105 Try.sizeOf3 rfl hv228 (by first | rfl | simp) rfl hx214 ?_
 obtain ⟨cs229,hr229,hat229⟩:=Star.eltF 1 hst rfl hv228 hx214
 obtain rfl : _ = [_]:=hr229
 refine L_ld rfl Try.isAgg3 rfl (At.cell hat229 (j:=0) rfl) (L_ix (r:=(rStep 117)) rfl Try.underlying29 Try.sizeOf63 rfl (RP.mono _ h1 l28) rfl hx219 (fun g231 o232 cs_g231 hrk_hat233 hat233=>?_))
 obtain ⟨u234_0,rfl,hu234_0⟩:=rStep_iff.1 hrk_hat233
 refine L_lda (cs:=[I x219.kind,I x219.a,I x219.b,u234_0,I x219.given.bound]) rfl Try.isAgg63 Try.sizeOf63 rfl (At.sub (AtH.at hat233 hst.sub) 0 5) rfl (L_al (cs:=#[I 0,I 0,I 0,S0,I 0]) rfl Try.zeroValue63 rfl hst (fun g235 w236 hst=>L_staB (vs:=#[I x219.kind,I x219.a,I x219.b,u234_0,I x219.given.bound]) (cs2:=#[I x219.kind,I x219.a,I x219.b,u234_0,I x219.given.bound]) 0 rfl Try.sizeOf63 rfl rfl rfl (ones_cons rfl (ones_cons rfl (ones_cons rfl (ones_cons (one_len (slice_len hu234_0)) (ones_cons rfl ones_nil))))) hst rfl (by show 0 + 5≤5; decide) rfl (fun w237 hst=>nq (W_seq ?_))))
 obtain ⟨R238,hR238⟩:=exR fun f w_=>f 1 = v1∧f 6 = Pt g31∧f 8 = v38∧f 9 = v72_from_∧f 11 = I (list.length : Int)∧f 13 = v156_at_∧f 16 = v196_out∧f 17 = I k_198∧f 18 = Pt g235∧f 134 = Bo ((x219.kind != 6) && (x219.kind != 7))∧Star H28 w_ ([oF 4 RP.bool v38 need_102,oF 3 RP.int v72_from_ from__72,oF 3 RP.int v156_at_ at__156,oS 63 (oStep 117) v196_out out_196,box g235 63 #[I x219.kind,I x219.a,I x219.b,u234_0,I x219.given.bound],oF 41 (rCon 117) r28_0 x21.1.list,oF 4 RP.bool r28_1 x21.1.gone,box g31 73 #[r28_0,r28_1]])
 refine W_join R238 ?_ ?_
 refine W_region (fA 0 fa_63_0 rfl rfl (ldB 0 hst Try.isAgg3 rfl rfl rfl (L_neq rfl rfl rfl (mB rfl (L_split (d:=130) (b:=(x219.kind != 6)) rfl (fun hc239=>?_) (fun hc239=>?_))))))
 refine fA 0 fa_63_0 rfl rfl (ldB 0 hst Try.isAgg3 rfl rfl rfl (L_neq rfl rfl rfl (L_pick (v:=Bo ((x219.kind != 6) && (x219.kind != 7))) rfl rfl (and_t hc239 rfl) (nn ?_))))
 have hst:=hst.gets [7,7,7,3,7,7,7,7] rfl
 exact rj hR238 ⟨sf1,sf6,sf8,sf9,sf11,sf13,sf16,sf17,rfl,rfl,hst⟩
 refine ps rfl (ps rfl (ps rfl (L_pick (v:=Bo ((x219.kind != 6) && (x219.kind != 7))) rfl rfl (and_f hc239) (nn ?_))))
 have hst:=hst.gets [7,7,7,3,7,7,7,7] rfl
 exact rj hR238 ⟨sf1,sf6,sf8,sf9,sf11,sf13,sf16,sf17,rfl,rfl,hst⟩
 intro f w_ hR
 obtain ⟨sf1,sf6,sf8,sf9,sf11,sf13,sf16,sf17,sf18,sf134,hst⟩:=rk hR238 hR
 obtain ⟨g235_1_240,hA241,hA212⟩:=bind_some hA212
 obtain ⟨R241,hR241⟩:=exR fun f w_=>f 1 = v1∧f 6 = Pt g31∧f 8 = v38∧f 9 = v72_from_∧f 11 = I (list.length : Int)∧f 13 = v156_at_∧f 16 = v196_out∧f 17 = I k_198∧f 18 = Pt g235∧Star H28 w_ ([oF 4 RP.bool v38 need_102,oF 3 RP.int v72_from_ from__72,oF 3 RP.int v156_at_ at__156,oS 63 (oStep 117) v196_out out_196,box g235 63 #[I x219.kind,I g235_1_240,I x219.b,u234_0,I x219.given.bound],oF 41 (rCon 117) r28_0 x21.1.list,oF 4 RP.bool r28_1 x21.1.gone,box g31 73 #[r28_0,r28_1]])
 refine W_join R241 ?_ ?_
 refine W_cond (b:=((x219.kind != 6) && (x219.kind != 7))) sf134 (fun hc242=>?_) (fun hc242=>?_)
 have hA241:=(ite_t hc242).symm.trans hA241
 obtain ⟨x243,hx243,hA241⟩:=bind_some hA241
 refine W_region (mF sf13 rfl (fA 1 fa_63_1 sf18 rfl (ldB 4 hst Try.isAgg3 rfl rfl rfl ?_)))
 obtain ⟨g249,cap_g249,hv250,_,_⟩:=Star.row 2 hst rfl hx243
 refine L_ixO (R:=(OR.frz RP.int)) (tb:=0) 0 rfl Try.underlying105 Try.sizeOf3 rfl hv250 (by first | rfl | simp) rfl hx243 ?_
 obtain ⟨cs251,hr251,hat251⟩:=Star.eltF 2 hst rfl hv250 hx243
 obtain rfl : _ = [_]:=hr251
 refine L_ld rfl Try.isAgg3 rfl (At.cell hat251 (j:=0) rfl) (fA 1 fa_63_1 sf18 rfl (L_stB (v:=I x243) (cs2:=#[I x219.kind,I x243,I x219.b,u234_0,I x219.given.bound]) 4 rfl Try.sizeOf3 rfl rfl rfl hst rfl rfl rfl (fun w253 hst=>nn ?_)))
 obtain rfl:=so hA241
 have hst:=hst.gets [7,7,7,3,7,7,7,7] rfl
 exact rj hR241 ⟨sf1,sf6,sf8,sf9,sf11,sf13,sf16,sf17,sf18,hst⟩
 have hA241:=(ite_f hc242).symm.trans hA241
 refine W_skip ?_
 obtain rfl:=so hA241
 exact rj hR241 ⟨sf1,sf6,sf8,sf9,sf11,sf13,sf16,sf17,sf18,hst⟩
 intro f w_ hR
 obtain ⟨sf1,sf6,sf8,sf9,sf11,sf13,sf16,sf17,sf18,hst⟩:=rk hR241 hR
 refine W_seq (sq (fA 0 fa_63_0 sf18 rfl (ldB 4 hst Try.isAgg3 rfl rfl rfl (L_eql rfl rfl rfl (nn ?_)))))
 obtain ⟨g235_2_254,hA255,hA212⟩:=bind_some hA212
 obtain ⟨R255,hR255⟩:=exR fun f w_=>f 1 = v1∧f 6 = Pt g31∧f 8 = v38∧f 9 = v72_from_∧f 11 = I (list.length : Int)∧f 13 = v156_at_∧f 16 = v196_out∧f 17 = I k_198∧f 18 = Pt g235∧Star H28 w_ ([oF 4 RP.bool v38 need_102,oF 3 RP.int v72_from_ from__72,oF 3 RP.int v156_at_ at__156,oS 63 (oStep 117) v196_out out_196,box g235 63 #[I x219.kind,I g235_1_240,I g235_2_254,u234_0,I x219.given.bound],oF 41 (rCon 117) r28_0 x21.1.list,oF 4 RP.bool r28_1 x21.1.gone,box g31 73 #[r28_0,r28_1]])
 refine W_join R255 ?_ ?_
 refine W_cond (b:=(x219.kind == 1)) rfl (fun hc256=>?_) (fun hc256=>?_)
 have hA255:=(ite_t hc256).symm.trans hA255
 obtain ⟨x257,hx257,hA255⟩:=bind_some hA255
 refine W_region (mF sf13 rfl (fA 2 fa_63_2 sf18 rfl (ldB 4 hst Try.isAgg3 rfl rfl rfl ?_)))
 obtain ⟨g263,cap_g263,hv264,_,_⟩:=Star.row 2 hst rfl hx257
 refine L_ixO (R:=(OR.frz RP.int)) (tb:=0) 0 rfl Try.underlying105 Try.sizeOf3 rfl hv264 (by first | rfl | simp) rfl hx257 ?_
 obtain ⟨cs265,hr265,hat265⟩:=Star.eltF 2 hst rfl hv264 hx257
 obtain rfl : _ = [_]:=hr265
 refine L_ld rfl Try.isAgg3 rfl (At.cell hat265 (j:=0) rfl) (fA 2 fa_63_2 sf18 rfl (L_stB (v:=I x257) (cs2:=#[I x219.kind,I g235_1_240,I x257,u234_0,I x219.given.bound]) 4 rfl Try.sizeOf3 rfl rfl rfl hst rfl rfl rfl (fun w267 hst=>nn ?_)))
 obtain rfl:=so hA255
 have hst:=hst.gets [7,7,7,3,7,7,7,7] rfl
 exact rj hR255 ⟨sf1,sf6,sf8,sf9,sf11,sf13,sf16,sf17,sf18,hst⟩
 have hA255:=(ite_f hc256).symm.trans hA255
 refine W_skip ?_
 obtain rfl:=so hA255
 exact rj hR255 ⟨sf1,sf6,sf8,sf9,sf11,sf13,sf16,sf17,sf18,hst⟩
 intro f w_ hR
 obtain ⟨sf1,sf6,sf8,sf9,sf11,sf13,sf16,sf17,sf18,hst⟩:=rk hR255 hR
 refine W_seq ?_
 obtain ⟨x273,hx273,hA212⟩:=bind_some hA212
 refine W_region (fA 3 fa_63_3 sf18 rfl (L_lda (cs:=[u234_0,I x219.given.bound]) rfl Try.isAgg41 Try.sizeOf41 rfl (At.sub0 (Blk.at (Star.blkAt 4 hst rfl)) 3 2) rfl ?_))
 obtain ⟨H277b,l278,s279,z280,k281⟩:=hst.borrow
 refine L_call rfl Try.call81 (ops1 rfl) (s_l1Copy_c (c:=x219.given) s279 (RP.mono _ hu234_0 l278) hx273) ?_
 rintro _ w282 ⟨r282_0,rfl,hst⟩
 have hst:=k281 hst (co closed_term c0)
 refine fA 3 fa_63_3 sf18 rfl (L_staB (vs:=#[r282_0,I x273.bound]) (cs2:=#[I x219.kind,I g235_1_240,I g235_2_254,r282_0,I x273.bound]) 5 rfl Try.sizeOf41 rfl rfl rfl (ones_cons (one_len (Star.len 0 hst rfl)) (ones_cons rfl ones_nil)) hst rfl (by show 3 + 2≤5; decide) rfl (fun w284 hst=>nn ?_))
 obtain ⟨x288,hx288,hA212⟩:=bind_some hA212
 refine W_region (mF sf16 rfl (L_lda (cs:=[I x219.kind,I g235_1_240,I g235_2_254,r282_0,I x273.bound]) rfl Try.isAgg63 Try.sizeOf63 sf18 (At.sub0 (Blk.at (Star.blkAt 0 hst rfl)) 0 5) rfl (L_bs rfl (parts1 rfl) (bs_29_1_5 (I x219.kind) (I g235_1_240) (I g235_2_254) (r282_0) (I x273.bound) ) hst (fun g292 w293 hst=>?_))))
 have hst:=hst.get 2 rfl
 have hst:=oStep_close (s:=({ kind:=x219.kind,a:=g235_1_240,b:=g235_2_254,given:=x273 } : Step)) hst
 have hst:=Star.mkRow (R:=(oStep 117)) [([I x219.kind,I g235_1_240,I g235_2_254,r282_0,I x273.bound],({ kind:=x219.kind,a:=g235_1_240,b:=g235_2_254,given:=x273 } : Step))] [({ kind:=x219.kind,a:=g235_1_240,b:=g235_2_254,given:=x273 } : Step)] 1 hst rfl rfl rfl (by decide)
 have hst:=hst.get 5 rfl
 refine L_appM (v:=v196_out) (u:=(Sl g292 1 1)) rfl et_29 rfl rfl hst hx288 (fun v295 w296 hst=>aV v295 rfl (nn ?_))
 obtain rfl:=so hA212
 have hst:=hst.gets [7,7,7,3,7,7,7] rfl
 exact rj hR212 ⟨v295,sf1,sf6,sf8,sf9,sf11,sf13,rfl,sf17,(Star.keepN 7 hst)⟩
 have hA212:=(ite_f hc213).symm.trans hA212
 refine W_skip ?_
 obtain rfl:=so hA212
 exact rj hR212 ⟨v196_out,sf1,sf6,sf8,sf9,sf11,sf13,sf16,sf17,hst⟩
 intro f w_ hR
 obtain ⟨v210_out,sf1,sf6,sf8,sf9,sf11,sf13,sf16,sf17,hst⟩:=rk hR212 hR
 refine W_region (mF sf17 rfl (L_add rfl rfl rfl (aI rfl (nn ?_))))
 obtain rfl:=so hB199
 show ∃ m,m < _∧I199 m _ _
 refine ⟨n199,Nat.lt_succ_self _,?_⟩
 exact ij hI199 ⟨out_210,i64 (k_198 + 1),v210_out,hL199,sf1,sf6,sf8,sf9,sf11,sf13,sf16,rfl,hst⟩
 have hB199:=(ite_f hc200).symm.trans hB199
 refine W_exit ?_
 obtain rfl:=so hB199
 obtain rfl:=so hL199
 have hst:=hst.get 3 rfl
 exact rj hR199 ⟨out_196,k_198,v196_out,rfl,sf16,(Star.keepN 1 hst)⟩
 intro f w_ hR
 obtain ⟨out_196,k_198,v196_out,rfl,sf16,hst⟩:=rk hR199 hR
 refine sq (mF sf16 rfl (aV v196_out rfl (aB rfl (nn (W_ret (retG2 (v1:=v196_out) (v2:=Bo true) Try.results45 rfl rfl ?_))))))
 obtain rfl:=so hF
 exact ⟨v196_out,rfl,(Star.down hst l28 (co closed_oStep c0))⟩
theorem slices_EqualFunc_implStep_c {s1 : List Step} {s2 : List Step} {eq : (Step→Step→Option Bool)} {v0 : Value} {v1 : Value} {v2 : Value} {H : FH} {w : World} (hst : Star H w []) (h0 : (rS 63 (rStep 117)).rel H [v0] s1) (h1 : (rS 63 (rStep 117)).rel H [v1] s2) (h2 : Fun2 Try.prog (rStep 117) (rStep 117) true Value.bool eq v2 H) {r : Bool} (hF : slices_EqualFunc_implStep s1 s2 eq = some r) :
 C Try.prog 91 #[v0,v1,v2] w fun v w'=>v = Bo r∧Star H w' []:=by
 unfold slices_EqualFunc_implStep at hF
 obtain ⟨fid_2,caps_2,rfl,hcall_2,hc_2⟩:=h2
 refine C_enter Try.func91 rfl Try.ntmps91 rfl (sq (aB rfl (nq (sq (mV v0 rfl (L_len rfl Try.underlying29 rfl (slice_len h0) (mV v1 rfl (L_len rfl Try.underlying29 rfl (slice_len h1) (L_neq rfl rfl rfl (nn (W_cond (b:=((s1.length : Int) != (s2.length : Int))) rfl (fun hc1=>?_) (fun hc1=>?_))))))))))))
 have hF:=(ite_t hc1).symm.trans hF
 refine sq (aB rfl (nn (W_ret (retG1 (v1:=Bo false) Try.results91 rfl ?_))))
 obtain rfl:=so hF
 exact ⟨rfl,hst⟩
 have hF:=(ite_f hc1).symm.trans hF
 refine W_skip (W_seq (sq (mV v0 rfl (L_len rfl Try.underlying29 rfl (slice_len h0) (mI rfl (nn ?_))))))
 have hlen3 : List.length s1≤9223372036854775807:=len_le (slice_len h0)
 obtain ⟨j3,hL3,hF⟩:=bind_some hF
 obtain ⟨R3,hR3⟩:=exR fun f w_=>j3 = .nx ()∧Star H w_ ([])
 refine W_join R3 ?_ ?_
 refine W_block ?_
 obtain ⟨I3,hI3⟩:=exI fun n f w_=>∃ i_2 : Nat,∃ suf3 : List Step,n = suf3.length∧List.drop i_2 s1 = suf3∧i_2 + suf3.length = s1.length∧rangeL (slices_EqualFunc_implStep_b1 s2 eq) suf3 i_2 () = some j3∧f 1 = v1∧f 2 = .func (.func fid_2) #[] caps_2∧f 15 = v0∧f 16 = I (s1.length : Int)∧f 17 = I i_2∧Star H w_ ([])
 refine W_loop I3 (n:=s1.length) ?_ ?_
 exact ij hI3 ⟨0,s1,rfl,rfl,Nat.zero_add _,hL3,rfl,rfl,rfl,rfl,rfl,hst⟩
 intro n3 f w_ hI
 obtain ⟨i_2,suf3,rfl,hd3,hl3,hL3,sf1,sf2,sf15,sf16,sf17,hst⟩:=ik hI3 hI
 refine sq (L_lss rfl sf17 sf16 (nq (W_cond (b:=decide ((i_2 : Int) < (s1.length : Int))) rfl (fun hc4=>?_) (fun hc4=>?_))))
 have hlt3:=of_decide_eq_true hc4
 rcases suf3 with _ | ⟨x_3,rest3⟩
 exact absurd hlt3 (by simp at hl3; omega)
 obtain ⟨o3,hB3,hL3⟩:=range_cons hL3
 rw [slices_EqualFunc_implStep_b1] at hB3
 have hix3:=drop_idx hd3
 refine W_skip (W_seq (W_block (sq (mF sf17 rfl (L_ix (r:=(rStep 117)) rfl Try.underlying29 Try.sizeOf63 sf15 h0 sf17 hix3 (fun g12 o13 cs_g12 hrk_hat14 hat14=>?_))))))
 obtain ⟨u15_0,rfl,hu15_0⟩:=rStep_iff.1 hrk_hat14
 refine L_lda (cs:=[I x_3.kind,I x_3.a,I x_3.b,u15_0,I x_3.given.bound]) rfl Try.isAgg63 Try.sizeOf63 rfl (At.sub (AtH.at hat14 hst.sub) 0 5) rfl (L_al (cs:=#[I 0,I 0,I 0,S0,I 0]) rfl Try.zeroValue63 rfl hst (fun g16 w17 hst=>aI rfl (L_staB (vs:=#[I x_3.kind,I x_3.a,I x_3.b,u15_0,I x_3.given.bound]) (cs2:=#[I x_3.kind,I x_3.a,I x_3.b,u15_0,I x_3.given.bound]) 0 rfl Try.sizeOf63 rfl rfl rfl (ones_cons rfl (ones_cons rfl (ones_cons rfl (ones_cons (one_len (slice_len hu15_0)) (ones_cons rfl ones_nil))))) hst rfl (by show 0 + 5≤5; decide) rfl (fun w18 hst=>nq ?_))))
 obtain ⟨x19,hx19,hB3⟩:=bind_some hB3
 refine W_region (mF sf1 rfl (mI rfl (L_ix (r:=(rStep 117)) rfl Try.underlying29 Try.sizeOf63 rfl h1 rfl hx19 (fun g27 o28 cs_g27 hrk_hat29 hat29=>?_))))
 obtain ⟨u30_0,rfl,hu30_0⟩:=rStep_iff.1 hrk_hat29
 refine L_lda (cs:=[I x19.kind,I x19.a,I x19.b,u30_0,I x19.given.bound]) rfl Try.isAgg63 Try.sizeOf63 rfl (At.sub (AtH.at hat29 hst.sub) 0 5) rfl (L_al (cs:=#[I 0,I 0,I 0,S0,I 0]) rfl Try.zeroValue63 rfl hst (fun g31 w32 hst=>L_staB (vs:=#[I x19.kind,I x19.a,I x19.b,u30_0,I x19.given.bound]) (cs2:=#[I x19.kind,I x19.a,I x19.b,u30_0,I x19.given.bound]) 0 rfl Try.sizeOf63 rfl rfl rfl (ones_cons rfl (ones_cons rfl (ones_cons rfl (ones_cons (one_len (slice_len hu30_0)) (ones_cons rfl ones_nil))))) hst rfl (by show 0 + 5≤5; decide) rfl (fun w33 hst=>nq ?_)))
 obtain ⟨x34,hx34,hB3⟩:=bind_some hB3
 refine W_region (mF sf2 rfl (L_lda (cs:=[I x_3.kind,I x_3.a,I x_3.b,u15_0,I x_3.given.bound]) rfl Try.isAgg63 Try.sizeOf63 rfl (At.sub0 (Blk.at (Star.blkAt 1 hst rfl)) 0 5) rfl (L_lda (cs:=[I x19.kind,I x19.a,I x19.b,u30_0,I x19.given.bound]) rfl Try.isAgg63 Try.sizeOf63 rfl (At.sub0 (Blk.at (Star.blkAt 0 hst rfl)) 0 5) rfl ?_)))
 obtain ⟨H41b,l42,s43,z44,k45⟩:=hst.borrow
 refine L_callv (args:=#[.agg #[I x_3.kind,I x_3.a,I x_3.b,u15_0,I x_3.given.bound],.agg #[I x19.kind,I x19.a,I x19.b,u30_0,I x19.given.bound]]) rfl hcall_2 rfl (ops2 rfl rfl) (hc_2 _ _ l42 s43 [I x_3.kind,I x_3.a,I x_3.b,u15_0,I x_3.given.bound] [I x19.kind,I x19.a,I x19.b,u30_0,I x19.given.bound] _ _ _ _ (rStep_iff.2 ⟨_,rfl,(RP.mono _ hu15_0 l42)⟩) (rStep_iff.2 ⟨_,rfl,(RP.mono _ hu30_0 l42)⟩) hx34 (args_app rfl)) ?_
 rintro _ w46 ⟨rfl,hst⟩
 have hst:=k45 hst c0
 refine L_not_ rfl rfl (nn (W_cond (b:=(!x34)) rfl (fun hc47=>?_) (fun hc47=>?_)))
 have hB3:=(ite_t hc47).symm.trans hB3
 refine sq (aB rfl (nn (W_ret (retG1 (v1:=Bo false) Try.results91 rfl ?_))))
 obtain rfl:=so hB3
 obtain rfl:=so hL3
 obtain rfl:=so hF
 exact ⟨rfl,(Star.keepN 0 hst)⟩
 have hB3:=(ite_f hc47).symm.trans hB3
 refine W_skip (W_region (L_add rfl sf17 rfl (mI rfl (nn ?_))))
 obtain rfl:=so hB3
 show ∃ m,m < _∧I3 m _ _
 refine ⟨rest3.length,by simp,?_⟩
 exact ij hI3 ⟨i_2 + 1,rest3,rfl,drop_next hd3,by simp at hl3; omega,hL3,sf1,sf2,sf15,sf16,(Eq.trans rfl (congrArg (Value.int .i64) (i64_succ (n:=s1.length) (by simp at hl3; omega) hlen3))),(Star.keepN 0 hst)⟩
 rcases suf3 with _ | ⟨_,_⟩
 obtain rfl:=range_nil hL3
 refine W_exit (rj hR3 ⟨rfl,hst⟩)
 exact absurd (of_decide_eq_false hc4) (by simp at hl3; omega)
 intro f w_ hR
 obtain ⟨rfl,hst⟩:=rk hR3 hR
 refine sq (aB rfl (nn (W_ret (retG1 (v1:=Bo true) Try.results91 rfl ?_))))
 obtain rfl:=so hF
 exact ⟨rfl,hst⟩
theorem i_ProofSame_1_c {s : Step} {t : Step} {v0_3 : Value} {v1_3 : Value} {H : FH} {w : World} (hst : Star H w []) (h0_3 : (rS 117 rTerm).rel H [v0_3] s.given.terms) (h1_3 : (rS 117 rTerm).rel H [v1_3] t.given.terms) {r : Bool} (hF : i_ProofSame_1 s t = some r) :
 C Try.prog 92 #[.agg #[I s.kind,I s.a,I s.b,v0_3,I s.given.bound],.agg #[I t.kind,I t.a,I t.b,v1_3,I t.given.bound]] w fun v w'=>v = Bo r∧Star H w' []:=by
 unfold i_ProofSame_1 at hF
 refine C_enter Try.func92 rfl Try.ntmps92 rfl (sq (L_box (v:=.agg #[I s.kind,I s.a,I s.b,v0_3,I s.given.bound]) (cs:=#[I s.kind,I s.a,I s.b,v0_3,I s.given.bound]) rfl rfl rfl hst (fun g5 w6 hst=>L_box (v:=.agg #[I t.kind,I t.a,I t.b,v1_3,I t.given.bound]) (cs:=#[I t.kind,I t.a,I t.b,v1_3,I t.given.bound]) rfl rfl rfl hst (fun g7 w8 hst=>aB rfl (nq ?_)))))
 obtain ⟨b16,hb16,hF⟩:=bind_some hF
 obtain ⟨R17,hR17⟩:=exR fun f w_=>f 4 = Bo b16∧Star H w_ ([])
 refine W_join R17 ?_ ?_
 refine W_region (fA 0 fa_63_0 rfl rfl (ldB 1 hst Try.isAgg3 rfl rfl rfl (fA 0 fa_63_0 rfl rfl (ldB 0 hst Try.isAgg3 rfl rfl rfl (L_eql rfl rfl rfl (mB rfl (L_split (d:=10) (b:=(s.kind == t.kind)) rfl (fun hc18=>?_) (fun hc18=>?_))))))))
 refine fA 1 fa_63_1 rfl rfl (ldB 1 hst Try.isAgg3 rfl rfl rfl (fA 1 fa_63_1 rfl rfl (ldB 0 hst Try.isAgg3 rfl rfl rfl (L_eql rfl rfl rfl (L_pick (v:=Bo ((s.kind == t.kind) && (s.a == t.a))) rfl rfl (and_t hc18 rfl) (mB rfl (L_split (d:=17) (b:=((s.kind == t.kind) && (s.a == t.a))) rfl (fun hc19=>?_) (fun hc19=>?_))))))))
 refine fA 2 fa_63_2 rfl rfl (ldB 1 hst Try.isAgg3 rfl rfl rfl (fA 2 fa_63_2 rfl rfl (ldB 0 hst Try.isAgg3 rfl rfl rfl (L_eql rfl rfl rfl (L_pick (v:=Bo (((s.kind == t.kind) && (s.a == t.a)) && (s.b == t.b))) rfl rfl (and_t hc19 rfl) (mB rfl (L_split (d:=24) (b:=(((s.kind == t.kind) && (s.a == t.a)) && (s.b == t.b))) rfl (fun hc20=>?_) (fun hc20=>?_))))))))
 rw [ite_t hc20] at hb16
 obtain ⟨x14,hx14,hb16⟩:=bind_some hb16
 refine fA 3 fa_63_3 rfl rfl (L_lda (cs:=[v0_3,I s.given.bound]) rfl Try.isAgg41 Try.sizeOf41 rfl (At.sub0 (Blk.at (Star.blkAt 1 hst rfl)) 3 2) rfl (fA 3 fa_63_3 rfl rfl (L_lda (cs:=[v1_3,I t.given.bound]) rfl Try.isAgg41 Try.sizeOf41 rfl (At.sub0 (Blk.at (Star.blkAt 0 hst rfl)) 3 2) rfl ?_)))
 obtain ⟨H21b,l22,s23,z24,k25⟩:=hst.borrow
 refine L_call rfl Try.call82 (ops2 rfl rfl) (i_ConstraintSame_c (a:=s.given) (b:=t.given) s23 (RP.mono _ h0_3 l22) (RP.mono _ h1_3 l22) hx14) ?_
 rintro _ w26 ⟨rfl,hst⟩
 have hst:=k25 hst c0
 refine L_pick (v:=Bo b16) rfl rfl (congrArg Value.bool (so hb16)) (aB rfl (nn (rj hR17 ⟨rfl,(Star.keepN 0 hst)⟩)))
 rw [ite_f hc20] at hb16
 refine ps rfl (ps rfl (ps rfl (ps rfl (ps rfl (L_pick (v:=Bo b16) rfl rfl (congrArg Value.bool (so hb16)) (aB rfl (nn (rj hR17 ⟨rfl,(Star.keepN 0 hst)⟩))))))))
 refine ps rfl (ps rfl (ps rfl (ps rfl (ps rfl (L_pick (v:=Bo (((s.kind == t.kind) && (s.a == t.a)) && (s.b == t.b))) rfl rfl (and_f hc19) (mB rfl (L_split (d:=24) (b:=(((s.kind == t.kind) && (s.a == t.a)) && (s.b == t.b))) rfl (fun hc27=>?_) (fun hc27=>?_))))))))
 rw [ite_t hc27] at hb16
 obtain ⟨x14,hx14,hb16⟩:=bind_some hb16
 refine fA 3 fa_63_3 rfl rfl (L_lda (cs:=[v0_3,I s.given.bound]) rfl Try.isAgg41 Try.sizeOf41 rfl (At.sub0 (Blk.at (Star.blkAt 1 hst rfl)) 3 2) rfl (fA 3 fa_63_3 rfl rfl (L_lda (cs:=[v1_3,I t.given.bound]) rfl Try.isAgg41 Try.sizeOf41 rfl (At.sub0 (Blk.at (Star.blkAt 0 hst rfl)) 3 2) rfl ?_)))
 obtain ⟨H28b,l29,s30,z31,k32⟩:=hst.borrow
 refine L_call rfl Try.call82 (ops2 rfl rfl) (i_ConstraintSame_c (a:=s.given) (b:=t.given) s30 (RP.mono _ h0_3 l29) (RP.mono _ h1_3 l29) hx14) ?_
 rintro _ w33 ⟨rfl,hst⟩
 have hst:=k32 hst c0
 refine L_pick (v:=Bo b16) rfl rfl (congrArg Value.bool (so hb16)) (aB rfl (nn (rj hR17 ⟨rfl,(Star.keepN 0 hst)⟩)))
 rw [ite_f hc27] at hb16
 refine ps rfl (ps rfl (ps rfl (ps rfl (ps rfl (L_pick (v:=Bo b16) rfl rfl (congrArg Value.bool (so hb16)) (aB rfl (nn (rj hR17 ⟨rfl,(Star.keepN 0 hst)⟩))))))))
 refine ps rfl (ps rfl (ps rfl (ps rfl (ps rfl (L_pick (v:=Bo ((s.kind == t.kind) && (s.a == t.a))) rfl rfl (and_f hc18) (mB rfl (L_split (d:=17) (b:=((s.kind == t.kind) && (s.a == t.a))) rfl (fun hc34=>?_) (fun hc34=>?_))))))))
 refine fA 2 fa_63_2 rfl rfl (ldB 1 hst Try.isAgg3 rfl rfl rfl (fA 2 fa_63_2 rfl rfl (ldB 0 hst Try.isAgg3 rfl rfl rfl (L_eql rfl rfl rfl (L_pick (v:=Bo (((s.kind == t.kind) && (s.a == t.a)) && (s.b == t.b))) rfl rfl (and_t hc34 rfl) (mB rfl (L_split (d:=24) (b:=(((s.kind == t.kind) && (s.a == t.a)) && (s.b == t.b))) rfl (fun hc35=>?_) (fun hc35=>?_))))))))
 rw [ite_t hc35] at hb16
 obtain ⟨x14,hx14,hb16⟩:=bind_some hb16
 refine fA 3 fa_63_3 rfl rfl (L_lda (cs:=[v0_3,I s.given.bound]) rfl Try.isAgg41 Try.sizeOf41 rfl (At.sub0 (Blk.at (Star.blkAt 1 hst rfl)) 3 2) rfl (fA 3 fa_63_3 rfl rfl (L_lda (cs:=[v1_3,I t.given.bound]) rfl Try.isAgg41 Try.sizeOf41 rfl (At.sub0 (Blk.at (Star.blkAt 0 hst rfl)) 3 2) rfl ?_)))
 obtain ⟨H36b,l37,s38,z39,k40⟩:=hst.borrow
 refine L_call rfl Try.call82 (ops2 rfl rfl) (i_ConstraintSame_c (a:=s.given) (b:=t.given) s38 (RP.mono _ h0_3 l37) (RP.mono _ h1_3 l37) hx14) ?_
 rintro _ w41 ⟨rfl,hst⟩
 have hst:=k40 hst c0
 refine L_pick (v:=Bo b16) rfl rfl (congrArg Value.bool (so hb16)) (aB rfl (nn (rj hR17 ⟨rfl,(Star.keepN 0 hst)⟩)))
 rw [ite_f hc35] at hb16
 refine ps rfl (ps rfl (ps rfl (ps rfl (ps rfl (L_pick (v:=Bo b16) rfl rfl (congrArg Value.bool (so hb16)) (aB rfl (nn (rj hR17 ⟨rfl,(Star.keepN 0 hst)⟩))))))))
 refine ps rfl (ps rfl (ps rfl (ps rfl (ps rfl (L_pick (v:=Bo (((s.kind == t.kind) && (s.a == t.a)) && (s.b == t.b))) rfl rfl (and_f hc34) (mB rfl (L_split (d:=24) (b:=(((s.kind == t.kind) && (s.a == t.a)) && (s.b == t.b))) rfl (fun hc42=>?_) (fun hc42=>?_))))))))
 rw [ite_t hc42] at hb16
 obtain ⟨x14,hx14,hb16⟩:=bind_some hb16
 refine fA 3 fa_63_3 rfl rfl (L_lda (cs:=[v0_3,I s.given.bound]) rfl Try.isAgg41 Try.sizeOf41 rfl (At.sub0 (Blk.at (Star.blkAt 1 hst rfl)) 3 2) rfl (fA 3 fa_63_3 rfl rfl (L_lda (cs:=[v1_3,I t.given.bound]) rfl Try.isAgg41 Try.sizeOf41 rfl (At.sub0 (Blk.at (Star.blkAt 0 hst rfl)) 3 2) rfl ?_)))
 obtain ⟨H43b,l44,s45,z46,k47⟩:=hst.borrow
 refine L_call rfl Try.call82 (ops2 rfl rfl) (i_ConstraintSame_c (a:=s.given) (b:=t.given) s45 (RP.mono _ h0_3 l44) (RP.mono _ h1_3 l44) hx14) ?_
 rintro _ w48 ⟨rfl,hst⟩
 have hst:=k47 hst c0
 refine L_pick (v:=Bo b16) rfl rfl (congrArg Value.bool (so hb16)) (aB rfl (nn (rj hR17 ⟨rfl,(Star.keepN 0 hst)⟩)))
 rw [ite_f hc42] at hb16
 refine ps rfl (ps rfl (ps rfl (ps rfl (ps rfl (L_pick (v:=Bo b16) rfl rfl (congrArg Value.bool (so hb16)) (aB rfl (nn (rj hR17 ⟨rfl,(Star.keepN 0 hst)⟩))))))))
 intro f w_ hR
 obtain ⟨sf4,hst⟩:=rk hR17 hR
 refine W_ret (retG1 (v1:=Bo b16) Try.results92 sf4 ?_)
 obtain rfl:=so hF
 exact ⟨rfl,hst⟩
theorem i_ProofSame_c {a : List Step} {b : List Step} {v0 : Value} {v1 : Value} {H : FH} {w : World} (hst : Star H w []) (h0 : (rS 63 (rStep 117)).rel H [v0] a) (h1 : (rS 63 (rStep 117)).rel H [v1] b) {r : Bool} (hF : i_ProofSame a b = some r) :
 C Try.prog 46 #[v0,v1] w fun v w'=>v = Bo r∧Star H w' []:=by
 unfold i_ProofSame at hF
 refine C_enter Try.func46 rfl Try.ntmps46 rfl (sq (aB rfl (nq ?_)))
 obtain ⟨x6,hx6,hF⟩:=bind_some hF
 refine W_region (mV v0 rfl (mV v1 rfl ?_))
 obtain ⟨H8b,l9,s10,z11,k12⟩:=hst.borrow
 have hf13 : Fun2 Try.prog (rStep 117) (rStep 117) true Value.bool i_ProofSame_1 (.func (.func 92) #[] #[]) H8b:=by
   refine ⟨_,_,rfl,Try.call92,fun H_ w_ hE_ hs_ cs1_ cs2_ x1_ x2_ y_ args_ hr1_ hr2_ hy_ ha_=>?_⟩
   obtain ⟨p1_0,rfl,hp1_0⟩:=rStep_iff.1 hr1_
   obtain ⟨p2_0,rfl,hp2_0⟩:=rStep_iff.1 hr2_
   obtain rfl:=args_of (b:=#[.agg #[I x1_.kind,I x1_.a,I x1_.b,p1_0,I x1_.given.bound],.agg #[I x2_.kind,I x2_.a,I x2_.b,p2_0,I x2_.given.bound]]) ha_
   exact i_ProofSame_1_c (s:=x1_) (t:=x2_) hs_ hp1_0 hp2_0 hy_
 refine L_call rfl Try.call91 (ops3 rfl rfl rfl) (slices_EqualFunc_implStep_c (s1:=a) (s2:=b) (eq:=i_ProofSame_1) s10 (RP.mono _ h0 l9) (RP.mono _ h1 l9) hf13 hx6) ?_
 rintro _ w14 ⟨rfl,hst⟩
 have hst:=k12 hst c0
 refine aB rfl (nn (W_ret (retG1 (v1:=Bo x6) Try.results46 rfl ?_)))
 obtain rfl:=so hF
 exact ⟨rfl,hst⟩
theorem l_FnTrimProof_c {fu : Nat} {code : List UInt8} {v0 : Value} {H : FH} {w : World} (hst : Star H w []) (h0 : (rS 5 RP.u8).rel H [v0] code) {r : Bool} (hF : l_FnTrimProof fu code = some r) :
 C Try.prog 12 #[v0] w fun v w'=>v = Bo r∧Star H w' []:=by
 unfold l_FnTrimProof at hF
 refine C_enter Try.func12 rfl Try.ntmps12 rfl (sq (aB rfl (nq (sq (mV v0 rfl (L_len rfl Try.underlying45 rfl (slice_len h0) (L_gtr rfl rfl rfl (nn (W_cond (b:=decide ((code.length : Int) > 1048576)) rfl (fun hc1=>?_) (fun hc1=>?_))))))))))
 have hF:=(ite_t hc1).symm.trans hF
 refine sq (aB rfl (nn (W_ret (retG1 (v1:=Bo true) Try.results12 rfl ?_))))
 obtain rfl:=so hF
 exact ⟨rfl,hst⟩
 have hF:=(ite_f hc1).symm.trans hF
 refine W_skip (W_seq ?_)
 obtain ⟨x2,hx2,hF⟩:=bind_some hF
 refine W_region (mV v0 rfl (L_call rfl Try.call43 (ops1 rfl) (s_DrawTrimProof_c (code:=code) hst h0 hx2) ?_))
 rintro _ w5 ⟨H5,l5,r5_0,r5_1,rfl,hr5_0,hst⟩
 refine mV (.tuple #[r5_0,r5_1]) rfl (L_ex (v:=r5_0) rfl rfl rfl (L_ex (v:=r5_1) rfl rfl rfl (aV r5_0 rfl (aV r5_1 rfl (nq ?_)))))
 obtain ⟨x13,hx13,hF⟩:=bind_some hF
 refine W_region (mV r5_0 rfl (mV r5_1 rfl ?_))
 obtain ⟨H16b,l17,s18,z19,k20⟩:=hst.borrow
 have hb21 : (rS 63 (rStep 117)).rel H16b [r5_1] x2.2:=fz_own 0 z19 rfl
 refine L_call rfl Try.call44 (ops2 rfl rfl) (i_TrimProof_c (list:=x2.1) (steps:=x2.2) s18 (RP.mono _ hr5_0 l17) hb21 hx13) ?_
 rintro _ w22 ⟨r22_0,rfl,hst⟩
 have hst:=k20 hst (co closed_oStep c0)
 refine mV (.tuple #[r22_0,Bo x13.2]) rfl (L_ex (v:=r22_0) rfl rfl rfl (L_ex (v:=Bo x13.2) rfl rfl rfl (aV r22_0 rfl (aB rfl (nq ?_)))))
 obtain ⟨x30,hx30,hF⟩:=bind_some hF
 refine W_region (mV r5_0 rfl (mV r5_1 rfl ?_))
 obtain ⟨H33b,l34,s35,z36,k37⟩:=hst.borrow
 have hb38 : (rS 63 (rStep 117)).rel H33b [r5_1] x2.2:=fz_own 1 z36 rfl
 refine L_call rfl Try.call45 (ops2 rfl rfl) (s_TrimProof_c (list:=x2.1) (steps:=x2.2) s35 (RP.mono _ hr5_0 l34) hb38 hx30) ?_
 rintro _ w39 ⟨r39_0,rfl,hst⟩
 have hst:=k37 hst (co closed_oStep c0)
 refine mV (.tuple #[r39_0,Bo x30.2]) rfl (L_ex (v:=r39_0) rfl rfl rfl (L_ex (v:=Bo x30.2) rfl rfl rfl (aV r39_0 rfl (aB rfl (nq (W_seq ?_))))))
 obtain ⟨b50,hb50,hF⟩:=bind_some hF
 obtain ⟨R51,hR51⟩:=exR fun f w_=>f 3 = r5_0∧f 4 = r5_1∧f 5 = r22_0∧f 6 = Bo x13.2∧f 7 = r39_0∧f 8 = Bo x30.2∧f 44 = Bo (b50 || (!x13.2))∧Star H5 w_ ([oF 63 (rStep 117) r5_1 x2.2,oS 63 (oStep 117) r22_0 x13.1,oS 63 (oStep 117) r39_0 x30.1])
 refine W_join R51 ?_ ?_
 refine W_region (mB rfl (mB rfl (L_bneq (b:=x13.2) (c:=x30.2) rfl Try.underlying4 rfl rfl (mB rfl (L_split (d:=35) (b:=(x13.2 != x30.2)) rfl (fun hc52=>?_) (fun hc52=>?_))))))
 rw [ite_t hc52] at hb50
 refine ps rfl (ps rfl (ps rfl (ps rfl (L_pick (v:=Bo b50) rfl rfl (congrArg Value.bool (so hb50)) (mB rfl (L_split (d:=41) (b:=b50) rfl (fun hc53=>?_) (fun hc53=>?_)))))))
 refine ps rfl (ps rfl (L_pick (v:=Bo (b50 || (!x13.2))) rfl rfl (or_t hc53) (nn ?_)))
 have hst:=hst.gets [1,2] rfl
 exact rj hR51 ⟨rfl,rfl,rfl,rfl,rfl,rfl,rfl,hst⟩
 refine mB rfl (L_not_ rfl rfl (L_pick (v:=Bo (b50 || (!x13.2))) rfl rfl (or_f hc53 rfl) (nn ?_)))
 have hst:=hst.gets [1,2] rfl
 exact rj hR51 ⟨rfl,rfl,rfl,rfl,rfl,rfl,rfl,hst⟩
 rw [ite_f hc52] at hb50
 obtain ⟨x48,hx48,hb50⟩:=bind_some hb50
 refine mV r22_0 rfl (mV r39_0 rfl ?_)
 obtain ⟨H54b,l55,s56,z57,k58⟩:=hst.borrow
 have hb59 : (rS 63 (rStep 117)).rel H54b [r22_0] x13.1:=fz_own 1 z57 rfl
 have hb60 : (rS 63 (rStep 117)).rel H54b [r39_0] x30.1:=fz_own 0 z57 rfl
 refine L_call rfl Try.call46 (ops2 rfl rfl) (i_ProofSame_c (a:=x13.1) (b:=x30.1) s56 hb59 hb60 hx48) ?_
 rintro _ w61 ⟨rfl,hst⟩
 have hst:=k58 hst c0
 refine L_not_ rfl rfl (L_pick (v:=Bo b50) rfl rfl (congrArg Value.bool (so hb50)) (mB rfl (L_split (d:=41) (b:=b50) rfl (fun hc62=>?_) (fun hc62=>?_))))
 refine ps rfl (ps rfl (L_pick (v:=Bo (b50 || (!x13.2))) rfl rfl (or_t hc62) (nn ?_)))
 have hst:=hst.gets [1,2] rfl
 exact rj hR51 ⟨rfl,rfl,rfl,rfl,rfl,rfl,rfl,hst⟩
 refine mB rfl (L_not_ rfl rfl (L_pick (v:=Bo (b50 || (!x13.2))) rfl rfl (or_f hc62 rfl) (nn ?_)))
 have hst:=hst.gets [1,2] rfl
 exact rj hR51 ⟨rfl,rfl,rfl,rfl,rfl,rfl,rfl,hst⟩
 intro f w_ hR
 obtain ⟨sf3,sf4,sf5,sf6,sf7,sf8,sf44,hst⟩:=rk hR51 hR
 refine W_cond (b:=(b50 || (!x13.2))) sf44 (fun hc63=>?_) (fun hc63=>?_)
 have hF:=(ite_t hc63).symm.trans hF
 refine W_seq ?_
 obtain ⟨b73,hb73,hF⟩:=bind_some hF
 obtain ⟨R74,hR74⟩:=exR fun f w_=>f 2 = Bo b73∧Star H5 w_ ([])
 refine W_join R74 ?_ ?_
 refine W_region (mF sf6 rfl (mF sf8 rfl (L_beql (b:=x13.2) (c:=x30.2) rfl Try.underlying4 rfl rfl (mB rfl (L_split (d:=48) (b:=(x13.2 == x30.2)) rfl (fun hc75=>?_) (fun hc75=>?_))))))
 rw [ite_t hc75] at hb73
 obtain ⟨x71,hx71,hb73⟩:=bind_some hb73
 refine mF sf5 rfl (mF sf7 rfl ?_)
 obtain ⟨H76b,l77,s78,z79,k80⟩:=hst.borrow
 have hb81 : (rS 63 (rStep 117)).rel H76b [r22_0] x13.1:=fz_own 1 z79 rfl
 have hb82 : (rS 63 (rStep 117)).rel H76b [r39_0] x30.1:=fz_own 2 z79 rfl
 refine L_call rfl Try.call46 (ops2 rfl rfl) (i_ProofSame_c (a:=x13.1) (b:=x30.1) s78 hb81 hb82 hx71) ?_
 rintro _ w83 ⟨rfl,hst⟩
 have hst:=k80 hst c0
 refine L_pick (v:=Bo b73) rfl rfl (congrArg Value.bool (so hb73)) (aB rfl (nn (rj hR74 ⟨rfl,(Star.keepN 0 hst)⟩)))
 rw [ite_f hc75] at hb73
 refine ps rfl (ps rfl (ps rfl (L_pick (v:=Bo b73) rfl rfl (congrArg Value.bool (so hb73)) (aB rfl (nn (rj hR74 ⟨rfl,(Star.keepN 0 hst)⟩))))))
 intro f w_ hR
 obtain ⟨sf2,hst⟩:=rk hR74 hR
 refine W_ret (retG1 (v1:=Bo b73) Try.results12 sf2 ?_)
 obtain rfl:=so hF
 exact ⟨rfl,(Star.down hst l5 c0)⟩
 have hF:=(ite_f hc63).symm.trans hF
 refine W_skip (W_seq (sq (aI rfl (nn ?_))))
 have hlen85 : List.length x13.1≤9223372036854775807:=len_le (Star.len 1 hst rfl)
 obtain ⟨j85,hL85,hF⟩:=bind_some hF
 obtain ⟨R85,hR85⟩:=exR fun f w_=>j85 = .nx ()∧f 3 = r5_0∧f 4 = r5_1∧f 5 = r22_0∧Star H5 w_ ([oF 63 (rStep 117) r5_1 x2.2,oS 63 (oStep 117) r22_0 x13.1])
 refine W_join R85 ?_ ?_
 refine W_block ?_
 obtain ⟨I85,hI85⟩:=exI fun n f w_=>∃ i_84 : Nat,∃ suf85 : List Step,n = suf85.length∧List.drop i_84 x13.1 = suf85∧i_84 + suf85.length = x13.1.length∧rangeL l_FnTrimProof_b1 suf85 i_84 () = some j85∧f 3 = r5_0∧f 4 = r5_1∧f 5 = r22_0∧f 9 = I i_84∧Star H5 w_ ([oF 63 (rStep 117) r5_1 x2.2,oS 63 (oStep 117) r22_0 x13.1])
 refine W_loop I85 (n:=x13.1.length) ?_ ?_
 exact ij hI85 ⟨0,x13.1,rfl,rfl,Nat.zero_add _,hL85,sf3,sf4,sf5,rfl,(Star.keepN 2 hst)⟩
 intro n85 f w_ hI
 obtain ⟨i_84,suf85,rfl,hd85,hl85,hL85,sf3,sf4,sf5,sf9,hst⟩:=ik hI85 hI
 refine W_seq (sq (mF sf9 rfl (mF sf5 rfl (L_len rfl Try.underlying29 rfl (Star.len 1 hst rfl) (L_lss rfl rfl rfl (nn (W_cond (b:=decide ((i_84 : Int) < (x13.1.length : Int))) rfl (fun hc86=>?_) (fun hc86=>?_))))))))
 have hlt85:=of_decide_eq_true hc86
 rcases suf85 with _ | ⟨x_85,rest85⟩
 exact absurd hlt85 (by simp at hl85; omega)
 obtain ⟨o85,hB85,hL85⟩:=range_cons hL85
 rw [l_FnTrimProof_b1] at hB85
 have hix85:=drop_idx hd85
 refine W_skip (W_seq (W_block (sq (mF sf5 rfl (mF sf9 rfl ?_)))))
 obtain ⟨g90,cap_g90,hv91,_,_⟩:=Star.row 1 hst rfl hix85
 refine L_ixO (R:=(oStep 117)) (tb:=0) 0 rfl Try.underlying29 Try.sizeOf63 rfl hv91 (by first | rfl | simp) rfl hix85 (fA (Int.toNat (i_84 : Int) * 5 + 0) fa_63_0 rfl rfl ?_)
 obtain ⟨G92,cs92,hr92,hat92⟩:=Star.elt 1 hst rfl hv91 hix85
 obtain ⟨_,rfl⟩:=oStep_cells hr92
 refine L_ld rfl Try.isAgg3 rfl (At.cell hat92 (j:=0) rfl) (L_eql rfl rfl rfl (nn (W_cond (b:=(x_85.kind == 8)) rfl (fun hc93=>?_) (fun hc93=>?_))))
 have hB85:=(ite_t hc93).symm.trans hB85
 refine sq (aB rfl (nn (W_ret (retG1 (v1:=Bo false) Try.results12 rfl ?_))))
 obtain rfl:=so hB85
 obtain rfl:=so hL85
 obtain rfl:=so hF
 exact ⟨rfl,(Star.down (Star.keepN 0 hst) l5 c0)⟩
 have hB85:=(ite_f hc93).symm.trans hB85
 refine W_skip (W_region (mF sf9 rfl (L_add rfl rfl rfl (aI rfl (nn ?_)))))
 obtain rfl:=so hB85
 show ∃ m,m < _∧I85 m _ _
 refine ⟨rest85.length,by simp,?_⟩
 exact ij hI85 ⟨i_84 + 1,rest85,rfl,drop_next hd85,by simp at hl85; omega,hL85,sf3,sf4,sf5,(Eq.trans rfl (congrArg (Value.int .i64) (i64_succ (n:=x13.1.length) (by simp at hl85; omega) hlen85))),hst⟩
 rcases suf85 with _ | ⟨_,_⟩
 obtain rfl:=range_nil hL85
 refine W_exit (rj hR85 ⟨rfl,sf3,sf4,sf5,hst⟩)
 exact absurd (of_decide_eq_false hc86) (by simp at hl85; omega)
 intro f w_ hR
 obtain ⟨rfl,sf3,sf4,sf5,hst⟩:=rk hR85 hR
 refine W_seq ?_
 obtain ⟨x100,hx100,hF⟩:=bind_some hF
 refine W_region (mF sf3 rfl (mF sf5 rfl ?_))
 obtain ⟨H103b,l104,s105,z106,k107⟩:=hst.borrow
 have hb108 : (rS 63 (rStep 117)).rel H103b [r22_0] x13.1:=fz_own 1 z106 rfl
 refine L_call rfl Try.call44 (ops2 rfl rfl) (i_TrimProof_c (list:=x2.1) (steps:=x13.1) s105 (RP.mono _ hr5_0 l104) hb108 hx100) ?_
 rintro _ w109 ⟨r109_0,rfl,hst⟩
 have hst:=k107 hst (co closed_oStep c0)
 refine mV (.tuple #[r109_0,Bo x100.2]) rfl (L_ex (v:=r109_0) rfl rfl rfl (L_ex (v:=Bo x100.2) rfl rfl rfl (aV r109_0 rfl (aB rfl (nq ?_)))))
 obtain ⟨x117,hx117,hF⟩:=bind_some hF
 obtain ⟨R119,hR119⟩:=exR fun f w_=>f 2 = Bo (((x117 && (decide ((x13.1.length : Int)≤(x2.2.length : Int)))) && x100.2) && (decide ((x100.1.length : Int)≤(x13.1.length : Int))))∧Star H5 w_ ([])
 refine W_join R119 ?_ ?_
 refine W_region (mF sf3 rfl (mF sf5 rfl ?_))
 obtain ⟨H120b,l121,s122,z123,k124⟩:=hst.borrow
 have hb125 : (rS 63 (rStep 117)).rel H120b [r22_0] x13.1:=fz_own 2 z123 rfl
 refine L_call rfl Try.call19 (ops2 rfl rfl) (i_CheckRefutation_c (list:=x2.1) (steps:=x13.1) s122 (RP.mono _ hr5_0 l121) hb125 hx117) ?_
 rintro _ w126 ⟨rfl,hst⟩
 have hst:=k124 hst c0
 refine mB rfl (L_split (d:=74) (b:=x117) rfl (fun hc127=>?_) (fun hc127=>?_))
 refine mF sf5 rfl (L_len rfl Try.underlying29 rfl (Star.len 2 hst rfl) (mF sf4 rfl (L_len rfl Try.underlying29 rfl (Star.len 1 hst rfl) (L_leq rfl rfl rfl (L_pick (v:=Bo (x117 && (decide ((x13.1.length : Int)≤(x2.2.length : Int))))) rfl rfl (and_t hc127 rfl) (mB rfl (L_split (d:=81) (b:=(x117 && (decide ((x13.1.length : Int)≤(x2.2.length : Int))))) rfl (fun hc128=>?_) (fun hc128=>?_))))))))
 refine mB rfl (L_pick (v:=Bo ((x117 && (decide ((x13.1.length : Int)≤(x2.2.length : Int)))) && x100.2)) rfl rfl (and_t hc128 rfl) (mB rfl (L_split (d:=84) (b:=((x117 && (decide ((x13.1.length : Int)≤(x2.2.length : Int)))) && x100.2)) rfl (fun hc129=>?_) (fun hc129=>?_))))
 refine mV r109_0 rfl (L_len rfl Try.underlying29 rfl (Star.len 0 hst rfl) (mF sf5 rfl (L_len rfl Try.underlying29 rfl (Star.len 2 hst rfl) (L_leq rfl rfl rfl (L_pick (v:=Bo (((x117 && (decide ((x13.1.length : Int)≤(x2.2.length : Int)))) && x100.2) && (decide ((x100.1.length : Int)≤(x13.1.length : Int))))) rfl rfl (and_t hc129 rfl) (aB rfl (nn (rj hR119 ⟨rfl,(Star.keepN 0 hst)⟩))))))))
 refine ps rfl (ps rfl (ps rfl (ps rfl (ps rfl (L_pick (v:=Bo (((x117 && (decide ((x13.1.length : Int)≤(x2.2.length : Int)))) && x100.2) && (decide ((x100.1.length : Int)≤(x13.1.length : Int))))) rfl rfl (and_f hc129) (aB rfl (nn (rj hR119 ⟨rfl,(Star.keepN 0 hst)⟩))))))))
 refine ps rfl (L_pick (v:=Bo ((x117 && (decide ((x13.1.length : Int)≤(x2.2.length : Int)))) && x100.2)) rfl rfl (and_f hc128) (mB rfl (L_split (d:=84) (b:=((x117 && (decide ((x13.1.length : Int)≤(x2.2.length : Int)))) && x100.2)) rfl (fun hc130=>?_) (fun hc130=>?_))))
 refine mV r109_0 rfl (L_len rfl Try.underlying29 rfl (Star.len 0 hst rfl) (mF sf5 rfl (L_len rfl Try.underlying29 rfl (Star.len 2 hst rfl) (L_leq rfl rfl rfl (L_pick (v:=Bo (((x117 && (decide ((x13.1.length : Int)≤(x2.2.length : Int)))) && x100.2) && (decide ((x100.1.length : Int)≤(x13.1.length : Int))))) rfl rfl (and_t hc130 rfl) (aB rfl (nn (rj hR119 ⟨rfl,(Star.keepN 0 hst)⟩))))))))
 refine ps rfl (ps rfl (ps rfl (ps rfl (ps rfl (L_pick (v:=Bo (((x117 && (decide ((x13.1.length : Int)≤(x2.2.length : Int)))) && x100.2) && (decide ((x100.1.length : Int)≤(x13.1.length : Int))))) rfl rfl (and_f hc130) (aB rfl (nn (rj hR119 ⟨rfl,(Star.keepN 0 hst)⟩))))))))
 refine ps rfl (ps rfl (ps rfl (ps rfl (ps rfl (L_pick (v:=Bo (x117 && (decide ((x13.1.length : Int)≤(x2.2.length : Int))))) rfl rfl (and_f hc127) (mB rfl (L_split (d:=81) (b:=(x117 && (decide ((x13.1.length : Int)≤(x2.2.length : Int))))) rfl (fun hc131=>?_) (fun hc131=>?_))))))))
 refine mB rfl (L_pick (v:=Bo ((x117 && (decide ((x13.1.length : Int)≤(x2.2.length : Int)))) && x100.2)) rfl rfl (and_t hc131 rfl) (mB rfl (L_split (d:=84) (b:=((x117 && (decide ((x13.1.length : Int)≤(x2.2.length : Int)))) && x100.2)) rfl (fun hc132=>?_) (fun hc132=>?_))))
 refine mV r109_0 rfl (L_len rfl Try.underlying29 rfl (Star.len 0 hst rfl) (mF sf5 rfl (L_len rfl Try.underlying29 rfl (Star.len 2 hst rfl) (L_leq rfl rfl rfl (L_pick (v:=Bo (((x117 && (decide ((x13.1.length : Int)≤(x2.2.length : Int)))) && x100.2) && (decide ((x100.1.length : Int)≤(x13.1.length : Int))))) rfl rfl (and_t hc132 rfl) (aB rfl (nn (rj hR119 ⟨rfl,(Star.keepN 0 hst)⟩))))))))
 refine ps rfl (ps rfl (ps rfl (ps rfl (ps rfl (L_pick (v:=Bo (((x117 && (decide ((x13.1.length : Int)≤(x2.2.length : Int)))) && x100.2) && (decide ((x100.1.length : Int)≤(x13.1.length : Int))))) rfl rfl (and_f hc132) (aB rfl (nn (rj hR119 ⟨rfl,(Star.keepN 0 hst)⟩))))))))
 refine ps rfl (L_pick (v:=Bo ((x117 && (decide ((x13.1.length : Int)≤(x2.2.length : Int)))) && x100.2)) rfl rfl (and_f hc131) (mB rfl (L_split (d:=84) (b:=((x117 && (decide ((x13.1.length : Int)≤(x2.2.length : Int)))) && x100.2)) rfl (fun hc133=>?_) (fun hc133=>?_))))
 refine mV r109_0 rfl (L_len rfl Try.underlying29 rfl (Star.len 0 hst rfl) (mF sf5 rfl (L_len rfl Try.underlying29 rfl (Star.len 2 hst rfl) (L_leq rfl rfl rfl (L_pick (v:=Bo (((x117 && (decide ((x13.1.length : Int)≤(x2.2.length : Int)))) && x100.2) && (decide ((x100.1.length : Int)≤(x13.1.length : Int))))) rfl rfl (and_t hc133 rfl) (aB rfl (nn (rj hR119 ⟨rfl,(Star.keepN 0 hst)⟩))))))))
 refine ps rfl (ps rfl (ps rfl (ps rfl (ps rfl (L_pick (v:=Bo (((x117 && (decide ((x13.1.length : Int)≤(x2.2.length : Int)))) && x100.2) && (decide ((x100.1.length : Int)≤(x13.1.length : Int))))) rfl rfl (and_f hc133) (aB rfl (nn (rj hR119 ⟨rfl,(Star.keepN 0 hst)⟩))))))))
 intro f w_ hR
 obtain ⟨sf2,hst⟩:=rk hR119 hR
 refine W_ret (retG1 (v1:=Bo (((x117 && (decide ((x13.1.length : Int)≤(x2.2.length : Int)))) && x100.2) && (decide ((x100.1.length : Int)≤(x13.1.length : Int))))) Try.results12 sf2 ?_)
 obtain rfl:=so hF
 exact ⟨rfl,(Star.down hst l5 c0)⟩
end Go.Proofs.Ytiodhgbfceahfaa

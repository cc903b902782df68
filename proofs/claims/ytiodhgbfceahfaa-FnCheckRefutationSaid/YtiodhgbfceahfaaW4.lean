/- Part of a proof by program: W4. -/
import Derived.Test.YtiodhgbfceahfaaD1
import Derived.Test.YtiodhgbfceahfaaW3
namespace Go.Proofs.Ytiodhgbfceahfaa
open Go Go.E Go.L Go.RowKit
set_option linter.unusedVariables false
set_option linter.unusedSimpArgs false
set_option maxRecDepth 100000
theorem s_l4Random_c {fu : Nat} {r_ : Rd} {list : List Con} {g_0 : Nat} {v0_0 : Value} {v1 : Value} {H : FH} {w : World} {R : List Ass} (hst : Star H w (box g_0 126 #[v0_0,I r_.p] :: R)) (h0_0 : (rS 5 RP.u8).rel H [v0_0] r_.b) (h1 : (rS 41 (rCon 117)).rel H [v1] list) {r : (List Step) × Int} (hF : s_l4Random fu r_ list = some r) :
 C Try.prog 118 #[Pt g_0,v1] w fun v w'=>∃ H' : FH,Le H H'∧∃ (u1 : Value),v = u1∧Star H' w' (oF 63 (rStep 117) u1 r.1 :: box g_0 126 #[v0_0,I r.2] :: R):=by
 unfold s_l4Random at hF
 refine C_enter Try.func118 rfl Try.ntmps118 rfl (sq (aV S0 rfl (ns (L_bs rfl parts0 (bs_29_0  ) hst (fun g4 w5 hst=>?_)))))
 have hst:=Star.mkRow (R:=(OR.frz (rStep 117))) [] [] 0 hst rfl rfl rfl (by decide)
 refine aV (Sl g4 0 0) rfl (nq (W_seq ?_))
 obtain ⟨x16,hx16,hF⟩:=bind_some hF
 refine W_region (mV (Pt g_0) rfl (L_bs rfl (parts6 rfl rfl rfl rfl rfl rfl) (bs_105_6_0_0_0_0_0_0 (I 4) (I 6) (I 3) (I 8) (I 1) (I 0) rfl rfl rfl rfl rfl rfl) hst (fun g18 w19 hst=>?_)))
 have hst:=litInts [4,6,3,8,1,0] 6 hst rfl rfl (by decide)
 have hst:=hst.get 2 rfl
 obtain ⟨H21b,l22,s23,z24,k25⟩:=hst.lend [_]
 have hb26 : (rS 3 RP.int).rel H21b [(Sl g18 6 6)] ([4,6,3,8,1,0]):=fz_own 0 z24 rfl
 refine L_call rfl Try.call110 (ops2 rfl rfl) (s_l17Rd_num_c (r_:=r_) (list:=[4,6,3,8,1,0]) s23 (RP.mono _ h0_0 l22) hb26 hx16) ?_
 rintro _ w27 ⟨rfl,hst⟩
 have hst:=k25 hst (cb c0)
 refine aI rfl (nn ?_)
 obtain ⟨j35,hL35,hF⟩:=bind_some hF
 obtain ⟨R35,hR35⟩:=exR fun f w_=>∃ out_29 : List Step,∃ i_31 : Int,∃ g_0_1_32 : Int,∃ H33 : FH,∃ v29_out : Value,j35 = .nx (out_29,i_31,g_0_1_32)∧Le H H33∧f 5 = v29_out∧Star H33 w_ (oF 63 (rStep 117) v29_out out_29 :: box g_0 126 #[v0_0,I g_0_1_32] :: R)
 refine W_join R35 ?_ ?_
 refine W_block ?_
 obtain ⟨I35,hI35⟩:=exI fun n f w_=>∃ out_29 : List Step,∃ i_31 : Int,∃ g_0_1_32 : Int,∃ H33 : FH,∃ v29_out : Value,whileL (s_l4Random_b1 fu r_ list) n (out_29,i_31,g_0_1_32) = some j35∧Le H H33∧f 0 = Pt g_0∧f 1 = v1∧f 5 = v29_out∧f 6 = I i_31∧Star H33 w_ (oF 63 (rStep 117) v29_out out_29 :: box g_0 126 #[v0_0,I g_0_1_32] :: R)
 have hst:=hst.get 2 rfl
 have hst:=Star.drop 2 hst rfl
 refine W_loop I35 (n:=fu) ?_ ?_
 exact ij hI35 ⟨[],x16.1,x16.2,H,(Sl g4 0 0),hL35,(Le.refl _),rfl,rfl,rfl,rfl,hst⟩
 intro n35 f w_ hI
 obtain ⟨out_29,i_31,g_0_1_32,H33,v29_out,hL35,l34,sf0,sf1,sf5,sf6,hst⟩:=ik hI35 hI
 rcases n35 with _ | n35
 exact (while_zero hL35).elim
 obtain ⟨o35,hB35,hL35⟩:=while_succ hL35
 rw [s_l4Random_b1] at hB35
 refine W_seq (sq (mF sf6 rfl (L_gtr rfl rfl rfl (nn (W_cond (b:=decide (i_31 > 0)) rfl (fun hc36=>?_) (fun hc36=>?_))))))
 have hB35:=(ite_t hc36).symm.trans hB35
 refine W_skip (W_seq (W_block (W_seq ?_)))
 obtain ⟨x40,hx40,hB35⟩:=bind_some hB35
 obtain ⟨x49,hx49,hB35⟩:=bind_some hB35
 obtain ⟨x55,hx55,hB35⟩:=bind_some hB35
 refine W_region (L_bs rfl parts0 (bs_29_0  ) hst (fun g61 w62 hst=>?_))
 have hst:=Star.mkRow (R:=(OR.frz (rStep 117))) [] [] 0 hst rfl rfl rfl (by decide)
 refine mF sf5 rfl (L_appC (v:=(Sl g61 0 0)) (u:=v29_out) rfl et_29 rfl rfl hst hx40 (fun v64 w65 hst=>mF sf0 rfl (mF sf1 rfl (L_len rfl Try.underlying27 rfl (slice_len (RP.mono _ h1 l34)) (mF sf5 rfl (L_len rfl Try.underlying29 rfl (Star.len 1 hst rfl) (L_add rfl rfl rfl ?_)))))))
 have hst:=hst.get 2 rfl
 obtain ⟨H67b,l68,s69,z70,k71⟩:=hst.lend [_]
 refine L_call rfl Try.call142 (ops2 rfl rfl) (s_l4Step_c (r_:=({ b:=r_.b,p:=g_0_1_32 } : Rd)) (n_:=i64 ((list.length : Int) + (out_29.length : Int))) s69 (RP.mono _ h0_0 (Le.trans l34 l68)) hx49) ?_
 rintro _ w72 ⟨r72_0,rfl,hst⟩
 have hst:=k71 hst (co closed_term (cb c0))
 refine L_bs rfl (parts1 rfl) (bs_29_1_5 (I x49.1.kind) (I x49.1.a) (I x49.1.b) (r72_0) (I x49.1.given.bound) ) hst (fun g74 w75 hst=>?_)
 have hst:=hst.get 1 rfl
 have hst:=oStep_close (s:=x49.1) hst
 have hst:=Star.mkRow (R:=(oStep 117)) [([I x49.1.kind,I x49.1.a,I x49.1.b,r72_0,I x49.1.given.bound],x49.1)] [x49.1] 1 hst rfl rfl rfl (by decide)
 obtain ⟨H77,l78,hst⟩:=Star.shallow hst
 have hst : Star H77 w75 (oF 63 (rStep 117) (Sl g74 1 1) ([x49.1]) :: _):=hst
 have hst:=hst.get 2 rfl
 refine L_appM (v:=v64) (u:=(Sl g74 1 1)) rfl et_29 rfl rfl hst hx55 (fun v79 w80 hst=>aV v79 rfl (nq ?_))
 obtain ⟨x88,hx88,hB35⟩:=bind_some hB35
 refine W_region (mF sf1 rfl (mV v79 rfl ?_))
 obtain ⟨H91b,l92,s93,z94,k95⟩:=hst.borrow
 have hb96 : (rS 63 (rStep 117)).rel H91b [v79] x55:=fz_own 0 z94 rfl
 refine L_call rfl Try.call35 (ops2 rfl rfl) (s_RunProof_c (list:=list) (steps:=x55) s93 (RP.mono _ h1 (Le.trans (Le.trans l34 l78) l92)) hb96 hx88) ?_
 rintro _ w97 ⟨r97_0,rfl,hst⟩
 have hst:=k95 hst (co closed_oCon c0)
 refine mV (.tuple #[r97_0,I x88.2]) rfl (L_ex (v:=r97_0) rfl rfl rfl (L_ex (v:=I x88.2) rfl rfl rfl (aV r97_0 rfl (aI rfl (nq ?_)))))
 obtain ⟨b106,hb106,hB35⟩:=bind_some hB35
 obtain ⟨R107,hR107⟩:=exR fun f w_=>f 0 = Pt g_0∧f 1 = v1∧f 5 = v29_out∧f 6 = I i_31∧f 7 = v79∧f 42 = Bo b106.1∧Star H77 w_ (oF 63 (rStep 117) v29_out out_29 :: oF 63 (rStep 117) v79 x55 :: box g_0 126 #[v0_0,I b106.2] :: R)
 refine W_join R107 ?_ ?_
 refine W_region (mI rfl (L_lss rfl rfl rfl (mB rfl (L_split (d:=38) (b:=decide (x88.2 < 0)) rfl (fun hc108=>?_) (fun hc108=>?_)))))
 rw [ite_t hc108] at hb106
 refine ps rfl (ps rfl (ps rfl (L_pick (v:=Bo b106.1) rfl rfl (congrArg (fun z : Bool × Int=>Value.bool z.1) (so hb106)) ?_)))
 have hst:=hst.get 2 rfl
 have hst : Star H77 w97 (box g_0 126 #[v0_0,I b106.2] :: oS 41 (oCon 117) r97_0 x88.1 :: oF 63 (rStep 117) v79 x55 :: oF 63 (rStep 117) v29_out out_29 :: R):=by rw [← so hb106]; exact hst
 refine nn ?_
 have hst:=hst.gets [2,3] rfl
 have hst:=Star.drop 3 hst rfl
 exact rj hR107 ⟨sf0,sf1,sf5,sf6,rfl,rfl,hst⟩
 rw [ite_f hc108] at hb106
 obtain ⟨x104,hx104,hb106⟩:=bind_some hb106
 refine mF sf0 rfl ?_
 have hst:=hst.get 2 rfl
 obtain ⟨H109b,l110,s111,z112,k113⟩:=hst.lend [_]
 refine L_call rfl Try.call71 (ops2 rfl rfl) (s_l17Rd_pick_c (r_:=({ b:=r_.b,p:=x49.2 } : Rd)) (n_:=30) s111 (RP.mono _ h0_0 (Le.trans (Le.trans l34 l78) l110)) hx104) ?_
 rintro _ w114 ⟨rfl,hst⟩
 have hst:=k113 hst (cb c0)
 refine L_eql rfl rfl rfl (L_pick (v:=Bo b106.1) rfl rfl (congrArg (fun z : Bool × Int=>Value.bool z.1) (so hb106)) ?_)
 have hst : Star H77 w114 (box g_0 126 #[v0_0,I b106.2] :: oS 41 (oCon 117) r97_0 x88.1 :: oF 63 (rStep 117) v79 x55 :: oF 63 (rStep 117) v29_out out_29 :: R):=by rw [← so hb106]; exact hst
 refine nn ?_
 have hst:=hst.gets [2,3] rfl
 have hst:=Star.drop 3 hst rfl
 exact rj hR107 ⟨sf0,sf1,sf5,sf6,rfl,rfl,hst⟩
 intro f w_ hR
 obtain ⟨sf0,sf1,sf5,sf6,sf7,sf42,hst⟩:=rk hR107 hR
 obtain ⟨out_115,hA117,hB35⟩:=bind_some hB35
 obtain ⟨R117,hR117⟩:=exR fun f w_=>∃ v115_out : Value,f 0 = Pt g_0∧f 1 = v1∧f 5 = v115_out∧f 6 = I i_31∧Star H77 w_ (oF 63 (rStep 117) v115_out out_115 :: box g_0 126 #[v0_0,I b106.2] :: R)
 refine W_join R117 ?_ ?_
 refine W_cond (b:=b106.1) sf42 (fun hc118=>?_) (fun hc118=>?_)
 have hA117:=(ite_t hc118).symm.trans hA117
 refine W_region (mF sf7 rfl (aV v79 rfl (nn ?_)))
 obtain rfl:=so hA117
 have hst:=hst.gets [2,2] rfl
 have hst:=Star.drop 2 hst rfl
 exact rj hR117 ⟨v79,sf0,sf1,rfl,sf6,hst⟩
 have hA117:=(ite_f hc118).symm.trans hA117
 refine W_skip ?_
 obtain rfl:=so hA117
 have hst:=hst.gets [2,1] rfl
 have hst:=Star.drop 2 hst rfl
 exact rj hR117 ⟨v29_out,sf0,sf1,sf5,sf6,hst⟩
 intro f w_ hR
 obtain ⟨v115_out,sf0,sf1,sf5,sf6,hst⟩:=rk hR117 hR
 refine W_region (mF sf6 rfl (L_sub rfl rfl rfl (aI rfl (nn ?_))))
 obtain rfl:=so hB35
 show ∃ m,m < _∧I35 m _ _
 refine ⟨n35,Nat.lt_succ_self _,?_⟩
 exact ij hI35 ⟨out_115,i64 (i_31 - 1),b106.2,H77,v115_out,hL35,(Le.trans l34 l78),sf0,sf1,sf5,rfl,hst⟩
 have hB35:=(ite_f hc36).symm.trans hB35
 refine W_exit ?_
 obtain rfl:=so hB35
 obtain rfl:=so hL35
 exact rj hR35 ⟨out_29,i_31,g_0_1_32,H33,v29_out,rfl,l34,sf5,hst⟩
 intro f w_ hR
 obtain ⟨out_29,i_31,g_0_1_32,H33,v29_out,rfl,l34,sf5,hst⟩:=rk hR35 hR
 refine sq (mF sf5 rfl (aV v29_out rfl (nn (W_ret (retG1 (v1:=v29_out) Try.results118 rfl ?_)))))
 obtain rfl:=so hF
 exact ⟨H33,l34,v29_out,rfl,hst⟩
theorem s_l4Refuted_c {fu : Nat} {r_ : Rd} {g_0 : Nat} {v0_0 : Value} {H : FH} {w : World} {R : List Ass} (hst : Star H w (box g_0 126 #[v0_0,I r_.p] :: R)) (h0_0 : (rS 5 RP.u8).rel H [v0_0] r_.b) {r : (List Con) × (List Step) × Int} (hF : s_l4Refuted fu r_ = some r) :
 C Try.prog 86 #[Pt g_0] w fun v w'=>∃ H' : FH,Le H H'∧∃ (u1 : Value) (u2 : Value),v = .tuple #[u1,u2]∧(rS 41 (rCon 117)).rel H' [u1] r.1∧Star H' w' (oF 63 (rStep 117) u2 r.2.1 :: box g_0 126 #[v0_0,I r.2.2] :: R):=by
 unfold s_l4Refuted at hF
 refine C_enter Try.func86 rfl Try.ntmps86 rfl (sq (aV S0 rfl (aV S0 rfl (nq ?_))))
 obtain ⟨x6,hx6,hF⟩:=bind_some hF
 refine W_region (mV (Pt g_0) rfl ?_)
 obtain ⟨H9b,l10,s11,z12,k13⟩:=hst.lend [_]
 refine L_call rfl Try.call69 (ops1 rfl) (s_l3Problem_c (r_:=r_) s11 (RP.mono _ h0_0 l10) hx6) ?_
 rintro r14_0 w14 ⟨_,rfl,hst⟩
 have hst:=k13 hst (co closed_oCon (cb c0))
 refine aV r14_0 rfl (nq ?_)
 obtain ⟨x21,hx21,hF⟩:=bind_some hF
 refine W_region (mV (Pt g_0) rfl ?_)
 have hst:=hst.get 1 rfl
 obtain ⟨H23b,l24,s25,z26,k27⟩:=hst.lend [_]
 refine L_call rfl Try.call71 (ops2 rfl rfl) (s_l17Rd_pick_c (r_:=({ b:=r_.b,p:=x6.2 } : Rd)) (n_:=3) s25 (RP.mono _ h0_0 l24) hx21) ?_
 rintro _ w28 ⟨rfl,hst⟩
 have hst:=k27 hst (cb c0)
 refine L_add rfl rfl rfl (aI rfl (nq ?_))
 obtain ⟨x35,hx35,hF⟩:=bind_some hF
 refine W_region (mV r14_0 rfl (mI rfl (L_bld rfl (parts2 rfl rfl) (bld_117_0_1 (I 1) (I (i64 (1 + x21.1))) rfl rfl) (L_bld rfl (parts2 rfl rfl) (bld_117_0_1 (I 1) (I 5) rfl rfl) (L_bs rfl (parts2 rfl rfl) (bs_39_2_2_2 (I 1) (I (i64 (1 + x21.1))) (I 1) (I 5) ) hst (fun g39 w40 hst=>?_))))))
 have hst:=Star.addF (r:=rTerm) (cs:=[I 1,I 5]) (x:=({ coef:=1,lit:=5 } : Term)) hst (rTerm_iff.2 rfl)
 have hst:=Star.addF (r:=rTerm) (cs:=[I 1,I (i64 (1 + x21.1))]) (x:=({ coef:=1,lit:=i64 (1 + x21.1) } : Term)) hst (rTerm_iff.2 rfl)
 have hst:=Star.mkRow (R:=(OR.frz rTerm)) [([I 1,I (i64 (1 + x21.1))],({ coef:=1,lit:=i64 (1 + x21.1) } : Term)),([I 1,I 5],({ coef:=1,lit:=5 } : Term))] [({ coef:=1,lit:=i64 (1 + x21.1) } : Term),({ coef:=1,lit:=5 } : Term)] 2 hst rfl rfl rfl (by decide)
 refine L_bld rfl (parts2 rfl rfl) (bld_41_0_1 ((Sl g39 2 2)) (I 2) (one_len (Star.len 0 hst rfl)) rfl) (L_bs rfl (parts1 rfl) (bs_27_1_2 ((Sl g39 2 2)) (I 2) ) hst (fun g42 w43 hst=>?_))
 have hst:=hst.get 1 rfl
 have hst:=oCon_close (c:=({ terms:=[({ coef:=1,lit:=i64 (1 + x21.1) } : Term),({ coef:=1,lit:=5 } : Term)],bound:=2 } : Con)) hst
 have hst:=Star.mkRow (R:=(oCon 117)) [([(Sl g39 2 2),I 2],({ terms:=[({ coef:=1,lit:=i64 (1 + x21.1) } : Term),({ coef:=1,lit:=5 } : Term)],bound:=2 } : Con))] [({ terms:=[({ coef:=1,lit:=i64 (1 + x21.1) } : Term),({ coef:=1,lit:=5 } : Term)],bound:=2 } : Con)] 1 hst rfl rfl rfl (by decide)
 have hst:=hst.get 2 rfl
 refine L_appM (v:=r14_0) (u:=(Sl g42 1 1)) rfl et_27 rfl rfl hst hx35 (fun v45 w46 hst=>aV v45 rfl (nq ?_))
 obtain ⟨x54,hx54,hF⟩:=bind_some hF
 refine W_region (mV v45 rfl (mI rfl (L_neg rfl rfl (L_bld rfl (parts2 rfl rfl) (bld_117_0_1 (I 1) (I (i64 (-(i64 (1 + x21.1))))) rfl rfl) (L_bld rfl (parts2 rfl rfl) (bld_117_0_1 (I 1) (I (-5)) rfl rfl) (L_bs rfl (parts2 rfl rfl) (bs_39_2_2_2 (I 1) (I (i64 (-(i64 (1 + x21.1))))) (I 1) (I (-5)) ) hst (fun g58 w59 hst=>?_)))))))
 have hst:=Star.addF (r:=rTerm) (cs:=[I 1,I (-5)]) (x:=({ coef:=1,lit:=(-5) } : Term)) hst (rTerm_iff.2 rfl)
 have hst:=Star.addF (r:=rTerm) (cs:=[I 1,I (i64 (-(i64 (1 + x21.1))))]) (x:=({ coef:=1,lit:=i64 (-(i64 (1 + x21.1))) } : Term)) hst (rTerm_iff.2 rfl)
 have hst:=Star.mkRow (R:=(OR.frz rTerm)) [([I 1,I (i64 (-(i64 (1 + x21.1))))],({ coef:=1,lit:=i64 (-(i64 (1 + x21.1))) } : Term)),([I 1,I (-5)],({ coef:=1,lit:=(-5) } : Term))] [({ coef:=1,lit:=i64 (-(i64 (1 + x21.1))) } : Term),({ coef:=1,lit:=(-5) } : Term)] 2 hst rfl rfl rfl (by decide)
 refine L_bld rfl (parts2 rfl rfl) (bld_41_0_1 ((Sl g58 2 2)) (I 1) (one_len (Star.len 0 hst rfl)) rfl) (L_bs rfl (parts1 rfl) (bs_27_1_2 ((Sl g58 2 2)) (I 1) ) hst (fun g61 w62 hst=>?_))
 have hst:=hst.get 1 rfl
 have hst:=oCon_close (c:=({ terms:=[({ coef:=1,lit:=i64 (-(i64 (1 + x21.1))) } : Term),({ coef:=1,lit:=(-5) } : Term)],bound:=1 } : Con)) hst
 have hst:=Star.mkRow (R:=(oCon 117)) [([(Sl g58 2 2),I 1],({ terms:=[({ coef:=1,lit:=i64 (-(i64 (1 + x21.1))) } : Term),({ coef:=1,lit:=(-5) } : Term)],bound:=1 } : Con))] [({ terms:=[({ coef:=1,lit:=i64 (-(i64 (1 + x21.1))) } : Term),({ coef:=1,lit:=(-5) } : Term)],bound:=1 } : Con)] 1 hst rfl rfl rfl (by decide)
 have hst:=hst.get 1 rfl
 refine L_appM (v:=v45) (u:=(Sl g61 1 1)) rfl et_27 rfl rfl hst hx54 (fun v64 w65 hst=>aV v64 rfl (ns (mV v64 rfl (L_len rfl Try.underlying27 rfl (Star.len 0 hst rfl) (aI rfl (nq ?_))))))
 obtain ⟨x67,hx67,hF⟩:=bind_some hF
 obtain ⟨x73,hx73,hF⟩:=bind_some hF
 refine W_region (mV (Pt g_0) rfl (mV v64 rfl (mI rfl (L_sub rfl rfl rfl ?_))))
 obtain ⟨H77,l78,hst,hz79⟩:=Star.freeze hst
 have hz79 : (rS 41 (rCon 117)).rel H77 [v64] x54:=hz79
 refine L_sl (a:=0) (b:=i64 ((x54.length : Int) - 2)) rfl et_27 rfl hz79 rfl rfl hx67 (fun v76 hs80=>L_call rfl Try.call118 (ops2 rfl rfl) (s_l4Random_c (r_:=({ b:=r_.b,p:=x21.2 } : Rd)) (list:=x67) hst (RP.mono _ h0_0 l78) hs80 hx73) ?_)
 rintro r81_0 w81 ⟨H81,l81,_,rfl,hst⟩
 refine aV r81_0 rfl (nq ?_)
 obtain ⟨x89,hx89,hF⟩:=bind_some hF
 refine W_region (mV v64 rfl (mV r81_0 rfl ?_))
 obtain ⟨H92b,l93,s94,z95,k96⟩:=hst.borrow
 have hb97 : (rS 63 (rStep 117)).rel H92b [r81_0] x73.1:=fz_own 0 z95 rfl
 refine L_call rfl Try.call35 (ops2 rfl rfl) (s_RunProof_c (list:=x54) (steps:=x73.1) s94 (RP.mono _ hz79 (Le.trans l81 l93)) hb97 hx89) ?_
 rintro _ w98 ⟨r98_0,rfl,hst⟩
 have hst:=k96 hst (co closed_oCon c0)
 refine mV (.tuple #[r98_0,I x89.2]) rfl (L_ex (v:=r98_0) rfl rfl rfl (L_ex (v:=I x89.2) rfl rfl rfl (aV r98_0 rfl (aI rfl (nq (W_seq ?_))))))
 obtain ⟨R100,hR100⟩:=exR fun f w_=>f 0 = Pt g_0∧f 4 = v64∧f 6 = I (x54.length : Int)∧f 7 = r81_0∧f 53 = Bo ((decide (x89.2 ≥ 0)) || ((x54.length : Int) != (x54.length : Int)))∧Star H81 w_ (oF 63 (rStep 117) r81_0 x73.1 :: box g_0 126 #[v0_0,I x73.2] :: R)
 refine W_join R100 ?_ ?_
 refine W_region (mI rfl (L_geq rfl rfl rfl (mB rfl (L_split (d:=48) (b:=decide (x89.2 ≥ 0)) rfl (fun hc101=>?_) (fun hc101=>?_)))))
 refine ps rfl (ps rfl (ps rfl (ps rfl (L_pick (v:=Bo ((decide (x89.2 ≥ 0)) || ((x54.length : Int) != (x54.length : Int)))) rfl rfl (or_t hc101) (nn ?_)))))
 have hst:=hst.gets [2,2] rfl
 have hst:=Star.drop 2 hst rfl
 exact rj hR100 ⟨rfl,rfl,rfl,rfl,rfl,hst⟩
 refine mV v64 rfl (L_len rfl Try.underlying27 rfl (slice_len (RP.mono _ hz79 l81)) (mI rfl (L_neq rfl rfl rfl (L_pick (v:=Bo ((decide (x89.2 ≥ 0)) || ((x54.length : Int) != (x54.length : Int)))) rfl rfl (or_f hc101 rfl) (nn ?_)))))
 have hst:=hst.gets [2,2] rfl
 have hst:=Star.drop 2 hst rfl
 exact rj hR100 ⟨rfl,rfl,rfl,rfl,rfl,hst⟩
 intro f w_ hR
 obtain ⟨sf0,sf4,sf6,sf7,sf53,hst⟩:=rk hR100 hR
 obtain ⟨steps_102,hA104,hF⟩:=bind_some hF
 obtain ⟨R104,hR104⟩:=exR fun f w_=>∃ v102_steps : Value,f 0 = Pt g_0∧f 4 = v64∧f 6 = I (x54.length : Int)∧f 7 = v102_steps∧Star H81 w_ (oF 63 (rStep 117) v102_steps steps_102 :: box g_0 126 #[v0_0,I x73.2] :: R)
 refine W_join R104 ?_ ?_
 refine W_cond (b:=((decide (x89.2 ≥ 0)) || ((x54.length : Int) != (x54.length : Int)))) sf53 (fun hc105=>?_) (fun hc105=>?_)
 have hA104:=(ite_t hc105).symm.trans hA104
 refine W_region (L_bs rfl parts0 (bs_29_0  ) hst (fun g109 w110 hst=>?_))
 have hst:=Star.mkRow (R:=(OR.frz (rStep 117))) [] [] 0 hst rfl rfl rfl (by decide)
 refine aV (Sl g109 0 0) rfl (nn ?_)
 obtain rfl:=so hA104
 have hst:=hst.gets [2,1] rfl
 have hst:=Star.drop 2 hst rfl
 exact rj hR104 ⟨(Sl g109 0 0),sf0,sf4,sf6,rfl,hst⟩
 have hA104:=(ite_f hc105).symm.trans hA104
 refine W_skip ?_
 obtain rfl:=so hA104
 exact rj hR104 ⟨r81_0,sf0,sf4,sf6,sf7,hst⟩
 intro f w_ hR
 obtain ⟨v102_steps,sf0,sf4,sf6,sf7,hst⟩:=rk hR104 hR
 refine W_seq (W_seq ?_)
 obtain ⟨x117,hx117,hF⟩:=bind_some hF
 refine W_region (mF sf0 rfl ?_)
 have hst:=hst.get 1 rfl
 obtain ⟨H119b,l120,s121,z122,k123⟩:=hst.lend [_]
 refine L_call rfl Try.call71 (ops2 rfl rfl) (s_l17Rd_pick_c (r_:=({ b:=r_.b,p:=x73.2 } : Rd)) (n_:=2) s121 (RP.mono _ h0_0 (Le.trans (Le.trans l78 l81) l120)) hx117) ?_
 rintro _ w124 ⟨rfl,hst⟩
 have hst:=k123 hst (cb c0)
 refine L_eql rfl rfl rfl (nn (W_cond (b:=(x117.1 == 0)) rfl (fun hc125=>?_) (fun hc125=>?_)))
 have hF:=(ite_t hc125).symm.trans hF
 refine W_seq ?_
 obtain ⟨x130,hx130,hF⟩:=bind_some hF
 refine W_region (mF sf4 rfl (mF sf7 rfl (L_bld rfl (parts1 rfl) (bld_41_1 (I 1) rfl) (L_bld rfl (parts2 rfl rfl) (bld_63_0_3x2 (I 7) (S0) (I 1) rfl) (L_bs rfl (parts1 rfl) (bs_29_1_5 (I 7) (I 0) (I 0) (S0) (I 1) ) hst (fun g136 w137 hst=>?_))))))
 have hst:=Star.addNil (R:=(OR.frz rTerm)) (e:=117) hst
 have hst:=oStep_close (s:=({ kind:=7,a:=0,b:=0,given:=({ terms:=[],bound:=1 } : Con) } : Step)) hst
 have hst:=Star.mkRow (R:=(oStep 117)) [([I 7,I 0,I 0,S0,I 1],({ kind:=7,a:=0,b:=0,given:=({ terms:=[],bound:=1 } : Con) } : Step))] [({ kind:=7,a:=0,b:=0,given:=({ terms:=[],bound:=1 } : Con) } : Step)] 1 hst rfl rfl rfl (by decide)
 obtain ⟨H140,l141,hst⟩:=Star.shallow hst
 have hst : Star H140 w137 (oF 63 (rStep 117) (Sl g136 1 1) ([({ kind:=7,a:=0,b:=0,given:=({ terms:=[],bound:=1 } : Con) } : Step)]) :: _):=hst
 have hst:=hst.get 2 rfl
 refine L_appM (v:=v102_steps) (u:=(Sl g136 1 1)) rfl et_29 rfl rfl hst hx130 (fun v142 w143 hst=>aV v64 rfl (aV v142 rfl (nn (W_ret (retG2 (v1:=v64) (v2:=v142) Try.results86 rfl rfl ?_)))))
 obtain rfl:=so hF
 exact ⟨H140,(Le.trans (Le.trans l78 l81) l141),v64,v142,rfl,(RP.mono _ hz79 (Le.trans l81 l141)),hst⟩
 have hF:=(ite_f hc125).symm.trans hF
 refine W_skip (W_seq ?_)
 obtain ⟨x149,hx149,hF⟩:=bind_some hF
 refine W_region (mF sf4 rfl (mF sf7 rfl (mF sf6 rfl (L_sub rfl rfl rfl (mF sf6 rfl (L_sub rfl rfl rfl (L_bld rfl (parts3 rfl rfl rfl) (bld_63_0_1_2 (I 1) (I (i64 ((x54.length : Int) - 2))) (I (i64 ((x54.length : Int) - 1))) rfl rfl rfl) (L_bs rfl (parts1 rfl) (bs_29_1_5 (I 1) (I (i64 ((x54.length : Int) - 2))) (I (i64 ((x54.length : Int) - 1))) (S0) (I 0) ) hst (fun g155 w156 hst=>?_)))))))))
 have hst:=Star.addNil (R:=(OR.frz rTerm)) (e:=117) hst
 have hst:=oStep_close (s:=({ kind:=1,a:=i64 ((x54.length : Int) - 2),b:=i64 ((x54.length : Int) - 1),given:=({ terms:=[],bound:=0 } : Con) } : Step)) hst
 have hst:=Star.mkRow (R:=(oStep 117)) [([I 1,I (i64 ((x54.length : Int) - 2)),I (i64 ((x54.length : Int) - 1)),S0,I 0],({ kind:=1,a:=i64 ((x54.length : Int) - 2),b:=i64 ((x54.length : Int) - 1),given:=({ terms:=[],bound:=0 } : Con) } : Step))] [({ kind:=1,a:=i64 ((x54.length : Int) - 2),b:=i64 ((x54.length : Int) - 1),given:=({ terms:=[],bound:=0 } : Con) } : Step)] 1 hst rfl rfl rfl (by decide)
 obtain ⟨H159,l160,hst⟩:=Star.shallow hst
 have hst : Star H159 w156 (oF 63 (rStep 117) (Sl g155 1 1) ([({ kind:=1,a:=i64 ((x54.length : Int) - 2),b:=i64 ((x54.length : Int) - 1),given:=({ terms:=[],bound:=0 } : Con) } : Step)]) :: _):=hst
 have hst:=hst.get 2 rfl
 refine L_appM (v:=v102_steps) (u:=(Sl g155 1 1)) rfl et_29 rfl rfl hst hx149 (fun v161 w162 hst=>aV v64 rfl (aV v161 rfl (nn (W_ret (retG2 (v1:=v64) (v2:=v161) Try.results86 rfl rfl ?_)))))
 obtain rfl:=so hF
 exact ⟨H159,(Le.trans (Le.trans l78 l81) l160),v64,v161,rfl,(RP.mono _ hz79 (Le.trans l81 l160)),hst⟩
theorem s_l4Pair_c {fu : Nat} {r_ : Rd} {g_0 : Nat} {v0_0 : Value} {H : FH} {w : World} {R : List Ass} (hst : Star H w (box g_0 126 #[v0_0,I r_.p] :: R)) (h0_0 : (rS 5 RP.u8).rel H [v0_0] r_.b) {r : (List Con) × (List Step) × Int} (hF : s_l4Pair fu r_ = some r) :
 C Try.prog 79 #[Pt g_0] w fun v w'=>∃ H' : FH,Le H H'∧∃ (u1 : Value) (u2 : Value),v = .tuple #[u1,u2]∧(rS 41 (rCon 117)).rel H' [u1] r.1∧Star H' w' (oF 63 (rStep 117) u2 r.2.1 :: box g_0 126 #[v0_0,I r.2.2] :: R):=by
 unfold s_l4Pair at hF
 refine C_enter Try.func79 rfl Try.ntmps79 rfl (sq (aV S0 rfl (aV S0 rfl (nq (W_seq ?_)))))
 obtain ⟨x6,hx6,hF⟩:=bind_some hF
 refine W_region (mV (Pt g_0) rfl ?_)
 obtain ⟨H8b,l9,s10,z11,k12⟩:=hst.lend [_]
 refine L_call rfl Try.call71 (ops2 rfl rfl) (s_l17Rd_pick_c (r_:=r_) (n_:=2) s10 (RP.mono _ h0_0 l9) hx6) ?_
 rintro _ w13 ⟨rfl,hst⟩
 have hst:=k12 hst (cb c0)
 refine L_eql rfl rfl rfl (nn (W_cond (b:=(x6.1 == 0)) rfl (fun hc14=>?_) (fun hc14=>?_)))
 have hF:=(ite_t hc14).symm.trans hF
 refine W_seq ?_
 obtain ⟨x15,hx15,hF⟩:=bind_some hF
 refine W_region (mV (Pt g_0) rfl (L_call rfl Try.call86 (ops1 rfl) (s_l4Refuted_c (r_:=({ b:=r_.b,p:=x6.2 } : Rd)) hst h0_0 hx15) ?_))
 rintro _ w18 ⟨H18,l18,r18_0,r18_1,rfl,hr18_0,hst⟩
 refine L_ex (v:=r18_0) rfl rfl rfl (L_ex (v:=r18_1) rfl rfl rfl (aV r18_0 rfl (aV r18_1 rfl (nn (W_ret (retG2 (v1:=r18_0) (v2:=r18_1) Try.results79 rfl rfl ?_))))))
 obtain rfl:=so hF
 exact ⟨H18,l18,r18_0,r18_1,rfl,hr18_0,hst⟩
 have hF:=(ite_f hc14).symm.trans hF
 refine W_skip (W_seq ?_)
 obtain ⟨x25,hx25,hF⟩:=bind_some hF
 obtain ⟨x31,hx31,hF⟩:=bind_some hF
 refine W_region (mV (Pt g_0) rfl (mV (Pt g_0) rfl ?_))
 obtain ⟨H34b,l35,s36,z37,k38⟩:=hst.lend [_]
 refine L_call rfl Try.call69 (ops1 rfl) (s_l3Problem_c (r_:=({ b:=r_.b,p:=x6.2 } : Rd)) s36 (RP.mono _ h0_0 l35) hx25) ?_
 rintro r39_0 w39 ⟨_,rfl,hst⟩
 have hst:=k38 hst (co closed_oCon (cb c0))
 obtain ⟨H41,l42,hst,hz43⟩:=Star.freeze hst
 have hz43 : (rS 41 (rCon 117)).rel H41 [r39_0] x25.1:=hz43
 refine L_call rfl Try.call68 (ops2 rfl rfl) (s_l3Mutate_c (r_:=({ b:=r_.b,p:=x25.2 } : Rd)) (list:=x25.1) hst (RP.mono _ h0_0 l42) hz43 hx31) ?_
 rintro r44_0 w44 ⟨H44,l44,_,rfl,hst⟩
 refine aV r44_0 rfl (nq ?_)
 obtain ⟨x49,hx49,hF⟩:=bind_some hF
 refine W_region (mV r44_0 rfl (mV (Pt g_0) rfl (mV r44_0 rfl ?_)))
 obtain ⟨H52,l53,hst,hz54⟩:=Star.freeze hst
 have hz54 : (rS 41 (rCon 117)).rel H52 [r44_0] x31.1:=hz54
 refine L_call rfl Try.call118 (ops2 rfl rfl) (s_l4Random_c (r_:=({ b:=r_.b,p:=x31.2 } : Rd)) (list:=x31.1) hst (RP.mono _ h0_0 (Le.trans (Le.trans l42 l44) l53)) hz54 hx49) ?_
 rintro r55_0 w55 ⟨H55,l55,_,rfl,hst⟩
 refine aV r44_0 rfl (aV r55_0 rfl (nn (W_ret (retG2 (v1:=r44_0) (v2:=r55_0) Try.results79 rfl rfl ?_))))
 obtain rfl:=so hF
 exact ⟨H55,(Le.trans (Le.trans (Le.trans l42 l44) l53) l55),r44_0,r55_0,rfl,(RP.mono _ hz54 l55),hst⟩
theorem s_DrawCheckRefutation_c {fu : Nat} {code : List UInt8} {v0 : Value} {H : FH} {w : World} {R : List Ass} (hst : Star H w R) (h0 : (rS 5 RP.u8).rel H [v0] code) {r : (List Con) × (List Step)} (hF : s_DrawCheckRefutation fu code = some r) :
 C Try.prog 37 #[v0] w fun v w'=>∃ H' : FH,Le H H'∧∃ (u1 : Value) (u2 : Value),v = .tuple #[u1,u2]∧(rS 41 (rCon 117)).rel H' [u1] r.1∧Star H' w' (oF 63 (rStep 117) u2 r.2 :: R):=by
 unfold s_DrawCheckRefutation at hF
 refine C_enter Try.func37 rfl Try.ntmps37 rfl (sq (aV S0 rfl (aV S0 rfl (nq ?_))))
 obtain ⟨x1,hx1,hF⟩:=bind_some hF
 obtain ⟨x3,hx3,hF⟩:=bind_some hF
 refine W_region (mV v0 rfl (L_call rfl Try.call67 (ops1 rfl) (s_l17Open_c (code:=code) hst h0 hx1) ?_))
 rintro _ w6 ⟨H6,l6,r6_0,r6_1,rfl,hr6_1,hst⟩
 refine L_call rfl Try.call79 (ops1 rfl) (s_l4Pair_c (r_:=x1) hst hr6_1 hx3) ?_
 rintro _ w7 ⟨H7,l7,r7_0,r7_1,rfl,hr7_0,hst⟩
 refine L_ex (v:=r7_0) rfl rfl rfl (L_ex (v:=r7_1) rfl rfl rfl (aV r7_0 rfl (aV r7_1 rfl (nn (W_ret (retG2 (v1:=r7_0) (v2:=r7_1) Try.results37 rfl rfl ?_))))))
 obtain rfl:=so hF
 have hst:=Star.drop 1 hst rfl
 exact ⟨H7,(Le.trans l6 l7),r7_0,r7_1,rfl,hr7_0,hst⟩
theorem l_FnCheckRefutation_c {fu : Nat} {code : List UInt8} {v0 : Value} {H : FH} {w : World} (hst : Star H w []) (h0 : (rS 5 RP.u8).rel H [v0] code) {r : Bool} (hF : l_FnCheckRefutation fu code = some r) :
 C Try.prog 7 #[v0] w fun v w'=>v = Bo r∧Star H w' []:=by
 unfold l_FnCheckRefutation at hF
 refine C_enter Try.func7 rfl Try.ntmps7 rfl (sq (aB rfl (nq (sq (mV v0 rfl (L_len rfl Try.underlying45 rfl (slice_len h0) (L_gtr rfl rfl rfl (nn (W_cond (b:=decide ((code.length : Int) > 1048576)) rfl (fun hc1=>?_) (fun hc1=>?_))))))))))
 have hF:=(ite_t hc1).symm.trans hF
 refine sq (aB rfl (nn (W_ret (retG1 (v1:=Bo true) Try.results7 rfl ?_))))
 obtain rfl:=so hF
 exact ⟨rfl,hst⟩
 have hF:=(ite_f hc1).symm.trans hF
 refine W_skip (W_seq ?_)
 obtain ⟨x2,hx2,hF⟩:=bind_some hF
 refine W_region (mV v0 rfl (L_call rfl Try.call37 (ops1 rfl) (s_DrawCheckRefutation_c (code:=code) hst h0 hx2) ?_))
 rintro _ w5 ⟨H5,l5,r5_0,r5_1,rfl,hr5_0,hst⟩
 refine mV (.tuple #[r5_0,r5_1]) rfl (L_ex (v:=r5_0) rfl rfl rfl (L_ex (v:=r5_1) rfl rfl rfl (aV r5_0 rfl (aV r5_1 rfl (nq ?_)))))
 obtain ⟨x13,hx13,hF⟩:=bind_some hF
 refine W_region (mV r5_0 rfl (mV r5_1 rfl ?_))
 obtain ⟨H15b,l16,s17,z18,k19⟩:=hst.borrow
 have hb20 : (rS 63 (rStep 117)).rel H15b [r5_1] x2.2:=fz_own 0 z18 rfl
 refine L_call rfl Try.call19 (ops2 rfl rfl) (i_CheckRefutation_c (list:=x2.1) (steps:=x2.2) s17 (RP.mono _ hr5_0 l16) hb20 hx13) ?_
 rintro _ w21 ⟨rfl,hst⟩
 have hst:=k19 hst c0
 refine aB rfl (nq (W_seq ?_))
 obtain ⟨x28,hx28,hF⟩:=bind_some hF
 obtain ⟨R30,hR30⟩:=exR fun f w_=>f 3 = r5_0∧f 4 = r5_1∧f 5 = Bo x13∧f 26 = Bo ((x13 != x28) || (!x13))∧Star H5 w_ ([oF 63 (rStep 117) r5_1 x2.2])
 refine W_join R30 ?_ ?_
 refine W_region (mB rfl (mV r5_0 rfl (mV r5_1 rfl ?_)))
 obtain ⟨H31b,l32,s33,z34,k35⟩:=hst.borrow
 have hb36 : (rS 63 (rStep 117)).rel H31b [r5_1] x2.2:=fz_own 0 z34 rfl
 refine L_call rfl Try.call16 (ops2 rfl rfl) (s_CheckRefutation_c (list:=x2.1) (steps:=x2.2) s33 (RP.mono _ hr5_0 l32) hb36 hx28) ?_
 rintro _ w37 ⟨rfl,hst⟩
 have hst:=k35 hst c0
 refine L_bneq (b:=x13) (c:=x28) rfl Try.underlying4 rfl rfl (mB rfl (L_split (d:=23) (b:=(x13 != x28)) rfl (fun hc38=>?_) (fun hc38=>?_)))
 refine ps rfl (ps rfl (L_pick (v:=Bo ((x13 != x28) || (!x13))) rfl rfl (or_t hc38) (nn (rj hR30 ⟨rfl,rfl,rfl,rfl,hst⟩))))
 refine mB rfl (L_not_ rfl rfl (L_pick (v:=Bo ((x13 != x28) || (!x13))) rfl rfl (or_f hc38 rfl) (nn (rj hR30 ⟨rfl,rfl,rfl,rfl,hst⟩))))
 intro f w_ hR
 obtain ⟨sf3,sf4,sf5,sf26,hst⟩:=rk hR30 hR
 refine W_cond (b:=((x13 != x28) || (!x13))) sf26 (fun hc39=>?_) (fun hc39=>?_)
 have hF:=(ite_t hc39).symm.trans hF
 refine W_seq ?_
 obtain ⟨x46,hx46,hF⟩:=bind_some hF
 refine W_region (mF sf5 rfl (mF sf3 rfl (mF sf4 rfl ?_)))
 obtain ⟨H48b,l49,s50,z51,k52⟩:=hst.borrow
 have hb53 : (rS 63 (rStep 117)).rel H48b [r5_1] x2.2:=fz_own 0 z51 rfl
 refine L_call rfl Try.call16 (ops2 rfl rfl) (s_CheckRefutation_c (list:=x2.1) (steps:=x2.2) s50 (RP.mono _ hr5_0 l49) hb53 hx46) ?_
 rintro _ w54 ⟨rfl,hst⟩
 have hst:=k52 hst c0
 refine L_beql (b:=x13) (c:=x46) rfl Try.underlying4 rfl rfl (aB rfl (nn (W_ret (retG1 (v1:=Bo (x13 == x46)) Try.results7 rfl ?_))))
 obtain rfl:=so hF
 exact ⟨rfl,(Star.down (Star.keepN 0 hst) l5 c0)⟩
 have hF:=(ite_f hc39).symm.trans hF
 refine W_skip (W_seq (sq (aI rfl (nn ?_))))
 obtain ⟨k57,hk57,hF⟩:=bind_some hF
 obtain ⟨j56,hL56,hF⟩:=bind_some hF
 obtain ⟨R56,hR56⟩:=exR fun f w_=>j56 = .nx ()∧Star H5 w_ ([])
 refine W_join R56 ?_ ?_
 refine W_block ?_
 obtain ⟨I56,hI56⟩:=exI fun n f w_=>∃ i_55 : Nat,∃ suf56 : Nat,suf56 = n∧0≤i_55∧i_55 + suf56 = 0 + k57∧countL (l_FnCheckRefutation_b1 x2) suf56 i_55 () = some j56∧f 3 = r5_0∧f 6 = I i_55∧Star H5 w_ ([])
 refine W_loop I56 (n:=k57) ?_ ?_
 exact ij hI56 ⟨0,k57,rfl,Nat.le_refl _,rfl,hL56,sf3,rfl,(Star.keepN 0 hst)⟩
 intro n56 f w_ hI
 obtain ⟨i_55,suf56,rfl,hs56,hl56,hL56,sf3,sf6,hst⟩:=ik hI56 hI
 refine W_seq (sq (mF sf6 rfl (L_lss rfl rfl rfl (nn (W_cond (b:=decide ((i_55 : Int) < 4096)) rfl (fun hc58=>?_) (fun hc58=>?_))))))
 have hlt56:=of_decide_eq_true hc58
 rcases suf56 with _ | rest56
 exact absurd hlt56 (cntF_no hl56 hk57)
 obtain ⟨o56,hB56,hL56⟩:=count_succ hL56
 rw [l_FnCheckRefutation_b1] at hB56
 refine W_skip (W_seq (W_block (W_seq ?_)))
 obtain ⟨x64,hx64,hB56⟩:=bind_some hB56
 obtain ⟨x73,hx73,hB56⟩:=bind_some hB56
 refine W_region (mF sf3 rfl (mF sf6 rfl ?_))
 obtain ⟨H75b,l76,s77,z78,k79⟩:=hst.borrow
 refine L_call rfl Try.call30 (ops1 rfl) (l_cpValues_c (n_:=(i_55 : Int)) s77 hx64) ?_
 rintro r80_0 w80 ⟨_,rfl,hst⟩
 have hst:=k79 hst (co closed_bool c0)
 obtain ⟨H82b,l83,s84,z85,k86⟩:=hst.borrow
 have hb87 : (rS 4 RP.bool).rel H82b [r80_0] x64:=fz_own 0 z85 rfl
 refine L_call rfl Try.call31 (ops2 rfl rfl) (i_SatisfiesAll_c (list:=x2.1) (values:=x64) s84 (RP.mono _ hr5_0 l83) hb87 hx73) ?_
 rintro _ w88 ⟨rfl,hst⟩
 have hst:=k86 hst c0
 refine nn (W_cond (b:=x73) rfl (fun hc89=>?_) (fun hc89=>?_))
 have hB56:=(ite_t hc89).symm.trans hB56
 refine sq (aB rfl (nn (W_ret (retG1 (v1:=Bo false) Try.results7 rfl ?_))))
 obtain rfl:=so hB56
 obtain rfl:=so hL56
 obtain rfl:=so hF
 exact ⟨rfl,(Star.down (Star.keepN 0 hst) l5 c0)⟩
 have hB56:=(ite_f hc89).symm.trans hB56
 refine W_skip (W_region (mF sf6 rfl (L_add rfl rfl rfl (aI rfl (nn ?_)))))
 obtain rfl:=so hB56
 show ∃ m,m < _∧I56 m _ _
 refine ⟨rest56,Nat.lt_succ_self _,?_⟩
 exact ij hI56 ⟨i_55 + 1,rest56,rfl,by omega,by omega,hL56,sf3,(Eq.trans rfl (congrArg (Value.int .i64) (i64_succ (n:=0 + k57) (by omega) (cntF_le hk57)))),(Star.keepN 0 hst)⟩
 rcases suf56 with _ | _
 obtain rfl:=count_zero hL56
 refine W_exit (rj hR56 ⟨rfl,hst⟩)
 exact absurd (cntF_yes hs56 hl56 hk57) (of_decide_eq_false hc58)
 intro f w_ hR
 obtain ⟨rfl,hst⟩:=rk hR56 hR
 refine sq (aB rfl (nn (W_ret (retG1 (v1:=Bo true) Try.results7 rfl ?_))))
 obtain rfl:=so hF
 exact ⟨rfl,(Star.down hst l5 c0)⟩
end Go.Proofs.Ytiodhgbfceahfaa

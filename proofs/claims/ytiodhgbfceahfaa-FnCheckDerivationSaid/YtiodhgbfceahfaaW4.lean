/- Part of a proof by program: W4. -/
import Derived.Test.YtiodhgbfceahfaaD1
import Derived.Test.YtiodhgbfceahfaaW3
namespace Go.Proofs.Ytiodhgbfceahfaa
open Go Go.E Go.L Go.RowKit
set_option linter.unusedVariables false
set_option linter.unusedSimpArgs false
set_option maxRecDepth 100000
theorem s_RunProof_c {fu : Nat} {list : List Con} {steps : List Step} {v0 : Value} {v1 : Value} {H : FH} {w : World} (hst : Star H w []) (h0 : (rS 41 (rCon 117)).rel H [v0] list) (h1 : (rS 63 (rStep 117)).rel H [v1] steps) {r : (List Con) × Int} (hF : s_RunProof fu list steps = some r) :
 C Try.prog 35 #[v0,v1] w fun v w'=>∃ (u1 : Value),v = .tuple #[u1,I r.2]∧Star H w' [oS 41 (oCon 117) u1 r.1]:=by
 unfold s_RunProof at hF
 refine C_enter Try.func35 rfl Try.ntmps35 rfl (sq (aV S0 rfl (aI rfl (nq (W_seq ?_)))))
 obtain ⟨x6,hx6,hF⟩:=bind_some hF
 refine W_region (mV v0 rfl (mV v1 rfl ?_))
 obtain ⟨H8b,l9,s10,z11,k12⟩:=hst.borrow
 refine L_call rfl Try.call49 (ops2 rfl rfl) (s_l4Fits_c (list:=list) (steps:=steps) s10 (RP.mono _ h0 l9) (RP.mono _ h1 l9) hx6) ?_
 rintro _ w13 ⟨rfl,hst⟩
 have hst:=k12 hst c0
 refine L_not_ rfl rfl (nn (W_cond (b:=(!x6)) rfl (fun hc14=>?_) (fun hc14=>?_)))
 have hF:=(ite_t hc14).symm.trans hF
 refine sq (L_bs rfl parts0 (bs_27_0  ) hst (fun g18 w19 hst=>?_))
 have hst:=Star.mkRow (R:=(OR.frz (rCon 117))) [] [] 0 hst rfl rfl rfl (by decide)
 refine aV (Sl g18 0 0) rfl (aI rfl (nn (W_ret (retG2 (v1:=(Sl g18 0 0)) (v2:=I 0) Try.results35 rfl rfl ?_))))
 obtain rfl:=so hF
 have hst:=Star.recast (R:=(OR.frz (rCon 117))) (R':=(oCon 117)) rfl hst
 exact ⟨(Sl g18 0 0),rfl,hst⟩
 have hF:=(ite_f hc14).symm.trans hF
 refine W_skip (W_seq ?_)
 obtain ⟨x21,hx21,hF⟩:=bind_some hF
 refine W_region (mV v0 rfl (mV v1 rfl (L_call rfl Try.call50 (ops2 rfl rfl) (s_l4Run_c (list:=list) (steps:=steps) hst h0 h1 hx21) ?_)))
 rintro _ w28 ⟨H28,l28,r28_0,r28_1,rfl,hst⟩
 refine mV (.tuple #[.agg #[r28_0,r28_1],I x21.2]) rfl (L_ex (v:=.agg #[r28_0,r28_1]) rfl rfl rfl (L_ex (v:=I x21.2) rfl rfl rfl (L_al (cs:=#[S0,S0]) rfl Try.zeroValue73 rfl hst (fun g31 w32 hst=>L_staB (vs:=#[r28_0,r28_1]) (cs2:=#[r28_0,r28_1]) 0 rfl Try.sizeOf73 rfl rfl rfl (ones_cons (one_len (Star.len 1 hst rfl)) (ones_cons (one_len (Star.len 2 hst rfl)) ones_nil)) hst rfl (by show 0 + 2≤2; decide) rfl (fun w33 hst=>aI rfl (nq (sq (mI rfl (L_geq rfl rfl rfl (nn (W_cond (b:=decide (x21.2 ≥ 0)) rfl (fun hc34=>?_) (fun hc34=>?_))))))))))))
 have hF:=(ite_t hc34).symm.trans hF
 refine sq (L_bs rfl parts0 (bs_27_0  ) hst (fun g38 w39 hst=>?_))
 have hst:=Star.mkRow (R:=(OR.frz (rCon 117))) [] [] 0 hst rfl rfl rfl (by decide)
 refine mI rfl (aV (Sl g38 0 0) rfl (aI rfl (nn (W_ret (retG2 (v1:=(Sl g38 0 0)) (v2:=I x21.2) Try.results35 rfl rfl ?_)))))
 obtain rfl:=so hF
 have hst:=Star.recast (R:=(OR.frz (rCon 117))) (R':=(oCon 117)) rfl hst
 exact ⟨(Sl g38 0 0),rfl,(Star.down (Star.keepN 1 hst) l28 (co closed_oCon c0))⟩
 have hF:=(ite_f hc34).symm.trans hF
 refine W_skip (sq (L_bs rfl parts0 (bs_27_0  ) hst (fun g44 w45 hst=>?_)))
 have hst:=Star.mkRow (R:=(OR.frz (rCon 117))) [] [] 0 hst rfl rfl rfl (by decide)
 refine aV (Sl g44 0 0) rfl (nq ?_)
 obtain ⟨x53,hx53,hF⟩:=bind_some hF
 refine W_region (L_lda (cs:=[r28_0,r28_1]) rfl Try.isAgg73 Try.sizeOf73 rfl (At.sub0 (Blk.at (Star.blkAt 1 hst rfl)) 0 2) rfl ?_)
 have hst:=hst.get 2 rfl
 obtain ⟨H56,l57,hst,hz58⟩:=Star.freeze hst
 have hz58 : (rS 41 (rCon 117)).rel H56 [r28_0] x21.1.list:=hz58
 have hst:=hst.get 2 rfl
 obtain ⟨H59,l60,hst,hz61⟩:=Star.freeze hst
 have hz61 : (rS 4 RP.bool).rel H59 [r28_1] x21.1.gone:=hz61
 refine L_call rfl Try.call57 (ops1 rfl) (s_l4Kept_c (d:=x21.1) hst (RP.mono _ hz58 l60) hz61 hx53) ?_
 rintro r62_0 w62 ⟨H62,l62,_,rfl,hst⟩
 refine aV r62_0 rfl (nq (sq (aI rfl (nn ?_))))
 have hlen67 : List.length x53≤9223372036854775807:=len_le (Star.len 0 hst rfl)
 obtain ⟨j67,hL67,hF⟩:=bind_some hF
 obtain ⟨R67,hR67⟩:=exR fun f w_=>∃ out_65 : List Con,∃ v65_out : Value,j67 = .nx out_65∧f 8 = v65_out∧Star H62 w_ ([oS 41 (oCon 117) v65_out out_65])
 refine W_join R67 ?_ ?_
 refine W_block ?_
 obtain ⟨I67,hI67⟩:=exI fun n f w_=>∃ i_64 : Nat,∃ suf67 : List Con,∃ out_65 : List Con,∃ v65_out : Value,n = suf67.length∧List.drop i_64 x53 = suf67∧i_64 + suf67.length = x53.length∧rangeL s_RunProof_b1 suf67 i_64 out_65 = some j67∧f 8 = v65_out∧f 9 = r62_0∧f 10 = I i_64∧Star H62 w_ ([oS 41 (oCon 117) v65_out out_65,oF 41 (rCon 117) r62_0 x53])
 have hst:=hst.get 1 rfl
 have hst:=Star.recast (R:=(OR.frz (rCon 117))) (R':=(oCon 117)) rfl hst
 refine W_loop I67 (n:=x53.length) ?_ ?_
 exact ij hI67 ⟨0,x53,[],(Sl g44 0 0),rfl,rfl,Nat.zero_add _,hL67,rfl,rfl,rfl,(Star.keepN 2 hst)⟩
 intro n67 f w_ hI
 obtain ⟨i_64,suf67,out_65,v65_out,rfl,hd67,hl67,hL67,sf8,sf9,sf10,hst⟩:=ik hI67 hI
 refine W_seq (sq (mF sf10 rfl (mF sf9 rfl (L_len rfl Try.underlying27 rfl (Star.len 1 hst rfl) (L_lss rfl rfl rfl (nn (W_cond (b:=decide ((i_64 : Int) < (x53.length : Int))) rfl (fun hc68=>?_) (fun hc68=>?_))))))))
 have hlt67:=of_decide_eq_true hc68
 rcases suf67 with _ | ⟨x_67,rest67⟩
 exact absurd hlt67 (by simp at hl67; omega)
 obtain ⟨o67,hB67,hL67⟩:=range_cons hL67
 rw [s_RunProof_b1] at hB67
 have hix67:=drop_idx hd67
 refine W_skip (W_seq (W_block ?_))
 obtain ⟨x78,hx78,hB67⟩:=bind_some hB67
 obtain ⟨x84,hx84,hB67⟩:=bind_some hB67
 refine W_region (mF sf8 rfl (mF sf9 rfl (mF sf10 rfl ?_)))
 obtain ⟨g88,cap_g88,hv89,_,_⟩:=Star.row 1 hst rfl hix67
 refine L_ixO (R:=(OR.frz (rCon 117))) (tb:=0) 0 rfl Try.underlying27 Try.sizeOf41 rfl hv89 (by first | rfl | simp) rfl hix67 ?_
 obtain ⟨cs90,hr90,hat90⟩:=Star.eltF 1 hst rfl hv89 hix67
 obtain ⟨u91_0,rfl,hu91_0⟩:=rCon_iff.1 hr90
 refine L_lda (cs:=[u91_0,I x_67.bound]) rfl Try.isAgg41 Try.sizeOf41 rfl (At.sub hat90 0 2) rfl ?_
 obtain ⟨H92b,l93,s94,z95,k96⟩:=hst.borrow
 refine L_call rfl Try.call81 (ops1 rfl) (s_l1Copy_c (c:=x_67) s94 (RP.mono _ hu91_0 l93) hx78) ?_
 rintro _ w97 ⟨r97_0,rfl,hst⟩
 have hst:=k96 hst (co closed_term c0)
 refine L_bs rfl (parts1 rfl) (bs_27_1_2 (r97_0) (I x78.bound) ) hst (fun g99 w100 hst=>?_)
 have hst:=hst.get 1 rfl
 have hst:=oCon_close (c:=x78) hst
 have hst:=Star.mkRow (R:=(oCon 117)) [([r97_0,I x78.bound],x78)] [x78] 1 hst rfl rfl rfl (by decide)
 have hst:=hst.get 1 rfl
 refine L_appM (v:=v65_out) (u:=(Sl g99 1 1)) rfl et_27 rfl rfl hst hx84 (fun v102 w103 hst=>aV v102 rfl (nn (W_region (mF sf10 rfl (L_add rfl rfl rfl (aI rfl (nn ?_)))))))
 obtain rfl:=so hB67
 show ∃ m,m < _∧I67 m _ _
 refine ⟨rest67.length,by simp,?_⟩
 exact ij hI67 ⟨i_64 + 1,rest67,x84,v102,rfl,drop_next hd67,by simp at hl67; omega,hL67,rfl,sf9,(Eq.trans rfl (congrArg (Value.int .i64) (i64_succ (n:=x53.length) (by simp at hl67; omega) hlen67))),hst⟩
 rcases suf67 with _ | ⟨_,_⟩
 obtain rfl:=range_nil hL67
 refine W_exit (rj hR67 ⟨out_65,v65_out,rfl,sf8,(Star.keepN 1 hst)⟩)
 exact absurd (of_decide_eq_false hc68) (by simp at hl67; omega)
 intro f w_ hR
 obtain ⟨out_65,v65_out,rfl,sf8,hst⟩:=rk hR67 hR
 refine sq (mF sf8 rfl (aV v65_out rfl (aI rfl (nn (W_ret (retG2 (v1:=v65_out) (v2:=I (-1)) Try.results35 rfl rfl ?_))))))
 obtain rfl:=so hF
 exact ⟨v65_out,rfl,(Star.down hst (Le.trans (Le.trans (Le.trans l28 l57) l60) l62) (co closed_oCon c0))⟩
theorem s_l4Step_c {r_ : Rd} {n_ : Int} {g_0 : Nat} {v0_0 : Value} {H : FH} {w : World} (hst : Star H w [box g_0 126 #[v0_0,I r_.p]]) (h0_0 : (rS 5 RP.u8).rel H [v0_0] r_.b) {r : Step × Int} (hF : s_l4Step r_ n_ = some r) :
 C Try.prog 142 #[Pt g_0,I n_] w fun v w'=>∃ (u1 : Value),v = .agg #[I r.1.kind,I r.1.a,I r.1.b,u1,I r.1.given.bound]∧Star H w' [oF 117 rTerm u1 r.1.given.terms,box g_0 126 #[v0_0,I r.2]]:=by
 unfold s_l4Step at hF
 refine C_enter Try.func142 rfl Try.ntmps142 rfl (sq (L_al (cs:=#[I 0,I 0,I 0,S0,I 0]) rfl Try.zeroValue63 rfl hst (fun g3 w4 hst=>nq ?_)))
 obtain ⟨x14,hx14,hF⟩:=bind_some hF
 refine W_region (mV (Pt g_0) rfl (L_bs rfl (parts9 rfl rfl rfl rfl rfl rfl rfl rfl rfl) (bs_105_9_0_0_0_0_0_0_0_0_0 (I 1) (I 1) (I 5) (I 4) (I 3) (I 2) (I 6) (I 7) (I 8) rfl rfl rfl rfl rfl rfl rfl rfl rfl) hst (fun g19 w20 hst=>?_)))
 have hst:=litInts [1,1,5,4,3,2,6,7,8] 9 hst rfl rfl (by decide)
 have hst:=hst.get 2 rfl
 obtain ⟨H22b,l23,s24,z25,k26⟩:=hst.lend [_]
 have hb27 : (rS 3 RP.int).rel H22b [(Sl g19 9 9)] ([1,1,5,4,3,2,6,7,8]):=fz_own 0 z25 rfl
 refine L_call rfl Try.call110 (ops2 rfl rfl) (s_l17Rd_num_c (r_:=r_) (list:=[1,1,5,4,3,2,6,7,8]) s24 (RP.mono _ h0_0 l23) hb27 hx14) ?_
 rintro _ w28 ⟨rfl,hst⟩
 have hst:=k26 hst (cb c0)
 refine L_bld rfl (parts1 rfl) (bld_63_0 (I x14.1) rfl) (L_al (cs:=#[I 0,I 0,I 0,S0,I 0]) rfl Try.zeroValue63 rfl hst (fun g29 w30 hst=>L_staB (vs:=#[I x14.1,I 0,I 0,S0,I 0]) (cs2:=#[I x14.1,I 0,I 0,S0,I 0]) 0 rfl Try.sizeOf63 rfl rfl rfl (ones_cons rfl (ones_cons rfl (ones_cons rfl (ones_cons rfl (ones_cons rfl ones_nil))))) hst rfl (by show 0 + 5≤5; decide) rfl (fun w31 hst=>nq (sq (fA 0 fa_63_0 rfl rfl (ldB 0 hst Try.isAgg3 rfl rfl rfl (nn (W_block (sq (L_eql rfl rfl rfl (aB rfl (nn (W_cond (b:=(x14.1 == 6)) rfl (fun hc32=>?_) (fun hc32=>?_))))))))))))))
 have hF:=(ite_t hc32).symm.trans hF
 refine W_seq ?_
 obtain ⟨x42,hx42,hF⟩:=bind_some hF
 refine W_region (mV (Pt g_0) rfl (L_bs rfl (parts5 rfl rfl rfl rfl rfl) (bs_105_5_0_0_0_0_0 (I 1) (I (-1)) (I 2) (I (-3)) (I 4) rfl rfl rfl rfl rfl) hst (fun g45 w46 hst=>?_)))
 have hst:=litInts [1,(-1),2,(-3),4] 5 hst rfl rfl (by decide)
 have hst:=hst.get 2 rfl
 obtain ⟨H48b,l49,s50,z51,k52⟩:=hst.lend [_]
 have hb53 : (rS 3 RP.int).rel H48b [(Sl g45 5 5)] ([1,(-1),2,(-3),4]):=fz_own 0 z51 rfl
 refine L_call rfl Try.call110 (ops2 rfl rfl) (s_l17Rd_num_c (r_:=({ b:=r_.b,p:=x14.2 } : Rd)) (list:=[1,(-1),2,(-3),4]) s50 (RP.mono _ h0_0 l49) hb53 hx42) ?_
 rintro _ w54 ⟨rfl,hst⟩
 have hst:=k52 hst (cb c0)
 refine fA 1 fa_63_1 rfl rfl (L_stB (v:=I x42.1) (cs2:=#[I x14.1,I x42.1,I 0,S0,I 0]) 2 rfl Try.sizeOf3 rfl rfl rfl hst rfl rfl rfl (fun w55 hst=>ns (L_lda (cs:=[I x14.1,I x42.1,I 0,S0,I 0]) rfl Try.isAgg63 Try.sizeOf63 rfl (At.sub0 (Blk.at (Star.blkAt 0 hst rfl)) 0 5) rfl (L_staB (vs:=#[I x14.1,I x42.1,I 0,S0,I 0]) (cs2:=#[I x14.1,I x42.1,I 0,S0,I 0]) 4 rfl Try.sizeOf63 rfl rfl rfl (ones_cons rfl (ones_cons rfl (ones_cons rfl (ones_cons rfl (ones_cons rfl ones_nil))))) hst rfl (by show 0 + 5≤5; decide) rfl (fun w57 hst=>nn (W_ret (retG1 (v1:=.agg #[I x14.1,I x42.1,I 0,S0,I 0]) Try.results142 (resV_agg Try.isAgg63 Try.sizeOf63 rfl (Star.blkAt 0 hst rfl) rfl) ?_)))))))
 obtain rfl:=so hF
 have hst:=Star.addNil (R:=(OR.frz rTerm)) (e:=117) hst
 have hst:=hst.gets [3,1] rfl
 exact ⟨S0,rfl,(Star.keepN 2 hst)⟩
 have hF:=(ite_f hc32).symm.trans hF
 refine sq (L_eql rfl rfl rfl (aB rfl (nn (W_cond (b:=(x14.1 == 7)) rfl (fun hc59=>?_) (fun hc59=>?_)))))
 have hF:=(ite_t hc59).symm.trans hF
 refine W_seq ?_
 obtain ⟨x65,hx65,hF⟩:=bind_some hF
 refine W_region (mV (Pt g_0) rfl ?_)
 have hst:=hst.get 1 rfl
 obtain ⟨H69b,l70,s71,z72,k73⟩:=hst.lend [_]
 refine L_call rfl Try.call70 (ops2 rfl rfl) (s_l1Draw_c (r_:=({ b:=r_.b,p:=x14.2 } : Rd)) (most:=4) s71 (RP.mono _ h0_0 l70) hx65) ?_
 rintro _ w74 ⟨r74_0,rfl,hst⟩
 have hst:=k73 hst (co closed_term (cb c0))
 refine fA 3 fa_63_3 rfl rfl (L_staB (vs:=#[r74_0,I x65.1.bound]) (cs2:=#[I x14.1,I 0,I 0,r74_0,I x65.1.bound]) 2 rfl Try.sizeOf41 rfl rfl rfl (ones_cons (one_len (Star.len 0 hst rfl)) (ones_cons rfl ones_nil)) hst rfl (by show 3 + 2≤5; decide) rfl (fun w76 hst=>ns (L_lda (cs:=[I x14.1,I 0,I 0,r74_0,I x65.1.bound]) rfl Try.isAgg63 Try.sizeOf63 rfl (At.sub0 (Blk.at (Star.blkAt 0 hst rfl)) 0 5) rfl (L_staB (vs:=#[I x14.1,I 0,I 0,r74_0,I x65.1.bound]) (cs2:=#[I x14.1,I 0,I 0,r74_0,I x65.1.bound]) 4 rfl Try.sizeOf63 rfl rfl rfl (ones_cons rfl (ones_cons rfl (ones_cons rfl (ones_cons (one_len (Star.len 1 hst rfl)) (ones_cons rfl ones_nil))))) hst rfl (by show 0 + 5≤5; decide) rfl (fun w78 hst=>nn (W_ret (retG1 (v1:=.agg #[I x14.1,I 0,I 0,r74_0,I x65.1.bound]) Try.results142 (resV_agg Try.isAgg63 Try.sizeOf63 rfl (Star.blkAt 0 hst rfl) rfl) ?_)))))))
 obtain rfl:=so hF
 have hst:=hst.gets [3,3] rfl
 exact ⟨r74_0,rfl,(Star.keepN 2 hst)⟩
 have hF:=(ite_f hc59).symm.trans hF
 refine W_skip (W_seq ?_)
 obtain ⟨x84,hx84,hF⟩:=bind_some hF
 refine W_region (mV (Pt g_0) rfl (mI rfl (L_add rfl rfl rfl ?_)))
 have hst:=hst.get 1 rfl
 obtain ⟨H87b,l88,s89,z90,k91⟩:=hst.lend [_]
 refine L_call rfl Try.call71 (ops2 rfl rfl) (s_l17Rd_pick_c (r_:=({ b:=r_.b,p:=x14.2 } : Rd)) (n_:=i64 (n_ + 1)) s89 (RP.mono _ h0_0 l88) hx84) ?_
 rintro _ w92 ⟨rfl,hst⟩
 have hst:=k91 hst (cb c0)
 refine fA 1 fa_63_1 rfl rfl (L_stB (v:=I x84.1) (cs2:=#[I x14.1,I x84.1,I 0,S0,I 0]) 1 rfl Try.sizeOf3 rfl rfl rfl hst rfl rfl rfl (fun w93 hst=>nq (sq (fA 0 fa_63_0 rfl rfl (ldB 0 hst Try.isAgg3 rfl rfl rfl (nn (W_block (sq (L_eql rfl rfl rfl (aB rfl (nn ?_)))))))))))
 obtain ⟨⟨g_0_1_94,g29_2_95⟩,hA96,hF⟩:=bind_some hF
 obtain ⟨R96,hR96⟩:=exR fun f w_=>f 4 = Pt g3∧f 5 = Pt g29∧Star H w_ ([box g_0 126 #[v0_0,I g_0_1_94],box g29 63 #[I x14.1,I x84.1,I g29_2_95,S0,I 0],box g3 63 #[I 0,I 0,I 0,S0,I 0]])
 refine W_join R96 ?_ ?_
 refine W_cond (b:=(x14.1 == 1)) rfl (fun hc97=>?_) (fun hc97=>?_)
 have hA96:=(ite_t hc97).symm.trans hA96
 obtain ⟨x103,hx103,hA96⟩:=bind_some hA96
 refine W_region (mV (Pt g_0) rfl (mI rfl (L_add rfl rfl rfl ?_)))
 have hst:=hst.get 1 rfl
 obtain ⟨H106b,l107,s108,z109,k110⟩:=hst.lend [_]
 refine L_call rfl Try.call71 (ops2 rfl rfl) (s_l17Rd_pick_c (r_:=({ b:=r_.b,p:=x84.2 } : Rd)) (n_:=i64 (n_ + 1)) s108 (RP.mono _ h0_0 l107) hx103) ?_
 rintro _ w111 ⟨rfl,hst⟩
 have hst:=k110 hst (cb c0)
 refine fA 2 fa_63_2 rfl rfl (L_stB (v:=I x103.1) (cs2:=#[I x14.1,I x84.1,I x103.1,S0,I 0]) 1 rfl Try.sizeOf3 rfl rfl rfl hst rfl rfl rfl (fun w112 hst=>nn ?_))
 obtain ⟨rfl,rfl⟩:=so2 hA96
 have hst:=hst.gets [3,1,2] rfl
 exact rj hR96 ⟨rfl,rfl,(Star.keepN 3 hst)⟩
 have hA96:=(ite_f hc97).symm.trans hA96
 refine W_seq (sq (L_eql rfl rfl rfl (aB rfl (nn ?_))))
 obtain ⟨t39_113,hA114,hA96⟩:=bind_some hA96
 obtain ⟨R114,hR114⟩:=exR fun f w_=>f 0 = Pt g_0∧f 4 = Pt g3∧f 5 = Pt g29∧f 31 = I x14.1∧f 39 = Bo t39_113∧Star H w_ ([box g_0 126 #[v0_0,I x84.2],box g29 63 #[I x14.1,I x84.1,I 0,S0,I 0],box g3 63 #[I 0,I 0,I 0,S0,I 0]])
 refine W_join R114 ?_ ?_
 refine W_cond (b:=(x14.1 == 2)) rfl (fun hc115=>?_) (fun hc115=>?_)
 have hA114:=(ite_t hc115).symm.trans hA114
 refine W_skip ?_
 obtain rfl:=so hA114
 have hst:=hst.gets [3,1,2] rfl
 exact rj hR114 ⟨rfl,rfl,rfl,rfl,rfl,(Star.keepN 3 hst)⟩
 have hA114:=(ite_f hc115).symm.trans hA114
 refine W_region (L_eql rfl rfl rfl (aB rfl (nn ?_)))
 obtain rfl:=so hA114
 have hst:=hst.gets [3,1,2] rfl
 exact rj hR114 ⟨rfl,rfl,rfl,rfl,rfl,(Star.keepN 3 hst)⟩
 intro f w_ hR
 obtain ⟨sf0,sf4,sf5,sf31,sf39,hst⟩:=rk hR114 hR
 obtain ⟨⟨g_0_1_116,g29_2_117⟩,hA118,hA96⟩:=bind_some hA96
 obtain ⟨R118,hR118⟩:=exR fun f w_=>f 4 = Pt g3∧f 5 = Pt g29∧Star H w_ ([box g_0 126 #[v0_0,I g_0_1_116],box g29 63 #[I x14.1,I x84.1,I g29_2_117,S0,I 0],box g3 63 #[I 0,I 0,I 0,S0,I 0]])
 refine W_join R118 ?_ ?_
 refine W_cond (b:=t39_113) sf39 (fun hc119=>?_) (fun hc119=>?_)
 have hA118:=(ite_t hc119).symm.trans hA118
 obtain ⟨x129,hx129,hA118⟩:=bind_some hA118
 refine W_region (mF sf0 rfl (L_bs rfl (parts3 rfl rfl rfl) (bs_105_3_0_0_0 (I 2) (I 3) (I 1) rfl rfl rfl) hst (fun g132 w133 hst=>?_)))
 have hst:=litInts [2,3,1] 3 hst rfl rfl (by decide)
 have hst:=hst.get 1 rfl
 obtain ⟨H135b,l136,s137,z138,k139⟩:=hst.lend [_]
 have hb140 : (rS 3 RP.int).rel H135b [(Sl g132 3 3)] ([2,3,1]):=fz_own 0 z138 rfl
 refine L_call rfl Try.call110 (ops2 rfl rfl) (s_l17Rd_num_c (r_:=({ b:=r_.b,p:=x84.2 } : Rd)) (list:=[2,3,1]) s137 (RP.mono _ h0_0 l136) hb140 hx129) ?_
 rintro _ w141 ⟨rfl,hst⟩
 have hst:=k139 hst (cb c0)
 refine fA 2 fa_63_2 sf5 rfl (L_stB (v:=I x129.1) (cs2:=#[I x14.1,I x84.1,I x129.1,S0,I 0]) 2 rfl Try.sizeOf3 rfl rfl rfl hst rfl rfl rfl (fun w142 hst=>nn ?_))
 obtain ⟨rfl,rfl⟩:=so2 hA118
 have hst:=hst.gets [3,1,2] rfl
 exact rj hR118 ⟨sf4,sf5,(Star.keepN 3 hst)⟩
 have hA118:=(ite_f hc119).symm.trans hA118
 refine sq (L_eql rfl sf31 rfl (aB rfl (nn ?_)))
 obtain ⟨⟨g_0_1_143,g29_2_144⟩,hA145,hA118⟩:=bind_some hA118
 obtain ⟨R145,hR145⟩:=exR fun f w_=>f 4 = Pt g3∧f 5 = Pt g29∧Star H w_ ([box g_0 126 #[v0_0,I g_0_1_143],box g29 63 #[I x14.1,I x84.1,I g29_2_144,S0,I 0],box g3 63 #[I 0,I 0,I 0,S0,I 0]])
 refine W_join R145 ?_ ?_
 refine W_cond (b:=(x14.1 == 5)) rfl (fun hc146=>?_) (fun hc146=>?_)
 have hA145:=(ite_t hc146).symm.trans hA145
 obtain ⟨x152,hx152,hA145⟩:=bind_some hA145
 refine W_region (mF sf0 rfl ?_)
 obtain ⟨H155b,l156,s157,z158,k159⟩:=hst.lend [_]
 refine L_call rfl Try.call71 (ops2 rfl rfl) (s_l17Rd_pick_c (r_:=({ b:=r_.b,p:=x84.2 } : Rd)) (n_:=5) s157 (RP.mono _ h0_0 l156) hx152) ?_
 rintro _ w160 ⟨rfl,hst⟩
 have hst:=k159 hst (cb c0)
 refine L_add rfl rfl rfl (fA 2 fa_63_2 sf5 rfl (L_stB (v:=I (i64 (1 + x152.1))) (cs2:=#[I x14.1,I x84.1,I (i64 (1 + x152.1)),S0,I 0]) 1 rfl Try.sizeOf3 rfl rfl rfl hst rfl rfl rfl (fun w161 hst=>nn ?_)))
 obtain ⟨rfl,rfl⟩:=so2 hA145
 have hst:=hst.gets [2,1,2] rfl
 exact rj hR145 ⟨sf4,sf5,hst⟩
 have hA145:=(ite_f hc146).symm.trans hA145
 refine W_skip ?_
 obtain ⟨rfl,rfl⟩:=so2 hA145
 exact rj hR145 ⟨sf4,sf5,hst⟩
 intro f w_ hR
 obtain ⟨sf4,sf5,hst⟩:=rk hR145 hR
 obtain ⟨rfl,rfl⟩:=so2 hA118
 exact rj hR118 ⟨sf4,sf5,hst⟩
 intro f w_ hR
 obtain ⟨sf4,sf5,hst⟩:=rk hR118 hR
 obtain ⟨rfl,rfl⟩:=so2 hA96
 exact rj hR96 ⟨sf4,sf5,hst⟩
 intro f w_ hR
 obtain ⟨sf4,sf5,hst⟩:=rk hR96 hR
 refine sq (L_lda (cs:=[I x14.1,I x84.1,I g29_2_95,S0,I 0]) rfl Try.isAgg63 Try.sizeOf63 sf5 (At.sub0 (Blk.at (Star.blkAt 1 hst rfl)) 0 5) rfl (L_staB (vs:=#[I x14.1,I x84.1,I g29_2_95,S0,I 0]) (cs2:=#[I x14.1,I x84.1,I g29_2_95,S0,I 0]) 2 rfl Try.sizeOf63 sf4 rfl rfl (ones_cons rfl (ones_cons rfl (ones_cons rfl (ones_cons rfl (ones_cons rfl ones_nil))))) hst rfl (by show 0 + 5≤5; decide) rfl (fun w163 hst=>nn (W_ret (retG1 (v1:=.agg #[I x14.1,I x84.1,I g29_2_95,S0,I 0]) Try.results142 (resV_agg Try.isAgg63 Try.sizeOf63 sf4 (Star.blkAt 0 hst rfl) rfl) ?_)))))
 obtain rfl:=so hF
 have hst:=Star.addNil (R:=(OR.frz rTerm)) (e:=117) hst
 have hst:=hst.gets [2,1] rfl
 exact ⟨S0,rfl,(Star.keepN 2 hst)⟩
theorem s_l4Random_c {fu : Nat} {r_ : Rd} {list : List Con} {g_0 : Nat} {v0_0 : Value} {v1 : Value} {H : FH} {w : World} {R : List Ass} (hst : Star H w (box g_0 126 #[v0_0,I r_.p] :: R)) (h0_0 : (rS 5 RP.u8).rel H [v0_0] r_.b) (h1 : (rS 41 (rCon 117)).rel H [v1] list) {r : (List Step) × Int} (hF : s_l4Random fu r_ list = some r) :
 C Try.prog 118 #[Pt g_0,v1] w fun v w'=>∃ H' : FH,Le H H'∧∃ (u1 : Value),v = u1∧Star H' w' (oF 63 (rStep 117) u1 r.1 :: box g_0 126 #[v0_0,I r.2] :: R):=by
 unfold s_l4Random at hF
 refine C_enter Try.func118 rfl Try.ntmps118 rfl (sq (aV S0 rfl (ns (L_bs rfl parts0 (bs_29_0  ) hst (fun g4 w5 hst=>?_)))))
 have hst:=Star.mkRow (R:=(OR.frz (rStep 117))) [] [] 0 hst rfl rfl rfl (by decide)
 refine aV (Sl g4 0 0) rfl (nq (W_seq ?_))
 obtain ⟨x16,hx16,hF⟩:=bind_some hF
 refine W_region (mV (Pt g_0) rfl (L_bs rfl (parts6 rfl rfl rfl rfl rfl rfl) (bs_105_6_0_0_0_0_0_0 (I 4) (I 6) (I 3) (I 8) (I 1) (I 0) rfl rfl rfl rfl rfl rfl) hst (fun g18 w19 hst=>?_)))
 have hst:=litInts [4,6,3,8,1,0] 6 hst rfl rfl (by decide)
 have hst:=hst.get 2 rfl
 obtain ⟨H21b,l22,s23,z24,k25⟩:=hst.lend [_]
 have hb26 : (rS 3 RP.int).rel H21b [(Sl g18 6 6)] ([4,6,3,8,1,0]):=fz_own 0 z24 rfl
 refine L_call rfl Try.call110 (ops2 rfl rfl) (s_l17Rd_num_c (r_:=r_) (list:=[4,6,3,8,1,0]) s23 (RP.mono _ h0_0 l22) hb26 hx16) ?_
 rintro _ w27 ⟨rfl,hst⟩
 have hst:=k25 hst (cb c0)
 refine aI rfl (nn ?_)
 obtain ⟨j35,hL35,hF⟩:=bind_some hF
 obtain ⟨R35,hR35⟩:=exR fun f w_=>∃ out_29 : List Step,∃ i_31 : Int,∃ g_0_1_32 : Int,∃ H33 : FH,∃ v29_out : Value,j35 = .nx (out_29,i_31,g_0_1_32)∧Le H H33∧f 5 = v29_out∧Star H33 w_ (oF 63 (rStep 117) v29_out out_29 :: box g_0 126 #[v0_0,I g_0_1_32] :: R)
 refine W_join R35 ?_ ?_
 refine W_block ?_
 obtain ⟨I35,hI35⟩:=exI fun n f w_=>∃ out_29 : List Step,∃ i_31 : Int,∃ g_0_1_32 : Int,∃ H33 : FH,∃ v29_out : Value,whileL (s_l4Random_b1 fu r_ list) n (out_29,i_31,g_0_1_32) = some j35∧Le H H33∧f 0 = Pt g_0∧f 1 = v1∧f 5 = v29_out∧f 6 = I i_31∧Star H33 w_ (oF 63 (rStep 117) v29_out out_29 :: box g_0 126 #[v0_0,I g_0_1_32] :: R)
 have hst:=hst.get 2 rfl
 have hst:=Star.drop 2 hst rfl
 refine W_loop I35 (n:=fu) ?_ ?_
 exact ij hI35 ⟨[],x16.1,x16.2,H,(Sl g4 0 0),hL35,(Le.refl _),rfl,rfl,rfl,rfl,hst⟩
 intro n35 f w_ hI
 obtain ⟨out_29,i_31,g_0_1_32,H33,v29_out,hL35,l34,sf0,sf1,sf5,sf6,hst⟩:=ik hI35 hI
 rcases n35 with _ | n35
 exact (while_zero hL35).elim
 obtain ⟨o35,hB35,hL35⟩:=while_succ hL35
 rw [s_l4Random_b1] at hB35
 refine W_seq (sq (mF sf6 rfl (L_gtr rfl rfl rfl (nn (W_cond (b:=decide (i_31 > 0)) rfl (fun hc36=>?_) (fun hc36=>?_))))))
 have hB35:=(ite_t hc36).symm.trans hB35
 refine W_skip (W_seq (W_block (W_seq ?_)))
 obtain ⟨x40,hx40,hB35⟩:=bind_some hB35
 obtain ⟨x49,hx49,hB35⟩:=bind_some hB35
 obtain ⟨x55,hx55,hB35⟩:=bind_some hB35
 refine W_region (L_bs rfl parts0 (bs_29_0  ) hst (fun g61 w62 hst=>?_))
 have hst:=Star.mkRow (R:=(OR.frz (rStep 117))) [] [] 0 hst rfl rfl rfl (by decide)
 refine mF sf5 rfl (L_appC (v:=(Sl g61 0 0)) (u:=v29_out) rfl et_29 rfl rfl hst hx40 (fun v64 w65 hst=>mF sf0 rfl (mF sf1 rfl (L_len rfl Try.underlying27 rfl (slice_len (RP.mono _ h1 l34)) (mF sf5 rfl (L_len rfl Try.underlying29 rfl (Star.len 1 hst rfl) (L_add rfl rfl rfl ?_)))))))
 have hst:=hst.get 2 rfl
 obtain ⟨H67b,l68,s69,z70,k71⟩:=hst.lend [_]
 refine L_call rfl Try.call142 (ops2 rfl rfl) (s_l4Step_c (r_:=({ b:=r_.b,p:=g_0_1_32 } : Rd)) (n_:=i64 ((list.length : Int) + (out_29.length : Int))) s69 (RP.mono _ h0_0 (Le.trans l34 l68)) hx49) ?_
 rintro _ w72 ⟨r72_0,rfl,hst⟩
 have hst:=k71 hst (co closed_term (cb c0))
 refine L_bs rfl (parts1 rfl) (bs_29_1_5 (I x49.1.kind) (I x49.1.a) (I x49.1.b) (r72_0) (I x49.1.given.bound) ) hst (fun g74 w75 hst=>?_)
 have hst:=hst.get 1 rfl
 have hst:=oStep_close (s:=x49.1) hst
 have hst:=Star.mkRow (R:=(oStep 117)) [([I x49.1.kind,I x49.1.a,I x49.1.b,r72_0,I x49.1.given.bound],x49.1)] [x49.1] 1 hst rfl rfl rfl (by decide)
 obtain ⟨H77,l78,hst⟩:=Star.shallow hst
 have hst : Star H77 w75 (oF 63 (rStep 117) (Sl g74 1 1) ([x49.1]) :: _):=hst
 have hst:=hst.get 2 rfl
 refine L_appM (v:=v64) (u:=(Sl g74 1 1)) rfl et_29 rfl rfl hst hx55 (fun v79 w80 hst=>aV v79 rfl (nq ?_))
 obtain ⟨x88,hx88,hB35⟩:=bind_some hB35
 refine W_region (mF sf1 rfl (mV v79 rfl ?_))
 obtain ⟨H91b,l92,s93,z94,k95⟩:=hst.borrow
 have hb96 : (rS 63 (rStep 117)).rel H91b [v79] x55:=fz_own 0 z94 rfl
 refine L_call rfl Try.call35 (ops2 rfl rfl) (s_RunProof_c (list:=list) (steps:=x55) s93 (RP.mono _ h1 (Le.trans (Le.trans l34 l78) l92)) hb96 hx88) ?_
 rintro _ w97 ⟨r97_0,rfl,hst⟩
 have hst:=k95 hst (co closed_oCon c0)
 refine mV (.tuple #[r97_0,I x88.2]) rfl (L_ex (v:=r97_0) rfl rfl rfl (L_ex (v:=I x88.2) rfl rfl rfl (aV r97_0 rfl (aI rfl (nq ?_)))))
 obtain ⟨b106,hb106,hB35⟩:=bind_some hB35
 obtain ⟨R107,hR107⟩:=exR fun f w_=>f 0 = Pt g_0∧f 1 = v1∧f 5 = v29_out∧f 6 = I i_31∧f 7 = v79∧f 42 = Bo b106.1∧Star H77 w_ (oF 63 (rStep 117) v29_out out_29 :: oF 63 (rStep 117) v79 x55 :: box g_0 126 #[v0_0,I b106.2] :: R)
 refine W_join R107 ?_ ?_
 refine W_region (mI rfl (L_lss rfl rfl rfl (mB rfl (L_split (d:=38) (b:=decide (x88.2 < 0)) rfl (fun hc108=>?_) (fun hc108=>?_)))))
 rw [ite_t hc108] at hb106
 refine ps rfl (ps rfl (ps rfl (L_pick (v:=Bo b106.1) rfl rfl (congrArg (fun z : Bool × Int=>Value.bool z.1) (so hb106)) ?_)))
 have hst:=hst.get 2 rfl
 have hst : Star H77 w97 (box g_0 126 #[v0_0,I b106.2] :: oS 41 (oCon 117) r97_0 x88.1 :: oF 63 (rStep 117) v79 x55 :: oF 63 (rStep 117) v29_out out_29 :: R):=by rw [← so hb106]; exact hst
 refine nn ?_
 have hst:=hst.gets [2,3] rfl
 have hst:=Star.drop 3 hst rfl
 exact rj hR107 ⟨sf0,sf1,sf5,sf6,rfl,rfl,hst⟩
 rw [ite_f hc108] at hb106
 obtain ⟨x104,hx104,hb106⟩:=bind_some hb106
 refine mF sf0 rfl ?_
 have hst:=hst.get 2 rfl
 obtain ⟨H109b,l110,s111,z112,k113⟩:=hst.lend [_]
 refine L_call rfl Try.call71 (ops2 rfl rfl) (s_l17Rd_pick_c (r_:=({ b:=r_.b,p:=x49.2 } : Rd)) (n_:=30) s111 (RP.mono _ h0_0 (Le.trans (Le.trans l34 l78) l110)) hx104) ?_
 rintro _ w114 ⟨rfl,hst⟩
 have hst:=k113 hst (cb c0)
 refine L_eql rfl rfl rfl (L_pick (v:=Bo b106.1) rfl rfl (congrArg (fun z : Bool × Int=>Value.bool z.1) (so hb106)) ?_)
 have hst : Star H77 w114 (box g_0 126 #[v0_0,I b106.2] :: oS 41 (oCon 117) r97_0 x88.1 :: oF 63 (rStep 117) v79 x55 :: oF 63 (rStep 117) v29_out out_29 :: R):=by rw [← so hb106]; exact hst
 refine nn ?_
 have hst:=hst.gets [2,3] rfl
 have hst:=Star.drop 3 hst rfl
 exact rj hR107 ⟨sf0,sf1,sf5,sf6,rfl,rfl,hst⟩
 intro f w_ hR
 obtain ⟨sf0,sf1,sf5,sf6,sf7,sf42,hst⟩:=rk hR107 hR
 obtain ⟨out_115,hA117,hB35⟩:=bind_some hB35
 obtain ⟨R117,hR117⟩:=exR fun f w_=>∃ v115_out : Value,f 0 = Pt g_0∧f 1 = v1∧f 5 = v115_out∧f 6 = I i_31∧Star H77 w_ (oF 63 (rStep 117) v115_out out_115 :: box g_0 126 #[v0_0,I b106.2] :: R)
 refine W_join R117 ?_ ?_
 refine W_cond (b:=b106.1) sf42 (fun hc118=>?_) (fun hc118=>?_)
 have hA117:=(ite_t hc118).symm.trans hA117
 refine W_region (mF sf7 rfl (aV v79 rfl (nn ?_)))
 obtain rfl:=so hA117
 have hst:=hst.gets [2,2] rfl
 have hst:=Star.drop 2 hst rfl
 exact rj hR117 ⟨v79,sf0,sf1,rfl,sf6,hst⟩
 have hA117:=(ite_f hc118).symm.trans hA117
 refine W_skip ?_
 obtain rfl:=so hA117
 have hst:=hst.gets [2,1] rfl
 have hst:=Star.drop 2 hst rfl
 exact rj hR117 ⟨v29_out,sf0,sf1,sf5,sf6,hst⟩
 intro f w_ hR
 obtain ⟨v115_out,sf0,sf1,sf5,sf6,hst⟩:=rk hR117 hR
 refine W_region (mF sf6 rfl (L_sub rfl rfl rfl (aI rfl (nn ?_))))
 obtain rfl:=so hB35
 show ∃ m,m < _∧I35 m _ _
 refine ⟨n35,Nat.lt_succ_self _,?_⟩
 exact ij hI35 ⟨out_115,i64 (i_31 - 1),b106.2,H77,v115_out,hL35,(Le.trans l34 l78),sf0,sf1,sf5,rfl,hst⟩
 have hB35:=(ite_f hc36).symm.trans hB35
 refine W_exit ?_
 obtain rfl:=so hB35
 obtain rfl:=so hL35
 exact rj hR35 ⟨out_29,i_31,g_0_1_32,H33,v29_out,rfl,l34,sf5,hst⟩
 intro f w_ hR
 obtain ⟨out_29,i_31,g_0_1_32,H33,v29_out,rfl,l34,sf5,hst⟩:=rk hR35 hR
 refine sq (mF sf5 rfl (aV v29_out rfl (nn (W_ret (retG1 (v1:=v29_out) Try.results118 rfl ?_)))))
 obtain rfl:=so hF
 exact ⟨H33,l34,v29_out,rfl,hst⟩
theorem s_l4Refuted_c {fu : Nat} {r_ : Rd} {g_0 : Nat} {v0_0 : Value} {H : FH} {w : World} {R : List Ass} (hst : Star H w (box g_0 126 #[v0_0,I r_.p] :: R)) (h0_0 : (rS 5 RP.u8).rel H [v0_0] r_.b) {r : (List Con) × (List Step) × Int} (hF : s_l4Refuted fu r_ = some r) :
 C Try.prog 86 #[Pt g_0] w fun v w'=>∃ H' : FH,Le H H'∧∃ (u1 : Value) (u2 : Value),v = .tuple #[u1,u2]∧(rS 41 (rCon 117)).rel H' [u1] r.1∧Star H' w' (oF 63 (rStep 117) u2 r.2.1 :: box g_0 126 #[v0_0,I r.2.2] :: R):=by
 unfold s_l4Refuted at hF
 refine C_enter Try.func86 rfl Try.ntmps86 rfl (sq (aV S0 rfl (aV S0 rfl (nq ?_))))
 obtain ⟨x6,hx6,hF⟩:=bind_some hF
 refine W_region (mV (Pt g_0) rfl ?_)
 obtain ⟨H9b,l10,s11,z12,k13⟩:=hst.lend [_]
 refine L_call rfl Try.call69 (ops1 rfl) (s_l3Problem_c (r_:=r_) s11 (RP.mono _ h0_0 l10) hx6) ?_
 rintro r14_0 w14 ⟨_,rfl,hst⟩
 have hst:=k13 hst (co closed_oCon (cb c0))
 refine aV r14_0 rfl (nq ?_)
 obtain ⟨x21,hx21,hF⟩:=bind_some hF
 refine W_region (mV (Pt g_0) rfl ?_)
 have hst:=hst.get 1 rfl
 obtain ⟨H23b,l24,s25,z26,k27⟩:=hst.lend [_]
 refine L_call rfl Try.call71 (ops2 rfl rfl) (s_l17Rd_pick_c (r_:=({ b:=r_.b,p:=x6.2 } : Rd)) (n_:=3) s25 (RP.mono _ h0_0 l24) hx21) ?_
 rintro _ w28 ⟨rfl,hst⟩
 have hst:=k27 hst (cb c0)
 refine L_add rfl rfl rfl (aI rfl (nq ?_))
 obtain ⟨x35,hx35,hF⟩:=bind_some hF
 refine W_region (mV r14_0 rfl (mI rfl (L_bld rfl (parts2 rfl rfl) (bld_117_0_1 (I 1) (I (i64 (1 + x21.1))) rfl rfl) (L_bld rfl (parts2 rfl rfl) (bld_117_0_1 (I 1) (I 5) rfl rfl) (L_bs rfl (parts2 rfl rfl) (bs_39_2_2_2 (I 1) (I (i64 (1 + x21.1))) (I 1) (I 5) ) hst (fun g39 w40 hst=>?_))))))
 have hst:=Star.addF (r:=rTerm) (cs:=[I 1,I 5]) (x:=({ coef:=1,lit:=5 } : Term)) hst (rTerm_iff.2 rfl)
 have hst:=Star.addF (r:=rTerm) (cs:=[I 1,I (i64 (1 + x21.1))]) (x:=({ coef:=1,lit:=i64 (1 + x21.1) } : Term)) hst (rTerm_iff.2 rfl)
 have hst:=Star.mkRow (R:=(OR.frz rTerm)) [([I 1,I (i64 (1 + x21.1))],({ coef:=1,lit:=i64 (1 + x21.1) } : Term)),([I 1,I 5],({ coef:=1,lit:=5 } : Term))] [({ coef:=1,lit:=i64 (1 + x21.1) } : Term),({ coef:=1,lit:=5 } : Term)] 2 hst rfl rfl rfl (by decide)
 refine L_bld rfl (parts2 rfl rfl) (bld_41_0_1 ((Sl g39 2 2)) (I 2) (one_len (Star.len 0 hst rfl)) rfl) (L_bs rfl (parts1 rfl) (bs_27_1_2 ((Sl g39 2 2)) (I 2) ) hst (fun g42 w43 hst=>?_))
 have hst:=hst.get 1 rfl
 have hst:=oCon_close (c:=({ terms:=[({ coef:=1,lit:=i64 (1 + x21.1) } : Term),({ coef:=1,lit:=5 } : Term)],bound:=2 } : Con)) hst
 have hst:=Star.mkRow (R:=(oCon 117)) [([(Sl g39 2 2),I 2],({ terms:=[({ coef:=1,lit:=i64 (1 + x21.1) } : Term),({ coef:=1,lit:=5 } : Term)],bound:=2 } : Con))] [({ terms:=[({ coef:=1,lit:=i64 (1 + x21.1) } : Term),({ coef:=1,lit:=5 } : Term)],bound:=2 } : Con)] 1 hst rfl rfl rfl (by decide)
 have hst:=hst.get 2 rfl
 refine L_appM (v:=r14_0) (u:=(Sl g42 1 1)) rfl et_27 rfl rfl hst hx35 (fun v45 w46 hst=>aV v45 rfl (nq ?_))
 obtain ⟨x54,hx54,hF⟩:=bind_some hF
 refine W_region (mV v45 rfl (mI rfl (L_neg rfl rfl (L_bld rfl (parts2 rfl rfl) (bld_117_0_1 (I 1) (I (i64 (-(i64 (1 + x21.1))))) rfl rfl) (L_bld rfl (parts2 rfl rfl) (bld_117_0_1 (I 1) (I (-5)) rfl rfl) (L_bs rfl (parts2 rfl rfl) (bs_39_2_2_2 (I 1) (I (i64 (-(i64 (1 + x21.1))))) (I 1) (I (-5)) ) hst (fun g58 w59 hst=>?_)))))))
 have hst:=Star.addF (r:=rTerm) (cs:=[I 1,I (-5)]) (x:=({ coef:=1,lit:=(-5) } : Term)) hst (rTerm_iff.2 rfl)
 have hst:=Star.addF (r:=rTerm) (cs:=[I 1,I (i64 (-(i64 (1 + x21.1))))]) (x:=({ coef:=1,lit:=i64 (-(i64 (1 + x21.1))) } : Term)) hst (rTerm_iff.2 rfl)
 have hst:=Star.mkRow (R:=(OR.frz rTerm)) [([I 1,I (i64 (-(i64 (1 + x21.1))))],({ coef:=1,lit:=i64 (-(i64 (1 + x21.1))) } : Term)),([I 1,I (-5)],({ coef:=1,lit:=(-5) } : Term))] [({ coef:=1,lit:=i64 (-(i64 (1 + x21.1))) } : Term),({ coef:=1,lit:=(-5) } : Term)] 2 hst rfl rfl rfl (by decide)
 refine L_bld rfl (parts2 rfl rfl) (bld_41_0_1 ((Sl g58 2 2)) (I 1) (one_len (Star.len 0 hst rfl)) rfl) (L_bs rfl (parts1 rfl) (bs_27_1_2 ((Sl g58 2 2)) (I 1) ) hst (fun g61 w62 hst=>?_))
 have hst:=hst.get 1 rfl
 have hst:=oCon_close (c:=({ terms:=[({ coef:=1,lit:=i64 (-(i64 (1 + x21.1))) } : Term),({ coef:=1,lit:=(-5) } : Term)],bound:=1 } : Con)) hst
 have hst:=Star.mkRow (R:=(oCon 117)) [([(Sl g58 2 2),I 1],({ terms:=[({ coef:=1,lit:=i64 (-(i64 (1 + x21.1))) } : Term),({ coef:=1,lit:=(-5) } : Term)],bound:=1 } : Con))] [({ terms:=[({ coef:=1,lit:=i64 (-(i64 (1 + x21.1))) } : Term),({ coef:=1,lit:=(-5) } : Term)],bound:=1 } : Con)] 1 hst rfl rfl rfl (by decide)
 have hst:=hst.get 1 rfl
 refine L_appM (v:=v45) (u:=(Sl g61 1 1)) rfl et_27 rfl rfl hst hx54 (fun v64 w65 hst=>aV v64 rfl (ns (mV v64 rfl (L_len rfl Try.underlying27 rfl (Star.len 0 hst rfl) (aI rfl (nq ?_))))))
 obtain ⟨x67,hx67,hF⟩:=bind_some hF
 obtain ⟨x73,hx73,hF⟩:=bind_some hF
 refine W_region (mV (Pt g_0) rfl (mV v64 rfl (mI rfl (L_sub rfl rfl rfl ?_))))
 obtain ⟨H77,l78,hst,hz79⟩:=Star.freeze hst
 have hz79 : (rS 41 (rCon 117)).rel H77 [v64] x54:=hz79
 refine L_sl (a:=0) (b:=i64 ((x54.length : Int) - 2)) rfl et_27 rfl hz79 rfl rfl hx67 (fun v76 hs80=>L_call rfl Try.call118 (ops2 rfl rfl) (s_l4Random_c (r_:=({ b:=r_.b,p:=x21.2 } : Rd)) (list:=x67) hst (RP.mono _ h0_0 l78) hs80 hx73) ?_)
 rintro r81_0 w81 ⟨H81,l81,_,rfl,hst⟩
 refine aV r81_0 rfl (nq ?_)
 obtain ⟨x89,hx89,hF⟩:=bind_some hF
 refine W_region (mV v64 rfl (mV r81_0 rfl ?_))
 obtain ⟨H92b,l93,s94,z95,k96⟩:=hst.borrow
 have hb97 : (rS 63 (rStep 117)).rel H92b [r81_0] x73.1:=fz_own 0 z95 rfl
 refine L_call rfl Try.call35 (ops2 rfl rfl) (s_RunProof_c (list:=x54) (steps:=x73.1) s94 (RP.mono _ hz79 (Le.trans l81 l93)) hb97 hx89) ?_
 rintro _ w98 ⟨r98_0,rfl,hst⟩
 have hst:=k96 hst (co closed_oCon c0)
 refine mV (.tuple #[r98_0,I x89.2]) rfl (L_ex (v:=r98_0) rfl rfl rfl (L_ex (v:=I x89.2) rfl rfl rfl (aV r98_0 rfl (aI rfl (nq (W_seq ?_))))))
 obtain ⟨R100,hR100⟩:=exR fun f w_=>f 0 = Pt g_0∧f 4 = v64∧f 6 = I (x54.length : Int)∧f 7 = r81_0∧f 53 = Bo ((decide (x89.2 ≥ 0)) || ((x54.length : Int) != (x54.length : Int)))∧Star H81 w_ (oF 63 (rStep 117) r81_0 x73.1 :: box g_0 126 #[v0_0,I x73.2] :: R)
 refine W_join R100 ?_ ?_
 refine W_region (mI rfl (L_geq rfl rfl rfl (mB rfl (L_split (d:=48) (b:=decide (x89.2 ≥ 0)) rfl (fun hc101=>?_) (fun hc101=>?_)))))
 refine ps rfl (ps rfl (ps rfl (ps rfl (L_pick (v:=Bo ((decide (x89.2 ≥ 0)) || ((x54.length : Int) != (x54.length : Int)))) rfl rfl (or_t hc101) (nn ?_)))))
 have hst:=hst.gets [2,2] rfl
 have hst:=Star.drop 2 hst rfl
 exact rj hR100 ⟨rfl,rfl,rfl,rfl,rfl,hst⟩
 refine mV v64 rfl (L_len rfl Try.underlying27 rfl (slice_len (RP.mono _ hz79 l81)) (mI rfl (L_neq rfl rfl rfl (L_pick (v:=Bo ((decide (x89.2 ≥ 0)) || ((x54.length : Int) != (x54.length : Int)))) rfl rfl (or_f hc101 rfl) (nn ?_)))))
 have hst:=hst.gets [2,2] rfl
 have hst:=Star.drop 2 hst rfl
 exact rj hR100 ⟨rfl,rfl,rfl,rfl,rfl,hst⟩
 intro f w_ hR
 obtain ⟨sf0,sf4,sf6,sf7,sf53,hst⟩:=rk hR100 hR
 obtain ⟨steps_102,hA104,hF⟩:=bind_some hF
 obtain ⟨R104,hR104⟩:=exR fun f w_=>∃ v102_steps : Value,f 0 = Pt g_0∧f 4 = v64∧f 6 = I (x54.length : Int)∧f 7 = v102_steps∧Star H81 w_ (oF 63 (rStep 117) v102_steps steps_102 :: box g_0 126 #[v0_0,I x73.2] :: R)
 refine W_join R104 ?_ ?_
 refine W_cond (b:=((decide (x89.2 ≥ 0)) || ((x54.length : Int) != (x54.length : Int)))) sf53 (fun hc105=>?_) (fun hc105=>?_)
 have hA104:=(ite_t hc105).symm.trans hA104
 refine W_region (L_bs rfl parts0 (bs_29_0  ) hst (fun g109 w110 hst=>?_))
 have hst:=Star.mkRow (R:=(OR.frz (rStep 117))) [] [] 0 hst rfl rfl rfl (by decide)
 refine aV (Sl g109 0 0) rfl (nn ?_)
 obtain rfl:=so hA104
 have hst:=hst.gets [2,1] rfl
 have hst:=Star.drop 2 hst rfl
 exact rj hR104 ⟨(Sl g109 0 0),sf0,sf4,sf6,rfl,hst⟩
 have hA104:=(ite_f hc105).symm.trans hA104
 refine W_skip ?_
 obtain rfl:=so hA104
 exact rj hR104 ⟨r81_0,sf0,sf4,sf6,sf7,hst⟩
 intro f w_ hR
 obtain ⟨v102_steps,sf0,sf4,sf6,sf7,hst⟩:=rk hR104 hR
 refine W_seq (W_seq ?_)
 obtain ⟨x117,hx117,hF⟩:=bind_some hF
 refine W_region (mF sf0 rfl ?_)
 have hst:=hst.get 1 rfl
 obtain ⟨H119b,l120,s121,z122,k123⟩:=hst.lend [_]
 refine L_call rfl Try.call71 (ops2 rfl rfl) (s_l17Rd_pick_c (r_:=({ b:=r_.b,p:=x73.2 } : Rd)) (n_:=2) s121 (RP.mono _ h0_0 (Le.trans (Le.trans l78 l81) l120)) hx117) ?_
 rintro _ w124 ⟨rfl,hst⟩
 have hst:=k123 hst (cb c0)
 refine L_eql rfl rfl rfl (nn (W_cond (b:=(x117.1 == 0)) rfl (fun hc125=>?_) (fun hc125=>?_)))
 have hF:=(ite_t hc125).symm.trans hF
 refine W_seq ?_
 obtain ⟨x130,hx130,hF⟩:=bind_some hF
 refine W_region (mF sf4 rfl (mF sf7 rfl (L_bld rfl (parts1 rfl) (bld_41_1 (I 1) rfl) (L_bld rfl (parts2 rfl rfl) (bld_63_0_3x2 (I 7) (S0) (I 1) rfl) (L_bs rfl (parts1 rfl) (bs_29_1_5 (I 7) (I 0) (I 0) (S0) (I 1) ) hst (fun g136 w137 hst=>?_))))))
 have hst:=Star.addNil (R:=(OR.frz rTerm)) (e:=117) hst
 have hst:=oStep_close (s:=({ kind:=7,a:=0,b:=0,given:=({ terms:=[],bound:=1 } : Con) } : Step)) hst
 have hst:=Star.mkRow (R:=(oStep 117)) [([I 7,I 0,I 0,S0,I 1],({ kind:=7,a:=0,b:=0,given:=({ terms:=[],bound:=1 } : Con) } : Step))] [({ kind:=7,a:=0,b:=0,given:=({ terms:=[],bound:=1 } : Con) } : Step)] 1 hst rfl rfl rfl (by decide)
 obtain ⟨H140,l141,hst⟩:=Star.shallow hst
 have hst : Star H140 w137 (oF 63 (rStep 117) (Sl g136 1 1) ([({ kind:=7,a:=0,b:=0,given:=({ terms:=[],bound:=1 } : Con) } : Step)]) :: _):=hst
 have hst:=hst.get 2 rfl
 refine L_appM (v:=v102_steps) (u:=(Sl g136 1 1)) rfl et_29 rfl rfl hst hx130 (fun v142 w143 hst=>aV v64 rfl (aV v142 rfl (nn (W_ret (retG2 (v1:=v64) (v2:=v142) Try.results86 rfl rfl ?_)))))
 obtain rfl:=so hF
 exact ⟨H140,(Le.trans (Le.trans l78 l81) l141),v64,v142,rfl,(RP.mono _ hz79 (Le.trans l81 l141)),hst⟩
 have hF:=(ite_f hc125).symm.trans hF
 refine W_skip (W_seq ?_)
 obtain ⟨x149,hx149,hF⟩:=bind_some hF
 refine W_region (mF sf4 rfl (mF sf7 rfl (mF sf6 rfl (L_sub rfl rfl rfl (mF sf6 rfl (L_sub rfl rfl rfl (L_bld rfl (parts3 rfl rfl rfl) (bld_63_0_1_2 (I 1) (I (i64 ((x54.length : Int) - 2))) (I (i64 ((x54.length : Int) - 1))) rfl rfl rfl) (L_bs rfl (parts1 rfl) (bs_29_1_5 (I 1) (I (i64 ((x54.length : Int) - 2))) (I (i64 ((x54.length : Int) - 1))) (S0) (I 0) ) hst (fun g155 w156 hst=>?_)))))))))
 have hst:=Star.addNil (R:=(OR.frz rTerm)) (e:=117) hst
 have hst:=oStep_close (s:=({ kind:=1,a:=i64 ((x54.length : Int) - 2),b:=i64 ((x54.length : Int) - 1),given:=({ terms:=[],bound:=0 } : Con) } : Step)) hst
 have hst:=Star.mkRow (R:=(oStep 117)) [([I 1,I (i64 ((x54.length : Int) - 2)),I (i64 ((x54.length : Int) - 1)),S0,I 0],({ kind:=1,a:=i64 ((x54.length : Int) - 2),b:=i64 ((x54.length : Int) - 1),given:=({ terms:=[],bound:=0 } : Con) } : Step))] [({ kind:=1,a:=i64 ((x54.length : Int) - 2),b:=i64 ((x54.length : Int) - 1),given:=({ terms:=[],bound:=0 } : Con) } : Step)] 1 hst rfl rfl rfl (by decide)
 obtain ⟨H159,l160,hst⟩:=Star.shallow hst
 have hst : Star H159 w156 (oF 63 (rStep 117) (Sl g155 1 1) ([({ kind:=1,a:=i64 ((x54.length : Int) - 2),b:=i64 ((x54.length : Int) - 1),given:=({ terms:=[],bound:=0 } : Con) } : Step)]) :: _):=hst
 have hst:=hst.get 2 rfl
 refine L_appM (v:=v102_steps) (u:=(Sl g155 1 1)) rfl et_29 rfl rfl hst hx149 (fun v161 w162 hst=>aV v64 rfl (aV v161 rfl (nn (W_ret (retG2 (v1:=v64) (v2:=v161) Try.results86 rfl rfl ?_)))))
 obtain rfl:=so hF
 exact ⟨H159,(Le.trans (Le.trans l78 l81) l160),v64,v161,rfl,(RP.mono _ hz79 (Le.trans l81 l160)),hst⟩
theorem s_l4Pair_c {fu : Nat} {r_ : Rd} {g_0 : Nat} {v0_0 : Value} {H : FH} {w : World} {R : List Ass} (hst : Star H w (box g_0 126 #[v0_0,I r_.p] :: R)) (h0_0 : (rS 5 RP.u8).rel H [v0_0] r_.b) {r : (List Con) × (List Step) × Int} (hF : s_l4Pair fu r_ = some r) :
 C Try.prog 79 #[Pt g_0] w fun v w'=>∃ H' : FH,Le H H'∧∃ (u1 : Value) (u2 : Value),v = .tuple #[u1,u2]∧(rS 41 (rCon 117)).rel H' [u1] r.1∧Star H' w' (oF 63 (rStep 117) u2 r.2.1 :: box g_0 126 #[v0_0,I r.2.2] :: R):=by
 unfold s_l4Pair at hF
 refine C_enter Try.func79 rfl Try.ntmps79 rfl (sq (aV S0 rfl (aV S0 rfl (nq (W_seq ?_)))))
 obtain ⟨x6,hx6,hF⟩:=bind_some hF
 refine W_region (mV (Pt g_0) rfl ?_)
 obtain ⟨H8b,l9,s10,z11,k12⟩:=hst.lend [_]
 refine L_call rfl Try.call71 (ops2 rfl rfl) (s_l17Rd_pick_c (r_:=r_) (n_:=2) s10 (RP.mono _ h0_0 l9) hx6) ?_
 rintro _ w13 ⟨rfl,hst⟩
 have hst:=k12 hst (cb c0)
 refine L_eql rfl rfl rfl (nn (W_cond (b:=(x6.1 == 0)) rfl (fun hc14=>?_) (fun hc14=>?_)))
 have hF:=(ite_t hc14).symm.trans hF
 refine W_seq ?_
 obtain ⟨x15,hx15,hF⟩:=bind_some hF
 refine W_region (mV (Pt g_0) rfl (L_call rfl Try.call86 (ops1 rfl) (s_l4Refuted_c (r_:=({ b:=r_.b,p:=x6.2 } : Rd)) hst h0_0 hx15) ?_))
 rintro _ w18 ⟨H18,l18,r18_0,r18_1,rfl,hr18_0,hst⟩
 refine L_ex (v:=r18_0) rfl rfl rfl (L_ex (v:=r18_1) rfl rfl rfl (aV r18_0 rfl (aV r18_1 rfl (nn (W_ret (retG2 (v1:=r18_0) (v2:=r18_1) Try.results79 rfl rfl ?_))))))
 obtain rfl:=so hF
 exact ⟨H18,l18,r18_0,r18_1,rfl,hr18_0,hst⟩
 have hF:=(ite_f hc14).symm.trans hF
 refine W_skip (W_seq ?_)
 obtain ⟨x25,hx25,hF⟩:=bind_some hF
 obtain ⟨x31,hx31,hF⟩:=bind_some hF
 refine W_region (mV (Pt g_0) rfl (mV (Pt g_0) rfl ?_))
 obtain ⟨H34b,l35,s36,z37,k38⟩:=hst.lend [_]
 refine L_call rfl Try.call69 (ops1 rfl) (s_l3Problem_c (r_:=({ b:=r_.b,p:=x6.2 } : Rd)) s36 (RP.mono _ h0_0 l35) hx25) ?_
 rintro r39_0 w39 ⟨_,rfl,hst⟩
 have hst:=k38 hst (co closed_oCon (cb c0))
 obtain ⟨H41,l42,hst,hz43⟩:=Star.freeze hst
 have hz43 : (rS 41 (rCon 117)).rel H41 [r39_0] x25.1:=hz43
 refine L_call rfl Try.call68 (ops2 rfl rfl) (s_l3Mutate_c (r_:=({ b:=r_.b,p:=x25.2 } : Rd)) (list:=x25.1) hst (RP.mono _ h0_0 l42) hz43 hx31) ?_
 rintro r44_0 w44 ⟨H44,l44,_,rfl,hst⟩
 refine aV r44_0 rfl (nq ?_)
 obtain ⟨x49,hx49,hF⟩:=bind_some hF
 refine W_region (mV r44_0 rfl (mV (Pt g_0) rfl (mV r44_0 rfl ?_)))
 obtain ⟨H52,l53,hst,hz54⟩:=Star.freeze hst
 have hz54 : (rS 41 (rCon 117)).rel H52 [r44_0] x31.1:=hz54
 refine L_call rfl Try.call118 (ops2 rfl rfl) (s_l4Random_c (r_:=({ b:=r_.b,p:=x31.2 } : Rd)) (list:=x31.1) hst (RP.mono _ h0_0 (Le.trans (Le.trans l42 l44) l53)) hz54 hx49) ?_
 rintro r55_0 w55 ⟨H55,l55,_,rfl,hst⟩
 refine aV r44_0 rfl (aV r55_0 rfl (nn (W_ret (retG2 (v1:=r44_0) (v2:=r55_0) Try.results79 rfl rfl ?_))))
 obtain rfl:=so hF
 exact ⟨H55,(Le.trans (Le.trans (Le.trans l42 l44) l53) l55),r44_0,r55_0,rfl,(RP.mono _ hz54 l55),hst⟩
theorem s_DrawCheckDerivation_c {fu : Nat} {code : List UInt8} {v0 : Value} {H : FH} {w : World} {R : List Ass} (hst : Star H w R) (h0 : (rS 5 RP.u8).rel H [v0] code) {r : (List Con) × (List Step) × Con} (hF : s_DrawCheckDerivation fu code = some r) :
 C Try.prog 38 #[v0] w fun v w'=>∃ H' : FH,Le H H'∧∃ (u1 : Value) (u2 : Value) (u3 : Value),v = .tuple #[u1,u2,.agg #[u3,I r.2.2.bound]]∧(rS 41 (rCon 117)).rel H' [u1] r.1∧Star H' w' (oF 63 (rStep 117) u2 r.2.1 :: oF 117 rTerm u3 r.2.2.terms :: R):=by
 unfold s_DrawCheckDerivation at hF
 refine C_enter Try.func38 rfl Try.ntmps38 rfl (sq (aV S0 rfl (aV S0 rfl (L_al (cs:=#[S0,I 0]) rfl Try.zeroValue41 rfl hst (fun g3 w4 hst=>nq ?_)))))
 obtain ⟨x5,hx5,hF⟩:=bind_some hF
 refine W_region (mV v0 rfl (L_call rfl Try.call67 (ops1 rfl) (s_l17Open_c (code:=code) hst h0 hx5) ?_))
 rintro _ w7 ⟨H7,l7,r7_0,r7_1,rfl,hr7_1,hst⟩
 refine aV (Pt r7_0) rfl (nq ?_)
 obtain ⟨x8,hx8,hF⟩:=bind_some hF
 refine W_region (mV (Pt r7_0) rfl (L_call rfl Try.call79 (ops1 rfl) (s_l4Pair_c (r_:=x5) hst hr7_1 hx8) ?_))
 rintro _ w11 ⟨H11,l11,r11_0,r11_1,rfl,hr11_0,hst⟩
 refine mV (.tuple #[r11_0,r11_1]) rfl (L_ex (v:=r11_0) rfl rfl rfl (L_ex (v:=r11_1) rfl rfl rfl (aV r11_0 rfl (aV r11_1 rfl (nq ?_)))))
 obtain ⟨x18,hx18,hF⟩:=bind_some hF
 refine W_region (mV (Pt r7_0) rfl ?_)
 have hst:=hst.get 1 rfl
 obtain ⟨H24b,l25,s26,z27,k28⟩:=hst.lend [_]
 refine L_call rfl Try.call70 (ops2 rfl rfl) (s_l1Draw_c (r_:=({ b:=x5.b,p:=x8.2.2 } : Rd)) (most:=4) s26 (RP.mono _ hr7_1 (Le.trans l11 l25)) hx18) ?_
 rintro _ w29 ⟨r29_0,rfl,hst⟩
 have hst:=k28 hst (co closed_term (cb c0))
 refine L_al (cs:=#[S0,I 0]) rfl Try.zeroValue41 rfl hst (fun g31 w32 hst=>L_staB (vs:=#[r29_0,I x18.1.bound]) (cs2:=#[r29_0,I x18.1.bound]) 0 rfl Try.sizeOf41 rfl rfl rfl (ones_cons (one_len (Star.len 1 hst rfl)) (ones_cons rfl ones_nil)) hst rfl (by show 0 + 2≤2; decide) rfl (fun w33 hst=>nq ?_))
 obtain ⟨x40,hx40,hF⟩:=bind_some hF
 refine W_region (mV r11_0 rfl (mV r11_1 rfl ?_))
 obtain ⟨H43b,l44,s45,z46,k47⟩:=hst.borrow
 have hb48 : (rS 63 (rStep 117)).rel H43b [r11_1] x8.2.1:=fz_own 3 z46 rfl
 refine L_call rfl Try.call35 (ops2 rfl rfl) (s_RunProof_c (list:=x8.1) (steps:=x8.2.1) s45 (RP.mono _ hr11_0 l44) hb48 hx40) ?_
 rintro _ w49 ⟨r49_0,rfl,hst⟩
 have hst:=k47 hst (co closed_oCon c0)
 refine mV (.tuple #[r49_0,I x40.2]) rfl (L_ex (v:=r49_0) rfl rfl rfl (L_ex (v:=I x40.2) rfl rfl rfl (aV r49_0 rfl (aI rfl (nq (W_seq ?_))))))
 obtain ⟨b58,hb58,hF⟩:=bind_some hF
 obtain ⟨R59,hR59⟩:=exR fun f w_=>f 4 = Pt g3∧f 5 = Pt r7_0∧f 6 = r11_0∧f 7 = r11_1∧f 8 = Pt g31∧f 9 = r49_0∧f 37 = Bo b58.1∧Star H11 w_ (oF 63 (rStep 117) r11_1 x8.2.1 :: oS 41 (oCon 117) r49_0 x40.1 :: oF 117 rTerm r29_0 x18.1.terms :: box g31 41 #[r29_0,I x18.1.bound] :: box r7_0 126 #[r7_1,I b58.2] :: box g3 41 #[S0,I 0] :: R)
 refine W_join R59 ?_ ?_
 refine W_region (mI rfl (L_lss rfl rfl rfl (mB rfl (L_split (d:=28) (b:=decide (x40.2 < 0)) rfl (fun hc60=>?_) (fun hc60=>?_)))))
 refine mV r49_0 rfl (L_len rfl Try.underlying27 rfl (Star.len 0 hst rfl) (L_gtr rfl rfl rfl (L_pick (v:=Bo ((decide (x40.2 < 0)) && (decide ((x40.1.length : Int) > 0)))) rfl rfl (and_t hc60 rfl) (mB rfl (L_split (d:=33) (b:=((decide (x40.2 < 0)) && (decide ((x40.1.length : Int) > 0)))) rfl (fun hc61=>?_) (fun hc61=>?_))))))
 rw [ite_t hc61] at hb58
 obtain ⟨x56,hx56,hb58⟩:=bind_some hb58
 refine mV (Pt r7_0) rfl ?_
 have hst:=hst.get 3 rfl
 obtain ⟨H62b,l63,s64,z65,k66⟩:=hst.lend [_]
 refine L_call rfl Try.call71 (ops2 rfl rfl) (s_l17Rd_pick_c (r_:=({ b:=x5.b,p:=x18.2 } : Rd)) (n_:=3) s64 (RP.mono _ hr7_1 (Le.trans l11 l63)) hx56) ?_
 rintro _ w67 ⟨rfl,hst⟩
 have hst:=k66 hst (cb c0)
 refine L_gtr rfl rfl rfl (L_pick (v:=Bo b58.1) rfl rfl (congrArg (fun z : Bool × Int=>Value.bool z.1) (so hb58)) ?_)
 have hst : Star H11 w67 (box r7_0 126 #[r7_1,I b58.2] :: oS 41 (oCon 117) r49_0 x40.1 :: box g31 41 #[r29_0,I x18.1.bound] :: oF 117 rTerm r29_0 x18.1.terms :: oF 63 (rStep 117) r11_1 x8.2.1 :: box g3 41 #[S0,I 0] :: R):=by rw [← so hb58]; exact hst
 refine nn ?_
 have hst:=hst.gets [5,1,3,4,4,5] rfl
 exact rj hR59 ⟨rfl,rfl,rfl,rfl,rfl,rfl,rfl,hst⟩
 rw [ite_f hc61] at hb58
 refine ps rfl (ps rfl (ps rfl (L_pick (v:=Bo b58.1) rfl rfl (congrArg (fun z : Bool × Int=>Value.bool z.1) (so hb58)) ?_)))
 have hst:=hst.get 3 rfl
 have hst : Star H11 w49 (box r7_0 126 #[r7_1,I b58.2] :: oS 41 (oCon 117) r49_0 x40.1 :: box g31 41 #[r29_0,I x18.1.bound] :: oF 117 rTerm r29_0 x18.1.terms :: oF 63 (rStep 117) r11_1 x8.2.1 :: box g3 41 #[S0,I 0] :: R):=by rw [← so hb58]; exact hst
 refine nn ?_
 have hst:=hst.gets [5,1,3,4,4,5] rfl
 exact rj hR59 ⟨rfl,rfl,rfl,rfl,rfl,rfl,rfl,hst⟩
 refine ps rfl (ps rfl (ps rfl (L_pick (v:=Bo ((decide (x40.2 < 0)) && (decide ((x40.1.length : Int) > 0)))) rfl rfl (and_f hc60) (mB rfl (L_split (d:=33) (b:=((decide (x40.2 < 0)) && (decide ((x40.1.length : Int) > 0)))) rfl (fun hc68=>?_) (fun hc68=>?_))))))
 rw [ite_t hc68] at hb58
 obtain ⟨x56,hx56,hb58⟩:=bind_some hb58
 refine mV (Pt r7_0) rfl ?_
 have hst:=hst.get 3 rfl
 obtain ⟨H69b,l70,s71,z72,k73⟩:=hst.lend [_]
 refine L_call rfl Try.call71 (ops2 rfl rfl) (s_l17Rd_pick_c (r_:=({ b:=x5.b,p:=x18.2 } : Rd)) (n_:=3) s71 (RP.mono _ hr7_1 (Le.trans l11 l70)) hx56) ?_
 rintro _ w74 ⟨rfl,hst⟩
 have hst:=k73 hst (cb c0)
 refine L_gtr rfl rfl rfl (L_pick (v:=Bo b58.1) rfl rfl (congrArg (fun z : Bool × Int=>Value.bool z.1) (so hb58)) ?_)
 have hst : Star H11 w74 (box r7_0 126 #[r7_1,I b58.2] :: oS 41 (oCon 117) r49_0 x40.1 :: box g31 41 #[r29_0,I x18.1.bound] :: oF 117 rTerm r29_0 x18.1.terms :: oF 63 (rStep 117) r11_1 x8.2.1 :: box g3 41 #[S0,I 0] :: R):=by rw [← so hb58]; exact hst
 refine nn ?_
 have hst:=hst.gets [5,1,3,4,4,5] rfl
 exact rj hR59 ⟨rfl,rfl,rfl,rfl,rfl,rfl,rfl,hst⟩
 rw [ite_f hc68] at hb58
 refine ps rfl (ps rfl (ps rfl (L_pick (v:=Bo b58.1) rfl rfl (congrArg (fun z : Bool × Int=>Value.bool z.1) (so hb58)) ?_)))
 have hst:=hst.get 3 rfl
 have hst : Star H11 w49 (box r7_0 126 #[r7_1,I b58.2] :: oS 41 (oCon 117) r49_0 x40.1 :: box g31 41 #[r29_0,I x18.1.bound] :: oF 117 rTerm r29_0 x18.1.terms :: oF 63 (rStep 117) r11_1 x8.2.1 :: box g3 41 #[S0,I 0] :: R):=by rw [← so hb58]; exact hst
 refine nn ?_
 have hst:=hst.gets [5,1,3,4,4,5] rfl
 exact rj hR59 ⟨rfl,rfl,rfl,rfl,rfl,rfl,rfl,hst⟩
 intro f w_ hR
 obtain ⟨sf4,sf5,sf6,sf7,sf8,sf9,sf37,hst⟩:=rk hR59 hR
 obtain ⟨⟨g31_0_75,g31_1_77,r7_0_1_78⟩,hA81,hF⟩:=bind_some hF
 obtain ⟨R81,hR81⟩:=exR fun f w_=>∃ H79 : FH,∃ v75_g31_0 : Value,Le H11 H79∧f 4 = Pt g3∧f 5 = Pt r7_0∧f 6 = r11_0∧f 7 = r11_1∧f 8 = Pt g31∧Star H79 w_ (oF 63 (rStep 117) r11_1 x8.2.1 :: oF 117 rTerm v75_g31_0 g31_0_75 :: box g31 41 #[v75_g31_0,I g31_1_77] :: box r7_0 126 #[r7_1,I r7_0_1_78] :: box g3 41 #[S0,I 0] :: R)
 refine W_join R81 ?_ ?_
 refine W_cond (b:=b58.1) sf37 (fun hc82=>?_) (fun hc82=>?_)
 have hA81:=(ite_t hc82).symm.trans hA81
 obtain ⟨x83,hx83,hA81⟩:=bind_some hA81
 obtain ⟨x95,hx95,hA81⟩:=bind_some hA81
 obtain ⟨x102,hx102,hA81⟩:=bind_some hA81
 obtain ⟨g107,cap_g107,hv108,_,_⟩:=Star.row 1 hst rfl hx83
 have hst:=hst.gets [4,4,3,5,5,5] rfl
 refine W_drawS 14 [isV (r49_0),isV (r49_0),isV (I (x40.1.length : Int)),isV (I (i64 ((x40.1.length : Int) - 1))),isV (.pointer (some ⟨g107,Int.toNat (i64 ((x40.1.length : Int) - 1)) * 2,none⟩)),exD (isData (rS 117 rTerm) x83.terms) fun u_0=>isV (.agg #[u_0,I x83.bound]),isV (Pt r7_0),isV (I x95.1),isV (I (i64 (1 + x95.1))),tup2 (exA fun u_0=>isV (.agg #[u_0,I x102.1.bound])) (isV (Bo x102.2)),tup2 (exA fun u_0=>isV (.agg #[u_0,I x102.1.bound])) (isV (Bo x102.2)),exA fun u_0=>isV (.agg #[u_0,I x102.1.bound]),isV (Bo x102.2),anyF] [oF 63 (rStep 117) r11_1 x8.2.1,oF 117 rTerm r29_0 x18.1.terms,box g3 41 #[S0,I 0]] [.base (oS 41 (oCon 117) r49_0 x40.1) (some 5),.base (box g31 41 #[r29_0,I x18.1.bound]) (some 13),.base (box r7_0 126 #[r7_1,I b58.2]) (some 7),.made 5 44 (fun v_=>oF 41 (rCon 117) r49_0 x40.1) none,.made 7 46 (fun v_=>box r7_0 126 #[r7_1,I x95.2]) none,.made 9 48 (fun v_=>own (OR.ownS 117 (OR.frz rTerm)) [(aggC (tupC v_ 0) 0)] x102.1.terms) (some 10),.made 10 38 (fun v_=>own (OR.ownS 117 (OR.frz rTerm)) [(aggC (tupC v_ 0) 0)] x102.1.terms) (some 11),.made 11 49 (fun v_=>oF 117 rTerm (aggC v_ 0) x102.1.terms) none,.madeN 13 [49] (fun vs_=>box g31 41 #[(aggC (vs_.getD 0 undef) 0),I x102.1.bound]) none] (R) [([0],[0]),([0],[0]),([0],[0]),([],[]),([0],[0]),([0],[3]),([],[]),([2],[4]),([],[]),([],[5]),([5],[6]),([6],[7]),([],[]),([1,7],[7,8])] (S:=[(none,[],some 5),(none,[],some 13),(none,[],some 7),(some 5,[44],none),(some 7,[46],none),(some 9,[48],some 10),(some 10,[38],some 11),(some 11,[49],none),(some 13,[49],none)]) Try_mix (by kernel_rfl) rfl (by kernel_rfl) (amF_cons (mono_V _) (amF_cons (mono_V _) (amF_cons (mono_V _) (amF_cons (mono_V _) (amF_cons (mono_V _) (amF_cons (mono_exD (mono_data _ _) fun _=>mono_V _) (amF_cons (mono_V _) (amF_cons (mono_V _) (amF_cons (mono_V _) (amF_cons (mono_tup2 (mono_exA fun _=>mono_V _) (mono_V _)) (amF_cons (mono_tup2 (mono_exA fun _=>mono_V _) (mono_V _)) (amF_cons (mono_exA fun _=>mono_V _) (amF_cons (mono_V _) (amF_cons (mono_any) amF_nil)))))))))))))) hst ?_ (fun f w_ H106 hS106 hE106 hT106 hst=>?_)
 refine opsS_cons ?_ ?_
 intro f w_ H106 X106 hS106 hE106 hP106 hst
 have hst : Star H106 w_ (oF 63 (rStep 117) r11_1 x8.2.1 :: oF 117 rTerm r29_0 x18.1.terms :: box g3 41 #[S0,I 0] :: oS 41 (oCon 117) r49_0 x40.1 :: X106):=hst
 refine mF ((hS106 9 rfl).trans sf9) rfl (L_nil ⟨rfl,_,_,rfl,Le.refl _,fun _ _=>rfl,hst⟩)
 refine opsS_cons ?_ ?_
 intro f w_ H106 X106 hS106 hE106 hP106 hst
 have hst : Star H106 w_ (oF 63 (rStep 117) r11_1 x8.2.1 :: oF 117 rTerm r29_0 x18.1.terms :: box g3 41 #[S0,I 0] :: oS 41 (oCon 117) r49_0 x40.1 :: X106):=hst
 refine mF ((hS106 9 rfl).trans sf9) rfl (L_nil ⟨rfl,_,_,rfl,Le.refl _,fun _ _=>rfl,hst⟩)
 refine opsS_cons ?_ ?_
 intro f w_ H106 X106 hS106 hE106 hP106 hst
 have hst : Star H106 w_ (oF 63 (rStep 117) r11_1 x8.2.1 :: oF 117 rTerm r29_0 x18.1.terms :: box g3 41 #[S0,I 0] :: oS 41 (oCon 117) r49_0 x40.1 :: X106):=hst
 refine L_len rfl Try.underlying27 (hP106 1 40 rfl rfl) (Star.len 3 hst rfl) (L_nil ⟨rfl,_,_,rfl,Le.refl _,fun _ _=>rfl,hst⟩)
 refine opsS_cons (fun f w_ _ _ _ _ p hst=>L_sub rfl (p 2 41 rfl rfl) rfl (nO rfl rfl hst)) (opsS_cons ?_ ?_)
 intro f w_ H106 X106 hS106 hE106 hP106 hst
 have hst : Star H106 w_ (oF 63 (rStep 117) r11_1 x8.2.1 :: oF 117 rTerm r29_0 x18.1.terms :: box g3 41 #[S0,I 0] :: oS 41 (oCon 117) r49_0 x40.1 :: X106):=hst
 refine L_ixO (R:=(oCon 117)) (tb:=0) 0 rfl Try.underlying27 Try.sizeOf41 (hP106 0 39 rfl rfl) hv108 (by first | rfl | simp) (hP106 3 42 rfl rfl) hx83 (L_nil ⟨rfl,_,_,rfl,Le.refl _,fun _ _=>rfl,hst⟩)
 refine opsS_cons ?_ ?_
 intro f w_ H106 X106 hS106 hE106 hP106 hst
 have hst : Star H106 w_ (oF 63 (rStep 117) r11_1 x8.2.1 :: oF 117 rTerm r29_0 x18.1.terms :: box g3 41 #[S0,I 0] :: oS 41 (oCon 117) r49_0 x40.1 :: X106):=hst
 have hst:=hst.get 3 rfl
 obtain ⟨H127,l128,hst⟩:=Star.shallow hst
 have hst : Star H127 w_ (oF 41 (rCon 117) r49_0 x40.1 :: _):=hst
 obtain ⟨cs129,hr129,hat129⟩:=Star.eltF 0 hst rfl hv108 hx83
 obtain ⟨u130_0,rfl,hu130_0⟩:=rCon_iff.1 hr129
 refine L_lda (cs:=[u130_0,I x83.bound]) rfl Try.isAgg41 Try.sizeOf41 (hP106 4 43 rfl rfl) (At.sub hat129 0 2) rfl ?_
 have hst:=hst.gets [3,3,3] rfl
 exact L_nil ⟨rfl,_,_,rfl,l128,fun _ _=>⟨_,hu130_0,rfl⟩,hst⟩
 refine opsS_cons (fun f w_ _ _ s _ _ hst=>mF ((s 5 rfl).trans sf5) rfl (nO rfl rfl hst)) (opsS_cons ?_ ?_)
 intro f w_ H106 X106 hS106 hE106 hP106 hst
 have hst : Star H106 w_ (oF 63 (rStep 117) r11_1 x8.2.1 :: oF 117 rTerm r29_0 x18.1.terms :: box g3 41 #[S0,I 0] :: box r7_0 126 #[r7_1,I b58.2] :: X106):=hst
 have hst:=hst.get 3 rfl
 obtain ⟨H131b,l132,s133,z134,k135⟩:=hst.lend [_]
 refine L_call rfl Try.call71 (ops2 (hP106 6 45 rfl rfl) rfl) (s_l17Rd_pick_c (r_:=({ b:=x5.b,p:=b58.2 } : Rd)) (n_:=4) s133 (RP.mono _ hr7_1 (Le.trans (Le.trans l11 hE106) l132)) hx95) ?_
 rintro _ w136 ⟨rfl,hst⟩
 have hst:=k135 hst (cb c0)
 have hst:=hst.gets [3,3,3] rfl
 exact L_nil ⟨rfl,_,_,rfl,Le.refl _,fun _ _=>rfl,hst⟩
 refine opsS_cons (fun f w_ _ _ _ _ p hst=>L_add rfl rfl (p 7 46 rfl rfl) (nO rfl rfl hst)) (opsS_cons ?_ ?_)
 intro f w_ H106 X106 hS106 hE106 hP106 hst
 obtain ⟨u137_0,hu137_0,hv137⟩:=(hP106 5 44 rfl rfl)
 obtain ⟨H138b,l139,s140,z141,k142⟩:=hst.borrow
 refine L_call rfl Try.call72 (ops2 hv137 (hP106 8 47 rfl rfl)) (s_WeakenConstraint_c (c:=x83) (variable_:=i64 (1 + x95.1)) s140 (RP.mono _ hu137_0 l139) hx102) ?_
 rintro _ w143 ⟨r143_0,rfl,hst⟩
 have hst:=k142 hst (co closed_term c0)
 have hst:=hst.gets [3,3,3] rfl
 exact L_nil ⟨rfl,_,_,rfl,Le.refl _,fun _ _=>⟨_,_,rfl,⟨_,rfl⟩,rfl⟩,hst⟩
 refine opsS_cons ?_ ?_
 intro f w_ H106 X106 hS106 hE106 hP106 hst
 have hst : Star H106 w_ (oF 63 (rStep 117) r11_1 x8.2.1 :: oF 117 rTerm r29_0 x18.1.terms :: box g3 41 #[S0,I 0] :: own (OR.ownS 117 (OR.frz rTerm)) [(aggC (tupC (f 48) 0) 0)] x102.1.terms :: X106):=hst
 obtain ⟨a145_0,a145_1,hv145,ht145_0,ht145_1⟩:=(hP106 9 48 rfl rfl)
 obtain ⟨u146_0,rfl⟩:=ht145_0
 obtain rfl:=ht145_1
 have hren : Star H106 w_ (oF 63 (rStep 117) r11_1 x8.2.1 :: oF 117 rTerm r29_0 x18.1.terms :: box g3 41 #[S0,I 0] :: own (OR.ownS 117 (OR.frz rTerm)) [(aggC (tupC (f 48) 0) 0)] x102.1.terms :: X106):=hst
 rw [hv145] at hren
 have hst : Star H106 w_ (oF 63 (rStep 117) r11_1 x8.2.1 :: oF 117 rTerm r29_0 x18.1.terms :: box g3 41 #[S0,I 0] :: oF 117 rTerm u146_0 x102.1.terms :: X106):=hren
 refine mF hv145 rfl (L_nil ⟨rfl,_,_,rfl,Le.refl _,fun _ _=>⟨_,_,rfl,⟨_,rfl⟩,rfl⟩,hst⟩)
 refine opsS_cons ?_ ?_
 intro f w_ H106 X106 hS106 hE106 hP106 hst
 have hst : Star H106 w_ (oF 63 (rStep 117) r11_1 x8.2.1 :: oF 117 rTerm r29_0 x18.1.terms :: box g3 41 #[S0,I 0] :: own (OR.ownS 117 (OR.frz rTerm)) [(aggC (tupC (f 38) 0) 0)] x102.1.terms :: X106):=hst
 obtain ⟨a147_0,a147_1,hv147,ht147_0,ht147_1⟩:=(hP106 10 38 rfl rfl)
 obtain ⟨u148_0,rfl⟩:=ht147_0
 obtain rfl:=ht147_1
 have hren : Star H106 w_ (oF 63 (rStep 117) r11_1 x8.2.1 :: oF 117 rTerm r29_0 x18.1.terms :: box g3 41 #[S0,I 0] :: own (OR.ownS 117 (OR.frz rTerm)) [(aggC (tupC (f 38) 0) 0)] x102.1.terms :: X106):=hst
 rw [hv147] at hren
 have hst : Star H106 w_ (oF 63 (rStep 117) r11_1 x8.2.1 :: oF 117 rTerm r29_0 x18.1.terms :: box g3 41 #[S0,I 0] :: oF 117 rTerm u148_0 x102.1.terms :: X106):=hren
 refine L_ex (v:=.agg #[u148_0,I x102.1.bound]) rfl hv147 rfl (L_nil ⟨rfl,_,_,rfl,Le.refl _,fun _ _=>⟨_,rfl⟩,hst⟩)
 refine opsS_cons ?_ ?_
 intro f w_ H106 X106 hS106 hE106 hP106 hst
 obtain ⟨a149_0,a149_1,hv149,ht149_0,ht149_1⟩:=(hP106 10 38 rfl rfl)
 obtain ⟨u150_0,rfl⟩:=ht149_0
 obtain rfl:=ht149_1
 refine L_ex (v:=Bo x102.2) rfl hv149 rfl (L_nil ⟨rfl,_,_,rfl,Le.refl _,fun _ _=>rfl,hst⟩)
 refine opsS_cons ?_ ?_
 intro f w_ H106 X106 hS106 hE106 hP106 hst
 have hst : Star H106 w_ (oF 63 (rStep 117) r11_1 x8.2.1 :: oF 117 rTerm r29_0 x18.1.terms :: box g3 41 #[S0,I 0] :: box g31 41 #[r29_0,I x18.1.bound] :: own (OR.ownS 117 (OR.frz rTerm)) [(aggC (f 49) 0)] x102.1.terms :: X106):=hst
 obtain ⟨u151_0,hv151⟩:=(hP106 11 49 rfl rfl)
 have hren : Star H106 w_ (oF 63 (rStep 117) r11_1 x8.2.1 :: oF 117 rTerm r29_0 x18.1.terms :: box g3 41 #[S0,I 0] :: box g31 41 #[r29_0,I x18.1.bound] :: own (OR.ownS 117 (OR.frz rTerm)) [(aggC (f 49) 0)] x102.1.terms :: X106):=hst
 rw [hv151] at hren
 have hst : Star H106 w_ (oF 63 (rStep 117) r11_1 x8.2.1 :: oF 117 rTerm r29_0 x18.1.terms :: box g3 41 #[S0,I 0] :: box g31 41 #[r29_0,I x18.1.bound] :: oF 117 rTerm u151_0 x102.1.terms :: X106):=hren
 refine L_staB (vs:=#[u151_0,I x102.1.bound]) (cs2:=#[u151_0,I x102.1.bound]) 3 rfl Try.sizeOf41 ((hS106 8 rfl).trans sf8) hv151 rfl (ones_cons (one_len (Star.len 4 hst rfl)) (ones_cons rfl ones_nil)) hst rfl (by show 0 + 2≤2; decide) rfl (fun w152 hst=>?_)
 have hst:=hst.gets [4,4,4,4] rfl
 have hst : Star H106 w152 (oF 63 (rStep 117) r11_1 x8.2.1 :: oF 117 rTerm r29_0 x18.1.terms :: box g3 41 #[S0,I 0] :: own (OR.ownS 117 (OR.frz rTerm)) [(aggC (f 49) 0)] x102.1.terms :: box g31 41 #[(aggC (f 49) 0),I x102.1.bound] :: X106):=by rw [hv151]; exact hst
 exact L_nil ⟨rfl,Bo false,_,rfl,Le.refl _,(fun _ h=>nomatch h),hst⟩
 exact opsS_nil
 have hst : Star H106 w_ (oF 63 (rStep 117) r11_1 x8.2.1 :: oF 117 rTerm r29_0 x18.1.terms :: box g3 41 #[S0,I 0] :: oF 41 (rCon 117) r49_0 x40.1 :: box r7_0 126 #[r7_1,I x95.2] :: own (OR.ownS 117 (OR.frz rTerm)) [(aggC (f 49) 0)] x102.1.terms :: box g31 41 #[(aggC (f 49) 0),I x102.1.bound] :: R):=hst
 refine nn ?_
 obtain ⟨rfl,rfl,rfl⟩:=so3 hA81
 have hst:=hst.gets [2,4,6,6,4] rfl
 have hst:=Star.drop 5 hst rfl
 have hst:=Star.drop 5 hst rfl
 exact rj hR81 ⟨H106,(aggC (f 49) 0),hE106,((hS106 4 rfl).trans sf4),((hS106 5 rfl).trans sf5),((hS106 6 rfl).trans sf6),((hS106 7 rfl).trans sf7),((hS106 8 rfl).trans sf8),hst⟩
 have hA81:=(ite_f hc82).symm.trans hA81
 refine W_skip ?_
 obtain ⟨rfl,rfl,rfl⟩:=so3 hA81
 have hst:=hst.gets [5,5,5,5,4] rfl
 have hst:=Star.drop 5 hst rfl
 exact rj hR81 ⟨H11,r29_0,(Le.refl _),sf4,sf5,sf6,sf7,sf8,hst⟩
 intro f w_ hR
 obtain ⟨H79,v75_g31_0,l80,sf4,sf5,sf6,sf7,sf8,hst⟩:=rk hR81 hR
 refine W_seq ?_
 obtain ⟨x159,hx159,hF⟩:=bind_some hF
 refine W_region (mF sf6 rfl (mF sf7 rfl (mF sf5 rfl (L_lda (cs:=[v75_g31_0,I g31_1_77]) rfl Try.isAgg41 Try.sizeOf41 sf8 (At.sub0 (Blk.at (Star.blkAt 2 hst rfl)) 0 2) rfl ?_))))
 have hst:=hst.get 3 rfl
 obtain ⟨H163b,l164,s165,z166,k167⟩:=hst.lend [_]
 have hb168 : (rS 117 rTerm).rel H163b [v75_g31_0] g31_0_75:=fz_own 1 z166 rfl
 refine L_call rfl Try.call73 (ops2 rfl rfl) (s_l1Mutate_c (r_:=({ b:=x5.b,p:=r7_0_1_78 } : Rd)) (c:=({ terms:=g31_0_75,bound:=g31_1_77 } : Con)) s165 (RP.mono _ hr7_1 (Le.trans (Le.trans l11 l80) l164)) hb168 hx159) ?_
 rintro _ w169 ⟨r169_0,rfl,hst⟩
 have hst:=k167 hst (co closed_term (cb c0))
 refine aV r11_0 rfl (aV r11_1 rfl (L_staB (vs:=#[r169_0,I x159.1.bound]) (cs2:=#[r169_0,I x159.1.bound]) 5 rfl Try.sizeOf41 sf4 rfl rfl (ones_cons (one_len (Star.len 0 hst rfl)) (ones_cons rfl ones_nil)) hst rfl (by show 0 + 2≤2; decide) rfl (fun w171 hst=>nn (W_ret (retG3 (v1:=r11_0) (v2:=r11_1) (v3:=.agg #[r169_0,I x159.1.bound]) Try.results38 rfl rfl (resV_agg Try.isAgg41 Try.sizeOf41 sf4 (Star.blkAt 0 hst rfl) rfl) ?_)))))
 obtain rfl:=so hF
 have hst:=hst.gets [1,3] rfl
 have hst:=Star.drop 2 hst rfl
 have hst:=Star.drop 2 hst rfl
 have hst:=Star.drop 2 hst rfl
 have hst:=Star.drop 2 hst rfl
 exact ⟨H79,(Le.trans (Le.trans l7 l11) l80),r11_0,r11_1,r169_0,rfl,(RP.mono _ hr11_0 l80),hst⟩
theorem l_FnCheckDerivation_c {fu : Nat} {code : List UInt8} {v0 : Value} {H : FH} {w : World} (hst : Star H w []) (h0 : (rS 5 RP.u8).rel H [v0] code) {r : Bool} (hF : l_FnCheckDerivation fu code = some r) :
 C Try.prog 8 #[v0] w fun v w'=>v = Bo r∧Star H w' []:=by
 unfold l_FnCheckDerivation at hF
 refine C_enter Try.func8 rfl Try.ntmps8 rfl (sq (aB rfl (nq (sq (mV v0 rfl (L_len rfl Try.underlying45 rfl (slice_len h0) (L_gtr rfl rfl rfl (nn (W_cond (b:=decide ((code.length : Int) > 1048576)) rfl (fun hc1=>?_) (fun hc1=>?_))))))))))
 have hF:=(ite_t hc1).symm.trans hF
 refine sq (aB rfl (nn (W_ret (retG1 (v1:=Bo true) Try.results8 rfl ?_))))
 obtain rfl:=so hF
 exact ⟨rfl,hst⟩
 have hF:=(ite_f hc1).symm.trans hF
 refine W_skip (W_seq ?_)
 obtain ⟨x2,hx2,hF⟩:=bind_some hF
 refine W_region (mV v0 rfl (L_call rfl Try.call38 (ops1 rfl) (s_DrawCheckDerivation_c (code:=code) hst h0 hx2) ?_))
 rintro _ w9 ⟨H9,l9,r9_0,r9_1,r9_2,rfl,hr9_0,hst⟩
 refine mV (.tuple #[r9_0,r9_1,.agg #[r9_2,I x2.2.2.bound]]) rfl (L_ex (v:=r9_0) rfl rfl rfl (L_ex (v:=r9_1) rfl rfl rfl (L_ex (v:=.agg #[r9_2,I x2.2.2.bound]) rfl rfl rfl (L_al (cs:=#[S0,I 0]) rfl Try.zeroValue41 rfl hst (fun g12 w13 hst=>aV r9_0 rfl (aV r9_1 rfl (L_staB (vs:=#[r9_2,I x2.2.2.bound]) (cs2:=#[r9_2,I x2.2.2.bound]) 0 rfl Try.sizeOf41 rfl rfl rfl (ones_cons (one_len (Star.len 2 hst rfl)) (ones_cons rfl ones_nil)) hst rfl (by show 0 + 2≤2; decide) rfl (fun w14 hst=>nq ?_))))))))
 obtain ⟨x22,hx22,hF⟩:=bind_some hF
 refine W_region (mV r9_0 rfl (mV r9_1 rfl (L_lda (cs:=[r9_2,I x2.2.2.bound]) rfl Try.isAgg41 Try.sizeOf41 rfl (At.sub0 (Blk.at (Star.blkAt 0 hst rfl)) 0 2) rfl ?_)))
 obtain ⟨H24b,l25,s26,z27,k28⟩:=hst.borrow
 have hb29 : (rS 63 (rStep 117)).rel H24b [r9_1] x2.2.1:=fz_own 1 z27 rfl
 have hb30 : (rS 117 rTerm).rel H24b [r9_2] x2.2.2.terms:=fz_own 2 z27 rfl
 refine L_call rfl Try.call25 (ops3 rfl rfl rfl) (i_CheckDerivation_c (list:=x2.1) (steps:=x2.2.1) (c:=x2.2.2) s26 (RP.mono _ hr9_0 l25) hb29 hb30 hx22) ?_
 rintro _ w31 ⟨rfl,hst⟩
 have hst:=k28 hst c0
 refine aB rfl (nq (W_seq ?_))
 obtain ⟨x39,hx39,hF⟩:=bind_some hF
 obtain ⟨R41,hR41⟩:=exR fun f w_=>f 3 = r9_0∧f 4 = r9_1∧f 5 = Pt g12∧f 6 = Bo x22∧f 31 = Bo ((x22 != x39) || (!x22))∧Star H9 w_ ([oF 63 (rStep 117) r9_1 x2.2.1,oF 117 rTerm r9_2 x2.2.2.terms,box g12 41 #[r9_2,I x2.2.2.bound]])
 refine W_join R41 ?_ ?_
 refine W_region (mB rfl (mV r9_0 rfl (mV r9_1 rfl (L_lda (cs:=[r9_2,I x2.2.2.bound]) rfl Try.isAgg41 Try.sizeOf41 rfl (At.sub0 (Blk.at (Star.blkAt 0 hst rfl)) 0 2) rfl ?_))))
 obtain ⟨H42b,l43,s44,z45,k46⟩:=hst.borrow
 have hb47 : (rS 63 (rStep 117)).rel H42b [r9_1] x2.2.1:=fz_own 1 z45 rfl
 have hb48 : (rS 117 rTerm).rel H42b [r9_2] x2.2.2.terms:=fz_own 2 z45 rfl
 refine L_call rfl Try.call23 (ops3 rfl rfl rfl) (s_CheckDerivation_c (list:=x2.1) (steps:=x2.2.1) (c:=x2.2.2) s44 (RP.mono _ hr9_0 l43) hb47 hb48 hx39) ?_
 rintro _ w49 ⟨rfl,hst⟩
 have hst:=k46 hst c0
 refine L_bneq (b:=x22) (c:=x39) rfl Try.underlying4 rfl rfl (mB rfl (L_split (d:=28) (b:=(x22 != x39)) rfl (fun hc50=>?_) (fun hc50=>?_)))
 refine ps rfl (ps rfl (L_pick (v:=Bo ((x22 != x39) || (!x22))) rfl rfl (or_t hc50) (nn ?_)))
 have hst:=hst.gets [2,2] rfl
 exact rj hR41 ⟨rfl,rfl,rfl,rfl,rfl,hst⟩
 refine mB rfl (L_not_ rfl rfl (L_pick (v:=Bo ((x22 != x39) || (!x22))) rfl rfl (or_f hc50 rfl) (nn ?_)))
 have hst:=hst.gets [2,2] rfl
 exact rj hR41 ⟨rfl,rfl,rfl,rfl,rfl,hst⟩
 intro f w_ hR
 obtain ⟨sf3,sf4,sf5,sf6,sf31,hst⟩:=rk hR41 hR
 refine W_cond (b:=((x22 != x39) || (!x22))) sf31 (fun hc51=>?_) (fun hc51=>?_)
 have hF:=(ite_t hc51).symm.trans hF
 refine W_seq ?_
 obtain ⟨x59,hx59,hF⟩:=bind_some hF
 refine W_region (mF sf6 rfl (mF sf3 rfl (mF sf4 rfl (L_lda (cs:=[r9_2,I x2.2.2.bound]) rfl Try.isAgg41 Try.sizeOf41 sf5 (At.sub0 (Blk.at (Star.blkAt 2 hst rfl)) 0 2) rfl ?_))))
 obtain ⟨H61b,l62,s63,z64,k65⟩:=hst.borrow
 have hb66 : (rS 63 (rStep 117)).rel H61b [r9_1] x2.2.1:=fz_own 0 z64 rfl
 have hb67 : (rS 117 rTerm).rel H61b [r9_2] x2.2.2.terms:=fz_own 1 z64 rfl
 refine L_call rfl Try.call23 (ops3 rfl rfl rfl) (s_CheckDerivation_c (list:=x2.1) (steps:=x2.2.1) (c:=x2.2.2) s63 (RP.mono _ hr9_0 l62) hb66 hb67 hx59) ?_
 rintro _ w68 ⟨rfl,hst⟩
 have hst:=k65 hst c0
 refine L_beql (b:=x22) (c:=x59) rfl Try.underlying4 rfl rfl (aB rfl (nn (W_ret (retG1 (v1:=Bo (x22 == x59)) Try.results8 rfl ?_))))
 obtain rfl:=so hF
 exact ⟨rfl,(Star.down (Star.keepN 0 hst) l9 c0)⟩
 have hF:=(ite_f hc51).symm.trans hF
 refine W_skip (W_seq (sq (aI rfl (nn ?_))))
 obtain ⟨k71,hk71,hF⟩:=bind_some hF
 obtain ⟨j70,hL70,hF⟩:=bind_some hF
 obtain ⟨R70,hR70⟩:=exR fun f w_=>j70 = .nx ()∧Star H9 w_ ([])
 refine W_join R70 ?_ ?_
 refine W_block ?_
 obtain ⟨I70,hI70⟩:=exI fun n f w_=>∃ i_69 : Nat,∃ suf70 : Nat,suf70 = n∧0≤i_69∧i_69 + suf70 = 0 + k71∧countL (l_FnCheckDerivation_b1 x2) suf70 i_69 () = some j70∧f 3 = r9_0∧f 5 = Pt g12∧f 7 = I i_69∧Star H9 w_ ([oF 117 rTerm r9_2 x2.2.2.terms,box g12 41 #[r9_2,I x2.2.2.bound]])
 have hst:=hst.gets [2,2] rfl
 refine W_loop I70 (n:=k71) ?_ ?_
 exact ij hI70 ⟨0,k71,rfl,Nat.le_refl _,rfl,hL70,sf3,sf5,rfl,(Star.keepN 2 hst)⟩
 intro n70 f w_ hI
 obtain ⟨i_69,suf70,rfl,hs70,hl70,hL70,sf3,sf5,sf7,hst⟩:=ik hI70 hI
 refine W_seq (sq (mF sf7 rfl (L_lss rfl rfl rfl (nn (W_cond (b:=decide ((i_69 : Int) < 4096)) rfl (fun hc72=>?_) (fun hc72=>?_))))))
 have hlt70:=of_decide_eq_true hc72
 rcases suf70 with _ | rest70
 exact absurd hlt70 (cntF_no hl70 hk71)
 obtain ⟨o70,hB70,hL70⟩:=count_succ hL70
 rw [l_FnCheckDerivation_b1] at hB70
 refine W_skip (W_seq (W_block (W_seq ?_)))
 obtain ⟨x78,hx78,hB70⟩:=bind_some hB70
 refine W_region (mF sf7 rfl ?_)
 obtain ⟨H81b,l82,s83,z84,k85⟩:=hst.borrow
 refine L_call rfl Try.call30 (ops1 rfl) (l_cpValues_c (n_:=(i_69 : Int)) s83 hx78) ?_
 rintro r86_0 w86 ⟨_,rfl,hst⟩
 have hst:=k85 hst (co closed_bool c0)
 refine aV r86_0 rfl (nq ?_)
 obtain ⟨x94,hx94,hB70⟩:=bind_some hB70
 obtain ⟨b105,hb105,hB70⟩:=bind_some hB70
 obtain ⟨R106,hR106⟩:=exR fun f w_=>f 3 = r9_0∧f 5 = Pt g12∧f 7 = I i_69∧f 52 = Bo b105∧Star H9 w_ ([oF 117 rTerm r9_2 x2.2.2.terms,box g12 41 #[r9_2,I x2.2.2.bound]])
 refine W_join R106 ?_ ?_
 refine W_region (mF sf3 rfl (mV r86_0 rfl ?_))
 obtain ⟨H107b,l108,s109,z110,k111⟩:=hst.borrow
 have hb112 : (rS 4 RP.bool).rel H107b [r86_0] x78:=fz_own 0 z110 rfl
 refine L_call rfl Try.call31 (ops2 rfl rfl) (i_SatisfiesAll_c (list:=x2.1) (values:=x78) s109 (RP.mono _ hr9_0 l108) hb112 hx94) ?_
 rintro _ w113 ⟨rfl,hst⟩
 have hst:=k111 hst c0
 refine mB rfl (L_split (d:=47) (b:=x94) rfl (fun hc114=>?_) (fun hc114=>?_))
 rw [ite_t hc114] at hb105
 obtain ⟨x103,hx103,hb105⟩:=bind_some hb105
 refine L_lda (cs:=[r9_2,I x2.2.2.bound]) rfl Try.isAgg41 Try.sizeOf41 sf5 (At.sub0 (Blk.at (Star.blkAt 2 hst rfl)) 0 2) rfl (mV r86_0 rfl ?_)
 obtain ⟨H115b,l116,s117,z118,k119⟩:=hst.borrow
 have hb120 : (rS 117 rTerm).rel H115b [r9_2] x2.2.2.terms:=fz_own 1 z118 rfl
 have hb121 : (rS 4 RP.bool).rel H115b [r86_0] x78:=fz_own 0 z118 rfl
 refine L_call rfl Try.call32 (ops2 rfl rfl) (i_EvalConstraint_c (c:=x2.2.2) (values:=x78) s117 hb120 hb121 hx103) ?_
 rintro _ w122 ⟨rfl,hst⟩
 have hst:=k119 hst c0
 refine L_not_ rfl rfl (L_pick (v:=Bo b105) rfl rfl (congrArg Value.bool (so hb105)) (nn ?_))
 have hst:=hst.gets [2,2] rfl
 exact rj hR106 ⟨sf3,sf5,sf7,rfl,(Star.keepN 2 hst)⟩
 rw [ite_f hc114] at hb105
 refine ps rfl (ps rfl (ps rfl (ps rfl (L_pick (v:=Bo b105) rfl rfl (congrArg Value.bool (so hb105)) (nn ?_)))))
 have hst:=hst.gets [2,2] rfl
 exact rj hR106 ⟨sf3,sf5,sf7,rfl,(Star.keepN 2 hst)⟩
 intro f w_ hR
 obtain ⟨sf3,sf5,sf7,sf52,hst⟩:=rk hR106 hR
 refine W_cond (b:=b105) sf52 (fun hc123=>?_) (fun hc123=>?_)
 have hB70:=(ite_t hc123).symm.trans hB70
 refine sq (aB rfl (nn (W_ret (retG1 (v1:=Bo false) Try.results8 rfl ?_))))
 obtain rfl:=so hB70
 obtain rfl:=so hL70
 obtain rfl:=so hF
 exact ⟨rfl,(Star.down (Star.keepN 0 hst) l9 c0)⟩
 have hB70:=(ite_f hc123).symm.trans hB70
 refine W_skip (W_region (mF sf7 rfl (L_add rfl rfl rfl (aI rfl (nn ?_)))))
 obtain rfl:=so hB70
 show ∃ m,m < _∧I70 m _ _
 refine ⟨rest70,Nat.lt_succ_self _,?_⟩
 exact ij hI70 ⟨i_69 + 1,rest70,rfl,by omega,by omega,hL70,sf3,sf5,(Eq.trans rfl (congrArg (Value.int .i64) (i64_succ (n:=0 + k71) (by omega) (cntF_le hk71)))),hst⟩
 rcases suf70 with _ | _
 obtain rfl:=count_zero hL70
 refine W_exit (rj hR70 ⟨rfl,(Star.keepN 0 hst)⟩)
 exact absurd (cntF_yes hs70 hl70 hk71) (of_decide_eq_false hc72)
 intro f w_ hR
 obtain ⟨rfl,hst⟩:=rk hR70 hR
 refine sq (aB rfl (nn (W_ret (retG1 (v1:=Bo true) Try.results8 rfl ?_))))
 obtain rfl:=so hF
 exact ⟨rfl,(Star.down hst l9 c0)⟩
end Go.Proofs.Ytiodhgbfceahfaa

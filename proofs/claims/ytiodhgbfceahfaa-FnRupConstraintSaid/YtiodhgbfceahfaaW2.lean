/- Part of a proof by program: W2. -/
import Derived.Test.YtiodhgbfceahfaaD1
import Derived.Test.YtiodhgbfceahfaaW1
namespace Go.Proofs.Ytiodhgbfceahfaa
open Go Go.E Go.L Go.RowKit
set_option linter.unusedVariables false
set_option linter.unusedSimpArgs false
set_option maxRecDepth 100000
theorem s_l1Mutate_c {r_ : Rd} {c : Con} {g_0 : Nat} {v0_0 : Value} {v1_0 : Value} {H : FH} {w : World} (hst : Star H w [box g_0 126 #[v0_0,I r_.p]]) (h0_0 : (rS 5 RP.u8).rel H [v0_0] r_.b) (h1_0 : (rS 117 rTerm).rel H [v1_0] c.terms) {r : Con × Int} (hF : s_l1Mutate r_ c = some r) :
 C Try.prog 73 #[Pt g_0,.agg #[v1_0,I c.bound]] w fun v w'=>∃ (u1 : Value),v = .agg #[u1,I r.1.bound]∧Star H w' [oF 117 rTerm u1 r.1.terms,box g_0 126 #[v0_0,I r.2]]:=by
 unfold s_l1Mutate at hF
 refine C_enter Try.func73 rfl Try.ntmps73 rfl (sq (L_box (v:=.agg #[v1_0,I c.bound]) (cs:=#[v1_0,I c.bound]) rfl rfl rfl hst (fun g5 w6 hst=>L_al (cs:=#[S0,I 0]) rfl Try.zeroValue41 rfl hst (fun g7 w8 hst=>nq ?_))))
 obtain ⟨x14,hx14,hF⟩:=bind_some hF
 refine W_region (L_lda (cs:=[v1_0,I c.bound]) rfl Try.isAgg41 Try.sizeOf41 rfl (At.sub0 (Blk.at (Star.blkAt 1 hst rfl)) 0 2) rfl ?_)
 obtain ⟨H20b,l21,s22,z23,k24⟩:=hst.borrow
 refine L_call rfl Try.call81 (ops1 rfl) (s_l1Copy_c (c:=c) s22 (RP.mono _ h1_0 l21) hx14) ?_
 rintro _ w25 ⟨r25_0,rfl,hst⟩
 have hst:=k24 hst (co closed_term c0)
 refine L_al (cs:=#[S0,I 0]) rfl Try.zeroValue41 rfl hst (fun g27 w28 hst=>L_staB (vs:=#[r25_0,I x14.bound]) (cs2:=#[r25_0,I x14.bound]) 0 rfl Try.sizeOf41 rfl rfl rfl (ones_cons (one_len (Star.len 1 hst rfl)) (ones_cons rfl ones_nil)) hst rfl (by show 0 + 2≤2; decide) rfl (fun w29 hst=>ns (fA 0 fa_41_0 rfl rfl (ldB 0 hst Try.isAgg39 rfl rfl rfl (L_len rfl Try.underlying39 rfl (Star.len 1 hst rfl) (aI rfl (nq (W_seq ?_))))))))
 obtain ⟨x35,hx35,hF⟩:=bind_some hF
 refine W_region (mV (Pt g_0) rfl ?_)
 have hst:=hst.get 4 rfl
 obtain ⟨H37b,l38,s39,z40,k41⟩:=hst.lend [_]
 refine L_call rfl Try.call71 (ops2 rfl rfl) (s_l17Rd_pick_c (r_:=r_) (n_:=40) s39 (RP.mono _ h0_0 l38) hx35) ?_
 rintro _ w42 ⟨rfl,hst⟩
 have hst:=k41 hst (cb c0)
 refine nn (W_block (sq (L_eql rfl rfl rfl (aB rfl (nn ?_)))))
 obtain ⟨⟨g_0_1_43,g27_0_44,g27_1_46⟩,hA49,hF⟩:=bind_some hF
 obtain ⟨R49,hR49⟩:=exR fun f w_=>∃ H47 : FH,∃ v44_g27_0 : Value,Le H H47∧f 4 = Pt g7∧f 5 = Pt g27∧Star H47 w_ ([box g_0 126 #[v0_0,I g_0_1_43],oF 117 rTerm v44_g27_0 g27_0_44,box g27 41 #[v44_g27_0,I g27_1_46],box g7 41 #[S0,I 0]])
 refine W_join R49 ?_ ?_
 refine W_cond (b:=(x35.1 == 0)) rfl (fun hc50=>?_) (fun hc50=>?_)
 have hA49:=(ite_t hc50).symm.trans hA49
 obtain ⟨x60,hx60,hA49⟩:=bind_some hA49
 refine W_region (mV (Pt g_0) rfl (L_bs rfl (parts3 rfl rfl rfl) (bs_105_3_0_0_0 (I (-1)) (I 20001) (I 9223372036854775807) rfl rfl rfl) hst (fun g63 w64 hst=>?_)))
 have hst:=litInts [(-1),20001,9223372036854775807] 3 hst rfl rfl (by decide)
 have hst:=hst.get 1 rfl
 obtain ⟨H66b,l67,s68,z69,k70⟩:=hst.lend [_]
 have hb71 : (rS 3 RP.int).rel H66b [(Sl g63 3 3)] ([(-1),20001,9223372036854775807]):=fz_own 0 z69 rfl
 refine L_call rfl Try.call110 (ops2 rfl rfl) (s_l17Rd_num_c (r_:=({ b:=r_.b,p:=x35.2 } : Rd)) (list:=[(-1),20001,9223372036854775807]) s68 (RP.mono _ h0_0 l67) hb71 hx60) ?_
 rintro _ w72 ⟨rfl,hst⟩
 have hst:=k70 hst (cb c0)
 refine fA 1 fa_41_1 rfl rfl (L_stB (v:=I x60.1) (cs2:=#[r25_0,I x60.1]) 2 rfl Try.sizeOf3 rfl rfl rfl hst rfl rfl rfl (fun w73 hst=>nn ?_))
 obtain ⟨rfl,rfl,rfl⟩:=so3 hA49
 have hst:=hst.gets [4,1,4,3] rfl
 exact rj hR49 ⟨H,r25_0,(Le.refl _),rfl,rfl,(Star.keepN 4 hst)⟩
 have hA49:=(ite_f hc50).symm.trans hA49
 refine sq (L_eql rfl rfl rfl (aB rfl (nn ?_)))
 obtain ⟨⟨g_0_1_74,g27_0_75⟩,hA79,hA49⟩:=bind_some hA49
 obtain ⟨R79,hR79⟩:=exR fun f w_=>∃ H77 : FH,∃ v75_g27_0 : Value,Le H H77∧f 4 = Pt g7∧f 5 = Pt g27∧Star H77 w_ ([box g_0 126 #[v0_0,I g_0_1_74],oF 117 rTerm v75_g27_0 g27_0_75,box g27 41 #[v75_g27_0,I x14.bound],box g7 41 #[S0,I 0]])
 refine W_join R79 ?_ ?_
 refine W_cond (b:=(x35.1 == 1)) rfl (fun hc80=>?_) (fun hc80=>?_)
 have hA79:=(ite_t hc80).symm.trans hA79
 refine sq (mI rfl (L_gtr rfl rfl rfl (nn ?_)))
 obtain ⟨⟨g_0_1_81,g27_0_82⟩,hA85,hA79⟩:=bind_some hA79
 obtain ⟨R85,hR85⟩:=exR fun f w_=>∃ H83 : FH,Le H H83∧f 4 = Pt g7∧f 5 = Pt g27∧Star H83 w_ ([box g_0 126 #[v0_0,I g_0_1_81],oF 117 rTerm r25_0 g27_0_82,box g27 41 #[r25_0,I x14.bound],box g7 41 #[S0,I 0]])
 refine W_join R85 ?_ ?_
 refine W_cond (b:=decide ((x14.terms.length : Int) > 0)) rfl (fun hc86=>?_) (fun hc86=>?_)
 have hA85:=(ite_t hc86).symm.trans hA85
 obtain ⟨x96,hx96,hA85⟩:=bind_some hA85
 obtain ⟨x98,hx98,hA85⟩:=bind_some hA85
 have hst:=Star.drop 4 hst rfl
 have hst:=hst.gets [3,3,3] rfl
 refine W_drawS 5 [isV (Pt g27),isV (r25_0),isV (Pt g_0),anyF,isV (I x96.1)] [box g27 41 #[r25_0,I x14.bound],oF 117 rTerm r25_0 x14.terms,box g7 41 #[S0,I 0]] [.base (box g_0 126 #[v0_0,I x35.2]) (some 4),.made 3 27 (fun v_=>oF 3 RP.int v_ ([0,(-1),1001])) none,.made 4 28 (fun v_=>box g_0 126 #[v0_0,I x96.2]) none] ([]) [([],[]),([],[]),([],[]),([],[1]),([0,1],[1,2])] (S:=[(none,[],some 4),(some 3,[27],none),(some 4,[28],none)]) Try_mix (by kernel_rfl) rfl (by kernel_rfl) (amF_cons (mono_V _) (amF_cons (mono_V _) (amF_cons (mono_V _) (amF_cons (mono_any) (amF_cons (mono_V _) amF_nil))))) hst ?_ (fun f w_ H102 hS102 hE102 hT102 hst=>?_)
 refine opsS_cons (fun f w_ _ _ s _ _ hst=>fA 0 fa_41_0 ((s 5 rfl).trans rfl) rfl (nO rfl rfl hst)) (opsS_cons (fun f w_ _ _ _ _ p hst=>ldB 0 hst Try.isAgg39 (p 0 24 rfl rfl) rfl rfl (nO rfl rfl hst)) (opsS_cons (fun f w_ _ _ s _ _ hst=>mF ((s 0 rfl).trans rfl) rfl (nO rfl rfl hst)) (opsS_cons ?_ ?_)))
 intro f w_ H102 X102 hS102 hE102 hP102 hst
 refine L_bs rfl (parts3 rfl rfl rfl) (bs_105_3_0_0_0 (I 0) (I (-1)) (I 1001) rfl rfl rfl) hst (fun g113 w114 hst=>?_)
 have hst:=litInts [0,(-1),1001] 3 hst rfl rfl (by decide)
 have hst:=hst.gets [3,3,3] rfl
 exact L_nil ⟨rfl,_,_,rfl,Le.refl _,fun _ _=>trivial,hst⟩
 refine opsS_cons ?_ ?_
 intro f w_ H102 X102 hS102 hE102 hP102 hst
 have hst : Star H102 w_ (box g27 41 #[r25_0,I x14.bound] :: oF 117 rTerm r25_0 x14.terms :: box g7 41 #[S0,I 0] :: box g_0 126 #[v0_0,I x35.2] :: oF 3 RP.int (f 27) ([0,(-1),1001]) :: X102):=hst
 have hst:=hst.get 3 rfl
 obtain ⟨H117b,l118,s119,z120,k121⟩:=hst.lend [_]
 have hb122 : (rS 3 RP.int).rel H117b [(f 27)] ([0,(-1),1001]):=fz_own 3 z120 rfl
 refine L_call rfl Try.call110 (ops2 (hP102 2 26 rfl rfl) rfl) (s_l17Rd_num_c (r_:=({ b:=r_.b,p:=x35.2 } : Rd)) (list:=[0,(-1),1001]) s119 (RP.mono _ h0_0 (Le.trans hE102 l118)) hb122 hx96) ?_
 rintro _ w123 ⟨rfl,hst⟩
 have hst:=k121 hst (cb c0)
 have hst:=hst.gets [4,4,4,4] rfl
 exact L_nil ⟨rfl,_,_,rfl,Le.refl _,fun _ _=>rfl,hst⟩
 exact opsS_nil
 have hst : Star H102 w_ ([box g27 41 #[r25_0,I x14.bound],oF 117 rTerm r25_0 x14.terms,box g7 41 #[S0,I 0],oF 3 RP.int (f 27) ([0,(-1),1001]),box g_0 126 #[v0_0,I x96.2]]):=hst
 obtain ⟨g124,cap_g124,hv125,_,_⟩:=Star.row 1 hst rfl hx98
 refine L_ixO (R:=(OR.frz rTerm)) (tb:=0) 0 rfl Try.underlying39 Try.sizeOf117 (hT102 1 25 rfl rfl) hv125 (by first | rfl | simp) rfl hx98 (fA (Int.toNat 0 * 2 + 0) fa_117_0 rfl rfl ?_)
 have hst:=hst.get 1 rfl
 refine L_stF (j:=0) (u:=I x96.1) (z:={ x98 with coef:=x96.1 }) rfl Try.sizeOf3 rfl rfl (hT102 4 28 rfl rfl) rfl hv125 hst hx98 fldF_rTerm_0 (fun w126 hst=>nn ?_)
 obtain ⟨rfl,rfl⟩:=so2 hA85
 have hst:=hst.gets [2,2,2,4] rfl
 exact rj hR85 ⟨H102,hE102,((hS102 4 rfl).trans rfl),((hS102 5 rfl).trans rfl),(Star.keepN 4 hst)⟩
 have hA85:=(ite_f hc86).symm.trans hA85
 refine W_skip ?_
 obtain ⟨rfl,rfl⟩:=so2 hA85
 have hst:=hst.gets [3,2,3,3] rfl
 exact rj hR85 ⟨H,(Le.refl _),rfl,rfl,(Star.keepN 4 hst)⟩
 intro f w_ hR
 obtain ⟨H83,l84,sf4,sf5,hst⟩:=rk hR85 hR
 obtain ⟨rfl,rfl⟩:=so2 hA79
 exact rj hR79 ⟨H83,r25_0,l84,sf4,sf5,hst⟩
 have hA79:=(ite_f hc80).symm.trans hA79
 refine sq (L_eql rfl rfl rfl (aB rfl (nn ?_)))
 obtain ⟨⟨g_0_1_127,g27_0_128⟩,hA132,hA79⟩:=bind_some hA79
 obtain ⟨R132,hR132⟩:=exR fun f w_=>∃ H130 : FH,∃ v128_g27_0 : Value,Le H H130∧f 4 = Pt g7∧f 5 = Pt g27∧Star H130 w_ ([box g_0 126 #[v0_0,I g_0_1_127],oF 117 rTerm v128_g27_0 g27_0_128,box g27 41 #[v128_g27_0,I x14.bound],box g7 41 #[S0,I 0]])
 refine W_join R132 ?_ ?_
 refine W_cond (b:=(x35.1 == 2)) rfl (fun hc133=>?_) (fun hc133=>?_)
 have hA132:=(ite_t hc133).symm.trans hA132
 refine sq (mI rfl (L_gtr rfl rfl rfl (nn ?_)))
 obtain ⟨⟨g_0_1_134,g27_0_135⟩,hA138,hA132⟩:=bind_some hA132
 obtain ⟨R138,hR138⟩:=exR fun f w_=>∃ H136 : FH,Le H H136∧f 4 = Pt g7∧f 5 = Pt g27∧Star H136 w_ ([box g_0 126 #[v0_0,I g_0_1_134],oF 117 rTerm r25_0 g27_0_135,box g27 41 #[r25_0,I x14.bound],box g7 41 #[S0,I 0]])
 refine W_join R138 ?_ ?_
 refine W_cond (b:=decide ((x14.terms.length : Int) > 0)) rfl (fun hc139=>?_) (fun hc139=>?_)
 have hA138:=(ite_t hc139).symm.trans hA138
 obtain ⟨x149,hx149,hA138⟩:=bind_some hA138
 obtain ⟨x151,hx151,hA138⟩:=bind_some hA138
 have hst:=Star.drop 4 hst rfl
 have hst:=hst.gets [3,3,3] rfl
 refine W_drawS 7 [isV (Pt g27),isV (r25_0),isV (I (x14.terms.length : Int)),isV (I (i64 ((x14.terms.length : Int) - 1))),isV (Pt g_0),anyF,isV (I x149.1)] [box g27 41 #[r25_0,I x14.bound],oF 117 rTerm r25_0 x14.terms,box g7 41 #[S0,I 0]] [.base (box g_0 126 #[v0_0,I x35.2]) (some 6),.made 5 40 (fun v_=>oF 3 RP.int v_ ([0,13,(-13),1,(-9223372036854775808)])) none,.made 6 41 (fun v_=>box g_0 126 #[v0_0,I x149.2]) none] ([]) [([],[]),([],[]),([],[]),([],[]),([],[]),([],[1]),([0,1],[1,2])] (S:=[(none,[],some 6),(some 5,[40],none),(some 6,[41],none)]) Try_mix (by kernel_rfl) rfl (by kernel_rfl) (amF_cons (mono_V _) (amF_cons (mono_V _) (amF_cons (mono_V _) (amF_cons (mono_V _) (amF_cons (mono_V _) (amF_cons (mono_any) (amF_cons (mono_V _) amF_nil))))))) hst ?_ (fun f w_ H155 hS155 hE155 hT155 hst=>?_)
 refine opsS_cons (fun f w_ _ _ s _ _ hst=>fA 0 fa_41_0 ((s 5 rfl).trans rfl) rfl (nO rfl rfl hst)) (opsS_cons (fun f w_ _ _ _ _ p hst=>ldB 0 hst Try.isAgg39 (p 0 35 rfl rfl) rfl rfl (nO rfl rfl hst)) (opsS_cons (fun f w_ _ _ s _ _ hst=>mF ((s 6 rfl).trans rfl) rfl (nO rfl rfl hst)) (opsS_cons (fun f w_ _ _ _ _ p hst=>L_sub rfl (p 2 37 rfl rfl) rfl (nO rfl rfl hst)) (opsS_cons (fun f w_ _ _ s _ _ hst=>mF ((s 0 rfl).trans rfl) rfl (nO rfl rfl hst)) (opsS_cons ?_ ?_)))))
 intro f w_ H155 X155 hS155 hE155 hP155 hst
 refine L_bs rfl (parts5 rfl rfl rfl rfl rfl) (bs_105_5_0_0_0_0_0 (I 0) (I 13) (I (-13)) (I 1) (I (-9223372036854775808)) rfl rfl rfl rfl rfl) hst (fun g166 w167 hst=>?_)
 have hst:=litInts [0,13,(-13),1,(-9223372036854775808)] 5 hst rfl rfl (by decide)
 have hst:=hst.gets [3,3,3] rfl
 exact L_nil ⟨rfl,_,_,rfl,Le.refl _,fun _ _=>trivial,hst⟩
 refine opsS_cons ?_ ?_
 intro f w_ H155 X155 hS155 hE155 hP155 hst
 have hst : Star H155 w_ (box g27 41 #[r25_0,I x14.bound] :: oF 117 rTerm r25_0 x14.terms :: box g7 41 #[S0,I 0] :: box g_0 126 #[v0_0,I x35.2] :: oF 3 RP.int (f 40) ([0,13,(-13),1,(-9223372036854775808)]) :: X155):=hst
 have hst:=hst.get 3 rfl
 obtain ⟨H170b,l171,s172,z173,k174⟩:=hst.lend [_]
 have hb175 : (rS 3 RP.int).rel H170b [(f 40)] ([0,13,(-13),1,(-9223372036854775808)]):=fz_own 3 z173 rfl
 refine L_call rfl Try.call110 (ops2 (hP155 4 39 rfl rfl) rfl) (s_l17Rd_num_c (r_:=({ b:=r_.b,p:=x35.2 } : Rd)) (list:=[0,13,(-13),1,(-9223372036854775808)]) s172 (RP.mono _ h0_0 (Le.trans hE155 l171)) hb175 hx149) ?_
 rintro _ w176 ⟨rfl,hst⟩
 have hst:=k174 hst (cb c0)
 have hst:=hst.gets [4,4,4,4] rfl
 exact L_nil ⟨rfl,_,_,rfl,Le.refl _,fun _ _=>rfl,hst⟩
 exact opsS_nil
 have hst : Star H155 w_ ([box g27 41 #[r25_0,I x14.bound],oF 117 rTerm r25_0 x14.terms,box g7 41 #[S0,I 0],oF 3 RP.int (f 40) ([0,13,(-13),1,(-9223372036854775808)]),box g_0 126 #[v0_0,I x149.2]]):=hst
 obtain ⟨g177,cap_g177,hv178,_,_⟩:=Star.row 1 hst rfl hx151
 refine L_ixO (R:=(OR.frz rTerm)) (tb:=0) 0 rfl Try.underlying39 Try.sizeOf117 (hT155 1 36 rfl rfl) hv178 (by first | rfl | simp) (hT155 3 38 rfl rfl) hx151 (fA (Int.toNat (i64 ((x14.terms.length : Int) - 1)) * 2 + 1) fa_117_1 rfl rfl ?_)
 have hst:=hst.get 1 rfl
 refine L_stF (j:=1) (u:=I x149.1) (z:={ x151 with lit:=x149.1 }) rfl Try.sizeOf3 rfl rfl (hT155 6 41 rfl rfl) rfl hv178 hst hx151 fldF_rTerm_1 (fun w179 hst=>nn ?_)
 obtain ⟨rfl,rfl⟩:=so2 hA138
 have hst:=hst.gets [2,2,2,4] rfl
 exact rj hR138 ⟨H155,hE155,((hS155 4 rfl).trans rfl),((hS155 5 rfl).trans rfl),(Star.keepN 4 hst)⟩
 have hA138:=(ite_f hc139).symm.trans hA138
 refine W_skip ?_
 obtain ⟨rfl,rfl⟩:=so2 hA138
 have hst:=hst.gets [3,2,3,3] rfl
 exact rj hR138 ⟨H,(Le.refl _),rfl,rfl,(Star.keepN 4 hst)⟩
 intro f w_ hR
 obtain ⟨H136,l137,sf4,sf5,hst⟩:=rk hR138 hR
 obtain ⟨rfl,rfl⟩:=so2 hA132
 exact rj hR132 ⟨H136,r25_0,l137,sf4,sf5,hst⟩
 have hA132:=(ite_f hc133).symm.trans hA132
 refine sq (L_eql rfl rfl rfl (aB rfl (nn ?_)))
 obtain ⟨g27_0_180,hA182,hA132⟩:=bind_some hA132
 obtain ⟨R182,hR182⟩:=exR fun f w_=>∃ v180_g27_0 : Value,f 4 = Pt g7∧f 5 = Pt g27∧Star H w_ ([box g_0 126 #[v0_0,I x35.2],oF 117 rTerm v180_g27_0 g27_0_180,box g27 41 #[v180_g27_0,I x14.bound],box g7 41 #[S0,I 0]])
 refine W_join R182 ?_ ?_
 refine W_cond (b:=(x35.1 == 3)) rfl (fun hc183=>?_) (fun hc183=>?_)
 have hA182:=(ite_t hc183).symm.trans hA182
 obtain ⟨x187,hx187,hA182⟩:=bind_some hA182
 refine W_region (fA 0 fa_41_0 rfl rfl (ldB 1 hst Try.isAgg39 rfl rfl rfl (L_bld rfl (parts2 rfl rfl) (bld_117_0_1 (I 1) (I 1) rfl rfl) (L_bs rfl (parts1 rfl) (bs_39_1_2 (I 1) (I 1) ) hst (fun g192 w193 hst=>?_)))))
 have hst:=Star.addF (r:=rTerm) (cs:=[I 1,I 1]) (x:=({ coef:=1,lit:=1 } : Term)) hst (rTerm_iff.2 rfl)
 have hst:=Star.mkRow (R:=(OR.frz rTerm)) [([I 1,I 1],({ coef:=1,lit:=1 } : Term))] [({ coef:=1,lit:=1 } : Term)] 1 hst rfl rfl rfl (by decide)
 have hst:=hst.get 3 rfl
 refine L_appM (v:=r25_0) (u:=(Sl g192 1 1)) rfl et_39 rfl rfl hst hx187 (fun v195 w196 hst=>fA 0 fa_41_0 rfl rfl (L_stB (v:=v195) (cs2:=#[v195,I x14.bound]) 2 rfl Try.sizeOf39 rfl rfl (one_len (Star.len 0 hst rfl)) hst rfl rfl rfl (fun w198 hst=>nn ?_)))
 obtain rfl:=so hA182
 have hst:=hst.gets [3,1,2,3] rfl
 exact rj hR182 ⟨v195,rfl,rfl,(Star.keepN 4 hst)⟩
 have hA182:=(ite_f hc183).symm.trans hA182
 refine W_skip ?_
 obtain rfl:=so hA182
 have hst:=hst.gets [3,2,3,3] rfl
 exact rj hR182 ⟨r25_0,rfl,rfl,(Star.keepN 4 hst)⟩
 intro f w_ hR
 obtain ⟨v180_g27_0,sf4,sf5,hst⟩:=rk hR182 hR
 obtain ⟨rfl,rfl⟩:=so2 hA132
 exact rj hR132 ⟨H,v180_g27_0,(Le.refl _),sf4,sf5,hst⟩
 intro f w_ hR
 obtain ⟨H130,v128_g27_0,l131,sf4,sf5,hst⟩:=rk hR132 hR
 obtain ⟨rfl,rfl⟩:=so2 hA79
 exact rj hR79 ⟨H130,v128_g27_0,l131,sf4,sf5,hst⟩
 intro f w_ hR
 obtain ⟨H77,v75_g27_0,l78,sf4,sf5,hst⟩:=rk hR79 hR
 obtain ⟨rfl,rfl,rfl⟩:=so3 hA49
 exact rj hR49 ⟨H77,v75_g27_0,l78,sf4,sf5,hst⟩
 intro f w_ hR
 obtain ⟨H47,v44_g27_0,l48,sf4,sf5,hst⟩:=rk hR49 hR
 refine sq (L_lda (cs:=[v44_g27_0,I g27_1_46]) rfl Try.isAgg41 Try.sizeOf41 sf5 (At.sub0 (Blk.at (Star.blkAt 2 hst rfl)) 0 2) rfl (L_staB (vs:=#[v44_g27_0,I g27_1_46]) (cs2:=#[v44_g27_0,I g27_1_46]) 3 rfl Try.sizeOf41 sf4 rfl rfl (ones_cons (one_len (Star.len 1 hst rfl)) (ones_cons rfl ones_nil)) hst rfl (by show 0 + 2≤2; decide) rfl (fun w200 hst=>nn (W_ret (retG1 (v1:=.agg #[v44_g27_0,I g27_1_46]) Try.results73 (resV_agg Try.isAgg41 Try.sizeOf41 sf4 (Star.blkAt 0 hst rfl) rfl) ?_)))))
 obtain rfl:=so hF
 have hst:=hst.gets [1,2] rfl
 exact ⟨v44_g27_0,rfl,(Star.down (Star.keepN 2 hst) l48 (co closed_term (cb c0)))⟩
theorem s_l3Mutate_c {r_ : Rd} {list : List Con} {g_0 : Nat} {v0_0 : Value} {v1 : Value} {H : FH} {w : World} {R : List Ass} (hst : Star H w (box g_0 126 #[v0_0,I r_.p] :: R)) (h0_0 : (rS 5 RP.u8).rel H [v0_0] r_.b) (h1 : (rS 41 (rCon 117)).rel H [v1] list) {r : (List Con) × Int} (hF : s_l3Mutate r_ list = some r) :
 C Try.prog 68 #[Pt g_0,v1] w fun v w'=>∃ H' : FH,Le H H'∧∃ (u1 : Value),v = u1∧Star H' w' (oF 41 (rCon 117) u1 r.1 :: box g_0 126 #[v0_0,I r.2] :: R):=by
 unfold s_l3Mutate at hF
 refine C_enter Try.func68 rfl Try.ntmps68 rfl (sq (aV S0 rfl (nq ?_)))
 obtain ⟨x4,hx4,hF⟩:=bind_some hF
 refine W_region (L_bs rfl parts0 (bs_27_0  ) hst (fun g8 w9 hst=>?_))
 have hst:=Star.mkRow (R:=(OR.frz (rCon 117))) [] [] 0 hst rfl rfl rfl (by decide)
 refine mV v1 rfl (L_app (v:=(Sl g8 0 0)) (u:=v1) rfl et_27 rfl rfl hst h1 hx4 (fun v11 w12 hst=>aV v11 rfl (nq (W_seq ?_))))
 obtain ⟨b21,hb21,hF⟩:=bind_some hF
 obtain ⟨R22,hR22⟩:=exR fun f w_=>f 0 = Pt g_0∧f 5 = v11∧f 17 = Bo b21.1∧Star H w_ (oF 41 (rCon 117) v11 x4 :: box g_0 126 #[v0_0,I b21.2] :: R)
 refine W_join R22 ?_ ?_
 refine W_region (mV v11 rfl (L_len rfl Try.underlying27 rfl (Star.len 0 hst rfl) (L_gtr rfl rfl rfl (mB rfl (L_split (d:=13) (b:=decide ((x4.length : Int) > 0)) rfl (fun hc23=>?_) (fun hc23=>?_))))))
 rw [ite_t hc23] at hb21
 obtain ⟨x19,hx19,hb21⟩:=bind_some hb21
 refine mV (Pt g_0) rfl ?_
 have hst:=hst.get 1 rfl
 obtain ⟨H24b,l25,s26,z27,k28⟩:=hst.lend [_]
 refine L_call rfl Try.call71 (ops2 rfl rfl) (s_l17Rd_pick_c (r_:=r_) (n_:=20) s26 (RP.mono _ h0_0 l25) hx19) ?_
 rintro _ w29 ⟨rfl,hst⟩
 have hst:=k28 hst (cb c0)
 refine L_eql rfl rfl rfl (L_pick (v:=Bo b21.1) rfl rfl (congrArg (fun z : Bool × Int=>Value.bool z.1) (so hb21)) ?_)
 have hst : Star H w29 (box g_0 126 #[v0_0,I b21.2] :: oF 41 (rCon 117) v11 x4 :: R):=by rw [← so hb21]; exact hst
 refine nn ?_
 have hst:=hst.get 1 rfl
 exact rj hR22 ⟨rfl,rfl,rfl,hst⟩
 rw [ite_f hc23] at hb21
 refine ps rfl (ps rfl (ps rfl (L_pick (v:=Bo b21.1) rfl rfl (congrArg (fun z : Bool × Int=>Value.bool z.1) (so hb21)) ?_)))
 have hst:=hst.get 1 rfl
 have hst : Star H w12 (box g_0 126 #[v0_0,I b21.2] :: oF 41 (rCon 117) v11 x4 :: R):=by rw [← so hb21]; exact hst
 refine nn ?_
 have hst:=hst.get 1 rfl
 exact rj hR22 ⟨rfl,rfl,rfl,hst⟩
 intro f w_ hR
 obtain ⟨sf0,sf5,sf17,hst⟩:=rk hR22 hR
 obtain ⟨⟨out_30,g_0_1_31⟩,hA34,hF⟩:=bind_some hF
 obtain ⟨R34,hR34⟩:=exR fun f w_=>∃ H32 : FH,Le H H32∧f 5 = v11∧Star H32 w_ (oF 41 (rCon 117) v11 out_30 :: box g_0 126 #[v0_0,I g_0_1_31] :: R)
 refine W_join R34 ?_ ?_
 refine W_cond (b:=b21.1) sf17 (fun hc35=>?_) (fun hc35=>?_)
 have hA34:=(ite_t hc35).symm.trans hA34
 refine W_seq ?_
 obtain ⟨x41,hx41,hA34⟩:=bind_some hA34
 refine W_region (mF sf0 rfl (mF sf5 rfl (L_len rfl Try.underlying27 rfl (Star.len 0 hst rfl) ?_)))
 have hst:=hst.get 1 rfl
 obtain ⟨H43b,l44,s45,z46,k47⟩:=hst.lend [_]
 refine L_call rfl Try.call71 (ops2 rfl rfl) (s_l17Rd_pick_c (r_:=({ b:=r_.b,p:=b21.2 } : Rd)) (n_:=(x4.length : Int)) s45 (RP.mono _ h0_0 l44) hx41) ?_
 rintro _ w48 ⟨rfl,hst⟩
 have hst:=k47 hst (cb c0)
 refine aI rfl (nn ?_)
 obtain ⟨x49,hx49,hA34⟩:=bind_some hA34
 obtain ⟨x59,hx59,hA34⟩:=bind_some hA34
 obtain ⟨x68,hx68,hA34⟩:=bind_some hA34
 obtain ⟨x77,hx77,hA34⟩:=bind_some hA34
 refine W_region (mF sf5 rfl (mI rfl (mF sf0 rfl (mF sf0 rfl (mF sf0 rfl (mF sf5 rfl (mI rfl ?_)))))))
 obtain ⟨g84,cap_g84,hv85,_,_⟩:=Star.row 1 hst rfl hx49
 refine L_ixO (R:=(OR.frz (rCon 117))) (tb:=0) 0 rfl Try.underlying27 Try.sizeOf41 rfl hv85 (by first | rfl | simp) rfl hx49 ?_
 obtain ⟨cs86,hr86,hat86⟩:=Star.eltF 1 hst rfl hv85 hx49
 obtain ⟨u87_0,rfl,hu87_0⟩:=rCon_iff.1 hr86
 refine L_lda (cs:=[u87_0,I x49.bound]) rfl Try.isAgg41 Try.sizeOf41 rfl (At.sub hat86 0 2) rfl ?_
 obtain ⟨H88b,l89,s90,z91,k92⟩:=hst.lend [_]
 refine L_call rfl Try.call73 (ops2 rfl rfl) (s_l1Mutate_c (r_:=({ b:=r_.b,p:=x41.2 } : Rd)) (c:=x49) s90 (RP.mono _ h0_0 l89) (RP.mono _ hu87_0 l89) hx59) ?_
 rintro _ w93 ⟨r93_0,rfl,hst⟩
 have hst:=k92 hst (co closed_term (cb c0))
 have hst:=hst.get 1 rfl
 obtain ⟨H95b,l96,s97,z98,k99⟩:=hst.lend [_]
 have hb100 : (rS 117 rTerm).rel H95b [r93_0] x59.1.terms:=fz_own 0 z98 rfl
 refine L_call rfl Try.call73 (ops2 rfl rfl) (s_l1Mutate_c (r_:=({ b:=r_.b,p:=x59.2 } : Rd)) (c:=x59.1) s97 (RP.mono _ h0_0 l96) hb100 hx68) ?_
 rintro _ w101 ⟨r101_0,rfl,hst⟩
 have hst:=k99 hst (co closed_term (cb c0))
 have hst:=hst.get 1 rfl
 obtain ⟨H103b,l104,s105,z106,k107⟩:=hst.lend [_]
 have hb108 : (rS 117 rTerm).rel H103b [r101_0] x68.1.terms:=fz_own 0 z106 rfl
 refine L_call rfl Try.call73 (ops2 rfl rfl) (s_l1Mutate_c (r_:=({ b:=r_.b,p:=x68.2 } : Rd)) (c:=x68.1) s105 (RP.mono _ h0_0 l104) hb108 hx77) ?_
 rintro _ w109 ⟨r109_0,rfl,hst⟩
 have hst:=k107 hst (co closed_term (cb c0))
 refine L_ixO (R:=(OR.frz (rCon 117))) (tb:=0) 0 rfl Try.underlying27 Try.sizeOf41 rfl hv85 (by first | rfl | simp) rfl hx49 ?_
 obtain ⟨H112,l113,hst,hz114⟩:=Star.freeze hst
 have hz114 : (rS 117 rTerm).rel H112 [r109_0] x77.1.terms:=hz114
 have hst:=Star.addF (r:=(rCon 117)) (cs:=[r109_0,I x77.1.bound]) (x:=x77.1) hst (rCon_iff.2 ⟨_,rfl,hz114⟩)
 have hst:=hst.gets [4,1] rfl
 refine L_stE (vs:=#[r109_0,I x77.1.bound]) rfl Try.sizeOf41 rfl rfl rfl hv85 hst hx49 (fun w111 hst=>nn ?_)
 obtain ⟨rfl,rfl⟩:=so2 hA34
 have hst:=Star.drop 2 hst rfl
 have hst:=Star.drop 2 hst rfl
 exact rj hR34 ⟨H112,l113,sf5,hst⟩
 have hA34:=(ite_f hc35).symm.trans hA34
 refine W_skip ?_
 obtain ⟨rfl,rfl⟩:=so2 hA34
 exact rj hR34 ⟨H,(Le.refl _),sf5,hst⟩
 intro f w_ hR
 obtain ⟨H32,l33,sf5,hst⟩:=rk hR34 hR
 refine sq (mF sf5 rfl (aV v11 rfl (nn (W_ret (retG1 (v1:=v11) Try.results68 rfl ?_)))))
 obtain rfl:=so hF
 exact ⟨H32,l33,v11,rfl,hst⟩
theorem s_l1Draw_c {r_ : Rd} {most : Int} {g_0 : Nat} {v0_0 : Value} {H : FH} {w : World} (hst : Star H w [box g_0 126 #[v0_0,I r_.p]]) (h0_0 : (rS 5 RP.u8).rel H [v0_0] r_.b) {r : Con × Int} (hF : s_l1Draw r_ most = some r) :
 C Try.prog 70 #[Pt g_0,I most] w fun v w'=>∃ (u1 : Value),v = .agg #[u1,I r.1.bound]∧Star H w' [oF 117 rTerm u1 r.1.terms,box g_0 126 #[v0_0,I r.2]]:=by
 unfold s_l1Draw at hF
 refine C_enter Try.func70 rfl Try.ntmps70 rfl (sq (L_al (cs:=#[S0,I 0]) rfl Try.zeroValue41 rfl hst (fun g3 w4 hst=>ns (L_bld rfl (parts0 ) (bld_41_  ) (L_al (cs:=#[S0,I 0]) rfl Try.zeroValue41 rfl hst (fun g8 w9 hst=>L_staB (vs:=#[S0,I 0]) (cs2:=#[S0,I 0]) 0 rfl Try.sizeOf41 rfl rfl rfl (ones_cons rfl (ones_cons rfl ones_nil)) hst rfl (by show 0 + 2≤2; decide) rfl (fun w10 hst=>nq (sq (aI rfl (nn ?_))))))))))
 obtain ⟨k16,hk16,hF⟩:=bind_some hF
 obtain ⟨j15,hL15,hF⟩:=bind_some hF
 obtain ⟨R15,hR15⟩:=exR fun f w_=>∃ g_0_1_12 : Int,∃ g8_0_13 : List Term,∃ v13_g8_0 : Value,j15 = .nx (g_0_1_12,g8_0_13)∧f 0 = Pt g_0∧f 4 = Pt g3∧f 5 = Pt g8∧Star H w_ ([box g_0 126 #[v0_0,I g_0_1_12],oF 117 rTerm v13_g8_0 g8_0_13,box g8 41 #[v13_g8_0,I 0],box g3 41 #[S0,I 0]])
 refine W_join R15 ?_ ?_
 refine W_block ?_
 obtain ⟨I15,hI15⟩:=exI fun n f w_=>∃ i_11 : Nat,∃ suf15 : Nat,∃ g_0_1_12 : Int,∃ g8_0_13 : List Term,∃ v13_g8_0 : Value,suf15 = n∧1≤i_11∧i_11 + suf15 = 1 + k16∧countL (s_l1Draw_b1 r_) suf15 i_11 (g_0_1_12,g8_0_13) = some j15∧f 0 = Pt g_0∧f 1 = I most∧f 4 = Pt g3∧f 5 = Pt g8∧f 6 = I i_11∧Star H w_ ([box g_0 126 #[v0_0,I g_0_1_12],oF 117 rTerm v13_g8_0 g8_0_13,box g8 41 #[v13_g8_0,I 0],box g3 41 #[S0,I 0]])
 have hst:=Star.addNil (R:=(OR.frz rTerm)) (e:=117) hst
 have hst:=hst.gets [2,2,2,3] rfl
 refine W_loop I15 (n:=k16) ?_ ?_
 exact ij hI15 ⟨1,k16,r_.p,[],S0,rfl,Nat.le_refl _,rfl,hL15,rfl,rfl,rfl,rfl,rfl,hst⟩
 intro n15 f w_ hI
 obtain ⟨i_11,suf15,g_0_1_12,g8_0_13,v13_g8_0,rfl,hs15,hl15,hL15,sf0,sf1,sf4,sf5,sf6,hst⟩:=ik hI15 hI
 refine W_seq (sq (mF sf6 rfl (mF sf1 rfl (L_leq rfl rfl rfl (nn (W_cond (b:=decide ((i_11 : Int)≤most)) rfl (fun hc18=>?_) (fun hc18=>?_)))))))
 have hlt15:=of_decide_eq_true hc18
 rcases suf15 with _ | rest15
 exact absurd hlt15 (cntF_noL hl15 hk16)
 obtain ⟨o15,hB15,hL15⟩:=count_succ hL15
 rw [s_l1Draw_b1] at hB15
 refine W_skip (W_seq (W_block (W_seq ?_)))
 obtain ⟨x24,hx24,hB15⟩:=bind_some hB15
 refine W_region (mF sf0 rfl ?_)
 obtain ⟨H26b,l27,s28,z29,k30⟩:=hst.lend [_]
 refine L_call rfl Try.call71 (ops2 rfl rfl) (s_l17Rd_pick_c (r_:=({ b:=r_.b,p:=g_0_1_12 } : Rd)) (n_:=2) s28 (RP.mono _ h0_0 l27) hx24) ?_
 rintro _ w31 ⟨rfl,hst⟩
 have hst:=k30 hst (cb c0)
 refine L_eql rfl rfl rfl (nn ?_)
 obtain ⟨⟨g_0_1_32,g8_0_33⟩,hA35,hB15⟩:=bind_some hB15
 obtain ⟨R35,hR35⟩:=exR fun f w_=>∃ v33_g8_0 : Value,f 0 = Pt g_0∧f 1 = I most∧f 4 = Pt g3∧f 5 = Pt g8∧f 6 = I i_11∧Star H w_ ([box g_0 126 #[v0_0,I g_0_1_32],oF 117 rTerm v33_g8_0 g8_0_33,box g8 41 #[v33_g8_0,I 0],box g3 41 #[S0,I 0]])
 refine W_join R35 ?_ ?_
 refine W_cond (b:=(x24.1 == 0)) rfl (fun hc36=>?_) (fun hc36=>?_)
 have hA35:=(ite_t hc36).symm.trans hA35
 refine W_seq ?_
 obtain ⟨x46,hx46,hA35⟩:=bind_some hA35
 refine W_region (mF sf0 rfl (L_bs rfl (parts7 rfl rfl rfl rfl rfl rfl rfl) (bs_105_7_0_0_0_0_0_0_0 (I 1) (I 1) (I 2) (I 3) (I 1) (I 5) (I 4) rfl rfl rfl rfl rfl rfl rfl) hst (fun g51 w52 hst=>?_)))
 have hst:=litInts [1,1,2,3,1,5,4] 7 hst rfl rfl (by decide)
 have hst:=hst.get 1 rfl
 obtain ⟨H54b,l55,s56,z57,k58⟩:=hst.lend [_]
 have hb59 : (rS 3 RP.int).rel H54b [(Sl g51 7 7)] ([1,1,2,3,1,5,4]):=fz_own 0 z57 rfl
 refine L_call rfl Try.call110 (ops2 rfl rfl) (s_l17Rd_num_c (r_:=({ b:=r_.b,p:=x24.2 } : Rd)) (list:=[1,1,2,3,1,5,4]) s56 (RP.mono _ h0_0 l55) hb59 hx46) ?_
 rintro _ w60 ⟨rfl,hst⟩
 have hst:=k58 hst (cb c0)
 refine mF sf6 rfl (L_bld rfl (parts2 rfl rfl) (bld_117_0_1 (I x46.1) (I i_11) rfl rfl) (L_al (cs:=#[I 0,I 0]) rfl Try.zeroValue117 rfl hst (fun g61 w62 hst=>L_staB (vs:=#[I x46.1,I i_11]) (cs2:=#[I x46.1,I i_11]) 0 rfl Try.sizeOf117 rfl rfl rfl (ones_cons rfl (ones_cons rfl ones_nil)) hst rfl (by show 0 + 2≤2; decide) rfl (fun w63 hst=>nq (W_seq ?_)))))
 obtain ⟨x69,hx69,hA35⟩:=bind_some hA35
 refine W_region (mF sf0 rfl ?_)
 have hst:=hst.get 1 rfl
 obtain ⟨H71b,l72,s73,z74,k75⟩:=hst.lend [_]
 refine L_call rfl Try.call71 (ops2 rfl rfl) (s_l17Rd_pick_c (r_:=({ b:=r_.b,p:=x46.2 } : Rd)) (n_:=2) s73 (RP.mono _ h0_0 l72) hx69) ?_
 rintro _ w76 ⟨rfl,hst⟩
 have hst:=k75 hst (cb c0)
 refine L_eql rfl rfl rfl (nn ?_)
 obtain ⟨g61_1_77,hA78,hA35⟩:=bind_some hA35
 obtain ⟨R78,hR78⟩:=exR fun f w_=>f 0 = Pt g_0∧f 1 = I most∧f 4 = Pt g3∧f 5 = Pt g8∧f 6 = I i_11∧f 7 = Pt g61∧Star H w_ ([box g_0 126 #[v0_0,I x69.2],box g61 117 #[I x46.1,I g61_1_77],oF 117 rTerm v13_g8_0 g8_0_13,box g8 41 #[v13_g8_0,I 0],box g3 41 #[S0,I 0]])
 refine W_join R78 ?_ ?_
 refine W_cond (b:=(x69.1 == 0)) rfl (fun hc79=>?_) (fun hc79=>?_)
 have hA78:=(ite_t hc79).symm.trans hA78
 refine W_region (mF sf6 rfl (L_neg rfl rfl (fA 1 fa_117_1 rfl rfl (L_stB (v:=I (i64 (-(i_11 : Int)))) (cs2:=#[I x46.1,I (i64 (-(i_11 : Int)))]) 1 rfl Try.sizeOf3 rfl rfl rfl hst rfl rfl rfl (fun w81 hst=>nn ?_)))))
 obtain rfl:=so hA78
 have hst:=hst.gets [5,5,5,3,4] rfl
 exact rj hR78 ⟨sf0,sf1,sf4,sf5,sf6,rfl,(Star.keepN 5 hst)⟩
 have hA78:=(ite_f hc79).symm.trans hA78
 refine W_skip ?_
 obtain rfl:=so hA78
 have hst:=hst.gets [5,5,5,4,4] rfl
 exact rj hR78 ⟨sf0,sf1,sf4,sf5,sf6,rfl,(Star.keepN 5 hst)⟩
 intro f w_ hR
 obtain ⟨sf0,sf1,sf4,sf5,sf6,sf7,hst⟩:=rk hR78 hR
 obtain ⟨x85,hx85,hA35⟩:=bind_some hA35
 refine W_region (fA 0 fa_41_0 sf5 rfl (ldB 3 hst Try.isAgg39 rfl rfl rfl (L_lda (cs:=[I x46.1,I g61_1_77]) rfl Try.isAgg117 Try.sizeOf117 sf7 (At.sub0 (Blk.at (Star.blkAt 1 hst rfl)) 0 2) rfl (L_bs rfl (parts1 rfl) (bs_39_1_2 (I x46.1) (I g61_1_77) ) hst (fun g90 w91 hst=>?_)))))
 have hst:=Star.addF (r:=rTerm) (cs:=[I x46.1,I g61_1_77]) (x:=({ coef:=x46.1,lit:=g61_1_77 } : Term)) hst (rTerm_iff.2 rfl)
 have hst:=Star.mkRow (R:=(OR.frz rTerm)) [([I x46.1,I g61_1_77],({ coef:=x46.1,lit:=g61_1_77 } : Term))] [({ coef:=x46.1,lit:=g61_1_77 } : Term)] 1 hst rfl rfl rfl (by decide)
 have hst:=hst.get 3 rfl
 refine L_appM (v:=v13_g8_0) (u:=(Sl g90 1 1)) rfl et_39 rfl rfl hst hx85 (fun v93 w94 hst=>fA 0 fa_41_0 sf5 rfl (L_stB (v:=v93) (cs2:=#[v93,I 0]) 3 rfl Try.sizeOf39 rfl rfl (one_len (Star.len 0 hst rfl)) hst rfl rfl rfl (fun w96 hst=>nn ?_)))
 obtain ⟨rfl,rfl⟩:=so2 hA35
 have hst:=hst.gets [4,1,2,3] rfl
 exact rj hR35 ⟨v93,sf0,sf1,sf4,sf5,sf6,(Star.keepN 4 hst)⟩
 have hA35:=(ite_f hc36).symm.trans hA35
 refine W_skip ?_
 obtain ⟨rfl,rfl⟩:=so2 hA35
 exact rj hR35 ⟨v13_g8_0,sf0,sf1,sf4,sf5,sf6,hst⟩
 intro f w_ hR
 obtain ⟨v33_g8_0,sf0,sf1,sf4,sf5,sf6,hst⟩:=rk hR35 hR
 refine W_region (mF sf6 rfl (L_add rfl rfl rfl (aI rfl (nn ?_))))
 obtain rfl:=so hB15
 show ∃ m,m < _∧I15 m _ _
 refine ⟨rest15,Nat.lt_succ_self _,?_⟩
 exact ij hI15 ⟨i_11 + 1,rest15,g_0_1_32,g8_0_33,v33_g8_0,rfl,by omega,by omega,hL15,sf0,sf1,sf4,sf5,(Eq.trans rfl (congrArg (Value.int .i64) (i64_succ (n:=1 + k16) (by omega) (cntF_le hk16)))),hst⟩
 rcases suf15 with _ | _
 obtain rfl:=count_zero hL15
 refine W_exit (rj hR15 ⟨g_0_1_12,g8_0_13,v13_g8_0,rfl,sf0,sf4,sf5,hst⟩)
 exact absurd (cntF_yesL hs15 hl15 hk16) (of_decide_eq_false hc18)
 intro f w_ hR
 obtain ⟨g_0_1_12,g8_0_13,v13_g8_0,rfl,sf0,sf4,sf5,hst⟩:=rk hR15 hR
 refine W_seq ?_
 obtain ⟨x103,hx103,hF⟩:=bind_some hF
 refine W_region (L_lda (cs:=[v13_g8_0,I 0]) rfl Try.isAgg41 Try.sizeOf41 sf5 (At.sub0 (Blk.at (Star.blkAt 2 hst rfl)) 0 2) rfl ?_)
 obtain ⟨H105b,l106,s107,z108,k109⟩:=hst.borrow
 have hb110 : (rS 117 rTerm).rel H105b [v13_g8_0] g8_0_13:=fz_own 1 z108 rfl
 refine L_call rfl Try.call111 (ops1 rfl) (s_l1Total_c (c:=({ terms:=g8_0_13,bound:=0 } : Con)) s107 hb110 hx103) ?_
 rintro _ w111 ⟨rfl,hst⟩
 have hst:=k109 hst c0
 refine aI rfl (nq ?_)
 obtain ⟨x121,hx121,hF⟩:=bind_some hF
 refine W_region (mF sf0 rfl (L_bs rfl (parts5 rfl rfl rfl rfl rfl) (bs_105_5_0_0_0_0_0 (I 1) (I 2) (I 1) (I 3) (I 0) rfl rfl rfl rfl rfl) hst (fun g124 w125 hst=>?_)))
 have hst:=litInts [1,2,1,3,0] 5 hst rfl rfl (by decide)
 have hst:=hst.get 1 rfl
 obtain ⟨H127b,l128,s129,z130,k131⟩:=hst.lend [_]
 have hb132 : (rS 3 RP.int).rel H127b [(Sl g124 5 5)] ([1,2,1,3,0]):=fz_own 0 z130 rfl
 refine L_call rfl Try.call110 (ops2 rfl rfl) (s_l17Rd_num_c (r_:=({ b:=r_.b,p:=g_0_1_12 } : Rd)) (list:=[1,2,1,3,0]) s129 (RP.mono _ h0_0 l128) hb132 hx121) ?_
 rintro _ w133 ⟨rfl,hst⟩
 have hst:=k131 hst (cb c0)
 refine fA 1 fa_41_1 sf5 rfl (L_stB (v:=I x121.1) (cs2:=#[v13_g8_0,I x121.1]) 3 rfl Try.sizeOf3 rfl rfl rfl hst rfl rfl rfl (fun w134 hst=>nq (W_seq ?_)))
 obtain ⟨x140,hx140,hF⟩:=bind_some hF
 refine W_region (mF sf0 rfl ?_)
 have hst:=hst.get 1 rfl
 obtain ⟨H142b,l143,s144,z145,k146⟩:=hst.lend [_]
 refine L_call rfl Try.call71 (ops2 rfl rfl) (s_l17Rd_pick_c (r_:=({ b:=r_.b,p:=x121.2 } : Rd)) (n_:=4) s144 (RP.mono _ h0_0 l143) hx140) ?_
 rintro _ w147 ⟨rfl,hst⟩
 have hst:=k146 hst (cb c0)
 refine L_eql rfl rfl rfl (nn ?_)
 obtain ⟨⟨g_0_1_148,g8_1_149⟩,hA150,hF⟩:=bind_some hF
 obtain ⟨R150,hR150⟩:=exR fun f w_=>f 4 = Pt g3∧f 5 = Pt g8∧Star H w_ ([box g_0 126 #[v0_0,I g_0_1_148],oF 117 rTerm v13_g8_0 g8_0_13,box g8 41 #[v13_g8_0,I g8_1_149],box g3 41 #[S0,I 0]])
 refine W_join R150 ?_ ?_
 refine W_cond (b:=(x140.1 == 0)) rfl (fun hc151=>?_) (fun hc151=>?_)
 have hA150:=(ite_t hc151).symm.trans hA150
 obtain ⟨x157,hx157,hA150⟩:=bind_some hA150
 refine W_region (mF sf0 rfl (mI rfl (L_add rfl rfl rfl ?_)))
 obtain ⟨H160b,l161,s162,z163,k164⟩:=hst.lend [_]
 refine L_call rfl Try.call71 (ops2 rfl rfl) (s_l17Rd_pick_c (r_:=({ b:=r_.b,p:=x140.2 } : Rd)) (n_:=i64 (x103 + 2)) s162 (RP.mono _ h0_0 l161) hx157) ?_
 rintro _ w165 ⟨rfl,hst⟩
 have hst:=k164 hst (cb c0)
 refine fA 1 fa_41_1 sf5 rfl (L_stB (v:=I x157.1) (cs2:=#[v13_g8_0,I x157.1]) 1 rfl Try.sizeOf3 rfl rfl rfl hst rfl rfl rfl (fun w166 hst=>nn ?_))
 obtain ⟨rfl,rfl⟩:=so2 hA150
 have hst:=hst.gets [4,1,4,3] rfl
 exact rj hR150 ⟨sf4,sf5,(Star.keepN 4 hst)⟩
 have hA150:=(ite_f hc151).symm.trans hA150
 refine W_skip ?_
 obtain ⟨rfl,rfl⟩:=so2 hA150
 have hst:=hst.gets [4,2,4,3] rfl
 exact rj hR150 ⟨sf4,sf5,(Star.keepN 4 hst)⟩
 intro f w_ hR
 obtain ⟨sf4,sf5,hst⟩:=rk hR150 hR
 refine sq (L_lda (cs:=[v13_g8_0,I g8_1_149]) rfl Try.isAgg41 Try.sizeOf41 sf5 (At.sub0 (Blk.at (Star.blkAt 2 hst rfl)) 0 2) rfl (L_staB (vs:=#[v13_g8_0,I g8_1_149]) (cs2:=#[v13_g8_0,I g8_1_149]) 3 rfl Try.sizeOf41 sf4 rfl rfl (ones_cons (one_len (Star.len 1 hst rfl)) (ones_cons rfl ones_nil)) hst rfl (by show 0 + 2≤2; decide) rfl (fun w168 hst=>nn (W_ret (retG1 (v1:=.agg #[v13_g8_0,I g8_1_149]) Try.results70 (resV_agg Try.isAgg41 Try.sizeOf41 sf4 (Star.blkAt 0 hst rfl) rfl) ?_)))))
 obtain rfl:=so hF
 have hst:=hst.gets [1,2] rfl
 exact ⟨v13_g8_0,rfl,(Star.keepN 2 hst)⟩
theorem s_l3Problem_c {fu : Nat} {r_ : Rd} {g_0 : Nat} {v0_0 : Value} {H : FH} {w : World} (hst : Star H w [box g_0 126 #[v0_0,I r_.p]]) (h0_0 : (rS 5 RP.u8).rel H [v0_0] r_.b) {r : (List Con) × Int} (hF : s_l3Problem fu r_ = some r) :
 C Try.prog 69 #[Pt g_0] w fun v w'=>∃ (u1 : Value),v = u1∧Star H w' [oS 41 (oCon 117) u1 r.1,box g_0 126 #[v0_0,I r.2]]:=by
 unfold s_l3Problem at hF
 refine C_enter Try.func69 rfl Try.ntmps69 rfl (sq (aV S0 rfl (ns (L_bs rfl parts0 (bs_27_0  ) hst (fun g4 w5 hst=>?_)))))
 have hst:=Star.mkRow (R:=(OR.frz (rCon 117))) [] [] 0 hst rfl rfl rfl (by decide)
 refine aV (Sl g4 0 0) rfl (nq ?_)
 obtain ⟨x16,hx16,hF⟩:=bind_some hF
 refine W_region (mV (Pt g_0) rfl (L_bs rfl (parts4 rfl rfl rfl rfl) (bs_105_4_0_0_0_0 (I 4) (I 5) (I 3) (I 6) rfl rfl rfl rfl) hst (fun g18 w19 hst=>?_)))
 have hst:=litInts [4,5,3,6] 4 hst rfl rfl (by decide)
 have hst:=hst.get 2 rfl
 obtain ⟨H21b,l22,s23,z24,k25⟩:=hst.lend [_]
 have hb26 : (rS 3 RP.int).rel H21b [(Sl g18 4 4)] ([4,5,3,6]):=fz_own 0 z24 rfl
 refine L_call rfl Try.call110 (ops2 rfl rfl) (s_l17Rd_num_c (r_:=r_) (list:=[4,5,3,6]) s23 (RP.mono _ h0_0 l22) hb26 hx16) ?_
 rintro _ w27 ⟨rfl,hst⟩
 have hst:=k25 hst (cb c0)
 refine aI rfl (nq (W_seq ?_))
 obtain ⟨x37,hx37,hF⟩:=bind_some hF
 refine W_region (mV (Pt g_0) rfl (L_bs rfl (parts7 rfl rfl rfl rfl rfl rfl rfl) (bs_105_7_0_0_0_0_0_0_0 (I 4) (I 6) (I 3) (I 8) (I 2) (I 1) (I 0) rfl rfl rfl rfl rfl rfl rfl) hst (fun g39 w40 hst=>?_)))
 have hst:=litInts [4,6,3,8,2,1,0] 7 hst rfl rfl (by decide)
 have hst:=hst.get 1 rfl
 obtain ⟨H42b,l43,s44,z45,k46⟩:=hst.lend [_]
 have hb47 : (rS 3 RP.int).rel H42b [(Sl g39 7 7)] ([4,6,3,8,2,1,0]):=fz_own 0 z45 rfl
 refine L_call rfl Try.call110 (ops2 rfl rfl) (s_l17Rd_num_c (r_:=({ b:=r_.b,p:=x16.2 } : Rd)) (list:=[4,6,3,8,2,1,0]) s44 (RP.mono _ h0_0 l43) hb47 hx37) ?_
 rintro _ w48 ⟨rfl,hst⟩
 have hst:=k46 hst (cb c0)
 refine aI rfl (nn ?_)
 obtain ⟨j54,hL54,hF⟩:=bind_some hF
 obtain ⟨R54,hR54⟩:=exR fun f w_=>∃ out_50 : List Con,∃ i_52 : Int,∃ g_0_1_53 : Int,∃ v50_out : Value,j54 = .nx (out_50,i_52,g_0_1_53)∧f 3 = v50_out∧Star H w_ ([oS 41 (oCon 117) v50_out out_50,box g_0 126 #[v0_0,I g_0_1_53]])
 refine W_join R54 ?_ ?_
 refine W_block ?_
 obtain ⟨I54,hI54⟩:=exI fun n f w_=>∃ out_50 : List Con,∃ i_52 : Int,∃ g_0_1_53 : Int,∃ v50_out : Value,whileL (s_l3Problem_b1 r_ x16) n (out_50,i_52,g_0_1_53) = some j54∧f 0 = Pt g_0∧f 3 = v50_out∧f 4 = I x16.1∧f 5 = I i_52∧Star H w_ ([oS 41 (oCon 117) v50_out out_50,box g_0 126 #[v0_0,I g_0_1_53]])
 have hst:=hst.get 3 rfl
 have hst:=Star.recast (R:=(OR.frz (rCon 117))) (R':=(oCon 117)) rfl hst
 refine W_loop I54 (n:=fu) ?_ ?_
 exact ij hI54 ⟨[],x37.1,x37.2,(Sl g4 0 0),hL54,rfl,rfl,rfl,rfl,(Star.keepN 2 hst)⟩
 intro n54 f w_ hI
 obtain ⟨out_50,i_52,g_0_1_53,v50_out,hL54,sf0,sf3,sf4,sf5,hst⟩:=ik hI54 hI
 rcases n54 with _ | n54
 exact (while_zero hL54).elim
 obtain ⟨o54,hB54,hL54⟩:=while_succ hL54
 rw [s_l3Problem_b1] at hB54
 refine W_seq (sq (mF sf5 rfl (L_gtr rfl rfl rfl (nn (W_cond (b:=decide (i_52 > 0)) rfl (fun hc55=>?_) (fun hc55=>?_))))))
 have hB54:=(ite_t hc55).symm.trans hB54
 refine W_skip (W_seq (W_block ?_))
 obtain ⟨x61,hx61,hB54⟩:=bind_some hB54
 obtain ⟨x67,hx67,hB54⟩:=bind_some hB54
 refine W_region (mF sf3 rfl (mF sf0 rfl (mF sf4 rfl ?_)))
 have hst:=hst.get 1 rfl
 obtain ⟨H71b,l72,s73,z74,k75⟩:=hst.lend [_]
 refine L_call rfl Try.call70 (ops2 rfl rfl) (s_l1Draw_c (r_:=({ b:=r_.b,p:=g_0_1_53 } : Rd)) (most:=x16.1) s73 (RP.mono _ h0_0 l72) hx61) ?_
 rintro _ w76 ⟨r76_0,rfl,hst⟩
 have hst:=k75 hst (co closed_term (cb c0))
 refine L_bs rfl (parts1 rfl) (bs_27_1_2 (r76_0) (I x61.1.bound) ) hst (fun g78 w79 hst=>?_)
 have hst:=hst.get 1 rfl
 have hst:=oCon_close (c:=x61.1) hst
 have hst:=Star.mkRow (R:=(oCon 117)) [([r76_0,I x61.1.bound],x61.1)] [x61.1] 1 hst rfl rfl rfl (by decide)
 have hst:=hst.get 2 rfl
 refine L_appM (v:=v50_out) (u:=(Sl g78 1 1)) rfl et_27 rfl rfl hst hx67 (fun v81 w82 hst=>aV v81 rfl (nn (W_region (mF sf5 rfl (L_sub rfl rfl rfl (aI rfl (nn ?_)))))))
 obtain rfl:=so hB54
 show ∃ m,m < _∧I54 m _ _
 refine ⟨n54,Nat.lt_succ_self _,?_⟩
 exact ij hI54 ⟨x67,i64 (i_52 - 1),x61.2,v81,hL54,sf0,rfl,sf4,rfl,hst⟩
 have hB54:=(ite_f hc55).symm.trans hB54
 refine W_exit ?_
 obtain rfl:=so hB54
 obtain rfl:=so hL54
 exact rj hR54 ⟨out_50,i_52,g_0_1_53,v50_out,rfl,sf3,hst⟩
 intro f w_ hR
 obtain ⟨out_50,i_52,g_0_1_53,v50_out,rfl,sf3,hst⟩:=rk hR54 hR
 refine sq (mF sf3 rfl (aV v50_out rfl (nn (W_ret (retG1 (v1:=v50_out) Try.results69 rfl ?_)))))
 obtain rfl:=so hF
 exact ⟨v50_out,rfl,hst⟩
theorem s_DrawRupConstraint_c {fu : Nat} {code : List UInt8} {v0 : Value} {H : FH} {w : World} {R : List Ass} (hst : Star H w R) (h0 : (rS 5 RP.u8).rel H [v0] code) {r : (List Con) × Con} (hF : s_DrawRupConstraint fu code = some r) :
 C Try.prog 27 #[v0] w fun v w'=>∃ H' : FH,Le H H'∧∃ (u1 : Value) (u2 : Value),v = .tuple #[u1,.agg #[u2,I r.2.bound]]∧Star H' w' (oF 41 (rCon 117) u1 r.1 :: oF 117 rTerm u2 r.2.terms :: R):=by
 unfold s_DrawRupConstraint at hF
 refine C_enter Try.func27 rfl Try.ntmps27 rfl (sq (aV S0 rfl (L_al (cs:=#[S0,I 0]) rfl Try.zeroValue41 rfl hst (fun g3 w4 hst=>nq ?_))))
 obtain ⟨x5,hx5,hF⟩:=bind_some hF
 refine W_region (mV v0 rfl (L_call rfl Try.call67 (ops1 rfl) (s_l17Open_c (code:=code) hst h0 hx5) ?_))
 rintro _ w7 ⟨H7,l7,r7_0,r7_1,rfl,hr7_1,hst⟩
 refine aV (Pt r7_0) rfl (nq ?_)
 obtain ⟨x13,hx13,hF⟩:=bind_some hF
 obtain ⟨x19,hx19,hF⟩:=bind_some hF
 refine W_region (mV (Pt r7_0) rfl (mV (Pt r7_0) rfl ?_))
 obtain ⟨H22b,l23,s24,z25,k26⟩:=hst.lend [_]
 refine L_call rfl Try.call69 (ops1 rfl) (s_l3Problem_c (r_:=x5) s24 (RP.mono _ hr7_1 l23) hx13) ?_
 rintro r27_0 w27 ⟨_,rfl,hst⟩
 have hst:=k26 hst (co closed_oCon (cb c0))
 obtain ⟨H29,l30,hst,hz31⟩:=Star.freeze hst
 have hz31 : (rS 41 (rCon 117)).rel H29 [r27_0] x13.1:=hz31
 refine L_call rfl Try.call68 (ops2 rfl rfl) (s_l3Mutate_c (r_:=({ b:=x5.b,p:=x13.2 } : Rd)) (list:=x13.1) hst (RP.mono _ hr7_1 l30) hz31 hx19) ?_
 rintro r32_0 w32 ⟨H32,l32,_,rfl,hst⟩
 refine aV r32_0 rfl (nq ?_)
 obtain ⟨x39,hx39,hF⟩:=bind_some hF
 refine W_region (mV (Pt r7_0) rfl ?_)
 have hst:=hst.get 1 rfl
 obtain ⟨H45b,l46,s47,z48,k49⟩:=hst.lend [_]
 refine L_call rfl Try.call70 (ops2 rfl rfl) (s_l1Draw_c (r_:=({ b:=x5.b,p:=x19.2 } : Rd)) (most:=4) s47 (RP.mono _ hr7_1 (Le.trans (Le.trans l30 l32) l46)) hx39) ?_
 rintro _ w50 ⟨r50_0,rfl,hst⟩
 have hst:=k49 hst (co closed_term (cb c0))
 refine L_al (cs:=#[S0,I 0]) rfl Try.zeroValue41 rfl hst (fun g52 w53 hst=>L_staB (vs:=#[r50_0,I x39.1.bound]) (cs2:=#[r50_0,I x39.1.bound]) 0 rfl Try.sizeOf41 rfl rfl rfl (ones_cons (one_len (Star.len 1 hst rfl)) (ones_cons rfl ones_nil)) hst rfl (by show 0 + 2≤2; decide) rfl (fun w54 hst=>nq (W_seq ?_)))
 obtain ⟨b62,hb62,hF⟩:=bind_some hF
 obtain ⟨R63,hR63⟩:=exR fun f w_=>f 3 = Pt g3∧f 4 = Pt r7_0∧f 5 = r32_0∧f 6 = Pt g52∧f 22 = Bo b62.1∧Star H32 w_ (oF 41 (rCon 117) r32_0 x19.1 :: oF 117 rTerm r50_0 x39.1.terms :: box g52 41 #[r50_0,I x39.1.bound] :: box r7_0 126 #[r7_1,I b62.2] :: box g3 41 #[S0,I 0] :: R)
 refine W_join R63 ?_ ?_
 refine W_region (mV r32_0 rfl (L_len rfl Try.underlying27 rfl (Star.len 3 hst rfl) (L_gtr rfl rfl rfl (mB rfl (L_split (d:=18) (b:=decide ((x19.1.length : Int) > 0)) rfl (fun hc64=>?_) (fun hc64=>?_))))))
 rw [ite_t hc64] at hb62
 obtain ⟨x60,hx60,hb62⟩:=bind_some hb62
 refine mV (Pt r7_0) rfl ?_
 have hst:=hst.get 2 rfl
 obtain ⟨H65b,l66,s67,z68,k69⟩:=hst.lend [_]
 refine L_call rfl Try.call71 (ops2 rfl rfl) (s_l17Rd_pick_c (r_:=({ b:=x5.b,p:=x39.2 } : Rd)) (n_:=3) s67 (RP.mono _ hr7_1 (Le.trans (Le.trans l30 l32) l66)) hx60) ?_
 rintro _ w70 ⟨rfl,hst⟩
 have hst:=k69 hst (cb c0)
 refine L_eql rfl rfl rfl (L_pick (v:=Bo b62.1) rfl rfl (congrArg (fun z : Bool × Int=>Value.bool z.1) (so hb62)) ?_)
 have hst : Star H32 w70 (box r7_0 126 #[r7_1,I b62.2] :: box g52 41 #[r50_0,I x39.1.bound] :: oF 117 rTerm r50_0 x39.1.terms :: oF 41 (rCon 117) r32_0 x19.1 :: box g3 41 #[S0,I 0] :: R):=by rw [← so hb62]; exact hst
 refine nn ?_
 have hst:=hst.gets [4,1,2,3,4] rfl
 exact rj hR63 ⟨rfl,rfl,rfl,rfl,rfl,hst⟩
 rw [ite_f hc64] at hb62
 refine ps rfl (ps rfl (ps rfl (L_pick (v:=Bo b62.1) rfl rfl (congrArg (fun z : Bool × Int=>Value.bool z.1) (so hb62)) ?_)))
 have hst:=hst.get 2 rfl
 have hst : Star H32 w54 (box r7_0 126 #[r7_1,I b62.2] :: box g52 41 #[r50_0,I x39.1.bound] :: oF 117 rTerm r50_0 x39.1.terms :: oF 41 (rCon 117) r32_0 x19.1 :: box g3 41 #[S0,I 0] :: R):=by rw [← so hb62]; exact hst
 refine nn ?_
 have hst:=hst.gets [4,1,2,3,4] rfl
 exact rj hR63 ⟨rfl,rfl,rfl,rfl,rfl,hst⟩
 intro f w_ hR
 obtain ⟨sf3,sf4,sf5,sf6,sf22,hst⟩:=rk hR63 hR
 obtain ⟨⟨g52_0_71,g52_1_73,r7_0_1_74⟩,hA77,hF⟩:=bind_some hF
 obtain ⟨R77,hR77⟩:=exR fun f w_=>∃ H75 : FH,∃ v71_g52_0 : Value,Le H32 H75∧f 3 = Pt g3∧f 4 = Pt r7_0∧f 5 = r32_0∧f 6 = Pt g52∧Star H75 w_ (oF 41 (rCon 117) r32_0 x19.1 :: oF 117 rTerm v71_g52_0 g52_0_71 :: box g52 41 #[v71_g52_0,I g52_1_73] :: box r7_0 126 #[r7_1,I r7_0_1_74] :: box g3 41 #[S0,I 0] :: R)
 refine W_join R77 ?_ ?_
 refine W_cond (b:=b62.1) sf22 (fun hc78=>?_) (fun hc78=>?_)
 have hA77:=(ite_t hc78).symm.trans hA77
 obtain ⟨x79,hx79,hA77⟩:=bind_some hA77
 obtain ⟨x89,hx89,hA77⟩:=bind_some hA77
 obtain ⟨x96,hx96,hA77⟩:=bind_some hA77
 obtain ⟨g101,cap_g101,hv102,_,_⟩:=Star.row 0 hst rfl hx79
 have hst:=hst.gets [3,3,4,4,4] rfl
 refine W_drawS 11 [isV (r32_0),isV (.pointer (some ⟨g101,Int.toNat 0 * 2,none⟩)),exD (isData (rS 117 rTerm) x79.terms) fun u_0=>isV (.agg #[u_0,I x79.bound]),isV (Pt r7_0),isV (I x89.1),isV (I (i64 (1 + x89.1))),tup2 (exA fun u_0=>isV (.agg #[u_0,I x96.1.bound])) (isV (Bo x96.2)),tup2 (exA fun u_0=>isV (.agg #[u_0,I x96.1.bound])) (isV (Bo x96.2)),exA fun u_0=>isV (.agg #[u_0,I x96.1.bound]),isV (Bo x96.2),anyF] [oF 41 (rCon 117) r32_0 x19.1,oF 117 rTerm r50_0 x39.1.terms,box g3 41 #[S0,I 0]] [.base (box g52 41 #[r50_0,I x39.1.bound]) (some 10),.base (box r7_0 126 #[r7_1,I b62.2]) (some 4),.made 4 28 (fun v_=>box r7_0 126 #[r7_1,I x89.2]) none,.made 6 30 (fun v_=>own (OR.ownS 117 (OR.frz rTerm)) [(aggC (tupC v_ 0) 0)] x96.1.terms) (some 7),.made 7 23 (fun v_=>own (OR.ownS 117 (OR.frz rTerm)) [(aggC (tupC v_ 0) 0)] x96.1.terms) (some 8),.made 8 31 (fun v_=>oF 117 rTerm (aggC v_ 0) x96.1.terms) none,.madeN 10 [31] (fun vs_=>box g52 41 #[(aggC (vs_.getD 0 undef) 0),I x96.1.bound]) none] (R) [([],[]),([],[]),([],[]),([],[]),([1],[2]),([],[]),([],[3]),([3],[4]),([4],[5]),([],[]),([0,5],[5,6])] (S:=[(none,[],some 10),(none,[],some 4),(some 4,[28],none),(some 6,[30],some 7),(some 7,[23],some 8),(some 8,[31],none),(some 10,[31],none)]) Try_mix (by kernel_rfl) rfl (by kernel_rfl) (amF_cons (mono_V _) (amF_cons (mono_V _) (amF_cons (mono_exD (mono_data _ _) fun _=>mono_V _) (amF_cons (mono_V _) (amF_cons (mono_V _) (amF_cons (mono_V _) (amF_cons (mono_tup2 (mono_exA fun _=>mono_V _) (mono_V _)) (amF_cons (mono_tup2 (mono_exA fun _=>mono_V _) (mono_V _)) (amF_cons (mono_exA fun _=>mono_V _) (amF_cons (mono_V _) (amF_cons (mono_any) amF_nil))))))))))) hst ?_ (fun f w_ H100 hS100 hE100 hT100 hst=>?_)
 refine opsS_cons (fun f w_ _ _ s _ _ hst=>mF ((s 5 rfl).trans sf5) rfl (nO rfl rfl hst)) (opsS_cons (fun f w_ _ _ _ _ p hst=>L_ixO (R:=(OR.frz (rCon 117))) (tb:=0) 0 rfl Try.underlying27 Try.sizeOf41 (p 0 24 rfl rfl) hv102 (by first | rfl | simp) rfl hx79 (nO rfl rfl hst)) (opsS_cons ?_ ?_))
 intro f w_ H100 X100 hS100 hE100 hP100 hst
 obtain ⟨cs119,hr119,hat119⟩:=Star.eltF 0 hst rfl hv102 hx79
 obtain ⟨u120_0,rfl,hu120_0⟩:=rCon_iff.1 hr119
 refine L_lda (cs:=[u120_0,I x79.bound]) rfl Try.isAgg41 Try.sizeOf41 (hP100 1 25 rfl rfl) (At.sub hat119 0 2) rfl (L_nil ⟨rfl,_,_,rfl,Le.refl _,fun _ _=>⟨_,hu120_0,rfl⟩,hst⟩)
 refine opsS_cons (fun f w_ _ _ s _ _ hst=>mF ((s 4 rfl).trans sf4) rfl (nO rfl rfl hst)) (opsS_cons ?_ ?_)
 intro f w_ H100 X100 hS100 hE100 hP100 hst
 have hst : Star H100 w_ (oF 41 (rCon 117) r32_0 x19.1 :: oF 117 rTerm r50_0 x39.1.terms :: box g3 41 #[S0,I 0] :: box r7_0 126 #[r7_1,I b62.2] :: X100):=hst
 have hst:=hst.get 3 rfl
 obtain ⟨H121b,l122,s123,z124,k125⟩:=hst.lend [_]
 refine L_call rfl Try.call71 (ops2 (hP100 3 27 rfl rfl) rfl) (s_l17Rd_pick_c (r_:=({ b:=x5.b,p:=b62.2 } : Rd)) (n_:=4) s123 (RP.mono _ hr7_1 (Le.trans (Le.trans (Le.trans l30 l32) hE100) l122)) hx89) ?_
 rintro _ w126 ⟨rfl,hst⟩
 have hst:=k125 hst (cb c0)
 have hst:=hst.gets [3,3,3] rfl
 exact L_nil ⟨rfl,_,_,rfl,Le.refl _,fun _ _=>rfl,hst⟩
 refine opsS_cons (fun f w_ _ _ _ _ p hst=>L_add rfl rfl (p 4 28 rfl rfl) (nO rfl rfl hst)) (opsS_cons ?_ ?_)
 intro f w_ H100 X100 hS100 hE100 hP100 hst
 obtain ⟨u127_0,hu127_0,hv127⟩:=(hP100 2 26 rfl rfl)
 obtain ⟨H128b,l129,s130,z131,k132⟩:=hst.borrow
 refine L_call rfl Try.call72 (ops2 hv127 (hP100 5 29 rfl rfl)) (s_WeakenConstraint_c (c:=x79) (variable_:=i64 (1 + x89.1)) s130 (RP.mono _ hu127_0 l129) hx96) ?_
 rintro _ w133 ⟨r133_0,rfl,hst⟩
 have hst:=k132 hst (co closed_term c0)
 have hst:=hst.gets [3,3,3] rfl
 exact L_nil ⟨rfl,_,_,rfl,Le.refl _,fun _ _=>⟨_,_,rfl,⟨_,rfl⟩,rfl⟩,hst⟩
 refine opsS_cons ?_ ?_
 intro f w_ H100 X100 hS100 hE100 hP100 hst
 have hst : Star H100 w_ (oF 41 (rCon 117) r32_0 x19.1 :: oF 117 rTerm r50_0 x39.1.terms :: box g3 41 #[S0,I 0] :: own (OR.ownS 117 (OR.frz rTerm)) [(aggC (tupC (f 30) 0) 0)] x96.1.terms :: X100):=hst
 obtain ⟨a135_0,a135_1,hv135,ht135_0,ht135_1⟩:=(hP100 6 30 rfl rfl)
 obtain ⟨u136_0,rfl⟩:=ht135_0
 obtain rfl:=ht135_1
 have hren : Star H100 w_ (oF 41 (rCon 117) r32_0 x19.1 :: oF 117 rTerm r50_0 x39.1.terms :: box g3 41 #[S0,I 0] :: own (OR.ownS 117 (OR.frz rTerm)) [(aggC (tupC (f 30) 0) 0)] x96.1.terms :: X100):=hst
 rw [hv135] at hren
 have hst : Star H100 w_ (oF 41 (rCon 117) r32_0 x19.1 :: oF 117 rTerm r50_0 x39.1.terms :: box g3 41 #[S0,I 0] :: oF 117 rTerm u136_0 x96.1.terms :: X100):=hren
 refine mF hv135 rfl (L_nil ⟨rfl,_,_,rfl,Le.refl _,fun _ _=>⟨_,_,rfl,⟨_,rfl⟩,rfl⟩,hst⟩)
 refine opsS_cons ?_ ?_
 intro f w_ H100 X100 hS100 hE100 hP100 hst
 have hst : Star H100 w_ (oF 41 (rCon 117) r32_0 x19.1 :: oF 117 rTerm r50_0 x39.1.terms :: box g3 41 #[S0,I 0] :: own (OR.ownS 117 (OR.frz rTerm)) [(aggC (tupC (f 23) 0) 0)] x96.1.terms :: X100):=hst
 obtain ⟨a137_0,a137_1,hv137,ht137_0,ht137_1⟩:=(hP100 7 23 rfl rfl)
 obtain ⟨u138_0,rfl⟩:=ht137_0
 obtain rfl:=ht137_1
 have hren : Star H100 w_ (oF 41 (rCon 117) r32_0 x19.1 :: oF 117 rTerm r50_0 x39.1.terms :: box g3 41 #[S0,I 0] :: own (OR.ownS 117 (OR.frz rTerm)) [(aggC (tupC (f 23) 0) 0)] x96.1.terms :: X100):=hst
 rw [hv137] at hren
 have hst : Star H100 w_ (oF 41 (rCon 117) r32_0 x19.1 :: oF 117 rTerm r50_0 x39.1.terms :: box g3 41 #[S0,I 0] :: oF 117 rTerm u138_0 x96.1.terms :: X100):=hren
 refine L_ex (v:=.agg #[u138_0,I x96.1.bound]) rfl hv137 rfl (L_nil ⟨rfl,_,_,rfl,Le.refl _,fun _ _=>⟨_,rfl⟩,hst⟩)
 refine opsS_cons ?_ ?_
 intro f w_ H100 X100 hS100 hE100 hP100 hst
 obtain ⟨a139_0,a139_1,hv139,ht139_0,ht139_1⟩:=(hP100 7 23 rfl rfl)
 obtain ⟨u140_0,rfl⟩:=ht139_0
 obtain rfl:=ht139_1
 refine L_ex (v:=Bo x96.2) rfl hv139 rfl (L_nil ⟨rfl,_,_,rfl,Le.refl _,fun _ _=>rfl,hst⟩)
 refine opsS_cons ?_ ?_
 intro f w_ H100 X100 hS100 hE100 hP100 hst
 have hst : Star H100 w_ (oF 41 (rCon 117) r32_0 x19.1 :: oF 117 rTerm r50_0 x39.1.terms :: box g3 41 #[S0,I 0] :: box g52 41 #[r50_0,I x39.1.bound] :: own (OR.ownS 117 (OR.frz rTerm)) [(aggC (f 31) 0)] x96.1.terms :: X100):=hst
 obtain ⟨u141_0,hv141⟩:=(hP100 8 31 rfl rfl)
 have hren : Star H100 w_ (oF 41 (rCon 117) r32_0 x19.1 :: oF 117 rTerm r50_0 x39.1.terms :: box g3 41 #[S0,I 0] :: box g52 41 #[r50_0,I x39.1.bound] :: own (OR.ownS 117 (OR.frz rTerm)) [(aggC (f 31) 0)] x96.1.terms :: X100):=hst
 rw [hv141] at hren
 have hst : Star H100 w_ (oF 41 (rCon 117) r32_0 x19.1 :: oF 117 rTerm r50_0 x39.1.terms :: box g3 41 #[S0,I 0] :: box g52 41 #[r50_0,I x39.1.bound] :: oF 117 rTerm u141_0 x96.1.terms :: X100):=hren
 refine L_staB (vs:=#[u141_0,I x96.1.bound]) (cs2:=#[u141_0,I x96.1.bound]) 3 rfl Try.sizeOf41 ((hS100 6 rfl).trans sf6) hv141 rfl (ones_cons (one_len (Star.len 4 hst rfl)) (ones_cons rfl ones_nil)) hst rfl (by show 0 + 2≤2; decide) rfl (fun w142 hst=>?_)
 have hst:=hst.gets [4,4,4,4] rfl
 have hst : Star H100 w142 (oF 41 (rCon 117) r32_0 x19.1 :: oF 117 rTerm r50_0 x39.1.terms :: box g3 41 #[S0,I 0] :: own (OR.ownS 117 (OR.frz rTerm)) [(aggC (f 31) 0)] x96.1.terms :: box g52 41 #[(aggC (f 31) 0),I x96.1.bound] :: X100):=by rw [hv141]; exact hst
 exact L_nil ⟨rfl,Bo false,_,rfl,Le.refl _,(fun _ h=>nomatch h),hst⟩
 exact opsS_nil
 have hst : Star H100 w_ (oF 41 (rCon 117) r32_0 x19.1 :: oF 117 rTerm r50_0 x39.1.terms :: box g3 41 #[S0,I 0] :: box r7_0 126 #[r7_1,I x89.2] :: own (OR.ownS 117 (OR.frz rTerm)) [(aggC (f 31) 0)] x96.1.terms :: box g52 41 #[(aggC (f 31) 0),I x96.1.bound] :: R):=hst
 refine nn ?_
 obtain ⟨rfl,rfl,rfl⟩:=so3 hA77
 have hst:=hst.gets [2,3,5,5,4] rfl
 have hst:=Star.drop 5 hst rfl
 exact rj hR77 ⟨H100,(aggC (f 31) 0),hE100,((hS100 3 rfl).trans sf3),((hS100 4 rfl).trans sf4),((hS100 5 rfl).trans sf5),((hS100 6 rfl).trans sf6),hst⟩
 have hA77:=(ite_f hc78).symm.trans hA77
 refine W_skip ?_
 obtain ⟨rfl,rfl,rfl⟩:=so3 hA77
 exact rj hR77 ⟨H32,r50_0,(Le.refl _),sf3,sf4,sf5,sf6,hst⟩
 intro f w_ hR
 obtain ⟨H75,v71_g52_0,l76,sf3,sf4,sf5,sf6,hst⟩:=rk hR77 hR
 refine W_seq ?_
 obtain ⟨x149,hx149,hF⟩:=bind_some hF
 refine W_region (mF sf5 rfl (mF sf4 rfl (L_lda (cs:=[v71_g52_0,I g52_1_73]) rfl Try.isAgg41 Try.sizeOf41 sf6 (At.sub0 (Blk.at (Star.blkAt 2 hst rfl)) 0 2) rfl ?_)))
 have hst:=hst.get 3 rfl
 obtain ⟨H153b,l154,s155,z156,k157⟩:=hst.lend [_]
 have hb158 : (rS 117 rTerm).rel H153b [v71_g52_0] g52_0_71:=fz_own 1 z156 rfl
 refine L_call rfl Try.call73 (ops2 rfl rfl) (s_l1Mutate_c (r_:=({ b:=x5.b,p:=r7_0_1_74 } : Rd)) (c:=({ terms:=g52_0_71,bound:=g52_1_73 } : Con)) s155 (RP.mono _ hr7_1 (Le.trans (Le.trans (Le.trans l30 l32) l76) l154)) hb158 hx149) ?_
 rintro _ w159 ⟨r159_0,rfl,hst⟩
 have hst:=k157 hst (co closed_term (cb c0))
 refine aV r32_0 rfl (L_staB (vs:=#[r159_0,I x149.1.bound]) (cs2:=#[r159_0,I x149.1.bound]) 5 rfl Try.sizeOf41 sf3 rfl rfl (ones_cons (one_len (Star.len 0 hst rfl)) (ones_cons rfl ones_nil)) hst rfl (by show 0 + 2≤2; decide) rfl (fun w161 hst=>nn (W_ret (retG2 (v1:=r32_0) (v2:=.agg #[r159_0,I x149.1.bound]) Try.results27 rfl (resV_agg Try.isAgg41 Try.sizeOf41 sf3 (Star.blkAt 0 hst rfl) rfl) ?_))))
 obtain rfl:=so hF
 have hst:=hst.gets [1,3] rfl
 have hst:=Star.drop 2 hst rfl
 have hst:=Star.drop 2 hst rfl
 have hst:=Star.drop 2 hst rfl
 have hst:=Star.drop 2 hst rfl
 exact ⟨H75,(Le.trans (Le.trans (Le.trans l7 l30) l32) l76),r32_0,r159_0,rfl,hst⟩
theorem i_RupConstraint_c {fu : Nat} {list : List Con} {c : Con} {v0 : Value} {v1_0 : Value} {H : FH} {w : World} (hst : Star H w []) (h0 : (rS 41 (rCon 117)).rel H [v0] list) (h1_0 : (rS 117 rTerm).rel H [v1_0] c.terms) {r : Bool} (hF : i_RupConstraint fu list c = some r) :
 C Try.prog 28 #[v0,.agg #[v1_0,I c.bound]] w fun v w'=>v = Bo r∧Star H w' []:=by
 unfold i_RupConstraint at hF
 refine C_enter Try.func28 rfl Try.ntmps28 rfl (sq (L_box (v:=.agg #[v1_0,I c.bound]) (cs:=#[v1_0,I c.bound]) rfl rfl rfl hst (fun g3 w4 hst=>aB rfl (nq ?_))))
 obtain ⟨x10,hx10,hF⟩:=bind_some hF
 obtain ⟨b19,hb19,hF⟩:=bind_some hF
 obtain ⟨b27,hb27,hF⟩:=bind_some hF
 obtain ⟨R28,hR28⟩:=exR fun f w_=>f 4 = Bo b27∧Star H w_ ([])
 refine W_join R28 ?_ ?_
 refine W_region (mV v0 rfl ?_)
 obtain ⟨H29b,l30,s31,z32,k33⟩:=hst.borrow
 refine L_call rfl Try.call39 (ops1 rfl) (i_ProblemValid_c (list:=list) s31 (RP.mono _ h0 l30) hx10) ?_
 rintro _ w34 ⟨rfl,hst⟩
 have hst:=k33 hst c0
 refine mB rfl (L_split (d:=7) (b:=x10) rfl (fun hc35=>?_) (fun hc35=>?_))
 rw [ite_t hc35] at hb19
 obtain ⟨x17,hx17,hb19⟩:=bind_some hb19
 refine L_lda (cs:=[v1_0,I c.bound]) rfl Try.isAgg41 Try.sizeOf41 rfl (At.sub0 (Blk.at (Star.blkAt 0 hst rfl)) 0 2) rfl ?_
 obtain ⟨H36b,l37,s38,z39,k40⟩:=hst.borrow
 refine L_call rfl Try.call61 (ops1 rfl) (i_ConstraintValid_c (c:=c) s38 (RP.mono _ h1_0 l37) hx17) ?_
 rintro _ w41 ⟨rfl,hst⟩
 have hst:=k40 hst c0
 refine L_pick (v:=Bo b19) rfl rfl (congrArg Value.bool (so hb19)) (mB rfl (L_split (d:=11) (b:=b19) rfl (fun hc42=>?_) (fun hc42=>?_)))
 rw [ite_t hc42] at hb27
 obtain ⟨x25,hx25,hb27⟩:=bind_some hb27
 refine mV v0 rfl (L_lda (cs:=[v1_0,I c.bound]) rfl Try.isAgg41 Try.sizeOf41 rfl (At.sub0 (Blk.at (Star.blkAt 0 hst rfl)) 0 2) rfl ?_)
 obtain ⟨H43b,l44,s45,z46,k47⟩:=hst.borrow
 refine L_call rfl Try.call74 (ops2 rfl rfl) (i_rup_c (list:=list) (c:=c) s45 (RP.mono _ h0 l44) (RP.mono _ h1_0 l44) hx25) ?_
 rintro _ w48 ⟨rfl,hst⟩
 have hst:=k47 hst c0
 refine L_pick (v:=Bo b27) rfl rfl (congrArg Value.bool (so hb27)) (aB rfl (nn (rj hR28 ⟨rfl,(Star.keepN 0 hst)⟩)))
 rw [ite_f hc42] at hb27
 refine ps rfl (ps rfl (ps rfl (L_pick (v:=Bo b27) rfl rfl (congrArg Value.bool (so hb27)) (aB rfl (nn (rj hR28 ⟨rfl,(Star.keepN 0 hst)⟩))))))
 rw [ite_f hc35] at hb19
 refine ps rfl (ps rfl (L_pick (v:=Bo b19) rfl rfl (congrArg Value.bool (so hb19)) (mB rfl (L_split (d:=11) (b:=b19) rfl (fun hc49=>?_) (fun hc49=>?_)))))
 rw [ite_t hc49] at hb27
 obtain ⟨x25,hx25,hb27⟩:=bind_some hb27
 refine mV v0 rfl (L_lda (cs:=[v1_0,I c.bound]) rfl Try.isAgg41 Try.sizeOf41 rfl (At.sub0 (Blk.at (Star.blkAt 0 hst rfl)) 0 2) rfl ?_)
 obtain ⟨H50b,l51,s52,z53,k54⟩:=hst.borrow
 refine L_call rfl Try.call74 (ops2 rfl rfl) (i_rup_c (list:=list) (c:=c) s52 (RP.mono _ h0 l51) (RP.mono _ h1_0 l51) hx25) ?_
 rintro _ w55 ⟨rfl,hst⟩
 have hst:=k54 hst c0
 refine L_pick (v:=Bo b27) rfl rfl (congrArg Value.bool (so hb27)) (aB rfl (nn (rj hR28 ⟨rfl,(Star.keepN 0 hst)⟩)))
 rw [ite_f hc49] at hb27
 refine ps rfl (ps rfl (ps rfl (L_pick (v:=Bo b27) rfl rfl (congrArg Value.bool (so hb27)) (aB rfl (nn (rj hR28 ⟨rfl,(Star.keepN 0 hst)⟩))))))
 intro f w_ hR
 obtain ⟨sf4,hst⟩:=rk hR28 hR
 refine W_ret (retG1 (v1:=Bo b27) Try.results28 sf4 ?_)
 obtain rfl:=so hF
 exact ⟨rfl,hst⟩
theorem s_RupConstraint_c {fu : Nat} {list : List Con} {c : Con} {v0 : Value} {v1_0 : Value} {H : FH} {w : World} (hst : Star H w []) (h0 : (rS 41 (rCon 117)).rel H [v0] list) (h1_0 : (rS 117 rTerm).rel H [v1_0] c.terms) {r : Bool} (hF : s_RupConstraint fu list c = some r) :
 C Try.prog 29 #[v0,.agg #[v1_0,I c.bound]] w fun v w'=>v = Bo r∧Star H w' []:=by
 unfold s_RupConstraint at hF
 refine C_enter Try.func29 rfl Try.ntmps29 rfl (sq (L_box (v:=.agg #[v1_0,I c.bound]) (cs:=#[v1_0,I c.bound]) rfl rfl rfl hst (fun g3 w4 hst=>aB rfl (nq ?_))))
 obtain ⟨x10,hx10,hF⟩:=bind_some hF
 obtain ⟨b19,hb19,hF⟩:=bind_some hF
 obtain ⟨b27,hb27,hF⟩:=bind_some hF
 obtain ⟨R28,hR28⟩:=exR fun f w_=>f 4 = Bo b27∧Star H w_ ([])
 refine W_join R28 ?_ ?_
 refine W_region (mV v0 rfl ?_)
 obtain ⟨H29b,l30,s31,z32,k33⟩:=hst.borrow
 refine L_call rfl Try.call75 (ops1 rfl) (s_ProblemValid_c (list:=list) s31 (RP.mono _ h0 l30) hx10) ?_
 rintro _ w34 ⟨rfl,hst⟩
 have hst:=k33 hst c0
 refine mB rfl (L_split (d:=7) (b:=x10) rfl (fun hc35=>?_) (fun hc35=>?_))
 rw [ite_t hc35] at hb19
 obtain ⟨x17,hx17,hb19⟩:=bind_some hb19
 refine L_lda (cs:=[v1_0,I c.bound]) rfl Try.isAgg41 Try.sizeOf41 rfl (At.sub0 (Blk.at (Star.blkAt 0 hst rfl)) 0 2) rfl ?_
 obtain ⟨H36b,l37,s38,z39,k40⟩:=hst.borrow
 refine L_call rfl Try.call56 (ops1 rfl) (s_ConstraintValid_c (c:=c) s38 (RP.mono _ h1_0 l37) hx17) ?_
 rintro _ w41 ⟨rfl,hst⟩
 have hst:=k40 hst c0
 refine L_pick (v:=Bo b19) rfl rfl (congrArg Value.bool (so hb19)) (mB rfl (L_split (d:=11) (b:=b19) rfl (fun hc42=>?_) (fun hc42=>?_)))
 rw [ite_t hc42] at hb27
 obtain ⟨x25,hx25,hb27⟩:=bind_some hb27
 refine mV v0 rfl (L_lda (cs:=[v1_0,I c.bound]) rfl Try.isAgg41 Try.sizeOf41 rfl (At.sub0 (Blk.at (Star.blkAt 0 hst rfl)) 0 2) rfl ?_)
 obtain ⟨H43b,l44,s45,z46,k47⟩:=hst.borrow
 refine L_call rfl Try.call76 (ops2 rfl rfl) (s_l3Rup_c (list:=list) (c:=c) s45 (RP.mono _ h0 l44) (RP.mono _ h1_0 l44) hx25) ?_
 rintro _ w48 ⟨rfl,hst⟩
 have hst:=k47 hst c0
 refine L_pick (v:=Bo b27) rfl rfl (congrArg Value.bool (so hb27)) (aB rfl (nn (rj hR28 ⟨rfl,(Star.keepN 0 hst)⟩)))
 rw [ite_f hc42] at hb27
 refine ps rfl (ps rfl (ps rfl (L_pick (v:=Bo b27) rfl rfl (congrArg Value.bool (so hb27)) (aB rfl (nn (rj hR28 ⟨rfl,(Star.keepN 0 hst)⟩))))))
 rw [ite_f hc35] at hb19
 refine ps rfl (ps rfl (L_pick (v:=Bo b19) rfl rfl (congrArg Value.bool (so hb19)) (mB rfl (L_split (d:=11) (b:=b19) rfl (fun hc49=>?_) (fun hc49=>?_)))))
 rw [ite_t hc49] at hb27
 obtain ⟨x25,hx25,hb27⟩:=bind_some hb27
 refine mV v0 rfl (L_lda (cs:=[v1_0,I c.bound]) rfl Try.isAgg41 Try.sizeOf41 rfl (At.sub0 (Blk.at (Star.blkAt 0 hst rfl)) 0 2) rfl ?_)
 obtain ⟨H50b,l51,s52,z53,k54⟩:=hst.borrow
 refine L_call rfl Try.call76 (ops2 rfl rfl) (s_l3Rup_c (list:=list) (c:=c) s52 (RP.mono _ h0 l51) (RP.mono _ h1_0 l51) hx25) ?_
 rintro _ w55 ⟨rfl,hst⟩
 have hst:=k54 hst c0
 refine L_pick (v:=Bo b27) rfl rfl (congrArg Value.bool (so hb27)) (aB rfl (nn (rj hR28 ⟨rfl,(Star.keepN 0 hst)⟩)))
 rw [ite_f hc49] at hb27
 refine ps rfl (ps rfl (ps rfl (L_pick (v:=Bo b27) rfl rfl (congrArg Value.bool (so hb27)) (aB rfl (nn (rj hR28 ⟨rfl,(Star.keepN 0 hst)⟩))))))
 intro f w_ hR
 obtain ⟨sf4,hst⟩:=rk hR28 hR
 refine W_ret (retG1 (v1:=Bo b27) Try.results29 sf4 ?_)
 obtain rfl:=so hF
 exact ⟨rfl,hst⟩
theorem l_cpValues_c {n_ : Int} {H : FH} {w : World} (hst : Star H w []) {r : List Bool} (hF : l_cpValues n_ = some r) :
 C Try.prog 30 #[I n_] w fun v w'=>∃ (u1 : Value),v = u1∧Star H w' [oF 4 RP.bool u1 r]:=by
 unfold l_cpValues at hF
 refine C_enter Try.func30 rfl Try.ntmps30 rfl (sq (aV S0 rfl (ns (L_bs rfl parts0 (bs_49_0  ) hst (fun g4 w5 hst=>?_)))))
 have hst:=Star.mkRow (R:=(OR.frz RP.bool)) [] [] 0 hst rfl rfl rfl (by decide)
 refine aV (Sl g4 0 0) rfl (nq (sq (aI rfl (nn ?_))))
 obtain ⟨k12,hk12,hF⟩:=bind_some hF
 obtain ⟨j11,hL11,hF⟩:=bind_some hF
 obtain ⟨R11,hR11⟩:=exR fun f w_=>∃ n_8 : Int,∃ out_9 : List Bool,∃ v9_out : Value,j11 = .nx (n_8,out_9)∧f 3 = v9_out∧Star H w_ ([oF 4 RP.bool v9_out out_9])
 refine W_join R11 ?_ ?_
 refine W_block ?_
 obtain ⟨I11,hI11⟩:=exI fun n f w_=>∃ i_7 : Nat,∃ suf11 : Nat,∃ n_8 : Int,∃ out_9 : List Bool,∃ v9_out : Value,suf11 = n∧0≤i_7∧i_7 + suf11 = 0 + k12∧countL l_cpValues_b1 suf11 i_7 (n_8,out_9) = some j11∧f 0 = I n_8∧f 3 = v9_out∧f 4 = I i_7∧Star H w_ ([oF 4 RP.bool v9_out out_9])
 refine W_loop I11 (n:=k12) ?_ ?_
 exact ij hI11 ⟨0,k12,n_,[],(Sl g4 0 0),rfl,Nat.le_refl _,rfl,hL11,rfl,rfl,rfl,hst⟩
 intro n11 f w_ hI
 obtain ⟨i_7,suf11,n_8,out_9,v9_out,rfl,hs11,hl11,hL11,sf0,sf3,sf4,hst⟩:=ik hI11 hI
 refine W_seq (sq (mF sf4 rfl (L_lss rfl rfl rfl (nn (W_cond (b:=decide ((i_7 : Int) < 12)) rfl (fun hc13=>?_) (fun hc13=>?_))))))
 have hlt11:=of_decide_eq_true hc13
 rcases suf11 with _ | rest11
 exact absurd hlt11 (cntF_no hl11 hk12)
 obtain ⟨o11,hB11,hL11⟩:=count_succ hL11
 rw [l_cpValues_b1] at hB11
 refine W_skip (W_seq (W_block (W_seq ?_)))
 obtain ⟨x17,hx17,hB11⟩:=bind_some hB11
 refine W_region (mF sf3 rfl (mF sf0 rfl (L_rem (m:=n_8) (n:=2) rfl rfl rfl (by decide) (L_eql rfl rfl rfl (L_bs rfl (parts1 rfl) (bs_49_1_0 (Bo ((Int.tmod n_8 2) == 1)) rfl) hst (fun g21 w22 hst=>?_))))))
 have hst:=Star.addF (r:=RP.bool) (cs:=[Bo ((Int.tmod n_8 2) == 1)]) (x:=((Int.tmod n_8 2) == 1)) hst rfl
 have hst:=Star.mkRow (R:=(OR.frz RP.bool)) [([Bo ((Int.tmod n_8 2) == 1)],((Int.tmod n_8 2) == 1))] [((Int.tmod n_8 2) == 1)] 1 hst rfl rfl rfl (by decide)
 have hst:=hst.get 1 rfl
 refine L_appM (v:=v9_out) (u:=(Sl g21 1 1)) rfl et_49 rfl rfl hst hx17 (fun v24 w25 hst=>aV v24 rfl (nn (W_region (mF sf0 rfl (L_quo (m:=n_8) (n:=2) rfl rfl rfl (by decide) (aI rfl (nn (W_region (mF sf4 rfl (L_add rfl rfl rfl (aI rfl (nn ?_))))))))))))
 obtain rfl:=so hB11
 show ∃ m,m < _∧I11 m _ _
 refine ⟨rest11,Nat.lt_succ_self _,?_⟩
 exact ij hI11 ⟨i_7 + 1,rest11,i64 (Int.tdiv n_8 2),x17,v24,rfl,by omega,by omega,hL11,rfl,rfl,(Eq.trans rfl (congrArg (Value.int .i64) (i64_succ (n:=0 + k12) (by omega) (cntF_le hk12)))),hst⟩
 rcases suf11 with _ | _
 obtain rfl:=count_zero hL11
 refine W_exit (rj hR11 ⟨n_8,out_9,v9_out,rfl,sf3,hst⟩)
 exact absurd (cntF_yes hs11 hl11 hk12) (of_decide_eq_false hc13)
 intro f w_ hR
 obtain ⟨n_8,out_9,v9_out,rfl,sf3,hst⟩:=rk hR11 hR
 refine sq (mF sf3 rfl (aV v9_out rfl (nn (W_ret (retG1 (v1:=v9_out) Try.results30 rfl ?_)))))
 obtain rfl:=so hF
 exact ⟨v9_out,rfl,hst⟩
theorem i_holds_c {l : Int} {values : List Bool} {v1 : Value} {H : FH} {w : World} (hst : Star H w []) (h1 : (rS 4 RP.bool).rel H [v1] values) {r : Bool} (hF : i_holds l values = some r) :
 C Try.prog 117 #[I l,v1] w fun v w'=>v = Bo r∧Star H w' []:=by
 unfold i_holds at hF
 refine C_enter Try.func117 rfl Try.ntmps117 rfl (sq (aB rfl (nq ?_)))
 obtain ⟨x6,hx6,hF⟩:=bind_some hF
 obtain ⟨x8,hx8,hF⟩:=bind_some hF
 refine W_region (mV v1 rfl (mI rfl ?_))
 obtain ⟨H13b,l14,s15,z16,k17⟩:=hst.borrow
 refine L_call rfl Try.call105 (ops1 rfl) (i_variableOf_c (l:=l) s15 hx6) ?_
 rintro _ w18 ⟨rfl,hst⟩
 have hst:=k17 hst c0
 refine L_sub rfl rfl rfl (L_ix (r:=RP.bool) rfl Try.underlying49 Try.sizeOf4 rfl h1 rfl hx8 (fun g19 o20 cs_g19 hrk_hat21 hat21=>?_))
 obtain rfl : _ = [_]:=hrk_hat21
 refine L_ld rfl Try.isAgg4 rfl (At.cell (AtH.at hat21 hst.sub) (j:=0) rfl) (mI rfl (L_gtr rfl rfl rfl (L_beql (b:=x8) (c:=decide (l > 0)) rfl Try.underlying4 rfl rfl (aB rfl (nn (W_ret (retG1 (v1:=Bo (x8 == (decide (l > 0)))) Try.results117 rfl ?_)))))))
 obtain rfl:=so hF
 exact ⟨rfl,hst⟩
theorem i_Constraint_holds_c {c : Con} {values : List Bool} {v0_0 : Value} {v1 : Value} {H : FH} {w : World} (hst : Star H w []) (h0_0 : (rS 117 rTerm).rel H [v0_0] c.terms) (h1 : (rS 4 RP.bool).rel H [v1] values) {r : Bool} (hF : i_Constraint_holds c values = some r) :
 C Try.prog 78 #[.agg #[v0_0,I c.bound],v1] w fun v w'=>v = Bo r∧Star H w' []:=by
 unfold i_Constraint_holds at hF
 refine C_enter Try.func78 rfl Try.ntmps78 rfl (sq (L_box (v:=.agg #[v0_0,I c.bound]) (cs:=#[v0_0,I c.bound]) rfl rfl rfl hst (fun g3 w4 hst=>aB rfl (ns (aI rfl (nq (sq (fA 0 fa_41_0 rfl rfl (ldB 0 hst Try.isAgg39 rfl rfl rfl (L_len rfl Try.underlying39 rfl (slice_len h0_0) (mI rfl (nn ?_))))))))))))
 have hlen7 : List.length c.terms≤9223372036854775807:=len_le (slice_len h0_0)
 obtain ⟨j7,hL7,hF⟩:=bind_some hF
 obtain ⟨R7,hR7⟩:=exR fun f w_=>∃ sum_6 : Int,j7 = .nx sum_6∧f 2 = Pt g3∧f 5 = I sum_6∧Star H w_ ([box g3 41 #[v0_0,I c.bound]])
 refine W_join R7 ?_ ?_
 refine W_block ?_
 obtain ⟨I7,hI7⟩:=exI fun n f w_=>∃ i_5 : Nat,∃ suf7 : List Term,∃ sum_6 : Int,n = suf7.length∧List.drop i_5 c.terms = suf7∧i_5 + suf7.length = c.terms.length∧rangeL (i_Constraint_holds_b1 values) suf7 i_5 sum_6 = some j7∧f 1 = v1∧f 2 = Pt g3∧f 5 = I sum_6∧f 9 = v0_0∧f 10 = I (c.terms.length : Int)∧f 11 = I i_5∧Star H w_ ([box g3 41 #[v0_0,I c.bound]])
 refine W_loop I7 (n:=c.terms.length) ?_ ?_
 exact ij hI7 ⟨0,c.terms,0,rfl,rfl,Nat.zero_add _,hL7,rfl,rfl,rfl,rfl,rfl,rfl,hst⟩
 intro n7 f w_ hI
 obtain ⟨i_5,suf7,sum_6,rfl,hd7,hl7,hL7,sf1,sf2,sf5,sf9,sf10,sf11,hst⟩:=ik hI7 hI
 refine sq (L_lss rfl sf11 sf10 (nq (W_cond (b:=decide ((i_5 : Int) < (c.terms.length : Int))) rfl (fun hc8=>?_) (fun hc8=>?_))))
 have hlt7:=of_decide_eq_true hc8
 rcases suf7 with _ | ⟨x_7,rest7⟩
 exact absurd hlt7 (by simp at hl7; omega)
 obtain ⟨o7,hB7,hL7⟩:=range_cons hL7
 rw [i_Constraint_holds_b1] at hB7
 have hix7:=drop_idx hd7
 refine W_skip (W_seq (W_block (sq (L_ix (r:=rTerm) rfl Try.underlying39 Try.sizeOf117 sf9 h0_0 sf11 hix7 (fun g16 o17 cs_g16 hrk_hat18 hat18=>?_)))))
 obtain rfl:=rTerm_iff.1 hrk_hat18
 refine L_lda (cs:=[I x_7.coef,I x_7.lit]) rfl Try.isAgg117 Try.sizeOf117 rfl (At.sub (AtH.at hat18 hst.sub) 0 2) rfl (L_al (cs:=#[I 0,I 0]) rfl Try.zeroValue117 rfl hst (fun g20 w21 hst=>L_staB (vs:=#[I x_7.coef,I x_7.lit]) (cs2:=#[I x_7.coef,I x_7.lit]) 0 rfl Try.sizeOf117 rfl rfl rfl (ones_cons rfl (ones_cons rfl ones_nil)) hst rfl (by show 0 + 2≤2; decide) rfl (fun w22 hst=>nq ?_)))
 obtain ⟨x28,hx28,hB7⟩:=bind_some hB7
 refine W_region (fA 1 fa_117_1 rfl rfl (ldB 0 hst Try.isAgg3 rfl rfl rfl (mF sf1 rfl ?_)))
 obtain ⟨H30b,l31,s32,z33,k34⟩:=hst.borrow
 refine L_call rfl Try.call117 (ops2 rfl rfl) (i_holds_c (l:=x_7.lit) (values:=values) s32 (RP.mono _ h1 l31) hx28) ?_
 rintro _ w35 ⟨rfl,hst⟩
 have hst:=k34 hst c0
 refine nn ?_
 obtain ⟨sum_36,hA37,hB7⟩:=bind_some hB7
 obtain ⟨R37,hR37⟩:=exR fun f w_=>f 1 = v1∧f 2 = Pt g3∧f 5 = I sum_36∧f 9 = v0_0∧f 10 = I (c.terms.length : Int)∧f 11 = I i_5∧Star H w_ ([box g3 41 #[v0_0,I c.bound]])
 refine W_join R37 ?_ ?_
 refine W_cond (b:=x28) rfl (fun hc38=>?_) (fun hc38=>?_)
 have hA37:=(ite_t hc38).symm.trans hA37
 refine W_region (mF sf5 rfl (fA 0 fa_117_0 rfl rfl (ldB 0 hst Try.isAgg3 rfl rfl rfl (L_add rfl rfl rfl (aI rfl (nn ?_))))))
 obtain rfl:=so hA37
 have hst:=hst.get 1 rfl
 exact rj hR37 ⟨sf1,sf2,rfl,sf9,sf10,sf11,(Star.keepN 1 hst)⟩
 have hA37:=(ite_f hc38).symm.trans hA37
 refine W_skip ?_
 obtain rfl:=so hA37
 have hst:=hst.get 1 rfl
 exact rj hR37 ⟨sf1,sf2,sf5,sf9,sf10,sf11,(Star.keepN 1 hst)⟩
 intro f w_ hR
 obtain ⟨sf1,sf2,sf5,sf9,sf10,sf11,hst⟩:=rk hR37 hR
 refine W_region (L_add rfl sf11 rfl (mI rfl (nn ?_)))
 obtain rfl:=so hB7
 show ∃ m,m < _∧I7 m _ _
 refine ⟨rest7.length,by simp,?_⟩
 exact ij hI7 ⟨i_5 + 1,rest7,sum_36,rfl,drop_next hd7,by simp at hl7; omega,hL7,sf1,sf2,sf5,sf9,sf10,(Eq.trans rfl (congrArg (Value.int .i64) (i64_succ (n:=c.terms.length) (by simp at hl7; omega) hlen7))),hst⟩
 rcases suf7 with _ | ⟨_,_⟩
 obtain rfl:=range_nil hL7
 refine W_exit (rj hR7 ⟨sum_6,rfl,sf2,sf5,hst⟩)
 exact absurd (of_decide_eq_false hc8) (by simp at hl7; omega)
 intro f w_ hR
 obtain ⟨sum_6,rfl,sf2,sf5,hst⟩:=rk hR7 hR
 refine sq (mF sf5 rfl (fA 1 fa_41_1 sf2 rfl (ldB 0 hst Try.isAgg3 rfl rfl rfl (L_geq rfl rfl rfl (aB rfl (nn (W_ret (retG1 (v1:=Bo (decide (sum_6 ≥ c.bound))) Try.results78 rfl ?_))))))))
 obtain rfl:=so hF
 exact ⟨rfl,(Star.keepN 0 hst)⟩
theorem i_satisfies_1_c {c1 : List Bool} {c : Con} {v0_0 : Value} {g_c1 : Nat} {v1_0 : Value} {H : FH} {w : World} (hst : Star H w []) (h0_0 : (rS 117 rTerm).rel H [v0_0] c.terms) (hat_g_c1 : AtH H g_c1 0 [v1_0]) (h1_0 : (rS 4 RP.bool).rel H [v1_0] c1) {r : Bool} (hF : i_satisfies_1 c1 c = some r) :
 C Try.prog 116 #[.agg #[v0_0,I c.bound],Pt g_c1] w fun v w'=>v = Bo r∧Star H w' []:=by
 unfold i_satisfies_1 at hF
 refine C_enter Try.func116 rfl Try.ntmps116 rfl (sq (L_box (v:=.agg #[v0_0,I c.bound]) (cs:=#[v0_0,I c.bound]) rfl rfl rfl hst (fun g3 w4 hst=>aB rfl (nq ?_))))
 obtain ⟨x10,hx10,hF⟩:=bind_some hF
 refine W_region (L_lda (cs:=[v0_0,I c.bound]) rfl Try.isAgg41 Try.sizeOf41 rfl (At.sub0 (Blk.at (Star.blkAt 0 hst rfl)) 0 2) rfl (L_ld rfl Try.isAgg49 rfl (At.cell0 (AtH.at hat_g_c1 hst.sub) (j:=0) rfl) ?_))
 obtain ⟨H12b,l13,s14,z15,k16⟩:=hst.borrow
 refine L_call rfl Try.call78 (ops2 rfl rfl) (i_Constraint_holds_c (c:=c) (values:=c1) s14 (RP.mono _ h0_0 l13) (RP.mono _ h1_0 l13) hx10) ?_
 rintro _ w17 ⟨rfl,hst⟩
 have hst:=k16 hst c0
 refine L_not_ rfl rfl (aB rfl (nn (W_ret (retG1 (v1:=Bo (!x10)) Try.results116 rfl ?_))))
 obtain rfl:=so hF
 exact ⟨rfl,(Star.keepN 0 hst)⟩
theorem i_satisfies_c {list : List Con} {values : List Bool} {v0 : Value} {v1 : Value} {H : FH} {w : World} (hst : Star H w []) (h0 : (rS 41 (rCon 117)).rel H [v0] list) (h1 : (rS 4 RP.bool).rel H [v1] values) {r : Bool} (hF : i_satisfies list values = some r) :
 C Try.prog 77 #[v0,v1] w fun v w'=>v = Bo r∧Star H w' []:=by
 unfold i_satisfies at hF
 refine C_enter Try.func77 rfl Try.ntmps77 rfl (sq (L_box (v:=v1) (cs:=#[v1]) rfl rfl (cells_one (one_len (slice_len h1))) hst (fun g3 w4 hst=>aB rfl (nq ?_))))
 obtain ⟨x10,hx10,hF⟩:=bind_some hF
 refine W_region (mV v0 rfl (L_mf rfl (ops1 rfl) ?_))
 obtain ⟨H12b,l13,s14,z15,k16⟩:=hst.borrow
 have hf17 : Fun1 Try.prog (rCon 117) true Value.bool (i_satisfies_1 values) (.func (.func 116) #[] #[Pt g3]) H12b:=by
   refine ⟨_,_,rfl,Try.call116,fun H_ w_ hE_ hs_ cs_ x_ y_ args_ hr_ hy_ ha_=>?_⟩
   obtain ⟨p_0,rfl,hp_0⟩:=rCon_iff.1 hr_
   obtain rfl:=args_of (b:=#[.agg #[p_0,I x_.bound],Pt g3]) ha_
   exact i_satisfies_1_c (c1:=values) (c:=x_) hs_ hp_0 (AtH.le (AtH.of (fz_box 0 z15 rfl)) hE_) (RP.mono _ (RP.mono _ h1 l13) hE_) hy_
 refine L_call rfl Try.call62 (ops2 rfl rfl) (slices_ContainsFunc_implConstraint_c (s:=list) (f_:=(i_satisfies_1 values)) s14 (RP.mono _ h0 l13) hf17 hx10) ?_
 rintro _ w18 ⟨rfl,hst⟩
 have hst:=k16 hst c0
 refine L_not_ rfl rfl (aB rfl (nn (W_ret (retG1 (v1:=Bo (!x10)) Try.results77 rfl ?_))))
 obtain rfl:=so hF
 exact ⟨rfl,(Star.keepN 0 hst)⟩
theorem i_SatisfiesAll_c {list : List Con} {values : List Bool} {v0 : Value} {v1 : Value} {H : FH} {w : World} (hst : Star H w []) (h0 : (rS 41 (rCon 117)).rel H [v0] list) (h1 : (rS 4 RP.bool).rel H [v1] values) {r : Bool} (hF : i_SatisfiesAll list values = some r) :
 C Try.prog 31 #[v0,v1] w fun v w'=>v = Bo r∧Star H w' []:=by
 unfold i_SatisfiesAll at hF
 refine C_enter Try.func31 rfl Try.ntmps31 rfl (sq (aB rfl (nq ?_)))
 obtain ⟨x6,hx6,hF⟩:=bind_some hF
 obtain ⟨b15,hb15,hF⟩:=bind_some hF
 obtain ⟨R16,hR16⟩:=exR fun f w_=>f 4 = Bo b15∧Star H w_ ([])
 refine W_join R16 ?_ ?_
 refine W_region (mV v0 rfl ?_)
 obtain ⟨H17b,l18,s19,z20,k21⟩:=hst.borrow
 refine L_call rfl Try.call39 (ops1 rfl) (i_ProblemValid_c (list:=list) s19 (RP.mono _ h0 l18) hx6) ?_
 rintro _ w22 ⟨rfl,hst⟩
 have hst:=k21 hst c0
 refine mB rfl (L_split (d:=7) (b:=x6) rfl (fun hc23=>?_) (fun hc23=>?_))
 refine mV v1 rfl (L_len rfl Try.underlying49 rfl (slice_len h1) (L_eql rfl rfl rfl (L_pick (v:=Bo (x6 && ((values.length : Int) == 12))) rfl rfl (and_t hc23 rfl) (mB rfl (L_split (d:=12) (b:=(x6 && ((values.length : Int) == 12))) rfl (fun hc24=>?_) (fun hc24=>?_))))))
 rw [ite_t hc24] at hb15
 obtain ⟨x13,hx13,hb15⟩:=bind_some hb15
 refine mV v0 rfl (mV v1 rfl ?_)
 obtain ⟨H25b,l26,s27,z28,k29⟩:=hst.borrow
 refine L_call rfl Try.call77 (ops2 rfl rfl) (i_satisfies_c (list:=list) (values:=values) s27 (RP.mono _ h0 l26) (RP.mono _ h1 l26) hx13) ?_
 rintro _ w30 ⟨rfl,hst⟩
 have hst:=k29 hst c0
 refine L_pick (v:=Bo b15) rfl rfl (congrArg Value.bool (so hb15)) (aB rfl (nn (rj hR16 ⟨rfl,hst⟩)))
 rw [ite_f hc24] at hb15
 refine ps rfl (ps rfl (ps rfl (L_pick (v:=Bo b15) rfl rfl (congrArg Value.bool (so hb15)) (aB rfl (nn (rj hR16 ⟨rfl,hst⟩))))))
 refine ps rfl (ps rfl (ps rfl (L_pick (v:=Bo (x6 && ((values.length : Int) == 12))) rfl rfl (and_f hc23) (mB rfl (L_split (d:=12) (b:=(x6 && ((values.length : Int) == 12))) rfl (fun hc31=>?_) (fun hc31=>?_))))))
 rw [ite_t hc31] at hb15
 obtain ⟨x13,hx13,hb15⟩:=bind_some hb15
 refine mV v0 rfl (mV v1 rfl ?_)
 obtain ⟨H32b,l33,s34,z35,k36⟩:=hst.borrow
 refine L_call rfl Try.call77 (ops2 rfl rfl) (i_satisfies_c (list:=list) (values:=values) s34 (RP.mono _ h0 l33) (RP.mono _ h1 l33) hx13) ?_
 rintro _ w37 ⟨rfl,hst⟩
 have hst:=k36 hst c0
 refine L_pick (v:=Bo b15) rfl rfl (congrArg Value.bool (so hb15)) (aB rfl (nn (rj hR16 ⟨rfl,hst⟩)))
 rw [ite_f hc31] at hb15
 refine ps rfl (ps rfl (ps rfl (L_pick (v:=Bo b15) rfl rfl (congrArg Value.bool (so hb15)) (aB rfl (nn (rj hR16 ⟨rfl,hst⟩))))))
 intro f w_ hR
 obtain ⟨sf4,hst⟩:=rk hR16 hR
 refine W_ret (retG1 (v1:=Bo b15) Try.results31 sf4 ?_)
 obtain rfl:=so hF
 exact ⟨rfl,hst⟩
theorem i_EvalConstraint_c {c : Con} {values : List Bool} {v0_0 : Value} {v1 : Value} {H : FH} {w : World} (hst : Star H w []) (h0_0 : (rS 117 rTerm).rel H [v0_0] c.terms) (h1 : (rS 4 RP.bool).rel H [v1] values) {r : Bool} (hF : i_EvalConstraint c values = some r) :
 C Try.prog 32 #[.agg #[v0_0,I c.bound],v1] w fun v w'=>v = Bo r∧Star H w' []:=by
 unfold i_EvalConstraint at hF
 refine C_enter Try.func32 rfl Try.ntmps32 rfl (sq (L_box (v:=.agg #[v0_0,I c.bound]) (cs:=#[v0_0,I c.bound]) rfl rfl rfl hst (fun g3 w4 hst=>aB rfl (nq ?_))))
 obtain ⟨x10,hx10,hF⟩:=bind_some hF
 obtain ⟨b19,hb19,hF⟩:=bind_some hF
 obtain ⟨R20,hR20⟩:=exR fun f w_=>f 4 = Bo b19∧Star H w_ ([])
 refine W_join R20 ?_ ?_
 refine W_region (L_lda (cs:=[v0_0,I c.bound]) rfl Try.isAgg41 Try.sizeOf41 rfl (At.sub0 (Blk.at (Star.blkAt 0 hst rfl)) 0 2) rfl ?_)
 obtain ⟨H21b,l22,s23,z24,k25⟩:=hst.borrow
 refine L_call rfl Try.call61 (ops1 rfl) (i_ConstraintValid_c (c:=c) s23 (RP.mono _ h0_0 l22) hx10) ?_
 rintro _ w26 ⟨rfl,hst⟩
 have hst:=k25 hst c0
 refine mB rfl (L_split (d:=7) (b:=x10) rfl (fun hc27=>?_) (fun hc27=>?_))
 refine mV v1 rfl (L_len rfl Try.underlying49 rfl (slice_len h1) (L_eql rfl rfl rfl (L_pick (v:=Bo (x10 && ((values.length : Int) == 12))) rfl rfl (and_t hc27 rfl) (mB rfl (L_split (d:=12) (b:=(x10 && ((values.length : Int) == 12))) rfl (fun hc28=>?_) (fun hc28=>?_))))))
 rw [ite_t hc28] at hb19
 obtain ⟨x17,hx17,hb19⟩:=bind_some hb19
 refine L_lda (cs:=[v0_0,I c.bound]) rfl Try.isAgg41 Try.sizeOf41 rfl (At.sub0 (Blk.at (Star.blkAt 0 hst rfl)) 0 2) rfl (mV v1 rfl ?_)
 obtain ⟨H29b,l30,s31,z32,k33⟩:=hst.borrow
 refine L_call rfl Try.call78 (ops2 rfl rfl) (i_Constraint_holds_c (c:=c) (values:=values) s31 (RP.mono _ h0_0 l30) (RP.mono _ h1 l30) hx17) ?_
 rintro _ w34 ⟨rfl,hst⟩
 have hst:=k33 hst c0
 refine L_pick (v:=Bo b19) rfl rfl (congrArg Value.bool (so hb19)) (aB rfl (nn (rj hR20 ⟨rfl,(Star.keepN 0 hst)⟩)))
 rw [ite_f hc28] at hb19
 refine ps rfl (ps rfl (ps rfl (L_pick (v:=Bo b19) rfl rfl (congrArg Value.bool (so hb19)) (aB rfl (nn (rj hR20 ⟨rfl,(Star.keepN 0 hst)⟩))))))
 refine ps rfl (ps rfl (ps rfl (L_pick (v:=Bo (x10 && ((values.length : Int) == 12))) rfl rfl (and_f hc27) (mB rfl (L_split (d:=12) (b:=(x10 && ((values.length : Int) == 12))) rfl (fun hc35=>?_) (fun hc35=>?_))))))
 rw [ite_t hc35] at hb19
 obtain ⟨x17,hx17,hb19⟩:=bind_some hb19
 refine L_lda (cs:=[v0_0,I c.bound]) rfl Try.isAgg41 Try.sizeOf41 rfl (At.sub0 (Blk.at (Star.blkAt 0 hst rfl)) 0 2) rfl (mV v1 rfl ?_)
 obtain ⟨H36b,l37,s38,z39,k40⟩:=hst.borrow
 refine L_call rfl Try.call78 (ops2 rfl rfl) (i_Constraint_holds_c (c:=c) (values:=values) s38 (RP.mono _ h0_0 l37) (RP.mono _ h1 l37) hx17) ?_
 rintro _ w41 ⟨rfl,hst⟩
 have hst:=k40 hst c0
 refine L_pick (v:=Bo b19) rfl rfl (congrArg Value.bool (so hb19)) (aB rfl (nn (rj hR20 ⟨rfl,(Star.keepN 0 hst)⟩)))
 rw [ite_f hc35] at hb19
 refine ps rfl (ps rfl (ps rfl (L_pick (v:=Bo b19) rfl rfl (congrArg Value.bool (so hb19)) (aB rfl (nn (rj hR20 ⟨rfl,(Star.keepN 0 hst)⟩))))))
 intro f w_ hR
 obtain ⟨sf4,hst⟩:=rk hR20 hR
 refine W_ret (retG1 (v1:=Bo b19) Try.results32 sf4 ?_)
 obtain rfl:=so hF
 exact ⟨rfl,hst⟩
theorem l_FnRupConstraint_c {fu : Nat} {code : List UInt8} {v0 : Value} {H : FH} {w : World} (hst : Star H w []) (h0 : (rS 5 RP.u8).rel H [v0] code) {r : Bool} (hF : l_FnRupConstraint fu code = some r) :
 C Try.prog 5 #[v0] w fun v w'=>v = Bo r∧Star H w' []:=by
 unfold l_FnRupConstraint at hF
 refine C_enter Try.func5 rfl Try.ntmps5 rfl (sq (aB rfl (nq (sq (mV v0 rfl (L_len rfl Try.underlying45 rfl (slice_len h0) (L_gtr rfl rfl rfl (nn (W_cond (b:=decide ((code.length : Int) > 1048576)) rfl (fun hc1=>?_) (fun hc1=>?_))))))))))
 have hF:=(ite_t hc1).symm.trans hF
 refine sq (aB rfl (nn (W_ret (retG1 (v1:=Bo true) Try.results5 rfl ?_))))
 obtain rfl:=so hF
 exact ⟨rfl,hst⟩
 have hF:=(ite_f hc1).symm.trans hF
 refine W_skip (W_seq ?_)
 obtain ⟨x2,hx2,hF⟩:=bind_some hF
 refine W_region (mV v0 rfl (L_call rfl Try.call27 (ops1 rfl) (s_DrawRupConstraint_c (code:=code) hst h0 hx2) ?_))
 rintro _ w9 ⟨H9,l9,r9_0,r9_1,rfl,hst⟩
 refine mV (.tuple #[r9_0,.agg #[r9_1,I x2.2.bound]]) rfl (L_ex (v:=r9_0) rfl rfl rfl (L_ex (v:=.agg #[r9_1,I x2.2.bound]) rfl rfl rfl (L_al (cs:=#[S0,I 0]) rfl Try.zeroValue41 rfl hst (fun g12 w13 hst=>aV r9_0 rfl (L_staB (vs:=#[r9_1,I x2.2.bound]) (cs2:=#[r9_1,I x2.2.bound]) 0 rfl Try.sizeOf41 rfl rfl rfl (ones_cons (one_len (Star.len 2 hst rfl)) (ones_cons rfl ones_nil)) hst rfl (by show 0 + 2≤2; decide) rfl (fun w14 hst=>nq ?_))))))
 obtain ⟨x22,hx22,hF⟩:=bind_some hF
 refine W_region (mV r9_0 rfl (L_lda (cs:=[r9_1,I x2.2.bound]) rfl Try.isAgg41 Try.sizeOf41 rfl (At.sub0 (Blk.at (Star.blkAt 0 hst rfl)) 0 2) rfl ?_))
 obtain ⟨H24b,l25,s26,z27,k28⟩:=hst.borrow
 have hb29 : (rS 41 (rCon 117)).rel H24b [r9_0] x2.1:=fz_own 1 z27 rfl
 have hb30 : (rS 117 rTerm).rel H24b [r9_1] x2.2.terms:=fz_own 2 z27 rfl
 refine L_call rfl Try.call28 (ops2 rfl rfl) (i_RupConstraint_c (list:=x2.1) (c:=x2.2) s26 hb29 hb30 hx22) ?_
 rintro _ w31 ⟨rfl,hst⟩
 have hst:=k28 hst c0
 refine aB rfl (nq (W_seq ?_))
 obtain ⟨x39,hx39,hF⟩:=bind_some hF
 obtain ⟨R41,hR41⟩:=exR fun f w_=>f 3 = r9_0∧f 4 = Pt g12∧f 5 = Bo x22∧f 27 = Bo ((x22 != x39) || (!x22))∧Star H9 w_ ([oF 41 (rCon 117) r9_0 x2.1,oF 117 rTerm r9_1 x2.2.terms,box g12 41 #[r9_1,I x2.2.bound]])
 refine W_join R41 ?_ ?_
 refine W_region (mB rfl (mV r9_0 rfl (L_lda (cs:=[r9_1,I x2.2.bound]) rfl Try.isAgg41 Try.sizeOf41 rfl (At.sub0 (Blk.at (Star.blkAt 0 hst rfl)) 0 2) rfl ?_)))
 obtain ⟨H42b,l43,s44,z45,k46⟩:=hst.borrow
 have hb47 : (rS 41 (rCon 117)).rel H42b [r9_0] x2.1:=fz_own 1 z45 rfl
 have hb48 : (rS 117 rTerm).rel H42b [r9_1] x2.2.terms:=fz_own 2 z45 rfl
 refine L_call rfl Try.call29 (ops2 rfl rfl) (s_RupConstraint_c (list:=x2.1) (c:=x2.2) s44 hb47 hb48 hx39) ?_
 rintro _ w49 ⟨rfl,hst⟩
 have hst:=k46 hst c0
 refine L_bneq (b:=x22) (c:=x39) rfl Try.underlying4 rfl rfl (mB rfl (L_split (d:=24) (b:=(x22 != x39)) rfl (fun hc50=>?_) (fun hc50=>?_)))
 refine ps rfl (ps rfl (L_pick (v:=Bo ((x22 != x39) || (!x22))) rfl rfl (or_t hc50) (nn ?_)))
 have hst:=hst.gets [2,2] rfl
 exact rj hR41 ⟨rfl,rfl,rfl,rfl,hst⟩
 refine mB rfl (L_not_ rfl rfl (L_pick (v:=Bo ((x22 != x39) || (!x22))) rfl rfl (or_f hc50 rfl) (nn ?_)))
 have hst:=hst.gets [2,2] rfl
 exact rj hR41 ⟨rfl,rfl,rfl,rfl,hst⟩
 intro f w_ hR
 obtain ⟨sf3,sf4,sf5,sf27,hst⟩:=rk hR41 hR
 refine W_cond (b:=((x22 != x39) || (!x22))) sf27 (fun hc51=>?_) (fun hc51=>?_)
 have hF:=(ite_t hc51).symm.trans hF
 refine W_seq ?_
 obtain ⟨x59,hx59,hF⟩:=bind_some hF
 refine W_region (mF sf5 rfl (mF sf3 rfl (L_lda (cs:=[r9_1,I x2.2.bound]) rfl Try.isAgg41 Try.sizeOf41 sf4 (At.sub0 (Blk.at (Star.blkAt 2 hst rfl)) 0 2) rfl ?_)))
 obtain ⟨H61b,l62,s63,z64,k65⟩:=hst.borrow
 have hb66 : (rS 41 (rCon 117)).rel H61b [r9_0] x2.1:=fz_own 0 z64 rfl
 have hb67 : (rS 117 rTerm).rel H61b [r9_1] x2.2.terms:=fz_own 1 z64 rfl
 refine L_call rfl Try.call29 (ops2 rfl rfl) (s_RupConstraint_c (list:=x2.1) (c:=x2.2) s63 hb66 hb67 hx59) ?_
 rintro _ w68 ⟨rfl,hst⟩
 have hst:=k65 hst c0
 refine L_beql (b:=x22) (c:=x59) rfl Try.underlying4 rfl rfl (aB rfl (nn (W_ret (retG1 (v1:=Bo (x22 == x59)) Try.results5 rfl ?_))))
 obtain rfl:=so hF
 exact ⟨rfl,(Star.down (Star.keepN 0 hst) l9 c0)⟩
 have hF:=(ite_f hc51).symm.trans hF
 refine W_skip (W_seq (sq (aI rfl (nn ?_))))
 obtain ⟨k71,hk71,hF⟩:=bind_some hF
 obtain ⟨j70,hL70,hF⟩:=bind_some hF
 obtain ⟨R70,hR70⟩:=exR fun f w_=>j70 = .nx ()∧Star H9 w_ ([])
 refine W_join R70 ?_ ?_
 refine W_block ?_
 obtain ⟨I70,hI70⟩:=exI fun n f w_=>∃ i_69 : Nat,∃ suf70 : Nat,suf70 = n∧0≤i_69∧i_69 + suf70 = 0 + k71∧countL (l_FnRupConstraint_b1 x2) suf70 i_69 () = some j70∧f 3 = r9_0∧f 4 = Pt g12∧f 6 = I i_69∧Star H9 w_ ([oF 41 (rCon 117) r9_0 x2.1,oF 117 rTerm r9_1 x2.2.terms,box g12 41 #[r9_1,I x2.2.bound]])
 refine W_loop I70 (n:=k71) ?_ ?_
 exact ij hI70 ⟨0,k71,rfl,Nat.le_refl _,rfl,hL70,sf3,sf4,rfl,hst⟩
 intro n70 f w_ hI
 obtain ⟨i_69,suf70,rfl,hs70,hl70,hL70,sf3,sf4,sf6,hst⟩:=ik hI70 hI
 refine W_seq (sq (mF sf6 rfl (L_lss rfl rfl rfl (nn (W_cond (b:=decide ((i_69 : Int) < 4096)) rfl (fun hc72=>?_) (fun hc72=>?_))))))
 have hlt70:=of_decide_eq_true hc72
 rcases suf70 with _ | rest70
 exact absurd hlt70 (cntF_no hl70 hk71)
 obtain ⟨o70,hB70,hL70⟩:=count_succ hL70
 rw [l_FnRupConstraint_b1] at hB70
 refine W_skip (W_seq (W_block (W_seq ?_)))
 obtain ⟨x78,hx78,hB70⟩:=bind_some hB70
 refine W_region (mF sf6 rfl ?_)
 obtain ⟨H81b,l82,s83,z84,k85⟩:=hst.borrow
 refine L_call rfl Try.call30 (ops1 rfl) (l_cpValues_c (n_:=(i_69 : Int)) s83 hx78) ?_
 rintro r86_0 w86 ⟨_,rfl,hst⟩
 have hst:=k85 hst (co closed_bool c0)
 refine aV r86_0 rfl (nq ?_)
 obtain ⟨x95,hx95,hB70⟩:=bind_some hB70
 obtain ⟨b106,hb106,hB70⟩:=bind_some hB70
 obtain ⟨R107,hR107⟩:=exR fun f w_=>f 3 = r9_0∧f 4 = Pt g12∧f 6 = I i_69∧f 47 = Bo b106∧Star H9 w_ ([oF 41 (rCon 117) r9_0 x2.1,oF 117 rTerm r9_1 x2.2.terms,box g12 41 #[r9_1,I x2.2.bound]])
 refine W_join R107 ?_ ?_
 refine W_region (mF sf3 rfl (mV r86_0 rfl ?_))
 obtain ⟨H108b,l109,s110,z111,k112⟩:=hst.borrow
 have hb113 : (rS 41 (rCon 117)).rel H108b [r9_0] x2.1:=fz_own 1 z111 rfl
 have hb114 : (rS 4 RP.bool).rel H108b [r86_0] x78:=fz_own 0 z111 rfl
 refine L_call rfl Try.call31 (ops2 rfl rfl) (i_SatisfiesAll_c (list:=x2.1) (values:=x78) s110 hb113 hb114 hx95) ?_
 rintro _ w115 ⟨rfl,hst⟩
 have hst:=k112 hst c0
 refine mB rfl (L_split (d:=42) (b:=x95) rfl (fun hc116=>?_) (fun hc116=>?_))
 rw [ite_t hc116] at hb106
 obtain ⟨x104,hx104,hb106⟩:=bind_some hb106
 refine L_lda (cs:=[r9_1,I x2.2.bound]) rfl Try.isAgg41 Try.sizeOf41 sf4 (At.sub0 (Blk.at (Star.blkAt 3 hst rfl)) 0 2) rfl (mV r86_0 rfl ?_)
 obtain ⟨H117b,l118,s119,z120,k121⟩:=hst.borrow
 have hb122 : (rS 117 rTerm).rel H117b [r9_1] x2.2.terms:=fz_own 2 z120 rfl
 have hb123 : (rS 4 RP.bool).rel H117b [r86_0] x78:=fz_own 0 z120 rfl
 refine L_call rfl Try.call32 (ops2 rfl rfl) (i_EvalConstraint_c (c:=x2.2) (values:=x78) s119 hb122 hb123 hx104) ?_
 rintro _ w124 ⟨rfl,hst⟩
 have hst:=k121 hst c0
 refine L_not_ rfl rfl (L_pick (v:=Bo b106) rfl rfl (congrArg Value.bool (so hb106)) (nn ?_))
 have hst:=hst.gets [3,3,3] rfl
 exact rj hR107 ⟨sf3,sf4,sf6,rfl,(Star.keepN 3 hst)⟩
 rw [ite_f hc116] at hb106
 refine ps rfl (ps rfl (ps rfl (ps rfl (L_pick (v:=Bo b106) rfl rfl (congrArg Value.bool (so hb106)) (nn ?_)))))
 have hst:=hst.gets [3,3,3] rfl
 exact rj hR107 ⟨sf3,sf4,sf6,rfl,(Star.keepN 3 hst)⟩
 intro f w_ hR
 obtain ⟨sf3,sf4,sf6,sf47,hst⟩:=rk hR107 hR
 refine W_cond (b:=b106) sf47 (fun hc125=>?_) (fun hc125=>?_)
 have hB70:=(ite_t hc125).symm.trans hB70
 refine sq (aB rfl (nn (W_ret (retG1 (v1:=Bo false) Try.results5 rfl ?_))))
 obtain rfl:=so hB70
 obtain rfl:=so hL70
 obtain rfl:=so hF
 exact ⟨rfl,(Star.down (Star.keepN 0 hst) l9 c0)⟩
 have hB70:=(ite_f hc125).symm.trans hB70
 refine W_skip (W_region (mF sf6 rfl (L_add rfl rfl rfl (aI rfl (nn ?_)))))
 obtain rfl:=so hB70
 show ∃ m,m < _∧I70 m _ _
 refine ⟨rest70,Nat.lt_succ_self _,?_⟩
 exact ij hI70 ⟨i_69 + 1,rest70,rfl,by omega,by omega,hL70,sf3,sf4,(Eq.trans rfl (congrArg (Value.int .i64) (i64_succ (n:=0 + k71) (by omega) (cntF_le hk71)))),hst⟩
 rcases suf70 with _ | _
 obtain rfl:=count_zero hL70
 refine W_exit (rj hR70 ⟨rfl,(Star.keepN 0 hst)⟩)
 exact absurd (cntF_yes hs70 hl70 hk71) (of_decide_eq_false hc72)
 intro f w_ hR
 obtain ⟨rfl,hst⟩:=rk hR70 hR
 refine sq (aB rfl (nn (W_ret (retG1 (v1:=Bo true) Try.results5 rfl ?_))))
 obtain rfl:=so hF
 exact ⟨rfl,(Star.down hst l9 c0)⟩
end Go.Proofs.Ytiodhgbfceahfaa

/- Part of a proof by program: W2. -/
import Derived.Test.YtnjcihhfoocdcaaDoorD1
import Derived.Test.YtnjcihhfoocdcaaDoorW1
namespace Go.Proofs.YtnjcihhfoocdcaaDoor
open Go Go.E Go.L Go.RowKit
set_option linter.unusedVariables false
set_option linter.unusedSimpArgs false
set_option maxRecDepth 100000
theorem s_l1Mutate_c {r_ : Rd} {c : Con} {g_0 : Nat} {v0_0 : Value} {v1_0 : Value} {H : FH} {w : World} (Z : Star H w [box g_0 92 #[v0_0,I r_.p]]) (h0_0 : (rS 5 RP.u8).rel H [v0_0] r_.b) (h1_0 : (rS 62 rTerm).rel H [v1_0] c.terms) {r : Con × Int} (hF : s_l1Mutate r_ c = some r) :
 C Tryd.prog 69 #[Pt g_0,.agg #[v1_0,I c.bound]] w fun v w'=>∃ (u1 : Value),v = .agg #[u1,I r.1.bound]∧Star H w' [oF 62 rTerm u1 r.1.terms,box g_0 92 #[v0_0,I r.2]]:=by
 unfold s_l1Mutate at hF
 refine C_enter Tryd.func69 rfl Tryd.ntmps69 rfl (sq (L_box (v:=.agg #[v1_0,I c.bound]) (cs:=#[v1_0,I c.bound]) rfl rfl rfl Z (fun g5 w6 Z=>L_al (cs:=#[S0,I 0]) rfl Tryd.zeroValue29 rfl Z (fun g7 w8 Z=>nq ?_))))
 obtain ⟨x14,hx14,hF⟩:=bind_some hF
 refine W_region (L_lda (cs:=[v1_0,I c.bound]) rfl Tryd.isAgg29 Tryd.sizeOf29 rfl (At.sub0 (Blk.at (Star.blkAt 1 Z rfl)) 0 2) rfl ?_)
 obtain ⟨H20b,l21,s22,z23,k24⟩:=Z.borrow
 refine L_call rfl Tryd.call84 (ops1 rfl) (s_l1Copy_c (c:=c) s22 (RP.mono _ h1_0 l21) hx14) ?_
 rintro _ w25 ⟨r25_0,rfl,Z⟩
 have Z:=k24 Z (co closed_term c0)
 refine L_al (cs:=#[S0,I 0]) rfl Tryd.zeroValue29 rfl Z (fun g27 w28 Z=>L_staB (vs:=#[r25_0,I x14.bound]) (cs2:=#[r25_0,I x14.bound]) 0 rfl Tryd.sizeOf29 rfl rfl rfl (ones_cons (one_len (Star.len 1 Z rfl)) (ones_cons rfl ones_nil)) Z rfl (by show 0 + 2≤2; decide) rfl (fun w29 Z=>ns (fA 0 fa_29_0 rfl rfl (ldB 0 Z Tryd.isAgg27 rfl rfl rfl (L_len rfl Tryd.underlying27 rfl (Star.len 1 Z rfl) (aI rfl (nq (W_seq ?_))))))))
 obtain ⟨x35,hx35,hF⟩:=bind_some hF
 refine W_region (mV (Pt g_0) rfl ?_)
 have Z:=Z.get 4 rfl
 obtain ⟨H37b,l38,s39,z40,k41⟩:=Z.lend [_]
 refine L_call rfl Tryd.call70 (ops2 rfl rfl) (s_l17Rd_pick_c (r_:=r_) (n_:=40) s39 (RP.mono _ h0_0 l38) hx35) ?_
 rintro _ w42 ⟨rfl,Z⟩
 have Z:=k41 Z (cb c0)
 refine nn (W_block (sq (L_eql rfl rfl rfl (aB rfl (nn ?_)))))
 obtain ⟨⟨g_0_1_43,g27_0_44,g27_1_46⟩,hA49,hF⟩:=bind_some hF
 obtain ⟨R49,hR49⟩:=exR fun f w_=>∃ H47 : FH,∃ v44_g27_0 : Value,Le H H47∧f 4 = Pt g7∧f 5 = Pt g27∧Star H47 w_ ([box g_0 92 #[v0_0,I g_0_1_43],oF 62 rTerm v44_g27_0 g27_0_44,box g27 29 #[v44_g27_0,I g27_1_46],box g7 29 #[S0,I 0]])
 refine W_join R49 ?_ ?_
 refine W_cond (b:=(x35.1 == 0)) rfl (fun hc50=>?_) (fun hc50=>?_)
 have hA49:=(ite_t hc50).symm.trans hA49
 obtain ⟨x60,hx60,hA49⟩:=bind_some hA49
 refine W_region (mV (Pt g_0) rfl (L_bs rfl (parts3 rfl rfl rfl) (bs_96_3_0_0_0 (I (-1)) (I 20001) (I 9223372036854775807) rfl rfl rfl) Z (fun g63 w64 Z=>?_)))
 have Z:=litInts [(-1),20001,9223372036854775807] 3 Z rfl rfl (by decide)
 have Z:=Z.get 1 rfl
 obtain ⟨H66b,l67,s68,z69,k70⟩:=Z.lend [_]
 have hb71 : (rS 3 RP.int).rel H66b [(Sl g63 3 3)] ([(-1),20001,9223372036854775807]):=fz_own 0 z69 rfl
 refine L_call rfl Tryd.call73 (ops2 rfl rfl) (s_l17Rd_num_c (r_:=({ b:=r_.b,p:=x35.2 } : Rd)) (list:=[(-1),20001,9223372036854775807]) s68 (RP.mono _ h0_0 l67) hb71 hx60) ?_
 rintro _ w72 ⟨rfl,Z⟩
 have Z:=k70 Z (cb c0)
 refine fA 1 fa_29_1 rfl rfl (L_stB (v:=I x60.1) (cs2:=#[r25_0,I x60.1]) 2 rfl Tryd.sizeOf3 rfl rfl rfl Z rfl rfl rfl (fun w73 Z=>nn ?_))
 obtain ⟨rfl,rfl,rfl⟩:=so3 hA49
 have Z:=Z.gets [4,1,4,3] rfl
 exact rj hR49 ⟨H,r25_0,(Le.refl _),rfl,rfl,(Star.keepN 4 Z)⟩
 have hA49:=(ite_f hc50).symm.trans hA49
 refine sq (L_eql rfl rfl rfl (aB rfl (nn ?_)))
 obtain ⟨⟨g_0_1_74,g27_0_75⟩,hA79,hA49⟩:=bind_some hA49
 obtain ⟨R79,hR79⟩:=exR fun f w_=>∃ H77 : FH,∃ v75_g27_0 : Value,Le H H77∧f 4 = Pt g7∧f 5 = Pt g27∧Star H77 w_ ([box g_0 92 #[v0_0,I g_0_1_74],oF 62 rTerm v75_g27_0 g27_0_75,box g27 29 #[v75_g27_0,I x14.bound],box g7 29 #[S0,I 0]])
 refine W_join R79 ?_ ?_
 refine W_cond (b:=(x35.1 == 1)) rfl (fun hc80=>?_) (fun hc80=>?_)
 have hA79:=(ite_t hc80).symm.trans hA79
 refine sq (mI rfl (L_gtr rfl rfl rfl (nn ?_)))
 obtain ⟨⟨g_0_1_81,g27_0_82⟩,hA85,hA79⟩:=bind_some hA79
 obtain ⟨R85,hR85⟩:=exR fun f w_=>∃ H83 : FH,Le H H83∧f 4 = Pt g7∧f 5 = Pt g27∧Star H83 w_ ([box g_0 92 #[v0_0,I g_0_1_81],oF 62 rTerm r25_0 g27_0_82,box g27 29 #[r25_0,I x14.bound],box g7 29 #[S0,I 0]])
 refine W_join R85 ?_ ?_
 refine W_cond (b:=decide ((x14.terms.length : Int) > 0)) rfl (fun hc86=>?_) (fun hc86=>?_)
 have hA85:=(ite_t hc86).symm.trans hA85
 obtain ⟨x96,hx96,hA85⟩:=bind_some hA85
 obtain ⟨x98,hx98,hA85⟩:=bind_some hA85
 have Z:=Star.drop 4 Z rfl
 have Z:=Z.gets [3,3,3] rfl
 refine W_drawS 5 [isV (Pt g27),isV (r25_0),isV (Pt g_0),anyF,isV (I x96.1)] [box g27 29 #[r25_0,I x14.bound],oF 62 rTerm r25_0 x14.terms,box g7 29 #[S0,I 0]] [.base (box g_0 92 #[v0_0,I x35.2]) (some 4),.made 3 27 (fun v_=>oF 3 RP.int v_ ([0,(-1),1001])) none,.made 4 28 (fun v_=>box g_0 92 #[v0_0,I x96.2]) none] ([]) [([],[]),([],[]),([],[]),([],[1]),([0,1],[1,2])] (S:=[(none,[],some 4),(some 3,[27],none),(some 4,[28],none)]) Tryd_mix (by kernel_rfl) rfl (by kernel_rfl) (amF_cons (mono_V _) (amF_cons (mono_V _) (amF_cons (mono_V _) (amF_cons (mono_any) (amF_cons (mono_V _) amF_nil))))) Z ?_ (fun f w_ H102 hS102 hE102 hT102 Z=>?_)
 refine opsS_cons (fun f w_ _ _ s _ _ Z=>fA 0 fa_29_0 ((s 5 rfl).trans rfl) rfl (nO rfl rfl Z)) (opsS_cons (fun f w_ _ _ _ _ p Z=>ldB 0 Z Tryd.isAgg27 (p 0 24 rfl rfl) rfl rfl (nO rfl rfl Z)) (opsS_cons (fun f w_ _ _ s _ _ Z=>mF ((s 0 rfl).trans rfl) rfl (nO rfl rfl Z)) (opsS_cons ?_ ?_)))
 intro f w_ H102 X102 hS102 hE102 hP102 Z
 refine L_bs rfl (parts3 rfl rfl rfl) (bs_96_3_0_0_0 (I 0) (I (-1)) (I 1001) rfl rfl rfl) Z (fun g113 w114 Z=>?_)
 have Z:=litInts [0,(-1),1001] 3 Z rfl rfl (by decide)
 have Z:=Z.gets [3,3,3] rfl
 exact L_nil ⟨rfl,_,_,rfl,Le.refl _,fun _ _=>trivial,Z⟩
 refine opsS_cons ?_ ?_
 intro f w_ H102 X102 hS102 hE102 hP102 Z
 have Z : Star H102 w_ (box g27 29 #[r25_0,I x14.bound] :: oF 62 rTerm r25_0 x14.terms :: box g7 29 #[S0,I 0] :: box g_0 92 #[v0_0,I x35.2] :: oF 3 RP.int (f 27) ([0,(-1),1001]) :: X102):=Z
 have Z:=Z.get 3 rfl
 obtain ⟨H117b,l118,s119,z120,k121⟩:=Z.lend [_]
 have hb122 : (rS 3 RP.int).rel H117b [(f 27)] ([0,(-1),1001]):=fz_own 3 z120 rfl
 refine L_call rfl Tryd.call73 (ops2 (hP102 2 26 rfl rfl) rfl) (s_l17Rd_num_c (r_:=({ b:=r_.b,p:=x35.2 } : Rd)) (list:=[0,(-1),1001]) s119 (RP.mono _ h0_0 (Le.trans hE102 l118)) hb122 hx96) ?_
 rintro _ w123 ⟨rfl,Z⟩
 have Z:=k121 Z (cb c0)
 have Z:=Z.gets [4,4,4,4] rfl
 exact L_nil ⟨rfl,_,_,rfl,Le.refl _,fun _ _=>rfl,Z⟩
 exact opsS_nil
 have Z : Star H102 w_ ([box g27 29 #[r25_0,I x14.bound],oF 62 rTerm r25_0 x14.terms,box g7 29 #[S0,I 0],oF 3 RP.int (f 27) ([0,(-1),1001]),box g_0 92 #[v0_0,I x96.2]]):=Z
 obtain ⟨g124,cap_g124,hv125,_,_⟩:=Star.row 1 Z rfl hx98
 refine L_ixO (R:=(OR.frz rTerm)) (tb:=0) 0 rfl Tryd.underlying27 Tryd.sizeOf62 (hT102 1 25 rfl rfl) hv125 (by first | rfl | simp) rfl hx98 (fA (Int.toNat 0 * 2 + 0) fa_62_0 rfl rfl ?_)
 have Z:=Z.get 1 rfl
 refine L_stF (j:=0) (u:=I x96.1) (z:={ x98 with coef:=x96.1 }) rfl Tryd.sizeOf3 rfl rfl (hT102 4 28 rfl rfl) rfl hv125 Z hx98 fldF_rTerm_0 (fun w126 Z=>nn ?_)
 obtain ⟨rfl,rfl⟩:=so2 hA85
 have Z:=Z.gets [2,2,2,4] rfl
 exact rj hR85 ⟨H102,hE102,((hS102 4 rfl).trans rfl),((hS102 5 rfl).trans rfl),(Star.keepN 4 Z)⟩
 have hA85:=(ite_f hc86).symm.trans hA85
 refine W_skip ?_
 obtain ⟨rfl,rfl⟩:=so2 hA85
 have Z:=Z.gets [3,2,3,3] rfl
 exact rj hR85 ⟨H,(Le.refl _),rfl,rfl,(Star.keepN 4 Z)⟩
 intro f w_ hR
 obtain ⟨H83,l84,sf4,sf5,Z⟩:=rk hR85 hR
 obtain ⟨rfl,rfl⟩:=so2 hA79
 exact rj hR79 ⟨H83,r25_0,l84,sf4,sf5,Z⟩
 have hA79:=(ite_f hc80).symm.trans hA79
 refine sq (L_eql rfl rfl rfl (aB rfl (nn ?_)))
 obtain ⟨⟨g_0_1_127,g27_0_128⟩,hA132,hA79⟩:=bind_some hA79
 obtain ⟨R132,hR132⟩:=exR fun f w_=>∃ H130 : FH,∃ v128_g27_0 : Value,Le H H130∧f 4 = Pt g7∧f 5 = Pt g27∧Star H130 w_ ([box g_0 92 #[v0_0,I g_0_1_127],oF 62 rTerm v128_g27_0 g27_0_128,box g27 29 #[v128_g27_0,I x14.bound],box g7 29 #[S0,I 0]])
 refine W_join R132 ?_ ?_
 refine W_cond (b:=(x35.1 == 2)) rfl (fun hc133=>?_) (fun hc133=>?_)
 have hA132:=(ite_t hc133).symm.trans hA132
 refine sq (mI rfl (L_gtr rfl rfl rfl (nn ?_)))
 obtain ⟨⟨g_0_1_134,g27_0_135⟩,hA138,hA132⟩:=bind_some hA132
 obtain ⟨R138,hR138⟩:=exR fun f w_=>∃ H136 : FH,Le H H136∧f 4 = Pt g7∧f 5 = Pt g27∧Star H136 w_ ([box g_0 92 #[v0_0,I g_0_1_134],oF 62 rTerm r25_0 g27_0_135,box g27 29 #[r25_0,I x14.bound],box g7 29 #[S0,I 0]])
 refine W_join R138 ?_ ?_
 refine W_cond (b:=decide ((x14.terms.length : Int) > 0)) rfl (fun hc139=>?_) (fun hc139=>?_)
 have hA138:=(ite_t hc139).symm.trans hA138
 obtain ⟨x149,hx149,hA138⟩:=bind_some hA138
 obtain ⟨x151,hx151,hA138⟩:=bind_some hA138
 have Z:=Star.drop 4 Z rfl
 have Z:=Z.gets [3,3,3] rfl
 refine W_drawS 7 [isV (Pt g27),isV (r25_0),isV (I (x14.terms.length : Int)),isV (I (i64 ((x14.terms.length : Int) - 1))),isV (Pt g_0),anyF,isV (I x149.1)] [box g27 29 #[r25_0,I x14.bound],oF 62 rTerm r25_0 x14.terms,box g7 29 #[S0,I 0]] [.base (box g_0 92 #[v0_0,I x35.2]) (some 6),.made 5 40 (fun v_=>oF 3 RP.int v_ ([0,13,(-13),1,(-9223372036854775808)])) none,.made 6 41 (fun v_=>box g_0 92 #[v0_0,I x149.2]) none] ([]) [([],[]),([],[]),([],[]),([],[]),([],[]),([],[1]),([0,1],[1,2])] (S:=[(none,[],some 6),(some 5,[40],none),(some 6,[41],none)]) Tryd_mix (by kernel_rfl) rfl (by kernel_rfl) (amF_cons (mono_V _) (amF_cons (mono_V _) (amF_cons (mono_V _) (amF_cons (mono_V _) (amF_cons (mono_V _) (amF_cons (mono_any) (amF_cons (mono_V _) amF_nil))))))) Z ?_ (fun f w_ H155 hS155 hE155 hT155 Z=>?_)
 refine opsS_cons (fun f w_ _ _ s _ _ Z=>fA 0 fa_29_0 ((s 5 rfl).trans rfl) rfl (nO rfl rfl Z)) (opsS_cons (fun f w_ _ _ _ _ p Z=>ldB 0 Z Tryd.isAgg27 (p 0 35 rfl rfl) rfl rfl (nO rfl rfl Z)) (opsS_cons (fun f w_ _ _ s _ _ Z=>mF ((s 6 rfl).trans rfl) rfl (nO rfl rfl Z)) (opsS_cons (fun f w_ _ _ _ _ p Z=>L_sub rfl (p 2 37 rfl rfl) rfl (nO rfl rfl Z)) (opsS_cons (fun f w_ _ _ s _ _ Z=>mF ((s 0 rfl).trans rfl) rfl (nO rfl rfl Z)) (opsS_cons ?_ ?_)))))
 intro f w_ H155 X155 hS155 hE155 hP155 Z
 refine L_bs rfl (parts5 rfl rfl rfl rfl rfl) (bs_96_5_0_0_0_0_0 (I 0) (I 13) (I (-13)) (I 1) (I (-9223372036854775808)) rfl rfl rfl rfl rfl) Z (fun g166 w167 Z=>?_)
 have Z:=litInts [0,13,(-13),1,(-9223372036854775808)] 5 Z rfl rfl (by decide)
 have Z:=Z.gets [3,3,3] rfl
 exact L_nil ⟨rfl,_,_,rfl,Le.refl _,fun _ _=>trivial,Z⟩
 refine opsS_cons ?_ ?_
 intro f w_ H155 X155 hS155 hE155 hP155 Z
 have Z : Star H155 w_ (box g27 29 #[r25_0,I x14.bound] :: oF 62 rTerm r25_0 x14.terms :: box g7 29 #[S0,I 0] :: box g_0 92 #[v0_0,I x35.2] :: oF 3 RP.int (f 40) ([0,13,(-13),1,(-9223372036854775808)]) :: X155):=Z
 have Z:=Z.get 3 rfl
 obtain ⟨H170b,l171,s172,z173,k174⟩:=Z.lend [_]
 have hb175 : (rS 3 RP.int).rel H170b [(f 40)] ([0,13,(-13),1,(-9223372036854775808)]):=fz_own 3 z173 rfl
 refine L_call rfl Tryd.call73 (ops2 (hP155 4 39 rfl rfl) rfl) (s_l17Rd_num_c (r_:=({ b:=r_.b,p:=x35.2 } : Rd)) (list:=[0,13,(-13),1,(-9223372036854775808)]) s172 (RP.mono _ h0_0 (Le.trans hE155 l171)) hb175 hx149) ?_
 rintro _ w176 ⟨rfl,Z⟩
 have Z:=k174 Z (cb c0)
 have Z:=Z.gets [4,4,4,4] rfl
 exact L_nil ⟨rfl,_,_,rfl,Le.refl _,fun _ _=>rfl,Z⟩
 exact opsS_nil
 have Z : Star H155 w_ ([box g27 29 #[r25_0,I x14.bound],oF 62 rTerm r25_0 x14.terms,box g7 29 #[S0,I 0],oF 3 RP.int (f 40) ([0,13,(-13),1,(-9223372036854775808)]),box g_0 92 #[v0_0,I x149.2]]):=Z
 obtain ⟨g177,cap_g177,hv178,_,_⟩:=Star.row 1 Z rfl hx151
 refine L_ixO (R:=(OR.frz rTerm)) (tb:=0) 0 rfl Tryd.underlying27 Tryd.sizeOf62 (hT155 1 36 rfl rfl) hv178 (by first | rfl | simp) (hT155 3 38 rfl rfl) hx151 (fA (Int.toNat (i64 ((x14.terms.length : Int) - 1)) * 2 + 1) fa_62_1 rfl rfl ?_)
 have Z:=Z.get 1 rfl
 refine L_stF (j:=1) (u:=I x149.1) (z:={ x151 with lit:=x149.1 }) rfl Tryd.sizeOf3 rfl rfl (hT155 6 41 rfl rfl) rfl hv178 Z hx151 fldF_rTerm_1 (fun w179 Z=>nn ?_)
 obtain ⟨rfl,rfl⟩:=so2 hA138
 have Z:=Z.gets [2,2,2,4] rfl
 exact rj hR138 ⟨H155,hE155,((hS155 4 rfl).trans rfl),((hS155 5 rfl).trans rfl),(Star.keepN 4 Z)⟩
 have hA138:=(ite_f hc139).symm.trans hA138
 refine W_skip ?_
 obtain ⟨rfl,rfl⟩:=so2 hA138
 have Z:=Z.gets [3,2,3,3] rfl
 exact rj hR138 ⟨H,(Le.refl _),rfl,rfl,(Star.keepN 4 Z)⟩
 intro f w_ hR
 obtain ⟨H136,l137,sf4,sf5,Z⟩:=rk hR138 hR
 obtain ⟨rfl,rfl⟩:=so2 hA132
 exact rj hR132 ⟨H136,r25_0,l137,sf4,sf5,Z⟩
 have hA132:=(ite_f hc133).symm.trans hA132
 refine sq (L_eql rfl rfl rfl (aB rfl (nn ?_)))
 obtain ⟨g27_0_180,hA182,hA132⟩:=bind_some hA132
 obtain ⟨R182,hR182⟩:=exR fun f w_=>∃ v180_g27_0 : Value,f 4 = Pt g7∧f 5 = Pt g27∧Star H w_ ([box g_0 92 #[v0_0,I x35.2],oF 62 rTerm v180_g27_0 g27_0_180,box g27 29 #[v180_g27_0,I x14.bound],box g7 29 #[S0,I 0]])
 refine W_join R182 ?_ ?_
 refine W_cond (b:=(x35.1 == 3)) rfl (fun hc183=>?_) (fun hc183=>?_)
 have hA182:=(ite_t hc183).symm.trans hA182
 obtain ⟨x187,hx187,hA182⟩:=bind_some hA182
 refine W_region (fA 0 fa_29_0 rfl rfl (ldB 1 Z Tryd.isAgg27 rfl rfl rfl (L_bld rfl (parts2 rfl rfl) (bld_62_0_1 (I 1) (I 1) rfl rfl) (L_bs rfl (parts1 rfl) (bs_27_1_2 (I 1) (I 1) ) Z (fun g192 w193 Z=>?_)))))
 have Z:=Star.addF (r:=rTerm) (cs:=[I 1,I 1]) (x:=({ coef:=1,lit:=1 } : Term)) Z (rTerm_iff.2 rfl)
 have Z:=Star.mkRow (R:=(OR.frz rTerm)) [([I 1,I 1],({ coef:=1,lit:=1 } : Term))] [({ coef:=1,lit:=1 } : Term)] 1 Z rfl rfl rfl (by decide)
 have Z:=Z.get 3 rfl
 refine L_appM (v:=r25_0) (u:=(Sl g192 1 1)) rfl et_27 rfl rfl Z hx187 (fun v195 w196 Z=>fA 0 fa_29_0 rfl rfl (L_stB (v:=v195) (cs2:=#[v195,I x14.bound]) 2 rfl Tryd.sizeOf27 rfl rfl (one_len (Star.len 0 Z rfl)) Z rfl rfl rfl (fun w198 Z=>nn ?_)))
 obtain rfl:=so hA182
 have Z:=Z.gets [3,1,2,3] rfl
 exact rj hR182 ⟨v195,rfl,rfl,(Star.keepN 4 Z)⟩
 have hA182:=(ite_f hc183).symm.trans hA182
 refine W_skip ?_
 obtain rfl:=so hA182
 have Z:=Z.gets [3,2,3,3] rfl
 exact rj hR182 ⟨r25_0,rfl,rfl,(Star.keepN 4 Z)⟩
 intro f w_ hR
 obtain ⟨v180_g27_0,sf4,sf5,Z⟩:=rk hR182 hR
 obtain ⟨rfl,rfl⟩:=so2 hA132
 exact rj hR132 ⟨H,v180_g27_0,(Le.refl _),sf4,sf5,Z⟩
 intro f w_ hR
 obtain ⟨H130,v128_g27_0,l131,sf4,sf5,Z⟩:=rk hR132 hR
 obtain ⟨rfl,rfl⟩:=so2 hA79
 exact rj hR79 ⟨H130,v128_g27_0,l131,sf4,sf5,Z⟩
 intro f w_ hR
 obtain ⟨H77,v75_g27_0,l78,sf4,sf5,Z⟩:=rk hR79 hR
 obtain ⟨rfl,rfl,rfl⟩:=so3 hA49
 exact rj hR49 ⟨H77,v75_g27_0,l78,sf4,sf5,Z⟩
 intro f w_ hR
 obtain ⟨H47,v44_g27_0,l48,sf4,sf5,Z⟩:=rk hR49 hR
 refine sq (L_lda (cs:=[v44_g27_0,I g27_1_46]) rfl Tryd.isAgg29 Tryd.sizeOf29 sf5 (At.sub0 (Blk.at (Star.blkAt 2 Z rfl)) 0 2) rfl (L_staB (vs:=#[v44_g27_0,I g27_1_46]) (cs2:=#[v44_g27_0,I g27_1_46]) 3 rfl Tryd.sizeOf29 sf4 rfl rfl (ones_cons (one_len (Star.len 1 Z rfl)) (ones_cons rfl ones_nil)) Z rfl (by show 0 + 2≤2; decide) rfl (fun w200 Z=>nn (W_ret (retG1 (v1:=.agg #[v44_g27_0,I g27_1_46]) Tryd.results69 (resV_agg Tryd.isAgg29 Tryd.sizeOf29 sf4 (Star.blkAt 0 Z rfl) rfl) ?_)))))
 obtain rfl:=so hF
 have Z:=Z.gets [1,2] rfl
 exact ⟨v44_g27_0,rfl,(Star.down (Star.keepN 2 Z) l48 (co closed_term (cb c0)))⟩
theorem s_DrawConstraintValid_c {code : List UInt8} {v0 : Value} {H : FH} {w : World} (Z : Star H w []) (h0 : (rS 5 RP.u8).rel H [v0] code) {r : Con} (hF : s_DrawConstraintValid code = some r) :
 C Tryd.prog 44 #[v0] w fun v w'=>∃ (u1 : Value),v = .agg #[u1,I r.bound]∧Star H w' [oF 62 rTerm u1 r.terms]:=by
 unfold s_DrawConstraintValid at hF
 refine C_enter Tryd.func44 rfl Tryd.ntmps44 rfl (sq (L_al (cs:=#[S0,I 0]) rfl Tryd.zeroValue29 rfl Z (fun g3 w4 Z=>nq ?_)))
 obtain ⟨x5,hx5,hF⟩:=bind_some hF
 refine W_region (mV v0 rfl (L_call rfl Tryd.call51 (ops1 rfl) (s_l17Open_c (code:=code) Z h0 hx5) ?_))
 rintro _ w7 ⟨H7,l7,r7_0,r7_1,rfl,hr7_1,Z⟩
 refine aV (Pt r7_0) rfl (nq ?_)
 obtain ⟨x13,hx13,hF⟩:=bind_some hF
 obtain ⟨x22,hx22,hF⟩:=bind_some hF
 refine W_region (mV (Pt r7_0) rfl (mV (Pt r7_0) rfl ?_))
 obtain ⟨H26b,l27,s28,z29,k30⟩:=Z.lend [_]
 refine L_call rfl Tryd.call53 (ops1 rfl) (s_l1Constraint_c (r_:=x5) s28 (RP.mono _ hr7_1 l27) hx13) ?_
 rintro _ w31 ⟨r31_0,rfl,Z⟩
 have Z:=k30 Z (co closed_term (cb c0))
 have Z:=Z.get 1 rfl
 obtain ⟨H33b,l34,s35,z36,k37⟩:=Z.lend [_]
 have hb38 : (rS 62 rTerm).rel H33b [r31_0] x13.1.terms:=fz_own 0 z36 rfl
 refine L_call rfl Tryd.call69 (ops2 rfl rfl) (s_l1Mutate_c (r_:=({ b:=x5.b,p:=x13.2 } : Rd)) (c:=x13.1) s35 (RP.mono _ hr7_1 l34) hb38 hx22) ?_
 rintro _ w39 ⟨r39_0,rfl,Z⟩
 have Z:=k37 Z (co closed_term (cb c0))
 refine L_staB (vs:=#[r39_0,I x22.1.bound]) (cs2:=#[r39_0,I x22.1.bound]) 3 rfl Tryd.sizeOf29 rfl rfl rfl (ones_cons (one_len (Star.len 0 Z rfl)) (ones_cons rfl ones_nil)) Z rfl (by show 0 + 2≤2; decide) rfl (fun w41 Z=>nn (W_ret (retG1 (v1:=.agg #[r39_0,I x22.1.bound]) Tryd.results44 (resV_agg Tryd.isAgg29 Tryd.sizeOf29 rfl (Star.blkAt 0 Z rfl) rfl) ?_)))
 obtain rfl:=so hF
 have Z:=Z.get 1 rfl
 exact ⟨r39_0,rfl,(Star.down (Star.keepN 1 Z) l7 (co closed_term c0))⟩
theorem s_DrawFormatConstraint_c {code : List UInt8} {v0 : Value} {H : FH} {w : World} (Z : Star H w []) (h0 : (rS 5 RP.u8).rel H [v0] code) {r : Con} (hF : s_DrawFormatConstraint code = some r) :
 C Tryd.prog 17 #[v0] w fun v w'=>∃ (u1 : Value),v = .agg #[u1,I r.bound]∧Star H w' [oF 62 rTerm u1 r.terms]:=by
 unfold s_DrawFormatConstraint at hF
 refine C_enter Tryd.func17 rfl Tryd.ntmps17 rfl (sq (L_al (cs:=#[S0,I 0]) rfl Tryd.zeroValue29 rfl Z (fun g3 w4 Z=>nq ?_)))
 obtain ⟨x10,hx10,hF⟩:=bind_some hF
 refine W_region (mV v0 rfl ?_)
 obtain ⟨H14b,l15,s16,z17,k18⟩:=Z.borrow
 refine L_call rfl Tryd.call44 (ops1 rfl) (s_DrawConstraintValid_c (code:=code) s16 (RP.mono _ h0 l15) hx10) ?_
 rintro _ w19 ⟨r19_0,rfl,Z⟩
 have Z:=k18 Z (co closed_term c0)
 refine L_staB (vs:=#[r19_0,I x10.bound]) (cs2:=#[r19_0,I x10.bound]) 1 rfl Tryd.sizeOf29 rfl rfl rfl (ones_cons (one_len (Star.len 0 Z rfl)) (ones_cons rfl ones_nil)) Z rfl (by show 0 + 2≤2; decide) rfl (fun w21 Z=>nn (W_ret (retG1 (v1:=.agg #[r19_0,I x10.bound]) Tryd.results17 (resV_agg Tryd.isAgg29 Tryd.sizeOf29 rfl (Star.blkAt 0 Z rfl) rfl) ?_)))
 obtain rfl:=so hF
 have Z:=Z.get 1 rfl
 exact ⟨r19_0,rfl,(Star.keepN 1 Z)⟩
theorem slices_Equal_implTerm_c {s1 : List Term} {s2 : List Term} {v0 : Value} {v1 : Value} {H : FH} {w : World} (Z : Star H w []) (h0 : (rS 62 rTerm).rel H [v0] s1) (h1 : (rS 62 rTerm).rel H [v1] s2) {r : Bool} (hF : slices_Equal_implTerm s1 s2 = some r) :
 C Tryd.prog 50 #[v0,v1] w fun v w'=>v = Bo r∧Star H w' []:=by
 unfold slices_Equal_implTerm at hF
 refine C_enter Tryd.func50 rfl Tryd.ntmps50 rfl (sq (aB rfl (nq (sq (mV v0 rfl (L_len rfl Tryd.underlying27 rfl (slice_len h0) (mV v1 rfl (L_len rfl Tryd.underlying27 rfl (slice_len h1) (L_neq rfl rfl rfl (nn (W_cond (b:=((s1.length : Int) != (s2.length : Int))) rfl (fun hc1=>?_) (fun hc1=>?_))))))))))))
 have hF:=(ite_t hc1).symm.trans hF
 refine sq (aB rfl (nn (W_ret (retG1 (v1:=Bo false) Tryd.results50 rfl ?_))))
 obtain rfl:=so hF
 exact ⟨rfl,Z⟩
 have hF:=(ite_f hc1).symm.trans hF
 refine W_skip (W_seq (sq (mV v0 rfl (L_len rfl Tryd.underlying27 rfl (slice_len h0) (mI rfl (nn ?_))))))
 have hlen5 : List.length s1≤9223372036854775807:=len_le (slice_len h0)
 obtain ⟨j5,hL5,hF⟩:=bind_some hF
 obtain ⟨R5,hR5⟩:=exR fun f w_=>∃ H3 : FH,j5 = .nx ()∧Le H H3∧Star H3 w_ ([])
 refine W_join R5 ?_ ?_
 refine W_block ?_
 obtain ⟨I5,hI5⟩:=exI fun n f w_=>∃ i_2 : Nat,∃ suf5 : List Term,∃ H3 : FH,n = suf5.length∧List.drop i_2 s1 = suf5∧i_2 + suf5.length = s1.length∧rangeL (slices_Equal_implTerm_b1 s2) suf5 i_2 () = some j5∧Le H H3∧f 0 = v0∧f 1 = v1∧f 12 = I (s1.length : Int)∧f 13 = I i_2∧Star H3 w_ ([])
 refine W_loop I5 (n:=s1.length) ?_ ?_
 exact ij hI5 ⟨0,s1,H,rfl,rfl,Nat.zero_add _,hL5,(Le.refl _),rfl,rfl,rfl,rfl,Z⟩
 intro n5 f w_ hI
 obtain ⟨i_2,suf5,H3,rfl,hd5,hl5,hL5,l4,sf0,sf1,sf12,sf13,Z⟩:=ik hI5 hI
 refine sq (L_lss rfl sf13 sf12 (nq (W_cond (b:=decide ((i_2 : Int) < (s1.length : Int))) rfl (fun hc6=>?_) (fun hc6=>?_))))
 have hlt5:=of_decide_eq_true hc6
 rcases suf5 with _ | ⟨x_5,rest5⟩
 exact absurd hlt5 (by simp at hl5; omega)
 obtain ⟨o5,hB5,hL5⟩:=range_cons hL5
 rw [slices_Equal_implTerm_b1] at hB5
 have hix5:=drop_idx hd5
 refine W_skip (W_seq (W_block (sq (mF sf13 rfl (aI rfl (nq ?_))))))
 obtain ⟨x11,hx11,hB5⟩:=bind_some hB5
 refine W_drawS 8 [isV (v0),isV (I i_2),isEl rTerm x_5 0,isV (.agg #[I x_5.coef,I x_5.lit]),isV (v1),isV (I i_2),isEl rTerm x11 0,isV (.agg #[I x11.coef,I x11.lit])] [] [] ([]) [([],[]),([],[]),([],[]),([],[]),([],[]),([],[]),([],[]),([],[])] (S:=[]) Tryd_mix (by kernel_rfl) rfl (by kernel_rfl) (amF_cons (mono_V _) (amF_cons (mono_V _) (amF_cons (mono_el _ _ _) (amF_cons (mono_V _) (amF_cons (mono_V _) (amF_cons (mono_V _) (amF_cons (mono_el _ _ _) (amF_cons (mono_V _) amF_nil)))))))) Z ?_ (fun f w_ H16 hS16 hE16 hT16 Z=>?_)
 refine opsS_cons (fun f w_ _ _ s _ _ Z=>mF ((s 0 rfl).trans sf0) rfl (nO rfl rfl Z)) (opsS_cons (fun f w_ _ _ s _ _ Z=>mF ((s 5 rfl).trans rfl) rfl (nO rfl rfl Z)) (opsS_cons ?_ ?_))
 intro f w_ H16 X16 hS16 hE16 hP16 Z
 refine L_ix (r:=rTerm) rfl Tryd.underlying27 Tryd.sizeOf62 (hP16 0 16 rfl rfl) (RP.mono _ h0 (Le.trans l4 hE16)) (hP16 1 17 rfl rfl) hix5 (fun g25 o26 cs_g25 hrk_hat27 hat27=>?_)
 obtain rfl:=rTerm_iff.1 hrk_hat27
 exact L_nil ⟨rfl,_,_,rfl,Le.refl _,fun _ _=>⟨_,_,_,rfl,hrk_hat27,hat27⟩,Z⟩
 refine opsS_cons ?_ ?_
 intro f w_ H16 X16 hS16 hE16 hP16 Z
 obtain ⟨g29,o29,cs29,hv29,hrk_hat29,hat29⟩:=(hP16 2 18 rfl rfl)
 obtain rfl:=rTerm_iff.1 hrk_hat29
 refine L_lda (cs:=[I x_5.coef,I x_5.lit]) rfl Tryd.isAgg62 Tryd.sizeOf62 hv29 (At.sub (AtH.at hat29 Z.sub) 0 2) rfl (L_nil ⟨rfl,_,_,rfl,Le.refl _,fun _ _=>rfl,Z⟩)
 refine opsS_cons (fun f w_ _ _ s _ _ Z=>mF ((s 1 rfl).trans sf1) rfl (nO rfl rfl Z)) (opsS_cons (fun f w_ _ _ s _ _ Z=>mF ((s 5 rfl).trans rfl) rfl (nO rfl rfl Z)) (opsS_cons ?_ ?_))
 intro f w_ H16 X16 hS16 hE16 hP16 Z
 refine L_ix (r:=rTerm) rfl Tryd.underlying27 Tryd.sizeOf62 (hP16 4 20 rfl rfl) (RP.mono _ h1 (Le.trans l4 hE16)) (hP16 5 21 rfl rfl) hx11 (fun g31 o32 cs_g31 hrk_hat33 hat33=>?_)
 obtain rfl:=rTerm_iff.1 hrk_hat33
 exact L_nil ⟨rfl,_,_,rfl,Le.refl _,fun _ _=>⟨_,_,_,rfl,hrk_hat33,hat33⟩,Z⟩
 refine opsS_cons ?_ ?_
 intro f w_ H16 X16 hS16 hE16 hP16 Z
 obtain ⟨g35,o35,cs35,hv35,hrk_hat35,hat35⟩:=(hP16 6 22 rfl rfl)
 obtain rfl:=rTerm_iff.1 hrk_hat35
 refine L_lda (cs:=[I x11.coef,I x11.lit]) rfl Tryd.isAgg62 Tryd.sizeOf62 hv35 (At.sub (AtH.at hat35 Z.sub) 0 2) rfl (L_nil ⟨rfl,_,_,rfl,Le.refl _,fun _ _=>rfl,Z⟩)
 exact opsS_nil
 refine L_tneq (x1:=x_5.coef) (x2:=x_5.lit) (y1:=x11.coef) (y2:=x11.lit) rfl termEq_62 (hT16 3 19 rfl rfl) (hT16 7 23 rfl rfl) (nn (W_cond (b:=(!(x_5 == x11))) rfl (fun hc37=>?_) (fun hc37=>?_)))
 have hB5:=(ite_t hc37).symm.trans hB5
 refine sq (aB rfl (nn (W_ret (retG1 (v1:=Bo false) Tryd.results50 rfl ?_))))
 obtain rfl:=so hB5
 obtain rfl:=so hL5
 obtain rfl:=so hF
 exact ⟨rfl,(Star.down Z (Le.trans l4 hE16) c0)⟩
 have hB5:=(ite_f hc37).symm.trans hB5
 refine W_skip (W_region (L_add rfl ((hS16 13 rfl).trans sf13) rfl (mI rfl (nn ?_))))
 obtain rfl:=so hB5
 show ∃ m,m < _∧I5 m _ _
 refine ⟨rest5.length,by simp,?_⟩
 exact ij hI5 ⟨i_2 + 1,rest5,H16,rfl,drop_next hd5,by simp at hl5; omega,hL5,(Le.trans l4 hE16),((hS16 0 rfl).trans sf0),((hS16 1 rfl).trans sf1),((hS16 12 rfl).trans sf12),(Eq.trans rfl (congrArg (Value.int .i64) (i64_succ (n:=s1.length) (by simp at hl5; omega) hlen5))),Z⟩
 rcases suf5 with _ | ⟨_,_⟩
 obtain rfl:=range_nil hL5
 refine W_exit (rj hR5 ⟨H3,rfl,l4,Z⟩)
 exact absurd (of_decide_eq_false hc6) (by simp at hl5; omega)
 intro f w_ hR
 obtain ⟨H3,rfl,l4,Z⟩:=rk hR5 hR
 refine sq (aB rfl (nn (W_ret (retG1 (v1:=Bo true) Tryd.results50 rfl ?_))))
 obtain rfl:=so hF
 exact ⟨rfl,(Star.down Z l4 c0)⟩
theorem i_ConstraintSame_c {a : Con} {b : Con} {v0_0 : Value} {v1_0 : Value} {H : FH} {w : World} (Z : Star H w []) (h0_0 : (rS 62 rTerm).rel H [v0_0] a.terms) (h1_0 : (rS 62 rTerm).rel H [v1_0] b.terms) {r : Bool} (hF : i_ConstraintSame a b = some r) :
 C Tryd.prog 20 #[.agg #[v0_0,I a.bound],.agg #[v1_0,I b.bound]] w fun v w'=>v = Bo r∧Star H w' []:=by
 unfold i_ConstraintSame at hF
 refine C_enter Tryd.func20 rfl Tryd.ntmps20 rfl (sq (L_box (v:=.agg #[v0_0,I a.bound]) (cs:=#[v0_0,I a.bound]) rfl rfl rfl Z (fun g5 w6 Z=>L_box (v:=.agg #[v1_0,I b.bound]) (cs:=#[v1_0,I b.bound]) rfl rfl rfl Z (fun g7 w8 Z=>aB rfl (nq ?_)))))
 obtain ⟨b16,hb16,hF⟩:=bind_some hF
 obtain ⟨R17,hR17⟩:=exR fun f w_=>f 4 = Bo b16∧Star H w_ ([])
 refine W_join R17 ?_ ?_
 refine W_region (fA 1 fa_29_1 rfl rfl (ldB 1 Z Tryd.isAgg3 rfl rfl rfl (fA 1 fa_29_1 rfl rfl (ldB 0 Z Tryd.isAgg3 rfl rfl rfl (L_eql rfl rfl rfl (mB rfl (L_split (d:=10) (b:=(a.bound == b.bound)) rfl (fun hc18=>?_) (fun hc18=>?_))))))))
 rw [ite_t hc18] at hb16
 obtain ⟨x14,hx14,hb16⟩:=bind_some hb16
 refine fA 0 fa_29_0 rfl rfl (ldB 1 Z Tryd.isAgg27 rfl rfl rfl (fA 0 fa_29_0 rfl rfl (ldB 0 Z Tryd.isAgg27 rfl rfl rfl ?_)))
 obtain ⟨H19b,l20,s21,z22,k23⟩:=Z.borrow
 refine L_call rfl Tryd.call50 (ops2 rfl rfl) (slices_Equal_implTerm_c (s1:=a.terms) (s2:=b.terms) s21 (RP.mono _ h0_0 l20) (RP.mono _ h1_0 l20) hx14) ?_
 rintro _ w24 ⟨rfl,Z⟩
 have Z:=k23 Z c0
 refine L_pick (v:=Bo b16) rfl rfl (congrArg Value.bool (so hb16)) (aB rfl (nn (rj hR17 ⟨rfl,(Star.keepN 0 Z)⟩)))
 rw [ite_f hc18] at hb16
 refine ps rfl (ps rfl (ps rfl (ps rfl (ps rfl (L_pick (v:=Bo b16) rfl rfl (congrArg Value.bool (so hb16)) (aB rfl (nn (rj hR17 ⟨rfl,(Star.keepN 0 Z)⟩))))))))
 intro f w_ hR
 obtain ⟨sf4,Z⟩:=rk hR17 hR
 refine W_ret (retG1 (v1:=Bo b16) Tryd.results20 sf4 ?_)
 obtain rfl:=so hF
 exact ⟨rfl,Z⟩
theorem s_l17Rd_of_c {r_ : Rd} {list : List ByteArray} {g_0 : Nat} {v0_0 : Value} {v1 : Value} {H : FH} {w : World} (Z : Star H w [box g_0 92 #[v0_0,I r_.p]]) (h0_0 : (rS 5 RP.u8).rel H [v0_0] r_.b) (h1 : (rS 9 RP.str).rel H [v1] list) {r : ByteArray × Int} (hF : s_l17Rd_of r_ list = some r) :
 C Tryd.prog 71 #[Pt g_0,v1] w fun v w'=>v = .string r.1∧Star H w' [box g_0 92 #[v0_0,I r.2]]:=by
 unfold s_l17Rd_of at hF
 refine C_enter Tryd.func71 rfl Tryd.ntmps71 rfl (sq (aV (.string (⟨#[]⟩ : ByteArray)) rfl (nq ?_)))
 obtain ⟨x6,hx6,hF⟩:=bind_some hF
 obtain ⟨x8,hx8,hF⟩:=bind_some hF
 refine W_region (mV v1 rfl (mV (Pt g_0) rfl (mV v1 rfl (L_len rfl Tryd.underlying56 rfl (slice_len h1) ?_))))
 obtain ⟨H13b,l14,s15,z16,k17⟩:=Z.lend [_]
 refine L_call rfl Tryd.call70 (ops2 rfl rfl) (s_l17Rd_pick_c (r_:=r_) (n_:=(list.length : Int)) s15 (RP.mono _ h0_0 l14) hx6) ?_
 rintro _ w18 ⟨rfl,Z⟩
 have Z:=k17 Z (cb c0)
 refine L_ix (r:=RP.str) rfl Tryd.underlying56 Tryd.sizeOf9 rfl h1 rfl hx8 (fun g19 o20 cs_g19 hrk_hat21 hat21=>?_)
 obtain rfl : _ = [_]:=hrk_hat21
 refine L_ld rfl Tryd.isAgg9 rfl (At.cell (AtH.at hat21 Z.sub) (j:=0) rfl) (aV (.string x8) rfl (nn (W_ret (retG1 (v1:=.string x8) Tryd.results71 rfl ?_))))
 obtain rfl:=so hF
 exact ⟨rfl,Z⟩
theorem s_l1Bend_c {r_ : Rd} {s : ByteArray} {bits : List ByteArray} {g_0 : Nat} {v0_0 : Value} {v2 : Value} {H : FH} {w : World} (Z : Star H w [box g_0 92 #[v0_0,I r_.p]]) (h0_0 : (rS 5 RP.u8).rel H [v0_0] r_.b) (h2 : (rS 9 RP.str).rel H [v2] bits) {r : ByteArray × Int} (hF : s_l1Bend r_ s bits = some r) :
 C Tryd.prog 52 #[Pt g_0,.string s,v2] w fun v w'=>v = .string r.1∧Star H w' [box g_0 92 #[v0_0,I r.2]]:=by
 unfold s_l1Bend at hF
 refine C_enter Tryd.func52 rfl Tryd.ntmps52 rfl (sq (aV (.string (⟨#[]⟩ : ByteArray)) rfl (nq (W_seq ?_))))
 obtain ⟨b8,hb8,hF⟩:=bind_some hF
 obtain ⟨R9,hR9⟩:=exR fun f w_=>f 0 = Pt g_0∧f 1 = .string s∧f 2 = v2∧f 15 = Bo b8.1∧Star H w_ ([box g_0 92 #[v0_0,I b8.2]])
 refine W_join R9 ?_ ?_
 refine W_region (mV (.string s) rfl (L_slen (s:=s) rfl Tryd.underlying9 rfl (L_eql rfl rfl rfl (mB rfl (L_split (d:=11) (b:=((s.size : Int) == 0)) rfl (fun hc10=>?_) (fun hc10=>?_))))))
 rw [ite_t hc10] at hb8
 refine ps rfl (ps rfl (ps rfl (L_pick (v:=Bo b8.1) rfl rfl (congrArg (fun z : Bool × Int=>Value.bool z.1) (so hb8)) ?_)))
 have Z : Star H w ([box g_0 92 #[v0_0,I b8.2]]):=by rw [← so hb8]; exact Z
 refine nn (rj hR9 ⟨rfl,rfl,rfl,rfl,Z⟩)
 rw [ite_f hc10] at hb8
 obtain ⟨x6,hx6,hb8⟩:=bind_some hb8
 refine mV (Pt g_0) rfl ?_
 obtain ⟨H11b,l12,s13,z14,k15⟩:=Z.lend [_]
 refine L_call rfl Tryd.call70 (ops2 rfl rfl) (s_l17Rd_pick_c (r_:=r_) (n_:=2) s13 (RP.mono _ h0_0 l12) hx6) ?_
 rintro _ w16 ⟨rfl,Z⟩
 have Z:=k15 Z (cb c0)
 refine L_eql rfl rfl rfl (L_pick (v:=Bo b8.1) rfl rfl (congrArg (fun z : Bool × Int=>Value.bool z.1) (so hb8)) ?_)
 have Z : Star H w16 ([box g_0 92 #[v0_0,I b8.2]]):=by rw [← so hb8]; exact Z
 refine nn (rj hR9 ⟨rfl,rfl,rfl,rfl,Z⟩)
 intro f w_ hR
 obtain ⟨sf0,sf1,sf2,sf15,Z⟩:=rk hR9 hR
 refine W_cond (b:=b8.1) sf15 (fun hc17=>?_) (fun hc17=>?_)
 have hF:=(ite_t hc17).symm.trans hF
 refine sq (mF sf1 rfl (aV (.string s) rfl (nn (W_ret (retG1 (v1:=.string s) Tryd.results52 rfl ?_)))))
 obtain rfl:=so hF
 exact ⟨rfl,Z⟩
 have hF:=(ite_f hc17).symm.trans hF
 refine W_skip (W_seq ?_)
 obtain ⟨x23,hx23,hF⟩:=bind_some hF
 refine W_region (mF sf0 rfl (mF sf1 rfl (L_slen (s:=s) rfl Tryd.underlying9 rfl ?_)))
 obtain ⟨H25b,l26,s27,z28,k29⟩:=Z.lend [_]
 refine L_call rfl Tryd.call70 (ops2 rfl rfl) (s_l17Rd_pick_c (r_:=({ b:=r_.b,p:=b8.2 } : Rd)) (n_:=(s.size : Int)) s27 (RP.mono _ h0_0 l26) hx23) ?_
 rintro _ w30 ⟨rfl,Z⟩
 have Z:=k29 Z (cb c0)
 refine aI rfl (nq ?_)
 obtain ⟨x31,hx31,hF⟩:=bind_some hF
 obtain ⟨x37,hx37,hF⟩:=bind_some hF
 obtain ⟨x39,hx39,hF⟩:=bind_some hF
 obtain ⟨x45,hx45,hF⟩:=bind_some hF
 obtain ⟨x47,hx47,hF⟩:=bind_some hF
 obtain ⟨x48,hx48,hF⟩:=bind_some hF
 refine W_drawS 13 [isV (.string s),isV (I x23.1),isV (.string x31),isV (Pt g_0),isV (v2),isV (.string x37.1),isV (.string x39),isV (.string s),isV (I x23.1),isV (Pt g_0),isV (I x45.1),isV (I (i64 (x23.1 + x45.1))),isV (.string x47)] [] [.base (box g_0 92 #[v0_0,I x23.2]) (some 5),.made 5 26 (fun v_=>box g_0 92 #[v0_0,I x37.2]) (some 10),.made 10 31 (fun v_=>box g_0 92 #[v0_0,I x45.2]) none] ([]) [([],[]),([],[]),([],[]),([],[]),([],[]),([0],[1]),([],[]),([],[]),([],[]),([],[]),([1],[2]),([],[]),([],[])] (S:=[(none,[],some 5),(some 5,[26],some 10),(some 10,[31],none)]) Tryd_mix (by kernel_rfl) rfl (by kernel_rfl) (amF_cons (mono_V _) (amF_cons (mono_V _) (amF_cons (mono_V _) (amF_cons (mono_V _) (amF_cons (mono_V _) (amF_cons (mono_V _) (amF_cons (mono_V _) (amF_cons (mono_V _) (amF_cons (mono_V _) (amF_cons (mono_V _) (amF_cons (mono_V _) (amF_cons (mono_V _) (amF_cons (mono_V _) amF_nil))))))))))))) Z ?_ (fun f w_ H49 hS49 hE49 hT49 Z=>?_)
 refine opsS_cons (fun f w_ _ _ s _ _ Z=>mF ((s 1 rfl).trans sf1) rfl (nO rfl rfl Z)) (opsS_cons (fun f w_ _ _ s _ _ Z=>mF ((s 7 rfl).trans rfl) rfl (nO rfl rfl Z)) (opsS_cons (fun f w_ _ _ _ _ p Z=>L_ssl (a:=0) (b:=x23.1) rfl Tryd.underlying9 (p 0 21 rfl rfl) rfl (p 1 22 rfl rfl) hx31 (nO rfl rfl Z)) (opsS_cons (fun f w_ _ _ s _ _ Z=>mF ((s 0 rfl).trans sf0) rfl (nO rfl rfl Z)) (opsS_cons (fun f w_ _ _ s _ _ Z=>mF ((s 2 rfl).trans sf2) rfl (nO rfl rfl Z)) (opsS_cons ?_ ?_)))))
 intro f w_ H49 X49 hS49 hE49 hP49 Z
 have Z : Star H49 w_ (box g_0 92 #[v0_0,I x23.2] :: X49):=Z
 obtain ⟨H62b,l63,s64,z65,k66⟩:=Z.lend [_]
 refine L_call rfl Tryd.call71 (ops2 (hP49 3 24 rfl rfl) (hP49 4 25 rfl rfl)) (s_l17Rd_of_c (r_:=({ b:=r_.b,p:=x23.2 } : Rd)) (list:=bits) s64 (RP.mono _ h0_0 (Le.trans hE49 l63)) (RP.mono _ h2 (Le.trans hE49 l63)) hx37) ?_
 rintro _ w67 ⟨rfl,Z⟩
 have Z:=k66 Z (cb c0)
 exact L_nil ⟨rfl,_,_,rfl,Le.refl _,fun _ _=>rfl,Z⟩
 refine opsS_cons ?_ ?_
 intro f w_ H49 X49 hS49 hE49 hP49 Z
 obtain ⟨hx39_l,hx39_e⟩:=cat_some hx39
 refine L_sadd (s:=x31) (s':=x37.1) rfl (hP49 2 23 rfl rfl) (hP49 5 26 rfl rfl) hx39_l ?_
 rw [← hx39_e]
 exact L_nil ⟨rfl,_,_,rfl,Le.refl _,fun _ _=>rfl,Z⟩
 refine opsS_cons (fun f w_ _ _ s _ _ Z=>mF ((s 1 rfl).trans sf1) rfl (nO rfl rfl Z)) (opsS_cons (fun f w_ _ _ s _ _ Z=>mF ((s 7 rfl).trans rfl) rfl (nO rfl rfl Z)) (opsS_cons (fun f w_ _ _ s _ _ Z=>mF ((s 0 rfl).trans sf0) rfl (nO rfl rfl Z)) (opsS_cons ?_ ?_)))
 intro f w_ H49 X49 hS49 hE49 hP49 Z
 have Z : Star H49 w_ (box g_0 92 #[v0_0,I x37.2] :: X49):=Z
 obtain ⟨H68b,l69,s70,z71,k72⟩:=Z.lend [_]
 refine L_call rfl Tryd.call70 (ops2 (hP49 9 30 rfl rfl) rfl) (s_l17Rd_pick_c (r_:=({ b:=r_.b,p:=x37.2 } : Rd)) (n_:=2) s70 (RP.mono _ h0_0 (Le.trans hE49 l69)) hx45) ?_
 rintro _ w73 ⟨rfl,Z⟩
 have Z:=k72 Z (cb c0)
 exact L_nil ⟨rfl,_,_,rfl,Le.refl _,fun _ _=>rfl,Z⟩
 refine opsS_cons (fun f w_ _ _ _ _ p Z=>L_add rfl (p 8 29 rfl rfl) (p 10 31 rfl rfl) (nO rfl rfl Z)) (opsS_cons (fun f w_ _ _ _ _ p Z=>L_ssl (a:=i64 (x23.1 + x45.1)) (b:=(s.size : Int)) rfl Tryd.underlying9 (p 7 28 rfl rfl) (p 11 32 rfl rfl) rfl hx47 (nO rfl rfl Z)) (opsS_nil))
 have Z : Star H49 w_ ([box g_0 92 #[v0_0,I x45.2]]):=Z
 obtain ⟨hx48_l,hx48_e⟩:=cat_some hx48
 refine L_sadd (s:=x39) (s':=x47) rfl (hT49 6 27 rfl rfl) (hT49 12 33 rfl rfl) hx48_l ?_
 rw [← hx48_e]
 refine aV (.string x48) rfl (nn (W_ret (retG1 (v1:=.string x48) Tryd.results52 rfl ?_)))
 obtain rfl:=so hF
 exact ⟨rfl,(Star.down Z hE49 (cb c0))⟩
theorem s_DrawParseConstraint_c {fu : Nat} {code : List UInt8} {v0 : Value} {H : FH} {w : World} (Z : Star H w []) (h0 : (rS 5 RP.u8).rel H [v0] code) {r : ByteArray} (hF : s_DrawParseConstraint fu code = some r) :
 C Tryd.prog 21 #[v0] w fun v w'=>v = .string r∧Star H w' []:=by
 unfold s_DrawParseConstraint at hF
 refine C_enter Tryd.func21 rfl Tryd.ntmps21 rfl (sq (aV (.string (⟨#[]⟩ : ByteArray)) rfl (nq ?_)))
 obtain ⟨x1,hx1,hF⟩:=bind_some hF
 refine W_region (mV v0 rfl (L_call rfl Tryd.call51 (ops1 rfl) (s_l17Open_c (code:=code) Z h0 hx1) ?_))
 rintro _ w3 ⟨H3,l3,r3_0,r3_1,rfl,hr3_1,Z⟩
 refine aV (Pt r3_0) rfl (nq ?_)
 obtain ⟨x9,hx9,hF⟩:=bind_some hF
 obtain ⟨x18,hx18,hF⟩:=bind_some hF
 obtain ⟨x29,hx29,hF⟩:=bind_some hF
 refine W_region (mV (Pt r3_0) rfl (mV (Pt r3_0) rfl ?_))
 obtain ⟨H31b,l32,s33,z34,k35⟩:=Z.lend [_]
 refine L_call rfl Tryd.call53 (ops1 rfl) (s_l1Constraint_c (r_:=x1) s33 (RP.mono _ hr3_1 l32) hx9) ?_
 rintro _ w36 ⟨r36_0,rfl,Z⟩
 have Z:=k35 Z (co closed_term (cb c0))
 obtain ⟨H38b,l39,s40,z41,k42⟩:=Z.borrow
 have hb43 : (rS 62 rTerm).rel H38b [r36_0] x9.1.terms:=fz_own 0 z41 rfl
 refine L_call rfl Tryd.call9 (ops1 rfl) (s_FormatConstraint_c (c:=x9.1) s40 hb43 hx18) ?_
 rintro _ w44 ⟨rfl,Z⟩
 have Z:=k42 Z c0
 refine L_bs rfl (parts8 rfl rfl rfl rfl rfl rfl rfl rfl) (bs_56_8_0_0_0_0_0_0_0_0 (.string (⟨#[]⟩ : ByteArray)) (.string (⟨#[32]⟩ : ByteArray)) (.string (⟨#[120]⟩ : ByteArray)) (.string (⟨#[126]⟩ : ByteArray)) (.string (⟨#[48]⟩ : ByteArray)) (.string (⟨#[49]⟩ : ByteArray)) (.string (⟨#[62]⟩ : ByteArray)) (.string (⟨#[45]⟩ : ByteArray)) rfl rfl rfl rfl rfl rfl rfl rfl) Z (fun g45 w46 Z=>?_)
 have Z:=Star.addF (r:=RP.str) (cs:=[.string (⟨#[45]⟩ : ByteArray)]) (x:=(⟨#[45]⟩ : ByteArray)) Z rfl
 have Z:=Star.addF (r:=RP.str) (cs:=[.string (⟨#[62]⟩ : ByteArray)]) (x:=(⟨#[62]⟩ : ByteArray)) Z rfl
 have Z:=Star.addF (r:=RP.str) (cs:=[.string (⟨#[49]⟩ : ByteArray)]) (x:=(⟨#[49]⟩ : ByteArray)) Z rfl
 have Z:=Star.addF (r:=RP.str) (cs:=[.string (⟨#[48]⟩ : ByteArray)]) (x:=(⟨#[48]⟩ : ByteArray)) Z rfl
 have Z:=Star.addF (r:=RP.str) (cs:=[.string (⟨#[126]⟩ : ByteArray)]) (x:=(⟨#[126]⟩ : ByteArray)) Z rfl
 have Z:=Star.addF (r:=RP.str) (cs:=[.string (⟨#[120]⟩ : ByteArray)]) (x:=(⟨#[120]⟩ : ByteArray)) Z rfl
 have Z:=Star.addF (r:=RP.str) (cs:=[.string (⟨#[32]⟩ : ByteArray)]) (x:=(⟨#[32]⟩ : ByteArray)) Z rfl
 have Z:=Star.addF (r:=RP.str) (cs:=[.string (⟨#[]⟩ : ByteArray)]) (x:=(⟨#[]⟩ : ByteArray)) Z rfl
 have Z:=Star.mkRow (R:=(OR.frz RP.str)) [([.string (⟨#[]⟩ : ByteArray)],(⟨#[]⟩ : ByteArray)),([.string (⟨#[32]⟩ : ByteArray)],(⟨#[32]⟩ : ByteArray)),([.string (⟨#[120]⟩ : ByteArray)],(⟨#[120]⟩ : ByteArray)),([.string (⟨#[126]⟩ : ByteArray)],(⟨#[126]⟩ : ByteArray)),([.string (⟨#[48]⟩ : ByteArray)],(⟨#[48]⟩ : ByteArray)),([.string (⟨#[49]⟩ : ByteArray)],(⟨#[49]⟩ : ByteArray)),([.string (⟨#[62]⟩ : ByteArray)],(⟨#[62]⟩ : ByteArray)),([.string (⟨#[45]⟩ : ByteArray)],(⟨#[45]⟩ : ByteArray))] [(⟨#[]⟩ : ByteArray),(⟨#[32]⟩ : ByteArray),(⟨#[120]⟩ : ByteArray),(⟨#[126]⟩ : ByteArray),(⟨#[48]⟩ : ByteArray),(⟨#[49]⟩ : ByteArray),(⟨#[62]⟩ : ByteArray),(⟨#[45]⟩ : ByteArray)] 8 Z rfl rfl rfl (by decide)
 have Z:=Z.get 2 rfl
 obtain ⟨H48b,l49,s50,z51,k52⟩:=Z.lend [_]
 have hb53 : (rS 9 RP.str).rel H48b [(Sl g45 8 8)] ([(⟨#[]⟩ : ByteArray),(⟨#[32]⟩ : ByteArray),(⟨#[120]⟩ : ByteArray),(⟨#[126]⟩ : ByteArray),(⟨#[48]⟩ : ByteArray),(⟨#[49]⟩ : ByteArray),(⟨#[62]⟩ : ByteArray),(⟨#[45]⟩ : ByteArray)]):=fz_own 0 z51 rfl
 refine L_call rfl Tryd.call52 (ops3 rfl rfl rfl) (s_l1Bend_c (r_:=({ b:=x1.b,p:=x9.2 } : Rd)) (s:=x18) (bits:=[(⟨#[]⟩ : ByteArray),(⟨#[32]⟩ : ByteArray),(⟨#[120]⟩ : ByteArray),(⟨#[126]⟩ : ByteArray),(⟨#[48]⟩ : ByteArray),(⟨#[49]⟩ : ByteArray),(⟨#[62]⟩ : ByteArray),(⟨#[45]⟩ : ByteArray)]) s50 (RP.mono _ hr3_1 l49) hb53 hx29) ?_
 rintro _ w54 ⟨rfl,Z⟩
 have Z:=k52 Z (cb c0)
 refine aV (.string x29.1) rfl (nn (W_ret (retG1 (v1:=.string x29.1) Tryd.results21 rfl ?_)))
 obtain rfl:=so hF
 exact ⟨rfl,(Star.down (Star.keepN 0 Z) l3 c0)⟩
theorem l_FnConstraintText_c {fu : Nat} {code : List UInt8} {more : List UInt8} {v0 : Value} {v1 : Value} {H : FH} {w : World} (Z : Star H w []) (h0 : (rS 5 RP.u8).rel H [v0] code) (h1 : (rS 5 RP.u8).rel H [v1] more) {r : Bool} (hF : l_FnConstraintText fu code more = some r) :
 C Tryd.prog 5 #[v0,v1] w fun v w'=>v = Bo r∧Star H w' []:=by
 unfold l_FnConstraintText at hF
 refine C_enter Tryd.func5 rfl Tryd.ntmps5 rfl (sq (aB rfl (nq (W_seq ?_))))
 obtain ⟨R1,hR1⟩:=exR fun f w_=>f 0 = v0∧f 1 = v1∧f 21 = Bo ((decide ((code.length : Int) > 1048576)) || (decide ((more.length : Int) > 1048576)))∧Star H w_ ([])
 refine W_join R1 ?_ ?_
 refine W_region (mV v0 rfl (L_len rfl Tryd.underlying37 rfl (slice_len h0) (L_gtr rfl rfl rfl (mB rfl (L_split (d:=17) (b:=decide ((code.length : Int) > 1048576)) rfl (fun hc2=>?_) (fun hc2=>?_))))))
 refine ps rfl (ps rfl (ps rfl (L_pick (v:=Bo ((decide ((code.length : Int) > 1048576)) || (decide ((more.length : Int) > 1048576)))) rfl rfl (or_t hc2) (nn (rj hR1 ⟨rfl,rfl,rfl,Z⟩)))))
 refine mV v1 rfl (L_len rfl Tryd.underlying37 rfl (slice_len h1) (L_gtr rfl rfl rfl (L_pick (v:=Bo ((decide ((code.length : Int) > 1048576)) || (decide ((more.length : Int) > 1048576)))) rfl rfl (or_f hc2 rfl) (nn (rj hR1 ⟨rfl,rfl,rfl,Z⟩)))))
 intro f w_ hR
 obtain ⟨sf0,sf1,sf21,Z⟩:=rk hR1 hR
 refine W_cond (b:=((decide ((code.length : Int) > 1048576)) || (decide ((more.length : Int) > 1048576)))) sf21 (fun hc3=>?_) (fun hc3=>?_)
 have hF:=(ite_t hc3).symm.trans hF
 refine sq (aB rfl (nn (W_ret (retG1 (v1:=Bo true) Tryd.results5 rfl ?_))))
 obtain rfl:=so hF
 exact ⟨rfl,Z⟩
 have hF:=(ite_f hc3).symm.trans hF
 refine W_skip (W_seq ?_)
 obtain ⟨x9,hx9,hF⟩:=bind_some hF
 refine W_region (mF sf0 rfl ?_)
 obtain ⟨H15b,l16,s17,z18,k19⟩:=Z.borrow
 refine L_call rfl Tryd.call17 (ops1 rfl) (s_DrawFormatConstraint_c (code:=code) s17 (RP.mono _ h0 l16) hx9) ?_
 rintro _ w20 ⟨r20_0,rfl,Z⟩
 have Z:=k19 Z (co closed_term c0)
 refine L_al (cs:=#[S0,I 0]) rfl Tryd.zeroValue29 rfl Z (fun g22 w23 Z=>L_staB (vs:=#[r20_0,I x9.bound]) (cs2:=#[r20_0,I x9.bound]) 0 rfl Tryd.sizeOf29 rfl rfl rfl (ones_cons (one_len (Star.len 1 Z rfl)) (ones_cons rfl ones_nil)) Z rfl (by show 0 + 2≤2; decide) rfl (fun w24 Z=>nq ?_))
 obtain ⟨x31,hx31,hF⟩:=bind_some hF
 refine W_region (L_lda (cs:=[r20_0,I x9.bound]) rfl Tryd.isAgg29 Tryd.sizeOf29 rfl (At.sub0 (Blk.at (Star.blkAt 0 Z rfl)) 0 2) rfl ?_)
 obtain ⟨H33b,l34,s35,z36,k37⟩:=Z.borrow
 have hb38 : (rS 62 rTerm).rel H33b [r20_0] x9.terms:=fz_own 1 z36 rfl
 refine L_call rfl Tryd.call11 (ops1 rfl) (i_FormatConstraint_c (c:=x9) s35 hb38 hx31) ?_
 rintro _ w39 ⟨rfl,Z⟩
 have Z:=k37 Z c0
 refine aV (.string x31) rfl (nq ?_)
 obtain ⟨x45,hx45,hF⟩:=bind_some hF
 refine W_region (mV (.string x31) rfl ?_)
 obtain ⟨H51b,l52,s53,z54,k55⟩:=Z.borrow
 refine L_call rfl Tryd.call14 (ops1 rfl) (i_ParseConstraint_c (text:=x31) s53 hx45) ?_
 rintro _ w56 ⟨r56_0,rfl,Z⟩
 have Z:=k55 Z (co closed_term c0)
 refine mV (.tuple #[.agg #[r56_0,I x45.1.bound],Bo x45.2]) rfl (L_ex (v:=.agg #[r56_0,I x45.1.bound]) rfl rfl rfl (L_ex (v:=Bo x45.2) rfl rfl rfl (L_al (cs:=#[S0,I 0]) rfl Tryd.zeroValue29 rfl Z (fun g58 w59 Z=>L_staB (vs:=#[r56_0,I x45.1.bound]) (cs2:=#[r56_0,I x45.1.bound]) 0 rfl Tryd.sizeOf29 rfl rfl rfl (ones_cons (one_len (Star.len 1 Z rfl)) (ones_cons rfl ones_nil)) Z rfl (by show 0 + 2≤2; decide) rfl (fun w60 Z=>aB rfl (nq (W_seq ?_)))))))
 obtain ⟨x67,hx67,hF⟩:=bind_some hF
 obtain ⟨b85,hb85,hF⟩:=bind_some hF
 obtain ⟨b94,hb94,hF⟩:=bind_some hF
 obtain ⟨b105,hb105,hF⟩:=bind_some hF
 obtain ⟨R109,hR109⟩:=exR fun f w_=>∃ H107 : FH,Le H H107∧f 1 = v1∧f 56 = Bo b105∧Star H107 w_ ([])
 refine W_join R109 ?_ ?_
 rcases Bool.eq_false_or_eq_true (!(ByteArray.toList x31 == ByteArray.toList x67)) with hc110 | hc110
 rw [ite_t hc110] at hb85
 rcases Bool.eq_false_or_eq_true b85 with hc111 | hc111
 rw [ite_t hc111] at hb94
 rcases Bool.eq_false_or_eq_true b94 with hc112 | hc112
 rw [ite_t hc112] at hb105
 refine W_drawS 22 [isV (.string x31),isV (.agg #[r20_0,I x9.bound]),isV (.string x67),isV (Bo (!(ByteArray.toList x31 == ByteArray.toList x67))),isV (Bo (!(ByteArray.toList x31 == ByteArray.toList x67))),isV (undef),isV (undef),isV (undef),isV (undef),isV (undef),isV (Bo b85),isV (Bo b85),isV (undef),isV (undef),isV (undef),isV (undef),isV (Bo b94),isV (Bo b94),isV (undef),isV (undef),isV (undef),isV (undef)] [box g58 29 #[r56_0,I x45.1.bound],oF 62 rTerm r56_0 x45.1.terms,box g22 29 #[r20_0,I x9.bound],oF 62 rTerm r20_0 x9.terms] [] ([]) [([],[]),([],[]),([],[]),([],[]),([],[]),([],[]),([],[]),([],[]),([],[]),([],[]),([],[]),([],[]),([],[]),([],[]),([],[]),([],[]),([],[]),([],[]),([],[]),([],[]),([],[]),([],[])] (S:=[]) Tryd_mix (by kernel_rfl) rfl (by kernel_rfl) (amF_cons (mono_V _) (amF_cons (mono_V _) (amF_cons (mono_V _) (amF_cons (mono_V _) (amF_cons (mono_V _) (amF_cons (mono_V _) (amF_cons (mono_V _) (amF_cons (mono_V _) (amF_cons (mono_V _) (amF_cons (mono_V _) (amF_cons (mono_V _) (amF_cons (mono_V _) (amF_cons (mono_V _) (amF_cons (mono_V _) (amF_cons (mono_V _) (amF_cons (mono_V _) (amF_cons (mono_V _) (amF_cons (mono_V _) (amF_cons (mono_V _) (amF_cons (mono_V _) (amF_cons (mono_V _) (amF_cons (mono_V _) amF_nil)))))))))))))))))))))) Z ?_ (fun f w_ H106 hS106 hE106 hT106 Z=>?_)
 refine opsS_cons (fun f w_ _ _ s _ _ Z=>mF ((s 6 rfl).trans rfl) rfl (nO rfl rfl Z)) (opsS_cons (fun f w_ _ _ s _ _ Z=>L_lda (cs:=[r20_0,I x9.bound]) rfl Tryd.isAgg29 Tryd.sizeOf29 ((s 5 rfl).trans rfl) (At.sub0 (Blk.at (Star.blkAt 2 Z rfl)) 0 2) rfl (nO rfl rfl Z)) (opsS_cons ?_ ?_))
 intro f w_ H106 X106 hS106 hE106 hP106 Z
 obtain ⟨H120b,l121,s122,z123,k124⟩:=Z.borrow
 have hb125 : (rS 62 rTerm).rel H120b [r20_0] x9.terms:=fz_own 3 z123 rfl
 refine L_call rfl Tryd.call9 (ops1 (hP106 1 32 rfl rfl)) (s_FormatConstraint_c (c:=x9) s122 hb125 hx67) ?_
 rintro _ w126 ⟨rfl,Z⟩
 have Z:=k124 Z c0
 exact L_nil ⟨rfl,_,_,rfl,Le.refl _,fun _ _=>rfl,Z⟩
 refine opsS_cons (fun f w_ _ _ _ _ p Z=>L_sneq (s:=x31) (s':=x67) rfl (p 0 31 rfl rfl) (p 2 33 rfl rfl) (nO rfl rfl Z)) (opsS_cons (fun f w_ _ _ _ _ p Z=>mF (p 3 34 rfl rfl) rfl (nO rfl rfl Z)) (oP (fun _ _ p=>gN (p 4 35 rfl rfl) hc110 rfl) (fun _=>rfl) (oP (fun _ _ p=>gN (p 4 35 rfl rfl) hc110 rfl) (fun _=>rfl) (oP (fun _ _ p=>gN (p 4 35 rfl rfl) hc110 rfl) (fun _=>rfl) (oP (fun _ _ p=>gN (p 4 35 rfl rfl) hc110 rfl) (fun _=>rfl) (oP (fun _ _ p=>gN (p 4 35 rfl rfl) hc110 rfl) (fun _=>rfl) (opsS_cons (fun f w_ _ _ _ _ p Z=>pkT (v:=Bo b85) (p 4 35 rfl rfl) hc110 rfl (congrArg Value.bool (so hb85)) (nO rfl rfl Z)) (opsS_cons (fun f w_ _ _ _ _ p Z=>mF (p 10 41 rfl rfl) rfl (nO rfl rfl Z)) (oP (fun _ _ p=>gN (p 11 42 rfl rfl) hc111 rfl) (fun _=>rfl) (oP (fun _ _ p=>gN (p 11 42 rfl rfl) hc111 rfl) (fun _=>rfl) (oP (fun _ _ p=>gN (p 11 42 rfl rfl) hc111 rfl) (fun _=>rfl) (oP (fun _ _ p=>gN (p 11 42 rfl rfl) hc111 rfl) (fun _=>rfl) (opsS_cons (fun f w_ _ _ _ _ p Z=>pkT (v:=Bo b94) (p 11 42 rfl rfl) hc111 rfl (congrArg Value.bool (so hb94)) (nO rfl rfl Z)) (opsS_cons (fun f w_ _ _ _ _ p Z=>mF (p 16 47 rfl rfl) rfl (nO rfl rfl Z)) (oP (fun _ _ p=>gN (p 17 48 rfl rfl) hc112 rfl) (fun _=>rfl) (oP (fun _ _ p=>gN (p 17 48 rfl rfl) hc112 rfl) (fun _=>rfl) (oP (fun _ _ p=>g_undef rfl (p 19 50 rfl rfl) rfl) (fun _=>rfl) (oP (fun _ _ p=>g_undef rfl (p 19 50 rfl rfl) rfl) (fun _=>rfl) (opsS_nil)))))))))))))))))))
 refine ps (g_undef rfl (hT106 19 50 rfl rfl) rfl) (ps (g_undef rfl (hT106 19 50 rfl rfl) rfl) (ps (g_no rfl (Eq.trans (hT106 17 48 rfl rfl) (congrArg Value.bool hc112)) rfl rfl) (L_pick (v:=Bo b105) rfl (Eq.trans (hT106 17 48 rfl rfl) (congrArg Value.bool hc112)) (congrArg Value.bool (so hb105)) (nn (rj hR109 ⟨H106,hE106,((hS106 1 rfl).trans sf1),rfl,(Star.keepN 0 Z)⟩)))))
 rw [ite_f hc112] at hb105
 obtain ⟨b104,hb104,hb105⟩:=bind_some hb105
 rcases Bool.eq_false_or_eq_true x45.2 with hc127 | hc127
 rw [ite_t hc127] at hb104
 obtain ⟨x102,hx102,hb104⟩:=bind_some hb104
 refine W_drawS 22 [isV (.string x31),isV (.agg #[r20_0,I x9.bound]),isV (.string x67),isV (Bo (!(ByteArray.toList x31 == ByteArray.toList x67))),isV (Bo (!(ByteArray.toList x31 == ByteArray.toList x67))),isV (undef),isV (undef),isV (undef),isV (undef),isV (undef),isV (Bo b85),isV (Bo b85),isV (undef),isV (undef),isV (undef),isV (undef),isV (Bo b94),isV (Bo b94),isV (Bo x45.2),isV (Bo x45.2),isV (.agg #[r56_0,I x45.1.bound]),isV (.agg #[r20_0,I x9.bound])] [box g58 29 #[r56_0,I x45.1.bound],oF 62 rTerm r56_0 x45.1.terms,box g22 29 #[r20_0,I x9.bound],oF 62 rTerm r20_0 x9.terms] [] ([]) [([],[]),([],[]),([],[]),([],[]),([],[]),([],[]),([],[]),([],[]),([],[]),([],[]),([],[]),([],[]),([],[]),([],[]),([],[]),([],[]),([],[]),([],[]),([],[]),([],[]),([],[]),([],[])] (S:=[]) Tryd_mix (by kernel_rfl) rfl (by kernel_rfl) (amF_cons (mono_V _) (amF_cons (mono_V _) (amF_cons (mono_V _) (amF_cons (mono_V _) (amF_cons (mono_V _) (amF_cons (mono_V _) (amF_cons (mono_V _) (amF_cons (mono_V _) (amF_cons (mono_V _) (amF_cons (mono_V _) (amF_cons (mono_V _) (amF_cons (mono_V _) (amF_cons (mono_V _) (amF_cons (mono_V _) (amF_cons (mono_V _) (amF_cons (mono_V _) (amF_cons (mono_V _) (amF_cons (mono_V _) (amF_cons (mono_V _) (amF_cons (mono_V _) (amF_cons (mono_V _) (amF_cons (mono_V _) amF_nil)))))))))))))))))))))) Z ?_ (fun f w_ H106 hS106 hE106 hT106 Z=>?_)
 refine opsS_cons (fun f w_ _ _ s _ _ Z=>mF ((s 6 rfl).trans rfl) rfl (nO rfl rfl Z)) (opsS_cons (fun f w_ _ _ s _ _ Z=>L_lda (cs:=[r20_0,I x9.bound]) rfl Tryd.isAgg29 Tryd.sizeOf29 ((s 5 rfl).trans rfl) (At.sub0 (Blk.at (Star.blkAt 2 Z rfl)) 0 2) rfl (nO rfl rfl Z)) (opsS_cons ?_ ?_))
 intro f w_ H106 X106 hS106 hE106 hP106 Z
 obtain ⟨H135b,l136,s137,z138,k139⟩:=Z.borrow
 have hb140 : (rS 62 rTerm).rel H135b [r20_0] x9.terms:=fz_own 3 z138 rfl
 refine L_call rfl Tryd.call9 (ops1 (hP106 1 32 rfl rfl)) (s_FormatConstraint_c (c:=x9) s137 hb140 hx67) ?_
 rintro _ w141 ⟨rfl,Z⟩
 have Z:=k139 Z c0
 exact L_nil ⟨rfl,_,_,rfl,Le.refl _,fun _ _=>rfl,Z⟩
 refine opsS_cons (fun f w_ _ _ _ _ p Z=>L_sneq (s:=x31) (s':=x67) rfl (p 0 31 rfl rfl) (p 2 33 rfl rfl) (nO rfl rfl Z)) (opsS_cons (fun f w_ _ _ _ _ p Z=>mF (p 3 34 rfl rfl) rfl (nO rfl rfl Z)) (oP (fun _ _ p=>gN (p 4 35 rfl rfl) hc110 rfl) (fun _=>rfl) (oP (fun _ _ p=>gN (p 4 35 rfl rfl) hc110 rfl) (fun _=>rfl) (oP (fun _ _ p=>gN (p 4 35 rfl rfl) hc110 rfl) (fun _=>rfl) (oP (fun _ _ p=>gN (p 4 35 rfl rfl) hc110 rfl) (fun _=>rfl) (oP (fun _ _ p=>gN (p 4 35 rfl rfl) hc110 rfl) (fun _=>rfl) (opsS_cons (fun f w_ _ _ _ _ p Z=>pkT (v:=Bo b85) (p 4 35 rfl rfl) hc110 rfl (congrArg Value.bool (so hb85)) (nO rfl rfl Z)) (opsS_cons (fun f w_ _ _ _ _ p Z=>mF (p 10 41 rfl rfl) rfl (nO rfl rfl Z)) (oP (fun _ _ p=>gN (p 11 42 rfl rfl) hc111 rfl) (fun _=>rfl) (oP (fun _ _ p=>gN (p 11 42 rfl rfl) hc111 rfl) (fun _=>rfl) (oP (fun _ _ p=>gN (p 11 42 rfl rfl) hc111 rfl) (fun _=>rfl) (oP (fun _ _ p=>gN (p 11 42 rfl rfl) hc111 rfl) (fun _=>rfl) (opsS_cons (fun f w_ _ _ _ _ p Z=>pkT (v:=Bo b94) (p 11 42 rfl rfl) hc111 rfl (congrArg Value.bool (so hb94)) (nO rfl rfl Z)) (opsS_cons (fun f w_ _ _ _ _ p Z=>mF (p 16 47 rfl rfl) rfl (nO rfl rfl Z)) (opsS_cons (fun f w_ _ _ s _ p Z=>L_mv (v:=Bo x45.2) (g_yes rfl (Eq.trans (p 17 48 rfl rfl) (congrArg Value.bool hc112)) rfl) ((s 8 rfl).trans rfl) (nO rfl rfl Z)) (opsS_cons (fun f w_ _ _ _ _ p Z=>L_mv (v:=Bo x45.2) (g_yes rfl (Eq.trans (p 17 48 rfl rfl) (congrArg Value.bool hc112)) rfl) (p 18 49 rfl rfl) (nO rfl rfl Z)) (opsS_cons (fun f w_ _ _ s _ p Z=>L_lda (cs:=[r56_0,I x45.1.bound]) (g_yes rfl (Eq.trans (p 19 50 rfl rfl) (congrArg Value.bool hc127)) rfl) Tryd.isAgg29 Tryd.sizeOf29 ((s 7 rfl).trans rfl) (At.sub0 (Blk.at (Star.blkAt 0 Z rfl)) 0 2) rfl (nO rfl rfl Z)) (opsS_cons (fun f w_ _ _ s _ p Z=>L_lda (cs:=[r20_0,I x9.bound]) (g_yes rfl (Eq.trans (p 19 50 rfl rfl) (congrArg Value.bool hc127)) rfl) Tryd.isAgg29 Tryd.sizeOf29 ((s 5 rfl).trans rfl) (At.sub0 (Blk.at (Star.blkAt 2 Z rfl)) 0 2) rfl (nO rfl rfl Z)) (opsS_nil)))))))))))))))))))
 obtain ⟨H142b,l143,s144,z145,k146⟩:=Z.borrow
 have hb147 : (rS 62 rTerm).rel H142b [r56_0] x45.1.terms:=fz_own 1 z145 rfl
 have hb148 : (rS 62 rTerm).rel H142b [r20_0] x9.terms:=fz_own 3 z145 rfl
 refine L_call (g_yes rfl (Eq.trans (hT106 19 50 rfl rfl) (congrArg Value.bool hc127)) rfl) Tryd.call20 (ops2 (hT106 20 51 rfl rfl) (hT106 21 52 rfl rfl)) (i_ConstraintSame_c (a:=x45.1) (b:=x9) s144 hb147 hb148 hx102) ?_
 rintro _ w149 ⟨rfl,Z⟩
 have Z:=k146 Z c0
 refine L_not_ (g_yes rfl (Eq.trans (hT106 19 50 rfl rfl) (congrArg Value.bool hc127)) rfl) rfl (L_pick (v:=Bo b104) (g_yes rfl (Eq.trans (hT106 17 48 rfl rfl) (congrArg Value.bool hc112)) rfl) (Eq.trans (hT106 19 50 rfl rfl) (congrArg Value.bool hc127)) (congrArg Value.bool (so hb104)) (L_pick (v:=Bo b105) rfl (Eq.trans (hT106 17 48 rfl rfl) (congrArg Value.bool hc112)) (congrArg Value.bool (so hb105)) (nn (rj hR109 ⟨H106,hE106,((hS106 1 rfl).trans sf1),rfl,(Star.keepN 0 Z)⟩))))
 rw [ite_f hc127] at hb104
 refine W_drawS 22 [isV (.string x31),isV (.agg #[r20_0,I x9.bound]),isV (.string x67),isV (Bo (!(ByteArray.toList x31 == ByteArray.toList x67))),isV (Bo (!(ByteArray.toList x31 == ByteArray.toList x67))),isV (undef),isV (undef),isV (undef),isV (undef),isV (undef),isV (Bo b85),isV (Bo b85),isV (undef),isV (undef),isV (undef),isV (undef),isV (Bo b94),isV (Bo b94),isV (Bo x45.2),isV (Bo x45.2),isV (undef),isV (undef)] [box g58 29 #[r56_0,I x45.1.bound],oF 62 rTerm r56_0 x45.1.terms,box g22 29 #[r20_0,I x9.bound],oF 62 rTerm r20_0 x9.terms] [] ([]) [([],[]),([],[]),([],[]),([],[]),([],[]),([],[]),([],[]),([],[]),([],[]),([],[]),([],[]),([],[]),([],[]),([],[]),([],[]),([],[]),([],[]),([],[]),([],[]),([],[]),([],[]),([],[])] (S:=[]) Tryd_mix (by kernel_rfl) rfl (by kernel_rfl) (amF_cons (mono_V _) (amF_cons (mono_V _) (amF_cons (mono_V _) (amF_cons (mono_V _) (amF_cons (mono_V _) (amF_cons (mono_V _) (amF_cons (mono_V _) (amF_cons (mono_V _) (amF_cons (mono_V _) (amF_cons (mono_V _) (amF_cons (mono_V _) (amF_cons (mono_V _) (amF_cons (mono_V _) (amF_cons (mono_V _) (amF_cons (mono_V _) (amF_cons (mono_V _) (amF_cons (mono_V _) (amF_cons (mono_V _) (amF_cons (mono_V _) (amF_cons (mono_V _) (amF_cons (mono_V _) (amF_cons (mono_V _) amF_nil)))))))))))))))))))))) Z ?_ (fun f w_ H106 hS106 hE106 hT106 Z=>?_)
 refine opsS_cons (fun f w_ _ _ s _ _ Z=>mF ((s 6 rfl).trans rfl) rfl (nO rfl rfl Z)) (opsS_cons (fun f w_ _ _ s _ _ Z=>L_lda (cs:=[r20_0,I x9.bound]) rfl Tryd.isAgg29 Tryd.sizeOf29 ((s 5 rfl).trans rfl) (At.sub0 (Blk.at (Star.blkAt 2 Z rfl)) 0 2) rfl (nO rfl rfl Z)) (opsS_cons ?_ ?_))
 intro f w_ H106 X106 hS106 hE106 hP106 Z
 obtain ⟨H157b,l158,s159,z160,k161⟩:=Z.borrow
 have hb162 : (rS 62 rTerm).rel H157b [r20_0] x9.terms:=fz_own 3 z160 rfl
 refine L_call rfl Tryd.call9 (ops1 (hP106 1 32 rfl rfl)) (s_FormatConstraint_c (c:=x9) s159 hb162 hx67) ?_
 rintro _ w163 ⟨rfl,Z⟩
 have Z:=k161 Z c0
 exact L_nil ⟨rfl,_,_,rfl,Le.refl _,fun _ _=>rfl,Z⟩
 refine opsS_cons (fun f w_ _ _ _ _ p Z=>L_sneq (s:=x31) (s':=x67) rfl (p 0 31 rfl rfl) (p 2 33 rfl rfl) (nO rfl rfl Z)) (opsS_cons (fun f w_ _ _ _ _ p Z=>mF (p 3 34 rfl rfl) rfl (nO rfl rfl Z)) (oP (fun _ _ p=>gN (p 4 35 rfl rfl) hc110 rfl) (fun _=>rfl) (oP (fun _ _ p=>gN (p 4 35 rfl rfl) hc110 rfl) (fun _=>rfl) (oP (fun _ _ p=>gN (p 4 35 rfl rfl) hc110 rfl) (fun _=>rfl) (oP (fun _ _ p=>gN (p 4 35 rfl rfl) hc110 rfl) (fun _=>rfl) (oP (fun _ _ p=>gN (p 4 35 rfl rfl) hc110 rfl) (fun _=>rfl) (opsS_cons (fun f w_ _ _ _ _ p Z=>pkT (v:=Bo b85) (p 4 35 rfl rfl) hc110 rfl (congrArg Value.bool (so hb85)) (nO rfl rfl Z)) (opsS_cons (fun f w_ _ _ _ _ p Z=>mF (p 10 41 rfl rfl) rfl (nO rfl rfl Z)) (oP (fun _ _ p=>gN (p 11 42 rfl rfl) hc111 rfl) (fun _=>rfl) (oP (fun _ _ p=>gN (p 11 42 rfl rfl) hc111 rfl) (fun _=>rfl) (oP (fun _ _ p=>gN (p 11 42 rfl rfl) hc111 rfl) (fun _=>rfl) (oP (fun _ _ p=>gN (p 11 42 rfl rfl) hc111 rfl) (fun _=>rfl) (opsS_cons (fun f w_ _ _ _ _ p Z=>pkT (v:=Bo b94) (p 11 42 rfl rfl) hc111 rfl (congrArg Value.bool (so hb94)) (nO rfl rfl Z)) (opsS_cons (fun f w_ _ _ _ _ p Z=>mF (p 16 47 rfl rfl) rfl (nO rfl rfl Z)) (opsS_cons (fun f w_ _ _ s _ p Z=>L_mv (v:=Bo x45.2) (g_yes rfl (Eq.trans (p 17 48 rfl rfl) (congrArg Value.bool hc112)) rfl) ((s 8 rfl).trans rfl) (nO rfl rfl Z)) (opsS_cons (fun f w_ _ _ _ _ p Z=>L_mv (v:=Bo x45.2) (g_yes rfl (Eq.trans (p 17 48 rfl rfl) (congrArg Value.bool hc112)) rfl) (p 18 49 rfl rfl) (nO rfl rfl Z)) (oP (fun _ _ p=>gN (p 19 50 rfl rfl) hc127 rfl) (fun _=>rfl) (oP (fun _ _ p=>gN (p 19 50 rfl rfl) hc127 rfl) (fun _=>rfl) (opsS_nil)))))))))))))))))))
 refine ps (g_no rfl (Eq.trans (hT106 19 50 rfl rfl) (congrArg Value.bool hc127)) rfl rfl) (ps (g_no rfl (Eq.trans (hT106 19 50 rfl rfl) (congrArg Value.bool hc127)) rfl rfl) (L_pick (v:=Bo b104) (g_yes rfl (Eq.trans (hT106 17 48 rfl rfl) (congrArg Value.bool hc112)) rfl) (Eq.trans (hT106 19 50 rfl rfl) (congrArg Value.bool hc127)) (congrArg Value.bool (so hb104)) (L_pick (v:=Bo b105) rfl (Eq.trans (hT106 17 48 rfl rfl) (congrArg Value.bool hc112)) (congrArg Value.bool (so hb105)) (nn (rj hR109 ⟨H106,hE106,((hS106 1 rfl).trans sf1),rfl,(Star.keepN 0 Z)⟩)))))
 rw [ite_f hc111] at hb94
 obtain ⟨x92,hx92,hb94⟩:=bind_some hb94
 rcases Bool.eq_false_or_eq_true b94 with hc164 | hc164
 rw [ite_t hc164] at hb105
 refine W_drawS 22 [isV (.string x31),isV (.agg #[r20_0,I x9.bound]),isV (.string x67),isV (Bo (!(ByteArray.toList x31 == ByteArray.toList x67))),isV (Bo (!(ByteArray.toList x31 == ByteArray.toList x67))),isV (undef),isV (undef),isV (undef),isV (undef),isV (undef),isV (Bo b85),isV (Bo b85),isV (Bo x45.2),isV (.agg #[r20_0,I x9.bound]),isV (Bo x92),isV (Bo (x45.2 != x92)),isV (Bo b94),isV (Bo b94),isV (undef),isV (undef),isV (undef),isV (undef)] [box g58 29 #[r56_0,I x45.1.bound],oF 62 rTerm r56_0 x45.1.terms,box g22 29 #[r20_0,I x9.bound],oF 62 rTerm r20_0 x9.terms] [] ([]) [([],[]),([],[]),([],[]),([],[]),([],[]),([],[]),([],[]),([],[]),([],[]),([],[]),([],[]),([],[]),([],[]),([],[]),([],[]),([],[]),([],[]),([],[]),([],[]),([],[]),([],[]),([],[])] (S:=[]) Tryd_mix (by kernel_rfl) rfl (by kernel_rfl) (amF_cons (mono_V _) (amF_cons (mono_V _) (amF_cons (mono_V _) (amF_cons (mono_V _) (amF_cons (mono_V _) (amF_cons (mono_V _) (amF_cons (mono_V _) (amF_cons (mono_V _) (amF_cons (mono_V _) (amF_cons (mono_V _) (amF_cons (mono_V _) (amF_cons (mono_V _) (amF_cons (mono_V _) (amF_cons (mono_V _) (amF_cons (mono_V _) (amF_cons (mono_V _) (amF_cons (mono_V _) (amF_cons (mono_V _) (amF_cons (mono_V _) (amF_cons (mono_V _) (amF_cons (mono_V _) (amF_cons (mono_V _) amF_nil)))))))))))))))))))))) Z ?_ (fun f w_ H106 hS106 hE106 hT106 Z=>?_)
 refine opsS_cons (fun f w_ _ _ s _ _ Z=>mF ((s 6 rfl).trans rfl) rfl (nO rfl rfl Z)) (opsS_cons (fun f w_ _ _ s _ _ Z=>L_lda (cs:=[r20_0,I x9.bound]) rfl Tryd.isAgg29 Tryd.sizeOf29 ((s 5 rfl).trans rfl) (At.sub0 (Blk.at (Star.blkAt 2 Z rfl)) 0 2) rfl (nO rfl rfl Z)) (opsS_cons ?_ ?_))
 intro f w_ H106 X106 hS106 hE106 hP106 Z
 obtain ⟨H179b,l180,s181,z182,k183⟩:=Z.borrow
 have hb184 : (rS 62 rTerm).rel H179b [r20_0] x9.terms:=fz_own 3 z182 rfl
 refine L_call rfl Tryd.call9 (ops1 (hP106 1 32 rfl rfl)) (s_FormatConstraint_c (c:=x9) s181 hb184 hx67) ?_
 rintro _ w185 ⟨rfl,Z⟩
 have Z:=k183 Z c0
 exact L_nil ⟨rfl,_,_,rfl,Le.refl _,fun _ _=>rfl,Z⟩
 refine opsS_cons (fun f w_ _ _ _ _ p Z=>L_sneq (s:=x31) (s':=x67) rfl (p 0 31 rfl rfl) (p 2 33 rfl rfl) (nO rfl rfl Z)) (opsS_cons (fun f w_ _ _ _ _ p Z=>mF (p 3 34 rfl rfl) rfl (nO rfl rfl Z)) (oP (fun _ _ p=>gN (p 4 35 rfl rfl) hc110 rfl) (fun _=>rfl) (oP (fun _ _ p=>gN (p 4 35 rfl rfl) hc110 rfl) (fun _=>rfl) (oP (fun _ _ p=>gN (p 4 35 rfl rfl) hc110 rfl) (fun _=>rfl) (oP (fun _ _ p=>gN (p 4 35 rfl rfl) hc110 rfl) (fun _=>rfl) (oP (fun _ _ p=>gN (p 4 35 rfl rfl) hc110 rfl) (fun _=>rfl) (opsS_cons (fun f w_ _ _ _ _ p Z=>pkT (v:=Bo b85) (p 4 35 rfl rfl) hc110 rfl (congrArg Value.bool (so hb85)) (nO rfl rfl Z)) (opsS_cons (fun f w_ _ _ _ _ p Z=>mF (p 10 41 rfl rfl) rfl (nO rfl rfl Z)) (opsS_cons (fun f w_ _ _ s _ p Z=>L_mv (v:=Bo x45.2) (g_yes rfl (Eq.trans (p 11 42 rfl rfl) (congrArg Value.bool hc111)) rfl) ((s 8 rfl).trans rfl) (nO rfl rfl Z)) (opsS_cons (fun f w_ _ _ s _ p Z=>L_lda (cs:=[r20_0,I x9.bound]) (g_yes rfl (Eq.trans (p 11 42 rfl rfl) (congrArg Value.bool hc111)) rfl) Tryd.isAgg29 Tryd.sizeOf29 ((s 5 rfl).trans rfl) (At.sub0 (Blk.at (Star.blkAt 2 Z rfl)) 0 2) rfl (nO rfl rfl Z)) (opsS_cons ?_ ?_)))))))))))
 intro f w_ H106 X106 hS106 hE106 hP106 Z
 obtain ⟨H186b,l187,s188,z189,k190⟩:=Z.borrow
 have hb191 : (rS 62 rTerm).rel H186b [r20_0] x9.terms:=fz_own 3 z189 rfl
 refine L_call (g_yes rfl (Eq.trans (hP106 11 42 rfl rfl) (congrArg Value.bool hc111)) rfl) Tryd.call19 (ops1 (hP106 13 44 rfl rfl)) (s_ConstraintValid_c (c:=x9) s188 hb191 hx92) ?_
 rintro _ w192 ⟨rfl,Z⟩
 have Z:=k190 Z c0
 exact L_nil ⟨rfl,_,_,rfl,Le.refl _,fun _ _=>rfl,Z⟩
 refine opsS_cons (fun f w_ _ _ _ _ p Z=>L_bneq (b:=x45.2) (c:=x92) (g_yes rfl (Eq.trans (p 11 42 rfl rfl) (congrArg Value.bool hc111)) rfl) Tryd.underlying4 (p 12 43 rfl rfl) (p 14 45 rfl rfl) (nO rfl rfl Z)) (opsS_cons (fun f w_ _ _ _ _ p Z=>pkT (v:=Bo b94) (p 11 42 rfl rfl) hc111 rfl (Eq.trans (p 15 46 rfl rfl) (congrArg Value.bool (so hb94))) (nO rfl rfl Z)) (opsS_cons (fun f w_ _ _ _ _ p Z=>mF (p 16 47 rfl rfl) rfl (nO rfl rfl Z)) (oP (fun _ _ p=>gN (p 17 48 rfl rfl) hc164 rfl) (fun _=>rfl) (oP (fun _ _ p=>gN (p 17 48 rfl rfl) hc164 rfl) (fun _=>rfl) (oP (fun _ _ p=>g_undef rfl (p 19 50 rfl rfl) rfl) (fun _=>rfl) (oP (fun _ _ p=>g_undef rfl (p 19 50 rfl rfl) rfl) (fun _=>rfl) (opsS_nil)))))))
 refine ps (g_undef rfl (hT106 19 50 rfl rfl) rfl) (ps (g_undef rfl (hT106 19 50 rfl rfl) rfl) (ps (g_no rfl (Eq.trans (hT106 17 48 rfl rfl) (congrArg Value.bool hc164)) rfl rfl) (L_pick (v:=Bo b105) rfl (Eq.trans (hT106 17 48 rfl rfl) (congrArg Value.bool hc164)) (congrArg Value.bool (so hb105)) (nn (rj hR109 ⟨H106,hE106,((hS106 1 rfl).trans sf1),rfl,(Star.keepN 0 Z)⟩)))))
 rw [ite_f hc164] at hb105
 obtain ⟨b104,hb104,hb105⟩:=bind_some hb105
 rcases Bool.eq_false_or_eq_true x45.2 with hc193 | hc193
 rw [ite_t hc193] at hb104
 obtain ⟨x102,hx102,hb104⟩:=bind_some hb104
 refine W_drawS 22 [isV (.string x31),isV (.agg #[r20_0,I x9.bound]),isV (.string x67),isV (Bo (!(ByteArray.toList x31 == ByteArray.toList x67))),isV (Bo (!(ByteArray.toList x31 == ByteArray.toList x67))),isV (undef),isV (undef),isV (undef),isV (undef),isV (undef),isV (Bo b85),isV (Bo b85),isV (Bo x45.2),isV (.agg #[r20_0,I x9.bound]),isV (Bo x92),isV (Bo (x45.2 != x92)),isV (Bo b94),isV (Bo b94),isV (Bo x45.2),isV (Bo x45.2),isV (.agg #[r56_0,I x45.1.bound]),isV (.agg #[r20_0,I x9.bound])] [box g58 29 #[r56_0,I x45.1.bound],oF 62 rTerm r56_0 x45.1.terms,box g22 29 #[r20_0,I x9.bound],oF 62 rTerm r20_0 x9.terms] [] ([]) [([],[]),([],[]),([],[]),([],[]),([],[]),([],[]),([],[]),([],[]),([],[]),([],[]),([],[]),([],[]),([],[]),([],[]),([],[]),([],[]),([],[]),([],[]),([],[]),([],[]),([],[]),([],[])] (S:=[]) Tryd_mix (by kernel_rfl) rfl (by kernel_rfl) (amF_cons (mono_V _) (amF_cons (mono_V _) (amF_cons (mono_V _) (amF_cons (mono_V _) (amF_cons (mono_V _) (amF_cons (mono_V _) (amF_cons (mono_V _) (amF_cons (mono_V _) (amF_cons (mono_V _) (amF_cons (mono_V _) (amF_cons (mono_V _) (amF_cons (mono_V _) (amF_cons (mono_V _) (amF_cons (mono_V _) (amF_cons (mono_V _) (amF_cons (mono_V _) (amF_cons (mono_V _) (amF_cons (mono_V _) (amF_cons (mono_V _) (amF_cons (mono_V _) (amF_cons (mono_V _) (amF_cons (mono_V _) amF_nil)))))))))))))))))))))) Z ?_ (fun f w_ H106 hS106 hE106 hT106 Z=>?_)
 refine opsS_cons (fun f w_ _ _ s _ _ Z=>mF ((s 6 rfl).trans rfl) rfl (nO rfl rfl Z)) (opsS_cons (fun f w_ _ _ s _ _ Z=>L_lda (cs:=[r20_0,I x9.bound]) rfl Tryd.isAgg29 Tryd.sizeOf29 ((s 5 rfl).trans rfl) (At.sub0 (Blk.at (Star.blkAt 2 Z rfl)) 0 2) rfl (nO rfl rfl Z)) (opsS_cons ?_ ?_))
 intro f w_ H106 X106 hS106 hE106 hP106 Z
 obtain ⟨H208b,l209,s210,z211,k212⟩:=Z.borrow
 have hb213 : (rS 62 rTerm).rel H208b [r20_0] x9.terms:=fz_own 3 z211 rfl
 refine L_call rfl Tryd.call9 (ops1 (hP106 1 32 rfl rfl)) (s_FormatConstraint_c (c:=x9) s210 hb213 hx67) ?_
 rintro _ w214 ⟨rfl,Z⟩
 have Z:=k212 Z c0
 exact L_nil ⟨rfl,_,_,rfl,Le.refl _,fun _ _=>rfl,Z⟩
 refine opsS_cons (fun f w_ _ _ _ _ p Z=>L_sneq (s:=x31) (s':=x67) rfl (p 0 31 rfl rfl) (p 2 33 rfl rfl) (nO rfl rfl Z)) (opsS_cons (fun f w_ _ _ _ _ p Z=>mF (p 3 34 rfl rfl) rfl (nO rfl rfl Z)) (oP (fun _ _ p=>gN (p 4 35 rfl rfl) hc110 rfl) (fun _=>rfl) (oP (fun _ _ p=>gN (p 4 35 rfl rfl) hc110 rfl) (fun _=>rfl) (oP (fun _ _ p=>gN (p 4 35 rfl rfl) hc110 rfl) (fun _=>rfl) (oP (fun _ _ p=>gN (p 4 35 rfl rfl) hc110 rfl) (fun _=>rfl) (oP (fun _ _ p=>gN (p 4 35 rfl rfl) hc110 rfl) (fun _=>rfl) (opsS_cons (fun f w_ _ _ _ _ p Z=>pkT (v:=Bo b85) (p 4 35 rfl rfl) hc110 rfl (congrArg Value.bool (so hb85)) (nO rfl rfl Z)) (opsS_cons (fun f w_ _ _ _ _ p Z=>mF (p 10 41 rfl rfl) rfl (nO rfl rfl Z)) (opsS_cons (fun f w_ _ _ s _ p Z=>L_mv (v:=Bo x45.2) (g_yes rfl (Eq.trans (p 11 42 rfl rfl) (congrArg Value.bool hc111)) rfl) ((s 8 rfl).trans rfl) (nO rfl rfl Z)) (opsS_cons (fun f w_ _ _ s _ p Z=>L_lda (cs:=[r20_0,I x9.bound]) (g_yes rfl (Eq.trans (p 11 42 rfl rfl) (congrArg Value.bool hc111)) rfl) Tryd.isAgg29 Tryd.sizeOf29 ((s 5 rfl).trans rfl) (At.sub0 (Blk.at (Star.blkAt 2 Z rfl)) 0 2) rfl (nO rfl rfl Z)) (opsS_cons ?_ ?_)))))))))))
 intro f w_ H106 X106 hS106 hE106 hP106 Z
 obtain ⟨H215b,l216,s217,z218,k219⟩:=Z.borrow
 have hb220 : (rS 62 rTerm).rel H215b [r20_0] x9.terms:=fz_own 3 z218 rfl
 refine L_call (g_yes rfl (Eq.trans (hP106 11 42 rfl rfl) (congrArg Value.bool hc111)) rfl) Tryd.call19 (ops1 (hP106 13 44 rfl rfl)) (s_ConstraintValid_c (c:=x9) s217 hb220 hx92) ?_
 rintro _ w221 ⟨rfl,Z⟩
 have Z:=k219 Z c0
 exact L_nil ⟨rfl,_,_,rfl,Le.refl _,fun _ _=>rfl,Z⟩
 refine opsS_cons (fun f w_ _ _ _ _ p Z=>L_bneq (b:=x45.2) (c:=x92) (g_yes rfl (Eq.trans (p 11 42 rfl rfl) (congrArg Value.bool hc111)) rfl) Tryd.underlying4 (p 12 43 rfl rfl) (p 14 45 rfl rfl) (nO rfl rfl Z)) (opsS_cons (fun f w_ _ _ _ _ p Z=>pkT (v:=Bo b94) (p 11 42 rfl rfl) hc111 rfl (Eq.trans (p 15 46 rfl rfl) (congrArg Value.bool (so hb94))) (nO rfl rfl Z)) (opsS_cons (fun f w_ _ _ _ _ p Z=>mF (p 16 47 rfl rfl) rfl (nO rfl rfl Z)) (opsS_cons (fun f w_ _ _ s _ p Z=>L_mv (v:=Bo x45.2) (g_yes rfl (Eq.trans (p 17 48 rfl rfl) (congrArg Value.bool hc164)) rfl) ((s 8 rfl).trans rfl) (nO rfl rfl Z)) (opsS_cons (fun f w_ _ _ _ _ p Z=>L_mv (v:=Bo x45.2) (g_yes rfl (Eq.trans (p 17 48 rfl rfl) (congrArg Value.bool hc164)) rfl) (p 18 49 rfl rfl) (nO rfl rfl Z)) (opsS_cons (fun f w_ _ _ s _ p Z=>L_lda (cs:=[r56_0,I x45.1.bound]) (g_yes rfl (Eq.trans (p 19 50 rfl rfl) (congrArg Value.bool hc193)) rfl) Tryd.isAgg29 Tryd.sizeOf29 ((s 7 rfl).trans rfl) (At.sub0 (Blk.at (Star.blkAt 0 Z rfl)) 0 2) rfl (nO rfl rfl Z)) (opsS_cons (fun f w_ _ _ s _ p Z=>L_lda (cs:=[r20_0,I x9.bound]) (g_yes rfl (Eq.trans (p 19 50 rfl rfl) (congrArg Value.bool hc193)) rfl) Tryd.isAgg29 Tryd.sizeOf29 ((s 5 rfl).trans rfl) (At.sub0 (Blk.at (Star.blkAt 2 Z rfl)) 0 2) rfl (nO rfl rfl Z)) (opsS_nil)))))))
 obtain ⟨H222b,l223,s224,z225,k226⟩:=Z.borrow
 have hb227 : (rS 62 rTerm).rel H222b [r56_0] x45.1.terms:=fz_own 1 z225 rfl
 have hb228 : (rS 62 rTerm).rel H222b [r20_0] x9.terms:=fz_own 3 z225 rfl
 refine L_call (g_yes rfl (Eq.trans (hT106 19 50 rfl rfl) (congrArg Value.bool hc193)) rfl) Tryd.call20 (ops2 (hT106 20 51 rfl rfl) (hT106 21 52 rfl rfl)) (i_ConstraintSame_c (a:=x45.1) (b:=x9) s224 hb227 hb228 hx102) ?_
 rintro _ w229 ⟨rfl,Z⟩
 have Z:=k226 Z c0
 refine L_not_ (g_yes rfl (Eq.trans (hT106 19 50 rfl rfl) (congrArg Value.bool hc193)) rfl) rfl (L_pick (v:=Bo b104) (g_yes rfl (Eq.trans (hT106 17 48 rfl rfl) (congrArg Value.bool hc164)) rfl) (Eq.trans (hT106 19 50 rfl rfl) (congrArg Value.bool hc193)) (congrArg Value.bool (so hb104)) (L_pick (v:=Bo b105) rfl (Eq.trans (hT106 17 48 rfl rfl) (congrArg Value.bool hc164)) (congrArg Value.bool (so hb105)) (nn (rj hR109 ⟨H106,hE106,((hS106 1 rfl).trans sf1),rfl,(Star.keepN 0 Z)⟩))))
 rw [ite_f hc193] at hb104
 refine W_drawS 22 [isV (.string x31),isV (.agg #[r20_0,I x9.bound]),isV (.string x67),isV (Bo (!(ByteArray.toList x31 == ByteArray.toList x67))),isV (Bo (!(ByteArray.toList x31 == ByteArray.toList x67))),isV (undef),isV (undef),isV (undef),isV (undef),isV (undef),isV (Bo b85),isV (Bo b85),isV (Bo x45.2),isV (.agg #[r20_0,I x9.bound]),isV (Bo x92),isV (Bo (x45.2 != x92)),isV (Bo b94),isV (Bo b94),isV (Bo x45.2),isV (Bo x45.2),isV (undef),isV (undef)] [box g58 29 #[r56_0,I x45.1.bound],oF 62 rTerm r56_0 x45.1.terms,box g22 29 #[r20_0,I x9.bound],oF 62 rTerm r20_0 x9.terms] [] ([]) [([],[]),([],[]),([],[]),([],[]),([],[]),([],[]),([],[]),([],[]),([],[]),([],[]),([],[]),([],[]),([],[]),([],[]),([],[]),([],[]),([],[]),([],[]),([],[]),([],[]),([],[]),([],[])] (S:=[]) Tryd_mix (by kernel_rfl) rfl (by kernel_rfl) (amF_cons (mono_V _) (amF_cons (mono_V _) (amF_cons (mono_V _) (amF_cons (mono_V _) (amF_cons (mono_V _) (amF_cons (mono_V _) (amF_cons (mono_V _) (amF_cons (mono_V _) (amF_cons (mono_V _) (amF_cons (mono_V _) (amF_cons (mono_V _) (amF_cons (mono_V _) (amF_cons (mono_V _) (amF_cons (mono_V _) (amF_cons (mono_V _) (amF_cons (mono_V _) (amF_cons (mono_V _) (amF_cons (mono_V _) (amF_cons (mono_V _) (amF_cons (mono_V _) (amF_cons (mono_V _) (amF_cons (mono_V _) amF_nil)))))))))))))))))))))) Z ?_ (fun f w_ H106 hS106 hE106 hT106 Z=>?_)
 refine opsS_cons (fun f w_ _ _ s _ _ Z=>mF ((s 6 rfl).trans rfl) rfl (nO rfl rfl Z)) (opsS_cons (fun f w_ _ _ s _ _ Z=>L_lda (cs:=[r20_0,I x9.bound]) rfl Tryd.isAgg29 Tryd.sizeOf29 ((s 5 rfl).trans rfl) (At.sub0 (Blk.at (Star.blkAt 2 Z rfl)) 0 2) rfl (nO rfl rfl Z)) (opsS_cons ?_ ?_))
 intro f w_ H106 X106 hS106 hE106 hP106 Z
 obtain ⟨H244b,l245,s246,z247,k248⟩:=Z.borrow
 have hb249 : (rS 62 rTerm).rel H244b [r20_0] x9.terms:=fz_own 3 z247 rfl
 refine L_call rfl Tryd.call9 (ops1 (hP106 1 32 rfl rfl)) (s_FormatConstraint_c (c:=x9) s246 hb249 hx67) ?_
 rintro _ w250 ⟨rfl,Z⟩
 have Z:=k248 Z c0
 exact L_nil ⟨rfl,_,_,rfl,Le.refl _,fun _ _=>rfl,Z⟩
 refine opsS_cons (fun f w_ _ _ _ _ p Z=>L_sneq (s:=x31) (s':=x67) rfl (p 0 31 rfl rfl) (p 2 33 rfl rfl) (nO rfl rfl Z)) (opsS_cons (fun f w_ _ _ _ _ p Z=>mF (p 3 34 rfl rfl) rfl (nO rfl rfl Z)) (oP (fun _ _ p=>gN (p 4 35 rfl rfl) hc110 rfl) (fun _=>rfl) (oP (fun _ _ p=>gN (p 4 35 rfl rfl) hc110 rfl) (fun _=>rfl) (oP (fun _ _ p=>gN (p 4 35 rfl rfl) hc110 rfl) (fun _=>rfl) (oP (fun _ _ p=>gN (p 4 35 rfl rfl) hc110 rfl) (fun _=>rfl) (oP (fun _ _ p=>gN (p 4 35 rfl rfl) hc110 rfl) (fun _=>rfl) (opsS_cons (fun f w_ _ _ _ _ p Z=>pkT (v:=Bo b85) (p 4 35 rfl rfl) hc110 rfl (congrArg Value.bool (so hb85)) (nO rfl rfl Z)) (opsS_cons (fun f w_ _ _ _ _ p Z=>mF (p 10 41 rfl rfl) rfl (nO rfl rfl Z)) (opsS_cons (fun f w_ _ _ s _ p Z=>L_mv (v:=Bo x45.2) (g_yes rfl (Eq.trans (p 11 42 rfl rfl) (congrArg Value.bool hc111)) rfl) ((s 8 rfl).trans rfl) (nO rfl rfl Z)) (opsS_cons (fun f w_ _ _ s _ p Z=>L_lda (cs:=[r20_0,I x9.bound]) (g_yes rfl (Eq.trans (p 11 42 rfl rfl) (congrArg Value.bool hc111)) rfl) Tryd.isAgg29 Tryd.sizeOf29 ((s 5 rfl).trans rfl) (At.sub0 (Blk.at (Star.blkAt 2 Z rfl)) 0 2) rfl (nO rfl rfl Z)) (opsS_cons ?_ ?_)))))))))))
 intro f w_ H106 X106 hS106 hE106 hP106 Z
 obtain ⟨H251b,l252,s253,z254,k255⟩:=Z.borrow
 have hb256 : (rS 62 rTerm).rel H251b [r20_0] x9.terms:=fz_own 3 z254 rfl
 refine L_call (g_yes rfl (Eq.trans (hP106 11 42 rfl rfl) (congrArg Value.bool hc111)) rfl) Tryd.call19 (ops1 (hP106 13 44 rfl rfl)) (s_ConstraintValid_c (c:=x9) s253 hb256 hx92) ?_
 rintro _ w257 ⟨rfl,Z⟩
 have Z:=k255 Z c0
 exact L_nil ⟨rfl,_,_,rfl,Le.refl _,fun _ _=>rfl,Z⟩
 refine opsS_cons (fun f w_ _ _ _ _ p Z=>L_bneq (b:=x45.2) (c:=x92) (g_yes rfl (Eq.trans (p 11 42 rfl rfl) (congrArg Value.bool hc111)) rfl) Tryd.underlying4 (p 12 43 rfl rfl) (p 14 45 rfl rfl) (nO rfl rfl Z)) (opsS_cons (fun f w_ _ _ _ _ p Z=>pkT (v:=Bo b94) (p 11 42 rfl rfl) hc111 rfl (Eq.trans (p 15 46 rfl rfl) (congrArg Value.bool (so hb94))) (nO rfl rfl Z)) (opsS_cons (fun f w_ _ _ _ _ p Z=>mF (p 16 47 rfl rfl) rfl (nO rfl rfl Z)) (opsS_cons (fun f w_ _ _ s _ p Z=>L_mv (v:=Bo x45.2) (g_yes rfl (Eq.trans (p 17 48 rfl rfl) (congrArg Value.bool hc164)) rfl) ((s 8 rfl).trans rfl) (nO rfl rfl Z)) (opsS_cons (fun f w_ _ _ _ _ p Z=>L_mv (v:=Bo x45.2) (g_yes rfl (Eq.trans (p 17 48 rfl rfl) (congrArg Value.bool hc164)) rfl) (p 18 49 rfl rfl) (nO rfl rfl Z)) (oP (fun _ _ p=>gN (p 19 50 rfl rfl) hc193 rfl) (fun _=>rfl) (oP (fun _ _ p=>gN (p 19 50 rfl rfl) hc193 rfl) (fun _=>rfl) (opsS_nil)))))))
 refine ps (g_no rfl (Eq.trans (hT106 19 50 rfl rfl) (congrArg Value.bool hc193)) rfl rfl) (ps (g_no rfl (Eq.trans (hT106 19 50 rfl rfl) (congrArg Value.bool hc193)) rfl rfl) (L_pick (v:=Bo b104) (g_yes rfl (Eq.trans (hT106 17 48 rfl rfl) (congrArg Value.bool hc164)) rfl) (Eq.trans (hT106 19 50 rfl rfl) (congrArg Value.bool hc193)) (congrArg Value.bool (so hb104)) (L_pick (v:=Bo b105) rfl (Eq.trans (hT106 17 48 rfl rfl) (congrArg Value.bool hc164)) (congrArg Value.bool (so hb105)) (nn (rj hR109 ⟨H106,hE106,((hS106 1 rfl).trans sf1),rfl,(Star.keepN 0 Z)⟩)))))
 rw [ite_f hc110] at hb85
 obtain ⟨x75,hx75,hb85⟩:=bind_some hb85
 obtain ⟨x83,hx83,hb85⟩:=bind_some hb85
 rcases Bool.eq_false_or_eq_true b85 with hc258 | hc258
 rw [ite_t hc258] at hb94
 rcases Bool.eq_false_or_eq_true b94 with hc259 | hc259
 rw [ite_t hc259] at hb105
 refine W_drawS 22 [isV (.string x31),isV (.agg #[r20_0,I x9.bound]),isV (.string x67),isV (Bo (!(ByteArray.toList x31 == ByteArray.toList x67))),isV (Bo (!(ByteArray.toList x31 == ByteArray.toList x67))),isV (.agg #[r20_0,I x9.bound]),isV (Bo x75),isV (.agg #[r20_0,I x9.bound]),isV (Bo x83),isV (Bo (x75 != x83)),isV (Bo b85),isV (Bo b85),isV (undef),isV (undef),isV (undef),isV (undef),isV (Bo b94),isV (Bo b94),isV (undef),isV (undef),isV (undef),isV (undef)] [box g58 29 #[r56_0,I x45.1.bound],oF 62 rTerm r56_0 x45.1.terms,box g22 29 #[r20_0,I x9.bound],oF 62 rTerm r20_0 x9.terms] [] ([]) [([],[]),([],[]),([],[]),([],[]),([],[]),([],[]),([],[]),([],[]),([],[]),([],[]),([],[]),([],[]),([],[]),([],[]),([],[]),([],[]),([],[]),([],[]),([],[]),([],[]),([],[]),([],[])] (S:=[]) Tryd_mix (by kernel_rfl) rfl (by kernel_rfl) (amF_cons (mono_V _) (amF_cons (mono_V _) (amF_cons (mono_V _) (amF_cons (mono_V _) (amF_cons (mono_V _) (amF_cons (mono_V _) (amF_cons (mono_V _) (amF_cons (mono_V _) (amF_cons (mono_V _) (amF_cons (mono_V _) (amF_cons (mono_V _) (amF_cons (mono_V _) (amF_cons (mono_V _) (amF_cons (mono_V _) (amF_cons (mono_V _) (amF_cons (mono_V _) (amF_cons (mono_V _) (amF_cons (mono_V _) (amF_cons (mono_V _) (amF_cons (mono_V _) (amF_cons (mono_V _) (amF_cons (mono_V _) amF_nil)))))))))))))))))))))) Z ?_ (fun f w_ H106 hS106 hE106 hT106 Z=>?_)
 refine opsS_cons (fun f w_ _ _ s _ _ Z=>mF ((s 6 rfl).trans rfl) rfl (nO rfl rfl Z)) (opsS_cons (fun f w_ _ _ s _ _ Z=>L_lda (cs:=[r20_0,I x9.bound]) rfl Tryd.isAgg29 Tryd.sizeOf29 ((s 5 rfl).trans rfl) (At.sub0 (Blk.at (Star.blkAt 2 Z rfl)) 0 2) rfl (nO rfl rfl Z)) (opsS_cons ?_ ?_))
 intro f w_ H106 X106 hS106 hE106 hP106 Z
 obtain ⟨H281b,l282,s283,z284,k285⟩:=Z.borrow
 have hb286 : (rS 62 rTerm).rel H281b [r20_0] x9.terms:=fz_own 3 z284 rfl
 refine L_call rfl Tryd.call9 (ops1 (hP106 1 32 rfl rfl)) (s_FormatConstraint_c (c:=x9) s283 hb286 hx67) ?_
 rintro _ w287 ⟨rfl,Z⟩
 have Z:=k285 Z c0
 exact L_nil ⟨rfl,_,_,rfl,Le.refl _,fun _ _=>rfl,Z⟩
 refine opsS_cons (fun f w_ _ _ _ _ p Z=>L_sneq (s:=x31) (s':=x67) rfl (p 0 31 rfl rfl) (p 2 33 rfl rfl) (nO rfl rfl Z)) (opsS_cons (fun f w_ _ _ _ _ p Z=>mF (p 3 34 rfl rfl) rfl (nO rfl rfl Z)) (opsS_cons (fun f w_ _ _ s _ p Z=>L_lda (cs:=[r20_0,I x9.bound]) (g_yes rfl (Eq.trans (p 4 35 rfl rfl) (congrArg Value.bool hc110)) rfl) Tryd.isAgg29 Tryd.sizeOf29 ((s 5 rfl).trans rfl) (At.sub0 (Blk.at (Star.blkAt 2 Z rfl)) 0 2) rfl (nO rfl rfl Z)) (opsS_cons ?_ ?_)))
 intro f w_ H106 X106 hS106 hE106 hP106 Z
 obtain ⟨H288b,l289,s290,z291,k292⟩:=Z.borrow
 have hb293 : (rS 62 rTerm).rel H288b [r20_0] x9.terms:=fz_own 3 z291 rfl
 refine L_call (g_yes rfl (Eq.trans (hP106 4 35 rfl rfl) (congrArg Value.bool hc110)) rfl) Tryd.call18 (ops1 (hP106 5 36 rfl rfl)) (i_ConstraintValid_c (c:=x9) s290 hb293 hx75) ?_
 rintro _ w294 ⟨rfl,Z⟩
 have Z:=k292 Z c0
 exact L_nil ⟨rfl,_,_,rfl,Le.refl _,fun _ _=>rfl,Z⟩
 refine opsS_cons (fun f w_ _ _ s _ p Z=>L_lda (cs:=[r20_0,I x9.bound]) (g_yes rfl (Eq.trans (p 4 35 rfl rfl) (congrArg Value.bool hc110)) rfl) Tryd.isAgg29 Tryd.sizeOf29 ((s 5 rfl).trans rfl) (At.sub0 (Blk.at (Star.blkAt 2 Z rfl)) 0 2) rfl (nO rfl rfl Z)) (opsS_cons ?_ ?_)
 intro f w_ H106 X106 hS106 hE106 hP106 Z
 obtain ⟨H295b,l296,s297,z298,k299⟩:=Z.borrow
 have hb300 : (rS 62 rTerm).rel H295b [r20_0] x9.terms:=fz_own 3 z298 rfl
 refine L_call (g_yes rfl (Eq.trans (hP106 4 35 rfl rfl) (congrArg Value.bool hc110)) rfl) Tryd.call19 (ops1 (hP106 7 38 rfl rfl)) (s_ConstraintValid_c (c:=x9) s297 hb300 hx83) ?_
 rintro _ w301 ⟨rfl,Z⟩
 have Z:=k299 Z c0
 exact L_nil ⟨rfl,_,_,rfl,Le.refl _,fun _ _=>rfl,Z⟩
 refine opsS_cons (fun f w_ _ _ _ _ p Z=>L_bneq (b:=x75) (c:=x83) (g_yes rfl (Eq.trans (p 4 35 rfl rfl) (congrArg Value.bool hc110)) rfl) Tryd.underlying4 (p 6 37 rfl rfl) (p 8 39 rfl rfl) (nO rfl rfl Z)) (opsS_cons (fun f w_ _ _ _ _ p Z=>pkT (v:=Bo b85) (p 4 35 rfl rfl) hc110 rfl (Eq.trans (p 9 40 rfl rfl) (congrArg Value.bool (so hb85))) (nO rfl rfl Z)) (opsS_cons (fun f w_ _ _ _ _ p Z=>mF (p 10 41 rfl rfl) rfl (nO rfl rfl Z)) (oP (fun _ _ p=>gN (p 11 42 rfl rfl) hc258 rfl) (fun _=>rfl) (oP (fun _ _ p=>gN (p 11 42 rfl rfl) hc258 rfl) (fun _=>rfl) (oP (fun _ _ p=>gN (p 11 42 rfl rfl) hc258 rfl) (fun _=>rfl) (oP (fun _ _ p=>gN (p 11 42 rfl rfl) hc258 rfl) (fun _=>rfl) (opsS_cons (fun f w_ _ _ _ _ p Z=>pkT (v:=Bo b94) (p 11 42 rfl rfl) hc258 rfl (congrArg Value.bool (so hb94)) (nO rfl rfl Z)) (opsS_cons (fun f w_ _ _ _ _ p Z=>mF (p 16 47 rfl rfl) rfl (nO rfl rfl Z)) (oP (fun _ _ p=>gN (p 17 48 rfl rfl) hc259 rfl) (fun _=>rfl) (oP (fun _ _ p=>gN (p 17 48 rfl rfl) hc259 rfl) (fun _=>rfl) (oP (fun _ _ p=>g_undef rfl (p 19 50 rfl rfl) rfl) (fun _=>rfl) (oP (fun _ _ p=>g_undef rfl (p 19 50 rfl rfl) rfl) (fun _=>rfl) (opsS_nil)))))))))))))
 refine ps (g_undef rfl (hT106 19 50 rfl rfl) rfl) (ps (g_undef rfl (hT106 19 50 rfl rfl) rfl) (ps (g_no rfl (Eq.trans (hT106 17 48 rfl rfl) (congrArg Value.bool hc259)) rfl rfl) (L_pick (v:=Bo b105) rfl (Eq.trans (hT106 17 48 rfl rfl) (congrArg Value.bool hc259)) (congrArg Value.bool (so hb105)) (nn (rj hR109 ⟨H106,hE106,((hS106 1 rfl).trans sf1),rfl,(Star.keepN 0 Z)⟩)))))
 rw [ite_f hc259] at hb105
 obtain ⟨b104,hb104,hb105⟩:=bind_some hb105
 rcases Bool.eq_false_or_eq_true x45.2 with hc302 | hc302
 rw [ite_t hc302] at hb104
 obtain ⟨x102,hx102,hb104⟩:=bind_some hb104
 refine W_drawS 22 [isV (.string x31),isV (.agg #[r20_0,I x9.bound]),isV (.string x67),isV (Bo (!(ByteArray.toList x31 == ByteArray.toList x67))),isV (Bo (!(ByteArray.toList x31 == ByteArray.toList x67))),isV (.agg #[r20_0,I x9.bound]),isV (Bo x75),isV (.agg #[r20_0,I x9.bound]),isV (Bo x83),isV (Bo (x75 != x83)),isV (Bo b85),isV (Bo b85),isV (undef),isV (undef),isV (undef),isV (undef),isV (Bo b94),isV (Bo b94),isV (Bo x45.2),isV (Bo x45.2),isV (.agg #[r56_0,I x45.1.bound]),isV (.agg #[r20_0,I x9.bound])] [box g58 29 #[r56_0,I x45.1.bound],oF 62 rTerm r56_0 x45.1.terms,box g22 29 #[r20_0,I x9.bound],oF 62 rTerm r20_0 x9.terms] [] ([]) [([],[]),([],[]),([],[]),([],[]),([],[]),([],[]),([],[]),([],[]),([],[]),([],[]),([],[]),([],[]),([],[]),([],[]),([],[]),([],[]),([],[]),([],[]),([],[]),([],[]),([],[]),([],[])] (S:=[]) Tryd_mix (by kernel_rfl) rfl (by kernel_rfl) (amF_cons (mono_V _) (amF_cons (mono_V _) (amF_cons (mono_V _) (amF_cons (mono_V _) (amF_cons (mono_V _) (amF_cons (mono_V _) (amF_cons (mono_V _) (amF_cons (mono_V _) (amF_cons (mono_V _) (amF_cons (mono_V _) (amF_cons (mono_V _) (amF_cons (mono_V _) (amF_cons (mono_V _) (amF_cons (mono_V _) (amF_cons (mono_V _) (amF_cons (mono_V _) (amF_cons (mono_V _) (amF_cons (mono_V _) (amF_cons (mono_V _) (amF_cons (mono_V _) (amF_cons (mono_V _) (amF_cons (mono_V _) amF_nil)))))))))))))))))))))) Z ?_ (fun f w_ H106 hS106 hE106 hT106 Z=>?_)
 refine opsS_cons (fun f w_ _ _ s _ _ Z=>mF ((s 6 rfl).trans rfl) rfl (nO rfl rfl Z)) (opsS_cons (fun f w_ _ _ s _ _ Z=>L_lda (cs:=[r20_0,I x9.bound]) rfl Tryd.isAgg29 Tryd.sizeOf29 ((s 5 rfl).trans rfl) (At.sub0 (Blk.at (Star.blkAt 2 Z rfl)) 0 2) rfl (nO rfl rfl Z)) (opsS_cons ?_ ?_))
 intro f w_ H106 X106 hS106 hE106 hP106 Z
 obtain ⟨H324b,l325,s326,z327,k328⟩:=Z.borrow
 have hb329 : (rS 62 rTerm).rel H324b [r20_0] x9.terms:=fz_own 3 z327 rfl
 refine L_call rfl Tryd.call9 (ops1 (hP106 1 32 rfl rfl)) (s_FormatConstraint_c (c:=x9) s326 hb329 hx67) ?_
 rintro _ w330 ⟨rfl,Z⟩
 have Z:=k328 Z c0
 exact L_nil ⟨rfl,_,_,rfl,Le.refl _,fun _ _=>rfl,Z⟩
 refine opsS_cons (fun f w_ _ _ _ _ p Z=>L_sneq (s:=x31) (s':=x67) rfl (p 0 31 rfl rfl) (p 2 33 rfl rfl) (nO rfl rfl Z)) (opsS_cons (fun f w_ _ _ _ _ p Z=>mF (p 3 34 rfl rfl) rfl (nO rfl rfl Z)) (opsS_cons (fun f w_ _ _ s _ p Z=>L_lda (cs:=[r20_0,I x9.bound]) (g_yes rfl (Eq.trans (p 4 35 rfl rfl) (congrArg Value.bool hc110)) rfl) Tryd.isAgg29 Tryd.sizeOf29 ((s 5 rfl).trans rfl) (At.sub0 (Blk.at (Star.blkAt 2 Z rfl)) 0 2) rfl (nO rfl rfl Z)) (opsS_cons ?_ ?_)))
 intro f w_ H106 X106 hS106 hE106 hP106 Z
 obtain ⟨H331b,l332,s333,z334,k335⟩:=Z.borrow
 have hb336 : (rS 62 rTerm).rel H331b [r20_0] x9.terms:=fz_own 3 z334 rfl
 refine L_call (g_yes rfl (Eq.trans (hP106 4 35 rfl rfl) (congrArg Value.bool hc110)) rfl) Tryd.call18 (ops1 (hP106 5 36 rfl rfl)) (i_ConstraintValid_c (c:=x9) s333 hb336 hx75) ?_
 rintro _ w337 ⟨rfl,Z⟩
 have Z:=k335 Z c0
 exact L_nil ⟨rfl,_,_,rfl,Le.refl _,fun _ _=>rfl,Z⟩
 refine opsS_cons (fun f w_ _ _ s _ p Z=>L_lda (cs:=[r20_0,I x9.bound]) (g_yes rfl (Eq.trans (p 4 35 rfl rfl) (congrArg Value.bool hc110)) rfl) Tryd.isAgg29 Tryd.sizeOf29 ((s 5 rfl).trans rfl) (At.sub0 (Blk.at (Star.blkAt 2 Z rfl)) 0 2) rfl (nO rfl rfl Z)) (opsS_cons ?_ ?_)
 intro f w_ H106 X106 hS106 hE106 hP106 Z
 obtain ⟨H338b,l339,s340,z341,k342⟩:=Z.borrow
 have hb343 : (rS 62 rTerm).rel H338b [r20_0] x9.terms:=fz_own 3 z341 rfl
 refine L_call (g_yes rfl (Eq.trans (hP106 4 35 rfl rfl) (congrArg Value.bool hc110)) rfl) Tryd.call19 (ops1 (hP106 7 38 rfl rfl)) (s_ConstraintValid_c (c:=x9) s340 hb343 hx83) ?_
 rintro _ w344 ⟨rfl,Z⟩
 have Z:=k342 Z c0
 exact L_nil ⟨rfl,_,_,rfl,Le.refl _,fun _ _=>rfl,Z⟩
 refine opsS_cons (fun f w_ _ _ _ _ p Z=>L_bneq (b:=x75) (c:=x83) (g_yes rfl (Eq.trans (p 4 35 rfl rfl) (congrArg Value.bool hc110)) rfl) Tryd.underlying4 (p 6 37 rfl rfl) (p 8 39 rfl rfl) (nO rfl rfl Z)) (opsS_cons (fun f w_ _ _ _ _ p Z=>pkT (v:=Bo b85) (p 4 35 rfl rfl) hc110 rfl (Eq.trans (p 9 40 rfl rfl) (congrArg Value.bool (so hb85))) (nO rfl rfl Z)) (opsS_cons (fun f w_ _ _ _ _ p Z=>mF (p 10 41 rfl rfl) rfl (nO rfl rfl Z)) (oP (fun _ _ p=>gN (p 11 42 rfl rfl) hc258 rfl) (fun _=>rfl) (oP (fun _ _ p=>gN (p 11 42 rfl rfl) hc258 rfl) (fun _=>rfl) (oP (fun _ _ p=>gN (p 11 42 rfl rfl) hc258 rfl) (fun _=>rfl) (oP (fun _ _ p=>gN (p 11 42 rfl rfl) hc258 rfl) (fun _=>rfl) (opsS_cons (fun f w_ _ _ _ _ p Z=>pkT (v:=Bo b94) (p 11 42 rfl rfl) hc258 rfl (congrArg Value.bool (so hb94)) (nO rfl rfl Z)) (opsS_cons (fun f w_ _ _ _ _ p Z=>mF (p 16 47 rfl rfl) rfl (nO rfl rfl Z)) (opsS_cons (fun f w_ _ _ s _ p Z=>L_mv (v:=Bo x45.2) (g_yes rfl (Eq.trans (p 17 48 rfl rfl) (congrArg Value.bool hc259)) rfl) ((s 8 rfl).trans rfl) (nO rfl rfl Z)) (opsS_cons (fun f w_ _ _ _ _ p Z=>L_mv (v:=Bo x45.2) (g_yes rfl (Eq.trans (p 17 48 rfl rfl) (congrArg Value.bool hc259)) rfl) (p 18 49 rfl rfl) (nO rfl rfl Z)) (opsS_cons (fun f w_ _ _ s _ p Z=>L_lda (cs:=[r56_0,I x45.1.bound]) (g_yes rfl (Eq.trans (p 19 50 rfl rfl) (congrArg Value.bool hc302)) rfl) Tryd.isAgg29 Tryd.sizeOf29 ((s 7 rfl).trans rfl) (At.sub0 (Blk.at (Star.blkAt 0 Z rfl)) 0 2) rfl (nO rfl rfl Z)) (opsS_cons (fun f w_ _ _ s _ p Z=>L_lda (cs:=[r20_0,I x9.bound]) (g_yes rfl (Eq.trans (p 19 50 rfl rfl) (congrArg Value.bool hc302)) rfl) Tryd.isAgg29 Tryd.sizeOf29 ((s 5 rfl).trans rfl) (At.sub0 (Blk.at (Star.blkAt 2 Z rfl)) 0 2) rfl (nO rfl rfl Z)) (opsS_nil)))))))))))))
 obtain ⟨H345b,l346,s347,z348,k349⟩:=Z.borrow
 have hb350 : (rS 62 rTerm).rel H345b [r56_0] x45.1.terms:=fz_own 1 z348 rfl
 have hb351 : (rS 62 rTerm).rel H345b [r20_0] x9.terms:=fz_own 3 z348 rfl
 refine L_call (g_yes rfl (Eq.trans (hT106 19 50 rfl rfl) (congrArg Value.bool hc302)) rfl) Tryd.call20 (ops2 (hT106 20 51 rfl rfl) (hT106 21 52 rfl rfl)) (i_ConstraintSame_c (a:=x45.1) (b:=x9) s347 hb350 hb351 hx102) ?_
 rintro _ w352 ⟨rfl,Z⟩
 have Z:=k349 Z c0
 refine L_not_ (g_yes rfl (Eq.trans (hT106 19 50 rfl rfl) (congrArg Value.bool hc302)) rfl) rfl (L_pick (v:=Bo b104) (g_yes rfl (Eq.trans (hT106 17 48 rfl rfl) (congrArg Value.bool hc259)) rfl) (Eq.trans (hT106 19 50 rfl rfl) (congrArg Value.bool hc302)) (congrArg Value.bool (so hb104)) (L_pick (v:=Bo b105) rfl (Eq.trans (hT106 17 48 rfl rfl) (congrArg Value.bool hc259)) (congrArg Value.bool (so hb105)) (nn (rj hR109 ⟨H106,hE106,((hS106 1 rfl).trans sf1),rfl,(Star.keepN 0 Z)⟩))))
 rw [ite_f hc302] at hb104
 refine W_drawS 22 [isV (.string x31),isV (.agg #[r20_0,I x9.bound]),isV (.string x67),isV (Bo (!(ByteArray.toList x31 == ByteArray.toList x67))),isV (Bo (!(ByteArray.toList x31 == ByteArray.toList x67))),isV (.agg #[r20_0,I x9.bound]),isV (Bo x75),isV (.agg #[r20_0,I x9.bound]),isV (Bo x83),isV (Bo (x75 != x83)),isV (Bo b85),isV (Bo b85),isV (undef),isV (undef),isV (undef),isV (undef),isV (Bo b94),isV (Bo b94),isV (Bo x45.2),isV (Bo x45.2),isV (undef),isV (undef)] [box g58 29 #[r56_0,I x45.1.bound],oF 62 rTerm r56_0 x45.1.terms,box g22 29 #[r20_0,I x9.bound],oF 62 rTerm r20_0 x9.terms] [] ([]) [([],[]),([],[]),([],[]),([],[]),([],[]),([],[]),([],[]),([],[]),([],[]),([],[]),([],[]),([],[]),([],[]),([],[]),([],[]),([],[]),([],[]),([],[]),([],[]),([],[]),([],[]),([],[])] (S:=[]) Tryd_mix (by kernel_rfl) rfl (by kernel_rfl) (amF_cons (mono_V _) (amF_cons (mono_V _) (amF_cons (mono_V _) (amF_cons (mono_V _) (amF_cons (mono_V _) (amF_cons (mono_V _) (amF_cons (mono_V _) (amF_cons (mono_V _) (amF_cons (mono_V _) (amF_cons (mono_V _) (amF_cons (mono_V _) (amF_cons (mono_V _) (amF_cons (mono_V _) (amF_cons (mono_V _) (amF_cons (mono_V _) (amF_cons (mono_V _) (amF_cons (mono_V _) (amF_cons (mono_V _) (amF_cons (mono_V _) (amF_cons (mono_V _) (amF_cons (mono_V _) (amF_cons (mono_V _) amF_nil)))))))))))))))))))))) Z ?_ (fun f w_ H106 hS106 hE106 hT106 Z=>?_)
 refine opsS_cons (fun f w_ _ _ s _ _ Z=>mF ((s 6 rfl).trans rfl) rfl (nO rfl rfl Z)) (opsS_cons (fun f w_ _ _ s _ _ Z=>L_lda (cs:=[r20_0,I x9.bound]) rfl Tryd.isAgg29 Tryd.sizeOf29 ((s 5 rfl).trans rfl) (At.sub0 (Blk.at (Star.blkAt 2 Z rfl)) 0 2) rfl (nO rfl rfl Z)) (opsS_cons ?_ ?_))
 intro f w_ H106 X106 hS106 hE106 hP106 Z
 obtain ⟨H374b,l375,s376,z377,k378⟩:=Z.borrow
 have hb379 : (rS 62 rTerm).rel H374b [r20_0] x9.terms:=fz_own 3 z377 rfl
 refine L_call rfl Tryd.call9 (ops1 (hP106 1 32 rfl rfl)) (s_FormatConstraint_c (c:=x9) s376 hb379 hx67) ?_
 rintro _ w380 ⟨rfl,Z⟩
 have Z:=k378 Z c0
 exact L_nil ⟨rfl,_,_,rfl,Le.refl _,fun _ _=>rfl,Z⟩
 refine opsS_cons (fun f w_ _ _ _ _ p Z=>L_sneq (s:=x31) (s':=x67) rfl (p 0 31 rfl rfl) (p 2 33 rfl rfl) (nO rfl rfl Z)) (opsS_cons (fun f w_ _ _ _ _ p Z=>mF (p 3 34 rfl rfl) rfl (nO rfl rfl Z)) (opsS_cons (fun f w_ _ _ s _ p Z=>L_lda (cs:=[r20_0,I x9.bound]) (g_yes rfl (Eq.trans (p 4 35 rfl rfl) (congrArg Value.bool hc110)) rfl) Tryd.isAgg29 Tryd.sizeOf29 ((s 5 rfl).trans rfl) (At.sub0 (Blk.at (Star.blkAt 2 Z rfl)) 0 2) rfl (nO rfl rfl Z)) (opsS_cons ?_ ?_)))
 intro f w_ H106 X106 hS106 hE106 hP106 Z
 obtain ⟨H381b,l382,s383,z384,k385⟩:=Z.borrow
 have hb386 : (rS 62 rTerm).rel H381b [r20_0] x9.terms:=fz_own 3 z384 rfl
 refine L_call (g_yes rfl (Eq.trans (hP106 4 35 rfl rfl) (congrArg Value.bool hc110)) rfl) Tryd.call18 (ops1 (hP106 5 36 rfl rfl)) (i_ConstraintValid_c (c:=x9) s383 hb386 hx75) ?_
 rintro _ w387 ⟨rfl,Z⟩
 have Z:=k385 Z c0
 exact L_nil ⟨rfl,_,_,rfl,Le.refl _,fun _ _=>rfl,Z⟩
 refine opsS_cons (fun f w_ _ _ s _ p Z=>L_lda (cs:=[r20_0,I x9.bound]) (g_yes rfl (Eq.trans (p 4 35 rfl rfl) (congrArg Value.bool hc110)) rfl) Tryd.isAgg29 Tryd.sizeOf29 ((s 5 rfl).trans rfl) (At.sub0 (Blk.at (Star.blkAt 2 Z rfl)) 0 2) rfl (nO rfl rfl Z)) (opsS_cons ?_ ?_)
 intro f w_ H106 X106 hS106 hE106 hP106 Z
 obtain ⟨H388b,l389,s390,z391,k392⟩:=Z.borrow
 have hb393 : (rS 62 rTerm).rel H388b [r20_0] x9.terms:=fz_own 3 z391 rfl
 refine L_call (g_yes rfl (Eq.trans (hP106 4 35 rfl rfl) (congrArg Value.bool hc110)) rfl) Tryd.call19 (ops1 (hP106 7 38 rfl rfl)) (s_ConstraintValid_c (c:=x9) s390 hb393 hx83) ?_
 rintro _ w394 ⟨rfl,Z⟩
 have Z:=k392 Z c0
 exact L_nil ⟨rfl,_,_,rfl,Le.refl _,fun _ _=>rfl,Z⟩
 refine opsS_cons (fun f w_ _ _ _ _ p Z=>L_bneq (b:=x75) (c:=x83) (g_yes rfl (Eq.trans (p 4 35 rfl rfl) (congrArg Value.bool hc110)) rfl) Tryd.underlying4 (p 6 37 rfl rfl) (p 8 39 rfl rfl) (nO rfl rfl Z)) (opsS_cons (fun f w_ _ _ _ _ p Z=>pkT (v:=Bo b85) (p 4 35 rfl rfl) hc110 rfl (Eq.trans (p 9 40 rfl rfl) (congrArg Value.bool (so hb85))) (nO rfl rfl Z)) (opsS_cons (fun f w_ _ _ _ _ p Z=>mF (p 10 41 rfl rfl) rfl (nO rfl rfl Z)) (oP (fun _ _ p=>gN (p 11 42 rfl rfl) hc258 rfl) (fun _=>rfl) (oP (fun _ _ p=>gN (p 11 42 rfl rfl) hc258 rfl) (fun _=>rfl) (oP (fun _ _ p=>gN (p 11 42 rfl rfl) hc258 rfl) (fun _=>rfl) (oP (fun _ _ p=>gN (p 11 42 rfl rfl) hc258 rfl) (fun _=>rfl) (opsS_cons (fun f w_ _ _ _ _ p Z=>pkT (v:=Bo b94) (p 11 42 rfl rfl) hc258 rfl (congrArg Value.bool (so hb94)) (nO rfl rfl Z)) (opsS_cons (fun f w_ _ _ _ _ p Z=>mF (p 16 47 rfl rfl) rfl (nO rfl rfl Z)) (opsS_cons (fun f w_ _ _ s _ p Z=>L_mv (v:=Bo x45.2) (g_yes rfl (Eq.trans (p 17 48 rfl rfl) (congrArg Value.bool hc259)) rfl) ((s 8 rfl).trans rfl) (nO rfl rfl Z)) (opsS_cons (fun f w_ _ _ _ _ p Z=>L_mv (v:=Bo x45.2) (g_yes rfl (Eq.trans (p 17 48 rfl rfl) (congrArg Value.bool hc259)) rfl) (p 18 49 rfl rfl) (nO rfl rfl Z)) (oP (fun _ _ p=>gN (p 19 50 rfl rfl) hc302 rfl) (fun _=>rfl) (oP (fun _ _ p=>gN (p 19 50 rfl rfl) hc302 rfl) (fun _=>rfl) (opsS_nil)))))))))))))
 refine ps (g_no rfl (Eq.trans (hT106 19 50 rfl rfl) (congrArg Value.bool hc302)) rfl rfl) (ps (g_no rfl (Eq.trans (hT106 19 50 rfl rfl) (congrArg Value.bool hc302)) rfl rfl) (L_pick (v:=Bo b104) (g_yes rfl (Eq.trans (hT106 17 48 rfl rfl) (congrArg Value.bool hc259)) rfl) (Eq.trans (hT106 19 50 rfl rfl) (congrArg Value.bool hc302)) (congrArg Value.bool (so hb104)) (L_pick (v:=Bo b105) rfl (Eq.trans (hT106 17 48 rfl rfl) (congrArg Value.bool hc259)) (congrArg Value.bool (so hb105)) (nn (rj hR109 ⟨H106,hE106,((hS106 1 rfl).trans sf1),rfl,(Star.keepN 0 Z)⟩)))))
 rw [ite_f hc258] at hb94
 obtain ⟨x92,hx92,hb94⟩:=bind_some hb94
 rcases Bool.eq_false_or_eq_true b94 with hc395 | hc395
 rw [ite_t hc395] at hb105
 refine W_drawS 22 [isV (.string x31),isV (.agg #[r20_0,I x9.bound]),isV (.string x67),isV (Bo (!(ByteArray.toList x31 == ByteArray.toList x67))),isV (Bo (!(ByteArray.toList x31 == ByteArray.toList x67))),isV (.agg #[r20_0,I x9.bound]),isV (Bo x75),isV (.agg #[r20_0,I x9.bound]),isV (Bo x83),isV (Bo (x75 != x83)),isV (Bo b85),isV (Bo b85),isV (Bo x45.2),isV (.agg #[r20_0,I x9.bound]),isV (Bo x92),isV (Bo (x45.2 != x92)),isV (Bo b94),isV (Bo b94),isV (undef),isV (undef),isV (undef),isV (undef)] [box g58 29 #[r56_0,I x45.1.bound],oF 62 rTerm r56_0 x45.1.terms,box g22 29 #[r20_0,I x9.bound],oF 62 rTerm r20_0 x9.terms] [] ([]) [([],[]),([],[]),([],[]),([],[]),([],[]),([],[]),([],[]),([],[]),([],[]),([],[]),([],[]),([],[]),([],[]),([],[]),([],[]),([],[]),([],[]),([],[]),([],[]),([],[]),([],[]),([],[])] (S:=[]) Tryd_mix (by kernel_rfl) rfl (by kernel_rfl) (amF_cons (mono_V _) (amF_cons (mono_V _) (amF_cons (mono_V _) (amF_cons (mono_V _) (amF_cons (mono_V _) (amF_cons (mono_V _) (amF_cons (mono_V _) (amF_cons (mono_V _) (amF_cons (mono_V _) (amF_cons (mono_V _) (amF_cons (mono_V _) (amF_cons (mono_V _) (amF_cons (mono_V _) (amF_cons (mono_V _) (amF_cons (mono_V _) (amF_cons (mono_V _) (amF_cons (mono_V _) (amF_cons (mono_V _) (amF_cons (mono_V _) (amF_cons (mono_V _) (amF_cons (mono_V _) (amF_cons (mono_V _) amF_nil)))))))))))))))))))))) Z ?_ (fun f w_ H106 hS106 hE106 hT106 Z=>?_)
 refine opsS_cons (fun f w_ _ _ s _ _ Z=>mF ((s 6 rfl).trans rfl) rfl (nO rfl rfl Z)) (opsS_cons (fun f w_ _ _ s _ _ Z=>L_lda (cs:=[r20_0,I x9.bound]) rfl Tryd.isAgg29 Tryd.sizeOf29 ((s 5 rfl).trans rfl) (At.sub0 (Blk.at (Star.blkAt 2 Z rfl)) 0 2) rfl (nO rfl rfl Z)) (opsS_cons ?_ ?_))
 intro f w_ H106 X106 hS106 hE106 hP106 Z
 obtain ⟨H424b,l425,s426,z427,k428⟩:=Z.borrow
 have hb429 : (rS 62 rTerm).rel H424b [r20_0] x9.terms:=fz_own 3 z427 rfl
 refine L_call rfl Tryd.call9 (ops1 (hP106 1 32 rfl rfl)) (s_FormatConstraint_c (c:=x9) s426 hb429 hx67) ?_
 rintro _ w430 ⟨rfl,Z⟩
 have Z:=k428 Z c0
 exact L_nil ⟨rfl,_,_,rfl,Le.refl _,fun _ _=>rfl,Z⟩
 refine opsS_cons (fun f w_ _ _ _ _ p Z=>L_sneq (s:=x31) (s':=x67) rfl (p 0 31 rfl rfl) (p 2 33 rfl rfl) (nO rfl rfl Z)) (opsS_cons (fun f w_ _ _ _ _ p Z=>mF (p 3 34 rfl rfl) rfl (nO rfl rfl Z)) (opsS_cons (fun f w_ _ _ s _ p Z=>L_lda (cs:=[r20_0,I x9.bound]) (g_yes rfl (Eq.trans (p 4 35 rfl rfl) (congrArg Value.bool hc110)) rfl) Tryd.isAgg29 Tryd.sizeOf29 ((s 5 rfl).trans rfl) (At.sub0 (Blk.at (Star.blkAt 2 Z rfl)) 0 2) rfl (nO rfl rfl Z)) (opsS_cons ?_ ?_)))
 intro f w_ H106 X106 hS106 hE106 hP106 Z
 obtain ⟨H431b,l432,s433,z434,k435⟩:=Z.borrow
 have hb436 : (rS 62 rTerm).rel H431b [r20_0] x9.terms:=fz_own 3 z434 rfl
 refine L_call (g_yes rfl (Eq.trans (hP106 4 35 rfl rfl) (congrArg Value.bool hc110)) rfl) Tryd.call18 (ops1 (hP106 5 36 rfl rfl)) (i_ConstraintValid_c (c:=x9) s433 hb436 hx75) ?_
 rintro _ w437 ⟨rfl,Z⟩
 have Z:=k435 Z c0
 exact L_nil ⟨rfl,_,_,rfl,Le.refl _,fun _ _=>rfl,Z⟩
 refine opsS_cons (fun f w_ _ _ s _ p Z=>L_lda (cs:=[r20_0,I x9.bound]) (g_yes rfl (Eq.trans (p 4 35 rfl rfl) (congrArg Value.bool hc110)) rfl) Tryd.isAgg29 Tryd.sizeOf29 ((s 5 rfl).trans rfl) (At.sub0 (Blk.at (Star.blkAt 2 Z rfl)) 0 2) rfl (nO rfl rfl Z)) (opsS_cons ?_ ?_)
 intro f w_ H106 X106 hS106 hE106 hP106 Z
 obtain ⟨H438b,l439,s440,z441,k442⟩:=Z.borrow
 have hb443 : (rS 62 rTerm).rel H438b [r20_0] x9.terms:=fz_own 3 z441 rfl
 refine L_call (g_yes rfl (Eq.trans (hP106 4 35 rfl rfl) (congrArg Value.bool hc110)) rfl) Tryd.call19 (ops1 (hP106 7 38 rfl rfl)) (s_ConstraintValid_c (c:=x9) s440 hb443 hx83) ?_
 rintro _ w444 ⟨rfl,Z⟩
 have Z:=k442 Z c0
 exact L_nil ⟨rfl,_,_,rfl,Le.refl _,fun _ _=>rfl,Z⟩
 refine opsS_cons (fun f w_ _ _ _ _ p Z=>L_bneq (b:=x75) (c:=x83) (g_yes rfl (Eq.trans (p 4 35 rfl rfl) (congrArg Value.bool hc110)) rfl) Tryd.underlying4 (p 6 37 rfl rfl) (p 8 39 rfl rfl) (nO rfl rfl Z)) (opsS_cons (fun f w_ _ _ _ _ p Z=>pkT (v:=Bo b85) (p 4 35 rfl rfl) hc110 rfl (Eq.trans (p 9 40 rfl rfl) (congrArg Value.bool (so hb85))) (nO rfl rfl Z)) (opsS_cons (fun f w_ _ _ _ _ p Z=>mF (p 10 41 rfl rfl) rfl (nO rfl rfl Z)) (opsS_cons (fun f w_ _ _ s _ p Z=>L_mv (v:=Bo x45.2) (g_yes rfl (Eq.trans (p 11 42 rfl rfl) (congrArg Value.bool hc258)) rfl) ((s 8 rfl).trans rfl) (nO rfl rfl Z)) (opsS_cons (fun f w_ _ _ s _ p Z=>L_lda (cs:=[r20_0,I x9.bound]) (g_yes rfl (Eq.trans (p 11 42 rfl rfl) (congrArg Value.bool hc258)) rfl) Tryd.isAgg29 Tryd.sizeOf29 ((s 5 rfl).trans rfl) (At.sub0 (Blk.at (Star.blkAt 2 Z rfl)) 0 2) rfl (nO rfl rfl Z)) (opsS_cons ?_ ?_)))))
 intro f w_ H106 X106 hS106 hE106 hP106 Z
 obtain ⟨H445b,l446,s447,z448,k449⟩:=Z.borrow
 have hb450 : (rS 62 rTerm).rel H445b [r20_0] x9.terms:=fz_own 3 z448 rfl
 refine L_call (g_yes rfl (Eq.trans (hP106 11 42 rfl rfl) (congrArg Value.bool hc258)) rfl) Tryd.call19 (ops1 (hP106 13 44 rfl rfl)) (s_ConstraintValid_c (c:=x9) s447 hb450 hx92) ?_
 rintro _ w451 ⟨rfl,Z⟩
 have Z:=k449 Z c0
 exact L_nil ⟨rfl,_,_,rfl,Le.refl _,fun _ _=>rfl,Z⟩
 refine opsS_cons (fun f w_ _ _ _ _ p Z=>L_bneq (b:=x45.2) (c:=x92) (g_yes rfl (Eq.trans (p 11 42 rfl rfl) (congrArg Value.bool hc258)) rfl) Tryd.underlying4 (p 12 43 rfl rfl) (p 14 45 rfl rfl) (nO rfl rfl Z)) (opsS_cons (fun f w_ _ _ _ _ p Z=>pkT (v:=Bo b94) (p 11 42 rfl rfl) hc258 rfl (Eq.trans (p 15 46 rfl rfl) (congrArg Value.bool (so hb94))) (nO rfl rfl Z)) (opsS_cons (fun f w_ _ _ _ _ p Z=>mF (p 16 47 rfl rfl) rfl (nO rfl rfl Z)) (oP (fun _ _ p=>gN (p 17 48 rfl rfl) hc395 rfl) (fun _=>rfl) (oP (fun _ _ p=>gN (p 17 48 rfl rfl) hc395 rfl) (fun _=>rfl) (oP (fun _ _ p=>g_undef rfl (p 19 50 rfl rfl) rfl) (fun _=>rfl) (oP (fun _ _ p=>g_undef rfl (p 19 50 rfl rfl) rfl) (fun _=>rfl) (opsS_nil)))))))
 refine ps (g_undef rfl (hT106 19 50 rfl rfl) rfl) (ps (g_undef rfl (hT106 19 50 rfl rfl) rfl) (ps (g_no rfl (Eq.trans (hT106 17 48 rfl rfl) (congrArg Value.bool hc395)) rfl rfl) (L_pick (v:=Bo b105) rfl (Eq.trans (hT106 17 48 rfl rfl) (congrArg Value.bool hc395)) (congrArg Value.bool (so hb105)) (nn (rj hR109 ⟨H106,hE106,((hS106 1 rfl).trans sf1),rfl,(Star.keepN 0 Z)⟩)))))
 rw [ite_f hc395] at hb105
 obtain ⟨b104,hb104,hb105⟩:=bind_some hb105
 rcases Bool.eq_false_or_eq_true x45.2 with hc452 | hc452
 rw [ite_t hc452] at hb104
 obtain ⟨x102,hx102,hb104⟩:=bind_some hb104
 refine W_drawS 22 [isV (.string x31),isV (.agg #[r20_0,I x9.bound]),isV (.string x67),isV (Bo (!(ByteArray.toList x31 == ByteArray.toList x67))),isV (Bo (!(ByteArray.toList x31 == ByteArray.toList x67))),isV (.agg #[r20_0,I x9.bound]),isV (Bo x75),isV (.agg #[r20_0,I x9.bound]),isV (Bo x83),isV (Bo (x75 != x83)),isV (Bo b85),isV (Bo b85),isV (Bo x45.2),isV (.agg #[r20_0,I x9.bound]),isV (Bo x92),isV (Bo (x45.2 != x92)),isV (Bo b94),isV (Bo b94),isV (Bo x45.2),isV (Bo x45.2),isV (.agg #[r56_0,I x45.1.bound]),isV (.agg #[r20_0,I x9.bound])] [box g58 29 #[r56_0,I x45.1.bound],oF 62 rTerm r56_0 x45.1.terms,box g22 29 #[r20_0,I x9.bound],oF 62 rTerm r20_0 x9.terms] [] ([]) [([],[]),([],[]),([],[]),([],[]),([],[]),([],[]),([],[]),([],[]),([],[]),([],[]),([],[]),([],[]),([],[]),([],[]),([],[]),([],[]),([],[]),([],[]),([],[]),([],[]),([],[]),([],[])] (S:=[]) Tryd_mix (by kernel_rfl) rfl (by kernel_rfl) (amF_cons (mono_V _) (amF_cons (mono_V _) (amF_cons (mono_V _) (amF_cons (mono_V _) (amF_cons (mono_V _) (amF_cons (mono_V _) (amF_cons (mono_V _) (amF_cons (mono_V _) (amF_cons (mono_V _) (amF_cons (mono_V _) (amF_cons (mono_V _) (amF_cons (mono_V _) (amF_cons (mono_V _) (amF_cons (mono_V _) (amF_cons (mono_V _) (amF_cons (mono_V _) (amF_cons (mono_V _) (amF_cons (mono_V _) (amF_cons (mono_V _) (amF_cons (mono_V _) (amF_cons (mono_V _) (amF_cons (mono_V _) amF_nil)))))))))))))))))))))) Z ?_ (fun f w_ H106 hS106 hE106 hT106 Z=>?_)
 refine opsS_cons (fun f w_ _ _ s _ _ Z=>mF ((s 6 rfl).trans rfl) rfl (nO rfl rfl Z)) (opsS_cons (fun f w_ _ _ s _ _ Z=>L_lda (cs:=[r20_0,I x9.bound]) rfl Tryd.isAgg29 Tryd.sizeOf29 ((s 5 rfl).trans rfl) (At.sub0 (Blk.at (Star.blkAt 2 Z rfl)) 0 2) rfl (nO rfl rfl Z)) (opsS_cons ?_ ?_))
 intro f w_ H106 X106 hS106 hE106 hP106 Z
 obtain ⟨H481b,l482,s483,z484,k485⟩:=Z.borrow
 have hb486 : (rS 62 rTerm).rel H481b [r20_0] x9.terms:=fz_own 3 z484 rfl
 refine L_call rfl Tryd.call9 (ops1 (hP106 1 32 rfl rfl)) (s_FormatConstraint_c (c:=x9) s483 hb486 hx67) ?_
 rintro _ w487 ⟨rfl,Z⟩
 have Z:=k485 Z c0
 exact L_nil ⟨rfl,_,_,rfl,Le.refl _,fun _ _=>rfl,Z⟩
 refine opsS_cons (fun f w_ _ _ _ _ p Z=>L_sneq (s:=x31) (s':=x67) rfl (p 0 31 rfl rfl) (p 2 33 rfl rfl) (nO rfl rfl Z)) (opsS_cons (fun f w_ _ _ _ _ p Z=>mF (p 3 34 rfl rfl) rfl (nO rfl rfl Z)) (opsS_cons (fun f w_ _ _ s _ p Z=>L_lda (cs:=[r20_0,I x9.bound]) (g_yes rfl (Eq.trans (p 4 35 rfl rfl) (congrArg Value.bool hc110)) rfl) Tryd.isAgg29 Tryd.sizeOf29 ((s 5 rfl).trans rfl) (At.sub0 (Blk.at (Star.blkAt 2 Z rfl)) 0 2) rfl (nO rfl rfl Z)) (opsS_cons ?_ ?_)))
 intro f w_ H106 X106 hS106 hE106 hP106 Z
 obtain ⟨H488b,l489,s490,z491,k492⟩:=Z.borrow
 have hb493 : (rS 62 rTerm).rel H488b [r20_0] x9.terms:=fz_own 3 z491 rfl
 refine L_call (g_yes rfl (Eq.trans (hP106 4 35 rfl rfl) (congrArg Value.bool hc110)) rfl) Tryd.call18 (ops1 (hP106 5 36 rfl rfl)) (i_ConstraintValid_c (c:=x9) s490 hb493 hx75) ?_
 rintro _ w494 ⟨rfl,Z⟩
 have Z:=k492 Z c0
 exact L_nil ⟨rfl,_,_,rfl,Le.refl _,fun _ _=>rfl,Z⟩
 refine opsS_cons (fun f w_ _ _ s _ p Z=>L_lda (cs:=[r20_0,I x9.bound]) (g_yes rfl (Eq.trans (p 4 35 rfl rfl) (congrArg Value.bool hc110)) rfl) Tryd.isAgg29 Tryd.sizeOf29 ((s 5 rfl).trans rfl) (At.sub0 (Blk.at (Star.blkAt 2 Z rfl)) 0 2) rfl (nO rfl rfl Z)) (opsS_cons ?_ ?_)
 intro f w_ H106 X106 hS106 hE106 hP106 Z
 obtain ⟨H495b,l496,s497,z498,k499⟩:=Z.borrow
 have hb500 : (rS 62 rTerm).rel H495b [r20_0] x9.terms:=fz_own 3 z498 rfl
 refine L_call (g_yes rfl (Eq.trans (hP106 4 35 rfl rfl) (congrArg Value.bool hc110)) rfl) Tryd.call19 (ops1 (hP106 7 38 rfl rfl)) (s_ConstraintValid_c (c:=x9) s497 hb500 hx83) ?_
 rintro _ w501 ⟨rfl,Z⟩
 have Z:=k499 Z c0
 exact L_nil ⟨rfl,_,_,rfl,Le.refl _,fun _ _=>rfl,Z⟩
 refine opsS_cons (fun f w_ _ _ _ _ p Z=>L_bneq (b:=x75) (c:=x83) (g_yes rfl (Eq.trans (p 4 35 rfl rfl) (congrArg Value.bool hc110)) rfl) Tryd.underlying4 (p 6 37 rfl rfl) (p 8 39 rfl rfl) (nO rfl rfl Z)) (opsS_cons (fun f w_ _ _ _ _ p Z=>pkT (v:=Bo b85) (p 4 35 rfl rfl) hc110 rfl (Eq.trans (p 9 40 rfl rfl) (congrArg Value.bool (so hb85))) (nO rfl rfl Z)) (opsS_cons (fun f w_ _ _ _ _ p Z=>mF (p 10 41 rfl rfl) rfl (nO rfl rfl Z)) (opsS_cons (fun f w_ _ _ s _ p Z=>L_mv (v:=Bo x45.2) (g_yes rfl (Eq.trans (p 11 42 rfl rfl) (congrArg Value.bool hc258)) rfl) ((s 8 rfl).trans rfl) (nO rfl rfl Z)) (opsS_cons (fun f w_ _ _ s _ p Z=>L_lda (cs:=[r20_0,I x9.bound]) (g_yes rfl (Eq.trans (p 11 42 rfl rfl) (congrArg Value.bool hc258)) rfl) Tryd.isAgg29 Tryd.sizeOf29 ((s 5 rfl).trans rfl) (At.sub0 (Blk.at (Star.blkAt 2 Z rfl)) 0 2) rfl (nO rfl rfl Z)) (opsS_cons ?_ ?_)))))
 intro f w_ H106 X106 hS106 hE106 hP106 Z
 obtain ⟨H502b,l503,s504,z505,k506⟩:=Z.borrow
 have hb507 : (rS 62 rTerm).rel H502b [r20_0] x9.terms:=fz_own 3 z505 rfl
 refine L_call (g_yes rfl (Eq.trans (hP106 11 42 rfl rfl) (congrArg Value.bool hc258)) rfl) Tryd.call19 (ops1 (hP106 13 44 rfl rfl)) (s_ConstraintValid_c (c:=x9) s504 hb507 hx92) ?_
 rintro _ w508 ⟨rfl,Z⟩
 have Z:=k506 Z c0
 exact L_nil ⟨rfl,_,_,rfl,Le.refl _,fun _ _=>rfl,Z⟩
 refine opsS_cons (fun f w_ _ _ _ _ p Z=>L_bneq (b:=x45.2) (c:=x92) (g_yes rfl (Eq.trans (p 11 42 rfl rfl) (congrArg Value.bool hc258)) rfl) Tryd.underlying4 (p 12 43 rfl rfl) (p 14 45 rfl rfl) (nO rfl rfl Z)) (opsS_cons (fun f w_ _ _ _ _ p Z=>pkT (v:=Bo b94) (p 11 42 rfl rfl) hc258 rfl (Eq.trans (p 15 46 rfl rfl) (congrArg Value.bool (so hb94))) (nO rfl rfl Z)) (opsS_cons (fun f w_ _ _ _ _ p Z=>mF (p 16 47 rfl rfl) rfl (nO rfl rfl Z)) (opsS_cons (fun f w_ _ _ s _ p Z=>L_mv (v:=Bo x45.2) (g_yes rfl (Eq.trans (p 17 48 rfl rfl) (congrArg Value.bool hc395)) rfl) ((s 8 rfl).trans rfl) (nO rfl rfl Z)) (opsS_cons (fun f w_ _ _ _ _ p Z=>L_mv (v:=Bo x45.2) (g_yes rfl (Eq.trans (p 17 48 rfl rfl) (congrArg Value.bool hc395)) rfl) (p 18 49 rfl rfl) (nO rfl rfl Z)) (opsS_cons (fun f w_ _ _ s _ p Z=>L_lda (cs:=[r56_0,I x45.1.bound]) (g_yes rfl (Eq.trans (p 19 50 rfl rfl) (congrArg Value.bool hc452)) rfl) Tryd.isAgg29 Tryd.sizeOf29 ((s 7 rfl).trans rfl) (At.sub0 (Blk.at (Star.blkAt 0 Z rfl)) 0 2) rfl (nO rfl rfl Z)) (opsS_cons (fun f w_ _ _ s _ p Z=>L_lda (cs:=[r20_0,I x9.bound]) (g_yes rfl (Eq.trans (p 19 50 rfl rfl) (congrArg Value.bool hc452)) rfl) Tryd.isAgg29 Tryd.sizeOf29 ((s 5 rfl).trans rfl) (At.sub0 (Blk.at (Star.blkAt 2 Z rfl)) 0 2) rfl (nO rfl rfl Z)) (opsS_nil)))))))
 obtain ⟨H509b,l510,s511,z512,k513⟩:=Z.borrow
 have hb514 : (rS 62 rTerm).rel H509b [r56_0] x45.1.terms:=fz_own 1 z512 rfl
 have hb515 : (rS 62 rTerm).rel H509b [r20_0] x9.terms:=fz_own 3 z512 rfl
 refine L_call (g_yes rfl (Eq.trans (hT106 19 50 rfl rfl) (congrArg Value.bool hc452)) rfl) Tryd.call20 (ops2 (hT106 20 51 rfl rfl) (hT106 21 52 rfl rfl)) (i_ConstraintSame_c (a:=x45.1) (b:=x9) s511 hb514 hb515 hx102) ?_
 rintro _ w516 ⟨rfl,Z⟩
 have Z:=k513 Z c0
 refine L_not_ (g_yes rfl (Eq.trans (hT106 19 50 rfl rfl) (congrArg Value.bool hc452)) rfl) rfl (L_pick (v:=Bo b104) (g_yes rfl (Eq.trans (hT106 17 48 rfl rfl) (congrArg Value.bool hc395)) rfl) (Eq.trans (hT106 19 50 rfl rfl) (congrArg Value.bool hc452)) (congrArg Value.bool (so hb104)) (L_pick (v:=Bo b105) rfl (Eq.trans (hT106 17 48 rfl rfl) (congrArg Value.bool hc395)) (congrArg Value.bool (so hb105)) (nn (rj hR109 ⟨H106,hE106,((hS106 1 rfl).trans sf1),rfl,(Star.keepN 0 Z)⟩))))
 rw [ite_f hc452] at hb104
 refine W_drawS 22 [isV (.string x31),isV (.agg #[r20_0,I x9.bound]),isV (.string x67),isV (Bo (!(ByteArray.toList x31 == ByteArray.toList x67))),isV (Bo (!(ByteArray.toList x31 == ByteArray.toList x67))),isV (.agg #[r20_0,I x9.bound]),isV (Bo x75),isV (.agg #[r20_0,I x9.bound]),isV (Bo x83),isV (Bo (x75 != x83)),isV (Bo b85),isV (Bo b85),isV (Bo x45.2),isV (.agg #[r20_0,I x9.bound]),isV (Bo x92),isV (Bo (x45.2 != x92)),isV (Bo b94),isV (Bo b94),isV (Bo x45.2),isV (Bo x45.2),isV (undef),isV (undef)] [box g58 29 #[r56_0,I x45.1.bound],oF 62 rTerm r56_0 x45.1.terms,box g22 29 #[r20_0,I x9.bound],oF 62 rTerm r20_0 x9.terms] [] ([]) [([],[]),([],[]),([],[]),([],[]),([],[]),([],[]),([],[]),([],[]),([],[]),([],[]),([],[]),([],[]),([],[]),([],[]),([],[]),([],[]),([],[]),([],[]),([],[]),([],[]),([],[]),([],[])] (S:=[]) Tryd_mix (by kernel_rfl) rfl (by kernel_rfl) (amF_cons (mono_V _) (amF_cons (mono_V _) (amF_cons (mono_V _) (amF_cons (mono_V _) (amF_cons (mono_V _) (amF_cons (mono_V _) (amF_cons (mono_V _) (amF_cons (mono_V _) (amF_cons (mono_V _) (amF_cons (mono_V _) (amF_cons (mono_V _) (amF_cons (mono_V _) (amF_cons (mono_V _) (amF_cons (mono_V _) (amF_cons (mono_V _) (amF_cons (mono_V _) (amF_cons (mono_V _) (amF_cons (mono_V _) (amF_cons (mono_V _) (amF_cons (mono_V _) (amF_cons (mono_V _) (amF_cons (mono_V _) amF_nil)))))))))))))))))))))) Z ?_ (fun f w_ H106 hS106 hE106 hT106 Z=>?_)
 refine opsS_cons (fun f w_ _ _ s _ _ Z=>mF ((s 6 rfl).trans rfl) rfl (nO rfl rfl Z)) (opsS_cons (fun f w_ _ _ s _ _ Z=>L_lda (cs:=[r20_0,I x9.bound]) rfl Tryd.isAgg29 Tryd.sizeOf29 ((s 5 rfl).trans rfl) (At.sub0 (Blk.at (Star.blkAt 2 Z rfl)) 0 2) rfl (nO rfl rfl Z)) (opsS_cons ?_ ?_))
 intro f w_ H106 X106 hS106 hE106 hP106 Z
 obtain ⟨H545b,l546,s547,z548,k549⟩:=Z.borrow
 have hb550 : (rS 62 rTerm).rel H545b [r20_0] x9.terms:=fz_own 3 z548 rfl
 refine L_call rfl Tryd.call9 (ops1 (hP106 1 32 rfl rfl)) (s_FormatConstraint_c (c:=x9) s547 hb550 hx67) ?_
 rintro _ w551 ⟨rfl,Z⟩
 have Z:=k549 Z c0
 exact L_nil ⟨rfl,_,_,rfl,Le.refl _,fun _ _=>rfl,Z⟩
 refine opsS_cons (fun f w_ _ _ _ _ p Z=>L_sneq (s:=x31) (s':=x67) rfl (p 0 31 rfl rfl) (p 2 33 rfl rfl) (nO rfl rfl Z)) (opsS_cons (fun f w_ _ _ _ _ p Z=>mF (p 3 34 rfl rfl) rfl (nO rfl rfl Z)) (opsS_cons (fun f w_ _ _ s _ p Z=>L_lda (cs:=[r20_0,I x9.bound]) (g_yes rfl (Eq.trans (p 4 35 rfl rfl) (congrArg Value.bool hc110)) rfl) Tryd.isAgg29 Tryd.sizeOf29 ((s 5 rfl).trans rfl) (At.sub0 (Blk.at (Star.blkAt 2 Z rfl)) 0 2) rfl (nO rfl rfl Z)) (opsS_cons ?_ ?_)))
 intro f w_ H106 X106 hS106 hE106 hP106 Z
 obtain ⟨H552b,l553,s554,z555,k556⟩:=Z.borrow
 have hb557 : (rS 62 rTerm).rel H552b [r20_0] x9.terms:=fz_own 3 z555 rfl
 refine L_call (g_yes rfl (Eq.trans (hP106 4 35 rfl rfl) (congrArg Value.bool hc110)) rfl) Tryd.call18 (ops1 (hP106 5 36 rfl rfl)) (i_ConstraintValid_c (c:=x9) s554 hb557 hx75) ?_
 rintro _ w558 ⟨rfl,Z⟩
 have Z:=k556 Z c0
 exact L_nil ⟨rfl,_,_,rfl,Le.refl _,fun _ _=>rfl,Z⟩
 refine opsS_cons (fun f w_ _ _ s _ p Z=>L_lda (cs:=[r20_0,I x9.bound]) (g_yes rfl (Eq.trans (p 4 35 rfl rfl) (congrArg Value.bool hc110)) rfl) Tryd.isAgg29 Tryd.sizeOf29 ((s 5 rfl).trans rfl) (At.sub0 (Blk.at (Star.blkAt 2 Z rfl)) 0 2) rfl (nO rfl rfl Z)) (opsS_cons ?_ ?_)
 intro f w_ H106 X106 hS106 hE106 hP106 Z
 obtain ⟨H559b,l560,s561,z562,k563⟩:=Z.borrow
 have hb564 : (rS 62 rTerm).rel H559b [r20_0] x9.terms:=fz_own 3 z562 rfl
 refine L_call (g_yes rfl (Eq.trans (hP106 4 35 rfl rfl) (congrArg Value.bool hc110)) rfl) Tryd.call19 (ops1 (hP106 7 38 rfl rfl)) (s_ConstraintValid_c (c:=x9) s561 hb564 hx83) ?_
 rintro _ w565 ⟨rfl,Z⟩
 have Z:=k563 Z c0
 exact L_nil ⟨rfl,_,_,rfl,Le.refl _,fun _ _=>rfl,Z⟩
 refine opsS_cons (fun f w_ _ _ _ _ p Z=>L_bneq (b:=x75) (c:=x83) (g_yes rfl (Eq.trans (p 4 35 rfl rfl) (congrArg Value.bool hc110)) rfl) Tryd.underlying4 (p 6 37 rfl rfl) (p 8 39 rfl rfl) (nO rfl rfl Z)) (opsS_cons (fun f w_ _ _ _ _ p Z=>pkT (v:=Bo b85) (p 4 35 rfl rfl) hc110 rfl (Eq.trans (p 9 40 rfl rfl) (congrArg Value.bool (so hb85))) (nO rfl rfl Z)) (opsS_cons (fun f w_ _ _ _ _ p Z=>mF (p 10 41 rfl rfl) rfl (nO rfl rfl Z)) (opsS_cons (fun f w_ _ _ s _ p Z=>L_mv (v:=Bo x45.2) (g_yes rfl (Eq.trans (p 11 42 rfl rfl) (congrArg Value.bool hc258)) rfl) ((s 8 rfl).trans rfl) (nO rfl rfl Z)) (opsS_cons (fun f w_ _ _ s _ p Z=>L_lda (cs:=[r20_0,I x9.bound]) (g_yes rfl (Eq.trans (p 11 42 rfl rfl) (congrArg Value.bool hc258)) rfl) Tryd.isAgg29 Tryd.sizeOf29 ((s 5 rfl).trans rfl) (At.sub0 (Blk.at (Star.blkAt 2 Z rfl)) 0 2) rfl (nO rfl rfl Z)) (opsS_cons ?_ ?_)))))
 intro f w_ H106 X106 hS106 hE106 hP106 Z
 obtain ⟨H566b,l567,s568,z569,k570⟩:=Z.borrow
 have hb571 : (rS 62 rTerm).rel H566b [r20_0] x9.terms:=fz_own 3 z569 rfl
 refine L_call (g_yes rfl (Eq.trans (hP106 11 42 rfl rfl) (congrArg Value.bool hc258)) rfl) Tryd.call19 (ops1 (hP106 13 44 rfl rfl)) (s_ConstraintValid_c (c:=x9) s568 hb571 hx92) ?_
 rintro _ w572 ⟨rfl,Z⟩
 have Z:=k570 Z c0
 exact L_nil ⟨rfl,_,_,rfl,Le.refl _,fun _ _=>rfl,Z⟩
 refine opsS_cons (fun f w_ _ _ _ _ p Z=>L_bneq (b:=x45.2) (c:=x92) (g_yes rfl (Eq.trans (p 11 42 rfl rfl) (congrArg Value.bool hc258)) rfl) Tryd.underlying4 (p 12 43 rfl rfl) (p 14 45 rfl rfl) (nO rfl rfl Z)) (opsS_cons (fun f w_ _ _ _ _ p Z=>pkT (v:=Bo b94) (p 11 42 rfl rfl) hc258 rfl (Eq.trans (p 15 46 rfl rfl) (congrArg Value.bool (so hb94))) (nO rfl rfl Z)) (opsS_cons (fun f w_ _ _ _ _ p Z=>mF (p 16 47 rfl rfl) rfl (nO rfl rfl Z)) (opsS_cons (fun f w_ _ _ s _ p Z=>L_mv (v:=Bo x45.2) (g_yes rfl (Eq.trans (p 17 48 rfl rfl) (congrArg Value.bool hc395)) rfl) ((s 8 rfl).trans rfl) (nO rfl rfl Z)) (opsS_cons (fun f w_ _ _ _ _ p Z=>L_mv (v:=Bo x45.2) (g_yes rfl (Eq.trans (p 17 48 rfl rfl) (congrArg Value.bool hc395)) rfl) (p 18 49 rfl rfl) (nO rfl rfl Z)) (oP (fun _ _ p=>gN (p 19 50 rfl rfl) hc452 rfl) (fun _=>rfl) (oP (fun _ _ p=>gN (p 19 50 rfl rfl) hc452 rfl) (fun _=>rfl) (opsS_nil)))))))
 refine ps (g_no rfl (Eq.trans (hT106 19 50 rfl rfl) (congrArg Value.bool hc452)) rfl rfl) (ps (g_no rfl (Eq.trans (hT106 19 50 rfl rfl) (congrArg Value.bool hc452)) rfl rfl) (L_pick (v:=Bo b104) (g_yes rfl (Eq.trans (hT106 17 48 rfl rfl) (congrArg Value.bool hc395)) rfl) (Eq.trans (hT106 19 50 rfl rfl) (congrArg Value.bool hc452)) (congrArg Value.bool (so hb104)) (L_pick (v:=Bo b105) rfl (Eq.trans (hT106 17 48 rfl rfl) (congrArg Value.bool hc395)) (congrArg Value.bool (so hb105)) (nn (rj hR109 ⟨H106,hE106,((hS106 1 rfl).trans sf1),rfl,(Star.keepN 0 Z)⟩)))))
 intro f w_ hR
 obtain ⟨H107,l108,sf1,sf56,Z⟩:=rk hR109 hR
 refine W_cond (b:=b105) sf56 (fun hc573=>?_) (fun hc573=>?_)
 have hF:=(ite_t hc573).symm.trans hF
 refine sq (aB rfl (nn (W_ret (retG1 (v1:=Bo false) Tryd.results5 rfl ?_))))
 obtain rfl:=so hF
 exact ⟨rfl,(Star.down Z l108 c0)⟩
 have hF:=(ite_f hc573).symm.trans hF
 refine W_skip (W_seq ?_)
 obtain ⟨x579,hx579,hF⟩:=bind_some hF
 refine W_region (mF sf1 rfl ?_)
 obtain ⟨H581b,l582,s583,z584,k585⟩:=Z.borrow
 refine L_call rfl Tryd.call21 (ops1 rfl) (s_DrawParseConstraint_c (code:=more) s583 (RP.mono _ h1 (Le.trans l108 l582)) hx579) ?_
 rintro _ w586 ⟨rfl,Z⟩
 have Z:=k585 Z c0
 refine aV (.string x579) rfl (nq ?_)
 obtain ⟨x592,hx592,hF⟩:=bind_some hF
 refine W_region (mV (.string x579) rfl ?_)
 obtain ⟨H598b,l599,s600,z601,k602⟩:=Z.borrow
 refine L_call rfl Tryd.call14 (ops1 rfl) (i_ParseConstraint_c (text:=x579) s600 hx592) ?_
 rintro _ w603 ⟨r603_0,rfl,Z⟩
 have Z:=k602 Z (co closed_term c0)
 refine mV (.tuple #[.agg #[r603_0,I x592.1.bound],Bo x592.2]) rfl (L_ex (v:=.agg #[r603_0,I x592.1.bound]) rfl rfl rfl (L_ex (v:=Bo x592.2) rfl rfl rfl (L_al (cs:=#[S0,I 0]) rfl Tryd.zeroValue29 rfl Z (fun g605 w606 Z=>L_staB (vs:=#[r603_0,I x592.1.bound]) (cs2:=#[r603_0,I x592.1.bound]) 0 rfl Tryd.sizeOf29 rfl rfl rfl (ones_cons (one_len (Star.len 1 Z rfl)) (ones_cons rfl ones_nil)) Z rfl (by show 0 + 2≤2; decide) rfl (fun w607 Z=>aB rfl (nq ?_))))))
 obtain ⟨x613,hx613,hF⟩:=bind_some hF
 refine W_region (mV (.string x579) rfl ?_)
 obtain ⟨H619b,l620,s621,z622,k623⟩:=Z.borrow
 refine L_call rfl Tryd.call13 (ops1 rfl) (s_ParseConstraint_c (text:=x579) s621 hx613) ?_
 rintro _ w624 ⟨r624_0,rfl,Z⟩
 have Z:=k623 Z (co closed_term c0)
 refine mV (.tuple #[.agg #[r624_0,I x613.1.bound],Bo x613.2]) rfl (L_ex (v:=.agg #[r624_0,I x613.1.bound]) rfl rfl rfl (L_ex (v:=Bo x613.2) rfl rfl rfl (L_al (cs:=#[S0,I 0]) rfl Tryd.zeroValue29 rfl Z (fun g626 w627 Z=>L_staB (vs:=#[r624_0,I x613.1.bound]) (cs2:=#[r624_0,I x613.1.bound]) 0 rfl Tryd.sizeOf29 rfl rfl rfl (ones_cons (one_len (Star.len 1 Z rfl)) (ones_cons rfl ones_nil)) Z rfl (by show 0 + 2≤2; decide) rfl (fun w628 Z=>aB rfl (nq ?_))))))
 obtain ⟨b638,hb638,hF⟩:=bind_some hF
 obtain ⟨b648,hb648,hF⟩:=bind_some hF
 obtain ⟨R649,hR649⟩:=exR fun f w_=>f 4 = Bo b648∧Star H107 w_ ([])
 refine W_join R649 ?_ ?_
 refine W_region (mB rfl (mB rfl (L_beql (b:=x592.2) (c:=x613.2) rfl Tryd.underlying4 rfl rfl (mB rfl (L_split (d:=72) (b:=(x592.2 == x613.2)) rfl (fun hc650=>?_) (fun hc650=>?_))))))
 rw [ite_t hc650] at hb638
 obtain ⟨x636,hx636,hb638⟩:=bind_some hb638
 refine L_lda (cs:=[r603_0,I x592.1.bound]) rfl Tryd.isAgg29 Tryd.sizeOf29 rfl (At.sub0 (Blk.at (Star.blkAt 2 Z rfl)) 0 2) rfl (L_lda (cs:=[r624_0,I x613.1.bound]) rfl Tryd.isAgg29 Tryd.sizeOf29 rfl (At.sub0 (Blk.at (Star.blkAt 0 Z rfl)) 0 2) rfl ?_)
 obtain ⟨H651b,l652,s653,z654,k655⟩:=Z.borrow
 have hb656 : (rS 62 rTerm).rel H651b [r603_0] x592.1.terms:=fz_own 3 z654 rfl
 have hb657 : (rS 62 rTerm).rel H651b [r624_0] x613.1.terms:=fz_own 1 z654 rfl
 refine L_call rfl Tryd.call20 (ops2 rfl rfl) (i_ConstraintSame_c (a:=x592.1) (b:=x613.1) s653 hb656 hb657 hx636) ?_
 rintro _ w658 ⟨rfl,Z⟩
 have Z:=k655 Z c0
 refine L_pick (v:=Bo b638) rfl rfl (congrArg Value.bool (so hb638)) (mB rfl (L_split (d:=77) (b:=b638) rfl (fun hc659=>?_) (fun hc659=>?_)))
 rw [ite_t hc659] at hb648
 obtain ⟨b647,hb647,hb648⟩:=bind_some hb648
 refine mB rfl (L_not_ rfl rfl (mB rfl (L_split (d:=80) (b:=(!x592.2)) rfl (fun hc660=>?_) (fun hc660=>?_))))
 rw [ite_t hc660] at hb647
 refine ps rfl (ps rfl (ps rfl (ps rfl (L_pick (v:=Bo b647) rfl rfl (congrArg Value.bool (so hb647)) (L_pick (v:=Bo b648) rfl rfl (congrArg Value.bool (so hb648)) (aB rfl (nn (rj hR649 ⟨rfl,(Star.keepN 0 Z)⟩))))))))
 rw [ite_f hc660] at hb647
 obtain ⟨x645,hx645,hb647⟩:=bind_some hb647
 refine L_lda (cs:=[r603_0,I x592.1.bound]) rfl Tryd.isAgg29 Tryd.sizeOf29 rfl (At.sub0 (Blk.at (Star.blkAt 2 Z rfl)) 0 2) rfl ?_
 obtain ⟨H661b,l662,s663,z664,k665⟩:=Z.borrow
 have hb666 : (rS 62 rTerm).rel H661b [r603_0] x592.1.terms:=fz_own 3 z664 rfl
 refine L_call rfl Tryd.call11 (ops1 rfl) (i_FormatConstraint_c (c:=x592.1) s663 hb666 hx645) ?_
 rintro _ w667 ⟨rfl,Z⟩
 have Z:=k665 Z c0
 refine mV (.string x579) rfl (L_seql (s:=x645) (s':=x579) rfl rfl rfl (L_pick (v:=Bo b647) rfl rfl (congrArg Value.bool (so hb647)) (L_pick (v:=Bo b648) rfl rfl (congrArg Value.bool (so hb648)) (aB rfl (nn (rj hR649 ⟨rfl,(Star.keepN 0 Z)⟩))))))
 rw [ite_f hc659] at hb648
 refine ps rfl (ps rfl (ps rfl (ps rfl (ps rfl (ps rfl (ps rfl (ps rfl (L_pick (v:=Bo b648) rfl rfl (congrArg Value.bool (so hb648)) (aB rfl (nn (rj hR649 ⟨rfl,(Star.keepN 0 Z)⟩)))))))))))
 rw [ite_f hc650] at hb638
 refine ps rfl (ps rfl (ps rfl (L_pick (v:=Bo b638) rfl rfl (congrArg Value.bool (so hb638)) (mB rfl (L_split (d:=77) (b:=b638) rfl (fun hc668=>?_) (fun hc668=>?_))))))
 rw [ite_t hc668] at hb648
 obtain ⟨b647,hb647,hb648⟩:=bind_some hb648
 refine mB rfl (L_not_ rfl rfl (mB rfl (L_split (d:=80) (b:=(!x592.2)) rfl (fun hc669=>?_) (fun hc669=>?_))))
 rw [ite_t hc669] at hb647
 refine ps rfl (ps rfl (ps rfl (ps rfl (L_pick (v:=Bo b647) rfl rfl (congrArg Value.bool (so hb647)) (L_pick (v:=Bo b648) rfl rfl (congrArg Value.bool (so hb648)) (aB rfl (nn (rj hR649 ⟨rfl,(Star.keepN 0 Z)⟩))))))))
 rw [ite_f hc669] at hb647
 obtain ⟨x645,hx645,hb647⟩:=bind_some hb647
 refine L_lda (cs:=[r603_0,I x592.1.bound]) rfl Tryd.isAgg29 Tryd.sizeOf29 rfl (At.sub0 (Blk.at (Star.blkAt 2 Z rfl)) 0 2) rfl ?_
 obtain ⟨H670b,l671,s672,z673,k674⟩:=Z.borrow
 have hb675 : (rS 62 rTerm).rel H670b [r603_0] x592.1.terms:=fz_own 3 z673 rfl
 refine L_call rfl Tryd.call11 (ops1 rfl) (i_FormatConstraint_c (c:=x592.1) s672 hb675 hx645) ?_
 rintro _ w676 ⟨rfl,Z⟩
 have Z:=k674 Z c0
 refine mV (.string x579) rfl (L_seql (s:=x645) (s':=x579) rfl rfl rfl (L_pick (v:=Bo b647) rfl rfl (congrArg Value.bool (so hb647)) (L_pick (v:=Bo b648) rfl rfl (congrArg Value.bool (so hb648)) (aB rfl (nn (rj hR649 ⟨rfl,(Star.keepN 0 Z)⟩))))))
 rw [ite_f hc668] at hb648
 refine ps rfl (ps rfl (ps rfl (ps rfl (ps rfl (ps rfl (ps rfl (ps rfl (L_pick (v:=Bo b648) rfl rfl (congrArg Value.bool (so hb648)) (aB rfl (nn (rj hR649 ⟨rfl,(Star.keepN 0 Z)⟩)))))))))))
 intro f w_ hR
 obtain ⟨sf4,Z⟩:=rk hR649 hR
 refine W_ret (retG1 (v1:=Bo b648) Tryd.results5 sf4 ?_)
 obtain rfl:=so hF
 exact ⟨rfl,(Star.down Z l108 c0)⟩
end Go.Proofs.YtnjcihhfoocdcaaDoor

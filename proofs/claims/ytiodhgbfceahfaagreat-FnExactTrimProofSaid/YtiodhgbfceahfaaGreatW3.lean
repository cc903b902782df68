/- Part of a proof by program: W3. -/
import Derived.Test.YtiodhgbfceahfaaGreatD1
import Derived.Test.YtiodhgbfceahfaaGreatW2
namespace Go.Proofs.YtiodhgbfceahfaaGreat
open Go Go.E Go.L Go.RowKit
set_option linter.unusedVariables false
set_option linter.unusedSimpArgs false
set_option maxRecDepth 100000
theorem slices_Concat_implTerm_c {slices : List (List Term)} {v0 : Value} {H : FH} {w : World} (hst : Star H w []) (h0 : (rS 52 (rS 83 rTerm)).rel H [v0] slices) {r : List Term} (hF : slices_Concat_implTerm slices = some r) :
 C Tryz.prog 91 #[v0] w fun v w'=>∃ (u1 : Value),v = u1∧Star H w' [oF 83 rTerm u1 r]:=by
 unfold slices_Concat_implTerm at hF
 refine C_enter Tryz.func91 rfl Tryz.ntmps91 rfl (sq (aV S0 rfl (ns (aI rfl (nq (sq (mV v0 rfl (L_len rfl Tryz.underlying120 rfl (slice_len h0) (mI rfl (nn ?_))))))))))
 have hlen3 : List.length slices≤9223372036854775807:=len_le (slice_len h0)
 obtain ⟨j3,hL3,hF⟩:=bind_some hF
 obtain ⟨R3,hR3⟩:=exR fun f w_=>∃ size_2 : Int,j3 = .nx size_2∧f 0 = v0∧f 3 = I size_2∧Star H w_ ([])
 refine W_join R3 ?_ ?_
 refine W_block ?_
 obtain ⟨I3,hI3⟩:=exI fun n f w_=>∃ i_1 : Nat,∃ suf3 : List (List Term),∃ size_2 : Int,n = suf3.length∧List.drop i_1 slices = suf3∧i_1 + suf3.length = slices.length∧rangeL slices_Concat_implTerm_b1 suf3 i_1 size_2 = some j3∧f 0 = v0∧f 3 = I size_2∧f 9 = v0∧f 10 = I (slices.length : Int)∧f 11 = I i_1∧Star H w_ ([])
 refine W_loop I3 (n:=slices.length) ?_ ?_
 exact ij hI3 ⟨0,slices,0,rfl,rfl,Nat.zero_add _,hL3,rfl,rfl,rfl,rfl,rfl,hst⟩
 intro n3 f w_ hI
 obtain ⟨i_1,suf3,size_2,rfl,hd3,hl3,hL3,sf0,sf3,sf9,sf10,sf11,hst⟩:=ik hI3 hI
 refine sq (L_lss rfl sf11 sf10 (nq (W_cond (b:=decide ((i_1 : Int) < (slices.length : Int))) rfl (fun hc4=>?_) (fun hc4=>?_))))
 have hlt3:=of_decide_eq_true hc4
 rcases suf3 with _ | ⟨x_3,rest3⟩
 exact absurd hlt3 (by simp at hl3; omega)
 obtain ⟨o3,hB3,hL3⟩:=range_cons hL3
 rw [slices_Concat_implTerm_b1] at hB3
 have hix3:=drop_idx hd3
 refine W_skip (W_seq (W_block (sq (L_ix (r:=(rS 83 rTerm)) rfl Tryz.underlying120 Tryz.sizeOf52 sf9 h0 sf11 hix3 (fun g9 o10 cs_g9 hrk_hat11 hat11=>?_)))))
 obtain ⟨u12,rfl,hu12⟩:=slice1 hrk_hat11
 refine L_ld rfl Tryz.isAgg52 rfl (At.cell (AtH.at hat11 hst.sub) (j:=0) rfl) (aV u12 rfl (ns (mF sf3 rfl (mV u12 rfl (L_len rfl Tryz.underlying52 rfl (slice_len hu12) (L_add rfl rfl rfl (aI rfl (ns (mI rfl (L_lss rfl rfl rfl (nn ?_)))))))))))
 obtain ⟨_,hA13,hB3⟩:=bind_some hB3
 obtain ⟨R13,hR13⟩:=exR fun f w_=>f 0 = v0∧f 3 = I (i64 (size_2 + (x_3.length : Int)))∧f 9 = v0∧f 10 = I (slices.length : Int)∧f 11 = I i_1∧Star H w_ ([])
 refine W_join R13 ?_ ?_
 refine W_cond (b:=decide ((i64 (size_2 + (x_3.length : Int))) < 0)) rfl (fun hc14=>?_) (fun hc14=>?_)
 have hA13:=(ite_t hc14).symm.trans hA13
 cases hA13
 have hA13:=(ite_f hc14).symm.trans hA13
 refine W_skip (rj hR13 ⟨sf0,rfl,sf9,sf10,sf11,hst⟩)
 intro f w_ hR
 obtain ⟨sf0,sf3,sf9,sf10,sf11,hst⟩:=rk hR13 hR
 refine W_region (L_add rfl sf11 rfl (mI rfl (nn ?_)))
 obtain rfl:=so hB3
 show ∃ m,m < _∧I3 m _ _
 refine ⟨rest3.length,by simp,?_⟩
 exact ij hI3 ⟨i_1 + 1,rest3,i64 (size_2 + (x_3.length : Int)),rfl,drop_next hd3,by simp at hl3; omega,hL3,sf0,sf3,sf9,sf10,(Eq.trans rfl (congrArg (Value.int .i64) (i64_succ (n:=slices.length) (by simp at hl3; omega) hlen3))),hst⟩
 rcases suf3 with _ | ⟨_,_⟩
 obtain rfl:=range_nil hL3
 refine W_exit (rj hR3 ⟨size_2,rfl,sf0,sf3,hst⟩)
 exact absurd (of_decide_eq_false hc4) (by simp at hl3; omega)
 intro f w_ hR
 obtain ⟨size_2,rfl,sf0,sf3,hst⟩:=rk hR3 hR
 refine W_seq ?_
 obtain ⟨ret0_15,hI17,hF⟩:=bind_some hF
 refine W_region (mF sf3 rfl ?_)
 obtain ⟨R20,hR20⟩ : ∃ R : Value→World→Prop,R = fun v w_=>∃ v18_ret0 : Value,v = v18_ret0∧Star H w_ ([oF 83 rTerm v18_ret0 ret0_15]):=⟨_,rfl⟩
 refine L_call (args:=#[S0,I size_2]) (R:=R20) rfl Tryz.call100 (ops2 rfl rfl) ?_ ?_
 refine C_enter Tryz.func100 rfl Tryz.ntmps100 rfl ?_
 have hA20:=hI17
 unfold slices_Concat_implTerm_i2 at hA20
 refine sq (aV S0 rfl (nq (sq (mI rfl (L_lss rfl rfl rfl (nn ?_))))))
 obtain ⟨_,hA21,hA20⟩:=bind_some hA20
 obtain ⟨R21,hR21⟩:=exR fun f w_=>f 0 = S0∧f 1 = I size_2∧Star H w_ ([])
 refine W_join R21 ?_ ?_
 refine W_cond (b:=decide (size_2 < 0)) rfl (fun hc22=>?_) (fun hc22=>?_)
 have hA21:=(ite_t hc22).symm.trans hA21
 cases hA21
 have hA21:=(ite_f hc22).symm.trans hA21
 refine W_skip (rj hR21 ⟨rfl,rfl,hst⟩)
 intro f w_ hR
 obtain ⟨sf0,sf1,hst⟩:=rk hR21 hR
 refine W_seq (sq (mF sf1 rfl (mF sf0 rfl (L_capN rfl Tryz.underlying52 rfl (mF sf0 rfl (L_len rfl Tryz.underlying52 rfl (slice_len (r:=RP.int) (t:=0) (rel_nil _ _ H)) (L_sub rfl rfl rfl (L_sub rfl rfl rfl (aI rfl (ns (mI rfl (L_gtr rfl rfl rfl (nn ?_)))))))))))))
 obtain ⟨s_23,hA25,hA20⟩:=bind_some hA20
 obtain ⟨R25,hR25⟩:=exR fun f w_=>∃ v23_s : Value,f 0 = v23_s∧Star H w_ ([oF 83 rTerm v23_s s_23])
 refine W_join R25 ?_ ?_
 refine W_cond (b:=decide ((i64 (size_2 - (i64 (0 - 0)))) > 0)) rfl (fun hc26=>?_) (fun hc26=>?_)
 have hA25:=(ite_t hc26).symm.trans hA25
 obtain ⟨x27,hx27,hA25⟩:=bind_some hA25
 obtain ⟨x31,hx31,hA25⟩:=bind_some hA25
 refine W_region (mF sf0 rfl (mF sf0 rfl (L_capN rfl Tryz.underlying52 rfl (L_slN rfl et_52 rfl rfl (mI rfl (L_appZ (R:=(OR.frz rTerm)) (z0:=({ coef:=0,lit:=0 } : Term)) (zc:=[I 0,I 0]) rfl et_52 Tryz.underlying3 (by kernel_rfl) (fun _ _=>⟨rfl,rTerm_iff.2 rfl⟩) rfl rfl hx27 hst (fun v34 w35 hst=>mF sf0 rfl (L_len rfl Tryz.underlying52 rfl (slice_len (r:=RP.int) (t:=0) (rel_nil _ _ H)) (L_slO (R:=(OR.frz rTerm)) (b:=0) rfl et_52 rfl hst trivial rfl hx31 (fun v37 hst=>aV v37 rfl (nn ?_)))))))))))
 obtain rfl:=so hA25
 exact rj hR25 ⟨v37,rfl,hst⟩
 have hA25:=(ite_f hc26).symm.trans hA25
 refine W_skip ?_
 obtain rfl:=so hA25
 have hst:=Star.addNil (R:=(OR.frz rTerm)) (e:=83) hst
 exact rj hR25 ⟨S0,sf0,hst⟩
 intro f w_ hR
 obtain ⟨v23_s,sf0,hst⟩:=rk hR25 hR
 refine sq (mF sf0 rfl (aV v23_s rfl (nn (W_ret (retG1 (v1:=v23_s) Tryz.results100 rfl ?_)))))
 obtain rfl:=so hA20
 show R20 _ _
 rw [hR20]
 exact ⟨v23_s,rfl,hst⟩
 intro v_20 w_ hR
 rw [hR20] at hR
 obtain ⟨v18_ret0,hvr20,hst⟩:=hR
 obtain rfl:=hvr20.symm
 clear hR20
 refine aV v18_ret0 rfl (nq (sq (mF sf0 rfl (L_len rfl Tryz.underlying120 rfl (slice_len h0) (mI rfl (nn ?_))))))
 have hlen43 : List.length slices≤9223372036854775807:=len_le (slice_len h0)
 obtain ⟨j43,hL43,hF⟩:=bind_some hF
 obtain ⟨R43,hR43⟩:=exR fun f w_=>∃ newslice_41 : List Term,∃ v41_newslice : Value,j43 = .nx newslice_41∧f 6 = v41_newslice∧Star H w_ ([oF 83 rTerm v41_newslice newslice_41])
 refine W_join R43 ?_ ?_
 refine W_block ?_
 obtain ⟨I43,hI43⟩:=exI fun n f w_=>∃ i_40 : Nat,∃ suf43 : List (List Term),∃ newslice_41 : List Term,∃ v41_newslice : Value,n = suf43.length∧List.drop i_40 slices = suf43∧i_40 + suf43.length = slices.length∧rangeL slices_Concat_implTerm_b3 suf43 i_40 newslice_41 = some j43∧f 6 = v41_newslice∧f 25 = v0∧f 26 = I (slices.length : Int)∧f 27 = I i_40∧Star H w_ ([oF 83 rTerm v41_newslice newslice_41])
 refine W_loop I43 (n:=slices.length) ?_ ?_
 exact ij hI43 ⟨0,slices,ret0_15,v18_ret0,rfl,rfl,Nat.zero_add _,hL43,rfl,rfl,rfl,rfl,hst⟩
 intro n43 f w_ hI
 obtain ⟨i_40,suf43,newslice_41,v41_newslice,rfl,hd43,hl43,hL43,sf6,sf25,sf26,sf27,hst⟩:=ik hI43 hI
 refine sq (L_lss rfl sf27 sf26 (nq (W_cond (b:=decide ((i_40 : Int) < (slices.length : Int))) rfl (fun hc44=>?_) (fun hc44=>?_))))
 have hlt43:=of_decide_eq_true hc44
 rcases suf43 with _ | ⟨x_43,rest43⟩
 exact absurd hlt43 (by simp at hl43; omega)
 obtain ⟨o43,hB43,hL43⟩:=range_cons hL43
 rw [slices_Concat_implTerm_b3] at hB43
 have hix43:=drop_idx hd43
 refine W_skip (W_seq (W_block (sq (L_ix (r:=(rS 83 rTerm)) rfl Tryz.underlying120 Tryz.sizeOf52 sf25 h0 sf27 hix43 (fun g49 o50 cs_g49 hrk_hat51 hat51=>?_)))))
 obtain ⟨u52,rfl,hu52⟩:=slice1 hrk_hat51
 refine L_ld rfl Tryz.isAgg52 rfl (At.cell (AtH.at hat51 hst.sub) (j:=0) rfl) (aV u52 rfl (nn ?_))
 obtain ⟨x53,hx53,hB43⟩:=bind_some hB43
 refine W_region (mF sf6 rfl (mV u52 rfl (L_app (v:=v41_newslice) (u:=u52) rfl et_52 rfl rfl hst hu52 hx53 (fun v57 w58 hst=>aV v57 rfl (nn (W_region (L_add rfl sf27 rfl (mI rfl (nn ?_)))))))))
 obtain rfl:=so hB43
 show ∃ m,m < _∧I43 m _ _
 refine ⟨rest43.length,by simp,?_⟩
 exact ij hI43 ⟨i_40 + 1,rest43,x53,v57,rfl,drop_next hd43,by simp at hl43; omega,hL43,rfl,sf25,sf26,(Eq.trans rfl (congrArg (Value.int .i64) (i64_succ (n:=slices.length) (by simp at hl43; omega) hlen43))),hst⟩
 rcases suf43 with _ | ⟨_,_⟩
 obtain rfl:=range_nil hL43
 refine W_exit (rj hR43 ⟨newslice_41,v41_newslice,rfl,sf6,hst⟩)
 exact absurd (of_decide_eq_false hc44) (by simp at hl43; omega)
 intro f w_ hR
 obtain ⟨newslice_41,v41_newslice,rfl,sf6,hst⟩:=rk hR43 hR
 refine sq (mF sf6 rfl (aV v41_newslice rfl (nn (W_ret (retG1 (v1:=v41_newslice) Tryz.results91 rfl ?_)))))
 obtain rfl:=so hF
 exact ⟨v41_newslice,rfl,hst⟩
theorem i_AddConstraints_c {a : Con} {b : Con} {v0_0 : Value} {v1_0 : Value} {H : FH} {w : World} {R : List Ass} (hst : Star H w R) (h0_0 : (rS 83 rTerm).rel H [v0_0] a.terms) (h1_0 : (rS 83 rTerm).rel H [v1_0] b.terms) {r : Con × Bool} (hF : i_AddConstraints a b = some r) :
 C Tryz.prog 75 #[.agg #[v0_0,I a.bound],.agg #[v1_0,I b.bound]] w fun v w'=>∃ H' : FH,Le H H'∧∃ (u1 : Value),v = .tuple #[.agg #[u1,I r.1.bound],Bo r.2]∧(rS 83 rTerm).rel H' [u1] r.1.terms∧Star H' w' (R):=by
 unfold i_AddConstraints at hF
 refine C_enter Tryz.func75 rfl Tryz.ntmps75 rfl (sq (L_box (v:=.agg #[v0_0,I a.bound]) (cs:=#[v0_0,I a.bound]) rfl rfl rfl hst (fun g7 w8 hst=>L_box (v:=.agg #[v1_0,I b.bound]) (cs:=#[v1_0,I b.bound]) rfl rfl rfl hst (fun g9 w10 hst=>L_al (cs:=#[S0,I 0]) rfl Tryz.zeroValue54 rfl hst (fun g11 w12 hst=>aB rfl (nq (W_seq ?_)))))))
 obtain ⟨x18,hx18,hF⟩:=bind_some hF
 obtain ⟨b27,hb27,hF⟩:=bind_some hF
 obtain ⟨R28,hR28⟩:=exR fun f w_=>f 2 = Pt g7∧f 3 = Pt g9∧f 4 = Pt g11∧f 13 = Bo b27∧Star H w_ (box g11 54 #[S0,I 0] :: box g9 54 #[v1_0,I b.bound] :: box g7 54 #[v0_0,I a.bound] :: R)
 refine W_join R28 ?_ ?_
 refine W_region (L_lda (cs:=[v0_0,I a.bound]) rfl Tryz.isAgg54 Tryz.sizeOf54 rfl (At.sub0 (Blk.at (Star.blkAt 2 hst rfl)) 0 2) rfl ?_)
 obtain ⟨H29b,l30,s31,z32,k33⟩:=hst.borrow
 refine L_call rfl Tryz.call67 (ops1 rfl) (i_ConstraintValid_c (c:=a) s31 (RP.mono _ h0_0 l30) hx18) ?_
 rintro _ w34 ⟨rfl,hst⟩
 have hst:=k33 hst c0
 refine L_not_ rfl rfl (mB rfl (L_split (d:=9) (b:=(!x18)) rfl (fun hc35=>?_) (fun hc35=>?_)))
 rw [ite_t hc35] at hb27
 refine ps rfl (ps rfl (ps rfl (L_pick (v:=Bo b27) rfl rfl (congrArg Value.bool (so hb27)) (nn (rj hR28 ⟨rfl,rfl,rfl,rfl,hst⟩)))))
 rw [ite_f hc35] at hb27
 obtain ⟨x25,hx25,hb27⟩:=bind_some hb27
 refine L_lda (cs:=[v1_0,I b.bound]) rfl Tryz.isAgg54 Tryz.sizeOf54 rfl (At.sub0 (Blk.at (Star.blkAt 1 hst rfl)) 0 2) rfl ?_
 obtain ⟨H36b,l37,s38,z39,k40⟩:=hst.borrow
 refine L_call rfl Tryz.call67 (ops1 rfl) (i_ConstraintValid_c (c:=b) s38 (RP.mono _ h1_0 l37) hx25) ?_
 rintro _ w41 ⟨rfl,hst⟩
 have hst:=k40 hst c0
 refine L_not_ rfl rfl (L_pick (v:=Bo b27) rfl rfl (congrArg Value.bool (so hb27)) (nn (rj hR28 ⟨rfl,rfl,rfl,rfl,hst⟩)))
 intro f w_ hR
 obtain ⟨sf2,sf3,sf4,sf13,hst⟩:=rk hR28 hR
 refine W_cond (b:=b27) sf13 (fun hc42=>?_) (fun hc42=>?_)
 have hF:=(ite_t hc42).symm.trans hF
 refine sq (L_bld rfl (parts0 ) (bld_54_  ) (L_staB (vs:=#[S0,I 0]) (cs2:=#[S0,I 0]) 0 rfl Tryz.sizeOf54 sf4 rfl rfl (ones_cons rfl (ones_cons rfl ones_nil)) hst rfl (by show 0 + 2≤2; decide) rfl (fun w44 hst=>aB rfl (nn (W_ret (retG2 (v1:=.agg #[S0,I 0]) (v2:=Bo false) Tryz.results75 (resV_agg Tryz.isAgg54 Tryz.sizeOf54 sf4 (Star.blkAt 0 hst rfl) rfl) rfl ?_))))))
 obtain rfl:=so hF
 have hst:=Star.drop 0 hst rfl
 have hst:=Star.drop 0 hst rfl
 have hst:=Star.drop 0 hst rfl
 exact ⟨H,(Le.refl _),S0,rfl,(rel_nil _ _ _),hst⟩
 have hF:=(ite_f hc42).symm.trans hF
 refine W_skip (W_seq ?_)
 obtain ⟨x54,hx54,hF⟩:=bind_some hF
 obtain ⟨x60,hx60,hF⟩:=bind_some hF
 refine W_drawS 14 [isV (Pt g7),isV (v0_0),isV (Pt g9),isV (v1_0),anyF,anyF,isV (Pq g7 1),isV (I a.bound),isV (Pq g9 1),isV (I b.bound),isV (I (i64 (a.bound + b.bound))),tup2 (exD (isData (rS 83 rTerm) x60.1.terms) fun u_0=>isV (.agg #[u_0,I x60.1.bound])) (isV (Bo x60.2)),exD (isData (rS 83 rTerm) x60.1.terms) fun u_0=>isV (.agg #[u_0,I x60.1.bound]),isV (Bo x60.2)] [box g11 54 #[S0,I 0],box g9 54 #[v1_0,I b.bound],box g7 54 #[v0_0,I a.bound]] [.made 4 19 (fun v_=>oF 52 (rS 83 rTerm) v_ ([a.terms,b.terms])) none,.made 5 20 (fun v_=>oF 83 rTerm v_ x54) (some 11)] (R) [([],[]),([],[]),([],[]),([],[]),([],[0]),([0],[0,1]),([],[]),([],[]),([],[]),([],[]),([],[]),([1],[]),([],[]),([],[])] (S:=[(some 4,[19],none),(some 5,[20],some 11)]) Tryz_mix (by kernel_rfl) rfl (by kernel_rfl) (amF_cons (mono_V _) (amF_cons (mono_V _) (amF_cons (mono_V _) (amF_cons (mono_V _) (amF_cons (mono_any) (amF_cons (mono_any) (amF_cons (mono_V _) (amF_cons (mono_V _) (amF_cons (mono_V _) (amF_cons (mono_V _) (amF_cons (mono_V _) (amF_cons (mono_tup2 (mono_exD (mono_data _ _) fun _=>mono_V _) (mono_V _)) (amF_cons (mono_exD (mono_data _ _) fun _=>mono_V _) (amF_cons (mono_V _) amF_nil)))))))))))))) hst ?_ (fun f w_ H63 hS63 hE63 hT63 hst=>?_)
 refine opsS_cons (fun f w_ _ _ s _ _ hst=>fA 0 fa_54_0 ((s 2 rfl).trans sf2) rfl (nO rfl rfl hst)) (opsS_cons (fun f w_ _ _ _ _ p hst=>ldB 2 hst Tryz.isAgg52 (p 0 15 rfl rfl) rfl rfl (nO rfl rfl hst)) (opsS_cons (fun f w_ _ _ s _ _ hst=>fA 0 fa_54_0 ((s 3 rfl).trans sf3) rfl (nO rfl rfl hst)) (opsS_cons (fun f w_ _ _ _ _ p hst=>ldB 1 hst Tryz.isAgg52 (p 2 17 rfl rfl) rfl rfl (nO rfl rfl hst)) (opsS_cons ?_ ?_))))
 intro f w_ H63 X63 hS63 hE63 hP63 hst
 refine L_bs rfl (parts2 (hP63 1 16 rfl rfl) (hP63 3 18 rfl rfl)) (bs_120_2_0_0 (v0_0) (v1_0) (one_len (slice_len (RP.mono _ h0_0 hE63))) (one_len (slice_len (RP.mono _ h1_0 hE63)))) hst (fun g79 w80 hst=>?_)
 have hst:=Star.addF (r:=(rS 83 rTerm)) (cs:=[v1_0]) (x:=b.terms) hst (RP.mono _ h1_0 hE63)
 have hst:=Star.addF (r:=(rS 83 rTerm)) (cs:=[v0_0]) (x:=a.terms) hst (RP.mono _ h0_0 hE63)
 have hst:=Star.mkRow (R:=(OR.frz (rS 83 rTerm))) [([v0_0],a.terms),([v1_0],b.terms)] [a.terms,b.terms] 2 hst rfl rfl rfl (by decide)
 have hst:=hst.gets [3,3,3] rfl
 exact L_nil ⟨rfl,_,_,rfl,Le.refl _,fun _ _=>trivial,hst⟩
 refine opsS_cons ?_ ?_
 intro f w_ H63 X63 hS63 hE63 hP63 hst
 have hst : Star H63 w_ (box g11 54 #[S0,I 0] :: box g9 54 #[v1_0,I b.bound] :: box g7 54 #[v0_0,I a.bound] :: oF 52 (rS 83 rTerm) (f 19) ([a.terms,b.terms]) :: X63):=hst
 obtain ⟨H83b,l84,s85,z86,k87⟩:=hst.borrow
 have hb88 : (rS 52 (rS 83 rTerm)).rel H83b [(f 19)] ([a.terms,b.terms]):=fz_own 3 z86 rfl
 refine L_call rfl Tryz.call91 (ops1 rfl) (slices_Concat_implTerm_c (slices:=[a.terms,b.terms]) s85 hb88 hx54) ?_
 rintro r89_0 w89 ⟨_,rfl,hst⟩
 have hst:=k87 hst (co closed_term c0)
 have hst:=hst.gets [4,4,4,4] rfl
 exact L_nil ⟨rfl,_,_,rfl,Le.refl _,fun _ _=>trivial,hst⟩
 refine opsS_cons (fun f w_ _ _ s _ _ hst=>fA 1 fa_54_1 ((s 2 rfl).trans sf2) rfl (nO rfl rfl hst)) (opsS_cons (fun f w_ _ _ _ _ p hst=>ldB 2 hst Tryz.isAgg3 (p 6 21 rfl rfl) rfl rfl (nO rfl rfl hst)) (opsS_cons (fun f w_ _ _ s _ _ hst=>fA 1 fa_54_1 ((s 3 rfl).trans sf3) rfl (nO rfl rfl hst)) (opsS_cons (fun f w_ _ _ _ _ p hst=>ldB 1 hst Tryz.isAgg3 (p 8 23 rfl rfl) rfl rfl (nO rfl rfl hst)) (opsS_cons (fun f w_ _ _ _ _ p hst=>L_add rfl (p 7 22 rfl rfl) (p 9 24 rfl rfl) (nO rfl rfl hst)) (opsS_cons ?_ ?_)))))
 intro f w_ H63 X63 hS63 hE63 hP63 hst
 have hst : Star H63 w_ (box g11 54 #[S0,I 0] :: box g9 54 #[v1_0,I b.bound] :: box g7 54 #[v0_0,I a.bound] :: oF 83 rTerm (f 20) x54 :: X63):=hst
 have hst:=hst.get 3 rfl
 obtain ⟨H92,l93,hst,hz94⟩:=Star.freeze hst
 have hz94 : (rS 83 rTerm).rel H92 [(f 20)] x54:=hz94
 refine L_call rfl Tryz.call90 (ops2 rfl (hP63 10 25 rfl rfl)) (i_normal_c (terms:=x54) (bound:=i64 (a.bound + b.bound)) hst hz94 hx60) ?_
 rintro _ w95 ⟨H95,l95,r95_0,rfl,hr95_0,hst⟩
 exact L_nil ⟨rfl,_,_,rfl,(Le.trans l93 l95),fun _ _=>⟨_,_,rfl,⟨_,hr95_0,rfl⟩,rfl⟩,hst⟩
 refine opsS_cons ?_ ?_
 intro f w_ H63 X63 hS63 hE63 hP63 hst
 obtain ⟨a96_0,a96_1,hv96,ht96_0,ht96_1⟩:=(hP63 11 26 rfl rfl)
 obtain ⟨u97_0,hu97_0,rfl⟩:=ht96_0
 obtain rfl:=ht96_1
 refine L_ex (v:=.agg #[u97_0,I x60.1.bound]) rfl hv96 rfl (L_nil ⟨rfl,_,_,rfl,Le.refl _,fun _ _=>⟨_,hu97_0,rfl⟩,hst⟩)
 refine opsS_cons ?_ ?_
 intro f w_ H63 X63 hS63 hE63 hP63 hst
 obtain ⟨a98_0,a98_1,hv98,ht98_0,ht98_1⟩:=(hP63 11 26 rfl rfl)
 obtain ⟨u99_0,hu99_0,rfl⟩:=ht98_0
 obtain rfl:=ht98_1
 refine L_ex (v:=Bo x60.2) rfl hv98 rfl (L_nil ⟨rfl,_,_,rfl,Le.refl _,fun _ _=>rfl,hst⟩)
 exact opsS_nil
 have hst : Star H63 w_ (box g11 54 #[S0,I 0] :: box g9 54 #[v1_0,I b.bound] :: box g7 54 #[v0_0,I a.bound] :: oF 52 (rS 83 rTerm) (f 19) ([a.terms,b.terms]) :: R):=hst
 obtain ⟨u100_0,hu100_0,hv100⟩:=(hT63 12 27 rfl rfl)
 refine L_staB (vs:=#[u100_0,I x60.1.bound]) (cs2:=#[u100_0,I x60.1.bound]) 0 rfl Tryz.sizeOf54 ((hS63 4 rfl).trans sf4) hv100 rfl (ones_cons (one_len (slice_len hu100_0)) (ones_cons rfl ones_nil)) hst rfl (by show 0 + 2≤2; decide) rfl (fun w101 hst=>aF (hT63 13 28 rfl rfl) rfl (nn (W_ret (retG2 (v1:=.agg #[u100_0,I x60.1.bound]) (v2:=Bo x60.2) Tryz.results75 (resV_agg Tryz.isAgg54 Tryz.sizeOf54 ((hS63 4 rfl).trans sf4) (Star.blkAt 0 hst rfl) rfl) rfl ?_))))
 obtain rfl:=so hF
 have hst:=Star.drop 0 hst rfl
 have hst:=Star.drop 0 hst rfl
 have hst:=Star.drop 0 hst rfl
 have hst:=Star.drop 0 hst rfl
 exact ⟨H63,hE63,u100_0,rfl,hu100_0,hst⟩
theorem slices_Clone_implTerm_c {s : List Term} {v0 : Value} {H : FH} {w : World} (hst : Star H w []) (h0 : (rS 83 rTerm).rel H [v0] s) {r : List Term} (hF : slices_Clone_implTerm s = some r) :
 C Tryz.prog 39 #[v0] w fun v w'=>∃ (u1 : Value),v = u1∧Star H w' [oF 83 rTerm u1 r]:=by
 unfold slices_Clone_implTerm at hF
 refine C_enter Tryz.func39 rfl Tryz.ntmps39 rfl (sq (aV S0 rfl (nq (sq (mV v0 rfl ?_)))))
 obtain ⟨a1,cap1,hsl1,_,_⟩:=(slice_len h0)
 refine L_nileq (a:=a1) rfl Tryz.underlying52 (Eq.trans rfl hsl1) rfl ?_
 rw [← hsl1]
 refine nn ?_
 rcases Bool.eq_false_or_eq_true (isNilS v0) with hn2 | hn2
 refine W_cond (b:=true) (Eq.trans rfl (congrArg Value.bool hn2)) (fun _=>?_) (fun h=>nomatch h)
 obtain rfl:=nil_of h0 hn2
 refine sq (aV S0 rfl (nn (W_ret (retG1 (v1:=S0) Tryz.results39 rfl ?_))))
 simp [app] at hF
 subst hF
 have hst:=Star.addNil (R:=(OR.frz rTerm)) (e:=83) hst
 exact ⟨S0,rfl,hst⟩
 refine W_cond (b:=false) (Eq.trans rfl (congrArg Value.bool hn2)) (fun h=>nomatch h) (fun _=>?_)
 refine W_skip (W_seq ?_)
 obtain ⟨x7,hx7,hF⟩:=bind_some hF
 refine W_region (L_bs rfl parts0 (bs_52_0  ) hst (fun g11 w12 hst=>?_))
 have hst:=Star.mkRow (R:=(OR.frz rTerm)) [] [] 0 hst rfl rfl rfl (by decide)
 refine mV v0 rfl (L_app (v:=(Sl g11 0 0)) (u:=v0) rfl et_52 rfl rfl hst h0 hx7 (fun v14 w15 hst=>aV v14 rfl (nn (W_ret (retG1 (v1:=v14) Tryz.results39 rfl ?_)))))
 obtain rfl:=so hF
 exact ⟨v14,rfl,hst⟩
theorem i_Constraint_own_c {c : Con} {v0_0 : Value} {H : FH} {w : World} (hst : Star H w []) (h0_0 : (rS 83 rTerm).rel H [v0_0] c.terms) {r : Con} (hF : i_Constraint_own c = some r) :
 C Tryz.prog 26 #[.agg #[v0_0,I c.bound]] w fun v w'=>∃ (u1 : Value),v = .agg #[u1,I r.bound]∧Star H w' [oF 83 rTerm u1 r.terms]:=by
 unfold i_Constraint_own at hF
 refine C_enter Tryz.func26 rfl Tryz.ntmps26 rfl (sq (L_box (v:=.agg #[v0_0,I c.bound]) (cs:=#[v0_0,I c.bound]) rfl rfl rfl hst (fun g5 w6 hst=>L_al (cs:=#[S0,I 0]) rfl Tryz.zeroValue54 rfl hst (fun g7 w8 hst=>nq ?_))))
 obtain ⟨x14,hx14,hF⟩:=bind_some hF
 refine W_region (fA 0 fa_54_0 rfl rfl (ldB 1 hst Tryz.isAgg52 rfl rfl rfl ?_))
 obtain ⟨H18b,l19,s20,z21,k22⟩:=hst.borrow
 refine L_call rfl Tryz.call39 (ops1 rfl) (slices_Clone_implTerm_c (s:=c.terms) s20 (RP.mono _ h0_0 l19) hx14) ?_
 rintro r23_0 w23 ⟨_,rfl,hst⟩
 have hst:=k22 hst (co closed_term c0)
 refine fA 0 fa_54_0 rfl rfl (L_stB (v:=r23_0) (cs2:=#[r23_0,I c.bound]) 2 rfl Tryz.sizeOf52 rfl rfl (one_len (Star.len 0 hst rfl)) hst rfl rfl rfl (fun w25 hst=>ns (L_lda (cs:=[r23_0,I c.bound]) rfl Tryz.isAgg54 Tryz.sizeOf54 rfl (At.sub0 (Blk.at (Star.blkAt 0 hst rfl)) 0 2) rfl (L_staB (vs:=#[r23_0,I c.bound]) (cs2:=#[r23_0,I c.bound]) 2 rfl Tryz.sizeOf54 rfl rfl rfl (ones_cons (one_len (Star.len 1 hst rfl)) (ones_cons rfl ones_nil)) hst rfl (by show 0 + 2≤2; decide) rfl (fun w27 hst=>nn (W_ret (retG1 (v1:=.agg #[r23_0,I c.bound]) Tryz.results26 (resV_agg Tryz.isAgg54 Tryz.sizeOf54 rfl (Star.blkAt 0 hst rfl) rfl) ?_)))))))
 obtain rfl:=so hF
 have hst:=hst.get 2 rfl
 exact ⟨r23_0,rfl,(Star.keepN 1 hst)⟩
theorem i_Constraint_changed_c {c : Con} {change : (Int→Option Int)} {v0_0 : Value} {v1 : Value} {H : FH} {w : World} {R : List Ass} (hst : Star H w R) (h0_0 : (rS 83 rTerm).rel H [v0_0] c.terms) (h1 : Fun1 Tryz.prog RP.int false (Value.int .i64) change v1 H) {r : Con × Bool} (hF : i_Constraint_changed c change = some r) :
 C Tryz.prog 92 #[.agg #[v0_0,I c.bound],v1] w fun v w'=>∃ H' : FH,Le H H'∧∃ (u1 : Value),v = .tuple #[.agg #[u1,I r.1.bound],Bo r.2]∧(rS 83 rTerm).rel H' [u1] r.1.terms∧Star H' w' (R):=by
 unfold i_Constraint_changed at hF
 obtain ⟨fid_1,caps_1,rfl,hcall_1,hc_1⟩:=h1
 refine C_enter Tryz.func92 rfl Tryz.ntmps92 rfl (sq (L_box (v:=.agg #[v0_0,I c.bound]) (cs:=#[v0_0,I c.bound]) rfl rfl rfl hst (fun g5 w6 hst=>L_al (cs:=#[S0,I 0]) rfl Tryz.zeroValue54 rfl hst (fun g7 w8 hst=>aB rfl (nq ?_)))))
 obtain ⟨x14,hx14,hF⟩:=bind_some hF
 refine W_region (L_lda (cs:=[v0_0,I c.bound]) rfl Tryz.isAgg54 Tryz.sizeOf54 rfl (At.sub0 (Blk.at (Star.blkAt 1 hst rfl)) 0 2) rfl ?_)
 obtain ⟨H20b,l21,s22,z23,k24⟩:=hst.borrow
 refine L_call rfl Tryz.call26 (ops1 rfl) (i_Constraint_own_c (c:=c) s22 (RP.mono _ h0_0 l21) hx14) ?_
 rintro _ w25 ⟨r25_0,rfl,hst⟩
 have hst:=k24 hst (co closed_term c0)
 refine L_al (cs:=#[S0,I 0]) rfl Tryz.zeroValue54 rfl hst (fun g27 w28 hst=>L_staB (vs:=#[r25_0,I x14.bound]) (cs2:=#[r25_0,I x14.bound]) 0 rfl Tryz.sizeOf54 rfl rfl rfl (ones_cons (one_len (Star.len 1 hst rfl)) (ones_cons rfl ones_nil)) hst rfl (by show 0 + 2≤2; decide) rfl (fun w29 hst=>nq ?_))
 obtain ⟨x30,hx30,hF⟩:=bind_some hF
 refine W_region (mV (.func (.func fid_1) #[] caps_1) rfl (fA 1 fa_54_1 rfl rfl (ldB 3 hst Tryz.isAgg3 rfl rfl rfl ?_)))
 obtain ⟨H38b,l39,s40,z41,k42⟩:=hst.borrow
 refine L_callv (args:=#[I c.bound]) rfl hcall_1 rfl (ops1 rfl) (hc_1 _ _ l39 s40 [I c.bound] _ _ _ rfl hx30 (args_app rfl)) ?_
 rintro _ w43 ⟨rfl,hst⟩
 have hst:=k42 hst c0
 refine fA 1 fa_54_1 rfl rfl (L_stB (v:=I x30) (cs2:=#[r25_0,I x30]) 0 rfl Tryz.sizeOf3 rfl rfl rfl hst rfl rfl rfl (fun w44 hst=>nq (sq (fA 0 fa_54_0 rfl rfl (ldB 0 hst Tryz.isAgg52 rfl rfl rfl (L_len rfl Tryz.underlying52 rfl (Star.len 1 hst rfl) (mI rfl (nn ?_))))))))
 have hlen49 : List.length x14.terms≤9223372036854775807:=len_le (Star.len 1 hst rfl)
 obtain ⟨j49,hL49,hF⟩:=bind_some hF
 obtain ⟨R49,hR49⟩:=exR fun f w_=>∃ g27_0_46 : List Term,∃ H47 : FH,j49 = .nx g27_0_46∧Le H H47∧f 4 = Pt g7∧f 6 = Pt g27∧Star H47 w_ (oF 83 rTerm r25_0 g27_0_46 :: box g27 54 #[r25_0,I x30] :: box g7 54 #[S0,I 0] :: R)
 refine W_join R49 ?_ ?_
 refine W_block ?_
 obtain ⟨I49,hI49⟩:=exI fun n f w_=>∃ i_45 : Nat,∃ suf49 : List Term,∃ g27_0_46 : List Term,∃ H47 : FH,n = suf49.length∧List.drop i_45 x14.terms = suf49∧i_45 + suf49.length = x14.terms.length∧rangeL (i_Constraint_changed_b1 change) suf49 i_45 g27_0_46 = some j49∧Le H H47∧f 1 = .func (.func fid_1) #[] caps_1∧f 4 = Pt g7∧f 6 = Pt g27∧f 17 = I (x14.terms.length : Int)∧f 18 = I i_45∧Star H47 w_ (oF 83 rTerm r25_0 g27_0_46 :: box g27 54 #[r25_0,I x30] :: box g7 54 #[S0,I 0] :: R)
 have hst:=hst.gets [2,1,2] rfl
 have hst:=Star.drop 3 hst rfl
 refine W_loop I49 (n:=x14.terms.length) ?_ ?_
 exact ij hI49 ⟨0,x14.terms,x14.terms,H,rfl,rfl,Nat.zero_add _,hL49,(Le.refl _),rfl,rfl,rfl,rfl,rfl,hst⟩
 intro n49 f w_ hI
 obtain ⟨i_45,suf49,g27_0_46,H47,rfl,hd49,hl49,hL49,l48,sf1,sf4,sf6,sf17,sf18,hst⟩:=ik hI49 hI
 refine sq (L_lss rfl sf18 sf17 (nq (W_cond (b:=decide ((i_45 : Int) < (x14.terms.length : Int))) rfl (fun hc50=>?_) (fun hc50=>?_))))
 have hlt49:=of_decide_eq_true hc50
 rcases suf49 with _ | ⟨x_49,rest49⟩
 exact absurd hlt49 (by simp at hl49; omega)
 obtain ⟨o49,hB49,hL49⟩:=range_cons hL49
 rw [i_Constraint_changed_b1] at hB49
 have hix49:=drop_idx hd49
 refine W_skip (W_seq (W_block (sq (mF sf18 rfl (aI rfl (nn ?_))))))
 obtain ⟨x51,hx51,hB49⟩:=bind_some hB49
 obtain ⟨x56,hx56,hB49⟩:=bind_some hB49
 obtain ⟨g65,cap_g65,hv66,_,_⟩:=Star.row 0 hst rfl hx51
 refine W_drawS 11 [isV (Pt g27),isV (r25_0),isV (I i_45),isV (.func (.func fid_1) #[] caps_1),isV (Pt g27),isV (r25_0),isV (I i_45),isV (.pointer (some ⟨g65,Int.toNat (i_45 : Int) * 2,none⟩)),isV (.pointer (some ⟨g65,Int.toNat (i_45 : Int) * 2 + 0,none⟩)),isV (I x51.coef),isV (I x56)] [oF 83 rTerm r25_0 g27_0_46,box g27 54 #[r25_0,I x30],box g7 54 #[S0,I 0]] [] (R) [([],[]),([],[]),([],[]),([],[]),([],[]),([],[]),([],[]),([],[]),([],[]),([],[]),([],[])] (S:=[]) Tryz_mix (by kernel_rfl) rfl (by kernel_rfl) (amF_cons (mono_V _) (amF_cons (mono_V _) (amF_cons (mono_V _) (amF_cons (mono_V _) (amF_cons (mono_V _) (amF_cons (mono_V _) (amF_cons (mono_V _) (amF_cons (mono_V _) (amF_cons (mono_V _) (amF_cons (mono_V _) (amF_cons (mono_V _) amF_nil))))))))))) hst ?_ (fun f w_ H64 hS64 hE64 hT64 hst=>?_)
 refine opsS_cons (fun f w_ _ _ s _ _ hst=>fA 0 fa_54_0 ((s 6 rfl).trans sf6) rfl (nO rfl rfl hst)) (opsS_cons (fun f w_ _ _ _ _ p hst=>ldB 1 hst Tryz.isAgg52 (p 0 21 rfl rfl) rfl rfl (nO rfl rfl hst)) (opsS_cons (fun f w_ _ _ s _ _ hst=>mF ((s 7 rfl).trans rfl) rfl (nO rfl rfl hst)) (opsS_cons (fun f w_ _ _ s _ _ hst=>mF ((s 1 rfl).trans sf1) rfl (nO rfl rfl hst)) (opsS_cons (fun f w_ _ _ s _ _ hst=>fA 0 fa_54_0 ((s 6 rfl).trans sf6) rfl (nO rfl rfl hst)) (opsS_cons (fun f w_ _ _ _ _ p hst=>ldB 1 hst Tryz.isAgg52 (p 4 25 rfl rfl) rfl rfl (nO rfl rfl hst)) (opsS_cons (fun f w_ _ _ s _ _ hst=>mF ((s 7 rfl).trans rfl) rfl (nO rfl rfl hst)) (opsS_cons (fun f w_ _ _ _ _ p hst=>L_ixO (R:=(OR.frz rTerm)) (tb:=0) 0 rfl Tryz.underlying52 Tryz.sizeOf83 (p 5 26 rfl rfl) hv66 (by first | rfl | simp) (p 6 27 rfl rfl) hx51 (nO rfl rfl hst)) (opsS_cons (fun f w_ _ _ _ _ p hst=>fA (Int.toNat (i_45 : Int) * 2 + 0) fa_83_0 (p 7 28 rfl rfl) rfl (nO rfl rfl hst)) (opsS_cons ?_ ?_)))))))))
 intro f w_ H64 X64 hS64 hE64 hP64 hst
 obtain ⟨cs75,hr75,hat75⟩:=Star.eltF 0 hst rfl hv66 hx51
 obtain rfl:=rTerm_iff.1 hr75
 refine L_ld rfl Tryz.isAgg3 (hP64 8 29 rfl rfl) (At.cell hat75 (j:=0) rfl) (L_nil ⟨rfl,_,_,rfl,Le.refl _,fun _ _=>rfl,hst⟩)
 refine opsS_cons ?_ ?_
 intro f w_ H64 X64 hS64 hE64 hP64 hst
 obtain ⟨H77b,l78,s79,z80,k81⟩:=hst.borrow
 refine L_callv (args:=#[I x51.coef]) rfl hcall_1 (hP64 3 24 rfl rfl) (ops1 (hP64 9 30 rfl rfl)) (hc_1 _ _ (Le.trans (Le.trans l48 hE64) l78) s79 [I x51.coef] _ _ _ rfl hx56 (args_app rfl)) ?_
 rintro _ w82 ⟨rfl,hst⟩
 have hst:=k81 hst c0
 exact L_nil ⟨rfl,_,_,rfl,Le.refl _,fun _ _=>rfl,hst⟩
 exact opsS_nil
 refine L_ixO (R:=(OR.frz rTerm)) (tb:=0) 0 rfl Tryz.underlying52 Tryz.sizeOf83 (hT64 1 22 rfl rfl) hv66 (by first | rfl | simp) (hT64 2 23 rfl rfl) hx51 (fA (Int.toNat (i_45 : Int) * 2 + 0) fa_83_0 rfl rfl (L_stF (j:=0) (u:=I x56) (z:={ x51 with coef:=x56 }) rfl Tryz.sizeOf3 rfl rfl (hT64 10 31 rfl rfl) rfl hv66 hst hx51 fldF_rTerm_0 (fun w83 hst=>nn (W_region (L_add rfl ((hS64 18 rfl).trans sf18) rfl (mI rfl (nn ?_)))))))
 obtain rfl:=so hB49
 show ∃ m,m < _∧I49 m _ _
 refine ⟨rest49.length,by simp,?_⟩
 exact ij hI49 ⟨i_45 + 1,rest49,(g27_0_46.set (Int.toNat (i_45 : Int)) ({ x51 with coef:=x56 })),H64,rfl,drop_next hd49,by simp at hl49; omega,hL49,(Le.trans l48 hE64),((hS64 1 rfl).trans sf1),((hS64 4 rfl).trans sf4),((hS64 6 rfl).trans sf6),((hS64 17 rfl).trans sf17),(Eq.trans rfl (congrArg (Value.int .i64) (i64_succ (n:=x14.terms.length) (by simp at hl49; omega) hlen49))),hst⟩
 rcases suf49 with _ | ⟨_,_⟩
 obtain rfl:=range_nil hL49
 refine W_exit (rj hR49 ⟨g27_0_46,H47,rfl,l48,sf4,sf6,hst⟩)
 exact absurd (of_decide_eq_false hc50) (by simp at hl49; omega)
 intro f w_ hR
 obtain ⟨g27_0_46,H47,rfl,l48,sf4,sf6,hst⟩:=rk hR49 hR
 refine W_seq ?_
 obtain ⟨x87,hx87,hF⟩:=bind_some hF
 refine W_region (L_lda (cs:=[r25_0,I x30]) rfl Tryz.isAgg54 Tryz.sizeOf54 sf6 (At.sub0 (Blk.at (Star.blkAt 1 hst rfl)) 0 2) rfl ?_)
 obtain ⟨H90,l91,hst,hz92⟩:=Star.freeze hst
 have hz92 : (rS 83 rTerm).rel H90 [r25_0] g27_0_46:=hz92
 refine L_call rfl Tryz.call99 (ops1 rfl) (i_Constraint_valid_c (c:=({ terms:=g27_0_46,bound:=x30 } : Con)) hst hz92 hx87) ?_
 rintro _ w93 ⟨H93,l93,r93_0,rfl,hr93_0,hst⟩
 refine L_ex (v:=.agg #[r93_0,I x87.1.bound]) rfl rfl rfl (L_ex (v:=Bo x87.2) rfl rfl rfl (L_staB (vs:=#[r93_0,I x87.1.bound]) (cs2:=#[r93_0,I x87.1.bound]) 1 rfl Tryz.sizeOf54 sf4 rfl rfl (ones_cons (one_len (slice_len hr93_0)) (ones_cons rfl ones_nil)) hst rfl (by show 0 + 2≤2; decide) rfl (fun w94 hst=>aB rfl (nn (W_ret (retG2 (v1:=.agg #[r93_0,I x87.1.bound]) (v2:=Bo x87.2) Tryz.results92 (resV_agg Tryz.isAgg54 Tryz.sizeOf54 sf4 (Star.blkAt 0 hst rfl) rfl) rfl ?_))))))
 obtain rfl:=so hF
 have hst:=Star.drop 0 hst rfl
 have hst:=Star.drop 0 hst rfl
 exact ⟨H93,(Le.trans (Le.trans l48 l91) l93),r93_0,rfl,hr93_0,hst⟩
theorem i_MultiplyConstraint_1_c {c1 : Int} {n_ : Int} {g_c1 : Nat} {H : FH} {w : World} (hst : Star H w []) (hat_g_c1 : AtH H g_c1 0 [I c1]) {r : Int} (hF : i_MultiplyConstraint_1 c1 n_ = some r) :
 C Tryz.prog 93 #[I n_,Pt g_c1] w fun v w'=>v = I r∧Star H w' []:=by
 unfold i_MultiplyConstraint_1 at hF
 refine C_enter Tryz.func93 rfl Tryz.ntmps93 rfl (sq (aI rfl (ns (mI rfl (L_ld rfl Tryz.isAgg3 rfl (At.cell0 (AtH.at hat_g_c1 hst.sub) (j:=0) rfl) (L_mul rfl rfl rfl (aI rfl (nn (W_ret (retG1 (v1:=I (i64 (n_ * c1))) Tryz.results93 rfl ?_))))))))))
 obtain rfl:=so hF
 exact ⟨rfl,hst⟩
theorem i_MultiplyConstraint_c {c : Con} {k : Int} {v0_0 : Value} {H : FH} {w : World} {R : List Ass} (hst : Star H w R) (h0_0 : (rS 83 rTerm).rel H [v0_0] c.terms) {r : Con × Bool} (hF : i_MultiplyConstraint c k = some r) :
 C Tryz.prog 76 #[.agg #[v0_0,I c.bound],I k] w fun v w'=>∃ H' : FH,Le H H'∧∃ (u1 : Value),v = .tuple #[.agg #[u1,I r.1.bound],Bo r.2]∧(rS 83 rTerm).rel H' [u1] r.1.terms∧Star H' w' (R):=by
 unfold i_MultiplyConstraint at hF
 refine C_enter Tryz.func76 rfl Tryz.ntmps76 rfl (sq (L_box (v:=.agg #[v0_0,I c.bound]) (cs:=#[v0_0,I c.bound]) rfl rfl rfl hst (fun g7 w8 hst=>L_box (v:=I k) (cs:=#[I k]) rfl rfl rfl hst (fun g9 w10 hst=>L_al (cs:=#[S0,I 0]) rfl Tryz.zeroValue54 rfl hst (fun g11 w12 hst=>aB rfl (nq (W_seq ?_)))))))
 obtain ⟨x18,hx18,hF⟩:=bind_some hF
 obtain ⟨b27,hb27,hF⟩:=bind_some hF
 obtain ⟨R28,hR28⟩:=exR fun f w_=>f 2 = Pt g7∧f 3 = Pt g9∧f 4 = Pt g11∧f 13 = Bo b27∧Star H w_ (box g11 54 #[S0,I 0] :: box g9 3 #[I k] :: box g7 54 #[v0_0,I c.bound] :: R)
 refine W_join R28 ?_ ?_
 refine W_region (L_lda (cs:=[v0_0,I c.bound]) rfl Tryz.isAgg54 Tryz.sizeOf54 rfl (At.sub0 (Blk.at (Star.blkAt 2 hst rfl)) 0 2) rfl ?_)
 obtain ⟨H29b,l30,s31,z32,k33⟩:=hst.borrow
 refine L_call rfl Tryz.call67 (ops1 rfl) (i_ConstraintValid_c (c:=c) s31 (RP.mono _ h0_0 l30) hx18) ?_
 rintro _ w34 ⟨rfl,hst⟩
 have hst:=k33 hst c0
 refine L_not_ rfl rfl (mB rfl (L_split (d:=9) (b:=(!x18)) rfl (fun hc35=>?_) (fun hc35=>?_)))
 rw [ite_t hc35] at hb27
 refine ps rfl (ps rfl (ps rfl (L_pick (v:=Bo b27) rfl rfl (congrArg Value.bool (so hb27)) (nn (rj hR28 ⟨rfl,rfl,rfl,rfl,hst⟩)))))
 rw [ite_f hc35] at hb27
 obtain ⟨x25,hx25,hb27⟩:=bind_some hb27
 refine ldB 1 hst Tryz.isAgg3 rfl rfl rfl ?_
 obtain ⟨H36b,l37,s38,z39,k40⟩:=hst.borrow
 refine L_call rfl Tryz.call85 (ops3 rfl rfl rfl) (i_within_c (n_:=k) (low:=1) (high:=1000) s38 hx25) ?_
 rintro _ w41 ⟨rfl,hst⟩
 have hst:=k40 hst c0
 refine L_not_ rfl rfl (L_pick (v:=Bo b27) rfl rfl (congrArg Value.bool (so hb27)) (nn (rj hR28 ⟨rfl,rfl,rfl,rfl,hst⟩)))
 intro f w_ hR
 obtain ⟨sf2,sf3,sf4,sf13,hst⟩:=rk hR28 hR
 refine W_cond (b:=b27) sf13 (fun hc42=>?_) (fun hc42=>?_)
 have hF:=(ite_t hc42).symm.trans hF
 refine sq (L_bld rfl (parts0 ) (bld_54_  ) (L_staB (vs:=#[S0,I 0]) (cs2:=#[S0,I 0]) 0 rfl Tryz.sizeOf54 sf4 rfl rfl (ones_cons rfl (ones_cons rfl ones_nil)) hst rfl (by show 0 + 2≤2; decide) rfl (fun w44 hst=>aB rfl (nn (W_ret (retG2 (v1:=.agg #[S0,I 0]) (v2:=Bo false) Tryz.results76 (resV_agg Tryz.isAgg54 Tryz.sizeOf54 sf4 (Star.blkAt 0 hst rfl) rfl) rfl ?_))))))
 obtain rfl:=so hF
 have hst:=Star.drop 0 hst rfl
 have hst:=Star.drop 0 hst rfl
 have hst:=Star.drop 0 hst rfl
 exact ⟨H,(Le.refl _),S0,rfl,(rel_nil _ _ _),hst⟩
 have hF:=(ite_f hc42).symm.trans hF
 refine W_skip (W_seq ?_)
 obtain ⟨x48,hx48,hF⟩:=bind_some hF
 refine W_region (L_lda (cs:=[v0_0,I c.bound]) rfl Tryz.isAgg54 Tryz.sizeOf54 sf2 (At.sub0 (Blk.at (Star.blkAt 2 hst rfl)) 0 2) rfl (L_mf rfl (ops1 sf3) ?_))
 have hst:=hst.get 1 rfl
 obtain ⟨H51,l52,hst,hz_hat53⟩:=Star.freeze hst
 have hat53 : AtH H51 g9 0 [I k]:=AtH.of hz_hat53
 have hf54 : Fun1 Tryz.prog RP.int false (Value.int .i64) (i_MultiplyConstraint_1 k) (.func (.func 93) #[] #[Pt g9]) H51:=by
   refine ⟨_,_,rfl,Tryz.call93,fun H_ w_ hE_ hs_ cs_ x_ y_ args_ hr_ hy_ ha_=>?_⟩
   obtain rfl : cs_ = [_]:=hr_
   obtain rfl:=args_of (b:=#[I x_,Pt g9]) ha_
   exact i_MultiplyConstraint_1_c (c1:=k) (n_:=x_) hs_ (AtH.le (AtH.le hat53 (Le.refl _)) hE_) hy_
 refine L_call rfl Tryz.call92 (ops2 rfl rfl) (i_Constraint_changed_c (c:=c) (change:=(i_MultiplyConstraint_1 k)) hst (RP.mono _ h0_0 l52) hf54 hx48) ?_
 rintro _ w55 ⟨H55,l55,r55_0,rfl,hr55_0,hst⟩
 refine L_ex (v:=.agg #[r55_0,I x48.1.bound]) rfl rfl rfl (L_ex (v:=Bo x48.2) rfl rfl rfl (L_staB (vs:=#[r55_0,I x48.1.bound]) (cs2:=#[r55_0,I x48.1.bound]) 0 rfl Tryz.sizeOf54 sf4 rfl rfl (ones_cons (one_len (slice_len hr55_0)) (ones_cons rfl ones_nil)) hst rfl (by show 0 + 2≤2; decide) rfl (fun w56 hst=>aB rfl (nn (W_ret (retG2 (v1:=.agg #[r55_0,I x48.1.bound]) (v2:=Bo x48.2) Tryz.results76 (resV_agg Tryz.isAgg54 Tryz.sizeOf54 sf4 (Star.blkAt 0 hst rfl) rfl) rfl ?_))))))
 obtain rfl:=so hF
 have hst:=Star.drop 0 hst rfl
 have hst:=Star.drop 0 hst rfl
 exact ⟨H55,(Le.trans l52 l55),r55_0,rfl,hr55_0,hst⟩
theorem i_DivideConstraint_1_c {c1 : Int} {n_ : Int} {g_c1 : Nat} {H : FH} {w : World} (hst : Star H w []) (hat_g_c1 : AtH H g_c1 0 [I c1]) {r : Int} (hF : i_DivideConstraint_1 c1 n_ = some r) :
 C Tryz.prog 94 #[I n_,Pt g_c1] w fun v w'=>v = I r∧Star H w' []:=by
 unfold i_DivideConstraint_1 at hF
 refine C_enter Tryz.func94 rfl Tryz.ntmps94 rfl (sq (aI rfl (nq ?_)))
 obtain ⟨q1,hq1,hF⟩:=bind_some hF
 refine W_region (mI rfl (L_ld rfl Tryz.isAgg3 rfl (At.cell0 (AtH.at hat_g_c1 hst.sub) (j:=0) rfl) (L_add rfl rfl rfl (L_sub rfl rfl rfl (L_ld rfl Tryz.isAgg3 rfl (At.cell0 (AtH.at hat_g_c1 hst.sub) (j:=0) rfl) (L_quo (m:=i64 ((i64 (n_ + c1)) - 1)) (n:=c1) rfl rfl rfl (fun he=>by rw [if_pos he] at hq1; cases hq1) (aI rfl (nn (W_ret (retG1 (v1:=I (i64 (Int.tdiv (i64 ((i64 (n_ + c1)) - 1)) c1))) Tryz.results94 rfl ?_))))))))))
 obtain rfl:=so hF
 exact ⟨rfl,hst⟩
theorem i_DivideConstraint_c {c : Con} {k : Int} {v0_0 : Value} {H : FH} {w : World} {R : List Ass} (hst : Star H w R) (h0_0 : (rS 83 rTerm).rel H [v0_0] c.terms) {r : Con × Bool} (hF : i_DivideConstraint c k = some r) :
 C Tryz.prog 77 #[.agg #[v0_0,I c.bound],I k] w fun v w'=>∃ H' : FH,Le H H'∧∃ (u1 : Value),v = .tuple #[.agg #[u1,I r.1.bound],Bo r.2]∧(rS 83 rTerm).rel H' [u1] r.1.terms∧Star H' w' (R):=by
 unfold i_DivideConstraint at hF
 refine C_enter Tryz.func77 rfl Tryz.ntmps77 rfl (sq (L_box (v:=.agg #[v0_0,I c.bound]) (cs:=#[v0_0,I c.bound]) rfl rfl rfl hst (fun g7 w8 hst=>L_box (v:=I k) (cs:=#[I k]) rfl rfl rfl hst (fun g9 w10 hst=>L_al (cs:=#[S0,I 0]) rfl Tryz.zeroValue54 rfl hst (fun g11 w12 hst=>aB rfl (nq (W_seq ?_)))))))
 obtain ⟨x18,hx18,hF⟩:=bind_some hF
 obtain ⟨b27,hb27,hF⟩:=bind_some hF
 obtain ⟨R28,hR28⟩:=exR fun f w_=>f 2 = Pt g7∧f 3 = Pt g9∧f 4 = Pt g11∧f 13 = Bo b27∧Star H w_ (box g11 54 #[S0,I 0] :: box g9 3 #[I k] :: box g7 54 #[v0_0,I c.bound] :: R)
 refine W_join R28 ?_ ?_
 refine W_region (L_lda (cs:=[v0_0,I c.bound]) rfl Tryz.isAgg54 Tryz.sizeOf54 rfl (At.sub0 (Blk.at (Star.blkAt 2 hst rfl)) 0 2) rfl ?_)
 obtain ⟨H29b,l30,s31,z32,k33⟩:=hst.borrow
 refine L_call rfl Tryz.call67 (ops1 rfl) (i_ConstraintValid_c (c:=c) s31 (RP.mono _ h0_0 l30) hx18) ?_
 rintro _ w34 ⟨rfl,hst⟩
 have hst:=k33 hst c0
 refine L_not_ rfl rfl (mB rfl (L_split (d:=9) (b:=(!x18)) rfl (fun hc35=>?_) (fun hc35=>?_)))
 rw [ite_t hc35] at hb27
 refine ps rfl (ps rfl (ps rfl (L_pick (v:=Bo b27) rfl rfl (congrArg Value.bool (so hb27)) (nn (rj hR28 ⟨rfl,rfl,rfl,rfl,hst⟩)))))
 rw [ite_f hc35] at hb27
 obtain ⟨x25,hx25,hb27⟩:=bind_some hb27
 refine ldB 1 hst Tryz.isAgg3 rfl rfl rfl ?_
 obtain ⟨H36b,l37,s38,z39,k40⟩:=hst.borrow
 refine L_call rfl Tryz.call85 (ops3 rfl rfl rfl) (i_within_c (n_:=k) (low:=1) (high:=1000) s38 hx25) ?_
 rintro _ w41 ⟨rfl,hst⟩
 have hst:=k40 hst c0
 refine L_not_ rfl rfl (L_pick (v:=Bo b27) rfl rfl (congrArg Value.bool (so hb27)) (nn (rj hR28 ⟨rfl,rfl,rfl,rfl,hst⟩)))
 intro f w_ hR
 obtain ⟨sf2,sf3,sf4,sf13,hst⟩:=rk hR28 hR
 refine W_cond (b:=b27) sf13 (fun hc42=>?_) (fun hc42=>?_)
 have hF:=(ite_t hc42).symm.trans hF
 refine sq (L_bld rfl (parts0 ) (bld_54_  ) (L_staB (vs:=#[S0,I 0]) (cs2:=#[S0,I 0]) 0 rfl Tryz.sizeOf54 sf4 rfl rfl (ones_cons rfl (ones_cons rfl ones_nil)) hst rfl (by show 0 + 2≤2; decide) rfl (fun w44 hst=>aB rfl (nn (W_ret (retG2 (v1:=.agg #[S0,I 0]) (v2:=Bo false) Tryz.results77 (resV_agg Tryz.isAgg54 Tryz.sizeOf54 sf4 (Star.blkAt 0 hst rfl) rfl) rfl ?_))))))
 obtain rfl:=so hF
 have hst:=Star.drop 0 hst rfl
 have hst:=Star.drop 0 hst rfl
 have hst:=Star.drop 0 hst rfl
 exact ⟨H,(Le.refl _),S0,rfl,(rel_nil _ _ _),hst⟩
 have hF:=(ite_f hc42).symm.trans hF
 refine W_skip (W_seq ?_)
 obtain ⟨x48,hx48,hF⟩:=bind_some hF
 refine W_region (L_lda (cs:=[v0_0,I c.bound]) rfl Tryz.isAgg54 Tryz.sizeOf54 sf2 (At.sub0 (Blk.at (Star.blkAt 2 hst rfl)) 0 2) rfl (L_mf rfl (ops1 sf3) ?_))
 have hst:=hst.get 1 rfl
 obtain ⟨H51,l52,hst,hz_hat53⟩:=Star.freeze hst
 have hat53 : AtH H51 g9 0 [I k]:=AtH.of hz_hat53
 have hf54 : Fun1 Tryz.prog RP.int false (Value.int .i64) (i_DivideConstraint_1 k) (.func (.func 94) #[] #[Pt g9]) H51:=by
   refine ⟨_,_,rfl,Tryz.call94,fun H_ w_ hE_ hs_ cs_ x_ y_ args_ hr_ hy_ ha_=>?_⟩
   obtain rfl : cs_ = [_]:=hr_
   obtain rfl:=args_of (b:=#[I x_,Pt g9]) ha_
   exact i_DivideConstraint_1_c (c1:=k) (n_:=x_) hs_ (AtH.le (AtH.le hat53 (Le.refl _)) hE_) hy_
 refine L_call rfl Tryz.call92 (ops2 rfl rfl) (i_Constraint_changed_c (c:=c) (change:=(i_DivideConstraint_1 k)) hst (RP.mono _ h0_0 l52) hf54 hx48) ?_
 rintro _ w55 ⟨H55,l55,r55_0,rfl,hr55_0,hst⟩
 refine L_ex (v:=.agg #[r55_0,I x48.1.bound]) rfl rfl rfl (L_ex (v:=Bo x48.2) rfl rfl rfl (L_staB (vs:=#[r55_0,I x48.1.bound]) (cs2:=#[r55_0,I x48.1.bound]) 0 rfl Tryz.sizeOf54 sf4 rfl rfl (ones_cons (one_len (slice_len hr55_0)) (ones_cons rfl ones_nil)) hst rfl (by show 0 + 2≤2; decide) rfl (fun w56 hst=>aB rfl (nn (W_ret (retG2 (v1:=.agg #[r55_0,I x48.1.bound]) (v2:=Bo x48.2) Tryz.results77 (resV_agg Tryz.isAgg54 Tryz.sizeOf54 sf4 (Star.blkAt 0 hst rfl) rfl) rfl ?_))))))
 obtain rfl:=so hF
 have hst:=Star.drop 0 hst rfl
 have hst:=Star.drop 0 hst rfl
 exact ⟨H55,(Le.trans l52 l55),r55_0,rfl,hr55_0,hst⟩
theorem i_SaturateConstraint_c {c : Con} {v0_0 : Value} {H : FH} {w : World} (hst : Star H w []) (h0_0 : (rS 83 rTerm).rel H [v0_0] c.terms) {r : Con × Bool} (hF : i_SaturateConstraint c = some r) :
 C Tryz.prog 78 #[.agg #[v0_0,I c.bound]] w fun v w'=>∃ (u1 : Value),v = .tuple #[.agg #[u1,I r.1.bound],Bo r.2]∧Star H w' [oF 83 rTerm u1 r.1.terms]:=by
 unfold i_SaturateConstraint at hF
 refine C_enter Tryz.func78 rfl Tryz.ntmps78 rfl (sq (L_box (v:=.agg #[v0_0,I c.bound]) (cs:=#[v0_0,I c.bound]) rfl rfl rfl hst (fun g5 w6 hst=>L_al (cs:=#[S0,I 0]) rfl Tryz.zeroValue54 rfl hst (fun g7 w8 hst=>aB rfl (nq (W_seq ?_))))))
 obtain ⟨x14,hx14,hF⟩:=bind_some hF
 refine W_region (L_lda (cs:=[v0_0,I c.bound]) rfl Tryz.isAgg54 Tryz.sizeOf54 rfl (At.sub0 (Blk.at (Star.blkAt 1 hst rfl)) 0 2) rfl ?_)
 obtain ⟨H16b,l17,s18,z19,k20⟩:=hst.borrow
 refine L_call rfl Tryz.call67 (ops1 rfl) (i_ConstraintValid_c (c:=c) s18 (RP.mono _ h0_0 l17) hx14) ?_
 rintro _ w21 ⟨rfl,hst⟩
 have hst:=k20 hst c0
 refine L_not_ rfl rfl (nn (W_cond (b:=(!x14)) rfl (fun hc22=>?_) (fun hc22=>?_)))
 have hF:=(ite_t hc22).symm.trans hF
 refine sq (L_bld rfl (parts0 ) (bld_54_  ) (L_staB (vs:=#[S0,I 0]) (cs2:=#[S0,I 0]) 0 rfl Tryz.sizeOf54 rfl rfl rfl (ones_cons rfl (ones_cons rfl ones_nil)) hst rfl (by show 0 + 2≤2; decide) rfl (fun w24 hst=>aB rfl (nn (W_ret (retG2 (v1:=.agg #[S0,I 0]) (v2:=Bo false) Tryz.results78 (resV_agg Tryz.isAgg54 Tryz.sizeOf54 rfl (Star.blkAt 0 hst rfl) rfl) rfl ?_))))))
 obtain rfl:=so hF
 have hst:=Star.addNil (R:=(OR.frz rTerm)) (e:=83) hst
 exact ⟨S0,rfl,(Star.keepN 1 hst)⟩
 have hF:=(ite_f hc22).symm.trans hF
 refine W_skip (sq (fA 1 fa_54_1 rfl rfl (ldB 1 hst Tryz.isAgg3 rfl rfl rfl (L_bld rfl (parts1 rfl) (bld_54_1 (I c.bound) rfl) (L_al (cs:=#[S0,I 0]) rfl Tryz.zeroValue54 rfl hst (fun g29 w30 hst=>L_staB (vs:=#[S0,I c.bound]) (cs2:=#[S0,I c.bound]) 0 rfl Tryz.sizeOf54 rfl rfl rfl (ones_cons rfl (ones_cons rfl ones_nil)) hst rfl (by show 0 + 2≤2; decide) rfl (fun w31 hst=>nq (sq (fA 1 fa_54_1 rfl rfl (ldB 2 hst Tryz.isAgg3 rfl rfl rfl (L_gtr rfl rfl rfl (nn ?_))))))))))))
 obtain ⟨g29_0_32,hA34,hF⟩:=bind_some hF
 obtain ⟨R34,hR34⟩:=exR fun f w_=>∃ v32_g29_0 : Value,f 2 = Pt g7∧f 4 = Pt g29∧Star H w_ ([oF 83 rTerm v32_g29_0 g29_0_32,box g29 54 #[v32_g29_0,I c.bound],box g7 54 #[S0,I 0]])
 refine W_join R34 ?_ ?_
 refine W_cond (b:=decide (c.bound > 0)) rfl (fun hc35=>?_) (fun hc35=>?_)
 have hA34:=(ite_t hc35).symm.trans hA34
 refine sq (fA 0 fa_54_0 rfl rfl (ldB 2 hst Tryz.isAgg52 rfl rfl rfl (L_len rfl Tryz.underlying52 rfl (slice_len h0_0) (mI rfl (nn ?_)))))
 have hlen39 : List.length c.terms≤9223372036854775807:=len_le (slice_len h0_0)
 obtain ⟨j39,hL39,hA34⟩:=bind_some hA34
 obtain ⟨R39,hR39⟩:=exR fun f w_=>∃ g29_0_37 : List Term,∃ v37_g29_0 : Value,j39 = .nx g29_0_37∧f 2 = Pt g7∧f 4 = Pt g29∧Star H w_ ([oF 83 rTerm v37_g29_0 g29_0_37,box g29 54 #[v37_g29_0,I c.bound],box g7 54 #[S0,I 0]])
 refine W_join R39 ?_ ?_
 refine W_block ?_
 obtain ⟨I39,hI39⟩:=exI fun n f w_=>∃ i_36 : Nat,∃ suf39 : List Term,∃ g29_0_37 : List Term,∃ v37_g29_0 : Value,n = suf39.length∧List.drop i_36 c.terms = suf39∧i_36 + suf39.length = c.terms.length∧rangeL (i_SaturateConstraint_b1 c) suf39 i_36 g29_0_37 = some j39∧f 1 = Pt g5∧f 2 = Pt g7∧f 4 = Pt g29∧f 18 = v0_0∧f 19 = I (c.terms.length : Int)∧f 20 = I i_36∧Star H w_ ([oF 83 rTerm v37_g29_0 g29_0_37,box g29 54 #[v37_g29_0,I c.bound],box g7 54 #[S0,I 0],box g5 54 #[v0_0,I c.bound]])
 have hst:=Star.addNil (R:=(OR.frz rTerm)) (e:=83) hst
 refine W_loop I39 (n:=c.terms.length) ?_ ?_
 exact ij hI39 ⟨0,c.terms,[],S0,rfl,rfl,Nat.zero_add _,hL39,rfl,rfl,rfl,rfl,rfl,rfl,hst⟩
 intro n39 f w_ hI
 obtain ⟨i_36,suf39,g29_0_37,v37_g29_0,rfl,hd39,hl39,hL39,sf1,sf2,sf4,sf18,sf19,sf20,hst⟩:=ik hI39 hI
 refine sq (L_lss rfl sf20 sf19 (nq (W_cond (b:=decide ((i_36 : Int) < (c.terms.length : Int))) rfl (fun hc41=>?_) (fun hc41=>?_))))
 have hlt39:=of_decide_eq_true hc41
 rcases suf39 with _ | ⟨x_39,rest39⟩
 exact absurd hlt39 (by simp at hl39; omega)
 obtain ⟨o39,hB39,hL39⟩:=range_cons hL39
 rw [i_SaturateConstraint_b1] at hB39
 have hix39:=drop_idx hd39
 refine W_skip (W_seq (W_block (sq (L_ix (r:=rTerm) rfl Tryz.underlying52 Tryz.sizeOf83 sf18 h0_0 sf20 hix39 (fun g49 o50 cs_g49 hrk_hat51 hat51=>?_)))))
 obtain rfl:=rTerm_iff.1 hrk_hat51
 refine L_lda (cs:=[I x_39.coef,I x_39.lit]) rfl Tryz.isAgg83 Tryz.sizeOf83 rfl (At.sub (AtH.at hat51 hst.sub) 0 2) rfl (L_al (cs:=#[I 0,I 0]) rfl Tryz.zeroValue83 rfl hst (fun g53 w54 hst=>L_staB (vs:=#[I x_39.coef,I x_39.lit]) (cs2:=#[I x_39.coef,I x_39.lit]) 0 rfl Tryz.sizeOf83 rfl rfl rfl (ones_cons rfl (ones_cons rfl ones_nil)) hst rfl (by show 0 + 2≤2; decide) rfl (fun w55 hst=>nn ?_)))
 obtain ⟨x59,hx59,hB39⟩:=bind_some hB39
 refine W_region (fA 0 fa_54_0 sf4 rfl (ldB 2 hst Tryz.isAgg52 rfl rfl rfl (fA 0 fa_83_0 rfl rfl (ldB 0 hst Tryz.isAgg3 rfl rfl rfl (fA 1 fa_54_1 sf1 rfl (ldB 4 hst Tryz.isAgg3 rfl rfl rfl (L_min rfl rfl rfl (fA 1 fa_83_1 rfl rfl (ldB 0 hst Tryz.isAgg3 rfl rfl rfl (L_bld rfl (parts2 rfl rfl) (bld_83_0_1 (I (min x_39.coef c.bound)) (I x_39.lit) rfl rfl) (L_bs rfl (parts1 rfl) (bs_52_1_2 (I (min x_39.coef c.bound)) (I x_39.lit) ) hst (fun g64 w65 hst=>?_))))))))))))
 have hst:=Star.addF (r:=rTerm) (cs:=[I (min x_39.coef c.bound),I x_39.lit]) (x:=({ coef:=min x_39.coef c.bound,lit:=x_39.lit } : Term)) hst (rTerm_iff.2 rfl)
 have hst:=Star.mkRow (R:=(OR.frz rTerm)) [([I (min x_39.coef c.bound),I x_39.lit],({ coef:=min x_39.coef c.bound,lit:=x_39.lit } : Term))] [({ coef:=min x_39.coef c.bound,lit:=x_39.lit } : Term)] 1 hst rfl rfl rfl (by decide)
 have hst:=hst.get 2 rfl
 refine L_appM (v:=v37_g29_0) (u:=(Sl g64 1 1)) rfl et_52 rfl rfl hst hx59 (fun v67 w68 hst=>fA 0 fa_54_0 sf4 rfl (L_stB (v:=v67) (cs2:=#[v67,I c.bound]) 2 rfl Tryz.sizeOf52 rfl rfl (one_len (Star.len 0 hst rfl)) hst rfl rfl rfl (fun w70 hst=>nn (W_region (L_add rfl sf20 rfl (mI rfl (nn ?_)))))))
 obtain rfl:=so hB39
 have hst:=hst.gets [4,4,2,3] rfl
 show ∃ m,m < _∧I39 m _ _
 refine ⟨rest39.length,by simp,?_⟩
 exact ij hI39 ⟨i_36 + 1,rest39,x59,v67,rfl,drop_next hd39,by simp at hl39; omega,hL39,sf1,sf2,sf4,sf18,sf19,(Eq.trans rfl (congrArg (Value.int .i64) (i64_succ (n:=c.terms.length) (by simp at hl39; omega) hlen39))),(Star.keepN 4 hst)⟩
 rcases suf39 with _ | ⟨_,_⟩
 obtain rfl:=range_nil hL39
 refine W_exit (rj hR39 ⟨g29_0_37,v37_g29_0,rfl,sf2,sf4,(Star.keepN 3 hst)⟩)
 exact absurd (of_decide_eq_false hc41) (by simp at hl39; omega)
 intro f w_ hR
 obtain ⟨g29_0_37,v37_g29_0,rfl,sf2,sf4,hst⟩:=rk hR39 hR
 obtain rfl:=so hA34
 exact rj hR34 ⟨v37_g29_0,sf2,sf4,hst⟩
 have hA34:=(ite_f hc35).symm.trans hA34
 refine W_skip ?_
 obtain rfl:=so hA34
 have hst:=Star.addNil (R:=(OR.frz rTerm)) (e:=83) hst
 exact rj hR34 ⟨S0,rfl,rfl,(Star.keepN 3 hst)⟩
 intro f w_ hR
 obtain ⟨v32_g29_0,sf2,sf4,hst⟩:=rk hR34 hR
 refine sq (L_lda (cs:=[v32_g29_0,I c.bound]) rfl Tryz.isAgg54 Tryz.sizeOf54 sf4 (At.sub0 (Blk.at (Star.blkAt 1 hst rfl)) 0 2) rfl (L_staB (vs:=#[v32_g29_0,I c.bound]) (cs2:=#[v32_g29_0,I c.bound]) 2 rfl Tryz.sizeOf54 sf2 rfl rfl (ones_cons (one_len (Star.len 0 hst rfl)) (ones_cons rfl ones_nil)) hst rfl (by show 0 + 2≤2; decide) rfl (fun w73 hst=>aB rfl (nn (W_ret (retG2 (v1:=.agg #[v32_g29_0,I c.bound]) (v2:=Bo true) Tryz.results78 (resV_agg Tryz.isAgg54 Tryz.sizeOf54 sf2 (Star.blkAt 0 hst rfl) rfl) rfl ?_))))))
 obtain rfl:=so hF
 have hst:=hst.get 1 rfl
 exact ⟨v32_g29_0,rfl,(Star.keepN 1 hst)⟩
theorem i_WeakenConstraint_c {c : Con} {variable_ : Int} {v0_0 : Value} {H : FH} {w : World} (hst : Star H w []) (h0_0 : (rS 83 rTerm).rel H [v0_0] c.terms) {r : Con × Bool} (hF : i_WeakenConstraint c variable_ = some r) :
 C Tryz.prog 79 #[.agg #[v0_0,I c.bound],I variable_] w fun v w'=>∃ (u1 : Value),v = .tuple #[.agg #[u1,I r.1.bound],Bo r.2]∧Star H w' [oF 83 rTerm u1 r.1.terms]:=by
 unfold i_WeakenConstraint at hF
 refine C_enter Tryz.func79 rfl Tryz.ntmps79 rfl (sq (L_box (v:=.agg #[v0_0,I c.bound]) (cs:=#[v0_0,I c.bound]) rfl rfl rfl hst (fun g5 w6 hst=>L_al (cs:=#[S0,I 0]) rfl Tryz.zeroValue54 rfl hst (fun g7 w8 hst=>aB rfl (nq (W_seq ?_))))))
 obtain ⟨x14,hx14,hF⟩:=bind_some hF
 obtain ⟨b23,hb23,hF⟩:=bind_some hF
 obtain ⟨R24,hR24⟩:=exR fun f w_=>f 1 = I variable_∧f 2 = Pt g5∧f 4 = Pt g7∧f 16 = Bo b23∧Star H w_ ([box g7 54 #[S0,I 0],box g5 54 #[v0_0,I c.bound]])
 refine W_join R24 ?_ ?_
 refine W_region (L_lda (cs:=[v0_0,I c.bound]) rfl Tryz.isAgg54 Tryz.sizeOf54 rfl (At.sub0 (Blk.at (Star.blkAt 1 hst rfl)) 0 2) rfl ?_)
 obtain ⟨H25b,l26,s27,z28,k29⟩:=hst.borrow
 refine L_call rfl Tryz.call67 (ops1 rfl) (i_ConstraintValid_c (c:=c) s27 (RP.mono _ h0_0 l26) hx14) ?_
 rintro _ w30 ⟨rfl,hst⟩
 have hst:=k29 hst c0
 refine L_not_ rfl rfl (mB rfl (L_split (d:=12) (b:=(!x14)) rfl (fun hc31=>?_) (fun hc31=>?_)))
 rw [ite_t hc31] at hb23
 refine ps rfl (ps rfl (ps rfl (L_pick (v:=Bo b23) rfl rfl (congrArg Value.bool (so hb23)) (nn (rj hR24 ⟨rfl,rfl,rfl,rfl,hst⟩)))))
 rw [ite_f hc31] at hb23
 obtain ⟨x21,hx21,hb23⟩:=bind_some hb23
 refine mI rfl ?_
 obtain ⟨H32b,l33,s34,z35,k36⟩:=hst.borrow
 refine L_call rfl Tryz.call85 (ops3 rfl rfl rfl) (i_within_c (n_:=variable_) (low:=1) (high:=12) s34 hx21) ?_
 rintro _ w37 ⟨rfl,hst⟩
 have hst:=k36 hst c0
 refine L_not_ rfl rfl (L_pick (v:=Bo b23) rfl rfl (congrArg Value.bool (so hb23)) (nn (rj hR24 ⟨rfl,rfl,rfl,rfl,hst⟩)))
 intro f w_ hR
 obtain ⟨sf1,sf2,sf4,sf16,hst⟩:=rk hR24 hR
 refine W_cond (b:=b23) sf16 (fun hc38=>?_) (fun hc38=>?_)
 have hF:=(ite_t hc38).symm.trans hF
 refine sq (L_bld rfl (parts0 ) (bld_54_  ) (L_staB (vs:=#[S0,I 0]) (cs2:=#[S0,I 0]) 0 rfl Tryz.sizeOf54 sf4 rfl rfl (ones_cons rfl (ones_cons rfl ones_nil)) hst rfl (by show 0 + 2≤2; decide) rfl (fun w40 hst=>aB rfl (nn (W_ret (retG2 (v1:=.agg #[S0,I 0]) (v2:=Bo false) Tryz.results79 (resV_agg Tryz.isAgg54 Tryz.sizeOf54 sf4 (Star.blkAt 0 hst rfl) rfl) rfl ?_))))))
 obtain rfl:=so hF
 have hst:=Star.addNil (R:=(OR.frz rTerm)) (e:=83) hst
 exact ⟨S0,rfl,(Star.keepN 1 hst)⟩
 have hF:=(ite_f hc38).symm.trans hF
 refine W_skip (sq (fA 1 fa_54_1 sf2 rfl (ldB 1 hst Tryz.isAgg3 rfl rfl rfl (L_bld rfl (parts1 rfl) (bld_54_1 (I c.bound) rfl) (L_al (cs:=#[S0,I 0]) rfl Tryz.zeroValue54 rfl hst (fun g45 w46 hst=>L_staB (vs:=#[S0,I c.bound]) (cs2:=#[S0,I c.bound]) 0 rfl Tryz.sizeOf54 rfl rfl rfl (ones_cons rfl (ones_cons rfl ones_nil)) hst rfl (by show 0 + 2≤2; decide) rfl (fun w47 hst=>nq (sq (fA 0 fa_54_0 sf2 rfl (ldB 2 hst Tryz.isAgg52 rfl rfl rfl (L_len rfl Tryz.underlying52 rfl (slice_len h0_0) (mI rfl (nn ?_)))))))))))))
 have hlen52 : List.length c.terms≤9223372036854775807:=len_le (slice_len h0_0)
 obtain ⟨j52,hL52,hF⟩:=bind_some hF
 obtain ⟨R52,hR52⟩:=exR fun f w_=>∃ g45_0_49 : List Term,∃ g45_1_51 : Int,∃ v49_g45_0 : Value,j52 = .nx (g45_0_49,g45_1_51)∧f 4 = Pt g7∧f 6 = Pt g45∧Star H w_ ([oF 83 rTerm v49_g45_0 g45_0_49,box g45 54 #[v49_g45_0,I g45_1_51],box g7 54 #[S0,I 0]])
 refine W_join R52 ?_ ?_
 refine W_block ?_
 obtain ⟨I52,hI52⟩:=exI fun n f w_=>∃ i_48 : Nat,∃ suf52 : List Term,∃ g45_0_49 : List Term,∃ g45_1_51 : Int,∃ v49_g45_0 : Value,n = suf52.length∧List.drop i_48 c.terms = suf52∧i_48 + suf52.length = c.terms.length∧rangeL (i_WeakenConstraint_b1 c variable_) suf52 i_48 (g45_0_49,g45_1_51) = some j52∧f 1 = I variable_∧f 2 = Pt g5∧f 4 = Pt g7∧f 6 = Pt g45∧f 22 = v0_0∧f 23 = I (c.terms.length : Int)∧f 24 = I i_48∧Star H w_ ([oF 83 rTerm v49_g45_0 g45_0_49,box g45 54 #[v49_g45_0,I g45_1_51],box g7 54 #[S0,I 0],box g5 54 #[v0_0,I c.bound]])
 have hst:=Star.addNil (R:=(OR.frz rTerm)) (e:=83) hst
 refine W_loop I52 (n:=c.terms.length) ?_ ?_
 exact ij hI52 ⟨0,c.terms,[],c.bound,S0,rfl,rfl,Nat.zero_add _,hL52,sf1,sf2,sf4,rfl,rfl,rfl,rfl,hst⟩
 intro n52 f w_ hI
 obtain ⟨i_48,suf52,g45_0_49,g45_1_51,v49_g45_0,rfl,hd52,hl52,hL52,sf1,sf2,sf4,sf6,sf22,sf23,sf24,hst⟩:=ik hI52 hI
 refine sq (L_lss rfl sf24 sf23 (nq (W_cond (b:=decide ((i_48 : Int) < (c.terms.length : Int))) rfl (fun hc54=>?_) (fun hc54=>?_))))
 have hlt52:=of_decide_eq_true hc54
 rcases suf52 with _ | ⟨x_52,rest52⟩
 exact absurd hlt52 (by simp at hl52; omega)
 obtain ⟨o52,hB52,hL52⟩:=range_cons hL52
 rw [i_WeakenConstraint_b1] at hB52
 have hix52:=drop_idx hd52
 refine W_skip (W_seq (W_block (sq (L_ix (r:=rTerm) rfl Tryz.underlying52 Tryz.sizeOf83 sf22 h0_0 sf24 hix52 (fun g62 o63 cs_g62 hrk_hat64 hat64=>?_)))))
 obtain rfl:=rTerm_iff.1 hrk_hat64
 refine L_lda (cs:=[I x_52.coef,I x_52.lit]) rfl Tryz.isAgg83 Tryz.sizeOf83 rfl (At.sub (AtH.at hat64 hst.sub) 0 2) rfl (L_al (cs:=#[I 0,I 0]) rfl Tryz.zeroValue83 rfl hst (fun g66 w67 hst=>L_staB (vs:=#[I x_52.coef,I x_52.lit]) (cs2:=#[I x_52.coef,I x_52.lit]) 0 rfl Tryz.sizeOf83 rfl rfl rfl (ones_cons rfl (ones_cons rfl ones_nil)) hst rfl (by show 0 + 2≤2; decide) rfl (fun w68 hst=>nq ?_)))
 obtain ⟨x74,hx74,hB52⟩:=bind_some hB52
 refine W_region (fA 1 fa_83_1 rfl rfl (ldB 0 hst Tryz.isAgg3 rfl rfl rfl ?_))
 obtain ⟨H76b,l77,s78,z79,k80⟩:=hst.borrow
 refine L_call rfl Tryz.call84 (ops1 rfl) (i_variableOf_c (l:=x_52.lit) s78 hx74) ?_
 rintro _ w81 ⟨rfl,hst⟩
 have hst:=k80 hst c0
 refine mF sf1 rfl (L_eql rfl rfl rfl (nn ?_))
 obtain ⟨⟨g45_0_82,g45_1_84⟩,hA85,hB52⟩:=bind_some hB52
 obtain ⟨R85,hR85⟩:=exR fun f w_=>∃ v82_g45_0 : Value,f 1 = I variable_∧f 2 = Pt g5∧f 4 = Pt g7∧f 6 = Pt g45∧f 22 = v0_0∧f 23 = I (c.terms.length : Int)∧f 24 = I i_48∧Star H w_ ([oF 83 rTerm v82_g45_0 g45_0_82,box g45 54 #[v82_g45_0,I g45_1_84],box g7 54 #[S0,I 0],box g5 54 #[v0_0,I c.bound]])
 refine W_join R85 ?_ ?_
 refine W_cond (b:=(x74 == variable_)) rfl (fun hc86=>?_) (fun hc86=>?_)
 have hA85:=(ite_t hc86).symm.trans hA85
 refine W_region (fA 1 fa_54_1 sf2 rfl (ldB 4 hst Tryz.isAgg3 rfl rfl rfl (fA 0 fa_83_0 rfl rfl (ldB 0 hst Tryz.isAgg3 rfl rfl rfl (L_sub rfl rfl rfl (L_max rfl rfl rfl (fA 1 fa_54_1 sf6 rfl (L_stB (v:=I (max 0 (i64 (c.bound - x_52.coef)))) (cs2:=#[v49_g45_0,I (max 0 (i64 (c.bound - x_52.coef)))]) 2 rfl Tryz.sizeOf3 rfl rfl rfl hst rfl rfl rfl (fun w88 hst=>nn ?_)))))))))
 obtain ⟨rfl,rfl⟩:=so2 hA85
 have hst:=hst.gets [4,4,2,4] rfl
 exact rj hR85 ⟨v49_g45_0,sf1,sf2,sf4,sf6,sf22,sf23,sf24,(Star.keepN 4 hst)⟩
 have hA85:=(ite_f hc86).symm.trans hA85
 obtain ⟨x92,hx92,hA85⟩:=bind_some hA85
 refine W_region (fA 0 fa_54_0 sf6 rfl (ldB 2 hst Tryz.isAgg52 rfl rfl rfl (L_lda (cs:=[I x_52.coef,I x_52.lit]) rfl Tryz.isAgg83 Tryz.sizeOf83 rfl (At.sub0 (Blk.at (Star.blkAt 0 hst rfl)) 0 2) rfl (L_bs rfl (parts1 rfl) (bs_52_1_2 (I x_52.coef) (I x_52.lit) ) hst (fun g97 w98 hst=>?_)))))
 have hst:=Star.addF (r:=rTerm) (cs:=[I x_52.coef,I x_52.lit]) (x:=x_52) hst (rTerm_iff.2 rfl)
 have hst:=Star.mkRow (R:=(OR.frz rTerm)) [([I x_52.coef,I x_52.lit],x_52)] [x_52] 1 hst rfl rfl rfl (by decide)
 have hst:=hst.get 2 rfl
 refine L_appM (v:=v49_g45_0) (u:=(Sl g97 1 1)) rfl et_52 rfl rfl hst hx92 (fun v100 w101 hst=>fA 0 fa_54_0 sf6 rfl (L_stB (v:=v100) (cs2:=#[v100,I g45_1_51]) 2 rfl Tryz.sizeOf52 rfl rfl (one_len (Star.len 0 hst rfl)) hst rfl rfl rfl (fun w103 hst=>nn ?_)))
 obtain ⟨rfl,rfl⟩:=so2 hA85
 have hst:=hst.gets [4,4,2,3] rfl
 exact rj hR85 ⟨v100,sf1,sf2,sf4,sf6,sf22,sf23,sf24,(Star.keepN 4 hst)⟩
 intro f w_ hR
 obtain ⟨v82_g45_0,sf1,sf2,sf4,sf6,sf22,sf23,sf24,hst⟩:=rk hR85 hR
 refine W_region (L_add rfl sf24 rfl (mI rfl (nn ?_)))
 obtain rfl:=so hB52
 show ∃ m,m < _∧I52 m _ _
 refine ⟨rest52.length,by simp,?_⟩
 exact ij hI52 ⟨i_48 + 1,rest52,g45_0_82,g45_1_84,v82_g45_0,rfl,drop_next hd52,by simp at hl52; omega,hL52,sf1,sf2,sf4,sf6,sf22,sf23,(Eq.trans rfl (congrArg (Value.int .i64) (i64_succ (n:=c.terms.length) (by simp at hl52; omega) hlen52))),hst⟩
 rcases suf52 with _ | ⟨_,_⟩
 obtain rfl:=range_nil hL52
 refine W_exit (rj hR52 ⟨g45_0_49,g45_1_51,v49_g45_0,rfl,sf4,sf6,(Star.keepN 3 hst)⟩)
 exact absurd (of_decide_eq_false hc54) (by simp at hl52; omega)
 intro f w_ hR
 obtain ⟨g45_0_49,g45_1_51,v49_g45_0,rfl,sf4,sf6,hst⟩:=rk hR52 hR
 refine sq (L_lda (cs:=[v49_g45_0,I g45_1_51]) rfl Tryz.isAgg54 Tryz.sizeOf54 sf6 (At.sub0 (Blk.at (Star.blkAt 1 hst rfl)) 0 2) rfl (L_staB (vs:=#[v49_g45_0,I g45_1_51]) (cs2:=#[v49_g45_0,I g45_1_51]) 2 rfl Tryz.sizeOf54 sf4 rfl rfl (ones_cons (one_len (Star.len 0 hst rfl)) (ones_cons rfl ones_nil)) hst rfl (by show 0 + 2≤2; decide) rfl (fun w105 hst=>aB rfl (nn (W_ret (retG2 (v1:=.agg #[v49_g45_0,I g45_1_51]) (v2:=Bo true) Tryz.results79 (resV_agg Tryz.isAgg54 Tryz.sizeOf54 sf4 (Star.blkAt 0 hst rfl) rfl) rfl ?_))))))
 obtain rfl:=so hF
 have hst:=hst.get 1 rfl
 exact ⟨v49_g45_0,rfl,(Star.keepN 1 hst)⟩
theorem i_LiteralAxiom_c {lit : Int} {H : FH} {w : World} (hst : Star H w []) {r : Con × Bool} (hF : i_LiteralAxiom lit = some r) :
 C Tryz.prog 80 #[I lit] w fun v w'=>∃ (u1 : Value),v = .tuple #[.agg #[u1,I r.1.bound],Bo r.2]∧Star H w' [oF 83 rTerm u1 r.1.terms]:=by
 unfold i_LiteralAxiom at hF
 refine C_enter Tryz.func80 rfl Tryz.ntmps80 rfl (sq (L_al (cs:=#[S0,I 0]) rfl Tryz.zeroValue54 rfl hst (fun g3 w4 hst=>aB rfl (nq (W_seq ?_)))))
 obtain ⟨x10,hx10,hF⟩:=bind_some hF
 refine W_region (mI rfl ?_)
 obtain ⟨H12b,l13,s14,z15,k16⟩:=hst.borrow
 refine L_call rfl Tryz.call83 (ops1 rfl) (i_isLiteral_c (l:=lit) s14 hx10) ?_
 rintro _ w17 ⟨rfl,hst⟩
 have hst:=k16 hst c0
 refine L_not_ rfl rfl (nn (W_cond (b:=(!x10)) rfl (fun hc18=>?_) (fun hc18=>?_)))
 have hF:=(ite_t hc18).symm.trans hF
 refine sq (L_bld rfl (parts0 ) (bld_54_  ) (L_staB (vs:=#[S0,I 0]) (cs2:=#[S0,I 0]) 0 rfl Tryz.sizeOf54 rfl rfl rfl (ones_cons rfl (ones_cons rfl ones_nil)) hst rfl (by show 0 + 2≤2; decide) rfl (fun w20 hst=>aB rfl (nn (W_ret (retG2 (v1:=.agg #[S0,I 0]) (v2:=Bo false) Tryz.results80 (resV_agg Tryz.isAgg54 Tryz.sizeOf54 rfl (Star.blkAt 0 hst rfl) rfl) rfl ?_))))))
 obtain rfl:=so hF
 have hst:=Star.addNil (R:=(OR.frz rTerm)) (e:=83) hst
 exact ⟨S0,rfl,(Star.keepN 1 hst)⟩
 have hF:=(ite_f hc18).symm.trans hF
 refine W_skip (sq (mI rfl (L_bld rfl (parts2 rfl rfl) (bld_83_0_1 (I 1) (I lit) rfl rfl) (L_bs rfl (parts1 rfl) (bs_52_1_2 (I 1) (I lit) ) hst (fun g26 w27 hst=>?_)))))
 have hst:=Star.addF (r:=rTerm) (cs:=[I 1,I lit]) (x:=({ coef:=1,lit:=lit } : Term)) hst (rTerm_iff.2 rfl)
 have hst:=Star.mkRow (R:=(OR.frz rTerm)) [([I 1,I lit],({ coef:=1,lit:=lit } : Term))] [({ coef:=1,lit:=lit } : Term)] 1 hst rfl rfl rfl (by decide)
 refine L_bld rfl (parts1 rfl) (bld_54_0 ((Sl g26 1 1)) (one_len (Star.len 0 hst rfl))) (L_staB (vs:=#[(Sl g26 1 1),I 0]) (cs2:=#[(Sl g26 1 1),I 0]) 1 rfl Tryz.sizeOf54 rfl rfl rfl (ones_cons (one_len (Star.len 0 hst rfl)) (ones_cons rfl ones_nil)) hst rfl (by show 0 + 2≤2; decide) rfl (fun w29 hst=>aB rfl (nn (W_ret (retG2 (v1:=.agg #[(Sl g26 1 1),I 0]) (v2:=Bo true) Tryz.results80 (resV_agg Tryz.isAgg54 Tryz.sizeOf54 rfl (Star.blkAt 0 hst rfl) rfl) rfl ?_)))))
 obtain rfl:=so hF
 have hst:=hst.get 1 rfl
 exact ⟨(Sl g26 1 1),rfl,(Star.keepN 1 hst)⟩
theorem slices_Clone_int_c {s : List Int} {v0 : Value} {H : FH} {w : World} (hst : Star H w []) (h0 : (rS 3 RP.int).rel H [v0] s) {r : List Int} (hF : slices_Clone_int s = some r) :
 C Tryz.prog 101 #[v0] w fun v w'=>∃ (u1 : Value),v = u1∧Star H w' [oF 3 RP.int u1 r]:=by
 unfold slices_Clone_int at hF
 refine C_enter Tryz.func101 rfl Tryz.ntmps101 rfl (sq (aV S0 rfl (nq (sq (mV v0 rfl ?_)))))
 obtain ⟨a1,cap1,hsl1,_,_⟩:=(slice_len h0)
 refine L_nileq (a:=a1) rfl Tryz.underlying51 (Eq.trans rfl hsl1) rfl ?_
 rw [← hsl1]
 refine nn ?_
 rcases Bool.eq_false_or_eq_true (isNilS v0) with hn2 | hn2
 refine W_cond (b:=true) (Eq.trans rfl (congrArg Value.bool hn2)) (fun _=>?_) (fun h=>nomatch h)
 obtain rfl:=nil_of h0 hn2
 refine sq (aV S0 rfl (nn (W_ret (retG1 (v1:=S0) Tryz.results101 rfl ?_))))
 simp [app] at hF
 subst hF
 have hst:=Star.addNil (R:=(OR.frz RP.int)) (e:=3) hst
 exact ⟨S0,rfl,hst⟩
 refine W_cond (b:=false) (Eq.trans rfl (congrArg Value.bool hn2)) (fun h=>nomatch h) (fun _=>?_)
 refine W_skip (W_seq ?_)
 obtain ⟨x7,hx7,hF⟩:=bind_some hF
 refine W_region (L_bs rfl parts0 (bs_51_0  ) hst (fun g11 w12 hst=>?_))
 have hst:=Star.mkRow (R:=(OR.frz RP.int)) [] [] 0 hst rfl rfl rfl (by decide)
 refine mV v0 rfl (L_app (v:=(Sl g11 0 0)) (u:=v0) rfl et_51 rfl rfl hst h0 hx7 (fun v14 w15 hst=>aV v14 rfl (nn (W_ret (retG1 (v1:=v14) Tryz.results101 rfl ?_)))))
 obtain rfl:=so hF
 exact ⟨v14,rfl,hst⟩
theorem i_under_c {l : Int} {p : List Int} {v1 : Value} {H : FH} {w : World} (hst : Star H w []) (h1 : (rS 3 RP.int).rel H [v1] p) {r : Int} (hF : i_under l p = some r) :
 C Tryz.prog 104 #[I l,v1] w fun v w'=>v = I r∧Star H w' []:=by
 unfold i_under at hF
 refine C_enter Tryz.func104 rfl Tryz.ntmps104 rfl (sq (aI rfl (nq (sq (mI rfl (L_lss rfl rfl rfl (nn (W_cond (b:=decide (l < 0)) rfl (fun hc1=>?_) (fun hc1=>?_)))))))))
 have hF:=(ite_t hc1).symm.trans hF
 refine W_seq ?_
 obtain ⟨x2,hx2,hF⟩:=bind_some hF
 refine W_region (mV v1 rfl (mI rfl (L_neg rfl rfl (L_sub rfl rfl rfl (L_ix (r:=RP.int) rfl Tryz.underlying51 Tryz.sizeOf3 rfl h1 rfl hx2 (fun g7 o8 cs_g7 hrk_hat9 hat9=>?_))))))
 obtain rfl : _ = [_]:=hrk_hat9
 refine L_ld rfl Tryz.isAgg3 rfl (At.cell (AtH.at hat9 hst.sub) (j:=0) rfl) (L_neg rfl rfl (aI rfl (nn (W_ret (retG1 (v1:=I (i64 (-x2))) Tryz.results104 rfl ?_)))))
 obtain rfl:=so hF
 exact ⟨rfl,hst⟩
 have hF:=(ite_f hc1).symm.trans hF
 refine W_skip (W_seq ?_)
 obtain ⟨x11,hx11,hF⟩:=bind_some hF
 refine W_region (mV v1 rfl (mI rfl (L_sub rfl rfl rfl (L_ix (r:=RP.int) rfl Tryz.underlying51 Tryz.sizeOf3 rfl h1 rfl hx11 (fun g16 o17 cs_g16 hrk_hat18 hat18=>?_)))))
 obtain rfl : _ = [_]:=hrk_hat18
 refine L_ld rfl Tryz.isAgg3 rfl (At.cell (AtH.at hat18 hst.sub) (j:=0) rfl) (aI rfl (nn (W_ret (retG1 (v1:=I x11) Tryz.results104 rfl ?_))))
 obtain rfl:=so hF
 exact ⟨rfl,hst⟩
theorem i_Constraint_slack_c {c : Con} {p : List Int} {v0_0 : Value} {v1 : Value} {H : FH} {w : World} (hst : Star H w []) (h0_0 : (rS 83 rTerm).rel H [v0_0] c.terms) (h1 : (rS 3 RP.int).rel H [v1] p) {r : Int} (hF : i_Constraint_slack c p = some r) :
 C Tryz.prog 102 #[.agg #[v0_0,I c.bound],v1] w fun v w'=>v = I r∧Star H w' []:=by
 unfold i_Constraint_slack at hF
 refine C_enter Tryz.func102 rfl Tryz.ntmps102 rfl (sq (L_box (v:=.agg #[v0_0,I c.bound]) (cs:=#[v0_0,I c.bound]) rfl rfl rfl hst (fun g3 w4 hst=>aI rfl (ns (fA 1 fa_54_1 rfl rfl (ldB 0 hst Tryz.isAgg3 rfl rfl rfl (L_neg rfl rfl (aI rfl (nq (sq (fA 0 fa_54_0 rfl rfl (ldB 0 hst Tryz.isAgg52 rfl rfl rfl (L_len rfl Tryz.underlying52 rfl (slice_len h0_0) (mI rfl (nn ?_)))))))))))))))
 have hlen7 : List.length c.terms≤9223372036854775807:=len_le (slice_len h0_0)
 obtain ⟨j7,hL7,hF⟩:=bind_some hF
 obtain ⟨R7,hR7⟩:=exR fun f w_=>∃ out_6 : Int,j7 = .nx out_6∧f 5 = I out_6∧Star H w_ ([])
 refine W_join R7 ?_ ?_
 refine W_block ?_
 obtain ⟨I7,hI7⟩:=exI fun n f w_=>∃ i_5 : Nat,∃ suf7 : List Term,∃ out_6 : Int,n = suf7.length∧List.drop i_5 c.terms = suf7∧i_5 + suf7.length = c.terms.length∧rangeL (i_Constraint_slack_b1 p) suf7 i_5 out_6 = some j7∧f 1 = v1∧f 5 = I out_6∧f 12 = v0_0∧f 13 = I (c.terms.length : Int)∧f 14 = I i_5∧Star H w_ ([])
 refine W_loop I7 (n:=c.terms.length) ?_ ?_
 exact ij hI7 ⟨0,c.terms,i64 (-c.bound),rfl,rfl,Nat.zero_add _,hL7,rfl,rfl,rfl,rfl,rfl,(Star.keepN 0 hst)⟩
 intro n7 f w_ hI
 obtain ⟨i_5,suf7,out_6,rfl,hd7,hl7,hL7,sf1,sf5,sf12,sf13,sf14,hst⟩:=ik hI7 hI
 refine sq (L_lss rfl sf14 sf13 (nq (W_cond (b:=decide ((i_5 : Int) < (c.terms.length : Int))) rfl (fun hc8=>?_) (fun hc8=>?_))))
 have hlt7:=of_decide_eq_true hc8
 rcases suf7 with _ | ⟨x_7,rest7⟩
 exact absurd hlt7 (by simp at hl7; omega)
 obtain ⟨o7,hB7,hL7⟩:=range_cons hL7
 rw [i_Constraint_slack_b1] at hB7
 have hix7:=drop_idx hd7
 refine W_skip (W_seq (W_block (sq (L_ix (r:=rTerm) rfl Tryz.underlying52 Tryz.sizeOf83 sf12 h0_0 sf14 hix7 (fun g16 o17 cs_g16 hrk_hat18 hat18=>?_)))))
 obtain rfl:=rTerm_iff.1 hrk_hat18
 refine L_lda (cs:=[I x_7.coef,I x_7.lit]) rfl Tryz.isAgg83 Tryz.sizeOf83 rfl (At.sub (AtH.at hat18 hst.sub) 0 2) rfl (L_al (cs:=#[I 0,I 0]) rfl Tryz.zeroValue83 rfl hst (fun g20 w21 hst=>L_staB (vs:=#[I x_7.coef,I x_7.lit]) (cs2:=#[I x_7.coef,I x_7.lit]) 0 rfl Tryz.sizeOf83 rfl rfl rfl (ones_cons rfl (ones_cons rfl ones_nil)) hst rfl (by show 0 + 2≤2; decide) rfl (fun w22 hst=>nq ?_)))
 obtain ⟨x28,hx28,hB7⟩:=bind_some hB7
 refine W_region (fA 1 fa_83_1 rfl rfl (ldB 0 hst Tryz.isAgg3 rfl rfl rfl (mF sf1 rfl ?_)))
 obtain ⟨H30b,l31,s32,z33,k34⟩:=hst.borrow
 refine L_call rfl Tryz.call104 (ops2 rfl rfl) (i_under_c (l:=x_7.lit) (p:=p) s32 (RP.mono _ h1 l31) hx28) ?_
 rintro _ w35 ⟨rfl,hst⟩
 have hst:=k34 hst c0
 refine L_geq rfl rfl rfl (nn ?_)
 obtain ⟨out_36,hA37,hB7⟩:=bind_some hB7
 obtain ⟨R37,hR37⟩:=exR fun f w_=>f 1 = v1∧f 5 = I out_36∧f 12 = v0_0∧f 13 = I (c.terms.length : Int)∧f 14 = I i_5∧Star H w_ ([])
 refine W_join R37 ?_ ?_
 refine W_cond (b:=decide (x28 ≥ 0)) rfl (fun hc38=>?_) (fun hc38=>?_)
 have hA37:=(ite_t hc38).symm.trans hA37
 refine W_region (mF sf5 rfl (fA 0 fa_83_0 rfl rfl (ldB 0 hst Tryz.isAgg3 rfl rfl rfl (L_add rfl rfl rfl (aI rfl (nn ?_))))))
 obtain rfl:=so hA37
 exact rj hR37 ⟨sf1,rfl,sf12,sf13,sf14,(Star.keepN 0 hst)⟩
 have hA37:=(ite_f hc38).symm.trans hA37
 refine W_skip ?_
 obtain rfl:=so hA37
 exact rj hR37 ⟨sf1,sf5,sf12,sf13,sf14,(Star.keepN 0 hst)⟩
 intro f w_ hR
 obtain ⟨sf1,sf5,sf12,sf13,sf14,hst⟩:=rk hR37 hR
 refine W_region (L_add rfl sf14 rfl (mI rfl (nn ?_)))
 obtain rfl:=so hB7
 show ∃ m,m < _∧I7 m _ _
 refine ⟨rest7.length,by simp,?_⟩
 exact ij hI7 ⟨i_5 + 1,rest7,out_36,rfl,drop_next hd7,by simp at hl7; omega,hL7,sf1,sf5,sf12,sf13,(Eq.trans rfl (congrArg (Value.int .i64) (i64_succ (n:=c.terms.length) (by simp at hl7; omega) hlen7))),hst⟩
 rcases suf7 with _ | ⟨_,_⟩
 obtain rfl:=range_nil hL7
 refine W_exit (rj hR7 ⟨out_6,rfl,sf5,hst⟩)
 exact absurd (of_decide_eq_false hc8) (by simp at hl7; omega)
 intro f w_ hR
 obtain ⟨out_6,rfl,sf5,hst⟩:=rk hR7 hR
 refine sq (mF sf5 rfl (aI rfl (nn (W_ret (retG1 (v1:=I out_6) Tryz.results102 rfl ?_)))))
 obtain rfl:=so hF
 exact ⟨rfl,hst⟩
theorem i_Constraint_implied_c {c : Con} {p : List Int} {v0_0 : Value} {v1 : Value} {H : FH} {w : World} (hst : Star H w []) (h0_0 : (rS 83 rTerm).rel H [v0_0] c.terms) (h1 : (rS 3 RP.int).rel H [v1] p) {r : List Int} (hF : i_Constraint_implied c p = some r) :
 C Tryz.prog 103 #[.agg #[v0_0,I c.bound],v1] w fun v w'=>∃ (u1 : Value),v = u1∧Star H w' [oF 3 RP.int u1 r]:=by
 unfold i_Constraint_implied at hF
 refine C_enter Tryz.func103 rfl Tryz.ntmps103 rfl (sq (L_box (v:=.agg #[v0_0,I c.bound]) (cs:=#[v0_0,I c.bound]) rfl rfl rfl hst (fun g3 w4 hst=>aV S0 rfl (nq ?_))))
 obtain ⟨x10,hx10,hF⟩:=bind_some hF
 refine W_region (L_lda (cs:=[v0_0,I c.bound]) rfl Tryz.isAgg54 Tryz.sizeOf54 rfl (At.sub0 (Blk.at (Star.blkAt 0 hst rfl)) 0 2) rfl (mV v1 rfl ?_))
 obtain ⟨H12b,l13,s14,z15,k16⟩:=hst.borrow
 refine L_call rfl Tryz.call102 (ops2 rfl rfl) (i_Constraint_slack_c (c:=c) (p:=p) s14 (RP.mono _ h0_0 l13) (RP.mono _ h1 l13) hx10) ?_
 rintro _ w17 ⟨rfl,hst⟩
 have hst:=k16 hst c0
 refine aI rfl (ns (aV S0 rfl (nq (sq (fA 0 fa_54_0 rfl rfl (ldB 0 hst Tryz.isAgg52 rfl rfl rfl (L_len rfl Tryz.underlying52 rfl (slice_len h0_0) (mI rfl (nn ?_)))))))))
 have hlen21 : List.length c.terms≤9223372036854775807:=len_le (slice_len h0_0)
 obtain ⟨j21,hL21,hF⟩:=bind_some hF
 obtain ⟨R21,hR21⟩:=exR fun f w_=>∃ out_19 : List Int,∃ v19_out : Value,j21 = .nx out_19∧f 6 = v19_out∧Star H w_ ([oF 3 RP.int v19_out out_19])
 refine W_join R21 ?_ ?_
 refine W_block ?_
 obtain ⟨I21,hI21⟩:=exI fun n f w_=>∃ i_18 : Nat,∃ suf21 : List Term,∃ out_19 : List Int,∃ v19_out : Value,n = suf21.length∧List.drop i_18 c.terms = suf21∧i_18 + suf21.length = c.terms.length∧rangeL (i_Constraint_implied_b1 p x10) suf21 i_18 out_19 = some j21∧f 1 = v1∧f 5 = I x10∧f 6 = v19_out∧f 13 = v0_0∧f 14 = I (c.terms.length : Int)∧f 15 = I i_18∧Star H w_ ([oF 3 RP.int v19_out out_19])
 have hst:=Star.addNil (R:=(OR.frz RP.int)) (e:=3) hst
 refine W_loop I21 (n:=c.terms.length) ?_ ?_
 exact ij hI21 ⟨0,c.terms,[],S0,rfl,rfl,Nat.zero_add _,hL21,rfl,rfl,rfl,rfl,rfl,rfl,(Star.keepN 1 hst)⟩
 intro n21 f w_ hI
 obtain ⟨i_18,suf21,out_19,v19_out,rfl,hd21,hl21,hL21,sf1,sf5,sf6,sf13,sf14,sf15,hst⟩:=ik hI21 hI
 refine sq (L_lss rfl sf15 sf14 (nq (W_cond (b:=decide ((i_18 : Int) < (c.terms.length : Int))) rfl (fun hc23=>?_) (fun hc23=>?_))))
 have hlt21:=of_decide_eq_true hc23
 rcases suf21 with _ | ⟨x_21,rest21⟩
 exact absurd hlt21 (by simp at hl21; omega)
 obtain ⟨o21,hB21,hL21⟩:=range_cons hL21
 rw [i_Constraint_implied_b1] at hB21
 have hix21:=drop_idx hd21
 refine W_skip (W_seq (W_block (sq (L_ix (r:=rTerm) rfl Tryz.underlying52 Tryz.sizeOf83 sf13 h0_0 sf15 hix21 (fun g31 o32 cs_g31 hrk_hat33 hat33=>?_)))))
 obtain rfl:=rTerm_iff.1 hrk_hat33
 refine L_lda (cs:=[I x_21.coef,I x_21.lit]) rfl Tryz.isAgg83 Tryz.sizeOf83 rfl (At.sub (AtH.at hat33 hst.sub) 0 2) rfl (L_al (cs:=#[I 0,I 0]) rfl Tryz.zeroValue83 rfl hst (fun g35 w36 hst=>L_staB (vs:=#[I x_21.coef,I x_21.lit]) (cs2:=#[I x_21.coef,I x_21.lit]) 0 rfl Tryz.sizeOf83 rfl rfl rfl (ones_cons rfl (ones_cons rfl ones_nil)) hst rfl (by show 0 + 2≤2; decide) rfl (fun w37 hst=>nq ?_)))
 obtain ⟨x43,hx43,hB21⟩:=bind_some hB21
 obtain ⟨R45,hR45⟩:=exR fun f w_=>f 1 = v1∧f 5 = I x10∧f 6 = v19_out∧f 8 = Pt g35∧f 13 = v0_0∧f 14 = I (c.terms.length : Int)∧f 15 = I i_18∧f 29 = Bo ((x43 == 0) && (decide (x_21.coef > x10)))∧Star H w_ ([oF 3 RP.int v19_out out_19,box g35 83 #[I x_21.coef,I x_21.lit]])
 refine W_join R45 ?_ ?_
 refine W_region (fA 1 fa_83_1 rfl rfl (ldB 0 hst Tryz.isAgg3 rfl rfl rfl (mF sf1 rfl ?_)))
 obtain ⟨H46b,l47,s48,z49,k50⟩:=hst.borrow
 refine L_call rfl Tryz.call104 (ops2 rfl rfl) (i_under_c (l:=x_21.lit) (p:=p) s48 (RP.mono _ h1 l47) hx43) ?_
 rintro _ w51 ⟨rfl,hst⟩
 have hst:=k50 hst c0
 refine L_eql rfl rfl rfl (mB rfl (L_split (d:=24) (b:=(x43 == 0)) rfl (fun hc52=>?_) (fun hc52=>?_)))
 refine fA 0 fa_83_0 rfl rfl (ldB 0 hst Tryz.isAgg3 rfl rfl rfl (mF sf5 rfl (L_gtr rfl rfl rfl (L_pick (v:=Bo ((x43 == 0) && (decide (x_21.coef > x10)))) rfl rfl (and_t hc52 rfl) (nn ?_)))))
 have hst:=hst.get 1 rfl
 exact rj hR45 ⟨sf1,sf5,sf6,rfl,sf13,sf14,sf15,rfl,hst⟩
 refine ps rfl (ps rfl (ps rfl (ps rfl (L_pick (v:=Bo ((x43 == 0) && (decide (x_21.coef > x10)))) rfl rfl (and_f hc52) (nn ?_)))))
 have hst:=hst.get 1 rfl
 exact rj hR45 ⟨sf1,sf5,sf6,rfl,sf13,sf14,sf15,rfl,hst⟩
 intro f w_ hR
 obtain ⟨sf1,sf5,sf6,sf8,sf13,sf14,sf15,sf29,hst⟩:=rk hR45 hR
 obtain ⟨out_53,hA55,hB21⟩:=bind_some hB21
 obtain ⟨R55,hR55⟩:=exR fun f w_=>∃ v53_out : Value,f 1 = v1∧f 5 = I x10∧f 6 = v53_out∧f 13 = v0_0∧f 14 = I (c.terms.length : Int)∧f 15 = I i_18∧Star H w_ ([oF 3 RP.int v53_out out_53])
 refine W_join R55 ?_ ?_
 refine W_cond (b:=((x43 == 0) && (decide (x_21.coef > x10)))) sf29 (fun hc56=>?_) (fun hc56=>?_)
 have hA55:=(ite_t hc56).symm.trans hA55
 obtain ⟨x60,hx60,hA55⟩:=bind_some hA55
 refine W_region (mF sf6 rfl (fA 1 fa_83_1 sf8 rfl (ldB 1 hst Tryz.isAgg3 rfl rfl rfl (L_bs rfl (parts1 rfl) (bs_51_1_0 (I x_21.lit) rfl) hst (fun g64 w65 hst=>?_)))))
 have hst:=Star.addF (r:=RP.int) (cs:=[I x_21.lit]) (x:=x_21.lit) hst rfl
 have hst:=Star.mkRow (R:=(OR.frz RP.int)) [([I x_21.lit],x_21.lit)] [x_21.lit] 1 hst rfl rfl rfl (by decide)
 have hst:=hst.get 1 rfl
 refine L_appM (v:=v19_out) (u:=(Sl g64 1 1)) rfl et_51 rfl rfl hst hx60 (fun v67 w68 hst=>aV v67 rfl (nn ?_))
 obtain rfl:=so hA55
 exact rj hR55 ⟨v67,sf1,sf5,rfl,sf13,sf14,sf15,(Star.keepN 1 hst)⟩
 have hA55:=(ite_f hc56).symm.trans hA55
 refine W_skip ?_
 obtain rfl:=so hA55
 exact rj hR55 ⟨v19_out,sf1,sf5,sf6,sf13,sf14,sf15,(Star.keepN 1 hst)⟩
 intro f w_ hR
 obtain ⟨v53_out,sf1,sf5,sf6,sf13,sf14,sf15,hst⟩:=rk hR55 hR
 refine W_region (L_add rfl sf15 rfl (mI rfl (nn ?_)))
 obtain rfl:=so hB21
 show ∃ m,m < _∧I21 m _ _
 refine ⟨rest21.length,by simp,?_⟩
 exact ij hI21 ⟨i_18 + 1,rest21,out_53,v53_out,rfl,drop_next hd21,by simp at hl21; omega,hL21,sf1,sf5,sf6,sf13,sf14,(Eq.trans rfl (congrArg (Value.int .i64) (i64_succ (n:=c.terms.length) (by simp at hl21; omega) hlen21))),hst⟩
 rcases suf21 with _ | ⟨_,_⟩
 obtain rfl:=range_nil hL21
 refine W_exit (rj hR21 ⟨out_19,v19_out,rfl,sf6,hst⟩)
 exact absurd (of_decide_eq_false hc23) (by simp at hl21; omega)
 intro f w_ hR
 obtain ⟨out_19,v19_out,rfl,sf6,hst⟩:=rk hR21 hR
 refine sq (mF sf6 rfl (aV v19_out rfl (nn (W_ret (retG1 (v1:=v19_out) Tryz.results103 rfl ?_)))))
 obtain rfl:=so hF
 exact ⟨v19_out,rfl,hst⟩
theorem i_propagate_c {fu : Nat} {list : List Con} {p : List Int} {v0 : Value} {v1 : Value} {H : FH} {w : World} (hst : Star H w []) (h0 : (rS 54 (rCon 83)).rel H [v0] list) (h1 : (rS 3 RP.int).rel H [v1] p) {r : (List Int) × Int} (hF : i_propagate fu list p = some r) :
 C Tryz.prog 95 #[v0,v1] w fun v w'=>∃ (u1 : Value),v = .tuple #[u1,I r.2]∧Star H w' [oF 3 RP.int u1 r.1]:=by
 unfold i_propagate at hF
 refine C_enter Tryz.func95 rfl Tryz.ntmps95 rfl (sq (aV S0 rfl (aI rfl (nq ?_))))
 obtain ⟨x6,hx6,hF⟩:=bind_some hF
 refine W_region (mV v1 rfl ?_)
 obtain ⟨H9b,l10,s11,z12,k13⟩:=hst.borrow
 refine L_call rfl Tryz.call101 (ops1 rfl) (slices_Clone_int_c (s:=p) s11 (RP.mono _ h1 l10) hx6) ?_
 rintro r14_0 w14 ⟨_,rfl,hst⟩
 have hst:=k13 hst (co closed_int c0)
 refine aV r14_0 rfl (nq (sq (aB rfl (nn ?_))))
 obtain ⟨j19,hL19,hF⟩:=bind_some hF
 obtain ⟨R19,hR19⟩:=exR fun f w_=>∃ out_17 : List Int,∃ made_18 : Bool,j19 = .nx (out_17,made_18)∧f 6 = r14_0∧Star H w_ ([oF 3 RP.int r14_0 out_17])
 refine W_join R19 ?_ ?_
 refine W_block ?_
 obtain ⟨I19,hI19⟩:=exI fun n f w_=>∃ out_17 : List Int,∃ made_18 : Bool,whileL (i_propagate_b1 list) n (out_17,made_18) = some j19∧f 0 = v0∧f 6 = r14_0∧f 7 = Bo made_18∧Star H w_ ([oF 3 RP.int r14_0 out_17])
 refine W_loop I19 (n:=fu) ?_ ?_
 exact ij hI19 ⟨x6,true,hL19,rfl,rfl,rfl,hst⟩
 intro n19 f w_ hI
 obtain ⟨out_17,made_18,hL19,sf0,sf6,sf7,hst⟩:=ik hI19 hI
 rcases n19 with _ | n19
 exact (while_zero hL19).elim
 obtain ⟨o19,hB19,hL19⟩:=while_succ hL19
 rw [i_propagate_b1] at hB19
 refine W_seq (sq (mF sf7 rfl (nn (W_cond (b:=made_18) rfl (fun hc20=>?_) (fun hc20=>?_)))))
 have hB19:=(ite_t hc20).symm.trans hB19
 refine W_skip (W_block (sq (aB rfl (ns (mF sf0 rfl (L_len rfl Tryz.underlying29 rfl (slice_len h0) (mI rfl (nn ?_))))))))
 have hlen24 : List.length list≤9223372036854775807:=len_le (slice_len h0)
 obtain ⟨j24,hL24,hB19⟩:=bind_some hB19
 obtain ⟨R24,hR24⟩:=exR fun f w_=>∃ out_22 : List Int,∃ made_23 : Bool,j24 = .nx (out_22,made_23)∧f 0 = v0∧f 6 = r14_0∧f 7 = Bo made_23∧Star H w_ ([oF 3 RP.int r14_0 out_22])
 refine W_join R24 ?_ ?_
 refine W_block ?_
 obtain ⟨I24,hI24⟩:=exI fun n f w_=>∃ i_21 : Nat,∃ suf24 : List Con,∃ out_22 : List Int,∃ made_23 : Bool,n = suf24.length∧List.drop i_21 list = suf24∧i_21 + suf24.length = list.length∧rangeL i_propagate_b2 suf24 i_21 (out_22,made_23) = some j24∧f 0 = v0∧f 6 = r14_0∧f 7 = Bo made_23∧f 15 = v0∧f 16 = I (list.length : Int)∧f 17 = I i_21∧Star H w_ ([oF 3 RP.int r14_0 out_22])
 refine W_loop I24 (n:=list.length) ?_ ?_
 exact ij hI24 ⟨0,list,out_17,false,rfl,rfl,Nat.zero_add _,hL24,sf0,sf6,rfl,rfl,rfl,rfl,hst⟩
 intro n24 f w_ hI
 obtain ⟨i_21,suf24,out_22,made_23,rfl,hd24,hl24,hL24,sf0,sf6,sf7,sf15,sf16,sf17,hst⟩:=ik hI24 hI
 refine sq (L_lss rfl sf17 sf16 (nq (W_cond (b:=decide ((i_21 : Int) < (list.length : Int))) rfl (fun hc25=>?_) (fun hc25=>?_))))
 have hlt24:=of_decide_eq_true hc25
 rcases suf24 with _ | ⟨x_24,rest24⟩
 exact absurd hlt24 (by simp at hl24; omega)
 obtain ⟨o24,hB24,hL24⟩:=range_cons hL24
 rw [i_propagate_b2] at hB24
 have hix24:=drop_idx hd24
 refine W_skip (W_seq (W_block (sq (mF sf17 rfl (L_ix (r:=(rCon 83)) rfl Tryz.underlying29 Tryz.sizeOf54 sf15 h0 sf17 hix24 (fun g33 o34 cs_g33 hrk_hat35 hat35=>?_))))))
 obtain ⟨u36_0,rfl,hu36_0⟩:=rCon_iff.1 hrk_hat35
 refine L_lda (cs:=[u36_0,I x_24.bound]) rfl Tryz.isAgg54 Tryz.sizeOf54 rfl (At.sub (AtH.at hat35 hst.sub) 0 2) rfl (L_al (cs:=#[S0,I 0]) rfl Tryz.zeroValue54 rfl hst (fun g37 w38 hst=>aI rfl (L_staB (vs:=#[u36_0,I x_24.bound]) (cs2:=#[u36_0,I x_24.bound]) 0 rfl Tryz.sizeOf54 rfl rfl rfl (ones_cons (one_len (slice_len hu36_0)) (ones_cons rfl ones_nil)) hst rfl (by show 0 + 2≤2; decide) rfl (fun w39 hst=>nq (W_seq ?_)))))
 obtain ⟨x46,hx46,hB24⟩:=bind_some hB24
 refine W_region (L_lda (cs:=[u36_0,I x_24.bound]) rfl Tryz.isAgg54 Tryz.sizeOf54 rfl (At.sub0 (Blk.at (Star.blkAt 0 hst rfl)) 0 2) rfl (mF sf6 rfl ?_))
 obtain ⟨H48b,l49,s50,z51,k52⟩:=hst.borrow
 have hb53 : (rS 3 RP.int).rel H48b [r14_0] out_22:=fz_own 1 z51 rfl
 refine L_call rfl Tryz.call102 (ops2 rfl rfl) (i_Constraint_slack_c (c:=x_24) (p:=out_22) s50 (RP.mono _ hu36_0 l49) hb53 hx46) ?_
 rintro _ w54 ⟨rfl,hst⟩
 have hst:=k52 hst c0
 refine L_lss rfl rfl rfl (nn (W_cond (b:=decide (x46 < 0)) rfl (fun hc55=>?_) (fun hc55=>?_)))
 have hB24:=(ite_t hc55).symm.trans hB24
 refine sq (mF sf6 rfl (mI rfl (aV r14_0 rfl (aI rfl (nn (W_ret (retG2 (v1:=r14_0) (v2:=I i_21) Tryz.results95 rfl rfl ?_)))))))
 obtain rfl:=so hB24
 obtain rfl:=so hL24
 obtain rfl:=so hB19
 obtain rfl:=so hL19
 obtain rfl:=so hF
 have hst:=hst.get 1 rfl
 exact ⟨r14_0,rfl,(Star.keepN 1 hst)⟩
 have hB24:=(ite_f hc55).symm.trans hB24
 refine W_skip (W_seq ?_)
 obtain ⟨x62,hx62,hB24⟩:=bind_some hB24
 refine W_region (L_lda (cs:=[u36_0,I x_24.bound]) rfl Tryz.isAgg54 Tryz.sizeOf54 rfl (At.sub0 (Blk.at (Star.blkAt 0 hst rfl)) 0 2) rfl (mF sf6 rfl ?_))
 obtain ⟨H65b,l66,s67,z68,k69⟩:=hst.borrow
 have hb70 : (rS 3 RP.int).rel H65b [r14_0] out_22:=fz_own 1 z68 rfl
 refine L_call rfl Tryz.call103 (ops2 rfl rfl) (i_Constraint_implied_c (c:=x_24) (p:=out_22) s67 (RP.mono _ hu36_0 l66) hb70 hx62) ?_
 rintro r71_0 w71 ⟨_,rfl,hst⟩
 have hst:=k69 hst (co closed_int c0)
 refine L_len rfl Tryz.underlying51 rfl (Star.len 0 hst rfl) (mI rfl (nn ?_))
 have hlen76 : List.length x62≤9223372036854775807:=len_le (Star.len 0 hst rfl)
 obtain ⟨j76,hL76,hB24⟩:=bind_some hB24
 obtain ⟨R76,hR76⟩:=exR fun f w_=>∃ out_74 : List Int,∃ made_75 : Bool,j76 = .nx (out_74,made_75)∧f 0 = v0∧f 6 = r14_0∧f 7 = Bo made_75∧f 15 = v0∧f 16 = I (list.length : Int)∧f 17 = I i_21∧Star H w_ ([oF 3 RP.int r14_0 out_74])
 refine W_join R76 ?_ ?_
 refine W_block ?_
 obtain ⟨I76,hI76⟩:=exI fun n f w_=>∃ i_73 : Nat,∃ suf76 : List Int,∃ out_74 : List Int,∃ made_75 : Bool,n = suf76.length∧List.drop i_73 x62 = suf76∧i_73 + suf76.length = x62.length∧rangeL i_propagate_b3 suf76 i_73 (out_74,made_75) = some j76∧f 0 = v0∧f 6 = r14_0∧f 7 = Bo made_75∧f 15 = v0∧f 16 = I (list.length : Int)∧f 17 = I i_21∧f 30 = r71_0∧f 31 = I (x62.length : Int)∧f 32 = I i_73∧Star H w_ ([oF 3 RP.int r14_0 out_74,oF 3 RP.int r71_0 x62])
 have hst:=hst.get 2 rfl
 refine W_loop I76 (n:=x62.length) ?_ ?_
 exact ij hI76 ⟨0,x62,out_22,made_23,rfl,rfl,Nat.zero_add _,hL76,sf0,sf6,sf7,sf15,sf16,sf17,rfl,rfl,rfl,(Star.keepN 2 hst)⟩
 intro n76 f w_ hI
 obtain ⟨i_73,suf76,out_74,made_75,rfl,hd76,hl76,hL76,sf0,sf6,sf7,sf15,sf16,sf17,sf30,sf31,sf32,hst⟩:=ik hI76 hI
 refine sq (L_lss rfl sf32 sf31 (nq (W_cond (b:=decide ((i_73 : Int) < (x62.length : Int))) rfl (fun hc77=>?_) (fun hc77=>?_))))
 have hlt76:=of_decide_eq_true hc77
 rcases suf76 with _ | ⟨x_76,rest76⟩
 exact absurd hlt76 (by simp at hl76; omega)
 obtain ⟨o76,hB76,hL76⟩:=range_cons hL76
 rw [i_propagate_b3] at hB76
 have hix76:=drop_idx hd76
 refine W_skip (W_seq (W_block (sq ?_)))
 obtain ⟨g82,cap_g82,hv83,_,_⟩:=Star.row 1 hst rfl hix76
 refine L_ixO (R:=(OR.frz RP.int)) (tb:=0) 0 rfl Tryz.underlying51 Tryz.sizeOf3 sf30 hv83 (by first | rfl | simp) sf32 hix76 ?_
 obtain ⟨cs84,hr84,hat84⟩:=Star.eltF 1 hst rfl hv83 hix76
 obtain rfl : _ = [_]:=hr84
 refine L_ld rfl Tryz.isAgg3 rfl (At.cell hat84 (j:=0) rfl) (aI rfl (ns (aB rfl (ns (mI rfl (L_gtr rfl rfl rfl (nn ?_)))))))
 obtain ⟨out_86,hA87,hB76⟩:=bind_some hB76
 obtain ⟨R87,hR87⟩:=exR fun f w_=>f 0 = v0∧f 6 = r14_0∧f 7 = Bo true∧f 15 = v0∧f 16 = I (list.length : Int)∧f 17 = I i_21∧f 30 = r71_0∧f 31 = I (x62.length : Int)∧f 32 = I i_73∧Star H w_ ([oF 3 RP.int r14_0 out_86,oF 3 RP.int r71_0 x62])
 refine W_join R87 ?_ ?_
 refine W_cond (b:=decide (x_76 > 0)) rfl (fun hc88=>?_) (fun hc88=>?_)
 have hA87:=(ite_t hc88).symm.trans hA87
 obtain ⟨x89,hx89,hA87⟩:=bind_some hA87
 refine W_region (mF sf6 rfl (mI rfl (L_sub rfl rfl rfl ?_)))
 obtain ⟨g93,cap_g93,hv94,_,_⟩:=Star.row 0 hst rfl hx89
 refine L_ixO (R:=(OR.frz RP.int)) (tb:=0) 0 rfl Tryz.underlying51 Tryz.sizeOf3 rfl hv94 (by first | rfl | simp) rfl hx89 ?_
 have hst:=Star.addF (r:=RP.int) (cs:=[I 1]) (x:=1) hst rfl
 refine L_stE1 (u:=I 1) rfl Tryz.sizeOf3 rfl rfl rfl hv94 hst hx89 (fun w95 hst=>nn ?_)
 obtain rfl:=so hA87
 exact rj hR87 ⟨sf0,sf6,rfl,sf15,sf16,sf17,sf30,sf31,sf32,hst⟩
 have hA87:=(ite_f hc88).symm.trans hA87
 obtain ⟨x96,hx96,hA87⟩:=bind_some hA87
 refine W_region (mF sf6 rfl (mI rfl (L_neg rfl rfl (L_sub rfl rfl rfl ?_))))
 obtain ⟨g100,cap_g100,hv101,_,_⟩:=Star.row 0 hst rfl hx96
 refine L_ixO (R:=(OR.frz RP.int)) (tb:=0) 0 rfl Tryz.underlying51 Tryz.sizeOf3 rfl hv101 (by first | rfl | simp) rfl hx96 ?_
 have hst:=Star.addF (r:=RP.int) (cs:=[I (-1)]) (x:=(-1)) hst rfl
 refine L_stE1 (u:=I (-1)) rfl Tryz.sizeOf3 rfl rfl rfl hv101 hst hx96 (fun w102 hst=>nn ?_)
 obtain rfl:=so hA87
 exact rj hR87 ⟨sf0,sf6,rfl,sf15,sf16,sf17,sf30,sf31,sf32,hst⟩
 intro f w_ hR
 obtain ⟨sf0,sf6,sf7,sf15,sf16,sf17,sf30,sf31,sf32,hst⟩:=rk hR87 hR
 refine W_region (L_add rfl sf32 rfl (mI rfl (nn ?_)))
 obtain rfl:=so hB76
 show ∃ m,m < _∧I76 m _ _
 refine ⟨rest76.length,by simp,?_⟩
 exact ij hI76 ⟨i_73 + 1,rest76,out_86,true,rfl,drop_next hd76,by simp at hl76; omega,hL76,sf0,sf6,sf7,sf15,sf16,sf17,sf30,sf31,(Eq.trans rfl (congrArg (Value.int .i64) (i64_succ (n:=x62.length) (by simp at hl76; omega) hlen76))),hst⟩
 rcases suf76 with _ | ⟨_,_⟩
 obtain rfl:=range_nil hL76
 refine W_exit (rj hR76 ⟨out_74,made_75,rfl,sf0,sf6,sf7,sf15,sf16,sf17,(Star.keepN 1 hst)⟩)
 exact absurd (of_decide_eq_false hc77) (by simp at hl76; omega)
 intro f w_ hR
 obtain ⟨out_74,made_75,rfl,sf0,sf6,sf7,sf15,sf16,sf17,hst⟩:=rk hR76 hR
 refine W_region (L_add rfl sf17 rfl (mI rfl (nn ?_)))
 obtain rfl:=so hB24
 show ∃ m,m < _∧I24 m _ _
 refine ⟨rest24.length,by simp,?_⟩
 exact ij hI24 ⟨i_21 + 1,rest24,out_74,made_75,rfl,drop_next hd24,by simp at hl24; omega,hL24,sf0,sf6,sf7,sf15,sf16,(Eq.trans rfl (congrArg (Value.int .i64) (i64_succ (n:=list.length) (by simp at hl24; omega) hlen24))),hst⟩
 rcases suf24 with _ | ⟨_,_⟩
 obtain rfl:=range_nil hL24
 refine W_exit (rj hR24 ⟨out_22,made_23,rfl,sf0,sf6,sf7,hst⟩)
 exact absurd (of_decide_eq_false hc25) (by simp at hl24; omega)
 intro f w_ hR
 obtain ⟨out_22,made_23,rfl,sf0,sf6,sf7,hst⟩:=rk hR24 hR
 obtain rfl:=so hB19
 show ∃ m,m < _∧I19 m _ _
 refine ⟨n19,Nat.lt_succ_self _,?_⟩
 exact ij hI19 ⟨out_22,made_23,hL19,sf0,sf6,sf7,hst⟩
 have hB19:=(ite_f hc20).symm.trans hB19
 refine W_exit ?_
 obtain rfl:=so hB19
 obtain rfl:=so hL19
 exact rj hR19 ⟨out_17,made_18,rfl,sf6,hst⟩
 intro f w_ hR
 obtain ⟨out_17,made_18,rfl,sf6,hst⟩:=rk hR19 hR
 refine sq (mF sf6 rfl (aV r14_0 rfl (aI rfl (nn (W_ret (retG2 (v1:=r14_0) (v2:=I (-1)) Tryz.results95 rfl rfl ?_))))))
 obtain rfl:=so hF
 exact ⟨r14_0,rfl,hst⟩
theorem i_Constraint_total_c {c : Con} {v0_0 : Value} {H : FH} {w : World} (hst : Star H w []) (h0_0 : (rS 83 rTerm).rel H [v0_0] c.terms) {r : Int} (hF : i_Constraint_total c = some r) :
 C Tryz.prog 68 #[.agg #[v0_0,I c.bound]] w fun v w'=>v = I r∧Star H w' []:=by
 unfold i_Constraint_total at hF
 refine C_enter Tryz.func68 rfl Tryz.ntmps68 rfl (sq (L_box (v:=.agg #[v0_0,I c.bound]) (cs:=#[v0_0,I c.bound]) rfl rfl rfl hst (fun g3 w4 hst=>aI rfl (ns (aI rfl (nq (sq (fA 0 fa_54_0 rfl rfl (ldB 0 hst Tryz.isAgg52 rfl rfl rfl (L_len rfl Tryz.underlying52 rfl (slice_len h0_0) (mI rfl (nn ?_))))))))))))
 have hlen7 : List.length c.terms≤9223372036854775807:=len_le (slice_len h0_0)
 obtain ⟨j7,hL7,hF⟩:=bind_some hF
 obtain ⟨R7,hR7⟩:=exR fun f w_=>∃ sum_6 : Int,j7 = .nx sum_6∧f 3 = I sum_6∧Star H w_ ([])
 refine W_join R7 ?_ ?_
 refine W_block ?_
 obtain ⟨I7,hI7⟩:=exI fun n f w_=>∃ i_5 : Nat,∃ suf7 : List Term,∃ sum_6 : Int,n = suf7.length∧List.drop i_5 c.terms = suf7∧i_5 + suf7.length = c.terms.length∧rangeL i_Constraint_total_b1 suf7 i_5 sum_6 = some j7∧f 3 = I sum_6∧f 7 = v0_0∧f 8 = I (c.terms.length : Int)∧f 9 = I i_5∧Star H w_ ([])
 refine W_loop I7 (n:=c.terms.length) ?_ ?_
 exact ij hI7 ⟨0,c.terms,0,rfl,rfl,Nat.zero_add _,hL7,rfl,rfl,rfl,rfl,(Star.keepN 0 hst)⟩
 intro n7 f w_ hI
 obtain ⟨i_5,suf7,sum_6,rfl,hd7,hl7,hL7,sf3,sf7,sf8,sf9,hst⟩:=ik hI7 hI
 refine sq (L_lss rfl sf9 sf8 (nq (W_cond (b:=decide ((i_5 : Int) < (c.terms.length : Int))) rfl (fun hc8=>?_) (fun hc8=>?_))))
 have hlt7:=of_decide_eq_true hc8
 rcases suf7 with _ | ⟨x_7,rest7⟩
 exact absurd hlt7 (by simp at hl7; omega)
 obtain ⟨o7,hB7,hL7⟩:=range_cons hL7
 rw [i_Constraint_total_b1] at hB7
 have hix7:=drop_idx hd7
 refine W_skip (W_seq (W_block (sq (L_ix (r:=rTerm) rfl Tryz.underlying52 Tryz.sizeOf83 sf7 h0_0 sf9 hix7 (fun g16 o17 cs_g16 hrk_hat18 hat18=>?_)))))
 obtain rfl:=rTerm_iff.1 hrk_hat18
 refine L_lda (cs:=[I x_7.coef,I x_7.lit]) rfl Tryz.isAgg83 Tryz.sizeOf83 rfl (At.sub (AtH.at hat18 hst.sub) 0 2) rfl (L_al (cs:=#[I 0,I 0]) rfl Tryz.zeroValue83 rfl hst (fun g20 w21 hst=>L_staB (vs:=#[I x_7.coef,I x_7.lit]) (cs2:=#[I x_7.coef,I x_7.lit]) 0 rfl Tryz.sizeOf83 rfl rfl rfl (ones_cons rfl (ones_cons rfl ones_nil)) hst rfl (by show 0 + 2≤2; decide) rfl (fun w22 hst=>nn (W_region (mF sf3 rfl (fA 0 fa_83_0 rfl rfl (ldB 0 hst Tryz.isAgg3 rfl rfl rfl (L_add rfl rfl rfl (aI rfl (nn (W_region (L_add rfl sf9 rfl (mI rfl (nn ?_))))))))))))))
 obtain rfl:=so hB7
 show ∃ m,m < _∧I7 m _ _
 refine ⟨rest7.length,by simp,?_⟩
 exact ij hI7 ⟨i_5 + 1,rest7,i64 (sum_6 + x_7.coef),rfl,drop_next hd7,by simp at hl7; omega,hL7,rfl,sf7,sf8,(Eq.trans rfl (congrArg (Value.int .i64) (i64_succ (n:=c.terms.length) (by simp at hl7; omega) hlen7))),(Star.keepN 0 hst)⟩
 rcases suf7 with _ | ⟨_,_⟩
 obtain rfl:=range_nil hL7
 refine W_exit (rj hR7 ⟨sum_6,rfl,sf3,hst⟩)
 exact absurd (of_decide_eq_false hc8) (by simp at hl7; omega)
 intro f w_ hR
 obtain ⟨sum_6,rfl,sf3,hst⟩:=rk hR7 hR
 refine sq (mF sf3 rfl (aI rfl (nn (W_ret (retG1 (v1:=I sum_6) Tryz.results68 rfl ?_)))))
 obtain rfl:=so hF
 exact ⟨rfl,hst⟩
theorem i_Constraint_negation_c {c : Con} {v0_0 : Value} {H : FH} {w : World} (hst : Star H w []) (h0_0 : (rS 83 rTerm).rel H [v0_0] c.terms) {r : Con} (hF : i_Constraint_negation c = some r) :
 C Tryz.prog 96 #[.agg #[v0_0,I c.bound]] w fun v w'=>∃ (u1 : Value),v = .agg #[u1,I r.bound]∧Star H w' [oF 83 rTerm u1 r.terms]:=by
 unfold i_Constraint_negation at hF
 refine C_enter Tryz.func96 rfl Tryz.ntmps96 rfl (sq (L_box (v:=.agg #[v0_0,I c.bound]) (cs:=#[v0_0,I c.bound]) rfl rfl rfl hst (fun g5 w6 hst=>L_al (cs:=#[S0,I 0]) rfl Tryz.zeroValue54 rfl hst (fun g7 w8 hst=>nq ?_))))
 obtain ⟨x14,hx14,hF⟩:=bind_some hF
 refine W_drawS 9 [isV (.agg #[v0_0,I c.bound]),isV (I x14),isV (Pq g5 1),isV (I c.bound),isV (I (i64 (x14 - c.bound))),isV (I (i64 ((i64 (x14 - c.bound)) + 1))),isV (I (max 0 (i64 ((i64 (x14 - c.bound)) + 1)))),isV (.agg #[S0,I (max 0 (i64 ((i64 (x14 - c.bound)) + 1)))]),anyF] [box g7 54 #[S0,I 0],box g5 54 #[v0_0,I c.bound]] [.made 8 3 (fun v_=>boxV v_ 54 #[S0,I 0]) none] ([]) [([],[]),([],[]),([],[]),([],[]),([],[]),([],[]),([],[]),([],[]),([],[0])] (S:=[(some 8,[3],none)]) Tryz_mix (by kernel_rfl) rfl (by kernel_rfl) (amF_cons (mono_V _) (amF_cons (mono_V _) (amF_cons (mono_V _) (amF_cons (mono_V _) (amF_cons (mono_V _) (amF_cons (mono_V _) (amF_cons (mono_V _) (amF_cons (mono_V _) (amF_cons (mono_any) amF_nil))))))))) hst ?_ (fun f w_ H19 hS19 hE19 hT19 hst=>?_)
 refine opsS_cons (fun f w_ _ _ s _ _ hst=>L_lda (cs:=[v0_0,I c.bound]) rfl Tryz.isAgg54 Tryz.sizeOf54 ((s 1 rfl).trans rfl) (At.sub0 (Blk.at (Star.blkAt 1 hst rfl)) 0 2) rfl (nO rfl rfl hst)) (opsS_cons ?_ ?_)
 intro f w_ H19 X19 hS19 hE19 hP19 hst
 obtain ⟨H28b,l29,s30,z31,k32⟩:=hst.borrow
 refine L_call rfl Tryz.call68 (ops1 (hP19 0 6 rfl rfl)) (i_Constraint_total_c (c:=c) s30 (RP.mono _ h0_0 (Le.trans hE19 l29)) hx14) ?_
 rintro _ w33 ⟨rfl,hst⟩
 have hst:=k32 hst c0
 exact L_nil ⟨rfl,_,_,rfl,Le.refl _,fun _ _=>rfl,hst⟩
 refine opsS_cons (fun f w_ _ _ s _ _ hst=>fA 1 fa_54_1 ((s 1 rfl).trans rfl) rfl (nO rfl rfl hst)) (opsS_cons (fun f w_ _ _ _ _ p hst=>ldB 1 hst Tryz.isAgg3 (p 2 8 rfl rfl) rfl rfl (nO rfl rfl hst)) (opsS_cons (fun f w_ _ _ _ _ p hst=>L_sub rfl (p 1 7 rfl rfl) (p 3 9 rfl rfl) (nO rfl rfl hst)) (opsS_cons (fun f w_ _ _ _ _ p hst=>L_add rfl (p 4 10 rfl rfl) rfl (nO rfl rfl hst)) (opsS_cons (fun f w_ _ _ _ _ p hst=>L_max rfl rfl (p 5 11 rfl rfl) (nO rfl rfl hst)) (opsS_cons (fun f w_ _ _ _ _ p hst=>L_bld rfl (parts1 (p 6 12 rfl rfl)) (bld_54_1 (I (max 0 (i64 ((i64 (x14 - c.bound)) + 1)))) rfl) (nO rfl rfl hst)) (opsS_cons ?_ ?_))))))
 intro f w_ H19 X19 hS19 hE19 hP19 hst
 refine L_al (cs:=#[S0,I 0]) rfl Tryz.zeroValue54 rfl hst (fun g34 w35 hst=>?_)
 have hst:=hst.gets [2,2,2] rfl
 have hst:=Star.boxV (v:=Pt g34) rfl hst
 have hst:=hst.gets [2,2] rfl
 exact L_nil ⟨rfl,_,_,rfl,Le.refl _,fun _ _=>trivial,hst⟩
 exact opsS_nil
 have hst : Star H19 w_ ([box g7 54 #[S0,I 0],box g5 54 #[v0_0,I c.bound],boxV (f 3) 54 #[S0,I 0]]):=hst
 obtain ⟨g36,hv36,hst⟩:=Star.unboxV (Star.get 2 hst rfl)
 refine L_staB (vs:=#[S0,I (max 0 (i64 ((i64 (x14 - c.bound)) + 1)))]) (cs2:=#[S0,I (max 0 (i64 ((i64 (x14 - c.bound)) + 1)))]) 0 rfl Tryz.sizeOf54 hv36 (hT19 7 13 rfl rfl) rfl (ones_cons rfl (ones_cons rfl ones_nil)) hst rfl (by show 0 + 2≤2; decide) rfl (fun w37 hst=>nq (sq (fA 0 fa_54_0 ((hS19 1 rfl).trans rfl) rfl (ldB 2 hst Tryz.isAgg52 rfl rfl rfl (L_len rfl Tryz.underlying52 rfl (slice_len (RP.mono _ h0_0 hE19)) (mI rfl (nn ?_)))))))
 have hlen41 : List.length c.terms≤9223372036854775807:=len_le (slice_len (RP.mono _ h0_0 hE19))
 obtain ⟨j41,hL41,hF⟩:=bind_some hF
 obtain ⟨R41,hR41⟩:=exR fun f w_=>∃ g36_0_39 : List Term,∃ v39_g36_0 : Value,j41 = .nx g36_0_39∧f 2 = Pt g7∧f 3 = Pt g36∧Star H19 w_ ([oF 83 rTerm v39_g36_0 g36_0_39,box g36 54 #[v39_g36_0,I (max 0 (i64 ((i64 (x14 - c.bound)) + 1)))],box g7 54 #[S0,I 0]])
 refine W_join R41 ?_ ?_
 refine W_block ?_
 obtain ⟨I41,hI41⟩:=exI fun n f w_=>∃ i_38 : Nat,∃ suf41 : List Term,∃ g36_0_39 : List Term,∃ v39_g36_0 : Value,n = suf41.length∧List.drop i_38 c.terms = suf41∧i_38 + suf41.length = c.terms.length∧rangeL i_Constraint_negation_b1 suf41 i_38 g36_0_39 = some j41∧f 2 = Pt g7∧f 3 = Pt g36∧f 15 = v0_0∧f 16 = I (c.terms.length : Int)∧f 17 = I i_38∧Star H19 w_ ([oF 83 rTerm v39_g36_0 g36_0_39,box g36 54 #[v39_g36_0,I (max 0 (i64 ((i64 (x14 - c.bound)) + 1)))],box g7 54 #[S0,I 0]])
 have hst:=Star.addNil (R:=(OR.frz rTerm)) (e:=83) hst
 refine W_loop I41 (n:=c.terms.length) ?_ ?_
 exact ij hI41 ⟨0,c.terms,[],S0,rfl,rfl,Nat.zero_add _,hL41,((hS19 2 rfl).trans rfl),hv36,rfl,rfl,rfl,(Star.keepN 3 hst)⟩
 intro n41 f w_ hI
 obtain ⟨i_38,suf41,g36_0_39,v39_g36_0,rfl,hd41,hl41,hL41,sf2,sf3,sf15,sf16,sf17,hst⟩:=ik hI41 hI
 refine sq (L_lss rfl sf17 sf16 (nq (W_cond (b:=decide ((i_38 : Int) < (c.terms.length : Int))) rfl (fun hc43=>?_) (fun hc43=>?_))))
 have hlt41:=of_decide_eq_true hc43
 rcases suf41 with _ | ⟨x_41,rest41⟩
 exact absurd hlt41 (by simp at hl41; omega)
 obtain ⟨o41,hB41,hL41⟩:=range_cons hL41
 rw [i_Constraint_negation_b1] at hB41
 have hix41:=drop_idx hd41
 refine W_skip (W_seq (W_block (sq (L_ix (r:=rTerm) rfl Tryz.underlying52 Tryz.sizeOf83 sf15 (RP.mono _ h0_0 hE19) sf17 hix41 (fun g51 o52 cs_g51 hrk_hat53 hat53=>?_)))))
 obtain rfl:=rTerm_iff.1 hrk_hat53
 refine L_lda (cs:=[I x_41.coef,I x_41.lit]) rfl Tryz.isAgg83 Tryz.sizeOf83 rfl (At.sub (AtH.at hat53 hst.sub) 0 2) rfl (L_al (cs:=#[I 0,I 0]) rfl Tryz.zeroValue83 rfl hst (fun g55 w56 hst=>L_staB (vs:=#[I x_41.coef,I x_41.lit]) (cs2:=#[I x_41.coef,I x_41.lit]) 0 rfl Tryz.sizeOf83 rfl rfl rfl (ones_cons rfl (ones_cons rfl ones_nil)) hst rfl (by show 0 + 2≤2; decide) rfl (fun w57 hst=>nn ?_)))
 obtain ⟨x61,hx61,hB41⟩:=bind_some hB41
 refine W_region (fA 0 fa_54_0 sf3 rfl (ldB 2 hst Tryz.isAgg52 rfl rfl rfl (fA 0 fa_83_0 rfl rfl (ldB 0 hst Tryz.isAgg3 rfl rfl rfl (fA 1 fa_83_1 rfl rfl (ldB 0 hst Tryz.isAgg3 rfl rfl rfl (L_neg rfl rfl (L_bld rfl (parts2 rfl rfl) (bld_83_0_1 (I x_41.coef) (I (i64 (-x_41.lit))) rfl rfl) (L_bs rfl (parts1 rfl) (bs_52_1_2 (I x_41.coef) (I (i64 (-x_41.lit))) ) hst (fun g66 w67 hst=>?_))))))))))
 have hst:=Star.addF (r:=rTerm) (cs:=[I x_41.coef,I (i64 (-x_41.lit))]) (x:=({ coef:=x_41.coef,lit:=i64 (-x_41.lit) } : Term)) hst (rTerm_iff.2 rfl)
 have hst:=Star.mkRow (R:=(OR.frz rTerm)) [([I x_41.coef,I (i64 (-x_41.lit))],({ coef:=x_41.coef,lit:=i64 (-x_41.lit) } : Term))] [({ coef:=x_41.coef,lit:=i64 (-x_41.lit) } : Term)] 1 hst rfl rfl rfl (by decide)
 have hst:=hst.get 2 rfl
 refine L_appM (v:=v39_g36_0) (u:=(Sl g66 1 1)) rfl et_52 rfl rfl hst hx61 (fun v69 w70 hst=>fA 0 fa_54_0 sf3 rfl (L_stB (v:=v69) (cs2:=#[v69,I (max 0 (i64 ((i64 (x14 - c.bound)) + 1)))]) 2 rfl Tryz.sizeOf52 rfl rfl (one_len (Star.len 0 hst rfl)) hst rfl rfl rfl (fun w72 hst=>nn (W_region (L_add rfl sf17 rfl (mI rfl (nn ?_)))))))
 obtain rfl:=so hB41
 have hst:=hst.gets [3,1,2] rfl
 show ∃ m,m < _∧I41 m _ _
 refine ⟨rest41.length,by simp,?_⟩
 exact ij hI41 ⟨i_38 + 1,rest41,x61,v69,rfl,drop_next hd41,by simp at hl41; omega,hL41,sf2,sf3,sf15,sf16,(Eq.trans rfl (congrArg (Value.int .i64) (i64_succ (n:=c.terms.length) (by simp at hl41; omega) hlen41))),(Star.keepN 3 hst)⟩
 rcases suf41 with _ | ⟨_,_⟩
 obtain rfl:=range_nil hL41
 refine W_exit (rj hR41 ⟨g36_0_39,v39_g36_0,rfl,sf2,sf3,hst⟩)
 exact absurd (of_decide_eq_false hc43) (by simp at hl41; omega)
 intro f w_ hR
 obtain ⟨g36_0_39,v39_g36_0,rfl,sf2,sf3,hst⟩:=rk hR41 hR
 refine sq (L_lda (cs:=[v39_g36_0,I (max 0 (i64 ((i64 (x14 - c.bound)) + 1)))]) rfl Tryz.isAgg54 Tryz.sizeOf54 sf3 (At.sub0 (Blk.at (Star.blkAt 1 hst rfl)) 0 2) rfl (L_staB (vs:=#[v39_g36_0,I (max 0 (i64 ((i64 (x14 - c.bound)) + 1)))]) (cs2:=#[v39_g36_0,I (max 0 (i64 ((i64 (x14 - c.bound)) + 1)))]) 2 rfl Tryz.sizeOf54 sf2 rfl rfl (ones_cons (one_len (Star.len 0 hst rfl)) (ones_cons rfl ones_nil)) hst rfl (by show 0 + 2≤2; decide) rfl (fun w74 hst=>nn (W_ret (retG1 (v1:=.agg #[v39_g36_0,I (max 0 (i64 ((i64 (x14 - c.bound)) + 1)))]) Tryz.results96 (resV_agg Tryz.isAgg54 Tryz.sizeOf54 sf2 (Star.blkAt 0 hst rfl) rfl) ?_)))))
 obtain rfl:=so hF
 have hst:=hst.get 1 rfl
 exact ⟨v39_g36_0,rfl,(Star.down (Star.keepN 1 hst) hE19 (co closed_term c0))⟩
theorem i_rup_c {fu : Nat} {list : List Con} {c : Con} {v0 : Value} {v1_0 : Value} {H : FH} {w : World} (hst : Star H w []) (h0 : (rS 54 (rCon 83)).rel H [v0] list) (h1_0 : (rS 83 rTerm).rel H [v1_0] c.terms) {r : Bool} (hF : i_rup fu list c = some r) :
 C Tryz.prog 81 #[v0,.agg #[v1_0,I c.bound]] w fun v w'=>v = Bo r∧Star H w' []:=by
 unfold i_rup at hF
 refine C_enter Tryz.func81 rfl Tryz.ntmps81 rfl (sq (L_box (v:=.agg #[v1_0,I c.bound]) (cs:=#[v1_0,I c.bound]) rfl rfl rfl hst (fun g3 w4 hst=>aB rfl (nq ?_))))
 obtain ⟨x5,hx5,hF⟩:=bind_some hF
 obtain ⟨x13,hx13,hF⟩:=bind_some hF
 obtain ⟨x19,hx19,hF⟩:=bind_some hF
 obtain ⟨x25,hx25,hF⟩:=bind_some hF
 obtain ⟨x36,hx36,hF⟩:=bind_some hF
 refine W_drawS 12 [isV (v0),anyF,isV (.agg #[v1_0,I c.bound]),exA fun u_0=>isV (.agg #[u_0,I x13.bound]),anyF,anyF,anyF,tup2 (anyF) (isV (I x36.2)),tup2 (anyF) (isV (I x36.2)),anyF,isV (I x36.2),anyF] [box g3 54 #[v1_0,I c.bound]] [.made 1 9 (fun v_=>oF 54 (rCon 83) v_ x5) (some 5),.made 3 11 (fun v_=>oF 83 rTerm (aggC v_ 0) x13.terms) (some 4),.made 4 12 (fun v_=>oS 54 (oCon 83) v_ ([x13])) (some 5),.made 5 13 (fun v_=>oF 54 (rCon 83) v_ x19) none,.made 6 14 (fun v_=>oF 3 RP.int v_ x25) none,.made 7 15 (fun v_=>oF 3 RP.int (tupC v_ 0) x36.1) (some 8),.made 8 7 (fun v_=>oF 3 RP.int (tupC v_ 0) x36.1) (some 9),.made 9 16 (fun v_=>oF 3 RP.int v_ x36.1) (some 11),.made 11 5 (fun v_=>oF 3 RP.int v_ x36.1) none] ([]) [([],[]),([],[0]),([],[]),([],[1]),([1],[2]),([0,2],[3]),([],[4]),([3,4],[3,4,5]),([5],[6]),([6],[7]),([],[]),([7],[8])] (S:=[(some 1,[9],some 5),(some 3,[11],some 4),(some 4,[12],some 5),(some 5,[13],none),(some 6,[14],none),(some 7,[15],some 8),(some 8,[7],some 9),(some 9,[16],some 11),(some 11,[5],none)]) Tryz_mix (by kernel_rfl) rfl (by kernel_rfl) (amF_cons (mono_V _) (amF_cons (mono_any) (amF_cons (mono_V _) (amF_cons (mono_exA fun _=>mono_V _) (amF_cons (mono_any) (amF_cons (mono_any) (amF_cons (mono_any) (amF_cons (mono_tup2 (mono_any) (mono_V _)) (amF_cons (mono_tup2 (mono_any) (mono_V _)) (amF_cons (mono_any) (amF_cons (mono_V _) (amF_cons (mono_any) amF_nil)))))))))))) hst ?_ (fun f w_ H39 hS39 hE39 hT39 hst=>?_)
 refine opsS_cons (fun f w_ _ _ s _ _ hst=>mF ((s 0 rfl).trans rfl) rfl (nO rfl rfl hst)) (opsS_cons ?_ ?_)
 intro f w_ H39 X39 hS39 hE39 hP39 hst
 refine L_call rfl Tryz.call65 (ops1 (hP39 0 8 rfl rfl)) (slices_Clone_implConstraint_c (s:=list) hst (RP.mono _ h0 hE39) hx5) ?_
 rintro r69_0 w69 ⟨H69,l69,_,rfl,hst⟩
 have hst:=hst.get 1 rfl
 exact L_nil ⟨rfl,_,_,rfl,l69,fun _ _=>trivial,hst⟩
 refine opsS_cons (fun f w_ _ _ s _ _ hst=>L_lda (cs:=[v1_0,I c.bound]) rfl Tryz.isAgg54 Tryz.sizeOf54 ((s 3 rfl).trans rfl) (At.sub0 (Blk.at (Star.blkAt 0 hst rfl)) 0 2) rfl (nO rfl rfl hst)) (opsS_cons ?_ ?_)
 intro f w_ H39 X39 hS39 hE39 hP39 hst
 obtain ⟨H71b,l72,s73,z74,k75⟩:=hst.borrow
 refine L_call rfl Tryz.call96 (ops1 (hP39 2 10 rfl rfl)) (i_Constraint_negation_c (c:=c) s73 (RP.mono _ h1_0 (Le.trans hE39 l72)) hx13) ?_
 rintro _ w76 ⟨r76_0,rfl,hst⟩
 have hst:=k75 hst (co closed_term c0)
 have hst:=hst.get 1 rfl
 exact L_nil ⟨rfl,_,_,rfl,Le.refl _,fun _ _=>⟨_,rfl⟩,hst⟩
 refine opsS_cons ?_ ?_
 intro f w_ H39 X39 hS39 hE39 hP39 hst
 have hst : Star H39 w_ (box g3 54 #[v1_0,I c.bound] :: own (OR.ownS 83 (OR.frz rTerm)) [(aggC (f 11) 0)] x13.terms :: X39):=hst
 obtain ⟨u78_0,hv78⟩:=(hP39 3 11 rfl rfl)
 have hren : Star H39 w_ (box g3 54 #[v1_0,I c.bound] :: own (OR.ownS 83 (OR.frz rTerm)) [(aggC (f 11) 0)] x13.terms :: X39):=hst
 rw [hv78] at hren
 have hst : Star H39 w_ (box g3 54 #[v1_0,I c.bound] :: oF 83 rTerm u78_0 x13.terms :: X39):=hren
 refine L_bs rfl (parts1 hv78) (bs_29_1_2 (u78_0) (I x13.bound) ) hst (fun g79 w80 hst=>?_)
 have hst:=hst.get 2 rfl
 have hst:=oCon_close (c:=x13) hst
 have hst:=Star.mkRow (R:=(oCon 83)) [([u78_0,I x13.bound],x13)] [x13] 1 hst rfl rfl rfl (by decide)
 have hst:=hst.get 1 rfl
 exact L_nil ⟨rfl,_,_,rfl,Le.refl _,fun _ _=>trivial,hst⟩
 refine opsS_cons ?_ ?_
 intro f w_ H39 X39 hS39 hE39 hP39 hst
 have hst : Star H39 w_ (box g3 54 #[v1_0,I c.bound] :: oF 54 (rCon 83) (f 9) x5 :: oS 54 (oCon 83) (f 12) ([x13]) :: X39):=hst
 have hst:=hst.get 2 rfl
 obtain ⟨H84,l85,hst⟩:=Star.shallow hst
 have hst : Star H84 w_ (oF 54 (rCon 83) (f 12) ([x13]) :: _):=hst
 have hst:=hst.get 2 rfl
 refine L_appM (v:=(f 9)) (u:=(f 12)) rfl et_29 rfl rfl hst hx19 (fun v86 w87 hst=>?_)
 have hst:=hst.get 1 rfl
 exact L_nil ⟨rfl,_,_,rfl,l85,fun _ _=>trivial,hst⟩
 refine opsS_cons ?_ ?_
 intro f w_ H39 X39 hS39 hE39 hP39 hst
 refine L_mk (R:=(OR.frz RP.int)) (z0:=0) (zc:=[I 0]) rfl et_51 (by kernel_rfl) (fun _ _=>⟨rfl,rfl⟩) rfl rfl hx25 hst (fun v89 w90 hst=>?_)
 have hst:=hst.get 1 rfl
 exact L_nil ⟨rfl,_,_,rfl,Le.refl _,fun _ _=>trivial,hst⟩
 refine opsS_cons ?_ ?_
 intro f w_ H39 X39 hS39 hE39 hP39 hst
 have hst : Star H39 w_ (box g3 54 #[v1_0,I c.bound] :: oF 54 (rCon 83) (f 13) x19 :: oF 3 RP.int (f 14) x25 :: X39):=hst
 obtain ⟨H94b,l95,s96,z97,k98⟩:=hst.borrow
 have hb99 : (rS 54 (rCon 83)).rel H94b [(f 13)] x19:=fz_own 1 z97 rfl
 have hb100 : (rS 3 RP.int).rel H94b [(f 14)] x25:=fz_own 2 z97 rfl
 refine L_call rfl Tryz.call95 (ops2 rfl rfl) (i_propagate_c (list:=x19) (p:=x25) s96 hb99 hb100 hx36) ?_
 rintro _ w101 ⟨r101_0,rfl,hst⟩
 have hst:=k98 hst (co closed_int c0)
 have hst:=hst.gets [3,3,3] rfl
 exact L_nil ⟨rfl,_,_,rfl,Le.refl _,fun _ _=>⟨_,_,rfl,trivial,rfl⟩,hst⟩
 refine opsS_cons ?_ ?_
 intro f w_ H39 X39 hS39 hE39 hP39 hst
 have hst : Star H39 w_ (box g3 54 #[v1_0,I c.bound] :: own (OR.ownS 3 (OR.frz RP.int)) [(tupC (f 15) 0)] x36.1 :: X39):=hst
 obtain ⟨a103_0,a103_1,hv103,ht103_0,ht103_1⟩:=(hP39 7 15 rfl rfl)
 obtain rfl:=ht103_1
 have hren : Star H39 w_ (box g3 54 #[v1_0,I c.bound] :: own (OR.ownS 3 (OR.frz RP.int)) [(tupC (f 15) 0)] x36.1 :: X39):=hst
 rw [hv103] at hren
 have hst : Star H39 w_ (box g3 54 #[v1_0,I c.bound] :: oF 3 RP.int a103_0 x36.1 :: X39):=hren
 refine mF hv103 rfl (L_nil ⟨rfl,_,_,rfl,Le.refl _,fun _ _=>⟨_,_,rfl,trivial,rfl⟩,hst⟩)
 refine opsS_cons ?_ ?_
 intro f w_ H39 X39 hS39 hE39 hP39 hst
 have hst : Star H39 w_ (box g3 54 #[v1_0,I c.bound] :: own (OR.ownS 3 (OR.frz RP.int)) [(tupC (f 7) 0)] x36.1 :: X39):=hst
 obtain ⟨a104_0,a104_1,hv104,ht104_0,ht104_1⟩:=(hP39 8 7 rfl rfl)
 obtain rfl:=ht104_1
 have hren : Star H39 w_ (box g3 54 #[v1_0,I c.bound] :: own (OR.ownS 3 (OR.frz RP.int)) [(tupC (f 7) 0)] x36.1 :: X39):=hst
 rw [hv104] at hren
 have hst : Star H39 w_ (box g3 54 #[v1_0,I c.bound] :: oF 3 RP.int a104_0 x36.1 :: X39):=hren
 refine L_ex (v:=a104_0) rfl hv104 rfl (L_nil ⟨rfl,_,_,rfl,Le.refl _,fun _ _=>trivial,hst⟩)
 refine opsS_cons ?_ ?_
 intro f w_ H39 X39 hS39 hE39 hP39 hst
 obtain ⟨a105_0,a105_1,hv105,ht105_0,ht105_1⟩:=(hP39 8 7 rfl rfl)
 obtain rfl:=ht105_1
 refine L_ex (v:=I x36.2) rfl hv105 rfl (L_nil ⟨rfl,_,_,rfl,Le.refl _,fun _ _=>rfl,hst⟩)
 refine opsS_cons ?_ ?_
 intro f w_ H39 X39 hS39 hE39 hP39 hst
 have hst : Star H39 w_ (box g3 54 #[v1_0,I c.bound] :: oF 3 RP.int (f 16) x36.1 :: X39):=hst
 refine aV (f 16) rfl (L_nil ⟨rfl,_,_,rfl,Le.refl _,fun _ _=>trivial,hst⟩)
 exact opsS_nil
 have hst : Star H39 w_ ([box g3 54 #[v1_0,I c.bound],oF 54 (rCon 83) (f 13) x19,oF 3 RP.int (f 14) x25,oF 3 RP.int (f 5) x36.1]):=hst
 refine aF (hT39 10 17 rfl rfl) rfl (ns (mI rfl (L_geq rfl rfl rfl (aB rfl (nn (W_ret (retG1 (v1:=Bo (decide (x36.2 ≥ 0))) Tryz.results81 rfl ?_)))))))
 obtain rfl:=so hF
 exact ⟨rfl,(Star.down (Star.keepN 0 hst) hE39 c0)⟩
theorem i_running_left_c {r_ : Db} {g_0 : Nat} {v0_0 : Value} {v0_1 : Value} {H : FH} {w : World} {R : List Ass} (hst : Star H w (box g_0 80 #[v0_0,v0_1] :: oF 54 (rCon 83) v0_0 r_.list :: oF 4 RP.bool v0_1 r_.gone :: R)) {r : List Con} (hF : i_running_left r_ = some r) :
 C Tryz.prog 82 #[Pt g_0] w fun v w'=>∃ H' : FH,Le H H'∧∃ (u1 : Value),v = u1∧Star H' w' (oF 54 (rCon 83) u1 r :: box g_0 80 #[v0_0,v0_1] :: oF 54 (rCon 83) v0_0 r_.list :: oF 4 RP.bool v0_1 r_.gone :: R):=by
 unfold i_running_left at hF
 refine C_enter Tryz.func82 rfl Tryz.ntmps82 rfl (sq (aV S0 rfl (ns (aV S0 rfl (nq (sq (mV (Pt g_0) rfl (L_nc rfl rfl (fA 0 fa_80_0 rfl rfl (ldB 0 hst Tryz.isAgg29 rfl rfl rfl (L_len rfl Tryz.underlying29 rfl (Star.len 1 hst rfl) (mI rfl (nn ?_)))))))))))))
 have hlen4 : List.length r_.list≤9223372036854775807:=len_le (Star.len 1 hst rfl)
 obtain ⟨j4,hL4,hF⟩:=bind_some hF
 obtain ⟨R4,hR4⟩:=exR fun f w_=>∃ out_2 : List Con,∃ v2_out : Value,j4 = .nx out_2∧f 3 = v2_out∧Star H w_ (oF 54 (rCon 83) v2_out out_2 :: oF 54 (rCon 83) v0_0 r_.list :: oF 4 RP.bool v0_1 r_.gone :: box g_0 80 #[v0_0,v0_1] :: R)
 refine W_join R4 ?_ ?_
 refine W_block ?_
 obtain ⟨I4,hI4⟩:=exI fun n f w_=>∃ i_1 : Nat,∃ suf4 : List Con,∃ out_2 : List Con,∃ v2_out : Value,n = suf4.length∧List.drop i_1 r_.list = suf4∧i_1 + suf4.length = r_.list.length∧rangeL (i_running_left_b1 r_) suf4 i_1 out_2 = some j4∧f 0 = Pt g_0∧f 3 = v2_out∧f 9 = v0_0∧f 10 = I (r_.list.length : Int)∧f 11 = I i_1∧Star H w_ (oF 54 (rCon 83) v2_out out_2 :: oF 54 (rCon 83) v0_0 r_.list :: oF 4 RP.bool v0_1 r_.gone :: box g_0 80 #[v0_0,v0_1] :: R)
 have hst:=Star.addNil (R:=(OR.frz (rCon 83))) (e:=54) hst
 have hst:=hst.gets [1,3,3,3] rfl
 refine W_loop I4 (n:=r_.list.length) ?_ ?_
 exact ij hI4 ⟨0,r_.list,[],S0,rfl,rfl,Nat.zero_add _,hL4,rfl,rfl,rfl,rfl,rfl,hst⟩
 intro n4 f w_ hI
 obtain ⟨i_1,suf4,out_2,v2_out,rfl,hd4,hl4,hL4,sf0,sf3,sf9,sf10,sf11,hst⟩:=ik hI4 hI
 refine sq (L_lss rfl sf11 sf10 (nq (W_cond (b:=decide ((i_1 : Int) < (r_.list.length : Int))) rfl (fun hc6=>?_) (fun hc6=>?_))))
 have hlt4:=of_decide_eq_true hc6
 rcases suf4 with _ | ⟨x_4,rest4⟩
 exact absurd hlt4 (by simp at hl4; omega)
 obtain ⟨o4,hB4,hL4⟩:=range_cons hL4
 rw [i_running_left_b1] at hB4
 have hix4:=drop_idx hd4
 refine W_skip (W_seq (W_block (sq (mF sf11 rfl ?_))))
 obtain ⟨g14,cap_g14,hv15,_,_⟩:=Star.row 1 hst rfl hix4
 refine L_ixO (R:=(OR.frz (rCon 83))) (tb:=0) 0 rfl Tryz.underlying29 Tryz.sizeOf54 sf9 hv15 (by first | rfl | simp) sf11 hix4 ?_
 obtain ⟨cs16,hr16,hat16⟩:=Star.eltF 1 hst rfl hv15 hix4
 obtain ⟨u17_0,rfl,hu17_0⟩:=rCon_iff.1 hr16
 refine L_lda (cs:=[u17_0,I x_4.bound]) rfl Tryz.isAgg54 Tryz.sizeOf54 rfl (At.sub hat16 0 2) rfl (L_al (cs:=#[S0,I 0]) rfl Tryz.zeroValue54 rfl hst (fun g18 w19 hst=>aI rfl (L_staB (vs:=#[u17_0,I x_4.bound]) (cs2:=#[u17_0,I x_4.bound]) 0 rfl Tryz.sizeOf54 rfl rfl rfl (ones_cons (one_len (slice_len hu17_0)) (ones_cons rfl ones_nil)) hst rfl (by show 0 + 2≤2; decide) rfl (fun w20 hst=>nq ?_))))
 obtain ⟨x21,hx21,hB4⟩:=bind_some hB4
 refine W_region (mF sf0 rfl (L_nc rfl rfl (fA 1 fa_80_1 rfl rfl (ldB 4 hst Tryz.isAgg45 rfl rfl rfl (mI rfl ?_)))))
 obtain ⟨g26,cap_g26,hv27,_,_⟩:=Star.row 3 hst rfl hx21
 refine L_ixO (R:=(OR.frz RP.bool)) (tb:=0) 0 rfl Tryz.underlying45 Tryz.sizeOf4 rfl hv27 (by first | rfl | simp) rfl hx21 ?_
 obtain ⟨cs28,hr28,hat28⟩:=Star.eltF 3 hst rfl hv27 hx21
 obtain rfl : _ = [_]:=hr28
 refine L_ld rfl Tryz.isAgg4 rfl (At.cell hat28 (j:=0) rfl) (L_not_ rfl rfl (nn ?_))
 obtain ⟨out_30,hA32,hB4⟩:=bind_some hB4
 obtain ⟨R32,hR32⟩:=exR fun f w_=>∃ v30_out : Value,f 0 = Pt g_0∧f 3 = v30_out∧f 9 = v0_0∧f 10 = I (r_.list.length : Int)∧f 11 = I i_1∧Star H w_ (oF 54 (rCon 83) v30_out out_30 :: oF 54 (rCon 83) v0_0 r_.list :: oF 4 RP.bool v0_1 r_.gone :: box g_0 80 #[v0_0,v0_1] :: R)
 refine W_join R32 ?_ ?_
 refine W_cond (b:=(!x21)) rfl (fun hc33=>?_) (fun hc33=>?_)
 have hA32:=(ite_t hc33).symm.trans hA32
 obtain ⟨x37,hx37,hA32⟩:=bind_some hA32
 refine W_region (mF sf3 rfl (L_lda (cs:=[u17_0,I x_4.bound]) rfl Tryz.isAgg54 Tryz.sizeOf54 rfl (At.sub0 (Blk.at (Star.blkAt 0 hst rfl)) 0 2) rfl (L_bs rfl (parts1 rfl) (bs_29_1_2 (u17_0) (I x_4.bound) ) hst (fun g41 w42 hst=>?_))))
 have hst:=Star.addF (r:=(rCon 83)) (cs:=[u17_0,I x_4.bound]) (x:=x_4) hst (rCon_iff.2 ⟨_,rfl,hu17_0⟩)
 have hst:=Star.mkRow (R:=(OR.frz (rCon 83))) [([u17_0,I x_4.bound],x_4)] [x_4] 1 hst rfl rfl rfl (by decide)
 have hst:=hst.get 2 rfl
 refine L_appM (v:=v2_out) (u:=(Sl g41 1 1)) rfl et_29 rfl rfl hst hx37 (fun v44 w45 hst=>aV v44 rfl (nn ?_))
 obtain rfl:=so hA32
 have hst:=hst.gets [4,4,4,3] rfl
 have hst:=Star.drop 4 hst rfl
 exact rj hR32 ⟨v44,sf0,rfl,sf9,sf10,sf11,hst⟩
 have hA32:=(ite_f hc33).symm.trans hA32
 refine W_skip ?_
 obtain rfl:=so hA32
 have hst:=hst.gets [4,4,4,4] rfl
 have hst:=Star.drop 4 hst rfl
 exact rj hR32 ⟨v2_out,sf0,sf3,sf9,sf10,sf11,hst⟩
 intro f w_ hR
 obtain ⟨v30_out,sf0,sf3,sf9,sf10,sf11,hst⟩:=rk hR32 hR
 refine W_region (L_add rfl sf11 rfl (mI rfl (nn ?_)))
 obtain rfl:=so hB4
 show ∃ m,m < _∧I4 m _ _
 refine ⟨rest4.length,by simp,?_⟩
 exact ij hI4 ⟨i_1 + 1,rest4,out_30,v30_out,rfl,drop_next hd4,by simp at hl4; omega,hL4,sf0,sf3,sf9,sf10,(Eq.trans rfl (congrArg (Value.int .i64) (i64_succ (n:=r_.list.length) (by simp at hl4; omega) hlen4))),hst⟩
 rcases suf4 with _ | ⟨_,_⟩
 obtain rfl:=range_nil hL4
 refine W_exit (rj hR4 ⟨out_2,v2_out,rfl,sf3,hst⟩)
 exact absurd (of_decide_eq_false hc6) (by simp at hl4; omega)
 intro f w_ hR
 obtain ⟨out_2,v2_out,rfl,sf3,hst⟩:=rk hR4 hR
 refine sq (mF sf3 rfl (aV v2_out rfl (nn (W_ret (retG1 (v1:=v2_out) Tryz.results82 rfl ?_)))))
 obtain rfl:=so hF
 have hst:=hst.gets [2,2,3,3] rfl
 exact ⟨H,(Le.refl _),v2_out,rfl,hst⟩
theorem i_running_step_c {fu : Nat} {r_ : Db} {s : Step} {g_0 : Nat} {v0_0 : Value} {v0_1 : Value} {v1_3 : Value} {H : FH} {w : World} {R : List Ass} (hst : Star H w (box g_0 80 #[v0_0,v0_1] :: oF 54 (rCon 83) v0_0 r_.list :: oF 4 RP.bool v0_1 r_.gone :: R)) (h1_3 : (rS 83 rTerm).rel H [v1_3] s.given.terms) {r : Bool × (List Con) × (List Bool)} (hF : i_running_step fu r_ s = some r) :
 C Tryz.prog 66 #[Pt g_0,.agg #[I s.kind,I s.a,I s.b,v1_3,I s.given.bound]] w fun v w'=>∃ H' : FH,Le H H'∧∃ (u1 : Value) (u2 : Value),v = Bo r.1∧Star H' w' (box g_0 80 #[u1,u2] :: oF 54 (rCon 83) u1 r.2.1 :: oF 4 RP.bool u2 r.2.2 :: R):=by
 unfold i_running_step at hF
 refine C_enter Tryz.func66 rfl Tryz.ntmps66 rfl (sq (L_box (v:=.agg #[I s.kind,I s.a,I s.b,v1_3,I s.given.bound]) (cs:=#[I s.kind,I s.a,I s.b,v1_3,I s.given.bound]) rfl rfl rfl hst (fun g3 w4 hst=>aB rfl (nq ?_))))
 obtain ⟨x10,hx10,hF⟩:=bind_some hF
 refine W_region (fA 0 fa_56_0 rfl rfl (ldB 0 hst Tryz.isAgg3 rfl rfl rfl ?_))
 obtain ⟨H12b,l13,s14,z15,k16⟩:=hst.borrow
 refine L_call rfl Tryz.call25 (ops1 rfl) (i_refers_c (kind:=s.kind) s14 hx10) ?_
 rintro _ w17 ⟨rfl,hst⟩
 have hst:=k16 hst c0
 refine mV (.tuple #[I x10.1,Bo x10.2]) rfl (L_ex (v:=I x10.1) rfl rfl rfl (L_ex (v:=Bo x10.2) rfl rfl rfl (aI rfl (aB rfl (nq (W_seq ?_))))))
 obtain ⟨x23,hx23,hF⟩:=bind_some hF
 obtain ⟨b28,hb28,hF⟩:=bind_some hF
 obtain ⟨b32,hb32,hF⟩:=bind_some hF
 obtain ⟨R35,hR35⟩:=exR fun f w_=>∃ H33 : FH,Le H H33∧f 0 = Pt g_0∧f 3 = Pt g3∧f 39 = Bo b32∧Star H33 w_ (oF 54 (rCon 83) v0_0 r_.list :: oF 4 RP.bool v0_1 r_.gone :: box g_0 80 #[v0_0,v0_1] :: box g3 56 #[I s.kind,I s.a,I s.b,v1_3,I s.given.bound] :: R)
 refine W_join R35 ?_ ?_
 refine W_region (L_lda (cs:=[I s.kind,I s.a,I s.b,v1_3,I s.given.bound]) rfl Tryz.isAgg56 Tryz.sizeOf56 rfl (At.sub0 (Blk.at (Star.blkAt 0 hst rfl)) 0 5) rfl ?_)
 obtain ⟨H36b,l37,s38,z39,k40⟩:=hst.borrow
 refine L_call rfl Tryz.call73 (ops1 rfl) (i_Step_shaped_c (s:=s) s38 (RP.mono _ h1_3 l37) hx23) ?_
 rintro _ w41 ⟨rfl,hst⟩
 have hst:=k40 hst c0
 refine L_not_ rfl rfl (mB rfl (L_split (d:=18) (b:=(!x23)) rfl (fun hc42=>?_) (fun hc42=>?_)))
 rw [ite_t hc42] at hb28
 refine ps rfl (ps rfl (ps rfl (ps rfl (ps rfl (ps rfl (ps rfl (ps rfl (ps rfl (L_pick (v:=Bo b28) rfl rfl (congrArg Value.bool (so hb28)) (mB rfl (L_split (d:=29) (b:=b28) rfl (fun hc43=>?_) (fun hc43=>?_))))))))))))
 rw [ite_t hc43] at hb32
 refine ps rfl (ps rfl (ps rfl (ps rfl (ps rfl (ps rfl (ps rfl (ps rfl (ps rfl (L_pick (v:=Bo b32) rfl rfl (congrArg Value.bool (so hb32)) (nn ?_))))))))))
 have hst:=hst.gets [1,3,3] rfl
 exact rj hR35 ⟨H,(Le.refl _),rfl,rfl,rfl,hst⟩
 rw [ite_f hc43] at hb32
 obtain ⟨b31,hb31,hb32⟩:=bind_some hb32
 refine mI rfl (L_gtr rfl rfl rfl (mB rfl (L_split (d:=32) (b:=decide (x10.1 > 1)) rfl (fun hc44=>?_) (fun hc44=>?_))))
 rw [ite_t hc44] at hb31
 obtain ⟨x29,hx29,hb31⟩:=bind_some hb31
 refine mV (Pt g_0) rfl (fA 2 fa_56_2 rfl rfl (ldB 0 hst Tryz.isAgg3 rfl rfl rfl ?_))
 have hst:=hst.gets [3,3,3] rfl
 refine L_call rfl Tryz.call74 (ops2 rfl rfl) (i_running_has_c (r_:=r_) (i:=s.b) hst hx29) ?_
 rintro _ w45 ⟨H45,l45,rfl,hst⟩
 refine L_not_ rfl rfl (L_pick (v:=Bo b31) rfl rfl (congrArg Value.bool (so hb31)) (L_pick (v:=Bo b32) rfl rfl (congrArg Value.bool (so hb32)) (nn ?_)))
 have hst:=hst.gets [3,1,3,3] rfl
 exact rj hR35 ⟨H45,l45,rfl,rfl,rfl,hst⟩
 rw [ite_f hc44] at hb31
 refine ps rfl (ps rfl (ps rfl (ps rfl (ps rfl (L_pick (v:=Bo b31) rfl rfl (congrArg Value.bool (so hb31)) (L_pick (v:=Bo b32) rfl rfl (congrArg Value.bool (so hb32)) (nn ?_)))))))
 have hst:=hst.gets [1,3,3] rfl
 exact rj hR35 ⟨H,(Le.refl _),rfl,rfl,rfl,hst⟩
 rw [ite_f hc42] at hb28
 obtain ⟨b27,hb27,hb28⟩:=bind_some hb28
 refine mI rfl (L_gtr rfl rfl rfl (mB rfl (L_split (d:=21) (b:=decide (x10.1 > 0)) rfl (fun hc46=>?_) (fun hc46=>?_))))
 rw [ite_t hc46] at hb27
 obtain ⟨x25,hx25,hb27⟩:=bind_some hb27
 refine mV (Pt g_0) rfl (fA 1 fa_56_1 rfl rfl (ldB 0 hst Tryz.isAgg3 rfl rfl rfl ?_))
 have hst:=hst.gets [3,3,3] rfl
 refine L_call rfl Tryz.call74 (ops2 rfl rfl) (i_running_has_c (r_:=r_) (i:=s.a) hst hx25) ?_
 rintro _ w47 ⟨H47,l47,rfl,hst⟩
 refine L_not_ rfl rfl (L_pick (v:=Bo b27) rfl rfl (congrArg Value.bool (so hb27)) (L_pick (v:=Bo b28) rfl rfl (congrArg Value.bool (so hb28)) (mB rfl (L_split (d:=29) (b:=b28) rfl (fun hc48=>?_) (fun hc48=>?_)))))
 rw [ite_t hc48] at hb32
 refine ps rfl (ps rfl (ps rfl (ps rfl (ps rfl (ps rfl (ps rfl (ps rfl (ps rfl (L_pick (v:=Bo b32) rfl rfl (congrArg Value.bool (so hb32)) (nn ?_))))))))))
 have hst:=hst.gets [3,1,3,3] rfl
 exact rj hR35 ⟨H47,l47,rfl,rfl,rfl,hst⟩
 rw [ite_f hc48] at hb32
 obtain ⟨b31,hb31,hb32⟩:=bind_some hb32
 refine mI rfl (L_gtr rfl rfl rfl (mB rfl (L_split (d:=32) (b:=decide (x10.1 > 1)) rfl (fun hc49=>?_) (fun hc49=>?_))))
 rw [ite_t hc49] at hb31
 obtain ⟨x29,hx29,hb31⟩:=bind_some hb31
 refine mV (Pt g_0) rfl (fA 2 fa_56_2 rfl rfl (ldB 3 hst Tryz.isAgg3 rfl rfl rfl (L_call rfl Tryz.call74 (ops2 rfl rfl) (i_running_has_c (r_:=r_) (i:=s.b) hst hx29) ?_)))
 rintro _ w50 ⟨H50,l50,rfl,hst⟩
 refine L_not_ rfl rfl (L_pick (v:=Bo b31) rfl rfl (congrArg Value.bool (so hb31)) (L_pick (v:=Bo b32) rfl rfl (congrArg Value.bool (so hb32)) (nn ?_)))
 have hst:=hst.gets [3,1,3,3] rfl
 exact rj hR35 ⟨H50,(Le.trans l47 l50),rfl,rfl,rfl,hst⟩
 rw [ite_f hc49] at hb31
 refine ps rfl (ps rfl (ps rfl (ps rfl (ps rfl (L_pick (v:=Bo b31) rfl rfl (congrArg Value.bool (so hb31)) (L_pick (v:=Bo b32) rfl rfl (congrArg Value.bool (so hb32)) (nn ?_)))))))
 have hst:=hst.gets [3,1,3,3] rfl
 exact rj hR35 ⟨H47,l47,rfl,rfl,rfl,hst⟩
 rw [ite_f hc46] at hb27
 refine ps rfl (ps rfl (ps rfl (ps rfl (ps rfl (L_pick (v:=Bo b27) rfl rfl (congrArg Value.bool (so hb27)) (L_pick (v:=Bo b28) rfl rfl (congrArg Value.bool (so hb28)) (mB rfl (L_split (d:=29) (b:=b28) rfl (fun hc51=>?_) (fun hc51=>?_)))))))))
 rw [ite_t hc51] at hb32
 refine ps rfl (ps rfl (ps rfl (ps rfl (ps rfl (ps rfl (ps rfl (ps rfl (ps rfl (L_pick (v:=Bo b32) rfl rfl (congrArg Value.bool (so hb32)) (nn ?_))))))))))
 have hst:=hst.gets [1,3,3] rfl
 exact rj hR35 ⟨H,(Le.refl _),rfl,rfl,rfl,hst⟩
 rw [ite_f hc51] at hb32
 obtain ⟨b31,hb31,hb32⟩:=bind_some hb32
 refine mI rfl (L_gtr rfl rfl rfl (mB rfl (L_split (d:=32) (b:=decide (x10.1 > 1)) rfl (fun hc52=>?_) (fun hc52=>?_))))
 rw [ite_t hc52] at hb31
 obtain ⟨x29,hx29,hb31⟩:=bind_some hb31
 refine mV (Pt g_0) rfl (fA 2 fa_56_2 rfl rfl (ldB 0 hst Tryz.isAgg3 rfl rfl rfl ?_))
 have hst:=hst.gets [3,3,3] rfl
 refine L_call rfl Tryz.call74 (ops2 rfl rfl) (i_running_has_c (r_:=r_) (i:=s.b) hst hx29) ?_
 rintro _ w53 ⟨H53,l53,rfl,hst⟩
 refine L_not_ rfl rfl (L_pick (v:=Bo b31) rfl rfl (congrArg Value.bool (so hb31)) (L_pick (v:=Bo b32) rfl rfl (congrArg Value.bool (so hb32)) (nn ?_)))
 have hst:=hst.gets [3,1,3,3] rfl
 exact rj hR35 ⟨H53,l53,rfl,rfl,rfl,hst⟩
 rw [ite_f hc52] at hb31
 refine ps rfl (ps rfl (ps rfl (ps rfl (ps rfl (L_pick (v:=Bo b31) rfl rfl (congrArg Value.bool (so hb31)) (L_pick (v:=Bo b32) rfl rfl (congrArg Value.bool (so hb32)) (nn ?_)))))))
 have hst:=hst.gets [1,3,3] rfl
 exact rj hR35 ⟨H,(Le.refl _),rfl,rfl,rfl,hst⟩
 intro f w_ hR
 obtain ⟨H33,l34,sf0,sf3,sf39,hst⟩:=rk hR35 hR
 refine W_cond (b:=b32) sf39 (fun hc54=>?_) (fun hc54=>?_)
 have hF:=(ite_t hc54).symm.trans hF
 refine sq (aB rfl (nn (W_ret (retG1 (v1:=Bo false) Tryz.results66 rfl ?_))))
 obtain rfl:=so hF
 have hst:=hst.gets [1,1,2] rfl
 have hst:=Star.drop 3 hst rfl
 exact ⟨H33,l34,v0_0,v0_1,rfl,hst⟩
 have hF:=(ite_f hc54).symm.trans hF
 refine W_skip (sq (L_al (cs:=#[S0,I 0]) rfl Tryz.zeroValue54 rfl hst (fun g57 w58 hst=>ns (aB rfl (nq (sq (fA 0 fa_56_0 sf3 rfl (ldB 4 hst Tryz.isAgg3 rfl rfl rfl (nn (W_block (sq (L_eql rfl rfl rfl (aB rfl (nn (W_cond (b:=(s.kind == 8)) rfl (fun hc59=>?_) (fun hc59=>?_))))))))))))))))
 have hF:=(ite_t hc59).symm.trans hF
 refine W_seq ?_
 obtain ⟨x60,hx60,hF⟩:=bind_some hF
 have hst:=Star.drop 0 hst rfl
 refine W_drawS 6 [isV (Pt g_0),isV (Pt g_0),isV (Pq g_0 1),isV (v0_1),isV (Pq g3 1),isV (I s.a)] [oF 54 (rCon 83) v0_0 r_.list,oF 4 RP.bool v0_1 r_.gone,box g_0 80 #[v0_0,v0_1],box g3 56 #[I s.kind,I s.a,I s.b,v1_3,I s.given.bound]] [] (R) [([],[]),([],[]),([],[]),([],[]),([],[]),([],[])] (S:=[]) Tryz_mix (by kernel_rfl) rfl (by kernel_rfl) (amF_cons (mono_V _) (amF_cons (mono_V _) (amF_cons (mono_V _) (amF_cons (mono_V _) (amF_cons (mono_V _) (amF_cons (mono_V _) amF_nil)))))) hst ?_ (fun f w_ H64 hS64 hE64 hT64 hst=>?_)
 refine opsS_cons (fun f w_ _ _ s _ _ hst=>mF ((s 0 rfl).trans sf0) rfl (nO rfl rfl hst)) (opsS_cons (fun f w_ _ _ _ _ p hst=>L_nc rfl (p 0 44 rfl rfl) (nO rfl rfl hst)) (opsS_cons (fun f w_ _ _ _ _ p hst=>fA 1 fa_80_1 (p 1 45 rfl rfl) rfl (nO rfl rfl hst)) (opsS_cons (fun f w_ _ _ _ _ p hst=>ldB 2 hst Tryz.isAgg45 (p 2 46 rfl rfl) rfl rfl (nO rfl rfl hst)) (opsS_cons (fun f w_ _ _ s _ _ hst=>fA 1 fa_56_1 ((s 3 rfl).trans sf3) rfl (nO rfl rfl hst)) (opsS_cons (fun f w_ _ _ _ _ p hst=>ldB 3 hst Tryz.isAgg3 (p 4 48 rfl rfl) rfl rfl (nO rfl rfl hst)) (opsS_nil))))))
 obtain ⟨g65,cap_g65,hv66,_,_⟩:=Star.row 1 hst rfl hx60
 refine L_ixO (R:=(OR.frz RP.bool)) (tb:=0) 0 rfl Tryz.underlying45 Tryz.sizeOf4 (hT64 3 47 rfl rfl) hv66 (by first | rfl | simp) (hT64 5 49 rfl rfl) hx60 ?_
 have hst:=Star.addF (r:=RP.bool) (cs:=[Bo true]) (x:=true) hst rfl
 have hst:=hst.gets [2,1] rfl
 refine L_stE1 (u:=Bo true) rfl Tryz.sizeOf4 rfl rfl rfl hv66 hst hx60 (fun w67 hst=>ns (aB rfl (nn (W_ret (retG1 (v1:=Bo true) Tryz.results66 rfl ?_)))))
 obtain rfl:=so hF
 have hst:=hst.gets [1,2] rfl
 have hst:=Star.drop 3 hst rfl
 exact ⟨H64,(Le.trans l34 hE64),v0_0,v0_1,rfl,hst⟩
 have hF:=(ite_f hc59).symm.trans hF
 refine sq (L_eql rfl rfl rfl (aB rfl (nn ?_)))
 obtain ⟨⟨ok_68,g57_0_69,g57_1_71⟩,hA74,hF⟩:=bind_some hF
 obtain ⟨R74,hR74⟩:=exR fun f w_=>∃ H72 : FH,∃ v69_g57_0 : Value,Le H33 H72∧f 0 = Pt g_0∧f 7 = Pt g57∧f 8 = Bo ok_68∧(rS 83 rTerm).rel H72 [v69_g57_0] g57_0_69∧Star H72 w_ (oF 54 (rCon 83) v0_0 r_.list :: oF 4 RP.bool v0_1 r_.gone :: box g_0 80 #[v0_0,v0_1] :: box g57 54 #[v69_g57_0,I g57_1_71] :: R)
 refine W_join R74 ?_ ?_
 refine W_cond (b:=(s.kind == 1)) rfl (fun hc75=>?_) (fun hc75=>?_)
 have hA74:=(ite_t hc75).symm.trans hA74
 obtain ⟨x76,hx76,hA74⟩:=bind_some hA74
 obtain ⟨x81,hx81,hA74⟩:=bind_some hA74
 obtain ⟨x84,hx84,hA74⟩:=bind_some hA74
 obtain ⟨g88,cap_g88,hv89,_,_⟩:=Star.row 1 hst rfl hx76
 have hst:=hst.gets [4,4,4,4] rfl
 refine W_drawS 21 [isV (Pt g_0),isV (Pt g_0),isV (Pt g_0),isV (v0_0),isV (Pq g3 1),isV (I s.a),isV (.pointer (some ⟨g88,Int.toNat s.a * 2,none⟩)),exD (isData (rS 83 rTerm) x76.terms) fun u_0=>isV (.agg #[u_0,I x76.bound]),isV (Pt g_0),isV (Pt g_0),isV (Pt g_0),isV (v0_0),isV (Pq g3 2),isV (I s.b),isV (.pointer (some ⟨g88,Int.toNat s.b * 2,none⟩)),exD (isData (rS 83 rTerm) x81.terms) fun u_0=>isV (.agg #[u_0,I x81.bound]),tup2 (exD (isData (rS 83 rTerm) x84.1.terms) fun u_0=>isV (.agg #[u_0,I x84.1.bound])) (isV (Bo x84.2)),tup2 (exD (isData (rS 83 rTerm) x84.1.terms) fun u_0=>isV (.agg #[u_0,I x84.1.bound])) (isV (Bo x84.2)),exD (isData (rS 83 rTerm) x84.1.terms) fun u_0=>isV (.agg #[u_0,I x84.1.bound]),isV (Bo x84.2),anyF] [oF 54 (rCon 83) v0_0 r_.list,oF 4 RP.bool v0_1 r_.gone,box g_0 80 #[v0_0,v0_1],box g3 56 #[I s.kind,I s.a,I s.b,v1_3,I s.given.bound]] [.base (box g57 54 #[S0,I 0]) (some 20),.madeN 20 [71] (fun vs_=>box g57 54 #[(aggC (vs_.getD 0 undef) 0),I x84.1.bound]) none] (R) [([],[]),([],[]),([],[]),([],[]),([],[]),([],[]),([],[]),([],[]),([],[]),([],[]),([],[]),([],[]),([],[]),([],[]),([],[]),([],[]),([],[]),([],[]),([],[]),([],[]),([0],[1])] (S:=[(none,[],some 20),(some 20,[71],none)]) Tryz_mix (by kernel_rfl) rfl (by kernel_rfl) (amF_cons (mono_V _) (amF_cons (mono_V _) (amF_cons (mono_V _) (amF_cons (mono_V _) (amF_cons (mono_V _) (amF_cons (mono_V _) (amF_cons (mono_V _) (amF_cons (mono_exD (mono_data _ _) fun _=>mono_V _) (amF_cons (mono_V _) (amF_cons (mono_V _) (amF_cons (mono_V _) (amF_cons (mono_V _) (amF_cons (mono_V _) (amF_cons (mono_V _) (amF_cons (mono_V _) (amF_cons (mono_exD (mono_data _ _) fun _=>mono_V _) (amF_cons (mono_tup2 (mono_exD (mono_data _ _) fun _=>mono_V _) (mono_V _)) (amF_cons (mono_tup2 (mono_exD (mono_data _ _) fun _=>mono_V _) (mono_V _)) (amF_cons (mono_exD (mono_data _ _) fun _=>mono_V _) (amF_cons (mono_V _) (amF_cons (mono_any) amF_nil))))))))))))))))))))) hst ?_ (fun f w_ H87 hS87 hE87 hT87 hst=>?_)
 refine opsS_cons (fun f w_ _ _ s _ _ hst=>mF ((s 0 rfl).trans sf0) rfl (nO rfl rfl hst)) (opsS_cons (fun f w_ _ _ _ _ p hst=>L_nc rfl (p 0 54 rfl rfl) (nO rfl rfl hst)) (opsS_cons (fun f w_ _ _ _ _ p hst=>fA 0 fa_80_0 (p 1 55 rfl rfl) rfl (nO rfl rfl hst)) (opsS_cons (fun f w_ _ _ _ _ p hst=>ldB 2 hst Tryz.isAgg29 (p 2 56 rfl rfl) rfl rfl (nO rfl rfl hst)) (opsS_cons (fun f w_ _ _ s _ _ hst=>fA 1 fa_56_1 ((s 3 rfl).trans sf3) rfl (nO rfl rfl hst)) (opsS_cons (fun f w_ _ _ _ _ p hst=>ldB 3 hst Tryz.isAgg3 (p 4 58 rfl rfl) rfl rfl (nO rfl rfl hst)) (opsS_cons (fun f w_ _ _ _ _ p hst=>L_ixO (R:=(OR.frz (rCon 83))) (tb:=0) 0 rfl Tryz.underlying29 Tryz.sizeOf54 (p 3 57 rfl rfl) hv89 (by first | rfl | simp) (p 5 59 rfl rfl) hx76 (nO rfl rfl hst)) (opsS_cons ?_ ?_)))))))
 intro f w_ H87 X87 hS87 hE87 hP87 hst
 obtain ⟨cs96,hr96,hat96⟩:=Star.eltF 0 hst rfl hv89 hx76
 obtain ⟨u97_0,rfl,hu97_0⟩:=rCon_iff.1 hr96
 refine L_lda (cs:=[u97_0,I x76.bound]) rfl Tryz.isAgg54 Tryz.sizeOf54 (hP87 6 60 rfl rfl) (At.sub hat96 0 2) rfl (L_nil ⟨rfl,_,_,rfl,Le.refl _,fun _ _=>⟨_,hu97_0,rfl⟩,hst⟩)
 refine opsS_cons (fun f w_ _ _ s _ _ hst=>mF ((s 0 rfl).trans sf0) rfl (nO rfl rfl hst)) (opsS_cons (fun f w_ _ _ _ _ p hst=>L_nc rfl (p 8 62 rfl rfl) (nO rfl rfl hst)) (opsS_cons (fun f w_ _ _ _ _ p hst=>fA 0 fa_80_0 (p 9 63 rfl rfl) rfl (nO rfl rfl hst)) (opsS_cons (fun f w_ _ _ _ _ p hst=>ldB 2 hst Tryz.isAgg29 (p 10 64 rfl rfl) rfl rfl (nO rfl rfl hst)) (opsS_cons (fun f w_ _ _ s _ _ hst=>fA 2 fa_56_2 ((s 3 rfl).trans sf3) rfl (nO rfl rfl hst)) (opsS_cons (fun f w_ _ _ _ _ p hst=>ldB 3 hst Tryz.isAgg3 (p 12 66 rfl rfl) rfl rfl (nO rfl rfl hst)) (opsS_cons (fun f w_ _ _ _ _ p hst=>L_ixO (R:=(OR.frz (rCon 83))) (tb:=0) 0 rfl Tryz.underlying29 Tryz.sizeOf54 (p 11 65 rfl rfl) hv89 (by first | rfl | simp) (p 13 67 rfl rfl) hx81 (nO rfl rfl hst)) (opsS_cons ?_ ?_)))))))
 intro f w_ H87 X87 hS87 hE87 hP87 hst
 obtain ⟨cs98,hr98,hat98⟩:=Star.eltF 0 hst rfl hv89 hx81
 obtain ⟨u99_0,rfl,hu99_0⟩:=rCon_iff.1 hr98
 refine L_lda (cs:=[u99_0,I x81.bound]) rfl Tryz.isAgg54 Tryz.sizeOf54 (hP87 14 68 rfl rfl) (At.sub hat98 0 2) rfl (L_nil ⟨rfl,_,_,rfl,Le.refl _,fun _ _=>⟨_,hu99_0,rfl⟩,hst⟩)
 refine opsS_cons ?_ ?_
 intro f w_ H87 X87 hS87 hE87 hP87 hst
 obtain ⟨u100_0,hu100_0,hv100⟩:=(hP87 7 61 rfl rfl)
 obtain ⟨u101_0,hu101_0,hv101⟩:=(hP87 15 69 rfl rfl)
 refine L_call rfl Tryz.call75 (ops2 hv100 hv101) (i_AddConstraints_c (a:=x76) (b:=x81) hst hu100_0 hu101_0 hx84) ?_
 rintro _ w102 ⟨H102,l102,r102_0,rfl,hr102_0,hst⟩
 exact L_nil ⟨rfl,_,_,rfl,l102,fun _ _=>⟨_,_,rfl,⟨_,hr102_0,rfl⟩,rfl⟩,hst⟩
 refine opsS_cons ?_ ?_
 intro f w_ H87 X87 hS87 hE87 hP87 hst
 obtain ⟨a103_0,a103_1,hv103,ht103_0,ht103_1⟩:=(hP87 16 70 rfl rfl)
 obtain ⟨u104_0,hu104_0,rfl⟩:=ht103_0
 obtain rfl:=ht103_1
 refine mF hv103 rfl (L_nil ⟨rfl,_,_,rfl,Le.refl _,fun _ _=>⟨_,_,rfl,⟨_,hu104_0,rfl⟩,rfl⟩,hst⟩)
 refine opsS_cons ?_ ?_
 intro f w_ H87 X87 hS87 hE87 hP87 hst
 obtain ⟨a105_0,a105_1,hv105,ht105_0,ht105_1⟩:=(hP87 17 53 rfl rfl)
 obtain ⟨u106_0,hu106_0,rfl⟩:=ht105_0
 obtain rfl:=ht105_1
 refine L_ex (v:=.agg #[u106_0,I x84.1.bound]) rfl hv105 rfl (L_nil ⟨rfl,_,_,rfl,Le.refl _,fun _ _=>⟨_,hu106_0,rfl⟩,hst⟩)
 refine opsS_cons ?_ ?_
 intro f w_ H87 X87 hS87 hE87 hP87 hst
 obtain ⟨a107_0,a107_1,hv107,ht107_0,ht107_1⟩:=(hP87 17 53 rfl rfl)
 obtain ⟨u108_0,hu108_0,rfl⟩:=ht107_0
 obtain rfl:=ht107_1
 refine L_ex (v:=Bo x84.2) rfl hv107 rfl (L_nil ⟨rfl,_,_,rfl,Le.refl _,fun _ _=>rfl,hst⟩)
 refine opsS_cons ?_ ?_
 intro f w_ H87 X87 hS87 hE87 hP87 hst
 have hst : Star H87 w_ (oF 54 (rCon 83) v0_0 r_.list :: oF 4 RP.bool v0_1 r_.gone :: box g_0 80 #[v0_0,v0_1] :: box g3 56 #[I s.kind,I s.a,I s.b,v1_3,I s.given.bound] :: box g57 54 #[S0,I 0] :: X87):=hst
 obtain ⟨u109_0,hu109_0,hv109⟩:=(hP87 18 71 rfl rfl)
 refine L_staB (vs:=#[u109_0,I x84.1.bound]) (cs2:=#[u109_0,I x84.1.bound]) 4 rfl Tryz.sizeOf54 ((hS87 7 rfl).trans rfl) hv109 rfl (ones_cons (one_len (slice_len hu109_0)) (ones_cons rfl ones_nil)) hst rfl (by show 0 + 2≤2; decide) rfl (fun w110 hst=>?_)
 have hst:=hst.gets [4,4,4,4] rfl
 have hst : Star H87 w110 (oF 54 (rCon 83) v0_0 r_.list :: oF 4 RP.bool v0_1 r_.gone :: box g_0 80 #[v0_0,v0_1] :: box g3 56 #[I s.kind,I s.a,I s.b,v1_3,I s.given.bound] :: box g57 54 #[(aggC (f 71) 0),I x84.1.bound] :: X87):=by rw [hv109]; exact hst
 exact L_nil ⟨rfl,Bo false,_,rfl,Le.refl _,(fun _ h=>nomatch h),hst⟩
 exact opsS_nil
 have hst : Star H87 w_ (oF 54 (rCon 83) v0_0 r_.list :: oF 4 RP.bool v0_1 r_.gone :: box g_0 80 #[v0_0,v0_1] :: box g3 56 #[I s.kind,I s.a,I s.b,v1_3,I s.given.bound] :: box g57 54 #[(aggC (f 71) 0),I x84.1.bound] :: R):=hst
 obtain ⟨u111_0,hu111_0,hv111⟩:=(hT87 18 71 rfl rfl)
 have hren : Star H87 w_ (oF 54 (rCon 83) v0_0 r_.list :: oF 4 RP.bool v0_1 r_.gone :: box g_0 80 #[v0_0,v0_1] :: box g3 56 #[I s.kind,I s.a,I s.b,v1_3,I s.given.bound] :: box g57 54 #[(aggC (f 71) 0),I x84.1.bound] :: R):=hst
 rw [hv111] at hren
 have hst : Star H87 w_ (oF 54 (rCon 83) v0_0 r_.list :: oF 4 RP.bool v0_1 r_.gone :: box g_0 80 #[v0_0,v0_1] :: box g3 56 #[I s.kind,I s.a,I s.b,v1_3,I s.given.bound] :: box g57 54 #[u111_0,I x84.1.bound] :: R):=hren
 refine aF (hT87 19 72 rfl rfl) rfl (nn ?_)
 obtain ⟨rfl,rfl,rfl⟩:=so3 hA74
 have hst:=hst.gets [4,3,3,3] rfl
 have hst:=Star.drop 4 hst rfl
 exact rj hR74 ⟨H87,u111_0,hE87,((hS87 0 rfl).trans sf0),((hS87 7 rfl).trans rfl),rfl,hu111_0,hst⟩
 have hA74:=(ite_f hc75).symm.trans hA74
 refine sq (L_eql rfl rfl rfl (aB rfl (nn ?_)))
 obtain ⟨⟨ok_112,g57_0_113,g57_1_115⟩,hA118,hA74⟩:=bind_some hA74
 obtain ⟨R118,hR118⟩:=exR fun f w_=>∃ H116 : FH,∃ v113_g57_0 : Value,Le H33 H116∧f 0 = Pt g_0∧f 7 = Pt g57∧f 8 = Bo ok_112∧(rS 83 rTerm).rel H116 [v113_g57_0] g57_0_113∧Star H116 w_ (oF 54 (rCon 83) v0_0 r_.list :: oF 4 RP.bool v0_1 r_.gone :: box g_0 80 #[v0_0,v0_1] :: box g57 54 #[v113_g57_0,I g57_1_115] :: R)
 refine W_join R118 ?_ ?_
 refine W_cond (b:=(s.kind == 2)) rfl (fun hc119=>?_) (fun hc119=>?_)
 have hA118:=(ite_t hc119).symm.trans hA118
 obtain ⟨x120,hx120,hA118⟩:=bind_some hA118
 obtain ⟨x125,hx125,hA118⟩:=bind_some hA118
 obtain ⟨g129,cap_g129,hv130,_,_⟩:=Star.row 1 hst rfl hx120
 have hst:=hst.gets [4,4,4,4] rfl
 refine W_drawS 15 [isV (Pt g_0),isV (Pt g_0),isV (Pt g_0),isV (v0_0),isV (Pq g3 1),isV (I s.a),isV (.pointer (some ⟨g129,Int.toNat s.a * 2,none⟩)),exD (isData (rS 83 rTerm) x120.terms) fun u_0=>isV (.agg #[u_0,I x120.bound]),isV (Pq g3 2),isV (I s.b),tup2 (exD (isData (rS 83 rTerm) x125.1.terms) fun u_0=>isV (.agg #[u_0,I x125.1.bound])) (isV (Bo x125.2)),tup2 (exD (isData (rS 83 rTerm) x125.1.terms) fun u_0=>isV (.agg #[u_0,I x125.1.bound])) (isV (Bo x125.2)),exD (isData (rS 83 rTerm) x125.1.terms) fun u_0=>isV (.agg #[u_0,I x125.1.bound]),isV (Bo x125.2),anyF] [oF 54 (rCon 83) v0_0 r_.list,oF 4 RP.bool v0_1 r_.gone,box g_0 80 #[v0_0,v0_1],box g3 56 #[I s.kind,I s.a,I s.b,v1_3,I s.given.bound]] [.base (box g57 54 #[S0,I 0]) (some 14),.madeN 14 [87] (fun vs_=>box g57 54 #[(aggC (vs_.getD 0 undef) 0),I x125.1.bound]) none] (R) [([],[]),([],[]),([],[]),([],[]),([],[]),([],[]),([],[]),([],[]),([],[]),([],[]),([],[]),([],[]),([],[]),([],[]),([0],[1])] (S:=[(none,[],some 14),(some 14,[87],none)]) Tryz_mix (by kernel_rfl) rfl (by kernel_rfl) (amF_cons (mono_V _) (amF_cons (mono_V _) (amF_cons (mono_V _) (amF_cons (mono_V _) (amF_cons (mono_V _) (amF_cons (mono_V _) (amF_cons (mono_V _) (amF_cons (mono_exD (mono_data _ _) fun _=>mono_V _) (amF_cons (mono_V _) (amF_cons (mono_V _) (amF_cons (mono_tup2 (mono_exD (mono_data _ _) fun _=>mono_V _) (mono_V _)) (amF_cons (mono_tup2 (mono_exD (mono_data _ _) fun _=>mono_V _) (mono_V _)) (amF_cons (mono_exD (mono_data _ _) fun _=>mono_V _) (amF_cons (mono_V _) (amF_cons (mono_any) amF_nil))))))))))))))) hst ?_ (fun f w_ H128 hS128 hE128 hT128 hst=>?_)
 refine opsS_cons (fun f w_ _ _ s _ _ hst=>mF ((s 0 rfl).trans sf0) rfl (nO rfl rfl hst)) (opsS_cons (fun f w_ _ _ _ _ p hst=>L_nc rfl (p 0 76 rfl rfl) (nO rfl rfl hst)) (opsS_cons (fun f w_ _ _ _ _ p hst=>fA 0 fa_80_0 (p 1 77 rfl rfl) rfl (nO rfl rfl hst)) (opsS_cons (fun f w_ _ _ _ _ p hst=>ldB 2 hst Tryz.isAgg29 (p 2 78 rfl rfl) rfl rfl (nO rfl rfl hst)) (opsS_cons (fun f w_ _ _ s _ _ hst=>fA 1 fa_56_1 ((s 3 rfl).trans sf3) rfl (nO rfl rfl hst)) (opsS_cons (fun f w_ _ _ _ _ p hst=>ldB 3 hst Tryz.isAgg3 (p 4 80 rfl rfl) rfl rfl (nO rfl rfl hst)) (opsS_cons (fun f w_ _ _ _ _ p hst=>L_ixO (R:=(OR.frz (rCon 83))) (tb:=0) 0 rfl Tryz.underlying29 Tryz.sizeOf54 (p 3 79 rfl rfl) hv130 (by first | rfl | simp) (p 5 81 rfl rfl) hx120 (nO rfl rfl hst)) (opsS_cons ?_ ?_)))))))
 intro f w_ H128 X128 hS128 hE128 hP128 hst
 obtain ⟨cs135,hr135,hat135⟩:=Star.eltF 0 hst rfl hv130 hx120
 obtain ⟨u136_0,rfl,hu136_0⟩:=rCon_iff.1 hr135
 refine L_lda (cs:=[u136_0,I x120.bound]) rfl Tryz.isAgg54 Tryz.sizeOf54 (hP128 6 82 rfl rfl) (At.sub hat135 0 2) rfl (L_nil ⟨rfl,_,_,rfl,Le.refl _,fun _ _=>⟨_,hu136_0,rfl⟩,hst⟩)
 refine opsS_cons (fun f w_ _ _ s _ _ hst=>fA 2 fa_56_2 ((s 3 rfl).trans sf3) rfl (nO rfl rfl hst)) (opsS_cons (fun f w_ _ _ _ _ p hst=>ldB 3 hst Tryz.isAgg3 (p 8 84 rfl rfl) rfl rfl (nO rfl rfl hst)) (opsS_cons ?_ ?_))
 intro f w_ H128 X128 hS128 hE128 hP128 hst
 obtain ⟨u137_0,hu137_0,hv137⟩:=(hP128 7 83 rfl rfl)
 refine L_call rfl Tryz.call76 (ops2 hv137 (hP128 9 85 rfl rfl)) (i_MultiplyConstraint_c (c:=x120) (k:=s.b) hst hu137_0 hx125) ?_
 rintro _ w138 ⟨H138,l138,r138_0,rfl,hr138_0,hst⟩
 exact L_nil ⟨rfl,_,_,rfl,l138,fun _ _=>⟨_,_,rfl,⟨_,hr138_0,rfl⟩,rfl⟩,hst⟩
 refine opsS_cons ?_ ?_
 intro f w_ H128 X128 hS128 hE128 hP128 hst
 obtain ⟨a139_0,a139_1,hv139,ht139_0,ht139_1⟩:=(hP128 10 86 rfl rfl)
 obtain ⟨u140_0,hu140_0,rfl⟩:=ht139_0
 obtain rfl:=ht139_1
 refine mF hv139 rfl (L_nil ⟨rfl,_,_,rfl,Le.refl _,fun _ _=>⟨_,_,rfl,⟨_,hu140_0,rfl⟩,rfl⟩,hst⟩)
 refine opsS_cons ?_ ?_
 intro f w_ H128 X128 hS128 hE128 hP128 hst
 obtain ⟨a141_0,a141_1,hv141,ht141_0,ht141_1⟩:=(hP128 11 75 rfl rfl)
 obtain ⟨u142_0,hu142_0,rfl⟩:=ht141_0
 obtain rfl:=ht141_1
 refine L_ex (v:=.agg #[u142_0,I x125.1.bound]) rfl hv141 rfl (L_nil ⟨rfl,_,_,rfl,Le.refl _,fun _ _=>⟨_,hu142_0,rfl⟩,hst⟩)
 refine opsS_cons ?_ ?_
 intro f w_ H128 X128 hS128 hE128 hP128 hst
 obtain ⟨a143_0,a143_1,hv143,ht143_0,ht143_1⟩:=(hP128 11 75 rfl rfl)
 obtain ⟨u144_0,hu144_0,rfl⟩:=ht143_0
 obtain rfl:=ht143_1
 refine L_ex (v:=Bo x125.2) rfl hv143 rfl (L_nil ⟨rfl,_,_,rfl,Le.refl _,fun _ _=>rfl,hst⟩)
 refine opsS_cons ?_ ?_
 intro f w_ H128 X128 hS128 hE128 hP128 hst
 have hst : Star H128 w_ (oF 54 (rCon 83) v0_0 r_.list :: oF 4 RP.bool v0_1 r_.gone :: box g_0 80 #[v0_0,v0_1] :: box g3 56 #[I s.kind,I s.a,I s.b,v1_3,I s.given.bound] :: box g57 54 #[S0,I 0] :: X128):=hst
 obtain ⟨u145_0,hu145_0,hv145⟩:=(hP128 12 87 rfl rfl)
 refine L_staB (vs:=#[u145_0,I x125.1.bound]) (cs2:=#[u145_0,I x125.1.bound]) 4 rfl Tryz.sizeOf54 ((hS128 7 rfl).trans rfl) hv145 rfl (ones_cons (one_len (slice_len hu145_0)) (ones_cons rfl ones_nil)) hst rfl (by show 0 + 2≤2; decide) rfl (fun w146 hst=>?_)
 have hst:=hst.gets [4,4,4,4] rfl
 have hst : Star H128 w146 (oF 54 (rCon 83) v0_0 r_.list :: oF 4 RP.bool v0_1 r_.gone :: box g_0 80 #[v0_0,v0_1] :: box g3 56 #[I s.kind,I s.a,I s.b,v1_3,I s.given.bound] :: box g57 54 #[(aggC (f 87) 0),I x125.1.bound] :: X128):=by rw [hv145]; exact hst
 exact L_nil ⟨rfl,Bo false,_,rfl,Le.refl _,(fun _ h=>nomatch h),hst⟩
 exact opsS_nil
 have hst : Star H128 w_ (oF 54 (rCon 83) v0_0 r_.list :: oF 4 RP.bool v0_1 r_.gone :: box g_0 80 #[v0_0,v0_1] :: box g3 56 #[I s.kind,I s.a,I s.b,v1_3,I s.given.bound] :: box g57 54 #[(aggC (f 87) 0),I x125.1.bound] :: R):=hst
 obtain ⟨u147_0,hu147_0,hv147⟩:=(hT128 12 87 rfl rfl)
 have hren : Star H128 w_ (oF 54 (rCon 83) v0_0 r_.list :: oF 4 RP.bool v0_1 r_.gone :: box g_0 80 #[v0_0,v0_1] :: box g3 56 #[I s.kind,I s.a,I s.b,v1_3,I s.given.bound] :: box g57 54 #[(aggC (f 87) 0),I x125.1.bound] :: R):=hst
 rw [hv147] at hren
 have hst : Star H128 w_ (oF 54 (rCon 83) v0_0 r_.list :: oF 4 RP.bool v0_1 r_.gone :: box g_0 80 #[v0_0,v0_1] :: box g3 56 #[I s.kind,I s.a,I s.b,v1_3,I s.given.bound] :: box g57 54 #[u147_0,I x125.1.bound] :: R):=hren
 refine aF (hT128 13 88 rfl rfl) rfl (nn ?_)
 obtain ⟨rfl,rfl,rfl⟩:=so3 hA118
 have hst:=hst.gets [4,3,3,3] rfl
 have hst:=Star.drop 4 hst rfl
 exact rj hR118 ⟨H128,u147_0,hE128,((hS128 0 rfl).trans sf0),((hS128 7 rfl).trans rfl),rfl,hu147_0,hst⟩
 have hA118:=(ite_f hc119).symm.trans hA118
 refine sq (L_eql rfl rfl rfl (aB rfl (nn ?_)))
 obtain ⟨⟨ok_148,g57_0_149,g57_1_151⟩,hA154,hA118⟩:=bind_some hA118
 obtain ⟨R154,hR154⟩:=exR fun f w_=>∃ H152 : FH,∃ v149_g57_0 : Value,Le H33 H152∧f 0 = Pt g_0∧f 7 = Pt g57∧f 8 = Bo ok_148∧(rS 83 rTerm).rel H152 [v149_g57_0] g57_0_149∧Star H152 w_ (oF 54 (rCon 83) v0_0 r_.list :: oF 4 RP.bool v0_1 r_.gone :: box g_0 80 #[v0_0,v0_1] :: box g57 54 #[v149_g57_0,I g57_1_151] :: R)
 refine W_join R154 ?_ ?_
 refine W_cond (b:=(s.kind == 3)) rfl (fun hc155=>?_) (fun hc155=>?_)
 have hA154:=(ite_t hc155).symm.trans hA154
 obtain ⟨x156,hx156,hA154⟩:=bind_some hA154
 obtain ⟨x161,hx161,hA154⟩:=bind_some hA154
 obtain ⟨g165,cap_g165,hv166,_,_⟩:=Star.row 1 hst rfl hx156
 have hst:=hst.gets [4,4,4,4] rfl
 refine W_drawS 15 [isV (Pt g_0),isV (Pt g_0),isV (Pt g_0),isV (v0_0),isV (Pq g3 1),isV (I s.a),isV (.pointer (some ⟨g165,Int.toNat s.a * 2,none⟩)),exD (isData (rS 83 rTerm) x156.terms) fun u_0=>isV (.agg #[u_0,I x156.bound]),isV (Pq g3 2),isV (I s.b),tup2 (exD (isData (rS 83 rTerm) x161.1.terms) fun u_0=>isV (.agg #[u_0,I x161.1.bound])) (isV (Bo x161.2)),tup2 (exD (isData (rS 83 rTerm) x161.1.terms) fun u_0=>isV (.agg #[u_0,I x161.1.bound])) (isV (Bo x161.2)),exD (isData (rS 83 rTerm) x161.1.terms) fun u_0=>isV (.agg #[u_0,I x161.1.bound]),isV (Bo x161.2),anyF] [oF 54 (rCon 83) v0_0 r_.list,oF 4 RP.bool v0_1 r_.gone,box g_0 80 #[v0_0,v0_1],box g3 56 #[I s.kind,I s.a,I s.b,v1_3,I s.given.bound]] [.base (box g57 54 #[S0,I 0]) (some 14),.madeN 14 [103] (fun vs_=>box g57 54 #[(aggC (vs_.getD 0 undef) 0),I x161.1.bound]) none] (R) [([],[]),([],[]),([],[]),([],[]),([],[]),([],[]),([],[]),([],[]),([],[]),([],[]),([],[]),([],[]),([],[]),([],[]),([0],[1])] (S:=[(none,[],some 14),(some 14,[103],none)]) Tryz_mix (by kernel_rfl) rfl (by kernel_rfl) (amF_cons (mono_V _) (amF_cons (mono_V _) (amF_cons (mono_V _) (amF_cons (mono_V _) (amF_cons (mono_V _) (amF_cons (mono_V _) (amF_cons (mono_V _) (amF_cons (mono_exD (mono_data _ _) fun _=>mono_V _) (amF_cons (mono_V _) (amF_cons (mono_V _) (amF_cons (mono_tup2 (mono_exD (mono_data _ _) fun _=>mono_V _) (mono_V _)) (amF_cons (mono_tup2 (mono_exD (mono_data _ _) fun _=>mono_V _) (mono_V _)) (amF_cons (mono_exD (mono_data _ _) fun _=>mono_V _) (amF_cons (mono_V _) (amF_cons (mono_any) amF_nil))))))))))))))) hst ?_ (fun f w_ H164 hS164 hE164 hT164 hst=>?_)
 refine opsS_cons (fun f w_ _ _ s _ _ hst=>mF ((s 0 rfl).trans sf0) rfl (nO rfl rfl hst)) (opsS_cons (fun f w_ _ _ _ _ p hst=>L_nc rfl (p 0 92 rfl rfl) (nO rfl rfl hst)) (opsS_cons (fun f w_ _ _ _ _ p hst=>fA 0 fa_80_0 (p 1 93 rfl rfl) rfl (nO rfl rfl hst)) (opsS_cons (fun f w_ _ _ _ _ p hst=>ldB 2 hst Tryz.isAgg29 (p 2 94 rfl rfl) rfl rfl (nO rfl rfl hst)) (opsS_cons (fun f w_ _ _ s _ _ hst=>fA 1 fa_56_1 ((s 3 rfl).trans sf3) rfl (nO rfl rfl hst)) (opsS_cons (fun f w_ _ _ _ _ p hst=>ldB 3 hst Tryz.isAgg3 (p 4 96 rfl rfl) rfl rfl (nO rfl rfl hst)) (opsS_cons (fun f w_ _ _ _ _ p hst=>L_ixO (R:=(OR.frz (rCon 83))) (tb:=0) 0 rfl Tryz.underlying29 Tryz.sizeOf54 (p 3 95 rfl rfl) hv166 (by first | rfl | simp) (p 5 97 rfl rfl) hx156 (nO rfl rfl hst)) (opsS_cons ?_ ?_)))))))
 intro f w_ H164 X164 hS164 hE164 hP164 hst
 obtain ⟨cs171,hr171,hat171⟩:=Star.eltF 0 hst rfl hv166 hx156
 obtain ⟨u172_0,rfl,hu172_0⟩:=rCon_iff.1 hr171
 refine L_lda (cs:=[u172_0,I x156.bound]) rfl Tryz.isAgg54 Tryz.sizeOf54 (hP164 6 98 rfl rfl) (At.sub hat171 0 2) rfl (L_nil ⟨rfl,_,_,rfl,Le.refl _,fun _ _=>⟨_,hu172_0,rfl⟩,hst⟩)
 refine opsS_cons (fun f w_ _ _ s _ _ hst=>fA 2 fa_56_2 ((s 3 rfl).trans sf3) rfl (nO rfl rfl hst)) (opsS_cons (fun f w_ _ _ _ _ p hst=>ldB 3 hst Tryz.isAgg3 (p 8 100 rfl rfl) rfl rfl (nO rfl rfl hst)) (opsS_cons ?_ ?_))
 intro f w_ H164 X164 hS164 hE164 hP164 hst
 obtain ⟨u173_0,hu173_0,hv173⟩:=(hP164 7 99 rfl rfl)
 refine L_call rfl Tryz.call77 (ops2 hv173 (hP164 9 101 rfl rfl)) (i_DivideConstraint_c (c:=x156) (k:=s.b) hst hu173_0 hx161) ?_
 rintro _ w174 ⟨H174,l174,r174_0,rfl,hr174_0,hst⟩
 exact L_nil ⟨rfl,_,_,rfl,l174,fun _ _=>⟨_,_,rfl,⟨_,hr174_0,rfl⟩,rfl⟩,hst⟩
 refine opsS_cons ?_ ?_
 intro f w_ H164 X164 hS164 hE164 hP164 hst
 obtain ⟨a175_0,a175_1,hv175,ht175_0,ht175_1⟩:=(hP164 10 102 rfl rfl)
 obtain ⟨u176_0,hu176_0,rfl⟩:=ht175_0
 obtain rfl:=ht175_1
 refine mF hv175 rfl (L_nil ⟨rfl,_,_,rfl,Le.refl _,fun _ _=>⟨_,_,rfl,⟨_,hu176_0,rfl⟩,rfl⟩,hst⟩)
 refine opsS_cons ?_ ?_
 intro f w_ H164 X164 hS164 hE164 hP164 hst
 obtain ⟨a177_0,a177_1,hv177,ht177_0,ht177_1⟩:=(hP164 11 91 rfl rfl)
 obtain ⟨u178_0,hu178_0,rfl⟩:=ht177_0
 obtain rfl:=ht177_1
 refine L_ex (v:=.agg #[u178_0,I x161.1.bound]) rfl hv177 rfl (L_nil ⟨rfl,_,_,rfl,Le.refl _,fun _ _=>⟨_,hu178_0,rfl⟩,hst⟩)
 refine opsS_cons ?_ ?_
 intro f w_ H164 X164 hS164 hE164 hP164 hst
 obtain ⟨a179_0,a179_1,hv179,ht179_0,ht179_1⟩:=(hP164 11 91 rfl rfl)
 obtain ⟨u180_0,hu180_0,rfl⟩:=ht179_0
 obtain rfl:=ht179_1
 refine L_ex (v:=Bo x161.2) rfl hv179 rfl (L_nil ⟨rfl,_,_,rfl,Le.refl _,fun _ _=>rfl,hst⟩)
 refine opsS_cons ?_ ?_
 intro f w_ H164 X164 hS164 hE164 hP164 hst
 have hst : Star H164 w_ (oF 54 (rCon 83) v0_0 r_.list :: oF 4 RP.bool v0_1 r_.gone :: box g_0 80 #[v0_0,v0_1] :: box g3 56 #[I s.kind,I s.a,I s.b,v1_3,I s.given.bound] :: box g57 54 #[S0,I 0] :: X164):=hst
 obtain ⟨u181_0,hu181_0,hv181⟩:=(hP164 12 103 rfl rfl)
 refine L_staB (vs:=#[u181_0,I x161.1.bound]) (cs2:=#[u181_0,I x161.1.bound]) 4 rfl Tryz.sizeOf54 ((hS164 7 rfl).trans rfl) hv181 rfl (ones_cons (one_len (slice_len hu181_0)) (ones_cons rfl ones_nil)) hst rfl (by show 0 + 2≤2; decide) rfl (fun w182 hst=>?_)
 have hst:=hst.gets [4,4,4,4] rfl
 have hst : Star H164 w182 (oF 54 (rCon 83) v0_0 r_.list :: oF 4 RP.bool v0_1 r_.gone :: box g_0 80 #[v0_0,v0_1] :: box g3 56 #[I s.kind,I s.a,I s.b,v1_3,I s.given.bound] :: box g57 54 #[(aggC (f 103) 0),I x161.1.bound] :: X164):=by rw [hv181]; exact hst
 exact L_nil ⟨rfl,Bo false,_,rfl,Le.refl _,(fun _ h=>nomatch h),hst⟩
 exact opsS_nil
 have hst : Star H164 w_ (oF 54 (rCon 83) v0_0 r_.list :: oF 4 RP.bool v0_1 r_.gone :: box g_0 80 #[v0_0,v0_1] :: box g3 56 #[I s.kind,I s.a,I s.b,v1_3,I s.given.bound] :: box g57 54 #[(aggC (f 103) 0),I x161.1.bound] :: R):=hst
 obtain ⟨u183_0,hu183_0,hv183⟩:=(hT164 12 103 rfl rfl)
 have hren : Star H164 w_ (oF 54 (rCon 83) v0_0 r_.list :: oF 4 RP.bool v0_1 r_.gone :: box g_0 80 #[v0_0,v0_1] :: box g3 56 #[I s.kind,I s.a,I s.b,v1_3,I s.given.bound] :: box g57 54 #[(aggC (f 103) 0),I x161.1.bound] :: R):=hst
 rw [hv183] at hren
 have hst : Star H164 w_ (oF 54 (rCon 83) v0_0 r_.list :: oF 4 RP.bool v0_1 r_.gone :: box g_0 80 #[v0_0,v0_1] :: box g3 56 #[I s.kind,I s.a,I s.b,v1_3,I s.given.bound] :: box g57 54 #[u183_0,I x161.1.bound] :: R):=hren
 refine aF (hT164 13 104 rfl rfl) rfl (nn ?_)
 obtain ⟨rfl,rfl,rfl⟩:=so3 hA154
 have hst:=hst.gets [4,3,3,3] rfl
 have hst:=Star.drop 4 hst rfl
 exact rj hR154 ⟨H164,u183_0,hE164,((hS164 0 rfl).trans sf0),((hS164 7 rfl).trans rfl),rfl,hu183_0,hst⟩
 have hA154:=(ite_f hc155).symm.trans hA154
 refine sq (L_eql rfl rfl rfl (aB rfl (nn ?_)))
 obtain ⟨⟨ok_184,g57_0_185,g57_1_187⟩,hA190,hA154⟩:=bind_some hA154
 obtain ⟨R190,hR190⟩:=exR fun f w_=>∃ H188 : FH,∃ v185_g57_0 : Value,Le H33 H188∧f 0 = Pt g_0∧f 7 = Pt g57∧f 8 = Bo ok_184∧(rS 83 rTerm).rel H188 [v185_g57_0] g57_0_185∧Star H188 w_ (oF 54 (rCon 83) v0_0 r_.list :: oF 4 RP.bool v0_1 r_.gone :: box g_0 80 #[v0_0,v0_1] :: box g57 54 #[v185_g57_0,I g57_1_187] :: R)
 refine W_join R190 ?_ ?_
 refine W_cond (b:=(s.kind == 4)) rfl (fun hc191=>?_) (fun hc191=>?_)
 have hA190:=(ite_t hc191).symm.trans hA190
 obtain ⟨x192,hx192,hA190⟩:=bind_some hA190
 obtain ⟨x202,hx202,hA190⟩:=bind_some hA190
 obtain ⟨g207,cap_g207,hv208,_,_⟩:=Star.row 1 hst rfl hx192
 have hst:=hst.gets [4,4,4,4] rfl
 refine W_drawS 13 [isV (Pt g_0),isV (Pt g_0),isV (Pt g_0),isV (v0_0),isV (Pq g3 1),isV (I s.a),isV (.pointer (some ⟨g207,Int.toNat s.a * 2,none⟩)),exD (isData (rS 83 rTerm) x192.terms) fun u_0=>isV (.agg #[u_0,I x192.bound]),tup2 (exA fun u_0=>isV (.agg #[u_0,I x202.1.bound])) (isV (Bo x202.2)),tup2 (exA fun u_0=>isV (.agg #[u_0,I x202.1.bound])) (isV (Bo x202.2)),exA fun u_0=>isV (.agg #[u_0,I x202.1.bound]),isV (Bo x202.2),anyF] [oF 54 (rCon 83) v0_0 r_.list,oF 4 RP.bool v0_1 r_.gone,box g_0 80 #[v0_0,v0_1],box g3 56 #[I s.kind,I s.a,I s.b,v1_3,I s.given.bound]] [.base (box g57 54 #[S0,I 0]) (some 12),.made 8 116 (fun v_=>own (OR.ownS 83 (OR.frz rTerm)) [(aggC (tupC v_ 0) 0)] x202.1.terms) (some 9),.made 9 107 (fun v_=>own (OR.ownS 83 (OR.frz rTerm)) [(aggC (tupC v_ 0) 0)] x202.1.terms) (some 10),.made 10 117 (fun v_=>oF 83 rTerm (aggC v_ 0) x202.1.terms) none,.madeN 12 [117] (fun vs_=>box g57 54 #[(aggC (vs_.getD 0 undef) 0),I x202.1.bound]) none] (R) [([],[]),([],[]),([],[]),([],[]),([],[]),([],[]),([],[]),([],[]),([],[1]),([1],[2]),([2],[3]),([],[]),([0,3],[3,4])] (S:=[(none,[],some 12),(some 8,[116],some 9),(some 9,[107],some 10),(some 10,[117],none),(some 12,[117],none)]) Tryz_mix (by kernel_rfl) rfl (by kernel_rfl) (amF_cons (mono_V _) (amF_cons (mono_V _) (amF_cons (mono_V _) (amF_cons (mono_V _) (amF_cons (mono_V _) (amF_cons (mono_V _) (amF_cons (mono_V _) (amF_cons (mono_exD (mono_data _ _) fun _=>mono_V _) (amF_cons (mono_tup2 (mono_exA fun _=>mono_V _) (mono_V _)) (amF_cons (mono_tup2 (mono_exA fun _=>mono_V _) (mono_V _)) (amF_cons (mono_exA fun _=>mono_V _) (amF_cons (mono_V _) (amF_cons (mono_any) amF_nil))))))))))))) hst ?_ (fun f w_ H206 hS206 hE206 hT206 hst=>?_)
 refine opsS_cons (fun f w_ _ _ s _ _ hst=>mF ((s 0 rfl).trans sf0) rfl (nO rfl rfl hst)) (opsS_cons (fun f w_ _ _ _ _ p hst=>L_nc rfl (p 0 108 rfl rfl) (nO rfl rfl hst)) (opsS_cons (fun f w_ _ _ _ _ p hst=>fA 0 fa_80_0 (p 1 109 rfl rfl) rfl (nO rfl rfl hst)) (opsS_cons (fun f w_ _ _ _ _ p hst=>ldB 2 hst Tryz.isAgg29 (p 2 110 rfl rfl) rfl rfl (nO rfl rfl hst)) (opsS_cons (fun f w_ _ _ s _ _ hst=>fA 1 fa_56_1 ((s 3 rfl).trans sf3) rfl (nO rfl rfl hst)) (opsS_cons (fun f w_ _ _ _ _ p hst=>ldB 3 hst Tryz.isAgg3 (p 4 112 rfl rfl) rfl rfl (nO rfl rfl hst)) (opsS_cons (fun f w_ _ _ _ _ p hst=>L_ixO (R:=(OR.frz (rCon 83))) (tb:=0) 0 rfl Tryz.underlying29 Tryz.sizeOf54 (p 3 111 rfl rfl) hv208 (by first | rfl | simp) (p 5 113 rfl rfl) hx192 (nO rfl rfl hst)) (opsS_cons ?_ ?_)))))))
 intro f w_ H206 X206 hS206 hE206 hP206 hst
 obtain ⟨cs219,hr219,hat219⟩:=Star.eltF 0 hst rfl hv208 hx192
 obtain ⟨u220_0,rfl,hu220_0⟩:=rCon_iff.1 hr219
 refine L_lda (cs:=[u220_0,I x192.bound]) rfl Tryz.isAgg54 Tryz.sizeOf54 (hP206 6 114 rfl rfl) (At.sub hat219 0 2) rfl (L_nil ⟨rfl,_,_,rfl,Le.refl _,fun _ _=>⟨_,hu220_0,rfl⟩,hst⟩)
 refine opsS_cons ?_ ?_
 intro f w_ H206 X206 hS206 hE206 hP206 hst
 obtain ⟨u221_0,hu221_0,hv221⟩:=(hP206 7 115 rfl rfl)
 obtain ⟨H222b,l223,s224,z225,k226⟩:=hst.borrow
 refine L_call rfl Tryz.call78 (ops1 hv221) (i_SaturateConstraint_c (c:=x192) s224 (RP.mono _ hu221_0 l223) hx202) ?_
 rintro _ w227 ⟨r227_0,rfl,hst⟩
 have hst:=k226 hst (co closed_term c0)
 have hst:=hst.gets [4,4,4,4] rfl
 exact L_nil ⟨rfl,_,_,rfl,Le.refl _,fun _ _=>⟨_,_,rfl,⟨_,rfl⟩,rfl⟩,hst⟩
 refine opsS_cons ?_ ?_
 intro f w_ H206 X206 hS206 hE206 hP206 hst
 have hst : Star H206 w_ (oF 54 (rCon 83) v0_0 r_.list :: oF 4 RP.bool v0_1 r_.gone :: box g_0 80 #[v0_0,v0_1] :: box g3 56 #[I s.kind,I s.a,I s.b,v1_3,I s.given.bound] :: own (OR.ownS 83 (OR.frz rTerm)) [(aggC (tupC (f 116) 0) 0)] x202.1.terms :: X206):=hst
 obtain ⟨a229_0,a229_1,hv229,ht229_0,ht229_1⟩:=(hP206 8 116 rfl rfl)
 obtain ⟨u230_0,rfl⟩:=ht229_0
 obtain rfl:=ht229_1
 have hren : Star H206 w_ (oF 54 (rCon 83) v0_0 r_.list :: oF 4 RP.bool v0_1 r_.gone :: box g_0 80 #[v0_0,v0_1] :: box g3 56 #[I s.kind,I s.a,I s.b,v1_3,I s.given.bound] :: own (OR.ownS 83 (OR.frz rTerm)) [(aggC (tupC (f 116) 0) 0)] x202.1.terms :: X206):=hst
 rw [hv229] at hren
 have hst : Star H206 w_ (oF 54 (rCon 83) v0_0 r_.list :: oF 4 RP.bool v0_1 r_.gone :: box g_0 80 #[v0_0,v0_1] :: box g3 56 #[I s.kind,I s.a,I s.b,v1_3,I s.given.bound] :: oF 83 rTerm u230_0 x202.1.terms :: X206):=hren
 refine mF hv229 rfl (L_nil ⟨rfl,_,_,rfl,Le.refl _,fun _ _=>⟨_,_,rfl,⟨_,rfl⟩,rfl⟩,hst⟩)
 refine opsS_cons ?_ ?_
 intro f w_ H206 X206 hS206 hE206 hP206 hst
 have hst : Star H206 w_ (oF 54 (rCon 83) v0_0 r_.list :: oF 4 RP.bool v0_1 r_.gone :: box g_0 80 #[v0_0,v0_1] :: box g3 56 #[I s.kind,I s.a,I s.b,v1_3,I s.given.bound] :: own (OR.ownS 83 (OR.frz rTerm)) [(aggC (tupC (f 107) 0) 0)] x202.1.terms :: X206):=hst
 obtain ⟨a231_0,a231_1,hv231,ht231_0,ht231_1⟩:=(hP206 9 107 rfl rfl)
 obtain ⟨u232_0,rfl⟩:=ht231_0
 obtain rfl:=ht231_1
 have hren : Star H206 w_ (oF 54 (rCon 83) v0_0 r_.list :: oF 4 RP.bool v0_1 r_.gone :: box g_0 80 #[v0_0,v0_1] :: box g3 56 #[I s.kind,I s.a,I s.b,v1_3,I s.given.bound] :: own (OR.ownS 83 (OR.frz rTerm)) [(aggC (tupC (f 107) 0) 0)] x202.1.terms :: X206):=hst
 rw [hv231] at hren
 have hst : Star H206 w_ (oF 54 (rCon 83) v0_0 r_.list :: oF 4 RP.bool v0_1 r_.gone :: box g_0 80 #[v0_0,v0_1] :: box g3 56 #[I s.kind,I s.a,I s.b,v1_3,I s.given.bound] :: oF 83 rTerm u232_0 x202.1.terms :: X206):=hren
 refine L_ex (v:=.agg #[u232_0,I x202.1.bound]) rfl hv231 rfl (L_nil ⟨rfl,_,_,rfl,Le.refl _,fun _ _=>⟨_,rfl⟩,hst⟩)
 refine opsS_cons ?_ ?_
 intro f w_ H206 X206 hS206 hE206 hP206 hst
 obtain ⟨a233_0,a233_1,hv233,ht233_0,ht233_1⟩:=(hP206 9 107 rfl rfl)
 obtain ⟨u234_0,rfl⟩:=ht233_0
 obtain rfl:=ht233_1
 refine L_ex (v:=Bo x202.2) rfl hv233 rfl (L_nil ⟨rfl,_,_,rfl,Le.refl _,fun _ _=>rfl,hst⟩)
 refine opsS_cons ?_ ?_
 intro f w_ H206 X206 hS206 hE206 hP206 hst
 have hst : Star H206 w_ (oF 54 (rCon 83) v0_0 r_.list :: oF 4 RP.bool v0_1 r_.gone :: box g_0 80 #[v0_0,v0_1] :: box g3 56 #[I s.kind,I s.a,I s.b,v1_3,I s.given.bound] :: box g57 54 #[S0,I 0] :: own (OR.ownS 83 (OR.frz rTerm)) [(aggC (f 117) 0)] x202.1.terms :: X206):=hst
 obtain ⟨u235_0,hv235⟩:=(hP206 10 117 rfl rfl)
 have hren : Star H206 w_ (oF 54 (rCon 83) v0_0 r_.list :: oF 4 RP.bool v0_1 r_.gone :: box g_0 80 #[v0_0,v0_1] :: box g3 56 #[I s.kind,I s.a,I s.b,v1_3,I s.given.bound] :: box g57 54 #[S0,I 0] :: own (OR.ownS 83 (OR.frz rTerm)) [(aggC (f 117) 0)] x202.1.terms :: X206):=hst
 rw [hv235] at hren
 have hst : Star H206 w_ (oF 54 (rCon 83) v0_0 r_.list :: oF 4 RP.bool v0_1 r_.gone :: box g_0 80 #[v0_0,v0_1] :: box g3 56 #[I s.kind,I s.a,I s.b,v1_3,I s.given.bound] :: box g57 54 #[S0,I 0] :: oF 83 rTerm u235_0 x202.1.terms :: X206):=hren
 refine L_staB (vs:=#[u235_0,I x202.1.bound]) (cs2:=#[u235_0,I x202.1.bound]) 4 rfl Tryz.sizeOf54 ((hS206 7 rfl).trans rfl) hv235 rfl (ones_cons (one_len (Star.len 5 hst rfl)) (ones_cons rfl ones_nil)) hst rfl (by show 0 + 2≤2; decide) rfl (fun w236 hst=>?_)
 have hst:=hst.gets [5,5,5,5,5] rfl
 have hst : Star H206 w236 (oF 54 (rCon 83) v0_0 r_.list :: oF 4 RP.bool v0_1 r_.gone :: box g_0 80 #[v0_0,v0_1] :: box g3 56 #[I s.kind,I s.a,I s.b,v1_3,I s.given.bound] :: own (OR.ownS 83 (OR.frz rTerm)) [(aggC (f 117) 0)] x202.1.terms :: box g57 54 #[(aggC (f 117) 0),I x202.1.bound] :: X206):=by rw [hv235]; exact hst
 exact L_nil ⟨rfl,Bo false,_,rfl,Le.refl _,(fun _ h=>nomatch h),hst⟩
 exact opsS_nil
 have hst : Star H206 w_ (oF 54 (rCon 83) v0_0 r_.list :: oF 4 RP.bool v0_1 r_.gone :: box g_0 80 #[v0_0,v0_1] :: box g3 56 #[I s.kind,I s.a,I s.b,v1_3,I s.given.bound] :: own (OR.ownS 83 (OR.frz rTerm)) [(aggC (f 117) 0)] x202.1.terms :: box g57 54 #[(aggC (f 117) 0),I x202.1.bound] :: R):=hst
 refine aF (hT206 11 118 rfl rfl) rfl (nn ?_)
 obtain ⟨rfl,rfl,rfl⟩:=so3 hA190
 have hst:=hst.get 4 rfl
 obtain ⟨H237,l238,hst,hz239⟩:=Star.freeze hst
 have hz239 : (rS 83 rTerm).rel H237 [(aggC (f 117) 0)] x202.1.terms:=hz239
 have hst:=hst.gets [4,3,3,3] rfl
 have hst:=Star.drop 4 hst rfl
 exact rj hR190 ⟨H237,(aggC (f 117) 0),(Le.trans hE206 l238),((hS206 0 rfl).trans sf0),((hS206 7 rfl).trans rfl),rfl,hz239,hst⟩
 have hA190:=(ite_f hc191).symm.trans hA190
 refine sq (L_eql rfl rfl rfl (aB rfl (nn ?_)))
 obtain ⟨⟨ok_240,g57_0_241,g57_1_243⟩,hA246,hA190⟩:=bind_some hA190
 obtain ⟨R246,hR246⟩:=exR fun f w_=>∃ H244 : FH,∃ v241_g57_0 : Value,Le H33 H244∧f 0 = Pt g_0∧f 7 = Pt g57∧f 8 = Bo ok_240∧(rS 83 rTerm).rel H244 [v241_g57_0] g57_0_241∧Star H244 w_ (oF 54 (rCon 83) v0_0 r_.list :: oF 4 RP.bool v0_1 r_.gone :: box g_0 80 #[v0_0,v0_1] :: box g57 54 #[v241_g57_0,I g57_1_243] :: R)
 refine W_join R246 ?_ ?_
 refine W_cond (b:=(s.kind == 5)) rfl (fun hc247=>?_) (fun hc247=>?_)
 have hA246:=(ite_t hc247).symm.trans hA246
 obtain ⟨x248,hx248,hA246⟩:=bind_some hA246
 obtain ⟨x258,hx258,hA246⟩:=bind_some hA246
 obtain ⟨g263,cap_g263,hv264,_,_⟩:=Star.row 1 hst rfl hx248
 have hst:=hst.gets [4,4,4,4] rfl
 refine W_drawS 15 [isV (Pt g_0),isV (Pt g_0),isV (Pt g_0),isV (v0_0),isV (Pq g3 1),isV (I s.a),isV (.pointer (some ⟨g263,Int.toNat s.a * 2,none⟩)),exD (isData (rS 83 rTerm) x248.terms) fun u_0=>isV (.agg #[u_0,I x248.bound]),isV (Pq g3 2),isV (I s.b),tup2 (exA fun u_0=>isV (.agg #[u_0,I x258.1.bound])) (isV (Bo x258.2)),tup2 (exA fun u_0=>isV (.agg #[u_0,I x258.1.bound])) (isV (Bo x258.2)),exA fun u_0=>isV (.agg #[u_0,I x258.1.bound]),isV (Bo x258.2),anyF] [oF 54 (rCon 83) v0_0 r_.list,oF 4 RP.bool v0_1 r_.gone,box g_0 80 #[v0_0,v0_1],box g3 56 #[I s.kind,I s.a,I s.b,v1_3,I s.given.bound]] [.base (box g57 54 #[S0,I 0]) (some 14),.made 10 132 (fun v_=>own (OR.ownS 83 (OR.frz rTerm)) [(aggC (tupC v_ 0) 0)] x258.1.terms) (some 11),.made 11 121 (fun v_=>own (OR.ownS 83 (OR.frz rTerm)) [(aggC (tupC v_ 0) 0)] x258.1.terms) (some 12),.made 12 133 (fun v_=>oF 83 rTerm (aggC v_ 0) x258.1.terms) none,.madeN 14 [133] (fun vs_=>box g57 54 #[(aggC (vs_.getD 0 undef) 0),I x258.1.bound]) none] (R) [([],[]),([],[]),([],[]),([],[]),([],[]),([],[]),([],[]),([],[]),([],[]),([],[]),([],[1]),([1],[2]),([2],[3]),([],[]),([0,3],[3,4])] (S:=[(none,[],some 14),(some 10,[132],some 11),(some 11,[121],some 12),(some 12,[133],none),(some 14,[133],none)]) Tryz_mix (by kernel_rfl) rfl (by kernel_rfl) (amF_cons (mono_V _) (amF_cons (mono_V _) (amF_cons (mono_V _) (amF_cons (mono_V _) (amF_cons (mono_V _) (amF_cons (mono_V _) (amF_cons (mono_V _) (amF_cons (mono_exD (mono_data _ _) fun _=>mono_V _) (amF_cons (mono_V _) (amF_cons (mono_V _) (amF_cons (mono_tup2 (mono_exA fun _=>mono_V _) (mono_V _)) (amF_cons (mono_tup2 (mono_exA fun _=>mono_V _) (mono_V _)) (amF_cons (mono_exA fun _=>mono_V _) (amF_cons (mono_V _) (amF_cons (mono_any) amF_nil))))))))))))))) hst ?_ (fun f w_ H262 hS262 hE262 hT262 hst=>?_)
 refine opsS_cons (fun f w_ _ _ s _ _ hst=>mF ((s 0 rfl).trans sf0) rfl (nO rfl rfl hst)) (opsS_cons (fun f w_ _ _ _ _ p hst=>L_nc rfl (p 0 122 rfl rfl) (nO rfl rfl hst)) (opsS_cons (fun f w_ _ _ _ _ p hst=>fA 0 fa_80_0 (p 1 123 rfl rfl) rfl (nO rfl rfl hst)) (opsS_cons (fun f w_ _ _ _ _ p hst=>ldB 2 hst Tryz.isAgg29 (p 2 124 rfl rfl) rfl rfl (nO rfl rfl hst)) (opsS_cons (fun f w_ _ _ s _ _ hst=>fA 1 fa_56_1 ((s 3 rfl).trans sf3) rfl (nO rfl rfl hst)) (opsS_cons (fun f w_ _ _ _ _ p hst=>ldB 3 hst Tryz.isAgg3 (p 4 126 rfl rfl) rfl rfl (nO rfl rfl hst)) (opsS_cons (fun f w_ _ _ _ _ p hst=>L_ixO (R:=(OR.frz (rCon 83))) (tb:=0) 0 rfl Tryz.underlying29 Tryz.sizeOf54 (p 3 125 rfl rfl) hv264 (by first | rfl | simp) (p 5 127 rfl rfl) hx248 (nO rfl rfl hst)) (opsS_cons ?_ ?_)))))))
 intro f w_ H262 X262 hS262 hE262 hP262 hst
 obtain ⟨cs275,hr275,hat275⟩:=Star.eltF 0 hst rfl hv264 hx248
 obtain ⟨u276_0,rfl,hu276_0⟩:=rCon_iff.1 hr275
 refine L_lda (cs:=[u276_0,I x248.bound]) rfl Tryz.isAgg54 Tryz.sizeOf54 (hP262 6 128 rfl rfl) (At.sub hat275 0 2) rfl (L_nil ⟨rfl,_,_,rfl,Le.refl _,fun _ _=>⟨_,hu276_0,rfl⟩,hst⟩)
 refine opsS_cons (fun f w_ _ _ s _ _ hst=>fA 2 fa_56_2 ((s 3 rfl).trans sf3) rfl (nO rfl rfl hst)) (opsS_cons (fun f w_ _ _ _ _ p hst=>ldB 3 hst Tryz.isAgg3 (p 8 130 rfl rfl) rfl rfl (nO rfl rfl hst)) (opsS_cons ?_ ?_))
 intro f w_ H262 X262 hS262 hE262 hP262 hst
 obtain ⟨u277_0,hu277_0,hv277⟩:=(hP262 7 129 rfl rfl)
 obtain ⟨H278b,l279,s280,z281,k282⟩:=hst.borrow
 refine L_call rfl Tryz.call79 (ops2 hv277 (hP262 9 131 rfl rfl)) (i_WeakenConstraint_c (c:=x248) (variable_:=s.b) s280 (RP.mono _ hu277_0 l279) hx258) ?_
 rintro _ w283 ⟨r283_0,rfl,hst⟩
 have hst:=k282 hst (co closed_term c0)
 have hst:=hst.gets [4,4,4,4] rfl
 exact L_nil ⟨rfl,_,_,rfl,Le.refl _,fun _ _=>⟨_,_,rfl,⟨_,rfl⟩,rfl⟩,hst⟩
 refine opsS_cons ?_ ?_
 intro f w_ H262 X262 hS262 hE262 hP262 hst
 have hst : Star H262 w_ (oF 54 (rCon 83) v0_0 r_.list :: oF 4 RP.bool v0_1 r_.gone :: box g_0 80 #[v0_0,v0_1] :: box g3 56 #[I s.kind,I s.a,I s.b,v1_3,I s.given.bound] :: own (OR.ownS 83 (OR.frz rTerm)) [(aggC (tupC (f 132) 0) 0)] x258.1.terms :: X262):=hst
 obtain ⟨a285_0,a285_1,hv285,ht285_0,ht285_1⟩:=(hP262 10 132 rfl rfl)
 obtain ⟨u286_0,rfl⟩:=ht285_0
 obtain rfl:=ht285_1
 have hren : Star H262 w_ (oF 54 (rCon 83) v0_0 r_.list :: oF 4 RP.bool v0_1 r_.gone :: box g_0 80 #[v0_0,v0_1] :: box g3 56 #[I s.kind,I s.a,I s.b,v1_3,I s.given.bound] :: own (OR.ownS 83 (OR.frz rTerm)) [(aggC (tupC (f 132) 0) 0)] x258.1.terms :: X262):=hst
 rw [hv285] at hren
 have hst : Star H262 w_ (oF 54 (rCon 83) v0_0 r_.list :: oF 4 RP.bool v0_1 r_.gone :: box g_0 80 #[v0_0,v0_1] :: box g3 56 #[I s.kind,I s.a,I s.b,v1_3,I s.given.bound] :: oF 83 rTerm u286_0 x258.1.terms :: X262):=hren
 refine mF hv285 rfl (L_nil ⟨rfl,_,_,rfl,Le.refl _,fun _ _=>⟨_,_,rfl,⟨_,rfl⟩,rfl⟩,hst⟩)
 refine opsS_cons ?_ ?_
 intro f w_ H262 X262 hS262 hE262 hP262 hst
 have hst : Star H262 w_ (oF 54 (rCon 83) v0_0 r_.list :: oF 4 RP.bool v0_1 r_.gone :: box g_0 80 #[v0_0,v0_1] :: box g3 56 #[I s.kind,I s.a,I s.b,v1_3,I s.given.bound] :: own (OR.ownS 83 (OR.frz rTerm)) [(aggC (tupC (f 121) 0) 0)] x258.1.terms :: X262):=hst
 obtain ⟨a287_0,a287_1,hv287,ht287_0,ht287_1⟩:=(hP262 11 121 rfl rfl)
 obtain ⟨u288_0,rfl⟩:=ht287_0
 obtain rfl:=ht287_1
 have hren : Star H262 w_ (oF 54 (rCon 83) v0_0 r_.list :: oF 4 RP.bool v0_1 r_.gone :: box g_0 80 #[v0_0,v0_1] :: box g3 56 #[I s.kind,I s.a,I s.b,v1_3,I s.given.bound] :: own (OR.ownS 83 (OR.frz rTerm)) [(aggC (tupC (f 121) 0) 0)] x258.1.terms :: X262):=hst
 rw [hv287] at hren
 have hst : Star H262 w_ (oF 54 (rCon 83) v0_0 r_.list :: oF 4 RP.bool v0_1 r_.gone :: box g_0 80 #[v0_0,v0_1] :: box g3 56 #[I s.kind,I s.a,I s.b,v1_3,I s.given.bound] :: oF 83 rTerm u288_0 x258.1.terms :: X262):=hren
 refine L_ex (v:=.agg #[u288_0,I x258.1.bound]) rfl hv287 rfl (L_nil ⟨rfl,_,_,rfl,Le.refl _,fun _ _=>⟨_,rfl⟩,hst⟩)
 refine opsS_cons ?_ ?_
 intro f w_ H262 X262 hS262 hE262 hP262 hst
 obtain ⟨a289_0,a289_1,hv289,ht289_0,ht289_1⟩:=(hP262 11 121 rfl rfl)
 obtain ⟨u290_0,rfl⟩:=ht289_0
 obtain rfl:=ht289_1
 refine L_ex (v:=Bo x258.2) rfl hv289 rfl (L_nil ⟨rfl,_,_,rfl,Le.refl _,fun _ _=>rfl,hst⟩)
 refine opsS_cons ?_ ?_
 intro f w_ H262 X262 hS262 hE262 hP262 hst
 have hst : Star H262 w_ (oF 54 (rCon 83) v0_0 r_.list :: oF 4 RP.bool v0_1 r_.gone :: box g_0 80 #[v0_0,v0_1] :: box g3 56 #[I s.kind,I s.a,I s.b,v1_3,I s.given.bound] :: box g57 54 #[S0,I 0] :: own (OR.ownS 83 (OR.frz rTerm)) [(aggC (f 133) 0)] x258.1.terms :: X262):=hst
 obtain ⟨u291_0,hv291⟩:=(hP262 12 133 rfl rfl)
 have hren : Star H262 w_ (oF 54 (rCon 83) v0_0 r_.list :: oF 4 RP.bool v0_1 r_.gone :: box g_0 80 #[v0_0,v0_1] :: box g3 56 #[I s.kind,I s.a,I s.b,v1_3,I s.given.bound] :: box g57 54 #[S0,I 0] :: own (OR.ownS 83 (OR.frz rTerm)) [(aggC (f 133) 0)] x258.1.terms :: X262):=hst
 rw [hv291] at hren
 have hst : Star H262 w_ (oF 54 (rCon 83) v0_0 r_.list :: oF 4 RP.bool v0_1 r_.gone :: box g_0 80 #[v0_0,v0_1] :: box g3 56 #[I s.kind,I s.a,I s.b,v1_3,I s.given.bound] :: box g57 54 #[S0,I 0] :: oF 83 rTerm u291_0 x258.1.terms :: X262):=hren
 refine L_staB (vs:=#[u291_0,I x258.1.bound]) (cs2:=#[u291_0,I x258.1.bound]) 4 rfl Tryz.sizeOf54 ((hS262 7 rfl).trans rfl) hv291 rfl (ones_cons (one_len (Star.len 5 hst rfl)) (ones_cons rfl ones_nil)) hst rfl (by show 0 + 2≤2; decide) rfl (fun w292 hst=>?_)
 have hst:=hst.gets [5,5,5,5,5] rfl
 have hst : Star H262 w292 (oF 54 (rCon 83) v0_0 r_.list :: oF 4 RP.bool v0_1 r_.gone :: box g_0 80 #[v0_0,v0_1] :: box g3 56 #[I s.kind,I s.a,I s.b,v1_3,I s.given.bound] :: own (OR.ownS 83 (OR.frz rTerm)) [(aggC (f 133) 0)] x258.1.terms :: box g57 54 #[(aggC (f 133) 0),I x258.1.bound] :: X262):=by rw [hv291]; exact hst
 exact L_nil ⟨rfl,Bo false,_,rfl,Le.refl _,(fun _ h=>nomatch h),hst⟩
 exact opsS_nil
 have hst : Star H262 w_ (oF 54 (rCon 83) v0_0 r_.list :: oF 4 RP.bool v0_1 r_.gone :: box g_0 80 #[v0_0,v0_1] :: box g3 56 #[I s.kind,I s.a,I s.b,v1_3,I s.given.bound] :: own (OR.ownS 83 (OR.frz rTerm)) [(aggC (f 133) 0)] x258.1.terms :: box g57 54 #[(aggC (f 133) 0),I x258.1.bound] :: R):=hst
 refine aF (hT262 13 134 rfl rfl) rfl (nn ?_)
 obtain ⟨rfl,rfl,rfl⟩:=so3 hA246
 have hst:=hst.get 4 rfl
 obtain ⟨H293,l294,hst,hz295⟩:=Star.freeze hst
 have hz295 : (rS 83 rTerm).rel H293 [(aggC (f 133) 0)] x258.1.terms:=hz295
 have hst:=hst.gets [4,3,3,3] rfl
 have hst:=Star.drop 4 hst rfl
 exact rj hR246 ⟨H293,(aggC (f 133) 0),(Le.trans hE262 l294),((hS262 0 rfl).trans sf0),((hS262 7 rfl).trans rfl),rfl,hz295,hst⟩
 have hA246:=(ite_f hc247).symm.trans hA246
 refine sq (L_eql rfl rfl rfl (aB rfl (nn ?_)))
 obtain ⟨⟨ok_296,g57_0_297,g57_1_299⟩,hA302,hA246⟩:=bind_some hA246
 obtain ⟨R302,hR302⟩:=exR fun f w_=>∃ H300 : FH,∃ v297_g57_0 : Value,Le H33 H300∧f 0 = Pt g_0∧f 7 = Pt g57∧f 8 = Bo ok_296∧(rS 83 rTerm).rel H300 [v297_g57_0] g57_0_297∧Star H300 w_ (oF 54 (rCon 83) v0_0 r_.list :: oF 4 RP.bool v0_1 r_.gone :: box g_0 80 #[v0_0,v0_1] :: box g57 54 #[v297_g57_0,I g57_1_299] :: R)
 refine W_join R302 ?_ ?_
 refine W_cond (b:=(s.kind == 6)) rfl (fun hc303=>?_) (fun hc303=>?_)
 have hA302:=(ite_t hc303).symm.trans hA302
 obtain ⟨x309,hx309,hA302⟩:=bind_some hA302
 refine W_region (fA 1 fa_56_1 sf3 rfl (ldB 4 hst Tryz.isAgg3 rfl rfl rfl ?_))
 obtain ⟨H313b,l314,s315,z316,k317⟩:=hst.borrow
 refine L_call rfl Tryz.call80 (ops1 rfl) (i_LiteralAxiom_c (lit:=s.a) s315 hx309) ?_
 rintro _ w318 ⟨r318_0,rfl,hst⟩
 have hst:=k317 hst (co closed_term c0)
 refine mV (.tuple #[.agg #[r318_0,I x309.1.bound],Bo x309.2]) rfl (L_ex (v:=.agg #[r318_0,I x309.1.bound]) rfl rfl rfl (L_ex (v:=Bo x309.2) rfl rfl rfl (L_staB (vs:=#[r318_0,I x309.1.bound]) (cs2:=#[r318_0,I x309.1.bound]) 1 rfl Tryz.sizeOf54 rfl rfl rfl (ones_cons (one_len (Star.len 0 hst rfl)) (ones_cons rfl ones_nil)) hst rfl (by show 0 + 2≤2; decide) rfl (fun w320 hst=>aB rfl (nn ?_)))))
 obtain ⟨rfl,rfl,rfl⟩:=so3 hA302
 have hst:=hst.get 1 rfl
 obtain ⟨H321,l322,hst,hz323⟩:=Star.freeze hst
 have hz323 : (rS 83 rTerm).rel H321 [r318_0] x309.1.terms:=hz323
 have hst:=hst.gets [3,3,3] rfl
 have hst:=Star.drop 4 hst rfl
 exact rj hR302 ⟨H321,r318_0,l322,sf0,rfl,rfl,hz323,hst⟩
 have hA302:=(ite_f hc303).symm.trans hA302
 refine sq (L_eql rfl rfl rfl (aB rfl (nn ?_)))
 obtain ⟨⟨ok_324,g57_0_325,g57_1_327⟩,hA330,hA302⟩:=bind_some hA302
 obtain ⟨R330,hR330⟩:=exR fun f w_=>∃ H328 : FH,∃ v325_g57_0 : Value,Le H33 H328∧f 0 = Pt g_0∧f 7 = Pt g57∧f 8 = Bo ok_324∧(rS 83 rTerm).rel H328 [v325_g57_0] g57_0_325∧Star H328 w_ (oF 54 (rCon 83) v0_0 r_.list :: oF 4 RP.bool v0_1 r_.gone :: box g_0 80 #[v0_0,v0_1] :: box g57 54 #[v325_g57_0,I g57_1_327] :: R)
 refine W_join R330 ?_ ?_
 refine W_cond (b:=(s.kind == 7)) rfl (fun hc331=>?_) (fun hc331=>?_)
 have hA330:=(ite_t hc331).symm.trans hA330
 obtain ⟨x337,hx337,hA330⟩:=bind_some hA330
 obtain ⟨b350,hb350,hA330⟩:=bind_some hA330
 obtain ⟨R357,hR357⟩:=exR fun f w_=>∃ H355 : FH,∃ v353_g57_0 : Value,Le H33 H355∧f 0 = Pt g_0∧f 7 = Pt g57∧f 8 = Bo b350∧(rS 83 rTerm).rel H355 [v353_g57_0] s.given.terms∧Star H355 w_ (oF 54 (rCon 83) v0_0 r_.list :: oF 4 RP.bool v0_1 r_.gone :: box g_0 80 #[v0_0,v0_1] :: box g57 54 #[v353_g57_0,I s.given.bound] :: R)
 refine W_join R357 ?_ ?_
 rcases Bool.eq_false_or_eq_true x337 with hc358 | hc358
 rw [ite_t hc358] at hb350
 obtain ⟨x339,hx339,hb350⟩:=bind_some hb350
 obtain ⟨x348,hx348,hb350⟩:=bind_some hb350
 have hst:=hst.gets [4,4,4,4] rfl
 refine W_drawS 13 [isV (Pq g3 3),isV (.agg #[v1_3,I s.given.bound]),isV (Pq g3 3),isV (.agg #[v1_3,I s.given.bound]),isV (Bo x337),isV (Bo x337),isV (Pt g_0),anyF,isV (Pq g3 3),isV (.agg #[v1_3,I s.given.bound]),isV (Bo x348),isV (Bo b350),anyF] [oF 54 (rCon 83) v0_0 r_.list,oF 4 RP.bool v0_1 r_.gone,box g_0 80 #[v0_0,v0_1],box g3 56 #[I s.kind,I s.a,I s.b,v1_3,I s.given.bound]] [.base (box g57 54 #[S0,I 0]) (some 12),.made 7 152 (fun v_=>oF 54 (rCon 83) v_ x339) none,.madeN 12 [] (fun vs_=>box g57 54 #[v1_3,I s.given.bound]) none] (R) [([],[]),([],[]),([],[]),([],[]),([],[]),([],[]),([],[]),([],[1]),([],[]),([],[]),([1],[1]),([],[]),([0],[2])] (S:=[(none,[],some 12),(some 7,[152],none),(some 12,[],none)]) Tryz_mix (by kernel_rfl) rfl (by kernel_rfl) (amF_cons (mono_V _) (amF_cons (mono_V _) (amF_cons (mono_V _) (amF_cons (mono_V _) (amF_cons (mono_V _) (amF_cons (mono_V _) (amF_cons (mono_V _) (amF_cons (mono_any) (amF_cons (mono_V _) (amF_cons (mono_V _) (amF_cons (mono_V _) (amF_cons (mono_V _) (amF_cons (mono_any) amF_nil))))))))))))) hst ?_ (fun f w_ H352 hS352 hE352 hT352 hst=>?_)
 refine opsS_cons (fun f w_ _ _ s _ _ hst=>fA 3 fa_56_3 ((s 3 rfl).trans sf3) rfl (nO rfl rfl hst)) (opsS_cons (fun f w_ _ _ _ _ p hst=>L_lda (cs:=[v1_3,I s.given.bound]) rfl Tryz.isAgg54 Tryz.sizeOf54 (p 0 145 rfl rfl) (At.sub0 (Blk.at (Star.blkAt 3 hst rfl)) 3 2) rfl (nO rfl rfl hst)) (opsS_cons (fun f w_ _ _ s _ _ hst=>fA 3 fa_56_3 ((s 3 rfl).trans sf3) rfl (nO rfl rfl hst)) (opsS_cons (fun f w_ _ _ _ _ p hst=>L_lda (cs:=[v1_3,I s.given.bound]) rfl Tryz.isAgg54 Tryz.sizeOf54 (p 2 147 rfl rfl) (At.sub0 (Blk.at (Star.blkAt 3 hst rfl)) 3 2) rfl (nO rfl rfl hst)) (opsS_cons ?_ ?_))))
 intro f w_ H352 X352 hS352 hE352 hP352 hst
 obtain ⟨H375b,l376,s377,z378,k379⟩:=hst.borrow
 refine L_call rfl Tryz.call67 (ops1 (hP352 3 148 rfl rfl)) (i_ConstraintValid_c (c:=s.given) s377 (RP.mono _ h1_3 (Le.trans (Le.trans l34 hE352) l376)) hx337) ?_
 rintro _ w380 ⟨rfl,hst⟩
 have hst:=k379 hst c0
 exact L_nil ⟨rfl,_,_,rfl,Le.refl _,fun _ _=>rfl,hst⟩
 refine opsS_cons (fun f w_ _ _ _ _ p hst=>mF (p 4 149 rfl rfl) rfl (nO rfl rfl hst)) (opsS_cons (fun f w_ _ _ s _ p hst=>L_mv (v:=Pt g_0) (g_yes rfl (Eq.trans (p 5 150 rfl rfl) (congrArg Value.bool hc358)) rfl) ((s 0 rfl).trans sf0) (nO rfl rfl hst)) (opsS_cons ?_ ?_))
 intro f w_ H352 X352 hS352 hE352 hP352 hst
 have hst:=hst.gets [1,1,2] rfl
 refine L_call (g_yes rfl (Eq.trans (hP352 5 150 rfl rfl) (congrArg Value.bool hc358)) rfl) Tryz.call82 (ops1 (hP352 6 151 rfl rfl)) (i_running_left_c (r_:=r_) hst hx339) ?_
 rintro r381_0 w381 ⟨H381,l381,_,rfl,hst⟩
 have hst:=hst.gets [4,2,4,4] rfl
 exact L_nil ⟨rfl,_,_,rfl,l381,fun _ _=>trivial,hst⟩
 refine opsS_cons (fun f w_ _ _ s _ p hst=>L_fa (o':=3) (g_yes rfl (Eq.trans (p 5 150 rfl rfl) (congrArg Value.bool hc358)) rfl) fa_56_3 ((s 3 rfl).trans sf3) rfl (nO rfl rfl hst)) (opsS_cons (fun f w_ _ _ _ _ p hst=>L_lda (cs:=[v1_3,I s.given.bound]) (g_yes rfl (Eq.trans (p 5 150 rfl rfl) (congrArg Value.bool hc358)) rfl) Tryz.isAgg54 Tryz.sizeOf54 (p 8 153 rfl rfl) (At.sub0 (Blk.at (Star.blkAt 3 hst rfl)) 3 2) rfl (nO rfl rfl hst)) (opsS_cons ?_ ?_))
 intro f w_ H352 X352 hS352 hE352 hP352 hst
 have hst : Star H352 w_ (oF 54 (rCon 83) v0_0 r_.list :: oF 4 RP.bool v0_1 r_.gone :: box g_0 80 #[v0_0,v0_1] :: box g3 56 #[I s.kind,I s.a,I s.b,v1_3,I s.given.bound] :: oF 54 (rCon 83) (f 152) x339 :: X352):=hst
 obtain ⟨H384b,l385,s386,z387,k388⟩:=hst.borrow
 have hb389 : (rS 54 (rCon 83)).rel H384b [(f 152)] x339:=fz_own 4 z387 rfl
 refine L_call (g_yes rfl (Eq.trans (hP352 5 150 rfl rfl) (congrArg Value.bool hc358)) rfl) Tryz.call81 (ops2 rfl (hP352 9 154 rfl rfl)) (i_rup_c (list:=x339) (c:=s.given) s386 hb389 (RP.mono _ h1_3 (Le.trans (Le.trans l34 hE352) l385)) hx348) ?_
 rintro _ w390 ⟨rfl,hst⟩
 have hst:=k388 hst c0
 exact L_nil ⟨rfl,_,_,rfl,Le.refl _,fun _ _=>rfl,hst⟩
 refine opsS_cons (fun f w_ _ _ _ _ p hst=>pkT (v:=Bo b350) (p 5 150 rfl rfl) hc358 rfl (Eq.trans (p 10 155 rfl rfl) (congrArg Value.bool (so hb350))) (nO rfl rfl hst)) (opsS_cons ?_ ?_)
 intro f w_ H352 X352 hS352 hE352 hP352 hst
 have hst : Star H352 w_ (oF 54 (rCon 83) v0_0 r_.list :: oF 4 RP.bool v0_1 r_.gone :: box g_0 80 #[v0_0,v0_1] :: box g3 56 #[I s.kind,I s.a,I s.b,v1_3,I s.given.bound] :: box g57 54 #[S0,I 0] :: X352):=hst
 refine L_staB (vs:=#[v1_3,I s.given.bound]) (cs2:=#[v1_3,I s.given.bound]) 4 rfl Tryz.sizeOf54 ((hS352 7 rfl).trans rfl) (hP352 1 146 rfl rfl) rfl (ones_cons (one_len (slice_len (RP.mono _ h1_3 (Le.trans l34 hE352)))) (ones_cons rfl ones_nil)) hst rfl (by show 0 + 2≤2; decide) rfl (fun w391 hst=>?_)
 have hst:=hst.gets [4,4,4,4] rfl
 exact L_nil ⟨rfl,Bo false,_,rfl,Le.refl _,(fun _ h=>nomatch h),hst⟩
 exact opsS_nil
 have hst : Star H352 w_ (oF 54 (rCon 83) v0_0 r_.list :: oF 4 RP.bool v0_1 r_.gone :: box g_0 80 #[v0_0,v0_1] :: box g3 56 #[I s.kind,I s.a,I s.b,v1_3,I s.given.bound] :: oF 54 (rCon 83) (f 152) x339 :: box g57 54 #[v1_3,I s.given.bound] :: R):=hst
 refine aF (hT352 11 156 rfl rfl) rfl (nn ?_)
 have hst:=hst.gets [5,3,3,3] rfl
 have hst:=Star.drop 4 hst rfl
 have hst:=Star.drop 4 hst rfl
 exact rj hR357 ⟨H352,v1_3,hE352,((hS352 0 rfl).trans sf0),((hS352 7 rfl).trans rfl),rfl,(RP.mono _ h1_3 (Le.trans l34 hE352)),hst⟩
 rw [ite_f hc358] at hb350
 have hst:=hst.gets [4,4,4,4] rfl
 refine W_drawS 13 [isV (Pq g3 3),isV (.agg #[v1_3,I s.given.bound]),isV (Pq g3 3),isV (.agg #[v1_3,I s.given.bound]),isV (Bo x337),isV (Bo x337),isV (undef),isV (undef),isV (undef),isV (undef),isV (undef),isV (Bo b350),anyF] [oF 54 (rCon 83) v0_0 r_.list,oF 4 RP.bool v0_1 r_.gone,box g_0 80 #[v0_0,v0_1],box g3 56 #[I s.kind,I s.a,I s.b,v1_3,I s.given.bound]] [.base (box g57 54 #[S0,I 0]) (some 12),.madeN 12 [] (fun vs_=>box g57 54 #[v1_3,I s.given.bound]) none] (R) [([],[]),([],[]),([],[]),([],[]),([],[]),([],[]),([],[]),([],[]),([],[]),([],[]),([],[]),([],[]),([0],[1])] (S:=[(none,[],some 12),(some 12,[],none)]) Tryz_mix (by kernel_rfl) rfl (by kernel_rfl) (amF_cons (mono_V _) (amF_cons (mono_V _) (amF_cons (mono_V _) (amF_cons (mono_V _) (amF_cons (mono_V _) (amF_cons (mono_V _) (amF_cons (mono_V _) (amF_cons (mono_V _) (amF_cons (mono_V _) (amF_cons (mono_V _) (amF_cons (mono_V _) (amF_cons (mono_V _) (amF_cons (mono_any) amF_nil))))))))))))) hst ?_ (fun f w_ H352 hS352 hE352 hT352 hst=>?_)
 refine opsS_cons (fun f w_ _ _ s _ _ hst=>fA 3 fa_56_3 ((s 3 rfl).trans sf3) rfl (nO rfl rfl hst)) (opsS_cons (fun f w_ _ _ _ _ p hst=>L_lda (cs:=[v1_3,I s.given.bound]) rfl Tryz.isAgg54 Tryz.sizeOf54 (p 0 145 rfl rfl) (At.sub0 (Blk.at (Star.blkAt 3 hst rfl)) 3 2) rfl (nO rfl rfl hst)) (opsS_cons (fun f w_ _ _ s _ _ hst=>fA 3 fa_56_3 ((s 3 rfl).trans sf3) rfl (nO rfl rfl hst)) (opsS_cons (fun f w_ _ _ _ _ p hst=>L_lda (cs:=[v1_3,I s.given.bound]) rfl Tryz.isAgg54 Tryz.sizeOf54 (p 2 147 rfl rfl) (At.sub0 (Blk.at (Star.blkAt 3 hst rfl)) 3 2) rfl (nO rfl rfl hst)) (opsS_cons ?_ ?_))))
 intro f w_ H352 X352 hS352 hE352 hP352 hst
 obtain ⟨H399b,l400,s401,z402,k403⟩:=hst.borrow
 refine L_call rfl Tryz.call67 (ops1 (hP352 3 148 rfl rfl)) (i_ConstraintValid_c (c:=s.given) s401 (RP.mono _ h1_3 (Le.trans (Le.trans l34 hE352) l400)) hx337) ?_
 rintro _ w404 ⟨rfl,hst⟩
 have hst:=k403 hst c0
 exact L_nil ⟨rfl,_,_,rfl,Le.refl _,fun _ _=>rfl,hst⟩
 refine opsS_cons (fun f w_ _ _ _ _ p hst=>mF (p 4 149 rfl rfl) rfl (nO rfl rfl hst)) (oP (fun _ _ p=>gN (p 5 150 rfl rfl) hc358 rfl) (fun _=>rfl) (oP (fun _ _ p=>gN (p 5 150 rfl rfl) hc358 rfl) (fun _=>rfl) (oP (fun _ _ p=>gN (p 5 150 rfl rfl) hc358 rfl) (fun _=>rfl) (oP (fun _ _ p=>gN (p 5 150 rfl rfl) hc358 rfl) (fun _=>rfl) (oP (fun _ _ p=>gN (p 5 150 rfl rfl) hc358 rfl) (fun _=>rfl) (opsS_cons (fun f w_ _ _ _ _ p hst=>pkT (v:=Bo b350) (p 5 150 rfl rfl) hc358 rfl (congrArg Value.bool (so hb350)) (nO rfl rfl hst)) (opsS_cons ?_ ?_)))))))
 intro f w_ H352 X352 hS352 hE352 hP352 hst
 have hst : Star H352 w_ (oF 54 (rCon 83) v0_0 r_.list :: oF 4 RP.bool v0_1 r_.gone :: box g_0 80 #[v0_0,v0_1] :: box g3 56 #[I s.kind,I s.a,I s.b,v1_3,I s.given.bound] :: box g57 54 #[S0,I 0] :: X352):=hst
 refine L_staB (vs:=#[v1_3,I s.given.bound]) (cs2:=#[v1_3,I s.given.bound]) 4 rfl Tryz.sizeOf54 ((hS352 7 rfl).trans rfl) (hP352 1 146 rfl rfl) rfl (ones_cons (one_len (slice_len (RP.mono _ h1_3 (Le.trans l34 hE352)))) (ones_cons rfl ones_nil)) hst rfl (by show 0 + 2≤2; decide) rfl (fun w405 hst=>?_)
 have hst:=hst.gets [4,4,4,4] rfl
 exact L_nil ⟨rfl,Bo false,_,rfl,Le.refl _,(fun _ h=>nomatch h),hst⟩
 exact opsS_nil
 have hst : Star H352 w_ (oF 54 (rCon 83) v0_0 r_.list :: oF 4 RP.bool v0_1 r_.gone :: box g_0 80 #[v0_0,v0_1] :: box g3 56 #[I s.kind,I s.a,I s.b,v1_3,I s.given.bound] :: box g57 54 #[v1_3,I s.given.bound] :: R):=hst
 refine aF (hT352 11 156 rfl rfl) rfl (nn ?_)
 have hst:=hst.gets [4,3,3,3] rfl
 have hst:=Star.drop 4 hst rfl
 exact rj hR357 ⟨H352,v1_3,hE352,((hS352 0 rfl).trans sf0),((hS352 7 rfl).trans rfl),rfl,(RP.mono _ h1_3 (Le.trans l34 hE352)),hst⟩
 intro f w_ hR
 obtain ⟨H355,v353_g57_0,l356,sf0,sf7,sf8,hv354_g57_0,hst⟩:=rk hR357 hR
 obtain ⟨rfl,rfl,rfl⟩:=so3 hA330
 exact rj hR330 ⟨H355,v353_g57_0,l356,sf0,sf7,sf8,hv354_g57_0,hst⟩
 have hA330:=(ite_f hc331).symm.trans hA330
 refine W_skip ?_
 obtain ⟨rfl,rfl,rfl⟩:=so3 hA330
 have hst:=hst.gets [3,3,3] rfl
 have hst:=Star.drop 4 hst rfl
 exact rj hR330 ⟨H33,S0,(Le.refl _),sf0,rfl,rfl,(rel_nil _ _ _),hst⟩
 intro f w_ hR
 obtain ⟨H328,v325_g57_0,l329,sf0,sf7,sf8,hv326_g57_0,hst⟩:=rk hR330 hR
 obtain ⟨rfl,rfl,rfl⟩:=so3 hA302
 exact rj hR302 ⟨H328,v325_g57_0,l329,sf0,sf7,sf8,hv326_g57_0,hst⟩
 intro f w_ hR
 obtain ⟨H300,v297_g57_0,l301,sf0,sf7,sf8,hv298_g57_0,hst⟩:=rk hR302 hR
 obtain ⟨rfl,rfl,rfl⟩:=so3 hA246
 exact rj hR246 ⟨H300,v297_g57_0,l301,sf0,sf7,sf8,hv298_g57_0,hst⟩
 intro f w_ hR
 obtain ⟨H244,v241_g57_0,l245,sf0,sf7,sf8,hv242_g57_0,hst⟩:=rk hR246 hR
 obtain ⟨rfl,rfl,rfl⟩:=so3 hA190
 exact rj hR190 ⟨H244,v241_g57_0,l245,sf0,sf7,sf8,hv242_g57_0,hst⟩
 intro f w_ hR
 obtain ⟨H188,v185_g57_0,l189,sf0,sf7,sf8,hv186_g57_0,hst⟩:=rk hR190 hR
 obtain ⟨rfl,rfl,rfl⟩:=so3 hA154
 exact rj hR154 ⟨H188,v185_g57_0,l189,sf0,sf7,sf8,hv186_g57_0,hst⟩
 intro f w_ hR
 obtain ⟨H152,v149_g57_0,l153,sf0,sf7,sf8,hv150_g57_0,hst⟩:=rk hR154 hR
 obtain ⟨rfl,rfl,rfl⟩:=so3 hA118
 exact rj hR118 ⟨H152,v149_g57_0,l153,sf0,sf7,sf8,hv150_g57_0,hst⟩
 intro f w_ hR
 obtain ⟨H116,v113_g57_0,l117,sf0,sf7,sf8,hv114_g57_0,hst⟩:=rk hR118 hR
 obtain ⟨rfl,rfl,rfl⟩:=so3 hA74
 exact rj hR74 ⟨H116,v113_g57_0,l117,sf0,sf7,sf8,hv114_g57_0,hst⟩
 intro f w_ hR
 obtain ⟨H72,v69_g57_0,l73,sf0,sf7,sf8,hv70_g57_0,hst⟩:=rk hR74 hR
 refine W_seq ?_
 obtain ⟨x409,hx409,hF⟩:=bind_some hF
 obtain ⟨x416,hx416,hF⟩:=bind_some hF
 have hst:=hst.gets [2,2,2,3] rfl
 refine W_drawS 18 [isV (Pt g_0),isV (Pt g_0),isV (Pt g_0),isV (Pt g_0),isV (Pt g_0),isV (v0_0),isV (.agg #[v69_g57_0,I g57_1_71]),anyF,anyF,isV (Pt g_0),isV (Pt g_0),isV (Pq g_0 1),isV (v0_1),anyF,anyF,isV (Pt g_0),isV (Pt g_0),anyF] [box g57 54 #[v69_g57_0,I g57_1_71]] [.base (oF 54 (rCon 83) v0_0 r_.list) (some 8),.base (oF 4 RP.bool v0_1 r_.gone) (some 14),.base (box g_0 80 #[v0_0,v0_1]) (some 17),.made 7 164 (fun v_=>oF 54 (rCon 83) v_ ([({ terms:=g57_0_69,bound:=g57_1_71 } : Con)])) (some 8),.made 8 165 (fun v_=>oF 54 (rCon 83) v_ x409) none,.made 13 170 (fun v_=>oF 4 RP.bool v_ ([false])) (some 14),.made 14 171 (fun v_=>oF 4 RP.bool v_ x416) none,.madeN 17 [165] (fun vs_=>box g_0 80 #[(vs_.getD 0 undef),v0_1]) none] (R) [([],[]),([],[]),([],[]),([],[]),([],[]),([2],[2]),([],[]),([],[3]),([0,3],[4]),([],[]),([],[]),([],[]),([2],[2]),([],[5]),([1,5],[6]),([],[]),([],[]),([2,4],[4,7])] (S:=[(none,[],some 8),(none,[],some 14),(none,[],some 17),(some 7,[164],some 8),(some 8,[165],none),(some 13,[170],some 14),(some 14,[171],none),(some 17,[165],none)]) Tryz_mix (by kernel_rfl) rfl (by kernel_rfl) (amF_cons (mono_V _) (amF_cons (mono_V _) (amF_cons (mono_V _) (amF_cons (mono_V _) (amF_cons (mono_V _) (amF_cons (mono_V _) (amF_cons (mono_V _) (amF_cons (mono_any) (amF_cons (mono_any) (amF_cons (mono_V _) (amF_cons (mono_V _) (amF_cons (mono_V _) (amF_cons (mono_V _) (amF_cons (mono_any) (amF_cons (mono_any) (amF_cons (mono_V _) (amF_cons (mono_V _) (amF_cons (mono_any) amF_nil)))))))))))))))))) hst ?_ (fun f w_ H422 hS422 hE422 hT422 hst=>?_)
 refine opsS_cons (fun f w_ _ _ s _ _ hst=>mF ((s 0 rfl).trans sf0) rfl (nO rfl rfl hst)) (opsS_cons (fun f w_ _ _ s _ _ hst=>mF ((s 0 rfl).trans sf0) rfl (nO rfl rfl hst)) (opsS_cons (fun f w_ _ _ s _ _ hst=>mF ((s 0 rfl).trans sf0) rfl (nO rfl rfl hst)) (opsS_cons (fun f w_ _ _ _ _ p hst=>L_nc rfl (p 2 159 rfl rfl) (nO rfl rfl hst)) (opsS_cons (fun f w_ _ _ _ _ p hst=>fA 0 fa_80_0 (p 3 160 rfl rfl) rfl (nO rfl rfl hst)) (opsS_cons ?_ ?_)))))
 intro f w_ H422 X422 hS422 hE422 hP422 hst
 have hst : Star H422 w_ (box g57 54 #[v69_g57_0,I g57_1_71] :: box g_0 80 #[v0_0,v0_1] :: X422):=hst
 refine ldB 1 hst Tryz.isAgg29 (hP422 4 161 rfl rfl) rfl rfl (L_nil ⟨rfl,_,_,rfl,Le.refl _,fun _ _=>rfl,hst⟩)
 refine opsS_cons (fun f w_ _ _ s _ _ hst=>L_lda (cs:=[v69_g57_0,I g57_1_71]) rfl Tryz.isAgg54 Tryz.sizeOf54 ((s 7 rfl).trans sf7) (At.sub0 (Blk.at (Star.blkAt 0 hst rfl)) 0 2) rfl (nO rfl rfl hst)) (opsS_cons ?_ ?_)
 intro f w_ H422 X422 hS422 hE422 hP422 hst
 refine L_bs rfl (parts1 (hP422 6 163 rfl rfl)) (bs_29_1_2 (v69_g57_0) (I g57_1_71) ) hst (fun g436 w437 hst=>?_)
 have hst:=Star.addF (r:=(rCon 83)) (cs:=[v69_g57_0,I g57_1_71]) (x:=({ terms:=g57_0_69,bound:=g57_1_71 } : Con)) hst (rCon_iff.2 ⟨_,rfl,(RP.mono _ hv70_g57_0 hE422)⟩)
 have hst:=Star.mkRow (R:=(OR.frz (rCon 83))) [([v69_g57_0,I g57_1_71],({ terms:=g57_0_69,bound:=g57_1_71 } : Con))] [({ terms:=g57_0_69,bound:=g57_1_71 } : Con)] 1 hst rfl rfl rfl (by decide)
 have hst:=hst.get 1 rfl
 exact L_nil ⟨rfl,_,_,rfl,Le.refl _,fun _ _=>trivial,hst⟩
 refine opsS_cons ?_ ?_
 intro f w_ H422 X422 hS422 hE422 hP422 hst
 have hst : Star H422 w_ (box g57 54 #[v69_g57_0,I g57_1_71] :: oF 54 (rCon 83) v0_0 r_.list :: oF 54 (rCon 83) (f 164) ([({ terms:=g57_0_69,bound:=g57_1_71 } : Con)]) :: X422):=hst
 have hst:=hst.gets [2,2] rfl
 refine L_appM (v:=v0_0) (u:=(f 164)) rfl et_29 (hP422 5 162 rfl rfl) rfl hst hx409 (fun v440 w441 hst=>?_)
 have hst:=hst.get 1 rfl
 exact L_nil ⟨rfl,_,_,rfl,Le.refl _,fun _ _=>trivial,hst⟩
 refine opsS_cons (fun f w_ _ _ s _ _ hst=>mF ((s 0 rfl).trans sf0) rfl (nO rfl rfl hst)) (opsS_cons (fun f w_ _ _ _ _ p hst=>L_nc rfl (p 9 166 rfl rfl) (nO rfl rfl hst)) (opsS_cons (fun f w_ _ _ _ _ p hst=>fA 1 fa_80_1 (p 10 167 rfl rfl) rfl (nO rfl rfl hst)) (opsS_cons ?_ ?_)))
 intro f w_ H422 X422 hS422 hE422 hP422 hst
 have hst : Star H422 w_ (box g57 54 #[v69_g57_0,I g57_1_71] :: box g_0 80 #[v0_0,v0_1] :: X422):=hst
 refine ldB 1 hst Tryz.isAgg45 (hP422 11 168 rfl rfl) rfl rfl (L_nil ⟨rfl,_,_,rfl,Le.refl _,fun _ _=>rfl,hst⟩)
 refine opsS_cons ?_ ?_
 intro f w_ H422 X422 hS422 hE422 hP422 hst
 refine L_bs rfl (parts1 rfl) (bs_45_1_0 (Bo false) rfl) hst (fun g443 w444 hst=>?_)
 have hst:=Star.addF (r:=RP.bool) (cs:=[Bo false]) (x:=false) hst rfl
 have hst:=Star.mkRow (R:=(OR.frz RP.bool)) [([Bo false],false)] [false] 1 hst rfl rfl rfl (by decide)
 have hst:=hst.get 1 rfl
 exact L_nil ⟨rfl,_,_,rfl,Le.refl _,fun _ _=>trivial,hst⟩
 refine opsS_cons ?_ ?_
 intro f w_ H422 X422 hS422 hE422 hP422 hst
 have hst : Star H422 w_ (box g57 54 #[v69_g57_0,I g57_1_71] :: oF 4 RP.bool v0_1 r_.gone :: oF 4 RP.bool (f 170) ([false]) :: X422):=hst
 have hst:=hst.gets [2,2] rfl
 refine L_appM (v:=v0_1) (u:=(f 170)) rfl et_45 (hP422 12 169 rfl rfl) rfl hst hx416 (fun v447 w448 hst=>?_)
 have hst:=hst.get 1 rfl
 exact L_nil ⟨rfl,_,_,rfl,Le.refl _,fun _ _=>trivial,hst⟩
 refine opsS_cons (fun f w_ _ _ _ _ p hst=>L_nc rfl (p 0 157 rfl rfl) (nO rfl rfl hst)) (opsS_cons (fun f w_ _ _ _ _ p hst=>fA 0 fa_80_0 (p 15 172 rfl rfl) rfl (nO rfl rfl hst)) (opsS_cons ?_ ?_))
 intro f w_ H422 X422 hS422 hE422 hP422 hst
 have hst : Star H422 w_ (box g57 54 #[v69_g57_0,I g57_1_71] :: box g_0 80 #[v0_0,v0_1] :: oF 54 (rCon 83) (f 165) x409 :: X422):=hst
 refine L_stB (v:=(f 165)) (cs2:=#[(f 165),v0_1]) 1 rfl Tryz.sizeOf29 (hP422 16 173 rfl rfl) rfl (one_len (Star.len 2 hst rfl)) hst rfl rfl rfl (fun w451 hst=>?_)
 have hst:=hst.gets [2,2] rfl
 exact L_nil ⟨rfl,Bo false,_,rfl,Le.refl _,(fun _ h=>nomatch h),hst⟩
 exact opsS_nil
 have hst : Star H422 w_ (box g57 54 #[v69_g57_0,I g57_1_71] :: oF 54 (rCon 83) (f 165) x409 :: oF 4 RP.bool (f 171) x416 :: box g_0 80 #[(f 165),v0_1] :: R):=hst
 refine L_nc rfl (hT422 1 158 rfl rfl) (fA 1 fa_80_1 rfl rfl (L_stB (v:=(f 171)) (cs2:=#[(f 165),(f 171)]) 3 rfl Tryz.sizeOf45 rfl rfl (one_len (Star.len 2 hst rfl)) hst rfl rfl rfl (fun w453 hst=>ns (mF ((hS422 8 rfl).trans sf8) rfl (aB rfl (nn (W_ret (retG1 (v1:=Bo ok_68) Tryz.results66 rfl ?_))))))))
 obtain rfl:=so hF
 have hst:=hst.gets [3,3,2] rfl
 have hst:=Star.drop 3 hst rfl
 exact ⟨H422,(Le.trans (Le.trans l34 l73) hE422),(f 165),(f 171),rfl,hst⟩
theorem i_run_c {fu : Nat} {list : List Con} {steps : List Step} {v0 : Value} {v1 : Value} {H : FH} {w : World} {R : List Ass} (hst : Star H w R) (h0 : (rS 54 (rCon 83)).rel H [v0] list) (h1 : (rS 56 (rStep 83)).rel H [v1] steps) {r : (Option Db) × Int} (hF : i_run fu list steps = some r) :
 C Tryz.prog 53 #[v0,v1] w fun v w'=>∃ H' : FH,Le H H'∧∃ (u1 : Value),v = .tuple #[u1,I r.2]∧Star H' w' (optA u1 r.1 (fun (d_ : Db) (g_ : Nat) (u_ : Value × Value)=>[box g_ 80 #[u_.1,u_.2],oF 54 (rCon 83) u_.1 d_.list,oF 4 RP.bool u_.2 d_.gone]) :: R):=by
 unfold i_run at hF
 refine C_enter Tryz.func53 rfl Tryz.ntmps53 rfl (sq (aV (.pointer none) rfl (aI rfl (nq (W_seq ?_)))))
 obtain ⟨x6,hx6,hF⟩:=bind_some hF
 obtain ⟨R8,hR8⟩:=exR fun f w_=>f 0 = v0∧f 1 = v1∧f 16 = Bo ((!x6) || (decide ((steps.length : Int) > 1000)))∧Star H w_ (R)
 refine W_join R8 ?_ ?_
 refine W_region (mV v0 rfl ?_)
 obtain ⟨H9b,l10,s11,z12,k13⟩:=hst.borrow
 refine L_call rfl Tryz.call64 (ops1 rfl) (i_ProblemValid_c (list:=list) s11 (RP.mono _ h0 l10) hx6) ?_
 rintro _ w14 ⟨rfl,hst⟩
 have hst:=k13 hst c0
 refine L_not_ rfl rfl (mB rfl (L_split (d:=12) (b:=(!x6)) rfl (fun hc15=>?_) (fun hc15=>?_)))
 refine ps rfl (ps rfl (ps rfl (L_pick (v:=Bo ((!x6) || (decide ((steps.length : Int) > 1000)))) rfl rfl (or_t hc15) (nn (rj hR8 ⟨rfl,rfl,rfl,hst⟩)))))
 refine mV v1 rfl (L_len rfl Tryz.underlying26 rfl (slice_len h1) (L_gtr rfl rfl rfl (L_pick (v:=Bo ((!x6) || (decide ((steps.length : Int) > 1000)))) rfl rfl (or_f hc15 rfl) (nn (rj hR8 ⟨rfl,rfl,rfl,hst⟩)))))
 intro f w_ hR
 obtain ⟨sf0,sf1,sf16,hst⟩:=rk hR8 hR
 refine W_cond (b:=((!x6) || (decide ((steps.length : Int) > 1000)))) sf16 (fun hc16=>?_) (fun hc16=>?_)
 have hF:=(ite_t hc16).symm.trans hF
 refine sq (aV (.pointer none) rfl (aI rfl (nn (W_ret (retG2 (v1:=.pointer none) (v2:=I 0) Tryz.results53 rfl rfl ?_)))))
 obtain rfl:=so hF
 have hst:=Star.optNone (fun (d_ : Db) (g_ : Nat) (u_ : Value × Value)=>[box g_ 80 #[u_.1,u_.2],oF 54 (rCon 83) u_.1 d_.list,oF 4 RP.bool u_.2 d_.gone]) hst
 exact ⟨H,(Le.refl _),.pointer none,rfl,hst⟩
 have hF:=(ite_f hc16).symm.trans hF
 refine W_skip (W_seq ?_)
 obtain ⟨x18,hx18,hF⟩:=bind_some hF
 obtain ⟨x21,hx21,hF⟩:=bind_some hF
 refine W_drawS 5 [isV (v0),anyF,isV (v0),isV (I (list.length : Int)),anyF] [] [.made 1 18 (fun v_=>oF 54 (rCon 83) v_ x18) none,.made 4 21 (fun v_=>oF 4 RP.bool v_ x21) none] (R) [([],[]),([],[0]),([],[]),([],[]),([],[1])] (S:=[(some 1,[18],none),(some 4,[21],none)]) Tryz_mix (by kernel_rfl) rfl (by kernel_rfl) (amF_cons (mono_V _) (amF_cons (mono_any) (amF_cons (mono_V _) (amF_cons (mono_V _) (amF_cons (mono_any) amF_nil))))) hst ?_ (fun f w_ H27 hS27 hE27 hT27 hst=>?_)
 refine opsS_cons (fun f w_ _ _ s _ _ hst=>mF ((s 0 rfl).trans sf0) rfl (nO rfl rfl hst)) (opsS_cons ?_ ?_)
 intro f w_ H27 X27 hS27 hE27 hP27 hst
 refine L_call rfl Tryz.call65 (ops1 (hP27 0 17 rfl rfl)) (slices_Clone_implConstraint_c (s:=list) hst (RP.mono _ h0 hE27) hx18) ?_
 rintro r33_0 w33 ⟨H33,l33,_,rfl,hst⟩
 exact L_nil ⟨rfl,_,_,rfl,l33,fun _ _=>trivial,hst⟩
 refine opsS_cons (fun f w_ _ _ s _ _ hst=>mF ((s 0 rfl).trans sf0) rfl (nO rfl rfl hst)) (opsS_cons (fun f w_ _ _ _ hE27 p hst=>L_len rfl Tryz.underlying29 (p 2 19 rfl rfl) (slice_len (RP.mono _ h0 hE27)) (nO rfl rfl hst)) (opsS_cons ?_ ?_))
 intro f w_ H27 X27 hS27 hE27 hP27 hst
 refine L_mk (R:=(OR.frz RP.bool)) (z0:=false) (zc:=[Bo false]) rfl et_45 (by kernel_rfl) (fun _ _=>⟨rfl,rfl⟩) (hP27 3 20 rfl rfl) (hP27 3 20 rfl rfl) hx21 hst (fun v35 w36 hst=>L_nil ⟨rfl,_,_,rfl,Le.refl _,fun _ _=>trivial,hst⟩)
 exact opsS_nil
 have hst : Star H27 w_ (oF 54 (rCon 83) (f 18) x18 :: oF 4 RP.bool (f 21) x21 :: R):=hst
 refine L_bld rfl (parts2 rfl rfl) (bld_80_0_1 ((f 18)) ((f 21)) (one_len (Star.len 0 hst rfl)) (one_len (Star.len 1 hst rfl))) (L_box (v:=.agg #[(f 18),(f 21)]) (cs:=#[(f 18),(f 21)]) rfl rfl rfl hst (fun g40 w41 hst=>aV (Pt g40) rfl (nq (sq (mF ((hS27 1 rfl).trans sf1) rfl (L_len rfl Tryz.underlying26 rfl (slice_len (RP.mono _ h1 hE27)) (mI rfl (nn ?_))))))))
 have hlen49 : List.length steps≤9223372036854775807:=len_le (slice_len (RP.mono _ h1 hE27))
 obtain ⟨j49,hL49,hF⟩:=bind_some hF
 obtain ⟨R49,hR49⟩:=exR fun f w_=>∃ g40_0_43 : List Con,∃ g40_1_45 : List Bool,∃ H47 : FH,∃ v43_g40_0 v45_g40_1 : Value,j49 = .nx (g40_0_43,g40_1_45)∧Le H27 H47∧f 6 = Pt g40∧Star H47 w_ (oF 54 (rCon 83) v43_g40_0 g40_0_43 :: oF 4 RP.bool v45_g40_1 g40_1_45 :: box g40 80 #[v43_g40_0,v45_g40_1] :: R)
 refine W_join R49 ?_ ?_
 refine W_block ?_
 obtain ⟨I49,hI49⟩:=exI fun n f w_=>∃ i_42 : Nat,∃ suf49 : List Step,∃ g40_0_43 : List Con,∃ g40_1_45 : List Bool,∃ H47 : FH,∃ v43_g40_0 v45_g40_1 : Value,n = suf49.length∧List.drop i_42 steps = suf49∧i_42 + suf49.length = steps.length∧rangeL (i_run_b1 fu list) suf49 i_42 (g40_0_43,g40_1_45) = some j49∧Le H27 H47∧f 6 = Pt g40∧f 24 = v1∧f 25 = I (steps.length : Int)∧f 26 = I i_42∧Star H47 w_ (oF 54 (rCon 83) v43_g40_0 g40_0_43 :: oF 4 RP.bool v45_g40_1 g40_1_45 :: box g40 80 #[v43_g40_0,v45_g40_1] :: R)
 have hst:=hst.gets [2,2] rfl
 refine W_loop I49 (n:=steps.length) ?_ ?_
 exact ij hI49 ⟨0,steps,x18,x21,H27,(f 18),(f 21),rfl,rfl,Nat.zero_add _,hL49,(Le.refl _),rfl,rfl,rfl,rfl,hst⟩
 intro n49 f w_ hI
 obtain ⟨i_42,suf49,g40_0_43,g40_1_45,H47,v43_g40_0,v45_g40_1,rfl,hd49,hl49,hL49,l48,sf6,sf24,sf25,sf26,hst⟩:=ik hI49 hI
 refine sq (L_lss rfl sf26 sf25 (nq (W_cond (b:=decide ((i_42 : Int) < (steps.length : Int))) rfl (fun hc50=>?_) (fun hc50=>?_))))
 have hlt49:=of_decide_eq_true hc50
 rcases suf49 with _ | ⟨x_49,rest49⟩
 exact absurd hlt49 (by simp at hl49; omega)
 obtain ⟨o49,hB49,hL49⟩:=range_cons hL49
 rw [i_run_b1] at hB49
 have hix49:=drop_idx hd49
 refine W_skip (W_seq (W_block (sq (mF sf26 rfl (L_ix (r:=(rStep 83)) rfl Tryz.underlying26 Tryz.sizeOf56 sf24 (RP.mono _ h1 (Le.trans hE27 l48)) sf26 hix49 (fun g58 o59 cs_g58 hrk_hat60 hat60=>?_))))))
 obtain ⟨u61_0,rfl,hu61_0⟩:=rStep_iff.1 hrk_hat60
 refine L_lda (cs:=[I x_49.kind,I x_49.a,I x_49.b,u61_0,I x_49.given.bound]) rfl Tryz.isAgg56 Tryz.sizeOf56 rfl (At.sub (AtH.at hat60 hst.sub) 0 5) rfl (L_al (cs:=#[I 0,I 0,I 0,S0,I 0]) rfl Tryz.zeroValue56 rfl hst (fun g62 w63 hst=>aI rfl (L_staB (vs:=#[I x_49.kind,I x_49.a,I x_49.b,u61_0,I x_49.given.bound]) (cs2:=#[I x_49.kind,I x_49.a,I x_49.b,u61_0,I x_49.given.bound]) 0 rfl Tryz.sizeOf56 rfl rfl rfl (ones_cons rfl (ones_cons rfl (ones_cons rfl (ones_cons (one_len (slice_len hu61_0)) (ones_cons rfl ones_nil))))) hst rfl (by show 0 + 5≤5; decide) rfl (fun w64 hst=>nq ?_))))
 obtain ⟨x65,hx65,hB49⟩:=bind_some hB49
 refine W_region (mF sf6 rfl (L_lda (cs:=[I x_49.kind,I x_49.a,I x_49.b,u61_0,I x_49.given.bound]) rfl Tryz.isAgg56 Tryz.sizeOf56 rfl (At.sub0 (Blk.at (Star.blkAt 0 hst rfl)) 0 5) rfl ?_))
 have hst:=hst.gets [2,2,3] rfl
 refine L_call rfl Tryz.call66 (ops2 rfl rfl) (i_running_step_c (r_:=({ list:=g40_0_43,gone:=g40_1_45 } : Db)) (s:=x_49) hst hu61_0 hx65) ?_
 rintro _ w69 ⟨H69,l69,r69_0,r69_1,rfl,hst⟩
 refine L_not_ rfl rfl (nn (W_cond (b:=(!x65.1)) rfl (fun hc72=>?_) (fun hc72=>?_)))
 have hB49:=(ite_t hc72).symm.trans hB49
 refine sq (mI rfl (aV (.pointer none) rfl (aI rfl (nn (W_ret (retG2 (v1:=.pointer none) (v2:=I i_42) Tryz.results53 rfl rfl ?_))))))
 obtain rfl:=so hB49
 obtain rfl:=so hL49
 obtain rfl:=so hF
 have hst:=Star.optNone (fun (d_ : Db) (g_ : Nat) (u_ : Value × Value)=>[box g_ 80 #[u_.1,u_.2],oF 54 (rCon 83) u_.1 d_.list,oF 4 RP.bool u_.2 d_.gone]) hst
 have hst:=Star.drop 1 hst rfl
 have hst:=Star.drop 1 hst rfl
 have hst:=Star.drop 1 hst rfl
 have hst:=Star.drop 1 hst rfl
 exact ⟨H69,(Le.trans (Le.trans hE27 l48) l69),.pointer none,rfl,hst⟩
 have hB49:=(ite_f hc72).symm.trans hB49
 refine W_skip (W_region (L_add rfl sf26 rfl (mI rfl (nn ?_))))
 obtain rfl:=so hB49
 have hst:=hst.gets [2,2] rfl
 have hst:=Star.drop 3 hst rfl
 show ∃ m,m < _∧I49 m _ _
 refine ⟨rest49.length,by simp,?_⟩
 exact ij hI49 ⟨i_42 + 1,rest49,x65.2.1,x65.2.2,H69,r69_0,r69_1,rfl,drop_next hd49,by simp at hl49; omega,hL49,(Le.trans l48 l69),sf6,sf24,sf25,(Eq.trans rfl (congrArg (Value.int .i64) (i64_succ (n:=steps.length) (by simp at hl49; omega) hlen49))),hst⟩
 rcases suf49 with _ | ⟨_,_⟩
 obtain rfl:=range_nil hL49
 refine W_exit (rj hR49 ⟨g40_0_43,g40_1_45,H47,v43_g40_0,v45_g40_1,rfl,l48,sf6,hst⟩)
 exact absurd (of_decide_eq_false hc50) (by simp at hl49; omega)
 intro f w_ hR
 obtain ⟨g40_0_43,g40_1_45,H47,v43_g40_0,v45_g40_1,rfl,l48,sf6,hst⟩:=rk hR49 hR
 refine sq (mF sf6 rfl (aV (Pt g40) rfl (aI rfl (nn (W_ret (retG2 (v1:=Pt g40) (v2:=I (-1)) Tryz.results53 rfl rfl ?_))))))
 obtain rfl:=so hF
 have hst:=hst.gets [1,1,2] rfl
 have hst:=Star.optSome (fun (d_ : Db) (g_ : Nat) (u_ : Value × Value)=>[box g_ 80 #[u_.1,u_.2],oF 54 (rCon 83) u_.1 d_.list,oF 4 RP.bool u_.2 d_.gone]) ({ list:=g40_0_43,gone:=g40_1_45 } : Db) g40 (v43_g40_0,v45_g40_1) hst
 exact ⟨H47,(Le.trans hE27 l48),Pt g40,rfl,hst⟩
theorem i_ConstraintFalse_c {c : Con} {v0_0 : Value} {H : FH} {w : World} (hst : Star H w []) (h0_0 : (rS 83 rTerm).rel H [v0_0] c.terms) {r : Bool} (hF : i_ConstraintFalse c = some r) :
 C Tryz.prog 54 #[.agg #[v0_0,I c.bound]] w fun v w'=>v = Bo r∧Star H w' []:=by
 unfold i_ConstraintFalse at hF
 refine C_enter Tryz.func54 rfl Tryz.ntmps54 rfl (sq (L_box (v:=.agg #[v0_0,I c.bound]) (cs:=#[v0_0,I c.bound]) rfl rfl rfl hst (fun g3 w4 hst=>aB rfl (nq ?_))))
 obtain ⟨x10,hx10,hF⟩:=bind_some hF
 obtain ⟨b19,hb19,hF⟩:=bind_some hF
 obtain ⟨R23,hR23⟩:=exR fun f w_=>∃ H21 : FH,Le H H21∧f 2 = Bo b19∧Star H21 w_ ([])
 refine W_join R23 ?_ ?_
 rcases Bool.eq_false_or_eq_true x10 with hc24 | hc24
 rw [ite_t hc24] at hb19
 obtain ⟨x17,hx17,hb19⟩:=bind_some hb19
 refine W_drawS 7 [isV (.agg #[v0_0,I c.bound]),isV (Bo x10),isV (Bo x10),isV (Pq g3 1),isV (I c.bound),isV (.agg #[v0_0,I c.bound]),isV (I x17)] [box g3 54 #[v0_0,I c.bound]] [] ([]) [([],[]),([],[]),([],[]),([],[]),([],[]),([],[]),([],[])] (S:=[]) Tryz_mix (by kernel_rfl) rfl (by kernel_rfl) (amF_cons (mono_V _) (amF_cons (mono_V _) (amF_cons (mono_V _) (amF_cons (mono_V _) (amF_cons (mono_V _) (amF_cons (mono_V _) (amF_cons (mono_V _) amF_nil))))))) hst ?_ (fun f w_ H20 hS20 hE20 hT20 hst=>?_)
 refine opsS_cons (fun f w_ _ _ s _ _ hst=>L_lda (cs:=[v0_0,I c.bound]) rfl Tryz.isAgg54 Tryz.sizeOf54 ((s 1 rfl).trans rfl) (At.sub0 (Blk.at (Star.blkAt 0 hst rfl)) 0 2) rfl (nO rfl rfl hst)) (opsS_cons ?_ ?_)
 intro f w_ H20 X20 hS20 hE20 hP20 hst
 obtain ⟨H37b,l38,s39,z40,k41⟩:=hst.borrow
 refine L_call rfl Tryz.call67 (ops1 (hP20 0 3 rfl rfl)) (i_ConstraintValid_c (c:=c) s39 (RP.mono _ h0_0 (Le.trans hE20 l38)) hx10) ?_
 rintro _ w42 ⟨rfl,hst⟩
 have hst:=k41 hst c0
 exact L_nil ⟨rfl,_,_,rfl,Le.refl _,fun _ _=>rfl,hst⟩
 refine opsS_cons (fun f w_ _ _ _ _ p hst=>mF (p 1 4 rfl rfl) rfl (nO rfl rfl hst)) (opsS_cons (fun f w_ _ _ s _ p hst=>L_fa (o':=1) (g_yes rfl (Eq.trans (p 2 5 rfl rfl) (congrArg Value.bool hc24)) rfl) fa_54_1 ((s 1 rfl).trans rfl) rfl (nO rfl rfl hst)) (opsS_cons (fun f w_ _ _ _ _ p hst=>L_ld (v:=I c.bound) (g_yes rfl (Eq.trans (p 2 5 rfl rfl) (congrArg Value.bool hc24)) rfl) Tryz.isAgg3 (p 3 6 rfl rfl) (At.cell0 (Blk.at (Star.blkAt 0 hst rfl)) (j:=1) rfl) (nO rfl rfl hst)) (opsS_cons (fun f w_ _ _ s _ p hst=>L_lda (cs:=[v0_0,I c.bound]) (g_yes rfl (Eq.trans (p 2 5 rfl rfl) (congrArg Value.bool hc24)) rfl) Tryz.isAgg54 Tryz.sizeOf54 ((s 1 rfl).trans rfl) (At.sub0 (Blk.at (Star.blkAt 0 hst rfl)) 0 2) rfl (nO rfl rfl hst)) (opsS_cons ?_ ?_))))
 intro f w_ H20 X20 hS20 hE20 hP20 hst
 obtain ⟨H43b,l44,s45,z46,k47⟩:=hst.borrow
 refine L_call (g_yes rfl (Eq.trans (hP20 2 5 rfl rfl) (congrArg Value.bool hc24)) rfl) Tryz.call68 (ops1 (hP20 5 8 rfl rfl)) (i_Constraint_total_c (c:=c) s45 (RP.mono _ h0_0 (Le.trans hE20 l44)) hx17) ?_
 rintro _ w48 ⟨rfl,hst⟩
 have hst:=k47 hst c0
 exact L_nil ⟨rfl,_,_,rfl,Le.refl _,fun _ _=>rfl,hst⟩
 exact opsS_nil
 refine L_gtr (g_yes rfl (Eq.trans (hT20 2 5 rfl rfl) (congrArg Value.bool hc24)) rfl) (hT20 4 7 rfl rfl) (hT20 6 9 rfl rfl) (L_pick (v:=Bo b19) rfl (Eq.trans (hT20 2 5 rfl rfl) (congrArg Value.bool hc24)) (congrArg Value.bool (so hb19)) (aB rfl (nn (rj hR23 ⟨H20,hE20,rfl,(Star.keepN 0 hst)⟩))))
 rw [ite_f hc24] at hb19
 refine W_drawS 7 [isV (.agg #[v0_0,I c.bound]),isV (Bo x10),isV (Bo x10),isV (undef),isV (undef),isV (undef),isV (undef)] [box g3 54 #[v0_0,I c.bound]] [] ([]) [([],[]),([],[]),([],[]),([],[]),([],[]),([],[]),([],[])] (S:=[]) Tryz_mix (by kernel_rfl) rfl (by kernel_rfl) (amF_cons (mono_V _) (amF_cons (mono_V _) (amF_cons (mono_V _) (amF_cons (mono_V _) (amF_cons (mono_V _) (amF_cons (mono_V _) (amF_cons (mono_V _) amF_nil))))))) hst ?_ (fun f w_ H20 hS20 hE20 hT20 hst=>?_)
 refine opsS_cons (fun f w_ _ _ s _ _ hst=>L_lda (cs:=[v0_0,I c.bound]) rfl Tryz.isAgg54 Tryz.sizeOf54 ((s 1 rfl).trans rfl) (At.sub0 (Blk.at (Star.blkAt 0 hst rfl)) 0 2) rfl (nO rfl rfl hst)) (opsS_cons ?_ ?_)
 intro f w_ H20 X20 hS20 hE20 hP20 hst
 obtain ⟨H55b,l56,s57,z58,k59⟩:=hst.borrow
 refine L_call rfl Tryz.call67 (ops1 (hP20 0 3 rfl rfl)) (i_ConstraintValid_c (c:=c) s57 (RP.mono _ h0_0 (Le.trans hE20 l56)) hx10) ?_
 rintro _ w60 ⟨rfl,hst⟩
 have hst:=k59 hst c0
 exact L_nil ⟨rfl,_,_,rfl,Le.refl _,fun _ _=>rfl,hst⟩
 refine opsS_cons (fun f w_ _ _ _ _ p hst=>mF (p 1 4 rfl rfl) rfl (nO rfl rfl hst)) (oP (fun _ _ p=>gN (p 2 5 rfl rfl) hc24 rfl) (fun _=>rfl) (oP (fun _ _ p=>gN (p 2 5 rfl rfl) hc24 rfl) (fun _=>rfl) (oP (fun _ _ p=>gN (p 2 5 rfl rfl) hc24 rfl) (fun _=>rfl) (oP (fun _ _ p=>gN (p 2 5 rfl rfl) hc24 rfl) (fun _=>rfl) (opsS_nil)))))
 refine ps (g_no rfl (Eq.trans (hT20 2 5 rfl rfl) (congrArg Value.bool hc24)) rfl rfl) (L_pick (v:=Bo b19) rfl (Eq.trans (hT20 2 5 rfl rfl) (congrArg Value.bool hc24)) (congrArg Value.bool (so hb19)) (aB rfl (nn (rj hR23 ⟨H20,hE20,rfl,(Star.keepN 0 hst)⟩))))
 intro f w_ hR
 obtain ⟨H21,l22,sf2,hst⟩:=rk hR23 hR
 refine W_ret (retG1 (v1:=Bo b19) Tryz.results54 sf2 ?_)
 obtain rfl:=so hF
 exact ⟨rfl,(Star.down hst l22 c0)⟩
theorem i_refuting_c {fu : Nat} {list : List Con} {steps : List Step} {v0 : Value} {v1 : Value} {H : FH} {w : World} {R : List Ass} (hst : Star H w R) (h0 : (rS 54 (rCon 83)).rel H [v0] list) (h1 : (rS 56 (rStep 83)).rel H [v1] steps) {r : (Option Db) × Int} (hF : i_refuting fu list steps = some r) :
 C Tryz.prog 38 #[v0,v1] w fun v w'=>∃ H' : FH,Le H H'∧∃ (u1 : Value),v = .tuple #[u1,I r.2]∧Star H' w' (optA u1 r.1 (fun (d_ : Db) (g_ : Nat) (u_ : Value × Value)=>[box g_ 80 #[u_.1,u_.2],oF 54 (rCon 83) u_.1 d_.list,oF 4 RP.bool u_.2 d_.gone]) :: R):=by
 unfold i_refuting at hF
 refine C_enter Tryz.func38 rfl Tryz.ntmps38 rfl (sq (aV (.pointer none) rfl (aI rfl (nq ?_))))
 obtain ⟨x1,hx1,hF⟩:=bind_some hF
 refine W_region (mV v0 rfl (mV v1 rfl (L_call rfl Tryz.call53 (ops2 rfl rfl) (i_run_c (list:=list) (steps:=steps) hst h0 h1 hx1) ?_)))
 rintro _ w4 ⟨H4,l4,r4_0,rfl,hst⟩
 refine mV (.tuple #[r4_0,I x1.2]) rfl (L_ex (v:=r4_0) rfl rfl rfl (L_ex (v:=I x1.2) rfl rfl rfl (aV r4_0 rfl (aI rfl (nq (sq (mI rfl (L_geq rfl rfl rfl (nn (W_cond (b:=decide (x1.2 ≥ 0)) rfl (fun hc6=>?_) (fun hc6=>?_)))))))))))
 have hF:=(ite_t hc6).symm.trans hF
 refine sq (aV (.pointer none) rfl (aI rfl (nn (W_ret (retG2 (v1:=.pointer none) (v2:=I (-1)) Tryz.results38 rfl rfl ?_)))))
 obtain rfl:=so hF
 have hst:=Star.optNone (fun (d_ : Db) (g_ : Nat) (u_ : Value × Value)=>[box g_ 80 #[u_.1,u_.2],oF 54 (rCon 83) u_.1 d_.list,oF 4 RP.bool u_.2 d_.gone]) hst
 have hst:=Star.drop 1 hst rfl
 exact ⟨H4,l4,.pointer none,rfl,hst⟩
 have hF:=(ite_f hc6).symm.trans hF
 refine W_skip (W_seq (W_seq ?_))
 obtain ⟨x9,hx9,hF⟩:=bind_some hF
 refine W_region (mV r4_0 rfl ?_)
 obtain ⟨go12,⟨uo12_0,uo12_1⟩,hvo12,hst⟩:=Star.unopt hx9 hst
 have hst : Star H4 w4 (box go12 80 #[uo12_0,uo12_1] :: oF 54 (rCon 83) uo12_0 x9.list :: oF 4 RP.bool uo12_1 x9.gone :: R):=hst
 refine L_nc rfl hvo12 (fA 0 fa_80_0 rfl rfl (ldB 0 hst Tryz.isAgg29 rfl rfl rfl (L_len rfl Tryz.underlying29 rfl (Star.len 1 hst rfl) (mI rfl (nn ?_)))))
 have hlen16 : List.length x9.list≤9223372036854775807:=len_le (Star.len 1 hst rfl)
 obtain ⟨j16,hL16,hF⟩:=bind_some hF
 obtain ⟨R16,hR16⟩:=exR fun f w_=>j16 = .nx ()∧f 6 = Pt go12∧Star H4 w_ (oF 54 (rCon 83) uo12_0 x9.list :: oF 4 RP.bool uo12_1 x9.gone :: box go12 80 #[uo12_0,uo12_1] :: R)
 refine W_join R16 ?_ ?_
 refine W_block ?_
 obtain ⟨I16,hI16⟩:=exI fun n f w_=>∃ i_15 : Nat,∃ suf16 : List Con,n = suf16.length∧List.drop i_15 x9.list = suf16∧i_15 + suf16.length = x9.list.length∧rangeL (i_refuting_b1 x9) suf16 i_15 () = some j16∧f 6 = Pt go12∧f 21 = uo12_0∧f 22 = I (x9.list.length : Int)∧f 23 = I i_15∧Star H4 w_ (oF 54 (rCon 83) uo12_0 x9.list :: oF 4 RP.bool uo12_1 x9.gone :: box go12 80 #[uo12_0,uo12_1] :: R)
 have hst:=hst.gets [2,2] rfl
 refine W_loop I16 (n:=x9.list.length) ?_ ?_
 exact ij hI16 ⟨0,x9.list,rfl,rfl,Nat.zero_add _,hL16,hvo12,rfl,rfl,rfl,hst⟩
 intro n16 f w_ hI
 obtain ⟨i_15,suf16,rfl,hd16,hl16,hL16,sf6,sf21,sf22,sf23,hst⟩:=ik hI16 hI
 refine sq (L_lss rfl sf23 sf22 (nq (W_cond (b:=decide ((i_15 : Int) < (x9.list.length : Int))) rfl (fun hc17=>?_) (fun hc17=>?_))))
 have hlt16:=of_decide_eq_true hc17
 rcases suf16 with _ | ⟨x_16,rest16⟩
 exact absurd hlt16 (by simp at hl16; omega)
 obtain ⟨o16,hB16,hL16⟩:=range_cons hL16
 rw [i_refuting_b1] at hB16
 have hix16:=drop_idx hd16
 refine W_skip (W_seq (W_block (sq (mF sf23 rfl ?_))))
 obtain ⟨g25,cap_g25,hv26,_,_⟩:=Star.row 0 hst rfl hix16
 refine L_ixO (R:=(OR.frz (rCon 83))) (tb:=0) 0 rfl Tryz.underlying29 Tryz.sizeOf54 sf21 hv26 (by first | rfl | simp) sf23 hix16 ?_
 obtain ⟨cs27,hr27,hat27⟩:=Star.eltF 0 hst rfl hv26 hix16
 obtain ⟨u28_0,rfl,hu28_0⟩:=rCon_iff.1 hr27
 refine L_lda (cs:=[u28_0,I x_16.bound]) rfl Tryz.isAgg54 Tryz.sizeOf54 rfl (At.sub hat27 0 2) rfl (L_al (cs:=#[S0,I 0]) rfl Tryz.zeroValue54 rfl hst (fun g29 w30 hst=>aI rfl (L_staB (vs:=#[u28_0,I x_16.bound]) (cs2:=#[u28_0,I x_16.bound]) 0 rfl Tryz.sizeOf54 rfl rfl rfl (ones_cons (one_len (slice_len hu28_0)) (ones_cons rfl ones_nil)) hst rfl (by show 0 + 2≤2; decide) rfl (fun w31 hst=>nq ?_))))
 obtain ⟨x32,hx32,hB16⟩:=bind_some hB16
 obtain ⟨b44,hb44,hB16⟩:=bind_some hB16
 obtain ⟨R45,hR45⟩:=exR fun f w_=>f 6 = Pt go12∧f 8 = I i_15∧f 21 = uo12_0∧f 22 = I (x9.list.length : Int)∧f 23 = I i_15∧f 39 = Bo b44∧Star H4 w_ (oF 54 (rCon 83) uo12_0 x9.list :: oF 4 RP.bool uo12_1 x9.gone :: box go12 80 #[uo12_0,uo12_1] :: R)
 refine W_join R45 ?_ ?_
 refine W_region (mF sf6 rfl (L_nc rfl rfl (fA 1 fa_80_1 rfl rfl (ldB 3 hst Tryz.isAgg45 rfl rfl rfl (mI rfl ?_)))))
 obtain ⟨g46,cap_g46,hv47,_,_⟩:=Star.row 2 hst rfl hx32
 refine L_ixO (R:=(OR.frz RP.bool)) (tb:=0) 0 rfl Tryz.underlying45 Tryz.sizeOf4 rfl hv47 (by first | rfl | simp) rfl hx32 ?_
 obtain ⟨cs48,hr48,hat48⟩:=Star.eltF 2 hst rfl hv47 hx32
 obtain rfl : _ = [_]:=hr48
 refine L_ld rfl Tryz.isAgg4 rfl (At.cell hat48 (j:=0) rfl) (L_not_ rfl rfl (mB rfl (L_split (d:=36) (b:=(!x32)) rfl (fun hc50=>?_) (fun hc50=>?_))))
 rw [ite_t hc50] at hb44
 obtain ⟨x42,hx42,hb44⟩:=bind_some hb44
 refine L_lda (cs:=[u28_0,I x_16.bound]) rfl Tryz.isAgg54 Tryz.sizeOf54 rfl (At.sub0 (Blk.at (Star.blkAt 0 hst rfl)) 0 2) rfl ?_
 obtain ⟨H51b,l52,s53,z54,k55⟩:=hst.borrow
 refine L_call rfl Tryz.call54 (ops1 rfl) (i_ConstraintFalse_c (c:=x_16) s53 (RP.mono _ hu28_0 l52) hx42) ?_
 rintro _ w56 ⟨rfl,hst⟩
 have hst:=k55 hst c0
 refine L_pick (v:=Bo b44) rfl rfl (congrArg Value.bool (so hb44)) (nn ?_)
 have hst:=hst.gets [3,3,3] rfl
 have hst:=Star.drop 3 hst rfl
 exact rj hR45 ⟨sf6,rfl,sf21,sf22,sf23,rfl,hst⟩
 rw [ite_f hc50] at hb44
 refine ps rfl (ps rfl (L_pick (v:=Bo b44) rfl rfl (congrArg Value.bool (so hb44)) (nn ?_)))
 have hst:=hst.gets [3,3,3] rfl
 have hst:=Star.drop 3 hst rfl
 exact rj hR45 ⟨sf6,rfl,sf21,sf22,sf23,rfl,hst⟩
 intro f w_ hR
 obtain ⟨sf6,sf8,sf21,sf22,sf23,sf39,hst⟩:=rk hR45 hR
 refine W_cond (b:=b44) sf39 (fun hc57=>?_) (fun hc57=>?_)
 have hB16:=(ite_t hc57).symm.trans hB16
 refine sq (mF sf6 rfl (mF sf8 rfl (aV (Pt go12) rfl (aI rfl (nn (W_ret (retG2 (v1:=Pt go12) (v2:=I i_15) Tryz.results38 rfl rfl ?_)))))))
 obtain rfl:=so hB16
 obtain rfl:=so hL16
 obtain rfl:=so hF
 have hst:=hst.gets [1,1,2] rfl
 have hst:=Star.optSome (fun (d_ : Db) (g_ : Nat) (u_ : Value × Value)=>[box g_ 80 #[u_.1,u_.2],oF 54 (rCon 83) u_.1 d_.list,oF 4 RP.bool u_.2 d_.gone]) x9 go12 (uo12_0,uo12_1) hst
 exact ⟨H4,l4,Pt go12,rfl,hst⟩
 have hB16:=(ite_f hc57).symm.trans hB16
 refine W_skip (W_region (L_add rfl sf23 rfl (mI rfl (nn ?_))))
 obtain rfl:=so hB16
 show ∃ m,m < _∧I16 m _ _
 refine ⟨rest16.length,by simp,?_⟩
 exact ij hI16 ⟨i_15 + 1,rest16,rfl,drop_next hd16,by simp at hl16; omega,hL16,sf6,sf21,sf22,(Eq.trans rfl (congrArg (Value.int .i64) (i64_succ (n:=x9.list.length) (by simp at hl16; omega) hlen16))),hst⟩
 rcases suf16 with _ | ⟨_,_⟩
 obtain rfl:=range_nil hL16
 refine W_exit (rj hR16 ⟨rfl,sf6,hst⟩)
 exact absurd (of_decide_eq_false hc17) (by simp at hl16; omega)
 intro f w_ hR
 obtain ⟨rfl,sf6,hst⟩:=rk hR16 hR
 refine sq (mF sf6 rfl (aV (Pt go12) rfl (aI rfl (nn (W_ret (retG2 (v1:=Pt go12) (v2:=I (-1)) Tryz.results38 rfl rfl ?_))))))
 obtain rfl:=so hF
 have hst:=hst.gets [1,1,2] rfl
 have hst:=Star.optSome (fun (d_ : Db) (g_ : Nat) (u_ : Value × Value)=>[box g_ 80 #[u_.1,u_.2],oF 54 (rCon 83) u_.1 d_.list,oF 4 RP.bool u_.2 d_.gone]) x9 go12 (uo12_0,uo12_1) hst
 exact ⟨H4,l4,Pt go12,rfl,hst⟩
theorem i_needed_c {fu : Nat} {list : List Con} {steps : List Step} {v0 : Value} {v1 : Value} {H : FH} {w : World} (hst : Star H w []) (h0 : (rS 54 (rCon 83)).rel H [v0] list) (h1 : (rS 56 (rStep 83)).rel H [v1] steps) {r : (List Bool) × Bool} (hF : i_needed fu list steps = some r) :
 C Tryz.prog 24 #[v0,v1] w fun v w'=>∃ (u1 : Value),v = .tuple #[u1,Bo r.2]∧Star H w' [oF 4 RP.bool u1 r.1]:=by
 unfold i_needed at hF
 refine C_enter Tryz.func24 rfl Tryz.ntmps24 rfl (sq (aV S0 rfl (aB rfl (nq ?_))))
 obtain ⟨x1,hx1,hF⟩:=bind_some hF
 refine W_region (mV v0 rfl (mV v1 rfl (L_call rfl Tryz.call38 (ops2 rfl rfl) (i_refuting_c (list:=list) (steps:=steps) hst h0 h1 hx1) ?_)))
 rintro _ w4 ⟨H4,l4,r4_0,rfl,hst⟩
 refine mV (.tuple #[r4_0,I x1.2]) rfl (L_ex (v:=r4_0) rfl rfl rfl (L_ex (v:=I x1.2) rfl rfl rfl (aV r4_0 rfl (aI rfl (nq (sq (mI rfl (L_lss rfl rfl rfl (nn (W_cond (b:=decide (x1.2 < 0)) rfl (fun hc6=>?_) (fun hc6=>?_)))))))))))
 have hF:=(ite_t hc6).symm.trans hF
 refine sq (aV S0 rfl (aB rfl (nn (W_ret (retG2 (v1:=S0) (v2:=Bo false) Tryz.results24 rfl rfl ?_)))))
 obtain rfl:=so hF
 have hst:=Star.addNil (R:=(OR.frz RP.bool)) (e:=4) hst
 exact ⟨S0,rfl,(Star.down (Star.keepN 1 hst) l4 (co closed_bool c0))⟩
 have hF:=(ite_f hc6).symm.trans hF
 refine W_skip (sq (aV S0 rfl (nq (sq (mV v1 rfl (L_len rfl Tryz.underlying26 rfl (slice_len (RP.mono _ h1 l4)) (mI rfl (nn ?_))))))))
 have hlen11 : List.length steps≤9223372036854775807:=len_le (slice_len (RP.mono _ h1 l4))
 obtain ⟨j11,hL11,hF⟩:=bind_some hF
 obtain ⟨R11,hR11⟩:=exR fun f w_=>∃ by__9 : List Step,∃ v9_by_ : Value,j11 = .nx by__9∧f 0 = v0∧f 6 = r4_0∧f 7 = I x1.2∧f 8 = v9_by_∧Star H4 w_ ([oF 56 (rStep 83) v9_by_ by__9,optA r4_0 x1.1 (fun (d_ : Db) (g_ : Nat) (u_ : Value × Value)=>[box g_ 80 #[u_.1,u_.2],oF 54 (rCon 83) u_.1 d_.list,oF 4 RP.bool u_.2 d_.gone])])
 refine W_join R11 ?_ ?_
 refine W_block ?_
 obtain ⟨I11,hI11⟩:=exI fun n f w_=>∃ i_8 : Nat,∃ suf11 : List Step,∃ by__9 : List Step,∃ v9_by_ : Value,n = suf11.length∧List.drop i_8 steps = suf11∧i_8 + suf11.length = steps.length∧rangeL i_needed_b1 suf11 i_8 by__9 = some j11∧f 0 = v0∧f 6 = r4_0∧f 7 = I x1.2∧f 8 = v9_by_∧f 25 = v1∧f 26 = I (steps.length : Int)∧f 27 = I i_8∧Star H4 w_ ([oF 56 (rStep 83) v9_by_ by__9,optA r4_0 x1.1 (fun (d_ : Db) (g_ : Nat) (u_ : Value × Value)=>[box g_ 80 #[u_.1,u_.2],oF 54 (rCon 83) u_.1 d_.list,oF 4 RP.bool u_.2 d_.gone])])
 have hst:=Star.addNil (R:=(OR.frz (rStep 83))) (e:=56) hst
 refine W_loop I11 (n:=steps.length) ?_ ?_
 exact ij hI11 ⟨0,steps,[],S0,rfl,rfl,Nat.zero_add _,hL11,rfl,rfl,rfl,rfl,rfl,rfl,rfl,hst⟩
 intro n11 f w_ hI
 obtain ⟨i_8,suf11,by__9,v9_by_,rfl,hd11,hl11,hL11,sf0,sf6,sf7,sf8,sf25,sf26,sf27,hst⟩:=ik hI11 hI
 refine sq (L_lss rfl sf27 sf26 (nq (W_cond (b:=decide ((i_8 : Int) < (steps.length : Int))) rfl (fun hc13=>?_) (fun hc13=>?_))))
 have hlt11:=of_decide_eq_true hc13
 rcases suf11 with _ | ⟨x_11,rest11⟩
 exact absurd hlt11 (by simp at hl11; omega)
 obtain ⟨o11,hB11,hL11⟩:=range_cons hL11
 rw [i_needed_b1] at hB11
 have hix11:=drop_idx hd11
 refine W_skip (W_seq (W_block (sq (L_ix (r:=(rStep 83)) rfl Tryz.underlying26 Tryz.sizeOf56 sf25 (RP.mono _ h1 l4) sf27 hix11 (fun g21 o22 cs_g21 hrk_hat23 hat23=>?_)))))
 obtain ⟨u24_0,rfl,hu24_0⟩:=rStep_iff.1 hrk_hat23
 refine L_lda (cs:=[I x_11.kind,I x_11.a,I x_11.b,u24_0,I x_11.given.bound]) rfl Tryz.isAgg56 Tryz.sizeOf56 rfl (At.sub (AtH.at hat23 hst.sub) 0 5) rfl (L_al (cs:=#[I 0,I 0,I 0,S0,I 0]) rfl Tryz.zeroValue56 rfl hst (fun g25 w26 hst=>L_staB (vs:=#[I x_11.kind,I x_11.a,I x_11.b,u24_0,I x_11.given.bound]) (cs2:=#[I x_11.kind,I x_11.a,I x_11.b,u24_0,I x_11.given.bound]) 0 rfl Tryz.sizeOf56 rfl rfl rfl (ones_cons rfl (ones_cons rfl (ones_cons rfl (ones_cons (one_len (slice_len hu24_0)) (ones_cons rfl ones_nil))))) hst rfl (by show 0 + 5≤5; decide) rfl (fun w27 hst=>ns (fA 0 fa_56_0 rfl rfl (ldB 0 hst Tryz.isAgg3 rfl rfl rfl (L_neq rfl rfl rfl (nn ?_)))))))
 obtain ⟨by__28,hA30,hB11⟩:=bind_some hB11
 obtain ⟨R30,hR30⟩:=exR fun f w_=>∃ v28_by_ : Value,f 0 = v0∧f 6 = r4_0∧f 7 = I x1.2∧f 8 = v28_by_∧f 25 = v1∧f 26 = I (steps.length : Int)∧f 27 = I i_8∧Star H4 w_ ([oF 56 (rStep 83) v28_by_ by__28,optA r4_0 x1.1 (fun (d_ : Db) (g_ : Nat) (u_ : Value × Value)=>[box g_ 80 #[u_.1,u_.2],oF 54 (rCon 83) u_.1 d_.list,oF 4 RP.bool u_.2 d_.gone])])
 refine W_join R30 ?_ ?_
 refine W_cond (b:=(x_11.kind != 8)) rfl (fun hc31=>?_) (fun hc31=>?_)
 have hA30:=(ite_t hc31).symm.trans hA30
 obtain ⟨x35,hx35,hA30⟩:=bind_some hA30
 refine W_region (mF sf8 rfl (L_lda (cs:=[I x_11.kind,I x_11.a,I x_11.b,u24_0,I x_11.given.bound]) rfl Tryz.isAgg56 Tryz.sizeOf56 rfl (At.sub0 (Blk.at (Star.blkAt 0 hst rfl)) 0 5) rfl (L_bs rfl (parts1 rfl) (bs_26_1_5 (I x_11.kind) (I x_11.a) (I x_11.b) (u24_0) (I x_11.given.bound) ) hst (fun g39 w40 hst=>?_))))
 have hst:=Star.addF (r:=(rStep 83)) (cs:=[I x_11.kind,I x_11.a,I x_11.b,u24_0,I x_11.given.bound]) (x:=x_11) hst (rStep_iff.2 ⟨_,rfl,hu24_0⟩)
 have hst:=Star.mkRow (R:=(OR.frz (rStep 83))) [([I x_11.kind,I x_11.a,I x_11.b,u24_0,I x_11.given.bound],x_11)] [x_11] 1 hst rfl rfl rfl (by decide)
 have hst:=hst.get 2 rfl
 refine L_appM (v:=v9_by_) (u:=(Sl g39 1 1)) rfl et_26 rfl rfl hst hx35 (fun v42 w43 hst=>aV v42 rfl (nn ?_))
 obtain rfl:=so hA30
 have hst:=hst.gets [2,1] rfl
 exact rj hR30 ⟨v42,sf0,sf6,sf7,rfl,sf25,sf26,sf27,(Star.keepN 2 hst)⟩
 have hA30:=(ite_f hc31).symm.trans hA30
 refine W_skip ?_
 obtain rfl:=so hA30
 have hst:=hst.gets [2,2] rfl
 exact rj hR30 ⟨v9_by_,sf0,sf6,sf7,sf8,sf25,sf26,sf27,(Star.keepN 2 hst)⟩
 intro f w_ hR
 obtain ⟨v28_by_,sf0,sf6,sf7,sf8,sf25,sf26,sf27,hst⟩:=rk hR30 hR
 refine W_region (L_add rfl sf27 rfl (mI rfl (nn ?_)))
 obtain rfl:=so hB11
 show ∃ m,m < _∧I11 m _ _
 refine ⟨rest11.length,by simp,?_⟩
 exact ij hI11 ⟨i_8 + 1,rest11,by__28,v28_by_,rfl,drop_next hd11,by simp at hl11; omega,hL11,sf0,sf6,sf7,sf8,sf25,sf26,(Eq.trans rfl (congrArg (Value.int .i64) (i64_succ (n:=steps.length) (by simp at hl11; omega) hlen11))),hst⟩
 rcases suf11 with _ | ⟨_,_⟩
 obtain rfl:=range_nil hL11
 refine W_exit (rj hR11 ⟨by__9,v9_by_,rfl,sf0,sf6,sf7,sf8,hst⟩)
 exact absurd (of_decide_eq_false hc13) (by simp at hl11; omega)
 intro f w_ hR
 obtain ⟨by__9,v9_by_,rfl,sf0,sf6,sf7,sf8,hst⟩:=rk hR11 hR
 refine W_seq ?_
 obtain ⟨x46,hx46,hF⟩:=bind_some hF
 obtain ⟨x49,hx49,hF⟩:=bind_some hF
 refine W_region (mF sf6 rfl ?_)
 have hst:=hst.get 1 rfl
 obtain ⟨go53,⟨uo53_0,uo53_1⟩,hvo53,hst⟩:=Star.unopt hx46 hst
 have hst : Star H4 w_ ([box go53 80 #[uo53_0,uo53_1],oF 54 (rCon 83) uo53_0 x46.list,oF 4 RP.bool uo53_1 x46.gone,oF 56 (rStep 83) v9_by_ by__9]):=hst
 refine L_nc rfl hvo53 (fA 0 fa_80_0 rfl rfl (ldB 0 hst Tryz.isAgg29 rfl rfl rfl (L_len rfl Tryz.underlying29 rfl (Star.len 1 hst rfl) (L_mk (R:=(OR.frz RP.bool)) (z0:=false) (zc:=[Bo false]) rfl et_45 (by kernel_rfl) (fun _ _=>⟨rfl,rfl⟩) rfl rfl hx49 hst (fun v56 w57 hst=>aV v56 rfl (nq ?_))))))
 obtain ⟨x59,hx59,hF⟩:=bind_some hF
 refine W_region (mV v56 rfl (mF sf7 rfl ?_))
 obtain ⟨g63,cap_g63,hv64,_,_⟩:=Star.row 0 hst rfl hx59
 refine L_ixO (R:=(OR.frz RP.bool)) (tb:=0) 0 rfl Tryz.underlying45 Tryz.sizeOf4 rfl hv64 (by first | rfl | simp) rfl hx59 ?_
 have hst:=Star.addF (r:=RP.bool) (cs:=[Bo true]) (x:=true) hst rfl
 refine L_stE1 (u:=Bo true) rfl Tryz.sizeOf4 rfl rfl rfl hv64 hst hx59 (fun w65 hst=>nq (sq (mF (Eq.trans sf6 hvo53) rfl (L_nc rfl rfl (fA 0 fa_80_0 rfl rfl (ldB 1 hst Tryz.isAgg29 rfl rfl rfl (L_len rfl Tryz.underlying29 rfl (Star.len 2 hst rfl) (L_sub rfl rfl rfl (aI rfl (nn ?_))))))))))
 obtain ⟨j69,hL69,hF⟩:=bind_some hF
 obtain ⟨R69,hR69⟩:=exR fun f w_=>∃ out_67 : List Bool,∃ i_68 : Int,j69 = .nx (out_67,i_68)∧f 11 = v56∧Star H4 w_ ([oF 4 RP.bool v56 out_67])
 refine W_join R69 ?_ ?_
 refine W_block ?_
 obtain ⟨I69,hI69⟩:=exI fun n f w_=>∃ out_67 : List Bool,∃ i_68 : Int,whileL (i_needed_b2 list by__9) n (out_67,i_68) = some j69∧f 0 = v0∧f 8 = v9_by_∧f 11 = v56∧f 12 = I i_68∧Star H4 w_ ([oF 56 (rStep 83) v9_by_ by__9,oF 4 RP.bool v56 out_67])
 have hst:=hst.get 4 rfl
 refine W_loop I69 (n:=fu) ?_ ?_
 exact ij hI69 ⟨(x49.set (Int.toNat x1.2) true),i64 ((x46.list.length : Int) - 1),hL69,sf0,sf8,rfl,rfl,(Star.keepN 2 hst)⟩
 intro n69 f w_ hI
 obtain ⟨out_67,i_68,hL69,sf0,sf8,sf11,sf12,hst⟩:=ik hI69 hI
 rcases n69 with _ | n69
 exact (while_zero hL69).elim
 obtain ⟨o69,hB69,hL69⟩:=while_succ hL69
 rw [i_needed_b2] at hB69
 refine W_seq (sq (mF sf12 rfl (mF sf0 rfl (L_len rfl Tryz.underlying29 rfl (slice_len (RP.mono _ h0 l4)) (L_geq rfl rfl rfl (nn (W_cond (b:=decide (i_68 ≥ (list.length : Int))) rfl (fun hc70=>?_) (fun hc70=>?_))))))))
 have hB69:=(ite_t hc70).symm.trans hB69
 refine W_skip (W_seq (W_block (W_seq ?_)))
 obtain ⟨x71,hx71,hB69⟩:=bind_some hB69
 refine W_region (mF sf8 rfl (mF sf12 rfl (mF sf0 rfl (L_len rfl Tryz.underlying29 rfl (slice_len (RP.mono _ h0 l4)) (L_sub rfl rfl rfl ?_)))))
 obtain ⟨g79,cap_g79,hv80,_,_⟩:=Star.row 0 hst rfl hx71
 refine L_ixO (R:=(OR.frz (rStep 83))) (tb:=0) 0 rfl Tryz.underlying26 Tryz.sizeOf56 rfl hv80 (by first | rfl | simp) rfl hx71 ?_
 obtain ⟨cs81,hr81,hat81⟩:=Star.eltF 0 hst rfl hv80 hx71
 obtain ⟨u82_0,rfl,hu82_0⟩:=rStep_iff.1 hr81
 refine L_lda (cs:=[I x71.kind,I x71.a,I x71.b,u82_0,I x71.given.bound]) rfl Tryz.isAgg56 Tryz.sizeOf56 rfl (At.sub hat81 0 5) rfl (L_al (cs:=#[I 0,I 0,I 0,S0,I 0]) rfl Tryz.zeroValue56 rfl hst (fun g83 w84 hst=>L_staB (vs:=#[I x71.kind,I x71.a,I x71.b,u82_0,I x71.given.bound]) (cs2:=#[I x71.kind,I x71.a,I x71.b,u82_0,I x71.given.bound]) 0 rfl Tryz.sizeOf56 rfl rfl rfl (ones_cons rfl (ones_cons rfl (ones_cons rfl (ones_cons (one_len (slice_len hu82_0)) (ones_cons rfl ones_nil))))) hst rfl (by show 0 + 5≤5; decide) rfl (fun w85 hst=>nq ?_)))
 obtain ⟨x91,hx91,hB69⟩:=bind_some hB69
 refine W_region (fA 0 fa_56_0 rfl rfl (ldB 0 hst Tryz.isAgg3 rfl rfl rfl ?_))
 obtain ⟨H93b,l94,s95,z96,k97⟩:=hst.borrow
 refine L_call rfl Tryz.call25 (ops1 rfl) (i_refers_c (kind:=x71.kind) s95 hx91) ?_
 rintro _ w98 ⟨rfl,hst⟩
 have hst:=k97 hst c0
 refine mV (.tuple #[I x91.1,Bo x91.2]) rfl (L_ex (v:=I x91.1) rfl rfl rfl (L_ex (v:=Bo x91.2) rfl rfl rfl (aI rfl (aB rfl (nn (W_block (W_seq ?_)))))))
 obtain ⟨x99,hx99,hB69⟩:=bind_some hB69
 refine W_region (mF sf11 rfl (mF sf12 rfl ?_))
 obtain ⟨g104,cap_g104,hv105,_,_⟩:=Star.row 2 hst rfl hx99
 refine L_ixO (R:=(OR.frz RP.bool)) (tb:=0) 0 rfl Tryz.underlying45 Tryz.sizeOf4 rfl hv105 (by first | rfl | simp) rfl hx99 ?_
 obtain ⟨cs106,hr106,hat106⟩:=Star.eltF 2 hst rfl hv105 hx99
 obtain rfl : _ = [_]:=hr106
 refine L_ld rfl Tryz.isAgg4 rfl (At.cell hat106 (j:=0) rfl) (L_not_ rfl rfl (aB rfl (nn ?_)))
 obtain ⟨out_108,hA109,hB69⟩:=bind_some hB69
 obtain ⟨R109,hR109⟩:=exR fun f w_=>f 0 = v0∧f 8 = v9_by_∧f 11 = v56∧f 12 = I i_68∧Star H4 w_ ([oF 56 (rStep 83) v9_by_ by__9,oF 4 RP.bool v56 out_108])
 refine W_join R109 ?_ ?_
 refine W_cond (b:=(!x99)) rfl (fun hc110=>?_) (fun hc110=>?_)
 have hA109:=(ite_t hc110).symm.trans hA109
 refine W_skip ?_
 obtain rfl:=so hA109
 have hst:=hst.gets [2,2] rfl
 exact rj hR109 ⟨sf0,sf8,sf11,sf12,(Star.keepN 2 hst)⟩
 have hA109:=(ite_f hc110).symm.trans hA109
 refine sq (fA 0 fa_56_0 rfl rfl (ldB 0 hst Tryz.isAgg3 rfl rfl rfl (L_eql rfl rfl rfl (aB rfl (nn ?_)))))
 obtain ⟨out_111,hA112,hA109⟩:=bind_some hA109
 obtain ⟨R112,hR112⟩:=exR fun f w_=>f 0 = v0∧f 8 = v9_by_∧f 11 = v56∧f 12 = I i_68∧Star H4 w_ ([oF 56 (rStep 83) v9_by_ by__9,oF 4 RP.bool v56 out_111])
 refine W_join R112 ?_ ?_
 refine W_cond (b:=(x71.kind == 7)) rfl (fun hc113=>?_) (fun hc113=>?_)
 have hA112:=(ite_t hc113).symm.trans hA112
 refine sq (mF sf12 rfl (mI rfl (nn ?_)))
 obtain ⟨k117,hk117,hA112⟩:=bind_some hA112
 obtain ⟨j116,hL116,hA112⟩:=bind_some hA112
 obtain ⟨R116,hR116⟩:=exR fun f w_=>∃ out_115 : List Bool,j116 = .nx out_115∧f 0 = v0∧f 8 = v9_by_∧f 11 = v56∧f 12 = I i_68∧Star H4 w_ ([oF 56 (rStep 83) v9_by_ by__9,oF 4 RP.bool v56 out_115])
 refine W_join R116 ?_ ?_
 refine W_block ?_
 obtain ⟨I116,hI116⟩:=exI fun n f w_=>∃ i_114 : Nat,∃ suf116 : Nat,∃ out_115 : List Bool,suf116 = n∧0≤i_114∧i_114 + suf116 = 0 + k117∧countL i_needed_b3 suf116 i_114 out_115 = some j116∧f 0 = v0∧f 8 = v9_by_∧f 11 = v56∧f 12 = I i_68∧f 83 = I i_68∧f 84 = I i_114∧Star H4 w_ ([oF 56 (rStep 83) v9_by_ by__9,oF 4 RP.bool v56 out_115])
 have hst:=hst.gets [2,2] rfl
 refine W_loop I116 (n:=k117) ?_ ?_
 exact ij hI116 ⟨0,k117,out_67,rfl,Nat.le_refl _,rfl,hL116,sf0,sf8,sf11,sf12,rfl,rfl,(Star.keepN 2 hst)⟩
 intro n116 f w_ hI
 obtain ⟨i_114,suf116,out_115,rfl,hs116,hl116,hL116,sf0,sf8,sf11,sf12,sf83,sf84,hst⟩:=ik hI116 hI
 refine sq (L_lss rfl sf84 sf83 (nq (W_cond (b:=decide ((i_114 : Int) < i_68)) rfl (fun hc118=>?_) (fun hc118=>?_))))
 have hlt116:=of_decide_eq_true hc118
 rcases suf116 with _ | rest116
 exact absurd hlt116 (cntF_no hl116 hk117)
 obtain ⟨o116,hB116,hL116⟩:=count_succ hL116
 rw [i_needed_b3] at hB116
 refine W_skip (W_seq (W_block (sq (mF sf84 rfl (aI rfl (nn ?_))))))
 obtain ⟨x119,hx119,hB116⟩:=bind_some hB116
 refine W_region (mF sf11 rfl (mI rfl ?_))
 obtain ⟨g123,cap_g123,hv124,_,_⟩:=Star.row 1 hst rfl hx119
 refine L_ixO (R:=(OR.frz RP.bool)) (tb:=0) 0 rfl Tryz.underlying45 Tryz.sizeOf4 rfl hv124 (by first | rfl | simp) rfl hx119 ?_
 have hst:=Star.addF (r:=RP.bool) (cs:=[Bo true]) (x:=true) hst rfl
 have hst:=hst.gets [2,1] rfl
 refine L_stE1 (u:=Bo true) rfl Tryz.sizeOf4 rfl rfl rfl hv124 hst hx119 (fun w125 hst=>nn (W_region (L_add rfl sf84 rfl (mI rfl (nn ?_)))))
 obtain rfl:=so hB116
 have hst:=hst.get 1 rfl
 show ∃ m,m < _∧I116 m _ _
 refine ⟨rest116,Nat.lt_succ_self _,?_⟩
 exact ij hI116 ⟨i_114 + 1,rest116,(out_115.set (Int.toNat (i_114 : Int)) true),rfl,by omega,by omega,hL116,sf0,sf8,sf11,sf12,sf83,(Eq.trans rfl (congrArg (Value.int .i64) (i64_succ (n:=0 + k117) (by omega) (cntF_le hk117)))),hst⟩
 rcases suf116 with _ | _
 obtain rfl:=count_zero hL116
 refine W_exit (rj hR116 ⟨out_115,rfl,sf0,sf8,sf11,sf12,hst⟩)
 exact absurd (cntF_yes hs116 hl116 hk117) (of_decide_eq_false hc118)
 intro f w_ hR
 obtain ⟨out_115,rfl,sf0,sf8,sf11,sf12,hst⟩:=rk hR116 hR
 obtain rfl:=so hA112
 exact rj hR112 ⟨sf0,sf8,sf11,sf12,hst⟩
 have hA112:=(ite_f hc113).symm.trans hA112
 refine sq (mI rfl (L_gtr rfl rfl rfl (aB rfl (nn ?_))))
 obtain ⟨out_126,hA127,hA112⟩:=bind_some hA112
 obtain ⟨R127,hR127⟩:=exR fun f w_=>f 0 = v0∧f 8 = v9_by_∧f 11 = v56∧f 12 = I i_68∧Star H4 w_ ([oF 56 (rStep 83) v9_by_ by__9,oF 4 RP.bool v56 out_126])
 refine W_join R127 ?_ ?_
 refine W_cond (b:=decide (x91.1 > 0)) rfl (fun hc128=>?_) (fun hc128=>?_)
 have hA127:=(ite_t hc128).symm.trans hA127
 refine W_seq ?_
 obtain ⟨x129,hx129,hA127⟩:=bind_some hA127
 refine W_region (mF sf11 rfl (fA 1 fa_56_1 rfl rfl (ldB 0 hst Tryz.isAgg3 rfl rfl rfl (L_ixO (R:=(OR.frz RP.bool)) (tb:=0) 0 rfl Tryz.underlying45 Tryz.sizeOf4 rfl hv105 (by first | rfl | simp) rfl hx129 ?_))))
 have hst:=Star.addF (r:=RP.bool) (cs:=[Bo true]) (x:=true) hst rfl
 have hst:=hst.gets [3,1] rfl
 refine L_stE1 (u:=Bo true) rfl Tryz.sizeOf4 rfl rfl rfl hv105 hst hx129 (fun w131 hst=>ns (mI rfl (L_gtr rfl rfl rfl (nn ?_))))
 obtain ⟨out_132,hA133,hA127⟩:=bind_some hA127
 obtain ⟨R133,hR133⟩:=exR fun f w_=>f 0 = v0∧f 8 = v9_by_∧f 11 = v56∧f 12 = I i_68∧Star H4 w_ ([oF 56 (rStep 83) v9_by_ by__9,oF 4 RP.bool v56 out_132])
 refine W_join R133 ?_ ?_
 refine W_cond (b:=decide (x91.1 > 1)) rfl (fun hc134=>?_) (fun hc134=>?_)
 have hA133:=(ite_t hc134).symm.trans hA133
 obtain ⟨x135,hx135,hA133⟩:=bind_some hA133
 refine W_region (mF sf11 rfl (fA 2 fa_56_2 rfl rfl (ldB 1 hst Tryz.isAgg3 rfl rfl rfl (L_ixO (R:=(OR.frz RP.bool)) (tb:=0) 0 rfl Tryz.underlying45 Tryz.sizeOf4 rfl hv105 (by first | rfl | simp) rfl hx135 ?_))))
 have hst:=Star.addF (r:=RP.bool) (cs:=[Bo true]) (x:=true) hst rfl
 refine L_stE1 (u:=Bo true) rfl Tryz.sizeOf4 rfl rfl rfl hv105 hst hx135 (fun w137 hst=>nn ?_)
 obtain rfl:=so hA133
 have hst:=hst.get 2 rfl
 exact rj hR133 ⟨sf0,sf8,sf11,sf12,(Star.keepN 2 hst)⟩
 have hA133:=(ite_f hc134).symm.trans hA133
 refine W_skip ?_
 obtain rfl:=so hA133
 have hst:=hst.get 2 rfl
 exact rj hR133 ⟨sf0,sf8,sf11,sf12,(Star.keepN 2 hst)⟩
 intro f w_ hR
 obtain ⟨sf0,sf8,sf11,sf12,hst⟩:=rk hR133 hR
 obtain rfl:=so hA127
 exact rj hR127 ⟨sf0,sf8,sf11,sf12,hst⟩
 have hA127:=(ite_f hc128).symm.trans hA127
 refine W_skip ?_
 obtain rfl:=so hA127
 have hst:=hst.gets [2,2] rfl
 exact rj hR127 ⟨sf0,sf8,sf11,sf12,(Star.keepN 2 hst)⟩
 intro f w_ hR
 obtain ⟨sf0,sf8,sf11,sf12,hst⟩:=rk hR127 hR
 obtain rfl:=so hA112
 exact rj hR112 ⟨sf0,sf8,sf11,sf12,hst⟩
 intro f w_ hR
 obtain ⟨sf0,sf8,sf11,sf12,hst⟩:=rk hR112 hR
 obtain rfl:=so hA109
 exact rj hR109 ⟨sf0,sf8,sf11,sf12,hst⟩
 intro f w_ hR
 obtain ⟨sf0,sf8,sf11,sf12,hst⟩:=rk hR109 hR
 refine W_region (mF sf12 rfl (L_sub rfl rfl rfl (aI rfl (nn ?_))))
 obtain rfl:=so hB69
 show ∃ m,m < _∧I69 m _ _
 refine ⟨n69,Nat.lt_succ_self _,?_⟩
 exact ij hI69 ⟨out_108,i64 (i_68 - 1),hL69,sf0,sf8,sf11,rfl,hst⟩
 have hB69:=(ite_f hc70).symm.trans hB69
 refine W_exit ?_
 obtain rfl:=so hB69
 obtain rfl:=so hL69
 have hst:=hst.get 1 rfl
 exact rj hR69 ⟨out_67,i_68,rfl,sf11,(Star.keepN 1 hst)⟩
 intro f w_ hR
 obtain ⟨out_67,i_68,rfl,sf11,hst⟩:=rk hR69 hR
 refine sq (mF sf11 rfl (aV v56 rfl (aB rfl (nn (W_ret (retG2 (v1:=v56) (v2:=Bo true) Tryz.results24 rfl rfl ?_))))))
 obtain rfl:=so hF
 exact ⟨v56,rfl,(Star.down hst l4 (co closed_bool c0))⟩
theorem i_TrimProof_c {fu : Nat} {list : List Con} {steps : List Step} {v0 : Value} {v1 : Value} {H : FH} {w : World} (hst : Star H w []) (h0 : (rS 54 (rCon 83)).rel H [v0] list) (h1 : (rS 56 (rStep 83)).rel H [v1] steps) {r : (List Step) × Bool} (hF : i_TrimProof fu list steps = some r) :
 C Tryz.prog 9 #[v0,v1] w fun v w'=>∃ (u1 : Value),v = .tuple #[u1,Bo r.2]∧Star H w' [oS 56 (oStep 83) u1 r.1]:=by
 unfold i_TrimProof at hF
 refine C_enter Tryz.func9 rfl Tryz.ntmps9 rfl (sq (aV S0 rfl (aB rfl (nq ?_))))
 obtain ⟨x6,hx6,hF⟩:=bind_some hF
 refine W_region (mV v0 rfl (mV v1 rfl ?_))
 obtain ⟨H9b,l10,s11,z12,k13⟩:=hst.borrow
 refine L_call rfl Tryz.call24 (ops2 rfl rfl) (i_needed_c (list:=list) (steps:=steps) s11 (RP.mono _ h0 l10) (RP.mono _ h1 l10) hx6) ?_
 rintro _ w14 ⟨r14_0,rfl,hst⟩
 have hst:=k13 hst (co closed_bool c0)
 refine mV (.tuple #[r14_0,Bo x6.2]) rfl (L_ex (v:=r14_0) rfl rfl rfl (L_ex (v:=Bo x6.2) rfl rfl rfl (aV r14_0 rfl (aB rfl (nq (sq (mB rfl (L_not_ rfl rfl (nn (W_cond (b:=(!x6.2)) rfl (fun hc16=>?_) (fun hc16=>?_)))))))))))
 have hF:=(ite_t hc16).symm.trans hF
 refine sq (aV S0 rfl (aB rfl (nn (W_ret (retG2 (v1:=S0) (v2:=Bo false) Tryz.results9 rfl rfl ?_)))))
 obtain rfl:=so hF
 have hst:=Star.addNil (R:=(oStep 83)) (e:=56) hst
 exact ⟨S0,rfl,(Star.keepN 1 hst)⟩
 have hF:=(ite_f hc16).symm.trans hF
 refine W_skip (sq (aV S0 rfl (nq (sq (mV v0 rfl (L_len rfl Tryz.underlying29 rfl (slice_len h0) (mI rfl (nn ?_))))))))
 have hlen21 : List.length list≤9223372036854775807:=len_le (slice_len h0)
 obtain ⟨j21,hL21,hF⟩:=bind_some hF
 obtain ⟨R21,hR21⟩:=exR fun f w_=>∃ place_19 : List Int,∃ v19_place : Value,j21 = .nx place_19∧f 0 = v0∧f 1 = v1∧f 6 = r14_0∧f 8 = v19_place∧Star H w_ ([oF 4 RP.bool r14_0 x6.1,oF 3 RP.int v19_place place_19])
 refine W_join R21 ?_ ?_
 refine W_block ?_
 obtain ⟨I21,hI21⟩:=exI fun n f w_=>∃ i_18 : Nat,∃ suf21 : List Con,∃ place_19 : List Int,∃ v19_place : Value,n = suf21.length∧List.drop i_18 list = suf21∧i_18 + suf21.length = list.length∧rangeL i_TrimProof_b1 suf21 i_18 place_19 = some j21∧f 0 = v0∧f 1 = v1∧f 6 = r14_0∧f 8 = v19_place∧f 26 = I (list.length : Int)∧f 27 = I i_18∧Star H w_ ([oF 4 RP.bool r14_0 x6.1,oF 3 RP.int v19_place place_19])
 have hst:=Star.addNil (R:=(OR.frz RP.int)) (e:=3) hst
 have hst:=hst.get 1 rfl
 refine W_loop I21 (n:=list.length) ?_ ?_
 exact ij hI21 ⟨0,list,[],S0,rfl,rfl,Nat.zero_add _,hL21,rfl,rfl,rfl,rfl,rfl,rfl,hst⟩
 intro n21 f w_ hI
 obtain ⟨i_18,suf21,place_19,v19_place,rfl,hd21,hl21,hL21,sf0,sf1,sf6,sf8,sf26,sf27,hst⟩:=ik hI21 hI
 refine sq (L_lss rfl sf27 sf26 (nq (W_cond (b:=decide ((i_18 : Int) < (list.length : Int))) rfl (fun hc23=>?_) (fun hc23=>?_))))
 have hlt21:=of_decide_eq_true hc23
 rcases suf21 with _ | ⟨x_21,rest21⟩
 exact absurd hlt21 (by simp at hl21; omega)
 obtain ⟨o21,hB21,hL21⟩:=range_cons hL21
 rw [i_TrimProof_b1] at hB21
 have hix21:=drop_idx hd21
 refine W_skip (W_seq (W_block (sq (mF sf27 rfl (aI rfl (nn ?_))))))
 obtain ⟨x27,hx27,hB21⟩:=bind_some hB21
 refine W_region (mF sf8 rfl (mI rfl (L_bs rfl (parts1 rfl) (bs_51_1_0 (I i_18) rfl) hst (fun g31 w32 hst=>?_))))
 have hst:=Star.addF (r:=RP.int) (cs:=[I i_18]) (x:=(i_18 : Int)) hst rfl
 have hst:=Star.mkRow (R:=(OR.frz RP.int)) [([I i_18],(i_18 : Int))] [(i_18 : Int)] 1 hst rfl rfl rfl (by decide)
 have hst:=hst.get 2 rfl
 refine L_appM (v:=v19_place) (u:=(Sl g31 1 1)) rfl et_51 rfl rfl hst hx27 (fun v34 w35 hst=>aV v34 rfl (nn (W_region (L_add rfl sf27 rfl (mI rfl (nn ?_))))))
 obtain rfl:=so hB21
 have hst:=hst.get 1 rfl
 show ∃ m,m < _∧I21 m _ _
 refine ⟨rest21.length,by simp,?_⟩
 exact ij hI21 ⟨i_18 + 1,rest21,x27,v34,rfl,drop_next hd21,by simp at hl21; omega,hL21,sf0,sf1,sf6,rfl,sf26,(Eq.trans rfl (congrArg (Value.int .i64) (i64_succ (n:=list.length) (by simp at hl21; omega) hlen21))),hst⟩
 rcases suf21 with _ | ⟨_,_⟩
 obtain rfl:=range_nil hL21
 refine W_exit (rj hR21 ⟨place_19,v19_place,rfl,sf0,sf1,sf6,sf8,hst⟩)
 exact absurd (of_decide_eq_false hc23) (by simp at hl21; omega)
 intro f w_ hR
 obtain ⟨place_19,v19_place,rfl,sf0,sf1,sf6,sf8,hst⟩:=rk hR21 hR
 refine sq (aV S0 rfl (nq (sq (mF sf1 rfl (L_len rfl Tryz.underlying26 rfl (slice_len h1) (mI rfl (nn ?_)))))))
 have hlen42 : List.length steps≤9223372036854775807:=len_le (slice_len h1)
 obtain ⟨j42,hL42,hF⟩:=bind_some hF
 obtain ⟨R42,hR42⟩:=exR fun f w_=>∃ place_38 : List Int,∃ out_40 : List Step,∃ v40_out : Value,j42 = .nx (place_38,out_40)∧f 10 = v40_out∧Star H w_ ([oS 56 (oStep 83) v40_out out_40])
 refine W_join R42 ?_ ?_
 refine W_block ?_
 obtain ⟨I42,hI42⟩:=exI fun n f w_=>∃ i_37 : Nat,∃ suf42 : List Step,∃ place_38 : List Int,∃ out_40 : List Step,∃ v38_place v40_out : Value,n = suf42.length∧List.drop i_37 steps = suf42∧i_37 + suf42.length = steps.length∧rangeL (i_TrimProof_b2 list x6) suf42 i_37 (place_38,out_40) = some j42∧f 0 = v0∧f 6 = r14_0∧f 8 = v38_place∧f 10 = v40_out∧f 35 = v1∧f 36 = I (steps.length : Int)∧f 37 = I i_37∧Star H w_ ([oF 4 RP.bool r14_0 x6.1,oF 3 RP.int v38_place place_38,oS 56 (oStep 83) v40_out out_40])
 have hst:=Star.addNil (R:=(oStep 83)) (e:=56) hst
 have hst:=hst.gets [2,2] rfl
 refine W_loop I42 (n:=steps.length) ?_ ?_
 exact ij hI42 ⟨0,steps,place_19,[],v19_place,S0,rfl,rfl,Nat.zero_add _,hL42,sf0,sf6,sf8,rfl,rfl,rfl,rfl,hst⟩
 intro n42 f w_ hI
 obtain ⟨i_37,suf42,place_38,out_40,v38_place,v40_out,rfl,hd42,hl42,hL42,sf0,sf6,sf8,sf10,sf35,sf36,sf37,hst⟩:=ik hI42 hI
 refine sq (L_lss rfl sf37 sf36 (nq (W_cond (b:=decide ((i_37 : Int) < (steps.length : Int))) rfl (fun hc44=>?_) (fun hc44=>?_))))
 have hlt42:=of_decide_eq_true hc44
 rcases suf42 with _ | ⟨x_42,rest42⟩
 exact absurd hlt42 (by simp at hl42; omega)
 obtain ⟨o42,hB42,hL42⟩:=range_cons hL42
 rw [i_TrimProof_b2] at hB42
 have hix42:=drop_idx hd42
 refine W_skip (W_seq ?_)
 obtain ⟨j49,hA49,hB42⟩:=bind_some hB42
 obtain ⟨R49,hR49⟩:=exR fun f w_=>∃ place_45 : List Int,∃ out_47 : List Step,∃ v45_place v47_out : Value,j49 = .nx (place_45,out_47)∧f 0 = v0∧f 6 = r14_0∧f 8 = v45_place∧f 10 = v47_out∧f 35 = v1∧f 36 = I (steps.length : Int)∧f 37 = I i_37∧Star H w_ ([oF 4 RP.bool r14_0 x6.1,oF 3 RP.int v45_place place_45,oS 56 (oStep 83) v47_out out_47])
 refine W_join R49 ?_ ?_
 refine W_block (sq (L_ix (r:=(rStep 83)) rfl Tryz.underlying26 Tryz.sizeOf56 sf35 h1 sf37 hix42 (fun g57 o58 cs_g57 hrk_hat59 hat59=>?_)))
 obtain ⟨u60_0,rfl,hu60_0⟩:=rStep_iff.1 hrk_hat59
 refine L_lda (cs:=[I x_42.kind,I x_42.a,I x_42.b,u60_0,I x_42.given.bound]) rfl Tryz.isAgg56 Tryz.sizeOf56 rfl (At.sub (AtH.at hat59 hst.sub) 0 5) rfl (L_al (cs:=#[I 0,I 0,I 0,S0,I 0]) rfl Tryz.zeroValue56 rfl hst (fun g61 w62 hst=>L_staB (vs:=#[I x_42.kind,I x_42.a,I x_42.b,u60_0,I x_42.given.bound]) (cs2:=#[I x_42.kind,I x_42.a,I x_42.b,u60_0,I x_42.given.bound]) 0 rfl Tryz.sizeOf56 rfl rfl rfl (ones_cons rfl (ones_cons rfl (ones_cons rfl (ones_cons (one_len (slice_len hu60_0)) (ones_cons rfl ones_nil))))) hst rfl (by show 0 + 5≤5; decide) rfl (fun w63 hst=>nq (sq (fA 0 fa_56_0 rfl rfl (ldB 0 hst Tryz.isAgg3 rfl rfl rfl (L_eql rfl rfl rfl (nn (W_cond (b:=(x_42.kind == 8)) rfl (fun hc64=>?_) (fun hc64=>?_))))))))))
 have hA49:=(ite_t hc64).symm.trans hA49
 refine W_exit ?_
 obtain rfl:=so hA49
 have hst:=hst.gets [3,3,3] rfl
 exact rj hR49 ⟨place_38,out_40,v38_place,v40_out,rfl,sf0,sf6,sf8,sf10,sf35,sf36,sf37,(Star.keepN 3 hst)⟩
 have hA49:=(ite_f hc64).symm.trans hA49
 refine W_skip (sq (mF sf0 rfl (L_len rfl Tryz.underlying29 rfl (slice_len h0) (mF sf10 rfl (L_len rfl Tryz.underlying26 rfl (Star.len 3 hst rfl) (L_add rfl rfl rfl (aI rfl (nq ?_))))))))
 obtain ⟨x65,hx65,hA49⟩:=bind_some hA49
 refine W_region (mF sf6 rfl (mF sf8 rfl (L_len rfl Tryz.underlying51 rfl (Star.len 2 hst rfl) ?_)))
 obtain ⟨g70,cap_g70,hv71,_,_⟩:=Star.row 1 hst rfl hx65
 refine L_ixO (R:=(OR.frz RP.bool)) (tb:=0) 0 rfl Tryz.underlying45 Tryz.sizeOf4 rfl hv71 (by first | rfl | simp) rfl hx65 ?_
 obtain ⟨cs72,hr72,hat72⟩:=Star.eltF 1 hst rfl hv71 hx65
 obtain rfl : _ = [_]:=hr72
 refine L_ld rfl Tryz.isAgg4 rfl (At.cell hat72 (j:=0) rfl) (aB rfl (nq ?_))
 obtain ⟨x77,hx77,hA49⟩:=bind_some hA49
 refine W_region (mF sf8 rfl (mI rfl (L_bs rfl (parts1 rfl) (bs_51_1_0 (I (i64 ((list.length : Int) + (out_40.length : Int)))) rfl) hst (fun g81 w82 hst=>?_))))
 have hst:=Star.addF (r:=RP.int) (cs:=[I (i64 ((list.length : Int) + (out_40.length : Int)))]) (x:=(i64 ((list.length : Int) + (out_40.length : Int)))) hst rfl
 have hst:=Star.mkRow (R:=(OR.frz RP.int)) [([I (i64 ((list.length : Int) + (out_40.length : Int)))],i64 ((list.length : Int) + (out_40.length : Int)))] [i64 ((list.length : Int) + (out_40.length : Int))] 1 hst rfl rfl rfl (by decide)
 have hst:=hst.get 3 rfl
 refine L_appM (v:=v38_place) (u:=(Sl g81 1 1)) rfl et_51 rfl rfl hst hx77 (fun v84 w85 hst=>aV v84 rfl (nq (sq (mB rfl (L_not_ rfl rfl (nn (W_cond (b:=(!x65)) rfl (fun hc87=>?_) (fun hc87=>?_))))))))
 have hA49:=(ite_t hc87).symm.trans hA49
 refine W_exit ?_
 obtain rfl:=so hA49
 have hst:=hst.gets [3,1,3] rfl
 exact rj hR49 ⟨x77,out_40,v84,v40_out,rfl,sf0,sf6,rfl,sf10,sf35,sf36,sf37,(Star.keepN 3 hst)⟩
 have hA49:=(ite_f hc87).symm.trans hA49
 refine W_skip (W_seq ?_)
 obtain ⟨x93,hx93,hA49⟩:=bind_some hA49
 refine W_region (fA 0 fa_56_0 rfl rfl (ldB 1 hst Tryz.isAgg3 rfl rfl rfl ?_))
 obtain ⟨H95b,l96,s97,z98,k99⟩:=hst.borrow
 refine L_call rfl Tryz.call25 (ops1 rfl) (i_refers_c (kind:=x_42.kind) s97 hx93) ?_
 rintro _ w100 ⟨rfl,hst⟩
 have hst:=k99 hst c0
 refine mV (.tuple #[I x93.1,Bo x93.2]) rfl (L_ex (v:=I x93.1) rfl rfl rfl (L_ex (v:=Bo x93.2) rfl rfl rfl (aI rfl (aB rfl (nq (sq (mI rfl (L_gtr rfl rfl rfl (nn ?_)))))))))
 obtain ⟨g61_1_101,hA102,hA49⟩:=bind_some hA49
 obtain ⟨R102,hR102⟩:=exR fun f w_=>f 0 = v0∧f 6 = r14_0∧f 8 = v84∧f 10 = v40_out∧f 12 = Pt g61∧f 15 = I x93.1∧f 35 = v1∧f 36 = I (steps.length : Int)∧f 37 = I i_37∧Star H w_ ([oF 4 RP.bool r14_0 x6.1,oF 3 RP.int v84 x77,oS 56 (oStep 83) v40_out out_40,box g61 56 #[I x_42.kind,I g61_1_101,I x_42.b,u60_0,I x_42.given.bound]])
 refine W_join R102 ?_ ?_
 refine W_cond (b:=decide (x93.1 > 0)) rfl (fun hc103=>?_) (fun hc103=>?_)
 have hA102:=(ite_t hc103).symm.trans hA102
 obtain ⟨x104,hx104,hA102⟩:=bind_some hA102
 refine W_region (mV v84 rfl (fA 1 fa_56_1 rfl rfl (ldB 1 hst Tryz.isAgg3 rfl rfl rfl ?_)))
 obtain ⟨g110,cap_g110,hv111,_,_⟩:=Star.row 0 hst rfl hx104
 refine L_ixO (R:=(OR.frz RP.int)) (tb:=0) 0 rfl Tryz.underlying51 Tryz.sizeOf3 rfl hv111 (by first | rfl | simp) rfl hx104 ?_
 obtain ⟨cs112,hr112,hat112⟩:=Star.eltF 0 hst rfl hv111 hx104
 obtain rfl : _ = [_]:=hr112
 refine L_ld rfl Tryz.isAgg3 rfl (At.cell hat112 (j:=0) rfl) (fA 1 fa_56_1 rfl rfl (L_stB (v:=I x104) (cs2:=#[I x_42.kind,I x104,I x_42.b,u60_0,I x_42.given.bound]) 1 rfl Tryz.sizeOf3 rfl rfl rfl hst rfl rfl rfl (fun w114 hst=>nn ?_)))
 obtain rfl:=so hA102
 have hst:=hst.gets [3,2,3] rfl
 exact rj hR102 ⟨sf0,sf6,rfl,sf10,rfl,rfl,sf35,sf36,sf37,hst⟩
 have hA102:=(ite_f hc103).symm.trans hA102
 refine W_skip ?_
 obtain rfl:=so hA102
 have hst:=hst.gets [1,3,2,3] rfl
 exact rj hR102 ⟨sf0,sf6,rfl,sf10,rfl,rfl,sf35,sf36,sf37,hst⟩
 intro f w_ hR
 obtain ⟨sf0,sf6,sf8,sf10,sf12,sf15,sf35,sf36,sf37,hst⟩:=rk hR102 hR
 refine W_seq (sq (mF sf15 rfl (L_gtr rfl rfl rfl (nn ?_))))
 obtain ⟨g61_2_115,hA116,hA49⟩:=bind_some hA49
 obtain ⟨R116,hR116⟩:=exR fun f w_=>f 0 = v0∧f 6 = r14_0∧f 8 = v84∧f 10 = v40_out∧f 12 = Pt g61∧f 35 = v1∧f 36 = I (steps.length : Int)∧f 37 = I i_37∧Star H w_ ([oF 4 RP.bool r14_0 x6.1,oF 3 RP.int v84 x77,oS 56 (oStep 83) v40_out out_40,box g61 56 #[I x_42.kind,I g61_1_101,I g61_2_115,u60_0,I x_42.given.bound]])
 refine W_join R116 ?_ ?_
 refine W_cond (b:=decide (x93.1 > 1)) rfl (fun hc117=>?_) (fun hc117=>?_)
 have hA116:=(ite_t hc117).symm.trans hA116
 obtain ⟨x118,hx118,hA116⟩:=bind_some hA116
 refine W_region (mF sf8 rfl (fA 2 fa_56_2 sf12 rfl (ldB 3 hst Tryz.isAgg3 rfl rfl rfl ?_)))
 obtain ⟨g124,cap_g124,hv125,_,_⟩:=Star.row 1 hst rfl hx118
 refine L_ixO (R:=(OR.frz RP.int)) (tb:=0) 0 rfl Tryz.underlying51 Tryz.sizeOf3 rfl hv125 (by first | rfl | simp) rfl hx118 ?_
 obtain ⟨cs126,hr126,hat126⟩:=Star.eltF 1 hst rfl hv125 hx118
 obtain rfl : _ = [_]:=hr126
 refine L_ld rfl Tryz.isAgg3 rfl (At.cell hat126 (j:=0) rfl) (fA 2 fa_56_2 sf12 rfl (L_stB (v:=I x118) (cs2:=#[I x_42.kind,I g61_1_101,I x118,u60_0,I x_42.given.bound]) 3 rfl Tryz.sizeOf3 rfl rfl rfl hst rfl rfl rfl (fun w128 hst=>nn ?_)))
 obtain rfl:=so hA116
 have hst:=hst.gets [3,3,3] rfl
 exact rj hR116 ⟨sf0,sf6,sf8,sf10,sf12,sf35,sf36,sf37,hst⟩
 have hA116:=(ite_f hc117).symm.trans hA116
 refine W_skip ?_
 obtain rfl:=so hA116
 exact rj hR116 ⟨sf0,sf6,sf8,sf10,sf12,sf35,sf36,sf37,hst⟩
 intro f w_ hR
 obtain ⟨sf0,sf6,sf8,sf10,sf12,sf35,sf36,sf37,hst⟩:=rk hR116 hR
 refine W_seq ?_
 obtain ⟨x134,hx134,hA49⟩:=bind_some hA49
 refine W_region (fA 3 fa_56_3 sf12 rfl (L_lda (cs:=[u60_0,I x_42.given.bound]) rfl Tryz.isAgg54 Tryz.sizeOf54 rfl (At.sub0 (Blk.at (Star.blkAt 3 hst rfl)) 3 2) rfl ?_))
 obtain ⟨H138b,l139,s140,z141,k142⟩:=hst.borrow
 refine L_call rfl Tryz.call26 (ops1 rfl) (i_Constraint_own_c (c:=x_42.given) s140 (RP.mono _ hu60_0 l139) hx134) ?_
 rintro _ w143 ⟨r143_0,rfl,hst⟩
 have hst:=k142 hst (co closed_term c0)
 refine fA 3 fa_56_3 sf12 rfl (L_staB (vs:=#[r143_0,I x134.bound]) (cs2:=#[I x_42.kind,I g61_1_101,I g61_2_115,r143_0,I x134.bound]) 4 rfl Tryz.sizeOf54 rfl rfl rfl (ones_cons (one_len (Star.len 0 hst rfl)) (ones_cons rfl ones_nil)) hst rfl (by show 3 + 2≤5; decide) rfl (fun w145 hst=>nn ?_))
 obtain ⟨x149,hx149,hA49⟩:=bind_some hA49
 refine W_region (mF sf10 rfl (L_lda (cs:=[I x_42.kind,I g61_1_101,I g61_2_115,r143_0,I x134.bound]) rfl Tryz.isAgg56 Tryz.sizeOf56 sf12 (At.sub0 (Blk.at (Star.blkAt 0 hst rfl)) 0 5) rfl (L_bs rfl (parts1 rfl) (bs_26_1_5 (I x_42.kind) (I g61_1_101) (I g61_2_115) (r143_0) (I x134.bound) ) hst (fun g153 w154 hst=>?_))))
 have hst:=hst.get 2 rfl
 have hst:=oStep_close (s:=({ kind:=x_42.kind,a:=g61_1_101,b:=g61_2_115,given:=x134 } : Step)) hst
 have hst:=Star.mkRow (R:=(oStep 83)) [([I x_42.kind,I g61_1_101,I g61_2_115,r143_0,I x134.bound],({ kind:=x_42.kind,a:=g61_1_101,b:=g61_2_115,given:=x134 } : Step))] [({ kind:=x_42.kind,a:=g61_1_101,b:=g61_2_115,given:=x134 } : Step)] 1 hst rfl rfl rfl (by decide)
 have hst:=hst.get 4 rfl
 refine L_appM (v:=v40_out) (u:=(Sl g153 1 1)) rfl et_26 rfl rfl hst hx149 (fun v156 w157 hst=>aV v156 rfl (nn ?_))
 obtain rfl:=so hA49
 have hst:=hst.gets [3,3] rfl
 exact rj hR49 ⟨x77,x149,v84,v156,rfl,sf0,sf6,sf8,rfl,sf35,sf36,sf37,(Star.keepN 3 hst)⟩
 intro f w_ hR
 obtain ⟨place_45,out_47,v45_place,v47_out,rfl,sf0,sf6,sf8,sf10,sf35,sf36,sf37,hst⟩:=rk hR49 hR
 refine W_region (L_add rfl sf37 rfl (mI rfl (nn ?_)))
 obtain rfl:=so hB42
 show ∃ m,m < _∧I42 m _ _
 refine ⟨rest42.length,by simp,?_⟩
 exact ij hI42 ⟨i_37 + 1,rest42,place_45,out_47,v45_place,v47_out,rfl,drop_next hd42,by simp at hl42; omega,hL42,sf0,sf6,sf8,sf10,sf35,sf36,(Eq.trans rfl (congrArg (Value.int .i64) (i64_succ (n:=steps.length) (by simp at hl42; omega) hlen42))),hst⟩
 rcases suf42 with _ | ⟨_,_⟩
 obtain rfl:=range_nil hL42
 refine W_exit ?_
 have hst:=hst.get 2 rfl
 exact rj hR42 ⟨place_38,out_40,v40_out,rfl,sf10,(Star.keepN 1 hst)⟩
 exact absurd (of_decide_eq_false hc44) (by simp at hl42; omega)
 intro f w_ hR
 obtain ⟨place_38,out_40,v40_out,rfl,sf10,hst⟩:=rk hR42 hR
 refine sq (mF sf10 rfl (aV v40_out rfl (aB rfl (nn (W_ret (retG2 (v1:=v40_out) (v2:=Bo true) Tryz.results9 rfl rfl ?_))))))
 obtain rfl:=so hF
 exact ⟨v40_out,rfl,hst⟩
theorem l_eqTerm_c {a : Term} {b : Term} {H : FH} {w : World} (hst : Star H w []) {r : Bool} (hF : l_eqTerm a b = some r) :
 C Tryz.prog 55 #[.agg #[I a.coef,I a.lit],.agg #[I b.coef,I b.lit]] w fun v w'=>v = Bo r∧Star H w' []:=by
 unfold l_eqTerm at hF
 refine C_enter Tryz.func55 rfl Tryz.ntmps55 rfl (sq (L_box (v:=.agg #[I a.coef,I a.lit]) (cs:=#[I a.coef,I a.lit]) rfl rfl rfl hst (fun g5 w6 hst=>L_box (v:=.agg #[I b.coef,I b.lit]) (cs:=#[I b.coef,I b.lit]) rfl rfl rfl hst (fun g7 w8 hst=>aB rfl (nq (sq (fA 0 fa_83_0 rfl rfl (ldB 1 hst Tryz.isAgg3 rfl rfl rfl (fA 0 fa_83_0 rfl rfl (ldB 0 hst Tryz.isAgg3 rfl rfl rfl (L_neq rfl rfl rfl (nn (W_cond (b:=(a.coef != b.coef)) rfl (fun hc9=>?_) (fun hc9=>?_))))))))))))))
 have hF:=(ite_t hc9).symm.trans hF
 refine sq (aB rfl (nn (W_ret (retG1 (v1:=Bo false) Tryz.results55 rfl ?_))))
 obtain rfl:=so hF
 exact ⟨rfl,(Star.keepN 0 hst)⟩
 have hF:=(ite_f hc9).symm.trans hF
 refine W_skip (W_seq (sq (fA 1 fa_83_1 rfl rfl (ldB 1 hst Tryz.isAgg3 rfl rfl rfl (fA 1 fa_83_1 rfl rfl (ldB 0 hst Tryz.isAgg3 rfl rfl rfl (L_neq rfl rfl rfl (nn (W_cond (b:=(a.lit != b.lit)) rfl (fun hc10=>?_) (fun hc10=>?_))))))))))
 have hF:=(ite_t hc10).symm.trans hF
 refine sq (aB rfl (nn (W_ret (retG1 (v1:=Bo false) Tryz.results55 rfl ?_))))
 obtain rfl:=so hF
 exact ⟨rfl,(Star.keepN 0 hst)⟩
 have hF:=(ite_f hc10).symm.trans hF
 refine W_skip (sq (aB rfl (nn (W_ret (retG1 (v1:=Bo true) Tryz.results55 rfl ?_)))))
 obtain rfl:=so hF
 exact ⟨rfl,(Star.keepN 0 hst)⟩
end Go.Proofs.YtiodhgbfceahfaaGreat

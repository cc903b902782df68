/- Part of a proof by program: W3. -/
import Derived.Test.YtiodhgbfceahfaaD1
import Derived.Test.YtiodhgbfceahfaaW2
namespace Go.Proofs.Ytiodhgbfceahfaa
open Go Go.E Go.L Go.RowKit
set_option linter.unusedVariables false
set_option linter.unusedSimpArgs false
set_option maxRecDepth 100000
theorem slices_Concat_implTerm_c {slices : List (List Term)} {v0 : Value} {H : FH} {w : World} (hst : Star H w []) (h0 : (rS 39 (rS 117 rTerm)).rel H [v0] slices) {r : List Term} (hF : slices_Concat_implTerm slices = some r) :
 C Try.prog 148 #[v0] w fun v w'=>∃ (u1 : Value),v = u1∧Star H w' [oF 117 rTerm u1 r]:=by
 unfold slices_Concat_implTerm at hF
 refine C_enter Try.func148 rfl Try.ntmps148 rfl (sq (aV S0 rfl (ns (aI rfl (nq (sq (mV v0 rfl (L_len rfl Try.underlying155 rfl (slice_len h0) (mI rfl (nn ?_))))))))))
 have hlen3 : List.length slices≤9223372036854775807:=len_le (slice_len h0)
 obtain ⟨j3,hL3,hF⟩:=bind_some hF
 obtain ⟨R3,hR3⟩:=exR fun f w_=>∃ size_2 : Int,j3 = .nx size_2∧f 0 = v0∧f 3 = I size_2∧Star H w_ ([])
 refine W_join R3 ?_ ?_
 refine W_block ?_
 obtain ⟨I3,hI3⟩:=exI fun n f w_=>∃ i_1 : Nat,∃ suf3 : List (List Term),∃ size_2 : Int,n = suf3.length∧List.drop i_1 slices = suf3∧i_1 + suf3.length = slices.length∧rangeL slices_Concat_implTerm_b1 suf3 i_1 size_2 = some j3∧f 0 = v0∧f 3 = I size_2∧f 9 = v0∧f 10 = I (slices.length : Int)∧f 11 = I i_1∧Star H w_ ([])
 refine W_loop I3 (n:=slices.length) ?_ ?_
 exact ij hI3 ⟨0,slices,0,rfl,rfl,Nat.zero_add _,hL3,rfl,rfl,rfl,rfl,rfl,hst⟩
 intro n3 f w_ hI
 obtain ⟨i_1,suf3,size_2,rfl,hd3,hl3,hL3,sf0,sf3,sf9,sf10,sf11,hst⟩:=ik hI3 hI
 refine sq (L_lss rfl sf11 sf10 (nq (W_cond (b:=decide ((i_1 : Int) < (slices.length : Int))) rfl (fun hc4=>?_) (fun hc4=>?_))))
 have hlt3:=of_decide_eq_true hc4
 rcases suf3 with _ | ⟨x_3,rest3⟩
 exact absurd hlt3 (by simp at hl3; omega)
 obtain ⟨o3,hB3,hL3⟩:=range_cons hL3
 rw [slices_Concat_implTerm_b1] at hB3
 have hix3:=drop_idx hd3
 refine W_skip (W_seq (W_block (sq (L_ix (r:=(rS 117 rTerm)) rfl Try.underlying155 Try.sizeOf39 sf9 h0 sf11 hix3 (fun g9 o10 cs_g9 hrk_hat11 hat11=>?_)))))
 obtain ⟨u12,rfl,hu12⟩:=slice1 hrk_hat11
 refine L_ld rfl Try.isAgg39 rfl (At.cell (AtH.at hat11 hst.sub) (j:=0) rfl) (aV u12 rfl (ns (mF sf3 rfl (mV u12 rfl (L_len rfl Try.underlying39 rfl (slice_len hu12) (L_add rfl rfl rfl (aI rfl (ns (mI rfl (L_lss rfl rfl rfl (nn ?_)))))))))))
 obtain ⟨_,hA13,hB3⟩:=bind_some hB3
 obtain ⟨R13,hR13⟩:=exR fun f w_=>f 0 = v0∧f 3 = I (i64 (size_2 + (x_3.length : Int)))∧f 9 = v0∧f 10 = I (slices.length : Int)∧f 11 = I i_1∧Star H w_ ([])
 refine W_join R13 ?_ ?_
 refine W_cond (b:=decide ((i64 (size_2 + (x_3.length : Int))) < 0)) rfl (fun hc14=>?_) (fun hc14=>?_)
 have hA13:=(ite_t hc14).symm.trans hA13
 cases hA13
 have hA13:=(ite_f hc14).symm.trans hA13
 refine W_skip (rj hR13 ⟨sf0,rfl,sf9,sf10,sf11,hst⟩)
 intro f w_ hR
 obtain ⟨sf0,sf3,sf9,sf10,sf11,hst⟩:=rk hR13 hR
 refine W_region (L_add rfl sf11 rfl (mI rfl (nn ?_)))
 obtain rfl:=so hB3
 show ∃ m,m < _∧I3 m _ _
 refine ⟨rest3.length,by simp,?_⟩
 exact ij hI3 ⟨i_1 + 1,rest3,i64 (size_2 + (x_3.length : Int)),rfl,drop_next hd3,by simp at hl3; omega,hL3,sf0,sf3,sf9,sf10,(Eq.trans rfl (congrArg (Value.int .i64) (i64_succ (n:=slices.length) (by simp at hl3; omega) hlen3))),hst⟩
 rcases suf3 with _ | ⟨_,_⟩
 obtain rfl:=range_nil hL3
 refine W_exit (rj hR3 ⟨size_2,rfl,sf0,sf3,hst⟩)
 exact absurd (of_decide_eq_false hc4) (by simp at hl3; omega)
 intro f w_ hR
 obtain ⟨size_2,rfl,sf0,sf3,hst⟩:=rk hR3 hR
 refine W_seq ?_
 obtain ⟨ret0_15,hI17,hF⟩:=bind_some hF
 refine W_region (mF sf3 rfl ?_)
 obtain ⟨R20,hR20⟩ : ∃ R : Value→World→Prop,R = fun v w_=>∃ v18_ret0 : Value,v = v18_ret0∧Star H w_ ([oF 117 rTerm v18_ret0 ret0_15]):=⟨_,rfl⟩
 refine L_call (args:=#[S0,I size_2]) (R:=R20) rfl Try.call155 (ops2 rfl rfl) ?_ ?_
 refine C_enter Try.func155 rfl Try.ntmps155 rfl ?_
 have hA20:=hI17
 unfold slices_Concat_implTerm_i2 at hA20
 refine sq (aV S0 rfl (nq (sq (mI rfl (L_lss rfl rfl rfl (nn ?_))))))
 obtain ⟨_,hA21,hA20⟩:=bind_some hA20
 obtain ⟨R21,hR21⟩:=exR fun f w_=>f 0 = S0∧f 1 = I size_2∧Star H w_ ([])
 refine W_join R21 ?_ ?_
 refine W_cond (b:=decide (size_2 < 0)) rfl (fun hc22=>?_) (fun hc22=>?_)
 have hA21:=(ite_t hc22).symm.trans hA21
 cases hA21
 have hA21:=(ite_f hc22).symm.trans hA21
 refine W_skip (rj hR21 ⟨rfl,rfl,hst⟩)
 intro f w_ hR
 obtain ⟨sf0,sf1,hst⟩:=rk hR21 hR
 refine W_seq (sq (mF sf1 rfl (mF sf0 rfl (L_capN rfl Try.underlying39 rfl (mF sf0 rfl (L_len rfl Try.underlying39 rfl (slice_len (r:=RP.int) (t:=0) (rel_nil _ _ H)) (L_sub rfl rfl rfl (L_sub rfl rfl rfl (aI rfl (ns (mI rfl (L_gtr rfl rfl rfl (nn ?_)))))))))))))
 obtain ⟨s_23,hA25,hA20⟩:=bind_some hA20
 obtain ⟨R25,hR25⟩:=exR fun f w_=>∃ v23_s : Value,f 0 = v23_s∧Star H w_ ([oF 117 rTerm v23_s s_23])
 refine W_join R25 ?_ ?_
 refine W_cond (b:=decide ((i64 (size_2 - (i64 (0 - 0)))) > 0)) rfl (fun hc26=>?_) (fun hc26=>?_)
 have hA25:=(ite_t hc26).symm.trans hA25
 obtain ⟨x27,hx27,hA25⟩:=bind_some hA25
 obtain ⟨x31,hx31,hA25⟩:=bind_some hA25
 refine W_region (mF sf0 rfl (mF sf0 rfl (L_capN rfl Try.underlying39 rfl (L_slN rfl et_39 rfl rfl (mI rfl (L_appZ (R:=(OR.frz rTerm)) (z0:=({ coef:=0,lit:=0 } : Term)) (zc:=[I 0,I 0]) rfl et_39 Try.underlying3 (by kernel_rfl) (fun _ _=>⟨rfl,rTerm_iff.2 rfl⟩) rfl rfl hx27 hst (fun v34 w35 hst=>mF sf0 rfl (L_len rfl Try.underlying39 rfl (slice_len (r:=RP.int) (t:=0) (rel_nil _ _ H)) (L_slO (R:=(OR.frz rTerm)) (b:=0) rfl et_39 rfl hst trivial rfl hx31 (fun v37 hst=>aV v37 rfl (nn ?_)))))))))))
 obtain rfl:=so hA25
 exact rj hR25 ⟨v37,rfl,hst⟩
 have hA25:=(ite_f hc26).symm.trans hA25
 refine W_skip ?_
 obtain rfl:=so hA25
 have hst:=Star.addNil (R:=(OR.frz rTerm)) (e:=117) hst
 exact rj hR25 ⟨S0,sf0,hst⟩
 intro f w_ hR
 obtain ⟨v23_s,sf0,hst⟩:=rk hR25 hR
 refine sq (mF sf0 rfl (aV v23_s rfl (nn (W_ret (retG1 (v1:=v23_s) Try.results155 rfl ?_)))))
 obtain rfl:=so hA20
 show R20 _ _
 rw [hR20]
 exact ⟨v23_s,rfl,hst⟩
 intro v_20 w_ hR
 rw [hR20] at hR
 obtain ⟨v18_ret0,hvr20,hst⟩:=hR
 obtain rfl:=hvr20.symm
 clear hR20
 refine aV v18_ret0 rfl (nq (sq (mF sf0 rfl (L_len rfl Try.underlying155 rfl (slice_len h0) (mI rfl (nn ?_))))))
 have hlen43 : List.length slices≤9223372036854775807:=len_le (slice_len h0)
 obtain ⟨j43,hL43,hF⟩:=bind_some hF
 obtain ⟨R43,hR43⟩:=exR fun f w_=>∃ newslice_41 : List Term,∃ v41_newslice : Value,j43 = .nx newslice_41∧f 6 = v41_newslice∧Star H w_ ([oF 117 rTerm v41_newslice newslice_41])
 refine W_join R43 ?_ ?_
 refine W_block ?_
 obtain ⟨I43,hI43⟩:=exI fun n f w_=>∃ i_40 : Nat,∃ suf43 : List (List Term),∃ newslice_41 : List Term,∃ v41_newslice : Value,n = suf43.length∧List.drop i_40 slices = suf43∧i_40 + suf43.length = slices.length∧rangeL slices_Concat_implTerm_b3 suf43 i_40 newslice_41 = some j43∧f 6 = v41_newslice∧f 25 = v0∧f 26 = I (slices.length : Int)∧f 27 = I i_40∧Star H w_ ([oF 117 rTerm v41_newslice newslice_41])
 refine W_loop I43 (n:=slices.length) ?_ ?_
 exact ij hI43 ⟨0,slices,ret0_15,v18_ret0,rfl,rfl,Nat.zero_add _,hL43,rfl,rfl,rfl,rfl,hst⟩
 intro n43 f w_ hI
 obtain ⟨i_40,suf43,newslice_41,v41_newslice,rfl,hd43,hl43,hL43,sf6,sf25,sf26,sf27,hst⟩:=ik hI43 hI
 refine sq (L_lss rfl sf27 sf26 (nq (W_cond (b:=decide ((i_40 : Int) < (slices.length : Int))) rfl (fun hc44=>?_) (fun hc44=>?_))))
 have hlt43:=of_decide_eq_true hc44
 rcases suf43 with _ | ⟨x_43,rest43⟩
 exact absurd hlt43 (by simp at hl43; omega)
 obtain ⟨o43,hB43,hL43⟩:=range_cons hL43
 rw [slices_Concat_implTerm_b3] at hB43
 have hix43:=drop_idx hd43
 refine W_skip (W_seq (W_block (sq (L_ix (r:=(rS 117 rTerm)) rfl Try.underlying155 Try.sizeOf39 sf25 h0 sf27 hix43 (fun g49 o50 cs_g49 hrk_hat51 hat51=>?_)))))
 obtain ⟨u52,rfl,hu52⟩:=slice1 hrk_hat51
 refine L_ld rfl Try.isAgg39 rfl (At.cell (AtH.at hat51 hst.sub) (j:=0) rfl) (aV u52 rfl (nn ?_))
 obtain ⟨x53,hx53,hB43⟩:=bind_some hB43
 refine W_region (mF sf6 rfl (mV u52 rfl (L_app (v:=v41_newslice) (u:=u52) rfl et_39 rfl rfl hst hu52 hx53 (fun v57 w58 hst=>aV v57 rfl (nn (W_region (L_add rfl sf27 rfl (mI rfl (nn ?_)))))))))
 obtain rfl:=so hB43
 show ∃ m,m < _∧I43 m _ _
 refine ⟨rest43.length,by simp,?_⟩
 exact ij hI43 ⟨i_40 + 1,rest43,x53,v57,rfl,drop_next hd43,by simp at hl43; omega,hL43,rfl,sf25,sf26,(Eq.trans rfl (congrArg (Value.int .i64) (i64_succ (n:=slices.length) (by simp at hl43; omega) hlen43))),hst⟩
 rcases suf43 with _ | ⟨_,_⟩
 obtain rfl:=range_nil hL43
 refine W_exit (rj hR43 ⟨newslice_41,v41_newslice,rfl,sf6,hst⟩)
 exact absurd (of_decide_eq_false hc44) (by simp at hl43; omega)
 intro f w_ hR
 obtain ⟨newslice_41,v41_newslice,rfl,sf6,hst⟩:=rk hR43 hR
 refine sq (mF sf6 rfl (aV v41_newslice rfl (nn (W_ret (retG1 (v1:=v41_newslice) Try.results148 rfl ?_)))))
 obtain rfl:=so hF
 exact ⟨v41_newslice,rfl,hst⟩
theorem i_AddConstraints_c {a : Con} {b : Con} {v0_0 : Value} {v1_0 : Value} {H : FH} {w : World} {R : List Ass} (hst : Star H w R) (h0_0 : (rS 117 rTerm).rel H [v0_0] a.terms) (h1_0 : (rS 117 rTerm).rel H [v1_0] b.terms) {r : Con × Bool} (hF : i_AddConstraints a b = some r) :
 C Try.prog 130 #[.agg #[v0_0,I a.bound],.agg #[v1_0,I b.bound]] w fun v w'=>∃ H' : FH,Le H H'∧∃ (u1 : Value),v = .tuple #[.agg #[u1,I r.1.bound],Bo r.2]∧(rS 117 rTerm).rel H' [u1] r.1.terms∧Star H' w' (R):=by
 unfold i_AddConstraints at hF
 refine C_enter Try.func130 rfl Try.ntmps130 rfl (sq (L_box (v:=.agg #[v0_0,I a.bound]) (cs:=#[v0_0,I a.bound]) rfl rfl rfl hst (fun g7 w8 hst=>L_box (v:=.agg #[v1_0,I b.bound]) (cs:=#[v1_0,I b.bound]) rfl rfl rfl hst (fun g9 w10 hst=>L_al (cs:=#[S0,I 0]) rfl Try.zeroValue41 rfl hst (fun g11 w12 hst=>aB rfl (nq (W_seq ?_)))))))
 obtain ⟨x18,hx18,hF⟩:=bind_some hF
 obtain ⟨b27,hb27,hF⟩:=bind_some hF
 obtain ⟨R28,hR28⟩:=exR fun f w_=>f 2 = Pt g7∧f 3 = Pt g9∧f 4 = Pt g11∧f 13 = Bo b27∧Star H w_ (box g11 41 #[S0,I 0] :: box g9 41 #[v1_0,I b.bound] :: box g7 41 #[v0_0,I a.bound] :: R)
 refine W_join R28 ?_ ?_
 refine W_region (L_lda (cs:=[v0_0,I a.bound]) rfl Try.isAgg41 Try.sizeOf41 rfl (At.sub0 (Blk.at (Star.blkAt 2 hst rfl)) 0 2) rfl ?_)
 obtain ⟨H29b,l30,s31,z32,k33⟩:=hst.borrow
 refine L_call rfl Try.call61 (ops1 rfl) (i_ConstraintValid_c (c:=a) s31 (RP.mono _ h0_0 l30) hx18) ?_
 rintro _ w34 ⟨rfl,hst⟩
 have hst:=k33 hst c0
 refine L_not_ rfl rfl (mB rfl (L_split (d:=9) (b:=(!x18)) rfl (fun hc35=>?_) (fun hc35=>?_)))
 rw [ite_t hc35] at hb27
 refine ps rfl (ps rfl (ps rfl (L_pick (v:=Bo b27) rfl rfl (congrArg Value.bool (so hb27)) (nn (rj hR28 ⟨rfl,rfl,rfl,rfl,hst⟩)))))
 rw [ite_f hc35] at hb27
 obtain ⟨x25,hx25,hb27⟩:=bind_some hb27
 refine L_lda (cs:=[v1_0,I b.bound]) rfl Try.isAgg41 Try.sizeOf41 rfl (At.sub0 (Blk.at (Star.blkAt 1 hst rfl)) 0 2) rfl ?_
 obtain ⟨H36b,l37,s38,z39,k40⟩:=hst.borrow
 refine L_call rfl Try.call61 (ops1 rfl) (i_ConstraintValid_c (c:=b) s38 (RP.mono _ h1_0 l37) hx25) ?_
 rintro _ w41 ⟨rfl,hst⟩
 have hst:=k40 hst c0
 refine L_not_ rfl rfl (L_pick (v:=Bo b27) rfl rfl (congrArg Value.bool (so hb27)) (nn (rj hR28 ⟨rfl,rfl,rfl,rfl,hst⟩)))
 intro f w_ hR
 obtain ⟨sf2,sf3,sf4,sf13,hst⟩:=rk hR28 hR
 refine W_cond (b:=b27) sf13 (fun hc42=>?_) (fun hc42=>?_)
 have hF:=(ite_t hc42).symm.trans hF
 refine sq (L_bld rfl (parts0 ) (bld_41_  ) (L_staB (vs:=#[S0,I 0]) (cs2:=#[S0,I 0]) 0 rfl Try.sizeOf41 sf4 rfl rfl (ones_cons rfl (ones_cons rfl ones_nil)) hst rfl (by show 0 + 2≤2; decide) rfl (fun w44 hst=>aB rfl (nn (W_ret (retG2 (v1:=.agg #[S0,I 0]) (v2:=Bo false) Try.results130 (resV_agg Try.isAgg41 Try.sizeOf41 sf4 (Star.blkAt 0 hst rfl) rfl) rfl ?_))))))
 obtain rfl:=so hF
 have hst:=Star.drop 0 hst rfl
 have hst:=Star.drop 0 hst rfl
 have hst:=Star.drop 0 hst rfl
 exact ⟨H,(Le.refl _),S0,rfl,(rel_nil _ _ _),hst⟩
 have hF:=(ite_f hc42).symm.trans hF
 refine W_skip (W_seq ?_)
 obtain ⟨x54,hx54,hF⟩:=bind_some hF
 obtain ⟨x60,hx60,hF⟩:=bind_some hF
 refine W_drawS 14 [isV (Pt g7),isV (v0_0),isV (Pt g9),isV (v1_0),anyF,anyF,isV (Pq g7 1),isV (I a.bound),isV (Pq g9 1),isV (I b.bound),isV (I (i64 (a.bound + b.bound))),tup2 (exD (isData (rS 117 rTerm) x60.1.terms) fun u_0=>isV (.agg #[u_0,I x60.1.bound])) (isV (Bo x60.2)),exD (isData (rS 117 rTerm) x60.1.terms) fun u_0=>isV (.agg #[u_0,I x60.1.bound]),isV (Bo x60.2)] [box g11 41 #[S0,I 0],box g9 41 #[v1_0,I b.bound],box g7 41 #[v0_0,I a.bound]] [.made 4 19 (fun v_=>oF 39 (rS 117 rTerm) v_ ([a.terms,b.terms])) none,.made 5 20 (fun v_=>oF 117 rTerm v_ x54) (some 11)] (R) [([],[]),([],[]),([],[]),([],[]),([],[0]),([0],[0,1]),([],[]),([],[]),([],[]),([],[]),([],[]),([1],[]),([],[]),([],[])] (S:=[(some 4,[19],none),(some 5,[20],some 11)]) Try_mix (by kernel_rfl) rfl (by kernel_rfl) (amF_cons (mono_V _) (amF_cons (mono_V _) (amF_cons (mono_V _) (amF_cons (mono_V _) (amF_cons (mono_any) (amF_cons (mono_any) (amF_cons (mono_V _) (amF_cons (mono_V _) (amF_cons (mono_V _) (amF_cons (mono_V _) (amF_cons (mono_V _) (amF_cons (mono_tup2 (mono_exD (mono_data _ _) fun _=>mono_V _) (mono_V _)) (amF_cons (mono_exD (mono_data _ _) fun _=>mono_V _) (amF_cons (mono_V _) amF_nil)))))))))))))) hst ?_ (fun f w_ H63 hS63 hE63 hT63 hst=>?_)
 refine opsS_cons (fun f w_ _ _ s _ _ hst=>fA 0 fa_41_0 ((s 2 rfl).trans sf2) rfl (nO rfl rfl hst)) (opsS_cons (fun f w_ _ _ _ _ p hst=>ldB 2 hst Try.isAgg39 (p 0 15 rfl rfl) rfl rfl (nO rfl rfl hst)) (opsS_cons (fun f w_ _ _ s _ _ hst=>fA 0 fa_41_0 ((s 3 rfl).trans sf3) rfl (nO rfl rfl hst)) (opsS_cons (fun f w_ _ _ _ _ p hst=>ldB 1 hst Try.isAgg39 (p 2 17 rfl rfl) rfl rfl (nO rfl rfl hst)) (opsS_cons ?_ ?_))))
 intro f w_ H63 X63 hS63 hE63 hP63 hst
 refine L_bs rfl (parts2 (hP63 1 16 rfl rfl) (hP63 3 18 rfl rfl)) (bs_155_2_0_0 (v0_0) (v1_0) (one_len (slice_len (RP.mono _ h0_0 hE63))) (one_len (slice_len (RP.mono _ h1_0 hE63)))) hst (fun g79 w80 hst=>?_)
 have hst:=Star.addF (r:=(rS 117 rTerm)) (cs:=[v1_0]) (x:=b.terms) hst (RP.mono _ h1_0 hE63)
 have hst:=Star.addF (r:=(rS 117 rTerm)) (cs:=[v0_0]) (x:=a.terms) hst (RP.mono _ h0_0 hE63)
 have hst:=Star.mkRow (R:=(OR.frz (rS 117 rTerm))) [([v0_0],a.terms),([v1_0],b.terms)] [a.terms,b.terms] 2 hst rfl rfl rfl (by decide)
 have hst:=hst.gets [3,3,3] rfl
 exact L_nil ⟨rfl,_,_,rfl,Le.refl _,fun _ _=>trivial,hst⟩
 refine opsS_cons ?_ ?_
 intro f w_ H63 X63 hS63 hE63 hP63 hst
 have hst : Star H63 w_ (box g11 41 #[S0,I 0] :: box g9 41 #[v1_0,I b.bound] :: box g7 41 #[v0_0,I a.bound] :: oF 39 (rS 117 rTerm) (f 19) ([a.terms,b.terms]) :: X63):=hst
 obtain ⟨H83b,l84,s85,z86,k87⟩:=hst.borrow
 have hb88 : (rS 39 (rS 117 rTerm)).rel H83b [(f 19)] ([a.terms,b.terms]):=fz_own 3 z86 rfl
 refine L_call rfl Try.call148 (ops1 rfl) (slices_Concat_implTerm_c (slices:=[a.terms,b.terms]) s85 hb88 hx54) ?_
 rintro r89_0 w89 ⟨_,rfl,hst⟩
 have hst:=k87 hst (co closed_term c0)
 have hst:=hst.gets [4,4,4,4] rfl
 exact L_nil ⟨rfl,_,_,rfl,Le.refl _,fun _ _=>trivial,hst⟩
 refine opsS_cons (fun f w_ _ _ s _ _ hst=>fA 1 fa_41_1 ((s 2 rfl).trans sf2) rfl (nO rfl rfl hst)) (opsS_cons (fun f w_ _ _ _ _ p hst=>ldB 2 hst Try.isAgg3 (p 6 21 rfl rfl) rfl rfl (nO rfl rfl hst)) (opsS_cons (fun f w_ _ _ s _ _ hst=>fA 1 fa_41_1 ((s 3 rfl).trans sf3) rfl (nO rfl rfl hst)) (opsS_cons (fun f w_ _ _ _ _ p hst=>ldB 1 hst Try.isAgg3 (p 8 23 rfl rfl) rfl rfl (nO rfl rfl hst)) (opsS_cons (fun f w_ _ _ _ _ p hst=>L_add rfl (p 7 22 rfl rfl) (p 9 24 rfl rfl) (nO rfl rfl hst)) (opsS_cons ?_ ?_)))))
 intro f w_ H63 X63 hS63 hE63 hP63 hst
 have hst : Star H63 w_ (box g11 41 #[S0,I 0] :: box g9 41 #[v1_0,I b.bound] :: box g7 41 #[v0_0,I a.bound] :: oF 117 rTerm (f 20) x54 :: X63):=hst
 have hst:=hst.get 3 rfl
 obtain ⟨H92,l93,hst,hz94⟩:=Star.freeze hst
 have hz94 : (rS 117 rTerm).rel H92 [(f 20)] x54:=hz94
 refine L_call rfl Try.call147 (ops2 rfl (hP63 10 25 rfl rfl)) (i_normal_c (terms:=x54) (bound:=i64 (a.bound + b.bound)) hst hz94 hx60) ?_
 rintro _ w95 ⟨H95,l95,r95_0,rfl,hr95_0,hst⟩
 exact L_nil ⟨rfl,_,_,rfl,(Le.trans l93 l95),fun _ _=>⟨_,_,rfl,⟨_,hr95_0,rfl⟩,rfl⟩,hst⟩
 refine opsS_cons ?_ ?_
 intro f w_ H63 X63 hS63 hE63 hP63 hst
 obtain ⟨a96_0,a96_1,hv96,ht96_0,ht96_1⟩:=(hP63 11 26 rfl rfl)
 obtain ⟨u97_0,hu97_0,rfl⟩:=ht96_0
 obtain rfl:=ht96_1
 refine L_ex (v:=.agg #[u97_0,I x60.1.bound]) rfl hv96 rfl (L_nil ⟨rfl,_,_,rfl,Le.refl _,fun _ _=>⟨_,hu97_0,rfl⟩,hst⟩)
 refine opsS_cons ?_ ?_
 intro f w_ H63 X63 hS63 hE63 hP63 hst
 obtain ⟨a98_0,a98_1,hv98,ht98_0,ht98_1⟩:=(hP63 11 26 rfl rfl)
 obtain ⟨u99_0,hu99_0,rfl⟩:=ht98_0
 obtain rfl:=ht98_1
 refine L_ex (v:=Bo x60.2) rfl hv98 rfl (L_nil ⟨rfl,_,_,rfl,Le.refl _,fun _ _=>rfl,hst⟩)
 exact opsS_nil
 have hst : Star H63 w_ (box g11 41 #[S0,I 0] :: box g9 41 #[v1_0,I b.bound] :: box g7 41 #[v0_0,I a.bound] :: oF 39 (rS 117 rTerm) (f 19) ([a.terms,b.terms]) :: R):=hst
 obtain ⟨u100_0,hu100_0,hv100⟩:=(hT63 12 27 rfl rfl)
 refine L_staB (vs:=#[u100_0,I x60.1.bound]) (cs2:=#[u100_0,I x60.1.bound]) 0 rfl Try.sizeOf41 ((hS63 4 rfl).trans sf4) hv100 rfl (ones_cons (one_len (slice_len hu100_0)) (ones_cons rfl ones_nil)) hst rfl (by show 0 + 2≤2; decide) rfl (fun w101 hst=>aF (hT63 13 28 rfl rfl) rfl (nn (W_ret (retG2 (v1:=.agg #[u100_0,I x60.1.bound]) (v2:=Bo x60.2) Try.results130 (resV_agg Try.isAgg41 Try.sizeOf41 ((hS63 4 rfl).trans sf4) (Star.blkAt 0 hst rfl) rfl) rfl ?_))))
 obtain rfl:=so hF
 have hst:=Star.drop 0 hst rfl
 have hst:=Star.drop 0 hst rfl
 have hst:=Star.drop 0 hst rfl
 have hst:=Star.drop 0 hst rfl
 exact ⟨H63,hE63,u100_0,rfl,hu100_0,hst⟩
theorem slices_Clone_implTerm_c {s : List Term} {v0 : Value} {H : FH} {w : World} (hst : Star H w []) (h0 : (rS 117 rTerm).rel H [v0] s) {r : List Term} (hF : slices_Clone_implTerm s = some r) :
 C Try.prog 121 #[v0] w fun v w'=>∃ (u1 : Value),v = u1∧Star H w' [oF 117 rTerm u1 r]:=by
 unfold slices_Clone_implTerm at hF
 refine C_enter Try.func121 rfl Try.ntmps121 rfl (sq (aV S0 rfl (nq (sq (mV v0 rfl ?_)))))
 obtain ⟨a1,cap1,hsl1,_,_⟩:=(slice_len h0)
 refine L_nileq (a:=a1) rfl Try.underlying39 (Eq.trans rfl hsl1) rfl ?_
 rw [← hsl1]
 refine nn ?_
 rcases Bool.eq_false_or_eq_true (isNilS v0) with hn2 | hn2
 refine W_cond (b:=true) (Eq.trans rfl (congrArg Value.bool hn2)) (fun _=>?_) (fun h=>nomatch h)
 obtain rfl:=nil_of h0 hn2
 refine sq (aV S0 rfl (nn (W_ret (retG1 (v1:=S0) Try.results121 rfl ?_))))
 simp [app] at hF
 subst hF
 have hst:=Star.addNil (R:=(OR.frz rTerm)) (e:=117) hst
 exact ⟨S0,rfl,hst⟩
 refine W_cond (b:=false) (Eq.trans rfl (congrArg Value.bool hn2)) (fun h=>nomatch h) (fun _=>?_)
 refine W_skip (W_seq ?_)
 obtain ⟨x7,hx7,hF⟩:=bind_some hF
 refine W_region (L_bs rfl parts0 (bs_39_0  ) hst (fun g11 w12 hst=>?_))
 have hst:=Star.mkRow (R:=(OR.frz rTerm)) [] [] 0 hst rfl rfl rfl (by decide)
 refine mV v0 rfl (L_app (v:=(Sl g11 0 0)) (u:=v0) rfl et_39 rfl rfl hst h0 hx7 (fun v14 w15 hst=>aV v14 rfl (nn (W_ret (retG1 (v1:=v14) Try.results121 rfl ?_)))))
 obtain rfl:=so hF
 exact ⟨v14,rfl,hst⟩
theorem i_Constraint_own_c {c : Con} {v0_0 : Value} {H : FH} {w : World} (hst : Star H w []) (h0_0 : (rS 117 rTerm).rel H [v0_0] c.terms) {r : Con} (hF : i_Constraint_own c = some r) :
 C Try.prog 89 #[.agg #[v0_0,I c.bound]] w fun v w'=>∃ (u1 : Value),v = .agg #[u1,I r.bound]∧Star H w' [oF 117 rTerm u1 r.terms]:=by
 unfold i_Constraint_own at hF
 refine C_enter Try.func89 rfl Try.ntmps89 rfl (sq (L_box (v:=.agg #[v0_0,I c.bound]) (cs:=#[v0_0,I c.bound]) rfl rfl rfl hst (fun g5 w6 hst=>L_al (cs:=#[S0,I 0]) rfl Try.zeroValue41 rfl hst (fun g7 w8 hst=>nq ?_))))
 obtain ⟨x14,hx14,hF⟩:=bind_some hF
 refine W_region (fA 0 fa_41_0 rfl rfl (ldB 1 hst Try.isAgg39 rfl rfl rfl ?_))
 obtain ⟨H18b,l19,s20,z21,k22⟩:=hst.borrow
 refine L_call rfl Try.call121 (ops1 rfl) (slices_Clone_implTerm_c (s:=c.terms) s20 (RP.mono _ h0_0 l19) hx14) ?_
 rintro r23_0 w23 ⟨_,rfl,hst⟩
 have hst:=k22 hst (co closed_term c0)
 refine fA 0 fa_41_0 rfl rfl (L_stB (v:=r23_0) (cs2:=#[r23_0,I c.bound]) 2 rfl Try.sizeOf39 rfl rfl (one_len (Star.len 0 hst rfl)) hst rfl rfl rfl (fun w25 hst=>ns (L_lda (cs:=[r23_0,I c.bound]) rfl Try.isAgg41 Try.sizeOf41 rfl (At.sub0 (Blk.at (Star.blkAt 0 hst rfl)) 0 2) rfl (L_staB (vs:=#[r23_0,I c.bound]) (cs2:=#[r23_0,I c.bound]) 2 rfl Try.sizeOf41 rfl rfl rfl (ones_cons (one_len (Star.len 1 hst rfl)) (ones_cons rfl ones_nil)) hst rfl (by show 0 + 2≤2; decide) rfl (fun w27 hst=>nn (W_ret (retG1 (v1:=.agg #[r23_0,I c.bound]) Try.results89 (resV_agg Try.isAgg41 Try.sizeOf41 rfl (Star.blkAt 0 hst rfl) rfl) ?_)))))))
 obtain rfl:=so hF
 have hst:=hst.get 2 rfl
 exact ⟨r23_0,rfl,(Star.keepN 1 hst)⟩
theorem i_Constraint_changed_c {c : Con} {change : (Int→Option Int)} {v0_0 : Value} {v1 : Value} {H : FH} {w : World} {R : List Ass} (hst : Star H w R) (h0_0 : (rS 117 rTerm).rel H [v0_0] c.terms) (h1 : Fun1 Try.prog RP.int false (Value.int .i64) change v1 H) {r : Con × Bool} (hF : i_Constraint_changed c change = some r) :
 C Try.prog 149 #[.agg #[v0_0,I c.bound],v1] w fun v w'=>∃ H' : FH,Le H H'∧∃ (u1 : Value),v = .tuple #[.agg #[u1,I r.1.bound],Bo r.2]∧(rS 117 rTerm).rel H' [u1] r.1.terms∧Star H' w' (R):=by
 unfold i_Constraint_changed at hF
 obtain ⟨fid_1,caps_1,rfl,hcall_1,hc_1⟩:=h1
 refine C_enter Try.func149 rfl Try.ntmps149 rfl (sq (L_box (v:=.agg #[v0_0,I c.bound]) (cs:=#[v0_0,I c.bound]) rfl rfl rfl hst (fun g5 w6 hst=>L_al (cs:=#[S0,I 0]) rfl Try.zeroValue41 rfl hst (fun g7 w8 hst=>aB rfl (nq ?_)))))
 obtain ⟨x14,hx14,hF⟩:=bind_some hF
 refine W_region (L_lda (cs:=[v0_0,I c.bound]) rfl Try.isAgg41 Try.sizeOf41 rfl (At.sub0 (Blk.at (Star.blkAt 1 hst rfl)) 0 2) rfl ?_)
 obtain ⟨H20b,l21,s22,z23,k24⟩:=hst.borrow
 refine L_call rfl Try.call89 (ops1 rfl) (i_Constraint_own_c (c:=c) s22 (RP.mono _ h0_0 l21) hx14) ?_
 rintro _ w25 ⟨r25_0,rfl,hst⟩
 have hst:=k24 hst (co closed_term c0)
 refine L_al (cs:=#[S0,I 0]) rfl Try.zeroValue41 rfl hst (fun g27 w28 hst=>L_staB (vs:=#[r25_0,I x14.bound]) (cs2:=#[r25_0,I x14.bound]) 0 rfl Try.sizeOf41 rfl rfl rfl (ones_cons (one_len (Star.len 1 hst rfl)) (ones_cons rfl ones_nil)) hst rfl (by show 0 + 2≤2; decide) rfl (fun w29 hst=>nq ?_))
 obtain ⟨x30,hx30,hF⟩:=bind_some hF
 refine W_region (mV (.func (.func fid_1) #[] caps_1) rfl (fA 1 fa_41_1 rfl rfl (ldB 3 hst Try.isAgg3 rfl rfl rfl ?_)))
 obtain ⟨H38b,l39,s40,z41,k42⟩:=hst.borrow
 refine L_callv (args:=#[I c.bound]) rfl hcall_1 rfl (ops1 rfl) (hc_1 _ _ l39 s40 [I c.bound] _ _ _ rfl hx30 (args_app rfl)) ?_
 rintro _ w43 ⟨rfl,hst⟩
 have hst:=k42 hst c0
 refine fA 1 fa_41_1 rfl rfl (L_stB (v:=I x30) (cs2:=#[r25_0,I x30]) 0 rfl Try.sizeOf3 rfl rfl rfl hst rfl rfl rfl (fun w44 hst=>nq (sq (fA 0 fa_41_0 rfl rfl (ldB 0 hst Try.isAgg39 rfl rfl rfl (L_len rfl Try.underlying39 rfl (Star.len 1 hst rfl) (mI rfl (nn ?_))))))))
 have hlen49 : List.length x14.terms≤9223372036854775807:=len_le (Star.len 1 hst rfl)
 obtain ⟨j49,hL49,hF⟩:=bind_some hF
 obtain ⟨R49,hR49⟩:=exR fun f w_=>∃ g27_0_46 : List Term,∃ H47 : FH,j49 = .nx g27_0_46∧Le H H47∧f 4 = Pt g7∧f 6 = Pt g27∧Star H47 w_ (oF 117 rTerm r25_0 g27_0_46 :: box g27 41 #[r25_0,I x30] :: box g7 41 #[S0,I 0] :: R)
 refine W_join R49 ?_ ?_
 refine W_block ?_
 obtain ⟨I49,hI49⟩:=exI fun n f w_=>∃ i_45 : Nat,∃ suf49 : List Term,∃ g27_0_46 : List Term,∃ H47 : FH,n = suf49.length∧List.drop i_45 x14.terms = suf49∧i_45 + suf49.length = x14.terms.length∧rangeL (i_Constraint_changed_b1 change) suf49 i_45 g27_0_46 = some j49∧Le H H47∧f 1 = .func (.func fid_1) #[] caps_1∧f 4 = Pt g7∧f 6 = Pt g27∧f 17 = I (x14.terms.length : Int)∧f 18 = I i_45∧Star H47 w_ (oF 117 rTerm r25_0 g27_0_46 :: box g27 41 #[r25_0,I x30] :: box g7 41 #[S0,I 0] :: R)
 have hst:=hst.gets [2,1,2] rfl
 have hst:=Star.drop 3 hst rfl
 refine W_loop I49 (n:=x14.terms.length) ?_ ?_
 exact ij hI49 ⟨0,x14.terms,x14.terms,H,rfl,rfl,Nat.zero_add _,hL49,(Le.refl _),rfl,rfl,rfl,rfl,rfl,hst⟩
 intro n49 f w_ hI
 obtain ⟨i_45,suf49,g27_0_46,H47,rfl,hd49,hl49,hL49,l48,sf1,sf4,sf6,sf17,sf18,hst⟩:=ik hI49 hI
 refine sq (L_lss rfl sf18 sf17 (nq (W_cond (b:=decide ((i_45 : Int) < (x14.terms.length : Int))) rfl (fun hc50=>?_) (fun hc50=>?_))))
 have hlt49:=of_decide_eq_true hc50
 rcases suf49 with _ | ⟨x_49,rest49⟩
 exact absurd hlt49 (by simp at hl49; omega)
 obtain ⟨o49,hB49,hL49⟩:=range_cons hL49
 rw [i_Constraint_changed_b1] at hB49
 have hix49:=drop_idx hd49
 refine W_skip (W_seq (W_block (sq (mF sf18 rfl (aI rfl (nn ?_))))))
 obtain ⟨x51,hx51,hB49⟩:=bind_some hB49
 obtain ⟨x56,hx56,hB49⟩:=bind_some hB49
 obtain ⟨g65,cap_g65,hv66,_,_⟩:=Star.row 0 hst rfl hx51
 refine W_drawS 11 [isV (Pt g27),isV (r25_0),isV (I i_45),isV (.func (.func fid_1) #[] caps_1),isV (Pt g27),isV (r25_0),isV (I i_45),isV (.pointer (some ⟨g65,Int.toNat (i_45 : Int) * 2,none⟩)),isV (.pointer (some ⟨g65,Int.toNat (i_45 : Int) * 2 + 0,none⟩)),isV (I x51.coef),isV (I x56)] [oF 117 rTerm r25_0 g27_0_46,box g27 41 #[r25_0,I x30],box g7 41 #[S0,I 0]] [] (R) [([],[]),([],[]),([],[]),([],[]),([],[]),([],[]),([],[]),([],[]),([],[]),([],[]),([],[])] (S:=[]) Try_mix (by kernel_rfl) rfl (by kernel_rfl) (amF_cons (mono_V _) (amF_cons (mono_V _) (amF_cons (mono_V _) (amF_cons (mono_V _) (amF_cons (mono_V _) (amF_cons (mono_V _) (amF_cons (mono_V _) (amF_cons (mono_V _) (amF_cons (mono_V _) (amF_cons (mono_V _) (amF_cons (mono_V _) amF_nil))))))))))) hst ?_ (fun f w_ H64 hS64 hE64 hT64 hst=>?_)
 refine opsS_cons (fun f w_ _ _ s _ _ hst=>fA 0 fa_41_0 ((s 6 rfl).trans sf6) rfl (nO rfl rfl hst)) (opsS_cons (fun f w_ _ _ _ _ p hst=>ldB 1 hst Try.isAgg39 (p 0 21 rfl rfl) rfl rfl (nO rfl rfl hst)) (opsS_cons (fun f w_ _ _ s _ _ hst=>mF ((s 7 rfl).trans rfl) rfl (nO rfl rfl hst)) (opsS_cons (fun f w_ _ _ s _ _ hst=>mF ((s 1 rfl).trans sf1) rfl (nO rfl rfl hst)) (opsS_cons (fun f w_ _ _ s _ _ hst=>fA 0 fa_41_0 ((s 6 rfl).trans sf6) rfl (nO rfl rfl hst)) (opsS_cons (fun f w_ _ _ _ _ p hst=>ldB 1 hst Try.isAgg39 (p 4 25 rfl rfl) rfl rfl (nO rfl rfl hst)) (opsS_cons (fun f w_ _ _ s _ _ hst=>mF ((s 7 rfl).trans rfl) rfl (nO rfl rfl hst)) (opsS_cons (fun f w_ _ _ _ _ p hst=>L_ixO (R:=(OR.frz rTerm)) (tb:=0) 0 rfl Try.underlying39 Try.sizeOf117 (p 5 26 rfl rfl) hv66 (by first | rfl | simp) (p 6 27 rfl rfl) hx51 (nO rfl rfl hst)) (opsS_cons (fun f w_ _ _ _ _ p hst=>fA (Int.toNat (i_45 : Int) * 2 + 0) fa_117_0 (p 7 28 rfl rfl) rfl (nO rfl rfl hst)) (opsS_cons ?_ ?_)))))))))
 intro f w_ H64 X64 hS64 hE64 hP64 hst
 obtain ⟨cs75,hr75,hat75⟩:=Star.eltF 0 hst rfl hv66 hx51
 obtain rfl:=rTerm_iff.1 hr75
 refine L_ld rfl Try.isAgg3 (hP64 8 29 rfl rfl) (At.cell hat75 (j:=0) rfl) (L_nil ⟨rfl,_,_,rfl,Le.refl _,fun _ _=>rfl,hst⟩)
 refine opsS_cons ?_ ?_
 intro f w_ H64 X64 hS64 hE64 hP64 hst
 obtain ⟨H77b,l78,s79,z80,k81⟩:=hst.borrow
 refine L_callv (args:=#[I x51.coef]) rfl hcall_1 (hP64 3 24 rfl rfl) (ops1 (hP64 9 30 rfl rfl)) (hc_1 _ _ (Le.trans (Le.trans l48 hE64) l78) s79 [I x51.coef] _ _ _ rfl hx56 (args_app rfl)) ?_
 rintro _ w82 ⟨rfl,hst⟩
 have hst:=k81 hst c0
 exact L_nil ⟨rfl,_,_,rfl,Le.refl _,fun _ _=>rfl,hst⟩
 exact opsS_nil
 refine L_ixO (R:=(OR.frz rTerm)) (tb:=0) 0 rfl Try.underlying39 Try.sizeOf117 (hT64 1 22 rfl rfl) hv66 (by first | rfl | simp) (hT64 2 23 rfl rfl) hx51 (fA (Int.toNat (i_45 : Int) * 2 + 0) fa_117_0 rfl rfl (L_stF (j:=0) (u:=I x56) (z:={ x51 with coef:=x56 }) rfl Try.sizeOf3 rfl rfl (hT64 10 31 rfl rfl) rfl hv66 hst hx51 fldF_rTerm_0 (fun w83 hst=>nn (W_region (L_add rfl ((hS64 18 rfl).trans sf18) rfl (mI rfl (nn ?_)))))))
 obtain rfl:=so hB49
 show ∃ m,m < _∧I49 m _ _
 refine ⟨rest49.length,by simp,?_⟩
 exact ij hI49 ⟨i_45 + 1,rest49,(g27_0_46.set (Int.toNat (i_45 : Int)) ({ x51 with coef:=x56 })),H64,rfl,drop_next hd49,by simp at hl49; omega,hL49,(Le.trans l48 hE64),((hS64 1 rfl).trans sf1),((hS64 4 rfl).trans sf4),((hS64 6 rfl).trans sf6),((hS64 17 rfl).trans sf17),(Eq.trans rfl (congrArg (Value.int .i64) (i64_succ (n:=x14.terms.length) (by simp at hl49; omega) hlen49))),hst⟩
 rcases suf49 with _ | ⟨_,_⟩
 obtain rfl:=range_nil hL49
 refine W_exit (rj hR49 ⟨g27_0_46,H47,rfl,l48,sf4,sf6,hst⟩)
 exact absurd (of_decide_eq_false hc50) (by simp at hl49; omega)
 intro f w_ hR
 obtain ⟨g27_0_46,H47,rfl,l48,sf4,sf6,hst⟩:=rk hR49 hR
 refine W_seq ?_
 obtain ⟨x87,hx87,hF⟩:=bind_some hF
 refine W_region (L_lda (cs:=[r25_0,I x30]) rfl Try.isAgg41 Try.sizeOf41 sf6 (At.sub0 (Blk.at (Star.blkAt 1 hst rfl)) 0 2) rfl ?_)
 obtain ⟨H90,l91,hst,hz92⟩:=Star.freeze hst
 have hz92 : (rS 117 rTerm).rel H90 [r25_0] g27_0_46:=hz92
 refine L_call rfl Try.call154 (ops1 rfl) (i_Constraint_valid_c (c:=({ terms:=g27_0_46,bound:=x30 } : Con)) hst hz92 hx87) ?_
 rintro _ w93 ⟨H93,l93,r93_0,rfl,hr93_0,hst⟩
 refine L_ex (v:=.agg #[r93_0,I x87.1.bound]) rfl rfl rfl (L_ex (v:=Bo x87.2) rfl rfl rfl (L_staB (vs:=#[r93_0,I x87.1.bound]) (cs2:=#[r93_0,I x87.1.bound]) 1 rfl Try.sizeOf41 sf4 rfl rfl (ones_cons (one_len (slice_len hr93_0)) (ones_cons rfl ones_nil)) hst rfl (by show 0 + 2≤2; decide) rfl (fun w94 hst=>aB rfl (nn (W_ret (retG2 (v1:=.agg #[r93_0,I x87.1.bound]) (v2:=Bo x87.2) Try.results149 (resV_agg Try.isAgg41 Try.sizeOf41 sf4 (Star.blkAt 0 hst rfl) rfl) rfl ?_))))))
 obtain rfl:=so hF
 have hst:=Star.drop 0 hst rfl
 have hst:=Star.drop 0 hst rfl
 exact ⟨H93,(Le.trans (Le.trans l48 l91) l93),r93_0,rfl,hr93_0,hst⟩
theorem i_MultiplyConstraint_1_c {c1 : Int} {n_ : Int} {g_c1 : Nat} {H : FH} {w : World} (hst : Star H w []) (hat_g_c1 : AtH H g_c1 0 [I c1]) {r : Int} (hF : i_MultiplyConstraint_1 c1 n_ = some r) :
 C Try.prog 150 #[I n_,Pt g_c1] w fun v w'=>v = I r∧Star H w' []:=by
 unfold i_MultiplyConstraint_1 at hF
 refine C_enter Try.func150 rfl Try.ntmps150 rfl (sq (aI rfl (ns (mI rfl (L_ld rfl Try.isAgg3 rfl (At.cell0 (AtH.at hat_g_c1 hst.sub) (j:=0) rfl) (L_mul rfl rfl rfl (aI rfl (nn (W_ret (retG1 (v1:=I (i64 (n_ * c1))) Try.results150 rfl ?_))))))))))
 obtain rfl:=so hF
 exact ⟨rfl,hst⟩
theorem i_MultiplyConstraint_c {c : Con} {k : Int} {v0_0 : Value} {H : FH} {w : World} {R : List Ass} (hst : Star H w R) (h0_0 : (rS 117 rTerm).rel H [v0_0] c.terms) {r : Con × Bool} (hF : i_MultiplyConstraint c k = some r) :
 C Try.prog 131 #[.agg #[v0_0,I c.bound],I k] w fun v w'=>∃ H' : FH,Le H H'∧∃ (u1 : Value),v = .tuple #[.agg #[u1,I r.1.bound],Bo r.2]∧(rS 117 rTerm).rel H' [u1] r.1.terms∧Star H' w' (R):=by
 unfold i_MultiplyConstraint at hF
 refine C_enter Try.func131 rfl Try.ntmps131 rfl (sq (L_box (v:=.agg #[v0_0,I c.bound]) (cs:=#[v0_0,I c.bound]) rfl rfl rfl hst (fun g7 w8 hst=>L_box (v:=I k) (cs:=#[I k]) rfl rfl rfl hst (fun g9 w10 hst=>L_al (cs:=#[S0,I 0]) rfl Try.zeroValue41 rfl hst (fun g11 w12 hst=>aB rfl (nq (W_seq ?_)))))))
 obtain ⟨x18,hx18,hF⟩:=bind_some hF
 obtain ⟨b27,hb27,hF⟩:=bind_some hF
 obtain ⟨R28,hR28⟩:=exR fun f w_=>f 2 = Pt g7∧f 3 = Pt g9∧f 4 = Pt g11∧f 13 = Bo b27∧Star H w_ (box g11 41 #[S0,I 0] :: box g9 3 #[I k] :: box g7 41 #[v0_0,I c.bound] :: R)
 refine W_join R28 ?_ ?_
 refine W_region (L_lda (cs:=[v0_0,I c.bound]) rfl Try.isAgg41 Try.sizeOf41 rfl (At.sub0 (Blk.at (Star.blkAt 2 hst rfl)) 0 2) rfl ?_)
 obtain ⟨H29b,l30,s31,z32,k33⟩:=hst.borrow
 refine L_call rfl Try.call61 (ops1 rfl) (i_ConstraintValid_c (c:=c) s31 (RP.mono _ h0_0 l30) hx18) ?_
 rintro _ w34 ⟨rfl,hst⟩
 have hst:=k33 hst c0
 refine L_not_ rfl rfl (mB rfl (L_split (d:=9) (b:=(!x18)) rfl (fun hc35=>?_) (fun hc35=>?_)))
 rw [ite_t hc35] at hb27
 refine ps rfl (ps rfl (ps rfl (L_pick (v:=Bo b27) rfl rfl (congrArg Value.bool (so hb27)) (nn (rj hR28 ⟨rfl,rfl,rfl,rfl,hst⟩)))))
 rw [ite_f hc35] at hb27
 obtain ⟨x25,hx25,hb27⟩:=bind_some hb27
 refine ldB 1 hst Try.isAgg3 rfl rfl rfl ?_
 obtain ⟨H36b,l37,s38,z39,k40⟩:=hst.borrow
 refine L_call rfl Try.call106 (ops3 rfl rfl rfl) (i_within_c (n_:=k) (low:=1) (high:=1000) s38 hx25) ?_
 rintro _ w41 ⟨rfl,hst⟩
 have hst:=k40 hst c0
 refine L_not_ rfl rfl (L_pick (v:=Bo b27) rfl rfl (congrArg Value.bool (so hb27)) (nn (rj hR28 ⟨rfl,rfl,rfl,rfl,hst⟩)))
 intro f w_ hR
 obtain ⟨sf2,sf3,sf4,sf13,hst⟩:=rk hR28 hR
 refine W_cond (b:=b27) sf13 (fun hc42=>?_) (fun hc42=>?_)
 have hF:=(ite_t hc42).symm.trans hF
 refine sq (L_bld rfl (parts0 ) (bld_41_  ) (L_staB (vs:=#[S0,I 0]) (cs2:=#[S0,I 0]) 0 rfl Try.sizeOf41 sf4 rfl rfl (ones_cons rfl (ones_cons rfl ones_nil)) hst rfl (by show 0 + 2≤2; decide) rfl (fun w44 hst=>aB rfl (nn (W_ret (retG2 (v1:=.agg #[S0,I 0]) (v2:=Bo false) Try.results131 (resV_agg Try.isAgg41 Try.sizeOf41 sf4 (Star.blkAt 0 hst rfl) rfl) rfl ?_))))))
 obtain rfl:=so hF
 have hst:=Star.drop 0 hst rfl
 have hst:=Star.drop 0 hst rfl
 have hst:=Star.drop 0 hst rfl
 exact ⟨H,(Le.refl _),S0,rfl,(rel_nil _ _ _),hst⟩
 have hF:=(ite_f hc42).symm.trans hF
 refine W_skip (W_seq ?_)
 obtain ⟨x48,hx48,hF⟩:=bind_some hF
 refine W_region (L_lda (cs:=[v0_0,I c.bound]) rfl Try.isAgg41 Try.sizeOf41 sf2 (At.sub0 (Blk.at (Star.blkAt 2 hst rfl)) 0 2) rfl (L_mf rfl (ops1 sf3) ?_))
 have hst:=hst.get 1 rfl
 obtain ⟨H51,l52,hst,hz_hat53⟩:=Star.freeze hst
 have hat53 : AtH H51 g9 0 [I k]:=AtH.of hz_hat53
 have hf54 : Fun1 Try.prog RP.int false (Value.int .i64) (i_MultiplyConstraint_1 k) (.func (.func 150) #[] #[Pt g9]) H51:=by
   refine ⟨_,_,rfl,Try.call150,fun H_ w_ hE_ hs_ cs_ x_ y_ args_ hr_ hy_ ha_=>?_⟩
   obtain rfl : cs_ = [_]:=hr_
   obtain rfl:=args_of (b:=#[I x_,Pt g9]) ha_
   exact i_MultiplyConstraint_1_c (c1:=k) (n_:=x_) hs_ (AtH.le (AtH.le hat53 (Le.refl _)) hE_) hy_
 refine L_call rfl Try.call149 (ops2 rfl rfl) (i_Constraint_changed_c (c:=c) (change:=(i_MultiplyConstraint_1 k)) hst (RP.mono _ h0_0 l52) hf54 hx48) ?_
 rintro _ w55 ⟨H55,l55,r55_0,rfl,hr55_0,hst⟩
 refine L_ex (v:=.agg #[r55_0,I x48.1.bound]) rfl rfl rfl (L_ex (v:=Bo x48.2) rfl rfl rfl (L_staB (vs:=#[r55_0,I x48.1.bound]) (cs2:=#[r55_0,I x48.1.bound]) 0 rfl Try.sizeOf41 sf4 rfl rfl (ones_cons (one_len (slice_len hr55_0)) (ones_cons rfl ones_nil)) hst rfl (by show 0 + 2≤2; decide) rfl (fun w56 hst=>aB rfl (nn (W_ret (retG2 (v1:=.agg #[r55_0,I x48.1.bound]) (v2:=Bo x48.2) Try.results131 (resV_agg Try.isAgg41 Try.sizeOf41 sf4 (Star.blkAt 0 hst rfl) rfl) rfl ?_))))))
 obtain rfl:=so hF
 have hst:=Star.drop 0 hst rfl
 have hst:=Star.drop 0 hst rfl
 exact ⟨H55,(Le.trans l52 l55),r55_0,rfl,hr55_0,hst⟩
theorem i_DivideConstraint_1_c {c1 : Int} {n_ : Int} {g_c1 : Nat} {H : FH} {w : World} (hst : Star H w []) (hat_g_c1 : AtH H g_c1 0 [I c1]) {r : Int} (hF : i_DivideConstraint_1 c1 n_ = some r) :
 C Try.prog 151 #[I n_,Pt g_c1] w fun v w'=>v = I r∧Star H w' []:=by
 unfold i_DivideConstraint_1 at hF
 refine C_enter Try.func151 rfl Try.ntmps151 rfl (sq (aI rfl (nq ?_)))
 obtain ⟨q1,hq1,hF⟩:=bind_some hF
 refine W_region (mI rfl (L_ld rfl Try.isAgg3 rfl (At.cell0 (AtH.at hat_g_c1 hst.sub) (j:=0) rfl) (L_add rfl rfl rfl (L_sub rfl rfl rfl (L_ld rfl Try.isAgg3 rfl (At.cell0 (AtH.at hat_g_c1 hst.sub) (j:=0) rfl) (L_quo (m:=i64 ((i64 (n_ + c1)) - 1)) (n:=c1) rfl rfl rfl (fun he=>by rw [if_pos he] at hq1; cases hq1) (aI rfl (nn (W_ret (retG1 (v1:=I (i64 (Int.tdiv (i64 ((i64 (n_ + c1)) - 1)) c1))) Try.results151 rfl ?_))))))))))
 obtain rfl:=so hF
 exact ⟨rfl,hst⟩
theorem i_DivideConstraint_c {c : Con} {k : Int} {v0_0 : Value} {H : FH} {w : World} {R : List Ass} (hst : Star H w R) (h0_0 : (rS 117 rTerm).rel H [v0_0] c.terms) {r : Con × Bool} (hF : i_DivideConstraint c k = some r) :
 C Try.prog 132 #[.agg #[v0_0,I c.bound],I k] w fun v w'=>∃ H' : FH,Le H H'∧∃ (u1 : Value),v = .tuple #[.agg #[u1,I r.1.bound],Bo r.2]∧(rS 117 rTerm).rel H' [u1] r.1.terms∧Star H' w' (R):=by
 unfold i_DivideConstraint at hF
 refine C_enter Try.func132 rfl Try.ntmps132 rfl (sq (L_box (v:=.agg #[v0_0,I c.bound]) (cs:=#[v0_0,I c.bound]) rfl rfl rfl hst (fun g7 w8 hst=>L_box (v:=I k) (cs:=#[I k]) rfl rfl rfl hst (fun g9 w10 hst=>L_al (cs:=#[S0,I 0]) rfl Try.zeroValue41 rfl hst (fun g11 w12 hst=>aB rfl (nq (W_seq ?_)))))))
 obtain ⟨x18,hx18,hF⟩:=bind_some hF
 obtain ⟨b27,hb27,hF⟩:=bind_some hF
 obtain ⟨R28,hR28⟩:=exR fun f w_=>f 2 = Pt g7∧f 3 = Pt g9∧f 4 = Pt g11∧f 13 = Bo b27∧Star H w_ (box g11 41 #[S0,I 0] :: box g9 3 #[I k] :: box g7 41 #[v0_0,I c.bound] :: R)
 refine W_join R28 ?_ ?_
 refine W_region (L_lda (cs:=[v0_0,I c.bound]) rfl Try.isAgg41 Try.sizeOf41 rfl (At.sub0 (Blk.at (Star.blkAt 2 hst rfl)) 0 2) rfl ?_)
 obtain ⟨H29b,l30,s31,z32,k33⟩:=hst.borrow
 refine L_call rfl Try.call61 (ops1 rfl) (i_ConstraintValid_c (c:=c) s31 (RP.mono _ h0_0 l30) hx18) ?_
 rintro _ w34 ⟨rfl,hst⟩
 have hst:=k33 hst c0
 refine L_not_ rfl rfl (mB rfl (L_split (d:=9) (b:=(!x18)) rfl (fun hc35=>?_) (fun hc35=>?_)))
 rw [ite_t hc35] at hb27
 refine ps rfl (ps rfl (ps rfl (L_pick (v:=Bo b27) rfl rfl (congrArg Value.bool (so hb27)) (nn (rj hR28 ⟨rfl,rfl,rfl,rfl,hst⟩)))))
 rw [ite_f hc35] at hb27
 obtain ⟨x25,hx25,hb27⟩:=bind_some hb27
 refine ldB 1 hst Try.isAgg3 rfl rfl rfl ?_
 obtain ⟨H36b,l37,s38,z39,k40⟩:=hst.borrow
 refine L_call rfl Try.call106 (ops3 rfl rfl rfl) (i_within_c (n_:=k) (low:=1) (high:=1000) s38 hx25) ?_
 rintro _ w41 ⟨rfl,hst⟩
 have hst:=k40 hst c0
 refine L_not_ rfl rfl (L_pick (v:=Bo b27) rfl rfl (congrArg Value.bool (so hb27)) (nn (rj hR28 ⟨rfl,rfl,rfl,rfl,hst⟩)))
 intro f w_ hR
 obtain ⟨sf2,sf3,sf4,sf13,hst⟩:=rk hR28 hR
 refine W_cond (b:=b27) sf13 (fun hc42=>?_) (fun hc42=>?_)
 have hF:=(ite_t hc42).symm.trans hF
 refine sq (L_bld rfl (parts0 ) (bld_41_  ) (L_staB (vs:=#[S0,I 0]) (cs2:=#[S0,I 0]) 0 rfl Try.sizeOf41 sf4 rfl rfl (ones_cons rfl (ones_cons rfl ones_nil)) hst rfl (by show 0 + 2≤2; decide) rfl (fun w44 hst=>aB rfl (nn (W_ret (retG2 (v1:=.agg #[S0,I 0]) (v2:=Bo false) Try.results132 (resV_agg Try.isAgg41 Try.sizeOf41 sf4 (Star.blkAt 0 hst rfl) rfl) rfl ?_))))))
 obtain rfl:=so hF
 have hst:=Star.drop 0 hst rfl
 have hst:=Star.drop 0 hst rfl
 have hst:=Star.drop 0 hst rfl
 exact ⟨H,(Le.refl _),S0,rfl,(rel_nil _ _ _),hst⟩
 have hF:=(ite_f hc42).symm.trans hF
 refine W_skip (W_seq ?_)
 obtain ⟨x48,hx48,hF⟩:=bind_some hF
 refine W_region (L_lda (cs:=[v0_0,I c.bound]) rfl Try.isAgg41 Try.sizeOf41 sf2 (At.sub0 (Blk.at (Star.blkAt 2 hst rfl)) 0 2) rfl (L_mf rfl (ops1 sf3) ?_))
 have hst:=hst.get 1 rfl
 obtain ⟨H51,l52,hst,hz_hat53⟩:=Star.freeze hst
 have hat53 : AtH H51 g9 0 [I k]:=AtH.of hz_hat53
 have hf54 : Fun1 Try.prog RP.int false (Value.int .i64) (i_DivideConstraint_1 k) (.func (.func 151) #[] #[Pt g9]) H51:=by
   refine ⟨_,_,rfl,Try.call151,fun H_ w_ hE_ hs_ cs_ x_ y_ args_ hr_ hy_ ha_=>?_⟩
   obtain rfl : cs_ = [_]:=hr_
   obtain rfl:=args_of (b:=#[I x_,Pt g9]) ha_
   exact i_DivideConstraint_1_c (c1:=k) (n_:=x_) hs_ (AtH.le (AtH.le hat53 (Le.refl _)) hE_) hy_
 refine L_call rfl Try.call149 (ops2 rfl rfl) (i_Constraint_changed_c (c:=c) (change:=(i_DivideConstraint_1 k)) hst (RP.mono _ h0_0 l52) hf54 hx48) ?_
 rintro _ w55 ⟨H55,l55,r55_0,rfl,hr55_0,hst⟩
 refine L_ex (v:=.agg #[r55_0,I x48.1.bound]) rfl rfl rfl (L_ex (v:=Bo x48.2) rfl rfl rfl (L_staB (vs:=#[r55_0,I x48.1.bound]) (cs2:=#[r55_0,I x48.1.bound]) 0 rfl Try.sizeOf41 sf4 rfl rfl (ones_cons (one_len (slice_len hr55_0)) (ones_cons rfl ones_nil)) hst rfl (by show 0 + 2≤2; decide) rfl (fun w56 hst=>aB rfl (nn (W_ret (retG2 (v1:=.agg #[r55_0,I x48.1.bound]) (v2:=Bo x48.2) Try.results132 (resV_agg Try.isAgg41 Try.sizeOf41 sf4 (Star.blkAt 0 hst rfl) rfl) rfl ?_))))))
 obtain rfl:=so hF
 have hst:=Star.drop 0 hst rfl
 have hst:=Star.drop 0 hst rfl
 exact ⟨H55,(Le.trans l52 l55),r55_0,rfl,hr55_0,hst⟩
theorem i_SaturateConstraint_c {c : Con} {v0_0 : Value} {H : FH} {w : World} (hst : Star H w []) (h0_0 : (rS 117 rTerm).rel H [v0_0] c.terms) {r : Con × Bool} (hF : i_SaturateConstraint c = some r) :
 C Try.prog 133 #[.agg #[v0_0,I c.bound]] w fun v w'=>∃ (u1 : Value),v = .tuple #[.agg #[u1,I r.1.bound],Bo r.2]∧Star H w' [oF 117 rTerm u1 r.1.terms]:=by
 unfold i_SaturateConstraint at hF
 refine C_enter Try.func133 rfl Try.ntmps133 rfl (sq (L_box (v:=.agg #[v0_0,I c.bound]) (cs:=#[v0_0,I c.bound]) rfl rfl rfl hst (fun g5 w6 hst=>L_al (cs:=#[S0,I 0]) rfl Try.zeroValue41 rfl hst (fun g7 w8 hst=>aB rfl (nq (W_seq ?_))))))
 obtain ⟨x14,hx14,hF⟩:=bind_some hF
 refine W_region (L_lda (cs:=[v0_0,I c.bound]) rfl Try.isAgg41 Try.sizeOf41 rfl (At.sub0 (Blk.at (Star.blkAt 1 hst rfl)) 0 2) rfl ?_)
 obtain ⟨H16b,l17,s18,z19,k20⟩:=hst.borrow
 refine L_call rfl Try.call61 (ops1 rfl) (i_ConstraintValid_c (c:=c) s18 (RP.mono _ h0_0 l17) hx14) ?_
 rintro _ w21 ⟨rfl,hst⟩
 have hst:=k20 hst c0
 refine L_not_ rfl rfl (nn (W_cond (b:=(!x14)) rfl (fun hc22=>?_) (fun hc22=>?_)))
 have hF:=(ite_t hc22).symm.trans hF
 refine sq (L_bld rfl (parts0 ) (bld_41_  ) (L_staB (vs:=#[S0,I 0]) (cs2:=#[S0,I 0]) 0 rfl Try.sizeOf41 rfl rfl rfl (ones_cons rfl (ones_cons rfl ones_nil)) hst rfl (by show 0 + 2≤2; decide) rfl (fun w24 hst=>aB rfl (nn (W_ret (retG2 (v1:=.agg #[S0,I 0]) (v2:=Bo false) Try.results133 (resV_agg Try.isAgg41 Try.sizeOf41 rfl (Star.blkAt 0 hst rfl) rfl) rfl ?_))))))
 obtain rfl:=so hF
 have hst:=Star.addNil (R:=(OR.frz rTerm)) (e:=117) hst
 exact ⟨S0,rfl,(Star.keepN 1 hst)⟩
 have hF:=(ite_f hc22).symm.trans hF
 refine W_skip (sq (fA 1 fa_41_1 rfl rfl (ldB 1 hst Try.isAgg3 rfl rfl rfl (L_bld rfl (parts1 rfl) (bld_41_1 (I c.bound) rfl) (L_al (cs:=#[S0,I 0]) rfl Try.zeroValue41 rfl hst (fun g29 w30 hst=>L_staB (vs:=#[S0,I c.bound]) (cs2:=#[S0,I c.bound]) 0 rfl Try.sizeOf41 rfl rfl rfl (ones_cons rfl (ones_cons rfl ones_nil)) hst rfl (by show 0 + 2≤2; decide) rfl (fun w31 hst=>nq (sq (fA 1 fa_41_1 rfl rfl (ldB 2 hst Try.isAgg3 rfl rfl rfl (L_gtr rfl rfl rfl (nn ?_))))))))))))
 obtain ⟨g29_0_32,hA34,hF⟩:=bind_some hF
 obtain ⟨R34,hR34⟩:=exR fun f w_=>∃ v32_g29_0 : Value,f 2 = Pt g7∧f 4 = Pt g29∧Star H w_ ([oF 117 rTerm v32_g29_0 g29_0_32,box g29 41 #[v32_g29_0,I c.bound],box g7 41 #[S0,I 0]])
 refine W_join R34 ?_ ?_
 refine W_cond (b:=decide (c.bound > 0)) rfl (fun hc35=>?_) (fun hc35=>?_)
 have hA34:=(ite_t hc35).symm.trans hA34
 refine sq (fA 0 fa_41_0 rfl rfl (ldB 2 hst Try.isAgg39 rfl rfl rfl (L_len rfl Try.underlying39 rfl (slice_len h0_0) (mI rfl (nn ?_)))))
 have hlen39 : List.length c.terms≤9223372036854775807:=len_le (slice_len h0_0)
 obtain ⟨j39,hL39,hA34⟩:=bind_some hA34
 obtain ⟨R39,hR39⟩:=exR fun f w_=>∃ g29_0_37 : List Term,∃ v37_g29_0 : Value,j39 = .nx g29_0_37∧f 2 = Pt g7∧f 4 = Pt g29∧Star H w_ ([oF 117 rTerm v37_g29_0 g29_0_37,box g29 41 #[v37_g29_0,I c.bound],box g7 41 #[S0,I 0]])
 refine W_join R39 ?_ ?_
 refine W_block ?_
 obtain ⟨I39,hI39⟩:=exI fun n f w_=>∃ i_36 : Nat,∃ suf39 : List Term,∃ g29_0_37 : List Term,∃ v37_g29_0 : Value,n = suf39.length∧List.drop i_36 c.terms = suf39∧i_36 + suf39.length = c.terms.length∧rangeL (i_SaturateConstraint_b1 c) suf39 i_36 g29_0_37 = some j39∧f 1 = Pt g5∧f 2 = Pt g7∧f 4 = Pt g29∧f 18 = v0_0∧f 19 = I (c.terms.length : Int)∧f 20 = I i_36∧Star H w_ ([oF 117 rTerm v37_g29_0 g29_0_37,box g29 41 #[v37_g29_0,I c.bound],box g7 41 #[S0,I 0],box g5 41 #[v0_0,I c.bound]])
 have hst:=Star.addNil (R:=(OR.frz rTerm)) (e:=117) hst
 refine W_loop I39 (n:=c.terms.length) ?_ ?_
 exact ij hI39 ⟨0,c.terms,[],S0,rfl,rfl,Nat.zero_add _,hL39,rfl,rfl,rfl,rfl,rfl,rfl,hst⟩
 intro n39 f w_ hI
 obtain ⟨i_36,suf39,g29_0_37,v37_g29_0,rfl,hd39,hl39,hL39,sf1,sf2,sf4,sf18,sf19,sf20,hst⟩:=ik hI39 hI
 refine sq (L_lss rfl sf20 sf19 (nq (W_cond (b:=decide ((i_36 : Int) < (c.terms.length : Int))) rfl (fun hc41=>?_) (fun hc41=>?_))))
 have hlt39:=of_decide_eq_true hc41
 rcases suf39 with _ | ⟨x_39,rest39⟩
 exact absurd hlt39 (by simp at hl39; omega)
 obtain ⟨o39,hB39,hL39⟩:=range_cons hL39
 rw [i_SaturateConstraint_b1] at hB39
 have hix39:=drop_idx hd39
 refine W_skip (W_seq (W_block (sq (L_ix (r:=rTerm) rfl Try.underlying39 Try.sizeOf117 sf18 h0_0 sf20 hix39 (fun g49 o50 cs_g49 hrk_hat51 hat51=>?_)))))
 obtain rfl:=rTerm_iff.1 hrk_hat51
 refine L_lda (cs:=[I x_39.coef,I x_39.lit]) rfl Try.isAgg117 Try.sizeOf117 rfl (At.sub (AtH.at hat51 hst.sub) 0 2) rfl (L_al (cs:=#[I 0,I 0]) rfl Try.zeroValue117 rfl hst (fun g53 w54 hst=>L_staB (vs:=#[I x_39.coef,I x_39.lit]) (cs2:=#[I x_39.coef,I x_39.lit]) 0 rfl Try.sizeOf117 rfl rfl rfl (ones_cons rfl (ones_cons rfl ones_nil)) hst rfl (by show 0 + 2≤2; decide) rfl (fun w55 hst=>nn ?_)))
 obtain ⟨x59,hx59,hB39⟩:=bind_some hB39
 refine W_region (fA 0 fa_41_0 sf4 rfl (ldB 2 hst Try.isAgg39 rfl rfl rfl (fA 0 fa_117_0 rfl rfl (ldB 0 hst Try.isAgg3 rfl rfl rfl (fA 1 fa_41_1 sf1 rfl (ldB 4 hst Try.isAgg3 rfl rfl rfl (L_min rfl rfl rfl (fA 1 fa_117_1 rfl rfl (ldB 0 hst Try.isAgg3 rfl rfl rfl (L_bld rfl (parts2 rfl rfl) (bld_117_0_1 (I (min x_39.coef c.bound)) (I x_39.lit) rfl rfl) (L_bs rfl (parts1 rfl) (bs_39_1_2 (I (min x_39.coef c.bound)) (I x_39.lit) ) hst (fun g64 w65 hst=>?_))))))))))))
 have hst:=Star.addF (r:=rTerm) (cs:=[I (min x_39.coef c.bound),I x_39.lit]) (x:=({ coef:=min x_39.coef c.bound,lit:=x_39.lit } : Term)) hst (rTerm_iff.2 rfl)
 have hst:=Star.mkRow (R:=(OR.frz rTerm)) [([I (min x_39.coef c.bound),I x_39.lit],({ coef:=min x_39.coef c.bound,lit:=x_39.lit } : Term))] [({ coef:=min x_39.coef c.bound,lit:=x_39.lit } : Term)] 1 hst rfl rfl rfl (by decide)
 have hst:=hst.get 2 rfl
 refine L_appM (v:=v37_g29_0) (u:=(Sl g64 1 1)) rfl et_39 rfl rfl hst hx59 (fun v67 w68 hst=>fA 0 fa_41_0 sf4 rfl (L_stB (v:=v67) (cs2:=#[v67,I c.bound]) 2 rfl Try.sizeOf39 rfl rfl (one_len (Star.len 0 hst rfl)) hst rfl rfl rfl (fun w70 hst=>nn (W_region (L_add rfl sf20 rfl (mI rfl (nn ?_)))))))
 obtain rfl:=so hB39
 have hst:=hst.gets [4,4,2,3] rfl
 show ∃ m,m < _∧I39 m _ _
 refine ⟨rest39.length,by simp,?_⟩
 exact ij hI39 ⟨i_36 + 1,rest39,x59,v67,rfl,drop_next hd39,by simp at hl39; omega,hL39,sf1,sf2,sf4,sf18,sf19,(Eq.trans rfl (congrArg (Value.int .i64) (i64_succ (n:=c.terms.length) (by simp at hl39; omega) hlen39))),(Star.keepN 4 hst)⟩
 rcases suf39 with _ | ⟨_,_⟩
 obtain rfl:=range_nil hL39
 refine W_exit (rj hR39 ⟨g29_0_37,v37_g29_0,rfl,sf2,sf4,(Star.keepN 3 hst)⟩)
 exact absurd (of_decide_eq_false hc41) (by simp at hl39; omega)
 intro f w_ hR
 obtain ⟨g29_0_37,v37_g29_0,rfl,sf2,sf4,hst⟩:=rk hR39 hR
 obtain rfl:=so hA34
 exact rj hR34 ⟨v37_g29_0,sf2,sf4,hst⟩
 have hA34:=(ite_f hc35).symm.trans hA34
 refine W_skip ?_
 obtain rfl:=so hA34
 have hst:=Star.addNil (R:=(OR.frz rTerm)) (e:=117) hst
 exact rj hR34 ⟨S0,rfl,rfl,(Star.keepN 3 hst)⟩
 intro f w_ hR
 obtain ⟨v32_g29_0,sf2,sf4,hst⟩:=rk hR34 hR
 refine sq (L_lda (cs:=[v32_g29_0,I c.bound]) rfl Try.isAgg41 Try.sizeOf41 sf4 (At.sub0 (Blk.at (Star.blkAt 1 hst rfl)) 0 2) rfl (L_staB (vs:=#[v32_g29_0,I c.bound]) (cs2:=#[v32_g29_0,I c.bound]) 2 rfl Try.sizeOf41 sf2 rfl rfl (ones_cons (one_len (Star.len 0 hst rfl)) (ones_cons rfl ones_nil)) hst rfl (by show 0 + 2≤2; decide) rfl (fun w73 hst=>aB rfl (nn (W_ret (retG2 (v1:=.agg #[v32_g29_0,I c.bound]) (v2:=Bo true) Try.results133 (resV_agg Try.isAgg41 Try.sizeOf41 sf2 (Star.blkAt 0 hst rfl) rfl) rfl ?_))))))
 obtain rfl:=so hF
 have hst:=hst.get 1 rfl
 exact ⟨v32_g29_0,rfl,(Star.keepN 1 hst)⟩
theorem i_WeakenConstraint_c {c : Con} {variable_ : Int} {v0_0 : Value} {H : FH} {w : World} (hst : Star H w []) (h0_0 : (rS 117 rTerm).rel H [v0_0] c.terms) {r : Con × Bool} (hF : i_WeakenConstraint c variable_ = some r) :
 C Try.prog 134 #[.agg #[v0_0,I c.bound],I variable_] w fun v w'=>∃ (u1 : Value),v = .tuple #[.agg #[u1,I r.1.bound],Bo r.2]∧Star H w' [oF 117 rTerm u1 r.1.terms]:=by
 unfold i_WeakenConstraint at hF
 refine C_enter Try.func134 rfl Try.ntmps134 rfl (sq (L_box (v:=.agg #[v0_0,I c.bound]) (cs:=#[v0_0,I c.bound]) rfl rfl rfl hst (fun g5 w6 hst=>L_al (cs:=#[S0,I 0]) rfl Try.zeroValue41 rfl hst (fun g7 w8 hst=>aB rfl (nq (W_seq ?_))))))
 obtain ⟨x14,hx14,hF⟩:=bind_some hF
 obtain ⟨b23,hb23,hF⟩:=bind_some hF
 obtain ⟨R24,hR24⟩:=exR fun f w_=>f 1 = I variable_∧f 2 = Pt g5∧f 4 = Pt g7∧f 16 = Bo b23∧Star H w_ ([box g7 41 #[S0,I 0],box g5 41 #[v0_0,I c.bound]])
 refine W_join R24 ?_ ?_
 refine W_region (L_lda (cs:=[v0_0,I c.bound]) rfl Try.isAgg41 Try.sizeOf41 rfl (At.sub0 (Blk.at (Star.blkAt 1 hst rfl)) 0 2) rfl ?_)
 obtain ⟨H25b,l26,s27,z28,k29⟩:=hst.borrow
 refine L_call rfl Try.call61 (ops1 rfl) (i_ConstraintValid_c (c:=c) s27 (RP.mono _ h0_0 l26) hx14) ?_
 rintro _ w30 ⟨rfl,hst⟩
 have hst:=k29 hst c0
 refine L_not_ rfl rfl (mB rfl (L_split (d:=12) (b:=(!x14)) rfl (fun hc31=>?_) (fun hc31=>?_)))
 rw [ite_t hc31] at hb23
 refine ps rfl (ps rfl (ps rfl (L_pick (v:=Bo b23) rfl rfl (congrArg Value.bool (so hb23)) (nn (rj hR24 ⟨rfl,rfl,rfl,rfl,hst⟩)))))
 rw [ite_f hc31] at hb23
 obtain ⟨x21,hx21,hb23⟩:=bind_some hb23
 refine mI rfl ?_
 obtain ⟨H32b,l33,s34,z35,k36⟩:=hst.borrow
 refine L_call rfl Try.call106 (ops3 rfl rfl rfl) (i_within_c (n_:=variable_) (low:=1) (high:=12) s34 hx21) ?_
 rintro _ w37 ⟨rfl,hst⟩
 have hst:=k36 hst c0
 refine L_not_ rfl rfl (L_pick (v:=Bo b23) rfl rfl (congrArg Value.bool (so hb23)) (nn (rj hR24 ⟨rfl,rfl,rfl,rfl,hst⟩)))
 intro f w_ hR
 obtain ⟨sf1,sf2,sf4,sf16,hst⟩:=rk hR24 hR
 refine W_cond (b:=b23) sf16 (fun hc38=>?_) (fun hc38=>?_)
 have hF:=(ite_t hc38).symm.trans hF
 refine sq (L_bld rfl (parts0 ) (bld_41_  ) (L_staB (vs:=#[S0,I 0]) (cs2:=#[S0,I 0]) 0 rfl Try.sizeOf41 sf4 rfl rfl (ones_cons rfl (ones_cons rfl ones_nil)) hst rfl (by show 0 + 2≤2; decide) rfl (fun w40 hst=>aB rfl (nn (W_ret (retG2 (v1:=.agg #[S0,I 0]) (v2:=Bo false) Try.results134 (resV_agg Try.isAgg41 Try.sizeOf41 sf4 (Star.blkAt 0 hst rfl) rfl) rfl ?_))))))
 obtain rfl:=so hF
 have hst:=Star.addNil (R:=(OR.frz rTerm)) (e:=117) hst
 exact ⟨S0,rfl,(Star.keepN 1 hst)⟩
 have hF:=(ite_f hc38).symm.trans hF
 refine W_skip (sq (fA 1 fa_41_1 sf2 rfl (ldB 1 hst Try.isAgg3 rfl rfl rfl (L_bld rfl (parts1 rfl) (bld_41_1 (I c.bound) rfl) (L_al (cs:=#[S0,I 0]) rfl Try.zeroValue41 rfl hst (fun g45 w46 hst=>L_staB (vs:=#[S0,I c.bound]) (cs2:=#[S0,I c.bound]) 0 rfl Try.sizeOf41 rfl rfl rfl (ones_cons rfl (ones_cons rfl ones_nil)) hst rfl (by show 0 + 2≤2; decide) rfl (fun w47 hst=>nq (sq (fA 0 fa_41_0 sf2 rfl (ldB 2 hst Try.isAgg39 rfl rfl rfl (L_len rfl Try.underlying39 rfl (slice_len h0_0) (mI rfl (nn ?_)))))))))))))
 have hlen52 : List.length c.terms≤9223372036854775807:=len_le (slice_len h0_0)
 obtain ⟨j52,hL52,hF⟩:=bind_some hF
 obtain ⟨R52,hR52⟩:=exR fun f w_=>∃ g45_0_49 : List Term,∃ g45_1_51 : Int,∃ v49_g45_0 : Value,j52 = .nx (g45_0_49,g45_1_51)∧f 4 = Pt g7∧f 6 = Pt g45∧Star H w_ ([oF 117 rTerm v49_g45_0 g45_0_49,box g45 41 #[v49_g45_0,I g45_1_51],box g7 41 #[S0,I 0]])
 refine W_join R52 ?_ ?_
 refine W_block ?_
 obtain ⟨I52,hI52⟩:=exI fun n f w_=>∃ i_48 : Nat,∃ suf52 : List Term,∃ g45_0_49 : List Term,∃ g45_1_51 : Int,∃ v49_g45_0 : Value,n = suf52.length∧List.drop i_48 c.terms = suf52∧i_48 + suf52.length = c.terms.length∧rangeL (i_WeakenConstraint_b1 c variable_) suf52 i_48 (g45_0_49,g45_1_51) = some j52∧f 1 = I variable_∧f 2 = Pt g5∧f 4 = Pt g7∧f 6 = Pt g45∧f 22 = v0_0∧f 23 = I (c.terms.length : Int)∧f 24 = I i_48∧Star H w_ ([oF 117 rTerm v49_g45_0 g45_0_49,box g45 41 #[v49_g45_0,I g45_1_51],box g7 41 #[S0,I 0],box g5 41 #[v0_0,I c.bound]])
 have hst:=Star.addNil (R:=(OR.frz rTerm)) (e:=117) hst
 refine W_loop I52 (n:=c.terms.length) ?_ ?_
 exact ij hI52 ⟨0,c.terms,[],c.bound,S0,rfl,rfl,Nat.zero_add _,hL52,sf1,sf2,sf4,rfl,rfl,rfl,rfl,hst⟩
 intro n52 f w_ hI
 obtain ⟨i_48,suf52,g45_0_49,g45_1_51,v49_g45_0,rfl,hd52,hl52,hL52,sf1,sf2,sf4,sf6,sf22,sf23,sf24,hst⟩:=ik hI52 hI
 refine sq (L_lss rfl sf24 sf23 (nq (W_cond (b:=decide ((i_48 : Int) < (c.terms.length : Int))) rfl (fun hc54=>?_) (fun hc54=>?_))))
 have hlt52:=of_decide_eq_true hc54
 rcases suf52 with _ | ⟨x_52,rest52⟩
 exact absurd hlt52 (by simp at hl52; omega)
 obtain ⟨o52,hB52,hL52⟩:=range_cons hL52
 rw [i_WeakenConstraint_b1] at hB52
 have hix52:=drop_idx hd52
 refine W_skip (W_seq (W_block (sq (L_ix (r:=rTerm) rfl Try.underlying39 Try.sizeOf117 sf22 h0_0 sf24 hix52 (fun g62 o63 cs_g62 hrk_hat64 hat64=>?_)))))
 obtain rfl:=rTerm_iff.1 hrk_hat64
 refine L_lda (cs:=[I x_52.coef,I x_52.lit]) rfl Try.isAgg117 Try.sizeOf117 rfl (At.sub (AtH.at hat64 hst.sub) 0 2) rfl (L_al (cs:=#[I 0,I 0]) rfl Try.zeroValue117 rfl hst (fun g66 w67 hst=>L_staB (vs:=#[I x_52.coef,I x_52.lit]) (cs2:=#[I x_52.coef,I x_52.lit]) 0 rfl Try.sizeOf117 rfl rfl rfl (ones_cons rfl (ones_cons rfl ones_nil)) hst rfl (by show 0 + 2≤2; decide) rfl (fun w68 hst=>nq ?_)))
 obtain ⟨x74,hx74,hB52⟩:=bind_some hB52
 refine W_region (fA 1 fa_117_1 rfl rfl (ldB 0 hst Try.isAgg3 rfl rfl rfl ?_))
 obtain ⟨H76b,l77,s78,z79,k80⟩:=hst.borrow
 refine L_call rfl Try.call105 (ops1 rfl) (i_variableOf_c (l:=x_52.lit) s78 hx74) ?_
 rintro _ w81 ⟨rfl,hst⟩
 have hst:=k80 hst c0
 refine mF sf1 rfl (L_eql rfl rfl rfl (nn ?_))
 obtain ⟨⟨g45_0_82,g45_1_84⟩,hA85,hB52⟩:=bind_some hB52
 obtain ⟨R85,hR85⟩:=exR fun f w_=>∃ v82_g45_0 : Value,f 1 = I variable_∧f 2 = Pt g5∧f 4 = Pt g7∧f 6 = Pt g45∧f 22 = v0_0∧f 23 = I (c.terms.length : Int)∧f 24 = I i_48∧Star H w_ ([oF 117 rTerm v82_g45_0 g45_0_82,box g45 41 #[v82_g45_0,I g45_1_84],box g7 41 #[S0,I 0],box g5 41 #[v0_0,I c.bound]])
 refine W_join R85 ?_ ?_
 refine W_cond (b:=(x74 == variable_)) rfl (fun hc86=>?_) (fun hc86=>?_)
 have hA85:=(ite_t hc86).symm.trans hA85
 refine W_region (fA 1 fa_41_1 sf2 rfl (ldB 4 hst Try.isAgg3 rfl rfl rfl (fA 0 fa_117_0 rfl rfl (ldB 0 hst Try.isAgg3 rfl rfl rfl (L_sub rfl rfl rfl (L_max rfl rfl rfl (fA 1 fa_41_1 sf6 rfl (L_stB (v:=I (max 0 (i64 (c.bound - x_52.coef)))) (cs2:=#[v49_g45_0,I (max 0 (i64 (c.bound - x_52.coef)))]) 2 rfl Try.sizeOf3 rfl rfl rfl hst rfl rfl rfl (fun w88 hst=>nn ?_)))))))))
 obtain ⟨rfl,rfl⟩:=so2 hA85
 have hst:=hst.gets [4,4,2,4] rfl
 exact rj hR85 ⟨v49_g45_0,sf1,sf2,sf4,sf6,sf22,sf23,sf24,(Star.keepN 4 hst)⟩
 have hA85:=(ite_f hc86).symm.trans hA85
 obtain ⟨x92,hx92,hA85⟩:=bind_some hA85
 refine W_region (fA 0 fa_41_0 sf6 rfl (ldB 2 hst Try.isAgg39 rfl rfl rfl (L_lda (cs:=[I x_52.coef,I x_52.lit]) rfl Try.isAgg117 Try.sizeOf117 rfl (At.sub0 (Blk.at (Star.blkAt 0 hst rfl)) 0 2) rfl (L_bs rfl (parts1 rfl) (bs_39_1_2 (I x_52.coef) (I x_52.lit) ) hst (fun g97 w98 hst=>?_)))))
 have hst:=Star.addF (r:=rTerm) (cs:=[I x_52.coef,I x_52.lit]) (x:=x_52) hst (rTerm_iff.2 rfl)
 have hst:=Star.mkRow (R:=(OR.frz rTerm)) [([I x_52.coef,I x_52.lit],x_52)] [x_52] 1 hst rfl rfl rfl (by decide)
 have hst:=hst.get 2 rfl
 refine L_appM (v:=v49_g45_0) (u:=(Sl g97 1 1)) rfl et_39 rfl rfl hst hx92 (fun v100 w101 hst=>fA 0 fa_41_0 sf6 rfl (L_stB (v:=v100) (cs2:=#[v100,I g45_1_51]) 2 rfl Try.sizeOf39 rfl rfl (one_len (Star.len 0 hst rfl)) hst rfl rfl rfl (fun w103 hst=>nn ?_)))
 obtain ⟨rfl,rfl⟩:=so2 hA85
 have hst:=hst.gets [4,4,2,3] rfl
 exact rj hR85 ⟨v100,sf1,sf2,sf4,sf6,sf22,sf23,sf24,(Star.keepN 4 hst)⟩
 intro f w_ hR
 obtain ⟨v82_g45_0,sf1,sf2,sf4,sf6,sf22,sf23,sf24,hst⟩:=rk hR85 hR
 refine W_region (L_add rfl sf24 rfl (mI rfl (nn ?_)))
 obtain rfl:=so hB52
 show ∃ m,m < _∧I52 m _ _
 refine ⟨rest52.length,by simp,?_⟩
 exact ij hI52 ⟨i_48 + 1,rest52,g45_0_82,g45_1_84,v82_g45_0,rfl,drop_next hd52,by simp at hl52; omega,hL52,sf1,sf2,sf4,sf6,sf22,sf23,(Eq.trans rfl (congrArg (Value.int .i64) (i64_succ (n:=c.terms.length) (by simp at hl52; omega) hlen52))),hst⟩
 rcases suf52 with _ | ⟨_,_⟩
 obtain rfl:=range_nil hL52
 refine W_exit (rj hR52 ⟨g45_0_49,g45_1_51,v49_g45_0,rfl,sf4,sf6,(Star.keepN 3 hst)⟩)
 exact absurd (of_decide_eq_false hc54) (by simp at hl52; omega)
 intro f w_ hR
 obtain ⟨g45_0_49,g45_1_51,v49_g45_0,rfl,sf4,sf6,hst⟩:=rk hR52 hR
 refine sq (L_lda (cs:=[v49_g45_0,I g45_1_51]) rfl Try.isAgg41 Try.sizeOf41 sf6 (At.sub0 (Blk.at (Star.blkAt 1 hst rfl)) 0 2) rfl (L_staB (vs:=#[v49_g45_0,I g45_1_51]) (cs2:=#[v49_g45_0,I g45_1_51]) 2 rfl Try.sizeOf41 sf4 rfl rfl (ones_cons (one_len (Star.len 0 hst rfl)) (ones_cons rfl ones_nil)) hst rfl (by show 0 + 2≤2; decide) rfl (fun w105 hst=>aB rfl (nn (W_ret (retG2 (v1:=.agg #[v49_g45_0,I g45_1_51]) (v2:=Bo true) Try.results134 (resV_agg Try.isAgg41 Try.sizeOf41 sf4 (Star.blkAt 0 hst rfl) rfl) rfl ?_))))))
 obtain rfl:=so hF
 have hst:=hst.get 1 rfl
 exact ⟨v49_g45_0,rfl,(Star.keepN 1 hst)⟩
theorem i_LiteralAxiom_c {lit : Int} {H : FH} {w : World} (hst : Star H w []) {r : Con × Bool} (hF : i_LiteralAxiom lit = some r) :
 C Try.prog 135 #[I lit] w fun v w'=>∃ (u1 : Value),v = .tuple #[.agg #[u1,I r.1.bound],Bo r.2]∧Star H w' [oF 117 rTerm u1 r.1.terms]:=by
 unfold i_LiteralAxiom at hF
 refine C_enter Try.func135 rfl Try.ntmps135 rfl (sq (L_al (cs:=#[S0,I 0]) rfl Try.zeroValue41 rfl hst (fun g3 w4 hst=>aB rfl (nq (W_seq ?_)))))
 obtain ⟨x10,hx10,hF⟩:=bind_some hF
 refine W_region (mI rfl ?_)
 obtain ⟨H12b,l13,s14,z15,k16⟩:=hst.borrow
 refine L_call rfl Try.call104 (ops1 rfl) (i_isLiteral_c (l:=lit) s14 hx10) ?_
 rintro _ w17 ⟨rfl,hst⟩
 have hst:=k16 hst c0
 refine L_not_ rfl rfl (nn (W_cond (b:=(!x10)) rfl (fun hc18=>?_) (fun hc18=>?_)))
 have hF:=(ite_t hc18).symm.trans hF
 refine sq (L_bld rfl (parts0 ) (bld_41_  ) (L_staB (vs:=#[S0,I 0]) (cs2:=#[S0,I 0]) 0 rfl Try.sizeOf41 rfl rfl rfl (ones_cons rfl (ones_cons rfl ones_nil)) hst rfl (by show 0 + 2≤2; decide) rfl (fun w20 hst=>aB rfl (nn (W_ret (retG2 (v1:=.agg #[S0,I 0]) (v2:=Bo false) Try.results135 (resV_agg Try.isAgg41 Try.sizeOf41 rfl (Star.blkAt 0 hst rfl) rfl) rfl ?_))))))
 obtain rfl:=so hF
 have hst:=Star.addNil (R:=(OR.frz rTerm)) (e:=117) hst
 exact ⟨S0,rfl,(Star.keepN 1 hst)⟩
 have hF:=(ite_f hc18).symm.trans hF
 refine W_skip (sq (mI rfl (L_bld rfl (parts2 rfl rfl) (bld_117_0_1 (I 1) (I lit) rfl rfl) (L_bs rfl (parts1 rfl) (bs_39_1_2 (I 1) (I lit) ) hst (fun g26 w27 hst=>?_)))))
 have hst:=Star.addF (r:=rTerm) (cs:=[I 1,I lit]) (x:=({ coef:=1,lit:=lit } : Term)) hst (rTerm_iff.2 rfl)
 have hst:=Star.mkRow (R:=(OR.frz rTerm)) [([I 1,I lit],({ coef:=1,lit:=lit } : Term))] [({ coef:=1,lit:=lit } : Term)] 1 hst rfl rfl rfl (by decide)
 refine L_bld rfl (parts1 rfl) (bld_41_0 ((Sl g26 1 1)) (one_len (Star.len 0 hst rfl))) (L_staB (vs:=#[(Sl g26 1 1),I 0]) (cs2:=#[(Sl g26 1 1),I 0]) 1 rfl Try.sizeOf41 rfl rfl rfl (ones_cons (one_len (Star.len 0 hst rfl)) (ones_cons rfl ones_nil)) hst rfl (by show 0 + 2≤2; decide) rfl (fun w29 hst=>aB rfl (nn (W_ret (retG2 (v1:=.agg #[(Sl g26 1 1),I 0]) (v2:=Bo true) Try.results135 (resV_agg Try.isAgg41 Try.sizeOf41 rfl (Star.blkAt 0 hst rfl) rfl) rfl ?_)))))
 obtain rfl:=so hF
 have hst:=hst.get 1 rfl
 exact ⟨(Sl g26 1 1),rfl,(Star.keepN 1 hst)⟩
theorem i_running_step_c {fu : Nat} {r_ : Db} {s : Step} {g_0 : Nat} {v0_0 : Value} {v0_1 : Value} {v1_3 : Value} {H : FH} {w : World} {R : List Ass} (hst : Star H w (box g_0 115 #[v0_0,v0_1] :: oF 41 (rCon 117) v0_0 r_.list :: oF 4 RP.bool v0_1 r_.gone :: R)) (h1_3 : (rS 117 rTerm).rel H [v1_3] s.given.terms) {r : Bool × (List Con) × (List Bool)} (hF : i_running_step fu r_ s = some r) :
 C Try.prog 103 #[Pt g_0,.agg #[I s.kind,I s.a,I s.b,v1_3,I s.given.bound]] w fun v w'=>∃ H' : FH,Le H H'∧∃ (u1 : Value) (u2 : Value),v = Bo r.1∧Star H' w' (box g_0 115 #[u1,u2] :: oF 41 (rCon 117) u1 r.2.1 :: oF 4 RP.bool u2 r.2.2 :: R):=by
 unfold i_running_step at hF
 refine C_enter Try.func103 rfl Try.ntmps103 rfl (sq (L_box (v:=.agg #[I s.kind,I s.a,I s.b,v1_3,I s.given.bound]) (cs:=#[I s.kind,I s.a,I s.b,v1_3,I s.given.bound]) rfl rfl rfl hst (fun g3 w4 hst=>aB rfl (nq ?_))))
 obtain ⟨x10,hx10,hF⟩:=bind_some hF
 refine W_region (fA 0 fa_63_0 rfl rfl (ldB 0 hst Try.isAgg3 rfl rfl rfl ?_))
 obtain ⟨H12b,l13,s14,z15,k16⟩:=hst.borrow
 refine L_call rfl Try.call88 (ops1 rfl) (i_refers_c (kind:=s.kind) s14 hx10) ?_
 rintro _ w17 ⟨rfl,hst⟩
 have hst:=k16 hst c0
 refine mV (.tuple #[I x10.1,Bo x10.2]) rfl (L_ex (v:=I x10.1) rfl rfl rfl (L_ex (v:=Bo x10.2) rfl rfl rfl (aI rfl (aB rfl (nq (W_seq ?_))))))
 obtain ⟨x23,hx23,hF⟩:=bind_some hF
 obtain ⟨b28,hb28,hF⟩:=bind_some hF
 obtain ⟨b32,hb32,hF⟩:=bind_some hF
 obtain ⟨R35,hR35⟩:=exR fun f w_=>∃ H33 : FH,Le H H33∧f 0 = Pt g_0∧f 3 = Pt g3∧f 39 = Bo b32∧Star H33 w_ (oF 41 (rCon 117) v0_0 r_.list :: oF 4 RP.bool v0_1 r_.gone :: box g_0 115 #[v0_0,v0_1] :: box g3 63 #[I s.kind,I s.a,I s.b,v1_3,I s.given.bound] :: R)
 refine W_join R35 ?_ ?_
 refine W_region (L_lda (cs:=[I s.kind,I s.a,I s.b,v1_3,I s.given.bound]) rfl Try.isAgg63 Try.sizeOf63 rfl (At.sub0 (Blk.at (Star.blkAt 0 hst rfl)) 0 5) rfl ?_)
 obtain ⟨H36b,l37,s38,z39,k40⟩:=hst.borrow
 refine L_call rfl Try.call128 (ops1 rfl) (i_Step_shaped_c (s:=s) s38 (RP.mono _ h1_3 l37) hx23) ?_
 rintro _ w41 ⟨rfl,hst⟩
 have hst:=k40 hst c0
 refine L_not_ rfl rfl (mB rfl (L_split (d:=18) (b:=(!x23)) rfl (fun hc42=>?_) (fun hc42=>?_)))
 rw [ite_t hc42] at hb28
 refine ps rfl (ps rfl (ps rfl (ps rfl (ps rfl (ps rfl (ps rfl (ps rfl (ps rfl (L_pick (v:=Bo b28) rfl rfl (congrArg Value.bool (so hb28)) (mB rfl (L_split (d:=29) (b:=b28) rfl (fun hc43=>?_) (fun hc43=>?_))))))))))))
 rw [ite_t hc43] at hb32
 refine ps rfl (ps rfl (ps rfl (ps rfl (ps rfl (ps rfl (ps rfl (ps rfl (ps rfl (L_pick (v:=Bo b32) rfl rfl (congrArg Value.bool (so hb32)) (nn ?_))))))))))
 have hst:=hst.gets [1,3,3] rfl
 exact rj hR35 ⟨H,(Le.refl _),rfl,rfl,rfl,hst⟩
 rw [ite_f hc43] at hb32
 obtain ⟨b31,hb31,hb32⟩:=bind_some hb32
 refine mI rfl (L_gtr rfl rfl rfl (mB rfl (L_split (d:=32) (b:=decide (x10.1 > 1)) rfl (fun hc44=>?_) (fun hc44=>?_))))
 rw [ite_t hc44] at hb31
 obtain ⟨x29,hx29,hb31⟩:=bind_some hb31
 refine mV (Pt g_0) rfl (fA 2 fa_63_2 rfl rfl (ldB 0 hst Try.isAgg3 rfl rfl rfl ?_))
 have hst:=hst.gets [3,3,3] rfl
 refine L_call rfl Try.call129 (ops2 rfl rfl) (i_running_has_c (r_:=r_) (i:=s.b) hst hx29) ?_
 rintro _ w45 ⟨H45,l45,rfl,hst⟩
 refine L_not_ rfl rfl (L_pick (v:=Bo b31) rfl rfl (congrArg Value.bool (so hb31)) (L_pick (v:=Bo b32) rfl rfl (congrArg Value.bool (so hb32)) (nn ?_)))
 have hst:=hst.gets [3,1,3,3] rfl
 exact rj hR35 ⟨H45,l45,rfl,rfl,rfl,hst⟩
 rw [ite_f hc44] at hb31
 refine ps rfl (ps rfl (ps rfl (ps rfl (ps rfl (L_pick (v:=Bo b31) rfl rfl (congrArg Value.bool (so hb31)) (L_pick (v:=Bo b32) rfl rfl (congrArg Value.bool (so hb32)) (nn ?_)))))))
 have hst:=hst.gets [1,3,3] rfl
 exact rj hR35 ⟨H,(Le.refl _),rfl,rfl,rfl,hst⟩
 rw [ite_f hc42] at hb28
 obtain ⟨b27,hb27,hb28⟩:=bind_some hb28
 refine mI rfl (L_gtr rfl rfl rfl (mB rfl (L_split (d:=21) (b:=decide (x10.1 > 0)) rfl (fun hc46=>?_) (fun hc46=>?_))))
 rw [ite_t hc46] at hb27
 obtain ⟨x25,hx25,hb27⟩:=bind_some hb27
 refine mV (Pt g_0) rfl (fA 1 fa_63_1 rfl rfl (ldB 0 hst Try.isAgg3 rfl rfl rfl ?_))
 have hst:=hst.gets [3,3,3] rfl
 refine L_call rfl Try.call129 (ops2 rfl rfl) (i_running_has_c (r_:=r_) (i:=s.a) hst hx25) ?_
 rintro _ w47 ⟨H47,l47,rfl,hst⟩
 refine L_not_ rfl rfl (L_pick (v:=Bo b27) rfl rfl (congrArg Value.bool (so hb27)) (L_pick (v:=Bo b28) rfl rfl (congrArg Value.bool (so hb28)) (mB rfl (L_split (d:=29) (b:=b28) rfl (fun hc48=>?_) (fun hc48=>?_)))))
 rw [ite_t hc48] at hb32
 refine ps rfl (ps rfl (ps rfl (ps rfl (ps rfl (ps rfl (ps rfl (ps rfl (ps rfl (L_pick (v:=Bo b32) rfl rfl (congrArg Value.bool (so hb32)) (nn ?_))))))))))
 have hst:=hst.gets [3,1,3,3] rfl
 exact rj hR35 ⟨H47,l47,rfl,rfl,rfl,hst⟩
 rw [ite_f hc48] at hb32
 obtain ⟨b31,hb31,hb32⟩:=bind_some hb32
 refine mI rfl (L_gtr rfl rfl rfl (mB rfl (L_split (d:=32) (b:=decide (x10.1 > 1)) rfl (fun hc49=>?_) (fun hc49=>?_))))
 rw [ite_t hc49] at hb31
 obtain ⟨x29,hx29,hb31⟩:=bind_some hb31
 refine mV (Pt g_0) rfl (fA 2 fa_63_2 rfl rfl (ldB 3 hst Try.isAgg3 rfl rfl rfl (L_call rfl Try.call129 (ops2 rfl rfl) (i_running_has_c (r_:=r_) (i:=s.b) hst hx29) ?_)))
 rintro _ w50 ⟨H50,l50,rfl,hst⟩
 refine L_not_ rfl rfl (L_pick (v:=Bo b31) rfl rfl (congrArg Value.bool (so hb31)) (L_pick (v:=Bo b32) rfl rfl (congrArg Value.bool (so hb32)) (nn ?_)))
 have hst:=hst.gets [3,1,3,3] rfl
 exact rj hR35 ⟨H50,(Le.trans l47 l50),rfl,rfl,rfl,hst⟩
 rw [ite_f hc49] at hb31
 refine ps rfl (ps rfl (ps rfl (ps rfl (ps rfl (L_pick (v:=Bo b31) rfl rfl (congrArg Value.bool (so hb31)) (L_pick (v:=Bo b32) rfl rfl (congrArg Value.bool (so hb32)) (nn ?_)))))))
 have hst:=hst.gets [3,1,3,3] rfl
 exact rj hR35 ⟨H47,l47,rfl,rfl,rfl,hst⟩
 rw [ite_f hc46] at hb27
 refine ps rfl (ps rfl (ps rfl (ps rfl (ps rfl (L_pick (v:=Bo b27) rfl rfl (congrArg Value.bool (so hb27)) (L_pick (v:=Bo b28) rfl rfl (congrArg Value.bool (so hb28)) (mB rfl (L_split (d:=29) (b:=b28) rfl (fun hc51=>?_) (fun hc51=>?_)))))))))
 rw [ite_t hc51] at hb32
 refine ps rfl (ps rfl (ps rfl (ps rfl (ps rfl (ps rfl (ps rfl (ps rfl (ps rfl (L_pick (v:=Bo b32) rfl rfl (congrArg Value.bool (so hb32)) (nn ?_))))))))))
 have hst:=hst.gets [1,3,3] rfl
 exact rj hR35 ⟨H,(Le.refl _),rfl,rfl,rfl,hst⟩
 rw [ite_f hc51] at hb32
 obtain ⟨b31,hb31,hb32⟩:=bind_some hb32
 refine mI rfl (L_gtr rfl rfl rfl (mB rfl (L_split (d:=32) (b:=decide (x10.1 > 1)) rfl (fun hc52=>?_) (fun hc52=>?_))))
 rw [ite_t hc52] at hb31
 obtain ⟨x29,hx29,hb31⟩:=bind_some hb31
 refine mV (Pt g_0) rfl (fA 2 fa_63_2 rfl rfl (ldB 0 hst Try.isAgg3 rfl rfl rfl ?_))
 have hst:=hst.gets [3,3,3] rfl
 refine L_call rfl Try.call129 (ops2 rfl rfl) (i_running_has_c (r_:=r_) (i:=s.b) hst hx29) ?_
 rintro _ w53 ⟨H53,l53,rfl,hst⟩
 refine L_not_ rfl rfl (L_pick (v:=Bo b31) rfl rfl (congrArg Value.bool (so hb31)) (L_pick (v:=Bo b32) rfl rfl (congrArg Value.bool (so hb32)) (nn ?_)))
 have hst:=hst.gets [3,1,3,3] rfl
 exact rj hR35 ⟨H53,l53,rfl,rfl,rfl,hst⟩
 rw [ite_f hc52] at hb31
 refine ps rfl (ps rfl (ps rfl (ps rfl (ps rfl (L_pick (v:=Bo b31) rfl rfl (congrArg Value.bool (so hb31)) (L_pick (v:=Bo b32) rfl rfl (congrArg Value.bool (so hb32)) (nn ?_)))))))
 have hst:=hst.gets [1,3,3] rfl
 exact rj hR35 ⟨H,(Le.refl _),rfl,rfl,rfl,hst⟩
 intro f w_ hR
 obtain ⟨H33,l34,sf0,sf3,sf39,hst⟩:=rk hR35 hR
 refine W_cond (b:=b32) sf39 (fun hc54=>?_) (fun hc54=>?_)
 have hF:=(ite_t hc54).symm.trans hF
 refine sq (aB rfl (nn (W_ret (retG1 (v1:=Bo false) Try.results103 rfl ?_))))
 obtain rfl:=so hF
 have hst:=hst.gets [1,1,2] rfl
 have hst:=Star.drop 3 hst rfl
 exact ⟨H33,l34,v0_0,v0_1,rfl,hst⟩
 have hF:=(ite_f hc54).symm.trans hF
 refine W_skip (sq (L_al (cs:=#[S0,I 0]) rfl Try.zeroValue41 rfl hst (fun g57 w58 hst=>ns (aB rfl (nq (sq (fA 0 fa_63_0 sf3 rfl (ldB 4 hst Try.isAgg3 rfl rfl rfl (nn (W_block (sq (L_eql rfl rfl rfl (aB rfl (nn (W_cond (b:=(s.kind == 8)) rfl (fun hc59=>?_) (fun hc59=>?_))))))))))))))))
 have hF:=(ite_t hc59).symm.trans hF
 refine W_seq ?_
 obtain ⟨x60,hx60,hF⟩:=bind_some hF
 have hst:=Star.drop 0 hst rfl
 refine W_drawS 6 [isV (Pt g_0),isV (Pt g_0),isV (Pq g_0 1),isV (v0_1),isV (Pq g3 1),isV (I s.a)] [oF 41 (rCon 117) v0_0 r_.list,oF 4 RP.bool v0_1 r_.gone,box g_0 115 #[v0_0,v0_1],box g3 63 #[I s.kind,I s.a,I s.b,v1_3,I s.given.bound]] [] (R) [([],[]),([],[]),([],[]),([],[]),([],[]),([],[])] (S:=[]) Try_mix (by kernel_rfl) rfl (by kernel_rfl) (amF_cons (mono_V _) (amF_cons (mono_V _) (amF_cons (mono_V _) (amF_cons (mono_V _) (amF_cons (mono_V _) (amF_cons (mono_V _) amF_nil)))))) hst ?_ (fun f w_ H64 hS64 hE64 hT64 hst=>?_)
 refine opsS_cons (fun f w_ _ _ s _ _ hst=>mF ((s 0 rfl).trans sf0) rfl (nO rfl rfl hst)) (opsS_cons (fun f w_ _ _ _ _ p hst=>L_nc rfl (p 0 44 rfl rfl) (nO rfl rfl hst)) (opsS_cons (fun f w_ _ _ _ _ p hst=>fA 1 fa_115_1 (p 1 45 rfl rfl) rfl (nO rfl rfl hst)) (opsS_cons (fun f w_ _ _ _ _ p hst=>ldB 2 hst Try.isAgg49 (p 2 46 rfl rfl) rfl rfl (nO rfl rfl hst)) (opsS_cons (fun f w_ _ _ s _ _ hst=>fA 1 fa_63_1 ((s 3 rfl).trans sf3) rfl (nO rfl rfl hst)) (opsS_cons (fun f w_ _ _ _ _ p hst=>ldB 3 hst Try.isAgg3 (p 4 48 rfl rfl) rfl rfl (nO rfl rfl hst)) (opsS_nil))))))
 obtain ⟨g65,cap_g65,hv66,_,_⟩:=Star.row 1 hst rfl hx60
 refine L_ixO (R:=(OR.frz RP.bool)) (tb:=0) 0 rfl Try.underlying49 Try.sizeOf4 (hT64 3 47 rfl rfl) hv66 (by first | rfl | simp) (hT64 5 49 rfl rfl) hx60 ?_
 have hst:=Star.addF (r:=RP.bool) (cs:=[Bo true]) (x:=true) hst rfl
 have hst:=hst.gets [2,1] rfl
 refine L_stE1 (u:=Bo true) rfl Try.sizeOf4 rfl rfl rfl hv66 hst hx60 (fun w67 hst=>ns (aB rfl (nn (W_ret (retG1 (v1:=Bo true) Try.results103 rfl ?_)))))
 obtain rfl:=so hF
 have hst:=hst.gets [1,2] rfl
 have hst:=Star.drop 3 hst rfl
 exact ⟨H64,(Le.trans l34 hE64),v0_0,v0_1,rfl,hst⟩
 have hF:=(ite_f hc59).symm.trans hF
 refine sq (L_eql rfl rfl rfl (aB rfl (nn ?_)))
 obtain ⟨⟨ok_68,g57_0_69,g57_1_71⟩,hA74,hF⟩:=bind_some hF
 obtain ⟨R74,hR74⟩:=exR fun f w_=>∃ H72 : FH,∃ v69_g57_0 : Value,Le H33 H72∧f 0 = Pt g_0∧f 7 = Pt g57∧f 8 = Bo ok_68∧(rS 117 rTerm).rel H72 [v69_g57_0] g57_0_69∧Star H72 w_ (oF 41 (rCon 117) v0_0 r_.list :: oF 4 RP.bool v0_1 r_.gone :: box g_0 115 #[v0_0,v0_1] :: box g57 41 #[v69_g57_0,I g57_1_71] :: R)
 refine W_join R74 ?_ ?_
 refine W_cond (b:=(s.kind == 1)) rfl (fun hc75=>?_) (fun hc75=>?_)
 have hA74:=(ite_t hc75).symm.trans hA74
 obtain ⟨x76,hx76,hA74⟩:=bind_some hA74
 obtain ⟨x81,hx81,hA74⟩:=bind_some hA74
 obtain ⟨x84,hx84,hA74⟩:=bind_some hA74
 obtain ⟨g88,cap_g88,hv89,_,_⟩:=Star.row 1 hst rfl hx76
 have hst:=hst.gets [4,4,4,4] rfl
 refine W_drawS 21 [isV (Pt g_0),isV (Pt g_0),isV (Pt g_0),isV (v0_0),isV (Pq g3 1),isV (I s.a),isV (.pointer (some ⟨g88,Int.toNat s.a * 2,none⟩)),exD (isData (rS 117 rTerm) x76.terms) fun u_0=>isV (.agg #[u_0,I x76.bound]),isV (Pt g_0),isV (Pt g_0),isV (Pt g_0),isV (v0_0),isV (Pq g3 2),isV (I s.b),isV (.pointer (some ⟨g88,Int.toNat s.b * 2,none⟩)),exD (isData (rS 117 rTerm) x81.terms) fun u_0=>isV (.agg #[u_0,I x81.bound]),tup2 (exD (isData (rS 117 rTerm) x84.1.terms) fun u_0=>isV (.agg #[u_0,I x84.1.bound])) (isV (Bo x84.2)),tup2 (exD (isData (rS 117 rTerm) x84.1.terms) fun u_0=>isV (.agg #[u_0,I x84.1.bound])) (isV (Bo x84.2)),exD (isData (rS 117 rTerm) x84.1.terms) fun u_0=>isV (.agg #[u_0,I x84.1.bound]),isV (Bo x84.2),anyF] [oF 41 (rCon 117) v0_0 r_.list,oF 4 RP.bool v0_1 r_.gone,box g_0 115 #[v0_0,v0_1],box g3 63 #[I s.kind,I s.a,I s.b,v1_3,I s.given.bound]] [.base (box g57 41 #[S0,I 0]) (some 20),.madeN 20 [71] (fun vs_=>box g57 41 #[(aggC (vs_.getD 0 undef) 0),I x84.1.bound]) none] (R) [([],[]),([],[]),([],[]),([],[]),([],[]),([],[]),([],[]),([],[]),([],[]),([],[]),([],[]),([],[]),([],[]),([],[]),([],[]),([],[]),([],[]),([],[]),([],[]),([],[]),([0],[1])] (S:=[(none,[],some 20),(some 20,[71],none)]) Try_mix (by kernel_rfl) rfl (by kernel_rfl) (amF_cons (mono_V _) (amF_cons (mono_V _) (amF_cons (mono_V _) (amF_cons (mono_V _) (amF_cons (mono_V _) (amF_cons (mono_V _) (amF_cons (mono_V _) (amF_cons (mono_exD (mono_data _ _) fun _=>mono_V _) (amF_cons (mono_V _) (amF_cons (mono_V _) (amF_cons (mono_V _) (amF_cons (mono_V _) (amF_cons (mono_V _) (amF_cons (mono_V _) (amF_cons (mono_V _) (amF_cons (mono_exD (mono_data _ _) fun _=>mono_V _) (amF_cons (mono_tup2 (mono_exD (mono_data _ _) fun _=>mono_V _) (mono_V _)) (amF_cons (mono_tup2 (mono_exD (mono_data _ _) fun _=>mono_V _) (mono_V _)) (amF_cons (mono_exD (mono_data _ _) fun _=>mono_V _) (amF_cons (mono_V _) (amF_cons (mono_any) amF_nil))))))))))))))))))))) hst ?_ (fun f w_ H87 hS87 hE87 hT87 hst=>?_)
 refine opsS_cons (fun f w_ _ _ s _ _ hst=>mF ((s 0 rfl).trans sf0) rfl (nO rfl rfl hst)) (opsS_cons (fun f w_ _ _ _ _ p hst=>L_nc rfl (p 0 54 rfl rfl) (nO rfl rfl hst)) (opsS_cons (fun f w_ _ _ _ _ p hst=>fA 0 fa_115_0 (p 1 55 rfl rfl) rfl (nO rfl rfl hst)) (opsS_cons (fun f w_ _ _ _ _ p hst=>ldB 2 hst Try.isAgg27 (p 2 56 rfl rfl) rfl rfl (nO rfl rfl hst)) (opsS_cons (fun f w_ _ _ s _ _ hst=>fA 1 fa_63_1 ((s 3 rfl).trans sf3) rfl (nO rfl rfl hst)) (opsS_cons (fun f w_ _ _ _ _ p hst=>ldB 3 hst Try.isAgg3 (p 4 58 rfl rfl) rfl rfl (nO rfl rfl hst)) (opsS_cons (fun f w_ _ _ _ _ p hst=>L_ixO (R:=(OR.frz (rCon 117))) (tb:=0) 0 rfl Try.underlying27 Try.sizeOf41 (p 3 57 rfl rfl) hv89 (by first | rfl | simp) (p 5 59 rfl rfl) hx76 (nO rfl rfl hst)) (opsS_cons ?_ ?_)))))))
 intro f w_ H87 X87 hS87 hE87 hP87 hst
 obtain ⟨cs96,hr96,hat96⟩:=Star.eltF 0 hst rfl hv89 hx76
 obtain ⟨u97_0,rfl,hu97_0⟩:=rCon_iff.1 hr96
 refine L_lda (cs:=[u97_0,I x76.bound]) rfl Try.isAgg41 Try.sizeOf41 (hP87 6 60 rfl rfl) (At.sub hat96 0 2) rfl (L_nil ⟨rfl,_,_,rfl,Le.refl _,fun _ _=>⟨_,hu97_0,rfl⟩,hst⟩)
 refine opsS_cons (fun f w_ _ _ s _ _ hst=>mF ((s 0 rfl).trans sf0) rfl (nO rfl rfl hst)) (opsS_cons (fun f w_ _ _ _ _ p hst=>L_nc rfl (p 8 62 rfl rfl) (nO rfl rfl hst)) (opsS_cons (fun f w_ _ _ _ _ p hst=>fA 0 fa_115_0 (p 9 63 rfl rfl) rfl (nO rfl rfl hst)) (opsS_cons (fun f w_ _ _ _ _ p hst=>ldB 2 hst Try.isAgg27 (p 10 64 rfl rfl) rfl rfl (nO rfl rfl hst)) (opsS_cons (fun f w_ _ _ s _ _ hst=>fA 2 fa_63_2 ((s 3 rfl).trans sf3) rfl (nO rfl rfl hst)) (opsS_cons (fun f w_ _ _ _ _ p hst=>ldB 3 hst Try.isAgg3 (p 12 66 rfl rfl) rfl rfl (nO rfl rfl hst)) (opsS_cons (fun f w_ _ _ _ _ p hst=>L_ixO (R:=(OR.frz (rCon 117))) (tb:=0) 0 rfl Try.underlying27 Try.sizeOf41 (p 11 65 rfl rfl) hv89 (by first | rfl | simp) (p 13 67 rfl rfl) hx81 (nO rfl rfl hst)) (opsS_cons ?_ ?_)))))))
 intro f w_ H87 X87 hS87 hE87 hP87 hst
 obtain ⟨cs98,hr98,hat98⟩:=Star.eltF 0 hst rfl hv89 hx81
 obtain ⟨u99_0,rfl,hu99_0⟩:=rCon_iff.1 hr98
 refine L_lda (cs:=[u99_0,I x81.bound]) rfl Try.isAgg41 Try.sizeOf41 (hP87 14 68 rfl rfl) (At.sub hat98 0 2) rfl (L_nil ⟨rfl,_,_,rfl,Le.refl _,fun _ _=>⟨_,hu99_0,rfl⟩,hst⟩)
 refine opsS_cons ?_ ?_
 intro f w_ H87 X87 hS87 hE87 hP87 hst
 obtain ⟨u100_0,hu100_0,hv100⟩:=(hP87 7 61 rfl rfl)
 obtain ⟨u101_0,hu101_0,hv101⟩:=(hP87 15 69 rfl rfl)
 refine L_call rfl Try.call130 (ops2 hv100 hv101) (i_AddConstraints_c (a:=x76) (b:=x81) hst hu100_0 hu101_0 hx84) ?_
 rintro _ w102 ⟨H102,l102,r102_0,rfl,hr102_0,hst⟩
 exact L_nil ⟨rfl,_,_,rfl,l102,fun _ _=>⟨_,_,rfl,⟨_,hr102_0,rfl⟩,rfl⟩,hst⟩
 refine opsS_cons ?_ ?_
 intro f w_ H87 X87 hS87 hE87 hP87 hst
 obtain ⟨a103_0,a103_1,hv103,ht103_0,ht103_1⟩:=(hP87 16 70 rfl rfl)
 obtain ⟨u104_0,hu104_0,rfl⟩:=ht103_0
 obtain rfl:=ht103_1
 refine mF hv103 rfl (L_nil ⟨rfl,_,_,rfl,Le.refl _,fun _ _=>⟨_,_,rfl,⟨_,hu104_0,rfl⟩,rfl⟩,hst⟩)
 refine opsS_cons ?_ ?_
 intro f w_ H87 X87 hS87 hE87 hP87 hst
 obtain ⟨a105_0,a105_1,hv105,ht105_0,ht105_1⟩:=(hP87 17 53 rfl rfl)
 obtain ⟨u106_0,hu106_0,rfl⟩:=ht105_0
 obtain rfl:=ht105_1
 refine L_ex (v:=.agg #[u106_0,I x84.1.bound]) rfl hv105 rfl (L_nil ⟨rfl,_,_,rfl,Le.refl _,fun _ _=>⟨_,hu106_0,rfl⟩,hst⟩)
 refine opsS_cons ?_ ?_
 intro f w_ H87 X87 hS87 hE87 hP87 hst
 obtain ⟨a107_0,a107_1,hv107,ht107_0,ht107_1⟩:=(hP87 17 53 rfl rfl)
 obtain ⟨u108_0,hu108_0,rfl⟩:=ht107_0
 obtain rfl:=ht107_1
 refine L_ex (v:=Bo x84.2) rfl hv107 rfl (L_nil ⟨rfl,_,_,rfl,Le.refl _,fun _ _=>rfl,hst⟩)
 refine opsS_cons ?_ ?_
 intro f w_ H87 X87 hS87 hE87 hP87 hst
 have hst : Star H87 w_ (oF 41 (rCon 117) v0_0 r_.list :: oF 4 RP.bool v0_1 r_.gone :: box g_0 115 #[v0_0,v0_1] :: box g3 63 #[I s.kind,I s.a,I s.b,v1_3,I s.given.bound] :: box g57 41 #[S0,I 0] :: X87):=hst
 obtain ⟨u109_0,hu109_0,hv109⟩:=(hP87 18 71 rfl rfl)
 refine L_staB (vs:=#[u109_0,I x84.1.bound]) (cs2:=#[u109_0,I x84.1.bound]) 4 rfl Try.sizeOf41 ((hS87 7 rfl).trans rfl) hv109 rfl (ones_cons (one_len (slice_len hu109_0)) (ones_cons rfl ones_nil)) hst rfl (by show 0 + 2≤2; decide) rfl (fun w110 hst=>?_)
 have hst:=hst.gets [4,4,4,4] rfl
 have hst : Star H87 w110 (oF 41 (rCon 117) v0_0 r_.list :: oF 4 RP.bool v0_1 r_.gone :: box g_0 115 #[v0_0,v0_1] :: box g3 63 #[I s.kind,I s.a,I s.b,v1_3,I s.given.bound] :: box g57 41 #[(aggC (f 71) 0),I x84.1.bound] :: X87):=by rw [hv109]; exact hst
 exact L_nil ⟨rfl,Bo false,_,rfl,Le.refl _,(fun _ h=>nomatch h),hst⟩
 exact opsS_nil
 have hst : Star H87 w_ (oF 41 (rCon 117) v0_0 r_.list :: oF 4 RP.bool v0_1 r_.gone :: box g_0 115 #[v0_0,v0_1] :: box g3 63 #[I s.kind,I s.a,I s.b,v1_3,I s.given.bound] :: box g57 41 #[(aggC (f 71) 0),I x84.1.bound] :: R):=hst
 obtain ⟨u111_0,hu111_0,hv111⟩:=(hT87 18 71 rfl rfl)
 have hren : Star H87 w_ (oF 41 (rCon 117) v0_0 r_.list :: oF 4 RP.bool v0_1 r_.gone :: box g_0 115 #[v0_0,v0_1] :: box g3 63 #[I s.kind,I s.a,I s.b,v1_3,I s.given.bound] :: box g57 41 #[(aggC (f 71) 0),I x84.1.bound] :: R):=hst
 rw [hv111] at hren
 have hst : Star H87 w_ (oF 41 (rCon 117) v0_0 r_.list :: oF 4 RP.bool v0_1 r_.gone :: box g_0 115 #[v0_0,v0_1] :: box g3 63 #[I s.kind,I s.a,I s.b,v1_3,I s.given.bound] :: box g57 41 #[u111_0,I x84.1.bound] :: R):=hren
 refine aF (hT87 19 72 rfl rfl) rfl (nn ?_)
 obtain ⟨rfl,rfl,rfl⟩:=so3 hA74
 have hst:=hst.gets [4,3,3,3] rfl
 have hst:=Star.drop 4 hst rfl
 exact rj hR74 ⟨H87,u111_0,hE87,((hS87 0 rfl).trans sf0),((hS87 7 rfl).trans rfl),rfl,hu111_0,hst⟩
 have hA74:=(ite_f hc75).symm.trans hA74
 refine sq (L_eql rfl rfl rfl (aB rfl (nn ?_)))
 obtain ⟨⟨ok_112,g57_0_113,g57_1_115⟩,hA118,hA74⟩:=bind_some hA74
 obtain ⟨R118,hR118⟩:=exR fun f w_=>∃ H116 : FH,∃ v113_g57_0 : Value,Le H33 H116∧f 0 = Pt g_0∧f 7 = Pt g57∧f 8 = Bo ok_112∧(rS 117 rTerm).rel H116 [v113_g57_0] g57_0_113∧Star H116 w_ (oF 41 (rCon 117) v0_0 r_.list :: oF 4 RP.bool v0_1 r_.gone :: box g_0 115 #[v0_0,v0_1] :: box g57 41 #[v113_g57_0,I g57_1_115] :: R)
 refine W_join R118 ?_ ?_
 refine W_cond (b:=(s.kind == 2)) rfl (fun hc119=>?_) (fun hc119=>?_)
 have hA118:=(ite_t hc119).symm.trans hA118
 obtain ⟨x120,hx120,hA118⟩:=bind_some hA118
 obtain ⟨x125,hx125,hA118⟩:=bind_some hA118
 obtain ⟨g129,cap_g129,hv130,_,_⟩:=Star.row 1 hst rfl hx120
 have hst:=hst.gets [4,4,4,4] rfl
 refine W_drawS 15 [isV (Pt g_0),isV (Pt g_0),isV (Pt g_0),isV (v0_0),isV (Pq g3 1),isV (I s.a),isV (.pointer (some ⟨g129,Int.toNat s.a * 2,none⟩)),exD (isData (rS 117 rTerm) x120.terms) fun u_0=>isV (.agg #[u_0,I x120.bound]),isV (Pq g3 2),isV (I s.b),tup2 (exD (isData (rS 117 rTerm) x125.1.terms) fun u_0=>isV (.agg #[u_0,I x125.1.bound])) (isV (Bo x125.2)),tup2 (exD (isData (rS 117 rTerm) x125.1.terms) fun u_0=>isV (.agg #[u_0,I x125.1.bound])) (isV (Bo x125.2)),exD (isData (rS 117 rTerm) x125.1.terms) fun u_0=>isV (.agg #[u_0,I x125.1.bound]),isV (Bo x125.2),anyF] [oF 41 (rCon 117) v0_0 r_.list,oF 4 RP.bool v0_1 r_.gone,box g_0 115 #[v0_0,v0_1],box g3 63 #[I s.kind,I s.a,I s.b,v1_3,I s.given.bound]] [.base (box g57 41 #[S0,I 0]) (some 14),.madeN 14 [87] (fun vs_=>box g57 41 #[(aggC (vs_.getD 0 undef) 0),I x125.1.bound]) none] (R) [([],[]),([],[]),([],[]),([],[]),([],[]),([],[]),([],[]),([],[]),([],[]),([],[]),([],[]),([],[]),([],[]),([],[]),([0],[1])] (S:=[(none,[],some 14),(some 14,[87],none)]) Try_mix (by kernel_rfl) rfl (by kernel_rfl) (amF_cons (mono_V _) (amF_cons (mono_V _) (amF_cons (mono_V _) (amF_cons (mono_V _) (amF_cons (mono_V _) (amF_cons (mono_V _) (amF_cons (mono_V _) (amF_cons (mono_exD (mono_data _ _) fun _=>mono_V _) (amF_cons (mono_V _) (amF_cons (mono_V _) (amF_cons (mono_tup2 (mono_exD (mono_data _ _) fun _=>mono_V _) (mono_V _)) (amF_cons (mono_tup2 (mono_exD (mono_data _ _) fun _=>mono_V _) (mono_V _)) (amF_cons (mono_exD (mono_data _ _) fun _=>mono_V _) (amF_cons (mono_V _) (amF_cons (mono_any) amF_nil))))))))))))))) hst ?_ (fun f w_ H128 hS128 hE128 hT128 hst=>?_)
 refine opsS_cons (fun f w_ _ _ s _ _ hst=>mF ((s 0 rfl).trans sf0) rfl (nO rfl rfl hst)) (opsS_cons (fun f w_ _ _ _ _ p hst=>L_nc rfl (p 0 76 rfl rfl) (nO rfl rfl hst)) (opsS_cons (fun f w_ _ _ _ _ p hst=>fA 0 fa_115_0 (p 1 77 rfl rfl) rfl (nO rfl rfl hst)) (opsS_cons (fun f w_ _ _ _ _ p hst=>ldB 2 hst Try.isAgg27 (p 2 78 rfl rfl) rfl rfl (nO rfl rfl hst)) (opsS_cons (fun f w_ _ _ s _ _ hst=>fA 1 fa_63_1 ((s 3 rfl).trans sf3) rfl (nO rfl rfl hst)) (opsS_cons (fun f w_ _ _ _ _ p hst=>ldB 3 hst Try.isAgg3 (p 4 80 rfl rfl) rfl rfl (nO rfl rfl hst)) (opsS_cons (fun f w_ _ _ _ _ p hst=>L_ixO (R:=(OR.frz (rCon 117))) (tb:=0) 0 rfl Try.underlying27 Try.sizeOf41 (p 3 79 rfl rfl) hv130 (by first | rfl | simp) (p 5 81 rfl rfl) hx120 (nO rfl rfl hst)) (opsS_cons ?_ ?_)))))))
 intro f w_ H128 X128 hS128 hE128 hP128 hst
 obtain ⟨cs135,hr135,hat135⟩:=Star.eltF 0 hst rfl hv130 hx120
 obtain ⟨u136_0,rfl,hu136_0⟩:=rCon_iff.1 hr135
 refine L_lda (cs:=[u136_0,I x120.bound]) rfl Try.isAgg41 Try.sizeOf41 (hP128 6 82 rfl rfl) (At.sub hat135 0 2) rfl (L_nil ⟨rfl,_,_,rfl,Le.refl _,fun _ _=>⟨_,hu136_0,rfl⟩,hst⟩)
 refine opsS_cons (fun f w_ _ _ s _ _ hst=>fA 2 fa_63_2 ((s 3 rfl).trans sf3) rfl (nO rfl rfl hst)) (opsS_cons (fun f w_ _ _ _ _ p hst=>ldB 3 hst Try.isAgg3 (p 8 84 rfl rfl) rfl rfl (nO rfl rfl hst)) (opsS_cons ?_ ?_))
 intro f w_ H128 X128 hS128 hE128 hP128 hst
 obtain ⟨u137_0,hu137_0,hv137⟩:=(hP128 7 83 rfl rfl)
 refine L_call rfl Try.call131 (ops2 hv137 (hP128 9 85 rfl rfl)) (i_MultiplyConstraint_c (c:=x120) (k:=s.b) hst hu137_0 hx125) ?_
 rintro _ w138 ⟨H138,l138,r138_0,rfl,hr138_0,hst⟩
 exact L_nil ⟨rfl,_,_,rfl,l138,fun _ _=>⟨_,_,rfl,⟨_,hr138_0,rfl⟩,rfl⟩,hst⟩
 refine opsS_cons ?_ ?_
 intro f w_ H128 X128 hS128 hE128 hP128 hst
 obtain ⟨a139_0,a139_1,hv139,ht139_0,ht139_1⟩:=(hP128 10 86 rfl rfl)
 obtain ⟨u140_0,hu140_0,rfl⟩:=ht139_0
 obtain rfl:=ht139_1
 refine mF hv139 rfl (L_nil ⟨rfl,_,_,rfl,Le.refl _,fun _ _=>⟨_,_,rfl,⟨_,hu140_0,rfl⟩,rfl⟩,hst⟩)
 refine opsS_cons ?_ ?_
 intro f w_ H128 X128 hS128 hE128 hP128 hst
 obtain ⟨a141_0,a141_1,hv141,ht141_0,ht141_1⟩:=(hP128 11 75 rfl rfl)
 obtain ⟨u142_0,hu142_0,rfl⟩:=ht141_0
 obtain rfl:=ht141_1
 refine L_ex (v:=.agg #[u142_0,I x125.1.bound]) rfl hv141 rfl (L_nil ⟨rfl,_,_,rfl,Le.refl _,fun _ _=>⟨_,hu142_0,rfl⟩,hst⟩)
 refine opsS_cons ?_ ?_
 intro f w_ H128 X128 hS128 hE128 hP128 hst
 obtain ⟨a143_0,a143_1,hv143,ht143_0,ht143_1⟩:=(hP128 11 75 rfl rfl)
 obtain ⟨u144_0,hu144_0,rfl⟩:=ht143_0
 obtain rfl:=ht143_1
 refine L_ex (v:=Bo x125.2) rfl hv143 rfl (L_nil ⟨rfl,_,_,rfl,Le.refl _,fun _ _=>rfl,hst⟩)
 refine opsS_cons ?_ ?_
 intro f w_ H128 X128 hS128 hE128 hP128 hst
 have hst : Star H128 w_ (oF 41 (rCon 117) v0_0 r_.list :: oF 4 RP.bool v0_1 r_.gone :: box g_0 115 #[v0_0,v0_1] :: box g3 63 #[I s.kind,I s.a,I s.b,v1_3,I s.given.bound] :: box g57 41 #[S0,I 0] :: X128):=hst
 obtain ⟨u145_0,hu145_0,hv145⟩:=(hP128 12 87 rfl rfl)
 refine L_staB (vs:=#[u145_0,I x125.1.bound]) (cs2:=#[u145_0,I x125.1.bound]) 4 rfl Try.sizeOf41 ((hS128 7 rfl).trans rfl) hv145 rfl (ones_cons (one_len (slice_len hu145_0)) (ones_cons rfl ones_nil)) hst rfl (by show 0 + 2≤2; decide) rfl (fun w146 hst=>?_)
 have hst:=hst.gets [4,4,4,4] rfl
 have hst : Star H128 w146 (oF 41 (rCon 117) v0_0 r_.list :: oF 4 RP.bool v0_1 r_.gone :: box g_0 115 #[v0_0,v0_1] :: box g3 63 #[I s.kind,I s.a,I s.b,v1_3,I s.given.bound] :: box g57 41 #[(aggC (f 87) 0),I x125.1.bound] :: X128):=by rw [hv145]; exact hst
 exact L_nil ⟨rfl,Bo false,_,rfl,Le.refl _,(fun _ h=>nomatch h),hst⟩
 exact opsS_nil
 have hst : Star H128 w_ (oF 41 (rCon 117) v0_0 r_.list :: oF 4 RP.bool v0_1 r_.gone :: box g_0 115 #[v0_0,v0_1] :: box g3 63 #[I s.kind,I s.a,I s.b,v1_3,I s.given.bound] :: box g57 41 #[(aggC (f 87) 0),I x125.1.bound] :: R):=hst
 obtain ⟨u147_0,hu147_0,hv147⟩:=(hT128 12 87 rfl rfl)
 have hren : Star H128 w_ (oF 41 (rCon 117) v0_0 r_.list :: oF 4 RP.bool v0_1 r_.gone :: box g_0 115 #[v0_0,v0_1] :: box g3 63 #[I s.kind,I s.a,I s.b,v1_3,I s.given.bound] :: box g57 41 #[(aggC (f 87) 0),I x125.1.bound] :: R):=hst
 rw [hv147] at hren
 have hst : Star H128 w_ (oF 41 (rCon 117) v0_0 r_.list :: oF 4 RP.bool v0_1 r_.gone :: box g_0 115 #[v0_0,v0_1] :: box g3 63 #[I s.kind,I s.a,I s.b,v1_3,I s.given.bound] :: box g57 41 #[u147_0,I x125.1.bound] :: R):=hren
 refine aF (hT128 13 88 rfl rfl) rfl (nn ?_)
 obtain ⟨rfl,rfl,rfl⟩:=so3 hA118
 have hst:=hst.gets [4,3,3,3] rfl
 have hst:=Star.drop 4 hst rfl
 exact rj hR118 ⟨H128,u147_0,hE128,((hS128 0 rfl).trans sf0),((hS128 7 rfl).trans rfl),rfl,hu147_0,hst⟩
 have hA118:=(ite_f hc119).symm.trans hA118
 refine sq (L_eql rfl rfl rfl (aB rfl (nn ?_)))
 obtain ⟨⟨ok_148,g57_0_149,g57_1_151⟩,hA154,hA118⟩:=bind_some hA118
 obtain ⟨R154,hR154⟩:=exR fun f w_=>∃ H152 : FH,∃ v149_g57_0 : Value,Le H33 H152∧f 0 = Pt g_0∧f 7 = Pt g57∧f 8 = Bo ok_148∧(rS 117 rTerm).rel H152 [v149_g57_0] g57_0_149∧Star H152 w_ (oF 41 (rCon 117) v0_0 r_.list :: oF 4 RP.bool v0_1 r_.gone :: box g_0 115 #[v0_0,v0_1] :: box g57 41 #[v149_g57_0,I g57_1_151] :: R)
 refine W_join R154 ?_ ?_
 refine W_cond (b:=(s.kind == 3)) rfl (fun hc155=>?_) (fun hc155=>?_)
 have hA154:=(ite_t hc155).symm.trans hA154
 obtain ⟨x156,hx156,hA154⟩:=bind_some hA154
 obtain ⟨x161,hx161,hA154⟩:=bind_some hA154
 obtain ⟨g165,cap_g165,hv166,_,_⟩:=Star.row 1 hst rfl hx156
 have hst:=hst.gets [4,4,4,4] rfl
 refine W_drawS 15 [isV (Pt g_0),isV (Pt g_0),isV (Pt g_0),isV (v0_0),isV (Pq g3 1),isV (I s.a),isV (.pointer (some ⟨g165,Int.toNat s.a * 2,none⟩)),exD (isData (rS 117 rTerm) x156.terms) fun u_0=>isV (.agg #[u_0,I x156.bound]),isV (Pq g3 2),isV (I s.b),tup2 (exD (isData (rS 117 rTerm) x161.1.terms) fun u_0=>isV (.agg #[u_0,I x161.1.bound])) (isV (Bo x161.2)),tup2 (exD (isData (rS 117 rTerm) x161.1.terms) fun u_0=>isV (.agg #[u_0,I x161.1.bound])) (isV (Bo x161.2)),exD (isData (rS 117 rTerm) x161.1.terms) fun u_0=>isV (.agg #[u_0,I x161.1.bound]),isV (Bo x161.2),anyF] [oF 41 (rCon 117) v0_0 r_.list,oF 4 RP.bool v0_1 r_.gone,box g_0 115 #[v0_0,v0_1],box g3 63 #[I s.kind,I s.a,I s.b,v1_3,I s.given.bound]] [.base (box g57 41 #[S0,I 0]) (some 14),.madeN 14 [103] (fun vs_=>box g57 41 #[(aggC (vs_.getD 0 undef) 0),I x161.1.bound]) none] (R) [([],[]),([],[]),([],[]),([],[]),([],[]),([],[]),([],[]),([],[]),([],[]),([],[]),([],[]),([],[]),([],[]),([],[]),([0],[1])] (S:=[(none,[],some 14),(some 14,[103],none)]) Try_mix (by kernel_rfl) rfl (by kernel_rfl) (amF_cons (mono_V _) (amF_cons (mono_V _) (amF_cons (mono_V _) (amF_cons (mono_V _) (amF_cons (mono_V _) (amF_cons (mono_V _) (amF_cons (mono_V _) (amF_cons (mono_exD (mono_data _ _) fun _=>mono_V _) (amF_cons (mono_V _) (amF_cons (mono_V _) (amF_cons (mono_tup2 (mono_exD (mono_data _ _) fun _=>mono_V _) (mono_V _)) (amF_cons (mono_tup2 (mono_exD (mono_data _ _) fun _=>mono_V _) (mono_V _)) (amF_cons (mono_exD (mono_data _ _) fun _=>mono_V _) (amF_cons (mono_V _) (amF_cons (mono_any) amF_nil))))))))))))))) hst ?_ (fun f w_ H164 hS164 hE164 hT164 hst=>?_)
 refine opsS_cons (fun f w_ _ _ s _ _ hst=>mF ((s 0 rfl).trans sf0) rfl (nO rfl rfl hst)) (opsS_cons (fun f w_ _ _ _ _ p hst=>L_nc rfl (p 0 92 rfl rfl) (nO rfl rfl hst)) (opsS_cons (fun f w_ _ _ _ _ p hst=>fA 0 fa_115_0 (p 1 93 rfl rfl) rfl (nO rfl rfl hst)) (opsS_cons (fun f w_ _ _ _ _ p hst=>ldB 2 hst Try.isAgg27 (p 2 94 rfl rfl) rfl rfl (nO rfl rfl hst)) (opsS_cons (fun f w_ _ _ s _ _ hst=>fA 1 fa_63_1 ((s 3 rfl).trans sf3) rfl (nO rfl rfl hst)) (opsS_cons (fun f w_ _ _ _ _ p hst=>ldB 3 hst Try.isAgg3 (p 4 96 rfl rfl) rfl rfl (nO rfl rfl hst)) (opsS_cons (fun f w_ _ _ _ _ p hst=>L_ixO (R:=(OR.frz (rCon 117))) (tb:=0) 0 rfl Try.underlying27 Try.sizeOf41 (p 3 95 rfl rfl) hv166 (by first | rfl | simp) (p 5 97 rfl rfl) hx156 (nO rfl rfl hst)) (opsS_cons ?_ ?_)))))))
 intro f w_ H164 X164 hS164 hE164 hP164 hst
 obtain ⟨cs171,hr171,hat171⟩:=Star.eltF 0 hst rfl hv166 hx156
 obtain ⟨u172_0,rfl,hu172_0⟩:=rCon_iff.1 hr171
 refine L_lda (cs:=[u172_0,I x156.bound]) rfl Try.isAgg41 Try.sizeOf41 (hP164 6 98 rfl rfl) (At.sub hat171 0 2) rfl (L_nil ⟨rfl,_,_,rfl,Le.refl _,fun _ _=>⟨_,hu172_0,rfl⟩,hst⟩)
 refine opsS_cons (fun f w_ _ _ s _ _ hst=>fA 2 fa_63_2 ((s 3 rfl).trans sf3) rfl (nO rfl rfl hst)) (opsS_cons (fun f w_ _ _ _ _ p hst=>ldB 3 hst Try.isAgg3 (p 8 100 rfl rfl) rfl rfl (nO rfl rfl hst)) (opsS_cons ?_ ?_))
 intro f w_ H164 X164 hS164 hE164 hP164 hst
 obtain ⟨u173_0,hu173_0,hv173⟩:=(hP164 7 99 rfl rfl)
 refine L_call rfl Try.call132 (ops2 hv173 (hP164 9 101 rfl rfl)) (i_DivideConstraint_c (c:=x156) (k:=s.b) hst hu173_0 hx161) ?_
 rintro _ w174 ⟨H174,l174,r174_0,rfl,hr174_0,hst⟩
 exact L_nil ⟨rfl,_,_,rfl,l174,fun _ _=>⟨_,_,rfl,⟨_,hr174_0,rfl⟩,rfl⟩,hst⟩
 refine opsS_cons ?_ ?_
 intro f w_ H164 X164 hS164 hE164 hP164 hst
 obtain ⟨a175_0,a175_1,hv175,ht175_0,ht175_1⟩:=(hP164 10 102 rfl rfl)
 obtain ⟨u176_0,hu176_0,rfl⟩:=ht175_0
 obtain rfl:=ht175_1
 refine mF hv175 rfl (L_nil ⟨rfl,_,_,rfl,Le.refl _,fun _ _=>⟨_,_,rfl,⟨_,hu176_0,rfl⟩,rfl⟩,hst⟩)
 refine opsS_cons ?_ ?_
 intro f w_ H164 X164 hS164 hE164 hP164 hst
 obtain ⟨a177_0,a177_1,hv177,ht177_0,ht177_1⟩:=(hP164 11 91 rfl rfl)
 obtain ⟨u178_0,hu178_0,rfl⟩:=ht177_0
 obtain rfl:=ht177_1
 refine L_ex (v:=.agg #[u178_0,I x161.1.bound]) rfl hv177 rfl (L_nil ⟨rfl,_,_,rfl,Le.refl _,fun _ _=>⟨_,hu178_0,rfl⟩,hst⟩)
 refine opsS_cons ?_ ?_
 intro f w_ H164 X164 hS164 hE164 hP164 hst
 obtain ⟨a179_0,a179_1,hv179,ht179_0,ht179_1⟩:=(hP164 11 91 rfl rfl)
 obtain ⟨u180_0,hu180_0,rfl⟩:=ht179_0
 obtain rfl:=ht179_1
 refine L_ex (v:=Bo x161.2) rfl hv179 rfl (L_nil ⟨rfl,_,_,rfl,Le.refl _,fun _ _=>rfl,hst⟩)
 refine opsS_cons ?_ ?_
 intro f w_ H164 X164 hS164 hE164 hP164 hst
 have hst : Star H164 w_ (oF 41 (rCon 117) v0_0 r_.list :: oF 4 RP.bool v0_1 r_.gone :: box g_0 115 #[v0_0,v0_1] :: box g3 63 #[I s.kind,I s.a,I s.b,v1_3,I s.given.bound] :: box g57 41 #[S0,I 0] :: X164):=hst
 obtain ⟨u181_0,hu181_0,hv181⟩:=(hP164 12 103 rfl rfl)
 refine L_staB (vs:=#[u181_0,I x161.1.bound]) (cs2:=#[u181_0,I x161.1.bound]) 4 rfl Try.sizeOf41 ((hS164 7 rfl).trans rfl) hv181 rfl (ones_cons (one_len (slice_len hu181_0)) (ones_cons rfl ones_nil)) hst rfl (by show 0 + 2≤2; decide) rfl (fun w182 hst=>?_)
 have hst:=hst.gets [4,4,4,4] rfl
 have hst : Star H164 w182 (oF 41 (rCon 117) v0_0 r_.list :: oF 4 RP.bool v0_1 r_.gone :: box g_0 115 #[v0_0,v0_1] :: box g3 63 #[I s.kind,I s.a,I s.b,v1_3,I s.given.bound] :: box g57 41 #[(aggC (f 103) 0),I x161.1.bound] :: X164):=by rw [hv181]; exact hst
 exact L_nil ⟨rfl,Bo false,_,rfl,Le.refl _,(fun _ h=>nomatch h),hst⟩
 exact opsS_nil
 have hst : Star H164 w_ (oF 41 (rCon 117) v0_0 r_.list :: oF 4 RP.bool v0_1 r_.gone :: box g_0 115 #[v0_0,v0_1] :: box g3 63 #[I s.kind,I s.a,I s.b,v1_3,I s.given.bound] :: box g57 41 #[(aggC (f 103) 0),I x161.1.bound] :: R):=hst
 obtain ⟨u183_0,hu183_0,hv183⟩:=(hT164 12 103 rfl rfl)
 have hren : Star H164 w_ (oF 41 (rCon 117) v0_0 r_.list :: oF 4 RP.bool v0_1 r_.gone :: box g_0 115 #[v0_0,v0_1] :: box g3 63 #[I s.kind,I s.a,I s.b,v1_3,I s.given.bound] :: box g57 41 #[(aggC (f 103) 0),I x161.1.bound] :: R):=hst
 rw [hv183] at hren
 have hst : Star H164 w_ (oF 41 (rCon 117) v0_0 r_.list :: oF 4 RP.bool v0_1 r_.gone :: box g_0 115 #[v0_0,v0_1] :: box g3 63 #[I s.kind,I s.a,I s.b,v1_3,I s.given.bound] :: box g57 41 #[u183_0,I x161.1.bound] :: R):=hren
 refine aF (hT164 13 104 rfl rfl) rfl (nn ?_)
 obtain ⟨rfl,rfl,rfl⟩:=so3 hA154
 have hst:=hst.gets [4,3,3,3] rfl
 have hst:=Star.drop 4 hst rfl
 exact rj hR154 ⟨H164,u183_0,hE164,((hS164 0 rfl).trans sf0),((hS164 7 rfl).trans rfl),rfl,hu183_0,hst⟩
 have hA154:=(ite_f hc155).symm.trans hA154
 refine sq (L_eql rfl rfl rfl (aB rfl (nn ?_)))
 obtain ⟨⟨ok_184,g57_0_185,g57_1_187⟩,hA190,hA154⟩:=bind_some hA154
 obtain ⟨R190,hR190⟩:=exR fun f w_=>∃ H188 : FH,∃ v185_g57_0 : Value,Le H33 H188∧f 0 = Pt g_0∧f 7 = Pt g57∧f 8 = Bo ok_184∧(rS 117 rTerm).rel H188 [v185_g57_0] g57_0_185∧Star H188 w_ (oF 41 (rCon 117) v0_0 r_.list :: oF 4 RP.bool v0_1 r_.gone :: box g_0 115 #[v0_0,v0_1] :: box g57 41 #[v185_g57_0,I g57_1_187] :: R)
 refine W_join R190 ?_ ?_
 refine W_cond (b:=(s.kind == 4)) rfl (fun hc191=>?_) (fun hc191=>?_)
 have hA190:=(ite_t hc191).symm.trans hA190
 obtain ⟨x192,hx192,hA190⟩:=bind_some hA190
 obtain ⟨x202,hx202,hA190⟩:=bind_some hA190
 obtain ⟨g207,cap_g207,hv208,_,_⟩:=Star.row 1 hst rfl hx192
 have hst:=hst.gets [4,4,4,4] rfl
 refine W_drawS 13 [isV (Pt g_0),isV (Pt g_0),isV (Pt g_0),isV (v0_0),isV (Pq g3 1),isV (I s.a),isV (.pointer (some ⟨g207,Int.toNat s.a * 2,none⟩)),exD (isData (rS 117 rTerm) x192.terms) fun u_0=>isV (.agg #[u_0,I x192.bound]),tup2 (exA fun u_0=>isV (.agg #[u_0,I x202.1.bound])) (isV (Bo x202.2)),tup2 (exA fun u_0=>isV (.agg #[u_0,I x202.1.bound])) (isV (Bo x202.2)),exA fun u_0=>isV (.agg #[u_0,I x202.1.bound]),isV (Bo x202.2),anyF] [oF 41 (rCon 117) v0_0 r_.list,oF 4 RP.bool v0_1 r_.gone,box g_0 115 #[v0_0,v0_1],box g3 63 #[I s.kind,I s.a,I s.b,v1_3,I s.given.bound]] [.base (box g57 41 #[S0,I 0]) (some 12),.made 8 116 (fun v_=>own (OR.ownS 117 (OR.frz rTerm)) [(aggC (tupC v_ 0) 0)] x202.1.terms) (some 9),.made 9 107 (fun v_=>own (OR.ownS 117 (OR.frz rTerm)) [(aggC (tupC v_ 0) 0)] x202.1.terms) (some 10),.made 10 117 (fun v_=>oF 117 rTerm (aggC v_ 0) x202.1.terms) none,.madeN 12 [117] (fun vs_=>box g57 41 #[(aggC (vs_.getD 0 undef) 0),I x202.1.bound]) none] (R) [([],[]),([],[]),([],[]),([],[]),([],[]),([],[]),([],[]),([],[]),([],[1]),([1],[2]),([2],[3]),([],[]),([0,3],[3,4])] (S:=[(none,[],some 12),(some 8,[116],some 9),(some 9,[107],some 10),(some 10,[117],none),(some 12,[117],none)]) Try_mix (by kernel_rfl) rfl (by kernel_rfl) (amF_cons (mono_V _) (amF_cons (mono_V _) (amF_cons (mono_V _) (amF_cons (mono_V _) (amF_cons (mono_V _) (amF_cons (mono_V _) (amF_cons (mono_V _) (amF_cons (mono_exD (mono_data _ _) fun _=>mono_V _) (amF_cons (mono_tup2 (mono_exA fun _=>mono_V _) (mono_V _)) (amF_cons (mono_tup2 (mono_exA fun _=>mono_V _) (mono_V _)) (amF_cons (mono_exA fun _=>mono_V _) (amF_cons (mono_V _) (amF_cons (mono_any) amF_nil))))))))))))) hst ?_ (fun f w_ H206 hS206 hE206 hT206 hst=>?_)
 refine opsS_cons (fun f w_ _ _ s _ _ hst=>mF ((s 0 rfl).trans sf0) rfl (nO rfl rfl hst)) (opsS_cons (fun f w_ _ _ _ _ p hst=>L_nc rfl (p 0 108 rfl rfl) (nO rfl rfl hst)) (opsS_cons (fun f w_ _ _ _ _ p hst=>fA 0 fa_115_0 (p 1 109 rfl rfl) rfl (nO rfl rfl hst)) (opsS_cons (fun f w_ _ _ _ _ p hst=>ldB 2 hst Try.isAgg27 (p 2 110 rfl rfl) rfl rfl (nO rfl rfl hst)) (opsS_cons (fun f w_ _ _ s _ _ hst=>fA 1 fa_63_1 ((s 3 rfl).trans sf3) rfl (nO rfl rfl hst)) (opsS_cons (fun f w_ _ _ _ _ p hst=>ldB 3 hst Try.isAgg3 (p 4 112 rfl rfl) rfl rfl (nO rfl rfl hst)) (opsS_cons (fun f w_ _ _ _ _ p hst=>L_ixO (R:=(OR.frz (rCon 117))) (tb:=0) 0 rfl Try.underlying27 Try.sizeOf41 (p 3 111 rfl rfl) hv208 (by first | rfl | simp) (p 5 113 rfl rfl) hx192 (nO rfl rfl hst)) (opsS_cons ?_ ?_)))))))
 intro f w_ H206 X206 hS206 hE206 hP206 hst
 obtain ⟨cs219,hr219,hat219⟩:=Star.eltF 0 hst rfl hv208 hx192
 obtain ⟨u220_0,rfl,hu220_0⟩:=rCon_iff.1 hr219
 refine L_lda (cs:=[u220_0,I x192.bound]) rfl Try.isAgg41 Try.sizeOf41 (hP206 6 114 rfl rfl) (At.sub hat219 0 2) rfl (L_nil ⟨rfl,_,_,rfl,Le.refl _,fun _ _=>⟨_,hu220_0,rfl⟩,hst⟩)
 refine opsS_cons ?_ ?_
 intro f w_ H206 X206 hS206 hE206 hP206 hst
 obtain ⟨u221_0,hu221_0,hv221⟩:=(hP206 7 115 rfl rfl)
 obtain ⟨H222b,l223,s224,z225,k226⟩:=hst.borrow
 refine L_call rfl Try.call133 (ops1 hv221) (i_SaturateConstraint_c (c:=x192) s224 (RP.mono _ hu221_0 l223) hx202) ?_
 rintro _ w227 ⟨r227_0,rfl,hst⟩
 have hst:=k226 hst (co closed_term c0)
 have hst:=hst.gets [4,4,4,4] rfl
 exact L_nil ⟨rfl,_,_,rfl,Le.refl _,fun _ _=>⟨_,_,rfl,⟨_,rfl⟩,rfl⟩,hst⟩
 refine opsS_cons ?_ ?_
 intro f w_ H206 X206 hS206 hE206 hP206 hst
 have hst : Star H206 w_ (oF 41 (rCon 117) v0_0 r_.list :: oF 4 RP.bool v0_1 r_.gone :: box g_0 115 #[v0_0,v0_1] :: box g3 63 #[I s.kind,I s.a,I s.b,v1_3,I s.given.bound] :: own (OR.ownS 117 (OR.frz rTerm)) [(aggC (tupC (f 116) 0) 0)] x202.1.terms :: X206):=hst
 obtain ⟨a229_0,a229_1,hv229,ht229_0,ht229_1⟩:=(hP206 8 116 rfl rfl)
 obtain ⟨u230_0,rfl⟩:=ht229_0
 obtain rfl:=ht229_1
 have hren : Star H206 w_ (oF 41 (rCon 117) v0_0 r_.list :: oF 4 RP.bool v0_1 r_.gone :: box g_0 115 #[v0_0,v0_1] :: box g3 63 #[I s.kind,I s.a,I s.b,v1_3,I s.given.bound] :: own (OR.ownS 117 (OR.frz rTerm)) [(aggC (tupC (f 116) 0) 0)] x202.1.terms :: X206):=hst
 rw [hv229] at hren
 have hst : Star H206 w_ (oF 41 (rCon 117) v0_0 r_.list :: oF 4 RP.bool v0_1 r_.gone :: box g_0 115 #[v0_0,v0_1] :: box g3 63 #[I s.kind,I s.a,I s.b,v1_3,I s.given.bound] :: oF 117 rTerm u230_0 x202.1.terms :: X206):=hren
 refine mF hv229 rfl (L_nil ⟨rfl,_,_,rfl,Le.refl _,fun _ _=>⟨_,_,rfl,⟨_,rfl⟩,rfl⟩,hst⟩)
 refine opsS_cons ?_ ?_
 intro f w_ H206 X206 hS206 hE206 hP206 hst
 have hst : Star H206 w_ (oF 41 (rCon 117) v0_0 r_.list :: oF 4 RP.bool v0_1 r_.gone :: box g_0 115 #[v0_0,v0_1] :: box g3 63 #[I s.kind,I s.a,I s.b,v1_3,I s.given.bound] :: own (OR.ownS 117 (OR.frz rTerm)) [(aggC (tupC (f 107) 0) 0)] x202.1.terms :: X206):=hst
 obtain ⟨a231_0,a231_1,hv231,ht231_0,ht231_1⟩:=(hP206 9 107 rfl rfl)
 obtain ⟨u232_0,rfl⟩:=ht231_0
 obtain rfl:=ht231_1
 have hren : Star H206 w_ (oF 41 (rCon 117) v0_0 r_.list :: oF 4 RP.bool v0_1 r_.gone :: box g_0 115 #[v0_0,v0_1] :: box g3 63 #[I s.kind,I s.a,I s.b,v1_3,I s.given.bound] :: own (OR.ownS 117 (OR.frz rTerm)) [(aggC (tupC (f 107) 0) 0)] x202.1.terms :: X206):=hst
 rw [hv231] at hren
 have hst : Star H206 w_ (oF 41 (rCon 117) v0_0 r_.list :: oF 4 RP.bool v0_1 r_.gone :: box g_0 115 #[v0_0,v0_1] :: box g3 63 #[I s.kind,I s.a,I s.b,v1_3,I s.given.bound] :: oF 117 rTerm u232_0 x202.1.terms :: X206):=hren
 refine L_ex (v:=.agg #[u232_0,I x202.1.bound]) rfl hv231 rfl (L_nil ⟨rfl,_,_,rfl,Le.refl _,fun _ _=>⟨_,rfl⟩,hst⟩)
 refine opsS_cons ?_ ?_
 intro f w_ H206 X206 hS206 hE206 hP206 hst
 obtain ⟨a233_0,a233_1,hv233,ht233_0,ht233_1⟩:=(hP206 9 107 rfl rfl)
 obtain ⟨u234_0,rfl⟩:=ht233_0
 obtain rfl:=ht233_1
 refine L_ex (v:=Bo x202.2) rfl hv233 rfl (L_nil ⟨rfl,_,_,rfl,Le.refl _,fun _ _=>rfl,hst⟩)
 refine opsS_cons ?_ ?_
 intro f w_ H206 X206 hS206 hE206 hP206 hst
 have hst : Star H206 w_ (oF 41 (rCon 117) v0_0 r_.list :: oF 4 RP.bool v0_1 r_.gone :: box g_0 115 #[v0_0,v0_1] :: box g3 63 #[I s.kind,I s.a,I s.b,v1_3,I s.given.bound] :: box g57 41 #[S0,I 0] :: own (OR.ownS 117 (OR.frz rTerm)) [(aggC (f 117) 0)] x202.1.terms :: X206):=hst
 obtain ⟨u235_0,hv235⟩:=(hP206 10 117 rfl rfl)
 have hren : Star H206 w_ (oF 41 (rCon 117) v0_0 r_.list :: oF 4 RP.bool v0_1 r_.gone :: box g_0 115 #[v0_0,v0_1] :: box g3 63 #[I s.kind,I s.a,I s.b,v1_3,I s.given.bound] :: box g57 41 #[S0,I 0] :: own (OR.ownS 117 (OR.frz rTerm)) [(aggC (f 117) 0)] x202.1.terms :: X206):=hst
 rw [hv235] at hren
 have hst : Star H206 w_ (oF 41 (rCon 117) v0_0 r_.list :: oF 4 RP.bool v0_1 r_.gone :: box g_0 115 #[v0_0,v0_1] :: box g3 63 #[I s.kind,I s.a,I s.b,v1_3,I s.given.bound] :: box g57 41 #[S0,I 0] :: oF 117 rTerm u235_0 x202.1.terms :: X206):=hren
 refine L_staB (vs:=#[u235_0,I x202.1.bound]) (cs2:=#[u235_0,I x202.1.bound]) 4 rfl Try.sizeOf41 ((hS206 7 rfl).trans rfl) hv235 rfl (ones_cons (one_len (Star.len 5 hst rfl)) (ones_cons rfl ones_nil)) hst rfl (by show 0 + 2≤2; decide) rfl (fun w236 hst=>?_)
 have hst:=hst.gets [5,5,5,5,5] rfl
 have hst : Star H206 w236 (oF 41 (rCon 117) v0_0 r_.list :: oF 4 RP.bool v0_1 r_.gone :: box g_0 115 #[v0_0,v0_1] :: box g3 63 #[I s.kind,I s.a,I s.b,v1_3,I s.given.bound] :: own (OR.ownS 117 (OR.frz rTerm)) [(aggC (f 117) 0)] x202.1.terms :: box g57 41 #[(aggC (f 117) 0),I x202.1.bound] :: X206):=by rw [hv235]; exact hst
 exact L_nil ⟨rfl,Bo false,_,rfl,Le.refl _,(fun _ h=>nomatch h),hst⟩
 exact opsS_nil
 have hst : Star H206 w_ (oF 41 (rCon 117) v0_0 r_.list :: oF 4 RP.bool v0_1 r_.gone :: box g_0 115 #[v0_0,v0_1] :: box g3 63 #[I s.kind,I s.a,I s.b,v1_3,I s.given.bound] :: own (OR.ownS 117 (OR.frz rTerm)) [(aggC (f 117) 0)] x202.1.terms :: box g57 41 #[(aggC (f 117) 0),I x202.1.bound] :: R):=hst
 refine aF (hT206 11 118 rfl rfl) rfl (nn ?_)
 obtain ⟨rfl,rfl,rfl⟩:=so3 hA190
 have hst:=hst.get 4 rfl
 obtain ⟨H237,l238,hst,hz239⟩:=Star.freeze hst
 have hz239 : (rS 117 rTerm).rel H237 [(aggC (f 117) 0)] x202.1.terms:=hz239
 have hst:=hst.gets [4,3,3,3] rfl
 have hst:=Star.drop 4 hst rfl
 exact rj hR190 ⟨H237,(aggC (f 117) 0),(Le.trans hE206 l238),((hS206 0 rfl).trans sf0),((hS206 7 rfl).trans rfl),rfl,hz239,hst⟩
 have hA190:=(ite_f hc191).symm.trans hA190
 refine sq (L_eql rfl rfl rfl (aB rfl (nn ?_)))
 obtain ⟨⟨ok_240,g57_0_241,g57_1_243⟩,hA246,hA190⟩:=bind_some hA190
 obtain ⟨R246,hR246⟩:=exR fun f w_=>∃ H244 : FH,∃ v241_g57_0 : Value,Le H33 H244∧f 0 = Pt g_0∧f 7 = Pt g57∧f 8 = Bo ok_240∧(rS 117 rTerm).rel H244 [v241_g57_0] g57_0_241∧Star H244 w_ (oF 41 (rCon 117) v0_0 r_.list :: oF 4 RP.bool v0_1 r_.gone :: box g_0 115 #[v0_0,v0_1] :: box g57 41 #[v241_g57_0,I g57_1_243] :: R)
 refine W_join R246 ?_ ?_
 refine W_cond (b:=(s.kind == 5)) rfl (fun hc247=>?_) (fun hc247=>?_)
 have hA246:=(ite_t hc247).symm.trans hA246
 obtain ⟨x248,hx248,hA246⟩:=bind_some hA246
 obtain ⟨x258,hx258,hA246⟩:=bind_some hA246
 obtain ⟨g263,cap_g263,hv264,_,_⟩:=Star.row 1 hst rfl hx248
 have hst:=hst.gets [4,4,4,4] rfl
 refine W_drawS 15 [isV (Pt g_0),isV (Pt g_0),isV (Pt g_0),isV (v0_0),isV (Pq g3 1),isV (I s.a),isV (.pointer (some ⟨g263,Int.toNat s.a * 2,none⟩)),exD (isData (rS 117 rTerm) x248.terms) fun u_0=>isV (.agg #[u_0,I x248.bound]),isV (Pq g3 2),isV (I s.b),tup2 (exA fun u_0=>isV (.agg #[u_0,I x258.1.bound])) (isV (Bo x258.2)),tup2 (exA fun u_0=>isV (.agg #[u_0,I x258.1.bound])) (isV (Bo x258.2)),exA fun u_0=>isV (.agg #[u_0,I x258.1.bound]),isV (Bo x258.2),anyF] [oF 41 (rCon 117) v0_0 r_.list,oF 4 RP.bool v0_1 r_.gone,box g_0 115 #[v0_0,v0_1],box g3 63 #[I s.kind,I s.a,I s.b,v1_3,I s.given.bound]] [.base (box g57 41 #[S0,I 0]) (some 14),.made 10 132 (fun v_=>own (OR.ownS 117 (OR.frz rTerm)) [(aggC (tupC v_ 0) 0)] x258.1.terms) (some 11),.made 11 121 (fun v_=>own (OR.ownS 117 (OR.frz rTerm)) [(aggC (tupC v_ 0) 0)] x258.1.terms) (some 12),.made 12 133 (fun v_=>oF 117 rTerm (aggC v_ 0) x258.1.terms) none,.madeN 14 [133] (fun vs_=>box g57 41 #[(aggC (vs_.getD 0 undef) 0),I x258.1.bound]) none] (R) [([],[]),([],[]),([],[]),([],[]),([],[]),([],[]),([],[]),([],[]),([],[]),([],[]),([],[1]),([1],[2]),([2],[3]),([],[]),([0,3],[3,4])] (S:=[(none,[],some 14),(some 10,[132],some 11),(some 11,[121],some 12),(some 12,[133],none),(some 14,[133],none)]) Try_mix (by kernel_rfl) rfl (by kernel_rfl) (amF_cons (mono_V _) (amF_cons (mono_V _) (amF_cons (mono_V _) (amF_cons (mono_V _) (amF_cons (mono_V _) (amF_cons (mono_V _) (amF_cons (mono_V _) (amF_cons (mono_exD (mono_data _ _) fun _=>mono_V _) (amF_cons (mono_V _) (amF_cons (mono_V _) (amF_cons (mono_tup2 (mono_exA fun _=>mono_V _) (mono_V _)) (amF_cons (mono_tup2 (mono_exA fun _=>mono_V _) (mono_V _)) (amF_cons (mono_exA fun _=>mono_V _) (amF_cons (mono_V _) (amF_cons (mono_any) amF_nil))))))))))))))) hst ?_ (fun f w_ H262 hS262 hE262 hT262 hst=>?_)
 refine opsS_cons (fun f w_ _ _ s _ _ hst=>mF ((s 0 rfl).trans sf0) rfl (nO rfl rfl hst)) (opsS_cons (fun f w_ _ _ _ _ p hst=>L_nc rfl (p 0 122 rfl rfl) (nO rfl rfl hst)) (opsS_cons (fun f w_ _ _ _ _ p hst=>fA 0 fa_115_0 (p 1 123 rfl rfl) rfl (nO rfl rfl hst)) (opsS_cons (fun f w_ _ _ _ _ p hst=>ldB 2 hst Try.isAgg27 (p 2 124 rfl rfl) rfl rfl (nO rfl rfl hst)) (opsS_cons (fun f w_ _ _ s _ _ hst=>fA 1 fa_63_1 ((s 3 rfl).trans sf3) rfl (nO rfl rfl hst)) (opsS_cons (fun f w_ _ _ _ _ p hst=>ldB 3 hst Try.isAgg3 (p 4 126 rfl rfl) rfl rfl (nO rfl rfl hst)) (opsS_cons (fun f w_ _ _ _ _ p hst=>L_ixO (R:=(OR.frz (rCon 117))) (tb:=0) 0 rfl Try.underlying27 Try.sizeOf41 (p 3 125 rfl rfl) hv264 (by first | rfl | simp) (p 5 127 rfl rfl) hx248 (nO rfl rfl hst)) (opsS_cons ?_ ?_)))))))
 intro f w_ H262 X262 hS262 hE262 hP262 hst
 obtain ⟨cs275,hr275,hat275⟩:=Star.eltF 0 hst rfl hv264 hx248
 obtain ⟨u276_0,rfl,hu276_0⟩:=rCon_iff.1 hr275
 refine L_lda (cs:=[u276_0,I x248.bound]) rfl Try.isAgg41 Try.sizeOf41 (hP262 6 128 rfl rfl) (At.sub hat275 0 2) rfl (L_nil ⟨rfl,_,_,rfl,Le.refl _,fun _ _=>⟨_,hu276_0,rfl⟩,hst⟩)
 refine opsS_cons (fun f w_ _ _ s _ _ hst=>fA 2 fa_63_2 ((s 3 rfl).trans sf3) rfl (nO rfl rfl hst)) (opsS_cons (fun f w_ _ _ _ _ p hst=>ldB 3 hst Try.isAgg3 (p 8 130 rfl rfl) rfl rfl (nO rfl rfl hst)) (opsS_cons ?_ ?_))
 intro f w_ H262 X262 hS262 hE262 hP262 hst
 obtain ⟨u277_0,hu277_0,hv277⟩:=(hP262 7 129 rfl rfl)
 obtain ⟨H278b,l279,s280,z281,k282⟩:=hst.borrow
 refine L_call rfl Try.call134 (ops2 hv277 (hP262 9 131 rfl rfl)) (i_WeakenConstraint_c (c:=x248) (variable_:=s.b) s280 (RP.mono _ hu277_0 l279) hx258) ?_
 rintro _ w283 ⟨r283_0,rfl,hst⟩
 have hst:=k282 hst (co closed_term c0)
 have hst:=hst.gets [4,4,4,4] rfl
 exact L_nil ⟨rfl,_,_,rfl,Le.refl _,fun _ _=>⟨_,_,rfl,⟨_,rfl⟩,rfl⟩,hst⟩
 refine opsS_cons ?_ ?_
 intro f w_ H262 X262 hS262 hE262 hP262 hst
 have hst : Star H262 w_ (oF 41 (rCon 117) v0_0 r_.list :: oF 4 RP.bool v0_1 r_.gone :: box g_0 115 #[v0_0,v0_1] :: box g3 63 #[I s.kind,I s.a,I s.b,v1_3,I s.given.bound] :: own (OR.ownS 117 (OR.frz rTerm)) [(aggC (tupC (f 132) 0) 0)] x258.1.terms :: X262):=hst
 obtain ⟨a285_0,a285_1,hv285,ht285_0,ht285_1⟩:=(hP262 10 132 rfl rfl)
 obtain ⟨u286_0,rfl⟩:=ht285_0
 obtain rfl:=ht285_1
 have hren : Star H262 w_ (oF 41 (rCon 117) v0_0 r_.list :: oF 4 RP.bool v0_1 r_.gone :: box g_0 115 #[v0_0,v0_1] :: box g3 63 #[I s.kind,I s.a,I s.b,v1_3,I s.given.bound] :: own (OR.ownS 117 (OR.frz rTerm)) [(aggC (tupC (f 132) 0) 0)] x258.1.terms :: X262):=hst
 rw [hv285] at hren
 have hst : Star H262 w_ (oF 41 (rCon 117) v0_0 r_.list :: oF 4 RP.bool v0_1 r_.gone :: box g_0 115 #[v0_0,v0_1] :: box g3 63 #[I s.kind,I s.a,I s.b,v1_3,I s.given.bound] :: oF 117 rTerm u286_0 x258.1.terms :: X262):=hren
 refine mF hv285 rfl (L_nil ⟨rfl,_,_,rfl,Le.refl _,fun _ _=>⟨_,_,rfl,⟨_,rfl⟩,rfl⟩,hst⟩)
 refine opsS_cons ?_ ?_
 intro f w_ H262 X262 hS262 hE262 hP262 hst
 have hst : Star H262 w_ (oF 41 (rCon 117) v0_0 r_.list :: oF 4 RP.bool v0_1 r_.gone :: box g_0 115 #[v0_0,v0_1] :: box g3 63 #[I s.kind,I s.a,I s.b,v1_3,I s.given.bound] :: own (OR.ownS 117 (OR.frz rTerm)) [(aggC (tupC (f 121) 0) 0)] x258.1.terms :: X262):=hst
 obtain ⟨a287_0,a287_1,hv287,ht287_0,ht287_1⟩:=(hP262 11 121 rfl rfl)
 obtain ⟨u288_0,rfl⟩:=ht287_0
 obtain rfl:=ht287_1
 have hren : Star H262 w_ (oF 41 (rCon 117) v0_0 r_.list :: oF 4 RP.bool v0_1 r_.gone :: box g_0 115 #[v0_0,v0_1] :: box g3 63 #[I s.kind,I s.a,I s.b,v1_3,I s.given.bound] :: own (OR.ownS 117 (OR.frz rTerm)) [(aggC (tupC (f 121) 0) 0)] x258.1.terms :: X262):=hst
 rw [hv287] at hren
 have hst : Star H262 w_ (oF 41 (rCon 117) v0_0 r_.list :: oF 4 RP.bool v0_1 r_.gone :: box g_0 115 #[v0_0,v0_1] :: box g3 63 #[I s.kind,I s.a,I s.b,v1_3,I s.given.bound] :: oF 117 rTerm u288_0 x258.1.terms :: X262):=hren
 refine L_ex (v:=.agg #[u288_0,I x258.1.bound]) rfl hv287 rfl (L_nil ⟨rfl,_,_,rfl,Le.refl _,fun _ _=>⟨_,rfl⟩,hst⟩)
 refine opsS_cons ?_ ?_
 intro f w_ H262 X262 hS262 hE262 hP262 hst
 obtain ⟨a289_0,a289_1,hv289,ht289_0,ht289_1⟩:=(hP262 11 121 rfl rfl)
 obtain ⟨u290_0,rfl⟩:=ht289_0
 obtain rfl:=ht289_1
 refine L_ex (v:=Bo x258.2) rfl hv289 rfl (L_nil ⟨rfl,_,_,rfl,Le.refl _,fun _ _=>rfl,hst⟩)
 refine opsS_cons ?_ ?_
 intro f w_ H262 X262 hS262 hE262 hP262 hst
 have hst : Star H262 w_ (oF 41 (rCon 117) v0_0 r_.list :: oF 4 RP.bool v0_1 r_.gone :: box g_0 115 #[v0_0,v0_1] :: box g3 63 #[I s.kind,I s.a,I s.b,v1_3,I s.given.bound] :: box g57 41 #[S0,I 0] :: own (OR.ownS 117 (OR.frz rTerm)) [(aggC (f 133) 0)] x258.1.terms :: X262):=hst
 obtain ⟨u291_0,hv291⟩:=(hP262 12 133 rfl rfl)
 have hren : Star H262 w_ (oF 41 (rCon 117) v0_0 r_.list :: oF 4 RP.bool v0_1 r_.gone :: box g_0 115 #[v0_0,v0_1] :: box g3 63 #[I s.kind,I s.a,I s.b,v1_3,I s.given.bound] :: box g57 41 #[S0,I 0] :: own (OR.ownS 117 (OR.frz rTerm)) [(aggC (f 133) 0)] x258.1.terms :: X262):=hst
 rw [hv291] at hren
 have hst : Star H262 w_ (oF 41 (rCon 117) v0_0 r_.list :: oF 4 RP.bool v0_1 r_.gone :: box g_0 115 #[v0_0,v0_1] :: box g3 63 #[I s.kind,I s.a,I s.b,v1_3,I s.given.bound] :: box g57 41 #[S0,I 0] :: oF 117 rTerm u291_0 x258.1.terms :: X262):=hren
 refine L_staB (vs:=#[u291_0,I x258.1.bound]) (cs2:=#[u291_0,I x258.1.bound]) 4 rfl Try.sizeOf41 ((hS262 7 rfl).trans rfl) hv291 rfl (ones_cons (one_len (Star.len 5 hst rfl)) (ones_cons rfl ones_nil)) hst rfl (by show 0 + 2≤2; decide) rfl (fun w292 hst=>?_)
 have hst:=hst.gets [5,5,5,5,5] rfl
 have hst : Star H262 w292 (oF 41 (rCon 117) v0_0 r_.list :: oF 4 RP.bool v0_1 r_.gone :: box g_0 115 #[v0_0,v0_1] :: box g3 63 #[I s.kind,I s.a,I s.b,v1_3,I s.given.bound] :: own (OR.ownS 117 (OR.frz rTerm)) [(aggC (f 133) 0)] x258.1.terms :: box g57 41 #[(aggC (f 133) 0),I x258.1.bound] :: X262):=by rw [hv291]; exact hst
 exact L_nil ⟨rfl,Bo false,_,rfl,Le.refl _,(fun _ h=>nomatch h),hst⟩
 exact opsS_nil
 have hst : Star H262 w_ (oF 41 (rCon 117) v0_0 r_.list :: oF 4 RP.bool v0_1 r_.gone :: box g_0 115 #[v0_0,v0_1] :: box g3 63 #[I s.kind,I s.a,I s.b,v1_3,I s.given.bound] :: own (OR.ownS 117 (OR.frz rTerm)) [(aggC (f 133) 0)] x258.1.terms :: box g57 41 #[(aggC (f 133) 0),I x258.1.bound] :: R):=hst
 refine aF (hT262 13 134 rfl rfl) rfl (nn ?_)
 obtain ⟨rfl,rfl,rfl⟩:=so3 hA246
 have hst:=hst.get 4 rfl
 obtain ⟨H293,l294,hst,hz295⟩:=Star.freeze hst
 have hz295 : (rS 117 rTerm).rel H293 [(aggC (f 133) 0)] x258.1.terms:=hz295
 have hst:=hst.gets [4,3,3,3] rfl
 have hst:=Star.drop 4 hst rfl
 exact rj hR246 ⟨H293,(aggC (f 133) 0),(Le.trans hE262 l294),((hS262 0 rfl).trans sf0),((hS262 7 rfl).trans rfl),rfl,hz295,hst⟩
 have hA246:=(ite_f hc247).symm.trans hA246
 refine sq (L_eql rfl rfl rfl (aB rfl (nn ?_)))
 obtain ⟨⟨ok_296,g57_0_297,g57_1_299⟩,hA302,hA246⟩:=bind_some hA246
 obtain ⟨R302,hR302⟩:=exR fun f w_=>∃ H300 : FH,∃ v297_g57_0 : Value,Le H33 H300∧f 0 = Pt g_0∧f 7 = Pt g57∧f 8 = Bo ok_296∧(rS 117 rTerm).rel H300 [v297_g57_0] g57_0_297∧Star H300 w_ (oF 41 (rCon 117) v0_0 r_.list :: oF 4 RP.bool v0_1 r_.gone :: box g_0 115 #[v0_0,v0_1] :: box g57 41 #[v297_g57_0,I g57_1_299] :: R)
 refine W_join R302 ?_ ?_
 refine W_cond (b:=(s.kind == 6)) rfl (fun hc303=>?_) (fun hc303=>?_)
 have hA302:=(ite_t hc303).symm.trans hA302
 obtain ⟨x309,hx309,hA302⟩:=bind_some hA302
 refine W_region (fA 1 fa_63_1 sf3 rfl (ldB 4 hst Try.isAgg3 rfl rfl rfl ?_))
 obtain ⟨H313b,l314,s315,z316,k317⟩:=hst.borrow
 refine L_call rfl Try.call135 (ops1 rfl) (i_LiteralAxiom_c (lit:=s.a) s315 hx309) ?_
 rintro _ w318 ⟨r318_0,rfl,hst⟩
 have hst:=k317 hst (co closed_term c0)
 refine mV (.tuple #[.agg #[r318_0,I x309.1.bound],Bo x309.2]) rfl (L_ex (v:=.agg #[r318_0,I x309.1.bound]) rfl rfl rfl (L_ex (v:=Bo x309.2) rfl rfl rfl (L_staB (vs:=#[r318_0,I x309.1.bound]) (cs2:=#[r318_0,I x309.1.bound]) 1 rfl Try.sizeOf41 rfl rfl rfl (ones_cons (one_len (Star.len 0 hst rfl)) (ones_cons rfl ones_nil)) hst rfl (by show 0 + 2≤2; decide) rfl (fun w320 hst=>aB rfl (nn ?_)))))
 obtain ⟨rfl,rfl,rfl⟩:=so3 hA302
 have hst:=hst.get 1 rfl
 obtain ⟨H321,l322,hst,hz323⟩:=Star.freeze hst
 have hz323 : (rS 117 rTerm).rel H321 [r318_0] x309.1.terms:=hz323
 have hst:=hst.gets [3,3,3] rfl
 have hst:=Star.drop 4 hst rfl
 exact rj hR302 ⟨H321,r318_0,l322,sf0,rfl,rfl,hz323,hst⟩
 have hA302:=(ite_f hc303).symm.trans hA302
 refine sq (L_eql rfl rfl rfl (aB rfl (nn ?_)))
 obtain ⟨⟨ok_324,g57_0_325,g57_1_327⟩,hA330,hA302⟩:=bind_some hA302
 obtain ⟨R330,hR330⟩:=exR fun f w_=>∃ H328 : FH,∃ v325_g57_0 : Value,Le H33 H328∧f 0 = Pt g_0∧f 7 = Pt g57∧f 8 = Bo ok_324∧(rS 117 rTerm).rel H328 [v325_g57_0] g57_0_325∧Star H328 w_ (oF 41 (rCon 117) v0_0 r_.list :: oF 4 RP.bool v0_1 r_.gone :: box g_0 115 #[v0_0,v0_1] :: box g57 41 #[v325_g57_0,I g57_1_327] :: R)
 refine W_join R330 ?_ ?_
 refine W_cond (b:=(s.kind == 7)) rfl (fun hc331=>?_) (fun hc331=>?_)
 have hA330:=(ite_t hc331).symm.trans hA330
 obtain ⟨x337,hx337,hA330⟩:=bind_some hA330
 obtain ⟨b350,hb350,hA330⟩:=bind_some hA330
 obtain ⟨R357,hR357⟩:=exR fun f w_=>∃ H355 : FH,∃ v353_g57_0 : Value,Le H33 H355∧f 0 = Pt g_0∧f 7 = Pt g57∧f 8 = Bo b350∧(rS 117 rTerm).rel H355 [v353_g57_0] s.given.terms∧Star H355 w_ (oF 41 (rCon 117) v0_0 r_.list :: oF 4 RP.bool v0_1 r_.gone :: box g_0 115 #[v0_0,v0_1] :: box g57 41 #[v353_g57_0,I s.given.bound] :: R)
 refine W_join R357 ?_ ?_
 rcases Bool.eq_false_or_eq_true x337 with hc358 | hc358
 rw [ite_t hc358] at hb350
 obtain ⟨x339,hx339,hb350⟩:=bind_some hb350
 obtain ⟨x348,hx348,hb350⟩:=bind_some hb350
 have hst:=hst.gets [4,4,4,4] rfl
 refine W_drawS 13 [isV (Pq g3 3),isV (.agg #[v1_3,I s.given.bound]),isV (Pq g3 3),isV (.agg #[v1_3,I s.given.bound]),isV (Bo x337),isV (Bo x337),isV (Pt g_0),anyF,isV (Pq g3 3),isV (.agg #[v1_3,I s.given.bound]),isV (Bo x348),isV (Bo b350),anyF] [oF 41 (rCon 117) v0_0 r_.list,oF 4 RP.bool v0_1 r_.gone,box g_0 115 #[v0_0,v0_1],box g3 63 #[I s.kind,I s.a,I s.b,v1_3,I s.given.bound]] [.base (box g57 41 #[S0,I 0]) (some 12),.made 7 152 (fun v_=>oF 41 (rCon 117) v_ x339) none,.madeN 12 [] (fun vs_=>box g57 41 #[v1_3,I s.given.bound]) none] (R) [([],[]),([],[]),([],[]),([],[]),([],[]),([],[]),([],[]),([],[1]),([],[]),([],[]),([1],[1]),([],[]),([0],[2])] (S:=[(none,[],some 12),(some 7,[152],none),(some 12,[],none)]) Try_mix (by kernel_rfl) rfl (by kernel_rfl) (amF_cons (mono_V _) (amF_cons (mono_V _) (amF_cons (mono_V _) (amF_cons (mono_V _) (amF_cons (mono_V _) (amF_cons (mono_V _) (amF_cons (mono_V _) (amF_cons (mono_any) (amF_cons (mono_V _) (amF_cons (mono_V _) (amF_cons (mono_V _) (amF_cons (mono_V _) (amF_cons (mono_any) amF_nil))))))))))))) hst ?_ (fun f w_ H352 hS352 hE352 hT352 hst=>?_)
 refine opsS_cons (fun f w_ _ _ s _ _ hst=>fA 3 fa_63_3 ((s 3 rfl).trans sf3) rfl (nO rfl rfl hst)) (opsS_cons (fun f w_ _ _ _ _ p hst=>L_lda (cs:=[v1_3,I s.given.bound]) rfl Try.isAgg41 Try.sizeOf41 (p 0 145 rfl rfl) (At.sub0 (Blk.at (Star.blkAt 3 hst rfl)) 3 2) rfl (nO rfl rfl hst)) (opsS_cons (fun f w_ _ _ s _ _ hst=>fA 3 fa_63_3 ((s 3 rfl).trans sf3) rfl (nO rfl rfl hst)) (opsS_cons (fun f w_ _ _ _ _ p hst=>L_lda (cs:=[v1_3,I s.given.bound]) rfl Try.isAgg41 Try.sizeOf41 (p 2 147 rfl rfl) (At.sub0 (Blk.at (Star.blkAt 3 hst rfl)) 3 2) rfl (nO rfl rfl hst)) (opsS_cons ?_ ?_))))
 intro f w_ H352 X352 hS352 hE352 hP352 hst
 obtain ⟨H375b,l376,s377,z378,k379⟩:=hst.borrow
 refine L_call rfl Try.call61 (ops1 (hP352 3 148 rfl rfl)) (i_ConstraintValid_c (c:=s.given) s377 (RP.mono _ h1_3 (Le.trans (Le.trans l34 hE352) l376)) hx337) ?_
 rintro _ w380 ⟨rfl,hst⟩
 have hst:=k379 hst c0
 exact L_nil ⟨rfl,_,_,rfl,Le.refl _,fun _ _=>rfl,hst⟩
 refine opsS_cons (fun f w_ _ _ _ _ p hst=>mF (p 4 149 rfl rfl) rfl (nO rfl rfl hst)) (opsS_cons (fun f w_ _ _ s _ p hst=>L_mv (v:=Pt g_0) (g_yes rfl (Eq.trans (p 5 150 rfl rfl) (congrArg Value.bool hc358)) rfl) ((s 0 rfl).trans sf0) (nO rfl rfl hst)) (opsS_cons ?_ ?_))
 intro f w_ H352 X352 hS352 hE352 hP352 hst
 have hst:=hst.gets [1,1,2] rfl
 refine L_call (g_yes rfl (Eq.trans (hP352 5 150 rfl rfl) (congrArg Value.bool hc358)) rfl) Try.call63 (ops1 (hP352 6 151 rfl rfl)) (i_running_left_c (r_:=r_) hst hx339) ?_
 rintro r381_0 w381 ⟨H381,l381,_,rfl,hst⟩
 have hst:=hst.gets [4,2,4,4] rfl
 exact L_nil ⟨rfl,_,_,rfl,l381,fun _ _=>trivial,hst⟩
 refine opsS_cons (fun f w_ _ _ s _ p hst=>L_fa (o':=3) (g_yes rfl (Eq.trans (p 5 150 rfl rfl) (congrArg Value.bool hc358)) rfl) fa_63_3 ((s 3 rfl).trans sf3) rfl (nO rfl rfl hst)) (opsS_cons (fun f w_ _ _ _ _ p hst=>L_lda (cs:=[v1_3,I s.given.bound]) (g_yes rfl (Eq.trans (p 5 150 rfl rfl) (congrArg Value.bool hc358)) rfl) Try.isAgg41 Try.sizeOf41 (p 8 153 rfl rfl) (At.sub0 (Blk.at (Star.blkAt 3 hst rfl)) 3 2) rfl (nO rfl rfl hst)) (opsS_cons ?_ ?_))
 intro f w_ H352 X352 hS352 hE352 hP352 hst
 have hst : Star H352 w_ (oF 41 (rCon 117) v0_0 r_.list :: oF 4 RP.bool v0_1 r_.gone :: box g_0 115 #[v0_0,v0_1] :: box g3 63 #[I s.kind,I s.a,I s.b,v1_3,I s.given.bound] :: oF 41 (rCon 117) (f 152) x339 :: X352):=hst
 obtain ⟨H384b,l385,s386,z387,k388⟩:=hst.borrow
 have hb389 : (rS 41 (rCon 117)).rel H384b [(f 152)] x339:=fz_own 4 z387 rfl
 refine L_call (g_yes rfl (Eq.trans (hP352 5 150 rfl rfl) (congrArg Value.bool hc358)) rfl) Try.call74 (ops2 rfl (hP352 9 154 rfl rfl)) (i_rup_c (list:=x339) (c:=s.given) s386 hb389 (RP.mono _ h1_3 (Le.trans (Le.trans l34 hE352) l385)) hx348) ?_
 rintro _ w390 ⟨rfl,hst⟩
 have hst:=k388 hst c0
 exact L_nil ⟨rfl,_,_,rfl,Le.refl _,fun _ _=>rfl,hst⟩
 refine opsS_cons (fun f w_ _ _ _ _ p hst=>pkT (v:=Bo b350) (p 5 150 rfl rfl) hc358 rfl (Eq.trans (p 10 155 rfl rfl) (congrArg Value.bool (so hb350))) (nO rfl rfl hst)) (opsS_cons ?_ ?_)
 intro f w_ H352 X352 hS352 hE352 hP352 hst
 have hst : Star H352 w_ (oF 41 (rCon 117) v0_0 r_.list :: oF 4 RP.bool v0_1 r_.gone :: box g_0 115 #[v0_0,v0_1] :: box g3 63 #[I s.kind,I s.a,I s.b,v1_3,I s.given.bound] :: box g57 41 #[S0,I 0] :: X352):=hst
 refine L_staB (vs:=#[v1_3,I s.given.bound]) (cs2:=#[v1_3,I s.given.bound]) 4 rfl Try.sizeOf41 ((hS352 7 rfl).trans rfl) (hP352 1 146 rfl rfl) rfl (ones_cons (one_len (slice_len (RP.mono _ h1_3 (Le.trans l34 hE352)))) (ones_cons rfl ones_nil)) hst rfl (by show 0 + 2≤2; decide) rfl (fun w391 hst=>?_)
 have hst:=hst.gets [4,4,4,4] rfl
 exact L_nil ⟨rfl,Bo false,_,rfl,Le.refl _,(fun _ h=>nomatch h),hst⟩
 exact opsS_nil
 have hst : Star H352 w_ (oF 41 (rCon 117) v0_0 r_.list :: oF 4 RP.bool v0_1 r_.gone :: box g_0 115 #[v0_0,v0_1] :: box g3 63 #[I s.kind,I s.a,I s.b,v1_3,I s.given.bound] :: oF 41 (rCon 117) (f 152) x339 :: box g57 41 #[v1_3,I s.given.bound] :: R):=hst
 refine aF (hT352 11 156 rfl rfl) rfl (nn ?_)
 have hst:=hst.gets [5,3,3,3] rfl
 have hst:=Star.drop 4 hst rfl
 have hst:=Star.drop 4 hst rfl
 exact rj hR357 ⟨H352,v1_3,hE352,((hS352 0 rfl).trans sf0),((hS352 7 rfl).trans rfl),rfl,(RP.mono _ h1_3 (Le.trans l34 hE352)),hst⟩
 rw [ite_f hc358] at hb350
 have hst:=hst.gets [4,4,4,4] rfl
 refine W_drawS 13 [isV (Pq g3 3),isV (.agg #[v1_3,I s.given.bound]),isV (Pq g3 3),isV (.agg #[v1_3,I s.given.bound]),isV (Bo x337),isV (Bo x337),isV (undef),isV (undef),isV (undef),isV (undef),isV (undef),isV (Bo b350),anyF] [oF 41 (rCon 117) v0_0 r_.list,oF 4 RP.bool v0_1 r_.gone,box g_0 115 #[v0_0,v0_1],box g3 63 #[I s.kind,I s.a,I s.b,v1_3,I s.given.bound]] [.base (box g57 41 #[S0,I 0]) (some 12),.madeN 12 [] (fun vs_=>box g57 41 #[v1_3,I s.given.bound]) none] (R) [([],[]),([],[]),([],[]),([],[]),([],[]),([],[]),([],[]),([],[]),([],[]),([],[]),([],[]),([],[]),([0],[1])] (S:=[(none,[],some 12),(some 12,[],none)]) Try_mix (by kernel_rfl) rfl (by kernel_rfl) (amF_cons (mono_V _) (amF_cons (mono_V _) (amF_cons (mono_V _) (amF_cons (mono_V _) (amF_cons (mono_V _) (amF_cons (mono_V _) (amF_cons (mono_V _) (amF_cons (mono_V _) (amF_cons (mono_V _) (amF_cons (mono_V _) (amF_cons (mono_V _) (amF_cons (mono_V _) (amF_cons (mono_any) amF_nil))))))))))))) hst ?_ (fun f w_ H352 hS352 hE352 hT352 hst=>?_)
 refine opsS_cons (fun f w_ _ _ s _ _ hst=>fA 3 fa_63_3 ((s 3 rfl).trans sf3) rfl (nO rfl rfl hst)) (opsS_cons (fun f w_ _ _ _ _ p hst=>L_lda (cs:=[v1_3,I s.given.bound]) rfl Try.isAgg41 Try.sizeOf41 (p 0 145 rfl rfl) (At.sub0 (Blk.at (Star.blkAt 3 hst rfl)) 3 2) rfl (nO rfl rfl hst)) (opsS_cons (fun f w_ _ _ s _ _ hst=>fA 3 fa_63_3 ((s 3 rfl).trans sf3) rfl (nO rfl rfl hst)) (opsS_cons (fun f w_ _ _ _ _ p hst=>L_lda (cs:=[v1_3,I s.given.bound]) rfl Try.isAgg41 Try.sizeOf41 (p 2 147 rfl rfl) (At.sub0 (Blk.at (Star.blkAt 3 hst rfl)) 3 2) rfl (nO rfl rfl hst)) (opsS_cons ?_ ?_))))
 intro f w_ H352 X352 hS352 hE352 hP352 hst
 obtain ⟨H399b,l400,s401,z402,k403⟩:=hst.borrow
 refine L_call rfl Try.call61 (ops1 (hP352 3 148 rfl rfl)) (i_ConstraintValid_c (c:=s.given) s401 (RP.mono _ h1_3 (Le.trans (Le.trans l34 hE352) l400)) hx337) ?_
 rintro _ w404 ⟨rfl,hst⟩
 have hst:=k403 hst c0
 exact L_nil ⟨rfl,_,_,rfl,Le.refl _,fun _ _=>rfl,hst⟩
 refine opsS_cons (fun f w_ _ _ _ _ p hst=>mF (p 4 149 rfl rfl) rfl (nO rfl rfl hst)) (oP (fun _ _ p=>gN (p 5 150 rfl rfl) hc358 rfl) (fun _=>rfl) (oP (fun _ _ p=>gN (p 5 150 rfl rfl) hc358 rfl) (fun _=>rfl) (oP (fun _ _ p=>gN (p 5 150 rfl rfl) hc358 rfl) (fun _=>rfl) (oP (fun _ _ p=>gN (p 5 150 rfl rfl) hc358 rfl) (fun _=>rfl) (oP (fun _ _ p=>gN (p 5 150 rfl rfl) hc358 rfl) (fun _=>rfl) (opsS_cons (fun f w_ _ _ _ _ p hst=>pkT (v:=Bo b350) (p 5 150 rfl rfl) hc358 rfl (congrArg Value.bool (so hb350)) (nO rfl rfl hst)) (opsS_cons ?_ ?_)))))))
 intro f w_ H352 X352 hS352 hE352 hP352 hst
 have hst : Star H352 w_ (oF 41 (rCon 117) v0_0 r_.list :: oF 4 RP.bool v0_1 r_.gone :: box g_0 115 #[v0_0,v0_1] :: box g3 63 #[I s.kind,I s.a,I s.b,v1_3,I s.given.bound] :: box g57 41 #[S0,I 0] :: X352):=hst
 refine L_staB (vs:=#[v1_3,I s.given.bound]) (cs2:=#[v1_3,I s.given.bound]) 4 rfl Try.sizeOf41 ((hS352 7 rfl).trans rfl) (hP352 1 146 rfl rfl) rfl (ones_cons (one_len (slice_len (RP.mono _ h1_3 (Le.trans l34 hE352)))) (ones_cons rfl ones_nil)) hst rfl (by show 0 + 2≤2; decide) rfl (fun w405 hst=>?_)
 have hst:=hst.gets [4,4,4,4] rfl
 exact L_nil ⟨rfl,Bo false,_,rfl,Le.refl _,(fun _ h=>nomatch h),hst⟩
 exact opsS_nil
 have hst : Star H352 w_ (oF 41 (rCon 117) v0_0 r_.list :: oF 4 RP.bool v0_1 r_.gone :: box g_0 115 #[v0_0,v0_1] :: box g3 63 #[I s.kind,I s.a,I s.b,v1_3,I s.given.bound] :: box g57 41 #[v1_3,I s.given.bound] :: R):=hst
 refine aF (hT352 11 156 rfl rfl) rfl (nn ?_)
 have hst:=hst.gets [4,3,3,3] rfl
 have hst:=Star.drop 4 hst rfl
 exact rj hR357 ⟨H352,v1_3,hE352,((hS352 0 rfl).trans sf0),((hS352 7 rfl).trans rfl),rfl,(RP.mono _ h1_3 (Le.trans l34 hE352)),hst⟩
 intro f w_ hR
 obtain ⟨H355,v353_g57_0,l356,sf0,sf7,sf8,hv354_g57_0,hst⟩:=rk hR357 hR
 obtain ⟨rfl,rfl,rfl⟩:=so3 hA330
 exact rj hR330 ⟨H355,v353_g57_0,l356,sf0,sf7,sf8,hv354_g57_0,hst⟩
 have hA330:=(ite_f hc331).symm.trans hA330
 refine W_skip ?_
 obtain ⟨rfl,rfl,rfl⟩:=so3 hA330
 have hst:=hst.gets [3,3,3] rfl
 have hst:=Star.drop 4 hst rfl
 exact rj hR330 ⟨H33,S0,(Le.refl _),sf0,rfl,rfl,(rel_nil _ _ _),hst⟩
 intro f w_ hR
 obtain ⟨H328,v325_g57_0,l329,sf0,sf7,sf8,hv326_g57_0,hst⟩:=rk hR330 hR
 obtain ⟨rfl,rfl,rfl⟩:=so3 hA302
 exact rj hR302 ⟨H328,v325_g57_0,l329,sf0,sf7,sf8,hv326_g57_0,hst⟩
 intro f w_ hR
 obtain ⟨H300,v297_g57_0,l301,sf0,sf7,sf8,hv298_g57_0,hst⟩:=rk hR302 hR
 obtain ⟨rfl,rfl,rfl⟩:=so3 hA246
 exact rj hR246 ⟨H300,v297_g57_0,l301,sf0,sf7,sf8,hv298_g57_0,hst⟩
 intro f w_ hR
 obtain ⟨H244,v241_g57_0,l245,sf0,sf7,sf8,hv242_g57_0,hst⟩:=rk hR246 hR
 obtain ⟨rfl,rfl,rfl⟩:=so3 hA190
 exact rj hR190 ⟨H244,v241_g57_0,l245,sf0,sf7,sf8,hv242_g57_0,hst⟩
 intro f w_ hR
 obtain ⟨H188,v185_g57_0,l189,sf0,sf7,sf8,hv186_g57_0,hst⟩:=rk hR190 hR
 obtain ⟨rfl,rfl,rfl⟩:=so3 hA154
 exact rj hR154 ⟨H188,v185_g57_0,l189,sf0,sf7,sf8,hv186_g57_0,hst⟩
 intro f w_ hR
 obtain ⟨H152,v149_g57_0,l153,sf0,sf7,sf8,hv150_g57_0,hst⟩:=rk hR154 hR
 obtain ⟨rfl,rfl,rfl⟩:=so3 hA118
 exact rj hR118 ⟨H152,v149_g57_0,l153,sf0,sf7,sf8,hv150_g57_0,hst⟩
 intro f w_ hR
 obtain ⟨H116,v113_g57_0,l117,sf0,sf7,sf8,hv114_g57_0,hst⟩:=rk hR118 hR
 obtain ⟨rfl,rfl,rfl⟩:=so3 hA74
 exact rj hR74 ⟨H116,v113_g57_0,l117,sf0,sf7,sf8,hv114_g57_0,hst⟩
 intro f w_ hR
 obtain ⟨H72,v69_g57_0,l73,sf0,sf7,sf8,hv70_g57_0,hst⟩:=rk hR74 hR
 refine W_seq ?_
 obtain ⟨x409,hx409,hF⟩:=bind_some hF
 obtain ⟨x416,hx416,hF⟩:=bind_some hF
 have hst:=hst.gets [2,2,2,3] rfl
 refine W_drawS 18 [isV (Pt g_0),isV (Pt g_0),isV (Pt g_0),isV (Pt g_0),isV (Pt g_0),isV (v0_0),isV (.agg #[v69_g57_0,I g57_1_71]),anyF,anyF,isV (Pt g_0),isV (Pt g_0),isV (Pq g_0 1),isV (v0_1),anyF,anyF,isV (Pt g_0),isV (Pt g_0),anyF] [box g57 41 #[v69_g57_0,I g57_1_71]] [.base (oF 41 (rCon 117) v0_0 r_.list) (some 8),.base (oF 4 RP.bool v0_1 r_.gone) (some 14),.base (box g_0 115 #[v0_0,v0_1]) (some 17),.made 7 164 (fun v_=>oF 41 (rCon 117) v_ ([({ terms:=g57_0_69,bound:=g57_1_71 } : Con)])) (some 8),.made 8 165 (fun v_=>oF 41 (rCon 117) v_ x409) none,.made 13 170 (fun v_=>oF 4 RP.bool v_ ([false])) (some 14),.made 14 171 (fun v_=>oF 4 RP.bool v_ x416) none,.madeN 17 [165] (fun vs_=>box g_0 115 #[(vs_.getD 0 undef),v0_1]) none] (R) [([],[]),([],[]),([],[]),([],[]),([],[]),([2],[2]),([],[]),([],[3]),([0,3],[4]),([],[]),([],[]),([],[]),([2],[2]),([],[5]),([1,5],[6]),([],[]),([],[]),([2,4],[4,7])] (S:=[(none,[],some 8),(none,[],some 14),(none,[],some 17),(some 7,[164],some 8),(some 8,[165],none),(some 13,[170],some 14),(some 14,[171],none),(some 17,[165],none)]) Try_mix (by kernel_rfl) rfl (by kernel_rfl) (amF_cons (mono_V _) (amF_cons (mono_V _) (amF_cons (mono_V _) (amF_cons (mono_V _) (amF_cons (mono_V _) (amF_cons (mono_V _) (amF_cons (mono_V _) (amF_cons (mono_any) (amF_cons (mono_any) (amF_cons (mono_V _) (amF_cons (mono_V _) (amF_cons (mono_V _) (amF_cons (mono_V _) (amF_cons (mono_any) (amF_cons (mono_any) (amF_cons (mono_V _) (amF_cons (mono_V _) (amF_cons (mono_any) amF_nil)))))))))))))))))) hst ?_ (fun f w_ H422 hS422 hE422 hT422 hst=>?_)
 refine opsS_cons (fun f w_ _ _ s _ _ hst=>mF ((s 0 rfl).trans sf0) rfl (nO rfl rfl hst)) (opsS_cons (fun f w_ _ _ s _ _ hst=>mF ((s 0 rfl).trans sf0) rfl (nO rfl rfl hst)) (opsS_cons (fun f w_ _ _ s _ _ hst=>mF ((s 0 rfl).trans sf0) rfl (nO rfl rfl hst)) (opsS_cons (fun f w_ _ _ _ _ p hst=>L_nc rfl (p 2 159 rfl rfl) (nO rfl rfl hst)) (opsS_cons (fun f w_ _ _ _ _ p hst=>fA 0 fa_115_0 (p 3 160 rfl rfl) rfl (nO rfl rfl hst)) (opsS_cons ?_ ?_)))))
 intro f w_ H422 X422 hS422 hE422 hP422 hst
 have hst : Star H422 w_ (box g57 41 #[v69_g57_0,I g57_1_71] :: box g_0 115 #[v0_0,v0_1] :: X422):=hst
 refine ldB 1 hst Try.isAgg27 (hP422 4 161 rfl rfl) rfl rfl (L_nil ⟨rfl,_,_,rfl,Le.refl _,fun _ _=>rfl,hst⟩)
 refine opsS_cons (fun f w_ _ _ s _ _ hst=>L_lda (cs:=[v69_g57_0,I g57_1_71]) rfl Try.isAgg41 Try.sizeOf41 ((s 7 rfl).trans sf7) (At.sub0 (Blk.at (Star.blkAt 0 hst rfl)) 0 2) rfl (nO rfl rfl hst)) (opsS_cons ?_ ?_)
 intro f w_ H422 X422 hS422 hE422 hP422 hst
 refine L_bs rfl (parts1 (hP422 6 163 rfl rfl)) (bs_27_1_2 (v69_g57_0) (I g57_1_71) ) hst (fun g436 w437 hst=>?_)
 have hst:=Star.addF (r:=(rCon 117)) (cs:=[v69_g57_0,I g57_1_71]) (x:=({ terms:=g57_0_69,bound:=g57_1_71 } : Con)) hst (rCon_iff.2 ⟨_,rfl,(RP.mono _ hv70_g57_0 hE422)⟩)
 have hst:=Star.mkRow (R:=(OR.frz (rCon 117))) [([v69_g57_0,I g57_1_71],({ terms:=g57_0_69,bound:=g57_1_71 } : Con))] [({ terms:=g57_0_69,bound:=g57_1_71 } : Con)] 1 hst rfl rfl rfl (by decide)
 have hst:=hst.get 1 rfl
 exact L_nil ⟨rfl,_,_,rfl,Le.refl _,fun _ _=>trivial,hst⟩
 refine opsS_cons ?_ ?_
 intro f w_ H422 X422 hS422 hE422 hP422 hst
 have hst : Star H422 w_ (box g57 41 #[v69_g57_0,I g57_1_71] :: oF 41 (rCon 117) v0_0 r_.list :: oF 41 (rCon 117) (f 164) ([({ terms:=g57_0_69,bound:=g57_1_71 } : Con)]) :: X422):=hst
 have hst:=hst.gets [2,2] rfl
 refine L_appM (v:=v0_0) (u:=(f 164)) rfl et_27 (hP422 5 162 rfl rfl) rfl hst hx409 (fun v440 w441 hst=>?_)
 have hst:=hst.get 1 rfl
 exact L_nil ⟨rfl,_,_,rfl,Le.refl _,fun _ _=>trivial,hst⟩
 refine opsS_cons (fun f w_ _ _ s _ _ hst=>mF ((s 0 rfl).trans sf0) rfl (nO rfl rfl hst)) (opsS_cons (fun f w_ _ _ _ _ p hst=>L_nc rfl (p 9 166 rfl rfl) (nO rfl rfl hst)) (opsS_cons (fun f w_ _ _ _ _ p hst=>fA 1 fa_115_1 (p 10 167 rfl rfl) rfl (nO rfl rfl hst)) (opsS_cons ?_ ?_)))
 intro f w_ H422 X422 hS422 hE422 hP422 hst
 have hst : Star H422 w_ (box g57 41 #[v69_g57_0,I g57_1_71] :: box g_0 115 #[v0_0,v0_1] :: X422):=hst
 refine ldB 1 hst Try.isAgg49 (hP422 11 168 rfl rfl) rfl rfl (L_nil ⟨rfl,_,_,rfl,Le.refl _,fun _ _=>rfl,hst⟩)
 refine opsS_cons ?_ ?_
 intro f w_ H422 X422 hS422 hE422 hP422 hst
 refine L_bs rfl (parts1 rfl) (bs_49_1_0 (Bo false) rfl) hst (fun g443 w444 hst=>?_)
 have hst:=Star.addF (r:=RP.bool) (cs:=[Bo false]) (x:=false) hst rfl
 have hst:=Star.mkRow (R:=(OR.frz RP.bool)) [([Bo false],false)] [false] 1 hst rfl rfl rfl (by decide)
 have hst:=hst.get 1 rfl
 exact L_nil ⟨rfl,_,_,rfl,Le.refl _,fun _ _=>trivial,hst⟩
 refine opsS_cons ?_ ?_
 intro f w_ H422 X422 hS422 hE422 hP422 hst
 have hst : Star H422 w_ (box g57 41 #[v69_g57_0,I g57_1_71] :: oF 4 RP.bool v0_1 r_.gone :: oF 4 RP.bool (f 170) ([false]) :: X422):=hst
 have hst:=hst.gets [2,2] rfl
 refine L_appM (v:=v0_1) (u:=(f 170)) rfl et_49 (hP422 12 169 rfl rfl) rfl hst hx416 (fun v447 w448 hst=>?_)
 have hst:=hst.get 1 rfl
 exact L_nil ⟨rfl,_,_,rfl,Le.refl _,fun _ _=>trivial,hst⟩
 refine opsS_cons (fun f w_ _ _ _ _ p hst=>L_nc rfl (p 0 157 rfl rfl) (nO rfl rfl hst)) (opsS_cons (fun f w_ _ _ _ _ p hst=>fA 0 fa_115_0 (p 15 172 rfl rfl) rfl (nO rfl rfl hst)) (opsS_cons ?_ ?_))
 intro f w_ H422 X422 hS422 hE422 hP422 hst
 have hst : Star H422 w_ (box g57 41 #[v69_g57_0,I g57_1_71] :: box g_0 115 #[v0_0,v0_1] :: oF 41 (rCon 117) (f 165) x409 :: X422):=hst
 refine L_stB (v:=(f 165)) (cs2:=#[(f 165),v0_1]) 1 rfl Try.sizeOf27 (hP422 16 173 rfl rfl) rfl (one_len (Star.len 2 hst rfl)) hst rfl rfl rfl (fun w451 hst=>?_)
 have hst:=hst.gets [2,2] rfl
 exact L_nil ⟨rfl,Bo false,_,rfl,Le.refl _,(fun _ h=>nomatch h),hst⟩
 exact opsS_nil
 have hst : Star H422 w_ (box g57 41 #[v69_g57_0,I g57_1_71] :: oF 41 (rCon 117) (f 165) x409 :: oF 4 RP.bool (f 171) x416 :: box g_0 115 #[(f 165),v0_1] :: R):=hst
 refine L_nc rfl (hT422 1 158 rfl rfl) (fA 1 fa_115_1 rfl rfl (L_stB (v:=(f 171)) (cs2:=#[(f 165),(f 171)]) 3 rfl Try.sizeOf49 rfl rfl (one_len (Star.len 2 hst rfl)) hst rfl rfl rfl (fun w453 hst=>ns (mF ((hS422 8 rfl).trans sf8) rfl (aB rfl (nn (W_ret (retG1 (v1:=Bo ok_68) Try.results103 rfl ?_))))))))
 obtain rfl:=so hF
 have hst:=hst.gets [3,3,2] rfl
 have hst:=Star.drop 3 hst rfl
 exact ⟨H422,(Le.trans (Le.trans l34 l73) hE422),(f 165),(f 171),rfl,hst⟩
theorem i_run_c {fu : Nat} {list : List Con} {steps : List Step} {v0 : Value} {v1 : Value} {H : FH} {w : World} {R : List Ass} (hst : Star H w R) (h0 : (rS 41 (rCon 117)).rel H [v0] list) (h1 : (rS 63 (rStep 117)).rel H [v1] steps) {r : (Option Db) × Int} (hF : i_run fu list steps = some r) :
 C Try.prog 60 #[v0,v1] w fun v w'=>∃ H' : FH,Le H H'∧∃ (u1 : Value),v = .tuple #[u1,I r.2]∧Star H' w' (optA u1 r.1 (fun (d_ : Db) (g_ : Nat) (u_ : Value × Value)=>[box g_ 115 #[u_.1,u_.2],oF 41 (rCon 117) u_.1 d_.list,oF 4 RP.bool u_.2 d_.gone]) :: R):=by
 unfold i_run at hF
 refine C_enter Try.func60 rfl Try.ntmps60 rfl (sq (aV (.pointer none) rfl (aI rfl (nq (W_seq ?_)))))
 obtain ⟨x6,hx6,hF⟩:=bind_some hF
 obtain ⟨R8,hR8⟩:=exR fun f w_=>f 0 = v0∧f 1 = v1∧f 16 = Bo ((!x6) || (decide ((steps.length : Int) > 1000)))∧Star H w_ (R)
 refine W_join R8 ?_ ?_
 refine W_region (mV v0 rfl ?_)
 obtain ⟨H9b,l10,s11,z12,k13⟩:=hst.borrow
 refine L_call rfl Try.call39 (ops1 rfl) (i_ProblemValid_c (list:=list) s11 (RP.mono _ h0 l10) hx6) ?_
 rintro _ w14 ⟨rfl,hst⟩
 have hst:=k13 hst c0
 refine L_not_ rfl rfl (mB rfl (L_split (d:=12) (b:=(!x6)) rfl (fun hc15=>?_) (fun hc15=>?_)))
 refine ps rfl (ps rfl (ps rfl (L_pick (v:=Bo ((!x6) || (decide ((steps.length : Int) > 1000)))) rfl rfl (or_t hc15) (nn (rj hR8 ⟨rfl,rfl,rfl,hst⟩)))))
 refine mV v1 rfl (L_len rfl Try.underlying29 rfl (slice_len h1) (L_gtr rfl rfl rfl (L_pick (v:=Bo ((!x6) || (decide ((steps.length : Int) > 1000)))) rfl rfl (or_f hc15 rfl) (nn (rj hR8 ⟨rfl,rfl,rfl,hst⟩)))))
 intro f w_ hR
 obtain ⟨sf0,sf1,sf16,hst⟩:=rk hR8 hR
 refine W_cond (b:=((!x6) || (decide ((steps.length : Int) > 1000)))) sf16 (fun hc16=>?_) (fun hc16=>?_)
 have hF:=(ite_t hc16).symm.trans hF
 refine sq (aV (.pointer none) rfl (aI rfl (nn (W_ret (retG2 (v1:=.pointer none) (v2:=I 0) Try.results60 rfl rfl ?_)))))
 obtain rfl:=so hF
 have hst:=Star.optNone (fun (d_ : Db) (g_ : Nat) (u_ : Value × Value)=>[box g_ 115 #[u_.1,u_.2],oF 41 (rCon 117) u_.1 d_.list,oF 4 RP.bool u_.2 d_.gone]) hst
 exact ⟨H,(Le.refl _),.pointer none,rfl,hst⟩
 have hF:=(ite_f hc16).symm.trans hF
 refine W_skip (W_seq ?_)
 obtain ⟨x18,hx18,hF⟩:=bind_some hF
 obtain ⟨x21,hx21,hF⟩:=bind_some hF
 refine W_drawS 5 [isV (v0),anyF,isV (v0),isV (I (list.length : Int)),anyF] [] [.made 1 18 (fun v_=>oF 41 (rCon 117) v_ x18) none,.made 4 21 (fun v_=>oF 4 RP.bool v_ x21) none] (R) [([],[]),([],[0]),([],[]),([],[]),([],[1])] (S:=[(some 1,[18],none),(some 4,[21],none)]) Try_mix (by kernel_rfl) rfl (by kernel_rfl) (amF_cons (mono_V _) (amF_cons (mono_any) (amF_cons (mono_V _) (amF_cons (mono_V _) (amF_cons (mono_any) amF_nil))))) hst ?_ (fun f w_ H27 hS27 hE27 hT27 hst=>?_)
 refine opsS_cons (fun f w_ _ _ s _ _ hst=>mF ((s 0 rfl).trans sf0) rfl (nO rfl rfl hst)) (opsS_cons ?_ ?_)
 intro f w_ H27 X27 hS27 hE27 hP27 hst
 refine L_call rfl Try.call102 (ops1 (hP27 0 17 rfl rfl)) (slices_Clone_implConstraint_c (s:=list) hst (RP.mono _ h0 hE27) hx18) ?_
 rintro r33_0 w33 ⟨H33,l33,_,rfl,hst⟩
 exact L_nil ⟨rfl,_,_,rfl,l33,fun _ _=>trivial,hst⟩
 refine opsS_cons (fun f w_ _ _ s _ _ hst=>mF ((s 0 rfl).trans sf0) rfl (nO rfl rfl hst)) (opsS_cons (fun f w_ _ _ _ hE27 p hst=>L_len rfl Try.underlying27 (p 2 19 rfl rfl) (slice_len (RP.mono _ h0 hE27)) (nO rfl rfl hst)) (opsS_cons ?_ ?_))
 intro f w_ H27 X27 hS27 hE27 hP27 hst
 refine L_mk (R:=(OR.frz RP.bool)) (z0:=false) (zc:=[Bo false]) rfl et_49 (by kernel_rfl) (fun _ _=>⟨rfl,rfl⟩) (hP27 3 20 rfl rfl) (hP27 3 20 rfl rfl) hx21 hst (fun v35 w36 hst=>L_nil ⟨rfl,_,_,rfl,Le.refl _,fun _ _=>trivial,hst⟩)
 exact opsS_nil
 have hst : Star H27 w_ (oF 41 (rCon 117) (f 18) x18 :: oF 4 RP.bool (f 21) x21 :: R):=hst
 refine L_bld rfl (parts2 rfl rfl) (bld_115_0_1 ((f 18)) ((f 21)) (one_len (Star.len 0 hst rfl)) (one_len (Star.len 1 hst rfl))) (L_box (v:=.agg #[(f 18),(f 21)]) (cs:=#[(f 18),(f 21)]) rfl rfl rfl hst (fun g40 w41 hst=>aV (Pt g40) rfl (nq (sq (mF ((hS27 1 rfl).trans sf1) rfl (L_len rfl Try.underlying29 rfl (slice_len (RP.mono _ h1 hE27)) (mI rfl (nn ?_))))))))
 have hlen49 : List.length steps≤9223372036854775807:=len_le (slice_len (RP.mono _ h1 hE27))
 obtain ⟨j49,hL49,hF⟩:=bind_some hF
 obtain ⟨R49,hR49⟩:=exR fun f w_=>∃ g40_0_43 : List Con,∃ g40_1_45 : List Bool,∃ H47 : FH,∃ v43_g40_0 v45_g40_1 : Value,j49 = .nx (g40_0_43,g40_1_45)∧Le H27 H47∧f 6 = Pt g40∧Star H47 w_ (oF 41 (rCon 117) v43_g40_0 g40_0_43 :: oF 4 RP.bool v45_g40_1 g40_1_45 :: box g40 115 #[v43_g40_0,v45_g40_1] :: R)
 refine W_join R49 ?_ ?_
 refine W_block ?_
 obtain ⟨I49,hI49⟩:=exI fun n f w_=>∃ i_42 : Nat,∃ suf49 : List Step,∃ g40_0_43 : List Con,∃ g40_1_45 : List Bool,∃ H47 : FH,∃ v43_g40_0 v45_g40_1 : Value,n = suf49.length∧List.drop i_42 steps = suf49∧i_42 + suf49.length = steps.length∧rangeL (i_run_b1 fu list) suf49 i_42 (g40_0_43,g40_1_45) = some j49∧Le H27 H47∧f 6 = Pt g40∧f 24 = v1∧f 25 = I (steps.length : Int)∧f 26 = I i_42∧Star H47 w_ (oF 41 (rCon 117) v43_g40_0 g40_0_43 :: oF 4 RP.bool v45_g40_1 g40_1_45 :: box g40 115 #[v43_g40_0,v45_g40_1] :: R)
 have hst:=hst.gets [2,2] rfl
 refine W_loop I49 (n:=steps.length) ?_ ?_
 exact ij hI49 ⟨0,steps,x18,x21,H27,(f 18),(f 21),rfl,rfl,Nat.zero_add _,hL49,(Le.refl _),rfl,rfl,rfl,rfl,hst⟩
 intro n49 f w_ hI
 obtain ⟨i_42,suf49,g40_0_43,g40_1_45,H47,v43_g40_0,v45_g40_1,rfl,hd49,hl49,hL49,l48,sf6,sf24,sf25,sf26,hst⟩:=ik hI49 hI
 refine sq (L_lss rfl sf26 sf25 (nq (W_cond (b:=decide ((i_42 : Int) < (steps.length : Int))) rfl (fun hc50=>?_) (fun hc50=>?_))))
 have hlt49:=of_decide_eq_true hc50
 rcases suf49 with _ | ⟨x_49,rest49⟩
 exact absurd hlt49 (by simp at hl49; omega)
 obtain ⟨o49,hB49,hL49⟩:=range_cons hL49
 rw [i_run_b1] at hB49
 have hix49:=drop_idx hd49
 refine W_skip (W_seq (W_block (sq (mF sf26 rfl (L_ix (r:=(rStep 117)) rfl Try.underlying29 Try.sizeOf63 sf24 (RP.mono _ h1 (Le.trans hE27 l48)) sf26 hix49 (fun g58 o59 cs_g58 hrk_hat60 hat60=>?_))))))
 obtain ⟨u61_0,rfl,hu61_0⟩:=rStep_iff.1 hrk_hat60
 refine L_lda (cs:=[I x_49.kind,I x_49.a,I x_49.b,u61_0,I x_49.given.bound]) rfl Try.isAgg63 Try.sizeOf63 rfl (At.sub (AtH.at hat60 hst.sub) 0 5) rfl (L_al (cs:=#[I 0,I 0,I 0,S0,I 0]) rfl Try.zeroValue63 rfl hst (fun g62 w63 hst=>aI rfl (L_staB (vs:=#[I x_49.kind,I x_49.a,I x_49.b,u61_0,I x_49.given.bound]) (cs2:=#[I x_49.kind,I x_49.a,I x_49.b,u61_0,I x_49.given.bound]) 0 rfl Try.sizeOf63 rfl rfl rfl (ones_cons rfl (ones_cons rfl (ones_cons rfl (ones_cons (one_len (slice_len hu61_0)) (ones_cons rfl ones_nil))))) hst rfl (by show 0 + 5≤5; decide) rfl (fun w64 hst=>nq ?_))))
 obtain ⟨x65,hx65,hB49⟩:=bind_some hB49
 refine W_region (mF sf6 rfl (L_lda (cs:=[I x_49.kind,I x_49.a,I x_49.b,u61_0,I x_49.given.bound]) rfl Try.isAgg63 Try.sizeOf63 rfl (At.sub0 (Blk.at (Star.blkAt 0 hst rfl)) 0 5) rfl ?_))
 have hst:=hst.gets [2,2,3] rfl
 refine L_call rfl Try.call103 (ops2 rfl rfl) (i_running_step_c (r_:=({ list:=g40_0_43,gone:=g40_1_45 } : Db)) (s:=x_49) hst hu61_0 hx65) ?_
 rintro _ w69 ⟨H69,l69,r69_0,r69_1,rfl,hst⟩
 refine L_not_ rfl rfl (nn (W_cond (b:=(!x65.1)) rfl (fun hc72=>?_) (fun hc72=>?_)))
 have hB49:=(ite_t hc72).symm.trans hB49
 refine sq (mI rfl (aV (.pointer none) rfl (aI rfl (nn (W_ret (retG2 (v1:=.pointer none) (v2:=I i_42) Try.results60 rfl rfl ?_))))))
 obtain rfl:=so hB49
 obtain rfl:=so hL49
 obtain rfl:=so hF
 have hst:=Star.optNone (fun (d_ : Db) (g_ : Nat) (u_ : Value × Value)=>[box g_ 115 #[u_.1,u_.2],oF 41 (rCon 117) u_.1 d_.list,oF 4 RP.bool u_.2 d_.gone]) hst
 have hst:=Star.drop 1 hst rfl
 have hst:=Star.drop 1 hst rfl
 have hst:=Star.drop 1 hst rfl
 have hst:=Star.drop 1 hst rfl
 exact ⟨H69,(Le.trans (Le.trans hE27 l48) l69),.pointer none,rfl,hst⟩
 have hB49:=(ite_f hc72).symm.trans hB49
 refine W_skip (W_region (L_add rfl sf26 rfl (mI rfl (nn ?_))))
 obtain rfl:=so hB49
 have hst:=hst.gets [2,2] rfl
 have hst:=Star.drop 3 hst rfl
 show ∃ m,m < _∧I49 m _ _
 refine ⟨rest49.length,by simp,?_⟩
 exact ij hI49 ⟨i_42 + 1,rest49,x65.2.1,x65.2.2,H69,r69_0,r69_1,rfl,drop_next hd49,by simp at hl49; omega,hL49,(Le.trans l48 l69),sf6,sf24,sf25,(Eq.trans rfl (congrArg (Value.int .i64) (i64_succ (n:=steps.length) (by simp at hl49; omega) hlen49))),hst⟩
 rcases suf49 with _ | ⟨_,_⟩
 obtain rfl:=range_nil hL49
 refine W_exit (rj hR49 ⟨g40_0_43,g40_1_45,H47,v43_g40_0,v45_g40_1,rfl,l48,sf6,hst⟩)
 exact absurd (of_decide_eq_false hc50) (by simp at hl49; omega)
 intro f w_ hR
 obtain ⟨g40_0_43,g40_1_45,H47,v43_g40_0,v45_g40_1,rfl,l48,sf6,hst⟩:=rk hR49 hR
 refine sq (mF sf6 rfl (aV (Pt g40) rfl (aI rfl (nn (W_ret (retG2 (v1:=Pt g40) (v2:=I (-1)) Try.results60 rfl rfl ?_))))))
 obtain rfl:=so hF
 have hst:=hst.gets [1,1,2] rfl
 have hst:=Star.optSome (fun (d_ : Db) (g_ : Nat) (u_ : Value × Value)=>[box g_ 115 #[u_.1,u_.2],oF 41 (rCon 117) u_.1 d_.list,oF 4 RP.bool u_.2 d_.gone]) ({ list:=g40_0_43,gone:=g40_1_45 } : Db) g40 (v43_g40_0,v45_g40_1) hst
 exact ⟨H47,(Le.trans hE27 l48),Pt g40,rfl,hst⟩
theorem i_ConstraintFalse_c {c : Con} {v0_0 : Value} {H : FH} {w : World} (hst : Star H w []) (h0_0 : (rS 117 rTerm).rel H [v0_0] c.terms) {r : Bool} (hF : i_ConstraintFalse c = some r) :
 C Try.prog 97 #[.agg #[v0_0,I c.bound]] w fun v w'=>v = Bo r∧Star H w' []:=by
 unfold i_ConstraintFalse at hF
 refine C_enter Try.func97 rfl Try.ntmps97 rfl (sq (L_box (v:=.agg #[v0_0,I c.bound]) (cs:=#[v0_0,I c.bound]) rfl rfl rfl hst (fun g3 w4 hst=>aB rfl (nq ?_))))
 obtain ⟨x10,hx10,hF⟩:=bind_some hF
 obtain ⟨b19,hb19,hF⟩:=bind_some hF
 obtain ⟨R23,hR23⟩:=exR fun f w_=>∃ H21 : FH,Le H H21∧f 2 = Bo b19∧Star H21 w_ ([])
 refine W_join R23 ?_ ?_
 rcases Bool.eq_false_or_eq_true x10 with hc24 | hc24
 rw [ite_t hc24] at hb19
 obtain ⟨x17,hx17,hb19⟩:=bind_some hb19
 refine W_drawS 7 [isV (.agg #[v0_0,I c.bound]),isV (Bo x10),isV (Bo x10),isV (Pq g3 1),isV (I c.bound),isV (.agg #[v0_0,I c.bound]),isV (I x17)] [box g3 41 #[v0_0,I c.bound]] [] ([]) [([],[]),([],[]),([],[]),([],[]),([],[]),([],[]),([],[])] (S:=[]) Try_mix (by kernel_rfl) rfl (by kernel_rfl) (amF_cons (mono_V _) (amF_cons (mono_V _) (amF_cons (mono_V _) (amF_cons (mono_V _) (amF_cons (mono_V _) (amF_cons (mono_V _) (amF_cons (mono_V _) amF_nil))))))) hst ?_ (fun f w_ H20 hS20 hE20 hT20 hst=>?_)
 refine opsS_cons (fun f w_ _ _ s _ _ hst=>L_lda (cs:=[v0_0,I c.bound]) rfl Try.isAgg41 Try.sizeOf41 ((s 1 rfl).trans rfl) (At.sub0 (Blk.at (Star.blkAt 0 hst rfl)) 0 2) rfl (nO rfl rfl hst)) (opsS_cons ?_ ?_)
 intro f w_ H20 X20 hS20 hE20 hP20 hst
 obtain ⟨H37b,l38,s39,z40,k41⟩:=hst.borrow
 refine L_call rfl Try.call61 (ops1 (hP20 0 3 rfl rfl)) (i_ConstraintValid_c (c:=c) s39 (RP.mono _ h0_0 (Le.trans hE20 l38)) hx10) ?_
 rintro _ w42 ⟨rfl,hst⟩
 have hst:=k41 hst c0
 exact L_nil ⟨rfl,_,_,rfl,Le.refl _,fun _ _=>rfl,hst⟩
 refine opsS_cons (fun f w_ _ _ _ _ p hst=>mF (p 1 4 rfl rfl) rfl (nO rfl rfl hst)) (opsS_cons (fun f w_ _ _ s _ p hst=>L_fa (o':=1) (g_yes rfl (Eq.trans (p 2 5 rfl rfl) (congrArg Value.bool hc24)) rfl) fa_41_1 ((s 1 rfl).trans rfl) rfl (nO rfl rfl hst)) (opsS_cons (fun f w_ _ _ _ _ p hst=>L_ld (v:=I c.bound) (g_yes rfl (Eq.trans (p 2 5 rfl rfl) (congrArg Value.bool hc24)) rfl) Try.isAgg3 (p 3 6 rfl rfl) (At.cell0 (Blk.at (Star.blkAt 0 hst rfl)) (j:=1) rfl) (nO rfl rfl hst)) (opsS_cons (fun f w_ _ _ s _ p hst=>L_lda (cs:=[v0_0,I c.bound]) (g_yes rfl (Eq.trans (p 2 5 rfl rfl) (congrArg Value.bool hc24)) rfl) Try.isAgg41 Try.sizeOf41 ((s 1 rfl).trans rfl) (At.sub0 (Blk.at (Star.blkAt 0 hst rfl)) 0 2) rfl (nO rfl rfl hst)) (opsS_cons ?_ ?_))))
 intro f w_ H20 X20 hS20 hE20 hP20 hst
 obtain ⟨H43b,l44,s45,z46,k47⟩:=hst.borrow
 refine L_call (g_yes rfl (Eq.trans (hP20 2 5 rfl rfl) (congrArg Value.bool hc24)) rfl) Try.call127 (ops1 (hP20 5 8 rfl rfl)) (i_Constraint_total_c (c:=c) s45 (RP.mono _ h0_0 (Le.trans hE20 l44)) hx17) ?_
 rintro _ w48 ⟨rfl,hst⟩
 have hst:=k47 hst c0
 exact L_nil ⟨rfl,_,_,rfl,Le.refl _,fun _ _=>rfl,hst⟩
 exact opsS_nil
 refine L_gtr (g_yes rfl (Eq.trans (hT20 2 5 rfl rfl) (congrArg Value.bool hc24)) rfl) (hT20 4 7 rfl rfl) (hT20 6 9 rfl rfl) (L_pick (v:=Bo b19) rfl (Eq.trans (hT20 2 5 rfl rfl) (congrArg Value.bool hc24)) (congrArg Value.bool (so hb19)) (aB rfl (nn (rj hR23 ⟨H20,hE20,rfl,(Star.keepN 0 hst)⟩))))
 rw [ite_f hc24] at hb19
 refine W_drawS 7 [isV (.agg #[v0_0,I c.bound]),isV (Bo x10),isV (Bo x10),isV (undef),isV (undef),isV (undef),isV (undef)] [box g3 41 #[v0_0,I c.bound]] [] ([]) [([],[]),([],[]),([],[]),([],[]),([],[]),([],[]),([],[])] (S:=[]) Try_mix (by kernel_rfl) rfl (by kernel_rfl) (amF_cons (mono_V _) (amF_cons (mono_V _) (amF_cons (mono_V _) (amF_cons (mono_V _) (amF_cons (mono_V _) (amF_cons (mono_V _) (amF_cons (mono_V _) amF_nil))))))) hst ?_ (fun f w_ H20 hS20 hE20 hT20 hst=>?_)
 refine opsS_cons (fun f w_ _ _ s _ _ hst=>L_lda (cs:=[v0_0,I c.bound]) rfl Try.isAgg41 Try.sizeOf41 ((s 1 rfl).trans rfl) (At.sub0 (Blk.at (Star.blkAt 0 hst rfl)) 0 2) rfl (nO rfl rfl hst)) (opsS_cons ?_ ?_)
 intro f w_ H20 X20 hS20 hE20 hP20 hst
 obtain ⟨H55b,l56,s57,z58,k59⟩:=hst.borrow
 refine L_call rfl Try.call61 (ops1 (hP20 0 3 rfl rfl)) (i_ConstraintValid_c (c:=c) s57 (RP.mono _ h0_0 (Le.trans hE20 l56)) hx10) ?_
 rintro _ w60 ⟨rfl,hst⟩
 have hst:=k59 hst c0
 exact L_nil ⟨rfl,_,_,rfl,Le.refl _,fun _ _=>rfl,hst⟩
 refine opsS_cons (fun f w_ _ _ _ _ p hst=>mF (p 1 4 rfl rfl) rfl (nO rfl rfl hst)) (oP (fun _ _ p=>gN (p 2 5 rfl rfl) hc24 rfl) (fun _=>rfl) (oP (fun _ _ p=>gN (p 2 5 rfl rfl) hc24 rfl) (fun _=>rfl) (oP (fun _ _ p=>gN (p 2 5 rfl rfl) hc24 rfl) (fun _=>rfl) (oP (fun _ _ p=>gN (p 2 5 rfl rfl) hc24 rfl) (fun _=>rfl) (opsS_nil)))))
 refine ps (g_no rfl (Eq.trans (hT20 2 5 rfl rfl) (congrArg Value.bool hc24)) rfl rfl) (L_pick (v:=Bo b19) rfl (Eq.trans (hT20 2 5 rfl rfl) (congrArg Value.bool hc24)) (congrArg Value.bool (so hb19)) (aB rfl (nn (rj hR23 ⟨H20,hE20,rfl,(Star.keepN 0 hst)⟩))))
 intro f w_ hR
 obtain ⟨H21,l22,sf2,hst⟩:=rk hR23 hR
 refine W_ret (retG1 (v1:=Bo b19) Try.results97 sf2 ?_)
 obtain rfl:=so hF
 exact ⟨rfl,(Star.down hst l22 c0)⟩
theorem i_refuting_c {fu : Nat} {list : List Con} {steps : List Step} {v0 : Value} {v1 : Value} {H : FH} {w : World} {R : List Ass} (hst : Star H w R) (h0 : (rS 41 (rCon 117)).rel H [v0] list) (h1 : (rS 63 (rStep 117)).rel H [v1] steps) {r : (Option Db) × Int} (hF : i_refuting fu list steps = some r) :
 C Try.prog 53 #[v0,v1] w fun v w'=>∃ H' : FH,Le H H'∧∃ (u1 : Value),v = .tuple #[u1,I r.2]∧Star H' w' (optA u1 r.1 (fun (d_ : Db) (g_ : Nat) (u_ : Value × Value)=>[box g_ 115 #[u_.1,u_.2],oF 41 (rCon 117) u_.1 d_.list,oF 4 RP.bool u_.2 d_.gone]) :: R):=by
 unfold i_refuting at hF
 refine C_enter Try.func53 rfl Try.ntmps53 rfl (sq (aV (.pointer none) rfl (aI rfl (nq ?_))))
 obtain ⟨x1,hx1,hF⟩:=bind_some hF
 refine W_region (mV v0 rfl (mV v1 rfl (L_call rfl Try.call60 (ops2 rfl rfl) (i_run_c (list:=list) (steps:=steps) hst h0 h1 hx1) ?_)))
 rintro _ w4 ⟨H4,l4,r4_0,rfl,hst⟩
 refine mV (.tuple #[r4_0,I x1.2]) rfl (L_ex (v:=r4_0) rfl rfl rfl (L_ex (v:=I x1.2) rfl rfl rfl (aV r4_0 rfl (aI rfl (nq (sq (mI rfl (L_geq rfl rfl rfl (nn (W_cond (b:=decide (x1.2 ≥ 0)) rfl (fun hc6=>?_) (fun hc6=>?_)))))))))))
 have hF:=(ite_t hc6).symm.trans hF
 refine sq (aV (.pointer none) rfl (aI rfl (nn (W_ret (retG2 (v1:=.pointer none) (v2:=I (-1)) Try.results53 rfl rfl ?_)))))
 obtain rfl:=so hF
 have hst:=Star.optNone (fun (d_ : Db) (g_ : Nat) (u_ : Value × Value)=>[box g_ 115 #[u_.1,u_.2],oF 41 (rCon 117) u_.1 d_.list,oF 4 RP.bool u_.2 d_.gone]) hst
 have hst:=Star.drop 1 hst rfl
 exact ⟨H4,l4,.pointer none,rfl,hst⟩
 have hF:=(ite_f hc6).symm.trans hF
 refine W_skip (W_seq (W_seq ?_))
 obtain ⟨x9,hx9,hF⟩:=bind_some hF
 refine W_region (mV r4_0 rfl ?_)
 obtain ⟨go12,⟨uo12_0,uo12_1⟩,hvo12,hst⟩:=Star.unopt hx9 hst
 have hst : Star H4 w4 (box go12 115 #[uo12_0,uo12_1] :: oF 41 (rCon 117) uo12_0 x9.list :: oF 4 RP.bool uo12_1 x9.gone :: R):=hst
 refine L_nc rfl hvo12 (fA 0 fa_115_0 rfl rfl (ldB 0 hst Try.isAgg27 rfl rfl rfl (L_len rfl Try.underlying27 rfl (Star.len 1 hst rfl) (mI rfl (nn ?_)))))
 have hlen16 : List.length x9.list≤9223372036854775807:=len_le (Star.len 1 hst rfl)
 obtain ⟨j16,hL16,hF⟩:=bind_some hF
 obtain ⟨R16,hR16⟩:=exR fun f w_=>j16 = .nx ()∧f 6 = Pt go12∧Star H4 w_ (oF 41 (rCon 117) uo12_0 x9.list :: oF 4 RP.bool uo12_1 x9.gone :: box go12 115 #[uo12_0,uo12_1] :: R)
 refine W_join R16 ?_ ?_
 refine W_block ?_
 obtain ⟨I16,hI16⟩:=exI fun n f w_=>∃ i_15 : Nat,∃ suf16 : List Con,n = suf16.length∧List.drop i_15 x9.list = suf16∧i_15 + suf16.length = x9.list.length∧rangeL (i_refuting_b1 x9) suf16 i_15 () = some j16∧f 6 = Pt go12∧f 21 = uo12_0∧f 22 = I (x9.list.length : Int)∧f 23 = I i_15∧Star H4 w_ (oF 41 (rCon 117) uo12_0 x9.list :: oF 4 RP.bool uo12_1 x9.gone :: box go12 115 #[uo12_0,uo12_1] :: R)
 have hst:=hst.gets [2,2] rfl
 refine W_loop I16 (n:=x9.list.length) ?_ ?_
 exact ij hI16 ⟨0,x9.list,rfl,rfl,Nat.zero_add _,hL16,hvo12,rfl,rfl,rfl,hst⟩
 intro n16 f w_ hI
 obtain ⟨i_15,suf16,rfl,hd16,hl16,hL16,sf6,sf21,sf22,sf23,hst⟩:=ik hI16 hI
 refine sq (L_lss rfl sf23 sf22 (nq (W_cond (b:=decide ((i_15 : Int) < (x9.list.length : Int))) rfl (fun hc17=>?_) (fun hc17=>?_))))
 have hlt16:=of_decide_eq_true hc17
 rcases suf16 with _ | ⟨x_16,rest16⟩
 exact absurd hlt16 (by simp at hl16; omega)
 obtain ⟨o16,hB16,hL16⟩:=range_cons hL16
 rw [i_refuting_b1] at hB16
 have hix16:=drop_idx hd16
 refine W_skip (W_seq (W_block (sq (mF sf23 rfl ?_))))
 obtain ⟨g25,cap_g25,hv26,_,_⟩:=Star.row 0 hst rfl hix16
 refine L_ixO (R:=(OR.frz (rCon 117))) (tb:=0) 0 rfl Try.underlying27 Try.sizeOf41 sf21 hv26 (by first | rfl | simp) sf23 hix16 ?_
 obtain ⟨cs27,hr27,hat27⟩:=Star.eltF 0 hst rfl hv26 hix16
 obtain ⟨u28_0,rfl,hu28_0⟩:=rCon_iff.1 hr27
 refine L_lda (cs:=[u28_0,I x_16.bound]) rfl Try.isAgg41 Try.sizeOf41 rfl (At.sub hat27 0 2) rfl (L_al (cs:=#[S0,I 0]) rfl Try.zeroValue41 rfl hst (fun g29 w30 hst=>aI rfl (L_staB (vs:=#[u28_0,I x_16.bound]) (cs2:=#[u28_0,I x_16.bound]) 0 rfl Try.sizeOf41 rfl rfl rfl (ones_cons (one_len (slice_len hu28_0)) (ones_cons rfl ones_nil)) hst rfl (by show 0 + 2≤2; decide) rfl (fun w31 hst=>nq ?_))))
 obtain ⟨x32,hx32,hB16⟩:=bind_some hB16
 obtain ⟨b44,hb44,hB16⟩:=bind_some hB16
 obtain ⟨R45,hR45⟩:=exR fun f w_=>f 6 = Pt go12∧f 8 = I i_15∧f 21 = uo12_0∧f 22 = I (x9.list.length : Int)∧f 23 = I i_15∧f 39 = Bo b44∧Star H4 w_ (oF 41 (rCon 117) uo12_0 x9.list :: oF 4 RP.bool uo12_1 x9.gone :: box go12 115 #[uo12_0,uo12_1] :: R)
 refine W_join R45 ?_ ?_
 refine W_region (mF sf6 rfl (L_nc rfl rfl (fA 1 fa_115_1 rfl rfl (ldB 3 hst Try.isAgg49 rfl rfl rfl (mI rfl ?_)))))
 obtain ⟨g46,cap_g46,hv47,_,_⟩:=Star.row 2 hst rfl hx32
 refine L_ixO (R:=(OR.frz RP.bool)) (tb:=0) 0 rfl Try.underlying49 Try.sizeOf4 rfl hv47 (by first | rfl | simp) rfl hx32 ?_
 obtain ⟨cs48,hr48,hat48⟩:=Star.eltF 2 hst rfl hv47 hx32
 obtain rfl : _ = [_]:=hr48
 refine L_ld rfl Try.isAgg4 rfl (At.cell hat48 (j:=0) rfl) (L_not_ rfl rfl (mB rfl (L_split (d:=36) (b:=(!x32)) rfl (fun hc50=>?_) (fun hc50=>?_))))
 rw [ite_t hc50] at hb44
 obtain ⟨x42,hx42,hb44⟩:=bind_some hb44
 refine L_lda (cs:=[u28_0,I x_16.bound]) rfl Try.isAgg41 Try.sizeOf41 rfl (At.sub0 (Blk.at (Star.blkAt 0 hst rfl)) 0 2) rfl ?_
 obtain ⟨H51b,l52,s53,z54,k55⟩:=hst.borrow
 refine L_call rfl Try.call97 (ops1 rfl) (i_ConstraintFalse_c (c:=x_16) s53 (RP.mono _ hu28_0 l52) hx42) ?_
 rintro _ w56 ⟨rfl,hst⟩
 have hst:=k55 hst c0
 refine L_pick (v:=Bo b44) rfl rfl (congrArg Value.bool (so hb44)) (nn ?_)
 have hst:=hst.gets [3,3,3] rfl
 have hst:=Star.drop 3 hst rfl
 exact rj hR45 ⟨sf6,rfl,sf21,sf22,sf23,rfl,hst⟩
 rw [ite_f hc50] at hb44
 refine ps rfl (ps rfl (L_pick (v:=Bo b44) rfl rfl (congrArg Value.bool (so hb44)) (nn ?_)))
 have hst:=hst.gets [3,3,3] rfl
 have hst:=Star.drop 3 hst rfl
 exact rj hR45 ⟨sf6,rfl,sf21,sf22,sf23,rfl,hst⟩
 intro f w_ hR
 obtain ⟨sf6,sf8,sf21,sf22,sf23,sf39,hst⟩:=rk hR45 hR
 refine W_cond (b:=b44) sf39 (fun hc57=>?_) (fun hc57=>?_)
 have hB16:=(ite_t hc57).symm.trans hB16
 refine sq (mF sf6 rfl (mF sf8 rfl (aV (Pt go12) rfl (aI rfl (nn (W_ret (retG2 (v1:=Pt go12) (v2:=I i_15) Try.results53 rfl rfl ?_)))))))
 obtain rfl:=so hB16
 obtain rfl:=so hL16
 obtain rfl:=so hF
 have hst:=hst.gets [1,1,2] rfl
 have hst:=Star.optSome (fun (d_ : Db) (g_ : Nat) (u_ : Value × Value)=>[box g_ 115 #[u_.1,u_.2],oF 41 (rCon 117) u_.1 d_.list,oF 4 RP.bool u_.2 d_.gone]) x9 go12 (uo12_0,uo12_1) hst
 exact ⟨H4,l4,Pt go12,rfl,hst⟩
 have hB16:=(ite_f hc57).symm.trans hB16
 refine W_skip (W_region (L_add rfl sf23 rfl (mI rfl (nn ?_))))
 obtain rfl:=so hB16
 show ∃ m,m < _∧I16 m _ _
 refine ⟨rest16.length,by simp,?_⟩
 exact ij hI16 ⟨i_15 + 1,rest16,rfl,drop_next hd16,by simp at hl16; omega,hL16,sf6,sf21,sf22,(Eq.trans rfl (congrArg (Value.int .i64) (i64_succ (n:=x9.list.length) (by simp at hl16; omega) hlen16))),hst⟩
 rcases suf16 with _ | ⟨_,_⟩
 obtain rfl:=range_nil hL16
 refine W_exit (rj hR16 ⟨rfl,sf6,hst⟩)
 exact absurd (of_decide_eq_false hc17) (by simp at hl16; omega)
 intro f w_ hR
 obtain ⟨rfl,sf6,hst⟩:=rk hR16 hR
 refine sq (mF sf6 rfl (aV (Pt go12) rfl (aI rfl (nn (W_ret (retG2 (v1:=Pt go12) (v2:=I (-1)) Try.results53 rfl rfl ?_))))))
 obtain rfl:=so hF
 have hst:=hst.gets [1,1,2] rfl
 have hst:=Star.optSome (fun (d_ : Db) (g_ : Nat) (u_ : Value × Value)=>[box g_ 115 #[u_.1,u_.2],oF 41 (rCon 117) u_.1 d_.list,oF 4 RP.bool u_.2 d_.gone]) x9 go12 (uo12_0,uo12_1) hst
 exact ⟨H4,l4,Pt go12,rfl,hst⟩
theorem i_CheckRefutation_c {fu : Nat} {list : List Con} {steps : List Step} {v0 : Value} {v1 : Value} {H : FH} {w : World} (hst : Star H w []) (h0 : (rS 41 (rCon 117)).rel H [v0] list) (h1 : (rS 63 (rStep 117)).rel H [v1] steps) {r : Bool} (hF : i_CheckRefutation fu list steps = some r) :
 C Try.prog 19 #[v0,v1] w fun v w'=>v = Bo r∧Star H w' []:=by
 unfold i_CheckRefutation at hF
 refine C_enter Try.func19 rfl Try.ntmps19 rfl (sq (aB rfl (nq ?_)))
 obtain ⟨x1,hx1,hF⟩:=bind_some hF
 refine W_region (mV v0 rfl (mV v1 rfl (L_call rfl Try.call53 (ops2 rfl rfl) (i_refuting_c (list:=list) (steps:=steps) hst h0 h1 hx1) ?_)))
 rintro _ w4 ⟨H4,l4,r4_0,rfl,hst⟩
 refine mV (.tuple #[r4_0,I x1.2]) rfl (L_ex (v:=r4_0) rfl rfl rfl (L_ex (v:=I x1.2) rfl rfl rfl (aV r4_0 rfl (aI rfl (ns (mI rfl (L_geq rfl rfl rfl (aB rfl (nn (W_ret (retG1 (v1:=Bo (decide (x1.2 ≥ 0))) Try.results19 rfl ?_)))))))))))
 obtain rfl:=so hF
 exact ⟨rfl,(Star.down (Star.keepN 0 hst) l4 c0)⟩
theorem s_l17Open_c {code : List UInt8} {v0 : Value} {H : FH} {w : World} {R : List Ass} (hst : Star H w R) (h0 : (rS 5 RP.u8).rel H [v0] code) {r : Rd} (hF : s_l17Open code = some r) :
 C Try.prog 67 #[v0] w fun v w'=>∃ H' : FH,Le H H'∧∃ (u1 : Nat) (u2 : Value),v = Pt u1∧(rS 5 RP.u8).rel H' [u2] r.b∧Star H' w' (box u1 126 #[u2,I r.p] :: R):=by
 unfold s_l17Open at hF
 refine C_enter Try.func67 rfl Try.ntmps67 rfl (sq (aV (.pointer none) rfl (nq (sq (mV v0 rfl (L_len rfl Try.underlying45 rfl (slice_len h0) (L_gtr rfl rfl rfl (nn ?_))))))))
 obtain ⟨code_1,hA3,hF⟩:=bind_some hF
 obtain ⟨R3,hR3⟩:=exR fun f w_=>∃ v1_code : Value,f 0 = v1_code∧(rS 5 RP.u8).rel H [v1_code] code_1∧Star H w_ (R)
 refine W_join R3 ?_ ?_
 refine W_cond (b:=decide ((code.length : Int) > 2000)) rfl (fun hc4=>?_) (fun hc4=>?_)
 have hA3:=(ite_t hc4).symm.trans hA3
 obtain ⟨x5,hx5,hA3⟩:=bind_some hA3
 refine W_region (mV v0 rfl (L_sl (a:=0) (b:=2000) rfl et_45 rfl h0 rfl rfl hx5 (fun v8 hs9=>aV v8 rfl (nn ?_))))
 obtain rfl:=so hA3
 exact rj hR3 ⟨v8,rfl,hs9,hst⟩
 have hA3:=(ite_f hc4).symm.trans hA3
 refine W_skip ?_
 obtain rfl:=so hA3
 exact rj hR3 ⟨v0,rfl,h0,hst⟩
 intro f w_ hR
 obtain ⟨v1_code,sf0,hv2_code,hst⟩:=rk hR3 hR
 refine sq (mF sf0 rfl (L_bld rfl (parts1 rfl) (bld_126_0 (v1_code) (one_len (slice_len hv2_code))) (L_box (v:=.agg #[v1_code,I 0]) (cs:=#[v1_code,I 0]) rfl rfl rfl hst (fun g12 w13 hst=>aV (Pt g12) rfl (nn (W_ret (retG1 (v1:=Pt g12) Try.results67 rfl ?_)))))))
 obtain rfl:=so hF
 exact ⟨H,(Le.refl _),g12,v1_code,rfl,hv2_code,hst⟩
theorem s_l17Rd_pick_c {r_ : Rd} {n_ : Int} {g_0 : Nat} {v0_0 : Value} {H : FH} {w : World} (hst : Star H w [box g_0 126 #[v0_0,I r_.p]]) (h0_0 : (rS 5 RP.u8).rel H [v0_0] r_.b) {r : Int × Int} (hF : s_l17Rd_pick r_ n_ = some r) :
 C Try.prog 71 #[Pt g_0,I n_] w fun v w'=>v = I r.1∧Star H w' [box g_0 126 #[v0_0,I r.2]]:=by
 unfold s_l17Rd_pick at hF
 refine C_enter Try.func71 rfl Try.ntmps71 rfl (sq (aI rfl (ns (mV (Pt g_0) rfl (mV (Pt g_0) rfl (L_nc rfl rfl (fA 1 fa_126_1 rfl rfl (ldB 0 hst Try.isAgg3 rfl rfl rfl (L_add rfl rfl rfl (L_nc rfl rfl (fA 1 fa_126_1 rfl rfl (L_stB (v:=I (i64 (r_.p + 1))) (cs2:=#[v0_0,I (i64 (r_.p + 1))]) 0 rfl Try.sizeOf3 rfl rfl rfl hst rfl rfl rfl (fun w2 hst=>nq (W_seq ?_))))))))))))))
 obtain ⟨R3,hR3⟩:=exR fun f w_=>f 0 = Pt g_0∧f 1 = I n_∧f 24 = Bo ((decide (n_ < 1)) || ((r_.b.length : Int) == 0))∧Star H w_ ([box g_0 126 #[v0_0,I (i64 (r_.p + 1))]])
 refine W_join R3 ?_ ?_
 refine W_region (mI rfl (L_lss rfl rfl rfl (mB rfl (L_split (d:=17) (b:=decide (n_ < 1)) rfl (fun hc4=>?_) (fun hc4=>?_)))))
 refine ps rfl (ps rfl (ps rfl (ps rfl (ps rfl (ps rfl (L_pick (v:=Bo ((decide (n_ < 1)) || ((r_.b.length : Int) == 0))) rfl rfl (or_t hc4) (nn (rj hR3 ⟨rfl,rfl,rfl,hst⟩))))))))
 refine mV (Pt g_0) rfl (L_nc rfl rfl (fA 0 fa_126_0 rfl rfl (ldB 0 hst Try.isAgg45 rfl rfl rfl (L_len rfl Try.underlying45 rfl (slice_len h0_0) (L_eql rfl rfl rfl (L_pick (v:=Bo ((decide (n_ < 1)) || ((r_.b.length : Int) == 0))) rfl rfl (or_f hc4 rfl) (nn (rj hR3 ⟨rfl,rfl,rfl,hst⟩))))))))
 intro f w_ hR
 obtain ⟨sf0,sf1,sf24,hst⟩:=rk hR3 hR
 refine W_cond (b:=((decide (n_ < 1)) || ((r_.b.length : Int) == 0))) sf24 (fun hc5=>?_) (fun hc5=>?_)
 have hF:=(ite_t hc5).symm.trans hF
 refine sq (aI rfl (nn (W_ret (retG1 (v1:=I 0) Try.results71 rfl ?_))))
 obtain rfl:=so hF
 exact ⟨rfl,hst⟩
 have hF:=(ite_f hc5).symm.trans hF
 refine W_skip (sq (mF sf0 rfl (L_nc rfl rfl (fA 1 fa_126_1 rfl rfl (ldB 0 hst Try.isAgg3 rfl rfl rfl (L_sub rfl rfl rfl (aI rfl (nq (sq (mI rfl (mF sf0 rfl (L_nc rfl rfl (fA 0 fa_126_0 rfl rfl (ldB 0 hst Try.isAgg45 rfl rfl rfl (L_len rfl Try.underlying45 rfl (slice_len h0_0) (L_lss rfl rfl rfl (nn (W_cond (b:=decide ((i64 ((i64 (r_.p + 1)) - 1)) < (r_.b.length : Int))) rfl (fun hc6=>?_) (fun hc6=>?_)))))))))))))))))))
 have hF:=(ite_t hc6).symm.trans hF
 refine W_seq ?_
 obtain ⟨x7,hx7,hF⟩:=bind_some hF
 obtain ⟨q12,hq12,hF⟩:=bind_some hF
 refine W_region (mF sf0 rfl (L_nc rfl rfl (fA 0 fa_126_0 rfl rfl (ldB 0 hst Try.isAgg45 rfl rfl rfl (mI rfl (L_ix (r:=RP.u8) rfl Try.underlying45 Try.sizeOf5 rfl h0_0 rfl hx7 (fun g13 o14 cs_g13 hrk_hat15 hat15=>?_)))))))
 obtain rfl : _ = [_]:=hrk_hat15
 refine L_ld rfl Try.isAgg5 rfl (At.cell (AtH.at hat15 hst.sub) (j:=0) rfl) (L_cv (n:=(x7.toNat : Int)) rfl rfl ⟨_,Try.underlying5⟩ Try.underlying3 (mF sf1 rfl (L_rem (m:=i64 (x7.toNat : Int)) (n:=n_) rfl rfl rfl (fun he=>by rw [if_pos he] at hq12; cases hq12) (aI rfl (nn (W_ret (retG1 (v1:=I (Int.tmod (i64 (x7.toNat : Int)) n_)) Try.results71 rfl ?_)))))))
 obtain rfl:=so hF
 exact ⟨rfl,hst⟩
 have hF:=(ite_f hc6).symm.trans hF
 refine W_skip (W_seq ?_)
 obtain ⟨q17,hq17,hF⟩:=bind_some hF
 obtain ⟨x18,hx18,hF⟩:=bind_some hF
 obtain ⟨q23,hq23,hF⟩:=bind_some hF
 obtain ⟨x24,hx24,hF⟩:=bind_some hF
 obtain ⟨q29,hq29,hF⟩:=bind_some hF
 refine W_drawS 44 [isV (Pt g_0),isV (Pt g_0),isV (Pt g_0),isV (v0_0),isV (I (i64 ((i64 (r_.p + 1)) - 1))),isV (Pt g_0),isV (Pt g_0),isV (Pt g_0),isV (v0_0),isV (I (r_.b.length : Int)),isV (I (Int.tmod (i64 ((i64 (r_.p + 1)) - 1)) (r_.b.length : Int))),isEl RP.u8 x18 0,isV (.int .u8 (x18.toNat : Int)),isV (I (i64 (x18.toNat : Int))),isV (I (i64 ((i64 (x18.toNat : Int)) * 131))),isV (Pt g_0),isV (Pt g_0),isV (Pt g_0),isV (v0_0),isV (I (i64 ((i64 (r_.p + 1)) - 1))),isV (I (i64 ((i64 ((i64 (r_.p + 1)) - 1)) * 7))),isV (I (i64 ((i64 ((i64 ((i64 (r_.p + 1)) - 1)) * 7)) + 3))),isV (Pt g_0),isV (Pt g_0),isV (Pt g_0),isV (v0_0),isV (I (r_.b.length : Int)),isV (I (Int.tmod (i64 ((i64 ((i64 ((i64 (r_.p + 1)) - 1)) * 7)) + 3)) (r_.b.length : Int))),isEl RP.u8 x24 0,isV (.int .u8 (x24.toNat : Int)),isV (I (i64 (x24.toNat : Int))),isV (I (i64 ((i64 (x24.toNat : Int)) * 1117))),isV (I (i64 ((i64 ((i64 (x18.toNat : Int)) * 131)) + (i64 ((i64 (x24.toNat : Int)) * 1117))))),isV (I (i64 ((i64 (r_.p + 1)) - 1))),isV (I (i64 ((i64 ((i64 (r_.p + 1)) - 1)) * 29))),isV (I (i64 ((i64 ((i64 ((i64 (x18.toNat : Int)) * 131)) + (i64 ((i64 (x24.toNat : Int)) * 1117)))) + (i64 ((i64 ((i64 (r_.p + 1)) - 1)) * 29))))),isV (I (i64 ((i64 (r_.p + 1)) - 1))),isV (Pt g_0),isV (Pt g_0),isV (Pt g_0),isV (v0_0),isV (I (r_.b.length : Int)),isV (I (i64 (Int.tdiv (i64 ((i64 (r_.p + 1)) - 1)) (r_.b.length : Int)))),isV (I (i64 ((i64 (Int.tdiv (i64 ((i64 (r_.p + 1)) - 1)) (r_.b.length : Int))) * 53)))] [box g_0 126 #[v0_0,I (i64 (r_.p + 1))]] [] ([]) [([],[]),([],[]),([],[]),([],[]),([],[]),([],[]),([],[]),([],[]),([],[]),([],[]),([],[]),([],[]),([],[]),([],[]),([],[]),([],[]),([],[]),([],[]),([],[]),([],[]),([],[]),([],[]),([],[]),([],[]),([],[]),([],[]),([],[]),([],[]),([],[]),([],[]),([],[]),([],[]),([],[]),([],[]),([],[]),([],[]),([],[]),([],[]),([],[]),([],[]),([],[]),([],[]),([],[]),([],[])] (S:=[]) Try_mix (by kernel_rfl) rfl (by kernel_rfl) (amF_cons (mono_V _) (amF_cons (mono_V _) (amF_cons (mono_V _) (amF_cons (mono_V _) (amF_cons (mono_V _) (amF_cons (mono_V _) (amF_cons (mono_V _) (amF_cons (mono_V _) (amF_cons (mono_V _) (amF_cons (mono_V _) (amF_cons (mono_V _) (amF_cons (mono_el _ _ _) (amF_cons (mono_V _) (amF_cons (mono_V _) (amF_cons (mono_V _) (amF_cons (mono_V _) (amF_cons (mono_V _) (amF_cons (mono_V _) (amF_cons (mono_V _) (amF_cons (mono_V _) (amF_cons (mono_V _) (amF_cons (mono_V _) (amF_cons (mono_V _) (amF_cons (mono_V _) (amF_cons (mono_V _) (amF_cons (mono_V _) (amF_cons (mono_V _) (amF_cons (mono_V _) (amF_cons (mono_el _ _ _) (amF_cons (mono_V _) (amF_cons (mono_V _) (amF_cons (mono_V _) (amF_cons (mono_V _) (amF_cons (mono_V _) (amF_cons (mono_V _) (amF_cons (mono_V _) (amF_cons (mono_V _) (amF_cons (mono_V _) (amF_cons (mono_V _) (amF_cons (mono_V _) (amF_cons (mono_V _) (amF_cons (mono_V _) (amF_cons (mono_V _) (amF_cons (mono_V _) amF_nil)))))))))))))))))))))))))))))))))))))))))))) hst ?_ (fun f w_ H30 hS30 hE30 hT30 hst=>?_)
 refine opsS_cons (fun f w_ _ _ s _ _ hst=>mF ((s 0 rfl).trans sf0) rfl (nO rfl rfl hst)) (opsS_cons (fun f w_ _ _ _ _ p hst=>L_nc rfl (p 0 47 rfl rfl) (nO rfl rfl hst)) (opsS_cons (fun f w_ _ _ _ _ p hst=>fA 0 fa_126_0 (p 1 48 rfl rfl) rfl (nO rfl rfl hst)) (opsS_cons (fun f w_ _ _ _ _ p hst=>ldB 0 hst Try.isAgg45 (p 2 49 rfl rfl) rfl rfl (nO rfl rfl hst)) (opsS_cons (fun f w_ _ _ s _ _ hst=>mF ((s 5 rfl).trans rfl) rfl (nO rfl rfl hst)) (opsS_cons (fun f w_ _ _ s _ _ hst=>mF ((s 0 rfl).trans sf0) rfl (nO rfl rfl hst)) (opsS_cons (fun f w_ _ _ _ _ p hst=>L_nc rfl (p 5 52 rfl rfl) (nO rfl rfl hst)) (opsS_cons (fun f w_ _ _ _ _ p hst=>fA 0 fa_126_0 (p 6 53 rfl rfl) rfl (nO rfl rfl hst)) (opsS_cons (fun f w_ _ _ _ _ p hst=>ldB 0 hst Try.isAgg45 (p 7 54 rfl rfl) rfl rfl (nO rfl rfl hst)) (opsS_cons (fun f w_ _ _ _ hE30 p hst=>L_len rfl Try.underlying45 (p 8 55 rfl rfl) (slice_len (RP.mono _ h0_0 hE30)) (nO rfl rfl hst)) (opsS_cons (fun f w_ _ _ _ _ p hst=>L_rem (m:=i64 ((i64 (r_.p + 1)) - 1)) (n:=(r_.b.length : Int)) rfl (p 4 51 rfl rfl) (p 9 56 rfl rfl) (fun he=>by rw [if_pos he] at hq17; cases hq17) (nO rfl rfl hst)) (opsS_cons ?_ ?_)))))))))))
 intro f w_ H30 X30 hS30 hE30 hP30 hst
 refine L_ix (r:=RP.u8) rfl Try.underlying45 Try.sizeOf5 (hP30 3 50 rfl rfl) (RP.mono _ h0_0 hE30) (hP30 10 57 rfl rfl) hx18 (fun g39 o40 cs_g39 hrk_hat41 hat41=>?_)
 obtain rfl : _ = [_]:=hrk_hat41
 exact L_nil ⟨rfl,_,_,rfl,Le.refl _,fun _ _=>⟨_,_,_,rfl,rfl,hat41⟩,hst⟩
 refine opsS_cons ?_ ?_
 intro f w_ H30 X30 hS30 hE30 hP30 hst
 obtain ⟨g43,o43,cs43,hv43,hrk_hat43,hat43⟩:=(hP30 11 58 rfl rfl)
 obtain rfl : _ = [_]:=hrk_hat43
 refine L_ld rfl Try.isAgg5 hv43 (At.cell (AtH.at hat43 hst.sub) (j:=0) rfl) (L_nil ⟨rfl,_,_,rfl,Le.refl _,fun _ _=>rfl,hst⟩)
 refine opsS_cons (fun f w_ _ _ _ _ p hst=>L_cv (n:=(x18.toNat : Int)) rfl (p 12 59 rfl rfl) ⟨_,Try.underlying5⟩ Try.underlying3 (nO rfl rfl hst)) (opsS_cons (fun f w_ _ _ _ _ p hst=>L_mul rfl (p 13 60 rfl rfl) rfl (nO rfl rfl hst)) (opsS_cons (fun f w_ _ _ s _ _ hst=>mF ((s 0 rfl).trans sf0) rfl (nO rfl rfl hst)) (opsS_cons (fun f w_ _ _ _ _ p hst=>L_nc rfl (p 15 62 rfl rfl) (nO rfl rfl hst)) (opsS_cons (fun f w_ _ _ _ _ p hst=>fA 0 fa_126_0 (p 16 63 rfl rfl) rfl (nO rfl rfl hst)) (opsS_cons (fun f w_ _ _ _ _ p hst=>ldB 0 hst Try.isAgg45 (p 17 64 rfl rfl) rfl rfl (nO rfl rfl hst)) (opsS_cons (fun f w_ _ _ s _ _ hst=>mF ((s 5 rfl).trans rfl) rfl (nO rfl rfl hst)) (opsS_cons (fun f w_ _ _ _ _ p hst=>L_mul rfl (p 19 66 rfl rfl) rfl (nO rfl rfl hst)) (opsS_cons (fun f w_ _ _ _ _ p hst=>L_add rfl (p 20 67 rfl rfl) rfl (nO rfl rfl hst)) (opsS_cons (fun f w_ _ _ s _ _ hst=>mF ((s 0 rfl).trans sf0) rfl (nO rfl rfl hst)) (opsS_cons (fun f w_ _ _ _ _ p hst=>L_nc rfl (p 22 69 rfl rfl) (nO rfl rfl hst)) (opsS_cons (fun f w_ _ _ _ _ p hst=>fA 0 fa_126_0 (p 23 70 rfl rfl) rfl (nO rfl rfl hst)) (opsS_cons (fun f w_ _ _ _ _ p hst=>ldB 0 hst Try.isAgg45 (p 24 71 rfl rfl) rfl rfl (nO rfl rfl hst)) (opsS_cons (fun f w_ _ _ _ hE30 p hst=>L_len rfl Try.underlying45 (p 25 72 rfl rfl) (slice_len (RP.mono _ h0_0 hE30)) (nO rfl rfl hst)) (opsS_cons (fun f w_ _ _ _ _ p hst=>L_rem (m:=i64 ((i64 ((i64 ((i64 (r_.p + 1)) - 1)) * 7)) + 3)) (n:=(r_.b.length : Int)) rfl (p 21 68 rfl rfl) (p 26 73 rfl rfl) (fun he=>by rw [if_pos he] at hq23; cases hq23) (nO rfl rfl hst)) (opsS_cons ?_ ?_)))))))))))))))
 intro f w_ H30 X30 hS30 hE30 hP30 hst
 refine L_ix (r:=RP.u8) rfl Try.underlying45 Try.sizeOf5 (hP30 18 65 rfl rfl) (RP.mono _ h0_0 hE30) (hP30 27 74 rfl rfl) hx24 (fun g45 o46 cs_g45 hrk_hat47 hat47=>?_)
 obtain rfl : _ = [_]:=hrk_hat47
 exact L_nil ⟨rfl,_,_,rfl,Le.refl _,fun _ _=>⟨_,_,_,rfl,rfl,hat47⟩,hst⟩
 refine opsS_cons ?_ ?_
 intro f w_ H30 X30 hS30 hE30 hP30 hst
 obtain ⟨g49,o49,cs49,hv49,hrk_hat49,hat49⟩:=(hP30 28 75 rfl rfl)
 obtain rfl : _ = [_]:=hrk_hat49
 refine L_ld rfl Try.isAgg5 hv49 (At.cell (AtH.at hat49 hst.sub) (j:=0) rfl) (L_nil ⟨rfl,_,_,rfl,Le.refl _,fun _ _=>rfl,hst⟩)
 refine opsS_cons (fun f w_ _ _ _ _ p hst=>L_cv (n:=(x24.toNat : Int)) rfl (p 29 76 rfl rfl) ⟨_,Try.underlying5⟩ Try.underlying3 (nO rfl rfl hst)) (opsS_cons (fun f w_ _ _ _ _ p hst=>L_mul rfl (p 30 77 rfl rfl) rfl (nO rfl rfl hst)) (opsS_cons (fun f w_ _ _ _ _ p hst=>L_add rfl (p 14 61 rfl rfl) (p 31 78 rfl rfl) (nO rfl rfl hst)) (opsS_cons (fun f w_ _ _ s _ _ hst=>mF ((s 5 rfl).trans rfl) rfl (nO rfl rfl hst)) (opsS_cons (fun f w_ _ _ _ _ p hst=>L_mul rfl (p 33 80 rfl rfl) rfl (nO rfl rfl hst)) (opsS_cons (fun f w_ _ _ _ _ p hst=>L_add rfl (p 32 79 rfl rfl) (p 34 81 rfl rfl) (nO rfl rfl hst)) (opsS_cons (fun f w_ _ _ s _ _ hst=>mF ((s 5 rfl).trans rfl) rfl (nO rfl rfl hst)) (opsS_cons (fun f w_ _ _ s _ _ hst=>mF ((s 0 rfl).trans sf0) rfl (nO rfl rfl hst)) (opsS_cons (fun f w_ _ _ _ _ p hst=>L_nc rfl (p 37 84 rfl rfl) (nO rfl rfl hst)) (opsS_cons (fun f w_ _ _ _ _ p hst=>fA 0 fa_126_0 (p 38 85 rfl rfl) rfl (nO rfl rfl hst)) (opsS_cons (fun f w_ _ _ _ _ p hst=>ldB 0 hst Try.isAgg45 (p 39 86 rfl rfl) rfl rfl (nO rfl rfl hst)) (opsS_cons (fun f w_ _ _ _ hE30 p hst=>L_len rfl Try.underlying45 (p 40 87 rfl rfl) (slice_len (RP.mono _ h0_0 hE30)) (nO rfl rfl hst)) (opsS_cons (fun f w_ _ _ _ _ p hst=>L_quo (m:=i64 ((i64 (r_.p + 1)) - 1)) (n:=(r_.b.length : Int)) rfl (p 36 83 rfl rfl) (p 41 88 rfl rfl) (fun he=>by rw [if_pos he] at hq29; cases hq29) (nO rfl rfl hst)) (opsS_cons (fun f w_ _ _ _ _ p hst=>L_mul rfl (p 42 89 rfl rfl) rfl (nO rfl rfl hst)) (opsS_nil))))))))))))))
 refine L_add rfl (hT30 35 82 rfl rfl) (hT30 43 90 rfl rfl) (aI rfl (ns (mI rfl (mI rfl (L_quo (m:=i64 ((i64 ((i64 ((i64 ((i64 (x18.toNat : Int)) * 131)) + (i64 ((i64 (x24.toNat : Int)) * 1117)))) + (i64 ((i64 ((i64 (r_.p + 1)) - 1)) * 29)))) + (i64 ((i64 (Int.tdiv (i64 ((i64 (r_.p + 1)) - 1)) (r_.b.length : Int))) * 53)))) (n:=64) rfl rfl rfl (by decide) (L_xor (m:=i64 ((i64 ((i64 ((i64 ((i64 (x18.toNat : Int)) * 131)) + (i64 ((i64 (x24.toNat : Int)) * 1117)))) + (i64 ((i64 ((i64 (r_.p + 1)) - 1)) * 29)))) + (i64 ((i64 (Int.tdiv (i64 ((i64 (r_.p + 1)) - 1)) (r_.b.length : Int))) * 53)))) (n:=i64 (Int.tdiv (i64 ((i64 ((i64 ((i64 ((i64 (x18.toNat : Int)) * 131)) + (i64 ((i64 (x24.toNat : Int)) * 1117)))) + (i64 ((i64 ((i64 (r_.p + 1)) - 1)) * 29)))) + (i64 ((i64 (Int.tdiv (i64 ((i64 (r_.p + 1)) - 1)) (r_.b.length : Int))) * 53)))) 64)) rfl rfl rfl (aI rfl (nq ?_))))))))
 obtain ⟨q51,hq51,hF⟩:=bind_some hF
 refine W_region (mI rfl (mF ((hS30 1 rfl).trans sf1) rfl (L_rem (m:=(xorI .i64 (i64 ((i64 ((i64 ((i64 ((i64 (x18.toNat : Int)) * 131)) + (i64 ((i64 (x24.toNat : Int)) * 1117)))) + (i64 ((i64 ((i64 (r_.p + 1)) - 1)) * 29)))) + (i64 ((i64 (Int.tdiv (i64 ((i64 (r_.p + 1)) - 1)) (r_.b.length : Int))) * 53)))) (i64 (Int.tdiv (i64 ((i64 ((i64 ((i64 ((i64 (x18.toNat : Int)) * 131)) + (i64 ((i64 (x24.toNat : Int)) * 1117)))) + (i64 ((i64 ((i64 (r_.p + 1)) - 1)) * 29)))) + (i64 ((i64 (Int.tdiv (i64 ((i64 (r_.p + 1)) - 1)) (r_.b.length : Int))) * 53)))) 64)))) (n:=n_) rfl rfl rfl (fun he=>by rw [if_pos he] at hq51; cases hq51) (aI rfl (nn (W_ret (retG1 (v1:=I (Int.tmod (xorI .i64 (i64 ((i64 ((i64 ((i64 ((i64 (x18.toNat : Int)) * 131)) + (i64 ((i64 (x24.toNat : Int)) * 1117)))) + (i64 ((i64 ((i64 (r_.p + 1)) - 1)) * 29)))) + (i64 ((i64 (Int.tdiv (i64 ((i64 (r_.p + 1)) - 1)) (r_.b.length : Int))) * 53)))) (i64 (Int.tdiv (i64 ((i64 ((i64 ((i64 ((i64 (x18.toNat : Int)) * 131)) + (i64 ((i64 (x24.toNat : Int)) * 1117)))) + (i64 ((i64 ((i64 (r_.p + 1)) - 1)) * 29)))) + (i64 ((i64 (Int.tdiv (i64 ((i64 (r_.p + 1)) - 1)) (r_.b.length : Int))) * 53)))) 64))) n_)) Try.results71 rfl ?_)))))))
 obtain rfl:=so hF
 exact ⟨rfl,(Star.down hst hE30 (cb c0))⟩
theorem s_l17Rd_num_c {r_ : Rd} {list : List Int} {g_0 : Nat} {v0_0 : Value} {v1 : Value} {H : FH} {w : World} (hst : Star H w [box g_0 126 #[v0_0,I r_.p]]) (h0_0 : (rS 5 RP.u8).rel H [v0_0] r_.b) (h1 : (rS 3 RP.int).rel H [v1] list) {r : Int × Int} (hF : s_l17Rd_num r_ list = some r) :
 C Try.prog 110 #[Pt g_0,v1] w fun v w'=>v = I r.1∧Star H w' [box g_0 126 #[v0_0,I r.2]]:=by
 unfold s_l17Rd_num at hF
 refine C_enter Try.func110 rfl Try.ntmps110 rfl (sq (aI rfl (nq ?_)))
 obtain ⟨x6,hx6,hF⟩:=bind_some hF
 obtain ⟨x8,hx8,hF⟩:=bind_some hF
 refine W_region (mV v1 rfl (mV (Pt g_0) rfl (mV v1 rfl (L_len rfl Try.underlying105 rfl (slice_len h1) ?_))))
 obtain ⟨H13b,l14,s15,z16,k17⟩:=hst.lend [_]
 refine L_call rfl Try.call71 (ops2 rfl rfl) (s_l17Rd_pick_c (r_:=r_) (n_:=(list.length : Int)) s15 (RP.mono _ h0_0 l14) hx6) ?_
 rintro _ w18 ⟨rfl,hst⟩
 have hst:=k17 hst (cb c0)
 refine L_ix (r:=RP.int) rfl Try.underlying105 Try.sizeOf3 rfl h1 rfl hx8 (fun g19 o20 cs_g19 hrk_hat21 hat21=>?_)
 obtain rfl : _ = [_]:=hrk_hat21
 refine L_ld rfl Try.isAgg3 rfl (At.cell (AtH.at hat21 hst.sub) (j:=0) rfl) (aI rfl (nn (W_ret (retG1 (v1:=I x8) Try.results110 rfl ?_))))
 obtain rfl:=so hF
 exact ⟨rfl,hst⟩
theorem s_l1Mutate_c {r_ : Rd} {c : Con} {g_0 : Nat} {v0_0 : Value} {v1_0 : Value} {H : FH} {w : World} (hst : Star H w [box g_0 126 #[v0_0,I r_.p]]) (h0_0 : (rS 5 RP.u8).rel H [v0_0] r_.b) (h1_0 : (rS 117 rTerm).rel H [v1_0] c.terms) {r : Con × Int} (hF : s_l1Mutate r_ c = some r) :
 C Try.prog 73 #[Pt g_0,.agg #[v1_0,I c.bound]] w fun v w'=>∃ (u1 : Value),v = .agg #[u1,I r.1.bound]∧Star H w' [oF 117 rTerm u1 r.1.terms,box g_0 126 #[v0_0,I r.2]]:=by
 unfold s_l1Mutate at hF
 refine C_enter Try.func73 rfl Try.ntmps73 rfl (sq (L_box (v:=.agg #[v1_0,I c.bound]) (cs:=#[v1_0,I c.bound]) rfl rfl rfl hst (fun g5 w6 hst=>L_al (cs:=#[S0,I 0]) rfl Try.zeroValue41 rfl hst (fun g7 w8 hst=>nq ?_))))
 obtain ⟨x14,hx14,hF⟩:=bind_some hF
 refine W_region (L_lda (cs:=[v1_0,I c.bound]) rfl Try.isAgg41 Try.sizeOf41 rfl (At.sub0 (Blk.at (Star.blkAt 1 hst rfl)) 0 2) rfl ?_)
 obtain ⟨H20b,l21,s22,z23,k24⟩:=hst.borrow
 refine L_call rfl Try.call81 (ops1 rfl) (s_l1Copy_c (c:=c) s22 (RP.mono _ h1_0 l21) hx14) ?_
 rintro _ w25 ⟨r25_0,rfl,hst⟩
 have hst:=k24 hst (co closed_term c0)
 refine L_al (cs:=#[S0,I 0]) rfl Try.zeroValue41 rfl hst (fun g27 w28 hst=>L_staB (vs:=#[r25_0,I x14.bound]) (cs2:=#[r25_0,I x14.bound]) 0 rfl Try.sizeOf41 rfl rfl rfl (ones_cons (one_len (Star.len 1 hst rfl)) (ones_cons rfl ones_nil)) hst rfl (by show 0 + 2≤2; decide) rfl (fun w29 hst=>ns (fA 0 fa_41_0 rfl rfl (ldB 0 hst Try.isAgg39 rfl rfl rfl (L_len rfl Try.underlying39 rfl (Star.len 1 hst rfl) (aI rfl (nq (W_seq ?_))))))))
 obtain ⟨x35,hx35,hF⟩:=bind_some hF
 refine W_region (mV (Pt g_0) rfl ?_)
 have hst:=hst.get 4 rfl
 obtain ⟨H37b,l38,s39,z40,k41⟩:=hst.lend [_]
 refine L_call rfl Try.call71 (ops2 rfl rfl) (s_l17Rd_pick_c (r_:=r_) (n_:=40) s39 (RP.mono _ h0_0 l38) hx35) ?_
 rintro _ w42 ⟨rfl,hst⟩
 have hst:=k41 hst (cb c0)
 refine nn (W_block (sq (L_eql rfl rfl rfl (aB rfl (nn ?_)))))
 obtain ⟨⟨g_0_1_43,g27_0_44,g27_1_46⟩,hA49,hF⟩:=bind_some hF
 obtain ⟨R49,hR49⟩:=exR fun f w_=>∃ H47 : FH,∃ v44_g27_0 : Value,Le H H47∧f 4 = Pt g7∧f 5 = Pt g27∧Star H47 w_ ([box g_0 126 #[v0_0,I g_0_1_43],oF 117 rTerm v44_g27_0 g27_0_44,box g27 41 #[v44_g27_0,I g27_1_46],box g7 41 #[S0,I 0]])
 refine W_join R49 ?_ ?_
 refine W_cond (b:=(x35.1 == 0)) rfl (fun hc50=>?_) (fun hc50=>?_)
 have hA49:=(ite_t hc50).symm.trans hA49
 obtain ⟨x60,hx60,hA49⟩:=bind_some hA49
 refine W_region (mV (Pt g_0) rfl (L_bs rfl (parts3 rfl rfl rfl) (bs_105_3_0_0_0 (I (-1)) (I 20001) (I 9223372036854775807) rfl rfl rfl) hst (fun g63 w64 hst=>?_)))
 have hst:=litInts [(-1),20001,9223372036854775807] 3 hst rfl rfl (by decide)
 have hst:=hst.get 1 rfl
 obtain ⟨H66b,l67,s68,z69,k70⟩:=hst.lend [_]
 have hb71 : (rS 3 RP.int).rel H66b [(Sl g63 3 3)] ([(-1),20001,9223372036854775807]):=fz_own 0 z69 rfl
 refine L_call rfl Try.call110 (ops2 rfl rfl) (s_l17Rd_num_c (r_:=({ b:=r_.b,p:=x35.2 } : Rd)) (list:=[(-1),20001,9223372036854775807]) s68 (RP.mono _ h0_0 l67) hb71 hx60) ?_
 rintro _ w72 ⟨rfl,hst⟩
 have hst:=k70 hst (cb c0)
 refine fA 1 fa_41_1 rfl rfl (L_stB (v:=I x60.1) (cs2:=#[r25_0,I x60.1]) 2 rfl Try.sizeOf3 rfl rfl rfl hst rfl rfl rfl (fun w73 hst=>nn ?_))
 obtain ⟨rfl,rfl,rfl⟩:=so3 hA49
 have hst:=hst.gets [4,1,4,3] rfl
 exact rj hR49 ⟨H,r25_0,(Le.refl _),rfl,rfl,(Star.keepN 4 hst)⟩
 have hA49:=(ite_f hc50).symm.trans hA49
 refine sq (L_eql rfl rfl rfl (aB rfl (nn ?_)))
 obtain ⟨⟨g_0_1_74,g27_0_75⟩,hA79,hA49⟩:=bind_some hA49
 obtain ⟨R79,hR79⟩:=exR fun f w_=>∃ H77 : FH,∃ v75_g27_0 : Value,Le H H77∧f 4 = Pt g7∧f 5 = Pt g27∧Star H77 w_ ([box g_0 126 #[v0_0,I g_0_1_74],oF 117 rTerm v75_g27_0 g27_0_75,box g27 41 #[v75_g27_0,I x14.bound],box g7 41 #[S0,I 0]])
 refine W_join R79 ?_ ?_
 refine W_cond (b:=(x35.1 == 1)) rfl (fun hc80=>?_) (fun hc80=>?_)
 have hA79:=(ite_t hc80).symm.trans hA79
 refine sq (mI rfl (L_gtr rfl rfl rfl (nn ?_)))
 obtain ⟨⟨g_0_1_81,g27_0_82⟩,hA85,hA79⟩:=bind_some hA79
 obtain ⟨R85,hR85⟩:=exR fun f w_=>∃ H83 : FH,Le H H83∧f 4 = Pt g7∧f 5 = Pt g27∧Star H83 w_ ([box g_0 126 #[v0_0,I g_0_1_81],oF 117 rTerm r25_0 g27_0_82,box g27 41 #[r25_0,I x14.bound],box g7 41 #[S0,I 0]])
 refine W_join R85 ?_ ?_
 refine W_cond (b:=decide ((x14.terms.length : Int) > 0)) rfl (fun hc86=>?_) (fun hc86=>?_)
 have hA85:=(ite_t hc86).symm.trans hA85
 obtain ⟨x96,hx96,hA85⟩:=bind_some hA85
 obtain ⟨x98,hx98,hA85⟩:=bind_some hA85
 have hst:=Star.drop 4 hst rfl
 have hst:=hst.gets [3,3,3] rfl
 refine W_drawS 5 [isV (Pt g27),isV (r25_0),isV (Pt g_0),anyF,isV (I x96.1)] [box g27 41 #[r25_0,I x14.bound],oF 117 rTerm r25_0 x14.terms,box g7 41 #[S0,I 0]] [.base (box g_0 126 #[v0_0,I x35.2]) (some 4),.made 3 27 (fun v_=>oF 3 RP.int v_ ([0,(-1),1001])) none,.made 4 28 (fun v_=>box g_0 126 #[v0_0,I x96.2]) none] ([]) [([],[]),([],[]),([],[]),([],[1]),([0,1],[1,2])] (S:=[(none,[],some 4),(some 3,[27],none),(some 4,[28],none)]) Try_mix (by kernel_rfl) rfl (by kernel_rfl) (amF_cons (mono_V _) (amF_cons (mono_V _) (amF_cons (mono_V _) (amF_cons (mono_any) (amF_cons (mono_V _) amF_nil))))) hst ?_ (fun f w_ H102 hS102 hE102 hT102 hst=>?_)
 refine opsS_cons (fun f w_ _ _ s _ _ hst=>fA 0 fa_41_0 ((s 5 rfl).trans rfl) rfl (nO rfl rfl hst)) (opsS_cons (fun f w_ _ _ _ _ p hst=>ldB 0 hst Try.isAgg39 (p 0 24 rfl rfl) rfl rfl (nO rfl rfl hst)) (opsS_cons (fun f w_ _ _ s _ _ hst=>mF ((s 0 rfl).trans rfl) rfl (nO rfl rfl hst)) (opsS_cons ?_ ?_)))
 intro f w_ H102 X102 hS102 hE102 hP102 hst
 refine L_bs rfl (parts3 rfl rfl rfl) (bs_105_3_0_0_0 (I 0) (I (-1)) (I 1001) rfl rfl rfl) hst (fun g113 w114 hst=>?_)
 have hst:=litInts [0,(-1),1001] 3 hst rfl rfl (by decide)
 have hst:=hst.gets [3,3,3] rfl
 exact L_nil ⟨rfl,_,_,rfl,Le.refl _,fun _ _=>trivial,hst⟩
 refine opsS_cons ?_ ?_
 intro f w_ H102 X102 hS102 hE102 hP102 hst
 have hst : Star H102 w_ (box g27 41 #[r25_0,I x14.bound] :: oF 117 rTerm r25_0 x14.terms :: box g7 41 #[S0,I 0] :: box g_0 126 #[v0_0,I x35.2] :: oF 3 RP.int (f 27) ([0,(-1),1001]) :: X102):=hst
 have hst:=hst.get 3 rfl
 obtain ⟨H117b,l118,s119,z120,k121⟩:=hst.lend [_]
 have hb122 : (rS 3 RP.int).rel H117b [(f 27)] ([0,(-1),1001]):=fz_own 3 z120 rfl
 refine L_call rfl Try.call110 (ops2 (hP102 2 26 rfl rfl) rfl) (s_l17Rd_num_c (r_:=({ b:=r_.b,p:=x35.2 } : Rd)) (list:=[0,(-1),1001]) s119 (RP.mono _ h0_0 (Le.trans hE102 l118)) hb122 hx96) ?_
 rintro _ w123 ⟨rfl,hst⟩
 have hst:=k121 hst (cb c0)
 have hst:=hst.gets [4,4,4,4] rfl
 exact L_nil ⟨rfl,_,_,rfl,Le.refl _,fun _ _=>rfl,hst⟩
 exact opsS_nil
 have hst : Star H102 w_ ([box g27 41 #[r25_0,I x14.bound],oF 117 rTerm r25_0 x14.terms,box g7 41 #[S0,I 0],oF 3 RP.int (f 27) ([0,(-1),1001]),box g_0 126 #[v0_0,I x96.2]]):=hst
 obtain ⟨g124,cap_g124,hv125,_,_⟩:=Star.row 1 hst rfl hx98
 refine L_ixO (R:=(OR.frz rTerm)) (tb:=0) 0 rfl Try.underlying39 Try.sizeOf117 (hT102 1 25 rfl rfl) hv125 (by first | rfl | simp) rfl hx98 (fA (Int.toNat 0 * 2 + 0) fa_117_0 rfl rfl ?_)
 have hst:=hst.get 1 rfl
 refine L_stF (j:=0) (u:=I x96.1) (z:={ x98 with coef:=x96.1 }) rfl Try.sizeOf3 rfl rfl (hT102 4 28 rfl rfl) rfl hv125 hst hx98 fldF_rTerm_0 (fun w126 hst=>nn ?_)
 obtain ⟨rfl,rfl⟩:=so2 hA85
 have hst:=hst.gets [2,2,2,4] rfl
 exact rj hR85 ⟨H102,hE102,((hS102 4 rfl).trans rfl),((hS102 5 rfl).trans rfl),(Star.keepN 4 hst)⟩
 have hA85:=(ite_f hc86).symm.trans hA85
 refine W_skip ?_
 obtain ⟨rfl,rfl⟩:=so2 hA85
 have hst:=hst.gets [3,2,3,3] rfl
 exact rj hR85 ⟨H,(Le.refl _),rfl,rfl,(Star.keepN 4 hst)⟩
 intro f w_ hR
 obtain ⟨H83,l84,sf4,sf5,hst⟩:=rk hR85 hR
 obtain ⟨rfl,rfl⟩:=so2 hA79
 exact rj hR79 ⟨H83,r25_0,l84,sf4,sf5,hst⟩
 have hA79:=(ite_f hc80).symm.trans hA79
 refine sq (L_eql rfl rfl rfl (aB rfl (nn ?_)))
 obtain ⟨⟨g_0_1_127,g27_0_128⟩,hA132,hA79⟩:=bind_some hA79
 obtain ⟨R132,hR132⟩:=exR fun f w_=>∃ H130 : FH,∃ v128_g27_0 : Value,Le H H130∧f 4 = Pt g7∧f 5 = Pt g27∧Star H130 w_ ([box g_0 126 #[v0_0,I g_0_1_127],oF 117 rTerm v128_g27_0 g27_0_128,box g27 41 #[v128_g27_0,I x14.bound],box g7 41 #[S0,I 0]])
 refine W_join R132 ?_ ?_
 refine W_cond (b:=(x35.1 == 2)) rfl (fun hc133=>?_) (fun hc133=>?_)
 have hA132:=(ite_t hc133).symm.trans hA132
 refine sq (mI rfl (L_gtr rfl rfl rfl (nn ?_)))
 obtain ⟨⟨g_0_1_134,g27_0_135⟩,hA138,hA132⟩:=bind_some hA132
 obtain ⟨R138,hR138⟩:=exR fun f w_=>∃ H136 : FH,Le H H136∧f 4 = Pt g7∧f 5 = Pt g27∧Star H136 w_ ([box g_0 126 #[v0_0,I g_0_1_134],oF 117 rTerm r25_0 g27_0_135,box g27 41 #[r25_0,I x14.bound],box g7 41 #[S0,I 0]])
 refine W_join R138 ?_ ?_
 refine W_cond (b:=decide ((x14.terms.length : Int) > 0)) rfl (fun hc139=>?_) (fun hc139=>?_)
 have hA138:=(ite_t hc139).symm.trans hA138
 obtain ⟨x149,hx149,hA138⟩:=bind_some hA138
 obtain ⟨x151,hx151,hA138⟩:=bind_some hA138
 have hst:=Star.drop 4 hst rfl
 have hst:=hst.gets [3,3,3] rfl
 refine W_drawS 7 [isV (Pt g27),isV (r25_0),isV (I (x14.terms.length : Int)),isV (I (i64 ((x14.terms.length : Int) - 1))),isV (Pt g_0),anyF,isV (I x149.1)] [box g27 41 #[r25_0,I x14.bound],oF 117 rTerm r25_0 x14.terms,box g7 41 #[S0,I 0]] [.base (box g_0 126 #[v0_0,I x35.2]) (some 6),.made 5 40 (fun v_=>oF 3 RP.int v_ ([0,13,(-13),1,(-9223372036854775808)])) none,.made 6 41 (fun v_=>box g_0 126 #[v0_0,I x149.2]) none] ([]) [([],[]),([],[]),([],[]),([],[]),([],[]),([],[1]),([0,1],[1,2])] (S:=[(none,[],some 6),(some 5,[40],none),(some 6,[41],none)]) Try_mix (by kernel_rfl) rfl (by kernel_rfl) (amF_cons (mono_V _) (amF_cons (mono_V _) (amF_cons (mono_V _) (amF_cons (mono_V _) (amF_cons (mono_V _) (amF_cons (mono_any) (amF_cons (mono_V _) amF_nil))))))) hst ?_ (fun f w_ H155 hS155 hE155 hT155 hst=>?_)
 refine opsS_cons (fun f w_ _ _ s _ _ hst=>fA 0 fa_41_0 ((s 5 rfl).trans rfl) rfl (nO rfl rfl hst)) (opsS_cons (fun f w_ _ _ _ _ p hst=>ldB 0 hst Try.isAgg39 (p 0 35 rfl rfl) rfl rfl (nO rfl rfl hst)) (opsS_cons (fun f w_ _ _ s _ _ hst=>mF ((s 6 rfl).trans rfl) rfl (nO rfl rfl hst)) (opsS_cons (fun f w_ _ _ _ _ p hst=>L_sub rfl (p 2 37 rfl rfl) rfl (nO rfl rfl hst)) (opsS_cons (fun f w_ _ _ s _ _ hst=>mF ((s 0 rfl).trans rfl) rfl (nO rfl rfl hst)) (opsS_cons ?_ ?_)))))
 intro f w_ H155 X155 hS155 hE155 hP155 hst
 refine L_bs rfl (parts5 rfl rfl rfl rfl rfl) (bs_105_5_0_0_0_0_0 (I 0) (I 13) (I (-13)) (I 1) (I (-9223372036854775808)) rfl rfl rfl rfl rfl) hst (fun g166 w167 hst=>?_)
 have hst:=litInts [0,13,(-13),1,(-9223372036854775808)] 5 hst rfl rfl (by decide)
 have hst:=hst.gets [3,3,3] rfl
 exact L_nil ⟨rfl,_,_,rfl,Le.refl _,fun _ _=>trivial,hst⟩
 refine opsS_cons ?_ ?_
 intro f w_ H155 X155 hS155 hE155 hP155 hst
 have hst : Star H155 w_ (box g27 41 #[r25_0,I x14.bound] :: oF 117 rTerm r25_0 x14.terms :: box g7 41 #[S0,I 0] :: box g_0 126 #[v0_0,I x35.2] :: oF 3 RP.int (f 40) ([0,13,(-13),1,(-9223372036854775808)]) :: X155):=hst
 have hst:=hst.get 3 rfl
 obtain ⟨H170b,l171,s172,z173,k174⟩:=hst.lend [_]
 have hb175 : (rS 3 RP.int).rel H170b [(f 40)] ([0,13,(-13),1,(-9223372036854775808)]):=fz_own 3 z173 rfl
 refine L_call rfl Try.call110 (ops2 (hP155 4 39 rfl rfl) rfl) (s_l17Rd_num_c (r_:=({ b:=r_.b,p:=x35.2 } : Rd)) (list:=[0,13,(-13),1,(-9223372036854775808)]) s172 (RP.mono _ h0_0 (Le.trans hE155 l171)) hb175 hx149) ?_
 rintro _ w176 ⟨rfl,hst⟩
 have hst:=k174 hst (cb c0)
 have hst:=hst.gets [4,4,4,4] rfl
 exact L_nil ⟨rfl,_,_,rfl,Le.refl _,fun _ _=>rfl,hst⟩
 exact opsS_nil
 have hst : Star H155 w_ ([box g27 41 #[r25_0,I x14.bound],oF 117 rTerm r25_0 x14.terms,box g7 41 #[S0,I 0],oF 3 RP.int (f 40) ([0,13,(-13),1,(-9223372036854775808)]),box g_0 126 #[v0_0,I x149.2]]):=hst
 obtain ⟨g177,cap_g177,hv178,_,_⟩:=Star.row 1 hst rfl hx151
 refine L_ixO (R:=(OR.frz rTerm)) (tb:=0) 0 rfl Try.underlying39 Try.sizeOf117 (hT155 1 36 rfl rfl) hv178 (by first | rfl | simp) (hT155 3 38 rfl rfl) hx151 (fA (Int.toNat (i64 ((x14.terms.length : Int) - 1)) * 2 + 1) fa_117_1 rfl rfl ?_)
 have hst:=hst.get 1 rfl
 refine L_stF (j:=1) (u:=I x149.1) (z:={ x151 with lit:=x149.1 }) rfl Try.sizeOf3 rfl rfl (hT155 6 41 rfl rfl) rfl hv178 hst hx151 fldF_rTerm_1 (fun w179 hst=>nn ?_)
 obtain ⟨rfl,rfl⟩:=so2 hA138
 have hst:=hst.gets [2,2,2,4] rfl
 exact rj hR138 ⟨H155,hE155,((hS155 4 rfl).trans rfl),((hS155 5 rfl).trans rfl),(Star.keepN 4 hst)⟩
 have hA138:=(ite_f hc139).symm.trans hA138
 refine W_skip ?_
 obtain ⟨rfl,rfl⟩:=so2 hA138
 have hst:=hst.gets [3,2,3,3] rfl
 exact rj hR138 ⟨H,(Le.refl _),rfl,rfl,(Star.keepN 4 hst)⟩
 intro f w_ hR
 obtain ⟨H136,l137,sf4,sf5,hst⟩:=rk hR138 hR
 obtain ⟨rfl,rfl⟩:=so2 hA132
 exact rj hR132 ⟨H136,r25_0,l137,sf4,sf5,hst⟩
 have hA132:=(ite_f hc133).symm.trans hA132
 refine sq (L_eql rfl rfl rfl (aB rfl (nn ?_)))
 obtain ⟨g27_0_180,hA182,hA132⟩:=bind_some hA132
 obtain ⟨R182,hR182⟩:=exR fun f w_=>∃ v180_g27_0 : Value,f 4 = Pt g7∧f 5 = Pt g27∧Star H w_ ([box g_0 126 #[v0_0,I x35.2],oF 117 rTerm v180_g27_0 g27_0_180,box g27 41 #[v180_g27_0,I x14.bound],box g7 41 #[S0,I 0]])
 refine W_join R182 ?_ ?_
 refine W_cond (b:=(x35.1 == 3)) rfl (fun hc183=>?_) (fun hc183=>?_)
 have hA182:=(ite_t hc183).symm.trans hA182
 obtain ⟨x187,hx187,hA182⟩:=bind_some hA182
 refine W_region (fA 0 fa_41_0 rfl rfl (ldB 1 hst Try.isAgg39 rfl rfl rfl (L_bld rfl (parts2 rfl rfl) (bld_117_0_1 (I 1) (I 1) rfl rfl) (L_bs rfl (parts1 rfl) (bs_39_1_2 (I 1) (I 1) ) hst (fun g192 w193 hst=>?_)))))
 have hst:=Star.addF (r:=rTerm) (cs:=[I 1,I 1]) (x:=({ coef:=1,lit:=1 } : Term)) hst (rTerm_iff.2 rfl)
 have hst:=Star.mkRow (R:=(OR.frz rTerm)) [([I 1,I 1],({ coef:=1,lit:=1 } : Term))] [({ coef:=1,lit:=1 } : Term)] 1 hst rfl rfl rfl (by decide)
 have hst:=hst.get 3 rfl
 refine L_appM (v:=r25_0) (u:=(Sl g192 1 1)) rfl et_39 rfl rfl hst hx187 (fun v195 w196 hst=>fA 0 fa_41_0 rfl rfl (L_stB (v:=v195) (cs2:=#[v195,I x14.bound]) 2 rfl Try.sizeOf39 rfl rfl (one_len (Star.len 0 hst rfl)) hst rfl rfl rfl (fun w198 hst=>nn ?_)))
 obtain rfl:=so hA182
 have hst:=hst.gets [3,1,2,3] rfl
 exact rj hR182 ⟨v195,rfl,rfl,(Star.keepN 4 hst)⟩
 have hA182:=(ite_f hc183).symm.trans hA182
 refine W_skip ?_
 obtain rfl:=so hA182
 have hst:=hst.gets [3,2,3,3] rfl
 exact rj hR182 ⟨r25_0,rfl,rfl,(Star.keepN 4 hst)⟩
 intro f w_ hR
 obtain ⟨v180_g27_0,sf4,sf5,hst⟩:=rk hR182 hR
 obtain ⟨rfl,rfl⟩:=so2 hA132
 exact rj hR132 ⟨H,v180_g27_0,(Le.refl _),sf4,sf5,hst⟩
 intro f w_ hR
 obtain ⟨H130,v128_g27_0,l131,sf4,sf5,hst⟩:=rk hR132 hR
 obtain ⟨rfl,rfl⟩:=so2 hA79
 exact rj hR79 ⟨H130,v128_g27_0,l131,sf4,sf5,hst⟩
 intro f w_ hR
 obtain ⟨H77,v75_g27_0,l78,sf4,sf5,hst⟩:=rk hR79 hR
 obtain ⟨rfl,rfl,rfl⟩:=so3 hA49
 exact rj hR49 ⟨H77,v75_g27_0,l78,sf4,sf5,hst⟩
 intro f w_ hR
 obtain ⟨H47,v44_g27_0,l48,sf4,sf5,hst⟩:=rk hR49 hR
 refine sq (L_lda (cs:=[v44_g27_0,I g27_1_46]) rfl Try.isAgg41 Try.sizeOf41 sf5 (At.sub0 (Blk.at (Star.blkAt 2 hst rfl)) 0 2) rfl (L_staB (vs:=#[v44_g27_0,I g27_1_46]) (cs2:=#[v44_g27_0,I g27_1_46]) 3 rfl Try.sizeOf41 sf4 rfl rfl (ones_cons (one_len (Star.len 1 hst rfl)) (ones_cons rfl ones_nil)) hst rfl (by show 0 + 2≤2; decide) rfl (fun w200 hst=>nn (W_ret (retG1 (v1:=.agg #[v44_g27_0,I g27_1_46]) Try.results73 (resV_agg Try.isAgg41 Try.sizeOf41 sf4 (Star.blkAt 0 hst rfl) rfl) ?_)))))
 obtain rfl:=so hF
 have hst:=hst.gets [1,2] rfl
 exact ⟨v44_g27_0,rfl,(Star.down (Star.keepN 2 hst) l48 (co closed_term (cb c0)))⟩
theorem s_l3Mutate_c {r_ : Rd} {list : List Con} {g_0 : Nat} {v0_0 : Value} {v1 : Value} {H : FH} {w : World} {R : List Ass} (hst : Star H w (box g_0 126 #[v0_0,I r_.p] :: R)) (h0_0 : (rS 5 RP.u8).rel H [v0_0] r_.b) (h1 : (rS 41 (rCon 117)).rel H [v1] list) {r : (List Con) × Int} (hF : s_l3Mutate r_ list = some r) :
 C Try.prog 68 #[Pt g_0,v1] w fun v w'=>∃ H' : FH,Le H H'∧∃ (u1 : Value),v = u1∧Star H' w' (oF 41 (rCon 117) u1 r.1 :: box g_0 126 #[v0_0,I r.2] :: R):=by
 unfold s_l3Mutate at hF
 refine C_enter Try.func68 rfl Try.ntmps68 rfl (sq (aV S0 rfl (nq ?_)))
 obtain ⟨x4,hx4,hF⟩:=bind_some hF
 refine W_region (L_bs rfl parts0 (bs_27_0  ) hst (fun g8 w9 hst=>?_))
 have hst:=Star.mkRow (R:=(OR.frz (rCon 117))) [] [] 0 hst rfl rfl rfl (by decide)
 refine mV v1 rfl (L_app (v:=(Sl g8 0 0)) (u:=v1) rfl et_27 rfl rfl hst h1 hx4 (fun v11 w12 hst=>aV v11 rfl (nq (W_seq ?_))))
 obtain ⟨b21,hb21,hF⟩:=bind_some hF
 obtain ⟨R22,hR22⟩:=exR fun f w_=>f 0 = Pt g_0∧f 5 = v11∧f 17 = Bo b21.1∧Star H w_ (oF 41 (rCon 117) v11 x4 :: box g_0 126 #[v0_0,I b21.2] :: R)
 refine W_join R22 ?_ ?_
 refine W_region (mV v11 rfl (L_len rfl Try.underlying27 rfl (Star.len 0 hst rfl) (L_gtr rfl rfl rfl (mB rfl (L_split (d:=13) (b:=decide ((x4.length : Int) > 0)) rfl (fun hc23=>?_) (fun hc23=>?_))))))
 rw [ite_t hc23] at hb21
 obtain ⟨x19,hx19,hb21⟩:=bind_some hb21
 refine mV (Pt g_0) rfl ?_
 have hst:=hst.get 1 rfl
 obtain ⟨H24b,l25,s26,z27,k28⟩:=hst.lend [_]
 refine L_call rfl Try.call71 (ops2 rfl rfl) (s_l17Rd_pick_c (r_:=r_) (n_:=20) s26 (RP.mono _ h0_0 l25) hx19) ?_
 rintro _ w29 ⟨rfl,hst⟩
 have hst:=k28 hst (cb c0)
 refine L_eql rfl rfl rfl (L_pick (v:=Bo b21.1) rfl rfl (congrArg (fun z : Bool × Int=>Value.bool z.1) (so hb21)) ?_)
 have hst : Star H w29 (box g_0 126 #[v0_0,I b21.2] :: oF 41 (rCon 117) v11 x4 :: R):=by rw [← so hb21]; exact hst
 refine nn ?_
 have hst:=hst.get 1 rfl
 exact rj hR22 ⟨rfl,rfl,rfl,hst⟩
 rw [ite_f hc23] at hb21
 refine ps rfl (ps rfl (ps rfl (L_pick (v:=Bo b21.1) rfl rfl (congrArg (fun z : Bool × Int=>Value.bool z.1) (so hb21)) ?_)))
 have hst:=hst.get 1 rfl
 have hst : Star H w12 (box g_0 126 #[v0_0,I b21.2] :: oF 41 (rCon 117) v11 x4 :: R):=by rw [← so hb21]; exact hst
 refine nn ?_
 have hst:=hst.get 1 rfl
 exact rj hR22 ⟨rfl,rfl,rfl,hst⟩
 intro f w_ hR
 obtain ⟨sf0,sf5,sf17,hst⟩:=rk hR22 hR
 obtain ⟨⟨out_30,g_0_1_31⟩,hA34,hF⟩:=bind_some hF
 obtain ⟨R34,hR34⟩:=exR fun f w_=>∃ H32 : FH,Le H H32∧f 5 = v11∧Star H32 w_ (oF 41 (rCon 117) v11 out_30 :: box g_0 126 #[v0_0,I g_0_1_31] :: R)
 refine W_join R34 ?_ ?_
 refine W_cond (b:=b21.1) sf17 (fun hc35=>?_) (fun hc35=>?_)
 have hA34:=(ite_t hc35).symm.trans hA34
 refine W_seq ?_
 obtain ⟨x41,hx41,hA34⟩:=bind_some hA34
 refine W_region (mF sf0 rfl (mF sf5 rfl (L_len rfl Try.underlying27 rfl (Star.len 0 hst rfl) ?_)))
 have hst:=hst.get 1 rfl
 obtain ⟨H43b,l44,s45,z46,k47⟩:=hst.lend [_]
 refine L_call rfl Try.call71 (ops2 rfl rfl) (s_l17Rd_pick_c (r_:=({ b:=r_.b,p:=b21.2 } : Rd)) (n_:=(x4.length : Int)) s45 (RP.mono _ h0_0 l44) hx41) ?_
 rintro _ w48 ⟨rfl,hst⟩
 have hst:=k47 hst (cb c0)
 refine aI rfl (nn ?_)
 obtain ⟨x49,hx49,hA34⟩:=bind_some hA34
 obtain ⟨x59,hx59,hA34⟩:=bind_some hA34
 obtain ⟨x68,hx68,hA34⟩:=bind_some hA34
 obtain ⟨x77,hx77,hA34⟩:=bind_some hA34
 refine W_region (mF sf5 rfl (mI rfl (mF sf0 rfl (mF sf0 rfl (mF sf0 rfl (mF sf5 rfl (mI rfl ?_)))))))
 obtain ⟨g84,cap_g84,hv85,_,_⟩:=Star.row 1 hst rfl hx49
 refine L_ixO (R:=(OR.frz (rCon 117))) (tb:=0) 0 rfl Try.underlying27 Try.sizeOf41 rfl hv85 (by first | rfl | simp) rfl hx49 ?_
 obtain ⟨cs86,hr86,hat86⟩:=Star.eltF 1 hst rfl hv85 hx49
 obtain ⟨u87_0,rfl,hu87_0⟩:=rCon_iff.1 hr86
 refine L_lda (cs:=[u87_0,I x49.bound]) rfl Try.isAgg41 Try.sizeOf41 rfl (At.sub hat86 0 2) rfl ?_
 obtain ⟨H88b,l89,s90,z91,k92⟩:=hst.lend [_]
 refine L_call rfl Try.call73 (ops2 rfl rfl) (s_l1Mutate_c (r_:=({ b:=r_.b,p:=x41.2 } : Rd)) (c:=x49) s90 (RP.mono _ h0_0 l89) (RP.mono _ hu87_0 l89) hx59) ?_
 rintro _ w93 ⟨r93_0,rfl,hst⟩
 have hst:=k92 hst (co closed_term (cb c0))
 have hst:=hst.get 1 rfl
 obtain ⟨H95b,l96,s97,z98,k99⟩:=hst.lend [_]
 have hb100 : (rS 117 rTerm).rel H95b [r93_0] x59.1.terms:=fz_own 0 z98 rfl
 refine L_call rfl Try.call73 (ops2 rfl rfl) (s_l1Mutate_c (r_:=({ b:=r_.b,p:=x59.2 } : Rd)) (c:=x59.1) s97 (RP.mono _ h0_0 l96) hb100 hx68) ?_
 rintro _ w101 ⟨r101_0,rfl,hst⟩
 have hst:=k99 hst (co closed_term (cb c0))
 have hst:=hst.get 1 rfl
 obtain ⟨H103b,l104,s105,z106,k107⟩:=hst.lend [_]
 have hb108 : (rS 117 rTerm).rel H103b [r101_0] x68.1.terms:=fz_own 0 z106 rfl
 refine L_call rfl Try.call73 (ops2 rfl rfl) (s_l1Mutate_c (r_:=({ b:=r_.b,p:=x68.2 } : Rd)) (c:=x68.1) s105 (RP.mono _ h0_0 l104) hb108 hx77) ?_
 rintro _ w109 ⟨r109_0,rfl,hst⟩
 have hst:=k107 hst (co closed_term (cb c0))
 refine L_ixO (R:=(OR.frz (rCon 117))) (tb:=0) 0 rfl Try.underlying27 Try.sizeOf41 rfl hv85 (by first | rfl | simp) rfl hx49 ?_
 obtain ⟨H112,l113,hst,hz114⟩:=Star.freeze hst
 have hz114 : (rS 117 rTerm).rel H112 [r109_0] x77.1.terms:=hz114
 have hst:=Star.addF (r:=(rCon 117)) (cs:=[r109_0,I x77.1.bound]) (x:=x77.1) hst (rCon_iff.2 ⟨_,rfl,hz114⟩)
 have hst:=hst.gets [4,1] rfl
 refine L_stE (vs:=#[r109_0,I x77.1.bound]) rfl Try.sizeOf41 rfl rfl rfl hv85 hst hx49 (fun w111 hst=>nn ?_)
 obtain ⟨rfl,rfl⟩:=so2 hA34
 have hst:=Star.drop 2 hst rfl
 have hst:=Star.drop 2 hst rfl
 exact rj hR34 ⟨H112,l113,sf5,hst⟩
 have hA34:=(ite_f hc35).symm.trans hA34
 refine W_skip ?_
 obtain ⟨rfl,rfl⟩:=so2 hA34
 exact rj hR34 ⟨H,(Le.refl _),sf5,hst⟩
 intro f w_ hR
 obtain ⟨H32,l33,sf5,hst⟩:=rk hR34 hR
 refine sq (mF sf5 rfl (aV v11 rfl (nn (W_ret (retG1 (v1:=v11) Try.results68 rfl ?_)))))
 obtain rfl:=so hF
 exact ⟨H32,l33,v11,rfl,hst⟩
theorem s_l1Draw_c {r_ : Rd} {most : Int} {g_0 : Nat} {v0_0 : Value} {H : FH} {w : World} (hst : Star H w [box g_0 126 #[v0_0,I r_.p]]) (h0_0 : (rS 5 RP.u8).rel H [v0_0] r_.b) {r : Con × Int} (hF : s_l1Draw r_ most = some r) :
 C Try.prog 70 #[Pt g_0,I most] w fun v w'=>∃ (u1 : Value),v = .agg #[u1,I r.1.bound]∧Star H w' [oF 117 rTerm u1 r.1.terms,box g_0 126 #[v0_0,I r.2]]:=by
 unfold s_l1Draw at hF
 refine C_enter Try.func70 rfl Try.ntmps70 rfl (sq (L_al (cs:=#[S0,I 0]) rfl Try.zeroValue41 rfl hst (fun g3 w4 hst=>ns (L_bld rfl (parts0 ) (bld_41_  ) (L_al (cs:=#[S0,I 0]) rfl Try.zeroValue41 rfl hst (fun g8 w9 hst=>L_staB (vs:=#[S0,I 0]) (cs2:=#[S0,I 0]) 0 rfl Try.sizeOf41 rfl rfl rfl (ones_cons rfl (ones_cons rfl ones_nil)) hst rfl (by show 0 + 2≤2; decide) rfl (fun w10 hst=>nq (sq (aI rfl (nn ?_))))))))))
 obtain ⟨k16,hk16,hF⟩:=bind_some hF
 obtain ⟨j15,hL15,hF⟩:=bind_some hF
 obtain ⟨R15,hR15⟩:=exR fun f w_=>∃ g_0_1_12 : Int,∃ g8_0_13 : List Term,∃ v13_g8_0 : Value,j15 = .nx (g_0_1_12,g8_0_13)∧f 0 = Pt g_0∧f 4 = Pt g3∧f 5 = Pt g8∧Star H w_ ([box g_0 126 #[v0_0,I g_0_1_12],oF 117 rTerm v13_g8_0 g8_0_13,box g8 41 #[v13_g8_0,I 0],box g3 41 #[S0,I 0]])
 refine W_join R15 ?_ ?_
 refine W_block ?_
 obtain ⟨I15,hI15⟩:=exI fun n f w_=>∃ i_11 : Nat,∃ suf15 : Nat,∃ g_0_1_12 : Int,∃ g8_0_13 : List Term,∃ v13_g8_0 : Value,suf15 = n∧1≤i_11∧i_11 + suf15 = 1 + k16∧countL (s_l1Draw_b1 r_) suf15 i_11 (g_0_1_12,g8_0_13) = some j15∧f 0 = Pt g_0∧f 1 = I most∧f 4 = Pt g3∧f 5 = Pt g8∧f 6 = I i_11∧Star H w_ ([box g_0 126 #[v0_0,I g_0_1_12],oF 117 rTerm v13_g8_0 g8_0_13,box g8 41 #[v13_g8_0,I 0],box g3 41 #[S0,I 0]])
 have hst:=Star.addNil (R:=(OR.frz rTerm)) (e:=117) hst
 have hst:=hst.gets [2,2,2,3] rfl
 refine W_loop I15 (n:=k16) ?_ ?_
 exact ij hI15 ⟨1,k16,r_.p,[],S0,rfl,Nat.le_refl _,rfl,hL15,rfl,rfl,rfl,rfl,rfl,hst⟩
 intro n15 f w_ hI
 obtain ⟨i_11,suf15,g_0_1_12,g8_0_13,v13_g8_0,rfl,hs15,hl15,hL15,sf0,sf1,sf4,sf5,sf6,hst⟩:=ik hI15 hI
 refine W_seq (sq (mF sf6 rfl (mF sf1 rfl (L_leq rfl rfl rfl (nn (W_cond (b:=decide ((i_11 : Int)≤most)) rfl (fun hc18=>?_) (fun hc18=>?_)))))))
 have hlt15:=of_decide_eq_true hc18
 rcases suf15 with _ | rest15
 exact absurd hlt15 (cntF_noL hl15 hk16)
 obtain ⟨o15,hB15,hL15⟩:=count_succ hL15
 rw [s_l1Draw_b1] at hB15
 refine W_skip (W_seq (W_block (W_seq ?_)))
 obtain ⟨x24,hx24,hB15⟩:=bind_some hB15
 refine W_region (mF sf0 rfl ?_)
 obtain ⟨H26b,l27,s28,z29,k30⟩:=hst.lend [_]
 refine L_call rfl Try.call71 (ops2 rfl rfl) (s_l17Rd_pick_c (r_:=({ b:=r_.b,p:=g_0_1_12 } : Rd)) (n_:=2) s28 (RP.mono _ h0_0 l27) hx24) ?_
 rintro _ w31 ⟨rfl,hst⟩
 have hst:=k30 hst (cb c0)
 refine L_eql rfl rfl rfl (nn ?_)
 obtain ⟨⟨g_0_1_32,g8_0_33⟩,hA35,hB15⟩:=bind_some hB15
 obtain ⟨R35,hR35⟩:=exR fun f w_=>∃ v33_g8_0 : Value,f 0 = Pt g_0∧f 1 = I most∧f 4 = Pt g3∧f 5 = Pt g8∧f 6 = I i_11∧Star H w_ ([box g_0 126 #[v0_0,I g_0_1_32],oF 117 rTerm v33_g8_0 g8_0_33,box g8 41 #[v33_g8_0,I 0],box g3 41 #[S0,I 0]])
 refine W_join R35 ?_ ?_
 refine W_cond (b:=(x24.1 == 0)) rfl (fun hc36=>?_) (fun hc36=>?_)
 have hA35:=(ite_t hc36).symm.trans hA35
 refine W_seq ?_
 obtain ⟨x46,hx46,hA35⟩:=bind_some hA35
 refine W_region (mF sf0 rfl (L_bs rfl (parts7 rfl rfl rfl rfl rfl rfl rfl) (bs_105_7_0_0_0_0_0_0_0 (I 1) (I 1) (I 2) (I 3) (I 1) (I 5) (I 4) rfl rfl rfl rfl rfl rfl rfl) hst (fun g51 w52 hst=>?_)))
 have hst:=litInts [1,1,2,3,1,5,4] 7 hst rfl rfl (by decide)
 have hst:=hst.get 1 rfl
 obtain ⟨H54b,l55,s56,z57,k58⟩:=hst.lend [_]
 have hb59 : (rS 3 RP.int).rel H54b [(Sl g51 7 7)] ([1,1,2,3,1,5,4]):=fz_own 0 z57 rfl
 refine L_call rfl Try.call110 (ops2 rfl rfl) (s_l17Rd_num_c (r_:=({ b:=r_.b,p:=x24.2 } : Rd)) (list:=[1,1,2,3,1,5,4]) s56 (RP.mono _ h0_0 l55) hb59 hx46) ?_
 rintro _ w60 ⟨rfl,hst⟩
 have hst:=k58 hst (cb c0)
 refine mF sf6 rfl (L_bld rfl (parts2 rfl rfl) (bld_117_0_1 (I x46.1) (I i_11) rfl rfl) (L_al (cs:=#[I 0,I 0]) rfl Try.zeroValue117 rfl hst (fun g61 w62 hst=>L_staB (vs:=#[I x46.1,I i_11]) (cs2:=#[I x46.1,I i_11]) 0 rfl Try.sizeOf117 rfl rfl rfl (ones_cons rfl (ones_cons rfl ones_nil)) hst rfl (by show 0 + 2≤2; decide) rfl (fun w63 hst=>nq (W_seq ?_)))))
 obtain ⟨x69,hx69,hA35⟩:=bind_some hA35
 refine W_region (mF sf0 rfl ?_)
 have hst:=hst.get 1 rfl
 obtain ⟨H71b,l72,s73,z74,k75⟩:=hst.lend [_]
 refine L_call rfl Try.call71 (ops2 rfl rfl) (s_l17Rd_pick_c (r_:=({ b:=r_.b,p:=x46.2 } : Rd)) (n_:=2) s73 (RP.mono _ h0_0 l72) hx69) ?_
 rintro _ w76 ⟨rfl,hst⟩
 have hst:=k75 hst (cb c0)
 refine L_eql rfl rfl rfl (nn ?_)
 obtain ⟨g61_1_77,hA78,hA35⟩:=bind_some hA35
 obtain ⟨R78,hR78⟩:=exR fun f w_=>f 0 = Pt g_0∧f 1 = I most∧f 4 = Pt g3∧f 5 = Pt g8∧f 6 = I i_11∧f 7 = Pt g61∧Star H w_ ([box g_0 126 #[v0_0,I x69.2],box g61 117 #[I x46.1,I g61_1_77],oF 117 rTerm v13_g8_0 g8_0_13,box g8 41 #[v13_g8_0,I 0],box g3 41 #[S0,I 0]])
 refine W_join R78 ?_ ?_
 refine W_cond (b:=(x69.1 == 0)) rfl (fun hc79=>?_) (fun hc79=>?_)
 have hA78:=(ite_t hc79).symm.trans hA78
 refine W_region (mF sf6 rfl (L_neg rfl rfl (fA 1 fa_117_1 rfl rfl (L_stB (v:=I (i64 (-(i_11 : Int)))) (cs2:=#[I x46.1,I (i64 (-(i_11 : Int)))]) 1 rfl Try.sizeOf3 rfl rfl rfl hst rfl rfl rfl (fun w81 hst=>nn ?_)))))
 obtain rfl:=so hA78
 have hst:=hst.gets [5,5,5,3,4] rfl
 exact rj hR78 ⟨sf0,sf1,sf4,sf5,sf6,rfl,(Star.keepN 5 hst)⟩
 have hA78:=(ite_f hc79).symm.trans hA78
 refine W_skip ?_
 obtain rfl:=so hA78
 have hst:=hst.gets [5,5,5,4,4] rfl
 exact rj hR78 ⟨sf0,sf1,sf4,sf5,sf6,rfl,(Star.keepN 5 hst)⟩
 intro f w_ hR
 obtain ⟨sf0,sf1,sf4,sf5,sf6,sf7,hst⟩:=rk hR78 hR
 obtain ⟨x85,hx85,hA35⟩:=bind_some hA35
 refine W_region (fA 0 fa_41_0 sf5 rfl (ldB 3 hst Try.isAgg39 rfl rfl rfl (L_lda (cs:=[I x46.1,I g61_1_77]) rfl Try.isAgg117 Try.sizeOf117 sf7 (At.sub0 (Blk.at (Star.blkAt 1 hst rfl)) 0 2) rfl (L_bs rfl (parts1 rfl) (bs_39_1_2 (I x46.1) (I g61_1_77) ) hst (fun g90 w91 hst=>?_)))))
 have hst:=Star.addF (r:=rTerm) (cs:=[I x46.1,I g61_1_77]) (x:=({ coef:=x46.1,lit:=g61_1_77 } : Term)) hst (rTerm_iff.2 rfl)
 have hst:=Star.mkRow (R:=(OR.frz rTerm)) [([I x46.1,I g61_1_77],({ coef:=x46.1,lit:=g61_1_77 } : Term))] [({ coef:=x46.1,lit:=g61_1_77 } : Term)] 1 hst rfl rfl rfl (by decide)
 have hst:=hst.get 3 rfl
 refine L_appM (v:=v13_g8_0) (u:=(Sl g90 1 1)) rfl et_39 rfl rfl hst hx85 (fun v93 w94 hst=>fA 0 fa_41_0 sf5 rfl (L_stB (v:=v93) (cs2:=#[v93,I 0]) 3 rfl Try.sizeOf39 rfl rfl (one_len (Star.len 0 hst rfl)) hst rfl rfl rfl (fun w96 hst=>nn ?_)))
 obtain ⟨rfl,rfl⟩:=so2 hA35
 have hst:=hst.gets [4,1,2,3] rfl
 exact rj hR35 ⟨v93,sf0,sf1,sf4,sf5,sf6,(Star.keepN 4 hst)⟩
 have hA35:=(ite_f hc36).symm.trans hA35
 refine W_skip ?_
 obtain ⟨rfl,rfl⟩:=so2 hA35
 exact rj hR35 ⟨v13_g8_0,sf0,sf1,sf4,sf5,sf6,hst⟩
 intro f w_ hR
 obtain ⟨v33_g8_0,sf0,sf1,sf4,sf5,sf6,hst⟩:=rk hR35 hR
 refine W_region (mF sf6 rfl (L_add rfl rfl rfl (aI rfl (nn ?_))))
 obtain rfl:=so hB15
 show ∃ m,m < _∧I15 m _ _
 refine ⟨rest15,Nat.lt_succ_self _,?_⟩
 exact ij hI15 ⟨i_11 + 1,rest15,g_0_1_32,g8_0_33,v33_g8_0,rfl,by omega,by omega,hL15,sf0,sf1,sf4,sf5,(Eq.trans rfl (congrArg (Value.int .i64) (i64_succ (n:=1 + k16) (by omega) (cntF_le hk16)))),hst⟩
 rcases suf15 with _ | _
 obtain rfl:=count_zero hL15
 refine W_exit (rj hR15 ⟨g_0_1_12,g8_0_13,v13_g8_0,rfl,sf0,sf4,sf5,hst⟩)
 exact absurd (cntF_yesL hs15 hl15 hk16) (of_decide_eq_false hc18)
 intro f w_ hR
 obtain ⟨g_0_1_12,g8_0_13,v13_g8_0,rfl,sf0,sf4,sf5,hst⟩:=rk hR15 hR
 refine W_seq ?_
 obtain ⟨x103,hx103,hF⟩:=bind_some hF
 refine W_region (L_lda (cs:=[v13_g8_0,I 0]) rfl Try.isAgg41 Try.sizeOf41 sf5 (At.sub0 (Blk.at (Star.blkAt 2 hst rfl)) 0 2) rfl ?_)
 obtain ⟨H105b,l106,s107,z108,k109⟩:=hst.borrow
 have hb110 : (rS 117 rTerm).rel H105b [v13_g8_0] g8_0_13:=fz_own 1 z108 rfl
 refine L_call rfl Try.call111 (ops1 rfl) (s_l1Total_c (c:=({ terms:=g8_0_13,bound:=0 } : Con)) s107 hb110 hx103) ?_
 rintro _ w111 ⟨rfl,hst⟩
 have hst:=k109 hst c0
 refine aI rfl (nq ?_)
 obtain ⟨x121,hx121,hF⟩:=bind_some hF
 refine W_region (mF sf0 rfl (L_bs rfl (parts5 rfl rfl rfl rfl rfl) (bs_105_5_0_0_0_0_0 (I 1) (I 2) (I 1) (I 3) (I 0) rfl rfl rfl rfl rfl) hst (fun g124 w125 hst=>?_)))
 have hst:=litInts [1,2,1,3,0] 5 hst rfl rfl (by decide)
 have hst:=hst.get 1 rfl
 obtain ⟨H127b,l128,s129,z130,k131⟩:=hst.lend [_]
 have hb132 : (rS 3 RP.int).rel H127b [(Sl g124 5 5)] ([1,2,1,3,0]):=fz_own 0 z130 rfl
 refine L_call rfl Try.call110 (ops2 rfl rfl) (s_l17Rd_num_c (r_:=({ b:=r_.b,p:=g_0_1_12 } : Rd)) (list:=[1,2,1,3,0]) s129 (RP.mono _ h0_0 l128) hb132 hx121) ?_
 rintro _ w133 ⟨rfl,hst⟩
 have hst:=k131 hst (cb c0)
 refine fA 1 fa_41_1 sf5 rfl (L_stB (v:=I x121.1) (cs2:=#[v13_g8_0,I x121.1]) 3 rfl Try.sizeOf3 rfl rfl rfl hst rfl rfl rfl (fun w134 hst=>nq (W_seq ?_)))
 obtain ⟨x140,hx140,hF⟩:=bind_some hF
 refine W_region (mF sf0 rfl ?_)
 have hst:=hst.get 1 rfl
 obtain ⟨H142b,l143,s144,z145,k146⟩:=hst.lend [_]
 refine L_call rfl Try.call71 (ops2 rfl rfl) (s_l17Rd_pick_c (r_:=({ b:=r_.b,p:=x121.2 } : Rd)) (n_:=4) s144 (RP.mono _ h0_0 l143) hx140) ?_
 rintro _ w147 ⟨rfl,hst⟩
 have hst:=k146 hst (cb c0)
 refine L_eql rfl rfl rfl (nn ?_)
 obtain ⟨⟨g_0_1_148,g8_1_149⟩,hA150,hF⟩:=bind_some hF
 obtain ⟨R150,hR150⟩:=exR fun f w_=>f 4 = Pt g3∧f 5 = Pt g8∧Star H w_ ([box g_0 126 #[v0_0,I g_0_1_148],oF 117 rTerm v13_g8_0 g8_0_13,box g8 41 #[v13_g8_0,I g8_1_149],box g3 41 #[S0,I 0]])
 refine W_join R150 ?_ ?_
 refine W_cond (b:=(x140.1 == 0)) rfl (fun hc151=>?_) (fun hc151=>?_)
 have hA150:=(ite_t hc151).symm.trans hA150
 obtain ⟨x157,hx157,hA150⟩:=bind_some hA150
 refine W_region (mF sf0 rfl (mI rfl (L_add rfl rfl rfl ?_)))
 obtain ⟨H160b,l161,s162,z163,k164⟩:=hst.lend [_]
 refine L_call rfl Try.call71 (ops2 rfl rfl) (s_l17Rd_pick_c (r_:=({ b:=r_.b,p:=x140.2 } : Rd)) (n_:=i64 (x103 + 2)) s162 (RP.mono _ h0_0 l161) hx157) ?_
 rintro _ w165 ⟨rfl,hst⟩
 have hst:=k164 hst (cb c0)
 refine fA 1 fa_41_1 sf5 rfl (L_stB (v:=I x157.1) (cs2:=#[v13_g8_0,I x157.1]) 1 rfl Try.sizeOf3 rfl rfl rfl hst rfl rfl rfl (fun w166 hst=>nn ?_))
 obtain ⟨rfl,rfl⟩:=so2 hA150
 have hst:=hst.gets [4,1,4,3] rfl
 exact rj hR150 ⟨sf4,sf5,(Star.keepN 4 hst)⟩
 have hA150:=(ite_f hc151).symm.trans hA150
 refine W_skip ?_
 obtain ⟨rfl,rfl⟩:=so2 hA150
 have hst:=hst.gets [4,2,4,3] rfl
 exact rj hR150 ⟨sf4,sf5,(Star.keepN 4 hst)⟩
 intro f w_ hR
 obtain ⟨sf4,sf5,hst⟩:=rk hR150 hR
 refine sq (L_lda (cs:=[v13_g8_0,I g8_1_149]) rfl Try.isAgg41 Try.sizeOf41 sf5 (At.sub0 (Blk.at (Star.blkAt 2 hst rfl)) 0 2) rfl (L_staB (vs:=#[v13_g8_0,I g8_1_149]) (cs2:=#[v13_g8_0,I g8_1_149]) 3 rfl Try.sizeOf41 sf4 rfl rfl (ones_cons (one_len (Star.len 1 hst rfl)) (ones_cons rfl ones_nil)) hst rfl (by show 0 + 2≤2; decide) rfl (fun w168 hst=>nn (W_ret (retG1 (v1:=.agg #[v13_g8_0,I g8_1_149]) Try.results70 (resV_agg Try.isAgg41 Try.sizeOf41 sf4 (Star.blkAt 0 hst rfl) rfl) ?_)))))
 obtain rfl:=so hF
 have hst:=hst.gets [1,2] rfl
 exact ⟨v13_g8_0,rfl,(Star.keepN 2 hst)⟩
theorem s_l3Problem_c {fu : Nat} {r_ : Rd} {g_0 : Nat} {v0_0 : Value} {H : FH} {w : World} (hst : Star H w [box g_0 126 #[v0_0,I r_.p]]) (h0_0 : (rS 5 RP.u8).rel H [v0_0] r_.b) {r : (List Con) × Int} (hF : s_l3Problem fu r_ = some r) :
 C Try.prog 69 #[Pt g_0] w fun v w'=>∃ (u1 : Value),v = u1∧Star H w' [oS 41 (oCon 117) u1 r.1,box g_0 126 #[v0_0,I r.2]]:=by
 unfold s_l3Problem at hF
 refine C_enter Try.func69 rfl Try.ntmps69 rfl (sq (aV S0 rfl (ns (L_bs rfl parts0 (bs_27_0  ) hst (fun g4 w5 hst=>?_)))))
 have hst:=Star.mkRow (R:=(OR.frz (rCon 117))) [] [] 0 hst rfl rfl rfl (by decide)
 refine aV (Sl g4 0 0) rfl (nq ?_)
 obtain ⟨x16,hx16,hF⟩:=bind_some hF
 refine W_region (mV (Pt g_0) rfl (L_bs rfl (parts4 rfl rfl rfl rfl) (bs_105_4_0_0_0_0 (I 4) (I 5) (I 3) (I 6) rfl rfl rfl rfl) hst (fun g18 w19 hst=>?_)))
 have hst:=litInts [4,5,3,6] 4 hst rfl rfl (by decide)
 have hst:=hst.get 2 rfl
 obtain ⟨H21b,l22,s23,z24,k25⟩:=hst.lend [_]
 have hb26 : (rS 3 RP.int).rel H21b [(Sl g18 4 4)] ([4,5,3,6]):=fz_own 0 z24 rfl
 refine L_call rfl Try.call110 (ops2 rfl rfl) (s_l17Rd_num_c (r_:=r_) (list:=[4,5,3,6]) s23 (RP.mono _ h0_0 l22) hb26 hx16) ?_
 rintro _ w27 ⟨rfl,hst⟩
 have hst:=k25 hst (cb c0)
 refine aI rfl (nq (W_seq ?_))
 obtain ⟨x37,hx37,hF⟩:=bind_some hF
 refine W_region (mV (Pt g_0) rfl (L_bs rfl (parts7 rfl rfl rfl rfl rfl rfl rfl) (bs_105_7_0_0_0_0_0_0_0 (I 4) (I 6) (I 3) (I 8) (I 2) (I 1) (I 0) rfl rfl rfl rfl rfl rfl rfl) hst (fun g39 w40 hst=>?_)))
 have hst:=litInts [4,6,3,8,2,1,0] 7 hst rfl rfl (by decide)
 have hst:=hst.get 1 rfl
 obtain ⟨H42b,l43,s44,z45,k46⟩:=hst.lend [_]
 have hb47 : (rS 3 RP.int).rel H42b [(Sl g39 7 7)] ([4,6,3,8,2,1,0]):=fz_own 0 z45 rfl
 refine L_call rfl Try.call110 (ops2 rfl rfl) (s_l17Rd_num_c (r_:=({ b:=r_.b,p:=x16.2 } : Rd)) (list:=[4,6,3,8,2,1,0]) s44 (RP.mono _ h0_0 l43) hb47 hx37) ?_
 rintro _ w48 ⟨rfl,hst⟩
 have hst:=k46 hst (cb c0)
 refine aI rfl (nn ?_)
 obtain ⟨j54,hL54,hF⟩:=bind_some hF
 obtain ⟨R54,hR54⟩:=exR fun f w_=>∃ out_50 : List Con,∃ i_52 : Int,∃ g_0_1_53 : Int,∃ v50_out : Value,j54 = .nx (out_50,i_52,g_0_1_53)∧f 3 = v50_out∧Star H w_ ([oS 41 (oCon 117) v50_out out_50,box g_0 126 #[v0_0,I g_0_1_53]])
 refine W_join R54 ?_ ?_
 refine W_block ?_
 obtain ⟨I54,hI54⟩:=exI fun n f w_=>∃ out_50 : List Con,∃ i_52 : Int,∃ g_0_1_53 : Int,∃ v50_out : Value,whileL (s_l3Problem_b1 r_ x16) n (out_50,i_52,g_0_1_53) = some j54∧f 0 = Pt g_0∧f 3 = v50_out∧f 4 = I x16.1∧f 5 = I i_52∧Star H w_ ([oS 41 (oCon 117) v50_out out_50,box g_0 126 #[v0_0,I g_0_1_53]])
 have hst:=hst.get 3 rfl
 have hst:=Star.recast (R:=(OR.frz (rCon 117))) (R':=(oCon 117)) rfl hst
 refine W_loop I54 (n:=fu) ?_ ?_
 exact ij hI54 ⟨[],x37.1,x37.2,(Sl g4 0 0),hL54,rfl,rfl,rfl,rfl,(Star.keepN 2 hst)⟩
 intro n54 f w_ hI
 obtain ⟨out_50,i_52,g_0_1_53,v50_out,hL54,sf0,sf3,sf4,sf5,hst⟩:=ik hI54 hI
 rcases n54 with _ | n54
 exact (while_zero hL54).elim
 obtain ⟨o54,hB54,hL54⟩:=while_succ hL54
 rw [s_l3Problem_b1] at hB54
 refine W_seq (sq (mF sf5 rfl (L_gtr rfl rfl rfl (nn (W_cond (b:=decide (i_52 > 0)) rfl (fun hc55=>?_) (fun hc55=>?_))))))
 have hB54:=(ite_t hc55).symm.trans hB54
 refine W_skip (W_seq (W_block ?_))
 obtain ⟨x61,hx61,hB54⟩:=bind_some hB54
 obtain ⟨x67,hx67,hB54⟩:=bind_some hB54
 refine W_region (mF sf3 rfl (mF sf0 rfl (mF sf4 rfl ?_)))
 have hst:=hst.get 1 rfl
 obtain ⟨H71b,l72,s73,z74,k75⟩:=hst.lend [_]
 refine L_call rfl Try.call70 (ops2 rfl rfl) (s_l1Draw_c (r_:=({ b:=r_.b,p:=g_0_1_53 } : Rd)) (most:=x16.1) s73 (RP.mono _ h0_0 l72) hx61) ?_
 rintro _ w76 ⟨r76_0,rfl,hst⟩
 have hst:=k75 hst (co closed_term (cb c0))
 refine L_bs rfl (parts1 rfl) (bs_27_1_2 (r76_0) (I x61.1.bound) ) hst (fun g78 w79 hst=>?_)
 have hst:=hst.get 1 rfl
 have hst:=oCon_close (c:=x61.1) hst
 have hst:=Star.mkRow (R:=(oCon 117)) [([r76_0,I x61.1.bound],x61.1)] [x61.1] 1 hst rfl rfl rfl (by decide)
 have hst:=hst.get 2 rfl
 refine L_appM (v:=v50_out) (u:=(Sl g78 1 1)) rfl et_27 rfl rfl hst hx67 (fun v81 w82 hst=>aV v81 rfl (nn (W_region (mF sf5 rfl (L_sub rfl rfl rfl (aI rfl (nn ?_)))))))
 obtain rfl:=so hB54
 show ∃ m,m < _∧I54 m _ _
 refine ⟨n54,Nat.lt_succ_self _,?_⟩
 exact ij hI54 ⟨x67,i64 (i_52 - 1),x61.2,v81,hL54,sf0,rfl,sf4,rfl,hst⟩
 have hB54:=(ite_f hc55).symm.trans hB54
 refine W_exit ?_
 obtain rfl:=so hB54
 obtain rfl:=so hL54
 exact rj hR54 ⟨out_50,i_52,g_0_1_53,v50_out,rfl,sf3,hst⟩
 intro f w_ hR
 obtain ⟨out_50,i_52,g_0_1_53,v50_out,rfl,sf3,hst⟩:=rk hR54 hR
 refine sq (mF sf3 rfl (aV v50_out rfl (nn (W_ret (retG1 (v1:=v50_out) Try.results69 rfl ?_)))))
 obtain rfl:=so hF
 exact ⟨v50_out,rfl,hst⟩
theorem s_RunProof_c {fu : Nat} {list : List Con} {steps : List Step} {v0 : Value} {v1 : Value} {H : FH} {w : World} (hst : Star H w []) (h0 : (rS 41 (rCon 117)).rel H [v0] list) (h1 : (rS 63 (rStep 117)).rel H [v1] steps) {r : (List Con) × Int} (hF : s_RunProof fu list steps = some r) :
 C Try.prog 35 #[v0,v1] w fun v w'=>∃ (u1 : Value),v = .tuple #[u1,I r.2]∧Star H w' [oS 41 (oCon 117) u1 r.1]:=by
 unfold s_RunProof at hF
 refine C_enter Try.func35 rfl Try.ntmps35 rfl (sq (aV S0 rfl (aI rfl (nq (W_seq ?_)))))
 obtain ⟨x6,hx6,hF⟩:=bind_some hF
 refine W_region (mV v0 rfl (mV v1 rfl ?_))
 obtain ⟨H8b,l9,s10,z11,k12⟩:=hst.borrow
 refine L_call rfl Try.call49 (ops2 rfl rfl) (s_l4Fits_c (list:=list) (steps:=steps) s10 (RP.mono _ h0 l9) (RP.mono _ h1 l9) hx6) ?_
 rintro _ w13 ⟨rfl,hst⟩
 have hst:=k12 hst c0
 refine L_not_ rfl rfl (nn (W_cond (b:=(!x6)) rfl (fun hc14=>?_) (fun hc14=>?_)))
 have hF:=(ite_t hc14).symm.trans hF
 refine sq (L_bs rfl parts0 (bs_27_0  ) hst (fun g18 w19 hst=>?_))
 have hst:=Star.mkRow (R:=(OR.frz (rCon 117))) [] [] 0 hst rfl rfl rfl (by decide)
 refine aV (Sl g18 0 0) rfl (aI rfl (nn (W_ret (retG2 (v1:=(Sl g18 0 0)) (v2:=I 0) Try.results35 rfl rfl ?_))))
 obtain rfl:=so hF
 have hst:=Star.recast (R:=(OR.frz (rCon 117))) (R':=(oCon 117)) rfl hst
 exact ⟨(Sl g18 0 0),rfl,hst⟩
 have hF:=(ite_f hc14).symm.trans hF
 refine W_skip (W_seq ?_)
 obtain ⟨x21,hx21,hF⟩:=bind_some hF
 refine W_region (mV v0 rfl (mV v1 rfl (L_call rfl Try.call50 (ops2 rfl rfl) (s_l4Run_c (list:=list) (steps:=steps) hst h0 h1 hx21) ?_)))
 rintro _ w28 ⟨H28,l28,r28_0,r28_1,rfl,hst⟩
 refine mV (.tuple #[.agg #[r28_0,r28_1],I x21.2]) rfl (L_ex (v:=.agg #[r28_0,r28_1]) rfl rfl rfl (L_ex (v:=I x21.2) rfl rfl rfl (L_al (cs:=#[S0,S0]) rfl Try.zeroValue73 rfl hst (fun g31 w32 hst=>L_staB (vs:=#[r28_0,r28_1]) (cs2:=#[r28_0,r28_1]) 0 rfl Try.sizeOf73 rfl rfl rfl (ones_cons (one_len (Star.len 1 hst rfl)) (ones_cons (one_len (Star.len 2 hst rfl)) ones_nil)) hst rfl (by show 0 + 2≤2; decide) rfl (fun w33 hst=>aI rfl (nq (sq (mI rfl (L_geq rfl rfl rfl (nn (W_cond (b:=decide (x21.2 ≥ 0)) rfl (fun hc34=>?_) (fun hc34=>?_))))))))))))
 have hF:=(ite_t hc34).symm.trans hF
 refine sq (L_bs rfl parts0 (bs_27_0  ) hst (fun g38 w39 hst=>?_))
 have hst:=Star.mkRow (R:=(OR.frz (rCon 117))) [] [] 0 hst rfl rfl rfl (by decide)
 refine mI rfl (aV (Sl g38 0 0) rfl (aI rfl (nn (W_ret (retG2 (v1:=(Sl g38 0 0)) (v2:=I x21.2) Try.results35 rfl rfl ?_)))))
 obtain rfl:=so hF
 have hst:=Star.recast (R:=(OR.frz (rCon 117))) (R':=(oCon 117)) rfl hst
 exact ⟨(Sl g38 0 0),rfl,(Star.down (Star.keepN 1 hst) l28 (co closed_oCon c0))⟩
 have hF:=(ite_f hc34).symm.trans hF
 refine W_skip (sq (L_bs rfl parts0 (bs_27_0  ) hst (fun g44 w45 hst=>?_)))
 have hst:=Star.mkRow (R:=(OR.frz (rCon 117))) [] [] 0 hst rfl rfl rfl (by decide)
 refine aV (Sl g44 0 0) rfl (nq ?_)
 obtain ⟨x53,hx53,hF⟩:=bind_some hF
 refine W_region (L_lda (cs:=[r28_0,r28_1]) rfl Try.isAgg73 Try.sizeOf73 rfl (At.sub0 (Blk.at (Star.blkAt 1 hst rfl)) 0 2) rfl ?_)
 have hst:=hst.get 2 rfl
 obtain ⟨H56,l57,hst,hz58⟩:=Star.freeze hst
 have hz58 : (rS 41 (rCon 117)).rel H56 [r28_0] x21.1.list:=hz58
 have hst:=hst.get 2 rfl
 obtain ⟨H59,l60,hst,hz61⟩:=Star.freeze hst
 have hz61 : (rS 4 RP.bool).rel H59 [r28_1] x21.1.gone:=hz61
 refine L_call rfl Try.call57 (ops1 rfl) (s_l4Kept_c (d:=x21.1) hst (RP.mono _ hz58 l60) hz61 hx53) ?_
 rintro r62_0 w62 ⟨H62,l62,_,rfl,hst⟩
 refine aV r62_0 rfl (nq (sq (aI rfl (nn ?_))))
 have hlen67 : List.length x53≤9223372036854775807:=len_le (Star.len 0 hst rfl)
 obtain ⟨j67,hL67,hF⟩:=bind_some hF
 obtain ⟨R67,hR67⟩:=exR fun f w_=>∃ out_65 : List Con,∃ v65_out : Value,j67 = .nx out_65∧f 8 = v65_out∧Star H62 w_ ([oS 41 (oCon 117) v65_out out_65])
 refine W_join R67 ?_ ?_
 refine W_block ?_
 obtain ⟨I67,hI67⟩:=exI fun n f w_=>∃ i_64 : Nat,∃ suf67 : List Con,∃ out_65 : List Con,∃ v65_out : Value,n = suf67.length∧List.drop i_64 x53 = suf67∧i_64 + suf67.length = x53.length∧rangeL s_RunProof_b1 suf67 i_64 out_65 = some j67∧f 8 = v65_out∧f 9 = r62_0∧f 10 = I i_64∧Star H62 w_ ([oS 41 (oCon 117) v65_out out_65,oF 41 (rCon 117) r62_0 x53])
 have hst:=hst.get 1 rfl
 have hst:=Star.recast (R:=(OR.frz (rCon 117))) (R':=(oCon 117)) rfl hst
 refine W_loop I67 (n:=x53.length) ?_ ?_
 exact ij hI67 ⟨0,x53,[],(Sl g44 0 0),rfl,rfl,Nat.zero_add _,hL67,rfl,rfl,rfl,(Star.keepN 2 hst)⟩
 intro n67 f w_ hI
 obtain ⟨i_64,suf67,out_65,v65_out,rfl,hd67,hl67,hL67,sf8,sf9,sf10,hst⟩:=ik hI67 hI
 refine W_seq (sq (mF sf10 rfl (mF sf9 rfl (L_len rfl Try.underlying27 rfl (Star.len 1 hst rfl) (L_lss rfl rfl rfl (nn (W_cond (b:=decide ((i_64 : Int) < (x53.length : Int))) rfl (fun hc68=>?_) (fun hc68=>?_))))))))
 have hlt67:=of_decide_eq_true hc68
 rcases suf67 with _ | ⟨x_67,rest67⟩
 exact absurd hlt67 (by simp at hl67; omega)
 obtain ⟨o67,hB67,hL67⟩:=range_cons hL67
 rw [s_RunProof_b1] at hB67
 have hix67:=drop_idx hd67
 refine W_skip (W_seq (W_block ?_))
 obtain ⟨x78,hx78,hB67⟩:=bind_some hB67
 obtain ⟨x84,hx84,hB67⟩:=bind_some hB67
 refine W_region (mF sf8 rfl (mF sf9 rfl (mF sf10 rfl ?_)))
 obtain ⟨g88,cap_g88,hv89,_,_⟩:=Star.row 1 hst rfl hix67
 refine L_ixO (R:=(OR.frz (rCon 117))) (tb:=0) 0 rfl Try.underlying27 Try.sizeOf41 rfl hv89 (by first | rfl | simp) rfl hix67 ?_
 obtain ⟨cs90,hr90,hat90⟩:=Star.eltF 1 hst rfl hv89 hix67
 obtain ⟨u91_0,rfl,hu91_0⟩:=rCon_iff.1 hr90
 refine L_lda (cs:=[u91_0,I x_67.bound]) rfl Try.isAgg41 Try.sizeOf41 rfl (At.sub hat90 0 2) rfl ?_
 obtain ⟨H92b,l93,s94,z95,k96⟩:=hst.borrow
 refine L_call rfl Try.call81 (ops1 rfl) (s_l1Copy_c (c:=x_67) s94 (RP.mono _ hu91_0 l93) hx78) ?_
 rintro _ w97 ⟨r97_0,rfl,hst⟩
 have hst:=k96 hst (co closed_term c0)
 refine L_bs rfl (parts1 rfl) (bs_27_1_2 (r97_0) (I x78.bound) ) hst (fun g99 w100 hst=>?_)
 have hst:=hst.get 1 rfl
 have hst:=oCon_close (c:=x78) hst
 have hst:=Star.mkRow (R:=(oCon 117)) [([r97_0,I x78.bound],x78)] [x78] 1 hst rfl rfl rfl (by decide)
 have hst:=hst.get 1 rfl
 refine L_appM (v:=v65_out) (u:=(Sl g99 1 1)) rfl et_27 rfl rfl hst hx84 (fun v102 w103 hst=>aV v102 rfl (nn (W_region (mF sf10 rfl (L_add rfl rfl rfl (aI rfl (nn ?_)))))))
 obtain rfl:=so hB67
 show ∃ m,m < _∧I67 m _ _
 refine ⟨rest67.length,by simp,?_⟩
 exact ij hI67 ⟨i_64 + 1,rest67,x84,v102,rfl,drop_next hd67,by simp at hl67; omega,hL67,rfl,sf9,(Eq.trans rfl (congrArg (Value.int .i64) (i64_succ (n:=x53.length) (by simp at hl67; omega) hlen67))),hst⟩
 rcases suf67 with _ | ⟨_,_⟩
 obtain rfl:=range_nil hL67
 refine W_exit (rj hR67 ⟨out_65,v65_out,rfl,sf8,(Star.keepN 1 hst)⟩)
 exact absurd (of_decide_eq_false hc68) (by simp at hl67; omega)
 intro f w_ hR
 obtain ⟨out_65,v65_out,rfl,sf8,hst⟩:=rk hR67 hR
 refine sq (mF sf8 rfl (aV v65_out rfl (aI rfl (nn (W_ret (retG2 (v1:=v65_out) (v2:=I (-1)) Try.results35 rfl rfl ?_))))))
 obtain rfl:=so hF
 exact ⟨v65_out,rfl,(Star.down hst (Le.trans (Le.trans (Le.trans l28 l57) l60) l62) (co closed_oCon c0))⟩
theorem s_l4Step_c {r_ : Rd} {n_ : Int} {g_0 : Nat} {v0_0 : Value} {H : FH} {w : World} (hst : Star H w [box g_0 126 #[v0_0,I r_.p]]) (h0_0 : (rS 5 RP.u8).rel H [v0_0] r_.b) {r : Step × Int} (hF : s_l4Step r_ n_ = some r) :
 C Try.prog 142 #[Pt g_0,I n_] w fun v w'=>∃ (u1 : Value),v = .agg #[I r.1.kind,I r.1.a,I r.1.b,u1,I r.1.given.bound]∧Star H w' [oF 117 rTerm u1 r.1.given.terms,box g_0 126 #[v0_0,I r.2]]:=by
 unfold s_l4Step at hF
 refine C_enter Try.func142 rfl Try.ntmps142 rfl (sq (L_al (cs:=#[I 0,I 0,I 0,S0,I 0]) rfl Try.zeroValue63 rfl hst (fun g3 w4 hst=>nq ?_)))
 obtain ⟨x14,hx14,hF⟩:=bind_some hF
 refine W_region (mV (Pt g_0) rfl (L_bs rfl (parts9 rfl rfl rfl rfl rfl rfl rfl rfl rfl) (bs_105_9_0_0_0_0_0_0_0_0_0 (I 1) (I 1) (I 5) (I 4) (I 3) (I 2) (I 6) (I 7) (I 8) rfl rfl rfl rfl rfl rfl rfl rfl rfl) hst (fun g19 w20 hst=>?_)))
 have hst:=litInts [1,1,5,4,3,2,6,7,8] 9 hst rfl rfl (by decide)
 have hst:=hst.get 2 rfl
 obtain ⟨H22b,l23,s24,z25,k26⟩:=hst.lend [_]
 have hb27 : (rS 3 RP.int).rel H22b [(Sl g19 9 9)] ([1,1,5,4,3,2,6,7,8]):=fz_own 0 z25 rfl
 refine L_call rfl Try.call110 (ops2 rfl rfl) (s_l17Rd_num_c (r_:=r_) (list:=[1,1,5,4,3,2,6,7,8]) s24 (RP.mono _ h0_0 l23) hb27 hx14) ?_
 rintro _ w28 ⟨rfl,hst⟩
 have hst:=k26 hst (cb c0)
 refine L_bld rfl (parts1 rfl) (bld_63_0 (I x14.1) rfl) (L_al (cs:=#[I 0,I 0,I 0,S0,I 0]) rfl Try.zeroValue63 rfl hst (fun g29 w30 hst=>L_staB (vs:=#[I x14.1,I 0,I 0,S0,I 0]) (cs2:=#[I x14.1,I 0,I 0,S0,I 0]) 0 rfl Try.sizeOf63 rfl rfl rfl (ones_cons rfl (ones_cons rfl (ones_cons rfl (ones_cons rfl (ones_cons rfl ones_nil))))) hst rfl (by show 0 + 5≤5; decide) rfl (fun w31 hst=>nq (sq (fA 0 fa_63_0 rfl rfl (ldB 0 hst Try.isAgg3 rfl rfl rfl (nn (W_block (sq (L_eql rfl rfl rfl (aB rfl (nn (W_cond (b:=(x14.1 == 6)) rfl (fun hc32=>?_) (fun hc32=>?_))))))))))))))
 have hF:=(ite_t hc32).symm.trans hF
 refine W_seq ?_
 obtain ⟨x42,hx42,hF⟩:=bind_some hF
 refine W_region (mV (Pt g_0) rfl (L_bs rfl (parts5 rfl rfl rfl rfl rfl) (bs_105_5_0_0_0_0_0 (I 1) (I (-1)) (I 2) (I (-3)) (I 4) rfl rfl rfl rfl rfl) hst (fun g45 w46 hst=>?_)))
 have hst:=litInts [1,(-1),2,(-3),4] 5 hst rfl rfl (by decide)
 have hst:=hst.get 2 rfl
 obtain ⟨H48b,l49,s50,z51,k52⟩:=hst.lend [_]
 have hb53 : (rS 3 RP.int).rel H48b [(Sl g45 5 5)] ([1,(-1),2,(-3),4]):=fz_own 0 z51 rfl
 refine L_call rfl Try.call110 (ops2 rfl rfl) (s_l17Rd_num_c (r_:=({ b:=r_.b,p:=x14.2 } : Rd)) (list:=[1,(-1),2,(-3),4]) s50 (RP.mono _ h0_0 l49) hb53 hx42) ?_
 rintro _ w54 ⟨rfl,hst⟩
 have hst:=k52 hst (cb c0)
 refine fA 1 fa_63_1 rfl rfl (L_stB (v:=I x42.1) (cs2:=#[I x14.1,I x42.1,I 0,S0,I 0]) 2 rfl Try.sizeOf3 rfl rfl rfl hst rfl rfl rfl (fun w55 hst=>ns (L_lda (cs:=[I x14.1,I x42.1,I 0,S0,I 0]) rfl Try.isAgg63 Try.sizeOf63 rfl (At.sub0 (Blk.at (Star.blkAt 0 hst rfl)) 0 5) rfl (L_staB (vs:=#[I x14.1,I x42.1,I 0,S0,I 0]) (cs2:=#[I x14.1,I x42.1,I 0,S0,I 0]) 4 rfl Try.sizeOf63 rfl rfl rfl (ones_cons rfl (ones_cons rfl (ones_cons rfl (ones_cons rfl (ones_cons rfl ones_nil))))) hst rfl (by show 0 + 5≤5; decide) rfl (fun w57 hst=>nn (W_ret (retG1 (v1:=.agg #[I x14.1,I x42.1,I 0,S0,I 0]) Try.results142 (resV_agg Try.isAgg63 Try.sizeOf63 rfl (Star.blkAt 0 hst rfl) rfl) ?_)))))))
 obtain rfl:=so hF
 have hst:=Star.addNil (R:=(OR.frz rTerm)) (e:=117) hst
 have hst:=hst.gets [3,1] rfl
 exact ⟨S0,rfl,(Star.keepN 2 hst)⟩
 have hF:=(ite_f hc32).symm.trans hF
 refine sq (L_eql rfl rfl rfl (aB rfl (nn (W_cond (b:=(x14.1 == 7)) rfl (fun hc59=>?_) (fun hc59=>?_)))))
 have hF:=(ite_t hc59).symm.trans hF
 refine W_seq ?_
 obtain ⟨x65,hx65,hF⟩:=bind_some hF
 refine W_region (mV (Pt g_0) rfl ?_)
 have hst:=hst.get 1 rfl
 obtain ⟨H69b,l70,s71,z72,k73⟩:=hst.lend [_]
 refine L_call rfl Try.call70 (ops2 rfl rfl) (s_l1Draw_c (r_:=({ b:=r_.b,p:=x14.2 } : Rd)) (most:=4) s71 (RP.mono _ h0_0 l70) hx65) ?_
 rintro _ w74 ⟨r74_0,rfl,hst⟩
 have hst:=k73 hst (co closed_term (cb c0))
 refine fA 3 fa_63_3 rfl rfl (L_staB (vs:=#[r74_0,I x65.1.bound]) (cs2:=#[I x14.1,I 0,I 0,r74_0,I x65.1.bound]) 2 rfl Try.sizeOf41 rfl rfl rfl (ones_cons (one_len (Star.len 0 hst rfl)) (ones_cons rfl ones_nil)) hst rfl (by show 3 + 2≤5; decide) rfl (fun w76 hst=>ns (L_lda (cs:=[I x14.1,I 0,I 0,r74_0,I x65.1.bound]) rfl Try.isAgg63 Try.sizeOf63 rfl (At.sub0 (Blk.at (Star.blkAt 0 hst rfl)) 0 5) rfl (L_staB (vs:=#[I x14.1,I 0,I 0,r74_0,I x65.1.bound]) (cs2:=#[I x14.1,I 0,I 0,r74_0,I x65.1.bound]) 4 rfl Try.sizeOf63 rfl rfl rfl (ones_cons rfl (ones_cons rfl (ones_cons rfl (ones_cons (one_len (Star.len 1 hst rfl)) (ones_cons rfl ones_nil))))) hst rfl (by show 0 + 5≤5; decide) rfl (fun w78 hst=>nn (W_ret (retG1 (v1:=.agg #[I x14.1,I 0,I 0,r74_0,I x65.1.bound]) Try.results142 (resV_agg Try.isAgg63 Try.sizeOf63 rfl (Star.blkAt 0 hst rfl) rfl) ?_)))))))
 obtain rfl:=so hF
 have hst:=hst.gets [3,3] rfl
 exact ⟨r74_0,rfl,(Star.keepN 2 hst)⟩
 have hF:=(ite_f hc59).symm.trans hF
 refine W_skip (W_seq ?_)
 obtain ⟨x84,hx84,hF⟩:=bind_some hF
 refine W_region (mV (Pt g_0) rfl (mI rfl (L_add rfl rfl rfl ?_)))
 have hst:=hst.get 1 rfl
 obtain ⟨H87b,l88,s89,z90,k91⟩:=hst.lend [_]
 refine L_call rfl Try.call71 (ops2 rfl rfl) (s_l17Rd_pick_c (r_:=({ b:=r_.b,p:=x14.2 } : Rd)) (n_:=i64 (n_ + 1)) s89 (RP.mono _ h0_0 l88) hx84) ?_
 rintro _ w92 ⟨rfl,hst⟩
 have hst:=k91 hst (cb c0)
 refine fA 1 fa_63_1 rfl rfl (L_stB (v:=I x84.1) (cs2:=#[I x14.1,I x84.1,I 0,S0,I 0]) 1 rfl Try.sizeOf3 rfl rfl rfl hst rfl rfl rfl (fun w93 hst=>nq (sq (fA 0 fa_63_0 rfl rfl (ldB 0 hst Try.isAgg3 rfl rfl rfl (nn (W_block (sq (L_eql rfl rfl rfl (aB rfl (nn ?_)))))))))))
 obtain ⟨⟨g_0_1_94,g29_2_95⟩,hA96,hF⟩:=bind_some hF
 obtain ⟨R96,hR96⟩:=exR fun f w_=>f 4 = Pt g3∧f 5 = Pt g29∧Star H w_ ([box g_0 126 #[v0_0,I g_0_1_94],box g29 63 #[I x14.1,I x84.1,I g29_2_95,S0,I 0],box g3 63 #[I 0,I 0,I 0,S0,I 0]])
 refine W_join R96 ?_ ?_
 refine W_cond (b:=(x14.1 == 1)) rfl (fun hc97=>?_) (fun hc97=>?_)
 have hA96:=(ite_t hc97).symm.trans hA96
 obtain ⟨x103,hx103,hA96⟩:=bind_some hA96
 refine W_region (mV (Pt g_0) rfl (mI rfl (L_add rfl rfl rfl ?_)))
 have hst:=hst.get 1 rfl
 obtain ⟨H106b,l107,s108,z109,k110⟩:=hst.lend [_]
 refine L_call rfl Try.call71 (ops2 rfl rfl) (s_l17Rd_pick_c (r_:=({ b:=r_.b,p:=x84.2 } : Rd)) (n_:=i64 (n_ + 1)) s108 (RP.mono _ h0_0 l107) hx103) ?_
 rintro _ w111 ⟨rfl,hst⟩
 have hst:=k110 hst (cb c0)
 refine fA 2 fa_63_2 rfl rfl (L_stB (v:=I x103.1) (cs2:=#[I x14.1,I x84.1,I x103.1,S0,I 0]) 1 rfl Try.sizeOf3 rfl rfl rfl hst rfl rfl rfl (fun w112 hst=>nn ?_))
 obtain ⟨rfl,rfl⟩:=so2 hA96
 have hst:=hst.gets [3,1,2] rfl
 exact rj hR96 ⟨rfl,rfl,(Star.keepN 3 hst)⟩
 have hA96:=(ite_f hc97).symm.trans hA96
 refine W_seq (sq (L_eql rfl rfl rfl (aB rfl (nn ?_))))
 obtain ⟨t39_113,hA114,hA96⟩:=bind_some hA96
 obtain ⟨R114,hR114⟩:=exR fun f w_=>f 0 = Pt g_0∧f 4 = Pt g3∧f 5 = Pt g29∧f 31 = I x14.1∧f 39 = Bo t39_113∧Star H w_ ([box g_0 126 #[v0_0,I x84.2],box g29 63 #[I x14.1,I x84.1,I 0,S0,I 0],box g3 63 #[I 0,I 0,I 0,S0,I 0]])
 refine W_join R114 ?_ ?_
 refine W_cond (b:=(x14.1 == 2)) rfl (fun hc115=>?_) (fun hc115=>?_)
 have hA114:=(ite_t hc115).symm.trans hA114
 refine W_skip ?_
 obtain rfl:=so hA114
 have hst:=hst.gets [3,1,2] rfl
 exact rj hR114 ⟨rfl,rfl,rfl,rfl,rfl,(Star.keepN 3 hst)⟩
 have hA114:=(ite_f hc115).symm.trans hA114
 refine W_region (L_eql rfl rfl rfl (aB rfl (nn ?_)))
 obtain rfl:=so hA114
 have hst:=hst.gets [3,1,2] rfl
 exact rj hR114 ⟨rfl,rfl,rfl,rfl,rfl,(Star.keepN 3 hst)⟩
 intro f w_ hR
 obtain ⟨sf0,sf4,sf5,sf31,sf39,hst⟩:=rk hR114 hR
 obtain ⟨⟨g_0_1_116,g29_2_117⟩,hA118,hA96⟩:=bind_some hA96
 obtain ⟨R118,hR118⟩:=exR fun f w_=>f 4 = Pt g3∧f 5 = Pt g29∧Star H w_ ([box g_0 126 #[v0_0,I g_0_1_116],box g29 63 #[I x14.1,I x84.1,I g29_2_117,S0,I 0],box g3 63 #[I 0,I 0,I 0,S0,I 0]])
 refine W_join R118 ?_ ?_
 refine W_cond (b:=t39_113) sf39 (fun hc119=>?_) (fun hc119=>?_)
 have hA118:=(ite_t hc119).symm.trans hA118
 obtain ⟨x129,hx129,hA118⟩:=bind_some hA118
 refine W_region (mF sf0 rfl (L_bs rfl (parts3 rfl rfl rfl) (bs_105_3_0_0_0 (I 2) (I 3) (I 1) rfl rfl rfl) hst (fun g132 w133 hst=>?_)))
 have hst:=litInts [2,3,1] 3 hst rfl rfl (by decide)
 have hst:=hst.get 1 rfl
 obtain ⟨H135b,l136,s137,z138,k139⟩:=hst.lend [_]
 have hb140 : (rS 3 RP.int).rel H135b [(Sl g132 3 3)] ([2,3,1]):=fz_own 0 z138 rfl
 refine L_call rfl Try.call110 (ops2 rfl rfl) (s_l17Rd_num_c (r_:=({ b:=r_.b,p:=x84.2 } : Rd)) (list:=[2,3,1]) s137 (RP.mono _ h0_0 l136) hb140 hx129) ?_
 rintro _ w141 ⟨rfl,hst⟩
 have hst:=k139 hst (cb c0)
 refine fA 2 fa_63_2 sf5 rfl (L_stB (v:=I x129.1) (cs2:=#[I x14.1,I x84.1,I x129.1,S0,I 0]) 2 rfl Try.sizeOf3 rfl rfl rfl hst rfl rfl rfl (fun w142 hst=>nn ?_))
 obtain ⟨rfl,rfl⟩:=so2 hA118
 have hst:=hst.gets [3,1,2] rfl
 exact rj hR118 ⟨sf4,sf5,(Star.keepN 3 hst)⟩
 have hA118:=(ite_f hc119).symm.trans hA118
 refine sq (L_eql rfl sf31 rfl (aB rfl (nn ?_)))
 obtain ⟨⟨g_0_1_143,g29_2_144⟩,hA145,hA118⟩:=bind_some hA118
 obtain ⟨R145,hR145⟩:=exR fun f w_=>f 4 = Pt g3∧f 5 = Pt g29∧Star H w_ ([box g_0 126 #[v0_0,I g_0_1_143],box g29 63 #[I x14.1,I x84.1,I g29_2_144,S0,I 0],box g3 63 #[I 0,I 0,I 0,S0,I 0]])
 refine W_join R145 ?_ ?_
 refine W_cond (b:=(x14.1 == 5)) rfl (fun hc146=>?_) (fun hc146=>?_)
 have hA145:=(ite_t hc146).symm.trans hA145
 obtain ⟨x152,hx152,hA145⟩:=bind_some hA145
 refine W_region (mF sf0 rfl ?_)
 obtain ⟨H155b,l156,s157,z158,k159⟩:=hst.lend [_]
 refine L_call rfl Try.call71 (ops2 rfl rfl) (s_l17Rd_pick_c (r_:=({ b:=r_.b,p:=x84.2 } : Rd)) (n_:=5) s157 (RP.mono _ h0_0 l156) hx152) ?_
 rintro _ w160 ⟨rfl,hst⟩
 have hst:=k159 hst (cb c0)
 refine L_add rfl rfl rfl (fA 2 fa_63_2 sf5 rfl (L_stB (v:=I (i64 (1 + x152.1))) (cs2:=#[I x14.1,I x84.1,I (i64 (1 + x152.1)),S0,I 0]) 1 rfl Try.sizeOf3 rfl rfl rfl hst rfl rfl rfl (fun w161 hst=>nn ?_)))
 obtain ⟨rfl,rfl⟩:=so2 hA145
 have hst:=hst.gets [2,1,2] rfl
 exact rj hR145 ⟨sf4,sf5,hst⟩
 have hA145:=(ite_f hc146).symm.trans hA145
 refine W_skip ?_
 obtain ⟨rfl,rfl⟩:=so2 hA145
 exact rj hR145 ⟨sf4,sf5,hst⟩
 intro f w_ hR
 obtain ⟨sf4,sf5,hst⟩:=rk hR145 hR
 obtain ⟨rfl,rfl⟩:=so2 hA118
 exact rj hR118 ⟨sf4,sf5,hst⟩
 intro f w_ hR
 obtain ⟨sf4,sf5,hst⟩:=rk hR118 hR
 obtain ⟨rfl,rfl⟩:=so2 hA96
 exact rj hR96 ⟨sf4,sf5,hst⟩
 intro f w_ hR
 obtain ⟨sf4,sf5,hst⟩:=rk hR96 hR
 refine sq (L_lda (cs:=[I x14.1,I x84.1,I g29_2_95,S0,I 0]) rfl Try.isAgg63 Try.sizeOf63 sf5 (At.sub0 (Blk.at (Star.blkAt 1 hst rfl)) 0 5) rfl (L_staB (vs:=#[I x14.1,I x84.1,I g29_2_95,S0,I 0]) (cs2:=#[I x14.1,I x84.1,I g29_2_95,S0,I 0]) 2 rfl Try.sizeOf63 sf4 rfl rfl (ones_cons rfl (ones_cons rfl (ones_cons rfl (ones_cons rfl (ones_cons rfl ones_nil))))) hst rfl (by show 0 + 5≤5; decide) rfl (fun w163 hst=>nn (W_ret (retG1 (v1:=.agg #[I x14.1,I x84.1,I g29_2_95,S0,I 0]) Try.results142 (resV_agg Try.isAgg63 Try.sizeOf63 sf4 (Star.blkAt 0 hst rfl) rfl) ?_)))))
 obtain rfl:=so hF
 have hst:=Star.addNil (R:=(OR.frz rTerm)) (e:=117) hst
 have hst:=hst.gets [2,1] rfl
 exact ⟨S0,rfl,(Star.keepN 2 hst)⟩
theorem s_l4Random_c {fu : Nat} {r_ : Rd} {list : List Con} {g_0 : Nat} {v0_0 : Value} {v1 : Value} {H : FH} {w : World} {R : List Ass} (hst : Star H w (box g_0 126 #[v0_0,I r_.p] :: R)) (h0_0 : (rS 5 RP.u8).rel H [v0_0] r_.b) (h1 : (rS 41 (rCon 117)).rel H [v1] list) {r : (List Step) × Int} (hF : s_l4Random fu r_ list = some r) :
 C Try.prog 118 #[Pt g_0,v1] w fun v w'=>∃ H' : FH,Le H H'∧∃ (u1 : Value),v = u1∧Star H' w' (oF 63 (rStep 117) u1 r.1 :: box g_0 126 #[v0_0,I r.2] :: R):=by
 unfold s_l4Random at hF
 refine C_enter Try.func118 rfl Try.ntmps118 rfl (sq (aV S0 rfl (ns (L_bs rfl parts0 (bs_29_0  ) hst (fun g4 w5 hst=>?_)))))
 have hst:=Star.mkRow (R:=(OR.frz (rStep 117))) [] [] 0 hst rfl rfl rfl (by decide)
 refine aV (Sl g4 0 0) rfl (nq (W_seq ?_))
 obtain ⟨x16,hx16,hF⟩:=bind_some hF
 refine W_region (mV (Pt g_0) rfl (L_bs rfl (parts6 rfl rfl rfl rfl rfl rfl) (bs_105_6_0_0_0_0_0_0 (I 4) (I 6) (I 3) (I 8) (I 1) (I 0) rfl rfl rfl rfl rfl rfl) hst (fun g18 w19 hst=>?_)))
 have hst:=litInts [4,6,3,8,1,0] 6 hst rfl rfl (by decide)
 have hst:=hst.get 2 rfl
 obtain ⟨H21b,l22,s23,z24,k25⟩:=hst.lend [_]
 have hb26 : (rS 3 RP.int).rel H21b [(Sl g18 6 6)] ([4,6,3,8,1,0]):=fz_own 0 z24 rfl
 refine L_call rfl Try.call110 (ops2 rfl rfl) (s_l17Rd_num_c (r_:=r_) (list:=[4,6,3,8,1,0]) s23 (RP.mono _ h0_0 l22) hb26 hx16) ?_
 rintro _ w27 ⟨rfl,hst⟩
 have hst:=k25 hst (cb c0)
 refine aI rfl (nn ?_)
 obtain ⟨j35,hL35,hF⟩:=bind_some hF
 obtain ⟨R35,hR35⟩:=exR fun f w_=>∃ out_29 : List Step,∃ i_31 : Int,∃ g_0_1_32 : Int,∃ H33 : FH,∃ v29_out : Value,j35 = .nx (out_29,i_31,g_0_1_32)∧Le H H33∧f 5 = v29_out∧Star H33 w_ (oF 63 (rStep 117) v29_out out_29 :: box g_0 126 #[v0_0,I g_0_1_32] :: R)
 refine W_join R35 ?_ ?_
 refine W_block ?_
 obtain ⟨I35,hI35⟩:=exI fun n f w_=>∃ out_29 : List Step,∃ i_31 : Int,∃ g_0_1_32 : Int,∃ H33 : FH,∃ v29_out : Value,whileL (s_l4Random_b1 fu r_ list) n (out_29,i_31,g_0_1_32) = some j35∧Le H H33∧f 0 = Pt g_0∧f 1 = v1∧f 5 = v29_out∧f 6 = I i_31∧Star H33 w_ (oF 63 (rStep 117) v29_out out_29 :: box g_0 126 #[v0_0,I g_0_1_32] :: R)
 have hst:=hst.get 2 rfl
 have hst:=Star.drop 2 hst rfl
 refine W_loop I35 (n:=fu) ?_ ?_
 exact ij hI35 ⟨[],x16.1,x16.2,H,(Sl g4 0 0),hL35,(Le.refl _),rfl,rfl,rfl,rfl,hst⟩
 intro n35 f w_ hI
 obtain ⟨out_29,i_31,g_0_1_32,H33,v29_out,hL35,l34,sf0,sf1,sf5,sf6,hst⟩:=ik hI35 hI
 rcases n35 with _ | n35
 exact (while_zero hL35).elim
 obtain ⟨o35,hB35,hL35⟩:=while_succ hL35
 rw [s_l4Random_b1] at hB35
 refine W_seq (sq (mF sf6 rfl (L_gtr rfl rfl rfl (nn (W_cond (b:=decide (i_31 > 0)) rfl (fun hc36=>?_) (fun hc36=>?_))))))
 have hB35:=(ite_t hc36).symm.trans hB35
 refine W_skip (W_seq (W_block (W_seq ?_)))
 obtain ⟨x40,hx40,hB35⟩:=bind_some hB35
 obtain ⟨x49,hx49,hB35⟩:=bind_some hB35
 obtain ⟨x55,hx55,hB35⟩:=bind_some hB35
 refine W_region (L_bs rfl parts0 (bs_29_0  ) hst (fun g61 w62 hst=>?_))
 have hst:=Star.mkRow (R:=(OR.frz (rStep 117))) [] [] 0 hst rfl rfl rfl (by decide)
 refine mF sf5 rfl (L_appC (v:=(Sl g61 0 0)) (u:=v29_out) rfl et_29 rfl rfl hst hx40 (fun v64 w65 hst=>mF sf0 rfl (mF sf1 rfl (L_len rfl Try.underlying27 rfl (slice_len (RP.mono _ h1 l34)) (mF sf5 rfl (L_len rfl Try.underlying29 rfl (Star.len 1 hst rfl) (L_add rfl rfl rfl ?_)))))))
 have hst:=hst.get 2 rfl
 obtain ⟨H67b,l68,s69,z70,k71⟩:=hst.lend [_]
 refine L_call rfl Try.call142 (ops2 rfl rfl) (s_l4Step_c (r_:=({ b:=r_.b,p:=g_0_1_32 } : Rd)) (n_:=i64 ((list.length : Int) + (out_29.length : Int))) s69 (RP.mono _ h0_0 (Le.trans l34 l68)) hx49) ?_
 rintro _ w72 ⟨r72_0,rfl,hst⟩
 have hst:=k71 hst (co closed_term (cb c0))
 refine L_bs rfl (parts1 rfl) (bs_29_1_5 (I x49.1.kind) (I x49.1.a) (I x49.1.b) (r72_0) (I x49.1.given.bound) ) hst (fun g74 w75 hst=>?_)
 have hst:=hst.get 1 rfl
 have hst:=oStep_close (s:=x49.1) hst
 have hst:=Star.mkRow (R:=(oStep 117)) [([I x49.1.kind,I x49.1.a,I x49.1.b,r72_0,I x49.1.given.bound],x49.1)] [x49.1] 1 hst rfl rfl rfl (by decide)
 obtain ⟨H77,l78,hst⟩:=Star.shallow hst
 have hst : Star H77 w75 (oF 63 (rStep 117) (Sl g74 1 1) ([x49.1]) :: _):=hst
 have hst:=hst.get 2 rfl
 refine L_appM (v:=v64) (u:=(Sl g74 1 1)) rfl et_29 rfl rfl hst hx55 (fun v79 w80 hst=>aV v79 rfl (nq ?_))
 obtain ⟨x88,hx88,hB35⟩:=bind_some hB35
 refine W_region (mF sf1 rfl (mV v79 rfl ?_))
 obtain ⟨H91b,l92,s93,z94,k95⟩:=hst.borrow
 have hb96 : (rS 63 (rStep 117)).rel H91b [v79] x55:=fz_own 0 z94 rfl
 refine L_call rfl Try.call35 (ops2 rfl rfl) (s_RunProof_c (list:=list) (steps:=x55) s93 (RP.mono _ h1 (Le.trans (Le.trans l34 l78) l92)) hb96 hx88) ?_
 rintro _ w97 ⟨r97_0,rfl,hst⟩
 have hst:=k95 hst (co closed_oCon c0)
 refine mV (.tuple #[r97_0,I x88.2]) rfl (L_ex (v:=r97_0) rfl rfl rfl (L_ex (v:=I x88.2) rfl rfl rfl (aV r97_0 rfl (aI rfl (nq ?_)))))
 obtain ⟨b106,hb106,hB35⟩:=bind_some hB35
 obtain ⟨R107,hR107⟩:=exR fun f w_=>f 0 = Pt g_0∧f 1 = v1∧f 5 = v29_out∧f 6 = I i_31∧f 7 = v79∧f 42 = Bo b106.1∧Star H77 w_ (oF 63 (rStep 117) v29_out out_29 :: oF 63 (rStep 117) v79 x55 :: box g_0 126 #[v0_0,I b106.2] :: R)
 refine W_join R107 ?_ ?_
 refine W_region (mI rfl (L_lss rfl rfl rfl (mB rfl (L_split (d:=38) (b:=decide (x88.2 < 0)) rfl (fun hc108=>?_) (fun hc108=>?_)))))
 rw [ite_t hc108] at hb106
 refine ps rfl (ps rfl (ps rfl (L_pick (v:=Bo b106.1) rfl rfl (congrArg (fun z : Bool × Int=>Value.bool z.1) (so hb106)) ?_)))
 have hst:=hst.get 2 rfl
 have hst : Star H77 w97 (box g_0 126 #[v0_0,I b106.2] :: oS 41 (oCon 117) r97_0 x88.1 :: oF 63 (rStep 117) v79 x55 :: oF 63 (rStep 117) v29_out out_29 :: R):=by rw [← so hb106]; exact hst
 refine nn ?_
 have hst:=hst.gets [2,3] rfl
 have hst:=Star.drop 3 hst rfl
 exact rj hR107 ⟨sf0,sf1,sf5,sf6,rfl,rfl,hst⟩
 rw [ite_f hc108] at hb106
 obtain ⟨x104,hx104,hb106⟩:=bind_some hb106
 refine mF sf0 rfl ?_
 have hst:=hst.get 2 rfl
 obtain ⟨H109b,l110,s111,z112,k113⟩:=hst.lend [_]
 refine L_call rfl Try.call71 (ops2 rfl rfl) (s_l17Rd_pick_c (r_:=({ b:=r_.b,p:=x49.2 } : Rd)) (n_:=30) s111 (RP.mono _ h0_0 (Le.trans (Le.trans l34 l78) l110)) hx104) ?_
 rintro _ w114 ⟨rfl,hst⟩
 have hst:=k113 hst (cb c0)
 refine L_eql rfl rfl rfl (L_pick (v:=Bo b106.1) rfl rfl (congrArg (fun z : Bool × Int=>Value.bool z.1) (so hb106)) ?_)
 have hst : Star H77 w114 (box g_0 126 #[v0_0,I b106.2] :: oS 41 (oCon 117) r97_0 x88.1 :: oF 63 (rStep 117) v79 x55 :: oF 63 (rStep 117) v29_out out_29 :: R):=by rw [← so hb106]; exact hst
 refine nn ?_
 have hst:=hst.gets [2,3] rfl
 have hst:=Star.drop 3 hst rfl
 exact rj hR107 ⟨sf0,sf1,sf5,sf6,rfl,rfl,hst⟩
 intro f w_ hR
 obtain ⟨sf0,sf1,sf5,sf6,sf7,sf42,hst⟩:=rk hR107 hR
 obtain ⟨out_115,hA117,hB35⟩:=bind_some hB35
 obtain ⟨R117,hR117⟩:=exR fun f w_=>∃ v115_out : Value,f 0 = Pt g_0∧f 1 = v1∧f 5 = v115_out∧f 6 = I i_31∧Star H77 w_ (oF 63 (rStep 117) v115_out out_115 :: box g_0 126 #[v0_0,I b106.2] :: R)
 refine W_join R117 ?_ ?_
 refine W_cond (b:=b106.1) sf42 (fun hc118=>?_) (fun hc118=>?_)
 have hA117:=(ite_t hc118).symm.trans hA117
 refine W_region (mF sf7 rfl (aV v79 rfl (nn ?_)))
 obtain rfl:=so hA117
 have hst:=hst.gets [2,2] rfl
 have hst:=Star.drop 2 hst rfl
 exact rj hR117 ⟨v79,sf0,sf1,rfl,sf6,hst⟩
 have hA117:=(ite_f hc118).symm.trans hA117
 refine W_skip ?_
 obtain rfl:=so hA117
 have hst:=hst.gets [2,1] rfl
 have hst:=Star.drop 2 hst rfl
 exact rj hR117 ⟨v29_out,sf0,sf1,sf5,sf6,hst⟩
 intro f w_ hR
 obtain ⟨v115_out,sf0,sf1,sf5,sf6,hst⟩:=rk hR117 hR
 refine W_region (mF sf6 rfl (L_sub rfl rfl rfl (aI rfl (nn ?_))))
 obtain rfl:=so hB35
 show ∃ m,m < _∧I35 m _ _
 refine ⟨n35,Nat.lt_succ_self _,?_⟩
 exact ij hI35 ⟨out_115,i64 (i_31 - 1),b106.2,H77,v115_out,hL35,(Le.trans l34 l78),sf0,sf1,sf5,rfl,hst⟩
 have hB35:=(ite_f hc36).symm.trans hB35
 refine W_exit ?_
 obtain rfl:=so hB35
 obtain rfl:=so hL35
 exact rj hR35 ⟨out_29,i_31,g_0_1_32,H33,v29_out,rfl,l34,sf5,hst⟩
 intro f w_ hR
 obtain ⟨out_29,i_31,g_0_1_32,H33,v29_out,rfl,l34,sf5,hst⟩:=rk hR35 hR
 refine sq (mF sf5 rfl (aV v29_out rfl (nn (W_ret (retG1 (v1:=v29_out) Try.results118 rfl ?_)))))
 obtain rfl:=so hF
 exact ⟨H33,l34,v29_out,rfl,hst⟩
end Go.Proofs.Ytiodhgbfceahfaa

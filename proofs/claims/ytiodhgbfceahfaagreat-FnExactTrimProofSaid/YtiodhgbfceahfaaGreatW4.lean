/- Part of a proof by program: W4. -/
import Derived.Test.YtiodhgbfceahfaaGreatD1
import Derived.Test.YtiodhgbfceahfaaGreatW3
namespace Go.Proofs.YtiodhgbfceahfaaGreat
open Go Go.E Go.L Go.RowKit
set_option linter.unusedVariables false
set_option linter.unusedSimpArgs false
set_option maxRecDepth 100000
theorem l_eqTermS_c {a : List Term} {b : List Term} {v0 : Value} {v1 : Value} {H : FH} {w : World} (hst : Star H w []) (h0 : (rS 83 rTerm).rel H [v0] a) (h1 : (rS 83 rTerm).rel H [v1] b) {r : Bool} (hF : l_eqTermS a b = some r) :
 C Tryz.prog 40 #[v0,v1] w fun v w'=>v = Bo r∧Star H w' []:=by
 unfold l_eqTermS at hF
 refine C_enter Tryz.func40 rfl Tryz.ntmps40 rfl (sq (aB rfl (nq (sq (mV v0 rfl (L_len rfl Tryz.underlying52 rfl (slice_len h0) (mV v1 rfl (L_len rfl Tryz.underlying52 rfl (slice_len h1) (L_neq rfl rfl rfl (nn (W_cond (b:=((a.length : Int) != (b.length : Int))) rfl (fun hc1=>?_) (fun hc1=>?_))))))))))))
 have hF:=(ite_t hc1).symm.trans hF
 refine sq (aB rfl (nn (W_ret (retG1 (v1:=Bo false) Tryz.results40 rfl ?_))))
 obtain rfl:=so hF
 exact ⟨rfl,hst⟩
 have hF:=(ite_f hc1).symm.trans hF
 refine W_skip (W_seq (sq (aI rfl (nn ?_))))
 have hlen5 : List.length a≤9223372036854775807:=len_le (slice_len h0)
 obtain ⟨j5,hL5,hF⟩:=bind_some hF
 obtain ⟨R5,hR5⟩:=exR fun f w_=>∃ H3 : FH,j5 = .nx ()∧Le H H3∧Star H3 w_ ([])
 refine W_join R5 ?_ ?_
 refine W_block ?_
 obtain ⟨I5,hI5⟩:=exI fun n f w_=>∃ i_2 : Nat,∃ suf5 : List Term,∃ H3 : FH,n = suf5.length∧List.drop i_2 a = suf5∧i_2 + suf5.length = a.length∧rangeL (l_eqTermS_b1 b) suf5 i_2 () = some j5∧Le H H3∧f 0 = v0∧f 1 = v1∧f 5 = I i_2∧Star H3 w_ ([])
 refine W_loop I5 (n:=a.length) ?_ ?_
 exact ij hI5 ⟨0,a,H,rfl,rfl,Nat.zero_add _,hL5,(Le.refl _),rfl,rfl,rfl,hst⟩
 intro n5 f w_ hI
 obtain ⟨i_2,suf5,H3,rfl,hd5,hl5,hL5,l4,sf0,sf1,sf5,hst⟩:=ik hI5 hI
 refine W_seq (sq (mF sf5 rfl (mF sf0 rfl (L_len rfl Tryz.underlying52 rfl (slice_len (RP.mono _ h0 l4)) (L_lss rfl rfl rfl (nn (W_cond (b:=decide ((i_2 : Int) < (a.length : Int))) rfl (fun hc6=>?_) (fun hc6=>?_))))))))
 have hlt5:=of_decide_eq_true hc6
 rcases suf5 with _ | ⟨x_5,rest5⟩
 exact absurd hlt5 (by simp at hl5; omega)
 obtain ⟨o5,hB5,hL5⟩:=range_cons hL5
 rw [l_eqTermS_b1] at hB5
 have hix5:=drop_idx hd5
 refine W_skip (W_seq (W_block (W_seq ?_)))
 obtain ⟨x11,hx11,hB5⟩:=bind_some hB5
 obtain ⟨x21,hx21,hB5⟩:=bind_some hB5
 refine W_drawS 8 [isV (v0),isV (I i_2),isEl rTerm x_5 0,isV (.agg #[I x_5.coef,I x_5.lit]),isV (v1),isV (I i_2),isEl rTerm x11 0,isV (.agg #[I x11.coef,I x11.lit])] [] [] ([]) [([],[]),([],[]),([],[]),([],[]),([],[]),([],[]),([],[]),([],[])] (S:=[]) Tryz_mix (by kernel_rfl) rfl (by kernel_rfl) (amF_cons (mono_V _) (amF_cons (mono_V _) (amF_cons (mono_el _ _ _) (amF_cons (mono_V _) (amF_cons (mono_V _) (amF_cons (mono_V _) (amF_cons (mono_el _ _ _) (amF_cons (mono_V _) amF_nil)))))))) hst ?_ (fun f w_ H23 hS23 hE23 hT23 hst=>?_)
 refine opsS_cons (fun f w_ _ _ s _ _ hst=>mF ((s 0 rfl).trans sf0) rfl (nO rfl rfl hst)) (opsS_cons (fun f w_ _ _ s _ _ hst=>mF ((s 5 rfl).trans sf5) rfl (nO rfl rfl hst)) (opsS_cons ?_ ?_))
 intro f w_ H23 X23 hS23 hE23 hP23 hst
 refine L_ix (r:=rTerm) rfl Tryz.underlying52 Tryz.sizeOf83 (hP23 0 17 rfl rfl) (RP.mono _ h0 (Le.trans l4 hE23)) (hP23 1 18 rfl rfl) hix5 (fun g32 o33 cs_g32 hrk_hat34 hat34=>?_)
 obtain rfl:=rTerm_iff.1 hrk_hat34
 exact L_nil ⟨rfl,_,_,rfl,Le.refl _,fun _ _=>⟨_,_,_,rfl,hrk_hat34,hat34⟩,hst⟩
 refine opsS_cons ?_ ?_
 intro f w_ H23 X23 hS23 hE23 hP23 hst
 obtain ⟨g36,o36,cs36,hv36,hrk_hat36,hat36⟩:=(hP23 2 19 rfl rfl)
 obtain rfl:=rTerm_iff.1 hrk_hat36
 refine L_lda (cs:=[I x_5.coef,I x_5.lit]) rfl Tryz.isAgg83 Tryz.sizeOf83 hv36 (At.sub (AtH.at hat36 hst.sub) 0 2) rfl (L_nil ⟨rfl,_,_,rfl,Le.refl _,fun _ _=>rfl,hst⟩)
 refine opsS_cons (fun f w_ _ _ s _ _ hst=>mF ((s 1 rfl).trans sf1) rfl (nO rfl rfl hst)) (opsS_cons (fun f w_ _ _ s _ _ hst=>mF ((s 5 rfl).trans sf5) rfl (nO rfl rfl hst)) (opsS_cons ?_ ?_))
 intro f w_ H23 X23 hS23 hE23 hP23 hst
 refine L_ix (r:=rTerm) rfl Tryz.underlying52 Tryz.sizeOf83 (hP23 4 21 rfl rfl) (RP.mono _ h1 (Le.trans l4 hE23)) (hP23 5 22 rfl rfl) hx11 (fun g38 o39 cs_g38 hrk_hat40 hat40=>?_)
 obtain rfl:=rTerm_iff.1 hrk_hat40
 exact L_nil ⟨rfl,_,_,rfl,Le.refl _,fun _ _=>⟨_,_,_,rfl,hrk_hat40,hat40⟩,hst⟩
 refine opsS_cons ?_ ?_
 intro f w_ H23 X23 hS23 hE23 hP23 hst
 obtain ⟨g42,o42,cs42,hv42,hrk_hat42,hat42⟩:=(hP23 6 23 rfl rfl)
 obtain rfl:=rTerm_iff.1 hrk_hat42
 refine L_lda (cs:=[I x11.coef,I x11.lit]) rfl Tryz.isAgg83 Tryz.sizeOf83 hv42 (At.sub (AtH.at hat42 hst.sub) 0 2) rfl (L_nil ⟨rfl,_,_,rfl,Le.refl _,fun _ _=>rfl,hst⟩)
 exact opsS_nil
 obtain ⟨H44b,l45,s46,z47,k48⟩:=hst.borrow
 refine L_call rfl Tryz.call55 (ops2 (hT23 3 20 rfl rfl) (hT23 7 24 rfl rfl)) (l_eqTerm_c (a:=x_5) (b:=x11) s46 hx21) ?_
 rintro _ w49 ⟨rfl,hst⟩
 have hst:=k48 hst c0
 refine L_not_ rfl rfl (nn (W_cond (b:=(!x21)) rfl (fun hc50=>?_) (fun hc50=>?_)))
 have hB5:=(ite_t hc50).symm.trans hB5
 refine sq (aB rfl (nn (W_ret (retG1 (v1:=Bo false) Tryz.results40 rfl ?_))))
 obtain rfl:=so hB5
 obtain rfl:=so hL5
 obtain rfl:=so hF
 exact ⟨rfl,(Star.down hst (Le.trans l4 hE23) c0)⟩
 have hB5:=(ite_f hc50).symm.trans hB5
 refine W_skip (W_region (mF ((hS23 5 rfl).trans sf5) rfl (L_add rfl rfl rfl (aI rfl (nn ?_)))))
 obtain rfl:=so hB5
 show ∃ m,m < _∧I5 m _ _
 refine ⟨rest5.length,by simp,?_⟩
 exact ij hI5 ⟨i_2 + 1,rest5,H23,rfl,drop_next hd5,by simp at hl5; omega,hL5,(Le.trans l4 hE23),((hS23 0 rfl).trans sf0),((hS23 1 rfl).trans sf1),(Eq.trans rfl (congrArg (Value.int .i64) (i64_succ (n:=a.length) (by simp at hl5; omega) hlen5))),hst⟩
 rcases suf5 with _ | ⟨_,_⟩
 obtain rfl:=range_nil hL5
 refine W_exit (rj hR5 ⟨H3,rfl,l4,hst⟩)
 exact absurd (of_decide_eq_false hc6) (by simp at hl5; omega)
 intro f w_ hR
 obtain ⟨H3,rfl,l4,hst⟩:=rk hR5 hR
 refine sq (aB rfl (nn (W_ret (retG1 (v1:=Bo true) Tryz.results40 rfl ?_))))
 obtain rfl:=so hF
 exact ⟨rfl,(Star.down hst l4 c0)⟩
theorem l_eqConstraint_c {a : Con} {b : Con} {v0_0 : Value} {v1_0 : Value} {H : FH} {w : World} (hst : Star H w []) (h0_0 : (rS 83 rTerm).rel H [v0_0] a.terms) (h1_0 : (rS 83 rTerm).rel H [v1_0] b.terms) {r : Bool} (hF : l_eqConstraint a b = some r) :
 C Tryz.prog 28 #[.agg #[v0_0,I a.bound],.agg #[v1_0,I b.bound]] w fun v w'=>v = Bo r∧Star H w' []:=by
 unfold l_eqConstraint at hF
 refine C_enter Tryz.func28 rfl Tryz.ntmps28 rfl (sq (L_box (v:=.agg #[v0_0,I a.bound]) (cs:=#[v0_0,I a.bound]) rfl rfl rfl hst (fun g5 w6 hst=>L_box (v:=.agg #[v1_0,I b.bound]) (cs:=#[v1_0,I b.bound]) rfl rfl rfl hst (fun g7 w8 hst=>aB rfl (nq (W_seq ?_))))))
 obtain ⟨x14,hx14,hF⟩:=bind_some hF
 refine W_region (fA 0 fa_54_0 rfl rfl (ldB 1 hst Tryz.isAgg52 rfl rfl rfl (fA 0 fa_54_0 rfl rfl (ldB 0 hst Tryz.isAgg52 rfl rfl rfl ?_))))
 obtain ⟨H16b,l17,s18,z19,k20⟩:=hst.borrow
 refine L_call rfl Tryz.call40 (ops2 rfl rfl) (l_eqTermS_c (a:=a.terms) (b:=b.terms) s18 (RP.mono _ h0_0 l17) (RP.mono _ h1_0 l17) hx14) ?_
 rintro _ w21 ⟨rfl,hst⟩
 have hst:=k20 hst c0
 refine L_not_ rfl rfl (nn (W_cond (b:=(!x14)) rfl (fun hc22=>?_) (fun hc22=>?_)))
 have hF:=(ite_t hc22).symm.trans hF
 refine sq (aB rfl (nn (W_ret (retG1 (v1:=Bo false) Tryz.results28 rfl ?_))))
 obtain rfl:=so hF
 exact ⟨rfl,(Star.keepN 0 hst)⟩
 have hF:=(ite_f hc22).symm.trans hF
 refine W_skip (W_seq (sq (fA 1 fa_54_1 rfl rfl (ldB 1 hst Tryz.isAgg3 rfl rfl rfl (fA 1 fa_54_1 rfl rfl (ldB 0 hst Tryz.isAgg3 rfl rfl rfl (L_neq rfl rfl rfl (nn (W_cond (b:=(a.bound != b.bound)) rfl (fun hc23=>?_) (fun hc23=>?_))))))))))
 have hF:=(ite_t hc23).symm.trans hF
 refine sq (aB rfl (nn (W_ret (retG1 (v1:=Bo false) Tryz.results28 rfl ?_))))
 obtain rfl:=so hF
 exact ⟨rfl,(Star.keepN 0 hst)⟩
 have hF:=(ite_f hc23).symm.trans hF
 refine W_skip (sq (aB rfl (nn (W_ret (retG1 (v1:=Bo true) Tryz.results28 rfl ?_)))))
 obtain rfl:=so hF
 exact ⟨rfl,(Star.keepN 0 hst)⟩
theorem l_eqStep_c {a : Step} {b : Step} {v0_3 : Value} {v1_3 : Value} {H : FH} {w : World} (hst : Star H w []) (h0_3 : (rS 83 rTerm).rel H [v0_3] a.given.terms) (h1_3 : (rS 83 rTerm).rel H [v1_3] b.given.terms) {r : Bool} (hF : l_eqStep a b = some r) :
 C Tryz.prog 27 #[.agg #[I a.kind,I a.a,I a.b,v0_3,I a.given.bound],.agg #[I b.kind,I b.a,I b.b,v1_3,I b.given.bound]] w fun v w'=>v = Bo r∧Star H w' []:=by
 unfold l_eqStep at hF
 refine C_enter Tryz.func27 rfl Tryz.ntmps27 rfl (sq (L_box (v:=.agg #[I a.kind,I a.a,I a.b,v0_3,I a.given.bound]) (cs:=#[I a.kind,I a.a,I a.b,v0_3,I a.given.bound]) rfl rfl rfl hst (fun g5 w6 hst=>L_box (v:=.agg #[I b.kind,I b.a,I b.b,v1_3,I b.given.bound]) (cs:=#[I b.kind,I b.a,I b.b,v1_3,I b.given.bound]) rfl rfl rfl hst (fun g7 w8 hst=>aB rfl (nq (sq (fA 0 fa_56_0 rfl rfl (ldB 1 hst Tryz.isAgg3 rfl rfl rfl (fA 0 fa_56_0 rfl rfl (ldB 0 hst Tryz.isAgg3 rfl rfl rfl (L_neq rfl rfl rfl (nn (W_cond (b:=(a.kind != b.kind)) rfl (fun hc9=>?_) (fun hc9=>?_))))))))))))))
 have hF:=(ite_t hc9).symm.trans hF
 refine sq (aB rfl (nn (W_ret (retG1 (v1:=Bo false) Tryz.results27 rfl ?_))))
 obtain rfl:=so hF
 exact ⟨rfl,(Star.keepN 0 hst)⟩
 have hF:=(ite_f hc9).symm.trans hF
 refine W_skip (W_seq (sq (fA 1 fa_56_1 rfl rfl (ldB 1 hst Tryz.isAgg3 rfl rfl rfl (fA 1 fa_56_1 rfl rfl (ldB 0 hst Tryz.isAgg3 rfl rfl rfl (L_neq rfl rfl rfl (nn (W_cond (b:=(a.a != b.a)) rfl (fun hc10=>?_) (fun hc10=>?_))))))))))
 have hF:=(ite_t hc10).symm.trans hF
 refine sq (aB rfl (nn (W_ret (retG1 (v1:=Bo false) Tryz.results27 rfl ?_))))
 obtain rfl:=so hF
 exact ⟨rfl,(Star.keepN 0 hst)⟩
 have hF:=(ite_f hc10).symm.trans hF
 refine W_skip (W_seq (sq (fA 2 fa_56_2 rfl rfl (ldB 1 hst Tryz.isAgg3 rfl rfl rfl (fA 2 fa_56_2 rfl rfl (ldB 0 hst Tryz.isAgg3 rfl rfl rfl (L_neq rfl rfl rfl (nn (W_cond (b:=(a.b != b.b)) rfl (fun hc11=>?_) (fun hc11=>?_))))))))))
 have hF:=(ite_t hc11).symm.trans hF
 refine sq (aB rfl (nn (W_ret (retG1 (v1:=Bo false) Tryz.results27 rfl ?_))))
 obtain rfl:=so hF
 exact ⟨rfl,(Star.keepN 0 hst)⟩
 have hF:=(ite_f hc11).symm.trans hF
 refine W_skip (W_seq (W_seq ?_))
 obtain ⟨x17,hx17,hF⟩:=bind_some hF
 refine W_region (fA 3 fa_56_3 rfl rfl (L_lda (cs:=[v0_3,I a.given.bound]) rfl Tryz.isAgg54 Tryz.sizeOf54 rfl (At.sub0 (Blk.at (Star.blkAt 1 hst rfl)) 3 2) rfl (fA 3 fa_56_3 rfl rfl (L_lda (cs:=[v1_3,I b.given.bound]) rfl Tryz.isAgg54 Tryz.sizeOf54 rfl (At.sub0 (Blk.at (Star.blkAt 0 hst rfl)) 3 2) rfl ?_))))
 obtain ⟨H19b,l20,s21,z22,k23⟩:=hst.borrow
 refine L_call rfl Tryz.call28 (ops2 rfl rfl) (l_eqConstraint_c (a:=a.given) (b:=b.given) s21 (RP.mono _ h0_3 l20) (RP.mono _ h1_3 l20) hx17) ?_
 rintro _ w24 ⟨rfl,hst⟩
 have hst:=k23 hst c0
 refine L_not_ rfl rfl (nn (W_cond (b:=(!x17)) rfl (fun hc25=>?_) (fun hc25=>?_)))
 have hF:=(ite_t hc25).symm.trans hF
 refine sq (aB rfl (nn (W_ret (retG1 (v1:=Bo false) Tryz.results27 rfl ?_))))
 obtain rfl:=so hF
 exact ⟨rfl,(Star.keepN 0 hst)⟩
 have hF:=(ite_f hc25).symm.trans hF
 refine W_skip (sq (aB rfl (nn (W_ret (retG1 (v1:=Bo true) Tryz.results27 rfl ?_)))))
 obtain rfl:=so hF
 exact ⟨rfl,(Star.keepN 0 hst)⟩
theorem l_eqStepS_c {a : List Step} {b : List Step} {v0 : Value} {v1 : Value} {H : FH} {w : World} (hst : Star H w []) (h0 : (rS 56 (rStep 83)).rel H [v0] a) (h1 : (rS 56 (rStep 83)).rel H [v1] b) {r : Bool} (hF : l_eqStepS a b = some r) :
 C Tryz.prog 10 #[v0,v1] w fun v w'=>v = Bo r∧Star H w' []:=by
 unfold l_eqStepS at hF
 refine C_enter Tryz.func10 rfl Tryz.ntmps10 rfl (sq (aB rfl (nq (sq (mV v0 rfl (L_len rfl Tryz.underlying26 rfl (slice_len h0) (mV v1 rfl (L_len rfl Tryz.underlying26 rfl (slice_len h1) (L_neq rfl rfl rfl (nn (W_cond (b:=((a.length : Int) != (b.length : Int))) rfl (fun hc1=>?_) (fun hc1=>?_))))))))))))
 have hF:=(ite_t hc1).symm.trans hF
 refine sq (aB rfl (nn (W_ret (retG1 (v1:=Bo false) Tryz.results10 rfl ?_))))
 obtain rfl:=so hF
 exact ⟨rfl,hst⟩
 have hF:=(ite_f hc1).symm.trans hF
 refine W_skip (W_seq (sq (aI rfl (nn ?_))))
 have hlen5 : List.length a≤9223372036854775807:=len_le (slice_len h0)
 obtain ⟨j5,hL5,hF⟩:=bind_some hF
 obtain ⟨R5,hR5⟩:=exR fun f w_=>∃ H3 : FH,j5 = .nx ()∧Le H H3∧Star H3 w_ ([])
 refine W_join R5 ?_ ?_
 refine W_block ?_
 obtain ⟨I5,hI5⟩:=exI fun n f w_=>∃ i_2 : Nat,∃ suf5 : List Step,∃ H3 : FH,n = suf5.length∧List.drop i_2 a = suf5∧i_2 + suf5.length = a.length∧rangeL (l_eqStepS_b1 b) suf5 i_2 () = some j5∧Le H H3∧f 0 = v0∧f 1 = v1∧f 5 = I i_2∧Star H3 w_ ([])
 refine W_loop I5 (n:=a.length) ?_ ?_
 exact ij hI5 ⟨0,a,H,rfl,rfl,Nat.zero_add _,hL5,(Le.refl _),rfl,rfl,rfl,hst⟩
 intro n5 f w_ hI
 obtain ⟨i_2,suf5,H3,rfl,hd5,hl5,hL5,l4,sf0,sf1,sf5,hst⟩:=ik hI5 hI
 refine W_seq (sq (mF sf5 rfl (mF sf0 rfl (L_len rfl Tryz.underlying26 rfl (slice_len (RP.mono _ h0 l4)) (L_lss rfl rfl rfl (nn (W_cond (b:=decide ((i_2 : Int) < (a.length : Int))) rfl (fun hc6=>?_) (fun hc6=>?_))))))))
 have hlt5:=of_decide_eq_true hc6
 rcases suf5 with _ | ⟨x_5,rest5⟩
 exact absurd hlt5 (by simp at hl5; omega)
 obtain ⟨o5,hB5,hL5⟩:=range_cons hL5
 rw [l_eqStepS_b1] at hB5
 have hix5:=drop_idx hd5
 refine W_skip (W_seq (W_block (W_seq ?_)))
 obtain ⟨x11,hx11,hB5⟩:=bind_some hB5
 obtain ⟨x21,hx21,hB5⟩:=bind_some hB5
 refine W_drawS 8 [isV (v0),isV (I i_2),isEl (rStep 83) x_5 0,exD (isData (rS 83 rTerm) x_5.given.terms) fun u_3=>isV (.agg #[I x_5.kind,I x_5.a,I x_5.b,u_3,I x_5.given.bound]),isV (v1),isV (I i_2),isEl (rStep 83) x11 0,exD (isData (rS 83 rTerm) x11.given.terms) fun u_3=>isV (.agg #[I x11.kind,I x11.a,I x11.b,u_3,I x11.given.bound])] [] [] ([]) [([],[]),([],[]),([],[]),([],[]),([],[]),([],[]),([],[]),([],[])] (S:=[]) Tryz_mix (by kernel_rfl) rfl (by kernel_rfl) (amF_cons (mono_V _) (amF_cons (mono_V _) (amF_cons (mono_el _ _ _) (amF_cons (mono_exD (mono_data _ _) fun _=>mono_V _) (amF_cons (mono_V _) (amF_cons (mono_V _) (amF_cons (mono_el _ _ _) (amF_cons (mono_exD (mono_data _ _) fun _=>mono_V _) amF_nil)))))))) hst ?_ (fun f w_ H23 hS23 hE23 hT23 hst=>?_)
 refine opsS_cons (fun f w_ _ _ s _ _ hst=>mF ((s 0 rfl).trans sf0) rfl (nO rfl rfl hst)) (opsS_cons (fun f w_ _ _ s _ _ hst=>mF ((s 5 rfl).trans sf5) rfl (nO rfl rfl hst)) (opsS_cons ?_ ?_))
 intro f w_ H23 X23 hS23 hE23 hP23 hst
 refine L_ix (r:=(rStep 83)) rfl Tryz.underlying26 Tryz.sizeOf56 (hP23 0 17 rfl rfl) (RP.mono _ h0 (Le.trans l4 hE23)) (hP23 1 18 rfl rfl) hix5 (fun g32 o33 cs_g32 hrk_hat34 hat34=>?_)
 obtain ⟨u35_0,rfl,hu35_0⟩:=rStep_iff.1 hrk_hat34
 exact L_nil ⟨rfl,_,_,rfl,Le.refl _,fun _ _=>⟨_,_,_,rfl,hrk_hat34,hat34⟩,hst⟩
 refine opsS_cons ?_ ?_
 intro f w_ H23 X23 hS23 hE23 hP23 hst
 obtain ⟨g36,o36,cs36,hv36,hrk_hat36,hat36⟩:=(hP23 2 19 rfl rfl)
 obtain ⟨u37_0,rfl,hu37_0⟩:=rStep_iff.1 hrk_hat36
 refine L_lda (cs:=[I x_5.kind,I x_5.a,I x_5.b,u37_0,I x_5.given.bound]) rfl Tryz.isAgg56 Tryz.sizeOf56 hv36 (At.sub (AtH.at hat36 hst.sub) 0 5) rfl (L_nil ⟨rfl,_,_,rfl,Le.refl _,fun _ _=>⟨_,hu37_0,rfl⟩,hst⟩)
 refine opsS_cons (fun f w_ _ _ s _ _ hst=>mF ((s 1 rfl).trans sf1) rfl (nO rfl rfl hst)) (opsS_cons (fun f w_ _ _ s _ _ hst=>mF ((s 5 rfl).trans sf5) rfl (nO rfl rfl hst)) (opsS_cons ?_ ?_))
 intro f w_ H23 X23 hS23 hE23 hP23 hst
 refine L_ix (r:=(rStep 83)) rfl Tryz.underlying26 Tryz.sizeOf56 (hP23 4 21 rfl rfl) (RP.mono _ h1 (Le.trans l4 hE23)) (hP23 5 22 rfl rfl) hx11 (fun g38 o39 cs_g38 hrk_hat40 hat40=>?_)
 obtain ⟨u41_0,rfl,hu41_0⟩:=rStep_iff.1 hrk_hat40
 exact L_nil ⟨rfl,_,_,rfl,Le.refl _,fun _ _=>⟨_,_,_,rfl,hrk_hat40,hat40⟩,hst⟩
 refine opsS_cons ?_ ?_
 intro f w_ H23 X23 hS23 hE23 hP23 hst
 obtain ⟨g42,o42,cs42,hv42,hrk_hat42,hat42⟩:=(hP23 6 23 rfl rfl)
 obtain ⟨u43_0,rfl,hu43_0⟩:=rStep_iff.1 hrk_hat42
 refine L_lda (cs:=[I x11.kind,I x11.a,I x11.b,u43_0,I x11.given.bound]) rfl Tryz.isAgg56 Tryz.sizeOf56 hv42 (At.sub (AtH.at hat42 hst.sub) 0 5) rfl (L_nil ⟨rfl,_,_,rfl,Le.refl _,fun _ _=>⟨_,hu43_0,rfl⟩,hst⟩)
 exact opsS_nil
 obtain ⟨u44_3,hu44_3,hv44⟩:=(hT23 3 20 rfl rfl)
 obtain ⟨u45_3,hu45_3,hv45⟩:=(hT23 7 24 rfl rfl)
 obtain ⟨H46b,l47,s48,z49,k50⟩:=hst.borrow
 refine L_call rfl Tryz.call27 (ops2 hv44 hv45) (l_eqStep_c (a:=x_5) (b:=x11) s48 (RP.mono _ hu44_3 l47) (RP.mono _ hu45_3 l47) hx21) ?_
 rintro _ w51 ⟨rfl,hst⟩
 have hst:=k50 hst c0
 refine L_not_ rfl rfl (nn (W_cond (b:=(!x21)) rfl (fun hc52=>?_) (fun hc52=>?_)))
 have hB5:=(ite_t hc52).symm.trans hB5
 refine sq (aB rfl (nn (W_ret (retG1 (v1:=Bo false) Tryz.results10 rfl ?_))))
 obtain rfl:=so hB5
 obtain rfl:=so hL5
 obtain rfl:=so hF
 exact ⟨rfl,(Star.down hst (Le.trans l4 hE23) c0)⟩
 have hB5:=(ite_f hc52).symm.trans hB5
 refine W_skip (W_region (mF ((hS23 5 rfl).trans sf5) rfl (L_add rfl rfl rfl (aI rfl (nn ?_)))))
 obtain rfl:=so hB5
 show ∃ m,m < _∧I5 m _ _
 refine ⟨rest5.length,by simp,?_⟩
 exact ij hI5 ⟨i_2 + 1,rest5,H23,rfl,drop_next hd5,by simp at hl5; omega,hL5,(Le.trans l4 hE23),((hS23 0 rfl).trans sf0),((hS23 1 rfl).trans sf1),(Eq.trans rfl (congrArg (Value.int .i64) (i64_succ (n:=a.length) (by simp at hl5; omega) hlen5))),hst⟩
 rcases suf5 with _ | ⟨_,_⟩
 obtain rfl:=range_nil hL5
 refine W_exit (rj hR5 ⟨H3,rfl,l4,hst⟩)
 exact absurd (of_decide_eq_false hc6) (by simp at hl5; omega)
 intro f w_ hR
 obtain ⟨H3,rfl,l4,hst⟩:=rk hR5 hR
 refine sq (aB rfl (nn (W_ret (retG1 (v1:=Bo true) Tryz.results10 rfl ?_))))
 obtain rfl:=so hF
 exact ⟨rfl,(Star.down hst l4 c0)⟩
theorem l_eqConstraintS_c {a : List Con} {b : List Con} {v0 : Value} {v1 : Value} {H : FH} {w : World} (hst : Star H w []) (h0 : (rS 54 (rCon 83)).rel H [v0] a) (h1 : (rS 54 (rCon 83)).rel H [v1] b) {r : Bool} (hF : l_eqConstraintS a b = some r) :
 C Tryz.prog 11 #[v0,v1] w fun v w'=>v = Bo r∧Star H w' []:=by
 unfold l_eqConstraintS at hF
 refine C_enter Tryz.func11 rfl Tryz.ntmps11 rfl (sq (aB rfl (nq (sq (mV v0 rfl (L_len rfl Tryz.underlying29 rfl (slice_len h0) (mV v1 rfl (L_len rfl Tryz.underlying29 rfl (slice_len h1) (L_neq rfl rfl rfl (nn (W_cond (b:=((a.length : Int) != (b.length : Int))) rfl (fun hc1=>?_) (fun hc1=>?_))))))))))))
 have hF:=(ite_t hc1).symm.trans hF
 refine sq (aB rfl (nn (W_ret (retG1 (v1:=Bo false) Tryz.results11 rfl ?_))))
 obtain rfl:=so hF
 exact ⟨rfl,hst⟩
 have hF:=(ite_f hc1).symm.trans hF
 refine W_skip (W_seq (sq (aI rfl (nn ?_))))
 have hlen5 : List.length a≤9223372036854775807:=len_le (slice_len h0)
 obtain ⟨j5,hL5,hF⟩:=bind_some hF
 obtain ⟨R5,hR5⟩:=exR fun f w_=>∃ H3 : FH,j5 = .nx ()∧Le H H3∧Star H3 w_ ([])
 refine W_join R5 ?_ ?_
 refine W_block ?_
 obtain ⟨I5,hI5⟩:=exI fun n f w_=>∃ i_2 : Nat,∃ suf5 : List Con,∃ H3 : FH,n = suf5.length∧List.drop i_2 a = suf5∧i_2 + suf5.length = a.length∧rangeL (l_eqConstraintS_b1 b) suf5 i_2 () = some j5∧Le H H3∧f 0 = v0∧f 1 = v1∧f 5 = I i_2∧Star H3 w_ ([])
 refine W_loop I5 (n:=a.length) ?_ ?_
 exact ij hI5 ⟨0,a,H,rfl,rfl,Nat.zero_add _,hL5,(Le.refl _),rfl,rfl,rfl,hst⟩
 intro n5 f w_ hI
 obtain ⟨i_2,suf5,H3,rfl,hd5,hl5,hL5,l4,sf0,sf1,sf5,hst⟩:=ik hI5 hI
 refine W_seq (sq (mF sf5 rfl (mF sf0 rfl (L_len rfl Tryz.underlying29 rfl (slice_len (RP.mono _ h0 l4)) (L_lss rfl rfl rfl (nn (W_cond (b:=decide ((i_2 : Int) < (a.length : Int))) rfl (fun hc6=>?_) (fun hc6=>?_))))))))
 have hlt5:=of_decide_eq_true hc6
 rcases suf5 with _ | ⟨x_5,rest5⟩
 exact absurd hlt5 (by simp at hl5; omega)
 obtain ⟨o5,hB5,hL5⟩:=range_cons hL5
 rw [l_eqConstraintS_b1] at hB5
 have hix5:=drop_idx hd5
 refine W_skip (W_seq (W_block (W_seq ?_)))
 obtain ⟨x11,hx11,hB5⟩:=bind_some hB5
 obtain ⟨x21,hx21,hB5⟩:=bind_some hB5
 refine W_drawS 8 [isV (v0),isV (I i_2),isEl (rCon 83) x_5 0,exD (isData (rS 83 rTerm) x_5.terms) fun u_0=>isV (.agg #[u_0,I x_5.bound]),isV (v1),isV (I i_2),isEl (rCon 83) x11 0,exD (isData (rS 83 rTerm) x11.terms) fun u_0=>isV (.agg #[u_0,I x11.bound])] [] [] ([]) [([],[]),([],[]),([],[]),([],[]),([],[]),([],[]),([],[]),([],[])] (S:=[]) Tryz_mix (by kernel_rfl) rfl (by kernel_rfl) (amF_cons (mono_V _) (amF_cons (mono_V _) (amF_cons (mono_el _ _ _) (amF_cons (mono_exD (mono_data _ _) fun _=>mono_V _) (amF_cons (mono_V _) (amF_cons (mono_V _) (amF_cons (mono_el _ _ _) (amF_cons (mono_exD (mono_data _ _) fun _=>mono_V _) amF_nil)))))))) hst ?_ (fun f w_ H23 hS23 hE23 hT23 hst=>?_)
 refine opsS_cons (fun f w_ _ _ s _ _ hst=>mF ((s 0 rfl).trans sf0) rfl (nO rfl rfl hst)) (opsS_cons (fun f w_ _ _ s _ _ hst=>mF ((s 5 rfl).trans sf5) rfl (nO rfl rfl hst)) (opsS_cons ?_ ?_))
 intro f w_ H23 X23 hS23 hE23 hP23 hst
 refine L_ix (r:=(rCon 83)) rfl Tryz.underlying29 Tryz.sizeOf54 (hP23 0 17 rfl rfl) (RP.mono _ h0 (Le.trans l4 hE23)) (hP23 1 18 rfl rfl) hix5 (fun g32 o33 cs_g32 hrk_hat34 hat34=>?_)
 obtain ⟨u35_0,rfl,hu35_0⟩:=rCon_iff.1 hrk_hat34
 exact L_nil ⟨rfl,_,_,rfl,Le.refl _,fun _ _=>⟨_,_,_,rfl,hrk_hat34,hat34⟩,hst⟩
 refine opsS_cons ?_ ?_
 intro f w_ H23 X23 hS23 hE23 hP23 hst
 obtain ⟨g36,o36,cs36,hv36,hrk_hat36,hat36⟩:=(hP23 2 19 rfl rfl)
 obtain ⟨u37_0,rfl,hu37_0⟩:=rCon_iff.1 hrk_hat36
 refine L_lda (cs:=[u37_0,I x_5.bound]) rfl Tryz.isAgg54 Tryz.sizeOf54 hv36 (At.sub (AtH.at hat36 hst.sub) 0 2) rfl (L_nil ⟨rfl,_,_,rfl,Le.refl _,fun _ _=>⟨_,hu37_0,rfl⟩,hst⟩)
 refine opsS_cons (fun f w_ _ _ s _ _ hst=>mF ((s 1 rfl).trans sf1) rfl (nO rfl rfl hst)) (opsS_cons (fun f w_ _ _ s _ _ hst=>mF ((s 5 rfl).trans sf5) rfl (nO rfl rfl hst)) (opsS_cons ?_ ?_))
 intro f w_ H23 X23 hS23 hE23 hP23 hst
 refine L_ix (r:=(rCon 83)) rfl Tryz.underlying29 Tryz.sizeOf54 (hP23 4 21 rfl rfl) (RP.mono _ h1 (Le.trans l4 hE23)) (hP23 5 22 rfl rfl) hx11 (fun g38 o39 cs_g38 hrk_hat40 hat40=>?_)
 obtain ⟨u41_0,rfl,hu41_0⟩:=rCon_iff.1 hrk_hat40
 exact L_nil ⟨rfl,_,_,rfl,Le.refl _,fun _ _=>⟨_,_,_,rfl,hrk_hat40,hat40⟩,hst⟩
 refine opsS_cons ?_ ?_
 intro f w_ H23 X23 hS23 hE23 hP23 hst
 obtain ⟨g42,o42,cs42,hv42,hrk_hat42,hat42⟩:=(hP23 6 23 rfl rfl)
 obtain ⟨u43_0,rfl,hu43_0⟩:=rCon_iff.1 hrk_hat42
 refine L_lda (cs:=[u43_0,I x11.bound]) rfl Tryz.isAgg54 Tryz.sizeOf54 hv42 (At.sub (AtH.at hat42 hst.sub) 0 2) rfl (L_nil ⟨rfl,_,_,rfl,Le.refl _,fun _ _=>⟨_,hu43_0,rfl⟩,hst⟩)
 exact opsS_nil
 obtain ⟨u44_0,hu44_0,hv44⟩:=(hT23 3 20 rfl rfl)
 obtain ⟨u45_0,hu45_0,hv45⟩:=(hT23 7 24 rfl rfl)
 obtain ⟨H46b,l47,s48,z49,k50⟩:=hst.borrow
 refine L_call rfl Tryz.call28 (ops2 hv44 hv45) (l_eqConstraint_c (a:=x_5) (b:=x11) s48 (RP.mono _ hu44_0 l47) (RP.mono _ hu45_0 l47) hx21) ?_
 rintro _ w51 ⟨rfl,hst⟩
 have hst:=k50 hst c0
 refine L_not_ rfl rfl (nn (W_cond (b:=(!x21)) rfl (fun hc52=>?_) (fun hc52=>?_)))
 have hB5:=(ite_t hc52).symm.trans hB5
 refine sq (aB rfl (nn (W_ret (retG1 (v1:=Bo false) Tryz.results11 rfl ?_))))
 obtain rfl:=so hB5
 obtain rfl:=so hL5
 obtain rfl:=so hF
 exact ⟨rfl,(Star.down hst (Le.trans l4 hE23) c0)⟩
 have hB5:=(ite_f hc52).symm.trans hB5
 refine W_skip (W_region (mF ((hS23 5 rfl).trans sf5) rfl (L_add rfl rfl rfl (aI rfl (nn ?_)))))
 obtain rfl:=so hB5
 show ∃ m,m < _∧I5 m _ _
 refine ⟨rest5.length,by simp,?_⟩
 exact ij hI5 ⟨i_2 + 1,rest5,H23,rfl,drop_next hd5,by simp at hl5; omega,hL5,(Le.trans l4 hE23),((hS23 0 rfl).trans sf0),((hS23 1 rfl).trans sf1),(Eq.trans rfl (congrArg (Value.int .i64) (i64_succ (n:=a.length) (by simp at hl5; omega) hlen5))),hst⟩
 rcases suf5 with _ | ⟨_,_⟩
 obtain rfl:=range_nil hL5
 refine W_exit (rj hR5 ⟨H3,rfl,l4,hst⟩)
 exact absurd (of_decide_eq_false hc6) (by simp at hl5; omega)
 intro f w_ hR
 obtain ⟨H3,rfl,l4,hst⟩:=rk hR5 hR
 refine sq (aB rfl (nn (W_ret (retG1 (v1:=Bo true) Tryz.results11 rfl ?_))))
 obtain rfl:=so hF
 exact ⟨rfl,(Star.down hst l4 c0)⟩
theorem l_markTermS_c {fu : Nat} {a : List Term} {k : Int} {v0 : Value} {H : FH} {w : World} (hst : Star H w [oF 83 rTerm v0 a]) {r : Int × (List Term)} (hF : l_markTermS fu a k = some r) :
 C Tryz.prog 29 #[v0,I k] w fun v w'=>v = I r.1∧Star H w' [oF 83 rTerm v0 r.2]:=by
 unfold l_markTermS at hF
 refine C_enter Tryz.func29 rfl Tryz.ntmps29 rfl (sq (aI rfl (nq (sq (aI rfl (nn ?_))))))
 obtain ⟨j8,hL8,hF⟩:=bind_some hF
 obtain ⟨R8,hR8⟩:=exR fun f w_=>∃ a_5 : List Term,∃ k_6 : Int,∃ i_7 : Int,j8 = .nx (a_5,k_6,i_7)∧f 1 = I k_6∧Star H w_ ([oF 83 rTerm v0 a_5])
 refine W_join R8 ?_ ?_
 refine W_block ?_
 obtain ⟨I8,hI8⟩:=exI fun n f w_=>∃ a_5 : List Term,∃ k_6 : Int,∃ i_7 : Int,whileL l_markTermS_b1 n (a_5,k_6,i_7) = some j8∧f 0 = v0∧f 1 = I k_6∧f 5 = I i_7∧Star H w_ ([oF 83 rTerm v0 a_5])
 refine W_loop I8 (n:=fu) ?_ ?_
 exact ij hI8 ⟨a,k,0,hL8,rfl,rfl,rfl,hst⟩
 intro n8 f w_ hI
 obtain ⟨a_5,k_6,i_7,hL8,sf0,sf1,sf5,hst⟩:=ik hI8 hI
 rcases n8 with _ | n8
 exact (while_zero hL8).elim
 obtain ⟨o8,hB8,hL8⟩:=while_succ hL8
 rw [l_markTermS_b1] at hB8
 refine W_seq (sq (mF sf5 rfl (mF sf0 rfl (L_len rfl Tryz.underlying52 rfl (Star.len 0 hst rfl) (L_lss rfl rfl rfl (nn (W_cond (b:=decide (i_7 < (a_5.length : Int))) rfl (fun hc9=>?_) (fun hc9=>?_))))))))
 have hB8:=(ite_t hc9).symm.trans hB8
 refine W_skip (W_seq (W_block (W_seq ?_)))
 obtain ⟨x10,hx10,hB8⟩:=bind_some hB8
 refine W_region (mF sf0 rfl (mF sf5 rfl (mF sf1 rfl ?_)))
 obtain ⟨g14,cap_g14,hv15,_,_⟩:=Star.row 0 hst rfl hx10
 refine L_ixO (R:=(OR.frz rTerm)) (tb:=0) 0 rfl Tryz.underlying52 Tryz.sizeOf83 rfl hv15 (by first | rfl | simp) rfl hx10 (fA (Int.toNat i_7 * 2 + 0) fa_83_0 rfl rfl (L_stF (j:=0) (u:=I k_6) (z:={ x10 with coef:=k_6 }) rfl Tryz.sizeOf3 rfl rfl rfl rfl hv15 hst hx10 fldF_rTerm_0 (fun w16 hst=>ns (mF sf1 rfl (L_add rfl rfl rfl (aI rfl (nq ?_)))))))
 obtain ⟨x17,hx17,hB8⟩:=bind_some hB8
 refine W_region (mF sf0 rfl (mF sf5 rfl (mI rfl (L_ixO (R:=(OR.frz rTerm)) (tb:=0) 0 rfl Tryz.underlying52 Tryz.sizeOf83 rfl hv15 (by first | rfl | simp) rfl hx17 (fA (Int.toNat i_7 * 2 + 1) fa_83_1 rfl rfl (L_stF (j:=1) (u:=I (i64 (k_6 + 1))) (z:={ x17 with lit:=i64 (k_6 + 1) }) rfl Tryz.sizeOf3 rfl rfl rfl rfl hv15 hst hx17 fldF_rTerm_1 (fun w19 hst=>nn (W_region (mI rfl (L_add rfl rfl rfl (aI rfl (nn (W_region (mF sf5 rfl (L_add rfl rfl rfl (aI rfl (nn ?_)))))))))))))))))
 obtain rfl:=so hB8
 show ∃ m,m < _∧I8 m _ _
 refine ⟨n8,Nat.lt_succ_self _,?_⟩
 exact ij hI8 ⟨((a_5.set (Int.toNat i_7) ({ x10 with coef:=k_6 })).set (Int.toNat i_7) ({ x17 with lit:=i64 (k_6 + 1) })),i64 ((i64 (k_6 + 1)) + 1),i64 (i_7 + 1),hL8,sf0,rfl,rfl,hst⟩
 have hB8:=(ite_f hc9).symm.trans hB8
 refine W_exit ?_
 obtain rfl:=so hB8
 obtain rfl:=so hL8
 exact rj hR8 ⟨a_5,k_6,i_7,rfl,sf1,hst⟩
 intro f w_ hR
 obtain ⟨a_5,k_6,i_7,rfl,sf1,hst⟩:=rk hR8 hR
 refine sq (mF sf1 rfl (aI rfl (nn (W_ret (retG1 (v1:=I k_6) Tryz.results29 rfl ?_)))))
 obtain rfl:=so hF
 exact ⟨rfl,hst⟩
theorem l_markConstraintS_c {fu : Nat} {a : List Con} {k : Int} {v0 : Value} {H : FH} {w : World} (hst : Star H w [oS 54 (oCon 83) v0 a]) {r : Int × (List Con)} (hF : l_markConstraintS fu a k = some r) :
 C Tryz.prog 12 #[v0,I k] w fun v w'=>v = I r.1∧Star H w' [oS 54 (oCon 83) v0 r.2]:=by
 unfold l_markConstraintS at hF
 refine C_enter Tryz.func12 rfl Tryz.ntmps12 rfl (sq (aI rfl (nq (sq (aI rfl (nn ?_))))))
 obtain ⟨j8,hL8,hF⟩:=bind_some hF
 obtain ⟨R8,hR8⟩:=exR fun f w_=>∃ a_5 : List Con,∃ k_6 : Int,∃ i_7 : Int,j8 = .nx (a_5,k_6,i_7)∧f 1 = I k_6∧Star H w_ ([oS 54 (oCon 83) v0 a_5])
 refine W_join R8 ?_ ?_
 refine W_block ?_
 obtain ⟨I8,hI8⟩:=exI fun n f w_=>∃ a_5 : List Con,∃ k_6 : Int,∃ i_7 : Int,whileL (l_markConstraintS_b1 fu) n (a_5,k_6,i_7) = some j8∧f 0 = v0∧f 1 = I k_6∧f 5 = I i_7∧Star H w_ ([oS 54 (oCon 83) v0 a_5])
 refine W_loop I8 (n:=fu) ?_ ?_
 exact ij hI8 ⟨a,k,0,hL8,rfl,rfl,rfl,hst⟩
 intro n8 f w_ hI
 obtain ⟨a_5,k_6,i_7,hL8,sf0,sf1,sf5,hst⟩:=ik hI8 hI
 rcases n8 with _ | n8
 exact (while_zero hL8).elim
 obtain ⟨o8,hB8,hL8⟩:=while_succ hL8
 rw [l_markConstraintS_b1] at hB8
 refine W_seq (sq (mF sf5 rfl (mF sf0 rfl (L_len rfl Tryz.underlying29 rfl (Star.len 0 hst rfl) (L_lss rfl rfl rfl (nn (W_cond (b:=decide (i_7 < (a_5.length : Int))) rfl (fun hc9=>?_) (fun hc9=>?_))))))))
 have hB8:=(ite_t hc9).symm.trans hB8
 refine W_skip (W_seq (W_block (W_seq ?_)))
 obtain ⟨x10,hx10,hB8⟩:=bind_some hB8
 obtain ⟨x20,hx20,hB8⟩:=bind_some hB8
 refine W_region (mF sf0 rfl (mF sf5 rfl ?_))
 obtain ⟨g22,cap_g22,hv23,_,_⟩:=Star.row 0 hst rfl hx10
 refine L_ixO (R:=(oCon 83)) (tb:=0) 0 rfl Tryz.underlying29 Tryz.sizeOf54 rfl hv23 (by first | rfl | simp) rfl hx10 (fA (Int.toNat i_7 * 2 + 0) fa_54_0 rfl rfl ?_)
 obtain ⟨cs24,hst,hat24⟩:=Star.focus hst hx10
 have hat24:=hat24 _ _ _ hv23
 obtain ⟨u24_0,rfl,hst⟩:=oCon_open hst
 refine L_ld rfl Tryz.isAgg52 rfl (At.cell hat24 (j:=0) rfl) (mF sf1 rfl ?_)
 obtain ⟨H26b,l27,s28,z29,k30⟩:=hst.lend [_]
 refine L_call rfl Tryz.call29 (ops2 rfl rfl) (l_markTermS_c (a:=x10.terms) (k:=k_6) s28 hx20) ?_
 rintro _ w31 ⟨rfl,hst⟩
 have hst:=k30 hst (co closed_term c0)
 refine aI rfl (nq ?_)
 have hst:=oCon_close (c:=({ terms:=x20.2,bound:=x10.bound } : Con)) hst
 have hst:=Star.unfocus (x':=({ terms:=x20.2,bound:=x10.bound } : Con)) (idx_some hx10).2.2 hst
 obtain ⟨x32,hx32,hB8⟩:=bind_some hB8
 refine W_region (mF sf0 rfl (mF sf5 rfl (mI rfl (L_ixO (R:=(oCon 83)) (tb:=0) 0 rfl Tryz.underlying29 Tryz.sizeOf54 rfl hv23 (by first | rfl | simp) rfl hx32 (fA (Int.toNat i_7 * 2 + 1) fa_54_1 rfl rfl (L_stF (j:=1) (u:=I x20.1) (z:={ x32 with bound:=x20.1 }) rfl Tryz.sizeOf3 rfl rfl rfl rfl hv23 hst hx32 fld_oCon_1 (fun w34 hst=>nn (W_region (mI rfl (L_add rfl rfl rfl (aI rfl (nn (W_region (mF sf5 rfl (L_add rfl rfl rfl (aI rfl (nn ?_)))))))))))))))))
 obtain rfl:=so hB8
 show ∃ m,m < _∧I8 m _ _
 refine ⟨n8,Nat.lt_succ_self _,?_⟩
 exact ij hI8 ⟨((a_5.set (Int.toNat i_7) ({ terms:=x20.2,bound:=x10.bound } : Con)).set (Int.toNat i_7) ({ x32 with bound:=x20.1 })),i64 (x20.1 + 1),i64 (i_7 + 1),hL8,sf0,rfl,rfl,hst⟩
 have hB8:=(ite_f hc9).symm.trans hB8
 refine W_exit ?_
 obtain rfl:=so hB8
 obtain rfl:=so hL8
 exact rj hR8 ⟨a_5,k_6,i_7,rfl,sf1,hst⟩
 intro f w_ hR
 obtain ⟨a_5,k_6,i_7,rfl,sf1,hst⟩:=rk hR8 hR
 refine sq (mF sf1 rfl (aI rfl (nn (W_ret (retG1 (v1:=I k_6) Tryz.results12 rfl ?_)))))
 obtain rfl:=so hF
 exact ⟨rfl,hst⟩
theorem l_markStepS_c {fu : Nat} {a : List Step} {k : Int} {v0 : Value} {H : FH} {w : World} (hst : Star H w [oS 56 (oStep 83) v0 a]) {r : Int × (List Step)} (hF : l_markStepS fu a k = some r) :
 C Tryz.prog 13 #[v0,I k] w fun v w'=>v = I r.1∧Star H w' [oS 56 (oStep 83) v0 r.2]:=by
 unfold l_markStepS at hF
 refine C_enter Tryz.func13 rfl Tryz.ntmps13 rfl (sq (aI rfl (nq (sq (aI rfl (nn ?_))))))
 obtain ⟨j8,hL8,hF⟩:=bind_some hF
 obtain ⟨R8,hR8⟩:=exR fun f w_=>∃ a_5 : List Step,∃ k_6 : Int,∃ i_7 : Int,j8 = .nx (a_5,k_6,i_7)∧f 1 = I k_6∧Star H w_ ([oS 56 (oStep 83) v0 a_5])
 refine W_join R8 ?_ ?_
 refine W_block ?_
 obtain ⟨I8,hI8⟩:=exI fun n f w_=>∃ a_5 : List Step,∃ k_6 : Int,∃ i_7 : Int,whileL (l_markStepS_b1 fu a) n (a_5,k_6,i_7) = some j8∧f 0 = v0∧f 1 = I k_6∧f 5 = I i_7∧Star H w_ ([oS 56 (oStep 83) v0 a_5])
 refine W_loop I8 (n:=fu) ?_ ?_
 exact ij hI8 ⟨a,k,0,hL8,rfl,rfl,rfl,hst⟩
 intro n8 f w_ hI
 obtain ⟨a_5,k_6,i_7,hL8,sf0,sf1,sf5,hst⟩:=ik hI8 hI
 rcases n8 with _ | n8
 exact (while_zero hL8).elim
 obtain ⟨o8,hB8,hL8⟩:=while_succ hL8
 rw [l_markStepS_b1] at hB8
 refine W_seq (sq (mF sf5 rfl (mF sf0 rfl (L_len rfl Tryz.underlying26 rfl (Star.len 0 hst rfl) (L_lss rfl rfl rfl (nn (W_cond (b:=decide (i_7 < (a_5.length : Int))) rfl (fun hc9=>?_) (fun hc9=>?_))))))))
 have hB8:=(ite_t hc9).symm.trans hB8
 refine W_skip (W_seq (W_block (W_seq ?_)))
 obtain ⟨x10,hx10,hB8⟩:=bind_some hB8
 refine W_region (mF sf0 rfl (mF sf5 rfl (mF sf1 rfl ?_)))
 obtain ⟨g14,cap_g14,hv15,_,_⟩:=Star.row 0 hst rfl hx10
 refine L_ixO (R:=(oStep 83)) (tb:=0) 0 rfl Tryz.underlying26 Tryz.sizeOf56 rfl hv15 (by first | rfl | simp) rfl hx10 (fA (Int.toNat i_7 * 5 + 0) fa_56_0 rfl rfl (L_stF (j:=0) (u:=I k_6) (z:={ x10 with kind:=k_6 }) rfl Tryz.sizeOf3 rfl rfl rfl rfl hv15 hst hx10 fld_oStep_0 (fun w16 hst=>ns (mF sf1 rfl (L_add rfl rfl rfl (aI rfl (nq ?_)))))))
 obtain ⟨x17,hx17,hB8⟩:=bind_some hB8
 refine W_region (mF sf0 rfl (mF sf5 rfl (mI rfl (L_ixO (R:=(oStep 83)) (tb:=0) 0 rfl Tryz.underlying26 Tryz.sizeOf56 rfl hv15 (by first | rfl | simp) rfl hx17 (fA (Int.toNat i_7 * 5 + 1) fa_56_1 rfl rfl (L_stF (j:=1) (u:=I (i64 (k_6 + 1))) (z:={ x17 with a:=i64 (k_6 + 1) }) rfl Tryz.sizeOf3 rfl rfl rfl rfl hv15 hst hx17 fld_oStep_1 (fun w19 hst=>ns (mI rfl (L_add rfl rfl rfl (aI rfl (nq ?_)))))))))))
 obtain ⟨x20,hx20,hB8⟩:=bind_some hB8
 refine W_region (mF sf0 rfl (mF sf5 rfl (mI rfl (L_ixO (R:=(oStep 83)) (tb:=0) 0 rfl Tryz.underlying26 Tryz.sizeOf56 rfl hv15 (by first | rfl | simp) rfl hx20 (fA (Int.toNat i_7 * 5 + 2) fa_56_2 rfl rfl (L_stF (j:=2) (u:=I (i64 ((i64 (k_6 + 1)) + 1))) (z:={ x20 with b:=i64 ((i64 (k_6 + 1)) + 1) }) rfl Tryz.sizeOf3 rfl rfl rfl rfl hv15 hst hx20 fld_oStep_2 (fun w22 hst=>ns (mI rfl (L_add rfl rfl rfl (aI rfl (nq ?_)))))))))))
 obtain ⟨x23,hx23,hB8⟩:=bind_some hB8
 obtain ⟨x31,hx31,hB8⟩:=bind_some hB8
 refine W_region (mF sf0 rfl (mF sf5 rfl (L_ixO (R:=(oStep 83)) (tb:=0) 0 rfl Tryz.underlying26 Tryz.sizeOf56 rfl hv15 (by first | rfl | simp) rfl hx23 (fA (Int.toNat i_7 * 5 + 3) fa_56_3 rfl rfl (fA (Int.toNat i_7 * 5 + 3) fa_54_0 rfl rfl ?_)))))
 obtain ⟨cs33,hst,hat33⟩:=Star.focus hst hx23
 have hat33:=hat33 _ _ _ hv15
 obtain ⟨u33_0,rfl,hst⟩:=oStep_open hst
 refine L_ld rfl Tryz.isAgg52 rfl (At.cell hat33 (j:=3) rfl) (mI rfl ?_)
 obtain ⟨H35b,l36,s37,z38,k39⟩:=hst.lend [_]
 refine L_call rfl Tryz.call29 (ops2 rfl rfl) (l_markTermS_c (a:=x23.given.terms) (k:=i64 ((i64 ((i64 (k_6 + 1)) + 1)) + 1)) s37 hx31) ?_
 rintro _ w40 ⟨rfl,hst⟩
 have hst:=k39 hst (co closed_term c0)
 refine aI rfl (nq ?_)
 have hst:=oStep_close (s:=({ kind:=x23.kind,a:=x23.a,b:=x23.b,given:=({ terms:=x31.2,bound:=x23.given.bound } : Con) } : Step)) hst
 have hst:=Star.unfocus (x':=({ kind:=x23.kind,a:=x23.a,b:=x23.b,given:=({ terms:=x31.2,bound:=x23.given.bound } : Con) } : Step)) (idx_some hx23).2.2 hst
 obtain ⟨x41,hx41,hB8⟩:=bind_some hB8
 refine W_region (mF sf0 rfl (mF sf5 rfl (mI rfl (L_ixO (R:=(oStep 83)) (tb:=0) 0 rfl Tryz.underlying26 Tryz.sizeOf56 rfl hv15 (by first | rfl | simp) rfl hx41 (fA (Int.toNat i_7 * 5 + 3) fa_56_3 rfl rfl (fA (Int.toNat i_7 * 5 + 4) fa_54_1 rfl rfl (L_stF (j:=4) (u:=I x31.1) (z:={ x41 with given:={ x41.given with bound:=x31.1 } }) rfl Tryz.sizeOf3 rfl rfl rfl rfl hv15 hst hx41 fld_oStep_4 (fun w43 hst=>nn (W_region (mI rfl (L_add rfl rfl rfl (aI rfl (nn (W_region (mF sf5 rfl (L_add rfl rfl rfl (aI rfl (nn ?_))))))))))))))))))
 obtain rfl:=so hB8
 show ∃ m,m < _∧I8 m _ _
 refine ⟨n8,Nat.lt_succ_self _,?_⟩
 exact ij hI8 ⟨(((((a_5.set (Int.toNat i_7) ({ x10 with kind:=k_6 })).set (Int.toNat i_7) ({ x17 with a:=i64 (k_6 + 1) })).set (Int.toNat i_7) ({ x20 with b:=i64 ((i64 (k_6 + 1)) + 1) })).set (Int.toNat i_7) ({ kind:=x23.kind,a:=x23.a,b:=x23.b,given:=({ terms:=x31.2,bound:=x23.given.bound } : Con) } : Step)).set (Int.toNat i_7) ({ x41 with given:={ x41.given with bound:=x31.1 } })),i64 (x31.1 + 1),i64 (i_7 + 1),hL8,sf0,rfl,rfl,hst⟩
 have hB8:=(ite_f hc9).symm.trans hB8
 refine W_exit ?_
 obtain rfl:=so hB8
 obtain rfl:=so hL8
 exact rj hR8 ⟨a_5,k_6,i_7,rfl,sf1,hst⟩
 intro f w_ hR
 obtain ⟨a_5,k_6,i_7,rfl,sf1,hst⟩:=rk hR8 hR
 refine sq (mF sf1 rfl (aI rfl (nn (W_ret (retG1 (v1:=I k_6) Tryz.results13 rfl ?_)))))
 obtain rfl:=so hF
 exact ⟨rfl,hst⟩
theorem l_heldTermS_c {a : List Term} {k : Int} {v0 : Value} {H : FH} {w : World} (hst : Star H w []) (h0 : (rS 83 rTerm).rel H [v0] a) {r : Int} (hF : l_heldTermS a k = some r) :
 C Tryz.prog 30 #[v0,I k] w fun v w'=>v = I r∧Star H w' []:=by
 unfold l_heldTermS at hF
 refine C_enter Tryz.func30 rfl Tryz.ntmps30 rfl (sq (aI rfl (nq (sq (aI rfl (nn ?_))))))
 have hlen3 : List.length a≤9223372036854775807:=len_le (slice_len h0)
 obtain ⟨j3,hL3,hF⟩:=bind_some hF
 obtain ⟨R3,hR3⟩:=exR fun f w_=>∃ k_2 : Int,j3 = .nx k_2∧f 1 = I k_2∧Star H w_ ([])
 refine W_join R3 ?_ ?_
 refine W_block ?_
 obtain ⟨I3,hI3⟩:=exI fun n f w_=>∃ i_1 : Nat,∃ suf3 : List Term,∃ k_2 : Int,n = suf3.length∧List.drop i_1 a = suf3∧i_1 + suf3.length = a.length∧rangeL l_heldTermS_b1 suf3 i_1 k_2 = some j3∧f 0 = v0∧f 1 = I k_2∧f 5 = I i_1∧Star H w_ ([])
 refine W_loop I3 (n:=a.length) ?_ ?_
 exact ij hI3 ⟨0,a,k,rfl,rfl,Nat.zero_add _,hL3,rfl,rfl,rfl,hst⟩
 intro n3 f w_ hI
 obtain ⟨i_1,suf3,k_2,rfl,hd3,hl3,hL3,sf0,sf1,sf5,hst⟩:=ik hI3 hI
 refine W_seq (sq (mF sf5 rfl (mF sf0 rfl (L_len rfl Tryz.underlying52 rfl (slice_len h0) (L_lss rfl rfl rfl (nn (W_cond (b:=decide ((i_1 : Int) < (a.length : Int))) rfl (fun hc4=>?_) (fun hc4=>?_))))))))
 have hlt3:=of_decide_eq_true hc4
 rcases suf3 with _ | ⟨x_3,rest3⟩
 exact absurd hlt3 (by simp at hl3; omega)
 obtain ⟨o3,hB3,hL3⟩:=range_cons hL3
 rw [l_heldTermS_b1] at hB3
 have hix3:=drop_idx hd3
 refine W_skip (W_seq (W_block (W_seq (sq (mF sf0 rfl (mF sf5 rfl (L_ix (r:=rTerm) rfl Tryz.underlying52 Tryz.sizeOf83 rfl h0 rfl hix3 (fun g9 o10 cs_g9 hrk_hat11 hat11=>?_))))))))
 obtain rfl:=rTerm_iff.1 hrk_hat11
 refine fA o10 fa_83_0 rfl rfl (L_ld rfl Tryz.isAgg3 rfl (At.cell (AtH.at hat11 hst.sub) (j:=0) rfl) (mF sf1 rfl (L_neq rfl rfl rfl (nn (W_cond (b:=(x_3.coef != k_2)) rfl (fun hc13=>?_) (fun hc13=>?_))))))
 have hB3:=(ite_t hc13).symm.trans hB3
 refine sq (aI rfl (nn (W_ret (retG1 (v1:=I (-1)) Tryz.results30 rfl ?_))))
 obtain rfl:=so hB3
 obtain rfl:=so hL3
 obtain rfl:=so hF
 exact ⟨rfl,hst⟩
 have hB3:=(ite_f hc13).symm.trans hB3
 refine W_skip (sq (mF sf1 rfl (L_add rfl rfl rfl (aI rfl (nq (sq (mF sf0 rfl (mF sf5 rfl (L_ix (r:=rTerm) rfl Tryz.underlying52 Tryz.sizeOf83 rfl h0 rfl hix3 (fun g18 o19 cs_g18 hrk_hat20 hat20=>?_))))))))))
 obtain rfl:=rTerm_iff.1 hrk_hat20
 refine fA (o19 + 1) fa_83_1 rfl rfl (L_ld rfl Tryz.isAgg3 rfl (At.cell (AtH.at hat20 hst.sub) (j:=1) rfl) (mI rfl (L_neq rfl rfl rfl (nn (W_cond (b:=(x_3.lit != (i64 (k_2 + 1)))) rfl (fun hc22=>?_) (fun hc22=>?_))))))
 have hB3:=(ite_t hc22).symm.trans hB3
 refine sq (aI rfl (nn (W_ret (retG1 (v1:=I (-1)) Tryz.results30 rfl ?_))))
 obtain rfl:=so hB3
 obtain rfl:=so hL3
 obtain rfl:=so hF
 exact ⟨rfl,hst⟩
 have hB3:=(ite_f hc22).symm.trans hB3
 refine W_skip (W_region (mI rfl (L_add rfl rfl rfl (aI rfl (nn (W_region (mF sf5 rfl (L_add rfl rfl rfl (aI rfl (nn ?_))))))))))
 obtain rfl:=so hB3
 show ∃ m,m < _∧I3 m _ _
 refine ⟨rest3.length,by simp,?_⟩
 exact ij hI3 ⟨i_1 + 1,rest3,i64 ((i64 (k_2 + 1)) + 1),rfl,drop_next hd3,by simp at hl3; omega,hL3,sf0,rfl,(Eq.trans rfl (congrArg (Value.int .i64) (i64_succ (n:=a.length) (by simp at hl3; omega) hlen3))),hst⟩
 rcases suf3 with _ | ⟨_,_⟩
 obtain rfl:=range_nil hL3
 refine W_exit (rj hR3 ⟨k_2,rfl,sf1,hst⟩)
 exact absurd (of_decide_eq_false hc4) (by simp at hl3; omega)
 intro f w_ hR
 obtain ⟨k_2,rfl,sf1,hst⟩:=rk hR3 hR
 refine sq (mF sf1 rfl (aI rfl (nn (W_ret (retG1 (v1:=I k_2) Tryz.results30 rfl ?_)))))
 obtain rfl:=so hF
 exact ⟨rfl,hst⟩
theorem l_heldStepS_c {a : List Step} {k : Int} {v0 : Value} {H : FH} {w : World} (hst : Star H w []) (h0 : (rS 56 (rStep 83)).rel H [v0] a) {r : Int} (hF : l_heldStepS a k = some r) :
 C Tryz.prog 14 #[v0,I k] w fun v w'=>v = I r∧Star H w' []:=by
 unfold l_heldStepS at hF
 refine C_enter Tryz.func14 rfl Tryz.ntmps14 rfl (sq (aI rfl (nq (sq (aI rfl (nn ?_))))))
 have hlen3 : List.length a≤9223372036854775807:=len_le (slice_len h0)
 obtain ⟨j3,hL3,hF⟩:=bind_some hF
 obtain ⟨R3,hR3⟩:=exR fun f w_=>∃ k_2 : Int,j3 = .nx k_2∧f 1 = I k_2∧Star H w_ ([])
 refine W_join R3 ?_ ?_
 refine W_block ?_
 obtain ⟨I3,hI3⟩:=exI fun n f w_=>∃ i_1 : Nat,∃ suf3 : List Step,∃ k_2 : Int,n = suf3.length∧List.drop i_1 a = suf3∧i_1 + suf3.length = a.length∧rangeL (l_heldStepS_b1 a) suf3 i_1 k_2 = some j3∧f 0 = v0∧f 1 = I k_2∧f 5 = I i_1∧Star H w_ ([])
 refine W_loop I3 (n:=a.length) ?_ ?_
 exact ij hI3 ⟨0,a,k,rfl,rfl,Nat.zero_add _,hL3,rfl,rfl,rfl,hst⟩
 intro n3 f w_ hI
 obtain ⟨i_1,suf3,k_2,rfl,hd3,hl3,hL3,sf0,sf1,sf5,hst⟩:=ik hI3 hI
 refine W_seq (sq (mF sf5 rfl (mF sf0 rfl (L_len rfl Tryz.underlying26 rfl (slice_len h0) (L_lss rfl rfl rfl (nn (W_cond (b:=decide ((i_1 : Int) < (a.length : Int))) rfl (fun hc4=>?_) (fun hc4=>?_))))))))
 have hlt3:=of_decide_eq_true hc4
 rcases suf3 with _ | ⟨x_3,rest3⟩
 exact absurd hlt3 (by simp at hl3; omega)
 obtain ⟨o3,hB3,hL3⟩:=range_cons hL3
 rw [l_heldStepS_b1] at hB3
 have hix3:=drop_idx hd3
 refine W_skip (W_seq (W_block (W_seq (sq (mF sf0 rfl (mF sf5 rfl (L_ix (r:=(rStep 83)) rfl Tryz.underlying26 Tryz.sizeOf56 rfl h0 rfl hix3 (fun g9 o10 cs_g9 hrk_hat11 hat11=>?_))))))))
 obtain ⟨u12_0,rfl,hu12_0⟩:=rStep_iff.1 hrk_hat11
 refine fA o10 fa_56_0 rfl rfl (L_ld rfl Tryz.isAgg3 rfl (At.cell (AtH.at hat11 hst.sub) (j:=0) rfl) (mF sf1 rfl (L_neq rfl rfl rfl (nn (W_cond (b:=(x_3.kind != k_2)) rfl (fun hc13=>?_) (fun hc13=>?_))))))
 have hB3:=(ite_t hc13).symm.trans hB3
 refine sq (aI rfl (nn (W_ret (retG1 (v1:=I (-1)) Tryz.results14 rfl ?_))))
 obtain rfl:=so hB3
 obtain rfl:=so hL3
 obtain rfl:=so hF
 exact ⟨rfl,hst⟩
 have hB3:=(ite_f hc13).symm.trans hB3
 refine W_skip (sq (mF sf1 rfl (L_add rfl rfl rfl (aI rfl (nq (sq (mF sf0 rfl (mF sf5 rfl (L_ix (r:=(rStep 83)) rfl Tryz.underlying26 Tryz.sizeOf56 rfl h0 rfl hix3 (fun g18 o19 cs_g18 hrk_hat20 hat20=>?_))))))))))
 obtain ⟨u21_0,rfl,hu21_0⟩:=rStep_iff.1 hrk_hat20
 refine fA (o19 + 1) fa_56_1 rfl rfl (L_ld rfl Tryz.isAgg3 rfl (At.cell (AtH.at hat20 hst.sub) (j:=1) rfl) (mI rfl (L_neq rfl rfl rfl (nn (W_cond (b:=(x_3.a != (i64 (k_2 + 1)))) rfl (fun hc22=>?_) (fun hc22=>?_))))))
 have hB3:=(ite_t hc22).symm.trans hB3
 refine sq (aI rfl (nn (W_ret (retG1 (v1:=I (-1)) Tryz.results14 rfl ?_))))
 obtain rfl:=so hB3
 obtain rfl:=so hL3
 obtain rfl:=so hF
 exact ⟨rfl,hst⟩
 have hB3:=(ite_f hc22).symm.trans hB3
 refine W_skip (sq (mI rfl (L_add rfl rfl rfl (aI rfl (nq (sq (mF sf0 rfl (mF sf5 rfl (L_ix (r:=(rStep 83)) rfl Tryz.underlying26 Tryz.sizeOf56 rfl h0 rfl hix3 (fun g27 o28 cs_g27 hrk_hat29 hat29=>?_))))))))))
 obtain ⟨u30_0,rfl,hu30_0⟩:=rStep_iff.1 hrk_hat29
 refine fA (o28 + 2) fa_56_2 rfl rfl (L_ld rfl Tryz.isAgg3 rfl (At.cell (AtH.at hat29 hst.sub) (j:=2) rfl) (mI rfl (L_neq rfl rfl rfl (nn (W_cond (b:=(x_3.b != (i64 ((i64 (k_2 + 1)) + 1)))) rfl (fun hc31=>?_) (fun hc31=>?_))))))
 have hB3:=(ite_t hc31).symm.trans hB3
 refine sq (aI rfl (nn (W_ret (retG1 (v1:=I (-1)) Tryz.results14 rfl ?_))))
 obtain rfl:=so hB3
 obtain rfl:=so hL3
 obtain rfl:=so hF
 exact ⟨rfl,hst⟩
 have hB3:=(ite_f hc31).symm.trans hB3
 refine W_skip (sq (mI rfl (L_add rfl rfl rfl (aI rfl (nq ?_)))))
 obtain ⟨x41,hx41,hB3⟩:=bind_some hB3
 refine W_region (mF sf0 rfl (mF sf5 rfl (L_ix (r:=(rStep 83)) rfl Tryz.underlying26 Tryz.sizeOf56 rfl h0 rfl hix3 (fun g43 o44 cs_g43 hrk_hat45 hat45=>?_))))
 obtain ⟨u46_0,rfl,hu46_0⟩:=rStep_iff.1 hrk_hat45
 refine fA (o44 + 3) fa_56_3 rfl rfl (fA (o44 + 3) fa_54_0 rfl rfl (L_ld rfl Tryz.isAgg52 rfl (At.cell (AtH.at hat45 hst.sub) (j:=3) rfl) (mI rfl ?_)))
 obtain ⟨H47b,l48,s49,z50,k51⟩:=hst.borrow
 refine L_call rfl Tryz.call30 (ops2 rfl rfl) (l_heldTermS_c (a:=x_3.given.terms) (k:=i64 ((i64 ((i64 (k_2 + 1)) + 1)) + 1)) s49 (RP.mono _ hu46_0 l48) hx41) ?_
 rintro _ w52 ⟨rfl,hst⟩
 have hst:=k51 hst c0
 refine aI rfl (nq (sq (mI rfl (L_lss rfl rfl rfl (nn (W_cond (b:=decide (x41 < 0)) rfl (fun hc53=>?_) (fun hc53=>?_)))))))
 have hB3:=(ite_t hc53).symm.trans hB3
 refine sq (aI rfl (nn (W_ret (retG1 (v1:=I (-1)) Tryz.results14 rfl ?_))))
 obtain rfl:=so hB3
 obtain rfl:=so hL3
 obtain rfl:=so hF
 exact ⟨rfl,hst⟩
 have hB3:=(ite_f hc53).symm.trans hB3
 refine W_skip (W_seq (sq (mF sf0 rfl (mF sf5 rfl (L_ix (r:=(rStep 83)) rfl Tryz.underlying26 Tryz.sizeOf56 rfl h0 rfl hix3 (fun g58 o59 cs_g58 hrk_hat60 hat60=>?_))))))
 obtain ⟨u61_0,rfl,hu61_0⟩:=rStep_iff.1 hrk_hat60
 refine fA (o59 + 3) fa_56_3 rfl rfl (fA (o59 + 4) fa_54_1 rfl rfl (L_ld rfl Tryz.isAgg3 rfl (At.cell (AtH.at hat60 hst.sub) (j:=4) rfl) (mI rfl (L_neq rfl rfl rfl (nn (W_cond (b:=(x_3.given.bound != x41)) rfl (fun hc62=>?_) (fun hc62=>?_)))))))
 have hB3:=(ite_t hc62).symm.trans hB3
 refine sq (aI rfl (nn (W_ret (retG1 (v1:=I (-1)) Tryz.results14 rfl ?_))))
 obtain rfl:=so hB3
 obtain rfl:=so hL3
 obtain rfl:=so hF
 exact ⟨rfl,hst⟩
 have hB3:=(ite_f hc62).symm.trans hB3
 refine W_skip (W_region (mI rfl (L_add rfl rfl rfl (aI rfl (nn (W_region (mF sf5 rfl (L_add rfl rfl rfl (aI rfl (nn ?_))))))))))
 obtain rfl:=so hB3
 show ∃ m,m < _∧I3 m _ _
 refine ⟨rest3.length,by simp,?_⟩
 exact ij hI3 ⟨i_1 + 1,rest3,i64 (x41 + 1),rfl,drop_next hd3,by simp at hl3; omega,hL3,sf0,rfl,(Eq.trans rfl (congrArg (Value.int .i64) (i64_succ (n:=a.length) (by simp at hl3; omega) hlen3))),hst⟩
 rcases suf3 with _ | ⟨_,_⟩
 obtain rfl:=range_nil hL3
 refine W_exit (rj hR3 ⟨k_2,rfl,sf1,hst⟩)
 exact absurd (of_decide_eq_false hc4) (by simp at hl3; omega)
 intro f w_ hR
 obtain ⟨k_2,rfl,sf1,hst⟩:=rk hR3 hR
 refine sq (mF sf1 rfl (aI rfl (nn (W_ret (retG1 (v1:=I k_2) Tryz.results14 rfl ?_)))))
 obtain rfl:=so hF
 exact ⟨rfl,hst⟩
theorem l_FnExactTrimProof_c {fu : Nat} {aList : List Con} {aSteps : List Step} {v0 : Value} {v1 : Value} {H : FH} {w : World} (hst : Star H w []) (h0 : (rS 40 (rCon 94)).rel H [v0] aList) (h1 : (rS 43 (rStep 94)).rel H [v1] aSteps) {r : Bool} (hF : l_FnExactTrimProof fu aList aSteps = some r) :
 C Tryz.prog 3 #[v0,v1] w fun v w'=>v = Bo r∧Star H w' []:=by
 unfold l_FnExactTrimProof at hF
 refine C_enter Tryz.func3 rfl Tryz.ntmps3 rfl (sq (aB rfl (ns (aI rfl (nq ?_)))))
 obtain ⟨x6,hx6,hF⟩:=bind_some hF
 refine W_region (mV v0 rfl (mI rfl ?_))
 obtain ⟨H8b,l9,s10,z11,k12⟩:=hst.borrow
 refine L_call rfl Tryz.call4 (ops2 rfl rfl) (l_szConstraintS_c (a:=aList) (left:=1048576) s10 (RP.mono _ h0 l9) hx6) ?_
 rintro _ w13 ⟨rfl,hst⟩
 have hst:=k12 hst c0
 refine aI rfl (nq (sq (mI rfl (L_lss rfl rfl rfl (nn (W_cond (b:=decide (x6 < 0)) rfl (fun hc14=>?_) (fun hc14=>?_)))))))
 have hF:=(ite_t hc14).symm.trans hF
 refine sq (aB rfl (nn (W_ret (retG1 (v1:=Bo true) Tryz.results3 rfl ?_))))
 obtain rfl:=so hF
 exact ⟨rfl,hst⟩
 have hF:=(ite_f hc14).symm.trans hF
 refine W_skip (W_seq ?_)
 obtain ⟨x20,hx20,hF⟩:=bind_some hF
 refine W_region (mV v1 rfl (mI rfl ?_))
 obtain ⟨H22b,l23,s24,z25,k26⟩:=hst.borrow
 refine L_call rfl Tryz.call5 (ops2 rfl rfl) (l_szStepS_c (a:=aSteps) (left:=x6) s24 (RP.mono _ h1 l23) hx20) ?_
 rintro _ w27 ⟨rfl,hst⟩
 have hst:=k26 hst c0
 refine aI rfl (nq (sq (mI rfl (L_lss rfl rfl rfl (nn (W_cond (b:=decide (x20 < 0)) rfl (fun hc28=>?_) (fun hc28=>?_)))))))
 have hF:=(ite_t hc28).symm.trans hF
 refine sq (aB rfl (nn (W_ret (retG1 (v1:=Bo true) Tryz.results3 rfl ?_))))
 obtain rfl:=so hF
 exact ⟨rfl,hst⟩
 have hF:=(ite_f hc28).symm.trans hF
 refine W_skip (W_seq ?_)
 obtain ⟨x34,hx34,hF⟩:=bind_some hF
 obtain ⟨x42,hx42,hF⟩:=bind_some hF
 obtain ⟨x52,hx52,hF⟩:=bind_some hF
 refine W_region (mV v0 rfl ?_)
 obtain ⟨H55b,l56,s57,z58,k59⟩:=hst.borrow
 refine L_call rfl Tryz.call7 (ops1 rfl) (l_toConstraintS_c (a:=aList) s57 (RP.mono _ h0 l56) hx34) ?_
 rintro r60_0 w60 ⟨_,rfl,hst⟩
 have hst:=k59 hst (co closed_oCon c0)
 refine mV v1 rfl ?_
 obtain ⟨H62b,l63,s64,z65,k66⟩:=hst.borrow
 refine L_call rfl Tryz.call8 (ops1 rfl) (l_toStepS_c (a:=aSteps) s64 (RP.mono _ h1 l63) hx42) ?_
 rintro r67_0 w67 ⟨_,rfl,hst⟩
 have hst:=k66 hst (co closed_oStep c0)
 obtain ⟨H69b,l70,s71,z72,k73⟩:=hst.borrow
 have hb74 : (rS 54 (rCon 83)).rel H69b [r60_0] x34:=fz_own 1 z72 rfl
 have hb75 : (rS 56 (rStep 83)).rel H69b [r67_0] x42:=fz_own 0 z72 rfl
 refine L_call rfl Tryz.call6 (ops2 rfl rfl) (s_TrimProof_c (list:=x34) (steps:=x42) s71 hb74 hb75 hx52) ?_
 rintro _ w76 ⟨r76_0,rfl,hst⟩
 have hst:=k73 hst (co closed_oStep c0)
 refine mV (.tuple #[r76_0,Bo x52.2]) rfl (L_ex (v:=r76_0) rfl rfl rfl (L_ex (v:=Bo x52.2) rfl rfl rfl (aV r76_0 rfl (aB rfl (nq ?_)))))
 obtain ⟨x83,hx83,hF⟩:=bind_some hF
 refine W_region (mV v0 rfl ?_)
 obtain ⟨H86b,l87,s88,z89,k90⟩:=hst.borrow
 refine L_call rfl Tryz.call7 (ops1 rfl) (l_toConstraintS_c (a:=aList) s88 (RP.mono _ h0 l87) hx83) ?_
 rintro r91_0 w91 ⟨_,rfl,hst⟩
 have hst:=k90 hst (co closed_oCon c0)
 refine aV r91_0 rfl (nq ?_)
 obtain ⟨x98,hx98,hF⟩:=bind_some hF
 refine W_region (mV v1 rfl ?_)
 obtain ⟨H101b,l102,s103,z104,k105⟩:=hst.borrow
 refine L_call rfl Tryz.call8 (ops1 rfl) (l_toStepS_c (a:=aSteps) s103 (RP.mono _ h1 l102) hx98) ?_
 rintro r106_0 w106 ⟨_,rfl,hst⟩
 have hst:=k105 hst (co closed_oStep c0)
 refine aV r106_0 rfl (nq ?_)
 obtain ⟨x115,hx115,hF⟩:=bind_some hF
 refine W_region (mV r91_0 rfl (mV r106_0 rfl ?_))
 obtain ⟨H118b,l119,s120,z121,k122⟩:=hst.borrow
 have hb123 : (rS 54 (rCon 83)).rel H118b [r91_0] x83:=fz_own 1 z121 rfl
 have hb124 : (rS 56 (rStep 83)).rel H118b [r106_0] x98:=fz_own 0 z121 rfl
 refine L_call rfl Tryz.call9 (ops2 rfl rfl) (i_TrimProof_c (list:=x83) (steps:=x98) s120 hb123 hb124 hx115) ?_
 rintro _ w125 ⟨r125_0,rfl,hst⟩
 have hst:=k122 hst (co closed_oStep c0)
 refine mV (.tuple #[r125_0,Bo x115.2]) rfl (L_ex (v:=r125_0) rfl rfl rfl (L_ex (v:=Bo x115.2) rfl rfl rfl (aV r125_0 rfl (aB rfl (nq (W_seq ?_))))))
 obtain ⟨x134,hx134,hF⟩:=bind_some hF
 obtain ⟨R136,hR136⟩:=exR fun f w_=>f 0 = v0∧f 1 = v1∧f 6 = r76_0∧f 7 = Bo x52.2∧f 8 = r91_0∧f 9 = r106_0∧f 10 = r125_0∧f 11 = Bo x115.2∧f 53 = Bo ((!x134) || (x115.2 != x52.2))∧Star H w_ ([oS 56 (oStep 83) r76_0 x52.1,oS 54 (oCon 83) r91_0 x83,oS 56 (oStep 83) r106_0 x98,oS 56 (oStep 83) r125_0 x115.1])
 refine W_join R136 ?_ ?_
 refine W_region (mV r125_0 rfl (mV r76_0 rfl ?_))
 obtain ⟨H137b,l138,s139,z140,k141⟩:=hst.borrow
 have hb142 : (rS 56 (rStep 83)).rel H137b [r125_0] x115.1:=fz_own 0 z140 rfl
 have hb143 : (rS 56 (rStep 83)).rel H137b [r76_0] x52.1:=fz_own 3 z140 rfl
 refine L_call rfl Tryz.call10 (ops2 rfl rfl) (l_eqStepS_c (a:=x115.1) (b:=x52.1) s139 hb142 hb143 hx134) ?_
 rintro _ w144 ⟨rfl,hst⟩
 have hst:=k141 hst c0
 refine L_not_ rfl rfl (mB rfl (L_split (d:=49) (b:=(!x134)) rfl (fun hc145=>?_) (fun hc145=>?_)))
 refine ps rfl (ps rfl (ps rfl (L_pick (v:=Bo ((!x134) || (x115.2 != x52.2))) rfl rfl (or_t hc145) (nn ?_))))
 have hst:=hst.gets [1,2,3] rfl
 exact rj hR136 ⟨rfl,rfl,rfl,rfl,rfl,rfl,rfl,rfl,rfl,(Star.keepN 4 hst)⟩
 refine mB rfl (mB rfl (L_bneq (b:=x115.2) (c:=x52.2) rfl Tryz.underlying4 rfl rfl (L_pick (v:=Bo ((!x134) || (x115.2 != x52.2))) rfl rfl (or_f hc145 rfl) (nn ?_))))
 have hst:=hst.gets [1,2,3] rfl
 exact rj hR136 ⟨rfl,rfl,rfl,rfl,rfl,rfl,rfl,rfl,rfl,(Star.keepN 4 hst)⟩
 intro f w_ hR
 obtain ⟨sf0,sf1,sf6,sf7,sf8,sf9,sf10,sf11,sf53,hst⟩:=rk hR136 hR
 refine W_cond (b:=((!x134) || (x115.2 != x52.2))) sf53 (fun hc146=>?_) (fun hc146=>?_)
 have hF:=(ite_t hc146).symm.trans hF
 refine sq (aB rfl (nn (W_ret (retG1 (v1:=Bo false) Tryz.results3 rfl ?_))))
 obtain rfl:=so hF
 exact ⟨rfl,(Star.keepN 0 hst)⟩
 have hF:=(ite_f hc146).symm.trans hF
 refine W_skip (W_seq (W_seq ?_))
 obtain ⟨x152,hx152,hF⟩:=bind_some hF
 obtain ⟨x162,hx162,hF⟩:=bind_some hF
 refine W_region (mF sf8 rfl (mF sf0 rfl ?_))
 obtain ⟨H164b,l165,s166,z167,k168⟩:=hst.borrow
 refine L_call rfl Tryz.call7 (ops1 rfl) (l_toConstraintS_c (a:=aList) s166 (RP.mono _ h0 l165) hx152) ?_
 rintro r169_0 w169 ⟨_,rfl,hst⟩
 have hst:=k168 hst (co closed_oCon c0)
 obtain ⟨H171b,l172,s173,z174,k175⟩:=hst.borrow
 have hb176 : (rS 54 (rCon 83)).rel H171b [r91_0] x83:=fz_own 2 z174 rfl
 have hb177 : (rS 54 (rCon 83)).rel H171b [r169_0] x152:=fz_own 0 z174 rfl
 refine L_call rfl Tryz.call11 (ops2 rfl rfl) (l_eqConstraintS_c (a:=x83) (b:=x152) s173 hb176 hb177 hx162) ?_
 rintro _ w178 ⟨rfl,hst⟩
 have hst:=k175 hst c0
 refine L_not_ rfl rfl (nn (W_cond (b:=(!x162)) rfl (fun hc179=>?_) (fun hc179=>?_)))
 have hF:=(ite_t hc179).symm.trans hF
 refine sq (aB rfl (nn (W_ret (retG1 (v1:=Bo false) Tryz.results3 rfl ?_))))
 obtain rfl:=so hF
 exact ⟨rfl,(Star.keepN 0 hst)⟩
 have hF:=(ite_f hc179).symm.trans hF
 refine W_skip (W_seq (W_seq ?_))
 obtain ⟨x185,hx185,hF⟩:=bind_some hF
 obtain ⟨x195,hx195,hF⟩:=bind_some hF
 refine W_region (mF sf9 rfl (mF sf1 rfl ?_))
 obtain ⟨H197b,l198,s199,z200,k201⟩:=hst.borrow
 refine L_call rfl Tryz.call8 (ops1 rfl) (l_toStepS_c (a:=aSteps) s199 (RP.mono _ h1 l198) hx185) ?_
 rintro r202_0 w202 ⟨_,rfl,hst⟩
 have hst:=k201 hst (co closed_oStep c0)
 obtain ⟨H204b,l205,s206,z207,k208⟩:=hst.borrow
 have hb209 : (rS 56 (rStep 83)).rel H204b [r106_0] x98:=fz_own 4 z207 rfl
 have hb210 : (rS 56 (rStep 83)).rel H204b [r202_0] x185:=fz_own 0 z207 rfl
 refine L_call rfl Tryz.call10 (ops2 rfl rfl) (l_eqStepS_c (a:=x98) (b:=x185) s206 hb209 hb210 hx195) ?_
 rintro _ w211 ⟨rfl,hst⟩
 have hst:=k208 hst c0
 refine L_not_ rfl rfl (nn (W_cond (b:=(!x195)) rfl (fun hc212=>?_) (fun hc212=>?_)))
 have hF:=(ite_t hc212).symm.trans hF
 refine sq (aB rfl (nn (W_ret (retG1 (v1:=Bo false) Tryz.results3 rfl ?_))))
 obtain rfl:=so hF
 exact ⟨rfl,(Star.keepN 0 hst)⟩
 have hF:=(ite_f hc212).symm.trans hF
 refine W_skip (sq (aI rfl (nq ?_)))
 obtain ⟨x218,hx218,hF⟩:=bind_some hF
 refine W_region (mF sf8 rfl (mI rfl ?_))
 have hst:=hst.get 3 rfl
 obtain ⟨H220b,l221,s222,z223,k224⟩:=hst.lend [_]
 refine L_call rfl Tryz.call12 (ops2 rfl rfl) (l_markConstraintS_c (a:=x83) (k:=1) s222 hx218) ?_
 rintro _ w225 ⟨rfl,hst⟩
 have hst:=k224 hst (co closed_oCon c0)
 refine aI rfl (nq ?_)
 obtain ⟨x231,hx231,hF⟩:=bind_some hF
 refine W_region (mF sf9 rfl (mI rfl ?_))
 have hst:=hst.get 4 rfl
 obtain ⟨H233b,l234,s235,z236,k237⟩:=hst.lend [_]
 refine L_call rfl Tryz.call13 (ops2 rfl rfl) (l_markStepS_c (a:=x98) (k:=x218.1) s235 hx231) ?_
 rintro _ w238 ⟨rfl,hst⟩
 have hst:=k237 hst (co closed_oStep c0)
 refine aI rfl (nq (W_seq ?_))
 obtain ⟨b248,hb248,hF⟩:=bind_some hF
 obtain ⟨R249,hR249⟩:=exR fun f w_=>f 0 = v0∧f 1 = v1∧f 6 = r76_0∧f 7 = Bo x52.2∧f 10 = r125_0∧f 82 = Bo (b248 || (x115.2 != x52.2))∧Star H w_ ([oS 56 (oStep 83) r76_0 x52.1,oS 56 (oStep 83) r125_0 x115.1])
 refine W_join R249 ?_ ?_
 refine W_region (mI rfl (L_lss rfl rfl rfl (mB rfl (L_split (d:=72) (b:=decide (x231.1 < 0)) rfl (fun hc250=>?_) (fun hc250=>?_)))))
 rw [ite_t hc250] at hb248
 refine ps rfl (ps rfl (ps rfl (ps rfl (L_pick (v:=Bo b248) rfl rfl (congrArg Value.bool (so hb248)) (mB rfl (L_split (d:=78) (b:=b248) rfl (fun hc251=>?_) (fun hc251=>?_)))))))
 refine ps rfl (ps rfl (ps rfl (L_pick (v:=Bo (b248 || (x115.2 != x52.2))) rfl rfl (or_t hc251) (nn ?_))))
 have hst:=hst.gets [5,5] rfl
 exact rj hR249 ⟨sf0,sf1,sf6,sf7,sf10,rfl,(Star.keepN 2 hst)⟩
 refine mF sf11 rfl (mF sf7 rfl (L_bneq (b:=x115.2) (c:=x52.2) rfl Tryz.underlying4 rfl rfl (L_pick (v:=Bo (b248 || (x115.2 != x52.2))) rfl rfl (or_f hc251 rfl) (nn ?_))))
 have hst:=hst.gets [5,5] rfl
 exact rj hR249 ⟨sf0,sf1,sf6,sf7,sf10,rfl,(Star.keepN 2 hst)⟩
 rw [ite_f hc250] at hb248
 obtain ⟨x246,hx246,hb248⟩:=bind_some hb248
 refine mF sf10 rfl (mF sf6 rfl ?_)
 obtain ⟨H252b,l253,s254,z255,k256⟩:=hst.borrow
 have hb257 : (rS 56 (rStep 83)).rel H252b [r125_0] x115.1:=fz_own 5 z255 rfl
 have hb258 : (rS 56 (rStep 83)).rel H252b [r76_0] x52.1:=fz_own 4 z255 rfl
 refine L_call rfl Tryz.call10 (ops2 rfl rfl) (l_eqStepS_c (a:=x115.1) (b:=x52.1) s254 hb257 hb258 hx246) ?_
 rintro _ w259 ⟨rfl,hst⟩
 have hst:=k256 hst c0
 refine L_not_ rfl rfl (L_pick (v:=Bo b248) rfl rfl (congrArg Value.bool (so hb248)) (mB rfl (L_split (d:=78) (b:=b248) rfl (fun hc260=>?_) (fun hc260=>?_))))
 refine ps rfl (ps rfl (ps rfl (L_pick (v:=Bo (b248 || (x115.2 != x52.2))) rfl rfl (or_t hc260) (nn ?_))))
 have hst:=hst.gets [5,5] rfl
 exact rj hR249 ⟨sf0,sf1,sf6,sf7,sf10,rfl,(Star.keepN 2 hst)⟩
 refine mF sf11 rfl (mF sf7 rfl (L_bneq (b:=x115.2) (c:=x52.2) rfl Tryz.underlying4 rfl rfl (L_pick (v:=Bo (b248 || (x115.2 != x52.2))) rfl rfl (or_f hc260 rfl) (nn ?_))))
 have hst:=hst.gets [5,5] rfl
 exact rj hR249 ⟨sf0,sf1,sf6,sf7,sf10,rfl,(Star.keepN 2 hst)⟩
 intro f w_ hR
 obtain ⟨sf0,sf1,sf6,sf7,sf10,sf82,hst⟩:=rk hR249 hR
 refine W_cond (b:=(b248 || (x115.2 != x52.2))) sf82 (fun hc261=>?_) (fun hc261=>?_)
 have hF:=(ite_t hc261).symm.trans hF
 refine sq (aB rfl (nn (W_ret (retG1 (v1:=Bo false) Tryz.results3 rfl ?_))))
 obtain rfl:=so hF
 exact ⟨rfl,(Star.keepN 0 hst)⟩
 have hF:=(ite_f hc261).symm.trans hF
 refine W_skip (sq (aI rfl (nq ?_)))
 obtain ⟨x267,hx267,hF⟩:=bind_some hF
 refine W_region (mF sf10 rfl (mI rfl ?_))
 have hst:=hst.get 1 rfl
 obtain ⟨H269b,l270,s271,z272,k273⟩:=hst.lend [_]
 refine L_call rfl Tryz.call13 (ops2 rfl rfl) (l_markStepS_c (a:=x115.1) (k:=1) s271 hx267) ?_
 rintro _ w274 ⟨rfl,hst⟩
 have hst:=k273 hst (co closed_oStep c0)
 refine aI rfl (ns (aI rfl (nq ?_)))
 obtain ⟨x281,hx281,hF⟩:=bind_some hF
 refine W_region (mF sf10 rfl (mI rfl ?_))
 obtain ⟨H283b,l284,s285,z286,k287⟩:=hst.borrow
 have hb288 : (rS 56 (rStep 83)).rel H283b [r125_0] x267.2:=fz_own 0 z286 rfl
 refine L_call rfl Tryz.call14 (ops2 rfl rfl) (l_heldStepS_c (a:=x267.2) (k:=1) s285 hb288 hx281) ?_
 rintro _ w289 ⟨rfl,hst⟩
 have hst:=k287 hst c0
 refine aI rfl (nq (sq (mI rfl (L_lss rfl rfl rfl (nn (W_cond (b:=decide (x281 < 0)) rfl (fun hc290=>?_) (fun hc290=>?_)))))))
 have hF:=(ite_t hc290).symm.trans hF
 refine sq (aB rfl (nn (W_ret (retG1 (v1:=Bo false) Tryz.results3 rfl ?_))))
 obtain rfl:=so hF
 exact ⟨rfl,(Star.keepN 0 hst)⟩
 have hF:=(ite_f hc290).symm.trans hF
 refine W_skip (W_seq (sq (mI rfl (mI rfl (L_neq rfl rfl rfl (nn (W_cond (b:=(x281 != x267.1)) rfl (fun hc291=>?_) (fun hc291=>?_))))))))
 have hF:=(ite_t hc291).symm.trans hF
 refine sq (aB rfl (nn (W_ret (retG1 (v1:=Bo false) Tryz.results3 rfl ?_))))
 obtain rfl:=so hF
 exact ⟨rfl,(Star.keepN 0 hst)⟩
 have hF:=(ite_f hc291).symm.trans hF
 refine W_skip (W_seq ?_)
 obtain ⟨x297,hx297,hF⟩:=bind_some hF
 obtain ⟨x305,hx305,hF⟩:=bind_some hF
 obtain ⟨x315,hx315,hF⟩:=bind_some hF
 refine W_region (mF sf0 rfl ?_)
 obtain ⟨H318b,l319,s320,z321,k322⟩:=hst.borrow
 refine L_call rfl Tryz.call7 (ops1 rfl) (l_toConstraintS_c (a:=aList) s320 (RP.mono _ h0 l319) hx297) ?_
 rintro r323_0 w323 ⟨_,rfl,hst⟩
 have hst:=k322 hst (co closed_oCon c0)
 refine mF sf1 rfl ?_
 obtain ⟨H325b,l326,s327,z328,k329⟩:=hst.borrow
 refine L_call rfl Tryz.call8 (ops1 rfl) (l_toStepS_c (a:=aSteps) s327 (RP.mono _ h1 l326) hx305) ?_
 rintro r330_0 w330 ⟨_,rfl,hst⟩
 have hst:=k329 hst (co closed_oStep c0)
 obtain ⟨H332b,l333,s334,z335,k336⟩:=hst.borrow
 have hb337 : (rS 54 (rCon 83)).rel H332b [r323_0] x297:=fz_own 1 z335 rfl
 have hb338 : (rS 56 (rStep 83)).rel H332b [r330_0] x305:=fz_own 0 z335 rfl
 refine L_call rfl Tryz.call9 (ops2 rfl rfl) (i_TrimProof_c (list:=x297) (steps:=x305) s334 hb337 hb338 hx315) ?_
 rintro _ w339 ⟨r339_0,rfl,hst⟩
 have hst:=k336 hst (co closed_oStep c0)
 refine mV (.tuple #[r339_0,Bo x315.2]) rfl (L_ex (v:=r339_0) rfl rfl rfl (L_ex (v:=Bo x315.2) rfl rfl rfl (aV r339_0 rfl (aB rfl (nq (W_seq ?_))))))
 obtain ⟨x348,hx348,hF⟩:=bind_some hF
 obtain ⟨R350,hR350⟩:=exR fun f w_=>f 10 = r125_0∧f 13 = I x267.1∧f 110 = Bo ((!x348) || (x315.2 != x52.2))∧Star H w_ ([oS 56 (oStep 83) r125_0 x267.2])
 refine W_join R350 ?_ ?_
 refine W_region (mV r339_0 rfl (mF sf6 rfl ?_))
 obtain ⟨H351b,l352,s353,z354,k355⟩:=hst.borrow
 have hb356 : (rS 56 (rStep 83)).rel H351b [r339_0] x315.1:=fz_own 0 z354 rfl
 have hb357 : (rS 56 (rStep 83)).rel H351b [r76_0] x52.1:=fz_own 4 z354 rfl
 refine L_call rfl Tryz.call10 (ops2 rfl rfl) (l_eqStepS_c (a:=x315.1) (b:=x52.1) s353 hb356 hb357 hx348) ?_
 rintro _ w358 ⟨rfl,hst⟩
 have hst:=k355 hst c0
 refine L_not_ rfl rfl (mB rfl (L_split (d:=106) (b:=(!x348)) rfl (fun hc359=>?_) (fun hc359=>?_)))
 refine ps rfl (ps rfl (ps rfl (L_pick (v:=Bo ((!x348) || (x315.2 != x52.2))) rfl rfl (or_t hc359) (nn ?_))))
 have hst:=hst.get 3 rfl
 exact rj hR350 ⟨sf10,rfl,rfl,(Star.keepN 1 hst)⟩
 refine mB rfl (mF sf7 rfl (L_bneq (b:=x315.2) (c:=x52.2) rfl Tryz.underlying4 rfl rfl (L_pick (v:=Bo ((!x348) || (x315.2 != x52.2))) rfl rfl (or_f hc359 rfl) (nn ?_))))
 have hst:=hst.get 3 rfl
 exact rj hR350 ⟨sf10,rfl,rfl,(Star.keepN 1 hst)⟩
 intro f w_ hR
 obtain ⟨sf10,sf13,sf110,hst⟩:=rk hR350 hR
 refine W_cond (b:=((!x348) || (x315.2 != x52.2))) sf110 (fun hc360=>?_) (fun hc360=>?_)
 have hF:=(ite_t hc360).symm.trans hF
 refine sq (aB rfl (nn (W_ret (retG1 (v1:=Bo false) Tryz.results3 rfl ?_))))
 obtain rfl:=so hF
 exact ⟨rfl,(Star.keepN 0 hst)⟩
 have hF:=(ite_f hc360).symm.trans hF
 refine W_skip (sq (aI rfl (nq ?_)))
 obtain ⟨x367,hx367,hF⟩:=bind_some hF
 refine W_region (mF sf10 rfl (mI rfl ?_))
 obtain ⟨H369b,l370,s371,z372,k373⟩:=hst.borrow
 have hb374 : (rS 56 (rStep 83)).rel H369b [r125_0] x267.2:=fz_own 0 z372 rfl
 refine L_call rfl Tryz.call14 (ops2 rfl rfl) (l_heldStepS_c (a:=x267.2) (k:=1) s371 hb374 hx367) ?_
 rintro _ w375 ⟨rfl,hst⟩
 have hst:=k373 hst c0
 refine aI rfl (nq (sq (mI rfl (L_lss rfl rfl rfl (nn (W_cond (b:=decide (x367 < 0)) rfl (fun hc376=>?_) (fun hc376=>?_)))))))
 have hF:=(ite_t hc376).symm.trans hF
 refine sq (aB rfl (nn (W_ret (retG1 (v1:=Bo false) Tryz.results3 rfl ?_))))
 obtain rfl:=so hF
 exact ⟨rfl,(Star.keepN 0 hst)⟩
 have hF:=(ite_f hc376).symm.trans hF
 refine W_skip (W_seq (sq (mI rfl (mF sf13 rfl (L_neq rfl rfl rfl (nn (W_cond (b:=(x367 != x267.1)) rfl (fun hc377=>?_) (fun hc377=>?_))))))))
 have hF:=(ite_t hc377).symm.trans hF
 refine sq (aB rfl (nn (W_ret (retG1 (v1:=Bo false) Tryz.results3 rfl ?_))))
 obtain rfl:=so hF
 exact ⟨rfl,(Star.keepN 0 hst)⟩
 have hF:=(ite_f hc377).symm.trans hF
 refine W_skip (sq (aB rfl (nn (W_ret (retG1 (v1:=Bo true) Tryz.results3 rfl ?_)))))
 obtain rfl:=so hF
 exact ⟨rfl,(Star.keepN 0 hst)⟩
end Go.Proofs.YtiodhgbfceahfaaGreat

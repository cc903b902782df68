/- Part of a proof by program: W3. -/
import Derived.Test.YteeilbddjlpiaaaD1
import Derived.Test.YteeilbddjlpiaaaW2
namespace Go.Proofs.Yteeilbddjlpiaaa
open Go Go.E Go.L Go.RowKit
set_option linter.unusedVariables false
set_option linter.unusedSimpArgs false
set_option maxRecDepth 100000
theorem s_NegateConstraint_c {c : Con} {v0_0 : Value} {H : FH} {w : World} (hst : Star H w []) (h0_0 : (rS 112 rTerm).rel H [v0_0] c.terms) {r : Con × Bool} (hF : s_NegateConstraint c = some r) :
 C Try.prog 79 #[.agg #[v0_0,I c.bound]] w fun v w'=>∃ (u1 : Value),v = .tuple #[.agg #[u1,I r.1.bound],Bo r.2]∧Star H w' [oF 112 rTerm u1 r.1.terms]:=by
 unfold s_NegateConstraint at hF
 refine C_enter Try.func79 rfl Try.ntmps79 rfl (sq (L_box (v:=.agg #[v0_0,I c.bound]) (cs:=#[v0_0,I c.bound]) rfl rfl rfl hst (fun g5 w6 hst=>L_al (cs:=#[S0,I 0]) rfl Try.zeroValue43 rfl hst (fun g7 w8 hst=>aB rfl (nq (W_seq ?_))))))
 obtain ⟨x14,hx14,hF⟩:=bind_some hF
 refine W_region (L_lda (cs:=[v0_0,I c.bound]) rfl Try.isAgg43 Try.sizeOf43 rfl (At.sub0 (Blk.at (Star.blkAt 1 hst rfl)) 0 2) rfl ?_)
 obtain ⟨H16b,l17,s18,z19,k20⟩:=hst.borrow
 refine L_call rfl Try.call77 (ops1 rfl) (s_ConstraintValid_c (c:=c) s18 (RP.mono _ h0_0 l17) hx14) ?_
 rintro _ w21 ⟨rfl,hst⟩
 have hst:=k20 hst c0
 refine L_not_ rfl rfl (nn (W_cond (b:=(!x14)) rfl (fun hc22=>?_) (fun hc22=>?_)))
 have hF:=(ite_t hc22).symm.trans hF
 refine sq (L_bld rfl (parts0 ) (bld_43_  ) (L_staB (vs:=#[S0,I 0]) (cs2:=#[S0,I 0]) 0 rfl Try.sizeOf43 rfl rfl rfl (ones_cons rfl (ones_cons rfl ones_nil)) hst rfl (by show 0 + 2≤2; decide) rfl (fun w24 hst=>aB rfl (nn (W_ret (retG2 (v1:=.agg #[S0,I 0]) (v2:=Bo false) Try.results79 (resV_agg Try.isAgg43 Try.sizeOf43 rfl (Star.blkAt 0 hst rfl) rfl) rfl ?_))))))
 obtain rfl:=so hF
 have hst:=Star.addNil (R:=(OR.frz rTerm)) (e:=112) hst
 exact ⟨S0,rfl,(Star.keepN 1 hst)⟩
 have hF:=(ite_f hc22).symm.trans hF
 refine W_skip (W_seq ?_)
 obtain ⟨x31,hx31,hF⟩:=bind_some hF
 refine W_drawS 8 [isV (.agg #[v0_0,I c.bound]),isV (I x31),isV (Pq g5 1),isV (I c.bound),isV (I (i64 (x31 - c.bound))),isV (I (i64 ((i64 (x31 - c.bound)) + 1))),isV (.agg #[S0,I (i64 ((i64 (x31 - c.bound)) + 1))]),anyF] [box g7 43 #[S0,I 0],box g5 43 #[v0_0,I c.bound]] [.made 7 4 (fun v_=>boxV v_ 43 #[S0,I 0]) none] ([]) [([],[]),([],[]),([],[]),([],[]),([],[]),([],[]),([],[]),([],[0])] (S:=[(some 7,[4],none)]) Try_mix (by kernel_rfl) rfl (by kernel_rfl) (amF_cons (mono_V _) (amF_cons (mono_V _) (amF_cons (mono_V _) (amF_cons (mono_V _) (amF_cons (mono_V _) (amF_cons (mono_V _) (amF_cons (mono_V _) (amF_cons (mono_any) amF_nil)))))))) hst ?_ (fun f w_ H36 hS36 hE36 hT36 hst=>?_)
 refine opsS_cons (fun f w_ _ _ s _ _ hst=>L_lda (cs:=[v0_0,I c.bound]) rfl Try.isAgg43 Try.sizeOf43 ((s 1 rfl).trans rfl) (At.sub0 (Blk.at (Star.blkAt 1 hst rfl)) 0 2) rfl (nO rfl rfl hst)) (opsS_cons ?_ ?_)
 intro f w_ H36 X36 hS36 hE36 hP36 hst
 obtain ⟨H45b,l46,s47,z48,k49⟩:=hst.borrow
 refine L_call rfl Try.call104 (ops1 (hP36 0 10 rfl rfl)) (s_l1Total_c (c:=c) s47 (RP.mono _ h0_0 (Le.trans hE36 l46)) hx31) ?_
 rintro _ w50 ⟨rfl,hst⟩
 have hst:=k49 hst c0
 exact L_nil ⟨rfl,_,_,rfl,Le.refl _,fun _ _=>rfl,hst⟩
 refine opsS_cons (fun f w_ _ _ s _ _ hst=>fA 1 fa_43_1 ((s 1 rfl).trans rfl) rfl (nO rfl rfl hst)) (opsS_cons (fun f w_ _ _ _ _ p hst=>ldB 1 hst Try.isAgg3 (p 2 12 rfl rfl) rfl rfl (nO rfl rfl hst)) (opsS_cons (fun f w_ _ _ _ _ p hst=>L_sub rfl (p 1 11 rfl rfl) (p 3 13 rfl rfl) (nO rfl rfl hst)) (opsS_cons (fun f w_ _ _ _ _ p hst=>L_add rfl (p 4 14 rfl rfl) rfl (nO rfl rfl hst)) (opsS_cons (fun f w_ _ _ _ _ p hst=>L_bld rfl (parts1 (p 5 15 rfl rfl)) (bld_43_1 (I (i64 ((i64 (x31 - c.bound)) + 1))) rfl) (nO rfl rfl hst)) (opsS_cons ?_ ?_)))))
 intro f w_ H36 X36 hS36 hE36 hP36 hst
 refine L_al (cs:=#[S0,I 0]) rfl Try.zeroValue43 rfl hst (fun g51 w52 hst=>?_)
 have hst:=hst.gets [2,2,2] rfl
 have hst:=Star.boxV (v:=Pt g51) rfl hst
 have hst:=hst.gets [2,2] rfl
 exact L_nil ⟨rfl,_,_,rfl,Le.refl _,fun _ _=>trivial,hst⟩
 exact opsS_nil
 have hst : Star H36 w_ ([box g7 43 #[S0,I 0],box g5 43 #[v0_0,I c.bound],boxV (f 4) 43 #[S0,I 0]]):=hst
 obtain ⟨g53,hv53,hst⟩:=Star.unboxV (Star.get 2 hst rfl)
 refine L_staB (vs:=#[S0,I (i64 ((i64 (x31 - c.bound)) + 1))]) (cs2:=#[S0,I (i64 ((i64 (x31 - c.bound)) + 1))]) 0 rfl Try.sizeOf43 hv53 (hT36 6 16 rfl rfl) rfl (ones_cons rfl (ones_cons rfl ones_nil)) hst rfl (by show 0 + 2≤2; decide) rfl (fun w54 hst=>nq (sq (aI rfl (nn ?_))))
 have hlen60 : List.length c.terms≤9223372036854775807:=len_le (slice_len (RP.mono _ h0_0 hE36))
 obtain ⟨j60,hL60,hF⟩:=bind_some hF
 obtain ⟨R60,hR60⟩:=exR fun f w_=>∃ g53_0_56 : List Term,∃ H58 : FH,∃ v56_g53_0 : Value,j60 = .nx g53_0_56∧Le H36 H58∧f 2 = Pt g7∧f 4 = Pt g53∧Star H58 w_ ([oF 112 rTerm v56_g53_0 g53_0_56,box g53 43 #[v56_g53_0,I (i64 ((i64 (x31 - c.bound)) + 1))],box g7 43 #[S0,I 0]])
 refine W_join R60 ?_ ?_
 refine W_block ?_
 obtain ⟨I60,hI60⟩:=exI fun n f w_=>∃ i_55 : Nat,∃ suf60 : List Term,∃ g53_0_56 : List Term,∃ H58 : FH,∃ v56_g53_0 : Value,n = suf60.length∧List.drop i_55 c.terms = suf60∧i_55 + suf60.length = c.terms.length∧rangeL s_NegateConstraint_b1 suf60 i_55 g53_0_56 = some j60∧Le H36 H58∧f 1 = Pt g5∧f 2 = Pt g7∧f 4 = Pt g53∧f 5 = I i_55∧Star H58 w_ ([oF 112 rTerm v56_g53_0 g53_0_56,box g53 43 #[v56_g53_0,I (i64 ((i64 (x31 - c.bound)) + 1))],box g7 43 #[S0,I 0],box g5 43 #[v0_0,I c.bound]])
 have hst:=Star.addNil (R:=(OR.frz rTerm)) (e:=112) hst
 refine W_loop I60 (n:=c.terms.length) ?_ ?_
 exact ij hI60 ⟨0,c.terms,[],H36,S0,rfl,rfl,Nat.zero_add _,hL60,(Le.refl _),((hS36 1 rfl).trans rfl),((hS36 2 rfl).trans rfl),hv53,rfl,hst⟩
 intro n60 f w_ hI
 obtain ⟨i_55,suf60,g53_0_56,H58,v56_g53_0,rfl,hd60,hl60,hL60,l59,sf1,sf2,sf4,sf5,hst⟩:=ik hI60 hI
 refine W_seq (sq (mF sf5 rfl (fA 0 fa_43_0 sf1 rfl (ldB 3 hst Try.isAgg41 rfl rfl rfl (L_len rfl Try.underlying41 rfl (slice_len (RP.mono _ h0_0 (Le.trans hE36 l59))) (L_lss rfl rfl rfl (nn (W_cond (b:=decide ((i_55 : Int) < (c.terms.length : Int))) rfl (fun hc62=>?_) (fun hc62=>?_)))))))))
 have hlt60:=of_decide_eq_true hc62
 rcases suf60 with _ | ⟨x_60,rest60⟩
 exact absurd hlt60 (by simp at hl60; omega)
 obtain ⟨o60,hB60,hL60⟩:=range_cons hL60
 rw [s_NegateConstraint_b1] at hB60
 have hix60:=drop_idx hd60
 refine W_skip (W_seq (W_block ?_))
 obtain ⟨x74,hx74,hB60⟩:=bind_some hB60
 refine W_drawS 17 [isV (Pt g53),isV (v56_g53_0),isV (Pt g5),isV (v0_0),isV (I i_55),isEl rTerm x_60 0,isEl rTerm x_60 0,isV (I x_60.coef),isV (Pt g5),isV (v0_0),isV (I i_55),isEl rTerm x_60 0,isEl rTerm x_60 1,isV (I x_60.lit),isV (I (i64 (-x_60.lit))),isV (.agg #[I x_60.coef,I (i64 (-x_60.lit))]),anyF] [oF 112 rTerm v56_g53_0 g53_0_56,box g53 43 #[v56_g53_0,I (i64 ((i64 (x31 - c.bound)) + 1))],box g7 43 #[S0,I 0],box g5 43 #[v0_0,I c.bound]] [.made 16 40 (fun v_=>oF 112 rTerm v_ ([({ coef:=x_60.coef,lit:=i64 (-x_60.lit) } : Term)])) none] ([]) [([],[]),([],[]),([],[]),([],[]),([],[]),([],[]),([],[]),([],[]),([],[]),([],[]),([],[]),([],[]),([],[]),([],[]),([],[]),([],[]),([],[0])] (S:=[(some 16,[40],none)]) Try_mix (by kernel_rfl) rfl (by kernel_rfl) (amF_cons (mono_V _) (amF_cons (mono_V _) (amF_cons (mono_V _) (amF_cons (mono_V _) (amF_cons (mono_V _) (amF_cons (mono_el _ _ _) (amF_cons (mono_el _ _ _) (amF_cons (mono_V _) (amF_cons (mono_V _) (amF_cons (mono_V _) (amF_cons (mono_V _) (amF_cons (mono_el _ _ _) (amF_cons (mono_el _ _ _) (amF_cons (mono_V _) (amF_cons (mono_V _) (amF_cons (mono_V _) (amF_cons (mono_any) amF_nil))))))))))))))))) hst ?_ (fun f w_ H79 hS79 hE79 hT79 hst=>?_)
 refine opsS_cons (fun f w_ _ _ s _ _ hst=>fA 0 fa_43_0 ((s 4 rfl).trans sf4) rfl (nO rfl rfl hst)) (opsS_cons (fun f w_ _ _ _ _ p hst=>ldB 1 hst Try.isAgg41 (p 0 24 rfl rfl) rfl rfl (nO rfl rfl hst)) (opsS_cons (fun f w_ _ _ s _ _ hst=>fA 0 fa_43_0 ((s 1 rfl).trans sf1) rfl (nO rfl rfl hst)) (opsS_cons (fun f w_ _ _ _ _ p hst=>ldB 3 hst Try.isAgg41 (p 2 26 rfl rfl) rfl rfl (nO rfl rfl hst)) (opsS_cons (fun f w_ _ _ s _ _ hst=>mF ((s 5 rfl).trans sf5) rfl (nO rfl rfl hst)) (opsS_cons ?_ ?_)))))
 intro f w_ H79 X79 hS79 hE79 hP79 hst
 refine L_ix (r:=rTerm) rfl Try.underlying41 Try.sizeOf112 (hP79 3 27 rfl rfl) (RP.mono _ h0_0 (Le.trans (Le.trans hE36 l59) hE79)) (hP79 4 28 rfl rfl) hix60 (fun g91 o92 cs_g91 hrk_hat93 hat93=>?_)
 obtain rfl:=rTerm_iff.1 hrk_hat93
 exact L_nil ⟨rfl,_,_,rfl,Le.refl _,fun _ _=>⟨_,_,_,rfl,hrk_hat93,hat93⟩,hst⟩
 refine opsS_cons ?_ ?_
 intro f w_ H79 X79 hS79 hE79 hP79 hst
 obtain ⟨g95,o95,cs95,hv95,hrk_hat95,hat95⟩:=(hP79 5 29 rfl rfl)
 obtain rfl:=rTerm_iff.1 hrk_hat95
 refine fA o95 fa_112_0 hv95 rfl (L_nil ⟨rfl,_,_,rfl,Le.refl _,fun _ _=>⟨_,_,_,rfl,hrk_hat95,hat95⟩,hst⟩)
 refine opsS_cons ?_ ?_
 intro f w_ H79 X79 hS79 hE79 hP79 hst
 obtain ⟨g97,o97,cs97,hv97,hrk_hat97,hat97⟩:=(hP79 6 30 rfl rfl)
 obtain rfl:=rTerm_iff.1 hrk_hat97
 refine L_ld rfl Try.isAgg3 hv97 (At.cell (AtH.at hat97 hst.sub) (j:=0) rfl) (L_nil ⟨rfl,_,_,rfl,Le.refl _,fun _ _=>rfl,hst⟩)
 refine opsS_cons (fun f w_ _ _ s _ _ hst=>fA 0 fa_43_0 ((s 1 rfl).trans sf1) rfl (nO rfl rfl hst)) (opsS_cons (fun f w_ _ _ _ _ p hst=>ldB 3 hst Try.isAgg41 (p 8 32 rfl rfl) rfl rfl (nO rfl rfl hst)) (opsS_cons (fun f w_ _ _ s _ _ hst=>mF ((s 5 rfl).trans sf5) rfl (nO rfl rfl hst)) (opsS_cons ?_ ?_)))
 intro f w_ H79 X79 hS79 hE79 hP79 hst
 refine L_ix (r:=rTerm) rfl Try.underlying41 Try.sizeOf112 (hP79 9 33 rfl rfl) (RP.mono _ h0_0 (Le.trans (Le.trans hE36 l59) hE79)) (hP79 10 34 rfl rfl) hix60 (fun g99 o100 cs_g99 hrk_hat101 hat101=>?_)
 obtain rfl:=rTerm_iff.1 hrk_hat101
 exact L_nil ⟨rfl,_,_,rfl,Le.refl _,fun _ _=>⟨_,_,_,rfl,hrk_hat101,hat101⟩,hst⟩
 refine opsS_cons ?_ ?_
 intro f w_ H79 X79 hS79 hE79 hP79 hst
 obtain ⟨g103,o103,cs103,hv103,hrk_hat103,hat103⟩:=(hP79 11 35 rfl rfl)
 obtain rfl:=rTerm_iff.1 hrk_hat103
 refine fA (o103 + 1) fa_112_1 hv103 rfl (L_nil ⟨rfl,_,_,rfl,Le.refl _,fun _ _=>⟨_,_,_,rfl,hrk_hat103,hat103⟩,hst⟩)
 refine opsS_cons ?_ ?_
 intro f w_ H79 X79 hS79 hE79 hP79 hst
 obtain ⟨g105,o105,cs105,hv105,hrk_hat105,hat105⟩:=(hP79 12 36 rfl rfl)
 obtain rfl:=rTerm_iff.1 hrk_hat105
 refine L_ld rfl Try.isAgg3 hv105 (At.cell (AtH.at hat105 hst.sub) (j:=1) rfl) (L_nil ⟨rfl,_,_,rfl,Le.refl _,fun _ _=>rfl,hst⟩)
 refine opsS_cons (fun f w_ _ _ _ _ p hst=>L_neg rfl (p 13 37 rfl rfl) (nO rfl rfl hst)) (opsS_cons (fun f w_ _ _ _ _ p hst=>L_bld rfl (parts2 (p 7 31 rfl rfl) (p 14 38 rfl rfl)) (bld_112_0_1 (I x_60.coef) (I (i64 (-x_60.lit))) rfl rfl) (nO rfl rfl hst)) (opsS_cons ?_ ?_))
 intro f w_ H79 X79 hS79 hE79 hP79 hst
 refine L_bs rfl (parts1 (hP79 15 39 rfl rfl)) (bs_41_1_2 (I x_60.coef) (I (i64 (-x_60.lit))) ) hst (fun g107 w108 hst=>?_)
 have hst:=Star.addF (r:=rTerm) (cs:=[I x_60.coef,I (i64 (-x_60.lit))]) (x:=({ coef:=x_60.coef,lit:=i64 (-x_60.lit) } : Term)) hst (rTerm_iff.2 rfl)
 have hst:=Star.mkRow (R:=(OR.frz rTerm)) [([I x_60.coef,I (i64 (-x_60.lit))],({ coef:=x_60.coef,lit:=i64 (-x_60.lit) } : Term))] [({ coef:=x_60.coef,lit:=i64 (-x_60.lit) } : Term)] 1 hst rfl rfl rfl (by decide)
 have hst:=hst.gets [4,4,4,4] rfl
 exact L_nil ⟨rfl,_,_,rfl,Le.refl _,fun _ _=>trivial,hst⟩
 exact opsS_nil
 have hst : Star H79 w_ ([oF 112 rTerm v56_g53_0 g53_0_56,box g53 43 #[v56_g53_0,I (i64 ((i64 (x31 - c.bound)) + 1))],box g7 43 #[S0,I 0],box g5 43 #[v0_0,I c.bound],oF 112 rTerm (f 40) ([({ coef:=x_60.coef,lit:=i64 (-x_60.lit) } : Term)])]):=hst
 have hst:=hst.gets [4,1] rfl
 refine L_appM (v:=v56_g53_0) (u:=(f 40)) rfl et_41 (hT79 1 25 rfl rfl) rfl hst hx74 (fun v111 w112 hst=>fA 0 fa_43_0 ((hS79 4 rfl).trans sf4) rfl (L_stB (v:=v111) (cs2:=#[v111,I (i64 ((i64 (x31 - c.bound)) + 1))]) 1 rfl Try.sizeOf41 rfl rfl (one_len (Star.len 0 hst rfl)) hst rfl rfl rfl (fun w114 hst=>nn (W_region (mF ((hS79 5 rfl).trans sf5) rfl (L_add rfl rfl rfl (aI rfl (nn ?_))))))))
 obtain rfl:=so hB60
 have hst:=hst.gets [3,3,2,3] rfl
 show ∃ m,m < _∧I60 m _ _
 refine ⟨rest60.length,by simp,?_⟩
 exact ij hI60 ⟨i_55 + 1,rest60,x74,H79,v111,rfl,drop_next hd60,by simp at hl60; omega,hL60,(Le.trans l59 hE79),((hS79 1 rfl).trans sf1),((hS79 2 rfl).trans sf2),((hS79 4 rfl).trans sf4),(Eq.trans rfl (congrArg (Value.int .i64) (i64_succ (n:=c.terms.length) (by simp at hl60; omega) hlen60))),hst⟩
 rcases suf60 with _ | ⟨_,_⟩
 obtain rfl:=range_nil hL60
 refine W_exit (rj hR60 ⟨g53_0_56,H58,v56_g53_0,rfl,l59,sf2,sf4,(Star.keepN 3 hst)⟩)
 exact absurd (of_decide_eq_false hc62) (by simp at hl60; omega)
 intro f w_ hR
 obtain ⟨g53_0_56,H58,v56_g53_0,rfl,l59,sf2,sf4,hst⟩:=rk hR60 hR
 refine W_seq (sq (fA 1 fa_43_1 sf4 rfl (ldB 1 hst Try.isAgg3 rfl rfl rfl (L_lss rfl rfl rfl (nn ?_)))))
 obtain ⟨g53_1_115,hA116,hF⟩:=bind_some hF
 obtain ⟨R116,hR116⟩:=exR fun f w_=>f 2 = Pt g7∧f 4 = Pt g53∧Star H58 w_ ([oF 112 rTerm v56_g53_0 g53_0_56,box g53 43 #[v56_g53_0,I g53_1_115],box g7 43 #[S0,I 0]])
 refine W_join R116 ?_ ?_
 refine W_cond (b:=decide ((i64 ((i64 (x31 - c.bound)) + 1)) < 0)) rfl (fun hc117=>?_) (fun hc117=>?_)
 have hA116:=(ite_t hc117).symm.trans hA116
 refine W_region (fA 1 fa_43_1 sf4 rfl (L_stB (v:=I 0) (cs2:=#[v56_g53_0,I 0]) 1 rfl Try.sizeOf3 rfl rfl rfl hst rfl rfl rfl (fun w119 hst=>nn ?_)))
 obtain rfl:=so hA116
 have hst:=hst.gets [2,1,2] rfl
 exact rj hR116 ⟨sf2,sf4,hst⟩
 have hA116:=(ite_f hc117).symm.trans hA116
 refine W_skip ?_
 obtain rfl:=so hA116
 exact rj hR116 ⟨sf2,sf4,hst⟩
 intro f w_ hR
 obtain ⟨sf2,sf4,hst⟩:=rk hR116 hR
 refine sq (L_lda (cs:=[v56_g53_0,I g53_1_115]) rfl Try.isAgg43 Try.sizeOf43 sf4 (At.sub0 (Blk.at (Star.blkAt 1 hst rfl)) 0 2) rfl (L_staB (vs:=#[v56_g53_0,I g53_1_115]) (cs2:=#[v56_g53_0,I g53_1_115]) 2 rfl Try.sizeOf43 sf2 rfl rfl (ones_cons (one_len (Star.len 0 hst rfl)) (ones_cons rfl ones_nil)) hst rfl (by show 0 + 2≤2; decide) rfl (fun w121 hst=>aB rfl (nn (W_ret (retG2 (v1:=.agg #[v56_g53_0,I g53_1_115]) (v2:=Bo true) Try.results79 (resV_agg Try.isAgg43 Try.sizeOf43 sf2 (Star.blkAt 0 hst rfl) rfl) rfl ?_))))))
 obtain rfl:=so hF
 have hst:=hst.get 1 rfl
 exact ⟨v56_g53_0,rfl,(Star.down (Star.keepN 1 hst) (Le.trans hE36 l59) (co closed_term c0))⟩
theorem s_ProveConstraint_c {fu : Nat} {list : List Con} {c : Con} {fuel : Int} {v0 : Value} {v1_0 : Value} {H : FH} {w : World} (hst : Star H w []) (h0 : (rS 43 (rCon 112)).rel H [v0] list) (h1_0 : (rS 112 rTerm).rel H [v1_0] c.terms) {r : Int × (List Bool) × (List Step)} (hF : s_ProveConstraint fu list c fuel = some r) :
 C Try.prog 29 #[v0,.agg #[v1_0,I c.bound],I fuel] w fun v w'=>∃ (u1 : Value) (u2 : Value),v = .tuple #[I r.1,u1,u2]∧Star H w' [oF 4 RP.bool u1 r.2.1,oS 93 (oStep 112) u2 r.2.2]:=by
 unfold s_ProveConstraint at hF
 refine C_enter Try.func29 rfl Try.ntmps29 rfl (sq (L_box (v:=.agg #[v1_0,I c.bound]) (cs:=#[v1_0,I c.bound]) rfl rfl rfl hst (fun g3 w4 hst=>aI rfl (aV S0 rfl (aV S0 rfl (nq ?_))))))
 obtain ⟨x10,hx10,hF⟩:=bind_some hF
 refine W_region (L_lda (cs:=[v1_0,I c.bound]) rfl Try.isAgg43 Try.sizeOf43 rfl (At.sub0 (Blk.at (Star.blkAt 0 hst rfl)) 0 2) rfl ?_)
 obtain ⟨H16b,l17,s18,z19,k20⟩:=hst.borrow
 refine L_call rfl Try.call79 (ops1 rfl) (s_NegateConstraint_c (c:=c) s18 (RP.mono _ h1_0 l17) hx10) ?_
 rintro _ w21 ⟨r21_0,rfl,hst⟩
 have hst:=k20 hst (co closed_term c0)
 refine mV (.tuple #[.agg #[r21_0,I x10.1.bound],Bo x10.2]) rfl (L_ex (v:=.agg #[r21_0,I x10.1.bound]) rfl rfl rfl (L_ex (v:=Bo x10.2) rfl rfl rfl (L_al (cs:=#[S0,I 0]) rfl Try.zeroValue43 rfl hst (fun g23 w24 hst=>L_staB (vs:=#[r21_0,I x10.1.bound]) (cs2:=#[r21_0,I x10.1.bound]) 0 rfl Try.sizeOf43 rfl rfl rfl (ones_cons (one_len (Star.len 1 hst rfl)) (ones_cons rfl ones_nil)) hst rfl (by show 0 + 2≤2; decide) rfl (fun w25 hst=>aB rfl (nq (W_seq ?_)))))))
 obtain ⟨R26,hR26⟩:=exR fun f w_=>f 0 = v0∧f 2 = I fuel∧f 9 = Pt g23∧f 22 = Bo ((!x10.2) || (decide ((list.length : Int) ≥ 400)))∧Star H w_ ([oF 112 rTerm r21_0 x10.1.terms,box g23 43 #[r21_0,I x10.1.bound]])
 refine W_join R26 ?_ ?_
 refine W_region (mB rfl (L_not_ rfl rfl (mB rfl (L_split (d:=18) (b:=(!x10.2)) rfl (fun hc27=>?_) (fun hc27=>?_)))))
 refine ps rfl (ps rfl (ps rfl (L_pick (v:=Bo ((!x10.2) || (decide ((list.length : Int) ≥ 400)))) rfl rfl (or_t hc27) (nn ?_))))
 have hst:=hst.get 1 rfl
 exact rj hR26 ⟨rfl,rfl,rfl,rfl,(Star.keepN 2 hst)⟩
 refine mV v0 rfl (L_len rfl Try.underlying23 rfl (slice_len h0) (L_geq rfl rfl rfl (L_pick (v:=Bo ((!x10.2) || (decide ((list.length : Int) ≥ 400)))) rfl rfl (or_f hc27 rfl) (nn ?_))))
 have hst:=hst.get 1 rfl
 exact rj hR26 ⟨rfl,rfl,rfl,rfl,(Star.keepN 2 hst)⟩
 intro f w_ hR
 obtain ⟨sf0,sf2,sf9,sf22,hst⟩:=rk hR26 hR
 refine W_cond (b:=((!x10.2) || (decide ((list.length : Int) ≥ 400)))) sf22 (fun hc28=>?_) (fun hc28=>?_)
 have hF:=(ite_t hc28).symm.trans hF
 refine sq (L_bs rfl parts0 (bs_24_0  ) hst (fun g35 w36 hst=>?_))
 have hst:=Star.mkRow (R:=(OR.frz RP.bool)) [] [] 0 hst rfl rfl rfl (by decide)
 refine L_bs rfl parts0 (bs_30_0  ) hst (fun g38 w39 hst=>?_)
 have hst:=Star.mkRow (R:=(OR.frz (rStep 112))) [] [] 0 hst rfl rfl rfl (by decide)
 refine aI rfl (aV (Sl g35 0 0) rfl (aV (Sl g38 0 0) rfl (nn (W_ret (retG3 (v1:=I 3) (v2:=(Sl g35 0 0)) (v3:=(Sl g38 0 0)) Try.results29 rfl rfl rfl ?_)))))
 obtain rfl:=so hF
 have hst:=Star.recast (R:=(OR.frz (rStep 112))) (R':=(oStep 112)) rfl hst
 have hst:=hst.get 1 rfl
 exact ⟨(Sl g35 0 0),(Sl g38 0 0),rfl,(Star.keepN 2 hst)⟩
 have hF:=(ite_f hc28).symm.trans hF
 refine W_skip (W_seq ?_)
 obtain ⟨x44,hx44,hF⟩:=bind_some hF
 obtain ⟨x51,hx51,hF⟩:=bind_some hF
 obtain ⟨x63,hx63,hF⟩:=bind_some hF
 have hst:=hst.get 1 rfl
 refine W_drawS 11 [anyF,isV (v0),anyF,isV (.agg #[r21_0,I x10.1.bound]),anyF,anyF,isV (I fuel),tup3 (isV (I x63.1)) (anyF) (anyF),isV (I x63.1),anyF,anyF] [box g23 43 #[r21_0,I x10.1.bound]] [.base (oF 112 rTerm r21_0 x10.1.terms) (some 4),.made 0 25 (fun v_=>oF 43 (rCon 112) v_ ([])) (some 2),.made 2 27 (fun v_=>oF 43 (rCon 112) v_ x44) (some 5),.made 4 29 (fun v_=>oS 43 (oCon 112) v_ ([x10.1])) (some 5),.made 5 30 (fun v_=>oF 43 (rCon 112) v_ x51) none,.made 7 32 (fun v_=>oF 4 RP.bool (tupC v_ 1) x63.2.1) (some 9),.made 7 32 (fun v_=>oS 93 (oStep 112) (tupC v_ 2) x63.2.2) (some 10),.made 9 34 (fun v_=>oF 4 RP.bool v_ x63.2.1) none,.made 10 35 (fun v_=>oS 93 (oStep 112) v_ x63.2.2) none] ([]) [([],[1]),([],[]),([1],[2]),([],[]),([0],[3]),([2,3],[4]),([],[]),([4],[4,5,6]),([],[]),([5],[7]),([6],[8])] (S:=[(none,[],some 4),(some 0,[25],some 2),(some 2,[27],some 5),(some 4,[29],some 5),(some 5,[30],none),(some 7,[32],some 9),(some 7,[32],some 10),(some 9,[34],none),(some 10,[35],none)]) Try_mix (by kernel_rfl) rfl (by kernel_rfl) (amF_cons (mono_any) (amF_cons (mono_V _) (amF_cons (mono_any) (amF_cons (mono_V _) (amF_cons (mono_any) (amF_cons (mono_any) (amF_cons (mono_V _) (amF_cons (mono_tup3 (mono_V _) (mono_any) (mono_any)) (amF_cons (mono_V _) (amF_cons (mono_any) (amF_cons (mono_any) amF_nil))))))))))) hst ?_ (fun f w_ H67 hS67 hE67 hT67 hst=>?_)
 refine opsS_cons ?_ ?_
 intro f w_ H67 X67 hS67 hE67 hP67 hst
 refine L_bs rfl parts0 (bs_23_0  ) hst (fun g91 w92 hst=>?_)
 have hst:=Star.mkRow (R:=(OR.frz (rCon 112))) [] [] 0 hst rfl rfl rfl (by decide)
 have hst:=hst.get 1 rfl
 exact L_nil ⟨rfl,_,_,rfl,Le.refl _,fun _ _=>trivial,hst⟩
 refine opsS_cons (fun f w_ _ _ s _ _ hst=>mF ((s 0 rfl).trans sf0) rfl (nO rfl rfl hst)) (opsS_cons ?_ ?_)
 intro f w_ H67 X67 hS67 hE67 hP67 hst
 have hst : Star H67 w_ (box g23 43 #[r21_0,I x10.1.bound] :: oF 43 (rCon 112) (f 25) ([]) :: X67):=hst
 have hst:=hst.get 1 rfl
 refine L_app (v:=(f 25)) (u:=v0) rfl et_23 rfl (hP67 1 26 rfl rfl) hst (RP.mono _ h0 hE67) hx44 (fun v95 w96 hst=>?_)
 have hst:=hst.get 1 rfl
 exact L_nil ⟨rfl,_,_,rfl,Le.refl _,fun _ _=>trivial,hst⟩
 refine opsS_cons (fun f w_ _ _ s _ _ hst=>L_lda (cs:=[r21_0,I x10.1.bound]) rfl Try.isAgg43 Try.sizeOf43 ((s 9 rfl).trans sf9) (At.sub0 (Blk.at (Star.blkAt 0 hst rfl)) 0 2) rfl (nO rfl rfl hst)) (opsS_cons ?_ ?_)
 intro f w_ H67 X67 hS67 hE67 hP67 hst
 have hst : Star H67 w_ (box g23 43 #[r21_0,I x10.1.bound] :: oF 112 rTerm r21_0 x10.1.terms :: X67):=hst
 refine L_bs rfl (parts1 (hP67 3 28 rfl rfl)) (bs_23_1_2 (r21_0) (I x10.1.bound) ) hst (fun g98 w99 hst=>?_)
 have hst:=hst.get 2 rfl
 have hst:=oCon_close (c:=x10.1) hst
 have hst:=Star.mkRow (R:=(oCon 112)) [([r21_0,I x10.1.bound],x10.1)] [x10.1] 1 hst rfl rfl rfl (by decide)
 have hst:=hst.get 1 rfl
 exact L_nil ⟨rfl,_,_,rfl,Le.refl _,fun _ _=>trivial,hst⟩
 refine opsS_cons ?_ ?_
 intro f w_ H67 X67 hS67 hE67 hP67 hst
 have hst : Star H67 w_ (box g23 43 #[r21_0,I x10.1.bound] :: oF 43 (rCon 112) (f 27) x44 :: oS 43 (oCon 112) (f 29) ([x10.1]) :: X67):=hst
 have hst:=hst.get 2 rfl
 obtain ⟨H103,l104,hst⟩:=Star.shallow hst
 have hst : Star H103 w_ (oF 43 (rCon 112) (f 29) ([x10.1]) :: _):=hst
 have hst:=hst.get 2 rfl
 refine L_appM (v:=(f 27)) (u:=(f 29)) rfl et_23 rfl rfl hst hx51 (fun v105 w106 hst=>?_)
 have hst:=hst.get 1 rfl
 exact L_nil ⟨rfl,_,_,rfl,l104,fun _ _=>trivial,hst⟩
 refine opsS_cons (fun f w_ _ _ s _ _ hst=>mF ((s 2 rfl).trans sf2) rfl (nO rfl rfl hst)) (opsS_cons ?_ ?_)
 intro f w_ H67 X67 hS67 hE67 hP67 hst
 have hst : Star H67 w_ (box g23 43 #[r21_0,I x10.1.bound] :: oF 43 (rCon 112) (f 30) x51 :: X67):=hst
 obtain ⟨H109b,l110,s111,z112,k113⟩:=hst.borrow
 have hb114 : (rS 43 (rCon 112)).rel H109b [(f 30)] x51:=fz_own 1 z112 rfl
 refine L_call rfl Try.call20 (ops2 rfl (hP67 6 31 rfl rfl)) (s_SolveProblem_c (list:=x51) (fuel:=fuel) s111 hb114 hx63) ?_
 rintro _ w115 ⟨r115_0,r115_1,rfl,hst⟩
 have hst:=k113 hst (co closed_bool (co closed_oStep c0))
 have hst:=hst.gets [1,1,3,3] rfl
 exact L_nil ⟨rfl,_,_,rfl,Le.refl _,fun _ _=>⟨_,_,_,rfl,rfl,trivial,trivial⟩,hst⟩
 refine opsS_cons ?_ ?_
 intro f w_ H67 X67 hS67 hE67 hP67 hst
 obtain ⟨a118_0,a118_1,a118_2,hv118,ht118_0,ht118_1,ht118_2⟩:=(hP67 7 32 rfl rfl)
 obtain rfl:=ht118_0
 refine L_ex (v:=I x63.1) rfl hv118 rfl (L_nil ⟨rfl,_,_,rfl,Le.refl _,fun _ _=>rfl,hst⟩)
 refine opsS_cons ?_ ?_
 intro f w_ H67 X67 hS67 hE67 hP67 hst
 have hst : Star H67 w_ (box g23 43 #[r21_0,I x10.1.bound] :: own (OR.ownS 4 (OR.frz RP.bool)) [(tupC (f 32) 1)] x63.2.1 :: X67):=hst
 obtain ⟨a119_0,a119_1,a119_2,hv119,ht119_0,ht119_1,ht119_2⟩:=(hP67 7 32 rfl rfl)
 obtain rfl:=ht119_0
 have hren : Star H67 w_ (box g23 43 #[r21_0,I x10.1.bound] :: own (OR.ownS 4 (OR.frz RP.bool)) [(tupC (f 32) 1)] x63.2.1 :: X67):=hst
 rw [hv119] at hren
 have hst : Star H67 w_ (box g23 43 #[r21_0,I x10.1.bound] :: oF 4 RP.bool a119_1 x63.2.1 :: X67):=hren
 refine L_ex (v:=a119_1) rfl hv119 rfl (L_nil ⟨rfl,_,_,rfl,Le.refl _,fun _ _=>trivial,hst⟩)
 refine opsS_cons ?_ ?_
 intro f w_ H67 X67 hS67 hE67 hP67 hst
 have hst : Star H67 w_ (box g23 43 #[r21_0,I x10.1.bound] :: own (OR.ownS 93 (oStep 112)) [(tupC (f 32) 2)] x63.2.2 :: X67):=hst
 obtain ⟨a120_0,a120_1,a120_2,hv120,ht120_0,ht120_1,ht120_2⟩:=(hP67 7 32 rfl rfl)
 obtain rfl:=ht120_0
 have hren : Star H67 w_ (box g23 43 #[r21_0,I x10.1.bound] :: own (OR.ownS 93 (oStep 112)) [(tupC (f 32) 2)] x63.2.2 :: X67):=hst
 rw [hv120] at hren
 have hst : Star H67 w_ (box g23 43 #[r21_0,I x10.1.bound] :: oS 93 (oStep 112) a120_2 x63.2.2 :: X67):=hren
 refine L_ex (v:=a120_2) rfl hv120 rfl (L_nil ⟨rfl,_,_,rfl,Le.refl _,fun _ _=>trivial,hst⟩)
 exact opsS_nil
 have hst : Star H67 w_ ([box g23 43 #[r21_0,I x10.1.bound],oF 43 (rCon 112) (f 30) x51,oF 4 RP.bool (f 34) x63.2.1,oS 93 (oStep 112) (f 35) x63.2.2]):=hst
 refine aF (hT67 8 33 rfl rfl) rfl (aV (f 34) rfl (aV (f 35) rfl (nn (W_ret (retG3 (v1:=I x63.1) (v2:=(f 34)) (v3:=(f 35)) Try.results29 rfl rfl rfl ?_)))))
 obtain rfl:=so hF
 have hst:=hst.gets [3,3] rfl
 exact ⟨(f 34),(f 35),rfl,(Star.down (Star.keepN 2 hst) hE67 (co closed_bool (co closed_oStep c0)))⟩
theorem l_FnProveSelf_c {fu : Nat} {code : List UInt8} {more : List UInt8} {v0 : Value} {v1 : Value} {H : FH} {w : World} (hst : Star H w []) (h0 : (rS 5 RP.u8).rel H [v0] code) (h1 : (rS 5 RP.u8).rel H [v1] more) {r : Bool} (hF : l_FnProveSelf fu code more = some r) :
 C Try.prog 7 #[v0,v1] w fun v w'=>v = Bo r∧Star H w' []:=by
 unfold l_FnProveSelf at hF
 refine C_enter Try.func7 rfl Try.ntmps7 rfl (sq (aB rfl (nq (W_seq ?_))))
 obtain ⟨R1,hR1⟩:=exR fun f w_=>f 0 = v0∧f 1 = v1∧f 27 = Bo ((decide ((code.length : Int) > 1048576)) || (decide ((more.length : Int) > 1048576)))∧Star H w_ ([])
 refine W_join R1 ?_ ?_
 refine W_region (mV v0 rfl (L_len rfl Try.underlying22 rfl (slice_len h0) (L_gtr rfl rfl rfl (mB rfl (L_split (d:=23) (b:=decide ((code.length : Int) > 1048576)) rfl (fun hc2=>?_) (fun hc2=>?_))))))
 refine ps rfl (ps rfl (ps rfl (L_pick (v:=Bo ((decide ((code.length : Int) > 1048576)) || (decide ((more.length : Int) > 1048576)))) rfl rfl (or_t hc2) (nn (rj hR1 ⟨rfl,rfl,rfl,hst⟩)))))
 refine mV v1 rfl (L_len rfl Try.underlying22 rfl (slice_len h1) (L_gtr rfl rfl rfl (L_pick (v:=Bo ((decide ((code.length : Int) > 1048576)) || (decide ((more.length : Int) > 1048576)))) rfl rfl (or_f hc2 rfl) (nn (rj hR1 ⟨rfl,rfl,rfl,hst⟩)))))
 intro f w_ hR
 obtain ⟨sf0,sf1,sf27,hst⟩:=rk hR1 hR
 refine W_cond (b:=((decide ((code.length : Int) > 1048576)) || (decide ((more.length : Int) > 1048576)))) sf27 (fun hc3=>?_) (fun hc3=>?_)
 have hF:=(ite_t hc3).symm.trans hF
 refine sq (aB rfl (nn (W_ret (retG1 (v1:=Bo true) Try.results7 rfl ?_))))
 obtain rfl:=so hF
 exact ⟨rfl,hst⟩
 have hF:=(ite_f hc3).symm.trans hF
 refine W_skip (W_seq ?_)
 obtain ⟨x4,hx4,hF⟩:=bind_some hF
 refine W_region (mF sf0 rfl (L_call rfl Try.call26 (ops1 rfl) (s_DrawProveConstraint_c (code:=code) hst h0 hx4) ?_))
 rintro _ w11 ⟨H11,l11,r11_0,r11_1,rfl,hst⟩
 refine mV (.tuple #[r11_0,.agg #[r11_1,I x4.2.1.bound],I x4.2.2]) rfl (L_ex (v:=r11_0) rfl rfl rfl (L_ex (v:=.agg #[r11_1,I x4.2.1.bound]) rfl rfl rfl (L_ex (v:=I x4.2.2) rfl rfl rfl (L_al (cs:=#[S0,I 0]) rfl Try.zeroValue43 rfl hst (fun g14 w15 hst=>aV r11_0 rfl (L_staB (vs:=#[r11_1,I x4.2.1.bound]) (cs2:=#[r11_1,I x4.2.1.bound]) 0 rfl Try.sizeOf43 rfl rfl rfl (ones_cons (one_len (Star.len 2 hst rfl)) (ones_cons rfl ones_nil)) hst rfl (by show 0 + 2≤2; decide) rfl (fun w16 hst=>aI rfl (nq (W_seq ?_)))))))))
 obtain ⟨b25,hb25,hF⟩:=bind_some hF
 obtain ⟨R26,hR26⟩:=exR fun f w_=>f 1 = v1∧f 5 = r11_0∧f 7 = I x4.2.2∧f 41 = Bo b25∧Star H11 w_ ([oF 43 (rCon 112) r11_0 x4.1])
 refine W_join R26 ?_ ?_
 refine W_region (mV r11_0 rfl (L_len rfl Try.underlying23 rfl (Star.len 1 hst rfl) (L_eql rfl rfl rfl (mB rfl (L_split (d:=37) (b:=((x4.1.length : Int) == 0)) rfl (fun hc27=>?_) (fun hc27=>?_))))))
 rw [ite_t hc27] at hb25
 refine ps rfl (ps rfl (ps rfl (L_pick (v:=Bo b25) rfl rfl (congrArg Value.bool (so hb25)) (nn ?_))))
 have hst:=hst.get 1 rfl
 exact rj hR26 ⟨sf1,rfl,rfl,rfl,(Star.keepN 1 hst)⟩
 rw [ite_f hc27] at hb25
 obtain ⟨x23,hx23,hb25⟩:=bind_some hb25
 refine mV r11_0 rfl ?_
 obtain ⟨H28b,l29,s30,z31,k32⟩:=hst.borrow
 have hb33 : (rS 43 (rCon 112)).rel H28b [r11_0] x4.1:=fz_own 1 z31 rfl
 refine L_call rfl Try.call27 (ops1 rfl) (s_ProblemValid_c (list:=x4.1) s30 hb33 hx23) ?_
 rintro _ w34 ⟨rfl,hst⟩
 have hst:=k32 hst c0
 refine L_not_ rfl rfl (L_pick (v:=Bo b25) rfl rfl (congrArg Value.bool (so hb25)) (nn ?_))
 have hst:=hst.get 1 rfl
 exact rj hR26 ⟨sf1,rfl,rfl,rfl,(Star.keepN 1 hst)⟩
 intro f w_ hR
 obtain ⟨sf1,sf5,sf7,sf41,hst⟩:=rk hR26 hR
 refine W_cond (b:=b25) sf41 (fun hc35=>?_) (fun hc35=>?_)
 have hF:=(ite_t hc35).symm.trans hF
 refine W_seq ?_
 obtain ⟨x42,hx42,hF⟩:=bind_some hF
 refine W_region (mF sf5 rfl (mF sf7 rfl ?_))
 obtain ⟨H46b,l47,s48,z49,k50⟩:=hst.borrow
 have hb51 : (rS 43 (rCon 112)).rel H46b [r11_0] x4.1:=fz_own 0 z49 rfl
 refine L_call rfl Try.call17 (ops2 rfl rfl) (i_SolveProblem_c (list:=x4.1) (fuel:=x4.2.2) s48 hb51 hx42) ?_
 rintro _ w52 ⟨r52_0,r52_1,rfl,hst⟩
 have hst:=k50 hst (co closed_bool (co closed_oStep c0))
 refine mV (.tuple #[I x42.1,r52_0,r52_1]) rfl (L_ex (v:=I x42.1) rfl rfl rfl (L_ex (v:=r52_0) rfl rfl rfl (L_ex (v:=r52_1) rfl rfl rfl (aI rfl (aV r52_0 rfl (aV r52_1 rfl (nq ?_)))))))
 obtain ⟨x61,hx61,hF⟩:=bind_some hF
 refine W_region (mF sf5 rfl (mF sf7 rfl ?_))
 obtain ⟨H65b,l66,s67,z68,k69⟩:=hst.borrow
 have hb70 : (rS 43 (rCon 112)).rel H65b [r11_0] x4.1:=fz_own 2 z68 rfl
 refine L_call rfl Try.call20 (ops2 rfl rfl) (s_SolveProblem_c (list:=x4.1) (fuel:=x4.2.2) s67 hb70 hx61) ?_
 rintro _ w71 ⟨r71_0,r71_1,rfl,hst⟩
 have hst:=k69 hst (co closed_bool (co closed_oStep c0))
 refine mV (.tuple #[I x61.1,r71_0,r71_1]) rfl (L_ex (v:=I x61.1) rfl rfl rfl (L_ex (v:=r71_0) rfl rfl rfl (L_ex (v:=r71_1) rfl rfl rfl (aI rfl (aV r71_0 rfl (aV r71_1 rfl (ns (mI rfl (mI rfl (L_eql rfl rfl rfl (aB rfl (nn (W_ret (retG1 (v1:=Bo (x42.1 == x61.1)) Try.results7 rfl ?_))))))))))))))
 obtain rfl:=so hF
 exact ⟨rfl,(Star.down (Star.keepN 0 hst) l11 c0)⟩
 have hF:=(ite_f hc35).symm.trans hF
 refine W_skip (W_seq ?_)
 obtain ⟨q74,hq74,hF⟩:=bind_some hF
 obtain ⟨x75,hx75,hF⟩:=bind_some hF
 obtain ⟨x86,hx86,hF⟩:=bind_some hF
 refine W_region (mF sf5 rfl (mF sf5 rfl (mF sf1 rfl (L_len rfl Try.underlying22 rfl (slice_len (RP.mono _ h1 l11)) (mF sf5 rfl (L_len rfl Try.underlying23 rfl (Star.len 0 hst rfl) (L_rem (m:=(more.length : Int)) (n:=(x4.1.length : Int)) rfl rfl rfl (fun he=>by rw [if_pos he] at hq74; cases hq74) ?_)))))))
 obtain ⟨g90,cap_g90,hv91,_,_⟩:=Star.row 0 hst rfl hx75
 refine L_ixO (R:=(OR.frz (rCon 112))) (tb:=0) 0 rfl Try.underlying23 Try.sizeOf43 rfl hv91 (by first | rfl | simp) rfl hx75 ?_
 obtain ⟨cs92,hr92,hat92⟩:=Star.eltF 0 hst rfl hv91 hx75
 obtain ⟨u93_0,rfl,hu93_0⟩:=rCon_iff.1 hr92
 refine L_lda (cs:=[u93_0,I x75.bound]) rfl Try.isAgg43 Try.sizeOf43 rfl (At.sub hat92 0 2) rfl (mF sf7 rfl ?_)
 obtain ⟨H94b,l95,s96,z97,k98⟩:=hst.borrow
 have hb99 : (rS 43 (rCon 112)).rel H94b [r11_0] x4.1:=fz_own 0 z97 rfl
 refine L_call rfl Try.call28 (ops3 rfl rfl rfl) (i_ProveConstraint_c (list:=x4.1) (c:=x75) (fuel:=x4.2.2) s96 hb99 (RP.mono _ hu93_0 l95) hx86) ?_
 rintro _ w100 ⟨r100_0,r100_1,rfl,hst⟩
 have hst:=k98 hst (co closed_bool (co closed_oStep c0))
 refine mV (.tuple #[I x86.1,r100_0,r100_1]) rfl (L_ex (v:=I x86.1) rfl rfl rfl (L_ex (v:=r100_0) rfl rfl rfl (L_ex (v:=r100_1) rfl rfl rfl (aI rfl (aV r100_0 rfl (aV r100_1 rfl (nq ?_)))))))
 obtain ⟨q103,hq103,hF⟩:=bind_some hF
 obtain ⟨x112,hx112,hF⟩:=bind_some hF
 refine W_region (mF sf5 rfl (mF sf5 rfl (mF sf1 rfl (L_len rfl Try.underlying22 rfl (slice_len (RP.mono _ h1 l11)) (mF sf5 rfl (L_len rfl Try.underlying23 rfl (Star.len 2 hst rfl) (L_rem (m:=(more.length : Int)) (n:=(x4.1.length : Int)) rfl rfl rfl (fun he=>by rw [if_pos he] at hq103; cases hq103) (L_ixO (R:=(OR.frz (rCon 112))) (tb:=0) 0 rfl Try.underlying23 Try.sizeOf43 rfl hv91 (by first | rfl | simp) rfl hx75 ?_))))))))
 obtain ⟨cs116,hr116,hat116⟩:=Star.eltF 2 hst rfl hv91 hx75
 obtain ⟨u117_0,rfl,hu117_0⟩:=rCon_iff.1 hr116
 refine L_lda (cs:=[u117_0,I x75.bound]) rfl Try.isAgg43 Try.sizeOf43 rfl (At.sub hat116 0 2) rfl (mF sf7 rfl ?_)
 obtain ⟨H118b,l119,s120,z121,k122⟩:=hst.borrow
 have hb123 : (rS 43 (rCon 112)).rel H118b [r11_0] x4.1:=fz_own 2 z121 rfl
 refine L_call rfl Try.call29 (ops3 rfl rfl rfl) (s_ProveConstraint_c (list:=x4.1) (c:=x75) (fuel:=x4.2.2) s120 hb123 (RP.mono _ hu117_0 l119) hx112) ?_
 rintro _ w124 ⟨r124_0,r124_1,rfl,hst⟩
 have hst:=k122 hst (co closed_bool (co closed_oStep c0))
 refine mV (.tuple #[I x112.1,r124_0,r124_1]) rfl (L_ex (v:=I x112.1) rfl rfl rfl (L_ex (v:=r124_0) rfl rfl rfl (L_ex (v:=r124_1) rfl rfl rfl (aI rfl (aV r124_0 rfl (aV r124_1 rfl (nq ?_)))))))
 obtain ⟨b136,hb136,hF⟩:=bind_some hF
 obtain ⟨R137,hR137⟩:=exR fun f w_=>f 4 = Bo (b136 && (x86.1 != 1))∧Star H11 w_ ([])
 refine W_join R137 ?_ ?_
 refine W_region (mI rfl (mI rfl (L_eql rfl rfl rfl (mB rfl (L_split (d:=92) (b:=(x86.1 == x112.1)) rfl (fun hc138=>?_) (fun hc138=>?_))))))
 rw [ite_t hc138] at hb136
 obtain ⟨x134,hx134,hb136⟩:=bind_some hb136
 refine mV r100_0 rfl (mV r124_0 rfl ?_)
 obtain ⟨H139b,l140,s141,z142,k143⟩:=hst.borrow
 have hb144 : (rS 4 RP.bool).rel H139b [r100_0] x86.2.1:=fz_own 2 z142 rfl
 have hb145 : (rS 4 RP.bool).rel H139b [r124_0] x112.2.1:=fz_own 0 z142 rfl
 refine L_call rfl Try.call16 (ops2 rfl rfl) (l_cpBools_c (a:=x86.2.1) (b:=x112.2.1) s141 hb144 hb145 hx134) ?_
 rintro _ w146 ⟨rfl,hst⟩
 have hst:=k143 hst c0
 refine L_pick (v:=Bo b136) rfl rfl (congrArg Value.bool (so hb136)) (mB rfl (L_split (d:=97) (b:=b136) rfl (fun hc147=>?_) (fun hc147=>?_)))
 refine mI rfl (L_neq rfl rfl rfl (L_pick (v:=Bo (b136 && (x86.1 != 1))) rfl rfl (and_t hc147 rfl) (aB rfl (nn (rj hR137 ⟨rfl,(Star.keepN 0 hst)⟩)))))
 refine ps rfl (ps rfl (L_pick (v:=Bo (b136 && (x86.1 != 1))) rfl rfl (and_f hc147) (aB rfl (nn (rj hR137 ⟨rfl,(Star.keepN 0 hst)⟩)))))
 rw [ite_f hc138] at hb136
 refine ps rfl (ps rfl (ps rfl (L_pick (v:=Bo b136) rfl rfl (congrArg Value.bool (so hb136)) (mB rfl (L_split (d:=97) (b:=b136) rfl (fun hc148=>?_) (fun hc148=>?_))))))
 refine mI rfl (L_neq rfl rfl rfl (L_pick (v:=Bo (b136 && (x86.1 != 1))) rfl rfl (and_t hc148 rfl) (aB rfl (nn (rj hR137 ⟨rfl,(Star.keepN 0 hst)⟩)))))
 refine ps rfl (ps rfl (L_pick (v:=Bo (b136 && (x86.1 != 1))) rfl rfl (and_f hc148) (aB rfl (nn (rj hR137 ⟨rfl,(Star.keepN 0 hst)⟩)))))
 intro f w_ hR
 obtain ⟨sf4,hst⟩:=rk hR137 hR
 refine W_ret (retG1 (v1:=Bo (b136 && (x86.1 != 1))) Try.results7 sf4 ?_)
 obtain rfl:=so hF
 exact ⟨rfl,(Star.down hst l11 c0)⟩
end Go.Proofs.Yteeilbddjlpiaaa

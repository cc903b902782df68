/- Part of a proof by program: W2. -/
import Derived.Test.YtiodhgbfceahfaaGreatD1
import Derived.Test.YtiodhgbfceahfaaGreatW1
namespace Go.Proofs.YtiodhgbfceahfaaGreat
open Go Go.E Go.L Go.RowKit
set_option linter.unusedVariables false
set_option linter.unusedSimpArgs false
set_option maxRecDepth 100000
theorem s_WeakenConstraint_c {c : Con} {variable_ : Int} {v0_0 : Value} {H : FH} {w : World} (hst : Star H w []) (h0_0 : (rS 83 rTerm).rel H [v0_0] c.terms) {r : Con × Bool} (hF : s_WeakenConstraint c variable_ = some r) :
 C Tryz.prog 50 #[.agg #[v0_0,I c.bound],I variable_] w fun v w'=>∃ (u1 : Value),v = .tuple #[.agg #[u1,I r.1.bound],Bo r.2]∧Star H w' [oF 83 rTerm u1 r.1.terms]:=by
 unfold s_WeakenConstraint at hF
 refine C_enter Tryz.func50 rfl Tryz.ntmps50 rfl (sq (L_box (v:=.agg #[v0_0,I c.bound]) (cs:=#[v0_0,I c.bound]) rfl rfl rfl hst (fun g5 w6 hst=>L_al (cs:=#[S0,I 0]) rfl Tryz.zeroValue54 rfl hst (fun g7 w8 hst=>aB rfl (nq (W_seq ?_))))))
 obtain ⟨x14,hx14,hF⟩:=bind_some hF
 obtain ⟨R16,hR16⟩:=exR fun f w_=>f 1 = I variable_∧f 2 = Pt g5∧f 4 = Pt g7∧f 18 = Bo (((!x14) || (decide (variable_ < 1))) || (decide (variable_ > 12)))∧Star H w_ ([box g7 54 #[S0,I 0],box g5 54 #[v0_0,I c.bound]])
 refine W_join R16 ?_ ?_
 refine W_region (L_lda (cs:=[v0_0,I c.bound]) rfl Tryz.isAgg54 Tryz.sizeOf54 rfl (At.sub0 (Blk.at (Star.blkAt 1 hst rfl)) 0 2) rfl ?_)
 obtain ⟨H17b,l18,s19,z20,k21⟩:=hst.borrow
 refine L_call rfl Tryz.call43 (ops1 rfl) (s_ConstraintValid_c (c:=c) s19 (RP.mono _ h0_0 l18) hx14) ?_
 rintro _ w22 ⟨rfl,hst⟩
 have hst:=k21 hst c0
 refine L_not_ rfl rfl (mB rfl (L_split (d:=11) (b:=(!x14)) rfl (fun hc23=>?_) (fun hc23=>?_)))
 refine ps rfl (ps rfl (L_pick (v:=Bo ((!x14) || (decide (variable_ < 1)))) rfl rfl (or_t hc23) (mB rfl (L_split (d:=15) (b:=((!x14) || (decide (variable_ < 1)))) rfl (fun hc24=>?_) (fun hc24=>?_)))))
 refine ps rfl (ps rfl (L_pick (v:=Bo (((!x14) || (decide (variable_ < 1))) || (decide (variable_ > 12)))) rfl rfl (or_t hc24) (nn (rj hR16 ⟨rfl,rfl,rfl,rfl,hst⟩))))
 refine mI rfl (L_gtr rfl rfl rfl (L_pick (v:=Bo (((!x14) || (decide (variable_ < 1))) || (decide (variable_ > 12)))) rfl rfl (or_f hc24 rfl) (nn (rj hR16 ⟨rfl,rfl,rfl,rfl,hst⟩))))
 refine mI rfl (L_lss rfl rfl rfl (L_pick (v:=Bo ((!x14) || (decide (variable_ < 1)))) rfl rfl (or_f hc23 rfl) (mB rfl (L_split (d:=15) (b:=((!x14) || (decide (variable_ < 1)))) rfl (fun hc25=>?_) (fun hc25=>?_)))))
 refine ps rfl (ps rfl (L_pick (v:=Bo (((!x14) || (decide (variable_ < 1))) || (decide (variable_ > 12)))) rfl rfl (or_t hc25) (nn (rj hR16 ⟨rfl,rfl,rfl,rfl,hst⟩))))
 refine mI rfl (L_gtr rfl rfl rfl (L_pick (v:=Bo (((!x14) || (decide (variable_ < 1))) || (decide (variable_ > 12)))) rfl rfl (or_f hc25 rfl) (nn (rj hR16 ⟨rfl,rfl,rfl,rfl,hst⟩))))
 intro f w_ hR
 obtain ⟨sf1,sf2,sf4,sf18,hst⟩:=rk hR16 hR
 refine W_cond (b:=(((!x14) || (decide (variable_ < 1))) || (decide (variable_ > 12)))) sf18 (fun hc26=>?_) (fun hc26=>?_)
 have hF:=(ite_t hc26).symm.trans hF
 refine sq (L_bld rfl (parts0 ) (bld_54_  ) (L_staB (vs:=#[S0,I 0]) (cs2:=#[S0,I 0]) 0 rfl Tryz.sizeOf54 sf4 rfl rfl (ones_cons rfl (ones_cons rfl ones_nil)) hst rfl (by show 0 + 2≤2; decide) rfl (fun w28 hst=>aB rfl (nn (W_ret (retG2 (v1:=.agg #[S0,I 0]) (v2:=Bo false) Tryz.results50 (resV_agg Tryz.isAgg54 Tryz.sizeOf54 sf4 (Star.blkAt 0 hst rfl) rfl) rfl ?_))))))
 obtain rfl:=so hF
 have hst:=Star.addNil (R:=(OR.frz rTerm)) (e:=83) hst
 exact ⟨S0,rfl,(Star.keepN 1 hst)⟩
 have hF:=(ite_f hc26).symm.trans hF
 refine W_skip (sq (fA 1 fa_54_1 sf2 rfl (ldB 1 hst Tryz.isAgg3 rfl rfl rfl (L_bld rfl (parts1 rfl) (bld_54_1 (I c.bound) rfl) (L_al (cs:=#[S0,I 0]) rfl Tryz.zeroValue54 rfl hst (fun g33 w34 hst=>L_staB (vs:=#[S0,I c.bound]) (cs2:=#[S0,I c.bound]) 0 rfl Tryz.sizeOf54 rfl rfl rfl (ones_cons rfl (ones_cons rfl ones_nil)) hst rfl (by show 0 + 2≤2; decide) rfl (fun w35 hst=>nq (sq (aI rfl (nn ?_))))))))))
 have hlen42 : List.length c.terms≤9223372036854775807:=len_le (slice_len h0_0)
 obtain ⟨j42,hL42,hF⟩:=bind_some hF
 obtain ⟨R42,hR42⟩:=exR fun f w_=>∃ g33_0_37 : List Term,∃ g33_1_39 : Int,∃ H40 : FH,∃ v37_g33_0 : Value,j42 = .nx (g33_0_37,g33_1_39)∧Le H H40∧f 4 = Pt g7∧f 6 = Pt g33∧Star H40 w_ ([oF 83 rTerm v37_g33_0 g33_0_37,box g33 54 #[v37_g33_0,I g33_1_39],box g7 54 #[S0,I 0]])
 refine W_join R42 ?_ ?_
 refine W_block ?_
 obtain ⟨I42,hI42⟩:=exI fun n f w_=>∃ i_36 : Nat,∃ suf42 : List Term,∃ g33_0_37 : List Term,∃ g33_1_39 : Int,∃ H40 : FH,∃ v37_g33_0 : Value,n = suf42.length∧List.drop i_36 c.terms = suf42∧i_36 + suf42.length = c.terms.length∧rangeL (s_WeakenConstraint_b1 variable_) suf42 i_36 (g33_0_37,g33_1_39) = some j42∧Le H H40∧f 1 = I variable_∧f 2 = Pt g5∧f 4 = Pt g7∧f 6 = Pt g33∧f 7 = I i_36∧Star H40 w_ ([oF 83 rTerm v37_g33_0 g33_0_37,box g33 54 #[v37_g33_0,I g33_1_39],box g7 54 #[S0,I 0],box g5 54 #[v0_0,I c.bound]])
 have hst:=Star.addNil (R:=(OR.frz rTerm)) (e:=83) hst
 refine W_loop I42 (n:=c.terms.length) ?_ ?_
 exact ij hI42 ⟨0,c.terms,[],c.bound,H,S0,rfl,rfl,Nat.zero_add _,hL42,(Le.refl _),sf1,sf2,sf4,rfl,rfl,hst⟩
 intro n42 f w_ hI
 obtain ⟨i_36,suf42,g33_0_37,g33_1_39,H40,v37_g33_0,rfl,hd42,hl42,hL42,l41,sf1,sf2,sf4,sf6,sf7,hst⟩:=ik hI42 hI
 refine W_seq (sq (mF sf7 rfl (fA 0 fa_54_0 sf2 rfl (ldB 3 hst Tryz.isAgg52 rfl rfl rfl (L_len rfl Tryz.underlying52 rfl (slice_len (RP.mono _ h0_0 l41)) (L_lss rfl rfl rfl (nn (W_cond (b:=decide ((i_36 : Int) < (c.terms.length : Int))) rfl (fun hc44=>?_) (fun hc44=>?_)))))))))
 have hlt42:=of_decide_eq_true hc44
 rcases suf42 with _ | ⟨x_42,rest42⟩
 exact absurd hlt42 (by simp at hl42; omega)
 obtain ⟨o42,hB42,hL42⟩:=range_cons hL42
 rw [s_WeakenConstraint_b1] at hB42
 have hix42:=drop_idx hd42
 refine W_skip (W_seq (W_block (W_seq ?_)))
 obtain ⟨x54,hx54,hB42⟩:=bind_some hB42
 refine W_region (fA 0 fa_54_0 sf2 rfl (ldB 3 hst Tryz.isAgg52 rfl rfl rfl (mF sf7 rfl (L_ix (r:=rTerm) rfl Tryz.underlying52 Tryz.sizeOf83 rfl (RP.mono _ h0_0 l41) rfl hix42 (fun g56 o57 cs_g56 hrk_hat58 hat58=>?_)))))
 obtain rfl:=rTerm_iff.1 hrk_hat58
 refine fA (o57 + 1) fa_83_1 rfl rfl (L_ld rfl Tryz.isAgg3 rfl (At.cell (AtH.at hat58 hst.sub) (j:=1) rfl) ?_)
 obtain ⟨H60b,l61,s62,z63,k64⟩:=hst.borrow
 refine L_call rfl Tryz.call57 (ops1 rfl) (s_l1Abs_c (n_:=x_42.lit) s62 hx54) ?_
 rintro _ w65 ⟨rfl,hst⟩
 have hst:=k64 hst c0
 refine mF sf1 rfl (L_eql rfl rfl rfl (nn ?_))
 obtain ⟨⟨g33_0_66,g33_1_68⟩,hA71,hB42⟩:=bind_some hB42
 obtain ⟨R71,hR71⟩:=exR fun f w_=>∃ H69 : FH,∃ v66_g33_0 : Value,Le H40 H69∧f 1 = I variable_∧f 2 = Pt g5∧f 4 = Pt g7∧f 6 = Pt g33∧f 7 = I i_36∧Star H69 w_ ([oF 83 rTerm v66_g33_0 g33_0_66,box g33 54 #[v66_g33_0,I g33_1_68],box g7 54 #[S0,I 0],box g5 54 #[v0_0,I c.bound]])
 refine W_join R71 ?_ ?_
 refine W_cond (b:=(x54 == variable_)) rfl (fun hc72=>?_) (fun hc72=>?_)
 have hA71:=(ite_t hc72).symm.trans hA71
 refine W_drawS 8 [isV (Pq g33 1),isV (I g33_1_39),isV (Pt g5),isV (v0_0),isV (I i_36),isEl rTerm x_42 0,isEl rTerm x_42 0,isV (I x_42.coef)] [oF 83 rTerm v37_g33_0 g33_0_37,box g33 54 #[v37_g33_0,I g33_1_39],box g7 54 #[S0,I 0],box g5 54 #[v0_0,I c.bound]] [] ([]) [([],[]),([],[]),([],[]),([],[]),([],[]),([],[]),([],[]),([],[])] (S:=[]) Tryz_mix (by kernel_rfl) rfl (by kernel_rfl) (amF_cons (mono_V _) (amF_cons (mono_V _) (amF_cons (mono_V _) (amF_cons (mono_V _) (amF_cons (mono_V _) (amF_cons (mono_el _ _ _) (amF_cons (mono_el _ _ _) (amF_cons (mono_V _) amF_nil)))))))) hst ?_ (fun f w_ H78 hS78 hE78 hT78 hst=>?_)
 refine opsS_cons (fun f w_ _ _ s _ _ hst=>fA 1 fa_54_1 ((s 6 rfl).trans sf6) rfl (nO rfl rfl hst)) (opsS_cons (fun f w_ _ _ _ _ p hst=>ldB 1 hst Tryz.isAgg3 (p 0 39 rfl rfl) rfl rfl (nO rfl rfl hst)) (opsS_cons (fun f w_ _ _ s _ _ hst=>fA 0 fa_54_0 ((s 2 rfl).trans sf2) rfl (nO rfl rfl hst)) (opsS_cons (fun f w_ _ _ _ _ p hst=>ldB 3 hst Tryz.isAgg52 (p 2 41 rfl rfl) rfl rfl (nO rfl rfl hst)) (opsS_cons (fun f w_ _ _ s _ _ hst=>mF ((s 7 rfl).trans sf7) rfl (nO rfl rfl hst)) (opsS_cons ?_ ?_)))))
 intro f w_ H78 X78 hS78 hE78 hP78 hst
 refine L_ix (r:=rTerm) rfl Tryz.underlying52 Tryz.sizeOf83 (hP78 3 42 rfl rfl) (RP.mono _ h0_0 (Le.trans l41 hE78)) (hP78 4 43 rfl rfl) hix42 (fun g83 o84 cs_g83 hrk_hat85 hat85=>?_)
 obtain rfl:=rTerm_iff.1 hrk_hat85
 exact L_nil ⟨rfl,_,_,rfl,Le.refl _,fun _ _=>⟨_,_,_,rfl,hrk_hat85,hat85⟩,hst⟩
 refine opsS_cons ?_ ?_
 intro f w_ H78 X78 hS78 hE78 hP78 hst
 obtain ⟨g87,o87,cs87,hv87,hrk_hat87,hat87⟩:=(hP78 5 44 rfl rfl)
 obtain rfl:=rTerm_iff.1 hrk_hat87
 refine fA o87 fa_83_0 hv87 rfl (L_nil ⟨rfl,_,_,rfl,Le.refl _,fun _ _=>⟨_,_,_,rfl,hrk_hat87,hat87⟩,hst⟩)
 refine opsS_cons ?_ ?_
 intro f w_ H78 X78 hS78 hE78 hP78 hst
 obtain ⟨g89,o89,cs89,hv89,hrk_hat89,hat89⟩:=(hP78 6 45 rfl rfl)
 obtain rfl:=rTerm_iff.1 hrk_hat89
 refine L_ld rfl Tryz.isAgg3 hv89 (At.cell (AtH.at hat89 hst.sub) (j:=0) rfl) (L_nil ⟨rfl,_,_,rfl,Le.refl _,fun _ _=>rfl,hst⟩)
 exact opsS_nil
 refine L_sub rfl (hT78 1 40 rfl rfl) (hT78 7 46 rfl rfl) (fA 1 fa_54_1 ((hS78 6 rfl).trans sf6) rfl (L_stB (v:=I (i64 (g33_1_39 - x_42.coef))) (cs2:=#[v37_g33_0,I (i64 (g33_1_39 - x_42.coef))]) 1 rfl Tryz.sizeOf3 rfl rfl rfl hst rfl rfl rfl (fun w91 hst=>nn ?_)))
 obtain ⟨rfl,rfl⟩:=so2 hA71
 have hst:=hst.gets [3,3,2,3] rfl
 exact rj hR71 ⟨H78,v37_g33_0,hE78,((hS78 1 rfl).trans sf1),((hS78 2 rfl).trans sf2),((hS78 4 rfl).trans sf4),((hS78 6 rfl).trans sf6),((hS78 7 rfl).trans sf7),hst⟩
 have hA71:=(ite_f hc72).symm.trans hA71
 obtain ⟨x99,hx99,hA71⟩:=bind_some hA71
 refine W_drawS 8 [isV (Pt g33),isV (v37_g33_0),isV (Pt g5),isV (v0_0),isV (I i_36),isEl rTerm x_42 0,isV (.agg #[I x_42.coef,I x_42.lit]),anyF] [oF 83 rTerm v37_g33_0 g33_0_37,box g33 54 #[v37_g33_0,I g33_1_39],box g7 54 #[S0,I 0],box g5 54 #[v0_0,I c.bound]] [.made 7 56 (fun v_=>oF 83 rTerm v_ ([x_42])) none] ([]) [([],[]),([],[]),([],[]),([],[]),([],[]),([],[]),([],[]),([],[0])] (S:=[(some 7,[56],none)]) Tryz_mix (by kernel_rfl) rfl (by kernel_rfl) (amF_cons (mono_V _) (amF_cons (mono_V _) (amF_cons (mono_V _) (amF_cons (mono_V _) (amF_cons (mono_V _) (amF_cons (mono_el _ _ _) (amF_cons (mono_V _) (amF_cons (mono_any) amF_nil)))))))) hst ?_ (fun f w_ H104 hS104 hE104 hT104 hst=>?_)
 refine opsS_cons (fun f w_ _ _ s _ _ hst=>fA 0 fa_54_0 ((s 6 rfl).trans sf6) rfl (nO rfl rfl hst)) (opsS_cons (fun f w_ _ _ _ _ p hst=>ldB 1 hst Tryz.isAgg52 (p 0 49 rfl rfl) rfl rfl (nO rfl rfl hst)) (opsS_cons (fun f w_ _ _ s _ _ hst=>fA 0 fa_54_0 ((s 2 rfl).trans sf2) rfl (nO rfl rfl hst)) (opsS_cons (fun f w_ _ _ _ _ p hst=>ldB 3 hst Tryz.isAgg52 (p 2 51 rfl rfl) rfl rfl (nO rfl rfl hst)) (opsS_cons (fun f w_ _ _ s _ _ hst=>mF ((s 7 rfl).trans sf7) rfl (nO rfl rfl hst)) (opsS_cons ?_ ?_)))))
 intro f w_ H104 X104 hS104 hE104 hP104 hst
 refine L_ix (r:=rTerm) rfl Tryz.underlying52 Tryz.sizeOf83 (hP104 3 52 rfl rfl) (RP.mono _ h0_0 (Le.trans l41 hE104)) (hP104 4 53 rfl rfl) hix42 (fun g112 o113 cs_g112 hrk_hat114 hat114=>?_)
 obtain rfl:=rTerm_iff.1 hrk_hat114
 exact L_nil ⟨rfl,_,_,rfl,Le.refl _,fun _ _=>⟨_,_,_,rfl,hrk_hat114,hat114⟩,hst⟩
 refine opsS_cons ?_ ?_
 intro f w_ H104 X104 hS104 hE104 hP104 hst
 obtain ⟨g116,o116,cs116,hv116,hrk_hat116,hat116⟩:=(hP104 5 54 rfl rfl)
 obtain rfl:=rTerm_iff.1 hrk_hat116
 refine L_lda (cs:=[I x_42.coef,I x_42.lit]) rfl Tryz.isAgg83 Tryz.sizeOf83 hv116 (At.sub (AtH.at hat116 hst.sub) 0 2) rfl (L_nil ⟨rfl,_,_,rfl,Le.refl _,fun _ _=>rfl,hst⟩)
 refine opsS_cons ?_ ?_
 intro f w_ H104 X104 hS104 hE104 hP104 hst
 refine L_bs rfl (parts1 (hP104 6 55 rfl rfl)) (bs_52_1_2 (I x_42.coef) (I x_42.lit) ) hst (fun g118 w119 hst=>?_)
 have hst:=Star.addF (r:=rTerm) (cs:=[I x_42.coef,I x_42.lit]) (x:=x_42) hst (rTerm_iff.2 rfl)
 have hst:=Star.mkRow (R:=(OR.frz rTerm)) [([I x_42.coef,I x_42.lit],x_42)] [x_42] 1 hst rfl rfl rfl (by decide)
 have hst:=hst.gets [4,4,4,4] rfl
 exact L_nil ⟨rfl,_,_,rfl,Le.refl _,fun _ _=>trivial,hst⟩
 exact opsS_nil
 have hst : Star H104 w_ ([oF 83 rTerm v37_g33_0 g33_0_37,box g33 54 #[v37_g33_0,I g33_1_39],box g7 54 #[S0,I 0],box g5 54 #[v0_0,I c.bound],oF 83 rTerm (f 56) ([x_42])]):=hst
 have hst:=hst.gets [4,1] rfl
 refine L_appM (v:=v37_g33_0) (u:=(f 56)) rfl et_52 (hT104 1 50 rfl rfl) rfl hst hx99 (fun v122 w123 hst=>fA 0 fa_54_0 ((hS104 6 rfl).trans sf6) rfl (L_stB (v:=v122) (cs2:=#[v122,I g33_1_39]) 1 rfl Tryz.sizeOf52 rfl rfl (one_len (Star.len 0 hst rfl)) hst rfl rfl rfl (fun w125 hst=>nn ?_)))
 obtain ⟨rfl,rfl⟩:=so2 hA71
 have hst:=hst.gets [3,3,2,3] rfl
 exact rj hR71 ⟨H104,v122,hE104,((hS104 1 rfl).trans sf1),((hS104 2 rfl).trans sf2),((hS104 4 rfl).trans sf4),((hS104 6 rfl).trans sf6),((hS104 7 rfl).trans sf7),hst⟩
 intro f w_ hR
 obtain ⟨H69,v66_g33_0,l70,sf1,sf2,sf4,sf6,sf7,hst⟩:=rk hR71 hR
 refine W_region (mF sf7 rfl (L_add rfl rfl rfl (aI rfl (nn ?_))))
 obtain rfl:=so hB42
 show ∃ m,m < _∧I42 m _ _
 refine ⟨rest42.length,by simp,?_⟩
 exact ij hI42 ⟨i_36 + 1,rest42,g33_0_66,g33_1_68,H69,v66_g33_0,rfl,drop_next hd42,by simp at hl42; omega,hL42,(Le.trans l41 l70),sf1,sf2,sf4,sf6,(Eq.trans rfl (congrArg (Value.int .i64) (i64_succ (n:=c.terms.length) (by simp at hl42; omega) hlen42))),hst⟩
 rcases suf42 with _ | ⟨_,_⟩
 obtain rfl:=range_nil hL42
 refine W_exit (rj hR42 ⟨g33_0_37,g33_1_39,H40,v37_g33_0,rfl,l41,sf4,sf6,(Star.keepN 3 hst)⟩)
 exact absurd (of_decide_eq_false hc44) (by simp at hl42; omega)
 intro f w_ hR
 obtain ⟨g33_0_37,g33_1_39,H40,v37_g33_0,rfl,l41,sf4,sf6,hst⟩:=rk hR42 hR
 refine W_seq (sq (fA 1 fa_54_1 sf6 rfl (ldB 1 hst Tryz.isAgg3 rfl rfl rfl (L_lss rfl rfl rfl (nn ?_)))))
 obtain ⟨g33_1_126,hA127,hF⟩:=bind_some hF
 obtain ⟨R127,hR127⟩:=exR fun f w_=>f 4 = Pt g7∧f 6 = Pt g33∧Star H40 w_ ([oF 83 rTerm v37_g33_0 g33_0_37,box g33 54 #[v37_g33_0,I g33_1_126],box g7 54 #[S0,I 0]])
 refine W_join R127 ?_ ?_
 refine W_cond (b:=decide (g33_1_39 < 0)) rfl (fun hc128=>?_) (fun hc128=>?_)
 have hA127:=(ite_t hc128).symm.trans hA127
 refine W_region (fA 1 fa_54_1 sf6 rfl (L_stB (v:=I 0) (cs2:=#[v37_g33_0,I 0]) 1 rfl Tryz.sizeOf3 rfl rfl rfl hst rfl rfl rfl (fun w130 hst=>nn ?_)))
 obtain rfl:=so hA127
 have hst:=hst.gets [2,1,2] rfl
 exact rj hR127 ⟨sf4,sf6,hst⟩
 have hA127:=(ite_f hc128).symm.trans hA127
 refine W_skip ?_
 obtain rfl:=so hA127
 exact rj hR127 ⟨sf4,sf6,hst⟩
 intro f w_ hR
 obtain ⟨sf4,sf6,hst⟩:=rk hR127 hR
 refine sq (L_lda (cs:=[v37_g33_0,I g33_1_126]) rfl Tryz.isAgg54 Tryz.sizeOf54 sf6 (At.sub0 (Blk.at (Star.blkAt 1 hst rfl)) 0 2) rfl (L_staB (vs:=#[v37_g33_0,I g33_1_126]) (cs2:=#[v37_g33_0,I g33_1_126]) 2 rfl Tryz.sizeOf54 sf4 rfl rfl (ones_cons (one_len (Star.len 0 hst rfl)) (ones_cons rfl ones_nil)) hst rfl (by show 0 + 2≤2; decide) rfl (fun w132 hst=>aB rfl (nn (W_ret (retG2 (v1:=.agg #[v37_g33_0,I g33_1_126]) (v2:=Bo true) Tryz.results50 (resV_agg Tryz.isAgg54 Tryz.sizeOf54 sf4 (Star.blkAt 0 hst rfl) rfl) rfl ?_))))))
 obtain rfl:=so hF
 have hst:=hst.get 1 rfl
 exact ⟨v37_g33_0,rfl,(Star.down (Star.keepN 1 hst) l41 (co closed_term c0))⟩
theorem s_l4Derive_c {fu : Nat} {d : Db} {s : Step} {v0_0 : Value} {v0_1 : Value} {v1_3 : Value} {H : FH} {w : World} (hst : Star H w []) (h0_0 : (rS 54 (rCon 83)).rel H [v0_0] d.list) (h0_1 : (rS 4 RP.bool).rel H [v0_1] d.gone) (h1_3 : (rS 83 rTerm).rel H [v1_3] s.given.terms) {r : Con × Bool} (hF : s_l4Derive fu d s = some r) :
 C Tryz.prog 35 #[.agg #[v0_0,v0_1],.agg #[I s.kind,I s.a,I s.b,v1_3,I s.given.bound]] w fun v w'=>∃ (u1 : Value),v = .tuple #[.agg #[u1,I r.1.bound],Bo r.2]∧Star H w' [oF 83 rTerm u1 r.1.terms]:=by
 unfold s_l4Derive at hF
 refine C_enter Tryz.func35 rfl Tryz.ntmps35 rfl (sq (L_box (v:=.agg #[v0_0,v0_1]) (cs:=#[v0_0,v0_1]) rfl rfl rfl hst (fun g7 w8 hst=>L_box (v:=.agg #[I s.kind,I s.a,I s.b,v1_3,I s.given.bound]) (cs:=#[I s.kind,I s.a,I s.b,v1_3,I s.given.bound]) rfl rfl rfl hst (fun g9 w10 hst=>L_al (cs:=#[S0,I 0]) rfl Tryz.zeroValue54 rfl hst (fun g11 w12 hst=>aB rfl (nq (sq (fA 0 fa_56_0 rfl rfl (ldB 1 hst Tryz.isAgg3 rfl rfl rfl (L_eql rfl rfl rfl (nn (W_cond (b:=(s.kind == 6)) rfl (fun hc13=>?_) (fun hc13=>?_)))))))))))))
 have hF:=(ite_t hc13).symm.trans hF
 refine W_seq ?_
 obtain ⟨x19,hx19,hF⟩:=bind_some hF
 refine W_region (fA 1 fa_56_1 rfl rfl (ldB 1 hst Tryz.isAgg3 rfl rfl rfl ?_))
 obtain ⟨H23b,l24,s25,z26,k27⟩:=hst.borrow
 refine L_call rfl Tryz.call42 (ops1 rfl) (s_LiteralAxiom_c (lit:=s.a) s25 hx19) ?_
 rintro _ w28 ⟨r28_0,rfl,hst⟩
 have hst:=k27 hst (co closed_term c0)
 refine L_ex (v:=.agg #[r28_0,I x19.1.bound]) rfl rfl rfl (L_ex (v:=Bo x19.2) rfl rfl rfl (L_staB (vs:=#[r28_0,I x19.1.bound]) (cs2:=#[r28_0,I x19.1.bound]) 1 rfl Tryz.sizeOf54 rfl rfl rfl (ones_cons (one_len (Star.len 0 hst rfl)) (ones_cons rfl ones_nil)) hst rfl (by show 0 + 2≤2; decide) rfl (fun w30 hst=>aB rfl (nn (W_ret (retG2 (v1:=.agg #[r28_0,I x19.1.bound]) (v2:=Bo x19.2) Tryz.results35 (resV_agg Tryz.isAgg54 Tryz.sizeOf54 rfl (Star.blkAt 0 hst rfl) rfl) rfl ?_))))))
 obtain rfl:=so hF
 have hst:=hst.get 1 rfl
 exact ⟨r28_0,rfl,(Star.keepN 1 hst)⟩
 have hF:=(ite_f hc13).symm.trans hF
 refine W_skip (W_seq (sq (fA 0 fa_56_0 rfl rfl (ldB 1 hst Tryz.isAgg3 rfl rfl rfl (L_eql rfl rfl rfl (nn (W_cond (b:=(s.kind == 7)) rfl (fun hc31=>?_) (fun hc31=>?_))))))))
 have hF:=(ite_t hc31).symm.trans hF
 refine W_seq ?_
 obtain ⟨x37,hx37,hF⟩:=bind_some hF
 obtain ⟨x45,hx45,hF⟩:=bind_some hF
 obtain ⟨b58,hb58,hF⟩:=bind_some hF
 obtain ⟨R65,hR65⟩:=exR fun f w_=>∃ H63 : FH,∃ v61_g11_0 : Value,Le H H63∧f 4 = Pt g11∧f 5 = Bo b58∧Star H63 w_ ([oF 83 rTerm v61_g11_0 x37.terms,box g11 54 #[v61_g11_0,I x37.bound]])
 refine W_join R65 ?_ ?_
 rcases Bool.eq_false_or_eq_true x45 with hc66 | hc66
 rw [ite_t hc66] at hb58
 obtain ⟨x47,hx47,hb58⟩:=bind_some hb58
 obtain ⟨x56,hx56,hb58⟩:=bind_some hb58
 have hst:=hst.gets [2,2] rfl
 refine W_drawS 14 [isV (Pq g9 3),isV (.agg #[v1_3,I s.given.bound]),exA fun u_0=>isV (.agg #[u_0,I x37.bound]),isV (Pq g9 3),isV (.agg #[v1_3,I s.given.bound]),isV (Bo x45),isV (Bo x45),isV (.agg #[v0_0,v0_1]),anyF,isV (Pq g9 3),isV (.agg #[v1_3,I s.given.bound]),isV (Bo x56),isV (Bo b58),anyF] [box g9 56 #[I s.kind,I s.a,I s.b,v1_3,I s.given.bound],box g7 47 #[v0_0,v0_1]] [.base (box g11 54 #[S0,I 0]) (some 13),.made 2 20 (fun v_=>oF 83 rTerm (aggC v_ 0) x37.terms) none,.made 8 26 (fun v_=>oF 54 (rCon 83) v_ x47) none,.madeN 13 [20] (fun vs_=>box g11 54 #[(aggC (vs_.getD 0 undef) 0),I x37.bound]) none] ([]) [([],[]),([],[]),([],[1]),([],[]),([],[]),([],[]),([],[]),([],[]),([],[2]),([],[]),([],[]),([2],[2]),([],[]),([0,1],[1,3])] (S:=[(none,[],some 13),(some 2,[20],none),(some 8,[26],none),(some 13,[20],none)]) Tryz_mix (by kernel_rfl) rfl (by kernel_rfl) (amF_cons (mono_V _) (amF_cons (mono_V _) (amF_cons (mono_exA fun _=>mono_V _) (amF_cons (mono_V _) (amF_cons (mono_V _) (amF_cons (mono_V _) (amF_cons (mono_V _) (amF_cons (mono_V _) (amF_cons (mono_any) (amF_cons (mono_V _) (amF_cons (mono_V _) (amF_cons (mono_V _) (amF_cons (mono_V _) (amF_cons (mono_any) amF_nil)))))))))))))) hst ?_ (fun f w_ H60 hS60 hE60 hT60 hst=>?_)
 refine opsS_cons (fun f w_ _ _ s _ _ hst=>fA 3 fa_56_3 ((s 3 rfl).trans rfl) rfl (nO rfl rfl hst)) (opsS_cons (fun f w_ _ _ _ _ p hst=>L_lda (cs:=[v1_3,I s.given.bound]) rfl Tryz.isAgg54 Tryz.sizeOf54 (p 0 18 rfl rfl) (At.sub0 (Blk.at (Star.blkAt 0 hst rfl)) 3 2) rfl (nO rfl rfl hst)) (opsS_cons ?_ ?_))
 intro f w_ H60 X60 hS60 hE60 hP60 hst
 obtain ⟨H90b,l91,s92,z93,k94⟩:=hst.borrow
 refine L_call rfl Tryz.call21 (ops1 (hP60 1 19 rfl rfl)) (s_l1Copy_c (c:=s.given) s92 (RP.mono _ h1_3 (Le.trans hE60 l91)) hx37) ?_
 rintro _ w95 ⟨r95_0,rfl,hst⟩
 have hst:=k94 hst (co closed_term c0)
 have hst:=hst.gets [2,2] rfl
 exact L_nil ⟨rfl,_,_,rfl,Le.refl _,fun _ _=>⟨_,rfl⟩,hst⟩
 refine opsS_cons (fun f w_ _ _ s _ _ hst=>fA 3 fa_56_3 ((s 3 rfl).trans rfl) rfl (nO rfl rfl hst)) (opsS_cons (fun f w_ _ _ _ _ p hst=>L_lda (cs:=[v1_3,I s.given.bound]) rfl Tryz.isAgg54 Tryz.sizeOf54 (p 3 21 rfl rfl) (At.sub0 (Blk.at (Star.blkAt 0 hst rfl)) 3 2) rfl (nO rfl rfl hst)) (opsS_cons ?_ ?_))
 intro f w_ H60 X60 hS60 hE60 hP60 hst
 obtain ⟨H97b,l98,s99,z100,k101⟩:=hst.borrow
 refine L_call rfl Tryz.call43 (ops1 (hP60 4 22 rfl rfl)) (s_ConstraintValid_c (c:=s.given) s99 (RP.mono _ h1_3 (Le.trans hE60 l98)) hx45) ?_
 rintro _ w102 ⟨rfl,hst⟩
 have hst:=k101 hst c0
 exact L_nil ⟨rfl,_,_,rfl,Le.refl _,fun _ _=>rfl,hst⟩
 refine opsS_cons (fun f w_ _ _ _ _ p hst=>mF (p 5 23 rfl rfl) rfl (nO rfl rfl hst)) (opsS_cons (fun f w_ _ _ s _ p hst=>L_lda (cs:=[v0_0,v0_1]) (g_yes rfl (Eq.trans (p 6 24 rfl rfl) (congrArg Value.bool hc66)) rfl) Tryz.isAgg47 Tryz.sizeOf47 ((s 2 rfl).trans rfl) (At.sub0 (Blk.at (Star.blkAt 1 hst rfl)) 0 2) rfl (nO rfl rfl hst)) (opsS_cons ?_ ?_))
 intro f w_ H60 X60 hS60 hE60 hP60 hst
 refine L_call (g_yes rfl (Eq.trans (hP60 6 24 rfl rfl) (congrArg Value.bool hc66)) rfl) Tryz.call45 (ops1 (hP60 7 25 rfl rfl)) (s_l4Kept_c (d:=d) hst (RP.mono _ h0_0 hE60) (RP.mono _ h0_1 hE60) hx47) ?_
 rintro r103_0 w103 ⟨H103,l103,_,rfl,hst⟩
 have hst:=hst.gets [2,2] rfl
 exact L_nil ⟨rfl,_,_,rfl,l103,fun _ _=>trivial,hst⟩
 refine opsS_cons (fun f w_ _ _ s _ p hst=>L_fa (o':=3) (g_yes rfl (Eq.trans (p 6 24 rfl rfl) (congrArg Value.bool hc66)) rfl) fa_56_3 ((s 3 rfl).trans rfl) rfl (nO rfl rfl hst)) (opsS_cons (fun f w_ _ _ _ _ p hst=>L_lda (cs:=[v1_3,I s.given.bound]) (g_yes rfl (Eq.trans (p 6 24 rfl rfl) (congrArg Value.bool hc66)) rfl) Tryz.isAgg54 Tryz.sizeOf54 (p 9 27 rfl rfl) (At.sub0 (Blk.at (Star.blkAt 0 hst rfl)) 3 2) rfl (nO rfl rfl hst)) (opsS_cons ?_ ?_))
 intro f w_ H60 X60 hS60 hE60 hP60 hst
 have hst : Star H60 w_ (box g9 56 #[I s.kind,I s.a,I s.b,v1_3,I s.given.bound] :: box g7 47 #[v0_0,v0_1] :: oF 54 (rCon 83) (f 26) x47 :: X60):=hst
 obtain ⟨H106b,l107,s108,z109,k110⟩:=hst.borrow
 have hb111 : (rS 54 (rCon 83)).rel H106b [(f 26)] x47:=fz_own 2 z109 rfl
 refine L_call (g_yes rfl (Eq.trans (hP60 6 24 rfl rfl) (congrArg Value.bool hc66)) rfl) Tryz.call44 (ops2 rfl (hP60 10 28 rfl rfl)) (s_l3Rup_c (list:=x47) (c:=s.given) s108 hb111 (RP.mono _ h1_3 (Le.trans hE60 l107)) hx56) ?_
 rintro _ w112 ⟨rfl,hst⟩
 have hst:=k110 hst c0
 exact L_nil ⟨rfl,_,_,rfl,Le.refl _,fun _ _=>rfl,hst⟩
 refine opsS_cons (fun f w_ _ _ _ _ p hst=>pkT (v:=Bo b58) (p 6 24 rfl rfl) hc66 rfl (Eq.trans (p 11 29 rfl rfl) (congrArg Value.bool (so hb58))) (nO rfl rfl hst)) (opsS_cons ?_ ?_)
 intro f w_ H60 X60 hS60 hE60 hP60 hst
 have hst : Star H60 w_ (box g9 56 #[I s.kind,I s.a,I s.b,v1_3,I s.given.bound] :: box g7 47 #[v0_0,v0_1] :: box g11 54 #[S0,I 0] :: own (OR.ownS 83 (OR.frz rTerm)) [(aggC (f 20) 0)] x37.terms :: X60):=hst
 obtain ⟨u113_0,hv113⟩:=(hP60 2 20 rfl rfl)
 have hren : Star H60 w_ (box g9 56 #[I s.kind,I s.a,I s.b,v1_3,I s.given.bound] :: box g7 47 #[v0_0,v0_1] :: box g11 54 #[S0,I 0] :: own (OR.ownS 83 (OR.frz rTerm)) [(aggC (f 20) 0)] x37.terms :: X60):=hst
 rw [hv113] at hren
 have hst : Star H60 w_ (box g9 56 #[I s.kind,I s.a,I s.b,v1_3,I s.given.bound] :: box g7 47 #[v0_0,v0_1] :: box g11 54 #[S0,I 0] :: oF 83 rTerm u113_0 x37.terms :: X60):=hren
 refine L_staB (vs:=#[u113_0,I x37.bound]) (cs2:=#[u113_0,I x37.bound]) 2 rfl Tryz.sizeOf54 ((hS60 4 rfl).trans rfl) hv113 rfl (ones_cons (one_len (Star.len 3 hst rfl)) (ones_cons rfl ones_nil)) hst rfl (by show 0 + 2≤2; decide) rfl (fun w114 hst=>?_)
 have hst:=hst.gets [3,3,3] rfl
 have hst : Star H60 w114 (box g9 56 #[I s.kind,I s.a,I s.b,v1_3,I s.given.bound] :: box g7 47 #[v0_0,v0_1] :: own (OR.ownS 83 (OR.frz rTerm)) [(aggC (f 20) 0)] x37.terms :: box g11 54 #[(aggC (f 20) 0),I x37.bound] :: X60):=by rw [hv113]; exact hst
 exact L_nil ⟨rfl,Bo false,_,rfl,Le.refl _,(fun _ h=>nomatch h),hst⟩
 exact opsS_nil
 have hst : Star H60 w_ ([box g9 56 #[I s.kind,I s.a,I s.b,v1_3,I s.given.bound],box g7 47 #[v0_0,v0_1],own (OR.ownS 83 (OR.frz rTerm)) [(aggC (f 20) 0)] x37.terms,oF 54 (rCon 83) (f 26) x47,box g11 54 #[(aggC (f 20) 0),I x37.bound]]):=hst
 refine aF (hT60 12 30 rfl rfl) rfl (nn ?_)
 have hst:=hst.gets [4,3] rfl
 exact rj hR65 ⟨H60,(aggC (f 20) 0),hE60,((hS60 4 rfl).trans rfl),rfl,(Star.keepN 2 hst)⟩
 rw [ite_f hc66] at hb58
 have hst:=hst.gets [2,2] rfl
 refine W_drawS 14 [isV (Pq g9 3),isV (.agg #[v1_3,I s.given.bound]),exA fun u_0=>isV (.agg #[u_0,I x37.bound]),isV (Pq g9 3),isV (.agg #[v1_3,I s.given.bound]),isV (Bo x45),isV (Bo x45),isV (undef),isV (undef),isV (undef),isV (undef),isV (undef),isV (Bo b58),anyF] [box g9 56 #[I s.kind,I s.a,I s.b,v1_3,I s.given.bound],box g7 47 #[v0_0,v0_1]] [.base (box g11 54 #[S0,I 0]) (some 13),.made 2 20 (fun v_=>oF 83 rTerm (aggC v_ 0) x37.terms) none,.madeN 13 [20] (fun vs_=>box g11 54 #[(aggC (vs_.getD 0 undef) 0),I x37.bound]) none] ([]) [([],[]),([],[]),([],[1]),([],[]),([],[]),([],[]),([],[]),([],[]),([],[]),([],[]),([],[]),([],[]),([],[]),([0,1],[1,2])] (S:=[(none,[],some 13),(some 2,[20],none),(some 13,[20],none)]) Tryz_mix (by kernel_rfl) rfl (by kernel_rfl) (amF_cons (mono_V _) (amF_cons (mono_V _) (amF_cons (mono_exA fun _=>mono_V _) (amF_cons (mono_V _) (amF_cons (mono_V _) (amF_cons (mono_V _) (amF_cons (mono_V _) (amF_cons (mono_V _) (amF_cons (mono_V _) (amF_cons (mono_V _) (amF_cons (mono_V _) (amF_cons (mono_V _) (amF_cons (mono_V _) (amF_cons (mono_any) amF_nil)))))))))))))) hst ?_ (fun f w_ H60 hS60 hE60 hT60 hst=>?_)
 refine opsS_cons (fun f w_ _ _ s _ _ hst=>fA 3 fa_56_3 ((s 3 rfl).trans rfl) rfl (nO rfl rfl hst)) (opsS_cons (fun f w_ _ _ _ _ p hst=>L_lda (cs:=[v1_3,I s.given.bound]) rfl Tryz.isAgg54 Tryz.sizeOf54 (p 0 18 rfl rfl) (At.sub0 (Blk.at (Star.blkAt 0 hst rfl)) 3 2) rfl (nO rfl rfl hst)) (opsS_cons ?_ ?_))
 intro f w_ H60 X60 hS60 hE60 hP60 hst
 obtain ⟨H129b,l130,s131,z132,k133⟩:=hst.borrow
 refine L_call rfl Tryz.call21 (ops1 (hP60 1 19 rfl rfl)) (s_l1Copy_c (c:=s.given) s131 (RP.mono _ h1_3 (Le.trans hE60 l130)) hx37) ?_
 rintro _ w134 ⟨r134_0,rfl,hst⟩
 have hst:=k133 hst (co closed_term c0)
 have hst:=hst.gets [2,2] rfl
 exact L_nil ⟨rfl,_,_,rfl,Le.refl _,fun _ _=>⟨_,rfl⟩,hst⟩
 refine opsS_cons (fun f w_ _ _ s _ _ hst=>fA 3 fa_56_3 ((s 3 rfl).trans rfl) rfl (nO rfl rfl hst)) (opsS_cons (fun f w_ _ _ _ _ p hst=>L_lda (cs:=[v1_3,I s.given.bound]) rfl Tryz.isAgg54 Tryz.sizeOf54 (p 3 21 rfl rfl) (At.sub0 (Blk.at (Star.blkAt 0 hst rfl)) 3 2) rfl (nO rfl rfl hst)) (opsS_cons ?_ ?_))
 intro f w_ H60 X60 hS60 hE60 hP60 hst
 obtain ⟨H136b,l137,s138,z139,k140⟩:=hst.borrow
 refine L_call rfl Tryz.call43 (ops1 (hP60 4 22 rfl rfl)) (s_ConstraintValid_c (c:=s.given) s138 (RP.mono _ h1_3 (Le.trans hE60 l137)) hx45) ?_
 rintro _ w141 ⟨rfl,hst⟩
 have hst:=k140 hst c0
 exact L_nil ⟨rfl,_,_,rfl,Le.refl _,fun _ _=>rfl,hst⟩
 refine opsS_cons (fun f w_ _ _ _ _ p hst=>mF (p 5 23 rfl rfl) rfl (nO rfl rfl hst)) (oP (fun _ _ p=>gN (p 6 24 rfl rfl) hc66 rfl) (fun _=>rfl) (oP (fun _ _ p=>gN (p 6 24 rfl rfl) hc66 rfl) (fun _=>rfl) (oP (fun _ _ p=>gN (p 6 24 rfl rfl) hc66 rfl) (fun _=>rfl) (oP (fun _ _ p=>gN (p 6 24 rfl rfl) hc66 rfl) (fun _=>rfl) (oP (fun _ _ p=>gN (p 6 24 rfl rfl) hc66 rfl) (fun _=>rfl) (opsS_cons (fun f w_ _ _ _ _ p hst=>pkT (v:=Bo b58) (p 6 24 rfl rfl) hc66 rfl (congrArg Value.bool (so hb58)) (nO rfl rfl hst)) (opsS_cons ?_ ?_)))))))
 intro f w_ H60 X60 hS60 hE60 hP60 hst
 have hst : Star H60 w_ (box g9 56 #[I s.kind,I s.a,I s.b,v1_3,I s.given.bound] :: box g7 47 #[v0_0,v0_1] :: box g11 54 #[S0,I 0] :: own (OR.ownS 83 (OR.frz rTerm)) [(aggC (f 20) 0)] x37.terms :: X60):=hst
 obtain ⟨u142_0,hv142⟩:=(hP60 2 20 rfl rfl)
 have hren : Star H60 w_ (box g9 56 #[I s.kind,I s.a,I s.b,v1_3,I s.given.bound] :: box g7 47 #[v0_0,v0_1] :: box g11 54 #[S0,I 0] :: own (OR.ownS 83 (OR.frz rTerm)) [(aggC (f 20) 0)] x37.terms :: X60):=hst
 rw [hv142] at hren
 have hst : Star H60 w_ (box g9 56 #[I s.kind,I s.a,I s.b,v1_3,I s.given.bound] :: box g7 47 #[v0_0,v0_1] :: box g11 54 #[S0,I 0] :: oF 83 rTerm u142_0 x37.terms :: X60):=hren
 refine L_staB (vs:=#[u142_0,I x37.bound]) (cs2:=#[u142_0,I x37.bound]) 2 rfl Tryz.sizeOf54 ((hS60 4 rfl).trans rfl) hv142 rfl (ones_cons (one_len (Star.len 3 hst rfl)) (ones_cons rfl ones_nil)) hst rfl (by show 0 + 2≤2; decide) rfl (fun w143 hst=>?_)
 have hst:=hst.gets [3,3,3] rfl
 have hst : Star H60 w143 (box g9 56 #[I s.kind,I s.a,I s.b,v1_3,I s.given.bound] :: box g7 47 #[v0_0,v0_1] :: own (OR.ownS 83 (OR.frz rTerm)) [(aggC (f 20) 0)] x37.terms :: box g11 54 #[(aggC (f 20) 0),I x37.bound] :: X60):=by rw [hv142]; exact hst
 exact L_nil ⟨rfl,Bo false,_,rfl,Le.refl _,(fun _ h=>nomatch h),hst⟩
 exact opsS_nil
 have hst : Star H60 w_ ([box g9 56 #[I s.kind,I s.a,I s.b,v1_3,I s.given.bound],box g7 47 #[v0_0,v0_1],own (OR.ownS 83 (OR.frz rTerm)) [(aggC (f 20) 0)] x37.terms,box g11 54 #[(aggC (f 20) 0),I x37.bound]]):=hst
 refine aF (hT60 12 30 rfl rfl) rfl (nn ?_)
 have hst:=hst.gets [3,3] rfl
 exact rj hR65 ⟨H60,(aggC (f 20) 0),hE60,((hS60 4 rfl).trans rfl),rfl,(Star.keepN 2 hst)⟩
 intro f w_ hR
 obtain ⟨H63,v61_g11_0,l64,sf4,sf5,hst⟩:=rk hR65 hR
 refine W_ret (retG2 (v1:=.agg #[v61_g11_0,I x37.bound]) (v2:=Bo b58) Tryz.results35 (resV_agg Tryz.isAgg54 Tryz.sizeOf54 sf4 (Star.blkAt 1 hst rfl) rfl) sf5 ?_)
 obtain rfl:=so hF
 exact ⟨v61_g11_0,rfl,(Star.down (Star.keepN 1 hst) l64 (co closed_term c0))⟩
 have hF:=(ite_f hc31).symm.trans hF
 refine W_skip (W_seq (W_seq ?_))
 obtain ⟨x149,hx149,hF⟩:=bind_some hF
 refine W_region (L_lda (cs:=[v0_0,v0_1]) rfl Tryz.isAgg47 Tryz.sizeOf47 rfl (At.sub0 (Blk.at (Star.blkAt 2 hst rfl)) 0 2) rfl (fA 1 fa_56_1 rfl rfl (ldB 1 hst Tryz.isAgg3 rfl rfl rfl ?_)))
 obtain ⟨H151b,l152,s153,z154,k155⟩:=hst.borrow
 refine L_call rfl Tryz.call34 (ops2 rfl rfl) (s_l4Live_c (d:=d) (k:=s.a) s153 (RP.mono _ h0_0 l152) (RP.mono _ h0_1 l152) hx149) ?_
 rintro _ w156 ⟨rfl,hst⟩
 have hst:=k155 hst c0
 refine L_not_ rfl rfl (nn (W_cond (b:=(!x149)) rfl (fun hc157=>?_) (fun hc157=>?_)))
 have hF:=(ite_t hc157).symm.trans hF
 refine sq (L_bld rfl (parts0 ) (bld_54_  ) (L_staB (vs:=#[S0,I 0]) (cs2:=#[S0,I 0]) 0 rfl Tryz.sizeOf54 rfl rfl rfl (ones_cons rfl (ones_cons rfl ones_nil)) hst rfl (by show 0 + 2≤2; decide) rfl (fun w159 hst=>aB rfl (nn (W_ret (retG2 (v1:=.agg #[S0,I 0]) (v2:=Bo false) Tryz.results35 (resV_agg Tryz.isAgg54 Tryz.sizeOf54 rfl (Star.blkAt 0 hst rfl) rfl) rfl ?_))))))
 obtain rfl:=so hF
 have hst:=Star.addNil (R:=(OR.frz rTerm)) (e:=83) hst
 exact ⟨S0,rfl,(Star.keepN 1 hst)⟩
 have hF:=(ite_f hc157).symm.trans hF
 refine W_skip (W_seq ?_)
 obtain ⟨x161,hx161,hF⟩:=bind_some hF
 refine W_region (fA 0 fa_47_0 rfl rfl (ldB 2 hst Tryz.isAgg29 rfl rfl rfl (fA 1 fa_56_1 rfl rfl (ldB 1 hst Tryz.isAgg3 rfl rfl rfl (L_ix (r:=(rCon 83)) rfl Tryz.underlying29 Tryz.sizeOf54 rfl h0_0 rfl hx161 (fun g169 o170 cs_g169 hrk_hat171 hat171=>?_))))))
 obtain ⟨u172_0,rfl,hu172_0⟩:=rCon_iff.1 hrk_hat171
 refine L_lda (cs:=[u172_0,I x161.bound]) rfl Tryz.isAgg54 Tryz.sizeOf54 rfl (At.sub (AtH.at hat171 hst.sub) 0 2) rfl (L_al (cs:=#[S0,I 0]) rfl Tryz.zeroValue54 rfl hst (fun g173 w174 hst=>L_staB (vs:=#[u172_0,I x161.bound]) (cs2:=#[u172_0,I x161.bound]) 0 rfl Tryz.sizeOf54 rfl rfl rfl (ones_cons (one_len (slice_len hu172_0)) (ones_cons rfl ones_nil)) hst rfl (by show 0 + 2≤2; decide) rfl (fun w175 hst=>nq (sq (fA 0 fa_56_0 rfl rfl (ldB 2 hst Tryz.isAgg3 rfl rfl rfl (nn (W_block (sq (L_eql rfl rfl rfl (aB rfl (nn (W_cond (b:=(s.kind == 1)) rfl (fun hc176=>?_) (fun hc176=>?_))))))))))))))
 have hF:=(ite_t hc176).symm.trans hF
 refine W_seq (W_seq ?_)
 obtain ⟨x182,hx182,hF⟩:=bind_some hF
 refine W_region (L_lda (cs:=[v0_0,v0_1]) rfl Tryz.isAgg47 Tryz.sizeOf47 rfl (At.sub0 (Blk.at (Star.blkAt 3 hst rfl)) 0 2) rfl (fA 2 fa_56_2 rfl rfl (ldB 2 hst Tryz.isAgg3 rfl rfl rfl ?_)))
 obtain ⟨H184b,l185,s186,z187,k188⟩:=hst.borrow
 refine L_call rfl Tryz.call34 (ops2 rfl rfl) (s_l4Live_c (d:=d) (k:=s.b) s186 (RP.mono _ h0_0 l185) (RP.mono _ h0_1 l185) hx182) ?_
 rintro _ w189 ⟨rfl,hst⟩
 have hst:=k188 hst c0
 refine L_not_ rfl rfl (nn (W_cond (b:=(!x182)) rfl (fun hc190=>?_) (fun hc190=>?_)))
 have hF:=(ite_t hc190).symm.trans hF
 refine sq (L_bld rfl (parts0 ) (bld_54_  ) (L_staB (vs:=#[S0,I 0]) (cs2:=#[S0,I 0]) 1 rfl Tryz.sizeOf54 rfl rfl rfl (ones_cons rfl (ones_cons rfl ones_nil)) hst rfl (by show 0 + 2≤2; decide) rfl (fun w192 hst=>aB rfl (nn (W_ret (retG2 (v1:=.agg #[S0,I 0]) (v2:=Bo false) Tryz.results35 (resV_agg Tryz.isAgg54 Tryz.sizeOf54 rfl (Star.blkAt 0 hst rfl) rfl) rfl ?_))))))
 obtain rfl:=so hF
 have hst:=Star.addNil (R:=(OR.frz rTerm)) (e:=83) hst
 exact ⟨S0,rfl,(Star.keepN 1 hst)⟩
 have hF:=(ite_f hc190).symm.trans hF
 refine W_skip (W_seq ?_)
 obtain ⟨x194,hx194,hF⟩:=bind_some hF
 obtain ⟨x204,hx204,hF⟩:=bind_some hF
 refine W_drawS 10 [isV (.agg #[u172_0,I x161.bound]),isV (Pt g7),isV (v0_0),isV (Pq g9 2),isV (I s.b),isEl (rCon 83) x194 0,exD (isData (rS 83 rTerm) x194.terms) fun u_0=>isV (.agg #[u_0,I x194.bound]),tup2 (exA fun u_0=>isV (.agg #[u_0,I x204.1.bound])) (isV (Bo x204.2)),exA fun u_0=>isV (.agg #[u_0,I x204.1.bound]),isV (Bo x204.2)] [box g173 54 #[u172_0,I x161.bound],box g11 54 #[S0,I 0],box g9 56 #[I s.kind,I s.a,I s.b,v1_3,I s.given.bound],box g7 47 #[v0_0,v0_1]] [.made 7 60 (fun v_=>own (OR.ownS 83 (OR.frz rTerm)) [(aggC (tupC v_ 0) 0)] x204.1.terms) (some 8),.made 8 61 (fun v_=>oF 83 rTerm (aggC v_ 0) x204.1.terms) none] ([]) [([],[]),([],[]),([],[]),([],[]),([],[]),([],[]),([],[]),([],[0]),([0],[1]),([],[])] (S:=[(some 7,[60],some 8),(some 8,[61],none)]) Tryz_mix (by kernel_rfl) rfl (by kernel_rfl) (amF_cons (mono_V _) (amF_cons (mono_V _) (amF_cons (mono_V _) (amF_cons (mono_V _) (amF_cons (mono_V _) (amF_cons (mono_el _ _ _) (amF_cons (mono_exD (mono_data _ _) fun _=>mono_V _) (amF_cons (mono_tup2 (mono_exA fun _=>mono_V _) (mono_V _)) (amF_cons (mono_exA fun _=>mono_V _) (amF_cons (mono_V _) amF_nil)))))))))) hst ?_ (fun f w_ H208 hS208 hE208 hT208 hst=>?_)
 refine opsS_cons (fun f w_ _ _ s _ _ hst=>L_lda (cs:=[u172_0,I x161.bound]) rfl Tryz.isAgg54 Tryz.sizeOf54 ((s 6 rfl).trans rfl) (At.sub0 (Blk.at (Star.blkAt 0 hst rfl)) 0 2) rfl (nO rfl rfl hst)) (opsS_cons (fun f w_ _ _ s _ _ hst=>fA 0 fa_47_0 ((s 2 rfl).trans rfl) rfl (nO rfl rfl hst)) (opsS_cons (fun f w_ _ _ _ _ p hst=>ldB 3 hst Tryz.isAgg29 (p 1 54 rfl rfl) rfl rfl (nO rfl rfl hst)) (opsS_cons (fun f w_ _ _ s _ _ hst=>fA 2 fa_56_2 ((s 3 rfl).trans rfl) rfl (nO rfl rfl hst)) (opsS_cons (fun f w_ _ _ _ _ p hst=>ldB 2 hst Tryz.isAgg3 (p 3 56 rfl rfl) rfl rfl (nO rfl rfl hst)) (opsS_cons ?_ ?_)))))
 intro f w_ H208 X208 hS208 hE208 hP208 hst
 refine L_ix (r:=(rCon 83)) rfl Tryz.underlying29 Tryz.sizeOf54 (hP208 2 55 rfl rfl) (RP.mono _ h0_0 hE208) (hP208 4 57 rfl rfl) hx194 (fun g220 o221 cs_g220 hrk_hat222 hat222=>?_)
 obtain ⟨u223_0,rfl,hu223_0⟩:=rCon_iff.1 hrk_hat222
 exact L_nil ⟨rfl,_,_,rfl,Le.refl _,fun _ _=>⟨_,_,_,rfl,hrk_hat222,hat222⟩,hst⟩
 refine opsS_cons ?_ ?_
 intro f w_ H208 X208 hS208 hE208 hP208 hst
 obtain ⟨g224,o224,cs224,hv224,hrk_hat224,hat224⟩:=(hP208 5 58 rfl rfl)
 obtain ⟨u225_0,rfl,hu225_0⟩:=rCon_iff.1 hrk_hat224
 refine L_lda (cs:=[u225_0,I x194.bound]) rfl Tryz.isAgg54 Tryz.sizeOf54 hv224 (At.sub (AtH.at hat224 hst.sub) 0 2) rfl (L_nil ⟨rfl,_,_,rfl,Le.refl _,fun _ _=>⟨_,hu225_0,rfl⟩,hst⟩)
 refine opsS_cons ?_ ?_
 intro f w_ H208 X208 hS208 hE208 hP208 hst
 obtain ⟨u226_0,hu226_0,hv226⟩:=(hP208 6 59 rfl rfl)
 obtain ⟨H227b,l228,s229,z230,k231⟩:=hst.borrow
 refine L_call rfl Tryz.call46 (ops2 (hP208 0 53 rfl rfl) hv226) (s_AddConstraints_c (a:=x161) (b:=x194) s229 (RP.mono _ hu172_0 (Le.trans hE208 l228)) (RP.mono _ hu226_0 l228) hx204) ?_
 rintro _ w232 ⟨r232_0,rfl,hst⟩
 have hst:=k231 hst (co closed_term c0)
 have hst:=hst.gets [4,4,4,4] rfl
 exact L_nil ⟨rfl,_,_,rfl,Le.refl _,fun _ _=>⟨_,_,rfl,⟨_,rfl⟩,rfl⟩,hst⟩
 refine opsS_cons ?_ ?_
 intro f w_ H208 X208 hS208 hE208 hP208 hst
 have hst : Star H208 w_ (box g173 54 #[u172_0,I x161.bound] :: box g11 54 #[S0,I 0] :: box g9 56 #[I s.kind,I s.a,I s.b,v1_3,I s.given.bound] :: box g7 47 #[v0_0,v0_1] :: own (OR.ownS 83 (OR.frz rTerm)) [(aggC (tupC (f 60) 0) 0)] x204.1.terms :: X208):=hst
 obtain ⟨a234_0,a234_1,hv234,ht234_0,ht234_1⟩:=(hP208 7 60 rfl rfl)
 obtain ⟨u235_0,rfl⟩:=ht234_0
 obtain rfl:=ht234_1
 have hren : Star H208 w_ (box g173 54 #[u172_0,I x161.bound] :: box g11 54 #[S0,I 0] :: box g9 56 #[I s.kind,I s.a,I s.b,v1_3,I s.given.bound] :: box g7 47 #[v0_0,v0_1] :: own (OR.ownS 83 (OR.frz rTerm)) [(aggC (tupC (f 60) 0) 0)] x204.1.terms :: X208):=hst
 rw [hv234] at hren
 have hst : Star H208 w_ (box g173 54 #[u172_0,I x161.bound] :: box g11 54 #[S0,I 0] :: box g9 56 #[I s.kind,I s.a,I s.b,v1_3,I s.given.bound] :: box g7 47 #[v0_0,v0_1] :: oF 83 rTerm u235_0 x204.1.terms :: X208):=hren
 refine L_ex (v:=.agg #[u235_0,I x204.1.bound]) rfl hv234 rfl (L_nil ⟨rfl,_,_,rfl,Le.refl _,fun _ _=>⟨_,rfl⟩,hst⟩)
 refine opsS_cons ?_ ?_
 intro f w_ H208 X208 hS208 hE208 hP208 hst
 obtain ⟨a236_0,a236_1,hv236,ht236_0,ht236_1⟩:=(hP208 7 60 rfl rfl)
 obtain ⟨u237_0,rfl⟩:=ht236_0
 obtain rfl:=ht236_1
 refine L_ex (v:=Bo x204.2) rfl hv236 rfl (L_nil ⟨rfl,_,_,rfl,Le.refl _,fun _ _=>rfl,hst⟩)
 exact opsS_nil
 have hst : Star H208 w_ ([box g173 54 #[u172_0,I x161.bound],box g11 54 #[S0,I 0],box g9 56 #[I s.kind,I s.a,I s.b,v1_3,I s.given.bound],box g7 47 #[v0_0,v0_1],own (OR.ownS 83 (OR.frz rTerm)) [(aggC (f 61) 0)] x204.1.terms]):=hst
 obtain ⟨u238_0,hv238⟩:=(hT208 8 61 rfl rfl)
 have hren : Star H208 w_ ([box g173 54 #[u172_0,I x161.bound],box g11 54 #[S0,I 0],box g9 56 #[I s.kind,I s.a,I s.b,v1_3,I s.given.bound],box g7 47 #[v0_0,v0_1],own (OR.ownS 83 (OR.frz rTerm)) [(aggC (f 61) 0)] x204.1.terms]):=hst
 rw [hv238] at hren
 have hst : Star H208 w_ ([box g173 54 #[u172_0,I x161.bound],box g11 54 #[S0,I 0],box g9 56 #[I s.kind,I s.a,I s.b,v1_3,I s.given.bound],box g7 47 #[v0_0,v0_1],oF 83 rTerm u238_0 x204.1.terms]):=hren
 refine L_staB (vs:=#[u238_0,I x204.1.bound]) (cs2:=#[u238_0,I x204.1.bound]) 1 rfl Tryz.sizeOf54 ((hS208 4 rfl).trans rfl) hv238 rfl (ones_cons (one_len (Star.len 4 hst rfl)) (ones_cons rfl ones_nil)) hst rfl (by show 0 + 2≤2; decide) rfl (fun w239 hst=>aF (hT208 9 62 rfl rfl) rfl (nn (W_ret (retG2 (v1:=.agg #[u238_0,I x204.1.bound]) (v2:=Bo x204.2) Tryz.results35 (resV_agg Tryz.isAgg54 Tryz.sizeOf54 ((hS208 4 rfl).trans rfl) (Star.blkAt 0 hst rfl) rfl) rfl ?_))))
 obtain rfl:=so hF
 have hst:=hst.get 4 rfl
 exact ⟨u238_0,rfl,(Star.down (Star.keepN 1 hst) hE208 (co closed_term c0))⟩
 have hF:=(ite_f hc176).symm.trans hF
 refine sq (L_eql rfl rfl rfl (aB rfl (nn (W_cond (b:=(s.kind == 2)) rfl (fun hc240=>?_) (fun hc240=>?_)))))
 have hF:=(ite_t hc240).symm.trans hF
 refine W_seq ?_
 obtain ⟨x246,hx246,hF⟩:=bind_some hF
 refine W_region (L_lda (cs:=[u172_0,I x161.bound]) rfl Tryz.isAgg54 Tryz.sizeOf54 rfl (At.sub0 (Blk.at (Star.blkAt 0 hst rfl)) 0 2) rfl (fA 2 fa_56_2 rfl rfl (ldB 2 hst Tryz.isAgg3 rfl rfl rfl ?_)))
 obtain ⟨H250b,l251,s252,z253,k254⟩:=hst.borrow
 refine L_call rfl Tryz.call47 (ops2 rfl rfl) (s_MultiplyConstraint_c (c:=x161) (k:=s.b) s252 (RP.mono _ hu172_0 l251) hx246) ?_
 rintro _ w255 ⟨r255_0,rfl,hst⟩
 have hst:=k254 hst (co closed_term c0)
 refine L_ex (v:=.agg #[r255_0,I x246.1.bound]) rfl rfl rfl (L_ex (v:=Bo x246.2) rfl rfl rfl (L_staB (vs:=#[r255_0,I x246.1.bound]) (cs2:=#[r255_0,I x246.1.bound]) 2 rfl Tryz.sizeOf54 rfl rfl rfl (ones_cons (one_len (Star.len 0 hst rfl)) (ones_cons rfl ones_nil)) hst rfl (by show 0 + 2≤2; decide) rfl (fun w257 hst=>aB rfl (nn (W_ret (retG2 (v1:=.agg #[r255_0,I x246.1.bound]) (v2:=Bo x246.2) Tryz.results35 (resV_agg Tryz.isAgg54 Tryz.sizeOf54 rfl (Star.blkAt 0 hst rfl) rfl) rfl ?_))))))
 obtain rfl:=so hF
 have hst:=hst.get 1 rfl
 exact ⟨r255_0,rfl,(Star.keepN 1 hst)⟩
 have hF:=(ite_f hc240).symm.trans hF
 refine sq (L_eql rfl rfl rfl (aB rfl (nn (W_cond (b:=(s.kind == 3)) rfl (fun hc258=>?_) (fun hc258=>?_)))))
 have hF:=(ite_t hc258).symm.trans hF
 refine W_seq ?_
 obtain ⟨x264,hx264,hF⟩:=bind_some hF
 refine W_region (L_lda (cs:=[u172_0,I x161.bound]) rfl Tryz.isAgg54 Tryz.sizeOf54 rfl (At.sub0 (Blk.at (Star.blkAt 0 hst rfl)) 0 2) rfl (fA 2 fa_56_2 rfl rfl (ldB 2 hst Tryz.isAgg3 rfl rfl rfl ?_)))
 obtain ⟨H268b,l269,s270,z271,k272⟩:=hst.borrow
 refine L_call rfl Tryz.call48 (ops2 rfl rfl) (s_DivideConstraint_c (c:=x161) (k:=s.b) s270 (RP.mono _ hu172_0 l269) hx264) ?_
 rintro _ w273 ⟨r273_0,rfl,hst⟩
 have hst:=k272 hst (co closed_term c0)
 refine L_ex (v:=.agg #[r273_0,I x264.1.bound]) rfl rfl rfl (L_ex (v:=Bo x264.2) rfl rfl rfl (L_staB (vs:=#[r273_0,I x264.1.bound]) (cs2:=#[r273_0,I x264.1.bound]) 2 rfl Tryz.sizeOf54 rfl rfl rfl (ones_cons (one_len (Star.len 0 hst rfl)) (ones_cons rfl ones_nil)) hst rfl (by show 0 + 2≤2; decide) rfl (fun w275 hst=>aB rfl (nn (W_ret (retG2 (v1:=.agg #[r273_0,I x264.1.bound]) (v2:=Bo x264.2) Tryz.results35 (resV_agg Tryz.isAgg54 Tryz.sizeOf54 rfl (Star.blkAt 0 hst rfl) rfl) rfl ?_))))))
 obtain rfl:=so hF
 have hst:=hst.get 1 rfl
 exact ⟨r273_0,rfl,(Star.keepN 1 hst)⟩
 have hF:=(ite_f hc258).symm.trans hF
 refine sq (L_eql rfl rfl rfl (aB rfl (nn (W_cond (b:=(s.kind == 4)) rfl (fun hc276=>?_) (fun hc276=>?_)))))
 have hF:=(ite_t hc276).symm.trans hF
 refine W_seq ?_
 obtain ⟨x282,hx282,hF⟩:=bind_some hF
 refine W_region (L_lda (cs:=[u172_0,I x161.bound]) rfl Tryz.isAgg54 Tryz.sizeOf54 rfl (At.sub0 (Blk.at (Star.blkAt 0 hst rfl)) 0 2) rfl ?_)
 obtain ⟨H286b,l287,s288,z289,k290⟩:=hst.borrow
 refine L_call rfl Tryz.call49 (ops1 rfl) (s_SaturateConstraint_c (c:=x161) s288 (RP.mono _ hu172_0 l287) hx282) ?_
 rintro _ w291 ⟨r291_0,rfl,hst⟩
 have hst:=k290 hst (co closed_term c0)
 refine L_ex (v:=.agg #[r291_0,I x282.1.bound]) rfl rfl rfl (L_ex (v:=Bo x282.2) rfl rfl rfl (L_staB (vs:=#[r291_0,I x282.1.bound]) (cs2:=#[r291_0,I x282.1.bound]) 2 rfl Tryz.sizeOf54 rfl rfl rfl (ones_cons (one_len (Star.len 0 hst rfl)) (ones_cons rfl ones_nil)) hst rfl (by show 0 + 2≤2; decide) rfl (fun w293 hst=>aB rfl (nn (W_ret (retG2 (v1:=.agg #[r291_0,I x282.1.bound]) (v2:=Bo x282.2) Tryz.results35 (resV_agg Tryz.isAgg54 Tryz.sizeOf54 rfl (Star.blkAt 0 hst rfl) rfl) rfl ?_))))))
 obtain rfl:=so hF
 have hst:=hst.get 1 rfl
 exact ⟨r291_0,rfl,(Star.keepN 1 hst)⟩
 have hF:=(ite_f hc276).symm.trans hF
 refine W_skip (W_seq ?_)
 obtain ⟨x299,hx299,hF⟩:=bind_some hF
 refine W_region (L_lda (cs:=[u172_0,I x161.bound]) rfl Tryz.isAgg54 Tryz.sizeOf54 rfl (At.sub0 (Blk.at (Star.blkAt 0 hst rfl)) 0 2) rfl (fA 2 fa_56_2 rfl rfl (ldB 2 hst Tryz.isAgg3 rfl rfl rfl ?_)))
 obtain ⟨H303b,l304,s305,z306,k307⟩:=hst.borrow
 refine L_call rfl Tryz.call50 (ops2 rfl rfl) (s_WeakenConstraint_c (c:=x161) (variable_:=s.b) s305 (RP.mono _ hu172_0 l304) hx299) ?_
 rintro _ w308 ⟨r308_0,rfl,hst⟩
 have hst:=k307 hst (co closed_term c0)
 refine L_ex (v:=.agg #[r308_0,I x299.1.bound]) rfl rfl rfl (L_ex (v:=Bo x299.2) rfl rfl rfl (L_staB (vs:=#[r308_0,I x299.1.bound]) (cs2:=#[r308_0,I x299.1.bound]) 2 rfl Tryz.sizeOf54 rfl rfl rfl (ones_cons (one_len (Star.len 0 hst rfl)) (ones_cons rfl ones_nil)) hst rfl (by show 0 + 2≤2; decide) rfl (fun w310 hst=>aB rfl (nn (W_ret (retG2 (v1:=.agg #[r308_0,I x299.1.bound]) (v2:=Bo x299.2) Tryz.results35 (resV_agg Tryz.isAgg54 Tryz.sizeOf54 rfl (Star.blkAt 0 hst rfl) rfl) rfl ?_))))))
 obtain rfl:=so hF
 have hst:=hst.get 1 rfl
 exact ⟨r308_0,rfl,(Star.keepN 1 hst)⟩
theorem s_l4Run_c {fu : Nat} {list : List Con} {steps : List Step} {v0 : Value} {v1 : Value} {H : FH} {w : World} {R : List Ass} (hst : Star H w R) (h0 : (rS 54 (rCon 83)).rel H [v0] list) (h1 : (rS 56 (rStep 83)).rel H [v1] steps) {r : Db × Int} (hF : s_l4Run fu list steps = some r) :
 C Tryz.prog 18 #[v0,v1] w fun v w'=>∃ H' : FH,Le H H'∧∃ (u1 : Value) (u2 : Value),v = .tuple #[.agg #[u1,u2],I r.2]∧Star H' w' (oF 54 (rCon 83) u1 r.1.list :: oF 4 RP.bool u2 r.1.gone :: R):=by
 unfold s_l4Run at hF
 refine C_enter Tryz.func18 rfl Tryz.ntmps18 rfl (sq (L_al (cs:=#[S0,S0]) rfl Tryz.zeroValue47 rfl hst (fun g3 w4 hst=>aI rfl (nq ?_))))
 obtain ⟨x8,hx8,hF⟩:=bind_some hF
 obtain ⟨x12,hx12,hF⟩:=bind_some hF
 refine W_drawS 8 [anyF,isV (v0),anyF,isV (v0),isV (I (list.length : Int)),anyF,exA fun u_0=>exA fun u_1=>isV (.agg #[u_0,u_1]),anyF] [box g3 47 #[S0,S0]] [.made 0 11 (fun v_=>oF 54 (rCon 83) v_ ([])) (some 2),.made 2 13 (fun v_=>oF 54 (rCon 83) v_ x8) (some 6),.made 5 16 (fun v_=>oF 4 RP.bool v_ x12) (some 6),.made 6 17 (fun v_=>oF 54 (rCon 83) (aggC v_ 0) x8) none,.made 6 17 (fun v_=>oF 4 RP.bool (aggC v_ 1) x12) none,.made 7 6 (fun v_=>boxV v_ 47 #[S0,S0]) none] (R) [([],[0]),([],[]),([0],[1]),([],[]),([],[]),([],[2]),([1,2],[3,4]),([],[5])] (S:=[(some 0,[11],some 2),(some 2,[13],some 6),(some 5,[16],some 6),(some 6,[17],none),(some 6,[17],none),(some 7,[6],none)]) Tryz_mix (by kernel_rfl) rfl (by kernel_rfl) (amF_cons (mono_any) (amF_cons (mono_V _) (amF_cons (mono_any) (amF_cons (mono_V _) (amF_cons (mono_V _) (amF_cons (mono_any) (amF_cons (mono_exA fun _=>mono_exA fun _=>mono_V _) (amF_cons (mono_any) amF_nil)))))))) hst ?_ (fun f w_ H19 hS19 hE19 hT19 hst=>?_)
 refine opsS_cons ?_ ?_
 intro f w_ H19 X19 hS19 hE19 hP19 hst
 refine L_bs rfl parts0 (bs_29_0  ) hst (fun g31 w32 hst=>?_)
 have hst:=Star.mkRow (R:=(OR.frz (rCon 83))) [] [] 0 hst rfl rfl rfl (by decide)
 have hst:=hst.get 1 rfl
 exact L_nil ⟨rfl,_,_,rfl,Le.refl _,fun _ _=>trivial,hst⟩
 refine opsS_cons (fun f w_ _ _ s _ _ hst=>mF ((s 0 rfl).trans rfl) rfl (nO rfl rfl hst)) (opsS_cons ?_ ?_)
 intro f w_ H19 X19 hS19 hE19 hP19 hst
 have hst : Star H19 w_ (box g3 47 #[S0,S0] :: oF 54 (rCon 83) (f 11) ([]) :: X19):=hst
 have hst:=hst.get 1 rfl
 refine L_app (v:=(f 11)) (u:=v0) rfl et_29 rfl (hP19 1 12 rfl rfl) hst (RP.mono _ h0 hE19) hx8 (fun v35 w36 hst=>?_)
 have hst:=hst.get 1 rfl
 exact L_nil ⟨rfl,_,_,rfl,Le.refl _,fun _ _=>trivial,hst⟩
 refine opsS_cons (fun f w_ _ _ s _ _ hst=>mF ((s 0 rfl).trans rfl) rfl (nO rfl rfl hst)) (opsS_cons (fun f w_ _ _ _ hE19 p hst=>L_len rfl Tryz.underlying29 (p 3 14 rfl rfl) (slice_len (RP.mono _ h0 hE19)) (nO rfl rfl hst)) (opsS_cons ?_ ?_))
 intro f w_ H19 X19 hS19 hE19 hP19 hst
 refine L_mk (R:=(OR.frz RP.bool)) (z0:=false) (zc:=[Bo false]) rfl et_45 (by kernel_rfl) (fun _ _=>⟨rfl,rfl⟩) (hP19 4 15 rfl rfl) (hP19 4 15 rfl rfl) hx12 hst (fun v38 w39 hst=>?_)
 have hst:=hst.get 1 rfl
 exact L_nil ⟨rfl,_,_,rfl,Le.refl _,fun _ _=>trivial,hst⟩
 refine opsS_cons ?_ ?_
 intro f w_ H19 X19 hS19 hE19 hP19 hst
 have hst : Star H19 w_ (box g3 47 #[S0,S0] :: oF 54 (rCon 83) (f 13) x8 :: oF 4 RP.bool (f 16) x12 :: X19):=hst
 refine L_bld rfl (parts2 rfl rfl) (bld_47_0_1 ((f 13)) ((f 16)) (one_len (Star.len 1 hst rfl)) (one_len (Star.len 2 hst rfl))) (L_nil ⟨rfl,_,_,rfl,Le.refl _,fun _ _=>⟨_,_,rfl⟩,hst⟩)
 refine opsS_cons ?_ ?_
 intro f w_ H19 X19 hS19 hE19 hP19 hst
 refine L_al (cs:=#[S0,S0]) rfl Tryz.zeroValue47 rfl hst (fun g43 w44 hst=>?_)
 have hst:=hst.gets [1,1] rfl
 have hst:=Star.boxV (v:=Pt g43) rfl hst
 have hst:=hst.get 1 rfl
 exact L_nil ⟨rfl,_,_,rfl,Le.refl _,fun _ _=>trivial,hst⟩
 exact opsS_nil
 have hst : Star H19 w_ (box g3 47 #[S0,S0] :: own (OR.ownS 54 (OR.frz (rCon 83))) [(aggC (f 17) 0)] x8 :: own (OR.ownS 4 (OR.frz RP.bool)) [(aggC (f 17) 1)] x12 :: boxV (f 6) 47 #[S0,S0] :: R):=hst
 obtain ⟨u45_0,u45_1,hv45⟩:=(hT19 6 17 rfl rfl)
 have hren : Star H19 w_ (box g3 47 #[S0,S0] :: own (OR.ownS 54 (OR.frz (rCon 83))) [(aggC (f 17) 0)] x8 :: own (OR.ownS 4 (OR.frz RP.bool)) [(aggC (f 17) 1)] x12 :: boxV (f 6) 47 #[S0,S0] :: R):=hst
 rw [hv45] at hren
 have hst : Star H19 w_ (box g3 47 #[S0,S0] :: oF 54 (rCon 83) u45_0 x8 :: oF 4 RP.bool u45_1 x12 :: boxV (f 6) 47 #[S0,S0] :: R):=hren
 obtain ⟨g46,hv46,hst⟩:=Star.unboxV (Star.get 3 hst rfl)
 refine L_staB (vs:=#[u45_0,u45_1]) (cs2:=#[u45_0,u45_1]) 0 rfl Tryz.sizeOf47 hv46 hv45 rfl (ones_cons (one_len (Star.len 2 hst rfl)) (ones_cons (one_len (Star.len 3 hst rfl)) ones_nil)) hst rfl (by show 0 + 2≤2; decide) rfl (fun w47 hst=>nq (sq (aI rfl (nn ?_))))
 have hlen55 : List.length steps≤9223372036854775807:=len_le (slice_len (RP.mono _ h1 hE19))
 obtain ⟨j55,hL55,hF⟩:=bind_some hF
 obtain ⟨R55,hR55⟩:=exR fun f w_=>∃ g46_0_49 : List Con,∃ g46_1_51 : List Bool,∃ H53 : FH,∃ v49_g46_0 v51_g46_1 : Value,j55 = .nx (g46_0_49,g46_1_51)∧Le H19 H53∧f 4 = Pt g3∧f 6 = Pt g46∧Star H53 w_ (oF 54 (rCon 83) v49_g46_0 g46_0_49 :: oF 4 RP.bool v51_g46_1 g46_1_51 :: box g46 47 #[v49_g46_0,v51_g46_1] :: box g3 47 #[S0,S0] :: R)
 refine W_join R55 ?_ ?_
 refine W_block ?_
 obtain ⟨I55,hI55⟩:=exI fun n f w_=>∃ i_48 : Nat,∃ suf55 : List Step,∃ g46_0_49 : List Con,∃ g46_1_51 : List Bool,∃ H53 : FH,∃ v49_g46_0 v51_g46_1 : Value,n = suf55.length∧List.drop i_48 steps = suf55∧i_48 + suf55.length = steps.length∧rangeL (s_l4Run_b1 fu list) suf55 i_48 (g46_0_49,g46_1_51) = some j55∧Le H19 H53∧f 1 = v1∧f 4 = Pt g3∧f 6 = Pt g46∧f 7 = I i_48∧Star H53 w_ (oF 54 (rCon 83) v49_g46_0 g46_0_49 :: oF 4 RP.bool v51_g46_1 g46_1_51 :: box g46 47 #[v49_g46_0,v51_g46_1] :: box g3 47 #[S0,S0] :: R)
 have hst:=hst.gets [1,1,3,3] rfl
 refine W_loop I55 (n:=steps.length) ?_ ?_
 exact ij hI55 ⟨0,steps,x8,x12,H19,u45_0,u45_1,rfl,rfl,Nat.zero_add _,hL55,(Le.refl _),((hS19 1 rfl).trans rfl),((hS19 4 rfl).trans rfl),hv46,rfl,hst⟩
 intro n55 f w_ hI
 obtain ⟨i_48,suf55,g46_0_49,g46_1_51,H53,v49_g46_0,v51_g46_1,rfl,hd55,hl55,hL55,l54,sf1,sf4,sf6,sf7,hst⟩:=ik hI55 hI
 refine W_seq (sq (mF sf7 rfl (mF sf1 rfl (L_len rfl Tryz.underlying26 rfl (slice_len (RP.mono _ h1 (Le.trans hE19 l54))) (L_lss rfl rfl rfl (nn (W_cond (b:=decide ((i_48 : Int) < (steps.length : Int))) rfl (fun hc56=>?_) (fun hc56=>?_))))))))
 have hlt55:=of_decide_eq_true hc56
 rcases suf55 with _ | ⟨x_55,rest55⟩
 exact absurd hlt55 (by simp at hl55; omega)
 obtain ⟨o55,hB55,hL55⟩:=range_cons hL55
 rw [s_l4Run_b1] at hB55
 have hix55:=drop_idx hd55
 refine W_skip (W_seq ?_)
 obtain ⟨j63,hA63,hB55⟩:=bind_some hB55
 obtain ⟨R63,hR63⟩:=exR fun f w_=>∃ g46_0_57 : List Con,∃ g46_1_59 : List Bool,∃ H61 : FH,∃ v57_g46_0 v59_g46_1 : Value,j63 = .nx (g46_0_57,g46_1_59)∧Le H53 H61∧f 1 = v1∧f 4 = Pt g3∧f 6 = Pt g46∧f 7 = I i_48∧Star H61 w_ (oF 54 (rCon 83) v57_g46_0 g46_0_57 :: oF 4 RP.bool v59_g46_1 g46_1_59 :: box g46 47 #[v57_g46_0,v59_g46_1] :: box g3 47 #[S0,S0] :: R)
 refine W_join R63 ?_ ?_
 refine W_block (sq (mF sf1 rfl (mF sf7 rfl (L_ix (r:=(rStep 83)) rfl Tryz.underlying26 Tryz.sizeOf56 rfl (RP.mono _ h1 (Le.trans hE19 l54)) rfl hix55 (fun g71 o72 cs_g71 hrk_hat73 hat73=>?_)))))
 obtain ⟨u74_0,rfl,hu74_0⟩:=rStep_iff.1 hrk_hat73
 refine L_lda (cs:=[I x_55.kind,I x_55.a,I x_55.b,u74_0,I x_55.given.bound]) rfl Tryz.isAgg56 Tryz.sizeOf56 rfl (At.sub (AtH.at hat73 hst.sub) 0 5) rfl (L_al (cs:=#[I 0,I 0,I 0,S0,I 0]) rfl Tryz.zeroValue56 rfl hst (fun g75 w76 hst=>L_staB (vs:=#[I x_55.kind,I x_55.a,I x_55.b,u74_0,I x_55.given.bound]) (cs2:=#[I x_55.kind,I x_55.a,I x_55.b,u74_0,I x_55.given.bound]) 0 rfl Tryz.sizeOf56 rfl rfl rfl (ones_cons rfl (ones_cons rfl (ones_cons rfl (ones_cons (one_len (slice_len hu74_0)) (ones_cons rfl ones_nil))))) hst rfl (by show 0 + 5≤5; decide) rfl (fun w77 hst=>nq (W_seq ?_))))
 obtain ⟨x83,hx83,hA63⟩:=bind_some hA63
 refine W_region (L_lda (cs:=[I x_55.kind,I x_55.a,I x_55.b,u74_0,I x_55.given.bound]) rfl Tryz.isAgg56 Tryz.sizeOf56 rfl (At.sub0 (Blk.at (Star.blkAt 0 hst rfl)) 0 5) rfl ?_)
 obtain ⟨H85b,l86,s87,z88,k89⟩:=hst.borrow
 refine L_call rfl Tryz.call33 (ops1 rfl) (s_l4Parts_c (s:=x_55) s87 (RP.mono _ hu74_0 l86) hx83) ?_
 rintro _ w90 ⟨rfl,hst⟩
 have hst:=k89 hst c0
 refine L_not_ rfl rfl (nn (W_cond (b:=(!x83)) rfl (fun hc91=>?_) (fun hc91=>?_)))
 have hA63:=(ite_t hc91).symm.trans hA63
 refine sq (L_lda (cs:=[v49_g46_0,v51_g46_1]) rfl Tryz.isAgg47 Tryz.sizeOf47 sf6 (At.sub0 (Blk.at (Star.blkAt 3 hst rfl)) 0 2) rfl (mF sf7 rfl (L_staB (vs:=#[v49_g46_0,v51_g46_1]) (cs2:=#[v49_g46_0,v51_g46_1]) 4 rfl Tryz.sizeOf47 sf4 rfl rfl (ones_cons (one_len (Star.len 1 hst rfl)) (ones_cons (one_len (Star.len 2 hst rfl)) ones_nil)) hst rfl (by show 0 + 2≤2; decide) rfl (fun w93 hst=>aI rfl (nn (W_ret (retG2 (v1:=.agg #[v49_g46_0,v51_g46_1]) (v2:=I i_48) Tryz.results18 (resV_agg Tryz.isAgg47 Tryz.sizeOf47 sf4 (Star.blkAt 0 hst rfl) rfl) rfl ?_)))))))
 obtain rfl:=so hA63
 obtain rfl:=so hB55
 obtain rfl:=so hL55
 obtain rfl:=so hF
 have hst:=hst.gets [3,3] rfl
 have hst:=Star.drop 2 hst rfl
 have hst:=Star.drop 2 hst rfl
 have hst:=Star.drop 2 hst rfl
 exact ⟨H53,(Le.trans hE19 l54),v49_g46_0,v51_g46_1,rfl,hst⟩
 have hA63:=(ite_f hc91).symm.trans hA63
 refine W_skip (W_seq (sq (fA 0 fa_56_0 rfl rfl (ldB 0 hst Tryz.isAgg3 rfl rfl rfl (L_eql rfl rfl rfl (nn (W_cond (b:=(x_55.kind == 8)) rfl (fun hc94=>?_) (fun hc94=>?_))))))))
 have hA63:=(ite_t hc94).symm.trans hA63
 refine W_seq (W_seq ?_)
 obtain ⟨x102,hx102,hA63⟩:=bind_some hA63
 refine W_region (L_lda (cs:=[v49_g46_0,v51_g46_1]) rfl Tryz.isAgg47 Tryz.sizeOf47 sf6 (At.sub0 (Blk.at (Star.blkAt 3 hst rfl)) 0 2) rfl (fA 1 fa_56_1 rfl rfl (ldB 0 hst Tryz.isAgg3 rfl rfl rfl ?_)))
 obtain ⟨H104b,l105,s106,z107,k108⟩:=hst.borrow
 have hb109 : (rS 54 (rCon 83)).rel H104b [v49_g46_0] g46_0_49:=fz_own 1 z107 rfl
 have hb110 : (rS 4 RP.bool).rel H104b [v51_g46_1] g46_1_51:=fz_own 2 z107 rfl
 refine L_call rfl Tryz.call34 (ops2 rfl rfl) (s_l4Live_c (d:=({ list:=g46_0_49,gone:=g46_1_51 } : Db)) (k:=x_55.a) s106 hb109 hb110 hx102) ?_
 rintro _ w111 ⟨rfl,hst⟩
 have hst:=k108 hst c0
 refine L_not_ rfl rfl (nn (W_cond (b:=(!x102)) rfl (fun hc112=>?_) (fun hc112=>?_)))
 have hA63:=(ite_t hc112).symm.trans hA63
 refine sq (L_lda (cs:=[v49_g46_0,v51_g46_1]) rfl Tryz.isAgg47 Tryz.sizeOf47 sf6 (At.sub0 (Blk.at (Star.blkAt 3 hst rfl)) 0 2) rfl (mF sf7 rfl (L_staB (vs:=#[v49_g46_0,v51_g46_1]) (cs2:=#[v49_g46_0,v51_g46_1]) 4 rfl Tryz.sizeOf47 sf4 rfl rfl (ones_cons (one_len (Star.len 1 hst rfl)) (ones_cons (one_len (Star.len 2 hst rfl)) ones_nil)) hst rfl (by show 0 + 2≤2; decide) rfl (fun w114 hst=>aI rfl (nn (W_ret (retG2 (v1:=.agg #[v49_g46_0,v51_g46_1]) (v2:=I i_48) Tryz.results18 (resV_agg Tryz.isAgg47 Tryz.sizeOf47 sf4 (Star.blkAt 0 hst rfl) rfl) rfl ?_)))))))
 obtain rfl:=so hA63
 obtain rfl:=so hB55
 obtain rfl:=so hL55
 obtain rfl:=so hF
 have hst:=hst.gets [3,3] rfl
 have hst:=Star.drop 2 hst rfl
 have hst:=Star.drop 2 hst rfl
 have hst:=Star.drop 2 hst rfl
 exact ⟨H53,(Le.trans hE19 l54),v49_g46_0,v51_g46_1,rfl,hst⟩
 have hA63:=(ite_f hc112).symm.trans hA63
 refine W_skip (W_seq ?_)
 obtain ⟨x115,hx115,hA63⟩:=bind_some hA63
 refine W_region (fA 1 fa_47_1 sf6 rfl (ldB 3 hst Tryz.isAgg45 rfl rfl rfl (fA 1 fa_56_1 rfl rfl (ldB 0 hst Tryz.isAgg3 rfl rfl rfl ?_))))
 obtain ⟨g119,cap_g119,hv120,_,_⟩:=Star.row 2 hst rfl hx115
 refine L_ixO (R:=(OR.frz RP.bool)) (tb:=0) 0 rfl Tryz.underlying45 Tryz.sizeOf4 rfl hv120 (by first | rfl | simp) rfl hx115 ?_
 have hst:=Star.addF (r:=RP.bool) (cs:=[Bo true]) (x:=true) hst rfl
 have hst:=hst.gets [3,1] rfl
 refine L_stE1 (u:=Bo true) rfl Tryz.sizeOf4 rfl rfl rfl hv120 hst hx115 (fun w121 hst=>nn (W_exit ?_))
 obtain rfl:=so hA63
 have hst:=hst.gets [4,4,2,4] rfl
 have hst:=Star.drop 4 hst rfl
 exact rj hR63 ⟨g46_0_49,(g46_1_51.set (Int.toNat x_55.a) true),H53,v49_g46_0,v51_g46_1,rfl,(Le.refl _),sf1,sf4,sf6,sf7,hst⟩
 have hA63:=(ite_f hc94).symm.trans hA63
 refine W_skip (W_seq ?_)
 obtain ⟨x129,hx129,hA63⟩:=bind_some hA63
 refine W_region (L_lda (cs:=[v49_g46_0,v51_g46_1]) rfl Tryz.isAgg47 Tryz.sizeOf47 sf6 (At.sub0 (Blk.at (Star.blkAt 3 hst rfl)) 0 2) rfl (L_lda (cs:=[I x_55.kind,I x_55.a,I x_55.b,u74_0,I x_55.given.bound]) rfl Tryz.isAgg56 Tryz.sizeOf56 rfl (At.sub0 (Blk.at (Star.blkAt 0 hst rfl)) 0 5) rfl ?_))
 obtain ⟨H135b,l136,s137,z138,k139⟩:=hst.borrow
 have hb140 : (rS 54 (rCon 83)).rel H135b [v49_g46_0] g46_0_49:=fz_own 1 z138 rfl
 have hb141 : (rS 4 RP.bool).rel H135b [v51_g46_1] g46_1_51:=fz_own 2 z138 rfl
 refine L_call rfl Tryz.call35 (ops2 rfl rfl) (s_l4Derive_c (d:=({ list:=g46_0_49,gone:=g46_1_51 } : Db)) (s:=x_55) s137 hb140 hb141 (RP.mono _ hu74_0 l136) hx129) ?_
 rintro _ w142 ⟨r142_0,rfl,hst⟩
 have hst:=k139 hst (co closed_term c0)
 refine mV (.tuple #[.agg #[r142_0,I x129.1.bound],Bo x129.2]) rfl (L_ex (v:=.agg #[r142_0,I x129.1.bound]) rfl rfl rfl (L_ex (v:=Bo x129.2) rfl rfl rfl (L_al (cs:=#[S0,I 0]) rfl Tryz.zeroValue54 rfl hst (fun g144 w145 hst=>L_staB (vs:=#[r142_0,I x129.1.bound]) (cs2:=#[r142_0,I x129.1.bound]) 0 rfl Tryz.sizeOf54 rfl rfl rfl (ones_cons (one_len (Star.len 1 hst rfl)) (ones_cons rfl ones_nil)) hst rfl (by show 0 + 2≤2; decide) rfl (fun w146 hst=>aB rfl (nq (sq (mB rfl (L_not_ rfl rfl (nn (W_cond (b:=(!x129.2)) rfl (fun hc147=>?_) (fun hc147=>?_))))))))))))
 have hA63:=(ite_t hc147).symm.trans hA63
 refine sq (L_lda (cs:=[v49_g46_0,v51_g46_1]) rfl Tryz.isAgg47 Tryz.sizeOf47 sf6 (At.sub0 (Blk.at (Star.blkAt 5 hst rfl)) 0 2) rfl (mF sf7 rfl (L_staB (vs:=#[v49_g46_0,v51_g46_1]) (cs2:=#[v49_g46_0,v51_g46_1]) 6 rfl Tryz.sizeOf47 sf4 rfl rfl (ones_cons (one_len (Star.len 3 hst rfl)) (ones_cons (one_len (Star.len 4 hst rfl)) ones_nil)) hst rfl (by show 0 + 2≤2; decide) rfl (fun w149 hst=>aI rfl (nn (W_ret (retG2 (v1:=.agg #[v49_g46_0,v51_g46_1]) (v2:=I i_48) Tryz.results18 (resV_agg Tryz.isAgg47 Tryz.sizeOf47 sf4 (Star.blkAt 0 hst rfl) rfl) rfl ?_)))))))
 obtain rfl:=so hA63
 obtain rfl:=so hB55
 obtain rfl:=so hL55
 obtain rfl:=so hF
 have hst:=hst.gets [5,5] rfl
 have hst:=Star.drop 2 hst rfl
 have hst:=Star.drop 2 hst rfl
 have hst:=Star.drop 2 hst rfl
 have hst:=Star.drop 2 hst rfl
 have hst:=Star.drop 2 hst rfl
 exact ⟨H53,(Le.trans hE19 l54),v49_g46_0,v51_g46_1,rfl,hst⟩
 have hA63:=(ite_f hc147).symm.trans hA63
 refine W_skip (W_seq ?_)
 obtain ⟨x153,hx153,hA63⟩:=bind_some hA63
 refine W_region (fA 0 fa_47_0 sf6 rfl (ldB 5 hst Tryz.isAgg29 rfl rfl rfl (L_lda (cs:=[r142_0,I x129.1.bound]) rfl Tryz.isAgg54 Tryz.sizeOf54 rfl (At.sub0 (Blk.at (Star.blkAt 0 hst rfl)) 0 2) rfl (L_bs rfl (parts1 rfl) (bs_29_1_2 (r142_0) (I x129.1.bound) ) hst (fun g160 w161 hst=>?_)))))
 have hst:=hst.get 2 rfl
 have hst:=oCon_close (c:=x129.1) hst
 have hst:=Star.mkRow (R:=(oCon 83)) [([r142_0,I x129.1.bound],x129.1)] [x129.1] 1 hst rfl rfl rfl (by decide)
 obtain ⟨H163,l164,hst⟩:=Star.shallow hst
 have hst : Star H163 w161 (oF 54 (rCon 83) (Sl g160 1 1) ([x129.1]) :: _):=hst
 have hst:=hst.get 3 rfl
 refine L_appM (v:=v49_g46_0) (u:=(Sl g160 1 1)) rfl et_29 rfl rfl hst hx153 (fun v165 w166 hst=>fA 0 fa_47_0 sf6 rfl (L_stB (v:=v165) (cs2:=#[v165,v51_g46_1]) 4 rfl Tryz.sizeOf29 rfl rfl (one_len (Star.len 0 hst rfl)) hst rfl rfl rfl (fun w168 hst=>nn ?_)))
 obtain ⟨x172,hx172,hA63⟩:=bind_some hA63
 refine W_region (fA 1 fa_47_1 sf6 rfl (ldB 0 hst Tryz.isAgg45 rfl rfl rfl (L_bs rfl (parts1 rfl) (bs_45_1_0 (Bo false) rfl) hst (fun g177 w178 hst=>?_))))
 have hst:=Star.addF (r:=RP.bool) (cs:=[Bo false]) (x:=false) hst rfl
 have hst:=Star.mkRow (R:=(OR.frz RP.bool)) [([Bo false],false)] [false] 1 hst rfl rfl rfl (by decide)
 have hst:=hst.get 5 rfl
 refine L_appM (v:=v51_g46_1) (u:=(Sl g177 1 1)) rfl et_45 rfl rfl hst hx172 (fun v180 w181 hst=>fA 1 fa_47_1 sf6 rfl (L_stB (v:=v180) (cs2:=#[v165,v180]) 1 rfl Tryz.sizeOf45 rfl rfl (one_len (Star.len 0 hst rfl)) hst rfl rfl rfl (fun w183 hst=>nn ?_)))
 obtain rfl:=so hA63
 have hst:=hst.gets [5,1,2,3] rfl
 have hst:=Star.drop 4 hst rfl
 have hst:=Star.drop 4 hst rfl
 exact rj hR63 ⟨x153,x172,H163,v165,v180,rfl,l164,sf1,sf4,sf6,sf7,hst⟩
 intro f w_ hR
 obtain ⟨g46_0_57,g46_1_59,H61,v57_g46_0,v59_g46_1,rfl,l62,sf1,sf4,sf6,sf7,hst⟩:=rk hR63 hR
 refine W_region (mF sf7 rfl (L_add rfl rfl rfl (aI rfl (nn ?_))))
 obtain rfl:=so hB55
 show ∃ m,m < _∧I55 m _ _
 refine ⟨rest55.length,by simp,?_⟩
 exact ij hI55 ⟨i_48 + 1,rest55,g46_0_57,g46_1_59,H61,v57_g46_0,v59_g46_1,rfl,drop_next hd55,by simp at hl55; omega,hL55,(Le.trans l54 l62),sf1,sf4,sf6,(Eq.trans rfl (congrArg (Value.int .i64) (i64_succ (n:=steps.length) (by simp at hl55; omega) hlen55))),hst⟩
 rcases suf55 with _ | ⟨_,_⟩
 obtain rfl:=range_nil hL55
 refine W_exit (rj hR55 ⟨g46_0_49,g46_1_51,H53,v49_g46_0,v51_g46_1,rfl,l54,sf4,sf6,hst⟩)
 exact absurd (of_decide_eq_false hc56) (by simp at hl55; omega)
 intro f w_ hR
 obtain ⟨g46_0_49,g46_1_51,H53,v49_g46_0,v51_g46_1,rfl,l54,sf4,sf6,hst⟩:=rk hR55 hR
 refine sq (L_lda (cs:=[v49_g46_0,v51_g46_1]) rfl Tryz.isAgg47 Tryz.sizeOf47 sf6 (At.sub0 (Blk.at (Star.blkAt 2 hst rfl)) 0 2) rfl (L_staB (vs:=#[v49_g46_0,v51_g46_1]) (cs2:=#[v49_g46_0,v51_g46_1]) 3 rfl Tryz.sizeOf47 sf4 rfl rfl (ones_cons (one_len (Star.len 0 hst rfl)) (ones_cons (one_len (Star.len 1 hst rfl)) ones_nil)) hst rfl (by show 0 + 2≤2; decide) rfl (fun w185 hst=>aI rfl (nn (W_ret (retG2 (v1:=.agg #[v49_g46_0,v51_g46_1]) (v2:=I (-1)) Tryz.results18 (resV_agg Tryz.isAgg47 Tryz.sizeOf47 sf4 (Star.blkAt 0 hst rfl) rfl) rfl ?_))))))
 obtain rfl:=so hF
 have hst:=hst.gets [2,2] rfl
 have hst:=Star.drop 2 hst rfl
 have hst:=Star.drop 2 hst rfl
 exact ⟨H53,(Le.trans hE19 l54),v49_g46_0,v51_g46_1,rfl,hst⟩
theorem s_ConstraintFalse_c {c : Con} {v0_0 : Value} {H : FH} {w : World} (hst : Star H w []) (h0_0 : (rS 83 rTerm).rel H [v0_0] c.terms) {r : Bool} (hF : s_ConstraintFalse c = some r) :
 C Tryz.prog 36 #[.agg #[v0_0,I c.bound]] w fun v w'=>v = Bo r∧Star H w' []:=by
 unfold s_ConstraintFalse at hF
 refine C_enter Tryz.func36 rfl Tryz.ntmps36 rfl (sq (L_box (v:=.agg #[v0_0,I c.bound]) (cs:=#[v0_0,I c.bound]) rfl rfl rfl hst (fun g3 w4 hst=>aB rfl (nq ?_))))
 obtain ⟨x10,hx10,hF⟩:=bind_some hF
 obtain ⟨b19,hb19,hF⟩:=bind_some hF
 obtain ⟨R23,hR23⟩:=exR fun f w_=>∃ H21 : FH,Le H H21∧f 2 = Bo b19∧Star H21 w_ ([])
 refine W_join R23 ?_ ?_
 rcases Bool.eq_false_or_eq_true x10 with hc24 | hc24
 rw [ite_t hc24] at hb19
 obtain ⟨x17,hx17,hb19⟩:=bind_some hb19
 refine W_drawS 7 [isV (.agg #[v0_0,I c.bound]),isV (Bo x10),isV (Bo x10),isV (.agg #[v0_0,I c.bound]),isV (I x17),isV (Pq g3 1),isV (I c.bound)] [box g3 54 #[v0_0,I c.bound]] [] ([]) [([],[]),([],[]),([],[]),([],[]),([],[]),([],[]),([],[])] (S:=[]) Tryz_mix (by kernel_rfl) rfl (by kernel_rfl) (amF_cons (mono_V _) (amF_cons (mono_V _) (amF_cons (mono_V _) (amF_cons (mono_V _) (amF_cons (mono_V _) (amF_cons (mono_V _) (amF_cons (mono_V _) amF_nil))))))) hst ?_ (fun f w_ H20 hS20 hE20 hT20 hst=>?_)
 refine opsS_cons (fun f w_ _ _ s _ _ hst=>L_lda (cs:=[v0_0,I c.bound]) rfl Tryz.isAgg54 Tryz.sizeOf54 ((s 1 rfl).trans rfl) (At.sub0 (Blk.at (Star.blkAt 0 hst rfl)) 0 2) rfl (nO rfl rfl hst)) (opsS_cons ?_ ?_)
 intro f w_ H20 X20 hS20 hE20 hP20 hst
 obtain ⟨H37b,l38,s39,z40,k41⟩:=hst.borrow
 refine L_call rfl Tryz.call43 (ops1 (hP20 0 3 rfl rfl)) (s_ConstraintValid_c (c:=c) s39 (RP.mono _ h0_0 (Le.trans hE20 l38)) hx10) ?_
 rintro _ w42 ⟨rfl,hst⟩
 have hst:=k41 hst c0
 exact L_nil ⟨rfl,_,_,rfl,Le.refl _,fun _ _=>rfl,hst⟩
 refine opsS_cons (fun f w_ _ _ _ _ p hst=>mF (p 1 4 rfl rfl) rfl (nO rfl rfl hst)) (opsS_cons (fun f w_ _ _ s _ p hst=>L_lda (cs:=[v0_0,I c.bound]) (g_yes rfl (Eq.trans (p 2 5 rfl rfl) (congrArg Value.bool hc24)) rfl) Tryz.isAgg54 Tryz.sizeOf54 ((s 1 rfl).trans rfl) (At.sub0 (Blk.at (Star.blkAt 0 hst rfl)) 0 2) rfl (nO rfl rfl hst)) (opsS_cons ?_ ?_))
 intro f w_ H20 X20 hS20 hE20 hP20 hst
 obtain ⟨H43b,l44,s45,z46,k47⟩:=hst.borrow
 refine L_call (g_yes rfl (Eq.trans (hP20 2 5 rfl rfl) (congrArg Value.bool hc24)) rfl) Tryz.call51 (ops1 (hP20 3 6 rfl rfl)) (s_l1Total_c (c:=c) s45 (RP.mono _ h0_0 (Le.trans hE20 l44)) hx17) ?_
 rintro _ w48 ⟨rfl,hst⟩
 have hst:=k47 hst c0
 exact L_nil ⟨rfl,_,_,rfl,Le.refl _,fun _ _=>rfl,hst⟩
 refine opsS_cons (fun f w_ _ _ s _ p hst=>L_fa (o':=1) (g_yes rfl (Eq.trans (p 2 5 rfl rfl) (congrArg Value.bool hc24)) rfl) fa_54_1 ((s 1 rfl).trans rfl) rfl (nO rfl rfl hst)) (opsS_cons (fun f w_ _ _ _ _ p hst=>L_ld (v:=I c.bound) (g_yes rfl (Eq.trans (p 2 5 rfl rfl) (congrArg Value.bool hc24)) rfl) Tryz.isAgg3 (p 5 8 rfl rfl) (At.cell0 (Blk.at (Star.blkAt 0 hst rfl)) (j:=1) rfl) (nO rfl rfl hst)) (opsS_nil))
 refine L_lss (g_yes rfl (Eq.trans (hT20 2 5 rfl rfl) (congrArg Value.bool hc24)) rfl) (hT20 4 7 rfl rfl) (hT20 6 9 rfl rfl) (L_pick (v:=Bo b19) rfl (Eq.trans (hT20 2 5 rfl rfl) (congrArg Value.bool hc24)) (congrArg Value.bool (so hb19)) (aB rfl (nn (rj hR23 ⟨H20,hE20,rfl,(Star.keepN 0 hst)⟩))))
 rw [ite_f hc24] at hb19
 refine W_drawS 7 [isV (.agg #[v0_0,I c.bound]),isV (Bo x10),isV (Bo x10),isV (undef),isV (undef),isV (undef),isV (undef)] [box g3 54 #[v0_0,I c.bound]] [] ([]) [([],[]),([],[]),([],[]),([],[]),([],[]),([],[]),([],[])] (S:=[]) Tryz_mix (by kernel_rfl) rfl (by kernel_rfl) (amF_cons (mono_V _) (amF_cons (mono_V _) (amF_cons (mono_V _) (amF_cons (mono_V _) (amF_cons (mono_V _) (amF_cons (mono_V _) (amF_cons (mono_V _) amF_nil))))))) hst ?_ (fun f w_ H20 hS20 hE20 hT20 hst=>?_)
 refine opsS_cons (fun f w_ _ _ s _ _ hst=>L_lda (cs:=[v0_0,I c.bound]) rfl Tryz.isAgg54 Tryz.sizeOf54 ((s 1 rfl).trans rfl) (At.sub0 (Blk.at (Star.blkAt 0 hst rfl)) 0 2) rfl (nO rfl rfl hst)) (opsS_cons ?_ ?_)
 intro f w_ H20 X20 hS20 hE20 hP20 hst
 obtain ⟨H55b,l56,s57,z58,k59⟩:=hst.borrow
 refine L_call rfl Tryz.call43 (ops1 (hP20 0 3 rfl rfl)) (s_ConstraintValid_c (c:=c) s57 (RP.mono _ h0_0 (Le.trans hE20 l56)) hx10) ?_
 rintro _ w60 ⟨rfl,hst⟩
 have hst:=k59 hst c0
 exact L_nil ⟨rfl,_,_,rfl,Le.refl _,fun _ _=>rfl,hst⟩
 refine opsS_cons (fun f w_ _ _ _ _ p hst=>mF (p 1 4 rfl rfl) rfl (nO rfl rfl hst)) (oP (fun _ _ p=>gN (p 2 5 rfl rfl) hc24 rfl) (fun _=>rfl) (oP (fun _ _ p=>gN (p 2 5 rfl rfl) hc24 rfl) (fun _=>rfl) (oP (fun _ _ p=>gN (p 2 5 rfl rfl) hc24 rfl) (fun _=>rfl) (oP (fun _ _ p=>gN (p 2 5 rfl rfl) hc24 rfl) (fun _=>rfl) (opsS_nil)))))
 refine ps (g_no rfl (Eq.trans (hT20 2 5 rfl rfl) (congrArg Value.bool hc24)) rfl rfl) (L_pick (v:=Bo b19) rfl (Eq.trans (hT20 2 5 rfl rfl) (congrArg Value.bool hc24)) (congrArg Value.bool (so hb19)) (aB rfl (nn (rj hR23 ⟨H20,hE20,rfl,(Star.keepN 0 hst)⟩))))
 intro f w_ hR
 obtain ⟨H21,l22,sf2,hst⟩:=rk hR23 hR
 refine W_ret (retG1 (v1:=Bo b19) Tryz.results36 sf2 ?_)
 obtain rfl:=so hF
 exact ⟨rfl,(Star.down hst l22 c0)⟩
theorem s_l4False_c {d : Db} {v0_0 : Value} {v0_1 : Value} {H : FH} {w : World} (hst : Star H w []) (h0_0 : (rS 54 (rCon 83)).rel H [v0_0] d.list) (h0_1 : (rS 4 RP.bool).rel H [v0_1] d.gone) {r : Int} (hF : s_l4False d = some r) :
 C Tryz.prog 19 #[.agg #[v0_0,v0_1]] w fun v w'=>v = I r∧Star H w' []:=by
 unfold s_l4False at hF
 refine C_enter Tryz.func19 rfl Tryz.ntmps19 rfl (sq (L_box (v:=.agg #[v0_0,v0_1]) (cs:=#[v0_0,v0_1]) rfl rfl rfl hst (fun g3 w4 hst=>aI rfl (nq (sq (aI rfl (nn ?_)))))))
 have hlen6 : List.length d.list≤9223372036854775807:=len_le (slice_len h0_0)
 obtain ⟨j6,hL6,hF⟩:=bind_some hF
 obtain ⟨R6,hR6⟩:=exR fun f w_=>j6 = .nx ()∧Star H w_ ([])
 refine W_join R6 ?_ ?_
 refine W_block ?_
 obtain ⟨I6,hI6⟩:=exI fun n f w_=>∃ i_5 : Nat,∃ suf6 : List Con,n = suf6.length∧List.drop i_5 d.list = suf6∧i_5 + suf6.length = d.list.length∧rangeL (s_l4False_b1 d) suf6 i_5 () = some j6∧f 1 = Pt g3∧f 3 = I i_5∧Star H w_ ([box g3 47 #[v0_0,v0_1]])
 refine W_loop I6 (n:=d.list.length) ?_ ?_
 exact ij hI6 ⟨0,d.list,rfl,rfl,Nat.zero_add _,hL6,rfl,rfl,hst⟩
 intro n6 f w_ hI
 obtain ⟨i_5,suf6,rfl,hd6,hl6,hL6,sf1,sf3,hst⟩:=ik hI6 hI
 refine W_seq (sq (mF sf3 rfl (fA 0 fa_47_0 sf1 rfl (ldB 0 hst Tryz.isAgg29 rfl rfl rfl (L_len rfl Tryz.underlying29 rfl (slice_len h0_0) (L_lss rfl rfl rfl (nn (W_cond (b:=decide ((i_5 : Int) < (d.list.length : Int))) rfl (fun hc7=>?_) (fun hc7=>?_)))))))))
 have hlt6:=of_decide_eq_true hc7
 rcases suf6 with _ | ⟨x_6,rest6⟩
 exact absurd hlt6 (by simp at hl6; omega)
 obtain ⟨o6,hB6,hL6⟩:=range_cons hL6
 rw [s_l4False_b1] at hB6
 have hix6:=drop_idx hd6
 refine W_skip (W_seq (W_block (W_seq ?_)))
 obtain ⟨x8,hx8,hB6⟩:=bind_some hB6
 obtain ⟨b24,hb24,hB6⟩:=bind_some hB6
 obtain ⟨R25,hR25⟩:=exR fun f w_=>f 1 = Pt g3∧f 3 = I i_5∧f 24 = Bo b24∧Star H w_ ([box g3 47 #[v0_0,v0_1]])
 refine W_join R25 ?_ ?_
 refine W_region (fA 1 fa_47_1 sf1 rfl (ldB 0 hst Tryz.isAgg45 rfl rfl rfl (mF sf3 rfl (L_ix (r:=RP.bool) rfl Tryz.underlying45 Tryz.sizeOf4 rfl h0_1 rfl hx8 (fun g26 o27 cs_g26 hrk_hat28 hat28=>?_)))))
 obtain rfl : _ = [_]:=hrk_hat28
 refine L_ld rfl Tryz.isAgg4 rfl (At.cell (AtH.at hat28 hst.sub) (j:=0) rfl) (L_not_ rfl rfl (mB rfl (L_split (d:=17) (b:=(!x8)) rfl (fun hc30=>?_) (fun hc30=>?_))))
 rw [ite_t hc30] at hb24
 obtain ⟨x22,hx22,hb24⟩:=bind_some hb24
 refine fA 0 fa_47_0 sf1 rfl (ldB 0 hst Tryz.isAgg29 rfl rfl rfl (mF sf3 rfl (L_ix (r:=(rCon 83)) rfl Tryz.underlying29 Tryz.sizeOf54 rfl h0_0 rfl hix6 (fun g31 o32 cs_g31 hrk_hat33 hat33=>?_))))
 obtain ⟨u34_0,rfl,hu34_0⟩:=rCon_iff.1 hrk_hat33
 refine L_lda (cs:=[u34_0,I x_6.bound]) rfl Tryz.isAgg54 Tryz.sizeOf54 rfl (At.sub (AtH.at hat33 hst.sub) 0 2) rfl ?_
 obtain ⟨H35b,l36,s37,z38,k39⟩:=hst.borrow
 refine L_call rfl Tryz.call36 (ops1 rfl) (s_ConstraintFalse_c (c:=x_6) s37 (RP.mono _ hu34_0 l36) hx22) ?_
 rintro _ w40 ⟨rfl,hst⟩
 have hst:=k39 hst c0
 refine L_pick (v:=Bo b24) rfl rfl (congrArg Value.bool (so hb24)) (nn (rj hR25 ⟨sf1,sf3,rfl,hst⟩))
 rw [ite_f hc30] at hb24
 refine ps rfl (ps rfl (ps rfl (ps rfl (ps rfl (ps rfl (L_pick (v:=Bo b24) rfl rfl (congrArg Value.bool (so hb24)) (nn (rj hR25 ⟨sf1,sf3,rfl,hst⟩))))))))
 intro f w_ hR
 obtain ⟨sf1,sf3,sf24,hst⟩:=rk hR25 hR
 refine W_cond (b:=b24) sf24 (fun hc41=>?_) (fun hc41=>?_)
 have hB6:=(ite_t hc41).symm.trans hB6
 refine sq (mF sf3 rfl (aI rfl (nn (W_ret (retG1 (v1:=I i_5) Tryz.results19 rfl ?_)))))
 obtain rfl:=so hB6
 obtain rfl:=so hL6
 obtain rfl:=so hF
 exact ⟨rfl,(Star.keepN 0 hst)⟩
 have hB6:=(ite_f hc41).symm.trans hB6
 refine W_skip (W_region (mF sf3 rfl (L_add rfl rfl rfl (aI rfl (nn ?_)))))
 obtain rfl:=so hB6
 show ∃ m,m < _∧I6 m _ _
 refine ⟨rest6.length,by simp,?_⟩
 exact ij hI6 ⟨i_5 + 1,rest6,rfl,drop_next hd6,by simp at hl6; omega,hL6,sf1,(Eq.trans rfl (congrArg (Value.int .i64) (i64_succ (n:=d.list.length) (by simp at hl6; omega) hlen6))),hst⟩
 rcases suf6 with _ | ⟨_,_⟩
 obtain rfl:=range_nil hL6
 refine W_exit (rj hR6 ⟨rfl,(Star.keepN 0 hst)⟩)
 exact absurd (of_decide_eq_false hc7) (by simp at hl6; omega)
 intro f w_ hR
 obtain ⟨rfl,hst⟩:=rk hR6 hR
 refine sq (aI rfl (nn (W_ret (retG1 (v1:=I (-1)) Tryz.results19 rfl ?_))))
 obtain rfl:=so hF
 exact ⟨rfl,hst⟩
theorem s_ProblemValid_c {list : List Con} {v0 : Value} {H : FH} {w : World} (hst : Star H w []) (h0 : (rS 54 (rCon 83)).rel H [v0] list) {r : Bool} (hF : s_ProblemValid list = some r) :
 C Tryz.prog 41 #[v0] w fun v w'=>v = Bo r∧Star H w' []:=by
 unfold s_ProblemValid at hF
 refine C_enter Tryz.func41 rfl Tryz.ntmps41 rfl (sq (aB rfl (nq (sq (aI rfl (nn ?_))))))
 have hlen2 : List.length list≤9223372036854775807:=len_le (slice_len h0)
 obtain ⟨j2,hL2,hF⟩:=bind_some hF
 obtain ⟨R2,hR2⟩:=exR fun f w_=>j2 = .nx ()∧f 0 = v0∧Star H w_ ([])
 refine W_join R2 ?_ ?_
 refine W_block ?_
 obtain ⟨I2,hI2⟩:=exI fun n f w_=>∃ i_1 : Nat,∃ suf2 : List Con,n = suf2.length∧List.drop i_1 list = suf2∧i_1 + suf2.length = list.length∧rangeL s_ProblemValid_b1 suf2 i_1 () = some j2∧f 0 = v0∧f 3 = I i_1∧Star H w_ ([])
 refine W_loop I2 (n:=list.length) ?_ ?_
 exact ij hI2 ⟨0,list,rfl,rfl,Nat.zero_add _,hL2,rfl,rfl,hst⟩
 intro n2 f w_ hI
 obtain ⟨i_1,suf2,rfl,hd2,hl2,hL2,sf0,sf3,hst⟩:=ik hI2 hI
 refine W_seq (sq (mF sf3 rfl (mF sf0 rfl (L_len rfl Tryz.underlying29 rfl (slice_len h0) (L_lss rfl rfl rfl (nn (W_cond (b:=decide ((i_1 : Int) < (list.length : Int))) rfl (fun hc3=>?_) (fun hc3=>?_))))))))
 have hlt2:=of_decide_eq_true hc3
 rcases suf2 with _ | ⟨x_2,rest2⟩
 exact absurd hlt2 (by simp at hl2; omega)
 obtain ⟨o2,hB2,hL2⟩:=range_cons hL2
 rw [s_ProblemValid_b1] at hB2
 have hix2:=drop_idx hd2
 refine W_skip (W_seq (W_block (W_seq ?_)))
 obtain ⟨x13,hx13,hB2⟩:=bind_some hB2
 refine W_region (mF sf0 rfl (mF sf3 rfl (L_ix (r:=(rCon 83)) rfl Tryz.underlying29 Tryz.sizeOf54 rfl h0 rfl hix2 (fun g15 o16 cs_g15 hrk_hat17 hat17=>?_))))
 obtain ⟨u18_0,rfl,hu18_0⟩:=rCon_iff.1 hrk_hat17
 refine L_lda (cs:=[u18_0,I x_2.bound]) rfl Tryz.isAgg54 Tryz.sizeOf54 rfl (At.sub (AtH.at hat17 hst.sub) 0 2) rfl ?_
 obtain ⟨H19b,l20,s21,z22,k23⟩:=hst.borrow
 refine L_call rfl Tryz.call43 (ops1 rfl) (s_ConstraintValid_c (c:=x_2) s21 (RP.mono _ hu18_0 l20) hx13) ?_
 rintro _ w24 ⟨rfl,hst⟩
 have hst:=k23 hst c0
 refine L_not_ rfl rfl (nn (W_cond (b:=(!x13)) rfl (fun hc25=>?_) (fun hc25=>?_)))
 have hB2:=(ite_t hc25).symm.trans hB2
 refine sq (aB rfl (nn (W_ret (retG1 (v1:=Bo false) Tryz.results41 rfl ?_))))
 obtain rfl:=so hB2
 obtain rfl:=so hL2
 obtain rfl:=so hF
 exact ⟨rfl,hst⟩
 have hB2:=(ite_f hc25).symm.trans hB2
 refine W_skip (W_region (mF sf3 rfl (L_add rfl rfl rfl (aI rfl (nn ?_)))))
 obtain rfl:=so hB2
 show ∃ m,m < _∧I2 m _ _
 refine ⟨rest2.length,by simp,?_⟩
 exact ij hI2 ⟨i_1 + 1,rest2,rfl,drop_next hd2,by simp at hl2; omega,hL2,sf0,(Eq.trans rfl (congrArg (Value.int .i64) (i64_succ (n:=list.length) (by simp at hl2; omega) hlen2))),hst⟩
 rcases suf2 with _ | ⟨_,_⟩
 obtain rfl:=range_nil hL2
 refine W_exit (rj hR2 ⟨rfl,sf0,hst⟩)
 exact absurd (of_decide_eq_false hc3) (by simp at hl2; omega)
 intro f w_ hR
 obtain ⟨rfl,sf0,hst⟩:=rk hR2 hR
 refine sq (mF sf0 rfl (L_len rfl Tryz.underlying29 rfl (slice_len h0) (L_leq rfl rfl rfl (aB rfl (nn (W_ret (retG1 (v1:=Bo (decide ((list.length : Int)≤400))) Tryz.results41 rfl ?_)))))))
 obtain rfl:=so hF
 exact ⟨rfl,hst⟩
theorem s_l4Fits_c {list : List Con} {steps : List Step} {v0 : Value} {v1 : Value} {H : FH} {w : World} (hst : Star H w []) (h0 : (rS 54 (rCon 83)).rel H [v0] list) (h1 : (rS 56 (rStep 83)).rel H [v1] steps) {r : Bool} (hF : s_l4Fits list steps = some r) :
 C Tryz.prog 32 #[v0,v1] w fun v w'=>v = Bo r∧Star H w' []:=by
 unfold s_l4Fits at hF
 refine C_enter Tryz.func32 rfl Tryz.ntmps32 rfl (sq (aB rfl (nq ?_)))
 obtain ⟨x6,hx6,hF⟩:=bind_some hF
 obtain ⟨R8,hR8⟩:=exR fun f w_=>f 4 = Bo (x6 && (decide ((steps.length : Int)≤1000)))∧Star H w_ ([])
 refine W_join R8 ?_ ?_
 refine W_region (mV v0 rfl ?_)
 obtain ⟨H9b,l10,s11,z12,k13⟩:=hst.borrow
 refine L_call rfl Tryz.call41 (ops1 rfl) (s_ProblemValid_c (list:=list) s11 (RP.mono _ h0 l10) hx6) ?_
 rintro _ w14 ⟨rfl,hst⟩
 have hst:=k13 hst c0
 refine mB rfl (L_split (d:=7) (b:=x6) rfl (fun hc15=>?_) (fun hc15=>?_))
 refine mV v1 rfl (L_len rfl Tryz.underlying26 rfl (slice_len h1) (L_leq rfl rfl rfl (L_pick (v:=Bo (x6 && (decide ((steps.length : Int)≤1000)))) rfl rfl (and_t hc15 rfl) (aB rfl (nn (rj hR8 ⟨rfl,hst⟩))))))
 refine ps rfl (ps rfl (ps rfl (L_pick (v:=Bo (x6 && (decide ((steps.length : Int)≤1000)))) rfl rfl (and_f hc15) (aB rfl (nn (rj hR8 ⟨rfl,hst⟩))))))
 intro f w_ hR
 obtain ⟨sf4,hst⟩:=rk hR8 hR
 refine W_ret (retG1 (v1:=Bo (x6 && (decide ((steps.length : Int)≤1000)))) Tryz.results32 sf4 ?_)
 obtain rfl:=so hF
 exact ⟨rfl,hst⟩
theorem s_CheckRefutation_c {fu : Nat} {list : List Con} {steps : List Step} {v0 : Value} {v1 : Value} {H : FH} {w : World} (hst : Star H w []) (h0 : (rS 54 (rCon 83)).rel H [v0] list) (h1 : (rS 56 (rStep 83)).rel H [v1] steps) {r : Bool} (hF : s_CheckRefutation fu list steps = some r) :
 C Tryz.prog 17 #[v0,v1] w fun v w'=>v = Bo r∧Star H w' []:=by
 unfold s_CheckRefutation at hF
 refine C_enter Tryz.func17 rfl Tryz.ntmps17 rfl (sq (aB rfl (nq (W_seq ?_))))
 obtain ⟨x6,hx6,hF⟩:=bind_some hF
 refine W_region (mV v0 rfl (mV v1 rfl ?_))
 obtain ⟨H8b,l9,s10,z11,k12⟩:=hst.borrow
 refine L_call rfl Tryz.call32 (ops2 rfl rfl) (s_l4Fits_c (list:=list) (steps:=steps) s10 (RP.mono _ h0 l9) (RP.mono _ h1 l9) hx6) ?_
 rintro _ w13 ⟨rfl,hst⟩
 have hst:=k12 hst c0
 refine L_not_ rfl rfl (nn (W_cond (b:=(!x6)) rfl (fun hc14=>?_) (fun hc14=>?_)))
 have hF:=(ite_t hc14).symm.trans hF
 refine sq (aB rfl (nn (W_ret (retG1 (v1:=Bo false) Tryz.results17 rfl ?_))))
 obtain rfl:=so hF
 exact ⟨rfl,hst⟩
 have hF:=(ite_f hc14).symm.trans hF
 refine W_skip (W_seq ?_)
 obtain ⟨x15,hx15,hF⟩:=bind_some hF
 refine W_region (mV v0 rfl (mV v1 rfl (L_call rfl Tryz.call18 (ops2 rfl rfl) (s_l4Run_c (list:=list) (steps:=steps) hst h0 h1 hx15) ?_)))
 rintro _ w22 ⟨H22,l22,r22_0,r22_1,rfl,hst⟩
 refine mV (.tuple #[.agg #[r22_0,r22_1],I x15.2]) rfl (L_ex (v:=.agg #[r22_0,r22_1]) rfl rfl rfl (L_ex (v:=I x15.2) rfl rfl rfl (L_al (cs:=#[S0,S0]) rfl Tryz.zeroValue47 rfl hst (fun g25 w26 hst=>L_staB (vs:=#[r22_0,r22_1]) (cs2:=#[r22_0,r22_1]) 0 rfl Tryz.sizeOf47 rfl rfl rfl (ones_cons (one_len (Star.len 1 hst rfl)) (ones_cons (one_len (Star.len 2 hst rfl)) ones_nil)) hst rfl (by show 0 + 2≤2; decide) rfl (fun w27 hst=>aI rfl (nq ?_))))))
 obtain ⟨b37,hb37,hF⟩:=bind_some hF
 obtain ⟨R38,hR38⟩:=exR fun f w_=>f 4 = Bo b37∧Star H22 w_ ([])
 refine W_join R38 ?_ ?_
 refine W_region (mI rfl (L_lss rfl rfl rfl (mB rfl (L_split (d:=19) (b:=decide (x15.2 < 0)) rfl (fun hc39=>?_) (fun hc39=>?_)))))
 rw [ite_t hc39] at hb37
 obtain ⟨x35,hx35,hb37⟩:=bind_some hb37
 refine L_lda (cs:=[r22_0,r22_1]) rfl Tryz.isAgg47 Tryz.sizeOf47 rfl (At.sub0 (Blk.at (Star.blkAt 0 hst rfl)) 0 2) rfl ?_
 obtain ⟨H40b,l41,s42,z43,k44⟩:=hst.borrow
 have hb45 : (rS 54 (rCon 83)).rel H40b [r22_0] x15.1.list:=fz_own 1 z43 rfl
 have hb46 : (rS 4 RP.bool).rel H40b [r22_1] x15.1.gone:=fz_own 2 z43 rfl
 refine L_call rfl Tryz.call19 (ops1 rfl) (s_l4False_c (d:=x15.1) s42 hb45 hb46 hx35) ?_
 rintro _ w47 ⟨rfl,hst⟩
 have hst:=k44 hst c0
 refine L_geq rfl rfl rfl (L_pick (v:=Bo b37) rfl rfl (congrArg Value.bool (so hb37)) (aB rfl (nn (rj hR38 ⟨rfl,(Star.keepN 0 hst)⟩))))
 rw [ite_f hc39] at hb37
 refine ps rfl (ps rfl (ps rfl (L_pick (v:=Bo b37) rfl rfl (congrArg Value.bool (so hb37)) (aB rfl (nn (rj hR38 ⟨rfl,(Star.keepN 0 hst)⟩))))))
 intro f w_ hR
 obtain ⟨sf4,hst⟩:=rk hR38 hR
 refine W_ret (retG1 (v1:=Bo b37) Tryz.results17 sf4 ?_)
 obtain rfl:=so hF
 exact ⟨rfl,(Star.down hst l22 c0)⟩
theorem s_l4Needs_c {need : List Bool} {s : Step} {at_ : Int} {v0 : Value} {v1_3 : Value} {H : FH} {w : World} (hst : Star H w [oF 4 RP.bool v0 need]) (h1_3 : (rS 83 rTerm).rel H [v1_3] s.given.terms) {r : List Bool} (hF : s_l4Needs need s at_ = some r) :
 C Tryz.prog 20 #[v0,.agg #[I s.kind,I s.a,I s.b,v1_3,I s.given.bound],I at_] w fun v w'=>v = .tuple #[]∧Star H w' [oF 4 RP.bool v0 r]:=by
 unfold s_l4Needs at hF
 refine C_enter Tryz.func20 rfl Tryz.ntmps20 rfl (sq (L_box (v:=.agg #[I s.kind,I s.a,I s.b,v1_3,I s.given.bound]) (cs:=#[I s.kind,I s.a,I s.b,v1_3,I s.given.bound]) rfl rfl rfl hst (fun g3 w4 hst=>ns (fA 0 fa_56_0 rfl rfl (ldB 0 hst Tryz.isAgg3 rfl rfl rfl (nn (W_block (sq (L_eql rfl rfl rfl (aB rfl (nn ?_)))))))))))
 obtain ⟨kp_5,hA6,hF⟩:=bind_some hF
 obtain ⟨R6,hR6⟩:=exR fun f w_=>Star H w_ ([oF 4 RP.bool v0 kp_5])
 refine W_join R6 ?_ ?_
 refine W_cond (b:=(s.kind == 1)) rfl (fun hc7=>?_) (fun hc7=>?_)
 have hA6:=(ite_t hc7).symm.trans hA6
 refine W_seq ?_
 obtain ⟨x8,hx8,hA6⟩:=bind_some hA6
 refine W_region (mV v0 rfl (fA 1 fa_56_1 rfl rfl (ldB 0 hst Tryz.isAgg3 rfl rfl rfl ?_)))
 obtain ⟨g12,cap_g12,hv13,_,_⟩:=Star.row 1 hst rfl hx8
 refine L_ixO (R:=(OR.frz RP.bool)) (tb:=0) 0 rfl Tryz.underlying45 Tryz.sizeOf4 rfl hv13 (by first | rfl | simp) rfl hx8 ?_
 have hst:=Star.addF (r:=RP.bool) (cs:=[Bo true]) (x:=true) hst rfl
 have hst:=hst.gets [2,1] rfl
 refine L_stE1 (u:=Bo true) rfl Tryz.sizeOf4 rfl rfl rfl hv13 hst hx8 (fun w14 hst=>nn ?_)
 obtain ⟨x15,hx15,hA6⟩:=bind_some hA6
 refine W_region (mV v0 rfl (fA 2 fa_56_2 rfl rfl (ldB 1 hst Tryz.isAgg3 rfl rfl rfl (L_ixO (R:=(OR.frz RP.bool)) (tb:=0) 0 rfl Tryz.underlying45 Tryz.sizeOf4 rfl hv13 (by first | rfl | simp) rfl hx15 ?_))))
 have hst:=Star.addF (r:=RP.bool) (cs:=[Bo true]) (x:=true) hst rfl
 refine L_stE1 (u:=Bo true) rfl Tryz.sizeOf4 rfl rfl rfl hv13 hst hx15 (fun w17 hst=>nn ?_)
 obtain rfl:=so hA6
 exact rj hR6 (Star.keepN 1 hst)
 have hA6:=(ite_f hc7).symm.trans hA6
 refine sq (L_eql rfl rfl rfl (aB rfl (nn ?_)))
 obtain ⟨kp_18,hA19,hA6⟩:=bind_some hA6
 obtain ⟨R19,hR19⟩:=exR fun f w_=>Star H w_ ([oF 4 RP.bool v0 kp_18])
 refine W_join R19 ?_ ?_
 refine W_cond (b:=(s.kind == 7)) rfl (fun hc20=>?_) (fun hc20=>?_)
 have hA19:=(ite_t hc20).symm.trans hA19
 refine sq (aI rfl (nn ?_))
 obtain ⟨k24,hk24,hA19⟩:=bind_some hA19
 obtain ⟨j23,hL23,hA19⟩:=bind_some hA19
 obtain ⟨R23,hR23⟩:=exR fun f w_=>∃ need_22 : List Bool,j23 = .nx need_22∧Star H w_ ([oF 4 RP.bool v0 need_22])
 refine W_join R23 ?_ ?_
 refine W_block ?_
 obtain ⟨I23,hI23⟩:=exI fun n f w_=>∃ i_21 : Nat,∃ suf23 : Nat,∃ need_22 : List Bool,suf23 = n∧0≤i_21∧i_21 + suf23 = 0 + k24∧countL s_l4Needs_b1 suf23 i_21 need_22 = some j23∧f 0 = v0∧f 2 = I at_∧f 6 = I i_21∧Star H w_ ([oF 4 RP.bool v0 need_22])
 have hst:=hst.get 1 rfl
 refine W_loop I23 (n:=k24) ?_ ?_
 exact ij hI23 ⟨0,k24,need,rfl,Nat.le_refl _,rfl,hL23,rfl,rfl,rfl,(Star.keepN 1 hst)⟩
 intro n23 f w_ hI
 obtain ⟨i_21,suf23,need_22,rfl,hs23,hl23,hL23,sf0,sf2,sf6,hst⟩:=ik hI23 hI
 refine W_seq (sq (mF sf6 rfl (mF sf2 rfl (L_lss rfl rfl rfl (nn (W_cond (b:=decide ((i_21 : Int) < at_)) rfl (fun hc25=>?_) (fun hc25=>?_)))))))
 have hlt23:=of_decide_eq_true hc25
 rcases suf23 with _ | rest23
 exact absurd hlt23 (cntF_no hl23 hk24)
 obtain ⟨o23,hB23,hL23⟩:=count_succ hL23
 rw [s_l4Needs_b1] at hB23
 refine W_skip (W_seq (W_block ?_))
 obtain ⟨x26,hx26,hB23⟩:=bind_some hB23
 refine W_region (mF sf0 rfl (mF sf6 rfl ?_))
 obtain ⟨g30,cap_g30,hv31,_,_⟩:=Star.row 0 hst rfl hx26
 refine L_ixO (R:=(OR.frz RP.bool)) (tb:=0) 0 rfl Tryz.underlying45 Tryz.sizeOf4 rfl hv31 (by first | rfl | simp) rfl hx26 ?_
 have hst:=Star.addF (r:=RP.bool) (cs:=[Bo true]) (x:=true) hst rfl
 refine L_stE1 (u:=Bo true) rfl Tryz.sizeOf4 rfl rfl rfl hv31 hst hx26 (fun w32 hst=>nn (W_region (mF sf6 rfl (L_add rfl rfl rfl (aI rfl (nn ?_))))))
 obtain rfl:=so hB23
 show ∃ m,m < _∧I23 m _ _
 refine ⟨rest23,Nat.lt_succ_self _,?_⟩
 exact ij hI23 ⟨i_21 + 1,rest23,(need_22.set (Int.toNat (i_21 : Int)) true),rfl,by omega,by omega,hL23,sf0,sf2,(Eq.trans rfl (congrArg (Value.int .i64) (i64_succ (n:=0 + k24) (by omega) (cntF_le hk24)))),hst⟩
 rcases suf23 with _ | _
 obtain rfl:=count_zero hL23
 refine W_exit (rj hR23 ⟨need_22,rfl,hst⟩)
 exact absurd (cntF_yes hs23 hl23 hk24) (of_decide_eq_false hc25)
 intro f w_ hR
 obtain ⟨need_22,rfl,hst⟩:=rk hR23 hR
 obtain rfl:=so hA19
 exact rj hR19 hst
 have hA19:=(ite_f hc20).symm.trans hA19
 refine W_seq (sq (L_eql rfl rfl rfl (aB rfl (nn ?_))))
 obtain ⟨t29_33,hA34,hA19⟩:=bind_some hA19
 obtain ⟨R34,hR34⟩:=exR fun f w_=>f 0 = v0∧f 4 = Pt g3∧f 29 = Bo t29_33∧Star H w_ ([oF 4 RP.bool v0 need,box g3 56 #[I s.kind,I s.a,I s.b,v1_3,I s.given.bound]])
 refine W_join R34 ?_ ?_
 refine W_cond (b:=(s.kind == 2)) rfl (fun hc35=>?_) (fun hc35=>?_)
 have hA34:=(ite_t hc35).symm.trans hA34
 refine W_skip ?_
 obtain rfl:=so hA34
 have hst:=hst.get 1 rfl
 exact rj hR34 ⟨rfl,rfl,rfl,hst⟩
 have hA34:=(ite_f hc35).symm.trans hA34
 refine sq (L_eql rfl rfl rfl (aB rfl (nn ?_)))
 obtain ⟨t29_36,hA37,hA34⟩:=bind_some hA34
 obtain ⟨R37,hR37⟩:=exR fun f w_=>f 0 = v0∧f 4 = Pt g3∧f 29 = Bo t29_36∧Star H w_ ([oF 4 RP.bool v0 need,box g3 56 #[I s.kind,I s.a,I s.b,v1_3,I s.given.bound]])
 refine W_join R37 ?_ ?_
 refine W_cond (b:=(s.kind == 3)) rfl (fun hc38=>?_) (fun hc38=>?_)
 have hA37:=(ite_t hc38).symm.trans hA37
 refine W_skip ?_
 obtain rfl:=so hA37
 have hst:=hst.get 1 rfl
 exact rj hR37 ⟨rfl,rfl,rfl,hst⟩
 have hA37:=(ite_f hc38).symm.trans hA37
 refine sq (L_eql rfl rfl rfl (aB rfl (nn ?_)))
 obtain ⟨t29_39,hA40,hA37⟩:=bind_some hA37
 obtain ⟨R40,hR40⟩:=exR fun f w_=>f 0 = v0∧f 4 = Pt g3∧f 29 = Bo t29_39∧Star H w_ ([oF 4 RP.bool v0 need,box g3 56 #[I s.kind,I s.a,I s.b,v1_3,I s.given.bound]])
 refine W_join R40 ?_ ?_
 refine W_cond (b:=(s.kind == 4)) rfl (fun hc41=>?_) (fun hc41=>?_)
 have hA40:=(ite_t hc41).symm.trans hA40
 refine W_skip ?_
 obtain rfl:=so hA40
 have hst:=hst.get 1 rfl
 exact rj hR40 ⟨rfl,rfl,rfl,hst⟩
 have hA40:=(ite_f hc41).symm.trans hA40
 refine W_region (L_eql rfl rfl rfl (aB rfl (nn ?_)))
 obtain rfl:=so hA40
 have hst:=hst.get 1 rfl
 exact rj hR40 ⟨rfl,rfl,rfl,hst⟩
 intro f w_ hR
 obtain ⟨sf0,sf4,sf29,hst⟩:=rk hR40 hR
 obtain rfl:=so hA37
 exact rj hR37 ⟨sf0,sf4,sf29,hst⟩
 intro f w_ hR
 obtain ⟨sf0,sf4,sf29,hst⟩:=rk hR37 hR
 obtain rfl:=so hA34
 exact rj hR34 ⟨sf0,sf4,sf29,hst⟩
 intro f w_ hR
 obtain ⟨sf0,sf4,sf29,hst⟩:=rk hR34 hR
 obtain ⟨kp_42,hA43,hA19⟩:=bind_some hA19
 obtain ⟨R43,hR43⟩:=exR fun f w_=>Star H w_ ([oF 4 RP.bool v0 kp_42])
 refine W_join R43 ?_ ?_
 refine W_cond (b:=t29_33) sf29 (fun hc44=>?_) (fun hc44=>?_)
 have hA43:=(ite_t hc44).symm.trans hA43
 obtain ⟨x45,hx45,hA43⟩:=bind_some hA43
 refine W_region (mF sf0 rfl (fA 1 fa_56_1 sf4 rfl (ldB 1 hst Tryz.isAgg3 rfl rfl rfl ?_)))
 obtain ⟨g49,cap_g49,hv50,_,_⟩:=Star.row 0 hst rfl hx45
 refine L_ixO (R:=(OR.frz RP.bool)) (tb:=0) 0 rfl Tryz.underlying45 Tryz.sizeOf4 rfl hv50 (by first | rfl | simp) rfl hx45 ?_
 have hst:=Star.addF (r:=RP.bool) (cs:=[Bo true]) (x:=true) hst rfl
 refine L_stE1 (u:=Bo true) rfl Tryz.sizeOf4 rfl rfl rfl hv50 hst hx45 (fun w51 hst=>nn ?_)
 obtain rfl:=so hA43
 exact rj hR43 (Star.keepN 1 hst)
 have hA43:=(ite_f hc44).symm.trans hA43
 refine W_skip ?_
 obtain rfl:=so hA43
 exact rj hR43 (Star.keepN 1 hst)
 intro f w_ hR
 rw [hR43] at hR
 have hst:=hR
 clear hR43
 obtain rfl:=so hA19
 exact rj hR19 hst
 intro f w_ hR
 rw [hR19] at hR
 have hst:=hR
 clear hR19
 obtain rfl:=so hA6
 exact rj hR6 hst
 intro f w_ hR
 rw [hR6] at hR
 have hst:=hR
 clear hR6
 refine ret0 Tryz.results20 ?_
 obtain rfl:=so hF
 exact ⟨rfl,hst⟩
theorem s_TrimProof_c {fu : Nat} {list : List Con} {steps : List Step} {v0 : Value} {v1 : Value} {H : FH} {w : World} (hst : Star H w []) (h0 : (rS 54 (rCon 83)).rel H [v0] list) (h1 : (rS 56 (rStep 83)).rel H [v1] steps) {r : (List Step) × Bool} (hF : s_TrimProof fu list steps = some r) :
 C Tryz.prog 6 #[v0,v1] w fun v w'=>∃ (u1 : Value),v = .tuple #[u1,Bo r.2]∧Star H w' [oS 56 (oStep 83) u1 r.1]:=by
 unfold s_TrimProof at hF
 refine C_enter Tryz.func6 rfl Tryz.ntmps6 rfl (sq (aV S0 rfl (aB rfl (nq (W_seq ?_)))))
 obtain ⟨x6,hx6,hF⟩:=bind_some hF
 refine W_region (mV v0 rfl (mV v1 rfl ?_))
 obtain ⟨H8b,l9,s10,z11,k12⟩:=hst.borrow
 refine L_call rfl Tryz.call17 (ops2 rfl rfl) (s_CheckRefutation_c (list:=list) (steps:=steps) s10 (RP.mono _ h0 l9) (RP.mono _ h1 l9) hx6) ?_
 rintro _ w13 ⟨rfl,hst⟩
 have hst:=k12 hst c0
 refine L_not_ rfl rfl (nn (W_cond (b:=(!x6)) rfl (fun hc14=>?_) (fun hc14=>?_)))
 have hF:=(ite_t hc14).symm.trans hF
 refine sq (L_bs rfl parts0 (bs_26_0  ) hst (fun g18 w19 hst=>?_))
 have hst:=Star.mkRow (R:=(OR.frz (rStep 83))) [] [] 0 hst rfl rfl rfl (by decide)
 refine aV (Sl g18 0 0) rfl (aB rfl (nn (W_ret (retG2 (v1:=(Sl g18 0 0)) (v2:=Bo false) Tryz.results6 rfl rfl ?_))))
 obtain rfl:=so hF
 have hst:=Star.recast (R:=(OR.frz (rStep 83))) (R':=(oStep 83)) rfl hst
 exact ⟨(Sl g18 0 0),rfl,hst⟩
 have hF:=(ite_f hc14).symm.trans hF
 refine W_skip (W_seq ?_)
 obtain ⟨x21,hx21,hF⟩:=bind_some hF
 refine W_region (mV v0 rfl (mV v1 rfl (L_call rfl Tryz.call18 (ops2 rfl rfl) (s_l4Run_c (list:=list) (steps:=steps) hst h0 h1 hx21) ?_)))
 rintro _ w28 ⟨H28,l28,r28_0,r28_1,rfl,hst⟩
 refine mV (.tuple #[.agg #[r28_0,r28_1],I x21.2]) rfl (L_ex (v:=.agg #[r28_0,r28_1]) rfl rfl rfl (L_ex (v:=I x21.2) rfl rfl rfl (L_al (cs:=#[S0,S0]) rfl Tryz.zeroValue47 rfl hst (fun g31 w32 hst=>L_staB (vs:=#[r28_0,r28_1]) (cs2:=#[r28_0,r28_1]) 0 rfl Tryz.sizeOf47 rfl rfl rfl (ones_cons (one_len (Star.len 1 hst rfl)) (ones_cons (one_len (Star.len 2 hst rfl)) ones_nil)) hst rfl (by show 0 + 2≤2; decide) rfl (fun w33 hst=>aI rfl (nq ?_))))))
 obtain ⟨x34,hx34,hF⟩:=bind_some hF
 refine W_region (fA 0 fa_47_0 rfl rfl (ldB 0 hst Tryz.isAgg29 rfl rfl rfl (L_len rfl Tryz.underlying29 rfl (Star.len 1 hst rfl) (L_mk (R:=(OR.frz RP.bool)) (z0:=false) (zc:=[Bo false]) rfl et_45 (by kernel_rfl) (fun _ _=>⟨rfl,rfl⟩) rfl rfl hx34 hst (fun v38 w39 hst=>aV v38 rfl (nq ?_))))))
 obtain ⟨x48,hx48,hF⟩:=bind_some hF
 obtain ⟨x50,hx50,hF⟩:=bind_some hF
 refine W_region (mV v38 rfl (L_lda (cs:=[r28_0,r28_1]) rfl Tryz.isAgg47 Tryz.sizeOf47 rfl (At.sub0 (Blk.at (Star.blkAt 1 hst rfl)) 0 2) rfl ?_))
 obtain ⟨H54b,l55,s56,z57,k58⟩:=hst.borrow
 have hb59 : (rS 54 (rCon 83)).rel H54b [r28_0] x21.1.list:=fz_own 2 z57 rfl
 have hb60 : (rS 4 RP.bool).rel H54b [r28_1] x21.1.gone:=fz_own 3 z57 rfl
 refine L_call rfl Tryz.call19 (ops1 rfl) (s_l4False_c (d:=x21.1) s56 hb59 hb60 hx48) ?_
 rintro _ w61 ⟨rfl,hst⟩
 have hst:=k58 hst c0
 obtain ⟨g62,cap_g62,hv63,_,_⟩:=Star.row 0 hst rfl hx50
 refine L_ixO (R:=(OR.frz RP.bool)) (tb:=0) 0 rfl Tryz.underlying45 Tryz.sizeOf4 rfl hv63 (by first | rfl | simp) rfl hx50 ?_
 have hst:=Star.addF (r:=RP.bool) (cs:=[Bo true]) (x:=true) hst rfl
 refine L_stE1 (u:=Bo true) rfl Tryz.sizeOf4 rfl rfl rfl hv63 hst hx50 (fun w64 hst=>ns (L_bs rfl parts0 (bs_51_0  ) hst (fun g68 w69 hst=>?_)))
 have hst:=Star.mkRow (R:=(OR.frz RP.int)) [] [] 0 hst rfl rfl rfl (by decide)
 refine aV (Sl g68 0 0) rfl (nq (sq (aI rfl (nn ?_))))
 have hlen74 : List.length steps≤9223372036854775807:=len_le (slice_len (RP.mono _ h1 l28))
 obtain ⟨j74,hL74,hF⟩:=bind_some hF
 obtain ⟨R74,hR74⟩:=exR fun f w_=>∃ from__72 : List Int,∃ v72_from_ : Value,j74 = .nx from__72∧f 0 = v0∧f 1 = v1∧f 6 = Pt g31∧f 8 = v38∧f 9 = v72_from_∧Star H28 w_ ([oF 4 RP.bool v38 (x34.set (Int.toNat x48) true),oF 3 RP.int v72_from_ from__72,oF 54 (rCon 83) r28_0 x21.1.list,oF 4 RP.bool r28_1 x21.1.gone,box g31 47 #[r28_0,r28_1]])
 refine W_join R74 ?_ ?_
 refine W_block ?_
 obtain ⟨I74,hI74⟩:=exI fun n f w_=>∃ i_71 : Nat,∃ suf74 : List Step,∃ from__72 : List Int,∃ v72_from_ : Value,n = suf74.length∧List.drop i_71 steps = suf74∧i_71 + suf74.length = steps.length∧rangeL s_TrimProof_b1 suf74 i_71 from__72 = some j74∧f 0 = v0∧f 1 = v1∧f 6 = Pt g31∧f 8 = v38∧f 9 = v72_from_∧f 10 = I i_71∧Star H28 w_ ([oF 4 RP.bool v38 (x34.set (Int.toNat x48) true),oF 3 RP.int v72_from_ from__72,oF 54 (rCon 83) r28_0 x21.1.list,oF 4 RP.bool r28_1 x21.1.gone,box g31 47 #[r28_0,r28_1]])
 have hst:=hst.gets [2,4,4,3,4] rfl
 refine W_loop I74 (n:=steps.length) ?_ ?_
 exact ij hI74 ⟨0,steps,[],(Sl g68 0 0),rfl,rfl,Nat.zero_add _,hL74,rfl,rfl,rfl,rfl,rfl,rfl,hst⟩
 intro n74 f w_ hI
 obtain ⟨i_71,suf74,from__72,v72_from_,rfl,hd74,hl74,hL74,sf0,sf1,sf6,sf8,sf9,sf10,hst⟩:=ik hI74 hI
 refine W_seq (sq (mF sf10 rfl (mF sf1 rfl (L_len rfl Tryz.underlying26 rfl (slice_len (RP.mono _ h1 l28)) (L_lss rfl rfl rfl (nn (W_cond (b:=decide ((i_71 : Int) < (steps.length : Int))) rfl (fun hc75=>?_) (fun hc75=>?_))))))))
 have hlt74:=of_decide_eq_true hc75
 rcases suf74 with _ | ⟨x_74,rest74⟩
 exact absurd hlt74 (by simp at hl74; omega)
 obtain ⟨o74,hB74,hL74⟩:=range_cons hL74
 rw [s_TrimProof_b1] at hB74
 have hix74:=drop_idx hd74
 refine W_skip (W_seq (W_block (sq (mF sf1 rfl (mF sf10 rfl (L_ix (r:=(rStep 83)) rfl Tryz.underlying26 Tryz.sizeOf56 rfl (RP.mono _ h1 l28) rfl hix74 (fun g80 o81 cs_g80 hrk_hat82 hat82=>?_)))))))
 obtain ⟨u83_0,rfl,hu83_0⟩:=rStep_iff.1 hrk_hat82
 refine fA o81 fa_56_0 rfl rfl (L_ld rfl Tryz.isAgg3 rfl (At.cell (AtH.at hat82 hst.sub) (j:=0) rfl) (L_neq rfl rfl rfl (nn ?_)))
 obtain ⟨from__84,hA86,hB74⟩:=bind_some hB74
 obtain ⟨R86,hR86⟩:=exR fun f w_=>∃ v84_from_ : Value,f 0 = v0∧f 1 = v1∧f 6 = Pt g31∧f 8 = v38∧f 9 = v84_from_∧f 10 = I i_71∧Star H28 w_ ([oF 4 RP.bool v38 (x34.set (Int.toNat x48) true),oF 3 RP.int v84_from_ from__84,oF 54 (rCon 83) r28_0 x21.1.list,oF 4 RP.bool r28_1 x21.1.gone,box g31 47 #[r28_0,r28_1]])
 refine W_join R86 ?_ ?_
 refine W_cond (b:=(x_74.kind != 8)) rfl (fun hc87=>?_) (fun hc87=>?_)
 have hA86:=(ite_t hc87).symm.trans hA86
 obtain ⟨x91,hx91,hA86⟩:=bind_some hA86
 refine W_region (mF sf9 rfl (mF sf10 rfl (L_bs rfl (parts1 rfl) (bs_51_1_0 (I i_71) rfl) hst (fun g95 w96 hst=>?_))))
 have hst:=Star.addF (r:=RP.int) (cs:=[I i_71]) (x:=(i_71 : Int)) hst rfl
 have hst:=Star.mkRow (R:=(OR.frz RP.int)) [([I i_71],(i_71 : Int))] [(i_71 : Int)] 1 hst rfl rfl rfl (by decide)
 have hst:=hst.get 2 rfl
 refine L_appM (v:=v72_from_) (u:=(Sl g95 1 1)) rfl et_51 rfl rfl hst hx91 (fun v98 w99 hst=>aV v98 rfl (nn ?_))
 obtain rfl:=so hA86
 have hst:=hst.gets [4,4,4,3,4] rfl
 exact rj hR86 ⟨v98,sf0,sf1,sf6,sf8,rfl,sf10,hst⟩
 have hA86:=(ite_f hc87).symm.trans hA86
 refine W_skip ?_
 obtain rfl:=so hA86
 exact rj hR86 ⟨v72_from_,sf0,sf1,sf6,sf8,sf9,sf10,hst⟩
 intro f w_ hR
 obtain ⟨v84_from_,sf0,sf1,sf6,sf8,sf9,sf10,hst⟩:=rk hR86 hR
 refine W_region (mF sf10 rfl (L_add rfl rfl rfl (aI rfl (nn ?_))))
 obtain rfl:=so hB74
 show ∃ m,m < _∧I74 m _ _
 refine ⟨rest74.length,by simp,?_⟩
 exact ij hI74 ⟨i_71 + 1,rest74,from__84,v84_from_,rfl,drop_next hd74,by simp at hl74; omega,hL74,sf0,sf1,sf6,sf8,sf9,(Eq.trans rfl (congrArg (Value.int .i64) (i64_succ (n:=steps.length) (by simp at hl74; omega) hlen74))),hst⟩
 rcases suf74 with _ | ⟨_,_⟩
 obtain rfl:=range_nil hL74
 refine W_exit (rj hR74 ⟨from__72,v72_from_,rfl,sf0,sf1,sf6,sf8,sf9,hst⟩)
 exact absurd (of_decide_eq_false hc75) (by simp at hl74; omega)
 intro f w_ hR
 obtain ⟨from__72,v72_from_,rfl,sf0,sf1,sf6,sf8,sf9,hst⟩:=rk hR74 hR
 refine sq (mF sf0 rfl (L_len rfl Tryz.underlying29 rfl (slice_len (RP.mono _ h0 l28)) (aI rfl (nq (sq (fA 0 fa_47_0 sf6 rfl (ldB 4 hst Tryz.isAgg29 rfl rfl rfl (L_len rfl Tryz.underlying29 rfl (Star.len 2 hst rfl) (L_sub rfl rfl rfl (aI rfl (nn ?_)))))))))))
 obtain ⟨j104,hL104,hF⟩:=bind_some hF
 obtain ⟨R104,hR104⟩:=exR fun f w_=>∃ need_102 : List Bool,∃ k_103 : Int,j104 = .nx (need_102,k_103)∧f 1 = v1∧f 6 = Pt g31∧f 8 = v38∧f 9 = v72_from_∧f 11 = I (list.length : Int)∧Star H28 w_ ([oF 4 RP.bool v38 need_102,oF 3 RP.int v72_from_ from__72,oF 54 (rCon 83) r28_0 x21.1.list,oF 4 RP.bool r28_1 x21.1.gone,box g31 47 #[r28_0,r28_1]])
 refine W_join R104 ?_ ?_
 refine W_block ?_
 obtain ⟨I104,hI104⟩:=exI fun n f w_=>∃ need_102 : List Bool,∃ k_103 : Int,whileL (s_TrimProof_b2 list steps from__72) n (need_102,k_103) = some j104∧f 1 = v1∧f 6 = Pt g31∧f 8 = v38∧f 9 = v72_from_∧f 11 = I (list.length : Int)∧f 12 = I k_103∧Star H28 w_ ([oF 4 RP.bool v38 need_102,oF 3 RP.int v72_from_ from__72,oF 54 (rCon 83) r28_0 x21.1.list,oF 4 RP.bool r28_1 x21.1.gone,box g31 47 #[r28_0,r28_1]])
 refine W_loop I104 (n:=fu) ?_ ?_
 exact ij hI104 ⟨(x34.set (Int.toNat x48) true),i64 ((x21.1.list.length : Int) - 1),hL104,sf1,sf6,sf8,sf9,rfl,rfl,hst⟩
 intro n104 f w_ hI
 obtain ⟨need_102,k_103,hL104,sf1,sf6,sf8,sf9,sf11,sf12,hst⟩:=ik hI104 hI
 rcases n104 with _ | n104
 exact (while_zero hL104).elim
 obtain ⟨o104,hB104,hL104⟩:=while_succ hL104
 rw [s_TrimProof_b2] at hB104
 refine W_seq (sq (mF sf12 rfl (mF sf11 rfl (L_geq rfl rfl rfl (nn (W_cond (b:=decide (k_103 ≥ (list.length : Int))) rfl (fun hc105=>?_) (fun hc105=>?_)))))))
 have hB104:=(ite_t hc105).symm.trans hB104
 refine W_skip (W_seq (W_block (W_seq ?_)))
 obtain ⟨x106,hx106,hB104⟩:=bind_some hB104
 refine W_region (mF sf8 rfl (mF sf12 rfl ?_))
 obtain ⟨g111,cap_g111,hv112,_,_⟩:=Star.row 0 hst rfl hx106
 refine L_ixO (R:=(OR.frz RP.bool)) (tb:=0) 0 rfl Tryz.underlying45 Tryz.sizeOf4 rfl hv112 (by first | rfl | simp) rfl hx106 ?_
 obtain ⟨cs113,hr113,hat113⟩:=Star.eltF 0 hst rfl hv112 hx106
 obtain rfl : _ = [_]:=hr113
 refine L_ld rfl Tryz.isAgg4 rfl (At.cell hat113 (j:=0) rfl) (nn ?_)
 obtain ⟨need_115,hA116,hB104⟩:=bind_some hB104
 obtain ⟨R116,hR116⟩:=exR fun f w_=>f 1 = v1∧f 6 = Pt g31∧f 8 = v38∧f 9 = v72_from_∧f 11 = I (list.length : Int)∧f 12 = I k_103∧Star H28 w_ ([oF 4 RP.bool v38 need_115,oF 3 RP.int v72_from_ from__72,oF 54 (rCon 83) r28_0 x21.1.list,oF 4 RP.bool r28_1 x21.1.gone,box g31 47 #[r28_0,r28_1]])
 refine W_join R116 ?_ ?_
 refine W_cond (b:=x106) rfl (fun hc117=>?_) (fun hc117=>?_)
 have hA116:=(ite_t hc117).symm.trans hA116
 obtain ⟨x118,hx118,hA116⟩:=bind_some hA116
 obtain ⟨x123,hx123,hA116⟩:=bind_some hA116
 obtain ⟨x133,hx133,hA116⟩:=bind_some hA116
 refine W_region (mF sf8 rfl (mF sf1 rfl (mF sf9 rfl (mF sf12 rfl (mF sf11 rfl (L_sub rfl rfl rfl ?_))))))
 obtain ⟨g135,cap_g135,hv136,_,_⟩:=Star.row 1 hst rfl hx118
 refine L_ixO (R:=(OR.frz RP.int)) (tb:=0) 0 rfl Tryz.underlying51 Tryz.sizeOf3 rfl hv136 (by first | rfl | simp) rfl hx118 ?_
 obtain ⟨cs137,hr137,hat137⟩:=Star.eltF 1 hst rfl hv136 hx118
 obtain rfl : _ = [_]:=hr137
 refine L_ld rfl Tryz.isAgg3 rfl (At.cell hat137 (j:=0) rfl) (L_ix (r:=(rStep 83)) rfl Tryz.underlying26 Tryz.sizeOf56 rfl (RP.mono _ h1 l28) rfl hx123 (fun g139 o140 cs_g139 hrk_hat141 hat141=>?_))
 obtain ⟨u142_0,rfl,hu142_0⟩:=rStep_iff.1 hrk_hat141
 refine L_lda (cs:=[I x123.kind,I x123.a,I x123.b,u142_0,I x123.given.bound]) rfl Tryz.isAgg56 Tryz.sizeOf56 rfl (At.sub (AtH.at hat141 hst.sub) 0 5) rfl (mF sf12 rfl ?_)
 obtain ⟨H143b,l144,s145,z146,k147⟩:=hst.lend [_]
 refine L_call rfl Tryz.call20 (ops3 rfl rfl rfl) (s_l4Needs_c (need:=need_102) (s:=x123) (at_:=k_103) s145 (RP.mono _ hu142_0 l144) hx133) ?_
 rintro _ w148 ⟨rfl,hst⟩
 have hst:=k147 hst (co closed_bool c0)
 refine nn ?_
 obtain rfl:=so hA116
 exact rj hR116 ⟨sf1,sf6,sf8,sf9,sf11,sf12,hst⟩
 have hA116:=(ite_f hc117).symm.trans hA116
 refine W_skip ?_
 obtain rfl:=so hA116
 exact rj hR116 ⟨sf1,sf6,sf8,sf9,sf11,sf12,hst⟩
 intro f w_ hR
 obtain ⟨sf1,sf6,sf8,sf9,sf11,sf12,hst⟩:=rk hR116 hR
 refine W_region (mF sf12 rfl (L_sub rfl rfl rfl (aI rfl (nn ?_))))
 obtain rfl:=so hB104
 show ∃ m,m < _∧I104 m _ _
 refine ⟨n104,Nat.lt_succ_self _,?_⟩
 exact ij hI104 ⟨need_115,i64 (k_103 - 1),hL104,sf1,sf6,sf8,sf9,sf11,rfl,hst⟩
 have hB104:=(ite_f hc105).symm.trans hB104
 refine W_exit ?_
 obtain rfl:=so hB104
 obtain rfl:=so hL104
 exact rj hR104 ⟨need_102,k_103,rfl,sf1,sf6,sf8,sf9,sf11,hst⟩
 intro f w_ hR
 obtain ⟨need_102,k_103,rfl,sf1,sf6,sf8,sf9,sf11,hst⟩:=rk hR104 hR
 refine sq (L_bs rfl parts0 (bs_51_0  ) hst (fun g152 w153 hst=>?_))
 have hst:=Star.mkRow (R:=(OR.frz RP.int)) [] [] 0 hst rfl rfl rfl (by decide)
 refine aV (Sl g152 0 0) rfl (ns (aI rfl (nq (sq (aI rfl (nn ?_))))))
 have hlen159 : List.length x21.1.list≤9223372036854775807:=len_le (Star.len 3 hst rfl)
 obtain ⟨j159,hL159,hF⟩:=bind_some hF
 obtain ⟨R159,hR159⟩:=exR fun f w_=>∃ at__156 : List Int,∃ next_158 : Int,∃ v156_at_ : Value,j159 = .nx (at__156,next_158)∧f 1 = v1∧f 6 = Pt g31∧f 8 = v38∧f 9 = v72_from_∧f 11 = I (list.length : Int)∧f 13 = v156_at_∧Star H28 w_ ([oF 4 RP.bool v38 need_102,oF 3 RP.int v72_from_ from__72,oF 3 RP.int v156_at_ at__156,oF 54 (rCon 83) r28_0 x21.1.list,oF 4 RP.bool r28_1 x21.1.gone,box g31 47 #[r28_0,r28_1]])
 refine W_join R159 ?_ ?_
 refine W_block ?_
 obtain ⟨I159,hI159⟩:=exI fun n f w_=>∃ i_155 : Nat,∃ suf159 : List Con,∃ at__156 : List Int,∃ next_158 : Int,∃ v156_at_ : Value,n = suf159.length∧List.drop i_155 x21.1.list = suf159∧i_155 + suf159.length = x21.1.list.length∧rangeL (s_TrimProof_b3 list need_102) suf159 i_155 (at__156,next_158) = some j159∧f 1 = v1∧f 6 = Pt g31∧f 8 = v38∧f 9 = v72_from_∧f 11 = I (list.length : Int)∧f 13 = v156_at_∧f 14 = I next_158∧f 15 = I i_155∧Star H28 w_ ([oF 4 RP.bool v38 need_102,oF 3 RP.int v72_from_ from__72,oF 3 RP.int v156_at_ at__156,oF 54 (rCon 83) r28_0 x21.1.list,oF 4 RP.bool r28_1 x21.1.gone,box g31 47 #[r28_0,r28_1]])
 have hst:=hst.gets [5,5,5,3,5,5] rfl
 refine W_loop I159 (n:=x21.1.list.length) ?_ ?_
 exact ij hI159 ⟨0,x21.1.list,[],0,(Sl g152 0 0),rfl,rfl,Nat.zero_add _,hL159,sf1,sf6,sf8,sf9,sf11,rfl,rfl,rfl,hst⟩
 intro n159 f w_ hI
 obtain ⟨i_155,suf159,at__156,next_158,v156_at_,rfl,hd159,hl159,hL159,sf1,sf6,sf8,sf9,sf11,sf13,sf14,sf15,hst⟩:=ik hI159 hI
 refine W_seq (sq (mF sf15 rfl (fA 0 fa_47_0 sf6 rfl (ldB 5 hst Tryz.isAgg29 rfl rfl rfl (L_len rfl Tryz.underlying29 rfl (Star.len 3 hst rfl) (L_lss rfl rfl rfl (nn (W_cond (b:=decide ((i_155 : Int) < (x21.1.list.length : Int))) rfl (fun hc160=>?_) (fun hc160=>?_)))))))))
 have hlt159:=of_decide_eq_true hc160
 rcases suf159 with _ | ⟨x_159,rest159⟩
 exact absurd hlt159 (by simp at hl159; omega)
 obtain ⟨o159,hB159,hL159⟩:=range_cons hL159
 rw [s_TrimProof_b3] at hB159
 have hix159:=drop_idx hd159
 refine W_skip (W_seq (W_block (W_seq ?_)))
 obtain ⟨x164,hx164,hB159⟩:=bind_some hB159
 refine W_region (mF sf13 rfl (mF sf14 rfl (L_bs rfl (parts1 rfl) (bs_51_1_0 (I next_158) rfl) hst (fun g168 w169 hst=>?_))))
 have hst:=Star.addF (r:=RP.int) (cs:=[I next_158]) (x:=next_158) hst rfl
 have hst:=Star.mkRow (R:=(OR.frz RP.int)) [([I next_158],next_158)] [next_158] 1 hst rfl rfl rfl (by decide)
 have hst:=hst.get 3 rfl
 refine L_appM (v:=v156_at_) (u:=(Sl g168 1 1)) rfl et_51 rfl rfl hst hx164 (fun v171 w172 hst=>aV v171 rfl (nq ?_))
 obtain ⟨b179,hb179,hB159⟩:=bind_some hB159
 obtain ⟨R180,hR180⟩:=exR fun f w_=>f 1 = v1∧f 6 = Pt g31∧f 8 = v38∧f 9 = v72_from_∧f 11 = I (list.length : Int)∧f 13 = v171∧f 14 = I next_158∧f 15 = I i_155∧f 102 = Bo b179∧Star H28 w_ ([oF 4 RP.bool v38 need_102,oF 3 RP.int v72_from_ from__72,oF 3 RP.int v171 x164,oF 54 (rCon 83) r28_0 x21.1.list,oF 4 RP.bool r28_1 x21.1.gone,box g31 47 #[r28_0,r28_1]])
 refine W_join R180 ?_ ?_
 refine W_region (mF sf15 rfl (mF sf11 rfl (L_lss rfl rfl rfl (mB rfl (L_split (d:=97) (b:=decide ((i_155 : Int) < (list.length : Int))) rfl (fun hc181=>?_) (fun hc181=>?_))))))
 rw [ite_t hc181] at hb179
 refine ps rfl (ps rfl (ps rfl (ps rfl (L_pick (v:=Bo b179) rfl rfl (congrArg Value.bool (so hb179)) (nn ?_)))))
 have hst:=hst.gets [5,5,5,3,5,5] rfl
 exact rj hR180 ⟨sf1,sf6,sf8,sf9,sf11,rfl,sf14,sf15,rfl,hst⟩
 rw [ite_f hc181] at hb179
 obtain ⟨x174,hx174,hb179⟩:=bind_some hb179
 refine mF sf8 rfl (mF sf15 rfl ?_)
 obtain ⟨g182,cap_g182,hv183,_,_⟩:=Star.row 1 hst rfl hx174
 refine L_ixO (R:=(OR.frz RP.bool)) (tb:=0) 0 rfl Tryz.underlying45 Tryz.sizeOf4 rfl hv183 (by first | rfl | simp) rfl hx174 ?_
 obtain ⟨cs184,hr184,hat184⟩:=Star.eltF 1 hst rfl hv183 hx174
 obtain rfl : _ = [_]:=hr184
 refine L_ld rfl Tryz.isAgg4 rfl (At.cell hat184 (j:=0) rfl) (L_pick (v:=Bo b179) rfl rfl (congrArg Value.bool (so hb179)) (nn ?_))
 have hst:=hst.gets [5,5,5,3,5,5] rfl
 exact rj hR180 ⟨sf1,sf6,sf8,sf9,sf11,rfl,sf14,sf15,rfl,hst⟩
 intro f w_ hR
 obtain ⟨sf1,sf6,sf8,sf9,sf11,sf13,sf14,sf15,sf102,hst⟩:=rk hR180 hR
 obtain ⟨next_186,hA187,hB159⟩:=bind_some hB159
 obtain ⟨R187,hR187⟩:=exR fun f w_=>f 1 = v1∧f 6 = Pt g31∧f 8 = v38∧f 9 = v72_from_∧f 11 = I (list.length : Int)∧f 13 = v171∧f 14 = I next_186∧f 15 = I i_155∧Star H28 w_ ([oF 4 RP.bool v38 need_102,oF 3 RP.int v72_from_ from__72,oF 3 RP.int v171 x164,oF 54 (rCon 83) r28_0 x21.1.list,oF 4 RP.bool r28_1 x21.1.gone,box g31 47 #[r28_0,r28_1]])
 refine W_join R187 ?_ ?_
 refine W_cond (b:=b179) sf102 (fun hc188=>?_) (fun hc188=>?_)
 have hA187:=(ite_t hc188).symm.trans hA187
 refine W_region (mF sf14 rfl (L_add rfl rfl rfl (aI rfl (nn ?_))))
 obtain rfl:=so hA187
 exact rj hR187 ⟨sf1,sf6,sf8,sf9,sf11,sf13,rfl,sf15,hst⟩
 have hA187:=(ite_f hc188).symm.trans hA187
 refine W_skip ?_
 obtain rfl:=so hA187
 exact rj hR187 ⟨sf1,sf6,sf8,sf9,sf11,sf13,sf14,sf15,hst⟩
 intro f w_ hR
 obtain ⟨sf1,sf6,sf8,sf9,sf11,sf13,sf14,sf15,hst⟩:=rk hR187 hR
 refine W_region (mF sf15 rfl (L_add rfl rfl rfl (aI rfl (nn ?_))))
 obtain rfl:=so hB159
 show ∃ m,m < _∧I159 m _ _
 refine ⟨rest159.length,by simp,?_⟩
 exact ij hI159 ⟨i_155 + 1,rest159,x164,next_186,v171,rfl,drop_next hd159,by simp at hl159; omega,hL159,sf1,sf6,sf8,sf9,sf11,sf13,sf14,(Eq.trans rfl (congrArg (Value.int .i64) (i64_succ (n:=x21.1.list.length) (by simp at hl159; omega) hlen159))),hst⟩
 rcases suf159 with _ | ⟨_,_⟩
 obtain rfl:=range_nil hL159
 refine W_exit (rj hR159 ⟨at__156,next_158,v156_at_,rfl,sf1,sf6,sf8,sf9,sf11,sf13,hst⟩)
 exact absurd (of_decide_eq_false hc160) (by simp at hl159; omega)
 intro f w_ hR
 obtain ⟨at__156,next_158,v156_at_,rfl,sf1,sf6,sf8,sf9,sf11,sf13,hst⟩:=rk hR159 hR
 refine sq (L_bs rfl parts0 (bs_26_0  ) hst (fun g192 w193 hst=>?_))
 have hst:=Star.mkRow (R:=(OR.frz (rStep 83))) [] [] 0 hst rfl rfl rfl (by decide)
 refine aV (Sl g192 0 0) rfl (nq (sq (mF sf11 rfl (aI rfl (nn ?_)))))
 obtain ⟨j199,hL199,hF⟩:=bind_some hF
 obtain ⟨R199,hR199⟩:=exR fun f w_=>∃ out_196 : List Step,∃ k_198 : Int,∃ v196_out : Value,j199 = .nx (out_196,k_198)∧f 16 = v196_out∧Star H28 w_ ([oS 56 (oStep 83) v196_out out_196])
 refine W_join R199 ?_ ?_
 refine W_block ?_
 obtain ⟨I199,hI199⟩:=exI fun n f w_=>∃ out_196 : List Step,∃ k_198 : Int,∃ v196_out : Value,whileL (s_TrimProof_b4 list steps x21 from__72 need_102 at__156) n (out_196,k_198) = some j199∧f 1 = v1∧f 6 = Pt g31∧f 8 = v38∧f 9 = v72_from_∧f 11 = I (list.length : Int)∧f 13 = v156_at_∧f 16 = v196_out∧f 17 = I k_198∧Star H28 w_ ([oF 4 RP.bool v38 need_102,oF 3 RP.int v72_from_ from__72,oF 3 RP.int v156_at_ at__156,oS 56 (oStep 83) v196_out out_196,oF 54 (rCon 83) r28_0 x21.1.list,oF 4 RP.bool r28_1 x21.1.gone,box g31 47 #[r28_0,r28_1]])
 have hst:=Star.recast (R:=(OR.frz (rStep 83))) (R':=(oStep 83)) rfl hst
 have hst:=hst.gets [6,6,6,3,6,6,6] rfl
 refine W_loop I199 (n:=fu) ?_ ?_
 exact ij hI199 ⟨[],(list.length : Int),(Sl g192 0 0),hL199,sf1,sf6,sf8,sf9,sf11,sf13,rfl,rfl,hst⟩
 intro n199 f w_ hI
 obtain ⟨out_196,k_198,v196_out,hL199,sf1,sf6,sf8,sf9,sf11,sf13,sf16,sf17,hst⟩:=ik hI199 hI
 rcases n199 with _ | n199
 exact (while_zero hL199).elim
 obtain ⟨o199,hB199,hL199⟩:=while_succ hL199
 rw [s_TrimProof_b4] at hB199
 refine W_seq (sq (mF sf17 rfl (fA 0 fa_47_0 sf6 rfl (ldB 6 hst Tryz.isAgg29 rfl rfl rfl (L_len rfl Tryz.underlying29 rfl (Star.len 4 hst rfl) (L_lss rfl rfl rfl (nn (W_cond (b:=decide (k_198 < (x21.1.list.length : Int))) rfl (fun hc200=>?_) (fun hc200=>?_)))))))))
 have hB199:=(ite_t hc200).symm.trans hB199
 refine W_skip (W_seq (W_block (W_seq ?_)))
 obtain ⟨x201,hx201,hB199⟩:=bind_some hB199
 refine W_region (mF sf8 rfl (mF sf17 rfl ?_))
 obtain ⟨g206,cap_g206,hv207,_,_⟩:=Star.row 0 hst rfl hx201
 refine L_ixO (R:=(OR.frz RP.bool)) (tb:=0) 0 rfl Tryz.underlying45 Tryz.sizeOf4 rfl hv207 (by first | rfl | simp) rfl hx201 ?_
 obtain ⟨cs208,hr208,hat208⟩:=Star.eltF 0 hst rfl hv207 hx201
 obtain rfl : _ = [_]:=hr208
 refine L_ld rfl Tryz.isAgg4 rfl (At.cell hat208 (j:=0) rfl) (nn ?_)
 obtain ⟨out_210,hA212,hB199⟩:=bind_some hB199
 obtain ⟨R212,hR212⟩:=exR fun f w_=>∃ v210_out : Value,f 1 = v1∧f 6 = Pt g31∧f 8 = v38∧f 9 = v72_from_∧f 11 = I (list.length : Int)∧f 13 = v156_at_∧f 16 = v210_out∧f 17 = I k_198∧Star H28 w_ ([oF 4 RP.bool v38 need_102,oF 3 RP.int v72_from_ from__72,oF 3 RP.int v156_at_ at__156,oS 56 (oStep 83) v210_out out_210,oF 54 (rCon 83) r28_0 x21.1.list,oF 4 RP.bool r28_1 x21.1.gone,box g31 47 #[r28_0,r28_1]])
 refine W_join R212 ?_ ?_
 refine W_cond (b:=x201) rfl (fun hc213=>?_) (fun hc213=>?_)
 have hA212:=(ite_t hc213).symm.trans hA212
 refine W_seq ?_
 obtain ⟨x214,hx214,hA212⟩:=bind_some hA212
 obtain ⟨x219,hx219,hA212⟩:=bind_some hA212
 refine W_region (mF sf1 rfl (mF sf9 rfl (mF sf17 rfl (mF sf11 rfl (L_sub rfl rfl rfl ?_)))))
 obtain ⟨g227,cap_g227,hv228,_,_⟩:=Star.row 1 hst rfl hx214
 refine L_ixO (R:=(OR.frz RP.int)) (tb:=0) 0 rfl Tryz.underlying51 Tryz.sizeOf3 rfl hv228 (by first | rfl | simp) rfl hx214 ?_
 obtain ⟨cs229,hr229,hat229⟩:=Star.eltF 1 hst rfl hv228 hx214
 obtain rfl : _ = [_]:=hr229
 refine L_ld rfl Tryz.isAgg3 rfl (At.cell hat229 (j:=0) rfl) (L_ix (r:=(rStep 83)) rfl Tryz.underlying26 Tryz.sizeOf56 rfl (RP.mono _ h1 l28) rfl hx219 (fun g231 o232 cs_g231 hrk_hat233 hat233=>?_))
 obtain ⟨u234_0,rfl,hu234_0⟩:=rStep_iff.1 hrk_hat233
 refine L_lda (cs:=[I x219.kind,I x219.a,I x219.b,u234_0,I x219.given.bound]) rfl Tryz.isAgg56 Tryz.sizeOf56 rfl (At.sub (AtH.at hat233 hst.sub) 0 5) rfl (L_al (cs:=#[I 0,I 0,I 0,S0,I 0]) rfl Tryz.zeroValue56 rfl hst (fun g235 w236 hst=>L_staB (vs:=#[I x219.kind,I x219.a,I x219.b,u234_0,I x219.given.bound]) (cs2:=#[I x219.kind,I x219.a,I x219.b,u234_0,I x219.given.bound]) 0 rfl Tryz.sizeOf56 rfl rfl rfl (ones_cons rfl (ones_cons rfl (ones_cons rfl (ones_cons (one_len (slice_len hu234_0)) (ones_cons rfl ones_nil))))) hst rfl (by show 0 + 5≤5; decide) rfl (fun w237 hst=>nq (W_seq ?_))))
 obtain ⟨R238,hR238⟩:=exR fun f w_=>f 1 = v1∧f 6 = Pt g31∧f 8 = v38∧f 9 = v72_from_∧f 11 = I (list.length : Int)∧f 13 = v156_at_∧f 16 = v196_out∧f 17 = I k_198∧f 18 = Pt g235∧f 134 = Bo ((x219.kind != 6) && (x219.kind != 7))∧Star H28 w_ ([oF 4 RP.bool v38 need_102,oF 3 RP.int v72_from_ from__72,oF 3 RP.int v156_at_ at__156,oS 56 (oStep 83) v196_out out_196,box g235 56 #[I x219.kind,I x219.a,I x219.b,u234_0,I x219.given.bound],oF 54 (rCon 83) r28_0 x21.1.list,oF 4 RP.bool r28_1 x21.1.gone,box g31 47 #[r28_0,r28_1]])
 refine W_join R238 ?_ ?_
 refine W_region (fA 0 fa_56_0 rfl rfl (ldB 0 hst Tryz.isAgg3 rfl rfl rfl (L_neq rfl rfl rfl (mB rfl (L_split (d:=130) (b:=(x219.kind != 6)) rfl (fun hc239=>?_) (fun hc239=>?_))))))
 refine fA 0 fa_56_0 rfl rfl (ldB 0 hst Tryz.isAgg3 rfl rfl rfl (L_neq rfl rfl rfl (L_pick (v:=Bo ((x219.kind != 6) && (x219.kind != 7))) rfl rfl (and_t hc239 rfl) (nn ?_))))
 have hst:=hst.gets [7,7,7,3,7,7,7,7] rfl
 exact rj hR238 ⟨sf1,sf6,sf8,sf9,sf11,sf13,sf16,sf17,rfl,rfl,hst⟩
 refine ps rfl (ps rfl (ps rfl (L_pick (v:=Bo ((x219.kind != 6) && (x219.kind != 7))) rfl rfl (and_f hc239) (nn ?_))))
 have hst:=hst.gets [7,7,7,3,7,7,7,7] rfl
 exact rj hR238 ⟨sf1,sf6,sf8,sf9,sf11,sf13,sf16,sf17,rfl,rfl,hst⟩
 intro f w_ hR
 obtain ⟨sf1,sf6,sf8,sf9,sf11,sf13,sf16,sf17,sf18,sf134,hst⟩:=rk hR238 hR
 obtain ⟨g235_1_240,hA241,hA212⟩:=bind_some hA212
 obtain ⟨R241,hR241⟩:=exR fun f w_=>f 1 = v1∧f 6 = Pt g31∧f 8 = v38∧f 9 = v72_from_∧f 11 = I (list.length : Int)∧f 13 = v156_at_∧f 16 = v196_out∧f 17 = I k_198∧f 18 = Pt g235∧Star H28 w_ ([oF 4 RP.bool v38 need_102,oF 3 RP.int v72_from_ from__72,oF 3 RP.int v156_at_ at__156,oS 56 (oStep 83) v196_out out_196,box g235 56 #[I x219.kind,I g235_1_240,I x219.b,u234_0,I x219.given.bound],oF 54 (rCon 83) r28_0 x21.1.list,oF 4 RP.bool r28_1 x21.1.gone,box g31 47 #[r28_0,r28_1]])
 refine W_join R241 ?_ ?_
 refine W_cond (b:=((x219.kind != 6) && (x219.kind != 7))) sf134 (fun hc242=>?_) (fun hc242=>?_)
 have hA241:=(ite_t hc242).symm.trans hA241
 obtain ⟨x243,hx243,hA241⟩:=bind_some hA241
 refine W_region (mF sf13 rfl (fA 1 fa_56_1 sf18 rfl (ldB 4 hst Tryz.isAgg3 rfl rfl rfl ?_)))
 obtain ⟨g249,cap_g249,hv250,_,_⟩:=Star.row 2 hst rfl hx243
 refine L_ixO (R:=(OR.frz RP.int)) (tb:=0) 0 rfl Tryz.underlying51 Tryz.sizeOf3 rfl hv250 (by first | rfl | simp) rfl hx243 ?_
 obtain ⟨cs251,hr251,hat251⟩:=Star.eltF 2 hst rfl hv250 hx243
 obtain rfl : _ = [_]:=hr251
 refine L_ld rfl Tryz.isAgg3 rfl (At.cell hat251 (j:=0) rfl) (fA 1 fa_56_1 sf18 rfl (L_stB (v:=I x243) (cs2:=#[I x219.kind,I x243,I x219.b,u234_0,I x219.given.bound]) 4 rfl Tryz.sizeOf3 rfl rfl rfl hst rfl rfl rfl (fun w253 hst=>nn ?_)))
 obtain rfl:=so hA241
 have hst:=hst.gets [7,7,7,3,7,7,7,7] rfl
 exact rj hR241 ⟨sf1,sf6,sf8,sf9,sf11,sf13,sf16,sf17,sf18,hst⟩
 have hA241:=(ite_f hc242).symm.trans hA241
 refine W_skip ?_
 obtain rfl:=so hA241
 exact rj hR241 ⟨sf1,sf6,sf8,sf9,sf11,sf13,sf16,sf17,sf18,hst⟩
 intro f w_ hR
 obtain ⟨sf1,sf6,sf8,sf9,sf11,sf13,sf16,sf17,sf18,hst⟩:=rk hR241 hR
 refine W_seq (sq (fA 0 fa_56_0 sf18 rfl (ldB 4 hst Tryz.isAgg3 rfl rfl rfl (L_eql rfl rfl rfl (nn ?_)))))
 obtain ⟨g235_2_254,hA255,hA212⟩:=bind_some hA212
 obtain ⟨R255,hR255⟩:=exR fun f w_=>f 1 = v1∧f 6 = Pt g31∧f 8 = v38∧f 9 = v72_from_∧f 11 = I (list.length : Int)∧f 13 = v156_at_∧f 16 = v196_out∧f 17 = I k_198∧f 18 = Pt g235∧Star H28 w_ ([oF 4 RP.bool v38 need_102,oF 3 RP.int v72_from_ from__72,oF 3 RP.int v156_at_ at__156,oS 56 (oStep 83) v196_out out_196,box g235 56 #[I x219.kind,I g235_1_240,I g235_2_254,u234_0,I x219.given.bound],oF 54 (rCon 83) r28_0 x21.1.list,oF 4 RP.bool r28_1 x21.1.gone,box g31 47 #[r28_0,r28_1]])
 refine W_join R255 ?_ ?_
 refine W_cond (b:=(x219.kind == 1)) rfl (fun hc256=>?_) (fun hc256=>?_)
 have hA255:=(ite_t hc256).symm.trans hA255
 obtain ⟨x257,hx257,hA255⟩:=bind_some hA255
 refine W_region (mF sf13 rfl (fA 2 fa_56_2 sf18 rfl (ldB 4 hst Tryz.isAgg3 rfl rfl rfl ?_)))
 obtain ⟨g263,cap_g263,hv264,_,_⟩:=Star.row 2 hst rfl hx257
 refine L_ixO (R:=(OR.frz RP.int)) (tb:=0) 0 rfl Tryz.underlying51 Tryz.sizeOf3 rfl hv264 (by first | rfl | simp) rfl hx257 ?_
 obtain ⟨cs265,hr265,hat265⟩:=Star.eltF 2 hst rfl hv264 hx257
 obtain rfl : _ = [_]:=hr265
 refine L_ld rfl Tryz.isAgg3 rfl (At.cell hat265 (j:=0) rfl) (fA 2 fa_56_2 sf18 rfl (L_stB (v:=I x257) (cs2:=#[I x219.kind,I g235_1_240,I x257,u234_0,I x219.given.bound]) 4 rfl Tryz.sizeOf3 rfl rfl rfl hst rfl rfl rfl (fun w267 hst=>nn ?_)))
 obtain rfl:=so hA255
 have hst:=hst.gets [7,7,7,3,7,7,7,7] rfl
 exact rj hR255 ⟨sf1,sf6,sf8,sf9,sf11,sf13,sf16,sf17,sf18,hst⟩
 have hA255:=(ite_f hc256).symm.trans hA255
 refine W_skip ?_
 obtain rfl:=so hA255
 exact rj hR255 ⟨sf1,sf6,sf8,sf9,sf11,sf13,sf16,sf17,sf18,hst⟩
 intro f w_ hR
 obtain ⟨sf1,sf6,sf8,sf9,sf11,sf13,sf16,sf17,sf18,hst⟩:=rk hR255 hR
 refine W_seq ?_
 obtain ⟨x273,hx273,hA212⟩:=bind_some hA212
 refine W_region (fA 3 fa_56_3 sf18 rfl (L_lda (cs:=[u234_0,I x219.given.bound]) rfl Tryz.isAgg54 Tryz.sizeOf54 rfl (At.sub0 (Blk.at (Star.blkAt 4 hst rfl)) 3 2) rfl ?_))
 obtain ⟨H277b,l278,s279,z280,k281⟩:=hst.borrow
 refine L_call rfl Tryz.call21 (ops1 rfl) (s_l1Copy_c (c:=x219.given) s279 (RP.mono _ hu234_0 l278) hx273) ?_
 rintro _ w282 ⟨r282_0,rfl,hst⟩
 have hst:=k281 hst (co closed_term c0)
 refine fA 3 fa_56_3 sf18 rfl (L_staB (vs:=#[r282_0,I x273.bound]) (cs2:=#[I x219.kind,I g235_1_240,I g235_2_254,r282_0,I x273.bound]) 5 rfl Tryz.sizeOf54 rfl rfl rfl (ones_cons (one_len (Star.len 0 hst rfl)) (ones_cons rfl ones_nil)) hst rfl (by show 3 + 2≤5; decide) rfl (fun w284 hst=>nn ?_))
 obtain ⟨x288,hx288,hA212⟩:=bind_some hA212
 refine W_region (mF sf16 rfl (L_lda (cs:=[I x219.kind,I g235_1_240,I g235_2_254,r282_0,I x273.bound]) rfl Tryz.isAgg56 Tryz.sizeOf56 sf18 (At.sub0 (Blk.at (Star.blkAt 0 hst rfl)) 0 5) rfl (L_bs rfl (parts1 rfl) (bs_26_1_5 (I x219.kind) (I g235_1_240) (I g235_2_254) (r282_0) (I x273.bound) ) hst (fun g292 w293 hst=>?_))))
 have hst:=hst.get 2 rfl
 have hst:=oStep_close (s:=({ kind:=x219.kind,a:=g235_1_240,b:=g235_2_254,given:=x273 } : Step)) hst
 have hst:=Star.mkRow (R:=(oStep 83)) [([I x219.kind,I g235_1_240,I g235_2_254,r282_0,I x273.bound],({ kind:=x219.kind,a:=g235_1_240,b:=g235_2_254,given:=x273 } : Step))] [({ kind:=x219.kind,a:=g235_1_240,b:=g235_2_254,given:=x273 } : Step)] 1 hst rfl rfl rfl (by decide)
 have hst:=hst.get 5 rfl
 refine L_appM (v:=v196_out) (u:=(Sl g292 1 1)) rfl et_26 rfl rfl hst hx288 (fun v295 w296 hst=>aV v295 rfl (nn ?_))
 obtain rfl:=so hA212
 have hst:=hst.gets [7,7,7,3,7,7,7] rfl
 exact rj hR212 ⟨v295,sf1,sf6,sf8,sf9,sf11,sf13,rfl,sf17,(Star.keepN 7 hst)⟩
 have hA212:=(ite_f hc213).symm.trans hA212
 refine W_skip ?_
 obtain rfl:=so hA212
 exact rj hR212 ⟨v196_out,sf1,sf6,sf8,sf9,sf11,sf13,sf16,sf17,hst⟩
 intro f w_ hR
 obtain ⟨v210_out,sf1,sf6,sf8,sf9,sf11,sf13,sf16,sf17,hst⟩:=rk hR212 hR
 refine W_region (mF sf17 rfl (L_add rfl rfl rfl (aI rfl (nn ?_))))
 obtain rfl:=so hB199
 show ∃ m,m < _∧I199 m _ _
 refine ⟨n199,Nat.lt_succ_self _,?_⟩
 exact ij hI199 ⟨out_210,i64 (k_198 + 1),v210_out,hL199,sf1,sf6,sf8,sf9,sf11,sf13,sf16,rfl,hst⟩
 have hB199:=(ite_f hc200).symm.trans hB199
 refine W_exit ?_
 obtain rfl:=so hB199
 obtain rfl:=so hL199
 have hst:=hst.get 3 rfl
 exact rj hR199 ⟨out_196,k_198,v196_out,rfl,sf16,(Star.keepN 1 hst)⟩
 intro f w_ hR
 obtain ⟨out_196,k_198,v196_out,rfl,sf16,hst⟩:=rk hR199 hR
 refine sq (mF sf16 rfl (aV v196_out rfl (aB rfl (nn (W_ret (retG2 (v1:=v196_out) (v2:=Bo true) Tryz.results6 rfl rfl ?_))))))
 obtain rfl:=so hF
 exact ⟨v196_out,rfl,(Star.down hst l28 (co closed_oStep c0))⟩
theorem l_toTerm_c {a : Term} {H : FH} {w : World} (hst : Star H w []) {r : Term} (hF : l_toTerm a = some r) :
 C Tryz.prog 52 #[.agg #[I a.coef,I a.lit]] w fun v w'=>v = .agg #[I r.coef,I r.lit]∧Star H w' []:=by
 unfold l_toTerm at hF
 refine C_enter Tryz.func52 rfl Tryz.ntmps52 rfl (sq (L_box (v:=.agg #[I a.coef,I a.lit]) (cs:=#[I a.coef,I a.lit]) rfl rfl rfl hst (fun g5 w6 hst=>L_al (cs:=#[I 0,I 0]) rfl Tryz.zeroValue83 rfl hst (fun g7 w8 hst=>ns (L_al (cs:=#[I 0,I 0]) rfl Tryz.zeroValue83 rfl hst (fun g11 w12 hst=>ns (fA 0 fa_94_0 rfl rfl (ldB 2 hst Tryz.isAgg3 rfl rfl rfl (fA 0 fa_83_0 rfl rfl (L_stB (v:=I a.coef) (cs2:=#[I a.coef,I 0]) 0 rfl Tryz.sizeOf3 rfl rfl rfl hst rfl rfl rfl (fun w14 hst=>ns (fA 1 fa_94_1 rfl rfl (ldB 2 hst Tryz.isAgg3 rfl rfl rfl (fA 1 fa_83_1 rfl rfl (L_stB (v:=I a.lit) (cs2:=#[I a.coef,I a.lit]) 0 rfl Tryz.sizeOf3 rfl rfl rfl hst rfl rfl rfl (fun w16 hst=>ns (L_lda (cs:=[I a.coef,I a.lit]) rfl Tryz.isAgg83 Tryz.sizeOf83 rfl (At.sub0 (Blk.at (Star.blkAt 0 hst rfl)) 0 2) rfl (L_staB (vs:=#[I a.coef,I a.lit]) (cs2:=#[I a.coef,I a.lit]) 1 rfl Tryz.sizeOf83 rfl rfl rfl (ones_cons rfl (ones_cons rfl ones_nil)) hst rfl (by show 0 + 2≤2; decide) rfl (fun w18 hst=>nn (W_ret (retG1 (v1:=.agg #[I a.coef,I a.lit]) Tryz.results52 (resV_agg Tryz.isAgg83 Tryz.sizeOf83 rfl (Star.blkAt 0 hst rfl) rfl) ?_)))))))))))))))))))))
 obtain rfl:=so hF
 exact ⟨rfl,(Star.keepN 0 hst)⟩
theorem l_toTermS_c {a : List Term} {v0 : Value} {H : FH} {w : World} (hst : Star H w []) (h0 : (rS 94 rTerm).rel H [v0] a) {r : List Term} (hF : l_toTermS a = some r) :
 C Tryz.prog 37 #[v0] w fun v w'=>∃ (u1 : Value),v = u1∧Star H w' [oF 83 rTerm u1 r]:=by
 unfold l_toTermS at hF
 refine C_enter Tryz.func37 rfl Tryz.ntmps37 rfl (sq (aV S0 rfl (nq ?_)))
 obtain ⟨x1,hx1,hF⟩:=bind_some hF
 refine W_region (mV v0 rfl (L_len rfl Tryz.underlying38 rfl (slice_len h0) (L_mk (R:=(OR.frz rTerm)) (z0:=({ coef:=0,lit:=0 } : Term)) (zc:=[I 0,I 0]) rfl et_52 (by kernel_rfl) (fun _ _=>⟨rfl,rTerm_iff.2 rfl⟩) rfl rfl hx1 hst (fun v5 w6 hst=>aV v5 rfl (nq (sq (aI rfl (nn ?_))))))))
 have hlen10 : List.length a≤9223372036854775807:=len_le (slice_len h0)
 obtain ⟨j10,hL10,hF⟩:=bind_some hF
 obtain ⟨R10,hR10⟩:=exR fun f w_=>∃ out_9 : List Term,j10 = .nx out_9∧f 3 = v5∧Star H w_ ([oF 83 rTerm v5 out_9])
 refine W_join R10 ?_ ?_
 refine W_block ?_
 obtain ⟨I10,hI10⟩:=exI fun n f w_=>∃ i_8 : Nat,∃ suf10 : List Term,∃ out_9 : List Term,n = suf10.length∧List.drop i_8 a = suf10∧i_8 + suf10.length = a.length∧rangeL l_toTermS_b1 suf10 i_8 out_9 = some j10∧f 0 = v0∧f 3 = v5∧f 4 = I i_8∧Star H w_ ([oF 83 rTerm v5 out_9])
 refine W_loop I10 (n:=a.length) ?_ ?_
 exact ij hI10 ⟨0,a,x1,rfl,rfl,Nat.zero_add _,hL10,rfl,rfl,rfl,hst⟩
 intro n10 f w_ hI
 obtain ⟨i_8,suf10,out_9,rfl,hd10,hl10,hL10,sf0,sf3,sf4,hst⟩:=ik hI10 hI
 refine W_seq (sq (mF sf4 rfl (mF sf0 rfl (L_len rfl Tryz.underlying38 rfl (slice_len h0) (L_lss rfl rfl rfl (nn (W_cond (b:=decide ((i_8 : Int) < (a.length : Int))) rfl (fun hc11=>?_) (fun hc11=>?_))))))))
 have hlt10:=of_decide_eq_true hc11
 rcases suf10 with _ | ⟨x_10,rest10⟩
 exact absurd hlt10 (by simp at hl10; omega)
 obtain ⟨o10,hB10,hL10⟩:=range_cons hL10
 rw [l_toTermS_b1] at hB10
 have hix10:=drop_idx hd10
 refine W_skip (W_seq (W_block ?_))
 obtain ⟨x21,hx21,hB10⟩:=bind_some hB10
 obtain ⟨x23,hx23,hB10⟩:=bind_some hB10
 refine W_region (mF sf3 rfl (mF sf4 rfl (mF sf0 rfl (mF sf4 rfl (L_ix (r:=rTerm) rfl Tryz.underlying38 Tryz.sizeOf94 rfl h0 rfl hix10 (fun g27 o28 cs_g27 hrk_hat29 hat29=>?_))))))
 obtain rfl:=rTerm_iff.1 hrk_hat29
 refine L_lda (cs:=[I x_10.coef,I x_10.lit]) rfl Tryz.isAgg94 Tryz.sizeOf94 rfl (At.sub (AtH.at hat29 hst.sub) 0 2) rfl ?_
 obtain ⟨H31b,l32,s33,z34,k35⟩:=hst.borrow
 refine L_call rfl Tryz.call52 (ops1 rfl) (l_toTerm_c (a:=x_10) s33 hx21) ?_
 rintro _ w36 ⟨rfl,hst⟩
 have hst:=k35 hst c0
 obtain ⟨g37,cap_g37,hv38,_,_⟩:=Star.row 0 hst rfl hx23
 refine L_ixO (R:=(OR.frz rTerm)) (tb:=0) 0 rfl Tryz.underlying52 Tryz.sizeOf83 rfl hv38 (by first | rfl | simp) rfl hx23 ?_
 have hst:=Star.addF (r:=rTerm) (cs:=[I x21.coef,I x21.lit]) (x:=x21) hst (rTerm_iff.2 rfl)
 refine L_stE (vs:=#[I x21.coef,I x21.lit]) rfl Tryz.sizeOf83 rfl rfl rfl hv38 hst hx23 (fun w39 hst=>nn (W_region (mF sf4 rfl (L_add rfl rfl rfl (aI rfl (nn ?_))))))
 obtain rfl:=so hB10
 show ∃ m,m < _∧I10 m _ _
 refine ⟨rest10.length,by simp,?_⟩
 exact ij hI10 ⟨i_8 + 1,rest10,(out_9.set (Int.toNat (i_8 : Int)) x21),rfl,drop_next hd10,by simp at hl10; omega,hL10,sf0,sf3,(Eq.trans rfl (congrArg (Value.int .i64) (i64_succ (n:=a.length) (by simp at hl10; omega) hlen10))),hst⟩
 rcases suf10 with _ | ⟨_,_⟩
 obtain rfl:=range_nil hL10
 refine W_exit (rj hR10 ⟨out_9,rfl,sf3,hst⟩)
 exact absurd (of_decide_eq_false hc11) (by simp at hl10; omega)
 intro f w_ hR
 obtain ⟨out_9,rfl,sf3,hst⟩:=rk hR10 hR
 refine sq (mF sf3 rfl (aV v5 rfl (nn (W_ret (retG1 (v1:=v5) Tryz.results37 rfl ?_)))))
 obtain rfl:=so hF
 exact ⟨v5,rfl,hst⟩
theorem l_toConstraint_c {a : Con} {v0_0 : Value} {H : FH} {w : World} (hst : Star H w []) (h0_0 : (rS 94 rTerm).rel H [v0_0] a.terms) {r : Con} (hF : l_toConstraint a = some r) :
 C Tryz.prog 22 #[.agg #[v0_0,I a.bound]] w fun v w'=>∃ (u1 : Value),v = .agg #[u1,I r.bound]∧Star H w' [oF 83 rTerm u1 r.terms]:=by
 unfold l_toConstraint at hF
 refine C_enter Tryz.func22 rfl Tryz.ntmps22 rfl (sq (L_box (v:=.agg #[v0_0,I a.bound]) (cs:=#[v0_0,I a.bound]) rfl rfl rfl hst (fun g5 w6 hst=>L_al (cs:=#[S0,I 0]) rfl Tryz.zeroValue54 rfl hst (fun g7 w8 hst=>ns (L_al (cs:=#[S0,I 0]) rfl Tryz.zeroValue54 rfl hst (fun g11 w12 hst=>nq ?_))))))
 obtain ⟨x18,hx18,hF⟩:=bind_some hF
 refine W_region (fA 0 fa_40_0 rfl rfl (ldB 2 hst Tryz.isAgg38 rfl rfl rfl ?_))
 obtain ⟨H22b,l23,s24,z25,k26⟩:=hst.borrow
 refine L_call rfl Tryz.call37 (ops1 rfl) (l_toTermS_c (a:=a.terms) s24 (RP.mono _ h0_0 l23) hx18) ?_
 rintro r27_0 w27 ⟨_,rfl,hst⟩
 have hst:=k26 hst (co closed_term c0)
 refine fA 0 fa_54_0 rfl rfl (L_stB (v:=r27_0) (cs2:=#[r27_0,I 0]) 1 rfl Tryz.sizeOf52 rfl rfl (one_len (Star.len 0 hst rfl)) hst rfl rfl rfl (fun w29 hst=>ns (fA 1 fa_40_1 rfl rfl (ldB 3 hst Tryz.isAgg3 rfl rfl rfl (fA 1 fa_54_1 rfl rfl (L_stB (v:=I a.bound) (cs2:=#[r27_0,I a.bound]) 0 rfl Tryz.sizeOf3 rfl rfl rfl hst rfl rfl rfl (fun w31 hst=>ns (L_lda (cs:=[r27_0,I a.bound]) rfl Tryz.isAgg54 Tryz.sizeOf54 rfl (At.sub0 (Blk.at (Star.blkAt 0 hst rfl)) 0 2) rfl (L_staB (vs:=#[r27_0,I a.bound]) (cs2:=#[r27_0,I a.bound]) 2 rfl Tryz.sizeOf54 rfl rfl rfl (ones_cons (one_len (Star.len 1 hst rfl)) (ones_cons rfl ones_nil)) hst rfl (by show 0 + 2≤2; decide) rfl (fun w33 hst=>nn (W_ret (retG1 (v1:=.agg #[r27_0,I a.bound]) Tryz.results22 (resV_agg Tryz.isAgg54 Tryz.sizeOf54 rfl (Star.blkAt 0 hst rfl) rfl) ?_))))))))))))
 obtain rfl:=so hF
 have hst:=hst.get 2 rfl
 exact ⟨r27_0,rfl,(Star.keepN 1 hst)⟩
theorem l_toConstraintS_c {a : List Con} {v0 : Value} {H : FH} {w : World} (hst : Star H w []) (h0 : (rS 40 (rCon 94)).rel H [v0] a) {r : List Con} (hF : l_toConstraintS a = some r) :
 C Tryz.prog 7 #[v0] w fun v w'=>∃ (u1 : Value),v = u1∧Star H w' [oS 54 (oCon 83) u1 r]:=by
 unfold l_toConstraintS at hF
 refine C_enter Tryz.func7 rfl Tryz.ntmps7 rfl (sq (aV S0 rfl (nq ?_)))
 obtain ⟨x1,hx1,hF⟩:=bind_some hF
 refine W_region (mV v0 rfl (L_len rfl Tryz.underlying22 rfl (slice_len h0) (L_mk (R:=(oCon 83)) (z0:=({ terms:=[],bound:=0 } : Con)) (zc:=[S0,I 0]) rfl et_29 (by kernel_rfl) (fun _ _=>oCon_zero) rfl rfl hx1 hst (fun v5 w6 hst=>aV v5 rfl (nq (sq (aI rfl (nn ?_))))))))
 have hlen10 : List.length a≤9223372036854775807:=len_le (slice_len h0)
 obtain ⟨j10,hL10,hF⟩:=bind_some hF
 obtain ⟨R10,hR10⟩:=exR fun f w_=>∃ out_9 : List Con,j10 = .nx out_9∧f 3 = v5∧Star H w_ ([oS 54 (oCon 83) v5 out_9])
 refine W_join R10 ?_ ?_
 refine W_block ?_
 obtain ⟨I10,hI10⟩:=exI fun n f w_=>∃ i_8 : Nat,∃ suf10 : List Con,∃ out_9 : List Con,n = suf10.length∧List.drop i_8 a = suf10∧i_8 + suf10.length = a.length∧rangeL l_toConstraintS_b1 suf10 i_8 out_9 = some j10∧f 0 = v0∧f 3 = v5∧f 4 = I i_8∧Star H w_ ([oS 54 (oCon 83) v5 out_9])
 refine W_loop I10 (n:=a.length) ?_ ?_
 exact ij hI10 ⟨0,a,x1,rfl,rfl,Nat.zero_add _,hL10,rfl,rfl,rfl,hst⟩
 intro n10 f w_ hI
 obtain ⟨i_8,suf10,out_9,rfl,hd10,hl10,hL10,sf0,sf3,sf4,hst⟩:=ik hI10 hI
 refine W_seq (sq (mF sf4 rfl (mF sf0 rfl (L_len rfl Tryz.underlying22 rfl (slice_len h0) (L_lss rfl rfl rfl (nn (W_cond (b:=decide ((i_8 : Int) < (a.length : Int))) rfl (fun hc11=>?_) (fun hc11=>?_))))))))
 have hlt10:=of_decide_eq_true hc11
 rcases suf10 with _ | ⟨x_10,rest10⟩
 exact absurd hlt10 (by simp at hl10; omega)
 obtain ⟨o10,hB10,hL10⟩:=range_cons hL10
 rw [l_toConstraintS_b1] at hB10
 have hix10:=drop_idx hd10
 refine W_skip (W_seq (W_block ?_))
 obtain ⟨x21,hx21,hB10⟩:=bind_some hB10
 obtain ⟨x24,hx24,hB10⟩:=bind_some hB10
 refine W_region (mF sf3 rfl (mF sf4 rfl (mF sf0 rfl (mF sf4 rfl (L_ix (r:=(rCon 94)) rfl Tryz.underlying22 Tryz.sizeOf40 rfl h0 rfl hix10 (fun g28 o29 cs_g28 hrk_hat30 hat30=>?_))))))
 obtain ⟨u31_0,rfl,hu31_0⟩:=rCon_iff.1 hrk_hat30
 refine L_lda (cs:=[u31_0,I x_10.bound]) rfl Tryz.isAgg40 Tryz.sizeOf40 rfl (At.sub (AtH.at hat30 hst.sub) 0 2) rfl ?_
 obtain ⟨H32b,l33,s34,z35,k36⟩:=hst.borrow
 refine L_call rfl Tryz.call22 (ops1 rfl) (l_toConstraint_c (a:=x_10) s34 (RP.mono _ hu31_0 l33) hx21) ?_
 rintro _ w37 ⟨r37_0,rfl,hst⟩
 have hst:=k36 hst (co closed_term c0)
 obtain ⟨g39,cap_g39,hv40,_,_⟩:=Star.row 1 hst rfl hx24
 refine L_ixO (R:=(oCon 83)) (tb:=0) 0 rfl Tryz.underlying29 Tryz.sizeOf54 rfl hv40 (by first | rfl | simp) rfl hx24 ?_
 have hst:=oCon_close (c:=x21) hst
 refine L_stE (vs:=#[r37_0,I x21.bound]) rfl Tryz.sizeOf54 rfl rfl rfl hv40 hst hx24 (fun w41 hst=>nn (W_region (mF sf4 rfl (L_add rfl rfl rfl (aI rfl (nn ?_))))))
 obtain rfl:=so hB10
 show ∃ m,m < _∧I10 m _ _
 refine ⟨rest10.length,by simp,?_⟩
 exact ij hI10 ⟨i_8 + 1,rest10,(out_9.set (Int.toNat (i_8 : Int)) x21),rfl,drop_next hd10,by simp at hl10; omega,hL10,sf0,sf3,(Eq.trans rfl (congrArg (Value.int .i64) (i64_succ (n:=a.length) (by simp at hl10; omega) hlen10))),hst⟩
 rcases suf10 with _ | ⟨_,_⟩
 obtain rfl:=range_nil hL10
 refine W_exit (rj hR10 ⟨out_9,rfl,sf3,hst⟩)
 exact absurd (of_decide_eq_false hc11) (by simp at hl10; omega)
 intro f w_ hR
 obtain ⟨out_9,rfl,sf3,hst⟩:=rk hR10 hR
 refine sq (mF sf3 rfl (aV v5 rfl (nn (W_ret (retG1 (v1:=v5) Tryz.results7 rfl ?_)))))
 obtain rfl:=so hF
 exact ⟨v5,rfl,hst⟩
theorem l_toStep_c {a : Step} {v0_3 : Value} {H : FH} {w : World} (hst : Star H w []) (h0_3 : (rS 94 rTerm).rel H [v0_3] a.given.terms) {r : Step} (hF : l_toStep a = some r) :
 C Tryz.prog 23 #[.agg #[I a.kind,I a.a,I a.b,v0_3,I a.given.bound]] w fun v w'=>∃ (u1 : Value),v = .agg #[I r.kind,I r.a,I r.b,u1,I r.given.bound]∧Star H w' [oF 83 rTerm u1 r.given.terms]:=by
 unfold l_toStep at hF
 refine C_enter Tryz.func23 rfl Tryz.ntmps23 rfl (sq (L_box (v:=.agg #[I a.kind,I a.a,I a.b,v0_3,I a.given.bound]) (cs:=#[I a.kind,I a.a,I a.b,v0_3,I a.given.bound]) rfl rfl rfl hst (fun g5 w6 hst=>L_al (cs:=#[I 0,I 0,I 0,S0,I 0]) rfl Tryz.zeroValue56 rfl hst (fun g7 w8 hst=>ns (L_al (cs:=#[I 0,I 0,I 0,S0,I 0]) rfl Tryz.zeroValue56 rfl hst (fun g11 w12 hst=>ns (fA 0 fa_43_0 rfl rfl (ldB 2 hst Tryz.isAgg3 rfl rfl rfl (fA 0 fa_56_0 rfl rfl (L_stB (v:=I a.kind) (cs2:=#[I a.kind,I 0,I 0,S0,I 0]) 0 rfl Tryz.sizeOf3 rfl rfl rfl hst rfl rfl rfl (fun w14 hst=>ns (fA 1 fa_43_1 rfl rfl (ldB 2 hst Tryz.isAgg3 rfl rfl rfl (fA 1 fa_56_1 rfl rfl (L_stB (v:=I a.a) (cs2:=#[I a.kind,I a.a,I 0,S0,I 0]) 0 rfl Tryz.sizeOf3 rfl rfl rfl hst rfl rfl rfl (fun w16 hst=>ns (fA 2 fa_43_2 rfl rfl (ldB 2 hst Tryz.isAgg3 rfl rfl rfl (fA 2 fa_56_2 rfl rfl (L_stB (v:=I a.b) (cs2:=#[I a.kind,I a.a,I a.b,S0,I 0]) 0 rfl Tryz.sizeOf3 rfl rfl rfl hst rfl rfl rfl (fun w18 hst=>nq ?_)))))))))))))))))))))
 obtain ⟨x24,hx24,hF⟩:=bind_some hF
 refine W_region (fA 3 fa_43_3 rfl rfl (L_lda (cs:=[v0_3,I a.given.bound]) rfl Tryz.isAgg40 Tryz.sizeOf40 rfl (At.sub0 (Blk.at (Star.blkAt 2 hst rfl)) 3 2) rfl ?_))
 obtain ⟨H28b,l29,s30,z31,k32⟩:=hst.borrow
 refine L_call rfl Tryz.call22 (ops1 rfl) (l_toConstraint_c (a:=a.given) s30 (RP.mono _ h0_3 l29) hx24) ?_
 rintro _ w33 ⟨r33_0,rfl,hst⟩
 have hst:=k32 hst (co closed_term c0)
 refine fA 3 fa_56_3 rfl rfl (L_staB (vs:=#[r33_0,I x24.bound]) (cs2:=#[I a.kind,I a.a,I a.b,r33_0,I x24.bound]) 1 rfl Tryz.sizeOf54 rfl rfl rfl (ones_cons (one_len (Star.len 0 hst rfl)) (ones_cons rfl ones_nil)) hst rfl (by show 3 + 2≤5; decide) rfl (fun w35 hst=>ns (L_lda (cs:=[I a.kind,I a.a,I a.b,r33_0,I x24.bound]) rfl Tryz.isAgg56 Tryz.sizeOf56 rfl (At.sub0 (Blk.at (Star.blkAt 0 hst rfl)) 0 5) rfl (L_staB (vs:=#[I a.kind,I a.a,I a.b,r33_0,I x24.bound]) (cs2:=#[I a.kind,I a.a,I a.b,r33_0,I x24.bound]) 2 rfl Tryz.sizeOf56 rfl rfl rfl (ones_cons rfl (ones_cons rfl (ones_cons rfl (ones_cons (one_len (Star.len 1 hst rfl)) (ones_cons rfl ones_nil))))) hst rfl (by show 0 + 5≤5; decide) rfl (fun w37 hst=>nn (W_ret (retG1 (v1:=.agg #[I a.kind,I a.a,I a.b,r33_0,I x24.bound]) Tryz.results23 (resV_agg Tryz.isAgg56 Tryz.sizeOf56 rfl (Star.blkAt 0 hst rfl) rfl) ?_)))))))
 obtain rfl:=so hF
 have hst:=hst.get 2 rfl
 exact ⟨r33_0,rfl,(Star.keepN 1 hst)⟩
theorem l_toStepS_c {a : List Step} {v0 : Value} {H : FH} {w : World} (hst : Star H w []) (h0 : (rS 43 (rStep 94)).rel H [v0] a) {r : List Step} (hF : l_toStepS a = some r) :
 C Tryz.prog 8 #[v0] w fun v w'=>∃ (u1 : Value),v = u1∧Star H w' [oS 56 (oStep 83) u1 r]:=by
 unfold l_toStepS at hF
 refine C_enter Tryz.func8 rfl Tryz.ntmps8 rfl (sq (aV S0 rfl (nq ?_)))
 obtain ⟨x1,hx1,hF⟩:=bind_some hF
 refine W_region (mV v0 rfl (L_len rfl Tryz.underlying23 rfl (slice_len h0) (L_mk (R:=(oStep 83)) (z0:=({ kind:=0,a:=0,b:=0,given:=({ terms:=[],bound:=0 } : Con) } : Step)) (zc:=[I 0,I 0,I 0,S0,I 0]) rfl et_26 (by kernel_rfl) (fun _ _=>oStep_zero) rfl rfl hx1 hst (fun v5 w6 hst=>aV v5 rfl (nq (sq (aI rfl (nn ?_))))))))
 have hlen10 : List.length a≤9223372036854775807:=len_le (slice_len h0)
 obtain ⟨j10,hL10,hF⟩:=bind_some hF
 obtain ⟨R10,hR10⟩:=exR fun f w_=>∃ out_9 : List Step,j10 = .nx out_9∧f 3 = v5∧Star H w_ ([oS 56 (oStep 83) v5 out_9])
 refine W_join R10 ?_ ?_
 refine W_block ?_
 obtain ⟨I10,hI10⟩:=exI fun n f w_=>∃ i_8 : Nat,∃ suf10 : List Step,∃ out_9 : List Step,n = suf10.length∧List.drop i_8 a = suf10∧i_8 + suf10.length = a.length∧rangeL l_toStepS_b1 suf10 i_8 out_9 = some j10∧f 0 = v0∧f 3 = v5∧f 4 = I i_8∧Star H w_ ([oS 56 (oStep 83) v5 out_9])
 refine W_loop I10 (n:=a.length) ?_ ?_
 exact ij hI10 ⟨0,a,x1,rfl,rfl,Nat.zero_add _,hL10,rfl,rfl,rfl,hst⟩
 intro n10 f w_ hI
 obtain ⟨i_8,suf10,out_9,rfl,hd10,hl10,hL10,sf0,sf3,sf4,hst⟩:=ik hI10 hI
 refine W_seq (sq (mF sf4 rfl (mF sf0 rfl (L_len rfl Tryz.underlying23 rfl (slice_len h0) (L_lss rfl rfl rfl (nn (W_cond (b:=decide ((i_8 : Int) < (a.length : Int))) rfl (fun hc11=>?_) (fun hc11=>?_))))))))
 have hlt10:=of_decide_eq_true hc11
 rcases suf10 with _ | ⟨x_10,rest10⟩
 exact absurd hlt10 (by simp at hl10; omega)
 obtain ⟨o10,hB10,hL10⟩:=range_cons hL10
 rw [l_toStepS_b1] at hB10
 have hix10:=drop_idx hd10
 refine W_skip (W_seq (W_block ?_))
 obtain ⟨x21,hx21,hB10⟩:=bind_some hB10
 obtain ⟨x24,hx24,hB10⟩:=bind_some hB10
 refine W_region (mF sf3 rfl (mF sf4 rfl (mF sf0 rfl (mF sf4 rfl (L_ix (r:=(rStep 94)) rfl Tryz.underlying23 Tryz.sizeOf43 rfl h0 rfl hix10 (fun g28 o29 cs_g28 hrk_hat30 hat30=>?_))))))
 obtain ⟨u31_0,rfl,hu31_0⟩:=rStep_iff.1 hrk_hat30
 refine L_lda (cs:=[I x_10.kind,I x_10.a,I x_10.b,u31_0,I x_10.given.bound]) rfl Tryz.isAgg43 Tryz.sizeOf43 rfl (At.sub (AtH.at hat30 hst.sub) 0 5) rfl ?_
 obtain ⟨H32b,l33,s34,z35,k36⟩:=hst.borrow
 refine L_call rfl Tryz.call23 (ops1 rfl) (l_toStep_c (a:=x_10) s34 (RP.mono _ hu31_0 l33) hx21) ?_
 rintro _ w37 ⟨r37_0,rfl,hst⟩
 have hst:=k36 hst (co closed_term c0)
 obtain ⟨g39,cap_g39,hv40,_,_⟩:=Star.row 1 hst rfl hx24
 refine L_ixO (R:=(oStep 83)) (tb:=0) 0 rfl Tryz.underlying26 Tryz.sizeOf56 rfl hv40 (by first | rfl | simp) rfl hx24 ?_
 have hst:=oStep_close (s:=x21) hst
 refine L_stE (vs:=#[I x21.kind,I x21.a,I x21.b,r37_0,I x21.given.bound]) rfl Tryz.sizeOf56 rfl rfl rfl hv40 hst hx24 (fun w41 hst=>nn (W_region (mF sf4 rfl (L_add rfl rfl rfl (aI rfl (nn ?_))))))
 obtain rfl:=so hB10
 show ∃ m,m < _∧I10 m _ _
 refine ⟨rest10.length,by simp,?_⟩
 exact ij hI10 ⟨i_8 + 1,rest10,(out_9.set (Int.toNat (i_8 : Int)) x21),rfl,drop_next hd10,by simp at hl10; omega,hL10,sf0,sf3,(Eq.trans rfl (congrArg (Value.int .i64) (i64_succ (n:=a.length) (by simp at hl10; omega) hlen10))),hst⟩
 rcases suf10 with _ | ⟨_,_⟩
 obtain rfl:=range_nil hL10
 refine W_exit (rj hR10 ⟨out_9,rfl,sf3,hst⟩)
 exact absurd (of_decide_eq_false hc11) (by simp at hl10; omega)
 intro f w_ hR
 obtain ⟨out_9,rfl,sf3,hst⟩:=rk hR10 hR
 refine sq (mF sf3 rfl (aV v5 rfl (nn (W_ret (retG1 (v1:=v5) Tryz.results8 rfl ?_)))))
 obtain rfl:=so hF
 exact ⟨v5,rfl,hst⟩
theorem i_refers_c {kind : Int} {H : FH} {w : World} (hst : Star H w []) {r : Int × Bool} (hF : i_refers kind = some r) :
 C Tryz.prog 25 #[I kind] w fun v w'=>v = .tuple #[I r.1,Bo r.2]∧Star H w' []:=by
 unfold i_refers at hF
 refine C_enter Tryz.func25 rfl Tryz.ntmps25 rfl (sq (aI rfl (aB rfl (nq (sq (mI rfl (nn (W_block (sq (L_eql rfl rfl rfl (aB rfl (nn (W_cond (b:=(kind == 1)) rfl (fun hc1=>?_) (fun hc1=>?_))))))))))))))
 have hF:=(ite_t hc1).symm.trans hF
 refine sq (aI rfl (aB rfl (nn (W_ret (retG2 (v1:=I 2) (v2:=Bo false) Tryz.results25 rfl rfl ?_)))))
 obtain rfl:=so hF
 exact ⟨rfl,hst⟩
 have hF:=(ite_f hc1).symm.trans hF
 refine W_seq (sq (L_eql rfl rfl rfl (aB rfl (nn ?_))))
 obtain ⟨t7_2,hA3,hF⟩:=bind_some hF
 obtain ⟨R3,hR3⟩:=exR fun f w_=>f 4 = I kind∧f 7 = Bo t7_2∧Star H w_ ([])
 refine W_join R3 ?_ ?_
 refine W_cond (b:=(kind == 2)) rfl (fun hc4=>?_) (fun hc4=>?_)
 have hA3:=(ite_t hc4).symm.trans hA3
 refine W_skip ?_
 obtain rfl:=so hA3
 exact rj hR3 ⟨rfl,rfl,hst⟩
 have hA3:=(ite_f hc4).symm.trans hA3
 refine sq (L_eql rfl rfl rfl (aB rfl (nn ?_)))
 obtain ⟨t7_5,hA6,hA3⟩:=bind_some hA3
 obtain ⟨R6,hR6⟩:=exR fun f w_=>f 4 = I kind∧f 7 = Bo t7_5∧Star H w_ ([])
 refine W_join R6 ?_ ?_
 refine W_cond (b:=(kind == 3)) rfl (fun hc7=>?_) (fun hc7=>?_)
 have hA6:=(ite_t hc7).symm.trans hA6
 refine W_skip ?_
 obtain rfl:=so hA6
 exact rj hR6 ⟨rfl,rfl,hst⟩
 have hA6:=(ite_f hc7).symm.trans hA6
 refine W_region (L_eql rfl rfl rfl (aB rfl (nn ?_)))
 obtain rfl:=so hA6
 exact rj hR6 ⟨rfl,rfl,hst⟩
 intro f w_ hR
 obtain ⟨sf4,sf7,hst⟩:=rk hR6 hR
 obtain rfl:=so hA3
 exact rj hR3 ⟨sf4,sf7,hst⟩
 intro f w_ hR
 obtain ⟨sf4,sf7,hst⟩:=rk hR3 hR
 refine W_cond (b:=t7_2) sf7 (fun hc8=>?_) (fun hc8=>?_)
 have hF:=(ite_t hc8).symm.trans hF
 refine sq (aI rfl (aB rfl (nn (W_ret (retG2 (v1:=I 1) (v2:=Bo true) Tryz.results25 rfl rfl ?_)))))
 obtain rfl:=so hF
 exact ⟨rfl,hst⟩
 have hF:=(ite_f hc8).symm.trans hF
 refine W_seq (sq (L_eql rfl sf4 rfl (aB rfl (nn ?_))))
 obtain ⟨t11_9,hA10,hF⟩:=bind_some hF
 obtain ⟨R10,hR10⟩:=exR fun f w_=>f 4 = I kind∧f 11 = Bo t11_9∧Star H w_ ([])
 refine W_join R10 ?_ ?_
 refine W_cond (b:=(kind == 4)) rfl (fun hc11=>?_) (fun hc11=>?_)
 have hA10:=(ite_t hc11).symm.trans hA10
 refine W_skip ?_
 obtain rfl:=so hA10
 exact rj hR10 ⟨sf4,rfl,hst⟩
 have hA10:=(ite_f hc11).symm.trans hA10
 refine W_region (L_eql rfl sf4 rfl (aB rfl (nn ?_)))
 obtain rfl:=so hA10
 exact rj hR10 ⟨sf4,rfl,hst⟩
 intro f w_ hR
 obtain ⟨sf4,sf11,hst⟩:=rk hR10 hR
 refine W_cond (b:=t11_9) sf11 (fun hc12=>?_) (fun hc12=>?_)
 have hF:=(ite_t hc12).symm.trans hF
 refine sq (aI rfl (aB rfl (nn (W_ret (retG2 (v1:=I 1) (v2:=Bo false) Tryz.results25 rfl rfl ?_)))))
 obtain rfl:=so hF
 exact ⟨rfl,hst⟩
 have hF:=(ite_f hc12).symm.trans hF
 refine W_seq (sq (L_eql rfl sf4 rfl (aB rfl (nn ?_))))
 obtain ⟨t14_13,hA14,hF⟩:=bind_some hF
 obtain ⟨R14,hR14⟩:=exR fun f w_=>f 14 = Bo t14_13∧Star H w_ ([])
 refine W_join R14 ?_ ?_
 refine W_cond (b:=(kind == 6)) rfl (fun hc15=>?_) (fun hc15=>?_)
 have hA14:=(ite_t hc15).symm.trans hA14
 refine W_skip ?_
 obtain rfl:=so hA14
 exact rj hR14 ⟨rfl,hst⟩
 have hA14:=(ite_f hc15).symm.trans hA14
 refine W_region (L_eql rfl sf4 rfl (aB rfl (nn ?_)))
 obtain rfl:=so hA14
 exact rj hR14 ⟨rfl,hst⟩
 intro f w_ hR
 obtain ⟨sf14,hst⟩:=rk hR14 hR
 refine W_cond (b:=t14_13) sf14 (fun hc16=>?_) (fun hc16=>?_)
 have hF:=(ite_t hc16).symm.trans hF
 refine sq (aI rfl (aB rfl (nn (W_ret (retG2 (v1:=I 0) (v2:=Bo false) Tryz.results25 rfl rfl ?_)))))
 obtain rfl:=so hF
 exact ⟨rfl,hst⟩
 have hF:=(ite_f hc16).symm.trans hF
 refine W_skip (sq (aI rfl (aB rfl (nn (W_ret (retG2 (v1:=I (-1)) (v2:=Bo false) Tryz.results25 rfl rfl ?_))))))
 obtain rfl:=so hF
 exact ⟨rfl,hst⟩
theorem slices_IndexFunc_implConstraint_c {s : List Con} {f_ : (Con→Option Bool)} {v0 : Value} {v1 : Value} {H : FH} {w : World} (hst : Star H w []) (h0 : (rS 54 (rCon 83)).rel H [v0] s) (h1 : Fun1 Tryz.prog (rCon 83) true Value.bool f_ v1 H) {r : Int} (hF : slices_IndexFunc_implConstraint s f_ = some r) :
 C Tryz.prog 97 #[v0,v1] w fun v w'=>v = I r∧Star H w' []:=by
 unfold slices_IndexFunc_implConstraint at hF
 obtain ⟨fid_1,caps_1,rfl,hcall_1,hc_1⟩:=h1
 refine C_enter Tryz.func97 rfl Tryz.ntmps97 rfl (sq (aI rfl (nq (sq (mV v0 rfl (L_len rfl Tryz.underlying29 rfl (slice_len h0) (mI rfl (nn ?_))))))))
 have hlen2 : List.length s≤9223372036854775807:=len_le (slice_len h0)
 obtain ⟨j2,hL2,hF⟩:=bind_some hF
 obtain ⟨R2,hR2⟩:=exR fun f w_=>j2 = .nx ()∧Star H w_ ([])
 refine W_join R2 ?_ ?_
 refine W_block ?_
 obtain ⟨I2,hI2⟩:=exI fun n f w_=>∃ i_1 : Nat,∃ suf2 : List Con,n = suf2.length∧List.drop i_1 s = suf2∧i_1 + suf2.length = s.length∧rangeL (slices_IndexFunc_implConstraint_b1 f_) suf2 i_1 () = some j2∧f 0 = v0∧f 1 = .func (.func fid_1) #[] caps_1∧f 7 = I (s.length : Int)∧f 8 = I i_1∧Star H w_ ([])
 refine W_loop I2 (n:=s.length) ?_ ?_
 exact ij hI2 ⟨0,s,rfl,rfl,Nat.zero_add _,hL2,rfl,rfl,rfl,rfl,hst⟩
 intro n2 f w_ hI
 obtain ⟨i_1,suf2,rfl,hd2,hl2,hL2,sf0,sf1,sf7,sf8,hst⟩:=ik hI2 hI
 refine sq (L_lss rfl sf8 sf7 (nq (W_cond (b:=decide ((i_1 : Int) < (s.length : Int))) rfl (fun hc3=>?_) (fun hc3=>?_))))
 have hlt2:=of_decide_eq_true hc3
 rcases suf2 with _ | ⟨x_2,rest2⟩
 exact absurd hlt2 (by simp at hl2; omega)
 obtain ⟨o2,hB2,hL2⟩:=range_cons hL2
 rw [slices_IndexFunc_implConstraint_b1] at hB2
 have hix2:=drop_idx hd2
 refine W_skip (W_seq (W_block (sq (mF sf8 rfl (aI rfl (nq ?_))))))
 obtain ⟨x8,hx8,hB2⟩:=bind_some hB2
 refine W_region (mF sf1 rfl (mF sf0 rfl (mI rfl (L_ix (r:=(rCon 83)) rfl Tryz.underlying29 Tryz.sizeOf54 rfl h0 rfl hix2 (fun g15 o16 cs_g15 hrk_hat17 hat17=>?_)))))
 obtain ⟨u18_0,rfl,hu18_0⟩:=rCon_iff.1 hrk_hat17
 refine L_lda (cs:=[u18_0,I x_2.bound]) rfl Tryz.isAgg54 Tryz.sizeOf54 rfl (At.sub (AtH.at hat17 hst.sub) 0 2) rfl ?_
 obtain ⟨H19b,l20,s21,z22,k23⟩:=hst.borrow
 refine L_callv (args:=#[.agg #[u18_0,I x_2.bound]]) rfl hcall_1 rfl (ops1 rfl) (hc_1 _ _ l20 s21 [u18_0,I x_2.bound] _ _ _ (rCon_iff.2 ⟨_,rfl,(RP.mono _ hu18_0 l20)⟩) hx8 (args_app rfl)) ?_
 rintro _ w24 ⟨rfl,hst⟩
 have hst:=k23 hst c0
 refine nn (W_cond (b:=x8) rfl (fun hc25=>?_) (fun hc25=>?_))
 have hB2:=(ite_t hc25).symm.trans hB2
 refine sq (mI rfl (aI rfl (nn (W_ret (retG1 (v1:=I i_1) Tryz.results97 rfl ?_)))))
 obtain rfl:=so hB2
 obtain rfl:=so hL2
 obtain rfl:=so hF
 exact ⟨rfl,hst⟩
 have hB2:=(ite_f hc25).symm.trans hB2
 refine W_skip (W_region (L_add rfl sf8 rfl (mI rfl (nn ?_))))
 obtain rfl:=so hB2
 show ∃ m,m < _∧I2 m _ _
 refine ⟨rest2.length,by simp,?_⟩
 exact ij hI2 ⟨i_1 + 1,rest2,rfl,drop_next hd2,by simp at hl2; omega,hL2,sf0,sf1,sf7,(Eq.trans rfl (congrArg (Value.int .i64) (i64_succ (n:=s.length) (by simp at hl2; omega) hlen2))),hst⟩
 rcases suf2 with _ | ⟨_,_⟩
 obtain rfl:=range_nil hL2
 refine W_exit (rj hR2 ⟨rfl,hst⟩)
 exact absurd (of_decide_eq_false hc3) (by simp at hl2; omega)
 intro f w_ hR
 obtain ⟨rfl,hst⟩:=rk hR2 hR
 refine sq (aI rfl (nn (W_ret (retG1 (v1:=I (-1)) Tryz.results97 rfl ?_))))
 obtain rfl:=so hF
 exact ⟨rfl,hst⟩
theorem slices_ContainsFunc_implConstraint_c {s : List Con} {f_ : (Con→Option Bool)} {v0 : Value} {v1 : Value} {H : FH} {w : World} (hst : Star H w []) (h0 : (rS 54 (rCon 83)).rel H [v0] s) (h1 : Fun1 Tryz.prog (rCon 83) true Value.bool f_ v1 H) {r : Bool} (hF : slices_ContainsFunc_implConstraint s f_ = some r) :
 C Tryz.prog 87 #[v0,v1] w fun v w'=>v = Bo r∧Star H w' []:=by
 unfold slices_ContainsFunc_implConstraint at hF
 obtain ⟨fid_1,caps_1,rfl,hcall_1,hc_1⟩:=h1
 refine C_enter Tryz.func87 rfl Tryz.ntmps87 rfl (sq (aB rfl (nq ?_)))
 obtain ⟨x6,hx6,hF⟩:=bind_some hF
 refine W_region (mV v0 rfl (mV (.func (.func fid_1) #[] caps_1) rfl ?_))
 obtain ⟨H8b,l9,s10,z11,k12⟩:=hst.borrow
 refine L_call rfl Tryz.call97 (ops2 rfl rfl) (slices_IndexFunc_implConstraint_c (s:=s) (f_:=f_) s10 (RP.mono _ h0 l9) (Fun1.le ⟨_,_,rfl,hcall_1,hc_1⟩ l9) hx6) ?_
 rintro _ w13 ⟨rfl,hst⟩
 have hst:=k12 hst c0
 refine L_geq rfl rfl rfl (aB rfl (nn (W_ret (retG1 (v1:=Bo (decide (x6 ≥ 0))) Tryz.results87 rfl ?_))))
 obtain rfl:=so hF
 exact ⟨rfl,hst⟩
theorem i_within_c {n_ : Int} {low : Int} {high : Int} {H : FH} {w : World} (hst : Star H w []) {r : Bool} (hF : i_within n_ low high = some r) :
 C Tryz.prog 85 #[I n_,I low,I high] w fun v w'=>v = Bo r∧Star H w' []:=by
 unfold i_within at hF
 refine C_enter Tryz.func85 rfl Tryz.ntmps85 rfl (sq (aB rfl (nq ?_)))
 obtain ⟨R1,hR1⟩:=exR fun f w_=>f 6 = Bo ((decide (low≤n_)) && (decide (n_≤high)))∧Star H w_ ([])
 refine W_join R1 ?_ ?_
 refine W_region (mI rfl (mI rfl (L_leq rfl rfl rfl (mB rfl (L_split (d:=10) (b:=decide (low≤n_)) rfl (fun hc2=>?_) (fun hc2=>?_))))))
 refine mI rfl (mI rfl (L_leq rfl rfl rfl (L_pick (v:=Bo ((decide (low≤n_)) && (decide (n_≤high)))) rfl rfl (and_t hc2 rfl) (aB rfl (nn (rj hR1 ⟨rfl,hst⟩))))))
 refine ps rfl (ps rfl (ps rfl (L_pick (v:=Bo ((decide (low≤n_)) && (decide (n_≤high)))) rfl rfl (and_f hc2) (aB rfl (nn (rj hR1 ⟨rfl,hst⟩))))))
 intro f w_ hR
 obtain ⟨sf6,hst⟩:=rk hR1 hR
 refine W_ret (retG1 (v1:=Bo ((decide (low≤n_)) && (decide (n_≤high)))) Tryz.results85 sf6 ?_)
 obtain rfl:=so hF
 exact ⟨rfl,hst⟩
theorem i_isLiteral_c {l : Int} {H : FH} {w : World} (hst : Star H w []) {r : Bool} (hF : i_isLiteral l = some r) :
 C Tryz.prog 83 #[I l] w fun v w'=>v = Bo r∧Star H w' []:=by
 unfold i_isLiteral at hF
 refine C_enter Tryz.func83 rfl Tryz.ntmps83 rfl (sq (aB rfl (nq ?_)))
 obtain ⟨b8,hb8,hF⟩:=bind_some hF
 obtain ⟨R9,hR9⟩:=exR fun f w_=>f 2 = Bo b8∧Star H w_ ([])
 refine W_join R9 ?_ ?_
 refine W_region (mI rfl (L_neq rfl rfl rfl (mB rfl (L_split (d:=5) (b:=(l != 0)) rfl (fun hc10=>?_) (fun hc10=>?_)))))
 rw [ite_t hc10] at hb8
 obtain ⟨x6,hx6,hb8⟩:=bind_some hb8
 refine mI rfl ?_
 obtain ⟨H11b,l12,s13,z14,k15⟩:=hst.borrow
 refine L_call rfl Tryz.call85 (ops3 rfl rfl rfl) (i_within_c (n_:=l) (low:=(-12)) (high:=12) s13 hx6) ?_
 rintro _ w16 ⟨rfl,hst⟩
 have hst:=k15 hst c0
 refine L_pick (v:=Bo b8) rfl rfl (congrArg Value.bool (so hb8)) (aB rfl (nn (rj hR9 ⟨rfl,hst⟩)))
 rw [ite_f hc10] at hb8
 refine ps rfl (ps rfl (L_pick (v:=Bo b8) rfl rfl (congrArg Value.bool (so hb8)) (aB rfl (nn (rj hR9 ⟨rfl,hst⟩)))))
 intro f w_ hR
 obtain ⟨sf2,hst⟩:=rk hR9 hR
 refine W_ret (retG1 (v1:=Bo b8) Tryz.results83 sf2 ?_)
 obtain rfl:=so hF
 exact ⟨rfl,hst⟩
theorem i_variableOf_c {l : Int} {H : FH} {w : World} (hst : Star H w []) {r : Int} (hF : i_variableOf l = some r) :
 C Tryz.prog 84 #[I l] w fun v w'=>v = I r∧Star H w' []:=by
 unfold i_variableOf at hF
 refine C_enter Tryz.func84 rfl Tryz.ntmps84 rfl (sq (aI rfl (ns (mI rfl (mI rfl (L_neg rfl rfl (L_max rfl rfl rfl (aI rfl (nn (W_ret (retG1 (v1:=I (max l (i64 (-l)))) Tryz.results84 rfl ?_)))))))))))
 obtain rfl:=so hF
 exact ⟨rfl,hst⟩
theorem i_ConstraintValid_c {c : Con} {v0_0 : Value} {H : FH} {w : World} (hst : Star H w []) (h0_0 : (rS 83 rTerm).rel H [v0_0] c.terms) {r : Bool} (hF : i_ConstraintValid c = some r) :
 C Tryz.prog 67 #[.agg #[v0_0,I c.bound]] w fun v w'=>v = Bo r∧Star H w' []:=by
 unfold i_ConstraintValid at hF
 refine C_enter Tryz.func67 rfl Tryz.ntmps67 rfl (sq (L_box (v:=.agg #[v0_0,I c.bound]) (cs:=#[v0_0,I c.bound]) rfl rfl rfl hst (fun g3 w4 hst=>aB rfl (ns (aI rfl (nq (sq (fA 0 fa_54_0 rfl rfl (ldB 0 hst Tryz.isAgg52 rfl rfl rfl (L_len rfl Tryz.underlying52 rfl (slice_len h0_0) (mI rfl (nn ?_))))))))))))
 have hlen7 : List.length c.terms≤9223372036854775807:=len_le (slice_len h0_0)
 obtain ⟨j7,hL7,hF⟩:=bind_some hF
 obtain ⟨R7,hR7⟩:=exR fun f w_=>∃ before_6 : Int,j7 = .nx before_6∧f 1 = Pt g3∧Star H w_ ([box g3 54 #[v0_0,I c.bound]])
 refine W_join R7 ?_ ?_
 refine W_block ?_
 obtain ⟨I7,hI7⟩:=exI fun n f w_=>∃ i_5 : Nat,∃ suf7 : List Term,∃ before_6 : Int,n = suf7.length∧List.drop i_5 c.terms = suf7∧i_5 + suf7.length = c.terms.length∧rangeL i_ConstraintValid_b1 suf7 i_5 before_6 = some j7∧f 1 = Pt g3∧f 3 = I before_6∧f 7 = v0_0∧f 8 = I (c.terms.length : Int)∧f 9 = I i_5∧Star H w_ ([box g3 54 #[v0_0,I c.bound]])
 refine W_loop I7 (n:=c.terms.length) ?_ ?_
 exact ij hI7 ⟨0,c.terms,0,rfl,rfl,Nat.zero_add _,hL7,rfl,rfl,rfl,rfl,rfl,hst⟩
 intro n7 f w_ hI
 obtain ⟨i_5,suf7,before_6,rfl,hd7,hl7,hL7,sf1,sf3,sf7,sf8,sf9,hst⟩:=ik hI7 hI
 refine sq (L_lss rfl sf9 sf8 (nq (W_cond (b:=decide ((i_5 : Int) < (c.terms.length : Int))) rfl (fun hc8=>?_) (fun hc8=>?_))))
 have hlt7:=of_decide_eq_true hc8
 rcases suf7 with _ | ⟨x_7,rest7⟩
 exact absurd hlt7 (by simp at hl7; omega)
 obtain ⟨o7,hB7,hL7⟩:=range_cons hL7
 rw [i_ConstraintValid_b1] at hB7
 have hix7:=drop_idx hd7
 refine W_skip (W_seq (W_block (sq (L_ix (r:=rTerm) rfl Tryz.underlying52 Tryz.sizeOf83 sf7 h0_0 sf9 hix7 (fun g16 o17 cs_g16 hrk_hat18 hat18=>?_)))))
 obtain rfl:=rTerm_iff.1 hrk_hat18
 refine L_lda (cs:=[I x_7.coef,I x_7.lit]) rfl Tryz.isAgg83 Tryz.sizeOf83 rfl (At.sub (AtH.at hat18 hst.sub) 0 2) rfl (L_al (cs:=#[I 0,I 0]) rfl Tryz.zeroValue83 rfl hst (fun g20 w21 hst=>L_staB (vs:=#[I x_7.coef,I x_7.lit]) (cs2:=#[I x_7.coef,I x_7.lit]) 0 rfl Tryz.sizeOf83 rfl rfl rfl (ones_cons rfl (ones_cons rfl ones_nil)) hst rfl (by show 0 + 2≤2; decide) rfl (fun w22 hst=>nq (W_seq ?_))))
 obtain ⟨x28,hx28,hB7⟩:=bind_some hB7
 obtain ⟨b37,hb37,hB7⟩:=bind_some hB7
 obtain ⟨b45,hb45,hB7⟩:=bind_some hB7
 obtain ⟨R46,hR46⟩:=exR fun f w_=>f 1 = Pt g3∧f 5 = Pt g20∧f 7 = v0_0∧f 8 = I (c.terms.length : Int)∧f 9 = I i_5∧f 29 = Bo b45∧Star H w_ ([box g20 83 #[I x_7.coef,I x_7.lit],box g3 54 #[v0_0,I c.bound]])
 refine W_join R46 ?_ ?_
 refine W_region (fA 1 fa_83_1 rfl rfl (ldB 0 hst Tryz.isAgg3 rfl rfl rfl ?_))
 obtain ⟨H47b,l48,s49,z50,k51⟩:=hst.borrow
 refine L_call rfl Tryz.call83 (ops1 rfl) (i_isLiteral_c (l:=x_7.lit) s49 hx28) ?_
 rintro _ w52 ⟨rfl,hst⟩
 have hst:=k51 hst c0
 refine L_not_ rfl rfl (mB rfl (L_split (d:=17) (b:=(!x28)) rfl (fun hc53=>?_) (fun hc53=>?_)))
 rw [ite_t hc53] at hb37
 refine ps rfl (ps rfl (ps rfl (ps rfl (ps rfl (L_pick (v:=Bo b37) rfl rfl (congrArg Value.bool (so hb37)) (mB rfl (L_split (d:=24) (b:=b37) rfl (fun hc54=>?_) (fun hc54=>?_))))))))
 rw [ite_t hc54] at hb45
 refine ps rfl (ps rfl (ps rfl (ps rfl (L_pick (v:=Bo b45) rfl rfl (congrArg Value.bool (so hb45)) (nn (rj hR46 ⟨sf1,rfl,sf7,sf8,sf9,rfl,hst⟩))))))
 rw [ite_f hc54] at hb45
 obtain ⟨x43,hx43,hb45⟩:=bind_some hb45
 refine fA 0 fa_83_0 rfl rfl (ldB 0 hst Tryz.isAgg3 rfl rfl rfl ?_)
 obtain ⟨H55b,l56,s57,z58,k59⟩:=hst.borrow
 refine L_call rfl Tryz.call85 (ops3 rfl rfl rfl) (i_within_c (n_:=x_7.coef) (low:=1) (high:=1000) s57 hx43) ?_
 rintro _ w60 ⟨rfl,hst⟩
 have hst:=k59 hst c0
 refine L_not_ rfl rfl (L_pick (v:=Bo b45) rfl rfl (congrArg Value.bool (so hb45)) (nn (rj hR46 ⟨sf1,rfl,sf7,sf8,sf9,rfl,hst⟩)))
 rw [ite_f hc53] at hb37
 obtain ⟨x35,hx35,hb37⟩:=bind_some hb37
 refine fA 1 fa_83_1 rfl rfl (ldB 0 hst Tryz.isAgg3 rfl rfl rfl ?_)
 obtain ⟨H61b,l62,s63,z64,k65⟩:=hst.borrow
 refine L_call rfl Tryz.call84 (ops1 rfl) (i_variableOf_c (l:=x_7.lit) s63 hx35) ?_
 rintro _ w66 ⟨rfl,hst⟩
 have hst:=k65 hst c0
 refine mF sf3 rfl (L_leq rfl rfl rfl (L_pick (v:=Bo b37) rfl rfl (congrArg Value.bool (so hb37)) (mB rfl (L_split (d:=24) (b:=b37) rfl (fun hc67=>?_) (fun hc67=>?_)))))
 rw [ite_t hc67] at hb45
 refine ps rfl (ps rfl (ps rfl (ps rfl (L_pick (v:=Bo b45) rfl rfl (congrArg Value.bool (so hb45)) (nn (rj hR46 ⟨sf1,rfl,sf7,sf8,sf9,rfl,hst⟩))))))
 rw [ite_f hc67] at hb45
 obtain ⟨x43,hx43,hb45⟩:=bind_some hb45
 refine fA 0 fa_83_0 rfl rfl (ldB 0 hst Tryz.isAgg3 rfl rfl rfl ?_)
 obtain ⟨H68b,l69,s70,z71,k72⟩:=hst.borrow
 refine L_call rfl Tryz.call85 (ops3 rfl rfl rfl) (i_within_c (n_:=x_7.coef) (low:=1) (high:=1000) s70 hx43) ?_
 rintro _ w73 ⟨rfl,hst⟩
 have hst:=k72 hst c0
 refine L_not_ rfl rfl (L_pick (v:=Bo b45) rfl rfl (congrArg Value.bool (so hb45)) (nn (rj hR46 ⟨sf1,rfl,sf7,sf8,sf9,rfl,hst⟩)))
 intro f w_ hR
 obtain ⟨sf1,sf5,sf7,sf8,sf9,sf29,hst⟩:=rk hR46 hR
 refine W_cond (b:=b45) sf29 (fun hc74=>?_) (fun hc74=>?_)
 have hB7:=(ite_t hc74).symm.trans hB7
 refine sq (aB rfl (nn (W_ret (retG1 (v1:=Bo false) Tryz.results67 rfl ?_))))
 obtain rfl:=so hB7
 obtain rfl:=so hL7
 obtain rfl:=so hF
 exact ⟨rfl,(Star.keepN 0 hst)⟩
 have hB7:=(ite_f hc74).symm.trans hB7
 refine W_skip ?_
 obtain ⟨x80,hx80,hB7⟩:=bind_some hB7
 refine W_region (fA 1 fa_83_1 sf5 rfl (ldB 0 hst Tryz.isAgg3 rfl rfl rfl ?_))
 obtain ⟨H82b,l83,s84,z85,k86⟩:=hst.borrow
 refine L_call rfl Tryz.call84 (ops1 rfl) (i_variableOf_c (l:=x_7.lit) s84 hx80) ?_
 rintro _ w87 ⟨rfl,hst⟩
 have hst:=k86 hst c0
 refine aI rfl (nn (W_region (L_add rfl sf9 rfl (mI rfl (nn ?_)))))
 obtain rfl:=so hB7
 have hst:=hst.get 1 rfl
 show ∃ m,m < _∧I7 m _ _
 refine ⟨rest7.length,by simp,?_⟩
 exact ij hI7 ⟨i_5 + 1,rest7,x80,rfl,drop_next hd7,by simp at hl7; omega,hL7,sf1,rfl,sf7,sf8,(Eq.trans rfl (congrArg (Value.int .i64) (i64_succ (n:=c.terms.length) (by simp at hl7; omega) hlen7))),(Star.keepN 1 hst)⟩
 rcases suf7 with _ | ⟨_,_⟩
 obtain rfl:=range_nil hL7
 refine W_exit (rj hR7 ⟨before_6,rfl,sf1,hst⟩)
 exact absurd (of_decide_eq_false hc8) (by simp at hl7; omega)
 intro f w_ hR
 obtain ⟨before_6,rfl,sf1,hst⟩:=rk hR7 hR
 refine W_seq ?_
 obtain ⟨x93,hx93,hF⟩:=bind_some hF
 refine W_region (fA 1 fa_54_1 sf1 rfl (ldB 0 hst Tryz.isAgg3 rfl rfl rfl ?_))
 obtain ⟨H95b,l96,s97,z98,k99⟩:=hst.borrow
 refine L_call rfl Tryz.call85 (ops3 rfl rfl rfl) (i_within_c (n_:=c.bound) (low:=0) (high:=20000) s97 hx93) ?_
 rintro _ w100 ⟨rfl,hst⟩
 have hst:=k99 hst c0
 refine aB rfl (nn (W_ret (retG1 (v1:=Bo x93) Tryz.results67 rfl ?_)))
 obtain rfl:=so hF
 exact ⟨rfl,(Star.keepN 0 hst)⟩
theorem i_allValid_1_c {c : Con} {v0_0 : Value} {H : FH} {w : World} (hst : Star H w []) (h0_0 : (rS 83 rTerm).rel H [v0_0] c.terms) {r : Bool} (hF : i_allValid_1 c = some r) :
 C Tryz.prog 88 #[.agg #[v0_0,I c.bound]] w fun v w'=>v = Bo r∧Star H w' []:=by
 unfold i_allValid_1 at hF
 refine C_enter Tryz.func88 rfl Tryz.ntmps88 rfl (sq (L_box (v:=.agg #[v0_0,I c.bound]) (cs:=#[v0_0,I c.bound]) rfl rfl rfl hst (fun g3 w4 hst=>aB rfl (nq ?_))))
 obtain ⟨x10,hx10,hF⟩:=bind_some hF
 refine W_region (L_lda (cs:=[v0_0,I c.bound]) rfl Tryz.isAgg54 Tryz.sizeOf54 rfl (At.sub0 (Blk.at (Star.blkAt 0 hst rfl)) 0 2) rfl ?_)
 obtain ⟨H12b,l13,s14,z15,k16⟩:=hst.borrow
 refine L_call rfl Tryz.call67 (ops1 rfl) (i_ConstraintValid_c (c:=c) s14 (RP.mono _ h0_0 l13) hx10) ?_
 rintro _ w17 ⟨rfl,hst⟩
 have hst:=k16 hst c0
 refine L_not_ rfl rfl (aB rfl (nn (W_ret (retG1 (v1:=Bo (!x10)) Tryz.results88 rfl ?_))))
 obtain rfl:=so hF
 exact ⟨rfl,(Star.keepN 0 hst)⟩
theorem i_allValid_c {list : List Con} {v0 : Value} {H : FH} {w : World} (hst : Star H w []) (h0 : (rS 54 (rCon 83)).rel H [v0] list) {r : Bool} (hF : i_allValid list = some r) :
 C Tryz.prog 72 #[v0] w fun v w'=>v = Bo r∧Star H w' []:=by
 unfold i_allValid at hF
 refine C_enter Tryz.func72 rfl Tryz.ntmps72 rfl (sq (aB rfl (nq ?_)))
 obtain ⟨x6,hx6,hF⟩:=bind_some hF
 refine W_region (mV v0 rfl ?_)
 obtain ⟨H8b,l9,s10,z11,k12⟩:=hst.borrow
 have hf13 : Fun1 Tryz.prog (rCon 83) true Value.bool i_allValid_1 (.func (.func 88) #[] #[]) H8b:=by
   refine ⟨_,_,rfl,Tryz.call88,fun H_ w_ hE_ hs_ cs_ x_ y_ args_ hr_ hy_ ha_=>?_⟩
   obtain ⟨p_0,rfl,hp_0⟩:=rCon_iff.1 hr_
   obtain rfl:=args_of (b:=#[.agg #[p_0,I x_.bound]]) ha_
   exact i_allValid_1_c (c:=x_) hs_ hp_0 hy_
 refine L_call rfl Tryz.call87 (ops2 rfl rfl) (slices_ContainsFunc_implConstraint_c (s:=list) (f_:=i_allValid_1) s10 (RP.mono _ h0 l9) hf13 hx6) ?_
 rintro _ w14 ⟨rfl,hst⟩
 have hst:=k12 hst c0
 refine L_not_ rfl rfl (aB rfl (nn (W_ret (retG1 (v1:=Bo (!x6)) Tryz.results72 rfl ?_))))
 obtain rfl:=so hF
 exact ⟨rfl,hst⟩
theorem i_ProblemValid_c {list : List Con} {v0 : Value} {H : FH} {w : World} (hst : Star H w []) (h0 : (rS 54 (rCon 83)).rel H [v0] list) {r : Bool} (hF : i_ProblemValid list = some r) :
 C Tryz.prog 64 #[v0] w fun v w'=>v = Bo r∧Star H w' []:=by
 unfold i_ProblemValid at hF
 refine C_enter Tryz.func64 rfl Tryz.ntmps64 rfl (sq (aB rfl (nq ?_)))
 obtain ⟨b8,hb8,hF⟩:=bind_some hF
 obtain ⟨R9,hR9⟩:=exR fun f w_=>f 2 = Bo b8∧Star H w_ ([])
 refine W_join R9 ?_ ?_
 refine W_region (mV v0 rfl (L_len rfl Tryz.underlying29 rfl (slice_len h0) (L_leq rfl rfl rfl (mB rfl (L_split (d:=6) (b:=decide ((list.length : Int)≤400)) rfl (fun hc10=>?_) (fun hc10=>?_))))))
 rw [ite_t hc10] at hb8
 obtain ⟨x6,hx6,hb8⟩:=bind_some hb8
 refine mV v0 rfl ?_
 obtain ⟨H11b,l12,s13,z14,k15⟩:=hst.borrow
 refine L_call rfl Tryz.call72 (ops1 rfl) (i_allValid_c (list:=list) s13 (RP.mono _ h0 l12) hx6) ?_
 rintro _ w16 ⟨rfl,hst⟩
 have hst:=k15 hst c0
 refine L_pick (v:=Bo b8) rfl rfl (congrArg Value.bool (so hb8)) (aB rfl (nn (rj hR9 ⟨rfl,hst⟩)))
 rw [ite_f hc10] at hb8
 refine ps rfl (ps rfl (L_pick (v:=Bo b8) rfl rfl (congrArg Value.bool (so hb8)) (aB rfl (nn (rj hR9 ⟨rfl,hst⟩)))))
 intro f w_ hR
 obtain ⟨sf2,hst⟩:=rk hR9 hR
 refine W_ret (retG1 (v1:=Bo b8) Tryz.results64 sf2 ?_)
 obtain rfl:=so hF
 exact ⟨rfl,hst⟩
theorem slices_Clone_implConstraint_c {s : List Con} {v0 : Value} {H : FH} {w : World} {R : List Ass} (hst : Star H w R) (h0 : (rS 54 (rCon 83)).rel H [v0] s) {r : List Con} (hF : slices_Clone_implConstraint s = some r) :
 C Tryz.prog 65 #[v0] w fun v w'=>∃ H' : FH,Le H H'∧∃ (u1 : Value),v = u1∧Star H' w' (oF 54 (rCon 83) u1 r :: R):=by
 unfold slices_Clone_implConstraint at hF
 refine C_enter Tryz.func65 rfl Tryz.ntmps65 rfl (sq (aV S0 rfl (nq (sq (mV v0 rfl ?_)))))
 obtain ⟨a1,cap1,hsl1,_,_⟩:=(slice_len h0)
 refine L_nileq (a:=a1) rfl Tryz.underlying29 (Eq.trans rfl hsl1) rfl ?_
 rw [← hsl1]
 refine nn ?_
 rcases Bool.eq_false_or_eq_true (isNilS v0) with hn2 | hn2
 refine W_cond (b:=true) (Eq.trans rfl (congrArg Value.bool hn2)) (fun _=>?_) (fun h=>nomatch h)
 obtain rfl:=nil_of h0 hn2
 refine sq (aV S0 rfl (nn (W_ret (retG1 (v1:=S0) Tryz.results65 rfl ?_))))
 simp [app] at hF
 subst hF
 have hst:=Star.addNil (R:=(OR.frz (rCon 83))) (e:=54) hst
 exact ⟨H,(Le.refl _),S0,rfl,hst⟩
 refine W_cond (b:=false) (Eq.trans rfl (congrArg Value.bool hn2)) (fun h=>nomatch h) (fun _=>?_)
 refine W_skip (W_seq ?_)
 obtain ⟨x7,hx7,hF⟩:=bind_some hF
 refine W_region (L_bs rfl parts0 (bs_29_0  ) hst (fun g11 w12 hst=>?_))
 have hst:=Star.mkRow (R:=(OR.frz (rCon 83))) [] [] 0 hst rfl rfl rfl (by decide)
 refine mV v0 rfl (L_app (v:=(Sl g11 0 0)) (u:=v0) rfl et_29 rfl rfl hst h0 hx7 (fun v14 w15 hst=>aV v14 rfl (nn (W_ret (retG1 (v1:=v14) Tryz.results65 rfl ?_)))))
 obtain rfl:=so hF
 exact ⟨H,(Le.refl _),v14,rfl,hst⟩
theorem slices_Equal_implTerm_c {s1 : List Term} {s2 : List Term} {v0 : Value} {v1 : Value} {H : FH} {w : World} (hst : Star H w []) (h0 : (rS 83 rTerm).rel H [v0] s1) (h1 : (rS 83 rTerm).rel H [v1] s2) {r : Bool} (hF : slices_Equal_implTerm s1 s2 = some r) :
 C Tryz.prog 98 #[v0,v1] w fun v w'=>v = Bo r∧Star H w' []:=by
 unfold slices_Equal_implTerm at hF
 refine C_enter Tryz.func98 rfl Tryz.ntmps98 rfl (sq (aB rfl (nq (sq (mV v0 rfl (L_len rfl Tryz.underlying52 rfl (slice_len h0) (mV v1 rfl (L_len rfl Tryz.underlying52 rfl (slice_len h1) (L_neq rfl rfl rfl (nn (W_cond (b:=((s1.length : Int) != (s2.length : Int))) rfl (fun hc1=>?_) (fun hc1=>?_))))))))))))
 have hF:=(ite_t hc1).symm.trans hF
 refine sq (aB rfl (nn (W_ret (retG1 (v1:=Bo false) Tryz.results98 rfl ?_))))
 obtain rfl:=so hF
 exact ⟨rfl,hst⟩
 have hF:=(ite_f hc1).symm.trans hF
 refine W_skip (W_seq (sq (mV v0 rfl (L_len rfl Tryz.underlying52 rfl (slice_len h0) (mI rfl (nn ?_))))))
 have hlen5 : List.length s1≤9223372036854775807:=len_le (slice_len h0)
 obtain ⟨j5,hL5,hF⟩:=bind_some hF
 obtain ⟨R5,hR5⟩:=exR fun f w_=>∃ H3 : FH,j5 = .nx ()∧Le H H3∧Star H3 w_ ([])
 refine W_join R5 ?_ ?_
 refine W_block ?_
 obtain ⟨I5,hI5⟩:=exI fun n f w_=>∃ i_2 : Nat,∃ suf5 : List Term,∃ H3 : FH,n = suf5.length∧List.drop i_2 s1 = suf5∧i_2 + suf5.length = s1.length∧rangeL (slices_Equal_implTerm_b1 s2) suf5 i_2 () = some j5∧Le H H3∧f 0 = v0∧f 1 = v1∧f 12 = I (s1.length : Int)∧f 13 = I i_2∧Star H3 w_ ([])
 refine W_loop I5 (n:=s1.length) ?_ ?_
 exact ij hI5 ⟨0,s1,H,rfl,rfl,Nat.zero_add _,hL5,(Le.refl _),rfl,rfl,rfl,rfl,hst⟩
 intro n5 f w_ hI
 obtain ⟨i_2,suf5,H3,rfl,hd5,hl5,hL5,l4,sf0,sf1,sf12,sf13,hst⟩:=ik hI5 hI
 refine sq (L_lss rfl sf13 sf12 (nq (W_cond (b:=decide ((i_2 : Int) < (s1.length : Int))) rfl (fun hc6=>?_) (fun hc6=>?_))))
 have hlt5:=of_decide_eq_true hc6
 rcases suf5 with _ | ⟨x_5,rest5⟩
 exact absurd hlt5 (by simp at hl5; omega)
 obtain ⟨o5,hB5,hL5⟩:=range_cons hL5
 rw [slices_Equal_implTerm_b1] at hB5
 have hix5:=drop_idx hd5
 refine W_skip (W_seq (W_block (sq (mF sf13 rfl (aI rfl (nq ?_))))))
 obtain ⟨x11,hx11,hB5⟩:=bind_some hB5
 refine W_drawS 8 [isV (v0),isV (I i_2),isEl rTerm x_5 0,isV (.agg #[I x_5.coef,I x_5.lit]),isV (v1),isV (I i_2),isEl rTerm x11 0,isV (.agg #[I x11.coef,I x11.lit])] [] [] ([]) [([],[]),([],[]),([],[]),([],[]),([],[]),([],[]),([],[]),([],[])] (S:=[]) Tryz_mix (by kernel_rfl) rfl (by kernel_rfl) (amF_cons (mono_V _) (amF_cons (mono_V _) (amF_cons (mono_el _ _ _) (amF_cons (mono_V _) (amF_cons (mono_V _) (amF_cons (mono_V _) (amF_cons (mono_el _ _ _) (amF_cons (mono_V _) amF_nil)))))))) hst ?_ (fun f w_ H16 hS16 hE16 hT16 hst=>?_)
 refine opsS_cons (fun f w_ _ _ s _ _ hst=>mF ((s 0 rfl).trans sf0) rfl (nO rfl rfl hst)) (opsS_cons (fun f w_ _ _ s _ _ hst=>mF ((s 5 rfl).trans rfl) rfl (nO rfl rfl hst)) (opsS_cons ?_ ?_))
 intro f w_ H16 X16 hS16 hE16 hP16 hst
 refine L_ix (r:=rTerm) rfl Tryz.underlying52 Tryz.sizeOf83 (hP16 0 16 rfl rfl) (RP.mono _ h0 (Le.trans l4 hE16)) (hP16 1 17 rfl rfl) hix5 (fun g25 o26 cs_g25 hrk_hat27 hat27=>?_)
 obtain rfl:=rTerm_iff.1 hrk_hat27
 exact L_nil ⟨rfl,_,_,rfl,Le.refl _,fun _ _=>⟨_,_,_,rfl,hrk_hat27,hat27⟩,hst⟩
 refine opsS_cons ?_ ?_
 intro f w_ H16 X16 hS16 hE16 hP16 hst
 obtain ⟨g29,o29,cs29,hv29,hrk_hat29,hat29⟩:=(hP16 2 18 rfl rfl)
 obtain rfl:=rTerm_iff.1 hrk_hat29
 refine L_lda (cs:=[I x_5.coef,I x_5.lit]) rfl Tryz.isAgg83 Tryz.sizeOf83 hv29 (At.sub (AtH.at hat29 hst.sub) 0 2) rfl (L_nil ⟨rfl,_,_,rfl,Le.refl _,fun _ _=>rfl,hst⟩)
 refine opsS_cons (fun f w_ _ _ s _ _ hst=>mF ((s 1 rfl).trans sf1) rfl (nO rfl rfl hst)) (opsS_cons (fun f w_ _ _ s _ _ hst=>mF ((s 5 rfl).trans rfl) rfl (nO rfl rfl hst)) (opsS_cons ?_ ?_))
 intro f w_ H16 X16 hS16 hE16 hP16 hst
 refine L_ix (r:=rTerm) rfl Tryz.underlying52 Tryz.sizeOf83 (hP16 4 20 rfl rfl) (RP.mono _ h1 (Le.trans l4 hE16)) (hP16 5 21 rfl rfl) hx11 (fun g31 o32 cs_g31 hrk_hat33 hat33=>?_)
 obtain rfl:=rTerm_iff.1 hrk_hat33
 exact L_nil ⟨rfl,_,_,rfl,Le.refl _,fun _ _=>⟨_,_,_,rfl,hrk_hat33,hat33⟩,hst⟩
 refine opsS_cons ?_ ?_
 intro f w_ H16 X16 hS16 hE16 hP16 hst
 obtain ⟨g35,o35,cs35,hv35,hrk_hat35,hat35⟩:=(hP16 6 22 rfl rfl)
 obtain rfl:=rTerm_iff.1 hrk_hat35
 refine L_lda (cs:=[I x11.coef,I x11.lit]) rfl Tryz.isAgg83 Tryz.sizeOf83 hv35 (At.sub (AtH.at hat35 hst.sub) 0 2) rfl (L_nil ⟨rfl,_,_,rfl,Le.refl _,fun _ _=>rfl,hst⟩)
 exact opsS_nil
 refine L_tneq (x1:=x_5.coef) (x2:=x_5.lit) (y1:=x11.coef) (y2:=x11.lit) rfl termEq_83 (hT16 3 19 rfl rfl) (hT16 7 23 rfl rfl) (nn (W_cond (b:=(!(x_5 == x11))) rfl (fun hc37=>?_) (fun hc37=>?_)))
 have hB5:=(ite_t hc37).symm.trans hB5
 refine sq (aB rfl (nn (W_ret (retG1 (v1:=Bo false) Tryz.results98 rfl ?_))))
 obtain rfl:=so hB5
 obtain rfl:=so hL5
 obtain rfl:=so hF
 exact ⟨rfl,(Star.down hst (Le.trans l4 hE16) c0)⟩
 have hB5:=(ite_f hc37).symm.trans hB5
 refine W_skip (W_region (L_add rfl ((hS16 13 rfl).trans sf13) rfl (mI rfl (nn ?_))))
 obtain rfl:=so hB5
 show ∃ m,m < _∧I5 m _ _
 refine ⟨rest5.length,by simp,?_⟩
 exact ij hI5 ⟨i_2 + 1,rest5,H16,rfl,drop_next hd5,by simp at hl5; omega,hL5,(Le.trans l4 hE16),((hS16 0 rfl).trans sf0),((hS16 1 rfl).trans sf1),((hS16 12 rfl).trans sf12),(Eq.trans rfl (congrArg (Value.int .i64) (i64_succ (n:=s1.length) (by simp at hl5; omega) hlen5))),hst⟩
 rcases suf5 with _ | ⟨_,_⟩
 obtain rfl:=range_nil hL5
 refine W_exit (rj hR5 ⟨H3,rfl,l4,hst⟩)
 exact absurd (of_decide_eq_false hc6) (by simp at hl5; omega)
 intro f w_ hR
 obtain ⟨H3,rfl,l4,hst⟩:=rk hR5 hR
 refine sq (aB rfl (nn (W_ret (retG1 (v1:=Bo true) Tryz.results98 rfl ?_))))
 obtain rfl:=so hF
 exact ⟨rfl,(Star.down hst l4 c0)⟩
theorem i_ConstraintSame_c {a : Con} {b : Con} {v0_0 : Value} {v1_0 : Value} {H : FH} {w : World} (hst : Star H w []) (h0_0 : (rS 83 rTerm).rel H [v0_0] a.terms) (h1_0 : (rS 83 rTerm).rel H [v1_0] b.terms) {r : Bool} (hF : i_ConstraintSame a b = some r) :
 C Tryz.prog 89 #[.agg #[v0_0,I a.bound],.agg #[v1_0,I b.bound]] w fun v w'=>v = Bo r∧Star H w' []:=by
 unfold i_ConstraintSame at hF
 refine C_enter Tryz.func89 rfl Tryz.ntmps89 rfl (sq (L_box (v:=.agg #[v0_0,I a.bound]) (cs:=#[v0_0,I a.bound]) rfl rfl rfl hst (fun g5 w6 hst=>L_box (v:=.agg #[v1_0,I b.bound]) (cs:=#[v1_0,I b.bound]) rfl rfl rfl hst (fun g7 w8 hst=>aB rfl (nq ?_)))))
 obtain ⟨b16,hb16,hF⟩:=bind_some hF
 obtain ⟨R17,hR17⟩:=exR fun f w_=>f 4 = Bo b16∧Star H w_ ([])
 refine W_join R17 ?_ ?_
 refine W_region (fA 1 fa_54_1 rfl rfl (ldB 1 hst Tryz.isAgg3 rfl rfl rfl (fA 1 fa_54_1 rfl rfl (ldB 0 hst Tryz.isAgg3 rfl rfl rfl (L_eql rfl rfl rfl (mB rfl (L_split (d:=10) (b:=(a.bound == b.bound)) rfl (fun hc18=>?_) (fun hc18=>?_))))))))
 rw [ite_t hc18] at hb16
 obtain ⟨x14,hx14,hb16⟩:=bind_some hb16
 refine fA 0 fa_54_0 rfl rfl (ldB 1 hst Tryz.isAgg52 rfl rfl rfl (fA 0 fa_54_0 rfl rfl (ldB 0 hst Tryz.isAgg52 rfl rfl rfl ?_)))
 obtain ⟨H19b,l20,s21,z22,k23⟩:=hst.borrow
 refine L_call rfl Tryz.call98 (ops2 rfl rfl) (slices_Equal_implTerm_c (s1:=a.terms) (s2:=b.terms) s21 (RP.mono _ h0_0 l20) (RP.mono _ h1_0 l20) hx14) ?_
 rintro _ w24 ⟨rfl,hst⟩
 have hst:=k23 hst c0
 refine L_pick (v:=Bo b16) rfl rfl (congrArg Value.bool (so hb16)) (aB rfl (nn (rj hR17 ⟨rfl,(Star.keepN 0 hst)⟩)))
 rw [ite_f hc18] at hb16
 refine ps rfl (ps rfl (ps rfl (ps rfl (ps rfl (L_pick (v:=Bo b16) rfl rfl (congrArg Value.bool (so hb16)) (aB rfl (nn (rj hR17 ⟨rfl,(Star.keepN 0 hst)⟩))))))))
 intro f w_ hR
 obtain ⟨sf4,hst⟩:=rk hR17 hR
 refine W_ret (retG1 (v1:=Bo b16) Tryz.results89 sf4 ?_)
 obtain rfl:=so hF
 exact ⟨rfl,hst⟩
theorem i_Step_shaped_c {s : Step} {v0_3 : Value} {H : FH} {w : World} (hst : Star H w []) (h0_3 : (rS 83 rTerm).rel H [v0_3] s.given.terms) {r : Bool} (hF : i_Step_shaped s = some r) :
 C Tryz.prog 73 #[.agg #[I s.kind,I s.a,I s.b,v0_3,I s.given.bound]] w fun v w'=>v = Bo r∧Star H w' []:=by
 unfold i_Step_shaped at hF
 refine C_enter Tryz.func73 rfl Tryz.ntmps73 rfl (sq (L_box (v:=.agg #[I s.kind,I s.a,I s.b,v0_3,I s.given.bound]) (cs:=#[I s.kind,I s.a,I s.b,v0_3,I s.given.bound]) rfl rfl rfl hst (fun g3 w4 hst=>aB rfl (nq ?_))))
 obtain ⟨x10,hx10,hF⟩:=bind_some hF
 refine W_region (fA 0 fa_56_0 rfl rfl (ldB 0 hst Tryz.isAgg3 rfl rfl rfl ?_))
 obtain ⟨H12b,l13,s14,z15,k16⟩:=hst.borrow
 refine L_call rfl Tryz.call25 (ops1 rfl) (i_refers_c (kind:=s.kind) s14 hx10) ?_
 rintro _ w17 ⟨rfl,hst⟩
 have hst:=k16 hst c0
 refine mV (.tuple #[I x10.1,Bo x10.2]) rfl (L_ex (v:=I x10.1) rfl rfl rfl (L_ex (v:=Bo x10.2) rfl rfl rfl (aI rfl (aB rfl (nq ?_)))))
 obtain ⟨b26,hb26,hF⟩:=bind_some hF
 obtain ⟨R27,hR27⟩:=exR fun f w_=>f 2 = Bo b26∧Star H w_ ([])
 refine W_join R27 ?_ ?_
 refine W_region (mI rfl (L_geq rfl rfl rfl (mB rfl (L_split (d:=13) (b:=decide (x10.1 ≥ 0)) rfl (fun hc28=>?_) (fun hc28=>?_)))))
 refine mI rfl (L_gtr rfl rfl rfl (mB rfl (L_split (d:=16) (b:=decide (x10.1 > 0)) rfl (fun hc29=>?_) (fun hc29=>?_))))
 refine ps rfl (ps rfl (ps rfl (L_pick (v:=Bo ((decide (x10.1 > 0)) || (s.kind == 6))) rfl rfl (or_t hc29) (mB rfl (L_split (d:=21) (b:=((decide (x10.1 > 0)) || (s.kind == 6))) rfl (fun hc30=>?_) (fun hc30=>?_))))))
 refine ps rfl (ps rfl (ps rfl (L_pick (v:=Bo (((decide (x10.1 > 0)) || (s.kind == 6)) || (s.a == 0))) rfl rfl (or_t hc30) (L_pick (v:=Bo ((decide (x10.1 ≥ 0)) && (((decide (x10.1 > 0)) || (s.kind == 6)) || (s.a == 0)))) rfl rfl (and_t hc28 rfl) (mB rfl (L_split (d:=27) (b:=((decide (x10.1 ≥ 0)) && (((decide (x10.1 > 0)) || (s.kind == 6)) || (s.a == 0)))) rfl (fun hc31=>?_) (fun hc31=>?_)))))))
 refine mI rfl (L_eql rfl rfl rfl (mB rfl (L_split (d:=30) (b:=(x10.1 == 2)) rfl (fun hc32=>?_) (fun hc32=>?_))))
 refine ps rfl (L_pick (v:=Bo ((x10.1 == 2) || x10.2)) rfl rfl (or_t hc32) (mB rfl (L_split (d:=33) (b:=((x10.1 == 2) || x10.2)) rfl (fun hc33=>?_) (fun hc33=>?_))))
 refine ps rfl (ps rfl (ps rfl (L_pick (v:=Bo (((x10.1 == 2) || x10.2) || (s.b == 0))) rfl rfl (or_t hc33) (L_pick (v:=Bo (((decide (x10.1 ≥ 0)) && (((decide (x10.1 > 0)) || (s.kind == 6)) || (s.a == 0))) && (((x10.1 == 2) || x10.2) || (s.b == 0)))) rfl rfl (and_t hc31 rfl) (mB rfl (L_split (d:=39) (b:=(((decide (x10.1 ≥ 0)) && (((decide (x10.1 > 0)) || (s.kind == 6)) || (s.a == 0))) && (((x10.1 == 2) || x10.2) || (s.b == 0)))) rfl (fun hc34=>?_) (fun hc34=>?_)))))))
 rw [ite_t hc34] at hb26
 obtain ⟨b25,hb25,hb26⟩:=bind_some hb26
 refine fA 0 fa_56_0 rfl rfl (ldB 0 hst Tryz.isAgg3 rfl rfl rfl (L_eql rfl rfl rfl (mB rfl (L_split (d:=43) (b:=(s.kind == 7)) rfl (fun hc35=>?_) (fun hc35=>?_)))))
 rw [ite_t hc35] at hb25
 refine ps rfl (ps rfl (ps rfl (ps rfl (L_pick (v:=Bo b25) rfl rfl (congrArg Value.bool (so hb25)) (L_pick (v:=Bo b26) rfl rfl (congrArg Value.bool (so hb26)) (aB rfl (nn (rj hR27 ⟨rfl,(Star.keepN 0 hst)⟩))))))))
 rw [ite_f hc35] at hb25
 obtain ⟨x23,hx23,hb25⟩:=bind_some hb25
 refine fA 3 fa_56_3 rfl rfl (L_lda (cs:=[v0_3,I s.given.bound]) rfl Tryz.isAgg54 Tryz.sizeOf54 rfl (At.sub0 (Blk.at (Star.blkAt 0 hst rfl)) 3 2) rfl (L_bld rfl (parts0 ) (bld_54_  ) ?_))
 obtain ⟨H36b,l37,s38,z39,k40⟩:=hst.borrow
 refine L_call rfl Tryz.call89 (ops2 rfl rfl) (i_ConstraintSame_c (a:=s.given) (b:=({ terms:=[],bound:=0 } : Con)) s38 (RP.mono _ h0_3 l37) (rel_nil _ _ _) hx23) ?_
 rintro _ w41 ⟨rfl,hst⟩
 have hst:=k40 hst c0
 refine L_pick (v:=Bo b25) rfl rfl (congrArg Value.bool (so hb25)) (L_pick (v:=Bo b26) rfl rfl (congrArg Value.bool (so hb26)) (aB rfl (nn (rj hR27 ⟨rfl,(Star.keepN 0 hst)⟩))))
 rw [ite_f hc34] at hb26
 refine ps rfl (ps rfl (ps rfl (ps rfl (ps rfl (ps rfl (ps rfl (ps rfl (ps rfl (L_pick (v:=Bo b26) rfl rfl (congrArg Value.bool (so hb26)) (aB rfl (nn (rj hR27 ⟨rfl,(Star.keepN 0 hst)⟩))))))))))))
 refine fA 2 fa_56_2 rfl rfl (ldB 0 hst Tryz.isAgg3 rfl rfl rfl (L_eql rfl rfl rfl (L_pick (v:=Bo (((x10.1 == 2) || x10.2) || (s.b == 0))) rfl rfl (or_f hc33 rfl) (L_pick (v:=Bo (((decide (x10.1 ≥ 0)) && (((decide (x10.1 > 0)) || (s.kind == 6)) || (s.a == 0))) && (((x10.1 == 2) || x10.2) || (s.b == 0)))) rfl rfl (and_t hc31 rfl) (mB rfl (L_split (d:=39) (b:=(((decide (x10.1 ≥ 0)) && (((decide (x10.1 > 0)) || (s.kind == 6)) || (s.a == 0))) && (((x10.1 == 2) || x10.2) || (s.b == 0)))) rfl (fun hc42=>?_) (fun hc42=>?_)))))))
 rw [ite_t hc42] at hb26
 obtain ⟨b25,hb25,hb26⟩:=bind_some hb26
 refine fA 0 fa_56_0 rfl rfl (ldB 0 hst Tryz.isAgg3 rfl rfl rfl (L_eql rfl rfl rfl (mB rfl (L_split (d:=43) (b:=(s.kind == 7)) rfl (fun hc43=>?_) (fun hc43=>?_)))))
 rw [ite_t hc43] at hb25
 refine ps rfl (ps rfl (ps rfl (ps rfl (L_pick (v:=Bo b25) rfl rfl (congrArg Value.bool (so hb25)) (L_pick (v:=Bo b26) rfl rfl (congrArg Value.bool (so hb26)) (aB rfl (nn (rj hR27 ⟨rfl,(Star.keepN 0 hst)⟩))))))))
 rw [ite_f hc43] at hb25
 obtain ⟨x23,hx23,hb25⟩:=bind_some hb25
 refine fA 3 fa_56_3 rfl rfl (L_lda (cs:=[v0_3,I s.given.bound]) rfl Tryz.isAgg54 Tryz.sizeOf54 rfl (At.sub0 (Blk.at (Star.blkAt 0 hst rfl)) 3 2) rfl (L_bld rfl (parts0 ) (bld_54_  ) ?_))
 obtain ⟨H44b,l45,s46,z47,k48⟩:=hst.borrow
 refine L_call rfl Tryz.call89 (ops2 rfl rfl) (i_ConstraintSame_c (a:=s.given) (b:=({ terms:=[],bound:=0 } : Con)) s46 (RP.mono _ h0_3 l45) (rel_nil _ _ _) hx23) ?_
 rintro _ w49 ⟨rfl,hst⟩
 have hst:=k48 hst c0
 refine L_pick (v:=Bo b25) rfl rfl (congrArg Value.bool (so hb25)) (L_pick (v:=Bo b26) rfl rfl (congrArg Value.bool (so hb26)) (aB rfl (nn (rj hR27 ⟨rfl,(Star.keepN 0 hst)⟩))))
 rw [ite_f hc42] at hb26
 refine ps rfl (ps rfl (ps rfl (ps rfl (ps rfl (ps rfl (ps rfl (ps rfl (ps rfl (L_pick (v:=Bo b26) rfl rfl (congrArg Value.bool (so hb26)) (aB rfl (nn (rj hR27 ⟨rfl,(Star.keepN 0 hst)⟩))))))))))))
 refine mB rfl (L_pick (v:=Bo ((x10.1 == 2) || x10.2)) rfl rfl (or_f hc32 rfl) (mB rfl (L_split (d:=33) (b:=((x10.1 == 2) || x10.2)) rfl (fun hc50=>?_) (fun hc50=>?_))))
 refine ps rfl (ps rfl (ps rfl (L_pick (v:=Bo (((x10.1 == 2) || x10.2) || (s.b == 0))) rfl rfl (or_t hc50) (L_pick (v:=Bo (((decide (x10.1 ≥ 0)) && (((decide (x10.1 > 0)) || (s.kind == 6)) || (s.a == 0))) && (((x10.1 == 2) || x10.2) || (s.b == 0)))) rfl rfl (and_t hc31 rfl) (mB rfl (L_split (d:=39) (b:=(((decide (x10.1 ≥ 0)) && (((decide (x10.1 > 0)) || (s.kind == 6)) || (s.a == 0))) && (((x10.1 == 2) || x10.2) || (s.b == 0)))) rfl (fun hc51=>?_) (fun hc51=>?_)))))))
 rw [ite_t hc51] at hb26
 obtain ⟨b25,hb25,hb26⟩:=bind_some hb26
 refine fA 0 fa_56_0 rfl rfl (ldB 0 hst Tryz.isAgg3 rfl rfl rfl (L_eql rfl rfl rfl (mB rfl (L_split (d:=43) (b:=(s.kind == 7)) rfl (fun hc52=>?_) (fun hc52=>?_)))))
 rw [ite_t hc52] at hb25
 refine ps rfl (ps rfl (ps rfl (ps rfl (L_pick (v:=Bo b25) rfl rfl (congrArg Value.bool (so hb25)) (L_pick (v:=Bo b26) rfl rfl (congrArg Value.bool (so hb26)) (aB rfl (nn (rj hR27 ⟨rfl,(Star.keepN 0 hst)⟩))))))))
 rw [ite_f hc52] at hb25
 obtain ⟨x23,hx23,hb25⟩:=bind_some hb25
 refine fA 3 fa_56_3 rfl rfl (L_lda (cs:=[v0_3,I s.given.bound]) rfl Tryz.isAgg54 Tryz.sizeOf54 rfl (At.sub0 (Blk.at (Star.blkAt 0 hst rfl)) 3 2) rfl (L_bld rfl (parts0 ) (bld_54_  ) ?_))
 obtain ⟨H53b,l54,s55,z56,k57⟩:=hst.borrow
 refine L_call rfl Tryz.call89 (ops2 rfl rfl) (i_ConstraintSame_c (a:=s.given) (b:=({ terms:=[],bound:=0 } : Con)) s55 (RP.mono _ h0_3 l54) (rel_nil _ _ _) hx23) ?_
 rintro _ w58 ⟨rfl,hst⟩
 have hst:=k57 hst c0
 refine L_pick (v:=Bo b25) rfl rfl (congrArg Value.bool (so hb25)) (L_pick (v:=Bo b26) rfl rfl (congrArg Value.bool (so hb26)) (aB rfl (nn (rj hR27 ⟨rfl,(Star.keepN 0 hst)⟩))))
 rw [ite_f hc51] at hb26
 refine ps rfl (ps rfl (ps rfl (ps rfl (ps rfl (ps rfl (ps rfl (ps rfl (ps rfl (L_pick (v:=Bo b26) rfl rfl (congrArg Value.bool (so hb26)) (aB rfl (nn (rj hR27 ⟨rfl,(Star.keepN 0 hst)⟩))))))))))))
 refine fA 2 fa_56_2 rfl rfl (ldB 0 hst Tryz.isAgg3 rfl rfl rfl (L_eql rfl rfl rfl (L_pick (v:=Bo (((x10.1 == 2) || x10.2) || (s.b == 0))) rfl rfl (or_f hc50 rfl) (L_pick (v:=Bo (((decide (x10.1 ≥ 0)) && (((decide (x10.1 > 0)) || (s.kind == 6)) || (s.a == 0))) && (((x10.1 == 2) || x10.2) || (s.b == 0)))) rfl rfl (and_t hc31 rfl) (mB rfl (L_split (d:=39) (b:=(((decide (x10.1 ≥ 0)) && (((decide (x10.1 > 0)) || (s.kind == 6)) || (s.a == 0))) && (((x10.1 == 2) || x10.2) || (s.b == 0)))) rfl (fun hc59=>?_) (fun hc59=>?_)))))))
 rw [ite_t hc59] at hb26
 obtain ⟨b25,hb25,hb26⟩:=bind_some hb26
 refine fA 0 fa_56_0 rfl rfl (ldB 0 hst Tryz.isAgg3 rfl rfl rfl (L_eql rfl rfl rfl (mB rfl (L_split (d:=43) (b:=(s.kind == 7)) rfl (fun hc60=>?_) (fun hc60=>?_)))))
 rw [ite_t hc60] at hb25
 refine ps rfl (ps rfl (ps rfl (ps rfl (L_pick (v:=Bo b25) rfl rfl (congrArg Value.bool (so hb25)) (L_pick (v:=Bo b26) rfl rfl (congrArg Value.bool (so hb26)) (aB rfl (nn (rj hR27 ⟨rfl,(Star.keepN 0 hst)⟩))))))))
 rw [ite_f hc60] at hb25
 obtain ⟨x23,hx23,hb25⟩:=bind_some hb25
 refine fA 3 fa_56_3 rfl rfl (L_lda (cs:=[v0_3,I s.given.bound]) rfl Tryz.isAgg54 Tryz.sizeOf54 rfl (At.sub0 (Blk.at (Star.blkAt 0 hst rfl)) 3 2) rfl (L_bld rfl (parts0 ) (bld_54_  ) ?_))
 obtain ⟨H61b,l62,s63,z64,k65⟩:=hst.borrow
 refine L_call rfl Tryz.call89 (ops2 rfl rfl) (i_ConstraintSame_c (a:=s.given) (b:=({ terms:=[],bound:=0 } : Con)) s63 (RP.mono _ h0_3 l62) (rel_nil _ _ _) hx23) ?_
 rintro _ w66 ⟨rfl,hst⟩
 have hst:=k65 hst c0
 refine L_pick (v:=Bo b25) rfl rfl (congrArg Value.bool (so hb25)) (L_pick (v:=Bo b26) rfl rfl (congrArg Value.bool (so hb26)) (aB rfl (nn (rj hR27 ⟨rfl,(Star.keepN 0 hst)⟩))))
 rw [ite_f hc59] at hb26
 refine ps rfl (ps rfl (ps rfl (ps rfl (ps rfl (ps rfl (ps rfl (ps rfl (ps rfl (L_pick (v:=Bo b26) rfl rfl (congrArg Value.bool (so hb26)) (aB rfl (nn (rj hR27 ⟨rfl,(Star.keepN 0 hst)⟩))))))))))))
 refine ps rfl (ps rfl (ps rfl (ps rfl (ps rfl (ps rfl (ps rfl (ps rfl (ps rfl (ps rfl (L_pick (v:=Bo (((decide (x10.1 ≥ 0)) && (((decide (x10.1 > 0)) || (s.kind == 6)) || (s.a == 0))) && (((x10.1 == 2) || x10.2) || (s.b == 0)))) rfl rfl (and_f hc31) (mB rfl (L_split (d:=39) (b:=(((decide (x10.1 ≥ 0)) && (((decide (x10.1 > 0)) || (s.kind == 6)) || (s.a == 0))) && (((x10.1 == 2) || x10.2) || (s.b == 0)))) rfl (fun hc67=>?_) (fun hc67=>?_)))))))))))))
 rw [ite_t hc67] at hb26
 obtain ⟨b25,hb25,hb26⟩:=bind_some hb26
 refine fA 0 fa_56_0 rfl rfl (ldB 0 hst Tryz.isAgg3 rfl rfl rfl (L_eql rfl rfl rfl (mB rfl (L_split (d:=43) (b:=(s.kind == 7)) rfl (fun hc68=>?_) (fun hc68=>?_)))))
 rw [ite_t hc68] at hb25
 refine ps rfl (ps rfl (ps rfl (ps rfl (L_pick (v:=Bo b25) rfl rfl (congrArg Value.bool (so hb25)) (L_pick (v:=Bo b26) rfl rfl (congrArg Value.bool (so hb26)) (aB rfl (nn (rj hR27 ⟨rfl,(Star.keepN 0 hst)⟩))))))))
 rw [ite_f hc68] at hb25
 obtain ⟨x23,hx23,hb25⟩:=bind_some hb25
 refine fA 3 fa_56_3 rfl rfl (L_lda (cs:=[v0_3,I s.given.bound]) rfl Tryz.isAgg54 Tryz.sizeOf54 rfl (At.sub0 (Blk.at (Star.blkAt 0 hst rfl)) 3 2) rfl (L_bld rfl (parts0 ) (bld_54_  ) ?_))
 obtain ⟨H69b,l70,s71,z72,k73⟩:=hst.borrow
 refine L_call rfl Tryz.call89 (ops2 rfl rfl) (i_ConstraintSame_c (a:=s.given) (b:=({ terms:=[],bound:=0 } : Con)) s71 (RP.mono _ h0_3 l70) (rel_nil _ _ _) hx23) ?_
 rintro _ w74 ⟨rfl,hst⟩
 have hst:=k73 hst c0
 refine L_pick (v:=Bo b25) rfl rfl (congrArg Value.bool (so hb25)) (L_pick (v:=Bo b26) rfl rfl (congrArg Value.bool (so hb26)) (aB rfl (nn (rj hR27 ⟨rfl,(Star.keepN 0 hst)⟩))))
 rw [ite_f hc67] at hb26
 refine ps rfl (ps rfl (ps rfl (ps rfl (ps rfl (ps rfl (ps rfl (ps rfl (ps rfl (L_pick (v:=Bo b26) rfl rfl (congrArg Value.bool (so hb26)) (aB rfl (nn (rj hR27 ⟨rfl,(Star.keepN 0 hst)⟩))))))))))))
 refine fA 1 fa_56_1 rfl rfl (ldB 0 hst Tryz.isAgg3 rfl rfl rfl (L_eql rfl rfl rfl (L_pick (v:=Bo (((decide (x10.1 > 0)) || (s.kind == 6)) || (s.a == 0))) rfl rfl (or_f hc30 rfl) (L_pick (v:=Bo ((decide (x10.1 ≥ 0)) && (((decide (x10.1 > 0)) || (s.kind == 6)) || (s.a == 0)))) rfl rfl (and_t hc28 rfl) (mB rfl (L_split (d:=27) (b:=((decide (x10.1 ≥ 0)) && (((decide (x10.1 > 0)) || (s.kind == 6)) || (s.a == 0)))) rfl (fun hc75=>?_) (fun hc75=>?_)))))))
 refine mI rfl (L_eql rfl rfl rfl (mB rfl (L_split (d:=30) (b:=(x10.1 == 2)) rfl (fun hc76=>?_) (fun hc76=>?_))))
 refine ps rfl (L_pick (v:=Bo ((x10.1 == 2) || x10.2)) rfl rfl (or_t hc76) (mB rfl (L_split (d:=33) (b:=((x10.1 == 2) || x10.2)) rfl (fun hc77=>?_) (fun hc77=>?_))))
 refine ps rfl (ps rfl (ps rfl (L_pick (v:=Bo (((x10.1 == 2) || x10.2) || (s.b == 0))) rfl rfl (or_t hc77) (L_pick (v:=Bo (((decide (x10.1 ≥ 0)) && (((decide (x10.1 > 0)) || (s.kind == 6)) || (s.a == 0))) && (((x10.1 == 2) || x10.2) || (s.b == 0)))) rfl rfl (and_t hc75 rfl) (mB rfl (L_split (d:=39) (b:=(((decide (x10.1 ≥ 0)) && (((decide (x10.1 > 0)) || (s.kind == 6)) || (s.a == 0))) && (((x10.1 == 2) || x10.2) || (s.b == 0)))) rfl (fun hc78=>?_) (fun hc78=>?_)))))))
 rw [ite_t hc78] at hb26
 obtain ⟨b25,hb25,hb26⟩:=bind_some hb26
 refine fA 0 fa_56_0 rfl rfl (ldB 0 hst Tryz.isAgg3 rfl rfl rfl (L_eql rfl rfl rfl (mB rfl (L_split (d:=43) (b:=(s.kind == 7)) rfl (fun hc79=>?_) (fun hc79=>?_)))))
 rw [ite_t hc79] at hb25
 refine ps rfl (ps rfl (ps rfl (ps rfl (L_pick (v:=Bo b25) rfl rfl (congrArg Value.bool (so hb25)) (L_pick (v:=Bo b26) rfl rfl (congrArg Value.bool (so hb26)) (aB rfl (nn (rj hR27 ⟨rfl,(Star.keepN 0 hst)⟩))))))))
 rw [ite_f hc79] at hb25
 obtain ⟨x23,hx23,hb25⟩:=bind_some hb25
 refine fA 3 fa_56_3 rfl rfl (L_lda (cs:=[v0_3,I s.given.bound]) rfl Tryz.isAgg54 Tryz.sizeOf54 rfl (At.sub0 (Blk.at (Star.blkAt 0 hst rfl)) 3 2) rfl (L_bld rfl (parts0 ) (bld_54_  ) ?_))
 obtain ⟨H80b,l81,s82,z83,k84⟩:=hst.borrow
 refine L_call rfl Tryz.call89 (ops2 rfl rfl) (i_ConstraintSame_c (a:=s.given) (b:=({ terms:=[],bound:=0 } : Con)) s82 (RP.mono _ h0_3 l81) (rel_nil _ _ _) hx23) ?_
 rintro _ w85 ⟨rfl,hst⟩
 have hst:=k84 hst c0
 refine L_pick (v:=Bo b25) rfl rfl (congrArg Value.bool (so hb25)) (L_pick (v:=Bo b26) rfl rfl (congrArg Value.bool (so hb26)) (aB rfl (nn (rj hR27 ⟨rfl,(Star.keepN 0 hst)⟩))))
 rw [ite_f hc78] at hb26
 refine ps rfl (ps rfl (ps rfl (ps rfl (ps rfl (ps rfl (ps rfl (ps rfl (ps rfl (L_pick (v:=Bo b26) rfl rfl (congrArg Value.bool (so hb26)) (aB rfl (nn (rj hR27 ⟨rfl,(Star.keepN 0 hst)⟩))))))))))))
 refine fA 2 fa_56_2 rfl rfl (ldB 0 hst Tryz.isAgg3 rfl rfl rfl (L_eql rfl rfl rfl (L_pick (v:=Bo (((x10.1 == 2) || x10.2) || (s.b == 0))) rfl rfl (or_f hc77 rfl) (L_pick (v:=Bo (((decide (x10.1 ≥ 0)) && (((decide (x10.1 > 0)) || (s.kind == 6)) || (s.a == 0))) && (((x10.1 == 2) || x10.2) || (s.b == 0)))) rfl rfl (and_t hc75 rfl) (mB rfl (L_split (d:=39) (b:=(((decide (x10.1 ≥ 0)) && (((decide (x10.1 > 0)) || (s.kind == 6)) || (s.a == 0))) && (((x10.1 == 2) || x10.2) || (s.b == 0)))) rfl (fun hc86=>?_) (fun hc86=>?_)))))))
 rw [ite_t hc86] at hb26
 obtain ⟨b25,hb25,hb26⟩:=bind_some hb26
 refine fA 0 fa_56_0 rfl rfl (ldB 0 hst Tryz.isAgg3 rfl rfl rfl (L_eql rfl rfl rfl (mB rfl (L_split (d:=43) (b:=(s.kind == 7)) rfl (fun hc87=>?_) (fun hc87=>?_)))))
 rw [ite_t hc87] at hb25
 refine ps rfl (ps rfl (ps rfl (ps rfl (L_pick (v:=Bo b25) rfl rfl (congrArg Value.bool (so hb25)) (L_pick (v:=Bo b26) rfl rfl (congrArg Value.bool (so hb26)) (aB rfl (nn (rj hR27 ⟨rfl,(Star.keepN 0 hst)⟩))))))))
 rw [ite_f hc87] at hb25
 obtain ⟨x23,hx23,hb25⟩:=bind_some hb25
 refine fA 3 fa_56_3 rfl rfl (L_lda (cs:=[v0_3,I s.given.bound]) rfl Tryz.isAgg54 Tryz.sizeOf54 rfl (At.sub0 (Blk.at (Star.blkAt 0 hst rfl)) 3 2) rfl (L_bld rfl (parts0 ) (bld_54_  ) ?_))
 obtain ⟨H88b,l89,s90,z91,k92⟩:=hst.borrow
 refine L_call rfl Tryz.call89 (ops2 rfl rfl) (i_ConstraintSame_c (a:=s.given) (b:=({ terms:=[],bound:=0 } : Con)) s90 (RP.mono _ h0_3 l89) (rel_nil _ _ _) hx23) ?_
 rintro _ w93 ⟨rfl,hst⟩
 have hst:=k92 hst c0
 refine L_pick (v:=Bo b25) rfl rfl (congrArg Value.bool (so hb25)) (L_pick (v:=Bo b26) rfl rfl (congrArg Value.bool (so hb26)) (aB rfl (nn (rj hR27 ⟨rfl,(Star.keepN 0 hst)⟩))))
 rw [ite_f hc86] at hb26
 refine ps rfl (ps rfl (ps rfl (ps rfl (ps rfl (ps rfl (ps rfl (ps rfl (ps rfl (L_pick (v:=Bo b26) rfl rfl (congrArg Value.bool (so hb26)) (aB rfl (nn (rj hR27 ⟨rfl,(Star.keepN 0 hst)⟩))))))))))))
 refine mB rfl (L_pick (v:=Bo ((x10.1 == 2) || x10.2)) rfl rfl (or_f hc76 rfl) (mB rfl (L_split (d:=33) (b:=((x10.1 == 2) || x10.2)) rfl (fun hc94=>?_) (fun hc94=>?_))))
 refine ps rfl (ps rfl (ps rfl (L_pick (v:=Bo (((x10.1 == 2) || x10.2) || (s.b == 0))) rfl rfl (or_t hc94) (L_pick (v:=Bo (((decide (x10.1 ≥ 0)) && (((decide (x10.1 > 0)) || (s.kind == 6)) || (s.a == 0))) && (((x10.1 == 2) || x10.2) || (s.b == 0)))) rfl rfl (and_t hc75 rfl) (mB rfl (L_split (d:=39) (b:=(((decide (x10.1 ≥ 0)) && (((decide (x10.1 > 0)) || (s.kind == 6)) || (s.a == 0))) && (((x10.1 == 2) || x10.2) || (s.b == 0)))) rfl (fun hc95=>?_) (fun hc95=>?_)))))))
 rw [ite_t hc95] at hb26
 obtain ⟨b25,hb25,hb26⟩:=bind_some hb26
 refine fA 0 fa_56_0 rfl rfl (ldB 0 hst Tryz.isAgg3 rfl rfl rfl (L_eql rfl rfl rfl (mB rfl (L_split (d:=43) (b:=(s.kind == 7)) rfl (fun hc96=>?_) (fun hc96=>?_)))))
 rw [ite_t hc96] at hb25
 refine ps rfl (ps rfl (ps rfl (ps rfl (L_pick (v:=Bo b25) rfl rfl (congrArg Value.bool (so hb25)) (L_pick (v:=Bo b26) rfl rfl (congrArg Value.bool (so hb26)) (aB rfl (nn (rj hR27 ⟨rfl,(Star.keepN 0 hst)⟩))))))))
 rw [ite_f hc96] at hb25
 obtain ⟨x23,hx23,hb25⟩:=bind_some hb25
 refine fA 3 fa_56_3 rfl rfl (L_lda (cs:=[v0_3,I s.given.bound]) rfl Tryz.isAgg54 Tryz.sizeOf54 rfl (At.sub0 (Blk.at (Star.blkAt 0 hst rfl)) 3 2) rfl (L_bld rfl (parts0 ) (bld_54_  ) ?_))
 obtain ⟨H97b,l98,s99,z100,k101⟩:=hst.borrow
 refine L_call rfl Tryz.call89 (ops2 rfl rfl) (i_ConstraintSame_c (a:=s.given) (b:=({ terms:=[],bound:=0 } : Con)) s99 (RP.mono _ h0_3 l98) (rel_nil _ _ _) hx23) ?_
 rintro _ w102 ⟨rfl,hst⟩
 have hst:=k101 hst c0
 refine L_pick (v:=Bo b25) rfl rfl (congrArg Value.bool (so hb25)) (L_pick (v:=Bo b26) rfl rfl (congrArg Value.bool (so hb26)) (aB rfl (nn (rj hR27 ⟨rfl,(Star.keepN 0 hst)⟩))))
 rw [ite_f hc95] at hb26
 refine ps rfl (ps rfl (ps rfl (ps rfl (ps rfl (ps rfl (ps rfl (ps rfl (ps rfl (L_pick (v:=Bo b26) rfl rfl (congrArg Value.bool (so hb26)) (aB rfl (nn (rj hR27 ⟨rfl,(Star.keepN 0 hst)⟩))))))))))))
 refine fA 2 fa_56_2 rfl rfl (ldB 0 hst Tryz.isAgg3 rfl rfl rfl (L_eql rfl rfl rfl (L_pick (v:=Bo (((x10.1 == 2) || x10.2) || (s.b == 0))) rfl rfl (or_f hc94 rfl) (L_pick (v:=Bo (((decide (x10.1 ≥ 0)) && (((decide (x10.1 > 0)) || (s.kind == 6)) || (s.a == 0))) && (((x10.1 == 2) || x10.2) || (s.b == 0)))) rfl rfl (and_t hc75 rfl) (mB rfl (L_split (d:=39) (b:=(((decide (x10.1 ≥ 0)) && (((decide (x10.1 > 0)) || (s.kind == 6)) || (s.a == 0))) && (((x10.1 == 2) || x10.2) || (s.b == 0)))) rfl (fun hc103=>?_) (fun hc103=>?_)))))))
 rw [ite_t hc103] at hb26
 obtain ⟨b25,hb25,hb26⟩:=bind_some hb26
 refine fA 0 fa_56_0 rfl rfl (ldB 0 hst Tryz.isAgg3 rfl rfl rfl (L_eql rfl rfl rfl (mB rfl (L_split (d:=43) (b:=(s.kind == 7)) rfl (fun hc104=>?_) (fun hc104=>?_)))))
 rw [ite_t hc104] at hb25
 refine ps rfl (ps rfl (ps rfl (ps rfl (L_pick (v:=Bo b25) rfl rfl (congrArg Value.bool (so hb25)) (L_pick (v:=Bo b26) rfl rfl (congrArg Value.bool (so hb26)) (aB rfl (nn (rj hR27 ⟨rfl,(Star.keepN 0 hst)⟩))))))))
 rw [ite_f hc104] at hb25
 obtain ⟨x23,hx23,hb25⟩:=bind_some hb25
 refine fA 3 fa_56_3 rfl rfl (L_lda (cs:=[v0_3,I s.given.bound]) rfl Tryz.isAgg54 Tryz.sizeOf54 rfl (At.sub0 (Blk.at (Star.blkAt 0 hst rfl)) 3 2) rfl (L_bld rfl (parts0 ) (bld_54_  ) ?_))
 obtain ⟨H105b,l106,s107,z108,k109⟩:=hst.borrow
 refine L_call rfl Tryz.call89 (ops2 rfl rfl) (i_ConstraintSame_c (a:=s.given) (b:=({ terms:=[],bound:=0 } : Con)) s107 (RP.mono _ h0_3 l106) (rel_nil _ _ _) hx23) ?_
 rintro _ w110 ⟨rfl,hst⟩
 have hst:=k109 hst c0
 refine L_pick (v:=Bo b25) rfl rfl (congrArg Value.bool (so hb25)) (L_pick (v:=Bo b26) rfl rfl (congrArg Value.bool (so hb26)) (aB rfl (nn (rj hR27 ⟨rfl,(Star.keepN 0 hst)⟩))))
 rw [ite_f hc103] at hb26
 refine ps rfl (ps rfl (ps rfl (ps rfl (ps rfl (ps rfl (ps rfl (ps rfl (ps rfl (L_pick (v:=Bo b26) rfl rfl (congrArg Value.bool (so hb26)) (aB rfl (nn (rj hR27 ⟨rfl,(Star.keepN 0 hst)⟩))))))))))))
 refine ps rfl (ps rfl (ps rfl (ps rfl (ps rfl (ps rfl (ps rfl (ps rfl (ps rfl (ps rfl (L_pick (v:=Bo (((decide (x10.1 ≥ 0)) && (((decide (x10.1 > 0)) || (s.kind == 6)) || (s.a == 0))) && (((x10.1 == 2) || x10.2) || (s.b == 0)))) rfl rfl (and_f hc75) (mB rfl (L_split (d:=39) (b:=(((decide (x10.1 ≥ 0)) && (((decide (x10.1 > 0)) || (s.kind == 6)) || (s.a == 0))) && (((x10.1 == 2) || x10.2) || (s.b == 0)))) rfl (fun hc111=>?_) (fun hc111=>?_)))))))))))))
 rw [ite_t hc111] at hb26
 obtain ⟨b25,hb25,hb26⟩:=bind_some hb26
 refine fA 0 fa_56_0 rfl rfl (ldB 0 hst Tryz.isAgg3 rfl rfl rfl (L_eql rfl rfl rfl (mB rfl (L_split (d:=43) (b:=(s.kind == 7)) rfl (fun hc112=>?_) (fun hc112=>?_)))))
 rw [ite_t hc112] at hb25
 refine ps rfl (ps rfl (ps rfl (ps rfl (L_pick (v:=Bo b25) rfl rfl (congrArg Value.bool (so hb25)) (L_pick (v:=Bo b26) rfl rfl (congrArg Value.bool (so hb26)) (aB rfl (nn (rj hR27 ⟨rfl,(Star.keepN 0 hst)⟩))))))))
 rw [ite_f hc112] at hb25
 obtain ⟨x23,hx23,hb25⟩:=bind_some hb25
 refine fA 3 fa_56_3 rfl rfl (L_lda (cs:=[v0_3,I s.given.bound]) rfl Tryz.isAgg54 Tryz.sizeOf54 rfl (At.sub0 (Blk.at (Star.blkAt 0 hst rfl)) 3 2) rfl (L_bld rfl (parts0 ) (bld_54_  ) ?_))
 obtain ⟨H113b,l114,s115,z116,k117⟩:=hst.borrow
 refine L_call rfl Tryz.call89 (ops2 rfl rfl) (i_ConstraintSame_c (a:=s.given) (b:=({ terms:=[],bound:=0 } : Con)) s115 (RP.mono _ h0_3 l114) (rel_nil _ _ _) hx23) ?_
 rintro _ w118 ⟨rfl,hst⟩
 have hst:=k117 hst c0
 refine L_pick (v:=Bo b25) rfl rfl (congrArg Value.bool (so hb25)) (L_pick (v:=Bo b26) rfl rfl (congrArg Value.bool (so hb26)) (aB rfl (nn (rj hR27 ⟨rfl,(Star.keepN 0 hst)⟩))))
 rw [ite_f hc111] at hb26
 refine ps rfl (ps rfl (ps rfl (ps rfl (ps rfl (ps rfl (ps rfl (ps rfl (ps rfl (L_pick (v:=Bo b26) rfl rfl (congrArg Value.bool (so hb26)) (aB rfl (nn (rj hR27 ⟨rfl,(Star.keepN 0 hst)⟩))))))))))))
 refine fA 0 fa_56_0 rfl rfl (ldB 0 hst Tryz.isAgg3 rfl rfl rfl (L_eql rfl rfl rfl (L_pick (v:=Bo ((decide (x10.1 > 0)) || (s.kind == 6))) rfl rfl (or_f hc29 rfl) (mB rfl (L_split (d:=21) (b:=((decide (x10.1 > 0)) || (s.kind == 6))) rfl (fun hc119=>?_) (fun hc119=>?_))))))
 refine ps rfl (ps rfl (ps rfl (L_pick (v:=Bo (((decide (x10.1 > 0)) || (s.kind == 6)) || (s.a == 0))) rfl rfl (or_t hc119) (L_pick (v:=Bo ((decide (x10.1 ≥ 0)) && (((decide (x10.1 > 0)) || (s.kind == 6)) || (s.a == 0)))) rfl rfl (and_t hc28 rfl) (mB rfl (L_split (d:=27) (b:=((decide (x10.1 ≥ 0)) && (((decide (x10.1 > 0)) || (s.kind == 6)) || (s.a == 0)))) rfl (fun hc120=>?_) (fun hc120=>?_)))))))
 refine mI rfl (L_eql rfl rfl rfl (mB rfl (L_split (d:=30) (b:=(x10.1 == 2)) rfl (fun hc121=>?_) (fun hc121=>?_))))
 refine ps rfl (L_pick (v:=Bo ((x10.1 == 2) || x10.2)) rfl rfl (or_t hc121) (mB rfl (L_split (d:=33) (b:=((x10.1 == 2) || x10.2)) rfl (fun hc122=>?_) (fun hc122=>?_))))
 refine ps rfl (ps rfl (ps rfl (L_pick (v:=Bo (((x10.1 == 2) || x10.2) || (s.b == 0))) rfl rfl (or_t hc122) (L_pick (v:=Bo (((decide (x10.1 ≥ 0)) && (((decide (x10.1 > 0)) || (s.kind == 6)) || (s.a == 0))) && (((x10.1 == 2) || x10.2) || (s.b == 0)))) rfl rfl (and_t hc120 rfl) (mB rfl (L_split (d:=39) (b:=(((decide (x10.1 ≥ 0)) && (((decide (x10.1 > 0)) || (s.kind == 6)) || (s.a == 0))) && (((x10.1 == 2) || x10.2) || (s.b == 0)))) rfl (fun hc123=>?_) (fun hc123=>?_)))))))
 rw [ite_t hc123] at hb26
 obtain ⟨b25,hb25,hb26⟩:=bind_some hb26
 refine fA 0 fa_56_0 rfl rfl (ldB 0 hst Tryz.isAgg3 rfl rfl rfl (L_eql rfl rfl rfl (mB rfl (L_split (d:=43) (b:=(s.kind == 7)) rfl (fun hc124=>?_) (fun hc124=>?_)))))
 rw [ite_t hc124] at hb25
 refine ps rfl (ps rfl (ps rfl (ps rfl (L_pick (v:=Bo b25) rfl rfl (congrArg Value.bool (so hb25)) (L_pick (v:=Bo b26) rfl rfl (congrArg Value.bool (so hb26)) (aB rfl (nn (rj hR27 ⟨rfl,(Star.keepN 0 hst)⟩))))))))
 rw [ite_f hc124] at hb25
 obtain ⟨x23,hx23,hb25⟩:=bind_some hb25
 refine fA 3 fa_56_3 rfl rfl (L_lda (cs:=[v0_3,I s.given.bound]) rfl Tryz.isAgg54 Tryz.sizeOf54 rfl (At.sub0 (Blk.at (Star.blkAt 0 hst rfl)) 3 2) rfl (L_bld rfl (parts0 ) (bld_54_  ) ?_))
 obtain ⟨H125b,l126,s127,z128,k129⟩:=hst.borrow
 refine L_call rfl Tryz.call89 (ops2 rfl rfl) (i_ConstraintSame_c (a:=s.given) (b:=({ terms:=[],bound:=0 } : Con)) s127 (RP.mono _ h0_3 l126) (rel_nil _ _ _) hx23) ?_
 rintro _ w130 ⟨rfl,hst⟩
 have hst:=k129 hst c0
 refine L_pick (v:=Bo b25) rfl rfl (congrArg Value.bool (so hb25)) (L_pick (v:=Bo b26) rfl rfl (congrArg Value.bool (so hb26)) (aB rfl (nn (rj hR27 ⟨rfl,(Star.keepN 0 hst)⟩))))
 rw [ite_f hc123] at hb26
 refine ps rfl (ps rfl (ps rfl (ps rfl (ps rfl (ps rfl (ps rfl (ps rfl (ps rfl (L_pick (v:=Bo b26) rfl rfl (congrArg Value.bool (so hb26)) (aB rfl (nn (rj hR27 ⟨rfl,(Star.keepN 0 hst)⟩))))))))))))
 refine fA 2 fa_56_2 rfl rfl (ldB 0 hst Tryz.isAgg3 rfl rfl rfl (L_eql rfl rfl rfl (L_pick (v:=Bo (((x10.1 == 2) || x10.2) || (s.b == 0))) rfl rfl (or_f hc122 rfl) (L_pick (v:=Bo (((decide (x10.1 ≥ 0)) && (((decide (x10.1 > 0)) || (s.kind == 6)) || (s.a == 0))) && (((x10.1 == 2) || x10.2) || (s.b == 0)))) rfl rfl (and_t hc120 rfl) (mB rfl (L_split (d:=39) (b:=(((decide (x10.1 ≥ 0)) && (((decide (x10.1 > 0)) || (s.kind == 6)) || (s.a == 0))) && (((x10.1 == 2) || x10.2) || (s.b == 0)))) rfl (fun hc131=>?_) (fun hc131=>?_)))))))
 rw [ite_t hc131] at hb26
 obtain ⟨b25,hb25,hb26⟩:=bind_some hb26
 refine fA 0 fa_56_0 rfl rfl (ldB 0 hst Tryz.isAgg3 rfl rfl rfl (L_eql rfl rfl rfl (mB rfl (L_split (d:=43) (b:=(s.kind == 7)) rfl (fun hc132=>?_) (fun hc132=>?_)))))
 rw [ite_t hc132] at hb25
 refine ps rfl (ps rfl (ps rfl (ps rfl (L_pick (v:=Bo b25) rfl rfl (congrArg Value.bool (so hb25)) (L_pick (v:=Bo b26) rfl rfl (congrArg Value.bool (so hb26)) (aB rfl (nn (rj hR27 ⟨rfl,(Star.keepN 0 hst)⟩))))))))
 rw [ite_f hc132] at hb25
 obtain ⟨x23,hx23,hb25⟩:=bind_some hb25
 refine fA 3 fa_56_3 rfl rfl (L_lda (cs:=[v0_3,I s.given.bound]) rfl Tryz.isAgg54 Tryz.sizeOf54 rfl (At.sub0 (Blk.at (Star.blkAt 0 hst rfl)) 3 2) rfl (L_bld rfl (parts0 ) (bld_54_  ) ?_))
 obtain ⟨H133b,l134,s135,z136,k137⟩:=hst.borrow
 refine L_call rfl Tryz.call89 (ops2 rfl rfl) (i_ConstraintSame_c (a:=s.given) (b:=({ terms:=[],bound:=0 } : Con)) s135 (RP.mono _ h0_3 l134) (rel_nil _ _ _) hx23) ?_
 rintro _ w138 ⟨rfl,hst⟩
 have hst:=k137 hst c0
 refine L_pick (v:=Bo b25) rfl rfl (congrArg Value.bool (so hb25)) (L_pick (v:=Bo b26) rfl rfl (congrArg Value.bool (so hb26)) (aB rfl (nn (rj hR27 ⟨rfl,(Star.keepN 0 hst)⟩))))
 rw [ite_f hc131] at hb26
 refine ps rfl (ps rfl (ps rfl (ps rfl (ps rfl (ps rfl (ps rfl (ps rfl (ps rfl (L_pick (v:=Bo b26) rfl rfl (congrArg Value.bool (so hb26)) (aB rfl (nn (rj hR27 ⟨rfl,(Star.keepN 0 hst)⟩))))))))))))
 refine mB rfl (L_pick (v:=Bo ((x10.1 == 2) || x10.2)) rfl rfl (or_f hc121 rfl) (mB rfl (L_split (d:=33) (b:=((x10.1 == 2) || x10.2)) rfl (fun hc139=>?_) (fun hc139=>?_))))
 refine ps rfl (ps rfl (ps rfl (L_pick (v:=Bo (((x10.1 == 2) || x10.2) || (s.b == 0))) rfl rfl (or_t hc139) (L_pick (v:=Bo (((decide (x10.1 ≥ 0)) && (((decide (x10.1 > 0)) || (s.kind == 6)) || (s.a == 0))) && (((x10.1 == 2) || x10.2) || (s.b == 0)))) rfl rfl (and_t hc120 rfl) (mB rfl (L_split (d:=39) (b:=(((decide (x10.1 ≥ 0)) && (((decide (x10.1 > 0)) || (s.kind == 6)) || (s.a == 0))) && (((x10.1 == 2) || x10.2) || (s.b == 0)))) rfl (fun hc140=>?_) (fun hc140=>?_)))))))
 rw [ite_t hc140] at hb26
 obtain ⟨b25,hb25,hb26⟩:=bind_some hb26
 refine fA 0 fa_56_0 rfl rfl (ldB 0 hst Tryz.isAgg3 rfl rfl rfl (L_eql rfl rfl rfl (mB rfl (L_split (d:=43) (b:=(s.kind == 7)) rfl (fun hc141=>?_) (fun hc141=>?_)))))
 rw [ite_t hc141] at hb25
 refine ps rfl (ps rfl (ps rfl (ps rfl (L_pick (v:=Bo b25) rfl rfl (congrArg Value.bool (so hb25)) (L_pick (v:=Bo b26) rfl rfl (congrArg Value.bool (so hb26)) (aB rfl (nn (rj hR27 ⟨rfl,(Star.keepN 0 hst)⟩))))))))
 rw [ite_f hc141] at hb25
 obtain ⟨x23,hx23,hb25⟩:=bind_some hb25
 refine fA 3 fa_56_3 rfl rfl (L_lda (cs:=[v0_3,I s.given.bound]) rfl Tryz.isAgg54 Tryz.sizeOf54 rfl (At.sub0 (Blk.at (Star.blkAt 0 hst rfl)) 3 2) rfl (L_bld rfl (parts0 ) (bld_54_  ) ?_))
 obtain ⟨H142b,l143,s144,z145,k146⟩:=hst.borrow
 refine L_call rfl Tryz.call89 (ops2 rfl rfl) (i_ConstraintSame_c (a:=s.given) (b:=({ terms:=[],bound:=0 } : Con)) s144 (RP.mono _ h0_3 l143) (rel_nil _ _ _) hx23) ?_
 rintro _ w147 ⟨rfl,hst⟩
 have hst:=k146 hst c0
 refine L_pick (v:=Bo b25) rfl rfl (congrArg Value.bool (so hb25)) (L_pick (v:=Bo b26) rfl rfl (congrArg Value.bool (so hb26)) (aB rfl (nn (rj hR27 ⟨rfl,(Star.keepN 0 hst)⟩))))
 rw [ite_f hc140] at hb26
 refine ps rfl (ps rfl (ps rfl (ps rfl (ps rfl (ps rfl (ps rfl (ps rfl (ps rfl (L_pick (v:=Bo b26) rfl rfl (congrArg Value.bool (so hb26)) (aB rfl (nn (rj hR27 ⟨rfl,(Star.keepN 0 hst)⟩))))))))))))
 refine fA 2 fa_56_2 rfl rfl (ldB 0 hst Tryz.isAgg3 rfl rfl rfl (L_eql rfl rfl rfl (L_pick (v:=Bo (((x10.1 == 2) || x10.2) || (s.b == 0))) rfl rfl (or_f hc139 rfl) (L_pick (v:=Bo (((decide (x10.1 ≥ 0)) && (((decide (x10.1 > 0)) || (s.kind == 6)) || (s.a == 0))) && (((x10.1 == 2) || x10.2) || (s.b == 0)))) rfl rfl (and_t hc120 rfl) (mB rfl (L_split (d:=39) (b:=(((decide (x10.1 ≥ 0)) && (((decide (x10.1 > 0)) || (s.kind == 6)) || (s.a == 0))) && (((x10.1 == 2) || x10.2) || (s.b == 0)))) rfl (fun hc148=>?_) (fun hc148=>?_)))))))
 rw [ite_t hc148] at hb26
 obtain ⟨b25,hb25,hb26⟩:=bind_some hb26
 refine fA 0 fa_56_0 rfl rfl (ldB 0 hst Tryz.isAgg3 rfl rfl rfl (L_eql rfl rfl rfl (mB rfl (L_split (d:=43) (b:=(s.kind == 7)) rfl (fun hc149=>?_) (fun hc149=>?_)))))
 rw [ite_t hc149] at hb25
 refine ps rfl (ps rfl (ps rfl (ps rfl (L_pick (v:=Bo b25) rfl rfl (congrArg Value.bool (so hb25)) (L_pick (v:=Bo b26) rfl rfl (congrArg Value.bool (so hb26)) (aB rfl (nn (rj hR27 ⟨rfl,(Star.keepN 0 hst)⟩))))))))
 rw [ite_f hc149] at hb25
 obtain ⟨x23,hx23,hb25⟩:=bind_some hb25
 refine fA 3 fa_56_3 rfl rfl (L_lda (cs:=[v0_3,I s.given.bound]) rfl Tryz.isAgg54 Tryz.sizeOf54 rfl (At.sub0 (Blk.at (Star.blkAt 0 hst rfl)) 3 2) rfl (L_bld rfl (parts0 ) (bld_54_  ) ?_))
 obtain ⟨H150b,l151,s152,z153,k154⟩:=hst.borrow
 refine L_call rfl Tryz.call89 (ops2 rfl rfl) (i_ConstraintSame_c (a:=s.given) (b:=({ terms:=[],bound:=0 } : Con)) s152 (RP.mono _ h0_3 l151) (rel_nil _ _ _) hx23) ?_
 rintro _ w155 ⟨rfl,hst⟩
 have hst:=k154 hst c0
 refine L_pick (v:=Bo b25) rfl rfl (congrArg Value.bool (so hb25)) (L_pick (v:=Bo b26) rfl rfl (congrArg Value.bool (so hb26)) (aB rfl (nn (rj hR27 ⟨rfl,(Star.keepN 0 hst)⟩))))
 rw [ite_f hc148] at hb26
 refine ps rfl (ps rfl (ps rfl (ps rfl (ps rfl (ps rfl (ps rfl (ps rfl (ps rfl (L_pick (v:=Bo b26) rfl rfl (congrArg Value.bool (so hb26)) (aB rfl (nn (rj hR27 ⟨rfl,(Star.keepN 0 hst)⟩))))))))))))
 refine ps rfl (ps rfl (ps rfl (ps rfl (ps rfl (ps rfl (ps rfl (ps rfl (ps rfl (ps rfl (L_pick (v:=Bo (((decide (x10.1 ≥ 0)) && (((decide (x10.1 > 0)) || (s.kind == 6)) || (s.a == 0))) && (((x10.1 == 2) || x10.2) || (s.b == 0)))) rfl rfl (and_f hc120) (mB rfl (L_split (d:=39) (b:=(((decide (x10.1 ≥ 0)) && (((decide (x10.1 > 0)) || (s.kind == 6)) || (s.a == 0))) && (((x10.1 == 2) || x10.2) || (s.b == 0)))) rfl (fun hc156=>?_) (fun hc156=>?_)))))))))))))
 rw [ite_t hc156] at hb26
 obtain ⟨b25,hb25,hb26⟩:=bind_some hb26
 refine fA 0 fa_56_0 rfl rfl (ldB 0 hst Tryz.isAgg3 rfl rfl rfl (L_eql rfl rfl rfl (mB rfl (L_split (d:=43) (b:=(s.kind == 7)) rfl (fun hc157=>?_) (fun hc157=>?_)))))
 rw [ite_t hc157] at hb25
 refine ps rfl (ps rfl (ps rfl (ps rfl (L_pick (v:=Bo b25) rfl rfl (congrArg Value.bool (so hb25)) (L_pick (v:=Bo b26) rfl rfl (congrArg Value.bool (so hb26)) (aB rfl (nn (rj hR27 ⟨rfl,(Star.keepN 0 hst)⟩))))))))
 rw [ite_f hc157] at hb25
 obtain ⟨x23,hx23,hb25⟩:=bind_some hb25
 refine fA 3 fa_56_3 rfl rfl (L_lda (cs:=[v0_3,I s.given.bound]) rfl Tryz.isAgg54 Tryz.sizeOf54 rfl (At.sub0 (Blk.at (Star.blkAt 0 hst rfl)) 3 2) rfl (L_bld rfl (parts0 ) (bld_54_  ) ?_))
 obtain ⟨H158b,l159,s160,z161,k162⟩:=hst.borrow
 refine L_call rfl Tryz.call89 (ops2 rfl rfl) (i_ConstraintSame_c (a:=s.given) (b:=({ terms:=[],bound:=0 } : Con)) s160 (RP.mono _ h0_3 l159) (rel_nil _ _ _) hx23) ?_
 rintro _ w163 ⟨rfl,hst⟩
 have hst:=k162 hst c0
 refine L_pick (v:=Bo b25) rfl rfl (congrArg Value.bool (so hb25)) (L_pick (v:=Bo b26) rfl rfl (congrArg Value.bool (so hb26)) (aB rfl (nn (rj hR27 ⟨rfl,(Star.keepN 0 hst)⟩))))
 rw [ite_f hc156] at hb26
 refine ps rfl (ps rfl (ps rfl (ps rfl (ps rfl (ps rfl (ps rfl (ps rfl (ps rfl (L_pick (v:=Bo b26) rfl rfl (congrArg Value.bool (so hb26)) (aB rfl (nn (rj hR27 ⟨rfl,(Star.keepN 0 hst)⟩))))))))))))
 refine fA 1 fa_56_1 rfl rfl (ldB 0 hst Tryz.isAgg3 rfl rfl rfl (L_eql rfl rfl rfl (L_pick (v:=Bo (((decide (x10.1 > 0)) || (s.kind == 6)) || (s.a == 0))) rfl rfl (or_f hc119 rfl) (L_pick (v:=Bo ((decide (x10.1 ≥ 0)) && (((decide (x10.1 > 0)) || (s.kind == 6)) || (s.a == 0)))) rfl rfl (and_t hc28 rfl) (mB rfl (L_split (d:=27) (b:=((decide (x10.1 ≥ 0)) && (((decide (x10.1 > 0)) || (s.kind == 6)) || (s.a == 0)))) rfl (fun hc164=>?_) (fun hc164=>?_)))))))
 refine mI rfl (L_eql rfl rfl rfl (mB rfl (L_split (d:=30) (b:=(x10.1 == 2)) rfl (fun hc165=>?_) (fun hc165=>?_))))
 refine ps rfl (L_pick (v:=Bo ((x10.1 == 2) || x10.2)) rfl rfl (or_t hc165) (mB rfl (L_split (d:=33) (b:=((x10.1 == 2) || x10.2)) rfl (fun hc166=>?_) (fun hc166=>?_))))
 refine ps rfl (ps rfl (ps rfl (L_pick (v:=Bo (((x10.1 == 2) || x10.2) || (s.b == 0))) rfl rfl (or_t hc166) (L_pick (v:=Bo (((decide (x10.1 ≥ 0)) && (((decide (x10.1 > 0)) || (s.kind == 6)) || (s.a == 0))) && (((x10.1 == 2) || x10.2) || (s.b == 0)))) rfl rfl (and_t hc164 rfl) (mB rfl (L_split (d:=39) (b:=(((decide (x10.1 ≥ 0)) && (((decide (x10.1 > 0)) || (s.kind == 6)) || (s.a == 0))) && (((x10.1 == 2) || x10.2) || (s.b == 0)))) rfl (fun hc167=>?_) (fun hc167=>?_)))))))
 rw [ite_t hc167] at hb26
 obtain ⟨b25,hb25,hb26⟩:=bind_some hb26
 refine fA 0 fa_56_0 rfl rfl (ldB 0 hst Tryz.isAgg3 rfl rfl rfl (L_eql rfl rfl rfl (mB rfl (L_split (d:=43) (b:=(s.kind == 7)) rfl (fun hc168=>?_) (fun hc168=>?_)))))
 rw [ite_t hc168] at hb25
 refine ps rfl (ps rfl (ps rfl (ps rfl (L_pick (v:=Bo b25) rfl rfl (congrArg Value.bool (so hb25)) (L_pick (v:=Bo b26) rfl rfl (congrArg Value.bool (so hb26)) (aB rfl (nn (rj hR27 ⟨rfl,(Star.keepN 0 hst)⟩))))))))
 rw [ite_f hc168] at hb25
 obtain ⟨x23,hx23,hb25⟩:=bind_some hb25
 refine fA 3 fa_56_3 rfl rfl (L_lda (cs:=[v0_3,I s.given.bound]) rfl Tryz.isAgg54 Tryz.sizeOf54 rfl (At.sub0 (Blk.at (Star.blkAt 0 hst rfl)) 3 2) rfl (L_bld rfl (parts0 ) (bld_54_  ) ?_))
 obtain ⟨H169b,l170,s171,z172,k173⟩:=hst.borrow
 refine L_call rfl Tryz.call89 (ops2 rfl rfl) (i_ConstraintSame_c (a:=s.given) (b:=({ terms:=[],bound:=0 } : Con)) s171 (RP.mono _ h0_3 l170) (rel_nil _ _ _) hx23) ?_
 rintro _ w174 ⟨rfl,hst⟩
 have hst:=k173 hst c0
 refine L_pick (v:=Bo b25) rfl rfl (congrArg Value.bool (so hb25)) (L_pick (v:=Bo b26) rfl rfl (congrArg Value.bool (so hb26)) (aB rfl (nn (rj hR27 ⟨rfl,(Star.keepN 0 hst)⟩))))
 rw [ite_f hc167] at hb26
 refine ps rfl (ps rfl (ps rfl (ps rfl (ps rfl (ps rfl (ps rfl (ps rfl (ps rfl (L_pick (v:=Bo b26) rfl rfl (congrArg Value.bool (so hb26)) (aB rfl (nn (rj hR27 ⟨rfl,(Star.keepN 0 hst)⟩))))))))))))
 refine fA 2 fa_56_2 rfl rfl (ldB 0 hst Tryz.isAgg3 rfl rfl rfl (L_eql rfl rfl rfl (L_pick (v:=Bo (((x10.1 == 2) || x10.2) || (s.b == 0))) rfl rfl (or_f hc166 rfl) (L_pick (v:=Bo (((decide (x10.1 ≥ 0)) && (((decide (x10.1 > 0)) || (s.kind == 6)) || (s.a == 0))) && (((x10.1 == 2) || x10.2) || (s.b == 0)))) rfl rfl (and_t hc164 rfl) (mB rfl (L_split (d:=39) (b:=(((decide (x10.1 ≥ 0)) && (((decide (x10.1 > 0)) || (s.kind == 6)) || (s.a == 0))) && (((x10.1 == 2) || x10.2) || (s.b == 0)))) rfl (fun hc175=>?_) (fun hc175=>?_)))))))
 rw [ite_t hc175] at hb26
 obtain ⟨b25,hb25,hb26⟩:=bind_some hb26
 refine fA 0 fa_56_0 rfl rfl (ldB 0 hst Tryz.isAgg3 rfl rfl rfl (L_eql rfl rfl rfl (mB rfl (L_split (d:=43) (b:=(s.kind == 7)) rfl (fun hc176=>?_) (fun hc176=>?_)))))
 rw [ite_t hc176] at hb25
 refine ps rfl (ps rfl (ps rfl (ps rfl (L_pick (v:=Bo b25) rfl rfl (congrArg Value.bool (so hb25)) (L_pick (v:=Bo b26) rfl rfl (congrArg Value.bool (so hb26)) (aB rfl (nn (rj hR27 ⟨rfl,(Star.keepN 0 hst)⟩))))))))
 rw [ite_f hc176] at hb25
 obtain ⟨x23,hx23,hb25⟩:=bind_some hb25
 refine fA 3 fa_56_3 rfl rfl (L_lda (cs:=[v0_3,I s.given.bound]) rfl Tryz.isAgg54 Tryz.sizeOf54 rfl (At.sub0 (Blk.at (Star.blkAt 0 hst rfl)) 3 2) rfl (L_bld rfl (parts0 ) (bld_54_  ) ?_))
 obtain ⟨H177b,l178,s179,z180,k181⟩:=hst.borrow
 refine L_call rfl Tryz.call89 (ops2 rfl rfl) (i_ConstraintSame_c (a:=s.given) (b:=({ terms:=[],bound:=0 } : Con)) s179 (RP.mono _ h0_3 l178) (rel_nil _ _ _) hx23) ?_
 rintro _ w182 ⟨rfl,hst⟩
 have hst:=k181 hst c0
 refine L_pick (v:=Bo b25) rfl rfl (congrArg Value.bool (so hb25)) (L_pick (v:=Bo b26) rfl rfl (congrArg Value.bool (so hb26)) (aB rfl (nn (rj hR27 ⟨rfl,(Star.keepN 0 hst)⟩))))
 rw [ite_f hc175] at hb26
 refine ps rfl (ps rfl (ps rfl (ps rfl (ps rfl (ps rfl (ps rfl (ps rfl (ps rfl (L_pick (v:=Bo b26) rfl rfl (congrArg Value.bool (so hb26)) (aB rfl (nn (rj hR27 ⟨rfl,(Star.keepN 0 hst)⟩))))))))))))
 refine mB rfl (L_pick (v:=Bo ((x10.1 == 2) || x10.2)) rfl rfl (or_f hc165 rfl) (mB rfl (L_split (d:=33) (b:=((x10.1 == 2) || x10.2)) rfl (fun hc183=>?_) (fun hc183=>?_))))
 refine ps rfl (ps rfl (ps rfl (L_pick (v:=Bo (((x10.1 == 2) || x10.2) || (s.b == 0))) rfl rfl (or_t hc183) (L_pick (v:=Bo (((decide (x10.1 ≥ 0)) && (((decide (x10.1 > 0)) || (s.kind == 6)) || (s.a == 0))) && (((x10.1 == 2) || x10.2) || (s.b == 0)))) rfl rfl (and_t hc164 rfl) (mB rfl (L_split (d:=39) (b:=(((decide (x10.1 ≥ 0)) && (((decide (x10.1 > 0)) || (s.kind == 6)) || (s.a == 0))) && (((x10.1 == 2) || x10.2) || (s.b == 0)))) rfl (fun hc184=>?_) (fun hc184=>?_)))))))
 rw [ite_t hc184] at hb26
 obtain ⟨b25,hb25,hb26⟩:=bind_some hb26
 refine fA 0 fa_56_0 rfl rfl (ldB 0 hst Tryz.isAgg3 rfl rfl rfl (L_eql rfl rfl rfl (mB rfl (L_split (d:=43) (b:=(s.kind == 7)) rfl (fun hc185=>?_) (fun hc185=>?_)))))
 rw [ite_t hc185] at hb25
 refine ps rfl (ps rfl (ps rfl (ps rfl (L_pick (v:=Bo b25) rfl rfl (congrArg Value.bool (so hb25)) (L_pick (v:=Bo b26) rfl rfl (congrArg Value.bool (so hb26)) (aB rfl (nn (rj hR27 ⟨rfl,(Star.keepN 0 hst)⟩))))))))
 rw [ite_f hc185] at hb25
 obtain ⟨x23,hx23,hb25⟩:=bind_some hb25
 refine fA 3 fa_56_3 rfl rfl (L_lda (cs:=[v0_3,I s.given.bound]) rfl Tryz.isAgg54 Tryz.sizeOf54 rfl (At.sub0 (Blk.at (Star.blkAt 0 hst rfl)) 3 2) rfl (L_bld rfl (parts0 ) (bld_54_  ) ?_))
 obtain ⟨H186b,l187,s188,z189,k190⟩:=hst.borrow
 refine L_call rfl Tryz.call89 (ops2 rfl rfl) (i_ConstraintSame_c (a:=s.given) (b:=({ terms:=[],bound:=0 } : Con)) s188 (RP.mono _ h0_3 l187) (rel_nil _ _ _) hx23) ?_
 rintro _ w191 ⟨rfl,hst⟩
 have hst:=k190 hst c0
 refine L_pick (v:=Bo b25) rfl rfl (congrArg Value.bool (so hb25)) (L_pick (v:=Bo b26) rfl rfl (congrArg Value.bool (so hb26)) (aB rfl (nn (rj hR27 ⟨rfl,(Star.keepN 0 hst)⟩))))
 rw [ite_f hc184] at hb26
 refine ps rfl (ps rfl (ps rfl (ps rfl (ps rfl (ps rfl (ps rfl (ps rfl (ps rfl (L_pick (v:=Bo b26) rfl rfl (congrArg Value.bool (so hb26)) (aB rfl (nn (rj hR27 ⟨rfl,(Star.keepN 0 hst)⟩))))))))))))
 refine fA 2 fa_56_2 rfl rfl (ldB 0 hst Tryz.isAgg3 rfl rfl rfl (L_eql rfl rfl rfl (L_pick (v:=Bo (((x10.1 == 2) || x10.2) || (s.b == 0))) rfl rfl (or_f hc183 rfl) (L_pick (v:=Bo (((decide (x10.1 ≥ 0)) && (((decide (x10.1 > 0)) || (s.kind == 6)) || (s.a == 0))) && (((x10.1 == 2) || x10.2) || (s.b == 0)))) rfl rfl (and_t hc164 rfl) (mB rfl (L_split (d:=39) (b:=(((decide (x10.1 ≥ 0)) && (((decide (x10.1 > 0)) || (s.kind == 6)) || (s.a == 0))) && (((x10.1 == 2) || x10.2) || (s.b == 0)))) rfl (fun hc192=>?_) (fun hc192=>?_)))))))
 rw [ite_t hc192] at hb26
 obtain ⟨b25,hb25,hb26⟩:=bind_some hb26
 refine fA 0 fa_56_0 rfl rfl (ldB 0 hst Tryz.isAgg3 rfl rfl rfl (L_eql rfl rfl rfl (mB rfl (L_split (d:=43) (b:=(s.kind == 7)) rfl (fun hc193=>?_) (fun hc193=>?_)))))
 rw [ite_t hc193] at hb25
 refine ps rfl (ps rfl (ps rfl (ps rfl (L_pick (v:=Bo b25) rfl rfl (congrArg Value.bool (so hb25)) (L_pick (v:=Bo b26) rfl rfl (congrArg Value.bool (so hb26)) (aB rfl (nn (rj hR27 ⟨rfl,(Star.keepN 0 hst)⟩))))))))
 rw [ite_f hc193] at hb25
 obtain ⟨x23,hx23,hb25⟩:=bind_some hb25
 refine fA 3 fa_56_3 rfl rfl (L_lda (cs:=[v0_3,I s.given.bound]) rfl Tryz.isAgg54 Tryz.sizeOf54 rfl (At.sub0 (Blk.at (Star.blkAt 0 hst rfl)) 3 2) rfl (L_bld rfl (parts0 ) (bld_54_  ) ?_))
 obtain ⟨H194b,l195,s196,z197,k198⟩:=hst.borrow
 refine L_call rfl Tryz.call89 (ops2 rfl rfl) (i_ConstraintSame_c (a:=s.given) (b:=({ terms:=[],bound:=0 } : Con)) s196 (RP.mono _ h0_3 l195) (rel_nil _ _ _) hx23) ?_
 rintro _ w199 ⟨rfl,hst⟩
 have hst:=k198 hst c0
 refine L_pick (v:=Bo b25) rfl rfl (congrArg Value.bool (so hb25)) (L_pick (v:=Bo b26) rfl rfl (congrArg Value.bool (so hb26)) (aB rfl (nn (rj hR27 ⟨rfl,(Star.keepN 0 hst)⟩))))
 rw [ite_f hc192] at hb26
 refine ps rfl (ps rfl (ps rfl (ps rfl (ps rfl (ps rfl (ps rfl (ps rfl (ps rfl (L_pick (v:=Bo b26) rfl rfl (congrArg Value.bool (so hb26)) (aB rfl (nn (rj hR27 ⟨rfl,(Star.keepN 0 hst)⟩))))))))))))
 refine ps rfl (ps rfl (ps rfl (ps rfl (ps rfl (ps rfl (ps rfl (ps rfl (ps rfl (ps rfl (L_pick (v:=Bo (((decide (x10.1 ≥ 0)) && (((decide (x10.1 > 0)) || (s.kind == 6)) || (s.a == 0))) && (((x10.1 == 2) || x10.2) || (s.b == 0)))) rfl rfl (and_f hc164) (mB rfl (L_split (d:=39) (b:=(((decide (x10.1 ≥ 0)) && (((decide (x10.1 > 0)) || (s.kind == 6)) || (s.a == 0))) && (((x10.1 == 2) || x10.2) || (s.b == 0)))) rfl (fun hc200=>?_) (fun hc200=>?_)))))))))))))
 rw [ite_t hc200] at hb26
 obtain ⟨b25,hb25,hb26⟩:=bind_some hb26
 refine fA 0 fa_56_0 rfl rfl (ldB 0 hst Tryz.isAgg3 rfl rfl rfl (L_eql rfl rfl rfl (mB rfl (L_split (d:=43) (b:=(s.kind == 7)) rfl (fun hc201=>?_) (fun hc201=>?_)))))
 rw [ite_t hc201] at hb25
 refine ps rfl (ps rfl (ps rfl (ps rfl (L_pick (v:=Bo b25) rfl rfl (congrArg Value.bool (so hb25)) (L_pick (v:=Bo b26) rfl rfl (congrArg Value.bool (so hb26)) (aB rfl (nn (rj hR27 ⟨rfl,(Star.keepN 0 hst)⟩))))))))
 rw [ite_f hc201] at hb25
 obtain ⟨x23,hx23,hb25⟩:=bind_some hb25
 refine fA 3 fa_56_3 rfl rfl (L_lda (cs:=[v0_3,I s.given.bound]) rfl Tryz.isAgg54 Tryz.sizeOf54 rfl (At.sub0 (Blk.at (Star.blkAt 0 hst rfl)) 3 2) rfl (L_bld rfl (parts0 ) (bld_54_  ) ?_))
 obtain ⟨H202b,l203,s204,z205,k206⟩:=hst.borrow
 refine L_call rfl Tryz.call89 (ops2 rfl rfl) (i_ConstraintSame_c (a:=s.given) (b:=({ terms:=[],bound:=0 } : Con)) s204 (RP.mono _ h0_3 l203) (rel_nil _ _ _) hx23) ?_
 rintro _ w207 ⟨rfl,hst⟩
 have hst:=k206 hst c0
 refine L_pick (v:=Bo b25) rfl rfl (congrArg Value.bool (so hb25)) (L_pick (v:=Bo b26) rfl rfl (congrArg Value.bool (so hb26)) (aB rfl (nn (rj hR27 ⟨rfl,(Star.keepN 0 hst)⟩))))
 rw [ite_f hc200] at hb26
 refine ps rfl (ps rfl (ps rfl (ps rfl (ps rfl (ps rfl (ps rfl (ps rfl (ps rfl (L_pick (v:=Bo b26) rfl rfl (congrArg Value.bool (so hb26)) (aB rfl (nn (rj hR27 ⟨rfl,(Star.keepN 0 hst)⟩))))))))))))
 refine ps rfl (ps rfl (ps rfl (ps rfl (ps rfl (ps rfl (ps rfl (ps rfl (ps rfl (ps rfl (ps rfl (ps rfl (L_pick (v:=Bo ((decide (x10.1 ≥ 0)) && (((decide (x10.1 > 0)) || (s.kind == 6)) || (s.a == 0)))) rfl rfl (and_f hc28) (mB rfl (L_split (d:=27) (b:=((decide (x10.1 ≥ 0)) && (((decide (x10.1 > 0)) || (s.kind == 6)) || (s.a == 0)))) rfl (fun hc208=>?_) (fun hc208=>?_)))))))))))))))
 refine mI rfl (L_eql rfl rfl rfl (mB rfl (L_split (d:=30) (b:=(x10.1 == 2)) rfl (fun hc209=>?_) (fun hc209=>?_))))
 refine ps rfl (L_pick (v:=Bo ((x10.1 == 2) || x10.2)) rfl rfl (or_t hc209) (mB rfl (L_split (d:=33) (b:=((x10.1 == 2) || x10.2)) rfl (fun hc210=>?_) (fun hc210=>?_))))
 refine ps rfl (ps rfl (ps rfl (L_pick (v:=Bo (((x10.1 == 2) || x10.2) || (s.b == 0))) rfl rfl (or_t hc210) (L_pick (v:=Bo (((decide (x10.1 ≥ 0)) && (((decide (x10.1 > 0)) || (s.kind == 6)) || (s.a == 0))) && (((x10.1 == 2) || x10.2) || (s.b == 0)))) rfl rfl (and_t hc208 rfl) (mB rfl (L_split (d:=39) (b:=(((decide (x10.1 ≥ 0)) && (((decide (x10.1 > 0)) || (s.kind == 6)) || (s.a == 0))) && (((x10.1 == 2) || x10.2) || (s.b == 0)))) rfl (fun hc211=>?_) (fun hc211=>?_)))))))
 rw [ite_t hc211] at hb26
 obtain ⟨b25,hb25,hb26⟩:=bind_some hb26
 refine fA 0 fa_56_0 rfl rfl (ldB 0 hst Tryz.isAgg3 rfl rfl rfl (L_eql rfl rfl rfl (mB rfl (L_split (d:=43) (b:=(s.kind == 7)) rfl (fun hc212=>?_) (fun hc212=>?_)))))
 rw [ite_t hc212] at hb25
 refine ps rfl (ps rfl (ps rfl (ps rfl (L_pick (v:=Bo b25) rfl rfl (congrArg Value.bool (so hb25)) (L_pick (v:=Bo b26) rfl rfl (congrArg Value.bool (so hb26)) (aB rfl (nn (rj hR27 ⟨rfl,(Star.keepN 0 hst)⟩))))))))
 rw [ite_f hc212] at hb25
 obtain ⟨x23,hx23,hb25⟩:=bind_some hb25
 refine fA 3 fa_56_3 rfl rfl (L_lda (cs:=[v0_3,I s.given.bound]) rfl Tryz.isAgg54 Tryz.sizeOf54 rfl (At.sub0 (Blk.at (Star.blkAt 0 hst rfl)) 3 2) rfl (L_bld rfl (parts0 ) (bld_54_  ) ?_))
 obtain ⟨H213b,l214,s215,z216,k217⟩:=hst.borrow
 refine L_call rfl Tryz.call89 (ops2 rfl rfl) (i_ConstraintSame_c (a:=s.given) (b:=({ terms:=[],bound:=0 } : Con)) s215 (RP.mono _ h0_3 l214) (rel_nil _ _ _) hx23) ?_
 rintro _ w218 ⟨rfl,hst⟩
 have hst:=k217 hst c0
 refine L_pick (v:=Bo b25) rfl rfl (congrArg Value.bool (so hb25)) (L_pick (v:=Bo b26) rfl rfl (congrArg Value.bool (so hb26)) (aB rfl (nn (rj hR27 ⟨rfl,(Star.keepN 0 hst)⟩))))
 rw [ite_f hc211] at hb26
 refine ps rfl (ps rfl (ps rfl (ps rfl (ps rfl (ps rfl (ps rfl (ps rfl (ps rfl (L_pick (v:=Bo b26) rfl rfl (congrArg Value.bool (so hb26)) (aB rfl (nn (rj hR27 ⟨rfl,(Star.keepN 0 hst)⟩))))))))))))
 refine fA 2 fa_56_2 rfl rfl (ldB 0 hst Tryz.isAgg3 rfl rfl rfl (L_eql rfl rfl rfl (L_pick (v:=Bo (((x10.1 == 2) || x10.2) || (s.b == 0))) rfl rfl (or_f hc210 rfl) (L_pick (v:=Bo (((decide (x10.1 ≥ 0)) && (((decide (x10.1 > 0)) || (s.kind == 6)) || (s.a == 0))) && (((x10.1 == 2) || x10.2) || (s.b == 0)))) rfl rfl (and_t hc208 rfl) (mB rfl (L_split (d:=39) (b:=(((decide (x10.1 ≥ 0)) && (((decide (x10.1 > 0)) || (s.kind == 6)) || (s.a == 0))) && (((x10.1 == 2) || x10.2) || (s.b == 0)))) rfl (fun hc219=>?_) (fun hc219=>?_)))))))
 rw [ite_t hc219] at hb26
 obtain ⟨b25,hb25,hb26⟩:=bind_some hb26
 refine fA 0 fa_56_0 rfl rfl (ldB 0 hst Tryz.isAgg3 rfl rfl rfl (L_eql rfl rfl rfl (mB rfl (L_split (d:=43) (b:=(s.kind == 7)) rfl (fun hc220=>?_) (fun hc220=>?_)))))
 rw [ite_t hc220] at hb25
 refine ps rfl (ps rfl (ps rfl (ps rfl (L_pick (v:=Bo b25) rfl rfl (congrArg Value.bool (so hb25)) (L_pick (v:=Bo b26) rfl rfl (congrArg Value.bool (so hb26)) (aB rfl (nn (rj hR27 ⟨rfl,(Star.keepN 0 hst)⟩))))))))
 rw [ite_f hc220] at hb25
 obtain ⟨x23,hx23,hb25⟩:=bind_some hb25
 refine fA 3 fa_56_3 rfl rfl (L_lda (cs:=[v0_3,I s.given.bound]) rfl Tryz.isAgg54 Tryz.sizeOf54 rfl (At.sub0 (Blk.at (Star.blkAt 0 hst rfl)) 3 2) rfl (L_bld rfl (parts0 ) (bld_54_  ) ?_))
 obtain ⟨H221b,l222,s223,z224,k225⟩:=hst.borrow
 refine L_call rfl Tryz.call89 (ops2 rfl rfl) (i_ConstraintSame_c (a:=s.given) (b:=({ terms:=[],bound:=0 } : Con)) s223 (RP.mono _ h0_3 l222) (rel_nil _ _ _) hx23) ?_
 rintro _ w226 ⟨rfl,hst⟩
 have hst:=k225 hst c0
 refine L_pick (v:=Bo b25) rfl rfl (congrArg Value.bool (so hb25)) (L_pick (v:=Bo b26) rfl rfl (congrArg Value.bool (so hb26)) (aB rfl (nn (rj hR27 ⟨rfl,(Star.keepN 0 hst)⟩))))
 rw [ite_f hc219] at hb26
 refine ps rfl (ps rfl (ps rfl (ps rfl (ps rfl (ps rfl (ps rfl (ps rfl (ps rfl (L_pick (v:=Bo b26) rfl rfl (congrArg Value.bool (so hb26)) (aB rfl (nn (rj hR27 ⟨rfl,(Star.keepN 0 hst)⟩))))))))))))
 refine mB rfl (L_pick (v:=Bo ((x10.1 == 2) || x10.2)) rfl rfl (or_f hc209 rfl) (mB rfl (L_split (d:=33) (b:=((x10.1 == 2) || x10.2)) rfl (fun hc227=>?_) (fun hc227=>?_))))
 refine ps rfl (ps rfl (ps rfl (L_pick (v:=Bo (((x10.1 == 2) || x10.2) || (s.b == 0))) rfl rfl (or_t hc227) (L_pick (v:=Bo (((decide (x10.1 ≥ 0)) && (((decide (x10.1 > 0)) || (s.kind == 6)) || (s.a == 0))) && (((x10.1 == 2) || x10.2) || (s.b == 0)))) rfl rfl (and_t hc208 rfl) (mB rfl (L_split (d:=39) (b:=(((decide (x10.1 ≥ 0)) && (((decide (x10.1 > 0)) || (s.kind == 6)) || (s.a == 0))) && (((x10.1 == 2) || x10.2) || (s.b == 0)))) rfl (fun hc228=>?_) (fun hc228=>?_)))))))
 rw [ite_t hc228] at hb26
 obtain ⟨b25,hb25,hb26⟩:=bind_some hb26
 refine fA 0 fa_56_0 rfl rfl (ldB 0 hst Tryz.isAgg3 rfl rfl rfl (L_eql rfl rfl rfl (mB rfl (L_split (d:=43) (b:=(s.kind == 7)) rfl (fun hc229=>?_) (fun hc229=>?_)))))
 rw [ite_t hc229] at hb25
 refine ps rfl (ps rfl (ps rfl (ps rfl (L_pick (v:=Bo b25) rfl rfl (congrArg Value.bool (so hb25)) (L_pick (v:=Bo b26) rfl rfl (congrArg Value.bool (so hb26)) (aB rfl (nn (rj hR27 ⟨rfl,(Star.keepN 0 hst)⟩))))))))
 rw [ite_f hc229] at hb25
 obtain ⟨x23,hx23,hb25⟩:=bind_some hb25
 refine fA 3 fa_56_3 rfl rfl (L_lda (cs:=[v0_3,I s.given.bound]) rfl Tryz.isAgg54 Tryz.sizeOf54 rfl (At.sub0 (Blk.at (Star.blkAt 0 hst rfl)) 3 2) rfl (L_bld rfl (parts0 ) (bld_54_  ) ?_))
 obtain ⟨H230b,l231,s232,z233,k234⟩:=hst.borrow
 refine L_call rfl Tryz.call89 (ops2 rfl rfl) (i_ConstraintSame_c (a:=s.given) (b:=({ terms:=[],bound:=0 } : Con)) s232 (RP.mono _ h0_3 l231) (rel_nil _ _ _) hx23) ?_
 rintro _ w235 ⟨rfl,hst⟩
 have hst:=k234 hst c0
 refine L_pick (v:=Bo b25) rfl rfl (congrArg Value.bool (so hb25)) (L_pick (v:=Bo b26) rfl rfl (congrArg Value.bool (so hb26)) (aB rfl (nn (rj hR27 ⟨rfl,(Star.keepN 0 hst)⟩))))
 rw [ite_f hc228] at hb26
 refine ps rfl (ps rfl (ps rfl (ps rfl (ps rfl (ps rfl (ps rfl (ps rfl (ps rfl (L_pick (v:=Bo b26) rfl rfl (congrArg Value.bool (so hb26)) (aB rfl (nn (rj hR27 ⟨rfl,(Star.keepN 0 hst)⟩))))))))))))
 refine fA 2 fa_56_2 rfl rfl (ldB 0 hst Tryz.isAgg3 rfl rfl rfl (L_eql rfl rfl rfl (L_pick (v:=Bo (((x10.1 == 2) || x10.2) || (s.b == 0))) rfl rfl (or_f hc227 rfl) (L_pick (v:=Bo (((decide (x10.1 ≥ 0)) && (((decide (x10.1 > 0)) || (s.kind == 6)) || (s.a == 0))) && (((x10.1 == 2) || x10.2) || (s.b == 0)))) rfl rfl (and_t hc208 rfl) (mB rfl (L_split (d:=39) (b:=(((decide (x10.1 ≥ 0)) && (((decide (x10.1 > 0)) || (s.kind == 6)) || (s.a == 0))) && (((x10.1 == 2) || x10.2) || (s.b == 0)))) rfl (fun hc236=>?_) (fun hc236=>?_)))))))
 rw [ite_t hc236] at hb26
 obtain ⟨b25,hb25,hb26⟩:=bind_some hb26
 refine fA 0 fa_56_0 rfl rfl (ldB 0 hst Tryz.isAgg3 rfl rfl rfl (L_eql rfl rfl rfl (mB rfl (L_split (d:=43) (b:=(s.kind == 7)) rfl (fun hc237=>?_) (fun hc237=>?_)))))
 rw [ite_t hc237] at hb25
 refine ps rfl (ps rfl (ps rfl (ps rfl (L_pick (v:=Bo b25) rfl rfl (congrArg Value.bool (so hb25)) (L_pick (v:=Bo b26) rfl rfl (congrArg Value.bool (so hb26)) (aB rfl (nn (rj hR27 ⟨rfl,(Star.keepN 0 hst)⟩))))))))
 rw [ite_f hc237] at hb25
 obtain ⟨x23,hx23,hb25⟩:=bind_some hb25
 refine fA 3 fa_56_3 rfl rfl (L_lda (cs:=[v0_3,I s.given.bound]) rfl Tryz.isAgg54 Tryz.sizeOf54 rfl (At.sub0 (Blk.at (Star.blkAt 0 hst rfl)) 3 2) rfl (L_bld rfl (parts0 ) (bld_54_  ) ?_))
 obtain ⟨H238b,l239,s240,z241,k242⟩:=hst.borrow
 refine L_call rfl Tryz.call89 (ops2 rfl rfl) (i_ConstraintSame_c (a:=s.given) (b:=({ terms:=[],bound:=0 } : Con)) s240 (RP.mono _ h0_3 l239) (rel_nil _ _ _) hx23) ?_
 rintro _ w243 ⟨rfl,hst⟩
 have hst:=k242 hst c0
 refine L_pick (v:=Bo b25) rfl rfl (congrArg Value.bool (so hb25)) (L_pick (v:=Bo b26) rfl rfl (congrArg Value.bool (so hb26)) (aB rfl (nn (rj hR27 ⟨rfl,(Star.keepN 0 hst)⟩))))
 rw [ite_f hc236] at hb26
 refine ps rfl (ps rfl (ps rfl (ps rfl (ps rfl (ps rfl (ps rfl (ps rfl (ps rfl (L_pick (v:=Bo b26) rfl rfl (congrArg Value.bool (so hb26)) (aB rfl (nn (rj hR27 ⟨rfl,(Star.keepN 0 hst)⟩))))))))))))
 refine ps rfl (ps rfl (ps rfl (ps rfl (ps rfl (ps rfl (ps rfl (ps rfl (ps rfl (ps rfl (L_pick (v:=Bo (((decide (x10.1 ≥ 0)) && (((decide (x10.1 > 0)) || (s.kind == 6)) || (s.a == 0))) && (((x10.1 == 2) || x10.2) || (s.b == 0)))) rfl rfl (and_f hc208) (mB rfl (L_split (d:=39) (b:=(((decide (x10.1 ≥ 0)) && (((decide (x10.1 > 0)) || (s.kind == 6)) || (s.a == 0))) && (((x10.1 == 2) || x10.2) || (s.b == 0)))) rfl (fun hc244=>?_) (fun hc244=>?_)))))))))))))
 rw [ite_t hc244] at hb26
 obtain ⟨b25,hb25,hb26⟩:=bind_some hb26
 refine fA 0 fa_56_0 rfl rfl (ldB 0 hst Tryz.isAgg3 rfl rfl rfl (L_eql rfl rfl rfl (mB rfl (L_split (d:=43) (b:=(s.kind == 7)) rfl (fun hc245=>?_) (fun hc245=>?_)))))
 rw [ite_t hc245] at hb25
 refine ps rfl (ps rfl (ps rfl (ps rfl (L_pick (v:=Bo b25) rfl rfl (congrArg Value.bool (so hb25)) (L_pick (v:=Bo b26) rfl rfl (congrArg Value.bool (so hb26)) (aB rfl (nn (rj hR27 ⟨rfl,(Star.keepN 0 hst)⟩))))))))
 rw [ite_f hc245] at hb25
 obtain ⟨x23,hx23,hb25⟩:=bind_some hb25
 refine fA 3 fa_56_3 rfl rfl (L_lda (cs:=[v0_3,I s.given.bound]) rfl Tryz.isAgg54 Tryz.sizeOf54 rfl (At.sub0 (Blk.at (Star.blkAt 0 hst rfl)) 3 2) rfl (L_bld rfl (parts0 ) (bld_54_  ) ?_))
 obtain ⟨H246b,l247,s248,z249,k250⟩:=hst.borrow
 refine L_call rfl Tryz.call89 (ops2 rfl rfl) (i_ConstraintSame_c (a:=s.given) (b:=({ terms:=[],bound:=0 } : Con)) s248 (RP.mono _ h0_3 l247) (rel_nil _ _ _) hx23) ?_
 rintro _ w251 ⟨rfl,hst⟩
 have hst:=k250 hst c0
 refine L_pick (v:=Bo b25) rfl rfl (congrArg Value.bool (so hb25)) (L_pick (v:=Bo b26) rfl rfl (congrArg Value.bool (so hb26)) (aB rfl (nn (rj hR27 ⟨rfl,(Star.keepN 0 hst)⟩))))
 rw [ite_f hc244] at hb26
 refine ps rfl (ps rfl (ps rfl (ps rfl (ps rfl (ps rfl (ps rfl (ps rfl (ps rfl (L_pick (v:=Bo b26) rfl rfl (congrArg Value.bool (so hb26)) (aB rfl (nn (rj hR27 ⟨rfl,(Star.keepN 0 hst)⟩))))))))))))
 intro f w_ hR
 obtain ⟨sf2,hst⟩:=rk hR27 hR
 refine W_ret (retG1 (v1:=Bo b26) Tryz.results73 sf2 ?_)
 obtain rfl:=so hF
 exact ⟨rfl,hst⟩
theorem i_running_has_c {r_ : Db} {i : Int} {g_0 : Nat} {v0_0 : Value} {v0_1 : Value} {H : FH} {w : World} {R : List Ass} (hst : Star H w (box g_0 80 #[v0_0,v0_1] :: oF 54 (rCon 83) v0_0 r_.list :: oF 4 RP.bool v0_1 r_.gone :: R)) {r : Bool} (hF : i_running_has r_ i = some r) :
 C Tryz.prog 74 #[Pt g_0,I i] w fun v w'=>∃ H' : FH,Le H H'∧v = Bo r∧Star H' w' (box g_0 80 #[v0_0,v0_1] :: oF 54 (rCon 83) v0_0 r_.list :: oF 4 RP.bool v0_1 r_.gone :: R):=by
 unfold i_running_has at hF
 refine C_enter Tryz.func74 rfl Tryz.ntmps74 rfl (sq (aB rfl (nq ?_)))
 obtain ⟨x6,hx6,hF⟩:=bind_some hF
 obtain ⟨b13,hb13,hF⟩:=bind_some hF
 obtain ⟨R14,hR14⟩:=exR fun f w_=>f 4 = Bo b13∧Star H w_ (oF 54 (rCon 83) v0_0 r_.list :: oF 4 RP.bool v0_1 r_.gone :: box g_0 80 #[v0_0,v0_1] :: R)
 refine W_join R14 ?_ ?_
 refine W_region (mI rfl (mV (Pt g_0) rfl (L_nc rfl rfl (fA 0 fa_80_0 rfl rfl (ldB 0 hst Tryz.isAgg29 rfl rfl rfl (L_len rfl Tryz.underlying29 rfl (Star.len 1 hst rfl) (L_sub rfl rfl rfl ?_)))))))
 obtain ⟨H15b,l16,s17,z18,k19⟩:=hst.borrow
 refine L_call rfl Tryz.call85 (ops3 rfl rfl rfl) (i_within_c (n_:=i) (low:=0) (high:=i64 ((r_.list.length : Int) - 1)) s17 hx6) ?_
 rintro _ w20 ⟨rfl,hst⟩
 have hst:=k19 hst c0
 refine mB rfl (L_split (d:=13) (b:=x6) rfl (fun hc21=>?_) (fun hc21=>?_))
 rw [ite_t hc21] at hb13
 obtain ⟨x8,hx8,hb13⟩:=bind_some hb13
 refine mV (Pt g_0) rfl (L_nc rfl rfl (fA 1 fa_80_1 rfl rfl (ldB 0 hst Tryz.isAgg45 rfl rfl rfl (mI rfl ?_))))
 obtain ⟨g22,cap_g22,hv23,_,_⟩:=Star.row 2 hst rfl hx8
 refine L_ixO (R:=(OR.frz RP.bool)) (tb:=0) 0 rfl Tryz.underlying45 Tryz.sizeOf4 rfl hv23 (by first | rfl | simp) rfl hx8 ?_
 obtain ⟨cs24,hr24,hat24⟩:=Star.eltF 2 hst rfl hv23 hx8
 obtain rfl : _ = [_]:=hr24
 refine L_ld rfl Tryz.isAgg4 rfl (At.cell hat24 (j:=0) rfl) (L_not_ rfl rfl (L_pick (v:=Bo b13) rfl rfl (congrArg Value.bool (so hb13)) (aB rfl (nn ?_))))
 have hst:=hst.gets [2,2] rfl
 exact rj hR14 ⟨rfl,hst⟩
 rw [ite_f hc21] at hb13
 refine ps rfl (ps rfl (ps rfl (ps rfl (ps rfl (ps rfl (ps rfl (ps rfl (L_pick (v:=Bo b13) rfl rfl (congrArg Value.bool (so hb13)) (aB rfl (nn ?_))))))))))
 have hst:=hst.gets [2,2] rfl
 exact rj hR14 ⟨rfl,hst⟩
 intro f w_ hR
 obtain ⟨sf4,hst⟩:=rk hR14 hR
 refine W_ret (retG1 (v1:=Bo b13) Tryz.results74 sf4 ?_)
 obtain rfl:=so hF
 have hst:=hst.gets [1,1,2] rfl
 exact ⟨H,(Le.refl _),rfl,hst⟩
theorem i_Constraint_valid_c {c : Con} {v0_0 : Value} {H : FH} {w : World} {R : List Ass} (hst : Star H w R) (h0_0 : (rS 83 rTerm).rel H [v0_0] c.terms) {r : Con × Bool} (hF : i_Constraint_valid c = some r) :
 C Tryz.prog 99 #[.agg #[v0_0,I c.bound]] w fun v w'=>∃ H' : FH,Le H H'∧∃ (u1 : Value),v = .tuple #[.agg #[u1,I r.1.bound],Bo r.2]∧(rS 83 rTerm).rel H' [u1] r.1.terms∧Star H' w' (R):=by
 unfold i_Constraint_valid at hF
 refine C_enter Tryz.func99 rfl Tryz.ntmps99 rfl (sq (L_box (v:=.agg #[v0_0,I c.bound]) (cs:=#[v0_0,I c.bound]) rfl rfl rfl hst (fun g5 w6 hst=>L_al (cs:=#[S0,I 0]) rfl Tryz.zeroValue54 rfl hst (fun g7 w8 hst=>aB rfl (nq (W_seq ?_))))))
 obtain ⟨x14,hx14,hF⟩:=bind_some hF
 refine W_region (L_lda (cs:=[v0_0,I c.bound]) rfl Tryz.isAgg54 Tryz.sizeOf54 rfl (At.sub0 (Blk.at (Star.blkAt 1 hst rfl)) 0 2) rfl ?_)
 obtain ⟨H16b,l17,s18,z19,k20⟩:=hst.borrow
 refine L_call rfl Tryz.call67 (ops1 rfl) (i_ConstraintValid_c (c:=c) s18 (RP.mono _ h0_0 l17) hx14) ?_
 rintro _ w21 ⟨rfl,hst⟩
 have hst:=k20 hst c0
 refine L_not_ rfl rfl (nn (W_cond (b:=(!x14)) rfl (fun hc22=>?_) (fun hc22=>?_)))
 have hF:=(ite_t hc22).symm.trans hF
 refine sq (L_bld rfl (parts0 ) (bld_54_  ) (L_staB (vs:=#[S0,I 0]) (cs2:=#[S0,I 0]) 0 rfl Tryz.sizeOf54 rfl rfl rfl (ones_cons rfl (ones_cons rfl ones_nil)) hst rfl (by show 0 + 2≤2; decide) rfl (fun w24 hst=>aB rfl (nn (W_ret (retG2 (v1:=.agg #[S0,I 0]) (v2:=Bo false) Tryz.results99 (resV_agg Tryz.isAgg54 Tryz.sizeOf54 rfl (Star.blkAt 0 hst rfl) rfl) rfl ?_))))))
 obtain rfl:=so hF
 have hst:=Star.drop 0 hst rfl
 have hst:=Star.drop 0 hst rfl
 exact ⟨H,(Le.refl _),S0,rfl,(rel_nil _ _ _),hst⟩
 have hF:=(ite_f hc22).symm.trans hF
 refine W_skip (sq (L_lda (cs:=[v0_0,I c.bound]) rfl Tryz.isAgg54 Tryz.sizeOf54 rfl (At.sub0 (Blk.at (Star.blkAt 1 hst rfl)) 0 2) rfl (L_staB (vs:=#[v0_0,I c.bound]) (cs2:=#[v0_0,I c.bound]) 0 rfl Tryz.sizeOf54 rfl rfl rfl (ones_cons (one_len (slice_len h0_0)) (ones_cons rfl ones_nil)) hst rfl (by show 0 + 2≤2; decide) rfl (fun w26 hst=>aB rfl (nn (W_ret (retG2 (v1:=.agg #[v0_0,I c.bound]) (v2:=Bo true) Tryz.results99 (resV_agg Tryz.isAgg54 Tryz.sizeOf54 rfl (Star.blkAt 0 hst rfl) rfl) rfl ?_)))))))
 obtain rfl:=so hF
 have hst:=Star.drop 0 hst rfl
 have hst:=Star.drop 0 hst rfl
 exact ⟨H,(Le.refl _),v0_0,rfl,h0_0,hst⟩
theorem i_normal_c {terms : List Term} {bound : Int} {v0 : Value} {H : FH} {w : World} {R : List Ass} (hst : Star H w R) (h0 : (rS 83 rTerm).rel H [v0] terms) {r : Con × Bool} (hF : i_normal terms bound = some r) :
 C Tryz.prog 90 #[v0,I bound] w fun v w'=>∃ H' : FH,Le H H'∧∃ (u1 : Value),v = .tuple #[.agg #[u1,I r.1.bound],Bo r.2]∧(rS 83 rTerm).rel H' [u1] r.1.terms∧Star H' w' (R):=by
 unfold i_normal at hF
 refine C_enter Tryz.func90 rfl Tryz.ntmps90 rfl (sq (L_al (cs:=#[S0,I 0]) rfl Tryz.zeroValue54 rfl hst (fun g3 w4 hst=>aB rfl (ns (L_al (cs:=arrC (List.replicate 13 (0 : Int))) rfl Tryz.zeroValue118 rfl hst (fun g11 w12 hst=>?_))))))
 have hst:=Star.toArr (List.replicate 13 (0 : Int)) 13 rfl rfl hst
 refine nq (sq (mV v0 rfl (L_len rfl Tryz.underlying52 rfl (slice_len h0) (mI rfl (nn ?_)))))
 have hlen18 : List.length terms≤9223372036854775807:=len_le (slice_len h0)
 obtain ⟨j18,hL18,hF⟩:=bind_some hF
 obtain ⟨R18,hR18⟩:=exR fun f w_=>∃ bound_14 : Int,∃ ag11_15 : List Int,∃ H16 : FH,j18 = .nx (bound_14,ag11_15)∧Le H H16∧f 1 = I bound_14∧f 4 = Pt g3∧f 6 = Pt g11∧Star H16 w_ (arr g11 118 13 ag11_15 :: box g3 54 #[S0,I 0] :: R)
 refine W_join R18 ?_ ?_
 refine W_block ?_
 obtain ⟨I18,hI18⟩:=exI fun n f w_=>∃ i_13 : Nat,∃ suf18 : List Term,∃ bound_14 : Int,∃ ag11_15 : List Int,∃ H16 : FH,n = suf18.length∧List.drop i_13 terms = suf18∧i_13 + suf18.length = terms.length∧rangeL i_normal_b1 suf18 i_13 (bound_14,ag11_15) = some j18∧Le H H16∧f 1 = I bound_14∧f 4 = Pt g3∧f 6 = Pt g11∧f 12 = v0∧f 13 = I (terms.length : Int)∧f 14 = I i_13∧Star H16 w_ (arr g11 118 13 ag11_15 :: box g3 54 #[S0,I 0] :: R)
 refine W_loop I18 (n:=terms.length) ?_ ?_
 exact ij hI18 ⟨0,terms,bound,(List.replicate 13 (0 : Int)),H,rfl,rfl,Nat.zero_add _,hL18,(Le.refl _),rfl,rfl,rfl,rfl,rfl,rfl,hst⟩
 intro n18 f w_ hI
 obtain ⟨i_13,suf18,bound_14,ag11_15,H16,rfl,hd18,hl18,hL18,l17,sf1,sf4,sf6,sf12,sf13,sf14,hst⟩:=ik hI18 hI
 refine sq (L_lss rfl sf14 sf13 (nq (W_cond (b:=decide ((i_13 : Int) < (terms.length : Int))) rfl (fun hc19=>?_) (fun hc19=>?_))))
 have hlt18:=of_decide_eq_true hc19
 rcases suf18 with _ | ⟨x_18,rest18⟩
 exact absurd hlt18 (by simp at hl18; omega)
 obtain ⟨o18,hB18,hL18⟩:=range_cons hL18
 rw [i_normal_b1] at hB18
 have hix18:=drop_idx hd18
 refine W_skip (W_seq (W_block (sq (L_ix (r:=rTerm) rfl Tryz.underlying52 Tryz.sizeOf83 sf12 (RP.mono _ h0 l17) sf14 hix18 (fun g27 o28 cs_g27 hrk_hat29 hat29=>?_)))))
 obtain rfl:=rTerm_iff.1 hrk_hat29
 refine L_lda (cs:=[I x_18.coef,I x_18.lit]) rfl Tryz.isAgg83 Tryz.sizeOf83 rfl (At.sub (AtH.at hat29 hst.sub) 0 2) rfl (L_al (cs:=#[I 0,I 0]) rfl Tryz.zeroValue83 rfl hst (fun g31 w32 hst=>L_staB (vs:=#[I x_18.coef,I x_18.lit]) (cs2:=#[I x_18.coef,I x_18.lit]) 0 rfl Tryz.sizeOf83 rfl rfl rfl (ones_cons rfl (ones_cons rfl ones_nil)) hst rfl (by show 0 + 2≤2; decide) rfl (fun w33 hst=>ns (fA 1 fa_83_1 rfl rfl (ldB 0 hst Tryz.isAgg3 rfl rfl rfl (L_lss rfl rfl rfl (nn ?_)))))))
 obtain ⟨⟨bound_34,ag11_35⟩,hA38,hB18⟩:=bind_some hB18
 obtain ⟨R38,hR38⟩:=exR fun f w_=>∃ H36 : FH,Le H16 H36∧f 1 = I bound_34∧f 4 = Pt g3∧f 6 = Pt g11∧f 12 = v0∧f 13 = I (terms.length : Int)∧f 14 = I i_13∧Star H36 w_ (arr g11 118 13 ag11_35 :: box g3 54 #[S0,I 0] :: R)
 refine W_join R38 ?_ ?_
 refine W_cond (b:=decide (x_18.lit < 0)) rfl (fun hc39=>?_) (fun hc39=>?_)
 have hA38:=(ite_t hc39).symm.trans hA38
 refine sq (mF sf1 rfl (fA 0 fa_83_0 rfl rfl (ldB 0 hst Tryz.isAgg3 rfl rfl rfl (L_sub rfl rfl rfl (aI rfl (nn ?_))))))
 obtain ⟨x40,hx40,hA38⟩:=bind_some hA38
 refine W_drawS 7 [isV (Pq g31 1),isV (I x_18.lit),isV (I (i64 (-x_18.lit))),isV (.pointer (some ⟨g11,Int.toNat (i64 (-x_18.lit)) * 1,none⟩)),isV (I x40),isV (Pt g31),isV (I x_18.coef)] [box g31 83 #[I x_18.coef,I x_18.lit],arr g11 118 13 ag11_15,box g3 54 #[S0,I 0]] [] (R) [([],[]),([],[]),([],[]),([],[]),([],[]),([],[]),([],[])] (S:=[]) Tryz_mix (by kernel_rfl) rfl (by kernel_rfl) (amF_cons (mono_V _) (amF_cons (mono_V _) (amF_cons (mono_V _) (amF_cons (mono_V _) (amF_cons (mono_V _) (amF_cons (mono_V _) (amF_cons (mono_V _) amF_nil))))))) hst ?_ (fun f w_ H42 hS42 hE42 hT42 hst=>?_)
 refine opsS_cons (fun f w_ _ _ s _ _ hst=>fA 1 fa_83_1 ((s 8 rfl).trans rfl) rfl (nO rfl rfl hst)) (opsS_cons (fun f w_ _ _ _ _ p hst=>ldB 0 hst Tryz.isAgg3 (p 0 25 rfl rfl) rfl rfl (nO rfl rfl hst)) (opsS_cons (fun f w_ _ _ _ _ p hst=>L_neg rfl (p 1 26 rfl rfl) (nO rfl rfl hst)) (opsS_cons (fun f w_ _ _ s _ p hst=>L_ixA 1 rfl Tryz.underlying118 Tryz.sizeOf3 ((s 6 rfl).trans sf6) (p 2 27 rfl rfl) hst rfl hx40 (nO rfl rfl hst)) (opsS_cons (fun f w_ _ _ _ _ p hst=>L_ldA 1 rfl Tryz.isAgg3 (p 3 28 rfl rfl) hst rfl hx40 (nO rfl rfl hst)) (opsS_cons (fun f w_ _ _ s _ _ hst=>fA 0 fa_83_0 ((s 8 rfl).trans rfl) rfl (nO rfl rfl hst)) (opsS_cons (fun f w_ _ _ _ _ p hst=>ldB 0 hst Tryz.isAgg3 (p 5 30 rfl rfl) rfl rfl (nO rfl rfl hst)) (opsS_nil)))))))
 refine L_sub rfl (hT42 4 29 rfl rfl) (hT42 6 31 rfl rfl) (L_ixA 1 rfl Tryz.underlying118 Tryz.sizeOf3 ((hS42 6 rfl).trans sf6) (hT42 2 27 rfl rfl) hst rfl hx40 ?_)
 have hst:=hst.get 1 rfl
 refine L_stA rfl Tryz.sizeOf3 rfl rfl hst hx40 (fun w43 hst=>nn ?_)
 obtain ⟨rfl,rfl⟩:=so2 hA38
 have hst:=hst.gets [2,1] rfl
 have hst:=Star.drop 2 hst rfl
 exact rj hR38 ⟨H42,hE42,((hS42 1 rfl).trans rfl),((hS42 4 rfl).trans sf4),((hS42 6 rfl).trans sf6),((hS42 12 rfl).trans sf12),((hS42 13 rfl).trans sf13),((hS42 14 rfl).trans sf14),hst⟩
 have hA38:=(ite_f hc39).symm.trans hA38
 obtain ⟨x44,hx44,hA38⟩:=bind_some hA38
 refine W_drawS 6 [isV (Pq g31 1),isV (I x_18.lit),isV (.pointer (some ⟨g11,Int.toNat x_18.lit * 1,none⟩)),isV (I x44),isV (Pt g31),isV (I x_18.coef)] [box g31 83 #[I x_18.coef,I x_18.lit],arr g11 118 13 ag11_15,box g3 54 #[S0,I 0]] [] (R) [([],[]),([],[]),([],[]),([],[]),([],[]),([],[])] (S:=[]) Tryz_mix (by kernel_rfl) rfl (by kernel_rfl) (amF_cons (mono_V _) (amF_cons (mono_V _) (amF_cons (mono_V _) (amF_cons (mono_V _) (amF_cons (mono_V _) (amF_cons (mono_V _) amF_nil)))))) hst ?_ (fun f w_ H46 hS46 hE46 hT46 hst=>?_)
 refine opsS_cons (fun f w_ _ _ s _ _ hst=>fA 1 fa_83_1 ((s 8 rfl).trans rfl) rfl (nO rfl rfl hst)) (opsS_cons (fun f w_ _ _ _ _ p hst=>ldB 0 hst Tryz.isAgg3 (p 0 34 rfl rfl) rfl rfl (nO rfl rfl hst)) (opsS_cons (fun f w_ _ _ s _ p hst=>L_ixA 1 rfl Tryz.underlying118 Tryz.sizeOf3 ((s 6 rfl).trans sf6) (p 1 35 rfl rfl) hst rfl hx44 (nO rfl rfl hst)) (opsS_cons (fun f w_ _ _ _ _ p hst=>L_ldA 1 rfl Tryz.isAgg3 (p 2 36 rfl rfl) hst rfl hx44 (nO rfl rfl hst)) (opsS_cons (fun f w_ _ _ s _ _ hst=>fA 0 fa_83_0 ((s 8 rfl).trans rfl) rfl (nO rfl rfl hst)) (opsS_cons (fun f w_ _ _ _ _ p hst=>ldB 0 hst Tryz.isAgg3 (p 4 38 rfl rfl) rfl rfl (nO rfl rfl hst)) (opsS_nil))))))
 refine L_add rfl (hT46 3 37 rfl rfl) (hT46 5 39 rfl rfl) (L_ixA 1 rfl Tryz.underlying118 Tryz.sizeOf3 ((hS46 6 rfl).trans sf6) (hT46 1 35 rfl rfl) hst rfl hx44 ?_)
 have hst:=hst.get 1 rfl
 refine L_stA rfl Tryz.sizeOf3 rfl rfl hst hx44 (fun w47 hst=>nn ?_)
 obtain ⟨rfl,rfl⟩:=so2 hA38
 have hst:=hst.gets [2,1] rfl
 have hst:=Star.drop 2 hst rfl
 exact rj hR38 ⟨H46,hE46,((hS46 1 rfl).trans sf1),((hS46 4 rfl).trans sf4),((hS46 6 rfl).trans sf6),((hS46 12 rfl).trans sf12),((hS46 13 rfl).trans sf13),((hS46 14 rfl).trans sf14),hst⟩
 intro f w_ hR
 obtain ⟨H36,l37,sf1,sf4,sf6,sf12,sf13,sf14,hst⟩:=rk hR38 hR
 refine W_region (L_add rfl sf14 rfl (mI rfl (nn ?_)))
 obtain rfl:=so hB18
 show ∃ m,m < _∧I18 m _ _
 refine ⟨rest18.length,by simp,?_⟩
 exact ij hI18 ⟨i_13 + 1,rest18,bound_34,ag11_35,H36,rfl,drop_next hd18,by simp at hl18; omega,hL18,(Le.trans l17 l37),sf1,sf4,sf6,sf12,sf13,(Eq.trans rfl (congrArg (Value.int .i64) (i64_succ (n:=terms.length) (by simp at hl18; omega) hlen18))),hst⟩
 rcases suf18 with _ | ⟨_,_⟩
 obtain rfl:=range_nil hL18
 refine W_exit (rj hR18 ⟨bound_14,ag11_15,H16,rfl,l17,sf1,sf4,sf6,hst⟩)
 exact absurd (of_decide_eq_false hc19) (by simp at hl18; omega)
 intro f w_ hR
 obtain ⟨bound_14,ag11_15,H16,rfl,l17,sf1,sf4,sf6,hst⟩:=rk hR18 hR
 refine sq (L_bld rfl (parts0 ) (bld_54_  ) (L_al (cs:=#[S0,I 0]) rfl Tryz.zeroValue54 rfl hst (fun g51 w52 hst=>L_staB (vs:=#[S0,I 0]) (cs2:=#[S0,I 0]) 0 rfl Tryz.sizeOf54 rfl rfl rfl (ones_cons rfl (ones_cons rfl ones_nil)) hst rfl (by show 0 + 2≤2; decide) rfl (fun w53 hst=>nq (sq ?_)))))
 have hla55:=(Star.arrAt 1 hst rfl).2
 refine L_ldAA 1 rfl Tryz.isAgg118 Tryz.sizeOf118 sf6 hst rfl (mI rfl (nn ?_))
 obtain ⟨k61,hk61,hF⟩:=bind_some hF
 obtain ⟨j60,hL60,hF⟩:=bind_some hF
 obtain ⟨R60,hR60⟩:=exR fun f w_=>∃ bound_57 : Int,∃ g51_0_58 : List Term,∃ v58_g51_0 : Value,j60 = .nx (bound_57,g51_0_58)∧f 1 = I bound_57∧f 4 = Pt g3∧f 9 = Pt g51∧Star H16 w_ (oF 83 rTerm v58_g51_0 g51_0_58 :: box g51 54 #[v58_g51_0,I 0] :: box g3 54 #[S0,I 0] :: R)
 refine W_join R60 ?_ ?_
 refine W_block ?_
 obtain ⟨I60,hI60⟩:=exI fun n f w_=>∃ i_56 : Nat,∃ suf60 : Nat,∃ bound_57 : Int,∃ g51_0_58 : List Term,∃ v58_g51_0 : Value,suf60 = n∧0≤i_56∧i_56 + suf60 = 0 + k61∧countL (i_normal_b2 ag11_15) suf60 i_56 (bound_57,g51_0_58) = some j60∧f 1 = I bound_57∧f 4 = Pt g3∧f 9 = Pt g51∧f 44 = (.agg (arrC ag11_15))∧f 45 = I i_56∧Star H16 w_ (oF 83 rTerm v58_g51_0 g51_0_58 :: box g51 54 #[v58_g51_0,I 0] :: box g3 54 #[S0,I 0] :: R)
 have hst:=Star.addNil (R:=(OR.frz rTerm)) (e:=83) hst
 have hst:=hst.gets [3,2,2] rfl
 have hst:=Star.drop 3 hst rfl
 refine W_loop I60 (n:=k61) ?_ ?_
 exact ij hI60 ⟨0,k61,bound_14,[],S0,rfl,Nat.le_refl _,rfl,hL60,sf1,sf4,rfl,rfl,rfl,hst⟩
 intro n60 f w_ hI
 obtain ⟨i_56,suf60,bound_57,g51_0_58,v58_g51_0,rfl,hs60,hl60,hL60,sf1,sf4,sf9,sf44,sf45,hst⟩:=ik hI60 hI
 refine sq (L_lss rfl sf45 rfl (nq (W_cond (b:=decide ((i_56 : Int) < 13)) rfl (fun hc63=>?_) (fun hc63=>?_))))
 have hlt60:=of_decide_eq_true hc63
 rcases suf60 with _ | rest60
 exact absurd hlt60 (cntF_no hl60 hk61)
 obtain ⟨o60,hB60,hL60⟩:=count_succ hL60
 rw [i_normal_b2] at hB60
 refine W_skip (W_seq (W_block (W_seq ?_)))
 obtain ⟨x64,hx64,hB60⟩:=bind_some hB60
 refine W_region (mF sf45 rfl (L_ixV rfl Tryz.underlying118 Tryz.sizeOf3 Tryz.isAgg3 sf44 sf45 hla55 hx64 (aI rfl (aI rfl (nn (W_block (sq (mI rfl (L_gtr rfl rfl rfl (aB rfl (nn ?_)))))))))))
 obtain ⟨⟨bound_65,g51_0_66⟩,hA68,hB60⟩:=bind_some hB60
 obtain ⟨R68,hR68⟩:=exR fun f w_=>∃ v66_g51_0 : Value,f 1 = I bound_65∧f 4 = Pt g3∧f 9 = Pt g51∧f 44 = (.agg (arrC ag11_15))∧f 45 = I i_56∧Star H16 w_ (oF 83 rTerm v66_g51_0 g51_0_66 :: box g51 54 #[v66_g51_0,I 0] :: box g3 54 #[S0,I 0] :: R)
 refine W_join R68 ?_ ?_
 refine W_cond (b:=decide (x64 > 0)) rfl (fun hc69=>?_) (fun hc69=>?_)
 have hA68:=(ite_t hc69).symm.trans hA68
 obtain ⟨x73,hx73,hA68⟩:=bind_some hA68
 refine W_region (fA 0 fa_54_0 sf9 rfl (ldB 1 hst Tryz.isAgg52 rfl rfl rfl (mI rfl (mI rfl (L_bld rfl (parts2 rfl rfl) (bld_83_0_1 (I x64) (I i_56) rfl rfl) (L_bs rfl (parts1 rfl) (bs_52_1_2 (I x64) (I i_56) ) hst (fun g78 w79 hst=>?_)))))))
 have hst:=Star.addF (r:=rTerm) (cs:=[I x64,I i_56]) (x:=({ coef:=x64,lit:=(i_56 : Int) } : Term)) hst (rTerm_iff.2 rfl)
 have hst:=Star.mkRow (R:=(OR.frz rTerm)) [([I x64,I i_56],({ coef:=x64,lit:=(i_56 : Int) } : Term))] [({ coef:=x64,lit:=(i_56 : Int) } : Term)] 1 hst rfl rfl rfl (by decide)
 have hst:=hst.get 1 rfl
 refine L_appM (v:=v58_g51_0) (u:=(Sl g78 1 1)) rfl et_52 rfl rfl hst hx73 (fun v81 w82 hst=>fA 0 fa_54_0 sf9 rfl (L_stB (v:=v81) (cs2:=#[v81,I 0]) 1 rfl Tryz.sizeOf52 rfl rfl (one_len (Star.len 0 hst rfl)) hst rfl rfl rfl (fun w84 hst=>nn ?_)))
 obtain ⟨rfl,rfl⟩:=so2 hA68
 have hst:=hst.gets [2,1,2] rfl
 exact rj hR68 ⟨v81,sf1,sf4,sf9,sf44,sf45,hst⟩
 have hA68:=(ite_f hc69).symm.trans hA68
 refine sq (mI rfl (L_lss rfl rfl rfl (aB rfl (nn ?_))))
 obtain ⟨⟨bound_85,g51_0_86⟩,hA88,hA68⟩:=bind_some hA68
 obtain ⟨R88,hR88⟩:=exR fun f w_=>∃ v86_g51_0 : Value,f 1 = I bound_85∧f 4 = Pt g3∧f 9 = Pt g51∧f 44 = (.agg (arrC ag11_15))∧f 45 = I i_56∧Star H16 w_ (oF 83 rTerm v86_g51_0 g51_0_86 :: box g51 54 #[v86_g51_0,I 0] :: box g3 54 #[S0,I 0] :: R)
 refine W_join R88 ?_ ?_
 refine W_cond (b:=decide (x64 < 0)) rfl (fun hc89=>?_) (fun hc89=>?_)
 have hA88:=(ite_t hc89).symm.trans hA88
 refine W_seq ?_
 obtain ⟨x93,hx93,hA88⟩:=bind_some hA88
 refine W_region (fA 0 fa_54_0 sf9 rfl (ldB 1 hst Tryz.isAgg52 rfl rfl rfl (mI rfl (L_neg rfl rfl (mI rfl (L_neg rfl rfl (L_bld rfl (parts2 rfl rfl) (bld_83_0_1 (I (i64 (-x64))) (I (i64 (-(i_56 : Int)))) rfl rfl) (L_bs rfl (parts1 rfl) (bs_52_1_2 (I (i64 (-x64))) (I (i64 (-(i_56 : Int)))) ) hst (fun g98 w99 hst=>?_)))))))))
 have hst:=Star.addF (r:=rTerm) (cs:=[I (i64 (-x64)),I (i64 (-(i_56 : Int)))]) (x:=({ coef:=i64 (-x64),lit:=i64 (-(i_56 : Int)) } : Term)) hst (rTerm_iff.2 rfl)
 have hst:=Star.mkRow (R:=(OR.frz rTerm)) [([I (i64 (-x64)),I (i64 (-(i_56 : Int)))],({ coef:=i64 (-x64),lit:=i64 (-(i_56 : Int)) } : Term))] [({ coef:=i64 (-x64),lit:=i64 (-(i_56 : Int)) } : Term)] 1 hst rfl rfl rfl (by decide)
 have hst:=hst.get 1 rfl
 refine L_appM (v:=v58_g51_0) (u:=(Sl g98 1 1)) rfl et_52 rfl rfl hst hx93 (fun v101 w102 hst=>fA 0 fa_54_0 sf9 rfl (L_stB (v:=v101) (cs2:=#[v101,I 0]) 1 rfl Tryz.sizeOf52 rfl rfl (one_len (Star.len 0 hst rfl)) hst rfl rfl rfl (fun w104 hst=>nn (W_region (mF sf1 rfl (mI rfl (L_sub rfl rfl rfl (aI rfl (nn ?_)))))))))
 obtain ⟨rfl,rfl⟩:=so2 hA88
 have hst:=hst.gets [2,1,2] rfl
 exact rj hR88 ⟨v101,rfl,sf4,sf9,sf44,sf45,hst⟩
 have hA88:=(ite_f hc89).symm.trans hA88
 refine W_skip ?_
 obtain ⟨rfl,rfl⟩:=so2 hA88
 exact rj hR88 ⟨v58_g51_0,sf1,sf4,sf9,sf44,sf45,hst⟩
 intro f w_ hR
 obtain ⟨v86_g51_0,sf1,sf4,sf9,sf44,sf45,hst⟩:=rk hR88 hR
 obtain ⟨rfl,rfl⟩:=so2 hA68
 exact rj hR68 ⟨v86_g51_0,sf1,sf4,sf9,sf44,sf45,hst⟩
 intro f w_ hR
 obtain ⟨v66_g51_0,sf1,sf4,sf9,sf44,sf45,hst⟩:=rk hR68 hR
 refine W_region (L_add rfl sf45 rfl (mI rfl (nn ?_)))
 obtain rfl:=so hB60
 show ∃ m,m < _∧I60 m _ _
 refine ⟨rest60,Nat.lt_succ_self _,?_⟩
 exact ij hI60 ⟨i_56 + 1,rest60,bound_65,g51_0_66,v66_g51_0,rfl,by omega,by omega,hL60,sf1,sf4,sf9,sf44,(Eq.trans rfl (congrArg (Value.int .i64) (i64_succ (n:=0 + k61) (by omega) (cntF_le hk61)))),hst⟩
 rcases suf60 with _ | _
 obtain rfl:=count_zero hL60
 refine W_exit (rj hR60 ⟨bound_57,g51_0_58,v58_g51_0,rfl,sf1,sf4,sf9,hst⟩)
 exact absurd (cntF_yes hs60 hl60 hk61) (of_decide_eq_false hc63)
 intro f w_ hR
 obtain ⟨bound_57,g51_0_58,v58_g51_0,rfl,sf1,sf4,sf9,hst⟩:=rk hR60 hR
 refine sq (mF sf1 rfl (L_max rfl rfl rfl (fA 1 fa_54_1 sf9 rfl (L_stB (v:=I (max 0 bound_57)) (cs2:=#[v58_g51_0,I (max 0 bound_57)]) 1 rfl Tryz.sizeOf3 rfl rfl rfl hst rfl rfl rfl (fun w106 hst=>nq ?_)))))
 obtain ⟨x110,hx110,hF⟩:=bind_some hF
 refine W_region (L_lda (cs:=[v58_g51_0,I (max 0 bound_57)]) rfl Tryz.isAgg54 Tryz.sizeOf54 sf9 (At.sub0 (Blk.at (Star.blkAt 0 hst rfl)) 0 2) rfl ?_)
 have hst:=hst.get 1 rfl
 obtain ⟨H113,l114,hst,hz115⟩:=Star.freeze hst
 have hz115 : (rS 83 rTerm).rel H113 [v58_g51_0] g51_0_58:=hz115
 refine L_call rfl Tryz.call99 (ops1 rfl) (i_Constraint_valid_c (c:=({ terms:=g51_0_58,bound:=max 0 bound_57 } : Con)) hst hz115 hx110) ?_
 rintro _ w116 ⟨H116,l116,r116_0,rfl,hr116_0,hst⟩
 refine L_ex (v:=.agg #[r116_0,I x110.1.bound]) rfl rfl rfl (L_ex (v:=Bo x110.2) rfl rfl rfl (L_staB (vs:=#[r116_0,I x110.1.bound]) (cs2:=#[r116_0,I x110.1.bound]) 1 rfl Tryz.sizeOf54 sf4 rfl rfl (ones_cons (one_len (slice_len hr116_0)) (ones_cons rfl ones_nil)) hst rfl (by show 0 + 2≤2; decide) rfl (fun w117 hst=>aB rfl (nn (W_ret (retG2 (v1:=.agg #[r116_0,I x110.1.bound]) (v2:=Bo x110.2) Tryz.results90 (resV_agg Tryz.isAgg54 Tryz.sizeOf54 sf4 (Star.blkAt 0 hst rfl) rfl) rfl ?_))))))
 obtain rfl:=so hF
 have hst:=Star.drop 0 hst rfl
 have hst:=Star.drop 0 hst rfl
 exact ⟨H116,(Le.trans (Le.trans l17 l114) l116),r116_0,rfl,hr116_0,hst⟩
end Go.Proofs.YtiodhgbfceahfaaGreat

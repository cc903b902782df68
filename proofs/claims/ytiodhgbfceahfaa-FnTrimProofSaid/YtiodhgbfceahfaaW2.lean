/- Part of a proof by program: W2. -/
import Derived.Test.YtiodhgbfceahfaaD1
import Derived.Test.YtiodhgbfceahfaaW1
namespace Go.Proofs.Ytiodhgbfceahfaa
open Go Go.E Go.L Go.RowKit
set_option linter.unusedVariables false
set_option linter.unusedSimpArgs false
set_option maxRecDepth 100000
theorem s_DivideConstraint_c {c : Con} {k : Int} {v0_0 : Value} {H : FH} {w : World} (hst : Star H w []) (h0_0 : (rS 117 rTerm).rel H [v0_0] c.terms) {r : Con × Bool} (hF : s_DivideConstraint c k = some r) :
 C Try.prog 125 #[.agg #[v0_0,I c.bound],I k] w fun v w'=>∃ (u1 : Value),v = .tuple #[.agg #[u1,I r.1.bound],Bo r.2]∧Star H w' [oF 117 rTerm u1 r.1.terms]:=by
 unfold s_DivideConstraint at hF
 refine C_enter Try.func125 rfl Try.ntmps125 rfl (sq (L_box (v:=.agg #[v0_0,I c.bound]) (cs:=#[v0_0,I c.bound]) rfl rfl rfl hst (fun g5 w6 hst=>L_al (cs:=#[S0,I 0]) rfl Try.zeroValue41 rfl hst (fun g7 w8 hst=>aB rfl (nq (W_seq ?_))))))
 obtain ⟨x14,hx14,hF⟩:=bind_some hF
 obtain ⟨R16,hR16⟩:=exR fun f w_=>f 1 = I k∧f 2 = Pt g5∧f 4 = Pt g7∧f 18 = Bo (((!x14) || (decide (k < 1))) || (decide (k > 1000)))∧Star H w_ ([box g7 41 #[S0,I 0],box g5 41 #[v0_0,I c.bound]])
 refine W_join R16 ?_ ?_
 refine W_region (L_lda (cs:=[v0_0,I c.bound]) rfl Try.isAgg41 Try.sizeOf41 rfl (At.sub0 (Blk.at (Star.blkAt 1 hst rfl)) 0 2) rfl ?_)
 obtain ⟨H17b,l18,s19,z20,k21⟩:=hst.borrow
 refine L_call rfl Try.call56 (ops1 rfl) (s_ConstraintValid_c (c:=c) s19 (RP.mono _ h0_0 l18) hx14) ?_
 rintro _ w22 ⟨rfl,hst⟩
 have hst:=k21 hst c0
 refine L_not_ rfl rfl (mB rfl (L_split (d:=11) (b:=(!x14)) rfl (fun hc23=>?_) (fun hc23=>?_)))
 refine ps rfl (ps rfl (L_pick (v:=Bo ((!x14) || (decide (k < 1)))) rfl rfl (or_t hc23) (mB rfl (L_split (d:=15) (b:=((!x14) || (decide (k < 1)))) rfl (fun hc24=>?_) (fun hc24=>?_)))))
 refine ps rfl (ps rfl (L_pick (v:=Bo (((!x14) || (decide (k < 1))) || (decide (k > 1000)))) rfl rfl (or_t hc24) (nn (rj hR16 ⟨rfl,rfl,rfl,rfl,hst⟩))))
 refine mI rfl (L_gtr rfl rfl rfl (L_pick (v:=Bo (((!x14) || (decide (k < 1))) || (decide (k > 1000)))) rfl rfl (or_f hc24 rfl) (nn (rj hR16 ⟨rfl,rfl,rfl,rfl,hst⟩))))
 refine mI rfl (L_lss rfl rfl rfl (L_pick (v:=Bo ((!x14) || (decide (k < 1)))) rfl rfl (or_f hc23 rfl) (mB rfl (L_split (d:=15) (b:=((!x14) || (decide (k < 1)))) rfl (fun hc25=>?_) (fun hc25=>?_)))))
 refine ps rfl (ps rfl (L_pick (v:=Bo (((!x14) || (decide (k < 1))) || (decide (k > 1000)))) rfl rfl (or_t hc25) (nn (rj hR16 ⟨rfl,rfl,rfl,rfl,hst⟩))))
 refine mI rfl (L_gtr rfl rfl rfl (L_pick (v:=Bo (((!x14) || (decide (k < 1))) || (decide (k > 1000)))) rfl rfl (or_f hc25 rfl) (nn (rj hR16 ⟨rfl,rfl,rfl,rfl,hst⟩))))
 intro f w_ hR
 obtain ⟨sf1,sf2,sf4,sf18,hst⟩:=rk hR16 hR
 refine W_cond (b:=(((!x14) || (decide (k < 1))) || (decide (k > 1000)))) sf18 (fun hc26=>?_) (fun hc26=>?_)
 have hF:=(ite_t hc26).symm.trans hF
 refine sq (L_bld rfl (parts0 ) (bld_41_  ) (L_staB (vs:=#[S0,I 0]) (cs2:=#[S0,I 0]) 0 rfl Try.sizeOf41 sf4 rfl rfl (ones_cons rfl (ones_cons rfl ones_nil)) hst rfl (by show 0 + 2≤2; decide) rfl (fun w28 hst=>aB rfl (nn (W_ret (retG2 (v1:=.agg #[S0,I 0]) (v2:=Bo false) Try.results125 (resV_agg Try.isAgg41 Try.sizeOf41 sf4 (Star.blkAt 0 hst rfl) rfl) rfl ?_))))))
 obtain rfl:=so hF
 have hst:=Star.addNil (R:=(OR.frz rTerm)) (e:=117) hst
 exact ⟨S0,rfl,(Star.keepN 1 hst)⟩
 have hF:=(ite_f hc26).symm.trans hF
 refine W_skip (W_seq ?_)
 obtain ⟨x35,hx35,hF⟩:=bind_some hF
 refine W_region (fA 1 fa_41_1 sf2 rfl (ldB 1 hst Try.isAgg3 rfl rfl rfl (mF sf1 rfl ?_)))
 obtain ⟨H40b,l41,s42,z43,k44⟩:=hst.borrow
 refine L_call rfl Try.call145 (ops2 rfl rfl) (s_l2Up_c (n_:=c.bound) (k:=k) s42 hx35) ?_
 rintro _ w45 ⟨rfl,hst⟩
 have hst:=k44 hst c0
 refine L_bld rfl (parts1 rfl) (bld_41_1 (I x35) rfl) (L_al (cs:=#[S0,I 0]) rfl Try.zeroValue41 rfl hst (fun g46 w47 hst=>L_staB (vs:=#[S0,I x35]) (cs2:=#[S0,I x35]) 0 rfl Try.sizeOf41 rfl rfl rfl (ones_cons rfl (ones_cons rfl ones_nil)) hst rfl (by show 0 + 2≤2; decide) rfl (fun w48 hst=>nq (sq (aI rfl (nn ?_))))))
 have hlen54 : List.length c.terms≤9223372036854775807:=len_le (slice_len h0_0)
 obtain ⟨j54,hL54,hF⟩:=bind_some hF
 obtain ⟨R54,hR54⟩:=exR fun f w_=>∃ g46_0_50 : List Term,∃ H52 : FH,∃ v50_g46_0 : Value,j54 = .nx g46_0_50∧Le H H52∧f 4 = Pt g7∧f 6 = Pt g46∧Star H52 w_ ([oF 117 rTerm v50_g46_0 g46_0_50,box g46 41 #[v50_g46_0,I x35],box g7 41 #[S0,I 0]])
 refine W_join R54 ?_ ?_
 refine W_block ?_
 obtain ⟨I54,hI54⟩:=exI fun n f w_=>∃ i_49 : Nat,∃ suf54 : List Term,∃ g46_0_50 : List Term,∃ H52 : FH,∃ v50_g46_0 : Value,n = suf54.length∧List.drop i_49 c.terms = suf54∧i_49 + suf54.length = c.terms.length∧rangeL (s_DivideConstraint_b1 k) suf54 i_49 g46_0_50 = some j54∧Le H H52∧f 1 = I k∧f 2 = Pt g5∧f 4 = Pt g7∧f 6 = Pt g46∧f 7 = I i_49∧Star H52 w_ ([oF 117 rTerm v50_g46_0 g46_0_50,box g46 41 #[v50_g46_0,I x35],box g7 41 #[S0,I 0],box g5 41 #[v0_0,I c.bound]])
 have hst:=Star.addNil (R:=(OR.frz rTerm)) (e:=117) hst
 refine W_loop I54 (n:=c.terms.length) ?_ ?_
 exact ij hI54 ⟨0,c.terms,[],H,S0,rfl,rfl,Nat.zero_add _,hL54,(Le.refl _),sf1,sf2,sf4,rfl,rfl,hst⟩
 intro n54 f w_ hI
 obtain ⟨i_49,suf54,g46_0_50,H52,v50_g46_0,rfl,hd54,hl54,hL54,l53,sf1,sf2,sf4,sf6,sf7,hst⟩:=ik hI54 hI
 refine W_seq (sq (mF sf7 rfl (fA 0 fa_41_0 sf2 rfl (ldB 3 hst Try.isAgg39 rfl rfl rfl (L_len rfl Try.underlying39 rfl (slice_len (RP.mono _ h0_0 l53)) (L_lss rfl rfl rfl (nn (W_cond (b:=decide ((i_49 : Int) < (c.terms.length : Int))) rfl (fun hc56=>?_) (fun hc56=>?_)))))))))
 have hlt54:=of_decide_eq_true hc56
 rcases suf54 with _ | ⟨x_54,rest54⟩
 exact absurd hlt54 (by simp at hl54; omega)
 obtain ⟨o54,hB54,hL54⟩:=range_cons hL54
 rw [s_DivideConstraint_b1] at hB54
 have hix54:=drop_idx hd54
 refine W_skip (W_seq (W_block ?_))
 obtain ⟨x66,hx66,hB54⟩:=bind_some hB54
 obtain ⟨x75,hx75,hB54⟩:=bind_some hB54
 refine W_drawS 18 [isV (Pt g46),isV (v50_g46_0),isV (Pt g5),isV (v0_0),isV (I i_49),isEl rTerm x_54 0,isEl rTerm x_54 0,isV (I x_54.coef),isV (I k),isV (I x66),isV (Pt g5),isV (v0_0),isV (I i_49),isEl rTerm x_54 0,isEl rTerm x_54 1,isV (I x_54.lit),isV (.agg #[I x66,I x_54.lit]),anyF] [oF 117 rTerm v50_g46_0 g46_0_50,box g46 41 #[v50_g46_0,I x35],box g7 41 #[S0,I 0],box g5 41 #[v0_0,I c.bound]] [.made 17 49 (fun v_=>oF 117 rTerm v_ ([({ coef:=x66,lit:=x_54.lit } : Term)])) none] ([]) [([],[]),([],[]),([],[]),([],[]),([],[]),([],[]),([],[]),([],[]),([],[]),([],[]),([],[]),([],[]),([],[]),([],[]),([],[]),([],[]),([],[]),([],[0])] (S:=[(some 17,[49],none)]) Try_mix (by kernel_rfl) rfl (by kernel_rfl) (amF_cons (mono_V _) (amF_cons (mono_V _) (amF_cons (mono_V _) (amF_cons (mono_V _) (amF_cons (mono_V _) (amF_cons (mono_el _ _ _) (amF_cons (mono_el _ _ _) (amF_cons (mono_V _) (amF_cons (mono_V _) (amF_cons (mono_V _) (amF_cons (mono_V _) (amF_cons (mono_V _) (amF_cons (mono_V _) (amF_cons (mono_el _ _ _) (amF_cons (mono_el _ _ _) (amF_cons (mono_V _) (amF_cons (mono_V _) (amF_cons (mono_any) amF_nil)))))))))))))))))) hst ?_ (fun f w_ H80 hS80 hE80 hT80 hst=>?_)
 refine opsS_cons (fun f w_ _ _ s _ _ hst=>fA 0 fa_41_0 ((s 6 rfl).trans sf6) rfl (nO rfl rfl hst)) (opsS_cons (fun f w_ _ _ _ _ p hst=>ldB 1 hst Try.isAgg39 (p 0 32 rfl rfl) rfl rfl (nO rfl rfl hst)) (opsS_cons (fun f w_ _ _ s _ _ hst=>fA 0 fa_41_0 ((s 2 rfl).trans sf2) rfl (nO rfl rfl hst)) (opsS_cons (fun f w_ _ _ _ _ p hst=>ldB 3 hst Try.isAgg39 (p 2 34 rfl rfl) rfl rfl (nO rfl rfl hst)) (opsS_cons (fun f w_ _ _ s _ _ hst=>mF ((s 7 rfl).trans sf7) rfl (nO rfl rfl hst)) (opsS_cons ?_ ?_)))))
 intro f w_ H80 X80 hS80 hE80 hP80 hst
 refine L_ix (r:=rTerm) rfl Try.underlying39 Try.sizeOf117 (hP80 3 35 rfl rfl) (RP.mono _ h0_0 (Le.trans l53 hE80)) (hP80 4 36 rfl rfl) hix54 (fun g98 o99 cs_g98 hrk_hat100 hat100=>?_)
 obtain rfl:=rTerm_iff.1 hrk_hat100
 exact L_nil ⟨rfl,_,_,rfl,Le.refl _,fun _ _=>⟨_,_,_,rfl,hrk_hat100,hat100⟩,hst⟩
 refine opsS_cons ?_ ?_
 intro f w_ H80 X80 hS80 hE80 hP80 hst
 obtain ⟨g102,o102,cs102,hv102,hrk_hat102,hat102⟩:=(hP80 5 37 rfl rfl)
 obtain rfl:=rTerm_iff.1 hrk_hat102
 refine fA o102 fa_117_0 hv102 rfl (L_nil ⟨rfl,_,_,rfl,Le.refl _,fun _ _=>⟨_,_,_,rfl,hrk_hat102,hat102⟩,hst⟩)
 refine opsS_cons ?_ ?_
 intro f w_ H80 X80 hS80 hE80 hP80 hst
 obtain ⟨g104,o104,cs104,hv104,hrk_hat104,hat104⟩:=(hP80 6 38 rfl rfl)
 obtain rfl:=rTerm_iff.1 hrk_hat104
 refine L_ld rfl Try.isAgg3 hv104 (At.cell (AtH.at hat104 hst.sub) (j:=0) rfl) (L_nil ⟨rfl,_,_,rfl,Le.refl _,fun _ _=>rfl,hst⟩)
 refine opsS_cons (fun f w_ _ _ s _ _ hst=>mF ((s 1 rfl).trans sf1) rfl (nO rfl rfl hst)) (opsS_cons ?_ ?_)
 intro f w_ H80 X80 hS80 hE80 hP80 hst
 obtain ⟨H106b,l107,s108,z109,k110⟩:=hst.borrow
 refine L_call rfl Try.call145 (ops2 (hP80 7 39 rfl rfl) (hP80 8 40 rfl rfl)) (s_l2Up_c (n_:=x_54.coef) (k:=k) s108 hx66) ?_
 rintro _ w111 ⟨rfl,hst⟩
 have hst:=k110 hst c0
 exact L_nil ⟨rfl,_,_,rfl,Le.refl _,fun _ _=>rfl,hst⟩
 refine opsS_cons (fun f w_ _ _ s _ _ hst=>fA 0 fa_41_0 ((s 2 rfl).trans sf2) rfl (nO rfl rfl hst)) (opsS_cons (fun f w_ _ _ _ _ p hst=>ldB 3 hst Try.isAgg39 (p 10 42 rfl rfl) rfl rfl (nO rfl rfl hst)) (opsS_cons (fun f w_ _ _ s _ _ hst=>mF ((s 7 rfl).trans sf7) rfl (nO rfl rfl hst)) (opsS_cons ?_ ?_)))
 intro f w_ H80 X80 hS80 hE80 hP80 hst
 refine L_ix (r:=rTerm) rfl Try.underlying39 Try.sizeOf117 (hP80 11 43 rfl rfl) (RP.mono _ h0_0 (Le.trans l53 hE80)) (hP80 12 44 rfl rfl) hix54 (fun g112 o113 cs_g112 hrk_hat114 hat114=>?_)
 obtain rfl:=rTerm_iff.1 hrk_hat114
 exact L_nil ⟨rfl,_,_,rfl,Le.refl _,fun _ _=>⟨_,_,_,rfl,hrk_hat114,hat114⟩,hst⟩
 refine opsS_cons ?_ ?_
 intro f w_ H80 X80 hS80 hE80 hP80 hst
 obtain ⟨g116,o116,cs116,hv116,hrk_hat116,hat116⟩:=(hP80 13 45 rfl rfl)
 obtain rfl:=rTerm_iff.1 hrk_hat116
 refine fA (o116 + 1) fa_117_1 hv116 rfl (L_nil ⟨rfl,_,_,rfl,Le.refl _,fun _ _=>⟨_,_,_,rfl,hrk_hat116,hat116⟩,hst⟩)
 refine opsS_cons ?_ ?_
 intro f w_ H80 X80 hS80 hE80 hP80 hst
 obtain ⟨g118,o118,cs118,hv118,hrk_hat118,hat118⟩:=(hP80 14 46 rfl rfl)
 obtain rfl:=rTerm_iff.1 hrk_hat118
 refine L_ld rfl Try.isAgg3 hv118 (At.cell (AtH.at hat118 hst.sub) (j:=1) rfl) (L_nil ⟨rfl,_,_,rfl,Le.refl _,fun _ _=>rfl,hst⟩)
 refine opsS_cons (fun f w_ _ _ _ _ p hst=>L_bld rfl (parts2 (p 9 41 rfl rfl) (p 15 47 rfl rfl)) (bld_117_0_1 (I x66) (I x_54.lit) rfl rfl) (nO rfl rfl hst)) (opsS_cons ?_ ?_)
 intro f w_ H80 X80 hS80 hE80 hP80 hst
 refine L_bs rfl (parts1 (hP80 16 48 rfl rfl)) (bs_39_1_2 (I x66) (I x_54.lit) ) hst (fun g120 w121 hst=>?_)
 have hst:=Star.addF (r:=rTerm) (cs:=[I x66,I x_54.lit]) (x:=({ coef:=x66,lit:=x_54.lit } : Term)) hst (rTerm_iff.2 rfl)
 have hst:=Star.mkRow (R:=(OR.frz rTerm)) [([I x66,I x_54.lit],({ coef:=x66,lit:=x_54.lit } : Term))] [({ coef:=x66,lit:=x_54.lit } : Term)] 1 hst rfl rfl rfl (by decide)
 have hst:=hst.gets [4,4,4,4] rfl
 exact L_nil ⟨rfl,_,_,rfl,Le.refl _,fun _ _=>trivial,hst⟩
 exact opsS_nil
 have hst : Star H80 w_ ([oF 117 rTerm v50_g46_0 g46_0_50,box g46 41 #[v50_g46_0,I x35],box g7 41 #[S0,I 0],box g5 41 #[v0_0,I c.bound],oF 117 rTerm (f 49) ([({ coef:=x66,lit:=x_54.lit } : Term)])]):=hst
 have hst:=hst.gets [4,1] rfl
 refine L_appM (v:=v50_g46_0) (u:=(f 49)) rfl et_39 (hT80 1 33 rfl rfl) rfl hst hx75 (fun v124 w125 hst=>fA 0 fa_41_0 ((hS80 6 rfl).trans sf6) rfl (L_stB (v:=v124) (cs2:=#[v124,I x35]) 1 rfl Try.sizeOf39 rfl rfl (one_len (Star.len 0 hst rfl)) hst rfl rfl rfl (fun w127 hst=>nn (W_region (mF ((hS80 7 rfl).trans sf7) rfl (L_add rfl rfl rfl (aI rfl (nn ?_))))))))
 obtain rfl:=so hB54
 have hst:=hst.gets [3,3,2,3] rfl
 show ∃ m,m < _∧I54 m _ _
 refine ⟨rest54.length,by simp,?_⟩
 exact ij hI54 ⟨i_49 + 1,rest54,x75,H80,v124,rfl,drop_next hd54,by simp at hl54; omega,hL54,(Le.trans l53 hE80),((hS80 1 rfl).trans sf1),((hS80 2 rfl).trans sf2),((hS80 4 rfl).trans sf4),((hS80 6 rfl).trans sf6),(Eq.trans rfl (congrArg (Value.int .i64) (i64_succ (n:=c.terms.length) (by simp at hl54; omega) hlen54))),hst⟩
 rcases suf54 with _ | ⟨_,_⟩
 obtain rfl:=range_nil hL54
 refine W_exit (rj hR54 ⟨g46_0_50,H52,v50_g46_0,rfl,l53,sf4,sf6,(Star.keepN 3 hst)⟩)
 exact absurd (of_decide_eq_false hc56) (by simp at hl54; omega)
 intro f w_ hR
 obtain ⟨g46_0_50,H52,v50_g46_0,rfl,l53,sf4,sf6,hst⟩:=rk hR54 hR
 refine sq (L_lda (cs:=[v50_g46_0,I x35]) rfl Try.isAgg41 Try.sizeOf41 sf6 (At.sub0 (Blk.at (Star.blkAt 1 hst rfl)) 0 2) rfl (L_staB (vs:=#[v50_g46_0,I x35]) (cs2:=#[v50_g46_0,I x35]) 2 rfl Try.sizeOf41 sf4 rfl rfl (ones_cons (one_len (Star.len 0 hst rfl)) (ones_cons rfl ones_nil)) hst rfl (by show 0 + 2≤2; decide) rfl (fun w129 hst=>aB rfl (nn (W_ret (retG2 (v1:=.agg #[v50_g46_0,I x35]) (v2:=Bo true) Try.results125 (resV_agg Try.isAgg41 Try.sizeOf41 sf4 (Star.blkAt 0 hst rfl) rfl) rfl ?_))))))
 obtain rfl:=so hF
 have hst:=hst.get 1 rfl
 exact ⟨v50_g46_0,rfl,(Star.down (Star.keepN 1 hst) l53 (co closed_term c0))⟩
theorem s_l2Saturate_c {fu : Nat} {c : Con} {v0_0 : Value} {H : FH} {w : World} (hst : Star H w []) (h0_0 : (rS 117 rTerm).rel H [v0_0] c.terms) {r : Con} (hF : s_l2Saturate fu c = some r) :
 C Try.prog 146 #[.agg #[v0_0,I c.bound]] w fun v w'=>∃ (u1 : Value),v = .agg #[u1,I r.bound]∧Star H w' [oF 117 rTerm u1 r.terms]:=by
 unfold s_l2Saturate at hF
 refine C_enter Try.func146 rfl Try.ntmps146 rfl (sq (L_box (v:=.agg #[v0_0,I c.bound]) (cs:=#[v0_0,I c.bound]) rfl rfl rfl hst (fun g5 w6 hst=>L_al (cs:=#[S0,I 0]) rfl Try.zeroValue41 rfl hst (fun g7 w8 hst=>ns (fA 1 fa_41_1 rfl rfl (ldB 1 hst Try.isAgg3 rfl rfl rfl (L_bld rfl (parts1 rfl) (bld_41_1 (I c.bound) rfl) (L_al (cs:=#[S0,I 0]) rfl Try.zeroValue41 rfl hst (fun g12 w13 hst=>L_staB (vs:=#[S0,I c.bound]) (cs2:=#[S0,I c.bound]) 0 rfl Try.sizeOf41 rfl rfl rfl (ones_cons rfl (ones_cons rfl ones_nil)) hst rfl (by show 0 + 2≤2; decide) rfl (fun w14 hst=>nq (sq (aI rfl (nn ?_)))))))))))))
 obtain ⟨j20,hL20,hF⟩:=bind_some hF
 obtain ⟨R20,hR20⟩:=exR fun f w_=>∃ i_17 : Int,∃ g12_0_18 : List Term,∃ v18_g12_0 : Value,j20 = .nx (i_17,g12_0_18)∧f 2 = Pt g7∧f 3 = Pt g12∧Star H w_ ([oF 117 rTerm v18_g12_0 g12_0_18,box g12 41 #[v18_g12_0,I c.bound],box g7 41 #[S0,I 0]])
 refine W_join R20 ?_ ?_
 refine W_block ?_
 obtain ⟨I20,hI20⟩:=exI fun n f w_=>∃ i_17 : Int,∃ g12_0_18 : List Term,∃ v18_g12_0 : Value,whileL (s_l2Saturate_b1 c) n (i_17,g12_0_18) = some j20∧f 1 = Pt g5∧f 2 = Pt g7∧f 3 = Pt g12∧f 4 = I i_17∧Star H w_ ([oF 117 rTerm v18_g12_0 g12_0_18,box g12 41 #[v18_g12_0,I c.bound],box g7 41 #[S0,I 0],box g5 41 #[v0_0,I c.bound]])
 have hst:=Star.addNil (R:=(OR.frz rTerm)) (e:=117) hst
 refine W_loop I20 (n:=fu) ?_ ?_
 exact ij hI20 ⟨0,[],S0,hL20,rfl,rfl,rfl,rfl,hst⟩
 intro n20 f w_ hI
 obtain ⟨i_17,g12_0_18,v18_g12_0,hL20,sf1,sf2,sf3,sf4,hst⟩:=ik hI20 hI
 rcases n20 with _ | n20
 exact (while_zero hL20).elim
 obtain ⟨o20,hB20,hL20⟩:=while_succ hL20
 rw [s_l2Saturate_b1] at hB20
 refine W_seq (W_seq ?_)
 obtain ⟨R22,hR22⟩:=exR fun f w_=>f 1 = Pt g5∧f 2 = Pt g7∧f 3 = Pt g12∧f 4 = I i_17∧f 18 = Bo ((decide (i_17 < (c.terms.length : Int))) && (decide (c.bound > 0)))∧Star H w_ ([oF 117 rTerm v18_g12_0 g12_0_18,box g12 41 #[v18_g12_0,I c.bound],box g7 41 #[S0,I 0],box g5 41 #[v0_0,I c.bound]])
 refine W_join R22 ?_ ?_
 refine W_region (mF sf4 rfl (fA 0 fa_41_0 sf1 rfl (ldB 3 hst Try.isAgg39 rfl rfl rfl (L_len rfl Try.underlying39 rfl (slice_len h0_0) (L_lss rfl rfl rfl (mB rfl (L_split (d:=14) (b:=decide (i_17 < (c.terms.length : Int))) rfl (fun hc23=>?_) (fun hc23=>?_))))))))
 refine fA 1 fa_41_1 sf1 rfl (ldB 3 hst Try.isAgg3 rfl rfl rfl (L_gtr rfl rfl rfl (L_pick (v:=Bo ((decide (i_17 < (c.terms.length : Int))) && (decide (c.bound > 0)))) rfl rfl (and_t hc23 rfl) (nn (rj hR22 ⟨sf1,sf2,sf3,sf4,rfl,hst⟩)))))
 refine ps rfl (ps rfl (ps rfl (L_pick (v:=Bo ((decide (i_17 < (c.terms.length : Int))) && (decide (c.bound > 0)))) rfl rfl (and_f hc23) (nn (rj hR22 ⟨sf1,sf2,sf3,sf4,rfl,hst⟩)))))
 intro f w_ hR
 obtain ⟨sf1,sf2,sf3,sf4,sf18,hst⟩:=rk hR22 hR
 refine W_cond (b:=((decide (i_17 < (c.terms.length : Int))) && (decide (c.bound > 0)))) sf18 (fun hc24=>?_) (fun hc24=>?_)
 have hB20:=(ite_t hc24).symm.trans hB20
 refine W_skip (W_seq (W_block (W_seq ?_)))
 obtain ⟨x25,hx25,hB20⟩:=bind_some hB20
 refine W_region (fA 0 fa_41_0 sf1 rfl (ldB 3 hst Try.isAgg39 rfl rfl rfl (mF sf4 rfl (L_ix (r:=rTerm) rfl Try.underlying39 Try.sizeOf117 rfl h0_0 rfl hx25 (fun g33 o34 cs_g33 hrk_hat35 hat35=>?_)))))
 obtain rfl:=rTerm_iff.1 hrk_hat35
 refine L_lda (cs:=[I x25.coef,I x25.lit]) rfl Try.isAgg117 Try.sizeOf117 rfl (At.sub (AtH.at hat35 hst.sub) 0 2) rfl (L_al (cs:=#[I 0,I 0]) rfl Try.zeroValue117 rfl hst (fun g37 w38 hst=>L_staB (vs:=#[I x25.coef,I x25.lit]) (cs2:=#[I x25.coef,I x25.lit]) 0 rfl Try.sizeOf117 rfl rfl rfl (ones_cons rfl (ones_cons rfl ones_nil)) hst rfl (by show 0 + 2≤2; decide) rfl (fun w39 hst=>nq (sq (fA 0 fa_117_0 rfl rfl (ldB 0 hst Try.isAgg3 rfl rfl rfl (fA 1 fa_41_1 sf1 rfl (ldB 4 hst Try.isAgg3 rfl rfl rfl (L_gtr rfl rfl rfl (nn ?_))))))))))
 obtain ⟨g37_0_40,hA41,hB20⟩:=bind_some hB20
 obtain ⟨R41,hR41⟩:=exR fun f w_=>f 1 = Pt g5∧f 2 = Pt g7∧f 3 = Pt g12∧f 4 = I i_17∧f 5 = Pt g37∧Star H w_ ([box g37 117 #[I g37_0_40,I x25.lit],oF 117 rTerm v18_g12_0 g12_0_18,box g12 41 #[v18_g12_0,I c.bound],box g7 41 #[S0,I 0],box g5 41 #[v0_0,I c.bound]])
 refine W_join R41 ?_ ?_
 refine W_cond (b:=decide (x25.coef > c.bound)) rfl (fun hc42=>?_) (fun hc42=>?_)
 have hA41:=(ite_t hc42).symm.trans hA41
 refine W_region (fA 1 fa_41_1 sf1 rfl (ldB 4 hst Try.isAgg3 rfl rfl rfl (fA 0 fa_117_0 rfl rfl (L_stB (v:=I c.bound) (cs2:=#[I c.bound,I x25.lit]) 0 rfl Try.sizeOf3 rfl rfl rfl hst rfl rfl rfl (fun w44 hst=>nn ?_)))))
 obtain rfl:=so hA41
 exact rj hR41 ⟨sf1,sf2,sf3,sf4,rfl,hst⟩
 have hA41:=(ite_f hc42).symm.trans hA41
 refine W_skip ?_
 obtain rfl:=so hA41
 exact rj hR41 ⟨sf1,sf2,sf3,sf4,rfl,hst⟩
 intro f w_ hR
 obtain ⟨sf1,sf2,sf3,sf4,sf5,hst⟩:=rk hR41 hR
 obtain ⟨x48,hx48,hB20⟩:=bind_some hB20
 refine W_region (fA 0 fa_41_0 sf3 rfl (ldB 2 hst Try.isAgg39 rfl rfl rfl (L_lda (cs:=[I g37_0_40,I x25.lit]) rfl Try.isAgg117 Try.sizeOf117 sf5 (At.sub0 (Blk.at (Star.blkAt 0 hst rfl)) 0 2) rfl (L_bs rfl (parts1 rfl) (bs_39_1_2 (I g37_0_40) (I x25.lit) ) hst (fun g53 w54 hst=>?_)))))
 have hst:=Star.addF (r:=rTerm) (cs:=[I g37_0_40,I x25.lit]) (x:=({ coef:=g37_0_40,lit:=x25.lit } : Term)) hst (rTerm_iff.2 rfl)
 have hst:=Star.mkRow (R:=(OR.frz rTerm)) [([I g37_0_40,I x25.lit],({ coef:=g37_0_40,lit:=x25.lit } : Term))] [({ coef:=g37_0_40,lit:=x25.lit } : Term)] 1 hst rfl rfl rfl (by decide)
 have hst:=hst.get 2 rfl
 refine L_appM (v:=v18_g12_0) (u:=(Sl g53 1 1)) rfl et_39 rfl rfl hst hx48 (fun v56 w57 hst=>fA 0 fa_41_0 sf3 rfl (L_stB (v:=v56) (cs2:=#[v56,I c.bound]) 2 rfl Try.sizeOf39 rfl rfl (one_len (Star.len 0 hst rfl)) hst rfl rfl rfl (fun w59 hst=>nn (W_region (mF sf4 rfl (L_add rfl rfl rfl (aI rfl (nn ?_))))))))
 obtain rfl:=so hB20
 have hst:=hst.gets [4,4,2,3] rfl
 show ∃ m,m < _∧I20 m _ _
 refine ⟨n20,Nat.lt_succ_self _,?_⟩
 exact ij hI20 ⟨i64 (i_17 + 1),x48,v56,hL20,sf1,sf2,sf3,rfl,(Star.keepN 4 hst)⟩
 have hB20:=(ite_f hc24).symm.trans hB20
 refine W_exit ?_
 obtain rfl:=so hB20
 obtain rfl:=so hL20
 exact rj hR20 ⟨i_17,g12_0_18,v18_g12_0,rfl,sf2,sf3,(Star.keepN 3 hst)⟩
 intro f w_ hR
 obtain ⟨i_17,g12_0_18,v18_g12_0,rfl,sf2,sf3,hst⟩:=rk hR20 hR
 refine sq (L_lda (cs:=[v18_g12_0,I c.bound]) rfl Try.isAgg41 Try.sizeOf41 sf3 (At.sub0 (Blk.at (Star.blkAt 1 hst rfl)) 0 2) rfl (L_staB (vs:=#[v18_g12_0,I c.bound]) (cs2:=#[v18_g12_0,I c.bound]) 2 rfl Try.sizeOf41 sf2 rfl rfl (ones_cons (one_len (Star.len 0 hst rfl)) (ones_cons rfl ones_nil)) hst rfl (by show 0 + 2≤2; decide) rfl (fun w61 hst=>nn (W_ret (retG1 (v1:=.agg #[v18_g12_0,I c.bound]) Try.results146 (resV_agg Try.isAgg41 Try.sizeOf41 sf2 (Star.blkAt 0 hst rfl) rfl) ?_)))))
 obtain rfl:=so hF
 have hst:=hst.get 1 rfl
 exact ⟨v18_g12_0,rfl,(Star.keepN 1 hst)⟩
theorem s_SaturateConstraint_c {fu : Nat} {c : Con} {v0_0 : Value} {H : FH} {w : World} (hst : Star H w []) (h0_0 : (rS 117 rTerm).rel H [v0_0] c.terms) {r : Con × Bool} (hF : s_SaturateConstraint fu c = some r) :
 C Try.prog 126 #[.agg #[v0_0,I c.bound]] w fun v w'=>∃ (u1 : Value),v = .tuple #[.agg #[u1,I r.1.bound],Bo r.2]∧Star H w' [oF 117 rTerm u1 r.1.terms]:=by
 unfold s_SaturateConstraint at hF
 refine C_enter Try.func126 rfl Try.ntmps126 rfl (sq (L_box (v:=.agg #[v0_0,I c.bound]) (cs:=#[v0_0,I c.bound]) rfl rfl rfl hst (fun g5 w6 hst=>L_al (cs:=#[S0,I 0]) rfl Try.zeroValue41 rfl hst (fun g7 w8 hst=>aB rfl (nq (W_seq ?_))))))
 obtain ⟨x14,hx14,hF⟩:=bind_some hF
 refine W_region (L_lda (cs:=[v0_0,I c.bound]) rfl Try.isAgg41 Try.sizeOf41 rfl (At.sub0 (Blk.at (Star.blkAt 1 hst rfl)) 0 2) rfl ?_)
 obtain ⟨H16b,l17,s18,z19,k20⟩:=hst.borrow
 refine L_call rfl Try.call56 (ops1 rfl) (s_ConstraintValid_c (c:=c) s18 (RP.mono _ h0_0 l17) hx14) ?_
 rintro _ w21 ⟨rfl,hst⟩
 have hst:=k20 hst c0
 refine L_not_ rfl rfl (nn (W_cond (b:=(!x14)) rfl (fun hc22=>?_) (fun hc22=>?_)))
 have hF:=(ite_t hc22).symm.trans hF
 refine sq (L_bld rfl (parts0 ) (bld_41_  ) (L_staB (vs:=#[S0,I 0]) (cs2:=#[S0,I 0]) 0 rfl Try.sizeOf41 rfl rfl rfl (ones_cons rfl (ones_cons rfl ones_nil)) hst rfl (by show 0 + 2≤2; decide) rfl (fun w24 hst=>aB rfl (nn (W_ret (retG2 (v1:=.agg #[S0,I 0]) (v2:=Bo false) Try.results126 (resV_agg Try.isAgg41 Try.sizeOf41 rfl (Star.blkAt 0 hst rfl) rfl) rfl ?_))))))
 obtain rfl:=so hF
 have hst:=Star.addNil (R:=(OR.frz rTerm)) (e:=117) hst
 exact ⟨S0,rfl,(Star.keepN 1 hst)⟩
 have hF:=(ite_f hc22).symm.trans hF
 refine W_skip (W_seq ?_)
 obtain ⟨x31,hx31,hF⟩:=bind_some hF
 refine W_region (L_lda (cs:=[v0_0,I c.bound]) rfl Try.isAgg41 Try.sizeOf41 rfl (At.sub0 (Blk.at (Star.blkAt 1 hst rfl)) 0 2) rfl ?_)
 obtain ⟨H35b,l36,s37,z38,k39⟩:=hst.borrow
 refine L_call rfl Try.call146 (ops1 rfl) (s_l2Saturate_c (c:=c) s37 (RP.mono _ h0_0 l36) hx31) ?_
 rintro _ w40 ⟨r40_0,rfl,hst⟩
 have hst:=k39 hst (co closed_term c0)
 refine L_staB (vs:=#[r40_0,I x31.bound]) (cs2:=#[r40_0,I x31.bound]) 1 rfl Try.sizeOf41 rfl rfl rfl (ones_cons (one_len (Star.len 0 hst rfl)) (ones_cons rfl ones_nil)) hst rfl (by show 0 + 2≤2; decide) rfl (fun w42 hst=>aB rfl (nn (W_ret (retG2 (v1:=.agg #[r40_0,I x31.bound]) (v2:=Bo true) Try.results126 (resV_agg Try.isAgg41 Try.sizeOf41 rfl (Star.blkAt 0 hst rfl) rfl) rfl ?_))))
 obtain rfl:=so hF
 have hst:=hst.get 1 rfl
 exact ⟨r40_0,rfl,(Star.keepN 1 hst)⟩
theorem s_l4Derive_c {fu : Nat} {d : Db} {s : Step} {v0_0 : Value} {v0_1 : Value} {v1_3 : Value} {H : FH} {w : World} (hst : Star H w []) (h0_0 : (rS 41 (rCon 117)).rel H [v0_0] d.list) (h0_1 : (rS 4 RP.bool).rel H [v0_1] d.gone) (h1_3 : (rS 117 rTerm).rel H [v1_3] s.given.terms) {r : Con × Bool} (hF : s_l4Derive fu d s = some r) :
 C Try.prog 95 #[.agg #[v0_0,v0_1],.agg #[I s.kind,I s.a,I s.b,v1_3,I s.given.bound]] w fun v w'=>∃ (u1 : Value),v = .tuple #[.agg #[u1,I r.1.bound],Bo r.2]∧Star H w' [oF 117 rTerm u1 r.1.terms]:=by
 unfold s_l4Derive at hF
 refine C_enter Try.func95 rfl Try.ntmps95 rfl (sq (L_box (v:=.agg #[v0_0,v0_1]) (cs:=#[v0_0,v0_1]) rfl rfl rfl hst (fun g7 w8 hst=>L_box (v:=.agg #[I s.kind,I s.a,I s.b,v1_3,I s.given.bound]) (cs:=#[I s.kind,I s.a,I s.b,v1_3,I s.given.bound]) rfl rfl rfl hst (fun g9 w10 hst=>L_al (cs:=#[S0,I 0]) rfl Try.zeroValue41 rfl hst (fun g11 w12 hst=>aB rfl (nq (sq (fA 0 fa_63_0 rfl rfl (ldB 1 hst Try.isAgg3 rfl rfl rfl (L_eql rfl rfl rfl (nn (W_cond (b:=(s.kind == 6)) rfl (fun hc13=>?_) (fun hc13=>?_)))))))))))))
 have hF:=(ite_t hc13).symm.trans hF
 refine W_seq ?_
 obtain ⟨x19,hx19,hF⟩:=bind_some hF
 refine W_region (fA 1 fa_63_1 rfl rfl (ldB 1 hst Try.isAgg3 rfl rfl rfl ?_))
 obtain ⟨H23b,l24,s25,z26,k27⟩:=hst.borrow
 refine L_call rfl Try.call122 (ops1 rfl) (s_LiteralAxiom_c (lit:=s.a) s25 hx19) ?_
 rintro _ w28 ⟨r28_0,rfl,hst⟩
 have hst:=k27 hst (co closed_term c0)
 refine L_ex (v:=.agg #[r28_0,I x19.1.bound]) rfl rfl rfl (L_ex (v:=Bo x19.2) rfl rfl rfl (L_staB (vs:=#[r28_0,I x19.1.bound]) (cs2:=#[r28_0,I x19.1.bound]) 1 rfl Try.sizeOf41 rfl rfl rfl (ones_cons (one_len (Star.len 0 hst rfl)) (ones_cons rfl ones_nil)) hst rfl (by show 0 + 2≤2; decide) rfl (fun w30 hst=>aB rfl (nn (W_ret (retG2 (v1:=.agg #[r28_0,I x19.1.bound]) (v2:=Bo x19.2) Try.results95 (resV_agg Try.isAgg41 Try.sizeOf41 rfl (Star.blkAt 0 hst rfl) rfl) rfl ?_))))))
 obtain rfl:=so hF
 have hst:=hst.get 1 rfl
 exact ⟨r28_0,rfl,(Star.keepN 1 hst)⟩
 have hF:=(ite_f hc13).symm.trans hF
 refine W_skip (W_seq (sq (fA 0 fa_63_0 rfl rfl (ldB 1 hst Try.isAgg3 rfl rfl rfl (L_eql rfl rfl rfl (nn (W_cond (b:=(s.kind == 7)) rfl (fun hc31=>?_) (fun hc31=>?_))))))))
 have hF:=(ite_t hc31).symm.trans hF
 refine W_seq ?_
 obtain ⟨x37,hx37,hF⟩:=bind_some hF
 obtain ⟨x45,hx45,hF⟩:=bind_some hF
 obtain ⟨b58,hb58,hF⟩:=bind_some hF
 obtain ⟨R65,hR65⟩:=exR fun f w_=>∃ H63 : FH,∃ v61_g11_0 : Value,Le H H63∧f 4 = Pt g11∧f 5 = Bo b58∧Star H63 w_ ([oF 117 rTerm v61_g11_0 x37.terms,box g11 41 #[v61_g11_0,I x37.bound]])
 refine W_join R65 ?_ ?_
 rcases Bool.eq_false_or_eq_true x45 with hc66 | hc66
 rw [ite_t hc66] at hb58
 obtain ⟨x47,hx47,hb58⟩:=bind_some hb58
 obtain ⟨x56,hx56,hb58⟩:=bind_some hb58
 have hst:=hst.gets [2,2] rfl
 refine W_drawS 14 [isV (Pq g9 3),isV (.agg #[v1_3,I s.given.bound]),exA fun u_0=>isV (.agg #[u_0,I x37.bound]),isV (Pq g9 3),isV (.agg #[v1_3,I s.given.bound]),isV (Bo x45),isV (Bo x45),isV (.agg #[v0_0,v0_1]),anyF,isV (Pq g9 3),isV (.agg #[v1_3,I s.given.bound]),isV (Bo x56),isV (Bo b58),anyF] [box g9 63 #[I s.kind,I s.a,I s.b,v1_3,I s.given.bound],box g7 73 #[v0_0,v0_1]] [.base (box g11 41 #[S0,I 0]) (some 13),.made 2 20 (fun v_=>oF 117 rTerm (aggC v_ 0) x37.terms) none,.made 8 26 (fun v_=>oF 41 (rCon 117) v_ x47) none,.madeN 13 [20] (fun vs_=>box g11 41 #[(aggC (vs_.getD 0 undef) 0),I x37.bound]) none] ([]) [([],[]),([],[]),([],[1]),([],[]),([],[]),([],[]),([],[]),([],[]),([],[2]),([],[]),([],[]),([2],[2]),([],[]),([0,1],[1,3])] (S:=[(none,[],some 13),(some 2,[20],none),(some 8,[26],none),(some 13,[20],none)]) Try_mix (by kernel_rfl) rfl (by kernel_rfl) (amF_cons (mono_V _) (amF_cons (mono_V _) (amF_cons (mono_exA fun _=>mono_V _) (amF_cons (mono_V _) (amF_cons (mono_V _) (amF_cons (mono_V _) (amF_cons (mono_V _) (amF_cons (mono_V _) (amF_cons (mono_any) (amF_cons (mono_V _) (amF_cons (mono_V _) (amF_cons (mono_V _) (amF_cons (mono_V _) (amF_cons (mono_any) amF_nil)))))))))))))) hst ?_ (fun f w_ H60 hS60 hE60 hT60 hst=>?_)
 refine opsS_cons (fun f w_ _ _ s _ _ hst=>fA 3 fa_63_3 ((s 3 rfl).trans rfl) rfl (nO rfl rfl hst)) (opsS_cons (fun f w_ _ _ _ _ p hst=>L_lda (cs:=[v1_3,I s.given.bound]) rfl Try.isAgg41 Try.sizeOf41 (p 0 18 rfl rfl) (At.sub0 (Blk.at (Star.blkAt 0 hst rfl)) 3 2) rfl (nO rfl rfl hst)) (opsS_cons ?_ ?_))
 intro f w_ H60 X60 hS60 hE60 hP60 hst
 obtain ⟨H90b,l91,s92,z93,k94⟩:=hst.borrow
 refine L_call rfl Try.call81 (ops1 (hP60 1 19 rfl rfl)) (s_l1Copy_c (c:=s.given) s92 (RP.mono _ h1_3 (Le.trans hE60 l91)) hx37) ?_
 rintro _ w95 ⟨r95_0,rfl,hst⟩
 have hst:=k94 hst (co closed_term c0)
 have hst:=hst.gets [2,2] rfl
 exact L_nil ⟨rfl,_,_,rfl,Le.refl _,fun _ _=>⟨_,rfl⟩,hst⟩
 refine opsS_cons (fun f w_ _ _ s _ _ hst=>fA 3 fa_63_3 ((s 3 rfl).trans rfl) rfl (nO rfl rfl hst)) (opsS_cons (fun f w_ _ _ _ _ p hst=>L_lda (cs:=[v1_3,I s.given.bound]) rfl Try.isAgg41 Try.sizeOf41 (p 3 21 rfl rfl) (At.sub0 (Blk.at (Star.blkAt 0 hst rfl)) 3 2) rfl (nO rfl rfl hst)) (opsS_cons ?_ ?_))
 intro f w_ H60 X60 hS60 hE60 hP60 hst
 obtain ⟨H97b,l98,s99,z100,k101⟩:=hst.borrow
 refine L_call rfl Try.call56 (ops1 (hP60 4 22 rfl rfl)) (s_ConstraintValid_c (c:=s.given) s99 (RP.mono _ h1_3 (Le.trans hE60 l98)) hx45) ?_
 rintro _ w102 ⟨rfl,hst⟩
 have hst:=k101 hst c0
 exact L_nil ⟨rfl,_,_,rfl,Le.refl _,fun _ _=>rfl,hst⟩
 refine opsS_cons (fun f w_ _ _ _ _ p hst=>mF (p 5 23 rfl rfl) rfl (nO rfl rfl hst)) (opsS_cons (fun f w_ _ _ s _ p hst=>L_lda (cs:=[v0_0,v0_1]) (g_yes rfl (Eq.trans (p 6 24 rfl rfl) (congrArg Value.bool hc66)) rfl) Try.isAgg73 Try.sizeOf73 ((s 2 rfl).trans rfl) (At.sub0 (Blk.at (Star.blkAt 1 hst rfl)) 0 2) rfl (nO rfl rfl hst)) (opsS_cons ?_ ?_))
 intro f w_ H60 X60 hS60 hE60 hP60 hst
 refine L_call (g_yes rfl (Eq.trans (hP60 6 24 rfl rfl) (congrArg Value.bool hc66)) rfl) Try.call57 (ops1 (hP60 7 25 rfl rfl)) (s_l4Kept_c (d:=d) hst (RP.mono _ h0_0 hE60) (RP.mono _ h0_1 hE60) hx47) ?_
 rintro r103_0 w103 ⟨H103,l103,_,rfl,hst⟩
 have hst:=hst.gets [2,2] rfl
 exact L_nil ⟨rfl,_,_,rfl,l103,fun _ _=>trivial,hst⟩
 refine opsS_cons (fun f w_ _ _ s _ p hst=>L_fa (o':=3) (g_yes rfl (Eq.trans (p 6 24 rfl rfl) (congrArg Value.bool hc66)) rfl) fa_63_3 ((s 3 rfl).trans rfl) rfl (nO rfl rfl hst)) (opsS_cons (fun f w_ _ _ _ _ p hst=>L_lda (cs:=[v1_3,I s.given.bound]) (g_yes rfl (Eq.trans (p 6 24 rfl rfl) (congrArg Value.bool hc66)) rfl) Try.isAgg41 Try.sizeOf41 (p 9 27 rfl rfl) (At.sub0 (Blk.at (Star.blkAt 0 hst rfl)) 3 2) rfl (nO rfl rfl hst)) (opsS_cons ?_ ?_))
 intro f w_ H60 X60 hS60 hE60 hP60 hst
 have hst : Star H60 w_ (box g9 63 #[I s.kind,I s.a,I s.b,v1_3,I s.given.bound] :: box g7 73 #[v0_0,v0_1] :: oF 41 (rCon 117) (f 26) x47 :: X60):=hst
 obtain ⟨H106b,l107,s108,z109,k110⟩:=hst.borrow
 have hb111 : (rS 41 (rCon 117)).rel H106b [(f 26)] x47:=fz_own 2 z109 rfl
 refine L_call (g_yes rfl (Eq.trans (hP60 6 24 rfl rfl) (congrArg Value.bool hc66)) rfl) Try.call76 (ops2 rfl (hP60 10 28 rfl rfl)) (s_l3Rup_c (list:=x47) (c:=s.given) s108 hb111 (RP.mono _ h1_3 (Le.trans hE60 l107)) hx56) ?_
 rintro _ w112 ⟨rfl,hst⟩
 have hst:=k110 hst c0
 exact L_nil ⟨rfl,_,_,rfl,Le.refl _,fun _ _=>rfl,hst⟩
 refine opsS_cons (fun f w_ _ _ _ _ p hst=>pkT (v:=Bo b58) (p 6 24 rfl rfl) hc66 rfl (Eq.trans (p 11 29 rfl rfl) (congrArg Value.bool (so hb58))) (nO rfl rfl hst)) (opsS_cons ?_ ?_)
 intro f w_ H60 X60 hS60 hE60 hP60 hst
 have hst : Star H60 w_ (box g9 63 #[I s.kind,I s.a,I s.b,v1_3,I s.given.bound] :: box g7 73 #[v0_0,v0_1] :: box g11 41 #[S0,I 0] :: own (OR.ownS 117 (OR.frz rTerm)) [(aggC (f 20) 0)] x37.terms :: X60):=hst
 obtain ⟨u113_0,hv113⟩:=(hP60 2 20 rfl rfl)
 have hren : Star H60 w_ (box g9 63 #[I s.kind,I s.a,I s.b,v1_3,I s.given.bound] :: box g7 73 #[v0_0,v0_1] :: box g11 41 #[S0,I 0] :: own (OR.ownS 117 (OR.frz rTerm)) [(aggC (f 20) 0)] x37.terms :: X60):=hst
 rw [hv113] at hren
 have hst : Star H60 w_ (box g9 63 #[I s.kind,I s.a,I s.b,v1_3,I s.given.bound] :: box g7 73 #[v0_0,v0_1] :: box g11 41 #[S0,I 0] :: oF 117 rTerm u113_0 x37.terms :: X60):=hren
 refine L_staB (vs:=#[u113_0,I x37.bound]) (cs2:=#[u113_0,I x37.bound]) 2 rfl Try.sizeOf41 ((hS60 4 rfl).trans rfl) hv113 rfl (ones_cons (one_len (Star.len 3 hst rfl)) (ones_cons rfl ones_nil)) hst rfl (by show 0 + 2≤2; decide) rfl (fun w114 hst=>?_)
 have hst:=hst.gets [3,3,3] rfl
 have hst : Star H60 w114 (box g9 63 #[I s.kind,I s.a,I s.b,v1_3,I s.given.bound] :: box g7 73 #[v0_0,v0_1] :: own (OR.ownS 117 (OR.frz rTerm)) [(aggC (f 20) 0)] x37.terms :: box g11 41 #[(aggC (f 20) 0),I x37.bound] :: X60):=by rw [hv113]; exact hst
 exact L_nil ⟨rfl,Bo false,_,rfl,Le.refl _,(fun _ h=>nomatch h),hst⟩
 exact opsS_nil
 have hst : Star H60 w_ ([box g9 63 #[I s.kind,I s.a,I s.b,v1_3,I s.given.bound],box g7 73 #[v0_0,v0_1],own (OR.ownS 117 (OR.frz rTerm)) [(aggC (f 20) 0)] x37.terms,oF 41 (rCon 117) (f 26) x47,box g11 41 #[(aggC (f 20) 0),I x37.bound]]):=hst
 refine aF (hT60 12 30 rfl rfl) rfl (nn ?_)
 have hst:=hst.gets [4,3] rfl
 exact rj hR65 ⟨H60,(aggC (f 20) 0),hE60,((hS60 4 rfl).trans rfl),rfl,(Star.keepN 2 hst)⟩
 rw [ite_f hc66] at hb58
 have hst:=hst.gets [2,2] rfl
 refine W_drawS 14 [isV (Pq g9 3),isV (.agg #[v1_3,I s.given.bound]),exA fun u_0=>isV (.agg #[u_0,I x37.bound]),isV (Pq g9 3),isV (.agg #[v1_3,I s.given.bound]),isV (Bo x45),isV (Bo x45),isV (undef),isV (undef),isV (undef),isV (undef),isV (undef),isV (Bo b58),anyF] [box g9 63 #[I s.kind,I s.a,I s.b,v1_3,I s.given.bound],box g7 73 #[v0_0,v0_1]] [.base (box g11 41 #[S0,I 0]) (some 13),.made 2 20 (fun v_=>oF 117 rTerm (aggC v_ 0) x37.terms) none,.madeN 13 [20] (fun vs_=>box g11 41 #[(aggC (vs_.getD 0 undef) 0),I x37.bound]) none] ([]) [([],[]),([],[]),([],[1]),([],[]),([],[]),([],[]),([],[]),([],[]),([],[]),([],[]),([],[]),([],[]),([],[]),([0,1],[1,2])] (S:=[(none,[],some 13),(some 2,[20],none),(some 13,[20],none)]) Try_mix (by kernel_rfl) rfl (by kernel_rfl) (amF_cons (mono_V _) (amF_cons (mono_V _) (amF_cons (mono_exA fun _=>mono_V _) (amF_cons (mono_V _) (amF_cons (mono_V _) (amF_cons (mono_V _) (amF_cons (mono_V _) (amF_cons (mono_V _) (amF_cons (mono_V _) (amF_cons (mono_V _) (amF_cons (mono_V _) (amF_cons (mono_V _) (amF_cons (mono_V _) (amF_cons (mono_any) amF_nil)))))))))))))) hst ?_ (fun f w_ H60 hS60 hE60 hT60 hst=>?_)
 refine opsS_cons (fun f w_ _ _ s _ _ hst=>fA 3 fa_63_3 ((s 3 rfl).trans rfl) rfl (nO rfl rfl hst)) (opsS_cons (fun f w_ _ _ _ _ p hst=>L_lda (cs:=[v1_3,I s.given.bound]) rfl Try.isAgg41 Try.sizeOf41 (p 0 18 rfl rfl) (At.sub0 (Blk.at (Star.blkAt 0 hst rfl)) 3 2) rfl (nO rfl rfl hst)) (opsS_cons ?_ ?_))
 intro f w_ H60 X60 hS60 hE60 hP60 hst
 obtain ⟨H129b,l130,s131,z132,k133⟩:=hst.borrow
 refine L_call rfl Try.call81 (ops1 (hP60 1 19 rfl rfl)) (s_l1Copy_c (c:=s.given) s131 (RP.mono _ h1_3 (Le.trans hE60 l130)) hx37) ?_
 rintro _ w134 ⟨r134_0,rfl,hst⟩
 have hst:=k133 hst (co closed_term c0)
 have hst:=hst.gets [2,2] rfl
 exact L_nil ⟨rfl,_,_,rfl,Le.refl _,fun _ _=>⟨_,rfl⟩,hst⟩
 refine opsS_cons (fun f w_ _ _ s _ _ hst=>fA 3 fa_63_3 ((s 3 rfl).trans rfl) rfl (nO rfl rfl hst)) (opsS_cons (fun f w_ _ _ _ _ p hst=>L_lda (cs:=[v1_3,I s.given.bound]) rfl Try.isAgg41 Try.sizeOf41 (p 3 21 rfl rfl) (At.sub0 (Blk.at (Star.blkAt 0 hst rfl)) 3 2) rfl (nO rfl rfl hst)) (opsS_cons ?_ ?_))
 intro f w_ H60 X60 hS60 hE60 hP60 hst
 obtain ⟨H136b,l137,s138,z139,k140⟩:=hst.borrow
 refine L_call rfl Try.call56 (ops1 (hP60 4 22 rfl rfl)) (s_ConstraintValid_c (c:=s.given) s138 (RP.mono _ h1_3 (Le.trans hE60 l137)) hx45) ?_
 rintro _ w141 ⟨rfl,hst⟩
 have hst:=k140 hst c0
 exact L_nil ⟨rfl,_,_,rfl,Le.refl _,fun _ _=>rfl,hst⟩
 refine opsS_cons (fun f w_ _ _ _ _ p hst=>mF (p 5 23 rfl rfl) rfl (nO rfl rfl hst)) (oP (fun _ _ p=>gN (p 6 24 rfl rfl) hc66 rfl) (fun _=>rfl) (oP (fun _ _ p=>gN (p 6 24 rfl rfl) hc66 rfl) (fun _=>rfl) (oP (fun _ _ p=>gN (p 6 24 rfl rfl) hc66 rfl) (fun _=>rfl) (oP (fun _ _ p=>gN (p 6 24 rfl rfl) hc66 rfl) (fun _=>rfl) (oP (fun _ _ p=>gN (p 6 24 rfl rfl) hc66 rfl) (fun _=>rfl) (opsS_cons (fun f w_ _ _ _ _ p hst=>pkT (v:=Bo b58) (p 6 24 rfl rfl) hc66 rfl (congrArg Value.bool (so hb58)) (nO rfl rfl hst)) (opsS_cons ?_ ?_)))))))
 intro f w_ H60 X60 hS60 hE60 hP60 hst
 have hst : Star H60 w_ (box g9 63 #[I s.kind,I s.a,I s.b,v1_3,I s.given.bound] :: box g7 73 #[v0_0,v0_1] :: box g11 41 #[S0,I 0] :: own (OR.ownS 117 (OR.frz rTerm)) [(aggC (f 20) 0)] x37.terms :: X60):=hst
 obtain ⟨u142_0,hv142⟩:=(hP60 2 20 rfl rfl)
 have hren : Star H60 w_ (box g9 63 #[I s.kind,I s.a,I s.b,v1_3,I s.given.bound] :: box g7 73 #[v0_0,v0_1] :: box g11 41 #[S0,I 0] :: own (OR.ownS 117 (OR.frz rTerm)) [(aggC (f 20) 0)] x37.terms :: X60):=hst
 rw [hv142] at hren
 have hst : Star H60 w_ (box g9 63 #[I s.kind,I s.a,I s.b,v1_3,I s.given.bound] :: box g7 73 #[v0_0,v0_1] :: box g11 41 #[S0,I 0] :: oF 117 rTerm u142_0 x37.terms :: X60):=hren
 refine L_staB (vs:=#[u142_0,I x37.bound]) (cs2:=#[u142_0,I x37.bound]) 2 rfl Try.sizeOf41 ((hS60 4 rfl).trans rfl) hv142 rfl (ones_cons (one_len (Star.len 3 hst rfl)) (ones_cons rfl ones_nil)) hst rfl (by show 0 + 2≤2; decide) rfl (fun w143 hst=>?_)
 have hst:=hst.gets [3,3,3] rfl
 have hst : Star H60 w143 (box g9 63 #[I s.kind,I s.a,I s.b,v1_3,I s.given.bound] :: box g7 73 #[v0_0,v0_1] :: own (OR.ownS 117 (OR.frz rTerm)) [(aggC (f 20) 0)] x37.terms :: box g11 41 #[(aggC (f 20) 0),I x37.bound] :: X60):=by rw [hv142]; exact hst
 exact L_nil ⟨rfl,Bo false,_,rfl,Le.refl _,(fun _ h=>nomatch h),hst⟩
 exact opsS_nil
 have hst : Star H60 w_ ([box g9 63 #[I s.kind,I s.a,I s.b,v1_3,I s.given.bound],box g7 73 #[v0_0,v0_1],own (OR.ownS 117 (OR.frz rTerm)) [(aggC (f 20) 0)] x37.terms,box g11 41 #[(aggC (f 20) 0),I x37.bound]]):=hst
 refine aF (hT60 12 30 rfl rfl) rfl (nn ?_)
 have hst:=hst.gets [3,3] rfl
 exact rj hR65 ⟨H60,(aggC (f 20) 0),hE60,((hS60 4 rfl).trans rfl),rfl,(Star.keepN 2 hst)⟩
 intro f w_ hR
 obtain ⟨H63,v61_g11_0,l64,sf4,sf5,hst⟩:=rk hR65 hR
 refine W_ret (retG2 (v1:=.agg #[v61_g11_0,I x37.bound]) (v2:=Bo b58) Try.results95 (resV_agg Try.isAgg41 Try.sizeOf41 sf4 (Star.blkAt 1 hst rfl) rfl) sf5 ?_)
 obtain rfl:=so hF
 exact ⟨v61_g11_0,rfl,(Star.down (Star.keepN 1 hst) l64 (co closed_term c0))⟩
 have hF:=(ite_f hc31).symm.trans hF
 refine W_skip (W_seq (W_seq ?_))
 obtain ⟨x149,hx149,hF⟩:=bind_some hF
 refine W_region (L_lda (cs:=[v0_0,v0_1]) rfl Try.isAgg73 Try.sizeOf73 rfl (At.sub0 (Blk.at (Star.blkAt 2 hst rfl)) 0 2) rfl (fA 1 fa_63_1 rfl rfl (ldB 1 hst Try.isAgg3 rfl rfl rfl ?_)))
 obtain ⟨H151b,l152,s153,z154,k155⟩:=hst.borrow
 refine L_call rfl Try.call94 (ops2 rfl rfl) (s_l4Live_c (d:=d) (k:=s.a) s153 (RP.mono _ h0_0 l152) (RP.mono _ h0_1 l152) hx149) ?_
 rintro _ w156 ⟨rfl,hst⟩
 have hst:=k155 hst c0
 refine L_not_ rfl rfl (nn (W_cond (b:=(!x149)) rfl (fun hc157=>?_) (fun hc157=>?_)))
 have hF:=(ite_t hc157).symm.trans hF
 refine sq (L_bld rfl (parts0 ) (bld_41_  ) (L_staB (vs:=#[S0,I 0]) (cs2:=#[S0,I 0]) 0 rfl Try.sizeOf41 rfl rfl rfl (ones_cons rfl (ones_cons rfl ones_nil)) hst rfl (by show 0 + 2≤2; decide) rfl (fun w159 hst=>aB rfl (nn (W_ret (retG2 (v1:=.agg #[S0,I 0]) (v2:=Bo false) Try.results95 (resV_agg Try.isAgg41 Try.sizeOf41 rfl (Star.blkAt 0 hst rfl) rfl) rfl ?_))))))
 obtain rfl:=so hF
 have hst:=Star.addNil (R:=(OR.frz rTerm)) (e:=117) hst
 exact ⟨S0,rfl,(Star.keepN 1 hst)⟩
 have hF:=(ite_f hc157).symm.trans hF
 refine W_skip (W_seq ?_)
 obtain ⟨x161,hx161,hF⟩:=bind_some hF
 refine W_region (fA 0 fa_73_0 rfl rfl (ldB 2 hst Try.isAgg27 rfl rfl rfl (fA 1 fa_63_1 rfl rfl (ldB 1 hst Try.isAgg3 rfl rfl rfl (L_ix (r:=(rCon 117)) rfl Try.underlying27 Try.sizeOf41 rfl h0_0 rfl hx161 (fun g169 o170 cs_g169 hrk_hat171 hat171=>?_))))))
 obtain ⟨u172_0,rfl,hu172_0⟩:=rCon_iff.1 hrk_hat171
 refine L_lda (cs:=[u172_0,I x161.bound]) rfl Try.isAgg41 Try.sizeOf41 rfl (At.sub (AtH.at hat171 hst.sub) 0 2) rfl (L_al (cs:=#[S0,I 0]) rfl Try.zeroValue41 rfl hst (fun g173 w174 hst=>L_staB (vs:=#[u172_0,I x161.bound]) (cs2:=#[u172_0,I x161.bound]) 0 rfl Try.sizeOf41 rfl rfl rfl (ones_cons (one_len (slice_len hu172_0)) (ones_cons rfl ones_nil)) hst rfl (by show 0 + 2≤2; decide) rfl (fun w175 hst=>nq (sq (fA 0 fa_63_0 rfl rfl (ldB 2 hst Try.isAgg3 rfl rfl rfl (nn (W_block (sq (L_eql rfl rfl rfl (aB rfl (nn (W_cond (b:=(s.kind == 1)) rfl (fun hc176=>?_) (fun hc176=>?_))))))))))))))
 have hF:=(ite_t hc176).symm.trans hF
 refine W_seq (W_seq ?_)
 obtain ⟨x182,hx182,hF⟩:=bind_some hF
 refine W_region (L_lda (cs:=[v0_0,v0_1]) rfl Try.isAgg73 Try.sizeOf73 rfl (At.sub0 (Blk.at (Star.blkAt 3 hst rfl)) 0 2) rfl (fA 2 fa_63_2 rfl rfl (ldB 2 hst Try.isAgg3 rfl rfl rfl ?_)))
 obtain ⟨H184b,l185,s186,z187,k188⟩:=hst.borrow
 refine L_call rfl Try.call94 (ops2 rfl rfl) (s_l4Live_c (d:=d) (k:=s.b) s186 (RP.mono _ h0_0 l185) (RP.mono _ h0_1 l185) hx182) ?_
 rintro _ w189 ⟨rfl,hst⟩
 have hst:=k188 hst c0
 refine L_not_ rfl rfl (nn (W_cond (b:=(!x182)) rfl (fun hc190=>?_) (fun hc190=>?_)))
 have hF:=(ite_t hc190).symm.trans hF
 refine sq (L_bld rfl (parts0 ) (bld_41_  ) (L_staB (vs:=#[S0,I 0]) (cs2:=#[S0,I 0]) 1 rfl Try.sizeOf41 rfl rfl rfl (ones_cons rfl (ones_cons rfl ones_nil)) hst rfl (by show 0 + 2≤2; decide) rfl (fun w192 hst=>aB rfl (nn (W_ret (retG2 (v1:=.agg #[S0,I 0]) (v2:=Bo false) Try.results95 (resV_agg Try.isAgg41 Try.sizeOf41 rfl (Star.blkAt 0 hst rfl) rfl) rfl ?_))))))
 obtain rfl:=so hF
 have hst:=Star.addNil (R:=(OR.frz rTerm)) (e:=117) hst
 exact ⟨S0,rfl,(Star.keepN 1 hst)⟩
 have hF:=(ite_f hc190).symm.trans hF
 refine W_skip (W_seq ?_)
 obtain ⟨x194,hx194,hF⟩:=bind_some hF
 obtain ⟨x204,hx204,hF⟩:=bind_some hF
 refine W_drawS 10 [isV (.agg #[u172_0,I x161.bound]),isV (Pt g7),isV (v0_0),isV (Pq g9 2),isV (I s.b),isEl (rCon 117) x194 0,exD (isData (rS 117 rTerm) x194.terms) fun u_0=>isV (.agg #[u_0,I x194.bound]),tup2 (exA fun u_0=>isV (.agg #[u_0,I x204.1.bound])) (isV (Bo x204.2)),exA fun u_0=>isV (.agg #[u_0,I x204.1.bound]),isV (Bo x204.2)] [box g173 41 #[u172_0,I x161.bound],box g11 41 #[S0,I 0],box g9 63 #[I s.kind,I s.a,I s.b,v1_3,I s.given.bound],box g7 73 #[v0_0,v0_1]] [.made 7 60 (fun v_=>own (OR.ownS 117 (OR.frz rTerm)) [(aggC (tupC v_ 0) 0)] x204.1.terms) (some 8),.made 8 61 (fun v_=>oF 117 rTerm (aggC v_ 0) x204.1.terms) none] ([]) [([],[]),([],[]),([],[]),([],[]),([],[]),([],[]),([],[]),([],[0]),([0],[1]),([],[])] (S:=[(some 7,[60],some 8),(some 8,[61],none)]) Try_mix (by kernel_rfl) rfl (by kernel_rfl) (amF_cons (mono_V _) (amF_cons (mono_V _) (amF_cons (mono_V _) (amF_cons (mono_V _) (amF_cons (mono_V _) (amF_cons (mono_el _ _ _) (amF_cons (mono_exD (mono_data _ _) fun _=>mono_V _) (amF_cons (mono_tup2 (mono_exA fun _=>mono_V _) (mono_V _)) (amF_cons (mono_exA fun _=>mono_V _) (amF_cons (mono_V _) amF_nil)))))))))) hst ?_ (fun f w_ H208 hS208 hE208 hT208 hst=>?_)
 refine opsS_cons (fun f w_ _ _ s _ _ hst=>L_lda (cs:=[u172_0,I x161.bound]) rfl Try.isAgg41 Try.sizeOf41 ((s 6 rfl).trans rfl) (At.sub0 (Blk.at (Star.blkAt 0 hst rfl)) 0 2) rfl (nO rfl rfl hst)) (opsS_cons (fun f w_ _ _ s _ _ hst=>fA 0 fa_73_0 ((s 2 rfl).trans rfl) rfl (nO rfl rfl hst)) (opsS_cons (fun f w_ _ _ _ _ p hst=>ldB 3 hst Try.isAgg27 (p 1 54 rfl rfl) rfl rfl (nO rfl rfl hst)) (opsS_cons (fun f w_ _ _ s _ _ hst=>fA 2 fa_63_2 ((s 3 rfl).trans rfl) rfl (nO rfl rfl hst)) (opsS_cons (fun f w_ _ _ _ _ p hst=>ldB 2 hst Try.isAgg3 (p 3 56 rfl rfl) rfl rfl (nO rfl rfl hst)) (opsS_cons ?_ ?_)))))
 intro f w_ H208 X208 hS208 hE208 hP208 hst
 refine L_ix (r:=(rCon 117)) rfl Try.underlying27 Try.sizeOf41 (hP208 2 55 rfl rfl) (RP.mono _ h0_0 hE208) (hP208 4 57 rfl rfl) hx194 (fun g220 o221 cs_g220 hrk_hat222 hat222=>?_)
 obtain ⟨u223_0,rfl,hu223_0⟩:=rCon_iff.1 hrk_hat222
 exact L_nil ⟨rfl,_,_,rfl,Le.refl _,fun _ _=>⟨_,_,_,rfl,hrk_hat222,hat222⟩,hst⟩
 refine opsS_cons ?_ ?_
 intro f w_ H208 X208 hS208 hE208 hP208 hst
 obtain ⟨g224,o224,cs224,hv224,hrk_hat224,hat224⟩:=(hP208 5 58 rfl rfl)
 obtain ⟨u225_0,rfl,hu225_0⟩:=rCon_iff.1 hrk_hat224
 refine L_lda (cs:=[u225_0,I x194.bound]) rfl Try.isAgg41 Try.sizeOf41 hv224 (At.sub (AtH.at hat224 hst.sub) 0 2) rfl (L_nil ⟨rfl,_,_,rfl,Le.refl _,fun _ _=>⟨_,hu225_0,rfl⟩,hst⟩)
 refine opsS_cons ?_ ?_
 intro f w_ H208 X208 hS208 hE208 hP208 hst
 obtain ⟨u226_0,hu226_0,hv226⟩:=(hP208 6 59 rfl rfl)
 obtain ⟨H227b,l228,s229,z230,k231⟩:=hst.borrow
 refine L_call rfl Try.call123 (ops2 (hP208 0 53 rfl rfl) hv226) (s_AddConstraints_c (a:=x161) (b:=x194) s229 (RP.mono _ hu172_0 (Le.trans hE208 l228)) (RP.mono _ hu226_0 l228) hx204) ?_
 rintro _ w232 ⟨r232_0,rfl,hst⟩
 have hst:=k231 hst (co closed_term c0)
 have hst:=hst.gets [4,4,4,4] rfl
 exact L_nil ⟨rfl,_,_,rfl,Le.refl _,fun _ _=>⟨_,_,rfl,⟨_,rfl⟩,rfl⟩,hst⟩
 refine opsS_cons ?_ ?_
 intro f w_ H208 X208 hS208 hE208 hP208 hst
 have hst : Star H208 w_ (box g173 41 #[u172_0,I x161.bound] :: box g11 41 #[S0,I 0] :: box g9 63 #[I s.kind,I s.a,I s.b,v1_3,I s.given.bound] :: box g7 73 #[v0_0,v0_1] :: own (OR.ownS 117 (OR.frz rTerm)) [(aggC (tupC (f 60) 0) 0)] x204.1.terms :: X208):=hst
 obtain ⟨a234_0,a234_1,hv234,ht234_0,ht234_1⟩:=(hP208 7 60 rfl rfl)
 obtain ⟨u235_0,rfl⟩:=ht234_0
 obtain rfl:=ht234_1
 have hren : Star H208 w_ (box g173 41 #[u172_0,I x161.bound] :: box g11 41 #[S0,I 0] :: box g9 63 #[I s.kind,I s.a,I s.b,v1_3,I s.given.bound] :: box g7 73 #[v0_0,v0_1] :: own (OR.ownS 117 (OR.frz rTerm)) [(aggC (tupC (f 60) 0) 0)] x204.1.terms :: X208):=hst
 rw [hv234] at hren
 have hst : Star H208 w_ (box g173 41 #[u172_0,I x161.bound] :: box g11 41 #[S0,I 0] :: box g9 63 #[I s.kind,I s.a,I s.b,v1_3,I s.given.bound] :: box g7 73 #[v0_0,v0_1] :: oF 117 rTerm u235_0 x204.1.terms :: X208):=hren
 refine L_ex (v:=.agg #[u235_0,I x204.1.bound]) rfl hv234 rfl (L_nil ⟨rfl,_,_,rfl,Le.refl _,fun _ _=>⟨_,rfl⟩,hst⟩)
 refine opsS_cons ?_ ?_
 intro f w_ H208 X208 hS208 hE208 hP208 hst
 obtain ⟨a236_0,a236_1,hv236,ht236_0,ht236_1⟩:=(hP208 7 60 rfl rfl)
 obtain ⟨u237_0,rfl⟩:=ht236_0
 obtain rfl:=ht236_1
 refine L_ex (v:=Bo x204.2) rfl hv236 rfl (L_nil ⟨rfl,_,_,rfl,Le.refl _,fun _ _=>rfl,hst⟩)
 exact opsS_nil
 have hst : Star H208 w_ ([box g173 41 #[u172_0,I x161.bound],box g11 41 #[S0,I 0],box g9 63 #[I s.kind,I s.a,I s.b,v1_3,I s.given.bound],box g7 73 #[v0_0,v0_1],own (OR.ownS 117 (OR.frz rTerm)) [(aggC (f 61) 0)] x204.1.terms]):=hst
 obtain ⟨u238_0,hv238⟩:=(hT208 8 61 rfl rfl)
 have hren : Star H208 w_ ([box g173 41 #[u172_0,I x161.bound],box g11 41 #[S0,I 0],box g9 63 #[I s.kind,I s.a,I s.b,v1_3,I s.given.bound],box g7 73 #[v0_0,v0_1],own (OR.ownS 117 (OR.frz rTerm)) [(aggC (f 61) 0)] x204.1.terms]):=hst
 rw [hv238] at hren
 have hst : Star H208 w_ ([box g173 41 #[u172_0,I x161.bound],box g11 41 #[S0,I 0],box g9 63 #[I s.kind,I s.a,I s.b,v1_3,I s.given.bound],box g7 73 #[v0_0,v0_1],oF 117 rTerm u238_0 x204.1.terms]):=hren
 refine L_staB (vs:=#[u238_0,I x204.1.bound]) (cs2:=#[u238_0,I x204.1.bound]) 1 rfl Try.sizeOf41 ((hS208 4 rfl).trans rfl) hv238 rfl (ones_cons (one_len (Star.len 4 hst rfl)) (ones_cons rfl ones_nil)) hst rfl (by show 0 + 2≤2; decide) rfl (fun w239 hst=>aF (hT208 9 62 rfl rfl) rfl (nn (W_ret (retG2 (v1:=.agg #[u238_0,I x204.1.bound]) (v2:=Bo x204.2) Try.results95 (resV_agg Try.isAgg41 Try.sizeOf41 ((hS208 4 rfl).trans rfl) (Star.blkAt 0 hst rfl) rfl) rfl ?_))))
 obtain rfl:=so hF
 have hst:=hst.get 4 rfl
 exact ⟨u238_0,rfl,(Star.down (Star.keepN 1 hst) hE208 (co closed_term c0))⟩
 have hF:=(ite_f hc176).symm.trans hF
 refine sq (L_eql rfl rfl rfl (aB rfl (nn (W_cond (b:=(s.kind == 2)) rfl (fun hc240=>?_) (fun hc240=>?_)))))
 have hF:=(ite_t hc240).symm.trans hF
 refine W_seq ?_
 obtain ⟨x246,hx246,hF⟩:=bind_some hF
 refine W_region (L_lda (cs:=[u172_0,I x161.bound]) rfl Try.isAgg41 Try.sizeOf41 rfl (At.sub0 (Blk.at (Star.blkAt 0 hst rfl)) 0 2) rfl (fA 2 fa_63_2 rfl rfl (ldB 2 hst Try.isAgg3 rfl rfl rfl ?_)))
 obtain ⟨H250b,l251,s252,z253,k254⟩:=hst.borrow
 refine L_call rfl Try.call124 (ops2 rfl rfl) (s_MultiplyConstraint_c (c:=x161) (k:=s.b) s252 (RP.mono _ hu172_0 l251) hx246) ?_
 rintro _ w255 ⟨r255_0,rfl,hst⟩
 have hst:=k254 hst (co closed_term c0)
 refine L_ex (v:=.agg #[r255_0,I x246.1.bound]) rfl rfl rfl (L_ex (v:=Bo x246.2) rfl rfl rfl (L_staB (vs:=#[r255_0,I x246.1.bound]) (cs2:=#[r255_0,I x246.1.bound]) 2 rfl Try.sizeOf41 rfl rfl rfl (ones_cons (one_len (Star.len 0 hst rfl)) (ones_cons rfl ones_nil)) hst rfl (by show 0 + 2≤2; decide) rfl (fun w257 hst=>aB rfl (nn (W_ret (retG2 (v1:=.agg #[r255_0,I x246.1.bound]) (v2:=Bo x246.2) Try.results95 (resV_agg Try.isAgg41 Try.sizeOf41 rfl (Star.blkAt 0 hst rfl) rfl) rfl ?_))))))
 obtain rfl:=so hF
 have hst:=hst.get 1 rfl
 exact ⟨r255_0,rfl,(Star.keepN 1 hst)⟩
 have hF:=(ite_f hc240).symm.trans hF
 refine sq (L_eql rfl rfl rfl (aB rfl (nn (W_cond (b:=(s.kind == 3)) rfl (fun hc258=>?_) (fun hc258=>?_)))))
 have hF:=(ite_t hc258).symm.trans hF
 refine W_seq ?_
 obtain ⟨x264,hx264,hF⟩:=bind_some hF
 refine W_region (L_lda (cs:=[u172_0,I x161.bound]) rfl Try.isAgg41 Try.sizeOf41 rfl (At.sub0 (Blk.at (Star.blkAt 0 hst rfl)) 0 2) rfl (fA 2 fa_63_2 rfl rfl (ldB 2 hst Try.isAgg3 rfl rfl rfl ?_)))
 obtain ⟨H268b,l269,s270,z271,k272⟩:=hst.borrow
 refine L_call rfl Try.call125 (ops2 rfl rfl) (s_DivideConstraint_c (c:=x161) (k:=s.b) s270 (RP.mono _ hu172_0 l269) hx264) ?_
 rintro _ w273 ⟨r273_0,rfl,hst⟩
 have hst:=k272 hst (co closed_term c0)
 refine L_ex (v:=.agg #[r273_0,I x264.1.bound]) rfl rfl rfl (L_ex (v:=Bo x264.2) rfl rfl rfl (L_staB (vs:=#[r273_0,I x264.1.bound]) (cs2:=#[r273_0,I x264.1.bound]) 2 rfl Try.sizeOf41 rfl rfl rfl (ones_cons (one_len (Star.len 0 hst rfl)) (ones_cons rfl ones_nil)) hst rfl (by show 0 + 2≤2; decide) rfl (fun w275 hst=>aB rfl (nn (W_ret (retG2 (v1:=.agg #[r273_0,I x264.1.bound]) (v2:=Bo x264.2) Try.results95 (resV_agg Try.isAgg41 Try.sizeOf41 rfl (Star.blkAt 0 hst rfl) rfl) rfl ?_))))))
 obtain rfl:=so hF
 have hst:=hst.get 1 rfl
 exact ⟨r273_0,rfl,(Star.keepN 1 hst)⟩
 have hF:=(ite_f hc258).symm.trans hF
 refine sq (L_eql rfl rfl rfl (aB rfl (nn (W_cond (b:=(s.kind == 4)) rfl (fun hc276=>?_) (fun hc276=>?_)))))
 have hF:=(ite_t hc276).symm.trans hF
 refine W_seq ?_
 obtain ⟨x282,hx282,hF⟩:=bind_some hF
 refine W_region (L_lda (cs:=[u172_0,I x161.bound]) rfl Try.isAgg41 Try.sizeOf41 rfl (At.sub0 (Blk.at (Star.blkAt 0 hst rfl)) 0 2) rfl ?_)
 obtain ⟨H286b,l287,s288,z289,k290⟩:=hst.borrow
 refine L_call rfl Try.call126 (ops1 rfl) (s_SaturateConstraint_c (c:=x161) s288 (RP.mono _ hu172_0 l287) hx282) ?_
 rintro _ w291 ⟨r291_0,rfl,hst⟩
 have hst:=k290 hst (co closed_term c0)
 refine L_ex (v:=.agg #[r291_0,I x282.1.bound]) rfl rfl rfl (L_ex (v:=Bo x282.2) rfl rfl rfl (L_staB (vs:=#[r291_0,I x282.1.bound]) (cs2:=#[r291_0,I x282.1.bound]) 2 rfl Try.sizeOf41 rfl rfl rfl (ones_cons (one_len (Star.len 0 hst rfl)) (ones_cons rfl ones_nil)) hst rfl (by show 0 + 2≤2; decide) rfl (fun w293 hst=>aB rfl (nn (W_ret (retG2 (v1:=.agg #[r291_0,I x282.1.bound]) (v2:=Bo x282.2) Try.results95 (resV_agg Try.isAgg41 Try.sizeOf41 rfl (Star.blkAt 0 hst rfl) rfl) rfl ?_))))))
 obtain rfl:=so hF
 have hst:=hst.get 1 rfl
 exact ⟨r291_0,rfl,(Star.keepN 1 hst)⟩
 have hF:=(ite_f hc276).symm.trans hF
 refine W_skip (W_seq ?_)
 obtain ⟨x299,hx299,hF⟩:=bind_some hF
 refine W_region (L_lda (cs:=[u172_0,I x161.bound]) rfl Try.isAgg41 Try.sizeOf41 rfl (At.sub0 (Blk.at (Star.blkAt 0 hst rfl)) 0 2) rfl (fA 2 fa_63_2 rfl rfl (ldB 2 hst Try.isAgg3 rfl rfl rfl ?_)))
 obtain ⟨H303b,l304,s305,z306,k307⟩:=hst.borrow
 refine L_call rfl Try.call72 (ops2 rfl rfl) (s_WeakenConstraint_c (c:=x161) (variable_:=s.b) s305 (RP.mono _ hu172_0 l304) hx299) ?_
 rintro _ w308 ⟨r308_0,rfl,hst⟩
 have hst:=k307 hst (co closed_term c0)
 refine L_ex (v:=.agg #[r308_0,I x299.1.bound]) rfl rfl rfl (L_ex (v:=Bo x299.2) rfl rfl rfl (L_staB (vs:=#[r308_0,I x299.1.bound]) (cs2:=#[r308_0,I x299.1.bound]) 2 rfl Try.sizeOf41 rfl rfl rfl (ones_cons (one_len (Star.len 0 hst rfl)) (ones_cons rfl ones_nil)) hst rfl (by show 0 + 2≤2; decide) rfl (fun w310 hst=>aB rfl (nn (W_ret (retG2 (v1:=.agg #[r308_0,I x299.1.bound]) (v2:=Bo x299.2) Try.results95 (resV_agg Try.isAgg41 Try.sizeOf41 rfl (Star.blkAt 0 hst rfl) rfl) rfl ?_))))))
 obtain rfl:=so hF
 have hst:=hst.get 1 rfl
 exact ⟨r308_0,rfl,(Star.keepN 1 hst)⟩
theorem s_l4Run_c {fu : Nat} {list : List Con} {steps : List Step} {v0 : Value} {v1 : Value} {H : FH} {w : World} {R : List Ass} (hst : Star H w R) (h0 : (rS 41 (rCon 117)).rel H [v0] list) (h1 : (rS 63 (rStep 117)).rel H [v1] steps) {r : Db × Int} (hF : s_l4Run fu list steps = some r) :
 C Try.prog 50 #[v0,v1] w fun v w'=>∃ H' : FH,Le H H'∧∃ (u1 : Value) (u2 : Value),v = .tuple #[.agg #[u1,u2],I r.2]∧Star H' w' (oF 41 (rCon 117) u1 r.1.list :: oF 4 RP.bool u2 r.1.gone :: R):=by
 unfold s_l4Run at hF
 refine C_enter Try.func50 rfl Try.ntmps50 rfl (sq (L_al (cs:=#[S0,S0]) rfl Try.zeroValue73 rfl hst (fun g3 w4 hst=>aI rfl (nq ?_))))
 obtain ⟨x8,hx8,hF⟩:=bind_some hF
 obtain ⟨x12,hx12,hF⟩:=bind_some hF
 refine W_drawS 8 [anyF,isV (v0),anyF,isV (v0),isV (I (list.length : Int)),anyF,exA fun u_0=>exA fun u_1=>isV (.agg #[u_0,u_1]),anyF] [box g3 73 #[S0,S0]] [.made 0 11 (fun v_=>oF 41 (rCon 117) v_ ([])) (some 2),.made 2 13 (fun v_=>oF 41 (rCon 117) v_ x8) (some 6),.made 5 16 (fun v_=>oF 4 RP.bool v_ x12) (some 6),.made 6 17 (fun v_=>oF 41 (rCon 117) (aggC v_ 0) x8) none,.made 6 17 (fun v_=>oF 4 RP.bool (aggC v_ 1) x12) none,.made 7 6 (fun v_=>boxV v_ 73 #[S0,S0]) none] (R) [([],[0]),([],[]),([0],[1]),([],[]),([],[]),([],[2]),([1,2],[3,4]),([],[5])] (S:=[(some 0,[11],some 2),(some 2,[13],some 6),(some 5,[16],some 6),(some 6,[17],none),(some 6,[17],none),(some 7,[6],none)]) Try_mix (by kernel_rfl) rfl (by kernel_rfl) (amF_cons (mono_any) (amF_cons (mono_V _) (amF_cons (mono_any) (amF_cons (mono_V _) (amF_cons (mono_V _) (amF_cons (mono_any) (amF_cons (mono_exA fun _=>mono_exA fun _=>mono_V _) (amF_cons (mono_any) amF_nil)))))))) hst ?_ (fun f w_ H19 hS19 hE19 hT19 hst=>?_)
 refine opsS_cons ?_ ?_
 intro f w_ H19 X19 hS19 hE19 hP19 hst
 refine L_bs rfl parts0 (bs_27_0  ) hst (fun g31 w32 hst=>?_)
 have hst:=Star.mkRow (R:=(OR.frz (rCon 117))) [] [] 0 hst rfl rfl rfl (by decide)
 have hst:=hst.get 1 rfl
 exact L_nil ⟨rfl,_,_,rfl,Le.refl _,fun _ _=>trivial,hst⟩
 refine opsS_cons (fun f w_ _ _ s _ _ hst=>mF ((s 0 rfl).trans rfl) rfl (nO rfl rfl hst)) (opsS_cons ?_ ?_)
 intro f w_ H19 X19 hS19 hE19 hP19 hst
 have hst : Star H19 w_ (box g3 73 #[S0,S0] :: oF 41 (rCon 117) (f 11) ([]) :: X19):=hst
 have hst:=hst.get 1 rfl
 refine L_app (v:=(f 11)) (u:=v0) rfl et_27 rfl (hP19 1 12 rfl rfl) hst (RP.mono _ h0 hE19) hx8 (fun v35 w36 hst=>?_)
 have hst:=hst.get 1 rfl
 exact L_nil ⟨rfl,_,_,rfl,Le.refl _,fun _ _=>trivial,hst⟩
 refine opsS_cons (fun f w_ _ _ s _ _ hst=>mF ((s 0 rfl).trans rfl) rfl (nO rfl rfl hst)) (opsS_cons (fun f w_ _ _ _ hE19 p hst=>L_len rfl Try.underlying27 (p 3 14 rfl rfl) (slice_len (RP.mono _ h0 hE19)) (nO rfl rfl hst)) (opsS_cons ?_ ?_))
 intro f w_ H19 X19 hS19 hE19 hP19 hst
 refine L_mk (R:=(OR.frz RP.bool)) (z0:=false) (zc:=[Bo false]) rfl et_49 (by kernel_rfl) (fun _ _=>⟨rfl,rfl⟩) (hP19 4 15 rfl rfl) (hP19 4 15 rfl rfl) hx12 hst (fun v38 w39 hst=>?_)
 have hst:=hst.get 1 rfl
 exact L_nil ⟨rfl,_,_,rfl,Le.refl _,fun _ _=>trivial,hst⟩
 refine opsS_cons ?_ ?_
 intro f w_ H19 X19 hS19 hE19 hP19 hst
 have hst : Star H19 w_ (box g3 73 #[S0,S0] :: oF 41 (rCon 117) (f 13) x8 :: oF 4 RP.bool (f 16) x12 :: X19):=hst
 refine L_bld rfl (parts2 rfl rfl) (bld_73_0_1 ((f 13)) ((f 16)) (one_len (Star.len 1 hst rfl)) (one_len (Star.len 2 hst rfl))) (L_nil ⟨rfl,_,_,rfl,Le.refl _,fun _ _=>⟨_,_,rfl⟩,hst⟩)
 refine opsS_cons ?_ ?_
 intro f w_ H19 X19 hS19 hE19 hP19 hst
 refine L_al (cs:=#[S0,S0]) rfl Try.zeroValue73 rfl hst (fun g43 w44 hst=>?_)
 have hst:=hst.gets [1,1] rfl
 have hst:=Star.boxV (v:=Pt g43) rfl hst
 have hst:=hst.get 1 rfl
 exact L_nil ⟨rfl,_,_,rfl,Le.refl _,fun _ _=>trivial,hst⟩
 exact opsS_nil
 have hst : Star H19 w_ (box g3 73 #[S0,S0] :: own (OR.ownS 41 (OR.frz (rCon 117))) [(aggC (f 17) 0)] x8 :: own (OR.ownS 4 (OR.frz RP.bool)) [(aggC (f 17) 1)] x12 :: boxV (f 6) 73 #[S0,S0] :: R):=hst
 obtain ⟨u45_0,u45_1,hv45⟩:=(hT19 6 17 rfl rfl)
 have hren : Star H19 w_ (box g3 73 #[S0,S0] :: own (OR.ownS 41 (OR.frz (rCon 117))) [(aggC (f 17) 0)] x8 :: own (OR.ownS 4 (OR.frz RP.bool)) [(aggC (f 17) 1)] x12 :: boxV (f 6) 73 #[S0,S0] :: R):=hst
 rw [hv45] at hren
 have hst : Star H19 w_ (box g3 73 #[S0,S0] :: oF 41 (rCon 117) u45_0 x8 :: oF 4 RP.bool u45_1 x12 :: boxV (f 6) 73 #[S0,S0] :: R):=hren
 obtain ⟨g46,hv46,hst⟩:=Star.unboxV (Star.get 3 hst rfl)
 refine L_staB (vs:=#[u45_0,u45_1]) (cs2:=#[u45_0,u45_1]) 0 rfl Try.sizeOf73 hv46 hv45 rfl (ones_cons (one_len (Star.len 2 hst rfl)) (ones_cons (one_len (Star.len 3 hst rfl)) ones_nil)) hst rfl (by show 0 + 2≤2; decide) rfl (fun w47 hst=>nq (sq (aI rfl (nn ?_))))
 have hlen55 : List.length steps≤9223372036854775807:=len_le (slice_len (RP.mono _ h1 hE19))
 obtain ⟨j55,hL55,hF⟩:=bind_some hF
 obtain ⟨R55,hR55⟩:=exR fun f w_=>∃ g46_0_49 : List Con,∃ g46_1_51 : List Bool,∃ H53 : FH,∃ v49_g46_0 v51_g46_1 : Value,j55 = .nx (g46_0_49,g46_1_51)∧Le H19 H53∧f 4 = Pt g3∧f 6 = Pt g46∧Star H53 w_ (oF 41 (rCon 117) v49_g46_0 g46_0_49 :: oF 4 RP.bool v51_g46_1 g46_1_51 :: box g46 73 #[v49_g46_0,v51_g46_1] :: box g3 73 #[S0,S0] :: R)
 refine W_join R55 ?_ ?_
 refine W_block ?_
 obtain ⟨I55,hI55⟩:=exI fun n f w_=>∃ i_48 : Nat,∃ suf55 : List Step,∃ g46_0_49 : List Con,∃ g46_1_51 : List Bool,∃ H53 : FH,∃ v49_g46_0 v51_g46_1 : Value,n = suf55.length∧List.drop i_48 steps = suf55∧i_48 + suf55.length = steps.length∧rangeL (s_l4Run_b1 fu list) suf55 i_48 (g46_0_49,g46_1_51) = some j55∧Le H19 H53∧f 1 = v1∧f 4 = Pt g3∧f 6 = Pt g46∧f 7 = I i_48∧Star H53 w_ (oF 41 (rCon 117) v49_g46_0 g46_0_49 :: oF 4 RP.bool v51_g46_1 g46_1_51 :: box g46 73 #[v49_g46_0,v51_g46_1] :: box g3 73 #[S0,S0] :: R)
 have hst:=hst.gets [1,1,3,3] rfl
 refine W_loop I55 (n:=steps.length) ?_ ?_
 exact ij hI55 ⟨0,steps,x8,x12,H19,u45_0,u45_1,rfl,rfl,Nat.zero_add _,hL55,(Le.refl _),((hS19 1 rfl).trans rfl),((hS19 4 rfl).trans rfl),hv46,rfl,hst⟩
 intro n55 f w_ hI
 obtain ⟨i_48,suf55,g46_0_49,g46_1_51,H53,v49_g46_0,v51_g46_1,rfl,hd55,hl55,hL55,l54,sf1,sf4,sf6,sf7,hst⟩:=ik hI55 hI
 refine W_seq (sq (mF sf7 rfl (mF sf1 rfl (L_len rfl Try.underlying29 rfl (slice_len (RP.mono _ h1 (Le.trans hE19 l54))) (L_lss rfl rfl rfl (nn (W_cond (b:=decide ((i_48 : Int) < (steps.length : Int))) rfl (fun hc56=>?_) (fun hc56=>?_))))))))
 have hlt55:=of_decide_eq_true hc56
 rcases suf55 with _ | ⟨x_55,rest55⟩
 exact absurd hlt55 (by simp at hl55; omega)
 obtain ⟨o55,hB55,hL55⟩:=range_cons hL55
 rw [s_l4Run_b1] at hB55
 have hix55:=drop_idx hd55
 refine W_skip (W_seq ?_)
 obtain ⟨j63,hA63,hB55⟩:=bind_some hB55
 obtain ⟨R63,hR63⟩:=exR fun f w_=>∃ g46_0_57 : List Con,∃ g46_1_59 : List Bool,∃ H61 : FH,∃ v57_g46_0 v59_g46_1 : Value,j63 = .nx (g46_0_57,g46_1_59)∧Le H53 H61∧f 1 = v1∧f 4 = Pt g3∧f 6 = Pt g46∧f 7 = I i_48∧Star H61 w_ (oF 41 (rCon 117) v57_g46_0 g46_0_57 :: oF 4 RP.bool v59_g46_1 g46_1_59 :: box g46 73 #[v57_g46_0,v59_g46_1] :: box g3 73 #[S0,S0] :: R)
 refine W_join R63 ?_ ?_
 refine W_block (sq (mF sf1 rfl (mF sf7 rfl (L_ix (r:=(rStep 117)) rfl Try.underlying29 Try.sizeOf63 rfl (RP.mono _ h1 (Le.trans hE19 l54)) rfl hix55 (fun g71 o72 cs_g71 hrk_hat73 hat73=>?_)))))
 obtain ⟨u74_0,rfl,hu74_0⟩:=rStep_iff.1 hrk_hat73
 refine L_lda (cs:=[I x_55.kind,I x_55.a,I x_55.b,u74_0,I x_55.given.bound]) rfl Try.isAgg63 Try.sizeOf63 rfl (At.sub (AtH.at hat73 hst.sub) 0 5) rfl (L_al (cs:=#[I 0,I 0,I 0,S0,I 0]) rfl Try.zeroValue63 rfl hst (fun g75 w76 hst=>L_staB (vs:=#[I x_55.kind,I x_55.a,I x_55.b,u74_0,I x_55.given.bound]) (cs2:=#[I x_55.kind,I x_55.a,I x_55.b,u74_0,I x_55.given.bound]) 0 rfl Try.sizeOf63 rfl rfl rfl (ones_cons rfl (ones_cons rfl (ones_cons rfl (ones_cons (one_len (slice_len hu74_0)) (ones_cons rfl ones_nil))))) hst rfl (by show 0 + 5≤5; decide) rfl (fun w77 hst=>nq (W_seq ?_))))
 obtain ⟨x83,hx83,hA63⟩:=bind_some hA63
 refine W_region (L_lda (cs:=[I x_55.kind,I x_55.a,I x_55.b,u74_0,I x_55.given.bound]) rfl Try.isAgg63 Try.sizeOf63 rfl (At.sub0 (Blk.at (Star.blkAt 0 hst rfl)) 0 5) rfl ?_)
 obtain ⟨H85b,l86,s87,z88,k89⟩:=hst.borrow
 refine L_call rfl Try.call93 (ops1 rfl) (s_l4Parts_c (s:=x_55) s87 (RP.mono _ hu74_0 l86) hx83) ?_
 rintro _ w90 ⟨rfl,hst⟩
 have hst:=k89 hst c0
 refine L_not_ rfl rfl (nn (W_cond (b:=(!x83)) rfl (fun hc91=>?_) (fun hc91=>?_)))
 have hA63:=(ite_t hc91).symm.trans hA63
 refine sq (L_lda (cs:=[v49_g46_0,v51_g46_1]) rfl Try.isAgg73 Try.sizeOf73 sf6 (At.sub0 (Blk.at (Star.blkAt 3 hst rfl)) 0 2) rfl (mF sf7 rfl (L_staB (vs:=#[v49_g46_0,v51_g46_1]) (cs2:=#[v49_g46_0,v51_g46_1]) 4 rfl Try.sizeOf73 sf4 rfl rfl (ones_cons (one_len (Star.len 1 hst rfl)) (ones_cons (one_len (Star.len 2 hst rfl)) ones_nil)) hst rfl (by show 0 + 2≤2; decide) rfl (fun w93 hst=>aI rfl (nn (W_ret (retG2 (v1:=.agg #[v49_g46_0,v51_g46_1]) (v2:=I i_48) Try.results50 (resV_agg Try.isAgg73 Try.sizeOf73 sf4 (Star.blkAt 0 hst rfl) rfl) rfl ?_)))))))
 obtain rfl:=so hA63
 obtain rfl:=so hB55
 obtain rfl:=so hL55
 obtain rfl:=so hF
 have hst:=hst.gets [3,3] rfl
 have hst:=Star.drop 2 hst rfl
 have hst:=Star.drop 2 hst rfl
 have hst:=Star.drop 2 hst rfl
 exact ⟨H53,(Le.trans hE19 l54),v49_g46_0,v51_g46_1,rfl,hst⟩
 have hA63:=(ite_f hc91).symm.trans hA63
 refine W_skip (W_seq (sq (fA 0 fa_63_0 rfl rfl (ldB 0 hst Try.isAgg3 rfl rfl rfl (L_eql rfl rfl rfl (nn (W_cond (b:=(x_55.kind == 8)) rfl (fun hc94=>?_) (fun hc94=>?_))))))))
 have hA63:=(ite_t hc94).symm.trans hA63
 refine W_seq (W_seq ?_)
 obtain ⟨x102,hx102,hA63⟩:=bind_some hA63
 refine W_region (L_lda (cs:=[v49_g46_0,v51_g46_1]) rfl Try.isAgg73 Try.sizeOf73 sf6 (At.sub0 (Blk.at (Star.blkAt 3 hst rfl)) 0 2) rfl (fA 1 fa_63_1 rfl rfl (ldB 0 hst Try.isAgg3 rfl rfl rfl ?_)))
 obtain ⟨H104b,l105,s106,z107,k108⟩:=hst.borrow
 have hb109 : (rS 41 (rCon 117)).rel H104b [v49_g46_0] g46_0_49:=fz_own 1 z107 rfl
 have hb110 : (rS 4 RP.bool).rel H104b [v51_g46_1] g46_1_51:=fz_own 2 z107 rfl
 refine L_call rfl Try.call94 (ops2 rfl rfl) (s_l4Live_c (d:=({ list:=g46_0_49,gone:=g46_1_51 } : Db)) (k:=x_55.a) s106 hb109 hb110 hx102) ?_
 rintro _ w111 ⟨rfl,hst⟩
 have hst:=k108 hst c0
 refine L_not_ rfl rfl (nn (W_cond (b:=(!x102)) rfl (fun hc112=>?_) (fun hc112=>?_)))
 have hA63:=(ite_t hc112).symm.trans hA63
 refine sq (L_lda (cs:=[v49_g46_0,v51_g46_1]) rfl Try.isAgg73 Try.sizeOf73 sf6 (At.sub0 (Blk.at (Star.blkAt 3 hst rfl)) 0 2) rfl (mF sf7 rfl (L_staB (vs:=#[v49_g46_0,v51_g46_1]) (cs2:=#[v49_g46_0,v51_g46_1]) 4 rfl Try.sizeOf73 sf4 rfl rfl (ones_cons (one_len (Star.len 1 hst rfl)) (ones_cons (one_len (Star.len 2 hst rfl)) ones_nil)) hst rfl (by show 0 + 2≤2; decide) rfl (fun w114 hst=>aI rfl (nn (W_ret (retG2 (v1:=.agg #[v49_g46_0,v51_g46_1]) (v2:=I i_48) Try.results50 (resV_agg Try.isAgg73 Try.sizeOf73 sf4 (Star.blkAt 0 hst rfl) rfl) rfl ?_)))))))
 obtain rfl:=so hA63
 obtain rfl:=so hB55
 obtain rfl:=so hL55
 obtain rfl:=so hF
 have hst:=hst.gets [3,3] rfl
 have hst:=Star.drop 2 hst rfl
 have hst:=Star.drop 2 hst rfl
 have hst:=Star.drop 2 hst rfl
 exact ⟨H53,(Le.trans hE19 l54),v49_g46_0,v51_g46_1,rfl,hst⟩
 have hA63:=(ite_f hc112).symm.trans hA63
 refine W_skip (W_seq ?_)
 obtain ⟨x115,hx115,hA63⟩:=bind_some hA63
 refine W_region (fA 1 fa_73_1 sf6 rfl (ldB 3 hst Try.isAgg49 rfl rfl rfl (fA 1 fa_63_1 rfl rfl (ldB 0 hst Try.isAgg3 rfl rfl rfl ?_))))
 obtain ⟨g119,cap_g119,hv120,_,_⟩:=Star.row 2 hst rfl hx115
 refine L_ixO (R:=(OR.frz RP.bool)) (tb:=0) 0 rfl Try.underlying49 Try.sizeOf4 rfl hv120 (by first | rfl | simp) rfl hx115 ?_
 have hst:=Star.addF (r:=RP.bool) (cs:=[Bo true]) (x:=true) hst rfl
 have hst:=hst.gets [3,1] rfl
 refine L_stE1 (u:=Bo true) rfl Try.sizeOf4 rfl rfl rfl hv120 hst hx115 (fun w121 hst=>nn (W_exit ?_))
 obtain rfl:=so hA63
 have hst:=hst.gets [4,4,2,4] rfl
 have hst:=Star.drop 4 hst rfl
 exact rj hR63 ⟨g46_0_49,(g46_1_51.set (Int.toNat x_55.a) true),H53,v49_g46_0,v51_g46_1,rfl,(Le.refl _),sf1,sf4,sf6,sf7,hst⟩
 have hA63:=(ite_f hc94).symm.trans hA63
 refine W_skip (W_seq ?_)
 obtain ⟨x129,hx129,hA63⟩:=bind_some hA63
 refine W_region (L_lda (cs:=[v49_g46_0,v51_g46_1]) rfl Try.isAgg73 Try.sizeOf73 sf6 (At.sub0 (Blk.at (Star.blkAt 3 hst rfl)) 0 2) rfl (L_lda (cs:=[I x_55.kind,I x_55.a,I x_55.b,u74_0,I x_55.given.bound]) rfl Try.isAgg63 Try.sizeOf63 rfl (At.sub0 (Blk.at (Star.blkAt 0 hst rfl)) 0 5) rfl ?_))
 obtain ⟨H135b,l136,s137,z138,k139⟩:=hst.borrow
 have hb140 : (rS 41 (rCon 117)).rel H135b [v49_g46_0] g46_0_49:=fz_own 1 z138 rfl
 have hb141 : (rS 4 RP.bool).rel H135b [v51_g46_1] g46_1_51:=fz_own 2 z138 rfl
 refine L_call rfl Try.call95 (ops2 rfl rfl) (s_l4Derive_c (d:=({ list:=g46_0_49,gone:=g46_1_51 } : Db)) (s:=x_55) s137 hb140 hb141 (RP.mono _ hu74_0 l136) hx129) ?_
 rintro _ w142 ⟨r142_0,rfl,hst⟩
 have hst:=k139 hst (co closed_term c0)
 refine mV (.tuple #[.agg #[r142_0,I x129.1.bound],Bo x129.2]) rfl (L_ex (v:=.agg #[r142_0,I x129.1.bound]) rfl rfl rfl (L_ex (v:=Bo x129.2) rfl rfl rfl (L_al (cs:=#[S0,I 0]) rfl Try.zeroValue41 rfl hst (fun g144 w145 hst=>L_staB (vs:=#[r142_0,I x129.1.bound]) (cs2:=#[r142_0,I x129.1.bound]) 0 rfl Try.sizeOf41 rfl rfl rfl (ones_cons (one_len (Star.len 1 hst rfl)) (ones_cons rfl ones_nil)) hst rfl (by show 0 + 2≤2; decide) rfl (fun w146 hst=>aB rfl (nq (sq (mB rfl (L_not_ rfl rfl (nn (W_cond (b:=(!x129.2)) rfl (fun hc147=>?_) (fun hc147=>?_))))))))))))
 have hA63:=(ite_t hc147).symm.trans hA63
 refine sq (L_lda (cs:=[v49_g46_0,v51_g46_1]) rfl Try.isAgg73 Try.sizeOf73 sf6 (At.sub0 (Blk.at (Star.blkAt 5 hst rfl)) 0 2) rfl (mF sf7 rfl (L_staB (vs:=#[v49_g46_0,v51_g46_1]) (cs2:=#[v49_g46_0,v51_g46_1]) 6 rfl Try.sizeOf73 sf4 rfl rfl (ones_cons (one_len (Star.len 3 hst rfl)) (ones_cons (one_len (Star.len 4 hst rfl)) ones_nil)) hst rfl (by show 0 + 2≤2; decide) rfl (fun w149 hst=>aI rfl (nn (W_ret (retG2 (v1:=.agg #[v49_g46_0,v51_g46_1]) (v2:=I i_48) Try.results50 (resV_agg Try.isAgg73 Try.sizeOf73 sf4 (Star.blkAt 0 hst rfl) rfl) rfl ?_)))))))
 obtain rfl:=so hA63
 obtain rfl:=so hB55
 obtain rfl:=so hL55
 obtain rfl:=so hF
 have hst:=hst.gets [5,5] rfl
 have hst:=Star.drop 2 hst rfl
 have hst:=Star.drop 2 hst rfl
 have hst:=Star.drop 2 hst rfl
 have hst:=Star.drop 2 hst rfl
 have hst:=Star.drop 2 hst rfl
 exact ⟨H53,(Le.trans hE19 l54),v49_g46_0,v51_g46_1,rfl,hst⟩
 have hA63:=(ite_f hc147).symm.trans hA63
 refine W_skip (W_seq ?_)
 obtain ⟨x153,hx153,hA63⟩:=bind_some hA63
 refine W_region (fA 0 fa_73_0 sf6 rfl (ldB 5 hst Try.isAgg27 rfl rfl rfl (L_lda (cs:=[r142_0,I x129.1.bound]) rfl Try.isAgg41 Try.sizeOf41 rfl (At.sub0 (Blk.at (Star.blkAt 0 hst rfl)) 0 2) rfl (L_bs rfl (parts1 rfl) (bs_27_1_2 (r142_0) (I x129.1.bound) ) hst (fun g160 w161 hst=>?_)))))
 have hst:=hst.get 2 rfl
 have hst:=oCon_close (c:=x129.1) hst
 have hst:=Star.mkRow (R:=(oCon 117)) [([r142_0,I x129.1.bound],x129.1)] [x129.1] 1 hst rfl rfl rfl (by decide)
 obtain ⟨H163,l164,hst⟩:=Star.shallow hst
 have hst : Star H163 w161 (oF 41 (rCon 117) (Sl g160 1 1) ([x129.1]) :: _):=hst
 have hst:=hst.get 3 rfl
 refine L_appM (v:=v49_g46_0) (u:=(Sl g160 1 1)) rfl et_27 rfl rfl hst hx153 (fun v165 w166 hst=>fA 0 fa_73_0 sf6 rfl (L_stB (v:=v165) (cs2:=#[v165,v51_g46_1]) 4 rfl Try.sizeOf27 rfl rfl (one_len (Star.len 0 hst rfl)) hst rfl rfl rfl (fun w168 hst=>nn ?_)))
 obtain ⟨x172,hx172,hA63⟩:=bind_some hA63
 refine W_region (fA 1 fa_73_1 sf6 rfl (ldB 0 hst Try.isAgg49 rfl rfl rfl (L_bs rfl (parts1 rfl) (bs_49_1_0 (Bo false) rfl) hst (fun g177 w178 hst=>?_))))
 have hst:=Star.addF (r:=RP.bool) (cs:=[Bo false]) (x:=false) hst rfl
 have hst:=Star.mkRow (R:=(OR.frz RP.bool)) [([Bo false],false)] [false] 1 hst rfl rfl rfl (by decide)
 have hst:=hst.get 5 rfl
 refine L_appM (v:=v51_g46_1) (u:=(Sl g177 1 1)) rfl et_49 rfl rfl hst hx172 (fun v180 w181 hst=>fA 1 fa_73_1 sf6 rfl (L_stB (v:=v180) (cs2:=#[v165,v180]) 1 rfl Try.sizeOf49 rfl rfl (one_len (Star.len 0 hst rfl)) hst rfl rfl rfl (fun w183 hst=>nn ?_)))
 obtain rfl:=so hA63
 have hst:=hst.gets [5,1,2,3] rfl
 have hst:=Star.drop 4 hst rfl
 have hst:=Star.drop 4 hst rfl
 exact rj hR63 ⟨x153,x172,H163,v165,v180,rfl,l164,sf1,sf4,sf6,sf7,hst⟩
 intro f w_ hR
 obtain ⟨g46_0_57,g46_1_59,H61,v57_g46_0,v59_g46_1,rfl,l62,sf1,sf4,sf6,sf7,hst⟩:=rk hR63 hR
 refine W_region (mF sf7 rfl (L_add rfl rfl rfl (aI rfl (nn ?_))))
 obtain rfl:=so hB55
 show ∃ m,m < _∧I55 m _ _
 refine ⟨rest55.length,by simp,?_⟩
 exact ij hI55 ⟨i_48 + 1,rest55,g46_0_57,g46_1_59,H61,v57_g46_0,v59_g46_1,rfl,drop_next hd55,by simp at hl55; omega,hL55,(Le.trans l54 l62),sf1,sf4,sf6,(Eq.trans rfl (congrArg (Value.int .i64) (i64_succ (n:=steps.length) (by simp at hl55; omega) hlen55))),hst⟩
 rcases suf55 with _ | ⟨_,_⟩
 obtain rfl:=range_nil hL55
 refine W_exit (rj hR55 ⟨g46_0_49,g46_1_51,H53,v49_g46_0,v51_g46_1,rfl,l54,sf4,sf6,hst⟩)
 exact absurd (of_decide_eq_false hc56) (by simp at hl55; omega)
 intro f w_ hR
 obtain ⟨g46_0_49,g46_1_51,H53,v49_g46_0,v51_g46_1,rfl,l54,sf4,sf6,hst⟩:=rk hR55 hR
 refine sq (L_lda (cs:=[v49_g46_0,v51_g46_1]) rfl Try.isAgg73 Try.sizeOf73 sf6 (At.sub0 (Blk.at (Star.blkAt 2 hst rfl)) 0 2) rfl (L_staB (vs:=#[v49_g46_0,v51_g46_1]) (cs2:=#[v49_g46_0,v51_g46_1]) 3 rfl Try.sizeOf73 sf4 rfl rfl (ones_cons (one_len (Star.len 0 hst rfl)) (ones_cons (one_len (Star.len 1 hst rfl)) ones_nil)) hst rfl (by show 0 + 2≤2; decide) rfl (fun w185 hst=>aI rfl (nn (W_ret (retG2 (v1:=.agg #[v49_g46_0,v51_g46_1]) (v2:=I (-1)) Try.results50 (resV_agg Try.isAgg73 Try.sizeOf73 sf4 (Star.blkAt 0 hst rfl) rfl) rfl ?_))))))
 obtain rfl:=so hF
 have hst:=hst.gets [2,2] rfl
 have hst:=Star.drop 2 hst rfl
 have hst:=Star.drop 2 hst rfl
 exact ⟨H53,(Le.trans hE19 l54),v49_g46_0,v51_g46_1,rfl,hst⟩
theorem s_ConstraintFalse_c {c : Con} {v0_0 : Value} {H : FH} {w : World} (hst : Star H w []) (h0_0 : (rS 117 rTerm).rel H [v0_0] c.terms) {r : Bool} (hF : s_ConstraintFalse c = some r) :
 C Try.prog 96 #[.agg #[v0_0,I c.bound]] w fun v w'=>v = Bo r∧Star H w' []:=by
 unfold s_ConstraintFalse at hF
 refine C_enter Try.func96 rfl Try.ntmps96 rfl (sq (L_box (v:=.agg #[v0_0,I c.bound]) (cs:=#[v0_0,I c.bound]) rfl rfl rfl hst (fun g3 w4 hst=>aB rfl (nq ?_))))
 obtain ⟨x10,hx10,hF⟩:=bind_some hF
 obtain ⟨b19,hb19,hF⟩:=bind_some hF
 obtain ⟨R23,hR23⟩:=exR fun f w_=>∃ H21 : FH,Le H H21∧f 2 = Bo b19∧Star H21 w_ ([])
 refine W_join R23 ?_ ?_
 rcases Bool.eq_false_or_eq_true x10 with hc24 | hc24
 rw [ite_t hc24] at hb19
 obtain ⟨x17,hx17,hb19⟩:=bind_some hb19
 refine W_drawS 7 [isV (.agg #[v0_0,I c.bound]),isV (Bo x10),isV (Bo x10),isV (.agg #[v0_0,I c.bound]),isV (I x17),isV (Pq g3 1),isV (I c.bound)] [box g3 41 #[v0_0,I c.bound]] [] ([]) [([],[]),([],[]),([],[]),([],[]),([],[]),([],[]),([],[])] (S:=[]) Try_mix (by kernel_rfl) rfl (by kernel_rfl) (amF_cons (mono_V _) (amF_cons (mono_V _) (amF_cons (mono_V _) (amF_cons (mono_V _) (amF_cons (mono_V _) (amF_cons (mono_V _) (amF_cons (mono_V _) amF_nil))))))) hst ?_ (fun f w_ H20 hS20 hE20 hT20 hst=>?_)
 refine opsS_cons (fun f w_ _ _ s _ _ hst=>L_lda (cs:=[v0_0,I c.bound]) rfl Try.isAgg41 Try.sizeOf41 ((s 1 rfl).trans rfl) (At.sub0 (Blk.at (Star.blkAt 0 hst rfl)) 0 2) rfl (nO rfl rfl hst)) (opsS_cons ?_ ?_)
 intro f w_ H20 X20 hS20 hE20 hP20 hst
 obtain ⟨H37b,l38,s39,z40,k41⟩:=hst.borrow
 refine L_call rfl Try.call56 (ops1 (hP20 0 3 rfl rfl)) (s_ConstraintValid_c (c:=c) s39 (RP.mono _ h0_0 (Le.trans hE20 l38)) hx10) ?_
 rintro _ w42 ⟨rfl,hst⟩
 have hst:=k41 hst c0
 exact L_nil ⟨rfl,_,_,rfl,Le.refl _,fun _ _=>rfl,hst⟩
 refine opsS_cons (fun f w_ _ _ _ _ p hst=>mF (p 1 4 rfl rfl) rfl (nO rfl rfl hst)) (opsS_cons (fun f w_ _ _ s _ p hst=>L_lda (cs:=[v0_0,I c.bound]) (g_yes rfl (Eq.trans (p 2 5 rfl rfl) (congrArg Value.bool hc24)) rfl) Try.isAgg41 Try.sizeOf41 ((s 1 rfl).trans rfl) (At.sub0 (Blk.at (Star.blkAt 0 hst rfl)) 0 2) rfl (nO rfl rfl hst)) (opsS_cons ?_ ?_))
 intro f w_ H20 X20 hS20 hE20 hP20 hst
 obtain ⟨H43b,l44,s45,z46,k47⟩:=hst.borrow
 refine L_call (g_yes rfl (Eq.trans (hP20 2 5 rfl rfl) (congrArg Value.bool hc24)) rfl) Try.call111 (ops1 (hP20 3 6 rfl rfl)) (s_l1Total_c (c:=c) s45 (RP.mono _ h0_0 (Le.trans hE20 l44)) hx17) ?_
 rintro _ w48 ⟨rfl,hst⟩
 have hst:=k47 hst c0
 exact L_nil ⟨rfl,_,_,rfl,Le.refl _,fun _ _=>rfl,hst⟩
 refine opsS_cons (fun f w_ _ _ s _ p hst=>L_fa (o':=1) (g_yes rfl (Eq.trans (p 2 5 rfl rfl) (congrArg Value.bool hc24)) rfl) fa_41_1 ((s 1 rfl).trans rfl) rfl (nO rfl rfl hst)) (opsS_cons (fun f w_ _ _ _ _ p hst=>L_ld (v:=I c.bound) (g_yes rfl (Eq.trans (p 2 5 rfl rfl) (congrArg Value.bool hc24)) rfl) Try.isAgg3 (p 5 8 rfl rfl) (At.cell0 (Blk.at (Star.blkAt 0 hst rfl)) (j:=1) rfl) (nO rfl rfl hst)) (opsS_nil))
 refine L_lss (g_yes rfl (Eq.trans (hT20 2 5 rfl rfl) (congrArg Value.bool hc24)) rfl) (hT20 4 7 rfl rfl) (hT20 6 9 rfl rfl) (L_pick (v:=Bo b19) rfl (Eq.trans (hT20 2 5 rfl rfl) (congrArg Value.bool hc24)) (congrArg Value.bool (so hb19)) (aB rfl (nn (rj hR23 ⟨H20,hE20,rfl,(Star.keepN 0 hst)⟩))))
 rw [ite_f hc24] at hb19
 refine W_drawS 7 [isV (.agg #[v0_0,I c.bound]),isV (Bo x10),isV (Bo x10),isV (undef),isV (undef),isV (undef),isV (undef)] [box g3 41 #[v0_0,I c.bound]] [] ([]) [([],[]),([],[]),([],[]),([],[]),([],[]),([],[]),([],[])] (S:=[]) Try_mix (by kernel_rfl) rfl (by kernel_rfl) (amF_cons (mono_V _) (amF_cons (mono_V _) (amF_cons (mono_V _) (amF_cons (mono_V _) (amF_cons (mono_V _) (amF_cons (mono_V _) (amF_cons (mono_V _) amF_nil))))))) hst ?_ (fun f w_ H20 hS20 hE20 hT20 hst=>?_)
 refine opsS_cons (fun f w_ _ _ s _ _ hst=>L_lda (cs:=[v0_0,I c.bound]) rfl Try.isAgg41 Try.sizeOf41 ((s 1 rfl).trans rfl) (At.sub0 (Blk.at (Star.blkAt 0 hst rfl)) 0 2) rfl (nO rfl rfl hst)) (opsS_cons ?_ ?_)
 intro f w_ H20 X20 hS20 hE20 hP20 hst
 obtain ⟨H55b,l56,s57,z58,k59⟩:=hst.borrow
 refine L_call rfl Try.call56 (ops1 (hP20 0 3 rfl rfl)) (s_ConstraintValid_c (c:=c) s57 (RP.mono _ h0_0 (Le.trans hE20 l56)) hx10) ?_
 rintro _ w60 ⟨rfl,hst⟩
 have hst:=k59 hst c0
 exact L_nil ⟨rfl,_,_,rfl,Le.refl _,fun _ _=>rfl,hst⟩
 refine opsS_cons (fun f w_ _ _ _ _ p hst=>mF (p 1 4 rfl rfl) rfl (nO rfl rfl hst)) (oP (fun _ _ p=>gN (p 2 5 rfl rfl) hc24 rfl) (fun _=>rfl) (oP (fun _ _ p=>gN (p 2 5 rfl rfl) hc24 rfl) (fun _=>rfl) (oP (fun _ _ p=>gN (p 2 5 rfl rfl) hc24 rfl) (fun _=>rfl) (oP (fun _ _ p=>gN (p 2 5 rfl rfl) hc24 rfl) (fun _=>rfl) (opsS_nil)))))
 refine ps (g_no rfl (Eq.trans (hT20 2 5 rfl rfl) (congrArg Value.bool hc24)) rfl rfl) (L_pick (v:=Bo b19) rfl (Eq.trans (hT20 2 5 rfl rfl) (congrArg Value.bool hc24)) (congrArg Value.bool (so hb19)) (aB rfl (nn (rj hR23 ⟨H20,hE20,rfl,(Star.keepN 0 hst)⟩))))
 intro f w_ hR
 obtain ⟨H21,l22,sf2,hst⟩:=rk hR23 hR
 refine W_ret (retG1 (v1:=Bo b19) Try.results96 sf2 ?_)
 obtain rfl:=so hF
 exact ⟨rfl,(Star.down hst l22 c0)⟩
theorem s_l4False_c {d : Db} {v0_0 : Value} {v0_1 : Value} {H : FH} {w : World} (hst : Star H w []) (h0_0 : (rS 41 (rCon 117)).rel H [v0_0] d.list) (h0_1 : (rS 4 RP.bool).rel H [v0_1] d.gone) {r : Int} (hF : s_l4False d = some r) :
 C Try.prog 51 #[.agg #[v0_0,v0_1]] w fun v w'=>v = I r∧Star H w' []:=by
 unfold s_l4False at hF
 refine C_enter Try.func51 rfl Try.ntmps51 rfl (sq (L_box (v:=.agg #[v0_0,v0_1]) (cs:=#[v0_0,v0_1]) rfl rfl rfl hst (fun g3 w4 hst=>aI rfl (nq (sq (aI rfl (nn ?_)))))))
 have hlen6 : List.length d.list≤9223372036854775807:=len_le (slice_len h0_0)
 obtain ⟨j6,hL6,hF⟩:=bind_some hF
 obtain ⟨R6,hR6⟩:=exR fun f w_=>j6 = .nx ()∧Star H w_ ([])
 refine W_join R6 ?_ ?_
 refine W_block ?_
 obtain ⟨I6,hI6⟩:=exI fun n f w_=>∃ i_5 : Nat,∃ suf6 : List Con,n = suf6.length∧List.drop i_5 d.list = suf6∧i_5 + suf6.length = d.list.length∧rangeL (s_l4False_b1 d) suf6 i_5 () = some j6∧f 1 = Pt g3∧f 3 = I i_5∧Star H w_ ([box g3 73 #[v0_0,v0_1]])
 refine W_loop I6 (n:=d.list.length) ?_ ?_
 exact ij hI6 ⟨0,d.list,rfl,rfl,Nat.zero_add _,hL6,rfl,rfl,hst⟩
 intro n6 f w_ hI
 obtain ⟨i_5,suf6,rfl,hd6,hl6,hL6,sf1,sf3,hst⟩:=ik hI6 hI
 refine W_seq (sq (mF sf3 rfl (fA 0 fa_73_0 sf1 rfl (ldB 0 hst Try.isAgg27 rfl rfl rfl (L_len rfl Try.underlying27 rfl (slice_len h0_0) (L_lss rfl rfl rfl (nn (W_cond (b:=decide ((i_5 : Int) < (d.list.length : Int))) rfl (fun hc7=>?_) (fun hc7=>?_)))))))))
 have hlt6:=of_decide_eq_true hc7
 rcases suf6 with _ | ⟨x_6,rest6⟩
 exact absurd hlt6 (by simp at hl6; omega)
 obtain ⟨o6,hB6,hL6⟩:=range_cons hL6
 rw [s_l4False_b1] at hB6
 have hix6:=drop_idx hd6
 refine W_skip (W_seq (W_block (W_seq ?_)))
 obtain ⟨x8,hx8,hB6⟩:=bind_some hB6
 obtain ⟨b24,hb24,hB6⟩:=bind_some hB6
 obtain ⟨R25,hR25⟩:=exR fun f w_=>f 1 = Pt g3∧f 3 = I i_5∧f 24 = Bo b24∧Star H w_ ([box g3 73 #[v0_0,v0_1]])
 refine W_join R25 ?_ ?_
 refine W_region (fA 1 fa_73_1 sf1 rfl (ldB 0 hst Try.isAgg49 rfl rfl rfl (mF sf3 rfl (L_ix (r:=RP.bool) rfl Try.underlying49 Try.sizeOf4 rfl h0_1 rfl hx8 (fun g26 o27 cs_g26 hrk_hat28 hat28=>?_)))))
 obtain rfl : _ = [_]:=hrk_hat28
 refine L_ld rfl Try.isAgg4 rfl (At.cell (AtH.at hat28 hst.sub) (j:=0) rfl) (L_not_ rfl rfl (mB rfl (L_split (d:=17) (b:=(!x8)) rfl (fun hc30=>?_) (fun hc30=>?_))))
 rw [ite_t hc30] at hb24
 obtain ⟨x22,hx22,hb24⟩:=bind_some hb24
 refine fA 0 fa_73_0 sf1 rfl (ldB 0 hst Try.isAgg27 rfl rfl rfl (mF sf3 rfl (L_ix (r:=(rCon 117)) rfl Try.underlying27 Try.sizeOf41 rfl h0_0 rfl hix6 (fun g31 o32 cs_g31 hrk_hat33 hat33=>?_))))
 obtain ⟨u34_0,rfl,hu34_0⟩:=rCon_iff.1 hrk_hat33
 refine L_lda (cs:=[u34_0,I x_6.bound]) rfl Try.isAgg41 Try.sizeOf41 rfl (At.sub (AtH.at hat33 hst.sub) 0 2) rfl ?_
 obtain ⟨H35b,l36,s37,z38,k39⟩:=hst.borrow
 refine L_call rfl Try.call96 (ops1 rfl) (s_ConstraintFalse_c (c:=x_6) s37 (RP.mono _ hu34_0 l36) hx22) ?_
 rintro _ w40 ⟨rfl,hst⟩
 have hst:=k39 hst c0
 refine L_pick (v:=Bo b24) rfl rfl (congrArg Value.bool (so hb24)) (nn (rj hR25 ⟨sf1,sf3,rfl,hst⟩))
 rw [ite_f hc30] at hb24
 refine ps rfl (ps rfl (ps rfl (ps rfl (ps rfl (ps rfl (L_pick (v:=Bo b24) rfl rfl (congrArg Value.bool (so hb24)) (nn (rj hR25 ⟨sf1,sf3,rfl,hst⟩))))))))
 intro f w_ hR
 obtain ⟨sf1,sf3,sf24,hst⟩:=rk hR25 hR
 refine W_cond (b:=b24) sf24 (fun hc41=>?_) (fun hc41=>?_)
 have hB6:=(ite_t hc41).symm.trans hB6
 refine sq (mF sf3 rfl (aI rfl (nn (W_ret (retG1 (v1:=I i_5) Try.results51 rfl ?_)))))
 obtain rfl:=so hB6
 obtain rfl:=so hL6
 obtain rfl:=so hF
 exact ⟨rfl,(Star.keepN 0 hst)⟩
 have hB6:=(ite_f hc41).symm.trans hB6
 refine W_skip (W_region (mF sf3 rfl (L_add rfl rfl rfl (aI rfl (nn ?_)))))
 obtain rfl:=so hB6
 show ∃ m,m < _∧I6 m _ _
 refine ⟨rest6.length,by simp,?_⟩
 exact ij hI6 ⟨i_5 + 1,rest6,rfl,drop_next hd6,by simp at hl6; omega,hL6,sf1,(Eq.trans rfl (congrArg (Value.int .i64) (i64_succ (n:=d.list.length) (by simp at hl6; omega) hlen6))),hst⟩
 rcases suf6 with _ | ⟨_,_⟩
 obtain rfl:=range_nil hL6
 refine W_exit (rj hR6 ⟨rfl,(Star.keepN 0 hst)⟩)
 exact absurd (of_decide_eq_false hc7) (by simp at hl6; omega)
 intro f w_ hR
 obtain ⟨rfl,hst⟩:=rk hR6 hR
 refine sq (aI rfl (nn (W_ret (retG1 (v1:=I (-1)) Try.results51 rfl ?_))))
 obtain rfl:=so hF
 exact ⟨rfl,hst⟩
theorem s_CheckRefutation_c {fu : Nat} {list : List Con} {steps : List Step} {v0 : Value} {v1 : Value} {H : FH} {w : World} (hst : Star H w []) (h0 : (rS 41 (rCon 117)).rel H [v0] list) (h1 : (rS 63 (rStep 117)).rel H [v1] steps) {r : Bool} (hF : s_CheckRefutation fu list steps = some r) :
 C Try.prog 16 #[v0,v1] w fun v w'=>v = Bo r∧Star H w' []:=by
 unfold s_CheckRefutation at hF
 refine C_enter Try.func16 rfl Try.ntmps16 rfl (sq (aB rfl (nq (W_seq ?_))))
 obtain ⟨x6,hx6,hF⟩:=bind_some hF
 refine W_region (mV v0 rfl (mV v1 rfl ?_))
 obtain ⟨H8b,l9,s10,z11,k12⟩:=hst.borrow
 refine L_call rfl Try.call49 (ops2 rfl rfl) (s_l4Fits_c (list:=list) (steps:=steps) s10 (RP.mono _ h0 l9) (RP.mono _ h1 l9) hx6) ?_
 rintro _ w13 ⟨rfl,hst⟩
 have hst:=k12 hst c0
 refine L_not_ rfl rfl (nn (W_cond (b:=(!x6)) rfl (fun hc14=>?_) (fun hc14=>?_)))
 have hF:=(ite_t hc14).symm.trans hF
 refine sq (aB rfl (nn (W_ret (retG1 (v1:=Bo false) Try.results16 rfl ?_))))
 obtain rfl:=so hF
 exact ⟨rfl,hst⟩
 have hF:=(ite_f hc14).symm.trans hF
 refine W_skip (W_seq ?_)
 obtain ⟨x15,hx15,hF⟩:=bind_some hF
 refine W_region (mV v0 rfl (mV v1 rfl (L_call rfl Try.call50 (ops2 rfl rfl) (s_l4Run_c (list:=list) (steps:=steps) hst h0 h1 hx15) ?_)))
 rintro _ w22 ⟨H22,l22,r22_0,r22_1,rfl,hst⟩
 refine mV (.tuple #[.agg #[r22_0,r22_1],I x15.2]) rfl (L_ex (v:=.agg #[r22_0,r22_1]) rfl rfl rfl (L_ex (v:=I x15.2) rfl rfl rfl (L_al (cs:=#[S0,S0]) rfl Try.zeroValue73 rfl hst (fun g25 w26 hst=>L_staB (vs:=#[r22_0,r22_1]) (cs2:=#[r22_0,r22_1]) 0 rfl Try.sizeOf73 rfl rfl rfl (ones_cons (one_len (Star.len 1 hst rfl)) (ones_cons (one_len (Star.len 2 hst rfl)) ones_nil)) hst rfl (by show 0 + 2≤2; decide) rfl (fun w27 hst=>aI rfl (nq ?_))))))
 obtain ⟨b37,hb37,hF⟩:=bind_some hF
 obtain ⟨R38,hR38⟩:=exR fun f w_=>f 4 = Bo b37∧Star H22 w_ ([])
 refine W_join R38 ?_ ?_
 refine W_region (mI rfl (L_lss rfl rfl rfl (mB rfl (L_split (d:=19) (b:=decide (x15.2 < 0)) rfl (fun hc39=>?_) (fun hc39=>?_)))))
 rw [ite_t hc39] at hb37
 obtain ⟨x35,hx35,hb37⟩:=bind_some hb37
 refine L_lda (cs:=[r22_0,r22_1]) rfl Try.isAgg73 Try.sizeOf73 rfl (At.sub0 (Blk.at (Star.blkAt 0 hst rfl)) 0 2) rfl ?_
 obtain ⟨H40b,l41,s42,z43,k44⟩:=hst.borrow
 have hb45 : (rS 41 (rCon 117)).rel H40b [r22_0] x15.1.list:=fz_own 1 z43 rfl
 have hb46 : (rS 4 RP.bool).rel H40b [r22_1] x15.1.gone:=fz_own 2 z43 rfl
 refine L_call rfl Try.call51 (ops1 rfl) (s_l4False_c (d:=x15.1) s42 hb45 hb46 hx35) ?_
 rintro _ w47 ⟨rfl,hst⟩
 have hst:=k44 hst c0
 refine L_geq rfl rfl rfl (L_pick (v:=Bo b37) rfl rfl (congrArg Value.bool (so hb37)) (aB rfl (nn (rj hR38 ⟨rfl,(Star.keepN 0 hst)⟩))))
 rw [ite_f hc39] at hb37
 refine ps rfl (ps rfl (ps rfl (L_pick (v:=Bo b37) rfl rfl (congrArg Value.bool (so hb37)) (aB rfl (nn (rj hR38 ⟨rfl,(Star.keepN 0 hst)⟩))))))
 intro f w_ hR
 obtain ⟨sf4,hst⟩:=rk hR38 hR
 refine W_ret (retG1 (v1:=Bo b37) Try.results16 sf4 ?_)
 obtain rfl:=so hF
 exact ⟨rfl,(Star.down hst l22 c0)⟩
theorem slices_IndexFunc_implConstraint_c {s : List Con} {f_ : (Con→Option Bool)} {v0 : Value} {v1 : Value} {H : FH} {w : World} (hst : Star H w []) (h0 : (rS 41 (rCon 117)).rel H [v0] s) (h1 : Fun1 Try.prog (rCon 117) true Value.bool f_ v1 H) {r : Int} (hF : slices_IndexFunc_implConstraint s f_ = some r) :
 C Try.prog 107 #[v0,v1] w fun v w'=>v = I r∧Star H w' []:=by
 unfold slices_IndexFunc_implConstraint at hF
 obtain ⟨fid_1,caps_1,rfl,hcall_1,hc_1⟩:=h1
 refine C_enter Try.func107 rfl Try.ntmps107 rfl (sq (aI rfl (nq (sq (mV v0 rfl (L_len rfl Try.underlying27 rfl (slice_len h0) (mI rfl (nn ?_))))))))
 have hlen2 : List.length s≤9223372036854775807:=len_le (slice_len h0)
 obtain ⟨j2,hL2,hF⟩:=bind_some hF
 obtain ⟨R2,hR2⟩:=exR fun f w_=>j2 = .nx ()∧Star H w_ ([])
 refine W_join R2 ?_ ?_
 refine W_block ?_
 obtain ⟨I2,hI2⟩:=exI fun n f w_=>∃ i_1 : Nat,∃ suf2 : List Con,n = suf2.length∧List.drop i_1 s = suf2∧i_1 + suf2.length = s.length∧rangeL (slices_IndexFunc_implConstraint_b1 f_) suf2 i_1 () = some j2∧f 0 = v0∧f 1 = .func (.func fid_1) #[] caps_1∧f 7 = I (s.length : Int)∧f 8 = I i_1∧Star H w_ ([])
 refine W_loop I2 (n:=s.length) ?_ ?_
 exact ij hI2 ⟨0,s,rfl,rfl,Nat.zero_add _,hL2,rfl,rfl,rfl,rfl,hst⟩
 intro n2 f w_ hI
 obtain ⟨i_1,suf2,rfl,hd2,hl2,hL2,sf0,sf1,sf7,sf8,hst⟩:=ik hI2 hI
 refine sq (L_lss rfl sf8 sf7 (nq (W_cond (b:=decide ((i_1 : Int) < (s.length : Int))) rfl (fun hc3=>?_) (fun hc3=>?_))))
 have hlt2:=of_decide_eq_true hc3
 rcases suf2 with _ | ⟨x_2,rest2⟩
 exact absurd hlt2 (by simp at hl2; omega)
 obtain ⟨o2,hB2,hL2⟩:=range_cons hL2
 rw [slices_IndexFunc_implConstraint_b1] at hB2
 have hix2:=drop_idx hd2
 refine W_skip (W_seq (W_block (sq (mF sf8 rfl (aI rfl (nq ?_))))))
 obtain ⟨x8,hx8,hB2⟩:=bind_some hB2
 refine W_region (mF sf1 rfl (mF sf0 rfl (mI rfl (L_ix (r:=(rCon 117)) rfl Try.underlying27 Try.sizeOf41 rfl h0 rfl hix2 (fun g15 o16 cs_g15 hrk_hat17 hat17=>?_)))))
 obtain ⟨u18_0,rfl,hu18_0⟩:=rCon_iff.1 hrk_hat17
 refine L_lda (cs:=[u18_0,I x_2.bound]) rfl Try.isAgg41 Try.sizeOf41 rfl (At.sub (AtH.at hat17 hst.sub) 0 2) rfl ?_
 obtain ⟨H19b,l20,s21,z22,k23⟩:=hst.borrow
 refine L_callv (args:=#[.agg #[u18_0,I x_2.bound]]) rfl hcall_1 rfl (ops1 rfl) (hc_1 _ _ l20 s21 [u18_0,I x_2.bound] _ _ _ (rCon_iff.2 ⟨_,rfl,(RP.mono _ hu18_0 l20)⟩) hx8 (args_app rfl)) ?_
 rintro _ w24 ⟨rfl,hst⟩
 have hst:=k23 hst c0
 refine nn (W_cond (b:=x8) rfl (fun hc25=>?_) (fun hc25=>?_))
 have hB2:=(ite_t hc25).symm.trans hB2
 refine sq (mI rfl (aI rfl (nn (W_ret (retG1 (v1:=I i_1) Try.results107 rfl ?_)))))
 obtain rfl:=so hB2
 obtain rfl:=so hL2
 obtain rfl:=so hF
 exact ⟨rfl,hst⟩
 have hB2:=(ite_f hc25).symm.trans hB2
 refine W_skip (W_region (L_add rfl sf8 rfl (mI rfl (nn ?_))))
 obtain rfl:=so hB2
 show ∃ m,m < _∧I2 m _ _
 refine ⟨rest2.length,by simp,?_⟩
 exact ij hI2 ⟨i_1 + 1,rest2,rfl,drop_next hd2,by simp at hl2; omega,hL2,sf0,sf1,sf7,(Eq.trans rfl (congrArg (Value.int .i64) (i64_succ (n:=s.length) (by simp at hl2; omega) hlen2))),hst⟩
 rcases suf2 with _ | ⟨_,_⟩
 obtain rfl:=range_nil hL2
 refine W_exit (rj hR2 ⟨rfl,hst⟩)
 exact absurd (of_decide_eq_false hc3) (by simp at hl2; omega)
 intro f w_ hR
 obtain ⟨rfl,hst⟩:=rk hR2 hR
 refine sq (aI rfl (nn (W_ret (retG1 (v1:=I (-1)) Try.results107 rfl ?_))))
 obtain rfl:=so hF
 exact ⟨rfl,hst⟩
theorem slices_ContainsFunc_implConstraint_c {s : List Con} {f_ : (Con→Option Bool)} {v0 : Value} {v1 : Value} {H : FH} {w : World} (hst : Star H w []) (h0 : (rS 41 (rCon 117)).rel H [v0] s) (h1 : Fun1 Try.prog (rCon 117) true Value.bool f_ v1 H) {r : Bool} (hF : slices_ContainsFunc_implConstraint s f_ = some r) :
 C Try.prog 62 #[v0,v1] w fun v w'=>v = Bo r∧Star H w' []:=by
 unfold slices_ContainsFunc_implConstraint at hF
 obtain ⟨fid_1,caps_1,rfl,hcall_1,hc_1⟩:=h1
 refine C_enter Try.func62 rfl Try.ntmps62 rfl (sq (aB rfl (nq ?_)))
 obtain ⟨x6,hx6,hF⟩:=bind_some hF
 refine W_region (mV v0 rfl (mV (.func (.func fid_1) #[] caps_1) rfl ?_))
 obtain ⟨H8b,l9,s10,z11,k12⟩:=hst.borrow
 refine L_call rfl Try.call107 (ops2 rfl rfl) (slices_IndexFunc_implConstraint_c (s:=s) (f_:=f_) s10 (RP.mono _ h0 l9) (Fun1.le ⟨_,_,rfl,hcall_1,hc_1⟩ l9) hx6) ?_
 rintro _ w13 ⟨rfl,hst⟩
 have hst:=k12 hst c0
 refine L_geq rfl rfl rfl (aB rfl (nn (W_ret (retG1 (v1:=Bo (decide (x6 ≥ 0))) Try.results62 rfl ?_))))
 obtain rfl:=so hF
 exact ⟨rfl,hst⟩
theorem i_within_c {n_ : Int} {low : Int} {high : Int} {H : FH} {w : World} (hst : Star H w []) {r : Bool} (hF : i_within n_ low high = some r) :
 C Try.prog 106 #[I n_,I low,I high] w fun v w'=>v = Bo r∧Star H w' []:=by
 unfold i_within at hF
 refine C_enter Try.func106 rfl Try.ntmps106 rfl (sq (aB rfl (nq ?_)))
 obtain ⟨R1,hR1⟩:=exR fun f w_=>f 6 = Bo ((decide (low≤n_)) && (decide (n_≤high)))∧Star H w_ ([])
 refine W_join R1 ?_ ?_
 refine W_region (mI rfl (mI rfl (L_leq rfl rfl rfl (mB rfl (L_split (d:=10) (b:=decide (low≤n_)) rfl (fun hc2=>?_) (fun hc2=>?_))))))
 refine mI rfl (mI rfl (L_leq rfl rfl rfl (L_pick (v:=Bo ((decide (low≤n_)) && (decide (n_≤high)))) rfl rfl (and_t hc2 rfl) (aB rfl (nn (rj hR1 ⟨rfl,hst⟩))))))
 refine ps rfl (ps rfl (ps rfl (L_pick (v:=Bo ((decide (low≤n_)) && (decide (n_≤high)))) rfl rfl (and_f hc2) (aB rfl (nn (rj hR1 ⟨rfl,hst⟩))))))
 intro f w_ hR
 obtain ⟨sf6,hst⟩:=rk hR1 hR
 refine W_ret (retG1 (v1:=Bo ((decide (low≤n_)) && (decide (n_≤high)))) Try.results106 sf6 ?_)
 obtain rfl:=so hF
 exact ⟨rfl,hst⟩
theorem i_isLiteral_c {l : Int} {H : FH} {w : World} (hst : Star H w []) {r : Bool} (hF : i_isLiteral l = some r) :
 C Try.prog 104 #[I l] w fun v w'=>v = Bo r∧Star H w' []:=by
 unfold i_isLiteral at hF
 refine C_enter Try.func104 rfl Try.ntmps104 rfl (sq (aB rfl (nq ?_)))
 obtain ⟨b8,hb8,hF⟩:=bind_some hF
 obtain ⟨R9,hR9⟩:=exR fun f w_=>f 2 = Bo b8∧Star H w_ ([])
 refine W_join R9 ?_ ?_
 refine W_region (mI rfl (L_neq rfl rfl rfl (mB rfl (L_split (d:=5) (b:=(l != 0)) rfl (fun hc10=>?_) (fun hc10=>?_)))))
 rw [ite_t hc10] at hb8
 obtain ⟨x6,hx6,hb8⟩:=bind_some hb8
 refine mI rfl ?_
 obtain ⟨H11b,l12,s13,z14,k15⟩:=hst.borrow
 refine L_call rfl Try.call106 (ops3 rfl rfl rfl) (i_within_c (n_:=l) (low:=(-12)) (high:=12) s13 hx6) ?_
 rintro _ w16 ⟨rfl,hst⟩
 have hst:=k15 hst c0
 refine L_pick (v:=Bo b8) rfl rfl (congrArg Value.bool (so hb8)) (aB rfl (nn (rj hR9 ⟨rfl,hst⟩)))
 rw [ite_f hc10] at hb8
 refine ps rfl (ps rfl (L_pick (v:=Bo b8) rfl rfl (congrArg Value.bool (so hb8)) (aB rfl (nn (rj hR9 ⟨rfl,hst⟩)))))
 intro f w_ hR
 obtain ⟨sf2,hst⟩:=rk hR9 hR
 refine W_ret (retG1 (v1:=Bo b8) Try.results104 sf2 ?_)
 obtain rfl:=so hF
 exact ⟨rfl,hst⟩
theorem i_variableOf_c {l : Int} {H : FH} {w : World} (hst : Star H w []) {r : Int} (hF : i_variableOf l = some r) :
 C Try.prog 105 #[I l] w fun v w'=>v = I r∧Star H w' []:=by
 unfold i_variableOf at hF
 refine C_enter Try.func105 rfl Try.ntmps105 rfl (sq (aI rfl (ns (mI rfl (mI rfl (L_neg rfl rfl (L_max rfl rfl rfl (aI rfl (nn (W_ret (retG1 (v1:=I (max l (i64 (-l)))) Try.results105 rfl ?_)))))))))))
 obtain rfl:=so hF
 exact ⟨rfl,hst⟩
theorem i_ConstraintValid_c {c : Con} {v0_0 : Value} {H : FH} {w : World} (hst : Star H w []) (h0_0 : (rS 117 rTerm).rel H [v0_0] c.terms) {r : Bool} (hF : i_ConstraintValid c = some r) :
 C Try.prog 61 #[.agg #[v0_0,I c.bound]] w fun v w'=>v = Bo r∧Star H w' []:=by
 unfold i_ConstraintValid at hF
 refine C_enter Try.func61 rfl Try.ntmps61 rfl (sq (L_box (v:=.agg #[v0_0,I c.bound]) (cs:=#[v0_0,I c.bound]) rfl rfl rfl hst (fun g3 w4 hst=>aB rfl (ns (aI rfl (nq (sq (fA 0 fa_41_0 rfl rfl (ldB 0 hst Try.isAgg39 rfl rfl rfl (L_len rfl Try.underlying39 rfl (slice_len h0_0) (mI rfl (nn ?_))))))))))))
 have hlen7 : List.length c.terms≤9223372036854775807:=len_le (slice_len h0_0)
 obtain ⟨j7,hL7,hF⟩:=bind_some hF
 obtain ⟨R7,hR7⟩:=exR fun f w_=>∃ before_6 : Int,j7 = .nx before_6∧f 1 = Pt g3∧Star H w_ ([box g3 41 #[v0_0,I c.bound]])
 refine W_join R7 ?_ ?_
 refine W_block ?_
 obtain ⟨I7,hI7⟩:=exI fun n f w_=>∃ i_5 : Nat,∃ suf7 : List Term,∃ before_6 : Int,n = suf7.length∧List.drop i_5 c.terms = suf7∧i_5 + suf7.length = c.terms.length∧rangeL i_ConstraintValid_b1 suf7 i_5 before_6 = some j7∧f 1 = Pt g3∧f 3 = I before_6∧f 7 = v0_0∧f 8 = I (c.terms.length : Int)∧f 9 = I i_5∧Star H w_ ([box g3 41 #[v0_0,I c.bound]])
 refine W_loop I7 (n:=c.terms.length) ?_ ?_
 exact ij hI7 ⟨0,c.terms,0,rfl,rfl,Nat.zero_add _,hL7,rfl,rfl,rfl,rfl,rfl,hst⟩
 intro n7 f w_ hI
 obtain ⟨i_5,suf7,before_6,rfl,hd7,hl7,hL7,sf1,sf3,sf7,sf8,sf9,hst⟩:=ik hI7 hI
 refine sq (L_lss rfl sf9 sf8 (nq (W_cond (b:=decide ((i_5 : Int) < (c.terms.length : Int))) rfl (fun hc8=>?_) (fun hc8=>?_))))
 have hlt7:=of_decide_eq_true hc8
 rcases suf7 with _ | ⟨x_7,rest7⟩
 exact absurd hlt7 (by simp at hl7; omega)
 obtain ⟨o7,hB7,hL7⟩:=range_cons hL7
 rw [i_ConstraintValid_b1] at hB7
 have hix7:=drop_idx hd7
 refine W_skip (W_seq (W_block (sq (L_ix (r:=rTerm) rfl Try.underlying39 Try.sizeOf117 sf7 h0_0 sf9 hix7 (fun g16 o17 cs_g16 hrk_hat18 hat18=>?_)))))
 obtain rfl:=rTerm_iff.1 hrk_hat18
 refine L_lda (cs:=[I x_7.coef,I x_7.lit]) rfl Try.isAgg117 Try.sizeOf117 rfl (At.sub (AtH.at hat18 hst.sub) 0 2) rfl (L_al (cs:=#[I 0,I 0]) rfl Try.zeroValue117 rfl hst (fun g20 w21 hst=>L_staB (vs:=#[I x_7.coef,I x_7.lit]) (cs2:=#[I x_7.coef,I x_7.lit]) 0 rfl Try.sizeOf117 rfl rfl rfl (ones_cons rfl (ones_cons rfl ones_nil)) hst rfl (by show 0 + 2≤2; decide) rfl (fun w22 hst=>nq (W_seq ?_))))
 obtain ⟨x28,hx28,hB7⟩:=bind_some hB7
 obtain ⟨b37,hb37,hB7⟩:=bind_some hB7
 obtain ⟨b45,hb45,hB7⟩:=bind_some hB7
 obtain ⟨R46,hR46⟩:=exR fun f w_=>f 1 = Pt g3∧f 5 = Pt g20∧f 7 = v0_0∧f 8 = I (c.terms.length : Int)∧f 9 = I i_5∧f 29 = Bo b45∧Star H w_ ([box g20 117 #[I x_7.coef,I x_7.lit],box g3 41 #[v0_0,I c.bound]])
 refine W_join R46 ?_ ?_
 refine W_region (fA 1 fa_117_1 rfl rfl (ldB 0 hst Try.isAgg3 rfl rfl rfl ?_))
 obtain ⟨H47b,l48,s49,z50,k51⟩:=hst.borrow
 refine L_call rfl Try.call104 (ops1 rfl) (i_isLiteral_c (l:=x_7.lit) s49 hx28) ?_
 rintro _ w52 ⟨rfl,hst⟩
 have hst:=k51 hst c0
 refine L_not_ rfl rfl (mB rfl (L_split (d:=17) (b:=(!x28)) rfl (fun hc53=>?_) (fun hc53=>?_)))
 rw [ite_t hc53] at hb37
 refine ps rfl (ps rfl (ps rfl (ps rfl (ps rfl (L_pick (v:=Bo b37) rfl rfl (congrArg Value.bool (so hb37)) (mB rfl (L_split (d:=24) (b:=b37) rfl (fun hc54=>?_) (fun hc54=>?_))))))))
 rw [ite_t hc54] at hb45
 refine ps rfl (ps rfl (ps rfl (ps rfl (L_pick (v:=Bo b45) rfl rfl (congrArg Value.bool (so hb45)) (nn (rj hR46 ⟨sf1,rfl,sf7,sf8,sf9,rfl,hst⟩))))))
 rw [ite_f hc54] at hb45
 obtain ⟨x43,hx43,hb45⟩:=bind_some hb45
 refine fA 0 fa_117_0 rfl rfl (ldB 0 hst Try.isAgg3 rfl rfl rfl ?_)
 obtain ⟨H55b,l56,s57,z58,k59⟩:=hst.borrow
 refine L_call rfl Try.call106 (ops3 rfl rfl rfl) (i_within_c (n_:=x_7.coef) (low:=1) (high:=1000) s57 hx43) ?_
 rintro _ w60 ⟨rfl,hst⟩
 have hst:=k59 hst c0
 refine L_not_ rfl rfl (L_pick (v:=Bo b45) rfl rfl (congrArg Value.bool (so hb45)) (nn (rj hR46 ⟨sf1,rfl,sf7,sf8,sf9,rfl,hst⟩)))
 rw [ite_f hc53] at hb37
 obtain ⟨x35,hx35,hb37⟩:=bind_some hb37
 refine fA 1 fa_117_1 rfl rfl (ldB 0 hst Try.isAgg3 rfl rfl rfl ?_)
 obtain ⟨H61b,l62,s63,z64,k65⟩:=hst.borrow
 refine L_call rfl Try.call105 (ops1 rfl) (i_variableOf_c (l:=x_7.lit) s63 hx35) ?_
 rintro _ w66 ⟨rfl,hst⟩
 have hst:=k65 hst c0
 refine mF sf3 rfl (L_leq rfl rfl rfl (L_pick (v:=Bo b37) rfl rfl (congrArg Value.bool (so hb37)) (mB rfl (L_split (d:=24) (b:=b37) rfl (fun hc67=>?_) (fun hc67=>?_)))))
 rw [ite_t hc67] at hb45
 refine ps rfl (ps rfl (ps rfl (ps rfl (L_pick (v:=Bo b45) rfl rfl (congrArg Value.bool (so hb45)) (nn (rj hR46 ⟨sf1,rfl,sf7,sf8,sf9,rfl,hst⟩))))))
 rw [ite_f hc67] at hb45
 obtain ⟨x43,hx43,hb45⟩:=bind_some hb45
 refine fA 0 fa_117_0 rfl rfl (ldB 0 hst Try.isAgg3 rfl rfl rfl ?_)
 obtain ⟨H68b,l69,s70,z71,k72⟩:=hst.borrow
 refine L_call rfl Try.call106 (ops3 rfl rfl rfl) (i_within_c (n_:=x_7.coef) (low:=1) (high:=1000) s70 hx43) ?_
 rintro _ w73 ⟨rfl,hst⟩
 have hst:=k72 hst c0
 refine L_not_ rfl rfl (L_pick (v:=Bo b45) rfl rfl (congrArg Value.bool (so hb45)) (nn (rj hR46 ⟨sf1,rfl,sf7,sf8,sf9,rfl,hst⟩)))
 intro f w_ hR
 obtain ⟨sf1,sf5,sf7,sf8,sf9,sf29,hst⟩:=rk hR46 hR
 refine W_cond (b:=b45) sf29 (fun hc74=>?_) (fun hc74=>?_)
 have hB7:=(ite_t hc74).symm.trans hB7
 refine sq (aB rfl (nn (W_ret (retG1 (v1:=Bo false) Try.results61 rfl ?_))))
 obtain rfl:=so hB7
 obtain rfl:=so hL7
 obtain rfl:=so hF
 exact ⟨rfl,(Star.keepN 0 hst)⟩
 have hB7:=(ite_f hc74).symm.trans hB7
 refine W_skip ?_
 obtain ⟨x80,hx80,hB7⟩:=bind_some hB7
 refine W_region (fA 1 fa_117_1 sf5 rfl (ldB 0 hst Try.isAgg3 rfl rfl rfl ?_))
 obtain ⟨H82b,l83,s84,z85,k86⟩:=hst.borrow
 refine L_call rfl Try.call105 (ops1 rfl) (i_variableOf_c (l:=x_7.lit) s84 hx80) ?_
 rintro _ w87 ⟨rfl,hst⟩
 have hst:=k86 hst c0
 refine aI rfl (nn (W_region (L_add rfl sf9 rfl (mI rfl (nn ?_)))))
 obtain rfl:=so hB7
 have hst:=hst.get 1 rfl
 show ∃ m,m < _∧I7 m _ _
 refine ⟨rest7.length,by simp,?_⟩
 exact ij hI7 ⟨i_5 + 1,rest7,x80,rfl,drop_next hd7,by simp at hl7; omega,hL7,sf1,rfl,sf7,sf8,(Eq.trans rfl (congrArg (Value.int .i64) (i64_succ (n:=c.terms.length) (by simp at hl7; omega) hlen7))),(Star.keepN 1 hst)⟩
 rcases suf7 with _ | ⟨_,_⟩
 obtain rfl:=range_nil hL7
 refine W_exit (rj hR7 ⟨before_6,rfl,sf1,hst⟩)
 exact absurd (of_decide_eq_false hc8) (by simp at hl7; omega)
 intro f w_ hR
 obtain ⟨before_6,rfl,sf1,hst⟩:=rk hR7 hR
 refine W_seq ?_
 obtain ⟨x93,hx93,hF⟩:=bind_some hF
 refine W_region (fA 1 fa_41_1 sf1 rfl (ldB 0 hst Try.isAgg3 rfl rfl rfl ?_))
 obtain ⟨H95b,l96,s97,z98,k99⟩:=hst.borrow
 refine L_call rfl Try.call106 (ops3 rfl rfl rfl) (i_within_c (n_:=c.bound) (low:=0) (high:=20000) s97 hx93) ?_
 rintro _ w100 ⟨rfl,hst⟩
 have hst:=k99 hst c0
 refine aB rfl (nn (W_ret (retG1 (v1:=Bo x93) Try.results61 rfl ?_)))
 obtain rfl:=so hF
 exact ⟨rfl,(Star.keepN 0 hst)⟩
theorem i_allValid_1_c {c : Con} {v0_0 : Value} {H : FH} {w : World} (hst : Star H w []) (h0_0 : (rS 117 rTerm).rel H [v0_0] c.terms) {r : Bool} (hF : i_allValid_1 c = some r) :
 C Try.prog 120 #[.agg #[v0_0,I c.bound]] w fun v w'=>v = Bo r∧Star H w' []:=by
 unfold i_allValid_1 at hF
 refine C_enter Try.func120 rfl Try.ntmps120 rfl (sq (L_box (v:=.agg #[v0_0,I c.bound]) (cs:=#[v0_0,I c.bound]) rfl rfl rfl hst (fun g3 w4 hst=>aB rfl (nq ?_))))
 obtain ⟨x10,hx10,hF⟩:=bind_some hF
 refine W_region (L_lda (cs:=[v0_0,I c.bound]) rfl Try.isAgg41 Try.sizeOf41 rfl (At.sub0 (Blk.at (Star.blkAt 0 hst rfl)) 0 2) rfl ?_)
 obtain ⟨H12b,l13,s14,z15,k16⟩:=hst.borrow
 refine L_call rfl Try.call61 (ops1 rfl) (i_ConstraintValid_c (c:=c) s14 (RP.mono _ h0_0 l13) hx10) ?_
 rintro _ w17 ⟨rfl,hst⟩
 have hst:=k16 hst c0
 refine L_not_ rfl rfl (aB rfl (nn (W_ret (retG1 (v1:=Bo (!x10)) Try.results120 rfl ?_))))
 obtain rfl:=so hF
 exact ⟨rfl,(Star.keepN 0 hst)⟩
theorem i_allValid_c {list : List Con} {v0 : Value} {H : FH} {w : World} (hst : Star H w []) (h0 : (rS 41 (rCon 117)).rel H [v0] list) {r : Bool} (hF : i_allValid list = some r) :
 C Try.prog 83 #[v0] w fun v w'=>v = Bo r∧Star H w' []:=by
 unfold i_allValid at hF
 refine C_enter Try.func83 rfl Try.ntmps83 rfl (sq (aB rfl (nq ?_)))
 obtain ⟨x6,hx6,hF⟩:=bind_some hF
 refine W_region (mV v0 rfl ?_)
 obtain ⟨H8b,l9,s10,z11,k12⟩:=hst.borrow
 have hf13 : Fun1 Try.prog (rCon 117) true Value.bool i_allValid_1 (.func (.func 120) #[] #[]) H8b:=by
   refine ⟨_,_,rfl,Try.call120,fun H_ w_ hE_ hs_ cs_ x_ y_ args_ hr_ hy_ ha_=>?_⟩
   obtain ⟨p_0,rfl,hp_0⟩:=rCon_iff.1 hr_
   obtain rfl:=args_of (b:=#[.agg #[p_0,I x_.bound]]) ha_
   exact i_allValid_1_c (c:=x_) hs_ hp_0 hy_
 refine L_call rfl Try.call62 (ops2 rfl rfl) (slices_ContainsFunc_implConstraint_c (s:=list) (f_:=i_allValid_1) s10 (RP.mono _ h0 l9) hf13 hx6) ?_
 rintro _ w14 ⟨rfl,hst⟩
 have hst:=k12 hst c0
 refine L_not_ rfl rfl (aB rfl (nn (W_ret (retG1 (v1:=Bo (!x6)) Try.results83 rfl ?_))))
 obtain rfl:=so hF
 exact ⟨rfl,hst⟩
theorem i_ProblemValid_c {list : List Con} {v0 : Value} {H : FH} {w : World} (hst : Star H w []) (h0 : (rS 41 (rCon 117)).rel H [v0] list) {r : Bool} (hF : i_ProblemValid list = some r) :
 C Try.prog 39 #[v0] w fun v w'=>v = Bo r∧Star H w' []:=by
 unfold i_ProblemValid at hF
 refine C_enter Try.func39 rfl Try.ntmps39 rfl (sq (aB rfl (nq ?_)))
 obtain ⟨b8,hb8,hF⟩:=bind_some hF
 obtain ⟨R9,hR9⟩:=exR fun f w_=>f 2 = Bo b8∧Star H w_ ([])
 refine W_join R9 ?_ ?_
 refine W_region (mV v0 rfl (L_len rfl Try.underlying27 rfl (slice_len h0) (L_leq rfl rfl rfl (mB rfl (L_split (d:=6) (b:=decide ((list.length : Int)≤400)) rfl (fun hc10=>?_) (fun hc10=>?_))))))
 rw [ite_t hc10] at hb8
 obtain ⟨x6,hx6,hb8⟩:=bind_some hb8
 refine mV v0 rfl ?_
 obtain ⟨H11b,l12,s13,z14,k15⟩:=hst.borrow
 refine L_call rfl Try.call83 (ops1 rfl) (i_allValid_c (list:=list) s13 (RP.mono _ h0 l12) hx6) ?_
 rintro _ w16 ⟨rfl,hst⟩
 have hst:=k15 hst c0
 refine L_pick (v:=Bo b8) rfl rfl (congrArg Value.bool (so hb8)) (aB rfl (nn (rj hR9 ⟨rfl,hst⟩)))
 rw [ite_f hc10] at hb8
 refine ps rfl (ps rfl (L_pick (v:=Bo b8) rfl rfl (congrArg Value.bool (so hb8)) (aB rfl (nn (rj hR9 ⟨rfl,hst⟩)))))
 intro f w_ hR
 obtain ⟨sf2,hst⟩:=rk hR9 hR
 refine W_ret (retG1 (v1:=Bo b8) Try.results39 sf2 ?_)
 obtain rfl:=so hF
 exact ⟨rfl,hst⟩
theorem slices_Clone_implConstraint_c {s : List Con} {v0 : Value} {H : FH} {w : World} {R : List Ass} (hst : Star H w R) (h0 : (rS 41 (rCon 117)).rel H [v0] s) {r : List Con} (hF : slices_Clone_implConstraint s = some r) :
 C Try.prog 102 #[v0] w fun v w'=>∃ H' : FH,Le H H'∧∃ (u1 : Value),v = u1∧Star H' w' (oF 41 (rCon 117) u1 r :: R):=by
 unfold slices_Clone_implConstraint at hF
 refine C_enter Try.func102 rfl Try.ntmps102 rfl (sq (aV S0 rfl (nq (sq (mV v0 rfl ?_)))))
 obtain ⟨a1,cap1,hsl1,_,_⟩:=(slice_len h0)
 refine L_nileq (a:=a1) rfl Try.underlying27 (Eq.trans rfl hsl1) rfl ?_
 rw [← hsl1]
 refine nn ?_
 rcases Bool.eq_false_or_eq_true (isNilS v0) with hn2 | hn2
 refine W_cond (b:=true) (Eq.trans rfl (congrArg Value.bool hn2)) (fun _=>?_) (fun h=>nomatch h)
 obtain rfl:=nil_of h0 hn2
 refine sq (aV S0 rfl (nn (W_ret (retG1 (v1:=S0) Try.results102 rfl ?_))))
 simp [app] at hF
 subst hF
 have hst:=Star.addNil (R:=(OR.frz (rCon 117))) (e:=41) hst
 exact ⟨H,(Le.refl _),S0,rfl,hst⟩
 refine W_cond (b:=false) (Eq.trans rfl (congrArg Value.bool hn2)) (fun h=>nomatch h) (fun _=>?_)
 refine W_skip (W_seq ?_)
 obtain ⟨x7,hx7,hF⟩:=bind_some hF
 refine W_region (L_bs rfl parts0 (bs_27_0  ) hst (fun g11 w12 hst=>?_))
 have hst:=Star.mkRow (R:=(OR.frz (rCon 117))) [] [] 0 hst rfl rfl rfl (by decide)
 refine mV v0 rfl (L_app (v:=(Sl g11 0 0)) (u:=v0) rfl et_27 rfl rfl hst h0 hx7 (fun v14 w15 hst=>aV v14 rfl (nn (W_ret (retG1 (v1:=v14) Try.results102 rfl ?_)))))
 obtain rfl:=so hF
 exact ⟨H,(Le.refl _),v14,rfl,hst⟩
theorem i_running_left_c {r_ : Db} {g_0 : Nat} {v0_0 : Value} {v0_1 : Value} {H : FH} {w : World} {R : List Ass} (hst : Star H w (box g_0 115 #[v0_0,v0_1] :: oF 41 (rCon 117) v0_0 r_.list :: oF 4 RP.bool v0_1 r_.gone :: R)) {r : List Con} (hF : i_running_left r_ = some r) :
 C Try.prog 63 #[Pt g_0] w fun v w'=>∃ H' : FH,Le H H'∧∃ (u1 : Value),v = u1∧Star H' w' (oF 41 (rCon 117) u1 r :: box g_0 115 #[v0_0,v0_1] :: oF 41 (rCon 117) v0_0 r_.list :: oF 4 RP.bool v0_1 r_.gone :: R):=by
 unfold i_running_left at hF
 refine C_enter Try.func63 rfl Try.ntmps63 rfl (sq (aV S0 rfl (ns (aV S0 rfl (nq (sq (mV (Pt g_0) rfl (L_nc rfl rfl (fA 0 fa_115_0 rfl rfl (ldB 0 hst Try.isAgg27 rfl rfl rfl (L_len rfl Try.underlying27 rfl (Star.len 1 hst rfl) (mI rfl (nn ?_)))))))))))))
 have hlen4 : List.length r_.list≤9223372036854775807:=len_le (Star.len 1 hst rfl)
 obtain ⟨j4,hL4,hF⟩:=bind_some hF
 obtain ⟨R4,hR4⟩:=exR fun f w_=>∃ out_2 : List Con,∃ v2_out : Value,j4 = .nx out_2∧f 3 = v2_out∧Star H w_ (oF 41 (rCon 117) v2_out out_2 :: oF 41 (rCon 117) v0_0 r_.list :: oF 4 RP.bool v0_1 r_.gone :: box g_0 115 #[v0_0,v0_1] :: R)
 refine W_join R4 ?_ ?_
 refine W_block ?_
 obtain ⟨I4,hI4⟩:=exI fun n f w_=>∃ i_1 : Nat,∃ suf4 : List Con,∃ out_2 : List Con,∃ v2_out : Value,n = suf4.length∧List.drop i_1 r_.list = suf4∧i_1 + suf4.length = r_.list.length∧rangeL (i_running_left_b1 r_) suf4 i_1 out_2 = some j4∧f 0 = Pt g_0∧f 3 = v2_out∧f 9 = v0_0∧f 10 = I (r_.list.length : Int)∧f 11 = I i_1∧Star H w_ (oF 41 (rCon 117) v2_out out_2 :: oF 41 (rCon 117) v0_0 r_.list :: oF 4 RP.bool v0_1 r_.gone :: box g_0 115 #[v0_0,v0_1] :: R)
 have hst:=Star.addNil (R:=(OR.frz (rCon 117))) (e:=41) hst
 have hst:=hst.gets [1,3,3,3] rfl
 refine W_loop I4 (n:=r_.list.length) ?_ ?_
 exact ij hI4 ⟨0,r_.list,[],S0,rfl,rfl,Nat.zero_add _,hL4,rfl,rfl,rfl,rfl,rfl,hst⟩
 intro n4 f w_ hI
 obtain ⟨i_1,suf4,out_2,v2_out,rfl,hd4,hl4,hL4,sf0,sf3,sf9,sf10,sf11,hst⟩:=ik hI4 hI
 refine sq (L_lss rfl sf11 sf10 (nq (W_cond (b:=decide ((i_1 : Int) < (r_.list.length : Int))) rfl (fun hc6=>?_) (fun hc6=>?_))))
 have hlt4:=of_decide_eq_true hc6
 rcases suf4 with _ | ⟨x_4,rest4⟩
 exact absurd hlt4 (by simp at hl4; omega)
 obtain ⟨o4,hB4,hL4⟩:=range_cons hL4
 rw [i_running_left_b1] at hB4
 have hix4:=drop_idx hd4
 refine W_skip (W_seq (W_block (sq (mF sf11 rfl ?_))))
 obtain ⟨g14,cap_g14,hv15,_,_⟩:=Star.row 1 hst rfl hix4
 refine L_ixO (R:=(OR.frz (rCon 117))) (tb:=0) 0 rfl Try.underlying27 Try.sizeOf41 sf9 hv15 (by first | rfl | simp) sf11 hix4 ?_
 obtain ⟨cs16,hr16,hat16⟩:=Star.eltF 1 hst rfl hv15 hix4
 obtain ⟨u17_0,rfl,hu17_0⟩:=rCon_iff.1 hr16
 refine L_lda (cs:=[u17_0,I x_4.bound]) rfl Try.isAgg41 Try.sizeOf41 rfl (At.sub hat16 0 2) rfl (L_al (cs:=#[S0,I 0]) rfl Try.zeroValue41 rfl hst (fun g18 w19 hst=>aI rfl (L_staB (vs:=#[u17_0,I x_4.bound]) (cs2:=#[u17_0,I x_4.bound]) 0 rfl Try.sizeOf41 rfl rfl rfl (ones_cons (one_len (slice_len hu17_0)) (ones_cons rfl ones_nil)) hst rfl (by show 0 + 2≤2; decide) rfl (fun w20 hst=>nq ?_))))
 obtain ⟨x21,hx21,hB4⟩:=bind_some hB4
 refine W_region (mF sf0 rfl (L_nc rfl rfl (fA 1 fa_115_1 rfl rfl (ldB 4 hst Try.isAgg49 rfl rfl rfl (mI rfl ?_)))))
 obtain ⟨g26,cap_g26,hv27,_,_⟩:=Star.row 3 hst rfl hx21
 refine L_ixO (R:=(OR.frz RP.bool)) (tb:=0) 0 rfl Try.underlying49 Try.sizeOf4 rfl hv27 (by first | rfl | simp) rfl hx21 ?_
 obtain ⟨cs28,hr28,hat28⟩:=Star.eltF 3 hst rfl hv27 hx21
 obtain rfl : _ = [_]:=hr28
 refine L_ld rfl Try.isAgg4 rfl (At.cell hat28 (j:=0) rfl) (L_not_ rfl rfl (nn ?_))
 obtain ⟨out_30,hA32,hB4⟩:=bind_some hB4
 obtain ⟨R32,hR32⟩:=exR fun f w_=>∃ v30_out : Value,f 0 = Pt g_0∧f 3 = v30_out∧f 9 = v0_0∧f 10 = I (r_.list.length : Int)∧f 11 = I i_1∧Star H w_ (oF 41 (rCon 117) v30_out out_30 :: oF 41 (rCon 117) v0_0 r_.list :: oF 4 RP.bool v0_1 r_.gone :: box g_0 115 #[v0_0,v0_1] :: R)
 refine W_join R32 ?_ ?_
 refine W_cond (b:=(!x21)) rfl (fun hc33=>?_) (fun hc33=>?_)
 have hA32:=(ite_t hc33).symm.trans hA32
 obtain ⟨x37,hx37,hA32⟩:=bind_some hA32
 refine W_region (mF sf3 rfl (L_lda (cs:=[u17_0,I x_4.bound]) rfl Try.isAgg41 Try.sizeOf41 rfl (At.sub0 (Blk.at (Star.blkAt 0 hst rfl)) 0 2) rfl (L_bs rfl (parts1 rfl) (bs_27_1_2 (u17_0) (I x_4.bound) ) hst (fun g41 w42 hst=>?_))))
 have hst:=Star.addF (r:=(rCon 117)) (cs:=[u17_0,I x_4.bound]) (x:=x_4) hst (rCon_iff.2 ⟨_,rfl,hu17_0⟩)
 have hst:=Star.mkRow (R:=(OR.frz (rCon 117))) [([u17_0,I x_4.bound],x_4)] [x_4] 1 hst rfl rfl rfl (by decide)
 have hst:=hst.get 2 rfl
 refine L_appM (v:=v2_out) (u:=(Sl g41 1 1)) rfl et_27 rfl rfl hst hx37 (fun v44 w45 hst=>aV v44 rfl (nn ?_))
 obtain rfl:=so hA32
 have hst:=hst.gets [4,4,4,3] rfl
 have hst:=Star.drop 4 hst rfl
 exact rj hR32 ⟨v44,sf0,rfl,sf9,sf10,sf11,hst⟩
 have hA32:=(ite_f hc33).symm.trans hA32
 refine W_skip ?_
 obtain rfl:=so hA32
 have hst:=hst.gets [4,4,4,4] rfl
 have hst:=Star.drop 4 hst rfl
 exact rj hR32 ⟨v2_out,sf0,sf3,sf9,sf10,sf11,hst⟩
 intro f w_ hR
 obtain ⟨v30_out,sf0,sf3,sf9,sf10,sf11,hst⟩:=rk hR32 hR
 refine W_region (L_add rfl sf11 rfl (mI rfl (nn ?_)))
 obtain rfl:=so hB4
 show ∃ m,m < _∧I4 m _ _
 refine ⟨rest4.length,by simp,?_⟩
 exact ij hI4 ⟨i_1 + 1,rest4,out_30,v30_out,rfl,drop_next hd4,by simp at hl4; omega,hL4,sf0,sf3,sf9,sf10,(Eq.trans rfl (congrArg (Value.int .i64) (i64_succ (n:=r_.list.length) (by simp at hl4; omega) hlen4))),hst⟩
 rcases suf4 with _ | ⟨_,_⟩
 obtain rfl:=range_nil hL4
 refine W_exit (rj hR4 ⟨out_2,v2_out,rfl,sf3,hst⟩)
 exact absurd (of_decide_eq_false hc6) (by simp at hl4; omega)
 intro f w_ hR
 obtain ⟨out_2,v2_out,rfl,sf3,hst⟩:=rk hR4 hR
 refine sq (mF sf3 rfl (aV v2_out rfl (nn (W_ret (retG1 (v1:=v2_out) Try.results63 rfl ?_)))))
 obtain rfl:=so hF
 have hst:=hst.gets [2,2,3,3] rfl
 exact ⟨H,(Le.refl _),v2_out,rfl,hst⟩
theorem slices_Clone_int_c {s : List Int} {v0 : Value} {H : FH} {w : World} (hst : Star H w []) (h0 : (rS 3 RP.int).rel H [v0] s) {r : List Int} (hF : slices_Clone_int s = some r) :
 C Try.prog 136 #[v0] w fun v w'=>∃ (u1 : Value),v = u1∧Star H w' [oF 3 RP.int u1 r]:=by
 unfold slices_Clone_int at hF
 refine C_enter Try.func136 rfl Try.ntmps136 rfl (sq (aV S0 rfl (nq (sq (mV v0 rfl ?_)))))
 obtain ⟨a1,cap1,hsl1,_,_⟩:=(slice_len h0)
 refine L_nileq (a:=a1) rfl Try.underlying105 (Eq.trans rfl hsl1) rfl ?_
 rw [← hsl1]
 refine nn ?_
 rcases Bool.eq_false_or_eq_true (isNilS v0) with hn2 | hn2
 refine W_cond (b:=true) (Eq.trans rfl (congrArg Value.bool hn2)) (fun _=>?_) (fun h=>nomatch h)
 obtain rfl:=nil_of h0 hn2
 refine sq (aV S0 rfl (nn (W_ret (retG1 (v1:=S0) Try.results136 rfl ?_))))
 simp [app] at hF
 subst hF
 have hst:=Star.addNil (R:=(OR.frz RP.int)) (e:=3) hst
 exact ⟨S0,rfl,hst⟩
 refine W_cond (b:=false) (Eq.trans rfl (congrArg Value.bool hn2)) (fun h=>nomatch h) (fun _=>?_)
 refine W_skip (W_seq ?_)
 obtain ⟨x7,hx7,hF⟩:=bind_some hF
 refine W_region (L_bs rfl parts0 (bs_105_0  ) hst (fun g11 w12 hst=>?_))
 have hst:=Star.mkRow (R:=(OR.frz RP.int)) [] [] 0 hst rfl rfl rfl (by decide)
 refine mV v0 rfl (L_app (v:=(Sl g11 0 0)) (u:=v0) rfl et_105 rfl rfl hst h0 hx7 (fun v14 w15 hst=>aV v14 rfl (nn (W_ret (retG1 (v1:=v14) Try.results136 rfl ?_)))))
 obtain rfl:=so hF
 exact ⟨v14,rfl,hst⟩
theorem i_under_c {l : Int} {p : List Int} {v1 : Value} {H : FH} {w : World} (hst : Star H w []) (h1 : (rS 3 RP.int).rel H [v1] p) {r : Int} (hF : i_under l p = some r) :
 C Try.prog 152 #[I l,v1] w fun v w'=>v = I r∧Star H w' []:=by
 unfold i_under at hF
 refine C_enter Try.func152 rfl Try.ntmps152 rfl (sq (aI rfl (nq (sq (mI rfl (L_lss rfl rfl rfl (nn (W_cond (b:=decide (l < 0)) rfl (fun hc1=>?_) (fun hc1=>?_)))))))))
 have hF:=(ite_t hc1).symm.trans hF
 refine W_seq ?_
 obtain ⟨x2,hx2,hF⟩:=bind_some hF
 refine W_region (mV v1 rfl (mI rfl (L_neg rfl rfl (L_sub rfl rfl rfl (L_ix (r:=RP.int) rfl Try.underlying105 Try.sizeOf3 rfl h1 rfl hx2 (fun g7 o8 cs_g7 hrk_hat9 hat9=>?_))))))
 obtain rfl : _ = [_]:=hrk_hat9
 refine L_ld rfl Try.isAgg3 rfl (At.cell (AtH.at hat9 hst.sub) (j:=0) rfl) (L_neg rfl rfl (aI rfl (nn (W_ret (retG1 (v1:=I (i64 (-x2))) Try.results152 rfl ?_)))))
 obtain rfl:=so hF
 exact ⟨rfl,hst⟩
 have hF:=(ite_f hc1).symm.trans hF
 refine W_skip (W_seq ?_)
 obtain ⟨x11,hx11,hF⟩:=bind_some hF
 refine W_region (mV v1 rfl (mI rfl (L_sub rfl rfl rfl (L_ix (r:=RP.int) rfl Try.underlying105 Try.sizeOf3 rfl h1 rfl hx11 (fun g16 o17 cs_g16 hrk_hat18 hat18=>?_)))))
 obtain rfl : _ = [_]:=hrk_hat18
 refine L_ld rfl Try.isAgg3 rfl (At.cell (AtH.at hat18 hst.sub) (j:=0) rfl) (aI rfl (nn (W_ret (retG1 (v1:=I x11) Try.results152 rfl ?_))))
 obtain rfl:=so hF
 exact ⟨rfl,hst⟩
theorem i_Constraint_slack_c {c : Con} {p : List Int} {v0_0 : Value} {v1 : Value} {H : FH} {w : World} (hst : Star H w []) (h0_0 : (rS 117 rTerm).rel H [v0_0] c.terms) (h1 : (rS 3 RP.int).rel H [v1] p) {r : Int} (hF : i_Constraint_slack c p = some r) :
 C Try.prog 137 #[.agg #[v0_0,I c.bound],v1] w fun v w'=>v = I r∧Star H w' []:=by
 unfold i_Constraint_slack at hF
 refine C_enter Try.func137 rfl Try.ntmps137 rfl (sq (L_box (v:=.agg #[v0_0,I c.bound]) (cs:=#[v0_0,I c.bound]) rfl rfl rfl hst (fun g3 w4 hst=>aI rfl (ns (fA 1 fa_41_1 rfl rfl (ldB 0 hst Try.isAgg3 rfl rfl rfl (L_neg rfl rfl (aI rfl (nq (sq (fA 0 fa_41_0 rfl rfl (ldB 0 hst Try.isAgg39 rfl rfl rfl (L_len rfl Try.underlying39 rfl (slice_len h0_0) (mI rfl (nn ?_)))))))))))))))
 have hlen7 : List.length c.terms≤9223372036854775807:=len_le (slice_len h0_0)
 obtain ⟨j7,hL7,hF⟩:=bind_some hF
 obtain ⟨R7,hR7⟩:=exR fun f w_=>∃ out_6 : Int,j7 = .nx out_6∧f 5 = I out_6∧Star H w_ ([])
 refine W_join R7 ?_ ?_
 refine W_block ?_
 obtain ⟨I7,hI7⟩:=exI fun n f w_=>∃ i_5 : Nat,∃ suf7 : List Term,∃ out_6 : Int,n = suf7.length∧List.drop i_5 c.terms = suf7∧i_5 + suf7.length = c.terms.length∧rangeL (i_Constraint_slack_b1 p) suf7 i_5 out_6 = some j7∧f 1 = v1∧f 5 = I out_6∧f 12 = v0_0∧f 13 = I (c.terms.length : Int)∧f 14 = I i_5∧Star H w_ ([])
 refine W_loop I7 (n:=c.terms.length) ?_ ?_
 exact ij hI7 ⟨0,c.terms,i64 (-c.bound),rfl,rfl,Nat.zero_add _,hL7,rfl,rfl,rfl,rfl,rfl,(Star.keepN 0 hst)⟩
 intro n7 f w_ hI
 obtain ⟨i_5,suf7,out_6,rfl,hd7,hl7,hL7,sf1,sf5,sf12,sf13,sf14,hst⟩:=ik hI7 hI
 refine sq (L_lss rfl sf14 sf13 (nq (W_cond (b:=decide ((i_5 : Int) < (c.terms.length : Int))) rfl (fun hc8=>?_) (fun hc8=>?_))))
 have hlt7:=of_decide_eq_true hc8
 rcases suf7 with _ | ⟨x_7,rest7⟩
 exact absurd hlt7 (by simp at hl7; omega)
 obtain ⟨o7,hB7,hL7⟩:=range_cons hL7
 rw [i_Constraint_slack_b1] at hB7
 have hix7:=drop_idx hd7
 refine W_skip (W_seq (W_block (sq (L_ix (r:=rTerm) rfl Try.underlying39 Try.sizeOf117 sf12 h0_0 sf14 hix7 (fun g16 o17 cs_g16 hrk_hat18 hat18=>?_)))))
 obtain rfl:=rTerm_iff.1 hrk_hat18
 refine L_lda (cs:=[I x_7.coef,I x_7.lit]) rfl Try.isAgg117 Try.sizeOf117 rfl (At.sub (AtH.at hat18 hst.sub) 0 2) rfl (L_al (cs:=#[I 0,I 0]) rfl Try.zeroValue117 rfl hst (fun g20 w21 hst=>L_staB (vs:=#[I x_7.coef,I x_7.lit]) (cs2:=#[I x_7.coef,I x_7.lit]) 0 rfl Try.sizeOf117 rfl rfl rfl (ones_cons rfl (ones_cons rfl ones_nil)) hst rfl (by show 0 + 2≤2; decide) rfl (fun w22 hst=>nq ?_)))
 obtain ⟨x28,hx28,hB7⟩:=bind_some hB7
 refine W_region (fA 1 fa_117_1 rfl rfl (ldB 0 hst Try.isAgg3 rfl rfl rfl (mF sf1 rfl ?_)))
 obtain ⟨H30b,l31,s32,z33,k34⟩:=hst.borrow
 refine L_call rfl Try.call152 (ops2 rfl rfl) (i_under_c (l:=x_7.lit) (p:=p) s32 (RP.mono _ h1 l31) hx28) ?_
 rintro _ w35 ⟨rfl,hst⟩
 have hst:=k34 hst c0
 refine L_geq rfl rfl rfl (nn ?_)
 obtain ⟨out_36,hA37,hB7⟩:=bind_some hB7
 obtain ⟨R37,hR37⟩:=exR fun f w_=>f 1 = v1∧f 5 = I out_36∧f 12 = v0_0∧f 13 = I (c.terms.length : Int)∧f 14 = I i_5∧Star H w_ ([])
 refine W_join R37 ?_ ?_
 refine W_cond (b:=decide (x28 ≥ 0)) rfl (fun hc38=>?_) (fun hc38=>?_)
 have hA37:=(ite_t hc38).symm.trans hA37
 refine W_region (mF sf5 rfl (fA 0 fa_117_0 rfl rfl (ldB 0 hst Try.isAgg3 rfl rfl rfl (L_add rfl rfl rfl (aI rfl (nn ?_))))))
 obtain rfl:=so hA37
 exact rj hR37 ⟨sf1,rfl,sf12,sf13,sf14,(Star.keepN 0 hst)⟩
 have hA37:=(ite_f hc38).symm.trans hA37
 refine W_skip ?_
 obtain rfl:=so hA37
 exact rj hR37 ⟨sf1,sf5,sf12,sf13,sf14,(Star.keepN 0 hst)⟩
 intro f w_ hR
 obtain ⟨sf1,sf5,sf12,sf13,sf14,hst⟩:=rk hR37 hR
 refine W_region (L_add rfl sf14 rfl (mI rfl (nn ?_)))
 obtain rfl:=so hB7
 show ∃ m,m < _∧I7 m _ _
 refine ⟨rest7.length,by simp,?_⟩
 exact ij hI7 ⟨i_5 + 1,rest7,out_36,rfl,drop_next hd7,by simp at hl7; omega,hL7,sf1,sf5,sf12,sf13,(Eq.trans rfl (congrArg (Value.int .i64) (i64_succ (n:=c.terms.length) (by simp at hl7; omega) hlen7))),hst⟩
 rcases suf7 with _ | ⟨_,_⟩
 obtain rfl:=range_nil hL7
 refine W_exit (rj hR7 ⟨out_6,rfl,sf5,hst⟩)
 exact absurd (of_decide_eq_false hc8) (by simp at hl7; omega)
 intro f w_ hR
 obtain ⟨out_6,rfl,sf5,hst⟩:=rk hR7 hR
 refine sq (mF sf5 rfl (aI rfl (nn (W_ret (retG1 (v1:=I out_6) Try.results137 rfl ?_)))))
 obtain rfl:=so hF
 exact ⟨rfl,hst⟩
theorem i_Constraint_implied_c {c : Con} {p : List Int} {v0_0 : Value} {v1 : Value} {H : FH} {w : World} (hst : Star H w []) (h0_0 : (rS 117 rTerm).rel H [v0_0] c.terms) (h1 : (rS 3 RP.int).rel H [v1] p) {r : List Int} (hF : i_Constraint_implied c p = some r) :
 C Try.prog 138 #[.agg #[v0_0,I c.bound],v1] w fun v w'=>∃ (u1 : Value),v = u1∧Star H w' [oF 3 RP.int u1 r]:=by
 unfold i_Constraint_implied at hF
 refine C_enter Try.func138 rfl Try.ntmps138 rfl (sq (L_box (v:=.agg #[v0_0,I c.bound]) (cs:=#[v0_0,I c.bound]) rfl rfl rfl hst (fun g3 w4 hst=>aV S0 rfl (nq ?_))))
 obtain ⟨x10,hx10,hF⟩:=bind_some hF
 refine W_region (L_lda (cs:=[v0_0,I c.bound]) rfl Try.isAgg41 Try.sizeOf41 rfl (At.sub0 (Blk.at (Star.blkAt 0 hst rfl)) 0 2) rfl (mV v1 rfl ?_))
 obtain ⟨H12b,l13,s14,z15,k16⟩:=hst.borrow
 refine L_call rfl Try.call137 (ops2 rfl rfl) (i_Constraint_slack_c (c:=c) (p:=p) s14 (RP.mono _ h0_0 l13) (RP.mono _ h1 l13) hx10) ?_
 rintro _ w17 ⟨rfl,hst⟩
 have hst:=k16 hst c0
 refine aI rfl (ns (aV S0 rfl (nq (sq (fA 0 fa_41_0 rfl rfl (ldB 0 hst Try.isAgg39 rfl rfl rfl (L_len rfl Try.underlying39 rfl (slice_len h0_0) (mI rfl (nn ?_)))))))))
 have hlen21 : List.length c.terms≤9223372036854775807:=len_le (slice_len h0_0)
 obtain ⟨j21,hL21,hF⟩:=bind_some hF
 obtain ⟨R21,hR21⟩:=exR fun f w_=>∃ out_19 : List Int,∃ v19_out : Value,j21 = .nx out_19∧f 6 = v19_out∧Star H w_ ([oF 3 RP.int v19_out out_19])
 refine W_join R21 ?_ ?_
 refine W_block ?_
 obtain ⟨I21,hI21⟩:=exI fun n f w_=>∃ i_18 : Nat,∃ suf21 : List Term,∃ out_19 : List Int,∃ v19_out : Value,n = suf21.length∧List.drop i_18 c.terms = suf21∧i_18 + suf21.length = c.terms.length∧rangeL (i_Constraint_implied_b1 p x10) suf21 i_18 out_19 = some j21∧f 1 = v1∧f 5 = I x10∧f 6 = v19_out∧f 13 = v0_0∧f 14 = I (c.terms.length : Int)∧f 15 = I i_18∧Star H w_ ([oF 3 RP.int v19_out out_19])
 have hst:=Star.addNil (R:=(OR.frz RP.int)) (e:=3) hst
 refine W_loop I21 (n:=c.terms.length) ?_ ?_
 exact ij hI21 ⟨0,c.terms,[],S0,rfl,rfl,Nat.zero_add _,hL21,rfl,rfl,rfl,rfl,rfl,rfl,(Star.keepN 1 hst)⟩
 intro n21 f w_ hI
 obtain ⟨i_18,suf21,out_19,v19_out,rfl,hd21,hl21,hL21,sf1,sf5,sf6,sf13,sf14,sf15,hst⟩:=ik hI21 hI
 refine sq (L_lss rfl sf15 sf14 (nq (W_cond (b:=decide ((i_18 : Int) < (c.terms.length : Int))) rfl (fun hc23=>?_) (fun hc23=>?_))))
 have hlt21:=of_decide_eq_true hc23
 rcases suf21 with _ | ⟨x_21,rest21⟩
 exact absurd hlt21 (by simp at hl21; omega)
 obtain ⟨o21,hB21,hL21⟩:=range_cons hL21
 rw [i_Constraint_implied_b1] at hB21
 have hix21:=drop_idx hd21
 refine W_skip (W_seq (W_block (sq (L_ix (r:=rTerm) rfl Try.underlying39 Try.sizeOf117 sf13 h0_0 sf15 hix21 (fun g31 o32 cs_g31 hrk_hat33 hat33=>?_)))))
 obtain rfl:=rTerm_iff.1 hrk_hat33
 refine L_lda (cs:=[I x_21.coef,I x_21.lit]) rfl Try.isAgg117 Try.sizeOf117 rfl (At.sub (AtH.at hat33 hst.sub) 0 2) rfl (L_al (cs:=#[I 0,I 0]) rfl Try.zeroValue117 rfl hst (fun g35 w36 hst=>L_staB (vs:=#[I x_21.coef,I x_21.lit]) (cs2:=#[I x_21.coef,I x_21.lit]) 0 rfl Try.sizeOf117 rfl rfl rfl (ones_cons rfl (ones_cons rfl ones_nil)) hst rfl (by show 0 + 2≤2; decide) rfl (fun w37 hst=>nq ?_)))
 obtain ⟨x43,hx43,hB21⟩:=bind_some hB21
 obtain ⟨R45,hR45⟩:=exR fun f w_=>f 1 = v1∧f 5 = I x10∧f 6 = v19_out∧f 8 = Pt g35∧f 13 = v0_0∧f 14 = I (c.terms.length : Int)∧f 15 = I i_18∧f 29 = Bo ((x43 == 0) && (decide (x_21.coef > x10)))∧Star H w_ ([oF 3 RP.int v19_out out_19,box g35 117 #[I x_21.coef,I x_21.lit]])
 refine W_join R45 ?_ ?_
 refine W_region (fA 1 fa_117_1 rfl rfl (ldB 0 hst Try.isAgg3 rfl rfl rfl (mF sf1 rfl ?_)))
 obtain ⟨H46b,l47,s48,z49,k50⟩:=hst.borrow
 refine L_call rfl Try.call152 (ops2 rfl rfl) (i_under_c (l:=x_21.lit) (p:=p) s48 (RP.mono _ h1 l47) hx43) ?_
 rintro _ w51 ⟨rfl,hst⟩
 have hst:=k50 hst c0
 refine L_eql rfl rfl rfl (mB rfl (L_split (d:=24) (b:=(x43 == 0)) rfl (fun hc52=>?_) (fun hc52=>?_)))
 refine fA 0 fa_117_0 rfl rfl (ldB 0 hst Try.isAgg3 rfl rfl rfl (mF sf5 rfl (L_gtr rfl rfl rfl (L_pick (v:=Bo ((x43 == 0) && (decide (x_21.coef > x10)))) rfl rfl (and_t hc52 rfl) (nn ?_)))))
 have hst:=hst.get 1 rfl
 exact rj hR45 ⟨sf1,sf5,sf6,rfl,sf13,sf14,sf15,rfl,hst⟩
 refine ps rfl (ps rfl (ps rfl (ps rfl (L_pick (v:=Bo ((x43 == 0) && (decide (x_21.coef > x10)))) rfl rfl (and_f hc52) (nn ?_)))))
 have hst:=hst.get 1 rfl
 exact rj hR45 ⟨sf1,sf5,sf6,rfl,sf13,sf14,sf15,rfl,hst⟩
 intro f w_ hR
 obtain ⟨sf1,sf5,sf6,sf8,sf13,sf14,sf15,sf29,hst⟩:=rk hR45 hR
 obtain ⟨out_53,hA55,hB21⟩:=bind_some hB21
 obtain ⟨R55,hR55⟩:=exR fun f w_=>∃ v53_out : Value,f 1 = v1∧f 5 = I x10∧f 6 = v53_out∧f 13 = v0_0∧f 14 = I (c.terms.length : Int)∧f 15 = I i_18∧Star H w_ ([oF 3 RP.int v53_out out_53])
 refine W_join R55 ?_ ?_
 refine W_cond (b:=((x43 == 0) && (decide (x_21.coef > x10)))) sf29 (fun hc56=>?_) (fun hc56=>?_)
 have hA55:=(ite_t hc56).symm.trans hA55
 obtain ⟨x60,hx60,hA55⟩:=bind_some hA55
 refine W_region (mF sf6 rfl (fA 1 fa_117_1 sf8 rfl (ldB 1 hst Try.isAgg3 rfl rfl rfl (L_bs rfl (parts1 rfl) (bs_105_1_0 (I x_21.lit) rfl) hst (fun g64 w65 hst=>?_)))))
 have hst:=Star.addF (r:=RP.int) (cs:=[I x_21.lit]) (x:=x_21.lit) hst rfl
 have hst:=Star.mkRow (R:=(OR.frz RP.int)) [([I x_21.lit],x_21.lit)] [x_21.lit] 1 hst rfl rfl rfl (by decide)
 have hst:=hst.get 1 rfl
 refine L_appM (v:=v19_out) (u:=(Sl g64 1 1)) rfl et_105 rfl rfl hst hx60 (fun v67 w68 hst=>aV v67 rfl (nn ?_))
 obtain rfl:=so hA55
 exact rj hR55 ⟨v67,sf1,sf5,rfl,sf13,sf14,sf15,(Star.keepN 1 hst)⟩
 have hA55:=(ite_f hc56).symm.trans hA55
 refine W_skip ?_
 obtain rfl:=so hA55
 exact rj hR55 ⟨v19_out,sf1,sf5,sf6,sf13,sf14,sf15,(Star.keepN 1 hst)⟩
 intro f w_ hR
 obtain ⟨v53_out,sf1,sf5,sf6,sf13,sf14,sf15,hst⟩:=rk hR55 hR
 refine W_region (L_add rfl sf15 rfl (mI rfl (nn ?_)))
 obtain rfl:=so hB21
 show ∃ m,m < _∧I21 m _ _
 refine ⟨rest21.length,by simp,?_⟩
 exact ij hI21 ⟨i_18 + 1,rest21,out_53,v53_out,rfl,drop_next hd21,by simp at hl21; omega,hL21,sf1,sf5,sf6,sf13,sf14,(Eq.trans rfl (congrArg (Value.int .i64) (i64_succ (n:=c.terms.length) (by simp at hl21; omega) hlen21))),hst⟩
 rcases suf21 with _ | ⟨_,_⟩
 obtain rfl:=range_nil hL21
 refine W_exit (rj hR21 ⟨out_19,v19_out,rfl,sf6,hst⟩)
 exact absurd (of_decide_eq_false hc23) (by simp at hl21; omega)
 intro f w_ hR
 obtain ⟨out_19,v19_out,rfl,sf6,hst⟩:=rk hR21 hR
 refine sq (mF sf6 rfl (aV v19_out rfl (nn (W_ret (retG1 (v1:=v19_out) Try.results138 rfl ?_)))))
 obtain rfl:=so hF
 exact ⟨v19_out,rfl,hst⟩
theorem i_propagate_c {fu : Nat} {list : List Con} {p : List Int} {v0 : Value} {v1 : Value} {H : FH} {w : World} (hst : Star H w []) (h0 : (rS 41 (rCon 117)).rel H [v0] list) (h1 : (rS 3 RP.int).rel H [v1] p) {r : (List Int) × Int} (hF : i_propagate fu list p = some r) :
 C Try.prog 112 #[v0,v1] w fun v w'=>∃ (u1 : Value),v = .tuple #[u1,I r.2]∧Star H w' [oF 3 RP.int u1 r.1]:=by
 unfold i_propagate at hF
 refine C_enter Try.func112 rfl Try.ntmps112 rfl (sq (aV S0 rfl (aI rfl (nq ?_))))
 obtain ⟨x6,hx6,hF⟩:=bind_some hF
 refine W_region (mV v1 rfl ?_)
 obtain ⟨H9b,l10,s11,z12,k13⟩:=hst.borrow
 refine L_call rfl Try.call136 (ops1 rfl) (slices_Clone_int_c (s:=p) s11 (RP.mono _ h1 l10) hx6) ?_
 rintro r14_0 w14 ⟨_,rfl,hst⟩
 have hst:=k13 hst (co closed_int c0)
 refine aV r14_0 rfl (nq (sq (aB rfl (nn ?_))))
 obtain ⟨j19,hL19,hF⟩:=bind_some hF
 obtain ⟨R19,hR19⟩:=exR fun f w_=>∃ out_17 : List Int,∃ made_18 : Bool,j19 = .nx (out_17,made_18)∧f 6 = r14_0∧Star H w_ ([oF 3 RP.int r14_0 out_17])
 refine W_join R19 ?_ ?_
 refine W_block ?_
 obtain ⟨I19,hI19⟩:=exI fun n f w_=>∃ out_17 : List Int,∃ made_18 : Bool,whileL (i_propagate_b1 list) n (out_17,made_18) = some j19∧f 0 = v0∧f 6 = r14_0∧f 7 = Bo made_18∧Star H w_ ([oF 3 RP.int r14_0 out_17])
 refine W_loop I19 (n:=fu) ?_ ?_
 exact ij hI19 ⟨x6,true,hL19,rfl,rfl,rfl,hst⟩
 intro n19 f w_ hI
 obtain ⟨out_17,made_18,hL19,sf0,sf6,sf7,hst⟩:=ik hI19 hI
 rcases n19 with _ | n19
 exact (while_zero hL19).elim
 obtain ⟨o19,hB19,hL19⟩:=while_succ hL19
 rw [i_propagate_b1] at hB19
 refine W_seq (sq (mF sf7 rfl (nn (W_cond (b:=made_18) rfl (fun hc20=>?_) (fun hc20=>?_)))))
 have hB19:=(ite_t hc20).symm.trans hB19
 refine W_skip (W_block (sq (aB rfl (ns (mF sf0 rfl (L_len rfl Try.underlying27 rfl (slice_len h0) (mI rfl (nn ?_))))))))
 have hlen24 : List.length list≤9223372036854775807:=len_le (slice_len h0)
 obtain ⟨j24,hL24,hB19⟩:=bind_some hB19
 obtain ⟨R24,hR24⟩:=exR fun f w_=>∃ out_22 : List Int,∃ made_23 : Bool,j24 = .nx (out_22,made_23)∧f 0 = v0∧f 6 = r14_0∧f 7 = Bo made_23∧Star H w_ ([oF 3 RP.int r14_0 out_22])
 refine W_join R24 ?_ ?_
 refine W_block ?_
 obtain ⟨I24,hI24⟩:=exI fun n f w_=>∃ i_21 : Nat,∃ suf24 : List Con,∃ out_22 : List Int,∃ made_23 : Bool,n = suf24.length∧List.drop i_21 list = suf24∧i_21 + suf24.length = list.length∧rangeL i_propagate_b2 suf24 i_21 (out_22,made_23) = some j24∧f 0 = v0∧f 6 = r14_0∧f 7 = Bo made_23∧f 15 = v0∧f 16 = I (list.length : Int)∧f 17 = I i_21∧Star H w_ ([oF 3 RP.int r14_0 out_22])
 refine W_loop I24 (n:=list.length) ?_ ?_
 exact ij hI24 ⟨0,list,out_17,false,rfl,rfl,Nat.zero_add _,hL24,sf0,sf6,rfl,rfl,rfl,rfl,hst⟩
 intro n24 f w_ hI
 obtain ⟨i_21,suf24,out_22,made_23,rfl,hd24,hl24,hL24,sf0,sf6,sf7,sf15,sf16,sf17,hst⟩:=ik hI24 hI
 refine sq (L_lss rfl sf17 sf16 (nq (W_cond (b:=decide ((i_21 : Int) < (list.length : Int))) rfl (fun hc25=>?_) (fun hc25=>?_))))
 have hlt24:=of_decide_eq_true hc25
 rcases suf24 with _ | ⟨x_24,rest24⟩
 exact absurd hlt24 (by simp at hl24; omega)
 obtain ⟨o24,hB24,hL24⟩:=range_cons hL24
 rw [i_propagate_b2] at hB24
 have hix24:=drop_idx hd24
 refine W_skip (W_seq (W_block (sq (mF sf17 rfl (L_ix (r:=(rCon 117)) rfl Try.underlying27 Try.sizeOf41 sf15 h0 sf17 hix24 (fun g33 o34 cs_g33 hrk_hat35 hat35=>?_))))))
 obtain ⟨u36_0,rfl,hu36_0⟩:=rCon_iff.1 hrk_hat35
 refine L_lda (cs:=[u36_0,I x_24.bound]) rfl Try.isAgg41 Try.sizeOf41 rfl (At.sub (AtH.at hat35 hst.sub) 0 2) rfl (L_al (cs:=#[S0,I 0]) rfl Try.zeroValue41 rfl hst (fun g37 w38 hst=>aI rfl (L_staB (vs:=#[u36_0,I x_24.bound]) (cs2:=#[u36_0,I x_24.bound]) 0 rfl Try.sizeOf41 rfl rfl rfl (ones_cons (one_len (slice_len hu36_0)) (ones_cons rfl ones_nil)) hst rfl (by show 0 + 2≤2; decide) rfl (fun w39 hst=>nq (W_seq ?_)))))
 obtain ⟨x46,hx46,hB24⟩:=bind_some hB24
 refine W_region (L_lda (cs:=[u36_0,I x_24.bound]) rfl Try.isAgg41 Try.sizeOf41 rfl (At.sub0 (Blk.at (Star.blkAt 0 hst rfl)) 0 2) rfl (mF sf6 rfl ?_))
 obtain ⟨H48b,l49,s50,z51,k52⟩:=hst.borrow
 have hb53 : (rS 3 RP.int).rel H48b [r14_0] out_22:=fz_own 1 z51 rfl
 refine L_call rfl Try.call137 (ops2 rfl rfl) (i_Constraint_slack_c (c:=x_24) (p:=out_22) s50 (RP.mono _ hu36_0 l49) hb53 hx46) ?_
 rintro _ w54 ⟨rfl,hst⟩
 have hst:=k52 hst c0
 refine L_lss rfl rfl rfl (nn (W_cond (b:=decide (x46 < 0)) rfl (fun hc55=>?_) (fun hc55=>?_)))
 have hB24:=(ite_t hc55).symm.trans hB24
 refine sq (mF sf6 rfl (mI rfl (aV r14_0 rfl (aI rfl (nn (W_ret (retG2 (v1:=r14_0) (v2:=I i_21) Try.results112 rfl rfl ?_)))))))
 obtain rfl:=so hB24
 obtain rfl:=so hL24
 obtain rfl:=so hB19
 obtain rfl:=so hL19
 obtain rfl:=so hF
 have hst:=hst.get 1 rfl
 exact ⟨r14_0,rfl,(Star.keepN 1 hst)⟩
 have hB24:=(ite_f hc55).symm.trans hB24
 refine W_skip (W_seq ?_)
 obtain ⟨x62,hx62,hB24⟩:=bind_some hB24
 refine W_region (L_lda (cs:=[u36_0,I x_24.bound]) rfl Try.isAgg41 Try.sizeOf41 rfl (At.sub0 (Blk.at (Star.blkAt 0 hst rfl)) 0 2) rfl (mF sf6 rfl ?_))
 obtain ⟨H65b,l66,s67,z68,k69⟩:=hst.borrow
 have hb70 : (rS 3 RP.int).rel H65b [r14_0] out_22:=fz_own 1 z68 rfl
 refine L_call rfl Try.call138 (ops2 rfl rfl) (i_Constraint_implied_c (c:=x_24) (p:=out_22) s67 (RP.mono _ hu36_0 l66) hb70 hx62) ?_
 rintro r71_0 w71 ⟨_,rfl,hst⟩
 have hst:=k69 hst (co closed_int c0)
 refine L_len rfl Try.underlying105 rfl (Star.len 0 hst rfl) (mI rfl (nn ?_))
 have hlen76 : List.length x62≤9223372036854775807:=len_le (Star.len 0 hst rfl)
 obtain ⟨j76,hL76,hB24⟩:=bind_some hB24
 obtain ⟨R76,hR76⟩:=exR fun f w_=>∃ out_74 : List Int,∃ made_75 : Bool,j76 = .nx (out_74,made_75)∧f 0 = v0∧f 6 = r14_0∧f 7 = Bo made_75∧f 15 = v0∧f 16 = I (list.length : Int)∧f 17 = I i_21∧Star H w_ ([oF 3 RP.int r14_0 out_74])
 refine W_join R76 ?_ ?_
 refine W_block ?_
 obtain ⟨I76,hI76⟩:=exI fun n f w_=>∃ i_73 : Nat,∃ suf76 : List Int,∃ out_74 : List Int,∃ made_75 : Bool,n = suf76.length∧List.drop i_73 x62 = suf76∧i_73 + suf76.length = x62.length∧rangeL i_propagate_b3 suf76 i_73 (out_74,made_75) = some j76∧f 0 = v0∧f 6 = r14_0∧f 7 = Bo made_75∧f 15 = v0∧f 16 = I (list.length : Int)∧f 17 = I i_21∧f 30 = r71_0∧f 31 = I (x62.length : Int)∧f 32 = I i_73∧Star H w_ ([oF 3 RP.int r14_0 out_74,oF 3 RP.int r71_0 x62])
 have hst:=hst.get 2 rfl
 refine W_loop I76 (n:=x62.length) ?_ ?_
 exact ij hI76 ⟨0,x62,out_22,made_23,rfl,rfl,Nat.zero_add _,hL76,sf0,sf6,sf7,sf15,sf16,sf17,rfl,rfl,rfl,(Star.keepN 2 hst)⟩
 intro n76 f w_ hI
 obtain ⟨i_73,suf76,out_74,made_75,rfl,hd76,hl76,hL76,sf0,sf6,sf7,sf15,sf16,sf17,sf30,sf31,sf32,hst⟩:=ik hI76 hI
 refine sq (L_lss rfl sf32 sf31 (nq (W_cond (b:=decide ((i_73 : Int) < (x62.length : Int))) rfl (fun hc77=>?_) (fun hc77=>?_))))
 have hlt76:=of_decide_eq_true hc77
 rcases suf76 with _ | ⟨x_76,rest76⟩
 exact absurd hlt76 (by simp at hl76; omega)
 obtain ⟨o76,hB76,hL76⟩:=range_cons hL76
 rw [i_propagate_b3] at hB76
 have hix76:=drop_idx hd76
 refine W_skip (W_seq (W_block (sq ?_)))
 obtain ⟨g82,cap_g82,hv83,_,_⟩:=Star.row 1 hst rfl hix76
 refine L_ixO (R:=(OR.frz RP.int)) (tb:=0) 0 rfl Try.underlying105 Try.sizeOf3 sf30 hv83 (by first | rfl | simp) sf32 hix76 ?_
 obtain ⟨cs84,hr84,hat84⟩:=Star.eltF 1 hst rfl hv83 hix76
 obtain rfl : _ = [_]:=hr84
 refine L_ld rfl Try.isAgg3 rfl (At.cell hat84 (j:=0) rfl) (aI rfl (ns (aB rfl (ns (mI rfl (L_gtr rfl rfl rfl (nn ?_)))))))
 obtain ⟨out_86,hA87,hB76⟩:=bind_some hB76
 obtain ⟨R87,hR87⟩:=exR fun f w_=>f 0 = v0∧f 6 = r14_0∧f 7 = Bo true∧f 15 = v0∧f 16 = I (list.length : Int)∧f 17 = I i_21∧f 30 = r71_0∧f 31 = I (x62.length : Int)∧f 32 = I i_73∧Star H w_ ([oF 3 RP.int r14_0 out_86,oF 3 RP.int r71_0 x62])
 refine W_join R87 ?_ ?_
 refine W_cond (b:=decide (x_76 > 0)) rfl (fun hc88=>?_) (fun hc88=>?_)
 have hA87:=(ite_t hc88).symm.trans hA87
 obtain ⟨x89,hx89,hA87⟩:=bind_some hA87
 refine W_region (mF sf6 rfl (mI rfl (L_sub rfl rfl rfl ?_)))
 obtain ⟨g93,cap_g93,hv94,_,_⟩:=Star.row 0 hst rfl hx89
 refine L_ixO (R:=(OR.frz RP.int)) (tb:=0) 0 rfl Try.underlying105 Try.sizeOf3 rfl hv94 (by first | rfl | simp) rfl hx89 ?_
 have hst:=Star.addF (r:=RP.int) (cs:=[I 1]) (x:=1) hst rfl
 refine L_stE1 (u:=I 1) rfl Try.sizeOf3 rfl rfl rfl hv94 hst hx89 (fun w95 hst=>nn ?_)
 obtain rfl:=so hA87
 exact rj hR87 ⟨sf0,sf6,rfl,sf15,sf16,sf17,sf30,sf31,sf32,hst⟩
 have hA87:=(ite_f hc88).symm.trans hA87
 obtain ⟨x96,hx96,hA87⟩:=bind_some hA87
 refine W_region (mF sf6 rfl (mI rfl (L_neg rfl rfl (L_sub rfl rfl rfl ?_))))
 obtain ⟨g100,cap_g100,hv101,_,_⟩:=Star.row 0 hst rfl hx96
 refine L_ixO (R:=(OR.frz RP.int)) (tb:=0) 0 rfl Try.underlying105 Try.sizeOf3 rfl hv101 (by first | rfl | simp) rfl hx96 ?_
 have hst:=Star.addF (r:=RP.int) (cs:=[I (-1)]) (x:=(-1)) hst rfl
 refine L_stE1 (u:=I (-1)) rfl Try.sizeOf3 rfl rfl rfl hv101 hst hx96 (fun w102 hst=>nn ?_)
 obtain rfl:=so hA87
 exact rj hR87 ⟨sf0,sf6,rfl,sf15,sf16,sf17,sf30,sf31,sf32,hst⟩
 intro f w_ hR
 obtain ⟨sf0,sf6,sf7,sf15,sf16,sf17,sf30,sf31,sf32,hst⟩:=rk hR87 hR
 refine W_region (L_add rfl sf32 rfl (mI rfl (nn ?_)))
 obtain rfl:=so hB76
 show ∃ m,m < _∧I76 m _ _
 refine ⟨rest76.length,by simp,?_⟩
 exact ij hI76 ⟨i_73 + 1,rest76,out_86,true,rfl,drop_next hd76,by simp at hl76; omega,hL76,sf0,sf6,sf7,sf15,sf16,sf17,sf30,sf31,(Eq.trans rfl (congrArg (Value.int .i64) (i64_succ (n:=x62.length) (by simp at hl76; omega) hlen76))),hst⟩
 rcases suf76 with _ | ⟨_,_⟩
 obtain rfl:=range_nil hL76
 refine W_exit (rj hR76 ⟨out_74,made_75,rfl,sf0,sf6,sf7,sf15,sf16,sf17,(Star.keepN 1 hst)⟩)
 exact absurd (of_decide_eq_false hc77) (by simp at hl76; omega)
 intro f w_ hR
 obtain ⟨out_74,made_75,rfl,sf0,sf6,sf7,sf15,sf16,sf17,hst⟩:=rk hR76 hR
 refine W_region (L_add rfl sf17 rfl (mI rfl (nn ?_)))
 obtain rfl:=so hB24
 show ∃ m,m < _∧I24 m _ _
 refine ⟨rest24.length,by simp,?_⟩
 exact ij hI24 ⟨i_21 + 1,rest24,out_74,made_75,rfl,drop_next hd24,by simp at hl24; omega,hL24,sf0,sf6,sf7,sf15,sf16,(Eq.trans rfl (congrArg (Value.int .i64) (i64_succ (n:=list.length) (by simp at hl24; omega) hlen24))),hst⟩
 rcases suf24 with _ | ⟨_,_⟩
 obtain rfl:=range_nil hL24
 refine W_exit (rj hR24 ⟨out_22,made_23,rfl,sf0,sf6,sf7,hst⟩)
 exact absurd (of_decide_eq_false hc25) (by simp at hl24; omega)
 intro f w_ hR
 obtain ⟨out_22,made_23,rfl,sf0,sf6,sf7,hst⟩:=rk hR24 hR
 obtain rfl:=so hB19
 show ∃ m,m < _∧I19 m _ _
 refine ⟨n19,Nat.lt_succ_self _,?_⟩
 exact ij hI19 ⟨out_22,made_23,hL19,sf0,sf6,sf7,hst⟩
 have hB19:=(ite_f hc20).symm.trans hB19
 refine W_exit ?_
 obtain rfl:=so hB19
 obtain rfl:=so hL19
 exact rj hR19 ⟨out_17,made_18,rfl,sf6,hst⟩
 intro f w_ hR
 obtain ⟨out_17,made_18,rfl,sf6,hst⟩:=rk hR19 hR
 refine sq (mF sf6 rfl (aV r14_0 rfl (aI rfl (nn (W_ret (retG2 (v1:=r14_0) (v2:=I (-1)) Try.results112 rfl rfl ?_))))))
 obtain rfl:=so hF
 exact ⟨r14_0,rfl,hst⟩
theorem i_Constraint_total_c {c : Con} {v0_0 : Value} {H : FH} {w : World} (hst : Star H w []) (h0_0 : (rS 117 rTerm).rel H [v0_0] c.terms) {r : Int} (hF : i_Constraint_total c = some r) :
 C Try.prog 127 #[.agg #[v0_0,I c.bound]] w fun v w'=>v = I r∧Star H w' []:=by
 unfold i_Constraint_total at hF
 refine C_enter Try.func127 rfl Try.ntmps127 rfl (sq (L_box (v:=.agg #[v0_0,I c.bound]) (cs:=#[v0_0,I c.bound]) rfl rfl rfl hst (fun g3 w4 hst=>aI rfl (ns (aI rfl (nq (sq (fA 0 fa_41_0 rfl rfl (ldB 0 hst Try.isAgg39 rfl rfl rfl (L_len rfl Try.underlying39 rfl (slice_len h0_0) (mI rfl (nn ?_))))))))))))
 have hlen7 : List.length c.terms≤9223372036854775807:=len_le (slice_len h0_0)
 obtain ⟨j7,hL7,hF⟩:=bind_some hF
 obtain ⟨R7,hR7⟩:=exR fun f w_=>∃ sum_6 : Int,j7 = .nx sum_6∧f 3 = I sum_6∧Star H w_ ([])
 refine W_join R7 ?_ ?_
 refine W_block ?_
 obtain ⟨I7,hI7⟩:=exI fun n f w_=>∃ i_5 : Nat,∃ suf7 : List Term,∃ sum_6 : Int,n = suf7.length∧List.drop i_5 c.terms = suf7∧i_5 + suf7.length = c.terms.length∧rangeL i_Constraint_total_b1 suf7 i_5 sum_6 = some j7∧f 3 = I sum_6∧f 7 = v0_0∧f 8 = I (c.terms.length : Int)∧f 9 = I i_5∧Star H w_ ([])
 refine W_loop I7 (n:=c.terms.length) ?_ ?_
 exact ij hI7 ⟨0,c.terms,0,rfl,rfl,Nat.zero_add _,hL7,rfl,rfl,rfl,rfl,(Star.keepN 0 hst)⟩
 intro n7 f w_ hI
 obtain ⟨i_5,suf7,sum_6,rfl,hd7,hl7,hL7,sf3,sf7,sf8,sf9,hst⟩:=ik hI7 hI
 refine sq (L_lss rfl sf9 sf8 (nq (W_cond (b:=decide ((i_5 : Int) < (c.terms.length : Int))) rfl (fun hc8=>?_) (fun hc8=>?_))))
 have hlt7:=of_decide_eq_true hc8
 rcases suf7 with _ | ⟨x_7,rest7⟩
 exact absurd hlt7 (by simp at hl7; omega)
 obtain ⟨o7,hB7,hL7⟩:=range_cons hL7
 rw [i_Constraint_total_b1] at hB7
 have hix7:=drop_idx hd7
 refine W_skip (W_seq (W_block (sq (L_ix (r:=rTerm) rfl Try.underlying39 Try.sizeOf117 sf7 h0_0 sf9 hix7 (fun g16 o17 cs_g16 hrk_hat18 hat18=>?_)))))
 obtain rfl:=rTerm_iff.1 hrk_hat18
 refine L_lda (cs:=[I x_7.coef,I x_7.lit]) rfl Try.isAgg117 Try.sizeOf117 rfl (At.sub (AtH.at hat18 hst.sub) 0 2) rfl (L_al (cs:=#[I 0,I 0]) rfl Try.zeroValue117 rfl hst (fun g20 w21 hst=>L_staB (vs:=#[I x_7.coef,I x_7.lit]) (cs2:=#[I x_7.coef,I x_7.lit]) 0 rfl Try.sizeOf117 rfl rfl rfl (ones_cons rfl (ones_cons rfl ones_nil)) hst rfl (by show 0 + 2≤2; decide) rfl (fun w22 hst=>nn (W_region (mF sf3 rfl (fA 0 fa_117_0 rfl rfl (ldB 0 hst Try.isAgg3 rfl rfl rfl (L_add rfl rfl rfl (aI rfl (nn (W_region (L_add rfl sf9 rfl (mI rfl (nn ?_))))))))))))))
 obtain rfl:=so hB7
 show ∃ m,m < _∧I7 m _ _
 refine ⟨rest7.length,by simp,?_⟩
 exact ij hI7 ⟨i_5 + 1,rest7,i64 (sum_6 + x_7.coef),rfl,drop_next hd7,by simp at hl7; omega,hL7,rfl,sf7,sf8,(Eq.trans rfl (congrArg (Value.int .i64) (i64_succ (n:=c.terms.length) (by simp at hl7; omega) hlen7))),(Star.keepN 0 hst)⟩
 rcases suf7 with _ | ⟨_,_⟩
 obtain rfl:=range_nil hL7
 refine W_exit (rj hR7 ⟨sum_6,rfl,sf3,hst⟩)
 exact absurd (of_decide_eq_false hc8) (by simp at hl7; omega)
 intro f w_ hR
 obtain ⟨sum_6,rfl,sf3,hst⟩:=rk hR7 hR
 refine sq (mF sf3 rfl (aI rfl (nn (W_ret (retG1 (v1:=I sum_6) Try.results127 rfl ?_)))))
 obtain rfl:=so hF
 exact ⟨rfl,hst⟩
theorem i_Constraint_negation_c {c : Con} {v0_0 : Value} {H : FH} {w : World} (hst : Star H w []) (h0_0 : (rS 117 rTerm).rel H [v0_0] c.terms) {r : Con} (hF : i_Constraint_negation c = some r) :
 C Try.prog 113 #[.agg #[v0_0,I c.bound]] w fun v w'=>∃ (u1 : Value),v = .agg #[u1,I r.bound]∧Star H w' [oF 117 rTerm u1 r.terms]:=by
 unfold i_Constraint_negation at hF
 refine C_enter Try.func113 rfl Try.ntmps113 rfl (sq (L_box (v:=.agg #[v0_0,I c.bound]) (cs:=#[v0_0,I c.bound]) rfl rfl rfl hst (fun g5 w6 hst=>L_al (cs:=#[S0,I 0]) rfl Try.zeroValue41 rfl hst (fun g7 w8 hst=>nq ?_))))
 obtain ⟨x14,hx14,hF⟩:=bind_some hF
 refine W_drawS 9 [isV (.agg #[v0_0,I c.bound]),isV (I x14),isV (Pq g5 1),isV (I c.bound),isV (I (i64 (x14 - c.bound))),isV (I (i64 ((i64 (x14 - c.bound)) + 1))),isV (I (max 0 (i64 ((i64 (x14 - c.bound)) + 1)))),isV (.agg #[S0,I (max 0 (i64 ((i64 (x14 - c.bound)) + 1)))]),anyF] [box g7 41 #[S0,I 0],box g5 41 #[v0_0,I c.bound]] [.made 8 3 (fun v_=>boxV v_ 41 #[S0,I 0]) none] ([]) [([],[]),([],[]),([],[]),([],[]),([],[]),([],[]),([],[]),([],[]),([],[0])] (S:=[(some 8,[3],none)]) Try_mix (by kernel_rfl) rfl (by kernel_rfl) (amF_cons (mono_V _) (amF_cons (mono_V _) (amF_cons (mono_V _) (amF_cons (mono_V _) (amF_cons (mono_V _) (amF_cons (mono_V _) (amF_cons (mono_V _) (amF_cons (mono_V _) (amF_cons (mono_any) amF_nil))))))))) hst ?_ (fun f w_ H19 hS19 hE19 hT19 hst=>?_)
 refine opsS_cons (fun f w_ _ _ s _ _ hst=>L_lda (cs:=[v0_0,I c.bound]) rfl Try.isAgg41 Try.sizeOf41 ((s 1 rfl).trans rfl) (At.sub0 (Blk.at (Star.blkAt 1 hst rfl)) 0 2) rfl (nO rfl rfl hst)) (opsS_cons ?_ ?_)
 intro f w_ H19 X19 hS19 hE19 hP19 hst
 obtain ⟨H28b,l29,s30,z31,k32⟩:=hst.borrow
 refine L_call rfl Try.call127 (ops1 (hP19 0 6 rfl rfl)) (i_Constraint_total_c (c:=c) s30 (RP.mono _ h0_0 (Le.trans hE19 l29)) hx14) ?_
 rintro _ w33 ⟨rfl,hst⟩
 have hst:=k32 hst c0
 exact L_nil ⟨rfl,_,_,rfl,Le.refl _,fun _ _=>rfl,hst⟩
 refine opsS_cons (fun f w_ _ _ s _ _ hst=>fA 1 fa_41_1 ((s 1 rfl).trans rfl) rfl (nO rfl rfl hst)) (opsS_cons (fun f w_ _ _ _ _ p hst=>ldB 1 hst Try.isAgg3 (p 2 8 rfl rfl) rfl rfl (nO rfl rfl hst)) (opsS_cons (fun f w_ _ _ _ _ p hst=>L_sub rfl (p 1 7 rfl rfl) (p 3 9 rfl rfl) (nO rfl rfl hst)) (opsS_cons (fun f w_ _ _ _ _ p hst=>L_add rfl (p 4 10 rfl rfl) rfl (nO rfl rfl hst)) (opsS_cons (fun f w_ _ _ _ _ p hst=>L_max rfl rfl (p 5 11 rfl rfl) (nO rfl rfl hst)) (opsS_cons (fun f w_ _ _ _ _ p hst=>L_bld rfl (parts1 (p 6 12 rfl rfl)) (bld_41_1 (I (max 0 (i64 ((i64 (x14 - c.bound)) + 1)))) rfl) (nO rfl rfl hst)) (opsS_cons ?_ ?_))))))
 intro f w_ H19 X19 hS19 hE19 hP19 hst
 refine L_al (cs:=#[S0,I 0]) rfl Try.zeroValue41 rfl hst (fun g34 w35 hst=>?_)
 have hst:=hst.gets [2,2,2] rfl
 have hst:=Star.boxV (v:=Pt g34) rfl hst
 have hst:=hst.gets [2,2] rfl
 exact L_nil ⟨rfl,_,_,rfl,Le.refl _,fun _ _=>trivial,hst⟩
 exact opsS_nil
 have hst : Star H19 w_ ([box g7 41 #[S0,I 0],box g5 41 #[v0_0,I c.bound],boxV (f 3) 41 #[S0,I 0]]):=hst
 obtain ⟨g36,hv36,hst⟩:=Star.unboxV (Star.get 2 hst rfl)
 refine L_staB (vs:=#[S0,I (max 0 (i64 ((i64 (x14 - c.bound)) + 1)))]) (cs2:=#[S0,I (max 0 (i64 ((i64 (x14 - c.bound)) + 1)))]) 0 rfl Try.sizeOf41 hv36 (hT19 7 13 rfl rfl) rfl (ones_cons rfl (ones_cons rfl ones_nil)) hst rfl (by show 0 + 2≤2; decide) rfl (fun w37 hst=>nq (sq (fA 0 fa_41_0 ((hS19 1 rfl).trans rfl) rfl (ldB 2 hst Try.isAgg39 rfl rfl rfl (L_len rfl Try.underlying39 rfl (slice_len (RP.mono _ h0_0 hE19)) (mI rfl (nn ?_)))))))
 have hlen41 : List.length c.terms≤9223372036854775807:=len_le (slice_len (RP.mono _ h0_0 hE19))
 obtain ⟨j41,hL41,hF⟩:=bind_some hF
 obtain ⟨R41,hR41⟩:=exR fun f w_=>∃ g36_0_39 : List Term,∃ v39_g36_0 : Value,j41 = .nx g36_0_39∧f 2 = Pt g7∧f 3 = Pt g36∧Star H19 w_ ([oF 117 rTerm v39_g36_0 g36_0_39,box g36 41 #[v39_g36_0,I (max 0 (i64 ((i64 (x14 - c.bound)) + 1)))],box g7 41 #[S0,I 0]])
 refine W_join R41 ?_ ?_
 refine W_block ?_
 obtain ⟨I41,hI41⟩:=exI fun n f w_=>∃ i_38 : Nat,∃ suf41 : List Term,∃ g36_0_39 : List Term,∃ v39_g36_0 : Value,n = suf41.length∧List.drop i_38 c.terms = suf41∧i_38 + suf41.length = c.terms.length∧rangeL i_Constraint_negation_b1 suf41 i_38 g36_0_39 = some j41∧f 2 = Pt g7∧f 3 = Pt g36∧f 15 = v0_0∧f 16 = I (c.terms.length : Int)∧f 17 = I i_38∧Star H19 w_ ([oF 117 rTerm v39_g36_0 g36_0_39,box g36 41 #[v39_g36_0,I (max 0 (i64 ((i64 (x14 - c.bound)) + 1)))],box g7 41 #[S0,I 0]])
 have hst:=Star.addNil (R:=(OR.frz rTerm)) (e:=117) hst
 refine W_loop I41 (n:=c.terms.length) ?_ ?_
 exact ij hI41 ⟨0,c.terms,[],S0,rfl,rfl,Nat.zero_add _,hL41,((hS19 2 rfl).trans rfl),hv36,rfl,rfl,rfl,(Star.keepN 3 hst)⟩
 intro n41 f w_ hI
 obtain ⟨i_38,suf41,g36_0_39,v39_g36_0,rfl,hd41,hl41,hL41,sf2,sf3,sf15,sf16,sf17,hst⟩:=ik hI41 hI
 refine sq (L_lss rfl sf17 sf16 (nq (W_cond (b:=decide ((i_38 : Int) < (c.terms.length : Int))) rfl (fun hc43=>?_) (fun hc43=>?_))))
 have hlt41:=of_decide_eq_true hc43
 rcases suf41 with _ | ⟨x_41,rest41⟩
 exact absurd hlt41 (by simp at hl41; omega)
 obtain ⟨o41,hB41,hL41⟩:=range_cons hL41
 rw [i_Constraint_negation_b1] at hB41
 have hix41:=drop_idx hd41
 refine W_skip (W_seq (W_block (sq (L_ix (r:=rTerm) rfl Try.underlying39 Try.sizeOf117 sf15 (RP.mono _ h0_0 hE19) sf17 hix41 (fun g51 o52 cs_g51 hrk_hat53 hat53=>?_)))))
 obtain rfl:=rTerm_iff.1 hrk_hat53
 refine L_lda (cs:=[I x_41.coef,I x_41.lit]) rfl Try.isAgg117 Try.sizeOf117 rfl (At.sub (AtH.at hat53 hst.sub) 0 2) rfl (L_al (cs:=#[I 0,I 0]) rfl Try.zeroValue117 rfl hst (fun g55 w56 hst=>L_staB (vs:=#[I x_41.coef,I x_41.lit]) (cs2:=#[I x_41.coef,I x_41.lit]) 0 rfl Try.sizeOf117 rfl rfl rfl (ones_cons rfl (ones_cons rfl ones_nil)) hst rfl (by show 0 + 2≤2; decide) rfl (fun w57 hst=>nn ?_)))
 obtain ⟨x61,hx61,hB41⟩:=bind_some hB41
 refine W_region (fA 0 fa_41_0 sf3 rfl (ldB 2 hst Try.isAgg39 rfl rfl rfl (fA 0 fa_117_0 rfl rfl (ldB 0 hst Try.isAgg3 rfl rfl rfl (fA 1 fa_117_1 rfl rfl (ldB 0 hst Try.isAgg3 rfl rfl rfl (L_neg rfl rfl (L_bld rfl (parts2 rfl rfl) (bld_117_0_1 (I x_41.coef) (I (i64 (-x_41.lit))) rfl rfl) (L_bs rfl (parts1 rfl) (bs_39_1_2 (I x_41.coef) (I (i64 (-x_41.lit))) ) hst (fun g66 w67 hst=>?_))))))))))
 have hst:=Star.addF (r:=rTerm) (cs:=[I x_41.coef,I (i64 (-x_41.lit))]) (x:=({ coef:=x_41.coef,lit:=i64 (-x_41.lit) } : Term)) hst (rTerm_iff.2 rfl)
 have hst:=Star.mkRow (R:=(OR.frz rTerm)) [([I x_41.coef,I (i64 (-x_41.lit))],({ coef:=x_41.coef,lit:=i64 (-x_41.lit) } : Term))] [({ coef:=x_41.coef,lit:=i64 (-x_41.lit) } : Term)] 1 hst rfl rfl rfl (by decide)
 have hst:=hst.get 2 rfl
 refine L_appM (v:=v39_g36_0) (u:=(Sl g66 1 1)) rfl et_39 rfl rfl hst hx61 (fun v69 w70 hst=>fA 0 fa_41_0 sf3 rfl (L_stB (v:=v69) (cs2:=#[v69,I (max 0 (i64 ((i64 (x14 - c.bound)) + 1)))]) 2 rfl Try.sizeOf39 rfl rfl (one_len (Star.len 0 hst rfl)) hst rfl rfl rfl (fun w72 hst=>nn (W_region (L_add rfl sf17 rfl (mI rfl (nn ?_)))))))
 obtain rfl:=so hB41
 have hst:=hst.gets [3,1,2] rfl
 show ∃ m,m < _∧I41 m _ _
 refine ⟨rest41.length,by simp,?_⟩
 exact ij hI41 ⟨i_38 + 1,rest41,x61,v69,rfl,drop_next hd41,by simp at hl41; omega,hL41,sf2,sf3,sf15,sf16,(Eq.trans rfl (congrArg (Value.int .i64) (i64_succ (n:=c.terms.length) (by simp at hl41; omega) hlen41))),(Star.keepN 3 hst)⟩
 rcases suf41 with _ | ⟨_,_⟩
 obtain rfl:=range_nil hL41
 refine W_exit (rj hR41 ⟨g36_0_39,v39_g36_0,rfl,sf2,sf3,hst⟩)
 exact absurd (of_decide_eq_false hc43) (by simp at hl41; omega)
 intro f w_ hR
 obtain ⟨g36_0_39,v39_g36_0,rfl,sf2,sf3,hst⟩:=rk hR41 hR
 refine sq (L_lda (cs:=[v39_g36_0,I (max 0 (i64 ((i64 (x14 - c.bound)) + 1)))]) rfl Try.isAgg41 Try.sizeOf41 sf3 (At.sub0 (Blk.at (Star.blkAt 1 hst rfl)) 0 2) rfl (L_staB (vs:=#[v39_g36_0,I (max 0 (i64 ((i64 (x14 - c.bound)) + 1)))]) (cs2:=#[v39_g36_0,I (max 0 (i64 ((i64 (x14 - c.bound)) + 1)))]) 2 rfl Try.sizeOf41 sf2 rfl rfl (ones_cons (one_len (Star.len 0 hst rfl)) (ones_cons rfl ones_nil)) hst rfl (by show 0 + 2≤2; decide) rfl (fun w74 hst=>nn (W_ret (retG1 (v1:=.agg #[v39_g36_0,I (max 0 (i64 ((i64 (x14 - c.bound)) + 1)))]) Try.results113 (resV_agg Try.isAgg41 Try.sizeOf41 sf2 (Star.blkAt 0 hst rfl) rfl) ?_)))))
 obtain rfl:=so hF
 have hst:=hst.get 1 rfl
 exact ⟨v39_g36_0,rfl,(Star.down (Star.keepN 1 hst) hE19 (co closed_term c0))⟩
theorem i_rup_c {fu : Nat} {list : List Con} {c : Con} {v0 : Value} {v1_0 : Value} {H : FH} {w : World} (hst : Star H w []) (h0 : (rS 41 (rCon 117)).rel H [v0] list) (h1_0 : (rS 117 rTerm).rel H [v1_0] c.terms) {r : Bool} (hF : i_rup fu list c = some r) :
 C Try.prog 74 #[v0,.agg #[v1_0,I c.bound]] w fun v w'=>v = Bo r∧Star H w' []:=by
 unfold i_rup at hF
 refine C_enter Try.func74 rfl Try.ntmps74 rfl (sq (L_box (v:=.agg #[v1_0,I c.bound]) (cs:=#[v1_0,I c.bound]) rfl rfl rfl hst (fun g3 w4 hst=>aB rfl (nq ?_))))
 obtain ⟨x5,hx5,hF⟩:=bind_some hF
 obtain ⟨x13,hx13,hF⟩:=bind_some hF
 obtain ⟨x19,hx19,hF⟩:=bind_some hF
 obtain ⟨x25,hx25,hF⟩:=bind_some hF
 obtain ⟨x36,hx36,hF⟩:=bind_some hF
 refine W_drawS 12 [isV (v0),anyF,isV (.agg #[v1_0,I c.bound]),exA fun u_0=>isV (.agg #[u_0,I x13.bound]),anyF,anyF,anyF,tup2 (anyF) (isV (I x36.2)),tup2 (anyF) (isV (I x36.2)),anyF,isV (I x36.2),anyF] [box g3 41 #[v1_0,I c.bound]] [.made 1 9 (fun v_=>oF 41 (rCon 117) v_ x5) (some 5),.made 3 11 (fun v_=>oF 117 rTerm (aggC v_ 0) x13.terms) (some 4),.made 4 12 (fun v_=>oS 41 (oCon 117) v_ ([x13])) (some 5),.made 5 13 (fun v_=>oF 41 (rCon 117) v_ x19) none,.made 6 14 (fun v_=>oF 3 RP.int v_ x25) none,.made 7 15 (fun v_=>oF 3 RP.int (tupC v_ 0) x36.1) (some 8),.made 8 7 (fun v_=>oF 3 RP.int (tupC v_ 0) x36.1) (some 9),.made 9 16 (fun v_=>oF 3 RP.int v_ x36.1) (some 11),.made 11 5 (fun v_=>oF 3 RP.int v_ x36.1) none] ([]) [([],[]),([],[0]),([],[]),([],[1]),([1],[2]),([0,2],[3]),([],[4]),([3,4],[3,4,5]),([5],[6]),([6],[7]),([],[]),([7],[8])] (S:=[(some 1,[9],some 5),(some 3,[11],some 4),(some 4,[12],some 5),(some 5,[13],none),(some 6,[14],none),(some 7,[15],some 8),(some 8,[7],some 9),(some 9,[16],some 11),(some 11,[5],none)]) Try_mix (by kernel_rfl) rfl (by kernel_rfl) (amF_cons (mono_V _) (amF_cons (mono_any) (amF_cons (mono_V _) (amF_cons (mono_exA fun _=>mono_V _) (amF_cons (mono_any) (amF_cons (mono_any) (amF_cons (mono_any) (amF_cons (mono_tup2 (mono_any) (mono_V _)) (amF_cons (mono_tup2 (mono_any) (mono_V _)) (amF_cons (mono_any) (amF_cons (mono_V _) (amF_cons (mono_any) amF_nil)))))))))))) hst ?_ (fun f w_ H39 hS39 hE39 hT39 hst=>?_)
 refine opsS_cons (fun f w_ _ _ s _ _ hst=>mF ((s 0 rfl).trans rfl) rfl (nO rfl rfl hst)) (opsS_cons ?_ ?_)
 intro f w_ H39 X39 hS39 hE39 hP39 hst
 refine L_call rfl Try.call102 (ops1 (hP39 0 8 rfl rfl)) (slices_Clone_implConstraint_c (s:=list) hst (RP.mono _ h0 hE39) hx5) ?_
 rintro r69_0 w69 ⟨H69,l69,_,rfl,hst⟩
 have hst:=hst.get 1 rfl
 exact L_nil ⟨rfl,_,_,rfl,l69,fun _ _=>trivial,hst⟩
 refine opsS_cons (fun f w_ _ _ s _ _ hst=>L_lda (cs:=[v1_0,I c.bound]) rfl Try.isAgg41 Try.sizeOf41 ((s 3 rfl).trans rfl) (At.sub0 (Blk.at (Star.blkAt 0 hst rfl)) 0 2) rfl (nO rfl rfl hst)) (opsS_cons ?_ ?_)
 intro f w_ H39 X39 hS39 hE39 hP39 hst
 obtain ⟨H71b,l72,s73,z74,k75⟩:=hst.borrow
 refine L_call rfl Try.call113 (ops1 (hP39 2 10 rfl rfl)) (i_Constraint_negation_c (c:=c) s73 (RP.mono _ h1_0 (Le.trans hE39 l72)) hx13) ?_
 rintro _ w76 ⟨r76_0,rfl,hst⟩
 have hst:=k75 hst (co closed_term c0)
 have hst:=hst.get 1 rfl
 exact L_nil ⟨rfl,_,_,rfl,Le.refl _,fun _ _=>⟨_,rfl⟩,hst⟩
 refine opsS_cons ?_ ?_
 intro f w_ H39 X39 hS39 hE39 hP39 hst
 have hst : Star H39 w_ (box g3 41 #[v1_0,I c.bound] :: own (OR.ownS 117 (OR.frz rTerm)) [(aggC (f 11) 0)] x13.terms :: X39):=hst
 obtain ⟨u78_0,hv78⟩:=(hP39 3 11 rfl rfl)
 have hren : Star H39 w_ (box g3 41 #[v1_0,I c.bound] :: own (OR.ownS 117 (OR.frz rTerm)) [(aggC (f 11) 0)] x13.terms :: X39):=hst
 rw [hv78] at hren
 have hst : Star H39 w_ (box g3 41 #[v1_0,I c.bound] :: oF 117 rTerm u78_0 x13.terms :: X39):=hren
 refine L_bs rfl (parts1 hv78) (bs_27_1_2 (u78_0) (I x13.bound) ) hst (fun g79 w80 hst=>?_)
 have hst:=hst.get 2 rfl
 have hst:=oCon_close (c:=x13) hst
 have hst:=Star.mkRow (R:=(oCon 117)) [([u78_0,I x13.bound],x13)] [x13] 1 hst rfl rfl rfl (by decide)
 have hst:=hst.get 1 rfl
 exact L_nil ⟨rfl,_,_,rfl,Le.refl _,fun _ _=>trivial,hst⟩
 refine opsS_cons ?_ ?_
 intro f w_ H39 X39 hS39 hE39 hP39 hst
 have hst : Star H39 w_ (box g3 41 #[v1_0,I c.bound] :: oF 41 (rCon 117) (f 9) x5 :: oS 41 (oCon 117) (f 12) ([x13]) :: X39):=hst
 have hst:=hst.get 2 rfl
 obtain ⟨H84,l85,hst⟩:=Star.shallow hst
 have hst : Star H84 w_ (oF 41 (rCon 117) (f 12) ([x13]) :: _):=hst
 have hst:=hst.get 2 rfl
 refine L_appM (v:=(f 9)) (u:=(f 12)) rfl et_27 rfl rfl hst hx19 (fun v86 w87 hst=>?_)
 have hst:=hst.get 1 rfl
 exact L_nil ⟨rfl,_,_,rfl,l85,fun _ _=>trivial,hst⟩
 refine opsS_cons ?_ ?_
 intro f w_ H39 X39 hS39 hE39 hP39 hst
 refine L_mk (R:=(OR.frz RP.int)) (z0:=0) (zc:=[I 0]) rfl et_105 (by kernel_rfl) (fun _ _=>⟨rfl,rfl⟩) rfl rfl hx25 hst (fun v89 w90 hst=>?_)
 have hst:=hst.get 1 rfl
 exact L_nil ⟨rfl,_,_,rfl,Le.refl _,fun _ _=>trivial,hst⟩
 refine opsS_cons ?_ ?_
 intro f w_ H39 X39 hS39 hE39 hP39 hst
 have hst : Star H39 w_ (box g3 41 #[v1_0,I c.bound] :: oF 41 (rCon 117) (f 13) x19 :: oF 3 RP.int (f 14) x25 :: X39):=hst
 obtain ⟨H94b,l95,s96,z97,k98⟩:=hst.borrow
 have hb99 : (rS 41 (rCon 117)).rel H94b [(f 13)] x19:=fz_own 1 z97 rfl
 have hb100 : (rS 3 RP.int).rel H94b [(f 14)] x25:=fz_own 2 z97 rfl
 refine L_call rfl Try.call112 (ops2 rfl rfl) (i_propagate_c (list:=x19) (p:=x25) s96 hb99 hb100 hx36) ?_
 rintro _ w101 ⟨r101_0,rfl,hst⟩
 have hst:=k98 hst (co closed_int c0)
 have hst:=hst.gets [3,3,3] rfl
 exact L_nil ⟨rfl,_,_,rfl,Le.refl _,fun _ _=>⟨_,_,rfl,trivial,rfl⟩,hst⟩
 refine opsS_cons ?_ ?_
 intro f w_ H39 X39 hS39 hE39 hP39 hst
 have hst : Star H39 w_ (box g3 41 #[v1_0,I c.bound] :: own (OR.ownS 3 (OR.frz RP.int)) [(tupC (f 15) 0)] x36.1 :: X39):=hst
 obtain ⟨a103_0,a103_1,hv103,ht103_0,ht103_1⟩:=(hP39 7 15 rfl rfl)
 obtain rfl:=ht103_1
 have hren : Star H39 w_ (box g3 41 #[v1_0,I c.bound] :: own (OR.ownS 3 (OR.frz RP.int)) [(tupC (f 15) 0)] x36.1 :: X39):=hst
 rw [hv103] at hren
 have hst : Star H39 w_ (box g3 41 #[v1_0,I c.bound] :: oF 3 RP.int a103_0 x36.1 :: X39):=hren
 refine mF hv103 rfl (L_nil ⟨rfl,_,_,rfl,Le.refl _,fun _ _=>⟨_,_,rfl,trivial,rfl⟩,hst⟩)
 refine opsS_cons ?_ ?_
 intro f w_ H39 X39 hS39 hE39 hP39 hst
 have hst : Star H39 w_ (box g3 41 #[v1_0,I c.bound] :: own (OR.ownS 3 (OR.frz RP.int)) [(tupC (f 7) 0)] x36.1 :: X39):=hst
 obtain ⟨a104_0,a104_1,hv104,ht104_0,ht104_1⟩:=(hP39 8 7 rfl rfl)
 obtain rfl:=ht104_1
 have hren : Star H39 w_ (box g3 41 #[v1_0,I c.bound] :: own (OR.ownS 3 (OR.frz RP.int)) [(tupC (f 7) 0)] x36.1 :: X39):=hst
 rw [hv104] at hren
 have hst : Star H39 w_ (box g3 41 #[v1_0,I c.bound] :: oF 3 RP.int a104_0 x36.1 :: X39):=hren
 refine L_ex (v:=a104_0) rfl hv104 rfl (L_nil ⟨rfl,_,_,rfl,Le.refl _,fun _ _=>trivial,hst⟩)
 refine opsS_cons ?_ ?_
 intro f w_ H39 X39 hS39 hE39 hP39 hst
 obtain ⟨a105_0,a105_1,hv105,ht105_0,ht105_1⟩:=(hP39 8 7 rfl rfl)
 obtain rfl:=ht105_1
 refine L_ex (v:=I x36.2) rfl hv105 rfl (L_nil ⟨rfl,_,_,rfl,Le.refl _,fun _ _=>rfl,hst⟩)
 refine opsS_cons ?_ ?_
 intro f w_ H39 X39 hS39 hE39 hP39 hst
 have hst : Star H39 w_ (box g3 41 #[v1_0,I c.bound] :: oF 3 RP.int (f 16) x36.1 :: X39):=hst
 refine aV (f 16) rfl (L_nil ⟨rfl,_,_,rfl,Le.refl _,fun _ _=>trivial,hst⟩)
 exact opsS_nil
 have hst : Star H39 w_ ([box g3 41 #[v1_0,I c.bound],oF 41 (rCon 117) (f 13) x19,oF 3 RP.int (f 14) x25,oF 3 RP.int (f 5) x36.1]):=hst
 refine aF (hT39 10 17 rfl rfl) rfl (ns (mI rfl (L_geq rfl rfl rfl (aB rfl (nn (W_ret (retG1 (v1:=Bo (decide (x36.2 ≥ 0))) Try.results74 rfl ?_)))))))
 obtain rfl:=so hF
 exact ⟨rfl,(Star.down (Star.keepN 0 hst) hE39 c0)⟩
theorem i_refers_c {kind : Int} {H : FH} {w : World} (hst : Star H w []) {r : Int × Bool} (hF : i_refers kind = some r) :
 C Try.prog 88 #[I kind] w fun v w'=>v = .tuple #[I r.1,Bo r.2]∧Star H w' []:=by
 unfold i_refers at hF
 refine C_enter Try.func88 rfl Try.ntmps88 rfl (sq (aI rfl (aB rfl (nq (sq (mI rfl (nn (W_block (sq (L_eql rfl rfl rfl (aB rfl (nn (W_cond (b:=(kind == 1)) rfl (fun hc1=>?_) (fun hc1=>?_))))))))))))))
 have hF:=(ite_t hc1).symm.trans hF
 refine sq (aI rfl (aB rfl (nn (W_ret (retG2 (v1:=I 2) (v2:=Bo false) Try.results88 rfl rfl ?_)))))
 obtain rfl:=so hF
 exact ⟨rfl,hst⟩
 have hF:=(ite_f hc1).symm.trans hF
 refine W_seq (sq (L_eql rfl rfl rfl (aB rfl (nn ?_))))
 obtain ⟨t7_2,hA3,hF⟩:=bind_some hF
 obtain ⟨R3,hR3⟩:=exR fun f w_=>f 4 = I kind∧f 7 = Bo t7_2∧Star H w_ ([])
 refine W_join R3 ?_ ?_
 refine W_cond (b:=(kind == 2)) rfl (fun hc4=>?_) (fun hc4=>?_)
 have hA3:=(ite_t hc4).symm.trans hA3
 refine W_skip ?_
 obtain rfl:=so hA3
 exact rj hR3 ⟨rfl,rfl,hst⟩
 have hA3:=(ite_f hc4).symm.trans hA3
 refine sq (L_eql rfl rfl rfl (aB rfl (nn ?_)))
 obtain ⟨t7_5,hA6,hA3⟩:=bind_some hA3
 obtain ⟨R6,hR6⟩:=exR fun f w_=>f 4 = I kind∧f 7 = Bo t7_5∧Star H w_ ([])
 refine W_join R6 ?_ ?_
 refine W_cond (b:=(kind == 3)) rfl (fun hc7=>?_) (fun hc7=>?_)
 have hA6:=(ite_t hc7).symm.trans hA6
 refine W_skip ?_
 obtain rfl:=so hA6
 exact rj hR6 ⟨rfl,rfl,hst⟩
 have hA6:=(ite_f hc7).symm.trans hA6
 refine W_region (L_eql rfl rfl rfl (aB rfl (nn ?_)))
 obtain rfl:=so hA6
 exact rj hR6 ⟨rfl,rfl,hst⟩
 intro f w_ hR
 obtain ⟨sf4,sf7,hst⟩:=rk hR6 hR
 obtain rfl:=so hA3
 exact rj hR3 ⟨sf4,sf7,hst⟩
 intro f w_ hR
 obtain ⟨sf4,sf7,hst⟩:=rk hR3 hR
 refine W_cond (b:=t7_2) sf7 (fun hc8=>?_) (fun hc8=>?_)
 have hF:=(ite_t hc8).symm.trans hF
 refine sq (aI rfl (aB rfl (nn (W_ret (retG2 (v1:=I 1) (v2:=Bo true) Try.results88 rfl rfl ?_)))))
 obtain rfl:=so hF
 exact ⟨rfl,hst⟩
 have hF:=(ite_f hc8).symm.trans hF
 refine W_seq (sq (L_eql rfl sf4 rfl (aB rfl (nn ?_))))
 obtain ⟨t11_9,hA10,hF⟩:=bind_some hF
 obtain ⟨R10,hR10⟩:=exR fun f w_=>f 4 = I kind∧f 11 = Bo t11_9∧Star H w_ ([])
 refine W_join R10 ?_ ?_
 refine W_cond (b:=(kind == 4)) rfl (fun hc11=>?_) (fun hc11=>?_)
 have hA10:=(ite_t hc11).symm.trans hA10
 refine W_skip ?_
 obtain rfl:=so hA10
 exact rj hR10 ⟨sf4,rfl,hst⟩
 have hA10:=(ite_f hc11).symm.trans hA10
 refine W_region (L_eql rfl sf4 rfl (aB rfl (nn ?_)))
 obtain rfl:=so hA10
 exact rj hR10 ⟨sf4,rfl,hst⟩
 intro f w_ hR
 obtain ⟨sf4,sf11,hst⟩:=rk hR10 hR
 refine W_cond (b:=t11_9) sf11 (fun hc12=>?_) (fun hc12=>?_)
 have hF:=(ite_t hc12).symm.trans hF
 refine sq (aI rfl (aB rfl (nn (W_ret (retG2 (v1:=I 1) (v2:=Bo false) Try.results88 rfl rfl ?_)))))
 obtain rfl:=so hF
 exact ⟨rfl,hst⟩
 have hF:=(ite_f hc12).symm.trans hF
 refine W_seq (sq (L_eql rfl sf4 rfl (aB rfl (nn ?_))))
 obtain ⟨t14_13,hA14,hF⟩:=bind_some hF
 obtain ⟨R14,hR14⟩:=exR fun f w_=>f 14 = Bo t14_13∧Star H w_ ([])
 refine W_join R14 ?_ ?_
 refine W_cond (b:=(kind == 6)) rfl (fun hc15=>?_) (fun hc15=>?_)
 have hA14:=(ite_t hc15).symm.trans hA14
 refine W_skip ?_
 obtain rfl:=so hA14
 exact rj hR14 ⟨rfl,hst⟩
 have hA14:=(ite_f hc15).symm.trans hA14
 refine W_region (L_eql rfl sf4 rfl (aB rfl (nn ?_)))
 obtain rfl:=so hA14
 exact rj hR14 ⟨rfl,hst⟩
 intro f w_ hR
 obtain ⟨sf14,hst⟩:=rk hR14 hR
 refine W_cond (b:=t14_13) sf14 (fun hc16=>?_) (fun hc16=>?_)
 have hF:=(ite_t hc16).symm.trans hF
 refine sq (aI rfl (aB rfl (nn (W_ret (retG2 (v1:=I 0) (v2:=Bo false) Try.results88 rfl rfl ?_)))))
 obtain rfl:=so hF
 exact ⟨rfl,hst⟩
 have hF:=(ite_f hc16).symm.trans hF
 refine W_skip (sq (aI rfl (aB rfl (nn (W_ret (retG2 (v1:=I (-1)) (v2:=Bo false) Try.results88 rfl rfl ?_))))))
 obtain rfl:=so hF
 exact ⟨rfl,hst⟩
theorem slices_Equal_implTerm_c {s1 : List Term} {s2 : List Term} {v0 : Value} {v1 : Value} {H : FH} {w : World} (hst : Star H w []) (h0 : (rS 117 rTerm).rel H [v0] s1) (h1 : (rS 117 rTerm).rel H [v1] s2) {r : Bool} (hF : slices_Equal_implTerm s1 s2 = some r) :
 C Try.prog 119 #[v0,v1] w fun v w'=>v = Bo r∧Star H w' []:=by
 unfold slices_Equal_implTerm at hF
 refine C_enter Try.func119 rfl Try.ntmps119 rfl (sq (aB rfl (nq (sq (mV v0 rfl (L_len rfl Try.underlying39 rfl (slice_len h0) (mV v1 rfl (L_len rfl Try.underlying39 rfl (slice_len h1) (L_neq rfl rfl rfl (nn (W_cond (b:=((s1.length : Int) != (s2.length : Int))) rfl (fun hc1=>?_) (fun hc1=>?_))))))))))))
 have hF:=(ite_t hc1).symm.trans hF
 refine sq (aB rfl (nn (W_ret (retG1 (v1:=Bo false) Try.results119 rfl ?_))))
 obtain rfl:=so hF
 exact ⟨rfl,hst⟩
 have hF:=(ite_f hc1).symm.trans hF
 refine W_skip (W_seq (sq (mV v0 rfl (L_len rfl Try.underlying39 rfl (slice_len h0) (mI rfl (nn ?_))))))
 have hlen5 : List.length s1≤9223372036854775807:=len_le (slice_len h0)
 obtain ⟨j5,hL5,hF⟩:=bind_some hF
 obtain ⟨R5,hR5⟩:=exR fun f w_=>∃ H3 : FH,j5 = .nx ()∧Le H H3∧Star H3 w_ ([])
 refine W_join R5 ?_ ?_
 refine W_block ?_
 obtain ⟨I5,hI5⟩:=exI fun n f w_=>∃ i_2 : Nat,∃ suf5 : List Term,∃ H3 : FH,n = suf5.length∧List.drop i_2 s1 = suf5∧i_2 + suf5.length = s1.length∧rangeL (slices_Equal_implTerm_b1 s2) suf5 i_2 () = some j5∧Le H H3∧f 0 = v0∧f 1 = v1∧f 12 = I (s1.length : Int)∧f 13 = I i_2∧Star H3 w_ ([])
 refine W_loop I5 (n:=s1.length) ?_ ?_
 exact ij hI5 ⟨0,s1,H,rfl,rfl,Nat.zero_add _,hL5,(Le.refl _),rfl,rfl,rfl,rfl,hst⟩
 intro n5 f w_ hI
 obtain ⟨i_2,suf5,H3,rfl,hd5,hl5,hL5,l4,sf0,sf1,sf12,sf13,hst⟩:=ik hI5 hI
 refine sq (L_lss rfl sf13 sf12 (nq (W_cond (b:=decide ((i_2 : Int) < (s1.length : Int))) rfl (fun hc6=>?_) (fun hc6=>?_))))
 have hlt5:=of_decide_eq_true hc6
 rcases suf5 with _ | ⟨x_5,rest5⟩
 exact absurd hlt5 (by simp at hl5; omega)
 obtain ⟨o5,hB5,hL5⟩:=range_cons hL5
 rw [slices_Equal_implTerm_b1] at hB5
 have hix5:=drop_idx hd5
 refine W_skip (W_seq (W_block (sq (mF sf13 rfl (aI rfl (nq ?_))))))
 obtain ⟨x11,hx11,hB5⟩:=bind_some hB5
 refine W_drawS 8 [isV (v0),isV (I i_2),isEl rTerm x_5 0,isV (.agg #[I x_5.coef,I x_5.lit]),isV (v1),isV (I i_2),isEl rTerm x11 0,isV (.agg #[I x11.coef,I x11.lit])] [] [] ([]) [([],[]),([],[]),([],[]),([],[]),([],[]),([],[]),([],[]),([],[])] (S:=[]) Try_mix (by kernel_rfl) rfl (by kernel_rfl) (amF_cons (mono_V _) (amF_cons (mono_V _) (amF_cons (mono_el _ _ _) (amF_cons (mono_V _) (amF_cons (mono_V _) (amF_cons (mono_V _) (amF_cons (mono_el _ _ _) (amF_cons (mono_V _) amF_nil)))))))) hst ?_ (fun f w_ H16 hS16 hE16 hT16 hst=>?_)
 refine opsS_cons (fun f w_ _ _ s _ _ hst=>mF ((s 0 rfl).trans sf0) rfl (nO rfl rfl hst)) (opsS_cons (fun f w_ _ _ s _ _ hst=>mF ((s 5 rfl).trans rfl) rfl (nO rfl rfl hst)) (opsS_cons ?_ ?_))
 intro f w_ H16 X16 hS16 hE16 hP16 hst
 refine L_ix (r:=rTerm) rfl Try.underlying39 Try.sizeOf117 (hP16 0 16 rfl rfl) (RP.mono _ h0 (Le.trans l4 hE16)) (hP16 1 17 rfl rfl) hix5 (fun g25 o26 cs_g25 hrk_hat27 hat27=>?_)
 obtain rfl:=rTerm_iff.1 hrk_hat27
 exact L_nil ⟨rfl,_,_,rfl,Le.refl _,fun _ _=>⟨_,_,_,rfl,hrk_hat27,hat27⟩,hst⟩
 refine opsS_cons ?_ ?_
 intro f w_ H16 X16 hS16 hE16 hP16 hst
 obtain ⟨g29,o29,cs29,hv29,hrk_hat29,hat29⟩:=(hP16 2 18 rfl rfl)
 obtain rfl:=rTerm_iff.1 hrk_hat29
 refine L_lda (cs:=[I x_5.coef,I x_5.lit]) rfl Try.isAgg117 Try.sizeOf117 hv29 (At.sub (AtH.at hat29 hst.sub) 0 2) rfl (L_nil ⟨rfl,_,_,rfl,Le.refl _,fun _ _=>rfl,hst⟩)
 refine opsS_cons (fun f w_ _ _ s _ _ hst=>mF ((s 1 rfl).trans sf1) rfl (nO rfl rfl hst)) (opsS_cons (fun f w_ _ _ s _ _ hst=>mF ((s 5 rfl).trans rfl) rfl (nO rfl rfl hst)) (opsS_cons ?_ ?_))
 intro f w_ H16 X16 hS16 hE16 hP16 hst
 refine L_ix (r:=rTerm) rfl Try.underlying39 Try.sizeOf117 (hP16 4 20 rfl rfl) (RP.mono _ h1 (Le.trans l4 hE16)) (hP16 5 21 rfl rfl) hx11 (fun g31 o32 cs_g31 hrk_hat33 hat33=>?_)
 obtain rfl:=rTerm_iff.1 hrk_hat33
 exact L_nil ⟨rfl,_,_,rfl,Le.refl _,fun _ _=>⟨_,_,_,rfl,hrk_hat33,hat33⟩,hst⟩
 refine opsS_cons ?_ ?_
 intro f w_ H16 X16 hS16 hE16 hP16 hst
 obtain ⟨g35,o35,cs35,hv35,hrk_hat35,hat35⟩:=(hP16 6 22 rfl rfl)
 obtain rfl:=rTerm_iff.1 hrk_hat35
 refine L_lda (cs:=[I x11.coef,I x11.lit]) rfl Try.isAgg117 Try.sizeOf117 hv35 (At.sub (AtH.at hat35 hst.sub) 0 2) rfl (L_nil ⟨rfl,_,_,rfl,Le.refl _,fun _ _=>rfl,hst⟩)
 exact opsS_nil
 refine L_tneq (x1:=x_5.coef) (x2:=x_5.lit) (y1:=x11.coef) (y2:=x11.lit) rfl termEq_117 (hT16 3 19 rfl rfl) (hT16 7 23 rfl rfl) (nn (W_cond (b:=(!(x_5 == x11))) rfl (fun hc37=>?_) (fun hc37=>?_)))
 have hB5:=(ite_t hc37).symm.trans hB5
 refine sq (aB rfl (nn (W_ret (retG1 (v1:=Bo false) Try.results119 rfl ?_))))
 obtain rfl:=so hB5
 obtain rfl:=so hL5
 obtain rfl:=so hF
 exact ⟨rfl,(Star.down hst (Le.trans l4 hE16) c0)⟩
 have hB5:=(ite_f hc37).symm.trans hB5
 refine W_skip (W_region (L_add rfl ((hS16 13 rfl).trans sf13) rfl (mI rfl (nn ?_))))
 obtain rfl:=so hB5
 show ∃ m,m < _∧I5 m _ _
 refine ⟨rest5.length,by simp,?_⟩
 exact ij hI5 ⟨i_2 + 1,rest5,H16,rfl,drop_next hd5,by simp at hl5; omega,hL5,(Le.trans l4 hE16),((hS16 0 rfl).trans sf0),((hS16 1 rfl).trans sf1),((hS16 12 rfl).trans sf12),(Eq.trans rfl (congrArg (Value.int .i64) (i64_succ (n:=s1.length) (by simp at hl5; omega) hlen5))),hst⟩
 rcases suf5 with _ | ⟨_,_⟩
 obtain rfl:=range_nil hL5
 refine W_exit (rj hR5 ⟨H3,rfl,l4,hst⟩)
 exact absurd (of_decide_eq_false hc6) (by simp at hl5; omega)
 intro f w_ hR
 obtain ⟨H3,rfl,l4,hst⟩:=rk hR5 hR
 refine sq (aB rfl (nn (W_ret (retG1 (v1:=Bo true) Try.results119 rfl ?_))))
 obtain rfl:=so hF
 exact ⟨rfl,(Star.down hst l4 c0)⟩
theorem i_ConstraintSame_c {a : Con} {b : Con} {v0_0 : Value} {v1_0 : Value} {H : FH} {w : World} (hst : Star H w []) (h0_0 : (rS 117 rTerm).rel H [v0_0] a.terms) (h1_0 : (rS 117 rTerm).rel H [v1_0] b.terms) {r : Bool} (hF : i_ConstraintSame a b = some r) :
 C Try.prog 82 #[.agg #[v0_0,I a.bound],.agg #[v1_0,I b.bound]] w fun v w'=>v = Bo r∧Star H w' []:=by
 unfold i_ConstraintSame at hF
 refine C_enter Try.func82 rfl Try.ntmps82 rfl (sq (L_box (v:=.agg #[v0_0,I a.bound]) (cs:=#[v0_0,I a.bound]) rfl rfl rfl hst (fun g5 w6 hst=>L_box (v:=.agg #[v1_0,I b.bound]) (cs:=#[v1_0,I b.bound]) rfl rfl rfl hst (fun g7 w8 hst=>aB rfl (nq ?_)))))
 obtain ⟨b16,hb16,hF⟩:=bind_some hF
 obtain ⟨R17,hR17⟩:=exR fun f w_=>f 4 = Bo b16∧Star H w_ ([])
 refine W_join R17 ?_ ?_
 refine W_region (fA 1 fa_41_1 rfl rfl (ldB 1 hst Try.isAgg3 rfl rfl rfl (fA 1 fa_41_1 rfl rfl (ldB 0 hst Try.isAgg3 rfl rfl rfl (L_eql rfl rfl rfl (mB rfl (L_split (d:=10) (b:=(a.bound == b.bound)) rfl (fun hc18=>?_) (fun hc18=>?_))))))))
 rw [ite_t hc18] at hb16
 obtain ⟨x14,hx14,hb16⟩:=bind_some hb16
 refine fA 0 fa_41_0 rfl rfl (ldB 1 hst Try.isAgg39 rfl rfl rfl (fA 0 fa_41_0 rfl rfl (ldB 0 hst Try.isAgg39 rfl rfl rfl ?_)))
 obtain ⟨H19b,l20,s21,z22,k23⟩:=hst.borrow
 refine L_call rfl Try.call119 (ops2 rfl rfl) (slices_Equal_implTerm_c (s1:=a.terms) (s2:=b.terms) s21 (RP.mono _ h0_0 l20) (RP.mono _ h1_0 l20) hx14) ?_
 rintro _ w24 ⟨rfl,hst⟩
 have hst:=k23 hst c0
 refine L_pick (v:=Bo b16) rfl rfl (congrArg Value.bool (so hb16)) (aB rfl (nn (rj hR17 ⟨rfl,(Star.keepN 0 hst)⟩)))
 rw [ite_f hc18] at hb16
 refine ps rfl (ps rfl (ps rfl (ps rfl (ps rfl (L_pick (v:=Bo b16) rfl rfl (congrArg Value.bool (so hb16)) (aB rfl (nn (rj hR17 ⟨rfl,(Star.keepN 0 hst)⟩))))))))
 intro f w_ hR
 obtain ⟨sf4,hst⟩:=rk hR17 hR
 refine W_ret (retG1 (v1:=Bo b16) Try.results82 sf4 ?_)
 obtain rfl:=so hF
 exact ⟨rfl,hst⟩
theorem i_Step_shaped_c {s : Step} {v0_3 : Value} {H : FH} {w : World} (hst : Star H w []) (h0_3 : (rS 117 rTerm).rel H [v0_3] s.given.terms) {r : Bool} (hF : i_Step_shaped s = some r) :
 C Try.prog 128 #[.agg #[I s.kind,I s.a,I s.b,v0_3,I s.given.bound]] w fun v w'=>v = Bo r∧Star H w' []:=by
 unfold i_Step_shaped at hF
 refine C_enter Try.func128 rfl Try.ntmps128 rfl (sq (L_box (v:=.agg #[I s.kind,I s.a,I s.b,v0_3,I s.given.bound]) (cs:=#[I s.kind,I s.a,I s.b,v0_3,I s.given.bound]) rfl rfl rfl hst (fun g3 w4 hst=>aB rfl (nq ?_))))
 obtain ⟨x10,hx10,hF⟩:=bind_some hF
 refine W_region (fA 0 fa_63_0 rfl rfl (ldB 0 hst Try.isAgg3 rfl rfl rfl ?_))
 obtain ⟨H12b,l13,s14,z15,k16⟩:=hst.borrow
 refine L_call rfl Try.call88 (ops1 rfl) (i_refers_c (kind:=s.kind) s14 hx10) ?_
 rintro _ w17 ⟨rfl,hst⟩
 have hst:=k16 hst c0
 refine mV (.tuple #[I x10.1,Bo x10.2]) rfl (L_ex (v:=I x10.1) rfl rfl rfl (L_ex (v:=Bo x10.2) rfl rfl rfl (aI rfl (aB rfl (nq ?_)))))
 obtain ⟨b26,hb26,hF⟩:=bind_some hF
 obtain ⟨R27,hR27⟩:=exR fun f w_=>f 2 = Bo b26∧Star H w_ ([])
 refine W_join R27 ?_ ?_
 refine W_region (mI rfl (L_geq rfl rfl rfl (mB rfl (L_split (d:=13) (b:=decide (x10.1 ≥ 0)) rfl (fun hc28=>?_) (fun hc28=>?_)))))
 refine mI rfl (L_gtr rfl rfl rfl (mB rfl (L_split (d:=16) (b:=decide (x10.1 > 0)) rfl (fun hc29=>?_) (fun hc29=>?_))))
 refine ps rfl (ps rfl (ps rfl (L_pick (v:=Bo ((decide (x10.1 > 0)) || (s.kind == 6))) rfl rfl (or_t hc29) (mB rfl (L_split (d:=21) (b:=((decide (x10.1 > 0)) || (s.kind == 6))) rfl (fun hc30=>?_) (fun hc30=>?_))))))
 refine ps rfl (ps rfl (ps rfl (L_pick (v:=Bo (((decide (x10.1 > 0)) || (s.kind == 6)) || (s.a == 0))) rfl rfl (or_t hc30) (L_pick (v:=Bo ((decide (x10.1 ≥ 0)) && (((decide (x10.1 > 0)) || (s.kind == 6)) || (s.a == 0)))) rfl rfl (and_t hc28 rfl) (mB rfl (L_split (d:=27) (b:=((decide (x10.1 ≥ 0)) && (((decide (x10.1 > 0)) || (s.kind == 6)) || (s.a == 0)))) rfl (fun hc31=>?_) (fun hc31=>?_)))))))
 refine mI rfl (L_eql rfl rfl rfl (mB rfl (L_split (d:=30) (b:=(x10.1 == 2)) rfl (fun hc32=>?_) (fun hc32=>?_))))
 refine ps rfl (L_pick (v:=Bo ((x10.1 == 2) || x10.2)) rfl rfl (or_t hc32) (mB rfl (L_split (d:=33) (b:=((x10.1 == 2) || x10.2)) rfl (fun hc33=>?_) (fun hc33=>?_))))
 refine ps rfl (ps rfl (ps rfl (L_pick (v:=Bo (((x10.1 == 2) || x10.2) || (s.b == 0))) rfl rfl (or_t hc33) (L_pick (v:=Bo (((decide (x10.1 ≥ 0)) && (((decide (x10.1 > 0)) || (s.kind == 6)) || (s.a == 0))) && (((x10.1 == 2) || x10.2) || (s.b == 0)))) rfl rfl (and_t hc31 rfl) (mB rfl (L_split (d:=39) (b:=(((decide (x10.1 ≥ 0)) && (((decide (x10.1 > 0)) || (s.kind == 6)) || (s.a == 0))) && (((x10.1 == 2) || x10.2) || (s.b == 0)))) rfl (fun hc34=>?_) (fun hc34=>?_)))))))
 rw [ite_t hc34] at hb26
 obtain ⟨b25,hb25,hb26⟩:=bind_some hb26
 refine fA 0 fa_63_0 rfl rfl (ldB 0 hst Try.isAgg3 rfl rfl rfl (L_eql rfl rfl rfl (mB rfl (L_split (d:=43) (b:=(s.kind == 7)) rfl (fun hc35=>?_) (fun hc35=>?_)))))
 rw [ite_t hc35] at hb25
 refine ps rfl (ps rfl (ps rfl (ps rfl (L_pick (v:=Bo b25) rfl rfl (congrArg Value.bool (so hb25)) (L_pick (v:=Bo b26) rfl rfl (congrArg Value.bool (so hb26)) (aB rfl (nn (rj hR27 ⟨rfl,(Star.keepN 0 hst)⟩))))))))
 rw [ite_f hc35] at hb25
 obtain ⟨x23,hx23,hb25⟩:=bind_some hb25
 refine fA 3 fa_63_3 rfl rfl (L_lda (cs:=[v0_3,I s.given.bound]) rfl Try.isAgg41 Try.sizeOf41 rfl (At.sub0 (Blk.at (Star.blkAt 0 hst rfl)) 3 2) rfl (L_bld rfl (parts0 ) (bld_41_  ) ?_))
 obtain ⟨H36b,l37,s38,z39,k40⟩:=hst.borrow
 refine L_call rfl Try.call82 (ops2 rfl rfl) (i_ConstraintSame_c (a:=s.given) (b:=({ terms:=[],bound:=0 } : Con)) s38 (RP.mono _ h0_3 l37) (rel_nil _ _ _) hx23) ?_
 rintro _ w41 ⟨rfl,hst⟩
 have hst:=k40 hst c0
 refine L_pick (v:=Bo b25) rfl rfl (congrArg Value.bool (so hb25)) (L_pick (v:=Bo b26) rfl rfl (congrArg Value.bool (so hb26)) (aB rfl (nn (rj hR27 ⟨rfl,(Star.keepN 0 hst)⟩))))
 rw [ite_f hc34] at hb26
 refine ps rfl (ps rfl (ps rfl (ps rfl (ps rfl (ps rfl (ps rfl (ps rfl (ps rfl (L_pick (v:=Bo b26) rfl rfl (congrArg Value.bool (so hb26)) (aB rfl (nn (rj hR27 ⟨rfl,(Star.keepN 0 hst)⟩))))))))))))
 refine fA 2 fa_63_2 rfl rfl (ldB 0 hst Try.isAgg3 rfl rfl rfl (L_eql rfl rfl rfl (L_pick (v:=Bo (((x10.1 == 2) || x10.2) || (s.b == 0))) rfl rfl (or_f hc33 rfl) (L_pick (v:=Bo (((decide (x10.1 ≥ 0)) && (((decide (x10.1 > 0)) || (s.kind == 6)) || (s.a == 0))) && (((x10.1 == 2) || x10.2) || (s.b == 0)))) rfl rfl (and_t hc31 rfl) (mB rfl (L_split (d:=39) (b:=(((decide (x10.1 ≥ 0)) && (((decide (x10.1 > 0)) || (s.kind == 6)) || (s.a == 0))) && (((x10.1 == 2) || x10.2) || (s.b == 0)))) rfl (fun hc42=>?_) (fun hc42=>?_)))))))
 rw [ite_t hc42] at hb26
 obtain ⟨b25,hb25,hb26⟩:=bind_some hb26
 refine fA 0 fa_63_0 rfl rfl (ldB 0 hst Try.isAgg3 rfl rfl rfl (L_eql rfl rfl rfl (mB rfl (L_split (d:=43) (b:=(s.kind == 7)) rfl (fun hc43=>?_) (fun hc43=>?_)))))
 rw [ite_t hc43] at hb25
 refine ps rfl (ps rfl (ps rfl (ps rfl (L_pick (v:=Bo b25) rfl rfl (congrArg Value.bool (so hb25)) (L_pick (v:=Bo b26) rfl rfl (congrArg Value.bool (so hb26)) (aB rfl (nn (rj hR27 ⟨rfl,(Star.keepN 0 hst)⟩))))))))
 rw [ite_f hc43] at hb25
 obtain ⟨x23,hx23,hb25⟩:=bind_some hb25
 refine fA 3 fa_63_3 rfl rfl (L_lda (cs:=[v0_3,I s.given.bound]) rfl Try.isAgg41 Try.sizeOf41 rfl (At.sub0 (Blk.at (Star.blkAt 0 hst rfl)) 3 2) rfl (L_bld rfl (parts0 ) (bld_41_  ) ?_))
 obtain ⟨H44b,l45,s46,z47,k48⟩:=hst.borrow
 refine L_call rfl Try.call82 (ops2 rfl rfl) (i_ConstraintSame_c (a:=s.given) (b:=({ terms:=[],bound:=0 } : Con)) s46 (RP.mono _ h0_3 l45) (rel_nil _ _ _) hx23) ?_
 rintro _ w49 ⟨rfl,hst⟩
 have hst:=k48 hst c0
 refine L_pick (v:=Bo b25) rfl rfl (congrArg Value.bool (so hb25)) (L_pick (v:=Bo b26) rfl rfl (congrArg Value.bool (so hb26)) (aB rfl (nn (rj hR27 ⟨rfl,(Star.keepN 0 hst)⟩))))
 rw [ite_f hc42] at hb26
 refine ps rfl (ps rfl (ps rfl (ps rfl (ps rfl (ps rfl (ps rfl (ps rfl (ps rfl (L_pick (v:=Bo b26) rfl rfl (congrArg Value.bool (so hb26)) (aB rfl (nn (rj hR27 ⟨rfl,(Star.keepN 0 hst)⟩))))))))))))
 refine mB rfl (L_pick (v:=Bo ((x10.1 == 2) || x10.2)) rfl rfl (or_f hc32 rfl) (mB rfl (L_split (d:=33) (b:=((x10.1 == 2) || x10.2)) rfl (fun hc50=>?_) (fun hc50=>?_))))
 refine ps rfl (ps rfl (ps rfl (L_pick (v:=Bo (((x10.1 == 2) || x10.2) || (s.b == 0))) rfl rfl (or_t hc50) (L_pick (v:=Bo (((decide (x10.1 ≥ 0)) && (((decide (x10.1 > 0)) || (s.kind == 6)) || (s.a == 0))) && (((x10.1 == 2) || x10.2) || (s.b == 0)))) rfl rfl (and_t hc31 rfl) (mB rfl (L_split (d:=39) (b:=(((decide (x10.1 ≥ 0)) && (((decide (x10.1 > 0)) || (s.kind == 6)) || (s.a == 0))) && (((x10.1 == 2) || x10.2) || (s.b == 0)))) rfl (fun hc51=>?_) (fun hc51=>?_)))))))
 rw [ite_t hc51] at hb26
 obtain ⟨b25,hb25,hb26⟩:=bind_some hb26
 refine fA 0 fa_63_0 rfl rfl (ldB 0 hst Try.isAgg3 rfl rfl rfl (L_eql rfl rfl rfl (mB rfl (L_split (d:=43) (b:=(s.kind == 7)) rfl (fun hc52=>?_) (fun hc52=>?_)))))
 rw [ite_t hc52] at hb25
 refine ps rfl (ps rfl (ps rfl (ps rfl (L_pick (v:=Bo b25) rfl rfl (congrArg Value.bool (so hb25)) (L_pick (v:=Bo b26) rfl rfl (congrArg Value.bool (so hb26)) (aB rfl (nn (rj hR27 ⟨rfl,(Star.keepN 0 hst)⟩))))))))
 rw [ite_f hc52] at hb25
 obtain ⟨x23,hx23,hb25⟩:=bind_some hb25
 refine fA 3 fa_63_3 rfl rfl (L_lda (cs:=[v0_3,I s.given.bound]) rfl Try.isAgg41 Try.sizeOf41 rfl (At.sub0 (Blk.at (Star.blkAt 0 hst rfl)) 3 2) rfl (L_bld rfl (parts0 ) (bld_41_  ) ?_))
 obtain ⟨H53b,l54,s55,z56,k57⟩:=hst.borrow
 refine L_call rfl Try.call82 (ops2 rfl rfl) (i_ConstraintSame_c (a:=s.given) (b:=({ terms:=[],bound:=0 } : Con)) s55 (RP.mono _ h0_3 l54) (rel_nil _ _ _) hx23) ?_
 rintro _ w58 ⟨rfl,hst⟩
 have hst:=k57 hst c0
 refine L_pick (v:=Bo b25) rfl rfl (congrArg Value.bool (so hb25)) (L_pick (v:=Bo b26) rfl rfl (congrArg Value.bool (so hb26)) (aB rfl (nn (rj hR27 ⟨rfl,(Star.keepN 0 hst)⟩))))
 rw [ite_f hc51] at hb26
 refine ps rfl (ps rfl (ps rfl (ps rfl (ps rfl (ps rfl (ps rfl (ps rfl (ps rfl (L_pick (v:=Bo b26) rfl rfl (congrArg Value.bool (so hb26)) (aB rfl (nn (rj hR27 ⟨rfl,(Star.keepN 0 hst)⟩))))))))))))
 refine fA 2 fa_63_2 rfl rfl (ldB 0 hst Try.isAgg3 rfl rfl rfl (L_eql rfl rfl rfl (L_pick (v:=Bo (((x10.1 == 2) || x10.2) || (s.b == 0))) rfl rfl (or_f hc50 rfl) (L_pick (v:=Bo (((decide (x10.1 ≥ 0)) && (((decide (x10.1 > 0)) || (s.kind == 6)) || (s.a == 0))) && (((x10.1 == 2) || x10.2) || (s.b == 0)))) rfl rfl (and_t hc31 rfl) (mB rfl (L_split (d:=39) (b:=(((decide (x10.1 ≥ 0)) && (((decide (x10.1 > 0)) || (s.kind == 6)) || (s.a == 0))) && (((x10.1 == 2) || x10.2) || (s.b == 0)))) rfl (fun hc59=>?_) (fun hc59=>?_)))))))
 rw [ite_t hc59] at hb26
 obtain ⟨b25,hb25,hb26⟩:=bind_some hb26
 refine fA 0 fa_63_0 rfl rfl (ldB 0 hst Try.isAgg3 rfl rfl rfl (L_eql rfl rfl rfl (mB rfl (L_split (d:=43) (b:=(s.kind == 7)) rfl (fun hc60=>?_) (fun hc60=>?_)))))
 rw [ite_t hc60] at hb25
 refine ps rfl (ps rfl (ps rfl (ps rfl (L_pick (v:=Bo b25) rfl rfl (congrArg Value.bool (so hb25)) (L_pick (v:=Bo b26) rfl rfl (congrArg Value.bool (so hb26)) (aB rfl (nn (rj hR27 ⟨rfl,(Star.keepN 0 hst)⟩))))))))
 rw [ite_f hc60] at hb25
 obtain ⟨x23,hx23,hb25⟩:=bind_some hb25
 refine fA 3 fa_63_3 rfl rfl (L_lda (cs:=[v0_3,I s.given.bound]) rfl Try.isAgg41 Try.sizeOf41 rfl (At.sub0 (Blk.at (Star.blkAt 0 hst rfl)) 3 2) rfl (L_bld rfl (parts0 ) (bld_41_  ) ?_))
 obtain ⟨H61b,l62,s63,z64,k65⟩:=hst.borrow
 refine L_call rfl Try.call82 (ops2 rfl rfl) (i_ConstraintSame_c (a:=s.given) (b:=({ terms:=[],bound:=0 } : Con)) s63 (RP.mono _ h0_3 l62) (rel_nil _ _ _) hx23) ?_
 rintro _ w66 ⟨rfl,hst⟩
 have hst:=k65 hst c0
 refine L_pick (v:=Bo b25) rfl rfl (congrArg Value.bool (so hb25)) (L_pick (v:=Bo b26) rfl rfl (congrArg Value.bool (so hb26)) (aB rfl (nn (rj hR27 ⟨rfl,(Star.keepN 0 hst)⟩))))
 rw [ite_f hc59] at hb26
 refine ps rfl (ps rfl (ps rfl (ps rfl (ps rfl (ps rfl (ps rfl (ps rfl (ps rfl (L_pick (v:=Bo b26) rfl rfl (congrArg Value.bool (so hb26)) (aB rfl (nn (rj hR27 ⟨rfl,(Star.keepN 0 hst)⟩))))))))))))
 refine ps rfl (ps rfl (ps rfl (ps rfl (ps rfl (ps rfl (ps rfl (ps rfl (ps rfl (ps rfl (L_pick (v:=Bo (((decide (x10.1 ≥ 0)) && (((decide (x10.1 > 0)) || (s.kind == 6)) || (s.a == 0))) && (((x10.1 == 2) || x10.2) || (s.b == 0)))) rfl rfl (and_f hc31) (mB rfl (L_split (d:=39) (b:=(((decide (x10.1 ≥ 0)) && (((decide (x10.1 > 0)) || (s.kind == 6)) || (s.a == 0))) && (((x10.1 == 2) || x10.2) || (s.b == 0)))) rfl (fun hc67=>?_) (fun hc67=>?_)))))))))))))
 rw [ite_t hc67] at hb26
 obtain ⟨b25,hb25,hb26⟩:=bind_some hb26
 refine fA 0 fa_63_0 rfl rfl (ldB 0 hst Try.isAgg3 rfl rfl rfl (L_eql rfl rfl rfl (mB rfl (L_split (d:=43) (b:=(s.kind == 7)) rfl (fun hc68=>?_) (fun hc68=>?_)))))
 rw [ite_t hc68] at hb25
 refine ps rfl (ps rfl (ps rfl (ps rfl (L_pick (v:=Bo b25) rfl rfl (congrArg Value.bool (so hb25)) (L_pick (v:=Bo b26) rfl rfl (congrArg Value.bool (so hb26)) (aB rfl (nn (rj hR27 ⟨rfl,(Star.keepN 0 hst)⟩))))))))
 rw [ite_f hc68] at hb25
 obtain ⟨x23,hx23,hb25⟩:=bind_some hb25
 refine fA 3 fa_63_3 rfl rfl (L_lda (cs:=[v0_3,I s.given.bound]) rfl Try.isAgg41 Try.sizeOf41 rfl (At.sub0 (Blk.at (Star.blkAt 0 hst rfl)) 3 2) rfl (L_bld rfl (parts0 ) (bld_41_  ) ?_))
 obtain ⟨H69b,l70,s71,z72,k73⟩:=hst.borrow
 refine L_call rfl Try.call82 (ops2 rfl rfl) (i_ConstraintSame_c (a:=s.given) (b:=({ terms:=[],bound:=0 } : Con)) s71 (RP.mono _ h0_3 l70) (rel_nil _ _ _) hx23) ?_
 rintro _ w74 ⟨rfl,hst⟩
 have hst:=k73 hst c0
 refine L_pick (v:=Bo b25) rfl rfl (congrArg Value.bool (so hb25)) (L_pick (v:=Bo b26) rfl rfl (congrArg Value.bool (so hb26)) (aB rfl (nn (rj hR27 ⟨rfl,(Star.keepN 0 hst)⟩))))
 rw [ite_f hc67] at hb26
 refine ps rfl (ps rfl (ps rfl (ps rfl (ps rfl (ps rfl (ps rfl (ps rfl (ps rfl (L_pick (v:=Bo b26) rfl rfl (congrArg Value.bool (so hb26)) (aB rfl (nn (rj hR27 ⟨rfl,(Star.keepN 0 hst)⟩))))))))))))
 refine fA 1 fa_63_1 rfl rfl (ldB 0 hst Try.isAgg3 rfl rfl rfl (L_eql rfl rfl rfl (L_pick (v:=Bo (((decide (x10.1 > 0)) || (s.kind == 6)) || (s.a == 0))) rfl rfl (or_f hc30 rfl) (L_pick (v:=Bo ((decide (x10.1 ≥ 0)) && (((decide (x10.1 > 0)) || (s.kind == 6)) || (s.a == 0)))) rfl rfl (and_t hc28 rfl) (mB rfl (L_split (d:=27) (b:=((decide (x10.1 ≥ 0)) && (((decide (x10.1 > 0)) || (s.kind == 6)) || (s.a == 0)))) rfl (fun hc75=>?_) (fun hc75=>?_)))))))
 refine mI rfl (L_eql rfl rfl rfl (mB rfl (L_split (d:=30) (b:=(x10.1 == 2)) rfl (fun hc76=>?_) (fun hc76=>?_))))
 refine ps rfl (L_pick (v:=Bo ((x10.1 == 2) || x10.2)) rfl rfl (or_t hc76) (mB rfl (L_split (d:=33) (b:=((x10.1 == 2) || x10.2)) rfl (fun hc77=>?_) (fun hc77=>?_))))
 refine ps rfl (ps rfl (ps rfl (L_pick (v:=Bo (((x10.1 == 2) || x10.2) || (s.b == 0))) rfl rfl (or_t hc77) (L_pick (v:=Bo (((decide (x10.1 ≥ 0)) && (((decide (x10.1 > 0)) || (s.kind == 6)) || (s.a == 0))) && (((x10.1 == 2) || x10.2) || (s.b == 0)))) rfl rfl (and_t hc75 rfl) (mB rfl (L_split (d:=39) (b:=(((decide (x10.1 ≥ 0)) && (((decide (x10.1 > 0)) || (s.kind == 6)) || (s.a == 0))) && (((x10.1 == 2) || x10.2) || (s.b == 0)))) rfl (fun hc78=>?_) (fun hc78=>?_)))))))
 rw [ite_t hc78] at hb26
 obtain ⟨b25,hb25,hb26⟩:=bind_some hb26
 refine fA 0 fa_63_0 rfl rfl (ldB 0 hst Try.isAgg3 rfl rfl rfl (L_eql rfl rfl rfl (mB rfl (L_split (d:=43) (b:=(s.kind == 7)) rfl (fun hc79=>?_) (fun hc79=>?_)))))
 rw [ite_t hc79] at hb25
 refine ps rfl (ps rfl (ps rfl (ps rfl (L_pick (v:=Bo b25) rfl rfl (congrArg Value.bool (so hb25)) (L_pick (v:=Bo b26) rfl rfl (congrArg Value.bool (so hb26)) (aB rfl (nn (rj hR27 ⟨rfl,(Star.keepN 0 hst)⟩))))))))
 rw [ite_f hc79] at hb25
 obtain ⟨x23,hx23,hb25⟩:=bind_some hb25
 refine fA 3 fa_63_3 rfl rfl (L_lda (cs:=[v0_3,I s.given.bound]) rfl Try.isAgg41 Try.sizeOf41 rfl (At.sub0 (Blk.at (Star.blkAt 0 hst rfl)) 3 2) rfl (L_bld rfl (parts0 ) (bld_41_  ) ?_))
 obtain ⟨H80b,l81,s82,z83,k84⟩:=hst.borrow
 refine L_call rfl Try.call82 (ops2 rfl rfl) (i_ConstraintSame_c (a:=s.given) (b:=({ terms:=[],bound:=0 } : Con)) s82 (RP.mono _ h0_3 l81) (rel_nil _ _ _) hx23) ?_
 rintro _ w85 ⟨rfl,hst⟩
 have hst:=k84 hst c0
 refine L_pick (v:=Bo b25) rfl rfl (congrArg Value.bool (so hb25)) (L_pick (v:=Bo b26) rfl rfl (congrArg Value.bool (so hb26)) (aB rfl (nn (rj hR27 ⟨rfl,(Star.keepN 0 hst)⟩))))
 rw [ite_f hc78] at hb26
 refine ps rfl (ps rfl (ps rfl (ps rfl (ps rfl (ps rfl (ps rfl (ps rfl (ps rfl (L_pick (v:=Bo b26) rfl rfl (congrArg Value.bool (so hb26)) (aB rfl (nn (rj hR27 ⟨rfl,(Star.keepN 0 hst)⟩))))))))))))
 refine fA 2 fa_63_2 rfl rfl (ldB 0 hst Try.isAgg3 rfl rfl rfl (L_eql rfl rfl rfl (L_pick (v:=Bo (((x10.1 == 2) || x10.2) || (s.b == 0))) rfl rfl (or_f hc77 rfl) (L_pick (v:=Bo (((decide (x10.1 ≥ 0)) && (((decide (x10.1 > 0)) || (s.kind == 6)) || (s.a == 0))) && (((x10.1 == 2) || x10.2) || (s.b == 0)))) rfl rfl (and_t hc75 rfl) (mB rfl (L_split (d:=39) (b:=(((decide (x10.1 ≥ 0)) && (((decide (x10.1 > 0)) || (s.kind == 6)) || (s.a == 0))) && (((x10.1 == 2) || x10.2) || (s.b == 0)))) rfl (fun hc86=>?_) (fun hc86=>?_)))))))
 rw [ite_t hc86] at hb26
 obtain ⟨b25,hb25,hb26⟩:=bind_some hb26
 refine fA 0 fa_63_0 rfl rfl (ldB 0 hst Try.isAgg3 rfl rfl rfl (L_eql rfl rfl rfl (mB rfl (L_split (d:=43) (b:=(s.kind == 7)) rfl (fun hc87=>?_) (fun hc87=>?_)))))
 rw [ite_t hc87] at hb25
 refine ps rfl (ps rfl (ps rfl (ps rfl (L_pick (v:=Bo b25) rfl rfl (congrArg Value.bool (so hb25)) (L_pick (v:=Bo b26) rfl rfl (congrArg Value.bool (so hb26)) (aB rfl (nn (rj hR27 ⟨rfl,(Star.keepN 0 hst)⟩))))))))
 rw [ite_f hc87] at hb25
 obtain ⟨x23,hx23,hb25⟩:=bind_some hb25
 refine fA 3 fa_63_3 rfl rfl (L_lda (cs:=[v0_3,I s.given.bound]) rfl Try.isAgg41 Try.sizeOf41 rfl (At.sub0 (Blk.at (Star.blkAt 0 hst rfl)) 3 2) rfl (L_bld rfl (parts0 ) (bld_41_  ) ?_))
 obtain ⟨H88b,l89,s90,z91,k92⟩:=hst.borrow
 refine L_call rfl Try.call82 (ops2 rfl rfl) (i_ConstraintSame_c (a:=s.given) (b:=({ terms:=[],bound:=0 } : Con)) s90 (RP.mono _ h0_3 l89) (rel_nil _ _ _) hx23) ?_
 rintro _ w93 ⟨rfl,hst⟩
 have hst:=k92 hst c0
 refine L_pick (v:=Bo b25) rfl rfl (congrArg Value.bool (so hb25)) (L_pick (v:=Bo b26) rfl rfl (congrArg Value.bool (so hb26)) (aB rfl (nn (rj hR27 ⟨rfl,(Star.keepN 0 hst)⟩))))
 rw [ite_f hc86] at hb26
 refine ps rfl (ps rfl (ps rfl (ps rfl (ps rfl (ps rfl (ps rfl (ps rfl (ps rfl (L_pick (v:=Bo b26) rfl rfl (congrArg Value.bool (so hb26)) (aB rfl (nn (rj hR27 ⟨rfl,(Star.keepN 0 hst)⟩))))))))))))
 refine mB rfl (L_pick (v:=Bo ((x10.1 == 2) || x10.2)) rfl rfl (or_f hc76 rfl) (mB rfl (L_split (d:=33) (b:=((x10.1 == 2) || x10.2)) rfl (fun hc94=>?_) (fun hc94=>?_))))
 refine ps rfl (ps rfl (ps rfl (L_pick (v:=Bo (((x10.1 == 2) || x10.2) || (s.b == 0))) rfl rfl (or_t hc94) (L_pick (v:=Bo (((decide (x10.1 ≥ 0)) && (((decide (x10.1 > 0)) || (s.kind == 6)) || (s.a == 0))) && (((x10.1 == 2) || x10.2) || (s.b == 0)))) rfl rfl (and_t hc75 rfl) (mB rfl (L_split (d:=39) (b:=(((decide (x10.1 ≥ 0)) && (((decide (x10.1 > 0)) || (s.kind == 6)) || (s.a == 0))) && (((x10.1 == 2) || x10.2) || (s.b == 0)))) rfl (fun hc95=>?_) (fun hc95=>?_)))))))
 rw [ite_t hc95] at hb26
 obtain ⟨b25,hb25,hb26⟩:=bind_some hb26
 refine fA 0 fa_63_0 rfl rfl (ldB 0 hst Try.isAgg3 rfl rfl rfl (L_eql rfl rfl rfl (mB rfl (L_split (d:=43) (b:=(s.kind == 7)) rfl (fun hc96=>?_) (fun hc96=>?_)))))
 rw [ite_t hc96] at hb25
 refine ps rfl (ps rfl (ps rfl (ps rfl (L_pick (v:=Bo b25) rfl rfl (congrArg Value.bool (so hb25)) (L_pick (v:=Bo b26) rfl rfl (congrArg Value.bool (so hb26)) (aB rfl (nn (rj hR27 ⟨rfl,(Star.keepN 0 hst)⟩))))))))
 rw [ite_f hc96] at hb25
 obtain ⟨x23,hx23,hb25⟩:=bind_some hb25
 refine fA 3 fa_63_3 rfl rfl (L_lda (cs:=[v0_3,I s.given.bound]) rfl Try.isAgg41 Try.sizeOf41 rfl (At.sub0 (Blk.at (Star.blkAt 0 hst rfl)) 3 2) rfl (L_bld rfl (parts0 ) (bld_41_  ) ?_))
 obtain ⟨H97b,l98,s99,z100,k101⟩:=hst.borrow
 refine L_call rfl Try.call82 (ops2 rfl rfl) (i_ConstraintSame_c (a:=s.given) (b:=({ terms:=[],bound:=0 } : Con)) s99 (RP.mono _ h0_3 l98) (rel_nil _ _ _) hx23) ?_
 rintro _ w102 ⟨rfl,hst⟩
 have hst:=k101 hst c0
 refine L_pick (v:=Bo b25) rfl rfl (congrArg Value.bool (so hb25)) (L_pick (v:=Bo b26) rfl rfl (congrArg Value.bool (so hb26)) (aB rfl (nn (rj hR27 ⟨rfl,(Star.keepN 0 hst)⟩))))
 rw [ite_f hc95] at hb26
 refine ps rfl (ps rfl (ps rfl (ps rfl (ps rfl (ps rfl (ps rfl (ps rfl (ps rfl (L_pick (v:=Bo b26) rfl rfl (congrArg Value.bool (so hb26)) (aB rfl (nn (rj hR27 ⟨rfl,(Star.keepN 0 hst)⟩))))))))))))
 refine fA 2 fa_63_2 rfl rfl (ldB 0 hst Try.isAgg3 rfl rfl rfl (L_eql rfl rfl rfl (L_pick (v:=Bo (((x10.1 == 2) || x10.2) || (s.b == 0))) rfl rfl (or_f hc94 rfl) (L_pick (v:=Bo (((decide (x10.1 ≥ 0)) && (((decide (x10.1 > 0)) || (s.kind == 6)) || (s.a == 0))) && (((x10.1 == 2) || x10.2) || (s.b == 0)))) rfl rfl (and_t hc75 rfl) (mB rfl (L_split (d:=39) (b:=(((decide (x10.1 ≥ 0)) && (((decide (x10.1 > 0)) || (s.kind == 6)) || (s.a == 0))) && (((x10.1 == 2) || x10.2) || (s.b == 0)))) rfl (fun hc103=>?_) (fun hc103=>?_)))))))
 rw [ite_t hc103] at hb26
 obtain ⟨b25,hb25,hb26⟩:=bind_some hb26
 refine fA 0 fa_63_0 rfl rfl (ldB 0 hst Try.isAgg3 rfl rfl rfl (L_eql rfl rfl rfl (mB rfl (L_split (d:=43) (b:=(s.kind == 7)) rfl (fun hc104=>?_) (fun hc104=>?_)))))
 rw [ite_t hc104] at hb25
 refine ps rfl (ps rfl (ps rfl (ps rfl (L_pick (v:=Bo b25) rfl rfl (congrArg Value.bool (so hb25)) (L_pick (v:=Bo b26) rfl rfl (congrArg Value.bool (so hb26)) (aB rfl (nn (rj hR27 ⟨rfl,(Star.keepN 0 hst)⟩))))))))
 rw [ite_f hc104] at hb25
 obtain ⟨x23,hx23,hb25⟩:=bind_some hb25
 refine fA 3 fa_63_3 rfl rfl (L_lda (cs:=[v0_3,I s.given.bound]) rfl Try.isAgg41 Try.sizeOf41 rfl (At.sub0 (Blk.at (Star.blkAt 0 hst rfl)) 3 2) rfl (L_bld rfl (parts0 ) (bld_41_  ) ?_))
 obtain ⟨H105b,l106,s107,z108,k109⟩:=hst.borrow
 refine L_call rfl Try.call82 (ops2 rfl rfl) (i_ConstraintSame_c (a:=s.given) (b:=({ terms:=[],bound:=0 } : Con)) s107 (RP.mono _ h0_3 l106) (rel_nil _ _ _) hx23) ?_
 rintro _ w110 ⟨rfl,hst⟩
 have hst:=k109 hst c0
 refine L_pick (v:=Bo b25) rfl rfl (congrArg Value.bool (so hb25)) (L_pick (v:=Bo b26) rfl rfl (congrArg Value.bool (so hb26)) (aB rfl (nn (rj hR27 ⟨rfl,(Star.keepN 0 hst)⟩))))
 rw [ite_f hc103] at hb26
 refine ps rfl (ps rfl (ps rfl (ps rfl (ps rfl (ps rfl (ps rfl (ps rfl (ps rfl (L_pick (v:=Bo b26) rfl rfl (congrArg Value.bool (so hb26)) (aB rfl (nn (rj hR27 ⟨rfl,(Star.keepN 0 hst)⟩))))))))))))
 refine ps rfl (ps rfl (ps rfl (ps rfl (ps rfl (ps rfl (ps rfl (ps rfl (ps rfl (ps rfl (L_pick (v:=Bo (((decide (x10.1 ≥ 0)) && (((decide (x10.1 > 0)) || (s.kind == 6)) || (s.a == 0))) && (((x10.1 == 2) || x10.2) || (s.b == 0)))) rfl rfl (and_f hc75) (mB rfl (L_split (d:=39) (b:=(((decide (x10.1 ≥ 0)) && (((decide (x10.1 > 0)) || (s.kind == 6)) || (s.a == 0))) && (((x10.1 == 2) || x10.2) || (s.b == 0)))) rfl (fun hc111=>?_) (fun hc111=>?_)))))))))))))
 rw [ite_t hc111] at hb26
 obtain ⟨b25,hb25,hb26⟩:=bind_some hb26
 refine fA 0 fa_63_0 rfl rfl (ldB 0 hst Try.isAgg3 rfl rfl rfl (L_eql rfl rfl rfl (mB rfl (L_split (d:=43) (b:=(s.kind == 7)) rfl (fun hc112=>?_) (fun hc112=>?_)))))
 rw [ite_t hc112] at hb25
 refine ps rfl (ps rfl (ps rfl (ps rfl (L_pick (v:=Bo b25) rfl rfl (congrArg Value.bool (so hb25)) (L_pick (v:=Bo b26) rfl rfl (congrArg Value.bool (so hb26)) (aB rfl (nn (rj hR27 ⟨rfl,(Star.keepN 0 hst)⟩))))))))
 rw [ite_f hc112] at hb25
 obtain ⟨x23,hx23,hb25⟩:=bind_some hb25
 refine fA 3 fa_63_3 rfl rfl (L_lda (cs:=[v0_3,I s.given.bound]) rfl Try.isAgg41 Try.sizeOf41 rfl (At.sub0 (Blk.at (Star.blkAt 0 hst rfl)) 3 2) rfl (L_bld rfl (parts0 ) (bld_41_  ) ?_))
 obtain ⟨H113b,l114,s115,z116,k117⟩:=hst.borrow
 refine L_call rfl Try.call82 (ops2 rfl rfl) (i_ConstraintSame_c (a:=s.given) (b:=({ terms:=[],bound:=0 } : Con)) s115 (RP.mono _ h0_3 l114) (rel_nil _ _ _) hx23) ?_
 rintro _ w118 ⟨rfl,hst⟩
 have hst:=k117 hst c0
 refine L_pick (v:=Bo b25) rfl rfl (congrArg Value.bool (so hb25)) (L_pick (v:=Bo b26) rfl rfl (congrArg Value.bool (so hb26)) (aB rfl (nn (rj hR27 ⟨rfl,(Star.keepN 0 hst)⟩))))
 rw [ite_f hc111] at hb26
 refine ps rfl (ps rfl (ps rfl (ps rfl (ps rfl (ps rfl (ps rfl (ps rfl (ps rfl (L_pick (v:=Bo b26) rfl rfl (congrArg Value.bool (so hb26)) (aB rfl (nn (rj hR27 ⟨rfl,(Star.keepN 0 hst)⟩))))))))))))
 refine fA 0 fa_63_0 rfl rfl (ldB 0 hst Try.isAgg3 rfl rfl rfl (L_eql rfl rfl rfl (L_pick (v:=Bo ((decide (x10.1 > 0)) || (s.kind == 6))) rfl rfl (or_f hc29 rfl) (mB rfl (L_split (d:=21) (b:=((decide (x10.1 > 0)) || (s.kind == 6))) rfl (fun hc119=>?_) (fun hc119=>?_))))))
 refine ps rfl (ps rfl (ps rfl (L_pick (v:=Bo (((decide (x10.1 > 0)) || (s.kind == 6)) || (s.a == 0))) rfl rfl (or_t hc119) (L_pick (v:=Bo ((decide (x10.1 ≥ 0)) && (((decide (x10.1 > 0)) || (s.kind == 6)) || (s.a == 0)))) rfl rfl (and_t hc28 rfl) (mB rfl (L_split (d:=27) (b:=((decide (x10.1 ≥ 0)) && (((decide (x10.1 > 0)) || (s.kind == 6)) || (s.a == 0)))) rfl (fun hc120=>?_) (fun hc120=>?_)))))))
 refine mI rfl (L_eql rfl rfl rfl (mB rfl (L_split (d:=30) (b:=(x10.1 == 2)) rfl (fun hc121=>?_) (fun hc121=>?_))))
 refine ps rfl (L_pick (v:=Bo ((x10.1 == 2) || x10.2)) rfl rfl (or_t hc121) (mB rfl (L_split (d:=33) (b:=((x10.1 == 2) || x10.2)) rfl (fun hc122=>?_) (fun hc122=>?_))))
 refine ps rfl (ps rfl (ps rfl (L_pick (v:=Bo (((x10.1 == 2) || x10.2) || (s.b == 0))) rfl rfl (or_t hc122) (L_pick (v:=Bo (((decide (x10.1 ≥ 0)) && (((decide (x10.1 > 0)) || (s.kind == 6)) || (s.a == 0))) && (((x10.1 == 2) || x10.2) || (s.b == 0)))) rfl rfl (and_t hc120 rfl) (mB rfl (L_split (d:=39) (b:=(((decide (x10.1 ≥ 0)) && (((decide (x10.1 > 0)) || (s.kind == 6)) || (s.a == 0))) && (((x10.1 == 2) || x10.2) || (s.b == 0)))) rfl (fun hc123=>?_) (fun hc123=>?_)))))))
 rw [ite_t hc123] at hb26
 obtain ⟨b25,hb25,hb26⟩:=bind_some hb26
 refine fA 0 fa_63_0 rfl rfl (ldB 0 hst Try.isAgg3 rfl rfl rfl (L_eql rfl rfl rfl (mB rfl (L_split (d:=43) (b:=(s.kind == 7)) rfl (fun hc124=>?_) (fun hc124=>?_)))))
 rw [ite_t hc124] at hb25
 refine ps rfl (ps rfl (ps rfl (ps rfl (L_pick (v:=Bo b25) rfl rfl (congrArg Value.bool (so hb25)) (L_pick (v:=Bo b26) rfl rfl (congrArg Value.bool (so hb26)) (aB rfl (nn (rj hR27 ⟨rfl,(Star.keepN 0 hst)⟩))))))))
 rw [ite_f hc124] at hb25
 obtain ⟨x23,hx23,hb25⟩:=bind_some hb25
 refine fA 3 fa_63_3 rfl rfl (L_lda (cs:=[v0_3,I s.given.bound]) rfl Try.isAgg41 Try.sizeOf41 rfl (At.sub0 (Blk.at (Star.blkAt 0 hst rfl)) 3 2) rfl (L_bld rfl (parts0 ) (bld_41_  ) ?_))
 obtain ⟨H125b,l126,s127,z128,k129⟩:=hst.borrow
 refine L_call rfl Try.call82 (ops2 rfl rfl) (i_ConstraintSame_c (a:=s.given) (b:=({ terms:=[],bound:=0 } : Con)) s127 (RP.mono _ h0_3 l126) (rel_nil _ _ _) hx23) ?_
 rintro _ w130 ⟨rfl,hst⟩
 have hst:=k129 hst c0
 refine L_pick (v:=Bo b25) rfl rfl (congrArg Value.bool (so hb25)) (L_pick (v:=Bo b26) rfl rfl (congrArg Value.bool (so hb26)) (aB rfl (nn (rj hR27 ⟨rfl,(Star.keepN 0 hst)⟩))))
 rw [ite_f hc123] at hb26
 refine ps rfl (ps rfl (ps rfl (ps rfl (ps rfl (ps rfl (ps rfl (ps rfl (ps rfl (L_pick (v:=Bo b26) rfl rfl (congrArg Value.bool (so hb26)) (aB rfl (nn (rj hR27 ⟨rfl,(Star.keepN 0 hst)⟩))))))))))))
 refine fA 2 fa_63_2 rfl rfl (ldB 0 hst Try.isAgg3 rfl rfl rfl (L_eql rfl rfl rfl (L_pick (v:=Bo (((x10.1 == 2) || x10.2) || (s.b == 0))) rfl rfl (or_f hc122 rfl) (L_pick (v:=Bo (((decide (x10.1 ≥ 0)) && (((decide (x10.1 > 0)) || (s.kind == 6)) || (s.a == 0))) && (((x10.1 == 2) || x10.2) || (s.b == 0)))) rfl rfl (and_t hc120 rfl) (mB rfl (L_split (d:=39) (b:=(((decide (x10.1 ≥ 0)) && (((decide (x10.1 > 0)) || (s.kind == 6)) || (s.a == 0))) && (((x10.1 == 2) || x10.2) || (s.b == 0)))) rfl (fun hc131=>?_) (fun hc131=>?_)))))))
 rw [ite_t hc131] at hb26
 obtain ⟨b25,hb25,hb26⟩:=bind_some hb26
 refine fA 0 fa_63_0 rfl rfl (ldB 0 hst Try.isAgg3 rfl rfl rfl (L_eql rfl rfl rfl (mB rfl (L_split (d:=43) (b:=(s.kind == 7)) rfl (fun hc132=>?_) (fun hc132=>?_)))))
 rw [ite_t hc132] at hb25
 refine ps rfl (ps rfl (ps rfl (ps rfl (L_pick (v:=Bo b25) rfl rfl (congrArg Value.bool (so hb25)) (L_pick (v:=Bo b26) rfl rfl (congrArg Value.bool (so hb26)) (aB rfl (nn (rj hR27 ⟨rfl,(Star.keepN 0 hst)⟩))))))))
 rw [ite_f hc132] at hb25
 obtain ⟨x23,hx23,hb25⟩:=bind_some hb25
 refine fA 3 fa_63_3 rfl rfl (L_lda (cs:=[v0_3,I s.given.bound]) rfl Try.isAgg41 Try.sizeOf41 rfl (At.sub0 (Blk.at (Star.blkAt 0 hst rfl)) 3 2) rfl (L_bld rfl (parts0 ) (bld_41_  ) ?_))
 obtain ⟨H133b,l134,s135,z136,k137⟩:=hst.borrow
 refine L_call rfl Try.call82 (ops2 rfl rfl) (i_ConstraintSame_c (a:=s.given) (b:=({ terms:=[],bound:=0 } : Con)) s135 (RP.mono _ h0_3 l134) (rel_nil _ _ _) hx23) ?_
 rintro _ w138 ⟨rfl,hst⟩
 have hst:=k137 hst c0
 refine L_pick (v:=Bo b25) rfl rfl (congrArg Value.bool (so hb25)) (L_pick (v:=Bo b26) rfl rfl (congrArg Value.bool (so hb26)) (aB rfl (nn (rj hR27 ⟨rfl,(Star.keepN 0 hst)⟩))))
 rw [ite_f hc131] at hb26
 refine ps rfl (ps rfl (ps rfl (ps rfl (ps rfl (ps rfl (ps rfl (ps rfl (ps rfl (L_pick (v:=Bo b26) rfl rfl (congrArg Value.bool (so hb26)) (aB rfl (nn (rj hR27 ⟨rfl,(Star.keepN 0 hst)⟩))))))))))))
 refine mB rfl (L_pick (v:=Bo ((x10.1 == 2) || x10.2)) rfl rfl (or_f hc121 rfl) (mB rfl (L_split (d:=33) (b:=((x10.1 == 2) || x10.2)) rfl (fun hc139=>?_) (fun hc139=>?_))))
 refine ps rfl (ps rfl (ps rfl (L_pick (v:=Bo (((x10.1 == 2) || x10.2) || (s.b == 0))) rfl rfl (or_t hc139) (L_pick (v:=Bo (((decide (x10.1 ≥ 0)) && (((decide (x10.1 > 0)) || (s.kind == 6)) || (s.a == 0))) && (((x10.1 == 2) || x10.2) || (s.b == 0)))) rfl rfl (and_t hc120 rfl) (mB rfl (L_split (d:=39) (b:=(((decide (x10.1 ≥ 0)) && (((decide (x10.1 > 0)) || (s.kind == 6)) || (s.a == 0))) && (((x10.1 == 2) || x10.2) || (s.b == 0)))) rfl (fun hc140=>?_) (fun hc140=>?_)))))))
 rw [ite_t hc140] at hb26
 obtain ⟨b25,hb25,hb26⟩:=bind_some hb26
 refine fA 0 fa_63_0 rfl rfl (ldB 0 hst Try.isAgg3 rfl rfl rfl (L_eql rfl rfl rfl (mB rfl (L_split (d:=43) (b:=(s.kind == 7)) rfl (fun hc141=>?_) (fun hc141=>?_)))))
 rw [ite_t hc141] at hb25
 refine ps rfl (ps rfl (ps rfl (ps rfl (L_pick (v:=Bo b25) rfl rfl (congrArg Value.bool (so hb25)) (L_pick (v:=Bo b26) rfl rfl (congrArg Value.bool (so hb26)) (aB rfl (nn (rj hR27 ⟨rfl,(Star.keepN 0 hst)⟩))))))))
 rw [ite_f hc141] at hb25
 obtain ⟨x23,hx23,hb25⟩:=bind_some hb25
 refine fA 3 fa_63_3 rfl rfl (L_lda (cs:=[v0_3,I s.given.bound]) rfl Try.isAgg41 Try.sizeOf41 rfl (At.sub0 (Blk.at (Star.blkAt 0 hst rfl)) 3 2) rfl (L_bld rfl (parts0 ) (bld_41_  ) ?_))
 obtain ⟨H142b,l143,s144,z145,k146⟩:=hst.borrow
 refine L_call rfl Try.call82 (ops2 rfl rfl) (i_ConstraintSame_c (a:=s.given) (b:=({ terms:=[],bound:=0 } : Con)) s144 (RP.mono _ h0_3 l143) (rel_nil _ _ _) hx23) ?_
 rintro _ w147 ⟨rfl,hst⟩
 have hst:=k146 hst c0
 refine L_pick (v:=Bo b25) rfl rfl (congrArg Value.bool (so hb25)) (L_pick (v:=Bo b26) rfl rfl (congrArg Value.bool (so hb26)) (aB rfl (nn (rj hR27 ⟨rfl,(Star.keepN 0 hst)⟩))))
 rw [ite_f hc140] at hb26
 refine ps rfl (ps rfl (ps rfl (ps rfl (ps rfl (ps rfl (ps rfl (ps rfl (ps rfl (L_pick (v:=Bo b26) rfl rfl (congrArg Value.bool (so hb26)) (aB rfl (nn (rj hR27 ⟨rfl,(Star.keepN 0 hst)⟩))))))))))))
 refine fA 2 fa_63_2 rfl rfl (ldB 0 hst Try.isAgg3 rfl rfl rfl (L_eql rfl rfl rfl (L_pick (v:=Bo (((x10.1 == 2) || x10.2) || (s.b == 0))) rfl rfl (or_f hc139 rfl) (L_pick (v:=Bo (((decide (x10.1 ≥ 0)) && (((decide (x10.1 > 0)) || (s.kind == 6)) || (s.a == 0))) && (((x10.1 == 2) || x10.2) || (s.b == 0)))) rfl rfl (and_t hc120 rfl) (mB rfl (L_split (d:=39) (b:=(((decide (x10.1 ≥ 0)) && (((decide (x10.1 > 0)) || (s.kind == 6)) || (s.a == 0))) && (((x10.1 == 2) || x10.2) || (s.b == 0)))) rfl (fun hc148=>?_) (fun hc148=>?_)))))))
 rw [ite_t hc148] at hb26
 obtain ⟨b25,hb25,hb26⟩:=bind_some hb26
 refine fA 0 fa_63_0 rfl rfl (ldB 0 hst Try.isAgg3 rfl rfl rfl (L_eql rfl rfl rfl (mB rfl (L_split (d:=43) (b:=(s.kind == 7)) rfl (fun hc149=>?_) (fun hc149=>?_)))))
 rw [ite_t hc149] at hb25
 refine ps rfl (ps rfl (ps rfl (ps rfl (L_pick (v:=Bo b25) rfl rfl (congrArg Value.bool (so hb25)) (L_pick (v:=Bo b26) rfl rfl (congrArg Value.bool (so hb26)) (aB rfl (nn (rj hR27 ⟨rfl,(Star.keepN 0 hst)⟩))))))))
 rw [ite_f hc149] at hb25
 obtain ⟨x23,hx23,hb25⟩:=bind_some hb25
 refine fA 3 fa_63_3 rfl rfl (L_lda (cs:=[v0_3,I s.given.bound]) rfl Try.isAgg41 Try.sizeOf41 rfl (At.sub0 (Blk.at (Star.blkAt 0 hst rfl)) 3 2) rfl (L_bld rfl (parts0 ) (bld_41_  ) ?_))
 obtain ⟨H150b,l151,s152,z153,k154⟩:=hst.borrow
 refine L_call rfl Try.call82 (ops2 rfl rfl) (i_ConstraintSame_c (a:=s.given) (b:=({ terms:=[],bound:=0 } : Con)) s152 (RP.mono _ h0_3 l151) (rel_nil _ _ _) hx23) ?_
 rintro _ w155 ⟨rfl,hst⟩
 have hst:=k154 hst c0
 refine L_pick (v:=Bo b25) rfl rfl (congrArg Value.bool (so hb25)) (L_pick (v:=Bo b26) rfl rfl (congrArg Value.bool (so hb26)) (aB rfl (nn (rj hR27 ⟨rfl,(Star.keepN 0 hst)⟩))))
 rw [ite_f hc148] at hb26
 refine ps rfl (ps rfl (ps rfl (ps rfl (ps rfl (ps rfl (ps rfl (ps rfl (ps rfl (L_pick (v:=Bo b26) rfl rfl (congrArg Value.bool (so hb26)) (aB rfl (nn (rj hR27 ⟨rfl,(Star.keepN 0 hst)⟩))))))))))))
 refine ps rfl (ps rfl (ps rfl (ps rfl (ps rfl (ps rfl (ps rfl (ps rfl (ps rfl (ps rfl (L_pick (v:=Bo (((decide (x10.1 ≥ 0)) && (((decide (x10.1 > 0)) || (s.kind == 6)) || (s.a == 0))) && (((x10.1 == 2) || x10.2) || (s.b == 0)))) rfl rfl (and_f hc120) (mB rfl (L_split (d:=39) (b:=(((decide (x10.1 ≥ 0)) && (((decide (x10.1 > 0)) || (s.kind == 6)) || (s.a == 0))) && (((x10.1 == 2) || x10.2) || (s.b == 0)))) rfl (fun hc156=>?_) (fun hc156=>?_)))))))))))))
 rw [ite_t hc156] at hb26
 obtain ⟨b25,hb25,hb26⟩:=bind_some hb26
 refine fA 0 fa_63_0 rfl rfl (ldB 0 hst Try.isAgg3 rfl rfl rfl (L_eql rfl rfl rfl (mB rfl (L_split (d:=43) (b:=(s.kind == 7)) rfl (fun hc157=>?_) (fun hc157=>?_)))))
 rw [ite_t hc157] at hb25
 refine ps rfl (ps rfl (ps rfl (ps rfl (L_pick (v:=Bo b25) rfl rfl (congrArg Value.bool (so hb25)) (L_pick (v:=Bo b26) rfl rfl (congrArg Value.bool (so hb26)) (aB rfl (nn (rj hR27 ⟨rfl,(Star.keepN 0 hst)⟩))))))))
 rw [ite_f hc157] at hb25
 obtain ⟨x23,hx23,hb25⟩:=bind_some hb25
 refine fA 3 fa_63_3 rfl rfl (L_lda (cs:=[v0_3,I s.given.bound]) rfl Try.isAgg41 Try.sizeOf41 rfl (At.sub0 (Blk.at (Star.blkAt 0 hst rfl)) 3 2) rfl (L_bld rfl (parts0 ) (bld_41_  ) ?_))
 obtain ⟨H158b,l159,s160,z161,k162⟩:=hst.borrow
 refine L_call rfl Try.call82 (ops2 rfl rfl) (i_ConstraintSame_c (a:=s.given) (b:=({ terms:=[],bound:=0 } : Con)) s160 (RP.mono _ h0_3 l159) (rel_nil _ _ _) hx23) ?_
 rintro _ w163 ⟨rfl,hst⟩
 have hst:=k162 hst c0
 refine L_pick (v:=Bo b25) rfl rfl (congrArg Value.bool (so hb25)) (L_pick (v:=Bo b26) rfl rfl (congrArg Value.bool (so hb26)) (aB rfl (nn (rj hR27 ⟨rfl,(Star.keepN 0 hst)⟩))))
 rw [ite_f hc156] at hb26
 refine ps rfl (ps rfl (ps rfl (ps rfl (ps rfl (ps rfl (ps rfl (ps rfl (ps rfl (L_pick (v:=Bo b26) rfl rfl (congrArg Value.bool (so hb26)) (aB rfl (nn (rj hR27 ⟨rfl,(Star.keepN 0 hst)⟩))))))))))))
 refine fA 1 fa_63_1 rfl rfl (ldB 0 hst Try.isAgg3 rfl rfl rfl (L_eql rfl rfl rfl (L_pick (v:=Bo (((decide (x10.1 > 0)) || (s.kind == 6)) || (s.a == 0))) rfl rfl (or_f hc119 rfl) (L_pick (v:=Bo ((decide (x10.1 ≥ 0)) && (((decide (x10.1 > 0)) || (s.kind == 6)) || (s.a == 0)))) rfl rfl (and_t hc28 rfl) (mB rfl (L_split (d:=27) (b:=((decide (x10.1 ≥ 0)) && (((decide (x10.1 > 0)) || (s.kind == 6)) || (s.a == 0)))) rfl (fun hc164=>?_) (fun hc164=>?_)))))))
 refine mI rfl (L_eql rfl rfl rfl (mB rfl (L_split (d:=30) (b:=(x10.1 == 2)) rfl (fun hc165=>?_) (fun hc165=>?_))))
 refine ps rfl (L_pick (v:=Bo ((x10.1 == 2) || x10.2)) rfl rfl (or_t hc165) (mB rfl (L_split (d:=33) (b:=((x10.1 == 2) || x10.2)) rfl (fun hc166=>?_) (fun hc166=>?_))))
 refine ps rfl (ps rfl (ps rfl (L_pick (v:=Bo (((x10.1 == 2) || x10.2) || (s.b == 0))) rfl rfl (or_t hc166) (L_pick (v:=Bo (((decide (x10.1 ≥ 0)) && (((decide (x10.1 > 0)) || (s.kind == 6)) || (s.a == 0))) && (((x10.1 == 2) || x10.2) || (s.b == 0)))) rfl rfl (and_t hc164 rfl) (mB rfl (L_split (d:=39) (b:=(((decide (x10.1 ≥ 0)) && (((decide (x10.1 > 0)) || (s.kind == 6)) || (s.a == 0))) && (((x10.1 == 2) || x10.2) || (s.b == 0)))) rfl (fun hc167=>?_) (fun hc167=>?_)))))))
 rw [ite_t hc167] at hb26
 obtain ⟨b25,hb25,hb26⟩:=bind_some hb26
 refine fA 0 fa_63_0 rfl rfl (ldB 0 hst Try.isAgg3 rfl rfl rfl (L_eql rfl rfl rfl (mB rfl (L_split (d:=43) (b:=(s.kind == 7)) rfl (fun hc168=>?_) (fun hc168=>?_)))))
 rw [ite_t hc168] at hb25
 refine ps rfl (ps rfl (ps rfl (ps rfl (L_pick (v:=Bo b25) rfl rfl (congrArg Value.bool (so hb25)) (L_pick (v:=Bo b26) rfl rfl (congrArg Value.bool (so hb26)) (aB rfl (nn (rj hR27 ⟨rfl,(Star.keepN 0 hst)⟩))))))))
 rw [ite_f hc168] at hb25
 obtain ⟨x23,hx23,hb25⟩:=bind_some hb25
 refine fA 3 fa_63_3 rfl rfl (L_lda (cs:=[v0_3,I s.given.bound]) rfl Try.isAgg41 Try.sizeOf41 rfl (At.sub0 (Blk.at (Star.blkAt 0 hst rfl)) 3 2) rfl (L_bld rfl (parts0 ) (bld_41_  ) ?_))
 obtain ⟨H169b,l170,s171,z172,k173⟩:=hst.borrow
 refine L_call rfl Try.call82 (ops2 rfl rfl) (i_ConstraintSame_c (a:=s.given) (b:=({ terms:=[],bound:=0 } : Con)) s171 (RP.mono _ h0_3 l170) (rel_nil _ _ _) hx23) ?_
 rintro _ w174 ⟨rfl,hst⟩
 have hst:=k173 hst c0
 refine L_pick (v:=Bo b25) rfl rfl (congrArg Value.bool (so hb25)) (L_pick (v:=Bo b26) rfl rfl (congrArg Value.bool (so hb26)) (aB rfl (nn (rj hR27 ⟨rfl,(Star.keepN 0 hst)⟩))))
 rw [ite_f hc167] at hb26
 refine ps rfl (ps rfl (ps rfl (ps rfl (ps rfl (ps rfl (ps rfl (ps rfl (ps rfl (L_pick (v:=Bo b26) rfl rfl (congrArg Value.bool (so hb26)) (aB rfl (nn (rj hR27 ⟨rfl,(Star.keepN 0 hst)⟩))))))))))))
 refine fA 2 fa_63_2 rfl rfl (ldB 0 hst Try.isAgg3 rfl rfl rfl (L_eql rfl rfl rfl (L_pick (v:=Bo (((x10.1 == 2) || x10.2) || (s.b == 0))) rfl rfl (or_f hc166 rfl) (L_pick (v:=Bo (((decide (x10.1 ≥ 0)) && (((decide (x10.1 > 0)) || (s.kind == 6)) || (s.a == 0))) && (((x10.1 == 2) || x10.2) || (s.b == 0)))) rfl rfl (and_t hc164 rfl) (mB rfl (L_split (d:=39) (b:=(((decide (x10.1 ≥ 0)) && (((decide (x10.1 > 0)) || (s.kind == 6)) || (s.a == 0))) && (((x10.1 == 2) || x10.2) || (s.b == 0)))) rfl (fun hc175=>?_) (fun hc175=>?_)))))))
 rw [ite_t hc175] at hb26
 obtain ⟨b25,hb25,hb26⟩:=bind_some hb26
 refine fA 0 fa_63_0 rfl rfl (ldB 0 hst Try.isAgg3 rfl rfl rfl (L_eql rfl rfl rfl (mB rfl (L_split (d:=43) (b:=(s.kind == 7)) rfl (fun hc176=>?_) (fun hc176=>?_)))))
 rw [ite_t hc176] at hb25
 refine ps rfl (ps rfl (ps rfl (ps rfl (L_pick (v:=Bo b25) rfl rfl (congrArg Value.bool (so hb25)) (L_pick (v:=Bo b26) rfl rfl (congrArg Value.bool (so hb26)) (aB rfl (nn (rj hR27 ⟨rfl,(Star.keepN 0 hst)⟩))))))))
 rw [ite_f hc176] at hb25
 obtain ⟨x23,hx23,hb25⟩:=bind_some hb25
 refine fA 3 fa_63_3 rfl rfl (L_lda (cs:=[v0_3,I s.given.bound]) rfl Try.isAgg41 Try.sizeOf41 rfl (At.sub0 (Blk.at (Star.blkAt 0 hst rfl)) 3 2) rfl (L_bld rfl (parts0 ) (bld_41_  ) ?_))
 obtain ⟨H177b,l178,s179,z180,k181⟩:=hst.borrow
 refine L_call rfl Try.call82 (ops2 rfl rfl) (i_ConstraintSame_c (a:=s.given) (b:=({ terms:=[],bound:=0 } : Con)) s179 (RP.mono _ h0_3 l178) (rel_nil _ _ _) hx23) ?_
 rintro _ w182 ⟨rfl,hst⟩
 have hst:=k181 hst c0
 refine L_pick (v:=Bo b25) rfl rfl (congrArg Value.bool (so hb25)) (L_pick (v:=Bo b26) rfl rfl (congrArg Value.bool (so hb26)) (aB rfl (nn (rj hR27 ⟨rfl,(Star.keepN 0 hst)⟩))))
 rw [ite_f hc175] at hb26
 refine ps rfl (ps rfl (ps rfl (ps rfl (ps rfl (ps rfl (ps rfl (ps rfl (ps rfl (L_pick (v:=Bo b26) rfl rfl (congrArg Value.bool (so hb26)) (aB rfl (nn (rj hR27 ⟨rfl,(Star.keepN 0 hst)⟩))))))))))))
 refine mB rfl (L_pick (v:=Bo ((x10.1 == 2) || x10.2)) rfl rfl (or_f hc165 rfl) (mB rfl (L_split (d:=33) (b:=((x10.1 == 2) || x10.2)) rfl (fun hc183=>?_) (fun hc183=>?_))))
 refine ps rfl (ps rfl (ps rfl (L_pick (v:=Bo (((x10.1 == 2) || x10.2) || (s.b == 0))) rfl rfl (or_t hc183) (L_pick (v:=Bo (((decide (x10.1 ≥ 0)) && (((decide (x10.1 > 0)) || (s.kind == 6)) || (s.a == 0))) && (((x10.1 == 2) || x10.2) || (s.b == 0)))) rfl rfl (and_t hc164 rfl) (mB rfl (L_split (d:=39) (b:=(((decide (x10.1 ≥ 0)) && (((decide (x10.1 > 0)) || (s.kind == 6)) || (s.a == 0))) && (((x10.1 == 2) || x10.2) || (s.b == 0)))) rfl (fun hc184=>?_) (fun hc184=>?_)))))))
 rw [ite_t hc184] at hb26
 obtain ⟨b25,hb25,hb26⟩:=bind_some hb26
 refine fA 0 fa_63_0 rfl rfl (ldB 0 hst Try.isAgg3 rfl rfl rfl (L_eql rfl rfl rfl (mB rfl (L_split (d:=43) (b:=(s.kind == 7)) rfl (fun hc185=>?_) (fun hc185=>?_)))))
 rw [ite_t hc185] at hb25
 refine ps rfl (ps rfl (ps rfl (ps rfl (L_pick (v:=Bo b25) rfl rfl (congrArg Value.bool (so hb25)) (L_pick (v:=Bo b26) rfl rfl (congrArg Value.bool (so hb26)) (aB rfl (nn (rj hR27 ⟨rfl,(Star.keepN 0 hst)⟩))))))))
 rw [ite_f hc185] at hb25
 obtain ⟨x23,hx23,hb25⟩:=bind_some hb25
 refine fA 3 fa_63_3 rfl rfl (L_lda (cs:=[v0_3,I s.given.bound]) rfl Try.isAgg41 Try.sizeOf41 rfl (At.sub0 (Blk.at (Star.blkAt 0 hst rfl)) 3 2) rfl (L_bld rfl (parts0 ) (bld_41_  ) ?_))
 obtain ⟨H186b,l187,s188,z189,k190⟩:=hst.borrow
 refine L_call rfl Try.call82 (ops2 rfl rfl) (i_ConstraintSame_c (a:=s.given) (b:=({ terms:=[],bound:=0 } : Con)) s188 (RP.mono _ h0_3 l187) (rel_nil _ _ _) hx23) ?_
 rintro _ w191 ⟨rfl,hst⟩
 have hst:=k190 hst c0
 refine L_pick (v:=Bo b25) rfl rfl (congrArg Value.bool (so hb25)) (L_pick (v:=Bo b26) rfl rfl (congrArg Value.bool (so hb26)) (aB rfl (nn (rj hR27 ⟨rfl,(Star.keepN 0 hst)⟩))))
 rw [ite_f hc184] at hb26
 refine ps rfl (ps rfl (ps rfl (ps rfl (ps rfl (ps rfl (ps rfl (ps rfl (ps rfl (L_pick (v:=Bo b26) rfl rfl (congrArg Value.bool (so hb26)) (aB rfl (nn (rj hR27 ⟨rfl,(Star.keepN 0 hst)⟩))))))))))))
 refine fA 2 fa_63_2 rfl rfl (ldB 0 hst Try.isAgg3 rfl rfl rfl (L_eql rfl rfl rfl (L_pick (v:=Bo (((x10.1 == 2) || x10.2) || (s.b == 0))) rfl rfl (or_f hc183 rfl) (L_pick (v:=Bo (((decide (x10.1 ≥ 0)) && (((decide (x10.1 > 0)) || (s.kind == 6)) || (s.a == 0))) && (((x10.1 == 2) || x10.2) || (s.b == 0)))) rfl rfl (and_t hc164 rfl) (mB rfl (L_split (d:=39) (b:=(((decide (x10.1 ≥ 0)) && (((decide (x10.1 > 0)) || (s.kind == 6)) || (s.a == 0))) && (((x10.1 == 2) || x10.2) || (s.b == 0)))) rfl (fun hc192=>?_) (fun hc192=>?_)))))))
 rw [ite_t hc192] at hb26
 obtain ⟨b25,hb25,hb26⟩:=bind_some hb26
 refine fA 0 fa_63_0 rfl rfl (ldB 0 hst Try.isAgg3 rfl rfl rfl (L_eql rfl rfl rfl (mB rfl (L_split (d:=43) (b:=(s.kind == 7)) rfl (fun hc193=>?_) (fun hc193=>?_)))))
 rw [ite_t hc193] at hb25
 refine ps rfl (ps rfl (ps rfl (ps rfl (L_pick (v:=Bo b25) rfl rfl (congrArg Value.bool (so hb25)) (L_pick (v:=Bo b26) rfl rfl (congrArg Value.bool (so hb26)) (aB rfl (nn (rj hR27 ⟨rfl,(Star.keepN 0 hst)⟩))))))))
 rw [ite_f hc193] at hb25
 obtain ⟨x23,hx23,hb25⟩:=bind_some hb25
 refine fA 3 fa_63_3 rfl rfl (L_lda (cs:=[v0_3,I s.given.bound]) rfl Try.isAgg41 Try.sizeOf41 rfl (At.sub0 (Blk.at (Star.blkAt 0 hst rfl)) 3 2) rfl (L_bld rfl (parts0 ) (bld_41_  ) ?_))
 obtain ⟨H194b,l195,s196,z197,k198⟩:=hst.borrow
 refine L_call rfl Try.call82 (ops2 rfl rfl) (i_ConstraintSame_c (a:=s.given) (b:=({ terms:=[],bound:=0 } : Con)) s196 (RP.mono _ h0_3 l195) (rel_nil _ _ _) hx23) ?_
 rintro _ w199 ⟨rfl,hst⟩
 have hst:=k198 hst c0
 refine L_pick (v:=Bo b25) rfl rfl (congrArg Value.bool (so hb25)) (L_pick (v:=Bo b26) rfl rfl (congrArg Value.bool (so hb26)) (aB rfl (nn (rj hR27 ⟨rfl,(Star.keepN 0 hst)⟩))))
 rw [ite_f hc192] at hb26
 refine ps rfl (ps rfl (ps rfl (ps rfl (ps rfl (ps rfl (ps rfl (ps rfl (ps rfl (L_pick (v:=Bo b26) rfl rfl (congrArg Value.bool (so hb26)) (aB rfl (nn (rj hR27 ⟨rfl,(Star.keepN 0 hst)⟩))))))))))))
 refine ps rfl (ps rfl (ps rfl (ps rfl (ps rfl (ps rfl (ps rfl (ps rfl (ps rfl (ps rfl (L_pick (v:=Bo (((decide (x10.1 ≥ 0)) && (((decide (x10.1 > 0)) || (s.kind == 6)) || (s.a == 0))) && (((x10.1 == 2) || x10.2) || (s.b == 0)))) rfl rfl (and_f hc164) (mB rfl (L_split (d:=39) (b:=(((decide (x10.1 ≥ 0)) && (((decide (x10.1 > 0)) || (s.kind == 6)) || (s.a == 0))) && (((x10.1 == 2) || x10.2) || (s.b == 0)))) rfl (fun hc200=>?_) (fun hc200=>?_)))))))))))))
 rw [ite_t hc200] at hb26
 obtain ⟨b25,hb25,hb26⟩:=bind_some hb26
 refine fA 0 fa_63_0 rfl rfl (ldB 0 hst Try.isAgg3 rfl rfl rfl (L_eql rfl rfl rfl (mB rfl (L_split (d:=43) (b:=(s.kind == 7)) rfl (fun hc201=>?_) (fun hc201=>?_)))))
 rw [ite_t hc201] at hb25
 refine ps rfl (ps rfl (ps rfl (ps rfl (L_pick (v:=Bo b25) rfl rfl (congrArg Value.bool (so hb25)) (L_pick (v:=Bo b26) rfl rfl (congrArg Value.bool (so hb26)) (aB rfl (nn (rj hR27 ⟨rfl,(Star.keepN 0 hst)⟩))))))))
 rw [ite_f hc201] at hb25
 obtain ⟨x23,hx23,hb25⟩:=bind_some hb25
 refine fA 3 fa_63_3 rfl rfl (L_lda (cs:=[v0_3,I s.given.bound]) rfl Try.isAgg41 Try.sizeOf41 rfl (At.sub0 (Blk.at (Star.blkAt 0 hst rfl)) 3 2) rfl (L_bld rfl (parts0 ) (bld_41_  ) ?_))
 obtain ⟨H202b,l203,s204,z205,k206⟩:=hst.borrow
 refine L_call rfl Try.call82 (ops2 rfl rfl) (i_ConstraintSame_c (a:=s.given) (b:=({ terms:=[],bound:=0 } : Con)) s204 (RP.mono _ h0_3 l203) (rel_nil _ _ _) hx23) ?_
 rintro _ w207 ⟨rfl,hst⟩
 have hst:=k206 hst c0
 refine L_pick (v:=Bo b25) rfl rfl (congrArg Value.bool (so hb25)) (L_pick (v:=Bo b26) rfl rfl (congrArg Value.bool (so hb26)) (aB rfl (nn (rj hR27 ⟨rfl,(Star.keepN 0 hst)⟩))))
 rw [ite_f hc200] at hb26
 refine ps rfl (ps rfl (ps rfl (ps rfl (ps rfl (ps rfl (ps rfl (ps rfl (ps rfl (L_pick (v:=Bo b26) rfl rfl (congrArg Value.bool (so hb26)) (aB rfl (nn (rj hR27 ⟨rfl,(Star.keepN 0 hst)⟩))))))))))))
 refine ps rfl (ps rfl (ps rfl (ps rfl (ps rfl (ps rfl (ps rfl (ps rfl (ps rfl (ps rfl (ps rfl (ps rfl (L_pick (v:=Bo ((decide (x10.1 ≥ 0)) && (((decide (x10.1 > 0)) || (s.kind == 6)) || (s.a == 0)))) rfl rfl (and_f hc28) (mB rfl (L_split (d:=27) (b:=((decide (x10.1 ≥ 0)) && (((decide (x10.1 > 0)) || (s.kind == 6)) || (s.a == 0)))) rfl (fun hc208=>?_) (fun hc208=>?_)))))))))))))))
 refine mI rfl (L_eql rfl rfl rfl (mB rfl (L_split (d:=30) (b:=(x10.1 == 2)) rfl (fun hc209=>?_) (fun hc209=>?_))))
 refine ps rfl (L_pick (v:=Bo ((x10.1 == 2) || x10.2)) rfl rfl (or_t hc209) (mB rfl (L_split (d:=33) (b:=((x10.1 == 2) || x10.2)) rfl (fun hc210=>?_) (fun hc210=>?_))))
 refine ps rfl (ps rfl (ps rfl (L_pick (v:=Bo (((x10.1 == 2) || x10.2) || (s.b == 0))) rfl rfl (or_t hc210) (L_pick (v:=Bo (((decide (x10.1 ≥ 0)) && (((decide (x10.1 > 0)) || (s.kind == 6)) || (s.a == 0))) && (((x10.1 == 2) || x10.2) || (s.b == 0)))) rfl rfl (and_t hc208 rfl) (mB rfl (L_split (d:=39) (b:=(((decide (x10.1 ≥ 0)) && (((decide (x10.1 > 0)) || (s.kind == 6)) || (s.a == 0))) && (((x10.1 == 2) || x10.2) || (s.b == 0)))) rfl (fun hc211=>?_) (fun hc211=>?_)))))))
 rw [ite_t hc211] at hb26
 obtain ⟨b25,hb25,hb26⟩:=bind_some hb26
 refine fA 0 fa_63_0 rfl rfl (ldB 0 hst Try.isAgg3 rfl rfl rfl (L_eql rfl rfl rfl (mB rfl (L_split (d:=43) (b:=(s.kind == 7)) rfl (fun hc212=>?_) (fun hc212=>?_)))))
 rw [ite_t hc212] at hb25
 refine ps rfl (ps rfl (ps rfl (ps rfl (L_pick (v:=Bo b25) rfl rfl (congrArg Value.bool (so hb25)) (L_pick (v:=Bo b26) rfl rfl (congrArg Value.bool (so hb26)) (aB rfl (nn (rj hR27 ⟨rfl,(Star.keepN 0 hst)⟩))))))))
 rw [ite_f hc212] at hb25
 obtain ⟨x23,hx23,hb25⟩:=bind_some hb25
 refine fA 3 fa_63_3 rfl rfl (L_lda (cs:=[v0_3,I s.given.bound]) rfl Try.isAgg41 Try.sizeOf41 rfl (At.sub0 (Blk.at (Star.blkAt 0 hst rfl)) 3 2) rfl (L_bld rfl (parts0 ) (bld_41_  ) ?_))
 obtain ⟨H213b,l214,s215,z216,k217⟩:=hst.borrow
 refine L_call rfl Try.call82 (ops2 rfl rfl) (i_ConstraintSame_c (a:=s.given) (b:=({ terms:=[],bound:=0 } : Con)) s215 (RP.mono _ h0_3 l214) (rel_nil _ _ _) hx23) ?_
 rintro _ w218 ⟨rfl,hst⟩
 have hst:=k217 hst c0
 refine L_pick (v:=Bo b25) rfl rfl (congrArg Value.bool (so hb25)) (L_pick (v:=Bo b26) rfl rfl (congrArg Value.bool (so hb26)) (aB rfl (nn (rj hR27 ⟨rfl,(Star.keepN 0 hst)⟩))))
 rw [ite_f hc211] at hb26
 refine ps rfl (ps rfl (ps rfl (ps rfl (ps rfl (ps rfl (ps rfl (ps rfl (ps rfl (L_pick (v:=Bo b26) rfl rfl (congrArg Value.bool (so hb26)) (aB rfl (nn (rj hR27 ⟨rfl,(Star.keepN 0 hst)⟩))))))))))))
 refine fA 2 fa_63_2 rfl rfl (ldB 0 hst Try.isAgg3 rfl rfl rfl (L_eql rfl rfl rfl (L_pick (v:=Bo (((x10.1 == 2) || x10.2) || (s.b == 0))) rfl rfl (or_f hc210 rfl) (L_pick (v:=Bo (((decide (x10.1 ≥ 0)) && (((decide (x10.1 > 0)) || (s.kind == 6)) || (s.a == 0))) && (((x10.1 == 2) || x10.2) || (s.b == 0)))) rfl rfl (and_t hc208 rfl) (mB rfl (L_split (d:=39) (b:=(((decide (x10.1 ≥ 0)) && (((decide (x10.1 > 0)) || (s.kind == 6)) || (s.a == 0))) && (((x10.1 == 2) || x10.2) || (s.b == 0)))) rfl (fun hc219=>?_) (fun hc219=>?_)))))))
 rw [ite_t hc219] at hb26
 obtain ⟨b25,hb25,hb26⟩:=bind_some hb26
 refine fA 0 fa_63_0 rfl rfl (ldB 0 hst Try.isAgg3 rfl rfl rfl (L_eql rfl rfl rfl (mB rfl (L_split (d:=43) (b:=(s.kind == 7)) rfl (fun hc220=>?_) (fun hc220=>?_)))))
 rw [ite_t hc220] at hb25
 refine ps rfl (ps rfl (ps rfl (ps rfl (L_pick (v:=Bo b25) rfl rfl (congrArg Value.bool (so hb25)) (L_pick (v:=Bo b26) rfl rfl (congrArg Value.bool (so hb26)) (aB rfl (nn (rj hR27 ⟨rfl,(Star.keepN 0 hst)⟩))))))))
 rw [ite_f hc220] at hb25
 obtain ⟨x23,hx23,hb25⟩:=bind_some hb25
 refine fA 3 fa_63_3 rfl rfl (L_lda (cs:=[v0_3,I s.given.bound]) rfl Try.isAgg41 Try.sizeOf41 rfl (At.sub0 (Blk.at (Star.blkAt 0 hst rfl)) 3 2) rfl (L_bld rfl (parts0 ) (bld_41_  ) ?_))
 obtain ⟨H221b,l222,s223,z224,k225⟩:=hst.borrow
 refine L_call rfl Try.call82 (ops2 rfl rfl) (i_ConstraintSame_c (a:=s.given) (b:=({ terms:=[],bound:=0 } : Con)) s223 (RP.mono _ h0_3 l222) (rel_nil _ _ _) hx23) ?_
 rintro _ w226 ⟨rfl,hst⟩
 have hst:=k225 hst c0
 refine L_pick (v:=Bo b25) rfl rfl (congrArg Value.bool (so hb25)) (L_pick (v:=Bo b26) rfl rfl (congrArg Value.bool (so hb26)) (aB rfl (nn (rj hR27 ⟨rfl,(Star.keepN 0 hst)⟩))))
 rw [ite_f hc219] at hb26
 refine ps rfl (ps rfl (ps rfl (ps rfl (ps rfl (ps rfl (ps rfl (ps rfl (ps rfl (L_pick (v:=Bo b26) rfl rfl (congrArg Value.bool (so hb26)) (aB rfl (nn (rj hR27 ⟨rfl,(Star.keepN 0 hst)⟩))))))))))))
 refine mB rfl (L_pick (v:=Bo ((x10.1 == 2) || x10.2)) rfl rfl (or_f hc209 rfl) (mB rfl (L_split (d:=33) (b:=((x10.1 == 2) || x10.2)) rfl (fun hc227=>?_) (fun hc227=>?_))))
 refine ps rfl (ps rfl (ps rfl (L_pick (v:=Bo (((x10.1 == 2) || x10.2) || (s.b == 0))) rfl rfl (or_t hc227) (L_pick (v:=Bo (((decide (x10.1 ≥ 0)) && (((decide (x10.1 > 0)) || (s.kind == 6)) || (s.a == 0))) && (((x10.1 == 2) || x10.2) || (s.b == 0)))) rfl rfl (and_t hc208 rfl) (mB rfl (L_split (d:=39) (b:=(((decide (x10.1 ≥ 0)) && (((decide (x10.1 > 0)) || (s.kind == 6)) || (s.a == 0))) && (((x10.1 == 2) || x10.2) || (s.b == 0)))) rfl (fun hc228=>?_) (fun hc228=>?_)))))))
 rw [ite_t hc228] at hb26
 obtain ⟨b25,hb25,hb26⟩:=bind_some hb26
 refine fA 0 fa_63_0 rfl rfl (ldB 0 hst Try.isAgg3 rfl rfl rfl (L_eql rfl rfl rfl (mB rfl (L_split (d:=43) (b:=(s.kind == 7)) rfl (fun hc229=>?_) (fun hc229=>?_)))))
 rw [ite_t hc229] at hb25
 refine ps rfl (ps rfl (ps rfl (ps rfl (L_pick (v:=Bo b25) rfl rfl (congrArg Value.bool (so hb25)) (L_pick (v:=Bo b26) rfl rfl (congrArg Value.bool (so hb26)) (aB rfl (nn (rj hR27 ⟨rfl,(Star.keepN 0 hst)⟩))))))))
 rw [ite_f hc229] at hb25
 obtain ⟨x23,hx23,hb25⟩:=bind_some hb25
 refine fA 3 fa_63_3 rfl rfl (L_lda (cs:=[v0_3,I s.given.bound]) rfl Try.isAgg41 Try.sizeOf41 rfl (At.sub0 (Blk.at (Star.blkAt 0 hst rfl)) 3 2) rfl (L_bld rfl (parts0 ) (bld_41_  ) ?_))
 obtain ⟨H230b,l231,s232,z233,k234⟩:=hst.borrow
 refine L_call rfl Try.call82 (ops2 rfl rfl) (i_ConstraintSame_c (a:=s.given) (b:=({ terms:=[],bound:=0 } : Con)) s232 (RP.mono _ h0_3 l231) (rel_nil _ _ _) hx23) ?_
 rintro _ w235 ⟨rfl,hst⟩
 have hst:=k234 hst c0
 refine L_pick (v:=Bo b25) rfl rfl (congrArg Value.bool (so hb25)) (L_pick (v:=Bo b26) rfl rfl (congrArg Value.bool (so hb26)) (aB rfl (nn (rj hR27 ⟨rfl,(Star.keepN 0 hst)⟩))))
 rw [ite_f hc228] at hb26
 refine ps rfl (ps rfl (ps rfl (ps rfl (ps rfl (ps rfl (ps rfl (ps rfl (ps rfl (L_pick (v:=Bo b26) rfl rfl (congrArg Value.bool (so hb26)) (aB rfl (nn (rj hR27 ⟨rfl,(Star.keepN 0 hst)⟩))))))))))))
 refine fA 2 fa_63_2 rfl rfl (ldB 0 hst Try.isAgg3 rfl rfl rfl (L_eql rfl rfl rfl (L_pick (v:=Bo (((x10.1 == 2) || x10.2) || (s.b == 0))) rfl rfl (or_f hc227 rfl) (L_pick (v:=Bo (((decide (x10.1 ≥ 0)) && (((decide (x10.1 > 0)) || (s.kind == 6)) || (s.a == 0))) && (((x10.1 == 2) || x10.2) || (s.b == 0)))) rfl rfl (and_t hc208 rfl) (mB rfl (L_split (d:=39) (b:=(((decide (x10.1 ≥ 0)) && (((decide (x10.1 > 0)) || (s.kind == 6)) || (s.a == 0))) && (((x10.1 == 2) || x10.2) || (s.b == 0)))) rfl (fun hc236=>?_) (fun hc236=>?_)))))))
 rw [ite_t hc236] at hb26
 obtain ⟨b25,hb25,hb26⟩:=bind_some hb26
 refine fA 0 fa_63_0 rfl rfl (ldB 0 hst Try.isAgg3 rfl rfl rfl (L_eql rfl rfl rfl (mB rfl (L_split (d:=43) (b:=(s.kind == 7)) rfl (fun hc237=>?_) (fun hc237=>?_)))))
 rw [ite_t hc237] at hb25
 refine ps rfl (ps rfl (ps rfl (ps rfl (L_pick (v:=Bo b25) rfl rfl (congrArg Value.bool (so hb25)) (L_pick (v:=Bo b26) rfl rfl (congrArg Value.bool (so hb26)) (aB rfl (nn (rj hR27 ⟨rfl,(Star.keepN 0 hst)⟩))))))))
 rw [ite_f hc237] at hb25
 obtain ⟨x23,hx23,hb25⟩:=bind_some hb25
 refine fA 3 fa_63_3 rfl rfl (L_lda (cs:=[v0_3,I s.given.bound]) rfl Try.isAgg41 Try.sizeOf41 rfl (At.sub0 (Blk.at (Star.blkAt 0 hst rfl)) 3 2) rfl (L_bld rfl (parts0 ) (bld_41_  ) ?_))
 obtain ⟨H238b,l239,s240,z241,k242⟩:=hst.borrow
 refine L_call rfl Try.call82 (ops2 rfl rfl) (i_ConstraintSame_c (a:=s.given) (b:=({ terms:=[],bound:=0 } : Con)) s240 (RP.mono _ h0_3 l239) (rel_nil _ _ _) hx23) ?_
 rintro _ w243 ⟨rfl,hst⟩
 have hst:=k242 hst c0
 refine L_pick (v:=Bo b25) rfl rfl (congrArg Value.bool (so hb25)) (L_pick (v:=Bo b26) rfl rfl (congrArg Value.bool (so hb26)) (aB rfl (nn (rj hR27 ⟨rfl,(Star.keepN 0 hst)⟩))))
 rw [ite_f hc236] at hb26
 refine ps rfl (ps rfl (ps rfl (ps rfl (ps rfl (ps rfl (ps rfl (ps rfl (ps rfl (L_pick (v:=Bo b26) rfl rfl (congrArg Value.bool (so hb26)) (aB rfl (nn (rj hR27 ⟨rfl,(Star.keepN 0 hst)⟩))))))))))))
 refine ps rfl (ps rfl (ps rfl (ps rfl (ps rfl (ps rfl (ps rfl (ps rfl (ps rfl (ps rfl (L_pick (v:=Bo (((decide (x10.1 ≥ 0)) && (((decide (x10.1 > 0)) || (s.kind == 6)) || (s.a == 0))) && (((x10.1 == 2) || x10.2) || (s.b == 0)))) rfl rfl (and_f hc208) (mB rfl (L_split (d:=39) (b:=(((decide (x10.1 ≥ 0)) && (((decide (x10.1 > 0)) || (s.kind == 6)) || (s.a == 0))) && (((x10.1 == 2) || x10.2) || (s.b == 0)))) rfl (fun hc244=>?_) (fun hc244=>?_)))))))))))))
 rw [ite_t hc244] at hb26
 obtain ⟨b25,hb25,hb26⟩:=bind_some hb26
 refine fA 0 fa_63_0 rfl rfl (ldB 0 hst Try.isAgg3 rfl rfl rfl (L_eql rfl rfl rfl (mB rfl (L_split (d:=43) (b:=(s.kind == 7)) rfl (fun hc245=>?_) (fun hc245=>?_)))))
 rw [ite_t hc245] at hb25
 refine ps rfl (ps rfl (ps rfl (ps rfl (L_pick (v:=Bo b25) rfl rfl (congrArg Value.bool (so hb25)) (L_pick (v:=Bo b26) rfl rfl (congrArg Value.bool (so hb26)) (aB rfl (nn (rj hR27 ⟨rfl,(Star.keepN 0 hst)⟩))))))))
 rw [ite_f hc245] at hb25
 obtain ⟨x23,hx23,hb25⟩:=bind_some hb25
 refine fA 3 fa_63_3 rfl rfl (L_lda (cs:=[v0_3,I s.given.bound]) rfl Try.isAgg41 Try.sizeOf41 rfl (At.sub0 (Blk.at (Star.blkAt 0 hst rfl)) 3 2) rfl (L_bld rfl (parts0 ) (bld_41_  ) ?_))
 obtain ⟨H246b,l247,s248,z249,k250⟩:=hst.borrow
 refine L_call rfl Try.call82 (ops2 rfl rfl) (i_ConstraintSame_c (a:=s.given) (b:=({ terms:=[],bound:=0 } : Con)) s248 (RP.mono _ h0_3 l247) (rel_nil _ _ _) hx23) ?_
 rintro _ w251 ⟨rfl,hst⟩
 have hst:=k250 hst c0
 refine L_pick (v:=Bo b25) rfl rfl (congrArg Value.bool (so hb25)) (L_pick (v:=Bo b26) rfl rfl (congrArg Value.bool (so hb26)) (aB rfl (nn (rj hR27 ⟨rfl,(Star.keepN 0 hst)⟩))))
 rw [ite_f hc244] at hb26
 refine ps rfl (ps rfl (ps rfl (ps rfl (ps rfl (ps rfl (ps rfl (ps rfl (ps rfl (L_pick (v:=Bo b26) rfl rfl (congrArg Value.bool (so hb26)) (aB rfl (nn (rj hR27 ⟨rfl,(Star.keepN 0 hst)⟩))))))))))))
 intro f w_ hR
 obtain ⟨sf2,hst⟩:=rk hR27 hR
 refine W_ret (retG1 (v1:=Bo b26) Try.results128 sf2 ?_)
 obtain rfl:=so hF
 exact ⟨rfl,hst⟩
theorem i_running_has_c {r_ : Db} {i : Int} {g_0 : Nat} {v0_0 : Value} {v0_1 : Value} {H : FH} {w : World} {R : List Ass} (hst : Star H w (box g_0 115 #[v0_0,v0_1] :: oF 41 (rCon 117) v0_0 r_.list :: oF 4 RP.bool v0_1 r_.gone :: R)) {r : Bool} (hF : i_running_has r_ i = some r) :
 C Try.prog 129 #[Pt g_0,I i] w fun v w'=>∃ H' : FH,Le H H'∧v = Bo r∧Star H' w' (box g_0 115 #[v0_0,v0_1] :: oF 41 (rCon 117) v0_0 r_.list :: oF 4 RP.bool v0_1 r_.gone :: R):=by
 unfold i_running_has at hF
 refine C_enter Try.func129 rfl Try.ntmps129 rfl (sq (aB rfl (nq ?_)))
 obtain ⟨x6,hx6,hF⟩:=bind_some hF
 obtain ⟨b13,hb13,hF⟩:=bind_some hF
 obtain ⟨R14,hR14⟩:=exR fun f w_=>f 4 = Bo b13∧Star H w_ (oF 41 (rCon 117) v0_0 r_.list :: oF 4 RP.bool v0_1 r_.gone :: box g_0 115 #[v0_0,v0_1] :: R)
 refine W_join R14 ?_ ?_
 refine W_region (mI rfl (mV (Pt g_0) rfl (L_nc rfl rfl (fA 0 fa_115_0 rfl rfl (ldB 0 hst Try.isAgg27 rfl rfl rfl (L_len rfl Try.underlying27 rfl (Star.len 1 hst rfl) (L_sub rfl rfl rfl ?_)))))))
 obtain ⟨H15b,l16,s17,z18,k19⟩:=hst.borrow
 refine L_call rfl Try.call106 (ops3 rfl rfl rfl) (i_within_c (n_:=i) (low:=0) (high:=i64 ((r_.list.length : Int) - 1)) s17 hx6) ?_
 rintro _ w20 ⟨rfl,hst⟩
 have hst:=k19 hst c0
 refine mB rfl (L_split (d:=13) (b:=x6) rfl (fun hc21=>?_) (fun hc21=>?_))
 rw [ite_t hc21] at hb13
 obtain ⟨x8,hx8,hb13⟩:=bind_some hb13
 refine mV (Pt g_0) rfl (L_nc rfl rfl (fA 1 fa_115_1 rfl rfl (ldB 0 hst Try.isAgg49 rfl rfl rfl (mI rfl ?_))))
 obtain ⟨g22,cap_g22,hv23,_,_⟩:=Star.row 2 hst rfl hx8
 refine L_ixO (R:=(OR.frz RP.bool)) (tb:=0) 0 rfl Try.underlying49 Try.sizeOf4 rfl hv23 (by first | rfl | simp) rfl hx8 ?_
 obtain ⟨cs24,hr24,hat24⟩:=Star.eltF 2 hst rfl hv23 hx8
 obtain rfl : _ = [_]:=hr24
 refine L_ld rfl Try.isAgg4 rfl (At.cell hat24 (j:=0) rfl) (L_not_ rfl rfl (L_pick (v:=Bo b13) rfl rfl (congrArg Value.bool (so hb13)) (aB rfl (nn ?_))))
 have hst:=hst.gets [2,2] rfl
 exact rj hR14 ⟨rfl,hst⟩
 rw [ite_f hc21] at hb13
 refine ps rfl (ps rfl (ps rfl (ps rfl (ps rfl (ps rfl (ps rfl (ps rfl (L_pick (v:=Bo b13) rfl rfl (congrArg Value.bool (so hb13)) (aB rfl (nn ?_))))))))))
 have hst:=hst.gets [2,2] rfl
 exact rj hR14 ⟨rfl,hst⟩
 intro f w_ hR
 obtain ⟨sf4,hst⟩:=rk hR14 hR
 refine W_ret (retG1 (v1:=Bo b13) Try.results129 sf4 ?_)
 obtain rfl:=so hF
 have hst:=hst.gets [1,1,2] rfl
 exact ⟨H,(Le.refl _),rfl,hst⟩
theorem i_Constraint_valid_c {c : Con} {v0_0 : Value} {H : FH} {w : World} {R : List Ass} (hst : Star H w R) (h0_0 : (rS 117 rTerm).rel H [v0_0] c.terms) {r : Con × Bool} (hF : i_Constraint_valid c = some r) :
 C Try.prog 154 #[.agg #[v0_0,I c.bound]] w fun v w'=>∃ H' : FH,Le H H'∧∃ (u1 : Value),v = .tuple #[.agg #[u1,I r.1.bound],Bo r.2]∧(rS 117 rTerm).rel H' [u1] r.1.terms∧Star H' w' (R):=by
 unfold i_Constraint_valid at hF
 refine C_enter Try.func154 rfl Try.ntmps154 rfl (sq (L_box (v:=.agg #[v0_0,I c.bound]) (cs:=#[v0_0,I c.bound]) rfl rfl rfl hst (fun g5 w6 hst=>L_al (cs:=#[S0,I 0]) rfl Try.zeroValue41 rfl hst (fun g7 w8 hst=>aB rfl (nq (W_seq ?_))))))
 obtain ⟨x14,hx14,hF⟩:=bind_some hF
 refine W_region (L_lda (cs:=[v0_0,I c.bound]) rfl Try.isAgg41 Try.sizeOf41 rfl (At.sub0 (Blk.at (Star.blkAt 1 hst rfl)) 0 2) rfl ?_)
 obtain ⟨H16b,l17,s18,z19,k20⟩:=hst.borrow
 refine L_call rfl Try.call61 (ops1 rfl) (i_ConstraintValid_c (c:=c) s18 (RP.mono _ h0_0 l17) hx14) ?_
 rintro _ w21 ⟨rfl,hst⟩
 have hst:=k20 hst c0
 refine L_not_ rfl rfl (nn (W_cond (b:=(!x14)) rfl (fun hc22=>?_) (fun hc22=>?_)))
 have hF:=(ite_t hc22).symm.trans hF
 refine sq (L_bld rfl (parts0 ) (bld_41_  ) (L_staB (vs:=#[S0,I 0]) (cs2:=#[S0,I 0]) 0 rfl Try.sizeOf41 rfl rfl rfl (ones_cons rfl (ones_cons rfl ones_nil)) hst rfl (by show 0 + 2≤2; decide) rfl (fun w24 hst=>aB rfl (nn (W_ret (retG2 (v1:=.agg #[S0,I 0]) (v2:=Bo false) Try.results154 (resV_agg Try.isAgg41 Try.sizeOf41 rfl (Star.blkAt 0 hst rfl) rfl) rfl ?_))))))
 obtain rfl:=so hF
 have hst:=Star.drop 0 hst rfl
 have hst:=Star.drop 0 hst rfl
 exact ⟨H,(Le.refl _),S0,rfl,(rel_nil _ _ _),hst⟩
 have hF:=(ite_f hc22).symm.trans hF
 refine W_skip (sq (L_lda (cs:=[v0_0,I c.bound]) rfl Try.isAgg41 Try.sizeOf41 rfl (At.sub0 (Blk.at (Star.blkAt 1 hst rfl)) 0 2) rfl (L_staB (vs:=#[v0_0,I c.bound]) (cs2:=#[v0_0,I c.bound]) 0 rfl Try.sizeOf41 rfl rfl rfl (ones_cons (one_len (slice_len h0_0)) (ones_cons rfl ones_nil)) hst rfl (by show 0 + 2≤2; decide) rfl (fun w26 hst=>aB rfl (nn (W_ret (retG2 (v1:=.agg #[v0_0,I c.bound]) (v2:=Bo true) Try.results154 (resV_agg Try.isAgg41 Try.sizeOf41 rfl (Star.blkAt 0 hst rfl) rfl) rfl ?_)))))))
 obtain rfl:=so hF
 have hst:=Star.drop 0 hst rfl
 have hst:=Star.drop 0 hst rfl
 exact ⟨H,(Le.refl _),v0_0,rfl,h0_0,hst⟩
theorem i_normal_c {terms : List Term} {bound : Int} {v0 : Value} {H : FH} {w : World} {R : List Ass} (hst : Star H w R) (h0 : (rS 117 rTerm).rel H [v0] terms) {r : Con × Bool} (hF : i_normal terms bound = some r) :
 C Try.prog 147 #[v0,I bound] w fun v w'=>∃ H' : FH,Le H H'∧∃ (u1 : Value),v = .tuple #[.agg #[u1,I r.1.bound],Bo r.2]∧(rS 117 rTerm).rel H' [u1] r.1.terms∧Star H' w' (R):=by
 unfold i_normal at hF
 refine C_enter Try.func147 rfl Try.ntmps147 rfl (sq (L_al (cs:=#[S0,I 0]) rfl Try.zeroValue41 rfl hst (fun g3 w4 hst=>aB rfl (ns (L_al (cs:=arrC (List.replicate 13 (0 : Int))) rfl Try.zeroValue153 rfl hst (fun g11 w12 hst=>?_))))))
 have hst:=Star.toArr (List.replicate 13 (0 : Int)) 13 rfl rfl hst
 refine nq (sq (mV v0 rfl (L_len rfl Try.underlying39 rfl (slice_len h0) (mI rfl (nn ?_)))))
 have hlen18 : List.length terms≤9223372036854775807:=len_le (slice_len h0)
 obtain ⟨j18,hL18,hF⟩:=bind_some hF
 obtain ⟨R18,hR18⟩:=exR fun f w_=>∃ bound_14 : Int,∃ ag11_15 : List Int,∃ H16 : FH,j18 = .nx (bound_14,ag11_15)∧Le H H16∧f 1 = I bound_14∧f 4 = Pt g3∧f 6 = Pt g11∧Star H16 w_ (arr g11 153 13 ag11_15 :: box g3 41 #[S0,I 0] :: R)
 refine W_join R18 ?_ ?_
 refine W_block ?_
 obtain ⟨I18,hI18⟩:=exI fun n f w_=>∃ i_13 : Nat,∃ suf18 : List Term,∃ bound_14 : Int,∃ ag11_15 : List Int,∃ H16 : FH,n = suf18.length∧List.drop i_13 terms = suf18∧i_13 + suf18.length = terms.length∧rangeL i_normal_b1 suf18 i_13 (bound_14,ag11_15) = some j18∧Le H H16∧f 1 = I bound_14∧f 4 = Pt g3∧f 6 = Pt g11∧f 12 = v0∧f 13 = I (terms.length : Int)∧f 14 = I i_13∧Star H16 w_ (arr g11 153 13 ag11_15 :: box g3 41 #[S0,I 0] :: R)
 refine W_loop I18 (n:=terms.length) ?_ ?_
 exact ij hI18 ⟨0,terms,bound,(List.replicate 13 (0 : Int)),H,rfl,rfl,Nat.zero_add _,hL18,(Le.refl _),rfl,rfl,rfl,rfl,rfl,rfl,hst⟩
 intro n18 f w_ hI
 obtain ⟨i_13,suf18,bound_14,ag11_15,H16,rfl,hd18,hl18,hL18,l17,sf1,sf4,sf6,sf12,sf13,sf14,hst⟩:=ik hI18 hI
 refine sq (L_lss rfl sf14 sf13 (nq (W_cond (b:=decide ((i_13 : Int) < (terms.length : Int))) rfl (fun hc19=>?_) (fun hc19=>?_))))
 have hlt18:=of_decide_eq_true hc19
 rcases suf18 with _ | ⟨x_18,rest18⟩
 exact absurd hlt18 (by simp at hl18; omega)
 obtain ⟨o18,hB18,hL18⟩:=range_cons hL18
 rw [i_normal_b1] at hB18
 have hix18:=drop_idx hd18
 refine W_skip (W_seq (W_block (sq (L_ix (r:=rTerm) rfl Try.underlying39 Try.sizeOf117 sf12 (RP.mono _ h0 l17) sf14 hix18 (fun g27 o28 cs_g27 hrk_hat29 hat29=>?_)))))
 obtain rfl:=rTerm_iff.1 hrk_hat29
 refine L_lda (cs:=[I x_18.coef,I x_18.lit]) rfl Try.isAgg117 Try.sizeOf117 rfl (At.sub (AtH.at hat29 hst.sub) 0 2) rfl (L_al (cs:=#[I 0,I 0]) rfl Try.zeroValue117 rfl hst (fun g31 w32 hst=>L_staB (vs:=#[I x_18.coef,I x_18.lit]) (cs2:=#[I x_18.coef,I x_18.lit]) 0 rfl Try.sizeOf117 rfl rfl rfl (ones_cons rfl (ones_cons rfl ones_nil)) hst rfl (by show 0 + 2≤2; decide) rfl (fun w33 hst=>ns (fA 1 fa_117_1 rfl rfl (ldB 0 hst Try.isAgg3 rfl rfl rfl (L_lss rfl rfl rfl (nn ?_)))))))
 obtain ⟨⟨bound_34,ag11_35⟩,hA38,hB18⟩:=bind_some hB18
 obtain ⟨R38,hR38⟩:=exR fun f w_=>∃ H36 : FH,Le H16 H36∧f 1 = I bound_34∧f 4 = Pt g3∧f 6 = Pt g11∧f 12 = v0∧f 13 = I (terms.length : Int)∧f 14 = I i_13∧Star H36 w_ (arr g11 153 13 ag11_35 :: box g3 41 #[S0,I 0] :: R)
 refine W_join R38 ?_ ?_
 refine W_cond (b:=decide (x_18.lit < 0)) rfl (fun hc39=>?_) (fun hc39=>?_)
 have hA38:=(ite_t hc39).symm.trans hA38
 refine sq (mF sf1 rfl (fA 0 fa_117_0 rfl rfl (ldB 0 hst Try.isAgg3 rfl rfl rfl (L_sub rfl rfl rfl (aI rfl (nn ?_))))))
 obtain ⟨x40,hx40,hA38⟩:=bind_some hA38
 refine W_drawS 7 [isV (Pq g31 1),isV (I x_18.lit),isV (I (i64 (-x_18.lit))),isV (.pointer (some ⟨g11,Int.toNat (i64 (-x_18.lit)) * 1,none⟩)),isV (I x40),isV (Pt g31),isV (I x_18.coef)] [box g31 117 #[I x_18.coef,I x_18.lit],arr g11 153 13 ag11_15,box g3 41 #[S0,I 0]] [] (R) [([],[]),([],[]),([],[]),([],[]),([],[]),([],[]),([],[])] (S:=[]) Try_mix (by kernel_rfl) rfl (by kernel_rfl) (amF_cons (mono_V _) (amF_cons (mono_V _) (amF_cons (mono_V _) (amF_cons (mono_V _) (amF_cons (mono_V _) (amF_cons (mono_V _) (amF_cons (mono_V _) amF_nil))))))) hst ?_ (fun f w_ H42 hS42 hE42 hT42 hst=>?_)
 refine opsS_cons (fun f w_ _ _ s _ _ hst=>fA 1 fa_117_1 ((s 8 rfl).trans rfl) rfl (nO rfl rfl hst)) (opsS_cons (fun f w_ _ _ _ _ p hst=>ldB 0 hst Try.isAgg3 (p 0 25 rfl rfl) rfl rfl (nO rfl rfl hst)) (opsS_cons (fun f w_ _ _ _ _ p hst=>L_neg rfl (p 1 26 rfl rfl) (nO rfl rfl hst)) (opsS_cons (fun f w_ _ _ s _ p hst=>L_ixA 1 rfl Try.underlying153 Try.sizeOf3 ((s 6 rfl).trans sf6) (p 2 27 rfl rfl) hst rfl hx40 (nO rfl rfl hst)) (opsS_cons (fun f w_ _ _ _ _ p hst=>L_ldA 1 rfl Try.isAgg3 (p 3 28 rfl rfl) hst rfl hx40 (nO rfl rfl hst)) (opsS_cons (fun f w_ _ _ s _ _ hst=>fA 0 fa_117_0 ((s 8 rfl).trans rfl) rfl (nO rfl rfl hst)) (opsS_cons (fun f w_ _ _ _ _ p hst=>ldB 0 hst Try.isAgg3 (p 5 30 rfl rfl) rfl rfl (nO rfl rfl hst)) (opsS_nil)))))))
 refine L_sub rfl (hT42 4 29 rfl rfl) (hT42 6 31 rfl rfl) (L_ixA 1 rfl Try.underlying153 Try.sizeOf3 ((hS42 6 rfl).trans sf6) (hT42 2 27 rfl rfl) hst rfl hx40 ?_)
 have hst:=hst.get 1 rfl
 refine L_stA rfl Try.sizeOf3 rfl rfl hst hx40 (fun w43 hst=>nn ?_)
 obtain ⟨rfl,rfl⟩:=so2 hA38
 have hst:=hst.gets [2,1] rfl
 have hst:=Star.drop 2 hst rfl
 exact rj hR38 ⟨H42,hE42,((hS42 1 rfl).trans rfl),((hS42 4 rfl).trans sf4),((hS42 6 rfl).trans sf6),((hS42 12 rfl).trans sf12),((hS42 13 rfl).trans sf13),((hS42 14 rfl).trans sf14),hst⟩
 have hA38:=(ite_f hc39).symm.trans hA38
 obtain ⟨x44,hx44,hA38⟩:=bind_some hA38
 refine W_drawS 6 [isV (Pq g31 1),isV (I x_18.lit),isV (.pointer (some ⟨g11,Int.toNat x_18.lit * 1,none⟩)),isV (I x44),isV (Pt g31),isV (I x_18.coef)] [box g31 117 #[I x_18.coef,I x_18.lit],arr g11 153 13 ag11_15,box g3 41 #[S0,I 0]] [] (R) [([],[]),([],[]),([],[]),([],[]),([],[]),([],[])] (S:=[]) Try_mix (by kernel_rfl) rfl (by kernel_rfl) (amF_cons (mono_V _) (amF_cons (mono_V _) (amF_cons (mono_V _) (amF_cons (mono_V _) (amF_cons (mono_V _) (amF_cons (mono_V _) amF_nil)))))) hst ?_ (fun f w_ H46 hS46 hE46 hT46 hst=>?_)
 refine opsS_cons (fun f w_ _ _ s _ _ hst=>fA 1 fa_117_1 ((s 8 rfl).trans rfl) rfl (nO rfl rfl hst)) (opsS_cons (fun f w_ _ _ _ _ p hst=>ldB 0 hst Try.isAgg3 (p 0 34 rfl rfl) rfl rfl (nO rfl rfl hst)) (opsS_cons (fun f w_ _ _ s _ p hst=>L_ixA 1 rfl Try.underlying153 Try.sizeOf3 ((s 6 rfl).trans sf6) (p 1 35 rfl rfl) hst rfl hx44 (nO rfl rfl hst)) (opsS_cons (fun f w_ _ _ _ _ p hst=>L_ldA 1 rfl Try.isAgg3 (p 2 36 rfl rfl) hst rfl hx44 (nO rfl rfl hst)) (opsS_cons (fun f w_ _ _ s _ _ hst=>fA 0 fa_117_0 ((s 8 rfl).trans rfl) rfl (nO rfl rfl hst)) (opsS_cons (fun f w_ _ _ _ _ p hst=>ldB 0 hst Try.isAgg3 (p 4 38 rfl rfl) rfl rfl (nO rfl rfl hst)) (opsS_nil))))))
 refine L_add rfl (hT46 3 37 rfl rfl) (hT46 5 39 rfl rfl) (L_ixA 1 rfl Try.underlying153 Try.sizeOf3 ((hS46 6 rfl).trans sf6) (hT46 1 35 rfl rfl) hst rfl hx44 ?_)
 have hst:=hst.get 1 rfl
 refine L_stA rfl Try.sizeOf3 rfl rfl hst hx44 (fun w47 hst=>nn ?_)
 obtain ⟨rfl,rfl⟩:=so2 hA38
 have hst:=hst.gets [2,1] rfl
 have hst:=Star.drop 2 hst rfl
 exact rj hR38 ⟨H46,hE46,((hS46 1 rfl).trans sf1),((hS46 4 rfl).trans sf4),((hS46 6 rfl).trans sf6),((hS46 12 rfl).trans sf12),((hS46 13 rfl).trans sf13),((hS46 14 rfl).trans sf14),hst⟩
 intro f w_ hR
 obtain ⟨H36,l37,sf1,sf4,sf6,sf12,sf13,sf14,hst⟩:=rk hR38 hR
 refine W_region (L_add rfl sf14 rfl (mI rfl (nn ?_)))
 obtain rfl:=so hB18
 show ∃ m,m < _∧I18 m _ _
 refine ⟨rest18.length,by simp,?_⟩
 exact ij hI18 ⟨i_13 + 1,rest18,bound_34,ag11_35,H36,rfl,drop_next hd18,by simp at hl18; omega,hL18,(Le.trans l17 l37),sf1,sf4,sf6,sf12,sf13,(Eq.trans rfl (congrArg (Value.int .i64) (i64_succ (n:=terms.length) (by simp at hl18; omega) hlen18))),hst⟩
 rcases suf18 with _ | ⟨_,_⟩
 obtain rfl:=range_nil hL18
 refine W_exit (rj hR18 ⟨bound_14,ag11_15,H16,rfl,l17,sf1,sf4,sf6,hst⟩)
 exact absurd (of_decide_eq_false hc19) (by simp at hl18; omega)
 intro f w_ hR
 obtain ⟨bound_14,ag11_15,H16,rfl,l17,sf1,sf4,sf6,hst⟩:=rk hR18 hR
 refine sq (L_bld rfl (parts0 ) (bld_41_  ) (L_al (cs:=#[S0,I 0]) rfl Try.zeroValue41 rfl hst (fun g51 w52 hst=>L_staB (vs:=#[S0,I 0]) (cs2:=#[S0,I 0]) 0 rfl Try.sizeOf41 rfl rfl rfl (ones_cons rfl (ones_cons rfl ones_nil)) hst rfl (by show 0 + 2≤2; decide) rfl (fun w53 hst=>nq (sq ?_)))))
 have hla55:=(Star.arrAt 1 hst rfl).2
 refine L_ldAA 1 rfl Try.isAgg153 Try.sizeOf153 sf6 hst rfl (mI rfl (nn ?_))
 obtain ⟨k61,hk61,hF⟩:=bind_some hF
 obtain ⟨j60,hL60,hF⟩:=bind_some hF
 obtain ⟨R60,hR60⟩:=exR fun f w_=>∃ bound_57 : Int,∃ g51_0_58 : List Term,∃ v58_g51_0 : Value,j60 = .nx (bound_57,g51_0_58)∧f 1 = I bound_57∧f 4 = Pt g3∧f 9 = Pt g51∧Star H16 w_ (oF 117 rTerm v58_g51_0 g51_0_58 :: box g51 41 #[v58_g51_0,I 0] :: box g3 41 #[S0,I 0] :: R)
 refine W_join R60 ?_ ?_
 refine W_block ?_
 obtain ⟨I60,hI60⟩:=exI fun n f w_=>∃ i_56 : Nat,∃ suf60 : Nat,∃ bound_57 : Int,∃ g51_0_58 : List Term,∃ v58_g51_0 : Value,suf60 = n∧0≤i_56∧i_56 + suf60 = 0 + k61∧countL (i_normal_b2 ag11_15) suf60 i_56 (bound_57,g51_0_58) = some j60∧f 1 = I bound_57∧f 4 = Pt g3∧f 9 = Pt g51∧f 44 = (.agg (arrC ag11_15))∧f 45 = I i_56∧Star H16 w_ (oF 117 rTerm v58_g51_0 g51_0_58 :: box g51 41 #[v58_g51_0,I 0] :: box g3 41 #[S0,I 0] :: R)
 have hst:=Star.addNil (R:=(OR.frz rTerm)) (e:=117) hst
 have hst:=hst.gets [3,2,2] rfl
 have hst:=Star.drop 3 hst rfl
 refine W_loop I60 (n:=k61) ?_ ?_
 exact ij hI60 ⟨0,k61,bound_14,[],S0,rfl,Nat.le_refl _,rfl,hL60,sf1,sf4,rfl,rfl,rfl,hst⟩
 intro n60 f w_ hI
 obtain ⟨i_56,suf60,bound_57,g51_0_58,v58_g51_0,rfl,hs60,hl60,hL60,sf1,sf4,sf9,sf44,sf45,hst⟩:=ik hI60 hI
 refine sq (L_lss rfl sf45 rfl (nq (W_cond (b:=decide ((i_56 : Int) < 13)) rfl (fun hc63=>?_) (fun hc63=>?_))))
 have hlt60:=of_decide_eq_true hc63
 rcases suf60 with _ | rest60
 exact absurd hlt60 (cntF_no hl60 hk61)
 obtain ⟨o60,hB60,hL60⟩:=count_succ hL60
 rw [i_normal_b2] at hB60
 refine W_skip (W_seq (W_block (W_seq ?_)))
 obtain ⟨x64,hx64,hB60⟩:=bind_some hB60
 refine W_region (mF sf45 rfl (L_ixV rfl Try.underlying153 Try.sizeOf3 Try.isAgg3 sf44 sf45 hla55 hx64 (aI rfl (aI rfl (nn (W_block (sq (mI rfl (L_gtr rfl rfl rfl (aB rfl (nn ?_)))))))))))
 obtain ⟨⟨bound_65,g51_0_66⟩,hA68,hB60⟩:=bind_some hB60
 obtain ⟨R68,hR68⟩:=exR fun f w_=>∃ v66_g51_0 : Value,f 1 = I bound_65∧f 4 = Pt g3∧f 9 = Pt g51∧f 44 = (.agg (arrC ag11_15))∧f 45 = I i_56∧Star H16 w_ (oF 117 rTerm v66_g51_0 g51_0_66 :: box g51 41 #[v66_g51_0,I 0] :: box g3 41 #[S0,I 0] :: R)
 refine W_join R68 ?_ ?_
 refine W_cond (b:=decide (x64 > 0)) rfl (fun hc69=>?_) (fun hc69=>?_)
 have hA68:=(ite_t hc69).symm.trans hA68
 obtain ⟨x73,hx73,hA68⟩:=bind_some hA68
 refine W_region (fA 0 fa_41_0 sf9 rfl (ldB 1 hst Try.isAgg39 rfl rfl rfl (mI rfl (mI rfl (L_bld rfl (parts2 rfl rfl) (bld_117_0_1 (I x64) (I i_56) rfl rfl) (L_bs rfl (parts1 rfl) (bs_39_1_2 (I x64) (I i_56) ) hst (fun g78 w79 hst=>?_)))))))
 have hst:=Star.addF (r:=rTerm) (cs:=[I x64,I i_56]) (x:=({ coef:=x64,lit:=(i_56 : Int) } : Term)) hst (rTerm_iff.2 rfl)
 have hst:=Star.mkRow (R:=(OR.frz rTerm)) [([I x64,I i_56],({ coef:=x64,lit:=(i_56 : Int) } : Term))] [({ coef:=x64,lit:=(i_56 : Int) } : Term)] 1 hst rfl rfl rfl (by decide)
 have hst:=hst.get 1 rfl
 refine L_appM (v:=v58_g51_0) (u:=(Sl g78 1 1)) rfl et_39 rfl rfl hst hx73 (fun v81 w82 hst=>fA 0 fa_41_0 sf9 rfl (L_stB (v:=v81) (cs2:=#[v81,I 0]) 1 rfl Try.sizeOf39 rfl rfl (one_len (Star.len 0 hst rfl)) hst rfl rfl rfl (fun w84 hst=>nn ?_)))
 obtain ⟨rfl,rfl⟩:=so2 hA68
 have hst:=hst.gets [2,1,2] rfl
 exact rj hR68 ⟨v81,sf1,sf4,sf9,sf44,sf45,hst⟩
 have hA68:=(ite_f hc69).symm.trans hA68
 refine sq (mI rfl (L_lss rfl rfl rfl (aB rfl (nn ?_))))
 obtain ⟨⟨bound_85,g51_0_86⟩,hA88,hA68⟩:=bind_some hA68
 obtain ⟨R88,hR88⟩:=exR fun f w_=>∃ v86_g51_0 : Value,f 1 = I bound_85∧f 4 = Pt g3∧f 9 = Pt g51∧f 44 = (.agg (arrC ag11_15))∧f 45 = I i_56∧Star H16 w_ (oF 117 rTerm v86_g51_0 g51_0_86 :: box g51 41 #[v86_g51_0,I 0] :: box g3 41 #[S0,I 0] :: R)
 refine W_join R88 ?_ ?_
 refine W_cond (b:=decide (x64 < 0)) rfl (fun hc89=>?_) (fun hc89=>?_)
 have hA88:=(ite_t hc89).symm.trans hA88
 refine W_seq ?_
 obtain ⟨x93,hx93,hA88⟩:=bind_some hA88
 refine W_region (fA 0 fa_41_0 sf9 rfl (ldB 1 hst Try.isAgg39 rfl rfl rfl (mI rfl (L_neg rfl rfl (mI rfl (L_neg rfl rfl (L_bld rfl (parts2 rfl rfl) (bld_117_0_1 (I (i64 (-x64))) (I (i64 (-(i_56 : Int)))) rfl rfl) (L_bs rfl (parts1 rfl) (bs_39_1_2 (I (i64 (-x64))) (I (i64 (-(i_56 : Int)))) ) hst (fun g98 w99 hst=>?_)))))))))
 have hst:=Star.addF (r:=rTerm) (cs:=[I (i64 (-x64)),I (i64 (-(i_56 : Int)))]) (x:=({ coef:=i64 (-x64),lit:=i64 (-(i_56 : Int)) } : Term)) hst (rTerm_iff.2 rfl)
 have hst:=Star.mkRow (R:=(OR.frz rTerm)) [([I (i64 (-x64)),I (i64 (-(i_56 : Int)))],({ coef:=i64 (-x64),lit:=i64 (-(i_56 : Int)) } : Term))] [({ coef:=i64 (-x64),lit:=i64 (-(i_56 : Int)) } : Term)] 1 hst rfl rfl rfl (by decide)
 have hst:=hst.get 1 rfl
 refine L_appM (v:=v58_g51_0) (u:=(Sl g98 1 1)) rfl et_39 rfl rfl hst hx93 (fun v101 w102 hst=>fA 0 fa_41_0 sf9 rfl (L_stB (v:=v101) (cs2:=#[v101,I 0]) 1 rfl Try.sizeOf39 rfl rfl (one_len (Star.len 0 hst rfl)) hst rfl rfl rfl (fun w104 hst=>nn (W_region (mF sf1 rfl (mI rfl (L_sub rfl rfl rfl (aI rfl (nn ?_)))))))))
 obtain ⟨rfl,rfl⟩:=so2 hA88
 have hst:=hst.gets [2,1,2] rfl
 exact rj hR88 ⟨v101,rfl,sf4,sf9,sf44,sf45,hst⟩
 have hA88:=(ite_f hc89).symm.trans hA88
 refine W_skip ?_
 obtain ⟨rfl,rfl⟩:=so2 hA88
 exact rj hR88 ⟨v58_g51_0,sf1,sf4,sf9,sf44,sf45,hst⟩
 intro f w_ hR
 obtain ⟨v86_g51_0,sf1,sf4,sf9,sf44,sf45,hst⟩:=rk hR88 hR
 obtain ⟨rfl,rfl⟩:=so2 hA68
 exact rj hR68 ⟨v86_g51_0,sf1,sf4,sf9,sf44,sf45,hst⟩
 intro f w_ hR
 obtain ⟨v66_g51_0,sf1,sf4,sf9,sf44,sf45,hst⟩:=rk hR68 hR
 refine W_region (L_add rfl sf45 rfl (mI rfl (nn ?_)))
 obtain rfl:=so hB60
 show ∃ m,m < _∧I60 m _ _
 refine ⟨rest60,Nat.lt_succ_self _,?_⟩
 exact ij hI60 ⟨i_56 + 1,rest60,bound_65,g51_0_66,v66_g51_0,rfl,by omega,by omega,hL60,sf1,sf4,sf9,sf44,(Eq.trans rfl (congrArg (Value.int .i64) (i64_succ (n:=0 + k61) (by omega) (cntF_le hk61)))),hst⟩
 rcases suf60 with _ | _
 obtain rfl:=count_zero hL60
 refine W_exit (rj hR60 ⟨bound_57,g51_0_58,v58_g51_0,rfl,sf1,sf4,sf9,hst⟩)
 exact absurd (cntF_yes hs60 hl60 hk61) (of_decide_eq_false hc63)
 intro f w_ hR
 obtain ⟨bound_57,g51_0_58,v58_g51_0,rfl,sf1,sf4,sf9,hst⟩:=rk hR60 hR
 refine sq (mF sf1 rfl (L_max rfl rfl rfl (fA 1 fa_41_1 sf9 rfl (L_stB (v:=I (max 0 bound_57)) (cs2:=#[v58_g51_0,I (max 0 bound_57)]) 1 rfl Try.sizeOf3 rfl rfl rfl hst rfl rfl rfl (fun w106 hst=>nq ?_)))))
 obtain ⟨x110,hx110,hF⟩:=bind_some hF
 refine W_region (L_lda (cs:=[v58_g51_0,I (max 0 bound_57)]) rfl Try.isAgg41 Try.sizeOf41 sf9 (At.sub0 (Blk.at (Star.blkAt 0 hst rfl)) 0 2) rfl ?_)
 have hst:=hst.get 1 rfl
 obtain ⟨H113,l114,hst,hz115⟩:=Star.freeze hst
 have hz115 : (rS 117 rTerm).rel H113 [v58_g51_0] g51_0_58:=hz115
 refine L_call rfl Try.call154 (ops1 rfl) (i_Constraint_valid_c (c:=({ terms:=g51_0_58,bound:=max 0 bound_57 } : Con)) hst hz115 hx110) ?_
 rintro _ w116 ⟨H116,l116,r116_0,rfl,hr116_0,hst⟩
 refine L_ex (v:=.agg #[r116_0,I x110.1.bound]) rfl rfl rfl (L_ex (v:=Bo x110.2) rfl rfl rfl (L_staB (vs:=#[r116_0,I x110.1.bound]) (cs2:=#[r116_0,I x110.1.bound]) 1 rfl Try.sizeOf41 sf4 rfl rfl (ones_cons (one_len (slice_len hr116_0)) (ones_cons rfl ones_nil)) hst rfl (by show 0 + 2≤2; decide) rfl (fun w117 hst=>aB rfl (nn (W_ret (retG2 (v1:=.agg #[r116_0,I x110.1.bound]) (v2:=Bo x110.2) Try.results147 (resV_agg Try.isAgg41 Try.sizeOf41 sf4 (Star.blkAt 0 hst rfl) rfl) rfl ?_))))))
 obtain rfl:=so hF
 have hst:=Star.drop 0 hst rfl
 have hst:=Star.drop 0 hst rfl
 exact ⟨H116,(Le.trans (Le.trans l17 l114) l116),r116_0,rfl,hr116_0,hst⟩
end Go.Proofs.Ytiodhgbfceahfaa

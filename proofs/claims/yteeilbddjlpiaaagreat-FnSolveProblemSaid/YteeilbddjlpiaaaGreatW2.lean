/- Part of a proof by program: W2. -/
import Derived.Test.YteeilbddjlpiaaaGreatD1
import Derived.Test.YteeilbddjlpiaaaGreatW1
namespace Go.Proofs.YteeilbddjlpiaaaGreat
open Go Go.E Go.L Go.RowKit
set_option linter.unusedVariables false
set_option linter.unusedSimpArgs false
set_option maxRecDepth 100000
theorem s_ConstraintValid_c {c : Con} {v0_0 : Value} {H : FH} {w : World} (hst : Star H w []) (h0_0 : (rS 85 rTerm).rel H [v0_0] c.terms) {r : Bool} (hF : s_ConstraintValid c = some r) :
 C Tryz.prog 40 #[.agg #[v0_0,I c.bound]] w fun v w'=>v = Bo r∧Star H w' []:=by
 unfold s_ConstraintValid at hF
 refine C_enter Tryz.func40 rfl Tryz.ntmps40 rfl (sq (L_box (v:=.agg #[v0_0,I c.bound]) (cs:=#[v0_0,I c.bound]) rfl rfl rfl hst (fun g3 w4 hst=>aB rfl (nq (sq (aI rfl (nn ?_)))))))
 have hlen8 : List.length c.terms≤9223372036854775807:=len_le (slice_len h0_0)
 obtain ⟨j8,hL8,hF⟩:=bind_some hF
 obtain ⟨R8,hR8⟩:=exR fun f w_=>∃ H6 : FH,j8 = .nx ()∧Le H H6∧f 1 = Pt g3∧Star H6 w_ ([box g3 46 #[v0_0,I c.bound]])
 refine W_join R8 ?_ ?_
 refine W_block ?_
 obtain ⟨I8,hI8⟩:=exI fun n f w_=>∃ i_5 : Nat,∃ suf8 : List Term,∃ H6 : FH,n = suf8.length∧List.drop i_5 c.terms = suf8∧i_5 + suf8.length = c.terms.length∧rangeL (s_ConstraintValid_b1 c) suf8 i_5 () = some j8∧Le H H6∧f 1 = Pt g3∧f 3 = I i_5∧Star H6 w_ ([box g3 46 #[v0_0,I c.bound]])
 refine W_loop I8 (n:=c.terms.length) ?_ ?_
 exact ij hI8 ⟨0,c.terms,H,rfl,rfl,Nat.zero_add _,hL8,(Le.refl _),rfl,rfl,hst⟩
 intro n8 f w_ hI
 obtain ⟨i_5,suf8,H6,rfl,hd8,hl8,hL8,l7,sf1,sf3,hst⟩:=ik hI8 hI
 refine W_seq (sq (mF sf3 rfl (fA 0 fa_46_0 sf1 rfl (ldB 0 hst Tryz.isAgg44 rfl rfl rfl (L_len rfl Tryz.underlying44 rfl (slice_len (RP.mono _ h0_0 l7)) (L_lss rfl rfl rfl (nn (W_cond (b:=decide ((i_5 : Int) < (c.terms.length : Int))) rfl (fun hc9=>?_) (fun hc9=>?_)))))))))
 have hlt8:=of_decide_eq_true hc9
 rcases suf8 with _ | ⟨x_8,rest8⟩
 exact absurd hlt8 (by simp at hl8; omega)
 obtain ⟨o8,hB8,hL8⟩:=range_cons hL8
 rw [s_ConstraintValid_b1] at hB8
 have hix8:=drop_idx hd8
 refine W_skip (W_seq (W_block (sq (fA 0 fa_46_0 sf1 rfl (ldB 0 hst Tryz.isAgg44 rfl rfl rfl (mF sf3 rfl (L_ix (r:=rTerm) rfl Tryz.underlying44 Tryz.sizeOf85 rfl (RP.mono _ h0_0 l7) rfl hix8 (fun g17 o18 cs_g17 hrk_hat19 hat19=>?_))))))))
 obtain rfl:=rTerm_iff.1 hrk_hat19
 refine L_lda (cs:=[I x_8.coef,I x_8.lit]) rfl Tryz.isAgg85 Tryz.sizeOf85 rfl (At.sub (AtH.at hat19 hst.sub) 0 2) rfl (L_al (cs:=#[I 0,I 0]) rfl Tryz.zeroValue85 rfl hst (fun g21 w22 hst=>L_staB (vs:=#[I x_8.coef,I x_8.lit]) (cs2:=#[I x_8.coef,I x_8.lit]) 0 rfl Tryz.sizeOf85 rfl rfl rfl (ones_cons rfl (ones_cons rfl ones_nil)) hst rfl (by show 0 + 2≤2; decide) rfl (fun w23 hst=>nq ?_)))
 obtain ⟨x29,hx29,hB8⟩:=bind_some hB8
 obtain ⟨b51,hb51,hB8⟩:=bind_some hB8
 obtain ⟨R55,hR55⟩:=exR fun f w_=>∃ H53 : FH,Le H6 H53∧f 1 = Pt g3∧f 3 = I i_5∧f 48 = Bo b51∧Star H53 w_ ([box g3 46 #[v0_0,I c.bound]])
 refine W_join R55 ?_ ?_
 rcases Bool.eq_false_or_eq_true (!x29) with hc56 | hc56
 rcases Bool.eq_false_or_eq_true ((!x29) || (decide (x_8.coef < 1))) with hc57 | hc57
 rcases Bool.eq_false_or_eq_true (((!x29) || (decide (x_8.coef < 1))) || (decide (x_8.coef > 1000))) with hc58 | hc58
 rw [ite_t hc58] at hb51
 refine W_drawS 28 [isV (Pq g21 1),isV (I x_8.lit),isV (Bo x29),isV (Bo (!x29)),isV (Bo (!x29)),isV (undef),isV (undef),isV (undef),isV (Bo ((!x29) || (decide (x_8.coef < 1)))),isV (Bo ((!x29) || (decide (x_8.coef < 1)))),isV (undef),isV (undef),isV (undef),isV (Bo (((!x29) || (decide (x_8.coef < 1))) || (decide (x_8.coef > 1000)))),isV (Bo (((!x29) || (decide (x_8.coef < 1))) || (decide (x_8.coef > 1000)))),isV (undef),isV (undef),isV (undef),isV (undef),isV (undef),isV (undef),isV (undef),isV (undef),isV (undef),isV (undef),isV (undef),isV (undef),isV (undef)] [box g21 85 #[I x_8.coef,I x_8.lit],box g3 46 #[v0_0,I c.bound]] [] ([]) [([],[]),([],[]),([],[]),([],[]),([],[]),([],[]),([],[]),([],[]),([],[]),([],[]),([],[]),([],[]),([],[]),([],[]),([],[]),([],[]),([],[]),([],[]),([],[]),([],[]),([],[]),([],[]),([],[]),([],[]),([],[]),([],[]),([],[]),([],[])] (S:=[]) Tryz_mix (by kernel_rfl) rfl (by kernel_rfl) (amF_cons (mono_V _) (amF_cons (mono_V _) (amF_cons (mono_V _) (amF_cons (mono_V _) (amF_cons (mono_V _) (amF_cons (mono_V _) (amF_cons (mono_V _) (amF_cons (mono_V _) (amF_cons (mono_V _) (amF_cons (mono_V _) (amF_cons (mono_V _) (amF_cons (mono_V _) (amF_cons (mono_V _) (amF_cons (mono_V _) (amF_cons (mono_V _) (amF_cons (mono_V _) (amF_cons (mono_V _) (amF_cons (mono_V _) (amF_cons (mono_V _) (amF_cons (mono_V _) (amF_cons (mono_V _) (amF_cons (mono_V _) (amF_cons (mono_V _) (amF_cons (mono_V _) (amF_cons (mono_V _) (amF_cons (mono_V _) (amF_cons (mono_V _) (amF_cons (mono_V _) amF_nil)))))))))))))))))))))))))))) hst ?_ (fun f w_ H52 hS52 hE52 hT52 hst=>?_)
 refine opsS_cons (fun f w_ _ _ s _ _ hst=>fA 1 fa_85_1 ((s 4 rfl).trans rfl) rfl (nO rfl rfl hst)) (opsS_cons (fun f w_ _ _ _ _ p hst=>ldB 0 hst Tryz.isAgg3 (p 0 17 rfl rfl) rfl rfl (nO rfl rfl hst)) (opsS_cons ?_ ?_))
 intro f w_ H52 X52 hS52 hE52 hP52 hst
 obtain ⟨H65b,l66,s67,z68,k69⟩:=hst.borrow
 refine L_call rfl Tryz.call57 (ops1 (hP52 1 18 rfl rfl)) (s_l1Lit_c (n_:=x_8.lit) s67 hx29) ?_
 rintro _ w70 ⟨rfl,hst⟩
 have hst:=k69 hst c0
 exact L_nil ⟨rfl,_,_,rfl,Le.refl _,fun _ _=>rfl,hst⟩
 refine opsS_cons (fun f w_ _ _ _ _ p hst=>L_not_ rfl (p 2 19 rfl rfl) (nO rfl rfl hst)) (opsS_cons (fun f w_ _ _ _ _ p hst=>mF (p 3 20 rfl rfl) rfl (nO rfl rfl hst)) (oP (fun _ _ p=>gN (p 4 21 rfl rfl) hc56 rfl) (fun _=>rfl) (oP (fun _ _ p=>gN (p 4 21 rfl rfl) hc56 rfl) (fun _=>rfl) (oP (fun _ _ p=>gN (p 4 21 rfl rfl) hc56 rfl) (fun _=>rfl) (opsS_cons (fun f w_ _ _ _ _ p hst=>pkT (v:=Bo ((!x29) || (decide (x_8.coef < 1)))) (p 4 21 rfl rfl) hc56 rfl (or_t hc56) (nO rfl rfl hst)) (opsS_cons (fun f w_ _ _ _ _ p hst=>mF (p 8 25 rfl rfl) rfl (nO rfl rfl hst)) (oP (fun _ _ p=>gN (p 9 26 rfl rfl) hc57 rfl) (fun _=>rfl) (oP (fun _ _ p=>gN (p 9 26 rfl rfl) hc57 rfl) (fun _=>rfl) (oP (fun _ _ p=>gN (p 9 26 rfl rfl) hc57 rfl) (fun _=>rfl) (opsS_cons (fun f w_ _ _ _ _ p hst=>pkT (v:=Bo (((!x29) || (decide (x_8.coef < 1))) || (decide (x_8.coef > 1000)))) (p 9 26 rfl rfl) hc57 rfl (or_t hc57) (nO rfl rfl hst)) (opsS_cons (fun f w_ _ _ _ _ p hst=>mF (p 13 30 rfl rfl) rfl (nO rfl rfl hst)) (oP (fun _ _ p=>gN (p 14 31 rfl rfl) hc58 rfl) (fun _=>rfl) (oP (fun _ _ p=>gN (p 14 31 rfl rfl) hc58 rfl) (fun _=>rfl) (oP (fun _ _ p=>gN (p 14 31 rfl rfl) hc58 rfl) (fun _=>rfl) (oP (fun _ _ p=>g_undef rfl (p 17 34 rfl rfl) rfl) (fun _=>rfl) (oP (fun _ _ p=>g_undef rfl (p 17 34 rfl rfl) rfl) (fun _=>rfl) (oP (fun _ _ p=>g_undef rfl (p 17 34 rfl rfl) rfl) (fun _=>rfl) (oP (fun _ _ p=>g_undef rfl (p 17 34 rfl rfl) rfl) (fun _=>rfl) (oP (fun _ _ p=>g_undef rfl (p 17 34 rfl rfl) rfl) (fun _=>rfl) (oP (fun _ _ p=>g_undef rfl (p 17 34 rfl rfl) rfl) (fun _=>rfl) (oP (fun _ _ p=>g_undef rfl (p 17 34 rfl rfl) rfl) (fun _=>rfl) (oP (fun _ _ p=>g_undef rfl (p 17 34 rfl rfl) rfl) (fun _=>rfl) (oP (fun _ _ p=>g_undef rfl (p 17 34 rfl rfl) rfl) (fun _=>rfl) (oP (fun _ _ p=>g_undef rfl (p 17 34 rfl rfl) rfl) (fun _=>rfl) (opsS_nil)))))))))))))))))))))))))
 refine ps (g_undef rfl (hT52 17 34 rfl rfl) rfl) (ps (g_undef rfl (hT52 17 34 rfl rfl) rfl) (ps (g_no rfl (Eq.trans (hT52 14 31 rfl rfl) (congrArg Value.bool hc58)) rfl rfl) (L_pick (v:=Bo b51) rfl (Eq.trans (hT52 14 31 rfl rfl) (congrArg Value.bool hc58)) (congrArg Value.bool (so hb51)) (nn ?_))))
 have hst:=hst.get 1 rfl
 exact rj hR55 ⟨H52,hE52,((hS52 1 rfl).trans sf1),((hS52 3 rfl).trans sf3),rfl,(Star.keepN 1 hst)⟩
 rw [ite_f hc58] at hb51
 obtain ⟨b50,hb50,hb51⟩:=bind_some hb51
 rcases Bool.eq_false_or_eq_true (decide ((i_5 : Int) > 0)) with hc71 | hc71
 rw [ite_t hc71] at hb50
 obtain ⟨x31,hx31,hb50⟩:=bind_some hb50
 obtain ⟨x41,hx41,hb50⟩:=bind_some hb50
 obtain ⟨x48,hx48,hb50⟩:=bind_some hb50
 refine W_drawS 28 [isV (Pq g21 1),isV (I x_8.lit),isV (Bo x29),isV (Bo (!x29)),isV (Bo (!x29)),isV (undef),isV (undef),isV (undef),isV (Bo ((!x29) || (decide (x_8.coef < 1)))),isV (Bo ((!x29) || (decide (x_8.coef < 1)))),isV (undef),isV (undef),isV (undef),isV (Bo (((!x29) || (decide (x_8.coef < 1))) || (decide (x_8.coef > 1000)))),isV (Bo (((!x29) || (decide (x_8.coef < 1))) || (decide (x_8.coef > 1000)))),isV (I i_5),isV (Bo (decide ((i_5 : Int) > 0))),isV (Bo (decide ((i_5 : Int) > 0))),isV (Pt g3),isV (v0_0),isV (I i_5),isV (I (i64 ((i_5 : Int) - 1))),isEl rTerm x31 0,isEl rTerm x31 1,isV (I x31.lit),isV (I x41),isV (Pq g21 1),isV (I x_8.lit)] [box g21 85 #[I x_8.coef,I x_8.lit],box g3 46 #[v0_0,I c.bound]] [] ([]) [([],[]),([],[]),([],[]),([],[]),([],[]),([],[]),([],[]),([],[]),([],[]),([],[]),([],[]),([],[]),([],[]),([],[]),([],[]),([],[]),([],[]),([],[]),([],[]),([],[]),([],[]),([],[]),([],[]),([],[]),([],[]),([],[]),([],[]),([],[])] (S:=[]) Tryz_mix (by kernel_rfl) rfl (by kernel_rfl) (amF_cons (mono_V _) (amF_cons (mono_V _) (amF_cons (mono_V _) (amF_cons (mono_V _) (amF_cons (mono_V _) (amF_cons (mono_V _) (amF_cons (mono_V _) (amF_cons (mono_V _) (amF_cons (mono_V _) (amF_cons (mono_V _) (amF_cons (mono_V _) (amF_cons (mono_V _) (amF_cons (mono_V _) (amF_cons (mono_V _) (amF_cons (mono_V _) (amF_cons (mono_V _) (amF_cons (mono_V _) (amF_cons (mono_V _) (amF_cons (mono_V _) (amF_cons (mono_V _) (amF_cons (mono_V _) (amF_cons (mono_V _) (amF_cons (mono_el _ _ _) (amF_cons (mono_el _ _ _) (amF_cons (mono_V _) (amF_cons (mono_V _) (amF_cons (mono_V _) (amF_cons (mono_V _) amF_nil)))))))))))))))))))))))))))) hst ?_ (fun f w_ H52 hS52 hE52 hT52 hst=>?_)
 refine opsS_cons (fun f w_ _ _ s _ _ hst=>fA 1 fa_85_1 ((s 4 rfl).trans rfl) rfl (nO rfl rfl hst)) (opsS_cons (fun f w_ _ _ _ _ p hst=>ldB 0 hst Tryz.isAgg3 (p 0 17 rfl rfl) rfl rfl (nO rfl rfl hst)) (opsS_cons ?_ ?_))
 intro f w_ H52 X52 hS52 hE52 hP52 hst
 obtain ⟨H88b,l89,s90,z91,k92⟩:=hst.borrow
 refine L_call rfl Tryz.call57 (ops1 (hP52 1 18 rfl rfl)) (s_l1Lit_c (n_:=x_8.lit) s90 hx29) ?_
 rintro _ w93 ⟨rfl,hst⟩
 have hst:=k92 hst c0
 exact L_nil ⟨rfl,_,_,rfl,Le.refl _,fun _ _=>rfl,hst⟩
 refine opsS_cons (fun f w_ _ _ _ _ p hst=>L_not_ rfl (p 2 19 rfl rfl) (nO rfl rfl hst)) (opsS_cons (fun f w_ _ _ _ _ p hst=>mF (p 3 20 rfl rfl) rfl (nO rfl rfl hst)) (oP (fun _ _ p=>gN (p 4 21 rfl rfl) hc56 rfl) (fun _=>rfl) (oP (fun _ _ p=>gN (p 4 21 rfl rfl) hc56 rfl) (fun _=>rfl) (oP (fun _ _ p=>gN (p 4 21 rfl rfl) hc56 rfl) (fun _=>rfl) (opsS_cons (fun f w_ _ _ _ _ p hst=>pkT (v:=Bo ((!x29) || (decide (x_8.coef < 1)))) (p 4 21 rfl rfl) hc56 rfl (or_t hc56) (nO rfl rfl hst)) (opsS_cons (fun f w_ _ _ _ _ p hst=>mF (p 8 25 rfl rfl) rfl (nO rfl rfl hst)) (oP (fun _ _ p=>gN (p 9 26 rfl rfl) hc57 rfl) (fun _=>rfl) (oP (fun _ _ p=>gN (p 9 26 rfl rfl) hc57 rfl) (fun _=>rfl) (oP (fun _ _ p=>gN (p 9 26 rfl rfl) hc57 rfl) (fun _=>rfl) (opsS_cons (fun f w_ _ _ _ _ p hst=>pkT (v:=Bo (((!x29) || (decide (x_8.coef < 1))) || (decide (x_8.coef > 1000)))) (p 9 26 rfl rfl) hc57 rfl (or_t hc57) (nO rfl rfl hst)) (opsS_cons (fun f w_ _ _ _ _ p hst=>mF (p 13 30 rfl rfl) rfl (nO rfl rfl hst)) (opsS_cons (fun f w_ _ _ s _ p hst=>L_mv (v:=I i_5) (g_yes rfl (Eq.trans (p 14 31 rfl rfl) (congrArg Value.bool hc58)) rfl) ((s 3 rfl).trans sf3) (nO rfl rfl hst)) (opsS_cons (fun f w_ _ _ _ _ p hst=>L_gtr (g_yes rfl (Eq.trans (p 14 31 rfl rfl) (congrArg Value.bool hc58)) rfl) (p 15 32 rfl rfl) rfl (nO rfl rfl hst)) (opsS_cons (fun f w_ _ _ _ _ p hst=>L_mv (v:=Bo (decide ((i_5 : Int) > 0))) (g_yes rfl (Eq.trans (p 14 31 rfl rfl) (congrArg Value.bool hc58)) rfl) (p 16 33 rfl rfl) (nO rfl rfl hst)) (opsS_cons (fun f w_ _ _ s _ p hst=>L_fa (o':=0) (g_yes rfl (Eq.trans (p 17 34 rfl rfl) (congrArg Value.bool hc71)) rfl) fa_46_0 ((s 1 rfl).trans sf1) rfl (nO rfl rfl hst)) (opsS_cons (fun f w_ _ _ _ _ p hst=>L_ld (v:=v0_0) (g_yes rfl (Eq.trans (p 17 34 rfl rfl) (congrArg Value.bool hc71)) rfl) Tryz.isAgg44 (p 18 35 rfl rfl) (At.cell0 (Blk.at (Star.blkAt 1 hst rfl)) (j:=0) rfl) (nO rfl rfl hst)) (opsS_cons (fun f w_ _ _ s _ p hst=>L_mv (v:=I i_5) (g_yes rfl (Eq.trans (p 17 34 rfl rfl) (congrArg Value.bool hc71)) rfl) ((s 3 rfl).trans sf3) (nO rfl rfl hst)) (opsS_cons (fun f w_ _ _ _ _ p hst=>L_sub (g_yes rfl (Eq.trans (p 17 34 rfl rfl) (congrArg Value.bool hc71)) rfl) (p 20 37 rfl rfl) rfl (nO rfl rfl hst)) (opsS_cons ?_ ?_)))))))))))))))))))
 intro f w_ H52 X52 hS52 hE52 hP52 hst
 refine L_ix (r:=rTerm) (g_yes rfl (Eq.trans (hP52 17 34 rfl rfl) (congrArg Value.bool hc71)) rfl) Tryz.underlying44 Tryz.sizeOf85 (hP52 19 36 rfl rfl) (RP.mono _ h0_0 (Le.trans l7 hE52)) (hP52 21 38 rfl rfl) hx31 (fun g94 o95 cs_g94 hrk_hat96 hat96=>?_)
 obtain rfl:=rTerm_iff.1 hrk_hat96
 exact L_nil ⟨rfl,_,_,rfl,Le.refl _,fun _ _=>⟨_,_,_,rfl,hrk_hat96,hat96⟩,hst⟩
 refine opsS_cons ?_ ?_
 intro f w_ H52 X52 hS52 hE52 hP52 hst
 obtain ⟨g98,o98,cs98,hv98,hrk_hat98,hat98⟩:=(hP52 22 39 rfl rfl)
 obtain rfl:=rTerm_iff.1 hrk_hat98
 refine L_fa (o':=o98 + 1) (g_yes rfl (Eq.trans (hP52 17 34 rfl rfl) (congrArg Value.bool hc71)) rfl) fa_85_1 hv98 rfl (L_nil ⟨rfl,_,_,rfl,Le.refl _,fun _ _=>⟨_,_,_,rfl,hrk_hat98,hat98⟩,hst⟩)
 refine opsS_cons ?_ ?_
 intro f w_ H52 X52 hS52 hE52 hP52 hst
 obtain ⟨g100,o100,cs100,hv100,hrk_hat100,hat100⟩:=(hP52 23 40 rfl rfl)
 obtain rfl:=rTerm_iff.1 hrk_hat100
 refine L_ld (v:=I x31.lit) (g_yes rfl (Eq.trans (hP52 17 34 rfl rfl) (congrArg Value.bool hc71)) rfl) Tryz.isAgg3 hv100 (At.cell (AtH.at hat100 hst.sub) (j:=1) rfl) (L_nil ⟨rfl,_,_,rfl,Le.refl _,fun _ _=>rfl,hst⟩)
 refine opsS_cons ?_ ?_
 intro f w_ H52 X52 hS52 hE52 hP52 hst
 obtain ⟨H102b,l103,s104,z105,k106⟩:=hst.borrow
 refine L_call (g_yes rfl (Eq.trans (hP52 17 34 rfl rfl) (congrArg Value.bool hc71)) rfl) Tryz.call58 (ops1 (hP52 24 41 rfl rfl)) (s_l1Abs_c (n_:=x31.lit) s104 hx41) ?_
 rintro _ w107 ⟨rfl,hst⟩
 have hst:=k106 hst c0
 exact L_nil ⟨rfl,_,_,rfl,Le.refl _,fun _ _=>rfl,hst⟩
 refine opsS_cons (fun f w_ _ _ s _ p hst=>L_fa (o':=1) (g_yes rfl (Eq.trans (p 17 34 rfl rfl) (congrArg Value.bool hc71)) rfl) fa_85_1 ((s 4 rfl).trans rfl) rfl (nO rfl rfl hst)) (opsS_cons (fun f w_ _ _ _ _ p hst=>L_ld (v:=I x_8.lit) (g_yes rfl (Eq.trans (p 17 34 rfl rfl) (congrArg Value.bool hc71)) rfl) Tryz.isAgg3 (p 26 43 rfl rfl) (At.cell0 (Blk.at (Star.blkAt 0 hst rfl)) (j:=1) rfl) (nO rfl rfl hst)) (opsS_nil))
 obtain ⟨H108b,l109,s110,z111,k112⟩:=hst.borrow
 refine L_call (g_yes rfl (Eq.trans (hT52 17 34 rfl rfl) (congrArg Value.bool hc71)) rfl) Tryz.call58 (ops1 (hT52 27 44 rfl rfl)) (s_l1Abs_c (n_:=x_8.lit) s110 hx48) ?_
 rintro _ w113 ⟨rfl,hst⟩
 have hst:=k112 hst c0
 refine L_geq (g_yes rfl (Eq.trans (hT52 17 34 rfl rfl) (congrArg Value.bool hc71)) rfl) (hT52 25 42 rfl rfl) rfl (L_pick (v:=Bo b50) (g_yes rfl (Eq.trans (hT52 14 31 rfl rfl) (congrArg Value.bool hc58)) rfl) (Eq.trans (hT52 17 34 rfl rfl) (congrArg Value.bool hc71)) (congrArg Value.bool (so hb50)) (L_pick (v:=Bo b51) rfl (Eq.trans (hT52 14 31 rfl rfl) (congrArg Value.bool hc58)) (congrArg Value.bool (so hb51)) (nn ?_)))
 have hst:=hst.get 1 rfl
 exact rj hR55 ⟨H52,hE52,((hS52 1 rfl).trans sf1),((hS52 3 rfl).trans sf3),rfl,(Star.keepN 1 hst)⟩
 rw [ite_f hc71] at hb50
 refine W_drawS 28 [isV (Pq g21 1),isV (I x_8.lit),isV (Bo x29),isV (Bo (!x29)),isV (Bo (!x29)),isV (undef),isV (undef),isV (undef),isV (Bo ((!x29) || (decide (x_8.coef < 1)))),isV (Bo ((!x29) || (decide (x_8.coef < 1)))),isV (undef),isV (undef),isV (undef),isV (Bo (((!x29) || (decide (x_8.coef < 1))) || (decide (x_8.coef > 1000)))),isV (Bo (((!x29) || (decide (x_8.coef < 1))) || (decide (x_8.coef > 1000)))),isV (I i_5),isV (Bo (decide ((i_5 : Int) > 0))),isV (Bo (decide ((i_5 : Int) > 0))),isV (undef),isV (undef),isV (undef),isV (undef),isV (undef),isV (undef),isV (undef),isV (undef),isV (undef),isV (undef)] [box g21 85 #[I x_8.coef,I x_8.lit],box g3 46 #[v0_0,I c.bound]] [] ([]) [([],[]),([],[]),([],[]),([],[]),([],[]),([],[]),([],[]),([],[]),([],[]),([],[]),([],[]),([],[]),([],[]),([],[]),([],[]),([],[]),([],[]),([],[]),([],[]),([],[]),([],[]),([],[]),([],[]),([],[]),([],[]),([],[]),([],[]),([],[])] (S:=[]) Tryz_mix (by kernel_rfl) rfl (by kernel_rfl) (amF_cons (mono_V _) (amF_cons (mono_V _) (amF_cons (mono_V _) (amF_cons (mono_V _) (amF_cons (mono_V _) (amF_cons (mono_V _) (amF_cons (mono_V _) (amF_cons (mono_V _) (amF_cons (mono_V _) (amF_cons (mono_V _) (amF_cons (mono_V _) (amF_cons (mono_V _) (amF_cons (mono_V _) (amF_cons (mono_V _) (amF_cons (mono_V _) (amF_cons (mono_V _) (amF_cons (mono_V _) (amF_cons (mono_V _) (amF_cons (mono_V _) (amF_cons (mono_V _) (amF_cons (mono_V _) (amF_cons (mono_V _) (amF_cons (mono_V _) (amF_cons (mono_V _) (amF_cons (mono_V _) (amF_cons (mono_V _) (amF_cons (mono_V _) (amF_cons (mono_V _) amF_nil)))))))))))))))))))))))))))) hst ?_ (fun f w_ H52 hS52 hE52 hT52 hst=>?_)
 refine opsS_cons (fun f w_ _ _ s _ _ hst=>fA 1 fa_85_1 ((s 4 rfl).trans rfl) rfl (nO rfl rfl hst)) (opsS_cons (fun f w_ _ _ _ _ p hst=>ldB 0 hst Tryz.isAgg3 (p 0 17 rfl rfl) rfl rfl (nO rfl rfl hst)) (opsS_cons ?_ ?_))
 intro f w_ H52 X52 hS52 hE52 hP52 hst
 obtain ⟨H120b,l121,s122,z123,k124⟩:=hst.borrow
 refine L_call rfl Tryz.call57 (ops1 (hP52 1 18 rfl rfl)) (s_l1Lit_c (n_:=x_8.lit) s122 hx29) ?_
 rintro _ w125 ⟨rfl,hst⟩
 have hst:=k124 hst c0
 exact L_nil ⟨rfl,_,_,rfl,Le.refl _,fun _ _=>rfl,hst⟩
 refine opsS_cons (fun f w_ _ _ _ _ p hst=>L_not_ rfl (p 2 19 rfl rfl) (nO rfl rfl hst)) (opsS_cons (fun f w_ _ _ _ _ p hst=>mF (p 3 20 rfl rfl) rfl (nO rfl rfl hst)) (oP (fun _ _ p=>gN (p 4 21 rfl rfl) hc56 rfl) (fun _=>rfl) (oP (fun _ _ p=>gN (p 4 21 rfl rfl) hc56 rfl) (fun _=>rfl) (oP (fun _ _ p=>gN (p 4 21 rfl rfl) hc56 rfl) (fun _=>rfl) (opsS_cons (fun f w_ _ _ _ _ p hst=>pkT (v:=Bo ((!x29) || (decide (x_8.coef < 1)))) (p 4 21 rfl rfl) hc56 rfl (or_t hc56) (nO rfl rfl hst)) (opsS_cons (fun f w_ _ _ _ _ p hst=>mF (p 8 25 rfl rfl) rfl (nO rfl rfl hst)) (oP (fun _ _ p=>gN (p 9 26 rfl rfl) hc57 rfl) (fun _=>rfl) (oP (fun _ _ p=>gN (p 9 26 rfl rfl) hc57 rfl) (fun _=>rfl) (oP (fun _ _ p=>gN (p 9 26 rfl rfl) hc57 rfl) (fun _=>rfl) (opsS_cons (fun f w_ _ _ _ _ p hst=>pkT (v:=Bo (((!x29) || (decide (x_8.coef < 1))) || (decide (x_8.coef > 1000)))) (p 9 26 rfl rfl) hc57 rfl (or_t hc57) (nO rfl rfl hst)) (opsS_cons (fun f w_ _ _ _ _ p hst=>mF (p 13 30 rfl rfl) rfl (nO rfl rfl hst)) (opsS_cons (fun f w_ _ _ s _ p hst=>L_mv (v:=I i_5) (g_yes rfl (Eq.trans (p 14 31 rfl rfl) (congrArg Value.bool hc58)) rfl) ((s 3 rfl).trans sf3) (nO rfl rfl hst)) (opsS_cons (fun f w_ _ _ _ _ p hst=>L_gtr (g_yes rfl (Eq.trans (p 14 31 rfl rfl) (congrArg Value.bool hc58)) rfl) (p 15 32 rfl rfl) rfl (nO rfl rfl hst)) (opsS_cons (fun f w_ _ _ _ _ p hst=>L_mv (v:=Bo (decide ((i_5 : Int) > 0))) (g_yes rfl (Eq.trans (p 14 31 rfl rfl) (congrArg Value.bool hc58)) rfl) (p 16 33 rfl rfl) (nO rfl rfl hst)) (oP (fun _ _ p=>gN (p 17 34 rfl rfl) hc71 rfl) (fun _=>rfl) (oP (fun _ _ p=>gN (p 17 34 rfl rfl) hc71 rfl) (fun _=>rfl) (oP (fun _ _ p=>gN (p 17 34 rfl rfl) hc71 rfl) (fun _=>rfl) (oP (fun _ _ p=>gN (p 17 34 rfl rfl) hc71 rfl) (fun _=>rfl) (oP (fun _ _ p=>gN (p 17 34 rfl rfl) hc71 rfl) (fun _=>rfl) (oP (fun _ _ p=>gN (p 17 34 rfl rfl) hc71 rfl) (fun _=>rfl) (oP (fun _ _ p=>gN (p 17 34 rfl rfl) hc71 rfl) (fun _=>rfl) (oP (fun _ _ p=>gN (p 17 34 rfl rfl) hc71 rfl) (fun _=>rfl) (oP (fun _ _ p=>gN (p 17 34 rfl rfl) hc71 rfl) (fun _=>rfl) (oP (fun _ _ p=>gN (p 17 34 rfl rfl) hc71 rfl) (fun _=>rfl) (opsS_nil)))))))))))))))))))))))))
 refine ps (g_no rfl (Eq.trans (hT52 17 34 rfl rfl) (congrArg Value.bool hc71)) rfl rfl) (ps (g_no rfl (Eq.trans (hT52 17 34 rfl rfl) (congrArg Value.bool hc71)) rfl rfl) (L_pick (v:=Bo b50) (g_yes rfl (Eq.trans (hT52 14 31 rfl rfl) (congrArg Value.bool hc58)) rfl) (Eq.trans (hT52 17 34 rfl rfl) (congrArg Value.bool hc71)) (congrArg Value.bool (so hb50)) (L_pick (v:=Bo b51) rfl (Eq.trans (hT52 14 31 rfl rfl) (congrArg Value.bool hc58)) (congrArg Value.bool (so hb51)) (nn ?_))))
 have hst:=hst.get 1 rfl
 exact rj hR55 ⟨H52,hE52,((hS52 1 rfl).trans sf1),((hS52 3 rfl).trans sf3),rfl,(Star.keepN 1 hst)⟩
 rcases Bool.eq_false_or_eq_true (((!x29) || (decide (x_8.coef < 1))) || (decide (x_8.coef > 1000))) with hc126 | hc126
 rw [ite_t hc126] at hb51
 refine W_drawS 28 [isV (Pq g21 1),isV (I x_8.lit),isV (Bo x29),isV (Bo (!x29)),isV (Bo (!x29)),isV (undef),isV (undef),isV (undef),isV (Bo ((!x29) || (decide (x_8.coef < 1)))),isV (Bo ((!x29) || (decide (x_8.coef < 1)))),isV (Pt g21),isV (I x_8.coef),isV (Bo (decide (x_8.coef > 1000))),isV (Bo (((!x29) || (decide (x_8.coef < 1))) || (decide (x_8.coef > 1000)))),isV (Bo (((!x29) || (decide (x_8.coef < 1))) || (decide (x_8.coef > 1000)))),isV (undef),isV (undef),isV (undef),isV (undef),isV (undef),isV (undef),isV (undef),isV (undef),isV (undef),isV (undef),isV (undef),isV (undef),isV (undef)] [box g21 85 #[I x_8.coef,I x_8.lit],box g3 46 #[v0_0,I c.bound]] [] ([]) [([],[]),([],[]),([],[]),([],[]),([],[]),([],[]),([],[]),([],[]),([],[]),([],[]),([],[]),([],[]),([],[]),([],[]),([],[]),([],[]),([],[]),([],[]),([],[]),([],[]),([],[]),([],[]),([],[]),([],[]),([],[]),([],[]),([],[]),([],[])] (S:=[]) Tryz_mix (by kernel_rfl) rfl (by kernel_rfl) (amF_cons (mono_V _) (amF_cons (mono_V _) (amF_cons (mono_V _) (amF_cons (mono_V _) (amF_cons (mono_V _) (amF_cons (mono_V _) (amF_cons (mono_V _) (amF_cons (mono_V _) (amF_cons (mono_V _) (amF_cons (mono_V _) (amF_cons (mono_V _) (amF_cons (mono_V _) (amF_cons (mono_V _) (amF_cons (mono_V _) (amF_cons (mono_V _) (amF_cons (mono_V _) (amF_cons (mono_V _) (amF_cons (mono_V _) (amF_cons (mono_V _) (amF_cons (mono_V _) (amF_cons (mono_V _) (amF_cons (mono_V _) (amF_cons (mono_V _) (amF_cons (mono_V _) (amF_cons (mono_V _) (amF_cons (mono_V _) (amF_cons (mono_V _) (amF_cons (mono_V _) amF_nil)))))))))))))))))))))))))))) hst ?_ (fun f w_ H52 hS52 hE52 hT52 hst=>?_)
 refine opsS_cons (fun f w_ _ _ s _ _ hst=>fA 1 fa_85_1 ((s 4 rfl).trans rfl) rfl (nO rfl rfl hst)) (opsS_cons (fun f w_ _ _ _ _ p hst=>ldB 0 hst Tryz.isAgg3 (p 0 17 rfl rfl) rfl rfl (nO rfl rfl hst)) (opsS_cons ?_ ?_))
 intro f w_ H52 X52 hS52 hE52 hP52 hst
 obtain ⟨H133b,l134,s135,z136,k137⟩:=hst.borrow
 refine L_call rfl Tryz.call57 (ops1 (hP52 1 18 rfl rfl)) (s_l1Lit_c (n_:=x_8.lit) s135 hx29) ?_
 rintro _ w138 ⟨rfl,hst⟩
 have hst:=k137 hst c0
 exact L_nil ⟨rfl,_,_,rfl,Le.refl _,fun _ _=>rfl,hst⟩
 refine opsS_cons (fun f w_ _ _ _ _ p hst=>L_not_ rfl (p 2 19 rfl rfl) (nO rfl rfl hst)) (opsS_cons (fun f w_ _ _ _ _ p hst=>mF (p 3 20 rfl rfl) rfl (nO rfl rfl hst)) (oP (fun _ _ p=>gN (p 4 21 rfl rfl) hc56 rfl) (fun _=>rfl) (oP (fun _ _ p=>gN (p 4 21 rfl rfl) hc56 rfl) (fun _=>rfl) (oP (fun _ _ p=>gN (p 4 21 rfl rfl) hc56 rfl) (fun _=>rfl) (opsS_cons (fun f w_ _ _ _ _ p hst=>pkT (v:=Bo ((!x29) || (decide (x_8.coef < 1)))) (p 4 21 rfl rfl) hc56 rfl (or_t hc56) (nO rfl rfl hst)) (opsS_cons (fun f w_ _ _ _ _ p hst=>mF (p 8 25 rfl rfl) rfl (nO rfl rfl hst)) (opsS_cons (fun f w_ _ _ s _ p hst=>L_fa (o':=0) (g_yes rfl (Eq.trans (p 9 26 rfl rfl) (congrArg Value.bool hc57)) rfl) fa_85_0 ((s 4 rfl).trans rfl) rfl (nO rfl rfl hst)) (opsS_cons (fun f w_ _ _ _ _ p hst=>L_ld (v:=I x_8.coef) (g_yes rfl (Eq.trans (p 9 26 rfl rfl) (congrArg Value.bool hc57)) rfl) Tryz.isAgg3 (p 10 27 rfl rfl) (At.cell0 (Blk.at (Star.blkAt 0 hst rfl)) (j:=0) rfl) (nO rfl rfl hst)) (opsS_cons (fun f w_ _ _ _ _ p hst=>L_gtr (g_yes rfl (Eq.trans (p 9 26 rfl rfl) (congrArg Value.bool hc57)) rfl) (p 11 28 rfl rfl) rfl (nO rfl rfl hst)) (opsS_cons (fun f w_ _ _ _ _ p hst=>pkT (v:=Bo (((!x29) || (decide (x_8.coef < 1))) || (decide (x_8.coef > 1000)))) (p 9 26 rfl rfl) hc57 rfl (or_f hc57 (p 12 29 rfl rfl)) (nO rfl rfl hst)) (opsS_cons (fun f w_ _ _ _ _ p hst=>mF (p 13 30 rfl rfl) rfl (nO rfl rfl hst)) (oP (fun _ _ p=>gN (p 14 31 rfl rfl) hc126 rfl) (fun _=>rfl) (oP (fun _ _ p=>gN (p 14 31 rfl rfl) hc126 rfl) (fun _=>rfl) (oP (fun _ _ p=>gN (p 14 31 rfl rfl) hc126 rfl) (fun _=>rfl) (oP (fun _ _ p=>g_undef rfl (p 17 34 rfl rfl) rfl) (fun _=>rfl) (oP (fun _ _ p=>g_undef rfl (p 17 34 rfl rfl) rfl) (fun _=>rfl) (oP (fun _ _ p=>g_undef rfl (p 17 34 rfl rfl) rfl) (fun _=>rfl) (oP (fun _ _ p=>g_undef rfl (p 17 34 rfl rfl) rfl) (fun _=>rfl) (oP (fun _ _ p=>g_undef rfl (p 17 34 rfl rfl) rfl) (fun _=>rfl) (oP (fun _ _ p=>g_undef rfl (p 17 34 rfl rfl) rfl) (fun _=>rfl) (oP (fun _ _ p=>g_undef rfl (p 17 34 rfl rfl) rfl) (fun _=>rfl) (oP (fun _ _ p=>g_undef rfl (p 17 34 rfl rfl) rfl) (fun _=>rfl) (oP (fun _ _ p=>g_undef rfl (p 17 34 rfl rfl) rfl) (fun _=>rfl) (oP (fun _ _ p=>g_undef rfl (p 17 34 rfl rfl) rfl) (fun _=>rfl) (opsS_nil)))))))))))))))))))))))))
 refine ps (g_undef rfl (hT52 17 34 rfl rfl) rfl) (ps (g_undef rfl (hT52 17 34 rfl rfl) rfl) (ps (g_no rfl (Eq.trans (hT52 14 31 rfl rfl) (congrArg Value.bool hc126)) rfl rfl) (L_pick (v:=Bo b51) rfl (Eq.trans (hT52 14 31 rfl rfl) (congrArg Value.bool hc126)) (congrArg Value.bool (so hb51)) (nn ?_))))
 have hst:=hst.get 1 rfl
 exact rj hR55 ⟨H52,hE52,((hS52 1 rfl).trans sf1),((hS52 3 rfl).trans sf3),rfl,(Star.keepN 1 hst)⟩
 rw [ite_f hc126] at hb51
 obtain ⟨b50,hb50,hb51⟩:=bind_some hb51
 rcases Bool.eq_false_or_eq_true (decide ((i_5 : Int) > 0)) with hc139 | hc139
 rw [ite_t hc139] at hb50
 obtain ⟨x31,hx31,hb50⟩:=bind_some hb50
 obtain ⟨x41,hx41,hb50⟩:=bind_some hb50
 obtain ⟨x48,hx48,hb50⟩:=bind_some hb50
 refine W_drawS 28 [isV (Pq g21 1),isV (I x_8.lit),isV (Bo x29),isV (Bo (!x29)),isV (Bo (!x29)),isV (undef),isV (undef),isV (undef),isV (Bo ((!x29) || (decide (x_8.coef < 1)))),isV (Bo ((!x29) || (decide (x_8.coef < 1)))),isV (Pt g21),isV (I x_8.coef),isV (Bo (decide (x_8.coef > 1000))),isV (Bo (((!x29) || (decide (x_8.coef < 1))) || (decide (x_8.coef > 1000)))),isV (Bo (((!x29) || (decide (x_8.coef < 1))) || (decide (x_8.coef > 1000)))),isV (I i_5),isV (Bo (decide ((i_5 : Int) > 0))),isV (Bo (decide ((i_5 : Int) > 0))),isV (Pt g3),isV (v0_0),isV (I i_5),isV (I (i64 ((i_5 : Int) - 1))),isEl rTerm x31 0,isEl rTerm x31 1,isV (I x31.lit),isV (I x41),isV (Pq g21 1),isV (I x_8.lit)] [box g21 85 #[I x_8.coef,I x_8.lit],box g3 46 #[v0_0,I c.bound]] [] ([]) [([],[]),([],[]),([],[]),([],[]),([],[]),([],[]),([],[]),([],[]),([],[]),([],[]),([],[]),([],[]),([],[]),([],[]),([],[]),([],[]),([],[]),([],[]),([],[]),([],[]),([],[]),([],[]),([],[]),([],[]),([],[]),([],[]),([],[]),([],[])] (S:=[]) Tryz_mix (by kernel_rfl) rfl (by kernel_rfl) (amF_cons (mono_V _) (amF_cons (mono_V _) (amF_cons (mono_V _) (amF_cons (mono_V _) (amF_cons (mono_V _) (amF_cons (mono_V _) (amF_cons (mono_V _) (amF_cons (mono_V _) (amF_cons (mono_V _) (amF_cons (mono_V _) (amF_cons (mono_V _) (amF_cons (mono_V _) (amF_cons (mono_V _) (amF_cons (mono_V _) (amF_cons (mono_V _) (amF_cons (mono_V _) (amF_cons (mono_V _) (amF_cons (mono_V _) (amF_cons (mono_V _) (amF_cons (mono_V _) (amF_cons (mono_V _) (amF_cons (mono_V _) (amF_cons (mono_el _ _ _) (amF_cons (mono_el _ _ _) (amF_cons (mono_V _) (amF_cons (mono_V _) (amF_cons (mono_V _) (amF_cons (mono_V _) amF_nil)))))))))))))))))))))))))))) hst ?_ (fun f w_ H52 hS52 hE52 hT52 hst=>?_)
 refine opsS_cons (fun f w_ _ _ s _ _ hst=>fA 1 fa_85_1 ((s 4 rfl).trans rfl) rfl (nO rfl rfl hst)) (opsS_cons (fun f w_ _ _ _ _ p hst=>ldB 0 hst Tryz.isAgg3 (p 0 17 rfl rfl) rfl rfl (nO rfl rfl hst)) (opsS_cons ?_ ?_))
 intro f w_ H52 X52 hS52 hE52 hP52 hst
 obtain ⟨H156b,l157,s158,z159,k160⟩:=hst.borrow
 refine L_call rfl Tryz.call57 (ops1 (hP52 1 18 rfl rfl)) (s_l1Lit_c (n_:=x_8.lit) s158 hx29) ?_
 rintro _ w161 ⟨rfl,hst⟩
 have hst:=k160 hst c0
 exact L_nil ⟨rfl,_,_,rfl,Le.refl _,fun _ _=>rfl,hst⟩
 refine opsS_cons (fun f w_ _ _ _ _ p hst=>L_not_ rfl (p 2 19 rfl rfl) (nO rfl rfl hst)) (opsS_cons (fun f w_ _ _ _ _ p hst=>mF (p 3 20 rfl rfl) rfl (nO rfl rfl hst)) (oP (fun _ _ p=>gN (p 4 21 rfl rfl) hc56 rfl) (fun _=>rfl) (oP (fun _ _ p=>gN (p 4 21 rfl rfl) hc56 rfl) (fun _=>rfl) (oP (fun _ _ p=>gN (p 4 21 rfl rfl) hc56 rfl) (fun _=>rfl) (opsS_cons (fun f w_ _ _ _ _ p hst=>pkT (v:=Bo ((!x29) || (decide (x_8.coef < 1)))) (p 4 21 rfl rfl) hc56 rfl (or_t hc56) (nO rfl rfl hst)) (opsS_cons (fun f w_ _ _ _ _ p hst=>mF (p 8 25 rfl rfl) rfl (nO rfl rfl hst)) (opsS_cons (fun f w_ _ _ s _ p hst=>L_fa (o':=0) (g_yes rfl (Eq.trans (p 9 26 rfl rfl) (congrArg Value.bool hc57)) rfl) fa_85_0 ((s 4 rfl).trans rfl) rfl (nO rfl rfl hst)) (opsS_cons (fun f w_ _ _ _ _ p hst=>L_ld (v:=I x_8.coef) (g_yes rfl (Eq.trans (p 9 26 rfl rfl) (congrArg Value.bool hc57)) rfl) Tryz.isAgg3 (p 10 27 rfl rfl) (At.cell0 (Blk.at (Star.blkAt 0 hst rfl)) (j:=0) rfl) (nO rfl rfl hst)) (opsS_cons (fun f w_ _ _ _ _ p hst=>L_gtr (g_yes rfl (Eq.trans (p 9 26 rfl rfl) (congrArg Value.bool hc57)) rfl) (p 11 28 rfl rfl) rfl (nO rfl rfl hst)) (opsS_cons (fun f w_ _ _ _ _ p hst=>pkT (v:=Bo (((!x29) || (decide (x_8.coef < 1))) || (decide (x_8.coef > 1000)))) (p 9 26 rfl rfl) hc57 rfl (or_f hc57 (p 12 29 rfl rfl)) (nO rfl rfl hst)) (opsS_cons (fun f w_ _ _ _ _ p hst=>mF (p 13 30 rfl rfl) rfl (nO rfl rfl hst)) (opsS_cons (fun f w_ _ _ s _ p hst=>L_mv (v:=I i_5) (g_yes rfl (Eq.trans (p 14 31 rfl rfl) (congrArg Value.bool hc126)) rfl) ((s 3 rfl).trans sf3) (nO rfl rfl hst)) (opsS_cons (fun f w_ _ _ _ _ p hst=>L_gtr (g_yes rfl (Eq.trans (p 14 31 rfl rfl) (congrArg Value.bool hc126)) rfl) (p 15 32 rfl rfl) rfl (nO rfl rfl hst)) (opsS_cons (fun f w_ _ _ _ _ p hst=>L_mv (v:=Bo (decide ((i_5 : Int) > 0))) (g_yes rfl (Eq.trans (p 14 31 rfl rfl) (congrArg Value.bool hc126)) rfl) (p 16 33 rfl rfl) (nO rfl rfl hst)) (opsS_cons (fun f w_ _ _ s _ p hst=>L_fa (o':=0) (g_yes rfl (Eq.trans (p 17 34 rfl rfl) (congrArg Value.bool hc139)) rfl) fa_46_0 ((s 1 rfl).trans sf1) rfl (nO rfl rfl hst)) (opsS_cons (fun f w_ _ _ _ _ p hst=>L_ld (v:=v0_0) (g_yes rfl (Eq.trans (p 17 34 rfl rfl) (congrArg Value.bool hc139)) rfl) Tryz.isAgg44 (p 18 35 rfl rfl) (At.cell0 (Blk.at (Star.blkAt 1 hst rfl)) (j:=0) rfl) (nO rfl rfl hst)) (opsS_cons (fun f w_ _ _ s _ p hst=>L_mv (v:=I i_5) (g_yes rfl (Eq.trans (p 17 34 rfl rfl) (congrArg Value.bool hc139)) rfl) ((s 3 rfl).trans sf3) (nO rfl rfl hst)) (opsS_cons (fun f w_ _ _ _ _ p hst=>L_sub (g_yes rfl (Eq.trans (p 17 34 rfl rfl) (congrArg Value.bool hc139)) rfl) (p 20 37 rfl rfl) rfl (nO rfl rfl hst)) (opsS_cons ?_ ?_)))))))))))))))))))
 intro f w_ H52 X52 hS52 hE52 hP52 hst
 refine L_ix (r:=rTerm) (g_yes rfl (Eq.trans (hP52 17 34 rfl rfl) (congrArg Value.bool hc139)) rfl) Tryz.underlying44 Tryz.sizeOf85 (hP52 19 36 rfl rfl) (RP.mono _ h0_0 (Le.trans l7 hE52)) (hP52 21 38 rfl rfl) hx31 (fun g162 o163 cs_g162 hrk_hat164 hat164=>?_)
 obtain rfl:=rTerm_iff.1 hrk_hat164
 exact L_nil ⟨rfl,_,_,rfl,Le.refl _,fun _ _=>⟨_,_,_,rfl,hrk_hat164,hat164⟩,hst⟩
 refine opsS_cons ?_ ?_
 intro f w_ H52 X52 hS52 hE52 hP52 hst
 obtain ⟨g166,o166,cs166,hv166,hrk_hat166,hat166⟩:=(hP52 22 39 rfl rfl)
 obtain rfl:=rTerm_iff.1 hrk_hat166
 refine L_fa (o':=o166 + 1) (g_yes rfl (Eq.trans (hP52 17 34 rfl rfl) (congrArg Value.bool hc139)) rfl) fa_85_1 hv166 rfl (L_nil ⟨rfl,_,_,rfl,Le.refl _,fun _ _=>⟨_,_,_,rfl,hrk_hat166,hat166⟩,hst⟩)
 refine opsS_cons ?_ ?_
 intro f w_ H52 X52 hS52 hE52 hP52 hst
 obtain ⟨g168,o168,cs168,hv168,hrk_hat168,hat168⟩:=(hP52 23 40 rfl rfl)
 obtain rfl:=rTerm_iff.1 hrk_hat168
 refine L_ld (v:=I x31.lit) (g_yes rfl (Eq.trans (hP52 17 34 rfl rfl) (congrArg Value.bool hc139)) rfl) Tryz.isAgg3 hv168 (At.cell (AtH.at hat168 hst.sub) (j:=1) rfl) (L_nil ⟨rfl,_,_,rfl,Le.refl _,fun _ _=>rfl,hst⟩)
 refine opsS_cons ?_ ?_
 intro f w_ H52 X52 hS52 hE52 hP52 hst
 obtain ⟨H170b,l171,s172,z173,k174⟩:=hst.borrow
 refine L_call (g_yes rfl (Eq.trans (hP52 17 34 rfl rfl) (congrArg Value.bool hc139)) rfl) Tryz.call58 (ops1 (hP52 24 41 rfl rfl)) (s_l1Abs_c (n_:=x31.lit) s172 hx41) ?_
 rintro _ w175 ⟨rfl,hst⟩
 have hst:=k174 hst c0
 exact L_nil ⟨rfl,_,_,rfl,Le.refl _,fun _ _=>rfl,hst⟩
 refine opsS_cons (fun f w_ _ _ s _ p hst=>L_fa (o':=1) (g_yes rfl (Eq.trans (p 17 34 rfl rfl) (congrArg Value.bool hc139)) rfl) fa_85_1 ((s 4 rfl).trans rfl) rfl (nO rfl rfl hst)) (opsS_cons (fun f w_ _ _ _ _ p hst=>L_ld (v:=I x_8.lit) (g_yes rfl (Eq.trans (p 17 34 rfl rfl) (congrArg Value.bool hc139)) rfl) Tryz.isAgg3 (p 26 43 rfl rfl) (At.cell0 (Blk.at (Star.blkAt 0 hst rfl)) (j:=1) rfl) (nO rfl rfl hst)) (opsS_nil))
 obtain ⟨H176b,l177,s178,z179,k180⟩:=hst.borrow
 refine L_call (g_yes rfl (Eq.trans (hT52 17 34 rfl rfl) (congrArg Value.bool hc139)) rfl) Tryz.call58 (ops1 (hT52 27 44 rfl rfl)) (s_l1Abs_c (n_:=x_8.lit) s178 hx48) ?_
 rintro _ w181 ⟨rfl,hst⟩
 have hst:=k180 hst c0
 refine L_geq (g_yes rfl (Eq.trans (hT52 17 34 rfl rfl) (congrArg Value.bool hc139)) rfl) (hT52 25 42 rfl rfl) rfl (L_pick (v:=Bo b50) (g_yes rfl (Eq.trans (hT52 14 31 rfl rfl) (congrArg Value.bool hc126)) rfl) (Eq.trans (hT52 17 34 rfl rfl) (congrArg Value.bool hc139)) (congrArg Value.bool (so hb50)) (L_pick (v:=Bo b51) rfl (Eq.trans (hT52 14 31 rfl rfl) (congrArg Value.bool hc126)) (congrArg Value.bool (so hb51)) (nn ?_)))
 have hst:=hst.get 1 rfl
 exact rj hR55 ⟨H52,hE52,((hS52 1 rfl).trans sf1),((hS52 3 rfl).trans sf3),rfl,(Star.keepN 1 hst)⟩
 rw [ite_f hc139] at hb50
 refine W_drawS 28 [isV (Pq g21 1),isV (I x_8.lit),isV (Bo x29),isV (Bo (!x29)),isV (Bo (!x29)),isV (undef),isV (undef),isV (undef),isV (Bo ((!x29) || (decide (x_8.coef < 1)))),isV (Bo ((!x29) || (decide (x_8.coef < 1)))),isV (Pt g21),isV (I x_8.coef),isV (Bo (decide (x_8.coef > 1000))),isV (Bo (((!x29) || (decide (x_8.coef < 1))) || (decide (x_8.coef > 1000)))),isV (Bo (((!x29) || (decide (x_8.coef < 1))) || (decide (x_8.coef > 1000)))),isV (I i_5),isV (Bo (decide ((i_5 : Int) > 0))),isV (Bo (decide ((i_5 : Int) > 0))),isV (undef),isV (undef),isV (undef),isV (undef),isV (undef),isV (undef),isV (undef),isV (undef),isV (undef),isV (undef)] [box g21 85 #[I x_8.coef,I x_8.lit],box g3 46 #[v0_0,I c.bound]] [] ([]) [([],[]),([],[]),([],[]),([],[]),([],[]),([],[]),([],[]),([],[]),([],[]),([],[]),([],[]),([],[]),([],[]),([],[]),([],[]),([],[]),([],[]),([],[]),([],[]),([],[]),([],[]),([],[]),([],[]),([],[]),([],[]),([],[]),([],[]),([],[])] (S:=[]) Tryz_mix (by kernel_rfl) rfl (by kernel_rfl) (amF_cons (mono_V _) (amF_cons (mono_V _) (amF_cons (mono_V _) (amF_cons (mono_V _) (amF_cons (mono_V _) (amF_cons (mono_V _) (amF_cons (mono_V _) (amF_cons (mono_V _) (amF_cons (mono_V _) (amF_cons (mono_V _) (amF_cons (mono_V _) (amF_cons (mono_V _) (amF_cons (mono_V _) (amF_cons (mono_V _) (amF_cons (mono_V _) (amF_cons (mono_V _) (amF_cons (mono_V _) (amF_cons (mono_V _) (amF_cons (mono_V _) (amF_cons (mono_V _) (amF_cons (mono_V _) (amF_cons (mono_V _) (amF_cons (mono_V _) (amF_cons (mono_V _) (amF_cons (mono_V _) (amF_cons (mono_V _) (amF_cons (mono_V _) (amF_cons (mono_V _) amF_nil)))))))))))))))))))))))))))) hst ?_ (fun f w_ H52 hS52 hE52 hT52 hst=>?_)
 refine opsS_cons (fun f w_ _ _ s _ _ hst=>fA 1 fa_85_1 ((s 4 rfl).trans rfl) rfl (nO rfl rfl hst)) (opsS_cons (fun f w_ _ _ _ _ p hst=>ldB 0 hst Tryz.isAgg3 (p 0 17 rfl rfl) rfl rfl (nO rfl rfl hst)) (opsS_cons ?_ ?_))
 intro f w_ H52 X52 hS52 hE52 hP52 hst
 obtain ⟨H188b,l189,s190,z191,k192⟩:=hst.borrow
 refine L_call rfl Tryz.call57 (ops1 (hP52 1 18 rfl rfl)) (s_l1Lit_c (n_:=x_8.lit) s190 hx29) ?_
 rintro _ w193 ⟨rfl,hst⟩
 have hst:=k192 hst c0
 exact L_nil ⟨rfl,_,_,rfl,Le.refl _,fun _ _=>rfl,hst⟩
 refine opsS_cons (fun f w_ _ _ _ _ p hst=>L_not_ rfl (p 2 19 rfl rfl) (nO rfl rfl hst)) (opsS_cons (fun f w_ _ _ _ _ p hst=>mF (p 3 20 rfl rfl) rfl (nO rfl rfl hst)) (oP (fun _ _ p=>gN (p 4 21 rfl rfl) hc56 rfl) (fun _=>rfl) (oP (fun _ _ p=>gN (p 4 21 rfl rfl) hc56 rfl) (fun _=>rfl) (oP (fun _ _ p=>gN (p 4 21 rfl rfl) hc56 rfl) (fun _=>rfl) (opsS_cons (fun f w_ _ _ _ _ p hst=>pkT (v:=Bo ((!x29) || (decide (x_8.coef < 1)))) (p 4 21 rfl rfl) hc56 rfl (or_t hc56) (nO rfl rfl hst)) (opsS_cons (fun f w_ _ _ _ _ p hst=>mF (p 8 25 rfl rfl) rfl (nO rfl rfl hst)) (opsS_cons (fun f w_ _ _ s _ p hst=>L_fa (o':=0) (g_yes rfl (Eq.trans (p 9 26 rfl rfl) (congrArg Value.bool hc57)) rfl) fa_85_0 ((s 4 rfl).trans rfl) rfl (nO rfl rfl hst)) (opsS_cons (fun f w_ _ _ _ _ p hst=>L_ld (v:=I x_8.coef) (g_yes rfl (Eq.trans (p 9 26 rfl rfl) (congrArg Value.bool hc57)) rfl) Tryz.isAgg3 (p 10 27 rfl rfl) (At.cell0 (Blk.at (Star.blkAt 0 hst rfl)) (j:=0) rfl) (nO rfl rfl hst)) (opsS_cons (fun f w_ _ _ _ _ p hst=>L_gtr (g_yes rfl (Eq.trans (p 9 26 rfl rfl) (congrArg Value.bool hc57)) rfl) (p 11 28 rfl rfl) rfl (nO rfl rfl hst)) (opsS_cons (fun f w_ _ _ _ _ p hst=>pkT (v:=Bo (((!x29) || (decide (x_8.coef < 1))) || (decide (x_8.coef > 1000)))) (p 9 26 rfl rfl) hc57 rfl (or_f hc57 (p 12 29 rfl rfl)) (nO rfl rfl hst)) (opsS_cons (fun f w_ _ _ _ _ p hst=>mF (p 13 30 rfl rfl) rfl (nO rfl rfl hst)) (opsS_cons (fun f w_ _ _ s _ p hst=>L_mv (v:=I i_5) (g_yes rfl (Eq.trans (p 14 31 rfl rfl) (congrArg Value.bool hc126)) rfl) ((s 3 rfl).trans sf3) (nO rfl rfl hst)) (opsS_cons (fun f w_ _ _ _ _ p hst=>L_gtr (g_yes rfl (Eq.trans (p 14 31 rfl rfl) (congrArg Value.bool hc126)) rfl) (p 15 32 rfl rfl) rfl (nO rfl rfl hst)) (opsS_cons (fun f w_ _ _ _ _ p hst=>L_mv (v:=Bo (decide ((i_5 : Int) > 0))) (g_yes rfl (Eq.trans (p 14 31 rfl rfl) (congrArg Value.bool hc126)) rfl) (p 16 33 rfl rfl) (nO rfl rfl hst)) (oP (fun _ _ p=>gN (p 17 34 rfl rfl) hc139 rfl) (fun _=>rfl) (oP (fun _ _ p=>gN (p 17 34 rfl rfl) hc139 rfl) (fun _=>rfl) (oP (fun _ _ p=>gN (p 17 34 rfl rfl) hc139 rfl) (fun _=>rfl) (oP (fun _ _ p=>gN (p 17 34 rfl rfl) hc139 rfl) (fun _=>rfl) (oP (fun _ _ p=>gN (p 17 34 rfl rfl) hc139 rfl) (fun _=>rfl) (oP (fun _ _ p=>gN (p 17 34 rfl rfl) hc139 rfl) (fun _=>rfl) (oP (fun _ _ p=>gN (p 17 34 rfl rfl) hc139 rfl) (fun _=>rfl) (oP (fun _ _ p=>gN (p 17 34 rfl rfl) hc139 rfl) (fun _=>rfl) (oP (fun _ _ p=>gN (p 17 34 rfl rfl) hc139 rfl) (fun _=>rfl) (oP (fun _ _ p=>gN (p 17 34 rfl rfl) hc139 rfl) (fun _=>rfl) (opsS_nil)))))))))))))))))))))))))
 refine ps (g_no rfl (Eq.trans (hT52 17 34 rfl rfl) (congrArg Value.bool hc139)) rfl rfl) (ps (g_no rfl (Eq.trans (hT52 17 34 rfl rfl) (congrArg Value.bool hc139)) rfl rfl) (L_pick (v:=Bo b50) (g_yes rfl (Eq.trans (hT52 14 31 rfl rfl) (congrArg Value.bool hc126)) rfl) (Eq.trans (hT52 17 34 rfl rfl) (congrArg Value.bool hc139)) (congrArg Value.bool (so hb50)) (L_pick (v:=Bo b51) rfl (Eq.trans (hT52 14 31 rfl rfl) (congrArg Value.bool hc126)) (congrArg Value.bool (so hb51)) (nn ?_))))
 have hst:=hst.get 1 rfl
 exact rj hR55 ⟨H52,hE52,((hS52 1 rfl).trans sf1),((hS52 3 rfl).trans sf3),rfl,(Star.keepN 1 hst)⟩
 rcases Bool.eq_false_or_eq_true ((!x29) || (decide (x_8.coef < 1))) with hc194 | hc194
 rcases Bool.eq_false_or_eq_true (((!x29) || (decide (x_8.coef < 1))) || (decide (x_8.coef > 1000))) with hc195 | hc195
 rw [ite_t hc195] at hb51
 refine W_drawS 28 [isV (Pq g21 1),isV (I x_8.lit),isV (Bo x29),isV (Bo (!x29)),isV (Bo (!x29)),isV (Pt g21),isV (I x_8.coef),isV (Bo (decide (x_8.coef < 1))),isV (Bo ((!x29) || (decide (x_8.coef < 1)))),isV (Bo ((!x29) || (decide (x_8.coef < 1)))),isV (undef),isV (undef),isV (undef),isV (Bo (((!x29) || (decide (x_8.coef < 1))) || (decide (x_8.coef > 1000)))),isV (Bo (((!x29) || (decide (x_8.coef < 1))) || (decide (x_8.coef > 1000)))),isV (undef),isV (undef),isV (undef),isV (undef),isV (undef),isV (undef),isV (undef),isV (undef),isV (undef),isV (undef),isV (undef),isV (undef),isV (undef)] [box g21 85 #[I x_8.coef,I x_8.lit],box g3 46 #[v0_0,I c.bound]] [] ([]) [([],[]),([],[]),([],[]),([],[]),([],[]),([],[]),([],[]),([],[]),([],[]),([],[]),([],[]),([],[]),([],[]),([],[]),([],[]),([],[]),([],[]),([],[]),([],[]),([],[]),([],[]),([],[]),([],[]),([],[]),([],[]),([],[]),([],[]),([],[])] (S:=[]) Tryz_mix (by kernel_rfl) rfl (by kernel_rfl) (amF_cons (mono_V _) (amF_cons (mono_V _) (amF_cons (mono_V _) (amF_cons (mono_V _) (amF_cons (mono_V _) (amF_cons (mono_V _) (amF_cons (mono_V _) (amF_cons (mono_V _) (amF_cons (mono_V _) (amF_cons (mono_V _) (amF_cons (mono_V _) (amF_cons (mono_V _) (amF_cons (mono_V _) (amF_cons (mono_V _) (amF_cons (mono_V _) (amF_cons (mono_V _) (amF_cons (mono_V _) (amF_cons (mono_V _) (amF_cons (mono_V _) (amF_cons (mono_V _) (amF_cons (mono_V _) (amF_cons (mono_V _) (amF_cons (mono_V _) (amF_cons (mono_V _) (amF_cons (mono_V _) (amF_cons (mono_V _) (amF_cons (mono_V _) (amF_cons (mono_V _) amF_nil)))))))))))))))))))))))))))) hst ?_ (fun f w_ H52 hS52 hE52 hT52 hst=>?_)
 refine opsS_cons (fun f w_ _ _ s _ _ hst=>fA 1 fa_85_1 ((s 4 rfl).trans rfl) rfl (nO rfl rfl hst)) (opsS_cons (fun f w_ _ _ _ _ p hst=>ldB 0 hst Tryz.isAgg3 (p 0 17 rfl rfl) rfl rfl (nO rfl rfl hst)) (opsS_cons ?_ ?_))
 intro f w_ H52 X52 hS52 hE52 hP52 hst
 obtain ⟨H202b,l203,s204,z205,k206⟩:=hst.borrow
 refine L_call rfl Tryz.call57 (ops1 (hP52 1 18 rfl rfl)) (s_l1Lit_c (n_:=x_8.lit) s204 hx29) ?_
 rintro _ w207 ⟨rfl,hst⟩
 have hst:=k206 hst c0
 exact L_nil ⟨rfl,_,_,rfl,Le.refl _,fun _ _=>rfl,hst⟩
 refine opsS_cons (fun f w_ _ _ _ _ p hst=>L_not_ rfl (p 2 19 rfl rfl) (nO rfl rfl hst)) (opsS_cons (fun f w_ _ _ _ _ p hst=>mF (p 3 20 rfl rfl) rfl (nO rfl rfl hst)) (opsS_cons (fun f w_ _ _ s _ p hst=>L_fa (o':=0) (g_yes rfl (Eq.trans (p 4 21 rfl rfl) (congrArg Value.bool hc56)) rfl) fa_85_0 ((s 4 rfl).trans rfl) rfl (nO rfl rfl hst)) (opsS_cons (fun f w_ _ _ _ _ p hst=>L_ld (v:=I x_8.coef) (g_yes rfl (Eq.trans (p 4 21 rfl rfl) (congrArg Value.bool hc56)) rfl) Tryz.isAgg3 (p 5 22 rfl rfl) (At.cell0 (Blk.at (Star.blkAt 0 hst rfl)) (j:=0) rfl) (nO rfl rfl hst)) (opsS_cons (fun f w_ _ _ _ _ p hst=>L_lss (g_yes rfl (Eq.trans (p 4 21 rfl rfl) (congrArg Value.bool hc56)) rfl) (p 6 23 rfl rfl) rfl (nO rfl rfl hst)) (opsS_cons (fun f w_ _ _ _ _ p hst=>pkT (v:=Bo ((!x29) || (decide (x_8.coef < 1)))) (p 4 21 rfl rfl) hc56 rfl (or_f hc56 (p 7 24 rfl rfl)) (nO rfl rfl hst)) (opsS_cons (fun f w_ _ _ _ _ p hst=>mF (p 8 25 rfl rfl) rfl (nO rfl rfl hst)) (oP (fun _ _ p=>gN (p 9 26 rfl rfl) hc194 rfl) (fun _=>rfl) (oP (fun _ _ p=>gN (p 9 26 rfl rfl) hc194 rfl) (fun _=>rfl) (oP (fun _ _ p=>gN (p 9 26 rfl rfl) hc194 rfl) (fun _=>rfl) (opsS_cons (fun f w_ _ _ _ _ p hst=>pkT (v:=Bo (((!x29) || (decide (x_8.coef < 1))) || (decide (x_8.coef > 1000)))) (p 9 26 rfl rfl) hc194 rfl (or_t hc194) (nO rfl rfl hst)) (opsS_cons (fun f w_ _ _ _ _ p hst=>mF (p 13 30 rfl rfl) rfl (nO rfl rfl hst)) (oP (fun _ _ p=>gN (p 14 31 rfl rfl) hc195 rfl) (fun _=>rfl) (oP (fun _ _ p=>gN (p 14 31 rfl rfl) hc195 rfl) (fun _=>rfl) (oP (fun _ _ p=>gN (p 14 31 rfl rfl) hc195 rfl) (fun _=>rfl) (oP (fun _ _ p=>g_undef rfl (p 17 34 rfl rfl) rfl) (fun _=>rfl) (oP (fun _ _ p=>g_undef rfl (p 17 34 rfl rfl) rfl) (fun _=>rfl) (oP (fun _ _ p=>g_undef rfl (p 17 34 rfl rfl) rfl) (fun _=>rfl) (oP (fun _ _ p=>g_undef rfl (p 17 34 rfl rfl) rfl) (fun _=>rfl) (oP (fun _ _ p=>g_undef rfl (p 17 34 rfl rfl) rfl) (fun _=>rfl) (oP (fun _ _ p=>g_undef rfl (p 17 34 rfl rfl) rfl) (fun _=>rfl) (oP (fun _ _ p=>g_undef rfl (p 17 34 rfl rfl) rfl) (fun _=>rfl) (oP (fun _ _ p=>g_undef rfl (p 17 34 rfl rfl) rfl) (fun _=>rfl) (oP (fun _ _ p=>g_undef rfl (p 17 34 rfl rfl) rfl) (fun _=>rfl) (oP (fun _ _ p=>g_undef rfl (p 17 34 rfl rfl) rfl) (fun _=>rfl) (opsS_nil)))))))))))))))))))))))))
 refine ps (g_undef rfl (hT52 17 34 rfl rfl) rfl) (ps (g_undef rfl (hT52 17 34 rfl rfl) rfl) (ps (g_no rfl (Eq.trans (hT52 14 31 rfl rfl) (congrArg Value.bool hc195)) rfl rfl) (L_pick (v:=Bo b51) rfl (Eq.trans (hT52 14 31 rfl rfl) (congrArg Value.bool hc195)) (congrArg Value.bool (so hb51)) (nn ?_))))
 have hst:=hst.get 1 rfl
 exact rj hR55 ⟨H52,hE52,((hS52 1 rfl).trans sf1),((hS52 3 rfl).trans sf3),rfl,(Star.keepN 1 hst)⟩
 rw [ite_f hc195] at hb51
 obtain ⟨b50,hb50,hb51⟩:=bind_some hb51
 rcases Bool.eq_false_or_eq_true (decide ((i_5 : Int) > 0)) with hc208 | hc208
 rw [ite_t hc208] at hb50
 obtain ⟨x31,hx31,hb50⟩:=bind_some hb50
 obtain ⟨x41,hx41,hb50⟩:=bind_some hb50
 obtain ⟨x48,hx48,hb50⟩:=bind_some hb50
 refine W_drawS 28 [isV (Pq g21 1),isV (I x_8.lit),isV (Bo x29),isV (Bo (!x29)),isV (Bo (!x29)),isV (Pt g21),isV (I x_8.coef),isV (Bo (decide (x_8.coef < 1))),isV (Bo ((!x29) || (decide (x_8.coef < 1)))),isV (Bo ((!x29) || (decide (x_8.coef < 1)))),isV (undef),isV (undef),isV (undef),isV (Bo (((!x29) || (decide (x_8.coef < 1))) || (decide (x_8.coef > 1000)))),isV (Bo (((!x29) || (decide (x_8.coef < 1))) || (decide (x_8.coef > 1000)))),isV (I i_5),isV (Bo (decide ((i_5 : Int) > 0))),isV (Bo (decide ((i_5 : Int) > 0))),isV (Pt g3),isV (v0_0),isV (I i_5),isV (I (i64 ((i_5 : Int) - 1))),isEl rTerm x31 0,isEl rTerm x31 1,isV (I x31.lit),isV (I x41),isV (Pq g21 1),isV (I x_8.lit)] [box g21 85 #[I x_8.coef,I x_8.lit],box g3 46 #[v0_0,I c.bound]] [] ([]) [([],[]),([],[]),([],[]),([],[]),([],[]),([],[]),([],[]),([],[]),([],[]),([],[]),([],[]),([],[]),([],[]),([],[]),([],[]),([],[]),([],[]),([],[]),([],[]),([],[]),([],[]),([],[]),([],[]),([],[]),([],[]),([],[]),([],[]),([],[])] (S:=[]) Tryz_mix (by kernel_rfl) rfl (by kernel_rfl) (amF_cons (mono_V _) (amF_cons (mono_V _) (amF_cons (mono_V _) (amF_cons (mono_V _) (amF_cons (mono_V _) (amF_cons (mono_V _) (amF_cons (mono_V _) (amF_cons (mono_V _) (amF_cons (mono_V _) (amF_cons (mono_V _) (amF_cons (mono_V _) (amF_cons (mono_V _) (amF_cons (mono_V _) (amF_cons (mono_V _) (amF_cons (mono_V _) (amF_cons (mono_V _) (amF_cons (mono_V _) (amF_cons (mono_V _) (amF_cons (mono_V _) (amF_cons (mono_V _) (amF_cons (mono_V _) (amF_cons (mono_V _) (amF_cons (mono_el _ _ _) (amF_cons (mono_el _ _ _) (amF_cons (mono_V _) (amF_cons (mono_V _) (amF_cons (mono_V _) (amF_cons (mono_V _) amF_nil)))))))))))))))))))))))))))) hst ?_ (fun f w_ H52 hS52 hE52 hT52 hst=>?_)
 refine opsS_cons (fun f w_ _ _ s _ _ hst=>fA 1 fa_85_1 ((s 4 rfl).trans rfl) rfl (nO rfl rfl hst)) (opsS_cons (fun f w_ _ _ _ _ p hst=>ldB 0 hst Tryz.isAgg3 (p 0 17 rfl rfl) rfl rfl (nO rfl rfl hst)) (opsS_cons ?_ ?_))
 intro f w_ H52 X52 hS52 hE52 hP52 hst
 obtain ⟨H225b,l226,s227,z228,k229⟩:=hst.borrow
 refine L_call rfl Tryz.call57 (ops1 (hP52 1 18 rfl rfl)) (s_l1Lit_c (n_:=x_8.lit) s227 hx29) ?_
 rintro _ w230 ⟨rfl,hst⟩
 have hst:=k229 hst c0
 exact L_nil ⟨rfl,_,_,rfl,Le.refl _,fun _ _=>rfl,hst⟩
 refine opsS_cons (fun f w_ _ _ _ _ p hst=>L_not_ rfl (p 2 19 rfl rfl) (nO rfl rfl hst)) (opsS_cons (fun f w_ _ _ _ _ p hst=>mF (p 3 20 rfl rfl) rfl (nO rfl rfl hst)) (opsS_cons (fun f w_ _ _ s _ p hst=>L_fa (o':=0) (g_yes rfl (Eq.trans (p 4 21 rfl rfl) (congrArg Value.bool hc56)) rfl) fa_85_0 ((s 4 rfl).trans rfl) rfl (nO rfl rfl hst)) (opsS_cons (fun f w_ _ _ _ _ p hst=>L_ld (v:=I x_8.coef) (g_yes rfl (Eq.trans (p 4 21 rfl rfl) (congrArg Value.bool hc56)) rfl) Tryz.isAgg3 (p 5 22 rfl rfl) (At.cell0 (Blk.at (Star.blkAt 0 hst rfl)) (j:=0) rfl) (nO rfl rfl hst)) (opsS_cons (fun f w_ _ _ _ _ p hst=>L_lss (g_yes rfl (Eq.trans (p 4 21 rfl rfl) (congrArg Value.bool hc56)) rfl) (p 6 23 rfl rfl) rfl (nO rfl rfl hst)) (opsS_cons (fun f w_ _ _ _ _ p hst=>pkT (v:=Bo ((!x29) || (decide (x_8.coef < 1)))) (p 4 21 rfl rfl) hc56 rfl (or_f hc56 (p 7 24 rfl rfl)) (nO rfl rfl hst)) (opsS_cons (fun f w_ _ _ _ _ p hst=>mF (p 8 25 rfl rfl) rfl (nO rfl rfl hst)) (oP (fun _ _ p=>gN (p 9 26 rfl rfl) hc194 rfl) (fun _=>rfl) (oP (fun _ _ p=>gN (p 9 26 rfl rfl) hc194 rfl) (fun _=>rfl) (oP (fun _ _ p=>gN (p 9 26 rfl rfl) hc194 rfl) (fun _=>rfl) (opsS_cons (fun f w_ _ _ _ _ p hst=>pkT (v:=Bo (((!x29) || (decide (x_8.coef < 1))) || (decide (x_8.coef > 1000)))) (p 9 26 rfl rfl) hc194 rfl (or_t hc194) (nO rfl rfl hst)) (opsS_cons (fun f w_ _ _ _ _ p hst=>mF (p 13 30 rfl rfl) rfl (nO rfl rfl hst)) (opsS_cons (fun f w_ _ _ s _ p hst=>L_mv (v:=I i_5) (g_yes rfl (Eq.trans (p 14 31 rfl rfl) (congrArg Value.bool hc195)) rfl) ((s 3 rfl).trans sf3) (nO rfl rfl hst)) (opsS_cons (fun f w_ _ _ _ _ p hst=>L_gtr (g_yes rfl (Eq.trans (p 14 31 rfl rfl) (congrArg Value.bool hc195)) rfl) (p 15 32 rfl rfl) rfl (nO rfl rfl hst)) (opsS_cons (fun f w_ _ _ _ _ p hst=>L_mv (v:=Bo (decide ((i_5 : Int) > 0))) (g_yes rfl (Eq.trans (p 14 31 rfl rfl) (congrArg Value.bool hc195)) rfl) (p 16 33 rfl rfl) (nO rfl rfl hst)) (opsS_cons (fun f w_ _ _ s _ p hst=>L_fa (o':=0) (g_yes rfl (Eq.trans (p 17 34 rfl rfl) (congrArg Value.bool hc208)) rfl) fa_46_0 ((s 1 rfl).trans sf1) rfl (nO rfl rfl hst)) (opsS_cons (fun f w_ _ _ _ _ p hst=>L_ld (v:=v0_0) (g_yes rfl (Eq.trans (p 17 34 rfl rfl) (congrArg Value.bool hc208)) rfl) Tryz.isAgg44 (p 18 35 rfl rfl) (At.cell0 (Blk.at (Star.blkAt 1 hst rfl)) (j:=0) rfl) (nO rfl rfl hst)) (opsS_cons (fun f w_ _ _ s _ p hst=>L_mv (v:=I i_5) (g_yes rfl (Eq.trans (p 17 34 rfl rfl) (congrArg Value.bool hc208)) rfl) ((s 3 rfl).trans sf3) (nO rfl rfl hst)) (opsS_cons (fun f w_ _ _ _ _ p hst=>L_sub (g_yes rfl (Eq.trans (p 17 34 rfl rfl) (congrArg Value.bool hc208)) rfl) (p 20 37 rfl rfl) rfl (nO rfl rfl hst)) (opsS_cons ?_ ?_)))))))))))))))))))
 intro f w_ H52 X52 hS52 hE52 hP52 hst
 refine L_ix (r:=rTerm) (g_yes rfl (Eq.trans (hP52 17 34 rfl rfl) (congrArg Value.bool hc208)) rfl) Tryz.underlying44 Tryz.sizeOf85 (hP52 19 36 rfl rfl) (RP.mono _ h0_0 (Le.trans l7 hE52)) (hP52 21 38 rfl rfl) hx31 (fun g231 o232 cs_g231 hrk_hat233 hat233=>?_)
 obtain rfl:=rTerm_iff.1 hrk_hat233
 exact L_nil ⟨rfl,_,_,rfl,Le.refl _,fun _ _=>⟨_,_,_,rfl,hrk_hat233,hat233⟩,hst⟩
 refine opsS_cons ?_ ?_
 intro f w_ H52 X52 hS52 hE52 hP52 hst
 obtain ⟨g235,o235,cs235,hv235,hrk_hat235,hat235⟩:=(hP52 22 39 rfl rfl)
 obtain rfl:=rTerm_iff.1 hrk_hat235
 refine L_fa (o':=o235 + 1) (g_yes rfl (Eq.trans (hP52 17 34 rfl rfl) (congrArg Value.bool hc208)) rfl) fa_85_1 hv235 rfl (L_nil ⟨rfl,_,_,rfl,Le.refl _,fun _ _=>⟨_,_,_,rfl,hrk_hat235,hat235⟩,hst⟩)
 refine opsS_cons ?_ ?_
 intro f w_ H52 X52 hS52 hE52 hP52 hst
 obtain ⟨g237,o237,cs237,hv237,hrk_hat237,hat237⟩:=(hP52 23 40 rfl rfl)
 obtain rfl:=rTerm_iff.1 hrk_hat237
 refine L_ld (v:=I x31.lit) (g_yes rfl (Eq.trans (hP52 17 34 rfl rfl) (congrArg Value.bool hc208)) rfl) Tryz.isAgg3 hv237 (At.cell (AtH.at hat237 hst.sub) (j:=1) rfl) (L_nil ⟨rfl,_,_,rfl,Le.refl _,fun _ _=>rfl,hst⟩)
 refine opsS_cons ?_ ?_
 intro f w_ H52 X52 hS52 hE52 hP52 hst
 obtain ⟨H239b,l240,s241,z242,k243⟩:=hst.borrow
 refine L_call (g_yes rfl (Eq.trans (hP52 17 34 rfl rfl) (congrArg Value.bool hc208)) rfl) Tryz.call58 (ops1 (hP52 24 41 rfl rfl)) (s_l1Abs_c (n_:=x31.lit) s241 hx41) ?_
 rintro _ w244 ⟨rfl,hst⟩
 have hst:=k243 hst c0
 exact L_nil ⟨rfl,_,_,rfl,Le.refl _,fun _ _=>rfl,hst⟩
 refine opsS_cons (fun f w_ _ _ s _ p hst=>L_fa (o':=1) (g_yes rfl (Eq.trans (p 17 34 rfl rfl) (congrArg Value.bool hc208)) rfl) fa_85_1 ((s 4 rfl).trans rfl) rfl (nO rfl rfl hst)) (opsS_cons (fun f w_ _ _ _ _ p hst=>L_ld (v:=I x_8.lit) (g_yes rfl (Eq.trans (p 17 34 rfl rfl) (congrArg Value.bool hc208)) rfl) Tryz.isAgg3 (p 26 43 rfl rfl) (At.cell0 (Blk.at (Star.blkAt 0 hst rfl)) (j:=1) rfl) (nO rfl rfl hst)) (opsS_nil))
 obtain ⟨H245b,l246,s247,z248,k249⟩:=hst.borrow
 refine L_call (g_yes rfl (Eq.trans (hT52 17 34 rfl rfl) (congrArg Value.bool hc208)) rfl) Tryz.call58 (ops1 (hT52 27 44 rfl rfl)) (s_l1Abs_c (n_:=x_8.lit) s247 hx48) ?_
 rintro _ w250 ⟨rfl,hst⟩
 have hst:=k249 hst c0
 refine L_geq (g_yes rfl (Eq.trans (hT52 17 34 rfl rfl) (congrArg Value.bool hc208)) rfl) (hT52 25 42 rfl rfl) rfl (L_pick (v:=Bo b50) (g_yes rfl (Eq.trans (hT52 14 31 rfl rfl) (congrArg Value.bool hc195)) rfl) (Eq.trans (hT52 17 34 rfl rfl) (congrArg Value.bool hc208)) (congrArg Value.bool (so hb50)) (L_pick (v:=Bo b51) rfl (Eq.trans (hT52 14 31 rfl rfl) (congrArg Value.bool hc195)) (congrArg Value.bool (so hb51)) (nn ?_)))
 have hst:=hst.get 1 rfl
 exact rj hR55 ⟨H52,hE52,((hS52 1 rfl).trans sf1),((hS52 3 rfl).trans sf3),rfl,(Star.keepN 1 hst)⟩
 rw [ite_f hc208] at hb50
 refine W_drawS 28 [isV (Pq g21 1),isV (I x_8.lit),isV (Bo x29),isV (Bo (!x29)),isV (Bo (!x29)),isV (Pt g21),isV (I x_8.coef),isV (Bo (decide (x_8.coef < 1))),isV (Bo ((!x29) || (decide (x_8.coef < 1)))),isV (Bo ((!x29) || (decide (x_8.coef < 1)))),isV (undef),isV (undef),isV (undef),isV (Bo (((!x29) || (decide (x_8.coef < 1))) || (decide (x_8.coef > 1000)))),isV (Bo (((!x29) || (decide (x_8.coef < 1))) || (decide (x_8.coef > 1000)))),isV (I i_5),isV (Bo (decide ((i_5 : Int) > 0))),isV (Bo (decide ((i_5 : Int) > 0))),isV (undef),isV (undef),isV (undef),isV (undef),isV (undef),isV (undef),isV (undef),isV (undef),isV (undef),isV (undef)] [box g21 85 #[I x_8.coef,I x_8.lit],box g3 46 #[v0_0,I c.bound]] [] ([]) [([],[]),([],[]),([],[]),([],[]),([],[]),([],[]),([],[]),([],[]),([],[]),([],[]),([],[]),([],[]),([],[]),([],[]),([],[]),([],[]),([],[]),([],[]),([],[]),([],[]),([],[]),([],[]),([],[]),([],[]),([],[]),([],[]),([],[]),([],[])] (S:=[]) Tryz_mix (by kernel_rfl) rfl (by kernel_rfl) (amF_cons (mono_V _) (amF_cons (mono_V _) (amF_cons (mono_V _) (amF_cons (mono_V _) (amF_cons (mono_V _) (amF_cons (mono_V _) (amF_cons (mono_V _) (amF_cons (mono_V _) (amF_cons (mono_V _) (amF_cons (mono_V _) (amF_cons (mono_V _) (amF_cons (mono_V _) (amF_cons (mono_V _) (amF_cons (mono_V _) (amF_cons (mono_V _) (amF_cons (mono_V _) (amF_cons (mono_V _) (amF_cons (mono_V _) (amF_cons (mono_V _) (amF_cons (mono_V _) (amF_cons (mono_V _) (amF_cons (mono_V _) (amF_cons (mono_V _) (amF_cons (mono_V _) (amF_cons (mono_V _) (amF_cons (mono_V _) (amF_cons (mono_V _) (amF_cons (mono_V _) amF_nil)))))))))))))))))))))))))))) hst ?_ (fun f w_ H52 hS52 hE52 hT52 hst=>?_)
 refine opsS_cons (fun f w_ _ _ s _ _ hst=>fA 1 fa_85_1 ((s 4 rfl).trans rfl) rfl (nO rfl rfl hst)) (opsS_cons (fun f w_ _ _ _ _ p hst=>ldB 0 hst Tryz.isAgg3 (p 0 17 rfl rfl) rfl rfl (nO rfl rfl hst)) (opsS_cons ?_ ?_))
 intro f w_ H52 X52 hS52 hE52 hP52 hst
 obtain ⟨H257b,l258,s259,z260,k261⟩:=hst.borrow
 refine L_call rfl Tryz.call57 (ops1 (hP52 1 18 rfl rfl)) (s_l1Lit_c (n_:=x_8.lit) s259 hx29) ?_
 rintro _ w262 ⟨rfl,hst⟩
 have hst:=k261 hst c0
 exact L_nil ⟨rfl,_,_,rfl,Le.refl _,fun _ _=>rfl,hst⟩
 refine opsS_cons (fun f w_ _ _ _ _ p hst=>L_not_ rfl (p 2 19 rfl rfl) (nO rfl rfl hst)) (opsS_cons (fun f w_ _ _ _ _ p hst=>mF (p 3 20 rfl rfl) rfl (nO rfl rfl hst)) (opsS_cons (fun f w_ _ _ s _ p hst=>L_fa (o':=0) (g_yes rfl (Eq.trans (p 4 21 rfl rfl) (congrArg Value.bool hc56)) rfl) fa_85_0 ((s 4 rfl).trans rfl) rfl (nO rfl rfl hst)) (opsS_cons (fun f w_ _ _ _ _ p hst=>L_ld (v:=I x_8.coef) (g_yes rfl (Eq.trans (p 4 21 rfl rfl) (congrArg Value.bool hc56)) rfl) Tryz.isAgg3 (p 5 22 rfl rfl) (At.cell0 (Blk.at (Star.blkAt 0 hst rfl)) (j:=0) rfl) (nO rfl rfl hst)) (opsS_cons (fun f w_ _ _ _ _ p hst=>L_lss (g_yes rfl (Eq.trans (p 4 21 rfl rfl) (congrArg Value.bool hc56)) rfl) (p 6 23 rfl rfl) rfl (nO rfl rfl hst)) (opsS_cons (fun f w_ _ _ _ _ p hst=>pkT (v:=Bo ((!x29) || (decide (x_8.coef < 1)))) (p 4 21 rfl rfl) hc56 rfl (or_f hc56 (p 7 24 rfl rfl)) (nO rfl rfl hst)) (opsS_cons (fun f w_ _ _ _ _ p hst=>mF (p 8 25 rfl rfl) rfl (nO rfl rfl hst)) (oP (fun _ _ p=>gN (p 9 26 rfl rfl) hc194 rfl) (fun _=>rfl) (oP (fun _ _ p=>gN (p 9 26 rfl rfl) hc194 rfl) (fun _=>rfl) (oP (fun _ _ p=>gN (p 9 26 rfl rfl) hc194 rfl) (fun _=>rfl) (opsS_cons (fun f w_ _ _ _ _ p hst=>pkT (v:=Bo (((!x29) || (decide (x_8.coef < 1))) || (decide (x_8.coef > 1000)))) (p 9 26 rfl rfl) hc194 rfl (or_t hc194) (nO rfl rfl hst)) (opsS_cons (fun f w_ _ _ _ _ p hst=>mF (p 13 30 rfl rfl) rfl (nO rfl rfl hst)) (opsS_cons (fun f w_ _ _ s _ p hst=>L_mv (v:=I i_5) (g_yes rfl (Eq.trans (p 14 31 rfl rfl) (congrArg Value.bool hc195)) rfl) ((s 3 rfl).trans sf3) (nO rfl rfl hst)) (opsS_cons (fun f w_ _ _ _ _ p hst=>L_gtr (g_yes rfl (Eq.trans (p 14 31 rfl rfl) (congrArg Value.bool hc195)) rfl) (p 15 32 rfl rfl) rfl (nO rfl rfl hst)) (opsS_cons (fun f w_ _ _ _ _ p hst=>L_mv (v:=Bo (decide ((i_5 : Int) > 0))) (g_yes rfl (Eq.trans (p 14 31 rfl rfl) (congrArg Value.bool hc195)) rfl) (p 16 33 rfl rfl) (nO rfl rfl hst)) (oP (fun _ _ p=>gN (p 17 34 rfl rfl) hc208 rfl) (fun _=>rfl) (oP (fun _ _ p=>gN (p 17 34 rfl rfl) hc208 rfl) (fun _=>rfl) (oP (fun _ _ p=>gN (p 17 34 rfl rfl) hc208 rfl) (fun _=>rfl) (oP (fun _ _ p=>gN (p 17 34 rfl rfl) hc208 rfl) (fun _=>rfl) (oP (fun _ _ p=>gN (p 17 34 rfl rfl) hc208 rfl) (fun _=>rfl) (oP (fun _ _ p=>gN (p 17 34 rfl rfl) hc208 rfl) (fun _=>rfl) (oP (fun _ _ p=>gN (p 17 34 rfl rfl) hc208 rfl) (fun _=>rfl) (oP (fun _ _ p=>gN (p 17 34 rfl rfl) hc208 rfl) (fun _=>rfl) (oP (fun _ _ p=>gN (p 17 34 rfl rfl) hc208 rfl) (fun _=>rfl) (oP (fun _ _ p=>gN (p 17 34 rfl rfl) hc208 rfl) (fun _=>rfl) (opsS_nil)))))))))))))))))))))))))
 refine ps (g_no rfl (Eq.trans (hT52 17 34 rfl rfl) (congrArg Value.bool hc208)) rfl rfl) (ps (g_no rfl (Eq.trans (hT52 17 34 rfl rfl) (congrArg Value.bool hc208)) rfl rfl) (L_pick (v:=Bo b50) (g_yes rfl (Eq.trans (hT52 14 31 rfl rfl) (congrArg Value.bool hc195)) rfl) (Eq.trans (hT52 17 34 rfl rfl) (congrArg Value.bool hc208)) (congrArg Value.bool (so hb50)) (L_pick (v:=Bo b51) rfl (Eq.trans (hT52 14 31 rfl rfl) (congrArg Value.bool hc195)) (congrArg Value.bool (so hb51)) (nn ?_))))
 have hst:=hst.get 1 rfl
 exact rj hR55 ⟨H52,hE52,((hS52 1 rfl).trans sf1),((hS52 3 rfl).trans sf3),rfl,(Star.keepN 1 hst)⟩
 rcases Bool.eq_false_or_eq_true (((!x29) || (decide (x_8.coef < 1))) || (decide (x_8.coef > 1000))) with hc263 | hc263
 rw [ite_t hc263] at hb51
 refine W_drawS 28 [isV (Pq g21 1),isV (I x_8.lit),isV (Bo x29),isV (Bo (!x29)),isV (Bo (!x29)),isV (Pt g21),isV (I x_8.coef),isV (Bo (decide (x_8.coef < 1))),isV (Bo ((!x29) || (decide (x_8.coef < 1)))),isV (Bo ((!x29) || (decide (x_8.coef < 1)))),isV (Pt g21),isV (I x_8.coef),isV (Bo (decide (x_8.coef > 1000))),isV (Bo (((!x29) || (decide (x_8.coef < 1))) || (decide (x_8.coef > 1000)))),isV (Bo (((!x29) || (decide (x_8.coef < 1))) || (decide (x_8.coef > 1000)))),isV (undef),isV (undef),isV (undef),isV (undef),isV (undef),isV (undef),isV (undef),isV (undef),isV (undef),isV (undef),isV (undef),isV (undef),isV (undef)] [box g21 85 #[I x_8.coef,I x_8.lit],box g3 46 #[v0_0,I c.bound]] [] ([]) [([],[]),([],[]),([],[]),([],[]),([],[]),([],[]),([],[]),([],[]),([],[]),([],[]),([],[]),([],[]),([],[]),([],[]),([],[]),([],[]),([],[]),([],[]),([],[]),([],[]),([],[]),([],[]),([],[]),([],[]),([],[]),([],[]),([],[]),([],[])] (S:=[]) Tryz_mix (by kernel_rfl) rfl (by kernel_rfl) (amF_cons (mono_V _) (amF_cons (mono_V _) (amF_cons (mono_V _) (amF_cons (mono_V _) (amF_cons (mono_V _) (amF_cons (mono_V _) (amF_cons (mono_V _) (amF_cons (mono_V _) (amF_cons (mono_V _) (amF_cons (mono_V _) (amF_cons (mono_V _) (amF_cons (mono_V _) (amF_cons (mono_V _) (amF_cons (mono_V _) (amF_cons (mono_V _) (amF_cons (mono_V _) (amF_cons (mono_V _) (amF_cons (mono_V _) (amF_cons (mono_V _) (amF_cons (mono_V _) (amF_cons (mono_V _) (amF_cons (mono_V _) (amF_cons (mono_V _) (amF_cons (mono_V _) (amF_cons (mono_V _) (amF_cons (mono_V _) (amF_cons (mono_V _) (amF_cons (mono_V _) amF_nil)))))))))))))))))))))))))))) hst ?_ (fun f w_ H52 hS52 hE52 hT52 hst=>?_)
 refine opsS_cons (fun f w_ _ _ s _ _ hst=>fA 1 fa_85_1 ((s 4 rfl).trans rfl) rfl (nO rfl rfl hst)) (opsS_cons (fun f w_ _ _ _ _ p hst=>ldB 0 hst Tryz.isAgg3 (p 0 17 rfl rfl) rfl rfl (nO rfl rfl hst)) (opsS_cons ?_ ?_))
 intro f w_ H52 X52 hS52 hE52 hP52 hst
 obtain ⟨H270b,l271,s272,z273,k274⟩:=hst.borrow
 refine L_call rfl Tryz.call57 (ops1 (hP52 1 18 rfl rfl)) (s_l1Lit_c (n_:=x_8.lit) s272 hx29) ?_
 rintro _ w275 ⟨rfl,hst⟩
 have hst:=k274 hst c0
 exact L_nil ⟨rfl,_,_,rfl,Le.refl _,fun _ _=>rfl,hst⟩
 refine opsS_cons (fun f w_ _ _ _ _ p hst=>L_not_ rfl (p 2 19 rfl rfl) (nO rfl rfl hst)) (opsS_cons (fun f w_ _ _ _ _ p hst=>mF (p 3 20 rfl rfl) rfl (nO rfl rfl hst)) (opsS_cons (fun f w_ _ _ s _ p hst=>L_fa (o':=0) (g_yes rfl (Eq.trans (p 4 21 rfl rfl) (congrArg Value.bool hc56)) rfl) fa_85_0 ((s 4 rfl).trans rfl) rfl (nO rfl rfl hst)) (opsS_cons (fun f w_ _ _ _ _ p hst=>L_ld (v:=I x_8.coef) (g_yes rfl (Eq.trans (p 4 21 rfl rfl) (congrArg Value.bool hc56)) rfl) Tryz.isAgg3 (p 5 22 rfl rfl) (At.cell0 (Blk.at (Star.blkAt 0 hst rfl)) (j:=0) rfl) (nO rfl rfl hst)) (opsS_cons (fun f w_ _ _ _ _ p hst=>L_lss (g_yes rfl (Eq.trans (p 4 21 rfl rfl) (congrArg Value.bool hc56)) rfl) (p 6 23 rfl rfl) rfl (nO rfl rfl hst)) (opsS_cons (fun f w_ _ _ _ _ p hst=>pkT (v:=Bo ((!x29) || (decide (x_8.coef < 1)))) (p 4 21 rfl rfl) hc56 rfl (or_f hc56 (p 7 24 rfl rfl)) (nO rfl rfl hst)) (opsS_cons (fun f w_ _ _ _ _ p hst=>mF (p 8 25 rfl rfl) rfl (nO rfl rfl hst)) (opsS_cons (fun f w_ _ _ s _ p hst=>L_fa (o':=0) (g_yes rfl (Eq.trans (p 9 26 rfl rfl) (congrArg Value.bool hc194)) rfl) fa_85_0 ((s 4 rfl).trans rfl) rfl (nO rfl rfl hst)) (opsS_cons (fun f w_ _ _ _ _ p hst=>L_ld (v:=I x_8.coef) (g_yes rfl (Eq.trans (p 9 26 rfl rfl) (congrArg Value.bool hc194)) rfl) Tryz.isAgg3 (p 10 27 rfl rfl) (At.cell0 (Blk.at (Star.blkAt 0 hst rfl)) (j:=0) rfl) (nO rfl rfl hst)) (opsS_cons (fun f w_ _ _ _ _ p hst=>L_gtr (g_yes rfl (Eq.trans (p 9 26 rfl rfl) (congrArg Value.bool hc194)) rfl) (p 11 28 rfl rfl) rfl (nO rfl rfl hst)) (opsS_cons (fun f w_ _ _ _ _ p hst=>pkT (v:=Bo (((!x29) || (decide (x_8.coef < 1))) || (decide (x_8.coef > 1000)))) (p 9 26 rfl rfl) hc194 rfl (or_f hc194 (p 12 29 rfl rfl)) (nO rfl rfl hst)) (opsS_cons (fun f w_ _ _ _ _ p hst=>mF (p 13 30 rfl rfl) rfl (nO rfl rfl hst)) (oP (fun _ _ p=>gN (p 14 31 rfl rfl) hc263 rfl) (fun _=>rfl) (oP (fun _ _ p=>gN (p 14 31 rfl rfl) hc263 rfl) (fun _=>rfl) (oP (fun _ _ p=>gN (p 14 31 rfl rfl) hc263 rfl) (fun _=>rfl) (oP (fun _ _ p=>g_undef rfl (p 17 34 rfl rfl) rfl) (fun _=>rfl) (oP (fun _ _ p=>g_undef rfl (p 17 34 rfl rfl) rfl) (fun _=>rfl) (oP (fun _ _ p=>g_undef rfl (p 17 34 rfl rfl) rfl) (fun _=>rfl) (oP (fun _ _ p=>g_undef rfl (p 17 34 rfl rfl) rfl) (fun _=>rfl) (oP (fun _ _ p=>g_undef rfl (p 17 34 rfl rfl) rfl) (fun _=>rfl) (oP (fun _ _ p=>g_undef rfl (p 17 34 rfl rfl) rfl) (fun _=>rfl) (oP (fun _ _ p=>g_undef rfl (p 17 34 rfl rfl) rfl) (fun _=>rfl) (oP (fun _ _ p=>g_undef rfl (p 17 34 rfl rfl) rfl) (fun _=>rfl) (oP (fun _ _ p=>g_undef rfl (p 17 34 rfl rfl) rfl) (fun _=>rfl) (oP (fun _ _ p=>g_undef rfl (p 17 34 rfl rfl) rfl) (fun _=>rfl) (opsS_nil)))))))))))))))))))))))))
 refine ps (g_undef rfl (hT52 17 34 rfl rfl) rfl) (ps (g_undef rfl (hT52 17 34 rfl rfl) rfl) (ps (g_no rfl (Eq.trans (hT52 14 31 rfl rfl) (congrArg Value.bool hc263)) rfl rfl) (L_pick (v:=Bo b51) rfl (Eq.trans (hT52 14 31 rfl rfl) (congrArg Value.bool hc263)) (congrArg Value.bool (so hb51)) (nn ?_))))
 have hst:=hst.get 1 rfl
 exact rj hR55 ⟨H52,hE52,((hS52 1 rfl).trans sf1),((hS52 3 rfl).trans sf3),rfl,(Star.keepN 1 hst)⟩
 rw [ite_f hc263] at hb51
 obtain ⟨b50,hb50,hb51⟩:=bind_some hb51
 rcases Bool.eq_false_or_eq_true (decide ((i_5 : Int) > 0)) with hc276 | hc276
 rw [ite_t hc276] at hb50
 obtain ⟨x31,hx31,hb50⟩:=bind_some hb50
 obtain ⟨x41,hx41,hb50⟩:=bind_some hb50
 obtain ⟨x48,hx48,hb50⟩:=bind_some hb50
 refine W_drawS 28 [isV (Pq g21 1),isV (I x_8.lit),isV (Bo x29),isV (Bo (!x29)),isV (Bo (!x29)),isV (Pt g21),isV (I x_8.coef),isV (Bo (decide (x_8.coef < 1))),isV (Bo ((!x29) || (decide (x_8.coef < 1)))),isV (Bo ((!x29) || (decide (x_8.coef < 1)))),isV (Pt g21),isV (I x_8.coef),isV (Bo (decide (x_8.coef > 1000))),isV (Bo (((!x29) || (decide (x_8.coef < 1))) || (decide (x_8.coef > 1000)))),isV (Bo (((!x29) || (decide (x_8.coef < 1))) || (decide (x_8.coef > 1000)))),isV (I i_5),isV (Bo (decide ((i_5 : Int) > 0))),isV (Bo (decide ((i_5 : Int) > 0))),isV (Pt g3),isV (v0_0),isV (I i_5),isV (I (i64 ((i_5 : Int) - 1))),isEl rTerm x31 0,isEl rTerm x31 1,isV (I x31.lit),isV (I x41),isV (Pq g21 1),isV (I x_8.lit)] [box g21 85 #[I x_8.coef,I x_8.lit],box g3 46 #[v0_0,I c.bound]] [] ([]) [([],[]),([],[]),([],[]),([],[]),([],[]),([],[]),([],[]),([],[]),([],[]),([],[]),([],[]),([],[]),([],[]),([],[]),([],[]),([],[]),([],[]),([],[]),([],[]),([],[]),([],[]),([],[]),([],[]),([],[]),([],[]),([],[]),([],[]),([],[])] (S:=[]) Tryz_mix (by kernel_rfl) rfl (by kernel_rfl) (amF_cons (mono_V _) (amF_cons (mono_V _) (amF_cons (mono_V _) (amF_cons (mono_V _) (amF_cons (mono_V _) (amF_cons (mono_V _) (amF_cons (mono_V _) (amF_cons (mono_V _) (amF_cons (mono_V _) (amF_cons (mono_V _) (amF_cons (mono_V _) (amF_cons (mono_V _) (amF_cons (mono_V _) (amF_cons (mono_V _) (amF_cons (mono_V _) (amF_cons (mono_V _) (amF_cons (mono_V _) (amF_cons (mono_V _) (amF_cons (mono_V _) (amF_cons (mono_V _) (amF_cons (mono_V _) (amF_cons (mono_V _) (amF_cons (mono_el _ _ _) (amF_cons (mono_el _ _ _) (amF_cons (mono_V _) (amF_cons (mono_V _) (amF_cons (mono_V _) (amF_cons (mono_V _) amF_nil)))))))))))))))))))))))))))) hst ?_ (fun f w_ H52 hS52 hE52 hT52 hst=>?_)
 refine opsS_cons (fun f w_ _ _ s _ _ hst=>fA 1 fa_85_1 ((s 4 rfl).trans rfl) rfl (nO rfl rfl hst)) (opsS_cons (fun f w_ _ _ _ _ p hst=>ldB 0 hst Tryz.isAgg3 (p 0 17 rfl rfl) rfl rfl (nO rfl rfl hst)) (opsS_cons ?_ ?_))
 intro f w_ H52 X52 hS52 hE52 hP52 hst
 obtain ⟨H293b,l294,s295,z296,k297⟩:=hst.borrow
 refine L_call rfl Tryz.call57 (ops1 (hP52 1 18 rfl rfl)) (s_l1Lit_c (n_:=x_8.lit) s295 hx29) ?_
 rintro _ w298 ⟨rfl,hst⟩
 have hst:=k297 hst c0
 exact L_nil ⟨rfl,_,_,rfl,Le.refl _,fun _ _=>rfl,hst⟩
 refine opsS_cons (fun f w_ _ _ _ _ p hst=>L_not_ rfl (p 2 19 rfl rfl) (nO rfl rfl hst)) (opsS_cons (fun f w_ _ _ _ _ p hst=>mF (p 3 20 rfl rfl) rfl (nO rfl rfl hst)) (opsS_cons (fun f w_ _ _ s _ p hst=>L_fa (o':=0) (g_yes rfl (Eq.trans (p 4 21 rfl rfl) (congrArg Value.bool hc56)) rfl) fa_85_0 ((s 4 rfl).trans rfl) rfl (nO rfl rfl hst)) (opsS_cons (fun f w_ _ _ _ _ p hst=>L_ld (v:=I x_8.coef) (g_yes rfl (Eq.trans (p 4 21 rfl rfl) (congrArg Value.bool hc56)) rfl) Tryz.isAgg3 (p 5 22 rfl rfl) (At.cell0 (Blk.at (Star.blkAt 0 hst rfl)) (j:=0) rfl) (nO rfl rfl hst)) (opsS_cons (fun f w_ _ _ _ _ p hst=>L_lss (g_yes rfl (Eq.trans (p 4 21 rfl rfl) (congrArg Value.bool hc56)) rfl) (p 6 23 rfl rfl) rfl (nO rfl rfl hst)) (opsS_cons (fun f w_ _ _ _ _ p hst=>pkT (v:=Bo ((!x29) || (decide (x_8.coef < 1)))) (p 4 21 rfl rfl) hc56 rfl (or_f hc56 (p 7 24 rfl rfl)) (nO rfl rfl hst)) (opsS_cons (fun f w_ _ _ _ _ p hst=>mF (p 8 25 rfl rfl) rfl (nO rfl rfl hst)) (opsS_cons (fun f w_ _ _ s _ p hst=>L_fa (o':=0) (g_yes rfl (Eq.trans (p 9 26 rfl rfl) (congrArg Value.bool hc194)) rfl) fa_85_0 ((s 4 rfl).trans rfl) rfl (nO rfl rfl hst)) (opsS_cons (fun f w_ _ _ _ _ p hst=>L_ld (v:=I x_8.coef) (g_yes rfl (Eq.trans (p 9 26 rfl rfl) (congrArg Value.bool hc194)) rfl) Tryz.isAgg3 (p 10 27 rfl rfl) (At.cell0 (Blk.at (Star.blkAt 0 hst rfl)) (j:=0) rfl) (nO rfl rfl hst)) (opsS_cons (fun f w_ _ _ _ _ p hst=>L_gtr (g_yes rfl (Eq.trans (p 9 26 rfl rfl) (congrArg Value.bool hc194)) rfl) (p 11 28 rfl rfl) rfl (nO rfl rfl hst)) (opsS_cons (fun f w_ _ _ _ _ p hst=>pkT (v:=Bo (((!x29) || (decide (x_8.coef < 1))) || (decide (x_8.coef > 1000)))) (p 9 26 rfl rfl) hc194 rfl (or_f hc194 (p 12 29 rfl rfl)) (nO rfl rfl hst)) (opsS_cons (fun f w_ _ _ _ _ p hst=>mF (p 13 30 rfl rfl) rfl (nO rfl rfl hst)) (opsS_cons (fun f w_ _ _ s _ p hst=>L_mv (v:=I i_5) (g_yes rfl (Eq.trans (p 14 31 rfl rfl) (congrArg Value.bool hc263)) rfl) ((s 3 rfl).trans sf3) (nO rfl rfl hst)) (opsS_cons (fun f w_ _ _ _ _ p hst=>L_gtr (g_yes rfl (Eq.trans (p 14 31 rfl rfl) (congrArg Value.bool hc263)) rfl) (p 15 32 rfl rfl) rfl (nO rfl rfl hst)) (opsS_cons (fun f w_ _ _ _ _ p hst=>L_mv (v:=Bo (decide ((i_5 : Int) > 0))) (g_yes rfl (Eq.trans (p 14 31 rfl rfl) (congrArg Value.bool hc263)) rfl) (p 16 33 rfl rfl) (nO rfl rfl hst)) (opsS_cons (fun f w_ _ _ s _ p hst=>L_fa (o':=0) (g_yes rfl (Eq.trans (p 17 34 rfl rfl) (congrArg Value.bool hc276)) rfl) fa_46_0 ((s 1 rfl).trans sf1) rfl (nO rfl rfl hst)) (opsS_cons (fun f w_ _ _ _ _ p hst=>L_ld (v:=v0_0) (g_yes rfl (Eq.trans (p 17 34 rfl rfl) (congrArg Value.bool hc276)) rfl) Tryz.isAgg44 (p 18 35 rfl rfl) (At.cell0 (Blk.at (Star.blkAt 1 hst rfl)) (j:=0) rfl) (nO rfl rfl hst)) (opsS_cons (fun f w_ _ _ s _ p hst=>L_mv (v:=I i_5) (g_yes rfl (Eq.trans (p 17 34 rfl rfl) (congrArg Value.bool hc276)) rfl) ((s 3 rfl).trans sf3) (nO rfl rfl hst)) (opsS_cons (fun f w_ _ _ _ _ p hst=>L_sub (g_yes rfl (Eq.trans (p 17 34 rfl rfl) (congrArg Value.bool hc276)) rfl) (p 20 37 rfl rfl) rfl (nO rfl rfl hst)) (opsS_cons ?_ ?_)))))))))))))))))))
 intro f w_ H52 X52 hS52 hE52 hP52 hst
 refine L_ix (r:=rTerm) (g_yes rfl (Eq.trans (hP52 17 34 rfl rfl) (congrArg Value.bool hc276)) rfl) Tryz.underlying44 Tryz.sizeOf85 (hP52 19 36 rfl rfl) (RP.mono _ h0_0 (Le.trans l7 hE52)) (hP52 21 38 rfl rfl) hx31 (fun g299 o300 cs_g299 hrk_hat301 hat301=>?_)
 obtain rfl:=rTerm_iff.1 hrk_hat301
 exact L_nil ⟨rfl,_,_,rfl,Le.refl _,fun _ _=>⟨_,_,_,rfl,hrk_hat301,hat301⟩,hst⟩
 refine opsS_cons ?_ ?_
 intro f w_ H52 X52 hS52 hE52 hP52 hst
 obtain ⟨g303,o303,cs303,hv303,hrk_hat303,hat303⟩:=(hP52 22 39 rfl rfl)
 obtain rfl:=rTerm_iff.1 hrk_hat303
 refine L_fa (o':=o303 + 1) (g_yes rfl (Eq.trans (hP52 17 34 rfl rfl) (congrArg Value.bool hc276)) rfl) fa_85_1 hv303 rfl (L_nil ⟨rfl,_,_,rfl,Le.refl _,fun _ _=>⟨_,_,_,rfl,hrk_hat303,hat303⟩,hst⟩)
 refine opsS_cons ?_ ?_
 intro f w_ H52 X52 hS52 hE52 hP52 hst
 obtain ⟨g305,o305,cs305,hv305,hrk_hat305,hat305⟩:=(hP52 23 40 rfl rfl)
 obtain rfl:=rTerm_iff.1 hrk_hat305
 refine L_ld (v:=I x31.lit) (g_yes rfl (Eq.trans (hP52 17 34 rfl rfl) (congrArg Value.bool hc276)) rfl) Tryz.isAgg3 hv305 (At.cell (AtH.at hat305 hst.sub) (j:=1) rfl) (L_nil ⟨rfl,_,_,rfl,Le.refl _,fun _ _=>rfl,hst⟩)
 refine opsS_cons ?_ ?_
 intro f w_ H52 X52 hS52 hE52 hP52 hst
 obtain ⟨H307b,l308,s309,z310,k311⟩:=hst.borrow
 refine L_call (g_yes rfl (Eq.trans (hP52 17 34 rfl rfl) (congrArg Value.bool hc276)) rfl) Tryz.call58 (ops1 (hP52 24 41 rfl rfl)) (s_l1Abs_c (n_:=x31.lit) s309 hx41) ?_
 rintro _ w312 ⟨rfl,hst⟩
 have hst:=k311 hst c0
 exact L_nil ⟨rfl,_,_,rfl,Le.refl _,fun _ _=>rfl,hst⟩
 refine opsS_cons (fun f w_ _ _ s _ p hst=>L_fa (o':=1) (g_yes rfl (Eq.trans (p 17 34 rfl rfl) (congrArg Value.bool hc276)) rfl) fa_85_1 ((s 4 rfl).trans rfl) rfl (nO rfl rfl hst)) (opsS_cons (fun f w_ _ _ _ _ p hst=>L_ld (v:=I x_8.lit) (g_yes rfl (Eq.trans (p 17 34 rfl rfl) (congrArg Value.bool hc276)) rfl) Tryz.isAgg3 (p 26 43 rfl rfl) (At.cell0 (Blk.at (Star.blkAt 0 hst rfl)) (j:=1) rfl) (nO rfl rfl hst)) (opsS_nil))
 obtain ⟨H313b,l314,s315,z316,k317⟩:=hst.borrow
 refine L_call (g_yes rfl (Eq.trans (hT52 17 34 rfl rfl) (congrArg Value.bool hc276)) rfl) Tryz.call58 (ops1 (hT52 27 44 rfl rfl)) (s_l1Abs_c (n_:=x_8.lit) s315 hx48) ?_
 rintro _ w318 ⟨rfl,hst⟩
 have hst:=k317 hst c0
 refine L_geq (g_yes rfl (Eq.trans (hT52 17 34 rfl rfl) (congrArg Value.bool hc276)) rfl) (hT52 25 42 rfl rfl) rfl (L_pick (v:=Bo b50) (g_yes rfl (Eq.trans (hT52 14 31 rfl rfl) (congrArg Value.bool hc263)) rfl) (Eq.trans (hT52 17 34 rfl rfl) (congrArg Value.bool hc276)) (congrArg Value.bool (so hb50)) (L_pick (v:=Bo b51) rfl (Eq.trans (hT52 14 31 rfl rfl) (congrArg Value.bool hc263)) (congrArg Value.bool (so hb51)) (nn ?_)))
 have hst:=hst.get 1 rfl
 exact rj hR55 ⟨H52,hE52,((hS52 1 rfl).trans sf1),((hS52 3 rfl).trans sf3),rfl,(Star.keepN 1 hst)⟩
 rw [ite_f hc276] at hb50
 refine W_drawS 28 [isV (Pq g21 1),isV (I x_8.lit),isV (Bo x29),isV (Bo (!x29)),isV (Bo (!x29)),isV (Pt g21),isV (I x_8.coef),isV (Bo (decide (x_8.coef < 1))),isV (Bo ((!x29) || (decide (x_8.coef < 1)))),isV (Bo ((!x29) || (decide (x_8.coef < 1)))),isV (Pt g21),isV (I x_8.coef),isV (Bo (decide (x_8.coef > 1000))),isV (Bo (((!x29) || (decide (x_8.coef < 1))) || (decide (x_8.coef > 1000)))),isV (Bo (((!x29) || (decide (x_8.coef < 1))) || (decide (x_8.coef > 1000)))),isV (I i_5),isV (Bo (decide ((i_5 : Int) > 0))),isV (Bo (decide ((i_5 : Int) > 0))),isV (undef),isV (undef),isV (undef),isV (undef),isV (undef),isV (undef),isV (undef),isV (undef),isV (undef),isV (undef)] [box g21 85 #[I x_8.coef,I x_8.lit],box g3 46 #[v0_0,I c.bound]] [] ([]) [([],[]),([],[]),([],[]),([],[]),([],[]),([],[]),([],[]),([],[]),([],[]),([],[]),([],[]),([],[]),([],[]),([],[]),([],[]),([],[]),([],[]),([],[]),([],[]),([],[]),([],[]),([],[]),([],[]),([],[]),([],[]),([],[]),([],[]),([],[])] (S:=[]) Tryz_mix (by kernel_rfl) rfl (by kernel_rfl) (amF_cons (mono_V _) (amF_cons (mono_V _) (amF_cons (mono_V _) (amF_cons (mono_V _) (amF_cons (mono_V _) (amF_cons (mono_V _) (amF_cons (mono_V _) (amF_cons (mono_V _) (amF_cons (mono_V _) (amF_cons (mono_V _) (amF_cons (mono_V _) (amF_cons (mono_V _) (amF_cons (mono_V _) (amF_cons (mono_V _) (amF_cons (mono_V _) (amF_cons (mono_V _) (amF_cons (mono_V _) (amF_cons (mono_V _) (amF_cons (mono_V _) (amF_cons (mono_V _) (amF_cons (mono_V _) (amF_cons (mono_V _) (amF_cons (mono_V _) (amF_cons (mono_V _) (amF_cons (mono_V _) (amF_cons (mono_V _) (amF_cons (mono_V _) (amF_cons (mono_V _) amF_nil)))))))))))))))))))))))))))) hst ?_ (fun f w_ H52 hS52 hE52 hT52 hst=>?_)
 refine opsS_cons (fun f w_ _ _ s _ _ hst=>fA 1 fa_85_1 ((s 4 rfl).trans rfl) rfl (nO rfl rfl hst)) (opsS_cons (fun f w_ _ _ _ _ p hst=>ldB 0 hst Tryz.isAgg3 (p 0 17 rfl rfl) rfl rfl (nO rfl rfl hst)) (opsS_cons ?_ ?_))
 intro f w_ H52 X52 hS52 hE52 hP52 hst
 obtain ⟨H325b,l326,s327,z328,k329⟩:=hst.borrow
 refine L_call rfl Tryz.call57 (ops1 (hP52 1 18 rfl rfl)) (s_l1Lit_c (n_:=x_8.lit) s327 hx29) ?_
 rintro _ w330 ⟨rfl,hst⟩
 have hst:=k329 hst c0
 exact L_nil ⟨rfl,_,_,rfl,Le.refl _,fun _ _=>rfl,hst⟩
 refine opsS_cons (fun f w_ _ _ _ _ p hst=>L_not_ rfl (p 2 19 rfl rfl) (nO rfl rfl hst)) (opsS_cons (fun f w_ _ _ _ _ p hst=>mF (p 3 20 rfl rfl) rfl (nO rfl rfl hst)) (opsS_cons (fun f w_ _ _ s _ p hst=>L_fa (o':=0) (g_yes rfl (Eq.trans (p 4 21 rfl rfl) (congrArg Value.bool hc56)) rfl) fa_85_0 ((s 4 rfl).trans rfl) rfl (nO rfl rfl hst)) (opsS_cons (fun f w_ _ _ _ _ p hst=>L_ld (v:=I x_8.coef) (g_yes rfl (Eq.trans (p 4 21 rfl rfl) (congrArg Value.bool hc56)) rfl) Tryz.isAgg3 (p 5 22 rfl rfl) (At.cell0 (Blk.at (Star.blkAt 0 hst rfl)) (j:=0) rfl) (nO rfl rfl hst)) (opsS_cons (fun f w_ _ _ _ _ p hst=>L_lss (g_yes rfl (Eq.trans (p 4 21 rfl rfl) (congrArg Value.bool hc56)) rfl) (p 6 23 rfl rfl) rfl (nO rfl rfl hst)) (opsS_cons (fun f w_ _ _ _ _ p hst=>pkT (v:=Bo ((!x29) || (decide (x_8.coef < 1)))) (p 4 21 rfl rfl) hc56 rfl (or_f hc56 (p 7 24 rfl rfl)) (nO rfl rfl hst)) (opsS_cons (fun f w_ _ _ _ _ p hst=>mF (p 8 25 rfl rfl) rfl (nO rfl rfl hst)) (opsS_cons (fun f w_ _ _ s _ p hst=>L_fa (o':=0) (g_yes rfl (Eq.trans (p 9 26 rfl rfl) (congrArg Value.bool hc194)) rfl) fa_85_0 ((s 4 rfl).trans rfl) rfl (nO rfl rfl hst)) (opsS_cons (fun f w_ _ _ _ _ p hst=>L_ld (v:=I x_8.coef) (g_yes rfl (Eq.trans (p 9 26 rfl rfl) (congrArg Value.bool hc194)) rfl) Tryz.isAgg3 (p 10 27 rfl rfl) (At.cell0 (Blk.at (Star.blkAt 0 hst rfl)) (j:=0) rfl) (nO rfl rfl hst)) (opsS_cons (fun f w_ _ _ _ _ p hst=>L_gtr (g_yes rfl (Eq.trans (p 9 26 rfl rfl) (congrArg Value.bool hc194)) rfl) (p 11 28 rfl rfl) rfl (nO rfl rfl hst)) (opsS_cons (fun f w_ _ _ _ _ p hst=>pkT (v:=Bo (((!x29) || (decide (x_8.coef < 1))) || (decide (x_8.coef > 1000)))) (p 9 26 rfl rfl) hc194 rfl (or_f hc194 (p 12 29 rfl rfl)) (nO rfl rfl hst)) (opsS_cons (fun f w_ _ _ _ _ p hst=>mF (p 13 30 rfl rfl) rfl (nO rfl rfl hst)) (opsS_cons (fun f w_ _ _ s _ p hst=>L_mv (v:=I i_5) (g_yes rfl (Eq.trans (p 14 31 rfl rfl) (congrArg Value.bool hc263)) rfl) ((s 3 rfl).trans sf3) (nO rfl rfl hst)) (opsS_cons (fun f w_ _ _ _ _ p hst=>L_gtr (g_yes rfl (Eq.trans (p 14 31 rfl rfl) (congrArg Value.bool hc263)) rfl) (p 15 32 rfl rfl) rfl (nO rfl rfl hst)) (opsS_cons (fun f w_ _ _ _ _ p hst=>L_mv (v:=Bo (decide ((i_5 : Int) > 0))) (g_yes rfl (Eq.trans (p 14 31 rfl rfl) (congrArg Value.bool hc263)) rfl) (p 16 33 rfl rfl) (nO rfl rfl hst)) (oP (fun _ _ p=>gN (p 17 34 rfl rfl) hc276 rfl) (fun _=>rfl) (oP (fun _ _ p=>gN (p 17 34 rfl rfl) hc276 rfl) (fun _=>rfl) (oP (fun _ _ p=>gN (p 17 34 rfl rfl) hc276 rfl) (fun _=>rfl) (oP (fun _ _ p=>gN (p 17 34 rfl rfl) hc276 rfl) (fun _=>rfl) (oP (fun _ _ p=>gN (p 17 34 rfl rfl) hc276 rfl) (fun _=>rfl) (oP (fun _ _ p=>gN (p 17 34 rfl rfl) hc276 rfl) (fun _=>rfl) (oP (fun _ _ p=>gN (p 17 34 rfl rfl) hc276 rfl) (fun _=>rfl) (oP (fun _ _ p=>gN (p 17 34 rfl rfl) hc276 rfl) (fun _=>rfl) (oP (fun _ _ p=>gN (p 17 34 rfl rfl) hc276 rfl) (fun _=>rfl) (oP (fun _ _ p=>gN (p 17 34 rfl rfl) hc276 rfl) (fun _=>rfl) (opsS_nil)))))))))))))))))))))))))
 refine ps (g_no rfl (Eq.trans (hT52 17 34 rfl rfl) (congrArg Value.bool hc276)) rfl rfl) (ps (g_no rfl (Eq.trans (hT52 17 34 rfl rfl) (congrArg Value.bool hc276)) rfl rfl) (L_pick (v:=Bo b50) (g_yes rfl (Eq.trans (hT52 14 31 rfl rfl) (congrArg Value.bool hc263)) rfl) (Eq.trans (hT52 17 34 rfl rfl) (congrArg Value.bool hc276)) (congrArg Value.bool (so hb50)) (L_pick (v:=Bo b51) rfl (Eq.trans (hT52 14 31 rfl rfl) (congrArg Value.bool hc263)) (congrArg Value.bool (so hb51)) (nn ?_))))
 have hst:=hst.get 1 rfl
 exact rj hR55 ⟨H52,hE52,((hS52 1 rfl).trans sf1),((hS52 3 rfl).trans sf3),rfl,(Star.keepN 1 hst)⟩
 intro f w_ hR
 obtain ⟨H53,l54,sf1,sf3,sf48,hst⟩:=rk hR55 hR
 refine W_cond (b:=b51) sf48 (fun hc331=>?_) (fun hc331=>?_)
 have hB8:=(ite_t hc331).symm.trans hB8
 refine sq (aB rfl (nn (W_ret (retG1 (v1:=Bo false) Tryz.results40 rfl ?_))))
 obtain rfl:=so hB8
 obtain rfl:=so hL8
 obtain rfl:=so hF
 exact ⟨rfl,(Star.down (Star.keepN 0 hst) (Le.trans l7 l54) c0)⟩
 have hB8:=(ite_f hc331).symm.trans hB8
 refine W_skip (W_region (mF sf3 rfl (L_add rfl rfl rfl (aI rfl (nn ?_)))))
 obtain rfl:=so hB8
 show ∃ m,m < _∧I8 m _ _
 refine ⟨rest8.length,by simp,?_⟩
 exact ij hI8 ⟨i_5 + 1,rest8,H53,rfl,drop_next hd8,by simp at hl8; omega,hL8,(Le.trans l7 l54),sf1,(Eq.trans rfl (congrArg (Value.int .i64) (i64_succ (n:=c.terms.length) (by simp at hl8; omega) hlen8))),hst⟩
 rcases suf8 with _ | ⟨_,_⟩
 obtain rfl:=range_nil hL8
 refine W_exit (rj hR8 ⟨H6,rfl,l7,sf1,hst⟩)
 exact absurd (of_decide_eq_false hc9) (by simp at hl8; omega)
 intro f w_ hR
 obtain ⟨H6,rfl,l7,sf1,hst⟩:=rk hR8 hR
 refine W_seq ?_
 obtain ⟨R332,hR332⟩:=exR fun f w_=>f 2 = Bo ((decide (c.bound ≥ 0)) && (decide (c.bound≤20000)))∧Star H6 w_ ([])
 refine W_join R332 ?_ ?_
 refine W_region (fA 1 fa_46_1 sf1 rfl (ldB 0 hst Tryz.isAgg3 rfl rfl rfl (L_geq rfl rfl rfl (mB rfl (L_split (d:=52) (b:=decide (c.bound ≥ 0)) rfl (fun hc333=>?_) (fun hc333=>?_))))))
 refine fA 1 fa_46_1 sf1 rfl (ldB 0 hst Tryz.isAgg3 rfl rfl rfl (L_leq rfl rfl rfl (L_pick (v:=Bo ((decide (c.bound ≥ 0)) && (decide (c.bound≤20000)))) rfl rfl (and_t hc333 rfl) (aB rfl (nn (rj hR332 ⟨rfl,(Star.keepN 0 hst)⟩))))))
 refine ps rfl (ps rfl (ps rfl (L_pick (v:=Bo ((decide (c.bound ≥ 0)) && (decide (c.bound≤20000)))) rfl rfl (and_f hc333) (aB rfl (nn (rj hR332 ⟨rfl,(Star.keepN 0 hst)⟩))))))
 intro f w_ hR
 obtain ⟨sf2,hst⟩:=rk hR332 hR
 refine W_ret (retG1 (v1:=Bo ((decide (c.bound ≥ 0)) && (decide (c.bound≤20000)))) Tryz.results40 sf2 ?_)
 obtain rfl:=so hF
 exact ⟨rfl,(Star.down hst l7 c0)⟩
theorem s_ProblemValid_c {list : List Con} {v0 : Value} {H : FH} {w : World} (hst : Star H w []) (h0 : (rS 46 (rCon 85)).rel H [v0] list) {r : Bool} (hF : s_ProblemValid list = some r) :
 C Tryz.prog 19 #[v0] w fun v w'=>v = Bo r∧Star H w' []:=by
 unfold s_ProblemValid at hF
 refine C_enter Tryz.func19 rfl Tryz.ntmps19 rfl (sq (aB rfl (nq (sq (aI rfl (nn ?_))))))
 have hlen2 : List.length list≤9223372036854775807:=len_le (slice_len h0)
 obtain ⟨j2,hL2,hF⟩:=bind_some hF
 obtain ⟨R2,hR2⟩:=exR fun f w_=>j2 = .nx ()∧f 0 = v0∧Star H w_ ([])
 refine W_join R2 ?_ ?_
 refine W_block ?_
 obtain ⟨I2,hI2⟩:=exI fun n f w_=>∃ i_1 : Nat,∃ suf2 : List Con,n = suf2.length∧List.drop i_1 list = suf2∧i_1 + suf2.length = list.length∧rangeL s_ProblemValid_b1 suf2 i_1 () = some j2∧f 0 = v0∧f 3 = I i_1∧Star H w_ ([])
 refine W_loop I2 (n:=list.length) ?_ ?_
 exact ij hI2 ⟨0,list,rfl,rfl,Nat.zero_add _,hL2,rfl,rfl,hst⟩
 intro n2 f w_ hI
 obtain ⟨i_1,suf2,rfl,hd2,hl2,hL2,sf0,sf3,hst⟩:=ik hI2 hI
 refine W_seq (sq (mF sf3 rfl (mF sf0 rfl (L_len rfl Tryz.underlying23 rfl (slice_len h0) (L_lss rfl rfl rfl (nn (W_cond (b:=decide ((i_1 : Int) < (list.length : Int))) rfl (fun hc3=>?_) (fun hc3=>?_))))))))
 have hlt2:=of_decide_eq_true hc3
 rcases suf2 with _ | ⟨x_2,rest2⟩
 exact absurd hlt2 (by simp at hl2; omega)
 obtain ⟨o2,hB2,hL2⟩:=range_cons hL2
 rw [s_ProblemValid_b1] at hB2
 have hix2:=drop_idx hd2
 refine W_skip (W_seq (W_block (W_seq ?_)))
 obtain ⟨x13,hx13,hB2⟩:=bind_some hB2
 refine W_region (mF sf0 rfl (mF sf3 rfl (L_ix (r:=(rCon 85)) rfl Tryz.underlying23 Tryz.sizeOf46 rfl h0 rfl hix2 (fun g15 o16 cs_g15 hrk_hat17 hat17=>?_))))
 obtain ⟨u18_0,rfl,hu18_0⟩:=rCon_iff.1 hrk_hat17
 refine L_lda (cs:=[u18_0,I x_2.bound]) rfl Tryz.isAgg46 Tryz.sizeOf46 rfl (At.sub (AtH.at hat17 hst.sub) 0 2) rfl ?_
 obtain ⟨H19b,l20,s21,z22,k23⟩:=hst.borrow
 refine L_call rfl Tryz.call40 (ops1 rfl) (s_ConstraintValid_c (c:=x_2) s21 (RP.mono _ hu18_0 l20) hx13) ?_
 rintro _ w24 ⟨rfl,hst⟩
 have hst:=k23 hst c0
 refine L_not_ rfl rfl (nn (W_cond (b:=(!x13)) rfl (fun hc25=>?_) (fun hc25=>?_)))
 have hB2:=(ite_t hc25).symm.trans hB2
 refine sq (aB rfl (nn (W_ret (retG1 (v1:=Bo false) Tryz.results19 rfl ?_))))
 obtain rfl:=so hB2
 obtain rfl:=so hL2
 obtain rfl:=so hF
 exact ⟨rfl,hst⟩
 have hB2:=(ite_f hc25).symm.trans hB2
 refine W_skip (W_region (mF sf3 rfl (L_add rfl rfl rfl (aI rfl (nn ?_)))))
 obtain rfl:=so hB2
 show ∃ m,m < _∧I2 m _ _
 refine ⟨rest2.length,by simp,?_⟩
 exact ij hI2 ⟨i_1 + 1,rest2,rfl,drop_next hd2,by simp at hl2; omega,hL2,sf0,(Eq.trans rfl (congrArg (Value.int .i64) (i64_succ (n:=list.length) (by simp at hl2; omega) hlen2))),hst⟩
 rcases suf2 with _ | ⟨_,_⟩
 obtain rfl:=range_nil hL2
 refine W_exit (rj hR2 ⟨rfl,sf0,hst⟩)
 exact absurd (of_decide_eq_false hc3) (by simp at hl2; omega)
 intro f w_ hR
 obtain ⟨rfl,sf0,hst⟩:=rk hR2 hR
 refine sq (mF sf0 rfl (L_len rfl Tryz.underlying23 rfl (slice_len h0) (L_leq rfl rfl rfl (aB rfl (nn (W_ret (retG1 (v1:=Bo (decide ((list.length : Int)≤400))) Tryz.results19 rfl ?_)))))))
 obtain rfl:=so hF
 exact ⟨rfl,hst⟩
theorem s_l3Assign_c {p : List Int} {lit : Int} {v0 : Value} {H : FH} {w : World} (hst : Star H w [oF 3 RP.int v0 p]) {r : List Int} (hF : s_l3Assign p lit = some r) :
 C Tryz.prog 41 #[v0,I lit] w fun v w'=>v = .tuple #[]∧Star H w' [oF 3 RP.int v0 r]:=by
 unfold s_l3Assign at hF
 refine C_enter Tryz.func41 rfl Tryz.ntmps41 rfl (sq (mI rfl (L_gtr rfl rfl rfl (nn ?_))))
 obtain ⟨kp_1,hA2,hF⟩:=bind_some hF
 obtain ⟨R2,hR2⟩:=exR fun f w_=>Star H w_ ([oF 3 RP.int v0 kp_1])
 refine W_join R2 ?_ ?_
 refine W_cond (b:=decide (lit > 0)) rfl (fun hc3=>?_) (fun hc3=>?_)
 have hA2:=(ite_t hc3).symm.trans hA2
 obtain ⟨x4,hx4,hA2⟩:=bind_some hA2
 refine W_region (mV v0 rfl (mI rfl (L_sub rfl rfl rfl ?_)))
 obtain ⟨g8,cap_g8,hv9,_,_⟩:=Star.row 0 hst rfl hx4
 refine L_ixO (R:=(OR.frz RP.int)) (tb:=0) 0 rfl Tryz.underlying69 Tryz.sizeOf3 rfl hv9 (by first | rfl | simp) rfl hx4 ?_
 have hst:=Star.addF (r:=RP.int) (cs:=[I 1]) (x:=1) hst rfl
 refine L_stE1 (u:=I 1) rfl Tryz.sizeOf3 rfl rfl rfl hv9 hst hx4 (fun w10 hst=>nn ?_)
 obtain rfl:=so hA2
 exact rj hR2 hst
 have hA2:=(ite_f hc3).symm.trans hA2
 obtain ⟨x11,hx11,hA2⟩:=bind_some hA2
 refine W_region (mV v0 rfl (mI rfl (L_neg rfl rfl (L_sub rfl rfl rfl ?_))))
 obtain ⟨g15,cap_g15,hv16,_,_⟩:=Star.row 0 hst rfl hx11
 refine L_ixO (R:=(OR.frz RP.int)) (tb:=0) 0 rfl Tryz.underlying69 Tryz.sizeOf3 rfl hv16 (by first | rfl | simp) rfl hx11 ?_
 have hst:=Star.addF (r:=RP.int) (cs:=[I (-1)]) (x:=(-1)) hst rfl
 refine L_stE1 (u:=I (-1)) rfl Tryz.sizeOf3 rfl rfl rfl hv16 hst hx11 (fun w17 hst=>nn ?_)
 obtain rfl:=so hA2
 exact rj hR2 hst
 intro f w_ hR
 rw [hR2] at hR
 have hst:=hR
 clear hR2
 refine ret0 Tryz.results41 ?_
 obtain rfl:=so hF
 exact ⟨rfl,hst⟩
theorem s_l3State_c {p : List Int} {lit : Int} {v0 : Value} {H : FH} {w : World} (hst : Star H w []) (h0 : (rS 3 RP.int).rel H [v0] p) {r : Int} (hF : s_l3State p lit = some r) :
 C Tryz.prog 73 #[v0,I lit] w fun v w'=>v = I r∧Star H w' []:=by
 unfold s_l3State at hF
 refine C_enter Tryz.func73 rfl Tryz.ntmps73 rfl (sq (aI rfl (nq (sq (mI rfl (L_gtr rfl rfl rfl (nn (W_cond (b:=decide (lit > 0)) rfl (fun hc1=>?_) (fun hc1=>?_)))))))))
 have hF:=(ite_t hc1).symm.trans hF
 refine W_seq ?_
 obtain ⟨x2,hx2,hF⟩:=bind_some hF
 refine W_region (mV v0 rfl (mI rfl (L_sub rfl rfl rfl (L_ix (r:=RP.int) rfl Tryz.underlying69 Tryz.sizeOf3 rfl h0 rfl hx2 (fun g7 o8 cs_g7 hrk_hat9 hat9=>?_)))))
 obtain rfl : _ = [_]:=hrk_hat9
 refine L_ld rfl Tryz.isAgg3 rfl (At.cell (AtH.at hat9 hst.sub) (j:=0) rfl) (aI rfl (nn (W_ret (retG1 (v1:=I x2) Tryz.results73 rfl ?_))))
 obtain rfl:=so hF
 exact ⟨rfl,hst⟩
 have hF:=(ite_f hc1).symm.trans hF
 refine W_skip (W_seq ?_)
 obtain ⟨x11,hx11,hF⟩:=bind_some hF
 refine W_region (mV v0 rfl (mI rfl (L_neg rfl rfl (L_sub rfl rfl rfl (L_ix (r:=RP.int) rfl Tryz.underlying69 Tryz.sizeOf3 rfl h0 rfl hx11 (fun g16 o17 cs_g16 hrk_hat18 hat18=>?_))))))
 obtain rfl : _ = [_]:=hrk_hat18
 refine L_ld rfl Tryz.isAgg3 rfl (At.cell (AtH.at hat18 hst.sub) (j:=0) rfl) (L_neg rfl rfl (aI rfl (nn (W_ret (retG1 (v1:=I (i64 (-x11))) Tryz.results73 rfl ?_)))))
 obtain rfl:=so hF
 exact ⟨rfl,hst⟩
theorem s_l3Slack_c {c : Con} {p : List Int} {v0_0 : Value} {v1 : Value} {H : FH} {w : World} (hst : Star H w []) (h0_0 : (rS 85 rTerm).rel H [v0_0] c.terms) (h1 : (rS 3 RP.int).rel H [v1] p) {r : Int} (hF : s_l3Slack c p = some r) :
 C Tryz.prog 59 #[.agg #[v0_0,I c.bound],v1] w fun v w'=>v = I r∧Star H w' []:=by
 unfold s_l3Slack at hF
 refine C_enter Tryz.func59 rfl Tryz.ntmps59 rfl (sq (L_box (v:=.agg #[v0_0,I c.bound]) (cs:=#[v0_0,I c.bound]) rfl rfl rfl hst (fun g3 w4 hst=>aI rfl (ns (fA 1 fa_46_1 rfl rfl (ldB 0 hst Tryz.isAgg3 rfl rfl rfl (L_neg rfl rfl (aI rfl (nq (sq (aI rfl (nn ?_))))))))))))
 have hlen7 : List.length c.terms≤9223372036854775807:=len_le (slice_len h0_0)
 obtain ⟨j7,hL7,hF⟩:=bind_some hF
 obtain ⟨R7,hR7⟩:=exR fun f w_=>∃ n_6 : Int,j7 = .nx n_6∧f 5 = I n_6∧Star H w_ ([])
 refine W_join R7 ?_ ?_
 refine W_block ?_
 obtain ⟨I7,hI7⟩:=exI fun n f w_=>∃ i_5 : Nat,∃ suf7 : List Term,∃ n_6 : Int,n = suf7.length∧List.drop i_5 c.terms = suf7∧i_5 + suf7.length = c.terms.length∧rangeL (s_l3Slack_b1 p) suf7 i_5 n_6 = some j7∧f 1 = v1∧f 2 = Pt g3∧f 5 = I n_6∧f 6 = I i_5∧Star H w_ ([box g3 46 #[v0_0,I c.bound]])
 refine W_loop I7 (n:=c.terms.length) ?_ ?_
 exact ij hI7 ⟨0,c.terms,i64 (-c.bound),rfl,rfl,Nat.zero_add _,hL7,rfl,rfl,rfl,rfl,hst⟩
 intro n7 f w_ hI
 obtain ⟨i_5,suf7,n_6,rfl,hd7,hl7,hL7,sf1,sf2,sf5,sf6,hst⟩:=ik hI7 hI
 refine W_seq (sq (mF sf6 rfl (fA 0 fa_46_0 sf2 rfl (ldB 0 hst Tryz.isAgg44 rfl rfl rfl (L_len rfl Tryz.underlying44 rfl (slice_len h0_0) (L_lss rfl rfl rfl (nn (W_cond (b:=decide ((i_5 : Int) < (c.terms.length : Int))) rfl (fun hc8=>?_) (fun hc8=>?_)))))))))
 have hlt7:=of_decide_eq_true hc8
 rcases suf7 with _ | ⟨x_7,rest7⟩
 exact absurd hlt7 (by simp at hl7; omega)
 obtain ⟨o7,hB7,hL7⟩:=range_cons hL7
 rw [s_l3Slack_b1] at hB7
 have hix7:=drop_idx hd7
 refine W_skip (W_seq (W_block (W_seq ?_)))
 obtain ⟨x18,hx18,hB7⟩:=bind_some hB7
 refine W_region (mF sf1 rfl (fA 0 fa_46_0 sf2 rfl (ldB 0 hst Tryz.isAgg44 rfl rfl rfl (mF sf6 rfl (L_ix (r:=rTerm) rfl Tryz.underlying44 Tryz.sizeOf85 rfl h0_0 rfl hix7 (fun g20 o21 cs_g20 hrk_hat22 hat22=>?_))))))
 obtain rfl:=rTerm_iff.1 hrk_hat22
 refine fA (o21 + 1) fa_85_1 rfl rfl (L_ld rfl Tryz.isAgg3 rfl (At.cell (AtH.at hat22 hst.sub) (j:=1) rfl) ?_)
 obtain ⟨H24b,l25,s26,z27,k28⟩:=hst.borrow
 refine L_call rfl Tryz.call73 (ops2 rfl rfl) (s_l3State_c (p:=p) (lit:=x_7.lit) s26 (RP.mono _ h1 l25) hx18) ?_
 rintro _ w29 ⟨rfl,hst⟩
 have hst:=k28 hst c0
 refine L_geq rfl rfl rfl (nn ?_)
 obtain ⟨n_30,hA31,hB7⟩:=bind_some hB7
 obtain ⟨R31,hR31⟩:=exR fun f w_=>f 1 = v1∧f 2 = Pt g3∧f 5 = I n_30∧f 6 = I i_5∧Star H w_ ([box g3 46 #[v0_0,I c.bound]])
 refine W_join R31 ?_ ?_
 refine W_cond (b:=decide (x18 ≥ 0)) rfl (fun hc32=>?_) (fun hc32=>?_)
 have hA31:=(ite_t hc32).symm.trans hA31
 refine W_region (mF sf5 rfl (fA 0 fa_46_0 sf2 rfl (ldB 0 hst Tryz.isAgg44 rfl rfl rfl (mF sf6 rfl (L_ix (r:=rTerm) rfl Tryz.underlying44 Tryz.sizeOf85 rfl h0_0 rfl hix7 (fun g37 o38 cs_g37 hrk_hat39 hat39=>?_))))))
 obtain rfl:=rTerm_iff.1 hrk_hat39
 refine fA o38 fa_85_0 rfl rfl (L_ld rfl Tryz.isAgg3 rfl (At.cell (AtH.at hat39 hst.sub) (j:=0) rfl) (L_add rfl rfl rfl (aI rfl (nn ?_))))
 obtain rfl:=so hA31
 exact rj hR31 ⟨sf1,sf2,rfl,sf6,hst⟩
 have hA31:=(ite_f hc32).symm.trans hA31
 refine W_skip ?_
 obtain rfl:=so hA31
 exact rj hR31 ⟨sf1,sf2,sf5,sf6,hst⟩
 intro f w_ hR
 obtain ⟨sf1,sf2,sf5,sf6,hst⟩:=rk hR31 hR
 refine W_region (mF sf6 rfl (L_add rfl rfl rfl (aI rfl (nn ?_))))
 obtain rfl:=so hB7
 show ∃ m,m < _∧I7 m _ _
 refine ⟨rest7.length,by simp,?_⟩
 exact ij hI7 ⟨i_5 + 1,rest7,n_30,rfl,drop_next hd7,by simp at hl7; omega,hL7,sf1,sf2,sf5,(Eq.trans rfl (congrArg (Value.int .i64) (i64_succ (n:=c.terms.length) (by simp at hl7; omega) hlen7))),hst⟩
 rcases suf7 with _ | ⟨_,_⟩
 obtain rfl:=range_nil hL7
 refine W_exit (rj hR7 ⟨n_6,rfl,sf5,(Star.keepN 0 hst)⟩)
 exact absurd (of_decide_eq_false hc8) (by simp at hl7; omega)
 intro f w_ hR
 obtain ⟨n_6,rfl,sf5,hst⟩:=rk hR7 hR
 refine sq (mF sf5 rfl (aI rfl (nn (W_ret (retG1 (v1:=I n_6) Tryz.results59 rfl ?_)))))
 obtain rfl:=so hF
 exact ⟨rfl,hst⟩
theorem s_l3Implied_c {fu : Nat} {c : Con} {p : List Int} {v0_0 : Value} {v1 : Value} {H : FH} {w : World} (hst : Star H w []) (h0_0 : (rS 85 rTerm).rel H [v0_0] c.terms) (h1 : (rS 3 RP.int).rel H [v1] p) {r : List Int} (hF : s_l3Implied fu c p = some r) :
 C Tryz.prog 60 #[.agg #[v0_0,I c.bound],v1] w fun v w'=>∃ (u1 : Value),v = u1∧Star H w' [oF 3 RP.int u1 r]:=by
 unfold s_l3Implied at hF
 refine C_enter Tryz.func60 rfl Tryz.ntmps60 rfl (sq (L_box (v:=.agg #[v0_0,I c.bound]) (cs:=#[v0_0,I c.bound]) rfl rfl rfl hst (fun g3 w4 hst=>aV S0 rfl (ns (L_bs rfl parts0 (bs_69_0  ) hst (fun g8 w9 hst=>?_))))))
 have hst:=Star.mkRow (R:=(OR.frz RP.int)) [] [] 0 hst rfl rfl rfl (by decide)
 refine aV (Sl g8 0 0) rfl (nq ?_)
 obtain ⟨x16,hx16,hF⟩:=bind_some hF
 refine W_region (L_lda (cs:=[v0_0,I c.bound]) rfl Tryz.isAgg46 Tryz.sizeOf46 rfl (At.sub0 (Blk.at (Star.blkAt 1 hst rfl)) 0 2) rfl (mV v1 rfl ?_))
 obtain ⟨H18b,l19,s20,z21,k22⟩:=hst.borrow
 refine L_call rfl Tryz.call59 (ops2 rfl rfl) (s_l3Slack_c (c:=c) (p:=p) s20 (RP.mono _ h0_0 l19) (RP.mono _ h1 l19) hx16) ?_
 rintro _ w23 ⟨rfl,hst⟩
 have hst:=k22 hst c0
 refine aI rfl (nq (sq (aI rfl (nn ?_))))
 obtain ⟨j30,hL30,hF⟩:=bind_some hF
 obtain ⟨R30,hR30⟩:=exR fun f w_=>∃ out_27 : List Int,∃ i_29 : Int,∃ v27_out : Value,j30 = .nx (out_27,i_29)∧f 5 = v27_out∧Star H w_ ([oF 3 RP.int v27_out out_27])
 refine W_join R30 ?_ ?_
 refine W_block ?_
 obtain ⟨I30,hI30⟩:=exI fun n f w_=>∃ out_27 : List Int,∃ i_29 : Int,∃ v27_out : Value,whileL (s_l3Implied_b1 c p x16) n (out_27,i_29) = some j30∧f 1 = v1∧f 2 = Pt g3∧f 5 = v27_out∧f 6 = I x16∧f 7 = I i_29∧Star H w_ ([oF 3 RP.int v27_out out_27,box g3 46 #[v0_0,I c.bound]])
 refine W_loop I30 (n:=fu) ?_ ?_
 exact ij hI30 ⟨[],0,(Sl g8 0 0),hL30,rfl,rfl,rfl,rfl,rfl,hst⟩
 intro n30 f w_ hI
 obtain ⟨out_27,i_29,v27_out,hL30,sf1,sf2,sf5,sf6,sf7,hst⟩:=ik hI30 hI
 rcases n30 with _ | n30
 exact (while_zero hL30).elim
 obtain ⟨o30,hB30,hL30⟩:=while_succ hL30
 rw [s_l3Implied_b1] at hB30
 refine W_seq (W_seq ?_)
 obtain ⟨R31,hR31⟩:=exR fun f w_=>f 1 = v1∧f 2 = Pt g3∧f 5 = v27_out∧f 6 = I x16∧f 7 = I i_29∧f 20 = Bo ((decide (i_29 < (c.terms.length : Int))) && (decide (x16 ≥ 0)))∧Star H w_ ([oF 3 RP.int v27_out out_27,box g3 46 #[v0_0,I c.bound]])
 refine W_join R31 ?_ ?_
 refine W_region (mF sf7 rfl (fA 0 fa_46_0 sf2 rfl (ldB 1 hst Tryz.isAgg44 rfl rfl rfl (L_len rfl Tryz.underlying44 rfl (slice_len h0_0) (L_lss rfl rfl rfl (mB rfl (L_split (d:=17) (b:=decide (i_29 < (c.terms.length : Int))) rfl (fun hc32=>?_) (fun hc32=>?_))))))))
 refine mF sf6 rfl (L_geq rfl rfl rfl (L_pick (v:=Bo ((decide (i_29 < (c.terms.length : Int))) && (decide (x16 ≥ 0)))) rfl rfl (and_t hc32 rfl) (nn (rj hR31 ⟨sf1,sf2,sf5,sf6,sf7,rfl,hst⟩))))
 refine ps rfl (ps rfl (L_pick (v:=Bo ((decide (i_29 < (c.terms.length : Int))) && (decide (x16 ≥ 0)))) rfl rfl (and_f hc32) (nn (rj hR31 ⟨sf1,sf2,sf5,sf6,sf7,rfl,hst⟩))))
 intro f w_ hR
 obtain ⟨sf1,sf2,sf5,sf6,sf7,sf20,hst⟩:=rk hR31 hR
 refine W_cond (b:=((decide (i_29 < (c.terms.length : Int))) && (decide (x16 ≥ 0)))) sf20 (fun hc33=>?_) (fun hc33=>?_)
 have hB30:=(ite_t hc33).symm.trans hB30
 refine W_skip (W_seq (W_block (W_seq ?_)))
 obtain ⟨x34,hx34,hB30⟩:=bind_some hB30
 obtain ⟨x44,hx44,hB30⟩:=bind_some hB30
 obtain ⟨R50,hR50⟩:=exR fun f w_=>f 1 = v1∧f 2 = Pt g3∧f 5 = v27_out∧f 6 = I x16∧f 7 = I i_29∧f 41 = Bo ((x44 == 0) && (decide (x34.coef > x16)))∧Star H w_ ([oF 3 RP.int v27_out out_27,box g3 46 #[v0_0,I c.bound]])
 refine W_join R50 ?_ ?_
 refine W_region (mF sf1 rfl (fA 0 fa_46_0 sf2 rfl (ldB 1 hst Tryz.isAgg44 rfl rfl rfl (mF sf7 rfl (L_ix (r:=rTerm) rfl Tryz.underlying44 Tryz.sizeOf85 rfl h0_0 rfl hx34 (fun g51 o52 cs_g51 hrk_hat53 hat53=>?_))))))
 obtain rfl:=rTerm_iff.1 hrk_hat53
 refine fA (o52 + 1) fa_85_1 rfl rfl (L_ld rfl Tryz.isAgg3 rfl (At.cell (AtH.at hat53 hst.sub) (j:=1) rfl) ?_)
 obtain ⟨H55b,l56,s57,z58,k59⟩:=hst.borrow
 refine L_call rfl Tryz.call73 (ops2 rfl rfl) (s_l3State_c (p:=p) (lit:=x34.lit) s57 (RP.mono _ h1 l56) hx44) ?_
 rintro _ w60 ⟨rfl,hst⟩
 have hst:=k59 hst c0
 refine L_eql rfl rfl rfl (mB rfl (L_split (d:=32) (b:=(x44 == 0)) rfl (fun hc61=>?_) (fun hc61=>?_)))
 refine fA 0 fa_46_0 sf2 rfl (ldB 1 hst Tryz.isAgg44 rfl rfl rfl (mF sf7 rfl (L_ix (r:=rTerm) rfl Tryz.underlying44 Tryz.sizeOf85 rfl h0_0 rfl hx34 (fun g62 o63 cs_g62 hrk_hat64 hat64=>?_))))
 obtain rfl:=rTerm_iff.1 hrk_hat64
 refine fA o63 fa_85_0 rfl rfl (L_ld rfl Tryz.isAgg3 rfl (At.cell (AtH.at hat64 hst.sub) (j:=0) rfl) (mF sf6 rfl (L_gtr rfl rfl rfl (L_pick (v:=Bo ((x44 == 0) && (decide (x34.coef > x16)))) rfl rfl (and_t hc61 rfl) (nn (rj hR50 ⟨sf1,sf2,sf5,sf6,sf7,rfl,hst⟩))))))
 refine ps rfl (ps rfl (ps rfl (ps rfl (ps rfl (ps rfl (ps rfl (ps rfl (L_pick (v:=Bo ((x44 == 0) && (decide (x34.coef > x16)))) rfl rfl (and_f hc61) (nn (rj hR50 ⟨sf1,sf2,sf5,sf6,sf7,rfl,hst⟩))))))))))
 intro f w_ hR
 obtain ⟨sf1,sf2,sf5,sf6,sf7,sf41,hst⟩:=rk hR50 hR
 obtain ⟨out_66,hA68,hB30⟩:=bind_some hB30
 obtain ⟨R68,hR68⟩:=exR fun f w_=>∃ v66_out : Value,f 1 = v1∧f 2 = Pt g3∧f 5 = v66_out∧f 6 = I x16∧f 7 = I i_29∧Star H w_ ([oF 3 RP.int v66_out out_66,box g3 46 #[v0_0,I c.bound]])
 refine W_join R68 ?_ ?_
 refine W_cond (b:=((x44 == 0) && (decide (x34.coef > x16)))) sf41 (fun hc69=>?_) (fun hc69=>?_)
 have hA68:=(ite_t hc69).symm.trans hA68
 obtain ⟨x77,hx77,hA68⟩:=bind_some hA68
 refine W_region (mF sf5 rfl (fA 0 fa_46_0 sf2 rfl (ldB 1 hst Tryz.isAgg44 rfl rfl rfl (mF sf7 rfl (L_ix (r:=rTerm) rfl Tryz.underlying44 Tryz.sizeOf85 rfl h0_0 rfl hx34 (fun g81 o82 cs_g81 hrk_hat83 hat83=>?_))))))
 obtain rfl:=rTerm_iff.1 hrk_hat83
 refine fA (o82 + 1) fa_85_1 rfl rfl (L_ld rfl Tryz.isAgg3 rfl (At.cell (AtH.at hat83 hst.sub) (j:=1) rfl) (L_bs rfl (parts1 rfl) (bs_69_1_0 (I x34.lit) rfl) hst (fun g85 w86 hst=>?_)))
 have hst:=Star.addF (r:=RP.int) (cs:=[I x34.lit]) (x:=x34.lit) hst rfl
 have hst:=Star.mkRow (R:=(OR.frz RP.int)) [([I x34.lit],x34.lit)] [x34.lit] 1 hst rfl rfl rfl (by decide)
 have hst:=hst.get 1 rfl
 refine L_appM (v:=v27_out) (u:=(Sl g85 1 1)) rfl et_69 rfl rfl hst hx77 (fun v88 w89 hst=>aV v88 rfl (nn ?_))
 obtain rfl:=so hA68
 exact rj hR68 ⟨v88,sf1,sf2,rfl,sf6,sf7,hst⟩
 have hA68:=(ite_f hc69).symm.trans hA68
 refine W_skip ?_
 obtain rfl:=so hA68
 exact rj hR68 ⟨v27_out,sf1,sf2,sf5,sf6,sf7,hst⟩
 intro f w_ hR
 obtain ⟨v66_out,sf1,sf2,sf5,sf6,sf7,hst⟩:=rk hR68 hR
 refine W_region (mF sf7 rfl (L_add rfl rfl rfl (aI rfl (nn ?_))))
 obtain rfl:=so hB30
 show ∃ m,m < _∧I30 m _ _
 refine ⟨n30,Nat.lt_succ_self _,?_⟩
 exact ij hI30 ⟨out_66,i64 (i_29 + 1),v66_out,hL30,sf1,sf2,sf5,sf6,rfl,hst⟩
 have hB30:=(ite_f hc33).symm.trans hB30
 refine W_exit ?_
 obtain rfl:=so hB30
 obtain rfl:=so hL30
 exact rj hR30 ⟨out_27,i_29,v27_out,rfl,sf5,(Star.keepN 1 hst)⟩
 intro f w_ hR
 obtain ⟨out_27,i_29,v27_out,rfl,sf5,hst⟩:=rk hR30 hR
 refine sq (mF sf5 rfl (aV v27_out rfl (nn (W_ret (retG1 (v1:=v27_out) Tryz.results60 rfl ?_)))))
 obtain rfl:=so hF
 exact ⟨v27_out,rfl,hst⟩
theorem s_l3Propagate_c {fu : Nat} {list : List Con} {p : List Int} {v0 : Value} {v1 : Value} {H : FH} {w : World} (hst : Star H w [oF 3 RP.int v1 p]) (h0 : (rS 46 (rCon 85)).rel H [v0] list) {r : Int × (List Int)} (hF : s_l3Propagate fu list p = some r) :
 C Tryz.prog 42 #[v0,v1] w fun v w'=>v = I r.1∧Star H w' [oF 3 RP.int v1 r.2]:=by
 unfold s_l3Propagate at hF
 refine C_enter Tryz.func42 rfl Tryz.ntmps42 rfl (sq (aI rfl (nq (sq (aB rfl (nn ?_))))))
 obtain ⟨j4,hL4,hF⟩:=bind_some hF
 obtain ⟨R4,hR4⟩:=exR fun f w_=>∃ p_2 : List Int,∃ changed_3 : Bool,j4 = .nx (p_2,changed_3)∧Star H w_ ([oF 3 RP.int v1 p_2])
 refine W_join R4 ?_ ?_
 refine W_block ?_
 obtain ⟨I4,hI4⟩:=exI fun n f w_=>∃ p_2 : List Int,∃ changed_3 : Bool,whileL (s_l3Propagate_b1 fu list) n (p_2,changed_3) = some j4∧f 0 = v0∧f 1 = v1∧f 5 = Bo changed_3∧Star H w_ ([oF 3 RP.int v1 p_2])
 refine W_loop I4 (n:=fu) ?_ ?_
 exact ij hI4 ⟨p,true,hL4,rfl,rfl,rfl,hst⟩
 intro n4 f w_ hI
 obtain ⟨p_2,changed_3,hL4,sf0,sf1,sf5,hst⟩:=ik hI4 hI
 rcases n4 with _ | n4
 exact (while_zero hL4).elim
 obtain ⟨o4,hB4,hL4⟩:=while_succ hL4
 rw [s_l3Propagate_b1] at hB4
 refine W_seq (sq (mF sf5 rfl (nn (W_cond (b:=changed_3) rfl (fun hc5=>?_) (fun hc5=>?_)))))
 have hB4:=(ite_t hc5).symm.trans hB4
 refine W_skip (W_block (sq (aB rfl (ns (aI rfl (nn ?_))))))
 have hlen9 : List.length list≤9223372036854775807:=len_le (slice_len h0)
 obtain ⟨j9,hL9,hB4⟩:=bind_some hB4
 obtain ⟨R9,hR9⟩:=exR fun f w_=>∃ p_7 : List Int,∃ changed_8 : Bool,j9 = .nx (p_7,changed_8)∧f 0 = v0∧f 1 = v1∧f 5 = Bo changed_8∧Star H w_ ([oF 3 RP.int v1 p_7])
 refine W_join R9 ?_ ?_
 refine W_block ?_
 obtain ⟨I9,hI9⟩:=exI fun n f w_=>∃ i_6 : Nat,∃ suf9 : List Con,∃ p_7 : List Int,∃ changed_8 : Bool,n = suf9.length∧List.drop i_6 list = suf9∧i_6 + suf9.length = list.length∧rangeL (s_l3Propagate_b2 fu) suf9 i_6 (p_7,changed_8) = some j9∧f 0 = v0∧f 1 = v1∧f 5 = Bo changed_8∧f 6 = I i_6∧Star H w_ ([oF 3 RP.int v1 p_7])
 refine W_loop I9 (n:=list.length) ?_ ?_
 exact ij hI9 ⟨0,list,p_2,false,rfl,rfl,Nat.zero_add _,hL9,sf0,sf1,rfl,rfl,hst⟩
 intro n9 f w_ hI
 obtain ⟨i_6,suf9,p_7,changed_8,rfl,hd9,hl9,hL9,sf0,sf1,sf5,sf6,hst⟩:=ik hI9 hI
 refine W_seq (sq (mF sf6 rfl (mF sf0 rfl (L_len rfl Tryz.underlying23 rfl (slice_len h0) (L_lss rfl rfl rfl (nn (W_cond (b:=decide ((i_6 : Int) < (list.length : Int))) rfl (fun hc10=>?_) (fun hc10=>?_))))))))
 have hlt9:=of_decide_eq_true hc10
 rcases suf9 with _ | ⟨x_9,rest9⟩
 exact absurd hlt9 (by simp at hl9; omega)
 obtain ⟨o9,hB9,hL9⟩:=range_cons hL9
 rw [s_l3Propagate_b2] at hB9
 have hix9:=drop_idx hd9
 refine W_skip (W_seq (W_block (W_seq (W_seq ?_))))
 obtain ⟨x21,hx21,hB9⟩:=bind_some hB9
 refine W_region (mF sf0 rfl (mF sf6 rfl (L_ix (r:=(rCon 85)) rfl Tryz.underlying23 Tryz.sizeOf46 rfl h0 rfl hix9 (fun g23 o24 cs_g23 hrk_hat25 hat25=>?_))))
 obtain ⟨u26_0,rfl,hu26_0⟩:=rCon_iff.1 hrk_hat25
 refine L_lda (cs:=[u26_0,I x_9.bound]) rfl Tryz.isAgg46 Tryz.sizeOf46 rfl (At.sub (AtH.at hat25 hst.sub) 0 2) rfl (mF sf1 rfl ?_)
 obtain ⟨H27b,l28,s29,z30,k31⟩:=hst.borrow
 have hb32 : (rS 3 RP.int).rel H27b [v1] p_7:=fz_own 0 z30 rfl
 refine L_call rfl Tryz.call59 (ops2 rfl rfl) (s_l3Slack_c (c:=x_9) (p:=p_7) s29 (RP.mono _ hu26_0 l28) hb32 hx21) ?_
 rintro _ w33 ⟨rfl,hst⟩
 have hst:=k31 hst c0
 refine L_lss rfl rfl rfl (nn (W_cond (b:=decide (x21 < 0)) rfl (fun hc34=>?_) (fun hc34=>?_)))
 have hB9:=(ite_t hc34).symm.trans hB9
 refine sq (mF sf6 rfl (aI rfl (nn (W_ret (retG1 (v1:=I i_6) Tryz.results42 rfl ?_)))))
 obtain rfl:=so hB9
 obtain rfl:=so hL9
 obtain rfl:=so hB4
 obtain rfl:=so hL4
 obtain rfl:=so hF
 exact ⟨rfl,hst⟩
 have hB9:=(ite_f hc34).symm.trans hB9
 refine W_skip (W_seq ?_)
 obtain ⟨x45,hx45,hB9⟩:=bind_some hB9
 refine W_region (mF sf0 rfl (mF sf6 rfl (L_ix (r:=(rCon 85)) rfl Tryz.underlying23 Tryz.sizeOf46 rfl h0 rfl hix9 (fun g48 o49 cs_g48 hrk_hat50 hat50=>?_))))
 obtain ⟨u51_0,rfl,hu51_0⟩:=rCon_iff.1 hrk_hat50
 refine L_lda (cs:=[u51_0,I x_9.bound]) rfl Tryz.isAgg46 Tryz.sizeOf46 rfl (At.sub (AtH.at hat50 hst.sub) 0 2) rfl (mF sf1 rfl ?_)
 obtain ⟨H52b,l53,s54,z55,k56⟩:=hst.borrow
 have hb57 : (rS 3 RP.int).rel H52b [v1] p_7:=fz_own 0 z55 rfl
 refine L_call rfl Tryz.call60 (ops2 rfl rfl) (s_l3Implied_c (c:=x_9) (p:=p_7) s54 (RP.mono _ hu51_0 l53) hb57 hx45) ?_
 rintro r58_0 w58 ⟨_,rfl,hst⟩
 have hst:=k56 hst (co closed_int c0)
 refine aV r58_0 rfl (ns (aI rfl (nn ?_)))
 have hlen63 : List.length x45≤9223372036854775807:=len_le (Star.len 0 hst rfl)
 obtain ⟨j63,hL63,hB9⟩:=bind_some hB9
 obtain ⟨R63,hR63⟩:=exR fun f w_=>∃ p_61 : List Int,∃ changed_62 : Bool,j63 = .nx (p_61,changed_62)∧f 0 = v0∧f 1 = v1∧f 5 = Bo changed_62∧f 6 = I i_6∧Star H w_ ([oF 3 RP.int v1 p_61])
 refine W_join R63 ?_ ?_
 refine W_block ?_
 obtain ⟨I63,hI63⟩:=exI fun n f w_=>∃ i_60 : Nat,∃ suf63 : List Int,∃ p_61 : List Int,∃ changed_62 : Bool,n = suf63.length∧List.drop i_60 x45 = suf63∧i_60 + suf63.length = x45.length∧rangeL s_l3Propagate_b3 suf63 i_60 (p_61,changed_62) = some j63∧f 0 = v0∧f 1 = v1∧f 5 = Bo changed_62∧f 6 = I i_6∧f 7 = r58_0∧f 8 = I i_60∧Star H w_ ([oF 3 RP.int v1 p_61,oF 3 RP.int r58_0 x45])
 have hst:=hst.get 1 rfl
 refine W_loop I63 (n:=x45.length) ?_ ?_
 exact ij hI63 ⟨0,x45,p_7,changed_8,rfl,rfl,Nat.zero_add _,hL63,sf0,sf1,sf5,sf6,rfl,rfl,hst⟩
 intro n63 f w_ hI
 obtain ⟨i_60,suf63,p_61,changed_62,rfl,hd63,hl63,hL63,sf0,sf1,sf5,sf6,sf7,sf8,hst⟩:=ik hI63 hI
 refine W_seq (sq (mF sf8 rfl (mF sf7 rfl (L_len rfl Tryz.underlying69 rfl (Star.len 1 hst rfl) (L_lss rfl rfl rfl (nn (W_cond (b:=decide ((i_60 : Int) < (x45.length : Int))) rfl (fun hc64=>?_) (fun hc64=>?_))))))))
 have hlt63:=of_decide_eq_true hc64
 rcases suf63 with _ | ⟨x_63,rest63⟩
 exact absurd hlt63 (by simp at hl63; omega)
 obtain ⟨o63,hB63,hL63⟩:=range_cons hL63
 rw [s_l3Propagate_b3] at hB63
 have hix63:=drop_idx hd63
 refine W_skip (W_seq (W_block (W_seq ?_)))
 obtain ⟨x74,hx74,hB63⟩:=bind_some hB63
 refine W_region (mF sf1 rfl (mF sf7 rfl (mF sf8 rfl ?_)))
 obtain ⟨g76,cap_g76,hv77,_,_⟩:=Star.row 1 hst rfl hix63
 refine L_ixO (R:=(OR.frz RP.int)) (tb:=0) 0 rfl Tryz.underlying69 Tryz.sizeOf3 rfl hv77 (by first | rfl | simp) rfl hix63 ?_
 obtain ⟨cs78,hr78,hat78⟩:=Star.eltF 1 hst rfl hv77 hix63
 obtain rfl : _ = [_]:=hr78
 refine L_ld rfl Tryz.isAgg3 rfl (At.cell hat78 (j:=0) rfl) ?_
 obtain ⟨H80b,l81,s82,z83,k84⟩:=hst.lend [_]
 refine L_call rfl Tryz.call41 (ops2 rfl rfl) (s_l3Assign_c (p:=p_61) (lit:=x_63) s82 hx74) ?_
 rintro _ w85 ⟨rfl,hst⟩
 have hst:=k84 hst (co closed_int c0)
 refine nn (W_region (aB rfl (nn (W_region (mF sf8 rfl (L_add rfl rfl rfl (aI rfl (nn ?_))))))))
 obtain rfl:=so hB63
 show ∃ m,m < _∧I63 m _ _
 refine ⟨rest63.length,by simp,?_⟩
 exact ij hI63 ⟨i_60 + 1,rest63,x74,true,rfl,drop_next hd63,by simp at hl63; omega,hL63,sf0,sf1,rfl,sf6,sf7,(Eq.trans rfl (congrArg (Value.int .i64) (i64_succ (n:=x45.length) (by simp at hl63; omega) hlen63))),hst⟩
 rcases suf63 with _ | ⟨_,_⟩
 obtain rfl:=range_nil hL63
 refine W_exit (rj hR63 ⟨p_61,changed_62,rfl,sf0,sf1,sf5,sf6,(Star.keepN 1 hst)⟩)
 exact absurd (of_decide_eq_false hc64) (by simp at hl63; omega)
 intro f w_ hR
 obtain ⟨p_61,changed_62,rfl,sf0,sf1,sf5,sf6,hst⟩:=rk hR63 hR
 refine W_region (mF sf6 rfl (L_add rfl rfl rfl (aI rfl (nn ?_))))
 obtain rfl:=so hB9
 show ∃ m,m < _∧I9 m _ _
 refine ⟨rest9.length,by simp,?_⟩
 exact ij hI9 ⟨i_6 + 1,rest9,p_61,changed_62,rfl,drop_next hd9,by simp at hl9; omega,hL9,sf0,sf1,sf5,(Eq.trans rfl (congrArg (Value.int .i64) (i64_succ (n:=list.length) (by simp at hl9; omega) hlen9))),hst⟩
 rcases suf9 with _ | ⟨_,_⟩
 obtain rfl:=range_nil hL9
 refine W_exit (rj hR9 ⟨p_7,changed_8,rfl,sf0,sf1,sf5,hst⟩)
 exact absurd (of_decide_eq_false hc10) (by simp at hl9; omega)
 intro f w_ hR
 obtain ⟨p_7,changed_8,rfl,sf0,sf1,sf5,hst⟩:=rk hR9 hR
 obtain rfl:=so hB4
 show ∃ m,m < _∧I4 m _ _
 refine ⟨n4,Nat.lt_succ_self _,?_⟩
 exact ij hI4 ⟨p_7,changed_8,hL4,sf0,sf1,sf5,hst⟩
 have hB4:=(ite_f hc5).symm.trans hB4
 refine W_exit ?_
 obtain rfl:=so hB4
 obtain rfl:=so hL4
 exact rj hR4 ⟨p_2,changed_3,rfl,hst⟩
 intro f w_ hR
 obtain ⟨p_2,changed_3,rfl,hst⟩:=rk hR4 hR
 refine sq (aI rfl (nn (W_ret (retG1 (v1:=I (-1)) Tryz.results42 rfl ?_))))
 obtain rfl:=so hF
 exact ⟨rfl,hst⟩
theorem s_ClauseOf_c {lits : List Int} {v0 : Value} {H : FH} {w : World} (hst : Star H w []) (h0 : (rS 3 RP.int).rel H [v0] lits) {r : Con × Bool} (hF : s_ClauseOf lits = some r) :
 C Tryz.prog 61 #[v0] w fun v w'=>∃ (u1 : Value),v = .tuple #[.agg #[u1,I r.1.bound],Bo r.2]∧Star H w' [oF 85 rTerm u1 r.1.terms]:=by
 unfold s_ClauseOf at hF
 refine C_enter Tryz.func61 rfl Tryz.ntmps61 rfl (sq (L_al (cs:=#[S0,I 0]) rfl Tryz.zeroValue46 rfl hst (fun g3 w4 hst=>aB rfl (nq ?_))))
 obtain ⟨x5,hx5,hF⟩:=bind_some hF
 refine W_region (L_mk (R:=(OR.frz RP.int)) (z0:=0) (zc:=[I 0]) rfl et_69 (by kernel_rfl) (fun _ _=>⟨rfl,rfl⟩) rfl rfl hx5 hst (fun v9 w10 hst=>aV v9 rfl (nq (sq (mV v0 rfl (L_len rfl Tryz.underlying69 rfl (slice_len h0) (L_gtr rfl rfl rfl (nn (W_cond (b:=decide ((lits.length : Int) > 40)) rfl (fun hc12=>?_) (fun hc12=>?_))))))))))
 have hF:=(ite_t hc12).symm.trans hF
 refine sq (L_bld rfl (parts0 ) (bld_46_  ) (L_staB (vs:=#[S0,I 0]) (cs2:=#[S0,I 0]) 1 rfl Tryz.sizeOf46 rfl rfl rfl (ones_cons rfl (ones_cons rfl ones_nil)) hst rfl (by show 0 + 2≤2; decide) rfl (fun w14 hst=>aB rfl (nn (W_ret (retG2 (v1:=.agg #[S0,I 0]) (v2:=Bo false) Tryz.results61 (resV_agg Tryz.isAgg46 Tryz.sizeOf46 rfl (Star.blkAt 0 hst rfl) rfl) rfl ?_))))))
 obtain rfl:=so hF
 have hst:=Star.addNil (R:=(OR.frz rTerm)) (e:=85) hst
 exact ⟨S0,rfl,(Star.keepN 1 hst)⟩
 have hF:=(ite_f hc12).symm.trans hF
 refine W_skip (W_seq (sq (aI rfl (nn ?_))))
 have hlen20 : List.length lits≤9223372036854775807:=len_le (slice_len h0)
 obtain ⟨j20,hL20,hF⟩:=bind_some hF
 obtain ⟨R20,hR20⟩:=exR fun f w_=>∃ seen_17 : List Int,∃ H18 : FH,j20 = .nx seen_17∧Le H H18∧f 2 = Pt g3∧f 4 = v9∧Star H18 w_ ([oF 3 RP.int v9 seen_17,box g3 46 #[S0,I 0]])
 refine W_join R20 ?_ ?_
 refine W_block ?_
 obtain ⟨I20,hI20⟩:=exI fun n f w_=>∃ i_16 : Nat,∃ suf20 : List Int,∃ seen_17 : List Int,∃ H18 : FH,n = suf20.length∧List.drop i_16 lits = suf20∧i_16 + suf20.length = lits.length∧rangeL s_ClauseOf_b1 suf20 i_16 seen_17 = some j20∧Le H H18∧f 0 = v0∧f 2 = Pt g3∧f 4 = v9∧f 5 = I i_16∧Star H18 w_ ([oF 3 RP.int v9 seen_17,box g3 46 #[S0,I 0]])
 refine W_loop I20 (n:=lits.length) ?_ ?_
 exact ij hI20 ⟨0,lits,x5,H,rfl,rfl,Nat.zero_add _,hL20,(Le.refl _),rfl,rfl,rfl,rfl,hst⟩
 intro n20 f w_ hI
 obtain ⟨i_16,suf20,seen_17,H18,rfl,hd20,hl20,hL20,l19,sf0,sf2,sf4,sf5,hst⟩:=ik hI20 hI
 refine W_seq (sq (mF sf5 rfl (mF sf0 rfl (L_len rfl Tryz.underlying69 rfl (slice_len (RP.mono _ h0 l19)) (L_lss rfl rfl rfl (nn (W_cond (b:=decide ((i_16 : Int) < (lits.length : Int))) rfl (fun hc21=>?_) (fun hc21=>?_))))))))
 have hlt20:=of_decide_eq_true hc21
 rcases suf20 with _ | ⟨x_20,rest20⟩
 exact absurd hlt20 (by simp at hl20; omega)
 obtain ⟨o20,hB20,hL20⟩:=range_cons hL20
 rw [s_ClauseOf_b1] at hB20
 have hix20:=drop_idx hd20
 refine W_skip (W_seq (W_block (W_seq (W_seq ?_))))
 obtain ⟨x31,hx31,hB20⟩:=bind_some hB20
 refine W_region (mF sf0 rfl (mF sf5 rfl (L_ix (r:=RP.int) rfl Tryz.underlying69 Tryz.sizeOf3 rfl (RP.mono _ h0 l19) rfl hix20 (fun g33 o34 cs_g33 hrk_hat35 hat35=>?_))))
 obtain rfl : _ = [_]:=hrk_hat35
 refine L_ld rfl Tryz.isAgg3 rfl (At.cell (AtH.at hat35 hst.sub) (j:=0) rfl) ?_
 obtain ⟨H37b,l38,s39,z40,k41⟩:=hst.borrow
 refine L_call rfl Tryz.call57 (ops1 rfl) (s_l1Lit_c (n_:=x_20) s39 hx31) ?_
 rintro _ w42 ⟨rfl,hst⟩
 have hst:=k41 hst c0
 refine L_not_ rfl rfl (nn (W_cond (b:=(!x31)) rfl (fun hc43=>?_) (fun hc43=>?_)))
 have hB20:=(ite_t hc43).symm.trans hB20
 refine sq (L_bld rfl (parts0 ) (bld_46_  ) (L_staB (vs:=#[S0,I 0]) (cs2:=#[S0,I 0]) 1 rfl Tryz.sizeOf46 sf2 rfl rfl (ones_cons rfl (ones_cons rfl ones_nil)) hst rfl (by show 0 + 2≤2; decide) rfl (fun w45 hst=>aB rfl (nn (W_ret (retG2 (v1:=.agg #[S0,I 0]) (v2:=Bo false) Tryz.results61 (resV_agg Tryz.isAgg46 Tryz.sizeOf46 sf2 (Star.blkAt 0 hst rfl) rfl) rfl ?_))))))
 obtain rfl:=so hB20
 obtain rfl:=so hL20
 obtain rfl:=so hF
 have hst:=Star.addNil (R:=(OR.frz rTerm)) (e:=85) hst
 exact ⟨S0,rfl,(Star.down (Star.keepN 1 hst) l19 (co closed_term c0))⟩
 have hB20:=(ite_f hc43).symm.trans hB20
 refine W_skip (W_seq ?_)
 obtain ⟨x56,hx56,hB20⟩:=bind_some hB20
 refine W_region (mF sf0 rfl (mF sf5 rfl (L_ix (r:=RP.int) rfl Tryz.underlying69 Tryz.sizeOf3 rfl (RP.mono _ h0 l19) rfl hix20 (fun g58 o59 cs_g58 hrk_hat60 hat60=>?_))))
 obtain rfl : _ = [_]:=hrk_hat60
 refine L_ld rfl Tryz.isAgg3 rfl (At.cell (AtH.at hat60 hst.sub) (j:=0) rfl) ?_
 obtain ⟨H62b,l63,s64,z65,k66⟩:=hst.borrow
 refine L_call rfl Tryz.call58 (ops1 rfl) (s_l1Abs_c (n_:=x_20) s64 hx56) ?_
 rintro _ w67 ⟨rfl,hst⟩
 have hst:=k66 hst c0
 refine aI rfl (nq (W_seq ?_))
 obtain ⟨x68,hx68,hB20⟩:=bind_some hB20
 obtain ⟨g78,cap_g78,hv79,_,_⟩:=Star.row 0 hst rfl hx68
 refine W_drawS 9 [isV (v9),isV (I x56),isV (.pointer (some ⟨g78,Int.toNat x56 * 1,none⟩)),isV (I x68),isV (v0),isV (I i_16),isEl RP.int x_20 0,isV (I x_20),isV (I (i64 (-x_20)))] [oF 3 RP.int v9 seen_17,box g3 46 #[S0,I 0]] [] ([]) [([],[]),([],[]),([],[]),([],[]),([],[]),([],[]),([],[]),([],[]),([],[])] (S:=[]) Tryz_mix (by kernel_rfl) rfl (by kernel_rfl) (amF_cons (mono_V _) (amF_cons (mono_V _) (amF_cons (mono_V _) (amF_cons (mono_V _) (amF_cons (mono_V _) (amF_cons (mono_V _) (amF_cons (mono_el _ _ _) (amF_cons (mono_V _) (amF_cons (mono_V _) amF_nil))))))))) hst ?_ (fun f w_ H77 hS77 hE77 hT77 hst=>?_)
 refine opsS_cons (fun f w_ _ _ s _ _ hst=>mF ((s 4 rfl).trans sf4) rfl (nO rfl rfl hst)) (opsS_cons (fun f w_ _ _ s _ _ hst=>mF ((s 6 rfl).trans rfl) rfl (nO rfl rfl hst)) (opsS_cons (fun f w_ _ _ _ _ p hst=>L_ixO (R:=(OR.frz RP.int)) (tb:=0) 0 rfl Tryz.underlying69 Tryz.sizeOf3 (p 0 32 rfl rfl) hv79 (by first | rfl | simp) (p 1 33 rfl rfl) hx68 (nO rfl rfl hst)) (opsS_cons ?_ ?_)))
 intro f w_ H77 X77 hS77 hE77 hP77 hst
 obtain ⟨cs86,hr86,hat86⟩:=Star.eltF 0 hst rfl hv79 hx68
 obtain rfl : _ = [_]:=hr86
 refine L_ld rfl Tryz.isAgg3 (hP77 2 34 rfl rfl) (At.cell hat86 (j:=0) rfl) (L_nil ⟨rfl,_,_,rfl,Le.refl _,fun _ _=>rfl,hst⟩)
 refine opsS_cons (fun f w_ _ _ s _ _ hst=>mF ((s 0 rfl).trans sf0) rfl (nO rfl rfl hst)) (opsS_cons (fun f w_ _ _ s _ _ hst=>mF ((s 5 rfl).trans sf5) rfl (nO rfl rfl hst)) (opsS_cons ?_ ?_))
 intro f w_ H77 X77 hS77 hE77 hP77 hst
 refine L_ix (r:=RP.int) rfl Tryz.underlying69 Tryz.sizeOf3 (hP77 4 36 rfl rfl) (RP.mono _ h0 (Le.trans l19 hE77)) (hP77 5 37 rfl rfl) hix20 (fun g88 o89 cs_g88 hrk_hat90 hat90=>?_)
 obtain rfl : _ = [_]:=hrk_hat90
 exact L_nil ⟨rfl,_,_,rfl,Le.refl _,fun _ _=>⟨_,_,_,rfl,rfl,hat90⟩,hst⟩
 refine opsS_cons ?_ ?_
 intro f w_ H77 X77 hS77 hE77 hP77 hst
 obtain ⟨g92,o92,cs92,hv92,hrk_hat92,hat92⟩:=(hP77 6 38 rfl rfl)
 obtain rfl : _ = [_]:=hrk_hat92
 refine L_ld rfl Tryz.isAgg3 hv92 (At.cell (AtH.at hat92 hst.sub) (j:=0) rfl) (L_nil ⟨rfl,_,_,rfl,Le.refl _,fun _ _=>rfl,hst⟩)
 refine opsS_cons (fun f w_ _ _ _ _ p hst=>L_neg rfl (p 7 39 rfl rfl) (nO rfl rfl hst)) (opsS_nil)
 refine L_eql rfl (hT77 3 35 rfl rfl) (hT77 8 40 rfl rfl) (nn (W_cond (b:=(x68 == (i64 (-x_20)))) rfl (fun hc94=>?_) (fun hc94=>?_)))
 have hB20:=(ite_t hc94).symm.trans hB20
 refine sq (L_bld rfl (parts0 ) (bld_46_  ) (L_staB (vs:=#[S0,I 0]) (cs2:=#[S0,I 0]) 1 rfl Tryz.sizeOf46 ((hS77 2 rfl).trans sf2) rfl rfl (ones_cons rfl (ones_cons rfl ones_nil)) hst rfl (by show 0 + 2≤2; decide) rfl (fun w96 hst=>aB rfl (nn (W_ret (retG2 (v1:=.agg #[S0,I 0]) (v2:=Bo false) Tryz.results61 (resV_agg Tryz.isAgg46 Tryz.sizeOf46 ((hS77 2 rfl).trans sf2) (Star.blkAt 0 hst rfl) rfl) rfl ?_))))))
 obtain rfl:=so hB20
 obtain rfl:=so hL20
 obtain rfl:=so hF
 have hst:=Star.addNil (R:=(OR.frz rTerm)) (e:=85) hst
 exact ⟨S0,rfl,(Star.down (Star.keepN 1 hst) (Le.trans l19 hE77) (co closed_term c0))⟩
 have hB20:=(ite_f hc94).symm.trans hB20
 refine W_skip (W_region (mF ((hS77 4 rfl).trans sf4) rfl (mF ((hS77 6 rfl).trans rfl) rfl (mF ((hS77 0 rfl).trans sf0) rfl (mF ((hS77 5 rfl).trans sf5) rfl (L_ix (r:=RP.int) rfl Tryz.underlying69 Tryz.sizeOf3 rfl (RP.mono _ h0 (Le.trans l19 hE77)) rfl hix20 (fun g103 o104 cs_g103 hrk_hat105 hat105=>?_)))))))
 obtain rfl : _ = [_]:=hrk_hat105
 refine L_ld rfl Tryz.isAgg3 rfl (At.cell (AtH.at hat105 hst.sub) (j:=0) rfl) (L_ixO (R:=(OR.frz RP.int)) (tb:=0) 0 rfl Tryz.underlying69 Tryz.sizeOf3 rfl hv79 (by first | rfl | simp) rfl hx68 ?_)
 have hst:=Star.addF (r:=RP.int) (cs:=[I x_20]) (x:=x_20) hst rfl
 refine L_stE1 (u:=I x_20) rfl Tryz.sizeOf3 rfl rfl rfl hv79 hst hx68 (fun w107 hst=>nn (W_region (mF ((hS77 5 rfl).trans sf5) rfl (L_add rfl rfl rfl (aI rfl (nn ?_))))))
 obtain rfl:=so hB20
 show ∃ m,m < _∧I20 m _ _
 refine ⟨rest20.length,by simp,?_⟩
 exact ij hI20 ⟨i_16 + 1,rest20,(seen_17.set (Int.toNat x56) x_20),H77,rfl,drop_next hd20,by simp at hl20; omega,hL20,(Le.trans l19 hE77),((hS77 0 rfl).trans sf0),((hS77 2 rfl).trans sf2),((hS77 4 rfl).trans sf4),(Eq.trans rfl (congrArg (Value.int .i64) (i64_succ (n:=lits.length) (by simp at hl20; omega) hlen20))),hst⟩
 rcases suf20 with _ | ⟨_,_⟩
 obtain rfl:=range_nil hL20
 refine W_exit (rj hR20 ⟨seen_17,H18,rfl,l19,sf2,sf4,hst⟩)
 exact absurd (of_decide_eq_false hc21) (by simp at hl20; omega)
 intro f w_ hR
 obtain ⟨seen_17,H18,rfl,l19,sf2,sf4,hst⟩:=rk hR20 hR
 refine sq (L_bld rfl (parts1 rfl) (bld_46_1 (I 1) rfl) (L_al (cs:=#[S0,I 0]) rfl Tryz.zeroValue46 rfl hst (fun g111 w112 hst=>L_staB (vs:=#[S0,I 1]) (cs2:=#[S0,I 1]) 0 rfl Tryz.sizeOf46 rfl rfl rfl (ones_cons rfl (ones_cons rfl ones_nil)) hst rfl (by show 0 + 2≤2; decide) rfl (fun w113 hst=>nq (sq (aI rfl (nn ?_)))))))
 obtain ⟨k120,hk120,hF⟩:=bind_some hF
 obtain ⟨j119,hL119,hF⟩:=bind_some hF
 obtain ⟨R119,hR119⟩:=exR fun f w_=>∃ g111_0_115 : List Term,∃ H117 : FH,∃ v115_g111_0 : Value,j119 = .nx g111_0_115∧Le H18 H117∧f 2 = Pt g3∧f 7 = Pt g111∧Star H117 w_ ([oF 85 rTerm v115_g111_0 g111_0_115,box g111 46 #[v115_g111_0,I 1],box g3 46 #[S0,I 0]])
 refine W_join R119 ?_ ?_
 refine W_block ?_
 obtain ⟨I119,hI119⟩:=exI fun n f w_=>∃ i_114 : Nat,∃ suf119 : Nat,∃ g111_0_115 : List Term,∃ H117 : FH,∃ v115_g111_0 : Value,suf119 = n∧1≤i_114∧i_114 + suf119 = 1 + k120∧countL (s_ClauseOf_b2 seen_17) suf119 i_114 g111_0_115 = some j119∧Le H18 H117∧f 2 = Pt g3∧f 4 = v9∧f 7 = Pt g111∧f 8 = I i_114∧Star H117 w_ ([oF 3 RP.int v9 seen_17,oF 85 rTerm v115_g111_0 g111_0_115,box g111 46 #[v115_g111_0,I 1],box g3 46 #[S0,I 0]])
 have hst:=Star.addNil (R:=(OR.frz rTerm)) (e:=85) hst
 have hst:=hst.gets [3,2,2,3] rfl
 refine W_loop I119 (n:=k120) ?_ ?_
 exact ij hI119 ⟨1,k120,[],H18,S0,rfl,Nat.le_refl _,rfl,hL119,(Le.refl _),sf2,sf4,rfl,rfl,hst⟩
 intro n119 f w_ hI
 obtain ⟨i_114,suf119,g111_0_115,H117,v115_g111_0,rfl,hs119,hl119,hL119,l118,sf2,sf4,sf7,sf8,hst⟩:=ik hI119 hI
 refine W_seq (sq (mF sf8 rfl (L_leq rfl rfl rfl (nn (W_cond (b:=decide ((i_114 : Int)≤12)) rfl (fun hc122=>?_) (fun hc122=>?_))))))
 have hlt119:=of_decide_eq_true hc122
 rcases suf119 with _ | rest119
 exact absurd hlt119 (cntF_noL hl119 hk120)
 obtain ⟨o119,hB119,hL119⟩:=count_succ hL119
 rw [s_ClauseOf_b2] at hB119
 refine W_skip (W_seq (W_block (W_seq ?_)))
 obtain ⟨x123,hx123,hB119⟩:=bind_some hB119
 refine W_region (mF sf4 rfl (mF sf8 rfl ?_))
 obtain ⟨g128,cap_g128,hv129,_,_⟩:=Star.row 0 hst rfl hx123
 refine L_ixO (R:=(OR.frz RP.int)) (tb:=0) 0 rfl Tryz.underlying69 Tryz.sizeOf3 rfl hv129 (by first | rfl | simp) rfl hx123 ?_
 obtain ⟨cs130,hr130,hat130⟩:=Star.eltF 0 hst rfl hv129 hx123
 obtain rfl : _ = [_]:=hr130
 refine L_ld rfl Tryz.isAgg3 rfl (At.cell hat130 (j:=0) rfl) (L_neq rfl rfl rfl (nn ?_))
 obtain ⟨g111_0_132,hA136,hB119⟩:=bind_some hB119
 obtain ⟨R136,hR136⟩:=exR fun f w_=>∃ H134 : FH,∃ v132_g111_0 : Value,Le H117 H134∧f 2 = Pt g3∧f 4 = v9∧f 7 = Pt g111∧f 8 = I i_114∧Star H134 w_ ([oF 3 RP.int v9 seen_17,oF 85 rTerm v132_g111_0 g111_0_132,box g111 46 #[v132_g111_0,I 1],box g3 46 #[S0,I 0]])
 refine W_join R136 ?_ ?_
 refine W_cond (b:=(x123 != 0)) rfl (fun hc137=>?_) (fun hc137=>?_)
 have hA136:=(ite_t hc137).symm.trans hA136
 obtain ⟨x143,hx143,hA136⟩:=bind_some hA136
 refine W_drawS 8 [isV (Pt g111),isV (v115_g111_0),isV (v9),isV (I i_114),isV (.pointer (some ⟨g128,Int.toNat (i_114 : Int) * 1,none⟩)),isV (I x123),isV (.agg #[I 1,I x123]),anyF] [oF 3 RP.int v9 seen_17,oF 85 rTerm v115_g111_0 g111_0_115,box g111 46 #[v115_g111_0,I 1],box g3 46 #[S0,I 0]] [.made 7 67 (fun v_=>oF 85 rTerm v_ ([({ coef:=1,lit:=x123 } : Term)])) none] ([]) [([],[]),([],[]),([],[]),([],[]),([],[]),([],[]),([],[]),([],[0])] (S:=[(some 7,[67],none)]) Tryz_mix (by kernel_rfl) rfl (by kernel_rfl) (amF_cons (mono_V _) (amF_cons (mono_V _) (amF_cons (mono_V _) (amF_cons (mono_V _) (amF_cons (mono_V _) (amF_cons (mono_V _) (amF_cons (mono_V _) (amF_cons (mono_any) amF_nil)))))))) hst ?_ (fun f w_ H148 hS148 hE148 hT148 hst=>?_)
 refine opsS_cons (fun f w_ _ _ s _ _ hst=>fA 0 fa_46_0 ((s 7 rfl).trans sf7) rfl (nO rfl rfl hst)) (opsS_cons (fun f w_ _ _ _ _ p hst=>ldB 2 hst Tryz.isAgg44 (p 0 60 rfl rfl) rfl rfl (nO rfl rfl hst)) (opsS_cons (fun f w_ _ _ s _ _ hst=>mF ((s 4 rfl).trans sf4) rfl (nO rfl rfl hst)) (opsS_cons (fun f w_ _ _ s _ _ hst=>mF ((s 8 rfl).trans sf8) rfl (nO rfl rfl hst)) (opsS_cons (fun f w_ _ _ _ _ p hst=>L_ixO (R:=(OR.frz RP.int)) (tb:=0) 0 rfl Tryz.underlying69 Tryz.sizeOf3 (p 2 62 rfl rfl) hv129 (by first | rfl | simp) (p 3 63 rfl rfl) hx123 (nO rfl rfl hst)) (opsS_cons ?_ ?_)))))
 intro f w_ H148 X148 hS148 hE148 hP148 hst
 obtain ⟨cs154,hr154,hat154⟩:=Star.eltF 0 hst rfl hv129 hx123
 obtain rfl : _ = [_]:=hr154
 refine L_ld rfl Tryz.isAgg3 (hP148 4 64 rfl rfl) (At.cell hat154 (j:=0) rfl) (L_nil ⟨rfl,_,_,rfl,Le.refl _,fun _ _=>rfl,hst⟩)
 refine opsS_cons (fun f w_ _ _ _ _ p hst=>L_bld rfl (parts2 rfl (p 5 65 rfl rfl)) (bld_85_0_1 (I 1) (I x123) rfl rfl) (nO rfl rfl hst)) (opsS_cons ?_ ?_)
 intro f w_ H148 X148 hS148 hE148 hP148 hst
 refine L_bs rfl (parts1 (hP148 6 66 rfl rfl)) (bs_44_1_2 (I 1) (I x123) ) hst (fun g156 w157 hst=>?_)
 have hst:=Star.addF (r:=rTerm) (cs:=[I 1,I x123]) (x:=({ coef:=1,lit:=x123 } : Term)) hst (rTerm_iff.2 rfl)
 have hst:=Star.mkRow (R:=(OR.frz rTerm)) [([I 1,I x123],({ coef:=1,lit:=x123 } : Term))] [({ coef:=1,lit:=x123 } : Term)] 1 hst rfl rfl rfl (by decide)
 have hst:=hst.gets [4,4,4,4] rfl
 exact L_nil ⟨rfl,_,_,rfl,Le.refl _,fun _ _=>trivial,hst⟩
 exact opsS_nil
 have hst : Star H148 w_ ([oF 3 RP.int v9 seen_17,oF 85 rTerm v115_g111_0 g111_0_115,box g111 46 #[v115_g111_0,I 1],box g3 46 #[S0,I 0],oF 85 rTerm (f 67) ([({ coef:=1,lit:=x123 } : Term)])]):=hst
 have hst:=hst.gets [4,2] rfl
 refine L_appM (v:=v115_g111_0) (u:=(f 67)) rfl et_44 (hT148 1 61 rfl rfl) rfl hst hx143 (fun v160 w161 hst=>fA 0 fa_46_0 ((hS148 7 rfl).trans sf7) rfl (L_stB (v:=v160) (cs2:=#[v160,I 1]) 2 rfl Tryz.sizeOf44 rfl rfl (one_len (Star.len 0 hst rfl)) hst rfl rfl rfl (fun w163 hst=>nn ?_)))
 obtain rfl:=so hA136
 have hst:=hst.gets [3,1,2,3] rfl
 exact rj hR136 ⟨H148,v160,hE148,((hS148 2 rfl).trans sf2),((hS148 4 rfl).trans sf4),((hS148 7 rfl).trans sf7),((hS148 8 rfl).trans sf8),hst⟩
 have hA136:=(ite_f hc137).symm.trans hA136
 refine W_skip ?_
 obtain rfl:=so hA136
 exact rj hR136 ⟨H117,v115_g111_0,(Le.refl _),sf2,sf4,sf7,sf8,hst⟩
 intro f w_ hR
 obtain ⟨H134,v132_g111_0,l135,sf2,sf4,sf7,sf8,hst⟩:=rk hR136 hR
 refine W_region (mF sf8 rfl (L_add rfl rfl rfl (aI rfl (nn ?_))))
 obtain rfl:=so hB119
 show ∃ m,m < _∧I119 m _ _
 refine ⟨rest119,Nat.lt_succ_self _,?_⟩
 exact ij hI119 ⟨i_114 + 1,rest119,g111_0_132,H134,v132_g111_0,rfl,by omega,by omega,hL119,(Le.trans l118 l135),sf2,sf4,sf7,(Eq.trans rfl (congrArg (Value.int .i64) (i64_succ (n:=1 + k120) (by omega) (cntF_le hk120)))),hst⟩
 rcases suf119 with _ | _
 obtain rfl:=count_zero hL119
 refine W_exit ?_
 have hst:=hst.gets [3,3,3] rfl
 exact rj hR119 ⟨g111_0_115,H117,v115_g111_0,rfl,l118,sf2,sf7,(Star.keepN 3 hst)⟩
 exact absurd (cntF_yesL hs119 hl119 hk120) (of_decide_eq_false hc122)
 intro f w_ hR
 obtain ⟨g111_0_115,H117,v115_g111_0,rfl,l118,sf2,sf7,hst⟩:=rk hR119 hR
 refine sq (L_lda (cs:=[v115_g111_0,I 1]) rfl Tryz.isAgg46 Tryz.sizeOf46 sf7 (At.sub0 (Blk.at (Star.blkAt 1 hst rfl)) 0 2) rfl (L_staB (vs:=#[v115_g111_0,I 1]) (cs2:=#[v115_g111_0,I 1]) 2 rfl Tryz.sizeOf46 sf2 rfl rfl (ones_cons (one_len (Star.len 0 hst rfl)) (ones_cons rfl ones_nil)) hst rfl (by show 0 + 2≤2; decide) rfl (fun w165 hst=>aB rfl (nn (W_ret (retG2 (v1:=.agg #[v115_g111_0,I 1]) (v2:=Bo true) Tryz.results61 (resV_agg Tryz.isAgg46 Tryz.sizeOf46 sf2 (Star.blkAt 0 hst rfl) rfl) rfl ?_))))))
 obtain rfl:=so hF
 have hst:=hst.get 1 rfl
 exact ⟨v115_g111_0,rfl,(Star.down (Star.keepN 1 hst) (Le.trans l19 l118) (co closed_term c0))⟩
theorem s_l5Learn_c {s : Sst} {decisions : List Int} {v0_0 : Value} {v0_1 : Value} {v1 : Value} {H : FH} {w : World} {R : List Ass} (hst : Star H w (oF 46 (rCon 85) v0_0 s.list :: oF 56 (rStep 85) v0_1 s.steps :: R)) (h1 : (rS 3 RP.int).rel H [v1] decisions) {r : Sst} (hF : s_l5Learn s decisions = some r) :
 C Tryz.prog 43 #[.agg #[v0_0,v0_1,I s.fuel],v1] w fun v w'=>∃ H' : FH,Le H H'∧∃ (u1 : Value) (u2 : Value),v = .agg #[u1,u2,I r.fuel]∧Star H' w' (oF 46 (rCon 85) u1 r.list :: oF 56 (rStep 85) u2 r.steps :: R):=by
 unfold s_l5Learn at hF
 refine C_enter Tryz.func43 rfl Tryz.ntmps43 rfl (sq (L_box (v:=.agg #[v0_0,v0_1,I s.fuel]) (cs:=#[v0_0,v0_1,I s.fuel]) rfl rfl rfl hst (fun g5 w6 hst=>L_al (cs:=#[S0,S0,I 0]) rfl Tryz.zeroValue52 rfl hst (fun g7 w8 hst=>ns (L_bs rfl parts0 (bs_69_0  ) hst (fun g12 w13 hst=>?_))))))
 have hst:=Star.mkRow (R:=(OR.frz RP.int)) [] [] 0 hst rfl rfl rfl (by decide)
 refine aV (Sl g12 0 0) rfl (nq (sq (aI rfl (nn ?_))))
 have hlen18 : List.length decisions≤9223372036854775807:=len_le (slice_len h1)
 obtain ⟨j18,hL18,hF⟩:=bind_some hF
 obtain ⟨R18,hR18⟩:=exR fun f w_=>∃ lits_16 : List Int,∃ v16_lits : Value,j18 = .nx lits_16∧f 2 = Pt g5∧f 4 = Pt g7∧f 5 = v16_lits∧Star H w_ (oF 3 RP.int v16_lits lits_16 :: box g7 52 #[S0,S0,I 0] :: oF 46 (rCon 85) v0_0 s.list :: oF 56 (rStep 85) v0_1 s.steps :: box g5 52 #[v0_0,v0_1,I s.fuel] :: R)
 refine W_join R18 ?_ ?_
 refine W_block ?_
 obtain ⟨I18,hI18⟩:=exI fun n f w_=>∃ i_15 : Nat,∃ suf18 : List Int,∃ lits_16 : List Int,∃ v16_lits : Value,n = suf18.length∧List.drop i_15 decisions = suf18∧i_15 + suf18.length = decisions.length∧rangeL s_l5Learn_b1 suf18 i_15 lits_16 = some j18∧f 1 = v1∧f 2 = Pt g5∧f 4 = Pt g7∧f 5 = v16_lits∧f 6 = I i_15∧Star H w_ (oF 3 RP.int v16_lits lits_16 :: box g7 52 #[S0,S0,I 0] :: oF 46 (rCon 85) v0_0 s.list :: oF 56 (rStep 85) v0_1 s.steps :: box g5 52 #[v0_0,v0_1,I s.fuel] :: R)
 have hst:=hst.gets [2,4,4,4,4] rfl
 refine W_loop I18 (n:=decisions.length) ?_ ?_
 exact ij hI18 ⟨0,decisions,[],(Sl g12 0 0),rfl,rfl,Nat.zero_add _,hL18,rfl,rfl,rfl,rfl,rfl,hst⟩
 intro n18 f w_ hI
 obtain ⟨i_15,suf18,lits_16,v16_lits,rfl,hd18,hl18,hL18,sf1,sf2,sf4,sf5,sf6,hst⟩:=ik hI18 hI
 refine W_seq (sq (mF sf6 rfl (mF sf1 rfl (L_len rfl Tryz.underlying69 rfl (slice_len h1) (L_lss rfl rfl rfl (nn (W_cond (b:=decide ((i_15 : Int) < (decisions.length : Int))) rfl (fun hc19=>?_) (fun hc19=>?_))))))))
 have hlt18:=of_decide_eq_true hc19
 rcases suf18 with _ | ⟨x_18,rest18⟩
 exact absurd hlt18 (by simp at hl18; omega)
 obtain ⟨o18,hB18,hL18⟩:=range_cons hL18
 rw [s_l5Learn_b1] at hB18
 have hix18:=drop_idx hd18
 refine W_skip (W_seq (W_block ?_))
 obtain ⟨x27,hx27,hB18⟩:=bind_some hB18
 refine W_region (mF sf5 rfl (mF sf1 rfl (mF sf6 rfl (L_ix (r:=RP.int) rfl Tryz.underlying69 Tryz.sizeOf3 rfl h1 rfl hix18 (fun g31 o32 cs_g31 hrk_hat33 hat33=>?_)))))
 obtain rfl : _ = [_]:=hrk_hat33
 refine L_ld rfl Tryz.isAgg3 rfl (At.cell (AtH.at hat33 hst.sub) (j:=0) rfl) (L_neg rfl rfl (L_bs rfl (parts1 rfl) (bs_69_1_0 (I (i64 (-x_18))) rfl) hst (fun g35 w36 hst=>?_)))
 have hst:=Star.addF (r:=RP.int) (cs:=[I (i64 (-x_18))]) (x:=(i64 (-x_18))) hst rfl
 have hst:=Star.mkRow (R:=(OR.frz RP.int)) [([I (i64 (-x_18))],i64 (-x_18))] [i64 (-x_18)] 1 hst rfl rfl rfl (by decide)
 have hst:=hst.get 1 rfl
 refine L_appM (v:=v16_lits) (u:=(Sl g35 1 1)) rfl et_69 rfl rfl hst hx27 (fun v38 w39 hst=>aV v38 rfl (nn (W_region (mF sf6 rfl (L_add rfl rfl rfl (aI rfl (nn ?_)))))))
 obtain rfl:=so hB18
 show ∃ m,m < _∧I18 m _ _
 refine ⟨rest18.length,by simp,?_⟩
 exact ij hI18 ⟨i_15 + 1,rest18,x27,v38,rfl,drop_next hd18,by simp at hl18; omega,hL18,sf1,sf2,sf4,rfl,(Eq.trans rfl (congrArg (Value.int .i64) (i64_succ (n:=decisions.length) (by simp at hl18; omega) hlen18))),hst⟩
 rcases suf18 with _ | ⟨_,_⟩
 obtain rfl:=range_nil hL18
 refine W_exit (rj hR18 ⟨lits_16,v16_lits,rfl,sf2,sf4,sf5,hst⟩)
 exact absurd (of_decide_eq_false hc19) (by simp at hl18; omega)
 intro f w_ hR
 obtain ⟨lits_16,v16_lits,rfl,sf2,sf4,sf5,hst⟩:=rk hR18 hR
 refine W_seq ?_
 obtain ⟨x47,hx47,hF⟩:=bind_some hF
 refine W_region (mF sf5 rfl ?_)
 obtain ⟨H53b,l54,s55,z56,k57⟩:=hst.borrow
 have hb58 : (rS 3 RP.int).rel H53b [v16_lits] lits_16:=fz_own 0 z56 rfl
 refine L_call rfl Tryz.call61 (ops1 rfl) (s_ClauseOf_c (lits:=lits_16) s55 hb58 hx47) ?_
 rintro _ w59 ⟨r59_0,rfl,hst⟩
 have hst:=k57 hst (co closed_term c0)
 refine mV (.tuple #[.agg #[r59_0,I x47.1.bound],Bo x47.2]) rfl (L_ex (v:=.agg #[r59_0,I x47.1.bound]) rfl rfl rfl (L_ex (v:=Bo x47.2) rfl rfl rfl (L_al (cs:=#[S0,I 0]) rfl Tryz.zeroValue46 rfl hst (fun g61 w62 hst=>L_staB (vs:=#[r59_0,I x47.1.bound]) (cs2:=#[r59_0,I x47.1.bound]) 0 rfl Tryz.sizeOf46 rfl rfl rfl (ones_cons (one_len (Star.len 1 hst rfl)) (ones_cons rfl ones_nil)) hst rfl (by show 0 + 2≤2; decide) rfl (fun w63 hst=>aB rfl (nq ?_))))))
 obtain ⟨x72,hx72,hF⟩:=bind_some hF
 refine W_region (fA 0 fa_52_0 sf2 rfl (ldB 6 hst Tryz.isAgg23 rfl rfl rfl (L_lda (cs:=[r59_0,I x47.1.bound]) rfl Tryz.isAgg46 Tryz.sizeOf46 rfl (At.sub0 (Blk.at (Star.blkAt 0 hst rfl)) 0 2) rfl ?_)))
 have hst:=hst.get 1 rfl
 obtain ⟨H79,l80,hst,hz81⟩:=Star.freeze hst
 have hz81 : (rS 85 rTerm).rel H79 [r59_0] x47.1.terms:=hz81
 refine L_bs rfl (parts1 rfl) (bs_23_1_2 (r59_0) (I x47.1.bound) ) hst (fun g82 w83 hst=>?_)
 have hst:=Star.addF (r:=(rCon 85)) (cs:=[r59_0,I x47.1.bound]) (x:=x47.1) hst (rCon_iff.2 ⟨_,rfl,hz81⟩)
 have hst:=Star.mkRow (R:=(OR.frz (rCon 85))) [([r59_0,I x47.1.bound],x47.1)] [x47.1] 1 hst rfl rfl rfl (by decide)
 have hst:=hst.get 4 rfl
 refine L_appM (v:=v0_0) (u:=(Sl g82 1 1)) rfl et_23 rfl rfl hst hx72 (fun v85 w86 hst=>fA 0 fa_52_0 sf2 rfl (L_stB (v:=v85) (cs2:=#[v85,v0_1,I s.fuel]) 5 rfl Tryz.sizeOf23 rfl rfl (one_len (Star.len 0 hst rfl)) hst rfl rfl rfl (fun w88 hst=>nq ?_)))
 obtain ⟨x92,hx92,hF⟩:=bind_some hF
 refine W_region (fA 1 fa_52_1 sf2 rfl (ldB 0 hst Tryz.isAgg27 rfl rfl rfl (L_lda (cs:=[r59_0,I x47.1.bound]) rfl Tryz.isAgg46 Tryz.sizeOf46 rfl (At.sub0 (Blk.at (Star.blkAt 2 hst rfl)) 0 2) rfl (L_bld rfl (parts2 rfl rfl) (bld_56_0_3x2 (I 7) (r59_0) (I x47.1.bound) rfl) (L_bs rfl (parts1 rfl) (bs_27_1_5 (I 7) (I 0) (I 0) (r59_0) (I x47.1.bound) ) hst (fun g97 w98 hst=>?_))))))
 have hst:=Star.addF (r:=(rStep 85)) (cs:=[I 7,I 0,I 0,r59_0,I x47.1.bound]) (x:=({ kind:=7,a:=0,b:=0,given:=x47.1 } : Step)) hst (rStep_iff.2 ⟨_,rfl,hz81⟩)
 have hst:=Star.mkRow (R:=(OR.frz (rStep 85))) [([I 7,I 0,I 0,r59_0,I x47.1.bound],({ kind:=7,a:=0,b:=0,given:=x47.1 } : Step))] [({ kind:=7,a:=0,b:=0,given:=x47.1 } : Step)] 1 hst rfl rfl rfl (by decide)
 have hst:=hst.get 6 rfl
 refine L_appM (v:=v0_1) (u:=(Sl g97 1 1)) rfl et_27 rfl rfl hst hx92 (fun v100 w101 hst=>fA 1 fa_52_1 sf2 rfl (L_stB (v:=v100) (cs2:=#[v85,v100,I s.fuel]) 1 rfl Tryz.sizeOf27 rfl rfl (one_len (Star.len 0 hst rfl)) hst rfl rfl rfl (fun w103 hst=>ns (L_lda (cs:=[v85,v100,I s.fuel]) rfl Tryz.isAgg52 Tryz.sizeOf52 sf2 (At.sub0 (Blk.at (Star.blkAt 0 hst rfl)) 0 3) rfl (L_staB (vs:=#[v85,v100,I s.fuel]) (cs2:=#[v85,v100,I s.fuel]) 5 rfl Tryz.sizeOf52 sf4 rfl rfl (ones_cons (one_len (Star.len 2 hst rfl)) (ones_cons (one_len (Star.len 1 hst rfl)) (ones_cons rfl ones_nil))) hst rfl (by show 0 + 3≤3; decide) rfl (fun w105 hst=>nn (W_ret (retG1 (v1:=.agg #[v85,v100,I s.fuel]) Tryz.results43 (resV_agg Tryz.isAgg52 Tryz.sizeOf52 sf4 (Star.blkAt 0 hst rfl) rfl) ?_))))))))
 obtain rfl:=so hF
 have hst:=hst.gets [2,3] rfl
 have hst:=Star.drop 2 hst rfl
 have hst:=Star.drop 2 hst rfl
 have hst:=Star.drop 2 hst rfl
 have hst:=Star.drop 2 hst rfl
 exact ⟨H79,l80,v85,v100,rfl,hst⟩
theorem s_l5Free_c {p : List Int} {v0 : Value} {H : FH} {w : World} (hst : Star H w []) (h0 : (rS 3 RP.int).rel H [v0] p) {r : Int} (hF : s_l5Free p = some r) :
 C Tryz.prog 44 #[v0] w fun v w'=>v = I r∧Star H w' []:=by
 unfold s_l5Free at hF
 refine C_enter Tryz.func44 rfl Tryz.ntmps44 rfl (sq (aI rfl (nq (sq (aI rfl (nn ?_))))))
 have hlen2 : List.length p≤9223372036854775807:=len_le (slice_len h0)
 obtain ⟨j2,hL2,hF⟩:=bind_some hF
 obtain ⟨R2,hR2⟩:=exR fun f w_=>j2 = .nx ()∧Star H w_ ([])
 refine W_join R2 ?_ ?_
 refine W_block ?_
 obtain ⟨I2,hI2⟩:=exI fun n f w_=>∃ i_1 : Nat,∃ suf2 : List Int,n = suf2.length∧List.drop i_1 p = suf2∧i_1 + suf2.length = p.length∧rangeL s_l5Free_b1 suf2 i_1 () = some j2∧f 0 = v0∧f 3 = I i_1∧Star H w_ ([])
 refine W_loop I2 (n:=p.length) ?_ ?_
 exact ij hI2 ⟨0,p,rfl,rfl,Nat.zero_add _,hL2,rfl,rfl,hst⟩
 intro n2 f w_ hI
 obtain ⟨i_1,suf2,rfl,hd2,hl2,hL2,sf0,sf3,hst⟩:=ik hI2 hI
 refine W_seq (sq (mF sf3 rfl (mF sf0 rfl (L_len rfl Tryz.underlying69 rfl (slice_len h0) (L_lss rfl rfl rfl (nn (W_cond (b:=decide ((i_1 : Int) < (p.length : Int))) rfl (fun hc3=>?_) (fun hc3=>?_))))))))
 have hlt2:=of_decide_eq_true hc3
 rcases suf2 with _ | ⟨x_2,rest2⟩
 exact absurd hlt2 (by simp at hl2; omega)
 obtain ⟨o2,hB2,hL2⟩:=range_cons hL2
 rw [s_l5Free_b1] at hB2
 have hix2:=drop_idx hd2
 refine W_skip (W_seq (W_block (sq (mF sf0 rfl (mF sf3 rfl (L_ix (r:=RP.int) rfl Tryz.underlying69 Tryz.sizeOf3 rfl h0 rfl hix2 (fun g8 o9 cs_g8 hrk_hat10 hat10=>?_)))))))
 obtain rfl : _ = [_]:=hrk_hat10
 refine L_ld rfl Tryz.isAgg3 rfl (At.cell (AtH.at hat10 hst.sub) (j:=0) rfl) (L_eql rfl rfl rfl (nn (W_cond (b:=(x_2 == 0)) rfl (fun hc12=>?_) (fun hc12=>?_))))
 have hB2:=(ite_t hc12).symm.trans hB2
 refine sq (mF sf3 rfl (L_add rfl rfl rfl (aI rfl (nn (W_ret (retG1 (v1:=I (i64 ((i_1 : Int) + 1))) Tryz.results44 rfl ?_))))))
 obtain rfl:=so hB2
 obtain rfl:=so hL2
 obtain rfl:=so hF
 exact ⟨rfl,hst⟩
 have hB2:=(ite_f hc12).symm.trans hB2
 refine W_skip (W_region (mF sf3 rfl (L_add rfl rfl rfl (aI rfl (nn ?_)))))
 obtain rfl:=so hB2
 show ∃ m,m < _∧I2 m _ _
 refine ⟨rest2.length,by simp,?_⟩
 exact ij hI2 ⟨i_1 + 1,rest2,rfl,drop_next hd2,by simp at hl2; omega,hL2,sf0,(Eq.trans rfl (congrArg (Value.int .i64) (i64_succ (n:=p.length) (by simp at hl2; omega) hlen2))),hst⟩
 rcases suf2 with _ | ⟨_,_⟩
 obtain rfl:=range_nil hL2
 refine W_exit (rj hR2 ⟨rfl,hst⟩)
 exact absurd (of_decide_eq_false hc3) (by simp at hl2; omega)
 intro f w_ hR
 obtain ⟨rfl,hst⟩:=rk hR2 hR
 refine sq (aI rfl (nn (W_ret (retG1 (v1:=I 0) Tryz.results44 rfl ?_))))
 obtain rfl:=so hF
 exact ⟨rfl,hst⟩
theorem s_l5Search_F_c {fu : Nat} {rec_ : Sst→(List Int)→Option (Sst × Int × (List Bool))} (hrec : ∀ {s : Sst} {decisions : List Int} {v0_0 : Value} {v0_1 : Value} {v1 : Value} {H : FH} {w : World} {R : List Ass} (hst : Star H w (oF 46 (rCon 85) v0_0 s.list :: oF 56 (rStep 85) v0_1 s.steps :: R)) (h1 : (rS 3 RP.int).rel H [v1] decisions) {r : Sst × Int × (List Bool)} (hF : rec_ s decisions = some r),C Tryz.prog 20 #[.agg #[v0_0,v0_1,I s.fuel],v1] w fun v w'=>∃ H' : FH,Le H H'∧∃ (u1 : Value) (u2 : Value) (u3 : Value),v = .tuple #[.agg #[u1,u2,I r.1.fuel],I r.2.1,u3]∧Star H' w' (oF 46 (rCon 85) u1 r.1.list :: oF 56 (rStep 85) u2 r.1.steps :: oF 4 RP.bool u3 r.2.2 :: R)) {s : Sst} {decisions : List Int} {v0_0 : Value} {v0_1 : Value} {v1 : Value} {H : FH} {w : World} {R : List Ass} (hst : Star H w (oF 46 (rCon 85) v0_0 s.list :: oF 56 (rStep 85) v0_1 s.steps :: R)) (h1 : (rS 3 RP.int).rel H [v1] decisions) {r : Sst × Int × (List Bool)} (hF : s_l5Search_F fu rec_ s decisions = some r) :
 C Tryz.prog 20 #[.agg #[v0_0,v0_1,I s.fuel],v1] w fun v w'=>∃ H' : FH,Le H H'∧∃ (u1 : Value) (u2 : Value) (u3 : Value),v = .tuple #[.agg #[u1,u2,I r.1.fuel],I r.2.1,u3]∧Star H' w' (oF 46 (rCon 85) u1 r.1.list :: oF 56 (rStep 85) u2 r.1.steps :: oF 4 RP.bool u3 r.2.2 :: R):=by
 unfold s_l5Search_F at hF
 refine C_enter Tryz.func20 rfl Tryz.ntmps20 rfl (sq (L_box (v:=.agg #[v0_0,v0_1,I s.fuel]) (cs:=#[v0_0,v0_1,I s.fuel]) rfl rfl rfl hst (fun g5 w6 hst=>L_al (cs:=#[S0,S0,I 0]) rfl Tryz.zeroValue52 rfl hst (fun g7 w8 hst=>aI rfl (aV S0 rfl (nq (W_seq ?_)))))))
 obtain ⟨R9,hR9⟩:=exR fun f w_=>f 1 = v1∧f 2 = Pt g5∧f 4 = Pt g7∧f 24 = Bo ((s.fuel == 0) || (decide ((s.steps.length : Int) ≥ 1000)))∧Star H w_ (box g7 52 #[S0,S0,I 0] :: oF 46 (rCon 85) v0_0 s.list :: oF 56 (rStep 85) v0_1 s.steps :: box g5 52 #[v0_0,v0_1,I s.fuel] :: R)
 refine W_join R9 ?_ ?_
 refine W_region (fA 2 fa_52_2 rfl rfl (ldB 1 hst Tryz.isAgg3 rfl rfl rfl (L_eql rfl rfl rfl (mB rfl (L_split (d:=19) (b:=(s.fuel == 0)) rfl (fun hc10=>?_) (fun hc10=>?_))))))
 refine ps rfl (ps rfl (ps rfl (ps rfl (L_pick (v:=Bo ((s.fuel == 0) || (decide ((s.steps.length : Int) ≥ 1000)))) rfl rfl (or_t hc10) (nn ?_)))))
 have hst:=hst.gets [1,3,3,3] rfl
 exact rj hR9 ⟨rfl,rfl,rfl,rfl,hst⟩
 refine fA 1 fa_52_1 rfl rfl (ldB 1 hst Tryz.isAgg27 rfl rfl rfl (L_len rfl Tryz.underlying27 rfl (Star.len 3 hst rfl) (L_geq rfl rfl rfl (L_pick (v:=Bo ((s.fuel == 0) || (decide ((s.steps.length : Int) ≥ 1000)))) rfl rfl (or_f hc10 rfl) (nn ?_)))))
 have hst:=hst.gets [1,3,3,3] rfl
 exact rj hR9 ⟨rfl,rfl,rfl,rfl,hst⟩
 intro f w_ hR
 obtain ⟨sf1,sf2,sf4,sf24,hst⟩:=rk hR9 hR
 refine W_cond (b:=((s.fuel == 0) || (decide ((s.steps.length : Int) ≥ 1000)))) sf24 (fun hc11=>?_) (fun hc11=>?_)
 have hF:=(ite_t hc11).symm.trans hF
 refine sq (L_lda (cs:=[v0_0,v0_1,I s.fuel]) rfl Tryz.isAgg52 Tryz.sizeOf52 sf2 (At.sub0 (Blk.at (Star.blkAt 3 hst rfl)) 0 3) rfl (L_bs rfl parts0 (bs_26_0  ) hst (fun g16 w17 hst=>?_)))
 have hst:=Star.mkRow (R:=(OR.frz RP.bool)) [] [] 0 hst rfl rfl rfl (by decide)
 refine L_staB (vs:=#[v0_0,v0_1,I s.fuel]) (cs2:=#[v0_0,v0_1,I s.fuel]) 1 rfl Tryz.sizeOf52 sf4 rfl rfl (ones_cons (one_len (Star.len 2 hst rfl)) (ones_cons (one_len (Star.len 3 hst rfl)) (ones_cons rfl ones_nil))) hst rfl (by show 0 + 3≤3; decide) rfl (fun w19 hst=>aI rfl (aV (Sl g16 0 0) rfl (nn (W_ret (retG3 (v1:=.agg #[v0_0,v0_1,I s.fuel]) (v2:=I 0) (v3:=(Sl g16 0 0)) Tryz.results20 (resV_agg Tryz.isAgg52 Tryz.sizeOf52 sf4 (Star.blkAt 0 hst rfl) rfl) rfl rfl ?_)))))
 obtain rfl:=so hF
 have hst:=hst.gets [1,3,3] rfl
 have hst:=Star.drop 3 hst rfl
 have hst:=Star.drop 3 hst rfl
 exact ⟨H,(Le.refl _),v0_0,v0_1,(Sl g16 0 0),rfl,hst⟩
 have hF:=(ite_f hc11).symm.trans hF
 refine W_skip (sq (fA 2 fa_52_2 sf2 rfl (ldB 3 hst Tryz.isAgg3 rfl rfl rfl (L_sub rfl rfl rfl (fA 2 fa_52_2 sf2 rfl (L_stB (v:=I (i64 (s.fuel - 1))) (cs2:=#[v0_0,v0_1,I (i64 (s.fuel - 1))]) 3 rfl Tryz.sizeOf3 rfl rfl rfl hst rfl rfl rfl (fun w21 hst=>nq ?_)))))))
 obtain ⟨x22,hx22,hF⟩:=bind_some hF
 refine W_region (L_mk (R:=(OR.frz RP.int)) (z0:=0) (zc:=[I 0]) rfl et_69 (by kernel_rfl) (fun _ _=>⟨rfl,rfl⟩) rfl rfl hx22 hst (fun v26 w27 hst=>aV v26 rfl (nq (sq (aI rfl (nn ?_))))))
 have hlen31 : List.length decisions≤9223372036854775807:=len_le (slice_len h1)
 obtain ⟨j31,hL31,hF⟩:=bind_some hF
 obtain ⟨R31,hR31⟩:=exR fun f w_=>∃ p_30 : List Int,j31 = .nx p_30∧f 1 = v1∧f 2 = Pt g5∧f 4 = Pt g7∧f 7 = v26∧Star H w_ (oF 3 RP.int v26 p_30 :: box g7 52 #[S0,S0,I 0] :: oF 46 (rCon 85) v0_0 s.list :: oF 56 (rStep 85) v0_1 s.steps :: box g5 52 #[v0_0,v0_1,I (i64 (s.fuel - 1))] :: R)
 refine W_join R31 ?_ ?_
 refine W_block ?_
 obtain ⟨I31,hI31⟩:=exI fun n f w_=>∃ i_29 : Nat,∃ suf31 : List Int,∃ p_30 : List Int,n = suf31.length∧List.drop i_29 decisions = suf31∧i_29 + suf31.length = decisions.length∧rangeL s_l5Search_b1 suf31 i_29 p_30 = some j31∧f 1 = v1∧f 2 = Pt g5∧f 4 = Pt g7∧f 7 = v26∧f 8 = I i_29∧Star H w_ (oF 3 RP.int v26 p_30 :: box g7 52 #[S0,S0,I 0] :: oF 46 (rCon 85) v0_0 s.list :: oF 56 (rStep 85) v0_1 s.steps :: box g5 52 #[v0_0,v0_1,I (i64 (s.fuel - 1))] :: R)
 have hst:=hst.gets [1,4,4,4,4] rfl
 refine W_loop I31 (n:=decisions.length) ?_ ?_
 exact ij hI31 ⟨0,decisions,x22,rfl,rfl,Nat.zero_add _,hL31,sf1,sf2,sf4,rfl,rfl,hst⟩
 intro n31 f w_ hI
 obtain ⟨i_29,suf31,p_30,rfl,hd31,hl31,hL31,sf1,sf2,sf4,sf7,sf8,hst⟩:=ik hI31 hI
 refine W_seq (sq (mF sf8 rfl (mF sf1 rfl (L_len rfl Tryz.underlying69 rfl (slice_len h1) (L_lss rfl rfl rfl (nn (W_cond (b:=decide ((i_29 : Int) < (decisions.length : Int))) rfl (fun hc32=>?_) (fun hc32=>?_))))))))
 have hlt31:=of_decide_eq_true hc32
 rcases suf31 with _ | ⟨x_31,rest31⟩
 exact absurd hlt31 (by simp at hl31; omega)
 obtain ⟨o31,hB31,hL31⟩:=range_cons hL31
 rw [s_l5Search_b1] at hB31
 have hix31:=drop_idx hd31
 refine W_skip (W_seq (W_block ?_))
 obtain ⟨x42,hx42,hB31⟩:=bind_some hB31
 refine W_region (mF sf7 rfl (mF sf1 rfl (mF sf8 rfl (L_ix (r:=RP.int) rfl Tryz.underlying69 Tryz.sizeOf3 rfl h1 rfl hix31 (fun g44 o45 cs_g44 hrk_hat46 hat46=>?_)))))
 obtain rfl : _ = [_]:=hrk_hat46
 refine L_ld rfl Tryz.isAgg3 rfl (At.cell (AtH.at hat46 hst.sub) (j:=0) rfl) ?_
 obtain ⟨H48b,l49,s50,z51,k52⟩:=hst.lend [_]
 refine L_call rfl Tryz.call41 (ops2 rfl rfl) (s_l3Assign_c (p:=p_30) (lit:=x_31) s50 hx42) ?_
 rintro _ w53 ⟨rfl,hst⟩
 have hst:=k52 hst (co closed_int c0)
 refine nn (W_region (mF sf8 rfl (L_add rfl rfl rfl (aI rfl (nn ?_)))))
 obtain rfl:=so hB31
 show ∃ m,m < _∧I31 m _ _
 refine ⟨rest31.length,by simp,?_⟩
 exact ij hI31 ⟨i_29 + 1,rest31,x42,rfl,drop_next hd31,by simp at hl31; omega,hL31,sf1,sf2,sf4,sf7,(Eq.trans rfl (congrArg (Value.int .i64) (i64_succ (n:=decisions.length) (by simp at hl31; omega) hlen31))),hst⟩
 rcases suf31 with _ | ⟨_,_⟩
 obtain rfl:=range_nil hL31
 refine W_exit (rj hR31 ⟨p_30,rfl,sf1,sf2,sf4,sf7,hst⟩)
 exact absurd (of_decide_eq_false hc32) (by simp at hl31; omega)
 intro f w_ hR
 obtain ⟨p_30,rfl,sf1,sf2,sf4,sf7,hst⟩:=rk hR31 hR
 refine W_seq (W_seq ?_)
 obtain ⟨x60,hx60,hF⟩:=bind_some hF
 refine W_region (fA 0 fa_52_0 sf2 rfl (ldB 4 hst Tryz.isAgg23 rfl rfl rfl (mF sf7 rfl ?_)))
 obtain ⟨H62b,l63,s64,z65,k66⟩:=hst.lend [_]
 have hb67 : (rS 46 (rCon 85)).rel H62b [v0_0] s.list:=fz_own 1 z65 rfl
 refine L_call rfl Tryz.call42 (ops2 rfl rfl) (s_l3Propagate_c (list:=s.list) (p:=p_30) s64 hb67 hx60) ?_
 rintro _ w68 ⟨rfl,hst⟩
 have hst:=k66 hst (co closed_int c0)
 refine L_geq rfl rfl rfl (nn (W_cond (b:=decide (x60.1 ≥ 0)) rfl (fun hc69=>?_) (fun hc69=>?_)))
 have hF:=(ite_t hc69).symm.trans hF
 refine W_seq ?_
 obtain ⟨x70,hx70,hF⟩:=bind_some hF
 refine W_region (L_lda (cs:=[v0_0,v0_1,I (i64 (s.fuel - 1))]) rfl Tryz.isAgg52 Tryz.sizeOf52 sf2 (At.sub0 (Blk.at (Star.blkAt 4 hst rfl)) 0 3) rfl (mF sf1 rfl ?_))
 have hst:=hst.gets [3,3] rfl
 refine L_call rfl Tryz.call43 (ops2 rfl rfl) (s_l5Learn_c (s:=({ list:=s.list,steps:=s.steps,fuel:=i64 (s.fuel - 1) } : Sst)) (decisions:=decisions) hst h1 hx70) ?_
 rintro _ w78 ⟨H78,l78,r78_0,r78_1,rfl,hst⟩
 refine L_bs rfl parts0 (bs_26_0  ) hst (fun g81 w82 hst=>?_)
 have hst:=Star.mkRow (R:=(OR.frz RP.bool)) [] [] 0 hst rfl rfl rfl (by decide)
 refine L_staB (vs:=#[r78_0,r78_1,I x70.fuel]) (cs2:=#[r78_0,r78_1,I x70.fuel]) 4 rfl Tryz.sizeOf52 sf4 rfl rfl (ones_cons (one_len (Star.len 1 hst rfl)) (ones_cons (one_len (Star.len 2 hst rfl)) (ones_cons rfl ones_nil))) hst rfl (by show 0 + 3≤3; decide) rfl (fun w84 hst=>aI rfl (aV (Sl g81 0 0) rfl (nn (W_ret (retG3 (v1:=.agg #[r78_0,r78_1,I x70.fuel]) (v2:=I 2) (v3:=(Sl g81 0 0)) Tryz.results20 (resV_agg Tryz.isAgg52 Tryz.sizeOf52 sf4 (Star.blkAt 0 hst rfl) rfl) rfl rfl ?_)))))
 obtain rfl:=so hF
 have hst:=hst.gets [1,3,3] rfl
 have hst:=Star.drop 3 hst rfl
 have hst:=Star.drop 3 hst rfl
 have hst:=Star.drop 3 hst rfl
 exact ⟨H78,l78,r78_0,r78_1,(Sl g81 0 0),rfl,hst⟩
 have hF:=(ite_f hc69).symm.trans hF
 refine W_skip (W_seq ?_)
 obtain ⟨x91,hx91,hF⟩:=bind_some hF
 refine W_region (mF sf7 rfl ?_)
 obtain ⟨H93b,l94,s95,z96,k97⟩:=hst.borrow
 have hb98 : (rS 3 RP.int).rel H93b [v26] x60.2:=fz_own 0 z96 rfl
 refine L_call rfl Tryz.call44 (ops1 rfl) (s_l5Free_c (p:=x60.2) s95 hb98 hx91) ?_
 rintro _ w99 ⟨rfl,hst⟩
 have hst:=k97 hst c0
 refine aI rfl (nq (sq (mI rfl (L_eql rfl rfl rfl (nn (W_cond (b:=(x91 == 0)) rfl (fun hc100=>?_) (fun hc100=>?_)))))))
 have hF:=(ite_t hc100).symm.trans hF
 refine sq (L_bs rfl parts0 (bs_26_0  ) hst (fun g104 w105 hst=>?_))
 have hst:=Star.mkRow (R:=(OR.frz RP.bool)) [] [] 0 hst rfl rfl rfl (by decide)
 refine aV (Sl g104 0 0) rfl (nq (sq (aI rfl (nn ?_))))
 have hlen110 : List.length x60.2≤9223372036854775807:=len_le (Star.len 1 hst rfl)
 obtain ⟨j110,hL110,hF⟩:=bind_some hF
 obtain ⟨R110,hR110⟩:=exR fun f w_=>∃ values_108 : List Bool,∃ v108_values : Value,j110 = .nx values_108∧f 2 = Pt g5∧f 4 = Pt g7∧f 10 = v108_values∧Star H w_ (oF 4 RP.bool v108_values values_108 :: box g7 52 #[S0,S0,I 0] :: oF 46 (rCon 85) v0_0 s.list :: oF 56 (rStep 85) v0_1 s.steps :: box g5 52 #[v0_0,v0_1,I (i64 (s.fuel - 1))] :: R)
 refine W_join R110 ?_ ?_
 refine W_block ?_
 obtain ⟨I110,hI110⟩:=exI fun n f w_=>∃ i_107 : Nat,∃ suf110 : List Int,∃ values_108 : List Bool,∃ v108_values : Value,n = suf110.length∧List.drop i_107 x60.2 = suf110∧i_107 + suf110.length = x60.2.length∧rangeL s_l5Search_b2 suf110 i_107 values_108 = some j110∧f 2 = Pt g5∧f 4 = Pt g7∧f 7 = v26∧f 10 = v108_values∧f 11 = I i_107∧Star H w_ (oF 3 RP.int v26 x60.2 :: oF 4 RP.bool v108_values values_108 :: box g7 52 #[S0,S0,I 0] :: oF 46 (rCon 85) v0_0 s.list :: oF 56 (rStep 85) v0_1 s.steps :: box g5 52 #[v0_0,v0_1,I (i64 (s.fuel - 1))] :: R)
 have hst:=hst.gets [5,5,5,5,4,5] rfl
 refine W_loop I110 (n:=x60.2.length) ?_ ?_
 exact ij hI110 ⟨0,x60.2,[],(Sl g104 0 0),rfl,rfl,Nat.zero_add _,hL110,sf2,sf4,sf7,rfl,rfl,hst⟩
 intro n110 f w_ hI
 obtain ⟨i_107,suf110,values_108,v108_values,rfl,hd110,hl110,hL110,sf2,sf4,sf7,sf10,sf11,hst⟩:=ik hI110 hI
 refine W_seq (sq (mF sf11 rfl (mF sf7 rfl (L_len rfl Tryz.underlying69 rfl (Star.len 0 hst rfl) (L_lss rfl rfl rfl (nn (W_cond (b:=decide ((i_107 : Int) < (x60.2.length : Int))) rfl (fun hc111=>?_) (fun hc111=>?_))))))))
 have hlt110:=of_decide_eq_true hc111
 rcases suf110 with _ | ⟨x_110,rest110⟩
 exact absurd hlt110 (by simp at hl110; omega)
 obtain ⟨o110,hB110,hL110⟩:=range_cons hL110
 rw [s_l5Search_b2] at hB110
 have hix110:=drop_idx hd110
 refine W_skip (W_seq (W_block ?_))
 obtain ⟨x119,hx119,hB110⟩:=bind_some hB110
 refine W_region (mF sf10 rfl (mF sf7 rfl (mF sf11 rfl ?_)))
 obtain ⟨g123,cap_g123,hv124,_,_⟩:=Star.row 0 hst rfl hix110
 refine L_ixO (R:=(OR.frz RP.int)) (tb:=0) 0 rfl Tryz.underlying69 Tryz.sizeOf3 rfl hv124 (by first | rfl | simp) rfl hix110 ?_
 obtain ⟨cs125,hr125,hat125⟩:=Star.eltF 0 hst rfl hv124 hix110
 obtain rfl : _ = [_]:=hr125
 refine L_ld rfl Tryz.isAgg3 rfl (At.cell hat125 (j:=0) rfl) (L_gtr rfl rfl rfl (L_bs rfl (parts1 rfl) (bs_26_1_0 (Bo (decide (x_110 > 0))) rfl) hst (fun g127 w128 hst=>?_)))
 have hst:=Star.addF (r:=RP.bool) (cs:=[Bo (decide (x_110 > 0))]) (x:=(decide (x_110 > 0))) hst rfl
 have hst:=Star.mkRow (R:=(OR.frz RP.bool)) [([Bo (decide (x_110 > 0))],decide (x_110 > 0))] [decide (x_110 > 0)] 1 hst rfl rfl rfl (by decide)
 have hst:=hst.get 2 rfl
 refine L_appM (v:=v108_values) (u:=(Sl g127 1 1)) rfl et_26 rfl rfl hst hx119 (fun v130 w131 hst=>aV v130 rfl (nn (W_region (mF sf11 rfl (L_add rfl rfl rfl (aI rfl (nn ?_)))))))
 obtain rfl:=so hB110
 have hst:=hst.gets [5,5,5,5,4,5] rfl
 show ∃ m,m < _∧I110 m _ _
 refine ⟨rest110.length,by simp,?_⟩
 exact ij hI110 ⟨i_107 + 1,rest110,x119,v130,rfl,drop_next hd110,by simp at hl110; omega,hL110,sf2,sf4,sf7,rfl,(Eq.trans rfl (congrArg (Value.int .i64) (i64_succ (n:=x60.2.length) (by simp at hl110; omega) hlen110))),hst⟩
 rcases suf110 with _ | ⟨_,_⟩
 obtain rfl:=range_nil hL110
 refine W_exit ?_
 have hst:=hst.gets [5,5,5,5,5] rfl
 have hst:=Star.drop 5 hst rfl
 exact rj hR110 ⟨values_108,v108_values,rfl,sf2,sf4,sf10,hst⟩
 exact absurd (of_decide_eq_false hc111) (by simp at hl110; omega)
 intro f w_ hR
 obtain ⟨values_108,v108_values,rfl,sf2,sf4,sf10,hst⟩:=rk hR110 hR
 refine sq (L_lda (cs:=[v0_0,v0_1,I (i64 (s.fuel - 1))]) rfl Tryz.isAgg52 Tryz.sizeOf52 sf2 (At.sub0 (Blk.at (Star.blkAt 4 hst rfl)) 0 3) rfl (mF sf10 rfl (L_staB (vs:=#[v0_0,v0_1,I (i64 (s.fuel - 1))]) (cs2:=#[v0_0,v0_1,I (i64 (s.fuel - 1))]) 1 rfl Tryz.sizeOf52 sf4 rfl rfl (ones_cons (one_len (Star.len 2 hst rfl)) (ones_cons (one_len (Star.len 3 hst rfl)) (ones_cons rfl ones_nil))) hst rfl (by show 0 + 3≤3; decide) rfl (fun w134 hst=>aI rfl (aV v108_values rfl (nn (W_ret (retG3 (v1:=.agg #[v0_0,v0_1,I (i64 (s.fuel - 1))]) (v2:=I 1) (v3:=v108_values) Tryz.results20 (resV_agg Tryz.isAgg52 Tryz.sizeOf52 sf4 (Star.blkAt 0 hst rfl) rfl) rfl rfl ?_))))))))
 obtain rfl:=so hF
 have hst:=hst.gets [1,3,3] rfl
 have hst:=Star.drop 3 hst rfl
 have hst:=Star.drop 3 hst rfl
 exact ⟨H,(Le.refl _),v0_0,v0_1,v108_values,rfl,hst⟩
 have hF:=(ite_f hc100).symm.trans hF
 refine W_skip (W_seq (sq (mI rfl (mI rfl (L_neg rfl rfl (L_bs rfl (parts2 rfl rfl) (bs_69_2_0_0 (I x91) (I (i64 (-x91))) rfl rfl) hst (fun g138 w139 hst=>?_)))))))
 have hst:=Star.addF (r:=RP.int) (cs:=[I (i64 (-x91))]) (x:=(i64 (-x91))) hst rfl
 have hst:=Star.addF (r:=RP.int) (cs:=[I x91]) (x:=x91) hst rfl
 have hst:=Star.mkRow (R:=(OR.frz RP.int)) [([I x91],x91),([I (i64 (-x91))],i64 (-x91))] [x91,i64 (-x91)] 2 hst rfl rfl rfl (by decide)
 refine L_len rfl Tryz.underlying69 rfl (Star.len 0 hst rfl) (mI rfl (nn ?_))
 have hlen149 : List.length ([x91,i64 (-x91)])≤9223372036854775807:=len_le (Star.len 0 hst rfl)
 obtain ⟨j149,hL149,hF⟩:=bind_some hF
 obtain ⟨R149,hR149⟩:=exR fun f w_=>∃ g5_0_142 : List Con,∃ g5_1_144 : List Step,∃ g5_2_146 : Int,∃ H147 : FH,∃ v142_g5_0 v144_g5_1 : Value,j149 = .nx (g5_0_142,g5_1_144,g5_2_146)∧Le H H147∧f 1 = v1∧f 2 = Pt g5∧f 4 = Pt g7∧Star H147 w_ (box g7 52 #[S0,S0,I 0] :: oF 46 (rCon 85) v142_g5_0 g5_0_142 :: oF 56 (rStep 85) v144_g5_1 g5_1_144 :: box g5 52 #[v142_g5_0,v144_g5_1,I g5_2_146] :: R)
 refine W_join R149 ?_ ?_
 refine W_block ?_
 obtain ⟨I149,hI149⟩:=exI fun n f w_=>∃ i_141 : Nat,∃ suf149 : List Int,∃ g5_0_142 : List Con,∃ g5_1_144 : List Step,∃ g5_2_146 : Int,∃ H147 : FH,∃ v142_g5_0 v144_g5_1 : Value,n = suf149.length∧List.drop i_141 ([x91,i64 (-x91)]) = suf149∧i_141 + suf149.length = ([x91,i64 (-x91)]).length∧rangeL (s_l5Search_b3 decisions rec_) suf149 i_141 (g5_0_142,g5_1_144,g5_2_146) = some j149∧Le H H147∧f 1 = v1∧f 2 = Pt g5∧f 4 = Pt g7∧f 77 = (Sl g138 2 2)∧f 78 = I (([x91,i64 (-x91)]).length : Int)∧f 79 = I i_141∧Star H147 w_ (oF 3 RP.int (Sl g138 2 2) ([x91,i64 (-x91)]) :: box g7 52 #[S0,S0,I 0] :: oF 46 (rCon 85) v142_g5_0 g5_0_142 :: oF 56 (rStep 85) v144_g5_1 g5_1_144 :: box g5 52 #[v142_g5_0,v144_g5_1,I g5_2_146] :: R)
 have hst:=hst.gets [5,5,5,5,4] rfl
 have hst:=Star.drop 5 hst rfl
 refine W_loop I149 (n:=([x91,i64 (-x91)]).length) ?_ ?_
 exact ij hI149 ⟨0,[x91,i64 (-x91)],s.list,s.steps,i64 (s.fuel - 1),H,v0_0,v0_1,rfl,rfl,Nat.zero_add _,hL149,(Le.refl _),sf1,sf2,sf4,rfl,rfl,rfl,hst⟩
 intro n149 f w_ hI
 obtain ⟨i_141,suf149,g5_0_142,g5_1_144,g5_2_146,H147,v142_g5_0,v144_g5_1,rfl,hd149,hl149,hL149,l148,sf1,sf2,sf4,sf77,sf78,sf79,hst⟩:=ik hI149 hI
 refine sq (L_lss rfl sf79 sf78 (nq (W_cond (b:=decide ((i_141 : Int) < (([x91,i64 (-x91)]).length : Int))) rfl (fun hc150=>?_) (fun hc150=>?_))))
 have hlt149:=of_decide_eq_true hc150
 rcases suf149 with _ | ⟨x_149,rest149⟩
 exact absurd hlt149 (by simp only [List.length_cons,List.length_nil] at *; omega)
 obtain ⟨o149,hB149,hL149⟩:=range_cons hL149
 rw [s_l5Search_b3] at hB149
 have hix149:=drop_idx hd149
 refine W_skip (W_seq (W_block (sq (L_ixO (R:=(OR.frz RP.int)) (tb:=0) (g:=g138) 0 rfl Tryz.underlying69 Tryz.sizeOf3 sf77 rfl (by first | rfl | simp) sf79 hix149 ?_))))
 obtain ⟨cs153,hr153,hat153⟩:=Star.eltF 0 hst rfl rfl hix149
 obtain rfl : _ = [_]:=hr153
 refine L_ld rfl Tryz.isAgg3 rfl (At.cell hat153 (j:=0) rfl) (aI rfl (ns (aI rfl (ns (L_bs rfl parts0 (bs_26_0  ) hst (fun g158 w159 hst=>?_))))))
 have hst:=Star.mkRow (R:=(OR.frz RP.bool)) [] [] 0 hst rfl rfl rfl (by decide)
 refine aV (Sl g158 0 0) rfl (nq ?_)
 obtain ⟨x164,hx164,hB149⟩:=bind_some hB149
 obtain ⟨x171,hx171,hB149⟩:=bind_some hB149
 obtain ⟨x178,hx178,hB149⟩:=bind_some hB149
 refine W_drawS 14 [isV (.agg #[v142_g5_0,v144_g5_1,I g5_2_146]),anyF,isV (v1),anyF,isV (I x_149),anyF,anyF,tup3 (exA fun u_0=>exA fun u_1=>isV (.agg #[u_0,u_1,I x178.1.fuel])) (isV (I x178.2.1)) (anyF),tup3 (exA fun u_0=>exA fun u_1=>isV (.agg #[u_0,u_1,I x178.1.fuel])) (isV (I x178.2.1)) (anyF),exA fun u_0=>exA fun u_1=>isV (.agg #[u_0,u_1,I x178.1.fuel]),isV (I x178.2.1),anyF,anyF,isV (I x178.2.1)] [oF 4 RP.bool (Sl g158 0 0) ([]),oF 3 RP.int (Sl g138 2 2) ([x91,i64 (-x91)]),box g7 52 #[S0,S0,I 0]] [.base (oF 46 (rCon 85) v142_g5_0 g5_0_142) (some 7),.base (oF 56 (rStep 85) v144_g5_1 g5_1_144) (some 7),.base (box g5 52 #[v142_g5_0,v144_g5_1,I g5_2_146]) (some 12),.made 1 86 (fun v_=>oF 3 RP.int v_ ([])) (some 3),.made 3 88 (fun v_=>oF 3 RP.int v_ x164) (some 6),.made 5 90 (fun v_=>oF 3 RP.int v_ ([x_149])) (some 6),.made 6 91 (fun v_=>oF 3 RP.int v_ x171) (some 7),.made 7 92 (fun v_=>own (OR.ownS 46 (OR.frz (rCon 85))) [(aggC (tupC v_ 0) 0)] x178.1.list) (some 8),.made 7 92 (fun v_=>own (OR.ownS 56 (OR.frz (rStep 85))) [(aggC (tupC v_ 0) 1)] x178.1.steps) (some 8),.made 7 92 (fun v_=>oF 4 RP.bool (tupC v_ 2) x178.2.2) (some 8),.made 8 84 (fun v_=>own (OR.ownS 46 (OR.frz (rCon 85))) [(aggC (tupC v_ 0) 0)] x178.1.list) (some 9),.made 8 84 (fun v_=>own (OR.ownS 56 (OR.frz (rStep 85))) [(aggC (tupC v_ 0) 1)] x178.1.steps) (some 9),.made 8 84 (fun v_=>oF 4 RP.bool (tupC v_ 2) x178.2.2) (some 11),.made 9 93 (fun v_=>oF 46 (rCon 85) (aggC v_ 0) x178.1.list) none,.made 9 93 (fun v_=>oF 56 (rStep 85) (aggC v_ 1) x178.1.steps) none,.made 11 95 (fun v_=>oF 4 RP.bool v_ x178.2.2) none,.madeN 12 [93] (fun vs_=>box g5 52 #[(aggC (vs_.getD 0 undef) 0),(aggC (vs_.getD 0 undef) 1),I x178.1.fuel]) none] (R) [([2],[2]),([],[3]),([],[]),([3],[4]),([],[]),([],[5]),([4,5],[6]),([0,1,6],[7,8,9]),([7,8,9],[10,11,12]),([10,11],[13,14]),([],[]),([12],[15]),([2,13,14],[13,14,16]),([],[])] (S:=[(none,[],some 7),(none,[],some 7),(none,[],some 12),(some 1,[86],some 3),(some 3,[88],some 6),(some 5,[90],some 6),(some 6,[91],some 7),(some 7,[92],some 8),(some 7,[92],some 8),(some 7,[92],some 8),(some 8,[84],some 9),(some 8,[84],some 9),(some 8,[84],some 11),(some 9,[93],none),(some 9,[93],none),(some 11,[95],none),(some 12,[93],none)]) Tryz_mix (by kernel_rfl) rfl (by kernel_rfl) (amF_cons (mono_V _) (amF_cons (mono_any) (amF_cons (mono_V _) (amF_cons (mono_any) (amF_cons (mono_V _) (amF_cons (mono_any) (amF_cons (mono_any) (amF_cons (mono_tup3 (mono_exA fun _=>mono_exA fun _=>mono_V _) (mono_V _) (mono_any)) (amF_cons (mono_tup3 (mono_exA fun _=>mono_exA fun _=>mono_V _) (mono_V _) (mono_any)) (amF_cons (mono_exA fun _=>mono_exA fun _=>mono_V _) (amF_cons (mono_V _) (amF_cons (mono_any) (amF_cons (mono_any) (amF_cons (mono_V _) amF_nil)))))))))))))) hst ?_ (fun f w_ H184 hS184 hE184 hT184 hst=>?_)
 refine opsS_cons ?_ ?_
 intro f w_ H184 X184 hS184 hE184 hP184 hst
 have hst : Star H184 w_ (oF 4 RP.bool (Sl g158 0 0) ([]) :: oF 3 RP.int (Sl g138 2 2) ([x91,i64 (-x91)]) :: box g7 52 #[S0,S0,I 0] :: box g5 52 #[v142_g5_0,v144_g5_1,I g5_2_146] :: X184):=hst
 refine L_lda (cs:=[v142_g5_0,v144_g5_1,I g5_2_146]) rfl Tryz.isAgg52 Tryz.sizeOf52 ((hS184 2 rfl).trans sf2) (At.sub0 (Blk.at (Star.blkAt 3 hst rfl)) 0 3) rfl (L_nil ⟨rfl,_,_,rfl,Le.refl _,fun _ _=>rfl,hst⟩)
 refine opsS_cons ?_ ?_
 intro f w_ H184 X184 hS184 hE184 hP184 hst
 refine L_bs rfl parts0 (bs_69_0  ) hst (fun g205 w206 hst=>?_)
 have hst:=Star.mkRow (R:=(OR.frz RP.int)) [] [] 0 hst rfl rfl rfl (by decide)
 have hst:=hst.gets [3,3,3] rfl
 exact L_nil ⟨rfl,_,_,rfl,Le.refl _,fun _ _=>trivial,hst⟩
 refine opsS_cons (fun f w_ _ _ s _ _ hst=>mF ((s 1 rfl).trans sf1) rfl (nO rfl rfl hst)) (opsS_cons ?_ ?_)
 intro f w_ H184 X184 hS184 hE184 hP184 hst
 have hst : Star H184 w_ (oF 4 RP.bool (Sl g158 0 0) ([]) :: oF 3 RP.int (Sl g138 2 2) ([x91,i64 (-x91)]) :: box g7 52 #[S0,S0,I 0] :: oF 3 RP.int (f 86) ([]) :: X184):=hst
 have hst:=hst.get 3 rfl
 refine L_app (v:=(f 86)) (u:=v1) rfl et_69 rfl (hP184 2 87 rfl rfl) hst (RP.mono _ h1 (Le.trans l148 hE184)) hx164 (fun v209 w210 hst=>?_)
 have hst:=hst.gets [3,3,3] rfl
 exact L_nil ⟨rfl,_,_,rfl,Le.refl _,fun _ _=>trivial,hst⟩
 refine opsS_cons (fun f w_ _ _ s _ _ hst=>mF ((s 13 rfl).trans rfl) rfl (nO rfl rfl hst)) (opsS_cons ?_ ?_)
 intro f w_ H184 X184 hS184 hE184 hP184 hst
 refine L_bs rfl (parts1 (hP184 4 89 rfl rfl)) (bs_69_1_0 (I x_149) rfl) hst (fun g212 w213 hst=>?_)
 have hst:=Star.addF (r:=RP.int) (cs:=[I x_149]) (x:=x_149) hst rfl
 have hst:=Star.mkRow (R:=(OR.frz RP.int)) [([I x_149],x_149)] [x_149] 1 hst rfl rfl rfl (by decide)
 have hst:=hst.gets [3,3,3] rfl
 exact L_nil ⟨rfl,_,_,rfl,Le.refl _,fun _ _=>trivial,hst⟩
 refine opsS_cons ?_ ?_
 intro f w_ H184 X184 hS184 hE184 hP184 hst
 have hst : Star H184 w_ (oF 4 RP.bool (Sl g158 0 0) ([]) :: oF 3 RP.int (Sl g138 2 2) ([x91,i64 (-x91)]) :: box g7 52 #[S0,S0,I 0] :: oF 3 RP.int (f 88) x164 :: oF 3 RP.int (f 90) ([x_149]) :: X184):=hst
 have hst:=hst.gets [4,4] rfl
 refine L_appM (v:=(f 88)) (u:=(f 90)) rfl et_69 rfl rfl hst hx171 (fun v217 w218 hst=>?_)
 have hst:=hst.gets [3,3,3] rfl
 exact L_nil ⟨rfl,_,_,rfl,Le.refl _,fun _ _=>trivial,hst⟩
 refine opsS_cons ?_ ?_
 intro f w_ H184 X184 hS184 hE184 hP184 hst
 have hst : Star H184 w_ (oF 4 RP.bool (Sl g158 0 0) ([]) :: oF 3 RP.int (Sl g138 2 2) ([x91,i64 (-x91)]) :: box g7 52 #[S0,S0,I 0] :: oF 46 (rCon 85) v142_g5_0 g5_0_142 :: oF 56 (rStep 85) v144_g5_1 g5_1_144 :: oF 3 RP.int (f 91) x171 :: X184):=hst
 have hst:=hst.get 5 rfl
 obtain ⟨H221,l222,hst,hz223⟩:=Star.freeze hst
 have hz223 : (rS 3 RP.int).rel H221 [(f 91)] x171:=hz223
 have hst:=hst.gets [4,4] rfl
 refine L_call rfl Tryz.call20 (ops2 (hP184 0 85 rfl rfl) rfl) (hrec (s:=({ list:=g5_0_142,steps:=g5_1_144,fuel:=g5_2_146 } : Sst)) (decisions:=x171) hst hz223 hx178) ?_
 rintro _ w224 ⟨H224,l224,r224_0,r224_1,r224_2,rfl,hst⟩
 have hst:=hst.gets [2,2,2,5,5,5] rfl
 exact L_nil ⟨rfl,_,_,rfl,(Le.trans l222 l224),fun _ _=>⟨_,_,_,rfl,⟨_,_,rfl⟩,rfl,trivial⟩,hst⟩
 refine opsS_cons ?_ ?_
 intro f w_ H184 X184 hS184 hE184 hP184 hst
 have hst : Star H184 w_ (oF 4 RP.bool (Sl g158 0 0) ([]) :: oF 3 RP.int (Sl g138 2 2) ([x91,i64 (-x91)]) :: box g7 52 #[S0,S0,I 0] :: own (OR.ownS 46 (OR.frz (rCon 85))) [(aggC (tupC (f 92) 0) 0)] x178.1.list :: own (OR.ownS 56 (OR.frz (rStep 85))) [(aggC (tupC (f 92) 0) 1)] x178.1.steps :: own (OR.ownS 4 (OR.frz RP.bool)) [(tupC (f 92) 2)] x178.2.2 :: X184):=hst
 obtain ⟨a228_0,a228_1,a228_2,hv228,ht228_0,ht228_1,ht228_2⟩:=(hP184 7 92 rfl rfl)
 obtain ⟨u229_0,u229_1,rfl⟩:=ht228_0
 obtain rfl:=ht228_1
 have hren : Star H184 w_ (oF 4 RP.bool (Sl g158 0 0) ([]) :: oF 3 RP.int (Sl g138 2 2) ([x91,i64 (-x91)]) :: box g7 52 #[S0,S0,I 0] :: own (OR.ownS 46 (OR.frz (rCon 85))) [(aggC (tupC (f 92) 0) 0)] x178.1.list :: own (OR.ownS 56 (OR.frz (rStep 85))) [(aggC (tupC (f 92) 0) 1)] x178.1.steps :: own (OR.ownS 4 (OR.frz RP.bool)) [(tupC (f 92) 2)] x178.2.2 :: X184):=hst
 rw [hv228] at hren
 have hst : Star H184 w_ (oF 4 RP.bool (Sl g158 0 0) ([]) :: oF 3 RP.int (Sl g138 2 2) ([x91,i64 (-x91)]) :: box g7 52 #[S0,S0,I 0] :: oF 46 (rCon 85) u229_0 x178.1.list :: oF 56 (rStep 85) u229_1 x178.1.steps :: oF 4 RP.bool a228_2 x178.2.2 :: X184):=hren
 refine mF hv228 rfl (L_nil ⟨rfl,_,_,rfl,Le.refl _,fun _ _=>⟨_,_,_,rfl,⟨_,_,rfl⟩,rfl,trivial⟩,hst⟩)
 refine opsS_cons ?_ ?_
 intro f w_ H184 X184 hS184 hE184 hP184 hst
 have hst : Star H184 w_ (oF 4 RP.bool (Sl g158 0 0) ([]) :: oF 3 RP.int (Sl g138 2 2) ([x91,i64 (-x91)]) :: box g7 52 #[S0,S0,I 0] :: own (OR.ownS 46 (OR.frz (rCon 85))) [(aggC (tupC (f 84) 0) 0)] x178.1.list :: own (OR.ownS 56 (OR.frz (rStep 85))) [(aggC (tupC (f 84) 0) 1)] x178.1.steps :: X184):=hst
 obtain ⟨a230_0,a230_1,a230_2,hv230,ht230_0,ht230_1,ht230_2⟩:=(hP184 8 84 rfl rfl)
 obtain ⟨u231_0,u231_1,rfl⟩:=ht230_0
 obtain rfl:=ht230_1
 have hren : Star H184 w_ (oF 4 RP.bool (Sl g158 0 0) ([]) :: oF 3 RP.int (Sl g138 2 2) ([x91,i64 (-x91)]) :: box g7 52 #[S0,S0,I 0] :: own (OR.ownS 46 (OR.frz (rCon 85))) [(aggC (tupC (f 84) 0) 0)] x178.1.list :: own (OR.ownS 56 (OR.frz (rStep 85))) [(aggC (tupC (f 84) 0) 1)] x178.1.steps :: X184):=hst
 rw [hv230] at hren
 have hst : Star H184 w_ (oF 4 RP.bool (Sl g158 0 0) ([]) :: oF 3 RP.int (Sl g138 2 2) ([x91,i64 (-x91)]) :: box g7 52 #[S0,S0,I 0] :: oF 46 (rCon 85) u231_0 x178.1.list :: oF 56 (rStep 85) u231_1 x178.1.steps :: X184):=hren
 refine L_ex (v:=.agg #[u231_0,u231_1,I x178.1.fuel]) rfl hv230 rfl (L_nil ⟨rfl,_,_,rfl,Le.refl _,fun _ _=>⟨_,_,rfl⟩,hst⟩)
 refine opsS_cons ?_ ?_
 intro f w_ H184 X184 hS184 hE184 hP184 hst
 obtain ⟨a232_0,a232_1,a232_2,hv232,ht232_0,ht232_1,ht232_2⟩:=(hP184 8 84 rfl rfl)
 obtain ⟨u233_0,u233_1,rfl⟩:=ht232_0
 obtain rfl:=ht232_1
 refine L_ex (v:=I x178.2.1) rfl hv232 rfl (L_nil ⟨rfl,_,_,rfl,Le.refl _,fun _ _=>rfl,hst⟩)
 refine opsS_cons ?_ ?_
 intro f w_ H184 X184 hS184 hE184 hP184 hst
 have hst : Star H184 w_ (oF 4 RP.bool (Sl g158 0 0) ([]) :: oF 3 RP.int (Sl g138 2 2) ([x91,i64 (-x91)]) :: box g7 52 #[S0,S0,I 0] :: own (OR.ownS 4 (OR.frz RP.bool)) [(tupC (f 84) 2)] x178.2.2 :: X184):=hst
 obtain ⟨a234_0,a234_1,a234_2,hv234,ht234_0,ht234_1,ht234_2⟩:=(hP184 8 84 rfl rfl)
 obtain ⟨u235_0,u235_1,rfl⟩:=ht234_0
 obtain rfl:=ht234_1
 have hren : Star H184 w_ (oF 4 RP.bool (Sl g158 0 0) ([]) :: oF 3 RP.int (Sl g138 2 2) ([x91,i64 (-x91)]) :: box g7 52 #[S0,S0,I 0] :: own (OR.ownS 4 (OR.frz RP.bool)) [(tupC (f 84) 2)] x178.2.2 :: X184):=hst
 rw [hv234] at hren
 have hst : Star H184 w_ (oF 4 RP.bool (Sl g158 0 0) ([]) :: oF 3 RP.int (Sl g138 2 2) ([x91,i64 (-x91)]) :: box g7 52 #[S0,S0,I 0] :: oF 4 RP.bool a234_2 x178.2.2 :: X184):=hren
 refine L_ex (v:=a234_2) rfl hv234 rfl (L_nil ⟨rfl,_,_,rfl,Le.refl _,fun _ _=>trivial,hst⟩)
 refine opsS_cons ?_ ?_
 intro f w_ H184 X184 hS184 hE184 hP184 hst
 have hst : Star H184 w_ (oF 4 RP.bool (Sl g158 0 0) ([]) :: oF 3 RP.int (Sl g138 2 2) ([x91,i64 (-x91)]) :: box g7 52 #[S0,S0,I 0] :: box g5 52 #[v142_g5_0,v144_g5_1,I g5_2_146] :: own (OR.ownS 46 (OR.frz (rCon 85))) [(aggC (f 93) 0)] x178.1.list :: own (OR.ownS 56 (OR.frz (rStep 85))) [(aggC (f 93) 1)] x178.1.steps :: X184):=hst
 obtain ⟨u236_0,u236_1,hv236⟩:=(hP184 9 93 rfl rfl)
 have hren : Star H184 w_ (oF 4 RP.bool (Sl g158 0 0) ([]) :: oF 3 RP.int (Sl g138 2 2) ([x91,i64 (-x91)]) :: box g7 52 #[S0,S0,I 0] :: box g5 52 #[v142_g5_0,v144_g5_1,I g5_2_146] :: own (OR.ownS 46 (OR.frz (rCon 85))) [(aggC (f 93) 0)] x178.1.list :: own (OR.ownS 56 (OR.frz (rStep 85))) [(aggC (f 93) 1)] x178.1.steps :: X184):=hst
 rw [hv236] at hren
 have hst : Star H184 w_ (oF 4 RP.bool (Sl g158 0 0) ([]) :: oF 3 RP.int (Sl g138 2 2) ([x91,i64 (-x91)]) :: box g7 52 #[S0,S0,I 0] :: box g5 52 #[v142_g5_0,v144_g5_1,I g5_2_146] :: oF 46 (rCon 85) u236_0 x178.1.list :: oF 56 (rStep 85) u236_1 x178.1.steps :: X184):=hren
 refine L_staB (vs:=#[u236_0,u236_1,I x178.1.fuel]) (cs2:=#[u236_0,u236_1,I x178.1.fuel]) 3 rfl Tryz.sizeOf52 ((hS184 2 rfl).trans sf2) hv236 rfl (ones_cons (one_len (Star.len 4 hst rfl)) (ones_cons (one_len (Star.len 5 hst rfl)) (ones_cons rfl ones_nil))) hst rfl (by show 0 + 3≤3; decide) rfl (fun w237 hst=>?_)
 have hst:=hst.gets [5,5,5,5,5] rfl
 have hst : Star H184 w237 (oF 4 RP.bool (Sl g158 0 0) ([]) :: oF 3 RP.int (Sl g138 2 2) ([x91,i64 (-x91)]) :: box g7 52 #[S0,S0,I 0] :: own (OR.ownS 46 (OR.frz (rCon 85))) [(aggC (f 93) 0)] x178.1.list :: own (OR.ownS 56 (OR.frz (rStep 85))) [(aggC (f 93) 1)] x178.1.steps :: box g5 52 #[(aggC (f 93) 0),(aggC (f 93) 1),I x178.1.fuel] :: X184):=by rw [hv236]; exact hst
 exact L_nil ⟨rfl,Bo false,_,rfl,Le.refl _,(fun _ h=>nomatch h),hst⟩
 refine opsS_cons (fun f w_ _ _ _ _ p hst=>aF (p 10 94 rfl rfl) rfl (nO rfl rfl hst)) (opsS_nil)
 have hst : Star H184 w_ (oF 4 RP.bool (Sl g158 0 0) ([]) :: oF 3 RP.int (Sl g138 2 2) ([x91,i64 (-x91)]) :: box g7 52 #[S0,S0,I 0] :: own (OR.ownS 46 (OR.frz (rCon 85))) [(aggC (f 93) 0)] x178.1.list :: own (OR.ownS 56 (OR.frz (rStep 85))) [(aggC (f 93) 1)] x178.1.steps :: oF 4 RP.bool (f 95) x178.2.2 :: box g5 52 #[(aggC (f 93) 0),(aggC (f 93) 1),I x178.1.fuel] :: R):=hst
 refine aV (f 95) rfl (ns (mF (hT184 13 14 rfl rfl) rfl (L_neq rfl rfl rfl (nn (W_cond (b:=(x178.2.1 != 2)) rfl (fun hc239=>?_) (fun hc239=>?_))))))
 have hB149:=(ite_t hc239).symm.trans hB149
 refine sq (L_lda (cs:=[(aggC (f 93) 0),(aggC (f 93) 1),I x178.1.fuel]) rfl Tryz.isAgg52 Tryz.sizeOf52 ((hS184 2 rfl).trans sf2) (At.sub0 (Blk.at (Star.blkAt 6 hst rfl)) 0 3) rfl (mF (hT184 13 14 rfl rfl) rfl (mV (f 95) rfl (L_staB (vs:=#[(aggC (f 93) 0),(aggC (f 93) 1),I x178.1.fuel]) (cs2:=#[(aggC (f 93) 0),(aggC (f 93) 1),I x178.1.fuel]) 2 rfl Tryz.sizeOf52 ((hS184 4 rfl).trans sf4) rfl rfl (ones_cons (one_len (Star.len 3 hst rfl)) (ones_cons (one_len (Star.len 4 hst rfl)) (ones_cons rfl ones_nil))) hst rfl (by show 0 + 3≤3; decide) rfl (fun w241 hst=>aI rfl (aV (f 95) rfl (nn (W_ret (retG3 (v1:=.agg #[(aggC (f 93) 0),(aggC (f 93) 1),I x178.1.fuel]) (v2:=I x178.2.1) (v3:=(f 95)) Tryz.results20 (resV_agg Tryz.isAgg52 Tryz.sizeOf52 ((hS184 4 rfl).trans sf4) (Star.blkAt 0 hst rfl) rfl) rfl rfl ?_)))))))))
 obtain rfl:=so hB149
 obtain rfl:=so hL149
 obtain rfl:=so hF
 have hst:=hst.gets [5,5,5] rfl
 have hst:=Star.drop 3 hst rfl
 have hst:=Star.drop 3 hst rfl
 have hst:=Star.drop 3 hst rfl
 have hst:=Star.drop 3 hst rfl
 exact ⟨H184,(Le.trans l148 hE184),(aggC (f 93) 0),(aggC (f 93) 1),(f 95),rfl,hst⟩
 have hB149:=(ite_f hc239).symm.trans hB149
 refine W_skip (W_region (L_add rfl ((hS184 79 rfl).trans sf79) rfl (mI rfl (nn ?_))))
 obtain rfl:=so hB149
 have hst:=hst.gets [6,5,5,5,5] rfl
 have hst:=Star.drop 5 hst rfl
 have hst:=Star.drop 5 hst rfl
 show ∃ m,m < _∧I149 m _ _
 refine ⟨rest149.length,by simp,?_⟩
 exact ij hI149 ⟨i_141 + 1,rest149,x178.1.list,x178.1.steps,x178.1.fuel,H184,(aggC (f 93) 0),(aggC (f 93) 1),rfl,drop_next hd149,by simp only [List.length_cons,List.length_nil] at *; omega,hL149,(Le.trans l148 hE184),((hS184 1 rfl).trans sf1),((hS184 2 rfl).trans sf2),((hS184 4 rfl).trans sf4),((hS184 77 rfl).trans sf77),((hS184 78 rfl).trans sf78),(Eq.trans rfl (congrArg (Value.int .i64) (i64_succ (n:=([x91,i64 (-x91)]).length) (by simp only [List.length_cons,List.length_nil] at *; omega) hlen149))),hst⟩
 rcases suf149 with _ | ⟨_,_⟩
 obtain rfl:=range_nil hL149
 refine W_exit ?_
 have hst:=hst.gets [4,4,4,4] rfl
 have hst:=Star.drop 4 hst rfl
 exact rj hR149 ⟨g5_0_142,g5_1_144,g5_2_146,H147,v142_g5_0,v144_g5_1,rfl,l148,sf1,sf2,sf4,hst⟩
 exact absurd (of_decide_eq_false hc150) (by simp only [List.length_cons,List.length_nil] at *; omega)
 intro f w_ hR
 obtain ⟨g5_0_142,g5_1_144,g5_2_146,H147,v142_g5_0,v144_g5_1,rfl,l148,sf1,sf2,sf4,hst⟩:=rk hR149 hR
 refine W_seq (sq (fA 1 fa_52_1 sf2 rfl (ldB 3 hst Tryz.isAgg27 rfl rfl rfl (L_len rfl Tryz.underlying27 rfl (Star.len 2 hst rfl) (L_geq rfl rfl rfl (nn (W_cond (b:=decide ((g5_1_144.length : Int) ≥ 1000)) rfl (fun hc242=>?_) (fun hc242=>?_))))))))
 have hF:=(ite_t hc242).symm.trans hF
 refine sq (L_lda (cs:=[v142_g5_0,v144_g5_1,I g5_2_146]) rfl Tryz.isAgg52 Tryz.sizeOf52 sf2 (At.sub0 (Blk.at (Star.blkAt 3 hst rfl)) 0 3) rfl (L_bs rfl parts0 (bs_26_0  ) hst (fun g247 w248 hst=>?_)))
 have hst:=Star.mkRow (R:=(OR.frz RP.bool)) [] [] 0 hst rfl rfl rfl (by decide)
 refine L_staB (vs:=#[v142_g5_0,v144_g5_1,I g5_2_146]) (cs2:=#[v142_g5_0,v144_g5_1,I g5_2_146]) 1 rfl Tryz.sizeOf52 sf4 rfl rfl (ones_cons (one_len (Star.len 2 hst rfl)) (ones_cons (one_len (Star.len 3 hst rfl)) (ones_cons rfl ones_nil))) hst rfl (by show 0 + 3≤3; decide) rfl (fun w250 hst=>aI rfl (aV (Sl g247 0 0) rfl (nn (W_ret (retG3 (v1:=.agg #[v142_g5_0,v144_g5_1,I g5_2_146]) (v2:=I 0) (v3:=(Sl g247 0 0)) Tryz.results20 (resV_agg Tryz.isAgg52 Tryz.sizeOf52 sf4 (Star.blkAt 0 hst rfl) rfl) rfl rfl ?_)))))
 obtain rfl:=so hF
 have hst:=hst.gets [1,3,3] rfl
 have hst:=Star.drop 3 hst rfl
 have hst:=Star.drop 3 hst rfl
 exact ⟨H147,l148,v142_g5_0,v144_g5_1,(Sl g247 0 0),rfl,hst⟩
 have hF:=(ite_f hc242).symm.trans hF
 refine W_skip (W_seq ?_)
 obtain ⟨x251,hx251,hF⟩:=bind_some hF
 refine W_region (L_lda (cs:=[v142_g5_0,v144_g5_1,I g5_2_146]) rfl Tryz.isAgg52 Tryz.sizeOf52 sf2 (At.sub0 (Blk.at (Star.blkAt 3 hst rfl)) 0 3) rfl (mF sf1 rfl ?_))
 have hst:=hst.gets [2,2] rfl
 refine L_call rfl Tryz.call43 (ops2 rfl rfl) (s_l5Learn_c (s:=({ list:=g5_0_142,steps:=g5_1_144,fuel:=g5_2_146 } : Sst)) (decisions:=decisions) hst (RP.mono _ h1 l148) hx251) ?_
 rintro _ w259 ⟨H259,l259,r259_0,r259_1,rfl,hst⟩
 refine L_bs rfl parts0 (bs_26_0  ) hst (fun g262 w263 hst=>?_)
 have hst:=Star.mkRow (R:=(OR.frz RP.bool)) [] [] 0 hst rfl rfl rfl (by decide)
 refine L_staB (vs:=#[r259_0,r259_1,I x251.fuel]) (cs2:=#[r259_0,r259_1,I x251.fuel]) 3 rfl Tryz.sizeOf52 sf4 rfl rfl (ones_cons (one_len (Star.len 1 hst rfl)) (ones_cons (one_len (Star.len 2 hst rfl)) (ones_cons rfl ones_nil))) hst rfl (by show 0 + 3≤3; decide) rfl (fun w265 hst=>aI rfl (aV (Sl g262 0 0) rfl (nn (W_ret (retG3 (v1:=.agg #[r259_0,r259_1,I x251.fuel]) (v2:=I 2) (v3:=(Sl g262 0 0)) Tryz.results20 (resV_agg Tryz.isAgg52 Tryz.sizeOf52 sf4 (Star.blkAt 0 hst rfl) rfl) rfl rfl ?_)))))
 obtain rfl:=so hF
 have hst:=hst.gets [1,3,3] rfl
 have hst:=Star.drop 3 hst rfl
 have hst:=Star.drop 3 hst rfl
 exact ⟨H259,(Le.trans l148 l259),r259_0,r259_1,(Sl g262 0 0),rfl,hst⟩
theorem s_l5Search_R_c {fu : Nat} : ∀ (n : Nat) {s : Sst} {decisions : List Int} {v0_0 : Value} {v0_1 : Value} {v1 : Value} {H : FH} {w : World} {R : List Ass} (hst : Star H w (oF 46 (rCon 85) v0_0 s.list :: oF 56 (rStep 85) v0_1 s.steps :: R)) (h1 : (rS 3 RP.int).rel H [v1] decisions) {r : Sst × Int × (List Bool)} (hF : s_l5Search_R fu n s decisions = some r),C Tryz.prog 20 #[.agg #[v0_0,v0_1,I s.fuel],v1] w fun v w'=>∃ H' : FH,Le H H'∧∃ (u1 : Value) (u2 : Value) (u3 : Value),v = .tuple #[.agg #[u1,u2,I r.1.fuel],I r.2.1,u3]∧Star H' w' (oF 46 (rCon 85) u1 r.1.list :: oF 56 (rStep 85) u2 r.1.steps :: oF 4 RP.bool u3 r.2.2 :: R):=by
 intro n
 induction n with
 | zero=>intros; rename_i hF; cases hF
 | succ n ih=>intros; rename_i hst h1 _ hF; exact s_l5Search_F_c ih hst h1 hF
theorem s_l5Search_c {fu : Nat} {s : Sst} {decisions : List Int} {v0_0 : Value} {v0_1 : Value} {v1 : Value} {H : FH} {w : World} {R : List Ass} (hst : Star H w (oF 46 (rCon 85) v0_0 s.list :: oF 56 (rStep 85) v0_1 s.steps :: R)) (h1 : (rS 3 RP.int).rel H [v1] decisions) {r : Sst × Int × (List Bool)} (hF : s_l5Search fu s decisions = some r) :
 C Tryz.prog 20 #[.agg #[v0_0,v0_1,I s.fuel],v1] w fun v w'=>∃ H' : FH,Le H H'∧∃ (u1 : Value) (u2 : Value) (u3 : Value),v = .tuple #[.agg #[u1,u2,I r.1.fuel],I r.2.1,u3]∧Star H' w' (oF 46 (rCon 85) u1 r.1.list :: oF 56 (rStep 85) u2 r.1.steps :: oF 4 RP.bool u3 r.2.2 :: R):=s_l5Search_R_c fu hst h1 hF
theorem s_SolveProblem_c {fu : Nat} {list : List Con} {fuel : Int} {v0 : Value} {H : FH} {w : World} (hst : Star H w []) (h0 : (rS 46 (rCon 85)).rel H [v0] list) {r : Int × (List Bool) × (List Step)} (hF : s_SolveProblem fu list fuel = some r) :
 C Tryz.prog 6 #[v0,I fuel] w fun v w'=>∃ (u1 : Value) (u2 : Value),v = .tuple #[I r.1,u1,u2]∧Star H w' [oF 4 RP.bool u1 r.2.1,oS 56 (oStep 85) u2 r.2.2]:=by
 unfold s_SolveProblem at hF
 refine C_enter Tryz.func6 rfl Tryz.ntmps6 rfl (sq (aI rfl (aV S0 rfl (aV S0 rfl (nq (W_seq ?_))))))
 obtain ⟨x6,hx6,hF⟩:=bind_some hF
 obtain ⟨R8,hR8⟩:=exR fun f w_=>f 0 = v0∧f 1 = I fuel∧f 23 = Bo (((!x6) || (decide (fuel < 0))) || (decide (fuel > 2000)))∧Star H w_ ([])
 refine W_join R8 ?_ ?_
 refine W_region (mV v0 rfl ?_)
 obtain ⟨H9b,l10,s11,z12,k13⟩:=hst.borrow
 refine L_call rfl Tryz.call19 (ops1 rfl) (s_ProblemValid_c (list:=list) s11 (RP.mono _ h0 l10) hx6) ?_
 rintro _ w14 ⟨rfl,hst⟩
 have hst:=k13 hst c0
 refine L_not_ rfl rfl (mB rfl (L_split (d:=16) (b:=(!x6)) rfl (fun hc15=>?_) (fun hc15=>?_)))
 refine ps rfl (ps rfl (L_pick (v:=Bo ((!x6) || (decide (fuel < 0)))) rfl rfl (or_t hc15) (mB rfl (L_split (d:=20) (b:=((!x6) || (decide (fuel < 0)))) rfl (fun hc16=>?_) (fun hc16=>?_)))))
 refine ps rfl (ps rfl (L_pick (v:=Bo (((!x6) || (decide (fuel < 0))) || (decide (fuel > 2000)))) rfl rfl (or_t hc16) (nn (rj hR8 ⟨rfl,rfl,rfl,hst⟩))))
 refine mI rfl (L_gtr rfl rfl rfl (L_pick (v:=Bo (((!x6) || (decide (fuel < 0))) || (decide (fuel > 2000)))) rfl rfl (or_f hc16 rfl) (nn (rj hR8 ⟨rfl,rfl,rfl,hst⟩))))
 refine mI rfl (L_lss rfl rfl rfl (L_pick (v:=Bo ((!x6) || (decide (fuel < 0)))) rfl rfl (or_f hc15 rfl) (mB rfl (L_split (d:=20) (b:=((!x6) || (decide (fuel < 0)))) rfl (fun hc17=>?_) (fun hc17=>?_)))))
 refine ps rfl (ps rfl (L_pick (v:=Bo (((!x6) || (decide (fuel < 0))) || (decide (fuel > 2000)))) rfl rfl (or_t hc17) (nn (rj hR8 ⟨rfl,rfl,rfl,hst⟩))))
 refine mI rfl (L_gtr rfl rfl rfl (L_pick (v:=Bo (((!x6) || (decide (fuel < 0))) || (decide (fuel > 2000)))) rfl rfl (or_f hc17 rfl) (nn (rj hR8 ⟨rfl,rfl,rfl,hst⟩))))
 intro f w_ hR
 obtain ⟨sf0,sf1,sf23,hst⟩:=rk hR8 hR
 refine W_cond (b:=(((!x6) || (decide (fuel < 0))) || (decide (fuel > 2000)))) sf23 (fun hc18=>?_) (fun hc18=>?_)
 have hF:=(ite_t hc18).symm.trans hF
 refine sq (L_bs rfl parts0 (bs_26_0  ) hst (fun g25 w26 hst=>?_))
 have hst:=Star.mkRow (R:=(OR.frz RP.bool)) [] [] 0 hst rfl rfl rfl (by decide)
 refine L_bs rfl parts0 (bs_27_0  ) hst (fun g28 w29 hst=>?_)
 have hst:=Star.mkRow (R:=(OR.frz (rStep 85))) [] [] 0 hst rfl rfl rfl (by decide)
 refine aI rfl (aV (Sl g25 0 0) rfl (aV (Sl g28 0 0) rfl (nn (W_ret (retG3 (v1:=I 3) (v2:=(Sl g25 0 0)) (v3:=(Sl g28 0 0)) Tryz.results6 rfl rfl rfl ?_)))))
 obtain rfl:=so hF
 have hst:=Star.recast (R:=(OR.frz (rStep 85))) (R':=(oStep 85)) rfl hst
 have hst:=hst.get 1 rfl
 exact ⟨(Sl g25 0 0),(Sl g28 0 0),rfl,hst⟩
 have hF:=(ite_f hc18).symm.trans hF
 refine W_skip (W_seq ?_)
 obtain ⟨x34,hx34,hF⟩:=bind_some hF
 obtain ⟨x39,hx39,hF⟩:=bind_some hF
 refine W_region (L_bs rfl parts0 (bs_23_0  ) hst (fun g47 w48 hst=>?_))
 have hst:=Star.mkRow (R:=(OR.frz (rCon 85))) [] [] 0 hst rfl rfl rfl (by decide)
 refine mF sf0 rfl (L_app (v:=(Sl g47 0 0)) (u:=v0) rfl et_23 rfl rfl hst h0 hx34 (fun v50 w51 hst=>mF sf1 rfl (L_bld rfl (parts2 rfl rfl) (bld_52_0_2 (v50) (I fuel) (one_len (Star.len 0 hst rfl)) rfl) ?_)))
 have hst:=Star.addNil (R:=(OR.frz (rStep 85))) (e:=56) hst
 have hst:=hst.get 1 rfl
 refine L_call rfl Tryz.call20 (ops2 rfl rfl) (s_l5Search_c (s:=({ list:=x34,steps:=[],fuel:=fuel } : Sst)) (decisions:=[]) hst (rel_nil _ _ _) hx39) ?_
 rintro _ w54 ⟨H54,l54,r54_0,r54_1,r54_2,rfl,hst⟩
 refine mV (.tuple #[.agg #[r54_0,r54_1,I x39.1.fuel],I x39.2.1,r54_2]) rfl (L_ex (v:=.agg #[r54_0,r54_1,I x39.1.fuel]) rfl rfl rfl (L_ex (v:=I x39.2.1) rfl rfl rfl (L_ex (v:=r54_2) rfl rfl rfl (L_al (cs:=#[S0,S0,I 0]) rfl Tryz.zeroValue52 rfl hst (fun g58 w59 hst=>L_staB (vs:=#[r54_0,r54_1,I x39.1.fuel]) (cs2:=#[r54_0,r54_1,I x39.1.fuel]) 0 rfl Tryz.sizeOf52 rfl rfl rfl (ones_cons (one_len (Star.len 1 hst rfl)) (ones_cons (one_len (Star.len 2 hst rfl)) (ones_cons rfl ones_nil))) hst rfl (by show 0 + 3≤3; decide) rfl (fun w60 hst=>aI rfl (aV r54_2 rfl (nq (sq (mI rfl (L_neq rfl rfl rfl (nn (W_cond (b:=(x39.2.1 != 2)) rfl (fun hc61=>?_) (fun hc61=>?_))))))))))))))
 have hF:=(ite_t hc61).symm.trans hF
 refine sq (mI rfl (mV r54_2 rfl (L_bs rfl parts0 (bs_27_0  ) hst (fun g65 w66 hst=>?_))))
 have hst:=Star.mkRow (R:=(OR.frz (rStep 85))) [] [] 0 hst rfl rfl rfl (by decide)
 refine aI rfl (aV r54_2 rfl (aV (Sl g65 0 0) rfl (nn (W_ret (retG3 (v1:=I x39.2.1) (v2:=r54_2) (v3:=(Sl g65 0 0)) Tryz.results6 rfl rfl rfl ?_)))))
 obtain rfl:=so hF
 have hst:=Star.recast (R:=(OR.frz (rStep 85))) (R':=(oStep 85)) rfl hst
 have hst:=hst.get 4 rfl
 exact ⟨r54_2,(Sl g65 0 0),rfl,(Star.down (Star.keepN 2 hst) l54 (co closed_bool (co closed_oStep c0)))⟩
 have hF:=(ite_f hc61).symm.trans hF
 refine W_skip (sq (L_bs rfl parts0 (bs_27_0  ) hst (fun g71 w72 hst=>?_)))
 have hst:=Star.mkRow (R:=(OR.frz (rStep 85))) [] [] 0 hst rfl rfl rfl (by decide)
 refine aV (Sl g71 0 0) rfl (nq (sq (aI rfl (nn ?_))))
 have hlen77 : List.length x39.1.steps≤9223372036854775807:=len_le (Star.len 3 hst rfl)
 obtain ⟨j77,hL77,hF⟩:=bind_some hF
 obtain ⟨R77,hR77⟩:=exR fun f w_=>∃ out_75 : List Step,∃ v75_out : Value,j77 = .nx out_75∧f 8 = I x39.2.1∧f 10 = v75_out∧Star H54 w_ ([oS 56 (oStep 85) v75_out out_75])
 refine W_join R77 ?_ ?_
 refine W_block ?_
 obtain ⟨I77,hI77⟩:=exI fun n f w_=>∃ i_74 : Nat,∃ suf77 : List Step,∃ out_75 : List Step,∃ v75_out : Value,n = suf77.length∧List.drop i_74 x39.1.steps = suf77∧i_74 + suf77.length = x39.1.steps.length∧rangeL s_SolveProblem_b1 suf77 i_74 out_75 = some j77∧f 7 = Pt g58∧f 8 = I x39.2.1∧f 10 = v75_out∧f 11 = I i_74∧Star H54 w_ ([oS 56 (oStep 85) v75_out out_75,oF 46 (rCon 85) r54_0 x39.1.list,oF 56 (rStep 85) r54_1 x39.1.steps,box g58 52 #[r54_0,r54_1,I x39.1.fuel]])
 have hst:=Star.recast (R:=(OR.frz (rStep 85))) (R':=(oStep 85)) rfl hst
 have hst:=hst.gets [1,3,3,3] rfl
 refine W_loop I77 (n:=x39.1.steps.length) ?_ ?_
 exact ij hI77 ⟨0,x39.1.steps,[],(Sl g71 0 0),rfl,rfl,Nat.zero_add _,hL77,rfl,rfl,rfl,rfl,(Star.keepN 4 hst)⟩
 intro n77 f w_ hI
 obtain ⟨i_74,suf77,out_75,v75_out,rfl,hd77,hl77,hL77,sf7,sf8,sf10,sf11,hst⟩:=ik hI77 hI
 refine W_seq (sq (mF sf11 rfl (fA 1 fa_52_1 sf7 rfl (ldB 3 hst Tryz.isAgg27 rfl rfl rfl (L_len rfl Tryz.underlying27 rfl (Star.len 2 hst rfl) (L_lss rfl rfl rfl (nn (W_cond (b:=decide ((i_74 : Int) < (x39.1.steps.length : Int))) rfl (fun hc78=>?_) (fun hc78=>?_)))))))))
 have hlt77:=of_decide_eq_true hc78
 rcases suf77 with _ | ⟨x_77,rest77⟩
 exact absurd hlt77 (by simp at hl77; omega)
 obtain ⟨o77,hB77,hL77⟩:=range_cons hL77
 rw [s_SolveProblem_b1] at hB77
 have hix77:=drop_idx hd77
 refine W_skip (W_seq (W_block (sq (fA 1 fa_52_1 sf7 rfl (ldB 3 hst Tryz.isAgg27 rfl rfl rfl (mF sf11 rfl ?_))))))
 obtain ⟨g86,cap_g86,hv87,_,_⟩:=Star.row 2 hst rfl hix77
 refine L_ixO (R:=(OR.frz (rStep 85))) (tb:=0) 0 rfl Tryz.underlying27 Tryz.sizeOf56 rfl hv87 (by first | rfl | simp) rfl hix77 ?_
 obtain ⟨cs88,hr88,hat88⟩:=Star.eltF 2 hst rfl hv87 hix77
 obtain ⟨u89_0,rfl,hu89_0⟩:=rStep_iff.1 hr88
 refine L_lda (cs:=[I x_77.kind,I x_77.a,I x_77.b,u89_0,I x_77.given.bound]) rfl Tryz.isAgg56 Tryz.sizeOf56 rfl (At.sub hat88 0 5) rfl (L_al (cs:=#[I 0,I 0,I 0,S0,I 0]) rfl Tryz.zeroValue56 rfl hst (fun g90 w91 hst=>L_staB (vs:=#[I x_77.kind,I x_77.a,I x_77.b,u89_0,I x_77.given.bound]) (cs2:=#[I x_77.kind,I x_77.a,I x_77.b,u89_0,I x_77.given.bound]) 0 rfl Tryz.sizeOf56 rfl rfl rfl (ones_cons rfl (ones_cons rfl (ones_cons rfl (ones_cons (one_len (slice_len hu89_0)) (ones_cons rfl ones_nil))))) hst rfl (by show 0 + 5≤5; decide) rfl (fun w92 hst=>nq ?_)))
 obtain ⟨x98,hx98,hB77⟩:=bind_some hB77
 refine W_region (fA 3 fa_56_3 rfl rfl (L_lda (cs:=[u89_0,I x_77.given.bound]) rfl Tryz.isAgg46 Tryz.sizeOf46 rfl (At.sub0 (Blk.at (Star.blkAt 0 hst rfl)) 3 2) rfl ?_))
 obtain ⟨H102b,l103,s104,z105,k106⟩:=hst.borrow
 refine L_call rfl Tryz.call21 (ops1 rfl) (s_l1Copy_c (c:=x_77.given) s104 (RP.mono _ hu89_0 l103) hx98) ?_
 rintro _ w107 ⟨r107_0,rfl,hst⟩
 have hst:=k106 hst (co closed_term c0)
 refine fA 3 fa_56_3 rfl rfl (L_staB (vs:=#[r107_0,I x98.bound]) (cs2:=#[I x_77.kind,I x_77.a,I x_77.b,r107_0,I x98.bound]) 1 rfl Tryz.sizeOf46 rfl rfl rfl (ones_cons (one_len (Star.len 0 hst rfl)) (ones_cons rfl ones_nil)) hst rfl (by show 3 + 2≤5; decide) rfl (fun w109 hst=>nn ?_))
 obtain ⟨x113,hx113,hB77⟩:=bind_some hB77
 refine W_region (mF sf10 rfl (L_lda (cs:=[I x_77.kind,I x_77.a,I x_77.b,r107_0,I x98.bound]) rfl Tryz.isAgg56 Tryz.sizeOf56 rfl (At.sub0 (Blk.at (Star.blkAt 0 hst rfl)) 0 5) rfl (L_bs rfl (parts1 rfl) (bs_27_1_5 (I x_77.kind) (I x_77.a) (I x_77.b) (r107_0) (I x98.bound) ) hst (fun g117 w118 hst=>?_))))
 have hst:=hst.get 2 rfl
 have hst:=oStep_close (s:=({ kind:=x_77.kind,a:=x_77.a,b:=x_77.b,given:=x98 } : Step)) hst
 have hst:=Star.mkRow (R:=(oStep 85)) [([I x_77.kind,I x_77.a,I x_77.b,r107_0,I x98.bound],({ kind:=x_77.kind,a:=x_77.a,b:=x_77.b,given:=x98 } : Step))] [({ kind:=x_77.kind,a:=x_77.a,b:=x_77.b,given:=x98 } : Step)] 1 hst rfl rfl rfl (by decide)
 have hst:=hst.get 2 rfl
 refine L_appM (v:=v75_out) (u:=(Sl g117 1 1)) rfl et_27 rfl rfl hst hx113 (fun v120 w121 hst=>aV v120 rfl (nn (W_region (mF sf11 rfl (L_add rfl rfl rfl (aI rfl (nn ?_)))))))
 obtain rfl:=so hB77
 have hst:=hst.gets [4,4,4,3] rfl
 show ∃ m,m < _∧I77 m _ _
 refine ⟨rest77.length,by simp,?_⟩
 exact ij hI77 ⟨i_74 + 1,rest77,x113,v120,rfl,drop_next hd77,by simp at hl77; omega,hL77,sf7,sf8,rfl,(Eq.trans rfl (congrArg (Value.int .i64) (i64_succ (n:=x39.1.steps.length) (by simp at hl77; omega) hlen77))),(Star.keepN 4 hst)⟩
 rcases suf77 with _ | ⟨_,_⟩
 obtain rfl:=range_nil hL77
 refine W_exit (rj hR77 ⟨out_75,v75_out,rfl,sf8,sf10,(Star.keepN 1 hst)⟩)
 exact absurd (of_decide_eq_false hc78) (by simp at hl77; omega)
 intro f w_ hR
 obtain ⟨out_75,v75_out,rfl,sf8,sf10,hst⟩:=rk hR77 hR
 refine sq (mF sf8 rfl (L_bs rfl parts0 (bs_26_0  ) hst (fun g126 w127 hst=>?_)))
 have hst:=Star.mkRow (R:=(OR.frz RP.bool)) [] [] 0 hst rfl rfl rfl (by decide)
 refine mF sf10 rfl (aI rfl (aV (Sl g126 0 0) rfl (aV v75_out rfl (nn (W_ret (retG3 (v1:=I x39.2.1) (v2:=(Sl g126 0 0)) (v3:=v75_out) Tryz.results6 rfl rfl rfl ?_))))))
 obtain rfl:=so hF
 exact ⟨(Sl g126 0 0),v75_out,rfl,(Star.down hst l54 (co closed_bool (co closed_oStep c0)))⟩
theorem l_cpBools_c {a : List Bool} {b : List Bool} {v0 : Value} {v1 : Value} {H : FH} {w : World} (hst : Star H w []) (h0 : (rS 4 RP.bool).rel H [v0] a) (h1 : (rS 4 RP.bool).rel H [v1] b) {r : Bool} (hF : l_cpBools a b = some r) :
 C Tryz.prog 7 #[v0,v1] w fun v w'=>v = Bo r∧Star H w' []:=by
 unfold l_cpBools at hF
 refine C_enter Tryz.func7 rfl Tryz.ntmps7 rfl (sq (aB rfl (nq (sq (mV v0 rfl (L_len rfl Tryz.underlying26 rfl (slice_len h0) (mV v1 rfl (L_len rfl Tryz.underlying26 rfl (slice_len h1) (L_neq rfl rfl rfl (nn (W_cond (b:=((a.length : Int) != (b.length : Int))) rfl (fun hc1=>?_) (fun hc1=>?_))))))))))))
 have hF:=(ite_t hc1).symm.trans hF
 refine sq (aB rfl (nn (W_ret (retG1 (v1:=Bo false) Tryz.results7 rfl ?_))))
 obtain rfl:=so hF
 exact ⟨rfl,hst⟩
 have hF:=(ite_f hc1).symm.trans hF
 refine W_skip (W_seq (sq (aI rfl (nn ?_))))
 have hlen5 : List.length a≤9223372036854775807:=len_le (slice_len h0)
 obtain ⟨j5,hL5,hF⟩:=bind_some hF
 obtain ⟨R5,hR5⟩:=exR fun f w_=>∃ H3 : FH,j5 = .nx ()∧Le H H3∧Star H3 w_ ([])
 refine W_join R5 ?_ ?_
 refine W_block ?_
 obtain ⟨I5,hI5⟩:=exI fun n f w_=>∃ i_2 : Nat,∃ suf5 : List Bool,∃ H3 : FH,n = suf5.length∧List.drop i_2 a = suf5∧i_2 + suf5.length = a.length∧rangeL (l_cpBools_b1 b) suf5 i_2 () = some j5∧Le H H3∧f 0 = v0∧f 1 = v1∧f 5 = I i_2∧Star H3 w_ ([])
 refine W_loop I5 (n:=a.length) ?_ ?_
 exact ij hI5 ⟨0,a,H,rfl,rfl,Nat.zero_add _,hL5,(Le.refl _),rfl,rfl,rfl,hst⟩
 intro n5 f w_ hI
 obtain ⟨i_2,suf5,H3,rfl,hd5,hl5,hL5,l4,sf0,sf1,sf5,hst⟩:=ik hI5 hI
 refine W_seq (sq (mF sf5 rfl (mF sf0 rfl (L_len rfl Tryz.underlying26 rfl (slice_len (RP.mono _ h0 l4)) (L_lss rfl rfl rfl (nn (W_cond (b:=decide ((i_2 : Int) < (a.length : Int))) rfl (fun hc6=>?_) (fun hc6=>?_))))))))
 have hlt5:=of_decide_eq_true hc6
 rcases suf5 with _ | ⟨x_5,rest5⟩
 exact absurd hlt5 (by simp at hl5; omega)
 obtain ⟨o5,hB5,hL5⟩:=range_cons hL5
 rw [l_cpBools_b1] at hB5
 have hix5:=drop_idx hd5
 refine W_skip (W_seq (W_block (W_seq ?_)))
 obtain ⟨x11,hx11,hB5⟩:=bind_some hB5
 refine W_drawS 8 [isV (v0),isV (I i_2),isEl RP.bool x_5 0,isV (Bo x_5),isV (v1),isV (I i_2),isEl RP.bool x11 0,isV (Bo x11)] [] [] ([]) [([],[]),([],[]),([],[]),([],[]),([],[]),([],[]),([],[]),([],[])] (S:=[]) Tryz_mix (by kernel_rfl) rfl (by kernel_rfl) (amF_cons (mono_V _) (amF_cons (mono_V _) (amF_cons (mono_el _ _ _) (amF_cons (mono_V _) (amF_cons (mono_V _) (amF_cons (mono_V _) (amF_cons (mono_el _ _ _) (amF_cons (mono_V _) amF_nil)))))))) hst ?_ (fun f w_ H16 hS16 hE16 hT16 hst=>?_)
 refine opsS_cons (fun f w_ _ _ s _ _ hst=>mF ((s 0 rfl).trans sf0) rfl (nO rfl rfl hst)) (opsS_cons (fun f w_ _ _ s _ _ hst=>mF ((s 5 rfl).trans sf5) rfl (nO rfl rfl hst)) (opsS_cons ?_ ?_))
 intro f w_ H16 X16 hS16 hE16 hP16 hst
 refine L_ix (r:=RP.bool) rfl Tryz.underlying26 Tryz.sizeOf4 (hP16 0 17 rfl rfl) (RP.mono _ h0 (Le.trans l4 hE16)) (hP16 1 18 rfl rfl) hix5 (fun g25 o26 cs_g25 hrk_hat27 hat27=>?_)
 obtain rfl : _ = [_]:=hrk_hat27
 exact L_nil ⟨rfl,_,_,rfl,Le.refl _,fun _ _=>⟨_,_,_,rfl,rfl,hat27⟩,hst⟩
 refine opsS_cons ?_ ?_
 intro f w_ H16 X16 hS16 hE16 hP16 hst
 obtain ⟨g29,o29,cs29,hv29,hrk_hat29,hat29⟩:=(hP16 2 19 rfl rfl)
 obtain rfl : _ = [_]:=hrk_hat29
 refine L_ld rfl Tryz.isAgg4 hv29 (At.cell (AtH.at hat29 hst.sub) (j:=0) rfl) (L_nil ⟨rfl,_,_,rfl,Le.refl _,fun _ _=>rfl,hst⟩)
 refine opsS_cons (fun f w_ _ _ s _ _ hst=>mF ((s 1 rfl).trans sf1) rfl (nO rfl rfl hst)) (opsS_cons (fun f w_ _ _ s _ _ hst=>mF ((s 5 rfl).trans sf5) rfl (nO rfl rfl hst)) (opsS_cons ?_ ?_))
 intro f w_ H16 X16 hS16 hE16 hP16 hst
 refine L_ix (r:=RP.bool) rfl Tryz.underlying26 Tryz.sizeOf4 (hP16 4 21 rfl rfl) (RP.mono _ h1 (Le.trans l4 hE16)) (hP16 5 22 rfl rfl) hx11 (fun g31 o32 cs_g31 hrk_hat33 hat33=>?_)
 obtain rfl : _ = [_]:=hrk_hat33
 exact L_nil ⟨rfl,_,_,rfl,Le.refl _,fun _ _=>⟨_,_,_,rfl,rfl,hat33⟩,hst⟩
 refine opsS_cons ?_ ?_
 intro f w_ H16 X16 hS16 hE16 hP16 hst
 obtain ⟨g35,o35,cs35,hv35,hrk_hat35,hat35⟩:=(hP16 6 23 rfl rfl)
 obtain rfl : _ = [_]:=hrk_hat35
 refine L_ld rfl Tryz.isAgg4 hv35 (At.cell (AtH.at hat35 hst.sub) (j:=0) rfl) (L_nil ⟨rfl,_,_,rfl,Le.refl _,fun _ _=>rfl,hst⟩)
 exact opsS_nil
 refine L_bneq (b:=x_5) (c:=x11) rfl Tryz.underlying4 (hT16 3 20 rfl rfl) (hT16 7 24 rfl rfl) (nn (W_cond (b:=(x_5 != x11)) rfl (fun hc37=>?_) (fun hc37=>?_)))
 have hB5:=(ite_t hc37).symm.trans hB5
 refine sq (aB rfl (nn (W_ret (retG1 (v1:=Bo false) Tryz.results7 rfl ?_))))
 obtain rfl:=so hB5
 obtain rfl:=so hL5
 obtain rfl:=so hF
 exact ⟨rfl,(Star.down hst (Le.trans l4 hE16) c0)⟩
 have hB5:=(ite_f hc37).symm.trans hB5
 refine W_skip (W_region (mF ((hS16 5 rfl).trans sf5) rfl (L_add rfl rfl rfl (aI rfl (nn ?_)))))
 obtain rfl:=so hB5
 show ∃ m,m < _∧I5 m _ _
 refine ⟨rest5.length,by simp,?_⟩
 exact ij hI5 ⟨i_2 + 1,rest5,H16,rfl,drop_next hd5,by simp at hl5; omega,hL5,(Le.trans l4 hE16),((hS16 0 rfl).trans sf0),((hS16 1 rfl).trans sf1),(Eq.trans rfl (congrArg (Value.int .i64) (i64_succ (n:=a.length) (by simp at hl5; omega) hlen5))),hst⟩
 rcases suf5 with _ | ⟨_,_⟩
 obtain rfl:=range_nil hL5
 refine W_exit (rj hR5 ⟨H3,rfl,l4,hst⟩)
 exact absurd (of_decide_eq_false hc6) (by simp at hl5; omega)
 intro f w_ hR
 obtain ⟨H3,rfl,l4,hst⟩:=rk hR5 hR
 refine sq (aB rfl (nn (W_ret (retG1 (v1:=Bo true) Tryz.results7 rfl ?_))))
 obtain rfl:=so hF
 exact ⟨rfl,(Star.down hst l4 c0)⟩
theorem slices_EqualFunc_implStep_c {s1 : List Step} {s2 : List Step} {eq : (Step→Step→Option Bool)} {v0 : Value} {v1 : Value} {v2 : Value} {H : FH} {w : World} (hst : Star H w []) (h0 : (rS 56 (rStep 85)).rel H [v0] s1) (h1 : (rS 56 (rStep 85)).rel H [v1] s2) (h2 : Fun2 Tryz.prog (rStep 85) (rStep 85) true Value.bool eq v2 H) {r : Bool} (hF : slices_EqualFunc_implStep s1 s2 eq = some r) :
 C Tryz.prog 22 #[v0,v1,v2] w fun v w'=>v = Bo r∧Star H w' []:=by
 unfold slices_EqualFunc_implStep at hF
 obtain ⟨fid_2,caps_2,rfl,hcall_2,hc_2⟩:=h2
 refine C_enter Tryz.func22 rfl Tryz.ntmps22 rfl (sq (aB rfl (nq (sq (mV v0 rfl (L_len rfl Tryz.underlying27 rfl (slice_len h0) (mV v1 rfl (L_len rfl Tryz.underlying27 rfl (slice_len h1) (L_neq rfl rfl rfl (nn (W_cond (b:=((s1.length : Int) != (s2.length : Int))) rfl (fun hc1=>?_) (fun hc1=>?_))))))))))))
 have hF:=(ite_t hc1).symm.trans hF
 refine sq (aB rfl (nn (W_ret (retG1 (v1:=Bo false) Tryz.results22 rfl ?_))))
 obtain rfl:=so hF
 exact ⟨rfl,hst⟩
 have hF:=(ite_f hc1).symm.trans hF
 refine W_skip (W_seq (sq (mV v0 rfl (L_len rfl Tryz.underlying27 rfl (slice_len h0) (mI rfl (nn ?_))))))
 have hlen3 : List.length s1≤9223372036854775807:=len_le (slice_len h0)
 obtain ⟨j3,hL3,hF⟩:=bind_some hF
 obtain ⟨R3,hR3⟩:=exR fun f w_=>j3 = .nx ()∧Star H w_ ([])
 refine W_join R3 ?_ ?_
 refine W_block ?_
 obtain ⟨I3,hI3⟩:=exI fun n f w_=>∃ i_2 : Nat,∃ suf3 : List Step,n = suf3.length∧List.drop i_2 s1 = suf3∧i_2 + suf3.length = s1.length∧rangeL (slices_EqualFunc_implStep_b1 s2 eq) suf3 i_2 () = some j3∧f 1 = v1∧f 2 = .func (.func fid_2) #[] caps_2∧f 15 = v0∧f 16 = I (s1.length : Int)∧f 17 = I i_2∧Star H w_ ([])
 refine W_loop I3 (n:=s1.length) ?_ ?_
 exact ij hI3 ⟨0,s1,rfl,rfl,Nat.zero_add _,hL3,rfl,rfl,rfl,rfl,rfl,hst⟩
 intro n3 f w_ hI
 obtain ⟨i_2,suf3,rfl,hd3,hl3,hL3,sf1,sf2,sf15,sf16,sf17,hst⟩:=ik hI3 hI
 refine sq (L_lss rfl sf17 sf16 (nq (W_cond (b:=decide ((i_2 : Int) < (s1.length : Int))) rfl (fun hc4=>?_) (fun hc4=>?_))))
 have hlt3:=of_decide_eq_true hc4
 rcases suf3 with _ | ⟨x_3,rest3⟩
 exact absurd hlt3 (by simp at hl3; omega)
 obtain ⟨o3,hB3,hL3⟩:=range_cons hL3
 rw [slices_EqualFunc_implStep_b1] at hB3
 have hix3:=drop_idx hd3
 refine W_skip (W_seq (W_block (sq (mF sf17 rfl (L_ix (r:=(rStep 85)) rfl Tryz.underlying27 Tryz.sizeOf56 sf15 h0 sf17 hix3 (fun g12 o13 cs_g12 hrk_hat14 hat14=>?_))))))
 obtain ⟨u15_0,rfl,hu15_0⟩:=rStep_iff.1 hrk_hat14
 refine L_lda (cs:=[I x_3.kind,I x_3.a,I x_3.b,u15_0,I x_3.given.bound]) rfl Tryz.isAgg56 Tryz.sizeOf56 rfl (At.sub (AtH.at hat14 hst.sub) 0 5) rfl (L_al (cs:=#[I 0,I 0,I 0,S0,I 0]) rfl Tryz.zeroValue56 rfl hst (fun g16 w17 hst=>aI rfl (L_staB (vs:=#[I x_3.kind,I x_3.a,I x_3.b,u15_0,I x_3.given.bound]) (cs2:=#[I x_3.kind,I x_3.a,I x_3.b,u15_0,I x_3.given.bound]) 0 rfl Tryz.sizeOf56 rfl rfl rfl (ones_cons rfl (ones_cons rfl (ones_cons rfl (ones_cons (one_len (slice_len hu15_0)) (ones_cons rfl ones_nil))))) hst rfl (by show 0 + 5≤5; decide) rfl (fun w18 hst=>nq ?_))))
 obtain ⟨x19,hx19,hB3⟩:=bind_some hB3
 refine W_region (mF sf1 rfl (mI rfl (L_ix (r:=(rStep 85)) rfl Tryz.underlying27 Tryz.sizeOf56 rfl h1 rfl hx19 (fun g27 o28 cs_g27 hrk_hat29 hat29=>?_))))
 obtain ⟨u30_0,rfl,hu30_0⟩:=rStep_iff.1 hrk_hat29
 refine L_lda (cs:=[I x19.kind,I x19.a,I x19.b,u30_0,I x19.given.bound]) rfl Tryz.isAgg56 Tryz.sizeOf56 rfl (At.sub (AtH.at hat29 hst.sub) 0 5) rfl (L_al (cs:=#[I 0,I 0,I 0,S0,I 0]) rfl Tryz.zeroValue56 rfl hst (fun g31 w32 hst=>L_staB (vs:=#[I x19.kind,I x19.a,I x19.b,u30_0,I x19.given.bound]) (cs2:=#[I x19.kind,I x19.a,I x19.b,u30_0,I x19.given.bound]) 0 rfl Tryz.sizeOf56 rfl rfl rfl (ones_cons rfl (ones_cons rfl (ones_cons rfl (ones_cons (one_len (slice_len hu30_0)) (ones_cons rfl ones_nil))))) hst rfl (by show 0 + 5≤5; decide) rfl (fun w33 hst=>nq ?_)))
 obtain ⟨x34,hx34,hB3⟩:=bind_some hB3
 refine W_region (mF sf2 rfl (L_lda (cs:=[I x_3.kind,I x_3.a,I x_3.b,u15_0,I x_3.given.bound]) rfl Tryz.isAgg56 Tryz.sizeOf56 rfl (At.sub0 (Blk.at (Star.blkAt 1 hst rfl)) 0 5) rfl (L_lda (cs:=[I x19.kind,I x19.a,I x19.b,u30_0,I x19.given.bound]) rfl Tryz.isAgg56 Tryz.sizeOf56 rfl (At.sub0 (Blk.at (Star.blkAt 0 hst rfl)) 0 5) rfl ?_)))
 obtain ⟨H41b,l42,s43,z44,k45⟩:=hst.borrow
 refine L_callv (args:=#[.agg #[I x_3.kind,I x_3.a,I x_3.b,u15_0,I x_3.given.bound],.agg #[I x19.kind,I x19.a,I x19.b,u30_0,I x19.given.bound]]) rfl hcall_2 rfl (ops2 rfl rfl) (hc_2 _ _ l42 s43 [I x_3.kind,I x_3.a,I x_3.b,u15_0,I x_3.given.bound] [I x19.kind,I x19.a,I x19.b,u30_0,I x19.given.bound] _ _ _ _ (rStep_iff.2 ⟨_,rfl,(RP.mono _ hu15_0 l42)⟩) (rStep_iff.2 ⟨_,rfl,(RP.mono _ hu30_0 l42)⟩) hx34 (args_app rfl)) ?_
 rintro _ w46 ⟨rfl,hst⟩
 have hst:=k45 hst c0
 refine L_not_ rfl rfl (nn (W_cond (b:=(!x34)) rfl (fun hc47=>?_) (fun hc47=>?_)))
 have hB3:=(ite_t hc47).symm.trans hB3
 refine sq (aB rfl (nn (W_ret (retG1 (v1:=Bo false) Tryz.results22 rfl ?_))))
 obtain rfl:=so hB3
 obtain rfl:=so hL3
 obtain rfl:=so hF
 exact ⟨rfl,(Star.keepN 0 hst)⟩
 have hB3:=(ite_f hc47).symm.trans hB3
 refine W_skip (W_region (L_add rfl sf17 rfl (mI rfl (nn ?_))))
 obtain rfl:=so hB3
 show ∃ m,m < _∧I3 m _ _
 refine ⟨rest3.length,by simp,?_⟩
 exact ij hI3 ⟨i_2 + 1,rest3,rfl,drop_next hd3,by simp at hl3; omega,hL3,sf1,sf2,sf15,sf16,(Eq.trans rfl (congrArg (Value.int .i64) (i64_succ (n:=s1.length) (by simp at hl3; omega) hlen3))),(Star.keepN 0 hst)⟩
 rcases suf3 with _ | ⟨_,_⟩
 obtain rfl:=range_nil hL3
 refine W_exit (rj hR3 ⟨rfl,hst⟩)
 exact absurd (of_decide_eq_false hc4) (by simp at hl3; omega)
 intro f w_ hR
 obtain ⟨rfl,hst⟩:=rk hR3 hR
 refine sq (aB rfl (nn (W_ret (retG1 (v1:=Bo true) Tryz.results22 rfl ?_))))
 obtain rfl:=so hF
 exact ⟨rfl,hst⟩
theorem slices_Equal_implTerm_c {s1 : List Term} {s2 : List Term} {v0 : Value} {v1 : Value} {H : FH} {w : World} (hst : Star H w []) (h0 : (rS 85 rTerm).rel H [v0] s1) (h1 : (rS 85 rTerm).rel H [v1] s2) {r : Bool} (hF : slices_Equal_implTerm s1 s2 = some r) :
 C Tryz.prog 45 #[v0,v1] w fun v w'=>v = Bo r∧Star H w' []:=by
 unfold slices_Equal_implTerm at hF
 refine C_enter Tryz.func45 rfl Tryz.ntmps45 rfl (sq (aB rfl (nq (sq (mV v0 rfl (L_len rfl Tryz.underlying44 rfl (slice_len h0) (mV v1 rfl (L_len rfl Tryz.underlying44 rfl (slice_len h1) (L_neq rfl rfl rfl (nn (W_cond (b:=((s1.length : Int) != (s2.length : Int))) rfl (fun hc1=>?_) (fun hc1=>?_))))))))))))
 have hF:=(ite_t hc1).symm.trans hF
 refine sq (aB rfl (nn (W_ret (retG1 (v1:=Bo false) Tryz.results45 rfl ?_))))
 obtain rfl:=so hF
 exact ⟨rfl,hst⟩
 have hF:=(ite_f hc1).symm.trans hF
 refine W_skip (W_seq (sq (mV v0 rfl (L_len rfl Tryz.underlying44 rfl (slice_len h0) (mI rfl (nn ?_))))))
 have hlen5 : List.length s1≤9223372036854775807:=len_le (slice_len h0)
 obtain ⟨j5,hL5,hF⟩:=bind_some hF
 obtain ⟨R5,hR5⟩:=exR fun f w_=>∃ H3 : FH,j5 = .nx ()∧Le H H3∧Star H3 w_ ([])
 refine W_join R5 ?_ ?_
 refine W_block ?_
 obtain ⟨I5,hI5⟩:=exI fun n f w_=>∃ i_2 : Nat,∃ suf5 : List Term,∃ H3 : FH,n = suf5.length∧List.drop i_2 s1 = suf5∧i_2 + suf5.length = s1.length∧rangeL (slices_Equal_implTerm_b1 s2) suf5 i_2 () = some j5∧Le H H3∧f 0 = v0∧f 1 = v1∧f 12 = I (s1.length : Int)∧f 13 = I i_2∧Star H3 w_ ([])
 refine W_loop I5 (n:=s1.length) ?_ ?_
 exact ij hI5 ⟨0,s1,H,rfl,rfl,Nat.zero_add _,hL5,(Le.refl _),rfl,rfl,rfl,rfl,hst⟩
 intro n5 f w_ hI
 obtain ⟨i_2,suf5,H3,rfl,hd5,hl5,hL5,l4,sf0,sf1,sf12,sf13,hst⟩:=ik hI5 hI
 refine sq (L_lss rfl sf13 sf12 (nq (W_cond (b:=decide ((i_2 : Int) < (s1.length : Int))) rfl (fun hc6=>?_) (fun hc6=>?_))))
 have hlt5:=of_decide_eq_true hc6
 rcases suf5 with _ | ⟨x_5,rest5⟩
 exact absurd hlt5 (by simp at hl5; omega)
 obtain ⟨o5,hB5,hL5⟩:=range_cons hL5
 rw [slices_Equal_implTerm_b1] at hB5
 have hix5:=drop_idx hd5
 refine W_skip (W_seq (W_block (sq (mF sf13 rfl (aI rfl (nq ?_))))))
 obtain ⟨x11,hx11,hB5⟩:=bind_some hB5
 refine W_drawS 8 [isV (v0),isV (I i_2),isEl rTerm x_5 0,isV (.agg #[I x_5.coef,I x_5.lit]),isV (v1),isV (I i_2),isEl rTerm x11 0,isV (.agg #[I x11.coef,I x11.lit])] [] [] ([]) [([],[]),([],[]),([],[]),([],[]),([],[]),([],[]),([],[]),([],[])] (S:=[]) Tryz_mix (by kernel_rfl) rfl (by kernel_rfl) (amF_cons (mono_V _) (amF_cons (mono_V _) (amF_cons (mono_el _ _ _) (amF_cons (mono_V _) (amF_cons (mono_V _) (amF_cons (mono_V _) (amF_cons (mono_el _ _ _) (amF_cons (mono_V _) amF_nil)))))))) hst ?_ (fun f w_ H16 hS16 hE16 hT16 hst=>?_)
 refine opsS_cons (fun f w_ _ _ s _ _ hst=>mF ((s 0 rfl).trans sf0) rfl (nO rfl rfl hst)) (opsS_cons (fun f w_ _ _ s _ _ hst=>mF ((s 5 rfl).trans rfl) rfl (nO rfl rfl hst)) (opsS_cons ?_ ?_))
 intro f w_ H16 X16 hS16 hE16 hP16 hst
 refine L_ix (r:=rTerm) rfl Tryz.underlying44 Tryz.sizeOf85 (hP16 0 16 rfl rfl) (RP.mono _ h0 (Le.trans l4 hE16)) (hP16 1 17 rfl rfl) hix5 (fun g25 o26 cs_g25 hrk_hat27 hat27=>?_)
 obtain rfl:=rTerm_iff.1 hrk_hat27
 exact L_nil ⟨rfl,_,_,rfl,Le.refl _,fun _ _=>⟨_,_,_,rfl,hrk_hat27,hat27⟩,hst⟩
 refine opsS_cons ?_ ?_
 intro f w_ H16 X16 hS16 hE16 hP16 hst
 obtain ⟨g29,o29,cs29,hv29,hrk_hat29,hat29⟩:=(hP16 2 18 rfl rfl)
 obtain rfl:=rTerm_iff.1 hrk_hat29
 refine L_lda (cs:=[I x_5.coef,I x_5.lit]) rfl Tryz.isAgg85 Tryz.sizeOf85 hv29 (At.sub (AtH.at hat29 hst.sub) 0 2) rfl (L_nil ⟨rfl,_,_,rfl,Le.refl _,fun _ _=>rfl,hst⟩)
 refine opsS_cons (fun f w_ _ _ s _ _ hst=>mF ((s 1 rfl).trans sf1) rfl (nO rfl rfl hst)) (opsS_cons (fun f w_ _ _ s _ _ hst=>mF ((s 5 rfl).trans rfl) rfl (nO rfl rfl hst)) (opsS_cons ?_ ?_))
 intro f w_ H16 X16 hS16 hE16 hP16 hst
 refine L_ix (r:=rTerm) rfl Tryz.underlying44 Tryz.sizeOf85 (hP16 4 20 rfl rfl) (RP.mono _ h1 (Le.trans l4 hE16)) (hP16 5 21 rfl rfl) hx11 (fun g31 o32 cs_g31 hrk_hat33 hat33=>?_)
 obtain rfl:=rTerm_iff.1 hrk_hat33
 exact L_nil ⟨rfl,_,_,rfl,Le.refl _,fun _ _=>⟨_,_,_,rfl,hrk_hat33,hat33⟩,hst⟩
 refine opsS_cons ?_ ?_
 intro f w_ H16 X16 hS16 hE16 hP16 hst
 obtain ⟨g35,o35,cs35,hv35,hrk_hat35,hat35⟩:=(hP16 6 22 rfl rfl)
 obtain rfl:=rTerm_iff.1 hrk_hat35
 refine L_lda (cs:=[I x11.coef,I x11.lit]) rfl Tryz.isAgg85 Tryz.sizeOf85 hv35 (At.sub (AtH.at hat35 hst.sub) 0 2) rfl (L_nil ⟨rfl,_,_,rfl,Le.refl _,fun _ _=>rfl,hst⟩)
 exact opsS_nil
 refine L_tneq (x1:=x_5.coef) (x2:=x_5.lit) (y1:=x11.coef) (y2:=x11.lit) rfl termEq_85 (hT16 3 19 rfl rfl) (hT16 7 23 rfl rfl) (nn (W_cond (b:=(!(x_5 == x11))) rfl (fun hc37=>?_) (fun hc37=>?_)))
 have hB5:=(ite_t hc37).symm.trans hB5
 refine sq (aB rfl (nn (W_ret (retG1 (v1:=Bo false) Tryz.results45 rfl ?_))))
 obtain rfl:=so hB5
 obtain rfl:=so hL5
 obtain rfl:=so hF
 exact ⟨rfl,(Star.down hst (Le.trans l4 hE16) c0)⟩
 have hB5:=(ite_f hc37).symm.trans hB5
 refine W_skip (W_region (L_add rfl ((hS16 13 rfl).trans sf13) rfl (mI rfl (nn ?_))))
 obtain rfl:=so hB5
 show ∃ m,m < _∧I5 m _ _
 refine ⟨rest5.length,by simp,?_⟩
 exact ij hI5 ⟨i_2 + 1,rest5,H16,rfl,drop_next hd5,by simp at hl5; omega,hL5,(Le.trans l4 hE16),((hS16 0 rfl).trans sf0),((hS16 1 rfl).trans sf1),((hS16 12 rfl).trans sf12),(Eq.trans rfl (congrArg (Value.int .i64) (i64_succ (n:=s1.length) (by simp at hl5; omega) hlen5))),hst⟩
 rcases suf5 with _ | ⟨_,_⟩
 obtain rfl:=range_nil hL5
 refine W_exit (rj hR5 ⟨H3,rfl,l4,hst⟩)
 exact absurd (of_decide_eq_false hc6) (by simp at hl5; omega)
 intro f w_ hR
 obtain ⟨H3,rfl,l4,hst⟩:=rk hR5 hR
 refine sq (aB rfl (nn (W_ret (retG1 (v1:=Bo true) Tryz.results45 rfl ?_))))
 obtain rfl:=so hF
 exact ⟨rfl,(Star.down hst l4 c0)⟩
theorem i_ConstraintSame_c {a : Con} {b : Con} {v0_0 : Value} {v1_0 : Value} {H : FH} {w : World} (hst : Star H w []) (h0_0 : (rS 85 rTerm).rel H [v0_0] a.terms) (h1_0 : (rS 85 rTerm).rel H [v1_0] b.terms) {r : Bool} (hF : i_ConstraintSame a b = some r) :
 C Tryz.prog 24 #[.agg #[v0_0,I a.bound],.agg #[v1_0,I b.bound]] w fun v w'=>v = Bo r∧Star H w' []:=by
 unfold i_ConstraintSame at hF
 refine C_enter Tryz.func24 rfl Tryz.ntmps24 rfl (sq (L_box (v:=.agg #[v0_0,I a.bound]) (cs:=#[v0_0,I a.bound]) rfl rfl rfl hst (fun g5 w6 hst=>L_box (v:=.agg #[v1_0,I b.bound]) (cs:=#[v1_0,I b.bound]) rfl rfl rfl hst (fun g7 w8 hst=>aB rfl (nq ?_)))))
 obtain ⟨b16,hb16,hF⟩:=bind_some hF
 obtain ⟨R17,hR17⟩:=exR fun f w_=>f 4 = Bo b16∧Star H w_ ([])
 refine W_join R17 ?_ ?_
 refine W_region (fA 1 fa_46_1 rfl rfl (ldB 1 hst Tryz.isAgg3 rfl rfl rfl (fA 1 fa_46_1 rfl rfl (ldB 0 hst Tryz.isAgg3 rfl rfl rfl (L_eql rfl rfl rfl (mB rfl (L_split (d:=10) (b:=(a.bound == b.bound)) rfl (fun hc18=>?_) (fun hc18=>?_))))))))
 rw [ite_t hc18] at hb16
 obtain ⟨x14,hx14,hb16⟩:=bind_some hb16
 refine fA 0 fa_46_0 rfl rfl (ldB 1 hst Tryz.isAgg44 rfl rfl rfl (fA 0 fa_46_0 rfl rfl (ldB 0 hst Tryz.isAgg44 rfl rfl rfl ?_)))
 obtain ⟨H19b,l20,s21,z22,k23⟩:=hst.borrow
 refine L_call rfl Tryz.call45 (ops2 rfl rfl) (slices_Equal_implTerm_c (s1:=a.terms) (s2:=b.terms) s21 (RP.mono _ h0_0 l20) (RP.mono _ h1_0 l20) hx14) ?_
 rintro _ w24 ⟨rfl,hst⟩
 have hst:=k23 hst c0
 refine L_pick (v:=Bo b16) rfl rfl (congrArg Value.bool (so hb16)) (aB rfl (nn (rj hR17 ⟨rfl,(Star.keepN 0 hst)⟩)))
 rw [ite_f hc18] at hb16
 refine ps rfl (ps rfl (ps rfl (ps rfl (ps rfl (L_pick (v:=Bo b16) rfl rfl (congrArg Value.bool (so hb16)) (aB rfl (nn (rj hR17 ⟨rfl,(Star.keepN 0 hst)⟩))))))))
 intro f w_ hR
 obtain ⟨sf4,hst⟩:=rk hR17 hR
 refine W_ret (retG1 (v1:=Bo b16) Tryz.results24 sf4 ?_)
 obtain rfl:=so hF
 exact ⟨rfl,hst⟩
theorem i_ProofSame_1_c {s : Step} {t : Step} {v0_3 : Value} {v1_3 : Value} {H : FH} {w : World} (hst : Star H w []) (h0_3 : (rS 85 rTerm).rel H [v0_3] s.given.terms) (h1_3 : (rS 85 rTerm).rel H [v1_3] t.given.terms) {r : Bool} (hF : i_ProofSame_1 s t = some r) :
 C Tryz.prog 23 #[.agg #[I s.kind,I s.a,I s.b,v0_3,I s.given.bound],.agg #[I t.kind,I t.a,I t.b,v1_3,I t.given.bound]] w fun v w'=>v = Bo r∧Star H w' []:=by
 unfold i_ProofSame_1 at hF
 refine C_enter Tryz.func23 rfl Tryz.ntmps23 rfl (sq (L_box (v:=.agg #[I s.kind,I s.a,I s.b,v0_3,I s.given.bound]) (cs:=#[I s.kind,I s.a,I s.b,v0_3,I s.given.bound]) rfl rfl rfl hst (fun g5 w6 hst=>L_box (v:=.agg #[I t.kind,I t.a,I t.b,v1_3,I t.given.bound]) (cs:=#[I t.kind,I t.a,I t.b,v1_3,I t.given.bound]) rfl rfl rfl hst (fun g7 w8 hst=>aB rfl (nq ?_)))))
 obtain ⟨b16,hb16,hF⟩:=bind_some hF
 obtain ⟨R17,hR17⟩:=exR fun f w_=>f 4 = Bo b16∧Star H w_ ([])
 refine W_join R17 ?_ ?_
 refine W_region (fA 0 fa_56_0 rfl rfl (ldB 1 hst Tryz.isAgg3 rfl rfl rfl (fA 0 fa_56_0 rfl rfl (ldB 0 hst Tryz.isAgg3 rfl rfl rfl (L_eql rfl rfl rfl (mB rfl (L_split (d:=10) (b:=(s.kind == t.kind)) rfl (fun hc18=>?_) (fun hc18=>?_))))))))
 refine fA 1 fa_56_1 rfl rfl (ldB 1 hst Tryz.isAgg3 rfl rfl rfl (fA 1 fa_56_1 rfl rfl (ldB 0 hst Tryz.isAgg3 rfl rfl rfl (L_eql rfl rfl rfl (L_pick (v:=Bo ((s.kind == t.kind) && (s.a == t.a))) rfl rfl (and_t hc18 rfl) (mB rfl (L_split (d:=17) (b:=((s.kind == t.kind) && (s.a == t.a))) rfl (fun hc19=>?_) (fun hc19=>?_))))))))
 refine fA 2 fa_56_2 rfl rfl (ldB 1 hst Tryz.isAgg3 rfl rfl rfl (fA 2 fa_56_2 rfl rfl (ldB 0 hst Tryz.isAgg3 rfl rfl rfl (L_eql rfl rfl rfl (L_pick (v:=Bo (((s.kind == t.kind) && (s.a == t.a)) && (s.b == t.b))) rfl rfl (and_t hc19 rfl) (mB rfl (L_split (d:=24) (b:=(((s.kind == t.kind) && (s.a == t.a)) && (s.b == t.b))) rfl (fun hc20=>?_) (fun hc20=>?_))))))))
 rw [ite_t hc20] at hb16
 obtain ⟨x14,hx14,hb16⟩:=bind_some hb16
 refine fA 3 fa_56_3 rfl rfl (L_lda (cs:=[v0_3,I s.given.bound]) rfl Tryz.isAgg46 Tryz.sizeOf46 rfl (At.sub0 (Blk.at (Star.blkAt 1 hst rfl)) 3 2) rfl (fA 3 fa_56_3 rfl rfl (L_lda (cs:=[v1_3,I t.given.bound]) rfl Tryz.isAgg46 Tryz.sizeOf46 rfl (At.sub0 (Blk.at (Star.blkAt 0 hst rfl)) 3 2) rfl ?_)))
 obtain ⟨H21b,l22,s23,z24,k25⟩:=hst.borrow
 refine L_call rfl Tryz.call24 (ops2 rfl rfl) (i_ConstraintSame_c (a:=s.given) (b:=t.given) s23 (RP.mono _ h0_3 l22) (RP.mono _ h1_3 l22) hx14) ?_
 rintro _ w26 ⟨rfl,hst⟩
 have hst:=k25 hst c0
 refine L_pick (v:=Bo b16) rfl rfl (congrArg Value.bool (so hb16)) (aB rfl (nn (rj hR17 ⟨rfl,(Star.keepN 0 hst)⟩)))
 rw [ite_f hc20] at hb16
 refine ps rfl (ps rfl (ps rfl (ps rfl (ps rfl (L_pick (v:=Bo b16) rfl rfl (congrArg Value.bool (so hb16)) (aB rfl (nn (rj hR17 ⟨rfl,(Star.keepN 0 hst)⟩))))))))
 refine ps rfl (ps rfl (ps rfl (ps rfl (ps rfl (L_pick (v:=Bo (((s.kind == t.kind) && (s.a == t.a)) && (s.b == t.b))) rfl rfl (and_f hc19) (mB rfl (L_split (d:=24) (b:=(((s.kind == t.kind) && (s.a == t.a)) && (s.b == t.b))) rfl (fun hc27=>?_) (fun hc27=>?_))))))))
 rw [ite_t hc27] at hb16
 obtain ⟨x14,hx14,hb16⟩:=bind_some hb16
 refine fA 3 fa_56_3 rfl rfl (L_lda (cs:=[v0_3,I s.given.bound]) rfl Tryz.isAgg46 Tryz.sizeOf46 rfl (At.sub0 (Blk.at (Star.blkAt 1 hst rfl)) 3 2) rfl (fA 3 fa_56_3 rfl rfl (L_lda (cs:=[v1_3,I t.given.bound]) rfl Tryz.isAgg46 Tryz.sizeOf46 rfl (At.sub0 (Blk.at (Star.blkAt 0 hst rfl)) 3 2) rfl ?_)))
 obtain ⟨H28b,l29,s30,z31,k32⟩:=hst.borrow
 refine L_call rfl Tryz.call24 (ops2 rfl rfl) (i_ConstraintSame_c (a:=s.given) (b:=t.given) s30 (RP.mono _ h0_3 l29) (RP.mono _ h1_3 l29) hx14) ?_
 rintro _ w33 ⟨rfl,hst⟩
 have hst:=k32 hst c0
 refine L_pick (v:=Bo b16) rfl rfl (congrArg Value.bool (so hb16)) (aB rfl (nn (rj hR17 ⟨rfl,(Star.keepN 0 hst)⟩)))
 rw [ite_f hc27] at hb16
 refine ps rfl (ps rfl (ps rfl (ps rfl (ps rfl (L_pick (v:=Bo b16) rfl rfl (congrArg Value.bool (so hb16)) (aB rfl (nn (rj hR17 ⟨rfl,(Star.keepN 0 hst)⟩))))))))
 refine ps rfl (ps rfl (ps rfl (ps rfl (ps rfl (L_pick (v:=Bo ((s.kind == t.kind) && (s.a == t.a))) rfl rfl (and_f hc18) (mB rfl (L_split (d:=17) (b:=((s.kind == t.kind) && (s.a == t.a))) rfl (fun hc34=>?_) (fun hc34=>?_))))))))
 refine fA 2 fa_56_2 rfl rfl (ldB 1 hst Tryz.isAgg3 rfl rfl rfl (fA 2 fa_56_2 rfl rfl (ldB 0 hst Tryz.isAgg3 rfl rfl rfl (L_eql rfl rfl rfl (L_pick (v:=Bo (((s.kind == t.kind) && (s.a == t.a)) && (s.b == t.b))) rfl rfl (and_t hc34 rfl) (mB rfl (L_split (d:=24) (b:=(((s.kind == t.kind) && (s.a == t.a)) && (s.b == t.b))) rfl (fun hc35=>?_) (fun hc35=>?_))))))))
 rw [ite_t hc35] at hb16
 obtain ⟨x14,hx14,hb16⟩:=bind_some hb16
 refine fA 3 fa_56_3 rfl rfl (L_lda (cs:=[v0_3,I s.given.bound]) rfl Tryz.isAgg46 Tryz.sizeOf46 rfl (At.sub0 (Blk.at (Star.blkAt 1 hst rfl)) 3 2) rfl (fA 3 fa_56_3 rfl rfl (L_lda (cs:=[v1_3,I t.given.bound]) rfl Tryz.isAgg46 Tryz.sizeOf46 rfl (At.sub0 (Blk.at (Star.blkAt 0 hst rfl)) 3 2) rfl ?_)))
 obtain ⟨H36b,l37,s38,z39,k40⟩:=hst.borrow
 refine L_call rfl Tryz.call24 (ops2 rfl rfl) (i_ConstraintSame_c (a:=s.given) (b:=t.given) s38 (RP.mono _ h0_3 l37) (RP.mono _ h1_3 l37) hx14) ?_
 rintro _ w41 ⟨rfl,hst⟩
 have hst:=k40 hst c0
 refine L_pick (v:=Bo b16) rfl rfl (congrArg Value.bool (so hb16)) (aB rfl (nn (rj hR17 ⟨rfl,(Star.keepN 0 hst)⟩)))
 rw [ite_f hc35] at hb16
 refine ps rfl (ps rfl (ps rfl (ps rfl (ps rfl (L_pick (v:=Bo b16) rfl rfl (congrArg Value.bool (so hb16)) (aB rfl (nn (rj hR17 ⟨rfl,(Star.keepN 0 hst)⟩))))))))
 refine ps rfl (ps rfl (ps rfl (ps rfl (ps rfl (L_pick (v:=Bo (((s.kind == t.kind) && (s.a == t.a)) && (s.b == t.b))) rfl rfl (and_f hc34) (mB rfl (L_split (d:=24) (b:=(((s.kind == t.kind) && (s.a == t.a)) && (s.b == t.b))) rfl (fun hc42=>?_) (fun hc42=>?_))))))))
 rw [ite_t hc42] at hb16
 obtain ⟨x14,hx14,hb16⟩:=bind_some hb16
 refine fA 3 fa_56_3 rfl rfl (L_lda (cs:=[v0_3,I s.given.bound]) rfl Tryz.isAgg46 Tryz.sizeOf46 rfl (At.sub0 (Blk.at (Star.blkAt 1 hst rfl)) 3 2) rfl (fA 3 fa_56_3 rfl rfl (L_lda (cs:=[v1_3,I t.given.bound]) rfl Tryz.isAgg46 Tryz.sizeOf46 rfl (At.sub0 (Blk.at (Star.blkAt 0 hst rfl)) 3 2) rfl ?_)))
 obtain ⟨H43b,l44,s45,z46,k47⟩:=hst.borrow
 refine L_call rfl Tryz.call24 (ops2 rfl rfl) (i_ConstraintSame_c (a:=s.given) (b:=t.given) s45 (RP.mono _ h0_3 l44) (RP.mono _ h1_3 l44) hx14) ?_
 rintro _ w48 ⟨rfl,hst⟩
 have hst:=k47 hst c0
 refine L_pick (v:=Bo b16) rfl rfl (congrArg Value.bool (so hb16)) (aB rfl (nn (rj hR17 ⟨rfl,(Star.keepN 0 hst)⟩)))
 rw [ite_f hc42] at hb16
 refine ps rfl (ps rfl (ps rfl (ps rfl (ps rfl (L_pick (v:=Bo b16) rfl rfl (congrArg Value.bool (so hb16)) (aB rfl (nn (rj hR17 ⟨rfl,(Star.keepN 0 hst)⟩))))))))
 intro f w_ hR
 obtain ⟨sf4,hst⟩:=rk hR17 hR
 refine W_ret (retG1 (v1:=Bo b16) Tryz.results23 sf4 ?_)
 obtain rfl:=so hF
 exact ⟨rfl,hst⟩
theorem i_ProofSame_c {a : List Step} {b : List Step} {v0 : Value} {v1 : Value} {H : FH} {w : World} (hst : Star H w []) (h0 : (rS 56 (rStep 85)).rel H [v0] a) (h1 : (rS 56 (rStep 85)).rel H [v1] b) {r : Bool} (hF : i_ProofSame a b = some r) :
 C Tryz.prog 8 #[v0,v1] w fun v w'=>v = Bo r∧Star H w' []:=by
 unfold i_ProofSame at hF
 refine C_enter Tryz.func8 rfl Tryz.ntmps8 rfl (sq (aB rfl (nq ?_)))
 obtain ⟨x6,hx6,hF⟩:=bind_some hF
 refine W_region (mV v0 rfl (mV v1 rfl ?_))
 obtain ⟨H8b,l9,s10,z11,k12⟩:=hst.borrow
 have hf13 : Fun2 Tryz.prog (rStep 85) (rStep 85) true Value.bool i_ProofSame_1 (.func (.func 23) #[] #[]) H8b:=by
   refine ⟨_,_,rfl,Tryz.call23,fun H_ w_ hE_ hs_ cs1_ cs2_ x1_ x2_ y_ args_ hr1_ hr2_ hy_ ha_=>?_⟩
   obtain ⟨p1_0,rfl,hp1_0⟩:=rStep_iff.1 hr1_
   obtain ⟨p2_0,rfl,hp2_0⟩:=rStep_iff.1 hr2_
   obtain rfl:=args_of (b:=#[.agg #[I x1_.kind,I x1_.a,I x1_.b,p1_0,I x1_.given.bound],.agg #[I x2_.kind,I x2_.a,I x2_.b,p2_0,I x2_.given.bound]]) ha_
   exact i_ProofSame_1_c (s:=x1_) (t:=x2_) hs_ hp1_0 hp2_0 hy_
 refine L_call rfl Tryz.call22 (ops3 rfl rfl rfl) (slices_EqualFunc_implStep_c (s1:=a) (s2:=b) (eq:=i_ProofSame_1) s10 (RP.mono _ h0 l9) (RP.mono _ h1 l9) hf13 hx6) ?_
 rintro _ w14 ⟨rfl,hst⟩
 have hst:=k12 hst c0
 refine aB rfl (nn (W_ret (retG1 (v1:=Bo x6) Tryz.results8 rfl ?_)))
 obtain rfl:=so hF
 exact ⟨rfl,hst⟩
theorem i_holds_c {l : Int} {values : List Bool} {v1 : Value} {H : FH} {w : World} (hst : Star H w []) (h1 : (rS 4 RP.bool).rel H [v1] values) {r : Bool} (hF : i_holds l values = some r) :
 C Tryz.prog 63 #[I l,v1] w fun v w'=>v = Bo r∧Star H w' []:=by
 unfold i_holds at hF
 refine C_enter Tryz.func63 rfl Tryz.ntmps63 rfl (sq (aB rfl (nq ?_)))
 obtain ⟨x6,hx6,hF⟩:=bind_some hF
 obtain ⟨x8,hx8,hF⟩:=bind_some hF
 refine W_region (mV v1 rfl (mI rfl ?_))
 obtain ⟨H13b,l14,s15,z16,k17⟩:=hst.borrow
 refine L_call rfl Tryz.call35 (ops1 rfl) (i_variableOf_c (l:=l) s15 hx6) ?_
 rintro _ w18 ⟨rfl,hst⟩
 have hst:=k17 hst c0
 refine L_sub rfl rfl rfl (L_ix (r:=RP.bool) rfl Tryz.underlying26 Tryz.sizeOf4 rfl h1 rfl hx8 (fun g19 o20 cs_g19 hrk_hat21 hat21=>?_))
 obtain rfl : _ = [_]:=hrk_hat21
 refine L_ld rfl Tryz.isAgg4 rfl (At.cell (AtH.at hat21 hst.sub) (j:=0) rfl) (mI rfl (L_gtr rfl rfl rfl (L_beql (b:=x8) (c:=decide (l > 0)) rfl Tryz.underlying4 rfl rfl (aB rfl (nn (W_ret (retG1 (v1:=Bo (x8 == (decide (l > 0)))) Tryz.results63 rfl ?_)))))))
 obtain rfl:=so hF
 exact ⟨rfl,hst⟩
theorem i_Constraint_holds_c {c : Con} {values : List Bool} {v0_0 : Value} {v1 : Value} {H : FH} {w : World} (hst : Star H w []) (h0_0 : (rS 85 rTerm).rel H [v0_0] c.terms) (h1 : (rS 4 RP.bool).rel H [v1] values) {r : Bool} (hF : i_Constraint_holds c values = some r) :
 C Tryz.prog 48 #[.agg #[v0_0,I c.bound],v1] w fun v w'=>v = Bo r∧Star H w' []:=by
 unfold i_Constraint_holds at hF
 refine C_enter Tryz.func48 rfl Tryz.ntmps48 rfl (sq (L_box (v:=.agg #[v0_0,I c.bound]) (cs:=#[v0_0,I c.bound]) rfl rfl rfl hst (fun g3 w4 hst=>aB rfl (ns (aI rfl (nq (sq (fA 0 fa_46_0 rfl rfl (ldB 0 hst Tryz.isAgg44 rfl rfl rfl (L_len rfl Tryz.underlying44 rfl (slice_len h0_0) (mI rfl (nn ?_))))))))))))
 have hlen7 : List.length c.terms≤9223372036854775807:=len_le (slice_len h0_0)
 obtain ⟨j7,hL7,hF⟩:=bind_some hF
 obtain ⟨R7,hR7⟩:=exR fun f w_=>∃ sum_6 : Int,j7 = .nx sum_6∧f 2 = Pt g3∧f 5 = I sum_6∧Star H w_ ([box g3 46 #[v0_0,I c.bound]])
 refine W_join R7 ?_ ?_
 refine W_block ?_
 obtain ⟨I7,hI7⟩:=exI fun n f w_=>∃ i_5 : Nat,∃ suf7 : List Term,∃ sum_6 : Int,n = suf7.length∧List.drop i_5 c.terms = suf7∧i_5 + suf7.length = c.terms.length∧rangeL (i_Constraint_holds_b1 values) suf7 i_5 sum_6 = some j7∧f 1 = v1∧f 2 = Pt g3∧f 5 = I sum_6∧f 9 = v0_0∧f 10 = I (c.terms.length : Int)∧f 11 = I i_5∧Star H w_ ([box g3 46 #[v0_0,I c.bound]])
 refine W_loop I7 (n:=c.terms.length) ?_ ?_
 exact ij hI7 ⟨0,c.terms,0,rfl,rfl,Nat.zero_add _,hL7,rfl,rfl,rfl,rfl,rfl,rfl,hst⟩
 intro n7 f w_ hI
 obtain ⟨i_5,suf7,sum_6,rfl,hd7,hl7,hL7,sf1,sf2,sf5,sf9,sf10,sf11,hst⟩:=ik hI7 hI
 refine sq (L_lss rfl sf11 sf10 (nq (W_cond (b:=decide ((i_5 : Int) < (c.terms.length : Int))) rfl (fun hc8=>?_) (fun hc8=>?_))))
 have hlt7:=of_decide_eq_true hc8
 rcases suf7 with _ | ⟨x_7,rest7⟩
 exact absurd hlt7 (by simp at hl7; omega)
 obtain ⟨o7,hB7,hL7⟩:=range_cons hL7
 rw [i_Constraint_holds_b1] at hB7
 have hix7:=drop_idx hd7
 refine W_skip (W_seq (W_block (sq (L_ix (r:=rTerm) rfl Tryz.underlying44 Tryz.sizeOf85 sf9 h0_0 sf11 hix7 (fun g16 o17 cs_g16 hrk_hat18 hat18=>?_)))))
 obtain rfl:=rTerm_iff.1 hrk_hat18
 refine L_lda (cs:=[I x_7.coef,I x_7.lit]) rfl Tryz.isAgg85 Tryz.sizeOf85 rfl (At.sub (AtH.at hat18 hst.sub) 0 2) rfl (L_al (cs:=#[I 0,I 0]) rfl Tryz.zeroValue85 rfl hst (fun g20 w21 hst=>L_staB (vs:=#[I x_7.coef,I x_7.lit]) (cs2:=#[I x_7.coef,I x_7.lit]) 0 rfl Tryz.sizeOf85 rfl rfl rfl (ones_cons rfl (ones_cons rfl ones_nil)) hst rfl (by show 0 + 2≤2; decide) rfl (fun w22 hst=>nq ?_)))
 obtain ⟨x28,hx28,hB7⟩:=bind_some hB7
 refine W_region (fA 1 fa_85_1 rfl rfl (ldB 0 hst Tryz.isAgg3 rfl rfl rfl (mF sf1 rfl ?_)))
 obtain ⟨H30b,l31,s32,z33,k34⟩:=hst.borrow
 refine L_call rfl Tryz.call63 (ops2 rfl rfl) (i_holds_c (l:=x_7.lit) (values:=values) s32 (RP.mono _ h1 l31) hx28) ?_
 rintro _ w35 ⟨rfl,hst⟩
 have hst:=k34 hst c0
 refine nn ?_
 obtain ⟨sum_36,hA37,hB7⟩:=bind_some hB7
 obtain ⟨R37,hR37⟩:=exR fun f w_=>f 1 = v1∧f 2 = Pt g3∧f 5 = I sum_36∧f 9 = v0_0∧f 10 = I (c.terms.length : Int)∧f 11 = I i_5∧Star H w_ ([box g3 46 #[v0_0,I c.bound]])
 refine W_join R37 ?_ ?_
 refine W_cond (b:=x28) rfl (fun hc38=>?_) (fun hc38=>?_)
 have hA37:=(ite_t hc38).symm.trans hA37
 refine W_region (mF sf5 rfl (fA 0 fa_85_0 rfl rfl (ldB 0 hst Tryz.isAgg3 rfl rfl rfl (L_add rfl rfl rfl (aI rfl (nn ?_))))))
 obtain rfl:=so hA37
 have hst:=hst.get 1 rfl
 exact rj hR37 ⟨sf1,sf2,rfl,sf9,sf10,sf11,(Star.keepN 1 hst)⟩
 have hA37:=(ite_f hc38).symm.trans hA37
 refine W_skip ?_
 obtain rfl:=so hA37
 have hst:=hst.get 1 rfl
 exact rj hR37 ⟨sf1,sf2,sf5,sf9,sf10,sf11,(Star.keepN 1 hst)⟩
 intro f w_ hR
 obtain ⟨sf1,sf2,sf5,sf9,sf10,sf11,hst⟩:=rk hR37 hR
 refine W_region (L_add rfl sf11 rfl (mI rfl (nn ?_)))
 obtain rfl:=so hB7
 show ∃ m,m < _∧I7 m _ _
 refine ⟨rest7.length,by simp,?_⟩
 exact ij hI7 ⟨i_5 + 1,rest7,sum_36,rfl,drop_next hd7,by simp at hl7; omega,hL7,sf1,sf2,sf5,sf9,sf10,(Eq.trans rfl (congrArg (Value.int .i64) (i64_succ (n:=c.terms.length) (by simp at hl7; omega) hlen7))),hst⟩
 rcases suf7 with _ | ⟨_,_⟩
 obtain rfl:=range_nil hL7
 refine W_exit (rj hR7 ⟨sum_6,rfl,sf2,sf5,hst⟩)
 exact absurd (of_decide_eq_false hc8) (by simp at hl7; omega)
 intro f w_ hR
 obtain ⟨sum_6,rfl,sf2,sf5,hst⟩:=rk hR7 hR
 refine sq (mF sf5 rfl (fA 1 fa_46_1 sf2 rfl (ldB 0 hst Tryz.isAgg3 rfl rfl rfl (L_geq rfl rfl rfl (aB rfl (nn (W_ret (retG1 (v1:=Bo (decide (sum_6 ≥ c.bound))) Tryz.results48 rfl ?_))))))))
 obtain rfl:=so hF
 exact ⟨rfl,(Star.keepN 0 hst)⟩
theorem i_satisfies_1_c {c1 : List Bool} {c : Con} {v0_0 : Value} {g_c1 : Nat} {v1_0 : Value} {H : FH} {w : World} (hst : Star H w []) (h0_0 : (rS 85 rTerm).rel H [v0_0] c.terms) (hat_g_c1 : AtH H g_c1 0 [v1_0]) (h1_0 : (rS 4 RP.bool).rel H [v1_0] c1) {r : Bool} (hF : i_satisfies_1 c1 c = some r) :
 C Tryz.prog 47 #[.agg #[v0_0,I c.bound],Pt g_c1] w fun v w'=>v = Bo r∧Star H w' []:=by
 unfold i_satisfies_1 at hF
 refine C_enter Tryz.func47 rfl Tryz.ntmps47 rfl (sq (L_box (v:=.agg #[v0_0,I c.bound]) (cs:=#[v0_0,I c.bound]) rfl rfl rfl hst (fun g3 w4 hst=>aB rfl (nq ?_))))
 obtain ⟨x10,hx10,hF⟩:=bind_some hF
 refine W_region (L_lda (cs:=[v0_0,I c.bound]) rfl Tryz.isAgg46 Tryz.sizeOf46 rfl (At.sub0 (Blk.at (Star.blkAt 0 hst rfl)) 0 2) rfl (L_ld rfl Tryz.isAgg26 rfl (At.cell0 (AtH.at hat_g_c1 hst.sub) (j:=0) rfl) ?_))
 obtain ⟨H12b,l13,s14,z15,k16⟩:=hst.borrow
 refine L_call rfl Tryz.call48 (ops2 rfl rfl) (i_Constraint_holds_c (c:=c) (values:=c1) s14 (RP.mono _ h0_0 l13) (RP.mono _ h1_0 l13) hx10) ?_
 rintro _ w17 ⟨rfl,hst⟩
 have hst:=k16 hst c0
 refine L_not_ rfl rfl (aB rfl (nn (W_ret (retG1 (v1:=Bo (!x10)) Tryz.results47 rfl ?_))))
 obtain rfl:=so hF
 exact ⟨rfl,(Star.keepN 0 hst)⟩
theorem i_satisfies_c {list : List Con} {values : List Bool} {v0 : Value} {v1 : Value} {H : FH} {w : World} (hst : Star H w []) (h0 : (rS 46 (rCon 85)).rel H [v0] list) (h1 : (rS 4 RP.bool).rel H [v1] values) {r : Bool} (hF : i_satisfies list values = some r) :
 C Tryz.prog 25 #[v0,v1] w fun v w'=>v = Bo r∧Star H w' []:=by
 unfold i_satisfies at hF
 refine C_enter Tryz.func25 rfl Tryz.ntmps25 rfl (sq (L_box (v:=v1) (cs:=#[v1]) rfl rfl (cells_one (one_len (slice_len h1))) hst (fun g3 w4 hst=>aB rfl (nq ?_))))
 obtain ⟨x10,hx10,hF⟩:=bind_some hF
 refine W_region (mV v0 rfl (L_mf rfl (ops1 rfl) ?_))
 obtain ⟨H12b,l13,s14,z15,k16⟩:=hst.borrow
 have hf17 : Fun1 Tryz.prog (rCon 85) true Value.bool (i_satisfies_1 values) (.func (.func 47) #[] #[Pt g3]) H12b:=by
   refine ⟨_,_,rfl,Tryz.call47,fun H_ w_ hE_ hs_ cs_ x_ y_ args_ hr_ hy_ ha_=>?_⟩
   obtain ⟨p_0,rfl,hp_0⟩:=rCon_iff.1 hr_
   obtain rfl:=args_of (b:=#[.agg #[p_0,I x_.bound],Pt g3]) ha_
   exact i_satisfies_1_c (c1:=values) (c:=x_) hs_ hp_0 (AtH.le (AtH.of (fz_box 0 z15 rfl)) hE_) (RP.mono _ (RP.mono _ h1 l13) hE_) hy_
 refine L_call rfl Tryz.call46 (ops2 rfl rfl) (slices_ContainsFunc_implConstraint_c (s:=list) (f_:=(i_satisfies_1 values)) s14 (RP.mono _ h0 l13) hf17 hx10) ?_
 rintro _ w18 ⟨rfl,hst⟩
 have hst:=k16 hst c0
 refine L_not_ rfl rfl (aB rfl (nn (W_ret (retG1 (v1:=Bo (!x10)) Tryz.results25 rfl ?_))))
 obtain rfl:=so hF
 exact ⟨rfl,(Star.keepN 0 hst)⟩
theorem i_SatisfiesAll_c {list : List Con} {values : List Bool} {v0 : Value} {v1 : Value} {H : FH} {w : World} (hst : Star H w []) (h0 : (rS 46 (rCon 85)).rel H [v0] list) (h1 : (rS 4 RP.bool).rel H [v1] values) {r : Bool} (hF : i_SatisfiesAll list values = some r) :
 C Tryz.prog 9 #[v0,v1] w fun v w'=>v = Bo r∧Star H w' []:=by
 unfold i_SatisfiesAll at hF
 refine C_enter Tryz.func9 rfl Tryz.ntmps9 rfl (sq (aB rfl (nq ?_)))
 obtain ⟨x6,hx6,hF⟩:=bind_some hF
 obtain ⟨b15,hb15,hF⟩:=bind_some hF
 obtain ⟨R16,hR16⟩:=exR fun f w_=>f 4 = Bo b15∧Star H w_ ([])
 refine W_join R16 ?_ ?_
 refine W_region (mV v0 rfl ?_)
 obtain ⟨H17b,l18,s19,z20,k21⟩:=hst.borrow
 refine L_call rfl Tryz.call15 (ops1 rfl) (i_ProblemValid_c (list:=list) s19 (RP.mono _ h0 l18) hx6) ?_
 rintro _ w22 ⟨rfl,hst⟩
 have hst:=k21 hst c0
 refine mB rfl (L_split (d:=7) (b:=x6) rfl (fun hc23=>?_) (fun hc23=>?_))
 refine mV v1 rfl (L_len rfl Tryz.underlying26 rfl (slice_len h1) (L_eql rfl rfl rfl (L_pick (v:=Bo (x6 && ((values.length : Int) == 12))) rfl rfl (and_t hc23 rfl) (mB rfl (L_split (d:=12) (b:=(x6 && ((values.length : Int) == 12))) rfl (fun hc24=>?_) (fun hc24=>?_))))))
 rw [ite_t hc24] at hb15
 obtain ⟨x13,hx13,hb15⟩:=bind_some hb15
 refine mV v0 rfl (mV v1 rfl ?_)
 obtain ⟨H25b,l26,s27,z28,k29⟩:=hst.borrow
 refine L_call rfl Tryz.call25 (ops2 rfl rfl) (i_satisfies_c (list:=list) (values:=values) s27 (RP.mono _ h0 l26) (RP.mono _ h1 l26) hx13) ?_
 rintro _ w30 ⟨rfl,hst⟩
 have hst:=k29 hst c0
 refine L_pick (v:=Bo b15) rfl rfl (congrArg Value.bool (so hb15)) (aB rfl (nn (rj hR16 ⟨rfl,hst⟩)))
 rw [ite_f hc24] at hb15
 refine ps rfl (ps rfl (ps rfl (L_pick (v:=Bo b15) rfl rfl (congrArg Value.bool (so hb15)) (aB rfl (nn (rj hR16 ⟨rfl,hst⟩))))))
 refine ps rfl (ps rfl (ps rfl (L_pick (v:=Bo (x6 && ((values.length : Int) == 12))) rfl rfl (and_f hc23) (mB rfl (L_split (d:=12) (b:=(x6 && ((values.length : Int) == 12))) rfl (fun hc31=>?_) (fun hc31=>?_))))))
 rw [ite_t hc31] at hb15
 obtain ⟨x13,hx13,hb15⟩:=bind_some hb15
 refine mV v0 rfl (mV v1 rfl ?_)
 obtain ⟨H32b,l33,s34,z35,k36⟩:=hst.borrow
 refine L_call rfl Tryz.call25 (ops2 rfl rfl) (i_satisfies_c (list:=list) (values:=values) s34 (RP.mono _ h0 l33) (RP.mono _ h1 l33) hx13) ?_
 rintro _ w37 ⟨rfl,hst⟩
 have hst:=k36 hst c0
 refine L_pick (v:=Bo b15) rfl rfl (congrArg Value.bool (so hb15)) (aB rfl (nn (rj hR16 ⟨rfl,hst⟩)))
 rw [ite_f hc31] at hb15
 refine ps rfl (ps rfl (ps rfl (L_pick (v:=Bo b15) rfl rfl (congrArg Value.bool (so hb15)) (aB rfl (nn (rj hR16 ⟨rfl,hst⟩))))))
 intro f w_ hR
 obtain ⟨sf4,hst⟩:=rk hR16 hR
 refine W_ret (retG1 (v1:=Bo b15) Tryz.results9 sf4 ?_)
 obtain rfl:=so hF
 exact ⟨rfl,hst⟩
theorem i_refers_c {kind : Int} {H : FH} {w : World} (hst : Star H w []) {r : Int × Bool} (hF : i_refers kind = some r) :
 C Tryz.prog 74 #[I kind] w fun v w'=>v = .tuple #[I r.1,Bo r.2]∧Star H w' []:=by
 unfold i_refers at hF
 refine C_enter Tryz.func74 rfl Tryz.ntmps74 rfl (sq (aI rfl (aB rfl (nq (sq (mI rfl (nn (W_block (sq (L_eql rfl rfl rfl (aB rfl (nn (W_cond (b:=(kind == 1)) rfl (fun hc1=>?_) (fun hc1=>?_))))))))))))))
 have hF:=(ite_t hc1).symm.trans hF
 refine sq (aI rfl (aB rfl (nn (W_ret (retG2 (v1:=I 2) (v2:=Bo false) Tryz.results74 rfl rfl ?_)))))
 obtain rfl:=so hF
 exact ⟨rfl,hst⟩
 have hF:=(ite_f hc1).symm.trans hF
 refine W_seq (sq (L_eql rfl rfl rfl (aB rfl (nn ?_))))
 obtain ⟨t7_2,hA3,hF⟩:=bind_some hF
 obtain ⟨R3,hR3⟩:=exR fun f w_=>f 4 = I kind∧f 7 = Bo t7_2∧Star H w_ ([])
 refine W_join R3 ?_ ?_
 refine W_cond (b:=(kind == 2)) rfl (fun hc4=>?_) (fun hc4=>?_)
 have hA3:=(ite_t hc4).symm.trans hA3
 refine W_skip ?_
 obtain rfl:=so hA3
 exact rj hR3 ⟨rfl,rfl,hst⟩
 have hA3:=(ite_f hc4).symm.trans hA3
 refine sq (L_eql rfl rfl rfl (aB rfl (nn ?_)))
 obtain ⟨t7_5,hA6,hA3⟩:=bind_some hA3
 obtain ⟨R6,hR6⟩:=exR fun f w_=>f 4 = I kind∧f 7 = Bo t7_5∧Star H w_ ([])
 refine W_join R6 ?_ ?_
 refine W_cond (b:=(kind == 3)) rfl (fun hc7=>?_) (fun hc7=>?_)
 have hA6:=(ite_t hc7).symm.trans hA6
 refine W_skip ?_
 obtain rfl:=so hA6
 exact rj hR6 ⟨rfl,rfl,hst⟩
 have hA6:=(ite_f hc7).symm.trans hA6
 refine W_region (L_eql rfl rfl rfl (aB rfl (nn ?_)))
 obtain rfl:=so hA6
 exact rj hR6 ⟨rfl,rfl,hst⟩
 intro f w_ hR
 obtain ⟨sf4,sf7,hst⟩:=rk hR6 hR
 obtain rfl:=so hA3
 exact rj hR3 ⟨sf4,sf7,hst⟩
 intro f w_ hR
 obtain ⟨sf4,sf7,hst⟩:=rk hR3 hR
 refine W_cond (b:=t7_2) sf7 (fun hc8=>?_) (fun hc8=>?_)
 have hF:=(ite_t hc8).symm.trans hF
 refine sq (aI rfl (aB rfl (nn (W_ret (retG2 (v1:=I 1) (v2:=Bo true) Tryz.results74 rfl rfl ?_)))))
 obtain rfl:=so hF
 exact ⟨rfl,hst⟩
 have hF:=(ite_f hc8).symm.trans hF
 refine W_seq (sq (L_eql rfl sf4 rfl (aB rfl (nn ?_))))
 obtain ⟨t11_9,hA10,hF⟩:=bind_some hF
 obtain ⟨R10,hR10⟩:=exR fun f w_=>f 4 = I kind∧f 11 = Bo t11_9∧Star H w_ ([])
 refine W_join R10 ?_ ?_
 refine W_cond (b:=(kind == 4)) rfl (fun hc11=>?_) (fun hc11=>?_)
 have hA10:=(ite_t hc11).symm.trans hA10
 refine W_skip ?_
 obtain rfl:=so hA10
 exact rj hR10 ⟨sf4,rfl,hst⟩
 have hA10:=(ite_f hc11).symm.trans hA10
 refine W_region (L_eql rfl sf4 rfl (aB rfl (nn ?_)))
 obtain rfl:=so hA10
 exact rj hR10 ⟨sf4,rfl,hst⟩
 intro f w_ hR
 obtain ⟨sf4,sf11,hst⟩:=rk hR10 hR
 refine W_cond (b:=t11_9) sf11 (fun hc12=>?_) (fun hc12=>?_)
 have hF:=(ite_t hc12).symm.trans hF
 refine sq (aI rfl (aB rfl (nn (W_ret (retG2 (v1:=I 1) (v2:=Bo false) Tryz.results74 rfl rfl ?_)))))
 obtain rfl:=so hF
 exact ⟨rfl,hst⟩
 have hF:=(ite_f hc12).symm.trans hF
 refine W_seq (sq (L_eql rfl sf4 rfl (aB rfl (nn ?_))))
 obtain ⟨t14_13,hA14,hF⟩:=bind_some hF
 obtain ⟨R14,hR14⟩:=exR fun f w_=>f 14 = Bo t14_13∧Star H w_ ([])
 refine W_join R14 ?_ ?_
 refine W_cond (b:=(kind == 6)) rfl (fun hc15=>?_) (fun hc15=>?_)
 have hA14:=(ite_t hc15).symm.trans hA14
 refine W_skip ?_
 obtain rfl:=so hA14
 exact rj hR14 ⟨rfl,hst⟩
 have hA14:=(ite_f hc15).symm.trans hA14
 refine W_region (L_eql rfl sf4 rfl (aB rfl (nn ?_)))
 obtain rfl:=so hA14
 exact rj hR14 ⟨rfl,hst⟩
 intro f w_ hR
 obtain ⟨sf14,hst⟩:=rk hR14 hR
 refine W_cond (b:=t14_13) sf14 (fun hc16=>?_) (fun hc16=>?_)
 have hF:=(ite_t hc16).symm.trans hF
 refine sq (aI rfl (aB rfl (nn (W_ret (retG2 (v1:=I 0) (v2:=Bo false) Tryz.results74 rfl rfl ?_)))))
 obtain rfl:=so hF
 exact ⟨rfl,hst⟩
 have hF:=(ite_f hc16).symm.trans hF
 refine W_skip (sq (aI rfl (aB rfl (nn (W_ret (retG2 (v1:=I (-1)) (v2:=Bo false) Tryz.results74 rfl rfl ?_))))))
 obtain rfl:=so hF
 exact ⟨rfl,hst⟩
end Go.Proofs.YteeilbddjlpiaaaGreat

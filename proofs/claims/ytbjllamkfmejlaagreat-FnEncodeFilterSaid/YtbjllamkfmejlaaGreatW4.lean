/- Part of a proof by program: W4. -/
import Derived.Test.YtbjllamkfmejlaaGreatD1
import Derived.Test.YtbjllamkfmejlaaGreatW3
namespace Go.Proofs.YtbjllamkfmejlaaGreat
open Go Go.E Go.L Go.RowKit
set_option linter.unusedVariables false
set_option linter.unusedSimpArgs false
set_option maxRecDepth 100000
theorem slices_Equal_implTerm_c {s1 : List Term} {s2 : List Term} {v0 : Value} {v1 : Value} {H : FH} {w : World} (Z : Star H w []) (h0 : (rS 122 rTerm).rel H [v0] s1) (h1 : (rS 122 rTerm).rel H [v1] s2) {r : Bool} (hF : slices_Equal_implTerm s1 s2 = some r) :
 C Tryz.prog 112 #[v0,v1] w fun v w'=>v = Bo r∧Star H w' []:=by
 unfold slices_Equal_implTerm at hF
 refine C_enter Tryz.func112 rfl Tryz.ntmps112 rfl (sq (aB rfl (nq (sq (mV v0 rfl (L_len rfl Tryz.underlying71 rfl (slice_len h0) (mV v1 rfl (L_len rfl Tryz.underlying71 rfl (slice_len h1) (L_neq rfl rfl rfl (nn (W_cond (b:=((s1.length : Int) != (s2.length : Int))) rfl (fun hc1=>?_) (fun hc1=>?_))))))))))))
 have hF:=(ite_t hc1).symm.trans hF
 refine sq (aB rfl (nn (W_ret (retG1 (v1:=Bo false) Tryz.results112 rfl ?_))))
 obtain rfl:=so hF
 exact ⟨rfl,Z⟩
 have hF:=(ite_f hc1).symm.trans hF
 refine W_skip (W_seq (sq (mV v0 rfl (L_len rfl Tryz.underlying71 rfl (slice_len h0) (mI rfl (nn ?_))))))
 have hlen5 : List.length s1≤9223372036854775807:=len_le (slice_len h0)
 obtain ⟨j5,hL5,hF⟩:=bind_some hF
 obtain ⟨R5,hR5⟩:=exR fun f w_=>∃ H3 : FH,j5 = .nx ()∧Le H H3∧Star H3 w_ ([])
 refine W_join R5 ?_ ?_
 refine W_block ?_
 obtain ⟨I5,hI5⟩:=exI fun n f w_=>∃ i_2 : Nat,∃ suf5 : List Term,∃ H3 : FH,n = suf5.length∧List.drop i_2 s1 = suf5∧i_2 + suf5.length = s1.length∧rangeL (slices_Equal_implTerm_b1 s2) suf5 i_2 () = some j5∧Le H H3∧f 0 = v0∧f 1 = v1∧f 12 = I (s1.length : Int)∧f 13 = I i_2∧Star H3 w_ ([])
 refine W_loop I5 (n:=s1.length) ?_ ?_
 exact ij hI5 ⟨0,s1,H,rfl,rfl,Nat.zero_add _,hL5,(Le.refl _),rfl,rfl,rfl,rfl,Z⟩
 intro n5 f w_ hI
 obtain ⟨i_2,suf5,H3,rfl,hd5,hl5,hL5,l4,sf0,sf1,sf12,sf13,Z⟩:=ik hI5 hI
 refine sq (L_lss rfl sf13 sf12 (nq (W_cond (b:=decide ((i_2 : Int) < (s1.length : Int))) rfl (fun hc6=>?_) (fun hc6=>?_))))
 have hlt5:=of_decide_eq_true hc6
 rcases suf5 with _ | ⟨x_5,rest5⟩
 exact absurd hlt5 (by simp at hl5; omega)
 obtain ⟨o5,hB5,hL5⟩:=range_cons hL5
 rw [slices_Equal_implTerm_b1] at hB5
 have hix5:=drop_idx hd5
 refine W_skip (W_seq (W_block (sq (mF sf13 rfl (aI rfl (nq ?_))))))
 obtain ⟨x11,hx11,hB5⟩:=bind_some hB5
 refine W_drawS 8 [isV (v0),isV (I i_2),isEl rTerm x_5 0,isV (.agg #[I x_5.coef,I x_5.lit]),isV (v1),isV (I i_2),isEl rTerm x11 0,isV (.agg #[I x11.coef,I x11.lit])] [] [] ([]) [([],[]),([],[]),([],[]),([],[]),([],[]),([],[]),([],[]),([],[])] (S:=[]) Tryz_mix (by kernel_rfl) rfl (by kernel_rfl) (amF_cons (mono_V _) (amF_cons (mono_V _) (amF_cons (mono_el _ _ _) (amF_cons (mono_V _) (amF_cons (mono_V _) (amF_cons (mono_V _) (amF_cons (mono_el _ _ _) (amF_cons (mono_V _) amF_nil)))))))) Z ?_ (fun f w_ H16 hS16 hE16 hT16 Z=>?_)
 refine opsS_cons (fun f w_ _ _ s _ _ Z=>mF ((s 0 rfl).trans sf0) rfl (nO rfl rfl Z)) (opsS_cons (fun f w_ _ _ s _ _ Z=>mF ((s 5 rfl).trans rfl) rfl (nO rfl rfl Z)) (opsS_cons ?_ ?_))
 intro f w_ H16 X16 hS16 hE16 hP16 Z
 refine L_ix (r:=rTerm) rfl Tryz.underlying71 Tryz.sizeOf122 (hP16 0 16 rfl rfl) (RP.mono _ h0 (Le.trans l4 hE16)) (hP16 1 17 rfl rfl) hix5 (fun g25 o26 cs_g25 hrk_hat27 hat27=>?_)
 obtain rfl:=rTerm_iff.1 hrk_hat27
 exact L_nil ⟨rfl,_,_,rfl,Le.refl _,fun _ _=>⟨_,_,_,rfl,hrk_hat27,hat27⟩,Z⟩
 refine opsS_cons ?_ ?_
 intro f w_ H16 X16 hS16 hE16 hP16 Z
 obtain ⟨g29,o29,cs29,hv29,hrk_hat29,hat29⟩:=(hP16 2 18 rfl rfl)
 obtain rfl:=rTerm_iff.1 hrk_hat29
 refine L_lda (cs:=[I x_5.coef,I x_5.lit]) rfl Tryz.isAgg122 Tryz.sizeOf122 hv29 (At.sub (AtH.at hat29 Z.sub) 0 2) rfl (L_nil ⟨rfl,_,_,rfl,Le.refl _,fun _ _=>rfl,Z⟩)
 refine opsS_cons (fun f w_ _ _ s _ _ Z=>mF ((s 1 rfl).trans sf1) rfl (nO rfl rfl Z)) (opsS_cons (fun f w_ _ _ s _ _ Z=>mF ((s 5 rfl).trans rfl) rfl (nO rfl rfl Z)) (opsS_cons ?_ ?_))
 intro f w_ H16 X16 hS16 hE16 hP16 Z
 refine L_ix (r:=rTerm) rfl Tryz.underlying71 Tryz.sizeOf122 (hP16 4 20 rfl rfl) (RP.mono _ h1 (Le.trans l4 hE16)) (hP16 5 21 rfl rfl) hx11 (fun g31 o32 cs_g31 hrk_hat33 hat33=>?_)
 obtain rfl:=rTerm_iff.1 hrk_hat33
 exact L_nil ⟨rfl,_,_,rfl,Le.refl _,fun _ _=>⟨_,_,_,rfl,hrk_hat33,hat33⟩,Z⟩
 refine opsS_cons ?_ ?_
 intro f w_ H16 X16 hS16 hE16 hP16 Z
 obtain ⟨g35,o35,cs35,hv35,hrk_hat35,hat35⟩:=(hP16 6 22 rfl rfl)
 obtain rfl:=rTerm_iff.1 hrk_hat35
 refine L_lda (cs:=[I x11.coef,I x11.lit]) rfl Tryz.isAgg122 Tryz.sizeOf122 hv35 (At.sub (AtH.at hat35 Z.sub) 0 2) rfl (L_nil ⟨rfl,_,_,rfl,Le.refl _,fun _ _=>rfl,Z⟩)
 exact opsS_nil
 refine L_tneq (x1:=x_5.coef) (x2:=x_5.lit) (y1:=x11.coef) (y2:=x11.lit) rfl termEq_122 (hT16 3 19 rfl rfl) (hT16 7 23 rfl rfl) (nn (W_cond (b:=(!(x_5 == x11))) rfl (fun hc37=>?_) (fun hc37=>?_)))
 have hB5:=(ite_t hc37).symm.trans hB5
 refine sq (aB rfl (nn (W_ret (retG1 (v1:=Bo false) Tryz.results112 rfl ?_))))
 obtain rfl:=so hB5
 obtain rfl:=so hL5
 obtain rfl:=so hF
 exact ⟨rfl,(Star.down Z (Le.trans l4 hE16) c0)⟩
 have hB5:=(ite_f hc37).symm.trans hB5
 refine W_skip (W_region (L_add rfl ((hS16 13 rfl).trans sf13) rfl (mI rfl (nn ?_))))
 obtain rfl:=so hB5
 show ∃ m,m < _∧I5 m _ _
 refine ⟨rest5.length,by simp,?_⟩
 exact ij hI5 ⟨i_2 + 1,rest5,H16,rfl,drop_next hd5,by simp at hl5; omega,hL5,(Le.trans l4 hE16),((hS16 0 rfl).trans sf0),((hS16 1 rfl).trans sf1),((hS16 12 rfl).trans sf12),(Eq.trans rfl (congrArg (Value.int .i64) (i64_succ (n:=s1.length) (by simp at hl5; omega) hlen5))),Z⟩
 rcases suf5 with _ | ⟨_,_⟩
 obtain rfl:=range_nil hL5
 refine W_exit (rj hR5 ⟨H3,rfl,l4,Z⟩)
 exact absurd (of_decide_eq_false hc6) (by simp at hl5; omega)
 intro f w_ hR
 obtain ⟨H3,rfl,l4,Z⟩:=rk hR5 hR
 refine sq (aB rfl (nn (W_ret (retG1 (v1:=Bo true) Tryz.results112 rfl ?_))))
 obtain rfl:=so hF
 exact ⟨rfl,(Star.down Z l4 c0)⟩
theorem i_ConstraintSame_c {a : Con} {b : Con} {v0_0 : Value} {v1_0 : Value} {H : FH} {w : World} (Z : Star H w []) (h0_0 : (rS 122 rTerm).rel H [v0_0] a.terms) (h1_0 : (rS 122 rTerm).rel H [v1_0] b.terms) {r : Bool} (hF : i_ConstraintSame a b = some r) :
 C Tryz.prog 54 #[.agg #[v0_0,I a.bound],.agg #[v1_0,I b.bound]] w fun v w'=>v = Bo r∧Star H w' []:=by
 unfold i_ConstraintSame at hF
 refine C_enter Tryz.func54 rfl Tryz.ntmps54 rfl (sq (L_box (v:=.agg #[v0_0,I a.bound]) (cs:=#[v0_0,I a.bound]) rfl rfl rfl Z (fun g5 w6 Z=>L_box (v:=.agg #[v1_0,I b.bound]) (cs:=#[v1_0,I b.bound]) rfl rfl rfl Z (fun g7 w8 Z=>aB rfl (nq ?_)))))
 obtain ⟨b16,hb16,hF⟩:=bind_some hF
 obtain ⟨R17,hR17⟩:=exR fun f w_=>f 4 = Bo b16∧Star H w_ ([])
 refine W_join R17 ?_ ?_
 refine W_region (fA 1 fa_73_1 rfl rfl (ldB 1 Z Tryz.isAgg3 rfl rfl rfl (fA 1 fa_73_1 rfl rfl (ldB 0 Z Tryz.isAgg3 rfl rfl rfl (L_eql rfl rfl rfl (mB rfl (L_split (d:=10) (b:=(a.bound == b.bound)) rfl (fun hc18=>?_) (fun hc18=>?_))))))))
 rw [ite_t hc18] at hb16
 obtain ⟨x14,hx14,hb16⟩:=bind_some hb16
 refine fA 0 fa_73_0 rfl rfl (ldB 1 Z Tryz.isAgg71 rfl rfl rfl (fA 0 fa_73_0 rfl rfl (ldB 0 Z Tryz.isAgg71 rfl rfl rfl ?_)))
 obtain ⟨H19b,l20,s21,z22,k23⟩:=Z.borrow
 refine L_call rfl Tryz.call112 (ops2 rfl rfl) (slices_Equal_implTerm_c (s1:=a.terms) (s2:=b.terms) s21 (RP.mono _ h0_0 l20) (RP.mono _ h1_0 l20) hx14) ?_
 rintro _ w24 ⟨rfl,Z⟩
 have Z:=k23 Z c0
 refine L_pick (v:=Bo b16) rfl rfl (congrArg Value.bool (so hb16)) (aB rfl (nn (rj hR17 ⟨rfl,(Star.keepN 0 Z)⟩)))
 rw [ite_f hc18] at hb16
 refine ps rfl (ps rfl (ps rfl (ps rfl (ps rfl (L_pick (v:=Bo b16) rfl rfl (congrArg Value.bool (so hb16)) (aB rfl (nn (rj hR17 ⟨rfl,(Star.keepN 0 Z)⟩))))))))
 intro f w_ hR
 obtain ⟨sf4,Z⟩:=rk hR17 hR
 refine W_ret (retG1 (v1:=Bo b16) Tryz.results54 sf4 ?_)
 obtain rfl:=so hF
 exact ⟨rfl,Z⟩
theorem l_cpProblem_c {a : List Con} {b : List Con} {v0 : Value} {v1 : Value} {H : FH} {w : World} (Z : Star H w []) (h0 : (rS 73 (rCon 122)).rel H [v0] a) (h1 : (rS 73 (rCon 122)).rel H [v1] b) {r : Bool} (hF : l_cpProblem a b = some r) :
 C Tryz.prog 15 #[v0,v1] w fun v w'=>v = Bo r∧Star H w' []:=by
 unfold l_cpProblem at hF
 refine C_enter Tryz.func15 rfl Tryz.ntmps15 rfl (sq (aB rfl (nq (sq (mV v0 rfl (L_len rfl Tryz.underlying28 rfl (slice_len h0) (mV v1 rfl (L_len rfl Tryz.underlying28 rfl (slice_len h1) (L_neq rfl rfl rfl (nn (W_cond (b:=((a.length : Int) != (b.length : Int))) rfl (fun hc1=>?_) (fun hc1=>?_))))))))))))
 have hF:=(ite_t hc1).symm.trans hF
 refine sq (aB rfl (nn (W_ret (retG1 (v1:=Bo false) Tryz.results15 rfl ?_))))
 obtain rfl:=so hF
 exact ⟨rfl,Z⟩
 have hF:=(ite_f hc1).symm.trans hF
 refine W_skip (W_seq (sq (aI rfl (nn ?_))))
 have hlen5 : List.length a≤9223372036854775807:=len_le (slice_len h0)
 obtain ⟨j5,hL5,hF⟩:=bind_some hF
 obtain ⟨R5,hR5⟩:=exR fun f w_=>∃ H3 : FH,j5 = .nx ()∧Le H H3∧Star H3 w_ ([])
 refine W_join R5 ?_ ?_
 refine W_block ?_
 obtain ⟨I5,hI5⟩:=exI fun n f w_=>∃ i_2 : Nat,∃ suf5 : List Con,∃ H3 : FH,n = suf5.length∧List.drop i_2 a = suf5∧i_2 + suf5.length = a.length∧rangeL (l_cpProblem_b1 b) suf5 i_2 () = some j5∧Le H H3∧f 0 = v0∧f 1 = v1∧f 5 = I i_2∧Star H3 w_ ([])
 refine W_loop I5 (n:=a.length) ?_ ?_
 exact ij hI5 ⟨0,a,H,rfl,rfl,Nat.zero_add _,hL5,(Le.refl _),rfl,rfl,rfl,Z⟩
 intro n5 f w_ hI
 obtain ⟨i_2,suf5,H3,rfl,hd5,hl5,hL5,l4,sf0,sf1,sf5,Z⟩:=ik hI5 hI
 refine W_seq (sq (mF sf5 rfl (mF sf0 rfl (L_len rfl Tryz.underlying28 rfl (slice_len (RP.mono _ h0 l4)) (L_lss rfl rfl rfl (nn (W_cond (b:=decide ((i_2 : Int) < (a.length : Int))) rfl (fun hc6=>?_) (fun hc6=>?_))))))))
 have hlt5:=of_decide_eq_true hc6
 rcases suf5 with _ | ⟨x_5,rest5⟩
 exact absurd hlt5 (by simp at hl5; omega)
 obtain ⟨o5,hB5,hL5⟩:=range_cons hL5
 rw [l_cpProblem_b1] at hB5
 have hix5:=drop_idx hd5
 refine W_skip (W_seq (W_block (W_seq ?_)))
 obtain ⟨x11,hx11,hB5⟩:=bind_some hB5
 obtain ⟨x21,hx21,hB5⟩:=bind_some hB5
 refine W_drawS 8 [isV (v0),isV (I i_2),isEl (rCon 122) x_5 0,exD (isData (rS 122 rTerm) x_5.terms) fun u_0=>isV (.agg #[u_0,I x_5.bound]),isV (v1),isV (I i_2),isEl (rCon 122) x11 0,exD (isData (rS 122 rTerm) x11.terms) fun u_0=>isV (.agg #[u_0,I x11.bound])] [] [] ([]) [([],[]),([],[]),([],[]),([],[]),([],[]),([],[]),([],[]),([],[])] (S:=[]) Tryz_mix (by kernel_rfl) rfl (by kernel_rfl) (amF_cons (mono_V _) (amF_cons (mono_V _) (amF_cons (mono_el _ _ _) (amF_cons (mono_exD (mono_data _ _) fun _=>mono_V _) (amF_cons (mono_V _) (amF_cons (mono_V _) (amF_cons (mono_el _ _ _) (amF_cons (mono_exD (mono_data _ _) fun _=>mono_V _) amF_nil)))))))) Z ?_ (fun f w_ H23 hS23 hE23 hT23 Z=>?_)
 refine opsS_cons (fun f w_ _ _ s _ _ Z=>mF ((s 0 rfl).trans sf0) rfl (nO rfl rfl Z)) (opsS_cons (fun f w_ _ _ s _ _ Z=>mF ((s 5 rfl).trans sf5) rfl (nO rfl rfl Z)) (opsS_cons ?_ ?_))
 intro f w_ H23 X23 hS23 hE23 hP23 Z
 refine L_ix (r:=(rCon 122)) rfl Tryz.underlying28 Tryz.sizeOf73 (hP23 0 17 rfl rfl) (RP.mono _ h0 (Le.trans l4 hE23)) (hP23 1 18 rfl rfl) hix5 (fun g32 o33 cs_g32 hrk_hat34 hat34=>?_)
 obtain ⟨u35_0,rfl,hu35_0⟩:=rCon_iff.1 hrk_hat34
 exact L_nil ⟨rfl,_,_,rfl,Le.refl _,fun _ _=>⟨_,_,_,rfl,hrk_hat34,hat34⟩,Z⟩
 refine opsS_cons ?_ ?_
 intro f w_ H23 X23 hS23 hE23 hP23 Z
 obtain ⟨g36,o36,cs36,hv36,hrk_hat36,hat36⟩:=(hP23 2 19 rfl rfl)
 obtain ⟨u37_0,rfl,hu37_0⟩:=rCon_iff.1 hrk_hat36
 refine L_lda (cs:=[u37_0,I x_5.bound]) rfl Tryz.isAgg73 Tryz.sizeOf73 hv36 (At.sub (AtH.at hat36 Z.sub) 0 2) rfl (L_nil ⟨rfl,_,_,rfl,Le.refl _,fun _ _=>⟨_,hu37_0,rfl⟩,Z⟩)
 refine opsS_cons (fun f w_ _ _ s _ _ Z=>mF ((s 1 rfl).trans sf1) rfl (nO rfl rfl Z)) (opsS_cons (fun f w_ _ _ s _ _ Z=>mF ((s 5 rfl).trans sf5) rfl (nO rfl rfl Z)) (opsS_cons ?_ ?_))
 intro f w_ H23 X23 hS23 hE23 hP23 Z
 refine L_ix (r:=(rCon 122)) rfl Tryz.underlying28 Tryz.sizeOf73 (hP23 4 21 rfl rfl) (RP.mono _ h1 (Le.trans l4 hE23)) (hP23 5 22 rfl rfl) hx11 (fun g38 o39 cs_g38 hrk_hat40 hat40=>?_)
 obtain ⟨u41_0,rfl,hu41_0⟩:=rCon_iff.1 hrk_hat40
 exact L_nil ⟨rfl,_,_,rfl,Le.refl _,fun _ _=>⟨_,_,_,rfl,hrk_hat40,hat40⟩,Z⟩
 refine opsS_cons ?_ ?_
 intro f w_ H23 X23 hS23 hE23 hP23 Z
 obtain ⟨g42,o42,cs42,hv42,hrk_hat42,hat42⟩:=(hP23 6 23 rfl rfl)
 obtain ⟨u43_0,rfl,hu43_0⟩:=rCon_iff.1 hrk_hat42
 refine L_lda (cs:=[u43_0,I x11.bound]) rfl Tryz.isAgg73 Tryz.sizeOf73 hv42 (At.sub (AtH.at hat42 Z.sub) 0 2) rfl (L_nil ⟨rfl,_,_,rfl,Le.refl _,fun _ _=>⟨_,hu43_0,rfl⟩,Z⟩)
 exact opsS_nil
 obtain ⟨u44_0,hu44_0,hv44⟩:=(hT23 3 20 rfl rfl)
 obtain ⟨u45_0,hu45_0,hv45⟩:=(hT23 7 24 rfl rfl)
 obtain ⟨H46b,l47,s48,z49,k50⟩:=Z.borrow
 refine L_call rfl Tryz.call54 (ops2 hv44 hv45) (i_ConstraintSame_c (a:=x_5) (b:=x11) s48 (RP.mono _ hu44_0 l47) (RP.mono _ hu45_0 l47) hx21) ?_
 rintro _ w51 ⟨rfl,Z⟩
 have Z:=k50 Z c0
 refine L_not_ rfl rfl (nn (W_cond (b:=(!x21)) rfl (fun hc52=>?_) (fun hc52=>?_)))
 have hB5:=(ite_t hc52).symm.trans hB5
 refine sq (aB rfl (nn (W_ret (retG1 (v1:=Bo false) Tryz.results15 rfl ?_))))
 obtain rfl:=so hB5
 obtain rfl:=so hL5
 obtain rfl:=so hF
 exact ⟨rfl,(Star.down Z (Le.trans l4 hE23) c0)⟩
 have hB5:=(ite_f hc52).symm.trans hB5
 refine W_skip (W_region (mF ((hS23 5 rfl).trans sf5) rfl (L_add rfl rfl rfl (aI rfl (nn ?_)))))
 obtain rfl:=so hB5
 show ∃ m,m < _∧I5 m _ _
 refine ⟨rest5.length,by simp,?_⟩
 exact ij hI5 ⟨i_2 + 1,rest5,H23,rfl,drop_next hd5,by simp at hl5; omega,hL5,(Le.trans l4 hE23),((hS23 0 rfl).trans sf0),((hS23 1 rfl).trans sf1),(Eq.trans rfl (congrArg (Value.int .i64) (i64_succ (n:=a.length) (by simp at hl5; omega) hlen5))),Z⟩
 rcases suf5 with _ | ⟨_,_⟩
 obtain rfl:=range_nil hL5
 refine W_exit (rj hR5 ⟨H3,rfl,l4,Z⟩)
 exact absurd (of_decide_eq_false hc6) (by simp at hl5; omega)
 intro f w_ hR
 obtain ⟨H3,rfl,l4,Z⟩:=rk hR5 hR
 refine sq (aB rfl (nn (W_ret (retG1 (v1:=Bo true) Tryz.results15 rfl ?_))))
 obtain rfl:=so hF
 exact ⟨rfl,(Star.down Z l4 c0)⟩
theorem slices_IndexFunc_implConstraint_c {s : List Con} {f_ : (Con→Option Bool)} {v0 : Value} {v1 : Value} {H : FH} {w : World} (Z : Star H w []) (h0 : (rS 73 (rCon 122)).rel H [v0] s) (h1 : Fun1 Tryz.prog (rCon 122) true Value.bool f_ v1 H) {r : Int} (hF : slices_IndexFunc_implConstraint s f_ = some r) :
 C Tryz.prog 162 #[v0,v1] w fun v w'=>v = I r∧Star H w' []:=by
 unfold slices_IndexFunc_implConstraint at hF
 obtain ⟨fid_1,caps_1,rfl,hcall_1,hc_1⟩:=h1
 refine C_enter Tryz.func162 rfl Tryz.ntmps162 rfl (sq (aI rfl (nq (sq (mV v0 rfl (L_len rfl Tryz.underlying28 rfl (slice_len h0) (mI rfl (nn ?_))))))))
 have hlen2 : List.length s≤9223372036854775807:=len_le (slice_len h0)
 obtain ⟨j2,hL2,hF⟩:=bind_some hF
 obtain ⟨R2,hR2⟩:=exR fun f w_=>j2 = .nx ()∧Star H w_ ([])
 refine W_join R2 ?_ ?_
 refine W_block ?_
 obtain ⟨I2,hI2⟩:=exI fun n f w_=>∃ i_1 : Nat,∃ suf2 : List Con,n = suf2.length∧List.drop i_1 s = suf2∧i_1 + suf2.length = s.length∧rangeL (slices_IndexFunc_implConstraint_b1 f_) suf2 i_1 () = some j2∧f 0 = v0∧f 1 = .func (.func fid_1) #[] caps_1∧f 7 = I (s.length : Int)∧f 8 = I i_1∧Star H w_ ([])
 refine W_loop I2 (n:=s.length) ?_ ?_
 exact ij hI2 ⟨0,s,rfl,rfl,Nat.zero_add _,hL2,rfl,rfl,rfl,rfl,Z⟩
 intro n2 f w_ hI
 obtain ⟨i_1,suf2,rfl,hd2,hl2,hL2,sf0,sf1,sf7,sf8,Z⟩:=ik hI2 hI
 refine sq (L_lss rfl sf8 sf7 (nq (W_cond (b:=decide ((i_1 : Int) < (s.length : Int))) rfl (fun hc3=>?_) (fun hc3=>?_))))
 have hlt2:=of_decide_eq_true hc3
 rcases suf2 with _ | ⟨x_2,rest2⟩
 exact absurd hlt2 (by simp at hl2; omega)
 obtain ⟨o2,hB2,hL2⟩:=range_cons hL2
 rw [slices_IndexFunc_implConstraint_b1] at hB2
 have hix2:=drop_idx hd2
 refine W_skip (W_seq (W_block (sq (mF sf8 rfl (aI rfl (nq ?_))))))
 obtain ⟨x8,hx8,hB2⟩:=bind_some hB2
 refine W_region (mF sf1 rfl (mF sf0 rfl (mI rfl (L_ix (r:=(rCon 122)) rfl Tryz.underlying28 Tryz.sizeOf73 rfl h0 rfl hix2 (fun g15 o16 cs_g15 hrk_hat17 hat17=>?_)))))
 obtain ⟨u18_0,rfl,hu18_0⟩:=rCon_iff.1 hrk_hat17
 refine L_lda (cs:=[u18_0,I x_2.bound]) rfl Tryz.isAgg73 Tryz.sizeOf73 rfl (At.sub (AtH.at hat17 Z.sub) 0 2) rfl ?_
 obtain ⟨H19b,l20,s21,z22,k23⟩:=Z.borrow
 refine L_callv (args:=#[.agg #[u18_0,I x_2.bound]]) rfl hcall_1 rfl (ops1 rfl) (hc_1 _ _ l20 s21 [u18_0,I x_2.bound] _ _ _ (rCon_iff.2 ⟨_,rfl,(RP.mono _ hu18_0 l20)⟩) hx8 (args_app rfl)) ?_
 rintro _ w24 ⟨rfl,Z⟩
 have Z:=k23 Z c0
 refine nn (W_cond (b:=x8) rfl (fun hc25=>?_) (fun hc25=>?_))
 have hB2:=(ite_t hc25).symm.trans hB2
 refine sq (mI rfl (aI rfl (nn (W_ret (retG1 (v1:=I i_1) Tryz.results162 rfl ?_)))))
 obtain rfl:=so hB2
 obtain rfl:=so hL2
 obtain rfl:=so hF
 exact ⟨rfl,Z⟩
 have hB2:=(ite_f hc25).symm.trans hB2
 refine W_skip (W_region (L_add rfl sf8 rfl (mI rfl (nn ?_))))
 obtain rfl:=so hB2
 show ∃ m,m < _∧I2 m _ _
 refine ⟨rest2.length,by simp,?_⟩
 exact ij hI2 ⟨i_1 + 1,rest2,rfl,drop_next hd2,by simp at hl2; omega,hL2,sf0,sf1,sf7,(Eq.trans rfl (congrArg (Value.int .i64) (i64_succ (n:=s.length) (by simp at hl2; omega) hlen2))),Z⟩
 rcases suf2 with _ | ⟨_,_⟩
 obtain rfl:=range_nil hL2
 refine W_exit (rj hR2 ⟨rfl,Z⟩)
 exact absurd (of_decide_eq_false hc3) (by simp at hl2; omega)
 intro f w_ hR
 obtain ⟨rfl,Z⟩:=rk hR2 hR
 refine sq (aI rfl (nn (W_ret (retG1 (v1:=I (-1)) Tryz.results162 rfl ?_))))
 obtain rfl:=so hF
 exact ⟨rfl,Z⟩
theorem slices_ContainsFunc_implConstraint_c {s : List Con} {f_ : (Con→Option Bool)} {v0 : Value} {v1 : Value} {H : FH} {w : World} (Z : Star H w []) (h0 : (rS 73 (rCon 122)).rel H [v0] s) (h1 : Fun1 Tryz.prog (rCon 122) true Value.bool f_ v1 H) {r : Bool} (hF : slices_ContainsFunc_implConstraint s f_ = some r) :
 C Tryz.prog 123 #[v0,v1] w fun v w'=>v = Bo r∧Star H w' []:=by
 unfold slices_ContainsFunc_implConstraint at hF
 obtain ⟨fid_1,caps_1,rfl,hcall_1,hc_1⟩:=h1
 refine C_enter Tryz.func123 rfl Tryz.ntmps123 rfl (sq (aB rfl (nq ?_)))
 obtain ⟨x6,hx6,hF⟩:=bind_some hF
 refine W_region (mV v0 rfl (mV (.func (.func fid_1) #[] caps_1) rfl ?_))
 obtain ⟨H8b,l9,s10,z11,k12⟩:=Z.borrow
 refine L_call rfl Tryz.call162 (ops2 rfl rfl) (slices_IndexFunc_implConstraint_c (s:=s) (f_:=f_) s10 (RP.mono _ h0 l9) (Fun1.le ⟨_,_,rfl,hcall_1,hc_1⟩ l9) hx6) ?_
 rintro _ w13 ⟨rfl,Z⟩
 have Z:=k12 Z c0
 refine L_geq rfl rfl rfl (aB rfl (nn (W_ret (retG1 (v1:=Bo (decide (x6 ≥ 0))) Tryz.results123 rfl ?_))))
 obtain rfl:=so hF
 exact ⟨rfl,Z⟩
theorem i_allValid_1_c {c : Con} {v0_0 : Value} {H : FH} {w : World} (Z : Star H w []) (h0_0 : (rS 122 rTerm).rel H [v0_0] c.terms) {r : Bool} (hF : i_allValid_1 c = some r) :
 C Tryz.prog 129 #[.agg #[v0_0,I c.bound]] w fun v w'=>v = Bo r∧Star H w' []:=by
 unfold i_allValid_1 at hF
 refine C_enter Tryz.func129 rfl Tryz.ntmps129 rfl (sq (L_box (v:=.agg #[v0_0,I c.bound]) (cs:=#[v0_0,I c.bound]) rfl rfl rfl Z (fun g3 w4 Z=>aB rfl (nq ?_))))
 obtain ⟨x10,hx10,hF⟩:=bind_some hF
 refine W_region (L_lda (cs:=[v0_0,I c.bound]) rfl Tryz.isAgg73 Tryz.sizeOf73 rfl (At.sub0 (Blk.at (Star.blkAt 0 Z rfl)) 0 2) rfl ?_)
 obtain ⟨H12b,l13,s14,z15,k16⟩:=Z.borrow
 refine L_call rfl Tryz.call130 (ops1 rfl) (i_ConstraintValid_c (c:=c) s14 (RP.mono _ h0_0 l13) hx10) ?_
 rintro _ w17 ⟨rfl,Z⟩
 have Z:=k16 Z c0
 refine L_not_ rfl rfl (aB rfl (nn (W_ret (retG1 (v1:=Bo (!x10)) Tryz.results129 rfl ?_))))
 obtain rfl:=so hF
 exact ⟨rfl,(Star.keepN 0 Z)⟩
theorem i_allValid_c {list : List Con} {v0 : Value} {H : FH} {w : World} (Z : Star H w []) (h0 : (rS 73 (rCon 122)).rel H [v0] list) {r : Bool} (hF : i_allValid list = some r) :
 C Tryz.prog 80 #[v0] w fun v w'=>v = Bo r∧Star H w' []:=by
 unfold i_allValid at hF
 refine C_enter Tryz.func80 rfl Tryz.ntmps80 rfl (sq (aB rfl (nq ?_)))
 obtain ⟨x6,hx6,hF⟩:=bind_some hF
 refine W_region (mV v0 rfl ?_)
 obtain ⟨H8b,l9,s10,z11,k12⟩:=Z.borrow
 have hf13 : Fun1 Tryz.prog (rCon 122) true Value.bool i_allValid_1 (.func (.func 129) #[] #[]) H8b:=by
   refine ⟨_,_,rfl,Tryz.call129,fun H_ w_ hE_ hs_ cs_ x_ y_ args_ hr_ hy_ ha_=>?_⟩
   obtain ⟨p_0,rfl,hp_0⟩:=rCon_iff.1 hr_
   obtain rfl:=args_of (b:=#[.agg #[p_0,I x_.bound]]) ha_
   exact i_allValid_1_c (c:=x_) hs_ hp_0 hy_
 refine L_call rfl Tryz.call123 (ops2 rfl rfl) (slices_ContainsFunc_implConstraint_c (s:=list) (f_:=i_allValid_1) s10 (RP.mono _ h0 l9) hf13 hx6) ?_
 rintro _ w14 ⟨rfl,Z⟩
 have Z:=k12 Z c0
 refine L_not_ rfl rfl (aB rfl (nn (W_ret (retG1 (v1:=Bo (!x6)) Tryz.results80 rfl ?_))))
 obtain rfl:=so hF
 exact ⟨rfl,Z⟩
theorem i_ProblemValid_c {list : List Con} {v0 : Value} {H : FH} {w : World} (Z : Star H w []) (h0 : (rS 73 (rCon 122)).rel H [v0] list) {r : Bool} (hF : i_ProblemValid list = some r) :
 C Tryz.prog 37 #[v0] w fun v w'=>v = Bo r∧Star H w' []:=by
 unfold i_ProblemValid at hF
 refine C_enter Tryz.func37 rfl Tryz.ntmps37 rfl (sq (aB rfl (nq ?_)))
 obtain ⟨b8,hb8,hF⟩:=bind_some hF
 obtain ⟨R9,hR9⟩:=exR fun f w_=>f 2 = Bo b8∧Star H w_ ([])
 refine W_join R9 ?_ ?_
 refine W_region (mV v0 rfl (L_len rfl Tryz.underlying28 rfl (slice_len h0) (L_leq rfl rfl rfl (mB rfl (L_split (d:=6) (b:=decide ((list.length : Int)≤400)) rfl (fun hc10=>?_) (fun hc10=>?_))))))
 rw [ite_t hc10] at hb8
 obtain ⟨x6,hx6,hb8⟩:=bind_some hb8
 refine mV v0 rfl ?_
 obtain ⟨H11b,l12,s13,z14,k15⟩:=Z.borrow
 refine L_call rfl Tryz.call80 (ops1 rfl) (i_allValid_c (list:=list) s13 (RP.mono _ h0 l12) hx6) ?_
 rintro _ w16 ⟨rfl,Z⟩
 have Z:=k15 Z c0
 refine L_pick (v:=Bo b8) rfl rfl (congrArg Value.bool (so hb8)) (aB rfl (nn (rj hR9 ⟨rfl,Z⟩)))
 rw [ite_f hc10] at hb8
 refine ps rfl (ps rfl (L_pick (v:=Bo b8) rfl rfl (congrArg Value.bool (so hb8)) (aB rfl (nn (rj hR9 ⟨rfl,Z⟩)))))
 intro f w_ hR
 obtain ⟨sf2,Z⟩:=rk hR9 hR
 refine W_ret (retG1 (v1:=Bo b8) Tryz.results37 sf2 ?_)
 obtain rfl:=so hF
 exact ⟨rfl,Z⟩
theorem i_PartialValid_1_c {n_ : Int} {H : FH} {w : World} (Z : Star H w []) {r : Bool} (hF : i_PartialValid_1 n_ = some r) :
 C Tryz.prog 114 #[I n_] w fun v w'=>v = Bo r∧Star H w' []:=by
 unfold i_PartialValid_1 at hF
 refine C_enter Tryz.func114 rfl Tryz.ntmps114 rfl (sq (aB rfl (nq ?_)))
 obtain ⟨x6,hx6,hF⟩:=bind_some hF
 refine W_region (mI rfl ?_)
 obtain ⟨H8b,l9,s10,z11,k12⟩:=Z.borrow
 refine L_call rfl Tryz.call92 (ops3 rfl rfl rfl) (i_within_c (n_:=n_) (low:=(-1)) (high:=1) s10 hx6) ?_
 rintro _ w13 ⟨rfl,Z⟩
 have Z:=k12 Z c0
 refine L_not_ rfl rfl (aB rfl (nn (W_ret (retG1 (v1:=Bo (!x6)) Tryz.results114 rfl ?_))))
 obtain rfl:=so hF
 exact ⟨rfl,Z⟩
theorem i_PartialValid_c {p : List Int} {v0 : Value} {H : FH} {w : World} (Z : Star H w []) (h0 : (rS 3 RP.int).rel H [v0] p) {r : Bool} (hF : i_PartialValid p = some r) :
 C Tryz.prog 55 #[v0] w fun v w'=>v = Bo r∧Star H w' []:=by
 unfold i_PartialValid at hF
 refine C_enter Tryz.func55 rfl Tryz.ntmps55 rfl (sq (aB rfl (nq ?_)))
 obtain ⟨b8,hb8,hF⟩:=bind_some hF
 obtain ⟨R9,hR9⟩:=exR fun f w_=>f 2 = Bo b8∧Star H w_ ([])
 refine W_join R9 ?_ ?_
 refine W_region (mV v0 rfl (L_len rfl Tryz.underlying23 rfl (slice_len h0) (L_eql rfl rfl rfl (mB rfl (L_split (d:=6) (b:=((p.length : Int) == 12)) rfl (fun hc10=>?_) (fun hc10=>?_))))))
 rw [ite_t hc10] at hb8
 obtain ⟨x6,hx6,hb8⟩:=bind_some hb8
 refine mV v0 rfl ?_
 obtain ⟨H11b,l12,s13,z14,k15⟩:=Z.borrow
 have hf16 : Fun1 Tryz.prog RP.int false Value.bool i_PartialValid_1 (.func (.func 114) #[] #[]) H11b:=by
   refine ⟨_,_,rfl,Tryz.call114,fun H_ w_ hE_ hs_ cs_ x_ y_ args_ hr_ hy_ ha_=>?_⟩
   obtain rfl : cs_ = [_]:=hr_
   obtain rfl:=args_of (b:=#[I x_]) ha_
   exact i_PartialValid_1_c (n_:=x_) hs_  hy_
 refine L_call rfl Tryz.call113 (ops2 rfl rfl) (slices_ContainsFunc_int_c (s:=p) (f_:=i_PartialValid_1) s13 (RP.mono _ h0 l12) hf16 hx6) ?_
 rintro _ w17 ⟨rfl,Z⟩
 have Z:=k15 Z c0
 refine L_not_ rfl rfl (L_pick (v:=Bo b8) rfl rfl (congrArg Value.bool (so hb8)) (aB rfl (nn (rj hR9 ⟨rfl,Z⟩))))
 rw [ite_f hc10] at hb8
 refine ps rfl (ps rfl (ps rfl (L_pick (v:=Bo b8) rfl rfl (congrArg Value.bool (so hb8)) (aB rfl (nn (rj hR9 ⟨rfl,Z⟩))))))
 intro f w_ hR
 obtain ⟨sf2,Z⟩:=rk hR9 hR
 refine W_ret (retG1 (v1:=Bo b8) Tryz.results55 sf2 ?_)
 obtain rfl:=so hF
 exact ⟨rfl,Z⟩
theorem i_under_c {l : Int} {p : List Int} {v1 : Value} {H : FH} {w : World} (Z : Star H w []) (h1 : (rS 3 RP.int).rel H [v1] p) {r : Int} (hF : i_under l p = some r) :
 C Tryz.prog 158 #[I l,v1] w fun v w'=>v = I r∧Star H w' []:=by
 unfold i_under at hF
 refine C_enter Tryz.func158 rfl Tryz.ntmps158 rfl (sq (aI rfl (nq (sq (mI rfl (L_lss rfl rfl rfl (nn (W_cond (b:=decide (l < 0)) rfl (fun hc1=>?_) (fun hc1=>?_)))))))))
 have hF:=(ite_t hc1).symm.trans hF
 refine W_seq ?_
 obtain ⟨x2,hx2,hF⟩:=bind_some hF
 refine W_region (mV v1 rfl (mI rfl (L_neg rfl rfl (L_sub rfl rfl rfl (L_ix (r:=RP.int) rfl Tryz.underlying23 Tryz.sizeOf3 rfl h1 rfl hx2 (fun g7 o8 cs_g7 hrk_hat9 hat9=>?_))))))
 obtain rfl : _ = [_]:=hrk_hat9
 refine L_ld rfl Tryz.isAgg3 rfl (At.cell (AtH.at hat9 Z.sub) (j:=0) rfl) (L_neg rfl rfl (aI rfl (nn (W_ret (retG1 (v1:=I (i64 (-x2))) Tryz.results158 rfl ?_)))))
 obtain rfl:=so hF
 exact ⟨rfl,Z⟩
 have hF:=(ite_f hc1).symm.trans hF
 refine W_skip (W_seq ?_)
 obtain ⟨x11,hx11,hF⟩:=bind_some hF
 refine W_region (mV v1 rfl (mI rfl (L_sub rfl rfl rfl (L_ix (r:=RP.int) rfl Tryz.underlying23 Tryz.sizeOf3 rfl h1 rfl hx11 (fun g16 o17 cs_g16 hrk_hat18 hat18=>?_)))))
 obtain rfl : _ = [_]:=hrk_hat18
 refine L_ld rfl Tryz.isAgg3 rfl (At.cell (AtH.at hat18 Z.sub) (j:=0) rfl) (aI rfl (nn (W_ret (retG1 (v1:=I x11) Tryz.results158 rfl ?_))))
 obtain rfl:=so hF
 exact ⟨rfl,Z⟩
theorem i_Constraint_slack_c {c : Con} {p : List Int} {v0_0 : Value} {v1 : Value} {H : FH} {w : World} (Z : Star H w []) (h0_0 : (rS 122 rTerm).rel H [v0_0] c.terms) (h1 : (rS 3 RP.int).rel H [v1] p) {r : Int} (hF : i_Constraint_slack c p = some r) :
 C Tryz.prog 115 #[.agg #[v0_0,I c.bound],v1] w fun v w'=>v = I r∧Star H w' []:=by
 unfold i_Constraint_slack at hF
 refine C_enter Tryz.func115 rfl Tryz.ntmps115 rfl (sq (L_box (v:=.agg #[v0_0,I c.bound]) (cs:=#[v0_0,I c.bound]) rfl rfl rfl Z (fun g3 w4 Z=>aI rfl (ns (fA 1 fa_73_1 rfl rfl (ldB 0 Z Tryz.isAgg3 rfl rfl rfl (L_neg rfl rfl (aI rfl (nq (sq (fA 0 fa_73_0 rfl rfl (ldB 0 Z Tryz.isAgg71 rfl rfl rfl (L_len rfl Tryz.underlying71 rfl (slice_len h0_0) (mI rfl (nn ?_)))))))))))))))
 have hlen7 : List.length c.terms≤9223372036854775807:=len_le (slice_len h0_0)
 obtain ⟨j7,hL7,hF⟩:=bind_some hF
 obtain ⟨R7,hR7⟩:=exR fun f w_=>∃ out_6 : Int,j7 = .nx out_6∧f 5 = I out_6∧Star H w_ ([])
 refine W_join R7 ?_ ?_
 refine W_block ?_
 obtain ⟨I7,hI7⟩:=exI fun n f w_=>∃ i_5 : Nat,∃ suf7 : List Term,∃ out_6 : Int,n = suf7.length∧List.drop i_5 c.terms = suf7∧i_5 + suf7.length = c.terms.length∧rangeL (i_Constraint_slack_b1 p) suf7 i_5 out_6 = some j7∧f 1 = v1∧f 5 = I out_6∧f 12 = v0_0∧f 13 = I (c.terms.length : Int)∧f 14 = I i_5∧Star H w_ ([])
 refine W_loop I7 (n:=c.terms.length) ?_ ?_
 exact ij hI7 ⟨0,c.terms,i64 (-c.bound),rfl,rfl,Nat.zero_add _,hL7,rfl,rfl,rfl,rfl,rfl,(Star.keepN 0 Z)⟩
 intro n7 f w_ hI
 obtain ⟨i_5,suf7,out_6,rfl,hd7,hl7,hL7,sf1,sf5,sf12,sf13,sf14,Z⟩:=ik hI7 hI
 refine sq (L_lss rfl sf14 sf13 (nq (W_cond (b:=decide ((i_5 : Int) < (c.terms.length : Int))) rfl (fun hc8=>?_) (fun hc8=>?_))))
 have hlt7:=of_decide_eq_true hc8
 rcases suf7 with _ | ⟨x_7,rest7⟩
 exact absurd hlt7 (by simp at hl7; omega)
 obtain ⟨o7,hB7,hL7⟩:=range_cons hL7
 rw [i_Constraint_slack_b1] at hB7
 have hix7:=drop_idx hd7
 refine W_skip (W_seq (W_block (sq (L_ix (r:=rTerm) rfl Tryz.underlying71 Tryz.sizeOf122 sf12 h0_0 sf14 hix7 (fun g16 o17 cs_g16 hrk_hat18 hat18=>?_)))))
 obtain rfl:=rTerm_iff.1 hrk_hat18
 refine L_lda (cs:=[I x_7.coef,I x_7.lit]) rfl Tryz.isAgg122 Tryz.sizeOf122 rfl (At.sub (AtH.at hat18 Z.sub) 0 2) rfl (L_al (cs:=#[I 0,I 0]) rfl Tryz.zeroValue122 rfl Z (fun g20 w21 Z=>L_staB (vs:=#[I x_7.coef,I x_7.lit]) (cs2:=#[I x_7.coef,I x_7.lit]) 0 rfl Tryz.sizeOf122 rfl rfl rfl (ones_cons rfl (ones_cons rfl ones_nil)) Z rfl (by show 0 + 2≤2; decide) rfl (fun w22 Z=>nq ?_)))
 obtain ⟨x28,hx28,hB7⟩:=bind_some hB7
 refine W_region (fA 1 fa_122_1 rfl rfl (ldB 0 Z Tryz.isAgg3 rfl rfl rfl (mF sf1 rfl ?_)))
 obtain ⟨H30b,l31,s32,z33,k34⟩:=Z.borrow
 refine L_call rfl Tryz.call158 (ops2 rfl rfl) (i_under_c (l:=x_7.lit) (p:=p) s32 (RP.mono _ h1 l31) hx28) ?_
 rintro _ w35 ⟨rfl,Z⟩
 have Z:=k34 Z c0
 refine L_geq rfl rfl rfl (nn ?_)
 obtain ⟨out_36,hA37,hB7⟩:=bind_some hB7
 obtain ⟨R37,hR37⟩:=exR fun f w_=>f 1 = v1∧f 5 = I out_36∧f 12 = v0_0∧f 13 = I (c.terms.length : Int)∧f 14 = I i_5∧Star H w_ ([])
 refine W_join R37 ?_ ?_
 refine W_cond (b:=decide (x28 ≥ 0)) rfl (fun hc38=>?_) (fun hc38=>?_)
 have hA37:=(ite_t hc38).symm.trans hA37
 refine W_region (mF sf5 rfl (fA 0 fa_122_0 rfl rfl (ldB 0 Z Tryz.isAgg3 rfl rfl rfl (L_add rfl rfl rfl (aI rfl (nn ?_))))))
 obtain rfl:=so hA37
 exact rj hR37 ⟨sf1,rfl,sf12,sf13,sf14,(Star.keepN 0 Z)⟩
 have hA37:=(ite_f hc38).symm.trans hA37
 refine W_skip ?_
 obtain rfl:=so hA37
 exact rj hR37 ⟨sf1,sf5,sf12,sf13,sf14,(Star.keepN 0 Z)⟩
 intro f w_ hR
 obtain ⟨sf1,sf5,sf12,sf13,sf14,Z⟩:=rk hR37 hR
 refine W_region (L_add rfl sf14 rfl (mI rfl (nn ?_)))
 obtain rfl:=so hB7
 show ∃ m,m < _∧I7 m _ _
 refine ⟨rest7.length,by simp,?_⟩
 exact ij hI7 ⟨i_5 + 1,rest7,out_36,rfl,drop_next hd7,by simp at hl7; omega,hL7,sf1,sf5,sf12,sf13,(Eq.trans rfl (congrArg (Value.int .i64) (i64_succ (n:=c.terms.length) (by simp at hl7; omega) hlen7))),Z⟩
 rcases suf7 with _ | ⟨_,_⟩
 obtain rfl:=range_nil hL7
 refine W_exit (rj hR7 ⟨out_6,rfl,sf5,Z⟩)
 exact absurd (of_decide_eq_false hc8) (by simp at hl7; omega)
 intro f w_ hR
 obtain ⟨out_6,rfl,sf5,Z⟩:=rk hR7 hR
 refine sq (mF sf5 rfl (aI rfl (nn (W_ret (retG1 (v1:=I out_6) Tryz.results115 rfl ?_)))))
 obtain rfl:=so hF
 exact ⟨rfl,Z⟩
theorem i_Constraint_implied_c {c : Con} {p : List Int} {v0_0 : Value} {v1 : Value} {H : FH} {w : World} (Z : Star H w []) (h0_0 : (rS 122 rTerm).rel H [v0_0] c.terms) (h1 : (rS 3 RP.int).rel H [v1] p) {r : List Int} (hF : i_Constraint_implied c p = some r) :
 C Tryz.prog 116 #[.agg #[v0_0,I c.bound],v1] w fun v w'=>∃ (u1 : Value),v = u1∧Star H w' [oF 3 RP.int u1 r]:=by
 unfold i_Constraint_implied at hF
 refine C_enter Tryz.func116 rfl Tryz.ntmps116 rfl (sq (L_box (v:=.agg #[v0_0,I c.bound]) (cs:=#[v0_0,I c.bound]) rfl rfl rfl Z (fun g3 w4 Z=>aV S0 rfl (nq ?_))))
 obtain ⟨x10,hx10,hF⟩:=bind_some hF
 refine W_region (L_lda (cs:=[v0_0,I c.bound]) rfl Tryz.isAgg73 Tryz.sizeOf73 rfl (At.sub0 (Blk.at (Star.blkAt 0 Z rfl)) 0 2) rfl (mV v1 rfl ?_))
 obtain ⟨H12b,l13,s14,z15,k16⟩:=Z.borrow
 refine L_call rfl Tryz.call115 (ops2 rfl rfl) (i_Constraint_slack_c (c:=c) (p:=p) s14 (RP.mono _ h0_0 l13) (RP.mono _ h1 l13) hx10) ?_
 rintro _ w17 ⟨rfl,Z⟩
 have Z:=k16 Z c0
 refine aI rfl (ns (aV S0 rfl (nq (sq (fA 0 fa_73_0 rfl rfl (ldB 0 Z Tryz.isAgg71 rfl rfl rfl (L_len rfl Tryz.underlying71 rfl (slice_len h0_0) (mI rfl (nn ?_)))))))))
 have hlen21 : List.length c.terms≤9223372036854775807:=len_le (slice_len h0_0)
 obtain ⟨j21,hL21,hF⟩:=bind_some hF
 obtain ⟨R21,hR21⟩:=exR fun f w_=>∃ out_19 : List Int,∃ v19_out : Value,j21 = .nx out_19∧f 6 = v19_out∧Star H w_ ([oF 3 RP.int v19_out out_19])
 refine W_join R21 ?_ ?_
 refine W_block ?_
 obtain ⟨I21,hI21⟩:=exI fun n f w_=>∃ i_18 : Nat,∃ suf21 : List Term,∃ out_19 : List Int,∃ v19_out : Value,n = suf21.length∧List.drop i_18 c.terms = suf21∧i_18 + suf21.length = c.terms.length∧rangeL (i_Constraint_implied_b1 p x10) suf21 i_18 out_19 = some j21∧f 1 = v1∧f 5 = I x10∧f 6 = v19_out∧f 13 = v0_0∧f 14 = I (c.terms.length : Int)∧f 15 = I i_18∧Star H w_ ([oF 3 RP.int v19_out out_19])
 have Z:=Star.addNil (R:=(OR.frz RP.int)) (e:=3) Z
 refine W_loop I21 (n:=c.terms.length) ?_ ?_
 exact ij hI21 ⟨0,c.terms,[],S0,rfl,rfl,Nat.zero_add _,hL21,rfl,rfl,rfl,rfl,rfl,rfl,(Star.keepN 1 Z)⟩
 intro n21 f w_ hI
 obtain ⟨i_18,suf21,out_19,v19_out,rfl,hd21,hl21,hL21,sf1,sf5,sf6,sf13,sf14,sf15,Z⟩:=ik hI21 hI
 refine sq (L_lss rfl sf15 sf14 (nq (W_cond (b:=decide ((i_18 : Int) < (c.terms.length : Int))) rfl (fun hc23=>?_) (fun hc23=>?_))))
 have hlt21:=of_decide_eq_true hc23
 rcases suf21 with _ | ⟨x_21,rest21⟩
 exact absurd hlt21 (by simp at hl21; omega)
 obtain ⟨o21,hB21,hL21⟩:=range_cons hL21
 rw [i_Constraint_implied_b1] at hB21
 have hix21:=drop_idx hd21
 refine W_skip (W_seq (W_block (sq (L_ix (r:=rTerm) rfl Tryz.underlying71 Tryz.sizeOf122 sf13 h0_0 sf15 hix21 (fun g31 o32 cs_g31 hrk_hat33 hat33=>?_)))))
 obtain rfl:=rTerm_iff.1 hrk_hat33
 refine L_lda (cs:=[I x_21.coef,I x_21.lit]) rfl Tryz.isAgg122 Tryz.sizeOf122 rfl (At.sub (AtH.at hat33 Z.sub) 0 2) rfl (L_al (cs:=#[I 0,I 0]) rfl Tryz.zeroValue122 rfl Z (fun g35 w36 Z=>L_staB (vs:=#[I x_21.coef,I x_21.lit]) (cs2:=#[I x_21.coef,I x_21.lit]) 0 rfl Tryz.sizeOf122 rfl rfl rfl (ones_cons rfl (ones_cons rfl ones_nil)) Z rfl (by show 0 + 2≤2; decide) rfl (fun w37 Z=>nq ?_)))
 obtain ⟨x43,hx43,hB21⟩:=bind_some hB21
 obtain ⟨R45,hR45⟩:=exR fun f w_=>f 1 = v1∧f 5 = I x10∧f 6 = v19_out∧f 8 = Pt g35∧f 13 = v0_0∧f 14 = I (c.terms.length : Int)∧f 15 = I i_18∧f 29 = Bo ((x43 == 0) && (decide (x_21.coef > x10)))∧Star H w_ ([oF 3 RP.int v19_out out_19,box g35 122 #[I x_21.coef,I x_21.lit]])
 refine W_join R45 ?_ ?_
 refine W_region (fA 1 fa_122_1 rfl rfl (ldB 0 Z Tryz.isAgg3 rfl rfl rfl (mF sf1 rfl ?_)))
 obtain ⟨H46b,l47,s48,z49,k50⟩:=Z.borrow
 refine L_call rfl Tryz.call158 (ops2 rfl rfl) (i_under_c (l:=x_21.lit) (p:=p) s48 (RP.mono _ h1 l47) hx43) ?_
 rintro _ w51 ⟨rfl,Z⟩
 have Z:=k50 Z c0
 refine L_eql rfl rfl rfl (mB rfl (L_split (d:=24) (b:=(x43 == 0)) rfl (fun hc52=>?_) (fun hc52=>?_)))
 refine fA 0 fa_122_0 rfl rfl (ldB 0 Z Tryz.isAgg3 rfl rfl rfl (mF sf5 rfl (L_gtr rfl rfl rfl (L_pick (v:=Bo ((x43 == 0) && (decide (x_21.coef > x10)))) rfl rfl (and_t hc52 rfl) (nn ?_)))))
 have Z:=Z.get 1 rfl
 exact rj hR45 ⟨sf1,sf5,sf6,rfl,sf13,sf14,sf15,rfl,Z⟩
 refine ps rfl (ps rfl (ps rfl (ps rfl (L_pick (v:=Bo ((x43 == 0) && (decide (x_21.coef > x10)))) rfl rfl (and_f hc52) (nn ?_)))))
 have Z:=Z.get 1 rfl
 exact rj hR45 ⟨sf1,sf5,sf6,rfl,sf13,sf14,sf15,rfl,Z⟩
 intro f w_ hR
 obtain ⟨sf1,sf5,sf6,sf8,sf13,sf14,sf15,sf29,Z⟩:=rk hR45 hR
 obtain ⟨out_53,hA55,hB21⟩:=bind_some hB21
 obtain ⟨R55,hR55⟩:=exR fun f w_=>∃ v53_out : Value,f 1 = v1∧f 5 = I x10∧f 6 = v53_out∧f 13 = v0_0∧f 14 = I (c.terms.length : Int)∧f 15 = I i_18∧Star H w_ ([oF 3 RP.int v53_out out_53])
 refine W_join R55 ?_ ?_
 refine W_cond (b:=((x43 == 0) && (decide (x_21.coef > x10)))) sf29 (fun hc56=>?_) (fun hc56=>?_)
 have hA55:=(ite_t hc56).symm.trans hA55
 obtain ⟨x60,hx60,hA55⟩:=bind_some hA55
 refine W_region (mF sf6 rfl (fA 1 fa_122_1 sf8 rfl (ldB 1 Z Tryz.isAgg3 rfl rfl rfl (L_bs rfl (parts1 rfl) (bs_23_1_0 (I x_21.lit) rfl) Z (fun g64 w65 Z=>?_)))))
 have Z:=Star.addF (r:=RP.int) (cs:=[I x_21.lit]) (x:=x_21.lit) Z rfl
 have Z:=Star.mkRow (R:=(OR.frz RP.int)) [([I x_21.lit],x_21.lit)] [x_21.lit] 1 Z rfl rfl rfl (by decide)
 have Z:=Z.get 1 rfl
 refine L_appM (v:=v19_out) (u:=(Sl g64 1 1)) rfl et_23 rfl rfl Z hx60 (fun v67 w68 Z=>aV v67 rfl (nn ?_))
 obtain rfl:=so hA55
 exact rj hR55 ⟨v67,sf1,sf5,rfl,sf13,sf14,sf15,(Star.keepN 1 Z)⟩
 have hA55:=(ite_f hc56).symm.trans hA55
 refine W_skip ?_
 obtain rfl:=so hA55
 exact rj hR55 ⟨v19_out,sf1,sf5,sf6,sf13,sf14,sf15,(Star.keepN 1 Z)⟩
 intro f w_ hR
 obtain ⟨v53_out,sf1,sf5,sf6,sf13,sf14,sf15,Z⟩:=rk hR55 hR
 refine W_region (L_add rfl sf15 rfl (mI rfl (nn ?_)))
 obtain rfl:=so hB21
 show ∃ m,m < _∧I21 m _ _
 refine ⟨rest21.length,by simp,?_⟩
 exact ij hI21 ⟨i_18 + 1,rest21,out_53,v53_out,rfl,drop_next hd21,by simp at hl21; omega,hL21,sf1,sf5,sf6,sf13,sf14,(Eq.trans rfl (congrArg (Value.int .i64) (i64_succ (n:=c.terms.length) (by simp at hl21; omega) hlen21))),Z⟩
 rcases suf21 with _ | ⟨_,_⟩
 obtain rfl:=range_nil hL21
 refine W_exit (rj hR21 ⟨out_19,v19_out,rfl,sf6,Z⟩)
 exact absurd (of_decide_eq_false hc23) (by simp at hl21; omega)
 intro f w_ hR
 obtain ⟨out_19,v19_out,rfl,sf6,Z⟩:=rk hR21 hR
 refine sq (mF sf6 rfl (aV v19_out rfl (nn (W_ret (retG1 (v1:=v19_out) Tryz.results116 rfl ?_)))))
 obtain rfl:=so hF
 exact ⟨v19_out,rfl,Z⟩
theorem i_propagate_c {fu : Nat} {list : List Con} {p : List Int} {v0 : Value} {v1 : Value} {H : FH} {w : World} (Z : Star H w []) (h0 : (rS 73 (rCon 122)).rel H [v0] list) (h1 : (rS 3 RP.int).rel H [v1] p) {r : (List Int) × Int} (hF : i_propagate fu list p = some r) :
 C Tryz.prog 56 #[v0,v1] w fun v w'=>∃ (u1 : Value),v = .tuple #[u1,I r.2]∧Star H w' [oF 3 RP.int u1 r.1]:=by
 unfold i_propagate at hF
 refine C_enter Tryz.func56 rfl Tryz.ntmps56 rfl (sq (aV S0 rfl (aI rfl (nq ?_))))
 obtain ⟨x6,hx6,hF⟩:=bind_some hF
 refine W_region (mV v1 rfl ?_)
 obtain ⟨H9b,l10,s11,z12,k13⟩:=Z.borrow
 refine L_call rfl Tryz.call62 (ops1 rfl) (slices_Clone_int_c (s:=p) s11 (RP.mono _ h1 l10) hx6) ?_
 rintro r14_0 w14 ⟨_,rfl,Z⟩
 have Z:=k13 Z (co closed_int c0)
 refine aV r14_0 rfl (nq (sq (aB rfl (nn ?_))))
 obtain ⟨j19,hL19,hF⟩:=bind_some hF
 obtain ⟨R19,hR19⟩:=exR fun f w_=>∃ out_17 : List Int,∃ made_18 : Bool,j19 = .nx (out_17,made_18)∧f 6 = r14_0∧Star H w_ ([oF 3 RP.int r14_0 out_17])
 refine W_join R19 ?_ ?_
 refine W_block ?_
 obtain ⟨I19,hI19⟩:=exI fun n f w_=>∃ out_17 : List Int,∃ made_18 : Bool,whileL (i_propagate_b1 list) n (out_17,made_18) = some j19∧f 0 = v0∧f 6 = r14_0∧f 7 = Bo made_18∧Star H w_ ([oF 3 RP.int r14_0 out_17])
 refine W_loop I19 (n:=fu) ?_ ?_
 exact ij hI19 ⟨x6,true,hL19,rfl,rfl,rfl,Z⟩
 intro n19 f w_ hI
 obtain ⟨out_17,made_18,hL19,sf0,sf6,sf7,Z⟩:=ik hI19 hI
 rcases n19 with _ | n19
 exact (while_zero hL19).elim
 obtain ⟨o19,hB19,hL19⟩:=while_succ hL19
 rw [i_propagate_b1] at hB19
 refine W_seq (sq (mF sf7 rfl (nn (W_cond (b:=made_18) rfl (fun hc20=>?_) (fun hc20=>?_)))))
 have hB19:=(ite_t hc20).symm.trans hB19
 refine W_skip (W_block (sq (aB rfl (ns (mF sf0 rfl (L_len rfl Tryz.underlying28 rfl (slice_len h0) (mI rfl (nn ?_))))))))
 have hlen24 : List.length list≤9223372036854775807:=len_le (slice_len h0)
 obtain ⟨j24,hL24,hB19⟩:=bind_some hB19
 obtain ⟨R24,hR24⟩:=exR fun f w_=>∃ out_22 : List Int,∃ made_23 : Bool,j24 = .nx (out_22,made_23)∧f 0 = v0∧f 6 = r14_0∧f 7 = Bo made_23∧Star H w_ ([oF 3 RP.int r14_0 out_22])
 refine W_join R24 ?_ ?_
 refine W_block ?_
 obtain ⟨I24,hI24⟩:=exI fun n f w_=>∃ i_21 : Nat,∃ suf24 : List Con,∃ out_22 : List Int,∃ made_23 : Bool,n = suf24.length∧List.drop i_21 list = suf24∧i_21 + suf24.length = list.length∧rangeL i_propagate_b2 suf24 i_21 (out_22,made_23) = some j24∧f 0 = v0∧f 6 = r14_0∧f 7 = Bo made_23∧f 15 = v0∧f 16 = I (list.length : Int)∧f 17 = I i_21∧Star H w_ ([oF 3 RP.int r14_0 out_22])
 refine W_loop I24 (n:=list.length) ?_ ?_
 exact ij hI24 ⟨0,list,out_17,false,rfl,rfl,Nat.zero_add _,hL24,sf0,sf6,rfl,rfl,rfl,rfl,Z⟩
 intro n24 f w_ hI
 obtain ⟨i_21,suf24,out_22,made_23,rfl,hd24,hl24,hL24,sf0,sf6,sf7,sf15,sf16,sf17,Z⟩:=ik hI24 hI
 refine sq (L_lss rfl sf17 sf16 (nq (W_cond (b:=decide ((i_21 : Int) < (list.length : Int))) rfl (fun hc25=>?_) (fun hc25=>?_))))
 have hlt24:=of_decide_eq_true hc25
 rcases suf24 with _ | ⟨x_24,rest24⟩
 exact absurd hlt24 (by simp at hl24; omega)
 obtain ⟨o24,hB24,hL24⟩:=range_cons hL24
 rw [i_propagate_b2] at hB24
 have hix24:=drop_idx hd24
 refine W_skip (W_seq (W_block (sq (mF sf17 rfl (L_ix (r:=(rCon 122)) rfl Tryz.underlying28 Tryz.sizeOf73 sf15 h0 sf17 hix24 (fun g33 o34 cs_g33 hrk_hat35 hat35=>?_))))))
 obtain ⟨u36_0,rfl,hu36_0⟩:=rCon_iff.1 hrk_hat35
 refine L_lda (cs:=[u36_0,I x_24.bound]) rfl Tryz.isAgg73 Tryz.sizeOf73 rfl (At.sub (AtH.at hat35 Z.sub) 0 2) rfl (L_al (cs:=#[S0,I 0]) rfl Tryz.zeroValue73 rfl Z (fun g37 w38 Z=>aI rfl (L_staB (vs:=#[u36_0,I x_24.bound]) (cs2:=#[u36_0,I x_24.bound]) 0 rfl Tryz.sizeOf73 rfl rfl rfl (ones_cons (one_len (slice_len hu36_0)) (ones_cons rfl ones_nil)) Z rfl (by show 0 + 2≤2; decide) rfl (fun w39 Z=>nq (W_seq ?_)))))
 obtain ⟨x46,hx46,hB24⟩:=bind_some hB24
 refine W_region (L_lda (cs:=[u36_0,I x_24.bound]) rfl Tryz.isAgg73 Tryz.sizeOf73 rfl (At.sub0 (Blk.at (Star.blkAt 0 Z rfl)) 0 2) rfl (mF sf6 rfl ?_))
 obtain ⟨H48b,l49,s50,z51,k52⟩:=Z.borrow
 have hb53 : (rS 3 RP.int).rel H48b [r14_0] out_22:=fz_own 1 z51 rfl
 refine L_call rfl Tryz.call115 (ops2 rfl rfl) (i_Constraint_slack_c (c:=x_24) (p:=out_22) s50 (RP.mono _ hu36_0 l49) hb53 hx46) ?_
 rintro _ w54 ⟨rfl,Z⟩
 have Z:=k52 Z c0
 refine L_lss rfl rfl rfl (nn (W_cond (b:=decide (x46 < 0)) rfl (fun hc55=>?_) (fun hc55=>?_)))
 have hB24:=(ite_t hc55).symm.trans hB24
 refine sq (mF sf6 rfl (mI rfl (aV r14_0 rfl (aI rfl (nn (W_ret (retG2 (v1:=r14_0) (v2:=I i_21) Tryz.results56 rfl rfl ?_)))))))
 obtain rfl:=so hB24
 obtain rfl:=so hL24
 obtain rfl:=so hB19
 obtain rfl:=so hL19
 obtain rfl:=so hF
 have Z:=Z.get 1 rfl
 exact ⟨r14_0,rfl,(Star.keepN 1 Z)⟩
 have hB24:=(ite_f hc55).symm.trans hB24
 refine W_skip (W_seq ?_)
 obtain ⟨x62,hx62,hB24⟩:=bind_some hB24
 refine W_region (L_lda (cs:=[u36_0,I x_24.bound]) rfl Tryz.isAgg73 Tryz.sizeOf73 rfl (At.sub0 (Blk.at (Star.blkAt 0 Z rfl)) 0 2) rfl (mF sf6 rfl ?_))
 obtain ⟨H65b,l66,s67,z68,k69⟩:=Z.borrow
 have hb70 : (rS 3 RP.int).rel H65b [r14_0] out_22:=fz_own 1 z68 rfl
 refine L_call rfl Tryz.call116 (ops2 rfl rfl) (i_Constraint_implied_c (c:=x_24) (p:=out_22) s67 (RP.mono _ hu36_0 l66) hb70 hx62) ?_
 rintro r71_0 w71 ⟨_,rfl,Z⟩
 have Z:=k69 Z (co closed_int c0)
 refine L_len rfl Tryz.underlying23 rfl (Star.len 0 Z rfl) (mI rfl (nn ?_))
 have hlen76 : List.length x62≤9223372036854775807:=len_le (Star.len 0 Z rfl)
 obtain ⟨j76,hL76,hB24⟩:=bind_some hB24
 obtain ⟨R76,hR76⟩:=exR fun f w_=>∃ out_74 : List Int,∃ made_75 : Bool,j76 = .nx (out_74,made_75)∧f 0 = v0∧f 6 = r14_0∧f 7 = Bo made_75∧f 15 = v0∧f 16 = I (list.length : Int)∧f 17 = I i_21∧Star H w_ ([oF 3 RP.int r14_0 out_74])
 refine W_join R76 ?_ ?_
 refine W_block ?_
 obtain ⟨I76,hI76⟩:=exI fun n f w_=>∃ i_73 : Nat,∃ suf76 : List Int,∃ out_74 : List Int,∃ made_75 : Bool,n = suf76.length∧List.drop i_73 x62 = suf76∧i_73 + suf76.length = x62.length∧rangeL i_propagate_b3 suf76 i_73 (out_74,made_75) = some j76∧f 0 = v0∧f 6 = r14_0∧f 7 = Bo made_75∧f 15 = v0∧f 16 = I (list.length : Int)∧f 17 = I i_21∧f 30 = r71_0∧f 31 = I (x62.length : Int)∧f 32 = I i_73∧Star H w_ ([oF 3 RP.int r14_0 out_74,oF 3 RP.int r71_0 x62])
 have Z:=Z.get 2 rfl
 refine W_loop I76 (n:=x62.length) ?_ ?_
 exact ij hI76 ⟨0,x62,out_22,made_23,rfl,rfl,Nat.zero_add _,hL76,sf0,sf6,sf7,sf15,sf16,sf17,rfl,rfl,rfl,(Star.keepN 2 Z)⟩
 intro n76 f w_ hI
 obtain ⟨i_73,suf76,out_74,made_75,rfl,hd76,hl76,hL76,sf0,sf6,sf7,sf15,sf16,sf17,sf30,sf31,sf32,Z⟩:=ik hI76 hI
 refine sq (L_lss rfl sf32 sf31 (nq (W_cond (b:=decide ((i_73 : Int) < (x62.length : Int))) rfl (fun hc77=>?_) (fun hc77=>?_))))
 have hlt76:=of_decide_eq_true hc77
 rcases suf76 with _ | ⟨x_76,rest76⟩
 exact absurd hlt76 (by simp at hl76; omega)
 obtain ⟨o76,hB76,hL76⟩:=range_cons hL76
 rw [i_propagate_b3] at hB76
 have hix76:=drop_idx hd76
 refine W_skip (W_seq (W_block (sq ?_)))
 obtain ⟨g82,cap_g82,hv83,_,_⟩:=Star.row 1 Z rfl hix76
 refine L_ixO (R:=(OR.frz RP.int)) (tb:=0) 0 rfl Tryz.underlying23 Tryz.sizeOf3 sf30 hv83 (by first | rfl | simp) sf32 hix76 ?_
 obtain ⟨cs84,hr84,hat84⟩:=Star.eltF 1 Z rfl hv83 hix76
 obtain rfl : _ = [_]:=hr84
 refine L_ld rfl Tryz.isAgg3 rfl (At.cell hat84 (j:=0) rfl) (aI rfl (ns (aB rfl (ns (mI rfl (L_gtr rfl rfl rfl (nn ?_)))))))
 obtain ⟨out_86,hA87,hB76⟩:=bind_some hB76
 obtain ⟨R87,hR87⟩:=exR fun f w_=>f 0 = v0∧f 6 = r14_0∧f 7 = Bo true∧f 15 = v0∧f 16 = I (list.length : Int)∧f 17 = I i_21∧f 30 = r71_0∧f 31 = I (x62.length : Int)∧f 32 = I i_73∧Star H w_ ([oF 3 RP.int r14_0 out_86,oF 3 RP.int r71_0 x62])
 refine W_join R87 ?_ ?_
 refine W_cond (b:=decide (x_76 > 0)) rfl (fun hc88=>?_) (fun hc88=>?_)
 have hA87:=(ite_t hc88).symm.trans hA87
 obtain ⟨x89,hx89,hA87⟩:=bind_some hA87
 refine W_region (mF sf6 rfl (mI rfl (L_sub rfl rfl rfl ?_)))
 obtain ⟨g93,cap_g93,hv94,_,_⟩:=Star.row 0 Z rfl hx89
 refine L_ixO (R:=(OR.frz RP.int)) (tb:=0) 0 rfl Tryz.underlying23 Tryz.sizeOf3 rfl hv94 (by first | rfl | simp) rfl hx89 ?_
 have Z:=Star.addF (r:=RP.int) (cs:=[I 1]) (x:=1) Z rfl
 refine L_stE1 (u:=I 1) rfl Tryz.sizeOf3 rfl rfl rfl hv94 Z hx89 (fun w95 Z=>?_)
 refine nn ?_
 obtain rfl:=so hA87
 exact rj hR87 ⟨sf0,sf6,rfl,sf15,sf16,sf17,sf30,sf31,sf32,Z⟩
 have hA87:=(ite_f hc88).symm.trans hA87
 obtain ⟨x96,hx96,hA87⟩:=bind_some hA87
 refine W_region (mF sf6 rfl (mI rfl (L_neg rfl rfl (L_sub rfl rfl rfl ?_))))
 obtain ⟨g100,cap_g100,hv101,_,_⟩:=Star.row 0 Z rfl hx96
 refine L_ixO (R:=(OR.frz RP.int)) (tb:=0) 0 rfl Tryz.underlying23 Tryz.sizeOf3 rfl hv101 (by first | rfl | simp) rfl hx96 ?_
 have Z:=Star.addF (r:=RP.int) (cs:=[I (-1)]) (x:=(-1)) Z rfl
 refine L_stE1 (u:=I (-1)) rfl Tryz.sizeOf3 rfl rfl rfl hv101 Z hx96 (fun w102 Z=>?_)
 refine nn ?_
 obtain rfl:=so hA87
 exact rj hR87 ⟨sf0,sf6,rfl,sf15,sf16,sf17,sf30,sf31,sf32,Z⟩
 intro f w_ hR
 obtain ⟨sf0,sf6,sf7,sf15,sf16,sf17,sf30,sf31,sf32,Z⟩:=rk hR87 hR
 refine W_region (L_add rfl sf32 rfl (mI rfl (nn ?_)))
 obtain rfl:=so hB76
 show ∃ m,m < _∧I76 m _ _
 refine ⟨rest76.length,by simp,?_⟩
 exact ij hI76 ⟨i_73 + 1,rest76,out_86,true,rfl,drop_next hd76,by simp at hl76; omega,hL76,sf0,sf6,sf7,sf15,sf16,sf17,sf30,sf31,(Eq.trans rfl (congrArg (Value.int .i64) (i64_succ (n:=x62.length) (by simp at hl76; omega) hlen76))),Z⟩
 rcases suf76 with _ | ⟨_,_⟩
 obtain rfl:=range_nil hL76
 refine W_exit (rj hR76 ⟨out_74,made_75,rfl,sf0,sf6,sf7,sf15,sf16,sf17,(Star.keepN 1 Z)⟩)
 exact absurd (of_decide_eq_false hc77) (by simp at hl76; omega)
 intro f w_ hR
 obtain ⟨out_74,made_75,rfl,sf0,sf6,sf7,sf15,sf16,sf17,Z⟩:=rk hR76 hR
 refine W_region (L_add rfl sf17 rfl (mI rfl (nn ?_)))
 obtain rfl:=so hB24
 show ∃ m,m < _∧I24 m _ _
 refine ⟨rest24.length,by simp,?_⟩
 exact ij hI24 ⟨i_21 + 1,rest24,out_74,made_75,rfl,drop_next hd24,by simp at hl24; omega,hL24,sf0,sf6,sf7,sf15,sf16,(Eq.trans rfl (congrArg (Value.int .i64) (i64_succ (n:=list.length) (by simp at hl24; omega) hlen24))),Z⟩
 rcases suf24 with _ | ⟨_,_⟩
 obtain rfl:=range_nil hL24
 refine W_exit (rj hR24 ⟨out_22,made_23,rfl,sf0,sf6,sf7,Z⟩)
 exact absurd (of_decide_eq_false hc25) (by simp at hl24; omega)
 intro f w_ hR
 obtain ⟨out_22,made_23,rfl,sf0,sf6,sf7,Z⟩:=rk hR24 hR
 obtain rfl:=so hB19
 show ∃ m,m < _∧I19 m _ _
 refine ⟨n19,Nat.lt_succ_self _,?_⟩
 exact ij hI19 ⟨out_22,made_23,hL19,sf0,sf6,sf7,Z⟩
 have hB19:=(ite_f hc20).symm.trans hB19
 refine W_exit ?_
 obtain rfl:=so hB19
 obtain rfl:=so hL19
 exact rj hR19 ⟨out_17,made_18,rfl,sf6,Z⟩
 intro f w_ hR
 obtain ⟨out_17,made_18,rfl,sf6,Z⟩:=rk hR19 hR
 refine sq (mF sf6 rfl (aV r14_0 rfl (aI rfl (nn (W_ret (retG2 (v1:=r14_0) (v2:=I (-1)) Tryz.results56 rfl rfl ?_))))))
 obtain rfl:=so hF
 exact ⟨r14_0,rfl,Z⟩
theorem i_Propagate_c {fu : Nat} {list : List Con} {p : List Int} {v0 : Value} {v1 : Value} {H : FH} {w : World} (Z : Star H w []) (h0 : (rS 73 (rCon 122)).rel H [v0] list) (h1 : (rS 3 RP.int).rel H [v1] p) {r : (List Int) × Int × Bool} (hF : i_Propagate fu list p = some r) :
 C Tryz.prog 16 #[v0,v1] w fun v w'=>∃ (u1 : Value),v = .tuple #[u1,I r.2.1,Bo r.2.2]∧Star H w' [oF 3 RP.int u1 r.1]:=by
 unfold i_Propagate at hF
 refine C_enter Tryz.func16 rfl Tryz.ntmps16 rfl (sq (aV S0 rfl (aI rfl (aB rfl (nq (W_seq ?_))))))
 obtain ⟨x6,hx6,hF⟩:=bind_some hF
 obtain ⟨b15,hb15,hF⟩:=bind_some hF
 obtain ⟨R16,hR16⟩:=exR fun f w_=>f 0 = v0∧f 1 = v1∧f 16 = Bo b15∧Star H w_ ([])
 refine W_join R16 ?_ ?_
 refine W_region (mV v0 rfl ?_)
 obtain ⟨H17b,l18,s19,z20,k21⟩:=Z.borrow
 refine L_call rfl Tryz.call37 (ops1 rfl) (i_ProblemValid_c (list:=list) s19 (RP.mono _ h0 l18) hx6) ?_
 rintro _ w22 ⟨rfl,Z⟩
 have Z:=k21 Z c0
 refine L_not_ rfl rfl (mB rfl (L_split (d:=12) (b:=(!x6)) rfl (fun hc23=>?_) (fun hc23=>?_)))
 rw [ite_t hc23] at hb15
 refine ps rfl (ps rfl (ps rfl (L_pick (v:=Bo b15) rfl rfl (congrArg Value.bool (so hb15)) (nn (rj hR16 ⟨rfl,rfl,rfl,Z⟩)))))
 rw [ite_f hc23] at hb15
 obtain ⟨x13,hx13,hb15⟩:=bind_some hb15
 refine mV v1 rfl ?_
 obtain ⟨H24b,l25,s26,z27,k28⟩:=Z.borrow
 refine L_call rfl Tryz.call55 (ops1 rfl) (i_PartialValid_c (p:=p) s26 (RP.mono _ h1 l25) hx13) ?_
 rintro _ w29 ⟨rfl,Z⟩
 have Z:=k28 Z c0
 refine L_not_ rfl rfl (L_pick (v:=Bo b15) rfl rfl (congrArg Value.bool (so hb15)) (nn (rj hR16 ⟨rfl,rfl,rfl,Z⟩)))
 intro f w_ hR
 obtain ⟨sf0,sf1,sf16,Z⟩:=rk hR16 hR
 refine W_cond (b:=b15) sf16 (fun hc30=>?_) (fun hc30=>?_)
 have hF:=(ite_t hc30).symm.trans hF
 refine sq (aV S0 rfl (aI rfl (aB rfl (nn (W_ret (retG3 (v1:=S0) (v2:=I (-1)) (v3:=Bo false) Tryz.results16 rfl rfl rfl ?_))))))
 obtain rfl:=so hF
 have Z:=Star.addNil (R:=(OR.frz RP.int)) (e:=3) Z
 exact ⟨S0,rfl,Z⟩
 have hF:=(ite_f hc30).symm.trans hF
 refine W_skip (W_seq ?_)
 obtain ⟨x37,hx37,hF⟩:=bind_some hF
 refine W_region (mF sf0 rfl (mF sf1 rfl ?_))
 obtain ⟨H40b,l41,s42,z43,k44⟩:=Z.borrow
 refine L_call rfl Tryz.call56 (ops2 rfl rfl) (i_propagate_c (list:=list) (p:=p) s42 (RP.mono _ h0 l41) (RP.mono _ h1 l41) hx37) ?_
 rintro _ w45 ⟨r45_0,rfl,Z⟩
 have Z:=k44 Z (co closed_int c0)
 refine mV (.tuple #[r45_0,I x37.2]) rfl (L_ex (v:=r45_0) rfl rfl rfl (L_ex (v:=I x37.2) rfl rfl rfl (aV r45_0 rfl (aI rfl (ns (mV r45_0 rfl (mI rfl (aV r45_0 rfl (aI rfl (aB rfl (nn (W_ret (retG3 (v1:=r45_0) (v2:=I x37.2) (v3:=Bo true) Tryz.results16 rfl rfl rfl ?_)))))))))))))
 obtain rfl:=so hF
 exact ⟨r45_0,rfl,Z⟩
theorem i_Rule_at_c {r_ : Rule} {cells : List Int} {v0_1 : Value} {v0_2 : Value} {v0_4 : Value} {v1 : Value} {H : FH} {w : World} (Z : Star H w []) (h0_1 : (rS 3 RP.int).rel H [v0_1] r_.vars) (h0_2 : (rS 3 RP.int).rel H [v0_2] r_.coefs) (h0_4 : (rS 23 (rS 3 RP.int)).rel H [v0_4] r_.rows) (h1 : (rS 3 RP.int).rel H [v1] cells) {r : Bool} (hF : i_Rule_at r_ cells = some r) :
 C Tryz.prog 78 #[.agg #[I r_.kind,v0_1,v0_2,I r_.bound,v0_4],v1] w fun v w'=>v = Bo r∧Star H w' []:=by
 unfold i_Rule_at at hF
 refine C_enter Tryz.func78 rfl Tryz.ntmps78 rfl (sq (L_box (v:=.agg #[I r_.kind,v0_1,v0_2,I r_.bound,v0_4]) (cs:=#[I r_.kind,v0_1,v0_2,I r_.bound,v0_4]) rfl rfl rfl Z (fun g3 w4 Z=>aB rfl (ns (aV S0 rfl (nq (sq (fA 1 fa_79_1 rfl rfl (ldB 0 Z Tryz.isAgg23 rfl rfl rfl (L_len rfl Tryz.underlying23 rfl (slice_len h0_1) (mI rfl (nn ?_))))))))))))
 have hlen8 : List.length r_.vars≤9223372036854775807:=len_le (slice_len h0_1)
 obtain ⟨j8,hL8,hF⟩:=bind_some hF
 obtain ⟨R8,hR8⟩:=exR fun f w_=>∃ vals_6 : List Int,∃ v6_vals : Value,j8 = .nx vals_6∧f 2 = Pt g3∧f 5 = v6_vals∧Star H w_ ([oF 3 RP.int v6_vals vals_6,box g3 79 #[I r_.kind,v0_1,v0_2,I r_.bound,v0_4]])
 refine W_join R8 ?_ ?_
 refine W_block ?_
 obtain ⟨I8,hI8⟩:=exI fun n f w_=>∃ i_5 : Nat,∃ suf8 : List Int,∃ vals_6 : List Int,∃ v6_vals : Value,n = suf8.length∧List.drop i_5 r_.vars = suf8∧i_5 + suf8.length = r_.vars.length∧rangeL (i_Rule_at_b1 cells) suf8 i_5 vals_6 = some j8∧f 1 = v1∧f 2 = Pt g3∧f 5 = v6_vals∧f 9 = v0_1∧f 10 = I (r_.vars.length : Int)∧f 11 = I i_5∧Star H w_ ([oF 3 RP.int v6_vals vals_6,box g3 79 #[I r_.kind,v0_1,v0_2,I r_.bound,v0_4]])
 have Z:=Star.addNil (R:=(OR.frz RP.int)) (e:=3) Z
 refine W_loop I8 (n:=r_.vars.length) ?_ ?_
 exact ij hI8 ⟨0,r_.vars,[],S0,rfl,rfl,Nat.zero_add _,hL8,rfl,rfl,rfl,rfl,rfl,rfl,Z⟩
 intro n8 f w_ hI
 obtain ⟨i_5,suf8,vals_6,v6_vals,rfl,hd8,hl8,hL8,sf1,sf2,sf5,sf9,sf10,sf11,Z⟩:=ik hI8 hI
 refine sq (L_lss rfl sf11 sf10 (nq (W_cond (b:=decide ((i_5 : Int) < (r_.vars.length : Int))) rfl (fun hc10=>?_) (fun hc10=>?_))))
 have hlt8:=of_decide_eq_true hc10
 rcases suf8 with _ | ⟨x_8,rest8⟩
 exact absurd hlt8 (by simp at hl8; omega)
 obtain ⟨o8,hB8,hL8⟩:=range_cons hL8
 rw [i_Rule_at_b1] at hB8
 have hix8:=drop_idx hd8
 refine W_skip (W_seq (W_block (sq (L_ix (r:=RP.int) rfl Tryz.underlying23 Tryz.sizeOf3 sf9 h0_1 sf11 hix8 (fun g15 o16 cs_g15 hrk_hat17 hat17=>?_)))))
 obtain rfl : _ = [_]:=hrk_hat17
 refine L_ld rfl Tryz.isAgg3 rfl (At.cell (AtH.at hat17 Z.sub) (j:=0) rfl) (aI rfl (nn ?_))
 obtain ⟨x19,hx19,hB8⟩:=bind_some hB8
 obtain ⟨x27,hx27,hB8⟩:=bind_some hB8
 refine W_region (mF sf5 rfl (mF sf1 rfl (mI rfl (L_ix (r:=RP.int) rfl Tryz.underlying23 Tryz.sizeOf3 rfl h1 rfl hx19 (fun g31 o32 cs_g31 hrk_hat33 hat33=>?_)))))
 obtain rfl : _ = [_]:=hrk_hat33
 refine L_ld rfl Tryz.isAgg3 rfl (At.cell (AtH.at hat33 Z.sub) (j:=0) rfl) (L_bs rfl (parts1 rfl) (bs_23_1_0 (I x19) rfl) Z (fun g35 w36 Z=>?_))
 have Z:=Star.addF (r:=RP.int) (cs:=[I x19]) (x:=x19) Z rfl
 have Z:=Star.mkRow (R:=(OR.frz RP.int)) [([I x19],x19)] [x19] 1 Z rfl rfl rfl (by decide)
 have Z:=Z.get 1 rfl
 refine L_appM (v:=v6_vals) (u:=(Sl g35 1 1)) rfl et_23 rfl rfl Z hx27 (fun v38 w39 Z=>aV v38 rfl (nn (W_region (L_add rfl sf11 rfl (mI rfl (nn ?_))))))
 obtain rfl:=so hB8
 show ∃ m,m < _∧I8 m _ _
 refine ⟨rest8.length,by simp,?_⟩
 exact ij hI8 ⟨i_5 + 1,rest8,x27,v38,rfl,drop_next hd8,by simp at hl8; omega,hL8,sf1,sf2,rfl,sf9,sf10,(Eq.trans rfl (congrArg (Value.int .i64) (i64_succ (n:=r_.vars.length) (by simp at hl8; omega) hlen8))),Z⟩
 rcases suf8 with _ | ⟨_,_⟩
 obtain rfl:=range_nil hL8
 refine W_exit (rj hR8 ⟨vals_6,v6_vals,rfl,sf2,sf5,Z⟩)
 exact absurd (of_decide_eq_false hc10) (by simp at hl8; omega)
 intro f w_ hR
 obtain ⟨vals_6,v6_vals,rfl,sf2,sf5,Z⟩:=rk hR8 hR
 refine W_seq ?_
 obtain ⟨x47,hx47,hF⟩:=bind_some hF
 refine W_region (L_lda (cs:=[I r_.kind,v0_1,v0_2,I r_.bound,v0_4]) rfl Tryz.isAgg79 Tryz.sizeOf79 sf2 (At.sub0 (Blk.at (Star.blkAt 1 Z rfl)) 0 5) rfl (mF sf5 rfl ?_))
 obtain ⟨H49b,l50,s51,z52,k53⟩:=Z.borrow
 have hb54 : (rS 3 RP.int).rel H49b [v6_vals] vals_6:=fz_own 0 z52 rfl
 refine L_call rfl Tryz.call105 (ops2 rfl rfl) (i_Rule_holds_c (r_:=r_) (vals:=vals_6) s51 (RP.mono _ h0_1 l50) (RP.mono _ h0_2 l50) (RP.mono _ h0_4 l50) hb54 hx47) ?_
 rintro _ w55 ⟨rfl,Z⟩
 have Z:=k53 Z c0
 refine aB rfl (nn (W_ret (retG1 (v1:=Bo x47) Tryz.results78 rfl ?_)))
 obtain rfl:=so hF
 exact ⟨rfl,(Star.keepN 0 Z)⟩
theorem i_Model_solves_1_c {c1 : List Int} {r_ : Rule} {v0_1 : Value} {v0_2 : Value} {v0_4 : Value} {g_c1 : Nat} {v1_0 : Value} {H : FH} {w : World} (Z : Star H w []) (h0_1 : (rS 3 RP.int).rel H [v0_1] r_.vars) (h0_2 : (rS 3 RP.int).rel H [v0_2] r_.coefs) (h0_4 : (rS 23 (rS 3 RP.int)).rel H [v0_4] r_.rows) (hat_g_c1 : AtH H g_c1 0 [v1_0]) (h1_0 : (rS 3 RP.int).rel H [v1_0] c1) {r : Bool} (hF : i_Model_solves_1 c1 r_ = some r) :
 C Tryz.prog 117 #[.agg #[I r_.kind,v0_1,v0_2,I r_.bound,v0_4],Pt g_c1] w fun v w'=>v = Bo r∧Star H w' []:=by
 unfold i_Model_solves_1 at hF
 refine C_enter Tryz.func117 rfl Tryz.ntmps117 rfl (sq (L_box (v:=.agg #[I r_.kind,v0_1,v0_2,I r_.bound,v0_4]) (cs:=#[I r_.kind,v0_1,v0_2,I r_.bound,v0_4]) rfl rfl rfl Z (fun g3 w4 Z=>aB rfl (nq ?_))))
 obtain ⟨x10,hx10,hF⟩:=bind_some hF
 refine W_region (L_lda (cs:=[I r_.kind,v0_1,v0_2,I r_.bound,v0_4]) rfl Tryz.isAgg79 Tryz.sizeOf79 rfl (At.sub0 (Blk.at (Star.blkAt 0 Z rfl)) 0 5) rfl (L_ld rfl Tryz.isAgg23 rfl (At.cell0 (AtH.at hat_g_c1 Z.sub) (j:=0) rfl) ?_))
 obtain ⟨H12b,l13,s14,z15,k16⟩:=Z.borrow
 refine L_call rfl Tryz.call78 (ops2 rfl rfl) (i_Rule_at_c (r_:=r_) (cells:=c1) s14 (RP.mono _ h0_1 l13) (RP.mono _ h0_2 l13) (RP.mono _ h0_4 l13) (RP.mono _ h1_0 l13) hx10) ?_
 rintro _ w17 ⟨rfl,Z⟩
 have Z:=k16 Z c0
 refine L_not_ rfl rfl (aB rfl (nn (W_ret (retG1 (v1:=Bo (!x10)) Tryz.results117 rfl ?_))))
 obtain rfl:=so hF
 exact ⟨rfl,(Star.keepN 0 Z)⟩
theorem i_Model_solves_c {m : Model} {cells : List Int} {v0_0 : Value} {v0_1 : Value} {v1 : Value} {H : FH} {w : World} (Z : Star H w []) (h0_0 : (rS 3 RP.int).rel H [v0_0] m.sizes) (h0_1 : (rS 79 (rRule 3 23)).rel H [v0_1] m.rules) (h1 : (rS 3 RP.int).rel H [v1] cells) {r : Bool} (hF : i_Model_solves m cells = some r) :
 C Tryz.prog 59 #[.agg #[v0_0,v0_1],v1] w fun v w'=>v = Bo r∧Star H w' []:=by
 unfold i_Model_solves at hF
 refine C_enter Tryz.func59 rfl Tryz.ntmps59 rfl (sq (L_box (v:=.agg #[v0_0,v0_1]) (cs:=#[v0_0,v0_1]) rfl rfl rfl Z (fun g5 w6 Z=>L_box (v:=v1) (cs:=#[v1]) rfl rfl (cells_one (one_len (slice_len h1))) Z (fun g7 w8 Z=>aB rfl (nq ?_)))))
 obtain ⟨x14,hx14,hF⟩:=bind_some hF
 refine W_region (fA 1 fa_26_1 rfl rfl (ldB 1 Z Tryz.isAgg24 rfl rfl rfl (L_mf rfl (ops1 rfl) ?_)))
 obtain ⟨H16b,l17,s18,z19,k20⟩:=Z.borrow
 have hf21 : Fun1 Tryz.prog (rRule 3 23) true Value.bool (i_Model_solves_1 cells) (.func (.func 117) #[] #[Pt g7]) H16b:=by
   refine ⟨_,_,rfl,Tryz.call117,fun H_ w_ hE_ hs_ cs_ x_ y_ args_ hr_ hy_ ha_=>?_⟩
   obtain ⟨p_0,p_1,p_2,rfl,hp_0,hp_1,hp_2⟩:=rRule_iff.1 hr_
   obtain rfl:=args_of (b:=#[.agg #[I x_.kind,p_0,p_1,I x_.bound,p_2],Pt g7]) ha_
   exact i_Model_solves_1_c (c1:=cells) (r_:=x_) hs_ hp_0 hp_1 hp_2 (AtH.le (AtH.of (fz_box 0 z19 rfl)) hE_) (RP.mono _ (RP.mono _ h1 l17) hE_) hy_
 refine L_call rfl Tryz.call93 (ops2 rfl rfl) (slices_ContainsFunc_implRule_c (s:=m.rules) (f_:=(i_Model_solves_1 cells)) s18 (RP.mono _ h0_1 l17) hf21 hx14) ?_
 rintro _ w22 ⟨rfl,Z⟩
 have Z:=k20 Z c0
 refine L_not_ rfl rfl (aB rfl (nn (W_ret (retG1 (v1:=Bo (!x14)) Tryz.results59 rfl ?_))))
 obtain rfl:=so hF
 exact ⟨rfl,(Star.keepN 0 Z)⟩
theorem i_CountModel_c {fu : Nat} {m : Model} {v0_0 : Value} {v0_1 : Value} {H : FH} {w : World} (Z : Star H w []) (h0_0 : (rS 3 RP.int).rel H [v0_0] m.sizes) (h0_1 : (rS 79 (rRule 3 23)).rel H [v0_1] m.rules) {r : Int} (hF : i_CountModel fu m = some r) :
 C Tryz.prog 17 #[.agg #[v0_0,v0_1]] w fun v w'=>v = I r∧Star H w' []:=by
 unfold i_CountModel at hF
 refine C_enter Tryz.func17 rfl Tryz.ntmps17 rfl (sq (L_box (v:=.agg #[v0_0,v0_1]) (cs:=#[v0_0,v0_1]) rfl rfl rfl Z (fun g3 w4 Z=>aI rfl (nq (W_seq ?_)))))
 obtain ⟨x10,hx10,hF⟩:=bind_some hF
 refine W_region (L_lda (cs:=[v0_0,v0_1]) rfl Tryz.isAgg26 Tryz.sizeOf26 rfl (At.sub0 (Blk.at (Star.blkAt 0 Z rfl)) 0 2) rfl ?_)
 obtain ⟨H12b,l13,s14,z15,k16⟩:=Z.borrow
 refine L_call rfl Tryz.call46 (ops1 rfl) (i_ModelValid_c (m:=m) s14 (RP.mono _ h0_0 l13) (RP.mono _ h0_1 l13) hx10) ?_
 rintro _ w17 ⟨rfl,Z⟩
 have Z:=k16 Z c0
 refine L_not_ rfl rfl (nn (W_cond (b:=(!x10)) rfl (fun hc18=>?_) (fun hc18=>?_)))
 have hF:=(ite_t hc18).symm.trans hF
 refine sq (aI rfl (nn (W_ret (retG1 (v1:=I 0) Tryz.results17 rfl ?_))))
 obtain rfl:=so hF
 exact ⟨rfl,(Star.keepN 0 Z)⟩
 have hF:=(ite_f hc18).symm.trans hF
 refine W_skip (sq (L_al (cs:=#[I 0]) rfl Tryz.zeroValue3 rfl Z (fun g22 w23 Z=>L_stB (v:=I 0) (cs2:=#[I 0]) 0 rfl Tryz.sizeOf3 rfl rfl rfl Z rfl rfl rfl (fun w24 Z=>nq ?_))))
 obtain ⟨x25,hx25,hF⟩:=bind_some hF
 obtain ⟨g22_0_29,hI32,hF⟩:=bind_some hF
 refine W_drawS 7 [isV (Pt g3),isV (v0_0),isV (Pt g3),isV (v0_0),isV (I (m.sizes.length : Int)),anyF,isV (.func (.func 58) #[] #[Pt g3,Pt g22])] [box g22 3 #[I 0],box g3 26 #[v0_0,v0_1]] [.made 5 12 (fun v_=>oF 3 RP.int v_ x25) none] ([]) [([],[]),([],[]),([],[]),([],[]),([],[]),([],[0]),([],[])] (S:=[(some 5,[12],none)]) Tryz_mix (by kernel_rfl) rfl (by kernel_rfl) (amF_cons (mono_V _) (amF_cons (mono_V _) (amF_cons (mono_V _) (amF_cons (mono_V _) (amF_cons (mono_V _) (amF_cons (mono_any) (amF_cons (mono_V _) amF_nil))))))) Z ?_ (fun f w_ H33 hS33 hE33 hT33 Z=>?_)
 refine opsS_cons (fun f w_ _ _ s _ _ Z=>fA 0 fa_26_0 ((s 1 rfl).trans rfl) rfl (nO rfl rfl Z)) (opsS_cons (fun f w_ _ _ _ _ p Z=>ldB 1 Z Tryz.isAgg23 (p 0 7 rfl rfl) rfl rfl (nO rfl rfl Z)) (opsS_cons (fun f w_ _ _ s _ _ Z=>fA 0 fa_26_0 ((s 1 rfl).trans rfl) rfl (nO rfl rfl Z)) (opsS_cons (fun f w_ _ _ _ _ p Z=>ldB 1 Z Tryz.isAgg23 (p 2 9 rfl rfl) rfl rfl (nO rfl rfl Z)) (opsS_cons (fun f w_ _ _ _ hE33 p Z=>L_len rfl Tryz.underlying23 (p 3 10 rfl rfl) (slice_len (RP.mono _ h0_0 hE33)) (nO rfl rfl Z)) (opsS_cons ?_ ?_)))))
 intro f w_ H33 X33 hS33 hE33 hP33 Z
 refine L_mk (R:=(OR.frz RP.int)) (z0:=0) (zc:=[I 0]) rfl et_23 (by kernel_rfl) (fun _ _=>⟨rfl,rfl⟩) (hP33 4 11 rfl rfl) (hP33 4 11 rfl rfl) hx25 Z (fun v37 w38 Z=>?_)
 have Z:=Z.gets [2,2] rfl
 exact L_nil ⟨rfl,_,_,rfl,Le.refl _,fun _ _=>trivial,Z⟩
 refine opsS_cons (fun f w_ _ _ s _ _ Z=>L_mf rfl (ops2 ((s 1 rfl).trans rfl) ((s 3 rfl).trans rfl)) (nO rfl rfl Z)) (opsS_nil)
 have Z : Star H33 w_ ([box g22 3 #[I 0],box g3 26 #[v0_0,v0_1],oF 3 RP.int (f 12) x25]):=Z
 obtain ⟨R44,hR44⟩ : ∃ RV_ : Value→World→Prop,RV_ = fun v w_=>∃ H42 : FH,v = .tuple #[]∧Le H33 H42∧Star H42 w_ ([box g22 3 #[I g22_0_29]]):=⟨_,rfl⟩
 refine L_call (args:=#[v0_0,(f 12),.func (.func 58) #[] #[Pt g3,Pt g22]]) (R:=R44) rfl Tryz.call57 (ops3 (hT33 1 8 rfl rfl) rfl (hT33 6 13 rfl rfl)) ?_ ?_
 refine C_enter Tryz.func57 rfl Tryz.ntmps57 rfl ?_
 have hA44:=hI32
 unfold i_CountModel_i1 at hA44
 refine W_seq ?_
 obtain ⟨x51,hx51,hA44⟩:=bind_some hA44
 refine W_region (mV (f 12) rfl ?_)
 obtain ⟨H54b,l55,s56,z57,k58⟩:=Z.borrow
 have hb59 : (rS 3 RP.int).rel H54b [(f 12)] x25:=fz_own 2 z57 rfl
 refine L_call rfl Tryz.call62 (ops1 rfl) (slices_Clone_int_c (s:=x25) s56 hb59 hx51) ?_
 rintro r60_0 w60 ⟨_,rfl,Z⟩
 have Z:=k58 Z (co closed_int c0)
 refine aV r60_0 rfl (nn ?_)
 obtain ⟨j67,hL67,hA44⟩:=bind_some hA44
 obtain ⟨R67,hR67⟩:=exR fun f w_=>∃ cells_63 : List Int,∃ g22_0_64 : Int,∃ H65 : FH,j67 = .nx (cells_63,g22_0_64)∧Le H33 H65∧Star H65 w_ ([box g22 3 #[I g22_0_64]])
 refine W_join R67 ?_ ?_
 refine W_block ?_
 obtain ⟨I67,hI67⟩:=exI fun n f w_=>∃ cells_63 : List Int,∃ g22_0_64 : Int,∃ H65 : FH,whileL (i_CountModel_b2 fu m) n (cells_63,g22_0_64) = some j67∧Le H33 H65∧f 0 = v0_0∧f 2 = .func (.func 58) #[] #[Pt g3,Pt g22]∧f 6 = r60_0∧Star H65 w_ ([oF 3 RP.int r60_0 cells_63,box g22 3 #[I g22_0_64],box g3 26 #[v0_0,v0_1]])
 refine W_loop I67 (n:=fu) ?_ ?_
 exact ij hI67 ⟨x51,0,H33,hL67,(Le.refl _),rfl,rfl,rfl,(Star.keepN 3 Z)⟩
 intro n67 f w_ hI
 obtain ⟨cells_63,g22_0_64,H65,hL67,l66,sf0,sf2,sf6,Z⟩:=ik hI67 hI
 rcases n67 with _ | n67
 exact (while_zero hL67).elim
 obtain ⟨o67,hB67,hL67⟩:=while_succ hL67
 rw [i_CountModel_b2] at hB67
 refine W_seq (W_seq ?_)
 obtain ⟨⟨ret0_68,g22_0_69⟩,hI70,hB67⟩:=bind_some hB67
 refine W_region (mF sf2 rfl (mF sf6 rfl ?_))
 obtain ⟨R73,hR73⟩ : ∃ RV_ : Value→World→Prop,RV_ = fun v w_=>v = Bo ret0_68∧Star H65 w_ ([oF 3 RP.int r60_0 cells_63,box g22 3 #[I g22_0_69],box g3 26 #[v0_0,v0_1]]):=⟨_,rfl⟩
 refine L_callv (args:=#[r60_0]) (R:=R73) rfl Tryz.call58 rfl (ops1 rfl) ?_ ?_
 show C _ _ #[r60_0,Pt g3,Pt g22] _ _
 refine C_enter Tryz.func58 rfl Tryz.ntmps58 rfl ?_
 have hA73:=hI70
 unfold i_CountModel_i3 at hA73
 refine sq (aB rfl (nq (W_seq ?_)))
 obtain ⟨x80,hx80,hA73⟩:=bind_some hA73
 refine W_region (L_lda (cs:=[v0_0,v0_1]) rfl Tryz.isAgg26 Tryz.sizeOf26 rfl (At.sub0 (Blk.at (Star.blkAt 2 Z rfl)) 0 2) rfl (mV r60_0 rfl ?_))
 obtain ⟨H82b,l83,s84,z85,k86⟩:=Z.borrow
 have hb87 : (rS 3 RP.int).rel H82b [r60_0] cells_63:=fz_own 0 z85 rfl
 refine L_call rfl Tryz.call59 (ops2 rfl rfl) (i_Model_solves_c (m:=m) (cells:=cells_63) s84 (RP.mono _ h0_0 (Le.trans (Le.trans hE33 l66) l83)) (RP.mono _ h0_1 (Le.trans (Le.trans hE33 l66) l83)) hb87 hx80) ?_
 rintro _ w88 ⟨rfl,Z⟩
 have Z:=k86 Z c0
 refine nn ?_
 obtain ⟨g22_0_89,hA90,hA73⟩:=bind_some hA73
 obtain ⟨R90,hR90⟩:=exR fun f w_=>Star H65 w_ ([oF 3 RP.int r60_0 cells_63,box g22 3 #[I g22_0_89],box g3 26 #[v0_0,v0_1]])
 refine W_join R90 ?_ ?_
 refine W_cond (b:=x80) rfl (fun hc91=>?_) (fun hc91=>?_)
 have hA90:=(ite_t hc91).symm.trans hA90
 refine W_region (ldB 1 Z Tryz.isAgg3 rfl rfl rfl (L_add rfl rfl rfl (L_stB (v:=I (i64 (g22_0_64 + 1))) (cs2:=#[I (i64 (g22_0_64 + 1))]) 1 rfl Tryz.sizeOf3 rfl rfl rfl Z rfl rfl rfl (fun w93 Z=>nn ?_))))
 obtain rfl:=so hA90
 have Z:=Z.gets [2,1,2] rfl
 exact rj hR90 Z
 have hA90:=(ite_f hc91).symm.trans hA90
 refine W_skip ?_
 obtain rfl:=so hA90
 exact rj hR90 Z
 intro f w_ hR
 rw [hR90] at hR
 have Z:=hR
 clear hR90
 refine sq (aB rfl (nn (W_ret (retG1 (v1:=Bo true) Tryz.results58 rfl ?_))))
 obtain ⟨rfl,rfl⟩:=so2 hA73
 show R73 _ _
 rw [hR73]
 exact ⟨rfl,Z⟩
 intro v_73 w_ hR
 rw [hR73] at hR
 obtain ⟨hvr73,Z⟩:=hR
 obtain rfl:=hvr73.symm
 clear hR73
 refine nn (W_cond (b:=ret0_68) rfl (fun hc94=>?_) (fun hc94=>?_))
 have hB67:=(ite_t hc94).symm.trans hB67
 refine W_skip (W_block (sq (mF sf6 rfl (L_len rfl Tryz.underlying23 rfl (Star.len 0 Z rfl) (L_sub rfl rfl rfl (aI rfl (nq ?_)))))))
 obtain ⟨j100,hL100,hB67⟩:=bind_some hB67
 obtain ⟨R100,hR100⟩:=exR fun f w_=>∃ cells_96 : List Int,∃ i_97 : Int,∃ H98 : FH,j100 = .nx (cells_96,i_97)∧Le H65 H98∧f 0 = v0_0∧f 2 = .func (.func 58) #[] #[Pt g3,Pt g22]∧f 6 = r60_0∧f 7 = I i_97∧Star H98 w_ ([oF 3 RP.int r60_0 cells_96,box g22 3 #[I g22_0_69],box g3 26 #[v0_0,v0_1]])
 refine W_join R100 ?_ ?_
 refine W_block ?_
 obtain ⟨I100,hI100⟩:=exI fun n f w_=>∃ cells_96 : List Int,∃ i_97 : Int,∃ H98 : FH,whileL (i_CountModel_b4 m) n (cells_96,i_97) = some j100∧Le H65 H98∧f 0 = v0_0∧f 2 = .func (.func 58) #[] #[Pt g3,Pt g22]∧f 6 = r60_0∧f 7 = I i_97∧Star H98 w_ ([oF 3 RP.int r60_0 cells_96,box g22 3 #[I g22_0_69],box g3 26 #[v0_0,v0_1]])
 refine W_loop I100 (n:=fu) ?_ ?_
 exact ij hI100 ⟨cells_63,i64 ((cells_63.length : Int) - 1),H65,hL100,(Le.refl _),sf0,sf2,sf6,rfl,Z⟩
 intro n100 f w_ hI
 obtain ⟨cells_96,i_97,H98,hL100,l99,sf0,sf2,sf6,sf7,Z⟩:=ik hI100 hI
 rcases n100 with _ | n100
 exact (while_zero hL100).elim
 obtain ⟨o100,hB100,hL100⟩:=while_succ hL100
 rw [i_CountModel_b4] at hB100
 refine W_seq (W_seq ?_)
 obtain ⟨b111,hb111,hB100⟩:=bind_some hB100
 obtain ⟨R115,hR115⟩:=exR fun f w_=>∃ H113 : FH,Le H98 H113∧f 0 = v0_0∧f 2 = .func (.func 58) #[] #[Pt g3,Pt g22]∧f 6 = r60_0∧f 7 = I i_97∧f 28 = Bo b111∧Star H113 w_ ([oF 3 RP.int r60_0 cells_96,box g22 3 #[I g22_0_69],box g3 26 #[v0_0,v0_1]])
 refine W_join R115 ?_ ?_
 rcases Bool.eq_false_or_eq_true (decide (i_97 ≥ 0)) with hc116 | hc116
 rw [ite_t hc116] at hb111
 obtain ⟨x101,hx101,hb111⟩:=bind_some hb111
 obtain ⟨x106,hx106,hb111⟩:=bind_some hb111
 obtain ⟨g117,cap_g117,hv118,_,_⟩:=Star.row 0 Z rfl hx101
 refine W_drawS 11 [isV (I i_97),isV (Bo (decide (i_97 ≥ 0))),isV (Bo (decide (i_97 ≥ 0))),isV (r60_0),isV (I i_97),isV (.pointer (some ⟨g117,Int.toNat i_97 * 1,none⟩)),isV (I x101),isV (v0_0),isV (I i_97),isEl RP.int x106 0,isV (I x106)] [oF 3 RP.int r60_0 cells_96,box g22 3 #[I g22_0_69],box g3 26 #[v0_0,v0_1]] [] ([]) [([],[]),([],[]),([],[]),([],[]),([],[]),([],[]),([],[]),([],[]),([],[]),([],[]),([],[])] (S:=[]) Tryz_mix (by kernel_rfl) rfl (by kernel_rfl) (amF_cons (mono_V _) (amF_cons (mono_V _) (amF_cons (mono_V _) (amF_cons (mono_V _) (amF_cons (mono_V _) (amF_cons (mono_V _) (amF_cons (mono_V _) (amF_cons (mono_V _) (amF_cons (mono_V _) (amF_cons (mono_el _ _ _) (amF_cons (mono_V _) amF_nil))))))))))) Z ?_ (fun f w_ H112 hS112 hE112 hT112 Z=>?_)
 refine opsS_cons (fun f w_ _ _ s _ _ Z=>mF ((s 7 rfl).trans sf7) rfl (nO rfl rfl Z)) (opsS_cons (fun f w_ _ _ _ _ p Z=>L_geq rfl (p 0 16 rfl rfl) rfl (nO rfl rfl Z)) (opsS_cons (fun f w_ _ _ _ _ p Z=>mF (p 1 17 rfl rfl) rfl (nO rfl rfl Z)) (opsS_cons (fun f w_ _ _ s _ p Z=>L_mv (v:=r60_0) (g_yes rfl (Eq.trans (p 2 18 rfl rfl) (congrArg Value.bool hc116)) rfl) ((s 6 rfl).trans sf6) (nO rfl rfl Z)) (opsS_cons (fun f w_ _ _ s _ p Z=>L_mv (v:=I i_97) (g_yes rfl (Eq.trans (p 2 18 rfl rfl) (congrArg Value.bool hc116)) rfl) ((s 7 rfl).trans sf7) (nO rfl rfl Z)) (opsS_cons (fun f w_ _ _ _ _ p Z=>L_ixO (R:=(OR.frz RP.int)) (tb:=0) 0 (g_yes rfl (Eq.trans (p 2 18 rfl rfl) (congrArg Value.bool hc116)) rfl) Tryz.underlying23 Tryz.sizeOf3 (p 3 19 rfl rfl) hv118 (by first | rfl | simp) (p 4 20 rfl rfl) hx101 (nO rfl rfl Z)) (opsS_cons ?_ ?_))))))
 intro f w_ H112 X112 hS112 hE112 hP112 Z
 obtain ⟨cs125,hr125,hat125⟩:=Star.eltF 0 Z rfl hv118 hx101
 obtain rfl : _ = [_]:=hr125
 refine L_ld (v:=I x101) (g_yes rfl (Eq.trans (hP112 2 18 rfl rfl) (congrArg Value.bool hc116)) rfl) Tryz.isAgg3 (hP112 5 21 rfl rfl) (At.cell hat125 (j:=0) rfl) (L_nil ⟨rfl,_,_,rfl,Le.refl _,fun _ _=>rfl,Z⟩)
 refine opsS_cons (fun f w_ _ _ s _ p Z=>L_mv (v:=v0_0) (g_yes rfl (Eq.trans (p 2 18 rfl rfl) (congrArg Value.bool hc116)) rfl) ((s 0 rfl).trans sf0) (nO rfl rfl Z)) (opsS_cons (fun f w_ _ _ s _ p Z=>L_mv (v:=I i_97) (g_yes rfl (Eq.trans (p 2 18 rfl rfl) (congrArg Value.bool hc116)) rfl) ((s 7 rfl).trans sf7) (nO rfl rfl Z)) (opsS_cons ?_ ?_))
 intro f w_ H112 X112 hS112 hE112 hP112 Z
 refine L_ix (r:=RP.int) (g_yes rfl (Eq.trans (hP112 2 18 rfl rfl) (congrArg Value.bool hc116)) rfl) Tryz.underlying23 Tryz.sizeOf3 (hP112 7 23 rfl rfl) (RP.mono _ h0_0 (Le.trans (Le.trans (Le.trans hE33 l66) l99) hE112)) (hP112 8 24 rfl rfl) hx106 (fun g127 o128 cs_g127 hrk_hat129 hat129=>?_)
 obtain rfl : _ = [_]:=hrk_hat129
 exact L_nil ⟨rfl,_,_,rfl,Le.refl _,fun _ _=>⟨_,_,_,rfl,rfl,hat129⟩,Z⟩
 refine opsS_cons ?_ ?_
 intro f w_ H112 X112 hS112 hE112 hP112 Z
 obtain ⟨g131,o131,cs131,hv131,hrk_hat131,hat131⟩:=(hP112 9 25 rfl rfl)
 obtain rfl : _ = [_]:=hrk_hat131
 refine L_ld (v:=I x106) (g_yes rfl (Eq.trans (hP112 2 18 rfl rfl) (congrArg Value.bool hc116)) rfl) Tryz.isAgg3 hv131 (At.cell (AtH.at hat131 Z.sub) (j:=0) rfl) (L_nil ⟨rfl,_,_,rfl,Le.refl _,fun _ _=>rfl,Z⟩)
 exact opsS_nil
 refine L_eql (g_yes rfl (Eq.trans (hT112 2 18 rfl rfl) (congrArg Value.bool hc116)) rfl) (hT112 6 22 rfl rfl) (hT112 10 26 rfl rfl) (L_pick (v:=Bo b111) rfl (Eq.trans (hT112 2 18 rfl rfl) (congrArg Value.bool hc116)) (congrArg Value.bool (so hb111)) (nn (rj hR115 ⟨H112,hE112,((hS112 0 rfl).trans sf0),((hS112 2 rfl).trans sf2),((hS112 6 rfl).trans sf6),((hS112 7 rfl).trans sf7),rfl,Z⟩)))
 rw [ite_f hc116] at hb111
 refine W_drawS 11 [isV (I i_97),isV (Bo (decide (i_97 ≥ 0))),isV (Bo (decide (i_97 ≥ 0))),isV (undef),isV (undef),isV (undef),isV (undef),isV (undef),isV (undef),isV (undef),isV (undef)] [oF 3 RP.int r60_0 cells_96,box g22 3 #[I g22_0_69],box g3 26 #[v0_0,v0_1]] [] ([]) [([],[]),([],[]),([],[]),([],[]),([],[]),([],[]),([],[]),([],[]),([],[]),([],[]),([],[])] (S:=[]) Tryz_mix (by kernel_rfl) rfl (by kernel_rfl) (amF_cons (mono_V _) (amF_cons (mono_V _) (amF_cons (mono_V _) (amF_cons (mono_V _) (amF_cons (mono_V _) (amF_cons (mono_V _) (amF_cons (mono_V _) (amF_cons (mono_V _) (amF_cons (mono_V _) (amF_cons (mono_V _) (amF_cons (mono_V _) amF_nil))))))))))) Z ?_ (fun f w_ H112 hS112 hE112 hT112 Z=>?_)
 refine opsS_cons (fun f w_ _ _ s _ _ Z=>mF ((s 7 rfl).trans sf7) rfl (nO rfl rfl Z)) (opsS_cons (fun f w_ _ _ _ _ p Z=>L_geq rfl (p 0 16 rfl rfl) rfl (nO rfl rfl Z)) (opsS_cons (fun f w_ _ _ _ _ p Z=>mF (p 1 17 rfl rfl) rfl (nO rfl rfl Z)) (oP (fun _ _ p=>gN (p 2 18 rfl rfl) hc116 rfl) (fun _=>rfl) (oP (fun _ _ p=>gN (p 2 18 rfl rfl) hc116 rfl) (fun _=>rfl) (oP (fun _ _ p=>gN (p 2 18 rfl rfl) hc116 rfl) (fun _=>rfl) (oP (fun _ _ p=>gN (p 2 18 rfl rfl) hc116 rfl) (fun _=>rfl) (oP (fun _ _ p=>gN (p 2 18 rfl rfl) hc116 rfl) (fun _=>rfl) (oP (fun _ _ p=>gN (p 2 18 rfl rfl) hc116 rfl) (fun _=>rfl) (oP (fun _ _ p=>gN (p 2 18 rfl rfl) hc116 rfl) (fun _=>rfl) (oP (fun _ _ p=>gN (p 2 18 rfl rfl) hc116 rfl) (fun _=>rfl) (opsS_nil)))))))))))
 refine ps (g_no rfl (Eq.trans (hT112 2 18 rfl rfl) (congrArg Value.bool hc116)) rfl rfl) (L_pick (v:=Bo b111) rfl (Eq.trans (hT112 2 18 rfl rfl) (congrArg Value.bool hc116)) (congrArg Value.bool (so hb111)) (nn (rj hR115 ⟨H112,hE112,((hS112 0 rfl).trans sf0),((hS112 2 rfl).trans sf2),((hS112 6 rfl).trans sf6),((hS112 7 rfl).trans sf7),rfl,Z⟩)))
 intro f w_ hR
 obtain ⟨H113,l114,sf0,sf2,sf6,sf7,sf28,Z⟩:=rk hR115 hR
 refine W_cond (b:=b111) sf28 (fun hc133=>?_) (fun hc133=>?_)
 have hB100:=(ite_t hc133).symm.trans hB100
 refine W_skip (W_block (W_seq ?_))
 obtain ⟨x134,hx134,hB100⟩:=bind_some hB100
 refine W_region (mF sf6 rfl (mF sf7 rfl ?_))
 obtain ⟨g138,cap_g138,hv139,_,_⟩:=Star.row 0 Z rfl hx134
 refine L_ixO (R:=(OR.frz RP.int)) (tb:=0) 0 rfl Tryz.underlying23 Tryz.sizeOf3 rfl hv139 (by first | rfl | simp) rfl hx134 ?_
 have Z:=Star.addF (r:=RP.int) (cs:=[I 0]) (x:=0) Z rfl
 refine L_stE1 (u:=I 0) rfl Tryz.sizeOf3 rfl rfl rfl hv139 Z hx134 (fun w140 Z=>?_)
 refine nn (W_region (mF sf7 rfl (L_sub rfl rfl rfl (aI rfl (nn ?_)))))
 obtain rfl:=so hB100
 show ∃ m,m < _∧I100 m _ _
 refine ⟨n100,Nat.lt_succ_self _,?_⟩
 exact ij hI100 ⟨(cells_96.set (Int.toNat i_97) 0),i64 (i_97 - 1),H113,hL100,(Le.trans l99 l114),sf0,sf2,sf6,rfl,Z⟩
 have hB100:=(ite_f hc133).symm.trans hB100
 refine W_exit ?_
 obtain rfl:=so hB100
 obtain rfl:=so hL100
 exact rj hR100 ⟨cells_96,i_97,H113,rfl,(Le.trans l99 l114),sf0,sf2,sf6,sf7,Z⟩
 intro f w_ hR
 obtain ⟨cells_96,i_97,H98,rfl,l99,sf0,sf2,sf6,sf7,Z⟩:=rk hR100 hR
 refine W_seq (sq (mF sf7 rfl (L_lss rfl rfl rfl (nn (W_cond (b:=decide (i_97 < 0)) rfl (fun hc141=>?_) (fun hc141=>?_))))))
 have hB67:=(ite_t hc141).symm.trans hB67
 refine W_ret (ret0 Tryz.results57 ?_)
 obtain rfl:=so hB67
 obtain rfl:=so hL67
 obtain rfl:=so hA44
 have Z:=Z.get 1 rfl
 show R44 _ _
 rw [hR44]
 exact ⟨H98,rfl,(Le.trans l66 l99),(Star.keepN 1 Z)⟩
 have hB67:=(ite_f hc141).symm.trans hB67
 refine W_skip ?_
 obtain ⟨x142,hx142,hB67⟩:=bind_some hB67
 refine W_region (mF sf6 rfl (mF sf7 rfl ?_))
 obtain ⟨g148,cap_g148,hv149,_,_⟩:=Star.row 0 Z rfl hx142
 refine L_ixO (R:=(OR.frz RP.int)) (tb:=0) 0 rfl Tryz.underlying23 Tryz.sizeOf3 rfl hv149 (by first | rfl | simp) rfl hx142 ?_
 obtain ⟨cs150,hr150,hat150⟩:=Star.eltF 0 Z rfl hv149 hx142
 obtain rfl : _ = [_]:=hr150
 refine L_ld rfl Tryz.isAgg3 rfl (At.cell hat150 (j:=0) rfl) (L_add rfl rfl rfl (L_ixO (R:=(OR.frz RP.int)) (tb:=0) 0 rfl Tryz.underlying23 Tryz.sizeOf3 rfl hv149 (by first | rfl | simp) rfl hx142 ?_))
 have Z:=Star.addF (r:=RP.int) (cs:=[I (i64 (x142 + 1))]) (x:=(i64 (x142 + 1))) Z rfl
 refine L_stE1 (u:=I (i64 (x142 + 1))) rfl Tryz.sizeOf3 rfl rfl rfl hv149 Z hx142 (fun w152 Z=>?_)
 refine nn ?_
 obtain rfl:=so hB67
 show ∃ m,m < _∧I67 m _ _
 refine ⟨n67,Nat.lt_succ_self _,?_⟩
 exact ij hI67 ⟨(cells_96.set (Int.toNat i_97) (i64 (x142 + 1))),g22_0_69,H98,hL67,(Le.trans l66 l99),sf0,sf2,sf6,Z⟩
 have hB67:=(ite_f hc94).symm.trans hB67
 refine W_exit ?_
 obtain rfl:=so hB67
 obtain rfl:=so hL67
 have Z:=Z.get 1 rfl
 exact rj hR67 ⟨cells_63,g22_0_69,H65,rfl,l66,(Star.keepN 1 Z)⟩
 intro f w_ hR
 obtain ⟨cells_63,g22_0_64,H65,rfl,l66,Z⟩:=rk hR67 hR
 obtain rfl:=so hA44
 refine end0 Tryz.results57 ?_
 show R44 _ _
 rw [hR44]
 exact ⟨H65,rfl,l66,Z⟩
 intro v_44 w_ hR
 rw [hR44] at hR
 obtain ⟨H42,hvr44,l43,Z⟩:=hR
 obtain rfl:=hvr44.symm
 clear hR44
 refine L_nil (sq (ldB 0 Z Tryz.isAgg3 ((hS33 3 rfl).trans rfl) rfl rfl (aI rfl (nn (W_ret (retG1 (v1:=I g22_0_29) Tryz.results17 rfl ?_))))))
 obtain rfl:=so hF
 exact ⟨rfl,(Star.down (Star.keepN 0 Z) (Le.trans hE33 l43) c0)⟩
theorem i_CellsValid_c {m : Model} {cells : List Int} {v0_0 : Value} {v0_1 : Value} {v1 : Value} {H : FH} {w : World} (Z : Star H w []) (h0_0 : (rS 3 RP.int).rel H [v0_0] m.sizes) (h0_1 : (rS 79 (rRule 3 23)).rel H [v0_1] m.rules) (h1 : (rS 3 RP.int).rel H [v1] cells) {r : Bool} (hF : i_CellsValid m cells = some r) :
 C Tryz.prog 60 #[.agg #[v0_0,v0_1],v1] w fun v w'=>v = Bo r∧Star H w' []:=by
 unfold i_CellsValid at hF
 refine C_enter Tryz.func60 rfl Tryz.ntmps60 rfl (sq (L_box (v:=.agg #[v0_0,v0_1]) (cs:=#[v0_0,v0_1]) rfl rfl rfl Z (fun g3 w4 Z=>aB rfl (nq (W_seq ?_)))))
 obtain ⟨x10,hx10,hF⟩:=bind_some hF
 obtain ⟨R12,hR12⟩:=exR fun f w_=>f 1 = v1∧f 2 = Pt g3∧f 17 = Bo ((!x10) || ((cells.length : Int) != (m.sizes.length : Int)))∧Star H w_ ([box g3 26 #[v0_0,v0_1]])
 refine W_join R12 ?_ ?_
 refine W_region (L_lda (cs:=[v0_0,v0_1]) rfl Tryz.isAgg26 Tryz.sizeOf26 rfl (At.sub0 (Blk.at (Star.blkAt 0 Z rfl)) 0 2) rfl ?_)
 obtain ⟨H13b,l14,s15,z16,k17⟩:=Z.borrow
 refine L_call rfl Tryz.call46 (ops1 rfl) (i_ModelValid_c (m:=m) s15 (RP.mono _ h0_0 l14) (RP.mono _ h0_1 l14) hx10) ?_
 rintro _ w18 ⟨rfl,Z⟩
 have Z:=k17 Z c0
 refine L_not_ rfl rfl (mB rfl (L_split (d:=10) (b:=(!x10)) rfl (fun hc19=>?_) (fun hc19=>?_)))
 refine ps rfl (ps rfl (ps rfl (ps rfl (ps rfl (ps rfl (L_pick (v:=Bo ((!x10) || ((cells.length : Int) != (m.sizes.length : Int)))) rfl rfl (or_t hc19) (nn (rj hR12 ⟨rfl,rfl,rfl,Z⟩))))))))
 refine mV v1 rfl (L_len rfl Tryz.underlying23 rfl (slice_len h1) (fA 0 fa_26_0 rfl rfl (ldB 0 Z Tryz.isAgg23 rfl rfl rfl (L_len rfl Tryz.underlying23 rfl (slice_len h0_0) (L_neq rfl rfl rfl (L_pick (v:=Bo ((!x10) || ((cells.length : Int) != (m.sizes.length : Int)))) rfl rfl (or_f hc19 rfl) (nn (rj hR12 ⟨rfl,rfl,rfl,Z⟩))))))))
 intro f w_ hR
 obtain ⟨sf1,sf2,sf17,Z⟩:=rk hR12 hR
 refine W_cond (b:=((!x10) || ((cells.length : Int) != (m.sizes.length : Int)))) sf17 (fun hc20=>?_) (fun hc20=>?_)
 have hF:=(ite_t hc20).symm.trans hF
 refine sq (aB rfl (nn (W_ret (retG1 (v1:=Bo false) Tryz.results60 rfl ?_))))
 obtain rfl:=so hF
 exact ⟨rfl,(Star.keepN 0 Z)⟩
 have hF:=(ite_f hc20).symm.trans hF
 refine W_skip (W_seq (sq (mF sf1 rfl (L_len rfl Tryz.underlying23 rfl (slice_len h1) (mI rfl (nn ?_))))))
 have hlen22 : List.length cells≤9223372036854775807:=len_le (slice_len h1)
 obtain ⟨j22,hL22,hF⟩:=bind_some hF
 obtain ⟨R22,hR22⟩:=exR fun f w_=>j22 = .nx ()∧Star H w_ ([])
 refine W_join R22 ?_ ?_
 refine W_block ?_
 obtain ⟨I22,hI22⟩:=exI fun n f w_=>∃ i_21 : Nat,∃ suf22 : List Int,n = suf22.length∧List.drop i_21 cells = suf22∧i_21 + suf22.length = cells.length∧rangeL (i_CellsValid_b1 m) suf22 i_21 () = some j22∧f 2 = Pt g3∧f 18 = v1∧f 19 = I (cells.length : Int)∧f 20 = I i_21∧Star H w_ ([box g3 26 #[v0_0,v0_1]])
 refine W_loop I22 (n:=cells.length) ?_ ?_
 exact ij hI22 ⟨0,cells,rfl,rfl,Nat.zero_add _,hL22,sf2,rfl,rfl,rfl,Z⟩
 intro n22 f w_ hI
 obtain ⟨i_21,suf22,rfl,hd22,hl22,hL22,sf2,sf18,sf19,sf20,Z⟩:=ik hI22 hI
 refine sq (L_lss rfl sf20 sf19 (nq (W_cond (b:=decide ((i_21 : Int) < (cells.length : Int))) rfl (fun hc23=>?_) (fun hc23=>?_))))
 have hlt22:=of_decide_eq_true hc23
 rcases suf22 with _ | ⟨x_22,rest22⟩
 exact absurd hlt22 (by simp at hl22; omega)
 obtain ⟨o22,hB22,hL22⟩:=range_cons hL22
 rw [i_CellsValid_b1] at hB22
 have hix22:=drop_idx hd22
 refine W_skip (W_seq (W_block (sq (mF sf20 rfl (L_ix (r:=RP.int) rfl Tryz.underlying23 Tryz.sizeOf3 sf18 h1 sf20 hix22 (fun g28 o29 cs_g28 hrk_hat30 hat30=>?_))))))
 obtain rfl : _ = [_]:=hrk_hat30
 refine L_ld rfl Tryz.isAgg3 rfl (At.cell (AtH.at hat30 Z.sub) (j:=0) rfl) (aI rfl (aI rfl (nq ?_)))
 obtain ⟨x32,hx32,hB22⟩:=bind_some hB22
 obtain ⟨x42,hx42,hB22⟩:=bind_some hB22
 refine W_region (mI rfl (fA 0 fa_26_0 sf2 rfl (ldB 0 Z Tryz.isAgg23 rfl rfl rfl (mI rfl (L_ix (r:=RP.int) rfl Tryz.underlying23 Tryz.sizeOf3 rfl h0_0 rfl hx32 (fun g44 o45 cs_g44 hrk_hat46 hat46=>?_))))))
 obtain rfl : _ = [_]:=hrk_hat46
 refine L_ld rfl Tryz.isAgg3 rfl (At.cell (AtH.at hat46 Z.sub) (j:=0) rfl) ?_
 obtain ⟨H48b,l49,s50,z51,k52⟩:=Z.borrow
 refine L_call rfl Tryz.call92 (ops3 rfl rfl rfl) (i_within_c (n_:=x_22) (low:=0) (high:=x32) s50 hx42) ?_
 rintro _ w53 ⟨rfl,Z⟩
 have Z:=k52 Z c0
 refine L_not_ rfl rfl (nn (W_cond (b:=(!x42)) rfl (fun hc54=>?_) (fun hc54=>?_)))
 have hB22:=(ite_t hc54).symm.trans hB22
 refine sq (aB rfl (nn (W_ret (retG1 (v1:=Bo false) Tryz.results60 rfl ?_))))
 obtain rfl:=so hB22
 obtain rfl:=so hL22
 obtain rfl:=so hF
 exact ⟨rfl,(Star.keepN 0 Z)⟩
 have hB22:=(ite_f hc54).symm.trans hB22
 refine W_skip (W_region (L_add rfl sf20 rfl (mI rfl (nn ?_))))
 obtain rfl:=so hB22
 show ∃ m,m < _∧I22 m _ _
 refine ⟨rest22.length,by simp,?_⟩
 exact ij hI22 ⟨i_21 + 1,rest22,rfl,drop_next hd22,by simp at hl22; omega,hL22,sf2,sf18,sf19,(Eq.trans rfl (congrArg (Value.int .i64) (i64_succ (n:=cells.length) (by simp at hl22; omega) hlen22))),Z⟩
 rcases suf22 with _ | ⟨_,_⟩
 obtain rfl:=range_nil hL22
 refine W_exit (rj hR22 ⟨rfl,(Star.keepN 0 Z)⟩)
 exact absurd (of_decide_eq_false hc23) (by simp at hl22; omega)
 intro f w_ hR
 obtain ⟨rfl,Z⟩:=rk hR22 hR
 refine sq (aB rfl (nn (W_ret (retG1 (v1:=Bo true) Tryz.results60 rfl ?_))))
 obtain rfl:=so hF
 exact ⟨rfl,Z⟩
theorem i_NextModel_c {fu : Nat} {m : Model} {cells : List Int} {v0_0 : Value} {v0_1 : Value} {v1 : Value} {H : FH} {w : World} (Z : Star H w []) (h0_0 : (rS 3 RP.int).rel H [v0_0] m.sizes) (h0_1 : (rS 79 (rRule 3 23)).rel H [v0_1] m.rules) (h1 : (rS 3 RP.int).rel H [v1] cells) {r : (List Int) × Bool} (hF : i_NextModel fu m cells = some r) :
 C Tryz.prog 18 #[.agg #[v0_0,v0_1],v1] w fun v w'=>∃ (u1 : Value),v = .tuple #[u1,Bo r.2]∧Star H w' [oF 3 RP.int u1 r.1]:=by
 unfold i_NextModel at hF
 refine C_enter Tryz.func18 rfl Tryz.ntmps18 rfl (sq (L_box (v:=.agg #[v0_0,v0_1]) (cs:=#[v0_0,v0_1]) rfl rfl rfl Z (fun g3 w4 Z=>aV S0 rfl (aB rfl (nq (W_seq ?_))))))
 obtain ⟨x10,hx10,hF⟩:=bind_some hF
 refine W_region (L_lda (cs:=[v0_0,v0_1]) rfl Tryz.isAgg26 Tryz.sizeOf26 rfl (At.sub0 (Blk.at (Star.blkAt 0 Z rfl)) 0 2) rfl (mV v1 rfl ?_))
 obtain ⟨H12b,l13,s14,z15,k16⟩:=Z.borrow
 refine L_call rfl Tryz.call60 (ops2 rfl rfl) (i_CellsValid_c (m:=m) (cells:=cells) s14 (RP.mono _ h0_0 l13) (RP.mono _ h0_1 l13) (RP.mono _ h1 l13) hx10) ?_
 rintro _ w17 ⟨rfl,Z⟩
 have Z:=k16 Z c0
 refine L_not_ rfl rfl (nn (W_cond (b:=(!x10)) rfl (fun hc18=>?_) (fun hc18=>?_)))
 have hF:=(ite_t hc18).symm.trans hF
 refine sq (aV S0 rfl (aB rfl (nn (W_ret (retG2 (v1:=S0) (v2:=Bo false) Tryz.results18 rfl rfl ?_)))))
 obtain rfl:=so hF
 have Z:=Star.addNil (R:=(OR.frz RP.int)) (e:=3) Z
 exact ⟨S0,rfl,(Star.keepN 1 Z)⟩
 have hF:=(ite_f hc18).symm.trans hF
 refine W_skip (sq (L_al (cs:=#[S0]) rfl Tryz.zeroValue23 rfl Z (fun g22 w23 Z=>nq ?_)))
 obtain ⟨g22_0_24,hI29,hF⟩:=bind_some hF
 refine W_region (fA 0 fa_26_0 rfl rfl (ldB 1 Z Tryz.isAgg23 rfl rfl rfl (mV v1 rfl (L_mf rfl (ops2 rfl rfl) ?_))))
 obtain ⟨R35,hR35⟩ : ∃ RV_ : Value→World→Prop,RV_ = fun v w_=>∃ H33 : FH,∃ v30_g22_0 : Value,v = .tuple #[]∧Le H H33∧isNilS v30_g22_0 = List.isEmpty g22_0_24∧Star H33 w_ ([oF 3 RP.int v30_g22_0 g22_0_24,box g22 23 #[v30_g22_0]]):=⟨_,rfl⟩
 refine L_call (args:=#[v0_0,v1,.func (.func 61) #[] #[Pt g3,Pt g22]]) (R:=R35) rfl Tryz.call57 (ops3 rfl rfl rfl) ?_ ?_
 refine C_enter Tryz.func57 rfl Tryz.ntmps57 rfl ?_
 have hA35:=hI29
 unfold i_NextModel_i1 at hA35
 refine W_seq ?_
 obtain ⟨x41,hx41,hA35⟩:=bind_some hA35
 obtain ⟨q44,hq44,hA35⟩:=bind_some hA35
 refine W_region (mV v1 rfl ?_)
 obtain ⟨H45b,l46,s47,z48,k49⟩:=Z.borrow
 refine L_call rfl Tryz.call62 (ops1 rfl) (slices_Clone_int_c (s:=cells) s47 (RP.mono _ h1 l46) hx41) ?_
 rintro r50_0 w50 ⟨_,rfl,Z⟩
 have Z:=k49 Z (co closed_int c0)
 have hst50:=strict_ne 0 Z rfl hq44
 refine aV r50_0 rfl (nn ?_)
 obtain ⟨j59,hL59,hA35⟩:=bind_some hA35
 obtain ⟨R59,hR59⟩:=exR fun f w_=>∃ cells_53 : List Int,∃ g22_0_54 : List Int,∃ H57 : FH,∃ v54_g22_0 : Value,j59 = .nx (cells_53,g22_0_54)∧Le H H57∧isNilS v54_g22_0 = List.isEmpty g22_0_54∧Star H57 w_ ([oF 3 RP.int v54_g22_0 g22_0_54,box g22 23 #[v54_g22_0]])
 refine W_join R59 ?_ ?_
 refine W_block ?_
 obtain ⟨I59,hI59⟩:=exI fun n f w_=>∃ cells_53 : List Int,∃ g22_0_54 : List Int,∃ H57 : FH,∃ v54_g22_0 : Value,whileL (i_NextModel_b2 fu m) n (cells_53,g22_0_54) = some j59∧Le H H57∧f 0 = v0_0∧f 2 = .func (.func 61) #[] #[Pt g3,Pt g22]∧f 6 = r50_0∧isNilS v54_g22_0 = List.isEmpty g22_0_54∧Star H57 w_ ([oF 3 RP.int r50_0 cells_53,oF 3 RP.int v54_g22_0 g22_0_54,box g22 23 #[v54_g22_0],box g3 26 #[v0_0,v0_1]])
 have Z:=Star.addNil (R:=(OR.frz RP.int)) (e:=3) Z
 have Z:=Z.gets [3,3,2,3] rfl
 refine W_loop I59 (n:=fu) ?_ ?_
 exact ij hI59 ⟨x41,[],H,S0,hL59,(Le.refl _),rfl,rfl,rfl,rfl,Z⟩
 intro n59 f w_ hI
 obtain ⟨cells_53,g22_0_54,H57,v54_g22_0,hL59,l58,sf0,sf2,sf6,hst56,Z⟩:=ik hI59 hI
 rcases n59 with _ | n59
 exact (while_zero hL59).elim
 obtain ⟨o59,hB59,hL59⟩:=while_succ hL59
 rw [i_NextModel_b2] at hB59
 refine W_seq (W_seq ?_)
 obtain ⟨⟨ret0_61,g22_0_62⟩,hI65,hB59⟩:=bind_some hB59
 refine W_region (mF sf2 rfl (mF sf6 rfl ?_))
 obtain ⟨R70,hR70⟩ : ∃ RV_ : Value→World→Prop,RV_ = fun v w_=>∃ v67_g22_0 : Value,v = Bo ret0_61∧isNilS v67_g22_0 = List.isEmpty g22_0_62∧Star H57 w_ ([oF 3 RP.int r50_0 cells_53,oF 3 RP.int v67_g22_0 g22_0_62,box g22 23 #[v67_g22_0],box g3 26 #[v0_0,v0_1]]):=⟨_,rfl⟩
 refine L_callv (args:=#[r50_0]) (R:=R70) rfl Tryz.call61 rfl (ops1 rfl) ?_ ?_
 show C _ _ #[r50_0,Pt g3,Pt g22] _ _
 refine C_enter Tryz.func61 rfl Tryz.ntmps61 rfl ?_
 have hA70:=hI65
 unfold i_NextModel_i3 at hA70
 refine sq (aB rfl (nq (W_seq ?_)))
 obtain ⟨x77,hx77,hA70⟩:=bind_some hA70
 refine W_region (L_lda (cs:=[v0_0,v0_1]) rfl Tryz.isAgg26 Tryz.sizeOf26 rfl (At.sub0 (Blk.at (Star.blkAt 3 Z rfl)) 0 2) rfl (mV r50_0 rfl ?_))
 obtain ⟨H79b,l80,s81,z82,k83⟩:=Z.borrow
 have hb84 : (rS 3 RP.int).rel H79b [r50_0] cells_53:=fz_own 0 z82 rfl
 refine L_call rfl Tryz.call59 (ops2 rfl rfl) (i_Model_solves_c (m:=m) (cells:=cells_53) s81 (RP.mono _ h0_0 (Le.trans l58 l80)) (RP.mono _ h0_1 (Le.trans l58 l80)) hb84 hx77) ?_
 rintro _ w85 ⟨rfl,Z⟩
 have Z:=k83 Z c0
 refine nn ?_
 obtain ⟨g22_0_86,hA89,hA70⟩:=bind_some hA70
 obtain ⟨R89,hR89⟩:=exR fun f w_=>∃ v86_g22_0 : Value,f 2 = Pt g22∧isNilS v86_g22_0 = List.isEmpty g22_0_86∧Star H57 w_ ([oF 3 RP.int r50_0 cells_53,oF 3 RP.int v86_g22_0 g22_0_86,box g22 23 #[v86_g22_0],box g3 26 #[v0_0,v0_1]])
 refine W_join R89 ?_ ?_
 refine W_cond (b:=x77) rfl (fun hc90=>?_) (fun hc90=>?_)
 have hA89:=(ite_t hc90).symm.trans hA89
 obtain ⟨x97,hx97,hA89⟩:=bind_some hA89
 obtain ⟨q100,hq100,hA89⟩:=bind_some hA89
 refine W_region (mV r50_0 rfl ?_)
 obtain ⟨H102b,l103,s104,z105,k106⟩:=Z.borrow
 have hb107 : (rS 3 RP.int).rel H102b [r50_0] cells_53:=fz_own 0 z105 rfl
 refine L_call rfl Tryz.call62 (ops1 rfl) (slices_Clone_int_c (s:=cells_53) s104 hb107 hx97) ?_
 rintro r108_0 w108 ⟨_,rfl,Z⟩
 have Z:=k106 Z (co closed_int c0)
 have hst108:=strict_ne 0 Z rfl hq100
 refine L_stB (v:=r108_0) (cs2:=#[r108_0]) 3 rfl Tryz.sizeOf23 rfl rfl (one_len (Star.len 0 Z rfl)) Z rfl rfl rfl (fun w110 Z=>nn ?_)
 obtain rfl:=so hA89
 have Z:=Z.gets [4,1,2,3] rfl
 exact rj hR89 ⟨r108_0,rfl,hst108,(Star.keepN 4 Z)⟩
 have hA89:=(ite_f hc90).symm.trans hA89
 refine W_skip ?_
 obtain rfl:=so hA89
 exact rj hR89 ⟨v54_g22_0,rfl,hst56,Z⟩
 intro f w_ hR
 obtain ⟨v86_g22_0,sf2,hst88,Z⟩:=rk hR89 hR
 refine sq (ldB 2 Z Tryz.isAgg23 sf2 rfl rfl ?_)
 obtain ⟨a111,cap111,hsl111,_,_⟩:=(Star.len 1 Z rfl)
 refine L_nileq (a:=a111) rfl Tryz.underlying23 (Eq.trans rfl hsl111) rfl ?_
 rw [← hsl111]
 rw [hst88]
 refine aB rfl (nn (W_ret (retG1 (v1:=Bo (List.isEmpty g22_0_86)) Tryz.results61 rfl ?_)))
 obtain ⟨rfl,rfl⟩:=so2 hA70
 show R70 _ _
 rw [hR70]
 exact ⟨v86_g22_0,rfl,hst88,Z⟩
 intro v_70 w_ hR
 rw [hR70] at hR
 obtain ⟨v67_g22_0,hvr70,hst69,Z⟩:=hR
 obtain rfl:=hvr70.symm
 clear hR70
 refine nn (W_cond (b:=ret0_61) rfl (fun hc112=>?_) (fun hc112=>?_))
 have hB59:=(ite_t hc112).symm.trans hB59
 refine W_skip (W_block (sq (mF sf6 rfl (L_len rfl Tryz.underlying23 rfl (Star.len 0 Z rfl) (L_sub rfl rfl rfl (aI rfl (nq ?_)))))))
 obtain ⟨j118,hL118,hB59⟩:=bind_some hB59
 obtain ⟨R118,hR118⟩:=exR fun f w_=>∃ cells_114 : List Int,∃ i_115 : Int,∃ H116 : FH,j118 = .nx (cells_114,i_115)∧Le H57 H116∧f 0 = v0_0∧f 2 = .func (.func 61) #[] #[Pt g3,Pt g22]∧f 6 = r50_0∧f 7 = I i_115∧Star H116 w_ ([oF 3 RP.int r50_0 cells_114,oF 3 RP.int v67_g22_0 g22_0_62,box g22 23 #[v67_g22_0],box g3 26 #[v0_0,v0_1]])
 refine W_join R118 ?_ ?_
 refine W_block ?_
 obtain ⟨I118,hI118⟩:=exI fun n f w_=>∃ cells_114 : List Int,∃ i_115 : Int,∃ H116 : FH,whileL (i_NextModel_b4 m) n (cells_114,i_115) = some j118∧Le H57 H116∧f 0 = v0_0∧f 2 = .func (.func 61) #[] #[Pt g3,Pt g22]∧f 6 = r50_0∧f 7 = I i_115∧Star H116 w_ ([oF 3 RP.int r50_0 cells_114,oF 3 RP.int v67_g22_0 g22_0_62,box g22 23 #[v67_g22_0],box g3 26 #[v0_0,v0_1]])
 refine W_loop I118 (n:=fu) ?_ ?_
 exact ij hI118 ⟨cells_53,i64 ((cells_53.length : Int) - 1),H57,hL118,(Le.refl _),sf0,sf2,sf6,rfl,Z⟩
 intro n118 f w_ hI
 obtain ⟨cells_114,i_115,H116,hL118,l117,sf0,sf2,sf6,sf7,Z⟩:=ik hI118 hI
 rcases n118 with _ | n118
 exact (while_zero hL118).elim
 obtain ⟨o118,hB118,hL118⟩:=while_succ hL118
 rw [i_NextModel_b4] at hB118
 refine W_seq (W_seq ?_)
 obtain ⟨b129,hb129,hB118⟩:=bind_some hB118
 obtain ⟨R133,hR133⟩:=exR fun f w_=>∃ H131 : FH,Le H116 H131∧f 0 = v0_0∧f 2 = .func (.func 61) #[] #[Pt g3,Pt g22]∧f 6 = r50_0∧f 7 = I i_115∧f 28 = Bo b129∧Star H131 w_ ([oF 3 RP.int r50_0 cells_114,oF 3 RP.int v67_g22_0 g22_0_62,box g22 23 #[v67_g22_0],box g3 26 #[v0_0,v0_1]])
 refine W_join R133 ?_ ?_
 rcases Bool.eq_false_or_eq_true (decide (i_115 ≥ 0)) with hc134 | hc134
 rw [ite_t hc134] at hb129
 obtain ⟨x119,hx119,hb129⟩:=bind_some hb129
 obtain ⟨x124,hx124,hb129⟩:=bind_some hb129
 obtain ⟨g135,cap_g135,hv136,_,_⟩:=Star.row 0 Z rfl hx119
 refine W_drawS 11 [isV (I i_115),isV (Bo (decide (i_115 ≥ 0))),isV (Bo (decide (i_115 ≥ 0))),isV (r50_0),isV (I i_115),isV (.pointer (some ⟨g135,Int.toNat i_115 * 1,none⟩)),isV (I x119),isV (v0_0),isV (I i_115),isEl RP.int x124 0,isV (I x124)] [oF 3 RP.int r50_0 cells_114,oF 3 RP.int v67_g22_0 g22_0_62,box g22 23 #[v67_g22_0],box g3 26 #[v0_0,v0_1]] [] ([]) [([],[]),([],[]),([],[]),([],[]),([],[]),([],[]),([],[]),([],[]),([],[]),([],[]),([],[])] (S:=[]) Tryz_mix (by kernel_rfl) rfl (by kernel_rfl) (amF_cons (mono_V _) (amF_cons (mono_V _) (amF_cons (mono_V _) (amF_cons (mono_V _) (amF_cons (mono_V _) (amF_cons (mono_V _) (amF_cons (mono_V _) (amF_cons (mono_V _) (amF_cons (mono_V _) (amF_cons (mono_el _ _ _) (amF_cons (mono_V _) amF_nil))))))))))) Z ?_ (fun f w_ H130 hS130 hE130 hT130 Z=>?_)
 refine opsS_cons (fun f w_ _ _ s _ _ Z=>mF ((s 7 rfl).trans sf7) rfl (nO rfl rfl Z)) (opsS_cons (fun f w_ _ _ _ _ p Z=>L_geq rfl (p 0 16 rfl rfl) rfl (nO rfl rfl Z)) (opsS_cons (fun f w_ _ _ _ _ p Z=>mF (p 1 17 rfl rfl) rfl (nO rfl rfl Z)) (opsS_cons (fun f w_ _ _ s _ p Z=>L_mv (v:=r50_0) (g_yes rfl (Eq.trans (p 2 18 rfl rfl) (congrArg Value.bool hc134)) rfl) ((s 6 rfl).trans sf6) (nO rfl rfl Z)) (opsS_cons (fun f w_ _ _ s _ p Z=>L_mv (v:=I i_115) (g_yes rfl (Eq.trans (p 2 18 rfl rfl) (congrArg Value.bool hc134)) rfl) ((s 7 rfl).trans sf7) (nO rfl rfl Z)) (opsS_cons (fun f w_ _ _ _ _ p Z=>L_ixO (R:=(OR.frz RP.int)) (tb:=0) 0 (g_yes rfl (Eq.trans (p 2 18 rfl rfl) (congrArg Value.bool hc134)) rfl) Tryz.underlying23 Tryz.sizeOf3 (p 3 19 rfl rfl) hv136 (by first | rfl | simp) (p 4 20 rfl rfl) hx119 (nO rfl rfl Z)) (opsS_cons ?_ ?_))))))
 intro f w_ H130 X130 hS130 hE130 hP130 Z
 obtain ⟨cs143,hr143,hat143⟩:=Star.eltF 0 Z rfl hv136 hx119
 obtain rfl : _ = [_]:=hr143
 refine L_ld (v:=I x119) (g_yes rfl (Eq.trans (hP130 2 18 rfl rfl) (congrArg Value.bool hc134)) rfl) Tryz.isAgg3 (hP130 5 21 rfl rfl) (At.cell hat143 (j:=0) rfl) (L_nil ⟨rfl,_,_,rfl,Le.refl _,fun _ _=>rfl,Z⟩)
 refine opsS_cons (fun f w_ _ _ s _ p Z=>L_mv (v:=v0_0) (g_yes rfl (Eq.trans (p 2 18 rfl rfl) (congrArg Value.bool hc134)) rfl) ((s 0 rfl).trans sf0) (nO rfl rfl Z)) (opsS_cons (fun f w_ _ _ s _ p Z=>L_mv (v:=I i_115) (g_yes rfl (Eq.trans (p 2 18 rfl rfl) (congrArg Value.bool hc134)) rfl) ((s 7 rfl).trans sf7) (nO rfl rfl Z)) (opsS_cons ?_ ?_))
 intro f w_ H130 X130 hS130 hE130 hP130 Z
 refine L_ix (r:=RP.int) (g_yes rfl (Eq.trans (hP130 2 18 rfl rfl) (congrArg Value.bool hc134)) rfl) Tryz.underlying23 Tryz.sizeOf3 (hP130 7 23 rfl rfl) (RP.mono _ h0_0 (Le.trans (Le.trans l58 l117) hE130)) (hP130 8 24 rfl rfl) hx124 (fun g145 o146 cs_g145 hrk_hat147 hat147=>?_)
 obtain rfl : _ = [_]:=hrk_hat147
 exact L_nil ⟨rfl,_,_,rfl,Le.refl _,fun _ _=>⟨_,_,_,rfl,rfl,hat147⟩,Z⟩
 refine opsS_cons ?_ ?_
 intro f w_ H130 X130 hS130 hE130 hP130 Z
 obtain ⟨g149,o149,cs149,hv149,hrk_hat149,hat149⟩:=(hP130 9 25 rfl rfl)
 obtain rfl : _ = [_]:=hrk_hat149
 refine L_ld (v:=I x124) (g_yes rfl (Eq.trans (hP130 2 18 rfl rfl) (congrArg Value.bool hc134)) rfl) Tryz.isAgg3 hv149 (At.cell (AtH.at hat149 Z.sub) (j:=0) rfl) (L_nil ⟨rfl,_,_,rfl,Le.refl _,fun _ _=>rfl,Z⟩)
 exact opsS_nil
 refine L_eql (g_yes rfl (Eq.trans (hT130 2 18 rfl rfl) (congrArg Value.bool hc134)) rfl) (hT130 6 22 rfl rfl) (hT130 10 26 rfl rfl) (L_pick (v:=Bo b129) rfl (Eq.trans (hT130 2 18 rfl rfl) (congrArg Value.bool hc134)) (congrArg Value.bool (so hb129)) (nn (rj hR133 ⟨H130,hE130,((hS130 0 rfl).trans sf0),((hS130 2 rfl).trans sf2),((hS130 6 rfl).trans sf6),((hS130 7 rfl).trans sf7),rfl,Z⟩)))
 rw [ite_f hc134] at hb129
 refine W_drawS 11 [isV (I i_115),isV (Bo (decide (i_115 ≥ 0))),isV (Bo (decide (i_115 ≥ 0))),isV (undef),isV (undef),isV (undef),isV (undef),isV (undef),isV (undef),isV (undef),isV (undef)] [oF 3 RP.int r50_0 cells_114,oF 3 RP.int v67_g22_0 g22_0_62,box g22 23 #[v67_g22_0],box g3 26 #[v0_0,v0_1]] [] ([]) [([],[]),([],[]),([],[]),([],[]),([],[]),([],[]),([],[]),([],[]),([],[]),([],[]),([],[])] (S:=[]) Tryz_mix (by kernel_rfl) rfl (by kernel_rfl) (amF_cons (mono_V _) (amF_cons (mono_V _) (amF_cons (mono_V _) (amF_cons (mono_V _) (amF_cons (mono_V _) (amF_cons (mono_V _) (amF_cons (mono_V _) (amF_cons (mono_V _) (amF_cons (mono_V _) (amF_cons (mono_V _) (amF_cons (mono_V _) amF_nil))))))))))) Z ?_ (fun f w_ H130 hS130 hE130 hT130 Z=>?_)
 refine opsS_cons (fun f w_ _ _ s _ _ Z=>mF ((s 7 rfl).trans sf7) rfl (nO rfl rfl Z)) (opsS_cons (fun f w_ _ _ _ _ p Z=>L_geq rfl (p 0 16 rfl rfl) rfl (nO rfl rfl Z)) (opsS_cons (fun f w_ _ _ _ _ p Z=>mF (p 1 17 rfl rfl) rfl (nO rfl rfl Z)) (oP (fun _ _ p=>gN (p 2 18 rfl rfl) hc134 rfl) (fun _=>rfl) (oP (fun _ _ p=>gN (p 2 18 rfl rfl) hc134 rfl) (fun _=>rfl) (oP (fun _ _ p=>gN (p 2 18 rfl rfl) hc134 rfl) (fun _=>rfl) (oP (fun _ _ p=>gN (p 2 18 rfl rfl) hc134 rfl) (fun _=>rfl) (oP (fun _ _ p=>gN (p 2 18 rfl rfl) hc134 rfl) (fun _=>rfl) (oP (fun _ _ p=>gN (p 2 18 rfl rfl) hc134 rfl) (fun _=>rfl) (oP (fun _ _ p=>gN (p 2 18 rfl rfl) hc134 rfl) (fun _=>rfl) (oP (fun _ _ p=>gN (p 2 18 rfl rfl) hc134 rfl) (fun _=>rfl) (opsS_nil)))))))))))
 refine ps (g_no rfl (Eq.trans (hT130 2 18 rfl rfl) (congrArg Value.bool hc134)) rfl rfl) (L_pick (v:=Bo b129) rfl (Eq.trans (hT130 2 18 rfl rfl) (congrArg Value.bool hc134)) (congrArg Value.bool (so hb129)) (nn (rj hR133 ⟨H130,hE130,((hS130 0 rfl).trans sf0),((hS130 2 rfl).trans sf2),((hS130 6 rfl).trans sf6),((hS130 7 rfl).trans sf7),rfl,Z⟩)))
 intro f w_ hR
 obtain ⟨H131,l132,sf0,sf2,sf6,sf7,sf28,Z⟩:=rk hR133 hR
 refine W_cond (b:=b129) sf28 (fun hc151=>?_) (fun hc151=>?_)
 have hB118:=(ite_t hc151).symm.trans hB118
 refine W_skip (W_block (W_seq ?_))
 obtain ⟨x152,hx152,hB118⟩:=bind_some hB118
 refine W_region (mF sf6 rfl (mF sf7 rfl ?_))
 obtain ⟨g156,cap_g156,hv157,_,_⟩:=Star.row 0 Z rfl hx152
 refine L_ixO (R:=(OR.frz RP.int)) (tb:=0) 0 rfl Tryz.underlying23 Tryz.sizeOf3 rfl hv157 (by first | rfl | simp) rfl hx152 ?_
 have Z:=Star.addF (r:=RP.int) (cs:=[I 0]) (x:=0) Z rfl
 refine L_stE1 (u:=I 0) rfl Tryz.sizeOf3 rfl rfl rfl hv157 Z hx152 (fun w158 Z=>?_)
 refine nn (W_region (mF sf7 rfl (L_sub rfl rfl rfl (aI rfl (nn ?_)))))
 obtain rfl:=so hB118
 show ∃ m,m < _∧I118 m _ _
 refine ⟨n118,Nat.lt_succ_self _,?_⟩
 exact ij hI118 ⟨(cells_114.set (Int.toNat i_115) 0),i64 (i_115 - 1),H131,hL118,(Le.trans l117 l132),sf0,sf2,sf6,rfl,Z⟩
 have hB118:=(ite_f hc151).symm.trans hB118
 refine W_exit ?_
 obtain rfl:=so hB118
 obtain rfl:=so hL118
 exact rj hR118 ⟨cells_114,i_115,H131,rfl,(Le.trans l117 l132),sf0,sf2,sf6,sf7,Z⟩
 intro f w_ hR
 obtain ⟨cells_114,i_115,H116,rfl,l117,sf0,sf2,sf6,sf7,Z⟩:=rk hR118 hR
 refine W_seq (sq (mF sf7 rfl (L_lss rfl rfl rfl (nn (W_cond (b:=decide (i_115 < 0)) rfl (fun hc159=>?_) (fun hc159=>?_))))))
 have hB59:=(ite_t hc159).symm.trans hB59
 refine W_ret (ret0 Tryz.results57 ?_)
 obtain rfl:=so hB59
 obtain rfl:=so hL59
 obtain rfl:=so hA35
 have Z:=Z.gets [2,2] rfl
 show R35 _ _
 rw [hR35]
 exact ⟨H116,v67_g22_0,rfl,(Le.trans l58 l117),hst69,(Star.keepN 2 Z)⟩
 have hB59:=(ite_f hc159).symm.trans hB59
 refine W_skip ?_
 obtain ⟨x160,hx160,hB59⟩:=bind_some hB59
 refine W_region (mF sf6 rfl (mF sf7 rfl ?_))
 obtain ⟨g166,cap_g166,hv167,_,_⟩:=Star.row 0 Z rfl hx160
 refine L_ixO (R:=(OR.frz RP.int)) (tb:=0) 0 rfl Tryz.underlying23 Tryz.sizeOf3 rfl hv167 (by first | rfl | simp) rfl hx160 ?_
 obtain ⟨cs168,hr168,hat168⟩:=Star.eltF 0 Z rfl hv167 hx160
 obtain rfl : _ = [_]:=hr168
 refine L_ld rfl Tryz.isAgg3 rfl (At.cell hat168 (j:=0) rfl) (L_add rfl rfl rfl (L_ixO (R:=(OR.frz RP.int)) (tb:=0) 0 rfl Tryz.underlying23 Tryz.sizeOf3 rfl hv167 (by first | rfl | simp) rfl hx160 ?_))
 have Z:=Star.addF (r:=RP.int) (cs:=[I (i64 (x160 + 1))]) (x:=(i64 (x160 + 1))) Z rfl
 refine L_stE1 (u:=I (i64 (x160 + 1))) rfl Tryz.sizeOf3 rfl rfl rfl hv167 Z hx160 (fun w170 Z=>?_)
 refine nn ?_
 obtain rfl:=so hB59
 show ∃ m,m < _∧I59 m _ _
 refine ⟨n59,Nat.lt_succ_self _,?_⟩
 exact ij hI59 ⟨(cells_114.set (Int.toNat i_115) (i64 (x160 + 1))),g22_0_62,H116,v67_g22_0,hL59,(Le.trans l58 l117),sf0,sf2,sf6,hst69,Z⟩
 have hB59:=(ite_f hc112).symm.trans hB59
 refine W_exit ?_
 obtain rfl:=so hB59
 obtain rfl:=so hL59
 have Z:=Z.gets [2,2] rfl
 exact rj hR59 ⟨cells_53,g22_0_62,H57,v67_g22_0,rfl,l58,hst69,(Star.keepN 2 Z)⟩
 intro f w_ hR
 obtain ⟨cells_53,g22_0_54,H57,v54_g22_0,rfl,l58,hst56,Z⟩:=rk hR59 hR
 obtain rfl:=so hA35
 refine end0 Tryz.results57 ?_
 show R35 _ _
 rw [hR35]
 exact ⟨H57,v54_g22_0,rfl,l58,hst56,Z⟩
 intro v_35 w_ hR
 rw [hR35] at hR
 obtain ⟨H33,v30_g22_0,hvr35,l34,hst32,Z⟩:=hR
 obtain rfl:=hvr35.symm
 clear hR35
 refine L_nil (W_seq (W_drawS 4 [isV (v30_g22_0),isV (v30_g22_0),isV (Bo (!(List.isEmpty g22_0_24))),isV (v30_g22_0)] [oF 3 RP.int v30_g22_0 g22_0_24,box g22 23 #[v30_g22_0]] [] ([]) [([],[]),([],[]),([],[]),([],[])] (S:=[]) Tryz_mix (by kernel_rfl) rfl (by kernel_rfl) (amF_cons (mono_V _) (amF_cons (mono_V _) (amF_cons (mono_V _) (amF_cons (mono_V _) amF_nil)))) Z ?_ (fun f w_ H171 hS171 hE171 hT171 Z=>?_)))
 refine opsS_cons (fun f w_ _ _ s _ _ Z=>ldB 1 Z Tryz.isAgg23 ((s 6 rfl).trans rfl) rfl rfl (nO rfl rfl Z)) (opsS_cons (fun f w_ _ _ s _ _ Z=>ldB 1 Z Tryz.isAgg23 ((s 6 rfl).trans rfl) rfl rfl (nO rfl rfl Z)) (opsS_cons ?_ ?_))
 intro f w_ H171 X171 hS171 hE171 hP171 Z
 obtain ⟨a173,cap173,hsl173,_,_⟩:=(Star.len 0 Z rfl)
 refine L_nilne (a:=a173) rfl Tryz.underlying23 (Eq.trans (hP171 1 17 rfl rfl) hsl173) rfl ?_
 rw [← hsl173]
 rw [hst32]
 exact L_nil ⟨rfl,_,_,rfl,Le.refl _,fun _ _=>rfl,Z⟩
 refine opsS_cons (fun f w_ _ _ _ _ p Z=>aF (p 0 16 rfl rfl) rfl (nO rfl rfl Z)) (opsS_nil)
 refine aF (hT171 2 18 rfl rfl) rfl (nn (W_ret (retG2 (v1:=v30_g22_0) (v2:=Bo (!(List.isEmpty g22_0_24))) Tryz.results18 (hT171 3 4 rfl rfl) rfl ?_)))
 obtain rfl:=so hF
 exact ⟨v30_g22_0,rfl,(Star.down (Star.keepN 1 Z) (Le.trans l34 hE171) (co closed_int c0))⟩
theorem i_EncodeCells_c {m : Model} {cells : List Int} {v0_0 : Value} {v0_1 : Value} {v1 : Value} {H : FH} {w : World} (Z : Star H w []) (h0_0 : (rS 3 RP.int).rel H [v0_0] m.sizes) (h0_1 : (rS 79 (rRule 3 23)).rel H [v0_1] m.rules) (h1 : (rS 3 RP.int).rel H [v1] cells) {r : (List Bool) × Bool} (hF : i_EncodeCells m cells = some r) :
 C Tryz.prog 19 #[.agg #[v0_0,v0_1],v1] w fun v w'=>∃ (u1 : Value),v = .tuple #[u1,Bo r.2]∧Star H w' [oF 4 RP.bool u1 r.1]:=by
 unfold i_EncodeCells at hF
 refine C_enter Tryz.func19 rfl Tryz.ntmps19 rfl (sq (L_box (v:=.agg #[v0_0,v0_1]) (cs:=#[v0_0,v0_1]) rfl rfl rfl Z (fun g3 w4 Z=>aV S0 rfl (aB rfl (nq (W_seq ?_))))))
 obtain ⟨x10,hx10,hF⟩:=bind_some hF
 refine W_region (L_lda (cs:=[v0_0,v0_1]) rfl Tryz.isAgg26 Tryz.sizeOf26 rfl (At.sub0 (Blk.at (Star.blkAt 0 Z rfl)) 0 2) rfl (mV v1 rfl ?_))
 obtain ⟨H12b,l13,s14,z15,k16⟩:=Z.borrow
 refine L_call rfl Tryz.call60 (ops2 rfl rfl) (i_CellsValid_c (m:=m) (cells:=cells) s14 (RP.mono _ h0_0 l13) (RP.mono _ h0_1 l13) (RP.mono _ h1 l13) hx10) ?_
 rintro _ w17 ⟨rfl,Z⟩
 have Z:=k16 Z c0
 refine L_not_ rfl rfl (nn (W_cond (b:=(!x10)) rfl (fun hc18=>?_) (fun hc18=>?_)))
 have hF:=(ite_t hc18).symm.trans hF
 refine sq (aV S0 rfl (aB rfl (nn (W_ret (retG2 (v1:=S0) (v2:=Bo false) Tryz.results19 rfl rfl ?_)))))
 obtain rfl:=so hF
 have Z:=Star.addNil (R:=(OR.frz RP.bool)) (e:=4) Z
 exact ⟨S0,rfl,(Star.keepN 1 Z)⟩
 have hF:=(ite_f hc18).symm.trans hF
 refine W_skip (W_seq ?_)
 obtain ⟨x20,hx20,hF⟩:=bind_some hF
 refine W_region (L_mk (R:=(OR.frz RP.bool)) (z0:=false) (zc:=[Bo false]) rfl et_37 (by kernel_rfl) (fun _ _=>⟨rfl,rfl⟩) rfl rfl hx20 Z (fun v24 w25 Z=>aV v24 rfl (nq (sq (mV v1 rfl (L_len rfl Tryz.underlying23 rfl (slice_len h1) (mI rfl (nn ?_))))))))
 have hlen29 : List.length cells≤9223372036854775807:=len_le (slice_len h1)
 obtain ⟨j29,hL29,hF⟩:=bind_some hF
 obtain ⟨R29,hR29⟩:=exR fun f w_=>∃ out_28 : List Bool,j29 = .nx out_28∧f 6 = v24∧Star H w_ ([oF 4 RP.bool v24 out_28])
 refine W_join R29 ?_ ?_
 refine W_block ?_
 obtain ⟨I29,hI29⟩:=exI fun n f w_=>∃ i_27 : Nat,∃ suf29 : List Int,∃ out_28 : List Bool,n = suf29.length∧List.drop i_27 cells = suf29∧i_27 + suf29.length = cells.length∧rangeL (i_EncodeCells_b1 m) suf29 i_27 out_28 = some j29∧f 2 = Pt g3∧f 6 = v24∧f 14 = v1∧f 15 = I (cells.length : Int)∧f 16 = I i_27∧Star H w_ ([oF 4 RP.bool v24 out_28,box g3 26 #[v0_0,v0_1]])
 refine W_loop I29 (n:=cells.length) ?_ ?_
 exact ij hI29 ⟨0,cells,x20,rfl,rfl,Nat.zero_add _,hL29,rfl,rfl,rfl,rfl,rfl,Z⟩
 intro n29 f w_ hI
 obtain ⟨i_27,suf29,out_28,rfl,hd29,hl29,hL29,sf2,sf6,sf14,sf15,sf16,Z⟩:=ik hI29 hI
 refine sq (L_lss rfl sf16 sf15 (nq (W_cond (b:=decide ((i_27 : Int) < (cells.length : Int))) rfl (fun hc30=>?_) (fun hc30=>?_))))
 have hlt29:=of_decide_eq_true hc30
 rcases suf29 with _ | ⟨x_29,rest29⟩
 exact absurd hlt29 (by simp at hl29; omega)
 obtain ⟨o29,hB29,hL29⟩:=range_cons hL29
 rw [i_EncodeCells_b1] at hB29
 have hix29:=drop_idx hd29
 refine W_skip (W_seq (W_block (sq (mF sf16 rfl (L_ix (r:=RP.int) rfl Tryz.underlying23 Tryz.sizeOf3 sf14 h1 sf16 hix29 (fun g35 o36 cs_g35 hrk_hat37 hat37=>?_))))))
 obtain rfl : _ = [_]:=hrk_hat37
 refine L_ld rfl Tryz.isAgg3 rfl (At.cell (AtH.at hat37 Z.sub) (j:=0) rfl) (aI rfl (aI rfl (nn ?_)))
 obtain ⟨x44,hx44,hB29⟩:=bind_some hB29
 obtain ⟨x46,hx46,hB29⟩:=bind_some hB29
 refine W_region (mF sf6 rfl (L_lda (cs:=[v0_0,v0_1]) rfl Tryz.isAgg26 Tryz.sizeOf26 sf2 (At.sub0 (Blk.at (Star.blkAt 1 Z rfl)) 0 2) rfl (mI rfl (mI rfl ?_))))
 obtain ⟨H50b,l51,s52,z53,k54⟩:=Z.borrow
 refine L_call rfl Tryz.call63 (ops3 rfl rfl rfl) (i_Model_boolVar_c (m:=m) (cell:=(i_27 : Int)) (value:=x_29) s52 (RP.mono _ h0_0 l51) (RP.mono _ h0_1 l51) hx44) ?_
 rintro _ w55 ⟨rfl,Z⟩
 have Z:=k54 Z c0
 refine L_sub rfl rfl rfl ?_
 obtain ⟨g56,cap_g56,hv57,_,_⟩:=Star.row 0 Z rfl hx46
 refine L_ixO (R:=(OR.frz RP.bool)) (tb:=0) 0 rfl Tryz.underlying37 Tryz.sizeOf4 rfl hv57 (by first | rfl | simp) rfl hx46 ?_
 have Z:=Star.addF (r:=RP.bool) (cs:=[Bo true]) (x:=true) Z rfl
 refine L_stE1 (u:=Bo true) rfl Tryz.sizeOf4 rfl rfl rfl hv57 Z hx46 (fun w58 Z=>?_)
 refine nn (W_region (L_add rfl sf16 rfl (mI rfl (nn ?_))))
 obtain rfl:=so hB29
 show ∃ m,m < _∧I29 m _ _
 refine ⟨rest29.length,by simp,?_⟩
 exact ij hI29 ⟨i_27 + 1,rest29,(out_28.set (Int.toNat (i64 (x44 - 1))) true),rfl,drop_next hd29,by simp at hl29; omega,hL29,sf2,sf6,sf14,sf15,(Eq.trans rfl (congrArg (Value.int .i64) (i64_succ (n:=cells.length) (by simp at hl29; omega) hlen29))),Z⟩
 rcases suf29 with _ | ⟨_,_⟩
 obtain rfl:=range_nil hL29
 refine W_exit (rj hR29 ⟨out_28,rfl,sf6,(Star.keepN 1 Z)⟩)
 exact absurd (of_decide_eq_false hc30) (by simp at hl29; omega)
 intro f w_ hR
 obtain ⟨out_28,rfl,sf6,Z⟩:=rk hR29 hR
 refine sq (mF sf6 rfl (aV v24 rfl (aB rfl (nn (W_ret (retG2 (v1:=v24) (v2:=Bo true) Tryz.results19 rfl rfl ?_))))))
 obtain rfl:=so hF
 exact ⟨v24,rfl,Z⟩
theorem i_ExtendsPartial_c {p : List Int} {values : List Bool} {v0 : Value} {v1 : Value} {H : FH} {w : World} (Z : Star H w []) (h0 : (rS 3 RP.int).rel H [v0] p) (h1 : (rS 4 RP.bool).rel H [v1] values) {r : Bool} (hF : i_ExtendsPartial p values = some r) :
 C Tryz.prog 20 #[v0,v1] w fun v w'=>v = Bo r∧Star H w' []:=by
 unfold i_ExtendsPartial at hF
 refine C_enter Tryz.func20 rfl Tryz.ntmps20 rfl (sq (aB rfl (nq (W_seq ?_))))
 obtain ⟨x6,hx6,hF⟩:=bind_some hF
 obtain ⟨R8,hR8⟩:=exR fun f w_=>f 0 = v0∧f 1 = v1∧f 14 = Bo ((!x6) || ((values.length : Int) != 12))∧Star H w_ ([])
 refine W_join R8 ?_ ?_
 refine W_region (mV v0 rfl ?_)
 obtain ⟨H9b,l10,s11,z12,k13⟩:=Z.borrow
 refine L_call rfl Tryz.call55 (ops1 rfl) (i_PartialValid_c (p:=p) s11 (RP.mono _ h0 l10) hx6) ?_
 rintro _ w14 ⟨rfl,Z⟩
 have Z:=k13 Z c0
 refine L_not_ rfl rfl (mB rfl (L_split (d:=10) (b:=(!x6)) rfl (fun hc15=>?_) (fun hc15=>?_)))
 refine ps rfl (ps rfl (ps rfl (L_pick (v:=Bo ((!x6) || ((values.length : Int) != 12))) rfl rfl (or_t hc15) (nn (rj hR8 ⟨rfl,rfl,rfl,Z⟩)))))
 refine mV v1 rfl (L_len rfl Tryz.underlying37 rfl (slice_len h1) (L_neq rfl rfl rfl (L_pick (v:=Bo ((!x6) || ((values.length : Int) != 12))) rfl rfl (or_f hc15 rfl) (nn (rj hR8 ⟨rfl,rfl,rfl,Z⟩)))))
 intro f w_ hR
 obtain ⟨sf0,sf1,sf14,Z⟩:=rk hR8 hR
 refine W_cond (b:=((!x6) || ((values.length : Int) != 12))) sf14 (fun hc16=>?_) (fun hc16=>?_)
 have hF:=(ite_t hc16).symm.trans hF
 refine sq (aB rfl (nn (W_ret (retG1 (v1:=Bo false) Tryz.results20 rfl ?_))))
 obtain rfl:=so hF
 exact ⟨rfl,Z⟩
 have hF:=(ite_f hc16).symm.trans hF
 refine W_skip (W_seq (sq (mF sf0 rfl (L_len rfl Tryz.underlying23 rfl (slice_len h0) (mI rfl (nn ?_))))))
 have hlen18 : List.length p≤9223372036854775807:=len_le (slice_len h0)
 obtain ⟨j18,hL18,hF⟩:=bind_some hF
 obtain ⟨R18,hR18⟩:=exR fun f w_=>j18 = .nx ()∧Star H w_ ([])
 refine W_join R18 ?_ ?_
 refine W_block ?_
 obtain ⟨I18,hI18⟩:=exI fun n f w_=>∃ i_17 : Nat,∃ suf18 : List Int,n = suf18.length∧List.drop i_17 p = suf18∧i_17 + suf18.length = p.length∧rangeL (i_ExtendsPartial_b1 values) suf18 i_17 () = some j18∧f 1 = v1∧f 15 = v0∧f 16 = I (p.length : Int)∧f 17 = I i_17∧Star H w_ ([])
 refine W_loop I18 (n:=p.length) ?_ ?_
 exact ij hI18 ⟨0,p,rfl,rfl,Nat.zero_add _,hL18,sf1,rfl,rfl,rfl,Z⟩
 intro n18 f w_ hI
 obtain ⟨i_17,suf18,rfl,hd18,hl18,hL18,sf1,sf15,sf16,sf17,Z⟩:=ik hI18 hI
 refine sq (L_lss rfl sf17 sf16 (nq (W_cond (b:=decide ((i_17 : Int) < (p.length : Int))) rfl (fun hc19=>?_) (fun hc19=>?_))))
 have hlt18:=of_decide_eq_true hc19
 rcases suf18 with _ | ⟨x_18,rest18⟩
 exact absurd hlt18 (by simp at hl18; omega)
 obtain ⟨o18,hB18,hL18⟩:=range_cons hL18
 rw [i_ExtendsPartial_b1] at hB18
 have hix18:=drop_idx hd18
 refine W_skip (W_seq (W_block (sq (mF sf17 rfl (L_ix (r:=RP.int) rfl Tryz.underlying23 Tryz.sizeOf3 sf15 h0 sf17 hix18 (fun g24 o25 cs_g24 hrk_hat26 hat26=>?_))))))
 obtain rfl : _ = [_]:=hrk_hat26
 refine L_ld rfl Tryz.isAgg3 rfl (At.cell (AtH.at hat26 Z.sub) (j:=0) rfl) (aI rfl (aI rfl (nq ?_)))
 obtain ⟨b33,hb33,hB18⟩:=bind_some hB18
 obtain ⟨R34,hR34⟩:=exR fun f w_=>f 1 = v1∧f 15 = v0∧f 16 = I (p.length : Int)∧f 17 = I i_17∧f 32 = Bo b33∧Star H w_ ([])
 refine W_join R34 ?_ ?_
 refine W_region (mI rfl (L_neq rfl rfl rfl (mB rfl (L_split (d:=24) (b:=(x_18 != 0)) rfl (fun hc35=>?_) (fun hc35=>?_)))))
 rw [ite_t hc35] at hb33
 obtain ⟨x28,hx28,hb33⟩:=bind_some hb33
 refine mF sf1 rfl (mI rfl (L_ix (r:=RP.bool) rfl Tryz.underlying37 Tryz.sizeOf4 rfl h1 rfl hx28 (fun g36 o37 cs_g36 hrk_hat38 hat38=>?_)))
 obtain rfl : _ = [_]:=hrk_hat38
 refine L_ld rfl Tryz.isAgg4 rfl (At.cell (AtH.at hat38 Z.sub) (j:=0) rfl) (mI rfl (L_gtr rfl rfl rfl (L_bneq (b:=x28) (c:=decide (x_18 > 0)) rfl Tryz.underlying4 rfl rfl (L_pick (v:=Bo b33) rfl rfl (congrArg Value.bool (so hb33)) (nn (rj hR34 ⟨sf1,sf15,sf16,sf17,rfl,Z⟩))))))
 rw [ite_f hc35] at hb33
 refine ps rfl (ps rfl (ps rfl (ps rfl (ps rfl (ps rfl (ps rfl (L_pick (v:=Bo b33) rfl rfl (congrArg Value.bool (so hb33)) (nn (rj hR34 ⟨sf1,sf15,sf16,sf17,rfl,Z⟩)))))))))
 intro f w_ hR
 obtain ⟨sf1,sf15,sf16,sf17,sf32,Z⟩:=rk hR34 hR
 refine W_cond (b:=b33) sf32 (fun hc40=>?_) (fun hc40=>?_)
 have hB18:=(ite_t hc40).symm.trans hB18
 refine sq (aB rfl (nn (W_ret (retG1 (v1:=Bo false) Tryz.results20 rfl ?_))))
 obtain rfl:=so hB18
 obtain rfl:=so hL18
 obtain rfl:=so hF
 exact ⟨rfl,Z⟩
 have hB18:=(ite_f hc40).symm.trans hB18
 refine W_skip (W_region (L_add rfl sf17 rfl (mI rfl (nn ?_))))
 obtain rfl:=so hB18
 show ∃ m,m < _∧I18 m _ _
 refine ⟨rest18.length,by simp,?_⟩
 exact ij hI18 ⟨i_17 + 1,rest18,rfl,drop_next hd18,by simp at hl18; omega,hL18,sf1,sf15,sf16,(Eq.trans rfl (congrArg (Value.int .i64) (i64_succ (n:=p.length) (by simp at hl18; omega) hlen18))),Z⟩
 rcases suf18 with _ | ⟨_,_⟩
 obtain rfl:=range_nil hL18
 refine W_exit (rj hR18 ⟨rfl,Z⟩)
 exact absurd (of_decide_eq_false hc19) (by simp at hl18; omega)
 intro f w_ hR
 obtain ⟨rfl,Z⟩:=rk hR18 hR
 refine sq (aB rfl (nn (W_ret (retG1 (v1:=Bo true) Tryz.results20 rfl ?_))))
 obtain rfl:=so hF
 exact ⟨rfl,Z⟩
theorem l_FnEncodeFilter_c {fu : Nat} {code : List UInt8} {v0 : Value} {H : FH} {w : World} (Z : Star H w []) (h0 : (rS 5 RP.u8).rel H [v0] code) {r : Bool} (hF : l_FnEncodeFilter fu code = some r) :
 C Tryz.prog 3 #[v0] w fun v w'=>v = Bo r∧Star H w' []:=by
 unfold l_FnEncodeFilter at hF
 refine C_enter Tryz.func3 rfl Tryz.ntmps3 rfl (sq (aB rfl (nq (sq (mV v0 rfl (L_len rfl Tryz.underlying22 rfl (slice_len h0) (L_gtr rfl rfl rfl (nn (W_cond (b:=decide ((code.length : Int) > 1048576)) rfl (fun hc1=>?_) (fun hc1=>?_))))))))))
 have hF:=(ite_t hc1).symm.trans hF
 refine sq (aB rfl (nn (W_ret (retG1 (v1:=Bo true) Tryz.results3 rfl ?_))))
 obtain rfl:=so hF
 exact ⟨rfl,Z⟩
 have hF:=(ite_f hc1).symm.trans hF
 refine W_skip (W_seq ?_)
 obtain ⟨hx2,hF⟩:=anyB_some hF
 refine W_region (mV v0 rfl (L_call rfl Tryz.call12 (ops1 rfl) (s_DrawEncodeModel_c (code:=code) Z h0 hx2) ?_))
 rintro _ w7 ⟨x2,gd7,H7,l7,r7_0,r7_1,rfl,hr7_0,hr7_1,Z⟩
 have hF:=hF x2 gd7
 refine L_al (cs:=#[S0,S0]) rfl Tryz.zeroValue26 rfl Z (fun g8 w9 Z=>L_staB (vs:=#[r7_0,r7_1]) (cs2:=#[r7_0,r7_1]) 0 rfl Tryz.sizeOf26 rfl rfl rfl (ones_cons (one_len (slice_len hr7_0)) (ones_cons (one_len (slice_len hr7_1)) ones_nil)) Z rfl (by show 0 + 2≤2; decide) rfl (fun w10 Z=>nq ?_))
 obtain ⟨x11,hx11,hF⟩:=bind_some hF
 refine W_region (L_lda (cs:=[r7_0,r7_1]) rfl Tryz.isAgg26 Tryz.sizeOf26 rfl (At.sub0 (Blk.at (Star.blkAt 0 Z rfl)) 0 2) rfl (L_call rfl Tryz.call13 (ops1 rfl) (i_EncodeModel_c (m:=x2) Z hr7_0 hr7_1 hx11) ?_))
 rintro _ w14 ⟨H14,l14,r14_0,rfl,Z⟩
 refine mV (.tuple #[r14_0,Bo x11.2]) rfl (L_ex (v:=r14_0) rfl rfl rfl (L_ex (v:=Bo x11.2) rfl rfl rfl (aV r14_0 rfl (aB rfl (nq ?_)))))
 obtain ⟨x21,hx21,hF⟩:=bind_some hF
 refine W_region (L_lda (cs:=[r7_0,r7_1]) rfl Tryz.isAgg26 Tryz.sizeOf26 rfl (At.sub0 (Blk.at (Star.blkAt 1 Z rfl)) 0 2) rfl ?_)
 obtain ⟨H24b,l25,s26,z27,k28⟩:=Z.borrow
 refine L_call rfl Tryz.call14 (ops1 rfl) (s_EncodeModel_c (m:=x2) s26 (RP.mono _ hr7_0 (Le.trans l14 l25)) (RP.mono _ hr7_1 (Le.trans l14 l25)) hx21) ?_
 rintro _ w29 ⟨r29_0,rfl,Z⟩
 have Z:=k28 Z (co closed_oCon c0)
 refine mV (.tuple #[r29_0,Bo x21.2]) rfl (L_ex (v:=r29_0) rfl rfl rfl (L_ex (v:=Bo x21.2) rfl rfl rfl (aV r29_0 rfl (aB rfl (nq (W_seq ?_))))))
 obtain ⟨b40,hb40,hF⟩:=bind_some hF
 obtain ⟨R41,hR41⟩:=exR fun f w_=>f 3 = Pt g8∧f 4 = r14_0∧f 5 = Bo x11.2∧f 6 = r29_0∧f 7 = Bo x21.2∧f 43 = Bo (b40 || (!x11.2))∧Star H14 w_ ([oF 73 (rCon 122) r14_0 x11.1,oS 73 (oCon 122) r29_0 x21.1,box g8 26 #[r7_0,r7_1]])
 refine W_join R41 ?_ ?_
 refine W_region (mB rfl (mB rfl (L_bneq (b:=x11.2) (c:=x21.2) rfl Tryz.underlying4 rfl rfl (mB rfl (L_split (d:=34) (b:=(x11.2 != x21.2)) rfl (fun hc42=>?_) (fun hc42=>?_))))))
 rw [ite_t hc42] at hb40
 refine ps rfl (ps rfl (ps rfl (ps rfl (L_pick (v:=Bo b40) rfl rfl (congrArg Value.bool (so hb40)) (mB rfl (L_split (d:=40) (b:=b40) rfl (fun hc43=>?_) (fun hc43=>?_)))))))
 refine ps rfl (ps rfl (L_pick (v:=Bo (b40 || (!x11.2))) rfl rfl (or_t hc43) (nn ?_)))
 have Z:=Z.gets [2,1,2] rfl
 exact rj hR41 ⟨rfl,rfl,rfl,rfl,rfl,rfl,Z⟩
 refine mB rfl (L_not_ rfl rfl (L_pick (v:=Bo (b40 || (!x11.2))) rfl rfl (or_f hc43 rfl) (nn ?_)))
 have Z:=Z.gets [2,1,2] rfl
 exact rj hR41 ⟨rfl,rfl,rfl,rfl,rfl,rfl,Z⟩
 rw [ite_f hc42] at hb40
 obtain ⟨x38,hx38,hb40⟩:=bind_some hb40
 refine mV r14_0 rfl (mV r29_0 rfl ?_)
 obtain ⟨H44b,l45,s46,z47,k48⟩:=Z.borrow
 have hb49 : (rS 73 (rCon 122)).rel H44b [r14_0] x11.1:=fz_own 1 z47 rfl
 have hb50 : (rS 73 (rCon 122)).rel H44b [r29_0] x21.1:=fz_own 0 z47 rfl
 refine L_call rfl Tryz.call15 (ops2 rfl rfl) (l_cpProblem_c (a:=x11.1) (b:=x21.1) s46 hb49 hb50 hx38) ?_
 rintro _ w51 ⟨rfl,Z⟩
 have Z:=k48 Z c0
 refine L_not_ rfl rfl (L_pick (v:=Bo b40) rfl rfl (congrArg Value.bool (so hb40)) (mB rfl (L_split (d:=40) (b:=b40) rfl (fun hc52=>?_) (fun hc52=>?_))))
 refine ps rfl (ps rfl (L_pick (v:=Bo (b40 || (!x11.2))) rfl rfl (or_t hc52) (nn ?_)))
 have Z:=Z.gets [2,1,2] rfl
 exact rj hR41 ⟨rfl,rfl,rfl,rfl,rfl,rfl,Z⟩
 refine mB rfl (L_not_ rfl rfl (L_pick (v:=Bo (b40 || (!x11.2))) rfl rfl (or_f hc52 rfl) (nn ?_)))
 have Z:=Z.gets [2,1,2] rfl
 exact rj hR41 ⟨rfl,rfl,rfl,rfl,rfl,rfl,Z⟩
 intro f w_ hR
 obtain ⟨sf3,sf4,sf5,sf6,sf7,sf43,Z⟩:=rk hR41 hR
 refine W_cond (b:=(b40 || (!x11.2))) sf43 (fun hc53=>?_) (fun hc53=>?_)
 have hF:=(ite_t hc53).symm.trans hF
 refine W_seq ?_
 obtain ⟨b63,hb63,hF⟩:=bind_some hF
 obtain ⟨R64,hR64⟩:=exR fun f w_=>f 2 = Bo b63∧Star H14 w_ ([])
 refine W_join R64 ?_ ?_
 refine W_region (mF sf5 rfl (mF sf7 rfl (L_beql (b:=x11.2) (c:=x21.2) rfl Tryz.underlying4 rfl rfl (mB rfl (L_split (d:=47) (b:=(x11.2 == x21.2)) rfl (fun hc65=>?_) (fun hc65=>?_))))))
 rw [ite_t hc65] at hb63
 obtain ⟨x61,hx61,hb63⟩:=bind_some hb63
 refine mF sf4 rfl (mF sf6 rfl ?_)
 obtain ⟨H66b,l67,s68,z69,k70⟩:=Z.borrow
 have hb71 : (rS 73 (rCon 122)).rel H66b [r14_0] x11.1:=fz_own 0 z69 rfl
 have hb72 : (rS 73 (rCon 122)).rel H66b [r29_0] x21.1:=fz_own 1 z69 rfl
 refine L_call rfl Tryz.call15 (ops2 rfl rfl) (l_cpProblem_c (a:=x11.1) (b:=x21.1) s68 hb71 hb72 hx61) ?_
 rintro _ w73 ⟨rfl,Z⟩
 have Z:=k70 Z c0
 refine L_pick (v:=Bo b63) rfl rfl (congrArg Value.bool (so hb63)) (aB rfl (nn (rj hR64 ⟨rfl,(Star.keepN 0 Z)⟩)))
 rw [ite_f hc65] at hb63
 refine ps rfl (ps rfl (ps rfl (L_pick (v:=Bo b63) rfl rfl (congrArg Value.bool (so hb63)) (aB rfl (nn (rj hR64 ⟨rfl,(Star.keepN 0 Z)⟩))))))
 intro f w_ hR
 obtain ⟨sf2,Z⟩:=rk hR64 hR
 refine W_ret (retG1 (v1:=Bo b63) Tryz.results3 sf2 ?_)
 obtain rfl:=so hF
 exact ⟨rfl,(Star.down Z (Le.trans l7 l14) c0)⟩
 have hF:=(ite_f hc53).symm.trans hF
 refine W_skip (W_seq ?_)
 obtain ⟨x74,hx74,hF⟩:=bind_some hF
 obtain ⟨x85,hx85,hF⟩:=bind_some hF
 refine W_region (mF sf4 rfl (L_mk (R:=(OR.frz RP.int)) (z0:=0) (zc:=[I 0]) rfl et_23 (by kernel_rfl) (fun _ _=>⟨rfl,rfl⟩) rfl rfl hx74 Z (fun v88 w89 Z=>?_)))
 obtain ⟨H91b,l92,s93,z94,k95⟩:=Z.borrow
 have hb96 : (rS 73 (rCon 122)).rel H91b [r14_0] x11.1:=fz_own 1 z94 rfl
 have hb97 : (rS 3 RP.int).rel H91b [v88] x74:=fz_own 0 z94 rfl
 refine L_call rfl Tryz.call16 (ops2 rfl rfl) (i_Propagate_c (list:=x11.1) (p:=x74) s93 hb96 hb97 hx85) ?_
 rintro _ w98 ⟨r98_0,rfl,Z⟩
 have Z:=k95 Z (co closed_int c0)
 refine mV (.tuple #[r98_0,I x85.2.1,Bo x85.2.2]) rfl (L_ex (v:=r98_0) rfl rfl rfl (L_ex (v:=I x85.2.1) rfl rfl rfl (L_ex (v:=Bo x85.2.2) rfl rfl rfl (aV r98_0 rfl (aI rfl (aB rfl (nq (W_seq ?_))))))))
 obtain ⟨R100,hR100⟩:=exR fun f w_=>f 3 = Pt g8∧f 8 = r98_0∧f 10 = Bo x85.2.2∧f 64 = Bo ((!x85.2.2) || (decide (x85.2.1 ≥ 0)))∧Star H14 w_ ([oF 3 RP.int r98_0 x85.1,box g8 26 #[r7_0,r7_1]])
 refine W_join R100 ?_ ?_
 refine W_region (mB rfl (L_not_ rfl rfl (mB rfl (L_split (d:=61) (b:=(!x85.2.2)) rfl (fun hc101=>?_) (fun hc101=>?_)))))
 refine ps rfl (ps rfl (L_pick (v:=Bo ((!x85.2.2) || (decide (x85.2.1 ≥ 0)))) rfl rfl (or_t hc101) (nn ?_)))
 have Z:=Z.gets [4,1] rfl
 exact rj hR100 ⟨sf3,rfl,rfl,rfl,(Star.keepN 2 Z)⟩
 refine mI rfl (L_geq rfl rfl rfl (L_pick (v:=Bo ((!x85.2.2) || (decide (x85.2.1 ≥ 0)))) rfl rfl (or_f hc101 rfl) (nn ?_)))
 have Z:=Z.gets [4,1] rfl
 exact rj hR100 ⟨sf3,rfl,rfl,rfl,(Star.keepN 2 Z)⟩
 intro f w_ hR
 obtain ⟨sf3,sf8,sf10,sf64,Z⟩:=rk hR100 hR
 refine W_cond (b:=((!x85.2.2) || (decide (x85.2.1 ≥ 0)))) sf64 (fun hc102=>?_) (fun hc102=>?_)
 have hF:=(ite_t hc102).symm.trans hF
 refine W_seq ?_
 obtain ⟨b110,hb110,hF⟩:=bind_some hF
 obtain ⟨R111,hR111⟩:=exR fun f w_=>f 2 = Bo b110∧Star H14 w_ ([])
 refine W_join R111 ?_ ?_
 refine W_region (mF sf10 rfl (mB rfl (L_split (d:=66) (b:=x85.2.2) rfl (fun hc112=>?_) (fun hc112=>?_))))
 rw [ite_t hc112] at hb110
 obtain ⟨x108,hx108,hb110⟩:=bind_some hb110
 refine L_lda (cs:=[r7_0,r7_1]) rfl Tryz.isAgg26 Tryz.sizeOf26 sf3 (At.sub0 (Blk.at (Star.blkAt 1 Z rfl)) 0 2) rfl ?_
 obtain ⟨H113b,l114,s115,z116,k117⟩:=Z.borrow
 refine L_call rfl Tryz.call17 (ops1 rfl) (i_CountModel_c (m:=x2) s115 (RP.mono _ hr7_0 (Le.trans l14 l114)) (RP.mono _ hr7_1 (Le.trans l14 l114)) hx108) ?_
 rintro _ w118 ⟨rfl,Z⟩
 have Z:=k117 Z c0
 refine L_eql rfl rfl rfl (L_pick (v:=Bo b110) rfl rfl (congrArg Value.bool (so hb110)) (aB rfl (nn (rj hR111 ⟨rfl,(Star.keepN 0 Z)⟩))))
 rw [ite_f hc112] at hb110
 refine ps rfl (ps rfl (ps rfl (L_pick (v:=Bo b110) rfl rfl (congrArg Value.bool (so hb110)) (aB rfl (nn (rj hR111 ⟨rfl,(Star.keepN 0 Z)⟩))))))
 intro f w_ hR
 obtain ⟨sf2,Z⟩:=rk hR111 hR
 refine W_ret (retG1 (v1:=Bo b110) Tryz.results3 sf2 ?_)
 obtain rfl:=so hF
 exact ⟨rfl,(Star.down Z (Le.trans l7 l14) c0)⟩
 have hF:=(ite_f hc102).symm.trans hF
 refine W_skip (W_seq ?_)
 obtain ⟨x119,hx119,hF⟩:=bind_some hF
 refine W_region (fA 0 fa_26_0 sf3 rfl (ldB 1 Z Tryz.isAgg23 rfl rfl rfl (L_len rfl Tryz.underlying23 rfl (slice_len (RP.mono _ hr7_0 l14)) (L_mk (R:=(OR.frz RP.int)) (z0:=0) (zc:=[I 0]) rfl et_23 (by kernel_rfl) (fun _ _=>⟨rfl,rfl⟩) rfl rfl hx119 Z (fun v123 w124 Z=>aV v123 rfl (nq ?_))))))
 obtain ⟨x132,hx132,hF⟩:=bind_some hF
 refine W_region (L_lda (cs:=[r7_0,r7_1]) rfl Tryz.isAgg26 Tryz.sizeOf26 sf3 (At.sub0 (Blk.at (Star.blkAt 2 Z rfl)) 0 2) rfl (mV v123 rfl ?_))
 obtain ⟨H135b,l136,s137,z138,k139⟩:=Z.borrow
 have hb140 : (rS 3 RP.int).rel H135b [v123] x119:=fz_own 0 z138 rfl
 refine L_call rfl Tryz.call18 (ops2 rfl rfl) (i_NextModel_c (m:=x2) (cells:=x119) s137 (RP.mono _ hr7_0 (Le.trans l14 l136)) (RP.mono _ hr7_1 (Le.trans l14 l136)) hb140 hx132) ?_
 rintro _ w141 ⟨r141_0,rfl,Z⟩
 have Z:=k139 Z (co closed_int c0)
 refine mV (.tuple #[r141_0,Bo x132.2]) rfl (L_ex (v:=r141_0) rfl rfl rfl (L_ex (v:=Bo x132.2) rfl rfl rfl (aV r141_0 rfl (aB rfl (nq ?_)))))
 obtain ⟨x149,hx149,hF⟩:=bind_some hF
 refine W_region (L_lda (cs:=[r7_0,r7_1]) rfl Tryz.isAgg26 Tryz.sizeOf26 sf3 (At.sub0 (Blk.at (Star.blkAt 3 Z rfl)) 0 2) rfl (mV r141_0 rfl ?_))
 obtain ⟨H152b,l153,s154,z155,k156⟩:=Z.borrow
 have hb157 : (rS 3 RP.int).rel H152b [r141_0] x132.1:=fz_own 0 z155 rfl
 refine L_call rfl Tryz.call19 (ops2 rfl rfl) (i_EncodeCells_c (m:=x2) (cells:=x132.1) s154 (RP.mono _ hr7_0 (Le.trans l14 l153)) (RP.mono _ hr7_1 (Le.trans l14 l153)) hb157 hx149) ?_
 rintro _ w158 ⟨r158_0,rfl,Z⟩
 have Z:=k156 Z (co closed_bool c0)
 refine mV (.tuple #[r158_0,Bo x149.2]) rfl (L_ex (v:=r158_0) rfl rfl rfl (L_ex (v:=Bo x149.2) rfl rfl rfl (aV r158_0 rfl (aB rfl (nq ?_)))))
 obtain ⟨b170,hb170,hF⟩:=bind_some hF
 obtain ⟨R171,hR171⟩:=exR fun f w_=>f 2 = Bo b170∧Star H14 w_ ([])
 refine W_join R171 ?_ ?_
 refine W_region (mB rfl (L_not_ rfl rfl (mB rfl (L_split (d:=89) (b:=(!x132.2)) rfl (fun hc172=>?_) (fun hc172=>?_)))))
 rw [ite_t hc172] at hb170
 refine ps rfl (ps rfl (ps rfl (ps rfl (ps rfl (ps rfl (L_pick (v:=Bo b170) rfl rfl (congrArg Value.bool (so hb170)) (aB rfl (nn (rj hR171 ⟨rfl,(Star.keepN 0 Z)⟩)))))))))
 rw [ite_f hc172] at hb170
 obtain ⟨b169,hb169,hb170⟩:=bind_some hb170
 refine mB rfl (mB rfl (L_split (d:=91) (b:=x149.2) rfl (fun hc173=>?_) (fun hc173=>?_)))
 rw [ite_t hc173] at hb169
 obtain ⟨x167,hx167,hb169⟩:=bind_some hb169
 refine mF sf8 rfl (mV r158_0 rfl ?_)
 obtain ⟨H174b,l175,s176,z177,k178⟩:=Z.borrow
 have hb179 : (rS 3 RP.int).rel H174b [r98_0] x85.1:=fz_own 3 z177 rfl
 have hb180 : (rS 4 RP.bool).rel H174b [r158_0] x149.1:=fz_own 0 z177 rfl
 refine L_call rfl Tryz.call20 (ops2 rfl rfl) (i_ExtendsPartial_c (p:=x85.1) (values:=x149.1) s176 hb179 hb180 hx167) ?_
 rintro _ w181 ⟨rfl,Z⟩
 have Z:=k178 Z c0
 refine L_pick (v:=Bo b169) rfl rfl (congrArg Value.bool (so hb169)) (L_pick (v:=Bo b170) rfl rfl (congrArg Value.bool (so hb170)) (aB rfl (nn (rj hR171 ⟨rfl,(Star.keepN 0 Z)⟩))))
 rw [ite_f hc173] at hb169
 refine ps rfl (ps rfl (ps rfl (L_pick (v:=Bo b169) rfl rfl (congrArg Value.bool (so hb169)) (L_pick (v:=Bo b170) rfl rfl (congrArg Value.bool (so hb170)) (aB rfl (nn (rj hR171 ⟨rfl,(Star.keepN 0 Z)⟩)))))))
 intro f w_ hR
 obtain ⟨sf2,Z⟩:=rk hR171 hR
 refine W_ret (retG1 (v1:=Bo b170) Tryz.results3 sf2 ?_)
 obtain rfl:=so hF
 exact ⟨rfl,(Star.down Z (Le.trans l7 l14) c0)⟩
end Go.Proofs.YtbjllamkfmejlaaGreat

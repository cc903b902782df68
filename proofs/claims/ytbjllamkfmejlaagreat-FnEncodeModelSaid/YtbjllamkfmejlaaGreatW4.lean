/- Part of a proof by program: W4. -/
import Derived.Test.YtbjllamkfmejlaaGreatD1
import Derived.Test.YtbjllamkfmejlaaGreatW3
namespace Go.Proofs.YtbjllamkfmejlaaGreat
open Go Go.E Go.L Go.RowKit
set_option linter.unusedVariables false
set_option linter.unusedSimpArgs false
set_option maxRecDepth 100000
theorem slices_Equal_implTerm_c {s1 : List Term} {s2 : List Term} {v0 : Value} {v1 : Value} {H : FH} {w : World} (Z : Star H w []) (h0 : (rS 122 rTerm).rel H [v0] s1) (h1 : (rS 122 rTerm).rel H [v1] s2) {r : Bool} (hF : slices_Equal_implTerm s1 s2 = some r) :
 C Tryz.prog 112 #[v0,v1] w fun v w'=>v = Bo r∧Star H w' []:=by
 unfold slices_Equal_implTerm at hF
 refine C_enter Tryz.func112 rfl Tryz.ntmps112 rfl (sq (aB rfl (nq (sq (mV v0 rfl (L_len rfl Tryz.underlying71 rfl (slice_len h0) (mV v1 rfl (L_len rfl Tryz.underlying71 rfl (slice_len h1) (L_neq rfl rfl rfl (nn (W_cond (b:=((s1.length : Int) != (s2.length : Int))) rfl (fun hc1=>?_) (fun hc1=>?_))))))))))))
 have hF:=(ite_t hc1).symm.trans hF
 refine sq (aB rfl (nn (W_ret (retG1 (v1:=Bo false) Tryz.results112 rfl ?_))))
 obtain rfl:=so hF
 exact ⟨rfl,Z⟩
 have hF:=(ite_f hc1).symm.trans hF
 refine W_skip (W_seq (sq (mV v0 rfl (L_len rfl Tryz.underlying71 rfl (slice_len h0) (mI rfl (nn ?_))))))
 have hlen5 : List.length s1≤9223372036854775807:=len_le (slice_len h0)
 obtain ⟨j5,hL5,hF⟩:=bind_some hF
 obtain ⟨R5,hR5⟩:=exR fun f w_=>∃ H3 : FH,j5 = .nx ()∧Le H H3∧Star H3 w_ ([])
 refine W_join R5 ?_ ?_
 refine W_block ?_
 obtain ⟨I5,hI5⟩:=exI fun n f w_=>∃ i_2 : Nat,∃ suf5 : List Term,∃ H3 : FH,n = suf5.length∧List.drop i_2 s1 = suf5∧i_2 + suf5.length = s1.length∧rangeL (slices_Equal_implTerm_b1 s2) suf5 i_2 () = some j5∧Le H H3∧f 0 = v0∧f 1 = v1∧f 12 = I (s1.length : Int)∧f 13 = I i_2∧Star H3 w_ ([])
 refine W_loop I5 (n:=s1.length) ?_ ?_
 exact ij hI5 ⟨0,s1,H,rfl,rfl,Nat.zero_add _,hL5,(Le.refl _),rfl,rfl,rfl,rfl,Z⟩
 intro n5 f w_ hI
 obtain ⟨i_2,suf5,H3,rfl,hd5,hl5,hL5,l4,sf0,sf1,sf12,sf13,Z⟩:=ik hI5 hI
 refine sq (L_lss rfl sf13 sf12 (nq (W_cond (b:=decide ((i_2 : Int) < (s1.length : Int))) rfl (fun hc6=>?_) (fun hc6=>?_))))
 have hlt5:=of_decide_eq_true hc6
 rcases suf5 with _ | ⟨x_5,rest5⟩
 exact absurd hlt5 (by simp at hl5; omega)
 obtain ⟨o5,hB5,hL5⟩:=range_cons hL5
 rw [slices_Equal_implTerm_b1] at hB5
 have hix5:=drop_idx hd5
 refine W_skip (W_seq (W_block (sq (mF sf13 rfl (aI rfl (nq ?_))))))
 obtain ⟨x11,hx11,hB5⟩:=bind_some hB5
 refine W_drawS 8 [isV (v0),isV (I i_2),isEl rTerm x_5 0,isV (.agg #[I x_5.coef,I x_5.lit]),isV (v1),isV (I i_2),isEl rTerm x11 0,isV (.agg #[I x11.coef,I x11.lit])] [] [] ([]) [([],[]),([],[]),([],[]),([],[]),([],[]),([],[]),([],[]),([],[])] (S:=[]) Tryz_mix (by kernel_rfl) rfl (by kernel_rfl) (amF_cons (mono_V _) (amF_cons (mono_V _) (amF_cons (mono_el _ _ _) (amF_cons (mono_V _) (amF_cons (mono_V _) (amF_cons (mono_V _) (amF_cons (mono_el _ _ _) (amF_cons (mono_V _) amF_nil)))))))) Z ?_ (fun f w_ H16 hS16 hE16 hT16 Z=>?_)
 refine opsS_cons (fun f w_ _ _ s _ _ Z=>mF ((s 0 rfl).trans sf0) rfl (nO rfl rfl Z)) (opsS_cons (fun f w_ _ _ s _ _ Z=>mF ((s 5 rfl).trans rfl) rfl (nO rfl rfl Z)) (opsS_cons ?_ ?_))
 intro f w_ H16 X16 hS16 hE16 hP16 Z
 refine L_ix (r:=rTerm) rfl Tryz.underlying71 Tryz.sizeOf122 (hP16 0 16 rfl rfl) (RP.mono _ h0 (Le.trans l4 hE16)) (hP16 1 17 rfl rfl) hix5 (fun g25 o26 cs_g25 hrk_hat27 hat27=>?_)
 obtain rfl:=rTerm_iff.1 hrk_hat27
 exact L_nil ⟨rfl,_,_,rfl,Le.refl _,fun _ _=>⟨_,_,_,rfl,hrk_hat27,hat27⟩,Z⟩
 refine opsS_cons ?_ ?_
 intro f w_ H16 X16 hS16 hE16 hP16 Z
 obtain ⟨g29,o29,cs29,hv29,hrk_hat29,hat29⟩:=(hP16 2 18 rfl rfl)
 obtain rfl:=rTerm_iff.1 hrk_hat29
 refine L_lda (cs:=[I x_5.coef,I x_5.lit]) rfl Tryz.isAgg122 Tryz.sizeOf122 hv29 (At.sub (AtH.at hat29 Z.sub) 0 2) rfl (L_nil ⟨rfl,_,_,rfl,Le.refl _,fun _ _=>rfl,Z⟩)
 refine opsS_cons (fun f w_ _ _ s _ _ Z=>mF ((s 1 rfl).trans sf1) rfl (nO rfl rfl Z)) (opsS_cons (fun f w_ _ _ s _ _ Z=>mF ((s 5 rfl).trans rfl) rfl (nO rfl rfl Z)) (opsS_cons ?_ ?_))
 intro f w_ H16 X16 hS16 hE16 hP16 Z
 refine L_ix (r:=rTerm) rfl Tryz.underlying71 Tryz.sizeOf122 (hP16 4 20 rfl rfl) (RP.mono _ h1 (Le.trans l4 hE16)) (hP16 5 21 rfl rfl) hx11 (fun g31 o32 cs_g31 hrk_hat33 hat33=>?_)
 obtain rfl:=rTerm_iff.1 hrk_hat33
 exact L_nil ⟨rfl,_,_,rfl,Le.refl _,fun _ _=>⟨_,_,_,rfl,hrk_hat33,hat33⟩,Z⟩
 refine opsS_cons ?_ ?_
 intro f w_ H16 X16 hS16 hE16 hP16 Z
 obtain ⟨g35,o35,cs35,hv35,hrk_hat35,hat35⟩:=(hP16 6 22 rfl rfl)
 obtain rfl:=rTerm_iff.1 hrk_hat35
 refine L_lda (cs:=[I x11.coef,I x11.lit]) rfl Tryz.isAgg122 Tryz.sizeOf122 hv35 (At.sub (AtH.at hat35 Z.sub) 0 2) rfl (L_nil ⟨rfl,_,_,rfl,Le.refl _,fun _ _=>rfl,Z⟩)
 exact opsS_nil
 refine L_tneq (x1:=x_5.coef) (x2:=x_5.lit) (y1:=x11.coef) (y2:=x11.lit) rfl termEq_122 (hT16 3 19 rfl rfl) (hT16 7 23 rfl rfl) (nn (W_cond (b:=(!(x_5 == x11))) rfl (fun hc37=>?_) (fun hc37=>?_)))
 have hB5:=(ite_t hc37).symm.trans hB5
 refine sq (aB rfl (nn (W_ret (retG1 (v1:=Bo false) Tryz.results112 rfl ?_))))
 obtain rfl:=so hB5
 obtain rfl:=so hL5
 obtain rfl:=so hF
 exact ⟨rfl,(Star.down Z (Le.trans l4 hE16) c0)⟩
 have hB5:=(ite_f hc37).symm.trans hB5
 refine W_skip (W_region (L_add rfl ((hS16 13 rfl).trans sf13) rfl (mI rfl (nn ?_))))
 obtain rfl:=so hB5
 show ∃ m,m < _∧I5 m _ _
 refine ⟨rest5.length,by simp,?_⟩
 exact ij hI5 ⟨i_2 + 1,rest5,H16,rfl,drop_next hd5,by simp at hl5; omega,hL5,(Le.trans l4 hE16),((hS16 0 rfl).trans sf0),((hS16 1 rfl).trans sf1),((hS16 12 rfl).trans sf12),(Eq.trans rfl (congrArg (Value.int .i64) (i64_succ (n:=s1.length) (by simp at hl5; omega) hlen5))),Z⟩
 rcases suf5 with _ | ⟨_,_⟩
 obtain rfl:=range_nil hL5
 refine W_exit (rj hR5 ⟨H3,rfl,l4,Z⟩)
 exact absurd (of_decide_eq_false hc6) (by simp at hl5; omega)
 intro f w_ hR
 obtain ⟨H3,rfl,l4,Z⟩:=rk hR5 hR
 refine sq (aB rfl (nn (W_ret (retG1 (v1:=Bo true) Tryz.results112 rfl ?_))))
 obtain rfl:=so hF
 exact ⟨rfl,(Star.down Z l4 c0)⟩
theorem i_ConstraintSame_c {a : Con} {b : Con} {v0_0 : Value} {v1_0 : Value} {H : FH} {w : World} (Z : Star H w []) (h0_0 : (rS 122 rTerm).rel H [v0_0] a.terms) (h1_0 : (rS 122 rTerm).rel H [v1_0] b.terms) {r : Bool} (hF : i_ConstraintSame a b = some r) :
 C Tryz.prog 54 #[.agg #[v0_0,I a.bound],.agg #[v1_0,I b.bound]] w fun v w'=>v = Bo r∧Star H w' []:=by
 unfold i_ConstraintSame at hF
 refine C_enter Tryz.func54 rfl Tryz.ntmps54 rfl (sq (L_box (v:=.agg #[v0_0,I a.bound]) (cs:=#[v0_0,I a.bound]) rfl rfl rfl Z (fun g5 w6 Z=>L_box (v:=.agg #[v1_0,I b.bound]) (cs:=#[v1_0,I b.bound]) rfl rfl rfl Z (fun g7 w8 Z=>aB rfl (nq ?_)))))
 obtain ⟨b16,hb16,hF⟩:=bind_some hF
 obtain ⟨R17,hR17⟩:=exR fun f w_=>f 4 = Bo b16∧Star H w_ ([])
 refine W_join R17 ?_ ?_
 refine W_region (fA 1 fa_73_1 rfl rfl (ldB 1 Z Tryz.isAgg3 rfl rfl rfl (fA 1 fa_73_1 rfl rfl (ldB 0 Z Tryz.isAgg3 rfl rfl rfl (L_eql rfl rfl rfl (mB rfl (L_split (d:=10) (b:=(a.bound == b.bound)) rfl (fun hc18=>?_) (fun hc18=>?_))))))))
 rw [ite_t hc18] at hb16
 obtain ⟨x14,hx14,hb16⟩:=bind_some hb16
 refine fA 0 fa_73_0 rfl rfl (ldB 1 Z Tryz.isAgg71 rfl rfl rfl (fA 0 fa_73_0 rfl rfl (ldB 0 Z Tryz.isAgg71 rfl rfl rfl ?_)))
 obtain ⟨H19b,l20,s21,z22,k23⟩:=Z.borrow
 refine L_call rfl Tryz.call112 (ops2 rfl rfl) (slices_Equal_implTerm_c (s1:=a.terms) (s2:=b.terms) s21 (RP.mono _ h0_0 l20) (RP.mono _ h1_0 l20) hx14) ?_
 rintro _ w24 ⟨rfl,Z⟩
 have Z:=k23 Z c0
 refine L_pick (v:=Bo b16) rfl rfl (congrArg Value.bool (so hb16)) (aB rfl (nn (rj hR17 ⟨rfl,(Star.keepN 0 Z)⟩)))
 rw [ite_f hc18] at hb16
 refine ps rfl (ps rfl (ps rfl (ps rfl (ps rfl (L_pick (v:=Bo b16) rfl rfl (congrArg Value.bool (so hb16)) (aB rfl (nn (rj hR17 ⟨rfl,(Star.keepN 0 Z)⟩))))))))
 intro f w_ hR
 obtain ⟨sf4,Z⟩:=rk hR17 hR
 refine W_ret (retG1 (v1:=Bo b16) Tryz.results54 sf4 ?_)
 obtain rfl:=so hF
 exact ⟨rfl,Z⟩
theorem l_cpProblem_c {a : List Con} {b : List Con} {v0 : Value} {v1 : Value} {H : FH} {w : World} (Z : Star H w []) (h0 : (rS 73 (rCon 122)).rel H [v0] a) (h1 : (rS 73 (rCon 122)).rel H [v1] b) {r : Bool} (hF : l_cpProblem a b = some r) :
 C Tryz.prog 15 #[v0,v1] w fun v w'=>v = Bo r∧Star H w' []:=by
 unfold l_cpProblem at hF
 refine C_enter Tryz.func15 rfl Tryz.ntmps15 rfl (sq (aB rfl (nq (sq (mV v0 rfl (L_len rfl Tryz.underlying28 rfl (slice_len h0) (mV v1 rfl (L_len rfl Tryz.underlying28 rfl (slice_len h1) (L_neq rfl rfl rfl (nn (W_cond (b:=((a.length : Int) != (b.length : Int))) rfl (fun hc1=>?_) (fun hc1=>?_))))))))))))
 have hF:=(ite_t hc1).symm.trans hF
 refine sq (aB rfl (nn (W_ret (retG1 (v1:=Bo false) Tryz.results15 rfl ?_))))
 obtain rfl:=so hF
 exact ⟨rfl,Z⟩
 have hF:=(ite_f hc1).symm.trans hF
 refine W_skip (W_seq (sq (aI rfl (nn ?_))))
 have hlen5 : List.length a≤9223372036854775807:=len_le (slice_len h0)
 obtain ⟨j5,hL5,hF⟩:=bind_some hF
 obtain ⟨R5,hR5⟩:=exR fun f w_=>∃ H3 : FH,j5 = .nx ()∧Le H H3∧Star H3 w_ ([])
 refine W_join R5 ?_ ?_
 refine W_block ?_
 obtain ⟨I5,hI5⟩:=exI fun n f w_=>∃ i_2 : Nat,∃ suf5 : List Con,∃ H3 : FH,n = suf5.length∧List.drop i_2 a = suf5∧i_2 + suf5.length = a.length∧rangeL (l_cpProblem_b1 b) suf5 i_2 () = some j5∧Le H H3∧f 0 = v0∧f 1 = v1∧f 5 = I i_2∧Star H3 w_ ([])
 refine W_loop I5 (n:=a.length) ?_ ?_
 exact ij hI5 ⟨0,a,H,rfl,rfl,Nat.zero_add _,hL5,(Le.refl _),rfl,rfl,rfl,Z⟩
 intro n5 f w_ hI
 obtain ⟨i_2,suf5,H3,rfl,hd5,hl5,hL5,l4,sf0,sf1,sf5,Z⟩:=ik hI5 hI
 refine W_seq (sq (mF sf5 rfl (mF sf0 rfl (L_len rfl Tryz.underlying28 rfl (slice_len (RP.mono _ h0 l4)) (L_lss rfl rfl rfl (nn (W_cond (b:=decide ((i_2 : Int) < (a.length : Int))) rfl (fun hc6=>?_) (fun hc6=>?_))))))))
 have hlt5:=of_decide_eq_true hc6
 rcases suf5 with _ | ⟨x_5,rest5⟩
 exact absurd hlt5 (by simp at hl5; omega)
 obtain ⟨o5,hB5,hL5⟩:=range_cons hL5
 rw [l_cpProblem_b1] at hB5
 have hix5:=drop_idx hd5
 refine W_skip (W_seq (W_block (W_seq ?_)))
 obtain ⟨x11,hx11,hB5⟩:=bind_some hB5
 obtain ⟨x21,hx21,hB5⟩:=bind_some hB5
 refine W_drawS 8 [isV (v0),isV (I i_2),isEl (rCon 122) x_5 0,exD (isData (rS 122 rTerm) x_5.terms) fun u_0=>isV (.agg #[u_0,I x_5.bound]),isV (v1),isV (I i_2),isEl (rCon 122) x11 0,exD (isData (rS 122 rTerm) x11.terms) fun u_0=>isV (.agg #[u_0,I x11.bound])] [] [] ([]) [([],[]),([],[]),([],[]),([],[]),([],[]),([],[]),([],[]),([],[])] (S:=[]) Tryz_mix (by kernel_rfl) rfl (by kernel_rfl) (amF_cons (mono_V _) (amF_cons (mono_V _) (amF_cons (mono_el _ _ _) (amF_cons (mono_exD (mono_data _ _) fun _=>mono_V _) (amF_cons (mono_V _) (amF_cons (mono_V _) (amF_cons (mono_el _ _ _) (amF_cons (mono_exD (mono_data _ _) fun _=>mono_V _) amF_nil)))))))) Z ?_ (fun f w_ H23 hS23 hE23 hT23 Z=>?_)
 refine opsS_cons (fun f w_ _ _ s _ _ Z=>mF ((s 0 rfl).trans sf0) rfl (nO rfl rfl Z)) (opsS_cons (fun f w_ _ _ s _ _ Z=>mF ((s 5 rfl).trans sf5) rfl (nO rfl rfl Z)) (opsS_cons ?_ ?_))
 intro f w_ H23 X23 hS23 hE23 hP23 Z
 refine L_ix (r:=(rCon 122)) rfl Tryz.underlying28 Tryz.sizeOf73 (hP23 0 17 rfl rfl) (RP.mono _ h0 (Le.trans l4 hE23)) (hP23 1 18 rfl rfl) hix5 (fun g32 o33 cs_g32 hrk_hat34 hat34=>?_)
 obtain ⟨u35_0,rfl,hu35_0⟩:=rCon_iff.1 hrk_hat34
 exact L_nil ⟨rfl,_,_,rfl,Le.refl _,fun _ _=>⟨_,_,_,rfl,hrk_hat34,hat34⟩,Z⟩
 refine opsS_cons ?_ ?_
 intro f w_ H23 X23 hS23 hE23 hP23 Z
 obtain ⟨g36,o36,cs36,hv36,hrk_hat36,hat36⟩:=(hP23 2 19 rfl rfl)
 obtain ⟨u37_0,rfl,hu37_0⟩:=rCon_iff.1 hrk_hat36
 refine L_lda (cs:=[u37_0,I x_5.bound]) rfl Tryz.isAgg73 Tryz.sizeOf73 hv36 (At.sub (AtH.at hat36 Z.sub) 0 2) rfl (L_nil ⟨rfl,_,_,rfl,Le.refl _,fun _ _=>⟨_,hu37_0,rfl⟩,Z⟩)
 refine opsS_cons (fun f w_ _ _ s _ _ Z=>mF ((s 1 rfl).trans sf1) rfl (nO rfl rfl Z)) (opsS_cons (fun f w_ _ _ s _ _ Z=>mF ((s 5 rfl).trans sf5) rfl (nO rfl rfl Z)) (opsS_cons ?_ ?_))
 intro f w_ H23 X23 hS23 hE23 hP23 Z
 refine L_ix (r:=(rCon 122)) rfl Tryz.underlying28 Tryz.sizeOf73 (hP23 4 21 rfl rfl) (RP.mono _ h1 (Le.trans l4 hE23)) (hP23 5 22 rfl rfl) hx11 (fun g38 o39 cs_g38 hrk_hat40 hat40=>?_)
 obtain ⟨u41_0,rfl,hu41_0⟩:=rCon_iff.1 hrk_hat40
 exact L_nil ⟨rfl,_,_,rfl,Le.refl _,fun _ _=>⟨_,_,_,rfl,hrk_hat40,hat40⟩,Z⟩
 refine opsS_cons ?_ ?_
 intro f w_ H23 X23 hS23 hE23 hP23 Z
 obtain ⟨g42,o42,cs42,hv42,hrk_hat42,hat42⟩:=(hP23 6 23 rfl rfl)
 obtain ⟨u43_0,rfl,hu43_0⟩:=rCon_iff.1 hrk_hat42
 refine L_lda (cs:=[u43_0,I x11.bound]) rfl Tryz.isAgg73 Tryz.sizeOf73 hv42 (At.sub (AtH.at hat42 Z.sub) 0 2) rfl (L_nil ⟨rfl,_,_,rfl,Le.refl _,fun _ _=>⟨_,hu43_0,rfl⟩,Z⟩)
 exact opsS_nil
 obtain ⟨u44_0,hu44_0,hv44⟩:=(hT23 3 20 rfl rfl)
 obtain ⟨u45_0,hu45_0,hv45⟩:=(hT23 7 24 rfl rfl)
 obtain ⟨H46b,l47,s48,z49,k50⟩:=Z.borrow
 refine L_call rfl Tryz.call54 (ops2 hv44 hv45) (i_ConstraintSame_c (a:=x_5) (b:=x11) s48 (RP.mono _ hu44_0 l47) (RP.mono _ hu45_0 l47) hx21) ?_
 rintro _ w51 ⟨rfl,Z⟩
 have Z:=k50 Z c0
 refine L_not_ rfl rfl (nn (W_cond (b:=(!x21)) rfl (fun hc52=>?_) (fun hc52=>?_)))
 have hB5:=(ite_t hc52).symm.trans hB5
 refine sq (aB rfl (nn (W_ret (retG1 (v1:=Bo false) Tryz.results15 rfl ?_))))
 obtain rfl:=so hB5
 obtain rfl:=so hL5
 obtain rfl:=so hF
 exact ⟨rfl,(Star.down Z (Le.trans l4 hE23) c0)⟩
 have hB5:=(ite_f hc52).symm.trans hB5
 refine W_skip (W_region (mF ((hS23 5 rfl).trans sf5) rfl (L_add rfl rfl rfl (aI rfl (nn ?_)))))
 obtain rfl:=so hB5
 show ∃ m,m < _∧I5 m _ _
 refine ⟨rest5.length,by simp,?_⟩
 exact ij hI5 ⟨i_2 + 1,rest5,H23,rfl,drop_next hd5,by simp at hl5; omega,hL5,(Le.trans l4 hE23),((hS23 0 rfl).trans sf0),((hS23 1 rfl).trans sf1),(Eq.trans rfl (congrArg (Value.int .i64) (i64_succ (n:=a.length) (by simp at hl5; omega) hlen5))),Z⟩
 rcases suf5 with _ | ⟨_,_⟩
 obtain rfl:=range_nil hL5
 refine W_exit (rj hR5 ⟨H3,rfl,l4,Z⟩)
 exact absurd (of_decide_eq_false hc6) (by simp at hl5; omega)
 intro f w_ hR
 obtain ⟨H3,rfl,l4,Z⟩:=rk hR5 hR
 refine sq (aB rfl (nn (W_ret (retG1 (v1:=Bo true) Tryz.results15 rfl ?_))))
 obtain rfl:=so hF
 exact ⟨rfl,(Star.down Z l4 c0)⟩
theorem slices_IndexFunc_implConstraint_c {s : List Con} {f_ : (Con→Option Bool)} {v0 : Value} {v1 : Value} {H : FH} {w : World} (Z : Star H w []) (h0 : (rS 73 (rCon 122)).rel H [v0] s) (h1 : Fun1 Tryz.prog (rCon 122) true Value.bool f_ v1 H) {r : Int} (hF : slices_IndexFunc_implConstraint s f_ = some r) :
 C Tryz.prog 162 #[v0,v1] w fun v w'=>v = I r∧Star H w' []:=by
 unfold slices_IndexFunc_implConstraint at hF
 obtain ⟨fid_1,caps_1,rfl,hcall_1,hc_1⟩:=h1
 refine C_enter Tryz.func162 rfl Tryz.ntmps162 rfl (sq (aI rfl (nq (sq (mV v0 rfl (L_len rfl Tryz.underlying28 rfl (slice_len h0) (mI rfl (nn ?_))))))))
 have hlen2 : List.length s≤9223372036854775807:=len_le (slice_len h0)
 obtain ⟨j2,hL2,hF⟩:=bind_some hF
 obtain ⟨R2,hR2⟩:=exR fun f w_=>j2 = .nx ()∧Star H w_ ([])
 refine W_join R2 ?_ ?_
 refine W_block ?_
 obtain ⟨I2,hI2⟩:=exI fun n f w_=>∃ i_1 : Nat,∃ suf2 : List Con,n = suf2.length∧List.drop i_1 s = suf2∧i_1 + suf2.length = s.length∧rangeL (slices_IndexFunc_implConstraint_b1 f_) suf2 i_1 () = some j2∧f 0 = v0∧f 1 = .func (.func fid_1) #[] caps_1∧f 7 = I (s.length : Int)∧f 8 = I i_1∧Star H w_ ([])
 refine W_loop I2 (n:=s.length) ?_ ?_
 exact ij hI2 ⟨0,s,rfl,rfl,Nat.zero_add _,hL2,rfl,rfl,rfl,rfl,Z⟩
 intro n2 f w_ hI
 obtain ⟨i_1,suf2,rfl,hd2,hl2,hL2,sf0,sf1,sf7,sf8,Z⟩:=ik hI2 hI
 refine sq (L_lss rfl sf8 sf7 (nq (W_cond (b:=decide ((i_1 : Int) < (s.length : Int))) rfl (fun hc3=>?_) (fun hc3=>?_))))
 have hlt2:=of_decide_eq_true hc3
 rcases suf2 with _ | ⟨x_2,rest2⟩
 exact absurd hlt2 (by simp at hl2; omega)
 obtain ⟨o2,hB2,hL2⟩:=range_cons hL2
 rw [slices_IndexFunc_implConstraint_b1] at hB2
 have hix2:=drop_idx hd2
 refine W_skip (W_seq (W_block (sq (mF sf8 rfl (aI rfl (nq ?_))))))
 obtain ⟨x8,hx8,hB2⟩:=bind_some hB2
 refine W_region (mF sf1 rfl (mF sf0 rfl (mI rfl (L_ix (r:=(rCon 122)) rfl Tryz.underlying28 Tryz.sizeOf73 rfl h0 rfl hix2 (fun g15 o16 cs_g15 hrk_hat17 hat17=>?_)))))
 obtain ⟨u18_0,rfl,hu18_0⟩:=rCon_iff.1 hrk_hat17
 refine L_lda (cs:=[u18_0,I x_2.bound]) rfl Tryz.isAgg73 Tryz.sizeOf73 rfl (At.sub (AtH.at hat17 Z.sub) 0 2) rfl ?_
 obtain ⟨H19b,l20,s21,z22,k23⟩:=Z.borrow
 refine L_callv (args:=#[.agg #[u18_0,I x_2.bound]]) rfl hcall_1 rfl (ops1 rfl) (hc_1 _ _ l20 s21 [u18_0,I x_2.bound] _ _ _ (rCon_iff.2 ⟨_,rfl,(RP.mono _ hu18_0 l20)⟩) hx8 (args_app rfl)) ?_
 rintro _ w24 ⟨rfl,Z⟩
 have Z:=k23 Z c0
 refine nn (W_cond (b:=x8) rfl (fun hc25=>?_) (fun hc25=>?_))
 have hB2:=(ite_t hc25).symm.trans hB2
 refine sq (mI rfl (aI rfl (nn (W_ret (retG1 (v1:=I i_1) Tryz.results162 rfl ?_)))))
 obtain rfl:=so hB2
 obtain rfl:=so hL2
 obtain rfl:=so hF
 exact ⟨rfl,Z⟩
 have hB2:=(ite_f hc25).symm.trans hB2
 refine W_skip (W_region (L_add rfl sf8 rfl (mI rfl (nn ?_))))
 obtain rfl:=so hB2
 show ∃ m,m < _∧I2 m _ _
 refine ⟨rest2.length,by simp,?_⟩
 exact ij hI2 ⟨i_1 + 1,rest2,rfl,drop_next hd2,by simp at hl2; omega,hL2,sf0,sf1,sf7,(Eq.trans rfl (congrArg (Value.int .i64) (i64_succ (n:=s.length) (by simp at hl2; omega) hlen2))),Z⟩
 rcases suf2 with _ | ⟨_,_⟩
 obtain rfl:=range_nil hL2
 refine W_exit (rj hR2 ⟨rfl,Z⟩)
 exact absurd (of_decide_eq_false hc3) (by simp at hl2; omega)
 intro f w_ hR
 obtain ⟨rfl,Z⟩:=rk hR2 hR
 refine sq (aI rfl (nn (W_ret (retG1 (v1:=I (-1)) Tryz.results162 rfl ?_))))
 obtain rfl:=so hF
 exact ⟨rfl,Z⟩
theorem slices_ContainsFunc_implConstraint_c {s : List Con} {f_ : (Con→Option Bool)} {v0 : Value} {v1 : Value} {H : FH} {w : World} (Z : Star H w []) (h0 : (rS 73 (rCon 122)).rel H [v0] s) (h1 : Fun1 Tryz.prog (rCon 122) true Value.bool f_ v1 H) {r : Bool} (hF : slices_ContainsFunc_implConstraint s f_ = some r) :
 C Tryz.prog 123 #[v0,v1] w fun v w'=>v = Bo r∧Star H w' []:=by
 unfold slices_ContainsFunc_implConstraint at hF
 obtain ⟨fid_1,caps_1,rfl,hcall_1,hc_1⟩:=h1
 refine C_enter Tryz.func123 rfl Tryz.ntmps123 rfl (sq (aB rfl (nq ?_)))
 obtain ⟨x6,hx6,hF⟩:=bind_some hF
 refine W_region (mV v0 rfl (mV (.func (.func fid_1) #[] caps_1) rfl ?_))
 obtain ⟨H8b,l9,s10,z11,k12⟩:=Z.borrow
 refine L_call rfl Tryz.call162 (ops2 rfl rfl) (slices_IndexFunc_implConstraint_c (s:=s) (f_:=f_) s10 (RP.mono _ h0 l9) (Fun1.le ⟨_,_,rfl,hcall_1,hc_1⟩ l9) hx6) ?_
 rintro _ w13 ⟨rfl,Z⟩
 have Z:=k12 Z c0
 refine L_geq rfl rfl rfl (aB rfl (nn (W_ret (retG1 (v1:=Bo (decide (x6 ≥ 0))) Tryz.results123 rfl ?_))))
 obtain rfl:=so hF
 exact ⟨rfl,Z⟩
theorem i_allValid_1_c {c : Con} {v0_0 : Value} {H : FH} {w : World} (Z : Star H w []) (h0_0 : (rS 122 rTerm).rel H [v0_0] c.terms) {r : Bool} (hF : i_allValid_1 c = some r) :
 C Tryz.prog 129 #[.agg #[v0_0,I c.bound]] w fun v w'=>v = Bo r∧Star H w' []:=by
 unfold i_allValid_1 at hF
 refine C_enter Tryz.func129 rfl Tryz.ntmps129 rfl (sq (L_box (v:=.agg #[v0_0,I c.bound]) (cs:=#[v0_0,I c.bound]) rfl rfl rfl Z (fun g3 w4 Z=>aB rfl (nq ?_))))
 obtain ⟨x10,hx10,hF⟩:=bind_some hF
 refine W_region (L_lda (cs:=[v0_0,I c.bound]) rfl Tryz.isAgg73 Tryz.sizeOf73 rfl (At.sub0 (Blk.at (Star.blkAt 0 Z rfl)) 0 2) rfl ?_)
 obtain ⟨H12b,l13,s14,z15,k16⟩:=Z.borrow
 refine L_call rfl Tryz.call130 (ops1 rfl) (i_ConstraintValid_c (c:=c) s14 (RP.mono _ h0_0 l13) hx10) ?_
 rintro _ w17 ⟨rfl,Z⟩
 have Z:=k16 Z c0
 refine L_not_ rfl rfl (aB rfl (nn (W_ret (retG1 (v1:=Bo (!x10)) Tryz.results129 rfl ?_))))
 obtain rfl:=so hF
 exact ⟨rfl,(Star.keepN 0 Z)⟩
theorem i_allValid_c {list : List Con} {v0 : Value} {H : FH} {w : World} (Z : Star H w []) (h0 : (rS 73 (rCon 122)).rel H [v0] list) {r : Bool} (hF : i_allValid list = some r) :
 C Tryz.prog 80 #[v0] w fun v w'=>v = Bo r∧Star H w' []:=by
 unfold i_allValid at hF
 refine C_enter Tryz.func80 rfl Tryz.ntmps80 rfl (sq (aB rfl (nq ?_)))
 obtain ⟨x6,hx6,hF⟩:=bind_some hF
 refine W_region (mV v0 rfl ?_)
 obtain ⟨H8b,l9,s10,z11,k12⟩:=Z.borrow
 have hf13 : Fun1 Tryz.prog (rCon 122) true Value.bool i_allValid_1 (.func (.func 129) #[] #[]) H8b:=by
   refine ⟨_,_,rfl,Tryz.call129,fun H_ w_ hE_ hs_ cs_ x_ y_ args_ hr_ hy_ ha_=>?_⟩
   obtain ⟨p_0,rfl,hp_0⟩:=rCon_iff.1 hr_
   obtain rfl:=args_of (b:=#[.agg #[p_0,I x_.bound]]) ha_
   exact i_allValid_1_c (c:=x_) hs_ hp_0 hy_
 refine L_call rfl Tryz.call123 (ops2 rfl rfl) (slices_ContainsFunc_implConstraint_c (s:=list) (f_:=i_allValid_1) s10 (RP.mono _ h0 l9) hf13 hx6) ?_
 rintro _ w14 ⟨rfl,Z⟩
 have Z:=k12 Z c0
 refine L_not_ rfl rfl (aB rfl (nn (W_ret (retG1 (v1:=Bo (!x6)) Tryz.results80 rfl ?_))))
 obtain rfl:=so hF
 exact ⟨rfl,Z⟩
theorem i_ProblemValid_c {list : List Con} {v0 : Value} {H : FH} {w : World} (Z : Star H w []) (h0 : (rS 73 (rCon 122)).rel H [v0] list) {r : Bool} (hF : i_ProblemValid list = some r) :
 C Tryz.prog 37 #[v0] w fun v w'=>v = Bo r∧Star H w' []:=by
 unfold i_ProblemValid at hF
 refine C_enter Tryz.func37 rfl Tryz.ntmps37 rfl (sq (aB rfl (nq ?_)))
 obtain ⟨b8,hb8,hF⟩:=bind_some hF
 obtain ⟨R9,hR9⟩:=exR fun f w_=>f 2 = Bo b8∧Star H w_ ([])
 refine W_join R9 ?_ ?_
 refine W_region (mV v0 rfl (L_len rfl Tryz.underlying28 rfl (slice_len h0) (L_leq rfl rfl rfl (mB rfl (L_split (d:=6) (b:=decide ((list.length : Int)≤400)) rfl (fun hc10=>?_) (fun hc10=>?_))))))
 rw [ite_t hc10] at hb8
 obtain ⟨x6,hx6,hb8⟩:=bind_some hb8
 refine mV v0 rfl ?_
 obtain ⟨H11b,l12,s13,z14,k15⟩:=Z.borrow
 refine L_call rfl Tryz.call80 (ops1 rfl) (i_allValid_c (list:=list) s13 (RP.mono _ h0 l12) hx6) ?_
 rintro _ w16 ⟨rfl,Z⟩
 have Z:=k15 Z c0
 refine L_pick (v:=Bo b8) rfl rfl (congrArg Value.bool (so hb8)) (aB rfl (nn (rj hR9 ⟨rfl,Z⟩)))
 rw [ite_f hc10] at hb8
 refine ps rfl (ps rfl (L_pick (v:=Bo b8) rfl rfl (congrArg Value.bool (so hb8)) (aB rfl (nn (rj hR9 ⟨rfl,Z⟩)))))
 intro f w_ hR
 obtain ⟨sf2,Z⟩:=rk hR9 hR
 refine W_ret (retG1 (v1:=Bo b8) Tryz.results37 sf2 ?_)
 obtain rfl:=so hF
 exact ⟨rfl,Z⟩
theorem i_Rule_at_c {r_ : Rule} {cells : List Int} {v0_1 : Value} {v0_2 : Value} {v0_4 : Value} {v1 : Value} {H : FH} {w : World} (Z : Star H w []) (h0_1 : (rS 3 RP.int).rel H [v0_1] r_.vars) (h0_2 : (rS 3 RP.int).rel H [v0_2] r_.coefs) (h0_4 : (rS 23 (rS 3 RP.int)).rel H [v0_4] r_.rows) (h1 : (rS 3 RP.int).rel H [v1] cells) {r : Bool} (hF : i_Rule_at r_ cells = some r) :
 C Tryz.prog 78 #[.agg #[I r_.kind,v0_1,v0_2,I r_.bound,v0_4],v1] w fun v w'=>v = Bo r∧Star H w' []:=by
 unfold i_Rule_at at hF
 refine C_enter Tryz.func78 rfl Tryz.ntmps78 rfl (sq (L_box (v:=.agg #[I r_.kind,v0_1,v0_2,I r_.bound,v0_4]) (cs:=#[I r_.kind,v0_1,v0_2,I r_.bound,v0_4]) rfl rfl rfl Z (fun g3 w4 Z=>aB rfl (ns (aV S0 rfl (nq (sq (fA 1 fa_79_1 rfl rfl (ldB 0 Z Tryz.isAgg23 rfl rfl rfl (L_len rfl Tryz.underlying23 rfl (slice_len h0_1) (mI rfl (nn ?_))))))))))))
 have hlen8 : List.length r_.vars≤9223372036854775807:=len_le (slice_len h0_1)
 obtain ⟨j8,hL8,hF⟩:=bind_some hF
 obtain ⟨R8,hR8⟩:=exR fun f w_=>∃ vals_6 : List Int,∃ v6_vals : Value,j8 = .nx vals_6∧f 2 = Pt g3∧f 5 = v6_vals∧Star H w_ ([oF 3 RP.int v6_vals vals_6,box g3 79 #[I r_.kind,v0_1,v0_2,I r_.bound,v0_4]])
 refine W_join R8 ?_ ?_
 refine W_block ?_
 obtain ⟨I8,hI8⟩:=exI fun n f w_=>∃ i_5 : Nat,∃ suf8 : List Int,∃ vals_6 : List Int,∃ v6_vals : Value,n = suf8.length∧List.drop i_5 r_.vars = suf8∧i_5 + suf8.length = r_.vars.length∧rangeL (i_Rule_at_b1 cells) suf8 i_5 vals_6 = some j8∧f 1 = v1∧f 2 = Pt g3∧f 5 = v6_vals∧f 9 = v0_1∧f 10 = I (r_.vars.length : Int)∧f 11 = I i_5∧Star H w_ ([oF 3 RP.int v6_vals vals_6,box g3 79 #[I r_.kind,v0_1,v0_2,I r_.bound,v0_4]])
 have Z:=Star.addNil (R:=(OR.frz RP.int)) (e:=3) Z
 refine W_loop I8 (n:=r_.vars.length) ?_ ?_
 exact ij hI8 ⟨0,r_.vars,[],S0,rfl,rfl,Nat.zero_add _,hL8,rfl,rfl,rfl,rfl,rfl,rfl,Z⟩
 intro n8 f w_ hI
 obtain ⟨i_5,suf8,vals_6,v6_vals,rfl,hd8,hl8,hL8,sf1,sf2,sf5,sf9,sf10,sf11,Z⟩:=ik hI8 hI
 refine sq (L_lss rfl sf11 sf10 (nq (W_cond (b:=decide ((i_5 : Int) < (r_.vars.length : Int))) rfl (fun hc10=>?_) (fun hc10=>?_))))
 have hlt8:=of_decide_eq_true hc10
 rcases suf8 with _ | ⟨x_8,rest8⟩
 exact absurd hlt8 (by simp at hl8; omega)
 obtain ⟨o8,hB8,hL8⟩:=range_cons hL8
 rw [i_Rule_at_b1] at hB8
 have hix8:=drop_idx hd8
 refine W_skip (W_seq (W_block (sq (L_ix (r:=RP.int) rfl Tryz.underlying23 Tryz.sizeOf3 sf9 h0_1 sf11 hix8 (fun g15 o16 cs_g15 hrk_hat17 hat17=>?_)))))
 obtain rfl : _ = [_]:=hrk_hat17
 refine L_ld rfl Tryz.isAgg3 rfl (At.cell (AtH.at hat17 Z.sub) (j:=0) rfl) (aI rfl (nn ?_))
 obtain ⟨x19,hx19,hB8⟩:=bind_some hB8
 obtain ⟨x27,hx27,hB8⟩:=bind_some hB8
 refine W_region (mF sf5 rfl (mF sf1 rfl (mI rfl (L_ix (r:=RP.int) rfl Tryz.underlying23 Tryz.sizeOf3 rfl h1 rfl hx19 (fun g31 o32 cs_g31 hrk_hat33 hat33=>?_)))))
 obtain rfl : _ = [_]:=hrk_hat33
 refine L_ld rfl Tryz.isAgg3 rfl (At.cell (AtH.at hat33 Z.sub) (j:=0) rfl) (L_bs rfl (parts1 rfl) (bs_23_1_0 (I x19) rfl) Z (fun g35 w36 Z=>?_))
 have Z:=Star.addF (r:=RP.int) (cs:=[I x19]) (x:=x19) Z rfl
 have Z:=Star.mkRow (R:=(OR.frz RP.int)) [([I x19],x19)] [x19] 1 Z rfl rfl rfl (by decide)
 have Z:=Z.get 1 rfl
 refine L_appM (v:=v6_vals) (u:=(Sl g35 1 1)) rfl et_23 rfl rfl Z hx27 (fun v38 w39 Z=>aV v38 rfl (nn (W_region (L_add rfl sf11 rfl (mI rfl (nn ?_))))))
 obtain rfl:=so hB8
 show ∃ m,m < _∧I8 m _ _
 refine ⟨rest8.length,by simp,?_⟩
 exact ij hI8 ⟨i_5 + 1,rest8,x27,v38,rfl,drop_next hd8,by simp at hl8; omega,hL8,sf1,sf2,rfl,sf9,sf10,(Eq.trans rfl (congrArg (Value.int .i64) (i64_succ (n:=r_.vars.length) (by simp at hl8; omega) hlen8))),Z⟩
 rcases suf8 with _ | ⟨_,_⟩
 obtain rfl:=range_nil hL8
 refine W_exit (rj hR8 ⟨vals_6,v6_vals,rfl,sf2,sf5,Z⟩)
 exact absurd (of_decide_eq_false hc10) (by simp at hl8; omega)
 intro f w_ hR
 obtain ⟨vals_6,v6_vals,rfl,sf2,sf5,Z⟩:=rk hR8 hR
 refine W_seq ?_
 obtain ⟨x47,hx47,hF⟩:=bind_some hF
 refine W_region (L_lda (cs:=[I r_.kind,v0_1,v0_2,I r_.bound,v0_4]) rfl Tryz.isAgg79 Tryz.sizeOf79 sf2 (At.sub0 (Blk.at (Star.blkAt 1 Z rfl)) 0 5) rfl (mF sf5 rfl ?_))
 obtain ⟨H49b,l50,s51,z52,k53⟩:=Z.borrow
 have hb54 : (rS 3 RP.int).rel H49b [v6_vals] vals_6:=fz_own 0 z52 rfl
 refine L_call rfl Tryz.call105 (ops2 rfl rfl) (i_Rule_holds_c (r_:=r_) (vals:=vals_6) s51 (RP.mono _ h0_1 l50) (RP.mono _ h0_2 l50) (RP.mono _ h0_4 l50) hb54 hx47) ?_
 rintro _ w55 ⟨rfl,Z⟩
 have Z:=k53 Z c0
 refine aB rfl (nn (W_ret (retG1 (v1:=Bo x47) Tryz.results78 rfl ?_)))
 obtain rfl:=so hF
 exact ⟨rfl,(Star.keepN 0 Z)⟩
theorem i_Model_solves_1_c {c1 : List Int} {r_ : Rule} {v0_1 : Value} {v0_2 : Value} {v0_4 : Value} {g_c1 : Nat} {v1_0 : Value} {H : FH} {w : World} (Z : Star H w []) (h0_1 : (rS 3 RP.int).rel H [v0_1] r_.vars) (h0_2 : (rS 3 RP.int).rel H [v0_2] r_.coefs) (h0_4 : (rS 23 (rS 3 RP.int)).rel H [v0_4] r_.rows) (hat_g_c1 : AtH H g_c1 0 [v1_0]) (h1_0 : (rS 3 RP.int).rel H [v1_0] c1) {r : Bool} (hF : i_Model_solves_1 c1 r_ = some r) :
 C Tryz.prog 117 #[.agg #[I r_.kind,v0_1,v0_2,I r_.bound,v0_4],Pt g_c1] w fun v w'=>v = Bo r∧Star H w' []:=by
 unfold i_Model_solves_1 at hF
 refine C_enter Tryz.func117 rfl Tryz.ntmps117 rfl (sq (L_box (v:=.agg #[I r_.kind,v0_1,v0_2,I r_.bound,v0_4]) (cs:=#[I r_.kind,v0_1,v0_2,I r_.bound,v0_4]) rfl rfl rfl Z (fun g3 w4 Z=>aB rfl (nq ?_))))
 obtain ⟨x10,hx10,hF⟩:=bind_some hF
 refine W_region (L_lda (cs:=[I r_.kind,v0_1,v0_2,I r_.bound,v0_4]) rfl Tryz.isAgg79 Tryz.sizeOf79 rfl (At.sub0 (Blk.at (Star.blkAt 0 Z rfl)) 0 5) rfl (L_ld rfl Tryz.isAgg23 rfl (At.cell0 (AtH.at hat_g_c1 Z.sub) (j:=0) rfl) ?_))
 obtain ⟨H12b,l13,s14,z15,k16⟩:=Z.borrow
 refine L_call rfl Tryz.call78 (ops2 rfl rfl) (i_Rule_at_c (r_:=r_) (cells:=c1) s14 (RP.mono _ h0_1 l13) (RP.mono _ h0_2 l13) (RP.mono _ h0_4 l13) (RP.mono _ h1_0 l13) hx10) ?_
 rintro _ w17 ⟨rfl,Z⟩
 have Z:=k16 Z c0
 refine L_not_ rfl rfl (aB rfl (nn (W_ret (retG1 (v1:=Bo (!x10)) Tryz.results117 rfl ?_))))
 obtain rfl:=so hF
 exact ⟨rfl,(Star.keepN 0 Z)⟩
theorem i_Model_solves_c {m : Model} {cells : List Int} {v0_0 : Value} {v0_1 : Value} {v1 : Value} {H : FH} {w : World} (Z : Star H w []) (h0_0 : (rS 3 RP.int).rel H [v0_0] m.sizes) (h0_1 : (rS 79 (rRule 3 23)).rel H [v0_1] m.rules) (h1 : (rS 3 RP.int).rel H [v1] cells) {r : Bool} (hF : i_Model_solves m cells = some r) :
 C Tryz.prog 59 #[.agg #[v0_0,v0_1],v1] w fun v w'=>v = Bo r∧Star H w' []:=by
 unfold i_Model_solves at hF
 refine C_enter Tryz.func59 rfl Tryz.ntmps59 rfl (sq (L_box (v:=.agg #[v0_0,v0_1]) (cs:=#[v0_0,v0_1]) rfl rfl rfl Z (fun g5 w6 Z=>L_box (v:=v1) (cs:=#[v1]) rfl rfl (cells_one (one_len (slice_len h1))) Z (fun g7 w8 Z=>aB rfl (nq ?_)))))
 obtain ⟨x14,hx14,hF⟩:=bind_some hF
 refine W_region (fA 1 fa_26_1 rfl rfl (ldB 1 Z Tryz.isAgg24 rfl rfl rfl (L_mf rfl (ops1 rfl) ?_)))
 obtain ⟨H16b,l17,s18,z19,k20⟩:=Z.borrow
 have hf21 : Fun1 Tryz.prog (rRule 3 23) true Value.bool (i_Model_solves_1 cells) (.func (.func 117) #[] #[Pt g7]) H16b:=by
   refine ⟨_,_,rfl,Tryz.call117,fun H_ w_ hE_ hs_ cs_ x_ y_ args_ hr_ hy_ ha_=>?_⟩
   obtain ⟨p_0,p_1,p_2,rfl,hp_0,hp_1,hp_2⟩:=rRule_iff.1 hr_
   obtain rfl:=args_of (b:=#[.agg #[I x_.kind,p_0,p_1,I x_.bound,p_2],Pt g7]) ha_
   exact i_Model_solves_1_c (c1:=cells) (r_:=x_) hs_ hp_0 hp_1 hp_2 (AtH.le (AtH.of (fz_box 0 z19 rfl)) hE_) (RP.mono _ (RP.mono _ h1 l17) hE_) hy_
 refine L_call rfl Tryz.call93 (ops2 rfl rfl) (slices_ContainsFunc_implRule_c (s:=m.rules) (f_:=(i_Model_solves_1 cells)) s18 (RP.mono _ h0_1 l17) hf21 hx14) ?_
 rintro _ w22 ⟨rfl,Z⟩
 have Z:=k20 Z c0
 refine L_not_ rfl rfl (aB rfl (nn (W_ret (retG1 (v1:=Bo (!x14)) Tryz.results59 rfl ?_))))
 obtain rfl:=so hF
 exact ⟨rfl,(Star.keepN 0 Z)⟩
theorem i_CountModel_c {fu : Nat} {m : Model} {v0_0 : Value} {v0_1 : Value} {H : FH} {w : World} (Z : Star H w []) (h0_0 : (rS 3 RP.int).rel H [v0_0] m.sizes) (h0_1 : (rS 79 (rRule 3 23)).rel H [v0_1] m.rules) {r : Int} (hF : i_CountModel fu m = some r) :
 C Tryz.prog 17 #[.agg #[v0_0,v0_1]] w fun v w'=>v = I r∧Star H w' []:=by
 unfold i_CountModel at hF
 refine C_enter Tryz.func17 rfl Tryz.ntmps17 rfl (sq (L_box (v:=.agg #[v0_0,v0_1]) (cs:=#[v0_0,v0_1]) rfl rfl rfl Z (fun g3 w4 Z=>aI rfl (nq (W_seq ?_)))))
 obtain ⟨x10,hx10,hF⟩:=bind_some hF
 refine W_region (L_lda (cs:=[v0_0,v0_1]) rfl Tryz.isAgg26 Tryz.sizeOf26 rfl (At.sub0 (Blk.at (Star.blkAt 0 Z rfl)) 0 2) rfl ?_)
 obtain ⟨H12b,l13,s14,z15,k16⟩:=Z.borrow
 refine L_call rfl Tryz.call46 (ops1 rfl) (i_ModelValid_c (m:=m) s14 (RP.mono _ h0_0 l13) (RP.mono _ h0_1 l13) hx10) ?_
 rintro _ w17 ⟨rfl,Z⟩
 have Z:=k16 Z c0
 refine L_not_ rfl rfl (nn (W_cond (b:=(!x10)) rfl (fun hc18=>?_) (fun hc18=>?_)))
 have hF:=(ite_t hc18).symm.trans hF
 refine sq (aI rfl (nn (W_ret (retG1 (v1:=I 0) Tryz.results17 rfl ?_))))
 obtain rfl:=so hF
 exact ⟨rfl,(Star.keepN 0 Z)⟩
 have hF:=(ite_f hc18).symm.trans hF
 refine W_skip (sq (L_al (cs:=#[I 0]) rfl Tryz.zeroValue3 rfl Z (fun g22 w23 Z=>L_stB (v:=I 0) (cs2:=#[I 0]) 0 rfl Tryz.sizeOf3 rfl rfl rfl Z rfl rfl rfl (fun w24 Z=>nq ?_))))
 obtain ⟨x25,hx25,hF⟩:=bind_some hF
 obtain ⟨g22_0_29,hI32,hF⟩:=bind_some hF
 refine W_drawS 7 [isV (Pt g3),isV (v0_0),isV (Pt g3),isV (v0_0),isV (I (m.sizes.length : Int)),anyF,isV (.func (.func 58) #[] #[Pt g3,Pt g22])] [box g22 3 #[I 0],box g3 26 #[v0_0,v0_1]] [.made 5 12 (fun v_=>oF 3 RP.int v_ x25) none] ([]) [([],[]),([],[]),([],[]),([],[]),([],[]),([],[0]),([],[])] (S:=[(some 5,[12],none)]) Tryz_mix (by kernel_rfl) rfl (by kernel_rfl) (amF_cons (mono_V _) (amF_cons (mono_V _) (amF_cons (mono_V _) (amF_cons (mono_V _) (amF_cons (mono_V _) (amF_cons (mono_any) (amF_cons (mono_V _) amF_nil))))))) Z ?_ (fun f w_ H33 hS33 hE33 hT33 Z=>?_)
 refine opsS_cons (fun f w_ _ _ s _ _ Z=>fA 0 fa_26_0 ((s 1 rfl).trans rfl) rfl (nO rfl rfl Z)) (opsS_cons (fun f w_ _ _ _ _ p Z=>ldB 1 Z Tryz.isAgg23 (p 0 7 rfl rfl) rfl rfl (nO rfl rfl Z)) (opsS_cons (fun f w_ _ _ s _ _ Z=>fA 0 fa_26_0 ((s 1 rfl).trans rfl) rfl (nO rfl rfl Z)) (opsS_cons (fun f w_ _ _ _ _ p Z=>ldB 1 Z Tryz.isAgg23 (p 2 9 rfl rfl) rfl rfl (nO rfl rfl Z)) (opsS_cons (fun f w_ _ _ _ hE33 p Z=>L_len rfl Tryz.underlying23 (p 3 10 rfl rfl) (slice_len (RP.mono _ h0_0 hE33)) (nO rfl rfl Z)) (opsS_cons ?_ ?_)))))
 intro f w_ H33 X33 hS33 hE33 hP33 Z
 refine L_mk (R:=(OR.frz RP.int)) (z0:=0) (zc:=[I 0]) rfl et_23 (by kernel_rfl) (fun _ _=>⟨rfl,rfl⟩) (hP33 4 11 rfl rfl) (hP33 4 11 rfl rfl) hx25 Z (fun v37 w38 Z=>?_)
 have Z:=Z.gets [2,2] rfl
 exact L_nil ⟨rfl,_,_,rfl,Le.refl _,fun _ _=>trivial,Z⟩
 refine opsS_cons (fun f w_ _ _ s _ _ Z=>L_mf rfl (ops2 ((s 1 rfl).trans rfl) ((s 3 rfl).trans rfl)) (nO rfl rfl Z)) (opsS_nil)
 have Z : Star H33 w_ ([box g22 3 #[I 0],box g3 26 #[v0_0,v0_1],oF 3 RP.int (f 12) x25]):=Z
 obtain ⟨R44,hR44⟩ : ∃ RV_ : Value→World→Prop,RV_ = fun v w_=>∃ H42 : FH,v = .tuple #[]∧Le H33 H42∧Star H42 w_ ([box g22 3 #[I g22_0_29]]):=⟨_,rfl⟩
 refine L_call (args:=#[v0_0,(f 12),.func (.func 58) #[] #[Pt g3,Pt g22]]) (R:=R44) rfl Tryz.call57 (ops3 (hT33 1 8 rfl rfl) rfl (hT33 6 13 rfl rfl)) ?_ ?_
 refine C_enter Tryz.func57 rfl Tryz.ntmps57 rfl ?_
 have hA44:=hI32
 unfold i_CountModel_i1 at hA44
 refine W_seq ?_
 obtain ⟨x51,hx51,hA44⟩:=bind_some hA44
 refine W_region (mV (f 12) rfl ?_)
 obtain ⟨H54b,l55,s56,z57,k58⟩:=Z.borrow
 have hb59 : (rS 3 RP.int).rel H54b [(f 12)] x25:=fz_own 2 z57 rfl
 refine L_call rfl Tryz.call62 (ops1 rfl) (slices_Clone_int_c (s:=x25) s56 hb59 hx51) ?_
 rintro r60_0 w60 ⟨_,rfl,Z⟩
 have Z:=k58 Z (co closed_int c0)
 refine aV r60_0 rfl (nn ?_)
 obtain ⟨j67,hL67,hA44⟩:=bind_some hA44
 obtain ⟨R67,hR67⟩:=exR fun f w_=>∃ cells_63 : List Int,∃ g22_0_64 : Int,∃ H65 : FH,j67 = .nx (cells_63,g22_0_64)∧Le H33 H65∧Star H65 w_ ([box g22 3 #[I g22_0_64]])
 refine W_join R67 ?_ ?_
 refine W_block ?_
 obtain ⟨I67,hI67⟩:=exI fun n f w_=>∃ cells_63 : List Int,∃ g22_0_64 : Int,∃ H65 : FH,whileL (i_CountModel_b2 fu m) n (cells_63,g22_0_64) = some j67∧Le H33 H65∧f 0 = v0_0∧f 2 = .func (.func 58) #[] #[Pt g3,Pt g22]∧f 6 = r60_0∧Star H65 w_ ([oF 3 RP.int r60_0 cells_63,box g22 3 #[I g22_0_64],box g3 26 #[v0_0,v0_1]])
 refine W_loop I67 (n:=fu) ?_ ?_
 exact ij hI67 ⟨x51,0,H33,hL67,(Le.refl _),rfl,rfl,rfl,(Star.keepN 3 Z)⟩
 intro n67 f w_ hI
 obtain ⟨cells_63,g22_0_64,H65,hL67,l66,sf0,sf2,sf6,Z⟩:=ik hI67 hI
 rcases n67 with _ | n67
 exact (while_zero hL67).elim
 obtain ⟨o67,hB67,hL67⟩:=while_succ hL67
 rw [i_CountModel_b2] at hB67
 refine W_seq (W_seq ?_)
 obtain ⟨⟨ret0_68,g22_0_69⟩,hI70,hB67⟩:=bind_some hB67
 refine W_region (mF sf2 rfl (mF sf6 rfl ?_))
 obtain ⟨R73,hR73⟩ : ∃ RV_ : Value→World→Prop,RV_ = fun v w_=>v = Bo ret0_68∧Star H65 w_ ([oF 3 RP.int r60_0 cells_63,box g22 3 #[I g22_0_69],box g3 26 #[v0_0,v0_1]]):=⟨_,rfl⟩
 refine L_callv (args:=#[r60_0]) (R:=R73) rfl Tryz.call58 rfl (ops1 rfl) ?_ ?_
 show C _ _ #[r60_0,Pt g3,Pt g22] _ _
 refine C_enter Tryz.func58 rfl Tryz.ntmps58 rfl ?_
 have hA73:=hI70
 unfold i_CountModel_i3 at hA73
 refine sq (aB rfl (nq (W_seq ?_)))
 obtain ⟨x80,hx80,hA73⟩:=bind_some hA73
 refine W_region (L_lda (cs:=[v0_0,v0_1]) rfl Tryz.isAgg26 Tryz.sizeOf26 rfl (At.sub0 (Blk.at (Star.blkAt 2 Z rfl)) 0 2) rfl (mV r60_0 rfl ?_))
 obtain ⟨H82b,l83,s84,z85,k86⟩:=Z.borrow
 have hb87 : (rS 3 RP.int).rel H82b [r60_0] cells_63:=fz_own 0 z85 rfl
 refine L_call rfl Tryz.call59 (ops2 rfl rfl) (i_Model_solves_c (m:=m) (cells:=cells_63) s84 (RP.mono _ h0_0 (Le.trans (Le.trans hE33 l66) l83)) (RP.mono _ h0_1 (Le.trans (Le.trans hE33 l66) l83)) hb87 hx80) ?_
 rintro _ w88 ⟨rfl,Z⟩
 have Z:=k86 Z c0
 refine nn ?_
 obtain ⟨g22_0_89,hA90,hA73⟩:=bind_some hA73
 obtain ⟨R90,hR90⟩:=exR fun f w_=>Star H65 w_ ([oF 3 RP.int r60_0 cells_63,box g22 3 #[I g22_0_89],box g3 26 #[v0_0,v0_1]])
 refine W_join R90 ?_ ?_
 refine W_cond (b:=x80) rfl (fun hc91=>?_) (fun hc91=>?_)
 have hA90:=(ite_t hc91).symm.trans hA90
 refine W_region (ldB 1 Z Tryz.isAgg3 rfl rfl rfl (L_add rfl rfl rfl (L_stB (v:=I (i64 (g22_0_64 + 1))) (cs2:=#[I (i64 (g22_0_64 + 1))]) 1 rfl Tryz.sizeOf3 rfl rfl rfl Z rfl rfl rfl (fun w93 Z=>nn ?_))))
 obtain rfl:=so hA90
 have Z:=Z.gets [2,1,2] rfl
 exact rj hR90 Z
 have hA90:=(ite_f hc91).symm.trans hA90
 refine W_skip ?_
 obtain rfl:=so hA90
 exact rj hR90 Z
 intro f w_ hR
 rw [hR90] at hR
 have Z:=hR
 clear hR90
 refine sq (aB rfl (nn (W_ret (retG1 (v1:=Bo true) Tryz.results58 rfl ?_))))
 obtain ⟨rfl,rfl⟩:=so2 hA73
 show R73 _ _
 rw [hR73]
 exact ⟨rfl,Z⟩
 intro v_73 w_ hR
 rw [hR73] at hR
 obtain ⟨hvr73,Z⟩:=hR
 obtain rfl:=hvr73.symm
 clear hR73
 refine nn (W_cond (b:=ret0_68) rfl (fun hc94=>?_) (fun hc94=>?_))
 have hB67:=(ite_t hc94).symm.trans hB67
 refine W_skip (W_block (sq (mF sf6 rfl (L_len rfl Tryz.underlying23 rfl (Star.len 0 Z rfl) (L_sub rfl rfl rfl (aI rfl (nq ?_)))))))
 obtain ⟨j100,hL100,hB67⟩:=bind_some hB67
 obtain ⟨R100,hR100⟩:=exR fun f w_=>∃ cells_96 : List Int,∃ i_97 : Int,∃ H98 : FH,j100 = .nx (cells_96,i_97)∧Le H65 H98∧f 0 = v0_0∧f 2 = .func (.func 58) #[] #[Pt g3,Pt g22]∧f 6 = r60_0∧f 7 = I i_97∧Star H98 w_ ([oF 3 RP.int r60_0 cells_96,box g22 3 #[I g22_0_69],box g3 26 #[v0_0,v0_1]])
 refine W_join R100 ?_ ?_
 refine W_block ?_
 obtain ⟨I100,hI100⟩:=exI fun n f w_=>∃ cells_96 : List Int,∃ i_97 : Int,∃ H98 : FH,whileL (i_CountModel_b4 m) n (cells_96,i_97) = some j100∧Le H65 H98∧f 0 = v0_0∧f 2 = .func (.func 58) #[] #[Pt g3,Pt g22]∧f 6 = r60_0∧f 7 = I i_97∧Star H98 w_ ([oF 3 RP.int r60_0 cells_96,box g22 3 #[I g22_0_69],box g3 26 #[v0_0,v0_1]])
 refine W_loop I100 (n:=fu) ?_ ?_
 exact ij hI100 ⟨cells_63,i64 ((cells_63.length : Int) - 1),H65,hL100,(Le.refl _),sf0,sf2,sf6,rfl,Z⟩
 intro n100 f w_ hI
 obtain ⟨cells_96,i_97,H98,hL100,l99,sf0,sf2,sf6,sf7,Z⟩:=ik hI100 hI
 rcases n100 with _ | n100
 exact (while_zero hL100).elim
 obtain ⟨o100,hB100,hL100⟩:=while_succ hL100
 rw [i_CountModel_b4] at hB100
 refine W_seq (W_seq ?_)
 obtain ⟨b111,hb111,hB100⟩:=bind_some hB100
 obtain ⟨R115,hR115⟩:=exR fun f w_=>∃ H113 : FH,Le H98 H113∧f 0 = v0_0∧f 2 = .func (.func 58) #[] #[Pt g3,Pt g22]∧f 6 = r60_0∧f 7 = I i_97∧f 28 = Bo b111∧Star H113 w_ ([oF 3 RP.int r60_0 cells_96,box g22 3 #[I g22_0_69],box g3 26 #[v0_0,v0_1]])
 refine W_join R115 ?_ ?_
 rcases Bool.eq_false_or_eq_true (decide (i_97 ≥ 0)) with hc116 | hc116
 rw [ite_t hc116] at hb111
 obtain ⟨x101,hx101,hb111⟩:=bind_some hb111
 obtain ⟨x106,hx106,hb111⟩:=bind_some hb111
 obtain ⟨g117,cap_g117,hv118,_,_⟩:=Star.row 0 Z rfl hx101
 refine W_drawS 11 [isV (I i_97),isV (Bo (decide (i_97 ≥ 0))),isV (Bo (decide (i_97 ≥ 0))),isV (r60_0),isV (I i_97),isV (.pointer (some ⟨g117,Int.toNat i_97 * 1,none⟩)),isV (I x101),isV (v0_0),isV (I i_97),isEl RP.int x106 0,isV (I x106)] [oF 3 RP.int r60_0 cells_96,box g22 3 #[I g22_0_69],box g3 26 #[v0_0,v0_1]] [] ([]) [([],[]),([],[]),([],[]),([],[]),([],[]),([],[]),([],[]),([],[]),([],[]),([],[]),([],[])] (S:=[]) Tryz_mix (by kernel_rfl) rfl (by kernel_rfl) (amF_cons (mono_V _) (amF_cons (mono_V _) (amF_cons (mono_V _) (amF_cons (mono_V _) (amF_cons (mono_V _) (amF_cons (mono_V _) (amF_cons (mono_V _) (amF_cons (mono_V _) (amF_cons (mono_V _) (amF_cons (mono_el _ _ _) (amF_cons (mono_V _) amF_nil))))))))))) Z ?_ (fun f w_ H112 hS112 hE112 hT112 Z=>?_)
 refine opsS_cons (fun f w_ _ _ s _ _ Z=>mF ((s 7 rfl).trans sf7) rfl (nO rfl rfl Z)) (opsS_cons (fun f w_ _ _ _ _ p Z=>L_geq rfl (p 0 16 rfl rfl) rfl (nO rfl rfl Z)) (opsS_cons (fun f w_ _ _ _ _ p Z=>mF (p 1 17 rfl rfl) rfl (nO rfl rfl Z)) (opsS_cons (fun f w_ _ _ s _ p Z=>L_mv (v:=r60_0) (g_yes rfl (Eq.trans (p 2 18 rfl rfl) (congrArg Value.bool hc116)) rfl) ((s 6 rfl).trans sf6) (nO rfl rfl Z)) (opsS_cons (fun f w_ _ _ s _ p Z=>L_mv (v:=I i_97) (g_yes rfl (Eq.trans (p 2 18 rfl rfl) (congrArg Value.bool hc116)) rfl) ((s 7 rfl).trans sf7) (nO rfl rfl Z)) (opsS_cons (fun f w_ _ _ _ _ p Z=>L_ixO (R:=(OR.frz RP.int)) (tb:=0) 0 (g_yes rfl (Eq.trans (p 2 18 rfl rfl) (congrArg Value.bool hc116)) rfl) Tryz.underlying23 Tryz.sizeOf3 (p 3 19 rfl rfl) hv118 (by first | rfl | simp) (p 4 20 rfl rfl) hx101 (nO rfl rfl Z)) (opsS_cons ?_ ?_))))))
 intro f w_ H112 X112 hS112 hE112 hP112 Z
 obtain ⟨cs125,hr125,hat125⟩:=Star.eltF 0 Z rfl hv118 hx101
 obtain rfl : _ = [_]:=hr125
 refine L_ld (v:=I x101) (g_yes rfl (Eq.trans (hP112 2 18 rfl rfl) (congrArg Value.bool hc116)) rfl) Tryz.isAgg3 (hP112 5 21 rfl rfl) (At.cell hat125 (j:=0) rfl) (L_nil ⟨rfl,_,_,rfl,Le.refl _,fun _ _=>rfl,Z⟩)
 refine opsS_cons (fun f w_ _ _ s _ p Z=>L_mv (v:=v0_0) (g_yes rfl (Eq.trans (p 2 18 rfl rfl) (congrArg Value.bool hc116)) rfl) ((s 0 rfl).trans sf0) (nO rfl rfl Z)) (opsS_cons (fun f w_ _ _ s _ p Z=>L_mv (v:=I i_97) (g_yes rfl (Eq.trans (p 2 18 rfl rfl) (congrArg Value.bool hc116)) rfl) ((s 7 rfl).trans sf7) (nO rfl rfl Z)) (opsS_cons ?_ ?_))
 intro f w_ H112 X112 hS112 hE112 hP112 Z
 refine L_ix (r:=RP.int) (g_yes rfl (Eq.trans (hP112 2 18 rfl rfl) (congrArg Value.bool hc116)) rfl) Tryz.underlying23 Tryz.sizeOf3 (hP112 7 23 rfl rfl) (RP.mono _ h0_0 (Le.trans (Le.trans (Le.trans hE33 l66) l99) hE112)) (hP112 8 24 rfl rfl) hx106 (fun g127 o128 cs_g127 hrk_hat129 hat129=>?_)
 obtain rfl : _ = [_]:=hrk_hat129
 exact L_nil ⟨rfl,_,_,rfl,Le.refl _,fun _ _=>⟨_,_,_,rfl,rfl,hat129⟩,Z⟩
 refine opsS_cons ?_ ?_
 intro f w_ H112 X112 hS112 hE112 hP112 Z
 obtain ⟨g131,o131,cs131,hv131,hrk_hat131,hat131⟩:=(hP112 9 25 rfl rfl)
 obtain rfl : _ = [_]:=hrk_hat131
 refine L_ld (v:=I x106) (g_yes rfl (Eq.trans (hP112 2 18 rfl rfl) (congrArg Value.bool hc116)) rfl) Tryz.isAgg3 hv131 (At.cell (AtH.at hat131 Z.sub) (j:=0) rfl) (L_nil ⟨rfl,_,_,rfl,Le.refl _,fun _ _=>rfl,Z⟩)
 exact opsS_nil
 refine L_eql (g_yes rfl (Eq.trans (hT112 2 18 rfl rfl) (congrArg Value.bool hc116)) rfl) (hT112 6 22 rfl rfl) (hT112 10 26 rfl rfl) (L_pick (v:=Bo b111) rfl (Eq.trans (hT112 2 18 rfl rfl) (congrArg Value.bool hc116)) (congrArg Value.bool (so hb111)) (nn (rj hR115 ⟨H112,hE112,((hS112 0 rfl).trans sf0),((hS112 2 rfl).trans sf2),((hS112 6 rfl).trans sf6),((hS112 7 rfl).trans sf7),rfl,Z⟩)))
 rw [ite_f hc116] at hb111
 refine W_drawS 11 [isV (I i_97),isV (Bo (decide (i_97 ≥ 0))),isV (Bo (decide (i_97 ≥ 0))),isV (undef),isV (undef),isV (undef),isV (undef),isV (undef),isV (undef),isV (undef),isV (undef)] [oF 3 RP.int r60_0 cells_96,box g22 3 #[I g22_0_69],box g3 26 #[v0_0,v0_1]] [] ([]) [([],[]),([],[]),([],[]),([],[]),([],[]),([],[]),([],[]),([],[]),([],[]),([],[]),([],[])] (S:=[]) Tryz_mix (by kernel_rfl) rfl (by kernel_rfl) (amF_cons (mono_V _) (amF_cons (mono_V _) (amF_cons (mono_V _) (amF_cons (mono_V _) (amF_cons (mono_V _) (amF_cons (mono_V _) (amF_cons (mono_V _) (amF_cons (mono_V _) (amF_cons (mono_V _) (amF_cons (mono_V _) (amF_cons (mono_V _) amF_nil))))))))))) Z ?_ (fun f w_ H112 hS112 hE112 hT112 Z=>?_)
 refine opsS_cons (fun f w_ _ _ s _ _ Z=>mF ((s 7 rfl).trans sf7) rfl (nO rfl rfl Z)) (opsS_cons (fun f w_ _ _ _ _ p Z=>L_geq rfl (p 0 16 rfl rfl) rfl (nO rfl rfl Z)) (opsS_cons (fun f w_ _ _ _ _ p Z=>mF (p 1 17 rfl rfl) rfl (nO rfl rfl Z)) (oP (fun _ _ p=>gN (p 2 18 rfl rfl) hc116 rfl) (fun _=>rfl) (oP (fun _ _ p=>gN (p 2 18 rfl rfl) hc116 rfl) (fun _=>rfl) (oP (fun _ _ p=>gN (p 2 18 rfl rfl) hc116 rfl) (fun _=>rfl) (oP (fun _ _ p=>gN (p 2 18 rfl rfl) hc116 rfl) (fun _=>rfl) (oP (fun _ _ p=>gN (p 2 18 rfl rfl) hc116 rfl) (fun _=>rfl) (oP (fun _ _ p=>gN (p 2 18 rfl rfl) hc116 rfl) (fun _=>rfl) (oP (fun _ _ p=>gN (p 2 18 rfl rfl) hc116 rfl) (fun _=>rfl) (oP (fun _ _ p=>gN (p 2 18 rfl rfl) hc116 rfl) (fun _=>rfl) (opsS_nil)))))))))))
 refine ps (g_no rfl (Eq.trans (hT112 2 18 rfl rfl) (congrArg Value.bool hc116)) rfl rfl) (L_pick (v:=Bo b111) rfl (Eq.trans (hT112 2 18 rfl rfl) (congrArg Value.bool hc116)) (congrArg Value.bool (so hb111)) (nn (rj hR115 ⟨H112,hE112,((hS112 0 rfl).trans sf0),((hS112 2 rfl).trans sf2),((hS112 6 rfl).trans sf6),((hS112 7 rfl).trans sf7),rfl,Z⟩)))
 intro f w_ hR
 obtain ⟨H113,l114,sf0,sf2,sf6,sf7,sf28,Z⟩:=rk hR115 hR
 refine W_cond (b:=b111) sf28 (fun hc133=>?_) (fun hc133=>?_)
 have hB100:=(ite_t hc133).symm.trans hB100
 refine W_skip (W_block (W_seq ?_))
 obtain ⟨x134,hx134,hB100⟩:=bind_some hB100
 refine W_region (mF sf6 rfl (mF sf7 rfl ?_))
 obtain ⟨g138,cap_g138,hv139,_,_⟩:=Star.row 0 Z rfl hx134
 refine L_ixO (R:=(OR.frz RP.int)) (tb:=0) 0 rfl Tryz.underlying23 Tryz.sizeOf3 rfl hv139 (by first | rfl | simp) rfl hx134 ?_
 have Z:=Star.addF (r:=RP.int) (cs:=[I 0]) (x:=0) Z rfl
 refine L_stE1 (u:=I 0) rfl Tryz.sizeOf3 rfl rfl rfl hv139 Z hx134 (fun w140 Z=>?_)
 refine nn (W_region (mF sf7 rfl (L_sub rfl rfl rfl (aI rfl (nn ?_)))))
 obtain rfl:=so hB100
 show ∃ m,m < _∧I100 m _ _
 refine ⟨n100,Nat.lt_succ_self _,?_⟩
 exact ij hI100 ⟨(cells_96.set (Int.toNat i_97) 0),i64 (i_97 - 1),H113,hL100,(Le.trans l99 l114),sf0,sf2,sf6,rfl,Z⟩
 have hB100:=(ite_f hc133).symm.trans hB100
 refine W_exit ?_
 obtain rfl:=so hB100
 obtain rfl:=so hL100
 exact rj hR100 ⟨cells_96,i_97,H113,rfl,(Le.trans l99 l114),sf0,sf2,sf6,sf7,Z⟩
 intro f w_ hR
 obtain ⟨cells_96,i_97,H98,rfl,l99,sf0,sf2,sf6,sf7,Z⟩:=rk hR100 hR
 refine W_seq (sq (mF sf7 rfl (L_lss rfl rfl rfl (nn (W_cond (b:=decide (i_97 < 0)) rfl (fun hc141=>?_) (fun hc141=>?_))))))
 have hB67:=(ite_t hc141).symm.trans hB67
 refine W_ret (ret0 Tryz.results57 ?_)
 obtain rfl:=so hB67
 obtain rfl:=so hL67
 obtain rfl:=so hA44
 have Z:=Z.get 1 rfl
 show R44 _ _
 rw [hR44]
 exact ⟨H98,rfl,(Le.trans l66 l99),(Star.keepN 1 Z)⟩
 have hB67:=(ite_f hc141).symm.trans hB67
 refine W_skip ?_
 obtain ⟨x142,hx142,hB67⟩:=bind_some hB67
 refine W_region (mF sf6 rfl (mF sf7 rfl ?_))
 obtain ⟨g148,cap_g148,hv149,_,_⟩:=Star.row 0 Z rfl hx142
 refine L_ixO (R:=(OR.frz RP.int)) (tb:=0) 0 rfl Tryz.underlying23 Tryz.sizeOf3 rfl hv149 (by first | rfl | simp) rfl hx142 ?_
 obtain ⟨cs150,hr150,hat150⟩:=Star.eltF 0 Z rfl hv149 hx142
 obtain rfl : _ = [_]:=hr150
 refine L_ld rfl Tryz.isAgg3 rfl (At.cell hat150 (j:=0) rfl) (L_add rfl rfl rfl (L_ixO (R:=(OR.frz RP.int)) (tb:=0) 0 rfl Tryz.underlying23 Tryz.sizeOf3 rfl hv149 (by first | rfl | simp) rfl hx142 ?_))
 have Z:=Star.addF (r:=RP.int) (cs:=[I (i64 (x142 + 1))]) (x:=(i64 (x142 + 1))) Z rfl
 refine L_stE1 (u:=I (i64 (x142 + 1))) rfl Tryz.sizeOf3 rfl rfl rfl hv149 Z hx142 (fun w152 Z=>?_)
 refine nn ?_
 obtain rfl:=so hB67
 show ∃ m,m < _∧I67 m _ _
 refine ⟨n67,Nat.lt_succ_self _,?_⟩
 exact ij hI67 ⟨(cells_96.set (Int.toNat i_97) (i64 (x142 + 1))),g22_0_69,H98,hL67,(Le.trans l66 l99),sf0,sf2,sf6,Z⟩
 have hB67:=(ite_f hc94).symm.trans hB67
 refine W_exit ?_
 obtain rfl:=so hB67
 obtain rfl:=so hL67
 have Z:=Z.get 1 rfl
 exact rj hR67 ⟨cells_63,g22_0_69,H65,rfl,l66,(Star.keepN 1 Z)⟩
 intro f w_ hR
 obtain ⟨cells_63,g22_0_64,H65,rfl,l66,Z⟩:=rk hR67 hR
 obtain rfl:=so hA44
 refine end0 Tryz.results57 ?_
 show R44 _ _
 rw [hR44]
 exact ⟨H65,rfl,l66,Z⟩
 intro v_44 w_ hR
 rw [hR44] at hR
 obtain ⟨H42,hvr44,l43,Z⟩:=hR
 obtain rfl:=hvr44.symm
 clear hR44
 refine L_nil (sq (ldB 0 Z Tryz.isAgg3 ((hS33 3 rfl).trans rfl) rfl rfl (aI rfl (nn (W_ret (retG1 (v1:=I g22_0_29) Tryz.results17 rfl ?_))))))
 obtain rfl:=so hF
 exact ⟨rfl,(Star.down (Star.keepN 0 Z) (Le.trans hE33 l43) c0)⟩
theorem i_holds_c {l : Int} {values : List Bool} {v1 : Value} {H : FH} {w : World} (Z : Star H w []) (h1 : (rS 4 RP.bool).rel H [v1] values) {r : Bool} (hF : i_holds l values = some r) :
 C Tryz.prog 163 #[I l,v1] w fun v w'=>v = Bo r∧Star H w' []:=by
 unfold i_holds at hF
 refine C_enter Tryz.func163 rfl Tryz.ntmps163 rfl (sq (aB rfl (nq ?_)))
 obtain ⟨x6,hx6,hF⟩:=bind_some hF
 obtain ⟨x8,hx8,hF⟩:=bind_some hF
 refine W_region (mV v1 rfl (mI rfl ?_))
 obtain ⟨H13b,l14,s15,z16,k17⟩:=Z.borrow
 refine L_call rfl Tryz.call100 (ops1 rfl) (i_variableOf_c (l:=l) s15 hx6) ?_
 rintro _ w18 ⟨rfl,Z⟩
 have Z:=k17 Z c0
 refine L_sub rfl rfl rfl (L_ix (r:=RP.bool) rfl Tryz.underlying37 Tryz.sizeOf4 rfl h1 rfl hx8 (fun g19 o20 cs_g19 hrk_hat21 hat21=>?_))
 obtain rfl : _ = [_]:=hrk_hat21
 refine L_ld rfl Tryz.isAgg4 rfl (At.cell (AtH.at hat21 Z.sub) (j:=0) rfl) (mI rfl (L_gtr rfl rfl rfl (L_beql (b:=x8) (c:=decide (l > 0)) rfl Tryz.underlying4 rfl rfl (aB rfl (nn (W_ret (retG1 (v1:=Bo (x8 == (decide (l > 0)))) Tryz.results163 rfl ?_)))))))
 obtain rfl:=so hF
 exact ⟨rfl,Z⟩
theorem i_Constraint_holds_c {c : Con} {values : List Bool} {v0_0 : Value} {v1 : Value} {H : FH} {w : World} (Z : Star H w []) (h0_0 : (rS 122 rTerm).rel H [v0_0] c.terms) (h1 : (rS 4 RP.bool).rel H [v1] values) {r : Bool} (hF : i_Constraint_holds c values = some r) :
 C Tryz.prog 125 #[.agg #[v0_0,I c.bound],v1] w fun v w'=>v = Bo r∧Star H w' []:=by
 unfold i_Constraint_holds at hF
 refine C_enter Tryz.func125 rfl Tryz.ntmps125 rfl (sq (L_box (v:=.agg #[v0_0,I c.bound]) (cs:=#[v0_0,I c.bound]) rfl rfl rfl Z (fun g3 w4 Z=>aB rfl (ns (aI rfl (nq (sq (fA 0 fa_73_0 rfl rfl (ldB 0 Z Tryz.isAgg71 rfl rfl rfl (L_len rfl Tryz.underlying71 rfl (slice_len h0_0) (mI rfl (nn ?_))))))))))))
 have hlen7 : List.length c.terms≤9223372036854775807:=len_le (slice_len h0_0)
 obtain ⟨j7,hL7,hF⟩:=bind_some hF
 obtain ⟨R7,hR7⟩:=exR fun f w_=>∃ sum_6 : Int,j7 = .nx sum_6∧f 2 = Pt g3∧f 5 = I sum_6∧Star H w_ ([box g3 73 #[v0_0,I c.bound]])
 refine W_join R7 ?_ ?_
 refine W_block ?_
 obtain ⟨I7,hI7⟩:=exI fun n f w_=>∃ i_5 : Nat,∃ suf7 : List Term,∃ sum_6 : Int,n = suf7.length∧List.drop i_5 c.terms = suf7∧i_5 + suf7.length = c.terms.length∧rangeL (i_Constraint_holds_b1 values) suf7 i_5 sum_6 = some j7∧f 1 = v1∧f 2 = Pt g3∧f 5 = I sum_6∧f 9 = v0_0∧f 10 = I (c.terms.length : Int)∧f 11 = I i_5∧Star H w_ ([box g3 73 #[v0_0,I c.bound]])
 refine W_loop I7 (n:=c.terms.length) ?_ ?_
 exact ij hI7 ⟨0,c.terms,0,rfl,rfl,Nat.zero_add _,hL7,rfl,rfl,rfl,rfl,rfl,rfl,Z⟩
 intro n7 f w_ hI
 obtain ⟨i_5,suf7,sum_6,rfl,hd7,hl7,hL7,sf1,sf2,sf5,sf9,sf10,sf11,Z⟩:=ik hI7 hI
 refine sq (L_lss rfl sf11 sf10 (nq (W_cond (b:=decide ((i_5 : Int) < (c.terms.length : Int))) rfl (fun hc8=>?_) (fun hc8=>?_))))
 have hlt7:=of_decide_eq_true hc8
 rcases suf7 with _ | ⟨x_7,rest7⟩
 exact absurd hlt7 (by simp at hl7; omega)
 obtain ⟨o7,hB7,hL7⟩:=range_cons hL7
 rw [i_Constraint_holds_b1] at hB7
 have hix7:=drop_idx hd7
 refine W_skip (W_seq (W_block (sq (L_ix (r:=rTerm) rfl Tryz.underlying71 Tryz.sizeOf122 sf9 h0_0 sf11 hix7 (fun g16 o17 cs_g16 hrk_hat18 hat18=>?_)))))
 obtain rfl:=rTerm_iff.1 hrk_hat18
 refine L_lda (cs:=[I x_7.coef,I x_7.lit]) rfl Tryz.isAgg122 Tryz.sizeOf122 rfl (At.sub (AtH.at hat18 Z.sub) 0 2) rfl (L_al (cs:=#[I 0,I 0]) rfl Tryz.zeroValue122 rfl Z (fun g20 w21 Z=>L_staB (vs:=#[I x_7.coef,I x_7.lit]) (cs2:=#[I x_7.coef,I x_7.lit]) 0 rfl Tryz.sizeOf122 rfl rfl rfl (ones_cons rfl (ones_cons rfl ones_nil)) Z rfl (by show 0 + 2≤2; decide) rfl (fun w22 Z=>nq ?_)))
 obtain ⟨x28,hx28,hB7⟩:=bind_some hB7
 refine W_region (fA 1 fa_122_1 rfl rfl (ldB 0 Z Tryz.isAgg3 rfl rfl rfl (mF sf1 rfl ?_)))
 obtain ⟨H30b,l31,s32,z33,k34⟩:=Z.borrow
 refine L_call rfl Tryz.call163 (ops2 rfl rfl) (i_holds_c (l:=x_7.lit) (values:=values) s32 (RP.mono _ h1 l31) hx28) ?_
 rintro _ w35 ⟨rfl,Z⟩
 have Z:=k34 Z c0
 refine nn ?_
 obtain ⟨sum_36,hA37,hB7⟩:=bind_some hB7
 obtain ⟨R37,hR37⟩:=exR fun f w_=>f 1 = v1∧f 2 = Pt g3∧f 5 = I sum_36∧f 9 = v0_0∧f 10 = I (c.terms.length : Int)∧f 11 = I i_5∧Star H w_ ([box g3 73 #[v0_0,I c.bound]])
 refine W_join R37 ?_ ?_
 refine W_cond (b:=x28) rfl (fun hc38=>?_) (fun hc38=>?_)
 have hA37:=(ite_t hc38).symm.trans hA37
 refine W_region (mF sf5 rfl (fA 0 fa_122_0 rfl rfl (ldB 0 Z Tryz.isAgg3 rfl rfl rfl (L_add rfl rfl rfl (aI rfl (nn ?_))))))
 obtain rfl:=so hA37
 have Z:=Z.get 1 rfl
 exact rj hR37 ⟨sf1,sf2,rfl,sf9,sf10,sf11,(Star.keepN 1 Z)⟩
 have hA37:=(ite_f hc38).symm.trans hA37
 refine W_skip ?_
 obtain rfl:=so hA37
 have Z:=Z.get 1 rfl
 exact rj hR37 ⟨sf1,sf2,sf5,sf9,sf10,sf11,(Star.keepN 1 Z)⟩
 intro f w_ hR
 obtain ⟨sf1,sf2,sf5,sf9,sf10,sf11,Z⟩:=rk hR37 hR
 refine W_region (L_add rfl sf11 rfl (mI rfl (nn ?_)))
 obtain rfl:=so hB7
 show ∃ m,m < _∧I7 m _ _
 refine ⟨rest7.length,by simp,?_⟩
 exact ij hI7 ⟨i_5 + 1,rest7,sum_36,rfl,drop_next hd7,by simp at hl7; omega,hL7,sf1,sf2,sf5,sf9,sf10,(Eq.trans rfl (congrArg (Value.int .i64) (i64_succ (n:=c.terms.length) (by simp at hl7; omega) hlen7))),Z⟩
 rcases suf7 with _ | ⟨_,_⟩
 obtain rfl:=range_nil hL7
 refine W_exit (rj hR7 ⟨sum_6,rfl,sf2,sf5,Z⟩)
 exact absurd (of_decide_eq_false hc8) (by simp at hl7; omega)
 intro f w_ hR
 obtain ⟨sum_6,rfl,sf2,sf5,Z⟩:=rk hR7 hR
 refine sq (mF sf5 rfl (fA 1 fa_73_1 sf2 rfl (ldB 0 Z Tryz.isAgg3 rfl rfl rfl (L_geq rfl rfl rfl (aB rfl (nn (W_ret (retG1 (v1:=Bo (decide (sum_6 ≥ c.bound))) Tryz.results125 rfl ?_))))))))
 obtain rfl:=so hF
 exact ⟨rfl,(Star.keepN 0 Z)⟩
theorem i_satisfies_1_c {c1 : List Bool} {c : Con} {v0_0 : Value} {g_c1 : Nat} {v1_0 : Value} {H : FH} {w : World} (Z : Star H w []) (h0_0 : (rS 122 rTerm).rel H [v0_0] c.terms) (hat_g_c1 : AtH H g_c1 0 [v1_0]) (h1_0 : (rS 4 RP.bool).rel H [v1_0] c1) {r : Bool} (hF : i_satisfies_1 c1 c = some r) :
 C Tryz.prog 124 #[.agg #[v0_0,I c.bound],Pt g_c1] w fun v w'=>v = Bo r∧Star H w' []:=by
 unfold i_satisfies_1 at hF
 refine C_enter Tryz.func124 rfl Tryz.ntmps124 rfl (sq (L_box (v:=.agg #[v0_0,I c.bound]) (cs:=#[v0_0,I c.bound]) rfl rfl rfl Z (fun g3 w4 Z=>aB rfl (nq ?_))))
 obtain ⟨x10,hx10,hF⟩:=bind_some hF
 refine W_region (L_lda (cs:=[v0_0,I c.bound]) rfl Tryz.isAgg73 Tryz.sizeOf73 rfl (At.sub0 (Blk.at (Star.blkAt 0 Z rfl)) 0 2) rfl (L_ld rfl Tryz.isAgg37 rfl (At.cell0 (AtH.at hat_g_c1 Z.sub) (j:=0) rfl) ?_))
 obtain ⟨H12b,l13,s14,z15,k16⟩:=Z.borrow
 refine L_call rfl Tryz.call125 (ops2 rfl rfl) (i_Constraint_holds_c (c:=c) (values:=c1) s14 (RP.mono _ h0_0 l13) (RP.mono _ h1_0 l13) hx10) ?_
 rintro _ w17 ⟨rfl,Z⟩
 have Z:=k16 Z c0
 refine L_not_ rfl rfl (aB rfl (nn (W_ret (retG1 (v1:=Bo (!x10)) Tryz.results124 rfl ?_))))
 obtain rfl:=so hF
 exact ⟨rfl,(Star.keepN 0 Z)⟩
theorem i_satisfies_c {list : List Con} {values : List Bool} {v0 : Value} {v1 : Value} {H : FH} {w : World} (Z : Star H w []) (h0 : (rS 73 (rCon 122)).rel H [v0] list) (h1 : (rS 4 RP.bool).rel H [v1] values) {r : Bool} (hF : i_satisfies list values = some r) :
 C Tryz.prog 71 #[v0,v1] w fun v w'=>v = Bo r∧Star H w' []:=by
 unfold i_satisfies at hF
 refine C_enter Tryz.func71 rfl Tryz.ntmps71 rfl (sq (L_box (v:=v1) (cs:=#[v1]) rfl rfl (cells_one (one_len (slice_len h1))) Z (fun g3 w4 Z=>aB rfl (nq ?_))))
 obtain ⟨x10,hx10,hF⟩:=bind_some hF
 refine W_region (mV v0 rfl (L_mf rfl (ops1 rfl) ?_))
 obtain ⟨H12b,l13,s14,z15,k16⟩:=Z.borrow
 have hf17 : Fun1 Tryz.prog (rCon 122) true Value.bool (i_satisfies_1 values) (.func (.func 124) #[] #[Pt g3]) H12b:=by
   refine ⟨_,_,rfl,Tryz.call124,fun H_ w_ hE_ hs_ cs_ x_ y_ args_ hr_ hy_ ha_=>?_⟩
   obtain ⟨p_0,rfl,hp_0⟩:=rCon_iff.1 hr_
   obtain rfl:=args_of (b:=#[.agg #[p_0,I x_.bound],Pt g3]) ha_
   exact i_satisfies_1_c (c1:=values) (c:=x_) hs_ hp_0 (AtH.le (AtH.of (fz_box 0 z15 rfl)) hE_) (RP.mono _ (RP.mono _ h1 l13) hE_) hy_
 refine L_call rfl Tryz.call123 (ops2 rfl rfl) (slices_ContainsFunc_implConstraint_c (s:=list) (f_:=(i_satisfies_1 values)) s14 (RP.mono _ h0 l13) hf17 hx10) ?_
 rintro _ w18 ⟨rfl,Z⟩
 have Z:=k16 Z c0
 refine L_not_ rfl rfl (aB rfl (nn (W_ret (retG1 (v1:=Bo (!x10)) Tryz.results71 rfl ?_))))
 obtain rfl:=so hF
 exact ⟨rfl,(Star.keepN 0 Z)⟩
theorem i_isRule_c {m : Model} {rule : Int} {v0_0 : Value} {v0_1 : Value} {H : FH} {w : World} (Z : Star H w []) (h0_0 : (rS 3 RP.int).rel H [v0_0] m.sizes) (h0_1 : (rS 79 (rRule 3 23)).rel H [v0_1] m.rules) {r : Bool} (hF : i_isRule m rule = some r) :
 C Tryz.prog 77 #[.agg #[v0_0,v0_1],I rule] w fun v w'=>v = Bo r∧Star H w' []:=by
 unfold i_isRule at hF
 refine C_enter Tryz.func77 rfl Tryz.ntmps77 rfl (sq (L_box (v:=.agg #[v0_0,v0_1]) (cs:=#[v0_0,v0_1]) rfl rfl rfl Z (fun g3 w4 Z=>aB rfl (nq ?_))))
 obtain ⟨x10,hx10,hF⟩:=bind_some hF
 refine W_region (mI rfl (fA 1 fa_26_1 rfl rfl (ldB 0 Z Tryz.isAgg24 rfl rfl rfl (L_len rfl Tryz.underlying24 rfl (slice_len h0_1) (L_sub rfl rfl rfl ?_)))))
 obtain ⟨H12b,l13,s14,z15,k16⟩:=Z.borrow
 refine L_call rfl Tryz.call92 (ops3 rfl rfl rfl) (i_within_c (n_:=rule) (low:=0) (high:=i64 ((m.rules.length : Int) - 1)) s14 hx10) ?_
 rintro _ w17 ⟨rfl,Z⟩
 have Z:=k16 Z c0
 refine aB rfl (nn (W_ret (retG1 (v1:=Bo x10) Tryz.results77 rfl ?_)))
 obtain rfl:=so hF
 exact ⟨rfl,(Star.keepN 0 Z)⟩
theorem i_EncodeRule_c {fu : Nat} {m : Model} {rule : Int} {v0_0 : Value} {v0_1 : Value} {H : FH} {w : World} {R : List Ass} (Z : Star H w R) (h0_0 : (rS 3 RP.int).rel H [v0_0] m.sizes) (h0_1 : (rS 79 (rRule 3 23)).rel H [v0_1] m.rules) {r : (List Con) × Bool} (hF : i_EncodeRule fu m rule = some r) :
 C Tryz.prog 30 #[.agg #[v0_0,v0_1],I rule] w fun v w'=>∃ H' : FH,Le H H'∧∃ (u1 : Value),v = .tuple #[u1,Bo r.2]∧Star H' w' (oF 73 (rCon 122) u1 r.1 :: R):=by
 unfold i_EncodeRule at hF
 refine C_enter Tryz.func30 rfl Tryz.ntmps30 rfl (sq (L_box (v:=.agg #[v0_0,v0_1]) (cs:=#[v0_0,v0_1]) rfl rfl rfl Z (fun g3 w4 Z=>aV S0 rfl (aB rfl (nq (W_seq ?_))))))
 obtain ⟨x10,hx10,hF⟩:=bind_some hF
 obtain ⟨b19,hb19,hF⟩:=bind_some hF
 obtain ⟨R20,hR20⟩:=exR fun f w_=>f 1 = I rule∧f 2 = Pt g3∧f 14 = Bo b19∧Star H w_ (box g3 26 #[v0_0,v0_1] :: R)
 refine W_join R20 ?_ ?_
 refine W_region (L_lda (cs:=[v0_0,v0_1]) rfl Tryz.isAgg26 Tryz.sizeOf26 rfl (At.sub0 (Blk.at (Star.blkAt 0 Z rfl)) 0 2) rfl ?_)
 obtain ⟨H21b,l22,s23,z24,k25⟩:=Z.borrow
 refine L_call rfl Tryz.call46 (ops1 rfl) (i_ModelValid_c (m:=m) s23 (RP.mono _ h0_0 l22) (RP.mono _ h0_1 l22) hx10) ?_
 rintro _ w26 ⟨rfl,Z⟩
 have Z:=k25 Z c0
 refine L_not_ rfl rfl (mB rfl (L_split (d:=9) (b:=(!x10)) rfl (fun hc27=>?_) (fun hc27=>?_)))
 rw [ite_t hc27] at hb19
 refine ps rfl (ps rfl (ps rfl (ps rfl (L_pick (v:=Bo b19) rfl rfl (congrArg Value.bool (so hb19)) (nn (rj hR20 ⟨rfl,rfl,rfl,Z⟩))))))
 rw [ite_f hc27] at hb19
 obtain ⟨x17,hx17,hb19⟩:=bind_some hb19
 refine L_lda (cs:=[v0_0,v0_1]) rfl Tryz.isAgg26 Tryz.sizeOf26 rfl (At.sub0 (Blk.at (Star.blkAt 0 Z rfl)) 0 2) rfl (mI rfl ?_)
 obtain ⟨H28b,l29,s30,z31,k32⟩:=Z.borrow
 refine L_call rfl Tryz.call77 (ops2 rfl rfl) (i_isRule_c (m:=m) (rule:=rule) s30 (RP.mono _ h0_0 l29) (RP.mono _ h0_1 l29) hx17) ?_
 rintro _ w33 ⟨rfl,Z⟩
 have Z:=k32 Z c0
 refine L_not_ rfl rfl (L_pick (v:=Bo b19) rfl rfl (congrArg Value.bool (so hb19)) (nn (rj hR20 ⟨rfl,rfl,rfl,Z⟩)))
 intro f w_ hR
 obtain ⟨sf1,sf2,sf14,Z⟩:=rk hR20 hR
 refine W_cond (b:=b19) sf14 (fun hc34=>?_) (fun hc34=>?_)
 have hF:=(ite_t hc34).symm.trans hF
 refine sq (aV S0 rfl (aB rfl (nn (W_ret (retG2 (v1:=S0) (v2:=Bo false) Tryz.results30 rfl rfl ?_)))))
 obtain rfl:=so hF
 have Z:=Star.addNil (R:=(OR.frz (rCon 122))) (e:=73) Z
 have Z:=Star.drop 1 Z rfl
 exact ⟨H,(Le.refl _),S0,rfl,Z⟩
 have hF:=(ite_f hc34).symm.trans hF
 refine W_skip (W_seq ?_)
 obtain ⟨x36,hx36,hF⟩:=bind_some hF
 obtain ⟨x41,hx41,hF⟩:=bind_some hF
 refine W_drawS 6 [isV (.agg #[v0_0,v0_1]),isV (Pq g3 1),isV (v0_1),isV (I rule),isEl (rRule 3 23) x36 0,exD (isData (rS 3 RP.int) x36.vars) fun u_1=>exD (isData (rS 3 RP.int) x36.coefs) fun u_2=>exD (isData (rS 23 (rS 3 RP.int)) x36.rows) fun u_4=>isV (.agg #[I x36.kind,u_1,u_2,I x36.bound,u_4])] [box g3 26 #[v0_0,v0_1]] [] (R) [([],[]),([],[]),([],[]),([],[]),([],[]),([],[])] (S:=[]) Tryz_mix (by kernel_rfl) rfl (by kernel_rfl) (amF_cons (mono_V _) (amF_cons (mono_V _) (amF_cons (mono_V _) (amF_cons (mono_V _) (amF_cons (mono_el _ _ _) (amF_cons (mono_exD (mono_data _ _) fun _=>mono_exD (mono_data _ _) fun _=>mono_exD (mono_data _ _) fun _=>mono_V _) amF_nil)))))) Z ?_ (fun f w_ H44 hS44 hE44 hT44 Z=>?_)
 refine opsS_cons (fun f w_ _ _ s _ _ Z=>L_lda (cs:=[v0_0,v0_1]) rfl Tryz.isAgg26 Tryz.sizeOf26 ((s 2 rfl).trans sf2) (At.sub0 (Blk.at (Star.blkAt 0 Z rfl)) 0 2) rfl (nO rfl rfl Z)) (opsS_cons (fun f w_ _ _ s _ _ Z=>fA 1 fa_26_1 ((s 2 rfl).trans sf2) rfl (nO rfl rfl Z)) (opsS_cons (fun f w_ _ _ _ _ p Z=>ldB 0 Z Tryz.isAgg24 (p 1 16 rfl rfl) rfl rfl (nO rfl rfl Z)) (opsS_cons (fun f w_ _ _ s _ _ Z=>mF ((s 1 rfl).trans sf1) rfl (nO rfl rfl Z)) (opsS_cons ?_ ?_))))
 intro f w_ H44 X44 hS44 hE44 hP44 Z
 refine L_ix (r:=(rRule 3 23)) rfl Tryz.underlying24 Tryz.sizeOf79 (hP44 2 17 rfl rfl) (RP.mono _ h0_1 hE44) (hP44 3 18 rfl rfl) hx36 (fun g49 o50 cs_g49 hrk_hat51 hat51=>?_)
 obtain ⟨u52_0,u52_1,u52_2,rfl,hu52_0,hu52_1,hu52_2⟩:=rRule_iff.1 hrk_hat51
 exact L_nil ⟨rfl,_,_,rfl,Le.refl _,fun _ _=>⟨_,_,_,rfl,hrk_hat51,hat51⟩,Z⟩
 refine opsS_cons ?_ ?_
 intro f w_ H44 X44 hS44 hE44 hP44 Z
 obtain ⟨g53,o53,cs53,hv53,hrk_hat53,hat53⟩:=(hP44 4 19 rfl rfl)
 obtain ⟨u54_0,u54_1,u54_2,rfl,hu54_0,hu54_1,hu54_2⟩:=rRule_iff.1 hrk_hat53
 refine L_lda (cs:=[I x36.kind,u54_0,u54_1,I x36.bound,u54_2]) rfl Tryz.isAgg79 Tryz.sizeOf79 hv53 (At.sub (AtH.at hat53 Z.sub) 0 5) rfl (L_nil ⟨rfl,_,_,rfl,Le.refl _,fun _ _=>⟨_,hu54_0,_,hu54_1,_,hu54_2,rfl⟩,Z⟩)
 exact opsS_nil
 obtain ⟨u55_1,hu55_1,u55_2,hu55_2,u55_4,hu55_4,hv55⟩:=(hT44 5 20 rfl rfl)
 refine L_call rfl Tryz.call50 (ops2 (hT44 0 15 rfl rfl) hv55) (i_Model_encodeRule_c (m:=m) (r_:=x36) Z (RP.mono _ h0_0 hE44) (RP.mono _ h0_1 hE44) hu55_1 hu55_2 hu55_4 hx41) ?_
 rintro r56_0 w56 ⟨H56,l56,_,rfl,Z⟩
 refine aV r56_0 rfl (aB rfl (nn (W_ret (retG2 (v1:=r56_0) (v2:=Bo true) Tryz.results30 rfl rfl ?_))))
 obtain rfl:=so hF
 have Z:=Star.drop 1 Z rfl
 exact ⟨H56,(Le.trans hE44 l56),r56_0,rfl,Z⟩
theorem i_numbered_c {n_ : Int} {H : FH} {w : World} (Z : Star H w []) {r : List Bool} (hF : i_numbered n_ = some r) :
 C Tryz.prog 79 #[I n_] w fun v w'=>∃ (u1 : Value),v = u1∧Star H w' [oF 4 RP.bool u1 r]:=by
 unfold i_numbered at hF
 refine C_enter Tryz.func79 rfl Tryz.ntmps79 rfl (sq (aV S0 rfl (nq ?_)))
 obtain ⟨x1,hx1,hF⟩:=bind_some hF
 refine W_region (L_mk (R:=(OR.frz RP.bool)) (z0:=false) (zc:=[Bo false]) rfl et_37 (by kernel_rfl) (fun _ _=>⟨rfl,rfl⟩) rfl rfl hx1 Z (fun v5 w6 Z=>aV v5 rfl (nq (sq (mV v5 rfl (L_len rfl Tryz.underlying37 rfl (Star.len 0 Z rfl) (mI rfl (nn ?_))))))))
 have hlen10 : List.length x1≤9223372036854775807:=len_le (Star.len 0 Z rfl)
 obtain ⟨j10,hL10,hF⟩:=bind_some hF
 obtain ⟨R10,hR10⟩:=exR fun f w_=>∃ out_9 : List Bool,j10 = .nx out_9∧f 3 = v5∧Star H w_ ([oF 4 RP.bool v5 out_9])
 refine W_join R10 ?_ ?_
 refine W_block ?_
 obtain ⟨I10,hI10⟩:=exI fun n f w_=>∃ i_8 : Nat,∃ suf10 : List Bool,∃ out_9 : List Bool,n = suf10.length∧List.drop i_8 x1 = suf10∧i_8 + suf10.length = x1.length∧rangeL (i_numbered_b1 n_) suf10 i_8 out_9 = some j10∧f 0 = I n_∧f 3 = v5∧f 7 = I (x1.length : Int)∧f 8 = I i_8∧Star H w_ ([oF 4 RP.bool v5 out_9])
 refine W_loop I10 (n:=x1.length) ?_ ?_
 exact ij hI10 ⟨0,x1,x1,rfl,rfl,Nat.zero_add _,hL10,rfl,rfl,rfl,rfl,Z⟩
 intro n10 f w_ hI
 obtain ⟨i_8,suf10,out_9,rfl,hd10,hl10,hL10,sf0,sf3,sf7,sf8,Z⟩:=ik hI10 hI
 refine sq (L_lss rfl sf8 sf7 (nq (W_cond (b:=decide ((i_8 : Int) < (x1.length : Int))) rfl (fun hc11=>?_) (fun hc11=>?_))))
 have hlt10:=of_decide_eq_true hc11
 rcases suf10 with _ | ⟨x_10,rest10⟩
 exact absurd hlt10 (by simp at hl10; omega)
 obtain ⟨o10,hB10,hL10⟩:=range_cons hL10
 rw [i_numbered_b1] at hB10
 have hix10:=drop_idx hd10
 refine W_skip (W_seq (W_block (sq (mF sf8 rfl (aI rfl (nn ?_))))))
 obtain ⟨q12,hq12,hB10⟩:=bind_some hB10
 obtain ⟨x13,hx13,hB10⟩:=bind_some hB10
 refine W_region (mF sf3 rfl (mI rfl (mF sf0 rfl (mI rfl (L_sub rfl rfl rfl (L_shr (m:=n_) (n:=i64 (11 - (i_8 : Int))) rfl rfl rfl (Int.not_lt.1 fun he=>by rw [if_pos he] at hq12; cases hq12) (L_and (m:=Int.fdiv n_ (2 ^ (min (Int.toNat (i64 (11 - (i_8 : Int)))) (IntKind.bits .i64)))) (n:=1) rfl rfl rfl (L_eql rfl rfl rfl ?_))))))))
 obtain ⟨g17,cap_g17,hv18,_,_⟩:=Star.row 0 Z rfl hx13
 refine L_ixO (R:=(OR.frz RP.bool)) (tb:=0) 0 rfl Tryz.underlying37 Tryz.sizeOf4 rfl hv18 (by first | rfl | simp) rfl hx13 ?_
 have Z:=Star.addF (r:=RP.bool) (cs:=[Bo ((andI .i64 (Int.fdiv n_ (2 ^ (min (Int.toNat (i64 (11 - (i_8 : Int)))) (IntKind.bits .i64)))) 1) == 1)]) (x:=((andI .i64 (Int.fdiv n_ (2 ^ (min (Int.toNat (i64 (11 - (i_8 : Int)))) (IntKind.bits .i64)))) 1) == 1)) Z rfl
 refine L_stE1 (u:=Bo ((andI .i64 (Int.fdiv n_ (2 ^ (min (Int.toNat (i64 (11 - (i_8 : Int)))) (IntKind.bits .i64)))) 1) == 1)) rfl Tryz.sizeOf4 rfl rfl rfl hv18 Z hx13 (fun w19 Z=>?_)
 refine nn (W_region (L_add rfl sf8 rfl (mI rfl (nn ?_))))
 obtain rfl:=so hB10
 show ∃ m,m < _∧I10 m _ _
 refine ⟨rest10.length,by simp,?_⟩
 exact ij hI10 ⟨i_8 + 1,rest10,(out_9.set (Int.toNat (i_8 : Int)) ((andI .i64 (Int.fdiv n_ (2 ^ (min (Int.toNat (i64 (11 - (i_8 : Int)))) (IntKind.bits .i64)))) 1) == 1)),rfl,drop_next hd10,by simp at hl10; omega,hL10,sf0,sf3,sf7,(Eq.trans rfl (congrArg (Value.int .i64) (i64_succ (n:=x1.length) (by simp at hl10; omega) hlen10))),Z⟩
 rcases suf10 with _ | ⟨_,_⟩
 obtain rfl:=range_nil hL10
 refine W_exit (rj hR10 ⟨out_9,rfl,sf3,Z⟩)
 exact absurd (of_decide_eq_false hc11) (by simp at hl10; omega)
 intro f w_ hR
 obtain ⟨out_9,rfl,sf3,Z⟩:=rk hR10 hR
 refine sq (mF sf3 rfl (aV v5 rfl (nn (W_ret (retG1 (v1:=v5) Tryz.results79 rfl ?_)))))
 obtain rfl:=so hF
 exact ⟨v5,rfl,Z⟩
theorem i_CountSolutions_c {list : List Con} {v0 : Value} {H : FH} {w : World} (Z : Star H w []) (h0 : (rS 73 (rCon 122)).rel H [v0] list) {r : Int} (hF : i_CountSolutions list = some r) :
 C Tryz.prog 34 #[v0] w fun v w'=>v = I r∧Star H w' []:=by
 unfold i_CountSolutions at hF
 refine C_enter Tryz.func34 rfl Tryz.ntmps34 rfl (sq (aI rfl (nq (W_seq ?_))))
 obtain ⟨x6,hx6,hF⟩:=bind_some hF
 refine W_region (mV v0 rfl ?_)
 obtain ⟨H8b,l9,s10,z11,k12⟩:=Z.borrow
 refine L_call rfl Tryz.call37 (ops1 rfl) (i_ProblemValid_c (list:=list) s10 (RP.mono _ h0 l9) hx6) ?_
 rintro _ w13 ⟨rfl,Z⟩
 have Z:=k12 Z c0
 refine L_not_ rfl rfl (nn (W_cond (b:=(!x6)) rfl (fun hc14=>?_) (fun hc14=>?_)))
 have hF:=(ite_t hc14).symm.trans hF
 refine sq (aI rfl (nn (W_ret (retG1 (v1:=I 0) Tryz.results34 rfl ?_))))
 obtain rfl:=so hF
 exact ⟨rfl,Z⟩
 have hF:=(ite_f hc14).symm.trans hF
 refine W_skip (sq (aI rfl (nq (sq (mI rfl (nn ?_))))))
 obtain ⟨k18,hk18,hF⟩:=bind_some hF
 obtain ⟨j17,hL17,hF⟩:=bind_some hF
 obtain ⟨R17,hR17⟩:=exR fun f w_=>∃ count_16 : Int,j17 = .nx count_16∧f 3 = I count_16∧Star H w_ ([])
 refine W_join R17 ?_ ?_
 refine W_block ?_
 obtain ⟨I17,hI17⟩:=exI fun n f w_=>∃ i_15 : Nat,∃ suf17 : Nat,∃ count_16 : Int,suf17 = n∧0≤i_15∧i_15 + suf17 = 0 + k18∧countL (i_CountSolutions_b1 list) suf17 i_15 count_16 = some j17∧f 0 = v0∧f 3 = I count_16∧f 8 = I i_15∧Star H w_ ([])
 refine W_loop I17 (n:=k18) ?_ ?_
 exact ij hI17 ⟨0,k18,0,rfl,Nat.le_refl _,rfl,hL17,rfl,rfl,rfl,Z⟩
 intro n17 f w_ hI
 obtain ⟨i_15,suf17,count_16,rfl,hs17,hl17,hL17,sf0,sf3,sf8,Z⟩:=ik hI17 hI
 refine sq (L_lss rfl sf8 rfl (nq (W_cond (b:=decide ((i_15 : Int) < 4096)) rfl (fun hc19=>?_) (fun hc19=>?_))))
 have hlt17:=of_decide_eq_true hc19
 rcases suf17 with _ | rest17
 exact absurd hlt17 (cntF_no hl17 hk18)
 obtain ⟨o17,hB17,hL17⟩:=count_succ hL17
 rw [i_CountSolutions_b1] at hB17
 refine W_skip (W_seq (W_block (sq (mF sf8 rfl (aI rfl (nq ?_))))))
 obtain ⟨x25,hx25,hB17⟩:=bind_some hB17
 obtain ⟨x34,hx34,hB17⟩:=bind_some hB17
 refine W_region (mF sf0 rfl (mI rfl ?_))
 obtain ⟨H36b,l37,s38,z39,k40⟩:=Z.borrow
 refine L_call rfl Tryz.call79 (ops1 rfl) (i_numbered_c (n_:=(i_15 : Int)) s38 hx25) ?_
 rintro r41_0 w41 ⟨_,rfl,Z⟩
 have Z:=k40 Z (co closed_bool c0)
 obtain ⟨H43b,l44,s45,z46,k47⟩:=Z.borrow
 have hb48 : (rS 4 RP.bool).rel H43b [r41_0] x25:=fz_own 0 z46 rfl
 refine L_call rfl Tryz.call71 (ops2 rfl rfl) (i_satisfies_c (list:=list) (values:=x25) s45 (RP.mono _ h0 l44) hb48 hx34) ?_
 rintro _ w49 ⟨rfl,Z⟩
 have Z:=k47 Z c0
 refine nn ?_
 obtain ⟨count_50,hA51,hB17⟩:=bind_some hB17
 obtain ⟨R51,hR51⟩:=exR fun f w_=>f 0 = v0∧f 3 = I count_50∧f 8 = I i_15∧Star H w_ ([])
 refine W_join R51 ?_ ?_
 refine W_cond (b:=x34) rfl (fun hc52=>?_) (fun hc52=>?_)
 have hA51:=(ite_t hc52).symm.trans hA51
 refine W_region (mF sf3 rfl (L_add rfl rfl rfl (aI rfl (nn ?_))))
 obtain rfl:=so hA51
 exact rj hR51 ⟨sf0,rfl,sf8,(Star.keepN 0 Z)⟩
 have hA51:=(ite_f hc52).symm.trans hA51
 refine W_skip ?_
 obtain rfl:=so hA51
 exact rj hR51 ⟨sf0,sf3,sf8,(Star.keepN 0 Z)⟩
 intro f w_ hR
 obtain ⟨sf0,sf3,sf8,Z⟩:=rk hR51 hR
 refine W_region (L_add rfl sf8 rfl (mI rfl (nn ?_)))
 obtain rfl:=so hB17
 show ∃ m,m < _∧I17 m _ _
 refine ⟨rest17,Nat.lt_succ_self _,?_⟩
 exact ij hI17 ⟨i_15 + 1,rest17,count_50,rfl,by omega,by omega,hL17,sf0,sf3,(Eq.trans rfl (congrArg (Value.int .i64) (i64_succ (n:=0 + k18) (by omega) (cntF_le hk18)))),Z⟩
 rcases suf17 with _ | _
 obtain rfl:=count_zero hL17
 refine W_exit (rj hR17 ⟨count_16,rfl,sf3,Z⟩)
 exact absurd (cntF_yes hs17 hl17 hk18) (of_decide_eq_false hc19)
 intro f w_ hR
 obtain ⟨count_16,rfl,sf3,Z⟩:=rk hR17 hR
 refine sq (mF sf3 rfl (aI rfl (nn (W_ret (retG1 (v1:=I count_16) Tryz.results34 rfl ?_)))))
 obtain rfl:=so hF
 exact ⟨rfl,Z⟩
theorem i_FreeVars_c {m : Model} {v0_0 : Value} {v0_1 : Value} {H : FH} {w : World} (Z : Star H w []) (h0_0 : (rS 3 RP.int).rel H [v0_0] m.sizes) (h0_1 : (rS 79 (rRule 3 23)).rel H [v0_1] m.rules) {r : Int} (hF : i_FreeVars m = some r) :
 C Tryz.prog 35 #[.agg #[v0_0,v0_1]] w fun v w'=>v = I r∧Star H w' []:=by
 unfold i_FreeVars at hF
 refine C_enter Tryz.func35 rfl Tryz.ntmps35 rfl (sq (L_box (v:=.agg #[v0_0,v0_1]) (cs:=#[v0_0,v0_1]) rfl rfl rfl Z (fun g3 w4 Z=>aI rfl (nq (W_seq ?_)))))
 obtain ⟨x10,hx10,hF⟩:=bind_some hF
 refine W_region (L_lda (cs:=[v0_0,v0_1]) rfl Tryz.isAgg26 Tryz.sizeOf26 rfl (At.sub0 (Blk.at (Star.blkAt 0 Z rfl)) 0 2) rfl ?_)
 obtain ⟨H12b,l13,s14,z15,k16⟩:=Z.borrow
 refine L_call rfl Tryz.call46 (ops1 rfl) (i_ModelValid_c (m:=m) s14 (RP.mono _ h0_0 l13) (RP.mono _ h0_1 l13) hx10) ?_
 rintro _ w17 ⟨rfl,Z⟩
 have Z:=k16 Z c0
 refine L_not_ rfl rfl (nn (W_cond (b:=(!x10)) rfl (fun hc18=>?_) (fun hc18=>?_)))
 have hF:=(ite_t hc18).symm.trans hF
 refine sq (aI rfl (nn (W_ret (retG1 (v1:=I 0) Tryz.results35 rfl ?_))))
 obtain rfl:=so hF
 exact ⟨rfl,(Star.keepN 0 Z)⟩
 have hF:=(ite_f hc18).symm.trans hF
 refine W_skip (sq (fA 0 fa_26_0 rfl rfl (ldB 0 Z Tryz.isAgg23 rfl rfl rfl (L_len rfl Tryz.underlying23 rfl (slice_len h0_0) (L_sub rfl rfl rfl (aI rfl (nq ?_)))))))
 obtain ⟨x19,hx19,hF⟩:=bind_some hF
 obtain ⟨x29,hx29,hF⟩:=bind_some hF
 refine W_drawS 7 [isV (.agg #[v0_0,v0_1]),isV (I (i64 ((m.sizes.length : Int) - 1))),isV (Pt g3),isV (v0_0),isV (I (i64 ((m.sizes.length : Int) - 1))),isEl RP.int x19 0,isV (I x19)] [box g3 26 #[v0_0,v0_1]] [] ([]) [([],[]),([],[]),([],[]),([],[]),([],[]),([],[]),([],[])] (S:=[]) Tryz_mix (by kernel_rfl) rfl (by kernel_rfl) (amF_cons (mono_V _) (amF_cons (mono_V _) (amF_cons (mono_V _) (amF_cons (mono_V _) (amF_cons (mono_V _) (amF_cons (mono_el _ _ _) (amF_cons (mono_V _) amF_nil))))))) Z ?_ (fun f w_ H31 hS31 hE31 hT31 Z=>?_)
 refine opsS_cons (fun f w_ _ _ s _ _ Z=>L_lda (cs:=[v0_0,v0_1]) rfl Tryz.isAgg26 Tryz.sizeOf26 ((s 1 rfl).trans rfl) (At.sub0 (Blk.at (Star.blkAt 0 Z rfl)) 0 2) rfl (nO rfl rfl Z)) (opsS_cons (fun f w_ _ _ s _ _ Z=>mF ((s 3 rfl).trans rfl) rfl (nO rfl rfl Z)) (opsS_cons (fun f w_ _ _ s _ _ Z=>fA 0 fa_26_0 ((s 1 rfl).trans rfl) rfl (nO rfl rfl Z)) (opsS_cons (fun f w_ _ _ _ _ p Z=>ldB 0 Z Tryz.isAgg23 (p 2 13 rfl rfl) rfl rfl (nO rfl rfl Z)) (opsS_cons (fun f w_ _ _ s _ _ Z=>mF ((s 3 rfl).trans rfl) rfl (nO rfl rfl Z)) (opsS_cons ?_ ?_)))))
 intro f w_ H31 X31 hS31 hE31 hP31 Z
 refine L_ix (r:=RP.int) rfl Tryz.underlying23 Tryz.sizeOf3 (hP31 3 14 rfl rfl) (RP.mono _ h0_0 hE31) (hP31 4 15 rfl rfl) hx19 (fun g36 o37 cs_g36 hrk_hat38 hat38=>?_)
 obtain rfl : _ = [_]:=hrk_hat38
 exact L_nil ⟨rfl,_,_,rfl,Le.refl _,fun _ _=>⟨_,_,_,rfl,rfl,hat38⟩,Z⟩
 refine opsS_cons ?_ ?_
 intro f w_ H31 X31 hS31 hE31 hP31 Z
 obtain ⟨g40,o40,cs40,hv40,hrk_hat40,hat40⟩:=(hP31 5 16 rfl rfl)
 obtain rfl : _ = [_]:=hrk_hat40
 refine L_ld rfl Tryz.isAgg3 hv40 (At.cell (AtH.at hat40 Z.sub) (j:=0) rfl) (L_nil ⟨rfl,_,_,rfl,Le.refl _,fun _ _=>rfl,Z⟩)
 exact opsS_nil
 obtain ⟨H42b,l43,s44,z45,k46⟩:=Z.borrow
 refine L_call rfl Tryz.call63 (ops3 (hT31 0 11 rfl rfl) (hT31 1 12 rfl rfl) (hT31 6 17 rfl rfl)) (i_Model_boolVar_c (m:=m) (cell:=i64 ((m.sizes.length : Int) - 1)) (value:=x19) s44 (RP.mono _ h0_0 (Le.trans hE31 l43)) (RP.mono _ h0_1 (Le.trans hE31 l43)) hx29) ?_
 rintro _ w47 ⟨rfl,Z⟩
 have Z:=k46 Z c0
 refine L_sub rfl rfl rfl (aI rfl (nn (W_ret (retG1 (v1:=I (i64 (12 - x29))) Tryz.results35 rfl ?_))))
 obtain rfl:=so hF
 exact ⟨rfl,(Star.down (Star.keepN 0 Z) hE31 c0)⟩
theorem l_FnEncodeModel_c {fu : Nat} {code : List UInt8} {v0 : Value} {H : FH} {w : World} (Z : Star H w []) (h0 : (rS 5 RP.u8).rel H [v0] code) {r : Bool} (hF : l_FnEncodeModel fu code = some r) :
 C Tryz.prog 9 #[v0] w fun v w'=>v = Bo r∧Star H w' []:=by
 unfold l_FnEncodeModel at hF
 refine C_enter Tryz.func9 rfl Tryz.ntmps9 rfl (sq (aB rfl (nq (sq (mV v0 rfl (L_len rfl Tryz.underlying22 rfl (slice_len h0) (L_gtr rfl rfl rfl (nn (W_cond (b:=decide ((code.length : Int) > 1048576)) rfl (fun hc1=>?_) (fun hc1=>?_))))))))))
 have hF:=(ite_t hc1).symm.trans hF
 refine sq (aB rfl (nn (W_ret (retG1 (v1:=Bo true) Tryz.results9 rfl ?_))))
 obtain rfl:=so hF
 exact ⟨rfl,Z⟩
 have hF:=(ite_f hc1).symm.trans hF
 refine W_skip (W_seq ?_)
 obtain ⟨hx2,hF⟩:=anyB_some hF
 refine W_region (mV v0 rfl (L_call rfl Tryz.call12 (ops1 rfl) (s_DrawEncodeModel_c (code:=code) Z h0 hx2) ?_))
 rintro _ w7 ⟨x2,gd7,H7,l7,r7_0,r7_1,rfl,hr7_0,hr7_1,Z⟩
 have hF:=hF x2 gd7
 refine L_al (cs:=#[S0,S0]) rfl Tryz.zeroValue26 rfl Z (fun g8 w9 Z=>L_staB (vs:=#[r7_0,r7_1]) (cs2:=#[r7_0,r7_1]) 0 rfl Tryz.sizeOf26 rfl rfl rfl (ones_cons (one_len (slice_len hr7_0)) (ones_cons (one_len (slice_len hr7_1)) ones_nil)) Z rfl (by show 0 + 2≤2; decide) rfl (fun w10 Z=>nq ?_))
 obtain ⟨x11,hx11,hF⟩:=bind_some hF
 refine W_region (L_lda (cs:=[r7_0,r7_1]) rfl Tryz.isAgg26 Tryz.sizeOf26 rfl (At.sub0 (Blk.at (Star.blkAt 0 Z rfl)) 0 2) rfl (L_call rfl Tryz.call13 (ops1 rfl) (i_EncodeModel_c (m:=x2) Z hr7_0 hr7_1 hx11) ?_))
 rintro _ w14 ⟨H14,l14,r14_0,rfl,Z⟩
 refine mV (.tuple #[r14_0,Bo x11.2]) rfl (L_ex (v:=r14_0) rfl rfl rfl (L_ex (v:=Bo x11.2) rfl rfl rfl (aV r14_0 rfl (aB rfl (nq ?_)))))
 obtain ⟨x21,hx21,hF⟩:=bind_some hF
 refine W_region (L_lda (cs:=[r7_0,r7_1]) rfl Tryz.isAgg26 Tryz.sizeOf26 rfl (At.sub0 (Blk.at (Star.blkAt 1 Z rfl)) 0 2) rfl ?_)
 obtain ⟨H24b,l25,s26,z27,k28⟩:=Z.borrow
 refine L_call rfl Tryz.call14 (ops1 rfl) (s_EncodeModel_c (m:=x2) s26 (RP.mono _ hr7_0 (Le.trans l14 l25)) (RP.mono _ hr7_1 (Le.trans l14 l25)) hx21) ?_
 rintro _ w29 ⟨r29_0,rfl,Z⟩
 have Z:=k28 Z (co closed_oCon c0)
 refine mV (.tuple #[r29_0,Bo x21.2]) rfl (L_ex (v:=r29_0) rfl rfl rfl (L_ex (v:=Bo x21.2) rfl rfl rfl (aV r29_0 rfl (aB rfl (nq (W_seq ?_))))))
 obtain ⟨b40,hb40,hF⟩:=bind_some hF
 obtain ⟨R41,hR41⟩:=exR fun f w_=>f 3 = Pt g8∧f 4 = r14_0∧f 5 = Bo x11.2∧f 6 = r29_0∧f 7 = Bo x21.2∧f 40 = Bo (b40 || (!x11.2))∧Star H14 w_ ([oF 73 (rCon 122) r14_0 x11.1,oS 73 (oCon 122) r29_0 x21.1,box g8 26 #[r7_0,r7_1]])
 refine W_join R41 ?_ ?_
 refine W_region (mB rfl (mB rfl (L_bneq (b:=x11.2) (c:=x21.2) rfl Tryz.underlying4 rfl rfl (mB rfl (L_split (d:=31) (b:=(x11.2 != x21.2)) rfl (fun hc42=>?_) (fun hc42=>?_))))))
 rw [ite_t hc42] at hb40
 refine ps rfl (ps rfl (ps rfl (ps rfl (L_pick (v:=Bo b40) rfl rfl (congrArg Value.bool (so hb40)) (mB rfl (L_split (d:=37) (b:=b40) rfl (fun hc43=>?_) (fun hc43=>?_)))))))
 refine ps rfl (ps rfl (L_pick (v:=Bo (b40 || (!x11.2))) rfl rfl (or_t hc43) (nn ?_)))
 have Z:=Z.gets [2,1,2] rfl
 exact rj hR41 ⟨rfl,rfl,rfl,rfl,rfl,rfl,Z⟩
 refine mB rfl (L_not_ rfl rfl (L_pick (v:=Bo (b40 || (!x11.2))) rfl rfl (or_f hc43 rfl) (nn ?_)))
 have Z:=Z.gets [2,1,2] rfl
 exact rj hR41 ⟨rfl,rfl,rfl,rfl,rfl,rfl,Z⟩
 rw [ite_f hc42] at hb40
 obtain ⟨x38,hx38,hb40⟩:=bind_some hb40
 refine mV r14_0 rfl (mV r29_0 rfl ?_)
 obtain ⟨H44b,l45,s46,z47,k48⟩:=Z.borrow
 have hb49 : (rS 73 (rCon 122)).rel H44b [r14_0] x11.1:=fz_own 1 z47 rfl
 have hb50 : (rS 73 (rCon 122)).rel H44b [r29_0] x21.1:=fz_own 0 z47 rfl
 refine L_call rfl Tryz.call15 (ops2 rfl rfl) (l_cpProblem_c (a:=x11.1) (b:=x21.1) s46 hb49 hb50 hx38) ?_
 rintro _ w51 ⟨rfl,Z⟩
 have Z:=k48 Z c0
 refine L_not_ rfl rfl (L_pick (v:=Bo b40) rfl rfl (congrArg Value.bool (so hb40)) (mB rfl (L_split (d:=37) (b:=b40) rfl (fun hc52=>?_) (fun hc52=>?_))))
 refine ps rfl (ps rfl (L_pick (v:=Bo (b40 || (!x11.2))) rfl rfl (or_t hc52) (nn ?_)))
 have Z:=Z.gets [2,1,2] rfl
 exact rj hR41 ⟨rfl,rfl,rfl,rfl,rfl,rfl,Z⟩
 refine mB rfl (L_not_ rfl rfl (L_pick (v:=Bo (b40 || (!x11.2))) rfl rfl (or_f hc52 rfl) (nn ?_)))
 have Z:=Z.gets [2,1,2] rfl
 exact rj hR41 ⟨rfl,rfl,rfl,rfl,rfl,rfl,Z⟩
 intro f w_ hR
 obtain ⟨sf3,sf4,sf5,sf6,sf7,sf40,Z⟩:=rk hR41 hR
 refine W_cond (b:=(b40 || (!x11.2))) sf40 (fun hc53=>?_) (fun hc53=>?_)
 have hF:=(ite_t hc53).symm.trans hF
 refine W_seq ?_
 obtain ⟨b63,hb63,hF⟩:=bind_some hF
 obtain ⟨R64,hR64⟩:=exR fun f w_=>f 2 = Bo b63∧Star H14 w_ ([])
 refine W_join R64 ?_ ?_
 refine W_region (mF sf5 rfl (mF sf7 rfl (L_beql (b:=x11.2) (c:=x21.2) rfl Tryz.underlying4 rfl rfl (mB rfl (L_split (d:=44) (b:=(x11.2 == x21.2)) rfl (fun hc65=>?_) (fun hc65=>?_))))))
 rw [ite_t hc65] at hb63
 obtain ⟨x61,hx61,hb63⟩:=bind_some hb63
 refine mF sf4 rfl (mF sf6 rfl ?_)
 obtain ⟨H66b,l67,s68,z69,k70⟩:=Z.borrow
 have hb71 : (rS 73 (rCon 122)).rel H66b [r14_0] x11.1:=fz_own 0 z69 rfl
 have hb72 : (rS 73 (rCon 122)).rel H66b [r29_0] x21.1:=fz_own 1 z69 rfl
 refine L_call rfl Tryz.call15 (ops2 rfl rfl) (l_cpProblem_c (a:=x11.1) (b:=x21.1) s68 hb71 hb72 hx61) ?_
 rintro _ w73 ⟨rfl,Z⟩
 have Z:=k70 Z c0
 refine L_pick (v:=Bo b63) rfl rfl (congrArg Value.bool (so hb63)) (aB rfl (nn (rj hR64 ⟨rfl,(Star.keepN 0 Z)⟩)))
 rw [ite_f hc65] at hb63
 refine ps rfl (ps rfl (ps rfl (L_pick (v:=Bo b63) rfl rfl (congrArg Value.bool (so hb63)) (aB rfl (nn (rj hR64 ⟨rfl,(Star.keepN 0 Z)⟩))))))
 intro f w_ hR
 obtain ⟨sf2,Z⟩:=rk hR64 hR
 refine W_ret (retG1 (v1:=Bo b63) Tryz.results9 sf2 ?_)
 obtain rfl:=so hF
 exact ⟨rfl,(Star.down Z (Le.trans l7 l14) c0)⟩
 have hF:=(ite_f hc53).symm.trans hF
 refine W_skip (sq (fA 0 fa_26_0 sf3 rfl (ldB 2 Z Tryz.isAgg23 rfl rfl rfl (L_len rfl Tryz.underlying23 rfl (slice_len (RP.mono _ hr7_0 l14)) (L_mul rfl rfl rfl (aI rfl (nq (sq (aI rfl (nn ?_))))))))))
 have hlen80 : List.length x2.rules≤9223372036854775807:=len_le (slice_len (RP.mono _ hr7_1 l14))
 obtain ⟨j80,hL80,hF⟩:=bind_some hF
 obtain ⟨R80,hR80⟩:=exR fun f w_=>∃ n_77 : Int,∃ H78 : FH,∃ v75_list : Value,j80 = .nx n_77∧Le H14 H78∧f 3 = Pt g8∧f 4 = v75_list∧f 8 = I n_77∧(rS 73 (rCon 122)).rel H78 [v75_list] x11.1∧Star H78 w_ ([box g8 26 #[r7_0,r7_1]])
 refine W_join R80 ?_ ?_
 refine W_block ?_
 obtain ⟨I80,hI80⟩:=exI fun n f w_=>∃ i_74 : Nat,∃ suf80 : List Rule,∃ n_77 : Int,∃ H78 : FH,∃ v75_list : Value,n = suf80.length∧List.drop i_74 x2.rules = suf80∧i_74 + suf80.length = x2.rules.length∧rangeL (l_FnEncodeModel_b1 fu x2 x11) suf80 i_74 n_77 = some j80∧Le H14 H78∧f 3 = Pt g8∧f 4 = v75_list∧f 8 = I n_77∧f 9 = I i_74∧(rS 73 (rCon 122)).rel H78 [v75_list] x11.1∧Star H78 w_ ([box g8 26 #[r7_0,r7_1]])
 obtain ⟨H81,l82,Z,hz83⟩:=Star.freeze Z
 have hz83 : (rS 73 (rCon 122)).rel H81 [r14_0] x11.1:=hz83
 have Z:=Z.get 1 rfl
 refine W_loop I80 (n:=x2.rules.length) ?_ ?_
 exact ij hI80 ⟨0,x2.rules,i64 (2 * (x2.sizes.length : Int)),H81,r14_0,rfl,rfl,Nat.zero_add _,hL80,l82,sf3,sf4,rfl,rfl,hz83,(Star.keepN 1 Z)⟩
 intro n80 f w_ hI
 obtain ⟨i_74,suf80,n_77,H78,v75_list,rfl,hd80,hl80,hL80,l79,sf3,sf4,sf8,sf9,hv76_list,Z⟩:=ik hI80 hI
 refine W_seq (sq (mF sf9 rfl (fA 1 fa_26_1 sf3 rfl (ldB 0 Z Tryz.isAgg24 rfl rfl rfl (L_len rfl Tryz.underlying24 rfl (slice_len (RP.mono _ hr7_1 (Le.trans l14 l79))) (L_lss rfl rfl rfl (nn (W_cond (b:=decide ((i_74 : Int) < (x2.rules.length : Int))) rfl (fun hc84=>?_) (fun hc84=>?_)))))))))
 have hlt80:=of_decide_eq_true hc84
 rcases suf80 with _ | ⟨x_80,rest80⟩
 exact absurd hlt80 (by simp at hl80; omega)
 obtain ⟨o80,hB80,hL80⟩:=range_cons hL80
 rw [l_FnEncodeModel_b1] at hB80
 have hix80:=drop_idx hd80
 refine W_skip (W_seq (W_block (W_seq ?_)))
 obtain ⟨x85,hx85,hB80⟩:=bind_some hB80
 refine W_region (L_lda (cs:=[r7_0,r7_1]) rfl Tryz.isAgg26 Tryz.sizeOf26 sf3 (At.sub0 (Blk.at (Star.blkAt 0 Z rfl)) 0 2) rfl (mF sf9 rfl (L_call rfl Tryz.call30 (ops2 rfl rfl) (i_EncodeRule_c (m:=x2) (rule:=(i_74 : Int)) Z (RP.mono _ hr7_0 (Le.trans l14 l79)) (RP.mono _ hr7_1 (Le.trans l14 l79)) hx85) ?_)))
 rintro _ w88 ⟨H88,l88,r88_0,rfl,Z⟩
 refine mV (.tuple #[r88_0,Bo x85.2]) rfl (L_ex (v:=r88_0) rfl rfl rfl (L_ex (v:=Bo x85.2) rfl rfl rfl (aV r88_0 rfl (aB rfl (nq (W_seq ?_))))))
 obtain ⟨b101,hb101,hB80⟩:=bind_some hB80
 obtain ⟨R102,hR102⟩:=exR fun f w_=>f 3 = Pt g8∧f 4 = v75_list∧f 8 = I n_77∧f 9 = I i_74∧f 10 = r88_0∧f 88 = Bo b101∧Star H88 w_ ([oF 73 (rCon 122) r88_0 x85.1,box g8 26 #[r7_0,r7_1]])
 refine W_join R102 ?_ ?_
 refine W_region (mB rfl (L_not_ rfl rfl (mB rfl (L_split (d:=68) (b:=(!x85.2)) rfl (fun hc103=>?_) (fun hc103=>?_)))))
 refine ps rfl (ps rfl (ps rfl (ps rfl (ps rfl (ps rfl (ps rfl (L_pick (v:=Bo ((!x85.2) || (decide ((i64 (n_77 + (x85.1.length : Int))) > (x11.1.length : Int))))) rfl rfl (or_t hc103) (mB rfl (L_split (d:=77) (b:=((!x85.2) || (decide ((i64 (n_77 + (x85.1.length : Int))) > (x11.1.length : Int))))) rfl (fun hc104=>?_) (fun hc104=>?_))))))))))
 rw [ite_t hc104] at hb101
 refine ps rfl (ps rfl (ps rfl (ps rfl (ps rfl (ps rfl (ps rfl (ps rfl (ps rfl (ps rfl (L_pick (v:=Bo b101) rfl rfl (congrArg Value.bool (so hb101)) (nn (rj hR102 ⟨sf3,sf4,sf8,sf9,rfl,rfl,Z⟩))))))))))))
 rw [ite_f hc104] at hb101
 obtain ⟨x90,hx90,hb101⟩:=bind_some hb101
 obtain ⟨x99,hx99,hb101⟩:=bind_some hb101
 refine mF sf4 rfl (mF sf8 rfl (mF sf8 rfl (mV r88_0 rfl (L_len rfl Tryz.underlying28 rfl (Star.len 0 Z rfl) (L_add rfl rfl rfl (L_sl (a:=n_77) (b:=i64 (n_77 + (x85.1.length : Int))) rfl et_28 rfl (RP.mono _ hv76_list l88) rfl rfl hx90 (fun v105 hs106=>mV r88_0 rfl ?_)))))))
 obtain ⟨H107b,l108,s109,z110,k111⟩:=Z.borrow
 have hb112 : (rS 73 (rCon 122)).rel H107b [r88_0] x85.1:=fz_own 0 z110 rfl
 refine L_call rfl Tryz.call15 (ops2 rfl rfl) (l_cpProblem_c (a:=x90) (b:=x85.1) s109 (RP.mono _ hs106 l108) hb112 hx99) ?_
 rintro _ w113 ⟨rfl,Z⟩
 have Z:=k111 Z c0
 refine L_not_ rfl rfl (L_pick (v:=Bo b101) rfl rfl (congrArg Value.bool (so hb101)) (nn (rj hR102 ⟨sf3,sf4,sf8,sf9,rfl,rfl,Z⟩)))
 refine mF sf8 rfl (mV r88_0 rfl (L_len rfl Tryz.underlying28 rfl (Star.len 0 Z rfl) (L_add rfl rfl rfl (mF sf4 rfl (L_len rfl Tryz.underlying28 rfl (slice_len (RP.mono _ hv76_list l88)) (L_gtr rfl rfl rfl (L_pick (v:=Bo ((!x85.2) || (decide ((i64 (n_77 + (x85.1.length : Int))) > (x11.1.length : Int))))) rfl rfl (or_f hc103 rfl) (mB rfl (L_split (d:=77) (b:=((!x85.2) || (decide ((i64 (n_77 + (x85.1.length : Int))) > (x11.1.length : Int))))) rfl (fun hc114=>?_) (fun hc114=>?_))))))))))
 rw [ite_t hc114] at hb101
 refine ps rfl (ps rfl (ps rfl (ps rfl (ps rfl (ps rfl (ps rfl (ps rfl (ps rfl (ps rfl (L_pick (v:=Bo b101) rfl rfl (congrArg Value.bool (so hb101)) (nn (rj hR102 ⟨sf3,sf4,sf8,sf9,rfl,rfl,Z⟩))))))))))))
 rw [ite_f hc114] at hb101
 obtain ⟨x90,hx90,hb101⟩:=bind_some hb101
 obtain ⟨x99,hx99,hb101⟩:=bind_some hb101
 refine mF sf4 rfl (mF sf8 rfl (mF sf8 rfl (mV r88_0 rfl (L_len rfl Tryz.underlying28 rfl (Star.len 0 Z rfl) (L_add rfl rfl rfl (L_sl (a:=n_77) (b:=i64 (n_77 + (x85.1.length : Int))) rfl et_28 rfl (RP.mono _ hv76_list l88) rfl rfl hx90 (fun v115 hs116=>mV r88_0 rfl ?_)))))))
 obtain ⟨H117b,l118,s119,z120,k121⟩:=Z.borrow
 have hb122 : (rS 73 (rCon 122)).rel H117b [r88_0] x85.1:=fz_own 0 z120 rfl
 refine L_call rfl Tryz.call15 (ops2 rfl rfl) (l_cpProblem_c (a:=x90) (b:=x85.1) s119 (RP.mono _ hs116 l118) hb122 hx99) ?_
 rintro _ w123 ⟨rfl,Z⟩
 have Z:=k121 Z c0
 refine L_not_ rfl rfl (L_pick (v:=Bo b101) rfl rfl (congrArg Value.bool (so hb101)) (nn (rj hR102 ⟨sf3,sf4,sf8,sf9,rfl,rfl,Z⟩)))
 intro f w_ hR
 obtain ⟨sf3,sf4,sf8,sf9,sf10,sf88,Z⟩:=rk hR102 hR
 refine W_cond (b:=b101) sf88 (fun hc124=>?_) (fun hc124=>?_)
 have hB80:=(ite_t hc124).symm.trans hB80
 refine sq (aB rfl (nn (W_ret (retG1 (v1:=Bo false) Tryz.results9 rfl ?_))))
 obtain rfl:=so hB80
 obtain rfl:=so hL80
 obtain rfl:=so hF
 exact ⟨rfl,(Star.down (Star.keepN 0 Z) (Le.trans (Le.trans (Le.trans l7 l14) l79) l88) c0)⟩
 have hB80:=(ite_f hc124).symm.trans hB80
 refine W_skip (W_region (mF sf8 rfl (mF sf10 rfl (L_len rfl Tryz.underlying28 rfl (Star.len 0 Z rfl) (L_add rfl rfl rfl (aI rfl (nn (W_region (mF sf9 rfl (L_add rfl rfl rfl (aI rfl (nn ?_))))))))))))
 obtain rfl:=so hB80
 have Z:=Z.get 1 rfl
 show ∃ m,m < _∧I80 m _ _
 refine ⟨rest80.length,by simp,?_⟩
 exact ij hI80 ⟨i_74 + 1,rest80,i64 (n_77 + (x85.1.length : Int)),H88,v75_list,rfl,drop_next hd80,by simp at hl80; omega,hL80,(Le.trans l79 l88),sf3,sf4,rfl,(Eq.trans rfl (congrArg (Value.int .i64) (i64_succ (n:=x2.rules.length) (by simp at hl80; omega) hlen80))),(RP.mono _ hv76_list l88),(Star.keepN 1 Z)⟩
 rcases suf80 with _ | ⟨_,_⟩
 obtain rfl:=range_nil hL80
 refine W_exit (rj hR80 ⟨n_77,H78,v75_list,rfl,l79,sf3,sf4,sf8,hv76_list,Z⟩)
 exact absurd (of_decide_eq_false hc84) (by simp at hl80; omega)
 intro f w_ hR
 obtain ⟨n_77,H78,v75_list,rfl,l79,sf3,sf4,sf8,hv76_list,Z⟩:=rk hR80 hR
 refine W_seq ?_
 obtain ⟨x125,hx125,hF⟩:=bind_some hF
 obtain ⟨x133,hx133,hF⟩:=bind_some hF
 refine W_region (mF sf4 rfl (fA 0 fa_26_0 sf3 rfl (ldB 0 Z Tryz.isAgg23 rfl rfl rfl (L_len rfl Tryz.underlying23 rfl (slice_len (RP.mono _ hr7_0 (Le.trans l14 l79))) (L_mul rfl rfl rfl (L_sl (a:=0) (b:=i64 (2 * (x2.sizes.length : Int))) rfl et_28 rfl hv76_list rfl rfl hx125 (fun v135 hs136=>?_)))))))
 obtain ⟨H137b,l138,s139,z140,k141⟩:=Z.borrow
 refine L_call rfl Tryz.call34 (ops1 rfl) (i_CountSolutions_c (list:=x125) s139 (RP.mono _ hs136 l138) hx133) ?_
 rintro _ w142 ⟨rfl,Z⟩
 have Z:=k141 Z c0
 refine aI rfl (nq ?_)
 obtain ⟨b150,hb150,hF⟩:=bind_some hF
 obtain ⟨b166,hb166,hF⟩:=bind_some hF
 obtain ⟨R170,hR170⟩:=exR fun f w_=>∃ H168 : FH,Le H78 H168∧f 2 = Bo b166∧Star H168 w_ ([])
 refine W_join R170 ?_ ?_
 rcases Bool.eq_false_or_eq_true (n_77 == (x11.1.length : Int)) with hc171 | hc171
 rw [ite_t hc171] at hb150
 obtain ⟨x148,hx148,hb150⟩:=bind_some hb150
 rcases Bool.eq_false_or_eq_true b150 with hc172 | hc172
 rw [ite_t hc172] at hb166
 obtain ⟨x156,hx156,hb166⟩:=bind_some hb166
 obtain ⟨x163,hx163,hb166⟩:=bind_some hb166
 obtain ⟨q165,hq165,hb166⟩:=bind_some hb166
 refine W_drawS 17 [isV (I n_77),isV (v75_list),isV (I (x11.1.length : Int)),isV (Bo (n_77 == (x11.1.length : Int))),isV (Bo (n_77 == (x11.1.length : Int))),isV (v75_list),isV (Bo x148),isV (Bo b150),isV (Bo b150),isV (I x133),isV (Pt g8),isV (r7_0),isV (.agg #[r7_0,S0]),isV (I x156),isV (.agg #[r7_0,r7_1]),isV (I x163),isV (I (IntKind.i64.wrap (x156 * 2 ^ (min (Int.toNat x163) (IntKind.bits .i64)))))] [box g8 26 #[r7_0,r7_1]] [] ([]) [([],[]),([],[]),([],[]),([],[]),([],[]),([],[]),([],[]),([],[]),([],[]),([],[]),([],[]),([],[]),([],[]),([],[]),([],[]),([],[]),([],[])] (S:=[]) Tryz_mix (by kernel_rfl) rfl (by kernel_rfl) (amF_cons (mono_V _) (amF_cons (mono_V _) (amF_cons (mono_V _) (amF_cons (mono_V _) (amF_cons (mono_V _) (amF_cons (mono_V _) (amF_cons (mono_V _) (amF_cons (mono_V _) (amF_cons (mono_V _) (amF_cons (mono_V _) (amF_cons (mono_V _) (amF_cons (mono_V _) (amF_cons (mono_V _) (amF_cons (mono_V _) (amF_cons (mono_V _) (amF_cons (mono_V _) (amF_cons (mono_V _) amF_nil))))))))))))))))) Z ?_ (fun f w_ H167 hS167 hE167 hT167 Z=>?_)
 refine opsS_cons (fun f w_ _ _ s _ _ Z=>mF ((s 8 rfl).trans sf8) rfl (nO rfl rfl Z)) (opsS_cons (fun f w_ _ _ s _ _ Z=>mF ((s 4 rfl).trans sf4) rfl (nO rfl rfl Z)) (opsS_cons (fun f w_ _ _ _ hE167 p Z=>L_len rfl Tryz.underlying28 (p 1 101 rfl rfl) (slice_len (RP.mono _ hv76_list hE167)) (nO rfl rfl Z)) (opsS_cons (fun f w_ _ _ _ _ p Z=>L_eql rfl (p 0 100 rfl rfl) (p 2 102 rfl rfl) (nO rfl rfl Z)) (opsS_cons (fun f w_ _ _ _ _ p Z=>mF (p 3 103 rfl rfl) rfl (nO rfl rfl Z)) (opsS_cons (fun f w_ _ _ s _ p Z=>L_mv (v:=v75_list) (g_yes rfl (Eq.trans (p 4 104 rfl rfl) (congrArg Value.bool hc171)) rfl) ((s 4 rfl).trans sf4) (nO rfl rfl Z)) (opsS_cons ?_ ?_))))))
 intro f w_ H167 X167 hS167 hE167 hP167 Z
 obtain ⟨H191b,l192,s193,z194,k195⟩:=Z.borrow
 refine L_call (g_yes rfl (Eq.trans (hP167 4 104 rfl rfl) (congrArg Value.bool hc171)) rfl) Tryz.call37 (ops1 (hP167 5 105 rfl rfl)) (i_ProblemValid_c (list:=x11.1) s193 (RP.mono _ hv76_list (Le.trans hE167 l192)) hx148) ?_
 rintro _ w196 ⟨rfl,Z⟩
 have Z:=k195 Z c0
 exact L_nil ⟨rfl,_,_,rfl,Le.refl _,fun _ _=>rfl,Z⟩
 refine opsS_cons (fun f w_ _ _ _ _ p Z=>pkT (v:=Bo b150) (p 4 104 rfl rfl) hc171 rfl (Eq.trans (p 6 106 rfl rfl) (congrArg Value.bool (so hb150))) (nO rfl rfl Z)) (opsS_cons (fun f w_ _ _ _ _ p Z=>mF (p 7 107 rfl rfl) rfl (nO rfl rfl Z)) (opsS_cons (fun f w_ _ _ s _ p Z=>L_mv (v:=I x133) (g_yes rfl (Eq.trans (p 8 108 rfl rfl) (congrArg Value.bool hc172)) rfl) ((s 12 rfl).trans rfl) (nO rfl rfl Z)) (opsS_cons (fun f w_ _ _ s _ p Z=>L_fa (o':=0) (g_yes rfl (Eq.trans (p 8 108 rfl rfl) (congrArg Value.bool hc172)) rfl) fa_26_0 ((s 3 rfl).trans sf3) rfl (nO rfl rfl Z)) (opsS_cons (fun f w_ _ _ _ _ p Z=>L_ld (v:=r7_0) (g_yes rfl (Eq.trans (p 8 108 rfl rfl) (congrArg Value.bool hc172)) rfl) Tryz.isAgg23 (p 10 110 rfl rfl) (At.cell0 (Blk.at (Star.blkAt 0 Z rfl)) (j:=0) rfl) (nO rfl rfl Z)) (opsS_cons (fun f w_ _ _ _ hE167 p Z=>L_bld (g_yes rfl (Eq.trans (p 8 108 rfl rfl) (congrArg Value.bool hc172)) rfl) (parts1 (p 11 111 rfl rfl)) (bld_26_0 (r7_0) (one_len (slice_len (RP.mono _ hr7_0 (Le.trans (Le.trans l14 l79) hE167))))) (nO rfl rfl Z)) (opsS_cons ?_ ?_))))))
 intro f w_ H167 X167 hS167 hE167 hP167 Z
 obtain ⟨H197b,l198,s199,z200,k201⟩:=Z.borrow
 refine L_call (g_yes rfl (Eq.trans (hP167 8 108 rfl rfl) (congrArg Value.bool hc172)) rfl) Tryz.call17 (ops1 (hP167 12 112 rfl rfl)) (i_CountModel_c (m:=({ sizes:=x2.sizes,rules:=[] } : Model)) s199 (RP.mono _ hr7_0 (Le.trans (Le.trans (Le.trans l14 l79) hE167) l198)) (rel_nil _ _ _) hx156) ?_
 rintro _ w202 ⟨rfl,Z⟩
 have Z:=k201 Z c0
 exact L_nil ⟨rfl,_,_,rfl,Le.refl _,fun _ _=>rfl,Z⟩
 refine opsS_cons (fun f w_ _ _ s _ p Z=>L_lda (cs:=[r7_0,r7_1]) (g_yes rfl (Eq.trans (p 8 108 rfl rfl) (congrArg Value.bool hc172)) rfl) Tryz.isAgg26 Tryz.sizeOf26 ((s 3 rfl).trans sf3) (At.sub0 (Blk.at (Star.blkAt 0 Z rfl)) 0 2) rfl (nO rfl rfl Z)) (opsS_cons ?_ ?_)
 intro f w_ H167 X167 hS167 hE167 hP167 Z
 obtain ⟨H203b,l204,s205,z206,k207⟩:=Z.borrow
 refine L_call (g_yes rfl (Eq.trans (hP167 8 108 rfl rfl) (congrArg Value.bool hc172)) rfl) Tryz.call35 (ops1 (hP167 14 114 rfl rfl)) (i_FreeVars_c (m:=x2) s205 (RP.mono _ hr7_0 (Le.trans (Le.trans (Le.trans l14 l79) hE167) l204)) (RP.mono _ hr7_1 (Le.trans (Le.trans (Le.trans l14 l79) hE167) l204)) hx163) ?_
 rintro _ w208 ⟨rfl,Z⟩
 have Z:=k207 Z c0
 exact L_nil ⟨rfl,_,_,rfl,Le.refl _,fun _ _=>rfl,Z⟩
 refine opsS_cons (fun f w_ _ _ _ _ p Z=>L_shl (m:=x156) (n:=x163) (g_yes rfl (Eq.trans (p 8 108 rfl rfl) (congrArg Value.bool hc172)) rfl) (p 13 113 rfl rfl) (p 15 115 rfl rfl) (Int.not_lt.1 fun he=>by rw [if_pos he] at hq165; cases hq165) (nO rfl rfl Z)) (opsS_nil)
 refine L_eql (g_yes rfl (Eq.trans (hT167 8 108 rfl rfl) (congrArg Value.bool hc172)) rfl) (hT167 9 109 rfl rfl) (hT167 16 116 rfl rfl) (L_pick (v:=Bo b166) rfl (Eq.trans (hT167 8 108 rfl rfl) (congrArg Value.bool hc172)) (congrArg Value.bool (so hb166)) (aB rfl (nn (rj hR170 ⟨H167,hE167,rfl,(Star.keepN 0 Z)⟩))))
 rw [ite_f hc172] at hb166
 refine W_drawS 17 [isV (I n_77),isV (v75_list),isV (I (x11.1.length : Int)),isV (Bo (n_77 == (x11.1.length : Int))),isV (Bo (n_77 == (x11.1.length : Int))),isV (v75_list),isV (Bo x148),isV (Bo b150),isV (Bo b150),isV (undef),isV (undef),isV (undef),isV (undef),isV (undef),isV (undef),isV (undef),isV (undef)] [box g8 26 #[r7_0,r7_1]] [] ([]) [([],[]),([],[]),([],[]),([],[]),([],[]),([],[]),([],[]),([],[]),([],[]),([],[]),([],[]),([],[]),([],[]),([],[]),([],[]),([],[]),([],[])] (S:=[]) Tryz_mix (by kernel_rfl) rfl (by kernel_rfl) (amF_cons (mono_V _) (amF_cons (mono_V _) (amF_cons (mono_V _) (amF_cons (mono_V _) (amF_cons (mono_V _) (amF_cons (mono_V _) (amF_cons (mono_V _) (amF_cons (mono_V _) (amF_cons (mono_V _) (amF_cons (mono_V _) (amF_cons (mono_V _) (amF_cons (mono_V _) (amF_cons (mono_V _) (amF_cons (mono_V _) (amF_cons (mono_V _) (amF_cons (mono_V _) (amF_cons (mono_V _) amF_nil))))))))))))))))) Z ?_ (fun f w_ H167 hS167 hE167 hT167 Z=>?_)
 refine opsS_cons (fun f w_ _ _ s _ _ Z=>mF ((s 8 rfl).trans sf8) rfl (nO rfl rfl Z)) (opsS_cons (fun f w_ _ _ s _ _ Z=>mF ((s 4 rfl).trans sf4) rfl (nO rfl rfl Z)) (opsS_cons (fun f w_ _ _ _ hE167 p Z=>L_len rfl Tryz.underlying28 (p 1 101 rfl rfl) (slice_len (RP.mono _ hv76_list hE167)) (nO rfl rfl Z)) (opsS_cons (fun f w_ _ _ _ _ p Z=>L_eql rfl (p 0 100 rfl rfl) (p 2 102 rfl rfl) (nO rfl rfl Z)) (opsS_cons (fun f w_ _ _ _ _ p Z=>mF (p 3 103 rfl rfl) rfl (nO rfl rfl Z)) (opsS_cons (fun f w_ _ _ s _ p Z=>L_mv (v:=v75_list) (g_yes rfl (Eq.trans (p 4 104 rfl rfl) (congrArg Value.bool hc171)) rfl) ((s 4 rfl).trans sf4) (nO rfl rfl Z)) (opsS_cons ?_ ?_))))))
 intro f w_ H167 X167 hS167 hE167 hP167 Z
 obtain ⟨H215b,l216,s217,z218,k219⟩:=Z.borrow
 refine L_call (g_yes rfl (Eq.trans (hP167 4 104 rfl rfl) (congrArg Value.bool hc171)) rfl) Tryz.call37 (ops1 (hP167 5 105 rfl rfl)) (i_ProblemValid_c (list:=x11.1) s217 (RP.mono _ hv76_list (Le.trans hE167 l216)) hx148) ?_
 rintro _ w220 ⟨rfl,Z⟩
 have Z:=k219 Z c0
 exact L_nil ⟨rfl,_,_,rfl,Le.refl _,fun _ _=>rfl,Z⟩
 refine opsS_cons (fun f w_ _ _ _ _ p Z=>pkT (v:=Bo b150) (p 4 104 rfl rfl) hc171 rfl (Eq.trans (p 6 106 rfl rfl) (congrArg Value.bool (so hb150))) (nO rfl rfl Z)) (opsS_cons (fun f w_ _ _ _ _ p Z=>mF (p 7 107 rfl rfl) rfl (nO rfl rfl Z)) (oP (fun _ _ p=>gN (p 8 108 rfl rfl) hc172 rfl) (fun _=>rfl) (oP (fun _ _ p=>gN (p 8 108 rfl rfl) hc172 rfl) (fun _=>rfl) (oP (fun _ _ p=>gN (p 8 108 rfl rfl) hc172 rfl) (fun _=>rfl) (oP (fun _ _ p=>gN (p 8 108 rfl rfl) hc172 rfl) (fun _=>rfl) (oP (fun _ _ p=>gN (p 8 108 rfl rfl) hc172 rfl) (fun _=>rfl) (oP (fun _ _ p=>gN (p 8 108 rfl rfl) hc172 rfl) (fun _=>rfl) (oP (fun _ _ p=>gN (p 8 108 rfl rfl) hc172 rfl) (fun _=>rfl) (oP (fun _ _ p=>gN (p 8 108 rfl rfl) hc172 rfl) (fun _=>rfl) (opsS_nil))))))))))
 refine ps (g_no rfl (Eq.trans (hT167 8 108 rfl rfl) (congrArg Value.bool hc172)) rfl rfl) (L_pick (v:=Bo b166) rfl (Eq.trans (hT167 8 108 rfl rfl) (congrArg Value.bool hc172)) (congrArg Value.bool (so hb166)) (aB rfl (nn (rj hR170 ⟨H167,hE167,rfl,(Star.keepN 0 Z)⟩))))
 rw [ite_f hc171] at hb150
 rcases Bool.eq_false_or_eq_true b150 with hc221 | hc221
 rw [ite_t hc221] at hb166
 obtain ⟨x156,hx156,hb166⟩:=bind_some hb166
 obtain ⟨x163,hx163,hb166⟩:=bind_some hb166
 obtain ⟨q165,hq165,hb166⟩:=bind_some hb166
 refine W_drawS 17 [isV (I n_77),isV (v75_list),isV (I (x11.1.length : Int)),isV (Bo (n_77 == (x11.1.length : Int))),isV (Bo (n_77 == (x11.1.length : Int))),isV (undef),isV (undef),isV (Bo b150),isV (Bo b150),isV (I x133),isV (Pt g8),isV (r7_0),isV (.agg #[r7_0,S0]),isV (I x156),isV (.agg #[r7_0,r7_1]),isV (I x163),isV (I (IntKind.i64.wrap (x156 * 2 ^ (min (Int.toNat x163) (IntKind.bits .i64)))))] [box g8 26 #[r7_0,r7_1]] [] ([]) [([],[]),([],[]),([],[]),([],[]),([],[]),([],[]),([],[]),([],[]),([],[]),([],[]),([],[]),([],[]),([],[]),([],[]),([],[]),([],[]),([],[])] (S:=[]) Tryz_mix (by kernel_rfl) rfl (by kernel_rfl) (amF_cons (mono_V _) (amF_cons (mono_V _) (amF_cons (mono_V _) (amF_cons (mono_V _) (amF_cons (mono_V _) (amF_cons (mono_V _) (amF_cons (mono_V _) (amF_cons (mono_V _) (amF_cons (mono_V _) (amF_cons (mono_V _) (amF_cons (mono_V _) (amF_cons (mono_V _) (amF_cons (mono_V _) (amF_cons (mono_V _) (amF_cons (mono_V _) (amF_cons (mono_V _) (amF_cons (mono_V _) amF_nil))))))))))))))))) Z ?_ (fun f w_ H167 hS167 hE167 hT167 Z=>?_)
 refine opsS_cons (fun f w_ _ _ s _ _ Z=>mF ((s 8 rfl).trans sf8) rfl (nO rfl rfl Z)) (opsS_cons (fun f w_ _ _ s _ _ Z=>mF ((s 4 rfl).trans sf4) rfl (nO rfl rfl Z)) (opsS_cons (fun f w_ _ _ _ hE167 p Z=>L_len rfl Tryz.underlying28 (p 1 101 rfl rfl) (slice_len (RP.mono _ hv76_list hE167)) (nO rfl rfl Z)) (opsS_cons (fun f w_ _ _ _ _ p Z=>L_eql rfl (p 0 100 rfl rfl) (p 2 102 rfl rfl) (nO rfl rfl Z)) (opsS_cons (fun f w_ _ _ _ _ p Z=>mF (p 3 103 rfl rfl) rfl (nO rfl rfl Z)) (oP (fun _ _ p=>gN (p 4 104 rfl rfl) hc171 rfl) (fun _=>rfl) (oP (fun _ _ p=>gN (p 4 104 rfl rfl) hc171 rfl) (fun _=>rfl) (opsS_cons (fun f w_ _ _ _ _ p Z=>pkT (v:=Bo b150) (p 4 104 rfl rfl) hc171 rfl (congrArg Value.bool (so hb150)) (nO rfl rfl Z)) (opsS_cons (fun f w_ _ _ _ _ p Z=>mF (p 7 107 rfl rfl) rfl (nO rfl rfl Z)) (opsS_cons (fun f w_ _ _ s _ p Z=>L_mv (v:=I x133) (g_yes rfl (Eq.trans (p 8 108 rfl rfl) (congrArg Value.bool hc221)) rfl) ((s 12 rfl).trans rfl) (nO rfl rfl Z)) (opsS_cons (fun f w_ _ _ s _ p Z=>L_fa (o':=0) (g_yes rfl (Eq.trans (p 8 108 rfl rfl) (congrArg Value.bool hc221)) rfl) fa_26_0 ((s 3 rfl).trans sf3) rfl (nO rfl rfl Z)) (opsS_cons (fun f w_ _ _ _ _ p Z=>L_ld (v:=r7_0) (g_yes rfl (Eq.trans (p 8 108 rfl rfl) (congrArg Value.bool hc221)) rfl) Tryz.isAgg23 (p 10 110 rfl rfl) (At.cell0 (Blk.at (Star.blkAt 0 Z rfl)) (j:=0) rfl) (nO rfl rfl Z)) (opsS_cons (fun f w_ _ _ _ hE167 p Z=>L_bld (g_yes rfl (Eq.trans (p 8 108 rfl rfl) (congrArg Value.bool hc221)) rfl) (parts1 (p 11 111 rfl rfl)) (bld_26_0 (r7_0) (one_len (slice_len (RP.mono _ hr7_0 (Le.trans (Le.trans l14 l79) hE167))))) (nO rfl rfl Z)) (opsS_cons ?_ ?_)))))))))))))
 intro f w_ H167 X167 hS167 hE167 hP167 Z
 obtain ⟨H234b,l235,s236,z237,k238⟩:=Z.borrow
 refine L_call (g_yes rfl (Eq.trans (hP167 8 108 rfl rfl) (congrArg Value.bool hc221)) rfl) Tryz.call17 (ops1 (hP167 12 112 rfl rfl)) (i_CountModel_c (m:=({ sizes:=x2.sizes,rules:=[] } : Model)) s236 (RP.mono _ hr7_0 (Le.trans (Le.trans (Le.trans l14 l79) hE167) l235)) (rel_nil _ _ _) hx156) ?_
 rintro _ w239 ⟨rfl,Z⟩
 have Z:=k238 Z c0
 exact L_nil ⟨rfl,_,_,rfl,Le.refl _,fun _ _=>rfl,Z⟩
 refine opsS_cons (fun f w_ _ _ s _ p Z=>L_lda (cs:=[r7_0,r7_1]) (g_yes rfl (Eq.trans (p 8 108 rfl rfl) (congrArg Value.bool hc221)) rfl) Tryz.isAgg26 Tryz.sizeOf26 ((s 3 rfl).trans sf3) (At.sub0 (Blk.at (Star.blkAt 0 Z rfl)) 0 2) rfl (nO rfl rfl Z)) (opsS_cons ?_ ?_)
 intro f w_ H167 X167 hS167 hE167 hP167 Z
 obtain ⟨H240b,l241,s242,z243,k244⟩:=Z.borrow
 refine L_call (g_yes rfl (Eq.trans (hP167 8 108 rfl rfl) (congrArg Value.bool hc221)) rfl) Tryz.call35 (ops1 (hP167 14 114 rfl rfl)) (i_FreeVars_c (m:=x2) s242 (RP.mono _ hr7_0 (Le.trans (Le.trans (Le.trans l14 l79) hE167) l241)) (RP.mono _ hr7_1 (Le.trans (Le.trans (Le.trans l14 l79) hE167) l241)) hx163) ?_
 rintro _ w245 ⟨rfl,Z⟩
 have Z:=k244 Z c0
 exact L_nil ⟨rfl,_,_,rfl,Le.refl _,fun _ _=>rfl,Z⟩
 refine opsS_cons (fun f w_ _ _ _ _ p Z=>L_shl (m:=x156) (n:=x163) (g_yes rfl (Eq.trans (p 8 108 rfl rfl) (congrArg Value.bool hc221)) rfl) (p 13 113 rfl rfl) (p 15 115 rfl rfl) (Int.not_lt.1 fun he=>by rw [if_pos he] at hq165; cases hq165) (nO rfl rfl Z)) (opsS_nil)
 refine L_eql (g_yes rfl (Eq.trans (hT167 8 108 rfl rfl) (congrArg Value.bool hc221)) rfl) (hT167 9 109 rfl rfl) (hT167 16 116 rfl rfl) (L_pick (v:=Bo b166) rfl (Eq.trans (hT167 8 108 rfl rfl) (congrArg Value.bool hc221)) (congrArg Value.bool (so hb166)) (aB rfl (nn (rj hR170 ⟨H167,hE167,rfl,(Star.keepN 0 Z)⟩))))
 rw [ite_f hc221] at hb166
 refine W_drawS 17 [isV (I n_77),isV (v75_list),isV (I (x11.1.length : Int)),isV (Bo (n_77 == (x11.1.length : Int))),isV (Bo (n_77 == (x11.1.length : Int))),isV (undef),isV (undef),isV (Bo b150),isV (Bo b150),isV (undef),isV (undef),isV (undef),isV (undef),isV (undef),isV (undef),isV (undef),isV (undef)] [box g8 26 #[r7_0,r7_1]] [] ([]) [([],[]),([],[]),([],[]),([],[]),([],[]),([],[]),([],[]),([],[]),([],[]),([],[]),([],[]),([],[]),([],[]),([],[]),([],[]),([],[]),([],[])] (S:=[]) Tryz_mix (by kernel_rfl) rfl (by kernel_rfl) (amF_cons (mono_V _) (amF_cons (mono_V _) (amF_cons (mono_V _) (amF_cons (mono_V _) (amF_cons (mono_V _) (amF_cons (mono_V _) (amF_cons (mono_V _) (amF_cons (mono_V _) (amF_cons (mono_V _) (amF_cons (mono_V _) (amF_cons (mono_V _) (amF_cons (mono_V _) (amF_cons (mono_V _) (amF_cons (mono_V _) (amF_cons (mono_V _) (amF_cons (mono_V _) (amF_cons (mono_V _) amF_nil))))))))))))))))) Z ?_ (fun f w_ H167 hS167 hE167 hT167 Z=>?_)
 refine opsS_cons (fun f w_ _ _ s _ _ Z=>mF ((s 8 rfl).trans sf8) rfl (nO rfl rfl Z)) (opsS_cons (fun f w_ _ _ s _ _ Z=>mF ((s 4 rfl).trans sf4) rfl (nO rfl rfl Z)) (opsS_cons (fun f w_ _ _ _ hE167 p Z=>L_len rfl Tryz.underlying28 (p 1 101 rfl rfl) (slice_len (RP.mono _ hv76_list hE167)) (nO rfl rfl Z)) (opsS_cons (fun f w_ _ _ _ _ p Z=>L_eql rfl (p 0 100 rfl rfl) (p 2 102 rfl rfl) (nO rfl rfl Z)) (opsS_cons (fun f w_ _ _ _ _ p Z=>mF (p 3 103 rfl rfl) rfl (nO rfl rfl Z)) (oP (fun _ _ p=>gN (p 4 104 rfl rfl) hc171 rfl) (fun _=>rfl) (oP (fun _ _ p=>gN (p 4 104 rfl rfl) hc171 rfl) (fun _=>rfl) (opsS_cons (fun f w_ _ _ _ _ p Z=>pkT (v:=Bo b150) (p 4 104 rfl rfl) hc171 rfl (congrArg Value.bool (so hb150)) (nO rfl rfl Z)) (opsS_cons (fun f w_ _ _ _ _ p Z=>mF (p 7 107 rfl rfl) rfl (nO rfl rfl Z)) (oP (fun _ _ p=>gN (p 8 108 rfl rfl) hc221 rfl) (fun _=>rfl) (oP (fun _ _ p=>gN (p 8 108 rfl rfl) hc221 rfl) (fun _=>rfl) (oP (fun _ _ p=>gN (p 8 108 rfl rfl) hc221 rfl) (fun _=>rfl) (oP (fun _ _ p=>gN (p 8 108 rfl rfl) hc221 rfl) (fun _=>rfl) (oP (fun _ _ p=>gN (p 8 108 rfl rfl) hc221 rfl) (fun _=>rfl) (oP (fun _ _ p=>gN (p 8 108 rfl rfl) hc221 rfl) (fun _=>rfl) (oP (fun _ _ p=>gN (p 8 108 rfl rfl) hc221 rfl) (fun _=>rfl) (oP (fun _ _ p=>gN (p 8 108 rfl rfl) hc221 rfl) (fun _=>rfl) (opsS_nil)))))))))))))))))
 refine ps (g_no rfl (Eq.trans (hT167 8 108 rfl rfl) (congrArg Value.bool hc221)) rfl rfl) (L_pick (v:=Bo b166) rfl (Eq.trans (hT167 8 108 rfl rfl) (congrArg Value.bool hc221)) (congrArg Value.bool (so hb166)) (aB rfl (nn (rj hR170 ⟨H167,hE167,rfl,(Star.keepN 0 Z)⟩))))
 intro f w_ hR
 obtain ⟨H168,l169,sf2,Z⟩:=rk hR170 hR
 refine W_ret (retG1 (v1:=Bo b166) Tryz.results9 sf2 ?_)
 obtain rfl:=so hF
 exact ⟨rfl,(Star.down Z (Le.trans (Le.trans (Le.trans l7 l14) l79) l169) c0)⟩
end Go.Proofs.YtbjllamkfmejlaaGreat

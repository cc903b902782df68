/- Part of a proof by program: W2. -/
import Derived.Test.YtnjcihhfoocdcaaGreatDoorD1
import Derived.Test.YtnjcihhfoocdcaaGreatDoorW1
namespace Go.Proofs.YtnjcihhfoocdcaaGreatDoor
open Go Go.E Go.L Go.RowKit
set_option linter.unusedVariables false
set_option linter.unusedSimpArgs false
set_option maxRecDepth 100000
theorem s_l1Text_c {fu : Nat} {c : Con} {v0_0 : Value} {H : FH} {w : World} (Z : Star H w []) (h0_0 : (rS 58 rTerm).rel H [v0_0] c.terms) {r : ByteArray} (hF : s_l1Text fu c = some r) :
 C Tryz.prog 19 #[.agg #[v0_0,I c.bound]] w fun v w'=>v = .string r∧Star H w' []:=by
 unfold s_l1Text at hF
 refine C_enter Tryz.func19 rfl Tryz.ntmps19 rfl (sq (L_box (v:=.agg #[v0_0,I c.bound]) (cs:=#[v0_0,I c.bound]) rfl rfl rfl Z (fun g3 w4 Z=>aV (.string (⟨#[]⟩ : ByteArray)) rfl (ns (aV (.string (⟨#[]⟩ : ByteArray)) rfl (nq (sq (aI rfl (nn ?_)))))))))
 have hlen9 : List.length c.terms≤9223372036854775807:=len_le (slice_len h0_0)
 obtain ⟨j9,hL9,hF⟩:=bind_some hF
 obtain ⟨R9,hR9⟩:=exR fun f w_=>∃ out_6 : ByteArray,∃ H7 : FH,j9 = .nx out_6∧Le H H7∧f 1 = Pt g3∧f 3 = .string out_6∧Star H7 w_ ([box g3 37 #[v0_0,I c.bound]])
 refine W_join R9 ?_ ?_
 refine W_block ?_
 obtain ⟨I9,hI9⟩:=exI fun n f w_=>∃ i_5 : Nat,∃ suf9 : List Term,∃ out_6 : ByteArray,∃ H7 : FH,n = suf9.length∧List.drop i_5 c.terms = suf9∧i_5 + suf9.length = c.terms.length∧rangeL (s_l1Text_b1 fu) suf9 i_5 out_6 = some j9∧Le H H7∧f 1 = Pt g3∧f 3 = .string out_6∧f 4 = I i_5∧Star H7 w_ ([box g3 37 #[v0_0,I c.bound]])
 refine W_loop I9 (n:=c.terms.length) ?_ ?_
 exact ij hI9 ⟨0,c.terms,(⟨#[]⟩ : ByteArray),H,rfl,rfl,Nat.zero_add _,hL9,(Le.refl _),rfl,rfl,rfl,Z⟩
 intro n9 f w_ hI
 obtain ⟨i_5,suf9,out_6,H7,rfl,hd9,hl9,hL9,l8,sf1,sf3,sf4,Z⟩:=ik hI9 hI
 refine W_seq (sq (mF sf4 rfl (fA 0 fa_37_0 sf1 rfl (ldB 0 Z Tryz.isAgg35 rfl rfl rfl (L_len rfl Tryz.underlying35 rfl (slice_len (RP.mono _ h0_0 l8)) (L_lss rfl rfl rfl (nn (W_cond (b:=decide ((i_5 : Int) < (c.terms.length : Int))) rfl (fun hc10=>?_) (fun hc10=>?_)))))))))
 have hlt9:=of_decide_eq_true hc10
 rcases suf9 with _ | ⟨x_9,rest9⟩
 exact absurd hlt9 (by simp at hl9; omega)
 obtain ⟨o9,hB9,hL9⟩:=range_cons hL9
 rw [s_l1Text_b1] at hB9
 have hix9:=drop_idx hd9
 refine W_skip (W_seq (W_block ?_))
 obtain ⟨x20,hx20,hB9⟩:=bind_some hB9
 obtain ⟨x22,hx22,hB9⟩:=bind_some hB9
 obtain ⟨x23,hx23,hB9⟩:=bind_some hB9
 obtain ⟨x33,hx33,hB9⟩:=bind_some hB9
 obtain ⟨x35,hx35,hB9⟩:=bind_some hB9
 obtain ⟨x36,hx36,hB9⟩:=bind_some hB9
 refine W_drawS 17 [isV (.string out_6),isV (Pt g3),isV (v0_0),isV (I i_5),isEl rTerm x_9 0,isEl rTerm x_9 0,isV (I x_9.coef),isV (.string x20),isV (.string x22),isV (.string x23),isV (Pt g3),isV (v0_0),isV (I i_5),isEl rTerm x_9 0,isEl rTerm x_9 1,isV (I x_9.lit),isV (.string x33)] [box g3 37 #[v0_0,I c.bound]] [] ([]) [([],[]),([],[]),([],[]),([],[]),([],[]),([],[]),([],[]),([],[]),([],[]),([],[]),([],[]),([],[]),([],[]),([],[]),([],[]),([],[]),([],[])] (S:=[]) Tryz_mix (by kernel_rfl) rfl (by kernel_rfl) (amF_cons (mono_V _) (amF_cons (mono_V _) (amF_cons (mono_V _) (amF_cons (mono_V _) (amF_cons (mono_el _ _ _) (amF_cons (mono_el _ _ _) (amF_cons (mono_V _) (amF_cons (mono_V _) (amF_cons (mono_V _) (amF_cons (mono_V _) (amF_cons (mono_V _) (amF_cons (mono_V _) (amF_cons (mono_V _) (amF_cons (mono_el _ _ _) (amF_cons (mono_el _ _ _) (amF_cons (mono_V _) (amF_cons (mono_V _) amF_nil))))))))))))))))) Z ?_ (fun f w_ H37 hS37 hE37 hT37 Z=>?_)
 refine opsS_cons (fun f w_ _ _ s _ _ Z=>mF ((s 3 rfl).trans sf3) rfl (nO rfl rfl Z)) (opsS_cons (fun f w_ _ _ s _ _ Z=>fA 0 fa_37_0 ((s 1 rfl).trans sf1) rfl (nO rfl rfl Z)) (opsS_cons (fun f w_ _ _ _ _ p Z=>ldB 0 Z Tryz.isAgg35 (p 1 13 rfl rfl) rfl rfl (nO rfl rfl Z)) (opsS_cons (fun f w_ _ _ s _ _ Z=>mF ((s 4 rfl).trans sf4) rfl (nO rfl rfl Z)) (opsS_cons ?_ ?_))))
 intro f w_ H37 X37 hS37 hE37 hP37 Z
 refine L_ix (r:=rTerm) rfl Tryz.underlying35 Tryz.sizeOf58 (hP37 2 14 rfl rfl) (RP.mono _ h0_0 (Le.trans l8 hE37)) (hP37 3 15 rfl rfl) hix9 (fun g58 o59 cs_g58 hrk_hat60 hat60=>?_)
 obtain rfl:=rTerm_iff.1 hrk_hat60
 exact L_nil ⟨rfl,_,_,rfl,Le.refl _,fun _ _=>⟨_,_,_,rfl,hrk_hat60,hat60⟩,Z⟩
 refine opsS_cons ?_ ?_
 intro f w_ H37 X37 hS37 hE37 hP37 Z
 obtain ⟨g62,o62,cs62,hv62,hrk_hat62,hat62⟩:=(hP37 4 16 rfl rfl)
 obtain rfl:=rTerm_iff.1 hrk_hat62
 refine fA o62 fa_58_0 hv62 rfl (L_nil ⟨rfl,_,_,rfl,Le.refl _,fun _ _=>⟨_,_,_,rfl,hrk_hat62,hat62⟩,Z⟩)
 refine opsS_cons ?_ ?_
 intro f w_ H37 X37 hS37 hE37 hP37 Z
 obtain ⟨g64,o64,cs64,hv64,hrk_hat64,hat64⟩:=(hP37 5 17 rfl rfl)
 obtain rfl:=rTerm_iff.1 hrk_hat64
 refine L_ld rfl Tryz.isAgg3 hv64 (At.cell (AtH.at hat64 Z.sub) (j:=0) rfl) (L_nil ⟨rfl,_,_,rfl,Le.refl _,fun _ _=>rfl,Z⟩)
 refine opsS_cons ?_ ?_
 intro f w_ H37 X37 hS37 hE37 hP37 Z
 obtain ⟨H66b,l67,s68,z69,k70⟩:=Z.borrow
 refine L_call rfl Tryz.call36 (ops1 (hP37 6 18 rfl rfl)) (s_l17Dec_c (n_:=x_9.coef) s68 hx20) ?_
 rintro _ w71 ⟨rfl,Z⟩
 have Z:=k70 Z c0
 exact L_nil ⟨rfl,_,_,rfl,Le.refl _,fun _ _=>rfl,Z⟩
 refine opsS_cons ?_ ?_
 intro f w_ H37 X37 hS37 hE37 hP37 Z
 obtain ⟨hx22_l,hx22_e⟩:=cat_some hx22
 refine L_sadd (s:=out_6) (s':=x20) rfl (hP37 0 12 rfl rfl) (hP37 7 19 rfl rfl) hx22_l ?_
 rw [← hx22_e]
 exact L_nil ⟨rfl,_,_,rfl,Le.refl _,fun _ _=>rfl,Z⟩
 refine opsS_cons ?_ ?_
 intro f w_ H37 X37 hS37 hE37 hP37 Z
 obtain ⟨hx23_l,hx23_e⟩:=cat_some hx23
 refine L_sadd (s:=x22) (s':=(⟨#[32]⟩ : ByteArray)) rfl (hP37 8 20 rfl rfl) rfl hx23_l ?_
 rw [← hx23_e]
 exact L_nil ⟨rfl,_,_,rfl,Le.refl _,fun _ _=>rfl,Z⟩
 refine opsS_cons (fun f w_ _ _ s _ _ Z=>fA 0 fa_37_0 ((s 1 rfl).trans sf1) rfl (nO rfl rfl Z)) (opsS_cons (fun f w_ _ _ _ _ p Z=>ldB 0 Z Tryz.isAgg35 (p 10 22 rfl rfl) rfl rfl (nO rfl rfl Z)) (opsS_cons (fun f w_ _ _ s _ _ Z=>mF ((s 4 rfl).trans sf4) rfl (nO rfl rfl Z)) (opsS_cons ?_ ?_)))
 intro f w_ H37 X37 hS37 hE37 hP37 Z
 refine L_ix (r:=rTerm) rfl Tryz.underlying35 Tryz.sizeOf58 (hP37 11 23 rfl rfl) (RP.mono _ h0_0 (Le.trans l8 hE37)) (hP37 12 24 rfl rfl) hix9 (fun g72 o73 cs_g72 hrk_hat74 hat74=>?_)
 obtain rfl:=rTerm_iff.1 hrk_hat74
 exact L_nil ⟨rfl,_,_,rfl,Le.refl _,fun _ _=>⟨_,_,_,rfl,hrk_hat74,hat74⟩,Z⟩
 refine opsS_cons ?_ ?_
 intro f w_ H37 X37 hS37 hE37 hP37 Z
 obtain ⟨g76,o76,cs76,hv76,hrk_hat76,hat76⟩:=(hP37 13 25 rfl rfl)
 obtain rfl:=rTerm_iff.1 hrk_hat76
 refine fA (o76 + 1) fa_58_1 hv76 rfl (L_nil ⟨rfl,_,_,rfl,Le.refl _,fun _ _=>⟨_,_,_,rfl,hrk_hat76,hat76⟩,Z⟩)
 refine opsS_cons ?_ ?_
 intro f w_ H37 X37 hS37 hE37 hP37 Z
 obtain ⟨g78,o78,cs78,hv78,hrk_hat78,hat78⟩:=(hP37 14 26 rfl rfl)
 obtain rfl:=rTerm_iff.1 hrk_hat78
 refine L_ld rfl Tryz.isAgg3 hv78 (At.cell (AtH.at hat78 Z.sub) (j:=1) rfl) (L_nil ⟨rfl,_,_,rfl,Le.refl _,fun _ _=>rfl,Z⟩)
 refine opsS_cons ?_ ?_
 intro f w_ H37 X37 hS37 hE37 hP37 Z
 obtain ⟨H80b,l81,s82,z83,k84⟩:=Z.borrow
 refine L_call rfl Tryz.call37 (ops1 (hP37 15 27 rfl rfl)) (s_l1Name_c (lit:=x_9.lit) s82 hx33) ?_
 rintro _ w85 ⟨rfl,Z⟩
 have Z:=k84 Z c0
 exact L_nil ⟨rfl,_,_,rfl,Le.refl _,fun _ _=>rfl,Z⟩
 exact opsS_nil
 obtain ⟨hx35_l,hx35_e⟩:=cat_some hx35
 refine L_sadd (s:=x23) (s':=x33) rfl (hT37 9 21 rfl rfl) (hT37 16 28 rfl rfl) hx35_l ?_
 rw [← hx35_e]
 obtain ⟨hx36_l,hx36_e⟩:=cat_some hx36
 refine L_sadd (s:=x35) (s':=(⟨#[32]⟩ : ByteArray)) rfl rfl rfl hx36_l ?_
 rw [← hx36_e]
 refine aV (.string x36) rfl (nn (W_region (mF ((hS37 4 rfl).trans sf4) rfl (L_add rfl rfl rfl (aI rfl (nn ?_))))))
 obtain rfl:=so hB9
 show ∃ m,m < _∧I9 m _ _
 refine ⟨rest9.length,by simp,?_⟩
 exact ij hI9 ⟨i_5 + 1,rest9,x36,H37,rfl,drop_next hd9,by simp at hl9; omega,hL9,(Le.trans l8 hE37),((hS37 1 rfl).trans sf1),rfl,(Eq.trans rfl (congrArg (Value.int .i64) (i64_succ (n:=c.terms.length) (by simp at hl9; omega) hlen9))),Z⟩
 rcases suf9 with _ | ⟨_,_⟩
 obtain rfl:=range_nil hL9
 refine W_exit (rj hR9 ⟨out_6,H7,rfl,l8,sf1,sf3,Z⟩)
 exact absurd (of_decide_eq_false hc10) (by simp at hl9; omega)
 intro f w_ hR
 obtain ⟨out_6,H7,rfl,l8,sf1,sf3,Z⟩:=rk hR9 hR
 refine W_seq ?_
 obtain ⟨x86,hx86,hF⟩:=bind_some hF
 obtain ⟨x92,hx92,hF⟩:=bind_some hF
 obtain ⟨x94,hx94,hF⟩:=bind_some hF
 refine W_region (mF sf3 rfl ?_)
 obtain ⟨hx86_l,hx86_e⟩:=cat_some hx86
 refine L_sadd (s:=out_6) (s':=(⟨#[62,61,32]⟩ : ByteArray)) rfl rfl rfl hx86_l ?_
 rw [← hx86_e]
 refine fA 1 fa_37_1 sf1 rfl (ldB 0 Z Tryz.isAgg3 rfl rfl rfl ?_)
 obtain ⟨H95b,l96,s97,z98,k99⟩:=Z.borrow
 refine L_call rfl Tryz.call36 (ops1 rfl) (s_l17Dec_c (n_:=c.bound) s97 hx92) ?_
 rintro _ w100 ⟨rfl,Z⟩
 have Z:=k99 Z c0
 obtain ⟨hx94_l,hx94_e⟩:=cat_some hx94
 refine L_sadd (s:=x86) (s':=x92) rfl rfl rfl hx94_l ?_
 rw [← hx94_e]
 refine aV (.string x94) rfl (nn (W_ret (retG1 (v1:=.string x94) Tryz.results19 rfl ?_)))
 obtain rfl:=so hF
 exact ⟨rfl,(Star.down (Star.keepN 0 Z) l8 c0)⟩
theorem s_FormatProblem_c {fu : Nat} {list : List Con} {v0 : Value} {H : FH} {w : World} (Z : Star H w []) (h0 : (rS 37 (rCon 58)).rel H [v0] list) {r : ByteArray} (hF : s_FormatProblem fu list = some r) :
 C Tryz.prog 7 #[v0] w fun v w'=>v = .string r∧Star H w' []:=by
 unfold s_FormatProblem at hF
 refine C_enter Tryz.func7 rfl Tryz.ntmps7 rfl (sq (aV (.string (⟨#[]⟩ : ByteArray)) rfl (nq (W_seq ?_))))
 obtain ⟨x6,hx6,hF⟩:=bind_some hF
 refine W_region (mV v0 rfl ?_)
 obtain ⟨H8b,l9,s10,z11,k12⟩:=Z.borrow
 refine L_call rfl Tryz.call9 (ops1 rfl) (s_ProblemValid_c (list:=list) s10 (RP.mono _ h0 l9) hx6) ?_
 rintro _ w13 ⟨rfl,Z⟩
 have Z:=k12 Z c0
 refine L_not_ rfl rfl (nn (W_cond (b:=(!x6)) rfl (fun hc14=>?_) (fun hc14=>?_)))
 have hF:=(ite_t hc14).symm.trans hF
 refine sq (aV (.string (⟨#[]⟩ : ByteArray)) rfl (nn (W_ret (retG1 (v1:=.string (⟨#[]⟩ : ByteArray)) Tryz.results7 rfl ?_))))
 obtain rfl:=so hF
 exact ⟨rfl,Z⟩
 have hF:=(ite_f hc14).symm.trans hF
 refine W_skip (sq (aV (.string (⟨#[]⟩ : ByteArray)) rfl (nq (sq (aI rfl (nn ?_))))))
 have hlen17 : List.length list≤9223372036854775807:=len_le (slice_len h0)
 obtain ⟨j17,hL17,hF⟩:=bind_some hF
 obtain ⟨R17,hR17⟩:=exR fun f w_=>∃ out_16 : ByteArray,j17 = .nx out_16∧f 3 = .string out_16∧Star H w_ ([])
 refine W_join R17 ?_ ?_
 refine W_block ?_
 obtain ⟨I17,hI17⟩:=exI fun n f w_=>∃ i_15 : Nat,∃ suf17 : List Con,∃ out_16 : ByteArray,n = suf17.length∧List.drop i_15 list = suf17∧i_15 + suf17.length = list.length∧rangeL (s_FormatProblem_b1 fu) suf17 i_15 out_16 = some j17∧f 0 = v0∧f 3 = .string out_16∧f 4 = I i_15∧Star H w_ ([])
 refine W_loop I17 (n:=list.length) ?_ ?_
 exact ij hI17 ⟨0,list,(⟨#[]⟩ : ByteArray),rfl,rfl,Nat.zero_add _,hL17,rfl,rfl,rfl,Z⟩
 intro n17 f w_ hI
 obtain ⟨i_15,suf17,out_16,rfl,hd17,hl17,hL17,sf0,sf3,sf4,Z⟩:=ik hI17 hI
 refine W_seq (sq (mF sf4 rfl (mF sf0 rfl (L_len rfl Tryz.underlying23 rfl (slice_len h0) (L_lss rfl rfl rfl (nn (W_cond (b:=decide ((i_15 : Int) < (list.length : Int))) rfl (fun hc18=>?_) (fun hc18=>?_))))))))
 have hlt17:=of_decide_eq_true hc18
 rcases suf17 with _ | ⟨x_17,rest17⟩
 exact absurd hlt17 (by simp at hl17; omega)
 obtain ⟨o17,hB17,hL17⟩:=range_cons hL17
 rw [s_FormatProblem_b1] at hB17
 have hix17:=drop_idx hd17
 refine W_skip (W_seq (W_block ?_))
 obtain ⟨x28,hx28,hB17⟩:=bind_some hB17
 obtain ⟨x30,hx30,hB17⟩:=bind_some hB17
 obtain ⟨x31,hx31,hB17⟩:=bind_some hB17
 refine W_region (mF sf3 rfl (mF sf0 rfl (mF sf4 rfl (L_ix (r:=(rCon 58)) rfl Tryz.underlying23 Tryz.sizeOf37 rfl h0 rfl hix17 (fun g32 o33 cs_g32 hrk_hat34 hat34=>?_)))))
 obtain ⟨u35_0,rfl,hu35_0⟩:=rCon_iff.1 hrk_hat34
 refine L_lda (cs:=[u35_0,I x_17.bound]) rfl Tryz.isAgg37 Tryz.sizeOf37 rfl (At.sub (AtH.at hat34 Z.sub) 0 2) rfl ?_
 obtain ⟨H36b,l37,s38,z39,k40⟩:=Z.borrow
 refine L_call rfl Tryz.call19 (ops1 rfl) (s_l1Text_c (c:=x_17) s38 (RP.mono _ hu35_0 l37) hx28) ?_
 rintro _ w41 ⟨rfl,Z⟩
 have Z:=k40 Z c0
 obtain ⟨hx30_l,hx30_e⟩:=cat_some hx30
 refine L_sadd (s:=out_16) (s':=x28) rfl rfl rfl hx30_l ?_
 rw [← hx30_e]
 obtain ⟨hx31_l,hx31_e⟩:=cat_some hx31
 refine L_sadd (s:=x30) (s':=(⟨#[10]⟩ : ByteArray)) rfl rfl rfl hx31_l ?_
 rw [← hx31_e]
 refine aV (.string x31) rfl (nn (W_region (mF sf4 rfl (L_add rfl rfl rfl (aI rfl (nn ?_))))))
 obtain rfl:=so hB17
 show ∃ m,m < _∧I17 m _ _
 refine ⟨rest17.length,by simp,?_⟩
 exact ij hI17 ⟨i_15 + 1,rest17,x31,rfl,drop_next hd17,by simp at hl17; omega,hL17,sf0,rfl,(Eq.trans rfl (congrArg (Value.int .i64) (i64_succ (n:=list.length) (by simp at hl17; omega) hlen17))),Z⟩
 rcases suf17 with _ | ⟨_,_⟩
 obtain rfl:=range_nil hL17
 refine W_exit (rj hR17 ⟨out_16,rfl,sf3,Z⟩)
 exact absurd (of_decide_eq_false hc18) (by simp at hl17; omega)
 intro f w_ hR
 obtain ⟨out_16,rfl,sf3,Z⟩:=rk hR17 hR
 refine sq (mF sf3 rfl (aV (.string out_16) rfl (nn (W_ret (retG1 (v1:=.string out_16) Tryz.results7 rfl ?_)))))
 obtain rfl:=so hF
 exact ⟨rfl,Z⟩
theorem slices_Equal_implTerm_c {s1 : List Term} {s2 : List Term} {v0 : Value} {v1 : Value} {H : FH} {w : World} (Z : Star H w []) (h0 : (rS 58 rTerm).rel H [v0] s1) (h1 : (rS 58 rTerm).rel H [v1] s2) {r : Bool} (hF : slices_Equal_implTerm s1 s2 = some r) :
 C Tryz.prog 42 #[v0,v1] w fun v w'=>v = Bo r∧Star H w' []:=by
 unfold slices_Equal_implTerm at hF
 refine C_enter Tryz.func42 rfl Tryz.ntmps42 rfl (sq (aB rfl (nq (sq (mV v0 rfl (L_len rfl Tryz.underlying35 rfl (slice_len h0) (mV v1 rfl (L_len rfl Tryz.underlying35 rfl (slice_len h1) (L_neq rfl rfl rfl (nn (W_cond (b:=((s1.length : Int) != (s2.length : Int))) rfl (fun hc1=>?_) (fun hc1=>?_))))))))))))
 have hF:=(ite_t hc1).symm.trans hF
 refine sq (aB rfl (nn (W_ret (retG1 (v1:=Bo false) Tryz.results42 rfl ?_))))
 obtain rfl:=so hF
 exact ⟨rfl,Z⟩
 have hF:=(ite_f hc1).symm.trans hF
 refine W_skip (W_seq (sq (mV v0 rfl (L_len rfl Tryz.underlying35 rfl (slice_len h0) (mI rfl (nn ?_))))))
 have hlen5 : List.length s1≤9223372036854775807:=len_le (slice_len h0)
 obtain ⟨j5,hL5,hF⟩:=bind_some hF
 obtain ⟨R5,hR5⟩:=exR fun f w_=>∃ H3 : FH,j5 = .nx ()∧Le H H3∧Star H3 w_ ([])
 refine W_join R5 ?_ ?_
 refine W_block ?_
 obtain ⟨I5,hI5⟩:=exI fun n f w_=>∃ i_2 : Nat,∃ suf5 : List Term,∃ H3 : FH,n = suf5.length∧List.drop i_2 s1 = suf5∧i_2 + suf5.length = s1.length∧rangeL (slices_Equal_implTerm_b1 s2) suf5 i_2 () = some j5∧Le H H3∧f 0 = v0∧f 1 = v1∧f 12 = I (s1.length : Int)∧f 13 = I i_2∧Star H3 w_ ([])
 refine W_loop I5 (n:=s1.length) ?_ ?_
 exact ij hI5 ⟨0,s1,H,rfl,rfl,Nat.zero_add _,hL5,(Le.refl _),rfl,rfl,rfl,rfl,Z⟩
 intro n5 f w_ hI
 obtain ⟨i_2,suf5,H3,rfl,hd5,hl5,hL5,l4,sf0,sf1,sf12,sf13,Z⟩:=ik hI5 hI
 refine sq (L_lss rfl sf13 sf12 (nq (W_cond (b:=decide ((i_2 : Int) < (s1.length : Int))) rfl (fun hc6=>?_) (fun hc6=>?_))))
 have hlt5:=of_decide_eq_true hc6
 rcases suf5 with _ | ⟨x_5,rest5⟩
 exact absurd hlt5 (by simp at hl5; omega)
 obtain ⟨o5,hB5,hL5⟩:=range_cons hL5
 rw [slices_Equal_implTerm_b1] at hB5
 have hix5:=drop_idx hd5
 refine W_skip (W_seq (W_block (sq (mF sf13 rfl (aI rfl (nq ?_))))))
 obtain ⟨x11,hx11,hB5⟩:=bind_some hB5
 refine W_drawS 8 [isV (v0),isV (I i_2),isEl rTerm x_5 0,isV (.agg #[I x_5.coef,I x_5.lit]),isV (v1),isV (I i_2),isEl rTerm x11 0,isV (.agg #[I x11.coef,I x11.lit])] [] [] ([]) [([],[]),([],[]),([],[]),([],[]),([],[]),([],[]),([],[]),([],[])] (S:=[]) Tryz_mix (by kernel_rfl) rfl (by kernel_rfl) (amF_cons (mono_V _) (amF_cons (mono_V _) (amF_cons (mono_el _ _ _) (amF_cons (mono_V _) (amF_cons (mono_V _) (amF_cons (mono_V _) (amF_cons (mono_el _ _ _) (amF_cons (mono_V _) amF_nil)))))))) Z ?_ (fun f w_ H16 hS16 hE16 hT16 Z=>?_)
 refine opsS_cons (fun f w_ _ _ s _ _ Z=>mF ((s 0 rfl).trans sf0) rfl (nO rfl rfl Z)) (opsS_cons (fun f w_ _ _ s _ _ Z=>mF ((s 5 rfl).trans rfl) rfl (nO rfl rfl Z)) (opsS_cons ?_ ?_))
 intro f w_ H16 X16 hS16 hE16 hP16 Z
 refine L_ix (r:=rTerm) rfl Tryz.underlying35 Tryz.sizeOf58 (hP16 0 16 rfl rfl) (RP.mono _ h0 (Le.trans l4 hE16)) (hP16 1 17 rfl rfl) hix5 (fun g25 o26 cs_g25 hrk_hat27 hat27=>?_)
 obtain rfl:=rTerm_iff.1 hrk_hat27
 exact L_nil ⟨rfl,_,_,rfl,Le.refl _,fun _ _=>⟨_,_,_,rfl,hrk_hat27,hat27⟩,Z⟩
 refine opsS_cons ?_ ?_
 intro f w_ H16 X16 hS16 hE16 hP16 Z
 obtain ⟨g29,o29,cs29,hv29,hrk_hat29,hat29⟩:=(hP16 2 18 rfl rfl)
 obtain rfl:=rTerm_iff.1 hrk_hat29
 refine L_lda (cs:=[I x_5.coef,I x_5.lit]) rfl Tryz.isAgg58 Tryz.sizeOf58 hv29 (At.sub (AtH.at hat29 Z.sub) 0 2) rfl (L_nil ⟨rfl,_,_,rfl,Le.refl _,fun _ _=>rfl,Z⟩)
 refine opsS_cons (fun f w_ _ _ s _ _ Z=>mF ((s 1 rfl).trans sf1) rfl (nO rfl rfl Z)) (opsS_cons (fun f w_ _ _ s _ _ Z=>mF ((s 5 rfl).trans rfl) rfl (nO rfl rfl Z)) (opsS_cons ?_ ?_))
 intro f w_ H16 X16 hS16 hE16 hP16 Z
 refine L_ix (r:=rTerm) rfl Tryz.underlying35 Tryz.sizeOf58 (hP16 4 20 rfl rfl) (RP.mono _ h1 (Le.trans l4 hE16)) (hP16 5 21 rfl rfl) hx11 (fun g31 o32 cs_g31 hrk_hat33 hat33=>?_)
 obtain rfl:=rTerm_iff.1 hrk_hat33
 exact L_nil ⟨rfl,_,_,rfl,Le.refl _,fun _ _=>⟨_,_,_,rfl,hrk_hat33,hat33⟩,Z⟩
 refine opsS_cons ?_ ?_
 intro f w_ H16 X16 hS16 hE16 hP16 Z
 obtain ⟨g35,o35,cs35,hv35,hrk_hat35,hat35⟩:=(hP16 6 22 rfl rfl)
 obtain rfl:=rTerm_iff.1 hrk_hat35
 refine L_lda (cs:=[I x11.coef,I x11.lit]) rfl Tryz.isAgg58 Tryz.sizeOf58 hv35 (At.sub (AtH.at hat35 Z.sub) 0 2) rfl (L_nil ⟨rfl,_,_,rfl,Le.refl _,fun _ _=>rfl,Z⟩)
 exact opsS_nil
 refine L_tneq (x1:=x_5.coef) (x2:=x_5.lit) (y1:=x11.coef) (y2:=x11.lit) rfl termEq_58 (hT16 3 19 rfl rfl) (hT16 7 23 rfl rfl) (nn (W_cond (b:=(!(x_5 == x11))) rfl (fun hc37=>?_) (fun hc37=>?_)))
 have hB5:=(ite_t hc37).symm.trans hB5
 refine sq (aB rfl (nn (W_ret (retG1 (v1:=Bo false) Tryz.results42 rfl ?_))))
 obtain rfl:=so hB5
 obtain rfl:=so hL5
 obtain rfl:=so hF
 exact ⟨rfl,(Star.down Z (Le.trans l4 hE16) c0)⟩
 have hB5:=(ite_f hc37).symm.trans hB5
 refine W_skip (W_region (L_add rfl ((hS16 13 rfl).trans sf13) rfl (mI rfl (nn ?_))))
 obtain rfl:=so hB5
 show ∃ m,m < _∧I5 m _ _
 refine ⟨rest5.length,by simp,?_⟩
 exact ij hI5 ⟨i_2 + 1,rest5,H16,rfl,drop_next hd5,by simp at hl5; omega,hL5,(Le.trans l4 hE16),((hS16 0 rfl).trans sf0),((hS16 1 rfl).trans sf1),((hS16 12 rfl).trans sf12),(Eq.trans rfl (congrArg (Value.int .i64) (i64_succ (n:=s1.length) (by simp at hl5; omega) hlen5))),Z⟩
 rcases suf5 with _ | ⟨_,_⟩
 obtain rfl:=range_nil hL5
 refine W_exit (rj hR5 ⟨H3,rfl,l4,Z⟩)
 exact absurd (of_decide_eq_false hc6) (by simp at hl5; omega)
 intro f w_ hR
 obtain ⟨H3,rfl,l4,Z⟩:=rk hR5 hR
 refine sq (aB rfl (nn (W_ret (retG1 (v1:=Bo true) Tryz.results42 rfl ?_))))
 obtain rfl:=so hF
 exact ⟨rfl,(Star.down Z l4 c0)⟩
theorem i_ConstraintSame_c {a : Con} {b : Con} {v0_0 : Value} {v1_0 : Value} {H : FH} {w : World} (Z : Star H w []) (h0_0 : (rS 58 rTerm).rel H [v0_0] a.terms) (h1_0 : (rS 58 rTerm).rel H [v1_0] b.terms) {r : Bool} (hF : i_ConstraintSame a b = some r) :
 C Tryz.prog 22 #[.agg #[v0_0,I a.bound],.agg #[v1_0,I b.bound]] w fun v w'=>v = Bo r∧Star H w' []:=by
 unfold i_ConstraintSame at hF
 refine C_enter Tryz.func22 rfl Tryz.ntmps22 rfl (sq (L_box (v:=.agg #[v0_0,I a.bound]) (cs:=#[v0_0,I a.bound]) rfl rfl rfl Z (fun g5 w6 Z=>L_box (v:=.agg #[v1_0,I b.bound]) (cs:=#[v1_0,I b.bound]) rfl rfl rfl Z (fun g7 w8 Z=>aB rfl (nq ?_)))))
 obtain ⟨b16,hb16,hF⟩:=bind_some hF
 obtain ⟨R17,hR17⟩:=exR fun f w_=>f 4 = Bo b16∧Star H w_ ([])
 refine W_join R17 ?_ ?_
 refine W_region (fA 1 fa_37_1 rfl rfl (ldB 1 Z Tryz.isAgg3 rfl rfl rfl (fA 1 fa_37_1 rfl rfl (ldB 0 Z Tryz.isAgg3 rfl rfl rfl (L_eql rfl rfl rfl (mB rfl (L_split (d:=10) (b:=(a.bound == b.bound)) rfl (fun hc18=>?_) (fun hc18=>?_))))))))
 rw [ite_t hc18] at hb16
 obtain ⟨x14,hx14,hb16⟩:=bind_some hb16
 refine fA 0 fa_37_0 rfl rfl (ldB 1 Z Tryz.isAgg35 rfl rfl rfl (fA 0 fa_37_0 rfl rfl (ldB 0 Z Tryz.isAgg35 rfl rfl rfl ?_)))
 obtain ⟨H19b,l20,s21,z22,k23⟩:=Z.borrow
 refine L_call rfl Tryz.call42 (ops2 rfl rfl) (slices_Equal_implTerm_c (s1:=a.terms) (s2:=b.terms) s21 (RP.mono _ h0_0 l20) (RP.mono _ h1_0 l20) hx14) ?_
 rintro _ w24 ⟨rfl,Z⟩
 have Z:=k23 Z c0
 refine L_pick (v:=Bo b16) rfl rfl (congrArg Value.bool (so hb16)) (aB rfl (nn (rj hR17 ⟨rfl,(Star.keepN 0 Z)⟩)))
 rw [ite_f hc18] at hb16
 refine ps rfl (ps rfl (ps rfl (ps rfl (ps rfl (L_pick (v:=Bo b16) rfl rfl (congrArg Value.bool (so hb16)) (aB rfl (nn (rj hR17 ⟨rfl,(Star.keepN 0 Z)⟩))))))))
 intro f w_ hR
 obtain ⟨sf4,Z⟩:=rk hR17 hR
 refine W_ret (retG1 (v1:=Bo b16) Tryz.results22 sf4 ?_)
 obtain rfl:=so hF
 exact ⟨rfl,Z⟩
theorem l_cpProblem_c {a : List Con} {b : List Con} {v0 : Value} {v1 : Value} {H : FH} {w : World} (Z : Star H w []) (h0 : (rS 37 (rCon 58)).rel H [v0] a) (h1 : (rS 37 (rCon 58)).rel H [v1] b) {r : Bool} (hF : l_cpProblem a b = some r) :
 C Tryz.prog 10 #[v0,v1] w fun v w'=>v = Bo r∧Star H w' []:=by
 unfold l_cpProblem at hF
 refine C_enter Tryz.func10 rfl Tryz.ntmps10 rfl (sq (aB rfl (nq (sq (mV v0 rfl (L_len rfl Tryz.underlying23 rfl (slice_len h0) (mV v1 rfl (L_len rfl Tryz.underlying23 rfl (slice_len h1) (L_neq rfl rfl rfl (nn (W_cond (b:=((a.length : Int) != (b.length : Int))) rfl (fun hc1=>?_) (fun hc1=>?_))))))))))))
 have hF:=(ite_t hc1).symm.trans hF
 refine sq (aB rfl (nn (W_ret (retG1 (v1:=Bo false) Tryz.results10 rfl ?_))))
 obtain rfl:=so hF
 exact ⟨rfl,Z⟩
 have hF:=(ite_f hc1).symm.trans hF
 refine W_skip (W_seq (sq (aI rfl (nn ?_))))
 have hlen5 : List.length a≤9223372036854775807:=len_le (slice_len h0)
 obtain ⟨j5,hL5,hF⟩:=bind_some hF
 obtain ⟨R5,hR5⟩:=exR fun f w_=>∃ H3 : FH,j5 = .nx ()∧Le H H3∧Star H3 w_ ([])
 refine W_join R5 ?_ ?_
 refine W_block ?_
 obtain ⟨I5,hI5⟩:=exI fun n f w_=>∃ i_2 : Nat,∃ suf5 : List Con,∃ H3 : FH,n = suf5.length∧List.drop i_2 a = suf5∧i_2 + suf5.length = a.length∧rangeL (l_cpProblem_b1 b) suf5 i_2 () = some j5∧Le H H3∧f 0 = v0∧f 1 = v1∧f 5 = I i_2∧Star H3 w_ ([])
 refine W_loop I5 (n:=a.length) ?_ ?_
 exact ij hI5 ⟨0,a,H,rfl,rfl,Nat.zero_add _,hL5,(Le.refl _),rfl,rfl,rfl,Z⟩
 intro n5 f w_ hI
 obtain ⟨i_2,suf5,H3,rfl,hd5,hl5,hL5,l4,sf0,sf1,sf5,Z⟩:=ik hI5 hI
 refine W_seq (sq (mF sf5 rfl (mF sf0 rfl (L_len rfl Tryz.underlying23 rfl (slice_len (RP.mono _ h0 l4)) (L_lss rfl rfl rfl (nn (W_cond (b:=decide ((i_2 : Int) < (a.length : Int))) rfl (fun hc6=>?_) (fun hc6=>?_))))))))
 have hlt5:=of_decide_eq_true hc6
 rcases suf5 with _ | ⟨x_5,rest5⟩
 exact absurd hlt5 (by simp at hl5; omega)
 obtain ⟨o5,hB5,hL5⟩:=range_cons hL5
 rw [l_cpProblem_b1] at hB5
 have hix5:=drop_idx hd5
 refine W_skip (W_seq (W_block (W_seq ?_)))
 obtain ⟨x11,hx11,hB5⟩:=bind_some hB5
 obtain ⟨x21,hx21,hB5⟩:=bind_some hB5
 refine W_drawS 8 [isV (v0),isV (I i_2),isEl (rCon 58) x_5 0,exD (isData (rS 58 rTerm) x_5.terms) fun u_0=>isV (.agg #[u_0,I x_5.bound]),isV (v1),isV (I i_2),isEl (rCon 58) x11 0,exD (isData (rS 58 rTerm) x11.terms) fun u_0=>isV (.agg #[u_0,I x11.bound])] [] [] ([]) [([],[]),([],[]),([],[]),([],[]),([],[]),([],[]),([],[]),([],[])] (S:=[]) Tryz_mix (by kernel_rfl) rfl (by kernel_rfl) (amF_cons (mono_V _) (amF_cons (mono_V _) (amF_cons (mono_el _ _ _) (amF_cons (mono_exD (mono_data _ _) fun _=>mono_V _) (amF_cons (mono_V _) (amF_cons (mono_V _) (amF_cons (mono_el _ _ _) (amF_cons (mono_exD (mono_data _ _) fun _=>mono_V _) amF_nil)))))))) Z ?_ (fun f w_ H23 hS23 hE23 hT23 Z=>?_)
 refine opsS_cons (fun f w_ _ _ s _ _ Z=>mF ((s 0 rfl).trans sf0) rfl (nO rfl rfl Z)) (opsS_cons (fun f w_ _ _ s _ _ Z=>mF ((s 5 rfl).trans sf5) rfl (nO rfl rfl Z)) (opsS_cons ?_ ?_))
 intro f w_ H23 X23 hS23 hE23 hP23 Z
 refine L_ix (r:=(rCon 58)) rfl Tryz.underlying23 Tryz.sizeOf37 (hP23 0 17 rfl rfl) (RP.mono _ h0 (Le.trans l4 hE23)) (hP23 1 18 rfl rfl) hix5 (fun g32 o33 cs_g32 hrk_hat34 hat34=>?_)
 obtain ⟨u35_0,rfl,hu35_0⟩:=rCon_iff.1 hrk_hat34
 exact L_nil ⟨rfl,_,_,rfl,Le.refl _,fun _ _=>⟨_,_,_,rfl,hrk_hat34,hat34⟩,Z⟩
 refine opsS_cons ?_ ?_
 intro f w_ H23 X23 hS23 hE23 hP23 Z
 obtain ⟨g36,o36,cs36,hv36,hrk_hat36,hat36⟩:=(hP23 2 19 rfl rfl)
 obtain ⟨u37_0,rfl,hu37_0⟩:=rCon_iff.1 hrk_hat36
 refine L_lda (cs:=[u37_0,I x_5.bound]) rfl Tryz.isAgg37 Tryz.sizeOf37 hv36 (At.sub (AtH.at hat36 Z.sub) 0 2) rfl (L_nil ⟨rfl,_,_,rfl,Le.refl _,fun _ _=>⟨_,hu37_0,rfl⟩,Z⟩)
 refine opsS_cons (fun f w_ _ _ s _ _ Z=>mF ((s 1 rfl).trans sf1) rfl (nO rfl rfl Z)) (opsS_cons (fun f w_ _ _ s _ _ Z=>mF ((s 5 rfl).trans sf5) rfl (nO rfl rfl Z)) (opsS_cons ?_ ?_))
 intro f w_ H23 X23 hS23 hE23 hP23 Z
 refine L_ix (r:=(rCon 58)) rfl Tryz.underlying23 Tryz.sizeOf37 (hP23 4 21 rfl rfl) (RP.mono _ h1 (Le.trans l4 hE23)) (hP23 5 22 rfl rfl) hx11 (fun g38 o39 cs_g38 hrk_hat40 hat40=>?_)
 obtain ⟨u41_0,rfl,hu41_0⟩:=rCon_iff.1 hrk_hat40
 exact L_nil ⟨rfl,_,_,rfl,Le.refl _,fun _ _=>⟨_,_,_,rfl,hrk_hat40,hat40⟩,Z⟩
 refine opsS_cons ?_ ?_
 intro f w_ H23 X23 hS23 hE23 hP23 Z
 obtain ⟨g42,o42,cs42,hv42,hrk_hat42,hat42⟩:=(hP23 6 23 rfl rfl)
 obtain ⟨u43_0,rfl,hu43_0⟩:=rCon_iff.1 hrk_hat42
 refine L_lda (cs:=[u43_0,I x11.bound]) rfl Tryz.isAgg37 Tryz.sizeOf37 hv42 (At.sub (AtH.at hat42 Z.sub) 0 2) rfl (L_nil ⟨rfl,_,_,rfl,Le.refl _,fun _ _=>⟨_,hu43_0,rfl⟩,Z⟩)
 exact opsS_nil
 obtain ⟨u44_0,hu44_0,hv44⟩:=(hT23 3 20 rfl rfl)
 obtain ⟨u45_0,hu45_0,hv45⟩:=(hT23 7 24 rfl rfl)
 obtain ⟨H46b,l47,s48,z49,k50⟩:=Z.borrow
 refine L_call rfl Tryz.call22 (ops2 hv44 hv45) (i_ConstraintSame_c (a:=x_5) (b:=x11) s48 (RP.mono _ hu44_0 l47) (RP.mono _ hu45_0 l47) hx21) ?_
 rintro _ w51 ⟨rfl,Z⟩
 have Z:=k50 Z c0
 refine L_not_ rfl rfl (nn (W_cond (b:=(!x21)) rfl (fun hc52=>?_) (fun hc52=>?_)))
 have hB5:=(ite_t hc52).symm.trans hB5
 refine sq (aB rfl (nn (W_ret (retG1 (v1:=Bo false) Tryz.results10 rfl ?_))))
 obtain rfl:=so hB5
 obtain rfl:=so hL5
 obtain rfl:=so hF
 exact ⟨rfl,(Star.down Z (Le.trans l4 hE23) c0)⟩
 have hB5:=(ite_f hc52).symm.trans hB5
 refine W_skip (W_region (mF ((hS23 5 rfl).trans sf5) rfl (L_add rfl rfl rfl (aI rfl (nn ?_)))))
 obtain rfl:=so hB5
 show ∃ m,m < _∧I5 m _ _
 refine ⟨rest5.length,by simp,?_⟩
 exact ij hI5 ⟨i_2 + 1,rest5,H23,rfl,drop_next hd5,by simp at hl5; omega,hL5,(Le.trans l4 hE23),((hS23 0 rfl).trans sf0),((hS23 1 rfl).trans sf1),(Eq.trans rfl (congrArg (Value.int .i64) (i64_succ (n:=a.length) (by simp at hl5; omega) hlen5))),Z⟩
 rcases suf5 with _ | ⟨_,_⟩
 obtain rfl:=range_nil hL5
 refine W_exit (rj hR5 ⟨H3,rfl,l4,Z⟩)
 exact absurd (of_decide_eq_false hc6) (by simp at hl5; omega)
 intro f w_ hR
 obtain ⟨H3,rfl,l4,Z⟩:=rk hR5 hR
 refine sq (aB rfl (nn (W_ret (retG1 (v1:=Bo true) Tryz.results10 rfl ?_))))
 obtain rfl:=so hF
 exact ⟨rfl,(Star.down Z l4 c0)⟩
theorem s_l17Rd_of_c {r_ : Rd} {list : List ByteArray} {g_0 : Nat} {v0_0 : Value} {v1 : Value} {H : FH} {w : World} (Z : Star H w [box g_0 68 #[v0_0,I r_.p]]) (h0_0 : (rS 5 RP.u8).rel H [v0_0] r_.b) (h1 : (rS 9 RP.str).rel H [v1] list) {r : ByteArray × Int} (hF : s_l17Rd_of r_ list = some r) :
 C Tryz.prog 44 #[Pt g_0,v1] w fun v w'=>v = .string r.1∧Star H w' [box g_0 68 #[v0_0,I r.2]]:=by
 unfold s_l17Rd_of at hF
 refine C_enter Tryz.func44 rfl Tryz.ntmps44 rfl (sq (aV (.string (⟨#[]⟩ : ByteArray)) rfl (nq ?_)))
 obtain ⟨x6,hx6,hF⟩:=bind_some hF
 obtain ⟨x8,hx8,hF⟩:=bind_some hF
 refine W_region (mV v1 rfl (mV (Pt g_0) rfl (mV v1 rfl (L_len rfl Tryz.underlying43 rfl (slice_len h1) ?_))))
 obtain ⟨H13b,l14,s15,z16,k17⟩:=Z.lend [_]
 refine L_call rfl Tryz.call43 (ops2 rfl rfl) (s_l17Rd_pick_c (r_:=r_) (n_:=(list.length : Int)) s15 (RP.mono _ h0_0 l14) hx6) ?_
 rintro _ w18 ⟨rfl,Z⟩
 have Z:=k17 Z (cb c0)
 refine L_ix (r:=RP.str) rfl Tryz.underlying43 Tryz.sizeOf9 rfl h1 rfl hx8 (fun g19 o20 cs_g19 hrk_hat21 hat21=>?_)
 obtain rfl : _ = [_]:=hrk_hat21
 refine L_ld rfl Tryz.isAgg9 rfl (At.cell (AtH.at hat21 Z.sub) (j:=0) rfl) (aV (.string x8) rfl (nn (W_ret (retG1 (v1:=.string x8) Tryz.results44 rfl ?_))))
 obtain rfl:=so hF
 exact ⟨rfl,Z⟩
theorem s_l1Bend_c {r_ : Rd} {s : ByteArray} {bits : List ByteArray} {g_0 : Nat} {v0_0 : Value} {v2 : Value} {H : FH} {w : World} (Z : Star H w [box g_0 68 #[v0_0,I r_.p]]) (h0_0 : (rS 5 RP.u8).rel H [v0_0] r_.b) (h2 : (rS 9 RP.str).rel H [v2] bits) {r : ByteArray × Int} (hF : s_l1Bend r_ s bits = some r) :
 C Tryz.prog 24 #[Pt g_0,.string s,v2] w fun v w'=>v = .string r.1∧Star H w' [box g_0 68 #[v0_0,I r.2]]:=by
 unfold s_l1Bend at hF
 refine C_enter Tryz.func24 rfl Tryz.ntmps24 rfl (sq (aV (.string (⟨#[]⟩ : ByteArray)) rfl (nq (W_seq ?_))))
 obtain ⟨b8,hb8,hF⟩:=bind_some hF
 obtain ⟨R9,hR9⟩:=exR fun f w_=>f 0 = Pt g_0∧f 1 = .string s∧f 2 = v2∧f 15 = Bo b8.1∧Star H w_ ([box g_0 68 #[v0_0,I b8.2]])
 refine W_join R9 ?_ ?_
 refine W_region (mV (.string s) rfl (L_slen (s:=s) rfl Tryz.underlying9 rfl (L_eql rfl rfl rfl (mB rfl (L_split (d:=11) (b:=((s.size : Int) == 0)) rfl (fun hc10=>?_) (fun hc10=>?_))))))
 rw [ite_t hc10] at hb8
 refine ps rfl (ps rfl (ps rfl (L_pick (v:=Bo b8.1) rfl rfl (congrArg (fun z : Bool × Int=>Value.bool z.1) (so hb8)) ?_)))
 have Z : Star H w ([box g_0 68 #[v0_0,I b8.2]]):=by rw [← so hb8]; exact Z
 refine nn (rj hR9 ⟨rfl,rfl,rfl,rfl,Z⟩)
 rw [ite_f hc10] at hb8
 obtain ⟨x6,hx6,hb8⟩:=bind_some hb8
 refine mV (Pt g_0) rfl ?_
 obtain ⟨H11b,l12,s13,z14,k15⟩:=Z.lend [_]
 refine L_call rfl Tryz.call43 (ops2 rfl rfl) (s_l17Rd_pick_c (r_:=r_) (n_:=2) s13 (RP.mono _ h0_0 l12) hx6) ?_
 rintro _ w16 ⟨rfl,Z⟩
 have Z:=k15 Z (cb c0)
 refine L_eql rfl rfl rfl (L_pick (v:=Bo b8.1) rfl rfl (congrArg (fun z : Bool × Int=>Value.bool z.1) (so hb8)) ?_)
 have Z : Star H w16 ([box g_0 68 #[v0_0,I b8.2]]):=by rw [← so hb8]; exact Z
 refine nn (rj hR9 ⟨rfl,rfl,rfl,rfl,Z⟩)
 intro f w_ hR
 obtain ⟨sf0,sf1,sf2,sf15,Z⟩:=rk hR9 hR
 refine W_cond (b:=b8.1) sf15 (fun hc17=>?_) (fun hc17=>?_)
 have hF:=(ite_t hc17).symm.trans hF
 refine sq (mF sf1 rfl (aV (.string s) rfl (nn (W_ret (retG1 (v1:=.string s) Tryz.results24 rfl ?_)))))
 obtain rfl:=so hF
 exact ⟨rfl,Z⟩
 have hF:=(ite_f hc17).symm.trans hF
 refine W_skip (W_seq ?_)
 obtain ⟨x23,hx23,hF⟩:=bind_some hF
 refine W_region (mF sf0 rfl (mF sf1 rfl (L_slen (s:=s) rfl Tryz.underlying9 rfl ?_)))
 obtain ⟨H25b,l26,s27,z28,k29⟩:=Z.lend [_]
 refine L_call rfl Tryz.call43 (ops2 rfl rfl) (s_l17Rd_pick_c (r_:=({ b:=r_.b,p:=b8.2 } : Rd)) (n_:=(s.size : Int)) s27 (RP.mono _ h0_0 l26) hx23) ?_
 rintro _ w30 ⟨rfl,Z⟩
 have Z:=k29 Z (cb c0)
 refine aI rfl (nq ?_)
 obtain ⟨x31,hx31,hF⟩:=bind_some hF
 obtain ⟨x37,hx37,hF⟩:=bind_some hF
 obtain ⟨x39,hx39,hF⟩:=bind_some hF
 obtain ⟨x45,hx45,hF⟩:=bind_some hF
 obtain ⟨x47,hx47,hF⟩:=bind_some hF
 obtain ⟨x48,hx48,hF⟩:=bind_some hF
 refine W_drawS 13 [isV (.string s),isV (I x23.1),isV (.string x31),isV (Pt g_0),isV (v2),isV (.string x37.1),isV (.string x39),isV (.string s),isV (I x23.1),isV (Pt g_0),isV (I x45.1),isV (I (i64 (x23.1 + x45.1))),isV (.string x47)] [] [.base (box g_0 68 #[v0_0,I x23.2]) (some 5),.made 5 26 (fun v_=>box g_0 68 #[v0_0,I x37.2]) (some 10),.made 10 31 (fun v_=>box g_0 68 #[v0_0,I x45.2]) none] ([]) [([],[]),([],[]),([],[]),([],[]),([],[]),([0],[1]),([],[]),([],[]),([],[]),([],[]),([1],[2]),([],[]),([],[])] (S:=[(none,[],some 5),(some 5,[26],some 10),(some 10,[31],none)]) Tryz_mix (by kernel_rfl) rfl (by kernel_rfl) (amF_cons (mono_V _) (amF_cons (mono_V _) (amF_cons (mono_V _) (amF_cons (mono_V _) (amF_cons (mono_V _) (amF_cons (mono_V _) (amF_cons (mono_V _) (amF_cons (mono_V _) (amF_cons (mono_V _) (amF_cons (mono_V _) (amF_cons (mono_V _) (amF_cons (mono_V _) (amF_cons (mono_V _) amF_nil))))))))))))) Z ?_ (fun f w_ H49 hS49 hE49 hT49 Z=>?_)
 refine opsS_cons (fun f w_ _ _ s _ _ Z=>mF ((s 1 rfl).trans sf1) rfl (nO rfl rfl Z)) (opsS_cons (fun f w_ _ _ s _ _ Z=>mF ((s 7 rfl).trans rfl) rfl (nO rfl rfl Z)) (opsS_cons (fun f w_ _ _ _ _ p Z=>L_ssl (a:=0) (b:=x23.1) rfl Tryz.underlying9 (p 0 21 rfl rfl) rfl (p 1 22 rfl rfl) hx31 (nO rfl rfl Z)) (opsS_cons (fun f w_ _ _ s _ _ Z=>mF ((s 0 rfl).trans sf0) rfl (nO rfl rfl Z)) (opsS_cons (fun f w_ _ _ s _ _ Z=>mF ((s 2 rfl).trans sf2) rfl (nO rfl rfl Z)) (opsS_cons ?_ ?_)))))
 intro f w_ H49 X49 hS49 hE49 hP49 Z
 have Z : Star H49 w_ (box g_0 68 #[v0_0,I x23.2] :: X49):=Z
 obtain ⟨H62b,l63,s64,z65,k66⟩:=Z.lend [_]
 refine L_call rfl Tryz.call44 (ops2 (hP49 3 24 rfl rfl) (hP49 4 25 rfl rfl)) (s_l17Rd_of_c (r_:=({ b:=r_.b,p:=x23.2 } : Rd)) (list:=bits) s64 (RP.mono _ h0_0 (Le.trans hE49 l63)) (RP.mono _ h2 (Le.trans hE49 l63)) hx37) ?_
 rintro _ w67 ⟨rfl,Z⟩
 have Z:=k66 Z (cb c0)
 exact L_nil ⟨rfl,_,_,rfl,Le.refl _,fun _ _=>rfl,Z⟩
 refine opsS_cons ?_ ?_
 intro f w_ H49 X49 hS49 hE49 hP49 Z
 obtain ⟨hx39_l,hx39_e⟩:=cat_some hx39
 refine L_sadd (s:=x31) (s':=x37.1) rfl (hP49 2 23 rfl rfl) (hP49 5 26 rfl rfl) hx39_l ?_
 rw [← hx39_e]
 exact L_nil ⟨rfl,_,_,rfl,Le.refl _,fun _ _=>rfl,Z⟩
 refine opsS_cons (fun f w_ _ _ s _ _ Z=>mF ((s 1 rfl).trans sf1) rfl (nO rfl rfl Z)) (opsS_cons (fun f w_ _ _ s _ _ Z=>mF ((s 7 rfl).trans rfl) rfl (nO rfl rfl Z)) (opsS_cons (fun f w_ _ _ s _ _ Z=>mF ((s 0 rfl).trans sf0) rfl (nO rfl rfl Z)) (opsS_cons ?_ ?_)))
 intro f w_ H49 X49 hS49 hE49 hP49 Z
 have Z : Star H49 w_ (box g_0 68 #[v0_0,I x37.2] :: X49):=Z
 obtain ⟨H68b,l69,s70,z71,k72⟩:=Z.lend [_]
 refine L_call rfl Tryz.call43 (ops2 (hP49 9 30 rfl rfl) rfl) (s_l17Rd_pick_c (r_:=({ b:=r_.b,p:=x37.2 } : Rd)) (n_:=2) s70 (RP.mono _ h0_0 (Le.trans hE49 l69)) hx45) ?_
 rintro _ w73 ⟨rfl,Z⟩
 have Z:=k72 Z (cb c0)
 exact L_nil ⟨rfl,_,_,rfl,Le.refl _,fun _ _=>rfl,Z⟩
 refine opsS_cons (fun f w_ _ _ _ _ p Z=>L_add rfl (p 8 29 rfl rfl) (p 10 31 rfl rfl) (nO rfl rfl Z)) (opsS_cons (fun f w_ _ _ _ _ p Z=>L_ssl (a:=i64 (x23.1 + x45.1)) (b:=(s.size : Int)) rfl Tryz.underlying9 (p 7 28 rfl rfl) (p 11 32 rfl rfl) rfl hx47 (nO rfl rfl Z)) (opsS_nil))
 have Z : Star H49 w_ ([box g_0 68 #[v0_0,I x45.2]]):=Z
 obtain ⟨hx48_l,hx48_e⟩:=cat_some hx48
 refine L_sadd (s:=x39) (s':=x47) rfl (hT49 6 27 rfl rfl) (hT49 12 33 rfl rfl) hx48_l ?_
 rw [← hx48_e]
 refine aV (.string x48) rfl (nn (W_ret (retG1 (v1:=.string x48) Tryz.results24 rfl ?_)))
 obtain rfl:=so hF
 exact ⟨rfl,(Star.down Z hE49 (cb c0))⟩
theorem s_DrawParseProblem_c {fu : Nat} {code : List UInt8} {v0 : Value} {H : FH} {w : World} (Z : Star H w []) (h0 : (rS 5 RP.u8).rel H [v0] code) {r : ByteArray} (hF : s_DrawParseProblem fu code = some r) :
 C Tryz.prog 11 #[v0] w fun v w'=>v = .string r∧Star H w' []:=by
 unfold s_DrawParseProblem at hF
 refine C_enter Tryz.func11 rfl Tryz.ntmps11 rfl (sq (aV (.string (⟨#[]⟩ : ByteArray)) rfl (nq ?_)))
 obtain ⟨x1,hx1,hF⟩:=bind_some hF
 refine W_region (mV v0 rfl (L_call rfl Tryz.call23 (ops1 rfl) (s_l17Open_c (code:=code) Z h0 hx1) ?_))
 rintro _ w3 ⟨H3,l3,r3_0,r3_1,rfl,hr3_1,Z⟩
 refine aV (Pt r3_0) rfl (nq ?_)
 obtain ⟨x9,hx9,hF⟩:=bind_some hF
 obtain ⟨x18,hx18,hF⟩:=bind_some hF
 obtain ⟨x29,hx29,hF⟩:=bind_some hF
 refine W_region (mV (Pt r3_0) rfl (mV (Pt r3_0) rfl ?_))
 obtain ⟨H31b,l32,s33,z34,k35⟩:=Z.lend [_]
 refine L_call rfl Tryz.call25 (ops1 rfl) (s_l3Problem_c (r_:=x1) s33 (RP.mono _ hr3_1 l32) hx9) ?_
 rintro r36_0 w36 ⟨_,rfl,Z⟩
 have Z:=k35 Z (co closed_oCon (cb c0))
 obtain ⟨H38b,l39,s40,z41,k42⟩:=Z.borrow
 have hb43 : (rS 37 (rCon 58)).rel H38b [r36_0] x9.1:=fz_own 0 z41 rfl
 refine L_call rfl Tryz.call7 (ops1 rfl) (s_FormatProblem_c (list:=x9.1) s40 hb43 hx18) ?_
 rintro _ w44 ⟨rfl,Z⟩
 have Z:=k42 Z c0
 refine L_bs rfl (parts6 rfl rfl rfl rfl rfl rfl) (bs_43_6_0_0_0_0_0_0 (.string (⟨#[]⟩ : ByteArray)) (.string (⟨#[32]⟩ : ByteArray)) (.string (⟨#[10]⟩ : ByteArray)) (.string (⟨#[49]⟩ : ByteArray)) (.string (⟨#[120]⟩ : ByteArray)) (.string (⟨#[126]⟩ : ByteArray)) rfl rfl rfl rfl rfl rfl) Z (fun g45 w46 Z=>?_)
 have Z:=Star.addF (r:=RP.str) (cs:=[.string (⟨#[126]⟩ : ByteArray)]) (x:=(⟨#[126]⟩ : ByteArray)) Z rfl
 have Z:=Star.addF (r:=RP.str) (cs:=[.string (⟨#[120]⟩ : ByteArray)]) (x:=(⟨#[120]⟩ : ByteArray)) Z rfl
 have Z:=Star.addF (r:=RP.str) (cs:=[.string (⟨#[49]⟩ : ByteArray)]) (x:=(⟨#[49]⟩ : ByteArray)) Z rfl
 have Z:=Star.addF (r:=RP.str) (cs:=[.string (⟨#[10]⟩ : ByteArray)]) (x:=(⟨#[10]⟩ : ByteArray)) Z rfl
 have Z:=Star.addF (r:=RP.str) (cs:=[.string (⟨#[32]⟩ : ByteArray)]) (x:=(⟨#[32]⟩ : ByteArray)) Z rfl
 have Z:=Star.addF (r:=RP.str) (cs:=[.string (⟨#[]⟩ : ByteArray)]) (x:=(⟨#[]⟩ : ByteArray)) Z rfl
 have Z:=Star.mkRow (R:=(OR.frz RP.str)) [([.string (⟨#[]⟩ : ByteArray)],(⟨#[]⟩ : ByteArray)),([.string (⟨#[32]⟩ : ByteArray)],(⟨#[32]⟩ : ByteArray)),([.string (⟨#[10]⟩ : ByteArray)],(⟨#[10]⟩ : ByteArray)),([.string (⟨#[49]⟩ : ByteArray)],(⟨#[49]⟩ : ByteArray)),([.string (⟨#[120]⟩ : ByteArray)],(⟨#[120]⟩ : ByteArray)),([.string (⟨#[126]⟩ : ByteArray)],(⟨#[126]⟩ : ByteArray))] [(⟨#[]⟩ : ByteArray),(⟨#[32]⟩ : ByteArray),(⟨#[10]⟩ : ByteArray),(⟨#[49]⟩ : ByteArray),(⟨#[120]⟩ : ByteArray),(⟨#[126]⟩ : ByteArray)] 6 Z rfl rfl rfl (by decide)
 have Z:=Z.get 2 rfl
 obtain ⟨H48b,l49,s50,z51,k52⟩:=Z.lend [_]
 have hb53 : (rS 9 RP.str).rel H48b [(Sl g45 6 6)] ([(⟨#[]⟩ : ByteArray),(⟨#[32]⟩ : ByteArray),(⟨#[10]⟩ : ByteArray),(⟨#[49]⟩ : ByteArray),(⟨#[120]⟩ : ByteArray),(⟨#[126]⟩ : ByteArray)]):=fz_own 0 z51 rfl
 refine L_call rfl Tryz.call24 (ops3 rfl rfl rfl) (s_l1Bend_c (r_:=({ b:=x1.b,p:=x9.2 } : Rd)) (s:=x18) (bits:=[(⟨#[]⟩ : ByteArray),(⟨#[32]⟩ : ByteArray),(⟨#[10]⟩ : ByteArray),(⟨#[49]⟩ : ByteArray),(⟨#[120]⟩ : ByteArray),(⟨#[126]⟩ : ByteArray)]) s50 (RP.mono _ hr3_1 l49) hb53 hx29) ?_
 rintro _ w54 ⟨rfl,Z⟩
 have Z:=k52 Z (cb c0)
 refine aV (.string x29.1) rfl (nn (W_ret (retG1 (v1:=.string x29.1) Tryz.results11 rfl ?_)))
 obtain rfl:=so hF
 exact ⟨rfl,(Star.down (Star.keepN 0 Z) l3 c0)⟩
theorem s_l17Cut_c {s : ByteArray} {c : Int} {H : FH} {w : World} (Z : Star H w []) {r : List ByteArray} (hF : s_l17Cut s c = some r) :
 C Tryz.prog 26 #[.string s,.int .u8 (c.toNat : Int)] w fun v w'=>∃ (u1 : Value),v = u1∧Star H w' [oF 9 RP.str u1 r]:=by
 unfold s_l17Cut at hF
 refine C_enter Tryz.func26 rfl Tryz.ntmps26 rfl (sq (aV S0 rfl (ns (L_bs rfl parts0 (bs_43_0  ) Z (fun g4 w5 Z=>?_)))))
 have Z:=Star.mkRow (R:=(OR.frz RP.str)) [] [] 0 Z rfl rfl rfl (by decide)
 refine aV (Sl g4 0 0) rfl (ns (aI rfl (nq (sq (aI rfl (nn ?_))))))
 obtain ⟨k12,hk12,hF⟩:=bind_some hF
 obtain ⟨j11,hL11,hF⟩:=bind_some hF
 obtain ⟨R11,hR11⟩:=exR fun f w_=>∃ out_8 : List ByteArray,∃ from__10 : Int,∃ v8_out : Value,j11 = .nx (out_8,from__10)∧f 5 = v8_out∧Star H w_ ([oF 9 RP.str v8_out out_8])
 refine W_join R11 ?_ ?_
 refine W_block ?_
 obtain ⟨I11,hI11⟩:=exI fun n f w_=>∃ i_7 : Nat,∃ suf11 : Nat,∃ out_8 : List ByteArray,∃ from__10 : Int,∃ v8_out : Value,suf11 = n∧0≤i_7∧i_7 + suf11 = 0 + k12∧countL (s_l17Cut_b1 s c) suf11 i_7 (out_8,from__10) = some j11∧f 0 = .string s∧f 1 = .int .u8 (c.toNat : Int)∧f 5 = v8_out∧f 6 = I from__10∧f 7 = I i_7∧Star H w_ ([oF 9 RP.str v8_out out_8])
 refine W_loop I11 (n:=k12) ?_ ?_
 exact ij hI11 ⟨0,k12,[],0,(Sl g4 0 0),rfl,Nat.le_refl _,rfl,hL11,rfl,rfl,rfl,rfl,rfl,Z⟩
 intro n11 f w_ hI
 obtain ⟨i_7,suf11,out_8,from__10,v8_out,rfl,hs11,hl11,hL11,sf0,sf1,sf5,sf6,sf7,Z⟩:=ik hI11 hI
 refine W_seq (sq (mF sf7 rfl (mF sf0 rfl (L_slen (s:=s) rfl Tryz.underlying9 rfl (L_leq rfl rfl rfl (nn (W_cond (b:=decide ((i_7 : Int)≤(s.size : Int))) rfl (fun hc13=>?_) (fun hc13=>?_))))))))
 have hlt11:=of_decide_eq_true hc13
 rcases suf11 with _ | rest11
 exact absurd hlt11 (cntF_noL hl11 hk12)
 obtain ⟨o11,hB11,hL11⟩:=count_succ hL11
 rw [s_l17Cut_b1] at hB11
 refine W_skip (W_seq (W_block (W_seq ?_)))
 obtain ⟨b15,hb15,hB11⟩:=bind_some hB11
 obtain ⟨R16,hR16⟩:=exR fun f w_=>f 0 = .string s∧f 1 = .int .u8 (c.toNat : Int)∧f 5 = v8_out∧f 6 = I from__10∧f 7 = I i_7∧f 25 = Bo b15∧Star H w_ ([oF 9 RP.str v8_out out_8])
 refine W_join R16 ?_ ?_
 refine W_region (mF sf7 rfl (mF sf0 rfl (L_slen (s:=s) rfl Tryz.underlying9 rfl (L_eql rfl rfl rfl (mB rfl (L_split (d:=19) (b:=((i_7 : Int) == (s.size : Int))) rfl (fun hc17=>?_) (fun hc17=>?_)))))))
 rw [ite_t hc17] at hb15
 refine ps rfl (ps rfl (ps rfl (ps rfl (ps rfl (L_pick (v:=Bo b15) rfl rfl (congrArg Value.bool (so hb15)) (nn (rj hR16 ⟨sf0,sf1,sf5,sf6,sf7,rfl,Z⟩)))))))
 rw [ite_f hc17] at hb15
 obtain ⟨x14,hx14,hb15⟩:=bind_some hb15
 refine mF sf0 rfl (mF sf7 rfl (L_sidx rfl Tryz.underlying9 rfl rfl hx14 (mF sf1 rfl (L_eql rfl rfl rfl (L_pick (v:=Bo b15) rfl rfl (congrArg Value.bool (so hb15)) (nn (rj hR16 ⟨sf0,sf1,sf5,sf6,sf7,rfl,Z⟩)))))))
 intro f w_ hR
 obtain ⟨sf0,sf1,sf5,sf6,sf7,sf25,Z⟩:=rk hR16 hR
 obtain ⟨⟨out_18,from__20⟩,hA21,hB11⟩:=bind_some hB11
 obtain ⟨R21,hR21⟩:=exR fun f w_=>∃ v18_out : Value,f 0 = .string s∧f 1 = .int .u8 (c.toNat : Int)∧f 5 = v18_out∧f 6 = I from__20∧f 7 = I i_7∧Star H w_ ([oF 9 RP.str v18_out out_18])
 refine W_join R21 ?_ ?_
 refine W_cond (b:=b15) sf25 (fun hc22=>?_) (fun hc22=>?_)
 have hA21:=(ite_t hc22).symm.trans hA21
 refine W_seq ?_
 obtain ⟨x23,hx23,hA21⟩:=bind_some hA21
 obtain ⟨x27,hx27,hA21⟩:=bind_some hA21
 refine W_region (mF sf5 rfl (mF sf0 rfl (mF sf6 rfl (mF sf7 rfl (L_ssl (a:=from__10) (b:=(i_7 : Int)) rfl Tryz.underlying9 rfl rfl rfl hx23 (L_bs rfl (parts1 rfl) (bs_43_1_0 (.string x23) rfl) Z (fun g31 w32 Z=>?_)))))))
 have Z:=Star.addF (r:=RP.str) (cs:=[.string x23]) (x:=x23) Z rfl
 have Z:=Star.mkRow (R:=(OR.frz RP.str)) [([.string x23],x23)] [x23] 1 Z rfl rfl rfl (by decide)
 have Z:=Z.get 1 rfl
 refine L_appM (v:=v8_out) (u:=(Sl g31 1 1)) rfl et_43 rfl rfl Z hx27 (fun v34 w35 Z=>aV v34 rfl (nn (W_region (mF sf7 rfl (L_add rfl rfl rfl (aI rfl (nn ?_)))))))
 obtain ⟨rfl,rfl⟩:=so2 hA21
 exact rj hR21 ⟨v34,sf0,sf1,rfl,rfl,sf7,Z⟩
 have hA21:=(ite_f hc22).symm.trans hA21
 refine W_skip ?_
 obtain ⟨rfl,rfl⟩:=so2 hA21
 exact rj hR21 ⟨v8_out,sf0,sf1,sf5,sf6,sf7,Z⟩
 intro f w_ hR
 obtain ⟨v18_out,sf0,sf1,sf5,sf6,sf7,Z⟩:=rk hR21 hR
 refine W_region (mF sf7 rfl (L_add rfl rfl rfl (aI rfl (nn ?_))))
 obtain rfl:=so hB11
 show ∃ m,m < _∧I11 m _ _
 refine ⟨rest11,Nat.lt_succ_self _,?_⟩
 exact ij hI11 ⟨i_7 + 1,rest11,out_18,from__20,v18_out,rfl,by omega,by omega,hL11,sf0,sf1,sf5,sf6,(Eq.trans rfl (congrArg (Value.int .i64) (i64_succ (n:=0 + k12) (by omega) (cntF_le hk12)))),Z⟩
 rcases suf11 with _ | _
 obtain rfl:=count_zero hL11
 refine W_exit (rj hR11 ⟨out_8,from__10,v8_out,rfl,sf5,Z⟩)
 exact absurd (cntF_yesL hs11 hl11 hk12) (of_decide_eq_false hc13)
 intro f w_ hR
 obtain ⟨out_8,from__10,v8_out,rfl,sf5,Z⟩:=rk hR11 hR
 refine sq (mF sf5 rfl (aV v8_out rfl (nn (W_ret (retG1 (v1:=v8_out) Tryz.results26 rfl ?_)))))
 obtain rfl:=so hF
 exact ⟨v8_out,rfl,Z⟩
theorem s_l17Num_c {s : ByteArray} {H : FH} {w : World} (Z : Star H w []) {r : Int × Bool} (hF : s_l17Num s = some r) :
 C Tryz.prog 47 #[.string s] w fun v w'=>v = .tuple #[I r.1,Bo r.2]∧Star H w' []:=by
 unfold s_l17Num at hF
 refine C_enter Tryz.func47 rfl Tryz.ntmps47 rfl (sq (aI rfl (aB rfl (nq ?_))))
 obtain ⟨b2,hb2,hF⟩:=bind_some hF
 obtain ⟨R3,hR3⟩:=exR fun f w_=>f 0 = .string s∧f 4 = Bo b2∧Star H w_ ([])
 refine W_join R3 ?_ ?_
 refine W_region (mV (.string s) rfl (L_slen (s:=s) rfl Tryz.underlying9 rfl (L_gtr rfl rfl rfl (mB rfl (L_split (d:=10) (b:=decide ((s.size : Int) > 0)) rfl (fun hc4=>?_) (fun hc4=>?_))))))
 rw [ite_t hc4] at hb2
 obtain ⟨x1,hx1,hb2⟩:=bind_some hb2
 refine mV (.string s) rfl (L_sidx rfl Tryz.underlying9 rfl rfl hx1 (L_eql rfl rfl rfl (L_pick (v:=Bo b2) rfl rfl (congrArg Value.bool (so hb2)) (aB rfl (nn (rj hR3 ⟨rfl,rfl,Z⟩))))))
 rw [ite_f hc4] at hb2
 refine ps rfl (ps rfl (ps rfl (L_pick (v:=Bo b2) rfl rfl (congrArg Value.bool (so hb2)) (aB rfl (nn (rj hR3 ⟨rfl,rfl,Z⟩))))))
 intro f w_ hR
 obtain ⟨sf0,sf4,Z⟩:=rk hR3 hR
 refine W_seq (sq (mF sf4 rfl (nn ?_)))
 obtain ⟨s_5,hA6,hF⟩:=bind_some hF
 obtain ⟨R6,hR6⟩:=exR fun f w_=>f 0 = .string s_5∧f 4 = Bo b2∧Star H w_ ([])
 refine W_join R6 ?_ ?_
 refine W_cond (b:=b2) rfl (fun hc7=>?_) (fun hc7=>?_)
 have hA6:=(ite_t hc7).symm.trans hA6
 obtain ⟨x8,hx8,hA6⟩:=bind_some hA6
 refine W_region (mF sf0 rfl (L_ssl (a:=1) (b:=(s.size : Int)) rfl Tryz.underlying9 rfl rfl rfl hx8 (aV (.string x8) rfl (nn ?_))))
 obtain rfl:=so hA6
 exact rj hR6 ⟨rfl,sf4,Z⟩
 have hA6:=(ite_f hc7).symm.trans hA6
 refine W_skip ?_
 obtain rfl:=so hA6
 exact rj hR6 ⟨sf0,sf4,Z⟩
 intro f w_ hR
 obtain ⟨sf0,sf4,Z⟩:=rk hR6 hR
 refine W_seq (W_seq ?_)
 obtain ⟨b10,hb10,hF⟩:=bind_some hF
 obtain ⟨R11,hR11⟩:=exR fun f w_=>f 0 = .string s_5∧f 4 = Bo b2∧f 38 = Bo b10∧Star H w_ ([])
 refine W_join R11 ?_ ?_
 refine W_region (mF sf0 rfl (L_slen (s:=s_5) rfl Tryz.underlying9 rfl (L_eql rfl rfl rfl (mB rfl (L_split (d:=21) (b:=((s_5.size : Int) == 0)) rfl (fun hc12=>?_) (fun hc12=>?_))))))
 refine ps rfl (ps rfl (ps rfl (L_pick (v:=Bo (((s_5.size : Int) == 0) || (decide ((s_5.size : Int) > 17)))) rfl rfl (or_t hc12) (mB rfl (L_split (d:=26) (b:=(((s_5.size : Int) == 0) || (decide ((s_5.size : Int) > 17)))) rfl (fun hc13=>?_) (fun hc13=>?_))))))
 rw [ite_t hc13] at hb10
 refine ps rfl (ps rfl (ps rfl (ps rfl (ps rfl (ps rfl (ps rfl (ps rfl (ps rfl (ps rfl (ps rfl (L_pick (v:=Bo b10) rfl rfl (congrArg Value.bool (so hb10)) (nn (rj hR11 ⟨sf0,sf4,rfl,Z⟩)))))))))))))
 rw [ite_f hc13] at hb10
 obtain ⟨x9,hx9,hb10⟩:=bind_some hb10
 refine mF sf0 rfl (L_sidx rfl Tryz.underlying9 rfl rfl hx9 (L_eql rfl rfl rfl (mB rfl (L_split (d:=30) (b:=((x9.toNat : Int) == 48)) rfl (fun hc14=>?_) (fun hc14=>?_)))))
 refine mF sf0 rfl (L_slen (s:=s_5) rfl Tryz.underlying9 rfl (L_gtr rfl rfl rfl (mB rfl (L_split (d:=34) (b:=decide ((s_5.size : Int) > 1)) rfl (fun hc15=>?_) (fun hc15=>?_)))))
 refine ps rfl (L_pick (v:=Bo ((decide ((s_5.size : Int) > 1)) || b2)) rfl rfl (or_t hc15) (L_pick (v:=Bo (((x9.toNat : Int) == 48) && ((decide ((s_5.size : Int) > 1)) || b2))) rfl rfl (and_t hc14 rfl) (L_pick (v:=Bo b10) rfl rfl (congrArg Value.bool (so hb10)) (nn (rj hR11 ⟨sf0,sf4,rfl,Z⟩)))))
 refine mF sf4 rfl (L_pick (v:=Bo ((decide ((s_5.size : Int) > 1)) || b2)) rfl rfl (or_f hc15 rfl) (L_pick (v:=Bo (((x9.toNat : Int) == 48) && ((decide ((s_5.size : Int) > 1)) || b2))) rfl rfl (and_t hc14 rfl) (L_pick (v:=Bo b10) rfl rfl (congrArg Value.bool (so hb10)) (nn (rj hR11 ⟨sf0,sf4,rfl,Z⟩)))))
 refine ps rfl (ps rfl (ps rfl (ps rfl (ps rfl (ps rfl (L_pick (v:=Bo (((x9.toNat : Int) == 48) && ((decide ((s_5.size : Int) > 1)) || b2))) rfl rfl (and_f hc14) (L_pick (v:=Bo b10) rfl rfl (congrArg Value.bool (so hb10)) (nn (rj hR11 ⟨sf0,sf4,rfl,Z⟩)))))))))
 refine mF sf0 rfl (L_slen (s:=s_5) rfl Tryz.underlying9 rfl (L_gtr rfl rfl rfl (L_pick (v:=Bo (((s_5.size : Int) == 0) || (decide ((s_5.size : Int) > 17)))) rfl rfl (or_f hc12 rfl) (mB rfl (L_split (d:=26) (b:=(((s_5.size : Int) == 0) || (decide ((s_5.size : Int) > 17)))) rfl (fun hc16=>?_) (fun hc16=>?_))))))
 rw [ite_t hc16] at hb10
 refine ps rfl (ps rfl (ps rfl (ps rfl (ps rfl (ps rfl (ps rfl (ps rfl (ps rfl (ps rfl (ps rfl (L_pick (v:=Bo b10) rfl rfl (congrArg Value.bool (so hb10)) (nn (rj hR11 ⟨sf0,sf4,rfl,Z⟩)))))))))))))
 rw [ite_f hc16] at hb10
 obtain ⟨x9,hx9,hb10⟩:=bind_some hb10
 refine mF sf0 rfl (L_sidx rfl Tryz.underlying9 rfl rfl hx9 (L_eql rfl rfl rfl (mB rfl (L_split (d:=30) (b:=((x9.toNat : Int) == 48)) rfl (fun hc17=>?_) (fun hc17=>?_)))))
 refine mF sf0 rfl (L_slen (s:=s_5) rfl Tryz.underlying9 rfl (L_gtr rfl rfl rfl (mB rfl (L_split (d:=34) (b:=decide ((s_5.size : Int) > 1)) rfl (fun hc18=>?_) (fun hc18=>?_)))))
 refine ps rfl (L_pick (v:=Bo ((decide ((s_5.size : Int) > 1)) || b2)) rfl rfl (or_t hc18) (L_pick (v:=Bo (((x9.toNat : Int) == 48) && ((decide ((s_5.size : Int) > 1)) || b2))) rfl rfl (and_t hc17 rfl) (L_pick (v:=Bo b10) rfl rfl (congrArg Value.bool (so hb10)) (nn (rj hR11 ⟨sf0,sf4,rfl,Z⟩)))))
 refine mF sf4 rfl (L_pick (v:=Bo ((decide ((s_5.size : Int) > 1)) || b2)) rfl rfl (or_f hc18 rfl) (L_pick (v:=Bo (((x9.toNat : Int) == 48) && ((decide ((s_5.size : Int) > 1)) || b2))) rfl rfl (and_t hc17 rfl) (L_pick (v:=Bo b10) rfl rfl (congrArg Value.bool (so hb10)) (nn (rj hR11 ⟨sf0,sf4,rfl,Z⟩)))))
 refine ps rfl (ps rfl (ps rfl (ps rfl (ps rfl (ps rfl (L_pick (v:=Bo (((x9.toNat : Int) == 48) && ((decide ((s_5.size : Int) > 1)) || b2))) rfl rfl (and_f hc17) (L_pick (v:=Bo b10) rfl rfl (congrArg Value.bool (so hb10)) (nn (rj hR11 ⟨sf0,sf4,rfl,Z⟩)))))))))
 intro f w_ hR
 obtain ⟨sf0,sf4,sf38,Z⟩:=rk hR11 hR
 refine W_cond (b:=b10) sf38 (fun hc19=>?_) (fun hc19=>?_)
 have hF:=(ite_t hc19).symm.trans hF
 refine sq (aI rfl (aB rfl (nn (W_ret (retG2 (v1:=I 0) (v2:=Bo false) Tryz.results47 rfl rfl ?_)))))
 obtain rfl:=so hF
 exact ⟨rfl,Z⟩
 have hF:=(ite_f hc19).symm.trans hF
 refine W_skip (sq (aI rfl (nq (sq (aI rfl (nn ?_))))))
 obtain ⟨k23,hk23,hF⟩:=bind_some hF
 obtain ⟨j22,hL22,hF⟩:=bind_some hF
 obtain ⟨R22,hR22⟩:=exR fun f w_=>∃ n_21 : Int,j22 = .nx n_21∧f 4 = Bo b2∧f 5 = I n_21∧Star H w_ ([])
 refine W_join R22 ?_ ?_
 refine W_block ?_
 obtain ⟨I22,hI22⟩:=exI fun n f w_=>∃ i_20 : Nat,∃ suf22 : Nat,∃ n_21 : Int,suf22 = n∧0≤i_20∧i_20 + suf22 = 0 + k23∧countL (s_l17Num_b1 s_5) suf22 i_20 n_21 = some j22∧f 0 = .string s_5∧f 4 = Bo b2∧f 5 = I n_21∧f 6 = I i_20∧Star H w_ ([])
 refine W_loop I22 (n:=k23) ?_ ?_
 exact ij hI22 ⟨0,k23,0,rfl,Nat.le_refl _,rfl,hL22,sf0,sf4,rfl,rfl,Z⟩
 intro n22 f w_ hI
 obtain ⟨i_20,suf22,n_21,rfl,hs22,hl22,hL22,sf0,sf4,sf5,sf6,Z⟩:=ik hI22 hI
 refine W_seq (sq (mF sf6 rfl (mF sf0 rfl (L_slen (s:=s_5) rfl Tryz.underlying9 rfl (L_lss rfl rfl rfl (nn (W_cond (b:=decide ((i_20 : Int) < (s_5.size : Int))) rfl (fun hc24=>?_) (fun hc24=>?_))))))))
 have hlt22:=of_decide_eq_true hc24
 rcases suf22 with _ | rest22
 exact absurd hlt22 (cntF_no hl22 hk23)
 obtain ⟨o22,hB22,hL22⟩:=count_succ hL22
 rw [s_l17Num_b1] at hB22
 refine W_skip (W_seq (W_block (W_seq (W_seq ?_))))
 obtain ⟨x25,hx25,hB22⟩:=bind_some hB22
 obtain ⟨R26,hR26⟩:=exR fun f w_=>f 0 = .string s_5∧f 4 = Bo b2∧f 5 = I n_21∧f 6 = I i_20∧f 54 = Bo ((decide ((x25.toNat : Int) < 48)) || (decide ((x25.toNat : Int) > 57)))∧Star H w_ ([])
 refine W_join R26 ?_ ?_
 refine W_region (mF sf0 rfl (mF sf6 rfl (L_sidx rfl Tryz.underlying9 rfl rfl hx25 (L_lss rfl rfl rfl (mB rfl (L_split (d:=49) (b:=decide ((x25.toNat : Int) < 48)) rfl (fun hc27=>?_) (fun hc27=>?_)))))))
 refine ps rfl (ps rfl (ps rfl (ps rfl (L_pick (v:=Bo ((decide ((x25.toNat : Int) < 48)) || (decide ((x25.toNat : Int) > 57)))) rfl rfl (or_t hc27) (nn (rj hR26 ⟨sf0,sf4,sf5,sf6,rfl,Z⟩))))))
 refine mF sf0 rfl (mF sf6 rfl (L_sidx rfl Tryz.underlying9 rfl rfl hx25 (L_gtr rfl rfl rfl (L_pick (v:=Bo ((decide ((x25.toNat : Int) < 48)) || (decide ((x25.toNat : Int) > 57)))) rfl rfl (or_f hc27 rfl) (nn (rj hR26 ⟨sf0,sf4,sf5,sf6,rfl,Z⟩))))))
 intro f w_ hR
 obtain ⟨sf0,sf4,sf5,sf6,sf54,Z⟩:=rk hR26 hR
 refine W_cond (b:=((decide ((x25.toNat : Int) < 48)) || (decide ((x25.toNat : Int) > 57)))) sf54 (fun hc28=>?_) (fun hc28=>?_)
 have hB22:=(ite_t hc28).symm.trans hB22
 refine sq (aI rfl (aB rfl (nn (W_ret (retG2 (v1:=I 0) (v2:=Bo false) Tryz.results47 rfl rfl ?_)))))
 obtain rfl:=so hB22
 obtain rfl:=so hL22
 obtain rfl:=so hF
 exact ⟨rfl,Z⟩
 have hB22:=(ite_f hc28).symm.trans hB22
 refine W_skip (W_region (mF sf5 rfl (L_mul rfl rfl rfl (mF sf0 rfl (mF sf6 rfl (L_sidx rfl Tryz.underlying9 rfl rfl hx25 (L_sub rfl rfl rfl (L_cv (n:=IntKind.u8.wrap ((x25.toNat : Int) - 48)) rfl rfl ⟨_,Tryz.underlying5⟩ Tryz.underlying3 (L_add rfl rfl rfl (aI rfl (nn (W_region (mF sf6 rfl (L_add rfl rfl rfl (aI rfl (nn ?_))))))))))))))))
 obtain rfl:=so hB22
 show ∃ m,m < _∧I22 m _ _
 refine ⟨rest22,Nat.lt_succ_self _,?_⟩
 exact ij hI22 ⟨i_20 + 1,rest22,i64 ((i64 (n_21 * 10)) + (i64 (IntKind.u8.wrap ((x25.toNat : Int) - 48)))),rfl,by omega,by omega,hL22,sf0,sf4,rfl,(Eq.trans rfl (congrArg (Value.int .i64) (i64_succ (n:=0 + k23) (by omega) (cntF_le hk23)))),Z⟩
 rcases suf22 with _ | _
 obtain rfl:=count_zero hL22
 refine W_exit (rj hR22 ⟨n_21,rfl,sf4,sf5,Z⟩)
 exact absurd (cntF_yes hs22 hl22 hk23) (of_decide_eq_false hc24)
 intro f w_ hR
 obtain ⟨n_21,rfl,sf4,sf5,Z⟩:=rk hR22 hR
 refine W_seq (sq (mF sf4 rfl (nn ?_)))
 obtain ⟨n_29,hA30,hF⟩:=bind_some hF
 obtain ⟨R30,hR30⟩:=exR fun f w_=>f 5 = I n_29∧Star H w_ ([])
 refine W_join R30 ?_ ?_
 refine W_cond (b:=b2) rfl (fun hc31=>?_) (fun hc31=>?_)
 have hA30:=(ite_t hc31).symm.trans hA30
 refine W_region (mF sf5 rfl (L_neg rfl rfl (aI rfl (nn ?_))))
 obtain rfl:=so hA30
 exact rj hR30 ⟨rfl,Z⟩
 have hA30:=(ite_f hc31).symm.trans hA30
 refine W_skip ?_
 obtain rfl:=so hA30
 exact rj hR30 ⟨sf5,Z⟩
 intro f w_ hR
 obtain ⟨sf5,Z⟩:=rk hR30 hR
 refine sq (mF sf5 rfl (aI rfl (aB rfl (nn (W_ret (retG2 (v1:=I n_29) (v2:=Bo true) Tryz.results47 rfl rfl ?_))))))
 obtain rfl:=so hF
 exact ⟨rfl,Z⟩
theorem s_l1Literal_c {s : ByteArray} {H : FH} {w : World} (Z : Star H w []) {r : Int} (hF : s_l1Literal s = some r) :
 C Tryz.prog 48 #[.string s] w fun v w'=>v = I r∧Star H w' []:=by
 unfold s_l1Literal at hF
 refine C_enter Tryz.func48 rfl Tryz.ntmps48 rfl (sq (aI rfl (ns (aI rfl (nq (W_seq ?_))))))
 obtain ⟨b2,hb2,hF⟩:=bind_some hF
 obtain ⟨R3,hR3⟩:=exR fun f w_=>f 0 = .string s∧f 3 = I 1∧f 13 = Bo b2∧Star H w_ ([])
 refine W_join R3 ?_ ?_
 refine W_region (mV (.string s) rfl (L_slen (s:=s) rfl Tryz.underlying9 rfl (L_gtr rfl rfl rfl (mB rfl (L_split (d:=9) (b:=decide ((s.size : Int) > 0)) rfl (fun hc4=>?_) (fun hc4=>?_))))))
 rw [ite_t hc4] at hb2
 obtain ⟨x1,hx1,hb2⟩:=bind_some hb2
 refine mV (.string s) rfl (L_sidx rfl Tryz.underlying9 rfl rfl hx1 (L_eql rfl rfl rfl (L_pick (v:=Bo b2) rfl rfl (congrArg Value.bool (so hb2)) (nn (rj hR3 ⟨rfl,rfl,rfl,Z⟩)))))
 rw [ite_f hc4] at hb2
 refine ps rfl (ps rfl (ps rfl (L_pick (v:=Bo b2) rfl rfl (congrArg Value.bool (so hb2)) (nn (rj hR3 ⟨rfl,rfl,rfl,Z⟩)))))
 intro f w_ hR
 obtain ⟨sf0,sf3,sf13,Z⟩:=rk hR3 hR
 obtain ⟨⟨s_5,sign_6⟩,hA7,hF⟩:=bind_some hF
 obtain ⟨R7,hR7⟩:=exR fun f w_=>f 0 = .string s_5∧f 3 = I sign_6∧Star H w_ ([])
 refine W_join R7 ?_ ?_
 refine W_cond (b:=b2) sf13 (fun hc8=>?_) (fun hc8=>?_)
 have hA7:=(ite_t hc8).symm.trans hA7
 refine sq (aI rfl (nn ?_))
 obtain ⟨x9,hx9,hA7⟩:=bind_some hA7
 refine W_region (mF sf0 rfl (L_ssl (a:=1) (b:=(s.size : Int)) rfl Tryz.underlying9 rfl rfl rfl hx9 (aV (.string x9) rfl (nn ?_))))
 obtain ⟨rfl,rfl⟩:=so2 hA7
 exact rj hR7 ⟨rfl,rfl,Z⟩
 have hA7:=(ite_f hc8).symm.trans hA7
 refine W_skip ?_
 obtain ⟨rfl,rfl⟩:=so2 hA7
 exact rj hR7 ⟨sf0,sf3,Z⟩
 intro f w_ hR
 obtain ⟨sf0,sf3,Z⟩:=rk hR7 hR
 refine W_seq (W_seq ?_)
 obtain ⟨b11,hb11,hF⟩:=bind_some hF
 obtain ⟨R12,hR12⟩:=exR fun f w_=>f 0 = .string s_5∧f 3 = I sign_6∧f 23 = Bo b11∧Star H w_ ([])
 refine W_join R12 ?_ ?_
 refine W_region (mF sf0 rfl (L_slen (s:=s_5) rfl Tryz.underlying9 rfl (L_lss rfl rfl rfl (mB rfl (L_split (d:=19) (b:=decide ((s_5.size : Int) < 2)) rfl (fun hc13=>?_) (fun hc13=>?_))))))
 rw [ite_t hc13] at hb11
 refine ps rfl (ps rfl (ps rfl (L_pick (v:=Bo b11) rfl rfl (congrArg Value.bool (so hb11)) (nn (rj hR12 ⟨sf0,sf3,rfl,Z⟩)))))
 rw [ite_f hc13] at hb11
 obtain ⟨x10,hx10,hb11⟩:=bind_some hb11
 refine mF sf0 rfl (L_sidx rfl Tryz.underlying9 rfl rfl hx10 (L_neq rfl rfl rfl (L_pick (v:=Bo b11) rfl rfl (congrArg Value.bool (so hb11)) (nn (rj hR12 ⟨sf0,sf3,rfl,Z⟩)))))
 intro f w_ hR
 obtain ⟨sf0,sf3,sf23,Z⟩:=rk hR12 hR
 refine W_cond (b:=b11) sf23 (fun hc14=>?_) (fun hc14=>?_)
 have hF:=(ite_t hc14).symm.trans hF
 refine sq (aI rfl (nn (W_ret (retG1 (v1:=I 0) Tryz.results48 rfl ?_))))
 obtain rfl:=so hF
 exact ⟨rfl,Z⟩
 have hF:=(ite_f hc14).symm.trans hF
 refine W_skip (W_seq ?_)
 obtain ⟨x15,hx15,hF⟩:=bind_some hF
 obtain ⟨x21,hx21,hF⟩:=bind_some hF
 refine W_region (mF sf0 rfl (L_ssl (a:=1) (b:=(s_5.size : Int)) rfl Tryz.underlying9 rfl rfl rfl hx15 ?_))
 obtain ⟨H23b,l24,s25,z26,k27⟩:=Z.borrow
 refine L_call rfl Tryz.call47 (ops1 rfl) (s_l17Num_c (s:=x15) s25 hx21) ?_
 rintro _ w28 ⟨rfl,Z⟩
 have Z:=k27 Z c0
 refine mV (.tuple #[I x21.1,Bo x21.2]) rfl (L_ex (v:=I x21.1) rfl rfl rfl (L_ex (v:=Bo x21.2) rfl rfl rfl (aI rfl (aB rfl (nq (W_seq ?_))))))
 obtain ⟨R29,hR29⟩:=exR fun f w_=>f 3 = I sign_6∧f 4 = I x21.1∧f 39 = Bo (((!x21.2) || (decide (x21.1 < 1))) || (decide (x21.1 > 12)))∧Star H w_ ([])
 refine W_join R29 ?_ ?_
 refine W_region (mB rfl (L_not_ rfl rfl (mB rfl (L_split (d:=32) (b:=(!x21.2)) rfl (fun hc30=>?_) (fun hc30=>?_)))))
 refine ps rfl (ps rfl (L_pick (v:=Bo ((!x21.2) || (decide (x21.1 < 1)))) rfl rfl (or_t hc30) (mB rfl (L_split (d:=36) (b:=((!x21.2) || (decide (x21.1 < 1)))) rfl (fun hc31=>?_) (fun hc31=>?_)))))
 refine ps rfl (ps rfl (L_pick (v:=Bo (((!x21.2) || (decide (x21.1 < 1))) || (decide (x21.1 > 12)))) rfl rfl (or_t hc31) (nn (rj hR29 ⟨sf3,rfl,rfl,Z⟩))))
 refine mI rfl (L_gtr rfl rfl rfl (L_pick (v:=Bo (((!x21.2) || (decide (x21.1 < 1))) || (decide (x21.1 > 12)))) rfl rfl (or_f hc31 rfl) (nn (rj hR29 ⟨sf3,rfl,rfl,Z⟩))))
 refine mI rfl (L_lss rfl rfl rfl (L_pick (v:=Bo ((!x21.2) || (decide (x21.1 < 1)))) rfl rfl (or_f hc30 rfl) (mB rfl (L_split (d:=36) (b:=((!x21.2) || (decide (x21.1 < 1)))) rfl (fun hc32=>?_) (fun hc32=>?_)))))
 refine ps rfl (ps rfl (L_pick (v:=Bo (((!x21.2) || (decide (x21.1 < 1))) || (decide (x21.1 > 12)))) rfl rfl (or_t hc32) (nn (rj hR29 ⟨sf3,rfl,rfl,Z⟩))))
 refine mI rfl (L_gtr rfl rfl rfl (L_pick (v:=Bo (((!x21.2) || (decide (x21.1 < 1))) || (decide (x21.1 > 12)))) rfl rfl (or_f hc32 rfl) (nn (rj hR29 ⟨sf3,rfl,rfl,Z⟩))))
 intro f w_ hR
 obtain ⟨sf3,sf4,sf39,Z⟩:=rk hR29 hR
 refine W_cond (b:=(((!x21.2) || (decide (x21.1 < 1))) || (decide (x21.1 > 12)))) sf39 (fun hc33=>?_) (fun hc33=>?_)
 have hF:=(ite_t hc33).symm.trans hF
 refine sq (aI rfl (nn (W_ret (retG1 (v1:=I 0) Tryz.results48 rfl ?_))))
 obtain rfl:=so hF
 exact ⟨rfl,Z⟩
 have hF:=(ite_f hc33).symm.trans hF
 refine W_skip (sq (mF sf3 rfl (mF sf4 rfl (L_mul rfl rfl rfl (aI rfl (nn (W_ret (retG1 (v1:=I (i64 (sign_6 * x21.1))) Tryz.results48 rfl ?_))))))))
 obtain rfl:=so hF
 exact ⟨rfl,Z⟩
theorem s_FormatConstraint_c {fu : Nat} {c : Con} {v0_0 : Value} {H : FH} {w : World} (Z : Star H w []) (h0_0 : (rS 58 rTerm).rel H [v0_0] c.terms) {r : ByteArray} (hF : s_FormatConstraint fu c = some r) :
 C Tryz.prog 49 #[.agg #[v0_0,I c.bound]] w fun v w'=>v = .string r∧Star H w' []:=by
 unfold s_FormatConstraint at hF
 refine C_enter Tryz.func49 rfl Tryz.ntmps49 rfl (sq (L_box (v:=.agg #[v0_0,I c.bound]) (cs:=#[v0_0,I c.bound]) rfl rfl rfl Z (fun g3 w4 Z=>aV (.string (⟨#[]⟩ : ByteArray)) rfl (nq (W_seq ?_)))))
 obtain ⟨x10,hx10,hF⟩:=bind_some hF
 refine W_region (L_lda (cs:=[v0_0,I c.bound]) rfl Tryz.isAgg37 Tryz.sizeOf37 rfl (At.sub0 (Blk.at (Star.blkAt 0 Z rfl)) 0 2) rfl ?_)
 obtain ⟨H12b,l13,s14,z15,k16⟩:=Z.borrow
 refine L_call rfl Tryz.call21 (ops1 rfl) (s_ConstraintValid_c (c:=c) s14 (RP.mono _ h0_0 l13) hx10) ?_
 rintro _ w17 ⟨rfl,Z⟩
 have Z:=k16 Z c0
 refine L_not_ rfl rfl (nn (W_cond (b:=(!x10)) rfl (fun hc18=>?_) (fun hc18=>?_)))
 have hF:=(ite_t hc18).symm.trans hF
 refine sq (aV (.string (⟨#[]⟩ : ByteArray)) rfl (nn (W_ret (retG1 (v1:=.string (⟨#[]⟩ : ByteArray)) Tryz.results49 rfl ?_))))
 obtain rfl:=so hF
 exact ⟨rfl,(Star.keepN 0 Z)⟩
 have hF:=(ite_f hc18).symm.trans hF
 refine W_skip (W_seq ?_)
 obtain ⟨x24,hx24,hF⟩:=bind_some hF
 refine W_region (L_lda (cs:=[v0_0,I c.bound]) rfl Tryz.isAgg37 Tryz.sizeOf37 rfl (At.sub0 (Blk.at (Star.blkAt 0 Z rfl)) 0 2) rfl ?_)
 obtain ⟨H26b,l27,s28,z29,k30⟩:=Z.borrow
 refine L_call rfl Tryz.call19 (ops1 rfl) (s_l1Text_c (c:=c) s28 (RP.mono _ h0_0 l27) hx24) ?_
 rintro _ w31 ⟨rfl,Z⟩
 have Z:=k30 Z c0
 refine aV (.string x24) rfl (nn (W_ret (retG1 (v1:=.string x24) Tryz.results49 rfl ?_)))
 obtain rfl:=so hF
 exact ⟨rfl,(Star.keepN 0 Z)⟩
theorem s_ParseConstraint_c {fu : Nat} {text : ByteArray} {H : FH} {w : World} (Z : Star H w []) {r : Con × Bool} (hF : s_ParseConstraint fu text = some r) :
 C Tryz.prog 27 #[.string text] w fun v w'=>∃ (u1 : Value),v = .tuple #[.agg #[u1,I r.1.bound],Bo r.2]∧Star H w' [oF 58 rTerm u1 r.1.terms]:=by
 unfold s_ParseConstraint at hF
 refine C_enter Tryz.func27 rfl Tryz.ntmps27 rfl (sq (L_al (cs:=#[S0,I 0]) rfl Tryz.zeroValue37 rfl Z (fun g3 w4 Z=>aB rfl (nq ?_))))
 obtain ⟨x10,hx10,hF⟩:=bind_some hF
 refine W_region (mV (.string text) rfl ?_)
 obtain ⟨H13b,l14,s15,z16,k17⟩:=Z.borrow
 refine L_call rfl Tryz.call26 (ops2 rfl rfl) (s_l17Cut_c (s:=text) (c:=32) s15 hx10) ?_
 rintro r18_0 w18 ⟨_,rfl,Z⟩
 have Z:=k17 Z (co closed_str c0)
 refine aV r18_0 rfl (ns (mV r18_0 rfl (L_len rfl Tryz.underlying43 rfl (Star.len 0 Z rfl) (aI rfl (nq (W_seq ?_))))))
 obtain ⟨b25,hb25,hF⟩:=bind_some hF
 obtain ⟨R26,hR26⟩:=exR fun f w_=>f 0 = .string text∧f 2 = Pt g3∧f 4 = r18_0∧f 5 = I (x10.length : Int)∧f 32 = Bo b25∧Star H w_ ([oF 9 RP.str r18_0 x10,box g3 37 #[S0,I 0]])
 refine W_join R26 ?_ ?_
 refine W_region (mI rfl (L_lss rfl rfl rfl (mB rfl (L_split (d:=16) (b:=decide ((x10.length : Int) < 2)) rfl (fun hc27=>?_) (fun hc27=>?_)))))
 refine ps rfl (ps rfl (ps rfl (L_pick (v:=Bo ((decide ((x10.length : Int) < 2)) || ((Int.tmod (x10.length : Int) 2) != 0))) rfl rfl (or_t hc27) (mB rfl (L_split (d:=21) (b:=((decide ((x10.length : Int) < 2)) || ((Int.tmod (x10.length : Int) 2) != 0))) rfl (fun hc28=>?_) (fun hc28=>?_))))))
 refine ps rfl (ps rfl (L_pick (v:=Bo (((decide ((x10.length : Int) < 2)) || ((Int.tmod (x10.length : Int) 2) != 0)) || (decide ((x10.length : Int) > 26)))) rfl rfl (or_t hc28) (mB rfl (L_split (d:=25) (b:=(((decide ((x10.length : Int) < 2)) || ((Int.tmod (x10.length : Int) 2) != 0)) || (decide ((x10.length : Int) > 26)))) rfl (fun hc29=>?_) (fun hc29=>?_)))))
 rw [ite_t hc29] at hb25
 refine ps rfl (ps rfl (ps rfl (ps rfl (ps rfl (ps rfl (L_pick (v:=Bo b25) rfl rfl (congrArg Value.bool (so hb25)) (nn (rj hR26 ⟨rfl,rfl,rfl,rfl,rfl,Z⟩))))))))
 rw [ite_f hc29] at hb25
 obtain ⟨x20,hx20,hb25⟩:=bind_some hb25
 refine mV r18_0 rfl (mI rfl (L_sub rfl rfl rfl ?_))
 obtain ⟨g30,cap_g30,hv31,_,_⟩:=Star.row 0 Z rfl hx20
 refine L_ixO (R:=(OR.frz RP.str)) (tb:=0) 0 rfl Tryz.underlying43 Tryz.sizeOf9 rfl hv31 (by first | rfl | simp) rfl hx20 ?_
 obtain ⟨cs32,hr32,hat32⟩:=Star.eltF 0 Z rfl hv31 hx20
 obtain rfl : _ = [_]:=hr32
 refine L_ld rfl Tryz.isAgg9 rfl (At.cell hat32 (j:=0) rfl) (L_sneq (s:=x20) (s':=(⟨#[62,61]⟩ : ByteArray)) rfl rfl rfl (L_pick (v:=Bo b25) rfl rfl (congrArg Value.bool (so hb25)) (nn (rj hR26 ⟨rfl,rfl,rfl,rfl,rfl,Z⟩))))
 refine mI rfl (L_gtr rfl rfl rfl (L_pick (v:=Bo (((decide ((x10.length : Int) < 2)) || ((Int.tmod (x10.length : Int) 2) != 0)) || (decide ((x10.length : Int) > 26)))) rfl rfl (or_f hc28 rfl) (mB rfl (L_split (d:=25) (b:=(((decide ((x10.length : Int) < 2)) || ((Int.tmod (x10.length : Int) 2) != 0)) || (decide ((x10.length : Int) > 26)))) rfl (fun hc34=>?_) (fun hc34=>?_)))))
 rw [ite_t hc34] at hb25
 refine ps rfl (ps rfl (ps rfl (ps rfl (ps rfl (ps rfl (L_pick (v:=Bo b25) rfl rfl (congrArg Value.bool (so hb25)) (nn (rj hR26 ⟨rfl,rfl,rfl,rfl,rfl,Z⟩))))))))
 rw [ite_f hc34] at hb25
 obtain ⟨x20,hx20,hb25⟩:=bind_some hb25
 refine mV r18_0 rfl (mI rfl (L_sub rfl rfl rfl ?_))
 obtain ⟨g35,cap_g35,hv36,_,_⟩:=Star.row 0 Z rfl hx20
 refine L_ixO (R:=(OR.frz RP.str)) (tb:=0) 0 rfl Tryz.underlying43 Tryz.sizeOf9 rfl hv36 (by first | rfl | simp) rfl hx20 ?_
 obtain ⟨cs37,hr37,hat37⟩:=Star.eltF 0 Z rfl hv36 hx20
 obtain rfl : _ = [_]:=hr37
 refine L_ld rfl Tryz.isAgg9 rfl (At.cell hat37 (j:=0) rfl) (L_sneq (s:=x20) (s':=(⟨#[62,61]⟩ : ByteArray)) rfl rfl rfl (L_pick (v:=Bo b25) rfl rfl (congrArg Value.bool (so hb25)) (nn (rj hR26 ⟨rfl,rfl,rfl,rfl,rfl,Z⟩))))
 refine mI rfl (L_rem (m:=(x10.length : Int)) (n:=2) rfl rfl rfl (by decide) (L_neq rfl rfl rfl (L_pick (v:=Bo ((decide ((x10.length : Int) < 2)) || ((Int.tmod (x10.length : Int) 2) != 0))) rfl rfl (or_f hc27 rfl) (mB rfl (L_split (d:=21) (b:=((decide ((x10.length : Int) < 2)) || ((Int.tmod (x10.length : Int) 2) != 0))) rfl (fun hc39=>?_) (fun hc39=>?_))))))
 refine ps rfl (ps rfl (L_pick (v:=Bo (((decide ((x10.length : Int) < 2)) || ((Int.tmod (x10.length : Int) 2) != 0)) || (decide ((x10.length : Int) > 26)))) rfl rfl (or_t hc39) (mB rfl (L_split (d:=25) (b:=(((decide ((x10.length : Int) < 2)) || ((Int.tmod (x10.length : Int) 2) != 0)) || (decide ((x10.length : Int) > 26)))) rfl (fun hc40=>?_) (fun hc40=>?_)))))
 rw [ite_t hc40] at hb25
 refine ps rfl (ps rfl (ps rfl (ps rfl (ps rfl (ps rfl (L_pick (v:=Bo b25) rfl rfl (congrArg Value.bool (so hb25)) (nn (rj hR26 ⟨rfl,rfl,rfl,rfl,rfl,Z⟩))))))))
 rw [ite_f hc40] at hb25
 obtain ⟨x20,hx20,hb25⟩:=bind_some hb25
 refine mV r18_0 rfl (mI rfl (L_sub rfl rfl rfl ?_))
 obtain ⟨g41,cap_g41,hv42,_,_⟩:=Star.row 0 Z rfl hx20
 refine L_ixO (R:=(OR.frz RP.str)) (tb:=0) 0 rfl Tryz.underlying43 Tryz.sizeOf9 rfl hv42 (by first | rfl | simp) rfl hx20 ?_
 obtain ⟨cs43,hr43,hat43⟩:=Star.eltF 0 Z rfl hv42 hx20
 obtain rfl : _ = [_]:=hr43
 refine L_ld rfl Tryz.isAgg9 rfl (At.cell hat43 (j:=0) rfl) (L_sneq (s:=x20) (s':=(⟨#[62,61]⟩ : ByteArray)) rfl rfl rfl (L_pick (v:=Bo b25) rfl rfl (congrArg Value.bool (so hb25)) (nn (rj hR26 ⟨rfl,rfl,rfl,rfl,rfl,Z⟩))))
 refine mI rfl (L_gtr rfl rfl rfl (L_pick (v:=Bo (((decide ((x10.length : Int) < 2)) || ((Int.tmod (x10.length : Int) 2) != 0)) || (decide ((x10.length : Int) > 26)))) rfl rfl (or_f hc39 rfl) (mB rfl (L_split (d:=25) (b:=(((decide ((x10.length : Int) < 2)) || ((Int.tmod (x10.length : Int) 2) != 0)) || (decide ((x10.length : Int) > 26)))) rfl (fun hc45=>?_) (fun hc45=>?_)))))
 rw [ite_t hc45] at hb25
 refine ps rfl (ps rfl (ps rfl (ps rfl (ps rfl (ps rfl (L_pick (v:=Bo b25) rfl rfl (congrArg Value.bool (so hb25)) (nn (rj hR26 ⟨rfl,rfl,rfl,rfl,rfl,Z⟩))))))))
 rw [ite_f hc45] at hb25
 obtain ⟨x20,hx20,hb25⟩:=bind_some hb25
 refine mV r18_0 rfl (mI rfl (L_sub rfl rfl rfl ?_))
 obtain ⟨g46,cap_g46,hv47,_,_⟩:=Star.row 0 Z rfl hx20
 refine L_ixO (R:=(OR.frz RP.str)) (tb:=0) 0 rfl Tryz.underlying43 Tryz.sizeOf9 rfl hv47 (by first | rfl | simp) rfl hx20 ?_
 obtain ⟨cs48,hr48,hat48⟩:=Star.eltF 0 Z rfl hv47 hx20
 obtain rfl : _ = [_]:=hr48
 refine L_ld rfl Tryz.isAgg9 rfl (At.cell hat48 (j:=0) rfl) (L_sneq (s:=x20) (s':=(⟨#[62,61]⟩ : ByteArray)) rfl rfl rfl (L_pick (v:=Bo b25) rfl rfl (congrArg Value.bool (so hb25)) (nn (rj hR26 ⟨rfl,rfl,rfl,rfl,rfl,Z⟩))))
 intro f w_ hR
 obtain ⟨sf0,sf2,sf4,sf5,sf32,Z⟩:=rk hR26 hR
 refine W_cond (b:=b25) sf32 (fun hc50=>?_) (fun hc50=>?_)
 have hF:=(ite_t hc50).symm.trans hF
 refine sq (L_bld rfl (parts0 ) (bld_37_  ) (L_staB (vs:=#[S0,I 0]) (cs2:=#[S0,I 0]) 1 rfl Tryz.sizeOf37 sf2 rfl rfl (ones_cons rfl (ones_cons rfl ones_nil)) Z rfl (by show 0 + 2≤2; decide) rfl (fun w52 Z=>aB rfl (nn (W_ret (retG2 (v1:=.agg #[S0,I 0]) (v2:=Bo false) Tryz.results27 (resV_agg Tryz.isAgg37 Tryz.sizeOf37 sf2 (Star.blkAt 0 Z rfl) rfl) rfl ?_))))))
 obtain rfl:=so hF
 have Z:=Star.addNil (R:=(OR.frz rTerm)) (e:=58) Z
 exact ⟨S0,rfl,(Star.keepN 1 Z)⟩
 have hF:=(ite_f hc50).symm.trans hF
 refine W_skip (sq (L_bld rfl (parts0 ) (bld_37_  ) (L_al (cs:=#[S0,I 0]) rfl Tryz.zeroValue37 rfl Z (fun g57 w58 Z=>L_staB (vs:=#[S0,I 0]) (cs2:=#[S0,I 0]) 0 rfl Tryz.sizeOf37 rfl rfl rfl (ones_cons rfl (ones_cons rfl ones_nil)) Z rfl (by show 0 + 2≤2; decide) rfl (fun w59 Z=>nq (sq (aI rfl (nn ?_))))))))
 obtain ⟨j66,hL66,hF⟩:=bind_some hF
 obtain ⟨R66,hR66⟩:=exR fun f w_=>∃ i_61 : Int,∃ g57_0_62 : List Term,∃ H64 : FH,∃ v62_g57_0 : Value,j66 = .nx (i_61,g57_0_62)∧Le H H64∧f 0 = .string text∧f 2 = Pt g3∧f 4 = r18_0∧f 5 = I (x10.length : Int)∧f 6 = Pt g57∧Star H64 w_ ([oF 9 RP.str r18_0 x10,oF 58 rTerm v62_g57_0 g57_0_62,box g57 37 #[v62_g57_0,I 0],box g3 37 #[S0,I 0]])
 refine W_join R66 ?_ ?_
 refine W_block ?_
 obtain ⟨I66,hI66⟩:=exI fun n f w_=>∃ i_61 : Int,∃ g57_0_62 : List Term,∃ H64 : FH,∃ v62_g57_0 : Value,whileL (s_ParseConstraint_b1 x10) n (i_61,g57_0_62) = some j66∧Le H H64∧f 0 = .string text∧f 2 = Pt g3∧f 4 = r18_0∧f 5 = I (x10.length : Int)∧f 6 = Pt g57∧f 7 = I i_61∧Star H64 w_ ([oF 9 RP.str r18_0 x10,oF 58 rTerm v62_g57_0 g57_0_62,box g57 37 #[v62_g57_0,I 0],box g3 37 #[S0,I 0]])
 have Z:=Star.addNil (R:=(OR.frz rTerm)) (e:=58) Z
 have Z:=Z.gets [3,2,2,3] rfl
 refine W_loop I66 (n:=fu) ?_ ?_
 exact ij hI66 ⟨0,[],H,S0,hL66,(Le.refl _),sf0,sf2,sf4,sf5,rfl,rfl,Z⟩
 intro n66 f w_ hI
 obtain ⟨i_61,g57_0_62,H64,v62_g57_0,hL66,l65,sf0,sf2,sf4,sf5,sf6,sf7,Z⟩:=ik hI66 hI
 rcases n66 with _ | n66
 exact (while_zero hL66).elim
 obtain ⟨o66,hB66,hL66⟩:=while_succ hL66
 rw [s_ParseConstraint_b1] at hB66
 refine W_seq (sq (mF sf7 rfl (L_add rfl rfl rfl (mF sf5 rfl (L_lss rfl rfl rfl (nn (W_cond (b:=decide ((i64 (i_61 + 2)) < (x10.length : Int))) rfl (fun hc68=>?_) (fun hc68=>?_))))))))
 have hB66:=(ite_t hc68).symm.trans hB66
 refine W_skip (W_seq (W_block (W_seq ?_)))
 obtain ⟨x69,hx69,hB66⟩:=bind_some hB66
 obtain ⟨x79,hx79,hB66⟩:=bind_some hB66
 refine W_region (mF sf4 rfl (mF sf7 rfl ?_))
 obtain ⟨g81,cap_g81,hv82,_,_⟩:=Star.row 0 Z rfl hx69
 refine L_ixO (R:=(OR.frz RP.str)) (tb:=0) 0 rfl Tryz.underlying43 Tryz.sizeOf9 rfl hv82 (by first | rfl | simp) rfl hx69 ?_
 obtain ⟨cs83,hr83,hat83⟩:=Star.eltF 0 Z rfl hv82 hx69
 obtain rfl : _ = [_]:=hr83
 refine L_ld rfl Tryz.isAgg9 rfl (At.cell hat83 (j:=0) rfl) ?_
 obtain ⟨H85b,l86,s87,z88,k89⟩:=Z.borrow
 refine L_call rfl Tryz.call47 (ops1 rfl) (s_l17Num_c (s:=x69) s87 hx79) ?_
 rintro _ w90 ⟨rfl,Z⟩
 have Z:=k89 Z c0
 refine mV (.tuple #[I x79.1,Bo x79.2]) rfl (L_ex (v:=I x79.1) rfl rfl rfl (L_ex (v:=Bo x79.2) rfl rfl rfl (aI rfl (aB rfl (nn ?_)))))
 obtain ⟨x91,hx91,hB66⟩:=bind_some hB66
 obtain ⟨x99,hx99,hB66⟩:=bind_some hB66
 obtain ⟨x104,hx104,hB66⟩:=bind_some hB66
 refine W_drawS 11 [isV (Pt g57),isV (v62_g57_0),isV (I x79.1),isV (r18_0),isV (I i_61),isV (I (i64 (i_61 + 1))),isV (.pointer (some ⟨g81,Int.toNat (i64 (i_61 + 1)) * 1,none⟩)),isV (.string x91),isV (I x99),isV (.agg #[I x79.1,I x99]),anyF] [oF 9 RP.str r18_0 x10,oF 58 rTerm v62_g57_0 g57_0_62,box g57 37 #[v62_g57_0,I 0],box g3 37 #[S0,I 0]] [.made 10 59 (fun v_=>oF 58 rTerm v_ ([({ coef:=x79.1,lit:=x99 } : Term)])) none] ([]) [([],[]),([],[]),([],[]),([],[]),([],[]),([],[]),([],[]),([],[]),([],[]),([],[]),([],[0])] (S:=[(some 10,[59],none)]) Tryz_mix (by kernel_rfl) rfl (by kernel_rfl) (amF_cons (mono_V _) (amF_cons (mono_V _) (amF_cons (mono_V _) (amF_cons (mono_V _) (amF_cons (mono_V _) (amF_cons (mono_V _) (amF_cons (mono_V _) (amF_cons (mono_V _) (amF_cons (mono_V _) (amF_cons (mono_V _) (amF_cons (mono_any) amF_nil))))))))))) Z ?_ (fun f w_ H109 hS109 hE109 hT109 Z=>?_)
 refine opsS_cons (fun f w_ _ _ s _ _ Z=>fA 0 fa_37_0 ((s 6 rfl).trans sf6) rfl (nO rfl rfl Z)) (opsS_cons (fun f w_ _ _ _ _ p Z=>ldB 2 Z Tryz.isAgg35 (p 0 49 rfl rfl) rfl rfl (nO rfl rfl Z)) (opsS_cons (fun f w_ _ _ s _ _ Z=>mF ((s 8 rfl).trans rfl) rfl (nO rfl rfl Z)) (opsS_cons (fun f w_ _ _ s _ _ Z=>mF ((s 4 rfl).trans sf4) rfl (nO rfl rfl Z)) (opsS_cons (fun f w_ _ _ s _ _ Z=>mF ((s 7 rfl).trans sf7) rfl (nO rfl rfl Z)) (opsS_cons (fun f w_ _ _ _ _ p Z=>L_add rfl (p 4 53 rfl rfl) rfl (nO rfl rfl Z)) (opsS_cons (fun f w_ _ _ _ _ p Z=>L_ixO (R:=(OR.frz RP.str)) (tb:=0) 0 rfl Tryz.underlying43 Tryz.sizeOf9 (p 3 52 rfl rfl) hv82 (by first | rfl | simp) (p 5 54 rfl rfl) hx91 (nO rfl rfl Z)) (opsS_cons ?_ ?_)))))))
 intro f w_ H109 X109 hS109 hE109 hP109 Z
 obtain ⟨cs121,hr121,hat121⟩:=Star.eltF 0 Z rfl hv82 hx91
 obtain rfl : _ = [_]:=hr121
 refine L_ld rfl Tryz.isAgg9 (hP109 6 55 rfl rfl) (At.cell hat121 (j:=0) rfl) (L_nil ⟨rfl,_,_,rfl,Le.refl _,fun _ _=>rfl,Z⟩)
 refine opsS_cons ?_ ?_
 intro f w_ H109 X109 hS109 hE109 hP109 Z
 obtain ⟨H123b,l124,s125,z126,k127⟩:=Z.borrow
 refine L_call rfl Tryz.call48 (ops1 (hP109 7 56 rfl rfl)) (s_l1Literal_c (s:=x91) s125 hx99) ?_
 rintro _ w128 ⟨rfl,Z⟩
 have Z:=k127 Z c0
 exact L_nil ⟨rfl,_,_,rfl,Le.refl _,fun _ _=>rfl,Z⟩
 refine opsS_cons (fun f w_ _ _ _ _ p Z=>L_bld rfl (parts2 (p 2 51 rfl rfl) (p 8 57 rfl rfl)) (bld_58_0_1 (I x79.1) (I x99) rfl rfl) (nO rfl rfl Z)) (opsS_cons ?_ ?_)
 intro f w_ H109 X109 hS109 hE109 hP109 Z
 refine L_bs rfl (parts1 (hP109 9 58 rfl rfl)) (bs_35_1_2 (I x79.1) (I x99) ) Z (fun g129 w130 Z=>?_)
 have Z:=Star.addF (r:=rTerm) (cs:=[I x79.1,I x99]) (x:=({ coef:=x79.1,lit:=x99 } : Term)) Z (rTerm_iff.2 rfl)
 have Z:=Star.mkRow (R:=(OR.frz rTerm)) [([I x79.1,I x99],({ coef:=x79.1,lit:=x99 } : Term))] [({ coef:=x79.1,lit:=x99 } : Term)] 1 Z rfl rfl rfl (by decide)
 have Z:=Z.gets [4,4,4,4] rfl
 exact L_nil ⟨rfl,_,_,rfl,Le.refl _,fun _ _=>trivial,Z⟩
 exact opsS_nil
 have Z : Star H109 w_ ([oF 9 RP.str r18_0 x10,oF 58 rTerm v62_g57_0 g57_0_62,box g57 37 #[v62_g57_0,I 0],box g3 37 #[S0,I 0],oF 58 rTerm (f 59) ([({ coef:=x79.1,lit:=x99 } : Term)])]):=Z
 have Z:=Z.gets [4,2] rfl
 refine L_appM (v:=v62_g57_0) (u:=(f 59)) rfl et_35 (hT109 1 50 rfl rfl) rfl Z hx104 (fun v133 w134 Z=>fA 0 fa_37_0 ((hS109 6 rfl).trans sf6) rfl (L_stB (v:=v133) (cs2:=#[v133,I 0]) 2 rfl Tryz.sizeOf35 rfl rfl (one_len (Star.len 0 Z rfl)) Z rfl rfl rfl (fun w136 Z=>nn (W_region (mF ((hS109 7 rfl).trans sf7) rfl (L_add rfl rfl rfl (aI rfl (nn ?_))))))))
 obtain rfl:=so hB66
 have Z:=Z.gets [3,1,2,3] rfl
 show ∃ m,m < _∧I66 m _ _
 refine ⟨n66,Nat.lt_succ_self _,?_⟩
 exact ij hI66 ⟨i64 (i_61 + 2),x104,H109,v133,hL66,(Le.trans l65 hE109),((hS109 0 rfl).trans sf0),((hS109 2 rfl).trans sf2),((hS109 4 rfl).trans sf4),((hS109 5 rfl).trans sf5),((hS109 6 rfl).trans sf6),rfl,Z⟩
 have hB66:=(ite_f hc68).symm.trans hB66
 refine W_exit ?_
 obtain rfl:=so hB66
 obtain rfl:=so hL66
 exact rj hR66 ⟨i_61,g57_0_62,H64,v62_g57_0,rfl,l65,sf0,sf2,sf4,sf5,sf6,Z⟩
 intro f w_ hR
 obtain ⟨i_61,g57_0_62,H64,v62_g57_0,rfl,l65,sf0,sf2,sf4,sf5,sf6,Z⟩:=rk hR66 hR
 refine W_seq ?_
 obtain ⟨x137,hx137,hF⟩:=bind_some hF
 obtain ⟨x147,hx147,hF⟩:=bind_some hF
 refine W_region (mF sf4 rfl (mF sf5 rfl (L_sub rfl rfl rfl ?_)))
 obtain ⟨g150,cap_g150,hv151,_,_⟩:=Star.row 0 Z rfl hx137
 refine L_ixO (R:=(OR.frz RP.str)) (tb:=0) 0 rfl Tryz.underlying43 Tryz.sizeOf9 rfl hv151 (by first | rfl | simp) rfl hx137 ?_
 obtain ⟨cs152,hr152,hat152⟩:=Star.eltF 0 Z rfl hv151 hx137
 obtain rfl : _ = [_]:=hr152
 refine L_ld rfl Tryz.isAgg9 rfl (At.cell hat152 (j:=0) rfl) ?_
 obtain ⟨H154b,l155,s156,z157,k158⟩:=Z.borrow
 refine L_call rfl Tryz.call47 (ops1 rfl) (s_l17Num_c (s:=x137) s156 hx147) ?_
 rintro _ w159 ⟨rfl,Z⟩
 have Z:=k158 Z c0
 refine mV (.tuple #[I x147.1,Bo x147.2]) rfl (L_ex (v:=I x147.1) rfl rfl rfl (L_ex (v:=Bo x147.2) rfl rfl rfl (fA 1 fa_37_1 sf6 rfl (L_stB (v:=I x147.1) (cs2:=#[v62_g57_0,I x147.1]) 2 rfl Tryz.sizeOf3 rfl rfl rfl Z rfl rfl rfl (fun w160 Z=>L_nil (W_seq (W_seq ?_)))))))
 obtain ⟨x167,hx167,hF⟩:=bind_some hF
 refine W_region (L_lda (cs:=[v62_g57_0,I x147.1]) rfl Tryz.isAgg37 Tryz.sizeOf37 sf6 (At.sub0 (Blk.at (Star.blkAt 0 Z rfl)) 0 2) rfl ?_)
 obtain ⟨H169b,l170,s171,z172,k173⟩:=Z.borrow
 have hb174 : (rS 58 rTerm).rel H169b [v62_g57_0] g57_0_62:=fz_own 2 z172 rfl
 refine L_call rfl Tryz.call49 (ops1 rfl) (s_FormatConstraint_c (c:=({ terms:=g57_0_62,bound:=x147.1 } : Con)) s171 hb174 hx167) ?_
 rintro _ w175 ⟨rfl,Z⟩
 have Z:=k173 Z c0
 refine mF sf0 rfl (L_sneq (s:=x167) (s':=text) rfl rfl rfl (nn (W_cond (b:=(!(ByteArray.toList x167 == ByteArray.toList text))) rfl (fun hc176=>?_) (fun hc176=>?_))))
 have hF:=(ite_t hc176).symm.trans hF
 refine sq (L_bld rfl (parts0 ) (bld_37_  ) (L_staB (vs:=#[S0,I 0]) (cs2:=#[S0,I 0]) 3 rfl Tryz.sizeOf37 sf2 rfl rfl (ones_cons rfl (ones_cons rfl ones_nil)) Z rfl (by show 0 + 2≤2; decide) rfl (fun w178 Z=>aB rfl (nn (W_ret (retG2 (v1:=.agg #[S0,I 0]) (v2:=Bo false) Tryz.results27 (resV_agg Tryz.isAgg37 Tryz.sizeOf37 sf2 (Star.blkAt 0 Z rfl) rfl) rfl ?_))))))
 obtain rfl:=so hF
 have Z:=Star.addNil (R:=(OR.frz rTerm)) (e:=58) Z
 exact ⟨S0,rfl,(Star.down (Star.keepN 1 Z) l65 (co closed_term c0))⟩
 have hF:=(ite_f hc176).symm.trans hF
 refine W_skip (sq (L_lda (cs:=[v62_g57_0,I x147.1]) rfl Tryz.isAgg37 Tryz.sizeOf37 sf6 (At.sub0 (Blk.at (Star.blkAt 0 Z rfl)) 0 2) rfl (L_staB (vs:=#[v62_g57_0,I x147.1]) (cs2:=#[v62_g57_0,I x147.1]) 3 rfl Tryz.sizeOf37 sf2 rfl rfl (ones_cons (one_len (Star.len 2 Z rfl)) (ones_cons rfl ones_nil)) Z rfl (by show 0 + 2≤2; decide) rfl (fun w181 Z=>aB rfl (nn (W_ret (retG2 (v1:=.agg #[v62_g57_0,I x147.1]) (v2:=Bo true) Tryz.results27 (resV_agg Tryz.isAgg37 Tryz.sizeOf37 sf2 (Star.blkAt 0 Z rfl) rfl) rfl ?_)))))))
 obtain rfl:=so hF
 have Z:=Z.get 3 rfl
 exact ⟨v62_g57_0,rfl,(Star.down (Star.keepN 1 Z) l65 (co closed_term c0))⟩
theorem s_ParseProblem_c {fu : Nat} {text : ByteArray} {H : FH} {w : World} (Z : Star H w []) {r : (List Con) × Bool} (hF : s_ParseProblem fu text = some r) :
 C Tryz.prog 12 #[.string text] w fun v w'=>∃ (u1 : Value),v = .tuple #[u1,Bo r.2]∧Star H w' [oS 37 (oCon 58) u1 r.1]:=by
 unfold s_ParseProblem at hF
 refine C_enter Tryz.func12 rfl Tryz.ntmps12 rfl (sq (aV S0 rfl (aB rfl (nq ?_))))
 obtain ⟨x6,hx6,hF⟩:=bind_some hF
 refine W_region (mV (.string text) rfl ?_)
 obtain ⟨H9b,l10,s11,z12,k13⟩:=Z.borrow
 refine L_call rfl Tryz.call26 (ops2 rfl rfl) (s_l17Cut_c (s:=text) (c:=10) s11 hx6) ?_
 rintro r14_0 w14 ⟨_,rfl,Z⟩
 have Z:=k13 Z (co closed_str c0)
 refine aV r14_0 rfl (ns (L_bs rfl parts0 (bs_23_0  ) Z (fun g19 w20 Z=>?_)))
 have Z:=Star.mkRow (R:=(OR.frz (rCon 58))) [] [] 0 Z rfl rfl rfl (by decide)
 refine aV (Sl g19 0 0) rfl (nq (W_seq ?_))
 obtain ⟨b27,hb27,hF⟩:=bind_some hF
 obtain ⟨R28,hR28⟩:=exR fun f w_=>f 4 = r14_0∧f 5 = (Sl g19 0 0)∧f 23 = Bo b27∧Star H w_ ([oF 9 RP.str r14_0 x6,oF 37 (rCon 58) (Sl g19 0 0) ([])])
 refine W_join R28 ?_ ?_
 refine W_region (mV r14_0 rfl (L_len rfl Tryz.underlying43 rfl (Star.len 1 Z rfl) (L_gtr rfl rfl rfl (mB rfl (L_split (d:=15) (b:=decide ((x6.length : Int) > 401)) rfl (fun hc29=>?_) (fun hc29=>?_))))))
 rw [ite_t hc29] at hb27
 refine ps rfl (ps rfl (ps rfl (ps rfl (ps rfl (ps rfl (ps rfl (L_pick (v:=Bo b27) rfl rfl (congrArg Value.bool (so hb27)) (nn ?_))))))))
 have Z:=Z.get 1 rfl
 exact rj hR28 ⟨rfl,rfl,rfl,Z⟩
 rw [ite_f hc29] at hb27
 obtain ⟨x22,hx22,hb27⟩:=bind_some hb27
 refine mV r14_0 rfl (mV r14_0 rfl (L_len rfl Tryz.underlying43 rfl (Star.len 1 Z rfl) (L_sub rfl rfl rfl ?_)))
 obtain ⟨g30,cap_g30,hv31,_,_⟩:=Star.row 1 Z rfl hx22
 refine L_ixO (R:=(OR.frz RP.str)) (tb:=0) 0 rfl Tryz.underlying43 Tryz.sizeOf9 rfl hv31 (by first | rfl | simp) rfl hx22 ?_
 obtain ⟨cs32,hr32,hat32⟩:=Star.eltF 1 Z rfl hv31 hx22
 obtain rfl : _ = [_]:=hr32
 refine L_ld rfl Tryz.isAgg9 rfl (At.cell hat32 (j:=0) rfl) (L_sneq (s:=x22) (s':=(⟨#[]⟩ : ByteArray)) rfl rfl rfl (L_pick (v:=Bo b27) rfl rfl (congrArg Value.bool (so hb27)) (nn ?_)))
 have Z:=Z.get 1 rfl
 exact rj hR28 ⟨rfl,rfl,rfl,Z⟩
 intro f w_ hR
 obtain ⟨sf4,sf5,sf23,Z⟩:=rk hR28 hR
 refine W_cond (b:=b27) sf23 (fun hc34=>?_) (fun hc34=>?_)
 have hF:=(ite_t hc34).symm.trans hF
 refine sq (mF sf5 rfl (aV (Sl g19 0 0) rfl (aB rfl (nn (W_ret (retG2 (v1:=(Sl g19 0 0)) (v2:=Bo false) Tryz.results12 rfl rfl ?_))))))
 obtain rfl:=so hF
 have Z:=Z.get 1 rfl
 have Z:=Star.recast (R:=(OR.frz (rCon 58))) (R':=(oCon 58)) rfl Z
 exact ⟨(Sl g19 0 0),rfl,(Star.keepN 1 Z)⟩
 have hF:=(ite_f hc34).symm.trans hF
 refine W_skip (W_seq (sq (aI rfl (nn ?_))))
 obtain ⟨j41,hL41,hF⟩:=bind_some hF
 obtain ⟨R41,hR41⟩:=exR fun f w_=>∃ out_38 : List Con,∃ i_40 : Int,∃ v38_out : Value,j41 = .nx (out_38,i_40)∧f 5 = v38_out∧Star H w_ ([oS 37 (oCon 58) v38_out out_38])
 refine W_join R41 ?_ ?_
 refine W_block ?_
 obtain ⟨I41,hI41⟩:=exI fun n f w_=>∃ out_38 : List Con,∃ i_40 : Int,∃ v38_out : Value,whileL (s_ParseProblem_b1 fu x6) n (out_38,i_40) = some j41∧f 4 = r14_0∧f 5 = v38_out∧f 6 = I i_40∧Star H w_ ([oF 9 RP.str r14_0 x6,oS 37 (oCon 58) v38_out out_38])
 have Z:=Z.get 1 rfl
 have Z:=Star.recast (R:=(OR.frz (rCon 58))) (R':=(oCon 58)) rfl Z
 have Z:=Z.get 1 rfl
 refine W_loop I41 (n:=fu) ?_ ?_
 exact ij hI41 ⟨[],0,(Sl g19 0 0),hL41,sf4,sf5,rfl,Z⟩
 intro n41 f w_ hI
 obtain ⟨out_38,i_40,v38_out,hL41,sf4,sf5,sf6,Z⟩:=ik hI41 hI
 rcases n41 with _ | n41
 exact (while_zero hL41).elim
 obtain ⟨o41,hB41,hL41⟩:=while_succ hL41
 rw [s_ParseProblem_b1] at hB41
 refine W_seq (sq (mF sf6 rfl (L_add rfl rfl rfl (mF sf4 rfl (L_len rfl Tryz.underlying43 rfl (Star.len 0 Z rfl) (L_lss rfl rfl rfl (nn (W_cond (b:=decide ((i64 (i_40 + 1)) < (x6.length : Int))) rfl (fun hc42=>?_) (fun hc42=>?_)))))))))
 have hB41:=(ite_t hc42).symm.trans hB41
 refine W_skip (W_seq (W_block (W_seq ?_)))
 obtain ⟨x43,hx43,hB41⟩:=bind_some hB41
 obtain ⟨x53,hx53,hB41⟩:=bind_some hB41
 refine W_region (mF sf4 rfl (mF sf6 rfl ?_))
 obtain ⟨g59,cap_g59,hv60,_,_⟩:=Star.row 0 Z rfl hx43
 refine L_ixO (R:=(OR.frz RP.str)) (tb:=0) 0 rfl Tryz.underlying43 Tryz.sizeOf9 rfl hv60 (by first | rfl | simp) rfl hx43 ?_
 obtain ⟨cs61,hr61,hat61⟩:=Star.eltF 0 Z rfl hv60 hx43
 obtain rfl : _ = [_]:=hr61
 refine L_ld rfl Tryz.isAgg9 rfl (At.cell hat61 (j:=0) rfl) ?_
 obtain ⟨H63b,l64,s65,z66,k67⟩:=Z.borrow
 refine L_call rfl Tryz.call27 (ops1 rfl) (s_ParseConstraint_c (text:=x43) s65 hx53) ?_
 rintro _ w68 ⟨r68_0,rfl,Z⟩
 have Z:=k67 Z (co closed_term c0)
 refine mV (.tuple #[.agg #[r68_0,I x53.1.bound],Bo x53.2]) rfl (L_ex (v:=.agg #[r68_0,I x53.1.bound]) rfl rfl rfl (L_ex (v:=Bo x53.2) rfl rfl rfl (L_al (cs:=#[S0,I 0]) rfl Tryz.zeroValue37 rfl Z (fun g70 w71 Z=>L_staB (vs:=#[r68_0,I x53.1.bound]) (cs2:=#[r68_0,I x53.1.bound]) 0 rfl Tryz.sizeOf37 rfl rfl rfl (ones_cons (one_len (Star.len 1 Z rfl)) (ones_cons rfl ones_nil)) Z rfl (by show 0 + 2≤2; decide) rfl (fun w72 Z=>aB rfl (nq (sq (mB rfl (L_not_ rfl rfl (nn (W_cond (b:=(!x53.2)) rfl (fun hc73=>?_) (fun hc73=>?_))))))))))))
 have hB41:=(ite_t hc73).symm.trans hB41
 refine sq (L_bs rfl parts0 (bs_23_0  ) Z (fun g77 w78 Z=>?_))
 have Z:=Star.mkRow (R:=(OR.frz (rCon 58))) [] [] 0 Z rfl rfl rfl (by decide)
 refine aV (Sl g77 0 0) rfl (aB rfl (nn (W_ret (retG2 (v1:=(Sl g77 0 0)) (v2:=Bo false) Tryz.results12 rfl rfl ?_))))
 obtain rfl:=so hB41
 obtain rfl:=so hL41
 obtain rfl:=so hF
 have Z:=Star.recast (R:=(OR.frz (rCon 58))) (R':=(oCon 58)) rfl Z
 exact ⟨(Sl g77 0 0),rfl,(Star.keepN 1 Z)⟩
 have hB41:=(ite_f hc73).symm.trans hB41
 refine W_skip ?_
 obtain ⟨x83,hx83,hB41⟩:=bind_some hB41
 refine W_region (mF sf5 rfl (L_lda (cs:=[r68_0,I x53.1.bound]) rfl Tryz.isAgg37 Tryz.sizeOf37 rfl (At.sub0 (Blk.at (Star.blkAt 0 Z rfl)) 0 2) rfl (L_bs rfl (parts1 rfl) (bs_23_1_2 (r68_0) (I x53.1.bound) ) Z (fun g87 w88 Z=>?_))))
 have Z:=Z.get 2 rfl
 have Z:=oCon_close (c:=x53.1) Z
 have Z:=Star.mkRow (R:=(oCon 58)) [([r68_0,I x53.1.bound],x53.1)] [x53.1] 1 Z rfl rfl rfl (by decide)
 have Z:=Z.get 3 rfl
 refine L_appM (v:=v38_out) (u:=(Sl g87 1 1)) rfl et_23 rfl rfl Z hx83 (fun v90 w91 Z=>aV v90 rfl (nn (W_region (mF sf6 rfl (L_add rfl rfl rfl (aI rfl (nn ?_)))))))
 obtain rfl:=so hB41
 have Z:=Z.get 2 rfl
 show ∃ m,m < _∧I41 m _ _
 refine ⟨n41,Nat.lt_succ_self _,?_⟩
 exact ij hI41 ⟨x83,i64 (i_40 + 1),v90,hL41,sf4,rfl,rfl,(Star.keepN 2 Z)⟩
 have hB41:=(ite_f hc42).symm.trans hB41
 refine W_exit ?_
 obtain rfl:=so hB41
 obtain rfl:=so hL41
 have Z:=Z.get 1 rfl
 exact rj hR41 ⟨out_38,i_40,v38_out,rfl,sf5,(Star.keepN 1 Z)⟩
 intro f w_ hR
 obtain ⟨out_38,i_40,v38_out,rfl,sf5,Z⟩:=rk hR41 hR
 refine sq (mF sf5 rfl (aV v38_out rfl (aB rfl (nn (W_ret (retG2 (v1:=v38_out) (v2:=Bo true) Tryz.results12 rfl rfl ?_))))))
 obtain rfl:=so hF
 exact ⟨v38_out,rfl,Z⟩
theorem l_FnProblemText_c {fu : Nat} {code : List UInt8} {more : List UInt8} {v0 : Value} {v1 : Value} {H : FH} {w : World} (Z : Star H w []) (h0 : (rS 5 RP.u8).rel H [v0] code) (h1 : (rS 5 RP.u8).rel H [v1] more) {r : Bool} (hF : l_FnProblemText fu code more = some r) :
 C Tryz.prog 3 #[v0,v1] w fun v w'=>v = Bo r∧Star H w' []:=by
 unfold l_FnProblemText at hF
 refine C_enter Tryz.func3 rfl Tryz.ntmps3 rfl (sq (aB rfl (nq (W_seq ?_))))
 obtain ⟨R1,hR1⟩:=exR fun f w_=>f 0 = v0∧f 1 = v1∧f 21 = Bo ((decide ((code.length : Int) > 1048576)) || (decide ((more.length : Int) > 1048576)))∧Star H w_ ([])
 refine W_join R1 ?_ ?_
 refine W_region (mV v0 rfl (L_len rfl Tryz.underlying22 rfl (slice_len h0) (L_gtr rfl rfl rfl (mB rfl (L_split (d:=17) (b:=decide ((code.length : Int) > 1048576)) rfl (fun hc2=>?_) (fun hc2=>?_))))))
 refine ps rfl (ps rfl (ps rfl (L_pick (v:=Bo ((decide ((code.length : Int) > 1048576)) || (decide ((more.length : Int) > 1048576)))) rfl rfl (or_t hc2) (nn (rj hR1 ⟨rfl,rfl,rfl,Z⟩)))))
 refine mV v1 rfl (L_len rfl Tryz.underlying22 rfl (slice_len h1) (L_gtr rfl rfl rfl (L_pick (v:=Bo ((decide ((code.length : Int) > 1048576)) || (decide ((more.length : Int) > 1048576)))) rfl rfl (or_f hc2 rfl) (nn (rj hR1 ⟨rfl,rfl,rfl,Z⟩)))))
 intro f w_ hR
 obtain ⟨sf0,sf1,sf21,Z⟩:=rk hR1 hR
 refine W_cond (b:=((decide ((code.length : Int) > 1048576)) || (decide ((more.length : Int) > 1048576)))) sf21 (fun hc3=>?_) (fun hc3=>?_)
 have hF:=(ite_t hc3).symm.trans hF
 refine sq (aB rfl (nn (W_ret (retG1 (v1:=Bo true) Tryz.results3 rfl ?_))))
 obtain rfl:=so hF
 exact ⟨rfl,Z⟩
 have hF:=(ite_f hc3).symm.trans hF
 refine W_skip (W_seq ?_)
 obtain ⟨x4,hx4,hF⟩:=bind_some hF
 refine W_region (mF sf0 rfl (L_call rfl Tryz.call4 (ops1 rfl) (s_DrawFormatProblem_c (code:=code) Z h0 hx4) ?_))
 rintro r7_0 w7 ⟨H7,l7,_,rfl,Z⟩
 refine aV r7_0 rfl (nq ?_)
 obtain ⟨x15,hx15,hF⟩:=bind_some hF
 refine W_region (mV r7_0 rfl ?_)
 obtain ⟨H17b,l18,s19,z20,k21⟩:=Z.borrow
 have hb22 : (rS 37 (rCon 58)).rel H17b [r7_0] x4:=fz_own 0 z20 rfl
 refine L_call rfl Tryz.call5 (ops1 rfl) (i_FormatProblem_c (list:=x4) s19 hb22 hx15) ?_
 rintro _ w23 ⟨rfl,Z⟩
 have Z:=k21 Z c0
 refine aV (.string x15) rfl (nq ?_)
 obtain ⟨x29,hx29,hF⟩:=bind_some hF
 refine W_region (mV (.string x15) rfl ?_)
 obtain ⟨H32b,l33,s34,z35,k36⟩:=Z.borrow
 refine L_call rfl Tryz.call6 (ops1 rfl) (i_ParseProblem_c (text:=x15) s34 hx29) ?_
 rintro _ w37 ⟨r37_0,rfl,Z⟩
 have Z:=k36 Z (co closed_oCon c0)
 refine mV (.tuple #[r37_0,Bo x29.2]) rfl (L_ex (v:=r37_0) rfl rfl rfl (L_ex (v:=Bo x29.2) rfl rfl rfl (aV r37_0 rfl (aB rfl (nq (W_seq ?_))))))
 obtain ⟨x45,hx45,hF⟩:=bind_some hF
 obtain ⟨b63,hb63,hF⟩:=bind_some hF
 obtain ⟨b82,hb82,hF⟩:=bind_some hF
 obtain ⟨R83,hR83⟩:=exR fun f w_=>f 1 = v1∧f 55 = Bo b82∧Star H7 w_ ([])
 refine W_join R83 ?_ ?_
 refine W_region (mV (.string x15) rfl (mV r7_0 rfl ?_))
 obtain ⟨H84b,l85,s86,z87,k88⟩:=Z.borrow
 have hb89 : (rS 37 (rCon 58)).rel H84b [r7_0] x4:=fz_own 1 z87 rfl
 refine L_call rfl Tryz.call7 (ops1 rfl) (s_FormatProblem_c (list:=x4) s86 hb89 hx45) ?_
 rintro _ w90 ⟨rfl,Z⟩
 have Z:=k88 Z c0
 refine L_sneq (s:=x15) (s':=x45) rfl rfl rfl (mB rfl (L_split (d:=35) (b:=(!(ByteArray.toList x15 == ByteArray.toList x45))) rfl (fun hc91=>?_) (fun hc91=>?_)))
 rw [ite_t hc91] at hb63
 refine ps rfl (ps rfl (ps rfl (ps rfl (ps rfl (L_pick (v:=Bo b63) rfl rfl (congrArg Value.bool (so hb63)) (mB rfl (L_split (d:=42) (b:=b63) rfl (fun hc92=>?_) (fun hc92=>?_))))))))
 refine ps rfl (ps rfl (L_pick (v:=Bo (b63 || (!x29.2))) rfl rfl (or_t hc92) (mB rfl (L_split (d:=46) (b:=(b63 || (!x29.2))) rfl (fun hc93=>?_) (fun hc93=>?_)))))
 rw [ite_t hc93] at hb82
 refine ps rfl (ps rfl (ps rfl (ps rfl (ps rfl (ps rfl (ps rfl (ps rfl (L_pick (v:=Bo b82) rfl rfl (congrArg Value.bool (so hb82)) (nn (rj hR83 ⟨sf1,rfl,(Star.keepN 0 Z)⟩))))))))))
 rw [ite_f hc93] at hb82
 obtain ⟨x70,hx70,hb82⟩:=bind_some hb82
 obtain ⟨b81,hb81,hb82⟩:=bind_some hb82
 refine mV r7_0 rfl ?_
 obtain ⟨H94b,l95,s96,z97,k98⟩:=Z.borrow
 have hb99 : (rS 37 (rCon 58)).rel H94b [r7_0] x4:=fz_own 1 z97 rfl
 refine L_call rfl Tryz.call8 (ops1 rfl) (i_ProblemValid_c (list:=x4) s96 hb99 hx70) ?_
 rintro _ w100 ⟨rfl,Z⟩
 have Z:=k98 Z c0
 refine mB rfl (L_split (d:=49) (b:=x70) rfl (fun hc101=>?_) (fun hc101=>?_))
 rw [ite_t hc101] at hb81
 obtain ⟨x79,hx79,hb81⟩:=bind_some hb81
 refine mV r37_0 rfl (mV r7_0 rfl ?_)
 obtain ⟨H102b,l103,s104,z105,k106⟩:=Z.borrow
 have hb107 : (rS 37 (rCon 58)).rel H102b [r37_0] x29.1:=fz_own 0 z105 rfl
 have hb108 : (rS 37 (rCon 58)).rel H102b [r7_0] x4:=fz_own 1 z105 rfl
 refine L_call rfl Tryz.call10 (ops2 rfl rfl) (l_cpProblem_c (a:=x29.1) (b:=x4) s104 hb107 hb108 hx79) ?_
 rintro _ w109 ⟨rfl,Z⟩
 have Z:=k106 Z c0
 refine L_not_ rfl rfl (L_pick (v:=Bo b81) rfl rfl (congrArg Value.bool (so hb81)) (L_pick (v:=Bo b82) rfl rfl (congrArg Value.bool (so hb82)) (nn (rj hR83 ⟨sf1,rfl,(Star.keepN 0 Z)⟩))))
 rw [ite_f hc101] at hb81
 refine ps rfl (ps rfl (ps rfl (ps rfl (L_pick (v:=Bo b81) rfl rfl (congrArg Value.bool (so hb81)) (L_pick (v:=Bo b82) rfl rfl (congrArg Value.bool (so hb82)) (nn (rj hR83 ⟨sf1,rfl,(Star.keepN 0 Z)⟩)))))))
 refine mB rfl (L_not_ rfl rfl (L_pick (v:=Bo (b63 || (!x29.2))) rfl rfl (or_f hc92 rfl) (mB rfl (L_split (d:=46) (b:=(b63 || (!x29.2))) rfl (fun hc110=>?_) (fun hc110=>?_)))))
 rw [ite_t hc110] at hb82
 refine ps rfl (ps rfl (ps rfl (ps rfl (ps rfl (ps rfl (ps rfl (ps rfl (L_pick (v:=Bo b82) rfl rfl (congrArg Value.bool (so hb82)) (nn (rj hR83 ⟨sf1,rfl,(Star.keepN 0 Z)⟩))))))))))
 rw [ite_f hc110] at hb82
 obtain ⟨x70,hx70,hb82⟩:=bind_some hb82
 obtain ⟨b81,hb81,hb82⟩:=bind_some hb82
 refine mV r7_0 rfl ?_
 obtain ⟨H111b,l112,s113,z114,k115⟩:=Z.borrow
 have hb116 : (rS 37 (rCon 58)).rel H111b [r7_0] x4:=fz_own 1 z114 rfl
 refine L_call rfl Tryz.call8 (ops1 rfl) (i_ProblemValid_c (list:=x4) s113 hb116 hx70) ?_
 rintro _ w117 ⟨rfl,Z⟩
 have Z:=k115 Z c0
 refine mB rfl (L_split (d:=49) (b:=x70) rfl (fun hc118=>?_) (fun hc118=>?_))
 rw [ite_t hc118] at hb81
 obtain ⟨x79,hx79,hb81⟩:=bind_some hb81
 refine mV r37_0 rfl (mV r7_0 rfl ?_)
 obtain ⟨H119b,l120,s121,z122,k123⟩:=Z.borrow
 have hb124 : (rS 37 (rCon 58)).rel H119b [r37_0] x29.1:=fz_own 0 z122 rfl
 have hb125 : (rS 37 (rCon 58)).rel H119b [r7_0] x4:=fz_own 1 z122 rfl
 refine L_call rfl Tryz.call10 (ops2 rfl rfl) (l_cpProblem_c (a:=x29.1) (b:=x4) s121 hb124 hb125 hx79) ?_
 rintro _ w126 ⟨rfl,Z⟩
 have Z:=k123 Z c0
 refine L_not_ rfl rfl (L_pick (v:=Bo b81) rfl rfl (congrArg Value.bool (so hb81)) (L_pick (v:=Bo b82) rfl rfl (congrArg Value.bool (so hb82)) (nn (rj hR83 ⟨sf1,rfl,(Star.keepN 0 Z)⟩))))
 rw [ite_f hc118] at hb81
 refine ps rfl (ps rfl (ps rfl (ps rfl (L_pick (v:=Bo b81) rfl rfl (congrArg Value.bool (so hb81)) (L_pick (v:=Bo b82) rfl rfl (congrArg Value.bool (so hb82)) (nn (rj hR83 ⟨sf1,rfl,(Star.keepN 0 Z)⟩)))))))
 rw [ite_f hc91] at hb63
 obtain ⟨x53,hx53,hb63⟩:=bind_some hb63
 obtain ⟨x61,hx61,hb63⟩:=bind_some hb63
 refine mV r7_0 rfl ?_
 obtain ⟨H127b,l128,s129,z130,k131⟩:=Z.borrow
 have hb132 : (rS 37 (rCon 58)).rel H127b [r7_0] x4:=fz_own 1 z130 rfl
 refine L_call rfl Tryz.call8 (ops1 rfl) (i_ProblemValid_c (list:=x4) s129 hb132 hx53) ?_
 rintro _ w133 ⟨rfl,Z⟩
 have Z:=k131 Z c0
 refine mV r7_0 rfl ?_
 obtain ⟨H134b,l135,s136,z137,k138⟩:=Z.borrow
 have hb139 : (rS 37 (rCon 58)).rel H134b [r7_0] x4:=fz_own 1 z137 rfl
 refine L_call rfl Tryz.call9 (ops1 rfl) (s_ProblemValid_c (list:=x4) s136 hb139 hx61) ?_
 rintro _ w140 ⟨rfl,Z⟩
 have Z:=k138 Z c0
 refine L_bneq (b:=x53) (c:=x61) rfl Tryz.underlying4 rfl rfl (L_pick (v:=Bo b63) rfl rfl (congrArg Value.bool (so hb63)) (mB rfl (L_split (d:=42) (b:=b63) rfl (fun hc141=>?_) (fun hc141=>?_))))
 refine ps rfl (ps rfl (L_pick (v:=Bo (b63 || (!x29.2))) rfl rfl (or_t hc141) (mB rfl (L_split (d:=46) (b:=(b63 || (!x29.2))) rfl (fun hc142=>?_) (fun hc142=>?_)))))
 rw [ite_t hc142] at hb82
 refine ps rfl (ps rfl (ps rfl (ps rfl (ps rfl (ps rfl (ps rfl (ps rfl (L_pick (v:=Bo b82) rfl rfl (congrArg Value.bool (so hb82)) (nn (rj hR83 ⟨sf1,rfl,(Star.keepN 0 Z)⟩))))))))))
 rw [ite_f hc142] at hb82
 obtain ⟨x70,hx70,hb82⟩:=bind_some hb82
 obtain ⟨b81,hb81,hb82⟩:=bind_some hb82
 refine mV r7_0 rfl ?_
 obtain ⟨H143b,l144,s145,z146,k147⟩:=Z.borrow
 have hb148 : (rS 37 (rCon 58)).rel H143b [r7_0] x4:=fz_own 1 z146 rfl
 refine L_call rfl Tryz.call8 (ops1 rfl) (i_ProblemValid_c (list:=x4) s145 hb148 hx70) ?_
 rintro _ w149 ⟨rfl,Z⟩
 have Z:=k147 Z c0
 refine mB rfl (L_split (d:=49) (b:=x70) rfl (fun hc150=>?_) (fun hc150=>?_))
 rw [ite_t hc150] at hb81
 obtain ⟨x79,hx79,hb81⟩:=bind_some hb81
 refine mV r37_0 rfl (mV r7_0 rfl ?_)
 obtain ⟨H151b,l152,s153,z154,k155⟩:=Z.borrow
 have hb156 : (rS 37 (rCon 58)).rel H151b [r37_0] x29.1:=fz_own 0 z154 rfl
 have hb157 : (rS 37 (rCon 58)).rel H151b [r7_0] x4:=fz_own 1 z154 rfl
 refine L_call rfl Tryz.call10 (ops2 rfl rfl) (l_cpProblem_c (a:=x29.1) (b:=x4) s153 hb156 hb157 hx79) ?_
 rintro _ w158 ⟨rfl,Z⟩
 have Z:=k155 Z c0
 refine L_not_ rfl rfl (L_pick (v:=Bo b81) rfl rfl (congrArg Value.bool (so hb81)) (L_pick (v:=Bo b82) rfl rfl (congrArg Value.bool (so hb82)) (nn (rj hR83 ⟨sf1,rfl,(Star.keepN 0 Z)⟩))))
 rw [ite_f hc150] at hb81
 refine ps rfl (ps rfl (ps rfl (ps rfl (L_pick (v:=Bo b81) rfl rfl (congrArg Value.bool (so hb81)) (L_pick (v:=Bo b82) rfl rfl (congrArg Value.bool (so hb82)) (nn (rj hR83 ⟨sf1,rfl,(Star.keepN 0 Z)⟩)))))))
 refine mB rfl (L_not_ rfl rfl (L_pick (v:=Bo (b63 || (!x29.2))) rfl rfl (or_f hc141 rfl) (mB rfl (L_split (d:=46) (b:=(b63 || (!x29.2))) rfl (fun hc159=>?_) (fun hc159=>?_)))))
 rw [ite_t hc159] at hb82
 refine ps rfl (ps rfl (ps rfl (ps rfl (ps rfl (ps rfl (ps rfl (ps rfl (L_pick (v:=Bo b82) rfl rfl (congrArg Value.bool (so hb82)) (nn (rj hR83 ⟨sf1,rfl,(Star.keepN 0 Z)⟩))))))))))
 rw [ite_f hc159] at hb82
 obtain ⟨x70,hx70,hb82⟩:=bind_some hb82
 obtain ⟨b81,hb81,hb82⟩:=bind_some hb82
 refine mV r7_0 rfl ?_
 obtain ⟨H160b,l161,s162,z163,k164⟩:=Z.borrow
 have hb165 : (rS 37 (rCon 58)).rel H160b [r7_0] x4:=fz_own 1 z163 rfl
 refine L_call rfl Tryz.call8 (ops1 rfl) (i_ProblemValid_c (list:=x4) s162 hb165 hx70) ?_
 rintro _ w166 ⟨rfl,Z⟩
 have Z:=k164 Z c0
 refine mB rfl (L_split (d:=49) (b:=x70) rfl (fun hc167=>?_) (fun hc167=>?_))
 rw [ite_t hc167] at hb81
 obtain ⟨x79,hx79,hb81⟩:=bind_some hb81
 refine mV r37_0 rfl (mV r7_0 rfl ?_)
 obtain ⟨H168b,l169,s170,z171,k172⟩:=Z.borrow
 have hb173 : (rS 37 (rCon 58)).rel H168b [r37_0] x29.1:=fz_own 0 z171 rfl
 have hb174 : (rS 37 (rCon 58)).rel H168b [r7_0] x4:=fz_own 1 z171 rfl
 refine L_call rfl Tryz.call10 (ops2 rfl rfl) (l_cpProblem_c (a:=x29.1) (b:=x4) s170 hb173 hb174 hx79) ?_
 rintro _ w175 ⟨rfl,Z⟩
 have Z:=k172 Z c0
 refine L_not_ rfl rfl (L_pick (v:=Bo b81) rfl rfl (congrArg Value.bool (so hb81)) (L_pick (v:=Bo b82) rfl rfl (congrArg Value.bool (so hb82)) (nn (rj hR83 ⟨sf1,rfl,(Star.keepN 0 Z)⟩))))
 rw [ite_f hc167] at hb81
 refine ps rfl (ps rfl (ps rfl (ps rfl (L_pick (v:=Bo b81) rfl rfl (congrArg Value.bool (so hb81)) (L_pick (v:=Bo b82) rfl rfl (congrArg Value.bool (so hb82)) (nn (rj hR83 ⟨sf1,rfl,(Star.keepN 0 Z)⟩)))))))
 intro f w_ hR
 obtain ⟨sf1,sf55,Z⟩:=rk hR83 hR
 refine W_cond (b:=b82) sf55 (fun hc176=>?_) (fun hc176=>?_)
 have hF:=(ite_t hc176).symm.trans hF
 refine sq (aB rfl (nn (W_ret (retG1 (v1:=Bo false) Tryz.results3 rfl ?_))))
 obtain rfl:=so hF
 exact ⟨rfl,(Star.down Z l7 c0)⟩
 have hF:=(ite_f hc176).symm.trans hF
 refine W_skip (W_seq ?_)
 obtain ⟨x182,hx182,hF⟩:=bind_some hF
 refine W_region (mF sf1 rfl ?_)
 obtain ⟨H184b,l185,s186,z187,k188⟩:=Z.borrow
 refine L_call rfl Tryz.call11 (ops1 rfl) (s_DrawParseProblem_c (code:=more) s186 (RP.mono _ h1 (Le.trans l7 l185)) hx182) ?_
 rintro _ w189 ⟨rfl,Z⟩
 have Z:=k188 Z c0
 refine aV (.string x182) rfl (nq ?_)
 obtain ⟨x195,hx195,hF⟩:=bind_some hF
 refine W_region (mV (.string x182) rfl ?_)
 obtain ⟨H198b,l199,s200,z201,k202⟩:=Z.borrow
 refine L_call rfl Tryz.call6 (ops1 rfl) (i_ParseProblem_c (text:=x182) s200 hx195) ?_
 rintro _ w203 ⟨r203_0,rfl,Z⟩
 have Z:=k202 Z (co closed_oCon c0)
 refine mV (.tuple #[r203_0,Bo x195.2]) rfl (L_ex (v:=r203_0) rfl rfl rfl (L_ex (v:=Bo x195.2) rfl rfl rfl (aV r203_0 rfl (aB rfl (nq ?_)))))
 obtain ⟨x210,hx210,hF⟩:=bind_some hF
 refine W_region (mV (.string x182) rfl ?_)
 obtain ⟨H213b,l214,s215,z216,k217⟩:=Z.borrow
 refine L_call rfl Tryz.call12 (ops1 rfl) (s_ParseProblem_c (text:=x182) s215 hx210) ?_
 rintro _ w218 ⟨r218_0,rfl,Z⟩
 have Z:=k217 Z (co closed_oCon c0)
 refine mV (.tuple #[r218_0,Bo x210.2]) rfl (L_ex (v:=r218_0) rfl rfl rfl (L_ex (v:=Bo x210.2) rfl rfl rfl (aV r218_0 rfl (aB rfl (nq ?_)))))
 obtain ⟨b229,hb229,hF⟩:=bind_some hF
 obtain ⟨b239,hb239,hF⟩:=bind_some hF
 obtain ⟨R240,hR240⟩:=exR fun f w_=>f 4 = Bo b239∧Star H7 w_ ([])
 refine W_join R240 ?_ ?_
 refine W_region (mB rfl (mB rfl (L_beql (b:=x195.2) (c:=x210.2) rfl Tryz.underlying4 rfl rfl (mB rfl (L_split (d:=71) (b:=(x195.2 == x210.2)) rfl (fun hc241=>?_) (fun hc241=>?_))))))
 rw [ite_t hc241] at hb229
 obtain ⟨x227,hx227,hb229⟩:=bind_some hb229
 refine mV r203_0 rfl (mV r218_0 rfl ?_)
 obtain ⟨H242b,l243,s244,z245,k246⟩:=Z.borrow
 have hb247 : (rS 37 (rCon 58)).rel H242b [r203_0] x195.1:=fz_own 1 z245 rfl
 have hb248 : (rS 37 (rCon 58)).rel H242b [r218_0] x210.1:=fz_own 0 z245 rfl
 refine L_call rfl Tryz.call10 (ops2 rfl rfl) (l_cpProblem_c (a:=x195.1) (b:=x210.1) s244 hb247 hb248 hx227) ?_
 rintro _ w249 ⟨rfl,Z⟩
 have Z:=k246 Z c0
 refine L_pick (v:=Bo b229) rfl rfl (congrArg Value.bool (so hb229)) (mB rfl (L_split (d:=76) (b:=b229) rfl (fun hc250=>?_) (fun hc250=>?_)))
 rw [ite_t hc250] at hb239
 obtain ⟨b238,hb238,hb239⟩:=bind_some hb239
 refine mB rfl (L_not_ rfl rfl (mB rfl (L_split (d:=79) (b:=(!x195.2)) rfl (fun hc251=>?_) (fun hc251=>?_))))
 rw [ite_t hc251] at hb238
 refine ps rfl (ps rfl (ps rfl (ps rfl (L_pick (v:=Bo b238) rfl rfl (congrArg Value.bool (so hb238)) (L_pick (v:=Bo b239) rfl rfl (congrArg Value.bool (so hb239)) (aB rfl (nn (rj hR240 ⟨rfl,(Star.keepN 0 Z)⟩))))))))
 rw [ite_f hc251] at hb238
 obtain ⟨x236,hx236,hb238⟩:=bind_some hb238
 refine mV r203_0 rfl ?_
 obtain ⟨H252b,l253,s254,z255,k256⟩:=Z.borrow
 have hb257 : (rS 37 (rCon 58)).rel H252b [r203_0] x195.1:=fz_own 1 z255 rfl
 refine L_call rfl Tryz.call5 (ops1 rfl) (i_FormatProblem_c (list:=x195.1) s254 hb257 hx236) ?_
 rintro _ w258 ⟨rfl,Z⟩
 have Z:=k256 Z c0
 refine mV (.string x182) rfl (L_seql (s:=x236) (s':=x182) rfl rfl rfl (L_pick (v:=Bo b238) rfl rfl (congrArg Value.bool (so hb238)) (L_pick (v:=Bo b239) rfl rfl (congrArg Value.bool (so hb239)) (aB rfl (nn (rj hR240 ⟨rfl,(Star.keepN 0 Z)⟩))))))
 rw [ite_f hc250] at hb239
 refine ps rfl (ps rfl (ps rfl (ps rfl (ps rfl (ps rfl (ps rfl (ps rfl (L_pick (v:=Bo b239) rfl rfl (congrArg Value.bool (so hb239)) (aB rfl (nn (rj hR240 ⟨rfl,(Star.keepN 0 Z)⟩)))))))))))
 rw [ite_f hc241] at hb229
 refine ps rfl (ps rfl (ps rfl (L_pick (v:=Bo b229) rfl rfl (congrArg Value.bool (so hb229)) (mB rfl (L_split (d:=76) (b:=b229) rfl (fun hc259=>?_) (fun hc259=>?_))))))
 rw [ite_t hc259] at hb239
 obtain ⟨b238,hb238,hb239⟩:=bind_some hb239
 refine mB rfl (L_not_ rfl rfl (mB rfl (L_split (d:=79) (b:=(!x195.2)) rfl (fun hc260=>?_) (fun hc260=>?_))))
 rw [ite_t hc260] at hb238
 refine ps rfl (ps rfl (ps rfl (ps rfl (L_pick (v:=Bo b238) rfl rfl (congrArg Value.bool (so hb238)) (L_pick (v:=Bo b239) rfl rfl (congrArg Value.bool (so hb239)) (aB rfl (nn (rj hR240 ⟨rfl,(Star.keepN 0 Z)⟩))))))))
 rw [ite_f hc260] at hb238
 obtain ⟨x236,hx236,hb238⟩:=bind_some hb238
 refine mV r203_0 rfl ?_
 obtain ⟨H261b,l262,s263,z264,k265⟩:=Z.borrow
 have hb266 : (rS 37 (rCon 58)).rel H261b [r203_0] x195.1:=fz_own 1 z264 rfl
 refine L_call rfl Tryz.call5 (ops1 rfl) (i_FormatProblem_c (list:=x195.1) s263 hb266 hx236) ?_
 rintro _ w267 ⟨rfl,Z⟩
 have Z:=k265 Z c0
 refine mV (.string x182) rfl (L_seql (s:=x236) (s':=x182) rfl rfl rfl (L_pick (v:=Bo b238) rfl rfl (congrArg Value.bool (so hb238)) (L_pick (v:=Bo b239) rfl rfl (congrArg Value.bool (so hb239)) (aB rfl (nn (rj hR240 ⟨rfl,(Star.keepN 0 Z)⟩))))))
 rw [ite_f hc259] at hb239
 refine ps rfl (ps rfl (ps rfl (ps rfl (ps rfl (ps rfl (ps rfl (ps rfl (L_pick (v:=Bo b239) rfl rfl (congrArg Value.bool (so hb239)) (aB rfl (nn (rj hR240 ⟨rfl,(Star.keepN 0 Z)⟩)))))))))))
 intro f w_ hR
 obtain ⟨sf4,Z⟩:=rk hR240 hR
 refine W_ret (retG1 (v1:=Bo b239) Tryz.results3 sf4 ?_)
 obtain rfl:=so hF
 exact ⟨rfl,(Star.down Z l7 c0)⟩
end Go.Proofs.YtnjcihhfoocdcaaGreatDoor

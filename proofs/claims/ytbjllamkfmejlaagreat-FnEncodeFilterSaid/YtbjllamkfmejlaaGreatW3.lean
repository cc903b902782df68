/- Part of a proof by program: W3. -/
import Derived.Test.YtbjllamkfmejlaaGreatD1
import Derived.Test.YtbjllamkfmejlaaGreatW2
namespace Go.Proofs.YtbjllamkfmejlaaGreat
open Go Go.E Go.L Go.RowKit
set_option linter.unusedVariables false
set_option linter.unusedSimpArgs false
set_option maxRecDepth 100000
theorem s_ClauseOf_c {lits : List Int} {v0 : Value} {H : FH} {w : World} (Z : Star H w []) (h0 : (rS 3 RP.int).rel H [v0] lits) {r : Con × Bool} (hF : s_ClauseOf lits = some r) :
 C Tryz.prog 107 #[v0] w fun v w'=>∃ (u1 : Value),v = .tuple #[.agg #[u1,I r.1.bound],Bo r.2]∧Star H w' [oF 122 rTerm u1 r.1.terms]:=by
 unfold s_ClauseOf at hF
 refine C_enter Tryz.func107 rfl Tryz.ntmps107 rfl (sq (L_al (cs:=#[S0,I 0]) rfl Tryz.zeroValue73 rfl Z (fun g3 w4 Z=>aB rfl (nq ?_))))
 obtain ⟨x5,hx5,hF⟩:=bind_some hF
 refine W_region (L_mk (R:=(OR.frz RP.int)) (z0:=0) (zc:=[I 0]) rfl et_23 (by kernel_rfl) (fun _ _=>⟨rfl,rfl⟩) rfl rfl hx5 Z (fun v9 w10 Z=>aV v9 rfl (nq (sq (mV v0 rfl (L_len rfl Tryz.underlying23 rfl (slice_len h0) (L_gtr rfl rfl rfl (nn (W_cond (b:=decide ((lits.length : Int) > 40)) rfl (fun hc12=>?_) (fun hc12=>?_))))))))))
 have hF:=(ite_t hc12).symm.trans hF
 refine sq (L_bld rfl (parts0 ) (bld_73_  ) (L_staB (vs:=#[S0,I 0]) (cs2:=#[S0,I 0]) 1 rfl Tryz.sizeOf73 rfl rfl rfl (ones_cons rfl (ones_cons rfl ones_nil)) Z rfl (by show 0 + 2≤2; decide) rfl (fun w14 Z=>aB rfl (nn (W_ret (retG2 (v1:=.agg #[S0,I 0]) (v2:=Bo false) Tryz.results107 (resV_agg Tryz.isAgg73 Tryz.sizeOf73 rfl (Star.blkAt 0 Z rfl) rfl) rfl ?_))))))
 obtain rfl:=so hF
 have Z:=Star.addNil (R:=(OR.frz rTerm)) (e:=122) Z
 exact ⟨S0,rfl,(Star.keepN 1 Z)⟩
 have hF:=(ite_f hc12).symm.trans hF
 refine W_skip (W_seq (sq (aI rfl (nn ?_))))
 have hlen20 : List.length lits≤9223372036854775807:=len_le (slice_len h0)
 obtain ⟨j20,hL20,hF⟩:=bind_some hF
 obtain ⟨R20,hR20⟩:=exR fun f w_=>∃ seen_17 : List Int,∃ H18 : FH,j20 = .nx seen_17∧Le H H18∧f 2 = Pt g3∧f 4 = v9∧Star H18 w_ ([oF 3 RP.int v9 seen_17,box g3 73 #[S0,I 0]])
 refine W_join R20 ?_ ?_
 refine W_block ?_
 obtain ⟨I20,hI20⟩:=exI fun n f w_=>∃ i_16 : Nat,∃ suf20 : List Int,∃ seen_17 : List Int,∃ H18 : FH,n = suf20.length∧List.drop i_16 lits = suf20∧i_16 + suf20.length = lits.length∧rangeL s_ClauseOf_b1 suf20 i_16 seen_17 = some j20∧Le H H18∧f 0 = v0∧f 2 = Pt g3∧f 4 = v9∧f 5 = I i_16∧Star H18 w_ ([oF 3 RP.int v9 seen_17,box g3 73 #[S0,I 0]])
 refine W_loop I20 (n:=lits.length) ?_ ?_
 exact ij hI20 ⟨0,lits,x5,H,rfl,rfl,Nat.zero_add _,hL20,(Le.refl _),rfl,rfl,rfl,rfl,Z⟩
 intro n20 f w_ hI
 obtain ⟨i_16,suf20,seen_17,H18,rfl,hd20,hl20,hL20,l19,sf0,sf2,sf4,sf5,Z⟩:=ik hI20 hI
 refine W_seq (sq (mF sf5 rfl (mF sf0 rfl (L_len rfl Tryz.underlying23 rfl (slice_len (RP.mono _ h0 l19)) (L_lss rfl rfl rfl (nn (W_cond (b:=decide ((i_16 : Int) < (lits.length : Int))) rfl (fun hc21=>?_) (fun hc21=>?_))))))))
 have hlt20:=of_decide_eq_true hc21
 rcases suf20 with _ | ⟨x_20,rest20⟩
 exact absurd hlt20 (by simp at hl20; omega)
 obtain ⟨o20,hB20,hL20⟩:=range_cons hL20
 rw [s_ClauseOf_b1] at hB20
 have hix20:=drop_idx hd20
 refine W_skip (W_seq (W_block (W_seq (W_seq ?_))))
 obtain ⟨x31,hx31,hB20⟩:=bind_some hB20
 refine W_region (mF sf0 rfl (mF sf5 rfl (L_ix (r:=RP.int) rfl Tryz.underlying23 Tryz.sizeOf3 rfl (RP.mono _ h0 l19) rfl hix20 (fun g33 o34 cs_g33 hrk_hat35 hat35=>?_))))
 obtain rfl : _ = [_]:=hrk_hat35
 refine L_ld rfl Tryz.isAgg3 rfl (At.cell (AtH.at hat35 Z.sub) (j:=0) rfl) ?_
 obtain ⟨H37b,l38,s39,z40,k41⟩:=Z.borrow
 refine L_call rfl Tryz.call151 (ops1 rfl) (s_l1Lit_c (n_:=x_20) s39 hx31) ?_
 rintro _ w42 ⟨rfl,Z⟩
 have Z:=k41 Z c0
 refine L_not_ rfl rfl (nn (W_cond (b:=(!x31)) rfl (fun hc43=>?_) (fun hc43=>?_)))
 have hB20:=(ite_t hc43).symm.trans hB20
 refine sq (L_bld rfl (parts0 ) (bld_73_  ) (L_staB (vs:=#[S0,I 0]) (cs2:=#[S0,I 0]) 1 rfl Tryz.sizeOf73 sf2 rfl rfl (ones_cons rfl (ones_cons rfl ones_nil)) Z rfl (by show 0 + 2≤2; decide) rfl (fun w45 Z=>aB rfl (nn (W_ret (retG2 (v1:=.agg #[S0,I 0]) (v2:=Bo false) Tryz.results107 (resV_agg Tryz.isAgg73 Tryz.sizeOf73 sf2 (Star.blkAt 0 Z rfl) rfl) rfl ?_))))))
 obtain rfl:=so hB20
 obtain rfl:=so hL20
 obtain rfl:=so hF
 have Z:=Star.addNil (R:=(OR.frz rTerm)) (e:=122) Z
 exact ⟨S0,rfl,(Star.down (Star.keepN 1 Z) l19 (co closed_term c0))⟩
 have hB20:=(ite_f hc43).symm.trans hB20
 refine W_skip (W_seq ?_)
 obtain ⟨x56,hx56,hB20⟩:=bind_some hB20
 refine W_region (mF sf0 rfl (mF sf5 rfl (L_ix (r:=RP.int) rfl Tryz.underlying23 Tryz.sizeOf3 rfl (RP.mono _ h0 l19) rfl hix20 (fun g58 o59 cs_g58 hrk_hat60 hat60=>?_))))
 obtain rfl : _ = [_]:=hrk_hat60
 refine L_ld rfl Tryz.isAgg3 rfl (At.cell (AtH.at hat60 Z.sub) (j:=0) rfl) ?_
 obtain ⟨H62b,l63,s64,z65,k66⟩:=Z.borrow
 refine L_call rfl Tryz.call152 (ops1 rfl) (s_l1Abs_c (n_:=x_20) s64 hx56) ?_
 rintro _ w67 ⟨rfl,Z⟩
 have Z:=k66 Z c0
 refine aI rfl (nq (W_seq ?_))
 obtain ⟨x68,hx68,hB20⟩:=bind_some hB20
 obtain ⟨g78,cap_g78,hv79,_,_⟩:=Star.row 0 Z rfl hx68
 refine W_drawS 9 [isV (v9),isV (I x56),isV (.pointer (some ⟨g78,Int.toNat x56 * 1,none⟩)),isV (I x68),isV (v0),isV (I i_16),isEl RP.int x_20 0,isV (I x_20),isV (I (i64 (-x_20)))] [oF 3 RP.int v9 seen_17,box g3 73 #[S0,I 0]] [] ([]) [([],[]),([],[]),([],[]),([],[]),([],[]),([],[]),([],[]),([],[]),([],[])] (S:=[]) Tryz_mix (by kernel_rfl) rfl (by kernel_rfl) (amF_cons (mono_V _) (amF_cons (mono_V _) (amF_cons (mono_V _) (amF_cons (mono_V _) (amF_cons (mono_V _) (amF_cons (mono_V _) (amF_cons (mono_el _ _ _) (amF_cons (mono_V _) (amF_cons (mono_V _) amF_nil))))))))) Z ?_ (fun f w_ H77 hS77 hE77 hT77 Z=>?_)
 refine opsS_cons (fun f w_ _ _ s _ _ Z=>mF ((s 4 rfl).trans sf4) rfl (nO rfl rfl Z)) (opsS_cons (fun f w_ _ _ s _ _ Z=>mF ((s 6 rfl).trans rfl) rfl (nO rfl rfl Z)) (opsS_cons (fun f w_ _ _ _ _ p Z=>L_ixO (R:=(OR.frz RP.int)) (tb:=0) 0 rfl Tryz.underlying23 Tryz.sizeOf3 (p 0 32 rfl rfl) hv79 (by first | rfl | simp) (p 1 33 rfl rfl) hx68 (nO rfl rfl Z)) (opsS_cons ?_ ?_)))
 intro f w_ H77 X77 hS77 hE77 hP77 Z
 obtain ⟨cs86,hr86,hat86⟩:=Star.eltF 0 Z rfl hv79 hx68
 obtain rfl : _ = [_]:=hr86
 refine L_ld rfl Tryz.isAgg3 (hP77 2 34 rfl rfl) (At.cell hat86 (j:=0) rfl) (L_nil ⟨rfl,_,_,rfl,Le.refl _,fun _ _=>rfl,Z⟩)
 refine opsS_cons (fun f w_ _ _ s _ _ Z=>mF ((s 0 rfl).trans sf0) rfl (nO rfl rfl Z)) (opsS_cons (fun f w_ _ _ s _ _ Z=>mF ((s 5 rfl).trans sf5) rfl (nO rfl rfl Z)) (opsS_cons ?_ ?_))
 intro f w_ H77 X77 hS77 hE77 hP77 Z
 refine L_ix (r:=RP.int) rfl Tryz.underlying23 Tryz.sizeOf3 (hP77 4 36 rfl rfl) (RP.mono _ h0 (Le.trans l19 hE77)) (hP77 5 37 rfl rfl) hix20 (fun g88 o89 cs_g88 hrk_hat90 hat90=>?_)
 obtain rfl : _ = [_]:=hrk_hat90
 exact L_nil ⟨rfl,_,_,rfl,Le.refl _,fun _ _=>⟨_,_,_,rfl,rfl,hat90⟩,Z⟩
 refine opsS_cons ?_ ?_
 intro f w_ H77 X77 hS77 hE77 hP77 Z
 obtain ⟨g92,o92,cs92,hv92,hrk_hat92,hat92⟩:=(hP77 6 38 rfl rfl)
 obtain rfl : _ = [_]:=hrk_hat92
 refine L_ld rfl Tryz.isAgg3 hv92 (At.cell (AtH.at hat92 Z.sub) (j:=0) rfl) (L_nil ⟨rfl,_,_,rfl,Le.refl _,fun _ _=>rfl,Z⟩)
 refine opsS_cons (fun f w_ _ _ _ _ p Z=>L_neg rfl (p 7 39 rfl rfl) (nO rfl rfl Z)) (opsS_nil)
 refine L_eql rfl (hT77 3 35 rfl rfl) (hT77 8 40 rfl rfl) (nn (W_cond (b:=(x68 == (i64 (-x_20)))) rfl (fun hc94=>?_) (fun hc94=>?_)))
 have hB20:=(ite_t hc94).symm.trans hB20
 refine sq (L_bld rfl (parts0 ) (bld_73_  ) (L_staB (vs:=#[S0,I 0]) (cs2:=#[S0,I 0]) 1 rfl Tryz.sizeOf73 ((hS77 2 rfl).trans sf2) rfl rfl (ones_cons rfl (ones_cons rfl ones_nil)) Z rfl (by show 0 + 2≤2; decide) rfl (fun w96 Z=>aB rfl (nn (W_ret (retG2 (v1:=.agg #[S0,I 0]) (v2:=Bo false) Tryz.results107 (resV_agg Tryz.isAgg73 Tryz.sizeOf73 ((hS77 2 rfl).trans sf2) (Star.blkAt 0 Z rfl) rfl) rfl ?_))))))
 obtain rfl:=so hB20
 obtain rfl:=so hL20
 obtain rfl:=so hF
 have Z:=Star.addNil (R:=(OR.frz rTerm)) (e:=122) Z
 exact ⟨S0,rfl,(Star.down (Star.keepN 1 Z) (Le.trans l19 hE77) (co closed_term c0))⟩
 have hB20:=(ite_f hc94).symm.trans hB20
 refine W_skip (W_region (mF ((hS77 4 rfl).trans sf4) rfl (mF ((hS77 6 rfl).trans rfl) rfl (mF ((hS77 0 rfl).trans sf0) rfl (mF ((hS77 5 rfl).trans sf5) rfl (L_ix (r:=RP.int) rfl Tryz.underlying23 Tryz.sizeOf3 rfl (RP.mono _ h0 (Le.trans l19 hE77)) rfl hix20 (fun g103 o104 cs_g103 hrk_hat105 hat105=>?_)))))))
 obtain rfl : _ = [_]:=hrk_hat105
 refine L_ld rfl Tryz.isAgg3 rfl (At.cell (AtH.at hat105 Z.sub) (j:=0) rfl) (L_ixO (R:=(OR.frz RP.int)) (tb:=0) 0 rfl Tryz.underlying23 Tryz.sizeOf3 rfl hv79 (by first | rfl | simp) rfl hx68 ?_)
 have Z:=Star.addF (r:=RP.int) (cs:=[I x_20]) (x:=x_20) Z rfl
 refine L_stE1 (u:=I x_20) rfl Tryz.sizeOf3 rfl rfl rfl hv79 Z hx68 (fun w107 Z=>?_)
 refine nn (W_region (mF ((hS77 5 rfl).trans sf5) rfl (L_add rfl rfl rfl (aI rfl (nn ?_)))))
 obtain rfl:=so hB20
 show ∃ m,m < _∧I20 m _ _
 refine ⟨rest20.length,by simp,?_⟩
 exact ij hI20 ⟨i_16 + 1,rest20,(seen_17.set (Int.toNat x56) x_20),H77,rfl,drop_next hd20,by simp at hl20; omega,hL20,(Le.trans l19 hE77),((hS77 0 rfl).trans sf0),((hS77 2 rfl).trans sf2),((hS77 4 rfl).trans sf4),(Eq.trans rfl (congrArg (Value.int .i64) (i64_succ (n:=lits.length) (by simp at hl20; omega) hlen20))),Z⟩
 rcases suf20 with _ | ⟨_,_⟩
 obtain rfl:=range_nil hL20
 refine W_exit (rj hR20 ⟨seen_17,H18,rfl,l19,sf2,sf4,Z⟩)
 exact absurd (of_decide_eq_false hc21) (by simp at hl20; omega)
 intro f w_ hR
 obtain ⟨seen_17,H18,rfl,l19,sf2,sf4,Z⟩:=rk hR20 hR
 refine sq (L_bld rfl (parts1 rfl) (bld_73_1 (I 1) rfl) (L_al (cs:=#[S0,I 0]) rfl Tryz.zeroValue73 rfl Z (fun g111 w112 Z=>L_staB (vs:=#[S0,I 1]) (cs2:=#[S0,I 1]) 0 rfl Tryz.sizeOf73 rfl rfl rfl (ones_cons rfl (ones_cons rfl ones_nil)) Z rfl (by show 0 + 2≤2; decide) rfl (fun w113 Z=>nq (sq (aI rfl (nn ?_)))))))
 obtain ⟨k120,hk120,hF⟩:=bind_some hF
 obtain ⟨j119,hL119,hF⟩:=bind_some hF
 obtain ⟨R119,hR119⟩:=exR fun f w_=>∃ g111_0_115 : List Term,∃ H117 : FH,∃ v115_g111_0 : Value,j119 = .nx g111_0_115∧Le H18 H117∧f 2 = Pt g3∧f 7 = Pt g111∧Star H117 w_ ([oF 122 rTerm v115_g111_0 g111_0_115,box g111 73 #[v115_g111_0,I 1],box g3 73 #[S0,I 0]])
 refine W_join R119 ?_ ?_
 refine W_block ?_
 obtain ⟨I119,hI119⟩:=exI fun n f w_=>∃ i_114 : Nat,∃ suf119 : Nat,∃ g111_0_115 : List Term,∃ H117 : FH,∃ v115_g111_0 : Value,suf119 = n∧1≤i_114∧i_114 + suf119 = 1 + k120∧countL (s_ClauseOf_b2 seen_17) suf119 i_114 g111_0_115 = some j119∧Le H18 H117∧f 2 = Pt g3∧f 4 = v9∧f 7 = Pt g111∧f 8 = I i_114∧Star H117 w_ ([oF 3 RP.int v9 seen_17,oF 122 rTerm v115_g111_0 g111_0_115,box g111 73 #[v115_g111_0,I 1],box g3 73 #[S0,I 0]])
 have Z:=Star.addNil (R:=(OR.frz rTerm)) (e:=122) Z
 have Z:=Z.gets [3,2,2,3] rfl
 refine W_loop I119 (n:=k120) ?_ ?_
 exact ij hI119 ⟨1,k120,[],H18,S0,rfl,Nat.le_refl _,rfl,hL119,(Le.refl _),sf2,sf4,rfl,rfl,Z⟩
 intro n119 f w_ hI
 obtain ⟨i_114,suf119,g111_0_115,H117,v115_g111_0,rfl,hs119,hl119,hL119,l118,sf2,sf4,sf7,sf8,Z⟩:=ik hI119 hI
 refine W_seq (sq (mF sf8 rfl (L_leq rfl rfl rfl (nn (W_cond (b:=decide ((i_114 : Int)≤12)) rfl (fun hc122=>?_) (fun hc122=>?_))))))
 have hlt119:=of_decide_eq_true hc122
 rcases suf119 with _ | rest119
 exact absurd hlt119 (cntF_noL hl119 hk120)
 obtain ⟨o119,hB119,hL119⟩:=count_succ hL119
 rw [s_ClauseOf_b2] at hB119
 refine W_skip (W_seq (W_block (W_seq ?_)))
 obtain ⟨x123,hx123,hB119⟩:=bind_some hB119
 refine W_region (mF sf4 rfl (mF sf8 rfl ?_))
 obtain ⟨g128,cap_g128,hv129,_,_⟩:=Star.row 0 Z rfl hx123
 refine L_ixO (R:=(OR.frz RP.int)) (tb:=0) 0 rfl Tryz.underlying23 Tryz.sizeOf3 rfl hv129 (by first | rfl | simp) rfl hx123 ?_
 obtain ⟨cs130,hr130,hat130⟩:=Star.eltF 0 Z rfl hv129 hx123
 obtain rfl : _ = [_]:=hr130
 refine L_ld rfl Tryz.isAgg3 rfl (At.cell hat130 (j:=0) rfl) (L_neq rfl rfl rfl (nn ?_))
 obtain ⟨g111_0_132,hA136,hB119⟩:=bind_some hB119
 obtain ⟨R136,hR136⟩:=exR fun f w_=>∃ H134 : FH,∃ v132_g111_0 : Value,Le H117 H134∧f 2 = Pt g3∧f 4 = v9∧f 7 = Pt g111∧f 8 = I i_114∧Star H134 w_ ([oF 3 RP.int v9 seen_17,oF 122 rTerm v132_g111_0 g111_0_132,box g111 73 #[v132_g111_0,I 1],box g3 73 #[S0,I 0]])
 refine W_join R136 ?_ ?_
 refine W_cond (b:=(x123 != 0)) rfl (fun hc137=>?_) (fun hc137=>?_)
 have hA136:=(ite_t hc137).symm.trans hA136
 obtain ⟨x143,hx143,hA136⟩:=bind_some hA136
 refine W_drawS 8 [isV (Pt g111),isV (v115_g111_0),isV (v9),isV (I i_114),isV (.pointer (some ⟨g128,Int.toNat (i_114 : Int) * 1,none⟩)),isV (I x123),isV (.agg #[I 1,I x123]),anyF] [oF 3 RP.int v9 seen_17,oF 122 rTerm v115_g111_0 g111_0_115,box g111 73 #[v115_g111_0,I 1],box g3 73 #[S0,I 0]] [.made 7 67 (fun v_=>oF 122 rTerm v_ ([({ coef:=1,lit:=x123 } : Term)])) none] ([]) [([],[]),([],[]),([],[]),([],[]),([],[]),([],[]),([],[]),([],[0])] (S:=[(some 7,[67],none)]) Tryz_mix (by kernel_rfl) rfl (by kernel_rfl) (amF_cons (mono_V _) (amF_cons (mono_V _) (amF_cons (mono_V _) (amF_cons (mono_V _) (amF_cons (mono_V _) (amF_cons (mono_V _) (amF_cons (mono_V _) (amF_cons (mono_any) amF_nil)))))))) Z ?_ (fun f w_ H148 hS148 hE148 hT148 Z=>?_)
 refine opsS_cons (fun f w_ _ _ s _ _ Z=>fA 0 fa_73_0 ((s 7 rfl).trans sf7) rfl (nO rfl rfl Z)) (opsS_cons (fun f w_ _ _ _ _ p Z=>ldB 2 Z Tryz.isAgg71 (p 0 60 rfl rfl) rfl rfl (nO rfl rfl Z)) (opsS_cons (fun f w_ _ _ s _ _ Z=>mF ((s 4 rfl).trans sf4) rfl (nO rfl rfl Z)) (opsS_cons (fun f w_ _ _ s _ _ Z=>mF ((s 8 rfl).trans sf8) rfl (nO rfl rfl Z)) (opsS_cons (fun f w_ _ _ _ _ p Z=>L_ixO (R:=(OR.frz RP.int)) (tb:=0) 0 rfl Tryz.underlying23 Tryz.sizeOf3 (p 2 62 rfl rfl) hv129 (by first | rfl | simp) (p 3 63 rfl rfl) hx123 (nO rfl rfl Z)) (opsS_cons ?_ ?_)))))
 intro f w_ H148 X148 hS148 hE148 hP148 Z
 obtain ⟨cs154,hr154,hat154⟩:=Star.eltF 0 Z rfl hv129 hx123
 obtain rfl : _ = [_]:=hr154
 refine L_ld rfl Tryz.isAgg3 (hP148 4 64 rfl rfl) (At.cell hat154 (j:=0) rfl) (L_nil ⟨rfl,_,_,rfl,Le.refl _,fun _ _=>rfl,Z⟩)
 refine opsS_cons (fun f w_ _ _ _ _ p Z=>L_bld rfl (parts2 rfl (p 5 65 rfl rfl)) (bld_122_0_1 (I 1) (I x123) rfl rfl) (nO rfl rfl Z)) (opsS_cons ?_ ?_)
 intro f w_ H148 X148 hS148 hE148 hP148 Z
 refine L_bs rfl (parts1 (hP148 6 66 rfl rfl)) (bs_71_1_2 (I 1) (I x123) ) Z (fun g156 w157 Z=>?_)
 have Z:=Star.addF (r:=rTerm) (cs:=[I 1,I x123]) (x:=({ coef:=1,lit:=x123 } : Term)) Z (rTerm_iff.2 rfl)
 have Z:=Star.mkRow (R:=(OR.frz rTerm)) [([I 1,I x123],({ coef:=1,lit:=x123 } : Term))] [({ coef:=1,lit:=x123 } : Term)] 1 Z rfl rfl rfl (by decide)
 have Z:=Z.gets [4,4,4,4] rfl
 exact L_nil ⟨rfl,_,_,rfl,Le.refl _,fun _ _=>trivial,Z⟩
 exact opsS_nil
 have Z : Star H148 w_ ([oF 3 RP.int v9 seen_17,oF 122 rTerm v115_g111_0 g111_0_115,box g111 73 #[v115_g111_0,I 1],box g3 73 #[S0,I 0],oF 122 rTerm (f 67) ([({ coef:=1,lit:=x123 } : Term)])]):=Z
 have Z:=Z.gets [4,2] rfl
 refine L_appM (v:=v115_g111_0) (u:=(f 67)) rfl et_71 (hT148 1 61 rfl rfl) rfl Z hx143 (fun v160 w161 Z=>fA 0 fa_73_0 ((hS148 7 rfl).trans sf7) rfl (L_stB (v:=v160) (cs2:=#[v160,I 1]) 2 rfl Tryz.sizeOf71 rfl rfl (one_len (Star.len 0 Z rfl)) Z rfl rfl rfl (fun w163 Z=>nn ?_)))
 obtain rfl:=so hA136
 have Z:=Z.gets [3,1,2,3] rfl
 exact rj hR136 ⟨H148,v160,hE148,((hS148 2 rfl).trans sf2),((hS148 4 rfl).trans sf4),((hS148 7 rfl).trans sf7),((hS148 8 rfl).trans sf8),Z⟩
 have hA136:=(ite_f hc137).symm.trans hA136
 refine W_skip ?_
 obtain rfl:=so hA136
 exact rj hR136 ⟨H117,v115_g111_0,(Le.refl _),sf2,sf4,sf7,sf8,Z⟩
 intro f w_ hR
 obtain ⟨H134,v132_g111_0,l135,sf2,sf4,sf7,sf8,Z⟩:=rk hR136 hR
 refine W_region (mF sf8 rfl (L_add rfl rfl rfl (aI rfl (nn ?_))))
 obtain rfl:=so hB119
 show ∃ m,m < _∧I119 m _ _
 refine ⟨rest119,Nat.lt_succ_self _,?_⟩
 exact ij hI119 ⟨i_114 + 1,rest119,g111_0_132,H134,v132_g111_0,rfl,by omega,by omega,hL119,(Le.trans l118 l135),sf2,sf4,sf7,(Eq.trans rfl (congrArg (Value.int .i64) (i64_succ (n:=1 + k120) (by omega) (cntF_le hk120)))),Z⟩
 rcases suf119 with _ | _
 obtain rfl:=count_zero hL119
 refine W_exit ?_
 have Z:=Z.gets [3,3,3] rfl
 exact rj hR119 ⟨g111_0_115,H117,v115_g111_0,rfl,l118,sf2,sf7,(Star.keepN 3 Z)⟩
 exact absurd (cntF_yesL hs119 hl119 hk120) (of_decide_eq_false hc122)
 intro f w_ hR
 obtain ⟨g111_0_115,H117,v115_g111_0,rfl,l118,sf2,sf7,Z⟩:=rk hR119 hR
 refine sq (L_lda (cs:=[v115_g111_0,I 1]) rfl Tryz.isAgg73 Tryz.sizeOf73 sf7 (At.sub0 (Blk.at (Star.blkAt 1 Z rfl)) 0 2) rfl (L_staB (vs:=#[v115_g111_0,I 1]) (cs2:=#[v115_g111_0,I 1]) 2 rfl Tryz.sizeOf73 sf2 rfl rfl (ones_cons (one_len (Star.len 0 Z rfl)) (ones_cons rfl ones_nil)) Z rfl (by show 0 + 2≤2; decide) rfl (fun w165 Z=>aB rfl (nn (W_ret (retG2 (v1:=.agg #[v115_g111_0,I 1]) (v2:=Bo true) Tryz.results107 (resV_agg Tryz.isAgg73 Tryz.sizeOf73 sf2 (Star.blkAt 0 Z rfl) rfl) rfl ?_))))))
 obtain rfl:=so hF
 have Z:=Z.get 1 rfl
 exact ⟨v115_g111_0,rfl,(Star.down (Star.keepN 1 Z) (Le.trans l19 l118) (co closed_term c0))⟩
theorem s_l7Most_c {vars : List Int} {v0 : Value} {H : FH} {w : World} (Z : Star H w []) (h0 : (rS 3 RP.int).rel H [v0] vars) {r : Con} (hF : s_l7Most vars = some r) :
 C Tryz.prog 108 #[v0] w fun v w'=>∃ (u1 : Value),v = .agg #[u1,I r.bound]∧Star H w' [oF 122 rTerm u1 r.terms]:=by
 unfold s_l7Most at hF
 refine C_enter Tryz.func108 rfl Tryz.ntmps108 rfl (sq (L_al (cs:=#[S0,I 0]) rfl Tryz.zeroValue73 rfl Z (fun g3 w4 Z=>ns (mV v0 rfl (L_len rfl Tryz.underlying23 rfl (slice_len h0) (L_sub rfl rfl rfl (L_bld rfl (parts1 rfl) (bld_73_1 (I (i64 ((vars.length : Int) - 1))) rfl) (L_al (cs:=#[S0,I 0]) rfl Tryz.zeroValue73 rfl Z (fun g8 w9 Z=>L_staB (vs:=#[S0,I (i64 ((vars.length : Int) - 1))]) (cs2:=#[S0,I (i64 ((vars.length : Int) - 1))]) 0 rfl Tryz.sizeOf73 rfl rfl rfl (ones_cons rfl (ones_cons rfl ones_nil)) Z rfl (by show 0 + 2≤2; decide) rfl (fun w10 Z=>nq (sq (aI rfl (nn ?_)))))))))))))
 have hlen16 : List.length vars≤9223372036854775807:=len_le (slice_len h0)
 obtain ⟨j16,hL16,hF⟩:=bind_some hF
 obtain ⟨R16,hR16⟩:=exR fun f w_=>∃ g8_0_12 : List Term,∃ H14 : FH,∃ v12_g8_0 : Value,j16 = .nx g8_0_12∧Le H H14∧f 2 = Pt g3∧f 3 = Pt g8∧Star H14 w_ ([oF 122 rTerm v12_g8_0 g8_0_12,box g8 73 #[v12_g8_0,I (i64 ((vars.length : Int) - 1))],box g3 73 #[S0,I 0]])
 refine W_join R16 ?_ ?_
 refine W_block ?_
 obtain ⟨I16,hI16⟩:=exI fun n f w_=>∃ i_11 : Nat,∃ suf16 : List Int,∃ g8_0_12 : List Term,∃ H14 : FH,∃ v12_g8_0 : Value,n = suf16.length∧List.drop i_11 vars = suf16∧i_11 + suf16.length = vars.length∧rangeL s_l7Most_b1 suf16 i_11 g8_0_12 = some j16∧Le H H14∧f 0 = v0∧f 2 = Pt g3∧f 3 = Pt g8∧f 4 = I i_11∧Star H14 w_ ([oF 122 rTerm v12_g8_0 g8_0_12,box g8 73 #[v12_g8_0,I (i64 ((vars.length : Int) - 1))],box g3 73 #[S0,I 0]])
 have Z:=Star.addNil (R:=(OR.frz rTerm)) (e:=122) Z
 refine W_loop I16 (n:=vars.length) ?_ ?_
 exact ij hI16 ⟨0,vars,[],H,S0,rfl,rfl,Nat.zero_add _,hL16,(Le.refl _),rfl,rfl,rfl,rfl,Z⟩
 intro n16 f w_ hI
 obtain ⟨i_11,suf16,g8_0_12,H14,v12_g8_0,rfl,hd16,hl16,hL16,l15,sf0,sf2,sf3,sf4,Z⟩:=ik hI16 hI
 refine W_seq (sq (mF sf4 rfl (mF sf0 rfl (L_len rfl Tryz.underlying23 rfl (slice_len (RP.mono _ h0 l15)) (L_lss rfl rfl rfl (nn (W_cond (b:=decide ((i_11 : Int) < (vars.length : Int))) rfl (fun hc18=>?_) (fun hc18=>?_))))))))
 have hlt16:=of_decide_eq_true hc18
 rcases suf16 with _ | ⟨x_16,rest16⟩
 exact absurd hlt16 (by simp at hl16; omega)
 obtain ⟨o16,hB16,hL16⟩:=range_cons hL16
 rw [s_l7Most_b1] at hB16
 have hix16:=drop_idx hd16
 refine W_skip (W_seq (W_block ?_))
 obtain ⟨x26,hx26,hB16⟩:=bind_some hB16
 refine W_drawS 9 [isV (Pt g8),isV (v12_g8_0),isV (v0),isV (I i_11),isEl RP.int x_16 0,isV (I x_16),isV (I (i64 (-x_16))),isV (.agg #[I 1,I (i64 (-x_16))]),anyF] [oF 122 rTerm v12_g8_0 g8_0_12,box g8 73 #[v12_g8_0,I (i64 ((vars.length : Int) - 1))],box g3 73 #[S0,I 0]] [.made 8 23 (fun v_=>oF 122 rTerm v_ ([({ coef:=1,lit:=i64 (-x_16) } : Term)])) none] ([]) [([],[]),([],[]),([],[]),([],[]),([],[]),([],[]),([],[]),([],[]),([],[0])] (S:=[(some 8,[23],none)]) Tryz_mix (by kernel_rfl) rfl (by kernel_rfl) (amF_cons (mono_V _) (amF_cons (mono_V _) (amF_cons (mono_V _) (amF_cons (mono_V _) (amF_cons (mono_el _ _ _) (amF_cons (mono_V _) (amF_cons (mono_V _) (amF_cons (mono_V _) (amF_cons (mono_any) amF_nil))))))))) Z ?_ (fun f w_ H31 hS31 hE31 hT31 Z=>?_)
 refine opsS_cons (fun f w_ _ _ s _ _ Z=>fA 0 fa_73_0 ((s 3 rfl).trans sf3) rfl (nO rfl rfl Z)) (opsS_cons (fun f w_ _ _ _ _ p Z=>ldB 1 Z Tryz.isAgg71 (p 0 15 rfl rfl) rfl rfl (nO rfl rfl Z)) (opsS_cons (fun f w_ _ _ s _ _ Z=>mF ((s 0 rfl).trans sf0) rfl (nO rfl rfl Z)) (opsS_cons (fun f w_ _ _ s _ _ Z=>mF ((s 4 rfl).trans sf4) rfl (nO rfl rfl Z)) (opsS_cons ?_ ?_))))
 intro f w_ H31 X31 hS31 hE31 hP31 Z
 refine L_ix (r:=RP.int) rfl Tryz.underlying23 Tryz.sizeOf3 (hP31 2 17 rfl rfl) (RP.mono _ h0 (Le.trans l15 hE31)) (hP31 3 18 rfl rfl) hix16 (fun g39 o40 cs_g39 hrk_hat41 hat41=>?_)
 obtain rfl : _ = [_]:=hrk_hat41
 exact L_nil ⟨rfl,_,_,rfl,Le.refl _,fun _ _=>⟨_,_,_,rfl,rfl,hat41⟩,Z⟩
 refine opsS_cons ?_ ?_
 intro f w_ H31 X31 hS31 hE31 hP31 Z
 obtain ⟨g43,o43,cs43,hv43,hrk_hat43,hat43⟩:=(hP31 4 19 rfl rfl)
 obtain rfl : _ = [_]:=hrk_hat43
 refine L_ld rfl Tryz.isAgg3 hv43 (At.cell (AtH.at hat43 Z.sub) (j:=0) rfl) (L_nil ⟨rfl,_,_,rfl,Le.refl _,fun _ _=>rfl,Z⟩)
 refine opsS_cons (fun f w_ _ _ _ _ p Z=>L_neg rfl (p 5 20 rfl rfl) (nO rfl rfl Z)) (opsS_cons (fun f w_ _ _ _ _ p Z=>L_bld rfl (parts2 rfl (p 6 21 rfl rfl)) (bld_122_0_1 (I 1) (I (i64 (-x_16))) rfl rfl) (nO rfl rfl Z)) (opsS_cons ?_ ?_))
 intro f w_ H31 X31 hS31 hE31 hP31 Z
 refine L_bs rfl (parts1 (hP31 7 22 rfl rfl)) (bs_71_1_2 (I 1) (I (i64 (-x_16))) ) Z (fun g45 w46 Z=>?_)
 have Z:=Star.addF (r:=rTerm) (cs:=[I 1,I (i64 (-x_16))]) (x:=({ coef:=1,lit:=i64 (-x_16) } : Term)) Z (rTerm_iff.2 rfl)
 have Z:=Star.mkRow (R:=(OR.frz rTerm)) [([I 1,I (i64 (-x_16))],({ coef:=1,lit:=i64 (-x_16) } : Term))] [({ coef:=1,lit:=i64 (-x_16) } : Term)] 1 Z rfl rfl rfl (by decide)
 have Z:=Z.gets [3,3,3] rfl
 exact L_nil ⟨rfl,_,_,rfl,Le.refl _,fun _ _=>trivial,Z⟩
 exact opsS_nil
 have Z : Star H31 w_ ([oF 122 rTerm v12_g8_0 g8_0_12,box g8 73 #[v12_g8_0,I (i64 ((vars.length : Int) - 1))],box g3 73 #[S0,I 0],oF 122 rTerm (f 23) ([({ coef:=1,lit:=i64 (-x_16) } : Term)])]):=Z
 have Z:=Z.gets [3,1] rfl
 refine L_appM (v:=v12_g8_0) (u:=(f 23)) rfl et_71 (hT31 1 16 rfl rfl) rfl Z hx26 (fun v49 w50 Z=>fA 0 fa_73_0 ((hS31 3 rfl).trans sf3) rfl (L_stB (v:=v49) (cs2:=#[v49,I (i64 ((vars.length : Int) - 1))]) 1 rfl Tryz.sizeOf71 rfl rfl (one_len (Star.len 0 Z rfl)) Z rfl rfl rfl (fun w52 Z=>nn (W_region (mF ((hS31 4 rfl).trans sf4) rfl (L_add rfl rfl rfl (aI rfl (nn ?_))))))))
 obtain rfl:=so hB16
 have Z:=Z.gets [2,1,2] rfl
 show ∃ m,m < _∧I16 m _ _
 refine ⟨rest16.length,by simp,?_⟩
 exact ij hI16 ⟨i_11 + 1,rest16,x26,H31,v49,rfl,drop_next hd16,by simp at hl16; omega,hL16,(Le.trans l15 hE31),((hS31 0 rfl).trans sf0),((hS31 2 rfl).trans sf2),((hS31 3 rfl).trans sf3),(Eq.trans rfl (congrArg (Value.int .i64) (i64_succ (n:=vars.length) (by simp at hl16; omega) hlen16))),Z⟩
 rcases suf16 with _ | ⟨_,_⟩
 obtain rfl:=range_nil hL16
 refine W_exit (rj hR16 ⟨g8_0_12,H14,v12_g8_0,rfl,l15,sf2,sf3,Z⟩)
 exact absurd (of_decide_eq_false hc18) (by simp at hl16; omega)
 intro f w_ hR
 obtain ⟨g8_0_12,H14,v12_g8_0,rfl,l15,sf2,sf3,Z⟩:=rk hR16 hR
 refine sq (L_lda (cs:=[v12_g8_0,I (i64 ((vars.length : Int) - 1))]) rfl Tryz.isAgg73 Tryz.sizeOf73 sf3 (At.sub0 (Blk.at (Star.blkAt 1 Z rfl)) 0 2) rfl (L_staB (vs:=#[v12_g8_0,I (i64 ((vars.length : Int) - 1))]) (cs2:=#[v12_g8_0,I (i64 ((vars.length : Int) - 1))]) 2 rfl Tryz.sizeOf73 sf2 rfl rfl (ones_cons (one_len (Star.len 0 Z rfl)) (ones_cons rfl ones_nil)) Z rfl (by show 0 + 2≤2; decide) rfl (fun w54 Z=>nn (W_ret (retG1 (v1:=.agg #[v12_g8_0,I (i64 ((vars.length : Int) - 1))]) Tryz.results108 (resV_agg Tryz.isAgg73 Tryz.sizeOf73 sf2 (Star.blkAt 0 Z rfl) rfl) ?_)))))
 obtain rfl:=so hF
 have Z:=Z.get 1 rfl
 exact ⟨v12_g8_0,rfl,(Star.down (Star.keepN 1 Z) l15 (co closed_term c0))⟩
theorem s_l7Cell_c {m : Model} {cell : Int} {v0_0 : Value} {v0_1 : Value} {H : FH} {w : World} (Z : Star H w []) (h0_0 : (rS 3 RP.int).rel H [v0_0] m.sizes) (h0_1 : (rS 79 (rRule 3 23)).rel H [v0_1] m.rules) {r : List Con} (hF : s_l7Cell m cell = some r) :
 C Tryz.prog 52 #[.agg #[v0_0,v0_1],I cell] w fun v w'=>∃ (u1 : Value),v = u1∧Star H w' [oS 73 (oCon 122) u1 r]:=by
 unfold s_l7Cell at hF
 refine C_enter Tryz.func52 rfl Tryz.ntmps52 rfl (sq (L_box (v:=.agg #[v0_0,v0_1]) (cs:=#[v0_0,v0_1]) rfl rfl rfl Z (fun g3 w4 Z=>aV S0 rfl (ns (L_bs rfl parts0 (bs_23_0  ) Z (fun g8 w9 Z=>?_))))))
 have Z:=Star.mkRow (R:=(OR.frz RP.int)) [] [] 0 Z rfl rfl rfl (by decide)
 refine aV (Sl g8 0 0) rfl (nq (sq (aI rfl (nn ?_))))
 obtain ⟨x13,hx13,hF⟩:=bind_some hF
 obtain ⟨k18,hk18,hF⟩:=bind_some hF
 obtain ⟨j17,hL17,hF⟩:=bind_some hF
 obtain ⟨R17,hR17⟩:=exR fun f w_=>∃ vars_15 : List Int,∃ v15_vars : Value,j17 = .nx vars_15∧f 5 = v15_vars∧Star H w_ ([oF 3 RP.int v15_vars vars_15])
 refine W_join R17 ?_ ?_
 refine W_block ?_
 obtain ⟨I17,hI17⟩:=exI fun n f w_=>∃ i_14 : Nat,∃ suf17 : Nat,∃ vars_15 : List Int,∃ v15_vars : Value,suf17 = n∧0≤i_14∧i_14 + suf17 = 0 + k18∧countL (s_l7Cell_b1 m cell) suf17 i_14 vars_15 = some j17∧f 1 = I cell∧f 2 = Pt g3∧f 5 = v15_vars∧f 6 = I i_14∧Star H w_ ([oF 3 RP.int v15_vars vars_15,box g3 26 #[v0_0,v0_1]])
 refine W_loop I17 (n:=k18) ?_ ?_
 exact ij hI17 ⟨0,k18,[],(Sl g8 0 0),rfl,Nat.le_refl _,rfl,hL17,rfl,rfl,rfl,rfl,Z⟩
 intro n17 f w_ hI
 obtain ⟨i_14,suf17,vars_15,v15_vars,rfl,hs17,hl17,hL17,sf1,sf2,sf5,sf6,Z⟩:=ik hI17 hI
 refine W_seq (sq (mF sf6 rfl (fA 0 fa_26_0 sf2 rfl (ldB 1 Z Tryz.isAgg23 rfl rfl rfl (mF sf1 rfl (L_ix (r:=RP.int) rfl Tryz.underlying23 Tryz.sizeOf3 rfl h0_0 rfl hx13 (fun g23 o24 cs_g23 hrk_hat25 hat25=>?_)))))))
 obtain rfl : _ = [_]:=hrk_hat25
 refine L_ld rfl Tryz.isAgg3 rfl (At.cell (AtH.at hat25 Z.sub) (j:=0) rfl) (L_leq rfl rfl rfl (nn (W_cond (b:=decide ((i_14 : Int)≤x13)) rfl (fun hc27=>?_) (fun hc27=>?_))))
 have hlt17:=of_decide_eq_true hc27
 rcases suf17 with _ | rest17
 exact absurd hlt17 (cntF_noL hl17 hk18)
 obtain ⟨o17,hB17,hL17⟩:=count_succ hL17
 rw [s_l7Cell_b1] at hB17
 refine W_skip (W_seq (W_block ?_))
 obtain ⟨x33,hx33,hB17⟩:=bind_some hB17
 obtain ⟨x38,hx38,hB17⟩:=bind_some hB17
 refine W_region (mF sf5 rfl (L_lda (cs:=[v0_0,v0_1]) rfl Tryz.isAgg26 Tryz.sizeOf26 sf2 (At.sub0 (Blk.at (Star.blkAt 1 Z rfl)) 0 2) rfl (mF sf1 rfl (mF sf6 rfl ?_))))
 obtain ⟨H42b,l43,s44,z45,k46⟩:=Z.borrow
 refine L_call rfl Tryz.call70 (ops3 rfl rfl rfl) (s_l7Var_c (m:=m) (cell:=cell) (value:=(i_14 : Int)) s44 (RP.mono _ h0_0 l43) (RP.mono _ h0_1 l43) hx33) ?_
 rintro _ w47 ⟨rfl,Z⟩
 have Z:=k46 Z c0
 refine L_bs rfl (parts1 rfl) (bs_23_1_0 (I x33) rfl) Z (fun g48 w49 Z=>?_)
 have Z:=Star.addF (r:=RP.int) (cs:=[I x33]) (x:=x33) Z rfl
 have Z:=Star.mkRow (R:=(OR.frz RP.int)) [([I x33],x33)] [x33] 1 Z rfl rfl rfl (by decide)
 have Z:=Z.get 1 rfl
 refine L_appM (v:=v15_vars) (u:=(Sl g48 1 1)) rfl et_23 rfl rfl Z hx38 (fun v51 w52 Z=>aV v51 rfl (nn (W_region (mF sf6 rfl (L_add rfl rfl rfl (aI rfl (nn ?_)))))))
 obtain rfl:=so hB17
 show ∃ m,m < _∧I17 m _ _
 refine ⟨rest17,Nat.lt_succ_self _,?_⟩
 exact ij hI17 ⟨i_14 + 1,rest17,x38,v51,rfl,by omega,by omega,hL17,sf1,sf2,rfl,(Eq.trans rfl (congrArg (Value.int .i64) (i64_succ (n:=0 + k18) (by omega) (cntF_le hk18)))),Z⟩
 rcases suf17 with _ | _
 obtain rfl:=count_zero hL17
 refine W_exit (rj hR17 ⟨vars_15,v15_vars,rfl,sf5,(Star.keepN 1 Z)⟩)
 exact absurd (cntF_yesL hs17 hl17 hk18) (of_decide_eq_false hc27)
 intro f w_ hR
 obtain ⟨vars_15,v15_vars,rfl,sf5,Z⟩:=rk hR17 hR
 refine W_seq ?_
 obtain ⟨x60,hx60,hF⟩:=bind_some hF
 refine W_region (mF sf5 rfl ?_)
 obtain ⟨H66b,l67,s68,z69,k70⟩:=Z.borrow
 have hb71 : (rS 3 RP.int).rel H66b [v15_vars] vars_15:=fz_own 0 z69 rfl
 refine L_call rfl Tryz.call107 (ops1 rfl) (s_ClauseOf_c (lits:=vars_15) s68 hb71 hx60) ?_
 rintro _ w72 ⟨r72_0,rfl,Z⟩
 have Z:=k70 Z (co closed_term c0)
 refine mV (.tuple #[.agg #[r72_0,I x60.1.bound],Bo x60.2]) rfl (L_ex (v:=.agg #[r72_0,I x60.1.bound]) rfl rfl rfl (L_ex (v:=Bo x60.2) rfl rfl rfl (L_al (cs:=#[S0,I 0]) rfl Tryz.zeroValue73 rfl Z (fun g74 w75 Z=>L_staB (vs:=#[r72_0,I x60.1.bound]) (cs2:=#[r72_0,I x60.1.bound]) 0 rfl Tryz.sizeOf73 rfl rfl rfl (ones_cons (one_len (Star.len 1 Z rfl)) (ones_cons rfl ones_nil)) Z rfl (by show 0 + 2≤2; decide) rfl (fun w76 Z=>aB rfl (nq ?_))))))
 obtain ⟨x83,hx83,hF⟩:=bind_some hF
 refine W_drawS 3 [isV (.agg #[r72_0,I x60.1.bound]),isV (v15_vars),exA fun u_0=>isV (.agg #[u_0,I x83.bound])] [box g74 73 #[r72_0,I x60.1.bound],oF 122 rTerm r72_0 x60.1.terms,oF 3 RP.int v15_vars vars_15] [.made 2 33 (fun v_=>oF 122 rTerm (aggC v_ 0) x83.terms) none] ([]) [([],[]),([],[]),([],[0])] (S:=[(some 2,[33],none)]) Tryz_mix (by kernel_rfl) rfl (by kernel_rfl) (amF_cons (mono_V _) (amF_cons (mono_V _) (amF_cons (mono_exA fun _=>mono_V _) amF_nil))) Z ?_ (fun f w_ H89 hS89 hE89 hT89 Z=>?_)
 refine opsS_cons (fun f w_ _ _ s _ _ Z=>L_lda (cs:=[r72_0,I x60.1.bound]) rfl Tryz.isAgg73 Tryz.sizeOf73 ((s 7 rfl).trans rfl) (At.sub0 (Blk.at (Star.blkAt 0 Z rfl)) 0 2) rfl (nO rfl rfl Z)) (opsS_cons (fun f w_ _ _ s _ _ Z=>mF ((s 5 rfl).trans sf5) rfl (nO rfl rfl Z)) (opsS_cons ?_ ?_))
 intro f w_ H89 X89 hS89 hE89 hP89 Z
 obtain ⟨H98b,l99,s100,z101,k102⟩:=Z.borrow
 have hb103 : (rS 3 RP.int).rel H98b [v15_vars] vars_15:=fz_own 2 z101 rfl
 refine L_call rfl Tryz.call108 (ops1 (hP89 1 32 rfl rfl)) (s_l7Most_c (vars:=vars_15) s100 hb103 hx83) ?_
 rintro _ w104 ⟨r104_0,rfl,Z⟩
 have Z:=k102 Z (co closed_term c0)
 have Z:=Z.gets [3,3,3] rfl
 exact L_nil ⟨rfl,_,_,rfl,Le.refl _,fun _ _=>⟨_,rfl⟩,Z⟩
 exact opsS_nil
 have Z : Star H89 w_ ([box g74 73 #[r72_0,I x60.1.bound],oF 122 rTerm r72_0 x60.1.terms,oF 3 RP.int v15_vars vars_15,own (OR.ownS 122 (OR.frz rTerm)) [(aggC (f 33) 0)] x83.terms]):=Z
 obtain ⟨u106_0,hv106⟩:=(hT89 2 33 rfl rfl)
 have hren : Star H89 w_ ([box g74 73 #[r72_0,I x60.1.bound],oF 122 rTerm r72_0 x60.1.terms,oF 3 RP.int v15_vars vars_15,own (OR.ownS 122 (OR.frz rTerm)) [(aggC (f 33) 0)] x83.terms]):=Z
 rw [hv106] at hren
 have Z : Star H89 w_ ([box g74 73 #[r72_0,I x60.1.bound],oF 122 rTerm r72_0 x60.1.terms,oF 3 RP.int v15_vars vars_15,oF 122 rTerm u106_0 x83.terms]):=hren
 refine L_bs rfl (parts2 (hT89 0 31 rfl rfl) hv106) (bs_28_2_2_2 (r72_0) (I x60.1.bound) (u106_0) (I x83.bound) ) Z (fun g107 w108 Z=>?_)
 have Z:=Z.get 4 rfl
 have Z:=oCon_close (c:=x83) Z
 have Z:=Z.get 3 rfl
 have Z:=oCon_close (c:=x60.1) Z
 have Z:=Star.mkRow (R:=(oCon 122)) [([r72_0,I x60.1.bound],x60.1),([u106_0,I x83.bound],x83)] [x60.1,x83] 2 Z rfl rfl rfl (by decide)
 refine aV (Sl g107 2 2) rfl (nn (W_ret (retG1 (v1:=(Sl g107 2 2)) Tryz.results52 rfl ?_)))
 obtain rfl:=so hF
 exact ⟨(Sl g107 2 2),rfl,(Star.down (Star.keepN 1 Z) hE89 (co closed_oCon c0))⟩
theorem s_ConstraintValid_c {c : Con} {v0_0 : Value} {H : FH} {w : World} (Z : Star H w []) (h0_0 : (rS 122 rTerm).rel H [v0_0] c.terms) {r : Bool} (hF : s_ConstraintValid c = some r) :
 C Tryz.prog 189 #[.agg #[v0_0,I c.bound]] w fun v w'=>v = Bo r∧Star H w' []:=by
 unfold s_ConstraintValid at hF
 refine C_enter Tryz.func189 rfl Tryz.ntmps189 rfl (sq (L_box (v:=.agg #[v0_0,I c.bound]) (cs:=#[v0_0,I c.bound]) rfl rfl rfl Z (fun g3 w4 Z=>aB rfl (nq (sq (aI rfl (nn ?_)))))))
 have hlen8 : List.length c.terms≤9223372036854775807:=len_le (slice_len h0_0)
 obtain ⟨j8,hL8,hF⟩:=bind_some hF
 obtain ⟨R8,hR8⟩:=exR fun f w_=>∃ H6 : FH,j8 = .nx ()∧Le H H6∧f 1 = Pt g3∧Star H6 w_ ([box g3 73 #[v0_0,I c.bound]])
 refine W_join R8 ?_ ?_
 refine W_block ?_
 obtain ⟨I8,hI8⟩:=exI fun n f w_=>∃ i_5 : Nat,∃ suf8 : List Term,∃ H6 : FH,n = suf8.length∧List.drop i_5 c.terms = suf8∧i_5 + suf8.length = c.terms.length∧rangeL (s_ConstraintValid_b1 c) suf8 i_5 () = some j8∧Le H H6∧f 1 = Pt g3∧f 3 = I i_5∧Star H6 w_ ([box g3 73 #[v0_0,I c.bound]])
 refine W_loop I8 (n:=c.terms.length) ?_ ?_
 exact ij hI8 ⟨0,c.terms,H,rfl,rfl,Nat.zero_add _,hL8,(Le.refl _),rfl,rfl,Z⟩
 intro n8 f w_ hI
 obtain ⟨i_5,suf8,H6,rfl,hd8,hl8,hL8,l7,sf1,sf3,Z⟩:=ik hI8 hI
 refine W_seq (sq (mF sf3 rfl (fA 0 fa_73_0 sf1 rfl (ldB 0 Z Tryz.isAgg71 rfl rfl rfl (L_len rfl Tryz.underlying71 rfl (slice_len (RP.mono _ h0_0 l7)) (L_lss rfl rfl rfl (nn (W_cond (b:=decide ((i_5 : Int) < (c.terms.length : Int))) rfl (fun hc9=>?_) (fun hc9=>?_)))))))))
 have hlt8:=of_decide_eq_true hc9
 rcases suf8 with _ | ⟨x_8,rest8⟩
 exact absurd hlt8 (by simp at hl8; omega)
 obtain ⟨o8,hB8,hL8⟩:=range_cons hL8
 rw [s_ConstraintValid_b1] at hB8
 have hix8:=drop_idx hd8
 refine W_skip (W_seq (W_block (sq (fA 0 fa_73_0 sf1 rfl (ldB 0 Z Tryz.isAgg71 rfl rfl rfl (mF sf3 rfl (L_ix (r:=rTerm) rfl Tryz.underlying71 Tryz.sizeOf122 rfl (RP.mono _ h0_0 l7) rfl hix8 (fun g17 o18 cs_g17 hrk_hat19 hat19=>?_))))))))
 obtain rfl:=rTerm_iff.1 hrk_hat19
 refine L_lda (cs:=[I x_8.coef,I x_8.lit]) rfl Tryz.isAgg122 Tryz.sizeOf122 rfl (At.sub (AtH.at hat19 Z.sub) 0 2) rfl (L_al (cs:=#[I 0,I 0]) rfl Tryz.zeroValue122 rfl Z (fun g21 w22 Z=>L_staB (vs:=#[I x_8.coef,I x_8.lit]) (cs2:=#[I x_8.coef,I x_8.lit]) 0 rfl Tryz.sizeOf122 rfl rfl rfl (ones_cons rfl (ones_cons rfl ones_nil)) Z rfl (by show 0 + 2≤2; decide) rfl (fun w23 Z=>nq ?_)))
 obtain ⟨x29,hx29,hB8⟩:=bind_some hB8
 obtain ⟨b51,hb51,hB8⟩:=bind_some hB8
 obtain ⟨R55,hR55⟩:=exR fun f w_=>∃ H53 : FH,Le H6 H53∧f 1 = Pt g3∧f 3 = I i_5∧f 48 = Bo b51∧Star H53 w_ ([box g3 73 #[v0_0,I c.bound]])
 refine W_join R55 ?_ ?_
 rcases Bool.eq_false_or_eq_true (!x29) with hc56 | hc56
 rcases Bool.eq_false_or_eq_true ((!x29) || (decide (x_8.coef < 1))) with hc57 | hc57
 rcases Bool.eq_false_or_eq_true (((!x29) || (decide (x_8.coef < 1))) || (decide (x_8.coef > 1000))) with hc58 | hc58
 rw [ite_t hc58] at hb51
 refine W_drawS 28 [isV (Pq g21 1),isV (I x_8.lit),isV (Bo x29),isV (Bo (!x29)),isV (Bo (!x29)),isV (undef),isV (undef),isV (undef),isV (Bo ((!x29) || (decide (x_8.coef < 1)))),isV (Bo ((!x29) || (decide (x_8.coef < 1)))),isV (undef),isV (undef),isV (undef),isV (Bo (((!x29) || (decide (x_8.coef < 1))) || (decide (x_8.coef > 1000)))),isV (Bo (((!x29) || (decide (x_8.coef < 1))) || (decide (x_8.coef > 1000)))),isV (undef),isV (undef),isV (undef),isV (undef),isV (undef),isV (undef),isV (undef),isV (undef),isV (undef),isV (undef),isV (undef),isV (undef),isV (undef)] [box g21 122 #[I x_8.coef,I x_8.lit],box g3 73 #[v0_0,I c.bound]] [] ([]) [([],[]),([],[]),([],[]),([],[]),([],[]),([],[]),([],[]),([],[]),([],[]),([],[]),([],[]),([],[]),([],[]),([],[]),([],[]),([],[]),([],[]),([],[]),([],[]),([],[]),([],[]),([],[]),([],[]),([],[]),([],[]),([],[]),([],[]),([],[])] (S:=[]) Tryz_mix (by kernel_rfl) rfl (by kernel_rfl) (amF_cons (mono_V _) (amF_cons (mono_V _) (amF_cons (mono_V _) (amF_cons (mono_V _) (amF_cons (mono_V _) (amF_cons (mono_V _) (amF_cons (mono_V _) (amF_cons (mono_V _) (amF_cons (mono_V _) (amF_cons (mono_V _) (amF_cons (mono_V _) (amF_cons (mono_V _) (amF_cons (mono_V _) (amF_cons (mono_V _) (amF_cons (mono_V _) (amF_cons (mono_V _) (amF_cons (mono_V _) (amF_cons (mono_V _) (amF_cons (mono_V _) (amF_cons (mono_V _) (amF_cons (mono_V _) (amF_cons (mono_V _) (amF_cons (mono_V _) (amF_cons (mono_V _) (amF_cons (mono_V _) (amF_cons (mono_V _) (amF_cons (mono_V _) (amF_cons (mono_V _) amF_nil)))))))))))))))))))))))))))) Z ?_ (fun f w_ H52 hS52 hE52 hT52 Z=>?_)
 refine opsS_cons (fun f w_ _ _ s _ _ Z=>fA 1 fa_122_1 ((s 4 rfl).trans rfl) rfl (nO rfl rfl Z)) (opsS_cons (fun f w_ _ _ _ _ p Z=>ldB 0 Z Tryz.isAgg3 (p 0 17 rfl rfl) rfl rfl (nO rfl rfl Z)) (opsS_cons ?_ ?_))
 intro f w_ H52 X52 hS52 hE52 hP52 Z
 obtain ⟨H65b,l66,s67,z68,k69⟩:=Z.borrow
 refine L_call rfl Tryz.call151 (ops1 (hP52 1 18 rfl rfl)) (s_l1Lit_c (n_:=x_8.lit) s67 hx29) ?_
 rintro _ w70 ⟨rfl,Z⟩
 have Z:=k69 Z c0
 exact L_nil ⟨rfl,_,_,rfl,Le.refl _,fun _ _=>rfl,Z⟩
 refine opsS_cons (fun f w_ _ _ _ _ p Z=>L_not_ rfl (p 2 19 rfl rfl) (nO rfl rfl Z)) (opsS_cons (fun f w_ _ _ _ _ p Z=>mF (p 3 20 rfl rfl) rfl (nO rfl rfl Z)) (oP (fun _ _ p=>gN (p 4 21 rfl rfl) hc56 rfl) (fun _=>rfl) (oP (fun _ _ p=>gN (p 4 21 rfl rfl) hc56 rfl) (fun _=>rfl) (oP (fun _ _ p=>gN (p 4 21 rfl rfl) hc56 rfl) (fun _=>rfl) (opsS_cons (fun f w_ _ _ _ _ p Z=>pkT (v:=Bo ((!x29) || (decide (x_8.coef < 1)))) (p 4 21 rfl rfl) hc56 rfl (or_t hc56) (nO rfl rfl Z)) (opsS_cons (fun f w_ _ _ _ _ p Z=>mF (p 8 25 rfl rfl) rfl (nO rfl rfl Z)) (oP (fun _ _ p=>gN (p 9 26 rfl rfl) hc57 rfl) (fun _=>rfl) (oP (fun _ _ p=>gN (p 9 26 rfl rfl) hc57 rfl) (fun _=>rfl) (oP (fun _ _ p=>gN (p 9 26 rfl rfl) hc57 rfl) (fun _=>rfl) (opsS_cons (fun f w_ _ _ _ _ p Z=>pkT (v:=Bo (((!x29) || (decide (x_8.coef < 1))) || (decide (x_8.coef > 1000)))) (p 9 26 rfl rfl) hc57 rfl (or_t hc57) (nO rfl rfl Z)) (opsS_cons (fun f w_ _ _ _ _ p Z=>mF (p 13 30 rfl rfl) rfl (nO rfl rfl Z)) (oP (fun _ _ p=>gN (p 14 31 rfl rfl) hc58 rfl) (fun _=>rfl) (oP (fun _ _ p=>gN (p 14 31 rfl rfl) hc58 rfl) (fun _=>rfl) (oP (fun _ _ p=>gN (p 14 31 rfl rfl) hc58 rfl) (fun _=>rfl) (oP (fun _ _ p=>g_undef rfl (p 17 34 rfl rfl) rfl) (fun _=>rfl) (oP (fun _ _ p=>g_undef rfl (p 17 34 rfl rfl) rfl) (fun _=>rfl) (oP (fun _ _ p=>g_undef rfl (p 17 34 rfl rfl) rfl) (fun _=>rfl) (oP (fun _ _ p=>g_undef rfl (p 17 34 rfl rfl) rfl) (fun _=>rfl) (oP (fun _ _ p=>g_undef rfl (p 17 34 rfl rfl) rfl) (fun _=>rfl) (oP (fun _ _ p=>g_undef rfl (p 17 34 rfl rfl) rfl) (fun _=>rfl) (oP (fun _ _ p=>g_undef rfl (p 17 34 rfl rfl) rfl) (fun _=>rfl) (oP (fun _ _ p=>g_undef rfl (p 17 34 rfl rfl) rfl) (fun _=>rfl) (oP (fun _ _ p=>g_undef rfl (p 17 34 rfl rfl) rfl) (fun _=>rfl) (oP (fun _ _ p=>g_undef rfl (p 17 34 rfl rfl) rfl) (fun _=>rfl) (opsS_nil)))))))))))))))))))))))))
 refine ps (g_undef rfl (hT52 17 34 rfl rfl) rfl) (ps (g_undef rfl (hT52 17 34 rfl rfl) rfl) (ps (g_no rfl (Eq.trans (hT52 14 31 rfl rfl) (congrArg Value.bool hc58)) rfl rfl) (L_pick (v:=Bo b51) rfl (Eq.trans (hT52 14 31 rfl rfl) (congrArg Value.bool hc58)) (congrArg Value.bool (so hb51)) (nn ?_))))
 have Z:=Z.get 1 rfl
 exact rj hR55 ⟨H52,hE52,((hS52 1 rfl).trans sf1),((hS52 3 rfl).trans sf3),rfl,(Star.keepN 1 Z)⟩
 rw [ite_f hc58] at hb51
 obtain ⟨b50,hb50,hb51⟩:=bind_some hb51
 rcases Bool.eq_false_or_eq_true (decide ((i_5 : Int) > 0)) with hc71 | hc71
 rw [ite_t hc71] at hb50
 obtain ⟨x31,hx31,hb50⟩:=bind_some hb50
 obtain ⟨x41,hx41,hb50⟩:=bind_some hb50
 obtain ⟨x48,hx48,hb50⟩:=bind_some hb50
 refine W_drawS 28 [isV (Pq g21 1),isV (I x_8.lit),isV (Bo x29),isV (Bo (!x29)),isV (Bo (!x29)),isV (undef),isV (undef),isV (undef),isV (Bo ((!x29) || (decide (x_8.coef < 1)))),isV (Bo ((!x29) || (decide (x_8.coef < 1)))),isV (undef),isV (undef),isV (undef),isV (Bo (((!x29) || (decide (x_8.coef < 1))) || (decide (x_8.coef > 1000)))),isV (Bo (((!x29) || (decide (x_8.coef < 1))) || (decide (x_8.coef > 1000)))),isV (I i_5),isV (Bo (decide ((i_5 : Int) > 0))),isV (Bo (decide ((i_5 : Int) > 0))),isV (Pt g3),isV (v0_0),isV (I i_5),isV (I (i64 ((i_5 : Int) - 1))),isEl rTerm x31 0,isEl rTerm x31 1,isV (I x31.lit),isV (I x41),isV (Pq g21 1),isV (I x_8.lit)] [box g21 122 #[I x_8.coef,I x_8.lit],box g3 73 #[v0_0,I c.bound]] [] ([]) [([],[]),([],[]),([],[]),([],[]),([],[]),([],[]),([],[]),([],[]),([],[]),([],[]),([],[]),([],[]),([],[]),([],[]),([],[]),([],[]),([],[]),([],[]),([],[]),([],[]),([],[]),([],[]),([],[]),([],[]),([],[]),([],[]),([],[]),([],[])] (S:=[]) Tryz_mix (by kernel_rfl) rfl (by kernel_rfl) (amF_cons (mono_V _) (amF_cons (mono_V _) (amF_cons (mono_V _) (amF_cons (mono_V _) (amF_cons (mono_V _) (amF_cons (mono_V _) (amF_cons (mono_V _) (amF_cons (mono_V _) (amF_cons (mono_V _) (amF_cons (mono_V _) (amF_cons (mono_V _) (amF_cons (mono_V _) (amF_cons (mono_V _) (amF_cons (mono_V _) (amF_cons (mono_V _) (amF_cons (mono_V _) (amF_cons (mono_V _) (amF_cons (mono_V _) (amF_cons (mono_V _) (amF_cons (mono_V _) (amF_cons (mono_V _) (amF_cons (mono_V _) (amF_cons (mono_el _ _ _) (amF_cons (mono_el _ _ _) (amF_cons (mono_V _) (amF_cons (mono_V _) (amF_cons (mono_V _) (amF_cons (mono_V _) amF_nil)))))))))))))))))))))))))))) Z ?_ (fun f w_ H52 hS52 hE52 hT52 Z=>?_)
 refine opsS_cons (fun f w_ _ _ s _ _ Z=>fA 1 fa_122_1 ((s 4 rfl).trans rfl) rfl (nO rfl rfl Z)) (opsS_cons (fun f w_ _ _ _ _ p Z=>ldB 0 Z Tryz.isAgg3 (p 0 17 rfl rfl) rfl rfl (nO rfl rfl Z)) (opsS_cons ?_ ?_))
 intro f w_ H52 X52 hS52 hE52 hP52 Z
 obtain ⟨H88b,l89,s90,z91,k92⟩:=Z.borrow
 refine L_call rfl Tryz.call151 (ops1 (hP52 1 18 rfl rfl)) (s_l1Lit_c (n_:=x_8.lit) s90 hx29) ?_
 rintro _ w93 ⟨rfl,Z⟩
 have Z:=k92 Z c0
 exact L_nil ⟨rfl,_,_,rfl,Le.refl _,fun _ _=>rfl,Z⟩
 refine opsS_cons (fun f w_ _ _ _ _ p Z=>L_not_ rfl (p 2 19 rfl rfl) (nO rfl rfl Z)) (opsS_cons (fun f w_ _ _ _ _ p Z=>mF (p 3 20 rfl rfl) rfl (nO rfl rfl Z)) (oP (fun _ _ p=>gN (p 4 21 rfl rfl) hc56 rfl) (fun _=>rfl) (oP (fun _ _ p=>gN (p 4 21 rfl rfl) hc56 rfl) (fun _=>rfl) (oP (fun _ _ p=>gN (p 4 21 rfl rfl) hc56 rfl) (fun _=>rfl) (opsS_cons (fun f w_ _ _ _ _ p Z=>pkT (v:=Bo ((!x29) || (decide (x_8.coef < 1)))) (p 4 21 rfl rfl) hc56 rfl (or_t hc56) (nO rfl rfl Z)) (opsS_cons (fun f w_ _ _ _ _ p Z=>mF (p 8 25 rfl rfl) rfl (nO rfl rfl Z)) (oP (fun _ _ p=>gN (p 9 26 rfl rfl) hc57 rfl) (fun _=>rfl) (oP (fun _ _ p=>gN (p 9 26 rfl rfl) hc57 rfl) (fun _=>rfl) (oP (fun _ _ p=>gN (p 9 26 rfl rfl) hc57 rfl) (fun _=>rfl) (opsS_cons (fun f w_ _ _ _ _ p Z=>pkT (v:=Bo (((!x29) || (decide (x_8.coef < 1))) || (decide (x_8.coef > 1000)))) (p 9 26 rfl rfl) hc57 rfl (or_t hc57) (nO rfl rfl Z)) (opsS_cons (fun f w_ _ _ _ _ p Z=>mF (p 13 30 rfl rfl) rfl (nO rfl rfl Z)) (opsS_cons (fun f w_ _ _ s _ p Z=>L_mv (v:=I i_5) (g_yes rfl (Eq.trans (p 14 31 rfl rfl) (congrArg Value.bool hc58)) rfl) ((s 3 rfl).trans sf3) (nO rfl rfl Z)) (opsS_cons (fun f w_ _ _ _ _ p Z=>L_gtr (g_yes rfl (Eq.trans (p 14 31 rfl rfl) (congrArg Value.bool hc58)) rfl) (p 15 32 rfl rfl) rfl (nO rfl rfl Z)) (opsS_cons (fun f w_ _ _ _ _ p Z=>L_mv (v:=Bo (decide ((i_5 : Int) > 0))) (g_yes rfl (Eq.trans (p 14 31 rfl rfl) (congrArg Value.bool hc58)) rfl) (p 16 33 rfl rfl) (nO rfl rfl Z)) (opsS_cons (fun f w_ _ _ s _ p Z=>L_fa (o':=0) (g_yes rfl (Eq.trans (p 17 34 rfl rfl) (congrArg Value.bool hc71)) rfl) fa_73_0 ((s 1 rfl).trans sf1) rfl (nO rfl rfl Z)) (opsS_cons (fun f w_ _ _ _ _ p Z=>L_ld (v:=v0_0) (g_yes rfl (Eq.trans (p 17 34 rfl rfl) (congrArg Value.bool hc71)) rfl) Tryz.isAgg71 (p 18 35 rfl rfl) (At.cell0 (Blk.at (Star.blkAt 1 Z rfl)) (j:=0) rfl) (nO rfl rfl Z)) (opsS_cons (fun f w_ _ _ s _ p Z=>L_mv (v:=I i_5) (g_yes rfl (Eq.trans (p 17 34 rfl rfl) (congrArg Value.bool hc71)) rfl) ((s 3 rfl).trans sf3) (nO rfl rfl Z)) (opsS_cons (fun f w_ _ _ _ _ p Z=>L_sub (g_yes rfl (Eq.trans (p 17 34 rfl rfl) (congrArg Value.bool hc71)) rfl) (p 20 37 rfl rfl) rfl (nO rfl rfl Z)) (opsS_cons ?_ ?_)))))))))))))))))))
 intro f w_ H52 X52 hS52 hE52 hP52 Z
 refine L_ix (r:=rTerm) (g_yes rfl (Eq.trans (hP52 17 34 rfl rfl) (congrArg Value.bool hc71)) rfl) Tryz.underlying71 Tryz.sizeOf122 (hP52 19 36 rfl rfl) (RP.mono _ h0_0 (Le.trans l7 hE52)) (hP52 21 38 rfl rfl) hx31 (fun g94 o95 cs_g94 hrk_hat96 hat96=>?_)
 obtain rfl:=rTerm_iff.1 hrk_hat96
 exact L_nil ⟨rfl,_,_,rfl,Le.refl _,fun _ _=>⟨_,_,_,rfl,hrk_hat96,hat96⟩,Z⟩
 refine opsS_cons ?_ ?_
 intro f w_ H52 X52 hS52 hE52 hP52 Z
 obtain ⟨g98,o98,cs98,hv98,hrk_hat98,hat98⟩:=(hP52 22 39 rfl rfl)
 obtain rfl:=rTerm_iff.1 hrk_hat98
 refine L_fa (o':=o98 + 1) (g_yes rfl (Eq.trans (hP52 17 34 rfl rfl) (congrArg Value.bool hc71)) rfl) fa_122_1 hv98 rfl (L_nil ⟨rfl,_,_,rfl,Le.refl _,fun _ _=>⟨_,_,_,rfl,hrk_hat98,hat98⟩,Z⟩)
 refine opsS_cons ?_ ?_
 intro f w_ H52 X52 hS52 hE52 hP52 Z
 obtain ⟨g100,o100,cs100,hv100,hrk_hat100,hat100⟩:=(hP52 23 40 rfl rfl)
 obtain rfl:=rTerm_iff.1 hrk_hat100
 refine L_ld (v:=I x31.lit) (g_yes rfl (Eq.trans (hP52 17 34 rfl rfl) (congrArg Value.bool hc71)) rfl) Tryz.isAgg3 hv100 (At.cell (AtH.at hat100 Z.sub) (j:=1) rfl) (L_nil ⟨rfl,_,_,rfl,Le.refl _,fun _ _=>rfl,Z⟩)
 refine opsS_cons ?_ ?_
 intro f w_ H52 X52 hS52 hE52 hP52 Z
 obtain ⟨H102b,l103,s104,z105,k106⟩:=Z.borrow
 refine L_call (g_yes rfl (Eq.trans (hP52 17 34 rfl rfl) (congrArg Value.bool hc71)) rfl) Tryz.call152 (ops1 (hP52 24 41 rfl rfl)) (s_l1Abs_c (n_:=x31.lit) s104 hx41) ?_
 rintro _ w107 ⟨rfl,Z⟩
 have Z:=k106 Z c0
 exact L_nil ⟨rfl,_,_,rfl,Le.refl _,fun _ _=>rfl,Z⟩
 refine opsS_cons (fun f w_ _ _ s _ p Z=>L_fa (o':=1) (g_yes rfl (Eq.trans (p 17 34 rfl rfl) (congrArg Value.bool hc71)) rfl) fa_122_1 ((s 4 rfl).trans rfl) rfl (nO rfl rfl Z)) (opsS_cons (fun f w_ _ _ _ _ p Z=>L_ld (v:=I x_8.lit) (g_yes rfl (Eq.trans (p 17 34 rfl rfl) (congrArg Value.bool hc71)) rfl) Tryz.isAgg3 (p 26 43 rfl rfl) (At.cell0 (Blk.at (Star.blkAt 0 Z rfl)) (j:=1) rfl) (nO rfl rfl Z)) (opsS_nil))
 obtain ⟨H108b,l109,s110,z111,k112⟩:=Z.borrow
 refine L_call (g_yes rfl (Eq.trans (hT52 17 34 rfl rfl) (congrArg Value.bool hc71)) rfl) Tryz.call152 (ops1 (hT52 27 44 rfl rfl)) (s_l1Abs_c (n_:=x_8.lit) s110 hx48) ?_
 rintro _ w113 ⟨rfl,Z⟩
 have Z:=k112 Z c0
 refine L_geq (g_yes rfl (Eq.trans (hT52 17 34 rfl rfl) (congrArg Value.bool hc71)) rfl) (hT52 25 42 rfl rfl) rfl (L_pick (v:=Bo b50) (g_yes rfl (Eq.trans (hT52 14 31 rfl rfl) (congrArg Value.bool hc58)) rfl) (Eq.trans (hT52 17 34 rfl rfl) (congrArg Value.bool hc71)) (congrArg Value.bool (so hb50)) (L_pick (v:=Bo b51) rfl (Eq.trans (hT52 14 31 rfl rfl) (congrArg Value.bool hc58)) (congrArg Value.bool (so hb51)) (nn ?_)))
 have Z:=Z.get 1 rfl
 exact rj hR55 ⟨H52,hE52,((hS52 1 rfl).trans sf1),((hS52 3 rfl).trans sf3),rfl,(Star.keepN 1 Z)⟩
 rw [ite_f hc71] at hb50
 refine W_drawS 28 [isV (Pq g21 1),isV (I x_8.lit),isV (Bo x29),isV (Bo (!x29)),isV (Bo (!x29)),isV (undef),isV (undef),isV (undef),isV (Bo ((!x29) || (decide (x_8.coef < 1)))),isV (Bo ((!x29) || (decide (x_8.coef < 1)))),isV (undef),isV (undef),isV (undef),isV (Bo (((!x29) || (decide (x_8.coef < 1))) || (decide (x_8.coef > 1000)))),isV (Bo (((!x29) || (decide (x_8.coef < 1))) || (decide (x_8.coef > 1000)))),isV (I i_5),isV (Bo (decide ((i_5 : Int) > 0))),isV (Bo (decide ((i_5 : Int) > 0))),isV (undef),isV (undef),isV (undef),isV (undef),isV (undef),isV (undef),isV (undef),isV (undef),isV (undef),isV (undef)] [box g21 122 #[I x_8.coef,I x_8.lit],box g3 73 #[v0_0,I c.bound]] [] ([]) [([],[]),([],[]),([],[]),([],[]),([],[]),([],[]),([],[]),([],[]),([],[]),([],[]),([],[]),([],[]),([],[]),([],[]),([],[]),([],[]),([],[]),([],[]),([],[]),([],[]),([],[]),([],[]),([],[]),([],[]),([],[]),([],[]),([],[]),([],[])] (S:=[]) Tryz_mix (by kernel_rfl) rfl (by kernel_rfl) (amF_cons (mono_V _) (amF_cons (mono_V _) (amF_cons (mono_V _) (amF_cons (mono_V _) (amF_cons (mono_V _) (amF_cons (mono_V _) (amF_cons (mono_V _) (amF_cons (mono_V _) (amF_cons (mono_V _) (amF_cons (mono_V _) (amF_cons (mono_V _) (amF_cons (mono_V _) (amF_cons (mono_V _) (amF_cons (mono_V _) (amF_cons (mono_V _) (amF_cons (mono_V _) (amF_cons (mono_V _) (amF_cons (mono_V _) (amF_cons (mono_V _) (amF_cons (mono_V _) (amF_cons (mono_V _) (amF_cons (mono_V _) (amF_cons (mono_V _) (amF_cons (mono_V _) (amF_cons (mono_V _) (amF_cons (mono_V _) (amF_cons (mono_V _) (amF_cons (mono_V _) amF_nil)))))))))))))))))))))))))))) Z ?_ (fun f w_ H52 hS52 hE52 hT52 Z=>?_)
 refine opsS_cons (fun f w_ _ _ s _ _ Z=>fA 1 fa_122_1 ((s 4 rfl).trans rfl) rfl (nO rfl rfl Z)) (opsS_cons (fun f w_ _ _ _ _ p Z=>ldB 0 Z Tryz.isAgg3 (p 0 17 rfl rfl) rfl rfl (nO rfl rfl Z)) (opsS_cons ?_ ?_))
 intro f w_ H52 X52 hS52 hE52 hP52 Z
 obtain ⟨H120b,l121,s122,z123,k124⟩:=Z.borrow
 refine L_call rfl Tryz.call151 (ops1 (hP52 1 18 rfl rfl)) (s_l1Lit_c (n_:=x_8.lit) s122 hx29) ?_
 rintro _ w125 ⟨rfl,Z⟩
 have Z:=k124 Z c0
 exact L_nil ⟨rfl,_,_,rfl,Le.refl _,fun _ _=>rfl,Z⟩
 refine opsS_cons (fun f w_ _ _ _ _ p Z=>L_not_ rfl (p 2 19 rfl rfl) (nO rfl rfl Z)) (opsS_cons (fun f w_ _ _ _ _ p Z=>mF (p 3 20 rfl rfl) rfl (nO rfl rfl Z)) (oP (fun _ _ p=>gN (p 4 21 rfl rfl) hc56 rfl) (fun _=>rfl) (oP (fun _ _ p=>gN (p 4 21 rfl rfl) hc56 rfl) (fun _=>rfl) (oP (fun _ _ p=>gN (p 4 21 rfl rfl) hc56 rfl) (fun _=>rfl) (opsS_cons (fun f w_ _ _ _ _ p Z=>pkT (v:=Bo ((!x29) || (decide (x_8.coef < 1)))) (p 4 21 rfl rfl) hc56 rfl (or_t hc56) (nO rfl rfl Z)) (opsS_cons (fun f w_ _ _ _ _ p Z=>mF (p 8 25 rfl rfl) rfl (nO rfl rfl Z)) (oP (fun _ _ p=>gN (p 9 26 rfl rfl) hc57 rfl) (fun _=>rfl) (oP (fun _ _ p=>gN (p 9 26 rfl rfl) hc57 rfl) (fun _=>rfl) (oP (fun _ _ p=>gN (p 9 26 rfl rfl) hc57 rfl) (fun _=>rfl) (opsS_cons (fun f w_ _ _ _ _ p Z=>pkT (v:=Bo (((!x29) || (decide (x_8.coef < 1))) || (decide (x_8.coef > 1000)))) (p 9 26 rfl rfl) hc57 rfl (or_t hc57) (nO rfl rfl Z)) (opsS_cons (fun f w_ _ _ _ _ p Z=>mF (p 13 30 rfl rfl) rfl (nO rfl rfl Z)) (opsS_cons (fun f w_ _ _ s _ p Z=>L_mv (v:=I i_5) (g_yes rfl (Eq.trans (p 14 31 rfl rfl) (congrArg Value.bool hc58)) rfl) ((s 3 rfl).trans sf3) (nO rfl rfl Z)) (opsS_cons (fun f w_ _ _ _ _ p Z=>L_gtr (g_yes rfl (Eq.trans (p 14 31 rfl rfl) (congrArg Value.bool hc58)) rfl) (p 15 32 rfl rfl) rfl (nO rfl rfl Z)) (opsS_cons (fun f w_ _ _ _ _ p Z=>L_mv (v:=Bo (decide ((i_5 : Int) > 0))) (g_yes rfl (Eq.trans (p 14 31 rfl rfl) (congrArg Value.bool hc58)) rfl) (p 16 33 rfl rfl) (nO rfl rfl Z)) (oP (fun _ _ p=>gN (p 17 34 rfl rfl) hc71 rfl) (fun _=>rfl) (oP (fun _ _ p=>gN (p 17 34 rfl rfl) hc71 rfl) (fun _=>rfl) (oP (fun _ _ p=>gN (p 17 34 rfl rfl) hc71 rfl) (fun _=>rfl) (oP (fun _ _ p=>gN (p 17 34 rfl rfl) hc71 rfl) (fun _=>rfl) (oP (fun _ _ p=>gN (p 17 34 rfl rfl) hc71 rfl) (fun _=>rfl) (oP (fun _ _ p=>gN (p 17 34 rfl rfl) hc71 rfl) (fun _=>rfl) (oP (fun _ _ p=>gN (p 17 34 rfl rfl) hc71 rfl) (fun _=>rfl) (oP (fun _ _ p=>gN (p 17 34 rfl rfl) hc71 rfl) (fun _=>rfl) (oP (fun _ _ p=>gN (p 17 34 rfl rfl) hc71 rfl) (fun _=>rfl) (oP (fun _ _ p=>gN (p 17 34 rfl rfl) hc71 rfl) (fun _=>rfl) (opsS_nil)))))))))))))))))))))))))
 refine ps (g_no rfl (Eq.trans (hT52 17 34 rfl rfl) (congrArg Value.bool hc71)) rfl rfl) (ps (g_no rfl (Eq.trans (hT52 17 34 rfl rfl) (congrArg Value.bool hc71)) rfl rfl) (L_pick (v:=Bo b50) (g_yes rfl (Eq.trans (hT52 14 31 rfl rfl) (congrArg Value.bool hc58)) rfl) (Eq.trans (hT52 17 34 rfl rfl) (congrArg Value.bool hc71)) (congrArg Value.bool (so hb50)) (L_pick (v:=Bo b51) rfl (Eq.trans (hT52 14 31 rfl rfl) (congrArg Value.bool hc58)) (congrArg Value.bool (so hb51)) (nn ?_))))
 have Z:=Z.get 1 rfl
 exact rj hR55 ⟨H52,hE52,((hS52 1 rfl).trans sf1),((hS52 3 rfl).trans sf3),rfl,(Star.keepN 1 Z)⟩
 rcases Bool.eq_false_or_eq_true (((!x29) || (decide (x_8.coef < 1))) || (decide (x_8.coef > 1000))) with hc126 | hc126
 rw [ite_t hc126] at hb51
 refine W_drawS 28 [isV (Pq g21 1),isV (I x_8.lit),isV (Bo x29),isV (Bo (!x29)),isV (Bo (!x29)),isV (undef),isV (undef),isV (undef),isV (Bo ((!x29) || (decide (x_8.coef < 1)))),isV (Bo ((!x29) || (decide (x_8.coef < 1)))),isV (Pt g21),isV (I x_8.coef),isV (Bo (decide (x_8.coef > 1000))),isV (Bo (((!x29) || (decide (x_8.coef < 1))) || (decide (x_8.coef > 1000)))),isV (Bo (((!x29) || (decide (x_8.coef < 1))) || (decide (x_8.coef > 1000)))),isV (undef),isV (undef),isV (undef),isV (undef),isV (undef),isV (undef),isV (undef),isV (undef),isV (undef),isV (undef),isV (undef),isV (undef),isV (undef)] [box g21 122 #[I x_8.coef,I x_8.lit],box g3 73 #[v0_0,I c.bound]] [] ([]) [([],[]),([],[]),([],[]),([],[]),([],[]),([],[]),([],[]),([],[]),([],[]),([],[]),([],[]),([],[]),([],[]),([],[]),([],[]),([],[]),([],[]),([],[]),([],[]),([],[]),([],[]),([],[]),([],[]),([],[]),([],[]),([],[]),([],[]),([],[])] (S:=[]) Tryz_mix (by kernel_rfl) rfl (by kernel_rfl) (amF_cons (mono_V _) (amF_cons (mono_V _) (amF_cons (mono_V _) (amF_cons (mono_V _) (amF_cons (mono_V _) (amF_cons (mono_V _) (amF_cons (mono_V _) (amF_cons (mono_V _) (amF_cons (mono_V _) (amF_cons (mono_V _) (amF_cons (mono_V _) (amF_cons (mono_V _) (amF_cons (mono_V _) (amF_cons (mono_V _) (amF_cons (mono_V _) (amF_cons (mono_V _) (amF_cons (mono_V _) (amF_cons (mono_V _) (amF_cons (mono_V _) (amF_cons (mono_V _) (amF_cons (mono_V _) (amF_cons (mono_V _) (amF_cons (mono_V _) (amF_cons (mono_V _) (amF_cons (mono_V _) (amF_cons (mono_V _) (amF_cons (mono_V _) (amF_cons (mono_V _) amF_nil)))))))))))))))))))))))))))) Z ?_ (fun f w_ H52 hS52 hE52 hT52 Z=>?_)
 refine opsS_cons (fun f w_ _ _ s _ _ Z=>fA 1 fa_122_1 ((s 4 rfl).trans rfl) rfl (nO rfl rfl Z)) (opsS_cons (fun f w_ _ _ _ _ p Z=>ldB 0 Z Tryz.isAgg3 (p 0 17 rfl rfl) rfl rfl (nO rfl rfl Z)) (opsS_cons ?_ ?_))
 intro f w_ H52 X52 hS52 hE52 hP52 Z
 obtain ⟨H133b,l134,s135,z136,k137⟩:=Z.borrow
 refine L_call rfl Tryz.call151 (ops1 (hP52 1 18 rfl rfl)) (s_l1Lit_c (n_:=x_8.lit) s135 hx29) ?_
 rintro _ w138 ⟨rfl,Z⟩
 have Z:=k137 Z c0
 exact L_nil ⟨rfl,_,_,rfl,Le.refl _,fun _ _=>rfl,Z⟩
 refine opsS_cons (fun f w_ _ _ _ _ p Z=>L_not_ rfl (p 2 19 rfl rfl) (nO rfl rfl Z)) (opsS_cons (fun f w_ _ _ _ _ p Z=>mF (p 3 20 rfl rfl) rfl (nO rfl rfl Z)) (oP (fun _ _ p=>gN (p 4 21 rfl rfl) hc56 rfl) (fun _=>rfl) (oP (fun _ _ p=>gN (p 4 21 rfl rfl) hc56 rfl) (fun _=>rfl) (oP (fun _ _ p=>gN (p 4 21 rfl rfl) hc56 rfl) (fun _=>rfl) (opsS_cons (fun f w_ _ _ _ _ p Z=>pkT (v:=Bo ((!x29) || (decide (x_8.coef < 1)))) (p 4 21 rfl rfl) hc56 rfl (or_t hc56) (nO rfl rfl Z)) (opsS_cons (fun f w_ _ _ _ _ p Z=>mF (p 8 25 rfl rfl) rfl (nO rfl rfl Z)) (opsS_cons (fun f w_ _ _ s _ p Z=>L_fa (o':=0) (g_yes rfl (Eq.trans (p 9 26 rfl rfl) (congrArg Value.bool hc57)) rfl) fa_122_0 ((s 4 rfl).trans rfl) rfl (nO rfl rfl Z)) (opsS_cons (fun f w_ _ _ _ _ p Z=>L_ld (v:=I x_8.coef) (g_yes rfl (Eq.trans (p 9 26 rfl rfl) (congrArg Value.bool hc57)) rfl) Tryz.isAgg3 (p 10 27 rfl rfl) (At.cell0 (Blk.at (Star.blkAt 0 Z rfl)) (j:=0) rfl) (nO rfl rfl Z)) (opsS_cons (fun f w_ _ _ _ _ p Z=>L_gtr (g_yes rfl (Eq.trans (p 9 26 rfl rfl) (congrArg Value.bool hc57)) rfl) (p 11 28 rfl rfl) rfl (nO rfl rfl Z)) (opsS_cons (fun f w_ _ _ _ _ p Z=>pkT (v:=Bo (((!x29) || (decide (x_8.coef < 1))) || (decide (x_8.coef > 1000)))) (p 9 26 rfl rfl) hc57 rfl (or_f hc57 (p 12 29 rfl rfl)) (nO rfl rfl Z)) (opsS_cons (fun f w_ _ _ _ _ p Z=>mF (p 13 30 rfl rfl) rfl (nO rfl rfl Z)) (oP (fun _ _ p=>gN (p 14 31 rfl rfl) hc126 rfl) (fun _=>rfl) (oP (fun _ _ p=>gN (p 14 31 rfl rfl) hc126 rfl) (fun _=>rfl) (oP (fun _ _ p=>gN (p 14 31 rfl rfl) hc126 rfl) (fun _=>rfl) (oP (fun _ _ p=>g_undef rfl (p 17 34 rfl rfl) rfl) (fun _=>rfl) (oP (fun _ _ p=>g_undef rfl (p 17 34 rfl rfl) rfl) (fun _=>rfl) (oP (fun _ _ p=>g_undef rfl (p 17 34 rfl rfl) rfl) (fun _=>rfl) (oP (fun _ _ p=>g_undef rfl (p 17 34 rfl rfl) rfl) (fun _=>rfl) (oP (fun _ _ p=>g_undef rfl (p 17 34 rfl rfl) rfl) (fun _=>rfl) (oP (fun _ _ p=>g_undef rfl (p 17 34 rfl rfl) rfl) (fun _=>rfl) (oP (fun _ _ p=>g_undef rfl (p 17 34 rfl rfl) rfl) (fun _=>rfl) (oP (fun _ _ p=>g_undef rfl (p 17 34 rfl rfl) rfl) (fun _=>rfl) (oP (fun _ _ p=>g_undef rfl (p 17 34 rfl rfl) rfl) (fun _=>rfl) (oP (fun _ _ p=>g_undef rfl (p 17 34 rfl rfl) rfl) (fun _=>rfl) (opsS_nil)))))))))))))))))))))))))
 refine ps (g_undef rfl (hT52 17 34 rfl rfl) rfl) (ps (g_undef rfl (hT52 17 34 rfl rfl) rfl) (ps (g_no rfl (Eq.trans (hT52 14 31 rfl rfl) (congrArg Value.bool hc126)) rfl rfl) (L_pick (v:=Bo b51) rfl (Eq.trans (hT52 14 31 rfl rfl) (congrArg Value.bool hc126)) (congrArg Value.bool (so hb51)) (nn ?_))))
 have Z:=Z.get 1 rfl
 exact rj hR55 ⟨H52,hE52,((hS52 1 rfl).trans sf1),((hS52 3 rfl).trans sf3),rfl,(Star.keepN 1 Z)⟩
 rw [ite_f hc126] at hb51
 obtain ⟨b50,hb50,hb51⟩:=bind_some hb51
 rcases Bool.eq_false_or_eq_true (decide ((i_5 : Int) > 0)) with hc139 | hc139
 rw [ite_t hc139] at hb50
 obtain ⟨x31,hx31,hb50⟩:=bind_some hb50
 obtain ⟨x41,hx41,hb50⟩:=bind_some hb50
 obtain ⟨x48,hx48,hb50⟩:=bind_some hb50
 refine W_drawS 28 [isV (Pq g21 1),isV (I x_8.lit),isV (Bo x29),isV (Bo (!x29)),isV (Bo (!x29)),isV (undef),isV (undef),isV (undef),isV (Bo ((!x29) || (decide (x_8.coef < 1)))),isV (Bo ((!x29) || (decide (x_8.coef < 1)))),isV (Pt g21),isV (I x_8.coef),isV (Bo (decide (x_8.coef > 1000))),isV (Bo (((!x29) || (decide (x_8.coef < 1))) || (decide (x_8.coef > 1000)))),isV (Bo (((!x29) || (decide (x_8.coef < 1))) || (decide (x_8.coef > 1000)))),isV (I i_5),isV (Bo (decide ((i_5 : Int) > 0))),isV (Bo (decide ((i_5 : Int) > 0))),isV (Pt g3),isV (v0_0),isV (I i_5),isV (I (i64 ((i_5 : Int) - 1))),isEl rTerm x31 0,isEl rTerm x31 1,isV (I x31.lit),isV (I x41),isV (Pq g21 1),isV (I x_8.lit)] [box g21 122 #[I x_8.coef,I x_8.lit],box g3 73 #[v0_0,I c.bound]] [] ([]) [([],[]),([],[]),([],[]),([],[]),([],[]),([],[]),([],[]),([],[]),([],[]),([],[]),([],[]),([],[]),([],[]),([],[]),([],[]),([],[]),([],[]),([],[]),([],[]),([],[]),([],[]),([],[]),([],[]),([],[]),([],[]),([],[]),([],[]),([],[])] (S:=[]) Tryz_mix (by kernel_rfl) rfl (by kernel_rfl) (amF_cons (mono_V _) (amF_cons (mono_V _) (amF_cons (mono_V _) (amF_cons (mono_V _) (amF_cons (mono_V _) (amF_cons (mono_V _) (amF_cons (mono_V _) (amF_cons (mono_V _) (amF_cons (mono_V _) (amF_cons (mono_V _) (amF_cons (mono_V _) (amF_cons (mono_V _) (amF_cons (mono_V _) (amF_cons (mono_V _) (amF_cons (mono_V _) (amF_cons (mono_V _) (amF_cons (mono_V _) (amF_cons (mono_V _) (amF_cons (mono_V _) (amF_cons (mono_V _) (amF_cons (mono_V _) (amF_cons (mono_V _) (amF_cons (mono_el _ _ _) (amF_cons (mono_el _ _ _) (amF_cons (mono_V _) (amF_cons (mono_V _) (amF_cons (mono_V _) (amF_cons (mono_V _) amF_nil)))))))))))))))))))))))))))) Z ?_ (fun f w_ H52 hS52 hE52 hT52 Z=>?_)
 refine opsS_cons (fun f w_ _ _ s _ _ Z=>fA 1 fa_122_1 ((s 4 rfl).trans rfl) rfl (nO rfl rfl Z)) (opsS_cons (fun f w_ _ _ _ _ p Z=>ldB 0 Z Tryz.isAgg3 (p 0 17 rfl rfl) rfl rfl (nO rfl rfl Z)) (opsS_cons ?_ ?_))
 intro f w_ H52 X52 hS52 hE52 hP52 Z
 obtain ⟨H156b,l157,s158,z159,k160⟩:=Z.borrow
 refine L_call rfl Tryz.call151 (ops1 (hP52 1 18 rfl rfl)) (s_l1Lit_c (n_:=x_8.lit) s158 hx29) ?_
 rintro _ w161 ⟨rfl,Z⟩
 have Z:=k160 Z c0
 exact L_nil ⟨rfl,_,_,rfl,Le.refl _,fun _ _=>rfl,Z⟩
 refine opsS_cons (fun f w_ _ _ _ _ p Z=>L_not_ rfl (p 2 19 rfl rfl) (nO rfl rfl Z)) (opsS_cons (fun f w_ _ _ _ _ p Z=>mF (p 3 20 rfl rfl) rfl (nO rfl rfl Z)) (oP (fun _ _ p=>gN (p 4 21 rfl rfl) hc56 rfl) (fun _=>rfl) (oP (fun _ _ p=>gN (p 4 21 rfl rfl) hc56 rfl) (fun _=>rfl) (oP (fun _ _ p=>gN (p 4 21 rfl rfl) hc56 rfl) (fun _=>rfl) (opsS_cons (fun f w_ _ _ _ _ p Z=>pkT (v:=Bo ((!x29) || (decide (x_8.coef < 1)))) (p 4 21 rfl rfl) hc56 rfl (or_t hc56) (nO rfl rfl Z)) (opsS_cons (fun f w_ _ _ _ _ p Z=>mF (p 8 25 rfl rfl) rfl (nO rfl rfl Z)) (opsS_cons (fun f w_ _ _ s _ p Z=>L_fa (o':=0) (g_yes rfl (Eq.trans (p 9 26 rfl rfl) (congrArg Value.bool hc57)) rfl) fa_122_0 ((s 4 rfl).trans rfl) rfl (nO rfl rfl Z)) (opsS_cons (fun f w_ _ _ _ _ p Z=>L_ld (v:=I x_8.coef) (g_yes rfl (Eq.trans (p 9 26 rfl rfl) (congrArg Value.bool hc57)) rfl) Tryz.isAgg3 (p 10 27 rfl rfl) (At.cell0 (Blk.at (Star.blkAt 0 Z rfl)) (j:=0) rfl) (nO rfl rfl Z)) (opsS_cons (fun f w_ _ _ _ _ p Z=>L_gtr (g_yes rfl (Eq.trans (p 9 26 rfl rfl) (congrArg Value.bool hc57)) rfl) (p 11 28 rfl rfl) rfl (nO rfl rfl Z)) (opsS_cons (fun f w_ _ _ _ _ p Z=>pkT (v:=Bo (((!x29) || (decide (x_8.coef < 1))) || (decide (x_8.coef > 1000)))) (p 9 26 rfl rfl) hc57 rfl (or_f hc57 (p 12 29 rfl rfl)) (nO rfl rfl Z)) (opsS_cons (fun f w_ _ _ _ _ p Z=>mF (p 13 30 rfl rfl) rfl (nO rfl rfl Z)) (opsS_cons (fun f w_ _ _ s _ p Z=>L_mv (v:=I i_5) (g_yes rfl (Eq.trans (p 14 31 rfl rfl) (congrArg Value.bool hc126)) rfl) ((s 3 rfl).trans sf3) (nO rfl rfl Z)) (opsS_cons (fun f w_ _ _ _ _ p Z=>L_gtr (g_yes rfl (Eq.trans (p 14 31 rfl rfl) (congrArg Value.bool hc126)) rfl) (p 15 32 rfl rfl) rfl (nO rfl rfl Z)) (opsS_cons (fun f w_ _ _ _ _ p Z=>L_mv (v:=Bo (decide ((i_5 : Int) > 0))) (g_yes rfl (Eq.trans (p 14 31 rfl rfl) (congrArg Value.bool hc126)) rfl) (p 16 33 rfl rfl) (nO rfl rfl Z)) (opsS_cons (fun f w_ _ _ s _ p Z=>L_fa (o':=0) (g_yes rfl (Eq.trans (p 17 34 rfl rfl) (congrArg Value.bool hc139)) rfl) fa_73_0 ((s 1 rfl).trans sf1) rfl (nO rfl rfl Z)) (opsS_cons (fun f w_ _ _ _ _ p Z=>L_ld (v:=v0_0) (g_yes rfl (Eq.trans (p 17 34 rfl rfl) (congrArg Value.bool hc139)) rfl) Tryz.isAgg71 (p 18 35 rfl rfl) (At.cell0 (Blk.at (Star.blkAt 1 Z rfl)) (j:=0) rfl) (nO rfl rfl Z)) (opsS_cons (fun f w_ _ _ s _ p Z=>L_mv (v:=I i_5) (g_yes rfl (Eq.trans (p 17 34 rfl rfl) (congrArg Value.bool hc139)) rfl) ((s 3 rfl).trans sf3) (nO rfl rfl Z)) (opsS_cons (fun f w_ _ _ _ _ p Z=>L_sub (g_yes rfl (Eq.trans (p 17 34 rfl rfl) (congrArg Value.bool hc139)) rfl) (p 20 37 rfl rfl) rfl (nO rfl rfl Z)) (opsS_cons ?_ ?_)))))))))))))))))))
 intro f w_ H52 X52 hS52 hE52 hP52 Z
 refine L_ix (r:=rTerm) (g_yes rfl (Eq.trans (hP52 17 34 rfl rfl) (congrArg Value.bool hc139)) rfl) Tryz.underlying71 Tryz.sizeOf122 (hP52 19 36 rfl rfl) (RP.mono _ h0_0 (Le.trans l7 hE52)) (hP52 21 38 rfl rfl) hx31 (fun g162 o163 cs_g162 hrk_hat164 hat164=>?_)
 obtain rfl:=rTerm_iff.1 hrk_hat164
 exact L_nil ⟨rfl,_,_,rfl,Le.refl _,fun _ _=>⟨_,_,_,rfl,hrk_hat164,hat164⟩,Z⟩
 refine opsS_cons ?_ ?_
 intro f w_ H52 X52 hS52 hE52 hP52 Z
 obtain ⟨g166,o166,cs166,hv166,hrk_hat166,hat166⟩:=(hP52 22 39 rfl rfl)
 obtain rfl:=rTerm_iff.1 hrk_hat166
 refine L_fa (o':=o166 + 1) (g_yes rfl (Eq.trans (hP52 17 34 rfl rfl) (congrArg Value.bool hc139)) rfl) fa_122_1 hv166 rfl (L_nil ⟨rfl,_,_,rfl,Le.refl _,fun _ _=>⟨_,_,_,rfl,hrk_hat166,hat166⟩,Z⟩)
 refine opsS_cons ?_ ?_
 intro f w_ H52 X52 hS52 hE52 hP52 Z
 obtain ⟨g168,o168,cs168,hv168,hrk_hat168,hat168⟩:=(hP52 23 40 rfl rfl)
 obtain rfl:=rTerm_iff.1 hrk_hat168
 refine L_ld (v:=I x31.lit) (g_yes rfl (Eq.trans (hP52 17 34 rfl rfl) (congrArg Value.bool hc139)) rfl) Tryz.isAgg3 hv168 (At.cell (AtH.at hat168 Z.sub) (j:=1) rfl) (L_nil ⟨rfl,_,_,rfl,Le.refl _,fun _ _=>rfl,Z⟩)
 refine opsS_cons ?_ ?_
 intro f w_ H52 X52 hS52 hE52 hP52 Z
 obtain ⟨H170b,l171,s172,z173,k174⟩:=Z.borrow
 refine L_call (g_yes rfl (Eq.trans (hP52 17 34 rfl rfl) (congrArg Value.bool hc139)) rfl) Tryz.call152 (ops1 (hP52 24 41 rfl rfl)) (s_l1Abs_c (n_:=x31.lit) s172 hx41) ?_
 rintro _ w175 ⟨rfl,Z⟩
 have Z:=k174 Z c0
 exact L_nil ⟨rfl,_,_,rfl,Le.refl _,fun _ _=>rfl,Z⟩
 refine opsS_cons (fun f w_ _ _ s _ p Z=>L_fa (o':=1) (g_yes rfl (Eq.trans (p 17 34 rfl rfl) (congrArg Value.bool hc139)) rfl) fa_122_1 ((s 4 rfl).trans rfl) rfl (nO rfl rfl Z)) (opsS_cons (fun f w_ _ _ _ _ p Z=>L_ld (v:=I x_8.lit) (g_yes rfl (Eq.trans (p 17 34 rfl rfl) (congrArg Value.bool hc139)) rfl) Tryz.isAgg3 (p 26 43 rfl rfl) (At.cell0 (Blk.at (Star.blkAt 0 Z rfl)) (j:=1) rfl) (nO rfl rfl Z)) (opsS_nil))
 obtain ⟨H176b,l177,s178,z179,k180⟩:=Z.borrow
 refine L_call (g_yes rfl (Eq.trans (hT52 17 34 rfl rfl) (congrArg Value.bool hc139)) rfl) Tryz.call152 (ops1 (hT52 27 44 rfl rfl)) (s_l1Abs_c (n_:=x_8.lit) s178 hx48) ?_
 rintro _ w181 ⟨rfl,Z⟩
 have Z:=k180 Z c0
 refine L_geq (g_yes rfl (Eq.trans (hT52 17 34 rfl rfl) (congrArg Value.bool hc139)) rfl) (hT52 25 42 rfl rfl) rfl (L_pick (v:=Bo b50) (g_yes rfl (Eq.trans (hT52 14 31 rfl rfl) (congrArg Value.bool hc126)) rfl) (Eq.trans (hT52 17 34 rfl rfl) (congrArg Value.bool hc139)) (congrArg Value.bool (so hb50)) (L_pick (v:=Bo b51) rfl (Eq.trans (hT52 14 31 rfl rfl) (congrArg Value.bool hc126)) (congrArg Value.bool (so hb51)) (nn ?_)))
 have Z:=Z.get 1 rfl
 exact rj hR55 ⟨H52,hE52,((hS52 1 rfl).trans sf1),((hS52 3 rfl).trans sf3),rfl,(Star.keepN 1 Z)⟩
 rw [ite_f hc139] at hb50
 refine W_drawS 28 [isV (Pq g21 1),isV (I x_8.lit),isV (Bo x29),isV (Bo (!x29)),isV (Bo (!x29)),isV (undef),isV (undef),isV (undef),isV (Bo ((!x29) || (decide (x_8.coef < 1)))),isV (Bo ((!x29) || (decide (x_8.coef < 1)))),isV (Pt g21),isV (I x_8.coef),isV (Bo (decide (x_8.coef > 1000))),isV (Bo (((!x29) || (decide (x_8.coef < 1))) || (decide (x_8.coef > 1000)))),isV (Bo (((!x29) || (decide (x_8.coef < 1))) || (decide (x_8.coef > 1000)))),isV (I i_5),isV (Bo (decide ((i_5 : Int) > 0))),isV (Bo (decide ((i_5 : Int) > 0))),isV (undef),isV (undef),isV (undef),isV (undef),isV (undef),isV (undef),isV (undef),isV (undef),isV (undef),isV (undef)] [box g21 122 #[I x_8.coef,I x_8.lit],box g3 73 #[v0_0,I c.bound]] [] ([]) [([],[]),([],[]),([],[]),([],[]),([],[]),([],[]),([],[]),([],[]),([],[]),([],[]),([],[]),([],[]),([],[]),([],[]),([],[]),([],[]),([],[]),([],[]),([],[]),([],[]),([],[]),([],[]),([],[]),([],[]),([],[]),([],[]),([],[]),([],[])] (S:=[]) Tryz_mix (by kernel_rfl) rfl (by kernel_rfl) (amF_cons (mono_V _) (amF_cons (mono_V _) (amF_cons (mono_V _) (amF_cons (mono_V _) (amF_cons (mono_V _) (amF_cons (mono_V _) (amF_cons (mono_V _) (amF_cons (mono_V _) (amF_cons (mono_V _) (amF_cons (mono_V _) (amF_cons (mono_V _) (amF_cons (mono_V _) (amF_cons (mono_V _) (amF_cons (mono_V _) (amF_cons (mono_V _) (amF_cons (mono_V _) (amF_cons (mono_V _) (amF_cons (mono_V _) (amF_cons (mono_V _) (amF_cons (mono_V _) (amF_cons (mono_V _) (amF_cons (mono_V _) (amF_cons (mono_V _) (amF_cons (mono_V _) (amF_cons (mono_V _) (amF_cons (mono_V _) (amF_cons (mono_V _) (amF_cons (mono_V _) amF_nil)))))))))))))))))))))))))))) Z ?_ (fun f w_ H52 hS52 hE52 hT52 Z=>?_)
 refine opsS_cons (fun f w_ _ _ s _ _ Z=>fA 1 fa_122_1 ((s 4 rfl).trans rfl) rfl (nO rfl rfl Z)) (opsS_cons (fun f w_ _ _ _ _ p Z=>ldB 0 Z Tryz.isAgg3 (p 0 17 rfl rfl) rfl rfl (nO rfl rfl Z)) (opsS_cons ?_ ?_))
 intro f w_ H52 X52 hS52 hE52 hP52 Z
 obtain ⟨H188b,l189,s190,z191,k192⟩:=Z.borrow
 refine L_call rfl Tryz.call151 (ops1 (hP52 1 18 rfl rfl)) (s_l1Lit_c (n_:=x_8.lit) s190 hx29) ?_
 rintro _ w193 ⟨rfl,Z⟩
 have Z:=k192 Z c0
 exact L_nil ⟨rfl,_,_,rfl,Le.refl _,fun _ _=>rfl,Z⟩
 refine opsS_cons (fun f w_ _ _ _ _ p Z=>L_not_ rfl (p 2 19 rfl rfl) (nO rfl rfl Z)) (opsS_cons (fun f w_ _ _ _ _ p Z=>mF (p 3 20 rfl rfl) rfl (nO rfl rfl Z)) (oP (fun _ _ p=>gN (p 4 21 rfl rfl) hc56 rfl) (fun _=>rfl) (oP (fun _ _ p=>gN (p 4 21 rfl rfl) hc56 rfl) (fun _=>rfl) (oP (fun _ _ p=>gN (p 4 21 rfl rfl) hc56 rfl) (fun _=>rfl) (opsS_cons (fun f w_ _ _ _ _ p Z=>pkT (v:=Bo ((!x29) || (decide (x_8.coef < 1)))) (p 4 21 rfl rfl) hc56 rfl (or_t hc56) (nO rfl rfl Z)) (opsS_cons (fun f w_ _ _ _ _ p Z=>mF (p 8 25 rfl rfl) rfl (nO rfl rfl Z)) (opsS_cons (fun f w_ _ _ s _ p Z=>L_fa (o':=0) (g_yes rfl (Eq.trans (p 9 26 rfl rfl) (congrArg Value.bool hc57)) rfl) fa_122_0 ((s 4 rfl).trans rfl) rfl (nO rfl rfl Z)) (opsS_cons (fun f w_ _ _ _ _ p Z=>L_ld (v:=I x_8.coef) (g_yes rfl (Eq.trans (p 9 26 rfl rfl) (congrArg Value.bool hc57)) rfl) Tryz.isAgg3 (p 10 27 rfl rfl) (At.cell0 (Blk.at (Star.blkAt 0 Z rfl)) (j:=0) rfl) (nO rfl rfl Z)) (opsS_cons (fun f w_ _ _ _ _ p Z=>L_gtr (g_yes rfl (Eq.trans (p 9 26 rfl rfl) (congrArg Value.bool hc57)) rfl) (p 11 28 rfl rfl) rfl (nO rfl rfl Z)) (opsS_cons (fun f w_ _ _ _ _ p Z=>pkT (v:=Bo (((!x29) || (decide (x_8.coef < 1))) || (decide (x_8.coef > 1000)))) (p 9 26 rfl rfl) hc57 rfl (or_f hc57 (p 12 29 rfl rfl)) (nO rfl rfl Z)) (opsS_cons (fun f w_ _ _ _ _ p Z=>mF (p 13 30 rfl rfl) rfl (nO rfl rfl Z)) (opsS_cons (fun f w_ _ _ s _ p Z=>L_mv (v:=I i_5) (g_yes rfl (Eq.trans (p 14 31 rfl rfl) (congrArg Value.bool hc126)) rfl) ((s 3 rfl).trans sf3) (nO rfl rfl Z)) (opsS_cons (fun f w_ _ _ _ _ p Z=>L_gtr (g_yes rfl (Eq.trans (p 14 31 rfl rfl) (congrArg Value.bool hc126)) rfl) (p 15 32 rfl rfl) rfl (nO rfl rfl Z)) (opsS_cons (fun f w_ _ _ _ _ p Z=>L_mv (v:=Bo (decide ((i_5 : Int) > 0))) (g_yes rfl (Eq.trans (p 14 31 rfl rfl) (congrArg Value.bool hc126)) rfl) (p 16 33 rfl rfl) (nO rfl rfl Z)) (oP (fun _ _ p=>gN (p 17 34 rfl rfl) hc139 rfl) (fun _=>rfl) (oP (fun _ _ p=>gN (p 17 34 rfl rfl) hc139 rfl) (fun _=>rfl) (oP (fun _ _ p=>gN (p 17 34 rfl rfl) hc139 rfl) (fun _=>rfl) (oP (fun _ _ p=>gN (p 17 34 rfl rfl) hc139 rfl) (fun _=>rfl) (oP (fun _ _ p=>gN (p 17 34 rfl rfl) hc139 rfl) (fun _=>rfl) (oP (fun _ _ p=>gN (p 17 34 rfl rfl) hc139 rfl) (fun _=>rfl) (oP (fun _ _ p=>gN (p 17 34 rfl rfl) hc139 rfl) (fun _=>rfl) (oP (fun _ _ p=>gN (p 17 34 rfl rfl) hc139 rfl) (fun _=>rfl) (oP (fun _ _ p=>gN (p 17 34 rfl rfl) hc139 rfl) (fun _=>rfl) (oP (fun _ _ p=>gN (p 17 34 rfl rfl) hc139 rfl) (fun _=>rfl) (opsS_nil)))))))))))))))))))))))))
 refine ps (g_no rfl (Eq.trans (hT52 17 34 rfl rfl) (congrArg Value.bool hc139)) rfl rfl) (ps (g_no rfl (Eq.trans (hT52 17 34 rfl rfl) (congrArg Value.bool hc139)) rfl rfl) (L_pick (v:=Bo b50) (g_yes rfl (Eq.trans (hT52 14 31 rfl rfl) (congrArg Value.bool hc126)) rfl) (Eq.trans (hT52 17 34 rfl rfl) (congrArg Value.bool hc139)) (congrArg Value.bool (so hb50)) (L_pick (v:=Bo b51) rfl (Eq.trans (hT52 14 31 rfl rfl) (congrArg Value.bool hc126)) (congrArg Value.bool (so hb51)) (nn ?_))))
 have Z:=Z.get 1 rfl
 exact rj hR55 ⟨H52,hE52,((hS52 1 rfl).trans sf1),((hS52 3 rfl).trans sf3),rfl,(Star.keepN 1 Z)⟩
 rcases Bool.eq_false_or_eq_true ((!x29) || (decide (x_8.coef < 1))) with hc194 | hc194
 rcases Bool.eq_false_or_eq_true (((!x29) || (decide (x_8.coef < 1))) || (decide (x_8.coef > 1000))) with hc195 | hc195
 rw [ite_t hc195] at hb51
 refine W_drawS 28 [isV (Pq g21 1),isV (I x_8.lit),isV (Bo x29),isV (Bo (!x29)),isV (Bo (!x29)),isV (Pt g21),isV (I x_8.coef),isV (Bo (decide (x_8.coef < 1))),isV (Bo ((!x29) || (decide (x_8.coef < 1)))),isV (Bo ((!x29) || (decide (x_8.coef < 1)))),isV (undef),isV (undef),isV (undef),isV (Bo (((!x29) || (decide (x_8.coef < 1))) || (decide (x_8.coef > 1000)))),isV (Bo (((!x29) || (decide (x_8.coef < 1))) || (decide (x_8.coef > 1000)))),isV (undef),isV (undef),isV (undef),isV (undef),isV (undef),isV (undef),isV (undef),isV (undef),isV (undef),isV (undef),isV (undef),isV (undef),isV (undef)] [box g21 122 #[I x_8.coef,I x_8.lit],box g3 73 #[v0_0,I c.bound]] [] ([]) [([],[]),([],[]),([],[]),([],[]),([],[]),([],[]),([],[]),([],[]),([],[]),([],[]),([],[]),([],[]),([],[]),([],[]),([],[]),([],[]),([],[]),([],[]),([],[]),([],[]),([],[]),([],[]),([],[]),([],[]),([],[]),([],[]),([],[]),([],[])] (S:=[]) Tryz_mix (by kernel_rfl) rfl (by kernel_rfl) (amF_cons (mono_V _) (amF_cons (mono_V _) (amF_cons (mono_V _) (amF_cons (mono_V _) (amF_cons (mono_V _) (amF_cons (mono_V _) (amF_cons (mono_V _) (amF_cons (mono_V _) (amF_cons (mono_V _) (amF_cons (mono_V _) (amF_cons (mono_V _) (amF_cons (mono_V _) (amF_cons (mono_V _) (amF_cons (mono_V _) (amF_cons (mono_V _) (amF_cons (mono_V _) (amF_cons (mono_V _) (amF_cons (mono_V _) (amF_cons (mono_V _) (amF_cons (mono_V _) (amF_cons (mono_V _) (amF_cons (mono_V _) (amF_cons (mono_V _) (amF_cons (mono_V _) (amF_cons (mono_V _) (amF_cons (mono_V _) (amF_cons (mono_V _) (amF_cons (mono_V _) amF_nil)))))))))))))))))))))))))))) Z ?_ (fun f w_ H52 hS52 hE52 hT52 Z=>?_)
 refine opsS_cons (fun f w_ _ _ s _ _ Z=>fA 1 fa_122_1 ((s 4 rfl).trans rfl) rfl (nO rfl rfl Z)) (opsS_cons (fun f w_ _ _ _ _ p Z=>ldB 0 Z Tryz.isAgg3 (p 0 17 rfl rfl) rfl rfl (nO rfl rfl Z)) (opsS_cons ?_ ?_))
 intro f w_ H52 X52 hS52 hE52 hP52 Z
 obtain ⟨H202b,l203,s204,z205,k206⟩:=Z.borrow
 refine L_call rfl Tryz.call151 (ops1 (hP52 1 18 rfl rfl)) (s_l1Lit_c (n_:=x_8.lit) s204 hx29) ?_
 rintro _ w207 ⟨rfl,Z⟩
 have Z:=k206 Z c0
 exact L_nil ⟨rfl,_,_,rfl,Le.refl _,fun _ _=>rfl,Z⟩
 refine opsS_cons (fun f w_ _ _ _ _ p Z=>L_not_ rfl (p 2 19 rfl rfl) (nO rfl rfl Z)) (opsS_cons (fun f w_ _ _ _ _ p Z=>mF (p 3 20 rfl rfl) rfl (nO rfl rfl Z)) (opsS_cons (fun f w_ _ _ s _ p Z=>L_fa (o':=0) (g_yes rfl (Eq.trans (p 4 21 rfl rfl) (congrArg Value.bool hc56)) rfl) fa_122_0 ((s 4 rfl).trans rfl) rfl (nO rfl rfl Z)) (opsS_cons (fun f w_ _ _ _ _ p Z=>L_ld (v:=I x_8.coef) (g_yes rfl (Eq.trans (p 4 21 rfl rfl) (congrArg Value.bool hc56)) rfl) Tryz.isAgg3 (p 5 22 rfl rfl) (At.cell0 (Blk.at (Star.blkAt 0 Z rfl)) (j:=0) rfl) (nO rfl rfl Z)) (opsS_cons (fun f w_ _ _ _ _ p Z=>L_lss (g_yes rfl (Eq.trans (p 4 21 rfl rfl) (congrArg Value.bool hc56)) rfl) (p 6 23 rfl rfl) rfl (nO rfl rfl Z)) (opsS_cons (fun f w_ _ _ _ _ p Z=>pkT (v:=Bo ((!x29) || (decide (x_8.coef < 1)))) (p 4 21 rfl rfl) hc56 rfl (or_f hc56 (p 7 24 rfl rfl)) (nO rfl rfl Z)) (opsS_cons (fun f w_ _ _ _ _ p Z=>mF (p 8 25 rfl rfl) rfl (nO rfl rfl Z)) (oP (fun _ _ p=>gN (p 9 26 rfl rfl) hc194 rfl) (fun _=>rfl) (oP (fun _ _ p=>gN (p 9 26 rfl rfl) hc194 rfl) (fun _=>rfl) (oP (fun _ _ p=>gN (p 9 26 rfl rfl) hc194 rfl) (fun _=>rfl) (opsS_cons (fun f w_ _ _ _ _ p Z=>pkT (v:=Bo (((!x29) || (decide (x_8.coef < 1))) || (decide (x_8.coef > 1000)))) (p 9 26 rfl rfl) hc194 rfl (or_t hc194) (nO rfl rfl Z)) (opsS_cons (fun f w_ _ _ _ _ p Z=>mF (p 13 30 rfl rfl) rfl (nO rfl rfl Z)) (oP (fun _ _ p=>gN (p 14 31 rfl rfl) hc195 rfl) (fun _=>rfl) (oP (fun _ _ p=>gN (p 14 31 rfl rfl) hc195 rfl) (fun _=>rfl) (oP (fun _ _ p=>gN (p 14 31 rfl rfl) hc195 rfl) (fun _=>rfl) (oP (fun _ _ p=>g_undef rfl (p 17 34 rfl rfl) rfl) (fun _=>rfl) (oP (fun _ _ p=>g_undef rfl (p 17 34 rfl rfl) rfl) (fun _=>rfl) (oP (fun _ _ p=>g_undef rfl (p 17 34 rfl rfl) rfl) (fun _=>rfl) (oP (fun _ _ p=>g_undef rfl (p 17 34 rfl rfl) rfl) (fun _=>rfl) (oP (fun _ _ p=>g_undef rfl (p 17 34 rfl rfl) rfl) (fun _=>rfl) (oP (fun _ _ p=>g_undef rfl (p 17 34 rfl rfl) rfl) (fun _=>rfl) (oP (fun _ _ p=>g_undef rfl (p 17 34 rfl rfl) rfl) (fun _=>rfl) (oP (fun _ _ p=>g_undef rfl (p 17 34 rfl rfl) rfl) (fun _=>rfl) (oP (fun _ _ p=>g_undef rfl (p 17 34 rfl rfl) rfl) (fun _=>rfl) (oP (fun _ _ p=>g_undef rfl (p 17 34 rfl rfl) rfl) (fun _=>rfl) (opsS_nil)))))))))))))))))))))))))
 refine ps (g_undef rfl (hT52 17 34 rfl rfl) rfl) (ps (g_undef rfl (hT52 17 34 rfl rfl) rfl) (ps (g_no rfl (Eq.trans (hT52 14 31 rfl rfl) (congrArg Value.bool hc195)) rfl rfl) (L_pick (v:=Bo b51) rfl (Eq.trans (hT52 14 31 rfl rfl) (congrArg Value.bool hc195)) (congrArg Value.bool (so hb51)) (nn ?_))))
 have Z:=Z.get 1 rfl
 exact rj hR55 ⟨H52,hE52,((hS52 1 rfl).trans sf1),((hS52 3 rfl).trans sf3),rfl,(Star.keepN 1 Z)⟩
 rw [ite_f hc195] at hb51
 obtain ⟨b50,hb50,hb51⟩:=bind_some hb51
 rcases Bool.eq_false_or_eq_true (decide ((i_5 : Int) > 0)) with hc208 | hc208
 rw [ite_t hc208] at hb50
 obtain ⟨x31,hx31,hb50⟩:=bind_some hb50
 obtain ⟨x41,hx41,hb50⟩:=bind_some hb50
 obtain ⟨x48,hx48,hb50⟩:=bind_some hb50
 refine W_drawS 28 [isV (Pq g21 1),isV (I x_8.lit),isV (Bo x29),isV (Bo (!x29)),isV (Bo (!x29)),isV (Pt g21),isV (I x_8.coef),isV (Bo (decide (x_8.coef < 1))),isV (Bo ((!x29) || (decide (x_8.coef < 1)))),isV (Bo ((!x29) || (decide (x_8.coef < 1)))),isV (undef),isV (undef),isV (undef),isV (Bo (((!x29) || (decide (x_8.coef < 1))) || (decide (x_8.coef > 1000)))),isV (Bo (((!x29) || (decide (x_8.coef < 1))) || (decide (x_8.coef > 1000)))),isV (I i_5),isV (Bo (decide ((i_5 : Int) > 0))),isV (Bo (decide ((i_5 : Int) > 0))),isV (Pt g3),isV (v0_0),isV (I i_5),isV (I (i64 ((i_5 : Int) - 1))),isEl rTerm x31 0,isEl rTerm x31 1,isV (I x31.lit),isV (I x41),isV (Pq g21 1),isV (I x_8.lit)] [box g21 122 #[I x_8.coef,I x_8.lit],box g3 73 #[v0_0,I c.bound]] [] ([]) [([],[]),([],[]),([],[]),([],[]),([],[]),([],[]),([],[]),([],[]),([],[]),([],[]),([],[]),([],[]),([],[]),([],[]),([],[]),([],[]),([],[]),([],[]),([],[]),([],[]),([],[]),([],[]),([],[]),([],[]),([],[]),([],[]),([],[]),([],[])] (S:=[]) Tryz_mix (by kernel_rfl) rfl (by kernel_rfl) (amF_cons (mono_V _) (amF_cons (mono_V _) (amF_cons (mono_V _) (amF_cons (mono_V _) (amF_cons (mono_V _) (amF_cons (mono_V _) (amF_cons (mono_V _) (amF_cons (mono_V _) (amF_cons (mono_V _) (amF_cons (mono_V _) (amF_cons (mono_V _) (amF_cons (mono_V _) (amF_cons (mono_V _) (amF_cons (mono_V _) (amF_cons (mono_V _) (amF_cons (mono_V _) (amF_cons (mono_V _) (amF_cons (mono_V _) (amF_cons (mono_V _) (amF_cons (mono_V _) (amF_cons (mono_V _) (amF_cons (mono_V _) (amF_cons (mono_el _ _ _) (amF_cons (mono_el _ _ _) (amF_cons (mono_V _) (amF_cons (mono_V _) (amF_cons (mono_V _) (amF_cons (mono_V _) amF_nil)))))))))))))))))))))))))))) Z ?_ (fun f w_ H52 hS52 hE52 hT52 Z=>?_)
 refine opsS_cons (fun f w_ _ _ s _ _ Z=>fA 1 fa_122_1 ((s 4 rfl).trans rfl) rfl (nO rfl rfl Z)) (opsS_cons (fun f w_ _ _ _ _ p Z=>ldB 0 Z Tryz.isAgg3 (p 0 17 rfl rfl) rfl rfl (nO rfl rfl Z)) (opsS_cons ?_ ?_))
 intro f w_ H52 X52 hS52 hE52 hP52 Z
 obtain ⟨H225b,l226,s227,z228,k229⟩:=Z.borrow
 refine L_call rfl Tryz.call151 (ops1 (hP52 1 18 rfl rfl)) (s_l1Lit_c (n_:=x_8.lit) s227 hx29) ?_
 rintro _ w230 ⟨rfl,Z⟩
 have Z:=k229 Z c0
 exact L_nil ⟨rfl,_,_,rfl,Le.refl _,fun _ _=>rfl,Z⟩
 refine opsS_cons (fun f w_ _ _ _ _ p Z=>L_not_ rfl (p 2 19 rfl rfl) (nO rfl rfl Z)) (opsS_cons (fun f w_ _ _ _ _ p Z=>mF (p 3 20 rfl rfl) rfl (nO rfl rfl Z)) (opsS_cons (fun f w_ _ _ s _ p Z=>L_fa (o':=0) (g_yes rfl (Eq.trans (p 4 21 rfl rfl) (congrArg Value.bool hc56)) rfl) fa_122_0 ((s 4 rfl).trans rfl) rfl (nO rfl rfl Z)) (opsS_cons (fun f w_ _ _ _ _ p Z=>L_ld (v:=I x_8.coef) (g_yes rfl (Eq.trans (p 4 21 rfl rfl) (congrArg Value.bool hc56)) rfl) Tryz.isAgg3 (p 5 22 rfl rfl) (At.cell0 (Blk.at (Star.blkAt 0 Z rfl)) (j:=0) rfl) (nO rfl rfl Z)) (opsS_cons (fun f w_ _ _ _ _ p Z=>L_lss (g_yes rfl (Eq.trans (p 4 21 rfl rfl) (congrArg Value.bool hc56)) rfl) (p 6 23 rfl rfl) rfl (nO rfl rfl Z)) (opsS_cons (fun f w_ _ _ _ _ p Z=>pkT (v:=Bo ((!x29) || (decide (x_8.coef < 1)))) (p 4 21 rfl rfl) hc56 rfl (or_f hc56 (p 7 24 rfl rfl)) (nO rfl rfl Z)) (opsS_cons (fun f w_ _ _ _ _ p Z=>mF (p 8 25 rfl rfl) rfl (nO rfl rfl Z)) (oP (fun _ _ p=>gN (p 9 26 rfl rfl) hc194 rfl) (fun _=>rfl) (oP (fun _ _ p=>gN (p 9 26 rfl rfl) hc194 rfl) (fun _=>rfl) (oP (fun _ _ p=>gN (p 9 26 rfl rfl) hc194 rfl) (fun _=>rfl) (opsS_cons (fun f w_ _ _ _ _ p Z=>pkT (v:=Bo (((!x29) || (decide (x_8.coef < 1))) || (decide (x_8.coef > 1000)))) (p 9 26 rfl rfl) hc194 rfl (or_t hc194) (nO rfl rfl Z)) (opsS_cons (fun f w_ _ _ _ _ p Z=>mF (p 13 30 rfl rfl) rfl (nO rfl rfl Z)) (opsS_cons (fun f w_ _ _ s _ p Z=>L_mv (v:=I i_5) (g_yes rfl (Eq.trans (p 14 31 rfl rfl) (congrArg Value.bool hc195)) rfl) ((s 3 rfl).trans sf3) (nO rfl rfl Z)) (opsS_cons (fun f w_ _ _ _ _ p Z=>L_gtr (g_yes rfl (Eq.trans (p 14 31 rfl rfl) (congrArg Value.bool hc195)) rfl) (p 15 32 rfl rfl) rfl (nO rfl rfl Z)) (opsS_cons (fun f w_ _ _ _ _ p Z=>L_mv (v:=Bo (decide ((i_5 : Int) > 0))) (g_yes rfl (Eq.trans (p 14 31 rfl rfl) (congrArg Value.bool hc195)) rfl) (p 16 33 rfl rfl) (nO rfl rfl Z)) (opsS_cons (fun f w_ _ _ s _ p Z=>L_fa (o':=0) (g_yes rfl (Eq.trans (p 17 34 rfl rfl) (congrArg Value.bool hc208)) rfl) fa_73_0 ((s 1 rfl).trans sf1) rfl (nO rfl rfl Z)) (opsS_cons (fun f w_ _ _ _ _ p Z=>L_ld (v:=v0_0) (g_yes rfl (Eq.trans (p 17 34 rfl rfl) (congrArg Value.bool hc208)) rfl) Tryz.isAgg71 (p 18 35 rfl rfl) (At.cell0 (Blk.at (Star.blkAt 1 Z rfl)) (j:=0) rfl) (nO rfl rfl Z)) (opsS_cons (fun f w_ _ _ s _ p Z=>L_mv (v:=I i_5) (g_yes rfl (Eq.trans (p 17 34 rfl rfl) (congrArg Value.bool hc208)) rfl) ((s 3 rfl).trans sf3) (nO rfl rfl Z)) (opsS_cons (fun f w_ _ _ _ _ p Z=>L_sub (g_yes rfl (Eq.trans (p 17 34 rfl rfl) (congrArg Value.bool hc208)) rfl) (p 20 37 rfl rfl) rfl (nO rfl rfl Z)) (opsS_cons ?_ ?_)))))))))))))))))))
 intro f w_ H52 X52 hS52 hE52 hP52 Z
 refine L_ix (r:=rTerm) (g_yes rfl (Eq.trans (hP52 17 34 rfl rfl) (congrArg Value.bool hc208)) rfl) Tryz.underlying71 Tryz.sizeOf122 (hP52 19 36 rfl rfl) (RP.mono _ h0_0 (Le.trans l7 hE52)) (hP52 21 38 rfl rfl) hx31 (fun g231 o232 cs_g231 hrk_hat233 hat233=>?_)
 obtain rfl:=rTerm_iff.1 hrk_hat233
 exact L_nil ⟨rfl,_,_,rfl,Le.refl _,fun _ _=>⟨_,_,_,rfl,hrk_hat233,hat233⟩,Z⟩
 refine opsS_cons ?_ ?_
 intro f w_ H52 X52 hS52 hE52 hP52 Z
 obtain ⟨g235,o235,cs235,hv235,hrk_hat235,hat235⟩:=(hP52 22 39 rfl rfl)
 obtain rfl:=rTerm_iff.1 hrk_hat235
 refine L_fa (o':=o235 + 1) (g_yes rfl (Eq.trans (hP52 17 34 rfl rfl) (congrArg Value.bool hc208)) rfl) fa_122_1 hv235 rfl (L_nil ⟨rfl,_,_,rfl,Le.refl _,fun _ _=>⟨_,_,_,rfl,hrk_hat235,hat235⟩,Z⟩)
 refine opsS_cons ?_ ?_
 intro f w_ H52 X52 hS52 hE52 hP52 Z
 obtain ⟨g237,o237,cs237,hv237,hrk_hat237,hat237⟩:=(hP52 23 40 rfl rfl)
 obtain rfl:=rTerm_iff.1 hrk_hat237
 refine L_ld (v:=I x31.lit) (g_yes rfl (Eq.trans (hP52 17 34 rfl rfl) (congrArg Value.bool hc208)) rfl) Tryz.isAgg3 hv237 (At.cell (AtH.at hat237 Z.sub) (j:=1) rfl) (L_nil ⟨rfl,_,_,rfl,Le.refl _,fun _ _=>rfl,Z⟩)
 refine opsS_cons ?_ ?_
 intro f w_ H52 X52 hS52 hE52 hP52 Z
 obtain ⟨H239b,l240,s241,z242,k243⟩:=Z.borrow
 refine L_call (g_yes rfl (Eq.trans (hP52 17 34 rfl rfl) (congrArg Value.bool hc208)) rfl) Tryz.call152 (ops1 (hP52 24 41 rfl rfl)) (s_l1Abs_c (n_:=x31.lit) s241 hx41) ?_
 rintro _ w244 ⟨rfl,Z⟩
 have Z:=k243 Z c0
 exact L_nil ⟨rfl,_,_,rfl,Le.refl _,fun _ _=>rfl,Z⟩
 refine opsS_cons (fun f w_ _ _ s _ p Z=>L_fa (o':=1) (g_yes rfl (Eq.trans (p 17 34 rfl rfl) (congrArg Value.bool hc208)) rfl) fa_122_1 ((s 4 rfl).trans rfl) rfl (nO rfl rfl Z)) (opsS_cons (fun f w_ _ _ _ _ p Z=>L_ld (v:=I x_8.lit) (g_yes rfl (Eq.trans (p 17 34 rfl rfl) (congrArg Value.bool hc208)) rfl) Tryz.isAgg3 (p 26 43 rfl rfl) (At.cell0 (Blk.at (Star.blkAt 0 Z rfl)) (j:=1) rfl) (nO rfl rfl Z)) (opsS_nil))
 obtain ⟨H245b,l246,s247,z248,k249⟩:=Z.borrow
 refine L_call (g_yes rfl (Eq.trans (hT52 17 34 rfl rfl) (congrArg Value.bool hc208)) rfl) Tryz.call152 (ops1 (hT52 27 44 rfl rfl)) (s_l1Abs_c (n_:=x_8.lit) s247 hx48) ?_
 rintro _ w250 ⟨rfl,Z⟩
 have Z:=k249 Z c0
 refine L_geq (g_yes rfl (Eq.trans (hT52 17 34 rfl rfl) (congrArg Value.bool hc208)) rfl) (hT52 25 42 rfl rfl) rfl (L_pick (v:=Bo b50) (g_yes rfl (Eq.trans (hT52 14 31 rfl rfl) (congrArg Value.bool hc195)) rfl) (Eq.trans (hT52 17 34 rfl rfl) (congrArg Value.bool hc208)) (congrArg Value.bool (so hb50)) (L_pick (v:=Bo b51) rfl (Eq.trans (hT52 14 31 rfl rfl) (congrArg Value.bool hc195)) (congrArg Value.bool (so hb51)) (nn ?_)))
 have Z:=Z.get 1 rfl
 exact rj hR55 ⟨H52,hE52,((hS52 1 rfl).trans sf1),((hS52 3 rfl).trans sf3),rfl,(Star.keepN 1 Z)⟩
 rw [ite_f hc208] at hb50
 refine W_drawS 28 [isV (Pq g21 1),isV (I x_8.lit),isV (Bo x29),isV (Bo (!x29)),isV (Bo (!x29)),isV (Pt g21),isV (I x_8.coef),isV (Bo (decide (x_8.coef < 1))),isV (Bo ((!x29) || (decide (x_8.coef < 1)))),isV (Bo ((!x29) || (decide (x_8.coef < 1)))),isV (undef),isV (undef),isV (undef),isV (Bo (((!x29) || (decide (x_8.coef < 1))) || (decide (x_8.coef > 1000)))),isV (Bo (((!x29) || (decide (x_8.coef < 1))) || (decide (x_8.coef > 1000)))),isV (I i_5),isV (Bo (decide ((i_5 : Int) > 0))),isV (Bo (decide ((i_5 : Int) > 0))),isV (undef),isV (undef),isV (undef),isV (undef),isV (undef),isV (undef),isV (undef),isV (undef),isV (undef),isV (undef)] [box g21 122 #[I x_8.coef,I x_8.lit],box g3 73 #[v0_0,I c.bound]] [] ([]) [([],[]),([],[]),([],[]),([],[]),([],[]),([],[]),([],[]),([],[]),([],[]),([],[]),([],[]),([],[]),([],[]),([],[]),([],[]),([],[]),([],[]),([],[]),([],[]),([],[]),([],[]),([],[]),([],[]),([],[]),([],[]),([],[]),([],[]),([],[])] (S:=[]) Tryz_mix (by kernel_rfl) rfl (by kernel_rfl) (amF_cons (mono_V _) (amF_cons (mono_V _) (amF_cons (mono_V _) (amF_cons (mono_V _) (amF_cons (mono_V _) (amF_cons (mono_V _) (amF_cons (mono_V _) (amF_cons (mono_V _) (amF_cons (mono_V _) (amF_cons (mono_V _) (amF_cons (mono_V _) (amF_cons (mono_V _) (amF_cons (mono_V _) (amF_cons (mono_V _) (amF_cons (mono_V _) (amF_cons (mono_V _) (amF_cons (mono_V _) (amF_cons (mono_V _) (amF_cons (mono_V _) (amF_cons (mono_V _) (amF_cons (mono_V _) (amF_cons (mono_V _) (amF_cons (mono_V _) (amF_cons (mono_V _) (amF_cons (mono_V _) (amF_cons (mono_V _) (amF_cons (mono_V _) (amF_cons (mono_V _) amF_nil)))))))))))))))))))))))))))) Z ?_ (fun f w_ H52 hS52 hE52 hT52 Z=>?_)
 refine opsS_cons (fun f w_ _ _ s _ _ Z=>fA 1 fa_122_1 ((s 4 rfl).trans rfl) rfl (nO rfl rfl Z)) (opsS_cons (fun f w_ _ _ _ _ p Z=>ldB 0 Z Tryz.isAgg3 (p 0 17 rfl rfl) rfl rfl (nO rfl rfl Z)) (opsS_cons ?_ ?_))
 intro f w_ H52 X52 hS52 hE52 hP52 Z
 obtain ⟨H257b,l258,s259,z260,k261⟩:=Z.borrow
 refine L_call rfl Tryz.call151 (ops1 (hP52 1 18 rfl rfl)) (s_l1Lit_c (n_:=x_8.lit) s259 hx29) ?_
 rintro _ w262 ⟨rfl,Z⟩
 have Z:=k261 Z c0
 exact L_nil ⟨rfl,_,_,rfl,Le.refl _,fun _ _=>rfl,Z⟩
 refine opsS_cons (fun f w_ _ _ _ _ p Z=>L_not_ rfl (p 2 19 rfl rfl) (nO rfl rfl Z)) (opsS_cons (fun f w_ _ _ _ _ p Z=>mF (p 3 20 rfl rfl) rfl (nO rfl rfl Z)) (opsS_cons (fun f w_ _ _ s _ p Z=>L_fa (o':=0) (g_yes rfl (Eq.trans (p 4 21 rfl rfl) (congrArg Value.bool hc56)) rfl) fa_122_0 ((s 4 rfl).trans rfl) rfl (nO rfl rfl Z)) (opsS_cons (fun f w_ _ _ _ _ p Z=>L_ld (v:=I x_8.coef) (g_yes rfl (Eq.trans (p 4 21 rfl rfl) (congrArg Value.bool hc56)) rfl) Tryz.isAgg3 (p 5 22 rfl rfl) (At.cell0 (Blk.at (Star.blkAt 0 Z rfl)) (j:=0) rfl) (nO rfl rfl Z)) (opsS_cons (fun f w_ _ _ _ _ p Z=>L_lss (g_yes rfl (Eq.trans (p 4 21 rfl rfl) (congrArg Value.bool hc56)) rfl) (p 6 23 rfl rfl) rfl (nO rfl rfl Z)) (opsS_cons (fun f w_ _ _ _ _ p Z=>pkT (v:=Bo ((!x29) || (decide (x_8.coef < 1)))) (p 4 21 rfl rfl) hc56 rfl (or_f hc56 (p 7 24 rfl rfl)) (nO rfl rfl Z)) (opsS_cons (fun f w_ _ _ _ _ p Z=>mF (p 8 25 rfl rfl) rfl (nO rfl rfl Z)) (oP (fun _ _ p=>gN (p 9 26 rfl rfl) hc194 rfl) (fun _=>rfl) (oP (fun _ _ p=>gN (p 9 26 rfl rfl) hc194 rfl) (fun _=>rfl) (oP (fun _ _ p=>gN (p 9 26 rfl rfl) hc194 rfl) (fun _=>rfl) (opsS_cons (fun f w_ _ _ _ _ p Z=>pkT (v:=Bo (((!x29) || (decide (x_8.coef < 1))) || (decide (x_8.coef > 1000)))) (p 9 26 rfl rfl) hc194 rfl (or_t hc194) (nO rfl rfl Z)) (opsS_cons (fun f w_ _ _ _ _ p Z=>mF (p 13 30 rfl rfl) rfl (nO rfl rfl Z)) (opsS_cons (fun f w_ _ _ s _ p Z=>L_mv (v:=I i_5) (g_yes rfl (Eq.trans (p 14 31 rfl rfl) (congrArg Value.bool hc195)) rfl) ((s 3 rfl).trans sf3) (nO rfl rfl Z)) (opsS_cons (fun f w_ _ _ _ _ p Z=>L_gtr (g_yes rfl (Eq.trans (p 14 31 rfl rfl) (congrArg Value.bool hc195)) rfl) (p 15 32 rfl rfl) rfl (nO rfl rfl Z)) (opsS_cons (fun f w_ _ _ _ _ p Z=>L_mv (v:=Bo (decide ((i_5 : Int) > 0))) (g_yes rfl (Eq.trans (p 14 31 rfl rfl) (congrArg Value.bool hc195)) rfl) (p 16 33 rfl rfl) (nO rfl rfl Z)) (oP (fun _ _ p=>gN (p 17 34 rfl rfl) hc208 rfl) (fun _=>rfl) (oP (fun _ _ p=>gN (p 17 34 rfl rfl) hc208 rfl) (fun _=>rfl) (oP (fun _ _ p=>gN (p 17 34 rfl rfl) hc208 rfl) (fun _=>rfl) (oP (fun _ _ p=>gN (p 17 34 rfl rfl) hc208 rfl) (fun _=>rfl) (oP (fun _ _ p=>gN (p 17 34 rfl rfl) hc208 rfl) (fun _=>rfl) (oP (fun _ _ p=>gN (p 17 34 rfl rfl) hc208 rfl) (fun _=>rfl) (oP (fun _ _ p=>gN (p 17 34 rfl rfl) hc208 rfl) (fun _=>rfl) (oP (fun _ _ p=>gN (p 17 34 rfl rfl) hc208 rfl) (fun _=>rfl) (oP (fun _ _ p=>gN (p 17 34 rfl rfl) hc208 rfl) (fun _=>rfl) (oP (fun _ _ p=>gN (p 17 34 rfl rfl) hc208 rfl) (fun _=>rfl) (opsS_nil)))))))))))))))))))))))))
 refine ps (g_no rfl (Eq.trans (hT52 17 34 rfl rfl) (congrArg Value.bool hc208)) rfl rfl) (ps (g_no rfl (Eq.trans (hT52 17 34 rfl rfl) (congrArg Value.bool hc208)) rfl rfl) (L_pick (v:=Bo b50) (g_yes rfl (Eq.trans (hT52 14 31 rfl rfl) (congrArg Value.bool hc195)) rfl) (Eq.trans (hT52 17 34 rfl rfl) (congrArg Value.bool hc208)) (congrArg Value.bool (so hb50)) (L_pick (v:=Bo b51) rfl (Eq.trans (hT52 14 31 rfl rfl) (congrArg Value.bool hc195)) (congrArg Value.bool (so hb51)) (nn ?_))))
 have Z:=Z.get 1 rfl
 exact rj hR55 ⟨H52,hE52,((hS52 1 rfl).trans sf1),((hS52 3 rfl).trans sf3),rfl,(Star.keepN 1 Z)⟩
 rcases Bool.eq_false_or_eq_true (((!x29) || (decide (x_8.coef < 1))) || (decide (x_8.coef > 1000))) with hc263 | hc263
 rw [ite_t hc263] at hb51
 refine W_drawS 28 [isV (Pq g21 1),isV (I x_8.lit),isV (Bo x29),isV (Bo (!x29)),isV (Bo (!x29)),isV (Pt g21),isV (I x_8.coef),isV (Bo (decide (x_8.coef < 1))),isV (Bo ((!x29) || (decide (x_8.coef < 1)))),isV (Bo ((!x29) || (decide (x_8.coef < 1)))),isV (Pt g21),isV (I x_8.coef),isV (Bo (decide (x_8.coef > 1000))),isV (Bo (((!x29) || (decide (x_8.coef < 1))) || (decide (x_8.coef > 1000)))),isV (Bo (((!x29) || (decide (x_8.coef < 1))) || (decide (x_8.coef > 1000)))),isV (undef),isV (undef),isV (undef),isV (undef),isV (undef),isV (undef),isV (undef),isV (undef),isV (undef),isV (undef),isV (undef),isV (undef),isV (undef)] [box g21 122 #[I x_8.coef,I x_8.lit],box g3 73 #[v0_0,I c.bound]] [] ([]) [([],[]),([],[]),([],[]),([],[]),([],[]),([],[]),([],[]),([],[]),([],[]),([],[]),([],[]),([],[]),([],[]),([],[]),([],[]),([],[]),([],[]),([],[]),([],[]),([],[]),([],[]),([],[]),([],[]),([],[]),([],[]),([],[]),([],[]),([],[])] (S:=[]) Tryz_mix (by kernel_rfl) rfl (by kernel_rfl) (amF_cons (mono_V _) (amF_cons (mono_V _) (amF_cons (mono_V _) (amF_cons (mono_V _) (amF_cons (mono_V _) (amF_cons (mono_V _) (amF_cons (mono_V _) (amF_cons (mono_V _) (amF_cons (mono_V _) (amF_cons (mono_V _) (amF_cons (mono_V _) (amF_cons (mono_V _) (amF_cons (mono_V _) (amF_cons (mono_V _) (amF_cons (mono_V _) (amF_cons (mono_V _) (amF_cons (mono_V _) (amF_cons (mono_V _) (amF_cons (mono_V _) (amF_cons (mono_V _) (amF_cons (mono_V _) (amF_cons (mono_V _) (amF_cons (mono_V _) (amF_cons (mono_V _) (amF_cons (mono_V _) (amF_cons (mono_V _) (amF_cons (mono_V _) (amF_cons (mono_V _) amF_nil)))))))))))))))))))))))))))) Z ?_ (fun f w_ H52 hS52 hE52 hT52 Z=>?_)
 refine opsS_cons (fun f w_ _ _ s _ _ Z=>fA 1 fa_122_1 ((s 4 rfl).trans rfl) rfl (nO rfl rfl Z)) (opsS_cons (fun f w_ _ _ _ _ p Z=>ldB 0 Z Tryz.isAgg3 (p 0 17 rfl rfl) rfl rfl (nO rfl rfl Z)) (opsS_cons ?_ ?_))
 intro f w_ H52 X52 hS52 hE52 hP52 Z
 obtain ⟨H270b,l271,s272,z273,k274⟩:=Z.borrow
 refine L_call rfl Tryz.call151 (ops1 (hP52 1 18 rfl rfl)) (s_l1Lit_c (n_:=x_8.lit) s272 hx29) ?_
 rintro _ w275 ⟨rfl,Z⟩
 have Z:=k274 Z c0
 exact L_nil ⟨rfl,_,_,rfl,Le.refl _,fun _ _=>rfl,Z⟩
 refine opsS_cons (fun f w_ _ _ _ _ p Z=>L_not_ rfl (p 2 19 rfl rfl) (nO rfl rfl Z)) (opsS_cons (fun f w_ _ _ _ _ p Z=>mF (p 3 20 rfl rfl) rfl (nO rfl rfl Z)) (opsS_cons (fun f w_ _ _ s _ p Z=>L_fa (o':=0) (g_yes rfl (Eq.trans (p 4 21 rfl rfl) (congrArg Value.bool hc56)) rfl) fa_122_0 ((s 4 rfl).trans rfl) rfl (nO rfl rfl Z)) (opsS_cons (fun f w_ _ _ _ _ p Z=>L_ld (v:=I x_8.coef) (g_yes rfl (Eq.trans (p 4 21 rfl rfl) (congrArg Value.bool hc56)) rfl) Tryz.isAgg3 (p 5 22 rfl rfl) (At.cell0 (Blk.at (Star.blkAt 0 Z rfl)) (j:=0) rfl) (nO rfl rfl Z)) (opsS_cons (fun f w_ _ _ _ _ p Z=>L_lss (g_yes rfl (Eq.trans (p 4 21 rfl rfl) (congrArg Value.bool hc56)) rfl) (p 6 23 rfl rfl) rfl (nO rfl rfl Z)) (opsS_cons (fun f w_ _ _ _ _ p Z=>pkT (v:=Bo ((!x29) || (decide (x_8.coef < 1)))) (p 4 21 rfl rfl) hc56 rfl (or_f hc56 (p 7 24 rfl rfl)) (nO rfl rfl Z)) (opsS_cons (fun f w_ _ _ _ _ p Z=>mF (p 8 25 rfl rfl) rfl (nO rfl rfl Z)) (opsS_cons (fun f w_ _ _ s _ p Z=>L_fa (o':=0) (g_yes rfl (Eq.trans (p 9 26 rfl rfl) (congrArg Value.bool hc194)) rfl) fa_122_0 ((s 4 rfl).trans rfl) rfl (nO rfl rfl Z)) (opsS_cons (fun f w_ _ _ _ _ p Z=>L_ld (v:=I x_8.coef) (g_yes rfl (Eq.trans (p 9 26 rfl rfl) (congrArg Value.bool hc194)) rfl) Tryz.isAgg3 (p 10 27 rfl rfl) (At.cell0 (Blk.at (Star.blkAt 0 Z rfl)) (j:=0) rfl) (nO rfl rfl Z)) (opsS_cons (fun f w_ _ _ _ _ p Z=>L_gtr (g_yes rfl (Eq.trans (p 9 26 rfl rfl) (congrArg Value.bool hc194)) rfl) (p 11 28 rfl rfl) rfl (nO rfl rfl Z)) (opsS_cons (fun f w_ _ _ _ _ p Z=>pkT (v:=Bo (((!x29) || (decide (x_8.coef < 1))) || (decide (x_8.coef > 1000)))) (p 9 26 rfl rfl) hc194 rfl (or_f hc194 (p 12 29 rfl rfl)) (nO rfl rfl Z)) (opsS_cons (fun f w_ _ _ _ _ p Z=>mF (p 13 30 rfl rfl) rfl (nO rfl rfl Z)) (oP (fun _ _ p=>gN (p 14 31 rfl rfl) hc263 rfl) (fun _=>rfl) (oP (fun _ _ p=>gN (p 14 31 rfl rfl) hc263 rfl) (fun _=>rfl) (oP (fun _ _ p=>gN (p 14 31 rfl rfl) hc263 rfl) (fun _=>rfl) (oP (fun _ _ p=>g_undef rfl (p 17 34 rfl rfl) rfl) (fun _=>rfl) (oP (fun _ _ p=>g_undef rfl (p 17 34 rfl rfl) rfl) (fun _=>rfl) (oP (fun _ _ p=>g_undef rfl (p 17 34 rfl rfl) rfl) (fun _=>rfl) (oP (fun _ _ p=>g_undef rfl (p 17 34 rfl rfl) rfl) (fun _=>rfl) (oP (fun _ _ p=>g_undef rfl (p 17 34 rfl rfl) rfl) (fun _=>rfl) (oP (fun _ _ p=>g_undef rfl (p 17 34 rfl rfl) rfl) (fun _=>rfl) (oP (fun _ _ p=>g_undef rfl (p 17 34 rfl rfl) rfl) (fun _=>rfl) (oP (fun _ _ p=>g_undef rfl (p 17 34 rfl rfl) rfl) (fun _=>rfl) (oP (fun _ _ p=>g_undef rfl (p 17 34 rfl rfl) rfl) (fun _=>rfl) (oP (fun _ _ p=>g_undef rfl (p 17 34 rfl rfl) rfl) (fun _=>rfl) (opsS_nil)))))))))))))))))))))))))
 refine ps (g_undef rfl (hT52 17 34 rfl rfl) rfl) (ps (g_undef rfl (hT52 17 34 rfl rfl) rfl) (ps (g_no rfl (Eq.trans (hT52 14 31 rfl rfl) (congrArg Value.bool hc263)) rfl rfl) (L_pick (v:=Bo b51) rfl (Eq.trans (hT52 14 31 rfl rfl) (congrArg Value.bool hc263)) (congrArg Value.bool (so hb51)) (nn ?_))))
 have Z:=Z.get 1 rfl
 exact rj hR55 ⟨H52,hE52,((hS52 1 rfl).trans sf1),((hS52 3 rfl).trans sf3),rfl,(Star.keepN 1 Z)⟩
 rw [ite_f hc263] at hb51
 obtain ⟨b50,hb50,hb51⟩:=bind_some hb51
 rcases Bool.eq_false_or_eq_true (decide ((i_5 : Int) > 0)) with hc276 | hc276
 rw [ite_t hc276] at hb50
 obtain ⟨x31,hx31,hb50⟩:=bind_some hb50
 obtain ⟨x41,hx41,hb50⟩:=bind_some hb50
 obtain ⟨x48,hx48,hb50⟩:=bind_some hb50
 refine W_drawS 28 [isV (Pq g21 1),isV (I x_8.lit),isV (Bo x29),isV (Bo (!x29)),isV (Bo (!x29)),isV (Pt g21),isV (I x_8.coef),isV (Bo (decide (x_8.coef < 1))),isV (Bo ((!x29) || (decide (x_8.coef < 1)))),isV (Bo ((!x29) || (decide (x_8.coef < 1)))),isV (Pt g21),isV (I x_8.coef),isV (Bo (decide (x_8.coef > 1000))),isV (Bo (((!x29) || (decide (x_8.coef < 1))) || (decide (x_8.coef > 1000)))),isV (Bo (((!x29) || (decide (x_8.coef < 1))) || (decide (x_8.coef > 1000)))),isV (I i_5),isV (Bo (decide ((i_5 : Int) > 0))),isV (Bo (decide ((i_5 : Int) > 0))),isV (Pt g3),isV (v0_0),isV (I i_5),isV (I (i64 ((i_5 : Int) - 1))),isEl rTerm x31 0,isEl rTerm x31 1,isV (I x31.lit),isV (I x41),isV (Pq g21 1),isV (I x_8.lit)] [box g21 122 #[I x_8.coef,I x_8.lit],box g3 73 #[v0_0,I c.bound]] [] ([]) [([],[]),([],[]),([],[]),([],[]),([],[]),([],[]),([],[]),([],[]),([],[]),([],[]),([],[]),([],[]),([],[]),([],[]),([],[]),([],[]),([],[]),([],[]),([],[]),([],[]),([],[]),([],[]),([],[]),([],[]),([],[]),([],[]),([],[]),([],[])] (S:=[]) Tryz_mix (by kernel_rfl) rfl (by kernel_rfl) (amF_cons (mono_V _) (amF_cons (mono_V _) (amF_cons (mono_V _) (amF_cons (mono_V _) (amF_cons (mono_V _) (amF_cons (mono_V _) (amF_cons (mono_V _) (amF_cons (mono_V _) (amF_cons (mono_V _) (amF_cons (mono_V _) (amF_cons (mono_V _) (amF_cons (mono_V _) (amF_cons (mono_V _) (amF_cons (mono_V _) (amF_cons (mono_V _) (amF_cons (mono_V _) (amF_cons (mono_V _) (amF_cons (mono_V _) (amF_cons (mono_V _) (amF_cons (mono_V _) (amF_cons (mono_V _) (amF_cons (mono_V _) (amF_cons (mono_el _ _ _) (amF_cons (mono_el _ _ _) (amF_cons (mono_V _) (amF_cons (mono_V _) (amF_cons (mono_V _) (amF_cons (mono_V _) amF_nil)))))))))))))))))))))))))))) Z ?_ (fun f w_ H52 hS52 hE52 hT52 Z=>?_)
 refine opsS_cons (fun f w_ _ _ s _ _ Z=>fA 1 fa_122_1 ((s 4 rfl).trans rfl) rfl (nO rfl rfl Z)) (opsS_cons (fun f w_ _ _ _ _ p Z=>ldB 0 Z Tryz.isAgg3 (p 0 17 rfl rfl) rfl rfl (nO rfl rfl Z)) (opsS_cons ?_ ?_))
 intro f w_ H52 X52 hS52 hE52 hP52 Z
 obtain ⟨H293b,l294,s295,z296,k297⟩:=Z.borrow
 refine L_call rfl Tryz.call151 (ops1 (hP52 1 18 rfl rfl)) (s_l1Lit_c (n_:=x_8.lit) s295 hx29) ?_
 rintro _ w298 ⟨rfl,Z⟩
 have Z:=k297 Z c0
 exact L_nil ⟨rfl,_,_,rfl,Le.refl _,fun _ _=>rfl,Z⟩
 refine opsS_cons (fun f w_ _ _ _ _ p Z=>L_not_ rfl (p 2 19 rfl rfl) (nO rfl rfl Z)) (opsS_cons (fun f w_ _ _ _ _ p Z=>mF (p 3 20 rfl rfl) rfl (nO rfl rfl Z)) (opsS_cons (fun f w_ _ _ s _ p Z=>L_fa (o':=0) (g_yes rfl (Eq.trans (p 4 21 rfl rfl) (congrArg Value.bool hc56)) rfl) fa_122_0 ((s 4 rfl).trans rfl) rfl (nO rfl rfl Z)) (opsS_cons (fun f w_ _ _ _ _ p Z=>L_ld (v:=I x_8.coef) (g_yes rfl (Eq.trans (p 4 21 rfl rfl) (congrArg Value.bool hc56)) rfl) Tryz.isAgg3 (p 5 22 rfl rfl) (At.cell0 (Blk.at (Star.blkAt 0 Z rfl)) (j:=0) rfl) (nO rfl rfl Z)) (opsS_cons (fun f w_ _ _ _ _ p Z=>L_lss (g_yes rfl (Eq.trans (p 4 21 rfl rfl) (congrArg Value.bool hc56)) rfl) (p 6 23 rfl rfl) rfl (nO rfl rfl Z)) (opsS_cons (fun f w_ _ _ _ _ p Z=>pkT (v:=Bo ((!x29) || (decide (x_8.coef < 1)))) (p 4 21 rfl rfl) hc56 rfl (or_f hc56 (p 7 24 rfl rfl)) (nO rfl rfl Z)) (opsS_cons (fun f w_ _ _ _ _ p Z=>mF (p 8 25 rfl rfl) rfl (nO rfl rfl Z)) (opsS_cons (fun f w_ _ _ s _ p Z=>L_fa (o':=0) (g_yes rfl (Eq.trans (p 9 26 rfl rfl) (congrArg Value.bool hc194)) rfl) fa_122_0 ((s 4 rfl).trans rfl) rfl (nO rfl rfl Z)) (opsS_cons (fun f w_ _ _ _ _ p Z=>L_ld (v:=I x_8.coef) (g_yes rfl (Eq.trans (p 9 26 rfl rfl) (congrArg Value.bool hc194)) rfl) Tryz.isAgg3 (p 10 27 rfl rfl) (At.cell0 (Blk.at (Star.blkAt 0 Z rfl)) (j:=0) rfl) (nO rfl rfl Z)) (opsS_cons (fun f w_ _ _ _ _ p Z=>L_gtr (g_yes rfl (Eq.trans (p 9 26 rfl rfl) (congrArg Value.bool hc194)) rfl) (p 11 28 rfl rfl) rfl (nO rfl rfl Z)) (opsS_cons (fun f w_ _ _ _ _ p Z=>pkT (v:=Bo (((!x29) || (decide (x_8.coef < 1))) || (decide (x_8.coef > 1000)))) (p 9 26 rfl rfl) hc194 rfl (or_f hc194 (p 12 29 rfl rfl)) (nO rfl rfl Z)) (opsS_cons (fun f w_ _ _ _ _ p Z=>mF (p 13 30 rfl rfl) rfl (nO rfl rfl Z)) (opsS_cons (fun f w_ _ _ s _ p Z=>L_mv (v:=I i_5) (g_yes rfl (Eq.trans (p 14 31 rfl rfl) (congrArg Value.bool hc263)) rfl) ((s 3 rfl).trans sf3) (nO rfl rfl Z)) (opsS_cons (fun f w_ _ _ _ _ p Z=>L_gtr (g_yes rfl (Eq.trans (p 14 31 rfl rfl) (congrArg Value.bool hc263)) rfl) (p 15 32 rfl rfl) rfl (nO rfl rfl Z)) (opsS_cons (fun f w_ _ _ _ _ p Z=>L_mv (v:=Bo (decide ((i_5 : Int) > 0))) (g_yes rfl (Eq.trans (p 14 31 rfl rfl) (congrArg Value.bool hc263)) rfl) (p 16 33 rfl rfl) (nO rfl rfl Z)) (opsS_cons (fun f w_ _ _ s _ p Z=>L_fa (o':=0) (g_yes rfl (Eq.trans (p 17 34 rfl rfl) (congrArg Value.bool hc276)) rfl) fa_73_0 ((s 1 rfl).trans sf1) rfl (nO rfl rfl Z)) (opsS_cons (fun f w_ _ _ _ _ p Z=>L_ld (v:=v0_0) (g_yes rfl (Eq.trans (p 17 34 rfl rfl) (congrArg Value.bool hc276)) rfl) Tryz.isAgg71 (p 18 35 rfl rfl) (At.cell0 (Blk.at (Star.blkAt 1 Z rfl)) (j:=0) rfl) (nO rfl rfl Z)) (opsS_cons (fun f w_ _ _ s _ p Z=>L_mv (v:=I i_5) (g_yes rfl (Eq.trans (p 17 34 rfl rfl) (congrArg Value.bool hc276)) rfl) ((s 3 rfl).trans sf3) (nO rfl rfl Z)) (opsS_cons (fun f w_ _ _ _ _ p Z=>L_sub (g_yes rfl (Eq.trans (p 17 34 rfl rfl) (congrArg Value.bool hc276)) rfl) (p 20 37 rfl rfl) rfl (nO rfl rfl Z)) (opsS_cons ?_ ?_)))))))))))))))))))
 intro f w_ H52 X52 hS52 hE52 hP52 Z
 refine L_ix (r:=rTerm) (g_yes rfl (Eq.trans (hP52 17 34 rfl rfl) (congrArg Value.bool hc276)) rfl) Tryz.underlying71 Tryz.sizeOf122 (hP52 19 36 rfl rfl) (RP.mono _ h0_0 (Le.trans l7 hE52)) (hP52 21 38 rfl rfl) hx31 (fun g299 o300 cs_g299 hrk_hat301 hat301=>?_)
 obtain rfl:=rTerm_iff.1 hrk_hat301
 exact L_nil ⟨rfl,_,_,rfl,Le.refl _,fun _ _=>⟨_,_,_,rfl,hrk_hat301,hat301⟩,Z⟩
 refine opsS_cons ?_ ?_
 intro f w_ H52 X52 hS52 hE52 hP52 Z
 obtain ⟨g303,o303,cs303,hv303,hrk_hat303,hat303⟩:=(hP52 22 39 rfl rfl)
 obtain rfl:=rTerm_iff.1 hrk_hat303
 refine L_fa (o':=o303 + 1) (g_yes rfl (Eq.trans (hP52 17 34 rfl rfl) (congrArg Value.bool hc276)) rfl) fa_122_1 hv303 rfl (L_nil ⟨rfl,_,_,rfl,Le.refl _,fun _ _=>⟨_,_,_,rfl,hrk_hat303,hat303⟩,Z⟩)
 refine opsS_cons ?_ ?_
 intro f w_ H52 X52 hS52 hE52 hP52 Z
 obtain ⟨g305,o305,cs305,hv305,hrk_hat305,hat305⟩:=(hP52 23 40 rfl rfl)
 obtain rfl:=rTerm_iff.1 hrk_hat305
 refine L_ld (v:=I x31.lit) (g_yes rfl (Eq.trans (hP52 17 34 rfl rfl) (congrArg Value.bool hc276)) rfl) Tryz.isAgg3 hv305 (At.cell (AtH.at hat305 Z.sub) (j:=1) rfl) (L_nil ⟨rfl,_,_,rfl,Le.refl _,fun _ _=>rfl,Z⟩)
 refine opsS_cons ?_ ?_
 intro f w_ H52 X52 hS52 hE52 hP52 Z
 obtain ⟨H307b,l308,s309,z310,k311⟩:=Z.borrow
 refine L_call (g_yes rfl (Eq.trans (hP52 17 34 rfl rfl) (congrArg Value.bool hc276)) rfl) Tryz.call152 (ops1 (hP52 24 41 rfl rfl)) (s_l1Abs_c (n_:=x31.lit) s309 hx41) ?_
 rintro _ w312 ⟨rfl,Z⟩
 have Z:=k311 Z c0
 exact L_nil ⟨rfl,_,_,rfl,Le.refl _,fun _ _=>rfl,Z⟩
 refine opsS_cons (fun f w_ _ _ s _ p Z=>L_fa (o':=1) (g_yes rfl (Eq.trans (p 17 34 rfl rfl) (congrArg Value.bool hc276)) rfl) fa_122_1 ((s 4 rfl).trans rfl) rfl (nO rfl rfl Z)) (opsS_cons (fun f w_ _ _ _ _ p Z=>L_ld (v:=I x_8.lit) (g_yes rfl (Eq.trans (p 17 34 rfl rfl) (congrArg Value.bool hc276)) rfl) Tryz.isAgg3 (p 26 43 rfl rfl) (At.cell0 (Blk.at (Star.blkAt 0 Z rfl)) (j:=1) rfl) (nO rfl rfl Z)) (opsS_nil))
 obtain ⟨H313b,l314,s315,z316,k317⟩:=Z.borrow
 refine L_call (g_yes rfl (Eq.trans (hT52 17 34 rfl rfl) (congrArg Value.bool hc276)) rfl) Tryz.call152 (ops1 (hT52 27 44 rfl rfl)) (s_l1Abs_c (n_:=x_8.lit) s315 hx48) ?_
 rintro _ w318 ⟨rfl,Z⟩
 have Z:=k317 Z c0
 refine L_geq (g_yes rfl (Eq.trans (hT52 17 34 rfl rfl) (congrArg Value.bool hc276)) rfl) (hT52 25 42 rfl rfl) rfl (L_pick (v:=Bo b50) (g_yes rfl (Eq.trans (hT52 14 31 rfl rfl) (congrArg Value.bool hc263)) rfl) (Eq.trans (hT52 17 34 rfl rfl) (congrArg Value.bool hc276)) (congrArg Value.bool (so hb50)) (L_pick (v:=Bo b51) rfl (Eq.trans (hT52 14 31 rfl rfl) (congrArg Value.bool hc263)) (congrArg Value.bool (so hb51)) (nn ?_)))
 have Z:=Z.get 1 rfl
 exact rj hR55 ⟨H52,hE52,((hS52 1 rfl).trans sf1),((hS52 3 rfl).trans sf3),rfl,(Star.keepN 1 Z)⟩
 rw [ite_f hc276] at hb50
 refine W_drawS 28 [isV (Pq g21 1),isV (I x_8.lit),isV (Bo x29),isV (Bo (!x29)),isV (Bo (!x29)),isV (Pt g21),isV (I x_8.coef),isV (Bo (decide (x_8.coef < 1))),isV (Bo ((!x29) || (decide (x_8.coef < 1)))),isV (Bo ((!x29) || (decide (x_8.coef < 1)))),isV (Pt g21),isV (I x_8.coef),isV (Bo (decide (x_8.coef > 1000))),isV (Bo (((!x29) || (decide (x_8.coef < 1))) || (decide (x_8.coef > 1000)))),isV (Bo (((!x29) || (decide (x_8.coef < 1))) || (decide (x_8.coef > 1000)))),isV (I i_5),isV (Bo (decide ((i_5 : Int) > 0))),isV (Bo (decide ((i_5 : Int) > 0))),isV (undef),isV (undef),isV (undef),isV (undef),isV (undef),isV (undef),isV (undef),isV (undef),isV (undef),isV (undef)] [box g21 122 #[I x_8.coef,I x_8.lit],box g3 73 #[v0_0,I c.bound]] [] ([]) [([],[]),([],[]),([],[]),([],[]),([],[]),([],[]),([],[]),([],[]),([],[]),([],[]),([],[]),([],[]),([],[]),([],[]),([],[]),([],[]),([],[]),([],[]),([],[]),([],[]),([],[]),([],[]),([],[]),([],[]),([],[]),([],[]),([],[]),([],[])] (S:=[]) Tryz_mix (by kernel_rfl) rfl (by kernel_rfl) (amF_cons (mono_V _) (amF_cons (mono_V _) (amF_cons (mono_V _) (amF_cons (mono_V _) (amF_cons (mono_V _) (amF_cons (mono_V _) (amF_cons (mono_V _) (amF_cons (mono_V _) (amF_cons (mono_V _) (amF_cons (mono_V _) (amF_cons (mono_V _) (amF_cons (mono_V _) (amF_cons (mono_V _) (amF_cons (mono_V _) (amF_cons (mono_V _) (amF_cons (mono_V _) (amF_cons (mono_V _) (amF_cons (mono_V _) (amF_cons (mono_V _) (amF_cons (mono_V _) (amF_cons (mono_V _) (amF_cons (mono_V _) (amF_cons (mono_V _) (amF_cons (mono_V _) (amF_cons (mono_V _) (amF_cons (mono_V _) (amF_cons (mono_V _) (amF_cons (mono_V _) amF_nil)))))))))))))))))))))))))))) Z ?_ (fun f w_ H52 hS52 hE52 hT52 Z=>?_)
 refine opsS_cons (fun f w_ _ _ s _ _ Z=>fA 1 fa_122_1 ((s 4 rfl).trans rfl) rfl (nO rfl rfl Z)) (opsS_cons (fun f w_ _ _ _ _ p Z=>ldB 0 Z Tryz.isAgg3 (p 0 17 rfl rfl) rfl rfl (nO rfl rfl Z)) (opsS_cons ?_ ?_))
 intro f w_ H52 X52 hS52 hE52 hP52 Z
 obtain ⟨H325b,l326,s327,z328,k329⟩:=Z.borrow
 refine L_call rfl Tryz.call151 (ops1 (hP52 1 18 rfl rfl)) (s_l1Lit_c (n_:=x_8.lit) s327 hx29) ?_
 rintro _ w330 ⟨rfl,Z⟩
 have Z:=k329 Z c0
 exact L_nil ⟨rfl,_,_,rfl,Le.refl _,fun _ _=>rfl,Z⟩
 refine opsS_cons (fun f w_ _ _ _ _ p Z=>L_not_ rfl (p 2 19 rfl rfl) (nO rfl rfl Z)) (opsS_cons (fun f w_ _ _ _ _ p Z=>mF (p 3 20 rfl rfl) rfl (nO rfl rfl Z)) (opsS_cons (fun f w_ _ _ s _ p Z=>L_fa (o':=0) (g_yes rfl (Eq.trans (p 4 21 rfl rfl) (congrArg Value.bool hc56)) rfl) fa_122_0 ((s 4 rfl).trans rfl) rfl (nO rfl rfl Z)) (opsS_cons (fun f w_ _ _ _ _ p Z=>L_ld (v:=I x_8.coef) (g_yes rfl (Eq.trans (p 4 21 rfl rfl) (congrArg Value.bool hc56)) rfl) Tryz.isAgg3 (p 5 22 rfl rfl) (At.cell0 (Blk.at (Star.blkAt 0 Z rfl)) (j:=0) rfl) (nO rfl rfl Z)) (opsS_cons (fun f w_ _ _ _ _ p Z=>L_lss (g_yes rfl (Eq.trans (p 4 21 rfl rfl) (congrArg Value.bool hc56)) rfl) (p 6 23 rfl rfl) rfl (nO rfl rfl Z)) (opsS_cons (fun f w_ _ _ _ _ p Z=>pkT (v:=Bo ((!x29) || (decide (x_8.coef < 1)))) (p 4 21 rfl rfl) hc56 rfl (or_f hc56 (p 7 24 rfl rfl)) (nO rfl rfl Z)) (opsS_cons (fun f w_ _ _ _ _ p Z=>mF (p 8 25 rfl rfl) rfl (nO rfl rfl Z)) (opsS_cons (fun f w_ _ _ s _ p Z=>L_fa (o':=0) (g_yes rfl (Eq.trans (p 9 26 rfl rfl) (congrArg Value.bool hc194)) rfl) fa_122_0 ((s 4 rfl).trans rfl) rfl (nO rfl rfl Z)) (opsS_cons (fun f w_ _ _ _ _ p Z=>L_ld (v:=I x_8.coef) (g_yes rfl (Eq.trans (p 9 26 rfl rfl) (congrArg Value.bool hc194)) rfl) Tryz.isAgg3 (p 10 27 rfl rfl) (At.cell0 (Blk.at (Star.blkAt 0 Z rfl)) (j:=0) rfl) (nO rfl rfl Z)) (opsS_cons (fun f w_ _ _ _ _ p Z=>L_gtr (g_yes rfl (Eq.trans (p 9 26 rfl rfl) (congrArg Value.bool hc194)) rfl) (p 11 28 rfl rfl) rfl (nO rfl rfl Z)) (opsS_cons (fun f w_ _ _ _ _ p Z=>pkT (v:=Bo (((!x29) || (decide (x_8.coef < 1))) || (decide (x_8.coef > 1000)))) (p 9 26 rfl rfl) hc194 rfl (or_f hc194 (p 12 29 rfl rfl)) (nO rfl rfl Z)) (opsS_cons (fun f w_ _ _ _ _ p Z=>mF (p 13 30 rfl rfl) rfl (nO rfl rfl Z)) (opsS_cons (fun f w_ _ _ s _ p Z=>L_mv (v:=I i_5) (g_yes rfl (Eq.trans (p 14 31 rfl rfl) (congrArg Value.bool hc263)) rfl) ((s 3 rfl).trans sf3) (nO rfl rfl Z)) (opsS_cons (fun f w_ _ _ _ _ p Z=>L_gtr (g_yes rfl (Eq.trans (p 14 31 rfl rfl) (congrArg Value.bool hc263)) rfl) (p 15 32 rfl rfl) rfl (nO rfl rfl Z)) (opsS_cons (fun f w_ _ _ _ _ p Z=>L_mv (v:=Bo (decide ((i_5 : Int) > 0))) (g_yes rfl (Eq.trans (p 14 31 rfl rfl) (congrArg Value.bool hc263)) rfl) (p 16 33 rfl rfl) (nO rfl rfl Z)) (oP (fun _ _ p=>gN (p 17 34 rfl rfl) hc276 rfl) (fun _=>rfl) (oP (fun _ _ p=>gN (p 17 34 rfl rfl) hc276 rfl) (fun _=>rfl) (oP (fun _ _ p=>gN (p 17 34 rfl rfl) hc276 rfl) (fun _=>rfl) (oP (fun _ _ p=>gN (p 17 34 rfl rfl) hc276 rfl) (fun _=>rfl) (oP (fun _ _ p=>gN (p 17 34 rfl rfl) hc276 rfl) (fun _=>rfl) (oP (fun _ _ p=>gN (p 17 34 rfl rfl) hc276 rfl) (fun _=>rfl) (oP (fun _ _ p=>gN (p 17 34 rfl rfl) hc276 rfl) (fun _=>rfl) (oP (fun _ _ p=>gN (p 17 34 rfl rfl) hc276 rfl) (fun _=>rfl) (oP (fun _ _ p=>gN (p 17 34 rfl rfl) hc276 rfl) (fun _=>rfl) (oP (fun _ _ p=>gN (p 17 34 rfl rfl) hc276 rfl) (fun _=>rfl) (opsS_nil)))))))))))))))))))))))))
 refine ps (g_no rfl (Eq.trans (hT52 17 34 rfl rfl) (congrArg Value.bool hc276)) rfl rfl) (ps (g_no rfl (Eq.trans (hT52 17 34 rfl rfl) (congrArg Value.bool hc276)) rfl rfl) (L_pick (v:=Bo b50) (g_yes rfl (Eq.trans (hT52 14 31 rfl rfl) (congrArg Value.bool hc263)) rfl) (Eq.trans (hT52 17 34 rfl rfl) (congrArg Value.bool hc276)) (congrArg Value.bool (so hb50)) (L_pick (v:=Bo b51) rfl (Eq.trans (hT52 14 31 rfl rfl) (congrArg Value.bool hc263)) (congrArg Value.bool (so hb51)) (nn ?_))))
 have Z:=Z.get 1 rfl
 exact rj hR55 ⟨H52,hE52,((hS52 1 rfl).trans sf1),((hS52 3 rfl).trans sf3),rfl,(Star.keepN 1 Z)⟩
 intro f w_ hR
 obtain ⟨H53,l54,sf1,sf3,sf48,Z⟩:=rk hR55 hR
 refine W_cond (b:=b51) sf48 (fun hc331=>?_) (fun hc331=>?_)
 have hB8:=(ite_t hc331).symm.trans hB8
 refine sq (aB rfl (nn (W_ret (retG1 (v1:=Bo false) Tryz.results189 rfl ?_))))
 obtain rfl:=so hB8
 obtain rfl:=so hL8
 obtain rfl:=so hF
 exact ⟨rfl,(Star.down (Star.keepN 0 Z) (Le.trans l7 l54) c0)⟩
 have hB8:=(ite_f hc331).symm.trans hB8
 refine W_skip (W_region (mF sf3 rfl (L_add rfl rfl rfl (aI rfl (nn ?_)))))
 obtain rfl:=so hB8
 show ∃ m,m < _∧I8 m _ _
 refine ⟨rest8.length,by simp,?_⟩
 exact ij hI8 ⟨i_5 + 1,rest8,H53,rfl,drop_next hd8,by simp at hl8; omega,hL8,(Le.trans l7 l54),sf1,(Eq.trans rfl (congrArg (Value.int .i64) (i64_succ (n:=c.terms.length) (by simp at hl8; omega) hlen8))),Z⟩
 rcases suf8 with _ | ⟨_,_⟩
 obtain rfl:=range_nil hL8
 refine W_exit (rj hR8 ⟨H6,rfl,l7,sf1,Z⟩)
 exact absurd (of_decide_eq_false hc9) (by simp at hl8; omega)
 intro f w_ hR
 obtain ⟨H6,rfl,l7,sf1,Z⟩:=rk hR8 hR
 refine W_seq ?_
 obtain ⟨R332,hR332⟩:=exR fun f w_=>f 2 = Bo ((decide (c.bound ≥ 0)) && (decide (c.bound≤20000)))∧Star H6 w_ ([])
 refine W_join R332 ?_ ?_
 refine W_region (fA 1 fa_73_1 sf1 rfl (ldB 0 Z Tryz.isAgg3 rfl rfl rfl (L_geq rfl rfl rfl (mB rfl (L_split (d:=52) (b:=decide (c.bound ≥ 0)) rfl (fun hc333=>?_) (fun hc333=>?_))))))
 refine fA 1 fa_73_1 sf1 rfl (ldB 0 Z Tryz.isAgg3 rfl rfl rfl (L_leq rfl rfl rfl (L_pick (v:=Bo ((decide (c.bound ≥ 0)) && (decide (c.bound≤20000)))) rfl rfl (and_t hc333 rfl) (aB rfl (nn (rj hR332 ⟨rfl,(Star.keepN 0 Z)⟩))))))
 refine ps rfl (ps rfl (ps rfl (L_pick (v:=Bo ((decide (c.bound ≥ 0)) && (decide (c.bound≤20000)))) rfl rfl (and_f hc333) (aB rfl (nn (rj hR332 ⟨rfl,(Star.keepN 0 Z)⟩))))))
 intro f w_ hR
 obtain ⟨sf2,Z⟩:=rk hR332 hR
 refine W_ret (retG1 (v1:=Bo ((decide (c.bound ≥ 0)) && (decide (c.bound≤20000)))) Tryz.results189 sf2 ?_)
 obtain rfl:=so hF
 exact ⟨rfl,(Star.down Z l7 c0)⟩
theorem s_l1Normal_c {net : List Int} {bound : Int} {v0 : Value} {H : FH} {w : World} (Z : Star H w []) (h0 : (rS 3 RP.int).rel H [v0] net) {r : Con × Bool} (hF : s_l1Normal net bound = some r) :
 C Tryz.prog 153 #[v0,I bound] w fun v w'=>∃ (u1 : Value),v = .tuple #[.agg #[u1,I r.1.bound],Bo r.2]∧Star H w' [oF 122 rTerm u1 r.1.terms]:=by
 unfold s_l1Normal at hF
 refine C_enter Tryz.func153 rfl Tryz.ntmps153 rfl (sq (L_al (cs:=#[S0,I 0]) rfl Tryz.zeroValue73 rfl Z (fun g3 w4 Z=>aB rfl (ns (L_bld rfl (parts0 ) (bld_73_  ) (L_al (cs:=#[S0,I 0]) rfl Tryz.zeroValue73 rfl Z (fun g8 w9 Z=>L_staB (vs:=#[S0,I 0]) (cs2:=#[S0,I 0]) 0 rfl Tryz.sizeOf73 rfl rfl rfl (ones_cons rfl (ones_cons rfl ones_nil)) Z rfl (by show 0 + 2≤2; decide) rfl (fun w10 Z=>nq (sq (aI rfl (nn ?_)))))))))))
 obtain ⟨k18,hk18,hF⟩:=bind_some hF
 obtain ⟨j17,hL17,hF⟩:=bind_some hF
 obtain ⟨R17,hR17⟩:=exR fun f w_=>∃ bound_12 : Int,∃ g8_0_13 : List Term,∃ H15 : FH,∃ v13_g8_0 : Value,j17 = .nx (bound_12,g8_0_13)∧Le H H15∧f 1 = I bound_12∧f 4 = Pt g3∧f 6 = Pt g8∧Star H15 w_ ([oF 122 rTerm v13_g8_0 g8_0_13,box g8 73 #[v13_g8_0,I 0],box g3 73 #[S0,I 0]])
 refine W_join R17 ?_ ?_
 refine W_block ?_
 obtain ⟨I17,hI17⟩:=exI fun n f w_=>∃ i_11 : Nat,∃ suf17 : Nat,∃ bound_12 : Int,∃ g8_0_13 : List Term,∃ H15 : FH,∃ v13_g8_0 : Value,suf17 = n∧1≤i_11∧i_11 + suf17 = 1 + k18∧countL (s_l1Normal_b1 net) suf17 i_11 (bound_12,g8_0_13) = some j17∧Le H H15∧f 0 = v0∧f 1 = I bound_12∧f 4 = Pt g3∧f 6 = Pt g8∧f 7 = I i_11∧Star H15 w_ ([oF 122 rTerm v13_g8_0 g8_0_13,box g8 73 #[v13_g8_0,I 0],box g3 73 #[S0,I 0]])
 have Z:=Star.addNil (R:=(OR.frz rTerm)) (e:=122) Z
 refine W_loop I17 (n:=k18) ?_ ?_
 exact ij hI17 ⟨1,k18,bound,[],H,S0,rfl,Nat.le_refl _,rfl,hL17,(Le.refl _),rfl,rfl,rfl,rfl,rfl,Z⟩
 intro n17 f w_ hI
 obtain ⟨i_11,suf17,bound_12,g8_0_13,H15,v13_g8_0,rfl,hs17,hl17,hL17,l16,sf0,sf1,sf4,sf6,sf7,Z⟩:=ik hI17 hI
 refine W_seq (sq (mF sf7 rfl (L_leq rfl rfl rfl (nn (W_cond (b:=decide ((i_11 : Int)≤12)) rfl (fun hc20=>?_) (fun hc20=>?_))))))
 have hlt17:=of_decide_eq_true hc20
 rcases suf17 with _ | rest17
 exact absurd hlt17 (cntF_noL hl17 hk18)
 obtain ⟨o17,hB17,hL17⟩:=count_succ hL17
 rw [s_l1Normal_b1] at hB17
 refine W_skip (W_seq (W_block (W_seq (W_seq ?_))))
 obtain ⟨x21,hx21,hB17⟩:=bind_some hB17
 refine W_region (mF sf0 rfl (mF sf7 rfl (L_ix (r:=RP.int) rfl Tryz.underlying23 Tryz.sizeOf3 rfl (RP.mono _ h0 l16) rfl hx21 (fun g26 o27 cs_g26 hrk_hat28 hat28=>?_))))
 obtain rfl : _ = [_]:=hrk_hat28
 refine L_ld rfl Tryz.isAgg3 rfl (At.cell (AtH.at hat28 Z.sub) (j:=0) rfl) (L_gtr rfl rfl rfl (nn ?_))
 obtain ⟨g8_0_30,hA34,hB17⟩:=bind_some hB17
 obtain ⟨R34,hR34⟩:=exR fun f w_=>∃ H32 : FH,∃ v30_g8_0 : Value,Le H15 H32∧f 0 = v0∧f 1 = I bound_12∧f 4 = Pt g3∧f 6 = Pt g8∧f 7 = I i_11∧Star H32 w_ ([oF 122 rTerm v30_g8_0 g8_0_30,box g8 73 #[v30_g8_0,I 0],box g3 73 #[S0,I 0]])
 refine W_join R34 ?_ ?_
 refine W_cond (b:=decide (x21 > 0)) rfl (fun hc35=>?_) (fun hc35=>?_)
 have hA34:=(ite_t hc35).symm.trans hA34
 obtain ⟨x43,hx43,hA34⟩:=bind_some hA34
 refine W_drawS 9 [isV (Pt g8),isV (v13_g8_0),isV (v0),isV (I i_11),isEl RP.int x21 0,isV (I x21),isV (I i_11),isV (.agg #[I x21,I i_11]),anyF] [oF 122 rTerm v13_g8_0 g8_0_13,box g8 73 #[v13_g8_0,I 0],box g3 73 #[S0,I 0]] [.made 8 26 (fun v_=>oF 122 rTerm v_ ([({ coef:=x21,lit:=(i_11 : Int) } : Term)])) none] ([]) [([],[]),([],[]),([],[]),([],[]),([],[]),([],[]),([],[]),([],[]),([],[0])] (S:=[(some 8,[26],none)]) Tryz_mix (by kernel_rfl) rfl (by kernel_rfl) (amF_cons (mono_V _) (amF_cons (mono_V _) (amF_cons (mono_V _) (amF_cons (mono_V _) (amF_cons (mono_el _ _ _) (amF_cons (mono_V _) (amF_cons (mono_V _) (amF_cons (mono_V _) (amF_cons (mono_any) amF_nil))))))))) Z ?_ (fun f w_ H48 hS48 hE48 hT48 Z=>?_)
 refine opsS_cons (fun f w_ _ _ s _ _ Z=>fA 0 fa_73_0 ((s 6 rfl).trans sf6) rfl (nO rfl rfl Z)) (opsS_cons (fun f w_ _ _ _ _ p Z=>ldB 1 Z Tryz.isAgg71 (p 0 18 rfl rfl) rfl rfl (nO rfl rfl Z)) (opsS_cons (fun f w_ _ _ s _ _ Z=>mF ((s 0 rfl).trans sf0) rfl (nO rfl rfl Z)) (opsS_cons (fun f w_ _ _ s _ _ Z=>mF ((s 7 rfl).trans sf7) rfl (nO rfl rfl Z)) (opsS_cons ?_ ?_))))
 intro f w_ H48 X48 hS48 hE48 hP48 Z
 refine L_ix (r:=RP.int) rfl Tryz.underlying23 Tryz.sizeOf3 (hP48 2 20 rfl rfl) (RP.mono _ h0 (Le.trans l16 hE48)) (hP48 3 21 rfl rfl) hx21 (fun g56 o57 cs_g56 hrk_hat58 hat58=>?_)
 obtain rfl : _ = [_]:=hrk_hat58
 exact L_nil ⟨rfl,_,_,rfl,Le.refl _,fun _ _=>⟨_,_,_,rfl,rfl,hat58⟩,Z⟩
 refine opsS_cons ?_ ?_
 intro f w_ H48 X48 hS48 hE48 hP48 Z
 obtain ⟨g60,o60,cs60,hv60,hrk_hat60,hat60⟩:=(hP48 4 22 rfl rfl)
 obtain rfl : _ = [_]:=hrk_hat60
 refine L_ld rfl Tryz.isAgg3 hv60 (At.cell (AtH.at hat60 Z.sub) (j:=0) rfl) (L_nil ⟨rfl,_,_,rfl,Le.refl _,fun _ _=>rfl,Z⟩)
 refine opsS_cons (fun f w_ _ _ s _ _ Z=>mF ((s 7 rfl).trans sf7) rfl (nO rfl rfl Z)) (opsS_cons (fun f w_ _ _ _ _ p Z=>L_bld rfl (parts2 (p 5 23 rfl rfl) (p 6 24 rfl rfl)) (bld_122_0_1 (I x21) (I i_11) rfl rfl) (nO rfl rfl Z)) (opsS_cons ?_ ?_))
 intro f w_ H48 X48 hS48 hE48 hP48 Z
 refine L_bs rfl (parts1 (hP48 7 25 rfl rfl)) (bs_71_1_2 (I x21) (I i_11) ) Z (fun g62 w63 Z=>?_)
 have Z:=Star.addF (r:=rTerm) (cs:=[I x21,I i_11]) (x:=({ coef:=x21,lit:=(i_11 : Int) } : Term)) Z (rTerm_iff.2 rfl)
 have Z:=Star.mkRow (R:=(OR.frz rTerm)) [([I x21,I i_11],({ coef:=x21,lit:=(i_11 : Int) } : Term))] [({ coef:=x21,lit:=(i_11 : Int) } : Term)] 1 Z rfl rfl rfl (by decide)
 have Z:=Z.gets [3,3,3] rfl
 exact L_nil ⟨rfl,_,_,rfl,Le.refl _,fun _ _=>trivial,Z⟩
 exact opsS_nil
 have Z : Star H48 w_ ([oF 122 rTerm v13_g8_0 g8_0_13,box g8 73 #[v13_g8_0,I 0],box g3 73 #[S0,I 0],oF 122 rTerm (f 26) ([({ coef:=x21,lit:=(i_11 : Int) } : Term)])]):=Z
 have Z:=Z.gets [3,1] rfl
 refine L_appM (v:=v13_g8_0) (u:=(f 26)) rfl et_71 (hT48 1 19 rfl rfl) rfl Z hx43 (fun v66 w67 Z=>fA 0 fa_73_0 ((hS48 6 rfl).trans sf6) rfl (L_stB (v:=v66) (cs2:=#[v66,I 0]) 1 rfl Tryz.sizeOf71 rfl rfl (one_len (Star.len 0 Z rfl)) Z rfl rfl rfl (fun w69 Z=>nn ?_)))
 obtain rfl:=so hA34
 have Z:=Z.gets [2,1,2] rfl
 exact rj hR34 ⟨H48,v66,hE48,((hS48 0 rfl).trans sf0),((hS48 1 rfl).trans sf1),((hS48 4 rfl).trans sf4),((hS48 6 rfl).trans sf6),((hS48 7 rfl).trans sf7),Z⟩
 have hA34:=(ite_f hc35).symm.trans hA34
 refine W_skip ?_
 obtain rfl:=so hA34
 exact rj hR34 ⟨H15,v13_g8_0,(Le.refl _),sf0,sf1,sf4,sf6,sf7,Z⟩
 intro f w_ hR
 obtain ⟨H32,v30_g8_0,l33,sf0,sf1,sf4,sf6,sf7,Z⟩:=rk hR34 hR
 refine sq (mF sf0 rfl (mF sf7 rfl (L_ix (r:=RP.int) rfl Tryz.underlying23 Tryz.sizeOf3 rfl (RP.mono _ h0 (Le.trans l16 l33)) rfl hx21 (fun g74 o75 cs_g74 hrk_hat76 hat76=>?_))))
 obtain rfl : _ = [_]:=hrk_hat76
 refine L_ld rfl Tryz.isAgg3 rfl (At.cell (AtH.at hat76 Z.sub) (j:=0) rfl) (L_lss rfl rfl rfl (nn ?_))
 obtain ⟨⟨bound_78,g8_0_79⟩,hA83,hB17⟩:=bind_some hB17
 obtain ⟨R83,hR83⟩:=exR fun f w_=>∃ H81 : FH,∃ v79_g8_0 : Value,Le H32 H81∧f 0 = v0∧f 1 = I bound_78∧f 4 = Pt g3∧f 6 = Pt g8∧f 7 = I i_11∧Star H81 w_ ([oF 122 rTerm v79_g8_0 g8_0_79,box g8 73 #[v79_g8_0,I 0],box g3 73 #[S0,I 0]])
 refine W_join R83 ?_ ?_
 refine W_cond (b:=decide (x21 < 0)) rfl (fun hc84=>?_) (fun hc84=>?_)
 have hA83:=(ite_t hc84).symm.trans hA83
 refine W_seq ?_
 obtain ⟨x92,hx92,hA83⟩:=bind_some hA83
 refine W_drawS 11 [isV (Pt g8),isV (v30_g8_0),isV (v0),isV (I i_11),isEl RP.int x21 0,isV (I x21),isV (I (i64 (-x21))),isV (I i_11),isV (I (i64 (-(i_11 : Int)))),isV (.agg #[I (i64 (-x21)),I (i64 (-(i_11 : Int)))]),anyF] [oF 122 rTerm v30_g8_0 g8_0_30,box g8 73 #[v30_g8_0,I 0],box g3 73 #[S0,I 0]] [.made 10 44 (fun v_=>oF 122 rTerm v_ ([({ coef:=i64 (-x21),lit:=i64 (-(i_11 : Int)) } : Term)])) none] ([]) [([],[]),([],[]),([],[]),([],[]),([],[]),([],[]),([],[]),([],[]),([],[]),([],[]),([],[0])] (S:=[(some 10,[44],none)]) Tryz_mix (by kernel_rfl) rfl (by kernel_rfl) (amF_cons (mono_V _) (amF_cons (mono_V _) (amF_cons (mono_V _) (amF_cons (mono_V _) (amF_cons (mono_el _ _ _) (amF_cons (mono_V _) (amF_cons (mono_V _) (amF_cons (mono_V _) (amF_cons (mono_V _) (amF_cons (mono_V _) (amF_cons (mono_any) amF_nil))))))))))) Z ?_ (fun f w_ H97 hS97 hE97 hT97 Z=>?_)
 refine opsS_cons (fun f w_ _ _ s _ _ Z=>fA 0 fa_73_0 ((s 6 rfl).trans sf6) rfl (nO rfl rfl Z)) (opsS_cons (fun f w_ _ _ _ _ p Z=>ldB 1 Z Tryz.isAgg71 (p 0 34 rfl rfl) rfl rfl (nO rfl rfl Z)) (opsS_cons (fun f w_ _ _ s _ _ Z=>mF ((s 0 rfl).trans sf0) rfl (nO rfl rfl Z)) (opsS_cons (fun f w_ _ _ s _ _ Z=>mF ((s 7 rfl).trans sf7) rfl (nO rfl rfl Z)) (opsS_cons ?_ ?_))))
 intro f w_ H97 X97 hS97 hE97 hP97 Z
 refine L_ix (r:=RP.int) rfl Tryz.underlying23 Tryz.sizeOf3 (hP97 2 36 rfl rfl) (RP.mono _ h0 (Le.trans (Le.trans l16 l33) hE97)) (hP97 3 37 rfl rfl) hx21 (fun g105 o106 cs_g105 hrk_hat107 hat107=>?_)
 obtain rfl : _ = [_]:=hrk_hat107
 exact L_nil ⟨rfl,_,_,rfl,Le.refl _,fun _ _=>⟨_,_,_,rfl,rfl,hat107⟩,Z⟩
 refine opsS_cons ?_ ?_
 intro f w_ H97 X97 hS97 hE97 hP97 Z
 obtain ⟨g109,o109,cs109,hv109,hrk_hat109,hat109⟩:=(hP97 4 38 rfl rfl)
 obtain rfl : _ = [_]:=hrk_hat109
 refine L_ld rfl Tryz.isAgg3 hv109 (At.cell (AtH.at hat109 Z.sub) (j:=0) rfl) (L_nil ⟨rfl,_,_,rfl,Le.refl _,fun _ _=>rfl,Z⟩)
 refine opsS_cons (fun f w_ _ _ _ _ p Z=>L_neg rfl (p 5 39 rfl rfl) (nO rfl rfl Z)) (opsS_cons (fun f w_ _ _ s _ _ Z=>mF ((s 7 rfl).trans sf7) rfl (nO rfl rfl Z)) (opsS_cons (fun f w_ _ _ _ _ p Z=>L_neg rfl (p 7 41 rfl rfl) (nO rfl rfl Z)) (opsS_cons (fun f w_ _ _ _ _ p Z=>L_bld rfl (parts2 (p 6 40 rfl rfl) (p 8 42 rfl rfl)) (bld_122_0_1 (I (i64 (-x21))) (I (i64 (-(i_11 : Int)))) rfl rfl) (nO rfl rfl Z)) (opsS_cons ?_ ?_))))
 intro f w_ H97 X97 hS97 hE97 hP97 Z
 refine L_bs rfl (parts1 (hP97 9 43 rfl rfl)) (bs_71_1_2 (I (i64 (-x21))) (I (i64 (-(i_11 : Int)))) ) Z (fun g111 w112 Z=>?_)
 have Z:=Star.addF (r:=rTerm) (cs:=[I (i64 (-x21)),I (i64 (-(i_11 : Int)))]) (x:=({ coef:=i64 (-x21),lit:=i64 (-(i_11 : Int)) } : Term)) Z (rTerm_iff.2 rfl)
 have Z:=Star.mkRow (R:=(OR.frz rTerm)) [([I (i64 (-x21)),I (i64 (-(i_11 : Int)))],({ coef:=i64 (-x21),lit:=i64 (-(i_11 : Int)) } : Term))] [({ coef:=i64 (-x21),lit:=i64 (-(i_11 : Int)) } : Term)] 1 Z rfl rfl rfl (by decide)
 have Z:=Z.gets [3,3,3] rfl
 exact L_nil ⟨rfl,_,_,rfl,Le.refl _,fun _ _=>trivial,Z⟩
 exact opsS_nil
 have Z : Star H97 w_ ([oF 122 rTerm v30_g8_0 g8_0_30,box g8 73 #[v30_g8_0,I 0],box g3 73 #[S0,I 0],oF 122 rTerm (f 44) ([({ coef:=i64 (-x21),lit:=i64 (-(i_11 : Int)) } : Term)])]):=Z
 have Z:=Z.gets [3,1] rfl
 refine L_appM (v:=v30_g8_0) (u:=(f 44)) rfl et_71 (hT97 1 35 rfl rfl) rfl Z hx92 (fun v115 w116 Z=>fA 0 fa_73_0 ((hS97 6 rfl).trans sf6) rfl (L_stB (v:=v115) (cs2:=#[v115,I 0]) 1 rfl Tryz.sizeOf71 rfl rfl (one_len (Star.len 0 Z rfl)) Z rfl rfl rfl (fun w118 Z=>nn (W_region (mF ((hS97 1 rfl).trans sf1) rfl (mF ((hS97 0 rfl).trans sf0) rfl (mF ((hS97 7 rfl).trans sf7) rfl (L_ix (r:=RP.int) rfl Tryz.underlying23 Tryz.sizeOf3 rfl (RP.mono _ h0 (Le.trans (Le.trans l16 l33) hE97)) rfl hx21 (fun g123 o124 cs_g123 hrk_hat125 hat125=>?_)))))))))
 obtain rfl : _ = [_]:=hrk_hat125
 refine L_ld rfl Tryz.isAgg3 rfl (At.cell (AtH.at hat125 Z.sub) (j:=0) rfl) (L_sub rfl rfl rfl (aI rfl (nn ?_)))
 obtain ⟨rfl,rfl⟩:=so2 hA83
 have Z:=Z.gets [2,1,2] rfl
 exact rj hR83 ⟨H97,v115,hE97,((hS97 0 rfl).trans sf0),rfl,((hS97 4 rfl).trans sf4),((hS97 6 rfl).trans sf6),((hS97 7 rfl).trans sf7),Z⟩
 have hA83:=(ite_f hc84).symm.trans hA83
 refine W_skip ?_
 obtain ⟨rfl,rfl⟩:=so2 hA83
 exact rj hR83 ⟨H32,v30_g8_0,(Le.refl _),sf0,sf1,sf4,sf6,sf7,Z⟩
 intro f w_ hR
 obtain ⟨H81,v79_g8_0,l82,sf0,sf1,sf4,sf6,sf7,Z⟩:=rk hR83 hR
 refine W_region (mF sf7 rfl (L_add rfl rfl rfl (aI rfl (nn ?_))))
 obtain rfl:=so hB17
 show ∃ m,m < _∧I17 m _ _
 refine ⟨rest17,Nat.lt_succ_self _,?_⟩
 exact ij hI17 ⟨i_11 + 1,rest17,bound_78,g8_0_79,H81,v79_g8_0,rfl,by omega,by omega,hL17,(Le.trans (Le.trans l16 l33) l82),sf0,sf1,sf4,sf6,(Eq.trans rfl (congrArg (Value.int .i64) (i64_succ (n:=1 + k18) (by omega) (cntF_le hk18)))),Z⟩
 rcases suf17 with _ | _
 obtain rfl:=count_zero hL17
 refine W_exit (rj hR17 ⟨bound_12,g8_0_13,H15,v13_g8_0,rfl,l16,sf1,sf4,sf6,Z⟩)
 exact absurd (cntF_yesL hs17 hl17 hk18) (of_decide_eq_false hc20)
 intro f w_ hR
 obtain ⟨bound_12,g8_0_13,H15,v13_g8_0,rfl,l16,sf1,sf4,sf6,Z⟩:=rk hR17 hR
 refine W_seq (sq (mF sf1 rfl (L_lss rfl rfl rfl (nn ?_))))
 obtain ⟨bound_127,hA128,hF⟩:=bind_some hF
 obtain ⟨R128,hR128⟩:=exR fun f w_=>f 1 = I bound_127∧f 4 = Pt g3∧f 6 = Pt g8∧Star H15 w_ ([oF 122 rTerm v13_g8_0 g8_0_13,box g8 73 #[v13_g8_0,I 0],box g3 73 #[S0,I 0]])
 refine W_join R128 ?_ ?_
 refine W_cond (b:=decide (bound_12 < 0)) rfl (fun hc129=>?_) (fun hc129=>?_)
 have hA128:=(ite_t hc129).symm.trans hA128
 refine W_region (aI rfl (nn ?_))
 obtain rfl:=so hA128
 exact rj hR128 ⟨rfl,sf4,sf6,Z⟩
 have hA128:=(ite_f hc129).symm.trans hA128
 refine W_skip ?_
 obtain rfl:=so hA128
 exact rj hR128 ⟨sf1,sf4,sf6,Z⟩
 intro f w_ hR
 obtain ⟨sf1,sf4,sf6,Z⟩:=rk hR128 hR
 refine sq (mF sf1 rfl (fA 1 fa_73_1 sf6 rfl (L_stB (v:=I bound_127) (cs2:=#[v13_g8_0,I bound_127]) 1 rfl Tryz.sizeOf3 rfl rfl rfl Z rfl rfl rfl (fun w131 Z=>L_nil (W_seq (W_seq ?_))))))
 obtain ⟨x138,hx138,hF⟩:=bind_some hF
 refine W_region (L_lda (cs:=[v13_g8_0,I bound_127]) rfl Tryz.isAgg73 Tryz.sizeOf73 sf6 (At.sub0 (Blk.at (Star.blkAt 0 Z rfl)) 0 2) rfl ?_)
 obtain ⟨H140b,l141,s142,z143,k144⟩:=Z.borrow
 have hb145 : (rS 122 rTerm).rel H140b [v13_g8_0] g8_0_13:=fz_own 1 z143 rfl
 refine L_call rfl Tryz.call189 (ops1 rfl) (s_ConstraintValid_c (c:=({ terms:=g8_0_13,bound:=bound_127 } : Con)) s142 hb145 hx138) ?_
 rintro _ w146 ⟨rfl,Z⟩
 have Z:=k144 Z c0
 refine L_not_ rfl rfl (nn (W_cond (b:=(!x138)) rfl (fun hc147=>?_) (fun hc147=>?_)))
 have hF:=(ite_t hc147).symm.trans hF
 refine sq (L_bld rfl (parts0 ) (bld_73_  ) (L_staB (vs:=#[S0,I 0]) (cs2:=#[S0,I 0]) 2 rfl Tryz.sizeOf73 sf4 rfl rfl (ones_cons rfl (ones_cons rfl ones_nil)) Z rfl (by show 0 + 2≤2; decide) rfl (fun w149 Z=>aB rfl (nn (W_ret (retG2 (v1:=.agg #[S0,I 0]) (v2:=Bo false) Tryz.results153 (resV_agg Tryz.isAgg73 Tryz.sizeOf73 sf4 (Star.blkAt 0 Z rfl) rfl) rfl ?_))))))
 obtain rfl:=so hF
 have Z:=Star.addNil (R:=(OR.frz rTerm)) (e:=122) Z
 exact ⟨S0,rfl,(Star.down (Star.keepN 1 Z) l16 (co closed_term c0))⟩
 have hF:=(ite_f hc147).symm.trans hF
 refine W_skip (sq (L_lda (cs:=[v13_g8_0,I bound_127]) rfl Tryz.isAgg73 Tryz.sizeOf73 sf6 (At.sub0 (Blk.at (Star.blkAt 0 Z rfl)) 0 2) rfl (L_staB (vs:=#[v13_g8_0,I bound_127]) (cs2:=#[v13_g8_0,I bound_127]) 2 rfl Tryz.sizeOf73 sf4 rfl rfl (ones_cons (one_len (Star.len 1 Z rfl)) (ones_cons rfl ones_nil)) Z rfl (by show 0 + 2≤2; decide) rfl (fun w152 Z=>aB rfl (nn (W_ret (retG2 (v1:=.agg #[v13_g8_0,I bound_127]) (v2:=Bo true) Tryz.results153 (resV_agg Tryz.isAgg73 Tryz.sizeOf73 sf4 (Star.blkAt 0 Z rfl) rfl) rfl ?_)))))))
 obtain rfl:=so hF
 have Z:=Z.get 2 rfl
 exact ⟨v13_g8_0,rfl,(Star.down (Star.keepN 1 Z) l16 (co closed_term c0))⟩
theorem s_l7Linear_c {fu : Nat} {m : Model} {r_ : Rule} {v0_0 : Value} {v0_1 : Value} {v1_1 : Value} {v1_2 : Value} {v1_4 : Value} {H : FH} {w : World} (Z : Star H w []) (h0_0 : (rS 3 RP.int).rel H [v0_0] m.sizes) (h0_1 : (rS 79 (rRule 3 23)).rel H [v0_1] m.rules) (h1_1 : (rS 3 RP.int).rel H [v1_1] r_.vars) (h1_2 : (rS 3 RP.int).rel H [v1_2] r_.coefs) (h1_4 : (rS 23 (rS 3 RP.int)).rel H [v1_4] r_.rows) {r : List Con} (hF : s_l7Linear fu m r_ = some r) :
 C Tryz.prog 109 #[.agg #[v0_0,v0_1],.agg #[I r_.kind,v1_1,v1_2,I r_.bound,v1_4]] w fun v w'=>∃ (u1 : Value),v = u1∧Star H w' [oS 73 (oCon 122) u1 r]:=by
 unfold s_l7Linear at hF
 refine C_enter Tryz.func109 rfl Tryz.ntmps109 rfl (sq (L_box (v:=.agg #[v0_0,v0_1]) (cs:=#[v0_0,v0_1]) rfl rfl rfl Z (fun g5 w6 Z=>L_box (v:=.agg #[I r_.kind,v1_1,v1_2,I r_.bound,v1_4]) (cs:=#[I r_.kind,v1_1,v1_2,I r_.bound,v1_4]) rfl rfl rfl Z (fun g7 w8 Z=>aV S0 rfl (nq ?_)))))
 obtain ⟨x9,hx9,hF⟩:=bind_some hF
 refine W_region (L_mk (R:=(OR.frz RP.int)) (z0:=0) (zc:=[I 0]) rfl et_23 (by kernel_rfl) (fun _ _=>⟨rfl,rfl⟩) rfl rfl hx9 Z (fun v13 w14 Z=>aV v13 rfl (nq (sq (aI rfl (nn ?_))))))
 have hlen20 : List.length r_.vars≤9223372036854775807:=len_le (slice_len h1_1)
 obtain ⟨j20,hL20,hF⟩:=bind_some hF
 obtain ⟨R20,hR20⟩:=exR fun f w_=>∃ net_17 : List Int,∃ H18 : FH,j20 = .nx net_17∧Le H H18∧f 3 = Pt g7∧f 5 = v13∧Star H18 w_ ([oF 3 RP.int v13 net_17,box g7 79 #[I r_.kind,v1_1,v1_2,I r_.bound,v1_4]])
 refine W_join R20 ?_ ?_
 refine W_block ?_
 obtain ⟨I20,hI20⟩:=exI fun n f w_=>∃ i_16 : Nat,∃ suf20 : List Int,∃ net_17 : List Int,∃ H18 : FH,n = suf20.length∧List.drop i_16 r_.vars = suf20∧i_16 + suf20.length = r_.vars.length∧rangeL (s_l7Linear_b1 fu m r_) suf20 i_16 net_17 = some j20∧Le H H18∧f 2 = Pt g5∧f 3 = Pt g7∧f 5 = v13∧f 6 = I i_16∧Star H18 w_ ([oF 3 RP.int v13 net_17,box g7 79 #[I r_.kind,v1_1,v1_2,I r_.bound,v1_4],box g5 26 #[v0_0,v0_1]])
 refine W_loop I20 (n:=r_.vars.length) ?_ ?_
 exact ij hI20 ⟨0,r_.vars,x9,H,rfl,rfl,Nat.zero_add _,hL20,(Le.refl _),rfl,rfl,rfl,rfl,Z⟩
 intro n20 f w_ hI
 obtain ⟨i_16,suf20,net_17,H18,rfl,hd20,hl20,hL20,l19,sf2,sf3,sf5,sf6,Z⟩:=ik hI20 hI
 refine W_seq (sq (mF sf6 rfl (fA 1 fa_79_1 sf3 rfl (ldB 1 Z Tryz.isAgg23 rfl rfl rfl (L_len rfl Tryz.underlying23 rfl (slice_len (RP.mono _ h1_1 l19)) (L_lss rfl rfl rfl (nn (W_cond (b:=decide ((i_16 : Int) < (r_.vars.length : Int))) rfl (fun hc21=>?_) (fun hc21=>?_)))))))))
 have hlt20:=of_decide_eq_true hc21
 rcases suf20 with _ | ⟨x_20,rest20⟩
 exact absurd hlt20 (by simp at hl20; omega)
 obtain ⟨o20,hB20,hL20⟩:=range_cons hL20
 rw [s_l7Linear_b1] at hB20
 have hix20:=drop_idx hd20
 refine W_skip (W_seq (W_block (sq (aI rfl (nn ?_)))))
 obtain ⟨j27,hL27,hB20⟩:=bind_some hB20
 obtain ⟨R27,hR27⟩:=exR fun f w_=>∃ net_23 : List Int,∃ k_24 : Int,∃ H25 : FH,j27 = .nx (net_23,k_24)∧Le H18 H25∧f 2 = Pt g5∧f 3 = Pt g7∧f 5 = v13∧f 6 = I i_16∧Star H25 w_ ([oF 3 RP.int v13 net_23,box g7 79 #[I r_.kind,v1_1,v1_2,I r_.bound,v1_4],box g5 26 #[v0_0,v0_1]])
 refine W_join R27 ?_ ?_
 refine W_block ?_
 obtain ⟨I27,hI27⟩:=exI fun n f w_=>∃ net_23 : List Int,∃ k_24 : Int,∃ H25 : FH,whileL (s_l7Linear_b2 m r_ i_16 x_20) n (net_23,k_24) = some j27∧Le H18 H25∧f 2 = Pt g5∧f 3 = Pt g7∧f 5 = v13∧f 6 = I i_16∧f 7 = I k_24∧Star H25 w_ ([oF 3 RP.int v13 net_23,box g7 79 #[I r_.kind,v1_1,v1_2,I r_.bound,v1_4],box g5 26 #[v0_0,v0_1]])
 refine W_loop I27 (n:=fu) ?_ ?_
 exact ij hI27 ⟨net_17,0,H18,hL27,(Le.refl _),sf2,sf3,sf5,sf6,rfl,Z⟩
 intro n27 f w_ hI
 obtain ⟨net_23,k_24,H25,hL27,l26,sf2,sf3,sf5,sf6,sf7,Z⟩:=ik hI27 hI
 rcases n27 with _ | n27
 exact (while_zero hL27).elim
 obtain ⟨o27,hB27,hL27⟩:=while_succ hL27
 rw [s_l7Linear_b2] at hB27
 refine W_seq (W_seq ?_)
 obtain ⟨x32,hx32,hB27⟩:=bind_some hB27
 refine W_drawS 10 [isV (I k_24),isV (Pt g5),isV (v0_0),isV (Pq g7 1),isV (v1_1),isV (I i_16),isEl RP.int x_20 0,isV (I x_20),isEl RP.int x32 0,isV (I x32)] [oF 3 RP.int v13 net_23,box g7 79 #[I r_.kind,v1_1,v1_2,I r_.bound,v1_4],box g5 26 #[v0_0,v0_1]] [] ([]) [([],[]),([],[]),([],[]),([],[]),([],[]),([],[]),([],[]),([],[]),([],[]),([],[])] (S:=[]) Tryz_mix (by kernel_rfl) rfl (by kernel_rfl) (amF_cons (mono_V _) (amF_cons (mono_V _) (amF_cons (mono_V _) (amF_cons (mono_V _) (amF_cons (mono_V _) (amF_cons (mono_V _) (amF_cons (mono_el _ _ _) (amF_cons (mono_V _) (amF_cons (mono_el _ _ _) (amF_cons (mono_V _) amF_nil)))))))))) Z ?_ (fun f w_ H37 hS37 hE37 hT37 Z=>?_)
 refine opsS_cons (fun f w_ _ _ s _ _ Z=>mF ((s 7 rfl).trans sf7) rfl (nO rfl rfl Z)) (opsS_cons (fun f w_ _ _ s _ _ Z=>fA 0 fa_26_0 ((s 2 rfl).trans sf2) rfl (nO rfl rfl Z)) (opsS_cons (fun f w_ _ _ _ _ p Z=>ldB 2 Z Tryz.isAgg23 (p 1 19 rfl rfl) rfl rfl (nO rfl rfl Z)) (opsS_cons (fun f w_ _ _ s _ _ Z=>fA 1 fa_79_1 ((s 3 rfl).trans sf3) rfl (nO rfl rfl Z)) (opsS_cons (fun f w_ _ _ _ _ p Z=>ldB 1 Z Tryz.isAgg23 (p 3 21 rfl rfl) rfl rfl (nO rfl rfl Z)) (opsS_cons (fun f w_ _ _ s _ _ Z=>mF ((s 6 rfl).trans sf6) rfl (nO rfl rfl Z)) (opsS_cons ?_ ?_))))))
 intro f w_ H37 X37 hS37 hE37 hP37 Z
 refine L_ix (r:=RP.int) rfl Tryz.underlying23 Tryz.sizeOf3 (hP37 4 22 rfl rfl) (RP.mono _ h1_1 (Le.trans (Le.trans l19 l26) hE37)) (hP37 5 23 rfl rfl) hix20 (fun g46 o47 cs_g46 hrk_hat48 hat48=>?_)
 obtain rfl : _ = [_]:=hrk_hat48
 exact L_nil ⟨rfl,_,_,rfl,Le.refl _,fun _ _=>⟨_,_,_,rfl,rfl,hat48⟩,Z⟩
 refine opsS_cons ?_ ?_
 intro f w_ H37 X37 hS37 hE37 hP37 Z
 obtain ⟨g50,o50,cs50,hv50,hrk_hat50,hat50⟩:=(hP37 6 24 rfl rfl)
 obtain rfl : _ = [_]:=hrk_hat50
 refine L_ld rfl Tryz.isAgg3 hv50 (At.cell (AtH.at hat50 Z.sub) (j:=0) rfl) (L_nil ⟨rfl,_,_,rfl,Le.refl _,fun _ _=>rfl,Z⟩)
 refine opsS_cons ?_ ?_
 intro f w_ H37 X37 hS37 hE37 hP37 Z
 refine L_ix (r:=RP.int) rfl Tryz.underlying23 Tryz.sizeOf3 (hP37 2 20 rfl rfl) (RP.mono _ h0_0 (Le.trans (Le.trans l19 l26) hE37)) (hP37 7 25 rfl rfl) hx32 (fun g52 o53 cs_g52 hrk_hat54 hat54=>?_)
 obtain rfl : _ = [_]:=hrk_hat54
 exact L_nil ⟨rfl,_,_,rfl,Le.refl _,fun _ _=>⟨_,_,_,rfl,rfl,hat54⟩,Z⟩
 refine opsS_cons ?_ ?_
 intro f w_ H37 X37 hS37 hE37 hP37 Z
 obtain ⟨g56,o56,cs56,hv56,hrk_hat56,hat56⟩:=(hP37 8 26 rfl rfl)
 obtain rfl : _ = [_]:=hrk_hat56
 refine L_ld rfl Tryz.isAgg3 hv56 (At.cell (AtH.at hat56 Z.sub) (j:=0) rfl) (L_nil ⟨rfl,_,_,rfl,Le.refl _,fun _ _=>rfl,Z⟩)
 exact opsS_nil
 refine L_leq rfl (hT37 0 18 rfl rfl) (hT37 9 27 rfl rfl) (nn (W_cond (b:=decide (k_24≤x32)) rfl (fun hc58=>?_) (fun hc58=>?_)))
 have hB27:=(ite_t hc58).symm.trans hB27
 refine W_skip (W_seq (W_block ?_))
 obtain ⟨x68,hx68,hB27⟩:=bind_some hB27
 obtain ⟨x70,hx70,hB27⟩:=bind_some hB27
 obtain ⟨x75,hx75,hB27⟩:=bind_some hB27
 refine W_drawS 16 [isV (v13),isV (.agg #[v0_0,v0_1]),isV (Pq g7 1),isV (v1_1),isV (I i_16),isEl RP.int x_20 0,isV (I x_20),isV (I k_24),isV (I x68),isV (Pq g7 2),isV (v1_2),isV (I i_16),isEl RP.int x70 0,isV (I x70),isV (I k_24),isV (I (i64 (x70 * k_24)))] [oF 3 RP.int v13 net_23,box g7 79 #[I r_.kind,v1_1,v1_2,I r_.bound,v1_4],box g5 26 #[v0_0,v0_1]] [] ([]) [([],[]),([],[]),([],[]),([],[]),([],[]),([],[]),([],[]),([],[]),([],[]),([],[]),([],[]),([],[]),([],[]),([],[]),([],[]),([],[])] (S:=[]) Tryz_mix (by kernel_rfl) rfl (by kernel_rfl) (amF_cons (mono_V _) (amF_cons (mono_V _) (amF_cons (mono_V _) (amF_cons (mono_V _) (amF_cons (mono_V _) (amF_cons (mono_el _ _ _) (amF_cons (mono_V _) (amF_cons (mono_V _) (amF_cons (mono_V _) (amF_cons (mono_V _) (amF_cons (mono_V _) (amF_cons (mono_V _) (amF_cons (mono_el _ _ _) (amF_cons (mono_V _) (amF_cons (mono_V _) (amF_cons (mono_V _) amF_nil)))))))))))))))) Z ?_ (fun f w_ H79 hS79 hE79 hT79 Z=>?_)
 refine opsS_cons (fun f w_ _ _ s _ _ Z=>mF ((s 5 rfl).trans ((hS37 5 rfl).trans sf5)) rfl (nO rfl rfl Z)) (opsS_cons (fun f w_ _ _ s _ _ Z=>L_lda (cs:=[v0_0,v0_1]) rfl Tryz.isAgg26 Tryz.sizeOf26 ((s 2 rfl).trans ((hS37 2 rfl).trans sf2)) (At.sub0 (Blk.at (Star.blkAt 2 Z rfl)) 0 2) rfl (nO rfl rfl Z)) (opsS_cons (fun f w_ _ _ s _ _ Z=>fA 1 fa_79_1 ((s 3 rfl).trans ((hS37 3 rfl).trans sf3)) rfl (nO rfl rfl Z)) (opsS_cons (fun f w_ _ _ _ _ p Z=>ldB 1 Z Tryz.isAgg23 (p 2 33 rfl rfl) rfl rfl (nO rfl rfl Z)) (opsS_cons (fun f w_ _ _ s _ _ Z=>mF ((s 6 rfl).trans ((hS37 6 rfl).trans sf6)) rfl (nO rfl rfl Z)) (opsS_cons ?_ ?_)))))
 intro f w_ H79 X79 hS79 hE79 hP79 Z
 refine L_ix (r:=RP.int) rfl Tryz.underlying23 Tryz.sizeOf3 (hP79 3 34 rfl rfl) (RP.mono _ h1_1 (Le.trans (Le.trans (Le.trans l19 l26) hE37) hE79)) (hP79 4 35 rfl rfl) hix20 (fun g94 o95 cs_g94 hrk_hat96 hat96=>?_)
 obtain rfl : _ = [_]:=hrk_hat96
 exact L_nil ⟨rfl,_,_,rfl,Le.refl _,fun _ _=>⟨_,_,_,rfl,rfl,hat96⟩,Z⟩
 refine opsS_cons ?_ ?_
 intro f w_ H79 X79 hS79 hE79 hP79 Z
 obtain ⟨g98,o98,cs98,hv98,hrk_hat98,hat98⟩:=(hP79 5 36 rfl rfl)
 obtain rfl : _ = [_]:=hrk_hat98
 refine L_ld rfl Tryz.isAgg3 hv98 (At.cell (AtH.at hat98 Z.sub) (j:=0) rfl) (L_nil ⟨rfl,_,_,rfl,Le.refl _,fun _ _=>rfl,Z⟩)
 refine opsS_cons (fun f w_ _ _ s _ _ Z=>mF ((s 7 rfl).trans ((hS37 7 rfl).trans sf7)) rfl (nO rfl rfl Z)) (opsS_cons ?_ ?_)
 intro f w_ H79 X79 hS79 hE79 hP79 Z
 obtain ⟨H100b,l101,s102,z103,k104⟩:=Z.borrow
 refine L_call rfl Tryz.call70 (ops3 (hP79 1 32 rfl rfl) (hP79 6 37 rfl rfl) (hP79 7 38 rfl rfl)) (s_l7Var_c (m:=m) (cell:=x_20) (value:=k_24) s102 (RP.mono _ h0_0 (Le.trans (Le.trans (Le.trans (Le.trans l19 l26) hE37) hE79) l101)) (RP.mono _ h0_1 (Le.trans (Le.trans (Le.trans (Le.trans l19 l26) hE37) hE79) l101)) hx68) ?_
 rintro _ w105 ⟨rfl,Z⟩
 have Z:=k104 Z c0
 exact L_nil ⟨rfl,_,_,rfl,Le.refl _,fun _ _=>rfl,Z⟩
 refine opsS_cons (fun f w_ _ _ s _ _ Z=>fA 2 fa_79_2 ((s 3 rfl).trans ((hS37 3 rfl).trans sf3)) rfl (nO rfl rfl Z)) (opsS_cons (fun f w_ _ _ _ _ p Z=>ldB 1 Z Tryz.isAgg23 (p 9 40 rfl rfl) rfl rfl (nO rfl rfl Z)) (opsS_cons (fun f w_ _ _ s _ _ Z=>mF ((s 6 rfl).trans ((hS37 6 rfl).trans sf6)) rfl (nO rfl rfl Z)) (opsS_cons ?_ ?_)))
 intro f w_ H79 X79 hS79 hE79 hP79 Z
 refine L_ix (r:=RP.int) rfl Tryz.underlying23 Tryz.sizeOf3 (hP79 10 41 rfl rfl) (RP.mono _ h1_2 (Le.trans (Le.trans (Le.trans l19 l26) hE37) hE79)) (hP79 11 42 rfl rfl) hx70 (fun g106 o107 cs_g106 hrk_hat108 hat108=>?_)
 obtain rfl : _ = [_]:=hrk_hat108
 exact L_nil ⟨rfl,_,_,rfl,Le.refl _,fun _ _=>⟨_,_,_,rfl,rfl,hat108⟩,Z⟩
 refine opsS_cons ?_ ?_
 intro f w_ H79 X79 hS79 hE79 hP79 Z
 obtain ⟨g110,o110,cs110,hv110,hrk_hat110,hat110⟩:=(hP79 12 43 rfl rfl)
 obtain rfl : _ = [_]:=hrk_hat110
 refine L_ld rfl Tryz.isAgg3 hv110 (At.cell (AtH.at hat110 Z.sub) (j:=0) rfl) (L_nil ⟨rfl,_,_,rfl,Le.refl _,fun _ _=>rfl,Z⟩)
 refine opsS_cons (fun f w_ _ _ s _ _ Z=>mF ((s 7 rfl).trans ((hS37 7 rfl).trans sf7)) rfl (nO rfl rfl Z)) (opsS_cons (fun f w_ _ _ _ _ p Z=>L_mul rfl (p 13 44 rfl rfl) (p 14 45 rfl rfl) (nO rfl rfl Z)) (opsS_nil))
 obtain ⟨g112,cap_g112,hv113,_,_⟩:=Star.row 0 Z rfl hx75
 refine L_ixO (R:=(OR.frz RP.int)) (tb:=0) 0 rfl Tryz.underlying23 Tryz.sizeOf3 (hT79 0 31 rfl rfl) hv113 (by first | rfl | simp) (hT79 8 39 rfl rfl) hx75 ?_
 have Z:=Star.addF (r:=RP.int) (cs:=[I (i64 (x70 * k_24))]) (x:=(i64 (x70 * k_24))) Z rfl
 refine L_stE1 (u:=I (i64 (x70 * k_24))) rfl Tryz.sizeOf3 rfl rfl (hT79 15 46 rfl rfl) hv113 Z hx75 (fun w114 Z=>?_)
 refine nn (W_region (mF ((hS79 7 rfl).trans ((hS37 7 rfl).trans sf7)) rfl (L_add rfl rfl rfl (aI rfl (nn ?_)))))
 obtain rfl:=so hB27
 show ∃ m,m < _∧I27 m _ _
 refine ⟨n27,Nat.lt_succ_self _,?_⟩
 exact ij hI27 ⟨(net_23.set (Int.toNat x68) (i64 (x70 * k_24))),i64 (k_24 + 1),H79,hL27,(Le.trans (Le.trans l26 hE37) hE79),((hS79 2 rfl).trans ((hS37 2 rfl).trans sf2)),((hS79 3 rfl).trans ((hS37 3 rfl).trans sf3)),((hS79 5 rfl).trans ((hS37 5 rfl).trans sf5)),((hS79 6 rfl).trans ((hS37 6 rfl).trans sf6)),rfl,Z⟩
 have hB27:=(ite_f hc58).symm.trans hB27
 refine W_exit ?_
 obtain rfl:=so hB27
 obtain rfl:=so hL27
 exact rj hR27 ⟨net_23,k_24,H37,rfl,(Le.trans l26 hE37),((hS37 2 rfl).trans sf2),((hS37 3 rfl).trans sf3),((hS37 5 rfl).trans sf5),((hS37 6 rfl).trans sf6),Z⟩
 intro f w_ hR
 obtain ⟨net_23,k_24,H25,rfl,l26,sf2,sf3,sf5,sf6,Z⟩:=rk hR27 hR
 refine W_region (mF sf6 rfl (L_add rfl rfl rfl (aI rfl (nn ?_))))
 obtain rfl:=so hB20
 show ∃ m,m < _∧I20 m _ _
 refine ⟨rest20.length,by simp,?_⟩
 exact ij hI20 ⟨i_16 + 1,rest20,net_23,H25,rfl,drop_next hd20,by simp at hl20; omega,hL20,(Le.trans l19 l26),sf2,sf3,sf5,(Eq.trans rfl (congrArg (Value.int .i64) (i64_succ (n:=r_.vars.length) (by simp at hl20; omega) hlen20))),Z⟩
 rcases suf20 with _ | ⟨_,_⟩
 obtain rfl:=range_nil hL20
 refine W_exit (rj hR20 ⟨net_17,H18,rfl,l19,sf3,sf5,(Star.keepN 2 Z)⟩)
 exact absurd (of_decide_eq_false hc21) (by simp at hl20; omega)
 intro f w_ hR
 obtain ⟨net_17,H18,rfl,l19,sf3,sf5,Z⟩:=rk hR20 hR
 refine W_seq ?_
 obtain ⟨x121,hx121,hF⟩:=bind_some hF
 refine W_region (mF sf5 rfl (fA 3 fa_79_3 sf3 rfl (ldB 1 Z Tryz.isAgg3 rfl rfl rfl ?_)))
 obtain ⟨H127b,l128,s129,z130,k131⟩:=Z.borrow
 have hb132 : (rS 3 RP.int).rel H127b [v13] net_17:=fz_own 0 z130 rfl
 refine L_call rfl Tryz.call153 (ops2 rfl rfl) (s_l1Normal_c (net:=net_17) (bound:=r_.bound) s129 hb132 hx121) ?_
 rintro _ w133 ⟨r133_0,rfl,Z⟩
 have Z:=k131 Z (co closed_term c0)
 refine mV (.tuple #[.agg #[r133_0,I x121.1.bound],Bo x121.2]) rfl (L_ex (v:=.agg #[r133_0,I x121.1.bound]) rfl rfl rfl (L_ex (v:=Bo x121.2) rfl rfl rfl (L_al (cs:=#[S0,I 0]) rfl Tryz.zeroValue73 rfl Z (fun g135 w136 Z=>L_staB (vs:=#[r133_0,I x121.1.bound]) (cs2:=#[r133_0,I x121.1.bound]) 0 rfl Tryz.sizeOf73 rfl rfl rfl (ones_cons (one_len (Star.len 1 Z rfl)) (ones_cons rfl ones_nil)) Z rfl (by show 0 + 2≤2; decide) rfl (fun w137 Z=>aB rfl (L_nil (sq (L_lda (cs:=[r133_0,I x121.1.bound]) rfl Tryz.isAgg73 Tryz.sizeOf73 rfl (At.sub0 (Blk.at (Star.blkAt 0 Z rfl)) 0 2) rfl (L_bs rfl (parts1 rfl) (bs_28_1_2 (r133_0) (I x121.1.bound) ) Z (fun g141 w142 Z=>?_))))))))))
 have Z:=Z.get 2 rfl
 have Z:=oCon_close (c:=x121.1) Z
 have Z:=Star.mkRow (R:=(oCon 122)) [([r133_0,I x121.1.bound],x121.1)] [x121.1] 1 Z rfl rfl rfl (by decide)
 refine aV (Sl g141 1 1) rfl (nn (W_ret (retG1 (v1:=(Sl g141 1 1)) Tryz.results109 rfl ?_)))
 obtain rfl:=so hF
 exact ⟨(Sl g141 1 1),rfl,(Star.down (Star.keepN 1 Z) l19 (co closed_oCon c0))⟩
theorem s_l7Sorted_c {fu : Nat} {list : List Int} {v0 : Value} {H : FH} {w : World} (Z : Star H w []) (h0 : (rS 3 RP.int).rel H [v0] list) {r : List Int} (hF : s_l7Sorted fu list = some r) :
 C Tryz.prog 154 #[v0] w fun v w'=>∃ (u1 : Value),v = u1∧Star H w' [oF 3 RP.int u1 r]:=by
 unfold s_l7Sorted at hF
 refine C_enter Tryz.func154 rfl Tryz.ntmps154 rfl (sq (aV S0 rfl (nq ?_)))
 obtain ⟨x4,hx4,hF⟩:=bind_some hF
 refine W_region (L_bs rfl parts0 (bs_23_0  ) Z (fun g8 w9 Z=>?_))
 have Z:=Star.mkRow (R:=(OR.frz RP.int)) [] [] 0 Z rfl rfl rfl (by decide)
 refine mV v0 rfl (L_app (v:=(Sl g8 0 0)) (u:=v0) rfl et_23 rfl rfl Z h0 hx4 (fun v11 w12 Z=>aV v11 rfl (nq (sq (aI rfl (nn ?_))))))
 obtain ⟨j23,hL23,hF⟩:=bind_some hF
 obtain ⟨R23,hR23⟩:=exR fun f w_=>∃ out_19 : List Int,∃ i_20 : Int,∃ H21 : FH,j23 = .nx (out_19,i_20)∧Le H H21∧f 3 = v11∧Star H21 w_ ([oF 3 RP.int v11 out_19])
 refine W_join R23 ?_ ?_
 refine W_block ?_
 obtain ⟨I23,hI23⟩:=exI fun n f w_=>∃ out_19 : List Int,∃ i_20 : Int,∃ H21 : FH,whileL (s_l7Sorted_b1 fu) n (out_19,i_20) = some j23∧Le H H21∧f 3 = v11∧f 4 = I i_20∧Star H21 w_ ([oF 3 RP.int v11 out_19])
 refine W_loop I23 (n:=fu) ?_ ?_
 exact ij hI23 ⟨x4,0,H,hL23,(Le.refl _),rfl,rfl,Z⟩
 intro n23 f w_ hI
 obtain ⟨out_19,i_20,H21,hL23,l22,sf3,sf4,Z⟩:=ik hI23 hI
 rcases n23 with _ | n23
 exact (while_zero hL23).elim
 obtain ⟨o23,hB23,hL23⟩:=while_succ hL23
 rw [s_l7Sorted_b1] at hB23
 refine W_seq (sq (mF sf4 rfl (mF sf3 rfl (L_len rfl Tryz.underlying23 rfl (Star.len 0 Z rfl) (L_lss rfl rfl rfl (nn (W_cond (b:=decide (i_20 < (out_19.length : Int))) rfl (fun hc24=>?_) (fun hc24=>?_))))))))
 have hB23:=(ite_t hc24).symm.trans hB23
 refine W_skip (W_seq (W_block (sq (mF sf4 rfl (aI rfl (nn ?_))))))
 obtain ⟨j30,hL30,hB23⟩:=bind_some hB23
 obtain ⟨R30,hR30⟩:=exR fun f w_=>∃ out_26 : List Int,∃ k_27 : Int,∃ H28 : FH,j30 = .nx (out_26,k_27)∧Le H21 H28∧f 3 = v11∧f 4 = I i_20∧Star H28 w_ ([oF 3 RP.int v11 out_26])
 refine W_join R30 ?_ ?_
 refine W_block ?_
 obtain ⟨I30,hI30⟩:=exI fun n f w_=>∃ out_26 : List Int,∃ k_27 : Int,∃ H28 : FH,whileL s_l7Sorted_b2 n (out_26,k_27) = some j30∧Le H21 H28∧f 3 = v11∧f 4 = I i_20∧f 5 = I k_27∧Star H28 w_ ([oF 3 RP.int v11 out_26])
 refine W_loop I30 (n:=fu) ?_ ?_
 exact ij hI30 ⟨out_19,i_20,H21,hL30,(Le.refl _),sf3,sf4,rfl,Z⟩
 intro n30 f w_ hI
 obtain ⟨out_26,k_27,H28,hL30,l29,sf3,sf4,sf5,Z⟩:=ik hI30 hI
 rcases n30 with _ | n30
 exact (while_zero hL30).elim
 obtain ⟨o30,hB30,hL30⟩:=while_succ hL30
 rw [s_l7Sorted_b2] at hB30
 refine W_seq (W_seq ?_)
 obtain ⟨b39,hb39,hB30⟩:=bind_some hB30
 obtain ⟨R43,hR43⟩:=exR fun f w_=>∃ H41 : FH,Le H28 H41∧f 3 = v11∧f 4 = I i_20∧f 5 = I k_27∧f 30 = Bo b39∧Star H41 w_ ([oF 3 RP.int v11 out_26])
 refine W_join R43 ?_ ?_
 rcases Bool.eq_false_or_eq_true (decide (k_27 > 0)) with hc44 | hc44
 rw [ite_t hc44] at hb39
 obtain ⟨x31,hx31,hb39⟩:=bind_some hb39
 obtain ⟨x36,hx36,hb39⟩:=bind_some hb39
 obtain ⟨g45,cap_g45,hv46,_,_⟩:=Star.row 0 Z rfl hx31
 refine W_drawS 12 [isV (I k_27),isV (Bo (decide (k_27 > 0))),isV (Bo (decide (k_27 > 0))),isV (v11),isV (I k_27),isV (.pointer (some ⟨g45,Int.toNat k_27 * 1,none⟩)),isV (I x31),isV (v11),isV (I k_27),isV (I (i64 (k_27 - 1))),isV (.pointer (some ⟨g45,Int.toNat (i64 (k_27 - 1)) * 1,none⟩)),isV (I x36)] [oF 3 RP.int v11 out_26] [] ([]) [([],[]),([],[]),([],[]),([],[]),([],[]),([],[]),([],[]),([],[]),([],[]),([],[]),([],[]),([],[])] (S:=[]) Tryz_mix (by kernel_rfl) rfl (by kernel_rfl) (amF_cons (mono_V _) (amF_cons (mono_V _) (amF_cons (mono_V _) (amF_cons (mono_V _) (amF_cons (mono_V _) (amF_cons (mono_V _) (amF_cons (mono_V _) (amF_cons (mono_V _) (amF_cons (mono_V _) (amF_cons (mono_V _) (amF_cons (mono_V _) (amF_cons (mono_V _) amF_nil)))))))))))) Z ?_ (fun f w_ H40 hS40 hE40 hT40 Z=>?_)
 refine opsS_cons (fun f w_ _ _ s _ _ Z=>mF ((s 5 rfl).trans sf5) rfl (nO rfl rfl Z)) (opsS_cons (fun f w_ _ _ _ _ p Z=>L_gtr rfl (p 0 17 rfl rfl) rfl (nO rfl rfl Z)) (opsS_cons (fun f w_ _ _ _ _ p Z=>mF (p 1 18 rfl rfl) rfl (nO rfl rfl Z)) (opsS_cons (fun f w_ _ _ s _ p Z=>L_mv (v:=v11) (g_yes rfl (Eq.trans (p 2 19 rfl rfl) (congrArg Value.bool hc44)) rfl) ((s 3 rfl).trans sf3) (nO rfl rfl Z)) (opsS_cons (fun f w_ _ _ s _ p Z=>L_mv (v:=I k_27) (g_yes rfl (Eq.trans (p 2 19 rfl rfl) (congrArg Value.bool hc44)) rfl) ((s 5 rfl).trans sf5) (nO rfl rfl Z)) (opsS_cons (fun f w_ _ _ _ _ p Z=>L_ixO (R:=(OR.frz RP.int)) (tb:=0) 0 (g_yes rfl (Eq.trans (p 2 19 rfl rfl) (congrArg Value.bool hc44)) rfl) Tryz.underlying23 Tryz.sizeOf3 (p 3 20 rfl rfl) hv46 (by first | rfl | simp) (p 4 21 rfl rfl) hx31 (nO rfl rfl Z)) (opsS_cons ?_ ?_))))))
 intro f w_ H40 X40 hS40 hE40 hP40 Z
 obtain ⟨cs51,hr51,hat51⟩:=Star.eltF 0 Z rfl hv46 hx31
 obtain rfl : _ = [_]:=hr51
 refine L_ld (v:=I x31) (g_yes rfl (Eq.trans (hP40 2 19 rfl rfl) (congrArg Value.bool hc44)) rfl) Tryz.isAgg3 (hP40 5 22 rfl rfl) (At.cell hat51 (j:=0) rfl) (L_nil ⟨rfl,_,_,rfl,Le.refl _,fun _ _=>rfl,Z⟩)
 refine opsS_cons (fun f w_ _ _ s _ p Z=>L_mv (v:=v11) (g_yes rfl (Eq.trans (p 2 19 rfl rfl) (congrArg Value.bool hc44)) rfl) ((s 3 rfl).trans sf3) (nO rfl rfl Z)) (opsS_cons (fun f w_ _ _ s _ p Z=>L_mv (v:=I k_27) (g_yes rfl (Eq.trans (p 2 19 rfl rfl) (congrArg Value.bool hc44)) rfl) ((s 5 rfl).trans sf5) (nO rfl rfl Z)) (opsS_cons (fun f w_ _ _ _ _ p Z=>L_sub (g_yes rfl (Eq.trans (p 2 19 rfl rfl) (congrArg Value.bool hc44)) rfl) (p 8 25 rfl rfl) rfl (nO rfl rfl Z)) (opsS_cons (fun f w_ _ _ _ _ p Z=>L_ixO (R:=(OR.frz RP.int)) (tb:=0) 0 (g_yes rfl (Eq.trans (p 2 19 rfl rfl) (congrArg Value.bool hc44)) rfl) Tryz.underlying23 Tryz.sizeOf3 (p 7 24 rfl rfl) hv46 (by first | rfl | simp) (p 9 26 rfl rfl) hx36 (nO rfl rfl Z)) (opsS_cons ?_ ?_))))
 intro f w_ H40 X40 hS40 hE40 hP40 Z
 obtain ⟨cs53,hr53,hat53⟩:=Star.eltF 0 Z rfl hv46 hx36
 obtain rfl : _ = [_]:=hr53
 refine L_ld (v:=I x36) (g_yes rfl (Eq.trans (hP40 2 19 rfl rfl) (congrArg Value.bool hc44)) rfl) Tryz.isAgg3 (hP40 10 27 rfl rfl) (At.cell hat53 (j:=0) rfl) (L_nil ⟨rfl,_,_,rfl,Le.refl _,fun _ _=>rfl,Z⟩)
 exact opsS_nil
 refine L_lss (g_yes rfl (Eq.trans (hT40 2 19 rfl rfl) (congrArg Value.bool hc44)) rfl) (hT40 6 23 rfl rfl) (hT40 11 28 rfl rfl) (L_pick (v:=Bo b39) rfl (Eq.trans (hT40 2 19 rfl rfl) (congrArg Value.bool hc44)) (congrArg Value.bool (so hb39)) (nn (rj hR43 ⟨H40,hE40,((hS40 3 rfl).trans sf3),((hS40 4 rfl).trans sf4),((hS40 5 rfl).trans sf5),rfl,Z⟩)))
 rw [ite_f hc44] at hb39
 refine W_drawS 12 [isV (I k_27),isV (Bo (decide (k_27 > 0))),isV (Bo (decide (k_27 > 0))),isV (undef),isV (undef),isV (undef),isV (undef),isV (undef),isV (undef),isV (undef),isV (undef),isV (undef)] [oF 3 RP.int v11 out_26] [] ([]) [([],[]),([],[]),([],[]),([],[]),([],[]),([],[]),([],[]),([],[]),([],[]),([],[]),([],[]),([],[])] (S:=[]) Tryz_mix (by kernel_rfl) rfl (by kernel_rfl) (amF_cons (mono_V _) (amF_cons (mono_V _) (amF_cons (mono_V _) (amF_cons (mono_V _) (amF_cons (mono_V _) (amF_cons (mono_V _) (amF_cons (mono_V _) (amF_cons (mono_V _) (amF_cons (mono_V _) (amF_cons (mono_V _) (amF_cons (mono_V _) (amF_cons (mono_V _) amF_nil)))))))))))) Z ?_ (fun f w_ H40 hS40 hE40 hT40 Z=>?_)
 refine opsS_cons (fun f w_ _ _ s _ _ Z=>mF ((s 5 rfl).trans sf5) rfl (nO rfl rfl Z)) (opsS_cons (fun f w_ _ _ _ _ p Z=>L_gtr rfl (p 0 17 rfl rfl) rfl (nO rfl rfl Z)) (opsS_cons (fun f w_ _ _ _ _ p Z=>mF (p 1 18 rfl rfl) rfl (nO rfl rfl Z)) (oP (fun _ _ p=>gN (p 2 19 rfl rfl) hc44 rfl) (fun _=>rfl) (oP (fun _ _ p=>gN (p 2 19 rfl rfl) hc44 rfl) (fun _=>rfl) (oP (fun _ _ p=>gN (p 2 19 rfl rfl) hc44 rfl) (fun _=>rfl) (oP (fun _ _ p=>gN (p 2 19 rfl rfl) hc44 rfl) (fun _=>rfl) (oP (fun _ _ p=>gN (p 2 19 rfl rfl) hc44 rfl) (fun _=>rfl) (oP (fun _ _ p=>gN (p 2 19 rfl rfl) hc44 rfl) (fun _=>rfl) (oP (fun _ _ p=>gN (p 2 19 rfl rfl) hc44 rfl) (fun _=>rfl) (oP (fun _ _ p=>gN (p 2 19 rfl rfl) hc44 rfl) (fun _=>rfl) (oP (fun _ _ p=>gN (p 2 19 rfl rfl) hc44 rfl) (fun _=>rfl) (opsS_nil))))))))))))
 refine ps (g_no rfl (Eq.trans (hT40 2 19 rfl rfl) (congrArg Value.bool hc44)) rfl rfl) (L_pick (v:=Bo b39) rfl (Eq.trans (hT40 2 19 rfl rfl) (congrArg Value.bool hc44)) (congrArg Value.bool (so hb39)) (nn (rj hR43 ⟨H40,hE40,((hS40 3 rfl).trans sf3),((hS40 4 rfl).trans sf4),((hS40 5 rfl).trans sf5),rfl,Z⟩)))
 intro f w_ hR
 obtain ⟨H41,l42,sf3,sf4,sf5,sf30,Z⟩:=rk hR43 hR
 refine W_cond (b:=b39) sf30 (fun hc55=>?_) (fun hc55=>?_)
 have hB30:=(ite_t hc55).symm.trans hB30
 refine W_skip (W_seq (W_block (W_seq ?_)))
 obtain ⟨x56,hx56,hB30⟩:=bind_some hB30
 refine W_region (mF sf3 rfl (mF sf5 rfl ?_))
 obtain ⟨g61,cap_g61,hv62,_,_⟩:=Star.row 0 Z rfl hx56
 refine L_ixO (R:=(OR.frz RP.int)) (tb:=0) 0 rfl Tryz.underlying23 Tryz.sizeOf3 rfl hv62 (by first | rfl | simp) rfl hx56 ?_
 obtain ⟨cs63,hr63,hat63⟩:=Star.eltF 0 Z rfl hv62 hx56
 obtain rfl : _ = [_]:=hr63
 refine L_ld rfl Tryz.isAgg3 rfl (At.cell hat63 (j:=0) rfl) (aI rfl (L_nil (W_seq ?_)))
 obtain ⟨x65,hx65,hB30⟩:=bind_some hB30
 refine W_region (mF sf3 rfl (mF sf5 rfl (mF sf3 rfl (mF sf5 rfl (L_sub rfl rfl rfl (L_ixO (R:=(OR.frz RP.int)) (tb:=0) 0 rfl Tryz.underlying23 Tryz.sizeOf3 rfl hv62 (by first | rfl | simp) rfl hx65 ?_))))))
 obtain ⟨cs69,hr69,hat69⟩:=Star.eltF 0 Z rfl hv62 hx65
 obtain rfl : _ = [_]:=hr69
 refine L_ld rfl Tryz.isAgg3 rfl (At.cell hat69 (j:=0) rfl) (L_ixO (R:=(OR.frz RP.int)) (tb:=0) 0 rfl Tryz.underlying23 Tryz.sizeOf3 rfl hv62 (by first | rfl | simp) rfl hx56 ?_)
 have Z:=Star.addF (r:=RP.int) (cs:=[I x65]) (x:=x65) Z rfl
 refine L_stE1 (u:=I x65) rfl Tryz.sizeOf3 rfl rfl rfl hv62 Z hx56 (fun w71 Z=>?_)
 refine nn ?_
 obtain ⟨x72,hx72,hB30⟩:=bind_some hB30
 refine W_region (mF sf3 rfl (mF sf5 rfl (L_sub rfl rfl rfl (mI rfl (L_ixO (R:=(OR.frz RP.int)) (tb:=0) 0 rfl Tryz.underlying23 Tryz.sizeOf3 rfl hv62 (by first | rfl | simp) rfl hx72 ?_)))))
 have Z:=Star.addF (r:=RP.int) (cs:=[I x56]) (x:=x56) Z rfl
 refine L_stE1 (u:=I x56) rfl Tryz.sizeOf3 rfl rfl rfl hv62 Z hx72 (fun w74 Z=>?_)
 refine nn (W_region (mF sf5 rfl (L_sub rfl rfl rfl (aI rfl (nn ?_)))))
 obtain rfl:=so hB30
 show ∃ m,m < _∧I30 m _ _
 refine ⟨n30,Nat.lt_succ_self _,?_⟩
 exact ij hI30 ⟨((out_26.set (Int.toNat k_27) x65).set (Int.toNat (i64 (k_27 - 1))) x56),i64 (k_27 - 1),H41,hL30,(Le.trans l29 l42),sf3,sf4,rfl,Z⟩
 have hB30:=(ite_f hc55).symm.trans hB30
 refine W_exit ?_
 obtain rfl:=so hB30
 obtain rfl:=so hL30
 exact rj hR30 ⟨out_26,k_27,H41,rfl,(Le.trans l29 l42),sf3,sf4,Z⟩
 intro f w_ hR
 obtain ⟨out_26,k_27,H28,rfl,l29,sf3,sf4,Z⟩:=rk hR30 hR
 refine W_region (mF sf4 rfl (L_add rfl rfl rfl (aI rfl (nn ?_))))
 obtain rfl:=so hB23
 show ∃ m,m < _∧I23 m _ _
 refine ⟨n23,Nat.lt_succ_self _,?_⟩
 exact ij hI23 ⟨out_26,i64 (i_20 + 1),H28,hL23,(Le.trans l22 l29),sf3,rfl,Z⟩
 have hB23:=(ite_f hc24).symm.trans hB23
 refine W_exit ?_
 obtain rfl:=so hB23
 obtain rfl:=so hL23
 exact rj hR23 ⟨out_19,i_20,H21,rfl,l22,sf3,Z⟩
 intro f w_ hR
 obtain ⟨out_19,i_20,H21,rfl,l22,sf3,Z⟩:=rk hR23 hR
 refine sq (mF sf3 rfl (aV v11 rfl (nn (W_ret (retG1 (v1:=v11) Tryz.results154 rfl ?_)))))
 obtain rfl:=so hF
 exact ⟨v11,rfl,(Star.down Z l22 (co closed_int c0))⟩
theorem s_l7Different_c {fu : Nat} {m : Model} {r_ : Rule} {v0_0 : Value} {v0_1 : Value} {v1_1 : Value} {v1_2 : Value} {v1_4 : Value} {H : FH} {w : World} (Z : Star H w []) (h0_0 : (rS 3 RP.int).rel H [v0_0] m.sizes) (h0_1 : (rS 79 (rRule 3 23)).rel H [v0_1] m.rules) (h1_1 : (rS 3 RP.int).rel H [v1_1] r_.vars) (h1_2 : (rS 3 RP.int).rel H [v1_2] r_.coefs) (h1_4 : (rS 23 (rS 3 RP.int)).rel H [v1_4] r_.rows) {r : List Con} (hF : s_l7Different fu m r_ = some r) :
 C Tryz.prog 110 #[.agg #[v0_0,v0_1],.agg #[I r_.kind,v1_1,v1_2,I r_.bound,v1_4]] w fun v w'=>∃ (u1 : Value),v = u1∧Star H w' [oS 73 (oCon 122) u1 r]:=by
 unfold s_l7Different at hF
 refine C_enter Tryz.func110 rfl Tryz.ntmps110 rfl (sq (L_box (v:=.agg #[v0_0,v0_1]) (cs:=#[v0_0,v0_1]) rfl rfl rfl Z (fun g5 w6 Z=>L_box (v:=.agg #[I r_.kind,v1_1,v1_2,I r_.bound,v1_4]) (cs:=#[I r_.kind,v1_1,v1_2,I r_.bound,v1_4]) rfl rfl rfl Z (fun g7 w8 Z=>aV S0 rfl (ns (L_bs rfl parts0 (bs_28_0  ) Z (fun g12 w13 Z=>?_)))))))
 have Z:=Star.mkRow (R:=(OR.frz (rCon 122))) [] [] 0 Z rfl rfl rfl (by decide)
 refine aV (Sl g12 0 0) rfl (nq (sq (aI rfl (nn ?_))))
 obtain ⟨k21,hk21,hF⟩:=bind_some hF
 obtain ⟨j20,hL20,hF⟩:=bind_some hF
 obtain ⟨R20,hR20⟩:=exR fun f w_=>∃ out_16 : List Con,∃ H18 : FH,∃ v16_out : Value,j20 = .nx out_16∧Le H H18∧f 5 = v16_out∧Star H18 w_ ([oS 73 (oCon 122) v16_out out_16])
 refine W_join R20 ?_ ?_
 refine W_block ?_
 obtain ⟨I20,hI20⟩:=exI fun n f w_=>∃ i_15 : Nat,∃ suf20 : Nat,∃ out_16 : List Con,∃ H18 : FH,∃ v16_out : Value,suf20 = n∧0≤i_15∧i_15 + suf20 = 0 + k21∧countL (s_l7Different_b1 fu m r_) suf20 i_15 out_16 = some j20∧Le H H18∧f 2 = Pt g5∧f 3 = Pt g7∧f 5 = v16_out∧f 6 = I i_15∧Star H18 w_ ([oS 73 (oCon 122) v16_out out_16,box g7 79 #[I r_.kind,v1_1,v1_2,I r_.bound,v1_4],box g5 26 #[v0_0,v0_1]])
 have Z:=Star.recast (R:=(OR.frz (rCon 122))) (R':=(oCon 122)) rfl Z
 refine W_loop I20 (n:=k21) ?_ ?_
 exact ij hI20 ⟨0,k21,[],H,(Sl g12 0 0),rfl,Nat.le_refl _,rfl,hL20,(Le.refl _),rfl,rfl,rfl,rfl,Z⟩
 intro n20 f w_ hI
 obtain ⟨i_15,suf20,out_16,H18,v16_out,rfl,hs20,hl20,hL20,l19,sf2,sf3,sf5,sf6,Z⟩:=ik hI20 hI
 refine W_seq (sq (mF sf6 rfl (L_leq rfl rfl rfl (nn (W_cond (b:=decide ((i_15 : Int)≤3)) rfl (fun hc22=>?_) (fun hc22=>?_))))))
 have hlt20:=of_decide_eq_true hc22
 rcases suf20 with _ | rest20
 exact absurd hlt20 (cntF_noL hl20 hk21)
 obtain ⟨o20,hB20,hL20⟩:=count_succ hL20
 rw [s_l7Different_b1] at hB20
 refine W_skip (W_seq (W_block (sq (L_bs rfl parts0 (bs_23_0  ) Z (fun g26 w27 Z=>?_)))))
 have Z:=Star.mkRow (R:=(OR.frz RP.int)) [] [] 0 Z rfl rfl rfl (by decide)
 refine aV (Sl g26 0 0) rfl (nq (sq (aI rfl (nn ?_))))
 have hlen34 : List.length r_.vars≤9223372036854775807:=len_le (slice_len (RP.mono _ h1_1 l19))
 obtain ⟨j34,hL34,hB20⟩:=bind_some hB20
 obtain ⟨R34,hR34⟩:=exR fun f w_=>∃ vars_30 : List Int,∃ H32 : FH,∃ v30_vars : Value,j34 = .nx vars_30∧Le H18 H32∧f 2 = Pt g5∧f 3 = Pt g7∧f 5 = v16_out∧f 6 = I i_15∧f 7 = v30_vars∧Star H32 w_ ([oS 73 (oCon 122) v16_out out_16,oF 3 RP.int v30_vars vars_30,box g7 79 #[I r_.kind,v1_1,v1_2,I r_.bound,v1_4],box g5 26 #[v0_0,v0_1]])
 refine W_join R34 ?_ ?_
 refine W_block ?_
 obtain ⟨I34,hI34⟩:=exI fun n f w_=>∃ i_29 : Nat,∃ suf34 : List Int,∃ vars_30 : List Int,∃ H32 : FH,∃ v30_vars : Value,n = suf34.length∧List.drop i_29 r_.vars = suf34∧i_29 + suf34.length = r_.vars.length∧rangeL (s_l7Different_b2 m i_15) suf34 i_29 vars_30 = some j34∧Le H18 H32∧f 2 = Pt g5∧f 3 = Pt g7∧f 5 = v16_out∧f 6 = I i_15∧f 7 = v30_vars∧f 8 = I i_29∧Star H32 w_ ([oS 73 (oCon 122) v16_out out_16,oF 3 RP.int v30_vars vars_30,box g7 79 #[I r_.kind,v1_1,v1_2,I r_.bound,v1_4],box g5 26 #[v0_0,v0_1]])
 have Z:=Z.gets [3,3,2,3] rfl
 refine W_loop I34 (n:=r_.vars.length) ?_ ?_
 exact ij hI34 ⟨0,r_.vars,[],H18,(Sl g26 0 0),rfl,rfl,Nat.zero_add _,hL34,(Le.refl _),sf2,sf3,sf5,sf6,rfl,rfl,Z⟩
 intro n34 f w_ hI
 obtain ⟨i_29,suf34,vars_30,H32,v30_vars,rfl,hd34,hl34,hL34,l33,sf2,sf3,sf5,sf6,sf7,sf8,Z⟩:=ik hI34 hI
 refine W_seq (sq (mF sf8 rfl (fA 1 fa_79_1 sf3 rfl (ldB 2 Z Tryz.isAgg23 rfl rfl rfl (L_len rfl Tryz.underlying23 rfl (slice_len (RP.mono _ h1_1 (Le.trans l19 l33))) (L_lss rfl rfl rfl (nn (W_cond (b:=decide ((i_29 : Int) < (r_.vars.length : Int))) rfl (fun hc35=>?_) (fun hc35=>?_)))))))))
 have hlt34:=of_decide_eq_true hc35
 rcases suf34 with _ | ⟨x_34,rest34⟩
 exact absurd hlt34 (by simp at hl34; omega)
 obtain ⟨o34,hB34,hL34⟩:=range_cons hL34
 rw [s_l7Different_b2] at hB34
 have hix34:=drop_idx hd34
 refine W_skip (W_seq (W_block (W_seq ?_)))
 obtain ⟨x40,hx40,hB34⟩:=bind_some hB34
 refine W_drawS 10 [isV (I i_15),isV (Pt g5),isV (v0_0),isV (Pq g7 1),isV (v1_1),isV (I i_29),isEl RP.int x_34 0,isV (I x_34),isEl RP.int x40 0,isV (I x40)] [oS 73 (oCon 122) v16_out out_16,oF 3 RP.int v30_vars vars_30,box g7 79 #[I r_.kind,v1_1,v1_2,I r_.bound,v1_4],box g5 26 #[v0_0,v0_1]] [] ([]) [([],[]),([],[]),([],[]),([],[]),([],[]),([],[]),([],[]),([],[]),([],[]),([],[])] (S:=[]) Tryz_mix (by kernel_rfl) rfl (by kernel_rfl) (amF_cons (mono_V _) (amF_cons (mono_V _) (amF_cons (mono_V _) (amF_cons (mono_V _) (amF_cons (mono_V _) (amF_cons (mono_V _) (amF_cons (mono_el _ _ _) (amF_cons (mono_V _) (amF_cons (mono_el _ _ _) (amF_cons (mono_V _) amF_nil)))))))))) Z ?_ (fun f w_ H45 hS45 hE45 hT45 Z=>?_)
 refine opsS_cons (fun f w_ _ _ s _ _ Z=>mF ((s 6 rfl).trans sf6) rfl (nO rfl rfl Z)) (opsS_cons (fun f w_ _ _ s _ _ Z=>fA 0 fa_26_0 ((s 2 rfl).trans sf2) rfl (nO rfl rfl Z)) (opsS_cons (fun f w_ _ _ _ _ p Z=>ldB 3 Z Tryz.isAgg23 (p 1 23 rfl rfl) rfl rfl (nO rfl rfl Z)) (opsS_cons (fun f w_ _ _ s _ _ Z=>fA 1 fa_79_1 ((s 3 rfl).trans sf3) rfl (nO rfl rfl Z)) (opsS_cons (fun f w_ _ _ _ _ p Z=>ldB 2 Z Tryz.isAgg23 (p 3 25 rfl rfl) rfl rfl (nO rfl rfl Z)) (opsS_cons (fun f w_ _ _ s _ _ Z=>mF ((s 8 rfl).trans sf8) rfl (nO rfl rfl Z)) (opsS_cons ?_ ?_))))))
 intro f w_ H45 X45 hS45 hE45 hP45 Z
 refine L_ix (r:=RP.int) rfl Tryz.underlying23 Tryz.sizeOf3 (hP45 4 26 rfl rfl) (RP.mono _ h1_1 (Le.trans (Le.trans l19 l33) hE45)) (hP45 5 27 rfl rfl) hix34 (fun g54 o55 cs_g54 hrk_hat56 hat56=>?_)
 obtain rfl : _ = [_]:=hrk_hat56
 exact L_nil ⟨rfl,_,_,rfl,Le.refl _,fun _ _=>⟨_,_,_,rfl,rfl,hat56⟩,Z⟩
 refine opsS_cons ?_ ?_
 intro f w_ H45 X45 hS45 hE45 hP45 Z
 obtain ⟨g58,o58,cs58,hv58,hrk_hat58,hat58⟩:=(hP45 6 28 rfl rfl)
 obtain rfl : _ = [_]:=hrk_hat58
 refine L_ld rfl Tryz.isAgg3 hv58 (At.cell (AtH.at hat58 Z.sub) (j:=0) rfl) (L_nil ⟨rfl,_,_,rfl,Le.refl _,fun _ _=>rfl,Z⟩)
 refine opsS_cons ?_ ?_
 intro f w_ H45 X45 hS45 hE45 hP45 Z
 refine L_ix (r:=RP.int) rfl Tryz.underlying23 Tryz.sizeOf3 (hP45 2 24 rfl rfl) (RP.mono _ h0_0 (Le.trans (Le.trans l19 l33) hE45)) (hP45 7 29 rfl rfl) hx40 (fun g60 o61 cs_g60 hrk_hat62 hat62=>?_)
 obtain rfl : _ = [_]:=hrk_hat62
 exact L_nil ⟨rfl,_,_,rfl,Le.refl _,fun _ _=>⟨_,_,_,rfl,rfl,hat62⟩,Z⟩
 refine opsS_cons ?_ ?_
 intro f w_ H45 X45 hS45 hE45 hP45 Z
 obtain ⟨g64,o64,cs64,hv64,hrk_hat64,hat64⟩:=(hP45 8 30 rfl rfl)
 obtain rfl : _ = [_]:=hrk_hat64
 refine L_ld rfl Tryz.isAgg3 hv64 (At.cell (AtH.at hat64 Z.sub) (j:=0) rfl) (L_nil ⟨rfl,_,_,rfl,Le.refl _,fun _ _=>rfl,Z⟩)
 exact opsS_nil
 refine L_leq rfl (hT45 0 22 rfl rfl) (hT45 9 31 rfl rfl) (nn ?_)
 obtain ⟨vars_66,hA70,hB34⟩:=bind_some hB34
 obtain ⟨R70,hR70⟩:=exR fun f w_=>∃ H68 : FH,∃ v66_vars : Value,Le H45 H68∧f 2 = Pt g5∧f 3 = Pt g7∧f 5 = v16_out∧f 6 = I i_15∧f 7 = v66_vars∧f 8 = I i_29∧Star H68 w_ ([oS 73 (oCon 122) v16_out out_16,oF 3 RP.int v66_vars vars_66,box g7 79 #[I r_.kind,v1_1,v1_2,I r_.bound,v1_4],box g5 26 #[v0_0,v0_1]])
 refine W_join R70 ?_ ?_
 refine W_cond (b:=decide ((i_15 : Int)≤x40)) rfl (fun hc71=>?_) (fun hc71=>?_)
 have hA70:=(ite_t hc71).symm.trans hA70
 obtain ⟨x81,hx81,hA70⟩:=bind_some hA70
 obtain ⟨x86,hx86,hA70⟩:=bind_some hA70
 refine W_drawS 10 [isV (v30_vars),isV (.agg #[v0_0,v0_1]),isV (Pq g7 1),isV (v1_1),isV (I i_29),isEl RP.int x_34 0,isV (I x_34),isV (I i_15),isV (I x81),anyF] [oS 73 (oCon 122) v16_out out_16,oF 3 RP.int v30_vars vars_30,box g7 79 #[I r_.kind,v1_1,v1_2,I r_.bound,v1_4],box g5 26 #[v0_0,v0_1]] [.made 9 42 (fun v_=>oF 3 RP.int v_ ([x81])) none] ([]) [([],[]),([],[]),([],[]),([],[]),([],[]),([],[]),([],[]),([],[]),([],[]),([],[0])] (S:=[(some 9,[42],none)]) Tryz_mix (by kernel_rfl) rfl (by kernel_rfl) (amF_cons (mono_V _) (amF_cons (mono_V _) (amF_cons (mono_V _) (amF_cons (mono_V _) (amF_cons (mono_V _) (amF_cons (mono_el _ _ _) (amF_cons (mono_V _) (amF_cons (mono_V _) (amF_cons (mono_V _) (amF_cons (mono_any) amF_nil)))))))))) Z ?_ (fun f w_ H90 hS90 hE90 hT90 Z=>?_)
 refine opsS_cons (fun f w_ _ _ s _ _ Z=>mF ((s 7 rfl).trans ((hS45 7 rfl).trans sf7)) rfl (nO rfl rfl Z)) (opsS_cons (fun f w_ _ _ s _ _ Z=>L_lda (cs:=[v0_0,v0_1]) rfl Tryz.isAgg26 Tryz.sizeOf26 ((s 2 rfl).trans ((hS45 2 rfl).trans sf2)) (At.sub0 (Blk.at (Star.blkAt 3 Z rfl)) 0 2) rfl (nO rfl rfl Z)) (opsS_cons (fun f w_ _ _ s _ _ Z=>fA 1 fa_79_1 ((s 3 rfl).trans ((hS45 3 rfl).trans sf3)) rfl (nO rfl rfl Z)) (opsS_cons (fun f w_ _ _ _ _ p Z=>ldB 2 Z Tryz.isAgg23 (p 2 35 rfl rfl) rfl rfl (nO rfl rfl Z)) (opsS_cons (fun f w_ _ _ s _ _ Z=>mF ((s 8 rfl).trans ((hS45 8 rfl).trans sf8)) rfl (nO rfl rfl Z)) (opsS_cons ?_ ?_)))))
 intro f w_ H90 X90 hS90 hE90 hP90 Z
 refine L_ix (r:=RP.int) rfl Tryz.underlying23 Tryz.sizeOf3 (hP90 3 36 rfl rfl) (RP.mono _ h1_1 (Le.trans (Le.trans (Le.trans l19 l33) hE45) hE90)) (hP90 4 37 rfl rfl) hix34 (fun g104 o105 cs_g104 hrk_hat106 hat106=>?_)
 obtain rfl : _ = [_]:=hrk_hat106
 exact L_nil ⟨rfl,_,_,rfl,Le.refl _,fun _ _=>⟨_,_,_,rfl,rfl,hat106⟩,Z⟩
 refine opsS_cons ?_ ?_
 intro f w_ H90 X90 hS90 hE90 hP90 Z
 obtain ⟨g108,o108,cs108,hv108,hrk_hat108,hat108⟩:=(hP90 5 38 rfl rfl)
 obtain rfl : _ = [_]:=hrk_hat108
 refine L_ld rfl Tryz.isAgg3 hv108 (At.cell (AtH.at hat108 Z.sub) (j:=0) rfl) (L_nil ⟨rfl,_,_,rfl,Le.refl _,fun _ _=>rfl,Z⟩)
 refine opsS_cons (fun f w_ _ _ s _ _ Z=>mF ((s 6 rfl).trans ((hS45 6 rfl).trans sf6)) rfl (nO rfl rfl Z)) (opsS_cons ?_ ?_)
 intro f w_ H90 X90 hS90 hE90 hP90 Z
 obtain ⟨H110b,l111,s112,z113,k114⟩:=Z.borrow
 refine L_call rfl Tryz.call70 (ops3 (hP90 1 34 rfl rfl) (hP90 6 39 rfl rfl) (hP90 7 40 rfl rfl)) (s_l7Var_c (m:=m) (cell:=x_34) (value:=(i_15 : Int)) s112 (RP.mono _ h0_0 (Le.trans (Le.trans (Le.trans (Le.trans l19 l33) hE45) hE90) l111)) (RP.mono _ h0_1 (Le.trans (Le.trans (Le.trans (Le.trans l19 l33) hE45) hE90) l111)) hx81) ?_
 rintro _ w115 ⟨rfl,Z⟩
 have Z:=k114 Z c0
 exact L_nil ⟨rfl,_,_,rfl,Le.refl _,fun _ _=>rfl,Z⟩
 refine opsS_cons ?_ ?_
 intro f w_ H90 X90 hS90 hE90 hP90 Z
 refine L_bs rfl (parts1 (hP90 8 41 rfl rfl)) (bs_23_1_0 (I x81) rfl) Z (fun g116 w117 Z=>?_)
 have Z:=Star.addF (r:=RP.int) (cs:=[I x81]) (x:=x81) Z rfl
 have Z:=Star.mkRow (R:=(OR.frz RP.int)) [([I x81],x81)] [x81] 1 Z rfl rfl rfl (by decide)
 have Z:=Z.gets [4,4,4,4] rfl
 exact L_nil ⟨rfl,_,_,rfl,Le.refl _,fun _ _=>trivial,Z⟩
 exact opsS_nil
 have Z : Star H90 w_ ([oS 73 (oCon 122) v16_out out_16,oF 3 RP.int v30_vars vars_30,box g7 79 #[I r_.kind,v1_1,v1_2,I r_.bound,v1_4],box g5 26 #[v0_0,v0_1],oF 3 RP.int (f 42) ([x81])]):=Z
 have Z:=Z.gets [4,2] rfl
 refine L_appM (v:=v30_vars) (u:=(f 42)) rfl et_23 (hT90 0 33 rfl rfl) rfl Z hx86 (fun v120 w121 Z=>aV v120 rfl (nn ?_))
 obtain rfl:=so hA70
 have Z:=Z.gets [3,3,2,3] rfl
 exact rj hR70 ⟨H90,v120,hE90,((hS90 2 rfl).trans ((hS45 2 rfl).trans sf2)),((hS90 3 rfl).trans ((hS45 3 rfl).trans sf3)),((hS90 5 rfl).trans ((hS45 5 rfl).trans sf5)),((hS90 6 rfl).trans ((hS45 6 rfl).trans sf6)),rfl,((hS90 8 rfl).trans ((hS45 8 rfl).trans sf8)),Z⟩
 have hA70:=(ite_f hc71).symm.trans hA70
 refine W_skip ?_
 obtain rfl:=so hA70
 exact rj hR70 ⟨H45,v30_vars,(Le.refl _),((hS45 2 rfl).trans sf2),((hS45 3 rfl).trans sf3),((hS45 5 rfl).trans sf5),((hS45 6 rfl).trans sf6),((hS45 7 rfl).trans sf7),((hS45 8 rfl).trans sf8),Z⟩
 intro f w_ hR
 obtain ⟨H68,v66_vars,l69,sf2,sf3,sf5,sf6,sf7,sf8,Z⟩:=rk hR70 hR
 refine W_region (mF sf8 rfl (L_add rfl rfl rfl (aI rfl (nn ?_))))
 obtain rfl:=so hB34
 show ∃ m,m < _∧I34 m _ _
 refine ⟨rest34.length,by simp,?_⟩
 exact ij hI34 ⟨i_29 + 1,rest34,vars_66,H68,v66_vars,rfl,drop_next hd34,by simp at hl34; omega,hL34,(Le.trans (Le.trans l33 hE45) l69),sf2,sf3,sf5,sf6,sf7,(Eq.trans rfl (congrArg (Value.int .i64) (i64_succ (n:=r_.vars.length) (by simp at hl34; omega) hlen34))),Z⟩
 rcases suf34 with _ | ⟨_,_⟩
 obtain rfl:=range_nil hL34
 refine W_exit (rj hR34 ⟨vars_30,H32,v30_vars,rfl,l33,sf2,sf3,sf5,sf6,sf7,Z⟩)
 exact absurd (of_decide_eq_false hc35) (by simp at hl34; omega)
 intro f w_ hR
 obtain ⟨vars_30,H32,v30_vars,rfl,l33,sf2,sf3,sf5,sf6,sf7,Z⟩:=rk hR34 hR
 refine sq (mF sf7 rfl (L_len rfl Tryz.underlying23 rfl (Star.len 1 Z rfl) (L_gtr rfl rfl rfl (nn ?_))))
 obtain ⟨out_123,hA125,hB20⟩:=bind_some hB20
 obtain ⟨R125,hR125⟩:=exR fun f w_=>∃ v123_out : Value,f 2 = Pt g5∧f 3 = Pt g7∧f 5 = v123_out∧f 6 = I i_15∧Star H32 w_ ([oS 73 (oCon 122) v123_out out_123,box g7 79 #[I r_.kind,v1_1,v1_2,I r_.bound,v1_4],box g5 26 #[v0_0,v0_1]])
 refine W_join R125 ?_ ?_
 refine W_cond (b:=decide ((vars_30.length : Int) > 1)) rfl (fun hc126=>?_) (fun hc126=>?_)
 have hA125:=(ite_t hc126).symm.trans hA125
 obtain ⟨x133,hx133,hA125⟩:=bind_some hA125
 obtain ⟨x142,hx142,hA125⟩:=bind_some hA125
 obtain ⟨x148,hx148,hA125⟩:=bind_some hA125
 refine W_region (mF sf5 rfl (mF sf7 rfl ?_))
 obtain ⟨H152b,l153,s154,z155,k156⟩:=Z.borrow
 have hb157 : (rS 3 RP.int).rel H152b [v30_vars] vars_30:=fz_own 1 z155 rfl
 refine L_call rfl Tryz.call154 (ops1 rfl) (s_l7Sorted_c (list:=vars_30) s154 hb157 hx133) ?_
 rintro r158_0 w158 ⟨_,rfl,Z⟩
 have Z:=k156 Z (co closed_int c0)
 obtain ⟨H160b,l161,s162,z163,k164⟩:=Z.borrow
 have hb165 : (rS 3 RP.int).rel H160b [r158_0] x133:=fz_own 0 z163 rfl
 refine L_call rfl Tryz.call108 (ops1 rfl) (s_l7Most_c (vars:=x133) s162 hb165 hx142) ?_
 rintro _ w166 ⟨r166_0,rfl,Z⟩
 have Z:=k164 Z (co closed_term c0)
 refine L_bs rfl (parts1 rfl) (bs_28_1_2 (r166_0) (I x142.bound) ) Z (fun g168 w169 Z=>?_)
 have Z:=Z.get 1 rfl
 have Z:=oCon_close (c:=x142) Z
 have Z:=Star.mkRow (R:=(oCon 122)) [([r166_0,I x142.bound],x142)] [x142] 1 Z rfl rfl rfl (by decide)
 have Z:=Z.get 2 rfl
 refine L_appM (v:=v16_out) (u:=(Sl g168 1 1)) rfl et_28 rfl rfl Z hx148 (fun v171 w172 Z=>aV v171 rfl (nn ?_))
 obtain rfl:=so hA125
 have Z:=Z.gets [4,4,2] rfl
 exact rj hR125 ⟨v171,sf2,sf3,rfl,sf6,(Star.keepN 3 Z)⟩
 have hA125:=(ite_f hc126).symm.trans hA125
 refine W_skip ?_
 obtain rfl:=so hA125
 have Z:=Z.gets [3,3,2] rfl
 exact rj hR125 ⟨v16_out,sf2,sf3,sf5,sf6,(Star.keepN 3 Z)⟩
 intro f w_ hR
 obtain ⟨v123_out,sf2,sf3,sf5,sf6,Z⟩:=rk hR125 hR
 refine W_region (mF sf6 rfl (L_add rfl rfl rfl (aI rfl (nn ?_))))
 obtain rfl:=so hB20
 show ∃ m,m < _∧I20 m _ _
 refine ⟨rest20,Nat.lt_succ_self _,?_⟩
 exact ij hI20 ⟨i_15 + 1,rest20,out_123,H32,v123_out,rfl,by omega,by omega,hL20,(Le.trans l19 l33),sf2,sf3,sf5,(Eq.trans rfl (congrArg (Value.int .i64) (i64_succ (n:=0 + k21) (by omega) (cntF_le hk21)))),Z⟩
 rcases suf20 with _ | _
 obtain rfl:=count_zero hL20
 refine W_exit (rj hR20 ⟨out_16,H18,v16_out,rfl,l19,sf5,(Star.keepN 1 Z)⟩)
 exact absurd (cntF_yesL hs20 hl20 hk21) (of_decide_eq_false hc22)
 intro f w_ hR
 obtain ⟨out_16,H18,v16_out,rfl,l19,sf5,Z⟩:=rk hR20 hR
 refine sq (mF sf5 rfl (aV v16_out rfl (nn (W_ret (retG1 (v1:=v16_out) Tryz.results110 rfl ?_)))))
 obtain rfl:=so hF
 exact ⟨v16_out,rfl,(Star.down Z l19 (co closed_oCon c0))⟩
theorem s_l6Ints_c {a : List Int} {b : List Int} {v0 : Value} {v1 : Value} {H : FH} {w : World} (Z : Star H w []) (h0 : (rS 3 RP.int).rel H [v0] a) (h1 : (rS 3 RP.int).rel H [v1] b) {r : Bool} (hF : s_l6Ints a b = some r) :
 C Tryz.prog 190 #[v0,v1] w fun v w'=>v = Bo r∧Star H w' []:=by
 unfold s_l6Ints at hF
 refine C_enter Tryz.func190 rfl Tryz.ntmps190 rfl (sq (aB rfl (nq (sq (mV v0 rfl (L_len rfl Tryz.underlying23 rfl (slice_len h0) (mV v1 rfl (L_len rfl Tryz.underlying23 rfl (slice_len h1) (L_neq rfl rfl rfl (nn (W_cond (b:=((a.length : Int) != (b.length : Int))) rfl (fun hc1=>?_) (fun hc1=>?_))))))))))))
 have hF:=(ite_t hc1).symm.trans hF
 refine sq (aB rfl (nn (W_ret (retG1 (v1:=Bo false) Tryz.results190 rfl ?_))))
 obtain rfl:=so hF
 exact ⟨rfl,Z⟩
 have hF:=(ite_f hc1).symm.trans hF
 refine W_skip (W_seq (sq (aI rfl (nn ?_))))
 have hlen5 : List.length a≤9223372036854775807:=len_le (slice_len h0)
 obtain ⟨j5,hL5,hF⟩:=bind_some hF
 obtain ⟨R5,hR5⟩:=exR fun f w_=>∃ H3 : FH,j5 = .nx ()∧Le H H3∧Star H3 w_ ([])
 refine W_join R5 ?_ ?_
 refine W_block ?_
 obtain ⟨I5,hI5⟩:=exI fun n f w_=>∃ i_2 : Nat,∃ suf5 : List Int,∃ H3 : FH,n = suf5.length∧List.drop i_2 a = suf5∧i_2 + suf5.length = a.length∧rangeL (s_l6Ints_b1 b) suf5 i_2 () = some j5∧Le H H3∧f 0 = v0∧f 1 = v1∧f 5 = I i_2∧Star H3 w_ ([])
 refine W_loop I5 (n:=a.length) ?_ ?_
 exact ij hI5 ⟨0,a,H,rfl,rfl,Nat.zero_add _,hL5,(Le.refl _),rfl,rfl,rfl,Z⟩
 intro n5 f w_ hI
 obtain ⟨i_2,suf5,H3,rfl,hd5,hl5,hL5,l4,sf0,sf1,sf5,Z⟩:=ik hI5 hI
 refine W_seq (sq (mF sf5 rfl (mF sf0 rfl (L_len rfl Tryz.underlying23 rfl (slice_len (RP.mono _ h0 l4)) (L_lss rfl rfl rfl (nn (W_cond (b:=decide ((i_2 : Int) < (a.length : Int))) rfl (fun hc6=>?_) (fun hc6=>?_))))))))
 have hlt5:=of_decide_eq_true hc6
 rcases suf5 with _ | ⟨x_5,rest5⟩
 exact absurd hlt5 (by simp at hl5; omega)
 obtain ⟨o5,hB5,hL5⟩:=range_cons hL5
 rw [s_l6Ints_b1] at hB5
 have hix5:=drop_idx hd5
 refine W_skip (W_seq (W_block (W_seq ?_)))
 obtain ⟨x11,hx11,hB5⟩:=bind_some hB5
 refine W_drawS 8 [isV (v0),isV (I i_2),isEl RP.int x_5 0,isV (I x_5),isV (v1),isV (I i_2),isEl RP.int x11 0,isV (I x11)] [] [] ([]) [([],[]),([],[]),([],[]),([],[]),([],[]),([],[]),([],[]),([],[])] (S:=[]) Tryz_mix (by kernel_rfl) rfl (by kernel_rfl) (amF_cons (mono_V _) (amF_cons (mono_V _) (amF_cons (mono_el _ _ _) (amF_cons (mono_V _) (amF_cons (mono_V _) (amF_cons (mono_V _) (amF_cons (mono_el _ _ _) (amF_cons (mono_V _) amF_nil)))))))) Z ?_ (fun f w_ H16 hS16 hE16 hT16 Z=>?_)
 refine opsS_cons (fun f w_ _ _ s _ _ Z=>mF ((s 0 rfl).trans sf0) rfl (nO rfl rfl Z)) (opsS_cons (fun f w_ _ _ s _ _ Z=>mF ((s 5 rfl).trans sf5) rfl (nO rfl rfl Z)) (opsS_cons ?_ ?_))
 intro f w_ H16 X16 hS16 hE16 hP16 Z
 refine L_ix (r:=RP.int) rfl Tryz.underlying23 Tryz.sizeOf3 (hP16 0 17 rfl rfl) (RP.mono _ h0 (Le.trans l4 hE16)) (hP16 1 18 rfl rfl) hix5 (fun g25 o26 cs_g25 hrk_hat27 hat27=>?_)
 obtain rfl : _ = [_]:=hrk_hat27
 exact L_nil ⟨rfl,_,_,rfl,Le.refl _,fun _ _=>⟨_,_,_,rfl,rfl,hat27⟩,Z⟩
 refine opsS_cons ?_ ?_
 intro f w_ H16 X16 hS16 hE16 hP16 Z
 obtain ⟨g29,o29,cs29,hv29,hrk_hat29,hat29⟩:=(hP16 2 19 rfl rfl)
 obtain rfl : _ = [_]:=hrk_hat29
 refine L_ld rfl Tryz.isAgg3 hv29 (At.cell (AtH.at hat29 Z.sub) (j:=0) rfl) (L_nil ⟨rfl,_,_,rfl,Le.refl _,fun _ _=>rfl,Z⟩)
 refine opsS_cons (fun f w_ _ _ s _ _ Z=>mF ((s 1 rfl).trans sf1) rfl (nO rfl rfl Z)) (opsS_cons (fun f w_ _ _ s _ _ Z=>mF ((s 5 rfl).trans sf5) rfl (nO rfl rfl Z)) (opsS_cons ?_ ?_))
 intro f w_ H16 X16 hS16 hE16 hP16 Z
 refine L_ix (r:=RP.int) rfl Tryz.underlying23 Tryz.sizeOf3 (hP16 4 21 rfl rfl) (RP.mono _ h1 (Le.trans l4 hE16)) (hP16 5 22 rfl rfl) hx11 (fun g31 o32 cs_g31 hrk_hat33 hat33=>?_)
 obtain rfl : _ = [_]:=hrk_hat33
 exact L_nil ⟨rfl,_,_,rfl,Le.refl _,fun _ _=>⟨_,_,_,rfl,rfl,hat33⟩,Z⟩
 refine opsS_cons ?_ ?_
 intro f w_ H16 X16 hS16 hE16 hP16 Z
 obtain ⟨g35,o35,cs35,hv35,hrk_hat35,hat35⟩:=(hP16 6 23 rfl rfl)
 obtain rfl : _ = [_]:=hrk_hat35
 refine L_ld rfl Tryz.isAgg3 hv35 (At.cell (AtH.at hat35 Z.sub) (j:=0) rfl) (L_nil ⟨rfl,_,_,rfl,Le.refl _,fun _ _=>rfl,Z⟩)
 exact opsS_nil
 refine L_neq rfl (hT16 3 20 rfl rfl) (hT16 7 24 rfl rfl) (nn (W_cond (b:=(x_5 != x11)) rfl (fun hc37=>?_) (fun hc37=>?_)))
 have hB5:=(ite_t hc37).symm.trans hB5
 refine sq (aB rfl (nn (W_ret (retG1 (v1:=Bo false) Tryz.results190 rfl ?_))))
 obtain rfl:=so hB5
 obtain rfl:=so hL5
 obtain rfl:=so hF
 exact ⟨rfl,(Star.down Z (Le.trans l4 hE16) c0)⟩
 have hB5:=(ite_f hc37).symm.trans hB5
 refine W_skip (W_region (mF ((hS16 5 rfl).trans sf5) rfl (L_add rfl rfl rfl (aI rfl (nn ?_)))))
 obtain rfl:=so hB5
 show ∃ m,m < _∧I5 m _ _
 refine ⟨rest5.length,by simp,?_⟩
 exact ij hI5 ⟨i_2 + 1,rest5,H16,rfl,drop_next hd5,by simp at hl5; omega,hL5,(Le.trans l4 hE16),((hS16 0 rfl).trans sf0),((hS16 1 rfl).trans sf1),(Eq.trans rfl (congrArg (Value.int .i64) (i64_succ (n:=a.length) (by simp at hl5; omega) hlen5))),Z⟩
 rcases suf5 with _ | ⟨_,_⟩
 obtain rfl:=range_nil hL5
 refine W_exit (rj hR5 ⟨H3,rfl,l4,Z⟩)
 exact absurd (of_decide_eq_false hc6) (by simp at hl5; omega)
 intro f w_ hR
 obtain ⟨H3,rfl,l4,Z⟩:=rk hR5 hR
 refine sq (aB rfl (nn (W_ret (retG1 (v1:=Bo true) Tryz.results190 rfl ?_))))
 obtain rfl:=so hF
 exact ⟨rfl,(Star.down Z l4 c0)⟩
theorem s_l6Holds_c {r_ : Rule} {cells : List Int} {v0_1 : Value} {v0_2 : Value} {v0_4 : Value} {v1 : Value} {H : FH} {w : World} (Z : Star H w []) (h0_1 : (rS 3 RP.int).rel H [v0_1] r_.vars) (h0_2 : (rS 3 RP.int).rel H [v0_2] r_.coefs) (h0_4 : (rS 23 (rS 3 RP.int)).rel H [v0_4] r_.rows) (h1 : (rS 3 RP.int).rel H [v1] cells) {r : Bool} (hF : s_l6Holds r_ cells = some r) :
 C Tryz.prog 155 #[.agg #[I r_.kind,v0_1,v0_2,I r_.bound,v0_4],v1] w fun v w'=>v = Bo r∧Star H w' []:=by
 unfold s_l6Holds at hF
 refine C_enter Tryz.func155 rfl Tryz.ntmps155 rfl (sq (L_box (v:=.agg #[I r_.kind,v0_1,v0_2,I r_.bound,v0_4]) (cs:=#[I r_.kind,v0_1,v0_2,I r_.bound,v0_4]) rfl rfl rfl Z (fun g3 w4 Z=>aB rfl (ns (L_bs rfl parts0 (bs_23_0  ) Z (fun g8 w9 Z=>?_))))))
 have Z:=Star.mkRow (R:=(OR.frz RP.int)) [] [] 0 Z rfl rfl rfl (by decide)
 refine aV (Sl g8 0 0) rfl (nq (sq (aI rfl (nn ?_))))
 have hlen14 : List.length r_.vars≤9223372036854775807:=len_le (slice_len h0_1)
 obtain ⟨j14,hL14,hF⟩:=bind_some hF
 obtain ⟨R14,hR14⟩:=exR fun f w_=>∃ list_12 : List Int,∃ v12_list : Value,j14 = .nx list_12∧f 2 = Pt g3∧f 5 = v12_list∧Star H w_ ([oF 3 RP.int v12_list list_12,box g3 79 #[I r_.kind,v0_1,v0_2,I r_.bound,v0_4]])
 refine W_join R14 ?_ ?_
 refine W_block ?_
 obtain ⟨I14,hI14⟩:=exI fun n f w_=>∃ i_11 : Nat,∃ suf14 : List Int,∃ list_12 : List Int,∃ v12_list : Value,n = suf14.length∧List.drop i_11 r_.vars = suf14∧i_11 + suf14.length = r_.vars.length∧rangeL (s_l6Holds_b1 cells) suf14 i_11 list_12 = some j14∧f 1 = v1∧f 2 = Pt g3∧f 5 = v12_list∧f 6 = I i_11∧Star H w_ ([oF 3 RP.int v12_list list_12,box g3 79 #[I r_.kind,v0_1,v0_2,I r_.bound,v0_4]])
 refine W_loop I14 (n:=r_.vars.length) ?_ ?_
 exact ij hI14 ⟨0,r_.vars,[],(Sl g8 0 0),rfl,rfl,Nat.zero_add _,hL14,rfl,rfl,rfl,rfl,Z⟩
 intro n14 f w_ hI
 obtain ⟨i_11,suf14,list_12,v12_list,rfl,hd14,hl14,hL14,sf1,sf2,sf5,sf6,Z⟩:=ik hI14 hI
 refine W_seq (sq (mF sf6 rfl (fA 1 fa_79_1 sf2 rfl (ldB 1 Z Tryz.isAgg23 rfl rfl rfl (L_len rfl Tryz.underlying23 rfl (slice_len h0_1) (L_lss rfl rfl rfl (nn (W_cond (b:=decide ((i_11 : Int) < (r_.vars.length : Int))) rfl (fun hc15=>?_) (fun hc15=>?_)))))))))
 have hlt14:=of_decide_eq_true hc15
 rcases suf14 with _ | ⟨x_14,rest14⟩
 exact absurd hlt14 (by simp at hl14; omega)
 obtain ⟨o14,hB14,hL14⟩:=range_cons hL14
 rw [s_l6Holds_b1] at hB14
 have hix14:=drop_idx hd14
 refine W_skip (W_seq (W_block ?_))
 obtain ⟨x20,hx20,hB14⟩:=bind_some hB14
 obtain ⟨x28,hx28,hB14⟩:=bind_some hB14
 refine W_region (mF sf5 rfl (mF sf1 rfl (fA 1 fa_79_1 sf2 rfl (ldB 1 Z Tryz.isAgg23 rfl rfl rfl (mF sf6 rfl (L_ix (r:=RP.int) rfl Tryz.underlying23 Tryz.sizeOf3 rfl h0_1 rfl hix14 (fun g32 o33 cs_g32 hrk_hat34 hat34=>?_)))))))
 obtain rfl : _ = [_]:=hrk_hat34
 refine L_ld rfl Tryz.isAgg3 rfl (At.cell (AtH.at hat34 Z.sub) (j:=0) rfl) (L_ix (r:=RP.int) rfl Tryz.underlying23 Tryz.sizeOf3 rfl h1 rfl hx20 (fun g36 o37 cs_g36 hrk_hat38 hat38=>?_))
 obtain rfl : _ = [_]:=hrk_hat38
 refine L_ld rfl Tryz.isAgg3 rfl (At.cell (AtH.at hat38 Z.sub) (j:=0) rfl) (L_bs rfl (parts1 rfl) (bs_23_1_0 (I x20) rfl) Z (fun g40 w41 Z=>?_))
 have Z:=Star.addF (r:=RP.int) (cs:=[I x20]) (x:=x20) Z rfl
 have Z:=Star.mkRow (R:=(OR.frz RP.int)) [([I x20],x20)] [x20] 1 Z rfl rfl rfl (by decide)
 have Z:=Z.get 1 rfl
 refine L_appM (v:=v12_list) (u:=(Sl g40 1 1)) rfl et_23 rfl rfl Z hx28 (fun v43 w44 Z=>aV v43 rfl (nn (W_region (mF sf6 rfl (L_add rfl rfl rfl (aI rfl (nn ?_)))))))
 obtain rfl:=so hB14
 show ∃ m,m < _∧I14 m _ _
 refine ⟨rest14.length,by simp,?_⟩
 exact ij hI14 ⟨i_11 + 1,rest14,x28,v43,rfl,drop_next hd14,by simp at hl14; omega,hL14,sf1,sf2,rfl,(Eq.trans rfl (congrArg (Value.int .i64) (i64_succ (n:=r_.vars.length) (by simp at hl14; omega) hlen14))),Z⟩
 rcases suf14 with _ | ⟨_,_⟩
 obtain rfl:=range_nil hL14
 refine W_exit (rj hR14 ⟨list_12,v12_list,rfl,sf2,sf5,Z⟩)
 exact absurd (of_decide_eq_false hc15) (by simp at hl14; omega)
 intro f w_ hR
 obtain ⟨list_12,v12_list,rfl,sf2,sf5,Z⟩:=rk hR14 hR
 refine W_seq (sq (fA 0 fa_79_0 sf2 rfl (ldB 1 Z Tryz.isAgg3 rfl rfl rfl (nn (W_block (sq (L_eql rfl rfl rfl (aB rfl (nn (W_cond (b:=(r_.kind == 1)) rfl (fun hc46=>?_) (fun hc46=>?_)))))))))))
 have hF:=(ite_t hc46).symm.trans hF
 refine sq (aI rfl (nq (sq (aI rfl (nn ?_)))))
 have hlen51 : List.length list_12≤9223372036854775807:=len_le (Star.len 0 Z rfl)
 obtain ⟨j51,hL51,hF⟩:=bind_some hF
 obtain ⟨R51,hR51⟩:=exR fun f w_=>∃ n_48 : Int,∃ H49 : FH,j51 = .nx n_48∧Le H H49∧f 2 = Pt g3∧f 7 = I n_48∧Star H49 w_ ([box g3 79 #[I r_.kind,v0_1,v0_2,I r_.bound,v0_4]])
 refine W_join R51 ?_ ?_
 refine W_block ?_
 obtain ⟨I51,hI51⟩:=exI fun n f w_=>∃ i_47 : Nat,∃ suf51 : List Int,∃ n_48 : Int,∃ H49 : FH,n = suf51.length∧List.drop i_47 list_12 = suf51∧i_47 + suf51.length = list_12.length∧rangeL (s_l6Holds_b2 r_) suf51 i_47 n_48 = some j51∧Le H H49∧f 2 = Pt g3∧f 5 = v12_list∧f 7 = I n_48∧f 8 = I i_47∧Star H49 w_ ([oF 3 RP.int v12_list list_12,box g3 79 #[I r_.kind,v0_1,v0_2,I r_.bound,v0_4]])
 refine W_loop I51 (n:=list_12.length) ?_ ?_
 exact ij hI51 ⟨0,list_12,0,H,rfl,rfl,Nat.zero_add _,hL51,(Le.refl _),sf2,sf5,rfl,rfl,Z⟩
 intro n51 f w_ hI
 obtain ⟨i_47,suf51,n_48,H49,rfl,hd51,hl51,hL51,l50,sf2,sf5,sf7,sf8,Z⟩:=ik hI51 hI
 refine W_seq (sq (mF sf8 rfl (mF sf5 rfl (L_len rfl Tryz.underlying23 rfl (Star.len 0 Z rfl) (L_lss rfl rfl rfl (nn (W_cond (b:=decide ((i_47 : Int) < (list_12.length : Int))) rfl (fun hc52=>?_) (fun hc52=>?_))))))))
 have hlt51:=of_decide_eq_true hc52
 rcases suf51 with _ | ⟨x_51,rest51⟩
 exact absurd hlt51 (by simp at hl51; omega)
 obtain ⟨o51,hB51,hL51⟩:=range_cons hL51
 rw [s_l6Holds_b2] at hB51
 have hix51:=drop_idx hd51
 refine W_skip (W_seq (W_block ?_))
 obtain ⟨x53,hx53,hB51⟩:=bind_some hB51
 obtain ⟨g67,cap_g67,hv68,_,_⟩:=Star.row 0 Z rfl hix51
 refine W_drawS 11 [isV (I n_48),isV (Pq g3 2),isV (v0_2),isV (I i_47),isEl RP.int x53 0,isV (I x53),isV (v12_list),isV (I i_47),isV (.pointer (some ⟨g67,Int.toNat (i_47 : Int) * 1,none⟩)),isV (I x_51),isV (I (i64 (x53 * x_51)))] [oF 3 RP.int v12_list list_12,box g3 79 #[I r_.kind,v0_1,v0_2,I r_.bound,v0_4]] [] ([]) [([],[]),([],[]),([],[]),([],[]),([],[]),([],[]),([],[]),([],[]),([],[]),([],[]),([],[])] (S:=[]) Tryz_mix (by kernel_rfl) rfl (by kernel_rfl) (amF_cons (mono_V _) (amF_cons (mono_V _) (amF_cons (mono_V _) (amF_cons (mono_V _) (amF_cons (mono_el _ _ _) (amF_cons (mono_V _) (amF_cons (mono_V _) (amF_cons (mono_V _) (amF_cons (mono_V _) (amF_cons (mono_V _) (amF_cons (mono_V _) amF_nil))))))))))) Z ?_ (fun f w_ H62 hS62 hE62 hT62 Z=>?_)
 refine opsS_cons (fun f w_ _ _ s _ _ Z=>mF ((s 7 rfl).trans sf7) rfl (nO rfl rfl Z)) (opsS_cons (fun f w_ _ _ s _ _ Z=>fA 2 fa_79_2 ((s 2 rfl).trans sf2) rfl (nO rfl rfl Z)) (opsS_cons (fun f w_ _ _ _ _ p Z=>ldB 1 Z Tryz.isAgg23 (p 1 42 rfl rfl) rfl rfl (nO rfl rfl Z)) (opsS_cons (fun f w_ _ _ s _ _ Z=>mF ((s 8 rfl).trans sf8) rfl (nO rfl rfl Z)) (opsS_cons ?_ ?_))))
 intro f w_ H62 X62 hS62 hE62 hP62 Z
 refine L_ix (r:=RP.int) rfl Tryz.underlying23 Tryz.sizeOf3 (hP62 2 43 rfl rfl) (RP.mono _ h0_2 (Le.trans l50 hE62)) (hP62 3 44 rfl rfl) hx53 (fun g71 o72 cs_g71 hrk_hat73 hat73=>?_)
 obtain rfl : _ = [_]:=hrk_hat73
 exact L_nil ⟨rfl,_,_,rfl,Le.refl _,fun _ _=>⟨_,_,_,rfl,rfl,hat73⟩,Z⟩
 refine opsS_cons ?_ ?_
 intro f w_ H62 X62 hS62 hE62 hP62 Z
 obtain ⟨g75,o75,cs75,hv75,hrk_hat75,hat75⟩:=(hP62 4 45 rfl rfl)
 obtain rfl : _ = [_]:=hrk_hat75
 refine L_ld rfl Tryz.isAgg3 hv75 (At.cell (AtH.at hat75 Z.sub) (j:=0) rfl) (L_nil ⟨rfl,_,_,rfl,Le.refl _,fun _ _=>rfl,Z⟩)
 refine opsS_cons (fun f w_ _ _ s _ _ Z=>mF ((s 5 rfl).trans sf5) rfl (nO rfl rfl Z)) (opsS_cons (fun f w_ _ _ s _ _ Z=>mF ((s 8 rfl).trans sf8) rfl (nO rfl rfl Z)) (opsS_cons (fun f w_ _ _ _ _ p Z=>L_ixO (R:=(OR.frz RP.int)) (tb:=0) 0 rfl Tryz.underlying23 Tryz.sizeOf3 (p 6 47 rfl rfl) hv68 (by first | rfl | simp) (p 7 48 rfl rfl) hix51 (nO rfl rfl Z)) (opsS_cons ?_ ?_)))
 intro f w_ H62 X62 hS62 hE62 hP62 Z
 obtain ⟨cs77,hr77,hat77⟩:=Star.eltF 0 Z rfl hv68 hix51
 obtain rfl : _ = [_]:=hr77
 refine L_ld rfl Tryz.isAgg3 (hP62 8 49 rfl rfl) (At.cell hat77 (j:=0) rfl) (L_nil ⟨rfl,_,_,rfl,Le.refl _,fun _ _=>rfl,Z⟩)
 refine opsS_cons (fun f w_ _ _ _ _ p Z=>L_mul rfl (p 5 46 rfl rfl) (p 9 50 rfl rfl) (nO rfl rfl Z)) (opsS_nil)
 refine L_add rfl (hT62 0 41 rfl rfl) (hT62 10 51 rfl rfl) (aI rfl (nn (W_region (mF ((hS62 8 rfl).trans sf8) rfl (L_add rfl rfl rfl (aI rfl (nn ?_)))))))
 obtain rfl:=so hB51
 show ∃ m,m < _∧I51 m _ _
 refine ⟨rest51.length,by simp,?_⟩
 exact ij hI51 ⟨i_47 + 1,rest51,i64 (n_48 + (i64 (x53 * x_51))),H62,rfl,drop_next hd51,by simp at hl51; omega,hL51,(Le.trans l50 hE62),((hS62 2 rfl).trans sf2),((hS62 5 rfl).trans sf5),rfl,(Eq.trans rfl (congrArg (Value.int .i64) (i64_succ (n:=list_12.length) (by simp at hl51; omega) hlen51))),Z⟩
 rcases suf51 with _ | ⟨_,_⟩
 obtain rfl:=range_nil hL51
 refine W_exit ?_
 have Z:=Z.get 1 rfl
 exact rj hR51 ⟨n_48,H49,rfl,l50,sf2,sf7,(Star.keepN 1 Z)⟩
 exact absurd (of_decide_eq_false hc52) (by simp at hl51; omega)
 intro f w_ hR
 obtain ⟨n_48,H49,rfl,l50,sf2,sf7,Z⟩:=rk hR51 hR
 refine sq (mF sf7 rfl (fA 3 fa_79_3 sf2 rfl (ldB 0 Z Tryz.isAgg3 rfl rfl rfl (L_geq rfl rfl rfl (aB rfl (nn (W_ret (retG1 (v1:=Bo (decide (n_48 ≥ r_.bound))) Tryz.results155 rfl ?_))))))))
 obtain rfl:=so hF
 exact ⟨rfl,(Star.down (Star.keepN 0 Z) l50 c0)⟩
 have hF:=(ite_f hc46).symm.trans hF
 refine sq (L_eql rfl rfl rfl (aB rfl (nn (W_cond (b:=(r_.kind == 2)) rfl (fun hc79=>?_) (fun hc79=>?_)))))
 have hF:=(ite_t hc79).symm.trans hF
 refine W_seq (sq (aI rfl (nn ?_)))
 have hlen83 : List.length list_12≤9223372036854775807:=len_le (Star.len 0 Z rfl)
 obtain ⟨j83,hL83,hF⟩:=bind_some hF
 obtain ⟨R83,hR83⟩:=exR fun f w_=>∃ H81 : FH,j83 = .nx ()∧Le H H81∧Star H81 w_ ([])
 refine W_join R83 ?_ ?_
 refine W_block ?_
 obtain ⟨I83,hI83⟩:=exI fun n f w_=>∃ i_80 : Nat,∃ suf83 : List Int,∃ H81 : FH,n = suf83.length∧List.drop i_80 list_12 = suf83∧i_80 + suf83.length = list_12.length∧rangeL (s_l6Holds_b3 list_12) suf83 i_80 () = some j83∧Le H H81∧f 5 = v12_list∧f 9 = I i_80∧Star H81 w_ ([oF 3 RP.int v12_list list_12])
 refine W_loop I83 (n:=list_12.length) ?_ ?_
 exact ij hI83 ⟨0,list_12,H,rfl,rfl,Nat.zero_add _,hL83,(Le.refl _),sf5,rfl,(Star.keepN 1 Z)⟩
 intro n83 f w_ hI
 obtain ⟨i_80,suf83,H81,rfl,hd83,hl83,hL83,l82,sf5,sf9,Z⟩:=ik hI83 hI
 refine W_seq (sq (mF sf9 rfl (mF sf5 rfl (L_len rfl Tryz.underlying23 rfl (Star.len 0 Z rfl) (L_lss rfl rfl rfl (nn (W_cond (b:=decide ((i_80 : Int) < (list_12.length : Int))) rfl (fun hc84=>?_) (fun hc84=>?_))))))))
 have hlt83:=of_decide_eq_true hc84
 rcases suf83 with _ | ⟨x_83,rest83⟩
 exact absurd hlt83 (by simp at hl83; omega)
 obtain ⟨o83,hB83,hL83⟩:=range_cons hL83
 rw [s_l6Holds_b3] at hB83
 have hix83:=drop_idx hd83
 refine W_skip (W_seq (W_block (sq (aI rfl (nn ?_)))))
 obtain ⟨k89,hk89,hB83⟩:=bind_some hB83
 obtain ⟨j88,hL88,hB83⟩:=bind_some hB83
 obtain ⟨R88,hR88⟩:=exR fun f w_=>∃ H86 : FH,j88 = .nx ()∧Le H81 H86∧f 5 = v12_list∧f 9 = I i_80∧Star H86 w_ ([oF 3 RP.int v12_list list_12])
 refine W_join R88 ?_ ?_
 refine W_block ?_
 obtain ⟨I88,hI88⟩:=exI fun n f w_=>∃ i_85 : Nat,∃ suf88 : Nat,∃ H86 : FH,suf88 = n∧0≤i_85∧i_85 + suf88 = 0 + k89∧countL (s_l6Holds_b4 list_12 x_83) suf88 i_85 () = some j88∧Le H81 H86∧f 5 = v12_list∧f 9 = I i_80∧f 10 = I i_85∧Star H86 w_ ([oF 3 RP.int v12_list list_12])
 refine W_loop I88 (n:=k89) ?_ ?_
 exact ij hI88 ⟨0,k89,H81,rfl,Nat.le_refl _,rfl,hL88,(Le.refl _),sf5,sf9,rfl,Z⟩
 intro n88 f w_ hI
 obtain ⟨i_85,suf88,H86,rfl,hs88,hl88,hL88,l87,sf5,sf9,sf10,Z⟩:=ik hI88 hI
 refine W_seq (sq (mF sf10 rfl (mF sf9 rfl (L_lss rfl rfl rfl (nn (W_cond (b:=decide ((i_85 : Int) < (i_80 : Int))) rfl (fun hc90=>?_) (fun hc90=>?_)))))))
 have hlt88:=of_decide_eq_true hc90
 rcases suf88 with _ | rest88
 exact absurd hlt88 (cntF_no hl88 hk89)
 obtain ⟨o88,hB88,hL88⟩:=count_succ hL88
 rw [s_l6Holds_b4] at hB88
 refine W_skip (W_seq (W_block (W_seq ?_)))
 obtain ⟨x91,hx91,hB88⟩:=bind_some hB88
 obtain ⟨g99,cap_g99,hv100,_,_⟩:=Star.row 0 Z rfl hx91
 refine W_drawS 8 [isV (v12_list),isV (I i_85),isV (.pointer (some ⟨g99,Int.toNat (i_85 : Int) * 1,none⟩)),isV (I x91),isV (v12_list),isV (I i_80),isV (.pointer (some ⟨g99,Int.toNat (i_80 : Int) * 1,none⟩)),isV (I x_83)] [oF 3 RP.int v12_list list_12] [] ([]) [([],[]),([],[]),([],[]),([],[]),([],[]),([],[]),([],[]),([],[])] (S:=[]) Tryz_mix (by kernel_rfl) rfl (by kernel_rfl) (amF_cons (mono_V _) (amF_cons (mono_V _) (amF_cons (mono_V _) (amF_cons (mono_V _) (amF_cons (mono_V _) (amF_cons (mono_V _) (amF_cons (mono_V _) (amF_cons (mono_V _) amF_nil)))))))) Z ?_ (fun f w_ H98 hS98 hE98 hT98 Z=>?_)
 refine opsS_cons (fun f w_ _ _ s _ _ Z=>mF ((s 5 rfl).trans sf5) rfl (nO rfl rfl Z)) (opsS_cons (fun f w_ _ _ s _ _ Z=>mF ((s 10 rfl).trans sf10) rfl (nO rfl rfl Z)) (opsS_cons (fun f w_ _ _ _ _ p Z=>L_ixO (R:=(OR.frz RP.int)) (tb:=0) 0 rfl Tryz.underlying23 Tryz.sizeOf3 (p 0 70 rfl rfl) hv100 (by first | rfl | simp) (p 1 71 rfl rfl) hx91 (nO rfl rfl Z)) (opsS_cons ?_ ?_)))
 intro f w_ H98 X98 hS98 hE98 hP98 Z
 obtain ⟨cs105,hr105,hat105⟩:=Star.eltF 0 Z rfl hv100 hx91
 obtain rfl : _ = [_]:=hr105
 refine L_ld rfl Tryz.isAgg3 (hP98 2 72 rfl rfl) (At.cell hat105 (j:=0) rfl) (L_nil ⟨rfl,_,_,rfl,Le.refl _,fun _ _=>rfl,Z⟩)
 refine opsS_cons (fun f w_ _ _ s _ _ Z=>mF ((s 5 rfl).trans sf5) rfl (nO rfl rfl Z)) (opsS_cons (fun f w_ _ _ s _ _ Z=>mF ((s 9 rfl).trans sf9) rfl (nO rfl rfl Z)) (opsS_cons (fun f w_ _ _ _ _ p Z=>L_ixO (R:=(OR.frz RP.int)) (tb:=0) 0 rfl Tryz.underlying23 Tryz.sizeOf3 (p 4 74 rfl rfl) hv100 (by first | rfl | simp) (p 5 75 rfl rfl) hix83 (nO rfl rfl Z)) (opsS_cons ?_ ?_)))
 intro f w_ H98 X98 hS98 hE98 hP98 Z
 obtain ⟨cs107,hr107,hat107⟩:=Star.eltF 0 Z rfl hv100 hix83
 obtain rfl : _ = [_]:=hr107
 refine L_ld rfl Tryz.isAgg3 (hP98 6 76 rfl rfl) (At.cell hat107 (j:=0) rfl) (L_nil ⟨rfl,_,_,rfl,Le.refl _,fun _ _=>rfl,Z⟩)
 exact opsS_nil
 refine L_eql rfl (hT98 3 73 rfl rfl) (hT98 7 77 rfl rfl) (nn (W_cond (b:=(x91 == x_83)) rfl (fun hc109=>?_) (fun hc109=>?_)))
 have hB88:=(ite_t hc109).symm.trans hB88
 refine sq (aB rfl (nn (W_ret (retG1 (v1:=Bo false) Tryz.results155 rfl ?_))))
 obtain rfl:=so hB88
 obtain rfl:=so hL88
 obtain rfl:=so hB83
 obtain rfl:=so hL83
 obtain rfl:=so hF
 exact ⟨rfl,(Star.down (Star.keepN 0 Z) (Le.trans (Le.trans l82 l87) hE98) c0)⟩
 have hB88:=(ite_f hc109).symm.trans hB88
 refine W_skip (W_region (mF ((hS98 10 rfl).trans sf10) rfl (L_add rfl rfl rfl (aI rfl (nn ?_)))))
 obtain rfl:=so hB88
 show ∃ m,m < _∧I88 m _ _
 refine ⟨rest88,Nat.lt_succ_self _,?_⟩
 exact ij hI88 ⟨i_85 + 1,rest88,H98,rfl,by omega,by omega,hL88,(Le.trans l87 hE98),((hS98 5 rfl).trans sf5),((hS98 9 rfl).trans sf9),(Eq.trans rfl (congrArg (Value.int .i64) (i64_succ (n:=0 + k89) (by omega) (cntF_le hk89)))),Z⟩
 rcases suf88 with _ | _
 obtain rfl:=count_zero hL88
 refine W_exit (rj hR88 ⟨H86,rfl,l87,sf5,sf9,Z⟩)
 exact absurd (cntF_yes hs88 hl88 hk89) (of_decide_eq_false hc90)
 intro f w_ hR
 obtain ⟨H86,rfl,l87,sf5,sf9,Z⟩:=rk hR88 hR
 refine W_region (mF sf9 rfl (L_add rfl rfl rfl (aI rfl (nn ?_))))
 obtain rfl:=so hB83
 show ∃ m,m < _∧I83 m _ _
 refine ⟨rest83.length,by simp,?_⟩
 exact ij hI83 ⟨i_80 + 1,rest83,H86,rfl,drop_next hd83,by simp at hl83; omega,hL83,(Le.trans l82 l87),sf5,(Eq.trans rfl (congrArg (Value.int .i64) (i64_succ (n:=list_12.length) (by simp at hl83; omega) hlen83))),Z⟩
 rcases suf83 with _ | ⟨_,_⟩
 obtain rfl:=range_nil hL83
 refine W_exit (rj hR83 ⟨H81,rfl,l82,(Star.keepN 0 Z)⟩)
 exact absurd (of_decide_eq_false hc84) (by simp at hl83; omega)
 intro f w_ hR
 obtain ⟨H81,rfl,l82,Z⟩:=rk hR83 hR
 refine sq (aB rfl (nn (W_ret (retG1 (v1:=Bo true) Tryz.results155 rfl ?_))))
 obtain rfl:=so hF
 exact ⟨rfl,(Star.down Z l82 c0)⟩
 have hF:=(ite_f hc79).symm.trans hF
 refine sq (L_eql rfl rfl rfl (aB rfl (nn (W_cond (b:=(r_.kind == 4)) rfl (fun hc110=>?_) (fun hc110=>?_)))))
 have hF:=(ite_t hc110).symm.trans hF
 refine W_seq ?_
 obtain ⟨x111,hx111,hF⟩:=bind_some hF
 obtain ⟨x116,hx116,hF⟩:=bind_some hF
 have Z:=Star.drop 1 Z rfl
 obtain ⟨g120,cap_g120,hv121,_,_⟩:=Star.row 0 Z rfl hx111
 refine W_drawS 6 [isV (v12_list),isV (.pointer (some ⟨g120,Int.toNat 0 * 1,none⟩)),isV (I x111),isV (v12_list),isV (.pointer (some ⟨g120,Int.toNat 1 * 1,none⟩)),isV (I x116)] [oF 3 RP.int v12_list list_12] [] ([]) [([],[]),([],[]),([],[]),([],[]),([],[]),([],[])] (S:=[]) Tryz_mix (by kernel_rfl) rfl (by kernel_rfl) (amF_cons (mono_V _) (amF_cons (mono_V _) (amF_cons (mono_V _) (amF_cons (mono_V _) (amF_cons (mono_V _) (amF_cons (mono_V _) amF_nil)))))) Z ?_ (fun f w_ H119 hS119 hE119 hT119 Z=>?_)
 refine opsS_cons (fun f w_ _ _ s _ _ Z=>mF ((s 5 rfl).trans sf5) rfl (nO rfl rfl Z)) (opsS_cons (fun f w_ _ _ _ _ p Z=>L_ixO (R:=(OR.frz RP.int)) (tb:=0) 0 rfl Tryz.underlying23 Tryz.sizeOf3 (p 0 81 rfl rfl) hv121 (by first | rfl | simp) rfl hx111 (nO rfl rfl Z)) (opsS_cons ?_ ?_))
 intro f w_ H119 X119 hS119 hE119 hP119 Z
 obtain ⟨cs126,hr126,hat126⟩:=Star.eltF 0 Z rfl hv121 hx111
 obtain rfl : _ = [_]:=hr126
 refine L_ld rfl Tryz.isAgg3 (hP119 1 82 rfl rfl) (At.cell hat126 (j:=0) rfl) (L_nil ⟨rfl,_,_,rfl,Le.refl _,fun _ _=>rfl,Z⟩)
 refine opsS_cons (fun f w_ _ _ s _ _ Z=>mF ((s 5 rfl).trans sf5) rfl (nO rfl rfl Z)) (opsS_cons (fun f w_ _ _ _ _ p Z=>L_ixO (R:=(OR.frz RP.int)) (tb:=0) 0 rfl Tryz.underlying23 Tryz.sizeOf3 (p 3 84 rfl rfl) hv121 (by first | rfl | simp) rfl hx116 (nO rfl rfl Z)) (opsS_cons ?_ ?_))
 intro f w_ H119 X119 hS119 hE119 hP119 Z
 obtain ⟨cs128,hr128,hat128⟩:=Star.eltF 0 Z rfl hv121 hx116
 obtain rfl : _ = [_]:=hr128
 refine L_ld rfl Tryz.isAgg3 (hP119 4 85 rfl rfl) (At.cell hat128 (j:=0) rfl) (L_nil ⟨rfl,_,_,rfl,Le.refl _,fun _ _=>rfl,Z⟩)
 exact opsS_nil
 refine L_lss rfl (hT119 2 83 rfl rfl) (hT119 5 86 rfl rfl) (aB rfl (nn (W_ret (retG1 (v1:=Bo (decide (x111 < x116))) Tryz.results155 rfl ?_))))
 obtain rfl:=so hF
 exact ⟨rfl,(Star.down (Star.keepN 0 Z) hE119 c0)⟩
 have hF:=(ite_f hc110).symm.trans hF
 refine W_skip (W_seq (sq (aI rfl (nn ?_))))
 have hlen131 : List.length r_.rows≤9223372036854775807:=len_le (slice_len h0_4)
 obtain ⟨j131,hL131,hF⟩:=bind_some hF
 obtain ⟨R131,hR131⟩:=exR fun f w_=>j131 = .nx ()∧Star H w_ ([])
 refine W_join R131 ?_ ?_
 refine W_block ?_
 obtain ⟨I131,hI131⟩:=exI fun n f w_=>∃ i_130 : Nat,∃ suf131 : List (List Int),n = suf131.length∧List.drop i_130 r_.rows = suf131∧i_130 + suf131.length = r_.rows.length∧rangeL (s_l6Holds_b5 list_12) suf131 i_130 () = some j131∧f 2 = Pt g3∧f 5 = v12_list∧f 11 = I i_130∧Star H w_ ([oF 3 RP.int v12_list list_12,box g3 79 #[I r_.kind,v0_1,v0_2,I r_.bound,v0_4]])
 refine W_loop I131 (n:=r_.rows.length) ?_ ?_
 exact ij hI131 ⟨0,r_.rows,rfl,rfl,Nat.zero_add _,hL131,sf2,sf5,rfl,Z⟩
 intro n131 f w_ hI
 obtain ⟨i_130,suf131,rfl,hd131,hl131,hL131,sf2,sf5,sf11,Z⟩:=ik hI131 hI
 refine W_seq (sq (mF sf11 rfl (fA 4 fa_79_4 sf2 rfl (ldB 1 Z Tryz.isAgg77 rfl rfl rfl (L_len rfl Tryz.underlying77 rfl (slice_len h0_4) (L_lss rfl rfl rfl (nn (W_cond (b:=decide ((i_130 : Int) < (r_.rows.length : Int))) rfl (fun hc132=>?_) (fun hc132=>?_)))))))))
 have hlt131:=of_decide_eq_true hc132
 rcases suf131 with _ | ⟨x_131,rest131⟩
 exact absurd hlt131 (by simp at hl131; omega)
 obtain ⟨o131,hB131,hL131⟩:=range_cons hL131
 rw [s_l6Holds_b5] at hB131
 have hix131:=drop_idx hd131
 refine W_skip (W_seq (W_block (W_seq ?_)))
 obtain ⟨x143,hx143,hB131⟩:=bind_some hB131
 refine W_region (fA 4 fa_79_4 sf2 rfl (ldB 1 Z Tryz.isAgg77 rfl rfl rfl (mF sf11 rfl (L_ix (r:=(rS 3 RP.int)) rfl Tryz.underlying77 Tryz.sizeOf23 rfl h0_4 rfl hix131 (fun g145 o146 cs_g145 hrk_hat147 hat147=>?_)))))
 obtain ⟨u148,rfl,hu148⟩:=slice1 hrk_hat147
 refine L_ld rfl Tryz.isAgg23 rfl (At.cell (AtH.at hat147 Z.sub) (j:=0) rfl) (mF sf5 rfl ?_)
 obtain ⟨H149b,l150,s151,z152,k153⟩:=Z.borrow
 have hb154 : (rS 3 RP.int).rel H149b [v12_list] list_12:=fz_own 0 z152 rfl
 refine L_call rfl Tryz.call190 (ops2 rfl rfl) (s_l6Ints_c (a:=x_131) (b:=list_12) s151 (RP.mono _ hu148 l150) hb154 hx143) ?_
 rintro _ w155 ⟨rfl,Z⟩
 have Z:=k153 Z c0
 refine nn (W_cond (b:=x143) rfl (fun hc156=>?_) (fun hc156=>?_))
 have hB131:=(ite_t hc156).symm.trans hB131
 refine sq (aB rfl (nn (W_ret (retG1 (v1:=Bo true) Tryz.results155 rfl ?_))))
 obtain rfl:=so hB131
 obtain rfl:=so hL131
 obtain rfl:=so hF
 exact ⟨rfl,(Star.keepN 0 Z)⟩
 have hB131:=(ite_f hc156).symm.trans hB131
 refine W_skip (W_region (mF sf11 rfl (L_add rfl rfl rfl (aI rfl (nn ?_)))))
 obtain rfl:=so hB131
 show ∃ m,m < _∧I131 m _ _
 refine ⟨rest131.length,by simp,?_⟩
 exact ij hI131 ⟨i_130 + 1,rest131,rfl,drop_next hd131,by simp at hl131; omega,hL131,sf2,sf5,(Eq.trans rfl (congrArg (Value.int .i64) (i64_succ (n:=r_.rows.length) (by simp at hl131; omega) hlen131))),Z⟩
 rcases suf131 with _ | ⟨_,_⟩
 obtain rfl:=range_nil hL131
 refine W_exit (rj hR131 ⟨rfl,(Star.keepN 0 Z)⟩)
 exact absurd (of_decide_eq_false hc132) (by simp at hl131; omega)
 intro f w_ hR
 obtain ⟨rfl,Z⟩:=rk hR131 hR
 refine sq (aB rfl (nn (W_ret (retG1 (v1:=Bo false) Tryz.results155 rfl ?_))))
 obtain rfl:=so hF
 exact ⟨rfl,Z⟩
theorem s_l6Next_c {fu : Nat} {m : Model} {cells : List Int} {v0_0 : Value} {v0_1 : Value} {v1 : Value} {H : FH} {w : World} (Z : Star H w []) (h0_0 : (rS 3 RP.int).rel H [v0_0] m.sizes) (h0_1 : (rS 79 (rRule 3 23)).rel H [v0_1] m.rules) (h1 : (rS 3 RP.int).rel H [v1] cells) {r : (List Int) × Bool} (hF : s_l6Next fu m cells = some r) :
 C Tryz.prog 156 #[.agg #[v0_0,v0_1],v1] w fun v w'=>∃ (u1 : Value),v = .tuple #[u1,Bo r.2]∧Star H w' [oF 3 RP.int u1 r.1]:=by
 unfold s_l6Next at hF
 refine C_enter Tryz.func156 rfl Tryz.ntmps156 rfl (sq (L_box (v:=.agg #[v0_0,v0_1]) (cs:=#[v0_0,v0_1]) rfl rfl rfl Z (fun g3 w4 Z=>aV S0 rfl (aB rfl (nq ?_)))))
 obtain ⟨x8,hx8,hF⟩:=bind_some hF
 refine W_region (L_bs rfl parts0 (bs_23_0  ) Z (fun g12 w13 Z=>?_))
 have Z:=Star.mkRow (R:=(OR.frz RP.int)) [] [] 0 Z rfl rfl rfl (by decide)
 refine mV v1 rfl (L_app (v:=(Sl g12 0 0)) (u:=v1) rfl et_23 rfl rfl Z h1 hx8 (fun v15 w16 Z=>aV v15 rfl (nq (sq (mV v15 rfl (L_len rfl Tryz.underlying23 rfl (Star.len 0 Z rfl) (L_sub rfl rfl rfl (aI rfl (nn ?_)))))))))
 obtain ⟨j23,hL23,hF⟩:=bind_some hF
 obtain ⟨R23,hR23⟩:=exR fun f w_=>∃ out_19 : List Int,∃ i_20 : Int,∃ H21 : FH,j23 = .nx (out_19,i_20)∧Le H H21∧f 6 = v15∧Star H21 w_ ([oF 3 RP.int v15 out_19])
 refine W_join R23 ?_ ?_
 refine W_block ?_
 obtain ⟨I23,hI23⟩:=exI fun n f w_=>∃ out_19 : List Int,∃ i_20 : Int,∃ H21 : FH,whileL (s_l6Next_b1 m) n (out_19,i_20) = some j23∧Le H H21∧f 2 = Pt g3∧f 6 = v15∧f 7 = I i_20∧Star H21 w_ ([oF 3 RP.int v15 out_19,box g3 26 #[v0_0,v0_1]])
 refine W_loop I23 (n:=fu) ?_ ?_
 exact ij hI23 ⟨x8,i64 ((x8.length : Int) - 1),H,hL23,(Le.refl _),rfl,rfl,rfl,Z⟩
 intro n23 f w_ hI
 obtain ⟨out_19,i_20,H21,hL23,l22,sf2,sf6,sf7,Z⟩:=ik hI23 hI
 rcases n23 with _ | n23
 exact (while_zero hL23).elim
 obtain ⟨o23,hB23,hL23⟩:=while_succ hL23
 rw [s_l6Next_b1] at hB23
 refine W_seq (sq (mF sf7 rfl (L_geq rfl rfl rfl (nn (W_cond (b:=decide (i_20 ≥ 0)) rfl (fun hc24=>?_) (fun hc24=>?_))))))
 have hB23:=(ite_t hc24).symm.trans hB23
 refine W_skip (W_seq (W_block (W_seq (W_seq ?_))))
 obtain ⟨x25,hx25,hB23⟩:=bind_some hB23
 obtain ⟨x30,hx30,hB23⟩:=bind_some hB23
 obtain ⟨g36,cap_g36,hv37,_,_⟩:=Star.row 0 Z rfl hx25
 refine W_drawS 9 [isV (v15),isV (I i_20),isV (.pointer (some ⟨g36,Int.toNat i_20 * 1,none⟩)),isV (I x25),isV (Pt g3),isV (v0_0),isV (I i_20),isEl RP.int x30 0,isV (I x30)] [oF 3 RP.int v15 out_19,box g3 26 #[v0_0,v0_1]] [] ([]) [([],[]),([],[]),([],[]),([],[]),([],[]),([],[]),([],[]),([],[]),([],[])] (S:=[]) Tryz_mix (by kernel_rfl) rfl (by kernel_rfl) (amF_cons (mono_V _) (amF_cons (mono_V _) (amF_cons (mono_V _) (amF_cons (mono_V _) (amF_cons (mono_V _) (amF_cons (mono_V _) (amF_cons (mono_V _) (amF_cons (mono_el _ _ _) (amF_cons (mono_V _) amF_nil))))))))) Z ?_ (fun f w_ H35 hS35 hE35 hT35 Z=>?_)
 refine opsS_cons (fun f w_ _ _ s _ _ Z=>mF ((s 6 rfl).trans sf6) rfl (nO rfl rfl Z)) (opsS_cons (fun f w_ _ _ s _ _ Z=>mF ((s 7 rfl).trans sf7) rfl (nO rfl rfl Z)) (opsS_cons (fun f w_ _ _ _ _ p Z=>L_ixO (R:=(OR.frz RP.int)) (tb:=0) 0 rfl Tryz.underlying23 Tryz.sizeOf3 (p 0 18 rfl rfl) hv37 (by first | rfl | simp) (p 1 19 rfl rfl) hx25 (nO rfl rfl Z)) (opsS_cons ?_ ?_)))
 intro f w_ H35 X35 hS35 hE35 hP35 Z
 obtain ⟨cs44,hr44,hat44⟩:=Star.eltF 0 Z rfl hv37 hx25
 obtain rfl : _ = [_]:=hr44
 refine L_ld rfl Tryz.isAgg3 (hP35 2 20 rfl rfl) (At.cell hat44 (j:=0) rfl) (L_nil ⟨rfl,_,_,rfl,Le.refl _,fun _ _=>rfl,Z⟩)
 refine opsS_cons (fun f w_ _ _ s _ _ Z=>fA 0 fa_26_0 ((s 2 rfl).trans sf2) rfl (nO rfl rfl Z)) (opsS_cons (fun f w_ _ _ _ _ p Z=>ldB 1 Z Tryz.isAgg23 (p 4 22 rfl rfl) rfl rfl (nO rfl rfl Z)) (opsS_cons (fun f w_ _ _ s _ _ Z=>mF ((s 7 rfl).trans sf7) rfl (nO rfl rfl Z)) (opsS_cons ?_ ?_)))
 intro f w_ H35 X35 hS35 hE35 hP35 Z
 refine L_ix (r:=RP.int) rfl Tryz.underlying23 Tryz.sizeOf3 (hP35 5 23 rfl rfl) (RP.mono _ h0_0 (Le.trans l22 hE35)) (hP35 6 24 rfl rfl) hx30 (fun g46 o47 cs_g46 hrk_hat48 hat48=>?_)
 obtain rfl : _ = [_]:=hrk_hat48
 exact L_nil ⟨rfl,_,_,rfl,Le.refl _,fun _ _=>⟨_,_,_,rfl,rfl,hat48⟩,Z⟩
 refine opsS_cons ?_ ?_
 intro f w_ H35 X35 hS35 hE35 hP35 Z
 obtain ⟨g50,o50,cs50,hv50,hrk_hat50,hat50⟩:=(hP35 7 25 rfl rfl)
 obtain rfl : _ = [_]:=hrk_hat50
 refine L_ld rfl Tryz.isAgg3 hv50 (At.cell (AtH.at hat50 Z.sub) (j:=0) rfl) (L_nil ⟨rfl,_,_,rfl,Le.refl _,fun _ _=>rfl,Z⟩)
 exact opsS_nil
 refine L_lss rfl (hT35 3 21 rfl rfl) (hT35 8 26 rfl rfl) (nn (W_cond (b:=decide (x25 < x30)) rfl (fun hc52=>?_) (fun hc52=>?_)))
 have hB23:=(ite_t hc52).symm.trans hB23
 refine sq (mF ((hS35 6 rfl).trans sf6) rfl (mF ((hS35 7 rfl).trans sf7) rfl (mF ((hS35 6 rfl).trans sf6) rfl (mF ((hS35 7 rfl).trans sf7) rfl (L_ixO (R:=(OR.frz RP.int)) (tb:=0) 0 rfl Tryz.underlying23 Tryz.sizeOf3 rfl hv37 (by first | rfl | simp) rfl hx25 ?_)))))
 obtain ⟨cs56,hr56,hat56⟩:=Star.eltF 0 Z rfl hv37 hx25
 obtain rfl : _ = [_]:=hr56
 refine L_ld rfl Tryz.isAgg3 rfl (At.cell hat56 (j:=0) rfl) (L_add rfl rfl rfl (L_ixO (R:=(OR.frz RP.int)) (tb:=0) 0 rfl Tryz.underlying23 Tryz.sizeOf3 rfl hv37 (by first | rfl | simp) rfl hx25 ?_))
 have Z:=Star.addF (r:=RP.int) (cs:=[I (i64 (x25 + 1))]) (x:=(i64 (x25 + 1))) Z rfl
 refine L_stE1 (u:=I (i64 (x25 + 1))) rfl Tryz.sizeOf3 rfl rfl rfl hv37 Z hx25 (fun w58 Z=>?_)
 refine L_nil (sq (mF ((hS35 6 rfl).trans sf6) rfl (aV v15 rfl (aB rfl (nn (W_ret (retG2 (v1:=v15) (v2:=Bo true) Tryz.results156 rfl rfl ?_)))))))
 obtain rfl:=so hB23
 obtain rfl:=so hL23
 obtain rfl:=so hF
 exact ⟨v15,rfl,(Star.down (Star.keepN 1 Z) (Le.trans l22 hE35) (co closed_int c0))⟩
 have hB23:=(ite_f hc52).symm.trans hB23
 refine W_skip (W_region (mF ((hS35 6 rfl).trans sf6) rfl (mF ((hS35 7 rfl).trans sf7) rfl (L_ixO (R:=(OR.frz RP.int)) (tb:=0) 0 rfl Tryz.underlying23 Tryz.sizeOf3 rfl hv37 (by first | rfl | simp) rfl hx25 ?_))))
 have Z:=Star.addF (r:=RP.int) (cs:=[I 0]) (x:=0) Z rfl
 refine L_stE1 (u:=I 0) rfl Tryz.sizeOf3 rfl rfl rfl hv37 Z hx25 (fun w60 Z=>?_)
 refine nn (W_region (mF ((hS35 7 rfl).trans sf7) rfl (L_sub rfl rfl rfl (aI rfl (nn ?_)))))
 obtain rfl:=so hB23
 show ∃ m,m < _∧I23 m _ _
 refine ⟨n23,Nat.lt_succ_self _,?_⟩
 exact ij hI23 ⟨(out_19.set (Int.toNat i_20) 0),i64 (i_20 - 1),H35,hL23,(Le.trans l22 hE35),((hS35 2 rfl).trans sf2),((hS35 6 rfl).trans sf6),rfl,Z⟩
 have hB23:=(ite_f hc24).symm.trans hB23
 refine W_exit ?_
 obtain rfl:=so hB23
 obtain rfl:=so hL23
 exact rj hR23 ⟨out_19,i_20,H21,rfl,l22,sf6,(Star.keepN 1 Z)⟩
 intro f w_ hR
 obtain ⟨out_19,i_20,H21,rfl,l22,sf6,Z⟩:=rk hR23 hR
 refine sq (mF sf6 rfl (aV v15 rfl (aB rfl (nn (W_ret (retG2 (v1:=v15) (v2:=Bo false) Tryz.results156 rfl rfl ?_))))))
 obtain rfl:=so hF
 exact ⟨v15,rfl,(Star.down Z l22 (co closed_int c0))⟩
theorem s_l7Forbid_c {fu : Nat} {m : Model} {r_ : Rule} {v0_0 : Value} {v0_1 : Value} {v1_1 : Value} {v1_2 : Value} {v1_4 : Value} {H : FH} {w : World} (Z : Star H w []) (h0_0 : (rS 3 RP.int).rel H [v0_0] m.sizes) (h0_1 : (rS 79 (rRule 3 23)).rel H [v0_1] m.rules) (h1_1 : (rS 3 RP.int).rel H [v1_1] r_.vars) (h1_2 : (rS 3 RP.int).rel H [v1_2] r_.coefs) (h1_4 : (rS 23 (rS 3 RP.int)).rel H [v1_4] r_.rows) {r : List Con} (hF : s_l7Forbid fu m r_ = some r) :
 C Tryz.prog 111 #[.agg #[v0_0,v0_1],.agg #[I r_.kind,v1_1,v1_2,I r_.bound,v1_4]] w fun v w'=>∃ (u1 : Value),v = u1∧Star H w' [oS 73 (oCon 122) u1 r]:=by
 unfold s_l7Forbid at hF
 refine C_enter Tryz.func111 rfl Tryz.ntmps111 rfl (sq (L_box (v:=.agg #[v0_0,v0_1]) (cs:=#[v0_0,v0_1]) rfl rfl rfl Z (fun g5 w6 Z=>L_box (v:=.agg #[I r_.kind,v1_1,v1_2,I r_.bound,v1_4]) (cs:=#[I r_.kind,v1_1,v1_2,I r_.bound,v1_4]) rfl rfl rfl Z (fun g7 w8 Z=>aV S0 rfl (ns (L_bld rfl (parts0 ) (bld_26_  ) (L_al (cs:=#[S0,S0]) rfl Tryz.zeroValue26 rfl Z (fun g12 w13 Z=>L_staB (vs:=#[S0,S0]) (cs2:=#[S0,S0]) 0 rfl Tryz.sizeOf26 rfl rfl rfl (ones_cons rfl (ones_cons rfl ones_nil)) Z rfl (by show 0 + 2≤2; decide) rfl (fun w14 Z=>nq (sq (aI rfl (nn ?_))))))))))))
 have hlen20 : List.length r_.vars≤9223372036854775807:=len_le (slice_len h1_1)
 obtain ⟨j20,hL20,hF⟩:=bind_some hF
 obtain ⟨R20,hR20⟩:=exR fun f w_=>∃ g12_0_16 : List Int,∃ H18 : FH,∃ v16_g12_0 : Value,j20 = .nx g12_0_16∧Le H H18∧f 2 = Pt g5∧f 3 = Pt g7∧f 5 = Pt g12∧Star H18 w_ ([oF 3 RP.int v16_g12_0 g12_0_16,box g12 26 #[v16_g12_0,S0],box g7 79 #[I r_.kind,v1_1,v1_2,I r_.bound,v1_4],box g5 26 #[v0_0,v0_1]])
 refine W_join R20 ?_ ?_
 refine W_block ?_
 obtain ⟨I20,hI20⟩:=exI fun n f w_=>∃ i_15 : Nat,∃ suf20 : List Int,∃ g12_0_16 : List Int,∃ H18 : FH,∃ v16_g12_0 : Value,n = suf20.length∧List.drop i_15 r_.vars = suf20∧i_15 + suf20.length = r_.vars.length∧rangeL (s_l7Forbid_b1 m) suf20 i_15 g12_0_16 = some j20∧Le H H18∧f 2 = Pt g5∧f 3 = Pt g7∧f 5 = Pt g12∧f 6 = I i_15∧Star H18 w_ ([oF 3 RP.int v16_g12_0 g12_0_16,box g12 26 #[v16_g12_0,S0],box g7 79 #[I r_.kind,v1_1,v1_2,I r_.bound,v1_4],box g5 26 #[v0_0,v0_1]])
 have Z:=Star.addNil (R:=(OR.frz RP.int)) (e:=3) Z
 refine W_loop I20 (n:=r_.vars.length) ?_ ?_
 exact ij hI20 ⟨0,r_.vars,[],H,S0,rfl,rfl,Nat.zero_add _,hL20,(Le.refl _),rfl,rfl,rfl,rfl,Z⟩
 intro n20 f w_ hI
 obtain ⟨i_15,suf20,g12_0_16,H18,v16_g12_0,rfl,hd20,hl20,hL20,l19,sf2,sf3,sf5,sf6,Z⟩:=ik hI20 hI
 refine W_seq (sq (mF sf6 rfl (fA 1 fa_79_1 sf3 rfl (ldB 2 Z Tryz.isAgg23 rfl rfl rfl (L_len rfl Tryz.underlying23 rfl (slice_len (RP.mono _ h1_1 l19)) (L_lss rfl rfl rfl (nn (W_cond (b:=decide ((i_15 : Int) < (r_.vars.length : Int))) rfl (fun hc22=>?_) (fun hc22=>?_)))))))))
 have hlt20:=of_decide_eq_true hc22
 rcases suf20 with _ | ⟨x_20,rest20⟩
 exact absurd hlt20 (by simp at hl20; omega)
 obtain ⟨o20,hB20,hL20⟩:=range_cons hL20
 rw [s_l7Forbid_b1] at hB20
 have hix20:=drop_idx hd20
 refine W_skip (W_seq (W_block ?_))
 obtain ⟨x27,hx27,hB20⟩:=bind_some hB20
 obtain ⟨x35,hx35,hB20⟩:=bind_some hB20
 refine W_drawS 12 [isV (Pt g12),isV (v16_g12_0),isV (Pt g5),isV (v0_0),isV (Pq g7 1),isV (v1_1),isV (I i_15),isEl RP.int x_20 0,isV (I x_20),isEl RP.int x27 0,isV (I x27),anyF] [oF 3 RP.int v16_g12_0 g12_0_16,box g12 26 #[v16_g12_0,S0],box g7 79 #[I r_.kind,v1_1,v1_2,I r_.bound,v1_4],box g5 26 #[v0_0,v0_1]] [.made 11 34 (fun v_=>oF 3 RP.int v_ ([x27])) none] ([]) [([],[]),([],[]),([],[]),([],[]),([],[]),([],[]),([],[]),([],[]),([],[]),([],[]),([],[]),([],[0])] (S:=[(some 11,[34],none)]) Tryz_mix (by kernel_rfl) rfl (by kernel_rfl) (amF_cons (mono_V _) (amF_cons (mono_V _) (amF_cons (mono_V _) (amF_cons (mono_V _) (amF_cons (mono_V _) (amF_cons (mono_V _) (amF_cons (mono_V _) (amF_cons (mono_el _ _ _) (amF_cons (mono_V _) (amF_cons (mono_el _ _ _) (amF_cons (mono_V _) (amF_cons (mono_any) amF_nil)))))))))))) Z ?_ (fun f w_ H40 hS40 hE40 hT40 Z=>?_)
 refine opsS_cons (fun f w_ _ _ s _ _ Z=>fA 0 fa_26_0 ((s 5 rfl).trans sf5) rfl (nO rfl rfl Z)) (opsS_cons (fun f w_ _ _ _ _ p Z=>ldB 1 Z Tryz.isAgg23 (p 0 23 rfl rfl) rfl rfl (nO rfl rfl Z)) (opsS_cons (fun f w_ _ _ s _ _ Z=>fA 0 fa_26_0 ((s 2 rfl).trans sf2) rfl (nO rfl rfl Z)) (opsS_cons (fun f w_ _ _ _ _ p Z=>ldB 3 Z Tryz.isAgg23 (p 2 25 rfl rfl) rfl rfl (nO rfl rfl Z)) (opsS_cons (fun f w_ _ _ s _ _ Z=>fA 1 fa_79_1 ((s 3 rfl).trans sf3) rfl (nO rfl rfl Z)) (opsS_cons (fun f w_ _ _ _ _ p Z=>ldB 2 Z Tryz.isAgg23 (p 4 27 rfl rfl) rfl rfl (nO rfl rfl Z)) (opsS_cons (fun f w_ _ _ s _ _ Z=>mF ((s 6 rfl).trans sf6) rfl (nO rfl rfl Z)) (opsS_cons ?_ ?_)))))))
 intro f w_ H40 X40 hS40 hE40 hP40 Z
 refine L_ix (r:=RP.int) rfl Tryz.underlying23 Tryz.sizeOf3 (hP40 5 28 rfl rfl) (RP.mono _ h1_1 (Le.trans l19 hE40)) (hP40 6 29 rfl rfl) hix20 (fun g52 o53 cs_g52 hrk_hat54 hat54=>?_)
 obtain rfl : _ = [_]:=hrk_hat54
 exact L_nil ⟨rfl,_,_,rfl,Le.refl _,fun _ _=>⟨_,_,_,rfl,rfl,hat54⟩,Z⟩
 refine opsS_cons ?_ ?_
 intro f w_ H40 X40 hS40 hE40 hP40 Z
 obtain ⟨g56,o56,cs56,hv56,hrk_hat56,hat56⟩:=(hP40 7 30 rfl rfl)
 obtain rfl : _ = [_]:=hrk_hat56
 refine L_ld rfl Tryz.isAgg3 hv56 (At.cell (AtH.at hat56 Z.sub) (j:=0) rfl) (L_nil ⟨rfl,_,_,rfl,Le.refl _,fun _ _=>rfl,Z⟩)
 refine opsS_cons ?_ ?_
 intro f w_ H40 X40 hS40 hE40 hP40 Z
 refine L_ix (r:=RP.int) rfl Tryz.underlying23 Tryz.sizeOf3 (hP40 3 26 rfl rfl) (RP.mono _ h0_0 (Le.trans l19 hE40)) (hP40 8 31 rfl rfl) hx27 (fun g58 o59 cs_g58 hrk_hat60 hat60=>?_)
 obtain rfl : _ = [_]:=hrk_hat60
 exact L_nil ⟨rfl,_,_,rfl,Le.refl _,fun _ _=>⟨_,_,_,rfl,rfl,hat60⟩,Z⟩
 refine opsS_cons ?_ ?_
 intro f w_ H40 X40 hS40 hE40 hP40 Z
 obtain ⟨g62,o62,cs62,hv62,hrk_hat62,hat62⟩:=(hP40 9 32 rfl rfl)
 obtain rfl : _ = [_]:=hrk_hat62
 refine L_ld rfl Tryz.isAgg3 hv62 (At.cell (AtH.at hat62 Z.sub) (j:=0) rfl) (L_nil ⟨rfl,_,_,rfl,Le.refl _,fun _ _=>rfl,Z⟩)
 refine opsS_cons ?_ ?_
 intro f w_ H40 X40 hS40 hE40 hP40 Z
 refine L_bs rfl (parts1 (hP40 10 33 rfl rfl)) (bs_23_1_0 (I x27) rfl) Z (fun g64 w65 Z=>?_)
 have Z:=Star.addF (r:=RP.int) (cs:=[I x27]) (x:=x27) Z rfl
 have Z:=Star.mkRow (R:=(OR.frz RP.int)) [([I x27],x27)] [x27] 1 Z rfl rfl rfl (by decide)
 have Z:=Z.gets [4,4,4,4] rfl
 exact L_nil ⟨rfl,_,_,rfl,Le.refl _,fun _ _=>trivial,Z⟩
 exact opsS_nil
 have Z : Star H40 w_ ([oF 3 RP.int v16_g12_0 g12_0_16,box g12 26 #[v16_g12_0,S0],box g7 79 #[I r_.kind,v1_1,v1_2,I r_.bound,v1_4],box g5 26 #[v0_0,v0_1],oF 3 RP.int (f 34) ([x27])]):=Z
 have Z:=Z.gets [4,1] rfl
 refine L_appM (v:=v16_g12_0) (u:=(f 34)) rfl et_23 (hT40 1 24 rfl rfl) rfl Z hx35 (fun v68 w69 Z=>fA 0 fa_26_0 ((hS40 5 rfl).trans sf5) rfl (L_stB (v:=v68) (cs2:=#[v68,S0]) 1 rfl Tryz.sizeOf23 rfl rfl (one_len (Star.len 0 Z rfl)) Z rfl rfl rfl (fun w71 Z=>nn (W_region (mF ((hS40 6 rfl).trans sf6) rfl (L_add rfl rfl rfl (aI rfl (nn ?_))))))))
 obtain rfl:=so hB20
 have Z:=Z.gets [3,3,2,3] rfl
 show ∃ m,m < _∧I20 m _ _
 refine ⟨rest20.length,by simp,?_⟩
 exact ij hI20 ⟨i_15 + 1,rest20,x35,H40,v68,rfl,drop_next hd20,by simp at hl20; omega,hL20,(Le.trans l19 hE40),((hS40 2 rfl).trans sf2),((hS40 3 rfl).trans sf3),((hS40 5 rfl).trans sf5),(Eq.trans rfl (congrArg (Value.int .i64) (i64_succ (n:=r_.vars.length) (by simp at hl20; omega) hlen20))),Z⟩
 rcases suf20 with _ | ⟨_,_⟩
 obtain rfl:=range_nil hL20
 refine W_exit (rj hR20 ⟨g12_0_16,H18,v16_g12_0,rfl,l19,sf2,sf3,sf5,Z⟩)
 exact absurd (of_decide_eq_false hc22) (by simp at hl20; omega)
 intro f w_ hR
 obtain ⟨g12_0_16,H18,v16_g12_0,rfl,l19,sf2,sf3,sf5,Z⟩:=rk hR20 hR
 refine sq (L_bs rfl parts0 (bs_28_0  ) Z (fun g75 w76 Z=>?_))
 have Z:=Star.mkRow (R:=(OR.frz (rCon 122))) [] [] 0 Z rfl rfl rfl (by decide)
 refine aV (Sl g75 0 0) rfl (L_nil (W_seq ?_))
 obtain ⟨x78,hx78,hF⟩:=bind_some hF
 refine W_region (fA 1 fa_79_1 sf3 rfl (ldB 3 Z Tryz.isAgg23 rfl rfl rfl (L_len rfl Tryz.underlying23 rfl (slice_len (RP.mono _ h1_1 l19)) (L_mk (R:=(OR.frz RP.int)) (z0:=0) (zc:=[I 0]) rfl et_23 (by kernel_rfl) (fun _ _=>⟨rfl,rfl⟩) rfl rfl hx78 Z (fun v82 w83 Z=>aV v82 rfl (nq (sq (aB rfl (nn ?_)))))))))
 obtain ⟨j93,hL93,hF⟩:=bind_some hF
 obtain ⟨R93,hR93⟩:=exR fun f w_=>∃ out_86 : List Con,∃ row_88 : List Int,∃ more_90 : Bool,∃ H91 : FH,∃ v86_out : Value,j93 = .nx (out_86,row_88,more_90)∧Le H18 H91∧f 7 = v86_out∧Star H91 w_ ([oS 73 (oCon 122) v86_out out_86])
 refine W_join R93 ?_ ?_
 refine W_block ?_
 obtain ⟨I93,hI93⟩:=exI fun n f w_=>∃ out_86 : List Con,∃ row_88 : List Int,∃ more_90 : Bool,∃ H91 : FH,∃ v86_out v88_row : Value,whileL (s_l7Forbid_b2 fu m r_ g12_0_16) n (out_86,row_88,more_90) = some j93∧Le H18 H91∧f 2 = Pt g5∧f 3 = Pt g7∧f 5 = Pt g12∧f 7 = v86_out∧f 8 = v88_row∧f 9 = Bo more_90∧Star H91 w_ ([oS 73 (oCon 122) v86_out out_86,oF 3 RP.int v88_row row_88,oF 3 RP.int v16_g12_0 g12_0_16,box g12 26 #[v16_g12_0,S0],box g7 79 #[I r_.kind,v1_1,v1_2,I r_.bound,v1_4],box g5 26 #[v0_0,v0_1]])
 have Z:=Z.get 1 rfl
 have Z:=Star.recast (R:=(OR.frz (rCon 122))) (R':=(oCon 122)) rfl Z
 refine W_loop I93 (n:=fu) ?_ ?_
 exact ij hI93 ⟨[],x78,true,H18,(Sl g75 0 0),v82,hL93,(Le.refl _),sf2,sf3,sf5,rfl,rfl,rfl,Z⟩
 intro n93 f w_ hI
 obtain ⟨out_86,row_88,more_90,H91,v86_out,v88_row,hL93,l92,sf2,sf3,sf5,sf7,sf8,sf9,Z⟩:=ik hI93 hI
 rcases n93 with _ | n93
 exact (while_zero hL93).elim
 obtain ⟨o93,hB93,hL93⟩:=while_succ hL93
 rw [s_l7Forbid_b2] at hB93
 refine W_seq (sq (mF sf9 rfl (nn (W_cond (b:=more_90) rfl (fun hc94=>?_) (fun hc94=>?_)))))
 have hB93:=(ite_t hc94).symm.trans hB93
 refine W_skip (W_block (W_seq ?_))
 obtain ⟨x95,hx95,hB93⟩:=bind_some hB93
 refine W_region (fA 0 fa_26_0 sf2 rfl (ldB 5 Z Tryz.isAgg23 rfl rfl rfl (L_len rfl Tryz.underlying23 rfl (slice_len (RP.mono _ h0_0 (Le.trans l19 l92))) (L_mk (R:=(OR.frz RP.int)) (z0:=0) (zc:=[I 0]) rfl et_23 (by kernel_rfl) (fun _ _=>⟨rfl,rfl⟩) rfl rfl hx95 Z (fun v99 w100 Z=>aV v99 rfl (ns (L_bs rfl parts0 (bs_23_0  ) Z (fun g105 w106 Z=>?_))))))))
 have Z:=Star.mkRow (R:=(OR.frz RP.int)) [] [] 0 Z rfl rfl rfl (by decide)
 refine aV (Sl g105 0 0) rfl (nq (sq (aI rfl (nn ?_))))
 have hlen114 : List.length row_88≤9223372036854775807:=len_le (Star.len 3 Z rfl)
 obtain ⟨j114,hL114,hB93⟩:=bind_some hB93
 obtain ⟨R114,hR114⟩:=exR fun f w_=>∃ cells_109 : List Int,∃ lits_110 : List Int,∃ H112 : FH,∃ v110_lits : Value,j114 = .nx (cells_109,lits_110)∧Le H91 H112∧f 2 = Pt g5∧f 3 = Pt g7∧f 5 = Pt g12∧f 7 = v86_out∧f 8 = v88_row∧f 10 = v99∧f 11 = v110_lits∧Star H112 w_ ([oS 73 (oCon 122) v86_out out_86,oF 3 RP.int v88_row row_88,oF 3 RP.int v99 cells_109,oF 3 RP.int v110_lits lits_110,oF 3 RP.int v16_g12_0 g12_0_16,box g12 26 #[v16_g12_0,S0],box g7 79 #[I r_.kind,v1_1,v1_2,I r_.bound,v1_4],box g5 26 #[v0_0,v0_1]])
 refine W_join R114 ?_ ?_
 refine W_block ?_
 obtain ⟨I114,hI114⟩:=exI fun n f w_=>∃ i_108 : Nat,∃ suf114 : List Int,∃ cells_109 : List Int,∃ lits_110 : List Int,∃ H112 : FH,∃ v110_lits : Value,n = suf114.length∧List.drop i_108 row_88 = suf114∧i_108 + suf114.length = row_88.length∧rangeL (s_l7Forbid_b3 m r_) suf114 i_108 (cells_109,lits_110) = some j114∧Le H91 H112∧f 2 = Pt g5∧f 3 = Pt g7∧f 5 = Pt g12∧f 7 = v86_out∧f 8 = v88_row∧f 10 = v99∧f 11 = v110_lits∧f 12 = I i_108∧Star H112 w_ ([oS 73 (oCon 122) v86_out out_86,oF 3 RP.int v88_row row_88,oF 3 RP.int v99 cells_109,oF 3 RP.int v110_lits lits_110,oF 3 RP.int v16_g12_0 g12_0_16,box g12 26 #[v16_g12_0,S0],box g7 79 #[I r_.kind,v1_1,v1_2,I r_.bound,v1_4],box g5 26 #[v0_0,v0_1]])
 have Z:=Z.gets [7,7,7,7,4,5,7,7] rfl
 refine W_loop I114 (n:=row_88.length) ?_ ?_
 exact ij hI114 ⟨0,row_88,x95,[],H91,(Sl g105 0 0),rfl,rfl,Nat.zero_add _,hL114,(Le.refl _),sf2,sf3,sf5,sf7,sf8,rfl,rfl,rfl,Z⟩
 intro n114 f w_ hI
 obtain ⟨i_108,suf114,cells_109,lits_110,H112,v110_lits,rfl,hd114,hl114,hL114,l113,sf2,sf3,sf5,sf7,sf8,sf10,sf11,sf12,Z⟩:=ik hI114 hI
 refine W_seq (sq (mF sf12 rfl (mF sf8 rfl (L_len rfl Tryz.underlying23 rfl (Star.len 1 Z rfl) (L_lss rfl rfl rfl (nn (W_cond (b:=decide ((i_108 : Int) < (row_88.length : Int))) rfl (fun hc115=>?_) (fun hc115=>?_))))))))
 have hlt114:=of_decide_eq_true hc115
 rcases suf114 with _ | ⟨x_114,rest114⟩
 exact absurd hlt114 (by simp at hl114; omega)
 obtain ⟨o114,hB114,hL114⟩:=range_cons hL114
 rw [s_l7Forbid_b3] at hB114
 have hix114:=drop_idx hd114
 refine W_skip (W_seq (W_block (W_seq ?_)))
 obtain ⟨x116,hx116,hB114⟩:=bind_some hB114
 obtain ⟨x125,hx125,hB114⟩:=bind_some hB114
 obtain ⟨g134,cap_g134,hv135,_,_⟩:=Star.row 1 Z rfl hix114
 refine W_drawS 10 [isV (v99),isV (Pq g7 1),isV (v1_1),isV (I i_108),isEl RP.int x116 0,isV (I x116),isV (v88_row),isV (I i_108),isV (.pointer (some ⟨g134,Int.toNat (i_108 : Int) * 1,none⟩)),isV (I x_114)] [oS 73 (oCon 122) v86_out out_86,oF 3 RP.int v88_row row_88,oF 3 RP.int v99 cells_109,oF 3 RP.int v110_lits lits_110,oF 3 RP.int v16_g12_0 g12_0_16,box g12 26 #[v16_g12_0,S0],box g7 79 #[I r_.kind,v1_1,v1_2,I r_.bound,v1_4],box g5 26 #[v0_0,v0_1]] [] ([]) [([],[]),([],[]),([],[]),([],[]),([],[]),([],[]),([],[]),([],[]),([],[]),([],[])] (S:=[]) Tryz_mix (by kernel_rfl) rfl (by kernel_rfl) (amF_cons (mono_V _) (amF_cons (mono_V _) (amF_cons (mono_V _) (amF_cons (mono_V _) (amF_cons (mono_el _ _ _) (amF_cons (mono_V _) (amF_cons (mono_V _) (amF_cons (mono_V _) (amF_cons (mono_V _) (amF_cons (mono_V _) amF_nil)))))))))) Z ?_ (fun f w_ H129 hS129 hE129 hT129 Z=>?_)
 refine opsS_cons (fun f w_ _ _ s _ _ Z=>mF ((s 10 rfl).trans sf10) rfl (nO rfl rfl Z)) (opsS_cons (fun f w_ _ _ s _ _ Z=>fA 1 fa_79_1 ((s 3 rfl).trans sf3) rfl (nO rfl rfl Z)) (opsS_cons (fun f w_ _ _ _ _ p Z=>ldB 6 Z Tryz.isAgg23 (p 1 55 rfl rfl) rfl rfl (nO rfl rfl Z)) (opsS_cons (fun f w_ _ _ s _ _ Z=>mF ((s 12 rfl).trans sf12) rfl (nO rfl rfl Z)) (opsS_cons ?_ ?_))))
 intro f w_ H129 X129 hS129 hE129 hP129 Z
 refine L_ix (r:=RP.int) rfl Tryz.underlying23 Tryz.sizeOf3 (hP129 2 56 rfl rfl) (RP.mono _ h1_1 (Le.trans (Le.trans (Le.trans l19 l92) l113) hE129)) (hP129 3 57 rfl rfl) hx116 (fun g138 o139 cs_g138 hrk_hat140 hat140=>?_)
 obtain rfl : _ = [_]:=hrk_hat140
 exact L_nil ⟨rfl,_,_,rfl,Le.refl _,fun _ _=>⟨_,_,_,rfl,rfl,hat140⟩,Z⟩
 refine opsS_cons ?_ ?_
 intro f w_ H129 X129 hS129 hE129 hP129 Z
 obtain ⟨g142,o142,cs142,hv142,hrk_hat142,hat142⟩:=(hP129 4 58 rfl rfl)
 obtain rfl : _ = [_]:=hrk_hat142
 refine L_ld rfl Tryz.isAgg3 hv142 (At.cell (AtH.at hat142 Z.sub) (j:=0) rfl) (L_nil ⟨rfl,_,_,rfl,Le.refl _,fun _ _=>rfl,Z⟩)
 refine opsS_cons (fun f w_ _ _ s _ _ Z=>mF ((s 8 rfl).trans sf8) rfl (nO rfl rfl Z)) (opsS_cons (fun f w_ _ _ s _ _ Z=>mF ((s 12 rfl).trans sf12) rfl (nO rfl rfl Z)) (opsS_cons (fun f w_ _ _ _ _ p Z=>L_ixO (R:=(OR.frz RP.int)) (tb:=0) 0 rfl Tryz.underlying23 Tryz.sizeOf3 (p 6 60 rfl rfl) hv135 (by first | rfl | simp) (p 7 61 rfl rfl) hix114 (nO rfl rfl Z)) (opsS_cons ?_ ?_)))
 intro f w_ H129 X129 hS129 hE129 hP129 Z
 obtain ⟨cs144,hr144,hat144⟩:=Star.eltF 1 Z rfl hv135 hix114
 obtain rfl : _ = [_]:=hr144
 refine L_ld rfl Tryz.isAgg3 (hP129 8 62 rfl rfl) (At.cell hat144 (j:=0) rfl) (L_nil ⟨rfl,_,_,rfl,Le.refl _,fun _ _=>rfl,Z⟩)
 exact opsS_nil
 obtain ⟨g146,cap_g146,hv147,_,_⟩:=Star.row 2 Z rfl hx125
 refine L_ixO (R:=(OR.frz RP.int)) (tb:=0) 0 rfl Tryz.underlying23 Tryz.sizeOf3 (hT129 0 54 rfl rfl) hv147 (by first | rfl | simp) (hT129 5 59 rfl rfl) hx125 ?_
 have Z:=Star.addF (r:=RP.int) (cs:=[I x_114]) (x:=x_114) Z rfl
 have Z:=Z.gets [3,1] rfl
 refine L_stE1 (u:=I x_114) rfl Tryz.sizeOf3 rfl rfl (hT129 9 63 rfl rfl) hv147 Z hx125 (fun w148 Z=>?_)
 refine nn ?_
 obtain ⟨x160,hx160,hB114⟩:=bind_some hB114
 obtain ⟨x165,hx165,hB114⟩:=bind_some hB114
 refine W_drawS 14 [isV (v110_lits),isV (.agg #[v0_0,v0_1]),isV (Pq g7 1),isV (v1_1),isV (I i_108),isEl RP.int x116 0,isV (I x116),isV (v88_row),isV (I i_108),isV (.pointer (some ⟨g134,Int.toNat (i_108 : Int) * 1,none⟩)),isV (I x_114),isV (I x160),isV (I (i64 (-x160))),anyF] [oF 3 RP.int v99 (cells_109.set (Int.toNat x116) x_114),oS 73 (oCon 122) v86_out out_86,oF 3 RP.int v88_row row_88,oF 3 RP.int v110_lits lits_110,oF 3 RP.int v16_g12_0 g12_0_16,box g12 26 #[v16_g12_0,S0],box g7 79 #[I r_.kind,v1_1,v1_2,I r_.bound,v1_4],box g5 26 #[v0_0,v0_1]] [.made 13 78 (fun v_=>oF 3 RP.int v_ ([i64 (-x160)])) none] ([]) [([],[]),([],[]),([],[]),([],[]),([],[]),([],[]),([],[]),([],[]),([],[]),([],[]),([],[]),([],[]),([],[]),([],[0])] (S:=[(some 13,[78],none)]) Tryz_mix (by kernel_rfl) rfl (by kernel_rfl) (amF_cons (mono_V _) (amF_cons (mono_V _) (amF_cons (mono_V _) (amF_cons (mono_V _) (amF_cons (mono_V _) (amF_cons (mono_el _ _ _) (amF_cons (mono_V _) (amF_cons (mono_V _) (amF_cons (mono_V _) (amF_cons (mono_V _) (amF_cons (mono_V _) (amF_cons (mono_V _) (amF_cons (mono_V _) (amF_cons (mono_any) amF_nil)))))))))))))) Z ?_ (fun f w_ H169 hS169 hE169 hT169 Z=>?_)
 refine opsS_cons (fun f w_ _ _ s _ _ Z=>mF ((s 11 rfl).trans ((hS129 11 rfl).trans sf11)) rfl (nO rfl rfl Z)) (opsS_cons (fun f w_ _ _ s _ _ Z=>L_lda (cs:=[v0_0,v0_1]) rfl Tryz.isAgg26 Tryz.sizeOf26 ((s 2 rfl).trans ((hS129 2 rfl).trans sf2)) (At.sub0 (Blk.at (Star.blkAt 7 Z rfl)) 0 2) rfl (nO rfl rfl Z)) (opsS_cons (fun f w_ _ _ s _ _ Z=>fA 1 fa_79_1 ((s 3 rfl).trans ((hS129 3 rfl).trans sf3)) rfl (nO rfl rfl Z)) (opsS_cons (fun f w_ _ _ _ _ p Z=>ldB 6 Z Tryz.isAgg23 (p 2 67 rfl rfl) rfl rfl (nO rfl rfl Z)) (opsS_cons (fun f w_ _ _ s _ _ Z=>mF ((s 12 rfl).trans ((hS129 12 rfl).trans sf12)) rfl (nO rfl rfl Z)) (opsS_cons ?_ ?_)))))
 intro f w_ H169 X169 hS169 hE169 hP169 Z
 refine L_ix (r:=RP.int) rfl Tryz.underlying23 Tryz.sizeOf3 (hP169 3 68 rfl rfl) (RP.mono _ h1_1 (Le.trans (Le.trans (Le.trans (Le.trans l19 l92) l113) hE129) hE169)) (hP169 4 69 rfl rfl) hx116 (fun g185 o186 cs_g185 hrk_hat187 hat187=>?_)
 obtain rfl : _ = [_]:=hrk_hat187
 exact L_nil ⟨rfl,_,_,rfl,Le.refl _,fun _ _=>⟨_,_,_,rfl,rfl,hat187⟩,Z⟩
 refine opsS_cons ?_ ?_
 intro f w_ H169 X169 hS169 hE169 hP169 Z
 obtain ⟨g189,o189,cs189,hv189,hrk_hat189,hat189⟩:=(hP169 5 70 rfl rfl)
 obtain rfl : _ = [_]:=hrk_hat189
 refine L_ld rfl Tryz.isAgg3 hv189 (At.cell (AtH.at hat189 Z.sub) (j:=0) rfl) (L_nil ⟨rfl,_,_,rfl,Le.refl _,fun _ _=>rfl,Z⟩)
 refine opsS_cons (fun f w_ _ _ s _ _ Z=>mF ((s 8 rfl).trans ((hS129 8 rfl).trans sf8)) rfl (nO rfl rfl Z)) (opsS_cons (fun f w_ _ _ s _ _ Z=>mF ((s 12 rfl).trans ((hS129 12 rfl).trans sf12)) rfl (nO rfl rfl Z)) (opsS_cons (fun f w_ _ _ _ _ p Z=>L_ixO (R:=(OR.frz RP.int)) (tb:=0) 0 rfl Tryz.underlying23 Tryz.sizeOf3 (p 7 72 rfl rfl) hv135 (by first | rfl | simp) (p 8 73 rfl rfl) hix114 (nO rfl rfl Z)) (opsS_cons ?_ ?_)))
 intro f w_ H169 X169 hS169 hE169 hP169 Z
 obtain ⟨cs191,hr191,hat191⟩:=Star.eltF 2 Z rfl hv135 hix114
 obtain rfl : _ = [_]:=hr191
 refine L_ld rfl Tryz.isAgg3 (hP169 9 74 rfl rfl) (At.cell hat191 (j:=0) rfl) (L_nil ⟨rfl,_,_,rfl,Le.refl _,fun _ _=>rfl,Z⟩)
 refine opsS_cons ?_ ?_
 intro f w_ H169 X169 hS169 hE169 hP169 Z
 obtain ⟨H193b,l194,s195,z196,k197⟩:=Z.borrow
 refine L_call rfl Tryz.call70 (ops3 (hP169 1 66 rfl rfl) (hP169 6 71 rfl rfl) (hP169 10 75 rfl rfl)) (s_l7Var_c (m:=m) (cell:=x116) (value:=x_114) s195 (RP.mono _ h0_0 (Le.trans (Le.trans (Le.trans (Le.trans (Le.trans l19 l92) l113) hE129) hE169) l194)) (RP.mono _ h0_1 (Le.trans (Le.trans (Le.trans (Le.trans (Le.trans l19 l92) l113) hE129) hE169) l194)) hx160) ?_
 rintro _ w198 ⟨rfl,Z⟩
 have Z:=k197 Z c0
 exact L_nil ⟨rfl,_,_,rfl,Le.refl _,fun _ _=>rfl,Z⟩
 refine opsS_cons (fun f w_ _ _ _ _ p Z=>L_neg rfl (p 11 76 rfl rfl) (nO rfl rfl Z)) (opsS_cons ?_ ?_)
 intro f w_ H169 X169 hS169 hE169 hP169 Z
 refine L_bs rfl (parts1 (hP169 12 77 rfl rfl)) (bs_23_1_0 (I (i64 (-x160))) rfl) Z (fun g199 w200 Z=>?_)
 have Z:=Star.addF (r:=RP.int) (cs:=[I (i64 (-x160))]) (x:=(i64 (-x160))) Z rfl
 have Z:=Star.mkRow (R:=(OR.frz RP.int)) [([I (i64 (-x160))],i64 (-x160))] [i64 (-x160)] 1 Z rfl rfl rfl (by decide)
 have Z:=Z.gets [8,8,8,8,8,8,8,8] rfl
 exact L_nil ⟨rfl,_,_,rfl,Le.refl _,fun _ _=>trivial,Z⟩
 exact opsS_nil
 have Z : Star H169 w_ ([oF 3 RP.int v99 (cells_109.set (Int.toNat x116) x_114),oS 73 (oCon 122) v86_out out_86,oF 3 RP.int v88_row row_88,oF 3 RP.int v110_lits lits_110,oF 3 RP.int v16_g12_0 g12_0_16,box g12 26 #[v16_g12_0,S0],box g7 79 #[I r_.kind,v1_1,v1_2,I r_.bound,v1_4],box g5 26 #[v0_0,v0_1],oF 3 RP.int (f 78) ([i64 (-x160)])]):=Z
 have Z:=Z.gets [8,4] rfl
 refine L_appM (v:=v110_lits) (u:=(f 78)) rfl et_23 (hT169 0 65 rfl rfl) rfl Z hx165 (fun v203 w204 Z=>aV v203 rfl (nn (W_region (mF ((hS169 12 rfl).trans ((hS129 12 rfl).trans sf12)) rfl (L_add rfl rfl rfl (aI rfl (nn ?_)))))))
 obtain rfl:=so hB114
 have Z:=Z.gets [7,7,7,7,4,5,7,7] rfl
 show ∃ m,m < _∧I114 m _ _
 refine ⟨rest114.length,by simp,?_⟩
 exact ij hI114 ⟨i_108 + 1,rest114,(cells_109.set (Int.toNat x116) x_114),x165,H169,v203,rfl,drop_next hd114,by simp at hl114; omega,hL114,(Le.trans (Le.trans l113 hE129) hE169),((hS169 2 rfl).trans ((hS129 2 rfl).trans sf2)),((hS169 3 rfl).trans ((hS129 3 rfl).trans sf3)),((hS169 5 rfl).trans ((hS129 5 rfl).trans sf5)),((hS169 7 rfl).trans ((hS129 7 rfl).trans sf7)),((hS169 8 rfl).trans ((hS129 8 rfl).trans sf8)),((hS169 10 rfl).trans ((hS129 10 rfl).trans sf10)),rfl,(Eq.trans rfl (congrArg (Value.int .i64) (i64_succ (n:=row_88.length) (by simp at hl114; omega) hlen114))),Z⟩
 rcases suf114 with _ | ⟨_,_⟩
 obtain rfl:=range_nil hL114
 refine W_exit (rj hR114 ⟨cells_109,lits_110,H112,v110_lits,rfl,l113,sf2,sf3,sf5,sf7,sf8,sf10,sf11,Z⟩)
 exact absurd (of_decide_eq_false hc115) (by simp at hl114; omega)
 intro f w_ hR
 obtain ⟨cells_109,lits_110,H112,v110_lits,rfl,l113,sf2,sf3,sf5,sf7,sf8,sf10,sf11,Z⟩:=rk hR114 hR
 refine W_seq (W_seq ?_)
 obtain ⟨x212,hx212,hB93⟩:=bind_some hB93
 refine W_region (L_lda (cs:=[I r_.kind,v1_1,v1_2,I r_.bound,v1_4]) rfl Tryz.isAgg79 Tryz.sizeOf79 sf3 (At.sub0 (Blk.at (Star.blkAt 6 Z rfl)) 0 5) rfl (mF sf10 rfl ?_))
 obtain ⟨H214b,l215,s216,z217,k218⟩:=Z.borrow
 have hb219 : (rS 3 RP.int).rel H214b [v99] cells_109:=fz_own 2 z217 rfl
 refine L_call rfl Tryz.call155 (ops2 rfl rfl) (s_l6Holds_c (r_:=r_) (cells:=cells_109) s216 (RP.mono _ h1_1 (Le.trans (Le.trans (Le.trans l19 l92) l113) l215)) (RP.mono _ h1_2 (Le.trans (Le.trans (Le.trans l19 l92) l113) l215)) (RP.mono _ h1_4 (Le.trans (Le.trans (Le.trans l19 l92) l113) l215)) hb219 hx212) ?_
 rintro _ w220 ⟨rfl,Z⟩
 have Z:=k218 Z c0
 refine L_not_ rfl rfl (nn ?_)
 obtain ⟨out_221,hA223,hB93⟩:=bind_some hB93
 obtain ⟨R223,hR223⟩:=exR fun f w_=>∃ v221_out : Value,f 2 = Pt g5∧f 3 = Pt g7∧f 5 = Pt g12∧f 7 = v221_out∧f 8 = v88_row∧Star H112 w_ ([oS 73 (oCon 122) v221_out out_221,oF 3 RP.int v88_row row_88,oF 3 RP.int v16_g12_0 g12_0_16,box g12 26 #[v16_g12_0,S0],box g7 79 #[I r_.kind,v1_1,v1_2,I r_.bound,v1_4],box g5 26 #[v0_0,v0_1]])
 refine W_join R223 ?_ ?_
 refine W_cond (b:=(!x212)) rfl (fun hc224=>?_) (fun hc224=>?_)
 have hA223:=(ite_t hc224).symm.trans hA223
 refine W_seq ?_
 obtain ⟨x231,hx231,hA223⟩:=bind_some hA223
 refine W_region (mF sf11 rfl ?_)
 obtain ⟨H237b,l238,s239,z240,k241⟩:=Z.borrow
 have hb242 : (rS 3 RP.int).rel H237b [v110_lits] lits_110:=fz_own 3 z240 rfl
 refine L_call rfl Tryz.call107 (ops1 rfl) (s_ClauseOf_c (lits:=lits_110) s239 hb242 hx231) ?_
 rintro _ w243 ⟨r243_0,rfl,Z⟩
 have Z:=k241 Z (co closed_term c0)
 refine mV (.tuple #[.agg #[r243_0,I x231.1.bound],Bo x231.2]) rfl (L_ex (v:=.agg #[r243_0,I x231.1.bound]) rfl rfl rfl (L_ex (v:=Bo x231.2) rfl rfl rfl (L_al (cs:=#[S0,I 0]) rfl Tryz.zeroValue73 rfl Z (fun g245 w246 Z=>L_staB (vs:=#[r243_0,I x231.1.bound]) (cs2:=#[r243_0,I x231.1.bound]) 0 rfl Tryz.sizeOf73 rfl rfl rfl (ones_cons (one_len (Star.len 1 Z rfl)) (ones_cons rfl ones_nil)) Z rfl (by show 0 + 2≤2; decide) rfl (fun w247 Z=>aB rfl (nn ?_))))))
 obtain ⟨x251,hx251,hA223⟩:=bind_some hA223
 refine W_region (mF sf7 rfl (L_lda (cs:=[r243_0,I x231.1.bound]) rfl Tryz.isAgg73 Tryz.sizeOf73 rfl (At.sub0 (Blk.at (Star.blkAt 0 Z rfl)) 0 2) rfl (L_bs rfl (parts1 rfl) (bs_28_1_2 (r243_0) (I x231.1.bound) ) Z (fun g255 w256 Z=>?_))))
 have Z:=Z.get 2 rfl
 have Z:=oCon_close (c:=x231.1) Z
 have Z:=Star.mkRow (R:=(oCon 122)) [([r243_0,I x231.1.bound],x231.1)] [x231.1] 1 Z rfl rfl rfl (by decide)
 have Z:=Z.get 2 rfl
 refine L_appM (v:=v86_out) (u:=(Sl g255 1 1)) rfl et_28 rfl rfl Z hx251 (fun v258 w259 Z=>aV v258 rfl (nn ?_))
 obtain rfl:=so hA223
 have Z:=Z.gets [8,8,8,8,6,5] rfl
 exact rj hR223 ⟨v258,sf2,sf3,sf5,rfl,sf8,(Star.keepN 6 Z)⟩
 have hA223:=(ite_f hc224).symm.trans hA223
 refine W_skip ?_
 obtain rfl:=so hA223
 have Z:=Z.gets [7,7,7,7,5,5] rfl
 exact rj hR223 ⟨v86_out,sf2,sf3,sf5,sf7,sf8,(Star.keepN 6 Z)⟩
 intro f w_ hR
 obtain ⟨v221_out,sf2,sf3,sf5,sf7,sf8,Z⟩:=rk hR223 hR
 obtain ⟨x268,hx268,hB93⟩:=bind_some hB93
 refine W_region (L_lda (cs:=[v16_g12_0,S0]) rfl Tryz.isAgg26 Tryz.sizeOf26 sf5 (At.sub0 (Blk.at (Star.blkAt 3 Z rfl)) 0 2) rfl (mF sf8 rfl ?_))
 obtain ⟨H271b,l272,s273,z274,k275⟩:=Z.borrow
 have hb276 : (rS 3 RP.int).rel H271b [v16_g12_0] g12_0_16:=fz_own 2 z274 rfl
 have hb277 : (rS 3 RP.int).rel H271b [v88_row] row_88:=fz_own 1 z274 rfl
 refine L_call rfl Tryz.call156 (ops2 rfl rfl) (s_l6Next_c (m:=({ sizes:=g12_0_16,rules:=[] } : Model)) (cells:=row_88) s273 hb276 (rel_nil _ _ _) hb277 hx268) ?_
 rintro _ w278 ⟨r278_0,rfl,Z⟩
 have Z:=k275 Z (co closed_int c0)
 refine mV (.tuple #[r278_0,Bo x268.2]) rfl (L_ex (v:=r278_0) rfl rfl rfl (L_ex (v:=Bo x268.2) rfl rfl rfl (aV r278_0 rfl (aB rfl (nn ?_)))))
 obtain rfl:=so hB93
 have Z:=Z.gets [6,6,6,6,4,5] rfl
 show ∃ m,m < _∧I93 m _ _
 refine ⟨n93,Nat.lt_succ_self _,?_⟩
 exact ij hI93 ⟨out_221,x268.1,x268.2,H112,v221_out,r278_0,hL93,(Le.trans l92 l113),sf2,sf3,sf5,sf7,rfl,rfl,(Star.keepN 6 Z)⟩
 have hB93:=(ite_f hc94).symm.trans hB93
 refine W_exit ?_
 obtain rfl:=so hB93
 obtain rfl:=so hL93
 exact rj hR93 ⟨out_86,row_88,more_90,H91,v86_out,rfl,l92,sf7,(Star.keepN 1 Z)⟩
 intro f w_ hR
 obtain ⟨out_86,row_88,more_90,H91,v86_out,rfl,l92,sf7,Z⟩:=rk hR93 hR
 refine sq (mF sf7 rfl (aV v86_out rfl (nn (W_ret (retG1 (v1:=v86_out) Tryz.results111 rfl ?_)))))
 obtain rfl:=so hF
 exact ⟨v86_out,rfl,(Star.down Z (Le.trans l19 l92) (co closed_oCon c0))⟩
theorem s_l7Rule_c {fu : Nat} {m : Model} {r_ : Rule} {v0_0 : Value} {v0_1 : Value} {v1_1 : Value} {v1_2 : Value} {v1_4 : Value} {H : FH} {w : World} (Z : Star H w []) (h0_0 : (rS 3 RP.int).rel H [v0_0] m.sizes) (h0_1 : (rS 79 (rRule 3 23)).rel H [v0_1] m.rules) (h1_1 : (rS 3 RP.int).rel H [v1_1] r_.vars) (h1_2 : (rS 3 RP.int).rel H [v1_2] r_.coefs) (h1_4 : (rS 23 (rS 3 RP.int)).rel H [v1_4] r_.rows) {r : List Con} (hF : s_l7Rule fu m r_ = some r) :
 C Tryz.prog 53 #[.agg #[v0_0,v0_1],.agg #[I r_.kind,v1_1,v1_2,I r_.bound,v1_4]] w fun v w'=>∃ (u1 : Value),v = u1∧Star H w' [oS 73 (oCon 122) u1 r]:=by
 unfold s_l7Rule at hF
 refine C_enter Tryz.func53 rfl Tryz.ntmps53 rfl (sq (L_box (v:=.agg #[v0_0,v0_1]) (cs:=#[v0_0,v0_1]) rfl rfl rfl Z (fun g5 w6 Z=>L_box (v:=.agg #[I r_.kind,v1_1,v1_2,I r_.bound,v1_4]) (cs:=#[I r_.kind,v1_1,v1_2,I r_.bound,v1_4]) rfl rfl rfl Z (fun g7 w8 Z=>aV S0 rfl (nq (sq (fA 0 fa_79_0 rfl rfl (ldB 0 Z Tryz.isAgg3 rfl rfl rfl (nn (W_block (sq (L_eql rfl rfl rfl (aB rfl (nn (W_cond (b:=(r_.kind == 1)) rfl (fun hc9=>?_) (fun hc9=>?_))))))))))))))))
 have hF:=(ite_t hc9).symm.trans hF
 refine W_seq ?_
 obtain ⟨x15,hx15,hF⟩:=bind_some hF
 refine W_region (L_lda (cs:=[v0_0,v0_1]) rfl Tryz.isAgg26 Tryz.sizeOf26 rfl (At.sub0 (Blk.at (Star.blkAt 1 Z rfl)) 0 2) rfl (L_lda (cs:=[I r_.kind,v1_1,v1_2,I r_.bound,v1_4]) rfl Tryz.isAgg79 Tryz.sizeOf79 rfl (At.sub0 (Blk.at (Star.blkAt 0 Z rfl)) 0 5) rfl ?_))
 obtain ⟨H18b,l19,s20,z21,k22⟩:=Z.borrow
 refine L_call rfl Tryz.call109 (ops2 rfl rfl) (s_l7Linear_c (m:=m) (r_:=r_) s20 (RP.mono _ h0_0 l19) (RP.mono _ h0_1 l19) (RP.mono _ h1_1 l19) (RP.mono _ h1_2 l19) (RP.mono _ h1_4 l19) hx15) ?_
 rintro r23_0 w23 ⟨_,rfl,Z⟩
 have Z:=k22 Z (co closed_oCon c0)
 refine aV r23_0 rfl (nn (W_ret (retG1 (v1:=r23_0) Tryz.results53 rfl ?_)))
 obtain rfl:=so hF
 exact ⟨r23_0,rfl,(Star.keepN 1 Z)⟩
 have hF:=(ite_f hc9).symm.trans hF
 refine sq (L_eql rfl rfl rfl (aB rfl (nn (W_cond (b:=(r_.kind == 2)) rfl (fun hc25=>?_) (fun hc25=>?_)))))
 have hF:=(ite_t hc25).symm.trans hF
 refine W_seq ?_
 obtain ⟨x31,hx31,hF⟩:=bind_some hF
 refine W_region (L_lda (cs:=[v0_0,v0_1]) rfl Tryz.isAgg26 Tryz.sizeOf26 rfl (At.sub0 (Blk.at (Star.blkAt 1 Z rfl)) 0 2) rfl (L_lda (cs:=[I r_.kind,v1_1,v1_2,I r_.bound,v1_4]) rfl Tryz.isAgg79 Tryz.sizeOf79 rfl (At.sub0 (Blk.at (Star.blkAt 0 Z rfl)) 0 5) rfl ?_))
 obtain ⟨H34b,l35,s36,z37,k38⟩:=Z.borrow
 refine L_call rfl Tryz.call110 (ops2 rfl rfl) (s_l7Different_c (m:=m) (r_:=r_) s36 (RP.mono _ h0_0 l35) (RP.mono _ h0_1 l35) (RP.mono _ h1_1 l35) (RP.mono _ h1_2 l35) (RP.mono _ h1_4 l35) hx31) ?_
 rintro r39_0 w39 ⟨_,rfl,Z⟩
 have Z:=k38 Z (co closed_oCon c0)
 refine aV r39_0 rfl (nn (W_ret (retG1 (v1:=r39_0) Tryz.results53 rfl ?_)))
 obtain rfl:=so hF
 exact ⟨r39_0,rfl,(Star.keepN 1 Z)⟩
 have hF:=(ite_f hc25).symm.trans hF
 refine W_skip (W_seq ?_)
 obtain ⟨x46,hx46,hF⟩:=bind_some hF
 refine W_region (L_lda (cs:=[v0_0,v0_1]) rfl Tryz.isAgg26 Tryz.sizeOf26 rfl (At.sub0 (Blk.at (Star.blkAt 1 Z rfl)) 0 2) rfl (L_lda (cs:=[I r_.kind,v1_1,v1_2,I r_.bound,v1_4]) rfl Tryz.isAgg79 Tryz.sizeOf79 rfl (At.sub0 (Blk.at (Star.blkAt 0 Z rfl)) 0 5) rfl ?_))
 obtain ⟨H49b,l50,s51,z52,k53⟩:=Z.borrow
 refine L_call rfl Tryz.call111 (ops2 rfl rfl) (s_l7Forbid_c (m:=m) (r_:=r_) s51 (RP.mono _ h0_0 l50) (RP.mono _ h0_1 l50) (RP.mono _ h1_1 l50) (RP.mono _ h1_2 l50) (RP.mono _ h1_4 l50) hx46) ?_
 rintro r54_0 w54 ⟨_,rfl,Z⟩
 have Z:=k53 Z (co closed_oCon c0)
 refine aV r54_0 rfl (nn (W_ret (retG1 (v1:=r54_0) Tryz.results53 rfl ?_)))
 obtain rfl:=so hF
 exact ⟨r54_0,rfl,(Star.keepN 1 Z)⟩
theorem s_EncodeModel_c {fu : Nat} {m : Model} {v0_0 : Value} {v0_1 : Value} {H : FH} {w : World} (Z : Star H w []) (h0_0 : (rS 3 RP.int).rel H [v0_0] m.sizes) (h0_1 : (rS 79 (rRule 3 23)).rel H [v0_1] m.rules) {r : (List Con) × Bool} (hF : s_EncodeModel fu m = some r) :
 C Tryz.prog 14 #[.agg #[v0_0,v0_1]] w fun v w'=>∃ (u1 : Value),v = .tuple #[u1,Bo r.2]∧Star H w' [oS 73 (oCon 122) u1 r.1]:=by
 unfold s_EncodeModel at hF
 refine C_enter Tryz.func14 rfl Tryz.ntmps14 rfl (sq (L_box (v:=.agg #[v0_0,v0_1]) (cs:=#[v0_0,v0_1]) rfl rfl rfl Z (fun g3 w4 Z=>aV S0 rfl (aB rfl (nq (W_seq ?_))))))
 obtain ⟨x10,hx10,hF⟩:=bind_some hF
 refine W_region (L_lda (cs:=[v0_0,v0_1]) rfl Tryz.isAgg26 Tryz.sizeOf26 rfl (At.sub0 (Blk.at (Star.blkAt 0 Z rfl)) 0 2) rfl ?_)
 obtain ⟨H12b,l13,s14,z15,k16⟩:=Z.borrow
 refine L_call rfl Tryz.call51 (ops1 rfl) (s_ModelValid_c (m:=m) s14 (RP.mono _ h0_0 l13) (RP.mono _ h0_1 l13) hx10) ?_
 rintro _ w17 ⟨rfl,Z⟩
 have Z:=k16 Z c0
 refine L_not_ rfl rfl (nn (W_cond (b:=(!x10)) rfl (fun hc18=>?_) (fun hc18=>?_)))
 have hF:=(ite_t hc18).symm.trans hF
 refine sq (L_bs rfl parts0 (bs_28_0  ) Z (fun g22 w23 Z=>?_))
 have Z:=Star.mkRow (R:=(OR.frz (rCon 122))) [] [] 0 Z rfl rfl rfl (by decide)
 refine aV (Sl g22 0 0) rfl (aB rfl (nn (W_ret (retG2 (v1:=(Sl g22 0 0)) (v2:=Bo false) Tryz.results14 rfl rfl ?_))))
 obtain rfl:=so hF
 have Z:=Star.recast (R:=(OR.frz (rCon 122))) (R':=(oCon 122)) rfl Z
 exact ⟨(Sl g22 0 0),rfl,(Star.keepN 1 Z)⟩
 have hF:=(ite_f hc18).symm.trans hF
 refine W_skip (sq (L_bs rfl parts0 (bs_28_0  ) Z (fun g28 w29 Z=>?_)))
 have Z:=Star.mkRow (R:=(OR.frz (rCon 122))) [] [] 0 Z rfl rfl rfl (by decide)
 refine aV (Sl g28 0 0) rfl (nq (sq (aI rfl (nn ?_))))
 have hlen34 : List.length m.sizes≤9223372036854775807:=len_le (slice_len h0_0)
 obtain ⟨j34,hL34,hF⟩:=bind_some hF
 obtain ⟨R34,hR34⟩:=exR fun f w_=>∃ out_32 : List Con,∃ v32_out : Value,j34 = .nx out_32∧f 1 = Pt g3∧f 4 = v32_out∧Star H w_ ([oS 73 (oCon 122) v32_out out_32,box g3 26 #[v0_0,v0_1]])
 refine W_join R34 ?_ ?_
 refine W_block ?_
 obtain ⟨I34,hI34⟩:=exI fun n f w_=>∃ i_31 : Nat,∃ suf34 : List Int,∃ out_32 : List Con,∃ v32_out : Value,n = suf34.length∧List.drop i_31 m.sizes = suf34∧i_31 + suf34.length = m.sizes.length∧rangeL (s_EncodeModel_b1 m) suf34 i_31 out_32 = some j34∧f 1 = Pt g3∧f 4 = v32_out∧f 5 = I i_31∧Star H w_ ([oS 73 (oCon 122) v32_out out_32,box g3 26 #[v0_0,v0_1]])
 have Z:=Star.recast (R:=(OR.frz (rCon 122))) (R':=(oCon 122)) rfl Z
 refine W_loop I34 (n:=m.sizes.length) ?_ ?_
 exact ij hI34 ⟨0,m.sizes,[],(Sl g28 0 0),rfl,rfl,Nat.zero_add _,hL34,rfl,rfl,rfl,Z⟩
 intro n34 f w_ hI
 obtain ⟨i_31,suf34,out_32,v32_out,rfl,hd34,hl34,hL34,sf1,sf4,sf5,Z⟩:=ik hI34 hI
 refine W_seq (sq (mF sf5 rfl (fA 0 fa_26_0 sf1 rfl (ldB 1 Z Tryz.isAgg23 rfl rfl rfl (L_len rfl Tryz.underlying23 rfl (slice_len h0_0) (L_lss rfl rfl rfl (nn (W_cond (b:=decide ((i_31 : Int) < (m.sizes.length : Int))) rfl (fun hc35=>?_) (fun hc35=>?_)))))))))
 have hlt34:=of_decide_eq_true hc35
 rcases suf34 with _ | ⟨x_34,rest34⟩
 exact absurd hlt34 (by simp at hl34; omega)
 obtain ⟨o34,hB34,hL34⟩:=range_cons hL34
 rw [s_EncodeModel_b1] at hB34
 have hix34:=drop_idx hd34
 refine W_skip (W_seq (W_block ?_))
 obtain ⟨x41,hx41,hB34⟩:=bind_some hB34
 obtain ⟨x44,hx44,hB34⟩:=bind_some hB34
 refine W_region (mF sf4 rfl (L_lda (cs:=[v0_0,v0_1]) rfl Tryz.isAgg26 Tryz.sizeOf26 sf1 (At.sub0 (Blk.at (Star.blkAt 1 Z rfl)) 0 2) rfl (mF sf5 rfl ?_)))
 obtain ⟨H48b,l49,s50,z51,k52⟩:=Z.borrow
 refine L_call rfl Tryz.call52 (ops2 rfl rfl) (s_l7Cell_c (m:=m) (cell:=(i_31 : Int)) s50 (RP.mono _ h0_0 l49) (RP.mono _ h0_1 l49) hx41) ?_
 rintro r53_0 w53 ⟨_,rfl,Z⟩
 have Z:=k52 Z (co closed_oCon c0)
 have Z:=Z.get 1 rfl
 refine L_appM (v:=v32_out) (u:=r53_0) rfl et_28 rfl rfl Z hx44 (fun v55 w56 Z=>aV v55 rfl (nn (W_region (mF sf5 rfl (L_add rfl rfl rfl (aI rfl (nn ?_)))))))
 obtain rfl:=so hB34
 show ∃ m,m < _∧I34 m _ _
 refine ⟨rest34.length,by simp,?_⟩
 exact ij hI34 ⟨i_31 + 1,rest34,x44,v55,rfl,drop_next hd34,by simp at hl34; omega,hL34,sf1,rfl,(Eq.trans rfl (congrArg (Value.int .i64) (i64_succ (n:=m.sizes.length) (by simp at hl34; omega) hlen34))),Z⟩
 rcases suf34 with _ | ⟨_,_⟩
 obtain rfl:=range_nil hL34
 refine W_exit (rj hR34 ⟨out_32,v32_out,rfl,sf1,sf4,Z⟩)
 exact absurd (of_decide_eq_false hc35) (by simp at hl34; omega)
 intro f w_ hR
 obtain ⟨out_32,v32_out,rfl,sf1,sf4,Z⟩:=rk hR34 hR
 refine W_seq (sq (aI rfl (nn ?_)))
 have hlen63 : List.length m.rules≤9223372036854775807:=len_le (slice_len h0_1)
 obtain ⟨j63,hL63,hF⟩:=bind_some hF
 obtain ⟨R63,hR63⟩:=exR fun f w_=>∃ out_59 : List Con,∃ H61 : FH,∃ v59_out : Value,j63 = .nx out_59∧Le H H61∧f 4 = v59_out∧Star H61 w_ ([oS 73 (oCon 122) v59_out out_59])
 refine W_join R63 ?_ ?_
 refine W_block ?_
 obtain ⟨I63,hI63⟩:=exI fun n f w_=>∃ i_58 : Nat,∃ suf63 : List Rule,∃ out_59 : List Con,∃ H61 : FH,∃ v59_out : Value,n = suf63.length∧List.drop i_58 m.rules = suf63∧i_58 + suf63.length = m.rules.length∧rangeL (s_EncodeModel_b2 fu m) suf63 i_58 out_59 = some j63∧Le H H61∧f 1 = Pt g3∧f 4 = v59_out∧f 6 = I i_58∧Star H61 w_ ([oS 73 (oCon 122) v59_out out_59,box g3 26 #[v0_0,v0_1]])
 refine W_loop I63 (n:=m.rules.length) ?_ ?_
 exact ij hI63 ⟨0,m.rules,out_32,H,v32_out,rfl,rfl,Nat.zero_add _,hL63,(Le.refl _),sf1,sf4,rfl,Z⟩
 intro n63 f w_ hI
 obtain ⟨i_58,suf63,out_59,H61,v59_out,rfl,hd63,hl63,hL63,l62,sf1,sf4,sf6,Z⟩:=ik hI63 hI
 refine W_seq (sq (mF sf6 rfl (fA 1 fa_26_1 sf1 rfl (ldB 1 Z Tryz.isAgg24 rfl rfl rfl (L_len rfl Tryz.underlying24 rfl (slice_len (RP.mono _ h0_1 l62)) (L_lss rfl rfl rfl (nn (W_cond (b:=decide ((i_58 : Int) < (m.rules.length : Int))) rfl (fun hc64=>?_) (fun hc64=>?_)))))))))
 have hlt63:=of_decide_eq_true hc64
 rcases suf63 with _ | ⟨x_63,rest63⟩
 exact absurd hlt63 (by simp at hl63; omega)
 obtain ⟨o63,hB63,hL63⟩:=range_cons hL63
 rw [s_EncodeModel_b2] at hB63
 have hix63:=drop_idx hd63
 refine W_skip (W_seq (W_block ?_))
 obtain ⟨x74,hx74,hB63⟩:=bind_some hB63
 obtain ⟨x77,hx77,hB63⟩:=bind_some hB63
 refine W_drawS 8 [isV (v59_out),isV (.agg #[v0_0,v0_1]),isV (Pq g3 1),isV (v0_1),isV (I i_58),isEl (rRule 3 23) x_63 0,exD (isData (rS 3 RP.int) x_63.vars) fun u_1=>exD (isData (rS 3 RP.int) x_63.coefs) fun u_2=>exD (isData (rS 23 (rS 3 RP.int)) x_63.rows) fun u_4=>isV (.agg #[I x_63.kind,u_1,u_2,I x_63.bound,u_4]),anyF] [oS 73 (oCon 122) v59_out out_59,box g3 26 #[v0_0,v0_1]] [.made 7 38 (fun v_=>oS 73 (oCon 122) v_ x74) none] ([]) [([],[]),([],[]),([],[]),([],[]),([],[]),([],[]),([],[]),([],[0])] (S:=[(some 7,[38],none)]) Tryz_mix (by kernel_rfl) rfl (by kernel_rfl) (amF_cons (mono_V _) (amF_cons (mono_V _) (amF_cons (mono_V _) (amF_cons (mono_V _) (amF_cons (mono_V _) (amF_cons (mono_el _ _ _) (amF_cons (mono_exD (mono_data _ _) fun _=>mono_exD (mono_data _ _) fun _=>mono_exD (mono_data _ _) fun _=>mono_V _) (amF_cons (mono_any) amF_nil)))))))) Z ?_ (fun f w_ H81 hS81 hE81 hT81 Z=>?_)
 refine opsS_cons (fun f w_ _ _ s _ _ Z=>mF ((s 4 rfl).trans sf4) rfl (nO rfl rfl Z)) (opsS_cons (fun f w_ _ _ s _ _ Z=>L_lda (cs:=[v0_0,v0_1]) rfl Tryz.isAgg26 Tryz.sizeOf26 ((s 1 rfl).trans sf1) (At.sub0 (Blk.at (Star.blkAt 1 Z rfl)) 0 2) rfl (nO rfl rfl Z)) (opsS_cons (fun f w_ _ _ s _ _ Z=>fA 1 fa_26_1 ((s 1 rfl).trans sf1) rfl (nO rfl rfl Z)) (opsS_cons (fun f w_ _ _ _ _ p Z=>ldB 1 Z Tryz.isAgg24 (p 2 33 rfl rfl) rfl rfl (nO rfl rfl Z)) (opsS_cons (fun f w_ _ _ s _ _ Z=>mF ((s 6 rfl).trans sf6) rfl (nO rfl rfl Z)) (opsS_cons ?_ ?_)))))
 intro f w_ H81 X81 hS81 hE81 hP81 Z
 refine L_ix (r:=(rRule 3 23)) rfl Tryz.underlying24 Tryz.sizeOf79 (hP81 3 34 rfl rfl) (RP.mono _ h0_1 (Le.trans l62 hE81)) (hP81 4 35 rfl rfl) hix63 (fun g93 o94 cs_g93 hrk_hat95 hat95=>?_)
 obtain ⟨u96_0,u96_1,u96_2,rfl,hu96_0,hu96_1,hu96_2⟩:=rRule_iff.1 hrk_hat95
 exact L_nil ⟨rfl,_,_,rfl,Le.refl _,fun _ _=>⟨_,_,_,rfl,hrk_hat95,hat95⟩,Z⟩
 refine opsS_cons ?_ ?_
 intro f w_ H81 X81 hS81 hE81 hP81 Z
 obtain ⟨g97,o97,cs97,hv97,hrk_hat97,hat97⟩:=(hP81 5 36 rfl rfl)
 obtain ⟨u98_0,u98_1,u98_2,rfl,hu98_0,hu98_1,hu98_2⟩:=rRule_iff.1 hrk_hat97
 refine L_lda (cs:=[I x_63.kind,u98_0,u98_1,I x_63.bound,u98_2]) rfl Tryz.isAgg79 Tryz.sizeOf79 hv97 (At.sub (AtH.at hat97 Z.sub) 0 5) rfl (L_nil ⟨rfl,_,_,rfl,Le.refl _,fun _ _=>⟨_,hu98_0,_,hu98_1,_,hu98_2,rfl⟩,Z⟩)
 refine opsS_cons ?_ ?_
 intro f w_ H81 X81 hS81 hE81 hP81 Z
 obtain ⟨u99_1,hu99_1,u99_2,hu99_2,u99_4,hu99_4,hv99⟩:=(hP81 6 37 rfl rfl)
 obtain ⟨H100b,l101,s102,z103,k104⟩:=Z.borrow
 refine L_call rfl Tryz.call53 (ops2 (hP81 1 32 rfl rfl) hv99) (s_l7Rule_c (m:=m) (r_:=x_63) s102 (RP.mono _ h0_0 (Le.trans (Le.trans l62 hE81) l101)) (RP.mono _ h0_1 (Le.trans (Le.trans l62 hE81) l101)) (RP.mono _ hu99_1 l101) (RP.mono _ hu99_2 l101) (RP.mono _ hu99_4 l101) hx74) ?_
 rintro r105_0 w105 ⟨_,rfl,Z⟩
 have Z:=k104 Z (co closed_oCon c0)
 have Z:=Z.gets [2,2] rfl
 exact L_nil ⟨rfl,_,_,rfl,Le.refl _,fun _ _=>trivial,Z⟩
 exact opsS_nil
 have Z : Star H81 w_ ([oS 73 (oCon 122) v59_out out_59,box g3 26 #[v0_0,v0_1],oS 73 (oCon 122) (f 38) x74]):=Z
 have Z:=Z.gets [2,1] rfl
 refine L_appM (v:=v59_out) (u:=(f 38)) rfl et_28 (hT81 0 31 rfl rfl) rfl Z hx77 (fun v108 w109 Z=>aV v108 rfl (nn (W_region (mF ((hS81 6 rfl).trans sf6) rfl (L_add rfl rfl rfl (aI rfl (nn ?_)))))))
 obtain rfl:=so hB63
 show ∃ m,m < _∧I63 m _ _
 refine ⟨rest63.length,by simp,?_⟩
 exact ij hI63 ⟨i_58 + 1,rest63,x77,H81,v108,rfl,drop_next hd63,by simp at hl63; omega,hL63,(Le.trans l62 hE81),((hS81 1 rfl).trans sf1),rfl,(Eq.trans rfl (congrArg (Value.int .i64) (i64_succ (n:=m.rules.length) (by simp at hl63; omega) hlen63))),Z⟩
 rcases suf63 with _ | ⟨_,_⟩
 obtain rfl:=range_nil hL63
 refine W_exit (rj hR63 ⟨out_59,H61,v59_out,rfl,l62,sf4,(Star.keepN 1 Z)⟩)
 exact absurd (of_decide_eq_false hc64) (by simp at hl63; omega)
 intro f w_ hR
 obtain ⟨out_59,H61,v59_out,rfl,l62,sf4,Z⟩:=rk hR63 hR
 refine W_seq (sq (mF sf4 rfl (L_len rfl Tryz.underlying28 rfl (Star.len 0 Z rfl) (L_gtr rfl rfl rfl (nn (W_cond (b:=decide ((out_59.length : Int) > 400)) rfl (fun hc111=>?_) (fun hc111=>?_)))))))
 have hF:=(ite_t hc111).symm.trans hF
 refine sq (L_bs rfl parts0 (bs_28_0  ) Z (fun g115 w116 Z=>?_))
 have Z:=Star.mkRow (R:=(OR.frz (rCon 122))) [] [] 0 Z rfl rfl rfl (by decide)
 refine aV (Sl g115 0 0) rfl (aB rfl (nn (W_ret (retG2 (v1:=(Sl g115 0 0)) (v2:=Bo false) Tryz.results14 rfl rfl ?_))))
 obtain rfl:=so hF
 have Z:=Star.recast (R:=(OR.frz (rCon 122))) (R':=(oCon 122)) rfl Z
 exact ⟨(Sl g115 0 0),rfl,(Star.down (Star.keepN 1 Z) l62 (co closed_oCon c0))⟩
 have hF:=(ite_f hc111).symm.trans hF
 refine W_skip (sq (mF sf4 rfl (aV v59_out rfl (aB rfl (nn (W_ret (retG2 (v1:=v59_out) (v2:=Bo true) Tryz.results14 rfl rfl ?_)))))))
 obtain rfl:=so hF
 exact ⟨v59_out,rfl,(Star.down Z l62 (co closed_oCon c0))⟩
end Go.Proofs.YtbjllamkfmejlaaGreat

/- Part of a proof by program: W2. -/
import Derived.Test.YteeilbddjlpiaaaD1
import Derived.Test.YteeilbddjlpiaaaW1
namespace Go.Proofs.Yteeilbddjlpiaaa
open Go Go.E Go.L Go.RowKit
set_option linter.unusedVariables false
set_option linter.unusedSimpArgs false
set_option maxRecDepth 100000
theorem slices_Compact_int_c {s : List Int} {v0 : Value} {H : FH} {w : World} {R : List Ass} (hst : Star H w R) (h0 : (rS 3 RP.int).rel H [v0] s) {r : List Int} (hF : slices_Compact_int s = some r) :
 C Try.prog 94 #[v0] w fun v w'=>∃ H' : FH,Le H H'∧∃ (u1 : Value),v = u1∧(rS 3 RP.int).rel H' [u1] r∧Star H' w' (R):=by
 unfold slices_Compact_int at hF
 refine C_enter Try.func94 rfl Try.ntmps94 rfl (sq (aV S0 rfl (nq (sq (mV v0 rfl (L_len rfl Try.underlying65 rfl (slice_len h0) (L_lss rfl rfl rfl (nn (W_cond (b:=decide ((s.length : Int) < 2)) rfl (fun hc1=>?_) (fun hc1=>?_))))))))))
 have hF:=(ite_t hc1).symm.trans hF
 refine sq (mV v0 rfl (aV v0 rfl (nn (W_ret (retG1 (v1:=v0) Try.results94 rfl ?_)))))
 obtain rfl:=so hF
 exact ⟨H,(Le.refl _),v0,rfl,h0,hst⟩
 have hF:=(ite_f hc1).symm.trans hF
 refine W_skip (W_seq (sq (aI rfl (nn ?_))))
 obtain ⟨k6,hk6,hF⟩:=bind_some hF
 obtain ⟨j5,hL5,hF⟩:=bind_some hF
 obtain ⟨R5,hR5⟩:=exR fun f w_=>∃ H3 : FH,j5 = .nx ()∧Le H H3∧f 0 = v0∧Star H3 w_ (R)
 refine W_join R5 ?_ ?_
 refine W_block ?_
 obtain ⟨I5,hI5⟩:=exI fun n f w_=>∃ i_2 : Nat,∃ suf5 : Nat,∃ H3 : FH,suf5 = n∧1≤i_2∧i_2 + suf5 = 1 + k6∧countL (slices_Compact_int_b1 s) suf5 i_2 () = some j5∧Le H H3∧f 0 = v0∧f 3 = I i_2∧Star H3 w_ (R)
 refine W_loop I5 (n:=k6) ?_ ?_
 exact ij hI5 ⟨1,k6,H,rfl,Nat.le_refl _,rfl,hL5,(Le.refl _),rfl,rfl,hst⟩
 intro n5 f w_ hI
 obtain ⟨i_2,suf5,H3,rfl,hs5,hl5,hL5,l4,sf0,sf3,hst⟩:=ik hI5 hI
 refine W_seq (sq (mF sf3 rfl (mF sf0 rfl (L_len rfl Try.underlying65 rfl (slice_len (RP.mono _ h0 l4)) (L_lss rfl rfl rfl (nn (W_cond (b:=decide ((i_2 : Int) < (s.length : Int))) rfl (fun hc7=>?_) (fun hc7=>?_))))))))
 have hlt5:=of_decide_eq_true hc7
 rcases suf5 with _ | rest5
 exact absurd hlt5 (cntF_no hl5 hk6)
 obtain ⟨o5,hB5,hL5⟩:=count_succ hL5
 rw [slices_Compact_int_b1] at hB5
 refine W_skip (W_seq (W_block (W_seq ?_)))
 obtain ⟨x8,hx8,hB5⟩:=bind_some hB5
 obtain ⟨x13,hx13,hB5⟩:=bind_some hB5
 refine W_drawS 9 [isV (v0),isV (I i_2),isEl RP.int x8 0,isV (I x8),isV (v0),isV (I i_2),isV (I (i64 ((i_2 : Int) - 1))),isEl RP.int x13 0,isV (I x13)] [] [] (R) [([],[]),([],[]),([],[]),([],[]),([],[]),([],[]),([],[]),([],[]),([],[])] (S:=[]) Try_mix (by kernel_rfl) rfl (by kernel_rfl) (amF_cons (mono_V _) (amF_cons (mono_V _) (amF_cons (mono_el _ _ _) (amF_cons (mono_V _) (amF_cons (mono_V _) (amF_cons (mono_V _) (amF_cons (mono_V _) (amF_cons (mono_el _ _ _) (amF_cons (mono_V _) amF_nil))))))))) hst ?_ (fun f w_ H18 hS18 hE18 hT18 hst=>?_)
 refine opsS_cons (fun f w_ _ _ s _ _ hst=>mF ((s 0 rfl).trans sf0) rfl (nO rfl rfl hst)) (opsS_cons (fun f w_ _ _ s _ _ hst=>mF ((s 3 rfl).trans sf3) rfl (nO rfl rfl hst)) (opsS_cons ?_ ?_))
 intro f w_ H18 X18 hS18 hE18 hP18 hst
 refine L_ix (r:=RP.int) rfl Try.underlying65 Try.sizeOf3 (hP18 0 16 rfl rfl) (RP.mono _ h0 (Le.trans l4 hE18)) (hP18 1 17 rfl rfl) hx8 (fun g27 o28 cs_g27 hrk_hat29 hat29=>?_)
 obtain rfl : _ = [_]:=hrk_hat29
 exact L_nil ⟨rfl,_,_,rfl,Le.refl _,fun _ _=>⟨_,_,_,rfl,rfl,hat29⟩,hst⟩
 refine opsS_cons ?_ ?_
 intro f w_ H18 X18 hS18 hE18 hP18 hst
 obtain ⟨g31,o31,cs31,hv31,hrk_hat31,hat31⟩:=(hP18 2 18 rfl rfl)
 obtain rfl : _ = [_]:=hrk_hat31
 refine L_ld rfl Try.isAgg3 hv31 (At.cell (AtH.at hat31 hst.sub) (j:=0) rfl) (L_nil ⟨rfl,_,_,rfl,Le.refl _,fun _ _=>rfl,hst⟩)
 refine opsS_cons (fun f w_ _ _ s _ _ hst=>mF ((s 0 rfl).trans sf0) rfl (nO rfl rfl hst)) (opsS_cons (fun f w_ _ _ s _ _ hst=>mF ((s 3 rfl).trans sf3) rfl (nO rfl rfl hst)) (opsS_cons (fun f w_ _ _ _ _ p hst=>L_sub rfl (p 5 21 rfl rfl) rfl (nO rfl rfl hst)) (opsS_cons ?_ ?_)))
 intro f w_ H18 X18 hS18 hE18 hP18 hst
 refine L_ix (r:=RP.int) rfl Try.underlying65 Try.sizeOf3 (hP18 4 20 rfl rfl) (RP.mono _ h0 (Le.trans l4 hE18)) (hP18 6 22 rfl rfl) hx13 (fun g33 o34 cs_g33 hrk_hat35 hat35=>?_)
 obtain rfl : _ = [_]:=hrk_hat35
 exact L_nil ⟨rfl,_,_,rfl,Le.refl _,fun _ _=>⟨_,_,_,rfl,rfl,hat35⟩,hst⟩
 refine opsS_cons ?_ ?_
 intro f w_ H18 X18 hS18 hE18 hP18 hst
 obtain ⟨g37,o37,cs37,hv37,hrk_hat37,hat37⟩:=(hP18 7 23 rfl rfl)
 obtain rfl : _ = [_]:=hrk_hat37
 refine L_ld rfl Try.isAgg3 hv37 (At.cell (AtH.at hat37 hst.sub) (j:=0) rfl) (L_nil ⟨rfl,_,_,rfl,Le.refl _,fun _ _=>rfl,hst⟩)
 exact opsS_nil
 refine L_eql rfl (hT18 3 19 rfl rfl) (hT18 8 24 rfl rfl) (nn ?_)
 obtain ⟨_,hA39,hB5⟩:=bind_some hB5
 obtain ⟨R39,hR39⟩:=exR fun f w_=>f 0 = v0∧f 3 = I i_2∧Star H18 w_ (R)
 refine W_join R39 ?_ ?_
 refine W_cond (b:=(x8 == x13)) rfl (fun hc40=>?_) (fun hc40=>?_)
 have hA39:=(ite_t hc40).symm.trans hA39
 cases hA39
 have hA39:=(ite_f hc40).symm.trans hA39
 refine W_skip (rj hR39 ⟨((hS18 0 rfl).trans sf0),((hS18 3 rfl).trans sf3),hst⟩)
 intro f w_ hR
 obtain ⟨sf0,sf3,hst⟩:=rk hR39 hR
 refine W_region (mF sf3 rfl (L_add rfl rfl rfl (aI rfl (nn ?_))))
 obtain rfl:=so hB5
 show ∃ m,m < _∧I5 m _ _
 refine ⟨rest5,Nat.lt_succ_self _,?_⟩
 exact ij hI5 ⟨i_2 + 1,rest5,H18,rfl,by omega,by omega,hL5,(Le.trans l4 hE18),sf0,(Eq.trans rfl (congrArg (Value.int .i64) (i64_succ (n:=1 + k6) (by omega) (cntF_le hk6)))),hst⟩
 rcases suf5 with _ | _
 obtain rfl:=count_zero hL5
 refine W_exit (rj hR5 ⟨H3,rfl,l4,sf0,hst⟩)
 exact absurd (cntF_yes hs5 hl5 hk6) (of_decide_eq_false hc7)
 intro f w_ hR
 obtain ⟨H3,rfl,l4,sf0,hst⟩:=rk hR5 hR
 refine sq (mF sf0 rfl (aV v0 rfl (nn (W_ret (retG1 (v1:=v0) Try.results94 rfl ?_)))))
 obtain rfl:=so hF
 exact ⟨H3,l4,v0,rfl,(RP.mono _ h0 l4),hst⟩
theorem i_ClauseOf_c {fu : Nat} {lits : List Int} {v0 : Value} {H : FH} {w : World} (hst : Star H w []) (h0 : (rS 3 RP.int).rel H [v0] lits) {r : Con × Bool} (hF : i_ClauseOf fu lits = some r) :
 C Try.prog 46 #[v0] w fun v w'=>∃ (u1 : Value),v = .tuple #[.agg #[u1,I r.1.bound],Bo r.2]∧Star H w' [oF 112 rTerm u1 r.1.terms]:=by
 unfold i_ClauseOf at hF
 refine C_enter Try.func46 rfl Try.ntmps46 rfl (sq (L_al (cs:=#[S0,I 0]) rfl Try.zeroValue43 rfl hst (fun g3 w4 hst=>aB rfl (nq (sq (mV v0 rfl (L_len rfl Try.underlying65 rfl (slice_len h0) (L_gtr rfl rfl rfl (nn (W_cond (b:=decide ((lits.length : Int) > 40)) rfl (fun hc5=>?_) (fun hc5=>?_)))))))))))
 have hF:=(ite_t hc5).symm.trans hF
 refine sq (L_bld rfl (parts0 ) (bld_43_  ) (L_staB (vs:=#[S0,I 0]) (cs2:=#[S0,I 0]) 0 rfl Try.sizeOf43 rfl rfl rfl (ones_cons rfl (ones_cons rfl ones_nil)) hst rfl (by show 0 + 2≤2; decide) rfl (fun w7 hst=>aB rfl (nn (W_ret (retG2 (v1:=.agg #[S0,I 0]) (v2:=Bo false) Try.results46 (resV_agg Try.isAgg43 Try.sizeOf43 rfl (Star.blkAt 0 hst rfl) rfl) rfl ?_))))))
 obtain rfl:=so hF
 have hst:=Star.addNil (R:=(OR.frz rTerm)) (e:=112) hst
 exact ⟨S0,rfl,(Star.keepN 1 hst)⟩
 have hF:=(ite_f hc5).symm.trans hF
 refine W_skip (W_seq (sq (mV v0 rfl (L_len rfl Try.underlying65 rfl (slice_len h0) (mI rfl (nn ?_))))))
 have hlen10 : List.length lits≤9223372036854775807:=len_le (slice_len h0)
 obtain ⟨j10,hL10,hF⟩:=bind_some hF
 obtain ⟨R10,hR10⟩:=exR fun f w_=>j10 = .nx ()∧f 0 = v0∧f 2 = Pt g3∧Star H w_ ([box g3 43 #[S0,I 0]])
 refine W_join R10 ?_ ?_
 refine W_block ?_
 obtain ⟨I10,hI10⟩:=exI fun n f w_=>∃ i_9 : Nat,∃ suf10 : List Int,n = suf10.length∧List.drop i_9 lits = suf10∧i_9 + suf10.length = lits.length∧rangeL (i_ClauseOf_b1 lits) suf10 i_9 () = some j10∧f 0 = v0∧f 2 = Pt g3∧f 14 = v0∧f 15 = I (lits.length : Int)∧f 16 = I i_9∧Star H w_ ([box g3 43 #[S0,I 0]])
 refine W_loop I10 (n:=lits.length) ?_ ?_
 exact ij hI10 ⟨0,lits,rfl,rfl,Nat.zero_add _,hL10,rfl,rfl,rfl,rfl,rfl,hst⟩
 intro n10 f w_ hI
 obtain ⟨i_9,suf10,rfl,hd10,hl10,hL10,sf0,sf2,sf14,sf15,sf16,hst⟩:=ik hI10 hI
 refine sq (L_lss rfl sf16 sf15 (nq (W_cond (b:=decide ((i_9 : Int) < (lits.length : Int))) rfl (fun hc11=>?_) (fun hc11=>?_))))
 have hlt10:=of_decide_eq_true hc11
 rcases suf10 with _ | ⟨x_10,rest10⟩
 exact absurd hlt10 (by simp at hl10; omega)
 obtain ⟨o10,hB10,hL10⟩:=range_cons hL10
 rw [i_ClauseOf_b1] at hB10
 have hix10:=drop_idx hd10
 refine W_skip (W_seq (W_block (sq (L_ix (r:=RP.int) rfl Try.underlying65 Try.sizeOf3 sf14 h0 sf16 hix10 (fun g16 o17 cs_g16 hrk_hat18 hat18=>?_)))))
 obtain rfl : _ = [_]:=hrk_hat18
 refine L_ld rfl Try.isAgg3 rfl (At.cell (AtH.at hat18 hst.sub) (j:=0) rfl) (aI rfl (nq ?_))
 obtain ⟨x25,hx25,hB10⟩:=bind_some hB10
 obtain ⟨b34,hb34,hB10⟩:=bind_some hB10
 obtain ⟨R35,hR35⟩:=exR fun f w_=>f 0 = v0∧f 2 = Pt g3∧f 14 = v0∧f 15 = I (lits.length : Int)∧f 16 = I i_9∧f 28 = Bo b34∧Star H w_ ([box g3 43 #[S0,I 0]])
 refine W_join R35 ?_ ?_
 refine W_region (mI rfl ?_)
 obtain ⟨H36b,l37,s38,z39,k40⟩:=hst.borrow
 refine L_call rfl Try.call88 (ops1 rfl) (i_isLiteral_c (l:=x_10) s38 hx25) ?_
 rintro _ w41 ⟨rfl,hst⟩
 have hst:=k40 hst c0
 refine L_not_ rfl rfl (mB rfl (L_split (d:=23) (b:=(!x25)) rfl (fun hc42=>?_) (fun hc42=>?_)))
 rw [ite_t hc42] at hb34
 refine ps rfl (ps rfl (ps rfl (ps rfl (L_pick (v:=Bo b34) rfl rfl (congrArg Value.bool (so hb34)) (nn (rj hR35 ⟨sf0,sf2,sf14,sf15,sf16,rfl,hst⟩))))))
 rw [ite_f hc42] at hb34
 obtain ⟨x32,hx32,hb34⟩:=bind_some hb34
 refine mF sf0 rfl (mI rfl (L_neg rfl rfl ?_))
 obtain ⟨H43b,l44,s45,z46,k47⟩:=hst.borrow
 refine L_call rfl Try.call89 (ops2 rfl rfl) (slices_Contains_int_c (s:=lits) (v_:=i64 (-x_10)) s45 (RP.mono _ h0 l44) hx32) ?_
 rintro _ w48 ⟨rfl,hst⟩
 have hst:=k47 hst c0
 refine L_pick (v:=Bo b34) rfl rfl (congrArg Value.bool (so hb34)) (nn (rj hR35 ⟨sf0,sf2,sf14,sf15,sf16,rfl,hst⟩))
 intro f w_ hR
 obtain ⟨sf0,sf2,sf14,sf15,sf16,sf28,hst⟩:=rk hR35 hR
 refine W_cond (b:=b34) sf28 (fun hc49=>?_) (fun hc49=>?_)
 have hB10:=(ite_t hc49).symm.trans hB10
 refine sq (L_bld rfl (parts0 ) (bld_43_  ) (L_staB (vs:=#[S0,I 0]) (cs2:=#[S0,I 0]) 0 rfl Try.sizeOf43 sf2 rfl rfl (ones_cons rfl (ones_cons rfl ones_nil)) hst rfl (by show 0 + 2≤2; decide) rfl (fun w51 hst=>aB rfl (nn (W_ret (retG2 (v1:=.agg #[S0,I 0]) (v2:=Bo false) Try.results46 (resV_agg Try.isAgg43 Try.sizeOf43 sf2 (Star.blkAt 0 hst rfl) rfl) rfl ?_))))))
 obtain rfl:=so hB10
 obtain rfl:=so hL10
 obtain rfl:=so hF
 have hst:=Star.addNil (R:=(OR.frz rTerm)) (e:=112) hst
 exact ⟨S0,rfl,(Star.keepN 1 hst)⟩
 have hB10:=(ite_f hc49).symm.trans hB10
 refine W_skip (W_region (L_add rfl sf16 rfl (mI rfl (nn ?_))))
 obtain rfl:=so hB10
 show ∃ m,m < _∧I10 m _ _
 refine ⟨rest10.length,by simp,?_⟩
 exact ij hI10 ⟨i_9 + 1,rest10,rfl,drop_next hd10,by simp at hl10; omega,hL10,sf0,sf2,sf14,sf15,(Eq.trans rfl (congrArg (Value.int .i64) (i64_succ (n:=lits.length) (by simp at hl10; omega) hlen10))),hst⟩
 rcases suf10 with _ | ⟨_,_⟩
 obtain rfl:=range_nil hL10
 refine W_exit (rj hR10 ⟨rfl,sf0,sf2,hst⟩)
 exact absurd (of_decide_eq_false hc11) (by simp at hl10; omega)
 intro f w_ hR
 obtain ⟨rfl,sf0,sf2,hst⟩:=rk hR10 hR
 refine W_seq ?_
 obtain ⟨x58,hx58,hF⟩:=bind_some hF
 refine W_region (mF sf0 rfl ?_)
 obtain ⟨H61b,l62,s63,z64,k65⟩:=hst.borrow
 refine L_call rfl Try.call90 (ops1 rfl) (slices_Clone_int_c (s:=lits) s63 (RP.mono _ h0 l62) hx58) ?_
 rintro r66_0 w66 ⟨_,rfl,hst⟩
 have hst:=k65 hst (co closed_int c0)
 refine aV r66_0 rfl (nq ?_)
 obtain ⟨x73,hx73,hF⟩:=bind_some hF
 refine W_region (mV r66_0 rfl ?_)
 obtain ⟨H75b,l76,s77,z78,k79⟩:=hst.lend [_]
 have hf80 : Fun2 Try.prog RP.int RP.int false (Value.int .i64) i_ClauseOf_1 (.func (.func 92) #[] #[]) H75b:=by
   refine ⟨_,_,rfl,Try.call92,fun H_ w_ hE_ hs_ cs1_ cs2_ x1_ x2_ y_ args_ hr1_ hr2_ hy_ ha_=>?_⟩
   obtain rfl : cs1_ = [_]:=hr1_
   obtain rfl : cs2_ = [_]:=hr2_
   obtain rfl:=args_of (b:=#[I x1_,I x2_]) ha_
   exact i_ClauseOf_1_c (a:=x1_) (b:=x2_) hs_  hy_
 refine L_call rfl Try.call91 (ops2 rfl rfl) (slices_SortFunc_int_c (x:=x58) (cmp:=i_ClauseOf_1) s77 hf80 hx73) ?_
 rintro _ w81 ⟨rfl,hst⟩
 have hst:=k79 hst (co closed_int c0)
 refine ns (L_bld rfl (parts1 rfl) (bld_43_1 (I 1) rfl) (L_al (cs:=#[S0,I 0]) rfl Try.zeroValue43 rfl hst (fun g85 w86 hst=>L_staB (vs:=#[S0,I 1]) (cs2:=#[S0,I 1]) 0 rfl Try.sizeOf43 rfl rfl rfl (ones_cons rfl (ones_cons rfl ones_nil)) hst rfl (by show 0 + 2≤2; decide) rfl (fun w87 hst=>nq (W_seq ?_)))))
 obtain ⟨x91,hx91,hF⟩:=bind_some hF
 refine W_region (mV r66_0 rfl ?_)
 have hst:=hst.get 1 rfl
 obtain ⟨H93,l94,hst,hz95⟩:=Star.freeze hst
 have hz95 : (rS 3 RP.int).rel H93 [r66_0] x73:=hz95
 refine L_call rfl Try.call94 (ops1 rfl) (slices_Compact_int_c (s:=x73) hst hz95 hx91) ?_
 rintro r96_0 w96 ⟨H96,l96,_,rfl,hr96_0,hst⟩
 refine L_len rfl Try.underlying65 rfl (slice_len hr96_0) (mI rfl (nn ?_))
 have hlen100 : List.length x91≤9223372036854775807:=len_le (slice_len hr96_0)
 obtain ⟨j100,hL100,hF⟩:=bind_some hF
 obtain ⟨R100,hR100⟩:=exR fun f w_=>∃ g85_0_98 : List Term,∃ v98_g85_0 : Value,j100 = .nx g85_0_98∧f 2 = Pt g3∧f 7 = Pt g85∧Star H96 w_ ([oF 112 rTerm v98_g85_0 g85_0_98,box g85 43 #[v98_g85_0,I 1],box g3 43 #[S0,I 0]])
 refine W_join R100 ?_ ?_
 refine W_block ?_
 obtain ⟨I100,hI100⟩:=exI fun n f w_=>∃ i_97 : Nat,∃ suf100 : List Int,∃ g85_0_98 : List Term,∃ v98_g85_0 : Value,n = suf100.length∧List.drop i_97 x91 = suf100∧i_97 + suf100.length = x91.length∧rangeL i_ClauseOf_b2 suf100 i_97 g85_0_98 = some j100∧f 2 = Pt g3∧f 7 = Pt g85∧f 37 = r96_0∧f 38 = I (x91.length : Int)∧f 39 = I i_97∧Star H96 w_ ([oF 112 rTerm v98_g85_0 g85_0_98,box g85 43 #[v98_g85_0,I 1],box g3 43 #[S0,I 0]])
 have hst:=Star.addNil (R:=(OR.frz rTerm)) (e:=112) hst
 refine W_loop I100 (n:=x91.length) ?_ ?_
 exact ij hI100 ⟨0,x91,[],S0,rfl,rfl,Nat.zero_add _,hL100,sf2,rfl,rfl,rfl,rfl,hst⟩
 intro n100 f w_ hI
 obtain ⟨i_97,suf100,g85_0_98,v98_g85_0,rfl,hd100,hl100,hL100,sf2,sf7,sf37,sf38,sf39,hst⟩:=ik hI100 hI
 refine sq (L_lss rfl sf39 sf38 (nq (W_cond (b:=decide ((i_97 : Int) < (x91.length : Int))) rfl (fun hc102=>?_) (fun hc102=>?_))))
 have hlt100:=of_decide_eq_true hc102
 rcases suf100 with _ | ⟨x_100,rest100⟩
 exact absurd hlt100 (by simp at hl100; omega)
 obtain ⟨o100,hB100,hL100⟩:=range_cons hL100
 rw [i_ClauseOf_b2] at hB100
 have hix100:=drop_idx hd100
 refine W_skip (W_seq (W_block (sq (L_ix (r:=RP.int) rfl Try.underlying65 Try.sizeOf3 sf37 hr96_0 sf39 hix100 (fun g107 o108 cs_g107 hrk_hat109 hat109=>?_)))))
 obtain rfl : _ = [_]:=hrk_hat109
 refine L_ld rfl Try.isAgg3 rfl (At.cell (AtH.at hat109 hst.sub) (j:=0) rfl) (aI rfl (nn ?_))
 obtain ⟨x114,hx114,hB100⟩:=bind_some hB100
 refine W_region (fA 0 fa_43_0 sf7 rfl (ldB 1 hst Try.isAgg41 rfl rfl rfl (mI rfl (L_bld rfl (parts2 rfl rfl) (bld_112_0_1 (I 1) (I x_100) rfl rfl) (L_bs rfl (parts1 rfl) (bs_41_1_2 (I 1) (I x_100) ) hst (fun g119 w120 hst=>?_))))))
 have hst:=Star.addF (r:=rTerm) (cs:=[I 1,I x_100]) (x:=({ coef:=1,lit:=x_100 } : Term)) hst (rTerm_iff.2 rfl)
 have hst:=Star.mkRow (R:=(OR.frz rTerm)) [([I 1,I x_100],({ coef:=1,lit:=x_100 } : Term))] [({ coef:=1,lit:=x_100 } : Term)] 1 hst rfl rfl rfl (by decide)
 have hst:=hst.get 1 rfl
 refine L_appM (v:=v98_g85_0) (u:=(Sl g119 1 1)) rfl et_41 rfl rfl hst hx114 (fun v122 w123 hst=>fA 0 fa_43_0 sf7 rfl (L_stB (v:=v122) (cs2:=#[v122,I 1]) 1 rfl Try.sizeOf41 rfl rfl (one_len (Star.len 0 hst rfl)) hst rfl rfl rfl (fun w125 hst=>nn (W_region (L_add rfl sf39 rfl (mI rfl (nn ?_)))))))
 obtain rfl:=so hB100
 have hst:=hst.gets [2,1,2] rfl
 show ∃ m,m < _∧I100 m _ _
 refine ⟨rest100.length,by simp,?_⟩
 exact ij hI100 ⟨i_97 + 1,rest100,x114,v122,rfl,drop_next hd100,by simp at hl100; omega,hL100,sf2,sf7,sf37,sf38,(Eq.trans rfl (congrArg (Value.int .i64) (i64_succ (n:=x91.length) (by simp at hl100; omega) hlen100))),hst⟩
 rcases suf100 with _ | ⟨_,_⟩
 obtain rfl:=range_nil hL100
 refine W_exit (rj hR100 ⟨g85_0_98,v98_g85_0,rfl,sf2,sf7,hst⟩)
 exact absurd (of_decide_eq_false hc102) (by simp at hl100; omega)
 intro f w_ hR
 obtain ⟨g85_0_98,v98_g85_0,rfl,sf2,sf7,hst⟩:=rk hR100 hR
 refine sq (L_lda (cs:=[v98_g85_0,I 1]) rfl Try.isAgg43 Try.sizeOf43 sf7 (At.sub0 (Blk.at (Star.blkAt 1 hst rfl)) 0 2) rfl (L_staB (vs:=#[v98_g85_0,I 1]) (cs2:=#[v98_g85_0,I 1]) 2 rfl Try.sizeOf43 sf2 rfl rfl (ones_cons (one_len (Star.len 0 hst rfl)) (ones_cons rfl ones_nil)) hst rfl (by show 0 + 2≤2; decide) rfl (fun w127 hst=>aB rfl (nn (W_ret (retG2 (v1:=.agg #[v98_g85_0,I 1]) (v2:=Bo true) Try.results46 (resV_agg Try.isAgg43 Try.sizeOf43 sf2 (Star.blkAt 0 hst rfl) rfl) rfl ?_))))))
 obtain rfl:=so hF
 have hst:=hst.get 1 rfl
 exact ⟨v98_g85_0,rfl,(Star.down (Star.keepN 1 hst) (Le.trans l94 l96) (co closed_term c0))⟩
theorem slices_Clone_implTerm_c {s : List Term} {v0 : Value} {H : FH} {w : World} (hst : Star H w []) (h0 : (rS 112 rTerm).rel H [v0] s) {r : List Term} (hF : slices_Clone_implTerm s = some r) :
 C Try.prog 145 #[v0] w fun v w'=>∃ (u1 : Value),v = u1∧Star H w' [oF 112 rTerm u1 r]:=by
 unfold slices_Clone_implTerm at hF
 refine C_enter Try.func145 rfl Try.ntmps145 rfl (sq (aV S0 rfl (nq (sq (mV v0 rfl ?_)))))
 obtain ⟨a1,cap1,hsl1,_,_⟩:=(slice_len h0)
 refine L_nileq (a:=a1) rfl Try.underlying41 (Eq.trans rfl hsl1) rfl ?_
 rw [← hsl1]
 refine nn ?_
 rcases Bool.eq_false_or_eq_true (isNilS v0) with hn2 | hn2
 refine W_cond (b:=true) (Eq.trans rfl (congrArg Value.bool hn2)) (fun _=>?_) (fun h=>nomatch h)
 obtain rfl:=nil_of h0 hn2
 refine sq (aV S0 rfl (nn (W_ret (retG1 (v1:=S0) Try.results145 rfl ?_))))
 simp [app] at hF
 subst hF
 have hst:=Star.addNil (R:=(OR.frz rTerm)) (e:=112) hst
 exact ⟨S0,rfl,hst⟩
 refine W_cond (b:=false) (Eq.trans rfl (congrArg Value.bool hn2)) (fun h=>nomatch h) (fun _=>?_)
 refine W_skip (W_seq ?_)
 obtain ⟨x7,hx7,hF⟩:=bind_some hF
 refine W_region (L_bs rfl parts0 (bs_41_0  ) hst (fun g11 w12 hst=>?_))
 have hst:=Star.mkRow (R:=(OR.frz rTerm)) [] [] 0 hst rfl rfl rfl (by decide)
 refine mV v0 rfl (L_app (v:=(Sl g11 0 0)) (u:=v0) rfl et_41 rfl rfl hst h0 hx7 (fun v14 w15 hst=>aV v14 rfl (nn (W_ret (retG1 (v1:=v14) Try.results145 rfl ?_)))))
 obtain rfl:=so hF
 exact ⟨v14,rfl,hst⟩
theorem i_Constraint_own_c {c : Con} {v0_0 : Value} {H : FH} {w : World} (hst : Star H w []) (h0_0 : (rS 112 rTerm).rel H [v0_0] c.terms) {r : Con} (hF : i_Constraint_own c = some r) :
 C Try.prog 127 #[.agg #[v0_0,I c.bound]] w fun v w'=>∃ (u1 : Value),v = .agg #[u1,I r.bound]∧Star H w' [oF 112 rTerm u1 r.terms]:=by
 unfold i_Constraint_own at hF
 refine C_enter Try.func127 rfl Try.ntmps127 rfl (sq (L_box (v:=.agg #[v0_0,I c.bound]) (cs:=#[v0_0,I c.bound]) rfl rfl rfl hst (fun g5 w6 hst=>L_al (cs:=#[S0,I 0]) rfl Try.zeroValue43 rfl hst (fun g7 w8 hst=>nq ?_))))
 obtain ⟨x14,hx14,hF⟩:=bind_some hF
 refine W_region (fA 0 fa_43_0 rfl rfl (ldB 1 hst Try.isAgg41 rfl rfl rfl ?_))
 obtain ⟨H18b,l19,s20,z21,k22⟩:=hst.borrow
 refine L_call rfl Try.call145 (ops1 rfl) (slices_Clone_implTerm_c (s:=c.terms) s20 (RP.mono _ h0_0 l19) hx14) ?_
 rintro r23_0 w23 ⟨_,rfl,hst⟩
 have hst:=k22 hst (co closed_term c0)
 refine fA 0 fa_43_0 rfl rfl (L_stB (v:=r23_0) (cs2:=#[r23_0,I c.bound]) 2 rfl Try.sizeOf41 rfl rfl (one_len (Star.len 0 hst rfl)) hst rfl rfl rfl (fun w25 hst=>ns (L_lda (cs:=[r23_0,I c.bound]) rfl Try.isAgg43 Try.sizeOf43 rfl (At.sub0 (Blk.at (Star.blkAt 0 hst rfl)) 0 2) rfl (L_staB (vs:=#[r23_0,I c.bound]) (cs2:=#[r23_0,I c.bound]) 2 rfl Try.sizeOf43 rfl rfl rfl (ones_cons (one_len (Star.len 1 hst rfl)) (ones_cons rfl ones_nil)) hst rfl (by show 0 + 2≤2; decide) rfl (fun w27 hst=>nn (W_ret (retG1 (v1:=.agg #[r23_0,I c.bound]) Try.results127 (resV_agg Try.isAgg43 Try.sizeOf43 rfl (Star.blkAt 0 hst rfl) rfl) ?_)))))))
 obtain rfl:=so hF
 have hst:=hst.get 2 rfl
 exact ⟨r23_0,rfl,(Star.keepN 1 hst)⟩
theorem i_searching_fail_c {fu : Nat} {s : Srch} {decisions : List Int} {g_0 : Nat} {v0_0 : Value} {v0_2 : Value} {v1 : Value} {H : FH} {w : World} {R : List Ass} (hst : Star H w (box g_0 85 #[v0_0,I s.fuel,v0_2,Bo s.much] :: oF 43 (rCon 112) v0_0 s.list :: oS 93 (oStep 112) v0_2 s.steps :: R)) (h1 : (rS 3 RP.int).rel H [v1] decisions) {r : (List Con) × (List Step)} (hF : i_searching_fail fu s decisions = some r) :
 C Try.prog 111 #[Pt g_0,v1] w fun v w'=>∃ H' : FH,Le H H'∧∃ (u1 : Value) (u2 : Value),v = .tuple #[]∧Star H' w' (box g_0 85 #[u1,I s.fuel,u2,Bo s.much] :: oF 43 (rCon 112) u1 r.1 :: oS 93 (oStep 112) u2 r.2 :: R):=by
 unfold i_searching_fail at hF
 refine C_enter Try.func111 rfl Try.ntmps111 rfl (sq (aV S0 rfl (nq (sq (mV v1 rfl (L_len rfl Try.underlying65 rfl (slice_len h1) (mI rfl (nn ?_))))))))
 have hlen4 : List.length decisions≤9223372036854775807:=len_le (slice_len h1)
 obtain ⟨j4,hL4,hF⟩:=bind_some hF
 obtain ⟨R4,hR4⟩:=exR fun f w_=>∃ lits_2 : List Int,∃ v2_lits : Value,j4 = .nx lits_2∧f 0 = Pt g_0∧f 4 = v2_lits∧Star H w_ (oF 3 RP.int v2_lits lits_2 :: oF 43 (rCon 112) v0_0 s.list :: oS 93 (oStep 112) v0_2 s.steps :: box g_0 85 #[v0_0,I s.fuel,v0_2,Bo s.much] :: R)
 refine W_join R4 ?_ ?_
 refine W_block ?_
 obtain ⟨I4,hI4⟩:=exI fun n f w_=>∃ i_1 : Nat,∃ suf4 : List Int,∃ lits_2 : List Int,∃ v2_lits : Value,n = suf4.length∧List.drop i_1 decisions = suf4∧i_1 + suf4.length = decisions.length∧rangeL i_searching_fail_b1 suf4 i_1 lits_2 = some j4∧f 0 = Pt g_0∧f 4 = v2_lits∧f 9 = v1∧f 10 = I (decisions.length : Int)∧f 11 = I i_1∧Star H w_ (oF 3 RP.int v2_lits lits_2 :: oF 43 (rCon 112) v0_0 s.list :: oS 93 (oStep 112) v0_2 s.steps :: box g_0 85 #[v0_0,I s.fuel,v0_2,Bo s.much] :: R)
 have hst:=Star.addNil (R:=(OR.frz RP.int)) (e:=3) hst
 have hst:=hst.gets [1,3,3,3] rfl
 refine W_loop I4 (n:=decisions.length) ?_ ?_
 exact ij hI4 ⟨0,decisions,[],S0,rfl,rfl,Nat.zero_add _,hL4,rfl,rfl,rfl,rfl,rfl,hst⟩
 intro n4 f w_ hI
 obtain ⟨i_1,suf4,lits_2,v2_lits,rfl,hd4,hl4,hL4,sf0,sf4,sf9,sf10,sf11,hst⟩:=ik hI4 hI
 refine sq (L_lss rfl sf11 sf10 (nq (W_cond (b:=decide ((i_1 : Int) < (decisions.length : Int))) rfl (fun hc6=>?_) (fun hc6=>?_))))
 have hlt4:=of_decide_eq_true hc6
 rcases suf4 with _ | ⟨x_4,rest4⟩
 exact absurd hlt4 (by simp at hl4; omega)
 obtain ⟨o4,hB4,hL4⟩:=range_cons hL4
 rw [i_searching_fail_b1] at hB4
 have hix4:=drop_idx hd4
 refine W_skip (W_seq (W_block (sq (L_ix (r:=RP.int) rfl Try.underlying65 Try.sizeOf3 sf9 h1 sf11 hix4 (fun g11 o12 cs_g11 hrk_hat13 hat13=>?_)))))
 obtain rfl : _ = [_]:=hrk_hat13
 refine L_ld rfl Try.isAgg3 rfl (At.cell (AtH.at hat13 hst.sub) (j:=0) rfl) (aI rfl (nn ?_))
 obtain ⟨x18,hx18,hB4⟩:=bind_some hB4
 refine W_region (mF sf4 rfl (mI rfl (L_neg rfl rfl (L_bs rfl (parts1 rfl) (bs_65_1_0 (I (i64 (-x_4))) rfl) hst (fun g22 w23 hst=>?_)))))
 have hst:=Star.addF (r:=RP.int) (cs:=[I (i64 (-x_4))]) (x:=(i64 (-x_4))) hst rfl
 have hst:=Star.mkRow (R:=(OR.frz RP.int)) [([I (i64 (-x_4))],i64 (-x_4))] [i64 (-x_4)] 1 hst rfl rfl rfl (by decide)
 have hst:=hst.get 1 rfl
 refine L_appM (v:=v2_lits) (u:=(Sl g22 1 1)) rfl et_65 rfl rfl hst hx18 (fun v25 w26 hst=>aV v25 rfl (nn (W_region (L_add rfl sf11 rfl (mI rfl (nn ?_))))))
 obtain rfl:=so hB4
 show ∃ m,m < _∧I4 m _ _
 refine ⟨rest4.length,by simp,?_⟩
 exact ij hI4 ⟨i_1 + 1,rest4,x18,v25,rfl,drop_next hd4,by simp at hl4; omega,hL4,sf0,rfl,sf9,sf10,(Eq.trans rfl (congrArg (Value.int .i64) (i64_succ (n:=decisions.length) (by simp at hl4; omega) hlen4))),hst⟩
 rcases suf4 with _ | ⟨_,_⟩
 obtain rfl:=range_nil hL4
 refine W_exit (rj hR4 ⟨lits_2,v2_lits,rfl,sf0,sf4,hst⟩)
 exact absurd (of_decide_eq_false hc6) (by simp at hl4; omega)
 intro f w_ hR
 obtain ⟨lits_2,v2_lits,rfl,sf0,sf4,hst⟩:=rk hR4 hR
 refine W_seq ?_
 obtain ⟨x34,hx34,hF⟩:=bind_some hF
 refine W_region (mF sf4 rfl ?_)
 obtain ⟨H40b,l41,s42,z43,k44⟩:=hst.borrow
 have hb45 : (rS 3 RP.int).rel H40b [v2_lits] lits_2:=fz_own 0 z43 rfl
 refine L_call rfl Try.call46 (ops1 rfl) (i_ClauseOf_c (lits:=lits_2) s42 hb45 hx34) ?_
 rintro _ w46 ⟨r46_0,rfl,hst⟩
 have hst:=k44 hst (co closed_term c0)
 refine mV (.tuple #[.agg #[r46_0,I x34.1.bound],Bo x34.2]) rfl (L_ex (v:=.agg #[r46_0,I x34.1.bound]) rfl rfl rfl (L_ex (v:=Bo x34.2) rfl rfl rfl (L_al (cs:=#[S0,I 0]) rfl Try.zeroValue43 rfl hst (fun g48 w49 hst=>L_staB (vs:=#[r46_0,I x34.1.bound]) (cs2:=#[r46_0,I x34.1.bound]) 0 rfl Try.sizeOf43 rfl rfl rfl (ones_cons (one_len (Star.len 1 hst rfl)) (ones_cons rfl ones_nil)) hst rfl (by show 0 + 2≤2; decide) rfl (fun w50 hst=>aB rfl (nq ?_))))))
 have hst:=hst.get 1 rfl
 obtain ⟨H51,l52,hst,hz53⟩:=Star.freeze hst
 have hz53 : (rS 112 rTerm).rel H51 [r46_0] x34.1.terms:=hz53
 obtain ⟨x57,hx57,hF⟩:=bind_some hF
 have hst:=Star.drop 1 hst rfl
 have hst:=hst.gets [1,3,3,3] rfl
 refine W_drawS 8 [isV (Pt g_0),isV (Pt g_0),isV (Pt g_0),isV (Pt g_0),isV (v0_0),isV (.agg #[r46_0,I x34.1.bound]),anyF,anyF] [box g48 43 #[r46_0,I x34.1.bound],oS 93 (oStep 112) v0_2 s.steps,box g_0 85 #[v0_0,I s.fuel,v0_2,Bo s.much]] [.base (oF 43 (rCon 112) v0_0 s.list) (some 7),.made 6 32 (fun v_=>oF 43 (rCon 112) v_ ([x34.1])) (some 7),.made 7 33 (fun v_=>oF 43 (rCon 112) v_ x57) none] (R) [([],[]),([],[]),([],[]),([],[]),([],[]),([],[]),([],[1]),([0,1],[2])] (S:=[(none,[],some 7),(some 6,[32],some 7),(some 7,[33],none)]) Try_mix (by kernel_rfl) rfl (by kernel_rfl) (amF_cons (mono_V _) (amF_cons (mono_V _) (amF_cons (mono_V _) (amF_cons (mono_V _) (amF_cons (mono_V _) (amF_cons (mono_V _) (amF_cons (mono_any) (amF_cons (mono_any) amF_nil)))))))) hst ?_ (fun f w_ H62 hS62 hE62 hT62 hst=>?_)
 refine opsS_cons (fun f w_ _ _ s _ _ hst=>mF ((s 0 rfl).trans sf0) rfl (nO rfl rfl hst)) (opsS_cons (fun f w_ _ _ s _ _ hst=>mF ((s 0 rfl).trans sf0) rfl (nO rfl rfl hst)) (opsS_cons (fun f w_ _ _ _ _ p hst=>L_nc rfl (p 1 27 rfl rfl) (nO rfl rfl hst)) (opsS_cons (fun f w_ _ _ _ _ p hst=>fA 0 fa_85_0 (p 2 28 rfl rfl) rfl (nO rfl rfl hst)) (opsS_cons (fun f w_ _ _ _ _ p hst=>ldB 2 hst Try.isAgg23 (p 3 29 rfl rfl) rfl rfl (nO rfl rfl hst)) (opsS_cons (fun f w_ _ _ s _ _ hst=>L_lda (cs:=[r46_0,I x34.1.bound]) rfl Try.isAgg43 Try.sizeOf43 ((s 7 rfl).trans rfl) (At.sub0 (Blk.at (Star.blkAt 0 hst rfl)) 0 2) rfl (nO rfl rfl hst)) (opsS_cons ?_ ?_))))))
 intro f w_ H62 X62 hS62 hE62 hP62 hst
 refine L_bs rfl (parts1 (hP62 5 31 rfl rfl)) (bs_23_1_2 (r46_0) (I x34.1.bound) ) hst (fun g69 w70 hst=>?_)
 have hst:=Star.addF (r:=(rCon 112)) (cs:=[r46_0,I x34.1.bound]) (x:=x34.1) hst (rCon_iff.2 ⟨_,rfl,(RP.mono _ hz53 hE62)⟩)
 have hst:=Star.mkRow (R:=(OR.frz (rCon 112))) [([r46_0,I x34.1.bound],x34.1)] [x34.1] 1 hst rfl rfl rfl (by decide)
 have hst:=hst.gets [3,3,3] rfl
 exact L_nil ⟨rfl,_,_,rfl,Le.refl _,fun _ _=>trivial,hst⟩
 refine opsS_cons ?_ ?_
 intro f w_ H62 X62 hS62 hE62 hP62 hst
 have hst : Star H62 w_ (box g48 43 #[r46_0,I x34.1.bound] :: oS 93 (oStep 112) v0_2 s.steps :: box g_0 85 #[v0_0,I s.fuel,v0_2,Bo s.much] :: oF 43 (rCon 112) v0_0 s.list :: oF 43 (rCon 112) (f 32) ([x34.1]) :: X62):=hst
 have hst:=hst.gets [4,4] rfl
 refine L_appM (v:=v0_0) (u:=(f 32)) rfl et_23 (hP62 4 30 rfl rfl) rfl hst hx57 (fun v73 w74 hst=>?_)
 have hst:=hst.gets [3,3,3] rfl
 exact L_nil ⟨rfl,_,_,rfl,Le.refl _,fun _ _=>trivial,hst⟩
 exact opsS_nil
 have hst : Star H62 w_ (box g48 43 #[r46_0,I x34.1.bound] :: oS 93 (oStep 112) v0_2 s.steps :: box g_0 85 #[v0_0,I s.fuel,v0_2,Bo s.much] :: oF 43 (rCon 112) (f 33) x57 :: R):=hst
 refine L_nc rfl (hT62 0 26 rfl rfl) (fA 0 fa_85_0 rfl rfl (L_stB (v:=(f 33)) (cs2:=#[(f 33),I s.fuel,v0_2,Bo s.much]) 2 rfl Try.sizeOf23 rfl rfl (one_len (Star.len 3 hst rfl)) hst rfl rfl rfl (fun w77 hst=>nn ?_)))
 obtain ⟨x83,hx83,hF⟩:=bind_some hF
 obtain ⟨x89,hx89,hF⟩:=bind_some hF
 rename Fr=>f_94
 have hst:=hst.gets [2,3,3,3] rfl
 refine W_drawS 10 [isV (Pt g_0),isV (Pt g_0),isV (Pt g_0),isV (Pq g_0 2),isV (v0_2),isV (.agg #[r46_0,I x34.1.bound]),exA fun u_0=>isV (.agg #[u_0,I x83.bound]),exA fun u_3=>isV (.agg #[I 7,I 0,I 0,u_3,I x83.bound]),anyF,anyF] [box g_0 85 #[(f_94 33),I s.fuel,v0_2,Bo s.much],box g48 43 #[r46_0,I x34.1.bound],oF 43 (rCon 112) (f_94 33) x57] [.base (oS 93 (oStep 112) v0_2 s.steps) (some 9),.made 6 42 (fun v_=>oF 112 rTerm (aggC v_ 0) x83.terms) (some 7),.made 7 43 (fun v_=>oF 112 rTerm (aggC v_ 3) x83.terms) (some 8),.made 8 44 (fun v_=>oS 93 (oStep 112) v_ ([({ kind:=7,a:=0,b:=0,given:=x83 } : Step)])) (some 9),.made 9 45 (fun v_=>oS 93 (oStep 112) v_ x89) none] (R) [([],[]),([],[]),([],[]),([],[]),([],[]),([],[]),([],[1]),([1],[2]),([2],[3]),([0,3],[4])] (S:=[(none,[],some 9),(some 6,[42],some 7),(some 7,[43],some 8),(some 8,[44],some 9),(some 9,[45],none)]) Try_mix (by kernel_rfl) rfl (by kernel_rfl) (amF_cons (mono_V _) (amF_cons (mono_V _) (amF_cons (mono_V _) (amF_cons (mono_V _) (amF_cons (mono_V _) (amF_cons (mono_V _) (amF_cons (mono_exA fun _=>mono_V _) (amF_cons (mono_exA fun _=>mono_V _) (amF_cons (mono_any) (amF_cons (mono_any) amF_nil)))))))))) hst ?_ (fun f w_ H94 hS94 hE94 hT94 hst=>?_)
 refine opsS_cons (fun f w_ _ _ s _ _ hst=>mF ((s 0 rfl).trans ((hS62 0 rfl).trans sf0)) rfl (nO rfl rfl hst)) (opsS_cons (fun f w_ _ _ s _ _ hst=>mF ((s 0 rfl).trans ((hS62 0 rfl).trans sf0)) rfl (nO rfl rfl hst)) (opsS_cons (fun f w_ _ _ _ _ p hst=>L_nc rfl (p 1 37 rfl rfl) (nO rfl rfl hst)) (opsS_cons (fun f w_ _ _ _ _ p hst=>fA 2 fa_85_2 (p 2 38 rfl rfl) rfl (nO rfl rfl hst)) (opsS_cons (fun f w_ _ _ _ _ p hst=>ldB 0 hst Try.isAgg30 (p 3 39 rfl rfl) rfl rfl (nO rfl rfl hst)) (opsS_cons (fun f w_ _ _ s _ _ hst=>L_lda (cs:=[r46_0,I x34.1.bound]) rfl Try.isAgg43 Try.sizeOf43 ((s 7 rfl).trans ((hS62 7 rfl).trans rfl)) (At.sub0 (Blk.at (Star.blkAt 1 hst rfl)) 0 2) rfl (nO rfl rfl hst)) (opsS_cons ?_ ?_))))))
 intro f w_ H94 X94 hS94 hE94 hP94 hst
 obtain ⟨H108b,l109,s110,z111,k112⟩:=hst.borrow
 refine L_call rfl Try.call127 (ops1 (hP94 5 41 rfl rfl)) (i_Constraint_own_c (c:=x34.1) s110 (RP.mono _ hz53 (Le.trans (Le.trans hE62 hE94) l109)) hx83) ?_
 rintro _ w113 ⟨r113_0,rfl,hst⟩
 have hst:=k112 hst (co closed_term c0)
 have hst:=hst.gets [3,3,3] rfl
 exact L_nil ⟨rfl,_,_,rfl,Le.refl _,fun _ _=>⟨_,rfl⟩,hst⟩
 refine opsS_cons ?_ ?_
 intro f w_ H94 X94 hS94 hE94 hP94 hst
 have hst : Star H94 w_ (box g_0 85 #[(f_94 33),I s.fuel,v0_2,Bo s.much] :: box g48 43 #[r46_0,I x34.1.bound] :: oF 43 (rCon 112) (f_94 33) x57 :: own (OR.ownS 112 (OR.frz rTerm)) [(aggC (f 42) 0)] x83.terms :: X94):=hst
 obtain ⟨u115_0,hv115⟩:=(hP94 6 42 rfl rfl)
 have hren : Star H94 w_ (box g_0 85 #[(f_94 33),I s.fuel,v0_2,Bo s.much] :: box g48 43 #[r46_0,I x34.1.bound] :: oF 43 (rCon 112) (f_94 33) x57 :: own (OR.ownS 112 (OR.frz rTerm)) [(aggC (f 42) 0)] x83.terms :: X94):=hst
 rw [hv115] at hren
 have hst : Star H94 w_ (box g_0 85 #[(f_94 33),I s.fuel,v0_2,Bo s.much] :: box g48 43 #[r46_0,I x34.1.bound] :: oF 43 (rCon 112) (f_94 33) x57 :: oF 112 rTerm u115_0 x83.terms :: X94):=hren
 refine L_bld rfl (parts2 rfl hv115) (bld_93_0_3x2 (I 7) (u115_0) (I x83.bound) rfl) (L_nil ⟨rfl,_,_,rfl,Le.refl _,fun _ _=>⟨_,rfl⟩,hst⟩)
 refine opsS_cons ?_ ?_
 intro f w_ H94 X94 hS94 hE94 hP94 hst
 have hst : Star H94 w_ (box g_0 85 #[(f_94 33),I s.fuel,v0_2,Bo s.much] :: box g48 43 #[r46_0,I x34.1.bound] :: oF 43 (rCon 112) (f_94 33) x57 :: own (OR.ownS 112 (OR.frz rTerm)) [(aggC (f 43) 3)] x83.terms :: X94):=hst
 obtain ⟨u116_3,hv116⟩:=(hP94 7 43 rfl rfl)
 have hren : Star H94 w_ (box g_0 85 #[(f_94 33),I s.fuel,v0_2,Bo s.much] :: box g48 43 #[r46_0,I x34.1.bound] :: oF 43 (rCon 112) (f_94 33) x57 :: own (OR.ownS 112 (OR.frz rTerm)) [(aggC (f 43) 3)] x83.terms :: X94):=hst
 rw [hv116] at hren
 have hst : Star H94 w_ (box g_0 85 #[(f_94 33),I s.fuel,v0_2,Bo s.much] :: box g48 43 #[r46_0,I x34.1.bound] :: oF 43 (rCon 112) (f_94 33) x57 :: oF 112 rTerm u116_3 x83.terms :: X94):=hren
 refine L_bs rfl (parts1 hv116) (bs_30_1_5 (I 7) (I 0) (I 0) (u116_3) (I x83.bound) ) hst (fun g117 w118 hst=>?_)
 have hst:=hst.get 4 rfl
 have hst:=oStep_close (s:=({ kind:=7,a:=0,b:=0,given:=x83 } : Step)) hst
 have hst:=Star.mkRow (R:=(oStep 112)) [([I 7,I 0,I 0,u116_3,I x83.bound],({ kind:=7,a:=0,b:=0,given:=x83 } : Step))] [({ kind:=7,a:=0,b:=0,given:=x83 } : Step)] 1 hst rfl rfl rfl (by decide)
 have hst:=hst.gets [3,3,3] rfl
 exact L_nil ⟨rfl,_,_,rfl,Le.refl _,fun _ _=>trivial,hst⟩
 refine opsS_cons ?_ ?_
 intro f w_ H94 X94 hS94 hE94 hP94 hst
 have hst : Star H94 w_ (box g_0 85 #[(f_94 33),I s.fuel,v0_2,Bo s.much] :: box g48 43 #[r46_0,I x34.1.bound] :: oF 43 (rCon 112) (f_94 33) x57 :: oS 93 (oStep 112) v0_2 s.steps :: oS 93 (oStep 112) (f 44) ([({ kind:=7,a:=0,b:=0,given:=x83 } : Step)]) :: X94):=hst
 have hst:=hst.gets [4,4] rfl
 refine L_appM (v:=v0_2) (u:=(f 44)) rfl et_30 (hP94 4 40 rfl rfl) rfl hst hx89 (fun v121 w122 hst=>?_)
 have hst:=hst.gets [3,3,3] rfl
 exact L_nil ⟨rfl,_,_,rfl,Le.refl _,fun _ _=>trivial,hst⟩
 exact opsS_nil
 have hst : Star H94 w_ (box g_0 85 #[(f_94 33),I s.fuel,v0_2,Bo s.much] :: box g48 43 #[r46_0,I x34.1.bound] :: oF 43 (rCon 112) (f_94 33) x57 :: oS 93 (oStep 112) (f 45) x89 :: R):=hst
 refine L_nc rfl (hT94 0 36 rfl rfl) (fA 2 fa_85_2 rfl rfl (L_stB (v:=(f 45)) (cs2:=#[(f_94 33),I s.fuel,(f 45),Bo s.much]) 0 rfl Try.sizeOf30 rfl rfl (one_len (Star.len 3 hst rfl)) hst rfl rfl rfl (fun w125 hst=>nn (ret0 Try.results111 ?_))))
 obtain rfl:=so hF
 have hst:=hst.gets [3,3,2] rfl
 have hst:=Star.drop 3 hst rfl
 exact ⟨H94,(Le.trans (Le.trans l52 hE62) hE94),(f_94 33),(f 45),rfl,hst⟩
theorem i_searching_visit_F_c {fu : Nat} {rec_ : Srch→(List Int)→Option ((List Bool) × Bool × (List Con) × Int × (List Step) × Bool)} (hrec : ∀ {s : Srch} {decisions : List Int} {g_0 : Nat} {v0_0 : Value} {v0_2 : Value} {v1 : Value} {H : FH} {w : World} {R : List Ass} (hst : Star H w (box g_0 85 #[v0_0,I s.fuel,v0_2,Bo s.much] :: oF 43 (rCon 112) v0_0 s.list :: oS 93 (oStep 112) v0_2 s.steps :: R)) (h1 : (rS 3 RP.int).rel H [v1] decisions) {r : (List Bool) × Bool × (List Con) × Int × (List Step) × Bool} (hF : rec_ s decisions = some r),C Try.prog 67 #[Pt g_0,v1] w fun v w'=>∃ H' : FH,Le H H'∧∃ (u1 : Value) (u2 : Value) (u3 : Value),v = .tuple #[u1,Bo r.2.1]∧Star H' w' (oF 4 RP.bool u1 r.1 :: box g_0 85 #[u2,I r.2.2.2.1,u3,Bo r.2.2.2.2.2] :: oF 43 (rCon 112) u2 r.2.2.1 :: oS 93 (oStep 112) u3 r.2.2.2.2.1 :: R)) {s : Srch} {decisions : List Int} {g_0 : Nat} {v0_0 : Value} {v0_2 : Value} {v1 : Value} {H : FH} {w : World} {R : List Ass} (hst : Star H w (box g_0 85 #[v0_0,I s.fuel,v0_2,Bo s.much] :: oF 43 (rCon 112) v0_0 s.list :: oS 93 (oStep 112) v0_2 s.steps :: R)) (h1 : (rS 3 RP.int).rel H [v1] decisions) {r : (List Bool) × Bool × (List Con) × Int × (List Step) × Bool} (hF : i_searching_visit_F fu rec_ s decisions = some r) :
 C Try.prog 67 #[Pt g_0,v1] w fun v w'=>∃ H' : FH,Le H H'∧∃ (u1 : Value) (u2 : Value) (u3 : Value),v = .tuple #[u1,Bo r.2.1]∧Star H' w' (oF 4 RP.bool u1 r.1 :: box g_0 85 #[u2,I r.2.2.2.1,u3,Bo r.2.2.2.2.2] :: oF 43 (rCon 112) u2 r.2.2.1 :: oS 93 (oStep 112) u3 r.2.2.2.2.1 :: R):=by
 unfold i_searching_visit_F at hF
 refine C_enter Try.func67 rfl Try.ntmps67 rfl (sq (aV S0 rfl (aB rfl (nq (W_seq ?_)))))
 obtain ⟨R1,hR1⟩:=exR fun f w_=>f 0 = Pt g_0∧f 1 = v1∧f 29 = Bo ((s.fuel == 0) || (decide ((s.steps.length : Int) ≥ 1000)))∧Star H w_ (oF 43 (rCon 112) v0_0 s.list :: oS 93 (oStep 112) v0_2 s.steps :: box g_0 85 #[v0_0,I s.fuel,v0_2,Bo s.much] :: R)
 refine W_join R1 ?_ ?_
 refine W_region (mV (Pt g_0) rfl (L_nc rfl rfl (fA 1 fa_85_1 rfl rfl (ldB 0 hst Try.isAgg3 rfl rfl rfl (L_eql rfl rfl rfl (mB rfl (L_split (d:=22) (b:=(s.fuel == 0)) rfl (fun hc2=>?_) (fun hc2=>?_))))))))
 refine ps rfl (ps rfl (ps rfl (ps rfl (ps rfl (ps rfl (L_pick (v:=Bo ((s.fuel == 0) || (decide ((s.steps.length : Int) ≥ 1000)))) rfl rfl (or_t hc2) (nn ?_)))))))
 have hst:=hst.gets [2,2] rfl
 exact rj hR1 ⟨rfl,rfl,rfl,hst⟩
 refine mV (Pt g_0) rfl (L_nc rfl rfl (fA 2 fa_85_2 rfl rfl (ldB 0 hst Try.isAgg30 rfl rfl rfl (L_len rfl Try.underlying30 rfl (Star.len 2 hst rfl) (L_geq rfl rfl rfl (L_pick (v:=Bo ((s.fuel == 0) || (decide ((s.steps.length : Int) ≥ 1000)))) rfl rfl (or_f hc2 rfl) (nn ?_)))))))
 have hst:=hst.gets [2,2] rfl
 exact rj hR1 ⟨rfl,rfl,rfl,hst⟩
 intro f w_ hR
 obtain ⟨sf0,sf1,sf29,hst⟩:=rk hR1 hR
 refine W_cond (b:=((s.fuel == 0) || (decide ((s.steps.length : Int) ≥ 1000)))) sf29 (fun hc3=>?_) (fun hc3=>?_)
 have hF:=(ite_t hc3).symm.trans hF
 refine sq (mF sf0 rfl (L_nc rfl rfl (fA 3 fa_85_3 rfl rfl (L_stB (v:=Bo true) (cs2:=#[v0_0,I s.fuel,v0_2,Bo true]) 2 rfl Try.sizeOf4 rfl rfl rfl hst rfl rfl rfl (fun w5 hst=>ns (aV S0 rfl (aB rfl (nn (W_ret (retG2 (v1:=S0) (v2:=Bo false) Try.results67 rfl rfl ?_))))))))))
 obtain rfl:=so hF
 have hst:=Star.addNil (R:=(OR.frz RP.bool)) (e:=4) hst
 exact ⟨H,(Le.refl _),S0,v0_0,v0_2,rfl,hst⟩
 have hF:=(ite_f hc3).symm.trans hF
 refine W_skip (sq (mF sf0 rfl (L_nc rfl rfl (fA 1 fa_85_1 rfl rfl (ldB 2 hst Try.isAgg3 rfl rfl rfl (L_sub rfl rfl rfl (L_nc rfl rfl (fA 1 fa_85_1 rfl rfl (L_stB (v:=I (i64 (s.fuel - 1))) (cs2:=#[v0_0,I (i64 (s.fuel - 1)),v0_2,Bo s.much]) 2 rfl Try.sizeOf3 rfl rfl rfl hst rfl rfl rfl (fun w8 hst=>nq ?_))))))))))
 obtain ⟨x9,hx9,hF⟩:=bind_some hF
 refine W_region (L_mk (R:=(OR.frz RP.int)) (z0:=0) (zc:=[I 0]) rfl et_65 (by kernel_rfl) (fun _ _=>⟨rfl,rfl⟩) rfl rfl hx9 hst (fun v13 w14 hst=>aV v13 rfl (nq (sq (mF sf1 rfl (L_len rfl Try.underlying65 rfl (slice_len h1) (mI rfl (nn ?_))))))))
 have hlen18 : List.length decisions≤9223372036854775807:=len_le (slice_len h1)
 obtain ⟨j18,hL18,hF⟩:=bind_some hF
 obtain ⟨R18,hR18⟩:=exR fun f w_=>∃ p_17 : List Int,j18 = .nx p_17∧f 0 = Pt g_0∧f 1 = v1∧f 6 = v13∧Star H w_ (oF 3 RP.int v13 p_17 :: oF 43 (rCon 112) v0_0 s.list :: oS 93 (oStep 112) v0_2 s.steps :: box g_0 85 #[v0_0,I (i64 (s.fuel - 1)),v0_2,Bo s.much] :: R)
 refine W_join R18 ?_ ?_
 refine W_block ?_
 obtain ⟨I18,hI18⟩:=exI fun n f w_=>∃ i_16 : Nat,∃ suf18 : List Int,∃ p_17 : List Int,n = suf18.length∧List.drop i_16 decisions = suf18∧i_16 + suf18.length = decisions.length∧rangeL i_searching_visit_b1 suf18 i_16 p_17 = some j18∧f 0 = Pt g_0∧f 1 = v1∧f 6 = v13∧f 41 = v1∧f 42 = I (decisions.length : Int)∧f 43 = I i_16∧Star H w_ (oF 3 RP.int v13 p_17 :: oF 43 (rCon 112) v0_0 s.list :: oS 93 (oStep 112) v0_2 s.steps :: box g_0 85 #[v0_0,I (i64 (s.fuel - 1)),v0_2,Bo s.much] :: R)
 have hst:=hst.gets [1,3,3,3] rfl
 refine W_loop I18 (n:=decisions.length) ?_ ?_
 exact ij hI18 ⟨0,decisions,x9,rfl,rfl,Nat.zero_add _,hL18,sf0,sf1,rfl,rfl,rfl,rfl,hst⟩
 intro n18 f w_ hI
 obtain ⟨i_16,suf18,p_17,rfl,hd18,hl18,hL18,sf0,sf1,sf6,sf41,sf42,sf43,hst⟩:=ik hI18 hI
 refine sq (L_lss rfl sf43 sf42 (nq (W_cond (b:=decide ((i_16 : Int) < (decisions.length : Int))) rfl (fun hc19=>?_) (fun hc19=>?_))))
 have hlt18:=of_decide_eq_true hc19
 rcases suf18 with _ | ⟨x_18,rest18⟩
 exact absurd hlt18 (by simp at hl18; omega)
 obtain ⟨o18,hB18,hL18⟩:=range_cons hL18
 rw [i_searching_visit_b1] at hB18
 have hix18:=drop_idx hd18
 refine W_skip (W_seq (W_block (sq (L_ix (r:=RP.int) rfl Try.underlying65 Try.sizeOf3 sf41 h1 sf43 hix18 (fun g24 o25 cs_g24 hrk_hat26 hat26=>?_)))))
 obtain rfl : _ = [_]:=hrk_hat26
 refine L_ld rfl Try.isAgg3 rfl (At.cell (AtH.at hat26 hst.sub) (j:=0) rfl) (aI rfl (nq ?_))
 obtain ⟨x33,hx33,hB18⟩:=bind_some hB18
 obtain ⟨x35,hx35,hB18⟩:=bind_some hB18
 refine W_region (mF sf6 rfl (mI rfl ?_))
 obtain ⟨H39b,l40,s41,z42,k43⟩:=hst.borrow
 refine L_call rfl Try.call93 (ops1 rfl) (i_variableOf_c (l:=x_18) s41 hx33) ?_
 rintro _ w44 ⟨rfl,hst⟩
 have hst:=k43 hst c0
 refine L_sub rfl rfl rfl ?_
 obtain ⟨g45,cap_g45,hv46,_,_⟩:=Star.row 0 hst rfl hx35
 refine L_ixO (R:=(OR.frz RP.int)) (tb:=0) 0 rfl Try.underlying65 Try.sizeOf3 rfl hv46 (by first | rfl | simp) rfl hx35 ?_
 have hst:=Star.addF (r:=RP.int) (cs:=[I 1]) (x:=1) hst rfl
 refine L_stE1 (u:=I 1) rfl Try.sizeOf3 rfl rfl rfl hv46 hst hx35 (fun w47 hst=>ns (mI rfl (L_lss rfl rfl rfl (nn ?_))))
 obtain ⟨p_48,hA49,hB18⟩:=bind_some hB18
 obtain ⟨R49,hR49⟩:=exR fun f w_=>f 0 = Pt g_0∧f 1 = v1∧f 6 = v13∧f 41 = v1∧f 42 = I (decisions.length : Int)∧f 43 = I i_16∧Star H w_ (oF 3 RP.int v13 p_48 :: oF 43 (rCon 112) v0_0 s.list :: oS 93 (oStep 112) v0_2 s.steps :: box g_0 85 #[v0_0,I (i64 (s.fuel - 1)),v0_2,Bo s.much] :: R)
 refine W_join R49 ?_ ?_
 refine W_cond (b:=decide (x_18 < 0)) rfl (fun hc50=>?_) (fun hc50=>?_)
 have hA49:=(ite_t hc50).symm.trans hA49
 obtain ⟨x51,hx51,hA49⟩:=bind_some hA49
 refine W_region (mF sf6 rfl (mI rfl (L_neg rfl rfl (L_sub rfl rfl rfl (L_ixO (R:=(OR.frz RP.int)) (tb:=0) 0 rfl Try.underlying65 Try.sizeOf3 rfl hv46 (by first | rfl | simp) rfl hx51 ?_)))))
 have hst:=Star.addF (r:=RP.int) (cs:=[I (-1)]) (x:=(-1)) hst rfl
 refine L_stE1 (u:=I (-1)) rfl Try.sizeOf3 rfl rfl rfl hv46 hst hx51 (fun w53 hst=>nn ?_)
 obtain rfl:=so hA49
 exact rj hR49 ⟨sf0,sf1,sf6,sf41,sf42,sf43,hst⟩
 have hA49:=(ite_f hc50).symm.trans hA49
 refine W_skip ?_
 obtain rfl:=so hA49
 exact rj hR49 ⟨sf0,sf1,sf6,sf41,sf42,sf43,hst⟩
 intro f w_ hR
 obtain ⟨sf0,sf1,sf6,sf41,sf42,sf43,hst⟩:=rk hR49 hR
 refine W_region (L_add rfl sf43 rfl (mI rfl (nn ?_)))
 obtain rfl:=so hB18
 show ∃ m,m < _∧I18 m _ _
 refine ⟨rest18.length,by simp,?_⟩
 exact ij hI18 ⟨i_16 + 1,rest18,p_48,rfl,drop_next hd18,by simp at hl18; omega,hL18,sf0,sf1,sf6,sf41,sf42,(Eq.trans rfl (congrArg (Value.int .i64) (i64_succ (n:=decisions.length) (by simp at hl18; omega) hlen18))),hst⟩
 rcases suf18 with _ | ⟨_,_⟩
 obtain rfl:=range_nil hL18
 refine W_exit (rj hR18 ⟨p_17,rfl,sf0,sf1,sf6,hst⟩)
 exact absurd (of_decide_eq_false hc19) (by simp at hl18; omega)
 intro f w_ hR
 obtain ⟨p_17,rfl,sf0,sf1,sf6,hst⟩:=rk hR18 hR
 refine W_seq ?_
 obtain ⟨x61,hx61,hF⟩:=bind_some hF
 refine W_region (mF sf0 rfl (L_nc rfl rfl (fA 0 fa_85_0 rfl rfl (ldB 3 hst Try.isAgg23 rfl rfl rfl (mF sf6 rfl ?_)))))
 obtain ⟨H64b,l65,s66,z67,k68⟩:=hst.borrow
 have hb69 : (rS 43 (rCon 112)).rel H64b [v0_0] s.list:=fz_own 1 z67 rfl
 have hb70 : (rS 3 RP.int).rel H64b [v13] p_17:=fz_own 0 z67 rfl
 refine L_call rfl Try.call109 (ops2 rfl rfl) (i_propagate_c (list:=s.list) (p:=p_17) s66 hb69 hb70 hx61) ?_
 rintro _ w71 ⟨r71_0,rfl,hst⟩
 have hst:=k68 hst (co closed_int c0)
 refine mV (.tuple #[r71_0,I x61.2]) rfl (L_ex (v:=r71_0) rfl rfl rfl (L_ex (v:=I x61.2) rfl rfl rfl (aV r71_0 rfl (aI rfl (nq (sq (mI rfl (L_lss rfl rfl rfl (nn ?_)))))))))
 obtain ⟨j81,hA81,hF⟩:=bind_some hF
 obtain ⟨R81,hR81⟩:=exR fun f w_=>∃ g_0_0_73 : List Con,∃ g_0_1_75 : Int,∃ g_0_2_76 : List Step,∃ g_0_3_78 : Bool,∃ H79 : FH,∃ v73_g_0_0 v76_g_0_2 : Value,j81 = .nx (g_0_0_73,g_0_1_75,g_0_2_76,g_0_3_78)∧Le H H79∧f 0 = Pt g_0∧f 1 = v1∧Star H79 w_ (oF 43 (rCon 112) v73_g_0_0 g_0_0_73 :: oS 93 (oStep 112) v76_g_0_2 g_0_2_76 :: box g_0 85 #[v73_g_0_0,I g_0_1_75,v76_g_0_2,Bo g_0_3_78] :: R)
 refine W_join R81 ?_ ?_
 refine W_cond (b:=decide (x61.2 < 0)) rfl (fun hc82=>?_) (fun hc82=>?_)
 have hA81:=(ite_t hc82).symm.trans hA81
 refine W_seq ?_
 obtain ⟨x89,hx89,hA81⟩:=bind_some hA81
 refine W_region (mV r71_0 rfl ?_)
 obtain ⟨H92b,l93,s94,z95,k96⟩:=hst.borrow
 have hb97 : (rS 3 RP.int).rel H92b [r71_0] x61.1:=fz_own 0 z95 rfl
 refine L_call rfl Try.call110 (ops1 rfl) (i_valuesOf_c (p:=x61.1) s94 hb97 hx89) ?_
 rintro _ w98 ⟨r98_0,rfl,hst⟩
 have hst:=k96 hst (co closed_bool c0)
 refine mV (.tuple #[r98_0,I x89.2.1,Bo x89.2.2]) rfl (L_ex (v:=r98_0) rfl rfl rfl (L_ex (v:=I x89.2.1) rfl rfl rfl (L_ex (v:=Bo x89.2.2) rfl rfl rfl (aV r98_0 rfl (aI rfl (aB rfl (nq (sq (mB rfl (nn (W_cond (b:=x89.2.2) rfl (fun hc100=>?_) (fun hc100=>?_))))))))))))
 have hA81:=(ite_t hc100).symm.trans hA81
 refine sq (mV r98_0 rfl (aV r98_0 rfl (aB rfl (nn (W_ret (retG2 (v1:=r98_0) (v2:=Bo true) Try.results67 rfl rfl ?_))))))
 obtain rfl:=so hA81
 obtain rfl:=so hF
 have hst:=hst.gets [4,4,5,3] rfl
 have hst:=Star.drop 4 hst rfl
 have hst:=Star.drop 4 hst rfl
 exact ⟨H,(Le.refl _),r98_0,v0_0,v0_2,rfl,hst⟩
 have hA81:=(ite_f hc100).symm.trans hA81
 refine W_skip (W_seq (sq (mI rfl (mI rfl (L_neg rfl rfl (L_bs rfl (parts2 rfl rfl) (bs_65_2_0_0 (I x89.2.1) (I (i64 (-x89.2.1))) rfl rfl) hst (fun g104 w105 hst=>?_)))))))
 have hst:=Star.addF (r:=RP.int) (cs:=[I (i64 (-x89.2.1))]) (x:=(i64 (-x89.2.1))) hst rfl
 have hst:=Star.addF (r:=RP.int) (cs:=[I x89.2.1]) (x:=x89.2.1) hst rfl
 have hst:=Star.mkRow (R:=(OR.frz RP.int)) [([I x89.2.1],x89.2.1),([I (i64 (-x89.2.1))],i64 (-x89.2.1))] [x89.2.1,i64 (-x89.2.1)] 2 hst rfl rfl rfl (by decide)
 refine L_len rfl Try.underlying65 rfl (Star.len 0 hst rfl) (mI rfl (nn ?_))
 have hlen116 : List.length ([x89.2.1,i64 (-x89.2.1)])≤9223372036854775807:=len_le (Star.len 0 hst rfl)
 obtain ⟨j116,hL116,hA81⟩:=bind_some hA81
 obtain ⟨R116,hR116⟩:=exR fun f w_=>∃ g_0_0_108 : List Con,∃ g_0_1_110 : Int,∃ g_0_2_111 : List Step,∃ g_0_3_113 : Bool,∃ H114 : FH,∃ v108_g_0_0 v111_g_0_2 : Value,j116 = .nx (g_0_0_108,g_0_1_110,g_0_2_111,g_0_3_113)∧Le H H114∧f 0 = Pt g_0∧f 1 = v1∧Star H114 w_ (oF 43 (rCon 112) v108_g_0_0 g_0_0_108 :: oS 93 (oStep 112) v111_g_0_2 g_0_2_111 :: box g_0 85 #[v108_g_0_0,I g_0_1_110,v111_g_0_2,Bo g_0_3_113] :: R)
 refine W_join R116 ?_ ?_
 refine W_block ?_
 obtain ⟨I116,hI116⟩:=exI fun n f w_=>∃ i_107 : Nat,∃ suf116 : List Int,∃ g_0_0_108 : List Con,∃ g_0_1_110 : Int,∃ g_0_2_111 : List Step,∃ g_0_3_113 : Bool,∃ H114 : FH,∃ v108_g_0_0 v111_g_0_2 : Value,n = suf116.length∧List.drop i_107 ([x89.2.1,i64 (-x89.2.1)]) = suf116∧i_107 + suf116.length = ([x89.2.1,i64 (-x89.2.1)]).length∧rangeL (i_searching_visit_b2 decisions rec_) suf116 i_107 (g_0_0_108,g_0_1_110,g_0_2_111,g_0_3_113) = some j116∧Le H H114∧f 0 = Pt g_0∧f 1 = v1∧f 82 = (Sl g104 2 2)∧f 83 = I (([x89.2.1,i64 (-x89.2.1)]).length : Int)∧f 84 = I i_107∧Star H114 w_ (oF 3 RP.int (Sl g104 2 2) ([x89.2.1,i64 (-x89.2.1)]) :: oF 43 (rCon 112) v108_g_0_0 g_0_0_108 :: oS 93 (oStep 112) v111_g_0_2 g_0_2_111 :: box g_0 85 #[v108_g_0_0,I g_0_1_110,v111_g_0_2,Bo g_0_3_113] :: R)
 have hst:=hst.gets [6,6,6,3] rfl
 have hst:=Star.drop 4 hst rfl
 have hst:=Star.drop 4 hst rfl
 have hst:=Star.drop 4 hst rfl
 refine W_loop I116 (n:=([x89.2.1,i64 (-x89.2.1)]).length) ?_ ?_
 exact ij hI116 ⟨0,[x89.2.1,i64 (-x89.2.1)],s.list,i64 (s.fuel - 1),s.steps,s.much,H,v0_0,v0_2,rfl,rfl,Nat.zero_add _,hL116,(Le.refl _),sf0,sf1,rfl,rfl,rfl,hst⟩
 intro n116 f w_ hI
 obtain ⟨i_107,suf116,g_0_0_108,g_0_1_110,g_0_2_111,g_0_3_113,H114,v108_g_0_0,v111_g_0_2,rfl,hd116,hl116,hL116,l115,sf0,sf1,sf82,sf83,sf84,hst⟩:=ik hI116 hI
 refine sq (L_lss rfl sf84 sf83 (nq (W_cond (b:=decide ((i_107 : Int) < (([x89.2.1,i64 (-x89.2.1)]).length : Int))) rfl (fun hc117=>?_) (fun hc117=>?_))))
 have hlt116:=of_decide_eq_true hc117
 rcases suf116 with _ | ⟨x_116,rest116⟩
 exact absurd hlt116 (by simp only [List.length_cons,List.length_nil] at *; omega)
 obtain ⟨o116,hB116,hL116⟩:=range_cons hL116
 rw [i_searching_visit_b2] at hB116
 have hix116:=drop_idx hd116
 refine W_skip (W_seq (W_block (sq (L_ixO (R:=(OR.frz RP.int)) (tb:=0) (g:=g104) 0 rfl Try.underlying65 Try.sizeOf3 sf82 rfl (by first | rfl | simp) sf84 hix116 ?_))))
 obtain ⟨cs120,hr120,hat120⟩:=Star.eltF 0 hst rfl rfl hix116
 obtain rfl : _ = [_]:=hr120
 refine L_ld rfl Try.isAgg3 rfl (At.cell hat120 (j:=0) rfl) (aI rfl (nq ?_))
 obtain ⟨x127,hx127,hB116⟩:=bind_some hB116
 obtain ⟨x133,hx133,hB116⟩:=bind_some hB116
 obtain ⟨x140,hx140,hB116⟩:=bind_some hB116
 refine W_region (mF sf0 rfl (mF sf1 rfl ?_))
 obtain ⟨H145b,l146,s147,z148,k149⟩:=hst.borrow
 refine L_call rfl Try.call90 (ops1 rfl) (slices_Clone_int_c (s:=decisions) s147 (RP.mono _ h1 (Le.trans l115 l146)) hx127) ?_
 rintro r150_0 w150 ⟨_,rfl,hst⟩
 have hst:=k149 hst (co closed_int c0)
 refine mI rfl (L_bs rfl (parts1 rfl) (bs_65_1_0 (I x_116) rfl) hst (fun g152 w153 hst=>?_))
 have hst:=Star.addF (r:=RP.int) (cs:=[I x_116]) (x:=x_116) hst rfl
 have hst:=Star.mkRow (R:=(OR.frz RP.int)) [([I x_116],x_116)] [x_116] 1 hst rfl rfl rfl (by decide)
 have hst:=hst.get 1 rfl
 refine L_appM (v:=r150_0) (u:=(Sl g152 1 1)) rfl et_65 rfl rfl hst hx133 (fun v155 w156 hst=>?_)
 obtain ⟨H158,l159,hst,hz160⟩:=Star.freeze hst
 have hz160 : (rS 3 RP.int).rel H158 [v155] x133:=hz160
 have hst:=hst.gets [2,2,3] rfl
 refine L_call rfl Try.call67 (ops2 rfl rfl) (hrec (s:=({ list:=g_0_0_108,fuel:=g_0_1_110,steps:=g_0_2_111,much:=g_0_3_113 } : Srch)) (decisions:=x133) hst hz160 hx140) ?_
 rintro _ w161 ⟨H161,l161,r161_0,r161_1,r161_2,rfl,hst⟩
 refine mV (.tuple #[r161_0,Bo x140.2.1]) rfl (L_ex (v:=r161_0) rfl rfl rfl (L_ex (v:=Bo x140.2.1) rfl rfl rfl (aV r161_0 rfl (aB rfl (nq ?_)))))
 obtain ⟨R165,hR165⟩:=exR fun f w_=>f 0 = Pt g_0∧f 1 = v1∧f 15 = r161_0∧f 16 = Bo x140.2.1∧f 82 = (Sl g104 2 2)∧f 83 = I (([x89.2.1,i64 (-x89.2.1)]).length : Int)∧f 84 = I i_107∧f 104 = Bo (x140.2.1 || x140.2.2.2.2.2)∧Star H161 w_ (oF 4 RP.bool r161_0 x140.1 :: oF 3 RP.int (Sl g104 2 2) ([x89.2.1,i64 (-x89.2.1)]) :: oF 43 (rCon 112) r161_1 x140.2.2.1 :: oS 93 (oStep 112) r161_2 x140.2.2.2.2.1 :: box g_0 85 #[r161_1,I x140.2.2.2.1,r161_2,Bo x140.2.2.2.2.2] :: R)
 refine W_join R165 ?_ ?_
 refine W_region (mB rfl (mB rfl (L_split (d:=99) (b:=x140.2.1) rfl (fun hc166=>?_) (fun hc166=>?_))))
 refine ps rfl (ps rfl (ps rfl (ps rfl (L_pick (v:=Bo (x140.2.1 || x140.2.2.2.2.2)) rfl rfl (or_t hc166) (nn ?_)))))
 have hst:=hst.gets [1,3,3,4,4] rfl
 exact rj hR165 ⟨sf0,sf1,rfl,rfl,sf82,sf83,sf84,rfl,hst⟩
 refine mF sf0 rfl (L_nc rfl rfl (fA 3 fa_85_3 rfl rfl (ldB 1 hst Try.isAgg4 rfl rfl rfl (L_pick (v:=Bo (x140.2.1 || x140.2.2.2.2.2)) rfl rfl (or_f hc166 rfl) (nn ?_)))))
 have hst:=hst.gets [1,3,3,4,4] rfl
 exact rj hR165 ⟨sf0,sf1,rfl,rfl,sf82,sf83,sf84,rfl,hst⟩
 intro f w_ hR
 obtain ⟨sf0,sf1,sf15,sf16,sf82,sf83,sf84,sf104,hst⟩:=rk hR165 hR
 refine W_cond (b:=(x140.2.1 || x140.2.2.2.2.2)) sf104 (fun hc167=>?_) (fun hc167=>?_)
 have hB116:=(ite_t hc167).symm.trans hB116
 refine sq (mF sf15 rfl (mF sf16 rfl (aV r161_0 rfl (aB rfl (nn (W_ret (retG2 (v1:=r161_0) (v2:=Bo x140.2.1) Try.results67 rfl rfl ?_)))))))
 obtain rfl:=so hB116
 obtain rfl:=so hL116
 obtain rfl:=so hA81
 obtain rfl:=so hF
 have hst:=hst.gets [3,3,4,3] rfl
 have hst:=Star.drop 4 hst rfl
 exact ⟨H161,(Le.trans (Le.trans l115 l159) l161),r161_0,r161_1,r161_2,rfl,hst⟩
 have hB116:=(ite_f hc167).symm.trans hB116
 refine W_skip (W_region (L_add rfl sf84 rfl (mI rfl (nn ?_))))
 obtain rfl:=so hB116
 have hst:=hst.gets [4,4,4,4] rfl
 have hst:=Star.drop 4 hst rfl
 show ∃ m,m < _∧I116 m _ _
 refine ⟨rest116.length,by simp,?_⟩
 exact ij hI116 ⟨i_107 + 1,rest116,x140.2.2.1,x140.2.2.2.1,x140.2.2.2.2.1,x140.2.2.2.2.2,H161,r161_1,r161_2,rfl,drop_next hd116,by simp only [List.length_cons,List.length_nil] at *; omega,hL116,(Le.trans (Le.trans l115 l159) l161),sf0,sf1,sf82,sf83,(Eq.trans rfl (congrArg (Value.int .i64) (i64_succ (n:=([x89.2.1,i64 (-x89.2.1)]).length) (by simp only [List.length_cons,List.length_nil] at *; omega) hlen116))),hst⟩
 rcases suf116 with _ | ⟨_,_⟩
 obtain rfl:=range_nil hL116
 refine W_exit ?_
 have hst:=hst.gets [3,3,3] rfl
 have hst:=Star.drop 3 hst rfl
 exact rj hR116 ⟨g_0_0_108,g_0_1_110,g_0_2_111,g_0_3_113,H114,v108_g_0_0,v111_g_0_2,rfl,l115,sf0,sf1,hst⟩
 exact absurd (of_decide_eq_false hc117) (by simp only [List.length_cons,List.length_nil] at *; omega)
 intro f w_ hR
 obtain ⟨g_0_0_108,g_0_1_110,g_0_2_111,g_0_3_113,H114,v108_g_0_0,v111_g_0_2,rfl,l115,sf0,sf1,hst⟩:=rk hR116 hR
 refine sq (mF sf0 rfl (L_nc rfl rfl (fA 2 fa_85_2 rfl rfl (ldB 2 hst Try.isAgg30 rfl rfl rfl (L_len rfl Try.underlying30 rfl (Star.len 1 hst rfl) (L_geq rfl rfl rfl (nn (W_cond (b:=decide ((g_0_2_111.length : Int) ≥ 1000)) rfl (fun hc168=>?_) (fun hc168=>?_)))))))))
 have hA81:=(ite_t hc168).symm.trans hA81
 refine sq (mF sf0 rfl (L_nc rfl rfl (fA 3 fa_85_3 rfl rfl (L_stB (v:=Bo true) (cs2:=#[v108_g_0_0,I g_0_1_110,v111_g_0_2,Bo true]) 2 rfl Try.sizeOf4 rfl rfl rfl hst rfl rfl rfl (fun w170 hst=>ns (aV S0 rfl (aB rfl (nn (W_ret (retG2 (v1:=S0) (v2:=Bo false) Try.results67 rfl rfl ?_))))))))))
 obtain rfl:=so hA81
 obtain rfl:=so hF
 have hst:=Star.addNil (R:=(OR.frz RP.bool)) (e:=4) hst
 exact ⟨H114,l115,S0,v108_g_0_0,v111_g_0_2,rfl,hst⟩
 have hA81:=(ite_f hc168).symm.trans hA81
 refine W_skip ?_
 obtain rfl:=so hA81
 exact rj hR81 ⟨g_0_0_108,g_0_1_110,g_0_2_111,g_0_3_113,H114,v108_g_0_0,v111_g_0_2,rfl,l115,sf0,sf1,hst⟩
 have hA81:=(ite_f hc82).symm.trans hA81
 refine W_skip ?_
 obtain rfl:=so hA81
 have hst:=hst.gets [4,4,4] rfl
 have hst:=Star.drop 3 hst rfl
 have hst:=Star.drop 3 hst rfl
 exact rj hR81 ⟨s.list,i64 (s.fuel - 1),s.steps,s.much,H,v0_0,v0_2,rfl,(Le.refl _),sf0,sf1,hst⟩
 intro f w_ hR
 obtain ⟨g_0_0_73,g_0_1_75,g_0_2_76,g_0_3_78,H79,v73_g_0_0,v76_g_0_2,rfl,l80,sf0,sf1,hst⟩:=rk hR81 hR
 refine W_seq ?_
 obtain ⟨x172,hx172,hF⟩:=bind_some hF
 refine W_region (mF sf0 rfl (mF sf1 rfl ?_))
 have hst:=hst.gets [1,1,2] rfl
 refine L_call rfl Try.call111 (ops2 rfl rfl) (i_searching_fail_c (s:=({ list:=g_0_0_73,fuel:=g_0_1_75,steps:=g_0_2_76,much:=g_0_3_78 } : Srch)) (decisions:=decisions) hst (RP.mono _ h1 l80) hx172) ?_
 rintro _ w176 ⟨H176,l176,r176_0,r176_1,rfl,hst⟩
 refine ns (aV S0 rfl (aB rfl (nn (W_ret (retG2 (v1:=S0) (v2:=Bo false) Try.results67 rfl rfl ?_)))))
 obtain rfl:=so hF
 have hst:=Star.addNil (R:=(OR.frz RP.bool)) (e:=4) hst
 exact ⟨H176,(Le.trans l80 l176),S0,r176_0,r176_1,rfl,hst⟩
theorem i_searching_visit_R_c {fu : Nat} : ∀ (n : Nat) {s : Srch} {decisions : List Int} {g_0 : Nat} {v0_0 : Value} {v0_2 : Value} {v1 : Value} {H : FH} {w : World} {R : List Ass} (hst : Star H w (box g_0 85 #[v0_0,I s.fuel,v0_2,Bo s.much] :: oF 43 (rCon 112) v0_0 s.list :: oS 93 (oStep 112) v0_2 s.steps :: R)) (h1 : (rS 3 RP.int).rel H [v1] decisions) {r : (List Bool) × Bool × (List Con) × Int × (List Step) × Bool} (hF : i_searching_visit_R fu n s decisions = some r),C Try.prog 67 #[Pt g_0,v1] w fun v w'=>∃ H' : FH,Le H H'∧∃ (u1 : Value) (u2 : Value) (u3 : Value),v = .tuple #[u1,Bo r.2.1]∧Star H' w' (oF 4 RP.bool u1 r.1 :: box g_0 85 #[u2,I r.2.2.2.1,u3,Bo r.2.2.2.2.2] :: oF 43 (rCon 112) u2 r.2.2.1 :: oS 93 (oStep 112) u3 r.2.2.2.2.1 :: R):=by
 intro n
 induction n with
 | zero=>intros; rename_i hF; cases hF
 | succ n ih=>intros; rename_i hst h1 _ hF; exact i_searching_visit_F_c ih hst h1 hF
theorem i_searching_visit_c {fu : Nat} {s : Srch} {decisions : List Int} {g_0 : Nat} {v0_0 : Value} {v0_2 : Value} {v1 : Value} {H : FH} {w : World} {R : List Ass} (hst : Star H w (box g_0 85 #[v0_0,I s.fuel,v0_2,Bo s.much] :: oF 43 (rCon 112) v0_0 s.list :: oS 93 (oStep 112) v0_2 s.steps :: R)) (h1 : (rS 3 RP.int).rel H [v1] decisions) {r : (List Bool) × Bool × (List Con) × Int × (List Step) × Bool} (hF : i_searching_visit fu s decisions = some r) :
 C Try.prog 67 #[Pt g_0,v1] w fun v w'=>∃ H' : FH,Le H H'∧∃ (u1 : Value) (u2 : Value) (u3 : Value),v = .tuple #[u1,Bo r.2.1]∧Star H' w' (oF 4 RP.bool u1 r.1 :: box g_0 85 #[u2,I r.2.2.2.1,u3,Bo r.2.2.2.2.2] :: oF 43 (rCon 112) u2 r.2.2.1 :: oS 93 (oStep 112) u3 r.2.2.2.2.1 :: R):=i_searching_visit_R_c fu hst h1 hF
theorem i_SolveProblem_c {fu : Nat} {list : List Con} {fuel : Int} {v0 : Value} {H : FH} {w : World} (hst : Star H w []) (h0 : (rS 43 (rCon 112)).rel H [v0] list) {r : Int × (List Bool) × (List Step)} (hF : i_SolveProblem fu list fuel = some r) :
 C Try.prog 17 #[v0,I fuel] w fun v w'=>∃ (u1 : Value) (u2 : Value),v = .tuple #[I r.1,u1,u2]∧Star H w' [oF 4 RP.bool u1 r.2.1,oS 93 (oStep 112) u2 r.2.2]:=by
 unfold i_SolveProblem at hF
 refine C_enter Try.func17 rfl Try.ntmps17 rfl (sq (aI rfl (aV S0 rfl (aV S0 rfl (nq (W_seq ?_))))))
 obtain ⟨x6,hx6,hF⟩:=bind_some hF
 obtain ⟨b15,hb15,hF⟩:=bind_some hF
 obtain ⟨R16,hR16⟩:=exR fun f w_=>f 0 = v0∧f 1 = I fuel∧f 17 = Bo b15∧Star H w_ ([])
 refine W_join R16 ?_ ?_
 refine W_region (mV v0 rfl ?_)
 obtain ⟨H17b,l18,s19,z20,k21⟩:=hst.borrow
 refine L_call rfl Try.call58 (ops1 rfl) (i_ProblemValid_c (list:=list) s19 (RP.mono _ h0 l18) hx6) ?_
 rintro _ w22 ⟨rfl,hst⟩
 have hst:=k21 hst c0
 refine L_not_ rfl rfl (mB rfl (L_split (d:=13) (b:=(!x6)) rfl (fun hc23=>?_) (fun hc23=>?_)))
 rw [ite_t hc23] at hb15
 refine ps rfl (ps rfl (ps rfl (L_pick (v:=Bo b15) rfl rfl (congrArg Value.bool (so hb15)) (nn (rj hR16 ⟨rfl,rfl,rfl,hst⟩)))))
 rw [ite_f hc23] at hb15
 obtain ⟨x13,hx13,hb15⟩:=bind_some hb15
 refine mI rfl ?_
 obtain ⟨H24b,l25,s26,z27,k28⟩:=hst.borrow
 refine L_call rfl Try.call65 (ops1 rfl) (i_isFuel_c (fuel:=fuel) s26 hx13) ?_
 rintro _ w29 ⟨rfl,hst⟩
 have hst:=k28 hst c0
 refine L_not_ rfl rfl (L_pick (v:=Bo b15) rfl rfl (congrArg Value.bool (so hb15)) (nn (rj hR16 ⟨rfl,rfl,rfl,hst⟩)))
 intro f w_ hR
 obtain ⟨sf0,sf1,sf17,hst⟩:=rk hR16 hR
 refine W_cond (b:=b15) sf17 (fun hc30=>?_) (fun hc30=>?_)
 have hF:=(ite_t hc30).symm.trans hF
 refine sq (aI rfl (aV S0 rfl (aV S0 rfl (nn (W_ret (retG3 (v1:=I 3) (v2:=S0) (v3:=S0) Try.results17 rfl rfl rfl ?_))))))
 obtain rfl:=so hF
 have hst:=Star.addNil (R:=(OR.frz RP.bool)) (e:=4) hst
 have hst:=Star.addNil (R:=(oStep 112)) (e:=93) hst
 have hst:=hst.get 1 rfl
 exact ⟨S0,S0,rfl,hst⟩
 have hF:=(ite_f hc30).symm.trans hF
 refine W_skip (W_seq ?_)
 obtain ⟨x33,hx33,hF⟩:=bind_some hF
 refine W_region (mF sf0 rfl (L_call rfl Try.call66 (ops1 rfl) (slices_Clone_implConstraint_c (s:=list) hst h0 hx33) ?_))
 rintro r38_0 w38 ⟨H38,l38,_,rfl,hst⟩
 refine mF sf1 rfl (L_bld rfl (parts2 rfl rfl) (bld_85_0_1 (r38_0) (I fuel) (one_len (Star.len 0 hst rfl)) rfl) (L_box (v:=.agg #[r38_0,I fuel,S0,Bo false]) (cs:=#[r38_0,I fuel,S0,Bo false]) rfl rfl rfl hst (fun g40 w41 hst=>aV (Pt g40) rfl (nq ?_))))
 obtain ⟨x43,hx43,hF⟩:=bind_some hF
 refine W_region (mV (Pt g40) rfl ?_)
 have hst:=Star.addNil (R:=(oStep 112)) (e:=93) hst
 have hst:=hst.gets [2,2] rfl
 refine L_call rfl Try.call67 (ops2 rfl rfl) (i_searching_visit_c (s:=({ list:=x33,fuel:=fuel,steps:=[],much:=false } : Srch)) (decisions:=[]) hst (rel_nil _ _ _) hx43) ?_
 rintro _ w49 ⟨H49,l49,r49_0,r49_1,r49_2,rfl,hst⟩
 refine mV (.tuple #[r49_0,Bo x43.2.1]) rfl (L_ex (v:=r49_0) rfl rfl rfl (L_ex (v:=Bo x43.2.1) rfl rfl rfl (aV r49_0 rfl (aB rfl (nq (W_block (sq (mB rfl (aB rfl (nn (W_cond (b:=x43.2.1) rfl (fun hc53=>?_) (fun hc53=>?_))))))))))))
 have hF:=(ite_t hc53).symm.trans hF
 refine sq (mV r49_0 rfl (aI rfl (aV r49_0 rfl (aV S0 rfl (nn (W_ret (retG3 (v1:=I 1) (v2:=r49_0) (v3:=S0) Try.results17 rfl rfl rfl ?_)))))))
 obtain rfl:=so hF
 have hst:=Star.addNil (R:=(oStep 112)) (e:=93) hst
 have hst:=hst.get 1 rfl
 exact ⟨r49_0,S0,rfl,(Star.down (Star.keepN 2 hst) (Le.trans l38 l49) (co closed_bool (co closed_oStep c0)))⟩
 have hF:=(ite_f hc53).symm.trans hF
 refine sq (mV (Pt g40) rfl (L_nc rfl rfl (fA 3 fa_85_3 rfl rfl (ldB 1 hst Try.isAgg4 rfl rfl rfl (aB rfl (nn (W_cond (b:=x43.2.2.2.2.2) rfl (fun hc55=>?_) (fun hc55=>?_))))))))
 have hF:=(ite_t hc55).symm.trans hF
 refine sq (aI rfl (aV S0 rfl (aV S0 rfl (nn (W_ret (retG3 (v1:=I 0) (v2:=S0) (v3:=S0) Try.results17 rfl rfl rfl ?_))))))
 obtain rfl:=so hF
 have hst:=Star.addNil (R:=(OR.frz RP.bool)) (e:=4) hst
 have hst:=Star.addNil (R:=(oStep 112)) (e:=93) hst
 have hst:=hst.get 1 rfl
 exact ⟨S0,S0,rfl,(Star.down (Star.keepN 2 hst) (Le.trans l38 l49) (co closed_bool (co closed_oStep c0)))⟩
 have hF:=(ite_f hc55).symm.trans hF
 refine W_skip (W_seq ?_)
 have hst:=Star.drop 0 hst rfl
 refine W_drawS 6 [isV (Pt g40),isV (Pt g40),isV (Pq g40 2),isV (r49_2),isV (I 2),isV (S0)] [box g40 85 #[r49_1,I x43.2.2.2.1,r49_2,Bo x43.2.2.2.2.2],oF 43 (rCon 112) r49_1 x43.2.2.1,oS 93 (oStep 112) r49_2 x43.2.2.2.2.1] [] ([]) [([],[]),([],[]),([],[]),([],[]),([],[]),([],[])] (S:=[]) Try_mix (by kernel_rfl) rfl (by kernel_rfl) (amF_cons (mono_V _) (amF_cons (mono_V _) (amF_cons (mono_V _) (amF_cons (mono_V _) (amF_cons (mono_V _) (amF_cons (mono_V _) amF_nil)))))) hst ?_ (fun f w_ H58 hS58 hE58 hT58 hst=>?_)
 refine opsS_cons (fun f w_ _ _ s _ _ hst=>mF ((s 7 rfl).trans rfl) rfl (nO rfl rfl hst)) (opsS_cons (fun f w_ _ _ _ _ p hst=>L_nc rfl (p 0 36 rfl rfl) (nO rfl rfl hst)) (opsS_cons (fun f w_ _ _ _ _ p hst=>fA 2 fa_85_2 (p 1 37 rfl rfl) rfl (nO rfl rfl hst)) (opsS_cons (fun f w_ _ _ _ _ p hst=>ldB 0 hst Try.isAgg30 (p 2 38 rfl rfl) rfl rfl (nO rfl rfl hst)) (opsS_cons (fun f w_ _ _ _ _ _ hst=>aI rfl (nO rfl rfl hst)) (opsS_cons (fun f w_ _ _ _ _ _ hst=>aV S0 rfl (nO rfl rfl hst)) (opsS_nil))))))
 refine aF (hT58 3 39 rfl rfl) rfl (nn (W_ret (retG3 (v1:=I 2) (v2:=S0) (v3:=r49_2) Try.results17 (hT58 4 4 rfl rfl) (hT58 5 5 rfl rfl) rfl ?_)))
 obtain rfl:=so hF
 have hst:=Star.addNil (R:=(OR.frz RP.bool)) (e:=4) hst
 have hst:=hst.gets [3,1] rfl
 exact ⟨S0,r49_2,rfl,(Star.down (Star.keepN 2 hst) (Le.trans (Le.trans l38 l49) hE58) (co closed_bool (co closed_oStep c0)))⟩
theorem s_l5Fuel_c {r_ : Rd} {g_0 : Nat} {v0_0 : Value} {H : FH} {w : World} (hst : Star H w [box g_0 119 #[v0_0,I r_.p]]) (h0_0 : (rS 5 RP.u8).rel H [v0_0] r_.b) {r : Int × Int} (hF : s_l5Fuel r_ = some r) :
 C Try.prog 68 #[Pt g_0] w fun v w'=>v = I r.1∧Star H w' [box g_0 119 #[v0_0,I r.2]]:=by
 unfold s_l5Fuel at hF
 refine C_enter Try.func68 rfl Try.ntmps68 rfl (sq (aI rfl (nq ?_)))
 obtain ⟨x10,hx10,hF⟩:=bind_some hF
 refine W_region (mV (Pt g_0) rfl (L_bs rfl (parts9 rfl rfl rfl rfl rfl rfl rfl rfl rfl) (bs_65_9_0_0_0_0_0_0_0_0_0 (I 200) (I 100) (I 300) (I 2) (I 5) (I 0) (I 1) (I (-1)) (I 2001) rfl rfl rfl rfl rfl rfl rfl rfl rfl) hst (fun g12 w13 hst=>?_)))
 have hst:=litInts [200,100,300,2,5,0,1,(-1),2001] 9 hst rfl rfl (by decide)
 have hst:=hst.get 1 rfl
 obtain ⟨H15b,l16,s17,z18,k19⟩:=hst.lend [_]
 have hb20 : (rS 3 RP.int).rel H15b [(Sl g12 9 9)] ([200,100,300,2,5,0,1,(-1),2001]):=fz_own 0 z18 rfl
 refine L_call rfl Try.call87 (ops2 rfl rfl) (s_l17Rd_num_c (r_:=r_) (list:=[200,100,300,2,5,0,1,(-1),2001]) s17 (RP.mono _ h0_0 l16) hb20 hx10) ?_
 rintro _ w21 ⟨rfl,hst⟩
 have hst:=k19 hst (cb c0)
 refine aI rfl (nn (W_ret (retG1 (v1:=I x10.1) Try.results68 rfl ?_)))
 obtain rfl:=so hF
 exact ⟨rfl,(Star.keepN 1 hst)⟩
theorem s_l3Assign_c {p : List Int} {lit : Int} {v0 : Value} {H : FH} {w : World} (hst : Star H w [oF 3 RP.int v0 p]) {r : List Int} (hF : s_l3Assign p lit = some r) :
 C Try.prog 112 #[v0,I lit] w fun v w'=>v = .tuple #[]∧Star H w' [oF 3 RP.int v0 r]:=by
 unfold s_l3Assign at hF
 refine C_enter Try.func112 rfl Try.ntmps112 rfl (sq (mI rfl (L_gtr rfl rfl rfl (nn ?_))))
 obtain ⟨kp_1,hA2,hF⟩:=bind_some hF
 obtain ⟨R2,hR2⟩:=exR fun f w_=>Star H w_ ([oF 3 RP.int v0 kp_1])
 refine W_join R2 ?_ ?_
 refine W_cond (b:=decide (lit > 0)) rfl (fun hc3=>?_) (fun hc3=>?_)
 have hA2:=(ite_t hc3).symm.trans hA2
 obtain ⟨x4,hx4,hA2⟩:=bind_some hA2
 refine W_region (mV v0 rfl (mI rfl (L_sub rfl rfl rfl ?_)))
 obtain ⟨g8,cap_g8,hv9,_,_⟩:=Star.row 0 hst rfl hx4
 refine L_ixO (R:=(OR.frz RP.int)) (tb:=0) 0 rfl Try.underlying65 Try.sizeOf3 rfl hv9 (by first | rfl | simp) rfl hx4 ?_
 have hst:=Star.addF (r:=RP.int) (cs:=[I 1]) (x:=1) hst rfl
 refine L_stE1 (u:=I 1) rfl Try.sizeOf3 rfl rfl rfl hv9 hst hx4 (fun w10 hst=>nn ?_)
 obtain rfl:=so hA2
 exact rj hR2 hst
 have hA2:=(ite_f hc3).symm.trans hA2
 obtain ⟨x11,hx11,hA2⟩:=bind_some hA2
 refine W_region (mV v0 rfl (mI rfl (L_neg rfl rfl (L_sub rfl rfl rfl ?_))))
 obtain ⟨g15,cap_g15,hv16,_,_⟩:=Star.row 0 hst rfl hx11
 refine L_ixO (R:=(OR.frz RP.int)) (tb:=0) 0 rfl Try.underlying65 Try.sizeOf3 rfl hv16 (by first | rfl | simp) rfl hx11 ?_
 have hst:=Star.addF (r:=RP.int) (cs:=[I (-1)]) (x:=(-1)) hst rfl
 refine L_stE1 (u:=I (-1)) rfl Try.sizeOf3 rfl rfl rfl hv16 hst hx11 (fun w17 hst=>nn ?_)
 obtain rfl:=so hA2
 exact rj hR2 hst
 intro f w_ hR
 rw [hR2] at hR
 have hst:=hR
 clear hR2
 refine ret0 Try.results112 ?_
 obtain rfl:=so hF
 exact ⟨rfl,hst⟩
theorem s_l3State_c {p : List Int} {lit : Int} {v0 : Value} {H : FH} {w : World} (hst : Star H w []) (h0 : (rS 3 RP.int).rel H [v0] p) {r : Int} (hF : s_l3State p lit = some r) :
 C Try.prog 147 #[v0,I lit] w fun v w'=>v = I r∧Star H w' []:=by
 unfold s_l3State at hF
 refine C_enter Try.func147 rfl Try.ntmps147 rfl (sq (aI rfl (nq (sq (mI rfl (L_gtr rfl rfl rfl (nn (W_cond (b:=decide (lit > 0)) rfl (fun hc1=>?_) (fun hc1=>?_)))))))))
 have hF:=(ite_t hc1).symm.trans hF
 refine W_seq ?_
 obtain ⟨x2,hx2,hF⟩:=bind_some hF
 refine W_region (mV v0 rfl (mI rfl (L_sub rfl rfl rfl (L_ix (r:=RP.int) rfl Try.underlying65 Try.sizeOf3 rfl h0 rfl hx2 (fun g7 o8 cs_g7 hrk_hat9 hat9=>?_)))))
 obtain rfl : _ = [_]:=hrk_hat9
 refine L_ld rfl Try.isAgg3 rfl (At.cell (AtH.at hat9 hst.sub) (j:=0) rfl) (aI rfl (nn (W_ret (retG1 (v1:=I x2) Try.results147 rfl ?_))))
 obtain rfl:=so hF
 exact ⟨rfl,hst⟩
 have hF:=(ite_f hc1).symm.trans hF
 refine W_skip (W_seq ?_)
 obtain ⟨x11,hx11,hF⟩:=bind_some hF
 refine W_region (mV v0 rfl (mI rfl (L_neg rfl rfl (L_sub rfl rfl rfl (L_ix (r:=RP.int) rfl Try.underlying65 Try.sizeOf3 rfl h0 rfl hx11 (fun g16 o17 cs_g16 hrk_hat18 hat18=>?_))))))
 obtain rfl : _ = [_]:=hrk_hat18
 refine L_ld rfl Try.isAgg3 rfl (At.cell (AtH.at hat18 hst.sub) (j:=0) rfl) (L_neg rfl rfl (aI rfl (nn (W_ret (retG1 (v1:=I (i64 (-x11))) Try.results147 rfl ?_)))))
 obtain rfl:=so hF
 exact ⟨rfl,hst⟩
theorem s_l3Slack_c {c : Con} {p : List Int} {v0_0 : Value} {v1 : Value} {H : FH} {w : World} (hst : Star H w []) (h0_0 : (rS 112 rTerm).rel H [v0_0] c.terms) (h1 : (rS 3 RP.int).rel H [v1] p) {r : Int} (hF : s_l3Slack c p = some r) :
 C Try.prog 133 #[.agg #[v0_0,I c.bound],v1] w fun v w'=>v = I r∧Star H w' []:=by
 unfold s_l3Slack at hF
 refine C_enter Try.func133 rfl Try.ntmps133 rfl (sq (L_box (v:=.agg #[v0_0,I c.bound]) (cs:=#[v0_0,I c.bound]) rfl rfl rfl hst (fun g3 w4 hst=>aI rfl (ns (fA 1 fa_43_1 rfl rfl (ldB 0 hst Try.isAgg3 rfl rfl rfl (L_neg rfl rfl (aI rfl (nq (sq (aI rfl (nn ?_))))))))))))
 have hlen7 : List.length c.terms≤9223372036854775807:=len_le (slice_len h0_0)
 obtain ⟨j7,hL7,hF⟩:=bind_some hF
 obtain ⟨R7,hR7⟩:=exR fun f w_=>∃ n_6 : Int,j7 = .nx n_6∧f 5 = I n_6∧Star H w_ ([])
 refine W_join R7 ?_ ?_
 refine W_block ?_
 obtain ⟨I7,hI7⟩:=exI fun n f w_=>∃ i_5 : Nat,∃ suf7 : List Term,∃ n_6 : Int,n = suf7.length∧List.drop i_5 c.terms = suf7∧i_5 + suf7.length = c.terms.length∧rangeL (s_l3Slack_b1 p) suf7 i_5 n_6 = some j7∧f 1 = v1∧f 2 = Pt g3∧f 5 = I n_6∧f 6 = I i_5∧Star H w_ ([box g3 43 #[v0_0,I c.bound]])
 refine W_loop I7 (n:=c.terms.length) ?_ ?_
 exact ij hI7 ⟨0,c.terms,i64 (-c.bound),rfl,rfl,Nat.zero_add _,hL7,rfl,rfl,rfl,rfl,hst⟩
 intro n7 f w_ hI
 obtain ⟨i_5,suf7,n_6,rfl,hd7,hl7,hL7,sf1,sf2,sf5,sf6,hst⟩:=ik hI7 hI
 refine W_seq (sq (mF sf6 rfl (fA 0 fa_43_0 sf2 rfl (ldB 0 hst Try.isAgg41 rfl rfl rfl (L_len rfl Try.underlying41 rfl (slice_len h0_0) (L_lss rfl rfl rfl (nn (W_cond (b:=decide ((i_5 : Int) < (c.terms.length : Int))) rfl (fun hc8=>?_) (fun hc8=>?_)))))))))
 have hlt7:=of_decide_eq_true hc8
 rcases suf7 with _ | ⟨x_7,rest7⟩
 exact absurd hlt7 (by simp at hl7; omega)
 obtain ⟨o7,hB7,hL7⟩:=range_cons hL7
 rw [s_l3Slack_b1] at hB7
 have hix7:=drop_idx hd7
 refine W_skip (W_seq (W_block (W_seq ?_)))
 obtain ⟨x18,hx18,hB7⟩:=bind_some hB7
 refine W_region (mF sf1 rfl (fA 0 fa_43_0 sf2 rfl (ldB 0 hst Try.isAgg41 rfl rfl rfl (mF sf6 rfl (L_ix (r:=rTerm) rfl Try.underlying41 Try.sizeOf112 rfl h0_0 rfl hix7 (fun g20 o21 cs_g20 hrk_hat22 hat22=>?_))))))
 obtain rfl:=rTerm_iff.1 hrk_hat22
 refine fA (o21 + 1) fa_112_1 rfl rfl (L_ld rfl Try.isAgg3 rfl (At.cell (AtH.at hat22 hst.sub) (j:=1) rfl) ?_)
 obtain ⟨H24b,l25,s26,z27,k28⟩:=hst.borrow
 refine L_call rfl Try.call147 (ops2 rfl rfl) (s_l3State_c (p:=p) (lit:=x_7.lit) s26 (RP.mono _ h1 l25) hx18) ?_
 rintro _ w29 ⟨rfl,hst⟩
 have hst:=k28 hst c0
 refine L_geq rfl rfl rfl (nn ?_)
 obtain ⟨n_30,hA31,hB7⟩:=bind_some hB7
 obtain ⟨R31,hR31⟩:=exR fun f w_=>f 1 = v1∧f 2 = Pt g3∧f 5 = I n_30∧f 6 = I i_5∧Star H w_ ([box g3 43 #[v0_0,I c.bound]])
 refine W_join R31 ?_ ?_
 refine W_cond (b:=decide (x18 ≥ 0)) rfl (fun hc32=>?_) (fun hc32=>?_)
 have hA31:=(ite_t hc32).symm.trans hA31
 refine W_region (mF sf5 rfl (fA 0 fa_43_0 sf2 rfl (ldB 0 hst Try.isAgg41 rfl rfl rfl (mF sf6 rfl (L_ix (r:=rTerm) rfl Try.underlying41 Try.sizeOf112 rfl h0_0 rfl hix7 (fun g37 o38 cs_g37 hrk_hat39 hat39=>?_))))))
 obtain rfl:=rTerm_iff.1 hrk_hat39
 refine fA o38 fa_112_0 rfl rfl (L_ld rfl Try.isAgg3 rfl (At.cell (AtH.at hat39 hst.sub) (j:=0) rfl) (L_add rfl rfl rfl (aI rfl (nn ?_))))
 obtain rfl:=so hA31
 exact rj hR31 ⟨sf1,sf2,rfl,sf6,hst⟩
 have hA31:=(ite_f hc32).symm.trans hA31
 refine W_skip ?_
 obtain rfl:=so hA31
 exact rj hR31 ⟨sf1,sf2,sf5,sf6,hst⟩
 intro f w_ hR
 obtain ⟨sf1,sf2,sf5,sf6,hst⟩:=rk hR31 hR
 refine W_region (mF sf6 rfl (L_add rfl rfl rfl (aI rfl (nn ?_))))
 obtain rfl:=so hB7
 show ∃ m,m < _∧I7 m _ _
 refine ⟨rest7.length,by simp,?_⟩
 exact ij hI7 ⟨i_5 + 1,rest7,n_30,rfl,drop_next hd7,by simp at hl7; omega,hL7,sf1,sf2,sf5,(Eq.trans rfl (congrArg (Value.int .i64) (i64_succ (n:=c.terms.length) (by simp at hl7; omega) hlen7))),hst⟩
 rcases suf7 with _ | ⟨_,_⟩
 obtain rfl:=range_nil hL7
 refine W_exit (rj hR7 ⟨n_6,rfl,sf5,(Star.keepN 0 hst)⟩)
 exact absurd (of_decide_eq_false hc8) (by simp at hl7; omega)
 intro f w_ hR
 obtain ⟨n_6,rfl,sf5,hst⟩:=rk hR7 hR
 refine sq (mF sf5 rfl (aI rfl (nn (W_ret (retG1 (v1:=I n_6) Try.results133 rfl ?_)))))
 obtain rfl:=so hF
 exact ⟨rfl,hst⟩
theorem s_l3Implied_c {fu : Nat} {c : Con} {p : List Int} {v0_0 : Value} {v1 : Value} {H : FH} {w : World} (hst : Star H w []) (h0_0 : (rS 112 rTerm).rel H [v0_0] c.terms) (h1 : (rS 3 RP.int).rel H [v1] p) {r : List Int} (hF : s_l3Implied fu c p = some r) :
 C Try.prog 134 #[.agg #[v0_0,I c.bound],v1] w fun v w'=>∃ (u1 : Value),v = u1∧Star H w' [oF 3 RP.int u1 r]:=by
 unfold s_l3Implied at hF
 refine C_enter Try.func134 rfl Try.ntmps134 rfl (sq (L_box (v:=.agg #[v0_0,I c.bound]) (cs:=#[v0_0,I c.bound]) rfl rfl rfl hst (fun g3 w4 hst=>aV S0 rfl (ns (L_bs rfl parts0 (bs_65_0  ) hst (fun g8 w9 hst=>?_))))))
 have hst:=Star.mkRow (R:=(OR.frz RP.int)) [] [] 0 hst rfl rfl rfl (by decide)
 refine aV (Sl g8 0 0) rfl (nq ?_)
 obtain ⟨x16,hx16,hF⟩:=bind_some hF
 refine W_region (L_lda (cs:=[v0_0,I c.bound]) rfl Try.isAgg43 Try.sizeOf43 rfl (At.sub0 (Blk.at (Star.blkAt 1 hst rfl)) 0 2) rfl (mV v1 rfl ?_))
 obtain ⟨H18b,l19,s20,z21,k22⟩:=hst.borrow
 refine L_call rfl Try.call133 (ops2 rfl rfl) (s_l3Slack_c (c:=c) (p:=p) s20 (RP.mono _ h0_0 l19) (RP.mono _ h1 l19) hx16) ?_
 rintro _ w23 ⟨rfl,hst⟩
 have hst:=k22 hst c0
 refine aI rfl (nq (sq (aI rfl (nn ?_))))
 obtain ⟨j30,hL30,hF⟩:=bind_some hF
 obtain ⟨R30,hR30⟩:=exR fun f w_=>∃ out_27 : List Int,∃ i_29 : Int,∃ v27_out : Value,j30 = .nx (out_27,i_29)∧f 5 = v27_out∧Star H w_ ([oF 3 RP.int v27_out out_27])
 refine W_join R30 ?_ ?_
 refine W_block ?_
 obtain ⟨I30,hI30⟩:=exI fun n f w_=>∃ out_27 : List Int,∃ i_29 : Int,∃ v27_out : Value,whileL (s_l3Implied_b1 c p x16) n (out_27,i_29) = some j30∧f 1 = v1∧f 2 = Pt g3∧f 5 = v27_out∧f 6 = I x16∧f 7 = I i_29∧Star H w_ ([oF 3 RP.int v27_out out_27,box g3 43 #[v0_0,I c.bound]])
 refine W_loop I30 (n:=fu) ?_ ?_
 exact ij hI30 ⟨[],0,(Sl g8 0 0),hL30,rfl,rfl,rfl,rfl,rfl,hst⟩
 intro n30 f w_ hI
 obtain ⟨out_27,i_29,v27_out,hL30,sf1,sf2,sf5,sf6,sf7,hst⟩:=ik hI30 hI
 rcases n30 with _ | n30
 exact (while_zero hL30).elim
 obtain ⟨o30,hB30,hL30⟩:=while_succ hL30
 rw [s_l3Implied_b1] at hB30
 refine W_seq (W_seq ?_)
 obtain ⟨R31,hR31⟩:=exR fun f w_=>f 1 = v1∧f 2 = Pt g3∧f 5 = v27_out∧f 6 = I x16∧f 7 = I i_29∧f 20 = Bo ((decide (i_29 < (c.terms.length : Int))) && (decide (x16 ≥ 0)))∧Star H w_ ([oF 3 RP.int v27_out out_27,box g3 43 #[v0_0,I c.bound]])
 refine W_join R31 ?_ ?_
 refine W_region (mF sf7 rfl (fA 0 fa_43_0 sf2 rfl (ldB 1 hst Try.isAgg41 rfl rfl rfl (L_len rfl Try.underlying41 rfl (slice_len h0_0) (L_lss rfl rfl rfl (mB rfl (L_split (d:=17) (b:=decide (i_29 < (c.terms.length : Int))) rfl (fun hc32=>?_) (fun hc32=>?_))))))))
 refine mF sf6 rfl (L_geq rfl rfl rfl (L_pick (v:=Bo ((decide (i_29 < (c.terms.length : Int))) && (decide (x16 ≥ 0)))) rfl rfl (and_t hc32 rfl) (nn (rj hR31 ⟨sf1,sf2,sf5,sf6,sf7,rfl,hst⟩))))
 refine ps rfl (ps rfl (L_pick (v:=Bo ((decide (i_29 < (c.terms.length : Int))) && (decide (x16 ≥ 0)))) rfl rfl (and_f hc32) (nn (rj hR31 ⟨sf1,sf2,sf5,sf6,sf7,rfl,hst⟩))))
 intro f w_ hR
 obtain ⟨sf1,sf2,sf5,sf6,sf7,sf20,hst⟩:=rk hR31 hR
 refine W_cond (b:=((decide (i_29 < (c.terms.length : Int))) && (decide (x16 ≥ 0)))) sf20 (fun hc33=>?_) (fun hc33=>?_)
 have hB30:=(ite_t hc33).symm.trans hB30
 refine W_skip (W_seq (W_block (W_seq ?_)))
 obtain ⟨x34,hx34,hB30⟩:=bind_some hB30
 obtain ⟨x44,hx44,hB30⟩:=bind_some hB30
 obtain ⟨R50,hR50⟩:=exR fun f w_=>f 1 = v1∧f 2 = Pt g3∧f 5 = v27_out∧f 6 = I x16∧f 7 = I i_29∧f 41 = Bo ((x44 == 0) && (decide (x34.coef > x16)))∧Star H w_ ([oF 3 RP.int v27_out out_27,box g3 43 #[v0_0,I c.bound]])
 refine W_join R50 ?_ ?_
 refine W_region (mF sf1 rfl (fA 0 fa_43_0 sf2 rfl (ldB 1 hst Try.isAgg41 rfl rfl rfl (mF sf7 rfl (L_ix (r:=rTerm) rfl Try.underlying41 Try.sizeOf112 rfl h0_0 rfl hx34 (fun g51 o52 cs_g51 hrk_hat53 hat53=>?_))))))
 obtain rfl:=rTerm_iff.1 hrk_hat53
 refine fA (o52 + 1) fa_112_1 rfl rfl (L_ld rfl Try.isAgg3 rfl (At.cell (AtH.at hat53 hst.sub) (j:=1) rfl) ?_)
 obtain ⟨H55b,l56,s57,z58,k59⟩:=hst.borrow
 refine L_call rfl Try.call147 (ops2 rfl rfl) (s_l3State_c (p:=p) (lit:=x34.lit) s57 (RP.mono _ h1 l56) hx44) ?_
 rintro _ w60 ⟨rfl,hst⟩
 have hst:=k59 hst c0
 refine L_eql rfl rfl rfl (mB rfl (L_split (d:=32) (b:=(x44 == 0)) rfl (fun hc61=>?_) (fun hc61=>?_)))
 refine fA 0 fa_43_0 sf2 rfl (ldB 1 hst Try.isAgg41 rfl rfl rfl (mF sf7 rfl (L_ix (r:=rTerm) rfl Try.underlying41 Try.sizeOf112 rfl h0_0 rfl hx34 (fun g62 o63 cs_g62 hrk_hat64 hat64=>?_))))
 obtain rfl:=rTerm_iff.1 hrk_hat64
 refine fA o63 fa_112_0 rfl rfl (L_ld rfl Try.isAgg3 rfl (At.cell (AtH.at hat64 hst.sub) (j:=0) rfl) (mF sf6 rfl (L_gtr rfl rfl rfl (L_pick (v:=Bo ((x44 == 0) && (decide (x34.coef > x16)))) rfl rfl (and_t hc61 rfl) (nn (rj hR50 ⟨sf1,sf2,sf5,sf6,sf7,rfl,hst⟩))))))
 refine ps rfl (ps rfl (ps rfl (ps rfl (ps rfl (ps rfl (ps rfl (ps rfl (L_pick (v:=Bo ((x44 == 0) && (decide (x34.coef > x16)))) rfl rfl (and_f hc61) (nn (rj hR50 ⟨sf1,sf2,sf5,sf6,sf7,rfl,hst⟩))))))))))
 intro f w_ hR
 obtain ⟨sf1,sf2,sf5,sf6,sf7,sf41,hst⟩:=rk hR50 hR
 obtain ⟨out_66,hA68,hB30⟩:=bind_some hB30
 obtain ⟨R68,hR68⟩:=exR fun f w_=>∃ v66_out : Value,f 1 = v1∧f 2 = Pt g3∧f 5 = v66_out∧f 6 = I x16∧f 7 = I i_29∧Star H w_ ([oF 3 RP.int v66_out out_66,box g3 43 #[v0_0,I c.bound]])
 refine W_join R68 ?_ ?_
 refine W_cond (b:=((x44 == 0) && (decide (x34.coef > x16)))) sf41 (fun hc69=>?_) (fun hc69=>?_)
 have hA68:=(ite_t hc69).symm.trans hA68
 obtain ⟨x77,hx77,hA68⟩:=bind_some hA68
 refine W_region (mF sf5 rfl (fA 0 fa_43_0 sf2 rfl (ldB 1 hst Try.isAgg41 rfl rfl rfl (mF sf7 rfl (L_ix (r:=rTerm) rfl Try.underlying41 Try.sizeOf112 rfl h0_0 rfl hx34 (fun g81 o82 cs_g81 hrk_hat83 hat83=>?_))))))
 obtain rfl:=rTerm_iff.1 hrk_hat83
 refine fA (o82 + 1) fa_112_1 rfl rfl (L_ld rfl Try.isAgg3 rfl (At.cell (AtH.at hat83 hst.sub) (j:=1) rfl) (L_bs rfl (parts1 rfl) (bs_65_1_0 (I x34.lit) rfl) hst (fun g85 w86 hst=>?_)))
 have hst:=Star.addF (r:=RP.int) (cs:=[I x34.lit]) (x:=x34.lit) hst rfl
 have hst:=Star.mkRow (R:=(OR.frz RP.int)) [([I x34.lit],x34.lit)] [x34.lit] 1 hst rfl rfl rfl (by decide)
 have hst:=hst.get 1 rfl
 refine L_appM (v:=v27_out) (u:=(Sl g85 1 1)) rfl et_65 rfl rfl hst hx77 (fun v88 w89 hst=>aV v88 rfl (nn ?_))
 obtain rfl:=so hA68
 exact rj hR68 ⟨v88,sf1,sf2,rfl,sf6,sf7,hst⟩
 have hA68:=(ite_f hc69).symm.trans hA68
 refine W_skip ?_
 obtain rfl:=so hA68
 exact rj hR68 ⟨v27_out,sf1,sf2,sf5,sf6,sf7,hst⟩
 intro f w_ hR
 obtain ⟨v66_out,sf1,sf2,sf5,sf6,sf7,hst⟩:=rk hR68 hR
 refine W_region (mF sf7 rfl (L_add rfl rfl rfl (aI rfl (nn ?_))))
 obtain rfl:=so hB30
 show ∃ m,m < _∧I30 m _ _
 refine ⟨n30,Nat.lt_succ_self _,?_⟩
 exact ij hI30 ⟨out_66,i64 (i_29 + 1),v66_out,hL30,sf1,sf2,sf5,sf6,rfl,hst⟩
 have hB30:=(ite_f hc33).symm.trans hB30
 refine W_exit ?_
 obtain rfl:=so hB30
 obtain rfl:=so hL30
 exact rj hR30 ⟨out_27,i_29,v27_out,rfl,sf5,(Star.keepN 1 hst)⟩
 intro f w_ hR
 obtain ⟨out_27,i_29,v27_out,rfl,sf5,hst⟩:=rk hR30 hR
 refine sq (mF sf5 rfl (aV v27_out rfl (nn (W_ret (retG1 (v1:=v27_out) Try.results134 rfl ?_)))))
 obtain rfl:=so hF
 exact ⟨v27_out,rfl,hst⟩
theorem s_l3Propagate_c {fu : Nat} {list : List Con} {p : List Int} {v0 : Value} {v1 : Value} {H : FH} {w : World} (hst : Star H w [oF 3 RP.int v1 p]) (h0 : (rS 43 (rCon 112)).rel H [v0] list) {r : Int × (List Int)} (hF : s_l3Propagate fu list p = some r) :
 C Try.prog 113 #[v0,v1] w fun v w'=>v = I r.1∧Star H w' [oF 3 RP.int v1 r.2]:=by
 unfold s_l3Propagate at hF
 refine C_enter Try.func113 rfl Try.ntmps113 rfl (sq (aI rfl (nq (sq (aB rfl (nn ?_))))))
 obtain ⟨j4,hL4,hF⟩:=bind_some hF
 obtain ⟨R4,hR4⟩:=exR fun f w_=>∃ p_2 : List Int,∃ changed_3 : Bool,j4 = .nx (p_2,changed_3)∧Star H w_ ([oF 3 RP.int v1 p_2])
 refine W_join R4 ?_ ?_
 refine W_block ?_
 obtain ⟨I4,hI4⟩:=exI fun n f w_=>∃ p_2 : List Int,∃ changed_3 : Bool,whileL (s_l3Propagate_b1 fu list) n (p_2,changed_3) = some j4∧f 0 = v0∧f 1 = v1∧f 5 = Bo changed_3∧Star H w_ ([oF 3 RP.int v1 p_2])
 refine W_loop I4 (n:=fu) ?_ ?_
 exact ij hI4 ⟨p,true,hL4,rfl,rfl,rfl,hst⟩
 intro n4 f w_ hI
 obtain ⟨p_2,changed_3,hL4,sf0,sf1,sf5,hst⟩:=ik hI4 hI
 rcases n4 with _ | n4
 exact (while_zero hL4).elim
 obtain ⟨o4,hB4,hL4⟩:=while_succ hL4
 rw [s_l3Propagate_b1] at hB4
 refine W_seq (sq (mF sf5 rfl (nn (W_cond (b:=changed_3) rfl (fun hc5=>?_) (fun hc5=>?_)))))
 have hB4:=(ite_t hc5).symm.trans hB4
 refine W_skip (W_block (sq (aB rfl (ns (aI rfl (nn ?_))))))
 have hlen9 : List.length list≤9223372036854775807:=len_le (slice_len h0)
 obtain ⟨j9,hL9,hB4⟩:=bind_some hB4
 obtain ⟨R9,hR9⟩:=exR fun f w_=>∃ p_7 : List Int,∃ changed_8 : Bool,j9 = .nx (p_7,changed_8)∧f 0 = v0∧f 1 = v1∧f 5 = Bo changed_8∧Star H w_ ([oF 3 RP.int v1 p_7])
 refine W_join R9 ?_ ?_
 refine W_block ?_
 obtain ⟨I9,hI9⟩:=exI fun n f w_=>∃ i_6 : Nat,∃ suf9 : List Con,∃ p_7 : List Int,∃ changed_8 : Bool,n = suf9.length∧List.drop i_6 list = suf9∧i_6 + suf9.length = list.length∧rangeL (s_l3Propagate_b2 fu) suf9 i_6 (p_7,changed_8) = some j9∧f 0 = v0∧f 1 = v1∧f 5 = Bo changed_8∧f 6 = I i_6∧Star H w_ ([oF 3 RP.int v1 p_7])
 refine W_loop I9 (n:=list.length) ?_ ?_
 exact ij hI9 ⟨0,list,p_2,false,rfl,rfl,Nat.zero_add _,hL9,sf0,sf1,rfl,rfl,hst⟩
 intro n9 f w_ hI
 obtain ⟨i_6,suf9,p_7,changed_8,rfl,hd9,hl9,hL9,sf0,sf1,sf5,sf6,hst⟩:=ik hI9 hI
 refine W_seq (sq (mF sf6 rfl (mF sf0 rfl (L_len rfl Try.underlying23 rfl (slice_len h0) (L_lss rfl rfl rfl (nn (W_cond (b:=decide ((i_6 : Int) < (list.length : Int))) rfl (fun hc10=>?_) (fun hc10=>?_))))))))
 have hlt9:=of_decide_eq_true hc10
 rcases suf9 with _ | ⟨x_9,rest9⟩
 exact absurd hlt9 (by simp at hl9; omega)
 obtain ⟨o9,hB9,hL9⟩:=range_cons hL9
 rw [s_l3Propagate_b2] at hB9
 have hix9:=drop_idx hd9
 refine W_skip (W_seq (W_block (W_seq (W_seq ?_))))
 obtain ⟨x21,hx21,hB9⟩:=bind_some hB9
 refine W_region (mF sf0 rfl (mF sf6 rfl (L_ix (r:=(rCon 112)) rfl Try.underlying23 Try.sizeOf43 rfl h0 rfl hix9 (fun g23 o24 cs_g23 hrk_hat25 hat25=>?_))))
 obtain ⟨u26_0,rfl,hu26_0⟩:=rCon_iff.1 hrk_hat25
 refine L_lda (cs:=[u26_0,I x_9.bound]) rfl Try.isAgg43 Try.sizeOf43 rfl (At.sub (AtH.at hat25 hst.sub) 0 2) rfl (mF sf1 rfl ?_)
 obtain ⟨H27b,l28,s29,z30,k31⟩:=hst.borrow
 have hb32 : (rS 3 RP.int).rel H27b [v1] p_7:=fz_own 0 z30 rfl
 refine L_call rfl Try.call133 (ops2 rfl rfl) (s_l3Slack_c (c:=x_9) (p:=p_7) s29 (RP.mono _ hu26_0 l28) hb32 hx21) ?_
 rintro _ w33 ⟨rfl,hst⟩
 have hst:=k31 hst c0
 refine L_lss rfl rfl rfl (nn (W_cond (b:=decide (x21 < 0)) rfl (fun hc34=>?_) (fun hc34=>?_)))
 have hB9:=(ite_t hc34).symm.trans hB9
 refine sq (mF sf6 rfl (aI rfl (nn (W_ret (retG1 (v1:=I i_6) Try.results113 rfl ?_)))))
 obtain rfl:=so hB9
 obtain rfl:=so hL9
 obtain rfl:=so hB4
 obtain rfl:=so hL4
 obtain rfl:=so hF
 exact ⟨rfl,hst⟩
 have hB9:=(ite_f hc34).symm.trans hB9
 refine W_skip (W_seq ?_)
 obtain ⟨x45,hx45,hB9⟩:=bind_some hB9
 refine W_region (mF sf0 rfl (mF sf6 rfl (L_ix (r:=(rCon 112)) rfl Try.underlying23 Try.sizeOf43 rfl h0 rfl hix9 (fun g48 o49 cs_g48 hrk_hat50 hat50=>?_))))
 obtain ⟨u51_0,rfl,hu51_0⟩:=rCon_iff.1 hrk_hat50
 refine L_lda (cs:=[u51_0,I x_9.bound]) rfl Try.isAgg43 Try.sizeOf43 rfl (At.sub (AtH.at hat50 hst.sub) 0 2) rfl (mF sf1 rfl ?_)
 obtain ⟨H52b,l53,s54,z55,k56⟩:=hst.borrow
 have hb57 : (rS 3 RP.int).rel H52b [v1] p_7:=fz_own 0 z55 rfl
 refine L_call rfl Try.call134 (ops2 rfl rfl) (s_l3Implied_c (c:=x_9) (p:=p_7) s54 (RP.mono _ hu51_0 l53) hb57 hx45) ?_
 rintro r58_0 w58 ⟨_,rfl,hst⟩
 have hst:=k56 hst (co closed_int c0)
 refine aV r58_0 rfl (ns (aI rfl (nn ?_)))
 have hlen63 : List.length x45≤9223372036854775807:=len_le (Star.len 0 hst rfl)
 obtain ⟨j63,hL63,hB9⟩:=bind_some hB9
 obtain ⟨R63,hR63⟩:=exR fun f w_=>∃ p_61 : List Int,∃ changed_62 : Bool,j63 = .nx (p_61,changed_62)∧f 0 = v0∧f 1 = v1∧f 5 = Bo changed_62∧f 6 = I i_6∧Star H w_ ([oF 3 RP.int v1 p_61])
 refine W_join R63 ?_ ?_
 refine W_block ?_
 obtain ⟨I63,hI63⟩:=exI fun n f w_=>∃ i_60 : Nat,∃ suf63 : List Int,∃ p_61 : List Int,∃ changed_62 : Bool,n = suf63.length∧List.drop i_60 x45 = suf63∧i_60 + suf63.length = x45.length∧rangeL s_l3Propagate_b3 suf63 i_60 (p_61,changed_62) = some j63∧f 0 = v0∧f 1 = v1∧f 5 = Bo changed_62∧f 6 = I i_6∧f 7 = r58_0∧f 8 = I i_60∧Star H w_ ([oF 3 RP.int v1 p_61,oF 3 RP.int r58_0 x45])
 have hst:=hst.get 1 rfl
 refine W_loop I63 (n:=x45.length) ?_ ?_
 exact ij hI63 ⟨0,x45,p_7,changed_8,rfl,rfl,Nat.zero_add _,hL63,sf0,sf1,sf5,sf6,rfl,rfl,hst⟩
 intro n63 f w_ hI
 obtain ⟨i_60,suf63,p_61,changed_62,rfl,hd63,hl63,hL63,sf0,sf1,sf5,sf6,sf7,sf8,hst⟩:=ik hI63 hI
 refine W_seq (sq (mF sf8 rfl (mF sf7 rfl (L_len rfl Try.underlying65 rfl (Star.len 1 hst rfl) (L_lss rfl rfl rfl (nn (W_cond (b:=decide ((i_60 : Int) < (x45.length : Int))) rfl (fun hc64=>?_) (fun hc64=>?_))))))))
 have hlt63:=of_decide_eq_true hc64
 rcases suf63 with _ | ⟨x_63,rest63⟩
 exact absurd hlt63 (by simp at hl63; omega)
 obtain ⟨o63,hB63,hL63⟩:=range_cons hL63
 rw [s_l3Propagate_b3] at hB63
 have hix63:=drop_idx hd63
 refine W_skip (W_seq (W_block (W_seq ?_)))
 obtain ⟨x74,hx74,hB63⟩:=bind_some hB63
 refine W_region (mF sf1 rfl (mF sf7 rfl (mF sf8 rfl ?_)))
 obtain ⟨g76,cap_g76,hv77,_,_⟩:=Star.row 1 hst rfl hix63
 refine L_ixO (R:=(OR.frz RP.int)) (tb:=0) 0 rfl Try.underlying65 Try.sizeOf3 rfl hv77 (by first | rfl | simp) rfl hix63 ?_
 obtain ⟨cs78,hr78,hat78⟩:=Star.eltF 1 hst rfl hv77 hix63
 obtain rfl : _ = [_]:=hr78
 refine L_ld rfl Try.isAgg3 rfl (At.cell hat78 (j:=0) rfl) ?_
 obtain ⟨H80b,l81,s82,z83,k84⟩:=hst.lend [_]
 refine L_call rfl Try.call112 (ops2 rfl rfl) (s_l3Assign_c (p:=p_61) (lit:=x_63) s82 hx74) ?_
 rintro _ w85 ⟨rfl,hst⟩
 have hst:=k84 hst (co closed_int c0)
 refine nn (W_region (aB rfl (nn (W_region (mF sf8 rfl (L_add rfl rfl rfl (aI rfl (nn ?_))))))))
 obtain rfl:=so hB63
 show ∃ m,m < _∧I63 m _ _
 refine ⟨rest63.length,by simp,?_⟩
 exact ij hI63 ⟨i_60 + 1,rest63,x74,true,rfl,drop_next hd63,by simp at hl63; omega,hL63,sf0,sf1,rfl,sf6,sf7,(Eq.trans rfl (congrArg (Value.int .i64) (i64_succ (n:=x45.length) (by simp at hl63; omega) hlen63))),hst⟩
 rcases suf63 with _ | ⟨_,_⟩
 obtain rfl:=range_nil hL63
 refine W_exit (rj hR63 ⟨p_61,changed_62,rfl,sf0,sf1,sf5,sf6,(Star.keepN 1 hst)⟩)
 exact absurd (of_decide_eq_false hc64) (by simp at hl63; omega)
 intro f w_ hR
 obtain ⟨p_61,changed_62,rfl,sf0,sf1,sf5,sf6,hst⟩:=rk hR63 hR
 refine W_region (mF sf6 rfl (L_add rfl rfl rfl (aI rfl (nn ?_))))
 obtain rfl:=so hB9
 show ∃ m,m < _∧I9 m _ _
 refine ⟨rest9.length,by simp,?_⟩
 exact ij hI9 ⟨i_6 + 1,rest9,p_61,changed_62,rfl,drop_next hd9,by simp at hl9; omega,hL9,sf0,sf1,sf5,(Eq.trans rfl (congrArg (Value.int .i64) (i64_succ (n:=list.length) (by simp at hl9; omega) hlen9))),hst⟩
 rcases suf9 with _ | ⟨_,_⟩
 obtain rfl:=range_nil hL9
 refine W_exit (rj hR9 ⟨p_7,changed_8,rfl,sf0,sf1,sf5,hst⟩)
 exact absurd (of_decide_eq_false hc10) (by simp at hl9; omega)
 intro f w_ hR
 obtain ⟨p_7,changed_8,rfl,sf0,sf1,sf5,hst⟩:=rk hR9 hR
 obtain rfl:=so hB4
 show ∃ m,m < _∧I4 m _ _
 refine ⟨n4,Nat.lt_succ_self _,?_⟩
 exact ij hI4 ⟨p_7,changed_8,hL4,sf0,sf1,sf5,hst⟩
 have hB4:=(ite_f hc5).symm.trans hB4
 refine W_exit ?_
 obtain rfl:=so hB4
 obtain rfl:=so hL4
 exact rj hR4 ⟨p_2,changed_3,rfl,hst⟩
 intro f w_ hR
 obtain ⟨p_2,changed_3,rfl,hst⟩:=rk hR4 hR
 refine sq (aI rfl (nn (W_ret (retG1 (v1:=I (-1)) Try.results113 rfl ?_))))
 obtain rfl:=so hF
 exact ⟨rfl,hst⟩
theorem s_ClauseOf_c {lits : List Int} {v0 : Value} {H : FH} {w : World} (hst : Star H w []) (h0 : (rS 3 RP.int).rel H [v0] lits) {r : Con × Bool} (hF : s_ClauseOf lits = some r) :
 C Try.prog 47 #[v0] w fun v w'=>∃ (u1 : Value),v = .tuple #[.agg #[u1,I r.1.bound],Bo r.2]∧Star H w' [oF 112 rTerm u1 r.1.terms]:=by
 unfold s_ClauseOf at hF
 refine C_enter Try.func47 rfl Try.ntmps47 rfl (sq (L_al (cs:=#[S0,I 0]) rfl Try.zeroValue43 rfl hst (fun g3 w4 hst=>aB rfl (nq ?_))))
 obtain ⟨x5,hx5,hF⟩:=bind_some hF
 refine W_region (L_mk (R:=(OR.frz RP.int)) (z0:=0) (zc:=[I 0]) rfl et_65 (by kernel_rfl) (fun _ _=>⟨rfl,rfl⟩) rfl rfl hx5 hst (fun v9 w10 hst=>aV v9 rfl (nq (sq (mV v0 rfl (L_len rfl Try.underlying65 rfl (slice_len h0) (L_gtr rfl rfl rfl (nn (W_cond (b:=decide ((lits.length : Int) > 40)) rfl (fun hc12=>?_) (fun hc12=>?_))))))))))
 have hF:=(ite_t hc12).symm.trans hF
 refine sq (L_bld rfl (parts0 ) (bld_43_  ) (L_staB (vs:=#[S0,I 0]) (cs2:=#[S0,I 0]) 1 rfl Try.sizeOf43 rfl rfl rfl (ones_cons rfl (ones_cons rfl ones_nil)) hst rfl (by show 0 + 2≤2; decide) rfl (fun w14 hst=>aB rfl (nn (W_ret (retG2 (v1:=.agg #[S0,I 0]) (v2:=Bo false) Try.results47 (resV_agg Try.isAgg43 Try.sizeOf43 rfl (Star.blkAt 0 hst rfl) rfl) rfl ?_))))))
 obtain rfl:=so hF
 have hst:=Star.addNil (R:=(OR.frz rTerm)) (e:=112) hst
 exact ⟨S0,rfl,(Star.keepN 1 hst)⟩
 have hF:=(ite_f hc12).symm.trans hF
 refine W_skip (W_seq (sq (aI rfl (nn ?_))))
 have hlen20 : List.length lits≤9223372036854775807:=len_le (slice_len h0)
 obtain ⟨j20,hL20,hF⟩:=bind_some hF
 obtain ⟨R20,hR20⟩:=exR fun f w_=>∃ seen_17 : List Int,∃ H18 : FH,j20 = .nx seen_17∧Le H H18∧f 2 = Pt g3∧f 4 = v9∧Star H18 w_ ([oF 3 RP.int v9 seen_17,box g3 43 #[S0,I 0]])
 refine W_join R20 ?_ ?_
 refine W_block ?_
 obtain ⟨I20,hI20⟩:=exI fun n f w_=>∃ i_16 : Nat,∃ suf20 : List Int,∃ seen_17 : List Int,∃ H18 : FH,n = suf20.length∧List.drop i_16 lits = suf20∧i_16 + suf20.length = lits.length∧rangeL s_ClauseOf_b1 suf20 i_16 seen_17 = some j20∧Le H H18∧f 0 = v0∧f 2 = Pt g3∧f 4 = v9∧f 5 = I i_16∧Star H18 w_ ([oF 3 RP.int v9 seen_17,box g3 43 #[S0,I 0]])
 refine W_loop I20 (n:=lits.length) ?_ ?_
 exact ij hI20 ⟨0,lits,x5,H,rfl,rfl,Nat.zero_add _,hL20,(Le.refl _),rfl,rfl,rfl,rfl,hst⟩
 intro n20 f w_ hI
 obtain ⟨i_16,suf20,seen_17,H18,rfl,hd20,hl20,hL20,l19,sf0,sf2,sf4,sf5,hst⟩:=ik hI20 hI
 refine W_seq (sq (mF sf5 rfl (mF sf0 rfl (L_len rfl Try.underlying65 rfl (slice_len (RP.mono _ h0 l19)) (L_lss rfl rfl rfl (nn (W_cond (b:=decide ((i_16 : Int) < (lits.length : Int))) rfl (fun hc21=>?_) (fun hc21=>?_))))))))
 have hlt20:=of_decide_eq_true hc21
 rcases suf20 with _ | ⟨x_20,rest20⟩
 exact absurd hlt20 (by simp at hl20; omega)
 obtain ⟨o20,hB20,hL20⟩:=range_cons hL20
 rw [s_ClauseOf_b1] at hB20
 have hix20:=drop_idx hd20
 refine W_skip (W_seq (W_block (W_seq (W_seq ?_))))
 obtain ⟨x31,hx31,hB20⟩:=bind_some hB20
 refine W_region (mF sf0 rfl (mF sf5 rfl (L_ix (r:=RP.int) rfl Try.underlying65 Try.sizeOf3 rfl (RP.mono _ h0 l19) rfl hix20 (fun g33 o34 cs_g33 hrk_hat35 hat35=>?_))))
 obtain rfl : _ = [_]:=hrk_hat35
 refine L_ld rfl Try.isAgg3 rfl (At.cell (AtH.at hat35 hst.sub) (j:=0) rfl) ?_
 obtain ⟨H37b,l38,s39,z40,k41⟩:=hst.borrow
 refine L_call rfl Try.call95 (ops1 rfl) (s_l1Lit_c (n_:=x_20) s39 hx31) ?_
 rintro _ w42 ⟨rfl,hst⟩
 have hst:=k41 hst c0
 refine L_not_ rfl rfl (nn (W_cond (b:=(!x31)) rfl (fun hc43=>?_) (fun hc43=>?_)))
 have hB20:=(ite_t hc43).symm.trans hB20
 refine sq (L_bld rfl (parts0 ) (bld_43_  ) (L_staB (vs:=#[S0,I 0]) (cs2:=#[S0,I 0]) 1 rfl Try.sizeOf43 sf2 rfl rfl (ones_cons rfl (ones_cons rfl ones_nil)) hst rfl (by show 0 + 2≤2; decide) rfl (fun w45 hst=>aB rfl (nn (W_ret (retG2 (v1:=.agg #[S0,I 0]) (v2:=Bo false) Try.results47 (resV_agg Try.isAgg43 Try.sizeOf43 sf2 (Star.blkAt 0 hst rfl) rfl) rfl ?_))))))
 obtain rfl:=so hB20
 obtain rfl:=so hL20
 obtain rfl:=so hF
 have hst:=Star.addNil (R:=(OR.frz rTerm)) (e:=112) hst
 exact ⟨S0,rfl,(Star.down (Star.keepN 1 hst) l19 (co closed_term c0))⟩
 have hB20:=(ite_f hc43).symm.trans hB20
 refine W_skip (W_seq ?_)
 obtain ⟨x56,hx56,hB20⟩:=bind_some hB20
 refine W_region (mF sf0 rfl (mF sf5 rfl (L_ix (r:=RP.int) rfl Try.underlying65 Try.sizeOf3 rfl (RP.mono _ h0 l19) rfl hix20 (fun g58 o59 cs_g58 hrk_hat60 hat60=>?_))))
 obtain rfl : _ = [_]:=hrk_hat60
 refine L_ld rfl Try.isAgg3 rfl (At.cell (AtH.at hat60 hst.sub) (j:=0) rfl) ?_
 obtain ⟨H62b,l63,s64,z65,k66⟩:=hst.borrow
 refine L_call rfl Try.call96 (ops1 rfl) (s_l1Abs_c (n_:=x_20) s64 hx56) ?_
 rintro _ w67 ⟨rfl,hst⟩
 have hst:=k66 hst c0
 refine aI rfl (nq (W_seq ?_))
 obtain ⟨x68,hx68,hB20⟩:=bind_some hB20
 obtain ⟨g78,cap_g78,hv79,_,_⟩:=Star.row 0 hst rfl hx68
 refine W_drawS 9 [isV (v9),isV (I x56),isV (.pointer (some ⟨g78,Int.toNat x56 * 1,none⟩)),isV (I x68),isV (v0),isV (I i_16),isEl RP.int x_20 0,isV (I x_20),isV (I (i64 (-x_20)))] [oF 3 RP.int v9 seen_17,box g3 43 #[S0,I 0]] [] ([]) [([],[]),([],[]),([],[]),([],[]),([],[]),([],[]),([],[]),([],[]),([],[])] (S:=[]) Try_mix (by kernel_rfl) rfl (by kernel_rfl) (amF_cons (mono_V _) (amF_cons (mono_V _) (amF_cons (mono_V _) (amF_cons (mono_V _) (amF_cons (mono_V _) (amF_cons (mono_V _) (amF_cons (mono_el _ _ _) (amF_cons (mono_V _) (amF_cons (mono_V _) amF_nil))))))))) hst ?_ (fun f w_ H77 hS77 hE77 hT77 hst=>?_)
 refine opsS_cons (fun f w_ _ _ s _ _ hst=>mF ((s 4 rfl).trans sf4) rfl (nO rfl rfl hst)) (opsS_cons (fun f w_ _ _ s _ _ hst=>mF ((s 6 rfl).trans rfl) rfl (nO rfl rfl hst)) (opsS_cons (fun f w_ _ _ _ _ p hst=>L_ixO (R:=(OR.frz RP.int)) (tb:=0) 0 rfl Try.underlying65 Try.sizeOf3 (p 0 32 rfl rfl) hv79 (by first | rfl | simp) (p 1 33 rfl rfl) hx68 (nO rfl rfl hst)) (opsS_cons ?_ ?_)))
 intro f w_ H77 X77 hS77 hE77 hP77 hst
 obtain ⟨cs86,hr86,hat86⟩:=Star.eltF 0 hst rfl hv79 hx68
 obtain rfl : _ = [_]:=hr86
 refine L_ld rfl Try.isAgg3 (hP77 2 34 rfl rfl) (At.cell hat86 (j:=0) rfl) (L_nil ⟨rfl,_,_,rfl,Le.refl _,fun _ _=>rfl,hst⟩)
 refine opsS_cons (fun f w_ _ _ s _ _ hst=>mF ((s 0 rfl).trans sf0) rfl (nO rfl rfl hst)) (opsS_cons (fun f w_ _ _ s _ _ hst=>mF ((s 5 rfl).trans sf5) rfl (nO rfl rfl hst)) (opsS_cons ?_ ?_))
 intro f w_ H77 X77 hS77 hE77 hP77 hst
 refine L_ix (r:=RP.int) rfl Try.underlying65 Try.sizeOf3 (hP77 4 36 rfl rfl) (RP.mono _ h0 (Le.trans l19 hE77)) (hP77 5 37 rfl rfl) hix20 (fun g88 o89 cs_g88 hrk_hat90 hat90=>?_)
 obtain rfl : _ = [_]:=hrk_hat90
 exact L_nil ⟨rfl,_,_,rfl,Le.refl _,fun _ _=>⟨_,_,_,rfl,rfl,hat90⟩,hst⟩
 refine opsS_cons ?_ ?_
 intro f w_ H77 X77 hS77 hE77 hP77 hst
 obtain ⟨g92,o92,cs92,hv92,hrk_hat92,hat92⟩:=(hP77 6 38 rfl rfl)
 obtain rfl : _ = [_]:=hrk_hat92
 refine L_ld rfl Try.isAgg3 hv92 (At.cell (AtH.at hat92 hst.sub) (j:=0) rfl) (L_nil ⟨rfl,_,_,rfl,Le.refl _,fun _ _=>rfl,hst⟩)
 refine opsS_cons (fun f w_ _ _ _ _ p hst=>L_neg rfl (p 7 39 rfl rfl) (nO rfl rfl hst)) (opsS_nil)
 refine L_eql rfl (hT77 3 35 rfl rfl) (hT77 8 40 rfl rfl) (nn (W_cond (b:=(x68 == (i64 (-x_20)))) rfl (fun hc94=>?_) (fun hc94=>?_)))
 have hB20:=(ite_t hc94).symm.trans hB20
 refine sq (L_bld rfl (parts0 ) (bld_43_  ) (L_staB (vs:=#[S0,I 0]) (cs2:=#[S0,I 0]) 1 rfl Try.sizeOf43 ((hS77 2 rfl).trans sf2) rfl rfl (ones_cons rfl (ones_cons rfl ones_nil)) hst rfl (by show 0 + 2≤2; decide) rfl (fun w96 hst=>aB rfl (nn (W_ret (retG2 (v1:=.agg #[S0,I 0]) (v2:=Bo false) Try.results47 (resV_agg Try.isAgg43 Try.sizeOf43 ((hS77 2 rfl).trans sf2) (Star.blkAt 0 hst rfl) rfl) rfl ?_))))))
 obtain rfl:=so hB20
 obtain rfl:=so hL20
 obtain rfl:=so hF
 have hst:=Star.addNil (R:=(OR.frz rTerm)) (e:=112) hst
 exact ⟨S0,rfl,(Star.down (Star.keepN 1 hst) (Le.trans l19 hE77) (co closed_term c0))⟩
 have hB20:=(ite_f hc94).symm.trans hB20
 refine W_skip (W_region (mF ((hS77 4 rfl).trans sf4) rfl (mF ((hS77 6 rfl).trans rfl) rfl (mF ((hS77 0 rfl).trans sf0) rfl (mF ((hS77 5 rfl).trans sf5) rfl (L_ix (r:=RP.int) rfl Try.underlying65 Try.sizeOf3 rfl (RP.mono _ h0 (Le.trans l19 hE77)) rfl hix20 (fun g103 o104 cs_g103 hrk_hat105 hat105=>?_)))))))
 obtain rfl : _ = [_]:=hrk_hat105
 refine L_ld rfl Try.isAgg3 rfl (At.cell (AtH.at hat105 hst.sub) (j:=0) rfl) (L_ixO (R:=(OR.frz RP.int)) (tb:=0) 0 rfl Try.underlying65 Try.sizeOf3 rfl hv79 (by first | rfl | simp) rfl hx68 ?_)
 have hst:=Star.addF (r:=RP.int) (cs:=[I x_20]) (x:=x_20) hst rfl
 refine L_stE1 (u:=I x_20) rfl Try.sizeOf3 rfl rfl rfl hv79 hst hx68 (fun w107 hst=>nn (W_region (mF ((hS77 5 rfl).trans sf5) rfl (L_add rfl rfl rfl (aI rfl (nn ?_))))))
 obtain rfl:=so hB20
 show ∃ m,m < _∧I20 m _ _
 refine ⟨rest20.length,by simp,?_⟩
 exact ij hI20 ⟨i_16 + 1,rest20,(seen_17.set (Int.toNat x56) x_20),H77,rfl,drop_next hd20,by simp at hl20; omega,hL20,(Le.trans l19 hE77),((hS77 0 rfl).trans sf0),((hS77 2 rfl).trans sf2),((hS77 4 rfl).trans sf4),(Eq.trans rfl (congrArg (Value.int .i64) (i64_succ (n:=lits.length) (by simp at hl20; omega) hlen20))),hst⟩
 rcases suf20 with _ | ⟨_,_⟩
 obtain rfl:=range_nil hL20
 refine W_exit (rj hR20 ⟨seen_17,H18,rfl,l19,sf2,sf4,hst⟩)
 exact absurd (of_decide_eq_false hc21) (by simp at hl20; omega)
 intro f w_ hR
 obtain ⟨seen_17,H18,rfl,l19,sf2,sf4,hst⟩:=rk hR20 hR
 refine sq (L_bld rfl (parts1 rfl) (bld_43_1 (I 1) rfl) (L_al (cs:=#[S0,I 0]) rfl Try.zeroValue43 rfl hst (fun g111 w112 hst=>L_staB (vs:=#[S0,I 1]) (cs2:=#[S0,I 1]) 0 rfl Try.sizeOf43 rfl rfl rfl (ones_cons rfl (ones_cons rfl ones_nil)) hst rfl (by show 0 + 2≤2; decide) rfl (fun w113 hst=>nq (sq (aI rfl (nn ?_)))))))
 obtain ⟨k120,hk120,hF⟩:=bind_some hF
 obtain ⟨j119,hL119,hF⟩:=bind_some hF
 obtain ⟨R119,hR119⟩:=exR fun f w_=>∃ g111_0_115 : List Term,∃ H117 : FH,∃ v115_g111_0 : Value,j119 = .nx g111_0_115∧Le H18 H117∧f 2 = Pt g3∧f 7 = Pt g111∧Star H117 w_ ([oF 112 rTerm v115_g111_0 g111_0_115,box g111 43 #[v115_g111_0,I 1],box g3 43 #[S0,I 0]])
 refine W_join R119 ?_ ?_
 refine W_block ?_
 obtain ⟨I119,hI119⟩:=exI fun n f w_=>∃ i_114 : Nat,∃ suf119 : Nat,∃ g111_0_115 : List Term,∃ H117 : FH,∃ v115_g111_0 : Value,suf119 = n∧1≤i_114∧i_114 + suf119 = 1 + k120∧countL (s_ClauseOf_b2 seen_17) suf119 i_114 g111_0_115 = some j119∧Le H18 H117∧f 2 = Pt g3∧f 4 = v9∧f 7 = Pt g111∧f 8 = I i_114∧Star H117 w_ ([oF 3 RP.int v9 seen_17,oF 112 rTerm v115_g111_0 g111_0_115,box g111 43 #[v115_g111_0,I 1],box g3 43 #[S0,I 0]])
 have hst:=Star.addNil (R:=(OR.frz rTerm)) (e:=112) hst
 have hst:=hst.gets [3,2,2,3] rfl
 refine W_loop I119 (n:=k120) ?_ ?_
 exact ij hI119 ⟨1,k120,[],H18,S0,rfl,Nat.le_refl _,rfl,hL119,(Le.refl _),sf2,sf4,rfl,rfl,hst⟩
 intro n119 f w_ hI
 obtain ⟨i_114,suf119,g111_0_115,H117,v115_g111_0,rfl,hs119,hl119,hL119,l118,sf2,sf4,sf7,sf8,hst⟩:=ik hI119 hI
 refine W_seq (sq (mF sf8 rfl (L_leq rfl rfl rfl (nn (W_cond (b:=decide ((i_114 : Int)≤12)) rfl (fun hc122=>?_) (fun hc122=>?_))))))
 have hlt119:=of_decide_eq_true hc122
 rcases suf119 with _ | rest119
 exact absurd hlt119 (cntF_noL hl119 hk120)
 obtain ⟨o119,hB119,hL119⟩:=count_succ hL119
 rw [s_ClauseOf_b2] at hB119
 refine W_skip (W_seq (W_block (W_seq ?_)))
 obtain ⟨x123,hx123,hB119⟩:=bind_some hB119
 refine W_region (mF sf4 rfl (mF sf8 rfl ?_))
 obtain ⟨g128,cap_g128,hv129,_,_⟩:=Star.row 0 hst rfl hx123
 refine L_ixO (R:=(OR.frz RP.int)) (tb:=0) 0 rfl Try.underlying65 Try.sizeOf3 rfl hv129 (by first | rfl | simp) rfl hx123 ?_
 obtain ⟨cs130,hr130,hat130⟩:=Star.eltF 0 hst rfl hv129 hx123
 obtain rfl : _ = [_]:=hr130
 refine L_ld rfl Try.isAgg3 rfl (At.cell hat130 (j:=0) rfl) (L_neq rfl rfl rfl (nn ?_))
 obtain ⟨g111_0_132,hA136,hB119⟩:=bind_some hB119
 obtain ⟨R136,hR136⟩:=exR fun f w_=>∃ H134 : FH,∃ v132_g111_0 : Value,Le H117 H134∧f 2 = Pt g3∧f 4 = v9∧f 7 = Pt g111∧f 8 = I i_114∧Star H134 w_ ([oF 3 RP.int v9 seen_17,oF 112 rTerm v132_g111_0 g111_0_132,box g111 43 #[v132_g111_0,I 1],box g3 43 #[S0,I 0]])
 refine W_join R136 ?_ ?_
 refine W_cond (b:=(x123 != 0)) rfl (fun hc137=>?_) (fun hc137=>?_)
 have hA136:=(ite_t hc137).symm.trans hA136
 obtain ⟨x143,hx143,hA136⟩:=bind_some hA136
 refine W_drawS 8 [isV (Pt g111),isV (v115_g111_0),isV (v9),isV (I i_114),isV (.pointer (some ⟨g128,Int.toNat (i_114 : Int) * 1,none⟩)),isV (I x123),isV (.agg #[I 1,I x123]),anyF] [oF 3 RP.int v9 seen_17,oF 112 rTerm v115_g111_0 g111_0_115,box g111 43 #[v115_g111_0,I 1],box g3 43 #[S0,I 0]] [.made 7 67 (fun v_=>oF 112 rTerm v_ ([({ coef:=1,lit:=x123 } : Term)])) none] ([]) [([],[]),([],[]),([],[]),([],[]),([],[]),([],[]),([],[]),([],[0])] (S:=[(some 7,[67],none)]) Try_mix (by kernel_rfl) rfl (by kernel_rfl) (amF_cons (mono_V _) (amF_cons (mono_V _) (amF_cons (mono_V _) (amF_cons (mono_V _) (amF_cons (mono_V _) (amF_cons (mono_V _) (amF_cons (mono_V _) (amF_cons (mono_any) amF_nil)))))))) hst ?_ (fun f w_ H148 hS148 hE148 hT148 hst=>?_)
 refine opsS_cons (fun f w_ _ _ s _ _ hst=>fA 0 fa_43_0 ((s 7 rfl).trans sf7) rfl (nO rfl rfl hst)) (opsS_cons (fun f w_ _ _ _ _ p hst=>ldB 2 hst Try.isAgg41 (p 0 60 rfl rfl) rfl rfl (nO rfl rfl hst)) (opsS_cons (fun f w_ _ _ s _ _ hst=>mF ((s 4 rfl).trans sf4) rfl (nO rfl rfl hst)) (opsS_cons (fun f w_ _ _ s _ _ hst=>mF ((s 8 rfl).trans sf8) rfl (nO rfl rfl hst)) (opsS_cons (fun f w_ _ _ _ _ p hst=>L_ixO (R:=(OR.frz RP.int)) (tb:=0) 0 rfl Try.underlying65 Try.sizeOf3 (p 2 62 rfl rfl) hv129 (by first | rfl | simp) (p 3 63 rfl rfl) hx123 (nO rfl rfl hst)) (opsS_cons ?_ ?_)))))
 intro f w_ H148 X148 hS148 hE148 hP148 hst
 obtain ⟨cs154,hr154,hat154⟩:=Star.eltF 0 hst rfl hv129 hx123
 obtain rfl : _ = [_]:=hr154
 refine L_ld rfl Try.isAgg3 (hP148 4 64 rfl rfl) (At.cell hat154 (j:=0) rfl) (L_nil ⟨rfl,_,_,rfl,Le.refl _,fun _ _=>rfl,hst⟩)
 refine opsS_cons (fun f w_ _ _ _ _ p hst=>L_bld rfl (parts2 rfl (p 5 65 rfl rfl)) (bld_112_0_1 (I 1) (I x123) rfl rfl) (nO rfl rfl hst)) (opsS_cons ?_ ?_)
 intro f w_ H148 X148 hS148 hE148 hP148 hst
 refine L_bs rfl (parts1 (hP148 6 66 rfl rfl)) (bs_41_1_2 (I 1) (I x123) ) hst (fun g156 w157 hst=>?_)
 have hst:=Star.addF (r:=rTerm) (cs:=[I 1,I x123]) (x:=({ coef:=1,lit:=x123 } : Term)) hst (rTerm_iff.2 rfl)
 have hst:=Star.mkRow (R:=(OR.frz rTerm)) [([I 1,I x123],({ coef:=1,lit:=x123 } : Term))] [({ coef:=1,lit:=x123 } : Term)] 1 hst rfl rfl rfl (by decide)
 have hst:=hst.gets [4,4,4,4] rfl
 exact L_nil ⟨rfl,_,_,rfl,Le.refl _,fun _ _=>trivial,hst⟩
 exact opsS_nil
 have hst : Star H148 w_ ([oF 3 RP.int v9 seen_17,oF 112 rTerm v115_g111_0 g111_0_115,box g111 43 #[v115_g111_0,I 1],box g3 43 #[S0,I 0],oF 112 rTerm (f 67) ([({ coef:=1,lit:=x123 } : Term)])]):=hst
 have hst:=hst.gets [4,2] rfl
 refine L_appM (v:=v115_g111_0) (u:=(f 67)) rfl et_41 (hT148 1 61 rfl rfl) rfl hst hx143 (fun v160 w161 hst=>fA 0 fa_43_0 ((hS148 7 rfl).trans sf7) rfl (L_stB (v:=v160) (cs2:=#[v160,I 1]) 2 rfl Try.sizeOf41 rfl rfl (one_len (Star.len 0 hst rfl)) hst rfl rfl rfl (fun w163 hst=>nn ?_)))
 obtain rfl:=so hA136
 have hst:=hst.gets [3,1,2,3] rfl
 exact rj hR136 ⟨H148,v160,hE148,((hS148 2 rfl).trans sf2),((hS148 4 rfl).trans sf4),((hS148 7 rfl).trans sf7),((hS148 8 rfl).trans sf8),hst⟩
 have hA136:=(ite_f hc137).symm.trans hA136
 refine W_skip ?_
 obtain rfl:=so hA136
 exact rj hR136 ⟨H117,v115_g111_0,(Le.refl _),sf2,sf4,sf7,sf8,hst⟩
 intro f w_ hR
 obtain ⟨H134,v132_g111_0,l135,sf2,sf4,sf7,sf8,hst⟩:=rk hR136 hR
 refine W_region (mF sf8 rfl (L_add rfl rfl rfl (aI rfl (nn ?_))))
 obtain rfl:=so hB119
 show ∃ m,m < _∧I119 m _ _
 refine ⟨rest119,Nat.lt_succ_self _,?_⟩
 exact ij hI119 ⟨i_114 + 1,rest119,g111_0_132,H134,v132_g111_0,rfl,by omega,by omega,hL119,(Le.trans l118 l135),sf2,sf4,sf7,(Eq.trans rfl (congrArg (Value.int .i64) (i64_succ (n:=1 + k120) (by omega) (cntF_le hk120)))),hst⟩
 rcases suf119 with _ | _
 obtain rfl:=count_zero hL119
 refine W_exit ?_
 have hst:=hst.gets [3,3,3] rfl
 exact rj hR119 ⟨g111_0_115,H117,v115_g111_0,rfl,l118,sf2,sf7,(Star.keepN 3 hst)⟩
 exact absurd (cntF_yesL hs119 hl119 hk120) (of_decide_eq_false hc122)
 intro f w_ hR
 obtain ⟨g111_0_115,H117,v115_g111_0,rfl,l118,sf2,sf7,hst⟩:=rk hR119 hR
 refine sq (L_lda (cs:=[v115_g111_0,I 1]) rfl Try.isAgg43 Try.sizeOf43 sf7 (At.sub0 (Blk.at (Star.blkAt 1 hst rfl)) 0 2) rfl (L_staB (vs:=#[v115_g111_0,I 1]) (cs2:=#[v115_g111_0,I 1]) 2 rfl Try.sizeOf43 sf2 rfl rfl (ones_cons (one_len (Star.len 0 hst rfl)) (ones_cons rfl ones_nil)) hst rfl (by show 0 + 2≤2; decide) rfl (fun w165 hst=>aB rfl (nn (W_ret (retG2 (v1:=.agg #[v115_g111_0,I 1]) (v2:=Bo true) Try.results47 (resV_agg Try.isAgg43 Try.sizeOf43 sf2 (Star.blkAt 0 hst rfl) rfl) rfl ?_))))))
 obtain rfl:=so hF
 have hst:=hst.get 1 rfl
 exact ⟨v115_g111_0,rfl,(Star.down (Star.keepN 1 hst) (Le.trans l19 l118) (co closed_term c0))⟩
theorem s_l5Learn_c {s : Sst} {decisions : List Int} {v0_0 : Value} {v0_1 : Value} {v1 : Value} {H : FH} {w : World} {R : List Ass} (hst : Star H w (oF 43 (rCon 112) v0_0 s.list :: oF 93 (rStep 112) v0_1 s.steps :: R)) (h1 : (rS 3 RP.int).rel H [v1] decisions) {r : Sst} (hF : s_l5Learn s decisions = some r) :
 C Try.prog 114 #[.agg #[v0_0,v0_1,I s.fuel],v1] w fun v w'=>∃ H' : FH,Le H H'∧∃ (u1 : Value) (u2 : Value),v = .agg #[u1,u2,I r.fuel]∧Star H' w' (oF 43 (rCon 112) u1 r.list :: oF 93 (rStep 112) u2 r.steps :: R):=by
 unfold s_l5Learn at hF
 refine C_enter Try.func114 rfl Try.ntmps114 rfl (sq (L_box (v:=.agg #[v0_0,v0_1,I s.fuel]) (cs:=#[v0_0,v0_1,I s.fuel]) rfl rfl rfl hst (fun g5 w6 hst=>L_al (cs:=#[S0,S0,I 0]) rfl Try.zeroValue89 rfl hst (fun g7 w8 hst=>ns (L_bs rfl parts0 (bs_65_0  ) hst (fun g12 w13 hst=>?_))))))
 have hst:=Star.mkRow (R:=(OR.frz RP.int)) [] [] 0 hst rfl rfl rfl (by decide)
 refine aV (Sl g12 0 0) rfl (nq (sq (aI rfl (nn ?_))))
 have hlen18 : List.length decisions≤9223372036854775807:=len_le (slice_len h1)
 obtain ⟨j18,hL18,hF⟩:=bind_some hF
 obtain ⟨R18,hR18⟩:=exR fun f w_=>∃ lits_16 : List Int,∃ v16_lits : Value,j18 = .nx lits_16∧f 2 = Pt g5∧f 4 = Pt g7∧f 5 = v16_lits∧Star H w_ (oF 3 RP.int v16_lits lits_16 :: box g7 89 #[S0,S0,I 0] :: oF 43 (rCon 112) v0_0 s.list :: oF 93 (rStep 112) v0_1 s.steps :: box g5 89 #[v0_0,v0_1,I s.fuel] :: R)
 refine W_join R18 ?_ ?_
 refine W_block ?_
 obtain ⟨I18,hI18⟩:=exI fun n f w_=>∃ i_15 : Nat,∃ suf18 : List Int,∃ lits_16 : List Int,∃ v16_lits : Value,n = suf18.length∧List.drop i_15 decisions = suf18∧i_15 + suf18.length = decisions.length∧rangeL s_l5Learn_b1 suf18 i_15 lits_16 = some j18∧f 1 = v1∧f 2 = Pt g5∧f 4 = Pt g7∧f 5 = v16_lits∧f 6 = I i_15∧Star H w_ (oF 3 RP.int v16_lits lits_16 :: box g7 89 #[S0,S0,I 0] :: oF 43 (rCon 112) v0_0 s.list :: oF 93 (rStep 112) v0_1 s.steps :: box g5 89 #[v0_0,v0_1,I s.fuel] :: R)
 have hst:=hst.gets [2,4,4,4,4] rfl
 refine W_loop I18 (n:=decisions.length) ?_ ?_
 exact ij hI18 ⟨0,decisions,[],(Sl g12 0 0),rfl,rfl,Nat.zero_add _,hL18,rfl,rfl,rfl,rfl,rfl,hst⟩
 intro n18 f w_ hI
 obtain ⟨i_15,suf18,lits_16,v16_lits,rfl,hd18,hl18,hL18,sf1,sf2,sf4,sf5,sf6,hst⟩:=ik hI18 hI
 refine W_seq (sq (mF sf6 rfl (mF sf1 rfl (L_len rfl Try.underlying65 rfl (slice_len h1) (L_lss rfl rfl rfl (nn (W_cond (b:=decide ((i_15 : Int) < (decisions.length : Int))) rfl (fun hc19=>?_) (fun hc19=>?_))))))))
 have hlt18:=of_decide_eq_true hc19
 rcases suf18 with _ | ⟨x_18,rest18⟩
 exact absurd hlt18 (by simp at hl18; omega)
 obtain ⟨o18,hB18,hL18⟩:=range_cons hL18
 rw [s_l5Learn_b1] at hB18
 have hix18:=drop_idx hd18
 refine W_skip (W_seq (W_block ?_))
 obtain ⟨x27,hx27,hB18⟩:=bind_some hB18
 refine W_region (mF sf5 rfl (mF sf1 rfl (mF sf6 rfl (L_ix (r:=RP.int) rfl Try.underlying65 Try.sizeOf3 rfl h1 rfl hix18 (fun g31 o32 cs_g31 hrk_hat33 hat33=>?_)))))
 obtain rfl : _ = [_]:=hrk_hat33
 refine L_ld rfl Try.isAgg3 rfl (At.cell (AtH.at hat33 hst.sub) (j:=0) rfl) (L_neg rfl rfl (L_bs rfl (parts1 rfl) (bs_65_1_0 (I (i64 (-x_18))) rfl) hst (fun g35 w36 hst=>?_)))
 have hst:=Star.addF (r:=RP.int) (cs:=[I (i64 (-x_18))]) (x:=(i64 (-x_18))) hst rfl
 have hst:=Star.mkRow (R:=(OR.frz RP.int)) [([I (i64 (-x_18))],i64 (-x_18))] [i64 (-x_18)] 1 hst rfl rfl rfl (by decide)
 have hst:=hst.get 1 rfl
 refine L_appM (v:=v16_lits) (u:=(Sl g35 1 1)) rfl et_65 rfl rfl hst hx27 (fun v38 w39 hst=>aV v38 rfl (nn (W_region (mF sf6 rfl (L_add rfl rfl rfl (aI rfl (nn ?_)))))))
 obtain rfl:=so hB18
 show ∃ m,m < _∧I18 m _ _
 refine ⟨rest18.length,by simp,?_⟩
 exact ij hI18 ⟨i_15 + 1,rest18,x27,v38,rfl,drop_next hd18,by simp at hl18; omega,hL18,sf1,sf2,sf4,rfl,(Eq.trans rfl (congrArg (Value.int .i64) (i64_succ (n:=decisions.length) (by simp at hl18; omega) hlen18))),hst⟩
 rcases suf18 with _ | ⟨_,_⟩
 obtain rfl:=range_nil hL18
 refine W_exit (rj hR18 ⟨lits_16,v16_lits,rfl,sf2,sf4,sf5,hst⟩)
 exact absurd (of_decide_eq_false hc19) (by simp at hl18; omega)
 intro f w_ hR
 obtain ⟨lits_16,v16_lits,rfl,sf2,sf4,sf5,hst⟩:=rk hR18 hR
 refine W_seq ?_
 obtain ⟨x47,hx47,hF⟩:=bind_some hF
 refine W_region (mF sf5 rfl ?_)
 obtain ⟨H53b,l54,s55,z56,k57⟩:=hst.borrow
 have hb58 : (rS 3 RP.int).rel H53b [v16_lits] lits_16:=fz_own 0 z56 rfl
 refine L_call rfl Try.call47 (ops1 rfl) (s_ClauseOf_c (lits:=lits_16) s55 hb58 hx47) ?_
 rintro _ w59 ⟨r59_0,rfl,hst⟩
 have hst:=k57 hst (co closed_term c0)
 refine mV (.tuple #[.agg #[r59_0,I x47.1.bound],Bo x47.2]) rfl (L_ex (v:=.agg #[r59_0,I x47.1.bound]) rfl rfl rfl (L_ex (v:=Bo x47.2) rfl rfl rfl (L_al (cs:=#[S0,I 0]) rfl Try.zeroValue43 rfl hst (fun g61 w62 hst=>L_staB (vs:=#[r59_0,I x47.1.bound]) (cs2:=#[r59_0,I x47.1.bound]) 0 rfl Try.sizeOf43 rfl rfl rfl (ones_cons (one_len (Star.len 1 hst rfl)) (ones_cons rfl ones_nil)) hst rfl (by show 0 + 2≤2; decide) rfl (fun w63 hst=>aB rfl (nq ?_))))))
 obtain ⟨x72,hx72,hF⟩:=bind_some hF
 refine W_region (fA 0 fa_89_0 sf2 rfl (ldB 6 hst Try.isAgg23 rfl rfl rfl (L_lda (cs:=[r59_0,I x47.1.bound]) rfl Try.isAgg43 Try.sizeOf43 rfl (At.sub0 (Blk.at (Star.blkAt 0 hst rfl)) 0 2) rfl ?_)))
 have hst:=hst.get 1 rfl
 obtain ⟨H79,l80,hst,hz81⟩:=Star.freeze hst
 have hz81 : (rS 112 rTerm).rel H79 [r59_0] x47.1.terms:=hz81
 refine L_bs rfl (parts1 rfl) (bs_23_1_2 (r59_0) (I x47.1.bound) ) hst (fun g82 w83 hst=>?_)
 have hst:=Star.addF (r:=(rCon 112)) (cs:=[r59_0,I x47.1.bound]) (x:=x47.1) hst (rCon_iff.2 ⟨_,rfl,hz81⟩)
 have hst:=Star.mkRow (R:=(OR.frz (rCon 112))) [([r59_0,I x47.1.bound],x47.1)] [x47.1] 1 hst rfl rfl rfl (by decide)
 have hst:=hst.get 4 rfl
 refine L_appM (v:=v0_0) (u:=(Sl g82 1 1)) rfl et_23 rfl rfl hst hx72 (fun v85 w86 hst=>fA 0 fa_89_0 sf2 rfl (L_stB (v:=v85) (cs2:=#[v85,v0_1,I s.fuel]) 5 rfl Try.sizeOf23 rfl rfl (one_len (Star.len 0 hst rfl)) hst rfl rfl rfl (fun w88 hst=>nq ?_)))
 obtain ⟨x92,hx92,hF⟩:=bind_some hF
 refine W_region (fA 1 fa_89_1 sf2 rfl (ldB 0 hst Try.isAgg30 rfl rfl rfl (L_lda (cs:=[r59_0,I x47.1.bound]) rfl Try.isAgg43 Try.sizeOf43 rfl (At.sub0 (Blk.at (Star.blkAt 2 hst rfl)) 0 2) rfl (L_bld rfl (parts2 rfl rfl) (bld_93_0_3x2 (I 7) (r59_0) (I x47.1.bound) rfl) (L_bs rfl (parts1 rfl) (bs_30_1_5 (I 7) (I 0) (I 0) (r59_0) (I x47.1.bound) ) hst (fun g97 w98 hst=>?_))))))
 have hst:=Star.addF (r:=(rStep 112)) (cs:=[I 7,I 0,I 0,r59_0,I x47.1.bound]) (x:=({ kind:=7,a:=0,b:=0,given:=x47.1 } : Step)) hst (rStep_iff.2 ⟨_,rfl,hz81⟩)
 have hst:=Star.mkRow (R:=(OR.frz (rStep 112))) [([I 7,I 0,I 0,r59_0,I x47.1.bound],({ kind:=7,a:=0,b:=0,given:=x47.1 } : Step))] [({ kind:=7,a:=0,b:=0,given:=x47.1 } : Step)] 1 hst rfl rfl rfl (by decide)
 have hst:=hst.get 6 rfl
 refine L_appM (v:=v0_1) (u:=(Sl g97 1 1)) rfl et_30 rfl rfl hst hx92 (fun v100 w101 hst=>fA 1 fa_89_1 sf2 rfl (L_stB (v:=v100) (cs2:=#[v85,v100,I s.fuel]) 1 rfl Try.sizeOf30 rfl rfl (one_len (Star.len 0 hst rfl)) hst rfl rfl rfl (fun w103 hst=>ns (L_lda (cs:=[v85,v100,I s.fuel]) rfl Try.isAgg89 Try.sizeOf89 sf2 (At.sub0 (Blk.at (Star.blkAt 0 hst rfl)) 0 3) rfl (L_staB (vs:=#[v85,v100,I s.fuel]) (cs2:=#[v85,v100,I s.fuel]) 5 rfl Try.sizeOf89 sf4 rfl rfl (ones_cons (one_len (Star.len 2 hst rfl)) (ones_cons (one_len (Star.len 1 hst rfl)) (ones_cons rfl ones_nil))) hst rfl (by show 0 + 3≤3; decide) rfl (fun w105 hst=>nn (W_ret (retG1 (v1:=.agg #[v85,v100,I s.fuel]) Try.results114 (resV_agg Try.isAgg89 Try.sizeOf89 sf4 (Star.blkAt 0 hst rfl) rfl) ?_))))))))
 obtain rfl:=so hF
 have hst:=hst.gets [2,3] rfl
 have hst:=Star.drop 2 hst rfl
 have hst:=Star.drop 2 hst rfl
 have hst:=Star.drop 2 hst rfl
 have hst:=Star.drop 2 hst rfl
 exact ⟨H79,l80,v85,v100,rfl,hst⟩
theorem s_l5Free_c {p : List Int} {v0 : Value} {H : FH} {w : World} (hst : Star H w []) (h0 : (rS 3 RP.int).rel H [v0] p) {r : Int} (hF : s_l5Free p = some r) :
 C Try.prog 115 #[v0] w fun v w'=>v = I r∧Star H w' []:=by
 unfold s_l5Free at hF
 refine C_enter Try.func115 rfl Try.ntmps115 rfl (sq (aI rfl (nq (sq (aI rfl (nn ?_))))))
 have hlen2 : List.length p≤9223372036854775807:=len_le (slice_len h0)
 obtain ⟨j2,hL2,hF⟩:=bind_some hF
 obtain ⟨R2,hR2⟩:=exR fun f w_=>j2 = .nx ()∧Star H w_ ([])
 refine W_join R2 ?_ ?_
 refine W_block ?_
 obtain ⟨I2,hI2⟩:=exI fun n f w_=>∃ i_1 : Nat,∃ suf2 : List Int,n = suf2.length∧List.drop i_1 p = suf2∧i_1 + suf2.length = p.length∧rangeL s_l5Free_b1 suf2 i_1 () = some j2∧f 0 = v0∧f 3 = I i_1∧Star H w_ ([])
 refine W_loop I2 (n:=p.length) ?_ ?_
 exact ij hI2 ⟨0,p,rfl,rfl,Nat.zero_add _,hL2,rfl,rfl,hst⟩
 intro n2 f w_ hI
 obtain ⟨i_1,suf2,rfl,hd2,hl2,hL2,sf0,sf3,hst⟩:=ik hI2 hI
 refine W_seq (sq (mF sf3 rfl (mF sf0 rfl (L_len rfl Try.underlying65 rfl (slice_len h0) (L_lss rfl rfl rfl (nn (W_cond (b:=decide ((i_1 : Int) < (p.length : Int))) rfl (fun hc3=>?_) (fun hc3=>?_))))))))
 have hlt2:=of_decide_eq_true hc3
 rcases suf2 with _ | ⟨x_2,rest2⟩
 exact absurd hlt2 (by simp at hl2; omega)
 obtain ⟨o2,hB2,hL2⟩:=range_cons hL2
 rw [s_l5Free_b1] at hB2
 have hix2:=drop_idx hd2
 refine W_skip (W_seq (W_block (sq (mF sf0 rfl (mF sf3 rfl (L_ix (r:=RP.int) rfl Try.underlying65 Try.sizeOf3 rfl h0 rfl hix2 (fun g8 o9 cs_g8 hrk_hat10 hat10=>?_)))))))
 obtain rfl : _ = [_]:=hrk_hat10
 refine L_ld rfl Try.isAgg3 rfl (At.cell (AtH.at hat10 hst.sub) (j:=0) rfl) (L_eql rfl rfl rfl (nn (W_cond (b:=(x_2 == 0)) rfl (fun hc12=>?_) (fun hc12=>?_))))
 have hB2:=(ite_t hc12).symm.trans hB2
 refine sq (mF sf3 rfl (L_add rfl rfl rfl (aI rfl (nn (W_ret (retG1 (v1:=I (i64 ((i_1 : Int) + 1))) Try.results115 rfl ?_))))))
 obtain rfl:=so hB2
 obtain rfl:=so hL2
 obtain rfl:=so hF
 exact ⟨rfl,hst⟩
 have hB2:=(ite_f hc12).symm.trans hB2
 refine W_skip (W_region (mF sf3 rfl (L_add rfl rfl rfl (aI rfl (nn ?_)))))
 obtain rfl:=so hB2
 show ∃ m,m < _∧I2 m _ _
 refine ⟨rest2.length,by simp,?_⟩
 exact ij hI2 ⟨i_1 + 1,rest2,rfl,drop_next hd2,by simp at hl2; omega,hL2,sf0,(Eq.trans rfl (congrArg (Value.int .i64) (i64_succ (n:=p.length) (by simp at hl2; omega) hlen2))),hst⟩
 rcases suf2 with _ | ⟨_,_⟩
 obtain rfl:=range_nil hL2
 refine W_exit (rj hR2 ⟨rfl,hst⟩)
 exact absurd (of_decide_eq_false hc3) (by simp at hl2; omega)
 intro f w_ hR
 obtain ⟨rfl,hst⟩:=rk hR2 hR
 refine sq (aI rfl (nn (W_ret (retG1 (v1:=I 0) Try.results115 rfl ?_))))
 obtain rfl:=so hF
 exact ⟨rfl,hst⟩
theorem s_l5Search_F_c {fu : Nat} {rec_ : Sst→(List Int)→Option (Sst × Int × (List Bool))} (hrec : ∀ {s : Sst} {decisions : List Int} {v0_0 : Value} {v0_1 : Value} {v1 : Value} {H : FH} {w : World} {R : List Ass} (hst : Star H w (oF 43 (rCon 112) v0_0 s.list :: oF 93 (rStep 112) v0_1 s.steps :: R)) (h1 : (rS 3 RP.int).rel H [v1] decisions) {r : Sst × Int × (List Bool)} (hF : rec_ s decisions = some r),C Try.prog 69 #[.agg #[v0_0,v0_1,I s.fuel],v1] w fun v w'=>∃ H' : FH,Le H H'∧∃ (u1 : Value) (u2 : Value) (u3 : Value),v = .tuple #[.agg #[u1,u2,I r.1.fuel],I r.2.1,u3]∧Star H' w' (oF 43 (rCon 112) u1 r.1.list :: oF 93 (rStep 112) u2 r.1.steps :: oF 4 RP.bool u3 r.2.2 :: R)) {s : Sst} {decisions : List Int} {v0_0 : Value} {v0_1 : Value} {v1 : Value} {H : FH} {w : World} {R : List Ass} (hst : Star H w (oF 43 (rCon 112) v0_0 s.list :: oF 93 (rStep 112) v0_1 s.steps :: R)) (h1 : (rS 3 RP.int).rel H [v1] decisions) {r : Sst × Int × (List Bool)} (hF : s_l5Search_F fu rec_ s decisions = some r) :
 C Try.prog 69 #[.agg #[v0_0,v0_1,I s.fuel],v1] w fun v w'=>∃ H' : FH,Le H H'∧∃ (u1 : Value) (u2 : Value) (u3 : Value),v = .tuple #[.agg #[u1,u2,I r.1.fuel],I r.2.1,u3]∧Star H' w' (oF 43 (rCon 112) u1 r.1.list :: oF 93 (rStep 112) u2 r.1.steps :: oF 4 RP.bool u3 r.2.2 :: R):=by
 unfold s_l5Search_F at hF
 refine C_enter Try.func69 rfl Try.ntmps69 rfl (sq (L_box (v:=.agg #[v0_0,v0_1,I s.fuel]) (cs:=#[v0_0,v0_1,I s.fuel]) rfl rfl rfl hst (fun g5 w6 hst=>L_al (cs:=#[S0,S0,I 0]) rfl Try.zeroValue89 rfl hst (fun g7 w8 hst=>aI rfl (aV S0 rfl (nq (W_seq ?_)))))))
 obtain ⟨R9,hR9⟩:=exR fun f w_=>f 1 = v1∧f 2 = Pt g5∧f 4 = Pt g7∧f 24 = Bo ((s.fuel == 0) || (decide ((s.steps.length : Int) ≥ 1000)))∧Star H w_ (box g7 89 #[S0,S0,I 0] :: oF 43 (rCon 112) v0_0 s.list :: oF 93 (rStep 112) v0_1 s.steps :: box g5 89 #[v0_0,v0_1,I s.fuel] :: R)
 refine W_join R9 ?_ ?_
 refine W_region (fA 2 fa_89_2 rfl rfl (ldB 1 hst Try.isAgg3 rfl rfl rfl (L_eql rfl rfl rfl (mB rfl (L_split (d:=19) (b:=(s.fuel == 0)) rfl (fun hc10=>?_) (fun hc10=>?_))))))
 refine ps rfl (ps rfl (ps rfl (ps rfl (L_pick (v:=Bo ((s.fuel == 0) || (decide ((s.steps.length : Int) ≥ 1000)))) rfl rfl (or_t hc10) (nn ?_)))))
 have hst:=hst.gets [1,3,3,3] rfl
 exact rj hR9 ⟨rfl,rfl,rfl,rfl,hst⟩
 refine fA 1 fa_89_1 rfl rfl (ldB 1 hst Try.isAgg30 rfl rfl rfl (L_len rfl Try.underlying30 rfl (Star.len 3 hst rfl) (L_geq rfl rfl rfl (L_pick (v:=Bo ((s.fuel == 0) || (decide ((s.steps.length : Int) ≥ 1000)))) rfl rfl (or_f hc10 rfl) (nn ?_)))))
 have hst:=hst.gets [1,3,3,3] rfl
 exact rj hR9 ⟨rfl,rfl,rfl,rfl,hst⟩
 intro f w_ hR
 obtain ⟨sf1,sf2,sf4,sf24,hst⟩:=rk hR9 hR
 refine W_cond (b:=((s.fuel == 0) || (decide ((s.steps.length : Int) ≥ 1000)))) sf24 (fun hc11=>?_) (fun hc11=>?_)
 have hF:=(ite_t hc11).symm.trans hF
 refine sq (L_lda (cs:=[v0_0,v0_1,I s.fuel]) rfl Try.isAgg89 Try.sizeOf89 sf2 (At.sub0 (Blk.at (Star.blkAt 3 hst rfl)) 0 3) rfl (L_bs rfl parts0 (bs_24_0  ) hst (fun g16 w17 hst=>?_)))
 have hst:=Star.mkRow (R:=(OR.frz RP.bool)) [] [] 0 hst rfl rfl rfl (by decide)
 refine L_staB (vs:=#[v0_0,v0_1,I s.fuel]) (cs2:=#[v0_0,v0_1,I s.fuel]) 1 rfl Try.sizeOf89 sf4 rfl rfl (ones_cons (one_len (Star.len 2 hst rfl)) (ones_cons (one_len (Star.len 3 hst rfl)) (ones_cons rfl ones_nil))) hst rfl (by show 0 + 3≤3; decide) rfl (fun w19 hst=>aI rfl (aV (Sl g16 0 0) rfl (nn (W_ret (retG3 (v1:=.agg #[v0_0,v0_1,I s.fuel]) (v2:=I 0) (v3:=(Sl g16 0 0)) Try.results69 (resV_agg Try.isAgg89 Try.sizeOf89 sf4 (Star.blkAt 0 hst rfl) rfl) rfl rfl ?_)))))
 obtain rfl:=so hF
 have hst:=hst.gets [1,3,3] rfl
 have hst:=Star.drop 3 hst rfl
 have hst:=Star.drop 3 hst rfl
 exact ⟨H,(Le.refl _),v0_0,v0_1,(Sl g16 0 0),rfl,hst⟩
 have hF:=(ite_f hc11).symm.trans hF
 refine W_skip (sq (fA 2 fa_89_2 sf2 rfl (ldB 3 hst Try.isAgg3 rfl rfl rfl (L_sub rfl rfl rfl (fA 2 fa_89_2 sf2 rfl (L_stB (v:=I (i64 (s.fuel - 1))) (cs2:=#[v0_0,v0_1,I (i64 (s.fuel - 1))]) 3 rfl Try.sizeOf3 rfl rfl rfl hst rfl rfl rfl (fun w21 hst=>nq ?_)))))))
 obtain ⟨x22,hx22,hF⟩:=bind_some hF
 refine W_region (L_mk (R:=(OR.frz RP.int)) (z0:=0) (zc:=[I 0]) rfl et_65 (by kernel_rfl) (fun _ _=>⟨rfl,rfl⟩) rfl rfl hx22 hst (fun v26 w27 hst=>aV v26 rfl (nq (sq (aI rfl (nn ?_))))))
 have hlen31 : List.length decisions≤9223372036854775807:=len_le (slice_len h1)
 obtain ⟨j31,hL31,hF⟩:=bind_some hF
 obtain ⟨R31,hR31⟩:=exR fun f w_=>∃ p_30 : List Int,j31 = .nx p_30∧f 1 = v1∧f 2 = Pt g5∧f 4 = Pt g7∧f 7 = v26∧Star H w_ (oF 3 RP.int v26 p_30 :: box g7 89 #[S0,S0,I 0] :: oF 43 (rCon 112) v0_0 s.list :: oF 93 (rStep 112) v0_1 s.steps :: box g5 89 #[v0_0,v0_1,I (i64 (s.fuel - 1))] :: R)
 refine W_join R31 ?_ ?_
 refine W_block ?_
 obtain ⟨I31,hI31⟩:=exI fun n f w_=>∃ i_29 : Nat,∃ suf31 : List Int,∃ p_30 : List Int,n = suf31.length∧List.drop i_29 decisions = suf31∧i_29 + suf31.length = decisions.length∧rangeL s_l5Search_b1 suf31 i_29 p_30 = some j31∧f 1 = v1∧f 2 = Pt g5∧f 4 = Pt g7∧f 7 = v26∧f 8 = I i_29∧Star H w_ (oF 3 RP.int v26 p_30 :: box g7 89 #[S0,S0,I 0] :: oF 43 (rCon 112) v0_0 s.list :: oF 93 (rStep 112) v0_1 s.steps :: box g5 89 #[v0_0,v0_1,I (i64 (s.fuel - 1))] :: R)
 have hst:=hst.gets [1,4,4,4,4] rfl
 refine W_loop I31 (n:=decisions.length) ?_ ?_
 exact ij hI31 ⟨0,decisions,x22,rfl,rfl,Nat.zero_add _,hL31,sf1,sf2,sf4,rfl,rfl,hst⟩
 intro n31 f w_ hI
 obtain ⟨i_29,suf31,p_30,rfl,hd31,hl31,hL31,sf1,sf2,sf4,sf7,sf8,hst⟩:=ik hI31 hI
 refine W_seq (sq (mF sf8 rfl (mF sf1 rfl (L_len rfl Try.underlying65 rfl (slice_len h1) (L_lss rfl rfl rfl (nn (W_cond (b:=decide ((i_29 : Int) < (decisions.length : Int))) rfl (fun hc32=>?_) (fun hc32=>?_))))))))
 have hlt31:=of_decide_eq_true hc32
 rcases suf31 with _ | ⟨x_31,rest31⟩
 exact absurd hlt31 (by simp at hl31; omega)
 obtain ⟨o31,hB31,hL31⟩:=range_cons hL31
 rw [s_l5Search_b1] at hB31
 have hix31:=drop_idx hd31
 refine W_skip (W_seq (W_block ?_))
 obtain ⟨x42,hx42,hB31⟩:=bind_some hB31
 refine W_region (mF sf7 rfl (mF sf1 rfl (mF sf8 rfl (L_ix (r:=RP.int) rfl Try.underlying65 Try.sizeOf3 rfl h1 rfl hix31 (fun g44 o45 cs_g44 hrk_hat46 hat46=>?_)))))
 obtain rfl : _ = [_]:=hrk_hat46
 refine L_ld rfl Try.isAgg3 rfl (At.cell (AtH.at hat46 hst.sub) (j:=0) rfl) ?_
 obtain ⟨H48b,l49,s50,z51,k52⟩:=hst.lend [_]
 refine L_call rfl Try.call112 (ops2 rfl rfl) (s_l3Assign_c (p:=p_30) (lit:=x_31) s50 hx42) ?_
 rintro _ w53 ⟨rfl,hst⟩
 have hst:=k52 hst (co closed_int c0)
 refine nn (W_region (mF sf8 rfl (L_add rfl rfl rfl (aI rfl (nn ?_)))))
 obtain rfl:=so hB31
 show ∃ m,m < _∧I31 m _ _
 refine ⟨rest31.length,by simp,?_⟩
 exact ij hI31 ⟨i_29 + 1,rest31,x42,rfl,drop_next hd31,by simp at hl31; omega,hL31,sf1,sf2,sf4,sf7,(Eq.trans rfl (congrArg (Value.int .i64) (i64_succ (n:=decisions.length) (by simp at hl31; omega) hlen31))),hst⟩
 rcases suf31 with _ | ⟨_,_⟩
 obtain rfl:=range_nil hL31
 refine W_exit (rj hR31 ⟨p_30,rfl,sf1,sf2,sf4,sf7,hst⟩)
 exact absurd (of_decide_eq_false hc32) (by simp at hl31; omega)
 intro f w_ hR
 obtain ⟨p_30,rfl,sf1,sf2,sf4,sf7,hst⟩:=rk hR31 hR
 refine W_seq (W_seq ?_)
 obtain ⟨x60,hx60,hF⟩:=bind_some hF
 refine W_region (fA 0 fa_89_0 sf2 rfl (ldB 4 hst Try.isAgg23 rfl rfl rfl (mF sf7 rfl ?_)))
 obtain ⟨H62b,l63,s64,z65,k66⟩:=hst.lend [_]
 have hb67 : (rS 43 (rCon 112)).rel H62b [v0_0] s.list:=fz_own 1 z65 rfl
 refine L_call rfl Try.call113 (ops2 rfl rfl) (s_l3Propagate_c (list:=s.list) (p:=p_30) s64 hb67 hx60) ?_
 rintro _ w68 ⟨rfl,hst⟩
 have hst:=k66 hst (co closed_int c0)
 refine L_geq rfl rfl rfl (nn (W_cond (b:=decide (x60.1 ≥ 0)) rfl (fun hc69=>?_) (fun hc69=>?_)))
 have hF:=(ite_t hc69).symm.trans hF
 refine W_seq ?_
 obtain ⟨x70,hx70,hF⟩:=bind_some hF
 refine W_region (L_lda (cs:=[v0_0,v0_1,I (i64 (s.fuel - 1))]) rfl Try.isAgg89 Try.sizeOf89 sf2 (At.sub0 (Blk.at (Star.blkAt 4 hst rfl)) 0 3) rfl (mF sf1 rfl ?_))
 have hst:=hst.gets [3,3] rfl
 refine L_call rfl Try.call114 (ops2 rfl rfl) (s_l5Learn_c (s:=({ list:=s.list,steps:=s.steps,fuel:=i64 (s.fuel - 1) } : Sst)) (decisions:=decisions) hst h1 hx70) ?_
 rintro _ w78 ⟨H78,l78,r78_0,r78_1,rfl,hst⟩
 refine L_bs rfl parts0 (bs_24_0  ) hst (fun g81 w82 hst=>?_)
 have hst:=Star.mkRow (R:=(OR.frz RP.bool)) [] [] 0 hst rfl rfl rfl (by decide)
 refine L_staB (vs:=#[r78_0,r78_1,I x70.fuel]) (cs2:=#[r78_0,r78_1,I x70.fuel]) 4 rfl Try.sizeOf89 sf4 rfl rfl (ones_cons (one_len (Star.len 1 hst rfl)) (ones_cons (one_len (Star.len 2 hst rfl)) (ones_cons rfl ones_nil))) hst rfl (by show 0 + 3≤3; decide) rfl (fun w84 hst=>aI rfl (aV (Sl g81 0 0) rfl (nn (W_ret (retG3 (v1:=.agg #[r78_0,r78_1,I x70.fuel]) (v2:=I 2) (v3:=(Sl g81 0 0)) Try.results69 (resV_agg Try.isAgg89 Try.sizeOf89 sf4 (Star.blkAt 0 hst rfl) rfl) rfl rfl ?_)))))
 obtain rfl:=so hF
 have hst:=hst.gets [1,3,3] rfl
 have hst:=Star.drop 3 hst rfl
 have hst:=Star.drop 3 hst rfl
 have hst:=Star.drop 3 hst rfl
 exact ⟨H78,l78,r78_0,r78_1,(Sl g81 0 0),rfl,hst⟩
 have hF:=(ite_f hc69).symm.trans hF
 refine W_skip (W_seq ?_)
 obtain ⟨x91,hx91,hF⟩:=bind_some hF
 refine W_region (mF sf7 rfl ?_)
 obtain ⟨H93b,l94,s95,z96,k97⟩:=hst.borrow
 have hb98 : (rS 3 RP.int).rel H93b [v26] x60.2:=fz_own 0 z96 rfl
 refine L_call rfl Try.call115 (ops1 rfl) (s_l5Free_c (p:=x60.2) s95 hb98 hx91) ?_
 rintro _ w99 ⟨rfl,hst⟩
 have hst:=k97 hst c0
 refine aI rfl (nq (sq (mI rfl (L_eql rfl rfl rfl (nn (W_cond (b:=(x91 == 0)) rfl (fun hc100=>?_) (fun hc100=>?_)))))))
 have hF:=(ite_t hc100).symm.trans hF
 refine sq (L_bs rfl parts0 (bs_24_0  ) hst (fun g104 w105 hst=>?_))
 have hst:=Star.mkRow (R:=(OR.frz RP.bool)) [] [] 0 hst rfl rfl rfl (by decide)
 refine aV (Sl g104 0 0) rfl (nq (sq (aI rfl (nn ?_))))
 have hlen110 : List.length x60.2≤9223372036854775807:=len_le (Star.len 1 hst rfl)
 obtain ⟨j110,hL110,hF⟩:=bind_some hF
 obtain ⟨R110,hR110⟩:=exR fun f w_=>∃ values_108 : List Bool,∃ v108_values : Value,j110 = .nx values_108∧f 2 = Pt g5∧f 4 = Pt g7∧f 10 = v108_values∧Star H w_ (oF 4 RP.bool v108_values values_108 :: box g7 89 #[S0,S0,I 0] :: oF 43 (rCon 112) v0_0 s.list :: oF 93 (rStep 112) v0_1 s.steps :: box g5 89 #[v0_0,v0_1,I (i64 (s.fuel - 1))] :: R)
 refine W_join R110 ?_ ?_
 refine W_block ?_
 obtain ⟨I110,hI110⟩:=exI fun n f w_=>∃ i_107 : Nat,∃ suf110 : List Int,∃ values_108 : List Bool,∃ v108_values : Value,n = suf110.length∧List.drop i_107 x60.2 = suf110∧i_107 + suf110.length = x60.2.length∧rangeL s_l5Search_b2 suf110 i_107 values_108 = some j110∧f 2 = Pt g5∧f 4 = Pt g7∧f 7 = v26∧f 10 = v108_values∧f 11 = I i_107∧Star H w_ (oF 3 RP.int v26 x60.2 :: oF 4 RP.bool v108_values values_108 :: box g7 89 #[S0,S0,I 0] :: oF 43 (rCon 112) v0_0 s.list :: oF 93 (rStep 112) v0_1 s.steps :: box g5 89 #[v0_0,v0_1,I (i64 (s.fuel - 1))] :: R)
 have hst:=hst.gets [5,5,5,5,4,5] rfl
 refine W_loop I110 (n:=x60.2.length) ?_ ?_
 exact ij hI110 ⟨0,x60.2,[],(Sl g104 0 0),rfl,rfl,Nat.zero_add _,hL110,sf2,sf4,sf7,rfl,rfl,hst⟩
 intro n110 f w_ hI
 obtain ⟨i_107,suf110,values_108,v108_values,rfl,hd110,hl110,hL110,sf2,sf4,sf7,sf10,sf11,hst⟩:=ik hI110 hI
 refine W_seq (sq (mF sf11 rfl (mF sf7 rfl (L_len rfl Try.underlying65 rfl (Star.len 0 hst rfl) (L_lss rfl rfl rfl (nn (W_cond (b:=decide ((i_107 : Int) < (x60.2.length : Int))) rfl (fun hc111=>?_) (fun hc111=>?_))))))))
 have hlt110:=of_decide_eq_true hc111
 rcases suf110 with _ | ⟨x_110,rest110⟩
 exact absurd hlt110 (by simp at hl110; omega)
 obtain ⟨o110,hB110,hL110⟩:=range_cons hL110
 rw [s_l5Search_b2] at hB110
 have hix110:=drop_idx hd110
 refine W_skip (W_seq (W_block ?_))
 obtain ⟨x119,hx119,hB110⟩:=bind_some hB110
 refine W_region (mF sf10 rfl (mF sf7 rfl (mF sf11 rfl ?_)))
 obtain ⟨g123,cap_g123,hv124,_,_⟩:=Star.row 0 hst rfl hix110
 refine L_ixO (R:=(OR.frz RP.int)) (tb:=0) 0 rfl Try.underlying65 Try.sizeOf3 rfl hv124 (by first | rfl | simp) rfl hix110 ?_
 obtain ⟨cs125,hr125,hat125⟩:=Star.eltF 0 hst rfl hv124 hix110
 obtain rfl : _ = [_]:=hr125
 refine L_ld rfl Try.isAgg3 rfl (At.cell hat125 (j:=0) rfl) (L_gtr rfl rfl rfl (L_bs rfl (parts1 rfl) (bs_24_1_0 (Bo (decide (x_110 > 0))) rfl) hst (fun g127 w128 hst=>?_)))
 have hst:=Star.addF (r:=RP.bool) (cs:=[Bo (decide (x_110 > 0))]) (x:=(decide (x_110 > 0))) hst rfl
 have hst:=Star.mkRow (R:=(OR.frz RP.bool)) [([Bo (decide (x_110 > 0))],decide (x_110 > 0))] [decide (x_110 > 0)] 1 hst rfl rfl rfl (by decide)
 have hst:=hst.get 2 rfl
 refine L_appM (v:=v108_values) (u:=(Sl g127 1 1)) rfl et_24 rfl rfl hst hx119 (fun v130 w131 hst=>aV v130 rfl (nn (W_region (mF sf11 rfl (L_add rfl rfl rfl (aI rfl (nn ?_)))))))
 obtain rfl:=so hB110
 have hst:=hst.gets [5,5,5,5,4,5] rfl
 show ∃ m,m < _∧I110 m _ _
 refine ⟨rest110.length,by simp,?_⟩
 exact ij hI110 ⟨i_107 + 1,rest110,x119,v130,rfl,drop_next hd110,by simp at hl110; omega,hL110,sf2,sf4,sf7,rfl,(Eq.trans rfl (congrArg (Value.int .i64) (i64_succ (n:=x60.2.length) (by simp at hl110; omega) hlen110))),hst⟩
 rcases suf110 with _ | ⟨_,_⟩
 obtain rfl:=range_nil hL110
 refine W_exit ?_
 have hst:=hst.gets [5,5,5,5,5] rfl
 have hst:=Star.drop 5 hst rfl
 exact rj hR110 ⟨values_108,v108_values,rfl,sf2,sf4,sf10,hst⟩
 exact absurd (of_decide_eq_false hc111) (by simp at hl110; omega)
 intro f w_ hR
 obtain ⟨values_108,v108_values,rfl,sf2,sf4,sf10,hst⟩:=rk hR110 hR
 refine sq (L_lda (cs:=[v0_0,v0_1,I (i64 (s.fuel - 1))]) rfl Try.isAgg89 Try.sizeOf89 sf2 (At.sub0 (Blk.at (Star.blkAt 4 hst rfl)) 0 3) rfl (mF sf10 rfl (L_staB (vs:=#[v0_0,v0_1,I (i64 (s.fuel - 1))]) (cs2:=#[v0_0,v0_1,I (i64 (s.fuel - 1))]) 1 rfl Try.sizeOf89 sf4 rfl rfl (ones_cons (one_len (Star.len 2 hst rfl)) (ones_cons (one_len (Star.len 3 hst rfl)) (ones_cons rfl ones_nil))) hst rfl (by show 0 + 3≤3; decide) rfl (fun w134 hst=>aI rfl (aV v108_values rfl (nn (W_ret (retG3 (v1:=.agg #[v0_0,v0_1,I (i64 (s.fuel - 1))]) (v2:=I 1) (v3:=v108_values) Try.results69 (resV_agg Try.isAgg89 Try.sizeOf89 sf4 (Star.blkAt 0 hst rfl) rfl) rfl rfl ?_))))))))
 obtain rfl:=so hF
 have hst:=hst.gets [1,3,3] rfl
 have hst:=Star.drop 3 hst rfl
 have hst:=Star.drop 3 hst rfl
 exact ⟨H,(Le.refl _),v0_0,v0_1,v108_values,rfl,hst⟩
 have hF:=(ite_f hc100).symm.trans hF
 refine W_skip (W_seq (sq (mI rfl (mI rfl (L_neg rfl rfl (L_bs rfl (parts2 rfl rfl) (bs_65_2_0_0 (I x91) (I (i64 (-x91))) rfl rfl) hst (fun g138 w139 hst=>?_)))))))
 have hst:=Star.addF (r:=RP.int) (cs:=[I (i64 (-x91))]) (x:=(i64 (-x91))) hst rfl
 have hst:=Star.addF (r:=RP.int) (cs:=[I x91]) (x:=x91) hst rfl
 have hst:=Star.mkRow (R:=(OR.frz RP.int)) [([I x91],x91),([I (i64 (-x91))],i64 (-x91))] [x91,i64 (-x91)] 2 hst rfl rfl rfl (by decide)
 refine L_len rfl Try.underlying65 rfl (Star.len 0 hst rfl) (mI rfl (nn ?_))
 have hlen149 : List.length ([x91,i64 (-x91)])≤9223372036854775807:=len_le (Star.len 0 hst rfl)
 obtain ⟨j149,hL149,hF⟩:=bind_some hF
 obtain ⟨R149,hR149⟩:=exR fun f w_=>∃ g5_0_142 : List Con,∃ g5_1_144 : List Step,∃ g5_2_146 : Int,∃ H147 : FH,∃ v142_g5_0 v144_g5_1 : Value,j149 = .nx (g5_0_142,g5_1_144,g5_2_146)∧Le H H147∧f 1 = v1∧f 2 = Pt g5∧f 4 = Pt g7∧Star H147 w_ (box g7 89 #[S0,S0,I 0] :: oF 43 (rCon 112) v142_g5_0 g5_0_142 :: oF 93 (rStep 112) v144_g5_1 g5_1_144 :: box g5 89 #[v142_g5_0,v144_g5_1,I g5_2_146] :: R)
 refine W_join R149 ?_ ?_
 refine W_block ?_
 obtain ⟨I149,hI149⟩:=exI fun n f w_=>∃ i_141 : Nat,∃ suf149 : List Int,∃ g5_0_142 : List Con,∃ g5_1_144 : List Step,∃ g5_2_146 : Int,∃ H147 : FH,∃ v142_g5_0 v144_g5_1 : Value,n = suf149.length∧List.drop i_141 ([x91,i64 (-x91)]) = suf149∧i_141 + suf149.length = ([x91,i64 (-x91)]).length∧rangeL (s_l5Search_b3 decisions rec_) suf149 i_141 (g5_0_142,g5_1_144,g5_2_146) = some j149∧Le H H147∧f 1 = v1∧f 2 = Pt g5∧f 4 = Pt g7∧f 77 = (Sl g138 2 2)∧f 78 = I (([x91,i64 (-x91)]).length : Int)∧f 79 = I i_141∧Star H147 w_ (oF 3 RP.int (Sl g138 2 2) ([x91,i64 (-x91)]) :: box g7 89 #[S0,S0,I 0] :: oF 43 (rCon 112) v142_g5_0 g5_0_142 :: oF 93 (rStep 112) v144_g5_1 g5_1_144 :: box g5 89 #[v142_g5_0,v144_g5_1,I g5_2_146] :: R)
 have hst:=hst.gets [5,5,5,5,4] rfl
 have hst:=Star.drop 5 hst rfl
 refine W_loop I149 (n:=([x91,i64 (-x91)]).length) ?_ ?_
 exact ij hI149 ⟨0,[x91,i64 (-x91)],s.list,s.steps,i64 (s.fuel - 1),H,v0_0,v0_1,rfl,rfl,Nat.zero_add _,hL149,(Le.refl _),sf1,sf2,sf4,rfl,rfl,rfl,hst⟩
 intro n149 f w_ hI
 obtain ⟨i_141,suf149,g5_0_142,g5_1_144,g5_2_146,H147,v142_g5_0,v144_g5_1,rfl,hd149,hl149,hL149,l148,sf1,sf2,sf4,sf77,sf78,sf79,hst⟩:=ik hI149 hI
 refine sq (L_lss rfl sf79 sf78 (nq (W_cond (b:=decide ((i_141 : Int) < (([x91,i64 (-x91)]).length : Int))) rfl (fun hc150=>?_) (fun hc150=>?_))))
 have hlt149:=of_decide_eq_true hc150
 rcases suf149 with _ | ⟨x_149,rest149⟩
 exact absurd hlt149 (by simp only [List.length_cons,List.length_nil] at *; omega)
 obtain ⟨o149,hB149,hL149⟩:=range_cons hL149
 rw [s_l5Search_b3] at hB149
 have hix149:=drop_idx hd149
 refine W_skip (W_seq (W_block (sq (L_ixO (R:=(OR.frz RP.int)) (tb:=0) (g:=g138) 0 rfl Try.underlying65 Try.sizeOf3 sf77 rfl (by first | rfl | simp) sf79 hix149 ?_))))
 obtain ⟨cs153,hr153,hat153⟩:=Star.eltF 0 hst rfl rfl hix149
 obtain rfl : _ = [_]:=hr153
 refine L_ld rfl Try.isAgg3 rfl (At.cell hat153 (j:=0) rfl) (aI rfl (ns (aI rfl (ns (L_bs rfl parts0 (bs_24_0  ) hst (fun g158 w159 hst=>?_))))))
 have hst:=Star.mkRow (R:=(OR.frz RP.bool)) [] [] 0 hst rfl rfl rfl (by decide)
 refine aV (Sl g158 0 0) rfl (nq ?_)
 obtain ⟨x164,hx164,hB149⟩:=bind_some hB149
 obtain ⟨x171,hx171,hB149⟩:=bind_some hB149
 obtain ⟨x178,hx178,hB149⟩:=bind_some hB149
 refine W_drawS 14 [isV (.agg #[v142_g5_0,v144_g5_1,I g5_2_146]),anyF,isV (v1),anyF,isV (I x_149),anyF,anyF,tup3 (exA fun u_0=>exA fun u_1=>isV (.agg #[u_0,u_1,I x178.1.fuel])) (isV (I x178.2.1)) (anyF),tup3 (exA fun u_0=>exA fun u_1=>isV (.agg #[u_0,u_1,I x178.1.fuel])) (isV (I x178.2.1)) (anyF),exA fun u_0=>exA fun u_1=>isV (.agg #[u_0,u_1,I x178.1.fuel]),isV (I x178.2.1),anyF,anyF,isV (I x178.2.1)] [oF 4 RP.bool (Sl g158 0 0) ([]),oF 3 RP.int (Sl g138 2 2) ([x91,i64 (-x91)]),box g7 89 #[S0,S0,I 0]] [.base (oF 43 (rCon 112) v142_g5_0 g5_0_142) (some 7),.base (oF 93 (rStep 112) v144_g5_1 g5_1_144) (some 7),.base (box g5 89 #[v142_g5_0,v144_g5_1,I g5_2_146]) (some 12),.made 1 86 (fun v_=>oF 3 RP.int v_ ([])) (some 3),.made 3 88 (fun v_=>oF 3 RP.int v_ x164) (some 6),.made 5 90 (fun v_=>oF 3 RP.int v_ ([x_149])) (some 6),.made 6 91 (fun v_=>oF 3 RP.int v_ x171) (some 7),.made 7 92 (fun v_=>own (OR.ownS 43 (OR.frz (rCon 112))) [(aggC (tupC v_ 0) 0)] x178.1.list) (some 8),.made 7 92 (fun v_=>own (OR.ownS 93 (OR.frz (rStep 112))) [(aggC (tupC v_ 0) 1)] x178.1.steps) (some 8),.made 7 92 (fun v_=>oF 4 RP.bool (tupC v_ 2) x178.2.2) (some 8),.made 8 84 (fun v_=>own (OR.ownS 43 (OR.frz (rCon 112))) [(aggC (tupC v_ 0) 0)] x178.1.list) (some 9),.made 8 84 (fun v_=>own (OR.ownS 93 (OR.frz (rStep 112))) [(aggC (tupC v_ 0) 1)] x178.1.steps) (some 9),.made 8 84 (fun v_=>oF 4 RP.bool (tupC v_ 2) x178.2.2) (some 11),.made 9 93 (fun v_=>oF 43 (rCon 112) (aggC v_ 0) x178.1.list) none,.made 9 93 (fun v_=>oF 93 (rStep 112) (aggC v_ 1) x178.1.steps) none,.made 11 95 (fun v_=>oF 4 RP.bool v_ x178.2.2) none,.madeN 12 [93] (fun vs_=>box g5 89 #[(aggC (vs_.getD 0 undef) 0),(aggC (vs_.getD 0 undef) 1),I x178.1.fuel]) none] (R) [([2],[2]),([],[3]),([],[]),([3],[4]),([],[]),([],[5]),([4,5],[6]),([0,1,6],[7,8,9]),([7,8,9],[10,11,12]),([10,11],[13,14]),([],[]),([12],[15]),([2,13,14],[13,14,16]),([],[])] (S:=[(none,[],some 7),(none,[],some 7),(none,[],some 12),(some 1,[86],some 3),(some 3,[88],some 6),(some 5,[90],some 6),(some 6,[91],some 7),(some 7,[92],some 8),(some 7,[92],some 8),(some 7,[92],some 8),(some 8,[84],some 9),(some 8,[84],some 9),(some 8,[84],some 11),(some 9,[93],none),(some 9,[93],none),(some 11,[95],none),(some 12,[93],none)]) Try_mix (by kernel_rfl) rfl (by kernel_rfl) (amF_cons (mono_V _) (amF_cons (mono_any) (amF_cons (mono_V _) (amF_cons (mono_any) (amF_cons (mono_V _) (amF_cons (mono_any) (amF_cons (mono_any) (amF_cons (mono_tup3 (mono_exA fun _=>mono_exA fun _=>mono_V _) (mono_V _) (mono_any)) (amF_cons (mono_tup3 (mono_exA fun _=>mono_exA fun _=>mono_V _) (mono_V _) (mono_any)) (amF_cons (mono_exA fun _=>mono_exA fun _=>mono_V _) (amF_cons (mono_V _) (amF_cons (mono_any) (amF_cons (mono_any) (amF_cons (mono_V _) amF_nil)))))))))))))) hst ?_ (fun f w_ H184 hS184 hE184 hT184 hst=>?_)
 refine opsS_cons ?_ ?_
 intro f w_ H184 X184 hS184 hE184 hP184 hst
 have hst : Star H184 w_ (oF 4 RP.bool (Sl g158 0 0) ([]) :: oF 3 RP.int (Sl g138 2 2) ([x91,i64 (-x91)]) :: box g7 89 #[S0,S0,I 0] :: box g5 89 #[v142_g5_0,v144_g5_1,I g5_2_146] :: X184):=hst
 refine L_lda (cs:=[v142_g5_0,v144_g5_1,I g5_2_146]) rfl Try.isAgg89 Try.sizeOf89 ((hS184 2 rfl).trans sf2) (At.sub0 (Blk.at (Star.blkAt 3 hst rfl)) 0 3) rfl (L_nil ⟨rfl,_,_,rfl,Le.refl _,fun _ _=>rfl,hst⟩)
 refine opsS_cons ?_ ?_
 intro f w_ H184 X184 hS184 hE184 hP184 hst
 refine L_bs rfl parts0 (bs_65_0  ) hst (fun g205 w206 hst=>?_)
 have hst:=Star.mkRow (R:=(OR.frz RP.int)) [] [] 0 hst rfl rfl rfl (by decide)
 have hst:=hst.gets [3,3,3] rfl
 exact L_nil ⟨rfl,_,_,rfl,Le.refl _,fun _ _=>trivial,hst⟩
 refine opsS_cons (fun f w_ _ _ s _ _ hst=>mF ((s 1 rfl).trans sf1) rfl (nO rfl rfl hst)) (opsS_cons ?_ ?_)
 intro f w_ H184 X184 hS184 hE184 hP184 hst
 have hst : Star H184 w_ (oF 4 RP.bool (Sl g158 0 0) ([]) :: oF 3 RP.int (Sl g138 2 2) ([x91,i64 (-x91)]) :: box g7 89 #[S0,S0,I 0] :: oF 3 RP.int (f 86) ([]) :: X184):=hst
 have hst:=hst.get 3 rfl
 refine L_app (v:=(f 86)) (u:=v1) rfl et_65 rfl (hP184 2 87 rfl rfl) hst (RP.mono _ h1 (Le.trans l148 hE184)) hx164 (fun v209 w210 hst=>?_)
 have hst:=hst.gets [3,3,3] rfl
 exact L_nil ⟨rfl,_,_,rfl,Le.refl _,fun _ _=>trivial,hst⟩
 refine opsS_cons (fun f w_ _ _ s _ _ hst=>mF ((s 13 rfl).trans rfl) rfl (nO rfl rfl hst)) (opsS_cons ?_ ?_)
 intro f w_ H184 X184 hS184 hE184 hP184 hst
 refine L_bs rfl (parts1 (hP184 4 89 rfl rfl)) (bs_65_1_0 (I x_149) rfl) hst (fun g212 w213 hst=>?_)
 have hst:=Star.addF (r:=RP.int) (cs:=[I x_149]) (x:=x_149) hst rfl
 have hst:=Star.mkRow (R:=(OR.frz RP.int)) [([I x_149],x_149)] [x_149] 1 hst rfl rfl rfl (by decide)
 have hst:=hst.gets [3,3,3] rfl
 exact L_nil ⟨rfl,_,_,rfl,Le.refl _,fun _ _=>trivial,hst⟩
 refine opsS_cons ?_ ?_
 intro f w_ H184 X184 hS184 hE184 hP184 hst
 have hst : Star H184 w_ (oF 4 RP.bool (Sl g158 0 0) ([]) :: oF 3 RP.int (Sl g138 2 2) ([x91,i64 (-x91)]) :: box g7 89 #[S0,S0,I 0] :: oF 3 RP.int (f 88) x164 :: oF 3 RP.int (f 90) ([x_149]) :: X184):=hst
 have hst:=hst.gets [4,4] rfl
 refine L_appM (v:=(f 88)) (u:=(f 90)) rfl et_65 rfl rfl hst hx171 (fun v217 w218 hst=>?_)
 have hst:=hst.gets [3,3,3] rfl
 exact L_nil ⟨rfl,_,_,rfl,Le.refl _,fun _ _=>trivial,hst⟩
 refine opsS_cons ?_ ?_
 intro f w_ H184 X184 hS184 hE184 hP184 hst
 have hst : Star H184 w_ (oF 4 RP.bool (Sl g158 0 0) ([]) :: oF 3 RP.int (Sl g138 2 2) ([x91,i64 (-x91)]) :: box g7 89 #[S0,S0,I 0] :: oF 43 (rCon 112) v142_g5_0 g5_0_142 :: oF 93 (rStep 112) v144_g5_1 g5_1_144 :: oF 3 RP.int (f 91) x171 :: X184):=hst
 have hst:=hst.get 5 rfl
 obtain ⟨H221,l222,hst,hz223⟩:=Star.freeze hst
 have hz223 : (rS 3 RP.int).rel H221 [(f 91)] x171:=hz223
 have hst:=hst.gets [4,4] rfl
 refine L_call rfl Try.call69 (ops2 (hP184 0 85 rfl rfl) rfl) (hrec (s:=({ list:=g5_0_142,steps:=g5_1_144,fuel:=g5_2_146 } : Sst)) (decisions:=x171) hst hz223 hx178) ?_
 rintro _ w224 ⟨H224,l224,r224_0,r224_1,r224_2,rfl,hst⟩
 have hst:=hst.gets [2,2,2,5,5,5] rfl
 exact L_nil ⟨rfl,_,_,rfl,(Le.trans l222 l224),fun _ _=>⟨_,_,_,rfl,⟨_,_,rfl⟩,rfl,trivial⟩,hst⟩
 refine opsS_cons ?_ ?_
 intro f w_ H184 X184 hS184 hE184 hP184 hst
 have hst : Star H184 w_ (oF 4 RP.bool (Sl g158 0 0) ([]) :: oF 3 RP.int (Sl g138 2 2) ([x91,i64 (-x91)]) :: box g7 89 #[S0,S0,I 0] :: own (OR.ownS 43 (OR.frz (rCon 112))) [(aggC (tupC (f 92) 0) 0)] x178.1.list :: own (OR.ownS 93 (OR.frz (rStep 112))) [(aggC (tupC (f 92) 0) 1)] x178.1.steps :: own (OR.ownS 4 (OR.frz RP.bool)) [(tupC (f 92) 2)] x178.2.2 :: X184):=hst
 obtain ⟨a228_0,a228_1,a228_2,hv228,ht228_0,ht228_1,ht228_2⟩:=(hP184 7 92 rfl rfl)
 obtain ⟨u229_0,u229_1,rfl⟩:=ht228_0
 obtain rfl:=ht228_1
 have hren : Star H184 w_ (oF 4 RP.bool (Sl g158 0 0) ([]) :: oF 3 RP.int (Sl g138 2 2) ([x91,i64 (-x91)]) :: box g7 89 #[S0,S0,I 0] :: own (OR.ownS 43 (OR.frz (rCon 112))) [(aggC (tupC (f 92) 0) 0)] x178.1.list :: own (OR.ownS 93 (OR.frz (rStep 112))) [(aggC (tupC (f 92) 0) 1)] x178.1.steps :: own (OR.ownS 4 (OR.frz RP.bool)) [(tupC (f 92) 2)] x178.2.2 :: X184):=hst
 rw [hv228] at hren
 have hst : Star H184 w_ (oF 4 RP.bool (Sl g158 0 0) ([]) :: oF 3 RP.int (Sl g138 2 2) ([x91,i64 (-x91)]) :: box g7 89 #[S0,S0,I 0] :: oF 43 (rCon 112) u229_0 x178.1.list :: oF 93 (rStep 112) u229_1 x178.1.steps :: oF 4 RP.bool a228_2 x178.2.2 :: X184):=hren
 refine mF hv228 rfl (L_nil ⟨rfl,_,_,rfl,Le.refl _,fun _ _=>⟨_,_,_,rfl,⟨_,_,rfl⟩,rfl,trivial⟩,hst⟩)
 refine opsS_cons ?_ ?_
 intro f w_ H184 X184 hS184 hE184 hP184 hst
 have hst : Star H184 w_ (oF 4 RP.bool (Sl g158 0 0) ([]) :: oF 3 RP.int (Sl g138 2 2) ([x91,i64 (-x91)]) :: box g7 89 #[S0,S0,I 0] :: own (OR.ownS 43 (OR.frz (rCon 112))) [(aggC (tupC (f 84) 0) 0)] x178.1.list :: own (OR.ownS 93 (OR.frz (rStep 112))) [(aggC (tupC (f 84) 0) 1)] x178.1.steps :: X184):=hst
 obtain ⟨a230_0,a230_1,a230_2,hv230,ht230_0,ht230_1,ht230_2⟩:=(hP184 8 84 rfl rfl)
 obtain ⟨u231_0,u231_1,rfl⟩:=ht230_0
 obtain rfl:=ht230_1
 have hren : Star H184 w_ (oF 4 RP.bool (Sl g158 0 0) ([]) :: oF 3 RP.int (Sl g138 2 2) ([x91,i64 (-x91)]) :: box g7 89 #[S0,S0,I 0] :: own (OR.ownS 43 (OR.frz (rCon 112))) [(aggC (tupC (f 84) 0) 0)] x178.1.list :: own (OR.ownS 93 (OR.frz (rStep 112))) [(aggC (tupC (f 84) 0) 1)] x178.1.steps :: X184):=hst
 rw [hv230] at hren
 have hst : Star H184 w_ (oF 4 RP.bool (Sl g158 0 0) ([]) :: oF 3 RP.int (Sl g138 2 2) ([x91,i64 (-x91)]) :: box g7 89 #[S0,S0,I 0] :: oF 43 (rCon 112) u231_0 x178.1.list :: oF 93 (rStep 112) u231_1 x178.1.steps :: X184):=hren
 refine L_ex (v:=.agg #[u231_0,u231_1,I x178.1.fuel]) rfl hv230 rfl (L_nil ⟨rfl,_,_,rfl,Le.refl _,fun _ _=>⟨_,_,rfl⟩,hst⟩)
 refine opsS_cons ?_ ?_
 intro f w_ H184 X184 hS184 hE184 hP184 hst
 obtain ⟨a232_0,a232_1,a232_2,hv232,ht232_0,ht232_1,ht232_2⟩:=(hP184 8 84 rfl rfl)
 obtain ⟨u233_0,u233_1,rfl⟩:=ht232_0
 obtain rfl:=ht232_1
 refine L_ex (v:=I x178.2.1) rfl hv232 rfl (L_nil ⟨rfl,_,_,rfl,Le.refl _,fun _ _=>rfl,hst⟩)
 refine opsS_cons ?_ ?_
 intro f w_ H184 X184 hS184 hE184 hP184 hst
 have hst : Star H184 w_ (oF 4 RP.bool (Sl g158 0 0) ([]) :: oF 3 RP.int (Sl g138 2 2) ([x91,i64 (-x91)]) :: box g7 89 #[S0,S0,I 0] :: own (OR.ownS 4 (OR.frz RP.bool)) [(tupC (f 84) 2)] x178.2.2 :: X184):=hst
 obtain ⟨a234_0,a234_1,a234_2,hv234,ht234_0,ht234_1,ht234_2⟩:=(hP184 8 84 rfl rfl)
 obtain ⟨u235_0,u235_1,rfl⟩:=ht234_0
 obtain rfl:=ht234_1
 have hren : Star H184 w_ (oF 4 RP.bool (Sl g158 0 0) ([]) :: oF 3 RP.int (Sl g138 2 2) ([x91,i64 (-x91)]) :: box g7 89 #[S0,S0,I 0] :: own (OR.ownS 4 (OR.frz RP.bool)) [(tupC (f 84) 2)] x178.2.2 :: X184):=hst
 rw [hv234] at hren
 have hst : Star H184 w_ (oF 4 RP.bool (Sl g158 0 0) ([]) :: oF 3 RP.int (Sl g138 2 2) ([x91,i64 (-x91)]) :: box g7 89 #[S0,S0,I 0] :: oF 4 RP.bool a234_2 x178.2.2 :: X184):=hren
 refine L_ex (v:=a234_2) rfl hv234 rfl (L_nil ⟨rfl,_,_,rfl,Le.refl _,fun _ _=>trivial,hst⟩)
 refine opsS_cons ?_ ?_
 intro f w_ H184 X184 hS184 hE184 hP184 hst
 have hst : Star H184 w_ (oF 4 RP.bool (Sl g158 0 0) ([]) :: oF 3 RP.int (Sl g138 2 2) ([x91,i64 (-x91)]) :: box g7 89 #[S0,S0,I 0] :: box g5 89 #[v142_g5_0,v144_g5_1,I g5_2_146] :: own (OR.ownS 43 (OR.frz (rCon 112))) [(aggC (f 93) 0)] x178.1.list :: own (OR.ownS 93 (OR.frz (rStep 112))) [(aggC (f 93) 1)] x178.1.steps :: X184):=hst
 obtain ⟨u236_0,u236_1,hv236⟩:=(hP184 9 93 rfl rfl)
 have hren : Star H184 w_ (oF 4 RP.bool (Sl g158 0 0) ([]) :: oF 3 RP.int (Sl g138 2 2) ([x91,i64 (-x91)]) :: box g7 89 #[S0,S0,I 0] :: box g5 89 #[v142_g5_0,v144_g5_1,I g5_2_146] :: own (OR.ownS 43 (OR.frz (rCon 112))) [(aggC (f 93) 0)] x178.1.list :: own (OR.ownS 93 (OR.frz (rStep 112))) [(aggC (f 93) 1)] x178.1.steps :: X184):=hst
 rw [hv236] at hren
 have hst : Star H184 w_ (oF 4 RP.bool (Sl g158 0 0) ([]) :: oF 3 RP.int (Sl g138 2 2) ([x91,i64 (-x91)]) :: box g7 89 #[S0,S0,I 0] :: box g5 89 #[v142_g5_0,v144_g5_1,I g5_2_146] :: oF 43 (rCon 112) u236_0 x178.1.list :: oF 93 (rStep 112) u236_1 x178.1.steps :: X184):=hren
 refine L_staB (vs:=#[u236_0,u236_1,I x178.1.fuel]) (cs2:=#[u236_0,u236_1,I x178.1.fuel]) 3 rfl Try.sizeOf89 ((hS184 2 rfl).trans sf2) hv236 rfl (ones_cons (one_len (Star.len 4 hst rfl)) (ones_cons (one_len (Star.len 5 hst rfl)) (ones_cons rfl ones_nil))) hst rfl (by show 0 + 3≤3; decide) rfl (fun w237 hst=>?_)
 have hst:=hst.gets [5,5,5,5,5] rfl
 have hst : Star H184 w237 (oF 4 RP.bool (Sl g158 0 0) ([]) :: oF 3 RP.int (Sl g138 2 2) ([x91,i64 (-x91)]) :: box g7 89 #[S0,S0,I 0] :: own (OR.ownS 43 (OR.frz (rCon 112))) [(aggC (f 93) 0)] x178.1.list :: own (OR.ownS 93 (OR.frz (rStep 112))) [(aggC (f 93) 1)] x178.1.steps :: box g5 89 #[(aggC (f 93) 0),(aggC (f 93) 1),I x178.1.fuel] :: X184):=by rw [hv236]; exact hst
 exact L_nil ⟨rfl,Bo false,_,rfl,Le.refl _,(fun _ h=>nomatch h),hst⟩
 refine opsS_cons (fun f w_ _ _ _ _ p hst=>aF (p 10 94 rfl rfl) rfl (nO rfl rfl hst)) (opsS_nil)
 have hst : Star H184 w_ (oF 4 RP.bool (Sl g158 0 0) ([]) :: oF 3 RP.int (Sl g138 2 2) ([x91,i64 (-x91)]) :: box g7 89 #[S0,S0,I 0] :: own (OR.ownS 43 (OR.frz (rCon 112))) [(aggC (f 93) 0)] x178.1.list :: own (OR.ownS 93 (OR.frz (rStep 112))) [(aggC (f 93) 1)] x178.1.steps :: oF 4 RP.bool (f 95) x178.2.2 :: box g5 89 #[(aggC (f 93) 0),(aggC (f 93) 1),I x178.1.fuel] :: R):=hst
 refine aV (f 95) rfl (ns (mF (hT184 13 14 rfl rfl) rfl (L_neq rfl rfl rfl (nn (W_cond (b:=(x178.2.1 != 2)) rfl (fun hc239=>?_) (fun hc239=>?_))))))
 have hB149:=(ite_t hc239).symm.trans hB149
 refine sq (L_lda (cs:=[(aggC (f 93) 0),(aggC (f 93) 1),I x178.1.fuel]) rfl Try.isAgg89 Try.sizeOf89 ((hS184 2 rfl).trans sf2) (At.sub0 (Blk.at (Star.blkAt 6 hst rfl)) 0 3) rfl (mF (hT184 13 14 rfl rfl) rfl (mV (f 95) rfl (L_staB (vs:=#[(aggC (f 93) 0),(aggC (f 93) 1),I x178.1.fuel]) (cs2:=#[(aggC (f 93) 0),(aggC (f 93) 1),I x178.1.fuel]) 2 rfl Try.sizeOf89 ((hS184 4 rfl).trans sf4) rfl rfl (ones_cons (one_len (Star.len 3 hst rfl)) (ones_cons (one_len (Star.len 4 hst rfl)) (ones_cons rfl ones_nil))) hst rfl (by show 0 + 3≤3; decide) rfl (fun w241 hst=>aI rfl (aV (f 95) rfl (nn (W_ret (retG3 (v1:=.agg #[(aggC (f 93) 0),(aggC (f 93) 1),I x178.1.fuel]) (v2:=I x178.2.1) (v3:=(f 95)) Try.results69 (resV_agg Try.isAgg89 Try.sizeOf89 ((hS184 4 rfl).trans sf4) (Star.blkAt 0 hst rfl) rfl) rfl rfl ?_)))))))))
 obtain rfl:=so hB149
 obtain rfl:=so hL149
 obtain rfl:=so hF
 have hst:=hst.gets [5,5,5] rfl
 have hst:=Star.drop 3 hst rfl
 have hst:=Star.drop 3 hst rfl
 have hst:=Star.drop 3 hst rfl
 have hst:=Star.drop 3 hst rfl
 exact ⟨H184,(Le.trans l148 hE184),(aggC (f 93) 0),(aggC (f 93) 1),(f 95),rfl,hst⟩
 have hB149:=(ite_f hc239).symm.trans hB149
 refine W_skip (W_region (L_add rfl ((hS184 79 rfl).trans sf79) rfl (mI rfl (nn ?_))))
 obtain rfl:=so hB149
 have hst:=hst.gets [6,5,5,5,5] rfl
 have hst:=Star.drop 5 hst rfl
 have hst:=Star.drop 5 hst rfl
 show ∃ m,m < _∧I149 m _ _
 refine ⟨rest149.length,by simp,?_⟩
 exact ij hI149 ⟨i_141 + 1,rest149,x178.1.list,x178.1.steps,x178.1.fuel,H184,(aggC (f 93) 0),(aggC (f 93) 1),rfl,drop_next hd149,by simp only [List.length_cons,List.length_nil] at *; omega,hL149,(Le.trans l148 hE184),((hS184 1 rfl).trans sf1),((hS184 2 rfl).trans sf2),((hS184 4 rfl).trans sf4),((hS184 77 rfl).trans sf77),((hS184 78 rfl).trans sf78),(Eq.trans rfl (congrArg (Value.int .i64) (i64_succ (n:=([x91,i64 (-x91)]).length) (by simp only [List.length_cons,List.length_nil] at *; omega) hlen149))),hst⟩
 rcases suf149 with _ | ⟨_,_⟩
 obtain rfl:=range_nil hL149
 refine W_exit ?_
 have hst:=hst.gets [4,4,4,4] rfl
 have hst:=Star.drop 4 hst rfl
 exact rj hR149 ⟨g5_0_142,g5_1_144,g5_2_146,H147,v142_g5_0,v144_g5_1,rfl,l148,sf1,sf2,sf4,hst⟩
 exact absurd (of_decide_eq_false hc150) (by simp only [List.length_cons,List.length_nil] at *; omega)
 intro f w_ hR
 obtain ⟨g5_0_142,g5_1_144,g5_2_146,H147,v142_g5_0,v144_g5_1,rfl,l148,sf1,sf2,sf4,hst⟩:=rk hR149 hR
 refine W_seq (sq (fA 1 fa_89_1 sf2 rfl (ldB 3 hst Try.isAgg30 rfl rfl rfl (L_len rfl Try.underlying30 rfl (Star.len 2 hst rfl) (L_geq rfl rfl rfl (nn (W_cond (b:=decide ((g5_1_144.length : Int) ≥ 1000)) rfl (fun hc242=>?_) (fun hc242=>?_))))))))
 have hF:=(ite_t hc242).symm.trans hF
 refine sq (L_lda (cs:=[v142_g5_0,v144_g5_1,I g5_2_146]) rfl Try.isAgg89 Try.sizeOf89 sf2 (At.sub0 (Blk.at (Star.blkAt 3 hst rfl)) 0 3) rfl (L_bs rfl parts0 (bs_24_0  ) hst (fun g247 w248 hst=>?_)))
 have hst:=Star.mkRow (R:=(OR.frz RP.bool)) [] [] 0 hst rfl rfl rfl (by decide)
 refine L_staB (vs:=#[v142_g5_0,v144_g5_1,I g5_2_146]) (cs2:=#[v142_g5_0,v144_g5_1,I g5_2_146]) 1 rfl Try.sizeOf89 sf4 rfl rfl (ones_cons (one_len (Star.len 2 hst rfl)) (ones_cons (one_len (Star.len 3 hst rfl)) (ones_cons rfl ones_nil))) hst rfl (by show 0 + 3≤3; decide) rfl (fun w250 hst=>aI rfl (aV (Sl g247 0 0) rfl (nn (W_ret (retG3 (v1:=.agg #[v142_g5_0,v144_g5_1,I g5_2_146]) (v2:=I 0) (v3:=(Sl g247 0 0)) Try.results69 (resV_agg Try.isAgg89 Try.sizeOf89 sf4 (Star.blkAt 0 hst rfl) rfl) rfl rfl ?_)))))
 obtain rfl:=so hF
 have hst:=hst.gets [1,3,3] rfl
 have hst:=Star.drop 3 hst rfl
 have hst:=Star.drop 3 hst rfl
 exact ⟨H147,l148,v142_g5_0,v144_g5_1,(Sl g247 0 0),rfl,hst⟩
 have hF:=(ite_f hc242).symm.trans hF
 refine W_skip (W_seq ?_)
 obtain ⟨x251,hx251,hF⟩:=bind_some hF
 refine W_region (L_lda (cs:=[v142_g5_0,v144_g5_1,I g5_2_146]) rfl Try.isAgg89 Try.sizeOf89 sf2 (At.sub0 (Blk.at (Star.blkAt 3 hst rfl)) 0 3) rfl (mF sf1 rfl ?_))
 have hst:=hst.gets [2,2] rfl
 refine L_call rfl Try.call114 (ops2 rfl rfl) (s_l5Learn_c (s:=({ list:=g5_0_142,steps:=g5_1_144,fuel:=g5_2_146 } : Sst)) (decisions:=decisions) hst (RP.mono _ h1 l148) hx251) ?_
 rintro _ w259 ⟨H259,l259,r259_0,r259_1,rfl,hst⟩
 refine L_bs rfl parts0 (bs_24_0  ) hst (fun g262 w263 hst=>?_)
 have hst:=Star.mkRow (R:=(OR.frz RP.bool)) [] [] 0 hst rfl rfl rfl (by decide)
 refine L_staB (vs:=#[r259_0,r259_1,I x251.fuel]) (cs2:=#[r259_0,r259_1,I x251.fuel]) 3 rfl Try.sizeOf89 sf4 rfl rfl (ones_cons (one_len (Star.len 1 hst rfl)) (ones_cons (one_len (Star.len 2 hst rfl)) (ones_cons rfl ones_nil))) hst rfl (by show 0 + 3≤3; decide) rfl (fun w265 hst=>aI rfl (aV (Sl g262 0 0) rfl (nn (W_ret (retG3 (v1:=.agg #[r259_0,r259_1,I x251.fuel]) (v2:=I 2) (v3:=(Sl g262 0 0)) Try.results69 (resV_agg Try.isAgg89 Try.sizeOf89 sf4 (Star.blkAt 0 hst rfl) rfl) rfl rfl ?_)))))
 obtain rfl:=so hF
 have hst:=hst.gets [1,3,3] rfl
 have hst:=Star.drop 3 hst rfl
 have hst:=Star.drop 3 hst rfl
 exact ⟨H259,(Le.trans l148 l259),r259_0,r259_1,(Sl g262 0 0),rfl,hst⟩
theorem s_l5Search_R_c {fu : Nat} : ∀ (n : Nat) {s : Sst} {decisions : List Int} {v0_0 : Value} {v0_1 : Value} {v1 : Value} {H : FH} {w : World} {R : List Ass} (hst : Star H w (oF 43 (rCon 112) v0_0 s.list :: oF 93 (rStep 112) v0_1 s.steps :: R)) (h1 : (rS 3 RP.int).rel H [v1] decisions) {r : Sst × Int × (List Bool)} (hF : s_l5Search_R fu n s decisions = some r),C Try.prog 69 #[.agg #[v0_0,v0_1,I s.fuel],v1] w fun v w'=>∃ H' : FH,Le H H'∧∃ (u1 : Value) (u2 : Value) (u3 : Value),v = .tuple #[.agg #[u1,u2,I r.1.fuel],I r.2.1,u3]∧Star H' w' (oF 43 (rCon 112) u1 r.1.list :: oF 93 (rStep 112) u2 r.1.steps :: oF 4 RP.bool u3 r.2.2 :: R):=by
 intro n
 induction n with
 | zero=>intros; rename_i hF; cases hF
 | succ n ih=>intros; rename_i hst h1 _ hF; exact s_l5Search_F_c ih hst h1 hF
theorem s_l5Search_c {fu : Nat} {s : Sst} {decisions : List Int} {v0_0 : Value} {v0_1 : Value} {v1 : Value} {H : FH} {w : World} {R : List Ass} (hst : Star H w (oF 43 (rCon 112) v0_0 s.list :: oF 93 (rStep 112) v0_1 s.steps :: R)) (h1 : (rS 3 RP.int).rel H [v1] decisions) {r : Sst × Int × (List Bool)} (hF : s_l5Search fu s decisions = some r) :
 C Try.prog 69 #[.agg #[v0_0,v0_1,I s.fuel],v1] w fun v w'=>∃ H' : FH,Le H H'∧∃ (u1 : Value) (u2 : Value) (u3 : Value),v = .tuple #[.agg #[u1,u2,I r.1.fuel],I r.2.1,u3]∧Star H' w' (oF 43 (rCon 112) u1 r.1.list :: oF 93 (rStep 112) u2 r.1.steps :: oF 4 RP.bool u3 r.2.2 :: R):=s_l5Search_R_c fu hst h1 hF
theorem s_SolveProblem_c {fu : Nat} {list : List Con} {fuel : Int} {v0 : Value} {H : FH} {w : World} (hst : Star H w []) (h0 : (rS 43 (rCon 112)).rel H [v0] list) {r : Int × (List Bool) × (List Step)} (hF : s_SolveProblem fu list fuel = some r) :
 C Try.prog 20 #[v0,I fuel] w fun v w'=>∃ (u1 : Value) (u2 : Value),v = .tuple #[I r.1,u1,u2]∧Star H w' [oF 4 RP.bool u1 r.2.1,oS 93 (oStep 112) u2 r.2.2]:=by
 unfold s_SolveProblem at hF
 refine C_enter Try.func20 rfl Try.ntmps20 rfl (sq (aI rfl (aV S0 rfl (aV S0 rfl (nq (W_seq ?_))))))
 obtain ⟨x6,hx6,hF⟩:=bind_some hF
 obtain ⟨R8,hR8⟩:=exR fun f w_=>f 0 = v0∧f 1 = I fuel∧f 23 = Bo (((!x6) || (decide (fuel < 0))) || (decide (fuel > 2000)))∧Star H w_ ([])
 refine W_join R8 ?_ ?_
 refine W_region (mV v0 rfl ?_)
 obtain ⟨H9b,l10,s11,z12,k13⟩:=hst.borrow
 refine L_call rfl Try.call27 (ops1 rfl) (s_ProblemValid_c (list:=list) s11 (RP.mono _ h0 l10) hx6) ?_
 rintro _ w14 ⟨rfl,hst⟩
 have hst:=k13 hst c0
 refine L_not_ rfl rfl (mB rfl (L_split (d:=16) (b:=(!x6)) rfl (fun hc15=>?_) (fun hc15=>?_)))
 refine ps rfl (ps rfl (L_pick (v:=Bo ((!x6) || (decide (fuel < 0)))) rfl rfl (or_t hc15) (mB rfl (L_split (d:=20) (b:=((!x6) || (decide (fuel < 0)))) rfl (fun hc16=>?_) (fun hc16=>?_)))))
 refine ps rfl (ps rfl (L_pick (v:=Bo (((!x6) || (decide (fuel < 0))) || (decide (fuel > 2000)))) rfl rfl (or_t hc16) (nn (rj hR8 ⟨rfl,rfl,rfl,hst⟩))))
 refine mI rfl (L_gtr rfl rfl rfl (L_pick (v:=Bo (((!x6) || (decide (fuel < 0))) || (decide (fuel > 2000)))) rfl rfl (or_f hc16 rfl) (nn (rj hR8 ⟨rfl,rfl,rfl,hst⟩))))
 refine mI rfl (L_lss rfl rfl rfl (L_pick (v:=Bo ((!x6) || (decide (fuel < 0)))) rfl rfl (or_f hc15 rfl) (mB rfl (L_split (d:=20) (b:=((!x6) || (decide (fuel < 0)))) rfl (fun hc17=>?_) (fun hc17=>?_)))))
 refine ps rfl (ps rfl (L_pick (v:=Bo (((!x6) || (decide (fuel < 0))) || (decide (fuel > 2000)))) rfl rfl (or_t hc17) (nn (rj hR8 ⟨rfl,rfl,rfl,hst⟩))))
 refine mI rfl (L_gtr rfl rfl rfl (L_pick (v:=Bo (((!x6) || (decide (fuel < 0))) || (decide (fuel > 2000)))) rfl rfl (or_f hc17 rfl) (nn (rj hR8 ⟨rfl,rfl,rfl,hst⟩))))
 intro f w_ hR
 obtain ⟨sf0,sf1,sf23,hst⟩:=rk hR8 hR
 refine W_cond (b:=(((!x6) || (decide (fuel < 0))) || (decide (fuel > 2000)))) sf23 (fun hc18=>?_) (fun hc18=>?_)
 have hF:=(ite_t hc18).symm.trans hF
 refine sq (L_bs rfl parts0 (bs_24_0  ) hst (fun g25 w26 hst=>?_))
 have hst:=Star.mkRow (R:=(OR.frz RP.bool)) [] [] 0 hst rfl rfl rfl (by decide)
 refine L_bs rfl parts0 (bs_30_0  ) hst (fun g28 w29 hst=>?_)
 have hst:=Star.mkRow (R:=(OR.frz (rStep 112))) [] [] 0 hst rfl rfl rfl (by decide)
 refine aI rfl (aV (Sl g25 0 0) rfl (aV (Sl g28 0 0) rfl (nn (W_ret (retG3 (v1:=I 3) (v2:=(Sl g25 0 0)) (v3:=(Sl g28 0 0)) Try.results20 rfl rfl rfl ?_)))))
 obtain rfl:=so hF
 have hst:=Star.recast (R:=(OR.frz (rStep 112))) (R':=(oStep 112)) rfl hst
 have hst:=hst.get 1 rfl
 exact ⟨(Sl g25 0 0),(Sl g28 0 0),rfl,hst⟩
 have hF:=(ite_f hc18).symm.trans hF
 refine W_skip (W_seq ?_)
 obtain ⟨x34,hx34,hF⟩:=bind_some hF
 obtain ⟨x39,hx39,hF⟩:=bind_some hF
 refine W_region (L_bs rfl parts0 (bs_23_0  ) hst (fun g47 w48 hst=>?_))
 have hst:=Star.mkRow (R:=(OR.frz (rCon 112))) [] [] 0 hst rfl rfl rfl (by decide)
 refine mF sf0 rfl (L_app (v:=(Sl g47 0 0)) (u:=v0) rfl et_23 rfl rfl hst h0 hx34 (fun v50 w51 hst=>mF sf1 rfl (L_bld rfl (parts2 rfl rfl) (bld_89_0_2 (v50) (I fuel) (one_len (Star.len 0 hst rfl)) rfl) ?_)))
 have hst:=Star.addNil (R:=(OR.frz (rStep 112))) (e:=93) hst
 have hst:=hst.get 1 rfl
 refine L_call rfl Try.call69 (ops2 rfl rfl) (s_l5Search_c (s:=({ list:=x34,steps:=[],fuel:=fuel } : Sst)) (decisions:=[]) hst (rel_nil _ _ _) hx39) ?_
 rintro _ w54 ⟨H54,l54,r54_0,r54_1,r54_2,rfl,hst⟩
 refine mV (.tuple #[.agg #[r54_0,r54_1,I x39.1.fuel],I x39.2.1,r54_2]) rfl (L_ex (v:=.agg #[r54_0,r54_1,I x39.1.fuel]) rfl rfl rfl (L_ex (v:=I x39.2.1) rfl rfl rfl (L_ex (v:=r54_2) rfl rfl rfl (L_al (cs:=#[S0,S0,I 0]) rfl Try.zeroValue89 rfl hst (fun g58 w59 hst=>L_staB (vs:=#[r54_0,r54_1,I x39.1.fuel]) (cs2:=#[r54_0,r54_1,I x39.1.fuel]) 0 rfl Try.sizeOf89 rfl rfl rfl (ones_cons (one_len (Star.len 1 hst rfl)) (ones_cons (one_len (Star.len 2 hst rfl)) (ones_cons rfl ones_nil))) hst rfl (by show 0 + 3≤3; decide) rfl (fun w60 hst=>aI rfl (aV r54_2 rfl (nq (sq (mI rfl (L_neq rfl rfl rfl (nn (W_cond (b:=(x39.2.1 != 2)) rfl (fun hc61=>?_) (fun hc61=>?_))))))))))))))
 have hF:=(ite_t hc61).symm.trans hF
 refine sq (mI rfl (mV r54_2 rfl (L_bs rfl parts0 (bs_30_0  ) hst (fun g65 w66 hst=>?_))))
 have hst:=Star.mkRow (R:=(OR.frz (rStep 112))) [] [] 0 hst rfl rfl rfl (by decide)
 refine aI rfl (aV r54_2 rfl (aV (Sl g65 0 0) rfl (nn (W_ret (retG3 (v1:=I x39.2.1) (v2:=r54_2) (v3:=(Sl g65 0 0)) Try.results20 rfl rfl rfl ?_)))))
 obtain rfl:=so hF
 have hst:=Star.recast (R:=(OR.frz (rStep 112))) (R':=(oStep 112)) rfl hst
 have hst:=hst.get 4 rfl
 exact ⟨r54_2,(Sl g65 0 0),rfl,(Star.down (Star.keepN 2 hst) l54 (co closed_bool (co closed_oStep c0)))⟩
 have hF:=(ite_f hc61).symm.trans hF
 refine W_skip (sq (L_bs rfl parts0 (bs_30_0  ) hst (fun g71 w72 hst=>?_)))
 have hst:=Star.mkRow (R:=(OR.frz (rStep 112))) [] [] 0 hst rfl rfl rfl (by decide)
 refine aV (Sl g71 0 0) rfl (nq (sq (aI rfl (nn ?_))))
 have hlen77 : List.length x39.1.steps≤9223372036854775807:=len_le (Star.len 3 hst rfl)
 obtain ⟨j77,hL77,hF⟩:=bind_some hF
 obtain ⟨R77,hR77⟩:=exR fun f w_=>∃ out_75 : List Step,∃ v75_out : Value,j77 = .nx out_75∧f 8 = I x39.2.1∧f 10 = v75_out∧Star H54 w_ ([oS 93 (oStep 112) v75_out out_75])
 refine W_join R77 ?_ ?_
 refine W_block ?_
 obtain ⟨I77,hI77⟩:=exI fun n f w_=>∃ i_74 : Nat,∃ suf77 : List Step,∃ out_75 : List Step,∃ v75_out : Value,n = suf77.length∧List.drop i_74 x39.1.steps = suf77∧i_74 + suf77.length = x39.1.steps.length∧rangeL s_SolveProblem_b1 suf77 i_74 out_75 = some j77∧f 7 = Pt g58∧f 8 = I x39.2.1∧f 10 = v75_out∧f 11 = I i_74∧Star H54 w_ ([oS 93 (oStep 112) v75_out out_75,oF 43 (rCon 112) r54_0 x39.1.list,oF 93 (rStep 112) r54_1 x39.1.steps,box g58 89 #[r54_0,r54_1,I x39.1.fuel]])
 have hst:=Star.recast (R:=(OR.frz (rStep 112))) (R':=(oStep 112)) rfl hst
 have hst:=hst.gets [1,3,3,3] rfl
 refine W_loop I77 (n:=x39.1.steps.length) ?_ ?_
 exact ij hI77 ⟨0,x39.1.steps,[],(Sl g71 0 0),rfl,rfl,Nat.zero_add _,hL77,rfl,rfl,rfl,rfl,(Star.keepN 4 hst)⟩
 intro n77 f w_ hI
 obtain ⟨i_74,suf77,out_75,v75_out,rfl,hd77,hl77,hL77,sf7,sf8,sf10,sf11,hst⟩:=ik hI77 hI
 refine W_seq (sq (mF sf11 rfl (fA 1 fa_89_1 sf7 rfl (ldB 3 hst Try.isAgg30 rfl rfl rfl (L_len rfl Try.underlying30 rfl (Star.len 2 hst rfl) (L_lss rfl rfl rfl (nn (W_cond (b:=decide ((i_74 : Int) < (x39.1.steps.length : Int))) rfl (fun hc78=>?_) (fun hc78=>?_)))))))))
 have hlt77:=of_decide_eq_true hc78
 rcases suf77 with _ | ⟨x_77,rest77⟩
 exact absurd hlt77 (by simp at hl77; omega)
 obtain ⟨o77,hB77,hL77⟩:=range_cons hL77
 rw [s_SolveProblem_b1] at hB77
 have hix77:=drop_idx hd77
 refine W_skip (W_seq (W_block (sq (fA 1 fa_89_1 sf7 rfl (ldB 3 hst Try.isAgg30 rfl rfl rfl (mF sf11 rfl ?_))))))
 obtain ⟨g86,cap_g86,hv87,_,_⟩:=Star.row 2 hst rfl hix77
 refine L_ixO (R:=(OR.frz (rStep 112))) (tb:=0) 0 rfl Try.underlying30 Try.sizeOf93 rfl hv87 (by first | rfl | simp) rfl hix77 ?_
 obtain ⟨cs88,hr88,hat88⟩:=Star.eltF 2 hst rfl hv87 hix77
 obtain ⟨u89_0,rfl,hu89_0⟩:=rStep_iff.1 hr88
 refine L_lda (cs:=[I x_77.kind,I x_77.a,I x_77.b,u89_0,I x_77.given.bound]) rfl Try.isAgg93 Try.sizeOf93 rfl (At.sub hat88 0 5) rfl (L_al (cs:=#[I 0,I 0,I 0,S0,I 0]) rfl Try.zeroValue93 rfl hst (fun g90 w91 hst=>L_staB (vs:=#[I x_77.kind,I x_77.a,I x_77.b,u89_0,I x_77.given.bound]) (cs2:=#[I x_77.kind,I x_77.a,I x_77.b,u89_0,I x_77.given.bound]) 0 rfl Try.sizeOf93 rfl rfl rfl (ones_cons rfl (ones_cons rfl (ones_cons rfl (ones_cons (one_len (slice_len hu89_0)) (ones_cons rfl ones_nil))))) hst rfl (by show 0 + 5≤5; decide) rfl (fun w92 hst=>nq ?_)))
 obtain ⟨x98,hx98,hB77⟩:=bind_some hB77
 refine W_region (fA 3 fa_93_3 rfl rfl (L_lda (cs:=[u89_0,I x_77.given.bound]) rfl Try.isAgg43 Try.sizeOf43 rfl (At.sub0 (Blk.at (Star.blkAt 0 hst rfl)) 3 2) rfl ?_))
 obtain ⟨H102b,l103,s104,z105,k106⟩:=hst.borrow
 refine L_call rfl Try.call70 (ops1 rfl) (s_l1Copy_c (c:=x_77.given) s104 (RP.mono _ hu89_0 l103) hx98) ?_
 rintro _ w107 ⟨r107_0,rfl,hst⟩
 have hst:=k106 hst (co closed_term c0)
 refine fA 3 fa_93_3 rfl rfl (L_staB (vs:=#[r107_0,I x98.bound]) (cs2:=#[I x_77.kind,I x_77.a,I x_77.b,r107_0,I x98.bound]) 1 rfl Try.sizeOf43 rfl rfl rfl (ones_cons (one_len (Star.len 0 hst rfl)) (ones_cons rfl ones_nil)) hst rfl (by show 3 + 2≤5; decide) rfl (fun w109 hst=>nn ?_))
 obtain ⟨x113,hx113,hB77⟩:=bind_some hB77
 refine W_region (mF sf10 rfl (L_lda (cs:=[I x_77.kind,I x_77.a,I x_77.b,r107_0,I x98.bound]) rfl Try.isAgg93 Try.sizeOf93 rfl (At.sub0 (Blk.at (Star.blkAt 0 hst rfl)) 0 5) rfl (L_bs rfl (parts1 rfl) (bs_30_1_5 (I x_77.kind) (I x_77.a) (I x_77.b) (r107_0) (I x98.bound) ) hst (fun g117 w118 hst=>?_))))
 have hst:=hst.get 2 rfl
 have hst:=oStep_close (s:=({ kind:=x_77.kind,a:=x_77.a,b:=x_77.b,given:=x98 } : Step)) hst
 have hst:=Star.mkRow (R:=(oStep 112)) [([I x_77.kind,I x_77.a,I x_77.b,r107_0,I x98.bound],({ kind:=x_77.kind,a:=x_77.a,b:=x_77.b,given:=x98 } : Step))] [({ kind:=x_77.kind,a:=x_77.a,b:=x_77.b,given:=x98 } : Step)] 1 hst rfl rfl rfl (by decide)
 have hst:=hst.get 2 rfl
 refine L_appM (v:=v75_out) (u:=(Sl g117 1 1)) rfl et_30 rfl rfl hst hx113 (fun v120 w121 hst=>aV v120 rfl (nn (W_region (mF sf11 rfl (L_add rfl rfl rfl (aI rfl (nn ?_)))))))
 obtain rfl:=so hB77
 have hst:=hst.gets [4,4,4,3] rfl
 show ∃ m,m < _∧I77 m _ _
 refine ⟨rest77.length,by simp,?_⟩
 exact ij hI77 ⟨i_74 + 1,rest77,x113,v120,rfl,drop_next hd77,by simp at hl77; omega,hL77,sf7,sf8,rfl,(Eq.trans rfl (congrArg (Value.int .i64) (i64_succ (n:=x39.1.steps.length) (by simp at hl77; omega) hlen77))),(Star.keepN 4 hst)⟩
 rcases suf77 with _ | ⟨_,_⟩
 obtain rfl:=range_nil hL77
 refine W_exit (rj hR77 ⟨out_75,v75_out,rfl,sf8,sf10,(Star.keepN 1 hst)⟩)
 exact absurd (of_decide_eq_false hc78) (by simp at hl77; omega)
 intro f w_ hR
 obtain ⟨out_75,v75_out,rfl,sf8,sf10,hst⟩:=rk hR77 hR
 refine sq (mF sf8 rfl (L_bs rfl parts0 (bs_24_0  ) hst (fun g126 w127 hst=>?_)))
 have hst:=Star.mkRow (R:=(OR.frz RP.bool)) [] [] 0 hst rfl rfl rfl (by decide)
 refine mF sf10 rfl (aI rfl (aV (Sl g126 0 0) rfl (aV v75_out rfl (nn (W_ret (retG3 (v1:=I x39.2.1) (v2:=(Sl g126 0 0)) (v3:=v75_out) Try.results20 rfl rfl rfl ?_))))))
 obtain rfl:=so hF
 exact ⟨(Sl g126 0 0),v75_out,rfl,(Star.down hst l54 (co closed_bool (co closed_oStep c0)))⟩
theorem s_l1Net_c {terms : List Term} {bound : Int} {v0 : Value} {H : FH} {w : World} (hst : Star H w []) (h0 : (rS 112 rTerm).rel H [v0] terms) {r : (List Int) × Int} (hF : s_l1Net terms bound = some r) :
 C Try.prog 116 #[v0,I bound] w fun v w'=>∃ (u1 : Value),v = .tuple #[u1,I r.2]∧Star H w' [oF 3 RP.int u1 r.1]:=by
 unfold s_l1Net at hF
 refine C_enter Try.func116 rfl Try.ntmps116 rfl (sq (aV S0 rfl (aI rfl (nq ?_))))
 obtain ⟨x1,hx1,hF⟩:=bind_some hF
 refine W_region (L_mk (R:=(OR.frz RP.int)) (z0:=0) (zc:=[I 0]) rfl et_65 (by kernel_rfl) (fun _ _=>⟨rfl,rfl⟩) rfl rfl hx1 hst (fun v5 w6 hst=>aV v5 rfl (nq (sq (aI rfl (nn ?_))))))
 have hlen13 : List.length terms≤9223372036854775807:=len_le (slice_len h0)
 obtain ⟨j13,hL13,hF⟩:=bind_some hF
 obtain ⟨R13,hR13⟩:=exR fun f w_=>∃ bound_9 : Int,∃ net_10 : List Int,∃ H11 : FH,j13 = .nx (bound_9,net_10)∧Le H H11∧f 1 = I bound_9∧f 6 = v5∧Star H11 w_ ([oF 3 RP.int v5 net_10])
 refine W_join R13 ?_ ?_
 refine W_block ?_
 obtain ⟨I13,hI13⟩:=exI fun n f w_=>∃ i_8 : Nat,∃ suf13 : List Term,∃ bound_9 : Int,∃ net_10 : List Int,∃ H11 : FH,n = suf13.length∧List.drop i_8 terms = suf13∧i_8 + suf13.length = terms.length∧rangeL s_l1Net_b1 suf13 i_8 (bound_9,net_10) = some j13∧Le H H11∧f 0 = v0∧f 1 = I bound_9∧f 6 = v5∧f 7 = I i_8∧Star H11 w_ ([oF 3 RP.int v5 net_10])
 refine W_loop I13 (n:=terms.length) ?_ ?_
 exact ij hI13 ⟨0,terms,bound,x1,H,rfl,rfl,Nat.zero_add _,hL13,(Le.refl _),rfl,rfl,rfl,rfl,hst⟩
 intro n13 f w_ hI
 obtain ⟨i_8,suf13,bound_9,net_10,H11,rfl,hd13,hl13,hL13,l12,sf0,sf1,sf6,sf7,hst⟩:=ik hI13 hI
 refine W_seq (sq (mF sf7 rfl (mF sf0 rfl (L_len rfl Try.underlying41 rfl (slice_len (RP.mono _ h0 l12)) (L_lss rfl rfl rfl (nn (W_cond (b:=decide ((i_8 : Int) < (terms.length : Int))) rfl (fun hc14=>?_) (fun hc14=>?_))))))))
 have hlt13:=of_decide_eq_true hc14
 rcases suf13 with _ | ⟨x_13,rest13⟩
 exact absurd hlt13 (by simp at hl13; omega)
 obtain ⟨o13,hB13,hL13⟩:=range_cons hL13
 rw [s_l1Net_b1] at hB13
 have hix13:=drop_idx hd13
 refine W_skip (W_seq (W_block (sq (mF sf0 rfl (mF sf7 rfl (L_ix (r:=rTerm) rfl Try.underlying41 Try.sizeOf112 rfl (RP.mono _ h0 l12) rfl hix13 (fun g22 o23 cs_g22 hrk_hat24 hat24=>?_)))))))
 obtain rfl:=rTerm_iff.1 hrk_hat24
 refine L_lda (cs:=[I x_13.coef,I x_13.lit]) rfl Try.isAgg112 Try.sizeOf112 rfl (At.sub (AtH.at hat24 hst.sub) 0 2) rfl (L_al (cs:=#[I 0,I 0]) rfl Try.zeroValue112 rfl hst (fun g26 w27 hst=>L_staB (vs:=#[I x_13.coef,I x_13.lit]) (cs2:=#[I x_13.coef,I x_13.lit]) 0 rfl Try.sizeOf112 rfl rfl rfl (ones_cons rfl (ones_cons rfl ones_nil)) hst rfl (by show 0 + 2≤2; decide) rfl (fun w28 hst=>ns (fA 1 fa_112_1 rfl rfl (ldB 0 hst Try.isAgg3 rfl rfl rfl (L_gtr rfl rfl rfl (nn ?_)))))))
 obtain ⟨⟨bound_29,net_30⟩,hA33,hB13⟩:=bind_some hB13
 obtain ⟨R33,hR33⟩:=exR fun f w_=>∃ H31 : FH,Le H11 H31∧f 0 = v0∧f 1 = I bound_29∧f 6 = v5∧f 7 = I i_8∧Star H31 w_ ([oF 3 RP.int v5 net_30])
 refine W_join R33 ?_ ?_
 refine W_cond (b:=decide (x_13.lit > 0)) rfl (fun hc34=>?_) (fun hc34=>?_)
 have hA33:=(ite_t hc34).symm.trans hA33
 obtain ⟨x35,hx35,hA33⟩:=bind_some hA33
 obtain ⟨g42,cap_g42,hv43,_,_⟩:=Star.row 1 hst rfl hx35
 refine W_drawS 11 [isV (v5),isV (Pq g26 1),isV (I x_13.lit),isV (v5),isV (Pq g26 1),isV (I x_13.lit),isV (.pointer (some ⟨g42,Int.toNat x_13.lit * 1,none⟩)),isV (I x35),isV (Pt g26),isV (I x_13.coef),isV (I (i64 (x35 + x_13.coef)))] [box g26 112 #[I x_13.coef,I x_13.lit],oF 3 RP.int v5 net_10] [] ([]) [([],[]),([],[]),([],[]),([],[]),([],[]),([],[]),([],[]),([],[]),([],[]),([],[]),([],[])] (S:=[]) Try_mix (by kernel_rfl) rfl (by kernel_rfl) (amF_cons (mono_V _) (amF_cons (mono_V _) (amF_cons (mono_V _) (amF_cons (mono_V _) (amF_cons (mono_V _) (amF_cons (mono_V _) (amF_cons (mono_V _) (amF_cons (mono_V _) (amF_cons (mono_V _) (amF_cons (mono_V _) (amF_cons (mono_V _) amF_nil))))))))))) hst ?_ (fun f w_ H41 hS41 hE41 hT41 hst=>?_)
 refine opsS_cons (fun f w_ _ _ s _ _ hst=>mF ((s 6 rfl).trans sf6) rfl (nO rfl rfl hst)) (opsS_cons (fun f w_ _ _ s _ _ hst=>fA 1 fa_112_1 ((s 8 rfl).trans rfl) rfl (nO rfl rfl hst)) (opsS_cons (fun f w_ _ _ _ _ p hst=>ldB 0 hst Try.isAgg3 (p 1 24 rfl rfl) rfl rfl (nO rfl rfl hst)) (opsS_cons (fun f w_ _ _ s _ _ hst=>mF ((s 6 rfl).trans sf6) rfl (nO rfl rfl hst)) (opsS_cons (fun f w_ _ _ s _ _ hst=>fA 1 fa_112_1 ((s 8 rfl).trans rfl) rfl (nO rfl rfl hst)) (opsS_cons (fun f w_ _ _ _ _ p hst=>ldB 0 hst Try.isAgg3 (p 4 27 rfl rfl) rfl rfl (nO rfl rfl hst)) (opsS_cons (fun f w_ _ _ _ _ p hst=>L_ixO (R:=(OR.frz RP.int)) (tb:=0) 0 rfl Try.underlying65 Try.sizeOf3 (p 3 26 rfl rfl) hv43 (by first | rfl | simp) (p 5 28 rfl rfl) hx35 (nO rfl rfl hst)) (opsS_cons ?_ ?_)))))))
 intro f w_ H41 X41 hS41 hE41 hP41 hst
 obtain ⟨cs46,hr46,hat46⟩:=Star.eltF 1 hst rfl hv43 hx35
 obtain rfl : _ = [_]:=hr46
 refine L_ld rfl Try.isAgg3 (hP41 6 29 rfl rfl) (At.cell hat46 (j:=0) rfl) (L_nil ⟨rfl,_,_,rfl,Le.refl _,fun _ _=>rfl,hst⟩)
 refine opsS_cons (fun f w_ _ _ s _ _ hst=>fA 0 fa_112_0 ((s 8 rfl).trans rfl) rfl (nO rfl rfl hst)) (opsS_cons (fun f w_ _ _ _ _ p hst=>ldB 0 hst Try.isAgg3 (p 8 31 rfl rfl) rfl rfl (nO rfl rfl hst)) (opsS_cons (fun f w_ _ _ _ _ p hst=>L_add rfl (p 7 30 rfl rfl) (p 9 32 rfl rfl) (nO rfl rfl hst)) (opsS_nil)))
 refine L_ixO (R:=(OR.frz RP.int)) (tb:=0) 0 rfl Try.underlying65 Try.sizeOf3 (hT41 0 23 rfl rfl) hv43 (by first | rfl | simp) (hT41 2 25 rfl rfl) hx35 ?_
 have hst:=Star.addF (r:=RP.int) (cs:=[I (i64 (x35 + x_13.coef))]) (x:=(i64 (x35 + x_13.coef))) hst rfl
 have hst:=hst.gets [2,1] rfl
 refine L_stE1 (u:=I (i64 (x35 + x_13.coef))) rfl Try.sizeOf3 rfl rfl (hT41 10 33 rfl rfl) hv43 hst hx35 (fun w48 hst=>nn ?_)
 obtain ⟨rfl,rfl⟩:=so2 hA33
 exact rj hR33 ⟨H41,hE41,((hS41 0 rfl).trans sf0),((hS41 1 rfl).trans sf1),((hS41 6 rfl).trans sf6),((hS41 7 rfl).trans sf7),(Star.keepN 1 hst)⟩
 have hA33:=(ite_f hc34).symm.trans hA33
 refine W_seq ?_
 obtain ⟨x49,hx49,hA33⟩:=bind_some hA33
 obtain ⟨g56,cap_g56,hv57,_,_⟩:=Star.row 1 hst rfl hx49
 refine W_drawS 13 [isV (v5),isV (Pq g26 1),isV (I x_13.lit),isV (I (i64 (-x_13.lit))),isV (v5),isV (Pq g26 1),isV (I x_13.lit),isV (I (i64 (-x_13.lit))),isV (.pointer (some ⟨g56,Int.toNat (i64 (-x_13.lit)) * 1,none⟩)),isV (I x49),isV (Pt g26),isV (I x_13.coef),isV (I (i64 (x49 - x_13.coef)))] [box g26 112 #[I x_13.coef,I x_13.lit],oF 3 RP.int v5 net_10] [] ([]) [([],[]),([],[]),([],[]),([],[]),([],[]),([],[]),([],[]),([],[]),([],[]),([],[]),([],[]),([],[]),([],[])] (S:=[]) Try_mix (by kernel_rfl) rfl (by kernel_rfl) (amF_cons (mono_V _) (amF_cons (mono_V _) (amF_cons (mono_V _) (amF_cons (mono_V _) (amF_cons (mono_V _) (amF_cons (mono_V _) (amF_cons (mono_V _) (amF_cons (mono_V _) (amF_cons (mono_V _) (amF_cons (mono_V _) (amF_cons (mono_V _) (amF_cons (mono_V _) (amF_cons (mono_V _) amF_nil))))))))))))) hst ?_ (fun f w_ H55 hS55 hE55 hT55 hst=>?_)
 refine opsS_cons (fun f w_ _ _ s _ _ hst=>mF ((s 6 rfl).trans sf6) rfl (nO rfl rfl hst)) (opsS_cons (fun f w_ _ _ s _ _ hst=>fA 1 fa_112_1 ((s 8 rfl).trans rfl) rfl (nO rfl rfl hst)) (opsS_cons (fun f w_ _ _ _ _ p hst=>ldB 0 hst Try.isAgg3 (p 1 36 rfl rfl) rfl rfl (nO rfl rfl hst)) (opsS_cons (fun f w_ _ _ _ _ p hst=>L_neg rfl (p 2 37 rfl rfl) (nO rfl rfl hst)) (opsS_cons (fun f w_ _ _ s _ _ hst=>mF ((s 6 rfl).trans sf6) rfl (nO rfl rfl hst)) (opsS_cons (fun f w_ _ _ s _ _ hst=>fA 1 fa_112_1 ((s 8 rfl).trans rfl) rfl (nO rfl rfl hst)) (opsS_cons (fun f w_ _ _ _ _ p hst=>ldB 0 hst Try.isAgg3 (p 5 40 rfl rfl) rfl rfl (nO rfl rfl hst)) (opsS_cons (fun f w_ _ _ _ _ p hst=>L_neg rfl (p 6 41 rfl rfl) (nO rfl rfl hst)) (opsS_cons (fun f w_ _ _ _ _ p hst=>L_ixO (R:=(OR.frz RP.int)) (tb:=0) 0 rfl Try.underlying65 Try.sizeOf3 (p 4 39 rfl rfl) hv57 (by first | rfl | simp) (p 7 42 rfl rfl) hx49 (nO rfl rfl hst)) (opsS_cons ?_ ?_)))))))))
 intro f w_ H55 X55 hS55 hE55 hP55 hst
 obtain ⟨cs60,hr60,hat60⟩:=Star.eltF 1 hst rfl hv57 hx49
 obtain rfl : _ = [_]:=hr60
 refine L_ld rfl Try.isAgg3 (hP55 8 43 rfl rfl) (At.cell hat60 (j:=0) rfl) (L_nil ⟨rfl,_,_,rfl,Le.refl _,fun _ _=>rfl,hst⟩)
 refine opsS_cons (fun f w_ _ _ s _ _ hst=>fA 0 fa_112_0 ((s 8 rfl).trans rfl) rfl (nO rfl rfl hst)) (opsS_cons (fun f w_ _ _ _ _ p hst=>ldB 0 hst Try.isAgg3 (p 10 45 rfl rfl) rfl rfl (nO rfl rfl hst)) (opsS_cons (fun f w_ _ _ _ _ p hst=>L_sub rfl (p 9 44 rfl rfl) (p 11 46 rfl rfl) (nO rfl rfl hst)) (opsS_nil)))
 refine L_ixO (R:=(OR.frz RP.int)) (tb:=0) 0 rfl Try.underlying65 Try.sizeOf3 (hT55 0 35 rfl rfl) hv57 (by first | rfl | simp) (hT55 3 38 rfl rfl) hx49 ?_
 have hst:=Star.addF (r:=RP.int) (cs:=[I (i64 (x49 - x_13.coef))]) (x:=(i64 (x49 - x_13.coef))) hst rfl
 have hst:=hst.gets [2,1] rfl
 refine L_stE1 (u:=I (i64 (x49 - x_13.coef))) rfl Try.sizeOf3 rfl rfl (hT55 12 47 rfl rfl) hv57 hst hx49 (fun w62 hst=>nn (W_region (mF ((hS55 1 rfl).trans sf1) rfl (fA 0 fa_112_0 ((hS55 8 rfl).trans rfl) rfl (ldB 1 hst Try.isAgg3 rfl rfl rfl (L_sub rfl rfl rfl (aI rfl (nn ?_))))))))
 obtain ⟨rfl,rfl⟩:=so2 hA33
 exact rj hR33 ⟨H55,hE55,((hS55 0 rfl).trans sf0),rfl,((hS55 6 rfl).trans sf6),((hS55 7 rfl).trans sf7),(Star.keepN 1 hst)⟩
 intro f w_ hR
 obtain ⟨H31,l32,sf0,sf1,sf6,sf7,hst⟩:=rk hR33 hR
 refine W_region (mF sf7 rfl (L_add rfl rfl rfl (aI rfl (nn ?_))))
 obtain rfl:=so hB13
 show ∃ m,m < _∧I13 m _ _
 refine ⟨rest13.length,by simp,?_⟩
 exact ij hI13 ⟨i_8 + 1,rest13,bound_29,net_30,H31,rfl,drop_next hd13,by simp at hl13; omega,hL13,(Le.trans l12 l32),sf0,sf1,sf6,(Eq.trans rfl (congrArg (Value.int .i64) (i64_succ (n:=terms.length) (by simp at hl13; omega) hlen13))),hst⟩
 rcases suf13 with _ | ⟨_,_⟩
 obtain rfl:=range_nil hL13
 refine W_exit (rj hR13 ⟨bound_9,net_10,H11,rfl,l12,sf1,sf6,hst⟩)
 exact absurd (of_decide_eq_false hc14) (by simp at hl13; omega)
 intro f w_ hR
 obtain ⟨bound_9,net_10,H11,rfl,l12,sf1,sf6,hst⟩:=rk hR13 hR
 refine sq (mF sf6 rfl (mF sf1 rfl (aV v5 rfl (aI rfl (nn (W_ret (retG2 (v1:=v5) (v2:=I bound_9) Try.results116 rfl rfl ?_)))))))
 obtain rfl:=so hF
 exact ⟨v5,rfl,(Star.down hst l12 (co closed_int c0))⟩
theorem s_l1Normal_c {net : List Int} {bound : Int} {v0 : Value} {H : FH} {w : World} (hst : Star H w []) (h0 : (rS 3 RP.int).rel H [v0] net) {r : Con × Bool} (hF : s_l1Normal net bound = some r) :
 C Try.prog 117 #[v0,I bound] w fun v w'=>∃ (u1 : Value),v = .tuple #[.agg #[u1,I r.1.bound],Bo r.2]∧Star H w' [oF 112 rTerm u1 r.1.terms]:=by
 unfold s_l1Normal at hF
 refine C_enter Try.func117 rfl Try.ntmps117 rfl (sq (L_al (cs:=#[S0,I 0]) rfl Try.zeroValue43 rfl hst (fun g3 w4 hst=>aB rfl (ns (L_bld rfl (parts0 ) (bld_43_  ) (L_al (cs:=#[S0,I 0]) rfl Try.zeroValue43 rfl hst (fun g8 w9 hst=>L_staB (vs:=#[S0,I 0]) (cs2:=#[S0,I 0]) 0 rfl Try.sizeOf43 rfl rfl rfl (ones_cons rfl (ones_cons rfl ones_nil)) hst rfl (by show 0 + 2≤2; decide) rfl (fun w10 hst=>nq (sq (aI rfl (nn ?_)))))))))))
 obtain ⟨k18,hk18,hF⟩:=bind_some hF
 obtain ⟨j17,hL17,hF⟩:=bind_some hF
 obtain ⟨R17,hR17⟩:=exR fun f w_=>∃ bound_12 : Int,∃ g8_0_13 : List Term,∃ H15 : FH,∃ v13_g8_0 : Value,j17 = .nx (bound_12,g8_0_13)∧Le H H15∧f 1 = I bound_12∧f 4 = Pt g3∧f 6 = Pt g8∧Star H15 w_ ([oF 112 rTerm v13_g8_0 g8_0_13,box g8 43 #[v13_g8_0,I 0],box g3 43 #[S0,I 0]])
 refine W_join R17 ?_ ?_
 refine W_block ?_
 obtain ⟨I17,hI17⟩:=exI fun n f w_=>∃ i_11 : Nat,∃ suf17 : Nat,∃ bound_12 : Int,∃ g8_0_13 : List Term,∃ H15 : FH,∃ v13_g8_0 : Value,suf17 = n∧1≤i_11∧i_11 + suf17 = 1 + k18∧countL (s_l1Normal_b1 net) suf17 i_11 (bound_12,g8_0_13) = some j17∧Le H H15∧f 0 = v0∧f 1 = I bound_12∧f 4 = Pt g3∧f 6 = Pt g8∧f 7 = I i_11∧Star H15 w_ ([oF 112 rTerm v13_g8_0 g8_0_13,box g8 43 #[v13_g8_0,I 0],box g3 43 #[S0,I 0]])
 have hst:=Star.addNil (R:=(OR.frz rTerm)) (e:=112) hst
 refine W_loop I17 (n:=k18) ?_ ?_
 exact ij hI17 ⟨1,k18,bound,[],H,S0,rfl,Nat.le_refl _,rfl,hL17,(Le.refl _),rfl,rfl,rfl,rfl,rfl,hst⟩
 intro n17 f w_ hI
 obtain ⟨i_11,suf17,bound_12,g8_0_13,H15,v13_g8_0,rfl,hs17,hl17,hL17,l16,sf0,sf1,sf4,sf6,sf7,hst⟩:=ik hI17 hI
 refine W_seq (sq (mF sf7 rfl (L_leq rfl rfl rfl (nn (W_cond (b:=decide ((i_11 : Int)≤12)) rfl (fun hc20=>?_) (fun hc20=>?_))))))
 have hlt17:=of_decide_eq_true hc20
 rcases suf17 with _ | rest17
 exact absurd hlt17 (cntF_noL hl17 hk18)
 obtain ⟨o17,hB17,hL17⟩:=count_succ hL17
 rw [s_l1Normal_b1] at hB17
 refine W_skip (W_seq (W_block (W_seq (W_seq ?_))))
 obtain ⟨x21,hx21,hB17⟩:=bind_some hB17
 refine W_region (mF sf0 rfl (mF sf7 rfl (L_ix (r:=RP.int) rfl Try.underlying65 Try.sizeOf3 rfl (RP.mono _ h0 l16) rfl hx21 (fun g26 o27 cs_g26 hrk_hat28 hat28=>?_))))
 obtain rfl : _ = [_]:=hrk_hat28
 refine L_ld rfl Try.isAgg3 rfl (At.cell (AtH.at hat28 hst.sub) (j:=0) rfl) (L_gtr rfl rfl rfl (nn ?_))
 obtain ⟨g8_0_30,hA34,hB17⟩:=bind_some hB17
 obtain ⟨R34,hR34⟩:=exR fun f w_=>∃ H32 : FH,∃ v30_g8_0 : Value,Le H15 H32∧f 0 = v0∧f 1 = I bound_12∧f 4 = Pt g3∧f 6 = Pt g8∧f 7 = I i_11∧Star H32 w_ ([oF 112 rTerm v30_g8_0 g8_0_30,box g8 43 #[v30_g8_0,I 0],box g3 43 #[S0,I 0]])
 refine W_join R34 ?_ ?_
 refine W_cond (b:=decide (x21 > 0)) rfl (fun hc35=>?_) (fun hc35=>?_)
 have hA34:=(ite_t hc35).symm.trans hA34
 obtain ⟨x43,hx43,hA34⟩:=bind_some hA34
 refine W_drawS 9 [isV (Pt g8),isV (v13_g8_0),isV (v0),isV (I i_11),isEl RP.int x21 0,isV (I x21),isV (I i_11),isV (.agg #[I x21,I i_11]),anyF] [oF 112 rTerm v13_g8_0 g8_0_13,box g8 43 #[v13_g8_0,I 0],box g3 43 #[S0,I 0]] [.made 8 26 (fun v_=>oF 112 rTerm v_ ([({ coef:=x21,lit:=(i_11 : Int) } : Term)])) none] ([]) [([],[]),([],[]),([],[]),([],[]),([],[]),([],[]),([],[]),([],[]),([],[0])] (S:=[(some 8,[26],none)]) Try_mix (by kernel_rfl) rfl (by kernel_rfl) (amF_cons (mono_V _) (amF_cons (mono_V _) (amF_cons (mono_V _) (amF_cons (mono_V _) (amF_cons (mono_el _ _ _) (amF_cons (mono_V _) (amF_cons (mono_V _) (amF_cons (mono_V _) (amF_cons (mono_any) amF_nil))))))))) hst ?_ (fun f w_ H48 hS48 hE48 hT48 hst=>?_)
 refine opsS_cons (fun f w_ _ _ s _ _ hst=>fA 0 fa_43_0 ((s 6 rfl).trans sf6) rfl (nO rfl rfl hst)) (opsS_cons (fun f w_ _ _ _ _ p hst=>ldB 1 hst Try.isAgg41 (p 0 18 rfl rfl) rfl rfl (nO rfl rfl hst)) (opsS_cons (fun f w_ _ _ s _ _ hst=>mF ((s 0 rfl).trans sf0) rfl (nO rfl rfl hst)) (opsS_cons (fun f w_ _ _ s _ _ hst=>mF ((s 7 rfl).trans sf7) rfl (nO rfl rfl hst)) (opsS_cons ?_ ?_))))
 intro f w_ H48 X48 hS48 hE48 hP48 hst
 refine L_ix (r:=RP.int) rfl Try.underlying65 Try.sizeOf3 (hP48 2 20 rfl rfl) (RP.mono _ h0 (Le.trans l16 hE48)) (hP48 3 21 rfl rfl) hx21 (fun g56 o57 cs_g56 hrk_hat58 hat58=>?_)
 obtain rfl : _ = [_]:=hrk_hat58
 exact L_nil ⟨rfl,_,_,rfl,Le.refl _,fun _ _=>⟨_,_,_,rfl,rfl,hat58⟩,hst⟩
 refine opsS_cons ?_ ?_
 intro f w_ H48 X48 hS48 hE48 hP48 hst
 obtain ⟨g60,o60,cs60,hv60,hrk_hat60,hat60⟩:=(hP48 4 22 rfl rfl)
 obtain rfl : _ = [_]:=hrk_hat60
 refine L_ld rfl Try.isAgg3 hv60 (At.cell (AtH.at hat60 hst.sub) (j:=0) rfl) (L_nil ⟨rfl,_,_,rfl,Le.refl _,fun _ _=>rfl,hst⟩)
 refine opsS_cons (fun f w_ _ _ s _ _ hst=>mF ((s 7 rfl).trans sf7) rfl (nO rfl rfl hst)) (opsS_cons (fun f w_ _ _ _ _ p hst=>L_bld rfl (parts2 (p 5 23 rfl rfl) (p 6 24 rfl rfl)) (bld_112_0_1 (I x21) (I i_11) rfl rfl) (nO rfl rfl hst)) (opsS_cons ?_ ?_))
 intro f w_ H48 X48 hS48 hE48 hP48 hst
 refine L_bs rfl (parts1 (hP48 7 25 rfl rfl)) (bs_41_1_2 (I x21) (I i_11) ) hst (fun g62 w63 hst=>?_)
 have hst:=Star.addF (r:=rTerm) (cs:=[I x21,I i_11]) (x:=({ coef:=x21,lit:=(i_11 : Int) } : Term)) hst (rTerm_iff.2 rfl)
 have hst:=Star.mkRow (R:=(OR.frz rTerm)) [([I x21,I i_11],({ coef:=x21,lit:=(i_11 : Int) } : Term))] [({ coef:=x21,lit:=(i_11 : Int) } : Term)] 1 hst rfl rfl rfl (by decide)
 have hst:=hst.gets [3,3,3] rfl
 exact L_nil ⟨rfl,_,_,rfl,Le.refl _,fun _ _=>trivial,hst⟩
 exact opsS_nil
 have hst : Star H48 w_ ([oF 112 rTerm v13_g8_0 g8_0_13,box g8 43 #[v13_g8_0,I 0],box g3 43 #[S0,I 0],oF 112 rTerm (f 26) ([({ coef:=x21,lit:=(i_11 : Int) } : Term)])]):=hst
 have hst:=hst.gets [3,1] rfl
 refine L_appM (v:=v13_g8_0) (u:=(f 26)) rfl et_41 (hT48 1 19 rfl rfl) rfl hst hx43 (fun v66 w67 hst=>fA 0 fa_43_0 ((hS48 6 rfl).trans sf6) rfl (L_stB (v:=v66) (cs2:=#[v66,I 0]) 1 rfl Try.sizeOf41 rfl rfl (one_len (Star.len 0 hst rfl)) hst rfl rfl rfl (fun w69 hst=>nn ?_)))
 obtain rfl:=so hA34
 have hst:=hst.gets [2,1,2] rfl
 exact rj hR34 ⟨H48,v66,hE48,((hS48 0 rfl).trans sf0),((hS48 1 rfl).trans sf1),((hS48 4 rfl).trans sf4),((hS48 6 rfl).trans sf6),((hS48 7 rfl).trans sf7),hst⟩
 have hA34:=(ite_f hc35).symm.trans hA34
 refine W_skip ?_
 obtain rfl:=so hA34
 exact rj hR34 ⟨H15,v13_g8_0,(Le.refl _),sf0,sf1,sf4,sf6,sf7,hst⟩
 intro f w_ hR
 obtain ⟨H32,v30_g8_0,l33,sf0,sf1,sf4,sf6,sf7,hst⟩:=rk hR34 hR
 refine sq (mF sf0 rfl (mF sf7 rfl (L_ix (r:=RP.int) rfl Try.underlying65 Try.sizeOf3 rfl (RP.mono _ h0 (Le.trans l16 l33)) rfl hx21 (fun g74 o75 cs_g74 hrk_hat76 hat76=>?_))))
 obtain rfl : _ = [_]:=hrk_hat76
 refine L_ld rfl Try.isAgg3 rfl (At.cell (AtH.at hat76 hst.sub) (j:=0) rfl) (L_lss rfl rfl rfl (nn ?_))
 obtain ⟨⟨bound_78,g8_0_79⟩,hA83,hB17⟩:=bind_some hB17
 obtain ⟨R83,hR83⟩:=exR fun f w_=>∃ H81 : FH,∃ v79_g8_0 : Value,Le H32 H81∧f 0 = v0∧f 1 = I bound_78∧f 4 = Pt g3∧f 6 = Pt g8∧f 7 = I i_11∧Star H81 w_ ([oF 112 rTerm v79_g8_0 g8_0_79,box g8 43 #[v79_g8_0,I 0],box g3 43 #[S0,I 0]])
 refine W_join R83 ?_ ?_
 refine W_cond (b:=decide (x21 < 0)) rfl (fun hc84=>?_) (fun hc84=>?_)
 have hA83:=(ite_t hc84).symm.trans hA83
 refine W_seq ?_
 obtain ⟨x92,hx92,hA83⟩:=bind_some hA83
 refine W_drawS 11 [isV (Pt g8),isV (v30_g8_0),isV (v0),isV (I i_11),isEl RP.int x21 0,isV (I x21),isV (I (i64 (-x21))),isV (I i_11),isV (I (i64 (-(i_11 : Int)))),isV (.agg #[I (i64 (-x21)),I (i64 (-(i_11 : Int)))]),anyF] [oF 112 rTerm v30_g8_0 g8_0_30,box g8 43 #[v30_g8_0,I 0],box g3 43 #[S0,I 0]] [.made 10 44 (fun v_=>oF 112 rTerm v_ ([({ coef:=i64 (-x21),lit:=i64 (-(i_11 : Int)) } : Term)])) none] ([]) [([],[]),([],[]),([],[]),([],[]),([],[]),([],[]),([],[]),([],[]),([],[]),([],[]),([],[0])] (S:=[(some 10,[44],none)]) Try_mix (by kernel_rfl) rfl (by kernel_rfl) (amF_cons (mono_V _) (amF_cons (mono_V _) (amF_cons (mono_V _) (amF_cons (mono_V _) (amF_cons (mono_el _ _ _) (amF_cons (mono_V _) (amF_cons (mono_V _) (amF_cons (mono_V _) (amF_cons (mono_V _) (amF_cons (mono_V _) (amF_cons (mono_any) amF_nil))))))))))) hst ?_ (fun f w_ H97 hS97 hE97 hT97 hst=>?_)
 refine opsS_cons (fun f w_ _ _ s _ _ hst=>fA 0 fa_43_0 ((s 6 rfl).trans sf6) rfl (nO rfl rfl hst)) (opsS_cons (fun f w_ _ _ _ _ p hst=>ldB 1 hst Try.isAgg41 (p 0 34 rfl rfl) rfl rfl (nO rfl rfl hst)) (opsS_cons (fun f w_ _ _ s _ _ hst=>mF ((s 0 rfl).trans sf0) rfl (nO rfl rfl hst)) (opsS_cons (fun f w_ _ _ s _ _ hst=>mF ((s 7 rfl).trans sf7) rfl (nO rfl rfl hst)) (opsS_cons ?_ ?_))))
 intro f w_ H97 X97 hS97 hE97 hP97 hst
 refine L_ix (r:=RP.int) rfl Try.underlying65 Try.sizeOf3 (hP97 2 36 rfl rfl) (RP.mono _ h0 (Le.trans (Le.trans l16 l33) hE97)) (hP97 3 37 rfl rfl) hx21 (fun g105 o106 cs_g105 hrk_hat107 hat107=>?_)
 obtain rfl : _ = [_]:=hrk_hat107
 exact L_nil ⟨rfl,_,_,rfl,Le.refl _,fun _ _=>⟨_,_,_,rfl,rfl,hat107⟩,hst⟩
 refine opsS_cons ?_ ?_
 intro f w_ H97 X97 hS97 hE97 hP97 hst
 obtain ⟨g109,o109,cs109,hv109,hrk_hat109,hat109⟩:=(hP97 4 38 rfl rfl)
 obtain rfl : _ = [_]:=hrk_hat109
 refine L_ld rfl Try.isAgg3 hv109 (At.cell (AtH.at hat109 hst.sub) (j:=0) rfl) (L_nil ⟨rfl,_,_,rfl,Le.refl _,fun _ _=>rfl,hst⟩)
 refine opsS_cons (fun f w_ _ _ _ _ p hst=>L_neg rfl (p 5 39 rfl rfl) (nO rfl rfl hst)) (opsS_cons (fun f w_ _ _ s _ _ hst=>mF ((s 7 rfl).trans sf7) rfl (nO rfl rfl hst)) (opsS_cons (fun f w_ _ _ _ _ p hst=>L_neg rfl (p 7 41 rfl rfl) (nO rfl rfl hst)) (opsS_cons (fun f w_ _ _ _ _ p hst=>L_bld rfl (parts2 (p 6 40 rfl rfl) (p 8 42 rfl rfl)) (bld_112_0_1 (I (i64 (-x21))) (I (i64 (-(i_11 : Int)))) rfl rfl) (nO rfl rfl hst)) (opsS_cons ?_ ?_))))
 intro f w_ H97 X97 hS97 hE97 hP97 hst
 refine L_bs rfl (parts1 (hP97 9 43 rfl rfl)) (bs_41_1_2 (I (i64 (-x21))) (I (i64 (-(i_11 : Int)))) ) hst (fun g111 w112 hst=>?_)
 have hst:=Star.addF (r:=rTerm) (cs:=[I (i64 (-x21)),I (i64 (-(i_11 : Int)))]) (x:=({ coef:=i64 (-x21),lit:=i64 (-(i_11 : Int)) } : Term)) hst (rTerm_iff.2 rfl)
 have hst:=Star.mkRow (R:=(OR.frz rTerm)) [([I (i64 (-x21)),I (i64 (-(i_11 : Int)))],({ coef:=i64 (-x21),lit:=i64 (-(i_11 : Int)) } : Term))] [({ coef:=i64 (-x21),lit:=i64 (-(i_11 : Int)) } : Term)] 1 hst rfl rfl rfl (by decide)
 have hst:=hst.gets [3,3,3] rfl
 exact L_nil ⟨rfl,_,_,rfl,Le.refl _,fun _ _=>trivial,hst⟩
 exact opsS_nil
 have hst : Star H97 w_ ([oF 112 rTerm v30_g8_0 g8_0_30,box g8 43 #[v30_g8_0,I 0],box g3 43 #[S0,I 0],oF 112 rTerm (f 44) ([({ coef:=i64 (-x21),lit:=i64 (-(i_11 : Int)) } : Term)])]):=hst
 have hst:=hst.gets [3,1] rfl
 refine L_appM (v:=v30_g8_0) (u:=(f 44)) rfl et_41 (hT97 1 35 rfl rfl) rfl hst hx92 (fun v115 w116 hst=>fA 0 fa_43_0 ((hS97 6 rfl).trans sf6) rfl (L_stB (v:=v115) (cs2:=#[v115,I 0]) 1 rfl Try.sizeOf41 rfl rfl (one_len (Star.len 0 hst rfl)) hst rfl rfl rfl (fun w118 hst=>nn (W_region (mF ((hS97 1 rfl).trans sf1) rfl (mF ((hS97 0 rfl).trans sf0) rfl (mF ((hS97 7 rfl).trans sf7) rfl (L_ix (r:=RP.int) rfl Try.underlying65 Try.sizeOf3 rfl (RP.mono _ h0 (Le.trans (Le.trans l16 l33) hE97)) rfl hx21 (fun g123 o124 cs_g123 hrk_hat125 hat125=>?_)))))))))
 obtain rfl : _ = [_]:=hrk_hat125
 refine L_ld rfl Try.isAgg3 rfl (At.cell (AtH.at hat125 hst.sub) (j:=0) rfl) (L_sub rfl rfl rfl (aI rfl (nn ?_)))
 obtain ⟨rfl,rfl⟩:=so2 hA83
 have hst:=hst.gets [2,1,2] rfl
 exact rj hR83 ⟨H97,v115,hE97,((hS97 0 rfl).trans sf0),rfl,((hS97 4 rfl).trans sf4),((hS97 6 rfl).trans sf6),((hS97 7 rfl).trans sf7),hst⟩
 have hA83:=(ite_f hc84).symm.trans hA83
 refine W_skip ?_
 obtain ⟨rfl,rfl⟩:=so2 hA83
 exact rj hR83 ⟨H32,v30_g8_0,(Le.refl _),sf0,sf1,sf4,sf6,sf7,hst⟩
 intro f w_ hR
 obtain ⟨H81,v79_g8_0,l82,sf0,sf1,sf4,sf6,sf7,hst⟩:=rk hR83 hR
 refine W_region (mF sf7 rfl (L_add rfl rfl rfl (aI rfl (nn ?_))))
 obtain rfl:=so hB17
 show ∃ m,m < _∧I17 m _ _
 refine ⟨rest17,Nat.lt_succ_self _,?_⟩
 exact ij hI17 ⟨i_11 + 1,rest17,bound_78,g8_0_79,H81,v79_g8_0,rfl,by omega,by omega,hL17,(Le.trans (Le.trans l16 l33) l82),sf0,sf1,sf4,sf6,(Eq.trans rfl (congrArg (Value.int .i64) (i64_succ (n:=1 + k18) (by omega) (cntF_le hk18)))),hst⟩
 rcases suf17 with _ | _
 obtain rfl:=count_zero hL17
 refine W_exit (rj hR17 ⟨bound_12,g8_0_13,H15,v13_g8_0,rfl,l16,sf1,sf4,sf6,hst⟩)
 exact absurd (cntF_yesL hs17 hl17 hk18) (of_decide_eq_false hc20)
 intro f w_ hR
 obtain ⟨bound_12,g8_0_13,H15,v13_g8_0,rfl,l16,sf1,sf4,sf6,hst⟩:=rk hR17 hR
 refine W_seq (sq (mF sf1 rfl (L_lss rfl rfl rfl (nn ?_))))
 obtain ⟨bound_127,hA128,hF⟩:=bind_some hF
 obtain ⟨R128,hR128⟩:=exR fun f w_=>f 1 = I bound_127∧f 4 = Pt g3∧f 6 = Pt g8∧Star H15 w_ ([oF 112 rTerm v13_g8_0 g8_0_13,box g8 43 #[v13_g8_0,I 0],box g3 43 #[S0,I 0]])
 refine W_join R128 ?_ ?_
 refine W_cond (b:=decide (bound_12 < 0)) rfl (fun hc129=>?_) (fun hc129=>?_)
 have hA128:=(ite_t hc129).symm.trans hA128
 refine W_region (aI rfl (nn ?_))
 obtain rfl:=so hA128
 exact rj hR128 ⟨rfl,sf4,sf6,hst⟩
 have hA128:=(ite_f hc129).symm.trans hA128
 refine W_skip ?_
 obtain rfl:=so hA128
 exact rj hR128 ⟨sf1,sf4,sf6,hst⟩
 intro f w_ hR
 obtain ⟨sf1,sf4,sf6,hst⟩:=rk hR128 hR
 refine sq (mF sf1 rfl (fA 1 fa_43_1 sf6 rfl (L_stB (v:=I bound_127) (cs2:=#[v13_g8_0,I bound_127]) 1 rfl Try.sizeOf3 rfl rfl rfl hst rfl rfl rfl (fun w131 hst=>nq (W_seq ?_)))))
 obtain ⟨x138,hx138,hF⟩:=bind_some hF
 refine W_region (L_lda (cs:=[v13_g8_0,I bound_127]) rfl Try.isAgg43 Try.sizeOf43 sf6 (At.sub0 (Blk.at (Star.blkAt 0 hst rfl)) 0 2) rfl ?_)
 obtain ⟨H140b,l141,s142,z143,k144⟩:=hst.borrow
 have hb145 : (rS 112 rTerm).rel H140b [v13_g8_0] g8_0_13:=fz_own 1 z143 rfl
 refine L_call rfl Try.call77 (ops1 rfl) (s_ConstraintValid_c (c:=({ terms:=g8_0_13,bound:=bound_127 } : Con)) s142 hb145 hx138) ?_
 rintro _ w146 ⟨rfl,hst⟩
 have hst:=k144 hst c0
 refine L_not_ rfl rfl (nn (W_cond (b:=(!x138)) rfl (fun hc147=>?_) (fun hc147=>?_)))
 have hF:=(ite_t hc147).symm.trans hF
 refine sq (L_bld rfl (parts0 ) (bld_43_  ) (L_staB (vs:=#[S0,I 0]) (cs2:=#[S0,I 0]) 2 rfl Try.sizeOf43 sf4 rfl rfl (ones_cons rfl (ones_cons rfl ones_nil)) hst rfl (by show 0 + 2≤2; decide) rfl (fun w149 hst=>aB rfl (nn (W_ret (retG2 (v1:=.agg #[S0,I 0]) (v2:=Bo false) Try.results117 (resV_agg Try.isAgg43 Try.sizeOf43 sf4 (Star.blkAt 0 hst rfl) rfl) rfl ?_))))))
 obtain rfl:=so hF
 have hst:=Star.addNil (R:=(OR.frz rTerm)) (e:=112) hst
 exact ⟨S0,rfl,(Star.down (Star.keepN 1 hst) l16 (co closed_term c0))⟩
 have hF:=(ite_f hc147).symm.trans hF
 refine W_skip (sq (L_lda (cs:=[v13_g8_0,I bound_127]) rfl Try.isAgg43 Try.sizeOf43 sf6 (At.sub0 (Blk.at (Star.blkAt 0 hst rfl)) 0 2) rfl (L_staB (vs:=#[v13_g8_0,I bound_127]) (cs2:=#[v13_g8_0,I bound_127]) 2 rfl Try.sizeOf43 sf4 rfl rfl (ones_cons (one_len (Star.len 1 hst rfl)) (ones_cons rfl ones_nil)) hst rfl (by show 0 + 2≤2; decide) rfl (fun w152 hst=>aB rfl (nn (W_ret (retG2 (v1:=.agg #[v13_g8_0,I bound_127]) (v2:=Bo true) Try.results117 (resV_agg Try.isAgg43 Try.sizeOf43 sf4 (Star.blkAt 0 hst rfl) rfl) rfl ?_)))))))
 obtain rfl:=so hF
 have hst:=hst.get 2 rfl
 exact ⟨v13_g8_0,rfl,(Star.down (Star.keepN 1 hst) l16 (co closed_term c0))⟩
theorem s_AddConstraints_c {a : Con} {b : Con} {v0_0 : Value} {v1_0 : Value} {H : FH} {w : World} (hst : Star H w []) (h0_0 : (rS 112 rTerm).rel H [v0_0] a.terms) (h1_0 : (rS 112 rTerm).rel H [v1_0] b.terms) {r : Con × Bool} (hF : s_AddConstraints a b = some r) :
 C Try.prog 76 #[.agg #[v0_0,I a.bound],.agg #[v1_0,I b.bound]] w fun v w'=>∃ (u1 : Value),v = .tuple #[.agg #[u1,I r.1.bound],Bo r.2]∧Star H w' [oF 112 rTerm u1 r.1.terms]:=by
 unfold s_AddConstraints at hF
 refine C_enter Try.func76 rfl Try.ntmps76 rfl (sq (L_box (v:=.agg #[v0_0,I a.bound]) (cs:=#[v0_0,I a.bound]) rfl rfl rfl hst (fun g7 w8 hst=>L_box (v:=.agg #[v1_0,I b.bound]) (cs:=#[v1_0,I b.bound]) rfl rfl rfl hst (fun g9 w10 hst=>L_al (cs:=#[S0,I 0]) rfl Try.zeroValue43 rfl hst (fun g11 w12 hst=>aB rfl (nq (W_seq ?_)))))))
 obtain ⟨x18,hx18,hF⟩:=bind_some hF
 obtain ⟨b27,hb27,hF⟩:=bind_some hF
 obtain ⟨R28,hR28⟩:=exR fun f w_=>f 2 = Pt g7∧f 3 = Pt g9∧f 4 = Pt g11∧f 15 = Bo b27∧Star H w_ ([box g11 43 #[S0,I 0],box g9 43 #[v1_0,I b.bound],box g7 43 #[v0_0,I a.bound]])
 refine W_join R28 ?_ ?_
 refine W_region (L_lda (cs:=[v0_0,I a.bound]) rfl Try.isAgg43 Try.sizeOf43 rfl (At.sub0 (Blk.at (Star.blkAt 2 hst rfl)) 0 2) rfl ?_)
 obtain ⟨H29b,l30,s31,z32,k33⟩:=hst.borrow
 refine L_call rfl Try.call77 (ops1 rfl) (s_ConstraintValid_c (c:=a) s31 (RP.mono _ h0_0 l30) hx18) ?_
 rintro _ w34 ⟨rfl,hst⟩
 have hst:=k33 hst c0
 refine L_not_ rfl rfl (mB rfl (L_split (d:=11) (b:=(!x18)) rfl (fun hc35=>?_) (fun hc35=>?_)))
 rw [ite_t hc35] at hb27
 refine ps rfl (ps rfl (ps rfl (L_pick (v:=Bo b27) rfl rfl (congrArg Value.bool (so hb27)) (nn (rj hR28 ⟨rfl,rfl,rfl,rfl,hst⟩)))))
 rw [ite_f hc35] at hb27
 obtain ⟨x25,hx25,hb27⟩:=bind_some hb27
 refine L_lda (cs:=[v1_0,I b.bound]) rfl Try.isAgg43 Try.sizeOf43 rfl (At.sub0 (Blk.at (Star.blkAt 1 hst rfl)) 0 2) rfl ?_
 obtain ⟨H36b,l37,s38,z39,k40⟩:=hst.borrow
 refine L_call rfl Try.call77 (ops1 rfl) (s_ConstraintValid_c (c:=b) s38 (RP.mono _ h1_0 l37) hx25) ?_
 rintro _ w41 ⟨rfl,hst⟩
 have hst:=k40 hst c0
 refine L_not_ rfl rfl (L_pick (v:=Bo b27) rfl rfl (congrArg Value.bool (so hb27)) (nn (rj hR28 ⟨rfl,rfl,rfl,rfl,hst⟩)))
 intro f w_ hR
 obtain ⟨sf2,sf3,sf4,sf15,hst⟩:=rk hR28 hR
 refine W_cond (b:=b27) sf15 (fun hc42=>?_) (fun hc42=>?_)
 have hF:=(ite_t hc42).symm.trans hF
 refine sq (L_bld rfl (parts0 ) (bld_43_  ) (L_staB (vs:=#[S0,I 0]) (cs2:=#[S0,I 0]) 0 rfl Try.sizeOf43 sf4 rfl rfl (ones_cons rfl (ones_cons rfl ones_nil)) hst rfl (by show 0 + 2≤2; decide) rfl (fun w44 hst=>aB rfl (nn (W_ret (retG2 (v1:=.agg #[S0,I 0]) (v2:=Bo false) Try.results76 (resV_agg Try.isAgg43 Try.sizeOf43 sf4 (Star.blkAt 0 hst rfl) rfl) rfl ?_))))))
 obtain rfl:=so hF
 have hst:=Star.addNil (R:=(OR.frz rTerm)) (e:=112) hst
 exact ⟨S0,rfl,(Star.keepN 1 hst)⟩
 have hF:=(ite_f hc42).symm.trans hF
 refine W_skip (W_seq ?_)
 obtain ⟨x49,hx49,hF⟩:=bind_some hF
 obtain ⟨x53,hx53,hF⟩:=bind_some hF
 obtain ⟨x63,hx63,hF⟩:=bind_some hF
 refine W_drawS 17 [anyF,isV (Pt g7),isV (v0_0),anyF,isV (Pt g9),isV (v1_0),anyF,isV (Pq g7 1),isV (I a.bound),isV (Pq g9 1),isV (I b.bound),isV (I (i64 (a.bound + b.bound))),tup2 (anyF) (isV (I x63.2)),tup2 (anyF) (isV (I x63.2)),anyF,isV (I x63.2),anyF] [box g11 43 #[S0,I 0],box g9 43 #[v1_0,I b.bound],box g7 43 #[v0_0,I a.bound]] [.made 0 18 (fun v_=>oF 112 rTerm v_ ([])) (some 3),.made 3 21 (fun v_=>oF 112 rTerm v_ x49) (some 6),.made 6 24 (fun v_=>oF 112 rTerm v_ x53) none,.made 12 30 (fun v_=>oF 3 RP.int (tupC v_ 0) x63.1) (some 13),.made 13 17 (fun v_=>oF 3 RP.int (tupC v_ 0) x63.1) (some 14),.made 14 31 (fun v_=>oF 3 RP.int v_ x63.1) (some 16),.made 16 6 (fun v_=>oF 3 RP.int v_ x63.1) none] ([]) [([],[0]),([],[]),([],[]),([0],[1]),([],[]),([],[]),([1],[2]),([],[]),([],[]),([],[]),([],[]),([],[]),([2],[2,3]),([3],[4]),([4],[5]),([],[]),([5],[6])] (S:=[(some 0,[18],some 3),(some 3,[21],some 6),(some 6,[24],none),(some 12,[30],some 13),(some 13,[17],some 14),(some 14,[31],some 16),(some 16,[6],none)]) Try_mix (by kernel_rfl) rfl (by kernel_rfl) (amF_cons (mono_any) (amF_cons (mono_V _) (amF_cons (mono_V _) (amF_cons (mono_any) (amF_cons (mono_V _) (amF_cons (mono_V _) (amF_cons (mono_any) (amF_cons (mono_V _) (amF_cons (mono_V _) (amF_cons (mono_V _) (amF_cons (mono_V _) (amF_cons (mono_V _) (amF_cons (mono_tup2 (mono_any) (mono_V _)) (amF_cons (mono_tup2 (mono_any) (mono_V _)) (amF_cons (mono_any) (amF_cons (mono_V _) (amF_cons (mono_any) amF_nil))))))))))))))))) hst ?_ (fun f w_ H66 hS66 hE66 hT66 hst=>?_)
 refine opsS_cons ?_ ?_
 intro f w_ H66 X66 hS66 hE66 hP66 hst
 refine L_bs rfl parts0 (bs_41_0  ) hst (fun g84 w85 hst=>?_)
 have hst:=Star.mkRow (R:=(OR.frz rTerm)) [] [] 0 hst rfl rfl rfl (by decide)
 have hst:=hst.gets [3,3,3] rfl
 exact L_nil ⟨rfl,_,_,rfl,Le.refl _,fun _ _=>trivial,hst⟩
 refine opsS_cons (fun f w_ _ _ s _ _ hst=>fA 0 fa_43_0 ((s 2 rfl).trans sf2) rfl (nO rfl rfl hst)) (opsS_cons (fun f w_ _ _ _ _ p hst=>ldB 2 hst Try.isAgg41 (p 1 19 rfl rfl) rfl rfl (nO rfl rfl hst)) (opsS_cons ?_ ?_))
 intro f w_ H66 X66 hS66 hE66 hP66 hst
 have hst : Star H66 w_ (box g11 43 #[S0,I 0] :: box g9 43 #[v1_0,I b.bound] :: box g7 43 #[v0_0,I a.bound] :: oF 112 rTerm (f 18) ([]) :: X66):=hst
 have hst:=hst.get 3 rfl
 refine L_app (v:=(f 18)) (u:=v0_0) rfl et_41 rfl (hP66 2 20 rfl rfl) hst (RP.mono _ h0_0 hE66) hx49 (fun v88 w89 hst=>?_)
 have hst:=hst.gets [3,3,3] rfl
 exact L_nil ⟨rfl,_,_,rfl,Le.refl _,fun _ _=>trivial,hst⟩
 refine opsS_cons (fun f w_ _ _ s _ _ hst=>fA 0 fa_43_0 ((s 3 rfl).trans sf3) rfl (nO rfl rfl hst)) (opsS_cons (fun f w_ _ _ _ _ p hst=>ldB 1 hst Try.isAgg41 (p 4 22 rfl rfl) rfl rfl (nO rfl rfl hst)) (opsS_cons ?_ ?_))
 intro f w_ H66 X66 hS66 hE66 hP66 hst
 have hst : Star H66 w_ (box g11 43 #[S0,I 0] :: box g9 43 #[v1_0,I b.bound] :: box g7 43 #[v0_0,I a.bound] :: oF 112 rTerm (f 21) x49 :: X66):=hst
 have hst:=hst.get 3 rfl
 refine L_app (v:=(f 21)) (u:=v1_0) rfl et_41 rfl (hP66 5 23 rfl rfl) hst (RP.mono _ h1_0 hE66) hx53 (fun v92 w93 hst=>?_)
 have hst:=hst.gets [3,3,3] rfl
 exact L_nil ⟨rfl,_,_,rfl,Le.refl _,fun _ _=>trivial,hst⟩
 refine opsS_cons (fun f w_ _ _ s _ _ hst=>fA 1 fa_43_1 ((s 2 rfl).trans sf2) rfl (nO rfl rfl hst)) (opsS_cons (fun f w_ _ _ _ _ p hst=>ldB 2 hst Try.isAgg3 (p 7 25 rfl rfl) rfl rfl (nO rfl rfl hst)) (opsS_cons (fun f w_ _ _ s _ _ hst=>fA 1 fa_43_1 ((s 3 rfl).trans sf3) rfl (nO rfl rfl hst)) (opsS_cons (fun f w_ _ _ _ _ p hst=>ldB 1 hst Try.isAgg3 (p 9 27 rfl rfl) rfl rfl (nO rfl rfl hst)) (opsS_cons (fun f w_ _ _ _ _ p hst=>L_add rfl (p 8 26 rfl rfl) (p 10 28 rfl rfl) (nO rfl rfl hst)) (opsS_cons ?_ ?_)))))
 intro f w_ H66 X66 hS66 hE66 hP66 hst
 have hst : Star H66 w_ (box g11 43 #[S0,I 0] :: box g9 43 #[v1_0,I b.bound] :: box g7 43 #[v0_0,I a.bound] :: oF 112 rTerm (f 24) x53 :: X66):=hst
 obtain ⟨H96b,l97,s98,z99,k100⟩:=hst.borrow
 have hb101 : (rS 112 rTerm).rel H96b [(f 24)] x53:=fz_own 3 z99 rfl
 refine L_call rfl Try.call116 (ops2 rfl (hP66 11 29 rfl rfl)) (s_l1Net_c (terms:=x53) (bound:=i64 (a.bound + b.bound)) s98 hb101 hx63) ?_
 rintro _ w102 ⟨r102_0,rfl,hst⟩
 have hst:=k100 hst (co closed_int c0)
 have hst:=hst.gets [4,4,4,4] rfl
 exact L_nil ⟨rfl,_,_,rfl,Le.refl _,fun _ _=>⟨_,_,rfl,trivial,rfl⟩,hst⟩
 refine opsS_cons ?_ ?_
 intro f w_ H66 X66 hS66 hE66 hP66 hst
 have hst : Star H66 w_ (box g11 43 #[S0,I 0] :: box g9 43 #[v1_0,I b.bound] :: box g7 43 #[v0_0,I a.bound] :: own (OR.ownS 3 (OR.frz RP.int)) [(tupC (f 30) 0)] x63.1 :: X66):=hst
 obtain ⟨a104_0,a104_1,hv104,ht104_0,ht104_1⟩:=(hP66 12 30 rfl rfl)
 obtain rfl:=ht104_1
 have hren : Star H66 w_ (box g11 43 #[S0,I 0] :: box g9 43 #[v1_0,I b.bound] :: box g7 43 #[v0_0,I a.bound] :: own (OR.ownS 3 (OR.frz RP.int)) [(tupC (f 30) 0)] x63.1 :: X66):=hst
 rw [hv104] at hren
 have hst : Star H66 w_ (box g11 43 #[S0,I 0] :: box g9 43 #[v1_0,I b.bound] :: box g7 43 #[v0_0,I a.bound] :: oF 3 RP.int a104_0 x63.1 :: X66):=hren
 refine mF hv104 rfl (L_nil ⟨rfl,_,_,rfl,Le.refl _,fun _ _=>⟨_,_,rfl,trivial,rfl⟩,hst⟩)
 refine opsS_cons ?_ ?_
 intro f w_ H66 X66 hS66 hE66 hP66 hst
 have hst : Star H66 w_ (box g11 43 #[S0,I 0] :: box g9 43 #[v1_0,I b.bound] :: box g7 43 #[v0_0,I a.bound] :: own (OR.ownS 3 (OR.frz RP.int)) [(tupC (f 17) 0)] x63.1 :: X66):=hst
 obtain ⟨a105_0,a105_1,hv105,ht105_0,ht105_1⟩:=(hP66 13 17 rfl rfl)
 obtain rfl:=ht105_1
 have hren : Star H66 w_ (box g11 43 #[S0,I 0] :: box g9 43 #[v1_0,I b.bound] :: box g7 43 #[v0_0,I a.bound] :: own (OR.ownS 3 (OR.frz RP.int)) [(tupC (f 17) 0)] x63.1 :: X66):=hst
 rw [hv105] at hren
 have hst : Star H66 w_ (box g11 43 #[S0,I 0] :: box g9 43 #[v1_0,I b.bound] :: box g7 43 #[v0_0,I a.bound] :: oF 3 RP.int a105_0 x63.1 :: X66):=hren
 refine L_ex (v:=a105_0) rfl hv105 rfl (L_nil ⟨rfl,_,_,rfl,Le.refl _,fun _ _=>trivial,hst⟩)
 refine opsS_cons ?_ ?_
 intro f w_ H66 X66 hS66 hE66 hP66 hst
 obtain ⟨a106_0,a106_1,hv106,ht106_0,ht106_1⟩:=(hP66 13 17 rfl rfl)
 obtain rfl:=ht106_1
 refine L_ex (v:=I x63.2) rfl hv106 rfl (L_nil ⟨rfl,_,_,rfl,Le.refl _,fun _ _=>rfl,hst⟩)
 refine opsS_cons ?_ ?_
 intro f w_ H66 X66 hS66 hE66 hP66 hst
 have hst : Star H66 w_ (box g11 43 #[S0,I 0] :: box g9 43 #[v1_0,I b.bound] :: box g7 43 #[v0_0,I a.bound] :: oF 3 RP.int (f 31) x63.1 :: X66):=hst
 refine aV (f 31) rfl (L_nil ⟨rfl,_,_,rfl,Le.refl _,fun _ _=>trivial,hst⟩)
 exact opsS_nil
 have hst : Star H66 w_ ([box g11 43 #[S0,I 0],box g9 43 #[v1_0,I b.bound],box g7 43 #[v0_0,I a.bound],oF 112 rTerm (f 24) x53,oF 3 RP.int (f 6) x63.1]):=hst
 refine aF (hT66 15 32 rfl rfl) rfl (nq ?_)
 obtain ⟨x115,hx115,hF⟩:=bind_some hF
 refine W_region (mV (f 6) rfl (mI rfl ?_))
 obtain ⟨H119b,l120,s121,z122,k123⟩:=hst.borrow
 have hb124 : (rS 3 RP.int).rel H119b [(f 6)] x63.1:=fz_own 4 z122 rfl
 refine L_call rfl Try.call117 (ops2 rfl rfl) (s_l1Normal_c (net:=x63.1) (bound:=x63.2) s121 hb124 hx115) ?_
 rintro _ w125 ⟨r125_0,rfl,hst⟩
 have hst:=k123 hst (co closed_term c0)
 refine L_ex (v:=.agg #[r125_0,I x115.1.bound]) rfl rfl rfl (L_ex (v:=Bo x115.2) rfl rfl rfl (L_staB (vs:=#[r125_0,I x115.1.bound]) (cs2:=#[r125_0,I x115.1.bound]) 1 rfl Try.sizeOf43 ((hS66 4 rfl).trans sf4) rfl rfl (ones_cons (one_len (Star.len 0 hst rfl)) (ones_cons rfl ones_nil)) hst rfl (by show 0 + 2≤2; decide) rfl (fun w127 hst=>aB rfl (nn (W_ret (retG2 (v1:=.agg #[r125_0,I x115.1.bound]) (v2:=Bo x115.2) Try.results76 (resV_agg Try.isAgg43 Try.sizeOf43 ((hS66 4 rfl).trans sf4) (Star.blkAt 0 hst rfl) rfl) rfl ?_))))))
 obtain rfl:=so hF
 have hst:=hst.get 1 rfl
 exact ⟨r125_0,rfl,(Star.down (Star.keepN 1 hst) hE66 (co closed_term c0))⟩
theorem s_DrawProveConstraint_c {fu : Nat} {code : List UInt8} {v0 : Value} {H : FH} {w : World} {R : List Ass} (hst : Star H w R) (h0 : (rS 5 RP.u8).rel H [v0] code) {r : (List Con) × Con × Int} (hF : s_DrawProveConstraint fu code = some r) :
 C Try.prog 26 #[v0] w fun v w'=>∃ H' : FH,Le H H'∧∃ (u1 : Value) (u2 : Value),v = .tuple #[u1,.agg #[u2,I r.2.1.bound],I r.2.2]∧Star H' w' (oF 43 (rCon 112) u1 r.1 :: oF 112 rTerm u2 r.2.1.terms :: R):=by
 unfold s_DrawProveConstraint at hF
 refine C_enter Try.func26 rfl Try.ntmps26 rfl (sq (aV S0 rfl (L_al (cs:=#[S0,I 0]) rfl Try.zeroValue43 rfl hst (fun g3 w4 hst=>aI rfl (nq ?_)))))
 obtain ⟨x5,hx5,hF⟩:=bind_some hF
 refine W_region (mV v0 rfl (L_call rfl Try.call53 (ops1 rfl) (s_l17Open_c (code:=code) hst h0 hx5) ?_))
 rintro _ w7 ⟨H7,l7,r7_0,r7_1,rfl,hr7_1,hst⟩
 refine aV (Pt r7_0) rfl (nq ?_)
 obtain ⟨x13,hx13,hF⟩:=bind_some hF
 obtain ⟨x19,hx19,hF⟩:=bind_some hF
 refine W_region (mV (Pt r7_0) rfl (mV (Pt r7_0) rfl ?_))
 obtain ⟨H22b,l23,s24,z25,k26⟩:=hst.lend [_]
 refine L_call rfl Try.call73 (ops1 rfl) (s_l3Problem_c (r_:=x5) s24 (RP.mono _ hr7_1 l23) hx13) ?_
 rintro r27_0 w27 ⟨_,rfl,hst⟩
 have hst:=k26 hst (co closed_oCon (cb c0))
 obtain ⟨H29,l30,hst,hz31⟩:=Star.freeze hst
 have hz31 : (rS 43 (rCon 112)).rel H29 [r27_0] x13.1:=hz31
 refine L_call rfl Try.call54 (ops2 rfl rfl) (s_l3Mutate_c (r_:=({ b:=x5.b,p:=x13.2 } : Rd)) (list:=x13.1) hst (RP.mono _ hr7_1 l30) hz31 hx19) ?_
 rintro r32_0 w32 ⟨H32,l32,_,rfl,hst⟩
 refine aV r32_0 rfl (nq ?_)
 obtain ⟨x39,hx39,hF⟩:=bind_some hF
 obtain ⟨x48,hx48,hF⟩:=bind_some hF
 refine W_region (mV (Pt r7_0) rfl (mV (Pt r7_0) rfl ?_))
 have hst:=hst.get 1 rfl
 obtain ⟨H54b,l55,s56,z57,k58⟩:=hst.lend [_]
 refine L_call rfl Try.call75 (ops2 rfl rfl) (s_l1Draw_c (r_:=({ b:=x5.b,p:=x19.2 } : Rd)) (most:=4) s56 (RP.mono _ hr7_1 (Le.trans (Le.trans l30 l32) l55)) hx39) ?_
 rintro _ w59 ⟨r59_0,rfl,hst⟩
 have hst:=k58 hst (co closed_term (cb c0))
 have hst:=hst.get 1 rfl
 obtain ⟨H61b,l62,s63,z64,k65⟩:=hst.lend [_]
 have hb66 : (rS 112 rTerm).rel H61b [r59_0] x39.1.terms:=fz_own 0 z64 rfl
 refine L_call rfl Try.call74 (ops2 rfl rfl) (s_l1Mutate_c (r_:=({ b:=x5.b,p:=x39.2 } : Rd)) (c:=x39.1) s63 (RP.mono _ hr7_1 (Le.trans (Le.trans l30 l32) l62)) hb66 hx48) ?_
 rintro _ w67 ⟨r67_0,rfl,hst⟩
 have hst:=k65 hst (co closed_term (cb c0))
 refine L_al (cs:=#[S0,I 0]) rfl Try.zeroValue43 rfl hst (fun g69 w70 hst=>L_staB (vs:=#[r67_0,I x48.1.bound]) (cs2:=#[r67_0,I x48.1.bound]) 0 rfl Try.sizeOf43 rfl rfl rfl (ones_cons (one_len (Star.len 1 hst rfl)) (ones_cons rfl ones_nil)) hst rfl (by show 0 + 2≤2; decide) rfl (fun w71 hst=>nq (W_seq ?_)))
 obtain ⟨b79,hb79,hF⟩:=bind_some hF
 obtain ⟨R80,hR80⟩:=exR fun f w_=>f 3 = Pt g3∧f 5 = Pt r7_0∧f 6 = r32_0∧f 7 = Pt g69∧f 25 = Bo b79.1∧Star H32 w_ (oF 43 (rCon 112) r32_0 x19.1 :: oF 112 rTerm r67_0 x48.1.terms :: box g69 43 #[r67_0,I x48.1.bound] :: box r7_0 119 #[r7_1,I b79.2] :: box g3 43 #[S0,I 0] :: R)
 refine W_join R80 ?_ ?_
 refine W_region (mV r32_0 rfl (L_len rfl Try.underlying23 rfl (Star.len 4 hst rfl) (L_gtr rfl rfl rfl (mB rfl (L_split (d:=21) (b:=decide ((x19.1.length : Int) > 1)) rfl (fun hc81=>?_) (fun hc81=>?_))))))
 rw [ite_t hc81] at hb79
 obtain ⟨x77,hx77,hb79⟩:=bind_some hb79
 refine mV (Pt r7_0) rfl ?_
 have hst:=hst.get 2 rfl
 obtain ⟨H82b,l83,s84,z85,k86⟩:=hst.lend [_]
 refine L_call rfl Try.call57 (ops2 rfl rfl) (s_l17Rd_pick_c (r_:=({ b:=x5.b,p:=x48.2 } : Rd)) (n_:=2) s84 (RP.mono _ hr7_1 (Le.trans (Le.trans l30 l32) l83)) hx77) ?_
 rintro _ w87 ⟨rfl,hst⟩
 have hst:=k86 hst (cb c0)
 refine L_eql rfl rfl rfl (L_pick (v:=Bo b79.1) rfl rfl (congrArg (fun z : Bool × Int=>Value.bool z.1) (so hb79)) ?_)
 have hst : Star H32 w87 (box r7_0 119 #[r7_1,I b79.2] :: box g69 43 #[r67_0,I x48.1.bound] :: oF 112 rTerm r67_0 x48.1.terms :: oF 112 rTerm r59_0 x39.1.terms :: oF 43 (rCon 112) r32_0 x19.1 :: box g3 43 #[S0,I 0] :: R):=by rw [← so hb79]; exact hst
 refine nn ?_
 have hst:=hst.gets [5,1,2,3,5] rfl
 have hst:=Star.drop 5 hst rfl
 exact rj hR80 ⟨rfl,rfl,rfl,rfl,rfl,hst⟩
 rw [ite_f hc81] at hb79
 refine ps rfl (ps rfl (ps rfl (L_pick (v:=Bo b79.1) rfl rfl (congrArg (fun z : Bool × Int=>Value.bool z.1) (so hb79)) ?_)))
 have hst:=hst.get 2 rfl
 have hst : Star H32 w71 (box r7_0 119 #[r7_1,I b79.2] :: box g69 43 #[r67_0,I x48.1.bound] :: oF 112 rTerm r67_0 x48.1.terms :: oF 112 rTerm r59_0 x39.1.terms :: oF 43 (rCon 112) r32_0 x19.1 :: box g3 43 #[S0,I 0] :: R):=by rw [← so hb79]; exact hst
 refine nn ?_
 have hst:=hst.gets [5,1,2,3,5] rfl
 have hst:=Star.drop 5 hst rfl
 exact rj hR80 ⟨rfl,rfl,rfl,rfl,rfl,hst⟩
 intro f w_ hR
 obtain ⟨sf3,sf5,sf6,sf7,sf25,hst⟩:=rk hR80 hR
 obtain ⟨⟨g69_0_88,g69_1_90⟩,hA93,hF⟩:=bind_some hF
 obtain ⟨R93,hR93⟩:=exR fun f w_=>∃ H91 : FH,∃ v88_g69_0 : Value,Le H32 H91∧f 3 = Pt g3∧f 5 = Pt r7_0∧f 6 = r32_0∧f 7 = Pt g69∧Star H91 w_ (oF 43 (rCon 112) r32_0 x19.1 :: oF 112 rTerm v88_g69_0 g69_0_88 :: box g69 43 #[v88_g69_0,I g69_1_90] :: box r7_0 119 #[r7_1,I b79.2] :: box g3 43 #[S0,I 0] :: R)
 refine W_join R93 ?_ ?_
 refine W_cond (b:=b79.1) sf25 (fun hc94=>?_) (fun hc94=>?_)
 have hA93:=(ite_t hc94).symm.trans hA93
 obtain ⟨x95,hx95,hA93⟩:=bind_some hA93
 obtain ⟨x100,hx100,hA93⟩:=bind_some hA93
 obtain ⟨x108,hx108,hA93⟩:=bind_some hA93
 obtain ⟨g113,cap_g113,hv114,_,_⟩:=Star.row 0 hst rfl hx95
 have hst:=hst.gets [2,4,4,4,4] rfl
 refine W_drawS 11 [isV (r32_0),isV (.pointer (some ⟨g113,Int.toNat 0 * 2,none⟩)),exD (isData (rS 112 rTerm) x95.terms) fun u_0=>isV (.agg #[u_0,I x95.bound]),isV (r32_0),isV (.pointer (some ⟨g113,Int.toNat 1 * 2,none⟩)),exD (isData (rS 112 rTerm) x100.terms) fun u_0=>isV (.agg #[u_0,I x100.bound]),tup2 (exA fun u_0=>isV (.agg #[u_0,I x108.1.bound])) (isV (Bo x108.2)),tup2 (exA fun u_0=>isV (.agg #[u_0,I x108.1.bound])) (isV (Bo x108.2)),exA fun u_0=>isV (.agg #[u_0,I x108.1.bound]),isV (Bo x108.2),anyF] [oF 43 (rCon 112) r32_0 x19.1,oF 112 rTerm r67_0 x48.1.terms,box r7_0 119 #[r7_1,I b79.2],box g3 43 #[S0,I 0]] [.base (box g69 43 #[r67_0,I x48.1.bound]) (some 10),.made 6 33 (fun v_=>own (OR.ownS 112 (OR.frz rTerm)) [(aggC (tupC v_ 0) 0)] x108.1.terms) (some 7),.made 7 26 (fun v_=>own (OR.ownS 112 (OR.frz rTerm)) [(aggC (tupC v_ 0) 0)] x108.1.terms) (some 8),.made 8 34 (fun v_=>oF 112 rTerm (aggC v_ 0) x108.1.terms) none,.madeN 10 [34] (fun vs_=>box g69 43 #[(aggC (vs_.getD 0 undef) 0),I x108.1.bound]) none] (R) [([],[]),([],[]),([],[]),([],[]),([],[]),([],[]),([],[1]),([1],[2]),([2],[3]),([],[]),([0,3],[3,4])] (S:=[(none,[],some 10),(some 6,[33],some 7),(some 7,[26],some 8),(some 8,[34],none),(some 10,[34],none)]) Try_mix (by kernel_rfl) rfl (by kernel_rfl) (amF_cons (mono_V _) (amF_cons (mono_V _) (amF_cons (mono_exD (mono_data _ _) fun _=>mono_V _) (amF_cons (mono_V _) (amF_cons (mono_V _) (amF_cons (mono_exD (mono_data _ _) fun _=>mono_V _) (amF_cons (mono_tup2 (mono_exA fun _=>mono_V _) (mono_V _)) (amF_cons (mono_tup2 (mono_exA fun _=>mono_V _) (mono_V _)) (amF_cons (mono_exA fun _=>mono_V _) (amF_cons (mono_V _) (amF_cons (mono_any) amF_nil))))))))))) hst ?_ (fun f w_ H112 hS112 hE112 hT112 hst=>?_)
 refine opsS_cons (fun f w_ _ _ s _ _ hst=>mF ((s 6 rfl).trans sf6) rfl (nO rfl rfl hst)) (opsS_cons (fun f w_ _ _ _ _ p hst=>L_ixO (R:=(OR.frz (rCon 112))) (tb:=0) 0 rfl Try.underlying23 Try.sizeOf43 (p 0 27 rfl rfl) hv114 (by first | rfl | simp) rfl hx95 (nO rfl rfl hst)) (opsS_cons ?_ ?_))
 intro f w_ H112 X112 hS112 hE112 hP112 hst
 obtain ⟨cs127,hr127,hat127⟩:=Star.eltF 0 hst rfl hv114 hx95
 obtain ⟨u128_0,rfl,hu128_0⟩:=rCon_iff.1 hr127
 refine L_lda (cs:=[u128_0,I x95.bound]) rfl Try.isAgg43 Try.sizeOf43 (hP112 1 28 rfl rfl) (At.sub hat127 0 2) rfl (L_nil ⟨rfl,_,_,rfl,Le.refl _,fun _ _=>⟨_,hu128_0,rfl⟩,hst⟩)
 refine opsS_cons (fun f w_ _ _ s _ _ hst=>mF ((s 6 rfl).trans sf6) rfl (nO rfl rfl hst)) (opsS_cons (fun f w_ _ _ _ _ p hst=>L_ixO (R:=(OR.frz (rCon 112))) (tb:=0) 0 rfl Try.underlying23 Try.sizeOf43 (p 3 30 rfl rfl) hv114 (by first | rfl | simp) rfl hx100 (nO rfl rfl hst)) (opsS_cons ?_ ?_))
 intro f w_ H112 X112 hS112 hE112 hP112 hst
 obtain ⟨cs129,hr129,hat129⟩:=Star.eltF 0 hst rfl hv114 hx100
 obtain ⟨u130_0,rfl,hu130_0⟩:=rCon_iff.1 hr129
 refine L_lda (cs:=[u130_0,I x100.bound]) rfl Try.isAgg43 Try.sizeOf43 (hP112 4 31 rfl rfl) (At.sub hat129 0 2) rfl (L_nil ⟨rfl,_,_,rfl,Le.refl _,fun _ _=>⟨_,hu130_0,rfl⟩,hst⟩)
 refine opsS_cons ?_ ?_
 intro f w_ H112 X112 hS112 hE112 hP112 hst
 obtain ⟨u131_0,hu131_0,hv131⟩:=(hP112 2 29 rfl rfl)
 obtain ⟨u132_0,hu132_0,hv132⟩:=(hP112 5 32 rfl rfl)
 obtain ⟨H133b,l134,s135,z136,k137⟩:=hst.borrow
 refine L_call rfl Try.call76 (ops2 hv131 hv132) (s_AddConstraints_c (a:=x95) (b:=x100) s135 (RP.mono _ hu131_0 l134) (RP.mono _ hu132_0 l134) hx108) ?_
 rintro _ w138 ⟨r138_0,rfl,hst⟩
 have hst:=k137 hst (co closed_term c0)
 have hst:=hst.gets [4,4,4,4] rfl
 exact L_nil ⟨rfl,_,_,rfl,Le.refl _,fun _ _=>⟨_,_,rfl,⟨_,rfl⟩,rfl⟩,hst⟩
 refine opsS_cons ?_ ?_
 intro f w_ H112 X112 hS112 hE112 hP112 hst
 have hst : Star H112 w_ (oF 43 (rCon 112) r32_0 x19.1 :: oF 112 rTerm r67_0 x48.1.terms :: box r7_0 119 #[r7_1,I b79.2] :: box g3 43 #[S0,I 0] :: own (OR.ownS 112 (OR.frz rTerm)) [(aggC (tupC (f 33) 0) 0)] x108.1.terms :: X112):=hst
 obtain ⟨a140_0,a140_1,hv140,ht140_0,ht140_1⟩:=(hP112 6 33 rfl rfl)
 obtain ⟨u141_0,rfl⟩:=ht140_0
 obtain rfl:=ht140_1
 have hren : Star H112 w_ (oF 43 (rCon 112) r32_0 x19.1 :: oF 112 rTerm r67_0 x48.1.terms :: box r7_0 119 #[r7_1,I b79.2] :: box g3 43 #[S0,I 0] :: own (OR.ownS 112 (OR.frz rTerm)) [(aggC (tupC (f 33) 0) 0)] x108.1.terms :: X112):=hst
 rw [hv140] at hren
 have hst : Star H112 w_ (oF 43 (rCon 112) r32_0 x19.1 :: oF 112 rTerm r67_0 x48.1.terms :: box r7_0 119 #[r7_1,I b79.2] :: box g3 43 #[S0,I 0] :: oF 112 rTerm u141_0 x108.1.terms :: X112):=hren
 refine mF hv140 rfl (L_nil ⟨rfl,_,_,rfl,Le.refl _,fun _ _=>⟨_,_,rfl,⟨_,rfl⟩,rfl⟩,hst⟩)
 refine opsS_cons ?_ ?_
 intro f w_ H112 X112 hS112 hE112 hP112 hst
 have hst : Star H112 w_ (oF 43 (rCon 112) r32_0 x19.1 :: oF 112 rTerm r67_0 x48.1.terms :: box r7_0 119 #[r7_1,I b79.2] :: box g3 43 #[S0,I 0] :: own (OR.ownS 112 (OR.frz rTerm)) [(aggC (tupC (f 26) 0) 0)] x108.1.terms :: X112):=hst
 obtain ⟨a142_0,a142_1,hv142,ht142_0,ht142_1⟩:=(hP112 7 26 rfl rfl)
 obtain ⟨u143_0,rfl⟩:=ht142_0
 obtain rfl:=ht142_1
 have hren : Star H112 w_ (oF 43 (rCon 112) r32_0 x19.1 :: oF 112 rTerm r67_0 x48.1.terms :: box r7_0 119 #[r7_1,I b79.2] :: box g3 43 #[S0,I 0] :: own (OR.ownS 112 (OR.frz rTerm)) [(aggC (tupC (f 26) 0) 0)] x108.1.terms :: X112):=hst
 rw [hv142] at hren
 have hst : Star H112 w_ (oF 43 (rCon 112) r32_0 x19.1 :: oF 112 rTerm r67_0 x48.1.terms :: box r7_0 119 #[r7_1,I b79.2] :: box g3 43 #[S0,I 0] :: oF 112 rTerm u143_0 x108.1.terms :: X112):=hren
 refine L_ex (v:=.agg #[u143_0,I x108.1.bound]) rfl hv142 rfl (L_nil ⟨rfl,_,_,rfl,Le.refl _,fun _ _=>⟨_,rfl⟩,hst⟩)
 refine opsS_cons ?_ ?_
 intro f w_ H112 X112 hS112 hE112 hP112 hst
 obtain ⟨a144_0,a144_1,hv144,ht144_0,ht144_1⟩:=(hP112 7 26 rfl rfl)
 obtain ⟨u145_0,rfl⟩:=ht144_0
 obtain rfl:=ht144_1
 refine L_ex (v:=Bo x108.2) rfl hv144 rfl (L_nil ⟨rfl,_,_,rfl,Le.refl _,fun _ _=>rfl,hst⟩)
 refine opsS_cons ?_ ?_
 intro f w_ H112 X112 hS112 hE112 hP112 hst
 have hst : Star H112 w_ (oF 43 (rCon 112) r32_0 x19.1 :: oF 112 rTerm r67_0 x48.1.terms :: box r7_0 119 #[r7_1,I b79.2] :: box g3 43 #[S0,I 0] :: box g69 43 #[r67_0,I x48.1.bound] :: own (OR.ownS 112 (OR.frz rTerm)) [(aggC (f 34) 0)] x108.1.terms :: X112):=hst
 obtain ⟨u146_0,hv146⟩:=(hP112 8 34 rfl rfl)
 have hren : Star H112 w_ (oF 43 (rCon 112) r32_0 x19.1 :: oF 112 rTerm r67_0 x48.1.terms :: box r7_0 119 #[r7_1,I b79.2] :: box g3 43 #[S0,I 0] :: box g69 43 #[r67_0,I x48.1.bound] :: own (OR.ownS 112 (OR.frz rTerm)) [(aggC (f 34) 0)] x108.1.terms :: X112):=hst
 rw [hv146] at hren
 have hst : Star H112 w_ (oF 43 (rCon 112) r32_0 x19.1 :: oF 112 rTerm r67_0 x48.1.terms :: box r7_0 119 #[r7_1,I b79.2] :: box g3 43 #[S0,I 0] :: box g69 43 #[r67_0,I x48.1.bound] :: oF 112 rTerm u146_0 x108.1.terms :: X112):=hren
 refine L_staB (vs:=#[u146_0,I x108.1.bound]) (cs2:=#[u146_0,I x108.1.bound]) 4 rfl Try.sizeOf43 ((hS112 7 rfl).trans sf7) hv146 rfl (ones_cons (one_len (Star.len 5 hst rfl)) (ones_cons rfl ones_nil)) hst rfl (by show 0 + 2≤2; decide) rfl (fun w147 hst=>?_)
 have hst:=hst.gets [5,5,5,5,5] rfl
 have hst : Star H112 w147 (oF 43 (rCon 112) r32_0 x19.1 :: oF 112 rTerm r67_0 x48.1.terms :: box r7_0 119 #[r7_1,I b79.2] :: box g3 43 #[S0,I 0] :: own (OR.ownS 112 (OR.frz rTerm)) [(aggC (f 34) 0)] x108.1.terms :: box g69 43 #[(aggC (f 34) 0),I x108.1.bound] :: X112):=by rw [hv146]; exact hst
 exact L_nil ⟨rfl,Bo false,_,rfl,Le.refl _,(fun _ h=>nomatch h),hst⟩
 exact opsS_nil
 have hst : Star H112 w_ (oF 43 (rCon 112) r32_0 x19.1 :: oF 112 rTerm r67_0 x48.1.terms :: box r7_0 119 #[r7_1,I b79.2] :: box g3 43 #[S0,I 0] :: own (OR.ownS 112 (OR.frz rTerm)) [(aggC (f 34) 0)] x108.1.terms :: box g69 43 #[(aggC (f 34) 0),I x108.1.bound] :: R):=hst
 refine nn ?_
 obtain ⟨rfl,rfl⟩:=so2 hA93
 have hst:=hst.gets [3,3,5,5,4] rfl
 have hst:=Star.drop 5 hst rfl
 exact rj hR93 ⟨H112,(aggC (f 34) 0),hE112,((hS112 3 rfl).trans sf3),((hS112 5 rfl).trans sf5),((hS112 6 rfl).trans sf6),((hS112 7 rfl).trans sf7),hst⟩
 have hA93:=(ite_f hc94).symm.trans hA93
 refine W_skip ?_
 obtain ⟨rfl,rfl⟩:=so2 hA93
 exact rj hR93 ⟨H32,r67_0,(Le.refl _),sf3,sf5,sf6,sf7,hst⟩
 intro f w_ hR
 obtain ⟨H91,v88_g69_0,l92,sf3,sf5,sf6,sf7,hst⟩:=rk hR93 hR
 refine W_seq ?_
 obtain ⟨x153,hx153,hF⟩:=bind_some hF
 have hst:=hst.gets [3,4,4,4,4] rfl
 refine W_drawS 5 [isV (r32_0),isV (.agg #[v88_g69_0,I g69_1_90]),isV (Pt r7_0),isV (I x153.1),isV (r32_0)] [oF 43 (rCon 112) r32_0 x19.1,oF 112 rTerm v88_g69_0 g69_0_88,box g69 43 #[v88_g69_0,I g69_1_90],box g3 43 #[S0,I 0]] [.base (box r7_0 119 #[r7_1,I b79.2]) (some 3),.made 3 39 (fun v_=>box r7_0 119 #[r7_1,I x153.2]) none] (R) [([],[]),([],[]),([],[]),([0],[1]),([],[])] (S:=[(none,[],some 3),(some 3,[39],none)]) Try_mix (by kernel_rfl) rfl (by kernel_rfl) (amF_cons (mono_V _) (amF_cons (mono_V _) (amF_cons (mono_V _) (amF_cons (mono_V _) (amF_cons (mono_V _) amF_nil))))) hst ?_ (fun f w_ H156 hS156 hE156 hT156 hst=>?_)
 refine opsS_cons (fun f w_ _ _ s _ _ hst=>mF ((s 6 rfl).trans sf6) rfl (nO rfl rfl hst)) (opsS_cons (fun f w_ _ _ s _ _ hst=>L_lda (cs:=[v88_g69_0,I g69_1_90]) rfl Try.isAgg43 Try.sizeOf43 ((s 7 rfl).trans sf7) (At.sub0 (Blk.at (Star.blkAt 2 hst rfl)) 0 2) rfl (nO rfl rfl hst)) (opsS_cons (fun f w_ _ _ s _ _ hst=>mF ((s 5 rfl).trans sf5) rfl (nO rfl rfl hst)) (opsS_cons ?_ ?_)))
 intro f w_ H156 X156 hS156 hE156 hP156 hst
 have hst : Star H156 w_ (oF 43 (rCon 112) r32_0 x19.1 :: oF 112 rTerm v88_g69_0 g69_0_88 :: box g69 43 #[v88_g69_0,I g69_1_90] :: box g3 43 #[S0,I 0] :: box r7_0 119 #[r7_1,I b79.2] :: X156):=hst
 have hst:=hst.get 4 rfl
 obtain ⟨H163b,l164,s165,z166,k167⟩:=hst.lend [_]
 refine L_call rfl Try.call68 (ops1 (hP156 2 38 rfl rfl)) (s_l5Fuel_c (r_:=({ b:=x5.b,p:=b79.2 } : Rd)) s165 (RP.mono _ hr7_1 (Le.trans (Le.trans (Le.trans (Le.trans l30 l32) l92) hE156) l164)) hx153) ?_
 rintro _ w168 ⟨rfl,hst⟩
 have hst:=k167 hst (cb c0)
 have hst:=hst.gets [4,4,4,4] rfl
 exact L_nil ⟨rfl,_,_,rfl,Le.refl _,fun _ _=>rfl,hst⟩
 refine opsS_cons (fun f w_ _ _ _ _ p hst=>aF (p 0 36 rfl rfl) rfl (nO rfl rfl hst)) (opsS_nil)
 have hst : Star H156 w_ (oF 43 (rCon 112) r32_0 x19.1 :: oF 112 rTerm v88_g69_0 g69_0_88 :: box g69 43 #[v88_g69_0,I g69_1_90] :: box g3 43 #[S0,I 0] :: box r7_0 119 #[r7_1,I x153.2] :: R):=hst
 refine L_staB (vs:=#[v88_g69_0,I g69_1_90]) (cs2:=#[v88_g69_0,I g69_1_90]) 3 rfl Try.sizeOf43 ((hS156 3 rfl).trans sf3) (hT156 1 37 rfl rfl) rfl (ones_cons (one_len (Star.len 1 hst rfl)) (ones_cons rfl ones_nil)) hst rfl (by show 0 + 2≤2; decide) rfl (fun w169 hst=>aF (hT156 3 39 rfl rfl) rfl (nn (W_ret (retG3 (v1:=r32_0) (v2:=.agg #[v88_g69_0,I g69_1_90]) (v3:=I x153.1) Try.results26 (hT156 4 2 rfl rfl) (resV_agg Try.isAgg43 Try.sizeOf43 ((hS156 3 rfl).trans sf3) (Star.blkAt 0 hst rfl) rfl) rfl ?_))))
 obtain rfl:=so hF
 have hst:=hst.gets [2,2] rfl
 have hst:=Star.drop 2 hst rfl
 have hst:=Star.drop 2 hst rfl
 have hst:=Star.drop 2 hst rfl
 exact ⟨H156,(Le.trans (Le.trans (Le.trans (Le.trans l7 l30) l32) l92) hE156),r32_0,v88_g69_0,rfl,hst⟩
theorem i_Constraint_total_c {c : Con} {v0_0 : Value} {H : FH} {w : World} (hst : Star H w []) (h0_0 : (rS 112 rTerm).rel H [v0_0] c.terms) {r : Int} (hF : i_Constraint_total c = some r) :
 C Try.prog 118 #[.agg #[v0_0,I c.bound]] w fun v w'=>v = I r∧Star H w' []:=by
 unfold i_Constraint_total at hF
 refine C_enter Try.func118 rfl Try.ntmps118 rfl (sq (L_box (v:=.agg #[v0_0,I c.bound]) (cs:=#[v0_0,I c.bound]) rfl rfl rfl hst (fun g3 w4 hst=>aI rfl (ns (aI rfl (nq (sq (fA 0 fa_43_0 rfl rfl (ldB 0 hst Try.isAgg41 rfl rfl rfl (L_len rfl Try.underlying41 rfl (slice_len h0_0) (mI rfl (nn ?_))))))))))))
 have hlen7 : List.length c.terms≤9223372036854775807:=len_le (slice_len h0_0)
 obtain ⟨j7,hL7,hF⟩:=bind_some hF
 obtain ⟨R7,hR7⟩:=exR fun f w_=>∃ sum_6 : Int,j7 = .nx sum_6∧f 3 = I sum_6∧Star H w_ ([])
 refine W_join R7 ?_ ?_
 refine W_block ?_
 obtain ⟨I7,hI7⟩:=exI fun n f w_=>∃ i_5 : Nat,∃ suf7 : List Term,∃ sum_6 : Int,n = suf7.length∧List.drop i_5 c.terms = suf7∧i_5 + suf7.length = c.terms.length∧rangeL i_Constraint_total_b1 suf7 i_5 sum_6 = some j7∧f 3 = I sum_6∧f 7 = v0_0∧f 8 = I (c.terms.length : Int)∧f 9 = I i_5∧Star H w_ ([])
 refine W_loop I7 (n:=c.terms.length) ?_ ?_
 exact ij hI7 ⟨0,c.terms,0,rfl,rfl,Nat.zero_add _,hL7,rfl,rfl,rfl,rfl,(Star.keepN 0 hst)⟩
 intro n7 f w_ hI
 obtain ⟨i_5,suf7,sum_6,rfl,hd7,hl7,hL7,sf3,sf7,sf8,sf9,hst⟩:=ik hI7 hI
 refine sq (L_lss rfl sf9 sf8 (nq (W_cond (b:=decide ((i_5 : Int) < (c.terms.length : Int))) rfl (fun hc8=>?_) (fun hc8=>?_))))
 have hlt7:=of_decide_eq_true hc8
 rcases suf7 with _ | ⟨x_7,rest7⟩
 exact absurd hlt7 (by simp at hl7; omega)
 obtain ⟨o7,hB7,hL7⟩:=range_cons hL7
 rw [i_Constraint_total_b1] at hB7
 have hix7:=drop_idx hd7
 refine W_skip (W_seq (W_block (sq (L_ix (r:=rTerm) rfl Try.underlying41 Try.sizeOf112 sf7 h0_0 sf9 hix7 (fun g16 o17 cs_g16 hrk_hat18 hat18=>?_)))))
 obtain rfl:=rTerm_iff.1 hrk_hat18
 refine L_lda (cs:=[I x_7.coef,I x_7.lit]) rfl Try.isAgg112 Try.sizeOf112 rfl (At.sub (AtH.at hat18 hst.sub) 0 2) rfl (L_al (cs:=#[I 0,I 0]) rfl Try.zeroValue112 rfl hst (fun g20 w21 hst=>L_staB (vs:=#[I x_7.coef,I x_7.lit]) (cs2:=#[I x_7.coef,I x_7.lit]) 0 rfl Try.sizeOf112 rfl rfl rfl (ones_cons rfl (ones_cons rfl ones_nil)) hst rfl (by show 0 + 2≤2; decide) rfl (fun w22 hst=>nn (W_region (mF sf3 rfl (fA 0 fa_112_0 rfl rfl (ldB 0 hst Try.isAgg3 rfl rfl rfl (L_add rfl rfl rfl (aI rfl (nn (W_region (L_add rfl sf9 rfl (mI rfl (nn ?_))))))))))))))
 obtain rfl:=so hB7
 show ∃ m,m < _∧I7 m _ _
 refine ⟨rest7.length,by simp,?_⟩
 exact ij hI7 ⟨i_5 + 1,rest7,i64 (sum_6 + x_7.coef),rfl,drop_next hd7,by simp at hl7; omega,hL7,rfl,sf7,sf8,(Eq.trans rfl (congrArg (Value.int .i64) (i64_succ (n:=c.terms.length) (by simp at hl7; omega) hlen7))),(Star.keepN 0 hst)⟩
 rcases suf7 with _ | ⟨_,_⟩
 obtain rfl:=range_nil hL7
 refine W_exit (rj hR7 ⟨sum_6,rfl,sf3,hst⟩)
 exact absurd (of_decide_eq_false hc8) (by simp at hl7; omega)
 intro f w_ hR
 obtain ⟨sum_6,rfl,sf3,hst⟩:=rk hR7 hR
 refine sq (mF sf3 rfl (aI rfl (nn (W_ret (retG1 (v1:=I sum_6) Try.results118 rfl ?_)))))
 obtain rfl:=so hF
 exact ⟨rfl,hst⟩
theorem i_Constraint_negation_c {c : Con} {v0_0 : Value} {H : FH} {w : World} (hst : Star H w []) (h0_0 : (rS 112 rTerm).rel H [v0_0] c.terms) {r : Con} (hF : i_Constraint_negation c = some r) :
 C Try.prog 78 #[.agg #[v0_0,I c.bound]] w fun v w'=>∃ (u1 : Value),v = .agg #[u1,I r.bound]∧Star H w' [oF 112 rTerm u1 r.terms]:=by
 unfold i_Constraint_negation at hF
 refine C_enter Try.func78 rfl Try.ntmps78 rfl (sq (L_box (v:=.agg #[v0_0,I c.bound]) (cs:=#[v0_0,I c.bound]) rfl rfl rfl hst (fun g5 w6 hst=>L_al (cs:=#[S0,I 0]) rfl Try.zeroValue43 rfl hst (fun g7 w8 hst=>nq ?_))))
 obtain ⟨x14,hx14,hF⟩:=bind_some hF
 refine W_drawS 9 [isV (.agg #[v0_0,I c.bound]),isV (I x14),isV (Pq g5 1),isV (I c.bound),isV (I (i64 (x14 - c.bound))),isV (I (i64 ((i64 (x14 - c.bound)) + 1))),isV (I (max 0 (i64 ((i64 (x14 - c.bound)) + 1)))),isV (.agg #[S0,I (max 0 (i64 ((i64 (x14 - c.bound)) + 1)))]),anyF] [box g7 43 #[S0,I 0],box g5 43 #[v0_0,I c.bound]] [.made 8 3 (fun v_=>boxV v_ 43 #[S0,I 0]) none] ([]) [([],[]),([],[]),([],[]),([],[]),([],[]),([],[]),([],[]),([],[]),([],[0])] (S:=[(some 8,[3],none)]) Try_mix (by kernel_rfl) rfl (by kernel_rfl) (amF_cons (mono_V _) (amF_cons (mono_V _) (amF_cons (mono_V _) (amF_cons (mono_V _) (amF_cons (mono_V _) (amF_cons (mono_V _) (amF_cons (mono_V _) (amF_cons (mono_V _) (amF_cons (mono_any) amF_nil))))))))) hst ?_ (fun f w_ H19 hS19 hE19 hT19 hst=>?_)
 refine opsS_cons (fun f w_ _ _ s _ _ hst=>L_lda (cs:=[v0_0,I c.bound]) rfl Try.isAgg43 Try.sizeOf43 ((s 1 rfl).trans rfl) (At.sub0 (Blk.at (Star.blkAt 1 hst rfl)) 0 2) rfl (nO rfl rfl hst)) (opsS_cons ?_ ?_)
 intro f w_ H19 X19 hS19 hE19 hP19 hst
 obtain ⟨H28b,l29,s30,z31,k32⟩:=hst.borrow
 refine L_call rfl Try.call118 (ops1 (hP19 0 6 rfl rfl)) (i_Constraint_total_c (c:=c) s30 (RP.mono _ h0_0 (Le.trans hE19 l29)) hx14) ?_
 rintro _ w33 ⟨rfl,hst⟩
 have hst:=k32 hst c0
 exact L_nil ⟨rfl,_,_,rfl,Le.refl _,fun _ _=>rfl,hst⟩
 refine opsS_cons (fun f w_ _ _ s _ _ hst=>fA 1 fa_43_1 ((s 1 rfl).trans rfl) rfl (nO rfl rfl hst)) (opsS_cons (fun f w_ _ _ _ _ p hst=>ldB 1 hst Try.isAgg3 (p 2 8 rfl rfl) rfl rfl (nO rfl rfl hst)) (opsS_cons (fun f w_ _ _ _ _ p hst=>L_sub rfl (p 1 7 rfl rfl) (p 3 9 rfl rfl) (nO rfl rfl hst)) (opsS_cons (fun f w_ _ _ _ _ p hst=>L_add rfl (p 4 10 rfl rfl) rfl (nO rfl rfl hst)) (opsS_cons (fun f w_ _ _ _ _ p hst=>L_max rfl rfl (p 5 11 rfl rfl) (nO rfl rfl hst)) (opsS_cons (fun f w_ _ _ _ _ p hst=>L_bld rfl (parts1 (p 6 12 rfl rfl)) (bld_43_1 (I (max 0 (i64 ((i64 (x14 - c.bound)) + 1)))) rfl) (nO rfl rfl hst)) (opsS_cons ?_ ?_))))))
 intro f w_ H19 X19 hS19 hE19 hP19 hst
 refine L_al (cs:=#[S0,I 0]) rfl Try.zeroValue43 rfl hst (fun g34 w35 hst=>?_)
 have hst:=hst.gets [2,2,2] rfl
 have hst:=Star.boxV (v:=Pt g34) rfl hst
 have hst:=hst.gets [2,2] rfl
 exact L_nil ⟨rfl,_,_,rfl,Le.refl _,fun _ _=>trivial,hst⟩
 exact opsS_nil
 have hst : Star H19 w_ ([box g7 43 #[S0,I 0],box g5 43 #[v0_0,I c.bound],boxV (f 3) 43 #[S0,I 0]]):=hst
 obtain ⟨g36,hv36,hst⟩:=Star.unboxV (Star.get 2 hst rfl)
 refine L_staB (vs:=#[S0,I (max 0 (i64 ((i64 (x14 - c.bound)) + 1)))]) (cs2:=#[S0,I (max 0 (i64 ((i64 (x14 - c.bound)) + 1)))]) 0 rfl Try.sizeOf43 hv36 (hT19 7 13 rfl rfl) rfl (ones_cons rfl (ones_cons rfl ones_nil)) hst rfl (by show 0 + 2≤2; decide) rfl (fun w37 hst=>nq (sq (fA 0 fa_43_0 ((hS19 1 rfl).trans rfl) rfl (ldB 2 hst Try.isAgg41 rfl rfl rfl (L_len rfl Try.underlying41 rfl (slice_len (RP.mono _ h0_0 hE19)) (mI rfl (nn ?_)))))))
 have hlen41 : List.length c.terms≤9223372036854775807:=len_le (slice_len (RP.mono _ h0_0 hE19))
 obtain ⟨j41,hL41,hF⟩:=bind_some hF
 obtain ⟨R41,hR41⟩:=exR fun f w_=>∃ g36_0_39 : List Term,∃ v39_g36_0 : Value,j41 = .nx g36_0_39∧f 2 = Pt g7∧f 3 = Pt g36∧Star H19 w_ ([oF 112 rTerm v39_g36_0 g36_0_39,box g36 43 #[v39_g36_0,I (max 0 (i64 ((i64 (x14 - c.bound)) + 1)))],box g7 43 #[S0,I 0]])
 refine W_join R41 ?_ ?_
 refine W_block ?_
 obtain ⟨I41,hI41⟩:=exI fun n f w_=>∃ i_38 : Nat,∃ suf41 : List Term,∃ g36_0_39 : List Term,∃ v39_g36_0 : Value,n = suf41.length∧List.drop i_38 c.terms = suf41∧i_38 + suf41.length = c.terms.length∧rangeL i_Constraint_negation_b1 suf41 i_38 g36_0_39 = some j41∧f 2 = Pt g7∧f 3 = Pt g36∧f 15 = v0_0∧f 16 = I (c.terms.length : Int)∧f 17 = I i_38∧Star H19 w_ ([oF 112 rTerm v39_g36_0 g36_0_39,box g36 43 #[v39_g36_0,I (max 0 (i64 ((i64 (x14 - c.bound)) + 1)))],box g7 43 #[S0,I 0]])
 have hst:=Star.addNil (R:=(OR.frz rTerm)) (e:=112) hst
 refine W_loop I41 (n:=c.terms.length) ?_ ?_
 exact ij hI41 ⟨0,c.terms,[],S0,rfl,rfl,Nat.zero_add _,hL41,((hS19 2 rfl).trans rfl),hv36,rfl,rfl,rfl,(Star.keepN 3 hst)⟩
 intro n41 f w_ hI
 obtain ⟨i_38,suf41,g36_0_39,v39_g36_0,rfl,hd41,hl41,hL41,sf2,sf3,sf15,sf16,sf17,hst⟩:=ik hI41 hI
 refine sq (L_lss rfl sf17 sf16 (nq (W_cond (b:=decide ((i_38 : Int) < (c.terms.length : Int))) rfl (fun hc43=>?_) (fun hc43=>?_))))
 have hlt41:=of_decide_eq_true hc43
 rcases suf41 with _ | ⟨x_41,rest41⟩
 exact absurd hlt41 (by simp at hl41; omega)
 obtain ⟨o41,hB41,hL41⟩:=range_cons hL41
 rw [i_Constraint_negation_b1] at hB41
 have hix41:=drop_idx hd41
 refine W_skip (W_seq (W_block (sq (L_ix (r:=rTerm) rfl Try.underlying41 Try.sizeOf112 sf15 (RP.mono _ h0_0 hE19) sf17 hix41 (fun g51 o52 cs_g51 hrk_hat53 hat53=>?_)))))
 obtain rfl:=rTerm_iff.1 hrk_hat53
 refine L_lda (cs:=[I x_41.coef,I x_41.lit]) rfl Try.isAgg112 Try.sizeOf112 rfl (At.sub (AtH.at hat53 hst.sub) 0 2) rfl (L_al (cs:=#[I 0,I 0]) rfl Try.zeroValue112 rfl hst (fun g55 w56 hst=>L_staB (vs:=#[I x_41.coef,I x_41.lit]) (cs2:=#[I x_41.coef,I x_41.lit]) 0 rfl Try.sizeOf112 rfl rfl rfl (ones_cons rfl (ones_cons rfl ones_nil)) hst rfl (by show 0 + 2≤2; decide) rfl (fun w57 hst=>nn ?_)))
 obtain ⟨x61,hx61,hB41⟩:=bind_some hB41
 refine W_region (fA 0 fa_43_0 sf3 rfl (ldB 2 hst Try.isAgg41 rfl rfl rfl (fA 0 fa_112_0 rfl rfl (ldB 0 hst Try.isAgg3 rfl rfl rfl (fA 1 fa_112_1 rfl rfl (ldB 0 hst Try.isAgg3 rfl rfl rfl (L_neg rfl rfl (L_bld rfl (parts2 rfl rfl) (bld_112_0_1 (I x_41.coef) (I (i64 (-x_41.lit))) rfl rfl) (L_bs rfl (parts1 rfl) (bs_41_1_2 (I x_41.coef) (I (i64 (-x_41.lit))) ) hst (fun g66 w67 hst=>?_))))))))))
 have hst:=Star.addF (r:=rTerm) (cs:=[I x_41.coef,I (i64 (-x_41.lit))]) (x:=({ coef:=x_41.coef,lit:=i64 (-x_41.lit) } : Term)) hst (rTerm_iff.2 rfl)
 have hst:=Star.mkRow (R:=(OR.frz rTerm)) [([I x_41.coef,I (i64 (-x_41.lit))],({ coef:=x_41.coef,lit:=i64 (-x_41.lit) } : Term))] [({ coef:=x_41.coef,lit:=i64 (-x_41.lit) } : Term)] 1 hst rfl rfl rfl (by decide)
 have hst:=hst.get 2 rfl
 refine L_appM (v:=v39_g36_0) (u:=(Sl g66 1 1)) rfl et_41 rfl rfl hst hx61 (fun v69 w70 hst=>fA 0 fa_43_0 sf3 rfl (L_stB (v:=v69) (cs2:=#[v69,I (max 0 (i64 ((i64 (x14 - c.bound)) + 1)))]) 2 rfl Try.sizeOf41 rfl rfl (one_len (Star.len 0 hst rfl)) hst rfl rfl rfl (fun w72 hst=>nn (W_region (L_add rfl sf17 rfl (mI rfl (nn ?_)))))))
 obtain rfl:=so hB41
 have hst:=hst.gets [3,1,2] rfl
 show ∃ m,m < _∧I41 m _ _
 refine ⟨rest41.length,by simp,?_⟩
 exact ij hI41 ⟨i_38 + 1,rest41,x61,v69,rfl,drop_next hd41,by simp at hl41; omega,hL41,sf2,sf3,sf15,sf16,(Eq.trans rfl (congrArg (Value.int .i64) (i64_succ (n:=c.terms.length) (by simp at hl41; omega) hlen41))),(Star.keepN 3 hst)⟩
 rcases suf41 with _ | ⟨_,_⟩
 obtain rfl:=range_nil hL41
 refine W_exit (rj hR41 ⟨g36_0_39,v39_g36_0,rfl,sf2,sf3,hst⟩)
 exact absurd (of_decide_eq_false hc43) (by simp at hl41; omega)
 intro f w_ hR
 obtain ⟨g36_0_39,v39_g36_0,rfl,sf2,sf3,hst⟩:=rk hR41 hR
 refine sq (L_lda (cs:=[v39_g36_0,I (max 0 (i64 ((i64 (x14 - c.bound)) + 1)))]) rfl Try.isAgg43 Try.sizeOf43 sf3 (At.sub0 (Blk.at (Star.blkAt 1 hst rfl)) 0 2) rfl (L_staB (vs:=#[v39_g36_0,I (max 0 (i64 ((i64 (x14 - c.bound)) + 1)))]) (cs2:=#[v39_g36_0,I (max 0 (i64 ((i64 (x14 - c.bound)) + 1)))]) 2 rfl Try.sizeOf43 sf2 rfl rfl (ones_cons (one_len (Star.len 0 hst rfl)) (ones_cons rfl ones_nil)) hst rfl (by show 0 + 2≤2; decide) rfl (fun w74 hst=>nn (W_ret (retG1 (v1:=.agg #[v39_g36_0,I (max 0 (i64 ((i64 (x14 - c.bound)) + 1)))]) Try.results78 (resV_agg Try.isAgg43 Try.sizeOf43 sf2 (Star.blkAt 0 hst rfl) rfl) ?_)))))
 obtain rfl:=so hF
 have hst:=hst.get 1 rfl
 exact ⟨v39_g36_0,rfl,(Star.down (Star.keepN 1 hst) hE19 (co closed_term c0))⟩
theorem i_ProveConstraint_c {fu : Nat} {list : List Con} {c : Con} {fuel : Int} {v0 : Value} {v1_0 : Value} {H : FH} {w : World} (hst : Star H w []) (h0 : (rS 43 (rCon 112)).rel H [v0] list) (h1_0 : (rS 112 rTerm).rel H [v1_0] c.terms) {r : Int × (List Bool) × (List Step)} (hF : i_ProveConstraint fu list c fuel = some r) :
 C Try.prog 28 #[v0,.agg #[v1_0,I c.bound],I fuel] w fun v w'=>∃ (u1 : Value) (u2 : Value),v = .tuple #[I r.1,u1,u2]∧Star H w' [oF 4 RP.bool u1 r.2.1,oS 93 (oStep 112) u2 r.2.2]:=by
 unfold i_ProveConstraint at hF
 refine C_enter Try.func28 rfl Try.ntmps28 rfl (sq (L_box (v:=.agg #[v1_0,I c.bound]) (cs:=#[v1_0,I c.bound]) rfl rfl rfl hst (fun g3 w4 hst=>aI rfl (aV S0 rfl (aV S0 rfl (nq (W_seq ?_)))))))
 obtain ⟨x10,hx10,hF⟩:=bind_some hF
 obtain ⟨R12,hR12⟩:=exR fun f w_=>f 0 = v0∧f 2 = I fuel∧f 4 = Pt g3∧f 16 = Bo ((!x10) || (decide ((list.length : Int) ≥ 400)))∧Star H w_ ([box g3 43 #[v1_0,I c.bound]])
 refine W_join R12 ?_ ?_
 refine W_region (L_lda (cs:=[v1_0,I c.bound]) rfl Try.isAgg43 Try.sizeOf43 rfl (At.sub0 (Blk.at (Star.blkAt 0 hst rfl)) 0 2) rfl ?_)
 obtain ⟨H13b,l14,s15,z16,k17⟩:=hst.borrow
 refine L_call rfl Try.call52 (ops1 rfl) (i_ConstraintValid_c (c:=c) s15 (RP.mono _ h1_0 l14) hx10) ?_
 rintro _ w18 ⟨rfl,hst⟩
 have hst:=k17 hst c0
 refine L_not_ rfl rfl (mB rfl (L_split (d:=12) (b:=(!x10)) rfl (fun hc19=>?_) (fun hc19=>?_)))
 refine ps rfl (ps rfl (ps rfl (L_pick (v:=Bo ((!x10) || (decide ((list.length : Int) ≥ 400)))) rfl rfl (or_t hc19) (nn (rj hR12 ⟨rfl,rfl,rfl,rfl,hst⟩)))))
 refine mV v0 rfl (L_len rfl Try.underlying23 rfl (slice_len h0) (L_geq rfl rfl rfl (L_pick (v:=Bo ((!x10) || (decide ((list.length : Int) ≥ 400)))) rfl rfl (or_f hc19 rfl) (nn (rj hR12 ⟨rfl,rfl,rfl,rfl,hst⟩)))))
 intro f w_ hR
 obtain ⟨sf0,sf2,sf4,sf16,hst⟩:=rk hR12 hR
 refine W_cond (b:=((!x10) || (decide ((list.length : Int) ≥ 400)))) sf16 (fun hc20=>?_) (fun hc20=>?_)
 have hF:=(ite_t hc20).symm.trans hF
 refine sq (aI rfl (aV S0 rfl (aV S0 rfl (nn (W_ret (retG3 (v1:=I 3) (v2:=S0) (v3:=S0) Try.results28 rfl rfl rfl ?_))))))
 obtain rfl:=so hF
 have hst:=Star.addNil (R:=(OR.frz RP.bool)) (e:=4) hst
 have hst:=Star.addNil (R:=(oStep 112)) (e:=93) hst
 have hst:=hst.get 1 rfl
 exact ⟨S0,S0,rfl,(Star.keepN 2 hst)⟩
 have hF:=(ite_f hc20).symm.trans hF
 refine W_skip (W_seq ?_)
 obtain ⟨x23,hx23,hF⟩:=bind_some hF
 obtain ⟨x31,hx31,hF⟩:=bind_some hF
 obtain ⟨x37,hx37,hF⟩:=bind_some hF
 obtain ⟨x49,hx49,hF⟩:=bind_some hF
 refine W_drawS 11 [isV (v0),anyF,isV (.agg #[v1_0,I c.bound]),exA fun u_0=>isV (.agg #[u_0,I x31.bound]),anyF,anyF,isV (I fuel),tup3 (isV (I x49.1)) (anyF) (anyF),isV (I x49.1),anyF,anyF] [box g3 43 #[v1_0,I c.bound]] [.made 1 18 (fun v_=>oF 43 (rCon 112) v_ x23) (some 5),.made 3 20 (fun v_=>oF 112 rTerm (aggC v_ 0) x31.terms) (some 4),.made 4 21 (fun v_=>oS 43 (oCon 112) v_ ([x31])) (some 5),.made 5 22 (fun v_=>oF 43 (rCon 112) v_ x37) none,.made 7 24 (fun v_=>oF 4 RP.bool (tupC v_ 1) x49.2.1) (some 9),.made 7 24 (fun v_=>oS 93 (oStep 112) (tupC v_ 2) x49.2.2) (some 10),.made 9 26 (fun v_=>oF 4 RP.bool v_ x49.2.1) none,.made 10 27 (fun v_=>oS 93 (oStep 112) v_ x49.2.2) none] ([]) [([],[]),([],[0]),([],[]),([],[1]),([1],[2]),([0,2],[3]),([],[]),([3],[3,4,5]),([],[]),([4],[6]),([5],[7])] (S:=[(some 1,[18],some 5),(some 3,[20],some 4),(some 4,[21],some 5),(some 5,[22],none),(some 7,[24],some 9),(some 7,[24],some 10),(some 9,[26],none),(some 10,[27],none)]) Try_mix (by kernel_rfl) rfl (by kernel_rfl) (amF_cons (mono_V _) (amF_cons (mono_any) (amF_cons (mono_V _) (amF_cons (mono_exA fun _=>mono_V _) (amF_cons (mono_any) (amF_cons (mono_any) (amF_cons (mono_V _) (amF_cons (mono_tup3 (mono_V _) (mono_any) (mono_any)) (amF_cons (mono_V _) (amF_cons (mono_any) (amF_cons (mono_any) amF_nil))))))))))) hst ?_ (fun f w_ H53 hS53 hE53 hT53 hst=>?_)
 refine opsS_cons (fun f w_ _ _ s _ _ hst=>mF ((s 0 rfl).trans sf0) rfl (nO rfl rfl hst)) (opsS_cons ?_ ?_)
 intro f w_ H53 X53 hS53 hE53 hP53 hst
 refine L_call rfl Try.call66 (ops1 (hP53 0 17 rfl rfl)) (slices_Clone_implConstraint_c (s:=list) hst (RP.mono _ h0 hE53) hx23) ?_
 rintro r80_0 w80 ⟨H80,l80,_,rfl,hst⟩
 have hst:=hst.get 1 rfl
 exact L_nil ⟨rfl,_,_,rfl,l80,fun _ _=>trivial,hst⟩
 refine opsS_cons (fun f w_ _ _ s _ _ hst=>L_lda (cs:=[v1_0,I c.bound]) rfl Try.isAgg43 Try.sizeOf43 ((s 4 rfl).trans sf4) (At.sub0 (Blk.at (Star.blkAt 0 hst rfl)) 0 2) rfl (nO rfl rfl hst)) (opsS_cons ?_ ?_)
 intro f w_ H53 X53 hS53 hE53 hP53 hst
 obtain ⟨H82b,l83,s84,z85,k86⟩:=hst.borrow
 refine L_call rfl Try.call78 (ops1 (hP53 2 19 rfl rfl)) (i_Constraint_negation_c (c:=c) s84 (RP.mono _ h1_0 (Le.trans hE53 l83)) hx31) ?_
 rintro _ w87 ⟨r87_0,rfl,hst⟩
 have hst:=k86 hst (co closed_term c0)
 have hst:=hst.get 1 rfl
 exact L_nil ⟨rfl,_,_,rfl,Le.refl _,fun _ _=>⟨_,rfl⟩,hst⟩
 refine opsS_cons ?_ ?_
 intro f w_ H53 X53 hS53 hE53 hP53 hst
 have hst : Star H53 w_ (box g3 43 #[v1_0,I c.bound] :: own (OR.ownS 112 (OR.frz rTerm)) [(aggC (f 20) 0)] x31.terms :: X53):=hst
 obtain ⟨u89_0,hv89⟩:=(hP53 3 20 rfl rfl)
 have hren : Star H53 w_ (box g3 43 #[v1_0,I c.bound] :: own (OR.ownS 112 (OR.frz rTerm)) [(aggC (f 20) 0)] x31.terms :: X53):=hst
 rw [hv89] at hren
 have hst : Star H53 w_ (box g3 43 #[v1_0,I c.bound] :: oF 112 rTerm u89_0 x31.terms :: X53):=hren
 refine L_bs rfl (parts1 hv89) (bs_23_1_2 (u89_0) (I x31.bound) ) hst (fun g90 w91 hst=>?_)
 have hst:=hst.get 2 rfl
 have hst:=oCon_close (c:=x31) hst
 have hst:=Star.mkRow (R:=(oCon 112)) [([u89_0,I x31.bound],x31)] [x31] 1 hst rfl rfl rfl (by decide)
 have hst:=hst.get 1 rfl
 exact L_nil ⟨rfl,_,_,rfl,Le.refl _,fun _ _=>trivial,hst⟩
 refine opsS_cons ?_ ?_
 intro f w_ H53 X53 hS53 hE53 hP53 hst
 have hst : Star H53 w_ (box g3 43 #[v1_0,I c.bound] :: oF 43 (rCon 112) (f 18) x23 :: oS 43 (oCon 112) (f 21) ([x31]) :: X53):=hst
 have hst:=hst.get 2 rfl
 obtain ⟨H95,l96,hst⟩:=Star.shallow hst
 have hst : Star H95 w_ (oF 43 (rCon 112) (f 21) ([x31]) :: _):=hst
 have hst:=hst.get 2 rfl
 refine L_appM (v:=(f 18)) (u:=(f 21)) rfl et_23 rfl rfl hst hx37 (fun v97 w98 hst=>?_)
 have hst:=hst.get 1 rfl
 exact L_nil ⟨rfl,_,_,rfl,l96,fun _ _=>trivial,hst⟩
 refine opsS_cons (fun f w_ _ _ s _ _ hst=>mF ((s 2 rfl).trans sf2) rfl (nO rfl rfl hst)) (opsS_cons ?_ ?_)
 intro f w_ H53 X53 hS53 hE53 hP53 hst
 have hst : Star H53 w_ (box g3 43 #[v1_0,I c.bound] :: oF 43 (rCon 112) (f 22) x37 :: X53):=hst
 obtain ⟨H101b,l102,s103,z104,k105⟩:=hst.borrow
 have hb106 : (rS 43 (rCon 112)).rel H101b [(f 22)] x37:=fz_own 1 z104 rfl
 refine L_call rfl Try.call17 (ops2 rfl (hP53 6 23 rfl rfl)) (i_SolveProblem_c (list:=x37) (fuel:=fuel) s103 hb106 hx49) ?_
 rintro _ w107 ⟨r107_0,r107_1,rfl,hst⟩
 have hst:=k105 hst (co closed_bool (co closed_oStep c0))
 have hst:=hst.gets [1,1,3,3] rfl
 exact L_nil ⟨rfl,_,_,rfl,Le.refl _,fun _ _=>⟨_,_,_,rfl,rfl,trivial,trivial⟩,hst⟩
 refine opsS_cons ?_ ?_
 intro f w_ H53 X53 hS53 hE53 hP53 hst
 obtain ⟨a110_0,a110_1,a110_2,hv110,ht110_0,ht110_1,ht110_2⟩:=(hP53 7 24 rfl rfl)
 obtain rfl:=ht110_0
 refine L_ex (v:=I x49.1) rfl hv110 rfl (L_nil ⟨rfl,_,_,rfl,Le.refl _,fun _ _=>rfl,hst⟩)
 refine opsS_cons ?_ ?_
 intro f w_ H53 X53 hS53 hE53 hP53 hst
 have hst : Star H53 w_ (box g3 43 #[v1_0,I c.bound] :: own (OR.ownS 4 (OR.frz RP.bool)) [(tupC (f 24) 1)] x49.2.1 :: X53):=hst
 obtain ⟨a111_0,a111_1,a111_2,hv111,ht111_0,ht111_1,ht111_2⟩:=(hP53 7 24 rfl rfl)
 obtain rfl:=ht111_0
 have hren : Star H53 w_ (box g3 43 #[v1_0,I c.bound] :: own (OR.ownS 4 (OR.frz RP.bool)) [(tupC (f 24) 1)] x49.2.1 :: X53):=hst
 rw [hv111] at hren
 have hst : Star H53 w_ (box g3 43 #[v1_0,I c.bound] :: oF 4 RP.bool a111_1 x49.2.1 :: X53):=hren
 refine L_ex (v:=a111_1) rfl hv111 rfl (L_nil ⟨rfl,_,_,rfl,Le.refl _,fun _ _=>trivial,hst⟩)
 refine opsS_cons ?_ ?_
 intro f w_ H53 X53 hS53 hE53 hP53 hst
 have hst : Star H53 w_ (box g3 43 #[v1_0,I c.bound] :: own (OR.ownS 93 (oStep 112)) [(tupC (f 24) 2)] x49.2.2 :: X53):=hst
 obtain ⟨a112_0,a112_1,a112_2,hv112,ht112_0,ht112_1,ht112_2⟩:=(hP53 7 24 rfl rfl)
 obtain rfl:=ht112_0
 have hren : Star H53 w_ (box g3 43 #[v1_0,I c.bound] :: own (OR.ownS 93 (oStep 112)) [(tupC (f 24) 2)] x49.2.2 :: X53):=hst
 rw [hv112] at hren
 have hst : Star H53 w_ (box g3 43 #[v1_0,I c.bound] :: oS 93 (oStep 112) a112_2 x49.2.2 :: X53):=hren
 refine L_ex (v:=a112_2) rfl hv112 rfl (L_nil ⟨rfl,_,_,rfl,Le.refl _,fun _ _=>trivial,hst⟩)
 exact opsS_nil
 have hst : Star H53 w_ ([box g3 43 #[v1_0,I c.bound],oF 43 (rCon 112) (f 22) x37,oF 4 RP.bool (f 26) x49.2.1,oS 93 (oStep 112) (f 27) x49.2.2]):=hst
 refine aF (hT53 8 25 rfl rfl) rfl (aV (f 26) rfl (aV (f 27) rfl (nn (W_ret (retG3 (v1:=I x49.1) (v2:=(f 26)) (v3:=(f 27)) Try.results28 rfl rfl rfl ?_)))))
 obtain rfl:=so hF
 have hst:=hst.gets [3,3] rfl
 exact ⟨(f 26),(f 27),rfl,(Star.down (Star.keepN 2 hst) hE53 (co closed_bool (co closed_oStep c0)))⟩
end Go.Proofs.Yteeilbddjlpiaaa

/- Part of a proof by program: W4. -/
import Derived.Test.YtbjllamkfmejlaaGreatD1
import Derived.Test.YtbjllamkfmejlaaGreatW3
namespace Go.Proofs.YtbjllamkfmejlaaGreat
open Go Go.E Go.L Go.RowKit
set_option linter.unusedVariables false
set_option linter.unusedSimpArgs false
set_option maxRecDepth 100000
theorem s_EncodeModel_c {fu : Nat} {m : Model} {v0_0 : Value} {v0_1 : Value} {H : FH} {w : World} (hst : Star H w []) (h0_0 : (rS 3 RP.int).rel H [v0_0] m.sizes) (h0_1 : (rS 79 (rRule 3 23)).rel H [v0_1] m.rules) {r : (List Con) × Bool} (hF : s_EncodeModel fu m = some r) :
 C Tryz.prog 14 #[.agg #[v0_0,v0_1]] w fun v w'=>∃ (u1 : Value),v = .tuple #[u1,Bo r.2]∧Star H w' [oS 73 (oCon 122) u1 r.1]:=by
 unfold s_EncodeModel at hF
 refine C_enter Tryz.func14 rfl Tryz.ntmps14 rfl (sq (L_box (v:=.agg #[v0_0,v0_1]) (cs:=#[v0_0,v0_1]) rfl rfl rfl hst (fun g3 w4 hst=>aV S0 rfl (aB rfl (nq (W_seq ?_))))))
 obtain ⟨x10,hx10,hF⟩:=bind_some hF
 refine W_region (L_lda (cs:=[v0_0,v0_1]) rfl Tryz.isAgg26 Tryz.sizeOf26 rfl (At.sub0 (Blk.at (Star.blkAt 0 hst rfl)) 0 2) rfl ?_)
 obtain ⟨H12b,l13,s14,z15,k16⟩:=hst.borrow
 refine L_call rfl Tryz.call51 (ops1 rfl) (s_ModelValid_c (m:=m) s14 (RP.mono _ h0_0 l13) (RP.mono _ h0_1 l13) hx10) ?_
 rintro _ w17 ⟨rfl,hst⟩
 have hst:=k16 hst c0
 refine L_not_ rfl rfl (nn (W_cond (b:=(!x10)) rfl (fun hc18=>?_) (fun hc18=>?_)))
 have hF:=(ite_t hc18).symm.trans hF
 refine sq (L_bs rfl parts0 (bs_28_0  ) hst (fun g22 w23 hst=>?_))
 have hst:=Star.mkRow (R:=(OR.frz (rCon 122))) [] [] 0 hst rfl rfl rfl (by decide)
 refine aV (Sl g22 0 0) rfl (aB rfl (nn (W_ret (retG2 (v1:=(Sl g22 0 0)) (v2:=Bo false) Tryz.results14 rfl rfl ?_))))
 obtain rfl:=so hF
 have hst:=Star.recast (R:=(OR.frz (rCon 122))) (R':=(oCon 122)) rfl hst
 exact ⟨(Sl g22 0 0),rfl,(Star.keepN 1 hst)⟩
 have hF:=(ite_f hc18).symm.trans hF
 refine W_skip (sq (L_bs rfl parts0 (bs_28_0  ) hst (fun g28 w29 hst=>?_)))
 have hst:=Star.mkRow (R:=(OR.frz (rCon 122))) [] [] 0 hst rfl rfl rfl (by decide)
 refine aV (Sl g28 0 0) rfl (nq (sq (aI rfl (nn ?_))))
 have hlen34 : List.length m.sizes≤9223372036854775807:=len_le (slice_len h0_0)
 obtain ⟨j34,hL34,hF⟩:=bind_some hF
 obtain ⟨R34,hR34⟩:=exR fun f w_=>∃ out_32 : List Con,∃ v32_out : Value,j34 = .nx out_32∧f 1 = Pt g3∧f 4 = v32_out∧Star H w_ ([oS 73 (oCon 122) v32_out out_32,box g3 26 #[v0_0,v0_1]])
 refine W_join R34 ?_ ?_
 refine W_block ?_
 obtain ⟨I34,hI34⟩:=exI fun n f w_=>∃ i_31 : Nat,∃ suf34 : List Int,∃ out_32 : List Con,∃ v32_out : Value,n = suf34.length∧List.drop i_31 m.sizes = suf34∧i_31 + suf34.length = m.sizes.length∧rangeL (s_EncodeModel_b1 m) suf34 i_31 out_32 = some j34∧f 1 = Pt g3∧f 4 = v32_out∧f 5 = I i_31∧Star H w_ ([oS 73 (oCon 122) v32_out out_32,box g3 26 #[v0_0,v0_1]])
 have hst:=Star.recast (R:=(OR.frz (rCon 122))) (R':=(oCon 122)) rfl hst
 refine W_loop I34 (n:=m.sizes.length) ?_ ?_
 exact ij hI34 ⟨0,m.sizes,[],(Sl g28 0 0),rfl,rfl,Nat.zero_add _,hL34,rfl,rfl,rfl,hst⟩
 intro n34 f w_ hI
 obtain ⟨i_31,suf34,out_32,v32_out,rfl,hd34,hl34,hL34,sf1,sf4,sf5,hst⟩:=ik hI34 hI
 refine W_seq (sq (mF sf5 rfl (fA 0 fa_26_0 sf1 rfl (ldB 1 hst Tryz.isAgg23 rfl rfl rfl (L_len rfl Tryz.underlying23 rfl (slice_len h0_0) (L_lss rfl rfl rfl (nn (W_cond (b:=decide ((i_31 : Int) < (m.sizes.length : Int))) rfl (fun hc35=>?_) (fun hc35=>?_)))))))))
 have hlt34:=of_decide_eq_true hc35
 rcases suf34 with _ | ⟨x_34,rest34⟩
 exact absurd hlt34 (by simp at hl34; omega)
 obtain ⟨o34,hB34,hL34⟩:=range_cons hL34
 rw [s_EncodeModel_b1] at hB34
 have hix34:=drop_idx hd34
 refine W_skip (W_seq (W_block ?_))
 obtain ⟨x41,hx41,hB34⟩:=bind_some hB34
 obtain ⟨x44,hx44,hB34⟩:=bind_some hB34
 refine W_region (mF sf4 rfl (L_lda (cs:=[v0_0,v0_1]) rfl Tryz.isAgg26 Tryz.sizeOf26 sf1 (At.sub0 (Blk.at (Star.blkAt 1 hst rfl)) 0 2) rfl (mF sf5 rfl ?_)))
 obtain ⟨H48b,l49,s50,z51,k52⟩:=hst.borrow
 refine L_call rfl Tryz.call52 (ops2 rfl rfl) (s_l7Cell_c (m:=m) (cell:=(i_31 : Int)) s50 (RP.mono _ h0_0 l49) (RP.mono _ h0_1 l49) hx41) ?_
 rintro r53_0 w53 ⟨_,rfl,hst⟩
 have hst:=k52 hst (co closed_oCon c0)
 have hst:=hst.get 1 rfl
 refine L_appM (v:=v32_out) (u:=r53_0) rfl et_28 rfl rfl hst hx44 (fun v55 w56 hst=>aV v55 rfl (nn (W_region (mF sf5 rfl (L_add rfl rfl rfl (aI rfl (nn ?_)))))))
 obtain rfl:=so hB34
 show ∃ m,m < _∧I34 m _ _
 refine ⟨rest34.length,by simp,?_⟩
 exact ij hI34 ⟨i_31 + 1,rest34,x44,v55,rfl,drop_next hd34,by simp at hl34; omega,hL34,sf1,rfl,(Eq.trans rfl (congrArg (Value.int .i64) (i64_succ (n:=m.sizes.length) (by simp at hl34; omega) hlen34))),hst⟩
 rcases suf34 with _ | ⟨_,_⟩
 obtain rfl:=range_nil hL34
 refine W_exit (rj hR34 ⟨out_32,v32_out,rfl,sf1,sf4,hst⟩)
 exact absurd (of_decide_eq_false hc35) (by simp at hl34; omega)
 intro f w_ hR
 obtain ⟨out_32,v32_out,rfl,sf1,sf4,hst⟩:=rk hR34 hR
 refine W_seq (sq (aI rfl (nn ?_)))
 have hlen63 : List.length m.rules≤9223372036854775807:=len_le (slice_len h0_1)
 obtain ⟨j63,hL63,hF⟩:=bind_some hF
 obtain ⟨R63,hR63⟩:=exR fun f w_=>∃ out_59 : List Con,∃ H61 : FH,∃ v59_out : Value,j63 = .nx out_59∧Le H H61∧f 4 = v59_out∧Star H61 w_ ([oS 73 (oCon 122) v59_out out_59])
 refine W_join R63 ?_ ?_
 refine W_block ?_
 obtain ⟨I63,hI63⟩:=exI fun n f w_=>∃ i_58 : Nat,∃ suf63 : List Rule,∃ out_59 : List Con,∃ H61 : FH,∃ v59_out : Value,n = suf63.length∧List.drop i_58 m.rules = suf63∧i_58 + suf63.length = m.rules.length∧rangeL (s_EncodeModel_b2 fu m) suf63 i_58 out_59 = some j63∧Le H H61∧f 1 = Pt g3∧f 4 = v59_out∧f 6 = I i_58∧Star H61 w_ ([oS 73 (oCon 122) v59_out out_59,box g3 26 #[v0_0,v0_1]])
 refine W_loop I63 (n:=m.rules.length) ?_ ?_
 exact ij hI63 ⟨0,m.rules,out_32,H,v32_out,rfl,rfl,Nat.zero_add _,hL63,(Le.refl _),sf1,sf4,rfl,hst⟩
 intro n63 f w_ hI
 obtain ⟨i_58,suf63,out_59,H61,v59_out,rfl,hd63,hl63,hL63,l62,sf1,sf4,sf6,hst⟩:=ik hI63 hI
 refine W_seq (sq (mF sf6 rfl (fA 1 fa_26_1 sf1 rfl (ldB 1 hst Tryz.isAgg24 rfl rfl rfl (L_len rfl Tryz.underlying24 rfl (slice_len (RP.mono _ h0_1 l62)) (L_lss rfl rfl rfl (nn (W_cond (b:=decide ((i_58 : Int) < (m.rules.length : Int))) rfl (fun hc64=>?_) (fun hc64=>?_)))))))))
 have hlt63:=of_decide_eq_true hc64
 rcases suf63 with _ | ⟨x_63,rest63⟩
 exact absurd hlt63 (by simp at hl63; omega)
 obtain ⟨o63,hB63,hL63⟩:=range_cons hL63
 rw [s_EncodeModel_b2] at hB63
 have hix63:=drop_idx hd63
 refine W_skip (W_seq (W_block ?_))
 obtain ⟨x74,hx74,hB63⟩:=bind_some hB63
 obtain ⟨x77,hx77,hB63⟩:=bind_some hB63
 refine W_drawS 8 [isV (v59_out),isV (.agg #[v0_0,v0_1]),isV (Pq g3 1),isV (v0_1),isV (I i_58),isEl (rRule 3 23) x_63 0,exD (isData (rS 3 RP.int) x_63.vars) fun u_1=>exD (isData (rS 3 RP.int) x_63.coefs) fun u_2=>exD (isData (rS 23 (rS 3 RP.int)) x_63.rows) fun u_4=>isV (.agg #[I x_63.kind,u_1,u_2,I x_63.bound,u_4]),anyF] [oS 73 (oCon 122) v59_out out_59,box g3 26 #[v0_0,v0_1]] [.made 7 38 (fun v_=>oS 73 (oCon 122) v_ x74) none] ([]) [([],[]),([],[]),([],[]),([],[]),([],[]),([],[]),([],[]),([],[0])] (S:=[(some 7,[38],none)]) Tryz_mix (by kernel_rfl) rfl (by kernel_rfl) (amF_cons (mono_V _) (amF_cons (mono_V _) (amF_cons (mono_V _) (amF_cons (mono_V _) (amF_cons (mono_V _) (amF_cons (mono_el _ _ _) (amF_cons (mono_exD (mono_data _ _) fun _=>mono_exD (mono_data _ _) fun _=>mono_exD (mono_data _ _) fun _=>mono_V _) (amF_cons (mono_any) amF_nil)))))))) hst ?_ (fun f w_ H81 hS81 hE81 hT81 hst=>?_)
 refine opsS_cons (fun f w_ _ _ s _ _ hst=>mF ((s 4 rfl).trans sf4) rfl (nO rfl rfl hst)) (opsS_cons (fun f w_ _ _ s _ _ hst=>L_lda (cs:=[v0_0,v0_1]) rfl Tryz.isAgg26 Tryz.sizeOf26 ((s 1 rfl).trans sf1) (At.sub0 (Blk.at (Star.blkAt 1 hst rfl)) 0 2) rfl (nO rfl rfl hst)) (opsS_cons (fun f w_ _ _ s _ _ hst=>fA 1 fa_26_1 ((s 1 rfl).trans sf1) rfl (nO rfl rfl hst)) (opsS_cons (fun f w_ _ _ _ _ p hst=>ldB 1 hst Tryz.isAgg24 (p 2 33 rfl rfl) rfl rfl (nO rfl rfl hst)) (opsS_cons (fun f w_ _ _ s _ _ hst=>mF ((s 6 rfl).trans sf6) rfl (nO rfl rfl hst)) (opsS_cons ?_ ?_)))))
 intro f w_ H81 X81 hS81 hE81 hP81 hst
 refine L_ix (r:=(rRule 3 23)) rfl Tryz.underlying24 Tryz.sizeOf79 (hP81 3 34 rfl rfl) (RP.mono _ h0_1 (Le.trans l62 hE81)) (hP81 4 35 rfl rfl) hix63 (fun g93 o94 cs_g93 hrk_hat95 hat95=>?_)
 obtain ⟨u96_0,u96_1,u96_2,rfl,hu96_0,hu96_1,hu96_2⟩:=rRule_iff.1 hrk_hat95
 exact L_nil ⟨rfl,_,_,rfl,Le.refl _,fun _ _=>⟨_,_,_,rfl,hrk_hat95,hat95⟩,hst⟩
 refine opsS_cons ?_ ?_
 intro f w_ H81 X81 hS81 hE81 hP81 hst
 obtain ⟨g97,o97,cs97,hv97,hrk_hat97,hat97⟩:=(hP81 5 36 rfl rfl)
 obtain ⟨u98_0,u98_1,u98_2,rfl,hu98_0,hu98_1,hu98_2⟩:=rRule_iff.1 hrk_hat97
 refine L_lda (cs:=[I x_63.kind,u98_0,u98_1,I x_63.bound,u98_2]) rfl Tryz.isAgg79 Tryz.sizeOf79 hv97 (At.sub (AtH.at hat97 hst.sub) 0 5) rfl (L_nil ⟨rfl,_,_,rfl,Le.refl _,fun _ _=>⟨_,hu98_0,_,hu98_1,_,hu98_2,rfl⟩,hst⟩)
 refine opsS_cons ?_ ?_
 intro f w_ H81 X81 hS81 hE81 hP81 hst
 obtain ⟨u99_1,hu99_1,u99_2,hu99_2,u99_4,hu99_4,hv99⟩:=(hP81 6 37 rfl rfl)
 obtain ⟨H100b,l101,s102,z103,k104⟩:=hst.borrow
 refine L_call rfl Tryz.call53 (ops2 (hP81 1 32 rfl rfl) hv99) (s_l7Rule_c (m:=m) (r_:=x_63) s102 (RP.mono _ h0_0 (Le.trans (Le.trans l62 hE81) l101)) (RP.mono _ h0_1 (Le.trans (Le.trans l62 hE81) l101)) (RP.mono _ hu99_1 l101) (RP.mono _ hu99_2 l101) (RP.mono _ hu99_4 l101) hx74) ?_
 rintro r105_0 w105 ⟨_,rfl,hst⟩
 have hst:=k104 hst (co closed_oCon c0)
 have hst:=hst.gets [2,2] rfl
 exact L_nil ⟨rfl,_,_,rfl,Le.refl _,fun _ _=>trivial,hst⟩
 exact opsS_nil
 have hst : Star H81 w_ ([oS 73 (oCon 122) v59_out out_59,box g3 26 #[v0_0,v0_1],oS 73 (oCon 122) (f 38) x74]):=hst
 have hst:=hst.gets [2,1] rfl
 refine L_appM (v:=v59_out) (u:=(f 38)) rfl et_28 (hT81 0 31 rfl rfl) rfl hst hx77 (fun v108 w109 hst=>aV v108 rfl (nn (W_region (mF ((hS81 6 rfl).trans sf6) rfl (L_add rfl rfl rfl (aI rfl (nn ?_)))))))
 obtain rfl:=so hB63
 show ∃ m,m < _∧I63 m _ _
 refine ⟨rest63.length,by simp,?_⟩
 exact ij hI63 ⟨i_58 + 1,rest63,x77,H81,v108,rfl,drop_next hd63,by simp at hl63; omega,hL63,(Le.trans l62 hE81),((hS81 1 rfl).trans sf1),rfl,(Eq.trans rfl (congrArg (Value.int .i64) (i64_succ (n:=m.rules.length) (by simp at hl63; omega) hlen63))),hst⟩
 rcases suf63 with _ | ⟨_,_⟩
 obtain rfl:=range_nil hL63
 refine W_exit (rj hR63 ⟨out_59,H61,v59_out,rfl,l62,sf4,(Star.keepN 1 hst)⟩)
 exact absurd (of_decide_eq_false hc64) (by simp at hl63; omega)
 intro f w_ hR
 obtain ⟨out_59,H61,v59_out,rfl,l62,sf4,hst⟩:=rk hR63 hR
 refine W_seq (sq (mF sf4 rfl (L_len rfl Tryz.underlying28 rfl (Star.len 0 hst rfl) (L_gtr rfl rfl rfl (nn (W_cond (b:=decide ((out_59.length : Int) > 400)) rfl (fun hc111=>?_) (fun hc111=>?_)))))))
 have hF:=(ite_t hc111).symm.trans hF
 refine sq (L_bs rfl parts0 (bs_28_0  ) hst (fun g115 w116 hst=>?_))
 have hst:=Star.mkRow (R:=(OR.frz (rCon 122))) [] [] 0 hst rfl rfl rfl (by decide)
 refine aV (Sl g115 0 0) rfl (aB rfl (nn (W_ret (retG2 (v1:=(Sl g115 0 0)) (v2:=Bo false) Tryz.results14 rfl rfl ?_))))
 obtain rfl:=so hF
 have hst:=Star.recast (R:=(OR.frz (rCon 122))) (R':=(oCon 122)) rfl hst
 exact ⟨(Sl g115 0 0),rfl,(Star.down (Star.keepN 1 hst) l62 (co closed_oCon c0))⟩
 have hF:=(ite_f hc111).symm.trans hF
 refine W_skip (sq (mF sf4 rfl (aV v59_out rfl (aB rfl (nn (W_ret (retG2 (v1:=v59_out) (v2:=Bo true) Tryz.results14 rfl rfl ?_)))))))
 obtain rfl:=so hF
 exact ⟨v59_out,rfl,(Star.down hst l62 (co closed_oCon c0))⟩
theorem slices_Equal_implTerm_c {s1 : List Term} {s2 : List Term} {v0 : Value} {v1 : Value} {H : FH} {w : World} (hst : Star H w []) (h0 : (rS 122 rTerm).rel H [v0] s1) (h1 : (rS 122 rTerm).rel H [v1] s2) {r : Bool} (hF : slices_Equal_implTerm s1 s2 = some r) :
 C Tryz.prog 112 #[v0,v1] w fun v w'=>v = Bo r∧Star H w' []:=by
 unfold slices_Equal_implTerm at hF
 refine C_enter Tryz.func112 rfl Tryz.ntmps112 rfl (sq (aB rfl (nq (sq (mV v0 rfl (L_len rfl Tryz.underlying71 rfl (slice_len h0) (mV v1 rfl (L_len rfl Tryz.underlying71 rfl (slice_len h1) (L_neq rfl rfl rfl (nn (W_cond (b:=((s1.length : Int) != (s2.length : Int))) rfl (fun hc1=>?_) (fun hc1=>?_))))))))))))
 have hF:=(ite_t hc1).symm.trans hF
 refine sq (aB rfl (nn (W_ret (retG1 (v1:=Bo false) Tryz.results112 rfl ?_))))
 obtain rfl:=so hF
 exact ⟨rfl,hst⟩
 have hF:=(ite_f hc1).symm.trans hF
 refine W_skip (W_seq (sq (mV v0 rfl (L_len rfl Tryz.underlying71 rfl (slice_len h0) (mI rfl (nn ?_))))))
 have hlen5 : List.length s1≤9223372036854775807:=len_le (slice_len h0)
 obtain ⟨j5,hL5,hF⟩:=bind_some hF
 obtain ⟨R5,hR5⟩:=exR fun f w_=>∃ H3 : FH,j5 = .nx ()∧Le H H3∧Star H3 w_ ([])
 refine W_join R5 ?_ ?_
 refine W_block ?_
 obtain ⟨I5,hI5⟩:=exI fun n f w_=>∃ i_2 : Nat,∃ suf5 : List Term,∃ H3 : FH,n = suf5.length∧List.drop i_2 s1 = suf5∧i_2 + suf5.length = s1.length∧rangeL (slices_Equal_implTerm_b1 s2) suf5 i_2 () = some j5∧Le H H3∧f 0 = v0∧f 1 = v1∧f 12 = I (s1.length : Int)∧f 13 = I i_2∧Star H3 w_ ([])
 refine W_loop I5 (n:=s1.length) ?_ ?_
 exact ij hI5 ⟨0,s1,H,rfl,rfl,Nat.zero_add _,hL5,(Le.refl _),rfl,rfl,rfl,rfl,hst⟩
 intro n5 f w_ hI
 obtain ⟨i_2,suf5,H3,rfl,hd5,hl5,hL5,l4,sf0,sf1,sf12,sf13,hst⟩:=ik hI5 hI
 refine sq (L_lss rfl sf13 sf12 (nq (W_cond (b:=decide ((i_2 : Int) < (s1.length : Int))) rfl (fun hc6=>?_) (fun hc6=>?_))))
 have hlt5:=of_decide_eq_true hc6
 rcases suf5 with _ | ⟨x_5,rest5⟩
 exact absurd hlt5 (by simp at hl5; omega)
 obtain ⟨o5,hB5,hL5⟩:=range_cons hL5
 rw [slices_Equal_implTerm_b1] at hB5
 have hix5:=drop_idx hd5
 refine W_skip (W_seq (W_block (sq (mF sf13 rfl (aI rfl (nq ?_))))))
 obtain ⟨x11,hx11,hB5⟩:=bind_some hB5
 refine W_drawS 8 [isV (v0),isV (I i_2),isEl rTerm x_5 0,isV (.agg #[I x_5.coef,I x_5.lit]),isV (v1),isV (I i_2),isEl rTerm x11 0,isV (.agg #[I x11.coef,I x11.lit])] [] [] ([]) [([],[]),([],[]),([],[]),([],[]),([],[]),([],[]),([],[]),([],[])] (S:=[]) Tryz_mix (by kernel_rfl) rfl (by kernel_rfl) (amF_cons (mono_V _) (amF_cons (mono_V _) (amF_cons (mono_el _ _ _) (amF_cons (mono_V _) (amF_cons (mono_V _) (amF_cons (mono_V _) (amF_cons (mono_el _ _ _) (amF_cons (mono_V _) amF_nil)))))))) hst ?_ (fun f w_ H16 hS16 hE16 hT16 hst=>?_)
 refine opsS_cons (fun f w_ _ _ s _ _ hst=>mF ((s 0 rfl).trans sf0) rfl (nO rfl rfl hst)) (opsS_cons (fun f w_ _ _ s _ _ hst=>mF ((s 5 rfl).trans rfl) rfl (nO rfl rfl hst)) (opsS_cons ?_ ?_))
 intro f w_ H16 X16 hS16 hE16 hP16 hst
 refine L_ix (r:=rTerm) rfl Tryz.underlying71 Tryz.sizeOf122 (hP16 0 16 rfl rfl) (RP.mono _ h0 (Le.trans l4 hE16)) (hP16 1 17 rfl rfl) hix5 (fun g25 o26 cs_g25 hrk_hat27 hat27=>?_)
 obtain rfl:=rTerm_iff.1 hrk_hat27
 exact L_nil ⟨rfl,_,_,rfl,Le.refl _,fun _ _=>⟨_,_,_,rfl,hrk_hat27,hat27⟩,hst⟩
 refine opsS_cons ?_ ?_
 intro f w_ H16 X16 hS16 hE16 hP16 hst
 obtain ⟨g29,o29,cs29,hv29,hrk_hat29,hat29⟩:=(hP16 2 18 rfl rfl)
 obtain rfl:=rTerm_iff.1 hrk_hat29
 refine L_lda (cs:=[I x_5.coef,I x_5.lit]) rfl Tryz.isAgg122 Tryz.sizeOf122 hv29 (At.sub (AtH.at hat29 hst.sub) 0 2) rfl (L_nil ⟨rfl,_,_,rfl,Le.refl _,fun _ _=>rfl,hst⟩)
 refine opsS_cons (fun f w_ _ _ s _ _ hst=>mF ((s 1 rfl).trans sf1) rfl (nO rfl rfl hst)) (opsS_cons (fun f w_ _ _ s _ _ hst=>mF ((s 5 rfl).trans rfl) rfl (nO rfl rfl hst)) (opsS_cons ?_ ?_))
 intro f w_ H16 X16 hS16 hE16 hP16 hst
 refine L_ix (r:=rTerm) rfl Tryz.underlying71 Tryz.sizeOf122 (hP16 4 20 rfl rfl) (RP.mono _ h1 (Le.trans l4 hE16)) (hP16 5 21 rfl rfl) hx11 (fun g31 o32 cs_g31 hrk_hat33 hat33=>?_)
 obtain rfl:=rTerm_iff.1 hrk_hat33
 exact L_nil ⟨rfl,_,_,rfl,Le.refl _,fun _ _=>⟨_,_,_,rfl,hrk_hat33,hat33⟩,hst⟩
 refine opsS_cons ?_ ?_
 intro f w_ H16 X16 hS16 hE16 hP16 hst
 obtain ⟨g35,o35,cs35,hv35,hrk_hat35,hat35⟩:=(hP16 6 22 rfl rfl)
 obtain rfl:=rTerm_iff.1 hrk_hat35
 refine L_lda (cs:=[I x11.coef,I x11.lit]) rfl Tryz.isAgg122 Tryz.sizeOf122 hv35 (At.sub (AtH.at hat35 hst.sub) 0 2) rfl (L_nil ⟨rfl,_,_,rfl,Le.refl _,fun _ _=>rfl,hst⟩)
 exact opsS_nil
 refine L_tneq (x1:=x_5.coef) (x2:=x_5.lit) (y1:=x11.coef) (y2:=x11.lit) rfl termEq_122 (hT16 3 19 rfl rfl) (hT16 7 23 rfl rfl) (nn (W_cond (b:=(!(x_5 == x11))) rfl (fun hc37=>?_) (fun hc37=>?_)))
 have hB5:=(ite_t hc37).symm.trans hB5
 refine sq (aB rfl (nn (W_ret (retG1 (v1:=Bo false) Tryz.results112 rfl ?_))))
 obtain rfl:=so hB5
 obtain rfl:=so hL5
 obtain rfl:=so hF
 exact ⟨rfl,(Star.down hst (Le.trans l4 hE16) c0)⟩
 have hB5:=(ite_f hc37).symm.trans hB5
 refine W_skip (W_region (L_add rfl ((hS16 13 rfl).trans sf13) rfl (mI rfl (nn ?_))))
 obtain rfl:=so hB5
 show ∃ m,m < _∧I5 m _ _
 refine ⟨rest5.length,by simp,?_⟩
 exact ij hI5 ⟨i_2 + 1,rest5,H16,rfl,drop_next hd5,by simp at hl5; omega,hL5,(Le.trans l4 hE16),((hS16 0 rfl).trans sf0),((hS16 1 rfl).trans sf1),((hS16 12 rfl).trans sf12),(Eq.trans rfl (congrArg (Value.int .i64) (i64_succ (n:=s1.length) (by simp at hl5; omega) hlen5))),hst⟩
 rcases suf5 with _ | ⟨_,_⟩
 obtain rfl:=range_nil hL5
 refine W_exit (rj hR5 ⟨H3,rfl,l4,hst⟩)
 exact absurd (of_decide_eq_false hc6) (by simp at hl5; omega)
 intro f w_ hR
 obtain ⟨H3,rfl,l4,hst⟩:=rk hR5 hR
 refine sq (aB rfl (nn (W_ret (retG1 (v1:=Bo true) Tryz.results112 rfl ?_))))
 obtain rfl:=so hF
 exact ⟨rfl,(Star.down hst l4 c0)⟩
theorem i_ConstraintSame_c {a : Con} {b : Con} {v0_0 : Value} {v1_0 : Value} {H : FH} {w : World} (hst : Star H w []) (h0_0 : (rS 122 rTerm).rel H [v0_0] a.terms) (h1_0 : (rS 122 rTerm).rel H [v1_0] b.terms) {r : Bool} (hF : i_ConstraintSame a b = some r) :
 C Tryz.prog 54 #[.agg #[v0_0,I a.bound],.agg #[v1_0,I b.bound]] w fun v w'=>v = Bo r∧Star H w' []:=by
 unfold i_ConstraintSame at hF
 refine C_enter Tryz.func54 rfl Tryz.ntmps54 rfl (sq (L_box (v:=.agg #[v0_0,I a.bound]) (cs:=#[v0_0,I a.bound]) rfl rfl rfl hst (fun g5 w6 hst=>L_box (v:=.agg #[v1_0,I b.bound]) (cs:=#[v1_0,I b.bound]) rfl rfl rfl hst (fun g7 w8 hst=>aB rfl (nq ?_)))))
 obtain ⟨b16,hb16,hF⟩:=bind_some hF
 obtain ⟨R17,hR17⟩:=exR fun f w_=>f 4 = Bo b16∧Star H w_ ([])
 refine W_join R17 ?_ ?_
 refine W_region (fA 1 fa_73_1 rfl rfl (ldB 1 hst Tryz.isAgg3 rfl rfl rfl (fA 1 fa_73_1 rfl rfl (ldB 0 hst Tryz.isAgg3 rfl rfl rfl (L_eql rfl rfl rfl (mB rfl (L_split (d:=10) (b:=(a.bound == b.bound)) rfl (fun hc18=>?_) (fun hc18=>?_))))))))
 rw [ite_t hc18] at hb16
 obtain ⟨x14,hx14,hb16⟩:=bind_some hb16
 refine fA 0 fa_73_0 rfl rfl (ldB 1 hst Tryz.isAgg71 rfl rfl rfl (fA 0 fa_73_0 rfl rfl (ldB 0 hst Tryz.isAgg71 rfl rfl rfl ?_)))
 obtain ⟨H19b,l20,s21,z22,k23⟩:=hst.borrow
 refine L_call rfl Tryz.call112 (ops2 rfl rfl) (slices_Equal_implTerm_c (s1:=a.terms) (s2:=b.terms) s21 (RP.mono _ h0_0 l20) (RP.mono _ h1_0 l20) hx14) ?_
 rintro _ w24 ⟨rfl,hst⟩
 have hst:=k23 hst c0
 refine L_pick (v:=Bo b16) rfl rfl (congrArg Value.bool (so hb16)) (aB rfl (nn (rj hR17 ⟨rfl,(Star.keepN 0 hst)⟩)))
 rw [ite_f hc18] at hb16
 refine ps rfl (ps rfl (ps rfl (ps rfl (ps rfl (L_pick (v:=Bo b16) rfl rfl (congrArg Value.bool (so hb16)) (aB rfl (nn (rj hR17 ⟨rfl,(Star.keepN 0 hst)⟩))))))))
 intro f w_ hR
 obtain ⟨sf4,hst⟩:=rk hR17 hR
 refine W_ret (retG1 (v1:=Bo b16) Tryz.results54 sf4 ?_)
 obtain rfl:=so hF
 exact ⟨rfl,hst⟩
theorem l_cpProblem_c {a : List Con} {b : List Con} {v0 : Value} {v1 : Value} {H : FH} {w : World} (hst : Star H w []) (h0 : (rS 73 (rCon 122)).rel H [v0] a) (h1 : (rS 73 (rCon 122)).rel H [v1] b) {r : Bool} (hF : l_cpProblem a b = some r) :
 C Tryz.prog 15 #[v0,v1] w fun v w'=>v = Bo r∧Star H w' []:=by
 unfold l_cpProblem at hF
 refine C_enter Tryz.func15 rfl Tryz.ntmps15 rfl (sq (aB rfl (nq (sq (mV v0 rfl (L_len rfl Tryz.underlying28 rfl (slice_len h0) (mV v1 rfl (L_len rfl Tryz.underlying28 rfl (slice_len h1) (L_neq rfl rfl rfl (nn (W_cond (b:=((a.length : Int) != (b.length : Int))) rfl (fun hc1=>?_) (fun hc1=>?_))))))))))))
 have hF:=(ite_t hc1).symm.trans hF
 refine sq (aB rfl (nn (W_ret (retG1 (v1:=Bo false) Tryz.results15 rfl ?_))))
 obtain rfl:=so hF
 exact ⟨rfl,hst⟩
 have hF:=(ite_f hc1).symm.trans hF
 refine W_skip (W_seq (sq (aI rfl (nn ?_))))
 have hlen5 : List.length a≤9223372036854775807:=len_le (slice_len h0)
 obtain ⟨j5,hL5,hF⟩:=bind_some hF
 obtain ⟨R5,hR5⟩:=exR fun f w_=>∃ H3 : FH,j5 = .nx ()∧Le H H3∧Star H3 w_ ([])
 refine W_join R5 ?_ ?_
 refine W_block ?_
 obtain ⟨I5,hI5⟩:=exI fun n f w_=>∃ i_2 : Nat,∃ suf5 : List Con,∃ H3 : FH,n = suf5.length∧List.drop i_2 a = suf5∧i_2 + suf5.length = a.length∧rangeL (l_cpProblem_b1 b) suf5 i_2 () = some j5∧Le H H3∧f 0 = v0∧f 1 = v1∧f 5 = I i_2∧Star H3 w_ ([])
 refine W_loop I5 (n:=a.length) ?_ ?_
 exact ij hI5 ⟨0,a,H,rfl,rfl,Nat.zero_add _,hL5,(Le.refl _),rfl,rfl,rfl,hst⟩
 intro n5 f w_ hI
 obtain ⟨i_2,suf5,H3,rfl,hd5,hl5,hL5,l4,sf0,sf1,sf5,hst⟩:=ik hI5 hI
 refine W_seq (sq (mF sf5 rfl (mF sf0 rfl (L_len rfl Tryz.underlying28 rfl (slice_len (RP.mono _ h0 l4)) (L_lss rfl rfl rfl (nn (W_cond (b:=decide ((i_2 : Int) < (a.length : Int))) rfl (fun hc6=>?_) (fun hc6=>?_))))))))
 have hlt5:=of_decide_eq_true hc6
 rcases suf5 with _ | ⟨x_5,rest5⟩
 exact absurd hlt5 (by simp at hl5; omega)
 obtain ⟨o5,hB5,hL5⟩:=range_cons hL5
 rw [l_cpProblem_b1] at hB5
 have hix5:=drop_idx hd5
 refine W_skip (W_seq (W_block (W_seq ?_)))
 obtain ⟨x11,hx11,hB5⟩:=bind_some hB5
 obtain ⟨x21,hx21,hB5⟩:=bind_some hB5
 refine W_drawS 8 [isV (v0),isV (I i_2),isEl (rCon 122) x_5 0,exD (isData (rS 122 rTerm) x_5.terms) fun u_0=>isV (.agg #[u_0,I x_5.bound]),isV (v1),isV (I i_2),isEl (rCon 122) x11 0,exD (isData (rS 122 rTerm) x11.terms) fun u_0=>isV (.agg #[u_0,I x11.bound])] [] [] ([]) [([],[]),([],[]),([],[]),([],[]),([],[]),([],[]),([],[]),([],[])] (S:=[]) Tryz_mix (by kernel_rfl) rfl (by kernel_rfl) (amF_cons (mono_V _) (amF_cons (mono_V _) (amF_cons (mono_el _ _ _) (amF_cons (mono_exD (mono_data _ _) fun _=>mono_V _) (amF_cons (mono_V _) (amF_cons (mono_V _) (amF_cons (mono_el _ _ _) (amF_cons (mono_exD (mono_data _ _) fun _=>mono_V _) amF_nil)))))))) hst ?_ (fun f w_ H23 hS23 hE23 hT23 hst=>?_)
 refine opsS_cons (fun f w_ _ _ s _ _ hst=>mF ((s 0 rfl).trans sf0) rfl (nO rfl rfl hst)) (opsS_cons (fun f w_ _ _ s _ _ hst=>mF ((s 5 rfl).trans sf5) rfl (nO rfl rfl hst)) (opsS_cons ?_ ?_))
 intro f w_ H23 X23 hS23 hE23 hP23 hst
 refine L_ix (r:=(rCon 122)) rfl Tryz.underlying28 Tryz.sizeOf73 (hP23 0 17 rfl rfl) (RP.mono _ h0 (Le.trans l4 hE23)) (hP23 1 18 rfl rfl) hix5 (fun g32 o33 cs_g32 hrk_hat34 hat34=>?_)
 obtain ⟨u35_0,rfl,hu35_0⟩:=rCon_iff.1 hrk_hat34
 exact L_nil ⟨rfl,_,_,rfl,Le.refl _,fun _ _=>⟨_,_,_,rfl,hrk_hat34,hat34⟩,hst⟩
 refine opsS_cons ?_ ?_
 intro f w_ H23 X23 hS23 hE23 hP23 hst
 obtain ⟨g36,o36,cs36,hv36,hrk_hat36,hat36⟩:=(hP23 2 19 rfl rfl)
 obtain ⟨u37_0,rfl,hu37_0⟩:=rCon_iff.1 hrk_hat36
 refine L_lda (cs:=[u37_0,I x_5.bound]) rfl Tryz.isAgg73 Tryz.sizeOf73 hv36 (At.sub (AtH.at hat36 hst.sub) 0 2) rfl (L_nil ⟨rfl,_,_,rfl,Le.refl _,fun _ _=>⟨_,hu37_0,rfl⟩,hst⟩)
 refine opsS_cons (fun f w_ _ _ s _ _ hst=>mF ((s 1 rfl).trans sf1) rfl (nO rfl rfl hst)) (opsS_cons (fun f w_ _ _ s _ _ hst=>mF ((s 5 rfl).trans sf5) rfl (nO rfl rfl hst)) (opsS_cons ?_ ?_))
 intro f w_ H23 X23 hS23 hE23 hP23 hst
 refine L_ix (r:=(rCon 122)) rfl Tryz.underlying28 Tryz.sizeOf73 (hP23 4 21 rfl rfl) (RP.mono _ h1 (Le.trans l4 hE23)) (hP23 5 22 rfl rfl) hx11 (fun g38 o39 cs_g38 hrk_hat40 hat40=>?_)
 obtain ⟨u41_0,rfl,hu41_0⟩:=rCon_iff.1 hrk_hat40
 exact L_nil ⟨rfl,_,_,rfl,Le.refl _,fun _ _=>⟨_,_,_,rfl,hrk_hat40,hat40⟩,hst⟩
 refine opsS_cons ?_ ?_
 intro f w_ H23 X23 hS23 hE23 hP23 hst
 obtain ⟨g42,o42,cs42,hv42,hrk_hat42,hat42⟩:=(hP23 6 23 rfl rfl)
 obtain ⟨u43_0,rfl,hu43_0⟩:=rCon_iff.1 hrk_hat42
 refine L_lda (cs:=[u43_0,I x11.bound]) rfl Tryz.isAgg73 Tryz.sizeOf73 hv42 (At.sub (AtH.at hat42 hst.sub) 0 2) rfl (L_nil ⟨rfl,_,_,rfl,Le.refl _,fun _ _=>⟨_,hu43_0,rfl⟩,hst⟩)
 exact opsS_nil
 obtain ⟨u44_0,hu44_0,hv44⟩:=(hT23 3 20 rfl rfl)
 obtain ⟨u45_0,hu45_0,hv45⟩:=(hT23 7 24 rfl rfl)
 obtain ⟨H46b,l47,s48,z49,k50⟩:=hst.borrow
 refine L_call rfl Tryz.call54 (ops2 hv44 hv45) (i_ConstraintSame_c (a:=x_5) (b:=x11) s48 (RP.mono _ hu44_0 l47) (RP.mono _ hu45_0 l47) hx21) ?_
 rintro _ w51 ⟨rfl,hst⟩
 have hst:=k50 hst c0
 refine L_not_ rfl rfl (nn (W_cond (b:=(!x21)) rfl (fun hc52=>?_) (fun hc52=>?_)))
 have hB5:=(ite_t hc52).symm.trans hB5
 refine sq (aB rfl (nn (W_ret (retG1 (v1:=Bo false) Tryz.results15 rfl ?_))))
 obtain rfl:=so hB5
 obtain rfl:=so hL5
 obtain rfl:=so hF
 exact ⟨rfl,(Star.down hst (Le.trans l4 hE23) c0)⟩
 have hB5:=(ite_f hc52).symm.trans hB5
 refine W_skip (W_region (mF ((hS23 5 rfl).trans sf5) rfl (L_add rfl rfl rfl (aI rfl (nn ?_)))))
 obtain rfl:=so hB5
 show ∃ m,m < _∧I5 m _ _
 refine ⟨rest5.length,by simp,?_⟩
 exact ij hI5 ⟨i_2 + 1,rest5,H23,rfl,drop_next hd5,by simp at hl5; omega,hL5,(Le.trans l4 hE23),((hS23 0 rfl).trans sf0),((hS23 1 rfl).trans sf1),(Eq.trans rfl (congrArg (Value.int .i64) (i64_succ (n:=a.length) (by simp at hl5; omega) hlen5))),hst⟩
 rcases suf5 with _ | ⟨_,_⟩
 obtain rfl:=range_nil hL5
 refine W_exit (rj hR5 ⟨H3,rfl,l4,hst⟩)
 exact absurd (of_decide_eq_false hc6) (by simp at hl5; omega)
 intro f w_ hR
 obtain ⟨H3,rfl,l4,hst⟩:=rk hR5 hR
 refine sq (aB rfl (nn (W_ret (retG1 (v1:=Bo true) Tryz.results15 rfl ?_))))
 obtain rfl:=so hF
 exact ⟨rfl,(Star.down hst l4 c0)⟩
theorem slices_IndexFunc_implConstraint_c {s : List Con} {f_ : (Con→Option Bool)} {v0 : Value} {v1 : Value} {H : FH} {w : World} (hst : Star H w []) (h0 : (rS 73 (rCon 122)).rel H [v0] s) (h1 : Fun1 Tryz.prog (rCon 122) true Value.bool f_ v1 H) {r : Int} (hF : slices_IndexFunc_implConstraint s f_ = some r) :
 C Tryz.prog 162 #[v0,v1] w fun v w'=>v = I r∧Star H w' []:=by
 unfold slices_IndexFunc_implConstraint at hF
 obtain ⟨fid_1,caps_1,rfl,hcall_1,hc_1⟩:=h1
 refine C_enter Tryz.func162 rfl Tryz.ntmps162 rfl (sq (aI rfl (nq (sq (mV v0 rfl (L_len rfl Tryz.underlying28 rfl (slice_len h0) (mI rfl (nn ?_))))))))
 have hlen2 : List.length s≤9223372036854775807:=len_le (slice_len h0)
 obtain ⟨j2,hL2,hF⟩:=bind_some hF
 obtain ⟨R2,hR2⟩:=exR fun f w_=>j2 = .nx ()∧Star H w_ ([])
 refine W_join R2 ?_ ?_
 refine W_block ?_
 obtain ⟨I2,hI2⟩:=exI fun n f w_=>∃ i_1 : Nat,∃ suf2 : List Con,n = suf2.length∧List.drop i_1 s = suf2∧i_1 + suf2.length = s.length∧rangeL (slices_IndexFunc_implConstraint_b1 f_) suf2 i_1 () = some j2∧f 0 = v0∧f 1 = .func (.func fid_1) #[] caps_1∧f 7 = I (s.length : Int)∧f 8 = I i_1∧Star H w_ ([])
 refine W_loop I2 (n:=s.length) ?_ ?_
 exact ij hI2 ⟨0,s,rfl,rfl,Nat.zero_add _,hL2,rfl,rfl,rfl,rfl,hst⟩
 intro n2 f w_ hI
 obtain ⟨i_1,suf2,rfl,hd2,hl2,hL2,sf0,sf1,sf7,sf8,hst⟩:=ik hI2 hI
 refine sq (L_lss rfl sf8 sf7 (nq (W_cond (b:=decide ((i_1 : Int) < (s.length : Int))) rfl (fun hc3=>?_) (fun hc3=>?_))))
 have hlt2:=of_decide_eq_true hc3
 rcases suf2 with _ | ⟨x_2,rest2⟩
 exact absurd hlt2 (by simp at hl2; omega)
 obtain ⟨o2,hB2,hL2⟩:=range_cons hL2
 rw [slices_IndexFunc_implConstraint_b1] at hB2
 have hix2:=drop_idx hd2
 refine W_skip (W_seq (W_block (sq (mF sf8 rfl (aI rfl (nq ?_))))))
 obtain ⟨x8,hx8,hB2⟩:=bind_some hB2
 refine W_region (mF sf1 rfl (mF sf0 rfl (mI rfl (L_ix (r:=(rCon 122)) rfl Tryz.underlying28 Tryz.sizeOf73 rfl h0 rfl hix2 (fun g15 o16 cs_g15 hrk_hat17 hat17=>?_)))))
 obtain ⟨u18_0,rfl,hu18_0⟩:=rCon_iff.1 hrk_hat17
 refine L_lda (cs:=[u18_0,I x_2.bound]) rfl Tryz.isAgg73 Tryz.sizeOf73 rfl (At.sub (AtH.at hat17 hst.sub) 0 2) rfl ?_
 obtain ⟨H19b,l20,s21,z22,k23⟩:=hst.borrow
 refine L_callv (args:=#[.agg #[u18_0,I x_2.bound]]) rfl hcall_1 rfl (ops1 rfl) (hc_1 _ _ l20 s21 [u18_0,I x_2.bound] _ _ _ (rCon_iff.2 ⟨_,rfl,(RP.mono _ hu18_0 l20)⟩) hx8 (args_app rfl)) ?_
 rintro _ w24 ⟨rfl,hst⟩
 have hst:=k23 hst c0
 refine nn (W_cond (b:=x8) rfl (fun hc25=>?_) (fun hc25=>?_))
 have hB2:=(ite_t hc25).symm.trans hB2
 refine sq (mI rfl (aI rfl (nn (W_ret (retG1 (v1:=I i_1) Tryz.results162 rfl ?_)))))
 obtain rfl:=so hB2
 obtain rfl:=so hL2
 obtain rfl:=so hF
 exact ⟨rfl,hst⟩
 have hB2:=(ite_f hc25).symm.trans hB2
 refine W_skip (W_region (L_add rfl sf8 rfl (mI rfl (nn ?_))))
 obtain rfl:=so hB2
 show ∃ m,m < _∧I2 m _ _
 refine ⟨rest2.length,by simp,?_⟩
 exact ij hI2 ⟨i_1 + 1,rest2,rfl,drop_next hd2,by simp at hl2; omega,hL2,sf0,sf1,sf7,(Eq.trans rfl (congrArg (Value.int .i64) (i64_succ (n:=s.length) (by simp at hl2; omega) hlen2))),hst⟩
 rcases suf2 with _ | ⟨_,_⟩
 obtain rfl:=range_nil hL2
 refine W_exit (rj hR2 ⟨rfl,hst⟩)
 exact absurd (of_decide_eq_false hc3) (by simp at hl2; omega)
 intro f w_ hR
 obtain ⟨rfl,hst⟩:=rk hR2 hR
 refine sq (aI rfl (nn (W_ret (retG1 (v1:=I (-1)) Tryz.results162 rfl ?_))))
 obtain rfl:=so hF
 exact ⟨rfl,hst⟩
theorem slices_ContainsFunc_implConstraint_c {s : List Con} {f_ : (Con→Option Bool)} {v0 : Value} {v1 : Value} {H : FH} {w : World} (hst : Star H w []) (h0 : (rS 73 (rCon 122)).rel H [v0] s) (h1 : Fun1 Tryz.prog (rCon 122) true Value.bool f_ v1 H) {r : Bool} (hF : slices_ContainsFunc_implConstraint s f_ = some r) :
 C Tryz.prog 123 #[v0,v1] w fun v w'=>v = Bo r∧Star H w' []:=by
 unfold slices_ContainsFunc_implConstraint at hF
 obtain ⟨fid_1,caps_1,rfl,hcall_1,hc_1⟩:=h1
 refine C_enter Tryz.func123 rfl Tryz.ntmps123 rfl (sq (aB rfl (nq ?_)))
 obtain ⟨x6,hx6,hF⟩:=bind_some hF
 refine W_region (mV v0 rfl (mV (.func (.func fid_1) #[] caps_1) rfl ?_))
 obtain ⟨H8b,l9,s10,z11,k12⟩:=hst.borrow
 refine L_call rfl Tryz.call162 (ops2 rfl rfl) (slices_IndexFunc_implConstraint_c (s:=s) (f_:=f_) s10 (RP.mono _ h0 l9) (Fun1.le ⟨_,_,rfl,hcall_1,hc_1⟩ l9) hx6) ?_
 rintro _ w13 ⟨rfl,hst⟩
 have hst:=k12 hst c0
 refine L_geq rfl rfl rfl (aB rfl (nn (W_ret (retG1 (v1:=Bo (decide (x6 ≥ 0))) Tryz.results123 rfl ?_))))
 obtain rfl:=so hF
 exact ⟨rfl,hst⟩
theorem i_allValid_1_c {c : Con} {v0_0 : Value} {H : FH} {w : World} (hst : Star H w []) (h0_0 : (rS 122 rTerm).rel H [v0_0] c.terms) {r : Bool} (hF : i_allValid_1 c = some r) :
 C Tryz.prog 129 #[.agg #[v0_0,I c.bound]] w fun v w'=>v = Bo r∧Star H w' []:=by
 unfold i_allValid_1 at hF
 refine C_enter Tryz.func129 rfl Tryz.ntmps129 rfl (sq (L_box (v:=.agg #[v0_0,I c.bound]) (cs:=#[v0_0,I c.bound]) rfl rfl rfl hst (fun g3 w4 hst=>aB rfl (nq ?_))))
 obtain ⟨x10,hx10,hF⟩:=bind_some hF
 refine W_region (L_lda (cs:=[v0_0,I c.bound]) rfl Tryz.isAgg73 Tryz.sizeOf73 rfl (At.sub0 (Blk.at (Star.blkAt 0 hst rfl)) 0 2) rfl ?_)
 obtain ⟨H12b,l13,s14,z15,k16⟩:=hst.borrow
 refine L_call rfl Tryz.call130 (ops1 rfl) (i_ConstraintValid_c (c:=c) s14 (RP.mono _ h0_0 l13) hx10) ?_
 rintro _ w17 ⟨rfl,hst⟩
 have hst:=k16 hst c0
 refine L_not_ rfl rfl (aB rfl (nn (W_ret (retG1 (v1:=Bo (!x10)) Tryz.results129 rfl ?_))))
 obtain rfl:=so hF
 exact ⟨rfl,(Star.keepN 0 hst)⟩
theorem i_allValid_c {list : List Con} {v0 : Value} {H : FH} {w : World} (hst : Star H w []) (h0 : (rS 73 (rCon 122)).rel H [v0] list) {r : Bool} (hF : i_allValid list = some r) :
 C Tryz.prog 80 #[v0] w fun v w'=>v = Bo r∧Star H w' []:=by
 unfold i_allValid at hF
 refine C_enter Tryz.func80 rfl Tryz.ntmps80 rfl (sq (aB rfl (nq ?_)))
 obtain ⟨x6,hx6,hF⟩:=bind_some hF
 refine W_region (mV v0 rfl ?_)
 obtain ⟨H8b,l9,s10,z11,k12⟩:=hst.borrow
 have hf13 : Fun1 Tryz.prog (rCon 122) true Value.bool i_allValid_1 (.func (.func 129) #[] #[]) H8b:=by
   refine ⟨_,_,rfl,Tryz.call129,fun H_ w_ hE_ hs_ cs_ x_ y_ args_ hr_ hy_ ha_=>?_⟩
   obtain ⟨p_0,rfl,hp_0⟩:=rCon_iff.1 hr_
   obtain rfl:=args_of (b:=#[.agg #[p_0,I x_.bound]]) ha_
   exact i_allValid_1_c (c:=x_) hs_ hp_0 hy_
 refine L_call rfl Tryz.call123 (ops2 rfl rfl) (slices_ContainsFunc_implConstraint_c (s:=list) (f_:=i_allValid_1) s10 (RP.mono _ h0 l9) hf13 hx6) ?_
 rintro _ w14 ⟨rfl,hst⟩
 have hst:=k12 hst c0
 refine L_not_ rfl rfl (aB rfl (nn (W_ret (retG1 (v1:=Bo (!x6)) Tryz.results80 rfl ?_))))
 obtain rfl:=so hF
 exact ⟨rfl,hst⟩
theorem i_ProblemValid_c {list : List Con} {v0 : Value} {H : FH} {w : World} (hst : Star H w []) (h0 : (rS 73 (rCon 122)).rel H [v0] list) {r : Bool} (hF : i_ProblemValid list = some r) :
 C Tryz.prog 37 #[v0] w fun v w'=>v = Bo r∧Star H w' []:=by
 unfold i_ProblemValid at hF
 refine C_enter Tryz.func37 rfl Tryz.ntmps37 rfl (sq (aB rfl (nq ?_)))
 obtain ⟨b8,hb8,hF⟩:=bind_some hF
 obtain ⟨R9,hR9⟩:=exR fun f w_=>f 2 = Bo b8∧Star H w_ ([])
 refine W_join R9 ?_ ?_
 refine W_region (mV v0 rfl (L_len rfl Tryz.underlying28 rfl (slice_len h0) (L_leq rfl rfl rfl (mB rfl (L_split (d:=6) (b:=decide ((list.length : Int)≤400)) rfl (fun hc10=>?_) (fun hc10=>?_))))))
 rw [ite_t hc10] at hb8
 obtain ⟨x6,hx6,hb8⟩:=bind_some hb8
 refine mV v0 rfl ?_
 obtain ⟨H11b,l12,s13,z14,k15⟩:=hst.borrow
 refine L_call rfl Tryz.call80 (ops1 rfl) (i_allValid_c (list:=list) s13 (RP.mono _ h0 l12) hx6) ?_
 rintro _ w16 ⟨rfl,hst⟩
 have hst:=k15 hst c0
 refine L_pick (v:=Bo b8) rfl rfl (congrArg Value.bool (so hb8)) (aB rfl (nn (rj hR9 ⟨rfl,hst⟩)))
 rw [ite_f hc10] at hb8
 refine ps rfl (ps rfl (L_pick (v:=Bo b8) rfl rfl (congrArg Value.bool (so hb8)) (aB rfl (nn (rj hR9 ⟨rfl,hst⟩)))))
 intro f w_ hR
 obtain ⟨sf2,hst⟩:=rk hR9 hR
 refine W_ret (retG1 (v1:=Bo b8) Tryz.results37 sf2 ?_)
 obtain rfl:=so hF
 exact ⟨rfl,hst⟩
theorem i_Rule_at_c {r_ : Rule} {cells : List Int} {v0_1 : Value} {v0_2 : Value} {v0_4 : Value} {v1 : Value} {H : FH} {w : World} (hst : Star H w []) (h0_1 : (rS 3 RP.int).rel H [v0_1] r_.vars) (h0_2 : (rS 3 RP.int).rel H [v0_2] r_.coefs) (h0_4 : (rS 23 (rS 3 RP.int)).rel H [v0_4] r_.rows) (h1 : (rS 3 RP.int).rel H [v1] cells) {r : Bool} (hF : i_Rule_at r_ cells = some r) :
 C Tryz.prog 78 #[.agg #[I r_.kind,v0_1,v0_2,I r_.bound,v0_4],v1] w fun v w'=>v = Bo r∧Star H w' []:=by
 unfold i_Rule_at at hF
 refine C_enter Tryz.func78 rfl Tryz.ntmps78 rfl (sq (L_box (v:=.agg #[I r_.kind,v0_1,v0_2,I r_.bound,v0_4]) (cs:=#[I r_.kind,v0_1,v0_2,I r_.bound,v0_4]) rfl rfl rfl hst (fun g3 w4 hst=>aB rfl (ns (aV S0 rfl (nq (sq (fA 1 fa_79_1 rfl rfl (ldB 0 hst Tryz.isAgg23 rfl rfl rfl (L_len rfl Tryz.underlying23 rfl (slice_len h0_1) (mI rfl (nn ?_))))))))))))
 have hlen8 : List.length r_.vars≤9223372036854775807:=len_le (slice_len h0_1)
 obtain ⟨j8,hL8,hF⟩:=bind_some hF
 obtain ⟨R8,hR8⟩:=exR fun f w_=>∃ vals_6 : List Int,∃ v6_vals : Value,j8 = .nx vals_6∧f 2 = Pt g3∧f 5 = v6_vals∧Star H w_ ([oF 3 RP.int v6_vals vals_6,box g3 79 #[I r_.kind,v0_1,v0_2,I r_.bound,v0_4]])
 refine W_join R8 ?_ ?_
 refine W_block ?_
 obtain ⟨I8,hI8⟩:=exI fun n f w_=>∃ i_5 : Nat,∃ suf8 : List Int,∃ vals_6 : List Int,∃ v6_vals : Value,n = suf8.length∧List.drop i_5 r_.vars = suf8∧i_5 + suf8.length = r_.vars.length∧rangeL (i_Rule_at_b1 cells) suf8 i_5 vals_6 = some j8∧f 1 = v1∧f 2 = Pt g3∧f 5 = v6_vals∧f 9 = v0_1∧f 10 = I (r_.vars.length : Int)∧f 11 = I i_5∧Star H w_ ([oF 3 RP.int v6_vals vals_6,box g3 79 #[I r_.kind,v0_1,v0_2,I r_.bound,v0_4]])
 have hst:=Star.addNil (R:=(OR.frz RP.int)) (e:=3) hst
 refine W_loop I8 (n:=r_.vars.length) ?_ ?_
 exact ij hI8 ⟨0,r_.vars,[],S0,rfl,rfl,Nat.zero_add _,hL8,rfl,rfl,rfl,rfl,rfl,rfl,hst⟩
 intro n8 f w_ hI
 obtain ⟨i_5,suf8,vals_6,v6_vals,rfl,hd8,hl8,hL8,sf1,sf2,sf5,sf9,sf10,sf11,hst⟩:=ik hI8 hI
 refine sq (L_lss rfl sf11 sf10 (nq (W_cond (b:=decide ((i_5 : Int) < (r_.vars.length : Int))) rfl (fun hc10=>?_) (fun hc10=>?_))))
 have hlt8:=of_decide_eq_true hc10
 rcases suf8 with _ | ⟨x_8,rest8⟩
 exact absurd hlt8 (by simp at hl8; omega)
 obtain ⟨o8,hB8,hL8⟩:=range_cons hL8
 rw [i_Rule_at_b1] at hB8
 have hix8:=drop_idx hd8
 refine W_skip (W_seq (W_block (sq (L_ix (r:=RP.int) rfl Tryz.underlying23 Tryz.sizeOf3 sf9 h0_1 sf11 hix8 (fun g15 o16 cs_g15 hrk_hat17 hat17=>?_)))))
 obtain rfl : _ = [_]:=hrk_hat17
 refine L_ld rfl Tryz.isAgg3 rfl (At.cell (AtH.at hat17 hst.sub) (j:=0) rfl) (aI rfl (nn ?_))
 obtain ⟨x19,hx19,hB8⟩:=bind_some hB8
 obtain ⟨x27,hx27,hB8⟩:=bind_some hB8
 refine W_region (mF sf5 rfl (mF sf1 rfl (mI rfl (L_ix (r:=RP.int) rfl Tryz.underlying23 Tryz.sizeOf3 rfl h1 rfl hx19 (fun g31 o32 cs_g31 hrk_hat33 hat33=>?_)))))
 obtain rfl : _ = [_]:=hrk_hat33
 refine L_ld rfl Tryz.isAgg3 rfl (At.cell (AtH.at hat33 hst.sub) (j:=0) rfl) (L_bs rfl (parts1 rfl) (bs_23_1_0 (I x19) rfl) hst (fun g35 w36 hst=>?_))
 have hst:=Star.addF (r:=RP.int) (cs:=[I x19]) (x:=x19) hst rfl
 have hst:=Star.mkRow (R:=(OR.frz RP.int)) [([I x19],x19)] [x19] 1 hst rfl rfl rfl (by decide)
 have hst:=hst.get 1 rfl
 refine L_appM (v:=v6_vals) (u:=(Sl g35 1 1)) rfl et_23 rfl rfl hst hx27 (fun v38 w39 hst=>aV v38 rfl (nn (W_region (L_add rfl sf11 rfl (mI rfl (nn ?_))))))
 obtain rfl:=so hB8
 show ∃ m,m < _∧I8 m _ _
 refine ⟨rest8.length,by simp,?_⟩
 exact ij hI8 ⟨i_5 + 1,rest8,x27,v38,rfl,drop_next hd8,by simp at hl8; omega,hL8,sf1,sf2,rfl,sf9,sf10,(Eq.trans rfl (congrArg (Value.int .i64) (i64_succ (n:=r_.vars.length) (by simp at hl8; omega) hlen8))),hst⟩
 rcases suf8 with _ | ⟨_,_⟩
 obtain rfl:=range_nil hL8
 refine W_exit (rj hR8 ⟨vals_6,v6_vals,rfl,sf2,sf5,hst⟩)
 exact absurd (of_decide_eq_false hc10) (by simp at hl8; omega)
 intro f w_ hR
 obtain ⟨vals_6,v6_vals,rfl,sf2,sf5,hst⟩:=rk hR8 hR
 refine W_seq ?_
 obtain ⟨x47,hx47,hF⟩:=bind_some hF
 refine W_region (L_lda (cs:=[I r_.kind,v0_1,v0_2,I r_.bound,v0_4]) rfl Tryz.isAgg79 Tryz.sizeOf79 sf2 (At.sub0 (Blk.at (Star.blkAt 1 hst rfl)) 0 5) rfl (mF sf5 rfl ?_))
 obtain ⟨H49b,l50,s51,z52,k53⟩:=hst.borrow
 have hb54 : (rS 3 RP.int).rel H49b [v6_vals] vals_6:=fz_own 0 z52 rfl
 refine L_call rfl Tryz.call105 (ops2 rfl rfl) (i_Rule_holds_c (r_:=r_) (vals:=vals_6) s51 (RP.mono _ h0_1 l50) (RP.mono _ h0_2 l50) (RP.mono _ h0_4 l50) hb54 hx47) ?_
 rintro _ w55 ⟨rfl,hst⟩
 have hst:=k53 hst c0
 refine aB rfl (nn (W_ret (retG1 (v1:=Bo x47) Tryz.results78 rfl ?_)))
 obtain rfl:=so hF
 exact ⟨rfl,(Star.keepN 0 hst)⟩
theorem i_Model_solves_1_c {c1 : List Int} {r_ : Rule} {v0_1 : Value} {v0_2 : Value} {v0_4 : Value} {g_c1 : Nat} {v1_0 : Value} {H : FH} {w : World} (hst : Star H w []) (h0_1 : (rS 3 RP.int).rel H [v0_1] r_.vars) (h0_2 : (rS 3 RP.int).rel H [v0_2] r_.coefs) (h0_4 : (rS 23 (rS 3 RP.int)).rel H [v0_4] r_.rows) (hat_g_c1 : AtH H g_c1 0 [v1_0]) (h1_0 : (rS 3 RP.int).rel H [v1_0] c1) {r : Bool} (hF : i_Model_solves_1 c1 r_ = some r) :
 C Tryz.prog 117 #[.agg #[I r_.kind,v0_1,v0_2,I r_.bound,v0_4],Pt g_c1] w fun v w'=>v = Bo r∧Star H w' []:=by
 unfold i_Model_solves_1 at hF
 refine C_enter Tryz.func117 rfl Tryz.ntmps117 rfl (sq (L_box (v:=.agg #[I r_.kind,v0_1,v0_2,I r_.bound,v0_4]) (cs:=#[I r_.kind,v0_1,v0_2,I r_.bound,v0_4]) rfl rfl rfl hst (fun g3 w4 hst=>aB rfl (nq ?_))))
 obtain ⟨x10,hx10,hF⟩:=bind_some hF
 refine W_region (L_lda (cs:=[I r_.kind,v0_1,v0_2,I r_.bound,v0_4]) rfl Tryz.isAgg79 Tryz.sizeOf79 rfl (At.sub0 (Blk.at (Star.blkAt 0 hst rfl)) 0 5) rfl (L_ld rfl Tryz.isAgg23 rfl (At.cell0 (AtH.at hat_g_c1 hst.sub) (j:=0) rfl) ?_))
 obtain ⟨H12b,l13,s14,z15,k16⟩:=hst.borrow
 refine L_call rfl Tryz.call78 (ops2 rfl rfl) (i_Rule_at_c (r_:=r_) (cells:=c1) s14 (RP.mono _ h0_1 l13) (RP.mono _ h0_2 l13) (RP.mono _ h0_4 l13) (RP.mono _ h1_0 l13) hx10) ?_
 rintro _ w17 ⟨rfl,hst⟩
 have hst:=k16 hst c0
 refine L_not_ rfl rfl (aB rfl (nn (W_ret (retG1 (v1:=Bo (!x10)) Tryz.results117 rfl ?_))))
 obtain rfl:=so hF
 exact ⟨rfl,(Star.keepN 0 hst)⟩
theorem i_Model_solves_c {m : Model} {cells : List Int} {v0_0 : Value} {v0_1 : Value} {v1 : Value} {H : FH} {w : World} (hst : Star H w []) (h0_0 : (rS 3 RP.int).rel H [v0_0] m.sizes) (h0_1 : (rS 79 (rRule 3 23)).rel H [v0_1] m.rules) (h1 : (rS 3 RP.int).rel H [v1] cells) {r : Bool} (hF : i_Model_solves m cells = some r) :
 C Tryz.prog 59 #[.agg #[v0_0,v0_1],v1] w fun v w'=>v = Bo r∧Star H w' []:=by
 unfold i_Model_solves at hF
 refine C_enter Tryz.func59 rfl Tryz.ntmps59 rfl (sq (L_box (v:=.agg #[v0_0,v0_1]) (cs:=#[v0_0,v0_1]) rfl rfl rfl hst (fun g5 w6 hst=>L_box (v:=v1) (cs:=#[v1]) rfl rfl (cells_one (one_len (slice_len h1))) hst (fun g7 w8 hst=>aB rfl (nq ?_)))))
 obtain ⟨x14,hx14,hF⟩:=bind_some hF
 refine W_region (fA 1 fa_26_1 rfl rfl (ldB 1 hst Tryz.isAgg24 rfl rfl rfl (L_mf rfl (ops1 rfl) ?_)))
 obtain ⟨H16b,l17,s18,z19,k20⟩:=hst.borrow
 have hf21 : Fun1 Tryz.prog (rRule 3 23) true Value.bool (i_Model_solves_1 cells) (.func (.func 117) #[] #[Pt g7]) H16b:=by
   refine ⟨_,_,rfl,Tryz.call117,fun H_ w_ hE_ hs_ cs_ x_ y_ args_ hr_ hy_ ha_=>?_⟩
   obtain ⟨p_0,p_1,p_2,rfl,hp_0,hp_1,hp_2⟩:=rRule_iff.1 hr_
   obtain rfl:=args_of (b:=#[.agg #[I x_.kind,p_0,p_1,I x_.bound,p_2],Pt g7]) ha_
   exact i_Model_solves_1_c (c1:=cells) (r_:=x_) hs_ hp_0 hp_1 hp_2 (AtH.le (AtH.of (fz_box 0 z19 rfl)) hE_) (RP.mono _ (RP.mono _ h1 l17) hE_) hy_
 refine L_call rfl Tryz.call93 (ops2 rfl rfl) (slices_ContainsFunc_implRule_c (s:=m.rules) (f_:=(i_Model_solves_1 cells)) s18 (RP.mono _ h0_1 l17) hf21 hx14) ?_
 rintro _ w22 ⟨rfl,hst⟩
 have hst:=k20 hst c0
 refine L_not_ rfl rfl (aB rfl (nn (W_ret (retG1 (v1:=Bo (!x14)) Tryz.results59 rfl ?_))))
 obtain rfl:=so hF
 exact ⟨rfl,(Star.keepN 0 hst)⟩
theorem i_CellsValid_c {m : Model} {cells : List Int} {v0_0 : Value} {v0_1 : Value} {v1 : Value} {H : FH} {w : World} (hst : Star H w []) (h0_0 : (rS 3 RP.int).rel H [v0_0] m.sizes) (h0_1 : (rS 79 (rRule 3 23)).rel H [v0_1] m.rules) (h1 : (rS 3 RP.int).rel H [v1] cells) {r : Bool} (hF : i_CellsValid m cells = some r) :
 C Tryz.prog 60 #[.agg #[v0_0,v0_1],v1] w fun v w'=>v = Bo r∧Star H w' []:=by
 unfold i_CellsValid at hF
 refine C_enter Tryz.func60 rfl Tryz.ntmps60 rfl (sq (L_box (v:=.agg #[v0_0,v0_1]) (cs:=#[v0_0,v0_1]) rfl rfl rfl hst (fun g3 w4 hst=>aB rfl (nq (W_seq ?_)))))
 obtain ⟨x10,hx10,hF⟩:=bind_some hF
 obtain ⟨R12,hR12⟩:=exR fun f w_=>f 1 = v1∧f 2 = Pt g3∧f 17 = Bo ((!x10) || ((cells.length : Int) != (m.sizes.length : Int)))∧Star H w_ ([box g3 26 #[v0_0,v0_1]])
 refine W_join R12 ?_ ?_
 refine W_region (L_lda (cs:=[v0_0,v0_1]) rfl Tryz.isAgg26 Tryz.sizeOf26 rfl (At.sub0 (Blk.at (Star.blkAt 0 hst rfl)) 0 2) rfl ?_)
 obtain ⟨H13b,l14,s15,z16,k17⟩:=hst.borrow
 refine L_call rfl Tryz.call46 (ops1 rfl) (i_ModelValid_c (m:=m) s15 (RP.mono _ h0_0 l14) (RP.mono _ h0_1 l14) hx10) ?_
 rintro _ w18 ⟨rfl,hst⟩
 have hst:=k17 hst c0
 refine L_not_ rfl rfl (mB rfl (L_split (d:=10) (b:=(!x10)) rfl (fun hc19=>?_) (fun hc19=>?_)))
 refine ps rfl (ps rfl (ps rfl (ps rfl (ps rfl (ps rfl (L_pick (v:=Bo ((!x10) || ((cells.length : Int) != (m.sizes.length : Int)))) rfl rfl (or_t hc19) (nn (rj hR12 ⟨rfl,rfl,rfl,hst⟩))))))))
 refine mV v1 rfl (L_len rfl Tryz.underlying23 rfl (slice_len h1) (fA 0 fa_26_0 rfl rfl (ldB 0 hst Tryz.isAgg23 rfl rfl rfl (L_len rfl Tryz.underlying23 rfl (slice_len h0_0) (L_neq rfl rfl rfl (L_pick (v:=Bo ((!x10) || ((cells.length : Int) != (m.sizes.length : Int)))) rfl rfl (or_f hc19 rfl) (nn (rj hR12 ⟨rfl,rfl,rfl,hst⟩))))))))
 intro f w_ hR
 obtain ⟨sf1,sf2,sf17,hst⟩:=rk hR12 hR
 refine W_cond (b:=((!x10) || ((cells.length : Int) != (m.sizes.length : Int)))) sf17 (fun hc20=>?_) (fun hc20=>?_)
 have hF:=(ite_t hc20).symm.trans hF
 refine sq (aB rfl (nn (W_ret (retG1 (v1:=Bo false) Tryz.results60 rfl ?_))))
 obtain rfl:=so hF
 exact ⟨rfl,(Star.keepN 0 hst)⟩
 have hF:=(ite_f hc20).symm.trans hF
 refine W_skip (W_seq (sq (mF sf1 rfl (L_len rfl Tryz.underlying23 rfl (slice_len h1) (mI rfl (nn ?_))))))
 have hlen22 : List.length cells≤9223372036854775807:=len_le (slice_len h1)
 obtain ⟨j22,hL22,hF⟩:=bind_some hF
 obtain ⟨R22,hR22⟩:=exR fun f w_=>j22 = .nx ()∧Star H w_ ([])
 refine W_join R22 ?_ ?_
 refine W_block ?_
 obtain ⟨I22,hI22⟩:=exI fun n f w_=>∃ i_21 : Nat,∃ suf22 : List Int,n = suf22.length∧List.drop i_21 cells = suf22∧i_21 + suf22.length = cells.length∧rangeL (i_CellsValid_b1 m) suf22 i_21 () = some j22∧f 2 = Pt g3∧f 18 = v1∧f 19 = I (cells.length : Int)∧f 20 = I i_21∧Star H w_ ([box g3 26 #[v0_0,v0_1]])
 refine W_loop I22 (n:=cells.length) ?_ ?_
 exact ij hI22 ⟨0,cells,rfl,rfl,Nat.zero_add _,hL22,sf2,rfl,rfl,rfl,hst⟩
 intro n22 f w_ hI
 obtain ⟨i_21,suf22,rfl,hd22,hl22,hL22,sf2,sf18,sf19,sf20,hst⟩:=ik hI22 hI
 refine sq (L_lss rfl sf20 sf19 (nq (W_cond (b:=decide ((i_21 : Int) < (cells.length : Int))) rfl (fun hc23=>?_) (fun hc23=>?_))))
 have hlt22:=of_decide_eq_true hc23
 rcases suf22 with _ | ⟨x_22,rest22⟩
 exact absurd hlt22 (by simp at hl22; omega)
 obtain ⟨o22,hB22,hL22⟩:=range_cons hL22
 rw [i_CellsValid_b1] at hB22
 have hix22:=drop_idx hd22
 refine W_skip (W_seq (W_block (sq (mF sf20 rfl (L_ix (r:=RP.int) rfl Tryz.underlying23 Tryz.sizeOf3 sf18 h1 sf20 hix22 (fun g28 o29 cs_g28 hrk_hat30 hat30=>?_))))))
 obtain rfl : _ = [_]:=hrk_hat30
 refine L_ld rfl Tryz.isAgg3 rfl (At.cell (AtH.at hat30 hst.sub) (j:=0) rfl) (aI rfl (aI rfl (nq ?_)))
 obtain ⟨x32,hx32,hB22⟩:=bind_some hB22
 obtain ⟨x42,hx42,hB22⟩:=bind_some hB22
 refine W_region (mI rfl (fA 0 fa_26_0 sf2 rfl (ldB 0 hst Tryz.isAgg23 rfl rfl rfl (mI rfl (L_ix (r:=RP.int) rfl Tryz.underlying23 Tryz.sizeOf3 rfl h0_0 rfl hx32 (fun g44 o45 cs_g44 hrk_hat46 hat46=>?_))))))
 obtain rfl : _ = [_]:=hrk_hat46
 refine L_ld rfl Tryz.isAgg3 rfl (At.cell (AtH.at hat46 hst.sub) (j:=0) rfl) ?_
 obtain ⟨H48b,l49,s50,z51,k52⟩:=hst.borrow
 refine L_call rfl Tryz.call92 (ops3 rfl rfl rfl) (i_within_c (n_:=x_22) (low:=0) (high:=x32) s50 hx42) ?_
 rintro _ w53 ⟨rfl,hst⟩
 have hst:=k52 hst c0
 refine L_not_ rfl rfl (nn (W_cond (b:=(!x42)) rfl (fun hc54=>?_) (fun hc54=>?_)))
 have hB22:=(ite_t hc54).symm.trans hB22
 refine sq (aB rfl (nn (W_ret (retG1 (v1:=Bo false) Tryz.results60 rfl ?_))))
 obtain rfl:=so hB22
 obtain rfl:=so hL22
 obtain rfl:=so hF
 exact ⟨rfl,(Star.keepN 0 hst)⟩
 have hB22:=(ite_f hc54).symm.trans hB22
 refine W_skip (W_region (L_add rfl sf20 rfl (mI rfl (nn ?_))))
 obtain rfl:=so hB22
 show ∃ m,m < _∧I22 m _ _
 refine ⟨rest22.length,by simp,?_⟩
 exact ij hI22 ⟨i_21 + 1,rest22,rfl,drop_next hd22,by simp at hl22; omega,hL22,sf2,sf18,sf19,(Eq.trans rfl (congrArg (Value.int .i64) (i64_succ (n:=cells.length) (by simp at hl22; omega) hlen22))),hst⟩
 rcases suf22 with _ | ⟨_,_⟩
 obtain rfl:=range_nil hL22
 refine W_exit (rj hR22 ⟨rfl,(Star.keepN 0 hst)⟩)
 exact absurd (of_decide_eq_false hc23) (by simp at hl22; omega)
 intro f w_ hR
 obtain ⟨rfl,hst⟩:=rk hR22 hR
 refine sq (aB rfl (nn (W_ret (retG1 (v1:=Bo true) Tryz.results60 rfl ?_))))
 obtain rfl:=so hF
 exact ⟨rfl,hst⟩
theorem i_DecodeValues_c {m : Model} {values : List Bool} {v0_0 : Value} {v0_1 : Value} {v1 : Value} {H : FH} {w : World} (hst : Star H w []) (h0_0 : (rS 3 RP.int).rel H [v0_0] m.sizes) (h0_1 : (rS 79 (rRule 3 23)).rel H [v0_1] m.rules) (h1 : (rS 4 RP.bool).rel H [v1] values) {r : (List Int) × Bool} (hF : i_DecodeValues m values = some r) :
 C Tryz.prog 22 #[.agg #[v0_0,v0_1],v1] w fun v w'=>∃ (u1 : Value),v = .tuple #[u1,Bo r.2]∧Star H w' [oF 3 RP.int u1 r.1]:=by
 unfold i_DecodeValues at hF
 refine C_enter Tryz.func22 rfl Tryz.ntmps22 rfl (sq (L_box (v:=.agg #[v0_0,v0_1]) (cs:=#[v0_0,v0_1]) rfl rfl rfl hst (fun g3 w4 hst=>aV S0 rfl (aB rfl (nq (W_seq ?_))))))
 obtain ⟨x10,hx10,hF⟩:=bind_some hF
 obtain ⟨R12,hR12⟩:=exR fun f w_=>f 1 = v1∧f 2 = Pt g3∧f 18 = Bo ((!x10) || ((values.length : Int) != 12))∧Star H w_ ([box g3 26 #[v0_0,v0_1]])
 refine W_join R12 ?_ ?_
 refine W_region (L_lda (cs:=[v0_0,v0_1]) rfl Tryz.isAgg26 Tryz.sizeOf26 rfl (At.sub0 (Blk.at (Star.blkAt 0 hst rfl)) 0 2) rfl ?_)
 obtain ⟨H13b,l14,s15,z16,k17⟩:=hst.borrow
 refine L_call rfl Tryz.call46 (ops1 rfl) (i_ModelValid_c (m:=m) s15 (RP.mono _ h0_0 l14) (RP.mono _ h0_1 l14) hx10) ?_
 rintro _ w18 ⟨rfl,hst⟩
 have hst:=k17 hst c0
 refine L_not_ rfl rfl (mB rfl (L_split (d:=14) (b:=(!x10)) rfl (fun hc19=>?_) (fun hc19=>?_)))
 refine ps rfl (ps rfl (ps rfl (L_pick (v:=Bo ((!x10) || ((values.length : Int) != 12))) rfl rfl (or_t hc19) (nn (rj hR12 ⟨rfl,rfl,rfl,hst⟩)))))
 refine mV v1 rfl (L_len rfl Tryz.underlying37 rfl (slice_len h1) (L_neq rfl rfl rfl (L_pick (v:=Bo ((!x10) || ((values.length : Int) != 12))) rfl rfl (or_f hc19 rfl) (nn (rj hR12 ⟨rfl,rfl,rfl,hst⟩)))))
 intro f w_ hR
 obtain ⟨sf1,sf2,sf18,hst⟩:=rk hR12 hR
 refine W_cond (b:=((!x10) || ((values.length : Int) != 12))) sf18 (fun hc20=>?_) (fun hc20=>?_)
 have hF:=(ite_t hc20).symm.trans hF
 refine sq (aV S0 rfl (aB rfl (nn (W_ret (retG2 (v1:=S0) (v2:=Bo false) Tryz.results22 rfl rfl ?_)))))
 obtain rfl:=so hF
 have hst:=Star.addNil (R:=(OR.frz RP.int)) (e:=3) hst
 exact ⟨S0,rfl,(Star.keepN 1 hst)⟩
 have hF:=(ite_f hc20).symm.trans hF
 refine W_skip (sq (aV S0 rfl (nq (sq (fA 0 fa_26_0 sf2 rfl (ldB 0 hst Tryz.isAgg23 rfl rfl rfl (L_len rfl Tryz.underlying23 rfl (slice_len h0_0) (mI rfl (nn ?_)))))))))
 have hlen25 : List.length m.sizes≤9223372036854775807:=len_le (slice_len h0_0)
 obtain ⟨j25,hL25,hF⟩:=bind_some hF
 obtain ⟨R25,hR25⟩:=exR fun f w_=>∃ out_23 : List Int,∃ v23_out : Value,j25 = .nx out_23∧f 6 = v23_out∧Star H w_ ([oF 3 RP.int v23_out out_23])
 refine W_join R25 ?_ ?_
 refine W_block ?_
 obtain ⟨I25,hI25⟩:=exI fun n f w_=>∃ i_22 : Nat,∃ suf25 : List Int,∃ out_23 : List Int,∃ v23_out : Value,n = suf25.length∧List.drop i_22 m.sizes = suf25∧i_22 + suf25.length = m.sizes.length∧rangeL (i_DecodeValues_b1 m values) suf25 i_22 out_23 = some j25∧f 1 = v1∧f 2 = Pt g3∧f 6 = v23_out∧f 21 = I (m.sizes.length : Int)∧f 22 = I i_22∧Star H w_ ([oF 3 RP.int v23_out out_23,box g3 26 #[v0_0,v0_1]])
 have hst:=Star.addNil (R:=(OR.frz RP.int)) (e:=3) hst
 refine W_loop I25 (n:=m.sizes.length) ?_ ?_
 exact ij hI25 ⟨0,m.sizes,[],S0,rfl,rfl,Nat.zero_add _,hL25,sf1,sf2,rfl,rfl,rfl,hst⟩
 intro n25 f w_ hI
 obtain ⟨i_22,suf25,out_23,v23_out,rfl,hd25,hl25,hL25,sf1,sf2,sf6,sf21,sf22,hst⟩:=ik hI25 hI
 refine sq (L_lss rfl sf22 sf21 (nq (W_cond (b:=decide ((i_22 : Int) < (m.sizes.length : Int))) rfl (fun hc27=>?_) (fun hc27=>?_))))
 have hlt25:=of_decide_eq_true hc27
 rcases suf25 with _ | ⟨x_25,rest25⟩
 exact absurd hlt25 (by simp at hl25; omega)
 obtain ⟨o25,hB25,hL25⟩:=range_cons hL25
 rw [i_DecodeValues_b1] at hB25
 have hix25:=drop_idx hd25
 refine W_skip (W_seq (W_block (sq (mF sf22 rfl (aI rfl (ns (aI rfl (nq (W_seq ?_)))))))))
 obtain ⟨x33,hx33,hB25⟩:=bind_some hB25
 refine W_region (L_lda (cs:=[v0_0,v0_1]) rfl Tryz.isAgg26 Tryz.sizeOf26 sf2 (At.sub0 (Blk.at (Star.blkAt 1 hst rfl)) 0 2) rfl (mI rfl ?_))
 obtain ⟨H36b,l37,s38,z39,k40⟩:=hst.borrow
 refine L_call rfl Tryz.call47 (ops2 rfl rfl) (i_Model_varsOf_c (m:=m) (cell:=(i_22 : Int)) s38 (RP.mono _ h0_0 l37) (RP.mono _ h0_1 l37) hx33) ?_
 rintro r41_0 w41 ⟨_,rfl,hst⟩
 have hst:=k40 hst (co closed_int c0)
 refine L_len rfl Tryz.underlying23 rfl (Star.len 0 hst rfl) (mI rfl (nn ?_))
 have hlen47 : List.length x33≤9223372036854775807:=len_le (Star.len 0 hst rfl)
 obtain ⟨j47,hL47,hB25⟩:=bind_some hB25
 obtain ⟨R47,hR47⟩:=exR fun f w_=>∃ out_44 : List Int,∃ count_46 : Int,∃ v44_out : Value,j47 = .nx (out_44,count_46)∧f 1 = v1∧f 2 = Pt g3∧f 6 = v44_out∧f 8 = I count_46∧f 21 = I (m.sizes.length : Int)∧f 22 = I i_22∧Star H w_ ([oF 3 RP.int v44_out out_44,box g3 26 #[v0_0,v0_1]])
 refine W_join R47 ?_ ?_
 refine W_block ?_
 obtain ⟨I47,hI47⟩:=exI fun n f w_=>∃ i_43 : Nat,∃ suf47 : List Int,∃ out_44 : List Int,∃ count_46 : Int,∃ v44_out : Value,n = suf47.length∧List.drop i_43 x33 = suf47∧i_43 + suf47.length = x33.length∧rangeL (i_DecodeValues_b2 values) suf47 i_43 (out_44,count_46) = some j47∧f 1 = v1∧f 2 = Pt g3∧f 6 = v44_out∧f 8 = I count_46∧f 21 = I (m.sizes.length : Int)∧f 22 = I i_22∧f 27 = r41_0∧f 28 = I (x33.length : Int)∧f 29 = I i_43∧Star H w_ ([oF 3 RP.int v44_out out_44,oF 3 RP.int r41_0 x33,box g3 26 #[v0_0,v0_1]])
 have hst:=hst.gets [2,1,2] rfl
 refine W_loop I47 (n:=x33.length) ?_ ?_
 exact ij hI47 ⟨0,x33,out_23,0,v23_out,rfl,rfl,Nat.zero_add _,hL47,sf1,sf2,sf6,rfl,sf21,sf22,rfl,rfl,rfl,hst⟩
 intro n47 f w_ hI
 obtain ⟨i_43,suf47,out_44,count_46,v44_out,rfl,hd47,hl47,hL47,sf1,sf2,sf6,sf8,sf21,sf22,sf27,sf28,sf29,hst⟩:=ik hI47 hI
 refine sq (L_lss rfl sf29 sf28 (nq (W_cond (b:=decide ((i_43 : Int) < (x33.length : Int))) rfl (fun hc48=>?_) (fun hc48=>?_))))
 have hlt47:=of_decide_eq_true hc48
 rcases suf47 with _ | ⟨x_47,rest47⟩
 exact absurd hlt47 (by simp at hl47; omega)
 obtain ⟨o47,hB47,hL47⟩:=range_cons hL47
 rw [i_DecodeValues_b2] at hB47
 have hix47:=drop_idx hd47
 refine W_skip (W_seq (W_block (sq (mF sf29 rfl ?_))))
 obtain ⟨g53,cap_g53,hv54,_,_⟩:=Star.row 1 hst rfl hix47
 refine L_ixO (R:=(OR.frz RP.int)) (tb:=0) 0 rfl Tryz.underlying23 Tryz.sizeOf3 sf27 hv54 (by first | rfl | simp) sf29 hix47 ?_
 obtain ⟨cs55,hr55,hat55⟩:=Star.eltF 1 hst rfl hv54 hix47
 obtain rfl : _ = [_]:=hr55
 refine L_ld rfl Tryz.isAgg3 rfl (At.cell hat55 (j:=0) rfl) (aI rfl (aI rfl (nq ?_)))
 obtain ⟨x57,hx57,hB47⟩:=bind_some hB47
 refine W_region (mF sf1 rfl (mI rfl (L_sub rfl rfl rfl (L_ix (r:=RP.bool) rfl Tryz.underlying37 Tryz.sizeOf4 rfl h1 rfl hx57 (fun g62 o63 cs_g62 hrk_hat64 hat64=>?_)))))
 obtain rfl : _ = [_]:=hrk_hat64
 refine L_ld rfl Tryz.isAgg4 rfl (At.cell (AtH.at hat64 hst.sub) (j:=0) rfl) (nn ?_)
 obtain ⟨⟨out_66,count_68⟩,hA69,hB47⟩:=bind_some hB47
 obtain ⟨R69,hR69⟩:=exR fun f w_=>∃ v66_out : Value,f 1 = v1∧f 2 = Pt g3∧f 6 = v66_out∧f 8 = I count_68∧f 21 = I (m.sizes.length : Int)∧f 22 = I i_22∧f 27 = r41_0∧f 28 = I (x33.length : Int)∧f 29 = I i_43∧Star H w_ ([oF 3 RP.int v66_out out_66,oF 3 RP.int r41_0 x33,box g3 26 #[v0_0,v0_1]])
 refine W_join R69 ?_ ?_
 refine W_cond (b:=x57) rfl (fun hc70=>?_) (fun hc70=>?_)
 have hA69:=(ite_t hc70).symm.trans hA69
 refine W_seq ?_
 obtain ⟨x74,hx74,hA69⟩:=bind_some hA69
 refine W_region (mF sf6 rfl (mI rfl (L_bs rfl (parts1 rfl) (bs_23_1_0 (I i_43) rfl) hst (fun g78 w79 hst=>?_))))
 have hst:=Star.addF (r:=RP.int) (cs:=[I i_43]) (x:=(i_43 : Int)) hst rfl
 have hst:=Star.mkRow (R:=(OR.frz RP.int)) [([I i_43],(i_43 : Int))] [(i_43 : Int)] 1 hst rfl rfl rfl (by decide)
 have hst:=hst.get 1 rfl
 refine L_appM (v:=v44_out) (u:=(Sl g78 1 1)) rfl et_23 rfl rfl hst hx74 (fun v81 w82 hst=>aV v81 rfl (nn (W_region (mF sf8 rfl (L_add rfl rfl rfl (aI rfl (nn ?_)))))))
 obtain ⟨rfl,rfl⟩:=so2 hA69
 exact rj hR69 ⟨v81,sf1,sf2,rfl,rfl,sf21,sf22,sf27,sf28,sf29,hst⟩
 have hA69:=(ite_f hc70).symm.trans hA69
 refine W_skip ?_
 obtain ⟨rfl,rfl⟩:=so2 hA69
 exact rj hR69 ⟨v44_out,sf1,sf2,sf6,sf8,sf21,sf22,sf27,sf28,sf29,hst⟩
 intro f w_ hR
 obtain ⟨v66_out,sf1,sf2,sf6,sf8,sf21,sf22,sf27,sf28,sf29,hst⟩:=rk hR69 hR
 refine W_region (L_add rfl sf29 rfl (mI rfl (nn ?_)))
 obtain rfl:=so hB47
 show ∃ m,m < _∧I47 m _ _
 refine ⟨rest47.length,by simp,?_⟩
 exact ij hI47 ⟨i_43 + 1,rest47,out_66,count_68,v66_out,rfl,drop_next hd47,by simp at hl47; omega,hL47,sf1,sf2,sf6,sf8,sf21,sf22,sf27,sf28,(Eq.trans rfl (congrArg (Value.int .i64) (i64_succ (n:=x33.length) (by simp at hl47; omega) hlen47))),hst⟩
 rcases suf47 with _ | ⟨_,_⟩
 obtain rfl:=range_nil hL47
 refine W_exit ?_
 have hst:=hst.gets [2,1] rfl
 exact rj hR47 ⟨out_44,count_46,v44_out,rfl,sf1,sf2,sf6,sf8,sf21,sf22,(Star.keepN 2 hst)⟩
 exact absurd (of_decide_eq_false hc48) (by simp at hl47; omega)
 intro f w_ hR
 obtain ⟨out_44,count_46,v44_out,rfl,sf1,sf2,sf6,sf8,sf21,sf22,hst⟩:=rk hR47 hR
 refine sq (mF sf8 rfl (L_neq rfl rfl rfl (nn (W_cond (b:=(count_46 != 1)) rfl (fun hc84=>?_) (fun hc84=>?_)))))
 have hB25:=(ite_t hc84).symm.trans hB25
 refine sq (aV S0 rfl (aB rfl (nn (W_ret (retG2 (v1:=S0) (v2:=Bo false) Tryz.results22 rfl rfl ?_)))))
 obtain rfl:=so hB25
 obtain rfl:=so hL25
 obtain rfl:=so hF
 have hst:=Star.addNil (R:=(OR.frz RP.int)) (e:=3) hst
 exact ⟨S0,rfl,(Star.keepN 1 hst)⟩
 have hB25:=(ite_f hc84).symm.trans hB25
 refine W_skip (W_region (L_add rfl sf22 rfl (mI rfl (nn ?_))))
 obtain rfl:=so hB25
 show ∃ m,m < _∧I25 m _ _
 refine ⟨rest25.length,by simp,?_⟩
 exact ij hI25 ⟨i_22 + 1,rest25,out_44,v44_out,rfl,drop_next hd25,by simp at hl25; omega,hL25,sf1,sf2,sf6,sf21,(Eq.trans rfl (congrArg (Value.int .i64) (i64_succ (n:=m.sizes.length) (by simp at hl25; omega) hlen25))),hst⟩
 rcases suf25 with _ | ⟨_,_⟩
 obtain rfl:=range_nil hL25
 refine W_exit (rj hR25 ⟨out_23,v23_out,rfl,sf6,(Star.keepN 1 hst)⟩)
 exact absurd (of_decide_eq_false hc27) (by simp at hl25; omega)
 intro f w_ hR
 obtain ⟨out_23,v23_out,rfl,sf6,hst⟩:=rk hR25 hR
 refine sq (mF sf6 rfl (aV v23_out rfl (aB rfl (nn (W_ret (retG2 (v1:=v23_out) (v2:=Bo true) Tryz.results22 rfl rfl ?_))))))
 obtain rfl:=so hF
 exact ⟨v23_out,rfl,hst⟩
theorem i_SolvesModel_c {m : Model} {cells : List Int} {v0_0 : Value} {v0_1 : Value} {v1 : Value} {H : FH} {w : World} (hst : Star H w []) (h0_0 : (rS 3 RP.int).rel H [v0_0] m.sizes) (h0_1 : (rS 79 (rRule 3 23)).rel H [v0_1] m.rules) (h1 : (rS 3 RP.int).rel H [v1] cells) {r : Bool} (hF : i_SolvesModel m cells = some r) :
 C Tryz.prog 23 #[.agg #[v0_0,v0_1],v1] w fun v w'=>v = Bo r∧Star H w' []:=by
 unfold i_SolvesModel at hF
 refine C_enter Tryz.func23 rfl Tryz.ntmps23 rfl (sq (L_box (v:=.agg #[v0_0,v0_1]) (cs:=#[v0_0,v0_1]) rfl rfl rfl hst (fun g3 w4 hst=>aB rfl (nq ?_))))
 obtain ⟨x10,hx10,hF⟩:=bind_some hF
 obtain ⟨b19,hb19,hF⟩:=bind_some hF
 obtain ⟨R20,hR20⟩:=exR fun f w_=>f 4 = Bo b19∧Star H w_ ([])
 refine W_join R20 ?_ ?_
 refine W_region (L_lda (cs:=[v0_0,v0_1]) rfl Tryz.isAgg26 Tryz.sizeOf26 rfl (At.sub0 (Blk.at (Star.blkAt 0 hst rfl)) 0 2) rfl (mV v1 rfl ?_))
 obtain ⟨H21b,l22,s23,z24,k25⟩:=hst.borrow
 refine L_call rfl Tryz.call60 (ops2 rfl rfl) (i_CellsValid_c (m:=m) (cells:=cells) s23 (RP.mono _ h0_0 l22) (RP.mono _ h0_1 l22) (RP.mono _ h1 l22) hx10) ?_
 rintro _ w26 ⟨rfl,hst⟩
 have hst:=k25 hst c0
 refine mB rfl (L_split (d:=8) (b:=x10) rfl (fun hc27=>?_) (fun hc27=>?_))
 rw [ite_t hc27] at hb19
 obtain ⟨x17,hx17,hb19⟩:=bind_some hb19
 refine L_lda (cs:=[v0_0,v0_1]) rfl Tryz.isAgg26 Tryz.sizeOf26 rfl (At.sub0 (Blk.at (Star.blkAt 0 hst rfl)) 0 2) rfl (mV v1 rfl ?_)
 obtain ⟨H28b,l29,s30,z31,k32⟩:=hst.borrow
 refine L_call rfl Tryz.call59 (ops2 rfl rfl) (i_Model_solves_c (m:=m) (cells:=cells) s30 (RP.mono _ h0_0 l29) (RP.mono _ h0_1 l29) (RP.mono _ h1 l29) hx17) ?_
 rintro _ w33 ⟨rfl,hst⟩
 have hst:=k32 hst c0
 refine L_pick (v:=Bo b19) rfl rfl (congrArg Value.bool (so hb19)) (aB rfl (nn (rj hR20 ⟨rfl,(Star.keepN 0 hst)⟩)))
 rw [ite_f hc27] at hb19
 refine ps rfl (ps rfl (ps rfl (L_pick (v:=Bo b19) rfl rfl (congrArg Value.bool (so hb19)) (aB rfl (nn (rj hR20 ⟨rfl,(Star.keepN 0 hst)⟩))))))
 intro f w_ hR
 obtain ⟨sf4,hst⟩:=rk hR20 hR
 refine W_ret (retG1 (v1:=Bo b19) Tryz.results23 sf4 ?_)
 obtain rfl:=so hF
 exact ⟨rfl,hst⟩
theorem i_holds_c {l : Int} {values : List Bool} {v1 : Value} {H : FH} {w : World} (hst : Star H w []) (h1 : (rS 4 RP.bool).rel H [v1] values) {r : Bool} (hF : i_holds l values = some r) :
 C Tryz.prog 163 #[I l,v1] w fun v w'=>v = Bo r∧Star H w' []:=by
 unfold i_holds at hF
 refine C_enter Tryz.func163 rfl Tryz.ntmps163 rfl (sq (aB rfl (nq ?_)))
 obtain ⟨x6,hx6,hF⟩:=bind_some hF
 obtain ⟨x8,hx8,hF⟩:=bind_some hF
 refine W_region (mV v1 rfl (mI rfl ?_))
 obtain ⟨H13b,l14,s15,z16,k17⟩:=hst.borrow
 refine L_call rfl Tryz.call100 (ops1 rfl) (i_variableOf_c (l:=l) s15 hx6) ?_
 rintro _ w18 ⟨rfl,hst⟩
 have hst:=k17 hst c0
 refine L_sub rfl rfl rfl (L_ix (r:=RP.bool) rfl Tryz.underlying37 Tryz.sizeOf4 rfl h1 rfl hx8 (fun g19 o20 cs_g19 hrk_hat21 hat21=>?_))
 obtain rfl : _ = [_]:=hrk_hat21
 refine L_ld rfl Tryz.isAgg4 rfl (At.cell (AtH.at hat21 hst.sub) (j:=0) rfl) (mI rfl (L_gtr rfl rfl rfl (L_beql (b:=x8) (c:=decide (l > 0)) rfl Tryz.underlying4 rfl rfl (aB rfl (nn (W_ret (retG1 (v1:=Bo (x8 == (decide (l > 0)))) Tryz.results163 rfl ?_)))))))
 obtain rfl:=so hF
 exact ⟨rfl,hst⟩
theorem i_Constraint_holds_c {c : Con} {values : List Bool} {v0_0 : Value} {v1 : Value} {H : FH} {w : World} (hst : Star H w []) (h0_0 : (rS 122 rTerm).rel H [v0_0] c.terms) (h1 : (rS 4 RP.bool).rel H [v1] values) {r : Bool} (hF : i_Constraint_holds c values = some r) :
 C Tryz.prog 125 #[.agg #[v0_0,I c.bound],v1] w fun v w'=>v = Bo r∧Star H w' []:=by
 unfold i_Constraint_holds at hF
 refine C_enter Tryz.func125 rfl Tryz.ntmps125 rfl (sq (L_box (v:=.agg #[v0_0,I c.bound]) (cs:=#[v0_0,I c.bound]) rfl rfl rfl hst (fun g3 w4 hst=>aB rfl (ns (aI rfl (nq (sq (fA 0 fa_73_0 rfl rfl (ldB 0 hst Tryz.isAgg71 rfl rfl rfl (L_len rfl Tryz.underlying71 rfl (slice_len h0_0) (mI rfl (nn ?_))))))))))))
 have hlen7 : List.length c.terms≤9223372036854775807:=len_le (slice_len h0_0)
 obtain ⟨j7,hL7,hF⟩:=bind_some hF
 obtain ⟨R7,hR7⟩:=exR fun f w_=>∃ sum_6 : Int,j7 = .nx sum_6∧f 2 = Pt g3∧f 5 = I sum_6∧Star H w_ ([box g3 73 #[v0_0,I c.bound]])
 refine W_join R7 ?_ ?_
 refine W_block ?_
 obtain ⟨I7,hI7⟩:=exI fun n f w_=>∃ i_5 : Nat,∃ suf7 : List Term,∃ sum_6 : Int,n = suf7.length∧List.drop i_5 c.terms = suf7∧i_5 + suf7.length = c.terms.length∧rangeL (i_Constraint_holds_b1 values) suf7 i_5 sum_6 = some j7∧f 1 = v1∧f 2 = Pt g3∧f 5 = I sum_6∧f 9 = v0_0∧f 10 = I (c.terms.length : Int)∧f 11 = I i_5∧Star H w_ ([box g3 73 #[v0_0,I c.bound]])
 refine W_loop I7 (n:=c.terms.length) ?_ ?_
 exact ij hI7 ⟨0,c.terms,0,rfl,rfl,Nat.zero_add _,hL7,rfl,rfl,rfl,rfl,rfl,rfl,hst⟩
 intro n7 f w_ hI
 obtain ⟨i_5,suf7,sum_6,rfl,hd7,hl7,hL7,sf1,sf2,sf5,sf9,sf10,sf11,hst⟩:=ik hI7 hI
 refine sq (L_lss rfl sf11 sf10 (nq (W_cond (b:=decide ((i_5 : Int) < (c.terms.length : Int))) rfl (fun hc8=>?_) (fun hc8=>?_))))
 have hlt7:=of_decide_eq_true hc8
 rcases suf7 with _ | ⟨x_7,rest7⟩
 exact absurd hlt7 (by simp at hl7; omega)
 obtain ⟨o7,hB7,hL7⟩:=range_cons hL7
 rw [i_Constraint_holds_b1] at hB7
 have hix7:=drop_idx hd7
 refine W_skip (W_seq (W_block (sq (L_ix (r:=rTerm) rfl Tryz.underlying71 Tryz.sizeOf122 sf9 h0_0 sf11 hix7 (fun g16 o17 cs_g16 hrk_hat18 hat18=>?_)))))
 obtain rfl:=rTerm_iff.1 hrk_hat18
 refine L_lda (cs:=[I x_7.coef,I x_7.lit]) rfl Tryz.isAgg122 Tryz.sizeOf122 rfl (At.sub (AtH.at hat18 hst.sub) 0 2) rfl (L_al (cs:=#[I 0,I 0]) rfl Tryz.zeroValue122 rfl hst (fun g20 w21 hst=>L_staB (vs:=#[I x_7.coef,I x_7.lit]) (cs2:=#[I x_7.coef,I x_7.lit]) 0 rfl Tryz.sizeOf122 rfl rfl rfl (ones_cons rfl (ones_cons rfl ones_nil)) hst rfl (by show 0 + 2≤2; decide) rfl (fun w22 hst=>nq ?_)))
 obtain ⟨x28,hx28,hB7⟩:=bind_some hB7
 refine W_region (fA 1 fa_122_1 rfl rfl (ldB 0 hst Tryz.isAgg3 rfl rfl rfl (mF sf1 rfl ?_)))
 obtain ⟨H30b,l31,s32,z33,k34⟩:=hst.borrow
 refine L_call rfl Tryz.call163 (ops2 rfl rfl) (i_holds_c (l:=x_7.lit) (values:=values) s32 (RP.mono _ h1 l31) hx28) ?_
 rintro _ w35 ⟨rfl,hst⟩
 have hst:=k34 hst c0
 refine nn ?_
 obtain ⟨sum_36,hA37,hB7⟩:=bind_some hB7
 obtain ⟨R37,hR37⟩:=exR fun f w_=>f 1 = v1∧f 2 = Pt g3∧f 5 = I sum_36∧f 9 = v0_0∧f 10 = I (c.terms.length : Int)∧f 11 = I i_5∧Star H w_ ([box g3 73 #[v0_0,I c.bound]])
 refine W_join R37 ?_ ?_
 refine W_cond (b:=x28) rfl (fun hc38=>?_) (fun hc38=>?_)
 have hA37:=(ite_t hc38).symm.trans hA37
 refine W_region (mF sf5 rfl (fA 0 fa_122_0 rfl rfl (ldB 0 hst Tryz.isAgg3 rfl rfl rfl (L_add rfl rfl rfl (aI rfl (nn ?_))))))
 obtain rfl:=so hA37
 have hst:=hst.get 1 rfl
 exact rj hR37 ⟨sf1,sf2,rfl,sf9,sf10,sf11,(Star.keepN 1 hst)⟩
 have hA37:=(ite_f hc38).symm.trans hA37
 refine W_skip ?_
 obtain rfl:=so hA37
 have hst:=hst.get 1 rfl
 exact rj hR37 ⟨sf1,sf2,sf5,sf9,sf10,sf11,(Star.keepN 1 hst)⟩
 intro f w_ hR
 obtain ⟨sf1,sf2,sf5,sf9,sf10,sf11,hst⟩:=rk hR37 hR
 refine W_region (L_add rfl sf11 rfl (mI rfl (nn ?_)))
 obtain rfl:=so hB7
 show ∃ m,m < _∧I7 m _ _
 refine ⟨rest7.length,by simp,?_⟩
 exact ij hI7 ⟨i_5 + 1,rest7,sum_36,rfl,drop_next hd7,by simp at hl7; omega,hL7,sf1,sf2,sf5,sf9,sf10,(Eq.trans rfl (congrArg (Value.int .i64) (i64_succ (n:=c.terms.length) (by simp at hl7; omega) hlen7))),hst⟩
 rcases suf7 with _ | ⟨_,_⟩
 obtain rfl:=range_nil hL7
 refine W_exit (rj hR7 ⟨sum_6,rfl,sf2,sf5,hst⟩)
 exact absurd (of_decide_eq_false hc8) (by simp at hl7; omega)
 intro f w_ hR
 obtain ⟨sum_6,rfl,sf2,sf5,hst⟩:=rk hR7 hR
 refine sq (mF sf5 rfl (fA 1 fa_73_1 sf2 rfl (ldB 0 hst Tryz.isAgg3 rfl rfl rfl (L_geq rfl rfl rfl (aB rfl (nn (W_ret (retG1 (v1:=Bo (decide (sum_6 ≥ c.bound))) Tryz.results125 rfl ?_))))))))
 obtain rfl:=so hF
 exact ⟨rfl,(Star.keepN 0 hst)⟩
theorem i_satisfies_1_c {c1 : List Bool} {c : Con} {v0_0 : Value} {g_c1 : Nat} {v1_0 : Value} {H : FH} {w : World} (hst : Star H w []) (h0_0 : (rS 122 rTerm).rel H [v0_0] c.terms) (hat_g_c1 : AtH H g_c1 0 [v1_0]) (h1_0 : (rS 4 RP.bool).rel H [v1_0] c1) {r : Bool} (hF : i_satisfies_1 c1 c = some r) :
 C Tryz.prog 124 #[.agg #[v0_0,I c.bound],Pt g_c1] w fun v w'=>v = Bo r∧Star H w' []:=by
 unfold i_satisfies_1 at hF
 refine C_enter Tryz.func124 rfl Tryz.ntmps124 rfl (sq (L_box (v:=.agg #[v0_0,I c.bound]) (cs:=#[v0_0,I c.bound]) rfl rfl rfl hst (fun g3 w4 hst=>aB rfl (nq ?_))))
 obtain ⟨x10,hx10,hF⟩:=bind_some hF
 refine W_region (L_lda (cs:=[v0_0,I c.bound]) rfl Tryz.isAgg73 Tryz.sizeOf73 rfl (At.sub0 (Blk.at (Star.blkAt 0 hst rfl)) 0 2) rfl (L_ld rfl Tryz.isAgg37 rfl (At.cell0 (AtH.at hat_g_c1 hst.sub) (j:=0) rfl) ?_))
 obtain ⟨H12b,l13,s14,z15,k16⟩:=hst.borrow
 refine L_call rfl Tryz.call125 (ops2 rfl rfl) (i_Constraint_holds_c (c:=c) (values:=c1) s14 (RP.mono _ h0_0 l13) (RP.mono _ h1_0 l13) hx10) ?_
 rintro _ w17 ⟨rfl,hst⟩
 have hst:=k16 hst c0
 refine L_not_ rfl rfl (aB rfl (nn (W_ret (retG1 (v1:=Bo (!x10)) Tryz.results124 rfl ?_))))
 obtain rfl:=so hF
 exact ⟨rfl,(Star.keepN 0 hst)⟩
theorem i_satisfies_c {list : List Con} {values : List Bool} {v0 : Value} {v1 : Value} {H : FH} {w : World} (hst : Star H w []) (h0 : (rS 73 (rCon 122)).rel H [v0] list) (h1 : (rS 4 RP.bool).rel H [v1] values) {r : Bool} (hF : i_satisfies list values = some r) :
 C Tryz.prog 71 #[v0,v1] w fun v w'=>v = Bo r∧Star H w' []:=by
 unfold i_satisfies at hF
 refine C_enter Tryz.func71 rfl Tryz.ntmps71 rfl (sq (L_box (v:=v1) (cs:=#[v1]) rfl rfl (cells_one (one_len (slice_len h1))) hst (fun g3 w4 hst=>aB rfl (nq ?_))))
 obtain ⟨x10,hx10,hF⟩:=bind_some hF
 refine W_region (mV v0 rfl (L_mf rfl (ops1 rfl) ?_))
 obtain ⟨H12b,l13,s14,z15,k16⟩:=hst.borrow
 have hf17 : Fun1 Tryz.prog (rCon 122) true Value.bool (i_satisfies_1 values) (.func (.func 124) #[] #[Pt g3]) H12b:=by
   refine ⟨_,_,rfl,Tryz.call124,fun H_ w_ hE_ hs_ cs_ x_ y_ args_ hr_ hy_ ha_=>?_⟩
   obtain ⟨p_0,rfl,hp_0⟩:=rCon_iff.1 hr_
   obtain rfl:=args_of (b:=#[.agg #[p_0,I x_.bound],Pt g3]) ha_
   exact i_satisfies_1_c (c1:=values) (c:=x_) hs_ hp_0 (AtH.le (AtH.of (fz_box 0 z15 rfl)) hE_) (RP.mono _ (RP.mono _ h1 l13) hE_) hy_
 refine L_call rfl Tryz.call123 (ops2 rfl rfl) (slices_ContainsFunc_implConstraint_c (s:=list) (f_:=(i_satisfies_1 values)) s14 (RP.mono _ h0 l13) hf17 hx10) ?_
 rintro _ w18 ⟨rfl,hst⟩
 have hst:=k16 hst c0
 refine L_not_ rfl rfl (aB rfl (nn (W_ret (retG1 (v1:=Bo (!x10)) Tryz.results71 rfl ?_))))
 obtain rfl:=so hF
 exact ⟨rfl,(Star.keepN 0 hst)⟩
theorem i_SatisfiesAll_c {list : List Con} {values : List Bool} {v0 : Value} {v1 : Value} {H : FH} {w : World} (hst : Star H w []) (h0 : (rS 73 (rCon 122)).rel H [v0] list) (h1 : (rS 4 RP.bool).rel H [v1] values) {r : Bool} (hF : i_SatisfiesAll list values = some r) :
 C Tryz.prog 28 #[v0,v1] w fun v w'=>v = Bo r∧Star H w' []:=by
 unfold i_SatisfiesAll at hF
 refine C_enter Tryz.func28 rfl Tryz.ntmps28 rfl (sq (aB rfl (nq ?_)))
 obtain ⟨x6,hx6,hF⟩:=bind_some hF
 obtain ⟨b15,hb15,hF⟩:=bind_some hF
 obtain ⟨R16,hR16⟩:=exR fun f w_=>f 4 = Bo b15∧Star H w_ ([])
 refine W_join R16 ?_ ?_
 refine W_region (mV v0 rfl ?_)
 obtain ⟨H17b,l18,s19,z20,k21⟩:=hst.borrow
 refine L_call rfl Tryz.call37 (ops1 rfl) (i_ProblemValid_c (list:=list) s19 (RP.mono _ h0 l18) hx6) ?_
 rintro _ w22 ⟨rfl,hst⟩
 have hst:=k21 hst c0
 refine mB rfl (L_split (d:=7) (b:=x6) rfl (fun hc23=>?_) (fun hc23=>?_))
 refine mV v1 rfl (L_len rfl Tryz.underlying37 rfl (slice_len h1) (L_eql rfl rfl rfl (L_pick (v:=Bo (x6 && ((values.length : Int) == 12))) rfl rfl (and_t hc23 rfl) (mB rfl (L_split (d:=12) (b:=(x6 && ((values.length : Int) == 12))) rfl (fun hc24=>?_) (fun hc24=>?_))))))
 rw [ite_t hc24] at hb15
 obtain ⟨x13,hx13,hb15⟩:=bind_some hb15
 refine mV v0 rfl (mV v1 rfl ?_)
 obtain ⟨H25b,l26,s27,z28,k29⟩:=hst.borrow
 refine L_call rfl Tryz.call71 (ops2 rfl rfl) (i_satisfies_c (list:=list) (values:=values) s27 (RP.mono _ h0 l26) (RP.mono _ h1 l26) hx13) ?_
 rintro _ w30 ⟨rfl,hst⟩
 have hst:=k29 hst c0
 refine L_pick (v:=Bo b15) rfl rfl (congrArg Value.bool (so hb15)) (aB rfl (nn (rj hR16 ⟨rfl,hst⟩)))
 rw [ite_f hc24] at hb15
 refine ps rfl (ps rfl (ps rfl (L_pick (v:=Bo b15) rfl rfl (congrArg Value.bool (so hb15)) (aB rfl (nn (rj hR16 ⟨rfl,hst⟩))))))
 refine ps rfl (ps rfl (ps rfl (L_pick (v:=Bo (x6 && ((values.length : Int) == 12))) rfl rfl (and_f hc23) (mB rfl (L_split (d:=12) (b:=(x6 && ((values.length : Int) == 12))) rfl (fun hc31=>?_) (fun hc31=>?_))))))
 rw [ite_t hc31] at hb15
 obtain ⟨x13,hx13,hb15⟩:=bind_some hb15
 refine mV v0 rfl (mV v1 rfl ?_)
 obtain ⟨H32b,l33,s34,z35,k36⟩:=hst.borrow
 refine L_call rfl Tryz.call71 (ops2 rfl rfl) (i_satisfies_c (list:=list) (values:=values) s34 (RP.mono _ h0 l33) (RP.mono _ h1 l33) hx13) ?_
 rintro _ w37 ⟨rfl,hst⟩
 have hst:=k36 hst c0
 refine L_pick (v:=Bo b15) rfl rfl (congrArg Value.bool (so hb15)) (aB rfl (nn (rj hR16 ⟨rfl,hst⟩)))
 rw [ite_f hc31] at hb15
 refine ps rfl (ps rfl (ps rfl (L_pick (v:=Bo b15) rfl rfl (congrArg Value.bool (so hb15)) (aB rfl (nn (rj hR16 ⟨rfl,hst⟩))))))
 intro f w_ hR
 obtain ⟨sf4,hst⟩:=rk hR16 hR
 refine W_ret (retG1 (v1:=Bo b15) Tryz.results28 sf4 ?_)
 obtain rfl:=so hF
 exact ⟨rfl,hst⟩
theorem l_cpValues_c {n_ : Int} {H : FH} {w : World} (hst : Star H w []) {r : List Bool} (hF : l_cpValues n_ = some r) :
 C Tryz.prog 33 #[I n_] w fun v w'=>∃ (u1 : Value),v = u1∧Star H w' [oF 4 RP.bool u1 r]:=by
 unfold l_cpValues at hF
 refine C_enter Tryz.func33 rfl Tryz.ntmps33 rfl (sq (aV S0 rfl (ns (L_bs rfl parts0 (bs_37_0  ) hst (fun g4 w5 hst=>?_)))))
 have hst:=Star.mkRow (R:=(OR.frz RP.bool)) [] [] 0 hst rfl rfl rfl (by decide)
 refine aV (Sl g4 0 0) rfl (nq (sq (aI rfl (nn ?_))))
 obtain ⟨k12,hk12,hF⟩:=bind_some hF
 obtain ⟨j11,hL11,hF⟩:=bind_some hF
 obtain ⟨R11,hR11⟩:=exR fun f w_=>∃ n_8 : Int,∃ out_9 : List Bool,∃ v9_out : Value,j11 = .nx (n_8,out_9)∧f 3 = v9_out∧Star H w_ ([oF 4 RP.bool v9_out out_9])
 refine W_join R11 ?_ ?_
 refine W_block ?_
 obtain ⟨I11,hI11⟩:=exI fun n f w_=>∃ i_7 : Nat,∃ suf11 : Nat,∃ n_8 : Int,∃ out_9 : List Bool,∃ v9_out : Value,suf11 = n∧0≤i_7∧i_7 + suf11 = 0 + k12∧countL l_cpValues_b1 suf11 i_7 (n_8,out_9) = some j11∧f 0 = I n_8∧f 3 = v9_out∧f 4 = I i_7∧Star H w_ ([oF 4 RP.bool v9_out out_9])
 refine W_loop I11 (n:=k12) ?_ ?_
 exact ij hI11 ⟨0,k12,n_,[],(Sl g4 0 0),rfl,Nat.le_refl _,rfl,hL11,rfl,rfl,rfl,hst⟩
 intro n11 f w_ hI
 obtain ⟨i_7,suf11,n_8,out_9,v9_out,rfl,hs11,hl11,hL11,sf0,sf3,sf4,hst⟩:=ik hI11 hI
 refine W_seq (sq (mF sf4 rfl (L_lss rfl rfl rfl (nn (W_cond (b:=decide ((i_7 : Int) < 12)) rfl (fun hc13=>?_) (fun hc13=>?_))))))
 have hlt11:=of_decide_eq_true hc13
 rcases suf11 with _ | rest11
 exact absurd hlt11 (cntF_no hl11 hk12)
 obtain ⟨o11,hB11,hL11⟩:=count_succ hL11
 rw [l_cpValues_b1] at hB11
 refine W_skip (W_seq (W_block (W_seq ?_)))
 obtain ⟨x17,hx17,hB11⟩:=bind_some hB11
 refine W_region (mF sf3 rfl (mF sf0 rfl (L_rem (m:=n_8) (n:=2) rfl rfl rfl (by decide) (L_eql rfl rfl rfl (L_bs rfl (parts1 rfl) (bs_37_1_0 (Bo ((Int.tmod n_8 2) == 1)) rfl) hst (fun g21 w22 hst=>?_))))))
 have hst:=Star.addF (r:=RP.bool) (cs:=[Bo ((Int.tmod n_8 2) == 1)]) (x:=((Int.tmod n_8 2) == 1)) hst rfl
 have hst:=Star.mkRow (R:=(OR.frz RP.bool)) [([Bo ((Int.tmod n_8 2) == 1)],((Int.tmod n_8 2) == 1))] [((Int.tmod n_8 2) == 1)] 1 hst rfl rfl rfl (by decide)
 have hst:=hst.get 1 rfl
 refine L_appM (v:=v9_out) (u:=(Sl g21 1 1)) rfl et_37 rfl rfl hst hx17 (fun v24 w25 hst=>aV v24 rfl (nn (W_region (mF sf0 rfl (L_quo (m:=n_8) (n:=2) rfl rfl rfl (by decide) (aI rfl (nn (W_region (mF sf4 rfl (L_add rfl rfl rfl (aI rfl (nn ?_))))))))))))
 obtain rfl:=so hB11
 show ∃ m,m < _∧I11 m _ _
 refine ⟨rest11,Nat.lt_succ_self _,?_⟩
 exact ij hI11 ⟨i_7 + 1,rest11,i64 (Int.tdiv n_8 2),x17,v24,rfl,by omega,by omega,hL11,rfl,rfl,(Eq.trans rfl (congrArg (Value.int .i64) (i64_succ (n:=0 + k12) (by omega) (cntF_le hk12)))),hst⟩
 rcases suf11 with _ | _
 obtain rfl:=count_zero hL11
 refine W_exit (rj hR11 ⟨n_8,out_9,v9_out,rfl,sf3,hst⟩)
 exact absurd (cntF_yes hs11 hl11 hk12) (of_decide_eq_false hc13)
 intro f w_ hR
 obtain ⟨n_8,out_9,v9_out,rfl,sf3,hst⟩:=rk hR11 hR
 refine sq (mF sf3 rfl (aV v9_out rfl (nn (W_ret (retG1 (v1:=v9_out) Tryz.results33 rfl ?_)))))
 obtain rfl:=so hF
 exact ⟨v9_out,rfl,hst⟩
theorem l_FnDecodeSolves_c {fu : Nat} {code : List UInt8} {v0 : Value} {H : FH} {w : World} (hst : Star H w []) (h0 : (rS 5 RP.u8).rel H [v0] code) {r : Bool} (hF : l_FnDecodeSolves fu code = some r) :
 C Tryz.prog 7 #[v0] w fun v w'=>v = Bo r∧Star H w' []:=by
 unfold l_FnDecodeSolves at hF
 refine C_enter Tryz.func7 rfl Tryz.ntmps7 rfl (sq (aB rfl (nq (sq (mV v0 rfl (L_len rfl Tryz.underlying22 rfl (slice_len h0) (L_gtr rfl rfl rfl (nn (W_cond (b:=decide ((code.length : Int) > 1048576)) rfl (fun hc1=>?_) (fun hc1=>?_))))))))))
 have hF:=(ite_t hc1).symm.trans hF
 refine sq (aB rfl (nn (W_ret (retG1 (v1:=Bo true) Tryz.results7 rfl ?_))))
 obtain rfl:=so hF
 exact ⟨rfl,hst⟩
 have hF:=(ite_f hc1).symm.trans hF
 refine W_skip (W_seq ?_)
 obtain ⟨hx2,hF⟩:=anyB_some hF
 refine W_region (mV v0 rfl (L_call rfl Tryz.call12 (ops1 rfl) (s_DrawEncodeModel_c (code:=code) hst h0 hx2) ?_))
 rintro _ w7 ⟨x2,gd7,H7,l7,r7_0,r7_1,rfl,hr7_0,hr7_1,hst⟩
 have hF:=hF x2 gd7
 refine L_al (cs:=#[S0,S0]) rfl Tryz.zeroValue26 rfl hst (fun g8 w9 hst=>L_staB (vs:=#[r7_0,r7_1]) (cs2:=#[r7_0,r7_1]) 0 rfl Tryz.sizeOf26 rfl rfl rfl (ones_cons (one_len (slice_len hr7_0)) (ones_cons (one_len (slice_len hr7_1)) ones_nil)) hst rfl (by show 0 + 2≤2; decide) rfl (fun w10 hst=>nq ?_))
 obtain ⟨x11,hx11,hF⟩:=bind_some hF
 refine W_region (L_lda (cs:=[r7_0,r7_1]) rfl Tryz.isAgg26 Tryz.sizeOf26 rfl (At.sub0 (Blk.at (Star.blkAt 0 hst rfl)) 0 2) rfl (L_call rfl Tryz.call13 (ops1 rfl) (i_EncodeModel_c (m:=x2) hst hr7_0 hr7_1 hx11) ?_))
 rintro _ w14 ⟨H14,l14,r14_0,rfl,hst⟩
 refine mV (.tuple #[r14_0,Bo x11.2]) rfl (L_ex (v:=r14_0) rfl rfl rfl (L_ex (v:=Bo x11.2) rfl rfl rfl (aV r14_0 rfl (aB rfl (nq ?_)))))
 obtain ⟨x21,hx21,hF⟩:=bind_some hF
 refine W_region (L_lda (cs:=[r7_0,r7_1]) rfl Tryz.isAgg26 Tryz.sizeOf26 rfl (At.sub0 (Blk.at (Star.blkAt 1 hst rfl)) 0 2) rfl ?_)
 obtain ⟨H24b,l25,s26,z27,k28⟩:=hst.borrow
 refine L_call rfl Tryz.call14 (ops1 rfl) (s_EncodeModel_c (m:=x2) s26 (RP.mono _ hr7_0 (Le.trans l14 l25)) (RP.mono _ hr7_1 (Le.trans l14 l25)) hx21) ?_
 rintro _ w29 ⟨r29_0,rfl,hst⟩
 have hst:=k28 hst (co closed_oCon c0)
 refine mV (.tuple #[r29_0,Bo x21.2]) rfl (L_ex (v:=r29_0) rfl rfl rfl (L_ex (v:=Bo x21.2) rfl rfl rfl (aV r29_0 rfl (aB rfl (nq (W_seq ?_))))))
 obtain ⟨b40,hb40,hF⟩:=bind_some hF
 obtain ⟨R41,hR41⟩:=exR fun f w_=>f 3 = Pt g8∧f 4 = r14_0∧f 5 = Bo x11.2∧f 6 = r29_0∧f 7 = Bo x21.2∧f 39 = Bo (b40 || (!x11.2))∧Star H14 w_ ([oF 73 (rCon 122) r14_0 x11.1,oS 73 (oCon 122) r29_0 x21.1,box g8 26 #[r7_0,r7_1]])
 refine W_join R41 ?_ ?_
 refine W_region (mB rfl (mB rfl (L_bneq (b:=x11.2) (c:=x21.2) rfl Tryz.underlying4 rfl rfl (mB rfl (L_split (d:=30) (b:=(x11.2 != x21.2)) rfl (fun hc42=>?_) (fun hc42=>?_))))))
 rw [ite_t hc42] at hb40
 refine ps rfl (ps rfl (ps rfl (ps rfl (L_pick (v:=Bo b40) rfl rfl (congrArg Value.bool (so hb40)) (mB rfl (L_split (d:=36) (b:=b40) rfl (fun hc43=>?_) (fun hc43=>?_)))))))
 refine ps rfl (ps rfl (L_pick (v:=Bo (b40 || (!x11.2))) rfl rfl (or_t hc43) (nn ?_)))
 have hst:=hst.gets [2,1,2] rfl
 exact rj hR41 ⟨rfl,rfl,rfl,rfl,rfl,rfl,hst⟩
 refine mB rfl (L_not_ rfl rfl (L_pick (v:=Bo (b40 || (!x11.2))) rfl rfl (or_f hc43 rfl) (nn ?_)))
 have hst:=hst.gets [2,1,2] rfl
 exact rj hR41 ⟨rfl,rfl,rfl,rfl,rfl,rfl,hst⟩
 rw [ite_f hc42] at hb40
 obtain ⟨x38,hx38,hb40⟩:=bind_some hb40
 refine mV r14_0 rfl (mV r29_0 rfl ?_)
 obtain ⟨H44b,l45,s46,z47,k48⟩:=hst.borrow
 have hb49 : (rS 73 (rCon 122)).rel H44b [r14_0] x11.1:=fz_own 1 z47 rfl
 have hb50 : (rS 73 (rCon 122)).rel H44b [r29_0] x21.1:=fz_own 0 z47 rfl
 refine L_call rfl Tryz.call15 (ops2 rfl rfl) (l_cpProblem_c (a:=x11.1) (b:=x21.1) s46 hb49 hb50 hx38) ?_
 rintro _ w51 ⟨rfl,hst⟩
 have hst:=k48 hst c0
 refine L_not_ rfl rfl (L_pick (v:=Bo b40) rfl rfl (congrArg Value.bool (so hb40)) (mB rfl (L_split (d:=36) (b:=b40) rfl (fun hc52=>?_) (fun hc52=>?_))))
 refine ps rfl (ps rfl (L_pick (v:=Bo (b40 || (!x11.2))) rfl rfl (or_t hc52) (nn ?_)))
 have hst:=hst.gets [2,1,2] rfl
 exact rj hR41 ⟨rfl,rfl,rfl,rfl,rfl,rfl,hst⟩
 refine mB rfl (L_not_ rfl rfl (L_pick (v:=Bo (b40 || (!x11.2))) rfl rfl (or_f hc52 rfl) (nn ?_)))
 have hst:=hst.gets [2,1,2] rfl
 exact rj hR41 ⟨rfl,rfl,rfl,rfl,rfl,rfl,hst⟩
 intro f w_ hR
 obtain ⟨sf3,sf4,sf5,sf6,sf7,sf39,hst⟩:=rk hR41 hR
 refine W_cond (b:=(b40 || (!x11.2))) sf39 (fun hc53=>?_) (fun hc53=>?_)
 have hF:=(ite_t hc53).symm.trans hF
 refine W_seq ?_
 obtain ⟨b63,hb63,hF⟩:=bind_some hF
 obtain ⟨R64,hR64⟩:=exR fun f w_=>f 2 = Bo b63∧Star H14 w_ ([])
 refine W_join R64 ?_ ?_
 refine W_region (mF sf5 rfl (mF sf7 rfl (L_beql (b:=x11.2) (c:=x21.2) rfl Tryz.underlying4 rfl rfl (mB rfl (L_split (d:=43) (b:=(x11.2 == x21.2)) rfl (fun hc65=>?_) (fun hc65=>?_))))))
 rw [ite_t hc65] at hb63
 obtain ⟨x61,hx61,hb63⟩:=bind_some hb63
 refine mF sf4 rfl (mF sf6 rfl ?_)
 obtain ⟨H66b,l67,s68,z69,k70⟩:=hst.borrow
 have hb71 : (rS 73 (rCon 122)).rel H66b [r14_0] x11.1:=fz_own 0 z69 rfl
 have hb72 : (rS 73 (rCon 122)).rel H66b [r29_0] x21.1:=fz_own 1 z69 rfl
 refine L_call rfl Tryz.call15 (ops2 rfl rfl) (l_cpProblem_c (a:=x11.1) (b:=x21.1) s68 hb71 hb72 hx61) ?_
 rintro _ w73 ⟨rfl,hst⟩
 have hst:=k70 hst c0
 refine L_pick (v:=Bo b63) rfl rfl (congrArg Value.bool (so hb63)) (aB rfl (nn (rj hR64 ⟨rfl,(Star.keepN 0 hst)⟩)))
 rw [ite_f hc65] at hb63
 refine ps rfl (ps rfl (ps rfl (L_pick (v:=Bo b63) rfl rfl (congrArg Value.bool (so hb63)) (aB rfl (nn (rj hR64 ⟨rfl,(Star.keepN 0 hst)⟩))))))
 intro f w_ hR
 obtain ⟨sf2,hst⟩:=rk hR64 hR
 refine W_ret (retG1 (v1:=Bo b63) Tryz.results7 sf2 ?_)
 obtain rfl:=so hF
 exact ⟨rfl,(Star.down hst (Le.trans l7 l14) c0)⟩
 have hF:=(ite_f hc53).symm.trans hF
 refine W_skip (W_seq (sq (aI rfl (nn ?_))))
 obtain ⟨k76,hk76,hF⟩:=bind_some hF
 obtain ⟨j75,hL75,hF⟩:=bind_some hF
 obtain ⟨R75,hR75⟩:=exR fun f w_=>j75 = .nx ()∧Star H14 w_ ([])
 refine W_join R75 ?_ ?_
 refine W_block ?_
 obtain ⟨I75,hI75⟩:=exI fun n f w_=>∃ i_74 : Nat,∃ suf75 : Nat,suf75 = n∧0≤i_74∧i_74 + suf75 = 0 + k76∧countL (l_FnDecodeSolves_b1 x2 x11) suf75 i_74 () = some j75∧f 3 = Pt g8∧f 4 = r14_0∧f 8 = I i_74∧Star H14 w_ ([oF 73 (rCon 122) r14_0 x11.1,box g8 26 #[r7_0,r7_1]])
 have hst:=hst.gets [2,1] rfl
 refine W_loop I75 (n:=k76) ?_ ?_
 exact ij hI75 ⟨0,k76,rfl,Nat.le_refl _,rfl,hL75,sf3,sf4,rfl,(Star.keepN 2 hst)⟩
 intro n75 f w_ hI
 obtain ⟨i_74,suf75,rfl,hs75,hl75,hL75,sf3,sf4,sf8,hst⟩:=ik hI75 hI
 refine W_seq (sq (mF sf8 rfl (L_lss rfl rfl rfl (nn (W_cond (b:=decide ((i_74 : Int) < 4096)) rfl (fun hc77=>?_) (fun hc77=>?_))))))
 have hlt75:=of_decide_eq_true hc77
 rcases suf75 with _ | rest75
 exact absurd hlt75 (cntF_no hl75 hk76)
 obtain ⟨o75,hB75,hL75⟩:=count_succ hL75
 rw [l_FnDecodeSolves_b1] at hB75
 refine W_skip (W_seq (W_block (W_seq ?_)))
 obtain ⟨x83,hx83,hB75⟩:=bind_some hB75
 refine W_region (mF sf8 rfl ?_)
 obtain ⟨H86b,l87,s88,z89,k90⟩:=hst.borrow
 refine L_call rfl Tryz.call33 (ops1 rfl) (l_cpValues_c (n_:=(i_74 : Int)) s88 hx83) ?_
 rintro r91_0 w91 ⟨_,rfl,hst⟩
 have hst:=k90 hst (co closed_bool c0)
 refine aV r91_0 rfl (nq ?_)
 obtain ⟨x100,hx100,hB75⟩:=bind_some hB75
 refine W_region (mF sf4 rfl (mV r91_0 rfl ?_))
 obtain ⟨H102b,l103,s104,z105,k106⟩:=hst.borrow
 have hb107 : (rS 73 (rCon 122)).rel H102b [r14_0] x11.1:=fz_own 1 z105 rfl
 have hb108 : (rS 4 RP.bool).rel H102b [r91_0] x83:=fz_own 0 z105 rfl
 refine L_call rfl Tryz.call28 (ops2 rfl rfl) (i_SatisfiesAll_c (list:=x11.1) (values:=x83) s104 hb107 hb108 hx100) ?_
 rintro _ w109 ⟨rfl,hst⟩
 have hst:=k106 hst c0
 refine nn ?_
 obtain ⟨j110,hA110,hB75⟩:=bind_some hB75
 obtain ⟨R110,hR110⟩:=exR fun f w_=>j110 = .nx ()∧f 3 = Pt g8∧f 4 = r14_0∧f 8 = I i_74∧Star H14 w_ ([oF 73 (rCon 122) r14_0 x11.1,box g8 26 #[r7_0,r7_1]])
 refine W_join R110 ?_ ?_
 refine W_cond (b:=x100) rfl (fun hc111=>?_) (fun hc111=>?_)
 have hA110:=(ite_t hc111).symm.trans hA110
 refine W_seq ?_
 obtain ⟨x118,hx118,hA110⟩:=bind_some hA110
 refine W_region (L_lda (cs:=[r7_0,r7_1]) rfl Tryz.isAgg26 Tryz.sizeOf26 sf3 (At.sub0 (Blk.at (Star.blkAt 2 hst rfl)) 0 2) rfl (mV r91_0 rfl ?_))
 obtain ⟨H121b,l122,s123,z124,k125⟩:=hst.borrow
 have hb126 : (rS 4 RP.bool).rel H121b [r91_0] x83:=fz_own 0 z124 rfl
 refine L_call rfl Tryz.call22 (ops2 rfl rfl) (i_DecodeValues_c (m:=x2) (values:=x83) s123 (RP.mono _ hr7_0 (Le.trans l14 l122)) (RP.mono _ hr7_1 (Le.trans l14 l122)) hb126 hx118) ?_
 rintro _ w127 ⟨r127_0,rfl,hst⟩
 have hst:=k125 hst (co closed_int c0)
 refine mV (.tuple #[r127_0,Bo x118.2]) rfl (L_ex (v:=r127_0) rfl rfl rfl (L_ex (v:=Bo x118.2) rfl rfl rfl (aV r127_0 rfl (aB rfl (nq ?_)))))
 obtain ⟨b137,hb137,hA110⟩:=bind_some hA110
 obtain ⟨R138,hR138⟩:=exR fun f w_=>f 3 = Pt g8∧f 4 = r14_0∧f 8 = I i_74∧f 70 = Bo b137∧Star H14 w_ ([oF 73 (rCon 122) r14_0 x11.1,box g8 26 #[r7_0,r7_1]])
 refine W_join R138 ?_ ?_
 refine W_region (mB rfl (L_not_ rfl rfl (mB rfl (L_split (d:=65) (b:=(!x118.2)) rfl (fun hc139=>?_) (fun hc139=>?_)))))
 rw [ite_t hc139] at hb137
 refine ps rfl (ps rfl (ps rfl (ps rfl (L_pick (v:=Bo b137) rfl rfl (congrArg Value.bool (so hb137)) (nn ?_)))))
 have hst:=hst.gets [3,3] rfl
 exact rj hR138 ⟨sf3,sf4,sf8,rfl,(Star.keepN 2 hst)⟩
 rw [ite_f hc139] at hb137
 obtain ⟨x135,hx135,hb137⟩:=bind_some hb137
 refine L_lda (cs:=[r7_0,r7_1]) rfl Tryz.isAgg26 Tryz.sizeOf26 sf3 (At.sub0 (Blk.at (Star.blkAt 3 hst rfl)) 0 2) rfl (mV r127_0 rfl ?_)
 obtain ⟨H140b,l141,s142,z143,k144⟩:=hst.borrow
 have hb145 : (rS 3 RP.int).rel H140b [r127_0] x118.1:=fz_own 0 z143 rfl
 refine L_call rfl Tryz.call23 (ops2 rfl rfl) (i_SolvesModel_c (m:=x2) (cells:=x118.1) s142 (RP.mono _ hr7_0 (Le.trans l14 l141)) (RP.mono _ hr7_1 (Le.trans l14 l141)) hb145 hx135) ?_
 rintro _ w146 ⟨rfl,hst⟩
 have hst:=k144 hst c0
 refine L_not_ rfl rfl (L_pick (v:=Bo b137) rfl rfl (congrArg Value.bool (so hb137)) (nn ?_))
 have hst:=hst.gets [3,3] rfl
 exact rj hR138 ⟨sf3,sf4,sf8,rfl,(Star.keepN 2 hst)⟩
 intro f w_ hR
 obtain ⟨sf3,sf4,sf8,sf70,hst⟩:=rk hR138 hR
 refine W_cond (b:=b137) sf70 (fun hc147=>?_) (fun hc147=>?_)
 have hA110:=(ite_t hc147).symm.trans hA110
 refine sq (aB rfl (nn (W_ret (retG1 (v1:=Bo false) Tryz.results7 rfl ?_))))
 obtain rfl:=so hA110
 obtain rfl:=so hB75
 obtain rfl:=so hL75
 obtain rfl:=so hF
 exact ⟨rfl,(Star.down (Star.keepN 0 hst) (Le.trans l7 l14) c0)⟩
 have hA110:=(ite_f hc147).symm.trans hA110
 refine W_skip ?_
 obtain rfl:=so hA110
 exact rj hR110 ⟨rfl,sf3,sf4,sf8,hst⟩
 have hA110:=(ite_f hc111).symm.trans hA110
 refine W_skip ?_
 obtain rfl:=so hA110
 have hst:=hst.gets [2,2] rfl
 exact rj hR110 ⟨rfl,sf3,sf4,sf8,(Star.keepN 2 hst)⟩
 intro f w_ hR
 obtain ⟨rfl,sf3,sf4,sf8,hst⟩:=rk hR110 hR
 refine W_region (mF sf8 rfl (L_add rfl rfl rfl (aI rfl (nn ?_))))
 obtain rfl:=so hB75
 show ∃ m,m < _∧I75 m _ _
 refine ⟨rest75,Nat.lt_succ_self _,?_⟩
 exact ij hI75 ⟨i_74 + 1,rest75,rfl,by omega,by omega,hL75,sf3,sf4,(Eq.trans rfl (congrArg (Value.int .i64) (i64_succ (n:=0 + k76) (by omega) (cntF_le hk76)))),hst⟩
 rcases suf75 with _ | _
 obtain rfl:=count_zero hL75
 refine W_exit (rj hR75 ⟨rfl,(Star.keepN 0 hst)⟩)
 exact absurd (cntF_yes hs75 hl75 hk76) (of_decide_eq_false hc77)
 intro f w_ hR
 obtain ⟨rfl,hst⟩:=rk hR75 hR
 refine sq (aB rfl (nn (W_ret (retG1 (v1:=Bo true) Tryz.results7 rfl ?_))))
 obtain rfl:=so hF
 exact ⟨rfl,(Star.down hst (Le.trans l7 l14) c0)⟩
end Go.Proofs.YtbjllamkfmejlaaGreat

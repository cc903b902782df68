/- Part of a proof by program: W4. -/
import Derived.Test.YtiodhgbfceahfaaD1
import Derived.Test.YtiodhgbfceahfaaW3
namespace Go.Proofs.Ytiodhgbfceahfaa
open Go Go.E Go.L Go.RowKit
set_option linter.unusedVariables false
set_option linter.unusedSimpArgs false
set_option maxRecDepth 100000
theorem s_l4Pair_c {fu : Nat} {r_ : Rd} {g_0 : Nat} {v0_0 : Value} {H : FH} {w : World} {R : List Ass} (hst : Star H w (box g_0 126 #[v0_0,I r_.p] :: R)) (h0_0 : (rS 5 RP.u8).rel H [v0_0] r_.b) {r : (List Con) × (List Step) × Int} (hF : s_l4Pair fu r_ = some r) :
 C Try.prog 79 #[Pt g_0] w fun v w'=>∃ H' : FH,Le H H'∧∃ (u1 : Value) (u2 : Value),v = .tuple #[u1,u2]∧(rS 41 (rCon 117)).rel H' [u1] r.1∧Star H' w' (oF 63 (rStep 117) u2 r.2.1 :: box g_0 126 #[v0_0,I r.2.2] :: R):=by
 unfold s_l4Pair at hF
 refine C_enter Try.func79 rfl Try.ntmps79 rfl (sq (aV S0 rfl (aV S0 rfl (nq (W_seq ?_)))))
 obtain ⟨x6,hx6,hF⟩:=bind_some hF
 refine W_region (mV (Pt g_0) rfl ?_)
 obtain ⟨H8b,l9,s10,z11,k12⟩:=hst.lend [_]
 refine L_call rfl Try.call71 (ops2 rfl rfl) (s_l17Rd_pick_c (r_:=r_) (n_:=2) s10 (RP.mono _ h0_0 l9) hx6) ?_
 rintro _ w13 ⟨rfl,hst⟩
 have hst:=k12 hst (cb c0)
 refine L_eql rfl rfl rfl (nn (W_cond (b:=(x6.1 == 0)) rfl (fun hc14=>?_) (fun hc14=>?_)))
 have hF:=(ite_t hc14).symm.trans hF
 refine W_seq ?_
 obtain ⟨x15,hx15,hF⟩:=bind_some hF
 refine W_region (mV (Pt g_0) rfl (L_call rfl Try.call86 (ops1 rfl) (s_l4Refuted_c (r_:=({ b:=r_.b,p:=x6.2 } : Rd)) hst h0_0 hx15) ?_))
 rintro _ w18 ⟨H18,l18,r18_0,r18_1,rfl,hr18_0,hst⟩
 refine L_ex (v:=r18_0) rfl rfl rfl (L_ex (v:=r18_1) rfl rfl rfl (aV r18_0 rfl (aV r18_1 rfl (nn (W_ret (retG2 (v1:=r18_0) (v2:=r18_1) Try.results79 rfl rfl ?_))))))
 obtain rfl:=so hF
 exact ⟨H18,l18,r18_0,r18_1,rfl,hr18_0,hst⟩
 have hF:=(ite_f hc14).symm.trans hF
 refine W_skip (W_seq ?_)
 obtain ⟨x25,hx25,hF⟩:=bind_some hF
 obtain ⟨x31,hx31,hF⟩:=bind_some hF
 refine W_region (mV (Pt g_0) rfl (mV (Pt g_0) rfl ?_))
 obtain ⟨H34b,l35,s36,z37,k38⟩:=hst.lend [_]
 refine L_call rfl Try.call69 (ops1 rfl) (s_l3Problem_c (r_:=({ b:=r_.b,p:=x6.2 } : Rd)) s36 (RP.mono _ h0_0 l35) hx25) ?_
 rintro r39_0 w39 ⟨_,rfl,hst⟩
 have hst:=k38 hst (co closed_oCon (cb c0))
 obtain ⟨H41,l42,hst,hz43⟩:=Star.freeze hst
 have hz43 : (rS 41 (rCon 117)).rel H41 [r39_0] x25.1:=hz43
 refine L_call rfl Try.call68 (ops2 rfl rfl) (s_l3Mutate_c (r_:=({ b:=r_.b,p:=x25.2 } : Rd)) (list:=x25.1) hst (RP.mono _ h0_0 l42) hz43 hx31) ?_
 rintro r44_0 w44 ⟨H44,l44,_,rfl,hst⟩
 refine aV r44_0 rfl (nq ?_)
 obtain ⟨x49,hx49,hF⟩:=bind_some hF
 refine W_region (mV r44_0 rfl (mV (Pt g_0) rfl (mV r44_0 rfl ?_)))
 obtain ⟨H52,l53,hst,hz54⟩:=Star.freeze hst
 have hz54 : (rS 41 (rCon 117)).rel H52 [r44_0] x31.1:=hz54
 refine L_call rfl Try.call118 (ops2 rfl rfl) (s_l4Random_c (r_:=({ b:=r_.b,p:=x31.2 } : Rd)) (list:=x31.1) hst (RP.mono _ h0_0 (Le.trans (Le.trans l42 l44) l53)) hz54 hx49) ?_
 rintro r55_0 w55 ⟨H55,l55,_,rfl,hst⟩
 refine aV r44_0 rfl (aV r55_0 rfl (nn (W_ret (retG2 (v1:=r44_0) (v2:=r55_0) Try.results79 rfl rfl ?_))))
 obtain rfl:=so hF
 exact ⟨H55,(Le.trans (Le.trans (Le.trans l42 l44) l53) l55),r44_0,r55_0,rfl,(RP.mono _ hz54 l55),hst⟩
theorem s_DrawRunProof_c {fu : Nat} {code : List UInt8} {v0 : Value} {H : FH} {w : World} {R : List Ass} (hst : Star H w R) (h0 : (rS 5 RP.u8).rel H [v0] code) {r : (List Con) × (List Step)} (hF : s_DrawRunProof fu code = some r) :
 C Try.prog 33 #[v0] w fun v w'=>∃ H' : FH,Le H H'∧∃ (u1 : Value) (u2 : Value),v = .tuple #[u1,u2]∧(rS 41 (rCon 117)).rel H' [u1] r.1∧Star H' w' (oF 63 (rStep 117) u2 r.2 :: R):=by
 unfold s_DrawRunProof at hF
 refine C_enter Try.func33 rfl Try.ntmps33 rfl (sq (aV S0 rfl (aV S0 rfl (nq ?_))))
 obtain ⟨x1,hx1,hF⟩:=bind_some hF
 obtain ⟨x3,hx3,hF⟩:=bind_some hF
 refine W_region (mV v0 rfl (L_call rfl Try.call67 (ops1 rfl) (s_l17Open_c (code:=code) hst h0 hx1) ?_))
 rintro _ w6 ⟨H6,l6,r6_0,r6_1,rfl,hr6_1,hst⟩
 refine L_call rfl Try.call79 (ops1 rfl) (s_l4Pair_c (r_:=x1) hst hr6_1 hx3) ?_
 rintro _ w7 ⟨H7,l7,r7_0,r7_1,rfl,hr7_0,hst⟩
 refine L_ex (v:=r7_0) rfl rfl rfl (L_ex (v:=r7_1) rfl rfl rfl (aV r7_0 rfl (aV r7_1 rfl (nn (W_ret (retG2 (v1:=r7_0) (v2:=r7_1) Try.results33 rfl rfl ?_))))))
 obtain rfl:=so hF
 have hst:=Star.drop 1 hst rfl
 exact ⟨H7,(Le.trans l6 l7),r7_0,r7_1,rfl,hr7_0,hst⟩
theorem i_ownAll_c {list : List Con} {v0 : Value} {H : FH} {w : World} (hst : Star H w []) (h0 : (rS 41 (rCon 117)).rel H [v0] list) {r : List Con} (hF : i_ownAll list = some r) :
 C Try.prog 80 #[v0] w fun v w'=>∃ (u1 : Value),v = u1∧Star H w' [oS 41 (oCon 117) u1 r]:=by
 unfold i_ownAll at hF
 refine C_enter Try.func80 rfl Try.ntmps80 rfl (sq (aV S0 rfl (ns (aV S0 rfl (nq (sq (mV v0 rfl (L_len rfl Try.underlying27 rfl (slice_len h0) (mI rfl (nn ?_))))))))))
 have hlen4 : List.length list≤9223372036854775807:=len_le (slice_len h0)
 obtain ⟨j4,hL4,hF⟩:=bind_some hF
 obtain ⟨R4,hR4⟩:=exR fun f w_=>∃ out_2 : List Con,∃ v2_out : Value,j4 = .nx out_2∧f 3 = v2_out∧Star H w_ ([oS 41 (oCon 117) v2_out out_2])
 refine W_join R4 ?_ ?_
 refine W_block ?_
 obtain ⟨I4,hI4⟩:=exI fun n f w_=>∃ i_1 : Nat,∃ suf4 : List Con,∃ out_2 : List Con,∃ v2_out : Value,n = suf4.length∧List.drop i_1 list = suf4∧i_1 + suf4.length = list.length∧rangeL i_ownAll_b1 suf4 i_1 out_2 = some j4∧f 3 = v2_out∧f 6 = v0∧f 7 = I (list.length : Int)∧f 8 = I i_1∧Star H w_ ([oS 41 (oCon 117) v2_out out_2])
 have hst:=Star.addNil (R:=(oCon 117)) (e:=41) hst
 refine W_loop I4 (n:=list.length) ?_ ?_
 exact ij hI4 ⟨0,list,[],S0,rfl,rfl,Nat.zero_add _,hL4,rfl,rfl,rfl,rfl,hst⟩
 intro n4 f w_ hI
 obtain ⟨i_1,suf4,out_2,v2_out,rfl,hd4,hl4,hL4,sf3,sf6,sf7,sf8,hst⟩:=ik hI4 hI
 refine sq (L_lss rfl sf8 sf7 (nq (W_cond (b:=decide ((i_1 : Int) < (list.length : Int))) rfl (fun hc6=>?_) (fun hc6=>?_))))
 have hlt4:=of_decide_eq_true hc6
 rcases suf4 with _ | ⟨x_4,rest4⟩
 exact absurd hlt4 (by simp at hl4; omega)
 obtain ⟨o4,hB4,hL4⟩:=range_cons hL4
 rw [i_ownAll_b1] at hB4
 have hix4:=drop_idx hd4
 refine W_skip (W_seq (W_block (sq (L_ix (r:=(rCon 117)) rfl Try.underlying27 Try.sizeOf41 sf6 h0 sf8 hix4 (fun g14 o15 cs_g14 hrk_hat16 hat16=>?_)))))
 obtain ⟨u17_0,rfl,hu17_0⟩:=rCon_iff.1 hrk_hat16
 refine L_lda (cs:=[u17_0,I x_4.bound]) rfl Try.isAgg41 Try.sizeOf41 rfl (At.sub (AtH.at hat16 hst.sub) 0 2) rfl (L_al (cs:=#[S0,I 0]) rfl Try.zeroValue41 rfl hst (fun g18 w19 hst=>L_staB (vs:=#[u17_0,I x_4.bound]) (cs2:=#[u17_0,I x_4.bound]) 0 rfl Try.sizeOf41 rfl rfl rfl (ones_cons (one_len (slice_len hu17_0)) (ones_cons rfl ones_nil)) hst rfl (by show 0 + 2≤2; decide) rfl (fun w20 hst=>nn ?_)))
 obtain ⟨x26,hx26,hB4⟩:=bind_some hB4
 obtain ⟨x32,hx32,hB4⟩:=bind_some hB4
 refine W_region (mF sf3 rfl (L_lda (cs:=[u17_0,I x_4.bound]) rfl Try.isAgg41 Try.sizeOf41 rfl (At.sub0 (Blk.at (Star.blkAt 0 hst rfl)) 0 2) rfl ?_))
 obtain ⟨H36b,l37,s38,z39,k40⟩:=hst.borrow
 refine L_call rfl Try.call89 (ops1 rfl) (i_Constraint_own_c (c:=x_4) s38 (RP.mono _ hu17_0 l37) hx26) ?_
 rintro _ w41 ⟨r41_0,rfl,hst⟩
 have hst:=k40 hst (co closed_term c0)
 refine L_bs rfl (parts1 rfl) (bs_27_1_2 (r41_0) (I x26.bound) ) hst (fun g43 w44 hst=>?_)
 have hst:=hst.get 1 rfl
 have hst:=oCon_close (c:=x26) hst
 have hst:=Star.mkRow (R:=(oCon 117)) [([r41_0,I x26.bound],x26)] [x26] 1 hst rfl rfl rfl (by decide)
 have hst:=hst.get 2 rfl
 refine L_appM (v:=v2_out) (u:=(Sl g43 1 1)) rfl et_27 rfl rfl hst hx32 (fun v46 w47 hst=>aV v46 rfl (nn (W_region (L_add rfl sf8 rfl (mI rfl (nn ?_))))))
 obtain rfl:=so hB4
 show ∃ m,m < _∧I4 m _ _
 refine ⟨rest4.length,by simp,?_⟩
 exact ij hI4 ⟨i_1 + 1,rest4,x32,v46,rfl,drop_next hd4,by simp at hl4; omega,hL4,rfl,sf6,sf7,(Eq.trans rfl (congrArg (Value.int .i64) (i64_succ (n:=list.length) (by simp at hl4; omega) hlen4))),(Star.keepN 1 hst)⟩
 rcases suf4 with _ | ⟨_,_⟩
 obtain rfl:=range_nil hL4
 refine W_exit (rj hR4 ⟨out_2,v2_out,rfl,sf3,hst⟩)
 exact absurd (of_decide_eq_false hc6) (by simp at hl4; omega)
 intro f w_ hR
 obtain ⟨out_2,v2_out,rfl,sf3,hst⟩:=rk hR4 hR
 refine sq (mF sf3 rfl (aV v2_out rfl (nn (W_ret (retG1 (v1:=v2_out) Try.results80 rfl ?_)))))
 obtain rfl:=so hF
 exact ⟨v2_out,rfl,hst⟩
theorem i_RunProof_c {fu : Nat} {list : List Con} {steps : List Step} {v0 : Value} {v1 : Value} {H : FH} {w : World} (hst : Star H w []) (h0 : (rS 41 (rCon 117)).rel H [v0] list) (h1 : (rS 63 (rStep 117)).rel H [v1] steps) {r : (List Con) × Int} (hF : i_RunProof fu list steps = some r) :
 C Try.prog 34 #[v0,v1] w fun v w'=>∃ (u1 : Value),v = .tuple #[u1,I r.2]∧Star H w' [oS 41 (oCon 117) u1 r.1]:=by
 unfold i_RunProof at hF
 refine C_enter Try.func34 rfl Try.ntmps34 rfl (sq (aV S0 rfl (aI rfl (nq ?_))))
 obtain ⟨x1,hx1,hF⟩:=bind_some hF
 refine W_region (mV v0 rfl (mV v1 rfl (L_call rfl Try.call60 (ops2 rfl rfl) (i_run_c (list:=list) (steps:=steps) hst h0 h1 hx1) ?_)))
 rintro _ w4 ⟨H4,l4,r4_0,rfl,hst⟩
 refine mV (.tuple #[r4_0,I x1.2]) rfl (L_ex (v:=r4_0) rfl rfl rfl (L_ex (v:=I x1.2) rfl rfl rfl (aV r4_0 rfl (aI rfl (nq (sq (mI rfl (L_geq rfl rfl rfl (nn (W_cond (b:=decide (x1.2 ≥ 0)) rfl (fun hc6=>?_) (fun hc6=>?_)))))))))))
 have hF:=(ite_t hc6).symm.trans hF
 refine sq (mI rfl (aV S0 rfl (aI rfl (nn (W_ret (retG2 (v1:=S0) (v2:=I x1.2) Try.results34 rfl rfl ?_))))))
 obtain rfl:=so hF
 have hst:=Star.addNil (R:=(oCon 117)) (e:=41) hst
 exact ⟨S0,rfl,(Star.down (Star.keepN 1 hst) l4 (co closed_oCon c0))⟩
 have hF:=(ite_f hc6).symm.trans hF
 refine W_skip (W_seq ?_)
 obtain ⟨x9,hx9,hF⟩:=bind_some hF
 obtain ⟨x12,hx12,hF⟩:=bind_some hF
 obtain ⟨x21,hx21,hF⟩:=bind_some hF
 refine W_region (mV r4_0 rfl ?_)
 obtain ⟨go24,⟨uo24_0,uo24_1⟩,hvo24,hst⟩:=Star.unopt hx9 hst
 have hst : Star H4 w4 ([box go24 115 #[uo24_0,uo24_1],oF 41 (rCon 117) uo24_0 x9.list,oF 4 RP.bool uo24_1 x9.gone]):=hst
 refine L_call rfl Try.call63 (ops1 hvo24) (i_running_left_c (r_:=x9) hst hx12) ?_
 rintro r27_0 w27 ⟨H27,l27,_,rfl,hst⟩
 obtain ⟨H29b,l30,s31,z32,k33⟩:=hst.borrow
 have hb34 : (rS 41 (rCon 117)).rel H29b [r27_0] x12:=fz_own 0 z32 rfl
 refine L_call rfl Try.call80 (ops1 rfl) (i_ownAll_c (list:=x12) s31 hb34 hx21) ?_
 rintro r35_0 w35 ⟨_,rfl,hst⟩
 have hst:=k33 hst (co closed_oCon c0)
 refine aV r35_0 rfl (aI rfl (nn (W_ret (retG2 (v1:=r35_0) (v2:=I (-1)) Try.results34 rfl rfl ?_))))
 obtain rfl:=so hF
 exact ⟨r35_0,rfl,(Star.down (Star.keepN 1 hst) (Le.trans l4 l27) (co closed_oCon c0))⟩
theorem l_cpProblem_c {a : List Con} {b : List Con} {v0 : Value} {v1 : Value} {H : FH} {w : World} (hst : Star H w []) (h0 : (rS 41 (rCon 117)).rel H [v0] a) (h1 : (rS 41 (rCon 117)).rel H [v1] b) {r : Bool} (hF : l_cpProblem a b = some r) :
 C Try.prog 36 #[v0,v1] w fun v w'=>v = Bo r∧Star H w' []:=by
 unfold l_cpProblem at hF
 refine C_enter Try.func36 rfl Try.ntmps36 rfl (sq (aB rfl (nq (sq (mV v0 rfl (L_len rfl Try.underlying27 rfl (slice_len h0) (mV v1 rfl (L_len rfl Try.underlying27 rfl (slice_len h1) (L_neq rfl rfl rfl (nn (W_cond (b:=((a.length : Int) != (b.length : Int))) rfl (fun hc1=>?_) (fun hc1=>?_))))))))))))
 have hF:=(ite_t hc1).symm.trans hF
 refine sq (aB rfl (nn (W_ret (retG1 (v1:=Bo false) Try.results36 rfl ?_))))
 obtain rfl:=so hF
 exact ⟨rfl,hst⟩
 have hF:=(ite_f hc1).symm.trans hF
 refine W_skip (W_seq (sq (aI rfl (nn ?_))))
 have hlen5 : List.length a≤9223372036854775807:=len_le (slice_len h0)
 obtain ⟨j5,hL5,hF⟩:=bind_some hF
 obtain ⟨R5,hR5⟩:=exR fun f w_=>∃ H3 : FH,j5 = .nx ()∧Le H H3∧Star H3 w_ ([])
 refine W_join R5 ?_ ?_
 refine W_block ?_
 obtain ⟨I5,hI5⟩:=exI fun n f w_=>∃ i_2 : Nat,∃ suf5 : List Con,∃ H3 : FH,n = suf5.length∧List.drop i_2 a = suf5∧i_2 + suf5.length = a.length∧rangeL (l_cpProblem_b1 b) suf5 i_2 () = some j5∧Le H H3∧f 0 = v0∧f 1 = v1∧f 5 = I i_2∧Star H3 w_ ([])
 refine W_loop I5 (n:=a.length) ?_ ?_
 exact ij hI5 ⟨0,a,H,rfl,rfl,Nat.zero_add _,hL5,(Le.refl _),rfl,rfl,rfl,hst⟩
 intro n5 f w_ hI
 obtain ⟨i_2,suf5,H3,rfl,hd5,hl5,hL5,l4,sf0,sf1,sf5,hst⟩:=ik hI5 hI
 refine W_seq (sq (mF sf5 rfl (mF sf0 rfl (L_len rfl Try.underlying27 rfl (slice_len (RP.mono _ h0 l4)) (L_lss rfl rfl rfl (nn (W_cond (b:=decide ((i_2 : Int) < (a.length : Int))) rfl (fun hc6=>?_) (fun hc6=>?_))))))))
 have hlt5:=of_decide_eq_true hc6
 rcases suf5 with _ | ⟨x_5,rest5⟩
 exact absurd hlt5 (by simp at hl5; omega)
 obtain ⟨o5,hB5,hL5⟩:=range_cons hL5
 rw [l_cpProblem_b1] at hB5
 have hix5:=drop_idx hd5
 refine W_skip (W_seq (W_block (W_seq ?_)))
 obtain ⟨x11,hx11,hB5⟩:=bind_some hB5
 obtain ⟨x21,hx21,hB5⟩:=bind_some hB5
 refine W_drawS 8 [isV (v0),isV (I i_2),isEl (rCon 117) x_5 0,exD (isData (rS 117 rTerm) x_5.terms) fun u_0=>isV (.agg #[u_0,I x_5.bound]),isV (v1),isV (I i_2),isEl (rCon 117) x11 0,exD (isData (rS 117 rTerm) x11.terms) fun u_0=>isV (.agg #[u_0,I x11.bound])] [] [] ([]) [([],[]),([],[]),([],[]),([],[]),([],[]),([],[]),([],[]),([],[])] (S:=[]) Try_mix (by kernel_rfl) rfl (by kernel_rfl) (amF_cons (mono_V _) (amF_cons (mono_V _) (amF_cons (mono_el _ _ _) (amF_cons (mono_exD (mono_data _ _) fun _=>mono_V _) (amF_cons (mono_V _) (amF_cons (mono_V _) (amF_cons (mono_el _ _ _) (amF_cons (mono_exD (mono_data _ _) fun _=>mono_V _) amF_nil)))))))) hst ?_ (fun f w_ H23 hS23 hE23 hT23 hst=>?_)
 refine opsS_cons (fun f w_ _ _ s _ _ hst=>mF ((s 0 rfl).trans sf0) rfl (nO rfl rfl hst)) (opsS_cons (fun f w_ _ _ s _ _ hst=>mF ((s 5 rfl).trans sf5) rfl (nO rfl rfl hst)) (opsS_cons ?_ ?_))
 intro f w_ H23 X23 hS23 hE23 hP23 hst
 refine L_ix (r:=(rCon 117)) rfl Try.underlying27 Try.sizeOf41 (hP23 0 17 rfl rfl) (RP.mono _ h0 (Le.trans l4 hE23)) (hP23 1 18 rfl rfl) hix5 (fun g32 o33 cs_g32 hrk_hat34 hat34=>?_)
 obtain ⟨u35_0,rfl,hu35_0⟩:=rCon_iff.1 hrk_hat34
 exact L_nil ⟨rfl,_,_,rfl,Le.refl _,fun _ _=>⟨_,_,_,rfl,hrk_hat34,hat34⟩,hst⟩
 refine opsS_cons ?_ ?_
 intro f w_ H23 X23 hS23 hE23 hP23 hst
 obtain ⟨g36,o36,cs36,hv36,hrk_hat36,hat36⟩:=(hP23 2 19 rfl rfl)
 obtain ⟨u37_0,rfl,hu37_0⟩:=rCon_iff.1 hrk_hat36
 refine L_lda (cs:=[u37_0,I x_5.bound]) rfl Try.isAgg41 Try.sizeOf41 hv36 (At.sub (AtH.at hat36 hst.sub) 0 2) rfl (L_nil ⟨rfl,_,_,rfl,Le.refl _,fun _ _=>⟨_,hu37_0,rfl⟩,hst⟩)
 refine opsS_cons (fun f w_ _ _ s _ _ hst=>mF ((s 1 rfl).trans sf1) rfl (nO rfl rfl hst)) (opsS_cons (fun f w_ _ _ s _ _ hst=>mF ((s 5 rfl).trans sf5) rfl (nO rfl rfl hst)) (opsS_cons ?_ ?_))
 intro f w_ H23 X23 hS23 hE23 hP23 hst
 refine L_ix (r:=(rCon 117)) rfl Try.underlying27 Try.sizeOf41 (hP23 4 21 rfl rfl) (RP.mono _ h1 (Le.trans l4 hE23)) (hP23 5 22 rfl rfl) hx11 (fun g38 o39 cs_g38 hrk_hat40 hat40=>?_)
 obtain ⟨u41_0,rfl,hu41_0⟩:=rCon_iff.1 hrk_hat40
 exact L_nil ⟨rfl,_,_,rfl,Le.refl _,fun _ _=>⟨_,_,_,rfl,hrk_hat40,hat40⟩,hst⟩
 refine opsS_cons ?_ ?_
 intro f w_ H23 X23 hS23 hE23 hP23 hst
 obtain ⟨g42,o42,cs42,hv42,hrk_hat42,hat42⟩:=(hP23 6 23 rfl rfl)
 obtain ⟨u43_0,rfl,hu43_0⟩:=rCon_iff.1 hrk_hat42
 refine L_lda (cs:=[u43_0,I x11.bound]) rfl Try.isAgg41 Try.sizeOf41 hv42 (At.sub (AtH.at hat42 hst.sub) 0 2) rfl (L_nil ⟨rfl,_,_,rfl,Le.refl _,fun _ _=>⟨_,hu43_0,rfl⟩,hst⟩)
 exact opsS_nil
 obtain ⟨u44_0,hu44_0,hv44⟩:=(hT23 3 20 rfl rfl)
 obtain ⟨u45_0,hu45_0,hv45⟩:=(hT23 7 24 rfl rfl)
 obtain ⟨H46b,l47,s48,z49,k50⟩:=hst.borrow
 refine L_call rfl Try.call82 (ops2 hv44 hv45) (i_ConstraintSame_c (a:=x_5) (b:=x11) s48 (RP.mono _ hu44_0 l47) (RP.mono _ hu45_0 l47) hx21) ?_
 rintro _ w51 ⟨rfl,hst⟩
 have hst:=k50 hst c0
 refine L_not_ rfl rfl (nn (W_cond (b:=(!x21)) rfl (fun hc52=>?_) (fun hc52=>?_)))
 have hB5:=(ite_t hc52).symm.trans hB5
 refine sq (aB rfl (nn (W_ret (retG1 (v1:=Bo false) Try.results36 rfl ?_))))
 obtain rfl:=so hB5
 obtain rfl:=so hL5
 obtain rfl:=so hF
 exact ⟨rfl,(Star.down hst (Le.trans l4 hE23) c0)⟩
 have hB5:=(ite_f hc52).symm.trans hB5
 refine W_skip (W_region (mF ((hS23 5 rfl).trans sf5) rfl (L_add rfl rfl rfl (aI rfl (nn ?_)))))
 obtain rfl:=so hB5
 show ∃ m,m < _∧I5 m _ _
 refine ⟨rest5.length,by simp,?_⟩
 exact ij hI5 ⟨i_2 + 1,rest5,H23,rfl,drop_next hd5,by simp at hl5; omega,hL5,(Le.trans l4 hE23),((hS23 0 rfl).trans sf0),((hS23 1 rfl).trans sf1),(Eq.trans rfl (congrArg (Value.int .i64) (i64_succ (n:=a.length) (by simp at hl5; omega) hlen5))),hst⟩
 rcases suf5 with _ | ⟨_,_⟩
 obtain rfl:=range_nil hL5
 refine W_exit (rj hR5 ⟨H3,rfl,l4,hst⟩)
 exact absurd (of_decide_eq_false hc6) (by simp at hl5; omega)
 intro f w_ hR
 obtain ⟨H3,rfl,l4,hst⟩:=rk hR5 hR
 refine sq (aB rfl (nn (W_ret (retG1 (v1:=Bo true) Try.results36 rfl ?_))))
 obtain rfl:=so hF
 exact ⟨rfl,(Star.down hst l4 c0)⟩
theorem l_FnRunProof_c {fu : Nat} {code : List UInt8} {v0 : Value} {H : FH} {w : World} (hst : Star H w []) (h0 : (rS 5 RP.u8).rel H [v0] code) {r : Bool} (hF : l_FnRunProof fu code = some r) :
 C Try.prog 6 #[v0] w fun v w'=>v = Bo r∧Star H w' []:=by
 unfold l_FnRunProof at hF
 refine C_enter Try.func6 rfl Try.ntmps6 rfl (sq (aB rfl (nq (sq (mV v0 rfl (L_len rfl Try.underlying45 rfl (slice_len h0) (L_gtr rfl rfl rfl (nn (W_cond (b:=decide ((code.length : Int) > 1048576)) rfl (fun hc1=>?_) (fun hc1=>?_))))))))))
 have hF:=(ite_t hc1).symm.trans hF
 refine sq (aB rfl (nn (W_ret (retG1 (v1:=Bo true) Try.results6 rfl ?_))))
 obtain rfl:=so hF
 exact ⟨rfl,hst⟩
 have hF:=(ite_f hc1).symm.trans hF
 refine W_skip (W_seq ?_)
 obtain ⟨x2,hx2,hF⟩:=bind_some hF
 refine W_region (mV v0 rfl (L_call rfl Try.call33 (ops1 rfl) (s_DrawRunProof_c (code:=code) hst h0 hx2) ?_))
 rintro _ w5 ⟨H5,l5,r5_0,r5_1,rfl,hr5_0,hst⟩
 refine mV (.tuple #[r5_0,r5_1]) rfl (L_ex (v:=r5_0) rfl rfl rfl (L_ex (v:=r5_1) rfl rfl rfl (aV r5_0 rfl (aV r5_1 rfl (nq ?_)))))
 obtain ⟨x13,hx13,hF⟩:=bind_some hF
 refine W_region (mV r5_0 rfl (mV r5_1 rfl ?_))
 obtain ⟨H16b,l17,s18,z19,k20⟩:=hst.borrow
 have hb21 : (rS 63 (rStep 117)).rel H16b [r5_1] x2.2:=fz_own 0 z19 rfl
 refine L_call rfl Try.call34 (ops2 rfl rfl) (i_RunProof_c (list:=x2.1) (steps:=x2.2) s18 (RP.mono _ hr5_0 l17) hb21 hx13) ?_
 rintro _ w22 ⟨r22_0,rfl,hst⟩
 have hst:=k20 hst (co closed_oCon c0)
 refine mV (.tuple #[r22_0,I x13.2]) rfl (L_ex (v:=r22_0) rfl rfl rfl (L_ex (v:=I x13.2) rfl rfl rfl (aV r22_0 rfl (aI rfl (nq ?_)))))
 obtain ⟨x30,hx30,hF⟩:=bind_some hF
 refine W_region (mV r5_0 rfl (mV r5_1 rfl ?_))
 obtain ⟨H33b,l34,s35,z36,k37⟩:=hst.borrow
 have hb38 : (rS 63 (rStep 117)).rel H33b [r5_1] x2.2:=fz_own 1 z36 rfl
 refine L_call rfl Try.call35 (ops2 rfl rfl) (s_RunProof_c (list:=x2.1) (steps:=x2.2) s35 (RP.mono _ hr5_0 l34) hb38 hx30) ?_
 rintro _ w39 ⟨r39_0,rfl,hst⟩
 have hst:=k37 hst (co closed_oCon c0)
 refine mV (.tuple #[r39_0,I x30.2]) rfl (L_ex (v:=r39_0) rfl rfl rfl (L_ex (v:=I x30.2) rfl rfl rfl (aV r39_0 rfl (aI rfl (nq (W_seq ?_))))))
 obtain ⟨b50,hb50,hF⟩:=bind_some hF
 obtain ⟨R51,hR51⟩:=exR fun f w_=>f 3 = r5_0∧f 5 = r22_0∧f 6 = I x13.2∧f 7 = r39_0∧f 8 = I x30.2∧f 44 = Bo (b50 || (decide (x13.2 ≥ 0)))∧Star H5 w_ ([oS 41 (oCon 117) r22_0 x13.1,oS 41 (oCon 117) r39_0 x30.1])
 refine W_join R51 ?_ ?_
 refine W_region (mI rfl (mI rfl (L_neq rfl rfl rfl (mB rfl (L_split (d:=35) (b:=(x13.2 != x30.2)) rfl (fun hc52=>?_) (fun hc52=>?_))))))
 rw [ite_t hc52] at hb50
 refine ps rfl (ps rfl (ps rfl (ps rfl (L_pick (v:=Bo b50) rfl rfl (congrArg Value.bool (so hb50)) (mB rfl (L_split (d:=41) (b:=b50) rfl (fun hc53=>?_) (fun hc53=>?_)))))))
 refine ps rfl (ps rfl (L_pick (v:=Bo (b50 || (decide (x13.2 ≥ 0)))) rfl rfl (or_t hc53) (nn ?_)))
 have hst:=hst.get 1 rfl
 exact rj hR51 ⟨rfl,rfl,rfl,rfl,rfl,rfl,(Star.keepN 2 hst)⟩
 refine mI rfl (L_geq rfl rfl rfl (L_pick (v:=Bo (b50 || (decide (x13.2 ≥ 0)))) rfl rfl (or_f hc53 rfl) (nn ?_)))
 have hst:=hst.get 1 rfl
 exact rj hR51 ⟨rfl,rfl,rfl,rfl,rfl,rfl,(Star.keepN 2 hst)⟩
 rw [ite_f hc52] at hb50
 obtain ⟨x48,hx48,hb50⟩:=bind_some hb50
 refine mV r22_0 rfl (mV r39_0 rfl ?_)
 obtain ⟨H54b,l55,s56,z57,k58⟩:=hst.borrow
 have hb59 : (rS 41 (rCon 117)).rel H54b [r22_0] x13.1:=fz_own 1 z57 rfl
 have hb60 : (rS 41 (rCon 117)).rel H54b [r39_0] x30.1:=fz_own 0 z57 rfl
 refine L_call rfl Try.call36 (ops2 rfl rfl) (l_cpProblem_c (a:=x13.1) (b:=x30.1) s56 hb59 hb60 hx48) ?_
 rintro _ w61 ⟨rfl,hst⟩
 have hst:=k58 hst c0
 refine L_not_ rfl rfl (L_pick (v:=Bo b50) rfl rfl (congrArg Value.bool (so hb50)) (mB rfl (L_split (d:=41) (b:=b50) rfl (fun hc62=>?_) (fun hc62=>?_))))
 refine ps rfl (ps rfl (L_pick (v:=Bo (b50 || (decide (x13.2 ≥ 0)))) rfl rfl (or_t hc62) (nn ?_)))
 have hst:=hst.get 1 rfl
 exact rj hR51 ⟨rfl,rfl,rfl,rfl,rfl,rfl,(Star.keepN 2 hst)⟩
 refine mI rfl (L_geq rfl rfl rfl (L_pick (v:=Bo (b50 || (decide (x13.2 ≥ 0)))) rfl rfl (or_f hc62 rfl) (nn ?_)))
 have hst:=hst.get 1 rfl
 exact rj hR51 ⟨rfl,rfl,rfl,rfl,rfl,rfl,(Star.keepN 2 hst)⟩
 intro f w_ hR
 obtain ⟨sf3,sf5,sf6,sf7,sf8,sf44,hst⟩:=rk hR51 hR
 refine W_cond (b:=(b50 || (decide (x13.2 ≥ 0)))) sf44 (fun hc63=>?_) (fun hc63=>?_)
 have hF:=(ite_t hc63).symm.trans hF
 refine W_seq ?_
 obtain ⟨b73,hb73,hF⟩:=bind_some hF
 obtain ⟨R74,hR74⟩:=exR fun f w_=>f 2 = Bo b73∧Star H5 w_ ([])
 refine W_join R74 ?_ ?_
 refine W_region (mF sf6 rfl (mF sf8 rfl (L_eql rfl rfl rfl (mB rfl (L_split (d:=48) (b:=(x13.2 == x30.2)) rfl (fun hc75=>?_) (fun hc75=>?_))))))
 rw [ite_t hc75] at hb73
 obtain ⟨x71,hx71,hb73⟩:=bind_some hb73
 refine mF sf5 rfl (mF sf7 rfl ?_)
 obtain ⟨H76b,l77,s78,z79,k80⟩:=hst.borrow
 have hb81 : (rS 41 (rCon 117)).rel H76b [r22_0] x13.1:=fz_own 0 z79 rfl
 have hb82 : (rS 41 (rCon 117)).rel H76b [r39_0] x30.1:=fz_own 1 z79 rfl
 refine L_call rfl Try.call36 (ops2 rfl rfl) (l_cpProblem_c (a:=x13.1) (b:=x30.1) s78 hb81 hb82 hx71) ?_
 rintro _ w83 ⟨rfl,hst⟩
 have hst:=k80 hst c0
 refine L_pick (v:=Bo b73) rfl rfl (congrArg Value.bool (so hb73)) (aB rfl (nn (rj hR74 ⟨rfl,(Star.keepN 0 hst)⟩)))
 rw [ite_f hc75] at hb73
 refine ps rfl (ps rfl (ps rfl (L_pick (v:=Bo b73) rfl rfl (congrArg Value.bool (so hb73)) (aB rfl (nn (rj hR74 ⟨rfl,(Star.keepN 0 hst)⟩))))))
 intro f w_ hR
 obtain ⟨sf2,hst⟩:=rk hR74 hR
 refine W_ret (retG1 (v1:=Bo b73) Try.results6 sf2 ?_)
 obtain rfl:=so hF
 exact ⟨rfl,(Star.down hst l5 c0)⟩
 have hF:=(ite_f hc63).symm.trans hF
 refine W_skip (W_seq (sq (aI rfl (nn ?_))))
 obtain ⟨k88,hk88,hF⟩:=bind_some hF
 obtain ⟨j87,hL87,hF⟩:=bind_some hF
 obtain ⟨R87,hR87⟩:=exR fun f w_=>∃ H85 : FH,j87 = .nx ()∧Le H5 H85∧Star H85 w_ ([])
 refine W_join R87 ?_ ?_
 refine W_block ?_
 obtain ⟨I87,hI87⟩:=exI fun n f w_=>∃ i_84 : Nat,∃ suf87 : Nat,∃ H85 : FH,suf87 = n∧0≤i_84∧i_84 + suf87 = 0 + k88∧countL (l_FnRunProof_b1 x2 x13) suf87 i_84 () = some j87∧Le H5 H85∧f 3 = r5_0∧f 5 = r22_0∧f 9 = I i_84∧Star H85 w_ ([oF 41 (rCon 117) r22_0 x13.1])
 obtain ⟨H89,l90,hst⟩:=Star.shallow hst
 have hst : Star H89 w_ (oF 41 (rCon 117) r22_0 x13.1 :: _):=hst
 refine W_loop I87 (n:=k88) ?_ ?_
 exact ij hI87 ⟨0,k88,H89,rfl,Nat.le_refl _,rfl,hL87,l90,sf3,sf5,rfl,(Star.keepN 1 hst)⟩
 intro n87 f w_ hI
 obtain ⟨i_84,suf87,H85,rfl,hs87,hl87,hL87,l86,sf3,sf5,sf9,hst⟩:=ik hI87 hI
 refine W_seq (sq (mF sf9 rfl (L_lss rfl rfl rfl (nn (W_cond (b:=decide ((i_84 : Int) < 4096)) rfl (fun hc91=>?_) (fun hc91=>?_))))))
 have hlt87:=of_decide_eq_true hc91
 rcases suf87 with _ | rest87
 exact absurd hlt87 (cntF_no hl87 hk88)
 obtain ⟨o87,hB87,hL87⟩:=count_succ hL87
 rw [l_FnRunProof_b1] at hB87
 refine W_skip (W_seq ?_)
 obtain ⟨j92,hA92,hB87⟩:=bind_some hB87
 obtain ⟨R92,hR92⟩:=exR fun f w_=>j92 = .nx ()∧f 3 = r5_0∧f 5 = r22_0∧f 9 = I i_84∧Star H85 w_ ([oF 41 (rCon 117) r22_0 x13.1])
 refine W_join R92 ?_ ?_
 refine W_block (W_seq ?_)
 obtain ⟨x98,hx98,hA92⟩:=bind_some hA92
 refine W_region (mF sf9 rfl ?_)
 obtain ⟨H101b,l102,s103,z104,k105⟩:=hst.borrow
 refine L_call rfl Try.call30 (ops1 rfl) (l_cpValues_c (n_:=(i_84 : Int)) s103 hx98) ?_
 rintro r106_0 w106 ⟨_,rfl,hst⟩
 have hst:=k105 hst (co closed_bool c0)
 refine aV r106_0 rfl (nq (W_seq ?_))
 obtain ⟨x114,hx114,hA92⟩:=bind_some hA92
 refine W_region (mF sf3 rfl (mV r106_0 rfl ?_))
 obtain ⟨H116b,l117,s118,z119,k120⟩:=hst.borrow
 have hb121 : (rS 4 RP.bool).rel H116b [r106_0] x98:=fz_own 0 z119 rfl
 refine L_call rfl Try.call31 (ops2 rfl rfl) (i_SatisfiesAll_c (list:=x2.1) (values:=x98) s118 (RP.mono _ hr5_0 (Le.trans l86 l117)) hb121 hx114) ?_
 rintro _ w122 ⟨rfl,hst⟩
 have hst:=k120 hst c0
 refine L_not_ rfl rfl (nn (W_cond (b:=(!x114)) rfl (fun hc123=>?_) (fun hc123=>?_)))
 have hA92:=(ite_t hc123).symm.trans hA92
 refine W_exit ?_
 obtain rfl:=so hA92
 have hst:=hst.get 1 rfl
 exact rj hR92 ⟨rfl,sf3,sf5,sf9,(Star.keepN 1 hst)⟩
 have hA92:=(ite_f hc123).symm.trans hA92
 refine W_skip (sq (aI rfl (nn ?_)))
 have hlen125 : List.length x13.1≤9223372036854775807:=len_le (Star.len 1 hst rfl)
 obtain ⟨j125,hL125,hA92⟩:=bind_some hA92
 obtain ⟨R125,hR125⟩:=exR fun f w_=>j125 = .nx ()∧f 3 = r5_0∧f 5 = r22_0∧f 9 = I i_84∧Star H85 w_ ([oF 41 (rCon 117) r22_0 x13.1])
 refine W_join R125 ?_ ?_
 refine W_block ?_
 obtain ⟨I125,hI125⟩:=exI fun n f w_=>∃ i_124 : Nat,∃ suf125 : List Con,n = suf125.length∧List.drop i_124 x13.1 = suf125∧i_124 + suf125.length = x13.1.length∧rangeL (l_FnRunProof_b2 x98) suf125 i_124 () = some j125∧f 3 = r5_0∧f 5 = r22_0∧f 9 = I i_84∧f 10 = r106_0∧f 11 = I i_124∧Star H85 w_ ([oF 41 (rCon 117) r22_0 x13.1,oF 4 RP.bool r106_0 x98])
 have hst:=hst.get 1 rfl
 refine W_loop I125 (n:=x13.1.length) ?_ ?_
 exact ij hI125 ⟨0,x13.1,rfl,rfl,Nat.zero_add _,hL125,sf3,sf5,sf9,rfl,rfl,hst⟩
 intro n125 f w_ hI
 obtain ⟨i_124,suf125,rfl,hd125,hl125,hL125,sf3,sf5,sf9,sf10,sf11,hst⟩:=ik hI125 hI
 refine W_seq (sq (mF sf11 rfl (mF sf5 rfl (L_len rfl Try.underlying27 rfl (Star.len 0 hst rfl) (L_lss rfl rfl rfl (nn (W_cond (b:=decide ((i_124 : Int) < (x13.1.length : Int))) rfl (fun hc126=>?_) (fun hc126=>?_))))))))
 have hlt125:=of_decide_eq_true hc126
 rcases suf125 with _ | ⟨x_125,rest125⟩
 exact absurd hlt125 (by simp at hl125; omega)
 obtain ⟨o125,hB125,hL125⟩:=range_cons hL125
 rw [l_FnRunProof_b2] at hB125
 have hix125:=drop_idx hd125
 refine W_skip (W_seq (W_block (W_seq ?_)))
 obtain ⟨x137,hx137,hB125⟩:=bind_some hB125
 refine W_region (mF sf5 rfl (mF sf11 rfl ?_))
 obtain ⟨g139,cap_g139,hv140,_,_⟩:=Star.row 0 hst rfl hix125
 refine L_ixO (R:=(OR.frz (rCon 117))) (tb:=0) 0 rfl Try.underlying27 Try.sizeOf41 rfl hv140 (by first | rfl | simp) rfl hix125 ?_
 obtain ⟨cs141,hr141,hat141⟩:=Star.eltF 0 hst rfl hv140 hix125
 obtain ⟨u142_0,rfl,hu142_0⟩:=rCon_iff.1 hr141
 refine L_lda (cs:=[u142_0,I x_125.bound]) rfl Try.isAgg41 Try.sizeOf41 rfl (At.sub hat141 0 2) rfl (mF sf10 rfl ?_)
 obtain ⟨H143b,l144,s145,z146,k147⟩:=hst.borrow
 have hb148 : (rS 4 RP.bool).rel H143b [r106_0] x98:=fz_own 1 z146 rfl
 refine L_call rfl Try.call32 (ops2 rfl rfl) (i_EvalConstraint_c (c:=x_125) (values:=x98) s145 (RP.mono _ hu142_0 l144) hb148 hx137) ?_
 rintro _ w149 ⟨rfl,hst⟩
 have hst:=k147 hst c0
 refine L_not_ rfl rfl (nn (W_cond (b:=(!x137)) rfl (fun hc150=>?_) (fun hc150=>?_)))
 have hB125:=(ite_t hc150).symm.trans hB125
 refine sq (aB rfl (nn (W_ret (retG1 (v1:=Bo false) Try.results6 rfl ?_))))
 obtain rfl:=so hB125
 obtain rfl:=so hL125
 obtain rfl:=so hA92
 obtain rfl:=so hB87
 obtain rfl:=so hL87
 obtain rfl:=so hF
 exact ⟨rfl,(Star.down (Star.keepN 0 hst) (Le.trans l5 l86) c0)⟩
 have hB125:=(ite_f hc150).symm.trans hB125
 refine W_skip (W_region (mF sf11 rfl (L_add rfl rfl rfl (aI rfl (nn ?_)))))
 obtain rfl:=so hB125
 show ∃ m,m < _∧I125 m _ _
 refine ⟨rest125.length,by simp,?_⟩
 exact ij hI125 ⟨i_124 + 1,rest125,rfl,drop_next hd125,by simp at hl125; omega,hL125,sf3,sf5,sf9,sf10,(Eq.trans rfl (congrArg (Value.int .i64) (i64_succ (n:=x13.1.length) (by simp at hl125; omega) hlen125))),hst⟩
 rcases suf125 with _ | ⟨_,_⟩
 obtain rfl:=range_nil hL125
 refine W_exit (rj hR125 ⟨rfl,sf3,sf5,sf9,(Star.keepN 1 hst)⟩)
 exact absurd (of_decide_eq_false hc126) (by simp at hl125; omega)
 intro f w_ hR
 obtain ⟨rfl,sf3,sf5,sf9,hst⟩:=rk hR125 hR
 obtain rfl:=so hA92
 exact rj hR92 ⟨rfl,sf3,sf5,sf9,hst⟩
 intro f w_ hR
 obtain ⟨rfl,sf3,sf5,sf9,hst⟩:=rk hR92 hR
 refine W_region (mF sf9 rfl (L_add rfl rfl rfl (aI rfl (nn ?_))))
 obtain rfl:=so hB87
 show ∃ m,m < _∧I87 m _ _
 refine ⟨rest87,Nat.lt_succ_self _,?_⟩
 exact ij hI87 ⟨i_84 + 1,rest87,H85,rfl,by omega,by omega,hL87,l86,sf3,sf5,(Eq.trans rfl (congrArg (Value.int .i64) (i64_succ (n:=0 + k88) (by omega) (cntF_le hk88)))),hst⟩
 rcases suf87 with _ | _
 obtain rfl:=count_zero hL87
 refine W_exit (rj hR87 ⟨H85,rfl,l86,(Star.keepN 0 hst)⟩)
 exact absurd (cntF_yes hs87 hl87 hk88) (of_decide_eq_false hc91)
 intro f w_ hR
 obtain ⟨H85,rfl,l86,hst⟩:=rk hR87 hR
 refine sq (aB rfl (nn (W_ret (retG1 (v1:=Bo true) Try.results6 rfl ?_))))
 obtain rfl:=so hF
 exact ⟨rfl,(Star.down hst (Le.trans l5 l86) c0)⟩
end Go.Proofs.Ytiodhgbfceahfaa

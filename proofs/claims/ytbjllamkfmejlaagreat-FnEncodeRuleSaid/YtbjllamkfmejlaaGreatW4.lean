/- Part of a proof by program: W4. -/
import Derived.Test.YtbjllamkfmejlaaGreatD1
import Derived.Test.YtbjllamkfmejlaaGreatW3
namespace Go.Proofs.YtbjllamkfmejlaaGreat
open Go Go.E Go.L Go.RowKit
set_option linter.unusedVariables false
set_option linter.unusedSimpArgs false
set_option maxRecDepth 100000
theorem s_l6DrawCells_c {r_ : Rd} {m : Model} {g_0 : Nat} {v0_0 : Value} {v1_0 : Value} {v1_1 : Value} {H : FH} {w : World} (hst : Star H w [box g_0 136 #[v0_0,I r_.p]]) (h0_0 : (rS 5 RP.u8).rel H [v0_0] r_.b) (h1_0 : (rS 3 RP.int).rel H [v1_0] m.sizes) (h1_1 : (rS 79 (rRule 3 23)).rel H [v1_1] m.rules) {r : (List Int) × Int} (hF : s_l6DrawCells r_ m = some r) :
 C Tryz.prog 76 #[Pt g_0,.agg #[v1_0,v1_1]] w fun v w'=>∃ (u1 : Value),v = u1∧Star H w' [oF 3 RP.int u1 r.1,box g_0 136 #[v0_0,I r.2]]:=by
 unfold s_l6DrawCells at hF
 refine C_enter Tryz.func76 rfl Tryz.ntmps76 rfl (sq (L_box (v:=.agg #[v1_0,v1_1]) (cs:=#[v1_0,v1_1]) rfl rfl rfl hst (fun g3 w4 hst=>aV S0 rfl (ns (L_bs rfl parts0 (bs_23_0  ) hst (fun g8 w9 hst=>?_))))))
 have hst:=Star.mkRow (R:=(OR.frz RP.int)) [] [] 0 hst rfl rfl rfl (by decide)
 refine aV (Sl g8 0 0) rfl (nq (sq (aI rfl (nn ?_))))
 have hlen15 : List.length m.sizes≤9223372036854775807:=len_le (slice_len h1_0)
 obtain ⟨j15,hL15,hF⟩:=bind_some hF
 obtain ⟨R15,hR15⟩:=exR fun f w_=>∃ out_12 : List Int,∃ g_0_1_14 : Int,∃ v12_out : Value,j15 = .nx (out_12,g_0_1_14)∧f 0 = Pt g_0∧f 5 = v12_out∧Star H w_ ([oF 3 RP.int v12_out out_12,box g_0 136 #[v0_0,I g_0_1_14]])
 refine W_join R15 ?_ ?_
 refine W_block ?_
 obtain ⟨I15,hI15⟩:=exI fun n f w_=>∃ i_11 : Nat,∃ suf15 : List Int,∃ out_12 : List Int,∃ g_0_1_14 : Int,∃ v12_out : Value,n = suf15.length∧List.drop i_11 m.sizes = suf15∧i_11 + suf15.length = m.sizes.length∧rangeL (s_l6DrawCells_b1 r_) suf15 i_11 (out_12,g_0_1_14) = some j15∧f 0 = Pt g_0∧f 3 = Pt g3∧f 5 = v12_out∧f 6 = I i_11∧Star H w_ ([oF 3 RP.int v12_out out_12,box g_0 136 #[v0_0,I g_0_1_14],box g3 26 #[v1_0,v1_1]])
 have hst:=hst.gets [1,2,2] rfl
 refine W_loop I15 (n:=m.sizes.length) ?_ ?_
 exact ij hI15 ⟨0,m.sizes,[],r_.p,(Sl g8 0 0),rfl,rfl,Nat.zero_add _,hL15,rfl,rfl,rfl,rfl,hst⟩
 intro n15 f w_ hI
 obtain ⟨i_11,suf15,out_12,g_0_1_14,v12_out,rfl,hd15,hl15,hL15,sf0,sf3,sf5,sf6,hst⟩:=ik hI15 hI
 refine W_seq (sq (mF sf6 rfl (fA 0 fa_26_0 sf3 rfl (ldB 2 hst Tryz.isAgg23 rfl rfl rfl (L_len rfl Tryz.underlying23 rfl (slice_len h1_0) (L_lss rfl rfl rfl (nn (W_cond (b:=decide ((i_11 : Int) < (m.sizes.length : Int))) rfl (fun hc16=>?_) (fun hc16=>?_)))))))))
 have hlt15:=of_decide_eq_true hc16
 rcases suf15 with _ | ⟨x_15,rest15⟩
 exact absurd hlt15 (by simp at hl15; omega)
 obtain ⟨o15,hB15,hL15⟩:=range_cons hL15
 rw [s_l6DrawCells_b1] at hB15
 have hix15:=drop_idx hd15
 refine W_skip (W_seq (W_block (sq (fA 0 fa_26_0 sf3 rfl (ldB 2 hst Tryz.isAgg23 rfl rfl rfl (mF sf6 rfl (L_ix (r:=RP.int) rfl Tryz.underlying23 Tryz.sizeOf3 rfl h1_0 rfl hix15 (fun g21 o22 cs_g21 hrk_hat23 hat23=>?_))))))))
 obtain rfl : _ = [_]:=hrk_hat23
 refine L_ld rfl Tryz.isAgg3 rfl (At.cell (AtH.at hat23 hst.sub) (j:=0) rfl) (L_add rfl rfl rfl (aI rfl (nq (W_seq ?_))))
 obtain ⟨R25,hR25⟩:=exR fun f w_=>f 0 = Pt g_0∧f 3 = Pt g3∧f 5 = v12_out∧f 6 = I i_11∧f 7 = I (i64 (x_15 + 1))∧f 27 = Bo ((decide ((i64 (x_15 + 1)) < 1)) || (decide ((i64 (x_15 + 1)) > 4)))∧Star H w_ ([oF 3 RP.int v12_out out_12,box g_0 136 #[v0_0,I g_0_1_14],box g3 26 #[v1_0,v1_1]])
 refine W_join R25 ?_ ?_
 refine W_region (mI rfl (L_lss rfl rfl rfl (mB rfl (L_split (d:=24) (b:=decide ((i64 (x_15 + 1)) < 1)) rfl (fun hc26=>?_) (fun hc26=>?_)))))
 refine ps rfl (ps rfl (L_pick (v:=Bo ((decide ((i64 (x_15 + 1)) < 1)) || (decide ((i64 (x_15 + 1)) > 4)))) rfl rfl (or_t hc26) (nn (rj hR25 ⟨sf0,sf3,sf5,sf6,rfl,rfl,hst⟩))))
 refine mI rfl (L_gtr rfl rfl rfl (L_pick (v:=Bo ((decide ((i64 (x_15 + 1)) < 1)) || (decide ((i64 (x_15 + 1)) > 4)))) rfl rfl (or_f hc26 rfl) (nn (rj hR25 ⟨sf0,sf3,sf5,sf6,rfl,rfl,hst⟩))))
 intro f w_ hR
 obtain ⟨sf0,sf3,sf5,sf6,sf7,sf27,hst⟩:=rk hR25 hR
 obtain ⟨n_27,hA28,hB15⟩:=bind_some hB15
 obtain ⟨R28,hR28⟩:=exR fun f w_=>f 0 = Pt g_0∧f 3 = Pt g3∧f 5 = v12_out∧f 6 = I i_11∧f 7 = I n_27∧Star H w_ ([oF 3 RP.int v12_out out_12,box g_0 136 #[v0_0,I g_0_1_14],box g3 26 #[v1_0,v1_1]])
 refine W_join R28 ?_ ?_
 refine W_cond (b:=((decide ((i64 (x_15 + 1)) < 1)) || (decide ((i64 (x_15 + 1)) > 4)))) sf27 (fun hc29=>?_) (fun hc29=>?_)
 have hA28:=(ite_t hc29).symm.trans hA28
 refine W_region (aI rfl (nn ?_))
 obtain rfl:=so hA28
 exact rj hR28 ⟨sf0,sf3,sf5,sf6,rfl,hst⟩
 have hA28:=(ite_f hc29).symm.trans hA28
 refine W_skip ?_
 obtain rfl:=so hA28
 exact rj hR28 ⟨sf0,sf3,sf5,sf6,sf7,hst⟩
 intro f w_ hR
 obtain ⟨sf0,sf3,sf5,sf6,sf7,hst⟩:=rk hR28 hR
 obtain ⟨x35,hx35,hB15⟩:=bind_some hB15
 obtain ⟨x40,hx40,hB15⟩:=bind_some hB15
 refine W_region (mF sf5 rfl (mF sf0 rfl (mF sf7 rfl ?_)))
 have hst:=hst.get 1 rfl
 obtain ⟨H44b,l45,s46,z47,k48⟩:=hst.lend [_]
 refine L_call rfl Tryz.call127 (ops2 rfl rfl) (s_l17Rd_pick_c (r_:=({ b:=r_.b,p:=g_0_1_14 } : Rd)) (n_:=n_27) s46 (RP.mono _ h0_0 l45) hx35) ?_
 rintro _ w49 ⟨rfl,hst⟩
 have hst:=k48 hst (cb c0)
 refine L_bs rfl (parts1 rfl) (bs_23_1_0 (I x35.1) rfl) hst (fun g50 w51 hst=>?_)
 have hst:=Star.addF (r:=RP.int) (cs:=[I x35.1]) (x:=x35.1) hst rfl
 have hst:=Star.mkRow (R:=(OR.frz RP.int)) [([I x35.1],x35.1)] [x35.1] 1 hst rfl rfl rfl (by decide)
 have hst:=hst.get 2 rfl
 refine L_appM (v:=v12_out) (u:=(Sl g50 1 1)) rfl et_23 rfl rfl hst hx40 (fun v53 w54 hst=>aV v53 rfl (nn (W_region (mF sf6 rfl (L_add rfl rfl rfl (aI rfl (nn ?_)))))))
 obtain rfl:=so hB15
 show ∃ m,m < _∧I15 m _ _
 refine ⟨rest15.length,by simp,?_⟩
 exact ij hI15 ⟨i_11 + 1,rest15,x40,x35.2,v53,rfl,drop_next hd15,by simp at hl15; omega,hL15,sf0,sf3,rfl,(Eq.trans rfl (congrArg (Value.int .i64) (i64_succ (n:=m.sizes.length) (by simp at hl15; omega) hlen15))),hst⟩
 rcases suf15 with _ | ⟨_,_⟩
 obtain rfl:=range_nil hL15
 refine W_exit (rj hR15 ⟨out_12,g_0_1_14,v12_out,rfl,sf0,sf5,(Star.keepN 2 hst)⟩)
 exact absurd (of_decide_eq_false hc16) (by simp at hl15; omega)
 intro f w_ hR
 obtain ⟨out_12,g_0_1_14,v12_out,rfl,sf0,sf5,hst⟩:=rk hR15 hR
 refine W_seq (W_seq ?_)
 obtain ⟨x61,hx61,hF⟩:=bind_some hF
 refine W_region (mF sf0 rfl ?_)
 have hst:=hst.get 1 rfl
 obtain ⟨H63b,l64,s65,z66,k67⟩:=hst.lend [_]
 refine L_call rfl Tryz.call127 (ops2 rfl rfl) (s_l17Rd_pick_c (r_:=({ b:=r_.b,p:=g_0_1_14 } : Rd)) (n_:=40) s65 (RP.mono _ h0_0 l64) hx61) ?_
 rintro _ w68 ⟨rfl,hst⟩
 have hst:=k67 hst (cb c0)
 refine nn (W_block (sq (L_eql rfl rfl rfl (aB rfl (nn ?_)))))
 obtain ⟨⟨out_69,g_0_1_71⟩,hA72,hF⟩:=bind_some hF
 obtain ⟨R72,hR72⟩:=exR fun f w_=>∃ v69_out : Value,f 5 = v69_out∧Star H w_ ([oF 3 RP.int v69_out out_69,box g_0 136 #[v0_0,I g_0_1_71]])
 refine W_join R72 ?_ ?_
 refine W_cond (b:=(x61.1 == 0)) rfl (fun hc73=>?_) (fun hc73=>?_)
 have hA72:=(ite_t hc73).symm.trans hA72
 obtain ⟨x77,hx77,hA72⟩:=bind_some hA72
 refine W_region (mF sf5 rfl (L_bs rfl (parts1 rfl) (bs_23_1_0 (I 0) rfl) hst (fun g81 w82 hst=>?_)))
 have hst:=litInts [0] 1 hst rfl rfl (by decide)
 have hst:=hst.get 2 rfl
 refine L_appM (v:=v12_out) (u:=(Sl g81 1 1)) rfl et_23 rfl rfl hst hx77 (fun v84 w85 hst=>aV v84 rfl (nn ?_))
 obtain ⟨rfl,rfl⟩:=so2 hA72
 exact rj hR72 ⟨v84,rfl,hst⟩
 have hA72:=(ite_f hc73).symm.trans hA72
 refine sq (L_eql rfl rfl rfl (aB rfl (nn ?_)))
 obtain ⟨⟨out_87,g_0_1_88⟩,hA89,hA72⟩:=bind_some hA72
 obtain ⟨R89,hR89⟩:=exR fun f w_=>f 5 = v12_out∧Star H w_ ([oF 3 RP.int v12_out out_87,box g_0 136 #[v0_0,I g_0_1_88]])
 refine W_join R89 ?_ ?_
 refine W_cond (b:=(x61.1 == 1)) rfl (fun hc90=>?_) (fun hc90=>?_)
 have hA89:=(ite_t hc90).symm.trans hA89
 refine sq (mF sf5 rfl (L_len rfl Tryz.underlying23 rfl (Star.len 1 hst rfl) (L_gtr rfl rfl rfl (nn ?_))))
 obtain ⟨⟨out_91,g_0_1_92⟩,hA93,hA89⟩:=bind_some hA89
 obtain ⟨R93,hR93⟩:=exR fun f w_=>f 5 = v12_out∧Star H w_ ([oF 3 RP.int v12_out out_91,box g_0 136 #[v0_0,I g_0_1_92]])
 refine W_join R93 ?_ ?_
 refine W_cond (b:=decide ((out_12.length : Int) > 0)) rfl (fun hc94=>?_) (fun hc94=>?_)
 have hA93:=(ite_t hc94).symm.trans hA93
 obtain ⟨x104,hx104,hA93⟩:=bind_some hA93
 obtain ⟨x106,hx106,hA93⟩:=bind_some hA93
 refine W_region (mF sf5 rfl (mF sf0 rfl (L_bs rfl (parts3 rfl rfl rfl) (bs_23_3_0_0_0 (I (-1)) (I 4) (I 9223372036854775807) rfl rfl rfl) hst (fun g110 w111 hst=>?_))))
 have hst:=litInts [(-1),4,9223372036854775807] 3 hst rfl rfl (by decide)
 have hst:=hst.get 1 rfl
 obtain ⟨H113b,l114,s115,z116,k117⟩:=hst.lend [_]
 have hb118 : (rS 3 RP.int).rel H113b [(Sl g110 3 3)] ([(-1),4,9223372036854775807]):=fz_own 0 z116 rfl
 refine L_call rfl Tryz.call75 (ops2 rfl rfl) (s_l17Rd_num_c (r_:=({ b:=r_.b,p:=x61.2 } : Rd)) (list:=[(-1),4,9223372036854775807]) s115 (RP.mono _ h0_0 l114) hb118 hx104) ?_
 rintro _ w119 ⟨rfl,hst⟩
 have hst:=k117 hst (cb c0)
 obtain ⟨g120,cap_g120,hv121,_,_⟩:=Star.row 2 hst rfl hx106
 refine L_ixO (R:=(OR.frz RP.int)) (tb:=0) 0 rfl Tryz.underlying23 Tryz.sizeOf3 rfl hv121 (by first | rfl | simp) rfl hx106 ?_
 have hst:=Star.addF (r:=RP.int) (cs:=[I x104.1]) (x:=x104.1) hst rfl
 have hst:=hst.gets [3,1] rfl
 refine L_stE1 (u:=I x104.1) rfl Tryz.sizeOf3 rfl rfl rfl hv121 hst hx106 (fun w122 hst=>?_)
 refine nn ?_
 obtain ⟨rfl,rfl⟩:=so2 hA93
 exact rj hR93 ⟨sf5,(Star.keepN 2 hst)⟩
 have hA93:=(ite_f hc94).symm.trans hA93
 refine W_skip ?_
 obtain ⟨rfl,rfl⟩:=so2 hA93
 have hst:=hst.get 1 rfl
 exact rj hR93 ⟨sf5,hst⟩
 intro f w_ hR
 obtain ⟨sf5,hst⟩:=rk hR93 hR
 obtain ⟨rfl,rfl⟩:=so2 hA89
 exact rj hR89 ⟨sf5,hst⟩
 have hA89:=(ite_f hc90).symm.trans hA89
 refine W_skip ?_
 obtain ⟨rfl,rfl⟩:=so2 hA89
 have hst:=hst.get 1 rfl
 exact rj hR89 ⟨sf5,hst⟩
 intro f w_ hR
 obtain ⟨sf5,hst⟩:=rk hR89 hR
 obtain ⟨rfl,rfl⟩:=so2 hA72
 exact rj hR72 ⟨v12_out,sf5,hst⟩
 intro f w_ hR
 obtain ⟨v69_out,sf5,hst⟩:=rk hR72 hR
 refine sq (mF sf5 rfl (aV v69_out rfl (nn (W_ret (retG1 (v1:=v69_out) Tryz.results76 rfl ?_)))))
 obtain rfl:=so hF
 exact ⟨v69_out,rfl,hst⟩
theorem i_holds_c {l : Int} {values : List Bool} {v1 : Value} {H : FH} {w : World} (hst : Star H w []) (h1 : (rS 4 RP.bool).rel H [v1] values) {r : Bool} (hF : i_holds l values = some r) :
 C Tryz.prog 163 #[I l,v1] w fun v w'=>v = Bo r∧Star H w' []:=by
 unfold i_holds at hF
 refine C_enter Tryz.func163 rfl Tryz.ntmps163 rfl (sq (aB rfl (nq ?_)))
 obtain ⟨x6,hx6,hF⟩:=bind_some hF
 obtain ⟨x8,hx8,hF⟩:=bind_some hF
 refine W_region (mV v1 rfl (mI rfl ?_))
 obtain ⟨H13b,l14,s15,z16,k17⟩:=hst.borrow
 refine L_call rfl Tryz.call100 (ops1 rfl) (i_variableOf_c (l:=l) s15 hx6) ?_
 rintro _ w18 ⟨rfl,hst⟩
 have hst:=k17 hst c0
 refine L_sub rfl rfl rfl (L_ix (r:=RP.bool) rfl Tryz.underlying37 Tryz.sizeOf4 rfl h1 rfl hx8 (fun g19 o20 cs_g19 hrk_hat21 hat21=>?_))
 obtain rfl : _ = [_]:=hrk_hat21
 refine L_ld rfl Tryz.isAgg4 rfl (At.cell (AtH.at hat21 hst.sub) (j:=0) rfl) (mI rfl (L_gtr rfl rfl rfl (L_beql (b:=x8) (c:=decide (l > 0)) rfl Tryz.underlying4 rfl rfl (aB rfl (nn (W_ret (retG1 (v1:=Bo (x8 == (decide (l > 0)))) Tryz.results163 rfl ?_)))))))
 obtain rfl:=so hF
 exact ⟨rfl,hst⟩
theorem i_Constraint_holds_c {c : Con} {values : List Bool} {v0_0 : Value} {v1 : Value} {H : FH} {w : World} (hst : Star H w []) (h0_0 : (rS 122 rTerm).rel H [v0_0] c.terms) (h1 : (rS 4 RP.bool).rel H [v1] values) {r : Bool} (hF : i_Constraint_holds c values = some r) :
 C Tryz.prog 125 #[.agg #[v0_0,I c.bound],v1] w fun v w'=>v = Bo r∧Star H w' []:=by
 unfold i_Constraint_holds at hF
 refine C_enter Tryz.func125 rfl Tryz.ntmps125 rfl (sq (L_box (v:=.agg #[v0_0,I c.bound]) (cs:=#[v0_0,I c.bound]) rfl rfl rfl hst (fun g3 w4 hst=>aB rfl (ns (aI rfl (nq (sq (fA 0 fa_73_0 rfl rfl (ldB 0 hst Tryz.isAgg71 rfl rfl rfl (L_len rfl Tryz.underlying71 rfl (slice_len h0_0) (mI rfl (nn ?_))))))))))))
 have hlen7 : List.length c.terms≤9223372036854775807:=len_le (slice_len h0_0)
 obtain ⟨j7,hL7,hF⟩:=bind_some hF
 obtain ⟨R7,hR7⟩:=exR fun f w_=>∃ sum_6 : Int,j7 = .nx sum_6∧f 2 = Pt g3∧f 5 = I sum_6∧Star H w_ ([box g3 73 #[v0_0,I c.bound]])
 refine W_join R7 ?_ ?_
 refine W_block ?_
 obtain ⟨I7,hI7⟩:=exI fun n f w_=>∃ i_5 : Nat,∃ suf7 : List Term,∃ sum_6 : Int,n = suf7.length∧List.drop i_5 c.terms = suf7∧i_5 + suf7.length = c.terms.length∧rangeL (i_Constraint_holds_b1 values) suf7 i_5 sum_6 = some j7∧f 1 = v1∧f 2 = Pt g3∧f 5 = I sum_6∧f 9 = v0_0∧f 10 = I (c.terms.length : Int)∧f 11 = I i_5∧Star H w_ ([box g3 73 #[v0_0,I c.bound]])
 refine W_loop I7 (n:=c.terms.length) ?_ ?_
 exact ij hI7 ⟨0,c.terms,0,rfl,rfl,Nat.zero_add _,hL7,rfl,rfl,rfl,rfl,rfl,rfl,hst⟩
 intro n7 f w_ hI
 obtain ⟨i_5,suf7,sum_6,rfl,hd7,hl7,hL7,sf1,sf2,sf5,sf9,sf10,sf11,hst⟩:=ik hI7 hI
 refine sq (L_lss rfl sf11 sf10 (nq (W_cond (b:=decide ((i_5 : Int) < (c.terms.length : Int))) rfl (fun hc8=>?_) (fun hc8=>?_))))
 have hlt7:=of_decide_eq_true hc8
 rcases suf7 with _ | ⟨x_7,rest7⟩
 exact absurd hlt7 (by simp at hl7; omega)
 obtain ⟨o7,hB7,hL7⟩:=range_cons hL7
 rw [i_Constraint_holds_b1] at hB7
 have hix7:=drop_idx hd7
 refine W_skip (W_seq (W_block (sq (L_ix (r:=rTerm) rfl Tryz.underlying71 Tryz.sizeOf122 sf9 h0_0 sf11 hix7 (fun g16 o17 cs_g16 hrk_hat18 hat18=>?_)))))
 obtain rfl:=rTerm_iff.1 hrk_hat18
 refine L_lda (cs:=[I x_7.coef,I x_7.lit]) rfl Tryz.isAgg122 Tryz.sizeOf122 rfl (At.sub (AtH.at hat18 hst.sub) 0 2) rfl (L_al (cs:=#[I 0,I 0]) rfl Tryz.zeroValue122 rfl hst (fun g20 w21 hst=>L_staB (vs:=#[I x_7.coef,I x_7.lit]) (cs2:=#[I x_7.coef,I x_7.lit]) 0 rfl Tryz.sizeOf122 rfl rfl rfl (ones_cons rfl (ones_cons rfl ones_nil)) hst rfl (by show 0 + 2≤2; decide) rfl (fun w22 hst=>nq ?_)))
 obtain ⟨x28,hx28,hB7⟩:=bind_some hB7
 refine W_region (fA 1 fa_122_1 rfl rfl (ldB 0 hst Tryz.isAgg3 rfl rfl rfl (mF sf1 rfl ?_)))
 obtain ⟨H30b,l31,s32,z33,k34⟩:=hst.borrow
 refine L_call rfl Tryz.call163 (ops2 rfl rfl) (i_holds_c (l:=x_7.lit) (values:=values) s32 (RP.mono _ h1 l31) hx28) ?_
 rintro _ w35 ⟨rfl,hst⟩
 have hst:=k34 hst c0
 refine nn ?_
 obtain ⟨sum_36,hA37,hB7⟩:=bind_some hB7
 obtain ⟨R37,hR37⟩:=exR fun f w_=>f 1 = v1∧f 2 = Pt g3∧f 5 = I sum_36∧f 9 = v0_0∧f 10 = I (c.terms.length : Int)∧f 11 = I i_5∧Star H w_ ([box g3 73 #[v0_0,I c.bound]])
 refine W_join R37 ?_ ?_
 refine W_cond (b:=x28) rfl (fun hc38=>?_) (fun hc38=>?_)
 have hA37:=(ite_t hc38).symm.trans hA37
 refine W_region (mF sf5 rfl (fA 0 fa_122_0 rfl rfl (ldB 0 hst Tryz.isAgg3 rfl rfl rfl (L_add rfl rfl rfl (aI rfl (nn ?_))))))
 obtain rfl:=so hA37
 have hst:=hst.get 1 rfl
 exact rj hR37 ⟨sf1,sf2,rfl,sf9,sf10,sf11,(Star.keepN 1 hst)⟩
 have hA37:=(ite_f hc38).symm.trans hA37
 refine W_skip ?_
 obtain rfl:=so hA37
 have hst:=hst.get 1 rfl
 exact rj hR37 ⟨sf1,sf2,sf5,sf9,sf10,sf11,(Star.keepN 1 hst)⟩
 intro f w_ hR
 obtain ⟨sf1,sf2,sf5,sf9,sf10,sf11,hst⟩:=rk hR37 hR
 refine W_region (L_add rfl sf11 rfl (mI rfl (nn ?_)))
 obtain rfl:=so hB7
 show ∃ m,m < _∧I7 m _ _
 refine ⟨rest7.length,by simp,?_⟩
 exact ij hI7 ⟨i_5 + 1,rest7,sum_36,rfl,drop_next hd7,by simp at hl7; omega,hL7,sf1,sf2,sf5,sf9,sf10,(Eq.trans rfl (congrArg (Value.int .i64) (i64_succ (n:=c.terms.length) (by simp at hl7; omega) hlen7))),hst⟩
 rcases suf7 with _ | ⟨_,_⟩
 obtain rfl:=range_nil hL7
 refine W_exit (rj hR7 ⟨sum_6,rfl,sf2,sf5,hst⟩)
 exact absurd (of_decide_eq_false hc8) (by simp at hl7; omega)
 intro f w_ hR
 obtain ⟨sum_6,rfl,sf2,sf5,hst⟩:=rk hR7 hR
 refine sq (mF sf5 rfl (fA 1 fa_73_1 sf2 rfl (ldB 0 hst Tryz.isAgg3 rfl rfl rfl (L_geq rfl rfl rfl (aB rfl (nn (W_ret (retG1 (v1:=Bo (decide (sum_6 ≥ c.bound))) Tryz.results125 rfl ?_))))))))
 obtain rfl:=so hF
 exact ⟨rfl,(Star.keepN 0 hst)⟩
theorem i_satisfies_1_c {c1 : List Bool} {c : Con} {v0_0 : Value} {g_c1 : Nat} {v1_0 : Value} {H : FH} {w : World} (hst : Star H w []) (h0_0 : (rS 122 rTerm).rel H [v0_0] c.terms) (hat_g_c1 : AtH H g_c1 0 [v1_0]) (h1_0 : (rS 4 RP.bool).rel H [v1_0] c1) {r : Bool} (hF : i_satisfies_1 c1 c = some r) :
 C Tryz.prog 124 #[.agg #[v0_0,I c.bound],Pt g_c1] w fun v w'=>v = Bo r∧Star H w' []:=by
 unfold i_satisfies_1 at hF
 refine C_enter Tryz.func124 rfl Tryz.ntmps124 rfl (sq (L_box (v:=.agg #[v0_0,I c.bound]) (cs:=#[v0_0,I c.bound]) rfl rfl rfl hst (fun g3 w4 hst=>aB rfl (nq ?_))))
 obtain ⟨x10,hx10,hF⟩:=bind_some hF
 refine W_region (L_lda (cs:=[v0_0,I c.bound]) rfl Tryz.isAgg73 Tryz.sizeOf73 rfl (At.sub0 (Blk.at (Star.blkAt 0 hst rfl)) 0 2) rfl (L_ld rfl Tryz.isAgg37 rfl (At.cell0 (AtH.at hat_g_c1 hst.sub) (j:=0) rfl) ?_))
 obtain ⟨H12b,l13,s14,z15,k16⟩:=hst.borrow
 refine L_call rfl Tryz.call125 (ops2 rfl rfl) (i_Constraint_holds_c (c:=c) (values:=c1) s14 (RP.mono _ h0_0 l13) (RP.mono _ h1_0 l13) hx10) ?_
 rintro _ w17 ⟨rfl,hst⟩
 have hst:=k16 hst c0
 refine L_not_ rfl rfl (aB rfl (nn (W_ret (retG1 (v1:=Bo (!x10)) Tryz.results124 rfl ?_))))
 obtain rfl:=so hF
 exact ⟨rfl,(Star.keepN 0 hst)⟩
theorem i_satisfies_c {list : List Con} {values : List Bool} {v0 : Value} {v1 : Value} {H : FH} {w : World} (hst : Star H w []) (h0 : (rS 73 (rCon 122)).rel H [v0] list) (h1 : (rS 4 RP.bool).rel H [v1] values) {r : Bool} (hF : i_satisfies list values = some r) :
 C Tryz.prog 71 #[v0,v1] w fun v w'=>v = Bo r∧Star H w' []:=by
 unfold i_satisfies at hF
 refine C_enter Tryz.func71 rfl Tryz.ntmps71 rfl (sq (L_box (v:=v1) (cs:=#[v1]) rfl rfl (cells_one (one_len (slice_len h1))) hst (fun g3 w4 hst=>aB rfl (nq ?_))))
 obtain ⟨x10,hx10,hF⟩:=bind_some hF
 refine W_region (mV v0 rfl (L_mf rfl (ops1 rfl) ?_))
 obtain ⟨H12b,l13,s14,z15,k16⟩:=hst.borrow
 have hf17 : Fun1 Tryz.prog (rCon 122) true Value.bool (i_satisfies_1 values) (.func (.func 124) #[] #[Pt g3]) H12b:=by
   refine ⟨_,_,rfl,Tryz.call124,fun H_ w_ hE_ hs_ cs_ x_ y_ args_ hr_ hy_ ha_=>?_⟩
   obtain ⟨p_0,rfl,hp_0⟩:=rCon_iff.1 hr_
   obtain rfl:=args_of (b:=#[.agg #[p_0,I x_.bound],Pt g3]) ha_
   exact i_satisfies_1_c (c1:=values) (c:=x_) hs_ hp_0 (AtH.le (AtH.of (fz_box 0 z15 rfl)) hE_) (RP.mono _ (RP.mono _ h1 l13) hE_) hy_
 refine L_call rfl Tryz.call123 (ops2 rfl rfl) (slices_ContainsFunc_implConstraint_c (s:=list) (f_:=(i_satisfies_1 values)) s14 (RP.mono _ h0 l13) hf17 hx10) ?_
 rintro _ w18 ⟨rfl,hst⟩
 have hst:=k16 hst c0
 refine L_not_ rfl rfl (aB rfl (nn (W_ret (retG1 (v1:=Bo (!x10)) Tryz.results71 rfl ?_))))
 obtain rfl:=so hF
 exact ⟨rfl,(Star.keepN 0 hst)⟩
theorem i_SatisfiesAll_c {list : List Con} {values : List Bool} {v0 : Value} {v1 : Value} {H : FH} {w : World} (hst : Star H w []) (h0 : (rS 73 (rCon 122)).rel H [v0] list) (h1 : (rS 4 RP.bool).rel H [v1] values) {r : Bool} (hF : i_SatisfiesAll list values = some r) :
 C Tryz.prog 28 #[v0,v1] w fun v w'=>v = Bo r∧Star H w' []:=by
 unfold i_SatisfiesAll at hF
 refine C_enter Tryz.func28 rfl Tryz.ntmps28 rfl (sq (aB rfl (nq ?_)))
 obtain ⟨x6,hx6,hF⟩:=bind_some hF
 obtain ⟨b15,hb15,hF⟩:=bind_some hF
 obtain ⟨R16,hR16⟩:=exR fun f w_=>f 4 = Bo b15∧Star H w_ ([])
 refine W_join R16 ?_ ?_
 refine W_region (mV v0 rfl ?_)
 obtain ⟨H17b,l18,s19,z20,k21⟩:=hst.borrow
 refine L_call rfl Tryz.call37 (ops1 rfl) (i_ProblemValid_c (list:=list) s19 (RP.mono _ h0 l18) hx6) ?_
 rintro _ w22 ⟨rfl,hst⟩
 have hst:=k21 hst c0
 refine mB rfl (L_split (d:=7) (b:=x6) rfl (fun hc23=>?_) (fun hc23=>?_))
 refine mV v1 rfl (L_len rfl Tryz.underlying37 rfl (slice_len h1) (L_eql rfl rfl rfl (L_pick (v:=Bo (x6 && ((values.length : Int) == 12))) rfl rfl (and_t hc23 rfl) (mB rfl (L_split (d:=12) (b:=(x6 && ((values.length : Int) == 12))) rfl (fun hc24=>?_) (fun hc24=>?_))))))
 rw [ite_t hc24] at hb15
 obtain ⟨x13,hx13,hb15⟩:=bind_some hb15
 refine mV v0 rfl (mV v1 rfl ?_)
 obtain ⟨H25b,l26,s27,z28,k29⟩:=hst.borrow
 refine L_call rfl Tryz.call71 (ops2 rfl rfl) (i_satisfies_c (list:=list) (values:=values) s27 (RP.mono _ h0 l26) (RP.mono _ h1 l26) hx13) ?_
 rintro _ w30 ⟨rfl,hst⟩
 have hst:=k29 hst c0
 refine L_pick (v:=Bo b15) rfl rfl (congrArg Value.bool (so hb15)) (aB rfl (nn (rj hR16 ⟨rfl,hst⟩)))
 rw [ite_f hc24] at hb15
 refine ps rfl (ps rfl (ps rfl (L_pick (v:=Bo b15) rfl rfl (congrArg Value.bool (so hb15)) (aB rfl (nn (rj hR16 ⟨rfl,hst⟩))))))
 refine ps rfl (ps rfl (ps rfl (L_pick (v:=Bo (x6 && ((values.length : Int) == 12))) rfl rfl (and_f hc23) (mB rfl (L_split (d:=12) (b:=(x6 && ((values.length : Int) == 12))) rfl (fun hc31=>?_) (fun hc31=>?_))))))
 rw [ite_t hc31] at hb15
 obtain ⟨x13,hx13,hb15⟩:=bind_some hb15
 refine mV v0 rfl (mV v1 rfl ?_)
 obtain ⟨H32b,l33,s34,z35,k36⟩:=hst.borrow
 refine L_call rfl Tryz.call71 (ops2 rfl rfl) (i_satisfies_c (list:=list) (values:=values) s34 (RP.mono _ h0 l33) (RP.mono _ h1 l33) hx13) ?_
 rintro _ w37 ⟨rfl,hst⟩
 have hst:=k36 hst c0
 refine L_pick (v:=Bo b15) rfl rfl (congrArg Value.bool (so hb15)) (aB rfl (nn (rj hR16 ⟨rfl,hst⟩)))
 rw [ite_f hc31] at hb15
 refine ps rfl (ps rfl (ps rfl (L_pick (v:=Bo b15) rfl rfl (congrArg Value.bool (so hb15)) (aB rfl (nn (rj hR16 ⟨rfl,hst⟩))))))
 intro f w_ hR
 obtain ⟨sf4,hst⟩:=rk hR16 hR
 refine W_ret (retG1 (v1:=Bo b15) Tryz.results28 sf4 ?_)
 obtain rfl:=so hF
 exact ⟨rfl,hst⟩
theorem s_DrawRuleHolds_c {fu : Nat} {code : List UInt8} {v0 : Value} {H : FH} {w : World} {R : List Ass} (hst : Star H w R) (h0 : (rS 5 RP.u8).rel H [v0] code) {r : Unit} (hF : s_DrawRuleHolds fu code = some r) :
 C Tryz.prog 29 #[v0] w fun v w'=>∃ o : Model × Int × (List Int),(sModel o.1∧sOut o.2.2)∧∃ H' : FH,Le H H'∧∃ (u1 : Value) (u2 : Value) (u3 : Value),v = .tuple #[.agg #[u1,u2],I o.2.1,u3]∧(rS 3 RP.int).rel H' [u1] o.1.sizes∧(rS 79 (rRule 3 23)).rel H' [u2] o.1.rules∧(rS 3 RP.int).rel H' [u3] o.2.2∧Star H' w' (R):=by
 unfold s_DrawRuleHolds at hF
 refine C_enter Tryz.func29 rfl Tryz.ntmps29 rfl (sq (L_al (cs:=#[S0,S0]) rfl Tryz.zeroValue26 rfl hst (fun g3 w4 hst=>aI rfl (aV S0 rfl (nq ?_)))))
 obtain ⟨x5,hx5,hF⟩:=bind_some hF
 refine W_region (mV v0 rfl (L_call rfl Tryz.call72 (ops1 rfl) (s_l17Open_c (code:=code) hst h0 hx5) ?_))
 rintro _ w7 ⟨H7,l7,r7_0,r7_1,rfl,hr7_1,hst⟩
 refine aV (Pt r7_0) rfl (nq ?_)
 obtain ⟨x8,hx8,hF⟩:=bind_some hF
 obtain ⟨hx14,hF⟩:=anyB_some hF
 refine W_region (mV (Pt r7_0) rfl (mV (Pt r7_0) rfl (L_call rfl Tryz.call74 (ops1 rfl) (s_l6Model_c (r_:=x5) hst hr7_1 hx8) ?_)))
 rintro _ w19 ⟨H19,l19,r19_0,r19_1,rfl,hr19_0,hst⟩
 obtain ⟨H21,l22,hst,hz23⟩:=Star.freeze hst
 have hz23 : (rS 79 (rRule 3 23)).rel H21 [r19_1] x8.1.rules:=hz23
 refine L_call rfl Tryz.call73 (ops2 rfl rfl) (s_l6Mutate_c (r_:=({ b:=x5.b,p:=x8.2 } : Rd)) (m:=x8.1) hst (RP.mono _ hr7_1 (Le.trans l19 l22)) (RP.mono _ hr19_0 l22) hz23 hx14) ?_
 rintro _ w24 ⟨x14,gd24,H24,l24,r24_0,r24_1,rfl,hr24_0,hr24_1,hst⟩
 have hF:=hF x14 gd24
 refine L_al (cs:=#[S0,S0]) rfl Tryz.zeroValue26 rfl hst (fun g25 w26 hst=>L_staB (vs:=#[r24_0,r24_1]) (cs2:=#[r24_0,r24_1]) 0 rfl Tryz.sizeOf26 rfl rfl rfl (ones_cons (one_len (slice_len hr24_0)) (ones_cons (one_len (slice_len hr24_1)) ones_nil)) hst rfl (by show 0 + 2≤2; decide) rfl (fun w27 hst=>nq ?_))
 obtain ⟨x37,hx37,hF⟩:=bind_some hF
 obtain ⟨x44,hx44,hF⟩:=bind_some hF
 have hst:=hst.gets [1,2,2] rfl
 refine W_drawS 7 [isV (.agg #[r24_0,r24_1]),isV (Pt r7_0),anyF,isV (I x37.1),isV (Pt r7_0),isV (.agg #[r24_0,r24_1]),anyF] [box g25 26 #[r24_0,r24_1],box g3 26 #[S0,S0]] [.base (box r7_0 136 #[r7_1,I x14.2]) (some 3),.made 2 15 (fun v_=>oF 3 RP.int v_ ([0,0,1,2,(-1),8])) none,.made 3 16 (fun v_=>box r7_0 136 #[r7_1,I x37.2]) (some 6),.made 6 19 (fun v_=>oF 3 RP.int v_ x44.1) none,.made 6 19 (fun v_=>box r7_0 136 #[r7_1,I x44.2]) none] (R) [([],[]),([],[]),([],[1]),([0,1],[1,2]),([],[]),([],[]),([2],[3,4])] (S:=[(none,[],some 3),(some 2,[15],none),(some 3,[16],some 6),(some 6,[19],none),(some 6,[19],none)]) Tryz_mix (by kernel_rfl) rfl (by kernel_rfl) (amF_cons (mono_V _) (amF_cons (mono_V _) (amF_cons (mono_any) (amF_cons (mono_V _) (amF_cons (mono_V _) (amF_cons (mono_V _) (amF_cons (mono_any) amF_nil))))))) hst ?_ (fun f w_ H48 hS48 hE48 hT48 hst=>?_)
 refine opsS_cons (fun f w_ _ _ s _ _ hst=>L_lda (cs:=[r24_0,r24_1]) rfl Tryz.isAgg26 Tryz.sizeOf26 ((s 6 rfl).trans rfl) (At.sub0 (Blk.at (Star.blkAt 0 hst rfl)) 0 2) rfl (nO rfl rfl hst)) (opsS_cons (fun f w_ _ _ s _ _ hst=>mF ((s 5 rfl).trans rfl) rfl (nO rfl rfl hst)) (opsS_cons ?_ ?_))
 intro f w_ H48 X48 hS48 hE48 hP48 hst
 refine L_bs rfl (parts6 rfl rfl rfl rfl rfl rfl) (bs_23_6_0_0_0_0_0_0 (I 0) (I 0) (I 1) (I 2) (I (-1)) (I 8) rfl rfl rfl rfl rfl rfl) hst (fun g66 w67 hst=>?_)
 have hst:=litInts [0,0,1,2,(-1),8] 6 hst rfl rfl (by decide)
 have hst:=hst.gets [2,2] rfl
 exact L_nil ⟨rfl,_,_,rfl,Le.refl _,fun _ _=>trivial,hst⟩
 refine opsS_cons ?_ ?_
 intro f w_ H48 X48 hS48 hE48 hP48 hst
 have hst : Star H48 w_ (box g25 26 #[r24_0,r24_1] :: box g3 26 #[S0,S0] :: box r7_0 136 #[r7_1,I x14.2] :: oF 3 RP.int (f 15) ([0,0,1,2,(-1),8]) :: X48):=hst
 have hst:=hst.get 2 rfl
 obtain ⟨H70b,l71,s72,z73,k74⟩:=hst.lend [_]
 have hb75 : (rS 3 RP.int).rel H70b [(f 15)] ([0,0,1,2,(-1),8]):=fz_own 2 z73 rfl
 refine L_call rfl Tryz.call75 (ops2 (hP48 1 14 rfl rfl) rfl) (s_l17Rd_num_c (r_:=({ b:=x5.b,p:=x14.2 } : Rd)) (list:=[0,0,1,2,(-1),8]) s72 (RP.mono _ hr7_1 (Le.trans (Le.trans (Le.trans (Le.trans l19 l22) l24) hE48) l71)) hb75 hx37) ?_
 rintro _ w76 ⟨rfl,hst⟩
 have hst:=k74 hst (cb c0)
 have hst:=hst.gets [3,3,3] rfl
 exact L_nil ⟨rfl,_,_,rfl,Le.refl _,fun _ _=>rfl,hst⟩
 refine opsS_cons (fun f w_ _ _ s _ _ hst=>mF ((s 5 rfl).trans rfl) rfl (nO rfl rfl hst)) (opsS_cons (fun f w_ _ _ s _ _ hst=>L_lda (cs:=[r24_0,r24_1]) rfl Tryz.isAgg26 Tryz.sizeOf26 ((s 6 rfl).trans rfl) (At.sub0 (Blk.at (Star.blkAt 0 hst rfl)) 0 2) rfl (nO rfl rfl hst)) (opsS_cons ?_ ?_))
 intro f w_ H48 X48 hS48 hE48 hP48 hst
 have hst : Star H48 w_ (box g25 26 #[r24_0,r24_1] :: box g3 26 #[S0,S0] :: box r7_0 136 #[r7_1,I x37.2] :: X48):=hst
 have hst:=hst.get 2 rfl
 obtain ⟨H77b,l78,s79,z80,k81⟩:=hst.lend [_]
 refine L_call rfl Tryz.call76 (ops2 (hP48 4 17 rfl rfl) (hP48 5 18 rfl rfl)) (s_l6DrawCells_c (r_:=({ b:=x5.b,p:=x37.2 } : Rd)) (m:=x14.1) s79 (RP.mono _ hr7_1 (Le.trans (Le.trans (Le.trans (Le.trans l19 l22) l24) hE48) l78)) (RP.mono _ hr24_0 (Le.trans hE48 l78)) (RP.mono _ hr24_1 (Le.trans hE48 l78)) hx44) ?_
 rintro r82_0 w82 ⟨_,rfl,hst⟩
 have hst:=k81 hst (co closed_int (cb c0))
 have hst:=hst.gets [1,1,3,3] rfl
 exact L_nil ⟨rfl,_,_,rfl,Le.refl _,fun _ _=>trivial,hst⟩
 exact opsS_nil
 have hst : Star H48 w_ (box g25 26 #[r24_0,r24_1] :: box g3 26 #[S0,S0] :: oF 3 RP.int (f 15) ([0,0,1,2,(-1),8]) :: oF 3 RP.int (f 19) x44.1 :: box r7_0 136 #[r7_1,I x44.2] :: R):=hst
 refine L_staB (vs:=#[r24_0,r24_1]) (cs2:=#[r24_0,r24_1]) 1 rfl Tryz.sizeOf26 ((hS48 2 rfl).trans rfl) (hT48 0 13 rfl rfl) rfl (ones_cons (one_len (slice_len (RP.mono _ hr24_0 hE48))) (ones_cons (one_len (slice_len (RP.mono _ hr24_1 hE48))) ones_nil)) hst rfl (by show 0 + 2≤2; decide) rfl (fun w85 hst=>aF (hT48 3 16 rfl rfl) rfl (aV (f 19) rfl (nn (W_ret (retG3 (v1:=.agg #[r24_0,r24_1]) (v2:=I x37.1) (v3:=(f 19)) Tryz.results29 (resV_agg Tryz.isAgg26 Tryz.sizeOf26 ((hS48 2 rfl).trans rfl) (Star.blkAt 0 hst rfl) rfl) rfl rfl ?_)))))
 have hG:=assertM_some hF
 have hst:=hst.get 3 rfl
 obtain ⟨H86,l87,hst,hz88⟩:=Star.freeze hst
 have hz88 : (rS 3 RP.int).rel H86 [(f 19)] x44.1:=hz88
 have hst:=Star.drop 0 hst rfl
 have hst:=Star.drop 0 hst rfl
 have hst:=Star.drop 0 hst rfl
 have hst:=Star.drop 0 hst rfl
 exact ⟨(x14.1,x37.1,x44.1),hG,H86,(Le.trans (Le.trans (Le.trans (Le.trans (Le.trans l7 l19) l22) l24) hE48) l87),r24_0,r24_1,(f 19),rfl,(RP.mono _ hr24_0 (Le.trans hE48 l87)),(RP.mono _ hr24_1 (Le.trans hE48 l87)),hz88,hst⟩
theorem i_isRule_c {m : Model} {rule : Int} {v0_0 : Value} {v0_1 : Value} {H : FH} {w : World} (hst : Star H w []) (h0_0 : (rS 3 RP.int).rel H [v0_0] m.sizes) (h0_1 : (rS 79 (rRule 3 23)).rel H [v0_1] m.rules) {r : Bool} (hF : i_isRule m rule = some r) :
 C Tryz.prog 77 #[.agg #[v0_0,v0_1],I rule] w fun v w'=>v = Bo r∧Star H w' []:=by
 unfold i_isRule at hF
 refine C_enter Tryz.func77 rfl Tryz.ntmps77 rfl (sq (L_box (v:=.agg #[v0_0,v0_1]) (cs:=#[v0_0,v0_1]) rfl rfl rfl hst (fun g3 w4 hst=>aB rfl (nq ?_))))
 obtain ⟨x10,hx10,hF⟩:=bind_some hF
 refine W_region (mI rfl (fA 1 fa_26_1 rfl rfl (ldB 0 hst Tryz.isAgg24 rfl rfl rfl (L_len rfl Tryz.underlying24 rfl (slice_len h0_1) (L_sub rfl rfl rfl ?_)))))
 obtain ⟨H12b,l13,s14,z15,k16⟩:=hst.borrow
 refine L_call rfl Tryz.call92 (ops3 rfl rfl rfl) (i_within_c (n_:=rule) (low:=0) (high:=i64 ((m.rules.length : Int) - 1)) s14 hx10) ?_
 rintro _ w17 ⟨rfl,hst⟩
 have hst:=k16 hst c0
 refine aB rfl (nn (W_ret (retG1 (v1:=Bo x10) Tryz.results77 rfl ?_)))
 obtain rfl:=so hF
 exact ⟨rfl,(Star.keepN 0 hst)⟩
theorem i_EncodeRule_c {fu : Nat} {m : Model} {rule : Int} {v0_0 : Value} {v0_1 : Value} {H : FH} {w : World} {R : List Ass} (hst : Star H w R) (h0_0 : (rS 3 RP.int).rel H [v0_0] m.sizes) (h0_1 : (rS 79 (rRule 3 23)).rel H [v0_1] m.rules) {r : (List Con) × Bool} (hF : i_EncodeRule fu m rule = some r) :
 C Tryz.prog 30 #[.agg #[v0_0,v0_1],I rule] w fun v w'=>∃ H' : FH,Le H H'∧∃ (u1 : Value),v = .tuple #[u1,Bo r.2]∧Star H' w' (oF 73 (rCon 122) u1 r.1 :: R):=by
 unfold i_EncodeRule at hF
 refine C_enter Tryz.func30 rfl Tryz.ntmps30 rfl (sq (L_box (v:=.agg #[v0_0,v0_1]) (cs:=#[v0_0,v0_1]) rfl rfl rfl hst (fun g3 w4 hst=>aV S0 rfl (aB rfl (nq (W_seq ?_))))))
 obtain ⟨x10,hx10,hF⟩:=bind_some hF
 obtain ⟨b19,hb19,hF⟩:=bind_some hF
 obtain ⟨R20,hR20⟩:=exR fun f w_=>f 1 = I rule∧f 2 = Pt g3∧f 14 = Bo b19∧Star H w_ (box g3 26 #[v0_0,v0_1] :: R)
 refine W_join R20 ?_ ?_
 refine W_region (L_lda (cs:=[v0_0,v0_1]) rfl Tryz.isAgg26 Tryz.sizeOf26 rfl (At.sub0 (Blk.at (Star.blkAt 0 hst rfl)) 0 2) rfl ?_)
 obtain ⟨H21b,l22,s23,z24,k25⟩:=hst.borrow
 refine L_call rfl Tryz.call46 (ops1 rfl) (i_ModelValid_c (m:=m) s23 (RP.mono _ h0_0 l22) (RP.mono _ h0_1 l22) hx10) ?_
 rintro _ w26 ⟨rfl,hst⟩
 have hst:=k25 hst c0
 refine L_not_ rfl rfl (mB rfl (L_split (d:=9) (b:=(!x10)) rfl (fun hc27=>?_) (fun hc27=>?_)))
 rw [ite_t hc27] at hb19
 refine ps rfl (ps rfl (ps rfl (ps rfl (L_pick (v:=Bo b19) rfl rfl (congrArg Value.bool (so hb19)) (nn (rj hR20 ⟨rfl,rfl,rfl,hst⟩))))))
 rw [ite_f hc27] at hb19
 obtain ⟨x17,hx17,hb19⟩:=bind_some hb19
 refine L_lda (cs:=[v0_0,v0_1]) rfl Tryz.isAgg26 Tryz.sizeOf26 rfl (At.sub0 (Blk.at (Star.blkAt 0 hst rfl)) 0 2) rfl (mI rfl ?_)
 obtain ⟨H28b,l29,s30,z31,k32⟩:=hst.borrow
 refine L_call rfl Tryz.call77 (ops2 rfl rfl) (i_isRule_c (m:=m) (rule:=rule) s30 (RP.mono _ h0_0 l29) (RP.mono _ h0_1 l29) hx17) ?_
 rintro _ w33 ⟨rfl,hst⟩
 have hst:=k32 hst c0
 refine L_not_ rfl rfl (L_pick (v:=Bo b19) rfl rfl (congrArg Value.bool (so hb19)) (nn (rj hR20 ⟨rfl,rfl,rfl,hst⟩)))
 intro f w_ hR
 obtain ⟨sf1,sf2,sf14,hst⟩:=rk hR20 hR
 refine W_cond (b:=b19) sf14 (fun hc34=>?_) (fun hc34=>?_)
 have hF:=(ite_t hc34).symm.trans hF
 refine sq (aV S0 rfl (aB rfl (nn (W_ret (retG2 (v1:=S0) (v2:=Bo false) Tryz.results30 rfl rfl ?_)))))
 obtain rfl:=so hF
 have hst:=Star.addNil (R:=(OR.frz (rCon 122))) (e:=73) hst
 have hst:=Star.drop 1 hst rfl
 exact ⟨H,(Le.refl _),S0,rfl,hst⟩
 have hF:=(ite_f hc34).symm.trans hF
 refine W_skip (W_seq ?_)
 obtain ⟨x36,hx36,hF⟩:=bind_some hF
 obtain ⟨x41,hx41,hF⟩:=bind_some hF
 refine W_drawS 6 [isV (.agg #[v0_0,v0_1]),isV (Pq g3 1),isV (v0_1),isV (I rule),isEl (rRule 3 23) x36 0,exD (isData (rS 3 RP.int) x36.vars) fun u_1=>exD (isData (rS 3 RP.int) x36.coefs) fun u_2=>exD (isData (rS 23 (rS 3 RP.int)) x36.rows) fun u_4=>isV (.agg #[I x36.kind,u_1,u_2,I x36.bound,u_4])] [box g3 26 #[v0_0,v0_1]] [] (R) [([],[]),([],[]),([],[]),([],[]),([],[]),([],[])] (S:=[]) Tryz_mix (by kernel_rfl) rfl (by kernel_rfl) (amF_cons (mono_V _) (amF_cons (mono_V _) (amF_cons (mono_V _) (amF_cons (mono_V _) (amF_cons (mono_el _ _ _) (amF_cons (mono_exD (mono_data _ _) fun _=>mono_exD (mono_data _ _) fun _=>mono_exD (mono_data _ _) fun _=>mono_V _) amF_nil)))))) hst ?_ (fun f w_ H44 hS44 hE44 hT44 hst=>?_)
 refine opsS_cons (fun f w_ _ _ s _ _ hst=>L_lda (cs:=[v0_0,v0_1]) rfl Tryz.isAgg26 Tryz.sizeOf26 ((s 2 rfl).trans sf2) (At.sub0 (Blk.at (Star.blkAt 0 hst rfl)) 0 2) rfl (nO rfl rfl hst)) (opsS_cons (fun f w_ _ _ s _ _ hst=>fA 1 fa_26_1 ((s 2 rfl).trans sf2) rfl (nO rfl rfl hst)) (opsS_cons (fun f w_ _ _ _ _ p hst=>ldB 0 hst Tryz.isAgg24 (p 1 16 rfl rfl) rfl rfl (nO rfl rfl hst)) (opsS_cons (fun f w_ _ _ s _ _ hst=>mF ((s 1 rfl).trans sf1) rfl (nO rfl rfl hst)) (opsS_cons ?_ ?_))))
 intro f w_ H44 X44 hS44 hE44 hP44 hst
 refine L_ix (r:=(rRule 3 23)) rfl Tryz.underlying24 Tryz.sizeOf79 (hP44 2 17 rfl rfl) (RP.mono _ h0_1 hE44) (hP44 3 18 rfl rfl) hx36 (fun g49 o50 cs_g49 hrk_hat51 hat51=>?_)
 obtain ⟨u52_0,u52_1,u52_2,rfl,hu52_0,hu52_1,hu52_2⟩:=rRule_iff.1 hrk_hat51
 exact L_nil ⟨rfl,_,_,rfl,Le.refl _,fun _ _=>⟨_,_,_,rfl,hrk_hat51,hat51⟩,hst⟩
 refine opsS_cons ?_ ?_
 intro f w_ H44 X44 hS44 hE44 hP44 hst
 obtain ⟨g53,o53,cs53,hv53,hrk_hat53,hat53⟩:=(hP44 4 19 rfl rfl)
 obtain ⟨u54_0,u54_1,u54_2,rfl,hu54_0,hu54_1,hu54_2⟩:=rRule_iff.1 hrk_hat53
 refine L_lda (cs:=[I x36.kind,u54_0,u54_1,I x36.bound,u54_2]) rfl Tryz.isAgg79 Tryz.sizeOf79 hv53 (At.sub (AtH.at hat53 hst.sub) 0 5) rfl (L_nil ⟨rfl,_,_,rfl,Le.refl _,fun _ _=>⟨_,hu54_0,_,hu54_1,_,hu54_2,rfl⟩,hst⟩)
 exact opsS_nil
 obtain ⟨u55_1,hu55_1,u55_2,hu55_2,u55_4,hu55_4,hv55⟩:=(hT44 5 20 rfl rfl)
 refine L_call rfl Tryz.call50 (ops2 (hT44 0 15 rfl rfl) hv55) (i_Model_encodeRule_c (m:=m) (r_:=x36) hst (RP.mono _ h0_0 hE44) (RP.mono _ h0_1 hE44) hu55_1 hu55_2 hu55_4 hx41) ?_
 rintro r56_0 w56 ⟨H56,l56,_,rfl,hst⟩
 refine aV r56_0 rfl (aB rfl (nn (W_ret (retG2 (v1:=r56_0) (v2:=Bo true) Tryz.results30 rfl rfl ?_))))
 obtain rfl:=so hF
 have hst:=Star.drop 1 hst rfl
 exact ⟨H56,(Le.trans hE44 l56),r56_0,rfl,hst⟩
theorem s_EncodeRule_c {fu : Nat} {m : Model} {rule : Int} {v0_0 : Value} {v0_1 : Value} {H : FH} {w : World} (hst : Star H w []) (h0_0 : (rS 3 RP.int).rel H [v0_0] m.sizes) (h0_1 : (rS 79 (rRule 3 23)).rel H [v0_1] m.rules) {r : (List Con) × Bool} (hF : s_EncodeRule fu m rule = some r) :
 C Tryz.prog 31 #[.agg #[v0_0,v0_1],I rule] w fun v w'=>∃ (u1 : Value),v = .tuple #[u1,Bo r.2]∧Star H w' [oS 73 (oCon 122) u1 r.1]:=by
 unfold s_EncodeRule at hF
 refine C_enter Tryz.func31 rfl Tryz.ntmps31 rfl (sq (L_box (v:=.agg #[v0_0,v0_1]) (cs:=#[v0_0,v0_1]) rfl rfl rfl hst (fun g3 w4 hst=>aV S0 rfl (aB rfl (nq (W_seq ?_))))))
 obtain ⟨x10,hx10,hF⟩:=bind_some hF
 obtain ⟨R12,hR12⟩:=exR fun f w_=>f 1 = I rule∧f 2 = Pt g3∧f 19 = Bo (((!x10) || (decide (rule < 0))) || (decide (rule ≥ (m.rules.length : Int))))∧Star H w_ ([box g3 26 #[v0_0,v0_1]])
 refine W_join R12 ?_ ?_
 refine W_region (L_lda (cs:=[v0_0,v0_1]) rfl Tryz.isAgg26 Tryz.sizeOf26 rfl (At.sub0 (Blk.at (Star.blkAt 0 hst rfl)) 0 2) rfl ?_)
 obtain ⟨H13b,l14,s15,z16,k17⟩:=hst.borrow
 refine L_call rfl Tryz.call51 (ops1 rfl) (s_ModelValid_c (m:=m) s15 (RP.mono _ h0_0 l14) (RP.mono _ h0_1 l14) hx10) ?_
 rintro _ w18 ⟨rfl,hst⟩
 have hst:=k17 hst c0
 refine L_not_ rfl rfl (mB rfl (L_split (d:=9) (b:=(!x10)) rfl (fun hc19=>?_) (fun hc19=>?_)))
 refine ps rfl (ps rfl (L_pick (v:=Bo ((!x10) || (decide (rule < 0)))) rfl rfl (or_t hc19) (mB rfl (L_split (d:=13) (b:=((!x10) || (decide (rule < 0)))) rfl (fun hc20=>?_) (fun hc20=>?_)))))
 refine ps rfl (ps rfl (ps rfl (ps rfl (ps rfl (L_pick (v:=Bo (((!x10) || (decide (rule < 0))) || (decide (rule ≥ (m.rules.length : Int))))) rfl rfl (or_t hc20) (nn (rj hR12 ⟨rfl,rfl,rfl,hst⟩)))))))
 refine mI rfl (fA 1 fa_26_1 rfl rfl (ldB 0 hst Tryz.isAgg24 rfl rfl rfl (L_len rfl Tryz.underlying24 rfl (slice_len h0_1) (L_geq rfl rfl rfl (L_pick (v:=Bo (((!x10) || (decide (rule < 0))) || (decide (rule ≥ (m.rules.length : Int))))) rfl rfl (or_f hc20 rfl) (nn (rj hR12 ⟨rfl,rfl,rfl,hst⟩)))))))
 refine mI rfl (L_lss rfl rfl rfl (L_pick (v:=Bo ((!x10) || (decide (rule < 0)))) rfl rfl (or_f hc19 rfl) (mB rfl (L_split (d:=13) (b:=((!x10) || (decide (rule < 0)))) rfl (fun hc21=>?_) (fun hc21=>?_)))))
 refine ps rfl (ps rfl (ps rfl (ps rfl (ps rfl (L_pick (v:=Bo (((!x10) || (decide (rule < 0))) || (decide (rule ≥ (m.rules.length : Int))))) rfl rfl (or_t hc21) (nn (rj hR12 ⟨rfl,rfl,rfl,hst⟩)))))))
 refine mI rfl (fA 1 fa_26_1 rfl rfl (ldB 0 hst Tryz.isAgg24 rfl rfl rfl (L_len rfl Tryz.underlying24 rfl (slice_len h0_1) (L_geq rfl rfl rfl (L_pick (v:=Bo (((!x10) || (decide (rule < 0))) || (decide (rule ≥ (m.rules.length : Int))))) rfl rfl (or_f hc21 rfl) (nn (rj hR12 ⟨rfl,rfl,rfl,hst⟩)))))))
 intro f w_ hR
 obtain ⟨sf1,sf2,sf19,hst⟩:=rk hR12 hR
 refine W_cond (b:=(((!x10) || (decide (rule < 0))) || (decide (rule ≥ (m.rules.length : Int))))) sf19 (fun hc22=>?_) (fun hc22=>?_)
 have hF:=(ite_t hc22).symm.trans hF
 refine sq (L_bs rfl parts0 (bs_28_0  ) hst (fun g26 w27 hst=>?_))
 have hst:=Star.mkRow (R:=(OR.frz (rCon 122))) [] [] 0 hst rfl rfl rfl (by decide)
 refine aV (Sl g26 0 0) rfl (aB rfl (nn (W_ret (retG2 (v1:=(Sl g26 0 0)) (v2:=Bo false) Tryz.results31 rfl rfl ?_))))
 obtain rfl:=so hF
 have hst:=Star.recast (R:=(OR.frz (rCon 122))) (R':=(oCon 122)) rfl hst
 exact ⟨(Sl g26 0 0),rfl,(Star.keepN 1 hst)⟩
 have hF:=(ite_f hc22).symm.trans hF
 refine W_skip (W_seq ?_)
 obtain ⟨x29,hx29,hF⟩:=bind_some hF
 obtain ⟨x39,hx39,hF⟩:=bind_some hF
 refine W_drawS 6 [isV (.agg #[v0_0,v0_1]),isV (Pq g3 1),isV (v0_1),isV (I rule),isEl (rRule 3 23) x29 0,exD (isData (rS 3 RP.int) x29.vars) fun u_1=>exD (isData (rS 3 RP.int) x29.coefs) fun u_2=>exD (isData (rS 23 (rS 3 RP.int)) x29.rows) fun u_4=>isV (.agg #[I x29.kind,u_1,u_2,I x29.bound,u_4])] [box g3 26 #[v0_0,v0_1]] [] ([]) [([],[]),([],[]),([],[]),([],[]),([],[]),([],[])] (S:=[]) Tryz_mix (by kernel_rfl) rfl (by kernel_rfl) (amF_cons (mono_V _) (amF_cons (mono_V _) (amF_cons (mono_V _) (amF_cons (mono_V _) (amF_cons (mono_el _ _ _) (amF_cons (mono_exD (mono_data _ _) fun _=>mono_exD (mono_data _ _) fun _=>mono_exD (mono_data _ _) fun _=>mono_V _) amF_nil)))))) hst ?_ (fun f w_ H42 hS42 hE42 hT42 hst=>?_)
 refine opsS_cons (fun f w_ _ _ s _ _ hst=>L_lda (cs:=[v0_0,v0_1]) rfl Tryz.isAgg26 Tryz.sizeOf26 ((s 2 rfl).trans sf2) (At.sub0 (Blk.at (Star.blkAt 0 hst rfl)) 0 2) rfl (nO rfl rfl hst)) (opsS_cons (fun f w_ _ _ s _ _ hst=>fA 1 fa_26_1 ((s 2 rfl).trans sf2) rfl (nO rfl rfl hst)) (opsS_cons (fun f w_ _ _ _ _ p hst=>ldB 0 hst Tryz.isAgg24 (p 1 22 rfl rfl) rfl rfl (nO rfl rfl hst)) (opsS_cons (fun f w_ _ _ s _ _ hst=>mF ((s 1 rfl).trans sf1) rfl (nO rfl rfl hst)) (opsS_cons ?_ ?_))))
 intro f w_ H42 X42 hS42 hE42 hP42 hst
 refine L_ix (r:=(rRule 3 23)) rfl Tryz.underlying24 Tryz.sizeOf79 (hP42 2 23 rfl rfl) (RP.mono _ h0_1 hE42) (hP42 3 24 rfl rfl) hx29 (fun g47 o48 cs_g47 hrk_hat49 hat49=>?_)
 obtain ⟨u50_0,u50_1,u50_2,rfl,hu50_0,hu50_1,hu50_2⟩:=rRule_iff.1 hrk_hat49
 exact L_nil ⟨rfl,_,_,rfl,Le.refl _,fun _ _=>⟨_,_,_,rfl,hrk_hat49,hat49⟩,hst⟩
 refine opsS_cons ?_ ?_
 intro f w_ H42 X42 hS42 hE42 hP42 hst
 obtain ⟨g51,o51,cs51,hv51,hrk_hat51,hat51⟩:=(hP42 4 25 rfl rfl)
 obtain ⟨u52_0,u52_1,u52_2,rfl,hu52_0,hu52_1,hu52_2⟩:=rRule_iff.1 hrk_hat51
 refine L_lda (cs:=[I x29.kind,u52_0,u52_1,I x29.bound,u52_2]) rfl Tryz.isAgg79 Tryz.sizeOf79 hv51 (At.sub (AtH.at hat51 hst.sub) 0 5) rfl (L_nil ⟨rfl,_,_,rfl,Le.refl _,fun _ _=>⟨_,hu52_0,_,hu52_1,_,hu52_2,rfl⟩,hst⟩)
 exact opsS_nil
 obtain ⟨u53_1,hu53_1,u53_2,hu53_2,u53_4,hu53_4,hv53⟩:=(hT42 5 26 rfl rfl)
 obtain ⟨H54b,l55,s56,z57,k58⟩:=hst.borrow
 refine L_call rfl Tryz.call53 (ops2 (hT42 0 21 rfl rfl) hv53) (s_l7Rule_c (m:=m) (r_:=x29) s56 (RP.mono _ h0_0 (Le.trans hE42 l55)) (RP.mono _ h0_1 (Le.trans hE42 l55)) (RP.mono _ hu53_1 l55) (RP.mono _ hu53_2 l55) (RP.mono _ hu53_4 l55) hx39) ?_
 rintro r59_0 w59 ⟨_,rfl,hst⟩
 have hst:=k58 hst (co closed_oCon c0)
 refine aV r59_0 rfl (aB rfl (nn (W_ret (retG2 (v1:=r59_0) (v2:=Bo true) Tryz.results31 rfl rfl ?_))))
 obtain rfl:=so hF
 exact ⟨r59_0,rfl,(Star.down (Star.keepN 1 hst) hE42 (co closed_oCon c0))⟩
theorem i_RuleHolds_c {m : Model} {rule : Int} {cells : List Int} {v0_0 : Value} {v0_1 : Value} {v2 : Value} {H : FH} {w : World} (hst : Star H w []) (h0_0 : (rS 3 RP.int).rel H [v0_0] m.sizes) (h0_1 : (rS 79 (rRule 3 23)).rel H [v0_1] m.rules) (h2 : (rS 3 RP.int).rel H [v2] cells) {r : Bool} (hF : i_RuleHolds m rule cells = some r) :
 C Tryz.prog 32 #[.agg #[v0_0,v0_1],I rule,v2] w fun v w'=>v = Bo r∧Star H w' []:=by
 unfold i_RuleHolds at hF
 refine C_enter Tryz.func32 rfl Tryz.ntmps32 rfl (sq (L_box (v:=.agg #[v0_0,v0_1]) (cs:=#[v0_0,v0_1]) rfl rfl rfl hst (fun g3 w4 hst=>aB rfl (nq ?_))))
 obtain ⟨x10,hx10,hF⟩:=bind_some hF
 obtain ⟨b19,hb19,hF⟩:=bind_some hF
 obtain ⟨b32,hb32,hF⟩:=bind_some hF
 obtain ⟨R33,hR33⟩:=exR fun f w_=>f 6 = Bo b32∧Star H w_ ([])
 refine W_join R33 ?_ ?_
 refine W_region (L_lda (cs:=[v0_0,v0_1]) rfl Tryz.isAgg26 Tryz.sizeOf26 rfl (At.sub0 (Blk.at (Star.blkAt 0 hst rfl)) 0 2) rfl (mV v2 rfl ?_))
 obtain ⟨H34b,l35,s36,z37,k38⟩:=hst.borrow
 refine L_call rfl Tryz.call60 (ops2 rfl rfl) (i_CellsValid_c (m:=m) (cells:=cells) s36 (RP.mono _ h0_0 l35) (RP.mono _ h0_1 l35) (RP.mono _ h2 l35) hx10) ?_
 rintro _ w39 ⟨rfl,hst⟩
 have hst:=k38 hst c0
 refine mB rfl (L_split (d:=10) (b:=x10) rfl (fun hc40=>?_) (fun hc40=>?_))
 rw [ite_t hc40] at hb19
 obtain ⟨x17,hx17,hb19⟩:=bind_some hb19
 refine L_lda (cs:=[v0_0,v0_1]) rfl Tryz.isAgg26 Tryz.sizeOf26 rfl (At.sub0 (Blk.at (Star.blkAt 0 hst rfl)) 0 2) rfl (mI rfl ?_)
 obtain ⟨H41b,l42,s43,z44,k45⟩:=hst.borrow
 refine L_call rfl Tryz.call77 (ops2 rfl rfl) (i_isRule_c (m:=m) (rule:=rule) s43 (RP.mono _ h0_0 l42) (RP.mono _ h0_1 l42) hx17) ?_
 rintro _ w46 ⟨rfl,hst⟩
 have hst:=k45 hst c0
 refine L_pick (v:=Bo b19) rfl rfl (congrArg Value.bool (so hb19)) (mB rfl (L_split (d:=15) (b:=b19) rfl (fun hc47=>?_) (fun hc47=>?_)))
 rw [ite_t hc47] at hb32
 obtain ⟨x20,hx20,hb32⟩:=bind_some hb32
 obtain ⟨x30,hx30,hb32⟩:=bind_some hb32
 refine fA 1 fa_26_1 rfl rfl (ldB 0 hst Tryz.isAgg24 rfl rfl rfl (mI rfl (L_ix (r:=(rRule 3 23)) rfl Tryz.underlying24 Tryz.sizeOf79 rfl h0_1 rfl hx20 (fun g48 o49 cs_g48 hrk_hat50 hat50=>?_))))
 obtain ⟨u51_0,u51_1,u51_2,rfl,hu51_0,hu51_1,hu51_2⟩:=rRule_iff.1 hrk_hat50
 refine L_lda (cs:=[I x20.kind,u51_0,u51_1,I x20.bound,u51_2]) rfl Tryz.isAgg79 Tryz.sizeOf79 rfl (At.sub (AtH.at hat50 hst.sub) 0 5) rfl (mV v2 rfl ?_)
 obtain ⟨H52b,l53,s54,z55,k56⟩:=hst.borrow
 refine L_call rfl Tryz.call78 (ops2 rfl rfl) (i_Rule_at_c (r_:=x20) (cells:=cells) s54 (RP.mono _ hu51_0 l53) (RP.mono _ hu51_1 l53) (RP.mono _ hu51_2 l53) (RP.mono _ h2 l53) hx30) ?_
 rintro _ w57 ⟨rfl,hst⟩
 have hst:=k56 hst c0
 refine L_pick (v:=Bo b32) rfl rfl (congrArg Value.bool (so hb32)) (aB rfl (nn (rj hR33 ⟨rfl,(Star.keepN 0 hst)⟩)))
 rw [ite_f hc47] at hb32
 refine ps rfl (ps rfl (ps rfl (ps rfl (ps rfl (ps rfl (ps rfl (L_pick (v:=Bo b32) rfl rfl (congrArg Value.bool (so hb32)) (aB rfl (nn (rj hR33 ⟨rfl,(Star.keepN 0 hst)⟩))))))))))
 rw [ite_f hc40] at hb19
 refine ps rfl (ps rfl (ps rfl (L_pick (v:=Bo b19) rfl rfl (congrArg Value.bool (so hb19)) (mB rfl (L_split (d:=15) (b:=b19) rfl (fun hc58=>?_) (fun hc58=>?_))))))
 rw [ite_t hc58] at hb32
 obtain ⟨x20,hx20,hb32⟩:=bind_some hb32
 obtain ⟨x30,hx30,hb32⟩:=bind_some hb32
 refine fA 1 fa_26_1 rfl rfl (ldB 0 hst Tryz.isAgg24 rfl rfl rfl (mI rfl (L_ix (r:=(rRule 3 23)) rfl Tryz.underlying24 Tryz.sizeOf79 rfl h0_1 rfl hx20 (fun g59 o60 cs_g59 hrk_hat61 hat61=>?_))))
 obtain ⟨u62_0,u62_1,u62_2,rfl,hu62_0,hu62_1,hu62_2⟩:=rRule_iff.1 hrk_hat61
 refine L_lda (cs:=[I x20.kind,u62_0,u62_1,I x20.bound,u62_2]) rfl Tryz.isAgg79 Tryz.sizeOf79 rfl (At.sub (AtH.at hat61 hst.sub) 0 5) rfl (mV v2 rfl ?_)
 obtain ⟨H63b,l64,s65,z66,k67⟩:=hst.borrow
 refine L_call rfl Tryz.call78 (ops2 rfl rfl) (i_Rule_at_c (r_:=x20) (cells:=cells) s65 (RP.mono _ hu62_0 l64) (RP.mono _ hu62_1 l64) (RP.mono _ hu62_2 l64) (RP.mono _ h2 l64) hx30) ?_
 rintro _ w68 ⟨rfl,hst⟩
 have hst:=k67 hst c0
 refine L_pick (v:=Bo b32) rfl rfl (congrArg Value.bool (so hb32)) (aB rfl (nn (rj hR33 ⟨rfl,(Star.keepN 0 hst)⟩)))
 rw [ite_f hc58] at hb32
 refine ps rfl (ps rfl (ps rfl (ps rfl (ps rfl (ps rfl (ps rfl (L_pick (v:=Bo b32) rfl rfl (congrArg Value.bool (so hb32)) (aB rfl (nn (rj hR33 ⟨rfl,(Star.keepN 0 hst)⟩))))))))))
 intro f w_ hR
 obtain ⟨sf6,hst⟩:=rk hR33 hR
 refine W_ret (retG1 (v1:=Bo b32) Tryz.results32 sf6 ?_)
 obtain rfl:=so hF
 exact ⟨rfl,hst⟩
theorem l_FnEncodeRule_c {fu : Nat} {code : List UInt8} {v0 : Value} {H : FH} {w : World} (hst : Star H w []) (h0 : (rS 5 RP.u8).rel H [v0] code) {r : Bool} (hF : l_FnEncodeRule fu code = some r) :
 C Tryz.prog 6 #[v0] w fun v w'=>v = Bo r∧Star H w' []:=by
 unfold l_FnEncodeRule at hF
 refine C_enter Tryz.func6 rfl Tryz.ntmps6 rfl (sq (aB rfl (nq (sq (mV v0 rfl (L_len rfl Tryz.underlying22 rfl (slice_len h0) (L_gtr rfl rfl rfl (nn (W_cond (b:=decide ((code.length : Int) > 1048576)) rfl (fun hc1=>?_) (fun hc1=>?_))))))))))
 have hF:=(ite_t hc1).symm.trans hF
 refine sq (aB rfl (nn (W_ret (retG1 (v1:=Bo true) Tryz.results6 rfl ?_))))
 obtain rfl:=so hF
 exact ⟨rfl,hst⟩
 have hF:=(ite_f hc1).symm.trans hF
 refine W_skip (W_seq ?_)
 obtain ⟨hx2,hF⟩:=anyB_some hF
 refine W_region (mV v0 rfl (L_call rfl Tryz.call29 (ops1 rfl) (s_DrawRuleHolds_c (code:=code) hst h0 hx2) ?_))
 rintro _ w7 ⟨x2,gd7,H7,l7,r7_0,r7_1,r7_2,rfl,hr7_0,hr7_1,hr7_2,hst⟩
 have hF:=hF x2 gd7
 refine mV (.tuple #[.agg #[r7_0,r7_1],I x2.2.1,r7_2]) rfl (L_ex (v:=.agg #[r7_0,r7_1]) rfl rfl rfl (L_ex (v:=I x2.2.1) rfl rfl rfl (L_ex (v:=r7_2) rfl rfl rfl (L_al (cs:=#[S0,S0]) rfl Tryz.zeroValue26 rfl hst (fun g8 w9 hst=>L_staB (vs:=#[r7_0,r7_1]) (cs2:=#[r7_0,r7_1]) 0 rfl Tryz.sizeOf26 rfl rfl rfl (ones_cons (one_len (slice_len hr7_0)) (ones_cons (one_len (slice_len hr7_1)) ones_nil)) hst rfl (by show 0 + 2≤2; decide) rfl (fun w10 hst=>aI rfl (aV r7_2 rfl (nq ?_))))))))
 obtain ⟨x11,hx11,hF⟩:=bind_some hF
 refine W_region (L_lda (cs:=[r7_0,r7_1]) rfl Tryz.isAgg26 Tryz.sizeOf26 rfl (At.sub0 (Blk.at (Star.blkAt 0 hst rfl)) 0 2) rfl (mI rfl (L_call rfl Tryz.call30 (ops2 rfl rfl) (i_EncodeRule_c (m:=x2.1) (rule:=x2.2.1) hst hr7_0 hr7_1 hx11) ?_)))
 rintro _ w14 ⟨H14,l14,r14_0,rfl,hst⟩
 refine mV (.tuple #[r14_0,Bo x11.2]) rfl (L_ex (v:=r14_0) rfl rfl rfl (L_ex (v:=Bo x11.2) rfl rfl rfl (aV r14_0 rfl (aB rfl (nq ?_)))))
 obtain ⟨x21,hx21,hF⟩:=bind_some hF
 refine W_region (L_lda (cs:=[r7_0,r7_1]) rfl Tryz.isAgg26 Tryz.sizeOf26 rfl (At.sub0 (Blk.at (Star.blkAt 1 hst rfl)) 0 2) rfl (mI rfl ?_))
 obtain ⟨H24b,l25,s26,z27,k28⟩:=hst.borrow
 refine L_call rfl Tryz.call31 (ops2 rfl rfl) (s_EncodeRule_c (m:=x2.1) (rule:=x2.2.1) s26 (RP.mono _ hr7_0 (Le.trans l14 l25)) (RP.mono _ hr7_1 (Le.trans l14 l25)) hx21) ?_
 rintro _ w29 ⟨r29_0,rfl,hst⟩
 have hst:=k28 hst (co closed_oCon c0)
 refine mV (.tuple #[r29_0,Bo x21.2]) rfl (L_ex (v:=r29_0) rfl rfl rfl (L_ex (v:=Bo x21.2) rfl rfl rfl (aV r29_0 rfl (aB rfl (nq ?_)))))
 obtain ⟨x36,hx36,hF⟩:=bind_some hF
 refine W_region (L_lda (cs:=[r7_0,r7_1]) rfl Tryz.isAgg26 Tryz.sizeOf26 rfl (At.sub0 (Blk.at (Star.blkAt 2 hst rfl)) 0 2) rfl (mV r7_2 rfl ?_))
 obtain ⟨H39b,l40,s41,z42,k43⟩:=hst.borrow
 refine L_call rfl Tryz.call19 (ops2 rfl rfl) (i_EncodeCells_c (m:=x2.1) (cells:=x2.2.2) s41 (RP.mono _ hr7_0 (Le.trans l14 l40)) (RP.mono _ hr7_1 (Le.trans l14 l40)) (RP.mono _ hr7_2 (Le.trans l14 l40)) hx36) ?_
 rintro _ w44 ⟨r44_0,rfl,hst⟩
 have hst:=k43 hst (co closed_bool c0)
 refine mV (.tuple #[r44_0,Bo x36.2]) rfl (L_ex (v:=r44_0) rfl rfl rfl (L_ex (v:=Bo x36.2) rfl rfl rfl (aV r44_0 rfl (aB rfl (nq (W_seq ?_))))))
 obtain ⟨b55,hb55,hF⟩:=bind_some hF
 obtain ⟨R56,hR56⟩:=exR fun f w_=>f 3 = Pt g8∧f 4 = I x2.2.1∧f 5 = r7_2∧f 6 = r14_0∧f 7 = Bo x11.2∧f 8 = r29_0∧f 9 = Bo x21.2∧f 10 = r44_0∧f 55 = Bo ((b55 || (!x11.2)) || (!x36.2))∧Star H14 w_ ([oF 73 (rCon 122) r14_0 x11.1,oS 73 (oCon 122) r29_0 x21.1,oF 4 RP.bool r44_0 x36.1,box g8 26 #[r7_0,r7_1]])
 refine W_join R56 ?_ ?_
 refine W_region (mB rfl (mB rfl (L_bneq (b:=x11.2) (c:=x21.2) rfl Tryz.underlying4 rfl rfl (mB rfl (L_split (d:=42) (b:=(x11.2 != x21.2)) rfl (fun hc57=>?_) (fun hc57=>?_))))))
 rw [ite_t hc57] at hb55
 refine ps rfl (ps rfl (ps rfl (ps rfl (L_pick (v:=Bo b55) rfl rfl (congrArg Value.bool (so hb55)) (mB rfl (L_split (d:=48) (b:=b55) rfl (fun hc58=>?_) (fun hc58=>?_)))))))
 refine ps rfl (ps rfl (L_pick (v:=Bo (b55 || (!x11.2))) rfl rfl (or_t hc58) (mB rfl (L_split (d:=52) (b:=(b55 || (!x11.2))) rfl (fun hc59=>?_) (fun hc59=>?_)))))
 refine ps rfl (ps rfl (L_pick (v:=Bo ((b55 || (!x11.2)) || (!x36.2))) rfl rfl (or_t hc59) (nn ?_)))
 have hst:=hst.gets [3,1,2,3] rfl
 exact rj hR56 ⟨rfl,rfl,rfl,rfl,rfl,rfl,rfl,rfl,rfl,hst⟩
 refine mB rfl (L_not_ rfl rfl (L_pick (v:=Bo ((b55 || (!x11.2)) || (!x36.2))) rfl rfl (or_f hc59 rfl) (nn ?_)))
 have hst:=hst.gets [3,1,2,3] rfl
 exact rj hR56 ⟨rfl,rfl,rfl,rfl,rfl,rfl,rfl,rfl,rfl,hst⟩
 refine mB rfl (L_not_ rfl rfl (L_pick (v:=Bo (b55 || (!x11.2))) rfl rfl (or_f hc58 rfl) (mB rfl (L_split (d:=52) (b:=(b55 || (!x11.2))) rfl (fun hc60=>?_) (fun hc60=>?_)))))
 refine ps rfl (ps rfl (L_pick (v:=Bo ((b55 || (!x11.2)) || (!x36.2))) rfl rfl (or_t hc60) (nn ?_)))
 have hst:=hst.gets [3,1,2,3] rfl
 exact rj hR56 ⟨rfl,rfl,rfl,rfl,rfl,rfl,rfl,rfl,rfl,hst⟩
 refine mB rfl (L_not_ rfl rfl (L_pick (v:=Bo ((b55 || (!x11.2)) || (!x36.2))) rfl rfl (or_f hc60 rfl) (nn ?_)))
 have hst:=hst.gets [3,1,2,3] rfl
 exact rj hR56 ⟨rfl,rfl,rfl,rfl,rfl,rfl,rfl,rfl,rfl,hst⟩
 rw [ite_f hc57] at hb55
 obtain ⟨x53,hx53,hb55⟩:=bind_some hb55
 refine mV r14_0 rfl (mV r29_0 rfl ?_)
 obtain ⟨H61b,l62,s63,z64,k65⟩:=hst.borrow
 have hb66 : (rS 73 (rCon 122)).rel H61b [r14_0] x11.1:=fz_own 2 z64 rfl
 have hb67 : (rS 73 (rCon 122)).rel H61b [r29_0] x21.1:=fz_own 1 z64 rfl
 refine L_call rfl Tryz.call15 (ops2 rfl rfl) (l_cpProblem_c (a:=x11.1) (b:=x21.1) s63 hb66 hb67 hx53) ?_
 rintro _ w68 ⟨rfl,hst⟩
 have hst:=k65 hst c0
 refine L_not_ rfl rfl (L_pick (v:=Bo b55) rfl rfl (congrArg Value.bool (so hb55)) (mB rfl (L_split (d:=48) (b:=b55) rfl (fun hc69=>?_) (fun hc69=>?_))))
 refine ps rfl (ps rfl (L_pick (v:=Bo (b55 || (!x11.2))) rfl rfl (or_t hc69) (mB rfl (L_split (d:=52) (b:=(b55 || (!x11.2))) rfl (fun hc70=>?_) (fun hc70=>?_)))))
 refine ps rfl (ps rfl (L_pick (v:=Bo ((b55 || (!x11.2)) || (!x36.2))) rfl rfl (or_t hc70) (nn ?_)))
 have hst:=hst.gets [3,1,2,3] rfl
 exact rj hR56 ⟨rfl,rfl,rfl,rfl,rfl,rfl,rfl,rfl,rfl,hst⟩
 refine mB rfl (L_not_ rfl rfl (L_pick (v:=Bo ((b55 || (!x11.2)) || (!x36.2))) rfl rfl (or_f hc70 rfl) (nn ?_)))
 have hst:=hst.gets [3,1,2,3] rfl
 exact rj hR56 ⟨rfl,rfl,rfl,rfl,rfl,rfl,rfl,rfl,rfl,hst⟩
 refine mB rfl (L_not_ rfl rfl (L_pick (v:=Bo (b55 || (!x11.2))) rfl rfl (or_f hc69 rfl) (mB rfl (L_split (d:=52) (b:=(b55 || (!x11.2))) rfl (fun hc71=>?_) (fun hc71=>?_)))))
 refine ps rfl (ps rfl (L_pick (v:=Bo ((b55 || (!x11.2)) || (!x36.2))) rfl rfl (or_t hc71) (nn ?_)))
 have hst:=hst.gets [3,1,2,3] rfl
 exact rj hR56 ⟨rfl,rfl,rfl,rfl,rfl,rfl,rfl,rfl,rfl,hst⟩
 refine mB rfl (L_not_ rfl rfl (L_pick (v:=Bo ((b55 || (!x11.2)) || (!x36.2))) rfl rfl (or_f hc71 rfl) (nn ?_)))
 have hst:=hst.gets [3,1,2,3] rfl
 exact rj hR56 ⟨rfl,rfl,rfl,rfl,rfl,rfl,rfl,rfl,rfl,hst⟩
 intro f w_ hR
 obtain ⟨sf3,sf4,sf5,sf6,sf7,sf8,sf9,sf10,sf55,hst⟩:=rk hR56 hR
 refine W_cond (b:=((b55 || (!x11.2)) || (!x36.2))) sf55 (fun hc72=>?_) (fun hc72=>?_)
 have hF:=(ite_t hc72).symm.trans hF
 refine W_seq ?_
 obtain ⟨b82,hb82,hF⟩:=bind_some hF
 obtain ⟨R83,hR83⟩:=exR fun f w_=>f 2 = Bo b82∧Star H14 w_ ([])
 refine W_join R83 ?_ ?_
 refine W_region (mF sf7 rfl (mF sf9 rfl (L_beql (b:=x11.2) (c:=x21.2) rfl Tryz.underlying4 rfl rfl (mB rfl (L_split (d:=59) (b:=(x11.2 == x21.2)) rfl (fun hc84=>?_) (fun hc84=>?_))))))
 rw [ite_t hc84] at hb82
 obtain ⟨x80,hx80,hb82⟩:=bind_some hb82
 refine mF sf6 rfl (mF sf8 rfl ?_)
 obtain ⟨H85b,l86,s87,z88,k89⟩:=hst.borrow
 have hb90 : (rS 73 (rCon 122)).rel H85b [r14_0] x11.1:=fz_own 0 z88 rfl
 have hb91 : (rS 73 (rCon 122)).rel H85b [r29_0] x21.1:=fz_own 1 z88 rfl
 refine L_call rfl Tryz.call15 (ops2 rfl rfl) (l_cpProblem_c (a:=x11.1) (b:=x21.1) s87 hb90 hb91 hx80) ?_
 rintro _ w92 ⟨rfl,hst⟩
 have hst:=k89 hst c0
 refine L_pick (v:=Bo b82) rfl rfl (congrArg Value.bool (so hb82)) (aB rfl (nn (rj hR83 ⟨rfl,(Star.keepN 0 hst)⟩)))
 rw [ite_f hc84] at hb82
 refine ps rfl (ps rfl (ps rfl (L_pick (v:=Bo b82) rfl rfl (congrArg Value.bool (so hb82)) (aB rfl (nn (rj hR83 ⟨rfl,(Star.keepN 0 hst)⟩))))))
 intro f w_ hR
 obtain ⟨sf2,hst⟩:=rk hR83 hR
 refine W_ret (retG1 (v1:=Bo b82) Tryz.results6 sf2 ?_)
 obtain rfl:=so hF
 exact ⟨rfl,(Star.down hst (Le.trans l7 l14) c0)⟩
 have hF:=(ite_f hc72).symm.trans hF
 refine W_skip (W_seq ?_)
 obtain ⟨x100,hx100,hF⟩:=bind_some hF
 obtain ⟨x107,hx107,hF⟩:=bind_some hF
 have hst:=Star.drop 1 hst rfl
 refine W_drawS 6 [isV (r14_0),isV (r44_0),isV (Bo x100),isV (.agg #[r7_0,r7_1]),isV (I x2.2.1),isV (r7_2)] [oF 73 (rCon 122) r14_0 x11.1,oF 4 RP.bool r44_0 x36.1,box g8 26 #[r7_0,r7_1]] [] ([]) [([],[]),([],[]),([],[]),([],[]),([],[]),([],[])] (S:=[]) Tryz_mix (by kernel_rfl) rfl (by kernel_rfl) (amF_cons (mono_V _) (amF_cons (mono_V _) (amF_cons (mono_V _) (amF_cons (mono_V _) (amF_cons (mono_V _) (amF_cons (mono_V _) amF_nil)))))) hst ?_ (fun f w_ H109 hS109 hE109 hT109 hst=>?_)
 refine opsS_cons (fun f w_ _ _ s _ _ hst=>mF ((s 6 rfl).trans sf6) rfl (nO rfl rfl hst)) (opsS_cons (fun f w_ _ _ s _ _ hst=>mF ((s 10 rfl).trans sf10) rfl (nO rfl rfl hst)) (opsS_cons ?_ ?_))
 intro f w_ H109 X109 hS109 hE109 hP109 hst
 obtain ⟨H118b,l119,s120,z121,k122⟩:=hst.borrow
 have hb123 : (rS 73 (rCon 122)).rel H118b [r14_0] x11.1:=fz_own 0 z121 rfl
 have hb124 : (rS 4 RP.bool).rel H118b [r44_0] x36.1:=fz_own 1 z121 rfl
 refine L_call rfl Tryz.call28 (ops2 (hP109 0 64 rfl rfl) (hP109 1 65 rfl rfl)) (i_SatisfiesAll_c (list:=x11.1) (values:=x36.1) s120 hb123 hb124 hx100) ?_
 rintro _ w125 ⟨rfl,hst⟩
 have hst:=k122 hst c0
 exact L_nil ⟨rfl,_,_,rfl,Le.refl _,fun _ _=>rfl,hst⟩
 refine opsS_cons (fun f w_ _ _ s _ _ hst=>L_lda (cs:=[r7_0,r7_1]) rfl Tryz.isAgg26 Tryz.sizeOf26 ((s 3 rfl).trans sf3) (At.sub0 (Blk.at (Star.blkAt 2 hst rfl)) 0 2) rfl (nO rfl rfl hst)) (opsS_cons (fun f w_ _ _ s _ _ hst=>mF ((s 4 rfl).trans sf4) rfl (nO rfl rfl hst)) (opsS_cons (fun f w_ _ _ s _ _ hst=>mF ((s 5 rfl).trans sf5) rfl (nO rfl rfl hst)) (opsS_nil)))
 obtain ⟨H126b,l127,s128,z129,k130⟩:=hst.borrow
 refine L_call rfl Tryz.call32 (ops3 (hT109 3 67 rfl rfl) (hT109 4 68 rfl rfl) (hT109 5 69 rfl rfl)) (i_RuleHolds_c (m:=x2.1) (rule:=x2.2.1) (cells:=x2.2.2) s128 (RP.mono _ hr7_0 (Le.trans (Le.trans l14 hE109) l127)) (RP.mono _ hr7_1 (Le.trans (Le.trans l14 hE109) l127)) (RP.mono _ hr7_2 (Le.trans (Le.trans l14 hE109) l127)) hx107) ?_
 rintro _ w131 ⟨rfl,hst⟩
 have hst:=k130 hst c0
 refine L_beql (b:=x100) (c:=x107) rfl Tryz.underlying4 (hT109 2 66 rfl rfl) rfl (aB rfl (nn (W_ret (retG1 (v1:=Bo (x100 == x107)) Tryz.results6 rfl ?_))))
 obtain rfl:=so hF
 exact ⟨rfl,(Star.down (Star.keepN 0 hst) (Le.trans (Le.trans l7 l14) hE109) c0)⟩
end Go.Proofs.YtbjllamkfmejlaaGreat
